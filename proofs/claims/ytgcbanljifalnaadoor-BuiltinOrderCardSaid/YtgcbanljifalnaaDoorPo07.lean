import Derived.Test.YtgcbanljifalnaaDoorPo06
import Derived.Defers
import Derived.Recover
import Derived.WalkSmall
set_option linter.unusedVariables false
set_option maxRecDepth 20000
set_option linter.unusedSimpArgs false
/- The law of layer 3 wakes. No condition. -/
namespace Go.Proofs.YtgcbanljifalnaaDoor
open Go.RowKit

/-- What is known along a walk: slices of terms, one substitution. -/
structure Ku (w : World) (L : List (List Tm × Value)) (l : Bs) (p b : Nat) (W : World) : Prop where
  ks : Ks w L W
  sub : Sub W (fun _ => True) l p b
  pw : w.heap.size ≤ p
  bw : w.heap.size ≤ b
section
variable {w W W' : World} {L : List (List Tm × Value)} {l l' : Bs} {p b : Nat}
theorem Ku.then (h : Ku w L l p b W) (hb : Below W.heap.size W W') : Ku w L l p b W' := ⟨h.ks.then hb, h.sub.below hb, h.pw, h.bw⟩
theorem Ku.alloc (h : Ku w L l p b W) (O : Obj) : Ku w L l p b (W.alloc O) := h.then ((Below.refl _ W).alloc (Nat.le_refl _) O)
theorem Ku.drew (h : Ku w L l p b W) : Ku w L l p b W.drew := h.then (Below.refl _ W).drew
theorem Ku.below (h : Ku w L l p b W) : Below w.heap.size w W := h.ks.below
theorem Ku.push {ok : Nat → Prop} {x : List Tm} {v : Value} (h : Ku w L l p b W) (hs : Kd.tm.S W ok x v) : Ku w ((x, v) :: L) l p b W := ⟨h.ks.push hs, h.sub, h.pw, h.bw⟩
theorem Ku.get (h : Ku w L l p b W) {x : List Tm} {v : Value} (hm : (x, v) ∈ L) : Kd.tm.S W (fun _ => True) x v := h.ks.all _ hm
theorem Ku.bound {ok : Nat → Prop} (h : Ku w L l p b W) (hs : Sub W' ok l' p b) (hg : W.grownBy W' (some b)) : Ku w L l' p b W' :=
  ⟨⟨below_of_grown (gfresh (r := none) (gnone h.ks.below) hg h.bw), fun x hx => (Kd.S.grown hg (fun k hk e => hk.2 (by injection e)) (Kd.S.apart h.sub.not_cells (h.ks.all x hx))).mono (fun _ _ => trivial)⟩, hs.mono (fun _ _ => trivial), h.pw, h.bw⟩
theorem Ku.F (s : ByteArray) (t : Tm) (x : List Tm) {v : Value} (h : Ku w ((t :: x, v) :: L) l p b W) (hz : x.length ≤ 999999) :
    Calls Tryd.prog 19 #[.string s, v] W fun e w' => ∃ A c, e = .returned (.agg #[.int .u8 4, .string s, .int .i64 0, .slice A (t :: x).length c]) ∧ Ku w ((t :: x, .slice A (t :: x).length c) :: L) l p b w' ∧ Below W.heap.size W w' :=
  (F_c s (t :: x) v W _ _ (h.get (List.mem_cons_self ..)).S2 (by simp; omega)).mono (fun e w' ⟨⟨r, he, hr⟩, hb⟩ => by
    rw [mkF_cons] at hr
    obtain ⟨u, rfl, hS⟩ := hr
    obtain ⟨A, c, rfl⟩ := hS.form
    have h2 : Ku w L l p b W := ⟨⟨h.ks.below, fun q hq => h.ks.all q (List.mem_cons_of_mem _ hq)⟩, h.sub, h.pw, h.bw⟩
    exact ⟨A, c, he, (h2.then hb).push hS, hb⟩)
/-- Lists that are written out. -/
theorem Ku.one (h : Ku w L l p b W) (t : Tm) (u : Value) (hu : Kd.tm.S W (fun _ => True) t.l u) : Ku w (([t], .slice (some ⟨W.heap.size, 0, none⟩) 1 1) :: L) l p b (W.alloc (.cells #[.int .u8 t.k, .string t.s, .int .i64 t.n, u] 24)) :=
  ⟨h.ks.one t u hu, (h.alloc _).sub, h.pw, h.bw⟩
theorem Ku.two (h : Ku w L l p b W) (t t' : Tm) (u u' : Value) (hu : Kd.tm.S W (fun _ => True) t.l u) (hu' : Kd.tm.S W (fun _ => True) t'.l u') :
    Ku w (([t, t'], .slice (some ⟨W.heap.size, 0, none⟩) 2 2) :: L) l p b (W.alloc (.cells #[.int .u8 t.k, .string t.s, .int .i64 t.n, u, .int .u8 t'.k, .string t'.s, .int .i64 t'.n, u'] 24)) :=
  ⟨h.ks.two t t' u u' hu hu', (h.alloc _).sub, h.pw, h.bw⟩
end
namespace K3
def A (c : UInt8) : Tm := ⟨3, ⟨#[c]⟩, 0, []⟩
def tf : Tm := ⟨4, ⟨#[102]⟩, 0, [kV 1]⟩
def tfa : Tm := ⟨4, ⟨#[102]⟩, 0, [A 97]⟩
def tg : Tm := ⟨4, ⟨#[103]⟩, 0, [kV 0, kV 2]⟩
def th : Tm := ⟨4, ⟨#[104]⟩, 0, [kV 2]⟩
def l1 : Bs := [(0, tf)]
def l2 : Bs := [(0, tf), (1, A 97)]
theorem f1 : Fn [] 3 tf := by simp [Fn, tf, kV, wlk, wlkN]
theorem f2 (l : Bs) (c : UInt8) : Fn l 3 (A c) := by
  have : wlk l (A c) = A c := wlk_stop (by simp [nxt, A])
  simp only [Fn, this]
  simp [A]
theorem f3 : Fn l2 4 tg := by simp [Fn, tg, l2, kV, A, tf, wlk, wlkN, nxt, ofB]
theorem f4 : Fn l2 4 th := by simp [Fn, th, l2, kV, A, tf, wlk, wlkN, nxt, ofB]
theorem b1 : bindE [] 0 (vis [] 3 tf) = 0 := by kernel_rfl
theorem b2 : bindE l1 1 (vis l1 3 (A 97)) = 0 := by kernel_rfl
theorem b3 : bindE l2 0 (vis l2 3 (A 98)) = 1 := by kernel_rfl
theorem b4 : bindE l2 2 (vis l2 4 th) = 1 := by kernel_rfl
theorem n1 : bnd [] 0 tf (vis [] 3 tf) = l1 := bindE_eq b1 _
theorem n2 : bnd l1 1 (A 97) (vis l1 3 (A 97)) = l2 := bindE_eq b2 _
theorem n3 : bnd l2 0 (A 98) (vis l2 3 (A 98)) = l2 := bindE_ne (by rw [b3]; decide) _
theorem n4 : bnd l2 2 th (vis l2 4 th) = l2 := bindE_ne (by rw [b4]; decide) _
theorem a1 : appE (vis l2 4 tg) (app l2 4 tg) = (⟨4, ⟨#[103]⟩, 0, [tfa, kV 2]⟩, 0) := by kernel_rfl
theorem w1 : wlk l2 (kV 0) = ⟨4, ⟨#[102]⟩, 0, [kV 1]⟩ := by kernel_rfl
end K3
/-- Two boxes, and what is known. -/
structure K4 (w : World) (L : List (List Tm × Value)) (p b B1 B2 : Nat) (A8 : Option Addr) (c8 : Nat) (A9 : Option Addr) (c9 : Nat) (W : World) : Prop where
  ku : Ku w L K3.l2 p b W
  x1 : W.heap[B1]? = some (.cells #[.int .u8 4, .string ⟨#[103]⟩, .int .i64 0, .slice A8 2 c8] 24 (0, 0))
  x2 : W.heap[B2]? = some (.cells #[.int .u8 4, .string ⟨#[102]⟩, .int .i64 0, .slice A9 1 c9] 24 (0, 0))
section
variable {w W W' : World} {L L' : List (List Tm × Value)} {p b B1 B2 : Nat} {A8 A9 : Option Addr} {c8 c9 : Nat}
theorem K4.move (h : K4 w L p b B1 B2 A8 c8 A9 c9 W) (hk : Ku w L' K3.l2 p b W') (hg : W.grownBy W' (some b)) : K4 w L' p b B1 B2 A8 c8 A9 c9 W' :=
  ⟨hk, (hg.block _ (Array.getElem?_eq_some_iff.1 h.x1).1 (fun e => by injection e with e; exact h.ku.sub.not_cells _ _ _ (e ▸ h.x1))).trans h.x1, (hg.block _ (Array.getElem?_eq_some_iff.1 h.x2).1 (fun e => by injection e with e; exact h.ku.sub.not_cells _ _ _ (e ▸ h.x2))).trans h.x2⟩
theorem K4.then (h : K4 w L p b B1 B2 A8 c8 A9 c9 W) (hb : Below W.heap.size W W') : K4 w L p b B1 B2 A8 c8 A9 c9 W' := h.move (h.ku.then hb) (gnone hb)
theorem K4.to (h : K4 w L p b B1 B2 A8 c8 A9 c9 W) (hk : Ku w L' K3.l2 p b W') (hb : Below W.heap.size W W') : K4 w L' p b B1 B2 A8 c8 A9 c9 W' := h.move hk (gnone hb)
theorem K4.bind {ok : Nat → Prop} (h : K4 w L p b B1 B2 A8 c8 A9 c9 W) (hs : Sub W' ok K3.l2 p b) (hg : W.grownBy W' (some b)) : K4 w L p b B1 B2 A8 c8 A9 c9 W' := h.move (h.ku.bound hs hg) hg
theorem K4.cells (h : K4 w L p b B1 B2 A8 c8 A9 c9 W) : W.cell? ⟨B1, 0, none⟩ = some (.int .u8 4) ∧ W.cell? ⟨B1, 1, none⟩ = some (.string ⟨#[103]⟩) ∧ W.cell? ⟨B1, 2, none⟩ = some (.int .i64 0) ∧ W.cell? ⟨B1, 3, none⟩ = some (.slice A8 2 c8) ∧ W.cell? ⟨B2, 1, none⟩ = some (.string ⟨#[102]⟩) :=
  ⟨(box4 h.x1).1, (box4 h.x1).2.1, (box4 h.x1).2.2.1, (box4 h.x1).2.2.2.1, (box4 h.x2).2.1⟩
end
end Go.Proofs.YtgcbanljifalnaaDoor
/- What is known along a law's walk: boxes, lists, substitutions, and how they stay. No condition. -/
namespace Go.Proofs.YtgcbanljifalnaaDoor
open Go.RowKit

/-- A step that writes into a map alone, and makes memory. -/
structure Ug (b : Nat) (W W' : World) : Prop where
  g : W.grownBy W' (some b)
  n : ∀ c t f, W.heap[b]? ≠ some (.cells c t f)
theorem Kd.S.apart' {α : Type} {d : Kd α} {w : World} {ok : Nat → Prop} {m : Nat} {xs : List α} {v : Value} (hK : ∀ x cs, d.K w ok x cs → d.K w (fun b => ok b ∧ b ≠ m) x cs) (hm : ∀ c t f, w.heap[m]? ≠ some (.cells c t f)) (h : d.S w ok xs v) : d.S w (fun b => ok b ∧ b ≠ m) xs v := by
  obtain ⟨A, c, e, h1, h2, h3⟩ := h
  refine ⟨A, c, e, h1, h2, ?_⟩
  by_cases hx : xs = []
  · refine .inl ⟨hx, ?_⟩
    rcases h3 with h3 | ⟨b, o, ha, _⟩
    · exact h3.2
    · intro hn; rw [ha] at hn; cases hn
  · obtain ⟨b, o, ha, hb, ht⟩ := h3.resolve_left (fun h => hx h.1)
    refine .inr ⟨b, o, ha, ⟨hb, fun e => ?_⟩, fun j x hj => ?_⟩
    · subst e
      cases xs with
      | nil => exact hx rfl
      | cons x xs =>
        obtain ⟨cs, hk, hc⟩ := ht 0 x rfl
        have hl := d.len hk
        have hp := d.pos
        cases cs with
        | nil => simp at hl; omega
        | cons c cs =>
          have h0 := hc 0 c rfl
          unfold World.cell? at h0
          simp only at h0
          cases h0
    · obtain ⟨cs, hk, hc⟩ := ht j x hj
      exact ⟨cs, hK _ _ hk, hc⟩
section
variable {W W' : World} {b : Nat}
theorem tmK_apart {ok : Nat → Prop} {m : Nat} (hm : ∀ c t f, W.heap[m]? ≠ some (.cells c t f)) (x : Tm) (cs : List Value) (h : Kd.tm.K W ok x cs) : Kd.tm.K W (fun b => ok b ∧ b ≠ m) x cs := TmK.apart hm x cs h
theorem tms_bind {x : List Tm} {v : Value} (hu : Ug b W W') (h : Kd.tm.S W (fun _ => True) x v) : Kd.tm.S W' (fun _ => True) x v :=
  (Kd.S.grown hu.g (fun k hk e => hk.2 (by injection e)) (Kd.S.apart' (tmK_apart hu.n) hu.n h)).mono (fun _ _ => trivial)
/-- A term in a box. -/
structure Bt (W : World) (B : Nat) (t : Tm) (u : Value) : Prop where
  box : W.heap[B]? = some (.cells #[.int .u8 t.k, .string t.s, .int .i64 t.n, u] 24 (0, 0))
  args : Kd.tm.S W (fun _ => True) t.l u
theorem Bt.below {B : Nat} {t : Tm} {u : Value} (h : Bt W B t u) (hb : Below W.heap.size W W') : Bt W' B t u := ⟨block_below hb (Array.getElem?_eq_some_iff.1 h.box).1 h.box, h.args.below hb⟩
theorem Bt.bind {B : Nat} {t : Tm} {u : Value} (h : Bt W B t u) (hu : Ug b W W') : Bt W' B t u :=
  ⟨(hu.g.block _ (Array.getElem?_eq_some_iff.1 h.box).1 (fun e => by injection e with e; exact hu.n _ _ _ (e ▸ h.box))).trans h.box, tms_bind hu h.args⟩
theorem Bt.tmv {B : Nat} {t : Tm} {u : Value} (h : Bt W B t u) : TmV W (fun _ => True) t (.agg #[.int .u8 t.k, .string t.s, .int .i64 t.n, u]) := ⟨u, rfl, h.args⟩
theorem Bt.cells {B : Nat} {t : Tm} {u : Value} (h : Bt W B t u) : W.cell? ⟨B, 0, none⟩ = some (.int .u8 t.k) ∧ W.cell? ⟨B, 1, none⟩ = some (.string t.s) ∧ W.cell? ⟨B, 2, none⟩ = some (.int .i64 t.n) ∧ W.cell? ⟨B, 3, none⟩ = some u :=
  let ⟨c0, c1, c2, c3, _, _, _, _⟩ := box4 h.box
  ⟨c0, c1, c2, c3⟩
theorem Bt.lt {B : Nat} {t : Tm} {u : Value} (h : Bt W B t u) : B < W.heap.size := (Array.getElem?_eq_some_iff.1 h.box).1
theorem Bt.new {ok : Nat → Prop} {t : Tm} {u : Value} (h : Kd.tm.S W ok t.l u) : Bt (W.alloc (.cells #[.int .u8 t.k, .string t.s, .int .i64 t.n, u] 24)) W.heap.size t u :=
  ⟨heap_new W _, (h.below ((Below.refl _ W).alloc (Nat.le_refl _) _)).mono (fun _ _ => trivial)⟩
/-- A substitution of the call's own. -/
structure Sb (w W : World) (l : Bs) (p b : Nat) : Prop where
  sub : Sub W (fun _ => True) l p b
  pw : w.heap.size ≤ p
  bw : w.heap.size ≤ b
theorem Sb.below {w : World} {l : Bs} {p q : Nat} (h : Sb w W l p q) (hb : Below W.heap.size W W') : Sb w W' l p q := ⟨h.sub.below hb, h.pw, h.bw⟩
/-- Another one is bound. -/
theorem Sb.bind {w : World} {l : Bs} {p q : Nat} (h : Sb w W l p q) (hu : Ug b W W') (hq : q ≠ b) : Sb w W' l p q := by
  refine ⟨?_, h.pw, h.bw⟩
  obtain ⟨h1, ⟨M, hM, hM2⟩, h3, h4⟩ := h.sub
  have hp : p ≠ b := fun e => hu.n _ _ _ (e ▸ h1)
  refine ⟨(hu.g.block p h.sub.lt.1 (fun e => hp (by injection e))).trans h1, ⟨M, hM.move (hu.g.block q h.sub.lt.2 (fun e => hq (by injection e))), fun n => ⟨(hM2 n).1, fun t hn => ?_⟩⟩, h3, h4⟩
  obtain ⟨v, hv, u, e, hS⟩ := (hM2 n).2 t hn
  exact ⟨v, hv, u, e, tms_bind hu hS⟩
end
/-! ### What has been bound: of few nodes -/
end Go.Proofs.YtgcbanljifalnaaDoor
/- Unification: visits counted; whether a variable occurs. Conditions: the arguments read; the bindings make no circle. -/
namespace Go.Proofs.YtgcbanljifalnaaDoor
open Go.RowKit

/-- A run: its substitution, its visits. -/
abbrev RunAt (w : World) (R p : Nat) (n : Int) : Prop := w.heap[R]? = some (.cells #[.pointer (some ⟨p, 0, none⟩), .int .i64 n] 155 (0, 0))
/-- Too many visits: thrown. -/
abbrev fullEnd : Ending := .panicked [{ v := .iface 148 (.agg #[]), recovered := false }]
theorem box2 {w : World} {B : Nat} {t : TypeId} {a b : Value} (h : w.heap[B]? = some (.cells #[a, b] t (0, 0))) :
    w.cell? ⟨B, 0, none⟩ = some a ∧ w.cell? ⟨B, 1, none⟩ = some b ∧ w.frozen? ⟨B, 0, none⟩ = false ∧ w.frozen? ⟨B, 1, none⟩ = false := by
  simp [World.cell?, World.frozen?, h]
theorem visits_ok (R p : Nat) (n : Int) (w : World) (h : RunAt w R p n) (h0 : 0 ≤ n) (h1 : n + 1 ≤ 4096) :
    Calls Tryd.prog 141 #[.pointer (some ⟨R, 0, none⟩), .int .i64 1] w fun e w' => e = .returned (.tuple #[]) ∧ w' = w.setCell ⟨R, 1, none⟩ (.int .i64 (n + 1)) := by
  obtain ⟨c0, c1, f0, f1⟩ := box2 h
  have hd : decide ((4096 : Int) < n + 1) = false := by simp; omega
  go_enter Tryd.func141, Tryd.ntmps141
  go_wp2
  go_end0
  exact ⟨rfl, rfl⟩
theorem visits_full (R p : Nat) (n : Int) (w : World) (h : RunAt w R p n) (h0 : 0 ≤ n) (h2 : n ≤ 4096) (h1 : 4096 < n + 1) :
    Calls Tryd.prog 141 #[.pointer (some ⟨R, 0, none⟩), .int .i64 1] w fun e w' => e = fullEnd ∧ w' = w.setCell ⟨R, 1, none⟩ (.int .i64 (n + 1)) := by
  obtain ⟨c0, c1, f0, f1⟩ := box2 h
  have hd : decide ((4096 : Int) < n + 1) = true := by simp; omega
  go_enter Tryd.func141, Tryd.ntmps141
  go_wp2
  exact ⟨rfl, rfl, rfl⟩
/-- How many nodes are visited till v is met. -/
def ocv (v : Int) (P : List Tm) : Nat := match P.findIdx? (isv v) with | some i => i + 1 | none => P.length
theorem ocv_cons (v : Int) (x : Tm) (P : List Tm) : ocv v (x :: P) = if isv v x = true then 1 else 1 + ocv v P := by
  unfold ocv
  rw [List.findIdx?_cons]
  cases hx : isv v x with
  | true => simp
  | false =>
    cases h : P.findIdx? (isv v) with
    | some i => simp [h]; omega
    | none => simp [h]; omega
theorem ocv_append (v : Int) (P Q : List Tm) : ocv v (P ++ Q) = if P.any (isv v) = true then ocv v P else P.length + ocv v Q := by
  induction P with
  | nil => simp
  | cons x P ih =>
    rw [List.cons_append, ocv_cons, ocv_cons, ih, List.any_cons]
    cases isv v x with
    | true => simp
    | false =>
      simp only [Bool.false_or, Bool.false_eq_true, if_false, List.length_cons]
      split <;> omega
theorem ocv_none {v : Int} {P : List Tm} (h : P.any (isv v) = false) : ocv v P = P.length := by
  have := ocv_append v P []
  rw [List.append_nil, h] at this
  simpa [ocv] using this
theorem ocv_le (v : Int) (P : List Tm) : ocv v P ≤ P.length := by
  unfold ocv
  cases h : P.findIdx? (isv v) with
  | some i => have := List.findIdx?_eq_some_iff_findIdx_eq.1 h; simp; omega
  | none => simp
/-- What 'occurs' leaves with. -/
def OcPost (w : World) (R p : Nat) (n : Nat) (q : Int) (P : List Tm) (e : Ending) (w' : World) : Prop :=
  ((n + ocv q P ≤ 4096 ∧ e = .returned (.bool (P.any (isv q))) ∧ RunAt w' R p ((n + ocv q P : Nat) : Int)) ∨ (4096 < n + ocv q P ∧ e = fullEnd)) ∧ w.grownBy w' (some R)
theorem runAt_set {w : World} {R p : Nat} {n : Int} (h : RunAt w R p n) (m : Int) : RunAt (w.setCell ⟨R, 1, none⟩ (.int .i64 m)) R p m := by
  unfold RunAt at *
  simp [World.setCell, Array.getElem?_modify, h]
set_option maxRecDepth 100000 in
set_option maxHeartbeats 4000000 in
theorem occurs_c (l : Bs) (p b R : Nat) (q : Int) (hp : p ≠ R) (hb : b ≠ R) : ∀ (f : Nat) (t : Tm), Fn l f t → ∀ (n : Nat) (v : Value) (w : World) (ok : Nat → Prop), Sub w ok l p b → TmV w ok t v → t.Wf → (∀ i, ok i → i ≠ R ∧ i < w.heap.size) → RunAt w R p (n : Int) → n ≤ 4096 →
    Calls Tryd.prog 152 #[.pointer (some ⟨R, 0, none⟩), .int .i64 q, v] w (OcPost w R p n q (vis l f t)) := by
  intro f
  induction f with
  | zero => intro t hf; exact hf.elim
  | succ f ih =>
  intro t hf n v w ok hs hv hwf hok hrn hn
  obtain ⟨u, rfl, hvS⟩ := hv
  obtain ⟨A0, c0, rfl⟩ := hvS.form
  have hRl := (Array.getElem?_eq_some_iff.1 hrn).1
  have hb1 : ∀ O : Obj, Below w.heap.size w (w.alloc O) := fun O => (Below.refl _ w).alloc (Nat.le_refl _) _
  have hff : ∀ a ∈ (wlk l t).l, Fn l f a := hf
  have hxw := wlk_wf hs.wf t hwf
  by_cases hfull : n = 4096
  · subst hfull
    have HV := Lib.hid (fun O => visits_full R p 4096 (w.alloc O) (block_below (hb1 O) hRl hrn) (by omega) (by omega) (by omega))
    have HP : Hid (4096 < 4096 + ocv q (vis l (f + 1) t)) := Lib.hid (by rw [vis_succ, ocv_cons]; split <;> omega)
    clear hvS hf ih hff hs hwf hxw hok hrn hn
    go_enter Tryd.func152, Tryd.ntmps152
    go_wp2_with (go_at_call 141; refine (HV.out _).mono ?_; clear HV; rintro e w1 ⟨rfl, rfl⟩)
    exact ⟨rfl, .inr ⟨HP.out, rfl⟩, gbelow (grown_set w R 1 _) ((Below.refl _ _).alloc (Nat.le_refl _) _)⟩
  · have hn1 : n + 1 ≤ 4096 := by omega
    have hW1 : w.grownBy ((w.setCell ⟨R, 1, none⟩ (.int .i64 ((n : Int) + 1))).alloc (.cells #[.int .u8 t.k, .string t.s, .int .i64 t.n, .slice A0 t.l.length c0] 24)).drew (some R) := gbelow (gbelow (grown_set w R 1 _) ((Below.refl _ _).alloc (Nat.le_refl _) _)) (Below.refl _ _).drew
    have HV := Lib.hid (fun O => visits_ok R p n (w.alloc O) (block_below (hb1 O) hRl hrn) (by omega) (by omega))
    have HWK := Lib.hid (Walk_c l p b t (.agg #[.int .u8 t.k, .string t.s, .int .i64 t.n, .slice A0 t.l.length c0]) ((w.setCell ⟨R, 1, none⟩ (.int .i64 ((n : Int) + 1))).alloc (.cells #[.int .u8 t.k, .string t.s, .int .i64 t.n, .slice A0 t.l.length c0] 24)).drew ok (hs.grown hW1 (fun i hi e => (hok i hi).1 (by injection e)) (fun e => hp (by injection e)) (fun e => hb (by injection e))) ((TmV.grown hW1 (fun i hi e => (hok i hi).1 (by injection e)) ⟨_, rfl, hvS⟩)) hwf)
    simp only [vis_succ]
    generalize wlk l t = x at HWK hxw hff ⊢
    have hrn1 : RunAt ((w.setCell ⟨R, 1, none⟩ (.int .i64 ((n : Int) + 1))).alloc (.cells #[.int .u8 t.k, .string t.s, .int .i64 t.n, .slice A0 t.l.length c0] 24)) R p ((n : Int) + 1) := block_below ((Below.refl _ (w.setCell ⟨R, 1, none⟩ (.int .i64 ((n : Int) + 1)))).alloc (Nat.le_refl _) _) (by simp [World.setCell]; exact hRl) (runAt_set hrn ((n : Int) + 1))
    have hbx1 : ((w.setCell ⟨R, 1, none⟩ (.int .i64 ((n : Int) + 1))).alloc (.cells #[.int .u8 t.k, .string t.s, .int .i64 t.n, .slice A0 t.l.length c0] 24)).heap[w.heap.size]? = some (.cells #[.int .u8 t.k, .string t.s, .int .i64 t.n, .slice A0 t.l.length c0] 24 (0, 0)) := heap_at _ _ _ (by simp [World.setCell])
    have hz1 : ((w.setCell ⟨R, 1, none⟩ (.int .i64 ((n : Int) + 1))).alloc (.cells #[.int .u8 t.k, .string t.s, .int .i64 t.n, .slice A0 t.l.length c0] 24)).heap.size = w.heap.size + 1 := by simp [World.setCell]
    have HIH := Lib.hid ih
    have HFF := Lib.hid hff
    have HS := Lib.hid hs
    have HOK := Lib.hid hok
    have HXW := Lib.hid hxw
    clear hvS ih hff hs hwf hxw hok hrn hfull
    go_enter Tryd.func152, Tryd.ntmps152
    go_wp2_with (go_at_call 141; refine (HV.out _).mono ?_; clear HV; rintro e w1 ⟨rfl, rfl⟩)
    generalize ((w.setCell ⟨R, 1, none⟩ (.int .i64 ((n : Int) + 1))).alloc (.cells #[.int .u8 t.k, .string t.s, .int .i64 t.n, .slice A0 t.l.length c0] 24)) = W1 at HWK hrn1 hbx1 hz1 hW1 ⊢
    obtain ⟨r0, r1, q0, q1⟩ := box2 hrn1
    obtain ⟨c0, c1, c2, c3, f0, f1, f2, f3⟩ := box4 hbx1
    refine wp_region_held_drew (S := (fun W => W.cell? ⟨R, 0, none⟩ = some (.pointer (some ⟨p, 0, none⟩)))) (by kernel_rfl) ?_ (fun hHeld => ?_)
    · exact cell_below (Below.refl _ W1).drew r0 (cell_lt r0)
    change wpAnyH _ .any _ _ _ 7 (Array.replicate 7 false) _ _
    refine wpAnyH_take (i := 0) (oi := ⟨some 11, _, _, _, _, _⟩) (v := ?_) rfl (by kernel_rfl) (by kernel_rfl) (by kernel_rfl) (fun _ _ _ h => h) (Or.inl ⟨by rfl, ?_⟩) (by assumption) ?_
    rotate_left
    · (intro w hSw; (try dsimp only at hSw); go_simp; try (with_reducible rfl))
    (try simp only [Act.put, List.setIfInBounds_toArray, List.set_cons_zero, List.set_cons_succ])
    refine wpAnyH_take (i := 1) (oi := ⟨some 12, _, _, _, _, _⟩) (v := ?_) rfl (by kernel_rfl) (by kernel_rfl) (by kernel_rfl) (fun _ _ _ h => h) (Or.inl ⟨by rfl, ?_⟩) (by assumption) ?_
    rotate_left
    · (intro w hSw; (try dsimp only at hSw); go_simp; try (with_reducible rfl))
    (try simp only [Act.put, List.setIfInBounds_toArray, List.set_cons_zero, List.set_cons_succ])
    refine wpAnyH_take (i := 2) (oi := ⟨some 13, _, _, _, _, _⟩) (v := ?_) rfl (by kernel_rfl) (by kernel_rfl) (by kernel_rfl) (fun _ _ _ h => h) (Or.inl ⟨by rfl, ?_⟩) (by assumption) ?_
    rotate_left
    · (intro w hSw; (try dsimp only at hSw); go_simp; try (with_reducible rfl))
    (try simp only [Act.put, List.setIfInBounds_toArray, List.set_cons_zero, List.set_cons_succ])
    refine wpAnyH_take (i := 3) (oi := ⟨some 14, _, _, _, _, _⟩) (v := ?_) rfl (by kernel_rfl) (by kernel_rfl) (by kernel_rfl) (fun _ _ _ h => h) (Or.inl ⟨by rfl, ?_⟩) (by assumption) ?_
    rotate_left
    · (intro w hSw; (try dsimp only at hSw); go_simp; try (with_reducible rfl))
    (try simp only [Act.put, List.setIfInBounds_toArray, List.set_cons_zero, List.set_cons_succ])
    refine wpAnyH_ready (rs := [4]) (by kernel_rfl) (by simp) ?_
    refine AllReadyH.cons (o := ⟨some 15, _, _, _, _, _⟩) rfl (fun K hK => ?_) AllReadyH.nil
    go_simp
    refine hK.out _ _ (cell_below (Below.refl _ W1).drew r0 (cell_lt r0)) (fun hHeld => ?_)
    clear hK K
    (try simp only [Act.put, List.setIfInBounds_toArray, List.set_cons_zero, List.set_cons_succ])
    refine wpAnyH_ready (rs := [5]) (by kernel_rfl) (by simp) ?_
    refine AllReadyH.cons (o := ⟨some 16, _, _, _, _, _⟩) rfl (fun K hK => ?_) AllReadyH.nil
    go_simp
    go_at_call 23
    refine HWK.out.mono ?_
    clear HWK
    rintro e W2 ⟨⟨u2, rfl, uu2, rfl, hvS2⟩, hb2⟩
    obtain ⟨A, c, rfl⟩ := hvS2.form
    replace hb2 : Below W1.heap.size W1 W2 := below_then (Below.refl _ W1).drew (Nat.le_refl _) hb2
    have hrn2 := block_below hb2 (cell_lt r0) hrn1
    have hbx2 := block_below hb2 (cell_lt c0) hbx1
    clear r0 r1 q0 q1 c0 c1 c2 c3 f0 f1 f2 f3
    obtain ⟨r0, r1, q0, q1⟩ := box2 hrn2
    obtain ⟨c0, c1, c2, c3, f0, f1, f2, f3⟩ := box4 hbx2
    go_wp2_with fail
    refine hK.out _ _ r0 (fun hHeld => ?_)
    clear hK K
    (try simp only [Act.put, List.setIfInBounds_toArray, List.set_cons_zero, List.set_cons_succ])
    have hrn3 := ((grown_set4 W2 w.heap.size (.int .u8 x.k) (.string x.s) (.int .i64 x.n) (.slice A x.l.length c)).block R (cell_lt r0) (fun e => by injection e; omega)).trans hrn2
    refine wpAnyH_ready (rs := [6]) (by kernel_rfl) (by simp) ?_
    refine AllReadyH.cons (o := ⟨none, _, _, _, _, _⟩) rfl (fun K hK => ?_) AllReadyH.nil
    go_simp
    refine hK.out _ _ (box2 hrn3).1 (fun hHeld => ?_)
    clear hK K
    (try simp only [Act.put, List.setIfInBounds_toArray, List.set_cons_zero, List.set_cons_succ])
    refine wpAnyH_done (by kernel_rfl) ?_ _
    have hbx3 := set4_block (a := .int .u8 x.k) (b := .string x.s) (c := .int .i64 x.n) (d := .slice A x.l.length c) hbx2
    have hgW : w.grownBy W2 (some R) := gbelow (W := W1) ⟨hW1.os, hW1.tape, hW1.output, hW1.size, hW1.block⟩ hb2
    have hg3 := gfresh hgW (grown_set4 W2 w.heap.size (.int .u8 x.k) (.string x.s) (.int .i64 x.n) (.slice A x.l.length c)) (Nat.le_refl _)
    have hS3 := Kd.S.move (w' := ((((W2.setCell ⟨w.heap.size, 0, none⟩ (.int .u8 x.k)).setCell ⟨w.heap.size, 1, none⟩ (.string x.s)).setCell ⟨w.heap.size, 2, none⟩ (.int .i64 x.n)).setCell ⟨w.heap.size, 3, none⟩ (.slice A x.l.length c))) (fun i hi => (grown_set4 W2 w.heap.size (.int .u8 x.k) (.string x.s) (.int .i64 x.n) (.slice A x.l.length c)).block i (by have := (HOK.out i hi).2; have := hb2.size; omega) (fun e => by have := (HOK.out i hi).2; injection e; omega)) hvS2
    generalize ((((W2.setCell ⟨w.heap.size, 0, none⟩ (.int .u8 x.k)).setCell ⟨w.heap.size, 1, none⟩ (.string x.s)).setCell ⟨w.heap.size, 2, none⟩ (.int .i64 x.n)).setCell ⟨w.heap.size, 3, none⟩ (.slice A x.l.length c)) = W3 at hrn3 hbx3 hg3 hS3 ⊢
    clear r0 r1 q0 q1 c0 c1 c2 c3 f0 f1 f2 f3 hvS2 hHeld hbx2 hrn2 hb2 hgW hrn1 hbx1 hz1 hW1
    obtain ⟨c0, c1, c2, c3, -, -, -, -⟩ := box4 hbx3
    have HG3 := Lib.hid hg3
    have HRN := Lib.hid hrn3
    have HBX := Lib.hid hbx3
    clear hg3 hrn3 hbx3
    by_cases hi : x.k = 1 ∧ x.n = q
    · have hiv : isv q x = true := by simpa [isv] using hi
      obtain ⟨hk, hq⟩ := hi
      have hk' : (x.k == 1) = true := by simpa using hk
      have hq' : (x.n == q) = true := by simpa using hq
      have hoc : Hid (ocv q (x :: x.l.flatMap (vis l f)) = 1) := Lib.hid (by rw [ocv_cons, if_pos hiv])
      have han : Hid ((x :: x.l.flatMap (vis l f)).any (isv q) = true) := Lib.hid (by rw [List.any_cons, hiv]; rfl)
      clear hk hq hiv
      go_wp2
      go_ret
      exact ⟨.inl ⟨by rw [hoc.out]; omega, by rw [han.out]; rfl, by rw [hoc.out]; exact HRN.out⟩, HG3.out⟩
    · have hiv : isv q x = false := by simpa [isv] using hi
      have hoc : Hid (ocv q (x :: x.l.flatMap (vis l f)) = 1 + ocv q (x.l.flatMap (vis l f))) := Lib.hid (by rw [ocv_cons, hiv]; simp)
      have han : Hid ((x :: x.l.flatMap (vis l f)).any (isv q) = (x.l.flatMap (vis l f)).any (isv q)) := Lib.hid (by rw [List.any_cons, hiv]; rfl)
      have hG : ((x.k == 1) = true ∧ (x.n == q) = false) ∨ (x.k == 1) = false := by
        by_cases h1 : x.k = 1
        · left; exact ⟨by simpa using h1, by have : x.n ≠ q := fun h => hi ⟨h1, h⟩; simpa using this⟩
        · right; simpa using h1
      obtain ⟨_, _, eA, hl, hcm, hA⟩ := hS3
      injection eA with eA1 eA2 eA3
      subst eA1 eA3
      clear eA2 hi hiv
      unfold maxLen at hcm
      rcases hG with ⟨hk', hq'⟩ | hk'
      all_goals
        go_wp2
        go_loopw [29] (fun i wr => ∃ j : Nat, j ≤ x.l.length ∧ i = .int .i64 j ∧ Hid (((x.l.take j).flatMap (vis l f)).any (isv q) = false) ∧ n + 1 + ((x.l.take j).flatMap (vis l f)).length ≤ 4096 ∧ RunAt wr R p ((n + 1 + ((x.l.take j).flatMap (vis l f)).length : Nat) : Int) ∧ w.grownBy wr (some R)) (fun i _ => x.l.length - (intOf i).toNat)
        case atStart => exact ⟨0, Nat.zero_le _, rfl, Lib.hid (by simp), by simpa using hn1, by simpa using HRN.out, HG3.out⟩
        case round =>
          obtain ⟨j, hj, rfl, hno, hcnt, hrnr, hgr⟩ := hrel
          have hRr : R < wr.heap.size := (Array.getElem?_eq_some_iff.1 hrnr).1
          by_cases hlt : j < x.l.length
          · obtain ⟨bb, o, u, rfl, hokb, hlo, h0, h1, h2, h3, h4⟩ := tm_elem hA hlt
            have hbW : wr.heap[bb]? = W3.heap[bb]? := (hgr.block bb (HOK.out _ hokb).2 (fun e => (HOK.out _ hokb).1 (by injection e))).trans (HG3.out.block bb (HOK.out _ hokb).2 (fun e => (HOK.out _ hokb).1 (by injection e))).symm
            have g0 := (cell_of_block hbW _).trans h0
            have g1 := (cell_of_block hbW _).trans h1
            have g2 := (cell_of_block hbW _).trans h2
            have g3 := (cell_of_block hbW _).trans h3
            have h4' : TmV wr ok x.l[j] (.agg #[.int .u8 x.l[j].k, .string x.l[j].s, .int .i64 x.l[j].n, u]) := ⟨u, rfl, Kd.S.move (fun i hi => (hgr.block i (HOK.out _ hi).2 (fun e => (HOK.out _ hi).1 (by injection e))).trans (HG3.out.block i (HOK.out _ hi).2 (fun e => (HOK.out _ hi).1 (by injection e))).symm) h4⟩
            obtain ⟨Au, cu, rfl⟩ := h4.form
            have hm := List.getElem_mem hlt
            have hnx : (x.l.take (j + 1)).flatMap (vis l f) = (x.l.take j).flatMap (vis l f) ++ vis l f x.l[j] := by rw [take_succ_at x.l hlt, List.flatMap_append]; simp
            have htl : x.l.flatMap (vis l f) = (x.l.take j).flatMap (vis l f) ++ (vis l f x.l[j] ++ (x.l.drop (j + 1)).flatMap (vis l f)) := by
              rw [← List.append_assoc, ← hnx, ← List.flatMap_append, List.take_append_drop]
            have hBa := (Below.refl _ wr).alloc (Nat.le_refl _) (.cells #[.int .u8 x.l[j].k, .string x.l[j].s, .int .i64 x.l[j].n, .slice Au x.l[j].l.length cu] 24)
            have hgra := gbelow hgr hBa
            have HI := Lib.hid (HIH.out x.l[j] (HFF.out _ hm) (n + 1 + ((x.l.take j).flatMap (vis l f)).length) _ (wr.alloc (.cells #[.int .u8 x.l[j].k, .string x.l[j].s, .int .i64 x.l[j].n, .slice Au x.l[j].l.length cu] 24)) ok
              (HS.out.grown hgra (fun i hi e => (HOK.out i hi).1 (by injection e)) (fun e => hp (by injection e)) (fun e => hb (by injection e)))
              (TmV.below hBa h4') (WfL_at HXW.out.parts.2.2.2 hlt) (fun i hi => ⟨(HOK.out i hi).1, by have := (HOK.out i hi).2; have := hgr.size; simp only [World.size_alloc]; omega⟩) (block_below hBa hRr hrnr) hcnt)
            have HNX := Lib.hid hnx
            have HTL := Lib.hid htl
            have HGR := Lib.hid hgra
            generalize x.l[j] = y at g0 g1 g2 g3 HI HNX HTL HGR
            clear hA h0 h1 h2 h3 h4 h4' hnx htl hm hrnr hgr hgra hBa hbW
            go_wp2_with (go_at_call 152; refine HI.out.mono ?_; clear HI; rintro e W6 ⟨⟨hle, rfl, hrn6⟩ | ⟨hfu, rfl⟩, hg6⟩)
            · have hany : (vis l f y).any (isv q) = true := by assumption
              have e1 : ocv q (x.l.flatMap (vis l f)) = ((x.l.take j).flatMap (vis l f)).length + ocv q (vis l f y) := by
                rw [HTL.out, ocv_append, hno.out, if_neg (by decide), ocv_append, hany, if_pos rfl]
              have e2 : (x.l.flatMap (vis l f)).any (isv q) = true := by
                rw [HTL.out, List.any_append, List.any_append, hany]; simp
              go_ret
              exact ⟨.inl ⟨by rw [hoc.out, e1]; omega, by rw [han.out, e2]; rfl, by rw [hoc.out, e1]; rw [show n + (1 + (((x.l.take j).flatMap (vis l f)).length + ocv q (vis l f y))) = n + 1 + ((x.l.take j).flatMap (vis l f)).length + ocv q (vis l f y) by omega]; exact hrn6⟩, HGR.out.trans hg6⟩
            · have hany : (vis l f y).any (isv q) = false := by first | assumption | simpa using (by assumption : ¬ (vis l f y).any (isv q) = true)
              have e3 := ocv_none hany
              go_roundw
              case rel => exact ⟨j + 1, by omega, by go_num, Lib.hid (by rw [HNX.out, List.any_append, hno.out, hany]; rfl), by rw [HNX.out, List.length_append]; omega, by rw [HNX.out, List.length_append, ← Nat.add_assoc, ← e3]; exact hrn6, HGR.out.trans hg6⟩
              case measure => simp [intOf]; omega
            · have e1 : ocv q (x.l.flatMap (vis l f)) = ((x.l.take j).flatMap (vis l f)).length + ocv q (vis l f y ++ (x.l.drop (j + 1)).flatMap (vis l f)) := by
                rw [HTL.out, ocv_append, hno.out, if_neg (by decide)]
              have e2 : ocv q (vis l f y) ≤ ocv q (vis l f y ++ (x.l.drop (j + 1)).flatMap (vis l f)) := by
                rw [ocv_append]; have := ocv_le q (vis l f y); split <;> omega
              exact ⟨rfl, .inr ⟨by rw [hoc.out, e1]; omega, rfl⟩, HGR.out.trans hg6⟩
          · have hf1 : x.l.take j = x.l := List.take_of_length_le (by omega)
            rw [hf1] at hno hcnt hrnr
            have e3 := ocv_none hno.out
            have HN := Lib.hid hrnr
            have HG := Lib.hid hgr
            clear hf1 hA hrnr hgr
            go_wp2
            go_ret
            exact ⟨.inl ⟨by rw [hoc.out, e3]; omega, by rw [han.out, hno.out]; rfl, by rw [hoc.out, e3, ← Nat.add_assoc]; exact HN.out⟩, HG.out⟩
end Go.Proofs.YtgcbanljifalnaaDoor

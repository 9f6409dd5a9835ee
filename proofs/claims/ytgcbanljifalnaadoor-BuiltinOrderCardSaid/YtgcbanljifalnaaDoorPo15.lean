import Derived.Test.YtgcbanljifalnaaDoorPo14
set_option linter.unusedVariables false
set_option maxRecDepth 20000
set_option linter.unusedSimpArgs false
/- Layer 14 (builtin): the builtins' functions, walked: unification and its opposite. Conditions: the arguments read; what they are made of is bounded. -/
namespace Go.Proofs.YtgcbanljifalnaaDoor
open Go.RowKit
attribute [local go_sem ↓] Go.wp_at_zero Go.wp_at_succ
/-- What a goal leaves behind. -/
def DPost (N : Nat) (O : DO) (w : World) (e : Ending) (w' : World) : Prop :=
  (match O with
   | .err x => e = .returned (.tuple #[.pointer none, .bool false, .int .i64 x])
   | .no => e = .returned (.tuple #[.pointer none, .bool false, .int .i64 0])
   | .yes l' => ∃ p' b', e = .returned (.tuple #[.pointer (some ⟨p', 0, none⟩), .bool true, .int .i64 0]) ∧ Sub w' (fun _ => True) l' p' b') ∧ Below N w w'
theorem QPost.do {N : Nat} {O : UO} {w W w' : World} {e : Ending} (h : QPost W.heap.size O W e w') (hb : Below N w W) (hN : N ≤ W.heap.size) : DPost N O.do w e w' := by
  unfold QPost at h
  unfold DPost
  refine ⟨?_, below_then hb hN h.2⟩
  cases O with
  | full => exact h.1
  | no => exact h.1
  | yes l n => exact h.1
/-- What is known of a world: the substitution, the goal's Args. -/
structure GK (w : World) (l : Bs) (p m : Nat) (xs : List Tm) (v : Value) (W : World) : Prop where
  b0 : Below w.heap.size w W
  sub : Sub W (fun _ => True) l p m
  args : Kd.tm.S W (fun _ => True) xs v
theorem GK.then {w W W' : World} {l : Bs} {p m : Nat} {xs : List Tm} {v : Value} (h : GK w l p m xs v W) (hb : Below W.heap.size W W') : GK w l p m xs v W' := ⟨below_then h.b0 h.b0.size hb, h.sub.below hb, h.args.below hb⟩
/-- What is asked of a goal's Args, and of what is bound. -/
structure GB (l : Bs) (xs : List Tm) : Prop where
  wf : WfL xs
  sz : ∀ x ∈ xs, x.siz ≤ 1000000
  lsz : ∀ n t, ofB l n = some t → t.siz ≤ 1000000
  ll : l.length ≤ 900000
theorem when_c (p : Nat) (is : Bool) (w : World) : Calls Tryd.prog 95 #[.pointer (some ⟨p, 0, none⟩), .bool is] w fun e w' => e = .returned (.tuple (if is = true then #[.pointer (some ⟨p, 0, none⟩), .bool true, .int .i64 0] else #[.pointer none, .bool false, .int .i64 0])) ∧ w' = w := by
  cases is
  · go_enter Tryd.func95, Tryd.ntmps95
    go_wp2
    go_ret3
    exact ⟨rfl, rfl⟩
  · go_enter Tryd.func95, Tryd.ntmps95
    go_wp2
    go_ret3
    exact ⟨rfl, rfl⟩
theorem whenD_post {N p m : Nat} {l : Bs} {is : Bool} {w w' : World} (hs : Sub w' (fun _ => True) l p m) (hb : Below N w w') : DPost N (whenD l is) w (.returned (.tuple (if is = true then #[.pointer (some ⟨p, 0, none⟩), .bool true, .int .i64 0] else #[.pointer none, .bool false, .int .i64 0]))) w' := by
  cases is
  · exact ⟨rfl, hb⟩
  · exact ⟨⟨p, m, rfl, hs⟩, hb⟩
/-- The two Args' cells. -/
theorem two_elem {W : World} {a b : Tm} {A0 : Option Addr} {n c : Nat} (h : Kd.tm.S W (fun _ => True) [a, b] (.slice A0 n c)) : ∃ g o A ac B bc, A0 = some ⟨g, o, none⟩ ∧ n = 2 ∧
    W.cell? ⟨g, o, none⟩ = some (.int .u8 a.k) ∧ W.cell? ⟨g, o + 1, none⟩ = some (.string a.s) ∧ W.cell? ⟨g, o + 2, none⟩ = some (.int .i64 a.n) ∧ W.cell? ⟨g, o + 3, none⟩ = some (.slice A a.l.length ac) ∧
    W.cell? ⟨g, o + 4, none⟩ = some (.int .u8 b.k) ∧ W.cell? ⟨g, o + 5, none⟩ = some (.string b.s) ∧ W.cell? ⟨g, o + 6, none⟩ = some (.int .i64 b.n) ∧ W.cell? ⟨g, o + 7, none⟩ = some (.slice B b.l.length bc) ∧
    Kd.tm.S W (fun _ => True) a.l (.slice A a.l.length ac) ∧ Kd.tm.S W (fun _ => True) b.l (.slice B b.l.length bc) := by
  obtain ⟨g, o, rfl⟩ := elemA0 h (by simp)
  obtain ⟨A, ac, y0, y1, y2, y3, y4⟩ := elemS0 h (j := 0) (by simp)
  obtain ⟨B, bc, z0, z1, z2, z3, z4⟩ := elemS0 h (j := 1) (by simp)
  obtain ⟨_, _, e, _⟩ := h
  injection e with e1 e2 e3
  simp only [Nat.zero_mul, Nat.add_zero, List.getElem_cons_zero] at y0 y1 y2 y3 y4
  simp only [Nat.one_mul, List.getElem_cons_succ, List.getElem_cons_zero] at z0 z1 z2 z3 z4
  exact ⟨g, o, A, ac, B, bc, rfl, e2, y0, y1, y2, y3, z0, z1, z2, z3, y4, z4⟩
set_option maxRecDepth 100000 in
set_option maxHeartbeats 8000000 in
theorem unifies_c (l : Bs) (p m : Nat) (a b : Tm) (v : Value) (w : World) (hs : Sub w (fun _ => True) l p m) (hv : Kd.tm.S w (fun _ => True) [a, b] v) (hg : GB l [a, b]) :
    Calls Tryd.prog 61 #[.pointer (some ⟨p, 0, none⟩), v] w (DPost w.heap.size (Bi.run l .uni [a, b]) w) := by
  obtain ⟨A0, c, rfl⟩ := hv.form
  have HV := hv
  obtain ⟨g, o, A, ac, B, bc, rfl, hn, y0, y1, y2, y3, z0, z1, z2, z3, y4, z4⟩ := two_elem hv
  have HG : Hid (GK w l p m [a, b] (.slice (some ⟨g, o, none⟩) 2 c) w) := Lib.hid ⟨Below.refl _ _, hs, HV⟩
  have HU := Lib.hid (fun W (h1 : Kd.tm.S W (fun _ => True) a.l (.slice A a.l.length ac)) (h2 : Kd.tm.S W (fun _ => True) b.l (.slice B b.l.length bc)) (hk : GK w l p m [a, b] (.slice (some ⟨g, o, none⟩) 2 c) W) =>
    Calls.mono (R' := fun e w' => ∃ v1 v2 v3, e = .returned (.tuple #[v1, v2, v3]) ∧ Below W.heap.size W w' ∧ DPost w.heap.size (Bi.run l .uni [a, b]) w (.returned (.tuple #[v1, v2, v3])) w')
      (Unify_c l p m a b _ _ W _ _ _ hk.sub ⟨_, rfl, h1⟩ ⟨_, rfl, h2⟩ hg.wf.1 hg.wf.2.1 (hg.sz a (by simp)) (hg.sz b (by simp)) hg.lsz hg.ll) (fun e w' h => by
        have hd := QPost.do h hk.b0 hk.b0.size
        have hb := h.2
        unfold DPost at hd
        cases hO : un 4098 0 l [(a, b)] with
        | full => rw [hO] at hd; exact ⟨_, _, _, hd.1, hb, by rw [show Bi.run l .uni [a, b] = DO.err 31 by simp [Bi.run, hO, UO.do]]; exact ⟨rfl, hd.2⟩⟩
        | no => rw [hO] at hd; exact ⟨_, _, _, hd.1, hb, by rw [show Bi.run l .uni [a, b] = DO.no by simp [Bi.run, hO, UO.do]]; exact ⟨rfl, hd.2⟩⟩
        | yes l' n => rw [hO] at hd; obtain ⟨⟨p', b', he, hs'⟩, hb'⟩ := hd; exact ⟨_, _, _, he, hb, by rw [show Bi.run l .uni [a, b] = DO.yes l' by simp [Bi.run, hO, UO.do]]; exact ⟨⟨p', b', rfl, hs'⟩, hb'⟩⟩))
  clear hs hv HV hg
  go_enter Tryd.func61, Tryd.ntmps61
  go_wp2
  refine wp_region_held_drew (S := (fun W => W.cell? ⟨g, o, none⟩ = some (.int .u8 a.k) ∧ W.cell? ⟨g, o + 1, none⟩ = some (.string a.s) ∧ W.cell? ⟨g, o + 2, none⟩ = some (.int .i64 a.n) ∧ W.cell? ⟨g, o + 3, none⟩ = some (.slice A a.l.length ac) ∧ W.cell? ⟨g, o + 4, none⟩ = some (.int .u8 b.k) ∧ W.cell? ⟨g, o + 5, none⟩ = some (.string b.s) ∧ W.cell? ⟨g, o + 6, none⟩ = some (.int .i64 b.n) ∧ W.cell? ⟨g, o + 7, none⟩ = some (.slice B b.l.length bc) ∧ Kd.tm.S W (fun _ => True) a.l (.slice A a.l.length ac) ∧ Kd.tm.S W (fun _ => True) b.l (.slice B b.l.length bc) ∧ GK w l p m [a, b] (.slice (some ⟨g, o, none⟩) 2 c) W)) (by kernel_rfl) ?_ (fun hHeld => ?_)
  · exact ⟨y0, y1, y2, y3, z0, z1, z2, z3, y4.below (Below.refl _ _).drew, z4.below (Below.refl _ _).drew, HG.out.then (Below.refl _ _).drew⟩
  change wpAnyH _ .any _ _ _ 14 (Array.replicate 14 false) _ _
  refine wpAnyH_take (i := 0) (oi := ⟨some 7, _, _, _, _, _⟩) (v := ?_) rfl (by kernel_rfl) (by kernel_rfl) (by kernel_rfl) (fun _ _ _ h => h) (Or.inl ⟨by rfl, ?_⟩) (by assumption) ?_
  rotate_left
  · (intro w hSw; (try dsimp only at hSw); go_simp; try (with_reducible rfl))
  (try simp only [Act.put, List.setIfInBounds_toArray, List.set_cons_zero, List.set_cons_succ])
  refine wpAnyH_take (i := 1) (oi := ⟨some 8, _, _, _, _, _⟩) (v := ?_) rfl (by kernel_rfl) (by kernel_rfl) (by kernel_rfl) (fun _ _ _ h => h) (Or.inl ⟨by rfl, ?_⟩) (by assumption) ?_
  rotate_left
  · (intro w hSw; (try dsimp only at hSw); go_simp; try (with_reducible rfl))
  (try simp only [Act.put, List.setIfInBounds_toArray, List.set_cons_zero, List.set_cons_succ])
  refine wpAnyH_take (i := 2) (oi := ⟨some 9, _, _, _, _, _⟩) (v := ?_) rfl (by kernel_rfl) (by kernel_rfl) (by kernel_rfl) (fun _ _ _ h => h) (Or.inl ⟨by rfl, ?_⟩) (by assumption) ?_
  rotate_left
  · (intro w hSw; (try dsimp only at hSw); go_simp; try (with_reducible rfl))
  (try simp only [Act.put, List.setIfInBounds_toArray, List.set_cons_zero, List.set_cons_succ])
  refine wpAnyH_take (i := 3) (oi := ⟨some 10, _, _, _, _, _⟩) (v := ?_) rfl (by kernel_rfl) (by kernel_rfl) (by kernel_rfl) (fun _ _ _ h => h) (Or.inl ⟨by rfl, ?_⟩) (by assumption) ?_
  rotate_left
  · (intro w hSw; (try dsimp only at hSw); go_simp; try (with_reducible rfl))
  (try simp only [Act.put, List.setIfInBounds_toArray, List.set_cons_zero, List.set_cons_succ])
  refine wpAnyH_take (i := 4) (oi := ⟨some 11, _, _, _, _, _⟩) (v := ?_) rfl (by kernel_rfl) (by kernel_rfl) (by kernel_rfl) (fun _ _ _ h => h) (Or.inl ⟨by rfl, ?_⟩) (by assumption) ?_
  rotate_left
  · (intro w hSw; (try dsimp only at hSw); go_simp; try (with_reducible rfl))
  (try simp only [Act.put, List.setIfInBounds_toArray, List.set_cons_zero, List.set_cons_succ])
  refine wpAnyH_take (i := 5) (oi := ⟨some 12, _, _, _, _, _⟩) (v := ?_) rfl (by kernel_rfl) (by kernel_rfl) (by kernel_rfl) (fun _ _ _ h => h) (Or.inl ⟨by rfl, ?_⟩) (by assumption) ?_
  rotate_left
  · (intro w hSw; (try dsimp only at hSw); go_simp; try (with_reducible rfl))
  (try simp only [Act.put, List.setIfInBounds_toArray, List.set_cons_zero, List.set_cons_succ])
  refine wpAnyH_take (i := 6) (oi := ⟨some 13, _, _, _, _, _⟩) (v := ?_) rfl (by kernel_rfl) (by kernel_rfl) (by kernel_rfl) (fun _ _ _ h => h) (Or.inl ⟨by rfl, ?_⟩) (by assumption) ?_
  rotate_left
  · (intro w hSw; (try dsimp only at hSw); go_simp; try (with_reducible rfl))
  (try simp only [Act.put, List.setIfInBounds_toArray, List.set_cons_zero, List.set_cons_succ])
  refine wpAnyH_ready (rs := [7]) (by kernel_rfl) (by simp) ?_
  refine AllReadyH.cons (o := ⟨some 14, _, _, _, _, _⟩) rfl (fun K hK => ?_) AllReadyH.nil
  go_simp
  obtain ⟨q0, q1, q2, q3, q4, q5, q6, q7, q8, q9, q10⟩ := id hHeld
  have hq := HU.out _ q8 q9 q10
  clear q0 q1 q2 q3 q4 q5 q6 q7 q8 q9 q10
  refine hq.mono ?_
  clear hq
  rintro e w9 ⟨v1, v2, v3, rfl, hb9, hpost⟩
  go_wp2_with fail
  refine hK.out _ _ (by obtain ⟨q0, q1, q2, q3, q4, q5, q6, q7, q8, q9, q10⟩ := hHeld; exact ⟨held_cell hb9 q0, held_cell hb9 q1, held_cell hb9 q2, held_cell hb9 q3, held_cell hb9 q4, held_cell hb9 q5, held_cell hb9 q6, held_cell hb9 q7, q8.below hb9, q9.below hb9, q10.then hb9⟩) (fun hHeld => ?_)
  clear hK K
  (try simp only [Act.put, List.setIfInBounds_toArray, List.set_cons_zero, List.set_cons_succ])
  refine wpAnyH_take (i := 8) (oi := ⟨some 15, _, _, _, _, _⟩) (v := ?_) rfl (by kernel_rfl) (by kernel_rfl) (by kernel_rfl) (fun _ _ _ h => h) (Or.inl ⟨by rfl, ?_⟩) (by assumption) ?_
  rotate_left
  · (intro w hSw; (try dsimp only at hSw); go_simp; try (with_reducible rfl))
  (try simp only [Act.put, List.setIfInBounds_toArray, List.set_cons_zero, List.set_cons_succ])
  refine wpAnyH_take (i := 9) (oi := ⟨some 16, _, _, _, _, _⟩) (v := ?_) rfl (by kernel_rfl) (by kernel_rfl) (by kernel_rfl) (fun _ _ _ h => h) (Or.inl ⟨by rfl, ?_⟩) (by assumption) ?_
  rotate_left
  · (intro w hSw; (try dsimp only at hSw); go_simp; try (with_reducible rfl))
  (try simp only [Act.put, List.setIfInBounds_toArray, List.set_cons_zero, List.set_cons_succ])
  refine wpAnyH_take (i := 10) (oi := ⟨some 17, _, _, _, _, _⟩) (v := ?_) rfl (by kernel_rfl) (by kernel_rfl) (by kernel_rfl) (fun _ _ _ h => h) (Or.inl ⟨by rfl, ?_⟩) (by assumption) ?_
  rotate_left
  · (intro w hSw; (try dsimp only at hSw); go_simp; try (with_reducible rfl))
  (try simp only [Act.put, List.setIfInBounds_toArray, List.set_cons_zero, List.set_cons_succ])
  refine wpAnyH_take (i := 11) (oi := ⟨some 4, _, _, _, _, _⟩) (v := ?_) rfl (by kernel_rfl) (by kernel_rfl) (by kernel_rfl) (fun _ _ _ h => h) (Or.inl ⟨by rfl, ?_⟩) (by assumption) ?_
  rotate_left
  · (intro w hSw; (try dsimp only at hSw); go_simp; try (with_reducible rfl))
  (try simp only [Act.put, List.setIfInBounds_toArray, List.set_cons_zero, List.set_cons_succ])
  refine wpAnyH_take (i := 12) (oi := ⟨some 5, _, _, _, _, _⟩) (v := ?_) rfl (by kernel_rfl) (by kernel_rfl) (by kernel_rfl) (fun _ _ _ h => h) (Or.inl ⟨by rfl, ?_⟩) (by assumption) ?_
  rotate_left
  · (intro w hSw; (try dsimp only at hSw); go_simp; try (with_reducible rfl))
  (try simp only [Act.put, List.setIfInBounds_toArray, List.set_cons_zero, List.set_cons_succ])
  refine wpAnyH_take (i := 13) (oi := ⟨some 6, _, _, _, _, _⟩) (v := ?_) rfl (by kernel_rfl) (by kernel_rfl) (by kernel_rfl) (fun _ _ _ h => h) (Or.inl ⟨by rfl, ?_⟩) (by assumption) ?_
  rotate_left
  · (intro w hSw; (try dsimp only at hSw); go_simp; try (with_reducible rfl))
  (try simp only [Act.put, List.setIfInBounds_toArray, List.set_cons_zero, List.set_cons_succ])
  refine wpAnyH_done (by kernel_rfl) ?_ _
  clear hHeld
  go_wp2
  go_ret3
  exact hpost
end Go.Proofs.YtgcbanljifalnaaDoor
/- Layer 14 (builtin): the builtins' functions, walked (2): what does not unify; a number's name; what always is; how numbers stand. Conditions: the arguments read; what they are made of is bounded. -/
namespace Go.Proofs.YtgcbanljifalnaaDoor
open Go.RowKit
attribute [local go_sem ↓] Go.wp_at_zero Go.wp_at_succ
set_option maxRecDepth 100000 in
set_option maxHeartbeats 8000000 in
theorem differs_c (l : Bs) (p m : Nat) (a b : Tm) (v : Value) (w : World) (hs : Sub w (fun _ => True) l p m) (hv : Kd.tm.S w (fun _ => True) [a, b] v) (hg : GB l [a, b]) :
    Calls Tryd.prog 62 #[.pointer (some ⟨p, 0, none⟩), v] w (DPost w.heap.size (Bi.run l (.dif) [a, b]) w) := by
  obtain ⟨A0, c, rfl⟩ := hv.form
  have HV := hv
  obtain ⟨g, o, A, ac, B, bc, rfl, hn, y0, y1, y2, y3, z0, z1, z2, z3, y4, z4⟩ := two_elem hv
  have HG : Hid (GK w l p m [a, b] (.slice (some ⟨g, o, none⟩) 2 c) w) := Lib.hid ⟨Below.refl _ _, hs, HV⟩
  have HU := Lib.hid (fun W (h1 : Kd.tm.S W (fun _ => True) a.l (.slice A a.l.length ac)) (h2 : Kd.tm.S W (fun _ => True) b.l (.slice B b.l.length bc)) (hk : GK w l p m [a, b] (.slice (some ⟨g, o, none⟩) 2 c) W) => Unify_c l p m a b _ _ W _ _ _ hk.sub ⟨_, rfl, h1⟩ ⟨_, rfl, h2⟩ hg.wf.1 hg.wf.2.1 (hg.sz a (by simp)) (hg.sz b (by simp)) hg.lsz hg.ll)
  have HW := Lib.hid (fun is W => when_c p is W)
  unfold QPost at HU
  cases hO : un 4098 0 l [(a, b)] with
  | full =>
    rw [hO] at HU
    have HR : Hid (Bi.run l .dif [a, b] = .err 31) := Lib.hid (by simp [Bi.run, hO])
    clear hs hv HV hg hO HW
    go_enter Tryd.func62, Tryd.ntmps62
    go_wp2
    refine wp_region_held_drew (S := (fun W => W.cell? ⟨g, o, none⟩ = some (.int .u8 a.k) ∧ W.cell? ⟨g, o + 1, none⟩ = some (.string a.s) ∧ W.cell? ⟨g, o + 2, none⟩ = some (.int .i64 a.n) ∧ W.cell? ⟨g, o + 3, none⟩ = some (.slice A a.l.length ac) ∧ W.cell? ⟨g, o + 4, none⟩ = some (.int .u8 b.k) ∧ W.cell? ⟨g, o + 5, none⟩ = some (.string b.s) ∧ W.cell? ⟨g, o + 6, none⟩ = some (.int .i64 b.n) ∧ W.cell? ⟨g, o + 7, none⟩ = some (.slice B b.l.length bc) ∧ Kd.tm.S W (fun _ => True) a.l (.slice A a.l.length ac) ∧ Kd.tm.S W (fun _ => True) b.l (.slice B b.l.length bc) ∧ GK w l p m [a, b] (.slice (some ⟨g, o, none⟩) 2 c) W)) (by kernel_rfl) ?_ (fun hHeld => ?_)
    · exact ⟨y0, y1, y2, y3, z0, z1, z2, z3, y4.below (Below.refl _ _).drew, z4.below (Below.refl _ _).drew, HG.out.then (Below.refl _ _).drew⟩
    change wpAnyH _ .any _ _ _ 15 (Array.replicate 15 false) _ _
    refine wpAnyH_take (i := 0) (oi := ⟨some 11, _, _, _, _, _⟩) (v := ?_) rfl (by kernel_rfl) (by kernel_rfl) (by kernel_rfl) (fun _ _ _ h => h) (Or.inl ⟨by rfl, ?_⟩) (by assumption) ?_
    rotate_left
    · (intro w hSw; (try dsimp only at hSw); go_simp; try (with_reducible rfl))
    (try simp only [Act.put, List.setIfInBounds_toArray, List.set_cons_zero, List.set_cons_succ])
    refine wpAnyH_take (i := 1) (oi := ⟨some 12, _, _, _, _, _⟩) (v := ?_) rfl (by kernel_rfl) (by kernel_rfl) (by kernel_rfl) (fun _ _ _ h => h) (Or.inl ⟨by rfl, ?_⟩) (by assumption) ?_
    rotate_left
    · (intro w hSw; (try dsimp only at hSw); go_simp; try (with_reducible rfl))
    (try simp only [Act.put, List.setIfInBounds_toArray, List.set_cons_zero, List.set_cons_succ])
    refine wpAnyH_take (i := 2) (oi := ⟨some 13, _, _, _, _, _⟩) (v := ?_) rfl (by kernel_rfl) (by kernel_rfl) (by kernel_rfl) (fun _ _ _ h => h) (Or.inl ⟨by rfl, ?_⟩) (by assumption) ?_
    rotate_left
    · (intro w hSw; (try dsimp only at hSw); go_simp; try (with_reducible rfl))
    (try simp only [Act.put, List.setIfInBounds_toArray, List.set_cons_zero, List.set_cons_succ])
    refine wpAnyH_take (i := 3) (oi := ⟨some 14, _, _, _, _, _⟩) (v := ?_) rfl (by kernel_rfl) (by kernel_rfl) (by kernel_rfl) (fun _ _ _ h => h) (Or.inl ⟨by rfl, ?_⟩) (by assumption) ?_
    rotate_left
    · (intro w hSw; (try dsimp only at hSw); go_simp; try (with_reducible rfl))
    (try simp only [Act.put, List.setIfInBounds_toArray, List.set_cons_zero, List.set_cons_succ])
    refine wpAnyH_take (i := 4) (oi := ⟨some 15, _, _, _, _, _⟩) (v := ?_) rfl (by kernel_rfl) (by kernel_rfl) (by kernel_rfl) (fun _ _ _ h => h) (Or.inl ⟨by rfl, ?_⟩) (by assumption) ?_
    rotate_left
    · (intro w hSw; (try dsimp only at hSw); go_simp; try (with_reducible rfl))
    (try simp only [Act.put, List.setIfInBounds_toArray, List.set_cons_zero, List.set_cons_succ])
    refine wpAnyH_take (i := 5) (oi := ⟨some 16, _, _, _, _, _⟩) (v := ?_) rfl (by kernel_rfl) (by kernel_rfl) (by kernel_rfl) (fun _ _ _ h => h) (Or.inl ⟨by rfl, ?_⟩) (by assumption) ?_
    rotate_left
    · (intro w hSw; (try dsimp only at hSw); go_simp; try (with_reducible rfl))
    (try simp only [Act.put, List.setIfInBounds_toArray, List.set_cons_zero, List.set_cons_succ])
    refine wpAnyH_take (i := 6) (oi := ⟨some 17, _, _, _, _, _⟩) (v := ?_) rfl (by kernel_rfl) (by kernel_rfl) (by kernel_rfl) (fun _ _ _ h => h) (Or.inl ⟨by rfl, ?_⟩) (by assumption) ?_
    rotate_left
    · (intro w hSw; (try dsimp only at hSw); go_simp; try (with_reducible rfl))
    (try simp only [Act.put, List.setIfInBounds_toArray, List.set_cons_zero, List.set_cons_succ])
    refine wpAnyH_ready (rs := [7]) (by kernel_rfl) (by simp) ?_
    refine AllReadyH.cons (o := ⟨some 18, _, _, _, _, _⟩) rfl (fun K hK => ?_) AllReadyH.nil
    go_simp
    obtain ⟨q0, q1, q2, q3, q4, q5, q6, q7, q8, q9, q10⟩ := id hHeld
    have hq := HU.out _ q8 q9 q10
    clear q0 q1 q2 q3 q4 q5 q6 q7 q8 q9 q10
    refine hq.mono ?_
    clear hq
    rintro e w9 ⟨rfl, hb9⟩
    go_wp2_with fail
    refine hK.out _ _ (by obtain ⟨q0, q1, q2, q3, q4, q5, q6, q7, q8, q9, q10⟩ := hHeld; exact ⟨held_cell hb9 q0, held_cell hb9 q1, held_cell hb9 q2, held_cell hb9 q3, held_cell hb9 q4, held_cell hb9 q5, held_cell hb9 q6, held_cell hb9 q7, q8.below hb9, q9.below hb9, q10.then hb9⟩) (fun hHeld => ?_)
    clear hK K
    (try simp only [Act.put, List.setIfInBounds_toArray, List.set_cons_zero, List.set_cons_succ])
    refine wpAnyH_take (i := 8) (oi := ⟨some 10, _, _, _, _, _⟩) (v := ?_) rfl (by kernel_rfl) (by kernel_rfl) (by kernel_rfl) (fun _ _ _ h => h) (Or.inl ⟨by rfl, ?_⟩) (by assumption) ?_
    rotate_left
    · (intro w hSw; (try dsimp only at hSw); go_simp; try (with_reducible rfl))
    (try simp only [Act.put, List.setIfInBounds_toArray, List.set_cons_zero, List.set_cons_succ])
    refine wpAnyH_take (i := 9) (oi := ⟨some 19, _, _, _, _, _⟩) (v := ?_) rfl (by kernel_rfl) (by kernel_rfl) (by kernel_rfl) (fun _ _ _ h => h) (Or.inl ⟨by rfl, ?_⟩) (by assumption) ?_
    rotate_left
    · (intro w hSw; (try dsimp only at hSw); go_simp; try (with_reducible rfl))
    (try simp only [Act.put, List.setIfInBounds_toArray, List.set_cons_zero, List.set_cons_succ])
    refine wpAnyH_take (i := 10) (oi := ⟨some 20, _, _, _, _, _⟩) (v := ?_) rfl (by kernel_rfl) (by kernel_rfl) (by kernel_rfl) (fun _ _ _ h => h) (Or.inl ⟨by rfl, ?_⟩) (by assumption) ?_
    rotate_left
    · (intro w hSw; (try dsimp only at hSw); go_simp; try (with_reducible rfl))
    (try simp only [Act.put, List.setIfInBounds_toArray, List.set_cons_zero, List.set_cons_succ])
    refine wpAnyH_take (i := 11) (oi := ⟨some 21, _, _, _, _, _⟩) (v := ?_) rfl (by kernel_rfl) (by kernel_rfl) (by kernel_rfl) (fun _ _ _ h => h) (Or.inl ⟨by rfl, ?_⟩) (by assumption) ?_
    rotate_left
    · (intro w hSw; (try dsimp only at hSw); go_simp; try (with_reducible rfl))
    (try simp only [Act.put, List.setIfInBounds_toArray, List.set_cons_zero, List.set_cons_succ])
    refine wpAnyH_take (i := 12) (oi := ⟨some 7, _, _, _, _, _⟩) (v := ?_) rfl (by kernel_rfl) (by kernel_rfl) (by kernel_rfl) (fun _ _ _ h => h) (Or.inl ⟨by rfl, ?_⟩) (by assumption) ?_
    rotate_left
    · (intro w hSw; (try dsimp only at hSw); go_simp; try (with_reducible rfl))
    (try simp only [Act.put, List.setIfInBounds_toArray, List.set_cons_zero, List.set_cons_succ])
    refine wpAnyH_take (i := 13) (oi := ⟨some 8, _, _, _, _, _⟩) (v := ?_) rfl (by kernel_rfl) (by kernel_rfl) (by kernel_rfl) (fun _ _ _ h => h) (Or.inl ⟨by rfl, ?_⟩) (by assumption) ?_
    rotate_left
    · (intro w hSw; (try dsimp only at hSw); go_simp; try (with_reducible rfl))
    (try simp only [Act.put, List.setIfInBounds_toArray, List.set_cons_zero, List.set_cons_succ])
    refine wpAnyH_take (i := 14) (oi := ⟨some 9, _, _, _, _, _⟩) (v := ?_) rfl (by kernel_rfl) (by kernel_rfl) (by kernel_rfl) (fun _ _ _ h => h) (Or.inl ⟨by rfl, ?_⟩) (by assumption) ?_
    rotate_left
    · (intro w hSw; (try dsimp only at hSw); go_simp; try (with_reducible rfl))
    (try simp only [Act.put, List.setIfInBounds_toArray, List.set_cons_zero, List.set_cons_succ])
    refine wpAnyH_done (by kernel_rfl) ?_ _
    have hH := hHeld.2.2.2.2.2.2.2.2.2.2
    clear hHeld
    go_wp2
    go_ret3
    exact ⟨by rw [HR.out]; rfl, hH.b0⟩
  | no =>
    rw [hO] at HU
    have HR : Hid (Bi.run l .dif [a, b] = whenD l true) := Lib.hid (by simp [Bi.run, hO, whenD])
    clear hs hv HV hg hO
    go_enter Tryd.func62, Tryd.ntmps62
    go_wp2
    refine wp_region_held_drew (S := (fun W => W.cell? ⟨g, o, none⟩ = some (.int .u8 a.k) ∧ W.cell? ⟨g, o + 1, none⟩ = some (.string a.s) ∧ W.cell? ⟨g, o + 2, none⟩ = some (.int .i64 a.n) ∧ W.cell? ⟨g, o + 3, none⟩ = some (.slice A a.l.length ac) ∧ W.cell? ⟨g, o + 4, none⟩ = some (.int .u8 b.k) ∧ W.cell? ⟨g, o + 5, none⟩ = some (.string b.s) ∧ W.cell? ⟨g, o + 6, none⟩ = some (.int .i64 b.n) ∧ W.cell? ⟨g, o + 7, none⟩ = some (.slice B b.l.length bc) ∧ Kd.tm.S W (fun _ => True) a.l (.slice A a.l.length ac) ∧ Kd.tm.S W (fun _ => True) b.l (.slice B b.l.length bc) ∧ GK w l p m [a, b] (.slice (some ⟨g, o, none⟩) 2 c) W)) (by kernel_rfl) ?_ (fun hHeld => ?_)
    · exact ⟨y0, y1, y2, y3, z0, z1, z2, z3, y4.below (Below.refl _ _).drew, z4.below (Below.refl _ _).drew, HG.out.then (Below.refl _ _).drew⟩
    change wpAnyH _ .any _ _ _ 15 (Array.replicate 15 false) _ _
    refine wpAnyH_take (i := 0) (oi := ⟨some 11, _, _, _, _, _⟩) (v := ?_) rfl (by kernel_rfl) (by kernel_rfl) (by kernel_rfl) (fun _ _ _ h => h) (Or.inl ⟨by rfl, ?_⟩) (by assumption) ?_
    rotate_left
    · (intro w hSw; (try dsimp only at hSw); go_simp; try (with_reducible rfl))
    (try simp only [Act.put, List.setIfInBounds_toArray, List.set_cons_zero, List.set_cons_succ])
    refine wpAnyH_take (i := 1) (oi := ⟨some 12, _, _, _, _, _⟩) (v := ?_) rfl (by kernel_rfl) (by kernel_rfl) (by kernel_rfl) (fun _ _ _ h => h) (Or.inl ⟨by rfl, ?_⟩) (by assumption) ?_
    rotate_left
    · (intro w hSw; (try dsimp only at hSw); go_simp; try (with_reducible rfl))
    (try simp only [Act.put, List.setIfInBounds_toArray, List.set_cons_zero, List.set_cons_succ])
    refine wpAnyH_take (i := 2) (oi := ⟨some 13, _, _, _, _, _⟩) (v := ?_) rfl (by kernel_rfl) (by kernel_rfl) (by kernel_rfl) (fun _ _ _ h => h) (Or.inl ⟨by rfl, ?_⟩) (by assumption) ?_
    rotate_left
    · (intro w hSw; (try dsimp only at hSw); go_simp; try (with_reducible rfl))
    (try simp only [Act.put, List.setIfInBounds_toArray, List.set_cons_zero, List.set_cons_succ])
    refine wpAnyH_take (i := 3) (oi := ⟨some 14, _, _, _, _, _⟩) (v := ?_) rfl (by kernel_rfl) (by kernel_rfl) (by kernel_rfl) (fun _ _ _ h => h) (Or.inl ⟨by rfl, ?_⟩) (by assumption) ?_
    rotate_left
    · (intro w hSw; (try dsimp only at hSw); go_simp; try (with_reducible rfl))
    (try simp only [Act.put, List.setIfInBounds_toArray, List.set_cons_zero, List.set_cons_succ])
    refine wpAnyH_take (i := 4) (oi := ⟨some 15, _, _, _, _, _⟩) (v := ?_) rfl (by kernel_rfl) (by kernel_rfl) (by kernel_rfl) (fun _ _ _ h => h) (Or.inl ⟨by rfl, ?_⟩) (by assumption) ?_
    rotate_left
    · (intro w hSw; (try dsimp only at hSw); go_simp; try (with_reducible rfl))
    (try simp only [Act.put, List.setIfInBounds_toArray, List.set_cons_zero, List.set_cons_succ])
    refine wpAnyH_take (i := 5) (oi := ⟨some 16, _, _, _, _, _⟩) (v := ?_) rfl (by kernel_rfl) (by kernel_rfl) (by kernel_rfl) (fun _ _ _ h => h) (Or.inl ⟨by rfl, ?_⟩) (by assumption) ?_
    rotate_left
    · (intro w hSw; (try dsimp only at hSw); go_simp; try (with_reducible rfl))
    (try simp only [Act.put, List.setIfInBounds_toArray, List.set_cons_zero, List.set_cons_succ])
    refine wpAnyH_take (i := 6) (oi := ⟨some 17, _, _, _, _, _⟩) (v := ?_) rfl (by kernel_rfl) (by kernel_rfl) (by kernel_rfl) (fun _ _ _ h => h) (Or.inl ⟨by rfl, ?_⟩) (by assumption) ?_
    rotate_left
    · (intro w hSw; (try dsimp only at hSw); go_simp; try (with_reducible rfl))
    (try simp only [Act.put, List.setIfInBounds_toArray, List.set_cons_zero, List.set_cons_succ])
    refine wpAnyH_ready (rs := [7]) (by kernel_rfl) (by simp) ?_
    refine AllReadyH.cons (o := ⟨some 18, _, _, _, _, _⟩) rfl (fun K hK => ?_) AllReadyH.nil
    go_simp
    obtain ⟨q0, q1, q2, q3, q4, q5, q6, q7, q8, q9, q10⟩ := id hHeld
    have hq := HU.out _ q8 q9 q10
    clear q0 q1 q2 q3 q4 q5 q6 q7 q8 q9 q10
    refine hq.mono ?_
    clear hq
    rintro e w9 ⟨rfl, hb9⟩
    go_wp2_with fail
    refine hK.out _ _ (by obtain ⟨q0, q1, q2, q3, q4, q5, q6, q7, q8, q9, q10⟩ := hHeld; exact ⟨held_cell hb9 q0, held_cell hb9 q1, held_cell hb9 q2, held_cell hb9 q3, held_cell hb9 q4, held_cell hb9 q5, held_cell hb9 q6, held_cell hb9 q7, q8.below hb9, q9.below hb9, q10.then hb9⟩) (fun hHeld => ?_)
    clear hK K
    (try simp only [Act.put, List.setIfInBounds_toArray, List.set_cons_zero, List.set_cons_succ])
    refine wpAnyH_take (i := 8) (oi := ⟨some 10, _, _, _, _, _⟩) (v := ?_) rfl (by kernel_rfl) (by kernel_rfl) (by kernel_rfl) (fun _ _ _ h => h) (Or.inl ⟨by rfl, ?_⟩) (by assumption) ?_
    rotate_left
    · (intro w hSw; (try dsimp only at hSw); go_simp; try (with_reducible rfl))
    (try simp only [Act.put, List.setIfInBounds_toArray, List.set_cons_zero, List.set_cons_succ])
    refine wpAnyH_take (i := 9) (oi := ⟨some 19, _, _, _, _, _⟩) (v := ?_) rfl (by kernel_rfl) (by kernel_rfl) (by kernel_rfl) (fun _ _ _ h => h) (Or.inl ⟨by rfl, ?_⟩) (by assumption) ?_
    rotate_left
    · (intro w hSw; (try dsimp only at hSw); go_simp; try (with_reducible rfl))
    (try simp only [Act.put, List.setIfInBounds_toArray, List.set_cons_zero, List.set_cons_succ])
    refine wpAnyH_take (i := 10) (oi := ⟨some 20, _, _, _, _, _⟩) (v := ?_) rfl (by kernel_rfl) (by kernel_rfl) (by kernel_rfl) (fun _ _ _ h => h) (Or.inl ⟨by rfl, ?_⟩) (by assumption) ?_
    rotate_left
    · (intro w hSw; (try dsimp only at hSw); go_simp; try (with_reducible rfl))
    (try simp only [Act.put, List.setIfInBounds_toArray, List.set_cons_zero, List.set_cons_succ])
    refine wpAnyH_take (i := 11) (oi := ⟨some 21, _, _, _, _, _⟩) (v := ?_) rfl (by kernel_rfl) (by kernel_rfl) (by kernel_rfl) (fun _ _ _ h => h) (Or.inl ⟨by rfl, ?_⟩) (by assumption) ?_
    rotate_left
    · (intro w hSw; (try dsimp only at hSw); go_simp; try (with_reducible rfl))
    (try simp only [Act.put, List.setIfInBounds_toArray, List.set_cons_zero, List.set_cons_succ])
    refine wpAnyH_take (i := 12) (oi := ⟨some 7, _, _, _, _, _⟩) (v := ?_) rfl (by kernel_rfl) (by kernel_rfl) (by kernel_rfl) (fun _ _ _ h => h) (Or.inl ⟨by rfl, ?_⟩) (by assumption) ?_
    rotate_left
    · (intro w hSw; (try dsimp only at hSw); go_simp; try (with_reducible rfl))
    (try simp only [Act.put, List.setIfInBounds_toArray, List.set_cons_zero, List.set_cons_succ])
    refine wpAnyH_take (i := 13) (oi := ⟨some 8, _, _, _, _, _⟩) (v := ?_) rfl (by kernel_rfl) (by kernel_rfl) (by kernel_rfl) (fun _ _ _ h => h) (Or.inl ⟨by rfl, ?_⟩) (by assumption) ?_
    rotate_left
    · (intro w hSw; (try dsimp only at hSw); go_simp; try (with_reducible rfl))
    (try simp only [Act.put, List.setIfInBounds_toArray, List.set_cons_zero, List.set_cons_succ])
    refine wpAnyH_take (i := 14) (oi := ⟨some 9, _, _, _, _, _⟩) (v := ?_) rfl (by kernel_rfl) (by kernel_rfl) (by kernel_rfl) (fun _ _ _ h => h) (Or.inl ⟨by rfl, ?_⟩) (by assumption) ?_
    rotate_left
    · (intro w hSw; (try dsimp only at hSw); go_simp; try (with_reducible rfl))
    (try simp only [Act.put, List.setIfInBounds_toArray, List.set_cons_zero, List.set_cons_succ])
    refine wpAnyH_done (by kernel_rfl) ?_ _
    have hH := hHeld.2.2.2.2.2.2.2.2.2.2
    clear hHeld
    go_wp2_with (go_at_call 95; refine (HW.out true _).mono ?_; clear HW; rintro e w5 ⟨rfl, hw5⟩; rw [hw5]; clear hw5)
    go_ret3
    rw [HR.out]
    exact whenD_post (is := true) hH.sub hH.b0
  | yes l' n =>
    rw [hO] at HU
    have HR : Hid (Bi.run l .dif [a, b] = whenD l false) := Lib.hid (by simp [Bi.run, hO, whenD])
    clear hs hv HV hg hO
    go_enter Tryd.func62, Tryd.ntmps62
    go_wp2
    refine wp_region_held_drew (S := (fun W => W.cell? ⟨g, o, none⟩ = some (.int .u8 a.k) ∧ W.cell? ⟨g, o + 1, none⟩ = some (.string a.s) ∧ W.cell? ⟨g, o + 2, none⟩ = some (.int .i64 a.n) ∧ W.cell? ⟨g, o + 3, none⟩ = some (.slice A a.l.length ac) ∧ W.cell? ⟨g, o + 4, none⟩ = some (.int .u8 b.k) ∧ W.cell? ⟨g, o + 5, none⟩ = some (.string b.s) ∧ W.cell? ⟨g, o + 6, none⟩ = some (.int .i64 b.n) ∧ W.cell? ⟨g, o + 7, none⟩ = some (.slice B b.l.length bc) ∧ Kd.tm.S W (fun _ => True) a.l (.slice A a.l.length ac) ∧ Kd.tm.S W (fun _ => True) b.l (.slice B b.l.length bc) ∧ GK w l p m [a, b] (.slice (some ⟨g, o, none⟩) 2 c) W)) (by kernel_rfl) ?_ (fun hHeld => ?_)
    · exact ⟨y0, y1, y2, y3, z0, z1, z2, z3, y4.below (Below.refl _ _).drew, z4.below (Below.refl _ _).drew, HG.out.then (Below.refl _ _).drew⟩
    change wpAnyH _ .any _ _ _ 15 (Array.replicate 15 false) _ _
    refine wpAnyH_take (i := 0) (oi := ⟨some 11, _, _, _, _, _⟩) (v := ?_) rfl (by kernel_rfl) (by kernel_rfl) (by kernel_rfl) (fun _ _ _ h => h) (Or.inl ⟨by rfl, ?_⟩) (by assumption) ?_
    rotate_left
    · (intro w hSw; (try dsimp only at hSw); go_simp; try (with_reducible rfl))
    (try simp only [Act.put, List.setIfInBounds_toArray, List.set_cons_zero, List.set_cons_succ])
    refine wpAnyH_take (i := 1) (oi := ⟨some 12, _, _, _, _, _⟩) (v := ?_) rfl (by kernel_rfl) (by kernel_rfl) (by kernel_rfl) (fun _ _ _ h => h) (Or.inl ⟨by rfl, ?_⟩) (by assumption) ?_
    rotate_left
    · (intro w hSw; (try dsimp only at hSw); go_simp; try (with_reducible rfl))
    (try simp only [Act.put, List.setIfInBounds_toArray, List.set_cons_zero, List.set_cons_succ])
    refine wpAnyH_take (i := 2) (oi := ⟨some 13, _, _, _, _, _⟩) (v := ?_) rfl (by kernel_rfl) (by kernel_rfl) (by kernel_rfl) (fun _ _ _ h => h) (Or.inl ⟨by rfl, ?_⟩) (by assumption) ?_
    rotate_left
    · (intro w hSw; (try dsimp only at hSw); go_simp; try (with_reducible rfl))
    (try simp only [Act.put, List.setIfInBounds_toArray, List.set_cons_zero, List.set_cons_succ])
    refine wpAnyH_take (i := 3) (oi := ⟨some 14, _, _, _, _, _⟩) (v := ?_) rfl (by kernel_rfl) (by kernel_rfl) (by kernel_rfl) (fun _ _ _ h => h) (Or.inl ⟨by rfl, ?_⟩) (by assumption) ?_
    rotate_left
    · (intro w hSw; (try dsimp only at hSw); go_simp; try (with_reducible rfl))
    (try simp only [Act.put, List.setIfInBounds_toArray, List.set_cons_zero, List.set_cons_succ])
    refine wpAnyH_take (i := 4) (oi := ⟨some 15, _, _, _, _, _⟩) (v := ?_) rfl (by kernel_rfl) (by kernel_rfl) (by kernel_rfl) (fun _ _ _ h => h) (Or.inl ⟨by rfl, ?_⟩) (by assumption) ?_
    rotate_left
    · (intro w hSw; (try dsimp only at hSw); go_simp; try (with_reducible rfl))
    (try simp only [Act.put, List.setIfInBounds_toArray, List.set_cons_zero, List.set_cons_succ])
    refine wpAnyH_take (i := 5) (oi := ⟨some 16, _, _, _, _, _⟩) (v := ?_) rfl (by kernel_rfl) (by kernel_rfl) (by kernel_rfl) (fun _ _ _ h => h) (Or.inl ⟨by rfl, ?_⟩) (by assumption) ?_
    rotate_left
    · (intro w hSw; (try dsimp only at hSw); go_simp; try (with_reducible rfl))
    (try simp only [Act.put, List.setIfInBounds_toArray, List.set_cons_zero, List.set_cons_succ])
    refine wpAnyH_take (i := 6) (oi := ⟨some 17, _, _, _, _, _⟩) (v := ?_) rfl (by kernel_rfl) (by kernel_rfl) (by kernel_rfl) (fun _ _ _ h => h) (Or.inl ⟨by rfl, ?_⟩) (by assumption) ?_
    rotate_left
    · (intro w hSw; (try dsimp only at hSw); go_simp; try (with_reducible rfl))
    (try simp only [Act.put, List.setIfInBounds_toArray, List.set_cons_zero, List.set_cons_succ])
    refine wpAnyH_ready (rs := [7]) (by kernel_rfl) (by simp) ?_
    refine AllReadyH.cons (o := ⟨some 18, _, _, _, _, _⟩) rfl (fun K hK => ?_) AllReadyH.nil
    go_simp
    obtain ⟨q0, q1, q2, q3, q4, q5, q6, q7, q8, q9, q10⟩ := id hHeld
    have hq := HU.out _ q8 q9 q10
    clear q0 q1 q2 q3 q4 q5 q6 q7 q8 q9 q10
    refine hq.mono ?_
    clear hq
    rintro e w9 ⟨⟨p9, m9, rfl, hs9⟩, hb9⟩
    go_wp2_with fail
    refine hK.out _ _ (by obtain ⟨q0, q1, q2, q3, q4, q5, q6, q7, q8, q9, q10⟩ := hHeld; exact ⟨held_cell hb9 q0, held_cell hb9 q1, held_cell hb9 q2, held_cell hb9 q3, held_cell hb9 q4, held_cell hb9 q5, held_cell hb9 q6, held_cell hb9 q7, q8.below hb9, q9.below hb9, q10.then hb9⟩) (fun hHeld => ?_)
    clear hK K
    (try simp only [Act.put, List.setIfInBounds_toArray, List.set_cons_zero, List.set_cons_succ])
    refine wpAnyH_take (i := 8) (oi := ⟨some 10, _, _, _, _, _⟩) (v := ?_) rfl (by kernel_rfl) (by kernel_rfl) (by kernel_rfl) (fun _ _ _ h => h) (Or.inl ⟨by rfl, ?_⟩) (by assumption) ?_
    rotate_left
    · (intro w hSw; (try dsimp only at hSw); go_simp; try (with_reducible rfl))
    (try simp only [Act.put, List.setIfInBounds_toArray, List.set_cons_zero, List.set_cons_succ])
    refine wpAnyH_take (i := 9) (oi := ⟨some 19, _, _, _, _, _⟩) (v := ?_) rfl (by kernel_rfl) (by kernel_rfl) (by kernel_rfl) (fun _ _ _ h => h) (Or.inl ⟨by rfl, ?_⟩) (by assumption) ?_
    rotate_left
    · (intro w hSw; (try dsimp only at hSw); go_simp; try (with_reducible rfl))
    (try simp only [Act.put, List.setIfInBounds_toArray, List.set_cons_zero, List.set_cons_succ])
    refine wpAnyH_take (i := 10) (oi := ⟨some 20, _, _, _, _, _⟩) (v := ?_) rfl (by kernel_rfl) (by kernel_rfl) (by kernel_rfl) (fun _ _ _ h => h) (Or.inl ⟨by rfl, ?_⟩) (by assumption) ?_
    rotate_left
    · (intro w hSw; (try dsimp only at hSw); go_simp; try (with_reducible rfl))
    (try simp only [Act.put, List.setIfInBounds_toArray, List.set_cons_zero, List.set_cons_succ])
    refine wpAnyH_take (i := 11) (oi := ⟨some 21, _, _, _, _, _⟩) (v := ?_) rfl (by kernel_rfl) (by kernel_rfl) (by kernel_rfl) (fun _ _ _ h => h) (Or.inl ⟨by rfl, ?_⟩) (by assumption) ?_
    rotate_left
    · (intro w hSw; (try dsimp only at hSw); go_simp; try (with_reducible rfl))
    (try simp only [Act.put, List.setIfInBounds_toArray, List.set_cons_zero, List.set_cons_succ])
    refine wpAnyH_take (i := 12) (oi := ⟨some 7, _, _, _, _, _⟩) (v := ?_) rfl (by kernel_rfl) (by kernel_rfl) (by kernel_rfl) (fun _ _ _ h => h) (Or.inl ⟨by rfl, ?_⟩) (by assumption) ?_
    rotate_left
    · (intro w hSw; (try dsimp only at hSw); go_simp; try (with_reducible rfl))
    (try simp only [Act.put, List.setIfInBounds_toArray, List.set_cons_zero, List.set_cons_succ])
    refine wpAnyH_take (i := 13) (oi := ⟨some 8, _, _, _, _, _⟩) (v := ?_) rfl (by kernel_rfl) (by kernel_rfl) (by kernel_rfl) (fun _ _ _ h => h) (Or.inl ⟨by rfl, ?_⟩) (by assumption) ?_
    rotate_left
    · (intro w hSw; (try dsimp only at hSw); go_simp; try (with_reducible rfl))
    (try simp only [Act.put, List.setIfInBounds_toArray, List.set_cons_zero, List.set_cons_succ])
    refine wpAnyH_take (i := 14) (oi := ⟨some 9, _, _, _, _, _⟩) (v := ?_) rfl (by kernel_rfl) (by kernel_rfl) (by kernel_rfl) (fun _ _ _ h => h) (Or.inl ⟨by rfl, ?_⟩) (by assumption) ?_
    rotate_left
    · (intro w hSw; (try dsimp only at hSw); go_simp; try (with_reducible rfl))
    (try simp only [Act.put, List.setIfInBounds_toArray, List.set_cons_zero, List.set_cons_succ])
    refine wpAnyH_done (by kernel_rfl) ?_ _
    have hH := hHeld.2.2.2.2.2.2.2.2.2.2
    clear hHeld
    go_wp2_with (go_at_call 95; refine (HW.out false _).mono ?_; clear HW; rintro e w5 ⟨rfl, hw5⟩; rw [hw5]; clear hw5)
    go_ret3
    rw [HR.out]
    exact whenD_post (is := false) hH.sub hH.b0
theorem always_c (l : Bs) (p m : Nat) (is : Bool) (v : Value) (w : World) (B : Nat) (hs : Sub w (fun _ => True) l p m) (hB : w.cell? ⟨B, 0, none⟩ = some (.bool is)) :
    Calls Tryd.prog 94 #[.pointer (some ⟨p, 0, none⟩), v, .pointer (some ⟨B, 0, none⟩)] w (DPost w.heap.size (whenD l is) w) := by
  have HW := Lib.hid (fun W => when_c p is W)
  have HS := Lib.hid hs
  clear hs
  go_enter Tryd.func94, Tryd.ntmps94
  cases is
  · go_wp2_with (go_at_call 95; refine (HW.out _).mono ?_; clear HW; rintro e w5 ⟨rfl, hw5⟩; rw [hw5]; clear hw5)
    go_ret3
    exact whenD_post (is := false) HS.out (Below.refl _ _)
  · go_wp2_with (go_at_call 95; refine (HW.out _).mono ?_; clear HW; rintro e w5 ⟨rfl, hw5⟩; rw [hw5]; clear hw5)
    go_ret3
    exact whenD_post (is := true) HS.out (Below.refl _ _)
end Go.Proofs.YtgcbanljifalnaaDoor
/- Layer 14 (builtin): the builtins' functions, walked (3): what a term is worth; how numbers stand. Conditions: the arguments read; what they are made of is bounded. -/
namespace Go.Proofs.YtgcbanljifalnaaDoor
open Go.RowKit
attribute [local go_sem ↓] Go.wp_at_zero Go.wp_at_succ
theorem DPost.tup {N : Nat} {O : DO} {w w' : World} {e : Ending} (h : DPost N O w e w') : ∃ v1 v2 v3, e = .returned (.tuple #[v1, v2, v3]) ∧ DPost N O w (.returned (.tuple #[v1, v2, v3])) w' := by
  cases O with
  | err x => obtain ⟨rfl, h2⟩ := h; exact ⟨_, _, _, rfl, rfl, h2⟩
  | no => obtain ⟨rfl, h2⟩ := h; exact ⟨_, _, _, rfl, rfl, h2⟩
  | yes l => obtain ⟨⟨p, m, rfl, hs⟩, h2⟩ := h; exact ⟨_, _, _, rfl, ⟨p, m, rfl, hs⟩, h2⟩
/-- What a term is worth, walked. -/
theorem evA_c (l : Bs) (p m : Nat) (x : Tm) (u : Value) (W : World) (hs : Sub W (fun _ => True) l p m) (hu : Kd.tm.S W (fun _ => True) x.l u) (hx : x.Wf) :
    Calls Tryd.prog 100 #[.pointer (some ⟨p, 0, none⟩), .agg #[.int .u8 x.k, .string x.s, .int .i64 x.n, u]] W fun e w' => e = .returned (.tuple #[.int .i64 (evA l x).val, .int .i64 (evA l x).err]) ∧ Below W.heap.size W w' :=
  Eval_c l p m x (fuelOf l x) (hs.acyc.fueled x) _ W _ _ hs ⟨u, rfl, hu⟩ hx
/-- A comparison's function. -/
def CmF (m : Cm) : Nat := match m with
  | .lt => 54
  | .gt => 55
  | .eq => 56
  | .ne => 57
  | .le => 58
  | .ge => 59
theorem cm_lt_c (c : Int) (w : World) : Calls Tryd.prog 54 #[.int .i64 c] w fun e w' => e = .returned (.bool (Cm.so .lt c)) ∧ w' = w := by
  have HX := Lib.hid (show Cm.so .lt c = decide (c < 0) from rfl)
  go_enter Tryd.func54, Tryd.ntmps54
  go_wp2
  go_ret
  exact ⟨by rw [HX.out]; first | rfl | simp | (congr 2), rfl⟩
theorem cm_gt_c (c : Int) (w : World) : Calls Tryd.prog 55 #[.int .i64 c] w fun e w' => e = .returned (.bool (Cm.so .gt c)) ∧ w' = w := by
  have HX := Lib.hid (show Cm.so .gt c = decide (0 < c) from rfl)
  go_enter Tryd.func55, Tryd.ntmps55
  go_wp2
  go_ret
  exact ⟨by rw [HX.out]; first | rfl | simp | (congr 2), rfl⟩
theorem cm_eq_c (c : Int) (w : World) : Calls Tryd.prog 56 #[.int .i64 c] w fun e w' => e = .returned (.bool (Cm.so .eq c)) ∧ w' = w := by
  have HX := Lib.hid (show Cm.so .eq c = decide (c = 0) from rfl)
  go_enter Tryd.func56, Tryd.ntmps56
  go_wp2
  go_ret
  exact ⟨by rw [HX.out]; first | rfl | simp | (congr 2), rfl⟩
theorem cm_ne_c (c : Int) (w : World) : Calls Tryd.prog 57 #[.int .i64 c] w fun e w' => e = .returned (.bool (Cm.so .ne c)) ∧ w' = w := by
  have HX := Lib.hid (show Cm.so .ne c = decide (c ≠ 0) from rfl)
  go_enter Tryd.func57, Tryd.ntmps57
  go_wp2
  go_ret
  exact ⟨by rw [HX.out]; by_cases hc : c = 0 <;> simp [hc], rfl⟩
theorem cm_le_c (c : Int) (w : World) : Calls Tryd.prog 58 #[.int .i64 c] w fun e w' => e = .returned (.bool (Cm.so .le c)) ∧ w' = w := by
  have HX := Lib.hid (show Cm.so .le c = decide (c ≤ 0) from rfl)
  go_enter Tryd.func58, Tryd.ntmps58
  go_wp2
  go_ret
  exact ⟨by rw [HX.out]; first | rfl | simp | (congr 2), rfl⟩
theorem cm_ge_c (c : Int) (w : World) : Calls Tryd.prog 59 #[.int .i64 c] w fun e w' => e = .returned (.bool (Cm.so .ge c)) ∧ w' = w := by
  have HX := Lib.hid (show Cm.so .ge c = decide (0 ≤ c) from rfl)
  go_enter Tryd.func59, Tryd.ntmps59
  go_wp2
  go_ret
  exact ⟨by rw [HX.out]; first | rfl | simp | (congr 2), rfl⟩
theorem cm_c (m : Cm) (c : Int) (w : World) : Calls Tryd.prog (CmF m) #[.int .i64 c] w fun e w' => e = .returned (.bool (m.so c)) ∧ w' = w := by
  cases m
  · exact cm_lt_c c w
  · exact cm_gt_c c w
  · exact cm_eq_c c w
  · exact cm_ne_c c w
  · exact cm_le_c c w
  · exact cm_ge_c c w
set_option maxRecDepth 100000 in
set_option maxHeartbeats 8000000 in
theorem becomes_c (l : Bs) (p m : Nat) (a b : Tm) (v : Value) (w : World) (hs : Sub w (fun _ => True) l p m) (hv : Kd.tm.S w (fun _ => True) [a, b] v) (hg : GB l [a, b]) :
    Calls Tryd.prog 65 #[.pointer (some ⟨p, 0, none⟩), v] w (DPost w.heap.size (Bi.run l (.becomes) [a, b]) w) := by
  obtain ⟨A0, c, rfl⟩ := hv.form
  have HV := hv
  obtain ⟨g, o, A, ac, B, bc, rfl, hn, y0, y1, y2, y3, z0, z1, z2, z3, y4, z4⟩ := two_elem hv
  have HG : Hid (GK w l p m [a, b] (.slice (some ⟨g, o, none⟩) 2 c) w) := Lib.hid ⟨Below.refl _ _, hs, HV⟩
  have HE := Lib.hid (evA_c l p m b _ w hs z4 hg.wf.2.1)
  have HIN : ∀ n, evA l b = .ok n → in64 n := fun n h => evF_in hs.wf _ _ _ _ hg.wf.2.1 h
  have HZ : ∀ e, evA l b = .er e → e ≠ 0 := fun e h => evF_er' _ _ _ _ h
  cases hr : evA l b with
  | er x =>
    rw [hr] at HE
    have hx := HZ x hr
    have hx1 : (x != 0) = true := by simpa using hx
    have HR : Hid (Bi.run l .becomes [a, b] = .err x) := Lib.hid (by simp [Bi.run, hr, Rk.err, hx])
    clear hs hv HV hg HIN HZ hr hx
    simp only [Rk.val, Rk.err] at HE
    go_enter Tryd.func65, Tryd.ntmps65
    go_wp2_with (go_at_call 100; refine HE.out.mono ?_; clear HE; rintro e w5 ⟨rfl, hb5⟩)
    go_ret3
    exact ⟨by rw [HR.out]; rfl, hb5⟩
  | ok n =>
    rw [hr] at HE
    have hn64 := HIN n hr
    unfold in64 at hn64
    have HR : Hid (Bi.run l .becomes [a, b] = (un 4098 0 l [(a, tInt n)]).do) := Lib.hid (by simp [Bi.run, hr, Rk.err, Rk.val])
    have HU := Lib.hid (fun W (h1 : Kd.tm.S W (fun _ => True) a.l (.slice A a.l.length ac)) (hk : GK w l p m [a, b] (.slice (some ⟨g, o, none⟩) 2 c) W) =>
      Calls.mono (Unify_c l p m a (tInt n) _ (.agg #[.int .u8 2, .string ⟨#[]⟩, .int .i64 n, .slice none 0 0]) W _ (fun _ => True) _ hk.sub ⟨_, rfl, h1⟩ ⟨_, rfl, Kd.S.nil _ _ _⟩ hg.wf.1 (by simp [tInt, Tm.Wf, WfL, ByteArray.size]; omega) (hg.sz a (by simp)) (by simp [tInt, Tm.siz, sizL]) hg.lsz hg.ll) (fun e w' h => (QPost.do h hk.b0 hk.b0.size).tup))
    clear hs hv HV hg HIN HZ hr
    simp only [Rk.val, Rk.err] at HE
    go_enter Tryd.func65, Tryd.ntmps65
    go_wp2_with (first
      | (go_at_call 100; refine HE.out.mono ?_; clear HE; rintro e w5 ⟨rfl, hb5⟩; have hk5 := HG.out.then hb5; have Y4 := y4.below hb5; replace y0 := held_cell hb5 y0; replace y1 := held_cell hb5 y1; replace y2 := held_cell hb5 y2; replace y3 := held_cell hb5 y3)
      | (go_at_call 96; refine (HU.out _ Y4 hk5).mono ?_; clear HU; rintro e w6 ⟨v1, v2, v3, rfl, hpost⟩))
    go_ret3
    rw [HR.out]
    exact hpost
end Go.Proofs.YtgcbanljifalnaaDoor
/- Layer 14 (builtin): two terms applied, walked. Conditions: the arguments read; what they are made of is bounded. -/
namespace Go.Proofs.YtgcbanljifalnaaDoor
open Go.RowKit
attribute [local go_sem ↓] Go.wp_at_zero Go.wp_at_succ
/-- A term applied, walked. -/
theorem appA_c (l : Bs) (p m : Nat) (x : Tm) (u : Value) (W : World) {ok : Nat → Prop} (hs : Sub W ok l p m) (hu : Kd.tm.S W ok x.l u) (hx : x.Wf) (hz : x.siz ≤ 1000000) (hsm : ∀ n t, ofB l n = some t → t.siz ≤ 1000000) :
    Calls Tryd.prog 115 #[.pointer (some ⟨p, 0, none⟩), .agg #[.int .u8 x.k, .string x.s, .int .i64 x.n, u]] W fun e w' => (∃ (y : Tm) (r : Value), e = .returned (.tuple #[.agg #[.int .u8 y.k, .string y.s, .int .i64 y.n, r], .int .i64 (if (visA l x).length ≤ 4096 then 0 else 31)]) ∧ Kd.tm.S w' (fun k => ok k ∨ W.heap.size ≤ k) y.l r ∧ ((visA l x).length ≤ 4096 → y = appA l x)) ∧ Below W.heap.size W w' := by
  refine (Apply_c l p m (fuelOf l x) x _ W _ hs ⟨u, rfl, hu⟩ hx (hs.acyc.fueled x) hsm hz).mono ?_
  rintro e w' ⟨⟨v, rfl, ⟨r, rfl, hr⟩⟩, hb⟩
  refine ⟨⟨_, r, ?_, hr, ?_⟩, hb⟩
  · congr 5
    unfold appE
    split <;> split <;> first | rfl | contradiction
  · intro h
    unfold appE
    have h' : (vis l (fuelOf l x) x).length ≤ 4096 := h
    rw [if_pos h']
    rfl
theorem set4_cell {W : World} {B X i : Nat} {a b c d : Value} (h : B ≠ X) : ((((W.setCell ⟨B, 0, none⟩ a).setCell ⟨B, 1, none⟩ b).setCell ⟨B, 2, none⟩ c).setCell ⟨B, 3, none⟩ d).cell? ⟨X, i, none⟩ = W.cell? ⟨X, i, none⟩ := by
  rw [World.cell?_setCell_other _ _ _ _ (by intro e; injection e; omega), World.cell?_setCell_other _ _ _ _ (by intro e; injection e; omega), World.cell?_setCell_other _ _ _ _ (by intro e; injection e; omega), World.cell?_setCell_other _ _ _ _ (by intro e; injection e; omega)]
theorem drew_cell (W : World) (a : Addr) : W.drew.cell? a = W.cell? a := rfl
theorem set4_below (W : World) (B : Nat) (a b c d : Value) : Below B W ((((W.setCell ⟨B, 0, none⟩ a).setCell ⟨B, 1, none⟩ b).setCell ⟨B, 2, none⟩ c).setCell ⟨B, 3, none⟩ d) :=
  ⟨rfl, rfl, rfl, by simp [World.setCell], fun k hk => by
    rw [Below.heap_setCell _ _ _ _ (by show k ≠ B; omega), Below.heap_setCell _ _ _ _ (by show k ≠ B; omega), Below.heap_setCell _ _ _ _ (by show k ≠ B; omega), Below.heap_setCell _ _ _ _ (by show k ≠ B; omega)]⟩
theorem set4_heap {W : World} {B X : Nat} {a b c d : Value} (h : B ≠ X) : ((((W.setCell ⟨B, 0, none⟩ a).setCell ⟨B, 1, none⟩ b).setCell ⟨B, 2, none⟩ c).setCell ⟨B, 3, none⟩ d).heap[X]? = W.heap[X]? := by
  have e : X ≠ B := fun q => h q.symm
  rw [Below.heap_setCell _ _ _ _ (by show X ≠ B; exact e), Below.heap_setCell _ _ _ _ (by show X ≠ B; exact e), Below.heap_setCell _ _ _ _ (by show X ≠ B; exact e), Below.heap_setCell _ _ _ _ (by show X ≠ B; exact e)]
set_option maxRecDepth 100000 in
set_option maxHeartbeats 8000000 in
theorem two_c (l : Bs) (p m : Nat) (a b : Tm) (v : Value) (w : World) (hs : Sub w (fun _ => True) l p m) (hv : Kd.tm.S w (fun _ => True) [a, b] v) (hg : GB l [a, b]) (h1 : ¬ (visA l a).length ≤ 4096) :
    Calls Tryd.prog 98 #[.pointer (some ⟨p, 0, none⟩), v] w fun e w' => (∃ (y : Tm) (A : Option Addr) (c : Nat), e = .returned (.tuple #[.agg #[.int .u8 y.k, .string y.s, .int .i64 y.n, .slice A y.l.length c], .agg #[.int .u8 y.k, .string y.s, .int .i64 y.n, .slice A y.l.length c], .int .i64 31])) ∧ Below w.heap.size w w' := by
  obtain ⟨A0, c, rfl⟩ := hv.form
  have HV := hv
  obtain ⟨g, o, A, ac, B, bc, rfl, hn, y0, y1, y2, y3, z0, z1, z2, z3, y4, z4⟩ := two_elem hv
  have HG : Hid (GK w l p m [a, b] (.slice (some ⟨g, o, none⟩) 2 c) w) := Lib.hid ⟨Below.refl _ _, hs, HV⟩
  have hlt : g < w.heap.size := cell_lt y0
  have HA := Lib.hid (fun W (h1 : Kd.tm.S W (fun _ => True) a.l (.slice A a.l.length ac)) (hk : GK w l p m [a, b] (.slice (some ⟨g, o, none⟩) 2 c) W) => appA_c l p m a (.slice A a.l.length ac) W hk.sub h1 hg.wf.1 (hg.sz a (by simp)) hg.lsz)
  rw [if_neg h1] at HA
  have hb1 : Below w.heap.size w ((w.alloc (.cells #[.int .u8 0, .string ⟨#[]⟩, .int .i64 0, .slice none 0 0] 24)).alloc (.cells #[.int .u8 0, .string ⟨#[]⟩, .int .i64 0, .slice none 0 0] 24)) := ((Below.refl _ w).alloc (Nat.le_refl _) _).alloc (by simp) _
  have hk1 := HG.out.then hb1
  have Y4 := y4.below hb1
  replace y0 := held_cell hb1 y0
  replace y1 := held_cell hb1 y1
  replace y2 := held_cell hb1 y2
  replace y3 := held_cell hb1 y3
  clear hs hv HV hg h1
  go_enter Tryd.func98, Tryd.ntmps98
  go_wp2_with (go_at_call 115; refine (HA.out _ Y4 hk1).mono ?_; clear HA; rintro e w5 ⟨⟨y, r, rfl, hr, -⟩, hb5⟩; obtain ⟨rA, rc, rfl⟩ := hr.form)
  have hsz : w.heap.size + 1 < w5.heap.size := by have := hb5.size; simp at this; omega
  have hX : (w5.alloc (.cells #[.int .u8 y.k, .string y.s, .int .i64 y.n, .slice rA y.l.length rc] 24)).heap[w5.heap.size]? = some (.cells #[.int .u8 y.k, .string y.s, .int .i64 y.n, .slice rA y.l.length rc] 24 (0, 0)) := heap_new w5 _
  have hb6 : Below w.heap.size w (w5.alloc (.cells #[.int .u8 y.k, .string y.s, .int .i64 y.n, .slice rA y.l.length rc] 24)) := (hk1.then hb5).b0.alloc (by omega) _
  have p0 : (w5.alloc (.cells #[.int .u8 y.k, .string y.s, .int .i64 y.n, .slice rA y.l.length rc] 24)).heap[w.heap.size]? = some (.cells #[.int .u8 0, .string ⟨#[]⟩, .int .i64 0, .slice none 0 0] 24 (0, 0)) := (Below.heap_alloc _ _ _ (by omega)).trans ((hb5.block _ (by simp; omega)).trans ((Below.heap_alloc _ _ _ (by simp)).trans (heap_new w _)))
  have p1 : (w5.alloc (.cells #[.int .u8 y.k, .string y.s, .int .i64 y.n, .slice rA y.l.length rc] 24)).heap[w.heap.size + 1]? = some (.cells #[.int .u8 0, .string ⟨#[]⟩, .int .i64 0, .slice none 0 0] 24 (0, 0)) := (Below.heap_alloc _ _ _ (by omega)).trans ((hb5.block _ (by simp)).trans (heap_at _ _ _ (by simp)))
  have hr6 := hr.below ((Below.refl _ w5).alloc (Nat.le_refl _) (.cells #[.int .u8 y.k, .string y.s, .int .i64 y.n, .slice rA y.l.length rc] 24))
  obtain ⟨x0, x1, x2, x3, -, -, -, -⟩ := box4 hX
  obtain ⟨d0, d1, d2, d3, f0, f1, f2, f3⟩ := box4 p0
  generalize w5.alloc (.cells #[.int .u8 y.k, .string y.s, .int .i64 y.n, .slice rA y.l.length rc] 24) = W6 at *
  generalize w5.heap.size = X at *
  refine wp_region_held_drew (S := (fun W => W.cell? ⟨X, 0, none⟩ = some (.int .u8 y.k) ∧ W.cell? ⟨X, 1, none⟩ = some (.string y.s) ∧ W.cell? ⟨X, 2, none⟩ = some (.int .i64 y.n) ∧ W.cell? ⟨X, 3, none⟩ = some (.slice rA y.l.length rc))) (by kernel_rfl) ?_ (fun hHeld => ?_)
  · exact ⟨x0, x1, x2, x3⟩
  change wpAnyH _ .any _ _ _ 6 (Array.replicate 6 false) _ _
  refine wpAnyH_take (i := 0) (oi := ⟨some 20, _, _, _, _, _⟩) (v := ?_) rfl (by kernel_rfl) (by kernel_rfl) (by kernel_rfl) (fun _ _ _ h => h) (Or.inl ⟨by rfl, ?_⟩) (by assumption) ?_
  rotate_left
  · (intro w hSw; (try dsimp only at hSw); go_simp; try (with_reducible rfl))
  (try simp only [Act.put, List.setIfInBounds_toArray, List.set_cons_zero, List.set_cons_succ])
  refine wpAnyH_take (i := 1) (oi := ⟨some 21, _, _, _, _, _⟩) (v := ?_) rfl (by kernel_rfl) (by kernel_rfl) (by kernel_rfl) (fun _ _ _ h => h) (Or.inl ⟨by rfl, ?_⟩) (by assumption) ?_
  rotate_left
  · (intro w hSw; (try dsimp only at hSw); go_simp; try (with_reducible rfl))
  (try simp only [Act.put, List.setIfInBounds_toArray, List.set_cons_zero, List.set_cons_succ])
  refine wpAnyH_take (i := 2) (oi := ⟨some 22, _, _, _, _, _⟩) (v := ?_) rfl (by kernel_rfl) (by kernel_rfl) (by kernel_rfl) (fun _ _ _ h => h) (Or.inl ⟨by rfl, ?_⟩) (by assumption) ?_
  rotate_left
  · (intro w hSw; (try dsimp only at hSw); go_simp; try (with_reducible rfl))
  (try simp only [Act.put, List.setIfInBounds_toArray, List.set_cons_zero, List.set_cons_succ])
  refine wpAnyH_ready (rs := [3]) (by kernel_rfl) (by simp) ?_
  refine AllReadyH.cons (o := ⟨none, _, _, _, _, _⟩) rfl (fun K hK => ?_) AllReadyH.nil
  go_simp
  refine hK.out _ _ ⟨(drew_cell _ _).trans ((set4_cell (W := W6) (B := w.heap.size) (X := X) (i := 0) (a := .int .u8 y.k) (b := .string y.s) (c := .int .i64 y.n) (d := .slice rA y.l.length rc) (by omega)).trans x0), (drew_cell _ _).trans ((set4_cell (W := W6) (B := w.heap.size) (X := X) (i := 1) (a := .int .u8 y.k) (b := .string y.s) (c := .int .i64 y.n) (d := .slice rA y.l.length rc) (by omega)).trans x1), (drew_cell _ _).trans ((set4_cell (W := W6) (B := w.heap.size) (X := X) (i := 2) (a := .int .u8 y.k) (b := .string y.s) (c := .int .i64 y.n) (d := .slice rA y.l.length rc) (by omega)).trans x2), (drew_cell _ _).trans ((set4_cell (W := W6) (B := w.heap.size) (X := X) (i := 3) (a := .int .u8 y.k) (b := .string y.s) (c := .int .i64 y.n) (d := .slice rA y.l.length rc) (by omega)).trans x3)⟩ (fun hHeld => ?_)
  clear hK K
  (try simp only [Act.put, List.setIfInBounds_toArray, List.set_cons_zero, List.set_cons_succ])
  have r0 := set4_block (a := .int .u8 y.k) (b := .string y.s) (c := .int .i64 y.n) (d := .slice rA y.l.length rc) p0
  have r1 := (set4_heap (W := W6) (B := w.heap.size) (X := w.heap.size + 1) (a := .int .u8 y.k) (b := .string y.s) (c := .int .i64 y.n) (d := .slice rA y.l.length rc) (by omega)).trans p1
  replace x0 := (set4_cell (W := W6) (B := w.heap.size) (X := X) (i := 0) (a := .int .u8 y.k) (b := .string y.s) (c := .int .i64 y.n) (d := .slice rA y.l.length rc) (by omega)).trans x0
  replace x1 := (set4_cell (W := W6) (B := w.heap.size) (X := X) (i := 1) (a := .int .u8 y.k) (b := .string y.s) (c := .int .i64 y.n) (d := .slice rA y.l.length rc) (by omega)).trans x1
  replace x2 := (set4_cell (W := W6) (B := w.heap.size) (X := X) (i := 2) (a := .int .u8 y.k) (b := .string y.s) (c := .int .i64 y.n) (d := .slice rA y.l.length rc) (by omega)).trans x2
  replace x3 := (set4_cell (W := W6) (B := w.heap.size) (X := X) (i := 3) (a := .int .u8 y.k) (b := .string y.s) (c := .int .i64 y.n) (d := .slice rA y.l.length rc) (by omega)).trans x3
  have hb7 := set4_below W6 w.heap.size (.int .u8 y.k) (.string y.s) (.int .i64 y.n) (.slice rA y.l.length rc)
  clear d0 d1 d2 d3 f0 f1 f2 f3 hHeld p0 p1
  generalize ((((W6.setCell ⟨w.heap.size, 0, none⟩ (.int .u8 y.k)).setCell ⟨w.heap.size, 1, none⟩ (.string y.s)).setCell ⟨w.heap.size, 2, none⟩ (.int .i64 y.n)).setCell ⟨w.heap.size, 3, none⟩ (.slice rA y.l.length rc)) = W7 at *
  obtain ⟨d0, d1, d2, d3, f0, f1, f2, f3⟩ := box4 r1
  refine wpAnyH_ready (rs := [4]) (by kernel_rfl) (by simp) ?_
  refine AllReadyH.cons (o := ⟨none, _, _, _, _, _⟩) rfl (fun K hK => ?_) AllReadyH.nil
  go_simp
  refine hK.out _ _ ⟨(drew_cell _ _).trans ((set4_cell (W := W7) (B := (w.heap.size + 1)) (X := X) (i := 0) (a := .int .u8 y.k) (b := .string y.s) (c := .int .i64 y.n) (d := .slice rA y.l.length rc) (by omega)).trans x0), (drew_cell _ _).trans ((set4_cell (W := W7) (B := (w.heap.size + 1)) (X := X) (i := 1) (a := .int .u8 y.k) (b := .string y.s) (c := .int .i64 y.n) (d := .slice rA y.l.length rc) (by omega)).trans x1), (drew_cell _ _).trans ((set4_cell (W := W7) (B := (w.heap.size + 1)) (X := X) (i := 2) (a := .int .u8 y.k) (b := .string y.s) (c := .int .i64 y.n) (d := .slice rA y.l.length rc) (by omega)).trans x2), (drew_cell _ _).trans ((set4_cell (W := W7) (B := (w.heap.size + 1)) (X := X) (i := 3) (a := .int .u8 y.k) (b := .string y.s) (c := .int .i64 y.n) (d := .slice rA y.l.length rc) (by omega)).trans x3)⟩ (fun hHeld => ?_)
  clear hK K
  (try simp only [Act.put, List.setIfInBounds_toArray, List.set_cons_zero, List.set_cons_succ])
  have s1 := set4_block (a := .int .u8 y.k) (b := .string y.s) (c := .int .i64 y.n) (d := .slice rA y.l.length rc) r1
  have s0 := (set4_heap (W := W7) (B := w.heap.size + 1) (X := w.heap.size) (a := .int .u8 y.k) (b := .string y.s) (c := .int .i64 y.n) (d := .slice rA y.l.length rc) (by omega)).trans r0
  replace x0 := (set4_cell (W := W7) (B := w.heap.size + 1) (X := X) (i := 0) (a := .int .u8 y.k) (b := .string y.s) (c := .int .i64 y.n) (d := .slice rA y.l.length rc) (by omega)).trans x0
  replace x1 := (set4_cell (W := W7) (B := w.heap.size + 1) (X := X) (i := 1) (a := .int .u8 y.k) (b := .string y.s) (c := .int .i64 y.n) (d := .slice rA y.l.length rc) (by omega)).trans x1
  replace x2 := (set4_cell (W := W7) (B := w.heap.size + 1) (X := X) (i := 2) (a := .int .u8 y.k) (b := .string y.s) (c := .int .i64 y.n) (d := .slice rA y.l.length rc) (by omega)).trans x2
  replace x3 := (set4_cell (W := W7) (B := w.heap.size + 1) (X := X) (i := 3) (a := .int .u8 y.k) (b := .string y.s) (c := .int .i64 y.n) (d := .slice rA y.l.length rc) (by omega)).trans x3
  have hb8 := set4_below W7 (w.heap.size + 1) (.int .u8 y.k) (.string y.s) (.int .i64 y.n) (.slice rA y.l.length rc)
  clear d0 d1 d2 d3 f0 f1 f2 f3 r0 r1
  generalize ((((W7.setCell ⟨(w.heap.size + 1), 0, none⟩ (.int .u8 y.k)).setCell ⟨(w.heap.size + 1), 1, none⟩ (.string y.s)).setCell ⟨(w.heap.size + 1), 2, none⟩ (.int .i64 y.n)).setCell ⟨(w.heap.size + 1), 3, none⟩ (.slice rA y.l.length rc)) = W8 at *
  refine wpAnyH_take (i := 5) (oi := ⟨some 6, _, _, _, _, _⟩) (v := ?_) rfl (by kernel_rfl) (by kernel_rfl) (by kernel_rfl) (fun _ _ _ h => h) (Or.inl ⟨by rfl, ?_⟩) (by assumption) ?_
  rotate_left
  · (intro w hSw; (try dsimp only at hSw); go_simp; try (with_reducible rfl))
  (try simp only [Act.put, List.setIfInBounds_toArray, List.set_cons_zero, List.set_cons_succ])
  refine wpAnyH_done (by kernel_rfl) ?_ _
  go_wp2
  obtain ⟨d0, d1, d2, d3, -, -, -, -⟩ := box4 s0
  obtain ⟨e0, e1, e2, e3, -, -, -, -⟩ := box4 s1
  refine bodyPost_ret (v := .tuple #[.agg #[.int .u8 y.k, .string y.s, .int .i64 y.n, .slice rA y.l.length rc], .agg #[.int .u8 y.k, .string y.s, .int .i64 y.n, .slice rA y.l.length rc], .int .i64 31]) (by simp [results, Tryd.results98, go_sem, drew_cell, d0, d1, d2, d3, e0, e1, e2, e3]) rfl ?_
  exact ⟨⟨y, _, _, rfl⟩, ((hb6.trans hb7).trans (hb8.mono (by omega))).drew⟩
end Go.Proofs.YtgcbanljifalnaaDoor

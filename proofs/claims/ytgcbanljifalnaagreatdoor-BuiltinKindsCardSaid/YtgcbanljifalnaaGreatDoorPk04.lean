import Derived.Test.YtgcbanljifalnaaGreatDoorPk03
import Derived.StillTailTactics
import Derived.Shelf.SlMaps.Clone
import Derived.Sort.AtCall
import Derived.Deep.RegionHeld3
import Derived.Deep.DrawnRows
set_option linter.unusedVariables false
set_option maxRecDepth 20000
set_option linter.unusedSimpArgs false
/- The iterator over the nodes of an applied term: 'each', 'visit', 'Occurs'. Whether a variable occurs: 'Occurs'. Conditions: the arguments read; terms of at most a million nodes, where a statement says so. -/
namespace Go.Proofs.YtgcbanljifalnaaGreatDoor
open Go.RowKit Go.Shelf
attribute [local go_sem] Oper.semAt_some

/-- A node as it is handed to yield: the term, its arguments' slice. -/
structure Nv where
  t : Tm
  A : Option Addr
  c : Nat
def Nv.vals (x : Nv) : Array Value := #[.agg #[.int .u8 x.t.k, .string x.t.s, .int .i64 x.t.n, .slice x.A x.t.l.length x.c]]
theorem Sub.belowN {n₀ : Nat} {w w' : World} {l : Bs} {p b : Nat} (h : Sub w (fun k => k < n₀) l p b) (hp : p < n₀) (hq : b < n₀) (hb : Below n₀ w w') : Sub w' (fun k => k < n₀) l p b :=
  h.move (hb.block _ hp) (hb.block _ hq) (fun t v => tmv_below hb)
theorem grownBy_of_below {w w' : World} (h : Below w.heap.size w w') : w.grownBy w' none := ⟨h.os, h.tape, h.output, h.size, fun k hk _ => h.block k hk⟩
theorem wlk_wf {l : Bs} (hl : ∀ n t, ofB l n = some t → t.Wf) (t : Tm) (h : t.Wf) : (wlk l t).Wf := wlkN_wf hl _ t h
theorem vis_succ (l : Bs) (f : Nat) (t : Tm) : vis l (f + 1) t = wlk l t :: (wlk l t).l.flatMap (vis l f) := rfl

theorem set4_block {W : World} {B : Nat} {t : TypeId} {a' b' c' d' a b c d : Value} (h : W.heap[B]? = some (.cells #[a', b', c', d'] t (0, 0))) : ((((W.setCell ⟨B, 0, none⟩ a).setCell ⟨B, 1, none⟩ b).setCell ⟨B, 2, none⟩ c).setCell ⟨B, 3, none⟩ d).heap[B]? = some (.cells #[a, b, c, d] t (0, 0)) := by
  simp [World.setCell, Array.getElem?_modify, h]
set_option maxRecDepth 100000 in
set_option maxHeartbeats 4000000 in
theorem each_in (lp n₀ N : Nat) (J Jx : List Nv → World → Prop) (B : Nat) (hJa : AbidesFrom B J)
    (hY : ∀ m pre x W, J pre W → pre.length < N → YieldAt Fence.wide m Tryz.prog lp x.vals W fun e W' =>
      (e = .returned (.bool true) ∧ J (pre ++ [x]) W' ∧ KpT n₀ W W') ∨ (e = .returned (.bool false) ∧ Jx (pre ++ [x]) W'))
    (l : Bs) (p b : Nat) (hp : p < n₀) (hq : b < n₀) :
    ∀ (f : Nat) (t : Tm), Fn l f t → ∀ (n : Nat) (v : Value) (pre : List Nv) (W : World), Sub W (fun k => k < n₀) l p b → TmV W (fun k => k < n₀) t v → t.Wf → J pre W → n₀ ≤ W.heap.size → pre.length + (vis l f t).length ≤ N →
      CallsIn Fence.wide n Tryz.prog 165 #[.pointer (some ⟨p, 0, none⟩), v, .func (.yield lp) #[] #[]] W fun e W' =>
        (e = .returned (.bool true) ∧ (∃ xs, xs.map Nv.t = vis l f t ∧ J (pre ++ xs) W') ∧ KpT n₀ W W') ∨ (e = .returned (.bool false) ∧ ∃ xs, xs.map Nv.t <+: vis l f t ∧ Jx (pre ++ xs) W') := by
  intro f
  induction f with
  | zero => intro t hf; exact hf.elim
  | succ f ih =>
  intro t hf n v pre W hs hv hwf hJ hn₀ hN
  obtain ⟨u, rfl, hvS⟩ := hv
  obtain ⟨A0, c0, rfl⟩ := hvS.form
  obtain ⟨O, hO⟩ : ∃ O : Obj, O = .cells #[.int .u8 t.k, .string t.s, .int .i64 t.n, .slice A0 t.l.length c0] 30 := ⟨_, rfl⟩
  have hb1 : Below n₀ W (W.alloc O) := (Below.refl _ W).alloc hn₀ _
  have HWK := Lib.hid (Walk_c l p b t _ (W.alloc O) _ (hs.belowN hp hq hb1) (tmv_below hb1 ⟨_, rfl, hvS⟩) hwf)
  have hxw := wlk_wf hs.wf t hwf
  have hff : ∀ a ∈ (wlk l t).l, Fn l f a := hf
  simp only [vis_succ] at hN ⊢
  generalize wlk l t = x at HWK hxw hff hN ⊢
  subst hO
  have HIH := Lib.hid ih
  have HY := Lib.hid hY
  have HJ := Lib.hid hJ
  have HFF := Lib.hid hff
  have HS := Lib.hid hs
  have HA := Lib.hid hJa
  have HN := Lib.hid hN
  clear hvS hf ih hY hJ hff hs hb1 hJa hN hwf
  refine callsIn_of_wp Tryz.func165 rfl trivial ?_ rfl
  simp only [Tryz.ntmps165, List.size_toArray, List.length_cons, List.length_nil, Nat.reduceAdd, Nat.reduceSub, Array.replicate_succ, Array.replicate_zero, List.push_toArray, List.append_toArray, List.nil_append, List.cons_append]
  gi_wp2_with (first | ((try refine ⟨wide_room _, ?_⟩); refine HR.out.mono ?_; clear HR hy; intro e W4 hh; have hh' := hh.imp (fun h1 => And.intro h1.1 (And.intro h1.2.1 (And.intro h1.2.2 (box4 (h1.2.2.2 _ _ hbx3.out)).2.2.2.1))) id; clear hh; rcases hh' with ⟨rfl, hJ4, hk4, d3⟩ | ⟨rfl, hx4⟩) | (refine ⟨trivial, wide_room _, ?_⟩; gi_at_call 30; refine (callsIn_wide.2 HWK.out).mono ?_; clear HWK; rintro e W2 ⟨⟨u2, rfl, hv2⟩, hb2⟩; obtain ⟨u3, rfl, hvS2⟩ := hv2; obtain ⟨A, c, rfl⟩ := hvS2.form; have hbx := block_below hb2 (by simp) (heap_new W _); obtain ⟨c0, c1, c2, c3, f0, f1, f2, f3⟩ := box4 hbx; have hbW2 : Below W.heap.size W W2 := ((Below.refl _ W).alloc (Nat.le_refl _) _).trans (hb2.mono (by simp)); have hsz2 : W.heap.size + 1 ≤ W2.heap.size := (by have := hb2.size; simpa using this); have hbW3 := Lib.hid (hbW2.grown (grown_set4 W2 W.heap.size (.int .u8 x.k) (.string x.s) (.int .i64 x.n) (.slice A x.l.length c)) (by omega) (fun k hk => (by injection hk with hk; omega))); have hbx3 := Lib.hid (set4_block (a := .int .u8 x.k) (b := .string x.s) (c := .int .i64 x.n) (d := .slice A x.l.length c) hbx); have hvS3 := Lib.hid (Kd.S.grown (grown_set4 W2 W.heap.size (.int .u8 x.k) (.string x.s) (.int .i64 x.n) (.slice A x.l.length c)) (fun k hk he => (by injection he; omega)) hvS2); obtain ⟨fn, tmps, assign, body, hy, hR⟩ := HY.out (n - 1) pre ⟨x, A, c⟩ _ (HA.out pre W _ none HJ.out (grownBy_of_below hbW3.out) (fun r e => (by cases e))) (by have := HN.out; simp at this; omega); simp only [Nv.vals] at hy; have HR := Lib.hid hR; clear hR))
  · have hb4 : Below n₀ W W4 := (hbW3.out.mono hn₀).trans hk4.1
    have hn4 : n₀ ≤ W4.heap.size := Nat.le_trans hn₀ hb4.size
    have hvS4 := tms_below hk4.1 hvS3.out
    have HKT := Lib.hid ((KpT.of_below hbW3.out hn₀).trans hk4)
    obtain ⟨A4, c4, he4, hl, hc, hA⟩ := hvS4
    injection he4 with he1 he2 he3
    subst he1 he3
    clear he2 hvS3 hbx3 hbW3 hb2 hbW2 hsz2 hbx hvS2 c0 c1 c2 c3 f0 f1 f2 f3 HJ
    unfold maxLen at hc
    have HK4 := Lib.hid hb4
    gi_loopw [19] (fun i wr => ∃ j : Nat, j ≤ x.l.length ∧ i = .int .i64 j ∧ (∃ xs, xs.map Nv.t = x :: (x.l.take j).flatMap (vis l f) ∧ J (pre ++ xs) wr) ∧ KpT n₀ W4 wr) (fun i _ => x.l.length - (intOf i).toNat)
    case atStart => exact ⟨0, Nat.zero_le _, rfl, ⟨[⟨x, A, c⟩], by simp, hJ4⟩, ⟨Below.refl _ _, fun _ _ h => h⟩⟩
    case round =>
      obtain ⟨j, hj, rfl, ⟨xs, hxs, hJ5⟩, hk5⟩ := hrel
      have hn5 : n₀ ≤ wr.heap.size := Nat.le_trans hn4 hk5.1.size
      by_cases hlt : j < x.l.length
      · obtain ⟨bb, o, u, rfl, hok, hlo, h0, h1, h2, h3, h4⟩ := tm_elem hA hlt
        have g0 := cell_below hk5.1 h0 hok
        have g1 := cell_below hk5.1 h1 hok
        have g2 := cell_below hk5.1 h2 hok
        have g3 := cell_below hk5.1 h3 hok
        have k4 := tms_below hk5.1 h4
        obtain ⟨Au, cu, rfl⟩ := h4.form
        have hm := List.getElem_mem hlt
        have hxl : xs.length = 1 + ((x.l.take j).flatMap (vis l f)).length := by
          have := congrArg List.length hxs
          simp only [List.length_map, List.length_cons] at this
          omega
        have hnx : (x.l.take (j + 1)).flatMap (vis l f) = (x.l.take j).flatMap (vis l f) ++ vis l f x.l[j] := by rw [take_succ_at x.l hlt, List.flatMap_append]; simp
        have htl : x.l.flatMap (vis l f) = (x.l.take (j + 1)).flatMap (vis l f) ++ (x.l.drop (j + 1)).flatMap (vis l f) := by rw [← List.flatMap_append, List.take_append_drop]
        have hbr : Below n₀ W (wr.alloc (.cells #[.int .u8 x.l[j].k, .string x.l[j].s, .int .i64 x.l[j].n, .slice Au x.l[j].l.length cu] 30)) := (HK4.out.trans hk5.1).alloc hn5 _
        have hi := HIH.out x.l[j] (HFF.out _ hm) (n - 1) _ (pre ++ xs) (wr.alloc (.cells #[.int .u8 x.l[j].k, .string x.l[j].s, .int .i64 x.l[j].n, .slice Au x.l[j].l.length cu] 30)) (HS.out.belowN hp hq hbr) (tmv_below ((Below.refl _ wr).alloc hn5 _) ⟨_, rfl, k4⟩) (WfL_at hxw.parts.2.2.2 hlt) (HA.out _ wr _ none hJ5 (World.grownBy_alloc wr _ none) (fun r e => by cases e)) (by simp; omega) (by have := HN.out; rw [htl, hnx] at this; simp only [List.length_append, List.length_cons] at this ⊢; omega)
        have HI := Lib.hid hi
        have HNX := Lib.hid hnx
        have HXS := Lib.hid hxs
        have HTL := Lib.hid htl
        have HXL := Lib.hid hxl
        generalize x.l[j] = y at g0 g1 g2 g3 k4 HI HNX
        clear hA h0 h1 h2 h3 h4 hi hnx hxs htl hxl hbr
        gi_wp2_with (refine ⟨trivial, wide_room _, ?_⟩; gi_at_call 165; refine HI.out.mono ?_; clear HI; rintro e W5 (⟨rfl, ⟨ys, hys, hJ6⟩, hk6⟩ | ⟨rfl, ys, hys, hx6⟩))
        · gi_wp2
          go_roundw
          case rel => exact ⟨j + 1, by omega, by go_num, ⟨xs ++ ys, by rw [List.map_append, HXS.out, hys, HNX.out]; simp, by rw [← List.append_assoc]; exact hJ6⟩, hk5.trans ((KpT.of_below ((Below.refl _ wr).alloc (Nat.le_refl _) _) hn5).trans hk6)⟩
          case measure => simp [intOf]; omega
        · gi_wp2
          go_ret
          obtain ⟨rest, hrest⟩ := hys
          refine .inr ⟨rfl, xs ++ ys, ⟨rest ++ (x.l.drop (j + 1)).flatMap (vis l f), ?_⟩, by rw [← List.append_assoc]; exact hx6⟩
          rw [List.map_append, HXS.out, HTL.out, HNX.out, ← hrest]
          simp
      · have HXS := Lib.hid hxs
        clear hxs hA
        gi_wp2
        go_ret
        refine .inl ⟨rfl, ⟨xs, by rw [HXS.out, List.take_of_length_le (by omega)], hJ5⟩, ?_⟩
        exact HKT.out.trans hk5
  · go_ret
    exact .inr ⟨rfl, [⟨x, A, c⟩], ⟨x.l.flatMap (vis l f), by simp⟩, hx4⟩

set_option maxHeartbeats 1000000 in
theorem visit1_stops (n n₀ Bs' Bt : Nat) (l : Bs) (p b f : Nat) (t : Tm) (A : Option Addr) (c : Nat) (w : World) (hn₀ : n₀ ≤ w.heap.size) (hp : p < n₀) (hq : b < n₀) (hs : Sub w (fun k => k < n₀) l p b) (hf : Fn l f t) (hv : Kd.tm.S w (fun k => k < n₀) t.l (.slice A t.l.length c)) (hwf : t.Wf)
    (hbs : w.heap[Bs']? = some (.cells #[.pointer (some ⟨p, 0, none⟩)] 33 (0, 0)))
    (hbt : w.heap[Bt]? = some (.cells #[.int .u8 t.k, .string t.s, .int .i64 t.n, .slice A t.l.length c] 30 (0, 0))) :
    SeqStopsK Fence.wide n Tryz.prog 164 #[.pointer (some ⟨Bs', 0, none⟩), .pointer (some ⟨Bt, 0, none⟩)] Nv.vals (KpT n₀) (fun xs => xs.map Nv.t = vis l f t) (fun pre => pre.map Nv.t <+: vis l f t) (vis l f t).length w := by
  intro lp J Jx W hW hJ hJx hY h0
  have hbW : W.heap[Bt]? = _ := block_below hW (Array.getElem?_eq_some_iff.1 hbt).1 hbt
  have hbS : W.heap[Bs']? = _ := block_below hW (Array.getElem?_eq_some_iff.1 hbs).1 hbs
  obtain ⟨c0, c1, c2, c3, -, -, -, -⟩ := box4 hbW
  have d0 : W.cell? ⟨Bs', 0, none⟩ = some (.pointer (some ⟨p, 0, none⟩)) := by
    unfold World.cell?
    simp only [hbS]
    rfl
  have hV : TmV W (fun b => b < n₀) t (.agg #[.int .u8 t.k, .string t.s, .int .i64 t.n, .slice A t.l.length c]) := tmv_below (hW.mono hn₀) ⟨_, rfl, hv⟩
  have HW := Lib.hid (each_in lp n₀ (vis l f t).length J Jx W.heap.size hJ (fun m pre x W1 hj hlt => YieldAt.any m (hY pre x W1 hj hlt)) l p b hp hq f t hf (n - 1) _ [] W (hs.belowN hp hq (hW.mono hn₀)) hV hwf h0 (Nat.le_trans hn₀ hW.size) (by simp))
  clear hY hbW hbS hs hv hbs hbt hf
  refine callsIn_of_wp Tryz.func164 rfl trivial ?_ rfl
  simp only [Tryz.ntmps164, List.size_toArray, List.length_cons, List.length_nil, Nat.reduceAdd, Nat.reduceSub, Array.replicate_succ, Array.replicate_zero, List.push_toArray, List.append_toArray, List.nil_append, List.cons_append]
  gi_wp2_with (refine ⟨trivial, wide_room _, ?_⟩; gi_at_call 165; refine HW.out.mono ?_; clear HW; rintro e W1 (⟨rfl, ⟨xs, hxs, hJ1⟩, hk1⟩ | ⟨rfl, xs, hxs, hx1⟩))
  · go_end0
    exact ⟨⟨_, rfl⟩, .inl ⟨xs, hxs, by simpa using hJ1⟩⟩
  · go_end0
    exact ⟨⟨_, rfl⟩, .inr ⟨xs, hxs, by simpa using hx1⟩⟩

/-- 'visit(t)': the substitution and the term are boxed; the function value captures the boxes. -/
theorem visit_in (n : Nat) (p : Nat) (k q : Int) (s : ByteArray) (A : Option Addr) (m c : Nat) (w : World) :
    CallsIn Fence.wide n Tryz.prog 118 #[.pointer (some ⟨p, 0, none⟩), .agg #[.int .u8 k, .string s, .int .i64 q, .slice A m c]] w fun e w' => e = .returned (.func (.func 164) #[] #[.pointer (some ⟨w.heap.size, 0, none⟩), .pointer (some ⟨w.heap.size + 1, 0, none⟩)]) ∧ w' = (w.alloc (.cells #[.pointer (some ⟨p, 0, none⟩)] 33)).alloc (.cells #[.int .u8 k, .string s, .int .i64 q, .slice A m c] 30) := by
  refine callsIn_of_wp Tryz.func118 rfl trivial ?_ rfl
  simp only [Tryz.ntmps118, List.size_toArray, List.length_cons, List.length_nil, Nat.reduceAdd, Nat.reduceSub, Array.replicate_succ, Array.replicate_zero, List.push_toArray, List.append_toArray, List.nil_append, List.cons_append]
  gi_wp2
  go_ret
  exact ⟨by first | rfl | simp, by first | rfl | simp⟩

open Go.RowKit Go.Shelf
attribute [local go_sem] Oper.semAt_some

/-- What the loop leaves with. -/
def OccFin (v : Int) (pre : List Nv) (r : Bool × Int) : Prop :=
  (4096 < pre.length ∧ (∀ x ∈ pre.take 4096, isv v x.t = false) ∧ r = (false, 31)) ∨ ((∃ x ∈ pre.take 4096, isv v x.t = true) ∧ r = (true, 0))
theorem occE_fin {v : Int} {pre : List Nv} {P : List Tm} {r : Bool × Int} (h : OccFin v pre r) (hp : pre.map Nv.t <+: P) : occE P v = r := by
  obtain ⟨rest, rfl⟩ := hp
  unfold occE
  rcases h with ⟨h1, h2, rfl⟩ | ⟨⟨x, hx, hi⟩, rfl⟩
  · have hl : 4096 ≤ (pre.map Nv.t).length := by simp; omega
    rw [List.take_append_of_le_length hl, if_neg, if_pos (by simp; omega)]
    rw [← List.map_take]
    simp only [List.any_map, List.any_eq_true, Function.comp, not_exists, not_and, Bool.not_eq_true]
    exact h2
  · rw [if_pos]
    rw [List.take_append, List.any_append, ← List.map_take]
    simp only [List.any_map, Bool.or_eq_true]
    exact .inl (List.any_eq_true.2 ⟨x, hx, hi⟩)
theorem occE_done {v : Int} {xs : List Nv} {P : List Tm} (h : xs.map Nv.t = P) (hl : xs.length ≤ 4096) (hn : ∀ x ∈ xs, isv v x.t = false) : occE P v = (false, 0) := by
  subst h
  unfold occE
  rw [if_neg, if_neg (by simp; omega)]
  rw [List.take_of_length_le (by simp; omega)]
  simp only [List.any_map, List.any_eq_true, Function.comp, not_exists, not_and, Bool.not_eq_true]
  exact hn
theorem heap_at' (w : World) (o : Obj) (k : Nat) (h : k = w.heap.size) : (w.alloc o).heap[k]? = some o := by subst h; exact heap_new w o
theorem boxed_ne {W : World} {B B' : Nat} {t : TypeId} {u : Value} {cs : Array Value} (h : Boxed W B t u) (h' : W.heap[B']? = some (.cells cs 30 (0, 0))) (ht : t ≠ 30) : B' ≠ B := fun e => by
  subst e
  rw [show W.heap[B']? = _ from h] at h'
  injection h' with h'
  injection h' with _ h'
  exact ht h'
theorem boxed_put {W : World} {B D : Nat} {t : TypeId} {u : Value} (h : Boxed W B t u) (hD : W.heap[D]? = some (.deferred (some []))) (o' : Obj) : Boxed (W.putObj D o') B t u :=
  (World.putObj_heap_other (fun e => by
    subst e
    rw [show W.heap[B]? = _ from h] at hD
    cases hD)).trans h
theorem boxedFrom {β : Type} (B' B : Nat) (t : TypeId) (u : Value) : OwnFrom B' (fun (_ : β) W => Boxed W B t u) := Own.from (boxed_own B t (fun _ => u)) _

set_option maxRecDepth 100000 in
set_option maxHeartbeats 4000000 in
theorem Occurs_in (n : Nat) (hn : 3 ≤ n) (l : Bs) (p b f : Nat) (q : Int) (t : Tm) (v : Value) (w : World) (ok : Nat → Prop) (hs : Sub w ok l p b) (hv : TmV w ok t v) (hwf : t.Wf) (hf : Fn l f t) :
    CallsIn Fence.wide n Tryz.prog 75 #[.pointer (some ⟨p, 0, none⟩), .int .i64 q, v] w fun e w' => e = .returned (.tuple #[.bool (occE (vis l f t) q).1, .int .i64 (occE (vis l f t) q).2]) ∧ Below w.heap.size w w' := by
  have h1 : 1 ≤ n := by omega
  have hv0 : TmV w (fun b => b < w.heap.size) t v := (TmV.bound hv).mono (fun _ h => h.2)
  have hs0 : Sub w (fun b => b < w.heap.size) l p b := hs.bound.mono (fun _ h => h.2)
  obtain ⟨hp, hq⟩ := hs.lt
  obtain ⟨u, rfl, hvS⟩ := hv0
  obtain ⟨A, c, rfl⟩ := hvS.form
  have HS := Lib.hid hs0
  have HV := Lib.hid hvS
  have HF := Lib.hid hf
  clear hs hv hvS hs0 hf
  obtain ⟨O, hO⟩ : ∃ O : Obj, O = .cells #[.int .u8 t.k, .string t.s, .int .i64 t.n, .slice A t.l.length c] 30 := ⟨_, rfl⟩
  refine callsIn_of_wp_marks Tryz.func75 rfl trivial ?_ rfl
  simp only [Tryz.ntmps75, List.size_toArray, List.length_cons, List.length_nil, Nat.reduceAdd, Nat.reduceSub, Array.replicate_succ, Array.replicate_zero, List.push_toArray, List.append_toArray, List.nil_append, List.cons_append]
  gi_wp2_with (refine ⟨trivial, ?_⟩; gi_at_call 118; refine (visit_in (n - 1) _ _ _ _ _ _ _ _).mono ?_; rintro e w' ⟨rfl, rfl⟩)
  obtain ⟨W0, hW0⟩ : ∃ W0, W0 = (((((((w.alloc (.cells #[.int .i64 q] 2)).alloc O).alloc (.cells #[.bool false] 4)).alloc (.cells #[.int .i64 0] 37)).alloc (.cells #[.int .i64 0] 3)).alloc (.cells #[.pointer (some ⟨p, 0, none⟩)] 33)).alloc O) := ⟨_, rfl⟩
  have hs1 : Below w.heap.size w W0 := by
    rw [hW0]
    exact (((((((Below.refl _ w).alloc (Nat.le_refl _) _).alloc (by simp) _).alloc (by simp; omega) _).alloc (by simp; omega) _).alloc (by simp; omega) _).alloc (by simp; omega) _).alloc (by simp; omega) _
  have hsz0 : W0.heap.size = w.heap.size + 7 := by rw [hW0]; simp
  have hxq : Boxed W0 w.heap.size 2 (.int .i64 q) := by rw [hW0]; unfold Boxed; repeat (first | exact heap_at' _ _ _ (by simp) | refine (Below.heap_alloc _ _ _ (by simp <;> omega)).trans ?_)
  have hxb : Boxed W0 (w.heap.size + 1 + 1) 4 (.bool false) := by rw [hW0]; unfold Boxed; repeat (first | exact heap_at' _ _ _ (by simp) | refine (Below.heap_alloc _ _ _ (by simp <;> omega)).trans ?_)
  have hxe : Boxed W0 (w.heap.size + 1 + 1 + 1) 37 (.int .i64 0) := by rw [hW0]; unfold Boxed; repeat (first | exact heap_at' _ _ _ (by simp) | refine (Below.heap_alloc _ _ _ (by simp <;> omega)).trans ?_)
  have hxn : Boxed W0 (w.heap.size + 1 + 1 + 1 + 1) 3 (.int .i64 ((0 : Nat) : Int)) := by rw [hW0]; unfold Boxed; repeat (first | exact heap_at' _ _ _ (by simp) | refine (Below.heap_alloc _ _ _ (by simp <;> omega)).trans ?_)
  have hbs : W0.heap[w.heap.size + 1 + 1 + 1 + 1 + 1]? = some (.cells #[.pointer (some ⟨p, 0, none⟩)] 33 (0, 0)) := by rw [hW0]; repeat (first | exact heap_at' _ _ _ (by simp) | refine (Below.heap_alloc _ _ _ (by simp <;> omega)).trans ?_)
  have hbt : W0.heap[w.heap.size + 1 + 1 + 1 + 1 + 1 + 1]? = some O := by rw [hW0]; repeat (first | exact heap_at' _ _ _ (by simp) | refine (Below.heap_alloc _ _ _ (by simp <;> omega)).trans ?_)
  subst hO
  rw [← hW0]
  clear hW0
  refine wpIn_rangeFunc_ownH rfl h1 (gf := 164) (lb := #[.pointer (some ⟨w.heap.size + 1 + 1 + 1 + 1 + 1, 0, none⟩), .pointer (some ⟨w.heap.size + 1 + 1 + 1 + 1 + 1 + 1, 0, none⟩)]) rfl trivial (enters_of Tryz.func164 (by kernel_rfl) rfl)
    (visit1_stops (n - 1) w.heap.size _ _ l p b f t A c W0 (by omega) hp hq (HS.out.belowN hp hq hs1) HF.out (tms_below hs1 HV.out) hwf hbs hbt) (fun h k => h.trans k) (KpT.put (by omega)) (Below.refl _ _) (fun _ => rfl)
    (fun pre W => Boxed W (w.heap.size + 1 + 1 + 1 + 1) 3 (.int .i64 ((pre.length : Nat) : Int)) ∧ Boxed W (w.heap.size + 1 + 1) 4 (.bool false) ∧ Boxed W (w.heap.size + 1 + 1 + 1) 37 (.int .i64 0) ∧ Boxed W w.heap.size 2 (.int .i64 q) ∧ Below w.heap.size w W ∧ (pre.length ≤ 4096 ∧ ∀ x ∈ pre, isv q x.t = false))
    (fun cd pre W => ∃ r : Bool × Int, Boxed W (w.heap.size + 1 + 1) 4 (.bool r.1) ∧ Boxed W (w.heap.size + 1 + 1 + 1) 37 (.int .i64 r.2) ∧ Below w.heap.size w W ∧ (cd = .ret ∧ OccFin q pre r))
    (OwnFrom.and (Own.from (boxed_own (w.heap.size + 1 + 1 + 1 + 1) 3 (fun pre : List Nv => .int .i64 ((pre.length : Nat) : Int))) _) (OwnFrom.and (boxedFrom _ _ _ _) (OwnFrom.and (boxedFrom _ _ _ _) (OwnFrom.and (boxedFrom _ _ _ _) (OwnFrom.and (ownFrom_below (Nat.le_refl _) (by omega)) (ownFrom_pure _ _))))))
    (fun cd pre X Y row ⟨r, h1, h2, h3, h4⟩ hg hr => ⟨r, boxedFrom (β := Unit) _ _ _ _ () X Y row h1 hg hr, boxedFrom (β := Unit) _ _ _ _ () X Y row h2 hg hr, ownFrom_below (β := Unit) (Nat.le_refl _) (by omega) () X Y row h3 hg hr, h4⟩)
    ⟨hxn, hxb, hxe, hxq, hs1, by simp⟩
    (fun x a' W' => ∃ Bt, W'.heap[Bt]? = some (.cells #[.int .u8 x.t.k, .string x.t.s, .int .i64 x.t.n, .slice x.A x.t.l.length x.c] 30 (0, 0)) ∧ a' = { tmps := #[.pointer (some ⟨p, 0, none⟩), .int .i64 q, .agg #[.int .u8 t.k, .string t.s, .int .i64 t.n, .slice A t.l.length c], undef, .pointer (some ⟨w.heap.size, 0, none⟩), .pointer (some ⟨w.heap.size + 1, 0, none⟩), .pointer (some ⟨w.heap.size + 1 + 1, 0, none⟩), .pointer (some ⟨w.heap.size + 1 + 1 + 1, 0, none⟩), .pointer (some ⟨w.heap.size + 1 + 1 + 1 + 1, 0, none⟩), .pointer (some ⟨Bt, 0, none⟩), .pointer (some ⟨p, 0, none⟩), .bool false, .pointer (some ⟨p, 0, none⟩), .agg #[.int .u8 t.k, .string t.s, .int .i64 t.n, .slice A t.l.length c], .func (.func 164) #[] #[.pointer (some ⟨w.heap.size + 1 + 1 + 1 + 1 + 1, 0, none⟩), .pointer (some ⟨w.heap.size + 1 + 1 + 1 + 1 + 1 + 1, 0, none⟩)], .agg #[.int .u8 x.t.k, .string x.t.s, .int .i64 x.t.n, .slice x.A x.t.l.length x.c], undef, undef, undef, undef, undef, undef, undef, undef, undef, undef, undef, undef, undef], defers := [] })
    ?ax ?assign ?body ?done ?stop
  case ax =>
    rintro x a' s X Y row ⟨Bt, hBt, ha⟩ hg hr
    exact ⟨Bt, (hg.block Bt (Array.getElem?_eq_some_iff.1 hBt).1 (fun e => by obtain ⟨_, o, ho, hc⟩ := hr Bt e.symm; rw [hBt] at ho; cases ho; cases hc)).trans hBt, ha⟩
  case assign =>
    rintro lo pre x W K ⟨hbn, hbb, hbe, hbq, hb, hfin⟩ hK
    have HFIN := Lib.hid hfin
    have hWs := Lib.hid hb.size
    have HKP := Lib.hid (KpT.of_below ((Below.refl _ W).alloc (Nat.le_refl _) (.cells #[.int .u8 x.t.k, .string x.t.s, .int .i64 x.t.n, .slice x.A x.t.l.length x.c] 30)) hb.size)
    clear hfin
    simp [Nv.vals]
    gi_wp2
    exact hK _ _ (KeepsFrom.of_grownBy (World.grownBy_alloc W _ none) (fun _ e => by cases e)) HKP.out ⟨hbn.alloc _, hbb.alloc _, hbe.alloc _, hbq.alloc _, hb.alloc hb.size _, HFIN.out⟩ ⟨_, heap_new W _, rfl⟩
  case body =>
    rintro lo pre x a' W3 hlo' hloop ⟨hbn, hbb, hbe, hbq, hb, hfin⟩ ⟨Bt, hBx, rfl⟩ hlt'
    obtain ⟨c0, c1, c2, c3, -, -, -, -⟩ := box4 hBx
    have hne := boxed_ne hbn hBx (by decide)
    have hcn := hbn.cell
    have hfn := hbn.frozen
    have hcb := hbb.cell
    have hfb := hbb.frozen
    have hce := hbe.cell
    have hfe := hbe.frozen
    have hcq := hbq.cell
    have hpl : (pre.length : Int) ≤ 4096 := by have := hfin.1; omega
    have HFIN := Lib.hid hfin
    have hlen : ((pre ++ [x]).length : Int) = (pre.length : Int) + 1 := by simp
    clear hfin
    by_cases hfull : (4096 : Int) < (pre.length : Int) + 1
    · have hdec : decide ((4096 : Int) < (pre.length : Int) + 1) = true := by simpa using hfull
      clear hlen
      gi_wp2
      have hlx : pre.length = 4096 := by have := HFIN.out.1; omega
      refine ⟨((KeepsOthers.setCell _ _ _).from _).trans (((KeepsOthers.setCell _ _ _).from _).trans ((KeepsOthers.setCell _ _ _).from _)), (false, 31), ?_, ?_, ?_, rfl, .inl ⟨by simp; omega, ?_, rfl⟩⟩
      · exact ((hbb.other (by omega) _).set _).other (by omega) _
      · exact ((hbe.other (by omega) _).other (by omega) _).set _
      · exact ((hb.setCell (p := ⟨w.heap.size + 1 + 1 + 1 + 1, 0, none⟩) (by simp; omega) _).setCell (p := ⟨w.heap.size + 1 + 1, 0, none⟩) (by simp; omega) _).setCell (p := ⟨w.heap.size + 1 + 1 + 1, 0, none⟩) (by simp; omega) _
      · intro y hy
        rw [List.take_append_of_le_length (by omega)] at hy
        exact HFIN.out.2 y (List.mem_of_mem_take hy)
    · have hdec : decide ((4096 : Int) < (pre.length : Int) + 1) = false := by simpa using hfull
      have hpl2 : pre.length < 4096 := by omega
      by_cases hk : x.t.k = 1
      · by_cases hn' : x.t.n = q
        · clear hlen hfull
          subst hn'
          gi_wp2
          refine ⟨((KeepsOthers.setCell _ _ _).from _).trans (((KeepsOthers.setCell _ _ _).from _).trans ((KeepsOthers.setCell _ _ _).from _)), (true, 0), ?_, ?_, ?_, rfl, .inr ⟨⟨x, ?_, by simp [isv, hk]⟩, rfl⟩⟩
          · exact ((hbb.other (by omega) _).set _).other (by omega) _
          · exact ((hbe.other (by omega) _).other (by omega) _).set _
          · exact ((hb.setCell (p := ⟨w.heap.size + 1 + 1 + 1 + 1, 0, none⟩) (by simp; omega) _).setCell (p := ⟨w.heap.size + 1 + 1, 0, none⟩) (by simp; omega) _).setCell (p := ⟨w.heap.size + 1 + 1 + 1, 0, none⟩) (by simp; omega) _
          · rw [List.take_of_length_le (by simp; omega)]; simp
        · have hn2 : (x.t.n == q) = false := by simpa using hn'
          clear hfull
          gi_wp2
          refine ⟨(KeepsOthers.setCell _ _ _).from _, kpT_set (by have := hb.size; omega) hbn (by decide) (by omega) _, ?_, hbb.other (by omega) _, hbe.other (by omega) _, hbq.other (by omega) _, hb.setCell (p := ⟨w.heap.size + 1 + 1 + 1 + 1, 0, none⟩) (by simp; omega) _, by simp; omega, ?_⟩
          · rw [hlen]; exact hbn.set _
          · intro y hy
            rcases List.mem_append.1 hy with hy | hy
            · exact HFIN.out.2 y hy
            · rw [List.mem_singleton] at hy; subst hy; simp [isv, hn']
      · have hk2 : (x.t.k == 1) = false := by simpa using hk
        clear hfull
        gi_wp2
        refine ⟨(KeepsOthers.setCell _ _ _).from _, kpT_set (by have := hb.size; omega) hbn (by decide) (by omega) _, ?_, hbb.other (by omega) _, hbe.other (by omega) _, hbq.other (by omega) _, hb.setCell (p := ⟨w.heap.size + 1 + 1 + 1 + 1, 0, none⟩) (by simp; omega) _, by simp; omega, ?_⟩
        · rw [hlen]; exact hbn.set _
        · intro y hy
          rcases List.mem_append.1 hy with hy | hy
          · exact HFIN.out.2 y hy
          · rw [List.mem_singleton] at hy; subst hy; simp [isv, hk]
  case done =>
    rintro D xs W hD hxs ⟨hbn, hbb, hbe, hbq, hb, hfin⟩ hK
    have hcb := hbb.cell
    have hfb := hbb.frozen
    have hce := hbe.cell
    have hfe := hbe.frozen
    have hres := Lib.hid (occE_done hxs hfin.1 hfin.2)
    clear hxs hfin
    gi_wp2
    have hb6 := (hbb.set (.bool false)).other (B' := w.heap.size + 1 + 1 + 1) (by omega) (.int .i64 0)
    have hb7 := (hbe.other (B' := w.heap.size + 1 + 1) (by omega) (.bool false)).set (.int .i64 0)
    have hK2 := ((Below.heap_setCell (W.setCell ⟨w.heap.size + 1 + 1, 0, none⟩ (.bool false)) ⟨w.heap.size + 1 + 1 + 1, 0, none⟩ (.int .i64 0) D (by simp; omega)).trans (Below.heap_setCell W ⟨w.heap.size + 1 + 1, 0, none⟩ (.bool false) D (by simp; omega))).trans hK
    have hb8 := (hb.setCell (p := ⟨w.heap.size + 1 + 1, 0, none⟩) (by simp; omega) (.bool false)).setCell (p := ⟨w.heap.size + 1 + 1 + 1, 0, none⟩) (by simp; omega) (.int .i64 0)
    have e6 := (boxed_put hb6 hK2 (.deferred none)).cell
    have e7 := (boxed_put hb7 hK2 (.deferred none)).cell
    refine ⟨by simp, .inl ⟨_, _, rfl, run_takeDeferred hK2, ?_⟩⟩
    exact ⟨.tuple #[.bool false, .int .i64 0], by simp [results, Tryz.results75, go_sem, e6, e7], by rw [hres.out], hb8.trans (belowK_b (w := w) (Nat.le_refl _) _ D _ _ (by omega) hK2 rfl rfl)⟩
  case stop =>
    rintro D cd pre W hD hpre ⟨r, hbb, hbe, hb, rfl, hfin⟩ hK
    have hres := Lib.hid (occE_fin hfin hpre)
    clear hpre hfin
    gi_wp2
    have e6 := (boxed_put hbb hK (.deferred none)).cell
    have e7 := (boxed_put hbe hK (.deferred none)).cell
    refine ⟨by simp, .inl ⟨_, _, rfl, run_takeDeferred hK, ?_⟩⟩
    exact ⟨.tuple #[.bool r.1, .int .i64 r.2], by simp [results, Tryz.results75, go_sem, e6, e7], by rw [hres.out], hb.trans (belowK_b (w := w) (Nat.le_refl _) _ D _ _ (by omega) hK rfl rfl)⟩
theorem Occurs_c (l : Bs) (p b f : Nat) (q : Int) (t : Tm) (v : Value) (w : World) (ok : Nat → Prop) (hs : Sub w ok l p b) (hv : TmV w ok t v) (hwf : t.Wf) (hf : Fn l f t) :
    Calls Tryz.prog 75 #[.pointer (some ⟨p, 0, none⟩), .int .i64 q, v] w fun e w' => e = .returned (.tuple #[.bool (occE (vis l f t) q).1, .int .i64 (occE (vis l f t) q).2]) ∧ Below w.heap.size w w' := callsIn_wide.1 (Occurs_in 3 (Nat.le_refl _) l p b f q t v w ok hs hv hwf hf)
end Go.Proofs.YtgcbanljifalnaaGreatDoor
/- Substitutions made, copied, counted; variables bound. Conditions: the arguments read; the bindings make no circle. -/
namespace Go.Proofs.YtgcbanljifalnaaGreatDoor
open Go.RowKit

theorem Sub.made (w : World) (ok : Nat → Prop) : Sub ((w.alloc (.map #[] 0)).alloc (.cells #[.map (some w.heap.size)] 77)) ok [] (w.heap.size + 1) w.heap.size := by
  refine ⟨?_, ⟨fun _ => none, (MapAt.made w).move (Below.heap_alloc _ _ _ (by simp)), fun n => ⟨fun _ => rfl, fun t h => by simp [ofB] at h⟩⟩, acyc_nil, fun n t h => by simp [ofB] at h⟩
  have := heap_new (w.alloc (.map #[] 0)) (.cells #[.map (some w.heap.size)] 77)
  rwa [World.size_alloc] at this
theorem New_c (w : World) (ok : Nat → Prop) :
    Calls Tryz.prog 39 #[] w fun e w' => (∃ p b, e = .returned (.pointer (some ⟨p, 0, none⟩)) ∧ Sub w' ok [] p b ∧ w.heap.size ≤ p ∧ w.heap.size ≤ b) ∧ Below w.heap.size w w' := by
  have hmm := @run_makeMap Tryz.prog
  go_enter Tryz.func39, Tryz.ntmps39
  go_wp2
  go_ret
  exact ⟨⟨_, _, rfl, Sub.made w ok, by omega, by omega⟩, ((Below.refl _ w).alloc (Nat.le_refl _) _).alloc (by simp) _⟩
/-- A map copied. -/
theorem mapsClone_c {M : Int → Option Value} {sz : Nat} (b : Nat) (w : World) (h : MapAt w b M sz) :
    Calls Tryz.prog 200 #[.map (some b)] w fun e w' => e = .returned (.map (some w.heap.size)) ∧ MapAt w' w.heap.size M sz ∧ Below w.heap.size w w' := by
  obtain ⟨D, ⟨es, clock, hb, hr⟩, h2⟩ := h
  have hq := fun w => run_eql_map_nil_sl (P := Tryz.prog) w 75 _ _ (some b) Tryz.underlying75
  go_enter Tryz.func200, Tryz.ntmps200
  go_wp2
  rw [run_callFunc_extern Tryz.func219 (by kernel_rfl) (by kernel_rfl) (by kernel_rfl) (e := Extern.MapsClone.clone) (by kernel_rfl), run_maps_clone_sl w 75 hb]
  simp only [Result.andThen]
  rw [Oper.upon_value]
  go_wp2
  rw [run_typeAssert_map_sl _ 75 _ _ _ _ Tryz.underlying75]
  simp only [Result.andThen]
  rw [Oper.upon_value]
  go_wp2
  go_ret
  exact ⟨rfl, ⟨D, ⟨es, clock, heap_new w _, hr⟩, h2⟩, (Below.refl _ w).alloc (Nat.le_refl _) _⟩
theorem sClone_c (l : Bs) (p b : Nat) (w : World) (ok : Nat → Prop) (hs : Sub w ok l p b) :
    Calls Tryz.prog 185 #[.pointer (some ⟨p, 0, none⟩)] w fun e w' => (∃ p' b', e = .returned (.pointer (some ⟨p', 0, none⟩)) ∧ Sub w' ok l p' b' ∧ w.heap.size ≤ p' ∧ w.heap.size ≤ b') ∧ Below w.heap.size w w' := by
  have hp := hs.at
  have HS := Lib.hid hs
  obtain ⟨M, hM, hM2⟩ := hs.map
  have HM2 := Lib.hid hM2
  have HC := Lib.hid (mapsClone_c b w hM)
  clear hs hM hM2
  go_enter Tryz.func185, Tryz.ntmps185
  go_wp2_with (go_at_call 200; refine HC.out.mono ?_; clear HC; rintro e w1 ⟨rfl, hM1, hb1⟩)
  go_ret
  have hlt := hM1.lt
  refine ⟨⟨w1.heap.size, w.heap.size, rfl, ⟨heap_new w1 _, ⟨M, hM1.move (Below.heap_alloc _ _ _ hlt), fun n => ⟨(HM2.out n).1, fun t hn => ?_⟩⟩, HS.out.acyc, HS.out.wf⟩, by omega, by omega⟩, hb1.alloc (by omega) _⟩
  obtain ⟨v, hv, hv2⟩ := (HM2.out n).2 t hn
  exact ⟨v, hv, hv2.below (hb1.alloc (by omega) _)⟩
theorem sLen_c (l : Bs) (p b : Nat) (w : World) (ok : Nat → Prop) (hs : Sub w ok l p b) :
    Calls Tryz.prog 17 #[.pointer (some ⟨p, 0, none⟩)] w fun e w' => e = .returned (.int .i64 (l.length : Nat)) ∧ Below w.heap.size w w' := by
  have hp := hs.at
  obtain ⟨M, hM, hM2⟩ := hs.map
  have HM := Lib.hid hM
  clear hs hM hM2
  go_enter Tryz.func17, Tryz.ntmps17
  go_wp2_with (at_len; refine MapAt.len HM.out rfl _ 75 rfl 30 Tryz.underlying75 rfl ?_)
  go_ret
  exact ⟨rfl, Below.refl _ _⟩
theorem Sub.apart {w : World} {ok : Nat → Prop} {l : Bs} {p b : Nat} (h : Sub w ok l p b) : Sub w (fun k => ok k ∧ k ≠ b) l p b := by
  obtain ⟨h1, ⟨M, hM, hM2⟩, h3, h4⟩ := h
  exact ⟨h1, ⟨M, hM, fun n => ⟨(hM2 n).1, fun t hn => by obtain ⟨v, hv, hv2⟩ := (hM2 n).2 t hn; exact ⟨v, hv, hv2.apart hM.not_cells⟩⟩⟩, h3, h4⟩
theorem Sub.not_cells {w : World} {ok : Nat → Prop} {l : Bs} {p b : Nat} (h : Sub w ok l p b) : ∀ c t f, w.heap[b]? ≠ some (.cells c t f) := by
  obtain ⟨M, hM, _⟩ := h.map; exact hM.not_cells
/-- What the bindings are behind a Bind. -/
def bnd (l : Bs) (v : Int) (t : Tm) (P : List Tm) : Bs := if bindE l v P = 0 then l ++ [(v, t)] else l
theorem bindE_ne {l : Bs} {v : Int} {P : List Tm} (h : bindE l v P ≠ 0) (t : Tm) : bnd l v t P = l := by unfold bnd; rw [if_neg h]
theorem bindE_eq {l : Bs} {v : Int} {P : List Tm} (h : bindE l v P = 0) (t : Tm) : bnd l v t P = l ++ [(v, t)] := by unfold bnd; rw [if_pos h]
set_option maxHeartbeats 2000000 in
theorem Bind_c (l : Bs) (p b f : Nat) (q : Int) (t : Tm) (v : Value) (w : World) (ok : Nat → Prop) (hs : Sub w ok l p b) (hv : TmV w ok t v) (hwf : t.Wf) (hf : Fn l f t) (hq : -9223372036854775808 ≤ q ∧ q ≤ 9223372036854775807) (hl : l.length < 1000000) :
    Calls Tryz.prog 42 #[.pointer (some ⟨p, 0, none⟩), .int .i64 q, v] w fun e w' => e = .returned (.int .i64 (bindE l q (vis l f t))) ∧ Sub w' ok (bnd l q t (vis l f t)) p b ∧ w.grownBy w' (some b) := by
  have hp := hs.at
  have hkq : (Lit.int .i64 q).wf = true := by
    simp only [Lit.wf, Bool.and_eq_true, decide_eq_true_eq, IntKind.min, IntKind.max, IntKind.signed, IntKind.bits]
    simpa using hq
  obtain ⟨u, rfl, hS⟩ := hv
  obtain ⟨A, c, rfl⟩ := hS.form
  have hplt := hs.lt.1
  have hHS := Lib.hid hs
  obtain ⟨M, hM, hM2⟩ := hs.map
  have HT := Lib.hid hS
  have HF := Lib.hid hf
  have HM := Lib.hid hM
  have HK := Lib.hid hkq
  obtain ⟨O, hO⟩ : ∃ O : Obj, O = .cells #[.int .u8 t.k, .string t.s, .int .i64 t.n, .slice A t.l.length c] 30 := ⟨_, rfl⟩
  have hb1 : Below w.heap.size w (w.alloc O) := (Below.refl _ w).alloc (Nat.le_refl _) _
  have HM1 := Lib.hid (hM.move (hb1.block b hM.lt))
  have hp1 := cell_below hb1 hp hplt
  subst hO
  cases ho : ofB l q with
  | some x =>
    obtain ⟨vx, hMx, ux, rfl, hSx⟩ := (hM2 q).2 x ho
    have hbe : bindE l q (vis l f t) = 1 := by simp [bindE, ho]
    have HBE := Lib.hid hbe
    have HMX := Lib.hid hMx
    have hN := bindE_ne (l := l) (v := q) (P := vis l f t) (by rw [hbe]; decide) t
    rw [hbe, hN]
    obtain ⟨Ax, cx, rfl⟩ := hSx.form
    clear hs hM hM2 hS hkq hMx ho hbe hN hf HF hl hSx
    go_enter Tryz.func42, Tryz.ntmps42
    go_wp2_with (first
      | (at_lookup; refine MapAt.look_ok HM1.out rfl _ _ 75 rfl 30 Tryz.underlying75 Tryz.zeroT rfl q HK.out rfl ?_; rw [HMX.out]; simp only [Option.getD_some, Option.isSome_some]))
    go_ret
    have hB := hb1.alloc hb1.size (.cells #[.int .u8 x.k, .string x.s, .int .i64 x.n, .slice Ax x.l.length cx] 30)
    exact ⟨rfl, hHS.out.below hB, ⟨hB.os, hB.tape, hB.output, hB.size, fun k hk _ => hB.block k hk⟩⟩
  | none =>
    have HMX := Lib.hid ((hM2 q).1 ho)
    by_cases hq0 : q < 0
    · have hbe : bindE l q (vis l f t) = 1 := by simp [bindE, hq0]
      have hN := bindE_ne (l := l) (v := q) (P := vis l f t) (by rw [hbe]; decide) t
      rw [hbe, hN]
      clear hs hM hM2 hS hkq ho hbe hN hf HF hl
      go_enter Tryz.func42, Tryz.ntmps42
      go_wp2_with (first
        | (at_lookup; refine MapAt.look_ok HM1.out rfl _ _ 75 rfl 30 Tryz.underlying75 Tryz.zeroT rfl q HK.out rfl ?_; rw [HMX.out]; simp only [Option.getD_none, Option.isSome_none]))
      go_ret
      have hB := hb1.alloc hb1.size (.cells #[.int .u8 0, .string ⟨#[]⟩, .int .i64 0, .slice none 0 0] 30)
      exact ⟨rfl, hHS.out.below hB, ⟨hB.os, hB.tape, hB.output, hB.size, fun k hk _ => hB.block k hk⟩⟩
    · have hB := hb1.alloc hb1.size (.cells #[.int .u8 0, .string ⟨#[]⟩, .int .i64 0, .slice none 0 0] 30)
      have hOC := Lib.hid (Occurs_c l p b f q t _ _ ok (hs.below hB) (TmV.below hB ⟨_, rfl, hS⟩) hwf hf)
      have hbx := Lib.hid ((Below.heap_alloc (w.alloc (.cells #[.int .u8 t.k, .string t.s, .int .i64 t.n, .slice A t.l.length c] 30)) (.cells #[.int .u8 0, .string ⟨#[]⟩, .int .i64 0, .slice none 0 0] 30) _ (by simp)).trans (heap_new w _))
      have hq1 : 0 ≤ q := by omega
      obtain ⟨r, hr⟩ : ∃ r, r = occE (vis l f t) q := ⟨_, rfl⟩
      have hbe : bindE l q (vis l f t) = if r.2 ≠ 0 then r.2 else if r.1 then 1 else 0 := by simp [bindE, ho, hr]; omega
      have hrc : r = (true, 0) ∨ r = (false, 31) ∨ r = (false, 0) := by
        rw [hr]; unfold occE; split
        · exact .inl rfl
        · split
          · exact .inr (.inl rfl)
          · exact .inr (.inr rfl)
      rw [← hr] at hOC
      have HSA := Lib.hid hs.apart
      have hsb := Lib.hid hs
      have HTA := Lib.hid (TmV.apart hs.not_cells (t := t) (v := .agg #[.int .u8 t.k, .string t.s, .int .i64 t.n, .slice A t.l.length c]) ⟨_, rfl, hS⟩)
      have HBE := Lib.hid hbe
      have HO := Lib.hid ho
      have HM2 := Lib.hid hM2
      have HL := Lib.hid hl
      have HWF := Lib.hid hwf
      clear hs hM hM2 hS hkq ho hbe hf hl hr hq0 hwf
      rcases hrc with rfl | rfl | rfl
      · have hbe : bindE l q (vis l f t) = 1 := by rw [HBE.out]; simp
        have hN := bindE_ne (l := l) (v := q) (P := vis l f t) (by rw [hbe]; decide) t
        rw [hbe, hN]
        clear hbe hN HBE
        go_enter Tryz.func42, Tryz.ntmps42
        go_wp2_with (first
          | (at_lookup; refine MapAt.look_ok HM1.out rfl _ _ 75 rfl 30 Tryz.underlying75 Tryz.zeroT rfl q HK.out rfl ?_; rw [HMX.out]; simp only [Option.getD_none, Option.isSome_none])
          | (go_at_call 75; refine hOC.out.mono ?_; clear hOC; rintro e w2 ⟨rfl, hb2⟩))
        go_ret
        have hB2 := below_then hB hB.size hb2
        exact ⟨rfl, hHS.out.below hB2, ⟨hB2.os, hB2.tape, hB2.output, hB2.size, fun k hk _ => hB2.block k hk⟩⟩
      · have hbe : bindE l q (vis l f t) = 31 := by rw [HBE.out]; simp
        have hN := bindE_ne (l := l) (v := q) (P := vis l f t) (by rw [hbe]; decide) t
        rw [hbe, hN]
        clear hbe hN HBE
        go_enter Tryz.func42, Tryz.ntmps42
        go_wp2_with (first
          | (at_lookup; refine MapAt.look_ok HM1.out rfl _ _ 75 rfl 30 Tryz.underlying75 Tryz.zeroT rfl q HK.out rfl ?_; rw [HMX.out]; simp only [Option.getD_none, Option.isSome_none])
          | (go_at_call 75; refine hOC.out.mono ?_; clear hOC; rintro e w2 ⟨rfl, hb2⟩))
        go_ret
        have hB2 := below_then hB hB.size hb2
        exact ⟨rfl, hHS.out.below hB2, ⟨hB2.os, hB2.tape, hB2.output, hB2.size, fun k hk _ => hB2.block k hk⟩⟩
      · have hbe : bindE l q (vis l f t) = 0 := by rw [HBE.out]; simp
        have hN := bindE_eq (l := l) (v := q) (P := vis l f t) hbe t
        have HA := Lib.hid (Acyc.bound hHS.out.acyc HF.out hbe)
        rw [hbe, hN]
        clear hbe hN HBE
        go_enter Tryz.func42, Tryz.ntmps42
        go_wp2_with (first
          | (at_lookup; refine MapAt.look_ok HM1.out rfl _ _ 75 rfl 30 Tryz.underlying75 Tryz.zeroT rfl q HK.out rfl ?_; rw [HMX.out]; simp only [Option.getD_none, Option.isSome_none])
          | (go_at_call 75; refine hOC.out.mono ?_; clear hOC; rintro e w2 ⟨rfl, hb2⟩; have hB2 := below_then hB hB.size hb2; have hp2 := cell_below hB2 hp hplt; have hbx2 := block_below hb2 (by simp; omega) hbx.out; obtain ⟨c0, c1, c2, c3, -, -, -, -⟩ := box4 hbx2))
        go_still_tail 6, (by kernel_rfl)
        change wpList _ _ _ _ _ w2.drew
        have HMD := Lib.hid ((HM1.out.move (w' := w2.drew) ((hB2.block b hHS.out.lt.2).trans (hb1.block b hHS.out.lt.2).symm)))
        go_wp2_with (at_mapUpdate; refine MapAt.update HMD.out rfl _ _ _ 75 rfl 30 Tryz.underlying75 rfl q HK.out (.agg #[.int .u8 t.k, .string t.s, .int .i64 t.n, .slice A t.l.length c]) rfl rfl (by have := HL.out; unfold maxLen; omega) HMX.out ?_; intro w3 hM3 hg3)
        go_ret
        have hgr : w.grownBy w3 (some b) := World.grownBy.trans (b := w2.drew) ⟨hB2.os, hB2.tape, hB2.output, hB2.size, fun k hk _ => hB2.block k hk⟩ hg3
        refine ⟨rfl, ⟨(hgr.block p hplt (fun e => hsb.out.len_le (by injection e))).trans hsb.out.cell, ⟨_, by simpa using hM3, fun n => ?_⟩, HA.out, fun n x hn => ?_⟩, hgr⟩
        · have hmv : ∀ x vx, TmV w ok x vx → TmV w3 ok x vx := fun x vx hx => (TmV.grown hgr (fun k hk he => hk.2 (by injection he)) (hx.apart hsb.out.not_cells)).mono (fun _ h => h.1)
          rw [ofB_append]
          by_cases hn : n = q
          · subst hn
            simp only [HO.out, ofB_one, if_true]
            exact ⟨fun h => (by cases h), fun x hx => by injection hx with hx; subst hx; exact ⟨_, rfl, hmv _ _ ⟨_, rfl, HT.out⟩⟩⟩
          · have hn' : q ≠ n := fun h => hn h.symm
            simp only [ofB_one, if_neg hn, if_neg hn']
            have h2 := HM2.out n
            cases hox : ofB l n with
            | none => exact ⟨fun _ => h2.1 hox, fun x hx => (by simp at hx)⟩
            | some y =>
              refine ⟨fun h => (by simp at h), fun x hx => ?_⟩
              simp only [Option.some.injEq] at hx
              subst hx
              obtain ⟨vx, h3, h4⟩ := h2.2 y hox
              exact ⟨vx, h3, hmv _ _ h4⟩
        · rw [ofB_append] at hn
          cases hox : ofB l n with
          | some y =>
            rw [hox] at hn
            injection hn with hn
            subst hn
            exact hsb.out.wf _ _ hox
          | none =>
            rw [hox, ofB_one] at hn
            simp only at hn
            split at hn
            · injection hn with hn; subst hn; exact HWF.out
            · cases hn
end Go.Proofs.YtgcbanljifalnaaGreatDoor
/- The variables of a list, by the iterator: the walk. Conditions: the arguments read; terms of at most a million nodes. -/
namespace Go.Proofs.YtgcbanljifalnaaGreatDoor
open Go.RowKit Go.Shelf
attribute [local go_sem] Oper.semAt_some

end Go.Proofs.YtgcbanljifalnaaGreatDoor
/- Walks of layer 1: ground terms; the terms that are known. Conditions: the arguments read; terms of at most a million nodes. -/
namespace Go.Proofs.YtgcbanljifalnaaGreatDoor
open Go.RowKit

/-- A row of one term, and of two, written out. -/
theorem lit1 {w W : World} {ok : Nat → Prop} {t : Tm} {u : Value} (h : Kd.tm.S W ok t.l u) (hW : Below w.heap.size w W) :
    Kd.tm.S (W.alloc (.cells #[.int .u8 t.k, .string t.s, .int .i64 t.n, u] 30)) (fun b => ok b ∨ w.heap.size ≤ b) [t] (.slice (some ⟨W.heap.size, 0, none⟩) 1 1) :=
  Kd.Own.S (Kd.Own.lit (d := Kd.tm) (e := 30) (base := w.heap.size) (ok := ok) (xs := [t]) [.int .u8 t.k, .string t.s, .int .i64 t.n, u] hW.size rfl (by simp [maxLen]) (fun j x hx => by
    cases j with
    | zero => simp at hx; subst hx; exact TmK_iff.2 ⟨u, rfl, h⟩
    | succ j => simp at hx))
/-- The terms that are known. -/
def kV (n : Int) : Tm := ⟨1, ⟨#[]⟩, n, []⟩
def kG : Tm := ⟨4, ⟨#[103]⟩, 0, [kV 0, kV 1]⟩
def kF : Tm := ⟨4, ⟨#[102]⟩, 0, [kV 1, kG]⟩
/-- What is known of a world with the term in a box. -/
def Kn (w : World) (B : Nat) (u : Value) (W : World) : Prop :=
  Below w.heap.size w W ∧ Kd.tm.S W (fun b => w.heap.size ≤ b) [kV 1, kG] u ∧ W.heap[B]? = some (.cells #[.int .u8 4, .string ⟨#[102]⟩, .int .i64 0, u] 30 (0, 0))
theorem Kn.then {w W W' : World} {B : Nat} {u : Value} (h : Kn w B u W) (hb : Below W.heap.size W W') : Kn w B u W' :=
  ⟨below_then h.1 h.1.size hb, h.2.1.below hb, block_below hb (Array.getElem?_eq_some_iff.1 h.2.2).1 h.2.2⟩
theorem Kn.alloc {w W : World} {B : Nat} {u : Value} (h : Kn w B u W) (O : Obj) : Kn w B u (W.alloc O) := h.then ((Below.refl _ W).alloc (Nat.le_refl _) O)
theorem Kn.tmv {w W : World} {B : Nat} {u : Value} (h : Kn w B u W) : TmV W (fun b => w.heap.size ≤ b) kF (.agg #[.int .u8 4, .string ⟨#[102]⟩, .int .i64 0, u]) := ⟨u, rfl, h.2.1⟩
end Go.Proofs.YtgcbanljifalnaaGreatDoor
/- The laws' frame: two terms in boxes. No condition. -/
namespace Go.Proofs.YtgcbanljifalnaaGreatDoor
open Go.RowKit

/-- What is known of a world in which a term lies in a box. -/
structure Bx (w : World) (ok : Nat → Prop) (B : Nat) (t : Tm) (u : Value) (W : World) : Prop where
  below : Below w.heap.size w W
  box : W.heap[B]? = some (.cells #[.int .u8 t.k, .string t.s, .int .i64 t.n, u] 30 (0, 0))
  args : Kd.tm.S W ok t.l u
theorem Bx.then {w W W' : World} {ok : Nat → Prop} {B : Nat} {t : Tm} {u : Value} (h : Bx w ok B t u W) (hb : Below W.heap.size W W') : Bx w ok B t u W' :=
  ⟨below_then h.below h.below.size hb, block_below hb (Array.getElem?_eq_some_iff.1 h.box).1 h.box, h.args.below hb⟩
theorem Bx.alloc {w W : World} {ok : Nat → Prop} {B : Nat} {t : Tm} {u : Value} (h : Bx w ok B t u W) (O : Obj) : Bx w ok B t u (W.alloc O) := h.then ((Below.refl _ W).alloc (Nat.le_refl _) O)
theorem Bx.drew {w W : World} {ok : Nat → Prop} {B : Nat} {t : Tm} {u : Value} (h : Bx w ok B t u W) : Bx w ok B t u W.drew := h.then (Below.refl _ W).drew
theorem Bx.tmv {w W : World} {ok : Nat → Prop} {B : Nat} {t : Tm} {u : Value} (h : Bx w ok B t u W) : TmV W ok t (.agg #[.int .u8 t.k, .string t.s, .int .i64 t.n, u]) := ⟨u, rfl, h.args⟩
/-- The box's cells, and all that is known. -/
def BxH (w : World) (ok : Nat → Prop) (B : Nat) (t : Tm) (u : Value) (W : World) : Prop :=
  W.cell? ⟨B, 0, none⟩ = some (.int .u8 t.k) ∧ W.cell? ⟨B, 1, none⟩ = some (.string t.s) ∧ W.cell? ⟨B, 2, none⟩ = some (.int .i64 t.n) ∧ W.cell? ⟨B, 3, none⟩ = some u ∧ Bx w ok B t u W
theorem Bx.held {w W : World} {ok : Nat → Prop} {B : Nat} {t : Tm} {u : Value} (h : Bx w ok B t u W) : BxH w ok B t u W :=
  let ⟨c0, c1, c2, c3, _, _, _, _⟩ := box4 h.box
  ⟨c0, c1, c2, c3, h⟩
theorem BxH.bx {w W : World} {ok : Nat → Prop} {B : Nat} {t : Tm} {u : Value} (h : BxH w ok B t u W) : Bx w ok B t u W := h.2.2.2.2
theorem BxH.then {w W W' : World} {ok : Nat → Prop} {B : Nat} {t : Tm} {u : Value} (h : BxH w ok B t u W) (hb : Below W.heap.size W W') : BxH w ok B t u W' := (h.bx.then hb).held
/-- Two terms are boxed, the one behind the other. -/
theorem Bx.two {w : World} {ok : Nat → Prop} {a b : Tm} {u u' : Value} (h : Kd.tm.S w ok a.l u) (h' : Kd.tm.S w ok b.l u') :
    Bx w ok w.heap.size a u ((w.alloc (.cells #[.int .u8 a.k, .string a.s, .int .i64 a.n, u] 30)).alloc (.cells #[.int .u8 b.k, .string b.s, .int .i64 b.n, u'] 30)) ∧
    Bx w ok (w.heap.size + 1) b u' ((w.alloc (.cells #[.int .u8 a.k, .string a.s, .int .i64 a.n, u] 30)).alloc (.cells #[.int .u8 b.k, .string b.s, .int .i64 b.n, u'] 30)) := by
  have hst : ∀ O O' : Obj, Below w.heap.size w ((w.alloc O).alloc O') := fun O O' => ((Below.refl _ w).alloc (Nat.le_refl _) O).alloc (by simp) O'
  refine ⟨⟨hst _ _, ?_, h.below (hst _ _)⟩, ⟨hst _ _, ?_, h'.below (hst _ _)⟩⟩
  · exact (Below.heap_alloc _ _ _ (by simp)).trans (heap_new w _)
  · have := heap_new (w.alloc (.cells #[.int .u8 a.k, .string a.s, .int .i64 a.n, u] 30)) (.cells #[.int .u8 b.k, .string b.s, .int .i64 b.n, u'] 30)
    rwa [World.size_alloc] at this
theorem heap_alloc_if (w : World) (o : Obj) (k : Nat) : (w.alloc o).heap[k]? = if k = w.heap.size then some o else w.heap[k]? := by
  simp only [World.alloc, Array.getElem?_push]
theorem heap_at (w : World) (o : Obj) (k : Nat) (h : k = w.heap.size) : (w.alloc o).heap[k]? = some o := by rw [heap_alloc_if, if_pos h]
theorem heap_drew_if (w : World) (k : Nat) : w.drew.heap[k]? = w.heap[k]? := rfl
theorem lit1_at {W : World} {ok : Nat → Prop} {t : Tm} {u : Value} {b : Nat} (hb : W.heap[b]? = some (.cells #[.int .u8 t.k, .string t.s, .int .i64 t.n, u] 30 (0, 0)))
    (h : Kd.tm.S W ok t.l u) : Kd.tm.S W (fun _ => True) [t] (.slice (some ⟨b, 0, none⟩) 1 1) :=
  ⟨_, 1, rfl, Nat.le_refl _, by simp [maxLen], .inr ⟨b, 0, rfl, trivial, fun j x hx => by
    match j, hx with
    | 0, hx =>
      simp at hx; subst hx
      refine ⟨_, TmK_iff.2 ⟨u, rfl, h.mono (fun _ _ => trivial)⟩, fun i v hv => ?_⟩
      match i, hv with
      | 0, hv => simp at hv; subst hv; simp [World.cell?, hb]
      | 1, hv => simp at hv; subst hv; simp [World.cell?, hb]
      | 2, hv => simp at hv; subst hv; simp [World.cell?, hb]
      | 3, hv => simp at hv; subst hv; simp [World.cell?, hb]
      | i + 4, hv => simp at hv
    | j + 1, hx => simp at hx⟩⟩
theorem lit2_at {W : World} {ok ok' : Nat → Prop} {t t' : Tm} {u u' : Value} {b : Nat} (hb : W.heap[b]? = some (.cells #[.int .u8 t.k, .string t.s, .int .i64 t.n, u, .int .u8 t'.k, .string t'.s, .int .i64 t'.n, u'] 30 (0, 0)))
    (h : Kd.tm.S W ok t.l u) (h' : Kd.tm.S W ok' t'.l u') : Kd.tm.S W (fun _ => True) [t, t'] (.slice (some ⟨b, 0, none⟩) 2 2) := by
  refine ⟨_, 2, rfl, Nat.le_refl _, by simp [maxLen], .inr ⟨b, 0, rfl, trivial, fun j x hx => ?_⟩⟩
  match j, hx with
  | 0, hx =>
    simp at hx; subst hx
    refine ⟨_, TmK_iff.2 ⟨u, rfl, h.mono (fun _ _ => trivial)⟩, fun i v hv => ?_⟩
    match i, hv with
    | 0, hv => simp at hv; subst hv; simp [World.cell?, hb]
    | 1, hv => simp at hv; subst hv; simp [World.cell?, hb]
    | 2, hv => simp at hv; subst hv; simp [World.cell?, hb]
    | 3, hv => simp at hv; subst hv; simp [World.cell?, hb]
    | i + 4, hv => simp at hv
  | 1, hx =>
    simp at hx; subst hx
    refine ⟨_, TmK_iff.2 ⟨u', rfl, h'.mono (fun _ _ => trivial)⟩, fun i v hv => ?_⟩
    match i, hv with
    | 0, hv => simp at hv; subst hv; simp [World.cell?, hb, Kd.tm]
    | 1, hv => simp at hv; subst hv; simp [World.cell?, hb, Kd.tm]
    | 2, hv => simp at hv; subst hv; simp [World.cell?, hb, Kd.tm]
    | 3, hv => simp at hv; subst hv; simp [World.cell?, hb, Kd.tm]
    | i + 4, hv => simp at hv
  | j + 2, hx => simp at hx
theorem Kd.S.cap {α : Type} {d : Kd α} {w : World} {ok : Nat → Prop} {xs : List α} {A : Option Addr} {n c : Nat} (h : d.S w ok xs (.slice A n c)) : xs.length ≤ c := by
  obtain ⟨A', c', e, h1, h2, h3⟩ := h
  injection e with e1 e2 e3
  omega
theorem Kd.S.take {α : Type} {d : Kd α} {w : World} {ok : Nat → Prop} {xs : List α} {A : Option Addr} {n c m : Nat} (h : d.S w ok xs (.slice A n c)) (hm : m ≤ xs.length) : d.S w ok (xs.take m) (.slice A m c) := by
  obtain ⟨A', c', e, h1, h2, h3⟩ := h
  injection e with e1 e2 e3
  subst e1 e3
  refine ⟨A, c, by rw [List.length_take, Nat.min_eq_left hm], by rw [List.length_take]; omega, h2, ?_⟩
  rcases h3 with ⟨rfl, h4⟩ | ⟨b, o, ha, hb, hat⟩
  · exact .inl ⟨by simp, h4⟩
  · exact .inr ⟨b, o, ha, hb, fun j x hx => hat j x (by rw [List.getElem?_take] at hx; split at hx; exact hx; cases hx)⟩
end Go.Proofs.YtgcbanljifalnaaGreatDoor

/- The iterator over the nodes of an applied term: 'each', 'visit', 'Occurs'. Conditions: the arguments read; the bindings make no circle. -/
import Derived.Test.YtdflckjnpgbjlaaS1
import Derived.Test.YtdflckjnpgbjlaaW8
set_option linter.unusedVariables false
set_option maxRecDepth 20000
set_option linter.unusedSimpArgs false
namespace Go.Proofs.Ytdflckjnpgbjlaa
open Go.RowKit Go.Shelf
attribute [local go_sem] Oper.semAt_some

/-- A node as it is handed to yield: the term, its arguments' slice. -/
structure Nv where
  t : Tm
  A : Option Addr
  c : Nat
def Nv.vals (x : Nv) : Array Value := #[.agg #[.int .u8 x.t.k, .string x.t.s, .int .i64 x.t.n, .slice x.A x.t.l.length x.c]]
theorem Sub.belowN {n₀ : Nat} {w w' : World} {l : Bs} {p b : Nat} (h : Sub w (fun k => k < n₀) l p b) (hp : p < n₀) (hq : b < n₀) (hb : Below n₀ w w') : Sub w' (fun k => k < n₀) l p b :=
  h.move (hb.block _ hp) (hb.block _ hq) (fun t v => tmv_below hb)
theorem grownBy_of_below {w w' : World} (h : Below w.heap.size w w') : w.grownBy w' none := ⟨h.os, h.tape, h.output, h.size, fun k hk _ => h.block k hk⟩
theorem wlk_wf {l : Bs} (hl : ∀ n t, ofB l n = some t → t.Wf) (t : Tm) (h : t.Wf) : (wlk l t).Wf := wlkN_wf hl _ t h
theorem vis_succ (l : Bs) (f : Nat) (t : Tm) : vis l (f + 1) t = wlk l t :: (wlk l t).l.flatMap (vis l f) := rfl

theorem set4_block {W : World} {B : Nat} {t : TypeId} {a' b' c' d' a b c d : Value} (h : W.heap[B]? = some (.cells #[a', b', c', d'] t (0, 0))) : ((((W.setCell ⟨B, 0, none⟩ a).setCell ⟨B, 1, none⟩ b).setCell ⟨B, 2, none⟩ c).setCell ⟨B, 3, none⟩ d).heap[B]? = some (.cells #[a, b, c, d] t (0, 0)) := by
  simp [World.setCell, Array.getElem?_modify, h]
set_option maxRecDepth 100000 in
set_option maxHeartbeats 4000000 in
theorem each_in (lp n₀ N : Nat) (J Jx : List Nv → World → Prop) (B : Nat) (hJa : AbidesFrom B J)
    (hY : ∀ m pre x W, J pre W → pre.length < N → YieldAt Fence.wide m Try.prog lp x.vals W fun e W' =>
      (e = .returned (.bool true) ∧ J (pre ++ [x]) W' ∧ KpT n₀ W W') ∨ (e = .returned (.bool false) ∧ Jx (pre ++ [x]) W'))
    (l : Bs) (p b : Nat) (hp : p < n₀) (hq : b < n₀) :
    ∀ (f : Nat) (t : Tm), Fn l f t → ∀ (n : Nat) (v : Value) (pre : List Nv) (W : World), Sub W (fun k => k < n₀) l p b → TmV W (fun k => k < n₀) t v → t.Wf → J pre W → n₀ ≤ W.heap.size → pre.length + (vis l f t).length ≤ N →
      CallsIn Fence.wide n Try.prog 154 #[.pointer (some ⟨p, 0, none⟩), v, .func (.yield lp) #[] #[]] W fun e W' =>
        (e = .returned (.bool true) ∧ (∃ xs, xs.map Nv.t = vis l f t ∧ J (pre ++ xs) W') ∧ KpT n₀ W W') ∨ (e = .returned (.bool false) ∧ ∃ xs, xs.map Nv.t <+: vis l f t ∧ Jx (pre ++ xs) W') := by
  intro f
  induction f with
  | zero => intro t hf; exact hf.elim
  | succ f ih =>
  intro t hf n v pre W hs hv hwf hJ hn₀ hN
  obtain ⟨u, rfl, hvS⟩ := hv
  obtain ⟨A0, c0, rfl⟩ := hvS.form
  obtain ⟨O, hO⟩ : ∃ O : Obj, O = .cells #[.int .u8 t.k, .string t.s, .int .i64 t.n, .slice A0 t.l.length c0] 24 := ⟨_, rfl⟩
  have hb1 : Below n₀ W (W.alloc O) := (Below.refl _ W).alloc hn₀ _
  have HWK := Lib.hid (Walk_c l p b t _ (W.alloc O) _ (hs.belowN hp hq hb1) (tmv_below hb1 ⟨_, rfl, hvS⟩) hwf)
  have hxw := wlk_wf hs.wf t hwf
  have hff : ∀ a ∈ (wlk l t).l, Fn l f a := hf
  simp only [vis_succ] at hN ⊢
  generalize wlk l t = x at HWK hxw hff hN ⊢
  subst hO
  have HIH := Lib.hid ih
  have HY := Lib.hid hY
  have HJ := Lib.hid hJ
  have HFF := Lib.hid hff
  have HS := Lib.hid hs
  have HA := Lib.hid hJa
  have HN := Lib.hid hN
  clear hvS hf ih hY hJ hff hs hb1 hJa hN hwf
  refine callsIn_of_wp Try.func154 rfl trivial ?_ rfl
  simp only [Try.ntmps154, List.size_toArray, List.length_cons, List.length_nil, Nat.reduceAdd, Nat.reduceSub, Array.replicate_succ, Array.replicate_zero, List.push_toArray, List.append_toArray, List.nil_append, List.cons_append]
  gi_wp2_with (first | ((try refine ⟨wide_room _, ?_⟩); refine HR.out.mono ?_; clear HR hy; intro e W4 hh; have hh' := hh.imp (fun h1 => And.intro h1.1 (And.intro h1.2.1 (And.intro h1.2.2 (box4 (h1.2.2.2 _ _ hbx3.out)).2.2.2.1))) id; clear hh; rcases hh' with ⟨rfl, hJ4, hk4, d3⟩ | ⟨rfl, hx4⟩) | (refine ⟨trivial, wide_room _, ?_⟩; gi_at_call 97; refine (callsIn_wide.2 HWK.out).mono ?_; clear HWK; rintro e W2 ⟨⟨u2, rfl, hv2⟩, hb2⟩; obtain ⟨u3, rfl, hvS2⟩ := hv2; obtain ⟨A, c, rfl⟩ := hvS2.form; have hbx := block_below hb2 (by simp) (heap_new W _); obtain ⟨c0, c1, c2, c3, f0, f1, f2, f3⟩ := box4 hbx; have hbW2 : Below W.heap.size W W2 := ((Below.refl _ W).alloc (Nat.le_refl _) _).trans (hb2.mono (by simp)); have hsz2 : W.heap.size + 1 ≤ W2.heap.size := (by have := hb2.size; simpa using this); have hbW3 := Lib.hid (hbW2.grown (grown_set4 W2 W.heap.size (.int .u8 x.k) (.string x.s) (.int .i64 x.n) (.slice A x.l.length c)) (by omega) (fun k hk => (by injection hk with hk; omega))); have hbx3 := Lib.hid (set4_block (a := .int .u8 x.k) (b := .string x.s) (c := .int .i64 x.n) (d := .slice A x.l.length c) hbx); have hvS3 := Lib.hid (Kd.S.grown (grown_set4 W2 W.heap.size (.int .u8 x.k) (.string x.s) (.int .i64 x.n) (.slice A x.l.length c)) (fun k hk he => (by injection he; omega)) hvS2); obtain ⟨fn, tmps, assign, body, hy, hR⟩ := HY.out (n - 1) pre ⟨x, A, c⟩ _ (HA.out pre W _ none HJ.out (grownBy_of_below hbW3.out) (fun r e => (by cases e))) (by have := HN.out; simp at this; omega); simp only [Nv.vals] at hy; have HR := Lib.hid hR; clear hR))
  · have hb4 : Below n₀ W W4 := (hbW3.out.mono hn₀).trans hk4.1
    have hn4 : n₀ ≤ W4.heap.size := Nat.le_trans hn₀ hb4.size
    have hvS4 := tms_below hk4.1 hvS3.out
    have HKT := Lib.hid ((KpT.of_below hbW3.out hn₀).trans hk4)
    obtain ⟨A4, c4, he4, hl, hc, hA⟩ := hvS4
    injection he4 with he1 he2 he3
    subst he1 he3
    clear he2 hvS3 hbx3 hbW3 hb2 hbW2 hsz2 hbx hvS2 c0 c1 c2 c3 f0 f1 f2 f3 HJ
    unfold maxLen at hc
    have HK4 := Lib.hid hb4
    gi_loopw [19] (fun i wr => ∃ j : Nat, j ≤ x.l.length ∧ i = .int .i64 j ∧ (∃ xs, xs.map Nv.t = x :: (x.l.take j).flatMap (vis l f) ∧ J (pre ++ xs) wr) ∧ KpT n₀ W4 wr) (fun i _ => x.l.length - (intOf i).toNat)
    case atStart => exact ⟨0, Nat.zero_le _, rfl, ⟨[⟨x, A, c⟩], by simp, hJ4⟩, ⟨Below.refl _ _, fun _ _ h => h⟩⟩
    case round =>
      obtain ⟨j, hj, rfl, ⟨xs, hxs, hJ5⟩, hk5⟩ := hrel
      have hn5 : n₀ ≤ wr.heap.size := Nat.le_trans hn4 hk5.1.size
      by_cases hlt : j < x.l.length
      · obtain ⟨bb, o, u, rfl, hok, hlo, h0, h1, h2, h3, h4⟩ := tm_elem hA hlt
        have g0 := cell_below hk5.1 h0 hok
        have g1 := cell_below hk5.1 h1 hok
        have g2 := cell_below hk5.1 h2 hok
        have g3 := cell_below hk5.1 h3 hok
        have k4 := tms_below hk5.1 h4
        obtain ⟨Au, cu, rfl⟩ := h4.form
        have hm := List.getElem_mem hlt
        have hxl : xs.length = 1 + ((x.l.take j).flatMap (vis l f)).length := by
          have := congrArg List.length hxs
          simp only [List.length_map, List.length_cons] at this
          omega
        have hnx : (x.l.take (j + 1)).flatMap (vis l f) = (x.l.take j).flatMap (vis l f) ++ vis l f x.l[j] := by rw [take_succ_at x.l hlt, List.flatMap_append]; simp
        have htl : x.l.flatMap (vis l f) = (x.l.take (j + 1)).flatMap (vis l f) ++ (x.l.drop (j + 1)).flatMap (vis l f) := by rw [← List.flatMap_append, List.take_append_drop]
        have hbr : Below n₀ W (wr.alloc (.cells #[.int .u8 x.l[j].k, .string x.l[j].s, .int .i64 x.l[j].n, .slice Au x.l[j].l.length cu] 24)) := (HK4.out.trans hk5.1).alloc hn5 _
        have hi := HIH.out x.l[j] (HFF.out _ hm) (n - 1) _ (pre ++ xs) (wr.alloc (.cells #[.int .u8 x.l[j].k, .string x.l[j].s, .int .i64 x.l[j].n, .slice Au x.l[j].l.length cu] 24)) (HS.out.belowN hp hq hbr) (tmv_below ((Below.refl _ wr).alloc hn5 _) ⟨_, rfl, k4⟩) (WfL_at hxw.parts.2.2.2 hlt) (HA.out _ wr _ none hJ5 (World.grownBy_alloc wr _ none) (fun r e => by cases e)) (by simp; omega) (by have := HN.out; rw [htl, hnx] at this; simp only [List.length_append, List.length_cons] at this ⊢; omega)
        have HI := Lib.hid hi
        have HNX := Lib.hid hnx
        have HXS := Lib.hid hxs
        have HTL := Lib.hid htl
        have HXL := Lib.hid hxl
        generalize x.l[j] = y at g0 g1 g2 g3 k4 HI HNX
        clear hA h0 h1 h2 h3 h4 hi hnx hxs htl hxl hbr
        gi_wp2_with (refine ⟨trivial, wide_room _, ?_⟩; gi_at_call 154; refine HI.out.mono ?_; clear HI; rintro e W5 (⟨rfl, ⟨ys, hys, hJ6⟩, hk6⟩ | ⟨rfl, ys, hys, hx6⟩))
        · gi_wp2
          go_roundw
          case rel => exact ⟨j + 1, by omega, by go_num, ⟨xs ++ ys, by rw [List.map_append, HXS.out, hys, HNX.out]; simp, by rw [← List.append_assoc]; exact hJ6⟩, hk5.trans ((KpT.of_below ((Below.refl _ wr).alloc (Nat.le_refl _) _) hn5).trans hk6)⟩
          case measure => simp [intOf]; omega
        · gi_wp2
          go_ret
          obtain ⟨rest, hrest⟩ := hys
          refine .inr ⟨rfl, xs ++ ys, ⟨rest ++ (x.l.drop (j + 1)).flatMap (vis l f), ?_⟩, by rw [← List.append_assoc]; exact hx6⟩
          rw [List.map_append, HXS.out, HTL.out, HNX.out, ← hrest]
          simp
      · have HXS := Lib.hid hxs
        clear hxs hA
        gi_wp2
        go_ret
        refine .inl ⟨rfl, ⟨xs, by rw [HXS.out, List.take_of_length_le (by omega)], hJ5⟩, ?_⟩
        exact HKT.out.trans hk5
  · go_ret
    exact .inr ⟨rfl, [⟨x, A, c⟩], ⟨x.l.flatMap (vis l f), by simp⟩, hx4⟩

set_option maxHeartbeats 1000000 in
theorem visit1_stops (n n₀ Bs' Bt : Nat) (l : Bs) (p b f : Nat) (t : Tm) (A : Option Addr) (c : Nat) (w : World) (hn₀ : n₀ ≤ w.heap.size) (hp : p < n₀) (hq : b < n₀) (hs : Sub w (fun k => k < n₀) l p b) (hf : Fn l f t) (hv : Kd.tm.S w (fun k => k < n₀) t.l (.slice A t.l.length c)) (hwf : t.Wf)
    (hbs : w.heap[Bs']? = some (.cells #[.pointer (some ⟨p, 0, none⟩)] 28 (0, 0)))
    (hbt : w.heap[Bt]? = some (.cells #[.int .u8 t.k, .string t.s, .int .i64 t.n, .slice A t.l.length c] 24 (0, 0))) :
    SeqStopsK Fence.wide n Try.prog 153 #[.pointer (some ⟨Bs', 0, none⟩), .pointer (some ⟨Bt, 0, none⟩)] Nv.vals (KpT n₀) (fun xs => xs.map Nv.t = vis l f t) (fun pre => pre.map Nv.t <+: vis l f t) (vis l f t).length w := by
  intro lp J Jx W hW hJ hJx hY h0
  have hbW : W.heap[Bt]? = _ := block_below hW (Array.getElem?_eq_some_iff.1 hbt).1 hbt
  have hbS : W.heap[Bs']? = _ := block_below hW (Array.getElem?_eq_some_iff.1 hbs).1 hbs
  obtain ⟨c0, c1, c2, c3, -, -, -, -⟩ := box4 hbW
  have d0 : W.cell? ⟨Bs', 0, none⟩ = some (.pointer (some ⟨p, 0, none⟩)) := by
    unfold World.cell?
    simp only [hbS]
    rfl
  have hV : TmV W (fun b => b < n₀) t (.agg #[.int .u8 t.k, .string t.s, .int .i64 t.n, .slice A t.l.length c]) := tmv_below (hW.mono hn₀) ⟨_, rfl, hv⟩
  have HW := Lib.hid (each_in lp n₀ (vis l f t).length J Jx W.heap.size hJ (fun m pre x W1 hj hlt => YieldAt.any m (hY pre x W1 hj hlt)) l p b hp hq f t hf (n - 1) _ [] W (hs.belowN hp hq (hW.mono hn₀)) hV hwf h0 (Nat.le_trans hn₀ hW.size) (by simp))
  clear hY hbW hbS hs hv hbs hbt hf
  refine callsIn_of_wp Try.func153 rfl trivial ?_ rfl
  simp only [Try.ntmps153, List.size_toArray, List.length_cons, List.length_nil, Nat.reduceAdd, Nat.reduceSub, Array.replicate_succ, Array.replicate_zero, List.push_toArray, List.append_toArray, List.nil_append, List.cons_append]
  gi_wp2_with (refine ⟨trivial, wide_room _, ?_⟩; gi_at_call 154; refine HW.out.mono ?_; clear HW; rintro e W1 (⟨rfl, ⟨xs, hxs, hJ1⟩, hk1⟩ | ⟨rfl, xs, hxs, hx1⟩))
  · go_end0
    exact ⟨⟨_, rfl⟩, .inl ⟨xs, hxs, by simpa using hJ1⟩⟩
  · go_end0
    exact ⟨⟨_, rfl⟩, .inr ⟨xs, hxs, by simpa using hx1⟩⟩

/-- 'visit(t)': the substitution and the term are boxed; the function value captures the boxes. -/
theorem visit_in (n : Nat) (p : Nat) (k q : Int) (s : ByteArray) (A : Option Addr) (m c : Nat) (w : World) :
    CallsIn Fence.wide n Try.prog 141 #[.pointer (some ⟨p, 0, none⟩), .agg #[.int .u8 k, .string s, .int .i64 q, .slice A m c]] w fun e w' => e = .returned (.func (.func 153) #[] #[.pointer (some ⟨w.heap.size, 0, none⟩), .pointer (some ⟨w.heap.size + 1, 0, none⟩)]) ∧ w' = (w.alloc (.cells #[.pointer (some ⟨p, 0, none⟩)] 28)).alloc (.cells #[.int .u8 k, .string s, .int .i64 q, .slice A m c] 24) := by
  refine callsIn_of_wp Try.func141 rfl trivial ?_ rfl
  simp only [Try.ntmps141, List.size_toArray, List.length_cons, List.length_nil, Nat.reduceAdd, Nat.reduceSub, Array.replicate_succ, Array.replicate_zero, List.push_toArray, List.append_toArray, List.nil_append, List.cons_append]
  gi_wp2
  go_ret
  exact ⟨by first | rfl | simp, by first | rfl | simp⟩
end Go.Proofs.Ytdflckjnpgbjlaa

/- Layer 13 (arith): the entry. Conditions: the arguments read; the bindings make no circle. -/
import Derived.Test.YtdflckjnpgbjlaaY6
import Derived.Test.YtdflckjnpgbjlaaU6
set_option linter.unusedVariables false
set_option maxRecDepth 20000
set_option linter.unusedSimpArgs false
namespace Go.Proofs.Ytdflckjnpgbjlaa
open Go.RowKit

/-- The deferred call: nothing to recover. -/
theorem ecatch_idle (p4 p5 : Addr) (w : World) :
    CallsD Try.prog 77 #[.pointer (some p4), .pointer (some p5)] .returning w fun e u' w' => e = .returned (.tuple #[]) ∧ u' = .returning ∧ w' = w := by
  refine callsD_of_wpS Try.func77 rfl fun c₀ cs hu => ?_
  apply wpS_seq
  apply wpS_region
  simp [wpOpsS, go_sem, recoverD, hu, Try.ntmps77, Exit.thenS]
  apply wpS_seq
  apply wpS_region
  simp [wpOpsS, go_sem, Exit.thenS]
  refine wpS_cond (t := false) (by simp [Act.eval, Array.replicate]) ?_
  simp only [Bool.false_eq_true, if_false]
  refine wpS_of_wp (wp_skip ?_)
  cases c₀
  simp_all [bodyPostS, results, Try.results77]
theorem Try.wrongAs (e : Int) (w : World) : (Instr.typeAssert (Value.iface 132 (Value.agg #[.int .i64 e])) 20 132 true).run Try.prog w = .ok (.tuple #[.agg #[.int .i64 e], .bool true]) w := by
  kernel_rfl
/-- The two named results. -/
structure Nm2 (B : Nat) (a b : Value) (w : World) : Prop where
  h4 : w.heap[B]? = some (.cells #[a] 2 (0, 0))
  h5 : w.heap[B + 1]? = some (.cells #[b] 29 (0, 0))
theorem Nm2.below {B N : Nat} {a b : Value} {w w' : World} (h : Nm2 B a b w) (hb : Below N w w') (hN : B + 1 < N) : Nm2 B a b w' :=
  ⟨(hb.block _ (by omega)).trans h.h4, (hb.block _ (by omega)).trans h.h5⟩
def set2 (B : Nat) (a b : Value) (w : World) : World := ((w.setCell ⟨B, 0, none⟩ a).setCell ⟨B + 1, 0, none⟩ b)
theorem Nm2.set {B : Nat} {a b a' b' : Value} {w : World} (h : Nm2 B a b w) : Nm2 B a' b' (set2 B a' b' w) := by
  unfold set2
  refine ⟨?_, ?_⟩
  · rw [Below.heap_setCell _ _ _ _ (by show B ≠ B + 1; omega)]; exact one_set h.h4
  · exact one_set ((Below.heap_setCell _ _ _ _ (by show B + 1 ≠ B; omega)).trans h.h5)
theorem set2_below (B : Nat) (a b : Value) (w : World) : Below B w (set2 B a b w) :=
  ⟨rfl, rfl, rfl, by simp [set2, World.setCell], fun k hk => by unfold set2; rw [Below.heap_setCell _ _ _ _ (by show k ≠ B + 1; omega), Below.heap_setCell _ _ _ _ (by show k ≠ B; omega)]⟩
theorem wp_hide {P : Program} {c : Code} {Q : Exit → Act → World → Prop} {a : Act} {w : World} (h : ∀ Q', Q' = Q → Code.wp P c Q' a w) : Code.wp P c Q a w := h Q rfl
set_option maxRecDepth 100000 in
set_option maxHeartbeats 4000000 in
/-- The deferred call: an error is caught. -/
theorem ecatch_wrong (B : Nat) (ec : Int) (v4 v5 : Value) (older : List PanicEntry) (w : World) (hn : Nm2 B v4 v5 w) :
    CallsD Try.prog 77 #[.pointer (some ⟨B, 0, none⟩), .pointer (some ⟨B + 1, 0, none⟩)] (.panicking ({ v := .iface 132 (.agg #[.int .i64 ec]), recovered := false } :: older)) w fun e u' w' =>
      e = .returned (.tuple #[]) ∧ u' = .panicking ({ v := .iface 132 (.agg #[.int .i64 ec]), recovered := true } :: older) ∧ Nm2 B (.int .i64 0) (.int .i64 ec) w' ∧ Below B w w' := by
  refine callsD_of_wpS Try.func77 rfl fun c₀ cs hu => ?_
  apply wpS_seq
  apply wpS_region
  simp [wpOpsS, go_sem, recoverD, hu, Try.ntmps77, Exit.thenS]
  apply wpS_seq
  apply wpS_region
  simp [wpOpsS, go_sem, Exit.thenS]
  refine wpS_cond (t := true) (by simp [Act.eval, Array.replicate]) ?_
  simp only [if_true]
  refine wpS_of_wp ?_
  have hta := Try.wrongAs ec
  have hB1 : B + 1 < w.heap.size := (Array.getElem?_eq_some_iff.1 hn.h5).1
  have HN := Lib.hid hn
  have HBW := Lib.hid hB1
  clear hn hB1 hu
  refine wp_hide fun Q hQ => ?_
  have HQ := Lib.hid hQ
  clear hQ
  change Code.wp _ _ _ ⟨#[.pointer (some ⟨B, 0, none⟩), .pointer (some ⟨B + 1, 0, none⟩), .iface 132 (.agg #[.int .i64 ec]), undef, undef, .iface 132 (.agg #[.int .i64 ec]), .iface 132 (.agg #[.int .i64 ec]), .bool true, undef, undef, undef, undef, undef, undef, undef, undef, undef, undef], []⟩ w
  go_upto_region 5 with fail
  have hbx := heap_new w (.cells #[.int .i64 ec] 132)
  have hba := (Below.refl _ w).alloc (Nat.le_refl _) (.cells #[.int .i64 ec] 132)
  have hn1 := HN.out.below hba HBW.out
  have hz : B + 1 < (w.alloc (.cells #[.int .i64 ec] 132)).heap.size := by have := HBW.out; simp; omega
  generalize hW : w.alloc (.cells #[.int .i64 ec] 132) = W1 at hbx hba hn1 hz ⊢
  have HBA := Lib.hid hba
  obtain ⟨b0, -⟩ := one_cell hbx
  obtain ⟨q4, f4⟩ := one_cell hn1.h4
  obtain ⟨q5, f5⟩ := one_cell hn1.h5
  have HN1 := Lib.hid hn1
  have hlt := HBW.out
  clear hW hbx hba hn1
  refine wp_region_held_drew (S := (fun W => W.cell? ⟨w.heap.size, 0, none⟩ = some (.int .i64 ec))) (by kernel_rfl) ?_ (fun hHeld => ?_)
  · exact b0
  change wpAnyH _ .any _ _ _ 4 (Array.replicate 4 false) _ _
  refine wpAnyH_take (i := 0) (oi := ⟨some 16, _, _, _, _, _⟩) (v := ?_) rfl (by kernel_rfl) (by kernel_rfl) (by kernel_rfl) (fun c a w h => by rw [HQ.out] at h ⊢; exact h) (Or.inl ⟨by rfl, ?_⟩) (by assumption) ?_
  rotate_left
  · (intro w hSw; (try dsimp only at hSw); go_simp; try (with_reducible rfl))
  (try simp only [Act.put, List.setIfInBounds_toArray, List.set_cons_zero, List.set_cons_succ])
  refine wpAnyH_take (i := 1) (oi := ⟨some 17, _, _, _, _, _⟩) (v := ?_) rfl (by kernel_rfl) (by kernel_rfl) (by kernel_rfl) (fun c a w h => by rw [HQ.out] at h ⊢; exact h) (Or.inl ⟨by rfl, ?_⟩) (by assumption) ?_
  rotate_left
  · (intro w hSw; (try dsimp only at hSw); go_simp; try (with_reducible rfl))
  (try simp only [Act.put, List.setIfInBounds_toArray, List.set_cons_zero, List.set_cons_succ])
  refine wpAnyH_ready (rs := [2]) (by kernel_rfl) (by simp) ?_
  refine AllReadyH.cons (o := ⟨none, _, _, _, _, _⟩) rfl (fun K hK => ?_) AllReadyH.nil
  go_simp
  refine hK.out _ _ (by show (W1.setCell ⟨B, 0, none⟩ (.int .i64 0)).cell? ⟨w.heap.size, 0, none⟩ = _; rw [World.cell?_setCell_other _ _ _ _ (by intro e; injection e; omega)]; exact b0) (fun hHeld => ?_)
  clear hK K
  (try simp only [Act.put, List.setIfInBounds_toArray, List.set_cons_zero, List.set_cons_succ])
  refine wpAnyH_ready (rs := [3]) (by kernel_rfl) (by simp) ?_
  refine AllReadyH.cons (o := ⟨none, _, _, _, _, _⟩) rfl (fun K hK => ?_) AllReadyH.nil
  go_simp
  refine hK.out _ _ (by show ((W1.setCell ⟨B, 0, none⟩ (.int .i64 0)).setCell ⟨B + 1, 0, none⟩ (.int .i64 ec)).cell? ⟨w.heap.size, 0, none⟩ = _; rw [World.cell?_setCell_other _ _ _ _ (by intro e; injection e; omega), World.cell?_setCell_other _ _ _ _ (by intro e; injection e; omega)]; exact b0) (fun hHeld => ?_)
  clear hK K
  (try simp only [Act.put, List.setIfInBounds_toArray, List.set_cons_zero, List.set_cons_succ])
  refine wpAnyH_done (by kernel_rfl) ?_ _
  rw [HQ.out]
  have hF := HN1.out.set (a' := .int .i64 0) (b' := .int .i64 ec)
  have hBF := ((HBA.out.mono (by omega)).trans (set2_below B (.int .i64 0) (.int .i64 ec) W1)).drew
  simp [bodyPostS, results, Try.results77]
  exact ⟨⟨hF.h4, hF.h5⟩, hBF⟩
/-- A result, as Eval has it. -/
def Rk.out (r : Rk) : Value := .tuple #[.int .i64 r.val, .int .i64 r.err]
theorem Eval_nil (t : Tm) (v : Value) (w : World) (ok : Nat → Prop) (hv : TmV w ok t v) : Calls Try.prog 44 #[.pointer none, v] w fun e w' => e = .returned (.tuple #[.int .i64 0, .int .i64 2]) ∧ Below w.heap.size w w' := by
  obtain ⟨u, rfl, hS⟩ := hv
  have hb : Below w.heap.size w (((w.alloc (.cells #[.int .u8 t.k, .string t.s, .int .i64 t.n, u] 24)).alloc (.cells #[.int .i64 0] 2)).alloc (.cells #[.int .i64 2] 29)) := (((Below.refl _ w).alloc (Nat.le_refl _) _).alloc (by simp) _).alloc (by simp; omega) _
  have HB := Lib.hid hb
  clear hb hS
  go_enter_defers Try.func44, Try.ntmps44
  go_wp2
  simp [bodyPostD, Leaves, settle, results, Try.results44, go_sem]
  exact HB.out
set_option maxRecDepth 100000 in
set_option maxHeartbeats 8000000 in
theorem Eval_c (l : Bs) (p b : Nat) (t : Tm) (f : Nat) (hf : Fn l f t) (v : Value) (w : World) (ok ok' : Nat → Prop) (hs : Sub w ok l p b) (hv : TmV w ok' t v) (hwf : t.Wf) :
    Calls Try.prog 44 #[.pointer (some ⟨p, 0, none⟩), v] w fun e w' => e = .returned (evF l f t 0).1.out ∧ Below w.heap.size w w' := by
  have hmf : ∀ (fn : Go.Fn) (first cap : Array Value) (w : World), (Instr.makeFunc fn first cap).run Try.prog w = .ok (.func fn first cap) w := fun _ _ _ _ => rfl
  replace hs := hs.bound
  replace hv := hv.bound
  obtain ⟨u, rfl, hS⟩ := hv
  obtain ⟨A, c, rfl⟩ := hS.form
  obtain ⟨W3, hW3⟩ : ∃ W3, W3 = (((w.alloc (.cells #[.int .u8 t.k, .string t.s, .int .i64 t.n, .slice A t.l.length c] 24)).alloc (.cells #[.int .i64 0] 2)).alloc (.cells #[.int .i64 0] 29)) := ⟨_, rfl⟩
  have hB3 : Below w.heap.size w W3 := by rw [hW3]; exact (((Below.refl _ w).alloc (Nat.le_refl _) _).alloc (by simp) _).alloc (by simp; omega) _
  have hz3 : W3.heap.size = w.heap.size + 3 := by rw [hW3]; simp
  have h3 : W3.heap[w.heap.size]? = some (.cells #[.int .u8 t.k, .string t.s, .int .i64 t.n, .slice A t.l.length c] 24 (0, 0)) := by rw [hW3]; exact (Below.heap_alloc _ _ _ (by simp; omega)).trans ((Below.heap_alloc _ _ _ (by simp)).trans (heap_new w _))
  have hnm : Nm2 (w.heap.size + 1) (.int .i64 0) (.int .i64 0) W3 := ⟨by rw [hW3]; exact (Below.heap_alloc _ _ _ (by simp)).trans (heap_at _ _ _ (by simp)), by rw [hW3]; exact heap_at _ _ _ (by simp)⟩
  have HNM := Lib.hid hnm
  have HB3 := Lib.hid hB3
  have HW3 := Lib.hid hW3
  have hba := (Below.refl _ W3).alloc (Nat.le_refl _) (.cells #[.pointer (some ⟨p, 0, none⟩), .int .i64 0] 136)
  obtain ⟨b0, b1, b2, b3, -⟩ := box4 (block_below hba (by omega) h3)
  have hlt := hs.lt
  have HEV := Lib.hid (eval_c l p b W3.heap.size (by omega) (by omega) f t hf 0 (.agg #[.int .u8 t.k, .string t.s, .int .i64 t.n, .slice A t.l.length c]) (W3.alloc (.cells #[.pointer (some ⟨p, 0, none⟩), .int .i64 0] 136)) (fun i => i < w.heap.size) (((hs.below hB3).below hba).mono (fun k hk => hk.2)) ((TmV.mono (fun k hk => hk.2) (TmV.below (hB3.trans (hba.mono (by omega))) ⟨_, rfl, hS⟩))) hwf (fun i hi => ⟨by omega, by simp only [World.size_alloc]; omega⟩) (heap_new W3 _) (by omega))
  have HZ3 := Lib.hid hz3
  have HGA : Hid (∀ w6, (W3.alloc (.cells #[.pointer (some ⟨p, 0, none⟩), .int .i64 0] 136)).grownBy w6 (some W3.heap.size) → Below W3.heap.size W3 w6) := Lib.hid (fun w6 hg => below_of_grown (gfresh (r := none) (gnone hba) hg (Nat.le_refl _)))
  clear hS hs hW3 hB3 hz3 h3 hnm hba hlt hwf hf
  obtain ⟨⟨r, n'⟩, hE⟩ : ∃ E, E = evF l f t 0 := ⟨_, rfl⟩
  rw [← hE] at HEV ⊢
  clear hE
  cases r with
  | ok m =>
    go_enter_defers Try.func44, Try.ntmps44
    go_upto_region 1 with fail
    rw [← HW3.out]
    go_wp2_with (go_at_call 78; refine HEV.out.mono ?_; clear HEV; rintro e w6 ⟨⟨rfl, -, -⟩, hg6⟩; have hB6 := HGA.out w6 hg6; have hn6 := HNM.out.below hB6 (by have := HZ3.out; omega); obtain ⟨q4, f4⟩ := one_cell hn6.h4; obtain ⟨q5, f5⟩ := one_cell hn6.h5)
    have hN := hn6.set (a' := .int .i64 m) (b' := .int .i64 0)
    have hBF : Below w.heap.size w (set2 (w.heap.size + 1) (.int .i64 m) (.int .i64 0) w6) := (HB3.out.trans (hB6.mono (by have := HZ3.out; omega))).trans ((set2_below _ _ _ _).mono (by omega))
    change bodyPostD _ _ _ _ _ (set2 (w.heap.size + 1) (.int .i64 m) (.int .i64 0) w6)
    generalize set2 (w.heap.size + 1) (.int .i64 m) (.int .i64 0) w6 = WF at hN hBF ⊢
    clear q4 q5 f4 f5
    refine leaves_cons (f := 77) (args := #[.pointer (some ⟨w.heap.size + 1, 0, none⟩), .pointer (some ⟨w.heap.size + 1 + 1, 0, none⟩)]) (by simp) (by simp [go_sem]) ?_
    refine (ecatch_idle ⟨w.heap.size + 1, 0, none⟩ ⟨w.heap.size + 1 + 1, 0, none⟩ _).mono ?_
    rintro e u' w'' ⟨rfl, rfl, rfl⟩
    obtain ⟨q4, f4⟩ := one_cell hN.h4
    obtain ⟨q5, f5⟩ := one_cell hN.h5
    simp [Leaves, settle, results, Try.results44, go_sem, q4, q5]
    exact ⟨rfl, hBF⟩
  | er ec =>
    go_enter_defers Try.func44, Try.ntmps44
    go_upto_region 1 with fail
    rw [← HW3.out]
    go_wp2_with (go_at_call 78; refine HEV.out.mono ?_; clear HEV; rintro e w6 ⟨he, hg6⟩; replace he : e = wrongEnd ec := he; subst he)
    have hB6 := HGA.out w6 hg6
    have hn6 := HNM.out.below hB6 (by have := HZ3.out; omega)
    refine leaves_cons (f := 77) (args := #[.pointer (some ⟨w.heap.size + 1, 0, none⟩), .pointer (some ⟨w.heap.size + 1 + 1, 0, none⟩)]) (by simp) (by simp [go_sem]) ?_
    refine (ecatch_wrong (w.heap.size + 1) ec _ _ [] w6 hn6).mono ?_
    rintro e u' w'' ⟨rfl, rfl, hN, hb⟩
    have hBF : Below w.heap.size w w'' := (HB3.out.trans (hB6.mono (by have := HZ3.out; omega))).trans (hb.mono (by omega))
    obtain ⟨q4, f4⟩ := one_cell hN.h4
    obtain ⟨q5, f5⟩ := one_cell hN.h5
    simp [Leaves, settle, results, Try.results44, go_sem, q4, q5]
    exact ⟨rfl, hBF⟩
end Go.Proofs.Ytdflckjnpgbjlaa

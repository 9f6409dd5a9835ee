/- Whether a variable occurs: 'Occurs'. Conditions: the arguments read; the bindings make no circle. -/
import Derived.Test.YtdflckjnpgbjlaaS2
set_option linter.unusedVariables false
set_option maxRecDepth 20000
set_option linter.unusedSimpArgs false
namespace Go.Proofs.Ytdflckjnpgbjlaa
open Go.RowKit Go.Shelf
attribute [local go_sem] Oper.semAt_some

/-- What the loop leaves with. -/
def OccFin (v : Int) (pre : List Nv) (r : Bool × Int) : Prop :=
  (4096 < pre.length ∧ (∀ x ∈ pre.take 4096, isv v x.t = false) ∧ r = (false, 31)) ∨ ((∃ x ∈ pre.take 4096, isv v x.t = true) ∧ r = (true, 0))
theorem occE_fin {v : Int} {pre : List Nv} {P : List Tm} {r : Bool × Int} (h : OccFin v pre r) (hp : pre.map Nv.t <+: P) : occE P v = r := by
  obtain ⟨rest, rfl⟩ := hp
  unfold occE
  rcases h with ⟨h1, h2, rfl⟩ | ⟨⟨x, hx, hi⟩, rfl⟩
  · have hl : 4096 ≤ (pre.map Nv.t).length := by simp; omega
    rw [List.take_append_of_le_length hl, if_neg, if_pos (by simp; omega)]
    rw [← List.map_take]
    simp only [List.any_map, List.any_eq_true, Function.comp, not_exists, not_and, Bool.not_eq_true]
    exact h2
  · rw [if_pos]
    rw [List.take_append, List.any_append, ← List.map_take]
    simp only [List.any_map, Bool.or_eq_true]
    exact .inl (List.any_eq_true.2 ⟨x, hx, hi⟩)
theorem occE_done {v : Int} {xs : List Nv} {P : List Tm} (h : xs.map Nv.t = P) (hl : xs.length ≤ 4096) (hn : ∀ x ∈ xs, isv v x.t = false) : occE P v = (false, 0) := by
  subst h
  unfold occE
  rw [if_neg, if_neg (by simp; omega)]
  rw [List.take_of_length_le (by simp; omega)]
  simp only [List.any_map, List.any_eq_true, Function.comp, not_exists, not_and, Bool.not_eq_true]
  exact hn
theorem heap_at' (w : World) (o : Obj) (k : Nat) (h : k = w.heap.size) : (w.alloc o).heap[k]? = some o := by subst h; exact heap_new w o
theorem boxed_ne {W : World} {B B' : Nat} {t : TypeId} {u : Value} {cs : Array Value} (h : Boxed W B t u) (h' : W.heap[B']? = some (.cells cs 24 (0, 0))) (ht : t ≠ 24) : B' ≠ B := fun e => by
  subst e
  rw [show W.heap[B']? = _ from h] at h'
  injection h' with h'
  injection h' with _ h'
  exact ht h'
theorem boxed_put {W : World} {B D : Nat} {t : TypeId} {u : Value} (h : Boxed W B t u) (hD : W.heap[D]? = some (.deferred (some []))) (o' : Obj) : Boxed (W.putObj D o') B t u :=
  (World.putObj_heap_other (fun e => by
    subst e
    rw [show W.heap[B]? = _ from h] at hD
    cases hD)).trans h
theorem boxedFrom {β : Type} (B' B : Nat) (t : TypeId) (u : Value) : OwnFrom B' (fun (_ : β) W => Boxed W B t u) := Own.from (boxed_own B t (fun _ => u)) _

set_option maxRecDepth 100000 in
set_option maxHeartbeats 4000000 in
theorem Occurs_in (n : Nat) (hn : 3 ≤ n) (l : Bs) (p b f : Nat) (q : Int) (t : Tm) (v : Value) (w : World) (ok : Nat → Prop) (hs : Sub w ok l p b) (hv : TmV w ok t v) (hwf : t.Wf) (hf : Fn l f t) :
    CallsIn Fence.wide n Try.prog 103 #[.pointer (some ⟨p, 0, none⟩), .int .i64 q, v] w fun e w' => e = .returned (.tuple #[.bool (occE (vis l f t) q).1, .int .i64 (occE (vis l f t) q).2]) ∧ Below w.heap.size w w' := by
  have h1 : 1 ≤ n := by omega
  have hv0 : TmV w (fun b => b < w.heap.size) t v := (TmV.bound hv).mono (fun _ h => h.2)
  have hs0 : Sub w (fun b => b < w.heap.size) l p b := hs.bound.mono (fun _ h => h.2)
  obtain ⟨hp, hq⟩ := hs.lt
  obtain ⟨u, rfl, hvS⟩ := hv0
  obtain ⟨A, c, rfl⟩ := hvS.form
  have HS := Lib.hid hs0
  have HV := Lib.hid hvS
  have HF := Lib.hid hf
  clear hs hv hvS hs0 hf
  obtain ⟨O, hO⟩ : ∃ O : Obj, O = .cells #[.int .u8 t.k, .string t.s, .int .i64 t.n, .slice A t.l.length c] 24 := ⟨_, rfl⟩
  refine callsIn_of_wp_marks Try.func103 rfl trivial ?_ rfl
  simp only [Try.ntmps103, List.size_toArray, List.length_cons, List.length_nil, Nat.reduceAdd, Nat.reduceSub, Array.replicate_succ, Array.replicate_zero, List.push_toArray, List.append_toArray, List.nil_append, List.cons_append]
  gi_wp2_with (refine ⟨trivial, ?_⟩; gi_at_call 141; refine (visit_in (n - 1) _ _ _ _ _ _ _ _).mono ?_; rintro e w' ⟨rfl, rfl⟩)
  obtain ⟨W0, hW0⟩ : ∃ W0, W0 = (((((((w.alloc (.cells #[.int .i64 q] 2)).alloc O).alloc (.cells #[.bool false] 4)).alloc (.cells #[.int .i64 0] 29)).alloc (.cells #[.int .i64 0] 3)).alloc (.cells #[.pointer (some ⟨p, 0, none⟩)] 28)).alloc O) := ⟨_, rfl⟩
  have hs1 : Below w.heap.size w W0 := by
    rw [hW0]
    exact (((((((Below.refl _ w).alloc (Nat.le_refl _) _).alloc (by simp) _).alloc (by simp; omega) _).alloc (by simp; omega) _).alloc (by simp; omega) _).alloc (by simp; omega) _).alloc (by simp; omega) _
  have hsz0 : W0.heap.size = w.heap.size + 7 := by rw [hW0]; simp
  have hxq : Boxed W0 w.heap.size 2 (.int .i64 q) := by rw [hW0]; unfold Boxed; repeat (first | exact heap_at' _ _ _ (by simp) | refine (Below.heap_alloc _ _ _ (by simp <;> omega)).trans ?_)
  have hxb : Boxed W0 (w.heap.size + 1 + 1) 4 (.bool false) := by rw [hW0]; unfold Boxed; repeat (first | exact heap_at' _ _ _ (by simp) | refine (Below.heap_alloc _ _ _ (by simp <;> omega)).trans ?_)
  have hxe : Boxed W0 (w.heap.size + 1 + 1 + 1) 29 (.int .i64 0) := by rw [hW0]; unfold Boxed; repeat (first | exact heap_at' _ _ _ (by simp) | refine (Below.heap_alloc _ _ _ (by simp <;> omega)).trans ?_)
  have hxn : Boxed W0 (w.heap.size + 1 + 1 + 1 + 1) 3 (.int .i64 ((0 : Nat) : Int)) := by rw [hW0]; unfold Boxed; repeat (first | exact heap_at' _ _ _ (by simp) | refine (Below.heap_alloc _ _ _ (by simp <;> omega)).trans ?_)
  have hbs : W0.heap[w.heap.size + 1 + 1 + 1 + 1 + 1]? = some (.cells #[.pointer (some ⟨p, 0, none⟩)] 28 (0, 0)) := by rw [hW0]; repeat (first | exact heap_at' _ _ _ (by simp) | refine (Below.heap_alloc _ _ _ (by simp <;> omega)).trans ?_)
  have hbt : W0.heap[w.heap.size + 1 + 1 + 1 + 1 + 1 + 1]? = some O := by rw [hW0]; repeat (first | exact heap_at' _ _ _ (by simp) | refine (Below.heap_alloc _ _ _ (by simp <;> omega)).trans ?_)
  subst hO
  rw [← hW0]
  clear hW0
  refine wpIn_rangeFunc_ownH rfl h1 (gf := 153) (lb := #[.pointer (some ⟨w.heap.size + 1 + 1 + 1 + 1 + 1, 0, none⟩), .pointer (some ⟨w.heap.size + 1 + 1 + 1 + 1 + 1 + 1, 0, none⟩)]) rfl trivial (enters_of Try.func153 (by kernel_rfl) rfl)
    (visit1_stops (n - 1) w.heap.size _ _ l p b f t A c W0 (by omega) hp hq (HS.out.belowN hp hq hs1) HF.out (tms_below hs1 HV.out) hwf hbs hbt) (fun h k => h.trans k) (KpT.put (by omega)) (Below.refl _ _) (fun _ => rfl)
    (fun pre W => Boxed W (w.heap.size + 1 + 1 + 1 + 1) 3 (.int .i64 ((pre.length : Nat) : Int)) ∧ Boxed W (w.heap.size + 1 + 1) 4 (.bool false) ∧ Boxed W (w.heap.size + 1 + 1 + 1) 29 (.int .i64 0) ∧ Boxed W w.heap.size 2 (.int .i64 q) ∧ Below w.heap.size w W ∧ (pre.length ≤ 4096 ∧ ∀ x ∈ pre, isv q x.t = false))
    (fun cd pre W => ∃ r : Bool × Int, Boxed W (w.heap.size + 1 + 1) 4 (.bool r.1) ∧ Boxed W (w.heap.size + 1 + 1 + 1) 29 (.int .i64 r.2) ∧ Below w.heap.size w W ∧ (cd = .ret ∧ OccFin q pre r))
    (OwnFrom.and (Own.from (boxed_own (w.heap.size + 1 + 1 + 1 + 1) 3 (fun pre : List Nv => .int .i64 ((pre.length : Nat) : Int))) _) (OwnFrom.and (boxedFrom _ _ _ _) (OwnFrom.and (boxedFrom _ _ _ _) (OwnFrom.and (boxedFrom _ _ _ _) (OwnFrom.and (ownFrom_below (Nat.le_refl _) (by omega)) (ownFrom_pure _ _))))))
    (fun cd pre X Y row ⟨r, h1, h2, h3, h4⟩ hg hr => ⟨r, boxedFrom (β := Unit) _ _ _ _ () X Y row h1 hg hr, boxedFrom (β := Unit) _ _ _ _ () X Y row h2 hg hr, ownFrom_below (β := Unit) (Nat.le_refl _) (by omega) () X Y row h3 hg hr, h4⟩)
    ⟨hxn, hxb, hxe, hxq, hs1, by simp⟩
    (fun x a' W' => ∃ Bt, W'.heap[Bt]? = some (.cells #[.int .u8 x.t.k, .string x.t.s, .int .i64 x.t.n, .slice x.A x.t.l.length x.c] 24 (0, 0)) ∧ a' = { tmps := #[.pointer (some ⟨p, 0, none⟩), .int .i64 q, .agg #[.int .u8 t.k, .string t.s, .int .i64 t.n, .slice A t.l.length c], undef, .pointer (some ⟨w.heap.size, 0, none⟩), .pointer (some ⟨w.heap.size + 1, 0, none⟩), .pointer (some ⟨w.heap.size + 1 + 1, 0, none⟩), .pointer (some ⟨w.heap.size + 1 + 1 + 1, 0, none⟩), .pointer (some ⟨w.heap.size + 1 + 1 + 1 + 1, 0, none⟩), .pointer (some ⟨Bt, 0, none⟩), .pointer (some ⟨p, 0, none⟩), .bool false, .pointer (some ⟨p, 0, none⟩), .agg #[.int .u8 t.k, .string t.s, .int .i64 t.n, .slice A t.l.length c], .func (.func 153) #[] #[.pointer (some ⟨w.heap.size + 1 + 1 + 1 + 1 + 1, 0, none⟩), .pointer (some ⟨w.heap.size + 1 + 1 + 1 + 1 + 1 + 1, 0, none⟩)], .agg #[.int .u8 x.t.k, .string x.t.s, .int .i64 x.t.n, .slice x.A x.t.l.length x.c], undef, undef, undef, undef, undef, undef, undef, undef, undef, undef, undef, undef, undef], defers := [] })
    ?ax ?assign ?body ?done ?stop
  case ax =>
    rintro x a' s X Y row ⟨Bt, hBt, ha⟩ hg hr
    exact ⟨Bt, (hg.block Bt (Array.getElem?_eq_some_iff.1 hBt).1 (fun e => by obtain ⟨_, o, ho, hc⟩ := hr Bt e.symm; rw [hBt] at ho; cases ho; cases hc)).trans hBt, ha⟩
  case assign =>
    rintro lo pre x W K ⟨hbn, hbb, hbe, hbq, hb, hfin⟩ hK
    have HFIN := Lib.hid hfin
    have hWs := Lib.hid hb.size
    have HKP := Lib.hid (KpT.of_below ((Below.refl _ W).alloc (Nat.le_refl _) (.cells #[.int .u8 x.t.k, .string x.t.s, .int .i64 x.t.n, .slice x.A x.t.l.length x.c] 24)) hb.size)
    clear hfin
    simp [Nv.vals]
    gi_wp2
    exact hK _ _ (KeepsFrom.of_grownBy (World.grownBy_alloc W _ none) (fun _ e => by cases e)) HKP.out ⟨hbn.alloc _, hbb.alloc _, hbe.alloc _, hbq.alloc _, hb.alloc hb.size _, HFIN.out⟩ ⟨_, heap_new W _, rfl⟩
  case body =>
    rintro lo pre x a' W3 hlo' hloop ⟨hbn, hbb, hbe, hbq, hb, hfin⟩ ⟨Bt, hBx, rfl⟩ hlt'
    obtain ⟨c0, c1, c2, c3, -, -, -, -⟩ := box4 hBx
    have hne := boxed_ne hbn hBx (by decide)
    have hcn := hbn.cell
    have hfn := hbn.frozen
    have hcb := hbb.cell
    have hfb := hbb.frozen
    have hce := hbe.cell
    have hfe := hbe.frozen
    have hcq := hbq.cell
    have hpl : (pre.length : Int) ≤ 4096 := by have := hfin.1; omega
    have HFIN := Lib.hid hfin
    have hlen : ((pre ++ [x]).length : Int) = (pre.length : Int) + 1 := by simp
    clear hfin
    by_cases hfull : (4096 : Int) < (pre.length : Int) + 1
    · have hdec : decide ((4096 : Int) < (pre.length : Int) + 1) = true := by simpa using hfull
      clear hlen
      gi_wp2
      have hlx : pre.length = 4096 := by have := HFIN.out.1; omega
      refine ⟨((KeepsOthers.setCell _ _ _).from _).trans (((KeepsOthers.setCell _ _ _).from _).trans ((KeepsOthers.setCell _ _ _).from _)), (false, 31), ?_, ?_, ?_, rfl, .inl ⟨by simp; omega, ?_, rfl⟩⟩
      · exact ((hbb.other (by omega) _).set _).other (by omega) _
      · exact ((hbe.other (by omega) _).other (by omega) _).set _
      · exact ((hb.setCell (p := ⟨w.heap.size + 1 + 1 + 1 + 1, 0, none⟩) (by simp; omega) _).setCell (p := ⟨w.heap.size + 1 + 1, 0, none⟩) (by simp; omega) _).setCell (p := ⟨w.heap.size + 1 + 1 + 1, 0, none⟩) (by simp; omega) _
      · intro y hy
        rw [List.take_append_of_le_length (by omega)] at hy
        exact HFIN.out.2 y (List.mem_of_mem_take hy)
    · have hdec : decide ((4096 : Int) < (pre.length : Int) + 1) = false := by simpa using hfull
      have hpl2 : pre.length < 4096 := by omega
      by_cases hk : x.t.k = 1
      · by_cases hn' : x.t.n = q
        · clear hlen hfull
          subst hn'
          gi_wp2
          refine ⟨((KeepsOthers.setCell _ _ _).from _).trans (((KeepsOthers.setCell _ _ _).from _).trans ((KeepsOthers.setCell _ _ _).from _)), (true, 0), ?_, ?_, ?_, rfl, .inr ⟨⟨x, ?_, by simp [isv, hk]⟩, rfl⟩⟩
          · exact ((hbb.other (by omega) _).set _).other (by omega) _
          · exact ((hbe.other (by omega) _).other (by omega) _).set _
          · exact ((hb.setCell (p := ⟨w.heap.size + 1 + 1 + 1 + 1, 0, none⟩) (by simp; omega) _).setCell (p := ⟨w.heap.size + 1 + 1, 0, none⟩) (by simp; omega) _).setCell (p := ⟨w.heap.size + 1 + 1 + 1, 0, none⟩) (by simp; omega) _
          · rw [List.take_of_length_le (by simp; omega)]; simp
        · have hn2 : (x.t.n == q) = false := by simpa using hn'
          clear hfull
          gi_wp2
          refine ⟨(KeepsOthers.setCell _ _ _).from _, kpT_set (by have := hb.size; omega) hbn (by decide) (by omega) _, ?_, hbb.other (by omega) _, hbe.other (by omega) _, hbq.other (by omega) _, hb.setCell (p := ⟨w.heap.size + 1 + 1 + 1 + 1, 0, none⟩) (by simp; omega) _, by simp; omega, ?_⟩
          · rw [hlen]; exact hbn.set _
          · intro y hy
            rcases List.mem_append.1 hy with hy | hy
            · exact HFIN.out.2 y hy
            · rw [List.mem_singleton] at hy; subst hy; simp [isv, hn']
      · have hk2 : (x.t.k == 1) = false := by simpa using hk
        clear hfull
        gi_wp2
        refine ⟨(KeepsOthers.setCell _ _ _).from _, kpT_set (by have := hb.size; omega) hbn (by decide) (by omega) _, ?_, hbb.other (by omega) _, hbe.other (by omega) _, hbq.other (by omega) _, hb.setCell (p := ⟨w.heap.size + 1 + 1 + 1 + 1, 0, none⟩) (by simp; omega) _, by simp; omega, ?_⟩
        · rw [hlen]; exact hbn.set _
        · intro y hy
          rcases List.mem_append.1 hy with hy | hy
          · exact HFIN.out.2 y hy
          · rw [List.mem_singleton] at hy; subst hy; simp [isv, hk]
  case done =>
    rintro D xs W hD hxs ⟨hbn, hbb, hbe, hbq, hb, hfin⟩ hK
    have hcb := hbb.cell
    have hfb := hbb.frozen
    have hce := hbe.cell
    have hfe := hbe.frozen
    have hres := Lib.hid (occE_done hxs hfin.1 hfin.2)
    clear hxs hfin
    gi_wp2
    have hb6 := (hbb.set (.bool false)).other (B' := w.heap.size + 1 + 1 + 1) (by omega) (.int .i64 0)
    have hb7 := (hbe.other (B' := w.heap.size + 1 + 1) (by omega) (.bool false)).set (.int .i64 0)
    have hK2 := ((Below.heap_setCell (W.setCell ⟨w.heap.size + 1 + 1, 0, none⟩ (.bool false)) ⟨w.heap.size + 1 + 1 + 1, 0, none⟩ (.int .i64 0) D (by simp; omega)).trans (Below.heap_setCell W ⟨w.heap.size + 1 + 1, 0, none⟩ (.bool false) D (by simp; omega))).trans hK
    have hb8 := (hb.setCell (p := ⟨w.heap.size + 1 + 1, 0, none⟩) (by simp; omega) (.bool false)).setCell (p := ⟨w.heap.size + 1 + 1 + 1, 0, none⟩) (by simp; omega) (.int .i64 0)
    have e6 := (boxed_put hb6 hK2 (.deferred none)).cell
    have e7 := (boxed_put hb7 hK2 (.deferred none)).cell
    refine ⟨by simp, .inl ⟨_, _, rfl, run_takeDeferred hK2, ?_⟩⟩
    exact ⟨.tuple #[.bool false, .int .i64 0], by simp [results, Try.results103, go_sem, e6, e7], by rw [hres.out], hb8.trans (belowK_b (w := w) (Nat.le_refl _) _ D _ _ (by omega) hK2 rfl rfl)⟩
  case stop =>
    rintro D cd pre W hD hpre ⟨r, hbb, hbe, hb, rfl, hfin⟩ hK
    have hres := Lib.hid (occE_fin hfin hpre)
    clear hpre hfin
    gi_wp2
    have e6 := (boxed_put hbb hK (.deferred none)).cell
    have e7 := (boxed_put hbe hK (.deferred none)).cell
    refine ⟨by simp, .inl ⟨_, _, rfl, run_takeDeferred hK, ?_⟩⟩
    exact ⟨.tuple #[.bool r.1, .int .i64 r.2], by simp [results, Try.results103, go_sem, e6, e7], by rw [hres.out], hb.trans (belowK_b (w := w) (Nat.le_refl _) _ D _ _ (by omega) hK rfl rfl)⟩
theorem Occurs_c (l : Bs) (p b f : Nat) (q : Int) (t : Tm) (v : Value) (w : World) (ok : Nat → Prop) (hs : Sub w ok l p b) (hv : TmV w ok t v) (hwf : t.Wf) (hf : Fn l f t) :
    Calls Try.prog 103 #[.pointer (some ⟨p, 0, none⟩), .int .i64 q, v] w fun e w' => e = .returned (.tuple #[.bool (occE (vis l f t) q).1, .int .i64 (occE (vis l f t) q).2]) ∧ Below w.heap.size w w' := callsIn_wide.1 (Occurs_in 3 (Nat.le_refl _) l p b f q t v w ok hs hv hwf hf)
end Go.Proofs.Ytdflckjnpgbjlaa

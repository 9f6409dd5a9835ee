/- Plain laws of substitutions: applied terms. No condition. -/
import Derived.Test.YtdflckjnpgbjlaaSb
import Derived.Test.YtdflckjnpgbjlaaSc
set_option linter.unusedVariables false
set_option maxRecDepth 20000
set_option linter.unusedSimpArgs false
namespace Go.Proofs.Ytdflckjnpgbjlaa

theorem ofB_more {l m : Bs} {n : Int} {t : Tm} (h : ofB l n = some t) : ofB (l ++ m) n = some t := by rw [ofB_append, h]
theorem nxt_more {l m : Bs} {t u : Tm} (h : nxt l t = some u) : nxt (l ++ m) t = some u := by
  unfold nxt at h ⊢
  split at h
  · rename_i h1; rw [if_pos h1]; exact ofB_more h
  · cases h
/-- A walk under more bindings goes through where the walk under fewer ends. -/
theorem wlk_more {l m : Bs} (hA : Acyc l) (hB : Acyc (l ++ m)) (t : Tm) : wlk (l ++ m) t = wlk (l ++ m) (wlk l t) := by
  have key : ∀ k t, wlk (l ++ m) t = wlk (l ++ m) (wlkN l k t) := by
    intro k
    induction k with
    | zero => intro t; rfl
    | succ k ih =>
      intro t
      simp only [wlkN]
      cases hn : nxt l t with
      | none => rfl
      | some u => simp only; rw [hB.step (nxt_more hn)]; exact ih u
  exact key _ t
theorem nxt_one {l : Bs} {v : Int} {s t : Tm} (h : nxt l t = none) : nxt (l ++ [(v, s)]) t = if isv v t = true then some s else none := by
  unfold nxt at h ⊢
  unfold isv
  by_cases h1 : t.k = 1
  · simp only [h1, if_true, true_and, decide_eq_true_eq] at h ⊢
    rw [ofB_append, h, ofB_one]
    by_cases h2 : v = t.n
    · rw [if_pos h2, if_pos h2.symm]
    · rw [if_neg h2, if_neg (fun h => h2 h.symm)]
  · simp [h1]
theorem put_hit {q : Int} {y t : Tm} (h : t.k = 1 ∧ t.n = q) : putT q y t = y := by rw [put_def, if_pos h]
theorem put_miss {q : Int} {y t : Tm} (h : ¬ (t.k = 1 ∧ t.n = q)) : putT q y t = ⟨t.k, t.s, t.n, t.l.map (putT q y)⟩ := by rw [put_def, if_neg h]
/-- One more that is bound is replaced in what was. -/
theorem app_put {l : Bs} {v : Int} {s : Tm} (hA : Acyc l) (hB : Acyc (l ++ [(v, s)])) : ∀ (f : Nat) (t : Tm), Fn l f t → ∀ g, Fn (l ++ [(v, s)]) g t → ∀ h, Fn (l ++ [(v, s)]) h ⟨1, ⟨#[]⟩, v, []⟩ →
    ofB l v = none → app (l ++ [(v, s)]) g t = putT v (app (l ++ [(v, s)]) h ⟨1, ⟨#[]⟩, v, []⟩) (app l f t) := by
  intro f
  induction f with
  | zero => intro t hf; exact hf.elim
  | succ f ih =>
    intro t hf g hg h hh hv
    obtain ⟨g, rfl⟩ := hg.pos
    obtain ⟨h, rfl⟩ := hh.pos
    have hend := hA.ended t
    have hw := wlk_more hA hB t
    have h1 := nxt_one (v := v) (s := s) hend
    have hvs : wlk (l ++ [(v, s)]) ⟨1, ⟨#[]⟩, v, []⟩ = wlk (l ++ [(v, s)]) s := hB.step (by simp [nxt, ofB_append, hv, ofB_one])
    by_cases hi : isv v (wlk l t) = true
    · rw [if_pos hi] at h1
      have hi2 : (wlk l t).k = 1 ∧ (wlk l t).n = v := by simpa [isv] using hi
      rw [put_hit (t := app l (f + 1) t) hi2, app_succ, app_succ]
      have he : wlk (l ++ [(v, s)]) t = wlk (l ++ [(v, s)]) ⟨1, ⟨#[]⟩, v, []⟩ := by rw [hw, hB.step h1, hvs]
      have hs1 : ∀ a ∈ (wlk (l ++ [(v, s)]) t).l, Fn (l ++ [(v, s)]) g a := hg
      have hs2 : ∀ a ∈ (wlk (l ++ [(v, s)]) ⟨1, ⟨#[]⟩, v, []⟩).l, Fn (l ++ [(v, s)]) h a := hh
      rw [he] at hs1 ⊢
      rw [List.map_congr_left (fun a ha => ((hs1 a ha).same (hs2 a ha)).1)]
    · rw [if_neg hi] at h1
      have hi2 : ¬ ((wlk l t).k = 1 ∧ (wlk l t).n = v) := by simpa [isv] using hi
      rw [put_miss (t := app l (f + 1) t) hi2, app_succ]
      have he : wlk (l ++ [(v, s)]) t = wlk l t := by rw [hw]; exact wlk_stop h1
      have hs1 : ∀ a ∈ (wlk (l ++ [(v, s)]) t).l, Fn (l ++ [(v, s)]) g a := hg
      rw [he] at hs1 ⊢
      have hs0 : ∀ a ∈ (wlk l t).l, Fn l f a := hf
      show _ = Tm.mk (wlk l t).k (wlk l t).s (wlk l t).n (((wlk l t).l.map (app l f)).map _)
      rw [List.map_map]
      have : (wlk l t).l.map (app (l ++ [(v, s)]) g) = (wlk l t).l.map (putT v (app (l ++ [(v, s)]) (h + 1) ⟨1, ⟨#[]⟩, v, []⟩) ∘ app l f) := List.map_congr_left (fun a ha => ih a (hs0 a ha) g (hs1 a ha) (h + 1) hh hv)
      rw [this]
theorem wlk_unbound {l : Bs} {v : Int} (h : ofB l v = none) : wlk l ⟨1, ⟨#[]⟩, v, []⟩ = ⟨1, ⟨#[]⟩, v, []⟩ := wlk_stop (by simp [nxt, h])
/-- What is applied is applied for good: nothing of it is bound; as many nodes are visited. -/
theorem app_fix {l : Bs} (hA : Acyc l) : ∀ (f : Nat) (t : Tm), Fn l f t → Fn l f (app l f t) ∧ app l f (app l f t) = app l f t ∧ (vis l f (app l f t)).length = (vis l f t).length := by
  intro f
  induction f with
  | zero => intro t hf; exact hf.elim
  | succ f ih =>
    intro t hf
    have hs0 : ∀ a ∈ (wlk l t).l, Fn l f a := hf
    have hst : nxt l (app l (f + 1) t) = none := by
      have := hA.ended t
      unfold nxt at this ⊢
      exact this
    have hw : wlk l (app l (f + 1) t) = app l (f + 1) t := wlk_stop hst
    have hl : (app l (f + 1) t).l = (wlk l t).l.map (app l f) := rfl
    refine ⟨?_, ?_, ?_⟩
    · show ∀ a ∈ (wlk l (app l (f + 1) t)).l, Fn l f a
      rw [hw, hl]
      intro a ha
      obtain ⟨b, hb, rfl⟩ := List.mem_map.1 ha
      exact (ih b (hs0 b hb)).1
    · rw [app_succ l f (app l (f + 1) t), hw, hl, List.map_map]
      rw [List.map_congr_left (f := app l f ∘ app l f) (g := app l f) (fun a ha => (ih a (hs0 a ha)).2.1)]
      rfl
    · rw [vis_succ, hw, hl, vis_succ]
      simp only [List.length_cons, List.flatMap_map, List.length_flatMap]
      congr 2
      exact List.map_congr_left (fun a ha => (ih a (hs0 a ha)).2.2)
/-- The variables of an applied term are not bound, and are visited. -/
theorem app_occ {l : Bs} (hA : Acyc l) {n : Int} : ∀ (f : Nat) (t : Tm), Fn l f t → n ∈ (app l f t).occ → ofB l n = none ∧ ∃ x ∈ vis l f t, isv n x = true := by
  intro f
  induction f with
  | zero => intro t hf; exact hf.elim
  | succ f ih =>
    intro t hf hn
    have hs0 : ∀ a ∈ (wlk l t).l, Fn l f a := hf
    rw [app_succ] at hn
    simp only [Tm.occ, List.mem_append] at hn
    rw [vis_succ]
    rcases hn with hn | hn
    · split at hn
      · rename_i h1
        rw [List.mem_singleton] at hn
        subst hn
        refine ⟨?_, _, List.mem_cons_self .., by simp [isv, h1]⟩
        have := hA.ended t
        simpa [nxt, h1] using this
      · cases hn
    · have hn2 : ∃ a ∈ (wlk l t).l, n ∈ (app l f a).occ := by
        clear hf hs0
        generalize (wlk l t).l = m at hn
        induction m with
        | nil => simp [occL] at hn
        | cons a m ihm =>
          simp only [List.map_cons, occL, List.mem_append] at hn
          rcases hn with hn | hn
          · exact ⟨a, by simp, hn⟩
          · obtain ⟨b, hb, h⟩ := ihm hn
            exact ⟨b, by simp [hb], h⟩
      obtain ⟨a, ha, hn3⟩ := hn2
      obtain ⟨h1, x, hx, hi⟩ := ih a (hs0 a ha) hn3
      exact ⟨h1, x, List.mem_cons_of_mem _ (List.mem_flatMap.2 ⟨a, ha, hx⟩), hi⟩
/-- As many nodes as are visited. -/
theorem app_siz {l : Bs} : ∀ (f : Nat) (t : Tm), Fn l f t → (app l f t).siz = (vis l f t).length := by
  intro f
  induction f with
  | zero => intro t hf; exact hf.elim
  | succ f ih =>
    intro t hf
    have hs0 : ∀ a ∈ (wlk l t).l, Fn l f a := hf
    rw [app_succ, vis_succ]
    simp only [Tm.siz, List.length_cons]
    congr 1
    clear hf
    generalize (wlk l t).l = m at hs0
    induction m with
    | nil => rfl
    | cons a m ihm =>
      simp only [List.map_cons, sizL, List.flatMap_cons, List.length_append]
      rw [ih a (hs0 a (by simp)), ihm (fun b hb => hs0 b (by simp [hb]))]
theorem app_wf {l : Bs} (hl : ∀ n t, ofB l n = some t → t.Wf) : ∀ (f : Nat) (t : Tm), t.Wf → (app l f t).Wf := by
  intro f
  induction f with
  | zero => intro t h; exact h
  | succ f ih =>
    intro t h
    have hw := wlk_wf hl t h
    rw [app_succ]
    simp only [Tm.Wf]
    refine ⟨hw.parts.1, hw.parts.2.1, hw.parts.2.2.1, ?_⟩
    rw [WfL_iff]
    intro a ha
    obtain ⟨b, hb, rfl⟩ := List.mem_map.1 ha
    exact ih b (WfL_iff.1 hw.parts.2.2.2 b hb)
theorem occE_in {P : List Tm} {n : Int} (hP : P.length ≤ 4096) (h : ∃ x ∈ P, isv n x = true) : occE P n = (true, 0) := by
  unfold occE
  rw [List.take_of_length_le hP, if_pos (List.any_eq_true.2 h)]
end Go.Proofs.Ytdflckjnpgbjlaa

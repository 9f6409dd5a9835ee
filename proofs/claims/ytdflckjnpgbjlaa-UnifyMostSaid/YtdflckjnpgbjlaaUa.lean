/- Unification in plain words: what is applied behind what is unified; more visits; a term and its like; a term in itself. Conditions: the terms' variables are plain. -/
import Derived.Test.YtdflckjnpgbjlaaU9
set_option linter.unusedVariables false
set_option maxRecDepth 20000
set_option linter.unusedSimpArgs false
namespace Go.Proofs.Ytdflckjnpgbjlaa

theorem app_vok {l : Bs} (hV : VokB l) : ∀ (f : Nat) (t : Tm), t.vok → (app l f t).vok
  | 0, t, h => h
  | f + 1, t, h => by
    have hw := vok_def.1 (hV.wlk t h)
    rw [app_succ, vok_def]
    refine ⟨fun h1 => ?_, fun a ha => ?_⟩
    · obtain ⟨e1, e2, e3⟩ := hw.1 h1
      exact ⟨e1, by simp [e2], e3⟩
    · obtain ⟨b, hb, rfl⟩ := List.mem_map.1 ha
      exact app_vok hV f b (hw.2 b hb)
theorem Rsp.app {σ : Int → Tm} {l : Bs} (h : Rsp σ l) : ∀ (f : Nat) (t : Tm), Fn l f t → (app l f t).sb σ = t.sb σ
  | 0, t, hf => hf.elim
  | f + 1, t, hf => by
    rw [app_succ, ← h.wlk t]
    by_cases h1 : (Go.Proofs.Ytdflckjnpgbjlaa.wlk l t).k = 1
    · rw [sb_var h1, sb_var (show (Tm.mk _ _ _ _).k = 1 from h1)]
    · rw [sb_non h1, sb_non (show (Tm.mk _ _ _ _).k ≠ 1 from h1)]
      simp only [List.map_map]
      rw [List.map_congr_left (f := Tm.sb σ ∘ Go.Proofs.Ytdflckjnpgbjlaa.app l f) (g := Tm.sb σ) (fun a ha => h.app f a (hf a ha))]
/-- As a unification goes on: with fewer visits behind it it ends alike. -/
def Alike (d : Nat) : UO → UO → Prop
  | .no, .no => True
  | .yes l n, .yes l' n' => l = l' ∧ n' = n + d
  | _, _ => False
theorem biU_shift {l : Bs} {v : Int} {t : Tm} {n d : Nat} (h : biU l v t (n + d) ≠ .full) : Alike d (biU l v t n) (biU l v t (n + d)) := by
  unfold biU at h ⊢
  by_cases h1 : 4096 < n + d + ocv v (visA l t)
  · rw [if_pos h1] at h; exact absurd rfl h
  · rw [if_neg h1, if_neg (show ¬ 4096 < n + ocv v (visA l t) by omega)]
    split
    · trivial
    · split
      · exact ⟨rfl, by omega⟩
      · trivial
theorem un_shift (d : Nat) : ∀ (k' k n : Nat) (l : Bs) (P : Ps), k' ≤ k → un k' (n + d) l P ≠ .full → Alike d (un k n l P) (un k' (n + d) l P)
  | 0, k, n, l, P, _, h => absurd rfl h
  | k' + 1, 0, n, l, P, hk, _ => by omega
  | k' + 1, k + 1, n, l, [], _, _ => ⟨rfl, rfl⟩
  | k' + 1, k + 1, n, l, x :: r, hk, h => by
    rw [getElem_un] at h ⊢
    rw [getElem_un]
    by_cases h1 : 4096 < n + d + 1
    · rw [if_pos h1] at h; exact absurd rfl h
    · rw [if_neg h1] at h ⊢
      rw [if_neg (show ¬ 4096 < n + 1 by omega)]
      have e : n + d + 1 = n + 1 + d := by omega
      rw [e] at h ⊢
      split at h
      · rename_i h2
        rw [if_pos h2, if_pos h2]
        exact un_shift d k' k (n + 1) l r (by omega) h
      · rename_i h2
        rw [if_neg h2, if_neg h2]
        split at h
        · rename_i h3
          rw [if_pos h3, if_pos h3]
          have hb := fun hf => biU_shift (l := l) (v := (wlk l x.1).n) (t := wlk l x.2) (n := n + 1) (d := d) hf
          generalize biU l (wlk l x.1).n (wlk l x.2) (n + 1 + d) = o2 at hb h ⊢
          generalize biU l (wlk l x.1).n (wlk l x.2) (n + 1) = o1 at hb ⊢
          cases o2 with
          | full => exact absurd rfl h
          | no =>
            have := hb (by simp)
            cases o1 with
            | full => exact this.elim
            | no => trivial
            | yes => exact this.elim
          | yes l2 n2 =>
            have := hb (by simp)
            cases o1 with
            | full => exact this.elim
            | no => exact this.elim
            | yes l3 n3 =>
              obtain ⟨rfl, rfl⟩ := this
              exact un_shift d k' k n3 l3 r (by omega) h
        · rename_i h3
          rw [if_neg h3, if_neg h3]
          split at h
          · rename_i h4
            rw [if_pos h4, if_pos h4]
            have hb := fun hf => biU_shift (l := l) (v := (wlk l x.2).n) (t := wlk l x.1) (n := n + 1) (d := d) hf
            generalize biU l (wlk l x.2).n (wlk l x.1) (n + 1 + d) = o2 at hb h ⊢
            generalize biU l (wlk l x.2).n (wlk l x.1) (n + 1) = o1 at hb ⊢
            cases o2 with
            | full => exact absurd rfl h
            | no =>
              have := hb (by simp)
              cases o1 with
              | full => exact this.elim
              | no => trivial
              | yes => exact this.elim
            | yes l2 n2 =>
              have := hb (by simp)
              cases o1 with
              | full => exact this.elim
              | no => exact this.elim
              | yes l3 n3 =>
                obtain ⟨rfl, rfl⟩ := this
                exact un_shift d k' k n3 l3 r (by omega) h
          · rename_i h4
            rw [if_neg h4, if_neg h4]
            split at h
            · rename_i h5
              rw [if_pos h5, if_pos h5]
              exact un_shift d k' k (n + 1) l _ (by omega) h
            · rename_i h5
              rw [if_neg h5, if_neg h5]
              trivial
end Go.Proofs.Ytdflckjnpgbjlaa

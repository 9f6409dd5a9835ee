/- Unification in plain words: the bindings as a replacement; unified once more; a term with itself. Conditions: the terms' variables are plain. -/
import Derived.Test.YtdflckjnpgbjlaaU8
set_option linter.unusedVariables false
set_option maxRecDepth 20000
set_option linter.unusedSimpArgs false
namespace Go.Proofs.Ytdflckjnpgbjlaa

/-- The bindings, applied to a variable. -/
noncomputable def sgm (l : Bs) (v : Int) : Tm := appA l (kV v)
theorem appA_of {l : Bs} (hA : Acyc l) {f : Nat} {t : Tm} (h : Fn l f t) : appA l t = app l f t := ((hA.fueled t).same h).1
theorem kV_k (v : Int) : (kV v).k = 1 := rfl
theorem app_sb {l : Bs} (hA : Acyc l) : ∀ (f : Nat) (t : Tm), t.vok → Fn l f t → app l f t = t.sb (sgm l)
  | 0, t, _, h => h.elim
  | f + 1, t, ht, h => by
    by_cases h1 : t.k = 1
    · have he := vok_var ht h1
      rw [sb_var h1]
      unfold sgm
      rw [← he]
      exact (appA_of hA h).symm
    · have hw : wlk l t = t := wlk_stop (by simp [nxt, h1])
      rw [sb_non h1, app_succ, hw]
      have hs : ∀ a ∈ t.l, Fn l f a := by
        have h' : ∀ a ∈ (wlk l t).l, Fn l f a := h
        rwa [hw] at h'
      rw [List.map_congr_left (fun a ha => app_sb hA f a ((vok_def.1 ht).2 a ha) (hs a ha))]
theorem appA_sb {l : Bs} (hA : Acyc l) {t : Tm} (ht : t.vok) : appA l t = t.sb (sgm l) := app_sb hA _ t ht (hA.fueled t)
theorem sgm_rsp {l : Bs} (hA : Acyc l) (hV : VokB l) : Rsp (sgm l) l := fun v t h => by
  have hn : nxt l (kV v) = some t := by simp [nxt, kV, h]
  have hf := hA.fueled t
  have hst := of_wlk (hA.step hn) (fuelOf l t)
  obtain ⟨g, hg⟩ := hf.pos
  unfold sgm
  rw [appA_of hA (hst.1.2 hf), hst.2.1 (by omega)]
  exact app_sb hA _ t (hV v t h) hf
theorem sgm_free {l : Bs} (hA : Acyc l) {v : Int} (h : ofB l v = none) : sgm l v = kV v := by
  have hw : wlk l (kV v) = kV v := wlk_stop (by simp [nxt, kV, h])
  obtain ⟨g, hg⟩ := (hA.fueled (kV v)).pos
  unfold sgm appA
  rw [hg, app_succ, hw]
  rfl
/-- What is alike, applied, binds nothing more. -/
theorem un_again {l : Bs} (hA : Acyc l) (hV : VokB l) : ∀ (k n : Nat) (P : Ps), (∀ x ∈ P, x.1.vok ∧ x.2.vok) → (∀ x ∈ P, x.1.sb (sgm l) = x.2.sb (sgm l)) →
    un k n l P = .full ∨ ∃ n', un k n l P = .yes l n'
  | 0, n, P, _, _ => .inl rfl
  | k + 1, n, [], _, _ => .inr ⟨n, rfl⟩
  | k + 1, n, x :: r, hP, hu => by
    have hr := sgm_rsp hA hV
    have hx := hP x (by simp)
    have hr0 : ∀ y ∈ r, y.1.vok ∧ y.2.vok := fun y hy => hP y (by simp [hy])
    have hu0 : ∀ y ∈ r, y.1.sb (sgm l) = y.2.sb (sgm l) := fun y hy => hu y (by simp [hy])
    have v1 := hV.wlk _ hx.1
    have v2 := hV.wlk _ hx.2
    have he : (wlk l x.1).sb (sgm l) = (wlk l x.2).sb (sgm l) := by rw [hr.wlk, hr.wlk]; exact hu x (by simp)
    have key : ∀ {y z : Tm}, y.vok → z.vok → y.k = 1 → ofB l y.n = none → (z.k = 1 → ofB l z.n = none) → y.sb (sgm l) = z.sb (sgm l) → z.k = 1 ∧ y.n = z.n := fun {y z} vy vz hy hfy hfz e => by
      rw [sb_var hy, sgm_free hA hfy] at e
      by_cases hz : z.k = 1
      · rw [sb_var hz, sgm_free hA (hfz hz)] at e
        injection e with _ _ e _
        exact ⟨hz, e⟩
      · rw [sb_non hz] at e
        injection e with e
        exact absurd e.symm hz
    rw [getElem_un]
    split
    · exact .inl rfl
    · split
      · exact un_again hA hV k _ r hr0 hu0
      · rename_i hns
        split
        · rename_i h1
          have := key v1 v2 h1 (wlk_free hA h1) (fun h => wlk_free hA h) he
          exact absurd ⟨h1, this.1, this.2⟩ hns
        · rename_i h1
          split
          · rename_i h2
            have := key v2 v1 h2 (wlk_free hA h2) (fun h => wlk_free hA h) he.symm
            exact absurd this.1 h1
          · rename_i h2
            rw [sb_non h1, sb_non h2] at he
            injection he with e1 e2 e3 e4
            have hl : (wlk l x.1).l.length = (wlk l x.2).l.length := by simpa using congrArg List.length e4
            rw [if_pos ⟨e1, e2, e3, hl⟩]
            exact un_again hA hV k _ _ (fun y hy => by
                rcases List.mem_append.1 hy with hy | hy
                · exact zip_vok v1 v2 y hy
                · exact hr0 y hy) (fun y hy => by
                rcases List.mem_append.1 hy with hy | hy
                · exact zip_sb e4 y hy
                · exact hu0 y hy)
theorem wlk_nil (t : Tm) : wlk [] t = t := rfl
theorem zip_self : ∀ (l : List Tm), l.zip l = l.map (fun t => (t, t))
  | [] => rfl
  | t :: l => by simp [zip_self l]
/-- Terms with themselves: nothing is bound, each node is visited at most once. -/
theorem un_self : ∀ (k n : Nat) (P : List Tm), sizL P < k → n + sizL P ≤ 4096 → ∃ n', un k n [] (P.map (fun t => (t, t))) = .yes [] n'
  | 0, _, _, h, _ => by omega
  | k + 1, n, [], _, _ => ⟨n, rfl⟩
  | k + 1, n, t :: r, hk, hn => by
    have h1 : sizL (t :: r) = t.siz + sizL r := rfl
    have h2 := siz_eq t
    rw [List.map_cons, getElem_un, if_neg (by omega)]
    simp only [wlk_nil]
    split
    · exact un_self k _ r (by omega) (by omega)
    · rename_i hns
      have h3 : t.k ≠ 1 := fun h => hns (by simp [h])
      rw [if_neg h3, if_neg h3, if_pos (by simp), zip_self, ← List.map_append]
      exact un_self k _ (t.l ++ r) (by rw [sizL_append]; omega) (by rw [sizL_append]; omega)
/-- Whether two terms unify hangs on no order. -/
theorem un_turn {a b : Tm} {k k' n n' : Nat} (ha : a.vok) (hb : b.vok) {l : Bs} {m : Nat} (h : un k n [] [(a, b)] = .yes l m) : un k' n' [] [(b, a)] ≠ .no := by
  have hV0 : VokB [] := fun v t h => by cases h
  obtain ⟨i1, i2, _, i4⟩ := un_sound k n [] [(a, b)] l m acyc_nil hV0 (by simp [ha, hb]) h
  have hr := sgm_rsp i1 i2
  have he := (i4 _ hr).2 (a, b) (by simp)
  intro hno
  rcases un_most (σ := sgm l) k' n' [] [(b, a)] acyc_nil hV0 (by simp [ha, hb]) (fun v t h => by cases h) (by simp; exact he.symm) with h | ⟨_, _, h, _⟩
  · rw [hno] at h; cases h
  · rw [hno] at h; cases h
/-- What unifies behind a unification is unified by it. -/
theorem un_twice {a b : Tm} {k k' n n' : Nat} (ha : a.vok) (hb : b.vok) {l : Bs} {m : Nat} (h : un k n [] [(a, b)] = .yes l m) : un k' n' l [(a, b)] = .full ∨ ∃ m', un k' n' l [(a, b)] = .yes l m' := by
  have hV0 : VokB [] := fun v t h => by cases h
  obtain ⟨i1, i2, _, i4⟩ := un_sound k n [] [(a, b)] l m acyc_nil hV0 (by simp [ha, hb]) h
  exact un_again i1 i2 k' n' [(a, b)] (by simp [ha, hb]) (by simp; exact (i4 _ (sgm_rsp i1 i2)).2 (a, b) (by simp))
/-- How large, how many. -/
theorem un_bounds {N : Nat} : ∀ (k n : Nat) (l : Bs) (P : Ps) (l' : Bs) (n' : Nat), (∀ v t, ofB l v = some t → t.siz ≤ N) → (∀ x ∈ P, x.1.siz ≤ N ∧ x.2.siz ≤ N) → n ≤ 4096 → un k n l P = .yes l' n' →
    (∀ v t, ofB l' v = some t → t.siz ≤ N) ∧ l'.length + n ≤ l.length + n' ∧ n' ≤ 4096
  | 0, n, l, P, l', n', _, _, _, h => by simp [un] at h
  | k + 1, n, l, [], l', n', hz, _, hn, h => by
    injection h with h1 h2
    subst h1 h2
    exact ⟨hz, Nat.le_refl _, hn⟩
  | k + 1, n, l, x :: r, l', n', hz, hP, hn, h => by
    have hx := hP x (by simp)
    have hr0 : ∀ y ∈ r, y.1.siz ≤ N ∧ y.2.siz ≤ N := fun y hy => hP y (by simp [hy])
    have v1 : (wlk l x.1).siz ≤ N := wlk_siz hz _ hx.1
    have v2 : (wlk l x.2).siz ≤ N := wlk_siz hz _ hx.2
    rw [getElem_un] at h
    split at h
    · cases h
    · split at h
      · obtain ⟨i1, i2, i3⟩ := un_bounds k _ l r l' n' hz hr0 (by omega) h
        exact ⟨i1, by omega, i3⟩
      · split at h
        · cases hb : biU l (wlk l x.1).n (wlk l x.2) (n + 1) with
          | full => rw [hb] at h; cases h
          | no => rw [hb] at h; cases h
          | yes l2 n2 =>
            rw [hb] at h
            obtain ⟨b1, b2, b3⟩ := biU_yes hb
            obtain ⟨i1, i2, i3⟩ := un_bounds k _ l2 r l' n' (fun v t h => bound_siz b1 hz v2 v t h) hr0 b3 h
            have : l2.length = l.length + 1 := by rw [b1]; simp
            exact ⟨i1, by omega, i3⟩
        · split at h
          · cases hb : biU l (wlk l x.2).n (wlk l x.1) (n + 1) with
            | full => rw [hb] at h; cases h
            | no => rw [hb] at h; cases h
            | yes l2 n2 =>
              rw [hb] at h
              obtain ⟨b1, b2, b3⟩ := biU_yes hb
              obtain ⟨i1, i2, i3⟩ := un_bounds k _ l2 r l' n' (fun v t h => bound_siz b1 hz v1 v t h) hr0 b3 h
              have : l2.length = l.length + 1 := by rw [b1]; simp
              exact ⟨i1, by omega, i3⟩
          · split at h
            · obtain ⟨i1, i2, i3⟩ := un_bounds k _ l _ l' n' hz (fun y hy => by
                rcases List.mem_append.1 hy with hy | hy
                · have := List.of_mem_zip hy
                  exact ⟨siz_at v1 this.1, siz_at v2 this.2⟩
                · exact hr0 y hy) (by omega) h
              exact ⟨i1, by omega, i3⟩
            · cases h
end Go.Proofs.Ytdflckjnpgbjlaa

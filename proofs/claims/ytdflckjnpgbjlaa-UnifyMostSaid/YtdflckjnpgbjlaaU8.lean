/- Unification in plain words: whatever unifies goes through what the run binds; what the run binds unifies. Conditions: the terms' variables are plain. -/
import Derived.Test.YtdflckjnpgbjlaaU7
import Derived.Test.YtdflckjnpgbjlaaG2
set_option linter.unusedVariables false
set_option maxRecDepth 20000
set_option linter.unusedSimpArgs false
namespace Go.Proofs.Ytdflckjnpgbjlaa

mutual
/-- Variables replaced, all at once. -/
def Tm.sb (σ : Int → Tm) : Tm → Tm
  | ⟨k, s, n, l⟩ => if k = 1 then σ n else ⟨k, s, n, sbL σ l⟩
def sbL (σ : Int → Tm) : List Tm → List Tm
  | [] => []
  | t :: ts => t.sb σ :: sbL σ ts
end
mutual
/-- A term's variables are plain ones: no name, no arguments, no sign. -/
def Tm.vok : Tm → Prop
  | ⟨k, s, n, l⟩ => (k = 1 → s = ⟨#[]⟩ ∧ l = [] ∧ 0 ≤ n) ∧ vokL l
def vokL : List Tm → Prop
  | [] => True
  | t :: ts => t.vok ∧ vokL ts
end
theorem vokL_iff : ∀ {l : List Tm}, vokL l ↔ ∀ t ∈ l, t.vok
  | [] => by simp [vokL]
  | t :: ts => by simp [vokL, vokL_iff (l := ts)]
theorem vok_def {t : Tm} : t.vok ↔ (t.k = 1 → t.s = ⟨#[]⟩ ∧ t.l = [] ∧ 0 ≤ t.n) ∧ ∀ a ∈ t.l, a.vok := by
  cases t; simp only [Tm.vok, vokL_iff]
theorem vok_var {t : Tm} (h : t.vok) (h1 : t.k = 1) : t = kV t.n := by
  obtain ⟨k, s, n, l⟩ := t
  have := (vok_def.1 h).1 h1
  simp only at this h1
  obtain ⟨rfl, rfl, _⟩ := this
  subst h1
  rfl
mutual
theorem shp_vok : ∀ (t : Tm), t.shp = true → t.vok
  | ⟨k, s, n, l⟩, h => by
    unfold Tm.shp at h
    unfold Tm.vok
    split at h
    · rename_i h1
      simp only [Bool.and_eq_true, decide_eq_true_eq] at h
      obtain ⟨⟨h2, h3⟩, h4⟩ := h
      subst h4
      refine ⟨fun _ => ⟨?_, rfl, h2⟩, by simp [vokL]⟩
      obtain ⟨d⟩ := s
      have : d.size = 0 := h3
      have : d = #[] := Array.size_eq_zero_iff.1 this
      rw [this]
    · rename_i h1
      refine ⟨fun h => absurd h h1, ?_⟩
      split at h
      · simp only [Bool.and_eq_true, decide_eq_true_eq] at h
        rw [h.2]; simp [vokL]
      · split at h
        · simp only [Bool.and_eq_true, decide_eq_true_eq] at h
          rw [h.1.2]; simp [vokL]
        · simp only [Bool.and_eq_true] at h
          exact shpL_vok l h.2
theorem shpL_vok : ∀ (l : List Tm), shpL l = true → vokL l
  | [], _ => by simp [vokL]
  | t :: ts, h => by
    simp only [shpL, Bool.and_eq_true] at h
    exact ⟨shp_vok t h.1, shpL_vok ts h.2⟩
end
theorem sbL_map (σ : Int → Tm) : ∀ l : List Tm, sbL σ l = l.map (Tm.sb σ)
  | [] => rfl
  | t :: ts => by simp [sbL, sbL_map σ ts]
theorem sb_var {σ : Int → Tm} {t : Tm} (h : t.k = 1) : t.sb σ = σ t.n := by cases t; simp only at h; simp [Tm.sb, h]
theorem sb_non {σ : Int → Tm} {t : Tm} (h : t.k ≠ 1) : t.sb σ = ⟨t.k, t.s, t.n, t.l.map (Tm.sb σ)⟩ := by cases t; simp only at h; simp [Tm.sb, h, sbL_map]
/-- σ goes through the bindings. -/
def Rsp (σ : Int → Tm) (l : Bs) : Prop := ∀ v t, ofB l v = some t → σ v = t.sb σ
theorem Rsp.wlkN {σ : Int → Tm} {l : Bs} (h : Rsp σ l) : ∀ (m : Nat) (t : Tm), (wlkN l m t).sb σ = t.sb σ
  | 0, t => rfl
  | m + 1, t => by
    simp only [Go.Proofs.Ytdflckjnpgbjlaa.wlkN]
    cases hn : nxt l t with
    | none => rfl
    | some u =>
      simp only
      rw [h.wlkN m u]
      unfold nxt at hn
      split at hn
      · rename_i h1; rw [sb_var h1]; exact (h _ _ hn).symm
      · cases hn
theorem Rsp.wlk {σ : Int → Tm} {l : Bs} (h : Rsp σ l) (t : Tm) : (wlk l t).sb σ = t.sb σ := h.wlkN _ t
theorem siz_memL {a : Tm} : ∀ {l : List Tm}, a ∈ l → a.siz ≤ sizL l
  | b :: l, h => by
    rcases List.mem_cons.1 h with rfl | h
    · simp [sizL]
    · have := siz_memL h; simp [sizL]; omega
theorem siz_eq (t : Tm) : t.siz = sizL t.l + 1 := by cases t; rfl
/-- Bound terms are plain too. -/
def VokB (l : Bs) : Prop := ∀ v t, ofB l v = some t → t.vok
theorem VokB.wlkN {l : Bs} (h : VokB l) : ∀ (m : Nat) (t : Tm), t.vok → (wlkN l m t).vok
  | 0, t, ht => ht
  | m + 1, t, ht => by
    simp only [Go.Proofs.Ytdflckjnpgbjlaa.wlkN]
    cases hn : nxt l t with
    | none => exact ht
    | some u =>
      refine h.wlkN m u ?_
      unfold nxt at hn
      split at hn
      · exact h _ _ hn
      · cases hn
theorem VokB.wlk {l : Bs} (h : VokB l) (t : Tm) (ht : t.vok) : (wlk l t).vok := h.wlkN _ t ht
/-- A variable that is met in a term: its value is not greater; it is less where the term is more than the variable. -/
theorem occ_siz {σ : Int → Tm} {l : Bs} (hr : Rsp σ l) (hv : VokB l) {v : Int} : ∀ (f : Nat) (t : Tm), t.vok → (∃ x ∈ vis l f t, isv v x = true) → (σ v).siz ≤ (t.sb σ).siz ∧ (isv v (wlk l t) = false → (σ v).siz < (t.sb σ).siz)
  | 0, t, _, ⟨x, hx, _⟩ => by simp [vis] at hx
  | f + 1, t, ht, ⟨x, hx, hi⟩ => by
    have hw := hv.wlk t ht
    rw [← hr.wlk t]
    simp only [vis, List.mem_cons, List.mem_flatMap] at hx
    by_cases hs : isv v (wlk l t) = true
    · have h2 : (wlk l t).k = 1 ∧ (wlk l t).n = v := by simpa [isv] using hs
      rw [sb_var h2.1, h2.2]
      exact ⟨Nat.le_refl _, fun h => by rw [hs] at h; cases h⟩
    · rcases hx with rfl | ⟨a, ha, hx⟩
      · exact absurd hi hs
      · have hk : (wlk l t).k ≠ 1 := fun h1 => by
          have := ((vok_def.1 hw).1 h1).2.1
          rw [this] at ha; cases ha
        have ih := (occ_siz hr hv f a ((vok_def.1 hw).2 a ha) ⟨x, hx, hi⟩).1
        have hlt : (a.sb σ).siz < ((wlk l t).sb σ).siz := by
          have hs2 : ((wlk l t).sb σ).siz = sizL ((wlk l t).l.map (Tm.sb σ)) + 1 := by rw [sb_non hk, siz_eq]
          have := siz_memL (l := (wlk l t).l.map (Tm.sb σ)) (List.mem_map.2 ⟨a, ha, rfl⟩)
          omega
        exact ⟨by omega, fun _ => by omega⟩
theorem zip_sb {σ : Int → Tm} : ∀ {a b : List Tm}, a.map (Tm.sb σ) = b.map (Tm.sb σ) → ∀ x ∈ a.zip b, x.1.sb σ = x.2.sb σ
  | [], _, _, x, hx => by simp at hx
  | _ :: _, [], _, x, hx => by simp at hx
  | y :: a, z :: b, h, x, hx => by
    simp only [List.map_cons, List.cons.injEq] at h
    rcases List.mem_cons.1 (by simpa using hx : x ∈ (y, z) :: a.zip b) with rfl | hx
    · exact h.1
    · exact zip_sb h.2 x hx
theorem sb_zip {σ : Int → Tm} : ∀ {a b : List Tm}, a.length = b.length → (∀ x ∈ a.zip b, x.1.sb σ = x.2.sb σ) → a.map (Tm.sb σ) = b.map (Tm.sb σ)
  | [], [], _, _ => rfl
  | [], _ :: _, h, _ => by simp at h
  | _ :: _, [], h, _ => by simp at h
  | y :: a, z :: b, h, hz => by
    simp only [List.map_cons, List.cons.injEq]
    exact ⟨hz (y, z) (by simp), sb_zip (by simpa using h) (fun x hx => hz x (by simp [hx]))⟩
theorem bindE_is {l : Bs} {v : Int} {P : List Tm} (h1 : ofB l v = none) (h2 : 0 ≤ v) (h3 : P.length ≤ 4096) (h4 : P.any (isv v) = false) : bindE l v P = 0 := by
  have h5 : (P.take 4096).any (isv v) = false := by
    rw [List.any_eq_false] at h4 ⊢
    exact fun x hx => h4 x (List.mem_of_mem_take hx)
  unfold bindE occE
  rw [h5, if_neg (by simp [h1]; omega)]
  simp [show ¬ 4096 < P.length by omega]
theorem ocv_noneV {v : Int} {P : List Tm} (h : P.any (isv v) = false) : ocv v P = P.length := by
  unfold ocv
  have : P.findIdx? (isv v) = none := by
    rw [List.findIdx?_eq_none_iff]
    intro x hx
    have := (List.any_eq_false.1 h) x hx
    simpa using this
  rw [this]
/-- A variable that is not bound, bound: what comes of it. -/
theorem biU_cases {l : Bs} {v : Int} {t : Tm} {n : Nat} (h1 : ofB l v = none) (h2 : 0 ≤ v) : biU l v t n = .full ∨ (biU l v t n = .no ∧ ∃ x ∈ visA l t, isv v x = true) ∨ ∃ n', biU l v t n = .yes (l ++ [(v, t)]) n' ∧ (visA l t).any (isv v) = false := by
  unfold biU
  by_cases hf : 4096 < n + ocv v (visA l t)
  · rw [if_pos hf]; exact .inl rfl
  · rw [if_neg hf]
    by_cases ha : (visA l t).any (isv v) = true
    · rw [if_pos ha]
      exact .inr (.inl ⟨rfl, List.any_eq_true.1 ha⟩)
    · rw [if_neg ha]
      have ha' : (visA l t).any (isv v) = false := by simpa using ha
      have := ocv_noneV ha'
      rw [if_pos (bindE_is h1 h2 (by omega) ha')]
      exact .inr (.inr ⟨_, rfl, ha'⟩)
theorem wlk_free {l : Bs} (hA : Acyc l) {t : Tm} (h : (wlk l t).k = 1) : ofB l (wlk l t).n = none := by
  have := hA.ended t
  unfold nxt at this
  rwa [if_pos h] at this
theorem Rsp.snoc {σ : Int → Tm} {l : Bs} {v : Int} {t : Tm} (h : Rsp σ l) (hs : σ v = t.sb σ) : Rsp σ (l ++ [(v, t)]) := fun m s hm => by
  rw [ofB_append] at hm
  cases ho : ofB l m with
  | some y => rw [ho] at hm; injection hm with hm; subst hm; exact h _ _ ho
  | none =>
    rw [ho, ofB_one] at hm
    simp only at hm
    split at hm
    · rename_i e; injection hm with hm; subst hm e; exact hs
    · cases hm
theorem Rsp.init {σ : Int → Tm} {l : Bs} {v : Int} {t : Tm} (h : Rsp σ (l ++ [(v, t)])) (hv : ofB l v = none) : Rsp σ l ∧ σ v = t.sb σ :=
  ⟨fun m s hm => h m s (ofB_more hm), h v t (by rw [ofB_append, hv, ofB_one]; simp)⟩
theorem VokB.snoc {l : Bs} {v : Int} {t : Tm} (h : VokB l) (ht : t.vok) : VokB (l ++ [(v, t)]) := fun m s hm => by
  rw [ofB_append] at hm
  cases ho : ofB l m with
  | some y => rw [ho] at hm; injection hm with hm; subst hm; exact h _ _ ho
  | none =>
    rw [ho, ofB_one] at hm
    simp only at hm
    split at hm
    · injection hm with hm; subst hm; exact ht
    · cases hm
theorem Acyc.snoc {l : Bs} (hA : Acyc l) {v : Int} {t : Tm} (hv : ofB l v = none) (ha : (visA l t).any (isv v) = false) : Acyc (l ++ [(v, t)]) :=
  hA.bind hv (hA.fueled t) (fun x hx => by have := (List.any_eq_false.1 ha) x hx; simpa using this)
theorem getElem_un {k n : Nat} {l : Bs} {x : Tm × Tm} {r : Ps} : un (k + 1) n l (x :: r) = if 4096 < n + 1 then .full
    else if (wlk l x.1).k = 1 ∧ (wlk l x.2).k = 1 ∧ (wlk l x.1).n = (wlk l x.2).n then un k (n + 1) l r
    else if (wlk l x.1).k = 1 then (match biU l (wlk l x.1).n (wlk l x.2) (n + 1) with | .yes l' n' => un k n' l' r | o => o)
    else if (wlk l x.2).k = 1 then (match biU l (wlk l x.2).n (wlk l x.1) (n + 1) with | .yes l' n' => un k n' l' r | o => o)
    else if (wlk l x.1).k = (wlk l x.2).k ∧ (wlk l x.1).s = (wlk l x.2).s ∧ (wlk l x.1).n = (wlk l x.2).n ∧ (wlk l x.1).l.length = (wlk l x.2).l.length then un k (n + 1) l ((wlk l x.1).l.zip (wlk l x.2).l ++ r)
    else .no := rfl
theorem zip_vok {a b : Tm} (ha : a.vok) (hb : b.vok) : ∀ x ∈ a.l.zip b.l, x.1.vok ∧ x.2.vok := fun x hx => by
  have := List.of_mem_zip hx
  exact ⟨(vok_def.1 ha).2 _ this.1, (vok_def.1 hb).2 _ this.2⟩
/-- What the run binds unifies; nothing that was bound is lost. -/
theorem un_sound : ∀ (k n : Nat) (l : Bs) (P : Ps) (l' : Bs) (n' : Nat), Acyc l → VokB l → (∀ x ∈ P, x.1.vok ∧ x.2.vok) → un k n l P = .yes l' n' →
    Acyc l' ∧ VokB l' ∧ (∃ m, l' = l ++ m) ∧ ∀ σ, Rsp σ l' → Rsp σ l ∧ ∀ x ∈ P, x.1.sb σ = x.2.sb σ
  | 0, n, l, P, l', n', _, _, _, h => by simp [un] at h
  | k + 1, n, l, [], l', n', hA, hV, _, h => by
    injection h with h1 h2
    subst h1
    exact ⟨hA, hV, ⟨[], by simp⟩, fun σ hr => ⟨hr, by simp⟩⟩
  | k + 1, n, l, x :: r, l', n', hA, hV, hP, h => by
    have hx := hP x (by simp)
    have hr0 : ∀ y ∈ r, y.1.vok ∧ y.2.vok := fun y hy => hP y (by simp [hy])
    have v1 := hV.wlk _ hx.1
    have v2 := hV.wlk _ hx.2
    have step : ∀ {σ : Int → Tm}, Rsp σ l → (wlk l x.1).sb σ = (wlk l x.2).sb σ → x.1.sb σ = x.2.sb σ := fun hr he => by rw [hr.wlk, hr.wlk] at he; exact he
    have fin : ∀ {σ : Int → Tm}, x.1.sb σ = x.2.sb σ → (∀ y ∈ r, y.1.sb σ = y.2.sb σ) → ∀ y ∈ x :: r, y.1.sb σ = y.2.sb σ := fun h1 h2 y hy => by
      rcases List.mem_cons.1 hy with rfl | hy
      · exact h1
      · exact h2 y hy
    rw [getElem_un] at h
    split at h
    · cases h
    · split at h
      · rename_i hs
        obtain ⟨i1, i2, i3, i4⟩ := un_sound k _ l r l' n' hA hV hr0 h
        refine ⟨i1, i2, i3, fun σ hr => ?_⟩
        obtain ⟨j1, j2⟩ := i4 σ hr
        exact ⟨j1, fin (step j1 (by rw [sb_var hs.1, sb_var hs.2.1, hs.2.2])) j2⟩
      · split at h
        · rename_i h1
          have hfree := wlk_free hA h1
          rcases biU_cases (t := wlk l x.2) (n := n + 1) hfree ((vok_def.1 v1).1 h1).2.2 with hb | ⟨hb, _⟩ | ⟨n2, hb, hno⟩
          · rw [hb] at h; cases h
          · rw [hb] at h; cases h
          · rw [hb] at h
            obtain ⟨i1, i2, ⟨m, i3⟩, i4⟩ := un_sound k _ _ r l' n' (hA.snoc hfree hno) (hV.snoc v2) hr0 h
            refine ⟨i1, i2, ⟨_, by rw [i3, List.append_assoc]⟩, fun σ hr => ?_⟩
            obtain ⟨j1, j2⟩ := i4 σ hr
            obtain ⟨q1, q2⟩ := j1.init hfree
            exact ⟨q1, fin (step q1 (by rw [sb_var h1]; exact q2)) j2⟩
        · split at h
          · rename_i h1 h2
            have hfree := wlk_free hA h2
            rcases biU_cases (t := wlk l x.1) (n := n + 1) hfree ((vok_def.1 v2).1 h2).2.2 with hb | ⟨hb, _⟩ | ⟨n2, hb, hno⟩
            · rw [hb] at h; cases h
            · rw [hb] at h; cases h
            · rw [hb] at h
              obtain ⟨i1, i2, ⟨m, i3⟩, i4⟩ := un_sound k _ _ r l' n' (hA.snoc hfree hno) (hV.snoc v1) hr0 h
              refine ⟨i1, i2, ⟨_, by rw [i3, List.append_assoc]⟩, fun σ hr => ?_⟩
              obtain ⟨j1, j2⟩ := i4 σ hr
              obtain ⟨q1, q2⟩ := j1.init hfree
              exact ⟨q1, fin (step q1 (by rw [sb_var h2]; exact q2.symm)) j2⟩
          · split at h
            · rename_i h1 h2 hm
              obtain ⟨i1, i2, i3, i4⟩ := un_sound k _ l _ l' n' hA hV (fun y hy => by
                rcases List.mem_append.1 hy with hy | hy
                · exact zip_vok v1 v2 y hy
                · exact hr0 y hy) h
              refine ⟨i1, i2, i3, fun σ hr => ?_⟩
              obtain ⟨j1, j2⟩ := i4 σ hr
              refine ⟨j1, fin (step j1 ?_) (fun y hy => j2 y (List.mem_append_right _ hy))⟩
              rw [sb_non h1, sb_non h2, hm.1, hm.2.1, hm.2.2.1, sb_zip hm.2.2.2 (fun y hy => j2 y (List.mem_append_left _ hy))]
            · cases h
/-- Whatever unifies goes through what the run binds; where there is such, the run does not say no. -/
theorem un_most {σ : Int → Tm} : ∀ (k n : Nat) (l : Bs) (P : Ps), Acyc l → VokB l → (∀ x ∈ P, x.1.vok ∧ x.2.vok) → Rsp σ l → (∀ x ∈ P, x.1.sb σ = x.2.sb σ) →
    un k n l P = .full ∨ ∃ l' n', un k n l P = .yes l' n' ∧ Rsp σ l'
  | 0, n, l, P, _, _, _, _, _ => .inl rfl
  | k + 1, n, l, [], _, _, _, hr, _ => .inr ⟨l, n, rfl, hr⟩
  | k + 1, n, l, x :: r, hA, hV, hP, hr, hu => by
    have hx := hP x (by simp)
    have hr0 : ∀ y ∈ r, y.1.vok ∧ y.2.vok := fun y hy => hP y (by simp [hy])
    have hu0 : ∀ y ∈ r, y.1.sb σ = y.2.sb σ := fun y hy => hu y (by simp [hy])
    have v1 := hV.wlk _ hx.1
    have v2 := hV.wlk _ hx.2
    have he : (wlk l x.1).sb σ = (wlk l x.2).sb σ := by rw [hr.wlk, hr.wlk]; exact hu x (by simp)
    rw [getElem_un]
    split
    · exact .inl rfl
    · split
      · exact un_most k _ l r hA hV hr0 hr hu0
      · rename_i hns
        split
        · rename_i h1
          have hfree := wlk_free hA h1
          rcases biU_cases (t := wlk l x.2) (n := n + 1) hfree ((vok_def.1 v1).1 h1).2.2 with hb | ⟨hb, hoc⟩ | ⟨n2, hb, hno⟩
          · rw [hb]; exact .inl rfl
          · exfalso
            have := (occ_siz hr hV _ _ v2 hoc).2 (by
              rw [hA.wlk_wlk]
              cases hi : isv (wlk l x.1).n (wlk l x.2) with
              | false => rfl
              | true =>
                have : (wlk l x.2).k = 1 ∧ (wlk l x.2).n = (wlk l x.1).n := by simpa [isv] using hi
                exact absurd ⟨h1, this.1, this.2.symm⟩ hns)
            rw [← he, sb_var h1] at this
            omega
          · rw [hb]
            exact un_most k _ _ r (hA.snoc hfree hno) (hV.snoc v2) hr0 (hr.snoc (by rw [← he, sb_var h1])) hu0
        · rename_i h1
          split
          · rename_i h2
            have hfree := wlk_free hA h2
            rcases biU_cases (t := wlk l x.1) (n := n + 1) hfree ((vok_def.1 v2).1 h2).2.2 with hb | ⟨hb, hoc⟩ | ⟨n2, hb, hno⟩
            · rw [hb]; exact .inl rfl
            · exfalso
              have := (occ_siz hr hV _ _ v1 hoc).2 (by
                rw [hA.wlk_wlk]
                cases hi : isv (wlk l x.2).n (wlk l x.1) with
                | false => rfl
                | true =>
                  have : (wlk l x.1).k = 1 ∧ (wlk l x.1).n = (wlk l x.2).n := by simpa [isv] using hi
                  exact absurd this.1 h1)
              rw [he, sb_var h2] at this
              omega
            · rw [hb]
              exact un_most k _ _ r (hA.snoc hfree hno) (hV.snoc v1) hr0 (hr.snoc (by rw [he, sb_var h2])) hu0
          · rename_i h2
            rw [sb_non h1, sb_non h2] at he
            injection he with e1 e2 e3 e4
            have hl : (wlk l x.1).l.length = (wlk l x.2).l.length := by simpa using congrArg List.length e4
            rw [if_pos ⟨e1, e2, e3, hl⟩]
            exact un_most k _ l _ hA hV (fun y hy => by
                rcases List.mem_append.1 hy with hy | hy
                · exact zip_vok v1 v2 y hy
                · exact hr0 y hy) hr (fun y hy => by
                rcases List.mem_append.1 hy with hy | hy
                · exact zip_sb e4 y hy
                · exact hu0 y hy)
end Go.Proofs.Ytdflckjnpgbjlaa

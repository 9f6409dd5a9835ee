/- Unification in plain words: whatever unifies goes through what the run binds; what the run binds unifies. Unification in plain words: the bindings as a replacement; unified once more; a term with itself. Unification in plain words: what is applied behind what is unified; more visits; a term and its like; a term in itself. Unification in plain words: a term and its like with other variables; a term in a structure of it. Variables of terms in their bounds. No condition. Conditions: the arguments read; terms of at most a million nodes, where a statement says so. -/
import Derived.Test.YtdflckjnpgbjlaaU7
import Derived.Test.YtdflckjnpgbjlaaG2
set_option linter.unusedVariables false
set_option maxRecDepth 20000
set_option linter.unusedSimpArgs false
namespace Go.Proofs.Ytdflckjnpgbjlaa
mutual
/-- Variables replaced, all at once. -/
def Tm.sb (σ : Int → Tm) : Tm → Tm
  | ⟨k, s, n, l⟩ => if k = 1 then σ n else ⟨k, s, n, sbL σ l⟩
def sbL (σ : Int → Tm) : List Tm → List Tm
  | [] => []
  | t :: ts => t.sb σ :: sbL σ ts
end
mutual
/-- A term's variables are plain ones: no name, no arguments, no sign. -/
def Tm.vok : Tm → Prop
  | ⟨k, s, n, l⟩ => (k = 1 → s = ⟨#[]⟩ ∧ l = [] ∧ 0 ≤ n) ∧ vokL l
def vokL : List Tm → Prop
  | [] => True
  | t :: ts => t.vok ∧ vokL ts
end
theorem vokL_iff : ∀ {l : List Tm}, vokL l ↔ ∀ t ∈ l, t.vok
  | [] => by simp [vokL]
  | t :: ts => by simp [vokL, vokL_iff (l := ts)]
theorem vok_def {t : Tm} : t.vok ↔ (t.k = 1 → t.s = ⟨#[]⟩ ∧ t.l = [] ∧ 0 ≤ t.n) ∧ ∀ a ∈ t.l, a.vok := by
  cases t; simp only [Tm.vok, vokL_iff]
theorem vok_var {t : Tm} (h : t.vok) (h1 : t.k = 1) : t = kV t.n := by
  obtain ⟨k, s, n, l⟩ := t
  have := (vok_def.1 h).1 h1
  simp only at this h1
  obtain ⟨rfl, rfl, _⟩ := this
  subst h1
  rfl
mutual
theorem shp_vok : ∀ (t : Tm), t.shp = true → t.vok
  | ⟨k, s, n, l⟩, h => by
    unfold Tm.shp at h
    unfold Tm.vok
    split at h
    · rename_i h1
      simp only [Bool.and_eq_true, decide_eq_true_eq] at h
      obtain ⟨⟨h2, h3⟩, h4⟩ := h
      subst h4
      refine ⟨fun _ => ⟨?_, rfl, h2⟩, by simp [vokL]⟩
      obtain ⟨d⟩ := s
      have : d.size = 0 := h3
      have : d = #[] := Array.size_eq_zero_iff.1 this
      rw [this]
    · rename_i h1
      refine ⟨fun h => absurd h h1, ?_⟩
      split at h
      · simp only [Bool.and_eq_true, decide_eq_true_eq] at h
        rw [h.2]; simp [vokL]
      · split at h
        · simp only [Bool.and_eq_true, decide_eq_true_eq] at h
          rw [h.1.2]; simp [vokL]
        · simp only [Bool.and_eq_true] at h
          exact shpL_vok l h.2
theorem shpL_vok : ∀ (l : List Tm), shpL l = true → vokL l
  | [], _ => by simp [vokL]
  | t :: ts, h => by
    simp only [shpL, Bool.and_eq_true] at h
    exact ⟨shp_vok t h.1, shpL_vok ts h.2⟩
end
theorem sbL_map (σ : Int → Tm) : ∀ l : List Tm, sbL σ l = l.map (Tm.sb σ)
  | [] => rfl
  | t :: ts => by simp [sbL, sbL_map σ ts]
theorem sb_var {σ : Int → Tm} {t : Tm} (h : t.k = 1) : t.sb σ = σ t.n := by cases t; simp only at h; simp [Tm.sb, h]
theorem sb_non {σ : Int → Tm} {t : Tm} (h : t.k ≠ 1) : t.sb σ = ⟨t.k, t.s, t.n, t.l.map (Tm.sb σ)⟩ := by cases t; simp only at h; simp [Tm.sb, h, sbL_map]
/-- σ goes through the bindings. -/
def Rsp (σ : Int → Tm) (l : Bs) : Prop := ∀ v t, ofB l v = some t → σ v = t.sb σ
theorem Rsp.wlkN {σ : Int → Tm} {l : Bs} (h : Rsp σ l) : ∀ (m : Nat) (t : Tm), (wlkN l m t).sb σ = t.sb σ
  | 0, t => rfl
  | m + 1, t => by
    simp only [Go.Proofs.Ytdflckjnpgbjlaa.wlkN]
    cases hn : nxt l t with
    | none => rfl
    | some u =>
      simp only
      rw [h.wlkN m u]
      unfold nxt at hn
      split at hn
      · rename_i h1; rw [sb_var h1]; exact (h _ _ hn).symm
      · cases hn
theorem Rsp.wlk {σ : Int → Tm} {l : Bs} (h : Rsp σ l) (t : Tm) : (wlk l t).sb σ = t.sb σ := h.wlkN _ t
theorem siz_memL {a : Tm} : ∀ {l : List Tm}, a ∈ l → a.siz ≤ sizL l
  | b :: l, h => by
    rcases List.mem_cons.1 h with rfl | h
    · simp [sizL]
    · have := siz_memL h; simp [sizL]; omega
theorem siz_eq (t : Tm) : t.siz = sizL t.l + 1 := by cases t; rfl
/-- Bound terms are plain too. -/
def VokB (l : Bs) : Prop := ∀ v t, ofB l v = some t → t.vok
theorem VokB.wlkN {l : Bs} (h : VokB l) : ∀ (m : Nat) (t : Tm), t.vok → (wlkN l m t).vok
  | 0, t, ht => ht
  | m + 1, t, ht => by
    simp only [Go.Proofs.Ytdflckjnpgbjlaa.wlkN]
    cases hn : nxt l t with
    | none => exact ht
    | some u =>
      refine h.wlkN m u ?_
      unfold nxt at hn
      split at hn
      · exact h _ _ hn
      · cases hn
theorem VokB.wlk {l : Bs} (h : VokB l) (t : Tm) (ht : t.vok) : (wlk l t).vok := h.wlkN _ t ht
/-- A variable that is met in a term: its value is not greater; it is less where the term is more than the variable. -/
theorem occ_siz {σ : Int → Tm} {l : Bs} (hr : Rsp σ l) (hv : VokB l) {v : Int} : ∀ (f : Nat) (t : Tm), t.vok → (∃ x ∈ vis l f t, isv v x = true) → (σ v).siz ≤ (t.sb σ).siz ∧ (isv v (wlk l t) = false → (σ v).siz < (t.sb σ).siz)
  | 0, t, _, ⟨x, hx, _⟩ => by simp [vis] at hx
  | f + 1, t, ht, ⟨x, hx, hi⟩ => by
    have hw := hv.wlk t ht
    rw [← hr.wlk t]
    simp only [vis, List.mem_cons, List.mem_flatMap] at hx
    by_cases hs : isv v (wlk l t) = true
    · have h2 : (wlk l t).k = 1 ∧ (wlk l t).n = v := by simpa [isv] using hs
      rw [sb_var h2.1, h2.2]
      exact ⟨Nat.le_refl _, fun h => by rw [hs] at h; cases h⟩
    · rcases hx with rfl | ⟨a, ha, hx⟩
      · exact absurd hi hs
      · have hk : (wlk l t).k ≠ 1 := fun h1 => by
          have := ((vok_def.1 hw).1 h1).2.1
          rw [this] at ha; cases ha
        have ih := (occ_siz hr hv f a ((vok_def.1 hw).2 a ha) ⟨x, hx, hi⟩).1
        have hlt : (a.sb σ).siz < ((wlk l t).sb σ).siz := by
          have hs2 : ((wlk l t).sb σ).siz = sizL ((wlk l t).l.map (Tm.sb σ)) + 1 := by rw [sb_non hk, siz_eq]
          have := siz_memL (l := (wlk l t).l.map (Tm.sb σ)) (List.mem_map.2 ⟨a, ha, rfl⟩)
          omega
        exact ⟨by omega, fun _ => by omega⟩
theorem zip_sb {σ : Int → Tm} : ∀ {a b : List Tm}, a.map (Tm.sb σ) = b.map (Tm.sb σ) → ∀ x ∈ a.zip b, x.1.sb σ = x.2.sb σ
  | [], _, _, x, hx => by simp at hx
  | _ :: _, [], _, x, hx => by simp at hx
  | y :: a, z :: b, h, x, hx => by
    simp only [List.map_cons, List.cons.injEq] at h
    rcases List.mem_cons.1 (by simpa using hx : x ∈ (y, z) :: a.zip b) with rfl | hx
    · exact h.1
    · exact zip_sb h.2 x hx
theorem sb_zip {σ : Int → Tm} : ∀ {a b : List Tm}, a.length = b.length → (∀ x ∈ a.zip b, x.1.sb σ = x.2.sb σ) → a.map (Tm.sb σ) = b.map (Tm.sb σ)
  | [], [], _, _ => rfl
  | [], _ :: _, h, _ => by simp at h
  | _ :: _, [], h, _ => by simp at h
  | y :: a, z :: b, h, hz => by
    simp only [List.map_cons, List.cons.injEq]
    exact ⟨hz (y, z) (by simp), sb_zip (by simpa using h) (fun x hx => hz x (by simp [hx]))⟩
theorem bindE_is {l : Bs} {v : Int} {P : List Tm} (h1 : ofB l v = none) (h2 : 0 ≤ v) (h3 : P.length ≤ 4096) (h4 : P.any (isv v) = false) : bindE l v P = 0 := by
  have h5 : (P.take 4096).any (isv v) = false := by
    rw [List.any_eq_false] at h4 ⊢
    exact fun x hx => h4 x (List.mem_of_mem_take hx)
  unfold bindE occE
  rw [h5, if_neg (by simp [h1]; omega)]
  simp [show ¬ 4096 < P.length by omega]
theorem ocv_noneV {v : Int} {P : List Tm} (h : P.any (isv v) = false) : ocv v P = P.length := by
  unfold ocv
  have : P.findIdx? (isv v) = none := by
    rw [List.findIdx?_eq_none_iff]
    intro x hx
    have := (List.any_eq_false.1 h) x hx
    simpa using this
  rw [this]
/-- A variable that is not bound, bound: what comes of it. -/
theorem biU_cases {l : Bs} {v : Int} {t : Tm} {n : Nat} (h1 : ofB l v = none) (h2 : 0 ≤ v) : biU l v t n = .full ∨ (biU l v t n = .no ∧ ∃ x ∈ visA l t, isv v x = true) ∨ ∃ n', biU l v t n = .yes (l ++ [(v, t)]) n' ∧ (visA l t).any (isv v) = false := by
  unfold biU
  by_cases hf : 4096 < n + ocv v (visA l t)
  · rw [if_pos hf]; exact .inl rfl
  · rw [if_neg hf]
    by_cases ha : (visA l t).any (isv v) = true
    · rw [if_pos ha]
      exact .inr (.inl ⟨rfl, List.any_eq_true.1 ha⟩)
    · rw [if_neg ha]
      have ha' : (visA l t).any (isv v) = false := by simpa using ha
      have := ocv_noneV ha'
      rw [if_pos (bindE_is h1 h2 (by omega) ha')]
      exact .inr (.inr ⟨_, rfl, ha'⟩)
theorem wlk_free {l : Bs} (hA : Acyc l) {t : Tm} (h : (wlk l t).k = 1) : ofB l (wlk l t).n = none := by
  have := hA.ended t
  unfold nxt at this
  rwa [if_pos h] at this
theorem Rsp.snoc {σ : Int → Tm} {l : Bs} {v : Int} {t : Tm} (h : Rsp σ l) (hs : σ v = t.sb σ) : Rsp σ (l ++ [(v, t)]) := fun m s hm => by
  rw [ofB_append] at hm
  cases ho : ofB l m with
  | some y => rw [ho] at hm; injection hm with hm; subst hm; exact h _ _ ho
  | none =>
    rw [ho, ofB_one] at hm
    simp only at hm
    split at hm
    · rename_i e; injection hm with hm; subst hm e; exact hs
    · cases hm
theorem Rsp.init {σ : Int → Tm} {l : Bs} {v : Int} {t : Tm} (h : Rsp σ (l ++ [(v, t)])) (hv : ofB l v = none) : Rsp σ l ∧ σ v = t.sb σ :=
  ⟨fun m s hm => h m s (ofB_more hm), h v t (by rw [ofB_append, hv, ofB_one]; simp)⟩
theorem VokB.snoc {l : Bs} {v : Int} {t : Tm} (h : VokB l) (ht : t.vok) : VokB (l ++ [(v, t)]) := fun m s hm => by
  rw [ofB_append] at hm
  cases ho : ofB l m with
  | some y => rw [ho] at hm; injection hm with hm; subst hm; exact h _ _ ho
  | none =>
    rw [ho, ofB_one] at hm
    simp only at hm
    split at hm
    · injection hm with hm; subst hm; exact ht
    · cases hm
theorem Acyc.snoc {l : Bs} (hA : Acyc l) {v : Int} {t : Tm} (hv : ofB l v = none) (ha : (visA l t).any (isv v) = false) : Acyc (l ++ [(v, t)]) :=
  hA.bind hv (hA.fueled t) (fun x hx => by have := (List.any_eq_false.1 ha) x hx; simpa using this)
theorem getElem_un {k n : Nat} {l : Bs} {x : Tm × Tm} {r : Ps} : un (k + 1) n l (x :: r) = if 4096 < n + 1 then .full
    else if (wlk l x.1).k = 1 ∧ (wlk l x.2).k = 1 ∧ (wlk l x.1).n = (wlk l x.2).n then un k (n + 1) l r
    else if (wlk l x.1).k = 1 then (match biU l (wlk l x.1).n (wlk l x.2) (n + 1) with | .yes l' n' => un k n' l' r | o => o)
    else if (wlk l x.2).k = 1 then (match biU l (wlk l x.2).n (wlk l x.1) (n + 1) with | .yes l' n' => un k n' l' r | o => o)
    else if (wlk l x.1).k = (wlk l x.2).k ∧ (wlk l x.1).s = (wlk l x.2).s ∧ (wlk l x.1).n = (wlk l x.2).n ∧ (wlk l x.1).l.length = (wlk l x.2).l.length then un k (n + 1) l ((wlk l x.1).l.zip (wlk l x.2).l ++ r)
    else .no := rfl
theorem zip_vok {a b : Tm} (ha : a.vok) (hb : b.vok) : ∀ x ∈ a.l.zip b.l, x.1.vok ∧ x.2.vok := fun x hx => by
  have := List.of_mem_zip hx
  exact ⟨(vok_def.1 ha).2 _ this.1, (vok_def.1 hb).2 _ this.2⟩
/-- What the run binds unifies; nothing that was bound is lost. -/
theorem un_sound : ∀ (k n : Nat) (l : Bs) (P : Ps) (l' : Bs) (n' : Nat), Acyc l → VokB l → (∀ x ∈ P, x.1.vok ∧ x.2.vok) → un k n l P = .yes l' n' →
    Acyc l' ∧ VokB l' ∧ (∃ m, l' = l ++ m) ∧ ∀ σ, Rsp σ l' → Rsp σ l ∧ ∀ x ∈ P, x.1.sb σ = x.2.sb σ
  | 0, n, l, P, l', n', _, _, _, h => by simp [un] at h
  | k + 1, n, l, [], l', n', hA, hV, _, h => by
    injection h with h1 h2
    subst h1
    exact ⟨hA, hV, ⟨[], by simp⟩, fun σ hr => ⟨hr, by simp⟩⟩
  | k + 1, n, l, x :: r, l', n', hA, hV, hP, h => by
    have hx := hP x (by simp)
    have hr0 : ∀ y ∈ r, y.1.vok ∧ y.2.vok := fun y hy => hP y (by simp [hy])
    have v1 := hV.wlk _ hx.1
    have v2 := hV.wlk _ hx.2
    have step : ∀ {σ : Int → Tm}, Rsp σ l → (wlk l x.1).sb σ = (wlk l x.2).sb σ → x.1.sb σ = x.2.sb σ := fun hr he => by rw [hr.wlk, hr.wlk] at he; exact he
    have fin : ∀ {σ : Int → Tm}, x.1.sb σ = x.2.sb σ → (∀ y ∈ r, y.1.sb σ = y.2.sb σ) → ∀ y ∈ x :: r, y.1.sb σ = y.2.sb σ := fun h1 h2 y hy => by
      rcases List.mem_cons.1 hy with rfl | hy
      · exact h1
      · exact h2 y hy
    rw [getElem_un] at h
    split at h
    · cases h
    · split at h
      · rename_i hs
        obtain ⟨i1, i2, i3, i4⟩ := un_sound k _ l r l' n' hA hV hr0 h
        refine ⟨i1, i2, i3, fun σ hr => ?_⟩
        obtain ⟨j1, j2⟩ := i4 σ hr
        exact ⟨j1, fin (step j1 (by rw [sb_var hs.1, sb_var hs.2.1, hs.2.2])) j2⟩
      · split at h
        · rename_i h1
          have hfree := wlk_free hA h1
          rcases biU_cases (t := wlk l x.2) (n := n + 1) hfree ((vok_def.1 v1).1 h1).2.2 with hb | ⟨hb, _⟩ | ⟨n2, hb, hno⟩
          · rw [hb] at h; cases h
          · rw [hb] at h; cases h
          · rw [hb] at h
            obtain ⟨i1, i2, ⟨m, i3⟩, i4⟩ := un_sound k _ _ r l' n' (hA.snoc hfree hno) (hV.snoc v2) hr0 h
            refine ⟨i1, i2, ⟨_, by rw [i3, List.append_assoc]⟩, fun σ hr => ?_⟩
            obtain ⟨j1, j2⟩ := i4 σ hr
            obtain ⟨q1, q2⟩ := j1.init hfree
            exact ⟨q1, fin (step q1 (by rw [sb_var h1]; exact q2)) j2⟩
        · split at h
          · rename_i h1 h2
            have hfree := wlk_free hA h2
            rcases biU_cases (t := wlk l x.1) (n := n + 1) hfree ((vok_def.1 v2).1 h2).2.2 with hb | ⟨hb, _⟩ | ⟨n2, hb, hno⟩
            · rw [hb] at h; cases h
            · rw [hb] at h; cases h
            · rw [hb] at h
              obtain ⟨i1, i2, ⟨m, i3⟩, i4⟩ := un_sound k _ _ r l' n' (hA.snoc hfree hno) (hV.snoc v1) hr0 h
              refine ⟨i1, i2, ⟨_, by rw [i3, List.append_assoc]⟩, fun σ hr => ?_⟩
              obtain ⟨j1, j2⟩ := i4 σ hr
              obtain ⟨q1, q2⟩ := j1.init hfree
              exact ⟨q1, fin (step q1 (by rw [sb_var h2]; exact q2.symm)) j2⟩
          · split at h
            · rename_i h1 h2 hm
              obtain ⟨i1, i2, i3, i4⟩ := un_sound k _ l _ l' n' hA hV (fun y hy => by
                rcases List.mem_append.1 hy with hy | hy
                · exact zip_vok v1 v2 y hy
                · exact hr0 y hy) h
              refine ⟨i1, i2, i3, fun σ hr => ?_⟩
              obtain ⟨j1, j2⟩ := i4 σ hr
              refine ⟨j1, fin (step j1 ?_) (fun y hy => j2 y (List.mem_append_right _ hy))⟩
              rw [sb_non h1, sb_non h2, hm.1, hm.2.1, hm.2.2.1, sb_zip hm.2.2.2 (fun y hy => j2 y (List.mem_append_left _ hy))]
            · cases h
/-- Whatever unifies goes through what the run binds; where there is such, the run does not say no. -/
theorem un_most {σ : Int → Tm} : ∀ (k n : Nat) (l : Bs) (P : Ps), Acyc l → VokB l → (∀ x ∈ P, x.1.vok ∧ x.2.vok) → Rsp σ l → (∀ x ∈ P, x.1.sb σ = x.2.sb σ) →
    un k n l P = .full ∨ ∃ l' n', un k n l P = .yes l' n' ∧ Rsp σ l'
  | 0, n, l, P, _, _, _, _, _ => .inl rfl
  | k + 1, n, l, [], _, _, _, hr, _ => .inr ⟨l, n, rfl, hr⟩
  | k + 1, n, l, x :: r, hA, hV, hP, hr, hu => by
    have hx := hP x (by simp)
    have hr0 : ∀ y ∈ r, y.1.vok ∧ y.2.vok := fun y hy => hP y (by simp [hy])
    have hu0 : ∀ y ∈ r, y.1.sb σ = y.2.sb σ := fun y hy => hu y (by simp [hy])
    have v1 := hV.wlk _ hx.1
    have v2 := hV.wlk _ hx.2
    have he : (wlk l x.1).sb σ = (wlk l x.2).sb σ := by rw [hr.wlk, hr.wlk]; exact hu x (by simp)
    rw [getElem_un]
    split
    · exact .inl rfl
    · split
      · exact un_most k _ l r hA hV hr0 hr hu0
      · rename_i hns
        split
        · rename_i h1
          have hfree := wlk_free hA h1
          rcases biU_cases (t := wlk l x.2) (n := n + 1) hfree ((vok_def.1 v1).1 h1).2.2 with hb | ⟨hb, hoc⟩ | ⟨n2, hb, hno⟩
          · rw [hb]; exact .inl rfl
          · exfalso
            have := (occ_siz hr hV _ _ v2 hoc).2 (by
              rw [hA.wlk_wlk]
              cases hi : isv (wlk l x.1).n (wlk l x.2) with
              | false => rfl
              | true =>
                have : (wlk l x.2).k = 1 ∧ (wlk l x.2).n = (wlk l x.1).n := by simpa [isv] using hi
                exact absurd ⟨h1, this.1, this.2.symm⟩ hns)
            rw [← he, sb_var h1] at this
            omega
          · rw [hb]
            exact un_most k _ _ r (hA.snoc hfree hno) (hV.snoc v2) hr0 (hr.snoc (by rw [← he, sb_var h1])) hu0
        · rename_i h1
          split
          · rename_i h2
            have hfree := wlk_free hA h2
            rcases biU_cases (t := wlk l x.1) (n := n + 1) hfree ((vok_def.1 v2).1 h2).2.2 with hb | ⟨hb, hoc⟩ | ⟨n2, hb, hno⟩
            · rw [hb]; exact .inl rfl
            · exfalso
              have := (occ_siz hr hV _ _ v1 hoc).2 (by
                rw [hA.wlk_wlk]
                cases hi : isv (wlk l x.2).n (wlk l x.1) with
                | false => rfl
                | true =>
                  have : (wlk l x.1).k = 1 ∧ (wlk l x.1).n = (wlk l x.2).n := by simpa [isv] using hi
                  exact absurd this.1 h1)
              rw [he, sb_var h2] at this
              omega
            · rw [hb]
              exact un_most k _ _ r (hA.snoc hfree hno) (hV.snoc v1) hr0 (hr.snoc (by rw [he, sb_var h2])) hu0
          · rename_i h2
            rw [sb_non h1, sb_non h2] at he
            injection he with e1 e2 e3 e4
            have hl : (wlk l x.1).l.length = (wlk l x.2).l.length := by simpa using congrArg List.length e4
            rw [if_pos ⟨e1, e2, e3, hl⟩]
            exact un_most k _ l _ hA hV (fun y hy => by
                rcases List.mem_append.1 hy with hy | hy
                · exact zip_vok v1 v2 y hy
                · exact hr0 y hy) hr (fun y hy => by
                rcases List.mem_append.1 hy with hy | hy
                · exact zip_sb e4 y hy
                · exact hu0 y hy)

/-- The bindings, applied to a variable. -/
noncomputable def sgm (l : Bs) (v : Int) : Tm := appA l (kV v)
theorem appA_of {l : Bs} (hA : Acyc l) {f : Nat} {t : Tm} (h : Fn l f t) : appA l t = app l f t := ((hA.fueled t).same h).1
theorem kV_k (v : Int) : (kV v).k = 1 := rfl
theorem app_sb {l : Bs} (hA : Acyc l) : ∀ (f : Nat) (t : Tm), t.vok → Fn l f t → app l f t = t.sb (sgm l)
  | 0, t, _, h => h.elim
  | f + 1, t, ht, h => by
    by_cases h1 : t.k = 1
    · have he := vok_var ht h1
      rw [sb_var h1]
      unfold sgm
      rw [← he]
      exact (appA_of hA h).symm
    · have hw : wlk l t = t := wlk_stop (by simp [nxt, h1])
      rw [sb_non h1, app_succ, hw]
      have hs : ∀ a ∈ t.l, Fn l f a := by
        have h' : ∀ a ∈ (wlk l t).l, Fn l f a := h
        rwa [hw] at h'
      rw [List.map_congr_left (fun a ha => app_sb hA f a ((vok_def.1 ht).2 a ha) (hs a ha))]
theorem appA_sb {l : Bs} (hA : Acyc l) {t : Tm} (ht : t.vok) : appA l t = t.sb (sgm l) := app_sb hA _ t ht (hA.fueled t)
theorem sgm_rsp {l : Bs} (hA : Acyc l) (hV : VokB l) : Rsp (sgm l) l := fun v t h => by
  have hn : nxt l (kV v) = some t := by simp [nxt, kV, h]
  have hf := hA.fueled t
  have hst := of_wlk (hA.step hn) (fuelOf l t)
  obtain ⟨g, hg⟩ := hf.pos
  unfold sgm
  rw [appA_of hA (hst.1.2 hf), hst.2.1 (by omega)]
  exact app_sb hA _ t (hV v t h) hf
theorem sgm_free {l : Bs} (hA : Acyc l) {v : Int} (h : ofB l v = none) : sgm l v = kV v := by
  have hw : wlk l (kV v) = kV v := wlk_stop (by simp [nxt, kV, h])
  obtain ⟨g, hg⟩ := (hA.fueled (kV v)).pos
  unfold sgm appA
  rw [hg, app_succ, hw]
  rfl
/-- What is alike, applied, binds nothing more. -/
theorem un_again {l : Bs} (hA : Acyc l) (hV : VokB l) : ∀ (k n : Nat) (P : Ps), (∀ x ∈ P, x.1.vok ∧ x.2.vok) → (∀ x ∈ P, x.1.sb (sgm l) = x.2.sb (sgm l)) →
    un k n l P = .full ∨ ∃ n', un k n l P = .yes l n'
  | 0, n, P, _, _ => .inl rfl
  | k + 1, n, [], _, _ => .inr ⟨n, rfl⟩
  | k + 1, n, x :: r, hP, hu => by
    have hr := sgm_rsp hA hV
    have hx := hP x (by simp)
    have hr0 : ∀ y ∈ r, y.1.vok ∧ y.2.vok := fun y hy => hP y (by simp [hy])
    have hu0 : ∀ y ∈ r, y.1.sb (sgm l) = y.2.sb (sgm l) := fun y hy => hu y (by simp [hy])
    have v1 := hV.wlk _ hx.1
    have v2 := hV.wlk _ hx.2
    have he : (wlk l x.1).sb (sgm l) = (wlk l x.2).sb (sgm l) := by rw [hr.wlk, hr.wlk]; exact hu x (by simp)
    have key : ∀ {y z : Tm}, y.vok → z.vok → y.k = 1 → ofB l y.n = none → (z.k = 1 → ofB l z.n = none) → y.sb (sgm l) = z.sb (sgm l) → z.k = 1 ∧ y.n = z.n := fun {y z} vy vz hy hfy hfz e => by
      rw [sb_var hy, sgm_free hA hfy] at e
      by_cases hz : z.k = 1
      · rw [sb_var hz, sgm_free hA (hfz hz)] at e
        injection e with _ _ e _
        exact ⟨hz, e⟩
      · rw [sb_non hz] at e
        injection e with e
        exact absurd e.symm hz
    rw [getElem_un]
    split
    · exact .inl rfl
    · split
      · exact un_again hA hV k _ r hr0 hu0
      · rename_i hns
        split
        · rename_i h1
          have := key v1 v2 h1 (wlk_free hA h1) (fun h => wlk_free hA h) he
          exact absurd ⟨h1, this.1, this.2⟩ hns
        · rename_i h1
          split
          · rename_i h2
            have := key v2 v1 h2 (wlk_free hA h2) (fun h => wlk_free hA h) he.symm
            exact absurd this.1 h1
          · rename_i h2
            rw [sb_non h1, sb_non h2] at he
            injection he with e1 e2 e3 e4
            have hl : (wlk l x.1).l.length = (wlk l x.2).l.length := by simpa using congrArg List.length e4
            rw [if_pos ⟨e1, e2, e3, hl⟩]
            exact un_again hA hV k _ _ (fun y hy => by
                rcases List.mem_append.1 hy with hy | hy
                · exact zip_vok v1 v2 y hy
                · exact hr0 y hy) (fun y hy => by
                rcases List.mem_append.1 hy with hy | hy
                · exact zip_sb e4 y hy
                · exact hu0 y hy)
theorem wlk_nil (t : Tm) : wlk [] t = t := rfl
theorem zip_self : ∀ (l : List Tm), l.zip l = l.map (fun t => (t, t))
  | [] => rfl
  | t :: l => by simp [zip_self l]
/-- Terms with themselves: nothing is bound, each node is visited at most once. -/
theorem un_self : ∀ (k n : Nat) (P : List Tm), sizL P < k → n + sizL P ≤ 4096 → ∃ n', un k n [] (P.map (fun t => (t, t))) = .yes [] n'
  | 0, _, _, h, _ => by omega
  | k + 1, n, [], _, _ => ⟨n, rfl⟩
  | k + 1, n, t :: r, hk, hn => by
    have h1 : sizL (t :: r) = t.siz + sizL r := rfl
    have h2 := siz_eq t
    rw [List.map_cons, getElem_un, if_neg (by omega)]
    simp only [wlk_nil]
    split
    · exact un_self k _ r (by omega) (by omega)
    · rename_i hns
      have h3 : t.k ≠ 1 := fun h => hns (by simp [h])
      rw [if_neg h3, if_neg h3, if_pos (by simp), zip_self, ← List.map_append]
      exact un_self k _ (t.l ++ r) (by rw [sizL_append]; omega) (by rw [sizL_append]; omega)
/-- Whether two terms unify hangs on no order. -/
theorem un_turn {a b : Tm} {k k' n n' : Nat} (ha : a.vok) (hb : b.vok) {l : Bs} {m : Nat} (h : un k n [] [(a, b)] = .yes l m) : un k' n' [] [(b, a)] ≠ .no := by
  have hV0 : VokB [] := fun v t h => by cases h
  obtain ⟨i1, i2, _, i4⟩ := un_sound k n [] [(a, b)] l m acyc_nil hV0 (by simp [ha, hb]) h
  have hr := sgm_rsp i1 i2
  have he := (i4 _ hr).2 (a, b) (by simp)
  intro hno
  rcases un_most (σ := sgm l) k' n' [] [(b, a)] acyc_nil hV0 (by simp [ha, hb]) (fun v t h => by cases h) (by simp; exact he.symm) with h | ⟨_, _, h, _⟩
  · rw [hno] at h; cases h
  · rw [hno] at h; cases h
/-- What unifies behind a unification is unified by it. -/
theorem un_twice {a b : Tm} {k k' n n' : Nat} (ha : a.vok) (hb : b.vok) {l : Bs} {m : Nat} (h : un k n [] [(a, b)] = .yes l m) : un k' n' l [(a, b)] = .full ∨ ∃ m', un k' n' l [(a, b)] = .yes l m' := by
  have hV0 : VokB [] := fun v t h => by cases h
  obtain ⟨i1, i2, _, i4⟩ := un_sound k n [] [(a, b)] l m acyc_nil hV0 (by simp [ha, hb]) h
  exact un_again i1 i2 k' n' [(a, b)] (by simp [ha, hb]) (by simp; exact (i4 _ (sgm_rsp i1 i2)).2 (a, b) (by simp))
/-- How large, how many. -/
theorem un_bounds {N : Nat} : ∀ (k n : Nat) (l : Bs) (P : Ps) (l' : Bs) (n' : Nat), (∀ v t, ofB l v = some t → t.siz ≤ N) → (∀ x ∈ P, x.1.siz ≤ N ∧ x.2.siz ≤ N) → n ≤ 4096 → un k n l P = .yes l' n' →
    (∀ v t, ofB l' v = some t → t.siz ≤ N) ∧ l'.length + n ≤ l.length + n' ∧ n' ≤ 4096
  | 0, n, l, P, l', n', _, _, _, h => by simp [un] at h
  | k + 1, n, l, [], l', n', hz, _, hn, h => by
    injection h with h1 h2
    subst h1 h2
    exact ⟨hz, Nat.le_refl _, hn⟩
  | k + 1, n, l, x :: r, l', n', hz, hP, hn, h => by
    have hx := hP x (by simp)
    have hr0 : ∀ y ∈ r, y.1.siz ≤ N ∧ y.2.siz ≤ N := fun y hy => hP y (by simp [hy])
    have v1 : (wlk l x.1).siz ≤ N := wlk_siz hz _ hx.1
    have v2 : (wlk l x.2).siz ≤ N := wlk_siz hz _ hx.2
    rw [getElem_un] at h
    split at h
    · cases h
    · split at h
      · obtain ⟨i1, i2, i3⟩ := un_bounds k _ l r l' n' hz hr0 (by omega) h
        exact ⟨i1, by omega, i3⟩
      · split at h
        · cases hb : biU l (wlk l x.1).n (wlk l x.2) (n + 1) with
          | full => rw [hb] at h; cases h
          | no => rw [hb] at h; cases h
          | yes l2 n2 =>
            rw [hb] at h
            obtain ⟨b1, b2, b3⟩ := biU_yes hb
            obtain ⟨i1, i2, i3⟩ := un_bounds k _ l2 r l' n' (fun v t h => bound_siz b1 hz v2 v t h) hr0 b3 h
            have : l2.length = l.length + 1 := by rw [b1]; simp
            exact ⟨i1, by omega, i3⟩
        · split at h
          · cases hb : biU l (wlk l x.2).n (wlk l x.1) (n + 1) with
            | full => rw [hb] at h; cases h
            | no => rw [hb] at h; cases h
            | yes l2 n2 =>
              rw [hb] at h
              obtain ⟨b1, b2, b3⟩ := biU_yes hb
              obtain ⟨i1, i2, i3⟩ := un_bounds k _ l2 r l' n' (fun v t h => bound_siz b1 hz v1 v t h) hr0 b3 h
              have : l2.length = l.length + 1 := by rw [b1]; simp
              exact ⟨i1, by omega, i3⟩
          · split at h
            · obtain ⟨i1, i2, i3⟩ := un_bounds k _ l _ l' n' hz (fun y hy => by
                rcases List.mem_append.1 hy with hy | hy
                · have := List.of_mem_zip hy
                  exact ⟨siz_at v1 this.1, siz_at v2 this.2⟩
                · exact hr0 y hy) (by omega) h
              exact ⟨i1, by omega, i3⟩
            · cases h

theorem app_vok {l : Bs} (hV : VokB l) : ∀ (f : Nat) (t : Tm), t.vok → (app l f t).vok
  | 0, t, h => h
  | f + 1, t, h => by
    have hw := vok_def.1 (hV.wlk t h)
    rw [app_succ, vok_def]
    refine ⟨fun h1 => ?_, fun a ha => ?_⟩
    · obtain ⟨e1, e2, e3⟩ := hw.1 h1
      exact ⟨e1, by simp [e2], e3⟩
    · obtain ⟨b, hb, rfl⟩ := List.mem_map.1 ha
      exact app_vok hV f b (hw.2 b hb)
theorem Rsp.app {σ : Int → Tm} {l : Bs} (h : Rsp σ l) : ∀ (f : Nat) (t : Tm), Fn l f t → (app l f t).sb σ = t.sb σ
  | 0, t, hf => hf.elim
  | f + 1, t, hf => by
    rw [app_succ, ← h.wlk t]
    by_cases h1 : (Go.Proofs.Ytdflckjnpgbjlaa.wlk l t).k = 1
    · rw [sb_var h1, sb_var (show (Tm.mk _ _ _ _).k = 1 from h1)]
    · rw [sb_non h1, sb_non (show (Tm.mk _ _ _ _).k ≠ 1 from h1)]
      simp only [List.map_map]
      rw [List.map_congr_left (f := Tm.sb σ ∘ Go.Proofs.Ytdflckjnpgbjlaa.app l f) (g := Tm.sb σ) (fun a ha => h.app f a (hf a ha))]
/-- As a unification goes on: with fewer visits behind it it ends alike. -/
def Alike (d : Nat) : UO → UO → Prop
  | .no, .no => True
  | .yes l n, .yes l' n' => l = l' ∧ n' = n + d
  | _, _ => False
theorem biU_shift {l : Bs} {v : Int} {t : Tm} {n d : Nat} (h : biU l v t (n + d) ≠ .full) : Alike d (biU l v t n) (biU l v t (n + d)) := by
  unfold biU at h ⊢
  by_cases h1 : 4096 < n + d + ocv v (visA l t)
  · rw [if_pos h1] at h; exact absurd rfl h
  · rw [if_neg h1, if_neg (show ¬ 4096 < n + ocv v (visA l t) by omega)]
    split
    · trivial
    · split
      · exact ⟨rfl, by omega⟩
      · trivial
theorem un_shift (d : Nat) : ∀ (k' k n : Nat) (l : Bs) (P : Ps), k' ≤ k → un k' (n + d) l P ≠ .full → Alike d (un k n l P) (un k' (n + d) l P)
  | 0, k, n, l, P, _, h => absurd rfl h
  | k' + 1, 0, n, l, P, hk, _ => by omega
  | k' + 1, k + 1, n, l, [], _, _ => ⟨rfl, rfl⟩
  | k' + 1, k + 1, n, l, x :: r, hk, h => by
    rw [getElem_un] at h ⊢
    rw [getElem_un]
    by_cases h1 : 4096 < n + d + 1
    · rw [if_pos h1] at h; exact absurd rfl h
    · rw [if_neg h1] at h ⊢
      rw [if_neg (show ¬ 4096 < n + 1 by omega)]
      have e : n + d + 1 = n + 1 + d := by omega
      rw [e] at h ⊢
      split at h
      · rename_i h2
        rw [if_pos h2, if_pos h2]
        exact un_shift d k' k (n + 1) l r (by omega) h
      · rename_i h2
        rw [if_neg h2, if_neg h2]
        split at h
        · rename_i h3
          rw [if_pos h3, if_pos h3]
          have hb := fun hf => biU_shift (l := l) (v := (wlk l x.1).n) (t := wlk l x.2) (n := n + 1) (d := d) hf
          generalize biU l (wlk l x.1).n (wlk l x.2) (n + 1 + d) = o2 at hb h ⊢
          generalize biU l (wlk l x.1).n (wlk l x.2) (n + 1) = o1 at hb ⊢
          cases o2 with
          | full => exact absurd rfl h
          | no =>
            have := hb (by simp)
            cases o1 with
            | full => exact this.elim
            | no => trivial
            | yes => exact this.elim
          | yes l2 n2 =>
            have := hb (by simp)
            cases o1 with
            | full => exact this.elim
            | no => exact this.elim
            | yes l3 n3 =>
              obtain ⟨rfl, rfl⟩ := this
              exact un_shift d k' k n3 l3 r (by omega) h
        · rename_i h3
          rw [if_neg h3, if_neg h3]
          split at h
          · rename_i h4
            rw [if_pos h4, if_pos h4]
            have hb := fun hf => biU_shift (l := l) (v := (wlk l x.2).n) (t := wlk l x.1) (n := n + 1) (d := d) hf
            generalize biU l (wlk l x.2).n (wlk l x.1) (n + 1 + d) = o2 at hb h ⊢
            generalize biU l (wlk l x.2).n (wlk l x.1) (n + 1) = o1 at hb ⊢
            cases o2 with
            | full => exact absurd rfl h
            | no =>
              have := hb (by simp)
              cases o1 with
              | full => exact this.elim
              | no => trivial
              | yes => exact this.elim
            | yes l2 n2 =>
              have := hb (by simp)
              cases o1 with
              | full => exact this.elim
              | no => exact this.elim
              | yes l3 n3 =>
                obtain ⟨rfl, rfl⟩ := this
                exact un_shift d k' k n3 l3 r (by omega) h
          · rename_i h4
            rw [if_neg h4, if_neg h4]
            split at h
            · rename_i h5
              rw [if_pos h5, if_pos h5]
              exact un_shift d k' k (n + 1) l _ (by omega) h
            · rename_i h5
              rw [if_neg h5, if_neg h5]
              trivial

/-- A term does not unify with the structure whose one argument it is. -/
theorem un_in (s : ByteArray) : ∀ (N k n : Nat) (t : Tm), t.siz ≤ N → t.vok → N < k → n + N + 2 ≤ 4096 → un k n [] [(t, ⟨4, s, 0, [t]⟩)] = .no
  | 0, k, n, t, hz, _, _, _ => by have := siz_eq t; omega
  | N + 1, 0, n, t, _, _, hk, _ => by omega
  | N + 1, k + 1, n, t, hz, ht, hk, hn => by
    by_cases h1 : t.k = 1
    · have he := vok_var ht h1
      have hf : Fn [] 2 ⟨4, s, 0, [t]⟩ := by
        intro a ha
        have ha : a ∈ [t] := ha
        rw [List.mem_singleton.1 ha, he]
        intro b hb
        have hb : b ∈ ([] : List Tm) := hb
        cases hb
      have hv : visA [] ⟨4, s, 0, [t]⟩ = [⟨4, s, 0, [t]⟩, t] := by
        rw [visA_vis acyc_nil hf, he]
        rfl
      have hi : isv t.n t = true := by simp [isv, h1]
      have hb : biU [] t.n ⟨4, s, 0, [t]⟩ (n + 1) = .no := by
        unfold biU
        rw [hv]
        have h2 : ocv t.n [⟨4, s, 0, [t]⟩, t] ≤ 2 := by
          have := ocv_le t.n [⟨4, s, 0, [t]⟩, t]
          simpa using this
        rw [if_neg (by omega), if_pos (by simp [hi])]
      exact un_leftno (y1 := t) (y2 := ⟨4, s, 0, [t]⟩) rfl rfl (by omega) h1 (fun h => by have := h.1; simp at this) hb
    · by_cases hm : t.k = 4 ∧ t.s = s ∧ t.n = 0 ∧ t.l.length = 1
      · rw [un_apart (y1 := t) (y2 := ⟨4, s, 0, [t]⟩) rfl rfl (by omega) h1 (by simp) ⟨hm.1, hm.2.1, hm.2.2.1, by simpa using hm.2.2.2⟩]
        obtain ⟨q, qs, qn, ql⟩ := t
        simp only at hm
        obtain ⟨e1, e2, e3, e4⟩ := hm
        subst e1 e2 e3
        match ql, e4 with
        | [u], _ =>
          show un k (n + 1) [] [(u, ⟨4, qs, 0, [u]⟩)] = .no
          have hs : (Tm.mk 4 qs 0 [u]).siz = u.siz + 1 := by simp [Tm.siz, sizL]
          exact un_in qs N k (n + 1) u (by omega) ((vok_def.1 ht).2 u (by simp)) (by omega) (by omega)
      · exact un_clash (y1 := t) (y2 := ⟨4, s, 0, [t]⟩) rfl rfl (by omega) h1 (by simp) (fun h => hm ⟨h.1, h.2.1, h.2.2.1, by simpa using h.2.2.2⟩)
mutual
/-- Its variables moved. -/
def Tm.mv (d : Int) : Tm → Tm
  | ⟨k, s, n, l⟩ => ⟨k, s, if k = 1 then n + d else n, mvL d l⟩
def mvL (d : Int) : List Tm → List Tm
  | [] => []
  | t :: ts => t.mv d :: mvL d ts
end
theorem mvL_map (d : Int) : ∀ l : List Tm, mvL d l = l.map (Tm.mv d)
  | [] => rfl
  | t :: ts => by simp [mvL, mvL_map d ts]
/-- Each variable bound to its like. -/
def lk (d : Int) (D : List Int) : Bs := D.map fun x => (x, kV (x + d))
theorem lk_of (d : Int) : ∀ (D : List Int) (n : Int), ofB (lk d D) n = if n ∈ D then some (kV (n + d)) else none
  | [], n => rfl
  | x :: D, n => by
    show (if x = n then some (kV (x + d)) else ofB (lk d D) n) = _
    rw [lk_of d D n]
    by_cases h : x = n
    · subst h; simp
    · have : n ≠ x := fun e => h e.symm
      simp [h, this]
theorem lk_acyc (d : Int) (D : List Int) (hd : 100 ≤ d) (hD : ∀ x ∈ D, 0 ≤ x ∧ x < 100) : Acyc (lk d D) := by
  refine ⟨fun n => if n < 100 then 1 else 0, fun v t h n hn => ?_⟩
  rw [lk_of] at h
  split at h
  · rename_i hv
    injection h with h
    subst h
    have h0 : ofB (lk d D) (v + d) = none := by
      rw [lk_of, if_neg (fun hm => by have := hD _ hm; have := hD _ hv; omega)]
    have : n = v + d := by
      simp [kV, Tm.eo, eoL, h0] at hn
      exact hn
    have h1 := hD _ hv
    subst this
    show (if v + d < 100 then 1 else 0) < (if v < 100 then 1 else 0)
    rw [if_neg (by omega), if_pos (by omega)]
    omega
  · cases h
theorem lk_wlk (d : Int) (D : List Int) (hd : 100 ≤ d) (hD : ∀ x ∈ D, 0 ≤ x ∧ x < 100) {x : Int} (hx : 0 ≤ x ∧ x < 100) : wlk (lk d D) (kV x) = (if x ∈ D then kV (x + d) else kV x) ∧ wlk (lk d D) (kV (x + d)) = kV (x + d) := by
  have hA := lk_acyc d D hd hD
  have h2 : wlk (lk d D) (kV (x + d)) = kV (x + d) := wlk_stop (by
    simp only [nxt, kV, if_true]
    rw [lk_of, if_neg (fun hm => by have := hD _ hm; omega)])
  refine ⟨?_, h2⟩
  by_cases hm : x ∈ D
  · rw [if_pos hm, hA.step (u := kV (x + d)) (by simp only [nxt, kV, if_true]; rw [lk_of, if_pos hm]; rfl), h2]
  · rw [if_neg hm]
    exact wlk_stop (by simp only [nxt, kV, if_true]; rw [lk_of, if_neg hm])
theorem lk_snoc (d : Int) (D : List Int) (x : Int) : lk d (D ++ [x]) = lk d D ++ [(x, kV (x + d))] := by simp [lk]
theorem un_same {k n : Nat} {l : Bs} {x : Tm × Tm} {r : Ps} {y1 y2 : Tm} (h1 : wlk l x.1 = y1) (h2 : wlk l x.2 = y2) (hn : n + 1 ≤ 4096) (k1 : y1.k = 1) (k2 : y2.k = 1) (h : y1.n = y2.n) : un (k + 1) n l (x :: r) = un k (n + 1) l r := by
  subst h1 h2
  rw [un, if_neg (by omega), if_pos ⟨k1, k2, h⟩]
theorem mv_def (d : Int) (t : Tm) : t.mv d = ⟨t.k, t.s, if t.k = 1 then t.n + d else t.n, t.l.map (Tm.mv d)⟩ := by cases t; simp [Tm.mv, mvL_map]
theorem occ_non {t : Tm} (h : t.k ≠ 1) : t.occ = occL t.l := by cases t; simp only at h; simp [Tm.occ, h]
theorem zip_mv (d : Int) : ∀ (l : List Tm), l.zip (l.map (Tm.mv d)) = l.map (fun t => (t, t.mv d))
  | [] => rfl
  | t :: l => by simp [zip_mv d l]
/-- A term and its like: they unify, each variable is bound to its like. -/
theorem un_like (d : Int) (hd : 100 ≤ d) : ∀ (k n : Nat) (D : List Int) (L : List Tm), (∀ x ∈ D, 0 ≤ x ∧ x < 100) → vokL L → (∀ x ∈ occL L, x < 100) → sizL L < k → n + 2 * sizL L ≤ 4096 →
    ∃ n', un k n (lk d D) (L.map (fun t => (t, t.mv d))) = .yes (lk d ((occL L).foldl addNew D)) n'
  | 0, _, _, _, _, _, _, h, _ => by omega
  | k + 1, n, D, [], _, _, _, _, _ => ⟨n, rfl⟩
  | k + 1, n, D, t :: r, hD, hv, ho, hk, hn => by
    have e1 : sizL (t :: r) = t.siz + sizL r := rfl
    have e2 := siz_eq t
    have hvt := vokL_iff.1 hv t (by simp)
    have hvr : vokL r := hv.2
    have eo : occL (t :: r) = t.occ ++ occL r := rfl
    rw [List.map_cons]
    by_cases h1 : t.k = 1
    · have he := vok_var hvt h1
      have h0 : 0 ≤ t.n := ((vok_def.1 hvt).1 h1).2.2
      have oc : t.occ = [t.n] := by rw [he]; simp [kV, Tm.occ, occL]
      have h100 : t.n < 100 := ho _ (by rw [eo, oc]; simp)
      have hmv : t.mv d = kV (t.n + d) := by rw [he]; simp [kV, Tm.mv, mvL]
      have hw := lk_wlk d D hd hD ⟨h0, h100⟩
      have hor : ∀ x ∈ occL r, x < 100 := fun x hx => ho x (by rw [eo]; simp [hx])
      rw [eo, oc, List.singleton_append, List.foldl_cons]
      by_cases hm : t.n ∈ D
      · obtain ⟨n', h'⟩ := un_like d hd k (n + 1) D r hD hvr hor (by omega) (by omega)
        refine ⟨n', ?_⟩
        rw [un_same (y1 := kV (t.n + d)) (y2 := kV (t.n + d)) (by show wlk _ t = _; rw [he, hw.1, if_pos (by exact hm)]; rfl) (by show wlk _ (t.mv d) = _; rw [hmv, hw.2]) (by omega) rfl rfl rfl, h']
        congr 3
        simp [addNew, hm]
      · have hD2 : ∀ x ∈ D ++ [t.n], 0 ≤ x ∧ x < 100 := fun x hx => by
          rcases List.mem_append.1 hx with hx | hx
          · exact hD x hx
          · rw [List.mem_singleton.1 hx]; exact ⟨h0, h100⟩
        obtain ⟨n', h'⟩ := un_like d hd k (n + 2) (D ++ [t.n]) r hD2 hvr hor (by omega) (by omega)
        refine ⟨n', ?_⟩
        have hf : Fn (lk d D) 1 (kV (t.n + d)) := by
          intro a ha
          rw [hw.2] at ha
          have ha : a ∈ ([] : List Tm) := ha
          cases ha
        have hvis : visA (lk d D) (kV (t.n + d)) = [kV (t.n + d)] := by
          rw [visA_vis (lk_acyc d D hd hD) hf]
          show wlk _ _ :: _ = _
          rw [hw.2]
          rfl
        have hany : [kV (t.n + d)].any (isv t.n) = false := by simp [isv, kV]; omega
        have hb : biU (lk d D) t.n (kV (t.n + d)) (n + 1) = .yes (lk d (D ++ [t.n])) (n + 2) := by
          unfold biU
          rw [hvis, ocv_noneV hany, if_neg (by simp; omega), if_neg (by rw [hany]; simp), if_pos (bindE_is (by rw [lk_of, if_neg hm]) h0 (by simp) hany), lk_snoc]
          rfl
        rw [un_left (y1 := kV t.n) (y2 := kV (t.n + d)) (by show wlk _ t = _; rw [he, hw.1, if_neg (by exact hm)]; rfl) (by show wlk _ (t.mv d) = _; rw [hmv, hw.2]) (by omega) rfl (by simp [kV]; omega) hb, h']
        congr 3
        simp [addNew, hm]
    · have hw1 : wlk (lk d D) t = t := wlk_stop (by simp [nxt, h1])
      have hw2 : wlk (lk d D) (t.mv d) = t.mv d := wlk_stop (by rw [mv_def]; simp [nxt, h1])
      have hL : occL (t :: r) = occL (t.l ++ r) := by rw [eo, occ_non h1, occL_append]
      obtain ⟨n', h'⟩ := un_like d hd k (n + 1) D (t.l ++ r) hD (vokL_iff.2 (fun a ha => by
        rcases List.mem_append.1 ha with ha | ha
        · exact (vok_def.1 hvt).2 a ha
        · exact vokL_iff.1 hvr a ha)) (fun x hx => ho x (by rw [hL]; exact hx)) (by rw [sizL_append]; omega) (by rw [sizL_append]; omega)
      refine ⟨n', ?_⟩
      rw [un_apart (y1 := t) (y2 := t.mv d) hw1 hw2 (by omega) h1 (by rw [mv_def]; exact h1) (by rw [mv_def]; simp [h1])]
      rw [show (t.mv d).l = t.l.map (Tm.mv d) by rw [mv_def], zip_mv, ← List.map_append, h', hL]

open Go.RowKit

mutual
theorem occ_bd : ∀ (t : Tm), t.Wf → ∀ n ∈ t.occ, -9223372036854775808 ≤ n ∧ n ≤ 9223372036854775807
  | ⟨k, s, q, l⟩, h, n, hn => by
    simp only [Tm.Wf] at h
    simp only [Tm.occ, List.mem_append] at hn
    rcases hn with hn | hn
    · split at hn
      · rw [List.mem_singleton] at hn; subst hn; exact h.2.1
      · cases hn
    · exact occL_bd l h.2.2.2 n hn
theorem occL_bd : ∀ (l : List Tm), WfL l → ∀ n ∈ occL l, -9223372036854775808 ≤ n ∧ n ≤ 9223372036854775807
  | [], _, n, hn => by simp [occL] at hn
  | t :: ts, h, n, hn => by
    simp only [WfL] at h
    simp only [occL, List.mem_append] at hn
    exact hn.elim (occ_bd t h.1 n) (occL_bd ts h.2 n)
end
theorem kV_wf {q : Int} (hq : -9223372036854775808 ≤ q ∧ q ≤ 9223372036854775807) : (kV q).Wf := by
  simp [kV, Tm.Wf, WfL, ByteArray.size]; omega
theorem Same_refl (t : Tm) (v v' : Value) (w : World) (ok ok' : Nat → Prop) (hv : TmV w ok t v) (hv' : TmV w ok' t v') :
    Calls Try.prog 26 #[v, v'] w fun e w' => e = .returned (.bool true) ∧ Below w.heap.size w w' := by
  have := Same_c t t w ok ok' v v' hv hv'
  rwa [(Tm.eqb_iff t t).2 rfl] at this
end Go.Proofs.Ytdflckjnpgbjlaa

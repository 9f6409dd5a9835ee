import Derived.Test.YtgcbanljifalnaaDoorPo03
import Derived.Test.YtgcbanljifalnaaDoorProg
import Derived.Maps.OwnSet
import Derived.Maps.OwnOps
set_option linter.unusedVariables false
set_option maxRecDepth 20000
set_option linter.unusedSimpArgs false
/- Plain laws of layer 14 (builtin): how two terms stand, as far as that is known. No condition. -/
namespace Go.Proofs.YtgcbanljifalnaaDoor

theorem orI_assoc (a b c : Int) : orI (orI a b) c = orI a (orI b c) := by unfold orI; split <;> simp_all
/-- The heads of two terms. -/
def hdT (a b : Tm) : Int := fstI [cmpI a.k b.k, cmpI a.n b.n, cmpI a.l.length b.l.length, cmpS a.s b.s]
theorem hdT_zero {a b : Tm} : hdT a b = 0 ↔ a.k = b.k ∧ a.n = b.n ∧ a.l.length = b.l.length ∧ a.s = b.s := by
  have key : ∀ x y : Int, orI x y = 0 ↔ x = 0 ∧ y = 0 := fun x y => by unfold orI; split <;> simp_all
  have h1 := (cmpI_cmp a.k b.k).zero
  have h2 := (cmpI_cmp a.n b.n).zero
  have h3 := (cmpI_cmp a.l.length b.l.length).zero
  have h4 := (cmpS_cmp a.s b.s).zero
  simp only [hdT, fstI, key, h1, h2, h3, h4, and_true]
  constructor <;> (rintro ⟨a1, a2, a3, a4⟩; exact ⟨a1, a2, by omega, a4⟩)
theorem cmpT_hd (a b : Tm) : cmpT a b = orI (hdT a b) (cmpL a.l b.l) := by
  cases a; cases b
  simp only [cmpT, hdT, fstI, orI_assoc, zero_orI]
mutual
/-- How two terms stand, and whether that is known. -/
def ordT : Tm → Tm → Int × Bool
  | ⟨k, s, n, l⟩, ⟨k', s', n', l'⟩ =>
    if k = 1 ∧ k' = 1 then (0, decide (n = n'))
    else if hdT ⟨k, s, n, l⟩ ⟨k', s', n', l'⟩ ≠ 0 then (hdT ⟨k, s, n, l⟩ ⟨k', s', n', l'⟩, true)
    else ordL l l'
def ordL : List Tm → List Tm → Int × Bool
  | t :: ts, u :: us => if ordT t u = (0, true) then ordL ts us else ordT t u
  | _, _ => (0, true)
end
theorem ordT_eq (a b : Tm) : ordT a b = if a.k = 1 ∧ b.k = 1 then (0, decide (a.n = b.n)) else if hdT a b ≠ 0 then (hdT a b, true) else ordL a.l b.l := by
  cases a; cases b; simp only [ordT]
mutual
/-- Likewise, by definition. -/
def rordT : Tm → Tm → Int × Bool
  | ⟨k, s, n, l⟩, ⟨k', s', n', l'⟩ =>
    if k = 1 ∧ k' = 1 then (0, decide (n = n'))
    else if k ≠ k' ∨ k ≠ 4 ∨ s ≠ s' ∨ l.length ≠ l'.length then (refT ⟨k, s, n, l⟩ ⟨k', s', n', l'⟩, true)
    else rordL l l'
def rordL : List Tm → List Tm → Int × Bool
  | t :: ts, u :: us => if rordT t u = (0, true) then rordL ts us else rordT t u
  | _, _ => (0, true)
end
theorem rordT_eq (a b : Tm) : rordT a b = if a.k = 1 ∧ b.k = 1 then (0, decide (a.n = b.n)) else if a.k ≠ b.k ∨ a.k ≠ 4 ∨ a.s ≠ b.s ∨ a.l.length ≠ b.l.length then (refT a b, true) else rordL a.l b.l := by
  cases a; cases b; simp only [rordT]
theorem ordL_at : ∀ {l m : List Tm} {j : Nat} (hj : j < l.length) (hj' : j < m.length), (∀ i, ∀ (h : i < j), ordT (l[i]'(by omega)) (m[i]'(by omega)) = (0, true)) → ordT l[j] m[j] ≠ (0, true) → ordL l m = ordT l[j] m[j]
  | t :: ts, u :: us, 0, _, _, _, h => by simp only [List.getElem_cons_zero] at h ⊢; rw [ordL, if_neg h]
  | t :: ts, u :: us, j + 1, hj, hj', h0, h => by
    simp only [List.getElem_cons_succ] at h ⊢
    have h1 := h0 0 (by omega)
    simp only [List.getElem_cons_zero] at h1
    rw [ordL, if_pos h1]
    exact ordL_at (by simpa using hj) (by simpa using hj') (fun i hi => by have := h0 (i + 1) (by omega); simpa using this) h
theorem ordL_end : ∀ {l m : List Tm}, l.length = m.length → (∀ i, ∀ (h : i < l.length) (h' : i < m.length), ordT l[i] m[i] = (0, true)) → ordL l m = (0, true)
  | [], [], _, _ => rfl
  | [], _ :: _, h, _ => by simp at h
  | _ :: _, [], h, _ => by simp at h
  | t :: ts, u :: us, h, h0 => by
    have h1 := h0 0 (by simp) (by simp)
    simp only [List.getElem_cons_zero] at h1
    rw [ordL, if_pos h1]
    exact ordL_end (by simpa using h) (fun i hi hi' => by have := h0 (i + 1) (by simpa using hi) (by simpa using hi'); simpa using this)
theorem rordL_at : ∀ {l m : List Tm} {j : Nat} (hj : j < l.length) (hj' : j < m.length), (∀ i, ∀ (h : i < j), rordT (l[i]'(by omega)) (m[i]'(by omega)) = (0, true)) → rordT l[j] m[j] ≠ (0, true) → rordL l m = rordT l[j] m[j]
  | t :: ts, u :: us, 0, _, _, _, h => by simp only [List.getElem_cons_zero] at h ⊢; rw [rordL, if_neg h]
  | t :: ts, u :: us, j + 1, hj, hj', h0, h => by
    simp only [List.getElem_cons_succ] at h ⊢
    have h1 := h0 0 (by omega)
    simp only [List.getElem_cons_zero] at h1
    rw [rordL, if_pos h1]
    exact rordL_at (by simpa using hj) (by simpa using hj') (fun i hi => by have := h0 (i + 1) (by omega); simpa using this) h
theorem rordL_end : ∀ {l m : List Tm}, l.length = m.length → (∀ i, ∀ (h : i < l.length) (h' : i < m.length), rordT l[i] m[i] = (0, true)) → rordL l m = (0, true)
  | [], [], _, _ => rfl
  | [], _ :: _, h, _ => by simp at h
  | _ :: _, [], h, _ => by simp at h
  | t :: ts, u :: us, h, h0 => by
    have h1 := h0 0 (by simp) (by simp)
    simp only [List.getElem_cons_zero] at h1
    rw [rordL, if_pos h1]
    exact rordL_end (by simpa using h) (fun i hi hi' => by have := h0 (i + 1) (by simpa using hi) (by simpa using hi'); simpa using this)
/-- The shape of a good term, by its kind. -/
theorem shp_kinds {t : Tm} (h : t.shp = true) : (t.k = 1 ∧ t.s = ⟨#[]⟩ ∧ t.l = []) ∨ (t.k = 2 ∧ t.s = ⟨#[]⟩ ∧ t.l = []) ∨ (t.k = 3 ∧ t.n = 0 ∧ t.l = []) ∨ (t.k = 4 ∧ t.n = 0 ∧ shpL t.l = true) := by
  obtain ⟨k, s, n, l⟩ := t
  by_cases k1 : k = 1
  · subst k1
    simp only [Tm.shp, if_pos, Bool.and_eq_true, decide_eq_true_eq] at h
    exact .inl ⟨rfl, size_zero h.1.2, h.2⟩
  by_cases k2 : k = 2
  · subst k2
    simp only [Tm.shp, if_pos, if_neg k1, Bool.and_eq_true, decide_eq_true_eq] at h
    exact .inr (.inl ⟨rfl, size_zero h.1, h.2⟩)
  by_cases k3 : k = 3
  · subst k3
    simp only [Tm.shp, if_pos, if_neg k1, if_neg k2, Bool.and_eq_true, decide_eq_true_eq] at h
    exact .inr (.inr (.inl ⟨rfl, h.1.1, h.1.2⟩))
  · simp only [Tm.shp, if_neg k1, if_neg k2, if_neg k3, Bool.and_eq_true, decide_eq_true_eq] at h
    exact .inr (.inr (.inr ⟨h.1.1.1.1, h.1.1.1.2, h.2⟩))
theorem shpL_mem : ∀ {l : List Tm}, shpL l = true → ∀ t ∈ l, t.shp = true
  | [], _, t, ht => by cases ht
  | u :: us, h, t, ht => by
    simp only [shpL, Bool.and_eq_true] at h
    rcases List.mem_cons.1 ht with e | e
    · rw [e]; exact h.1
    · exact shpL_mem h.2 t e
theorem ordL_ref : ∀ (l m : List Tm), (∀ t ∈ l, ∀ u ∈ m, ordT t u = rordT t u) → ordL l m = rordL l m
  | [], [], _ => rfl
  | [], _ :: _, _ => rfl
  | _ :: _, [], _ => rfl
  | t :: ts, u :: us, h => by
    rw [ordL, rordL, h t (by simp) u (by simp), ordL_ref ts us (fun x hx y hy => h x (List.mem_cons_of_mem _ hx) y (List.mem_cons_of_mem _ hy))]
/-- Both are one, of good terms. -/
theorem ord_ref (a : Tm) : ∀ b : Tm, a.shp = true → b.shp = true → ordT a b = rordT a b := by
  refine Tm.ind (p := fun a => ∀ b : Tm, a.shp = true → b.shp = true → ordT a b = rordT a b) ?_ a
  intro a ih b ha hb
  rw [ordT_eq, rordT_eq]
  by_cases hv : a.k = 1 ∧ b.k = 1
  · rw [if_pos hv, if_pos hv]
  rw [if_neg hv, if_neg hv]
  have hcr := ref_cmp a b ha hb
  have hch := cmpT_hd a b
  by_cases hz : hdT a b = 0
  · obtain ⟨e1, e2, e3, e4⟩ := hdT_zero.1 hz
    rw [if_neg (by simpa using hz)]
    by_cases k4 : a.k = 4
    · rw [if_neg (by simp [e1, e3, e4]; omega)]
      rcases shp_kinds ha with h | h | h | h
      · omega
      · omega
      · omega
      · rcases shp_kinds hb with h' | h' | h' | h'
        · omega
        · omega
        · omega
        · exact ordL_ref a.l b.l (fun t ht u hu => ih t ht u (shpL_mem h.2.2 t ht) (shpL_mem h'.2.2 u hu))
    · rw [if_pos (.inr (.inl k4)), hcr, hch, hz]
      have hl : a.l = [] := by
        rcases shp_kinds ha with h | h | h | h
        · exact h.2.2
        · exact h.2.2
        · exact h.2.2
        · omega
      have hl' : b.l = [] := List.eq_nil_of_length_eq_zero (by rw [← e3, hl]; rfl)
      rw [hl, hl']
      simp [ordL, cmpL, orI]
  · rw [if_pos hz]
    have hC : a.k ≠ b.k ∨ a.k ≠ 4 ∨ a.s ≠ b.s ∨ a.l.length ≠ b.l.length := by
      by_cases e1 : a.k = b.k
      · by_cases k4 : a.k = 4
        · by_cases e4 : a.s = b.s
          · refine .inr (.inr (.inr (fun e3 => hz (hdT_zero.2 ⟨e1, ?_, e3, e4⟩))))
            rcases shp_kinds ha with h | h | h | h <;> rcases shp_kinds hb with h' | h' | h' | h' <;> omega
          · exact .inr (.inr (.inl e4))
        · exact .inr (.inl k4)
      · exact .inl e1
    rw [if_pos hC, hcr, hch, orI_ne _ hz]
end Go.Proofs.YtgcbanljifalnaaDoor
/- Substitutions in plain words: bindings in a list, walked terms, what is visited, what is applied. No condition. -/
namespace Go.Proofs.YtgcbanljifalnaaDoor

abbrev Bs := List (Int × Tm)
/-- What a variable is bound to. -/
def ofB : Bs → Int → Option Tm
  | [], _ => none
  | (v, t) :: l, n => if v = n then some t else ofB l n
theorem ofB_append : ∀ (l m : Bs) (n : Int), ofB (l ++ m) n = match ofB l n with | some t => some t | none => ofB m n
  | [], m, n => rfl
  | (v, t) :: l, m, n => by
    simp only [List.cons_append, ofB]
    split
    · rfl
    · exact ofB_append l m n
theorem ofB_one (v n : Int) (t : Tm) : ofB [(v, t)] n = if v = n then some t else none := by simp [ofB]
theorem ofB_key : ∀ {l : Bs} {n : Int} {t : Tm}, ofB l n = some t → n ∈ l.map Prod.fst
  | (v, u) :: l, n, t, h => by
    simp only [ofB] at h
    split at h
    · rename_i e; simp [e]
    · have := ofB_key h
      simp only [List.map_cons, List.mem_cons]
      exact .inr this
/-- One step of a walk. -/
def nxt (l : Bs) (t : Tm) : Option Tm := if t.k = 1 then ofB l t.n else none
def wlkN (l : Bs) : Nat → Tm → Tm
  | 0, t => t
  | m + 1, t => match nxt l t with | none => t | some u => wlkN l m u
/-- A walked term. -/
def wlk (l : Bs) (t : Tm) : Tm := wlkN l l.length t
theorem wlkN_end {l : Bs} {t : Tm} (h : nxt l t = none) : ∀ m, wlkN l m t = t
  | 0 => rfl
  | m + 1 => by simp only [wlkN, h]
theorem wlkN_snoc {l : Bs} {u : Tm} : ∀ (m : Nat) (t : Tm), nxt l (wlkN l m t) = some u → wlkN l (m + 1) t = u
  | 0, t, h => by
    have h : nxt l t = some u := h
    simp only [wlkN, h]
  | m + 1, t, h => by
    simp only [wlkN] at h ⊢
    cases hn : nxt l t with
    | none => rw [hn] at h; simp only at h; rw [hn] at h; cases h
    | some t' =>
      rw [hn] at h
      simp only at h ⊢
      exact wlkN_snoc m t' h
theorem wlkN_done {l : Bs} : ∀ (m : Nat) (t : Tm), nxt l (wlkN l m t) = none → ∀ k, m ≤ k → wlkN l k t = wlkN l m t
  | 0, t, h, k, _ => wlkN_end h k
  | m + 1, t, h, 0, hk => by omega
  | m + 1, t, h, k + 1, hk => by
    simp only [wlkN] at h ⊢
    cases hn : nxt l t with
    | none => rfl
    | some u =>
      rw [hn] at h
      simp only at h ⊢
      exact wlkN_done m u h k (by omega)
mutual
/-- The variables that are met: a bound one's arguments are not. -/
def Tm.eo (l : Bs) : Tm → List Int
  | ⟨k, s, n, asL⟩ => if k = 1 then (if (ofB l n).isSome then [n] else n :: eoL l asL) else eoL l asL
def eoL (l : Bs) : List Tm → List Int
  | [] => []
  | t :: ts => t.eo l ++ eoL l ts
end
theorem eoL_mem {l : Bs} {n : Int} : ∀ {ts : List Tm}, n ∈ eoL l ts ↔ ∃ t ∈ ts, n ∈ t.eo l
  | [] => by simp [eoL]
  | t :: ts => by simp [eoL, eoL_mem (ts := ts)]
theorem eo_def (l : Bs) (t : Tm) : t.eo l = if t.k = 1 then (if (ofB l t.n).isSome then [t.n] else t.n :: eoL l t.l) else eoL l t.l := by
  cases t; rfl
theorem eo_self {l : Bs} {t : Tm} (h : t.k = 1) : t.n ∈ t.eo l := by
  rw [eo_def, if_pos h]
  split <;> simp
/-- No circle: a rank that falls from each variable to those that it is bound to. -/
def Acyc (l : Bs) : Prop := ∃ r : Int → Nat, ∀ v t, ofB l v = some t → ∀ n ∈ t.eo l, r n < r v
theorem acyc_nil : Acyc [] := ⟨fun _ => 0, fun v t h => by simp [ofB] at h⟩
theorem nodup_le : ∀ (xs ys : List Int), xs.Nodup → (∀ x ∈ xs, x ∈ ys) → xs.length ≤ ys.length
  | [], ys, _, _ => Nat.zero_le _
  | x :: xs, ys, hn, hs => by
    have hn' := List.nodup_cons.1 hn
    have hx := hs x (by simp)
    have := nodup_le xs (ys.erase x) hn'.2 (fun y hy => (List.mem_erase_of_ne (fun e => hn'.1 (by rw [← e]; exact hy))).2 (hs y (by simp [hy])))
    rw [List.length_erase_of_mem hx] at this
    have := List.length_pos_of_mem hx
    simp only [List.length_cons]
    omega
theorem chain {l : Bs} {r : Int → Nat} (hr : ∀ v t, ofB l v = some t → ∀ n ∈ t.eo l, r n < r v) : ∀ (m : Nat) (t : Tm) (seen : List Int), seen.Nodup → (∀ s ∈ seen, s ∈ l.map Prod.fst) → (t.k = 1 → ∀ s ∈ seen, r t.n < r s) → l.length ≤ seen.length + m → nxt l (wlkN l m t) = none
  | m, t, seen, hn, hk, ht, hl => by
    cases hx : nxt l t with
    | none => rw [wlkN_end hx]; exact hx
    | some u =>
      unfold nxt at hx
      split at hx
      · rename_i h1
        have hn2 : (t.n :: seen).Nodup := List.nodup_cons.2 ⟨fun h => by have := ht h1 _ h; omega, hn⟩
        have hk2 : ∀ s ∈ t.n :: seen, s ∈ l.map Prod.fst := fun s hs => by
          rcases List.mem_cons.1 hs with rfl | hs
          · exact ofB_key hx
          · exact hk s hs
        cases m with
        | zero =>
          have := nodup_le _ _ hn2 hk2
          simp at this; omega
        | succ m =>
          simp only [wlkN, nxt, if_pos h1, hx]
          refine chain hr m u (t.n :: seen) hn2 hk2 (fun hu s hs => ?_) (by simp; omega)
          have hlt := hr _ _ hx u.n (eo_self hu)
          rcases List.mem_cons.1 hs with rfl | hs
          · exact hlt
          · exact Nat.lt_trans hlt (ht h1 s hs)
      · cases hx
theorem Acyc.ended {l : Bs} (h : Acyc l) (t : Tm) : nxt l (wlk l t) = none := by
  obtain ⟨r, hr⟩ := h
  exact chain hr l.length t [] List.nodup_nil (by simp) (by simp) (by simp)
theorem Acyc.ge {l : Bs} (h : Acyc l) (t : Tm) {m : Nat} (hm : l.length ≤ m) : wlkN l m t = wlk l t := wlkN_done _ _ (h.ended t) m hm
theorem Acyc.step {l : Bs} (h : Acyc l) {t u : Tm} (hn : nxt l t = some u) : wlk l t = wlk l u := by
  have h1 := h.ge t (m := l.length + 1) (by omega)
  simp only [wlkN, hn] at h1
  exact h1.symm
theorem wlk_stop {l : Bs} {t : Tm} (hn : nxt l t = none) : wlk l t = t := wlkN_end hn _
/-- Where a walk of the program stands behind m steps, it is not at its end just if there are steps left. -/
theorem Acyc.room {l : Bs} (h : Acyc l) {t u : Tm} {m : Nat} (hn : nxt l (wlkN l m t) = some u) : m < l.length := by
  rcases Nat.lt_or_ge m l.length with hm | hm
  · exact hm
  · rw [h.ge t hm, h.ended t] at hn; cases hn
theorem stop_wlk {l : Bs} (h : Acyc l) {t : Tm} {m : Nat} (hn : nxt l (wlkN l m t) = none) : wlkN l m t = wlk l t := by
  rcases Nat.le_total m l.length with hm | hm
  · exact (wlkN_done _ _ hn _ hm).symm
  · exact h.ge t hm

/-! ### What is visited, what is applied: by fuel that is enough -/
def Fn (l : Bs) : Nat → Tm → Prop
  | 0, _ => False
  | f + 1, t => ∀ a ∈ (wlk l t).l, Fn l f a
def app (l : Bs) : Nat → Tm → Tm
  | 0, t => t
  | f + 1, t => ⟨(wlk l t).k, (wlk l t).s, (wlk l t).n, (wlk l t).l.map (app l f)⟩
def vis (l : Bs) : Nat → Tm → List Tm
  | 0, _ => []
  | f + 1, t => wlk l t :: (wlk l t).l.flatMap (vis l f)
theorem flatMap_congr' {α β : Type} {f g : α → List β} : ∀ {l : List α}, (∀ x ∈ l, f x = g x) → l.flatMap f = l.flatMap g
  | [], _ => rfl
  | x :: l, h => by rw [List.flatMap_cons, List.flatMap_cons, h x (by simp), flatMap_congr' (fun y hy => h y (by simp [hy]))]
theorem Fn.succ {l : Bs} : ∀ {f : Nat} {t : Tm}, Fn l f t → Fn l (f + 1) t ∧ app l (f + 1) t = app l f t ∧ vis l (f + 1) t = vis l f t
  | 0, t, h => h.elim
  | f + 1, t, h => by
    have ih := fun a ha => Fn.succ (h a ha)
    refine ⟨fun a ha => (ih a ha).1, ?_, ?_⟩
    · show Tm.mk _ _ _ _ = Tm.mk _ _ _ _
      rw [List.map_congr_left (fun a ha => (ih a ha).2.1)]
    · show _ :: _ = _ :: _
      rw [flatMap_congr' (fun a ha => (ih a ha).2.2)]
theorem Fn.ge {l : Bs} {f g : Nat} {t : Tm} (h : Fn l f t) (hg : f ≤ g) : Fn l g t ∧ app l g t = app l f t ∧ vis l g t = vis l f t := by
  induction hg with
  | refl => exact ⟨h, rfl, rfl⟩
  | step _ ih =>
    obtain ⟨h1, h2, h3⟩ := ih
    obtain ⟨k1, k2, k3⟩ := h1.succ
    exact ⟨k1, k2.trans h2, k3.trans h3⟩
theorem Fn.pos {l : Bs} {f : Nat} {t : Tm} (h : Fn l f t) : ∃ g, f = g + 1 := by
  cases f with
  | zero => exact h.elim
  | succ g => exact ⟨g, rfl⟩
/-- Fuel, visits, what is applied: of the walked term alone. -/
theorem of_wlk {l : Bs} {t u : Tm} (h : wlk l t = wlk l u) (f : Nat) : (Fn l f t ↔ Fn l f u) ∧ (0 < f → app l f t = app l f u) ∧ vis l f t = vis l f u := by
  cases f with
  | zero => exact ⟨Iff.rfl, fun h => by omega, rfl⟩
  | succ f => exact ⟨by simp only [Fn, h], fun _ => by simp only [app, h], by simp only [vis, h]⟩
theorem fuel_list {l : Bs} : ∀ {ts : List Tm}, (∀ a ∈ ts, ∃ f, Fn l f a) → ∃ f, ∀ a ∈ ts, Fn l f a
  | [], _ => ⟨0, by simp⟩
  | t :: ts, h => by
    obtain ⟨f, hf⟩ := h t (by simp)
    obtain ⟨g, hg⟩ := fuel_list (ts := ts) (fun a ha => h a (by simp [ha]))
    refine ⟨max f g, fun a ha => ?_⟩
    rcases List.mem_cons.1 ha with rfl | ha
    · exact (hf.ge (Nat.le_max_left _ _)).1
    · exact ((hg a ha).ge (Nat.le_max_right _ _)).1
theorem bounded (r : Int → Nat) : ∀ l : List Int, ∃ R, ∀ n ∈ l, r n < R
  | [] => ⟨0, by simp⟩
  | x :: l => by
    obtain ⟨R, h⟩ := bounded r l
    refine ⟨max R (r x + 1), fun n hn => ?_⟩
    rcases List.mem_cons.1 hn with rfl | hn
    · omega
    · have := h n hn; omega
theorem fuel_rank {l : Bs} (hA : Acyc l) {r : Int → Nat} (hr : ∀ v t, ofB l v = some t → ∀ n ∈ t.eo l, r n < r v) : ∀ (R : Nat) (t : Tm), (∀ n ∈ t.eo l, r n < R) → ∃ f, Fn l f t := by
  intro R
  induction R with
  | zero =>
    refine Tm.ind fun t ih ht => ?_
    have he : ∀ n, n ∉ t.eo l := fun n hn => by have := ht n hn; omega
    have hk : t.k ≠ 1 := fun h => he _ (eo_self h)
    have hw : wlk l t = t := wlk_stop (by simp [nxt, hk])
    obtain ⟨f, hf⟩ := fuel_list (l := l) (ts := t.l) (fun a ha => ih a ha (fun n hn => (he n (by rw [eo_def, if_neg hk]; exact eoL_mem.2 ⟨a, ha, hn⟩)).elim))
    exact ⟨f + 1, by simpa only [Fn, hw] using hf⟩
  | succ R ihR =>
    refine Tm.ind fun t ih ht => ?_
    cases hx : nxt l t with
    | some u =>
      have hx' := hx
      unfold nxt at hx
      split at hx
      · rename_i h1
        obtain ⟨f, hf⟩ := ihR u (fun n hn => by
          have h2 := hr _ _ hx n hn
          have h3 := ht t.n (eo_self h1)
          omega)
        exact ⟨f, (of_wlk (hA.step hx') f).1.2 hf⟩
      · cases hx
    | none =>
      have hw : wlk l t = t := wlk_stop hx
      obtain ⟨f, hf⟩ := fuel_list (l := l) (ts := t.l) (fun a ha => ih a ha (fun n hn => ht n (by
        rw [eo_def]
        have hm := eoL_mem.2 ⟨a, ha, hn⟩
        split
        · rename_i h1
          simp only [nxt, if_pos h1] at hx
          simp only [hx, Option.isSome_none, Bool.false_eq_true, if_false]
          exact List.mem_cons_of_mem _ hm
        · exact hm)))
      exact ⟨f + 1, by simpa only [Fn, hw] using hf⟩
theorem Acyc.fuel {l : Bs} (h : Acyc l) (t : Tm) : ∃ f, Fn l f t := by
  have hA := h
  obtain ⟨r, hr⟩ := h
  obtain ⟨R, hR⟩ := bounded r (t.eo l)
  exact fuel_rank hA hr R t hR
def isv (v : Int) (x : Tm) : Bool := decide (x.k = 1 ∧ x.n = v)
theorem eo_vis {l : Bs} (hA : Acyc l) {n : Int} (t : Tm) : ∀ f, Fn l f t → n ∈ t.eo l →
    (ofB l n = none → ∃ x ∈ vis l f t, isv n x = true) ∧ ∀ s, ofB l n = some s → ∃ g, Fn l g s ∧ ∀ x ∈ vis l g s, x ∈ vis l f t := by
  refine Tm.ind (p := fun t => ∀ f, Fn l f t → n ∈ t.eo l →
    (ofB l n = none → ∃ x ∈ vis l f t, isv n x = true) ∧ ∀ s, ofB l n = some s → ∃ g, Fn l g s ∧ ∀ x ∈ vis l g s, x ∈ vis l f t) (fun t ih f hf hn => ?_) t
  obtain ⟨f, rfl⟩ := hf.pos
  have args : nxt l t = none → n ∈ eoL l t.l → (ofB l n = none → ∃ x ∈ vis l (f + 1) t, isv n x = true) ∧ ∀ s, ofB l n = some s → ∃ g, Fn l g s ∧ ∀ x ∈ vis l g s, x ∈ vis l (f + 1) t := fun hx hm => by
    have hw : wlk l t = t := wlk_stop hx
    obtain ⟨a, ha, hna⟩ := eoL_mem.1 hm
    have hfa : Fn l f a := hf a (by rw [hw]; exact ha)
    obtain ⟨h1, h2⟩ := ih a ha f hfa hna
    have hsub : ∀ x ∈ vis l f a, x ∈ vis l (f + 1) t := fun x hx => by
      simp only [vis, hw]
      exact List.mem_cons_of_mem _ (List.mem_flatMap.2 ⟨a, ha, hx⟩)
    exact ⟨fun h => by obtain ⟨x, hx, hi⟩ := h1 h; exact ⟨x, hsub x hx, hi⟩, fun s hs => by obtain ⟨g, hg, hx⟩ := h2 s hs; exact ⟨g, hg, fun x hm => hsub x (hx x hm)⟩⟩
  rw [eo_def] at hn
  split at hn
  · rename_i h1
    split at hn
    · rename_i hb
      obtain rfl : n = t.n := by simpa using hn
      obtain ⟨u, hu⟩ := Option.isSome_iff_exists.1 hb
      refine ⟨fun h => by (rw [h] at hu; cases hu), fun s hs => ?_⟩
      have hst := of_wlk (hA.step (t := t) (u := s) (by simp [nxt, h1, hs])) (f + 1)
      exact ⟨f + 1, hst.1.1 hf, fun x hx => by rw [hst.2.2]; exact hx⟩
    · rename_i hb
      have hb' : ofB l t.n = none := by simpa using hb
      have hx : nxt l t = none := by simp [nxt, hb']
      rcases List.mem_cons.1 hn with rfl | hn
      · refine ⟨fun _ => ⟨t, by simp [vis, wlk_stop hx], by simp [isv, h1]⟩, fun s hs => by rw [hb'] at hs; cases hs⟩
      · exact args hx hn
  · rename_i h1
    exact args (by simp [nxt, h1]) hn
/-- From n on, through bindings, v is met. -/
inductive Rch (l : Bs) (v : Int) : Int → Prop
  | refl : Rch l v v
  | step {u n : Int} {s : Tm} : ofB l u = some s → n ∈ s.eo l → Rch l v n → Rch l v u
theorem Rch.vis {l : Bs} (hA : Acyc l) {v n : Int} (hv : ofB l v = none) (h : Rch l v n) : ∀ t f, Fn l f t → n ∈ t.eo l → ∃ x ∈ vis l f t, isv v x = true := by
  induction h with
  | refl => exact fun t f hf hn => (eo_vis hA t f hf hn).1 hv
  | step hs hn _ ih =>
    intro t f hf hu
    obtain ⟨g, hg, hsub⟩ := (eo_vis hA t f hf hu).2 _ hs
    obtain ⟨x, hx, hi⟩ := ih _ g hg hn
    exact ⟨x, hsub x hx, hi⟩
mutual
theorem eo_more {l m : Bs} {n : Int} : ∀ (t : Tm), n ∈ t.eo (l ++ m) → n ∈ t.eo l
  | ⟨k, s, q, asL⟩, h => by
    simp only [Tm.eo] at h ⊢
    split at h
    · rename_i hk
      rw [if_pos hk]
      cases ho : ofB l q with
      | some u =>
        simp only [ofB_append, ho, Option.isSome_some, if_true] at h ⊢
        exact h
      | none =>
        simp only [ofB_append, ho] at h
        simp only [Option.isSome_none, Bool.false_eq_true, if_false]
        split at h
        · simp only [List.mem_singleton] at h; simp [h]
        · rcases List.mem_cons.1 h with rfl | h
          · simp
          · exact List.mem_cons_of_mem _ (eoL_more asL h)
    · rename_i hk
      rw [if_neg hk]
      exact eoL_more asL h
theorem eoL_more {l m : Bs} {n : Int} : ∀ (asL : List Tm), n ∈ eoL (l ++ m) asL → n ∈ eoL l asL
  | [], h => h
  | t :: ts, h => by
    simp only [eoL, List.mem_append] at h ⊢
    exact h.imp (eo_more t) (eoL_more ts)
end
open Classical in
/-- One more that may be bound. -/
theorem Acyc.bind {l : Bs} (h : Acyc l) {v : Int} {t : Tm} (hv : ofB l v = none) {f : Nat} (hf : Fn l f t) (hno : ∀ x ∈ vis l f t, isv v x = false) : Acyc (l ++ [(v, t)]) := by
  have hA := h
  obtain ⟨r, hr⟩ := h
  obtain ⟨M, hM⟩ := bounded r (t.eo l)
  refine ⟨fun n => r n + if Rch l v n then M else 0, fun u s hs n hn => ?_⟩
  replace hn := eo_more s hn
  rw [ofB_append] at hs
  cases ho : ofB l u with
  | some s' =>
    rw [ho] at hs
    injection hs with hs
    subst hs
    have h1 := hr _ _ ho n hn
    by_cases hR : Rch l v n
    · have hu : Rch l v u := .step ho hn hR
      simp only [if_pos hR, if_pos hu]; omega
    · simp only [if_neg hR]; split <;> omega
  | none =>
    rw [ho, ofB_one] at hs
    simp only at hs
    split at hs
    · rename_i e
      subst e
      injection hs with hs
      subst hs
      have hR : ¬ Rch l v n := fun hR => by
        obtain ⟨x, hx, hi⟩ := hR.vis hA hv _ f hf hn
        rw [hno x hx] at hi; cases hi
      have := hM n hn
      simp only [if_neg hR, if_pos (Rch.refl (l := l) (v := v))]
      omega
    · cases hs

/-! ### The reference's list of what is to do -/
def run (l : Bs) : Nat → List Tm → List Tm
  | 0, _ => []
  | _ + 1, [] => []
  | m + 1, t :: ts => wlk l t :: run l m ((wlk l t).l ++ ts)
/-- Whether v is among what is visited, and the error. -/
def occE (P : List Tm) (v : Int) : Bool × Int := if (P.take 4096).any (isv v) then (true, 0) else if 4096 < P.length then (false, 31) else (false, 0)
/-- What binding tells. -/
def bindE (l : Bs) (v : Int) (P : List Tm) : Int := if (ofB l v).isSome || decide (v < 0) then 1 else if (occE P v).2 ≠ 0 then (occE P v).2 else if (occE P v).1 then 1 else 0
theorem bindE_ok {l : Bs} {v : Int} {P : List Tm} (h : bindE l v P = 0) : ofB l v = none ∧ 0 ≤ v ∧ P.length ≤ 4096 ∧ ∀ x ∈ P, isv v x = false := by
  unfold bindE at h
  split at h
  · cases h
  · rename_i h1
    simp only [Bool.or_eq_true, decide_eq_true_eq, not_or, Option.not_isSome_iff_eq_none] at h1
    unfold occE at h
    split at h
    · rename_i h2
      simp at h
    · rename_i h2
      split at h
      · simp at h
      · rename_i h3
        refine ⟨h1.1, by omega, by omega, fun x hx => ?_⟩
        rw [List.take_of_length_le (by omega)] at h2
        simp only [List.any_eq_true, not_exists, not_and, Bool.not_eq_true] at h2
        exact h2 x hx
theorem Acyc.bound {l : Bs} (h : Acyc l) {v : Int} {t : Tm} {f : Nat} (hf : Fn l f t) (hb : bindE l v (vis l f t) = 0) : Acyc (l ++ [(v, t)]) :=
  h.bind (bindE_ok hb).1 hf (bindE_ok hb).2.2.2
end Go.Proofs.YtgcbanljifalnaaDoor
/- Maps keyed by int64, elements whatever: what is there, and how many. No condition. -/
namespace Go.Proofs.YtgcbanljifalnaaDoor
open Go.RowKit Go.Maps

/-- Whatever value, read as itself. -/
def rawElem (v : Value) : Option (DataW Value × List MemPlace) := some (.held v, [])
/-- Block b is a map of what M says, sz entries. -/
def MapAt (w : World) (b : Nat) (M : Int → Option Value) (sz : Nat) : Prop :=
  ∃ D : DataW Value, w.ownsMap Tryd.prog 2 rawElem b sz D ∧ Maps.size D = sz ∧ (∀ n, (Lit.int .i64 n).wf = true → Maps.has D (.int .i64 n) = (M n).isSome) ∧ ∀ n v, (Lit.int .i64 n).wf = true → M n = some v → ∀ z, D.atKey (.int .i64 n) z = .held v
theorem Tryd.key64 : Keyed Tryd.prog 2 := int_keyed Tryd.underlying2
theorem MapAt.made (w : World) : MapAt (w.alloc (.map #[] 0)) w.heap.size (fun _ => none) 0 :=
  ⟨.map [], World.ownsMap_made _ _ _ _, rfl, fun n _ => rfl, fun n v _ h => by cases h⟩
theorem MapAt.lt {w : World} {b : Nat} {M : Int → Option Value} {sz : Nat} (h : MapAt w b M sz) : b < w.heap.size := by
  obtain ⟨D, h1, _⟩ := h; exact h1.lt
theorem MapAt.move {w w' : World} {b : Nat} {M : Int → Option Value} {sz : Nat} (h : MapAt w b M sz) (hb : w'.heap[b]? = w.heap[b]?) : MapAt w' b M sz := by
  obtain ⟨D, ⟨es, clock, h1, h2⟩, h3⟩ := h
  exact ⟨D, ⟨es, clock, hb.trans h1, h2⟩, h3⟩
theorem MapAt.not_cells {w : World} {b : Nat} {M : Int → Option Value} {sz : Nat} (h : MapAt w b M sz) : ∀ c t f, w.heap[b]? ≠ some (.cells c t f) := by
  obtain ⟨D, ⟨es, clock, h1, h2⟩, h3⟩ := h
  intro c t f he; rw [h1] at he; cases he
section
variable {P : Program} {ops : Array Oper} {rest : List Oper} {o : Oper} {a : Act} {Q : Exit → Act → World → Prop} {w : World} {b : Nat} {M : Int → Option Value} {sz : Nat}
theorem key_lit (n : Int) (hn : (Lit.int .i64 n).wf = true) : keyOf Tryd.prog 2 (.int .i64 n) = some (.int .i64 n) := keyOf_int_mk Tryd.underlying2 hn
/-- v, ok := m[n] -/
theorem MapAt.look_ok (h : MapAt w b M sz) (hg : o.guard = none) (m x : Operand) (t : TypeId) (hop : o.op = Op.lookup t m x true) (e : TypeId) (ht : Tryd.prog.underlying t = some (.map 2 e)) {z : Value} (hz : ∀ w, (zeroValue e).run Tryd.prog w = .ok z w)
    (hm : a.eval m = .map (some b)) (n : Int) (hn : (Lit.int .i64 n).wf = true) (hx : a.eval x = .int .i64 n)
    (hK : wpList Tryd.prog ops Q rest (a.put o.dst (.tuple #[(M n).getD z, .bool (M n).isSome])) w) : wpList Tryd.prog ops Q (o :: rest) a w := by
  obtain ⟨D, h1, h2, h3, h4⟩ := h
  refine wpList_lookup_own_ok w hg m x t hop 2 e Tryd.key64 ht rawElem (hz w) (.held z) [] rfl b sz D hm h1 _ _ hx (key_lit n hn) (fun v ps hv => ?_)
  have hv' : DataW.held v = D.atKey (.int .i64 n) (.held z) := by
    have : (DataW.held v, ([] : List MemPlace)) = (D.atKey (.int .i64 n) (.held z), ps) := Option.some.inj hv
    exact congrArg Prod.fst this
  rw [h3 n hn]
  cases hM : M n with
  | some u =>
    rw [h4 n u hn hM] at hv'
    injection hv' with hv'
    rw [hM] at hK
    subst hv'
    exact hK
  | none =>
    have h0 : Maps.has D (.int .i64 n) = false := by rw [h3 n hn, hM]; rfl
    rw [Maps.atKey_of_not_has h0] at hv'
    injection hv' with hv'
    rw [hM] at hK
    subst hv'
    exact hK
/-- v := m[n] -/
theorem MapAt.look (h : MapAt w b M sz) (hg : o.guard = none) (m x : Operand) (t : TypeId) (hop : o.op = Op.lookup t m x false) (e : TypeId) (ht : Tryd.prog.underlying t = some (.map 2 e)) {z : Value} (hz : ∀ w, (zeroValue e).run Tryd.prog w = .ok z w)
    (hm : a.eval m = .map (some b)) (n : Int) (hn : (Lit.int .i64 n).wf = true) (hx : a.eval x = .int .i64 n)
    (hK : wpList Tryd.prog ops Q rest (a.put o.dst ((M n).getD z)) w) : wpList Tryd.prog ops Q (o :: rest) a w := by
  obtain ⟨D, h1, h2, h3, h4⟩ := h
  refine wpList_plain hg fun K' hK' => ?_
  obtain ⟨v, ps, hrun, hv⟩ := h1.lookup Tryd.key64 ht (hz w) (zd := .held z) (zp := []) rfl (key_lit n hn)
  have hv' : DataW.held v = D.atKey (.int .i64 n) (.held z) := by
    have : (DataW.held v, ([] : List MemPlace)) = (D.atKey (.int .i64 n) (.held z), ps) := Option.some.inj hv
    exact congrArg Prod.fst this
  have key : v = (M n).getD z := by
    cases hM : M n with
    | some u =>
      rw [h4 n u hn hM] at hv'
      injection hv' with hv'
    | none =>
      have h0 : Maps.has D (.int .i64 n) = false := by rw [h3 n hn, hM]; rfl
      rw [Maps.atKey_of_not_has h0] at hv'
      injection hv' with hv'
  subst key
  unfold Oper.wp
  simp [execOp, hop, hm, hx, hrun, Result.andThen]
  exact hK' _ _ hK
/-- len(m) -/
theorem MapAt.len (h : MapAt w b M sz) (hg : o.guard = none) (m : Operand) (t : TypeId) (hop : o.op = Op.call { callee := Callee.builtin Builtin.len, args := #[m], argTypes := #[t] }) (e : TypeId) (ht : Tryd.prog.underlying t = some (.map 2 e))
    (hm : a.eval m = .map (some b)) (hK : wpList Tryd.prog ops Q rest (a.put o.dst (.int .i64 sz)) w) : wpList Tryd.prog ops Q (o :: rest) a w := by
  obtain ⟨D, h1, h2, h3, h4⟩ := h
  refine wpList_len_own w hg m t hop 2 e ht rawElem b sz D hm h1 ?_
  rw [h2]; exact hK
/-- m[n] = v -/
theorem MapAt.update (h : MapAt w b M sz) (hg : o.guard = none) (m x v : Operand) (t : TypeId) (hop : o.op = Op.mapUpdate t m x v) (e : TypeId) (ht : Tryd.prog.underlying t = some (.map 2 e))
    (hm : a.eval m = .map (some b)) (n : Int) (hn : (Lit.int .i64 n).wf = true) (u : Value) (hx : a.eval x = .int .i64 n) (hv : a.eval v = u) (hsz : sz < maxLen) (hnew : M n = none)
    (hK : ∀ w', MapAt w' b (fun k => if k = n then some u else M k) (sz + 1) → w.grownBy w' (some b) → wpList Tryd.prog ops Q rest (a.put o.dst undef) w') : wpList Tryd.prog ops Q (o :: rest) a w := by
  obtain ⟨D, h1, h2, h3, h4⟩ := h
  have hik : WideAt.IsKeyLit (.int .i64 n) := Tryd.key64.key (key_lit n hn)
  refine wpList_mapUpdate_own w hg m x v t hop 2 e Tryd.key64 ht rawElem b sz D hm h1 hsz _ _ _ hx hv (key_lit n hn) (.held u) [] rfl (fun w' ho hgw => hK w' ⟨D.put (.int .i64 n) (.held u), ho, ?_, ?_, ?_⟩ hgw)
  · rw [Maps.size_put (h1.tidy Tryd.key64), h3 n hn, hnew]
    simp [h2]
  · intro k hk
    by_cases hkn : k = n
    · subst hkn
      rw [Maps.has_put_same h1.isMap hik]; simp
    · rw [Maps.has_put_other (fun e => hkn (by injection e)), h3 k hk]; simp [hkn]
  · intro k v' hk hM z
    by_cases hkn : k = n
    · subst hkn
      simp at hM
      subst hM
      exact Maps.atKey_put_same h1.isMap hik _ _
    · simp [hkn] at hM
      rw [Maps.atKey_put_other (fun e => hkn (by injection e))]
      exact h4 k v' hk hM z
end
end Go.Proofs.YtgcbanljifalnaaDoor

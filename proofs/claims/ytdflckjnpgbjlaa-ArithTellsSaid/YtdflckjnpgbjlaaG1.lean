/- Substitutions in plain words: bindings in a list, walked terms, what is visited, what is applied. No condition. -/
import Derived.Test.YtdflckjnpgbjlaaF1
set_option linter.unusedVariables false
set_option maxRecDepth 20000
set_option linter.unusedSimpArgs false
namespace Go.Proofs.Ytdflckjnpgbjlaa

abbrev Bs := List (Int × Tm)
/-- What a variable is bound to. -/
def ofB : Bs → Int → Option Tm
  | [], _ => none
  | (v, t) :: l, n => if v = n then some t else ofB l n
theorem ofB_append : ∀ (l m : Bs) (n : Int), ofB (l ++ m) n = match ofB l n with | some t => some t | none => ofB m n
  | [], m, n => rfl
  | (v, t) :: l, m, n => by
    simp only [List.cons_append, ofB]
    split
    · rfl
    · exact ofB_append l m n
theorem ofB_one (v n : Int) (t : Tm) : ofB [(v, t)] n = if v = n then some t else none := by simp [ofB]
theorem ofB_key : ∀ {l : Bs} {n : Int} {t : Tm}, ofB l n = some t → n ∈ l.map Prod.fst
  | (v, u) :: l, n, t, h => by
    simp only [ofB] at h
    split at h
    · rename_i e; simp [e]
    · have := ofB_key h
      simp only [List.map_cons, List.mem_cons]
      exact .inr this
theorem ofB_mem : ∀ {l : Bs} {n : Int} {t : Tm}, ofB l n = some t → (n, t) ∈ l
  | (v, u) :: l, n, t, h => by
    simp only [ofB] at h
    split at h
    · rename_i e; injection h with h; simp [e, h]
    · exact List.mem_cons_of_mem _ (ofB_mem h)
/-- One step of a walk. -/
def nxt (l : Bs) (t : Tm) : Option Tm := if t.k = 1 then ofB l t.n else none
def wlkN (l : Bs) : Nat → Tm → Tm
  | 0, t => t
  | m + 1, t => match nxt l t with | none => t | some u => wlkN l m u
/-- A walked term. -/
def wlk (l : Bs) (t : Tm) : Tm := wlkN l l.length t
theorem wlkN_end {l : Bs} {t : Tm} (h : nxt l t = none) : ∀ m, wlkN l m t = t
  | 0 => rfl
  | m + 1 => by simp only [wlkN, h]
theorem wlkN_snoc {l : Bs} {u : Tm} : ∀ (m : Nat) (t : Tm), nxt l (wlkN l m t) = some u → wlkN l (m + 1) t = u
  | 0, t, h => by
    have h : nxt l t = some u := h
    simp only [wlkN, h]
  | m + 1, t, h => by
    simp only [wlkN] at h ⊢
    cases hn : nxt l t with
    | none => rw [hn] at h; simp only at h; rw [hn] at h; cases h
    | some t' =>
      rw [hn] at h
      simp only at h ⊢
      exact wlkN_snoc m t' h
theorem wlkN_done {l : Bs} : ∀ (m : Nat) (t : Tm), nxt l (wlkN l m t) = none → ∀ k, m ≤ k → wlkN l k t = wlkN l m t
  | 0, t, h, k, _ => wlkN_end h k
  | m + 1, t, h, 0, hk => by omega
  | m + 1, t, h, k + 1, hk => by
    simp only [wlkN] at h ⊢
    cases hn : nxt l t with
    | none => rfl
    | some u =>
      rw [hn] at h
      simp only at h ⊢
      exact wlkN_done m u h k (by omega)
mutual
/-- The variables that are met: a bound one's arguments are not. -/
def Tm.eo (l : Bs) : Tm → List Int
  | ⟨k, s, n, as⟩ => if k = 1 then (if (ofB l n).isSome then [n] else n :: eoL l as) else eoL l as
def eoL (l : Bs) : List Tm → List Int
  | [] => []
  | t :: ts => t.eo l ++ eoL l ts
end
theorem eoL_mem {l : Bs} {n : Int} : ∀ {ts : List Tm}, n ∈ eoL l ts ↔ ∃ t ∈ ts, n ∈ t.eo l
  | [] => by simp [eoL]
  | t :: ts => by simp [eoL, eoL_mem (ts := ts)]
theorem eo_def (l : Bs) (t : Tm) : t.eo l = if t.k = 1 then (if (ofB l t.n).isSome then [t.n] else t.n :: eoL l t.l) else eoL l t.l := by
  cases t; rfl
theorem eo_self {l : Bs} {t : Tm} (h : t.k = 1) : t.n ∈ t.eo l := by
  rw [eo_def, if_pos h]
  split <;> simp
/-- No circle: a rank that falls from each variable to those that it is bound to. -/
def Acyc (l : Bs) : Prop := ∃ r : Int → Nat, ∀ v t, ofB l v = some t → ∀ n ∈ t.eo l, r n < r v
theorem acyc_nil : Acyc [] := ⟨fun _ => 0, fun v t h => by simp [ofB] at h⟩
theorem nodup_le : ∀ (xs ys : List Int), xs.Nodup → (∀ x ∈ xs, x ∈ ys) → xs.length ≤ ys.length
  | [], ys, _, _ => Nat.zero_le _
  | x :: xs, ys, hn, hs => by
    have hn' := List.nodup_cons.1 hn
    have hx := hs x (by simp)
    have := nodup_le xs (ys.erase x) hn'.2 (fun y hy => (List.mem_erase_of_ne (fun e => hn'.1 (by rw [← e]; exact hy))).2 (hs y (by simp [hy])))
    rw [List.length_erase_of_mem hx] at this
    have := List.length_pos_of_mem hx
    simp only [List.length_cons]
    omega
theorem chain {l : Bs} {r : Int → Nat} (hr : ∀ v t, ofB l v = some t → ∀ n ∈ t.eo l, r n < r v) : ∀ (m : Nat) (t : Tm) (seen : List Int), seen.Nodup → (∀ s ∈ seen, s ∈ l.map Prod.fst) → (t.k = 1 → ∀ s ∈ seen, r t.n < r s) → l.length ≤ seen.length + m → nxt l (wlkN l m t) = none
  | m, t, seen, hn, hk, ht, hl => by
    cases hx : nxt l t with
    | none => rw [wlkN_end hx]; exact hx
    | some u =>
      unfold nxt at hx
      split at hx
      · rename_i h1
        have hn2 : (t.n :: seen).Nodup := List.nodup_cons.2 ⟨fun h => by have := ht h1 _ h; omega, hn⟩
        have hk2 : ∀ s ∈ t.n :: seen, s ∈ l.map Prod.fst := fun s hs => by
          rcases List.mem_cons.1 hs with rfl | hs
          · exact ofB_key hx
          · exact hk s hs
        cases m with
        | zero =>
          have := nodup_le _ _ hn2 hk2
          simp at this; omega
        | succ m =>
          simp only [wlkN, nxt, if_pos h1, hx]
          refine chain hr m u (t.n :: seen) hn2 hk2 (fun hu s hs => ?_) (by simp; omega)
          have hlt := hr _ _ hx u.n (eo_self hu)
          rcases List.mem_cons.1 hs with rfl | hs
          · exact hlt
          · exact Nat.lt_trans hlt (ht h1 s hs)
      · cases hx
theorem Acyc.ended {l : Bs} (h : Acyc l) (t : Tm) : nxt l (wlk l t) = none := by
  obtain ⟨r, hr⟩ := h
  exact chain hr l.length t [] List.nodup_nil (by simp) (by simp) (by simp)
theorem Acyc.ge {l : Bs} (h : Acyc l) (t : Tm) {m : Nat} (hm : l.length ≤ m) : wlkN l m t = wlk l t := wlkN_done _ _ (h.ended t) m hm
theorem Acyc.step {l : Bs} (h : Acyc l) {t u : Tm} (hn : nxt l t = some u) : wlk l t = wlk l u := by
  have h1 := h.ge t (m := l.length + 1) (by omega)
  simp only [wlkN, hn] at h1
  exact h1.symm
theorem wlk_stop {l : Bs} {t : Tm} (hn : nxt l t = none) : wlk l t = t := wlkN_end hn _
theorem Acyc.wlk_wlk {l : Bs} (h : Acyc l) (t : Tm) : wlk l (wlk l t) = wlk l t := wlk_stop (h.ended t)
/-- Where a walk of the program stands behind m steps, it is not at its end just if there are steps left. -/
theorem Acyc.room {l : Bs} (h : Acyc l) {t u : Tm} {m : Nat} (hn : nxt l (wlkN l m t) = some u) : m < l.length := by
  rcases Nat.lt_or_ge m l.length with hm | hm
  · exact hm
  · rw [h.ge t hm, h.ended t] at hn; cases hn
theorem stop_wlk {l : Bs} (h : Acyc l) {t : Tm} {m : Nat} (hn : nxt l (wlkN l m t) = none) : wlkN l m t = wlk l t := by
  rcases Nat.le_total m l.length with hm | hm
  · exact (wlkN_done _ _ hn _ hm).symm
  · exact h.ge t hm

/-! ### What is visited, what is applied: by fuel that is enough -/
def Fn (l : Bs) : Nat → Tm → Prop
  | 0, _ => False
  | f + 1, t => ∀ a ∈ (wlk l t).l, Fn l f a
def app (l : Bs) : Nat → Tm → Tm
  | 0, t => t
  | f + 1, t => ⟨(wlk l t).k, (wlk l t).s, (wlk l t).n, (wlk l t).l.map (app l f)⟩
def vis (l : Bs) : Nat → Tm → List Tm
  | 0, _ => []
  | f + 1, t => wlk l t :: (wlk l t).l.flatMap (vis l f)
theorem flatMap_congr' {α β : Type} {f g : α → List β} : ∀ {l : List α}, (∀ x ∈ l, f x = g x) → l.flatMap f = l.flatMap g
  | [], _ => rfl
  | x :: l, h => by rw [List.flatMap_cons, List.flatMap_cons, h x (by simp), flatMap_congr' (fun y hy => h y (by simp [hy]))]
theorem Fn.succ {l : Bs} : ∀ {f : Nat} {t : Tm}, Fn l f t → Fn l (f + 1) t ∧ app l (f + 1) t = app l f t ∧ vis l (f + 1) t = vis l f t
  | 0, t, h => h.elim
  | f + 1, t, h => by
    have ih := fun a ha => Fn.succ (h a ha)
    refine ⟨fun a ha => (ih a ha).1, ?_, ?_⟩
    · show Tm.mk _ _ _ _ = Tm.mk _ _ _ _
      rw [List.map_congr_left (fun a ha => (ih a ha).2.1)]
    · show _ :: _ = _ :: _
      rw [flatMap_congr' (fun a ha => (ih a ha).2.2)]
theorem Fn.ge {l : Bs} {f g : Nat} {t : Tm} (h : Fn l f t) (hg : f ≤ g) : Fn l g t ∧ app l g t = app l f t ∧ vis l g t = vis l f t := by
  induction hg with
  | refl => exact ⟨h, rfl, rfl⟩
  | step _ ih =>
    obtain ⟨h1, h2, h3⟩ := ih
    obtain ⟨k1, k2, k3⟩ := h1.succ
    exact ⟨k1, k2.trans h2, k3.trans h3⟩
theorem Fn.pos {l : Bs} {f : Nat} {t : Tm} (h : Fn l f t) : ∃ g, f = g + 1 := by
  cases f with
  | zero => exact h.elim
  | succ g => exact ⟨g, rfl⟩
/-- Fuel, visits, what is applied: of the walked term alone. -/
theorem of_wlk {l : Bs} {t u : Tm} (h : wlk l t = wlk l u) (f : Nat) : (Fn l f t ↔ Fn l f u) ∧ (0 < f → app l f t = app l f u) ∧ vis l f t = vis l f u := by
  cases f with
  | zero => exact ⟨Iff.rfl, fun h => by omega, rfl⟩
  | succ f => exact ⟨by simp only [Fn, h], fun _ => by simp only [app, h], by simp only [vis, h]⟩
theorem fuel_list {l : Bs} : ∀ {ts : List Tm}, (∀ a ∈ ts, ∃ f, Fn l f a) → ∃ f, ∀ a ∈ ts, Fn l f a
  | [], _ => ⟨0, by simp⟩
  | t :: ts, h => by
    obtain ⟨f, hf⟩ := h t (by simp)
    obtain ⟨g, hg⟩ := fuel_list (ts := ts) (fun a ha => h a (by simp [ha]))
    refine ⟨max f g, fun a ha => ?_⟩
    rcases List.mem_cons.1 ha with rfl | ha
    · exact (hf.ge (Nat.le_max_left _ _)).1
    · exact ((hg a ha).ge (Nat.le_max_right _ _)).1
theorem bounded (r : Int → Nat) : ∀ l : List Int, ∃ R, ∀ n ∈ l, r n < R
  | [] => ⟨0, by simp⟩
  | x :: l => by
    obtain ⟨R, h⟩ := bounded r l
    refine ⟨max R (r x + 1), fun n hn => ?_⟩
    rcases List.mem_cons.1 hn with rfl | hn
    · omega
    · have := h n hn; omega
theorem fuel_rank {l : Bs} (hA : Acyc l) {r : Int → Nat} (hr : ∀ v t, ofB l v = some t → ∀ n ∈ t.eo l, r n < r v) : ∀ (R : Nat) (t : Tm), (∀ n ∈ t.eo l, r n < R) → ∃ f, Fn l f t := by
  intro R
  induction R with
  | zero =>
    refine Tm.ind fun t ih ht => ?_
    have he : ∀ n, n ∉ t.eo l := fun n hn => by have := ht n hn; omega
    have hk : t.k ≠ 1 := fun h => he _ (eo_self h)
    have hw : wlk l t = t := wlk_stop (by simp [nxt, hk])
    obtain ⟨f, hf⟩ := fuel_list (l := l) (ts := t.l) (fun a ha => ih a ha (fun n hn => (he n (by rw [eo_def, if_neg hk]; exact eoL_mem.2 ⟨a, ha, hn⟩)).elim))
    exact ⟨f + 1, by simpa only [Fn, hw] using hf⟩
  | succ R ihR =>
    refine Tm.ind fun t ih ht => ?_
    cases hx : nxt l t with
    | some u =>
      have hx' := hx
      unfold nxt at hx
      split at hx
      · rename_i h1
        obtain ⟨f, hf⟩ := ihR u (fun n hn => by
          have h2 := hr _ _ hx n hn
          have h3 := ht t.n (eo_self h1)
          omega)
        exact ⟨f, (of_wlk (hA.step hx') f).1.2 hf⟩
      · cases hx
    | none =>
      have hw : wlk l t = t := wlk_stop hx
      obtain ⟨f, hf⟩ := fuel_list (l := l) (ts := t.l) (fun a ha => ih a ha (fun n hn => ht n (by
        rw [eo_def]
        have hm := eoL_mem.2 ⟨a, ha, hn⟩
        split
        · rename_i h1
          simp only [nxt, if_pos h1] at hx
          simp only [hx, Option.isSome_none, Bool.false_eq_true, if_false]
          exact List.mem_cons_of_mem _ hm
        · exact hm)))
      exact ⟨f + 1, by simpa only [Fn, hw] using hf⟩
theorem Acyc.fuel {l : Bs} (h : Acyc l) (t : Tm) : ∃ f, Fn l f t := by
  have hA := h
  obtain ⟨r, hr⟩ := h
  obtain ⟨R, hR⟩ := bounded r (t.eo l)
  exact fuel_rank hA hr R t hR
def isv (v : Int) (x : Tm) : Bool := decide (x.k = 1 ∧ x.n = v)
theorem eo_vis {l : Bs} (hA : Acyc l) {n : Int} (t : Tm) : ∀ f, Fn l f t → n ∈ t.eo l →
    (ofB l n = none → ∃ x ∈ vis l f t, isv n x = true) ∧ ∀ s, ofB l n = some s → ∃ g, Fn l g s ∧ ∀ x ∈ vis l g s, x ∈ vis l f t := by
  refine Tm.ind (p := fun t => ∀ f, Fn l f t → n ∈ t.eo l →
    (ofB l n = none → ∃ x ∈ vis l f t, isv n x = true) ∧ ∀ s, ofB l n = some s → ∃ g, Fn l g s ∧ ∀ x ∈ vis l g s, x ∈ vis l f t) (fun t ih f hf hn => ?_) t
  obtain ⟨f, rfl⟩ := hf.pos
  have args : nxt l t = none → n ∈ eoL l t.l → (ofB l n = none → ∃ x ∈ vis l (f + 1) t, isv n x = true) ∧ ∀ s, ofB l n = some s → ∃ g, Fn l g s ∧ ∀ x ∈ vis l g s, x ∈ vis l (f + 1) t := fun hx hm => by
    have hw : wlk l t = t := wlk_stop hx
    obtain ⟨a, ha, hna⟩ := eoL_mem.1 hm
    have hfa : Fn l f a := hf a (by rw [hw]; exact ha)
    obtain ⟨h1, h2⟩ := ih a ha f hfa hna
    have hsub : ∀ x ∈ vis l f a, x ∈ vis l (f + 1) t := fun x hx => by
      simp only [vis, hw]
      exact List.mem_cons_of_mem _ (List.mem_flatMap.2 ⟨a, ha, hx⟩)
    exact ⟨fun h => by obtain ⟨x, hx, hi⟩ := h1 h; exact ⟨x, hsub x hx, hi⟩, fun s hs => by obtain ⟨g, hg, hx⟩ := h2 s hs; exact ⟨g, hg, fun x hm => hsub x (hx x hm)⟩⟩
  rw [eo_def] at hn
  split at hn
  · rename_i h1
    split at hn
    · rename_i hb
      obtain rfl : n = t.n := by simpa using hn
      obtain ⟨u, hu⟩ := Option.isSome_iff_exists.1 hb
      refine ⟨fun h => by (rw [h] at hu; cases hu), fun s hs => ?_⟩
      have hst := of_wlk (hA.step (t := t) (u := s) (by simp [nxt, h1, hs])) (f + 1)
      exact ⟨f + 1, hst.1.1 hf, fun x hx => by rw [hst.2.2]; exact hx⟩
    · rename_i hb
      have hb' : ofB l t.n = none := by simpa using hb
      have hx : nxt l t = none := by simp [nxt, hb']
      rcases List.mem_cons.1 hn with rfl | hn
      · refine ⟨fun _ => ⟨t, by simp [vis, wlk_stop hx], by simp [isv, h1]⟩, fun s hs => by rw [hb'] at hs; cases hs⟩
      · exact args hx hn
  · rename_i h1
    exact args (by simp [nxt, h1]) hn
/-- From n on, through bindings, v is met. -/
inductive Rch (l : Bs) (v : Int) : Int → Prop
  | refl : Rch l v v
  | step {u n : Int} {s : Tm} : ofB l u = some s → n ∈ s.eo l → Rch l v n → Rch l v u
theorem Rch.vis {l : Bs} (hA : Acyc l) {v n : Int} (hv : ofB l v = none) (h : Rch l v n) : ∀ t f, Fn l f t → n ∈ t.eo l → ∃ x ∈ vis l f t, isv v x = true := by
  induction h with
  | refl => exact fun t f hf hn => (eo_vis hA t f hf hn).1 hv
  | step hs hn _ ih =>
    intro t f hf hu
    obtain ⟨g, hg, hsub⟩ := (eo_vis hA t f hf hu).2 _ hs
    obtain ⟨x, hx, hi⟩ := ih _ g hg hn
    exact ⟨x, hsub x hx, hi⟩
mutual
theorem eo_more {l m : Bs} {n : Int} : ∀ (t : Tm), n ∈ t.eo (l ++ m) → n ∈ t.eo l
  | ⟨k, s, q, as⟩, h => by
    simp only [Tm.eo] at h ⊢
    split at h
    · rename_i hk
      rw [if_pos hk]
      cases ho : ofB l q with
      | some u =>
        simp only [ofB_append, ho, Option.isSome_some, if_true] at h ⊢
        exact h
      | none =>
        simp only [ofB_append, ho] at h
        simp only [Option.isSome_none, Bool.false_eq_true, if_false]
        split at h
        · simp only [List.mem_singleton] at h; simp [h]
        · rcases List.mem_cons.1 h with rfl | h
          · simp
          · exact List.mem_cons_of_mem _ (eoL_more as h)
    · rename_i hk
      rw [if_neg hk]
      exact eoL_more as h
theorem eoL_more {l m : Bs} {n : Int} : ∀ (as : List Tm), n ∈ eoL (l ++ m) as → n ∈ eoL l as
  | [], h => h
  | t :: ts, h => by
    simp only [eoL, List.mem_append] at h ⊢
    exact h.imp (eo_more t) (eoL_more ts)
end
open Classical in
/-- One more that may be bound. -/
theorem Acyc.bind {l : Bs} (h : Acyc l) {v : Int} {t : Tm} (hv : ofB l v = none) {f : Nat} (hf : Fn l f t) (hno : ∀ x ∈ vis l f t, isv v x = false) : Acyc (l ++ [(v, t)]) := by
  have hA := h
  obtain ⟨r, hr⟩ := h
  obtain ⟨M, hM⟩ := bounded r (t.eo l)
  refine ⟨fun n => r n + if Rch l v n then M else 0, fun u s hs n hn => ?_⟩
  replace hn := eo_more s hn
  rw [ofB_append] at hs
  cases ho : ofB l u with
  | some s' =>
    rw [ho] at hs
    injection hs with hs
    subst hs
    have h1 := hr _ _ ho n hn
    by_cases hR : Rch l v n
    · have hu : Rch l v u := .step ho hn hR
      simp only [if_pos hR, if_pos hu]; omega
    · simp only [if_neg hR]; split <;> omega
  | none =>
    rw [ho, ofB_one] at hs
    simp only at hs
    split at hs
    · rename_i e
      subst e
      injection hs with hs
      subst hs
      have hR : ¬ Rch l v n := fun hR => by
        obtain ⟨x, hx, hi⟩ := hR.vis hA hv _ f hf hn
        rw [hno x hx] at hi; cases hi
      have := hM n hn
      simp only [if_neg hR, if_pos (Rch.refl (l := l) (v := v))]
      omega
    · cases hs

/-! ### The reference's list of what is to do -/
def run (l : Bs) : Nat → List Tm → List Tm
  | 0, _ => []
  | _ + 1, [] => []
  | m + 1, t :: ts => wlk l t :: run l m ((wlk l t).l ++ ts)
theorem run_vis {l : Bs} {f : Nat} : ∀ (m : Nat) (ts : List Tm), (∀ t ∈ ts, Fn l f t) → run l m ts = (ts.flatMap (vis l f)).take m
  | 0, ts, _ => by simp [run]
  | m + 1, [], _ => by simp [run]
  | m + 1, t :: ts, h => by
    obtain ⟨g, rfl⟩ := (h t (by simp)).pos
    have ha : ∀ a ∈ (wlk l t).l, Fn l g a := h t (by simp)
    simp only [run, List.flatMap_cons]
    rw [run_vis (f := g + 1) m _ (fun a hm => by
      rcases List.mem_append.1 hm with hm | hm
      · exact (ha a hm).succ.1
      · exact h a (by simp [hm]))]
    rw [List.flatMap_append, flatMap_congr' (fun a hm => (ha a hm).succ.2.2)]
    simp only [vis, List.cons_append, List.take_succ_cons]
/-- Whether v is among what is visited, and the error. -/
def occE (P : List Tm) (v : Int) : Bool × Int := if (P.take 4096).any (isv v) then (true, 0) else if 4096 < P.length then (false, 31) else (false, 0)
/-- What binding tells. -/
def bindE (l : Bs) (v : Int) (P : List Tm) : Int := if (ofB l v).isSome || decide (v < 0) then 1 else if (occE P v).2 ≠ 0 then (occE P v).2 else if (occE P v).1 then 1 else 0
theorem bindE_ok {l : Bs} {v : Int} {P : List Tm} (h : bindE l v P = 0) : ofB l v = none ∧ 0 ≤ v ∧ P.length ≤ 4096 ∧ ∀ x ∈ P, isv v x = false := by
  unfold bindE at h
  split at h
  · cases h
  · rename_i h1
    simp only [Bool.or_eq_true, decide_eq_true_eq, not_or, Option.not_isSome_iff_eq_none] at h1
    unfold occE at h
    split at h
    · rename_i h2
      simp at h
    · rename_i h2
      split at h
      · simp at h
      · rename_i h3
        refine ⟨h1.1, by omega, by omega, fun x hx => ?_⟩
        rw [List.take_of_length_le (by omega)] at h2
        simp only [List.any_eq_true, not_exists, not_and, Bool.not_eq_true] at h2
        exact h2 x hx
theorem Acyc.bound {l : Bs} (h : Acyc l) {v : Int} {t : Tm} {f : Nat} (hf : Fn l f t) (hb : bindE l v (vis l f t) = 0) : Acyc (l ++ [(v, t)]) :=
  h.bind (bindE_ok hb).1 hf (bindE_ok hb).2.2.2
end Go.Proofs.Ytdflckjnpgbjlaa

import Derived.Test.YtgcbanljifalnaaGreatDoorPk01
import Derived.Test.YtgcbanljifalnaaGreatDoorProg
import Derived.StillTailTactics
import Derived.Deep.Light
import Derived.Maps.OwnSet
import Derived.Maps.OwnOps
set_option linter.unusedVariables false
set_option maxRecDepth 20000
set_option linter.unusedSimpArgs false
/- Substitutions in plain words: bindings in a list, walked terms, what is visited, what is applied. No condition. -/
namespace Go.Proofs.YtgcbanljifalnaaGreatDoor

abbrev Bs := List (Int × Tm)
/-- What a variable is bound to. -/
def ofB : Bs → Int → Option Tm
  | [], _ => none
  | (v, t) :: l, n => if v = n then some t else ofB l n
theorem ofB_append : ∀ (l m : Bs) (n : Int), ofB (l ++ m) n = match ofB l n with | some t => some t | none => ofB m n
  | [], m, n => rfl
  | (v, t) :: l, m, n => by
    simp only [List.cons_append, ofB]
    split
    · rfl
    · exact ofB_append l m n
theorem ofB_one (v n : Int) (t : Tm) : ofB [(v, t)] n = if v = n then some t else none := by simp [ofB]
theorem ofB_key : ∀ {l : Bs} {n : Int} {t : Tm}, ofB l n = some t → n ∈ l.map Prod.fst
  | (v, u) :: l, n, t, h => by
    simp only [ofB] at h
    split at h
    · rename_i e; simp [e]
    · have := ofB_key h
      simp only [List.map_cons, List.mem_cons]
      exact .inr this
theorem ofB_mem : ∀ {l : Bs} {n : Int} {t : Tm}, ofB l n = some t → (n, t) ∈ l
  | (v, u) :: l, n, t, h => by
    simp only [ofB] at h
    split at h
    · rename_i e; injection h with h; simp [e, h]
    · exact List.mem_cons_of_mem _ (ofB_mem h)
/-- One step of a walk. -/
def nxt (l : Bs) (t : Tm) : Option Tm := if t.k = 1 then ofB l t.n else none
def wlkN (l : Bs) : Nat → Tm → Tm
  | 0, t => t
  | m + 1, t => match nxt l t with | none => t | some u => wlkN l m u
/-- A walked term. -/
def wlk (l : Bs) (t : Tm) : Tm := wlkN l l.length t
theorem wlkN_end {l : Bs} {t : Tm} (h : nxt l t = none) : ∀ m, wlkN l m t = t
  | 0 => rfl
  | m + 1 => by simp only [wlkN, h]
theorem wlkN_snoc {l : Bs} {u : Tm} : ∀ (m : Nat) (t : Tm), nxt l (wlkN l m t) = some u → wlkN l (m + 1) t = u
  | 0, t, h => by
    have h : nxt l t = some u := h
    simp only [wlkN, h]
  | m + 1, t, h => by
    simp only [wlkN] at h ⊢
    cases hn : nxt l t with
    | none => rw [hn] at h; simp only at h; rw [hn] at h; cases h
    | some t' =>
      rw [hn] at h
      simp only at h ⊢
      exact wlkN_snoc m t' h
theorem wlkN_done {l : Bs} : ∀ (m : Nat) (t : Tm), nxt l (wlkN l m t) = none → ∀ k, m ≤ k → wlkN l k t = wlkN l m t
  | 0, t, h, k, _ => wlkN_end h k
  | m + 1, t, h, 0, hk => by omega
  | m + 1, t, h, k + 1, hk => by
    simp only [wlkN] at h ⊢
    cases hn : nxt l t with
    | none => rfl
    | some u =>
      rw [hn] at h
      simp only at h ⊢
      exact wlkN_done m u h k (by omega)
mutual
/-- The variables that are met: a bound one's arguments are not. -/
def Tm.eo (l : Bs) : Tm → List Int
  | ⟨k, s, n, asL⟩ => if k = 1 then (if (ofB l n).isSome then [n] else n :: eoL l asL) else eoL l asL
def eoL (l : Bs) : List Tm → List Int
  | [] => []
  | t :: ts => t.eo l ++ eoL l ts
end
theorem eoL_mem {l : Bs} {n : Int} : ∀ {ts : List Tm}, n ∈ eoL l ts ↔ ∃ t ∈ ts, n ∈ t.eo l
  | [] => by simp [eoL]
  | t :: ts => by simp [eoL, eoL_mem (ts := ts)]
theorem eo_def (l : Bs) (t : Tm) : t.eo l = if t.k = 1 then (if (ofB l t.n).isSome then [t.n] else t.n :: eoL l t.l) else eoL l t.l := by
  cases t; rfl
theorem eo_self {l : Bs} {t : Tm} (h : t.k = 1) : t.n ∈ t.eo l := by
  rw [eo_def, if_pos h]
  split <;> simp
/-- No circle: a rank that falls from each variable to those that it is bound to. -/
def Acyc (l : Bs) : Prop := ∃ r : Int → Nat, ∀ v t, ofB l v = some t → ∀ n ∈ t.eo l, r n < r v
theorem acyc_nil : Acyc [] := ⟨fun _ => 0, fun v t h => by simp [ofB] at h⟩
theorem nodup_le : ∀ (xs ys : List Int), xs.Nodup → (∀ x ∈ xs, x ∈ ys) → xs.length ≤ ys.length
  | [], ys, _, _ => Nat.zero_le _
  | x :: xs, ys, hn, hs => by
    have hn' := List.nodup_cons.1 hn
    have hx := hs x (by simp)
    have := nodup_le xs (ys.erase x) hn'.2 (fun y hy => (List.mem_erase_of_ne (fun e => hn'.1 (by rw [← e]; exact hy))).2 (hs y (by simp [hy])))
    rw [List.length_erase_of_mem hx] at this
    have := List.length_pos_of_mem hx
    simp only [List.length_cons]
    omega
theorem chain {l : Bs} {r : Int → Nat} (hr : ∀ v t, ofB l v = some t → ∀ n ∈ t.eo l, r n < r v) : ∀ (m : Nat) (t : Tm) (seen : List Int), seen.Nodup → (∀ s ∈ seen, s ∈ l.map Prod.fst) → (t.k = 1 → ∀ s ∈ seen, r t.n < r s) → l.length ≤ seen.length + m → nxt l (wlkN l m t) = none
  | m, t, seen, hn, hk, ht, hl => by
    cases hx : nxt l t with
    | none => rw [wlkN_end hx]; exact hx
    | some u =>
      unfold nxt at hx
      split at hx
      · rename_i h1
        have hn2 : (t.n :: seen).Nodup := List.nodup_cons.2 ⟨fun h => by have := ht h1 _ h; omega, hn⟩
        have hk2 : ∀ s ∈ t.n :: seen, s ∈ l.map Prod.fst := fun s hs => by
          rcases List.mem_cons.1 hs with rfl | hs
          · exact ofB_key hx
          · exact hk s hs
        cases m with
        | zero =>
          have := nodup_le _ _ hn2 hk2
          simp at this; omega
        | succ m =>
          simp only [wlkN, nxt, if_pos h1, hx]
          refine chain hr m u (t.n :: seen) hn2 hk2 (fun hu s hs => ?_) (by simp; omega)
          have hlt := hr _ _ hx u.n (eo_self hu)
          rcases List.mem_cons.1 hs with rfl | hs
          · exact hlt
          · exact Nat.lt_trans hlt (ht h1 s hs)
      · cases hx
theorem Acyc.ended {l : Bs} (h : Acyc l) (t : Tm) : nxt l (wlk l t) = none := by
  obtain ⟨r, hr⟩ := h
  exact chain hr l.length t [] List.nodup_nil (by simp) (by simp) (by simp)
theorem Acyc.ge {l : Bs} (h : Acyc l) (t : Tm) {m : Nat} (hm : l.length ≤ m) : wlkN l m t = wlk l t := wlkN_done _ _ (h.ended t) m hm
theorem Acyc.step {l : Bs} (h : Acyc l) {t u : Tm} (hn : nxt l t = some u) : wlk l t = wlk l u := by
  have h1 := h.ge t (m := l.length + 1) (by omega)
  simp only [wlkN, hn] at h1
  exact h1.symm
theorem wlk_stop {l : Bs} {t : Tm} (hn : nxt l t = none) : wlk l t = t := wlkN_end hn _
/-- Where a walk of the program stands behind m steps, it is not at its end just if there are steps left. -/
theorem Acyc.room {l : Bs} (h : Acyc l) {t u : Tm} {m : Nat} (hn : nxt l (wlkN l m t) = some u) : m < l.length := by
  rcases Nat.lt_or_ge m l.length with hm | hm
  · exact hm
  · rw [h.ge t hm, h.ended t] at hn; cases hn
theorem stop_wlk {l : Bs} (h : Acyc l) {t : Tm} {m : Nat} (hn : nxt l (wlkN l m t) = none) : wlkN l m t = wlk l t := by
  rcases Nat.le_total m l.length with hm | hm
  · exact (wlkN_done _ _ hn _ hm).symm
  · exact h.ge t hm

/-! ### What is visited, what is applied: by fuel that is enough -/
def Fn (l : Bs) : Nat → Tm → Prop
  | 0, _ => False
  | f + 1, t => ∀ a ∈ (wlk l t).l, Fn l f a
def app (l : Bs) : Nat → Tm → Tm
  | 0, t => t
  | f + 1, t => ⟨(wlk l t).k, (wlk l t).s, (wlk l t).n, (wlk l t).l.map (app l f)⟩
def vis (l : Bs) : Nat → Tm → List Tm
  | 0, _ => []
  | f + 1, t => wlk l t :: (wlk l t).l.flatMap (vis l f)
theorem flatMap_congr' {α β : Type} {f g : α → List β} : ∀ {l : List α}, (∀ x ∈ l, f x = g x) → l.flatMap f = l.flatMap g
  | [], _ => rfl
  | x :: l, h => by rw [List.flatMap_cons, List.flatMap_cons, h x (by simp), flatMap_congr' (fun y hy => h y (by simp [hy]))]
theorem Fn.succ {l : Bs} : ∀ {f : Nat} {t : Tm}, Fn l f t → Fn l (f + 1) t ∧ app l (f + 1) t = app l f t ∧ vis l (f + 1) t = vis l f t
  | 0, t, h => h.elim
  | f + 1, t, h => by
    have ih := fun a ha => Fn.succ (h a ha)
    refine ⟨fun a ha => (ih a ha).1, ?_, ?_⟩
    · show Tm.mk _ _ _ _ = Tm.mk _ _ _ _
      rw [List.map_congr_left (fun a ha => (ih a ha).2.1)]
    · show _ :: _ = _ :: _
      rw [flatMap_congr' (fun a ha => (ih a ha).2.2)]
theorem Fn.ge {l : Bs} {f g : Nat} {t : Tm} (h : Fn l f t) (hg : f ≤ g) : Fn l g t ∧ app l g t = app l f t ∧ vis l g t = vis l f t := by
  induction hg with
  | refl => exact ⟨h, rfl, rfl⟩
  | step _ ih =>
    obtain ⟨h1, h2, h3⟩ := ih
    obtain ⟨k1, k2, k3⟩ := h1.succ
    exact ⟨k1, k2.trans h2, k3.trans h3⟩
theorem Fn.pos {l : Bs} {f : Nat} {t : Tm} (h : Fn l f t) : ∃ g, f = g + 1 := by
  cases f with
  | zero => exact h.elim
  | succ g => exact ⟨g, rfl⟩
/-- Fuel, visits, what is applied: of the walked term alone. -/
theorem of_wlk {l : Bs} {t u : Tm} (h : wlk l t = wlk l u) (f : Nat) : (Fn l f t ↔ Fn l f u) ∧ (0 < f → app l f t = app l f u) ∧ vis l f t = vis l f u := by
  cases f with
  | zero => exact ⟨Iff.rfl, fun h => by omega, rfl⟩
  | succ f => exact ⟨by simp only [Fn, h], fun _ => by simp only [app, h], by simp only [vis, h]⟩
theorem fuel_list {l : Bs} : ∀ {ts : List Tm}, (∀ a ∈ ts, ∃ f, Fn l f a) → ∃ f, ∀ a ∈ ts, Fn l f a
  | [], _ => ⟨0, by simp⟩
  | t :: ts, h => by
    obtain ⟨f, hf⟩ := h t (by simp)
    obtain ⟨g, hg⟩ := fuel_list (ts := ts) (fun a ha => h a (by simp [ha]))
    refine ⟨max f g, fun a ha => ?_⟩
    rcases List.mem_cons.1 ha with rfl | ha
    · exact (hf.ge (Nat.le_max_left _ _)).1
    · exact ((hg a ha).ge (Nat.le_max_right _ _)).1
theorem bounded (r : Int → Nat) : ∀ l : List Int, ∃ R, ∀ n ∈ l, r n < R
  | [] => ⟨0, by simp⟩
  | x :: l => by
    obtain ⟨R, h⟩ := bounded r l
    refine ⟨max R (r x + 1), fun n hn => ?_⟩
    rcases List.mem_cons.1 hn with rfl | hn
    · omega
    · have := h n hn; omega
theorem fuel_rank {l : Bs} (hA : Acyc l) {r : Int → Nat} (hr : ∀ v t, ofB l v = some t → ∀ n ∈ t.eo l, r n < r v) : ∀ (R : Nat) (t : Tm), (∀ n ∈ t.eo l, r n < R) → ∃ f, Fn l f t := by
  intro R
  induction R with
  | zero =>
    refine Tm.ind fun t ih ht => ?_
    have he : ∀ n, n ∉ t.eo l := fun n hn => by have := ht n hn; omega
    have hk : t.k ≠ 1 := fun h => he _ (eo_self h)
    have hw : wlk l t = t := wlk_stop (by simp [nxt, hk])
    obtain ⟨f, hf⟩ := fuel_list (l := l) (ts := t.l) (fun a ha => ih a ha (fun n hn => (he n (by rw [eo_def, if_neg hk]; exact eoL_mem.2 ⟨a, ha, hn⟩)).elim))
    exact ⟨f + 1, by simpa only [Fn, hw] using hf⟩
  | succ R ihR =>
    refine Tm.ind fun t ih ht => ?_
    cases hx : nxt l t with
    | some u =>
      have hx' := hx
      unfold nxt at hx
      split at hx
      · rename_i h1
        obtain ⟨f, hf⟩ := ihR u (fun n hn => by
          have h2 := hr _ _ hx n hn
          have h3 := ht t.n (eo_self h1)
          omega)
        exact ⟨f, (of_wlk (hA.step hx') f).1.2 hf⟩
      · cases hx
    | none =>
      have hw : wlk l t = t := wlk_stop hx
      obtain ⟨f, hf⟩ := fuel_list (l := l) (ts := t.l) (fun a ha => ih a ha (fun n hn => ht n (by
        rw [eo_def]
        have hm := eoL_mem.2 ⟨a, ha, hn⟩
        split
        · rename_i h1
          simp only [nxt, if_pos h1] at hx
          simp only [hx, Option.isSome_none, Bool.false_eq_true, if_false]
          exact List.mem_cons_of_mem _ hm
        · exact hm)))
      exact ⟨f + 1, by simpa only [Fn, hw] using hf⟩
theorem Acyc.fuel {l : Bs} (h : Acyc l) (t : Tm) : ∃ f, Fn l f t := by
  have hA := h
  obtain ⟨r, hr⟩ := h
  obtain ⟨R, hR⟩ := bounded r (t.eo l)
  exact fuel_rank hA hr R t hR
def isv (v : Int) (x : Tm) : Bool := decide (x.k = 1 ∧ x.n = v)
theorem eo_vis {l : Bs} (hA : Acyc l) {n : Int} (t : Tm) : ∀ f, Fn l f t → n ∈ t.eo l →
    (ofB l n = none → ∃ x ∈ vis l f t, isv n x = true) ∧ ∀ s, ofB l n = some s → ∃ g, Fn l g s ∧ ∀ x ∈ vis l g s, x ∈ vis l f t := by
  refine Tm.ind (p := fun t => ∀ f, Fn l f t → n ∈ t.eo l →
    (ofB l n = none → ∃ x ∈ vis l f t, isv n x = true) ∧ ∀ s, ofB l n = some s → ∃ g, Fn l g s ∧ ∀ x ∈ vis l g s, x ∈ vis l f t) (fun t ih f hf hn => ?_) t
  obtain ⟨f, rfl⟩ := hf.pos
  have args : nxt l t = none → n ∈ eoL l t.l → (ofB l n = none → ∃ x ∈ vis l (f + 1) t, isv n x = true) ∧ ∀ s, ofB l n = some s → ∃ g, Fn l g s ∧ ∀ x ∈ vis l g s, x ∈ vis l (f + 1) t := fun hx hm => by
    have hw : wlk l t = t := wlk_stop hx
    obtain ⟨a, ha, hna⟩ := eoL_mem.1 hm
    have hfa : Fn l f a := hf a (by rw [hw]; exact ha)
    obtain ⟨h1, h2⟩ := ih a ha f hfa hna
    have hsub : ∀ x ∈ vis l f a, x ∈ vis l (f + 1) t := fun x hx => by
      simp only [vis, hw]
      exact List.mem_cons_of_mem _ (List.mem_flatMap.2 ⟨a, ha, hx⟩)
    exact ⟨fun h => by obtain ⟨x, hx, hi⟩ := h1 h; exact ⟨x, hsub x hx, hi⟩, fun s hs => by obtain ⟨g, hg, hx⟩ := h2 s hs; exact ⟨g, hg, fun x hm => hsub x (hx x hm)⟩⟩
  rw [eo_def] at hn
  split at hn
  · rename_i h1
    split at hn
    · rename_i hb
      obtain rfl : n = t.n := by simpa using hn
      obtain ⟨u, hu⟩ := Option.isSome_iff_exists.1 hb
      refine ⟨fun h => by (rw [h] at hu; cases hu), fun s hs => ?_⟩
      have hst := of_wlk (hA.step (t := t) (u := s) (by simp [nxt, h1, hs])) (f + 1)
      exact ⟨f + 1, hst.1.1 hf, fun x hx => by rw [hst.2.2]; exact hx⟩
    · rename_i hb
      have hb' : ofB l t.n = none := by simpa using hb
      have hx : nxt l t = none := by simp [nxt, hb']
      rcases List.mem_cons.1 hn with rfl | hn
      · refine ⟨fun _ => ⟨t, by simp [vis, wlk_stop hx], by simp [isv, h1]⟩, fun s hs => by rw [hb'] at hs; cases hs⟩
      · exact args hx hn
  · rename_i h1
    exact args (by simp [nxt, h1]) hn
/-- From n on, through bindings, v is met. -/
inductive Rch (l : Bs) (v : Int) : Int → Prop
  | refl : Rch l v v
  | step {u n : Int} {s : Tm} : ofB l u = some s → n ∈ s.eo l → Rch l v n → Rch l v u
theorem Rch.vis {l : Bs} (hA : Acyc l) {v n : Int} (hv : ofB l v = none) (h : Rch l v n) : ∀ t f, Fn l f t → n ∈ t.eo l → ∃ x ∈ vis l f t, isv v x = true := by
  induction h with
  | refl => exact fun t f hf hn => (eo_vis hA t f hf hn).1 hv
  | step hs hn _ ih =>
    intro t f hf hu
    obtain ⟨g, hg, hsub⟩ := (eo_vis hA t f hf hu).2 _ hs
    obtain ⟨x, hx, hi⟩ := ih _ g hg hn
    exact ⟨x, hsub x hx, hi⟩
mutual
theorem eo_more {l m : Bs} {n : Int} : ∀ (t : Tm), n ∈ t.eo (l ++ m) → n ∈ t.eo l
  | ⟨k, s, q, asL⟩, h => by
    simp only [Tm.eo] at h ⊢
    split at h
    · rename_i hk
      rw [if_pos hk]
      cases ho : ofB l q with
      | some u =>
        simp only [ofB_append, ho, Option.isSome_some, if_true] at h ⊢
        exact h
      | none =>
        simp only [ofB_append, ho] at h
        simp only [Option.isSome_none, Bool.false_eq_true, if_false]
        split at h
        · simp only [List.mem_singleton] at h; simp [h]
        · rcases List.mem_cons.1 h with rfl | h
          · simp
          · exact List.mem_cons_of_mem _ (eoL_more asL h)
    · rename_i hk
      rw [if_neg hk]
      exact eoL_more asL h
theorem eoL_more {l m : Bs} {n : Int} : ∀ (asL : List Tm), n ∈ eoL (l ++ m) asL → n ∈ eoL l asL
  | [], h => h
  | t :: ts, h => by
    simp only [eoL, List.mem_append] at h ⊢
    exact h.imp (eo_more t) (eoL_more ts)
end
open Classical in
/-- One more that may be bound. -/
theorem Acyc.bind {l : Bs} (h : Acyc l) {v : Int} {t : Tm} (hv : ofB l v = none) {f : Nat} (hf : Fn l f t) (hno : ∀ x ∈ vis l f t, isv v x = false) : Acyc (l ++ [(v, t)]) := by
  have hA := h
  obtain ⟨r, hr⟩ := h
  obtain ⟨M, hM⟩ := bounded r (t.eo l)
  refine ⟨fun n => r n + if Rch l v n then M else 0, fun u s hs n hn => ?_⟩
  replace hn := eo_more s hn
  rw [ofB_append] at hs
  cases ho : ofB l u with
  | some s' =>
    rw [ho] at hs
    injection hs with hs
    subst hs
    have h1 := hr _ _ ho n hn
    by_cases hR : Rch l v n
    · have hu : Rch l v u := .step ho hn hR
      simp only [if_pos hR, if_pos hu]; omega
    · simp only [if_neg hR]; split <;> omega
  | none =>
    rw [ho, ofB_one] at hs
    simp only at hs
    split at hs
    · rename_i e
      subst e
      injection hs with hs
      subst hs
      have hR : ¬ Rch l v n := fun hR => by
        obtain ⟨x, hx, hi⟩ := hR.vis hA hv _ f hf hn
        rw [hno x hx] at hi; cases hi
      have := hM n hn
      simp only [if_neg hR, if_pos (Rch.refl (l := l) (v := v))]
      omega
    · cases hs

/-! ### The reference's list of what is to do -/
def run (l : Bs) : Nat → List Tm → List Tm
  | 0, _ => []
  | _ + 1, [] => []
  | m + 1, t :: ts => wlk l t :: run l m ((wlk l t).l ++ ts)
theorem run_vis {l : Bs} {f : Nat} : ∀ (m : Nat) (ts : List Tm), (∀ t ∈ ts, Fn l f t) → run l m ts = (ts.flatMap (vis l f)).take m
  | 0, ts, _ => by simp [run]
  | m + 1, [], _ => by simp [run]
  | m + 1, t :: ts, h => by
    obtain ⟨g, rfl⟩ := (h t (by simp)).pos
    have ha : ∀ a ∈ (wlk l t).l, Fn l g a := h t (by simp)
    simp only [run, List.flatMap_cons]
    rw [run_vis (f := g + 1) m _ (fun a hm => by
      rcases List.mem_append.1 hm with hm | hm
      · exact (ha a hm).succ.1
      · exact h a (by simp [hm]))]
    rw [List.flatMap_append, flatMap_congr' (fun a hm => (ha a hm).succ.2.2)]
    simp only [vis, List.cons_append, List.take_succ_cons]
/-- Whether v is among what is visited, and the error. -/
def occE (P : List Tm) (v : Int) : Bool × Int := if (P.take 4096).any (isv v) then (true, 0) else if 4096 < P.length then (false, 31) else (false, 0)
/-- What binding tells. -/
def bindE (l : Bs) (v : Int) (P : List Tm) : Int := if (ofB l v).isSome || decide (v < 0) then 1 else if (occE P v).2 ≠ 0 then (occE P v).2 else if (occE P v).1 then 1 else 0
theorem bindE_ok {l : Bs} {v : Int} {P : List Tm} (h : bindE l v P = 0) : ofB l v = none ∧ 0 ≤ v ∧ P.length ≤ 4096 ∧ ∀ x ∈ P, isv v x = false := by
  unfold bindE at h
  split at h
  · cases h
  · rename_i h1
    simp only [Bool.or_eq_true, decide_eq_true_eq, not_or, Option.not_isSome_iff_eq_none] at h1
    unfold occE at h
    split at h
    · rename_i h2
      simp at h
    · rename_i h2
      split at h
      · simp at h
      · rename_i h3
        refine ⟨h1.1, by omega, by omega, fun x hx => ?_⟩
        rw [List.take_of_length_le (by omega)] at h2
        simp only [List.any_eq_true, not_exists, not_and, Bool.not_eq_true] at h2
        exact h2 x hx
theorem Acyc.bound {l : Bs} (h : Acyc l) {v : Int} {t : Tm} {f : Nat} (hf : Fn l f t) (hb : bindE l v (vis l f t) = 0) : Acyc (l ++ [(v, t)]) :=
  h.bind (bindE_ok hb).1 hf (bindE_ok hb).2.2.2
end Go.Proofs.YtgcbanljifalnaaGreatDoor
/- Walks of layer 1's reference and of the law's own helpers: what each call hands back, every block that was there being kept. Walks of layer 1's reference, second part: sizes, depths, names, shapes; how many nodes. Walks of layer 1, third part: goodness by the reference, how many nodes, the reference's variables, structures. Conditions: the arguments read; terms of at most a million nodes, where a statement says so. -/
namespace Go.Proofs.YtgcbanljifalnaaGreatDoor
open Go.RowKit

theorem ret_bool {a b : Bool} (h : a = b) : Ending.returned (.bool a) = .returned (.bool b) := by rw [h]
theorem ret_int {k : IntKind} {a b : Int} (h : a = b) : Ending.returned (.int k a) = .returned (.int k b) := by rw [h]
theorem below_drewc {B : Nat} {w W w1 : World} (h : Below B w W) (hB : B ≤ W.heap.size) (k : Below W.drew.heap.size W.drew w1) : Below B w w1 := below_then h.drew hB k
theorem toList_inj {s s' : ByteArray} (h : s.toList = s'.toList) : s = s' := by
  rw [ByteArray.toList_eq, ByteArray.toList_eq] at h
  exact WideShapes.bytes_inj h
open Go.RowKit

theorem V_c (n : Int) (w : World) (ok : Nat → Prop) :
    Calls Tryz.prog 21 #[.int .i64 n] w fun e w' => e = .returned (.agg #[.int .u8 1, .string ⟨#[]⟩, .int .i64 n, .slice none 0 0]) ∧ Below w.heap.size w w' := by
  go_enter Tryz.func21, Tryz.ntmps21
  go_wp2
  exact bodyPost_ret (v := .agg #[.int .u8 1, .string ⟨#[]⟩, .int .i64 n, .slice none 0 0]) (by simp [results, Tryz.results21, go_sem]) rfl ⟨rfl, (Below.refl _ _).alloc (Nat.le_refl _) _⟩
theorem I_c (n : Int) (w : World) (ok : Nat → Prop) :
    Calls Tryz.prog 40 #[.int .i64 n] w fun e w' => e = .returned (.agg #[.int .u8 2, .string ⟨#[]⟩, .int .i64 n, .slice none 0 0]) ∧ Below w.heap.size w w' := by
  go_enter Tryz.func40, Tryz.ntmps40
  go_wp2
  exact bodyPost_ret (v := .agg #[.int .u8 2, .string ⟨#[]⟩, .int .i64 n, .slice none 0 0]) (by simp [results, Tryz.results40, go_sem]) rfl ⟨rfl, (Below.refl _ _).alloc (Nat.le_refl _) _⟩
theorem A_c (s : ByteArray) (w : World) (ok : Nat → Prop) :
    Calls Tryz.prog 41 #[.string s] w fun e w' => e = .returned (.agg #[.int .u8 3, .string s, .int .i64 0, .slice none 0 0]) ∧ Below w.heap.size w w' := by
  go_enter Tryz.func41, Tryz.ntmps41
  go_wp2
  exact bodyPost_ret (v := .agg #[.int .u8 3, .string s, .int .i64 0, .slice none 0 0]) (by simp [results, Tryz.results41, go_sem]) rfl ⟨rfl, (Below.refl _ _).alloc (Nat.le_refl _) _⟩

theorem Depth_c (t : Tm) : ∀ (v : Value) (w : World) (ok : Nat → Prop), TmV w ok t v → t.siz ≤ 1000000 → Calls Tryz.prog 54 #[v] w fun e w' => e = .returned (.int .i64 t.dep) ∧ Below w.heap.size w w' := by
  refine Tm.ind (p := fun t => ∀ (v : Value) (w : World) (ok : Nat → Prop), TmV w ok t v → t.siz ≤ 1000000 → Calls Tryz.prog 54 #[v] w fun e w' => e = .returned (.int .i64 t.dep) ∧ Below w.heap.size w w') ?_ t
  intro t ih v w ok hv hz
  obtain ⟨u, rfl, A, c, rfl, hl, hc, hA⟩ := hv
  obtain ⟨k, s, n, l⟩ := t
  simp only [Tm.siz, Tm.dep] at hl hA ih hz ⊢
  unfold maxLen at hc
  have hdz := depL_le l
  go_enter Tryz.func54, Tryz.ntmps54
  go_wp2
  go_loopw [3, 4] (fun m i wr => ∃ j d : Nat, j ≤ l.length ∧ i = .int .i64 j ∧ m = .int .i64 d ∧ d ≤ 1000000 ∧ Hid (d = depL (l.take j)) ∧ Below (w.heap.size + 1) (w.alloc (.cells #[.int .u8 k, .string s, .int .i64 n, .slice A l.length c] 30)) wr) (fun _ i _ => l.length - (intOf i).toNat)
  case atStart => exact ⟨0, 0, Nat.zero_le _, rfl, rfl, by omega, Lib.hid (by simp [depL]), Below.refl _ _⟩
  case round =>
    obtain ⟨j, d, hj, rfl, rfl, hd, hdd, hb⟩ := hrel
    have hc3 : wr.cell? ⟨w.heap.size, 3, none⟩ = some (.slice A l.length c) := cell_below hb (by simp) (Nat.lt_succ_self _)
    have hb' : Below w.heap.size w wr := ((Below.refl _ w).alloc (Nat.le_refl _) _).trans (hb.mono (Nat.le_succ _))
    have hsz := hb.size
    simp only [World.size_alloc] at hsz
    by_cases hlt : j < l.length
    · obtain ⟨b, o, u, rfl, hok, hlo, h0, h1, h2, h3, h4⟩ := tm_elem hA hlt
      have g0 := cell_below hb' h0 hlo
      have g1 := cell_below hb' h1 hlo
      have g2 := cell_below hb' h2 hlo
      have g3 := cell_below hb' h3 hlo
      have k4 := h4.below hb'
      have hzj := siz_mem (List.getElem_mem hlt)
      have hdj := dep_le l[j]
      have HS := Lib.hid (ih l[j] (List.getElem_mem hlt) _ wr ok ⟨u, rfl, k4⟩ (by omega))
      clear hA h0 h1 h2 h3 h4 ih
      have hn' : Hid (max d l[j].dep = depL (l.take (j + 1))) := Lib.hid (by rw [take_succ_at l hlt, depL_append, hdd.out]; simp [depL])
      clear hdd
      go_wp2_with (go_at_call 54; refine HS.out.mono ?_; rintro e w1 ⟨rfl, hb1⟩)
      go_roundw
      case rel => exact ⟨j + 1, max d l[j].dep, by omega, by go_num, by first | rfl | (congr 1; split <;> omega), by omega, hn', hb.trans (hb1.mono hsz)⟩
      case measure => simp [intOf]; omega
    · clear hA ih
      have hx := hdd.out
      rw [List.take_of_length_le (by omega)] at hx
      have HX := Lib.hid hx
      clear hx hdd
      go_wp2
      go_ret
      exact ⟨ret_int (by rw [HX.out]; omega), hb'⟩

def chOk (c : Nat) : Bool := decide ((32 ≤ c ∧ c ≤ 126) ∨ c = 9 ∨ c = 10)
theorem chOk_no {c : Nat} (h : ((c : Int) < 32 ∨ 126 < (c : Int)) ∧ ¬ (c : Int) = 9 ∧ ¬ (c : Int) = 10) : chOk c = false := by
  simp only [chOk, decide_eq_false_iff_not]; omega
theorem chOk_yes {c : Nat} (h : ((32 ≤ (c : Int)) ∧ (c : Int) ≤ 126) ∨ (c : Int) = 9 ∨ (c : Int) = 10) : chOk c = true := by
  simp only [chOk, decide_eq_true_eq]; omega
theorem nameOk_eq (s : ByteArray) : nameOk s = (decide (s.size ≤ 32) && s.data.toList.all fun c => chOk c.toNat) := rfl
theorem bytes_take {s : ByteArray} {j : Nat} (hj : j < s.size) : s.data.toList.take (j + 1) = s.data.toList.take j ++ [s[j]] := by
  rw [List.take_succ_eq_append_getElem (by simpa using hj)]; rfl
theorem Name_c (s : ByteArray) (w : World) (hs : s.size ≤ 140737488351232) :
    Calls Tryz.prog 93 #[.string s] w fun e w' => e = .returned (.bool (nameOk s)) ∧ Below w.heap.size w w' := by
  go_enter Tryz.func93, Tryz.ntmps93
  go_wp2
  go_loopw [3] (fun i wr => ∃ j : Nat, j ≤ s.size ∧ i = .int .i64 j ∧ Hid ((s.data.toList.take j).all (fun c => chOk c.toNat) = true) ∧ Below w.heap.size w wr) (fun i _ => s.size - (intOf i).toNat)
  case atStart => exact ⟨0, Nat.zero_le _, rfl, Lib.hid (by simp), Below.refl _ _⟩
  case round =>
    obtain ⟨j, hj, rfl, hn, hb⟩ := hrel
    by_cases hlt : j < s.size
    · have hch : Hid ((s.data.toList.take (j + 1)).all (fun c => chOk c.toNat) = chOk s[j].toNat) := Lib.hid (by rw [bytes_take hlt, List.all_append, hn.out]; simp)
      have hno : Hid (chOk s[j].toNat = false → nameOk s = false) := Lib.hid (by
        intro h
        rw [nameOk_eq]
        have : (s.data.toList.all fun c => chOk c.toNat) = false := by
          rw [List.all_eq_false]
          exact ⟨s[j], by simp [ByteArray.getElem_eq_getElem_data], by simp [h]⟩
        simp [this])
      have hc8 : s[j].toNat ≤ 255 := by have := s[j].toNat_lt; omega
      clear hn
      go_wp2
      all_goals first
        | (go_ret; exact ⟨ret_bool (hno.out (chOk_no (by go_light; (try simp only [bne_iff_ne, ne_eq, bne_eq_false_iff_eq] at *); omega))).symm, hb⟩)
        | (go_roundw
           case rel => exact ⟨j + 1, by omega, by go_num, Lib.hid (hch.out.trans (chOk_yes (by go_light; (try simp only [bne_iff_ne, ne_eq, bne_eq_false_iff_eq] at *); omega))), hb⟩
           case measure => simp [intOf]; omega)
    · have hx := hn.out
      rw [List.take_of_length_le (by simp; omega)] at hx
      have HX : Hid (nameOk s = decide ((s.size : Int) ≤ 32)) := Lib.hid (by rw [nameOk_eq, hx, Bool.and_true, decide_eq_decide]; omega)
      clear hx hn
      go_wp2
      go_ret
      exact ⟨ret_bool (by rw [HX.out]), hb⟩

/-- What is asked of a node, but for its arguments. -/
def nodeOk (k : Int) (s : ByteArray) (n : Int) (len : Int) : Bool :=
  if k = 1 then decide (0 ≤ n) && s.toList.isEmpty && decide (len = 0)
  else if k = 2 then s.toList.isEmpty && decide (len = 0)
  else if k = 3 then decide (n = 0) && decide (len = 0) && nameOk s
  else decide (k = 4) && decide (n = 0) && decide (0 < len) && decide (len ≤ 16) && nameOk s
theorem empty_iff (s : ByteArray) : s.toList.isEmpty = decide (s.size = 0) := by
  rw [ByteArray.toList_eq, Bool.eq_iff_iff, List.isEmpty_iff, decide_eq_true_eq]
  constructor
  · intro h; have := congrArg List.length h; simpa using this
  · intro h; apply List.eq_nil_of_length_eq_zero; simpa using h
theorem shp_eq (k : Int) (s : ByteArray) (n : Int) (l : List Tm) : Tm.shp ⟨k, s, n, l⟩ = (shpL l && nodeOk k s n l.length) := by
  have hl : decide (l = []) = decide ((l.length : Int) = 0) := by
    rw [decide_eq_decide]; constructor
    · rintro rfl; rfl
    · intro h; exact List.eq_nil_of_length_eq_zero (by omega)
  simp only [Tm.shp, nodeOk, empty_iff, hl]
  by_cases h0 : l = []
  · subst h0
    simp [shpL]
  · have : ¬ ((l.length : Int) = 0) := by intro h; exact h0 (List.eq_nil_of_length_eq_zero (by omega))
    simp only [this, decide_false, Bool.and_false, Bool.false_and]
    split
    · simp
    · split
      · simp
      · split
        · simp
        · have e : decide (0 < l.length ∧ l.length ≤ 16) = (decide (0 < (l.length : Int)) && decide ((l.length : Int) ≤ 16)) := by
            rw [Bool.eq_iff_iff]; simp; omega
          rw [e, Bool.and_comm (shpL l)]
          simp only [Bool.and_assoc]
theorem shpL_at_false : ∀ {l : List Tm} {j : Nat} (hj : j < l.length), l[j].shp = false → shpL l = false
  | t :: ts, 0, _, h => by simp only [List.getElem_cons_zero] at h; simp [shpL, h]
  | t :: ts, j + 1, hj, h => by
    simp only [List.getElem_cons_succ] at h
    simp [shpL, shpL_at_false (by simpa using hj) h]

theorem shape_c (t : Tm) : ∀ (v : Value) (w : World) (ok : Nat → Prop), TmV w ok t v → t.Wf → Calls Tryz.prog 55 #[v] w fun e w' => e = .returned (.bool t.shp) ∧ Below w.heap.size w w' := by
  refine Tm.ind (p := fun t => ∀ (v : Value) (w : World) (ok : Nat → Prop), TmV w ok t v → t.Wf → Calls Tryz.prog 55 #[v] w fun e w' => e = .returned (.bool t.shp) ∧ Below w.heap.size w w') ?_ t
  intro t ih v w ok hv hz
  obtain ⟨u, rfl, A, c, rfl, hl, hc, hA⟩ := hv
  obtain ⟨k, s, n, l⟩ := t
  simp only [Tm.Wf] at hl hA ih hz ⊢
  obtain ⟨-, -, hsz0, hwf⟩ := hz
  unfold maxLen at hc
  have HX := Lib.hid (shp_eq k s n l)
  have HN := Lib.hid (fun W => Name_c s W hsz0)
  clear hsz0
  go_enter Tryz.func55, Tryz.ntmps55
  go_wp2_with fail
  go_loopw [3] (fun i wr => ∃ j : Nat, j ≤ l.length ∧ i = .int .i64 j ∧ Hid (shpL (l.take j) = true) ∧ Below (w.heap.size + 1) (w.alloc (.cells #[.int .u8 k, .string s, .int .i64 n, .slice A l.length c] 30)) wr) (fun i _ => l.length - (intOf i).toNat)
  case atStart => exact ⟨0, Nat.zero_le _, rfl, Lib.hid (by simp [shpL]), Below.refl _ _⟩
  case round =>
    obtain ⟨j, hj, rfl, hdd, hb⟩ := hrel
    have hc3 : wr.cell? ⟨w.heap.size, 3, none⟩ = some (.slice A l.length c) := cell_below hb (by simp) (Nat.lt_succ_self _)
    have hb' : Below w.heap.size w wr := ((Below.refl _ w).alloc (Nat.le_refl _) _).trans (hb.mono (Nat.le_succ _))
    have hsz := hb.size
    simp only [World.size_alloc] at hsz
    by_cases hlt : j < l.length
    · obtain ⟨b, o, u, rfl, hok, hlo, h0, h1, h2, h3, h4⟩ := tm_elem hA hlt
      have g0 := cell_below hb' h0 hlo
      have g1 := cell_below hb' h1 hlo
      have g2 := cell_below hb' h2 hlo
      have g3 := cell_below hb' h3 hlo
      have k4 := h4.below hb'
      have HS := Lib.hid (ih l[j] (List.getElem_mem hlt) _ wr ok ⟨u, rfl, k4⟩ (WfL_at hwf hlt))
      clear hA h0 h1 h2 h3 h4 ih
      by_cases hs : l[j].shp = true
      · have hn' : Hid (shpL (l.take (j + 1)) = true) := Lib.hid (by rw [take_succ_at l hlt, shpL_append, hdd.out]; simp [shpL, hs])
        clear hdd
        go_wp2_with (go_at_call 55; refine HS.out.mono ?_; rintro e w1 ⟨rfl, hb1⟩)
        go_roundw
        case rel => exact ⟨j + 1, by omega, by go_num, hn', hb.trans (hb1.mono hsz)⟩
        case measure => simp [intOf]; omega
      · have hs' : l[j].shp = false := by simpa using hs
        have HF := Lib.hid (shpL_at_false hlt hs')
        clear hdd hs
        go_wp2_with (go_at_call 55; refine HS.out.mono ?_; rintro e w1 ⟨rfl, hb1⟩)
        go_ret
        exact ⟨ret_bool (by rw [HX.out, HF.out]; rfl), hb'.trans (hb1.mono (by omega))⟩
    · clear hA ih
      have hx := hdd.out
      rw [List.take_of_length_le (by omega)] at hx
      have HY : Hid (Tm.shp ⟨k, s, n, l⟩ = nodeOk k s n l.length) := Lib.hid (by rw [HX.out, hx]; rfl)
      have hc0 : wr.cell? ⟨w.heap.size, 0, none⟩ = some (.int .u8 k) := cell_below hb (by simp) (Nat.lt_succ_self _)
      have hc1 : wr.cell? ⟨w.heap.size, 1, none⟩ = some (.string s) := cell_below hb (by simp) (Nat.lt_succ_self _)
      have hc2 : wr.cell? ⟨w.heap.size, 2, none⟩ = some (.int .i64 n) := cell_below hb (by simp) (Nat.lt_succ_self _)
      clear hx hdd HX
      clear hwf hb
      by_cases k1 : k = 1
      · subst k1
        go_wp2
        all_goals go_ret
        all_goals exact ⟨ret_bool (by rw [HY.out]; generalize hL : (l.length : Int) = L at *; go_light; simp [nodeOk, *] <;> first | (intros; omega) | (rw [Bool.eq_iff_iff]; simp; done) | (subst hL; simp_all; done) | (subst hL; intros; simp_all)), hb'⟩
      · by_cases k2 : k = 2
        · subst k2
          go_wp2
          all_goals go_ret
          all_goals exact ⟨ret_bool (by rw [HY.out]; generalize hL : (l.length : Int) = L at *; go_light; simp [nodeOk, *] <;> first | (intros; omega) | (rw [Bool.eq_iff_iff]; simp; done) | (subst hL; simp_all; done) | (subst hL; intros; simp_all)), hb'⟩
        · by_cases k3 : k = 3
          · subst k3
            by_cases n0 : n = 0
            · subst n0
              go_wp2_with (go_at_call 93; refine (HN.out _).mono ?_; rintro e w1 ⟨rfl, hb1⟩)
              all_goals go_ret
              all_goals exact ⟨ret_bool (by rw [HY.out]; generalize hL : (l.length : Int) = L at *; go_light; simp [nodeOk, *] <;> first | (intros; omega) | (rw [Bool.eq_iff_iff]; simp; done) | (subst hL; simp_all; done) | (subst hL; intros; simp_all)), by first | exact hb' | exact below_then hb' (by omega) hb1⟩
            · have n0' : (n == 0) = false := by simpa using n0
              go_wp2
              all_goals go_ret
              all_goals exact ⟨ret_bool (by rw [HY.out]; generalize hL : (l.length : Int) = L at *; go_light; simp [nodeOk, *] <;> first | (intros; omega) | (rw [Bool.eq_iff_iff]; simp; done) | (subst hL; simp_all; done) | (subst hL; intros; simp_all)), hb'⟩
          · have k1' : (k == 1) = false := by simpa using k1
            have k2' : (k == 2) = false := by simpa using k2
            have k3' : (k == 3) = false := by simpa using k3
            by_cases k4 : k = 4
            · subst k4
              by_cases n0 : n = 0
              · subst n0
                go_wp2_with (go_at_call 93; refine (HN.out _).mono ?_; rintro e w1 ⟨rfl, hb1⟩)
                all_goals go_ret
                all_goals exact ⟨ret_bool (by rw [HY.out]; generalize hL : (l.length : Int) = L at *; go_light; simp [nodeOk, *] <;> first | (intros; omega) | (rw [Bool.eq_iff_iff]; simp; done) | (subst hL; simp_all; done) | (subst hL; intros; simp_all)), by first | exact hb' | exact below_then hb' (by omega) hb1⟩
              · have n0' : (n == 0) = false := by simpa using n0
                go_wp2
                all_goals go_ret
                all_goals exact ⟨ret_bool (by rw [HY.out]; generalize hL : (l.length : Int) = L at *; go_light; simp [nodeOk, *] <;> first | (intros; omega) | (rw [Bool.eq_iff_iff]; simp; done) | (subst hL; simp_all; done) | (subst hL; intros; simp_all)), hb'⟩
            · have k4' : (k == 4) = false := by simpa using k4
              go_wp2
              all_goals go_ret
              all_goals exact ⟨ret_bool (by rw [HY.out]; generalize hL : (l.length : Int) = L at *; go_light; simp [nodeOk, *] <;> first | (intros; omega) | (rw [Bool.eq_iff_iff]; simp; done) | (subst hL; simp_all; done) | (subst hL; intros; simp_all)), hb'⟩

open Go.RowKit

theorem refGood_c (t : Tm) (v : Value) (w : World) (ok : Nat → Prop) (hv : TmV w ok t v) (hz : t.siz ≤ 1000000) (hwf : t.Wf) :
    Calls Tryz.prog 25 #[v] w fun e w' => e = .returned (.bool t.good) ∧ Below w.heap.size w w' := by
  have HD := Lib.hid (fun (W : World) (hW : Below w.heap.size w W) => Depth_c t v W ok (hv.below hW) hz)
  have HS := Lib.hid (fun (W : World) (hW : Below w.heap.size w W) => shape_c t v W ok (hv.below hW) hwf)
  obtain ⟨u, rfl, A, c, rfl, hl, hc, hA⟩ := hv
  have hst : ∀ O : Obj, Below w.heap.size w (w.alloc O) := fun O => (Below.refl _ w).alloc (Nat.le_refl _) O
  clear hl hc hA hwf hz
  by_cases hd : t.dep ≤ 64
  · have HX : Hid (t.good = t.shp) := Lib.hid (by simp [Tm.good, hd])
    have hd' : (t.dep : Int) ≤ 64 := by omega
    go_enter Tryz.func25, Tryz.ntmps25
    go_wp2_with (first | (go_at_call 54; refine (HD.out _ (hst _)).mono ?_; rintro e w1 ⟨rfl, hb1⟩; have hb2 := below_then (hst _) (by simp) hb1; have c0 : w1.cell? ⟨w.heap.size, 0, none⟩ = some (.int .u8 t.k) := cell_below hb1 (by simp) (by simp); have c1 : w1.cell? ⟨w.heap.size, 1, none⟩ = some (.string t.s) := cell_below hb1 (by simp) (by simp); have c2 : w1.cell? ⟨w.heap.size, 2, none⟩ = some (.int .i64 t.n) := cell_below hb1 (by simp) (by simp); have c3 : w1.cell? ⟨w.heap.size, 3, none⟩ = some (.slice A t.l.length c) := cell_below hb1 (by simp) (by simp)) | (go_at_call 55; refine (HS.out _ (by assumption)).mono ?_; rintro e w2 ⟨rfl, hb3⟩))
    go_ret
    exact ⟨ret_bool (by rw [HX.out]), below_then hb2 hb2.size hb3⟩
  · have HX : Hid (t.good = false) := Lib.hid (by simp [Tm.good, hd])
    have hd' : ¬ (t.dep : Int) ≤ 64 := by omega
    go_enter Tryz.func25, Tryz.ntmps25
    go_wp2_with (go_at_call 54; refine (HD.out _ (hst _)).mono ?_; rintro e w1 ⟨rfl, hb1⟩; have hb2 := below_then (hst _) (by simp) hb1)
    go_ret
    exact ⟨ret_bool (by rw [HX.out]), hb2⟩

theorem many_k (k : Nat) : ∀ (l : List Tm) (n : Nat) (v : Value) (w : World) (ok : Nat → Prop), sizL l < k → Kd.tm.S w ok l v → WfL l → n ≤ 2000000000000000 →
    Calls Tryz.prog 74 #[v, .int .i64 n] w fun e w' => e = .returned (.int .i64 (manyL l n : Nat)) ∧ Below w.heap.size w w' := by
  induction k with
  | zero => intro l n v w ok hk; omega
  | succ k ih =>
    intro l n v w ok hk hv hwf hn
    obtain ⟨A, c, rfl, hl, hc, hA⟩ := hv
    unfold maxLen at hc
    have hlz := length_le_sizL l
    go_enter Tryz.func74, Tryz.ntmps74
    go_wp2_with fail
    go_loopw [1, 5] (fun m i wr => ∃ j d : Nat, j ≤ l.length ∧ i = .int .i64 j ∧ m = .int .i64 d ∧ d ≤ 2000000000000000 ∧ Hid (manyL (l.drop j) d = manyL l n) ∧ Below w.heap.size w wr) (fun _ i _ => l.length - (intOf i).toNat)
    case atStart => exact ⟨0, n, Nat.zero_le _, rfl, rfl, hn, Lib.hid (by simp), Below.refl _ _⟩
    case round =>
      obtain ⟨j, d, hj, rfl, rfl, hd, hdd, hb⟩ := hrel
      by_cases hlt : j < l.length
      · by_cases hd2 : d < 2000
        · have hd2' : (d : Int) < 2000 := by omega
          obtain ⟨b, o, u, rfl, hok, hlo, h0, h1, h2, h3, h4⟩ := tm_elem hA hlt
          have g0 := cell_below hb h0 hlo
          have g1 := cell_below hb h1 hlo
          have g2 := cell_below hb h2 hlo
          have g3 := cell_below hb h3 hlo
          have k4 := h4.below hb
          have hzj := siz_mem (List.getElem_mem hlt)
          have hwj := (WfL_at hwf hlt).parts
          have hsj := hwj.2.2.1
          have hkl : sizL l[j].l < k := by
            have : l[j].siz = sizL l[j].l + 1 := by cases l[j]; rfl
            omega
          have hwl := hwj.2.2.2
          have hmj : l[j].many d = manyL l[j].l (d + 1 + l[j].s.size / 200 * 2000) := by cases l[j]; simp [Tm.many]
          have HS : Hid (∀ (W : World) (hW : Below wr.heap.size wr W), Calls Tryz.prog 74 #[u, .int .i64 ((d : Int) + 1 + (l[j].s.size : Int) / 200 * 2000)] W fun e w' => e = .returned (.int .i64 (l[j].many d : Nat)) ∧ Below W.heap.size W w') := Lib.hid (fun W hW => by
            have := ih l[j].l (d + 1 + l[j].s.size / 200 * 2000) u W ok hkl (k4.below hW) hwl (by omega)
            rw [hmj]
            rwa [show ((d + 1 + l[j].s.size / 200 * 2000 : Nat) : Int) = (d : Int) + 1 + (l[j].s.size : Int) / 200 * 2000 by omega] at this)
          clear hmj
          have hml := Tm.many_le l[j] d (WfL_at hwf hlt) hd2
          have hn' : Hid (manyL (l.drop (j + 1)) (l[j].many d) = manyL l n) := Lib.hid (by
            rw [← hdd.out, List.drop_eq_getElem_cons hlt]
            simp only [manyL]
            rw [if_pos hd2])
          clear hA h0 h1 h2 h3 h4 ih hwj hwl hdd hwf k4 hkl hzj
          go_wp2_with fail
          go_still_tail 16, (by kernel_rfl)
          go_wp2_with (go_at_call 74; refine (HS.out _ (Below.refl _ wr).drew).mono ?_; rintro e w1 ⟨rfl, hb1⟩)
          go_roundw
          case rel => exact ⟨j + 1, l[j].many d, by omega, by go_num, rfl, hml, hn', below_drewc hb hb.size hb1⟩
          case measure => simp [intOf]; omega
        · have hd2' : ¬ (d : Int) < 2000 := by omega
          have HX : Hid (manyL l n = d) := Lib.hid (by rw [← hdd.out, manyL_big (by omega)])
          clear hA ih hdd
          go_wp2_with fail
          go_ret
          exact ⟨ret_int (by rw [HX.out]), hb⟩
      · have HX : Hid (manyL l n = d) := Lib.hid (by rw [← hdd.out, List.drop_of_length_le (by omega)]; rfl)
        clear hA ih hdd
        go_wp2_with fail
        go_ret
        exact ⟨ret_int (by rw [HX.out]), hb⟩
theorem Great_c (l : List Tm) (v : Value) (w : World) (ok : Nat → Prop) (hv : Kd.tm.S w ok l v) (hwf : WfL l) :
    Calls Tryz.prog 38 #[v] w fun e w' => e = .returned (.bool (great l)) ∧ Below w.heap.size w w' := by
  have HM := Lib.hid (many_k (sizL l + 1) l 0 v w ok (Nat.lt_succ_self _) hv hwf (by omega))
  have hle := manyL_le l 0 hwf (by omega)
  have HX : Hid (great l = decide (1000 < (manyL l 0 : Int))) := Lib.hid (by rw [great, decide_eq_decide]; omega)
  generalize manyL l 0 = m at *
  go_enter Tryz.func38, Tryz.ntmps38
  go_wp2_with (go_at_call 74; refine HM.out.mono ?_; rintro e w1 ⟨rfl, hb1⟩)
  go_ret
  exact ⟨ret_bool (by rw [HX.out]), hb1⟩
end Go.Proofs.YtgcbanljifalnaaGreatDoor
/- Walks of layer 1, fifth part: structures are made. Conditions: the arguments read; at most a million arguments. -/
namespace Go.Proofs.YtgcbanljifalnaaGreatDoor
open Go.RowKit

theorem Tryz.infoT : (Tryz.prog.info? 30).map (fun i => (i.zero, i.size, i.bytes)) = some (some (.agg #[.int .u8 0, .string ⟨#[]⟩, .int .i64 0, .slice none 0 0]), 4, 56) := by kernel_rfl

theorem Clone_c (l : List Tm) (v : Value) (w : World) (oks oki : Nat → Prop) (hv : Kd.tm.S2 w oks oki l v) (hz : l.length ≤ 1000000) :
    Calls Tryz.prog 56 #[v] w fun e w' => (∃ r, e = .returned r ∧ Kd.tm.Own 30 w' w.heap.size oki l r) ∧ Below w.heap.size w w' := by
  have hv0 := hv
  obtain ⟨A, c, rfl, hl, hc, hA⟩ := hv
  have hnil := @Lib.run_eql_slice_nil Tryz.prog
  cases A with
  | none =>
    obtain ⟨rfl, hc0⟩ : l = [] ∧ c = 0 := by
      rcases hA with ⟨h1, h2⟩ | ⟨b, o, ha, _⟩
      · exact ⟨h1, h2 rfl⟩
      · cases ha
    subst hc0
    clear hA
    go_enter Tryz.func56, Tryz.ntmps56
    go_wp2_with fail
    go_ret
    exact ⟨⟨_, rfl, Kd.Own.nil _ _ _ _ _⟩, Below.refl _ _⟩
  | some ad =>
    have HV := Lib.hid hv0
    have HT := Lib.hid Tryz.infoT
    clear hA hv0
    go_enter Tryz.func56, Tryz.ntmps56
    go_wp2_with (at_builtin; refine Kd.appendS Kd.tm w.heap.size oki (fun b => oks b ∧ b < w.heap.size) (fun b => oki b ∧ b < w.heap.size) rfl (.tmp 5) (.tmp 6) 28 30 (.agg #[.int .u8 0, .string ⟨#[]⟩, .int .i64 0, .slice none 0 0]) 56 rfl Tryz.underlying28 HT.out rfl (by decide) (.slice (some ⟨w.heap.size, 0, none⟩) 0 0) (.slice (some ad) l.length c) [] l rfl rfl ?HO ?HY ?hoky ?hbase ?hl ?_)
    case HO => exact Kd.Own.lit (d := Kd.tm) (xs := []) [] (Nat.le_refl _) rfl (by simp [maxLen]) (fun i x hx => by simp at hx)
    case HY => exact Kd.S2.below ((Below.refl _ w).alloc (Nat.le_refl _) _) (Kd.S2.bound HV.out)
    case hoky => exact fun x cs hk => Kd.tm.mono (fun b hb => ⟨hb.1.1, by simp only [Value.ownBlock]; intro he; injection he; have := hb.1.2; omega⟩) hk
    case hbase => simp
    case hl => simp only [List.length_nil]; omega
    intro v1 w1 hO1 hg1 hat1
    go_wp2_with fail
    go_ret
    exact ⟨⟨_, rfl, hO1⟩, ((Below.refl _ w).alloc (Nat.le_refl _) _).grown hg1 (by simp) (fun k hk => by simp only [Value.ownBlock] at hk; injection hk; omega)⟩

/-- What F makes. -/
def mkF (s : ByteArray) (l : List Tm) : Tm := if l = [] then ⟨3, s, 0, []⟩ else ⟨4, s, 0, l⟩
theorem F_c (s : ByteArray) (l : List Tm) (v : Value) (w : World) (oks oki : Nat → Prop) (hv : Kd.tm.S2 w oks oki l v) (hz : l.length ≤ 1000000) :
    Calls Tryz.prog 29 #[.string s, v] w fun e w' => (∃ r, e = .returned r ∧ TmV w' (fun b => oki b ∨ w.heap.size ≤ b) (mkF s l) r) ∧ Below w.heap.size w w' := by
  have HC := Lib.hid (fun (W : World) (hW : Below w.heap.size w W) => Clone_c l v W _ _ ((Kd.S2.bound hv).below hW) hz)
  obtain ⟨A, c, rfl, hl, hc, hA⟩ := hv
  by_cases h0 : l = []
  · subst h0
    have HX : Hid (mkF s [] = ⟨3, s, 0, []⟩) := Lib.hid rfl
    have HA := Lib.hid (fun W => A_c s W oki)
    clear hA HC
    go_enter Tryz.func29, Tryz.ntmps29
    go_wp2_with (go_at_call 41; refine (HA.out _).mono ?_; rintro e w1 ⟨rfl, hb1⟩; obtain ⟨c0, c1, c2, c3, f0, f1, f2, f3⟩ := box4 (block_below hb1 (by simp) (heap_new w _)))
    refine bodyPost_ret (v := .agg #[.int .u8 3, .string s, .int .i64 0, .slice none 0 0]) (by simp [results, Tryz.results29, go_sem, c0, c1, c2, c3]) rfl ⟨⟨_, rfl, ?_⟩, ?_⟩
    · rw [HX.out]
      exact ⟨_, rfl, Kd.S.nil _ _ _⟩
    · exact (below_then ((Below.refl _ w).alloc (Nat.le_refl _) _) (by simp) hb1).grown (grown_set4 _ _ _ _ _ _) (by have := hb1.size; simp at this; omega) (fun k hk => by injection hk; omega)
  · have h0' : ((l.length : Int) == 0) = false := by
      rw [beq_eq_false_iff_ne]; intro h; exact h0 (List.eq_nil_of_length_eq_zero (by omega))
    have HX : Hid (mkF s l = ⟨4, s, 0, l⟩) := Lib.hid (by unfold mkF; rw [if_neg h0])
    clear hA h0
    go_enter Tryz.func29, Tryz.ntmps29
    go_wp2_with (go_at_call 56; refine (HC.out _ ((Below.refl _ w).alloc (Nat.le_refl _) _)).mono ?_; rintro e w1 ⟨⟨r, rfl, hr⟩, hb1⟩; obtain ⟨A1, q1, rfl⟩ := Kd.Own.form hr; obtain ⟨c0, c1, c2, c3, f0, f1, f2, f3⟩ := box4 (block_below hb1 (by simp) (heap_new w _)))
    refine bodyPost_ret (v := .agg #[.int .u8 4, .string s, .int .i64 0, .slice A1 l.length q1]) (by simp [results, Tryz.results29, go_sem, c0, c1, c2, c3]) rfl ⟨⟨_, rfl, ?_⟩, ?_⟩
    · rw [HX.out]
      refine ⟨_, rfl, ?_⟩
      have hS := Kd.Own.S hr
      simp only [World.size_alloc] at hS
      refine Kd.S.mono ?_ (Kd.S.grown (grown_set4 _ _ _ _ _ _) ?_ hS)
      · rintro b (⟨h1, h2⟩ | h1)
        · exact .inl h1
        · exact .inr (by omega)
      · rintro b (⟨h1, h2⟩ | h1) he
        · injection he; omega
        · injection he; omega
    · exact (below_then ((Below.refl _ w).alloc (Nat.le_refl _) _) (by simp) hb1).grown (grown_set4 _ _ _ _ _ _) (by have := hb1.size; simp at this; omega) (fun k hk => by injection hk; omega)
end Go.Proofs.YtgcbanljifalnaaGreatDoor
/- Maps keyed by int64, elements whatever: what is there, and how many. No condition. -/
namespace Go.Proofs.YtgcbanljifalnaaGreatDoor
open Go.RowKit Go.Maps

/-- Whatever value, read as itself. -/
def rawElem (v : Value) : Option (DataW Value × List MemPlace) := some (.held v, [])
/-- Block b is a map of what M says, sz entries. -/
def MapAt (w : World) (b : Nat) (M : Int → Option Value) (sz : Nat) : Prop :=
  ∃ D : DataW Value, w.ownsMap Tryz.prog 2 rawElem b sz D ∧ Maps.size D = sz ∧ (∀ n, (Lit.int .i64 n).wf = true → Maps.has D (.int .i64 n) = (M n).isSome) ∧ ∀ n v, (Lit.int .i64 n).wf = true → M n = some v → ∀ z, D.atKey (.int .i64 n) z = .held v
theorem Tryz.key64 : Keyed Tryz.prog 2 := int_keyed Tryz.underlying2
theorem MapAt.made (w : World) : MapAt (w.alloc (.map #[] 0)) w.heap.size (fun _ => none) 0 :=
  ⟨.map [], World.ownsMap_made _ _ _ _, rfl, fun n _ => rfl, fun n v _ h => by cases h⟩
theorem MapAt.lt {w : World} {b : Nat} {M : Int → Option Value} {sz : Nat} (h : MapAt w b M sz) : b < w.heap.size := by
  obtain ⟨D, h1, _⟩ := h; exact h1.lt
theorem MapAt.move {w w' : World} {b : Nat} {M : Int → Option Value} {sz : Nat} (h : MapAt w b M sz) (hb : w'.heap[b]? = w.heap[b]?) : MapAt w' b M sz := by
  obtain ⟨D, ⟨es, clock, h1, h2⟩, h3⟩ := h
  exact ⟨D, ⟨es, clock, hb.trans h1, h2⟩, h3⟩
theorem MapAt.not_cells {w : World} {b : Nat} {M : Int → Option Value} {sz : Nat} (h : MapAt w b M sz) : ∀ c t f, w.heap[b]? ≠ some (.cells c t f) := by
  obtain ⟨D, ⟨es, clock, h1, h2⟩, h3⟩ := h
  intro c t f he; rw [h1] at he; cases he
section
variable {P : Program} {ops : Array Oper} {rest : List Oper} {o : Oper} {a : Act} {Q : Exit → Act → World → Prop} {w : World} {b : Nat} {M : Int → Option Value} {sz : Nat}
theorem key_lit (n : Int) (hn : (Lit.int .i64 n).wf = true) : keyOf Tryz.prog 2 (.int .i64 n) = some (.int .i64 n) := keyOf_int_mk Tryz.underlying2 hn
/-- v, ok := m[n] -/
theorem MapAt.look_ok (h : MapAt w b M sz) (hg : o.guard = none) (m x : Operand) (t : TypeId) (hop : o.op = Op.lookup t m x true) (e : TypeId) (ht : Tryz.prog.underlying t = some (.map 2 e)) {z : Value} (hz : ∀ w, (zeroValue e).run Tryz.prog w = .ok z w)
    (hm : a.eval m = .map (some b)) (n : Int) (hn : (Lit.int .i64 n).wf = true) (hx : a.eval x = .int .i64 n)
    (hK : wpList Tryz.prog ops Q rest (a.put o.dst (.tuple #[(M n).getD z, .bool (M n).isSome])) w) : wpList Tryz.prog ops Q (o :: rest) a w := by
  obtain ⟨D, h1, h2, h3, h4⟩ := h
  refine wpList_lookup_own_ok w hg m x t hop 2 e Tryz.key64 ht rawElem (hz w) (.held z) [] rfl b sz D hm h1 _ _ hx (key_lit n hn) (fun v ps hv => ?_)
  have hv' : DataW.held v = D.atKey (.int .i64 n) (.held z) := by
    have : (DataW.held v, ([] : List MemPlace)) = (D.atKey (.int .i64 n) (.held z), ps) := Option.some.inj hv
    exact congrArg Prod.fst this
  rw [h3 n hn]
  cases hM : M n with
  | some u =>
    rw [h4 n u hn hM] at hv'
    injection hv' with hv'
    rw [hM] at hK
    subst hv'
    exact hK
  | none =>
    have h0 : Maps.has D (.int .i64 n) = false := by rw [h3 n hn, hM]; rfl
    rw [Maps.atKey_of_not_has h0] at hv'
    injection hv' with hv'
    rw [hM] at hK
    subst hv'
    exact hK
/-- v := m[n] -/
theorem MapAt.look (h : MapAt w b M sz) (hg : o.guard = none) (m x : Operand) (t : TypeId) (hop : o.op = Op.lookup t m x false) (e : TypeId) (ht : Tryz.prog.underlying t = some (.map 2 e)) {z : Value} (hz : ∀ w, (zeroValue e).run Tryz.prog w = .ok z w)
    (hm : a.eval m = .map (some b)) (n : Int) (hn : (Lit.int .i64 n).wf = true) (hx : a.eval x = .int .i64 n)
    (hK : wpList Tryz.prog ops Q rest (a.put o.dst ((M n).getD z)) w) : wpList Tryz.prog ops Q (o :: rest) a w := by
  obtain ⟨D, h1, h2, h3, h4⟩ := h
  refine wpList_plain hg fun K' hK' => ?_
  obtain ⟨v, ps, hrun, hv⟩ := h1.lookup Tryz.key64 ht (hz w) (zd := .held z) (zp := []) rfl (key_lit n hn)
  have hv' : DataW.held v = D.atKey (.int .i64 n) (.held z) := by
    have : (DataW.held v, ([] : List MemPlace)) = (D.atKey (.int .i64 n) (.held z), ps) := Option.some.inj hv
    exact congrArg Prod.fst this
  have key : v = (M n).getD z := by
    cases hM : M n with
    | some u =>
      rw [h4 n u hn hM] at hv'
      injection hv' with hv'
    | none =>
      have h0 : Maps.has D (.int .i64 n) = false := by rw [h3 n hn, hM]; rfl
      rw [Maps.atKey_of_not_has h0] at hv'
      injection hv' with hv'
  subst key
  unfold Oper.wp
  simp [execOp, hop, hm, hx, hrun, Result.andThen]
  exact hK' _ _ hK
/-- len(m) -/
theorem MapAt.len (h : MapAt w b M sz) (hg : o.guard = none) (m : Operand) (t : TypeId) (hop : o.op = Op.call { callee := Callee.builtin Builtin.len, args := #[m], argTypes := #[t] }) (e : TypeId) (ht : Tryz.prog.underlying t = some (.map 2 e))
    (hm : a.eval m = .map (some b)) (hK : wpList Tryz.prog ops Q rest (a.put o.dst (.int .i64 sz)) w) : wpList Tryz.prog ops Q (o :: rest) a w := by
  obtain ⟨D, h1, h2, h3, h4⟩ := h
  refine wpList_len_own w hg m t hop 2 e ht rawElem b sz D hm h1 ?_
  rw [h2]; exact hK
/-- m[n] = v -/
theorem MapAt.update (h : MapAt w b M sz) (hg : o.guard = none) (m x v : Operand) (t : TypeId) (hop : o.op = Op.mapUpdate t m x v) (e : TypeId) (ht : Tryz.prog.underlying t = some (.map 2 e))
    (hm : a.eval m = .map (some b)) (n : Int) (hn : (Lit.int .i64 n).wf = true) (u : Value) (hx : a.eval x = .int .i64 n) (hv : a.eval v = u) (hsz : sz < maxLen) (hnew : M n = none)
    (hK : ∀ w', MapAt w' b (fun k => if k = n then some u else M k) (sz + 1) → w.grownBy w' (some b) → wpList Tryz.prog ops Q rest (a.put o.dst undef) w') : wpList Tryz.prog ops Q (o :: rest) a w := by
  obtain ⟨D, h1, h2, h3, h4⟩ := h
  have hik : WideAt.IsKeyLit (.int .i64 n) := Tryz.key64.key (key_lit n hn)
  refine wpList_mapUpdate_own w hg m x v t hop 2 e Tryz.key64 ht rawElem b sz D hm h1 hsz _ _ _ hx hv (key_lit n hn) (.held u) [] rfl (fun w' ho hgw => hK w' ⟨D.put (.int .i64 n) (.held u), ho, ?_, ?_, ?_⟩ hgw)
  · rw [Maps.size_put (h1.tidy Tryz.key64), h3 n hn, hnew]
    simp [h2]
  · intro k hk
    by_cases hkn : k = n
    · subst hkn
      rw [Maps.has_put_same h1.isMap hik]; simp
    · rw [Maps.has_put_other (fun e => hkn (by injection e)), h3 k hk]; simp [hkn]
  · intro k v' hk hM z
    by_cases hkn : k = n
    · subst hkn
      simp at hM
      subst hM
      exact Maps.atKey_put_same h1.isMap hik _ _
    · simp [hkn] at hM
      rw [Maps.atKey_put_other (fun e => hkn (by injection e))]
      exact h4 k v' hk hM z
end
end Go.Proofs.YtgcbanljifalnaaGreatDoor

/- Unification in plain words: a term and its like with other variables; a term in a structure of it. Conditions: the terms' variables are plain. -/
import Derived.Test.YtdflckjnpgbjlaaUa
set_option linter.unusedVariables false
set_option maxRecDepth 20000
set_option linter.unusedSimpArgs false
namespace Go.Proofs.Ytdflckjnpgbjlaa

/-- A term does not unify with the structure whose one argument it is. -/
theorem un_in (s : ByteArray) : ∀ (N k n : Nat) (t : Tm), t.siz ≤ N → t.vok → N < k → n + N + 2 ≤ 4096 → un k n [] [(t, ⟨4, s, 0, [t]⟩)] = .no
  | 0, k, n, t, hz, _, _, _ => by have := siz_eq t; omega
  | N + 1, 0, n, t, _, _, hk, _ => by omega
  | N + 1, k + 1, n, t, hz, ht, hk, hn => by
    by_cases h1 : t.k = 1
    · have he := vok_var ht h1
      have hf : Fn [] 2 ⟨4, s, 0, [t]⟩ := by
        intro a ha
        have ha : a ∈ [t] := ha
        rw [List.mem_singleton.1 ha, he]
        intro b hb
        have hb : b ∈ ([] : List Tm) := hb
        cases hb
      have hv : visA [] ⟨4, s, 0, [t]⟩ = [⟨4, s, 0, [t]⟩, t] := by
        rw [visA_vis acyc_nil hf, he]
        rfl
      have hi : isv t.n t = true := by simp [isv, h1]
      have hb : biU [] t.n ⟨4, s, 0, [t]⟩ (n + 1) = .no := by
        unfold biU
        rw [hv]
        have h2 : ocv t.n [⟨4, s, 0, [t]⟩, t] ≤ 2 := by
          have := ocv_le t.n [⟨4, s, 0, [t]⟩, t]
          simpa using this
        rw [if_neg (by omega), if_pos (by simp [hi])]
      exact un_leftno (y1 := t) (y2 := ⟨4, s, 0, [t]⟩) rfl rfl (by omega) h1 (fun h => by have := h.1; simp at this) hb
    · by_cases hm : t.k = 4 ∧ t.s = s ∧ t.n = 0 ∧ t.l.length = 1
      · rw [un_apart (y1 := t) (y2 := ⟨4, s, 0, [t]⟩) rfl rfl (by omega) h1 (by simp) ⟨hm.1, hm.2.1, hm.2.2.1, by simpa using hm.2.2.2⟩]
        obtain ⟨q, qs, qn, ql⟩ := t
        simp only at hm
        obtain ⟨e1, e2, e3, e4⟩ := hm
        subst e1 e2 e3
        match ql, e4 with
        | [u], _ =>
          show un k (n + 1) [] [(u, ⟨4, qs, 0, [u]⟩)] = .no
          have hs : (Tm.mk 4 qs 0 [u]).siz = u.siz + 1 := by simp [Tm.siz, sizL]
          exact un_in qs N k (n + 1) u (by omega) ((vok_def.1 ht).2 u (by simp)) (by omega) (by omega)
      · exact un_clash (y1 := t) (y2 := ⟨4, s, 0, [t]⟩) rfl rfl (by omega) h1 (by simp) (fun h => hm ⟨h.1, h.2.1, h.2.2.1, by simpa using h.2.2.2⟩)
mutual
/-- Its variables moved. -/
def Tm.mv (d : Int) : Tm → Tm
  | ⟨k, s, n, l⟩ => ⟨k, s, if k = 1 then n + d else n, mvL d l⟩
def mvL (d : Int) : List Tm → List Tm
  | [] => []
  | t :: ts => t.mv d :: mvL d ts
end
theorem mvL_map (d : Int) : ∀ l : List Tm, mvL d l = l.map (Tm.mv d)
  | [] => rfl
  | t :: ts => by simp [mvL, mvL_map d ts]
/-- Each variable bound to its like. -/
def lk (d : Int) (D : List Int) : Bs := D.map fun x => (x, kV (x + d))
theorem lk_of (d : Int) : ∀ (D : List Int) (n : Int), ofB (lk d D) n = if n ∈ D then some (kV (n + d)) else none
  | [], n => rfl
  | x :: D, n => by
    show (if x = n then some (kV (x + d)) else ofB (lk d D) n) = _
    rw [lk_of d D n]
    by_cases h : x = n
    · subst h; simp
    · have : n ≠ x := fun e => h e.symm
      simp [h, this]
theorem lk_acyc (d : Int) (D : List Int) (hd : 100 ≤ d) (hD : ∀ x ∈ D, 0 ≤ x ∧ x < 100) : Acyc (lk d D) := by
  refine ⟨fun n => if n < 100 then 1 else 0, fun v t h n hn => ?_⟩
  rw [lk_of] at h
  split at h
  · rename_i hv
    injection h with h
    subst h
    have h0 : ofB (lk d D) (v + d) = none := by
      rw [lk_of, if_neg (fun hm => by have := hD _ hm; have := hD _ hv; omega)]
    have : n = v + d := by
      simp [kV, Tm.eo, eoL, h0] at hn
      exact hn
    have h1 := hD _ hv
    subst this
    show (if v + d < 100 then 1 else 0) < (if v < 100 then 1 else 0)
    rw [if_neg (by omega), if_pos (by omega)]
    omega
  · cases h
theorem lk_wlk (d : Int) (D : List Int) (hd : 100 ≤ d) (hD : ∀ x ∈ D, 0 ≤ x ∧ x < 100) {x : Int} (hx : 0 ≤ x ∧ x < 100) : wlk (lk d D) (kV x) = (if x ∈ D then kV (x + d) else kV x) ∧ wlk (lk d D) (kV (x + d)) = kV (x + d) := by
  have hA := lk_acyc d D hd hD
  have h2 : wlk (lk d D) (kV (x + d)) = kV (x + d) := wlk_stop (by
    simp only [nxt, kV, if_true]
    rw [lk_of, if_neg (fun hm => by have := hD _ hm; omega)])
  refine ⟨?_, h2⟩
  by_cases hm : x ∈ D
  · rw [if_pos hm, hA.step (u := kV (x + d)) (by simp only [nxt, kV, if_true]; rw [lk_of, if_pos hm]; rfl), h2]
  · rw [if_neg hm]
    exact wlk_stop (by simp only [nxt, kV, if_true]; rw [lk_of, if_neg hm])
theorem lk_snoc (d : Int) (D : List Int) (x : Int) : lk d (D ++ [x]) = lk d D ++ [(x, kV (x + d))] := by simp [lk]
theorem un_same {k n : Nat} {l : Bs} {x : Tm × Tm} {r : Ps} {y1 y2 : Tm} (h1 : wlk l x.1 = y1) (h2 : wlk l x.2 = y2) (hn : n + 1 ≤ 4096) (k1 : y1.k = 1) (k2 : y2.k = 1) (h : y1.n = y2.n) : un (k + 1) n l (x :: r) = un k (n + 1) l r := by
  subst h1 h2
  rw [un, if_neg (by omega), if_pos ⟨k1, k2, h⟩]
theorem mv_def (d : Int) (t : Tm) : t.mv d = ⟨t.k, t.s, if t.k = 1 then t.n + d else t.n, t.l.map (Tm.mv d)⟩ := by cases t; simp [Tm.mv, mvL_map]
theorem occ_non {t : Tm} (h : t.k ≠ 1) : t.occ = occL t.l := by cases t; simp only at h; simp [Tm.occ, h]
theorem zip_mv (d : Int) : ∀ (l : List Tm), l.zip (l.map (Tm.mv d)) = l.map (fun t => (t, t.mv d))
  | [] => rfl
  | t :: l => by simp [zip_mv d l]
/-- A term and its like: they unify, each variable is bound to its like. -/
theorem un_like (d : Int) (hd : 100 ≤ d) : ∀ (k n : Nat) (D : List Int) (L : List Tm), (∀ x ∈ D, 0 ≤ x ∧ x < 100) → vokL L → (∀ x ∈ occL L, x < 100) → sizL L < k → n + 2 * sizL L ≤ 4096 →
    ∃ n', un k n (lk d D) (L.map (fun t => (t, t.mv d))) = .yes (lk d ((occL L).foldl addNew D)) n'
  | 0, _, _, _, _, _, _, h, _ => by omega
  | k + 1, n, D, [], _, _, _, _, _ => ⟨n, rfl⟩
  | k + 1, n, D, t :: r, hD, hv, ho, hk, hn => by
    have e1 : sizL (t :: r) = t.siz + sizL r := rfl
    have e2 := siz_eq t
    have hvt := vokL_iff.1 hv t (by simp)
    have hvr : vokL r := hv.2
    have eo : occL (t :: r) = t.occ ++ occL r := rfl
    rw [List.map_cons]
    by_cases h1 : t.k = 1
    · have he := vok_var hvt h1
      have h0 : 0 ≤ t.n := ((vok_def.1 hvt).1 h1).2.2
      have oc : t.occ = [t.n] := by rw [he]; simp [kV, Tm.occ, occL]
      have h100 : t.n < 100 := ho _ (by rw [eo, oc]; simp)
      have hmv : t.mv d = kV (t.n + d) := by rw [he]; simp [kV, Tm.mv, mvL]
      have hw := lk_wlk d D hd hD ⟨h0, h100⟩
      have hor : ∀ x ∈ occL r, x < 100 := fun x hx => ho x (by rw [eo]; simp [hx])
      rw [eo, oc, List.singleton_append, List.foldl_cons]
      by_cases hm : t.n ∈ D
      · obtain ⟨n', h'⟩ := un_like d hd k (n + 1) D r hD hvr hor (by omega) (by omega)
        refine ⟨n', ?_⟩
        rw [un_same (y1 := kV (t.n + d)) (y2 := kV (t.n + d)) (by show wlk _ t = _; rw [he, hw.1, if_pos (by exact hm)]; rfl) (by show wlk _ (t.mv d) = _; rw [hmv, hw.2]) (by omega) rfl rfl rfl, h']
        congr 3
        simp [addNew, hm]
      · have hD2 : ∀ x ∈ D ++ [t.n], 0 ≤ x ∧ x < 100 := fun x hx => by
          rcases List.mem_append.1 hx with hx | hx
          · exact hD x hx
          · rw [List.mem_singleton.1 hx]; exact ⟨h0, h100⟩
        obtain ⟨n', h'⟩ := un_like d hd k (n + 2) (D ++ [t.n]) r hD2 hvr hor (by omega) (by omega)
        refine ⟨n', ?_⟩
        have hf : Fn (lk d D) 1 (kV (t.n + d)) := by
          intro a ha
          rw [hw.2] at ha
          have ha : a ∈ ([] : List Tm) := ha
          cases ha
        have hvis : visA (lk d D) (kV (t.n + d)) = [kV (t.n + d)] := by
          rw [visA_vis (lk_acyc d D hd hD) hf]
          show wlk _ _ :: _ = _
          rw [hw.2]
          rfl
        have hany : [kV (t.n + d)].any (isv t.n) = false := by simp [isv, kV]; omega
        have hb : biU (lk d D) t.n (kV (t.n + d)) (n + 1) = .yes (lk d (D ++ [t.n])) (n + 2) := by
          unfold biU
          rw [hvis, ocv_noneV hany, if_neg (by simp; omega), if_neg (by rw [hany]; simp), if_pos (bindE_is (by rw [lk_of, if_neg hm]) h0 (by simp) hany), lk_snoc]
          rfl
        rw [un_left (y1 := kV t.n) (y2 := kV (t.n + d)) (by show wlk _ t = _; rw [he, hw.1, if_neg (by exact hm)]; rfl) (by show wlk _ (t.mv d) = _; rw [hmv, hw.2]) (by omega) rfl (by simp [kV]; omega) hb, h']
        congr 3
        simp [addNew, hm]
    · have hw1 : wlk (lk d D) t = t := wlk_stop (by simp [nxt, h1])
      have hw2 : wlk (lk d D) (t.mv d) = t.mv d := wlk_stop (by rw [mv_def]; simp [nxt, h1])
      have hL : occL (t :: r) = occL (t.l ++ r) := by rw [eo, occ_non h1, occL_append]
      obtain ⟨n', h'⟩ := un_like d hd k (n + 1) D (t.l ++ r) hD (vokL_iff.2 (fun a ha => by
        rcases List.mem_append.1 ha with ha | ha
        · exact (vok_def.1 hvt).2 a ha
        · exact vokL_iff.1 hvr a ha)) (fun x hx => ho x (by rw [hL]; exact hx)) (by rw [sizL_append]; omega) (by rw [sizL_append]; omega)
      refine ⟨n', ?_⟩
      rw [un_apart (y1 := t) (y2 := t.mv d) hw1 hw2 (by omega) h1 (by rw [mv_def]; exact h1) (by rw [mv_def]; simp [h1])]
      rw [show (t.mv d).l = t.l.map (Tm.mv d) by rw [mv_def], zip_mv, ← List.map_append, h', hL]
end Go.Proofs.Ytdflckjnpgbjlaa

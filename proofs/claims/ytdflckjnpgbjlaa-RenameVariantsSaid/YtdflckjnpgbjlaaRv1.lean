/- Renamed terms in plain words: a canonical form is its own; a term and its like unify. Conditions: the terms' variables are plain. -/
import Derived.Test.YtdflckjnpgbjlaaUd
import Derived.Test.YtdflckjnpgbjlaaF6
set_option linter.unusedVariables false
set_option maxRecDepth 20000
set_option linter.unusedSimpArgs false
namespace Go.Proofs.Ytdflckjnpgbjlaa
open Go.RowKit
theorem lk_acycM {M : Int} (d : Int) (D : List Int) (hd : M ≤ d) (hD : ∀ x ∈ D, 0 ≤ x ∧ x < M) : Acyc (lk d D) := by
  refine ⟨fun n => if n < M then 1 else 0, fun v t h n hn => ?_⟩
  rw [lk_of] at h
  split at h
  · rename_i hv
    injection h with h
    subst h
    have h0 : ofB (lk d D) (v + d) = none := by
      rw [lk_of, if_neg (fun hm => by have := hD _ hm; have := hD _ hv; omega)]
    have : n = v + d := by
      simp [kV, Tm.eo, eoL, h0] at hn
      exact hn
    have h1 := hD _ hv
    subst this
    show (if v + d < M then 1 else 0) < (if v < M then 1 else 0)
    rw [if_neg (by omega), if_pos (by omega)]
    omega
  · cases h
theorem lk_wlkM {M : Int} (d : Int) (D : List Int) (hd : M ≤ d) (hD : ∀ x ∈ D, 0 ≤ x ∧ x < M) {x : Int} (hx : 0 ≤ x ∧ x < M) : wlk (lk d D) (kV x) = (if x ∈ D then kV (x + d) else kV x) ∧ wlk (lk d D) (kV (x + d)) = kV (x + d) := by
  have hA := lk_acycM d D hd hD
  have h2 : wlk (lk d D) (kV (x + d)) = kV (x + d) := wlk_stop (by
    simp only [nxt, kV, if_true]
    rw [lk_of, if_neg (fun hm => by have := hD _ hm; omega)])
  refine ⟨?_, h2⟩
  by_cases hm : x ∈ D
  · rw [if_pos hm, hA.step (u := kV (x + d)) (by simp only [nxt, kV, if_true]; rw [lk_of, if_pos hm]; rfl), h2]
  · rw [if_neg hm]
    exact wlk_stop (by simp only [nxt, kV, if_true]; rw [lk_of, if_neg hm])
/-- A term and its like: they unify, each variable is bound to its like. -/
theorem un_likeM {M : Int} (d : Int) (hd : M ≤ d) : ∀ (k n : Nat) (D : List Int) (L : List Tm), (∀ x ∈ D, 0 ≤ x ∧ x < M) → vokL L → (∀ x ∈ occL L, x < M) → sizL L < k → n + 2 * sizL L ≤ 4096 →
    ∃ n', un k n (lk d D) (L.map (fun t => (t, t.mv d))) = .yes (lk d ((occL L).foldl addNew D)) n'
  | 0, _, _, _, _, _, _, h, _ => by omega
  | k + 1, n, D, [], _, _, _, _, _ => ⟨n, rfl⟩
  | k + 1, n, D, t :: r, hD, hv, ho, hk, hn => by
    have e1 : sizL (t :: r) = t.siz + sizL r := rfl
    have e2 := siz_eq t
    have hvt := vokL_iff.1 hv t (by simp)
    have hvr : vokL r := hv.2
    have eo : occL (t :: r) = t.occ ++ occL r := rfl
    rw [List.map_cons]
    by_cases h1 : t.k = 1
    · have he := vok_var hvt h1
      have h0 : 0 ≤ t.n := ((vok_def.1 hvt).1 h1).2.2
      have oc : t.occ = [t.n] := by rw [he]; simp [kV, Tm.occ, occL]
      have h100 : t.n < M := ho _ (by rw [eo, oc]; simp)
      have hmv : t.mv d = kV (t.n + d) := by rw [he]; simp [kV, Tm.mv, mvL]
      have hw := lk_wlkM d D hd hD ⟨h0, h100⟩
      have hor : ∀ x ∈ occL r, x < M := fun x hx => ho x (by rw [eo]; simp [hx])
      rw [eo, oc, List.singleton_append, List.foldl_cons]
      by_cases hm : t.n ∈ D
      · obtain ⟨n', h'⟩ := un_likeM d hd k (n + 1) D r hD hvr hor (by omega) (by omega)
        refine ⟨n', ?_⟩
        rw [un_same (y1 := kV (t.n + d)) (y2 := kV (t.n + d)) (by show wlk _ t = _; rw [he, hw.1, if_pos (by exact hm)]; rfl) (by show wlk _ (t.mv d) = _; rw [hmv, hw.2]) (by omega) rfl rfl rfl, h']
        congr 3
        simp [addNew, hm]
      · have hD2 : ∀ x ∈ D ++ [t.n], 0 ≤ x ∧ x < M := fun x hx => by
          rcases List.mem_append.1 hx with hx | hx
          · exact hD x hx
          · rw [List.mem_singleton.1 hx]; exact ⟨h0, h100⟩
        obtain ⟨n', h'⟩ := un_likeM d hd k (n + 2) (D ++ [t.n]) r hD2 hvr hor (by omega) (by omega)
        refine ⟨n', ?_⟩
        have hf : Fn (lk d D) 1 (kV (t.n + d)) := by
          intro a ha
          rw [hw.2] at ha
          have ha : a ∈ ([] : List Tm) := ha
          cases ha
        have hvis : visA (lk d D) (kV (t.n + d)) = [kV (t.n + d)] := by
          rw [visA_vis (lk_acycM d D hd hD) hf]
          show wlk _ _ :: _ = _
          rw [hw.2]
          rfl
        have hany : [kV (t.n + d)].any (isv t.n) = false := by simp [isv, kV]; omega
        have hb : biU (lk d D) t.n (kV (t.n + d)) (n + 1) = .yes (lk d (D ++ [t.n])) (n + 2) := by
          unfold biU
          rw [hvis, ocv_noneV hany, if_neg (by simp; omega), if_neg (by rw [hany]; simp), if_pos (bindE_is (by rw [lk_of, if_neg hm]) h0 (by simp) hany), lk_snoc]
          rfl
        rw [un_left (y1 := kV t.n) (y2 := kV (t.n + d)) (by show wlk _ t = _; rw [he, hw.1, if_neg (by exact hm)]; rfl) (by show wlk _ (t.mv d) = _; rw [hmv, hw.2]) (by omega) rfl (by simp [kV]; omega) hb, h']
        congr 3
        simp [addNew, hm]
    · have hw1 : wlk (lk d D) t = t := wlk_stop (by simp [nxt, h1])
      have hw2 : wlk (lk d D) (t.mv d) = t.mv d := wlk_stop (by rw [mv_def]; simp [nxt, h1])
      have hL : occL (t :: r) = occL (t.l ++ r) := by rw [eo, occ_non h1, occL_append]
      obtain ⟨n', h'⟩ := un_likeM d hd k (n + 1) D (t.l ++ r) hD (vokL_iff.2 (fun a ha => by
        rcases List.mem_append.1 ha with ha | ha
        · exact (vok_def.1 hvt).2 a ha
        · exact vokL_iff.1 hvr a ha)) (fun x hx => ho x (by rw [hL]; exact hx)) (by rw [sizL_append]; omega) (by rw [sizL_append]; omega)
      refine ⟨n', ?_⟩
      rw [un_apart (y1 := t) (y2 := t.mv d) hw1 hw2 (by omega) h1 (by rw [mv_def]; exact h1) (by rw [mv_def]; simp [h1])]
      rw [show (t.mv d).l = t.l.map (Tm.mv d) by rw [mv_def], zip_mv, ← List.map_append, h', hL]
mutual
theorem mv_ren (d : Int) : ∀ t : Tm, t.mv d = t.ren (fun n => n + d)
  | ⟨k, s, n, l⟩ => by simp only [Tm.mv, Tm.ren, mvL_ren d l]
theorem mvL_ren (d : Int) : ∀ l : List Tm, mvL d l = renL (fun n => n + d) l
  | [] => rfl
  | t :: ts => by simp only [mvL, renL, mv_ren d t, mvL_ren d ts]
end
mutual
theorem ren_vok {f : Int → Int} : ∀ t : Tm, t.vok → (∀ n ∈ t.occ, 0 ≤ f n) → (t.ren f).vok
  | ⟨k, s, n, l⟩, h, hf => by
    have h' := vok_def.1 h
    have hl := renL_vok l (vokL_iff.2 h'.2) (fun m hm => hf m (by simp only [Tm.occ, List.mem_append]; exact .inr hm))
    refine vok_def.2 ⟨fun hk => ?_, ?_⟩
    · have hk' : k = 1 := hk
      have h1 := h'.1 hk'
      have hl0 : l = [] := h1.2.1
      refine ⟨h1.1, ?_, ?_⟩
      · simp only [Tm.ren]; rw [hl0]; rfl
      · have := hf n (by simp [Tm.occ, hk'])
        simpa [Tm.ren, hk'] using this
    · simp only [Tm.ren]
      exact vokL_iff.1 hl
theorem renL_vok {f : Int → Int} : ∀ l : List Tm, vokL l → (∀ n ∈ occL l, 0 ≤ f n) → vokL (renL f l)
  | [], _, _ => trivial
  | t :: ts, h, hf => ⟨ren_vok t h.1 (fun n hn => hf n (by simp [occL, hn])), renL_vok ts h.2 (fun n hn => hf n (by simp [occL, hn]))⟩
end
mutual
theorem ren_wf {f : Int → Int} : ∀ t : Tm, t.Wf → (∀ n ∈ t.occ, -9223372036854775808 ≤ f n ∧ f n ≤ 9223372036854775807) → (t.ren f).Wf
  | ⟨k, s, n, l⟩, h, hf => by
    simp only [Tm.Wf] at h
    simp only [Tm.ren, Tm.Wf]
    refine ⟨h.1, ?_, h.2.2.1, renL_wf l h.2.2.2 (fun m hm => hf m (by simp only [Tm.occ, List.mem_append]; exact .inr hm))⟩
    split
    · rename_i hk; exact hf n (by simp [Tm.occ, hk])
    · exact h.2.1
theorem renL_wf {f : Int → Int} : ∀ l : List Tm, WfL l → (∀ n ∈ occL l, -9223372036854775808 ≤ f n ∧ f n ≤ 9223372036854775807) → WfL (renL f l)
  | [], _, _ => trivial
  | t :: ts, h, hf => ⟨ren_wf t h.1 (fun n hn => hf n (by simp [occL, hn])), renL_wf ts h.2 (fun n hn => hf n (by simp [occL, hn]))⟩
end
theorem plc_map {f : Int → Int} {l : List Int} {n : Int} (hn : n ∈ l) (h : ∀ a ∈ l, ∀ b ∈ l, f a = f b → a = b) : plc (l.map f) (f n) = plc l n := by
  induction l with
  | nil => cases hn
  | cons x xs ih =>
    simp only [List.map_cons, plc]
    by_cases hx : x = n
    · subst hx; simp
    · have hf : f x ≠ f n := fun e => hx (h x (by simp) n hn e)
      have hn' : n ∈ xs := by
        rcases List.mem_cons.1 hn with h | h
        · exact absurd h.symm hx
        · exact h
      rw [if_neg hf, if_neg hx, ih hn' (fun a ha b hb => h a (by simp [ha]) b (by simp [hb]))]
/-- Renamed apart: the canonical form is the same. -/
theorem canL_ren {f : Int → Int} (l : List Tm) (h : ∀ a ∈ occL l, ∀ b ∈ occL l, f a = f b → a = b) : canL (renL f l) = canL l := by
  unfold canL
  rw [renL_occ, dd_map _ h, renL_renL]
  exact renL_congr l (fun n hn => plc_map (dd_mem.2 hn) (fun a ha b hb => h a (dd_mem.1 ha) b (dd_mem.1 hb)))
theorem canL_canL (l : List Tm) : canL (canL l) = canL l :=
  canL_ren l (fun a ha b hb he => plc_inj (dd_mem.2 ha) (dd_mem.2 hb) he)
theorem canL_occ (l : List Tm) : ∀ n ∈ occL (canL l), 0 ≤ n ∧ n < (dd (occL l)).length := fun n hn => by
  unfold canL at hn
  rw [renL_occ, List.mem_map] at hn
  obtain ⟨m, hm, rfl⟩ := hn
  exact plc_some (dd_mem.2 hm)
theorem canL_len (l : List Tm) : (dd (occL (canL l))).length = (dd (occL l)).length := by
  unfold canL
  rw [renL_occ, dd_map _ (fun a ha b hb he => plc_inj (dd_mem.2 ha) (dd_mem.2 hb) he), List.length_map]
theorem canL_vok (l : List Tm) (h : vokL l) : vokL (canL l) := renL_vok l h (fun n hn => (plc_some (dd_mem.2 hn)).1)
theorem canL_wf (l : List Tm) (h : WfL l) (hz : sizL l ≤ 1000000) : WfL (canL l) := renL_wf l h (fun n hn => by
  have h1 := plc_some (dd_mem.2 hn)
  have h2 := dd_length (occL l)
  have h3 := occL_length l
  omega)
theorem canL_siz (l : List Tm) : sizL (canL l) = sizL l := renL_siz _ l
theorem canL_length (l : List Tm) : (canL l).length = l.length := renL_length _ l
/-- The canonical forms, shifted: all that the law asks. -/
theorem variants_up {a : List Tm} {d : Int} (hv : vokL a) (hw : WfL a) (hz : sizL a ≤ 1000) (hd : 1000 ≤ d ∧ d ≤ 4611686018427388904) :
    let up := renL (fun n => wrap64 (n + d)) (canL a)
    canL up = canL a ∧ WfL up ∧ sizL up = sizL a ∧ up.length = a.length ∧ ∃ n', un 4098 0 [] ((canL a).zip up) = .yes (lk d (dd (occL (canL a)))) n' := by
  have hb : ∀ n ∈ occL (canL a), 0 ≤ n ∧ n < 1000 := fun n hn => by
    have h1 := canL_occ a n hn
    have h2 := dd_length (occL a)
    have h3 := occL_length a
    omega
  have he : renL (fun n => wrap64 (n + d)) (canL a) = renL (fun n => n + d) (canL a) := renL_congr _ (fun n hn => wrap_id (by have := hb n hn; omega))
  intro up
  have hup : up = renL (fun n => n + d) (canL a) := he
  refine ⟨?_, ?_, ?_, ?_, ?_⟩
  · rw [hup, canL_ren _ (fun x _ y _ h => by have h : x + d = y + d := h; omega), canL_canL]
  · rw [hup]; exact renL_wf _ (canL_wf a hw (by omega)) (fun n hn => by have := hb n hn; omega)
  · rw [hup, renL_siz, canL_siz]
  · rw [hup, renL_length, canL_length]
  · rw [hup, ← mvL_ren, mvL_map, zip_mv]
    exact un_likeM (M := 1000) d hd.1 4098 0 [] (canL a) (by simp) (canL_vok a hv) (fun n hn => (hb n hn).2) (by rw [canL_siz]; omega) (by rw [canL_siz]; omega)
theorem eqbL_comm (l m : List Tm) : eqbL l m = eqbL m l := by
  rw [Bool.eq_iff_iff, eqbL_iff, eqbL_iff]
  exact ⟨Eq.symm, Eq.symm⟩
theorem eqbL_self (l : List Tm) : eqbL l l = true := (eqbL_iff _ _).2 rfl
end Go.Proofs.Ytdflckjnpgbjlaa

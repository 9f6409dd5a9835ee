/- Plain laws of layer 2: of good terms the order is the one by definition. No condition. -/
import Derived.Test.YtdflckjnpgbjlaaWq
set_option linter.unusedVariables false
set_option maxRecDepth 20000
set_option linter.unusedSimpArgs false
namespace Go.Proofs.Ytdflckjnpgbjlaa

theorem orI_zero (a : Int) : orI a 0 = a := by unfold orI; split <;> simp_all
theorem zero_orI (b : Int) : orI 0 b = b := by simp [orI]
theorem orI_ne {a : Int} (b : Int) (h : a ≠ 0) : orI a b = a := by simp [orI, h]
theorem cmpI_self (a : Int) : cmpI a a = 0 := by simp [cmpI]
theorem cmpI_ne {a b : Int} (h : a ≠ b) : cmpI a b ≠ 0 := by unfold cmpI; (repeat' split) <;> omega
theorem less_self : ∀ l : List UInt8, Op.bytesLess l l = false
  | [] => by simp [Op.bytesLess]
  | x :: l => by
    have : ¬ x < x := by simp
    simp [Op.bytesLess, less_self l, this]
theorem cmpS_self (s : ByteArray) : cmpS s s = 0 := by unfold cmpS; rw [less_self]; simp
theorem cmpS_ne {s t : ByteArray} (h : s ≠ t) : cmpS s t ≠ 0 := by unfold cmpS; rw [if_neg h]; split <;> decide
theorem size_zero {s : ByteArray} (h : s.size = 0) : s = ⟨#[]⟩ := by
  obtain ⟨d⟩ := s
  have : d = #[] := Array.eq_empty_of_size_eq_zero h
  rw [this]
mutual
theorem cmpT_self : ∀ t : Tm, cmpT t t = 0
  | ⟨k, s, n, l⟩ => by simp only [cmpT, cmpI_self, cmpS_self, cmpL_self l, zero_orI]
theorem cmpL_self : ∀ l : List Tm, cmpL l l = 0
  | [] => by simp [cmpL]
  | t :: ts => by simp only [cmpL, cmpT_self t, cmpL_self ts, zero_orI]
end
theorem refL_cmpL : ∀ (l m : List Tm), l.length = m.length → (∀ t ∈ l, ∀ u : Tm, t.shp = true → u.shp = true → refT t u = cmpT t u) → shpL l = true → shpL m = true → refL l m = cmpL l m
  | [], [], _, _, _, _ => by simp [refL, cmpL]
  | [], _ :: _, h, _, _, _ => by simp at h
  | _ :: _, [], h, _, _, _ => by simp at h
  | t :: ts, u :: us, h, H, h1, h2 => by
    simp only [shpL, Bool.and_eq_true] at h1 h2
    simp only [refL, cmpL]
    rw [H t (by simp) u h1.1 h2.1, refL_cmpL ts us (by simpa using h) (fun x hx => H x (List.mem_cons_of_mem _ hx)) h1.2 h2.2]
theorem ref_cmp (t : Tm) : ∀ u : Tm, t.shp = true → u.shp = true → refT t u = cmpT t u := by
  refine Tm.ind (p := fun t => ∀ u : Tm, t.shp = true → u.shp = true → refT t u = cmpT t u) ?_ t
  rintro ⟨k, s, n, l⟩ ih ⟨k', s', n', l'⟩ h h'
  simp only at ih
  by_cases hk : k = k'
  · subst hk
    by_cases k1 : k = 1
    · subst k1
      simp only [Tm.shp, if_pos, Bool.and_eq_true, decide_eq_true_eq] at h h'
      obtain ⟨⟨-, hs⟩, rfl⟩ := h
      obtain ⟨⟨-, hs'⟩, rfl⟩ := h'
      rw [size_zero hs, size_zero hs']
      simp [refT, cmpT, cmpI_self, cmpS_self, zero_orI, orI_zero, cmpL]
    · by_cases k2 : k = 2
      · subst k2
        simp only [Tm.shp, if_pos, if_neg k1, Bool.and_eq_true, decide_eq_true_eq] at h h'
        obtain ⟨hs, rfl⟩ := h
        obtain ⟨hs', rfl⟩ := h'
        rw [size_zero hs, size_zero hs']
        simp [refT, cmpT, cmpI_self, cmpS_self, zero_orI, orI_zero, cmpL]
      · by_cases k3 : k = 3
        · subst k3
          simp only [Tm.shp, if_pos, if_neg k1, if_neg k2, Bool.and_eq_true, decide_eq_true_eq] at h h'
          obtain ⟨⟨rfl, rfl⟩, -⟩ := h
          obtain ⟨⟨rfl, rfl⟩, -⟩ := h'
          simp [refT, cmpT, cmpI_self, zero_orI, orI_zero, cmpL]
        · simp only [Tm.shp, if_neg k1, if_neg k2, if_neg k3, Bool.and_eq_true, decide_eq_true_eq] at h h'
          have hn : n = 0 := h.1.1.1.2
          have hn' : n' = 0 := h'.1.1.1.2
          subst hn hn'
          simp only [cmpT, cmpI_self, zero_orI]
          by_cases hl : l.length = l'.length
          · by_cases hs : s = s'
            · subst hs
              have := refL_cmpL l l' hl ih h.2 h'.2
              simp [refT, k1, k2, k3, hl, this, cmpI_self, cmpS_self, zero_orI]
            · simp [refT, k1, k2, k3, hl, hs, cmpI_self, zero_orI, orI_ne _ (cmpS_ne hs)]
          · have hne : cmpI (l.length : Int) l'.length ≠ 0 := cmpI_ne (by omega)
            simp [refT, k1, k2, k3, hl, orI_ne _ hne]
  · simp [refT, cmpT, hk, orI_ne _ (cmpI_ne hk)]
theorem ref_cmp_good {t u : Tm} (h : t.good = true) (h' : u.good = true) : refT t u = cmpT t u := by
  simp only [Tm.good, Bool.and_eq_true] at h h'
  exact ref_cmp t u h.2 h'.2
end Go.Proofs.Ytdflckjnpgbjlaa

/- Plain laws of layer 2: the order is one. No condition. -/
import Derived.Test.YtdflckjnpgbjlaaF7
set_option linter.unusedVariables false
set_option maxRecDepth 20000
set_option linter.unusedSimpArgs false
namespace Go.Proofs.Ytdflckjnpgbjlaa

/-- What a comparison by three-way numbers must be. -/
structure Cmp (x xr : Int) (e : Prop) : Prop where
  rng : x = -1 ∨ x = 0 ∨ x = 1
  neg : xr = -x
  zero : x = 0 ↔ e
theorem cmpI_cmp (a b : Int) : Cmp (cmpI a b) (cmpI b a) (a = b) := by
  unfold cmpI
  refine ⟨?_, ?_, ?_⟩
  · (repeat' split) <;> simp
  · (repeat' split) <;> omega
  · (repeat' split) <;> omega
theorem tx_cmp : ∀ l m : List UInt8, Cmp (tx l m) (tx m l) (l = m)
  | [], [] => ⟨by simp [tx_nil], by simp [tx_nil], by simp [tx_nil]⟩
  | [], y :: m => ⟨by simp [tx_nil_cons], by simp [tx_nil_cons, tx_cons_nil], by simp [tx_nil_cons]⟩
  | x :: l, [] => ⟨by simp [tx_cons_nil], by simp [tx_nil_cons, tx_cons_nil], by simp [tx_cons_nil]⟩
  | x :: l, y :: m => by
    rw [tx_cons, tx_cons]
    by_cases h : x = y
    · subst h
      have := tx_cmp l m
      simp only [if_pos]
      exact ⟨this.rng, this.neg, by rw [this.zero]; simp⟩
    · have h' : ¬ y = x := fun e => h e.symm
      rw [if_neg h, if_neg h']
      by_cases hl : x < y
      · have : ¬ y < x := by
          rw [UInt8.lt_iff_toNat_lt] at hl ⊢; omega
        rw [if_pos hl, if_neg this]
        exact ⟨by simp, by simp, by simp [h]⟩
      · have : y < x := by
          rw [UInt8.lt_iff_toNat_lt] at hl ⊢
          have : x.toNat ≠ y.toNat := fun e => h (UInt8.toNat_inj.1 e)
          omega
        rw [if_neg hl, if_pos this]
        exact ⟨by simp, by simp, by simp [h]⟩
theorem cmpS_cmp (a b : ByteArray) : Cmp (cmpS a b) (cmpS b a) (a = b) := by
  rw [cmpS_tx, cmpS_tx]
  have := tx_cmp a.data.toList b.data.toList
  refine ⟨this.rng, this.neg, this.zero.trans ⟨fun h => ?_, fun h => by rw [h]⟩⟩
  obtain ⟨a⟩ := a
  obtain ⟨b⟩ := b
  simpa using h
theorem orI_cmp {x xr y yr : Int} {e f : Prop} (h : Cmp x xr e) (k : Cmp y yr f) : Cmp (orI x y) (orI xr yr) (e ∧ f) := by
  obtain ⟨h1, h2, h3⟩ := h
  obtain ⟨k1, k2, k3⟩ := k
  by_cases hx : x = 0
  · have hxr : xr = 0 := by omega
    subst hx
    rw [hxr, zero_orI, zero_orI]
    exact ⟨k1, k2, by rw [k3]; exact ⟨fun hf => ⟨h3.1 rfl, hf⟩, fun hf => hf.2⟩⟩
  · have hxr : xr ≠ 0 := by omega
    rw [orI_ne _ hx, orI_ne _ hxr]
    exact ⟨h1, h2, ⟨fun h0 => absurd h0 hx, fun hf => absurd (h3.2 hf.1) hx⟩⟩
mutual
theorem cmpT_cmp : ∀ t u : Tm, Cmp (cmpT t u) (cmpT u t) (t = u)
  | ⟨k, s, n, l⟩, ⟨k', s', n', l'⟩ => by
    simp only [cmpT]
    have := orI_cmp (cmpI_cmp k k') (orI_cmp (cmpI_cmp n n') (orI_cmp (cmpI_cmp l.length l'.length) (orI_cmp (cmpS_cmp s s') (cmpL_cmp l l'))))
    refine ⟨this.rng, this.neg, this.zero.trans ⟨?_, ?_⟩⟩
    · rintro ⟨rfl, rfl, _, rfl, rfl⟩; rfl
    · intro h; injection h with h1 h2 h3 h4; subst h1 h2 h3 h4; exact ⟨rfl, rfl, rfl, rfl, rfl⟩
theorem cmpL_cmp : ∀ l m : List Tm, Cmp (cmpL l m) (cmpL m l) (l = m)
  | [], [] => ⟨by simp [cmpL], by simp [cmpL], by simp [cmpL]⟩
  | [], y :: m => ⟨by simp [cmpL], by simp [cmpL], by simp [cmpL]⟩
  | x :: l, [] => ⟨by simp [cmpL], by simp [cmpL], by simp [cmpL]⟩
  | t :: ts, u :: us => by
    simp only [cmpL]
    have := orI_cmp (cmpT_cmp t u) (cmpL_cmp ts us)
    exact ⟨this.rng, this.neg, this.zero.trans (by simp)⟩
end
/-- Transitivity, as far as three comparisons go: what is not behind of what is not behind is not behind; and where both are alike, all are. -/
structure Tr (x y z : Int) : Prop where
  le : x ≤ 0 → y ≤ 0 → z ≤ 0
  ge : 0 ≤ x → 0 ≤ y → 0 ≤ z
  lt : x ≤ 0 → y ≤ 0 → z = 0 → x = 0 ∧ y = 0
  gt : 0 ≤ x → 0 ≤ y → z = 0 → x = 0 ∧ y = 0
theorem cmpI_tr (a b c : Int) : Tr (cmpI a b) (cmpI b c) (cmpI a c) := by
  unfold cmpI
  constructor <;> (repeat' split) <;> omega
theorem orI_tr {x y z x' y' z' : Int} (h : Tr x y z) (k : Tr x' y' z') : Tr (orI x x') (orI y y') (orI z z') := by
  obtain ⟨h1, h2, h3, h4⟩ := h
  obtain ⟨k1, k2, k3, k4⟩ := k
  unfold orI
  constructor <;> (repeat' split) <;> omega
theorem tx_tr : ∀ l m n : List UInt8, Tr (tx l m) (tx m n) (tx l n)
  | [], [], [] => by simp only [tx_nil]; constructor <;> omega
  | [], [], z :: n => by simp only [tx_nil, tx_nil_cons]; constructor <;> omega
  | [], y :: m, [] => by simp only [tx_nil, tx_nil_cons, tx_cons_nil]; constructor <;> omega
  | x :: l, [], [] => by simp only [tx_nil, tx_nil_cons, tx_cons_nil]; constructor <;> omega
  | x :: l, y :: m, [] => by
    have h := tx_cmp (x :: l) (y :: m)
    simp only [tx_cons_nil]; constructor <;> omega
  | x :: l, [], z :: n => by
    simp only [tx_cons_nil, tx_nil_cons]; constructor <;> omega
  | [], y :: m, z :: n => by
    have h := (tx_cmp (y :: m) (z :: n)).rng
    simp only [tx_nil_cons]; constructor <;> omega
  | x :: l, y :: m, z :: n => by
    have ih := tx_tr l m n
    rw [tx_cons, tx_cons, tx_cons]
    by_cases h1 : x = y
    · by_cases h2 : y = z
      · subst h1 h2; simp only [if_pos]; exact ih
      · subst h1; rw [if_pos rfl, if_neg h2]
        have hr := (tx_cmp l m).rng
        constructor <;> (repeat' split) <;> omega
    · by_cases h2 : y = z
      · subst h2; rw [if_neg h1, if_pos rfl]
        have hr := (tx_cmp m n).rng
        constructor <;> (repeat' split) <;> omega
      · rw [if_neg h1, if_neg h2]
        have e1 : x.toNat ≠ y.toNat := fun e => h1 (UInt8.toNat_inj.1 e)
        have e2 : y.toNat ≠ z.toNat := fun e => h2 (UInt8.toNat_inj.1 e)
        by_cases h3 : x = z
        · subst h3; rw [if_pos rfl]
          simp only [UInt8.lt_iff_toNat_lt]
          constructor <;> (repeat' split) <;> omega
        · have e3 : x.toNat ≠ z.toNat := fun e => h3 (UInt8.toNat_inj.1 e)
          rw [if_neg h3]
          simp only [UInt8.lt_iff_toNat_lt]
          constructor <;> (repeat' split) <;> omega
theorem cmpS_tr (a b c : ByteArray) : Tr (cmpS a b) (cmpS b c) (cmpS a c) := by
  rw [cmpS_tx, cmpS_tx, cmpS_tx]; exact tx_tr _ _ _
mutual
theorem cmpT_tr : ∀ t u v : Tm, Tr (cmpT t u) (cmpT u v) (cmpT t v)
  | ⟨k, s, n, l⟩, ⟨k', s', n', l'⟩, ⟨k'', s'', n'', l''⟩ => by
    simp only [cmpT]
    exact orI_tr (cmpI_tr _ _ _) (orI_tr (cmpI_tr _ _ _) (orI_tr (cmpI_tr _ _ _) (orI_tr (cmpS_tr _ _ _) (cmpL_tr l l' l''))))
theorem cmpL_tr : ∀ l m n : List Tm, Tr (cmpL l m) (cmpL m n) (cmpL l n)
  | [], [], [] => by simp only [cmpL]; constructor <;> omega
  | [], [], z :: n => by simp only [cmpL]; constructor <;> omega
  | [], y :: m, [] => by simp only [cmpL]; constructor <;> omega
  | x :: l, [], [] => by simp only [cmpL]; constructor <;> omega
  | x :: l, y :: m, [] => by
    have h := (cmpL_cmp (x :: l) (y :: m)).rng
    have e1 : cmpL (y :: m) [] = 1 := by simp [cmpL]
    have e2 : cmpL (x :: l) [] = 1 := by simp [cmpL]
    rw [e1, e2]; constructor <;> omega
  | x :: l, [], z :: n => by
    have e1 : cmpL (x :: l) [] = 1 := by simp [cmpL]
    have e2 : cmpL [] (z :: n) = -1 := by simp [cmpL]
    rw [e1, e2]; constructor <;> omega
  | [], y :: m, z :: n => by
    have h := (cmpL_cmp (y :: m) (z :: n)).rng
    have e1 : cmpL [] (y :: m) = -1 := by simp [cmpL]
    have e2 : cmpL [] (z :: n) = -1 := by simp [cmpL]
    rw [e1, e2]; constructor <;> omega
  | x :: l, y :: m, z :: n => by
    simp only [cmpL]
    exact orI_tr (cmpT_tr x y z) (cmpL_tr l m n)
end
theorem cmpT_kinds (t u : Tm) (h : t.k < u.k) : cmpT t u = -1 := by
  obtain ⟨k, s, n, l⟩ := t
  obtain ⟨k', s', n', l'⟩ := u
  simp only at h
  have : cmpI k k' = -1 := by simp [cmpI, h]
  simp [cmpT, this, orI]
end Go.Proofs.Ytdflckjnpgbjlaa

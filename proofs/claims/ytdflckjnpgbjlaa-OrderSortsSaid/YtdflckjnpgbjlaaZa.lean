/- Plain laws of sorting: lists in order, swaps, what a merge by turning leaves. No condition. -/
import Derived.Test.YtdflckjnpgbjlaaF8
set_option linter.unusedVariables false
set_option maxRecDepth 20000
set_option linter.unusedSimpArgs false
namespace Go.Proofs.Ytdflckjnpgbjlaa

/-- Not behind. -/
def Le (x y : Tm) : Prop := cmpT x y ≤ 0
theorem Le.rfl' (x : Tm) : Le x x := by unfold Le; rw [cmpT_self]; omega
theorem Le.trans {x y z : Tm} (h : Le x y) (k : Le y z) : Le x z := (cmpT_tr x y z).le h k
theorem Le.of_lt {x y : Tm} (h : cmpT x y < 0) : Le x y := by unfold Le; omega
theorem Le.of_not {x y : Tm} (h : ¬ cmpT x y < 0) : Le y x := by
  unfold Le
  have := (cmpT_cmp x y).neg
  omega
/-- In order. -/
def Sd (l : List Tm) : Prop := l.Pairwise Le
theorem Sd.nil : Sd [] := List.Pairwise.nil
theorem Sd.one (x : Tm) : Sd [x] := List.pairwise_singleton _ _
theorem Sd.app {l m : List Tm} : Sd (l ++ m) ↔ Sd l ∧ Sd m ∧ ∀ x ∈ l, ∀ y ∈ m, Le x y := List.pairwise_append
theorem Sd.left {l m : List Tm} (h : Sd (l ++ m)) : Sd l := (Sd.app.1 h).1
theorem Sd.right {l m : List Tm} (h : Sd (l ++ m)) : Sd m := (Sd.app.1 h).2.1
theorem Sd.cons {x : Tm} {l : List Tm} : Sd (x :: l) ↔ (∀ y ∈ l, Le x y) ∧ Sd l := List.pairwise_cons
theorem Sd.at_le {l : List Tm} (h : Sd l) {i j : Nat} (hij : i ≤ j) (hj : j < l.length) : Le (l[i]'(by omega)) l[j] := by
  rcases Nat.eq_or_lt_of_le hij with e | e
  · subst e; exact Le.rfl' _
  · exact List.pairwise_iff_getElem.1 h i j (by omega) hj e
/-- Two elements change places. -/
theorem get_mid {A C : List Tm} {z : Tm} {h : Nat} (he : h = A.length) (hl : h < (A ++ z :: C).length) : (A ++ z :: C)[h] = z := by
  subst he
  simp
theorem set_mid {A C : List Tm} {u z : Tm} {h : Nat} (he : h = A.length) : (A ++ z :: C).set h u = A ++ u :: C := by
  subst he
  simp
theorem swap_mid {A B C : List Tm} {u w : Tm} {i j : Nat} (hi : i = A.length) (hj : j = A.length + 1 + B.length) :
    ((A ++ u :: (B ++ w :: C)).set i w).set j u = A ++ w :: (B ++ u :: C) := by
  rw [set_mid hi, show A ++ w :: (B ++ w :: C) = (A ++ w :: B) ++ w :: C by simp, set_mid (by simp; omega)]
  simp
theorem swap_mid' {A B C : List Tm} {u w : Tm} {i j : Nat} (hi : i = A.length) (hj : j = A.length + 1 + B.length) :
    ((A ++ u :: (B ++ w :: C)).set j u).set i w = A ++ w :: (B ++ u :: C) := by
  rw [show A ++ u :: (B ++ w :: C) = (A ++ u :: B) ++ w :: C by simp, set_mid (by simp; omega), show (A ++ u :: B) ++ u :: C = A ++ u :: (B ++ u :: C) by simp, set_mid hi]
theorem split_at {l : List Tm} {i : Nat} (h : i < l.length) : ∃ A z C, l = A ++ z :: C ∧ A.length = i :=
  ⟨l.take i, l[i], l.drop (i + 1), by simp, by simp; omega⟩
theorem split_le {l : List Tm} {i : Nat} (h : i ≤ l.length) : ∃ A C, l = A ++ C ∧ A.length = i := ⟨l.take i, l.drop i, by simp, by simp; omega⟩
theorem take_all {l : List Tm} (h : l ≠ []) : ∃ A z, l = A ++ [z] := ⟨_, _, (List.dropLast_concat_getLast h).symm⟩

/-- Where the turning begins: what the search finds. -/
theorem cut_le {L R : List Tm} (hL : Sd L) (hR : Sd R) {s e s0 r0 : Nat} (hs : s ≤ L.length) (he : e ≤ R.length) (hs0 : s0 ≤ s) (hr0 : s ≤ r0) (hr1 : r0 ≤ L.length)
    (h1 : ∀ c, ∀ hc : c < L.length, ∀ hd : s + e - 1 - c < R.length, s0 ≤ c → c < s → Le L[c] R[s + e - 1 - c])
    (h2 : ∀ c, ∀ hc : c < L.length, ∀ hd : s + e - 1 - c < R.length, s ≤ c → c < r0 → Le R[s + e - 1 - c] L[c])
    (h3 : s = s0 → s = 0 ∨ e = R.length) (h4 : s = r0 → s = L.length ∨ e = 0) :
    ∀ x ∈ L.take s ++ R.take e, ∀ y ∈ L.drop s ++ R.drop e, Le x y := by
  have hLL : ∀ x ∈ L.take s, ∀ y ∈ L.drop s, Le x y := (Sd.app.1 (by rw [List.take_append_drop]; exact hL)).2.2
  have hRR : ∀ x ∈ R.take e, ∀ y ∈ R.drop e, Le x y := (Sd.app.1 (by rw [List.take_append_drop]; exact hR)).2.2
  have hLR : ∀ x ∈ L.take s, ∀ y ∈ R.drop e, Le x y := fun x hx y hy => by
    obtain ⟨i, hi, rfl⟩ := List.getElem_of_mem hx
    obtain ⟨j, hj, rfl⟩ := List.getElem_of_mem hy
    simp only [List.length_take, List.length_drop] at hi hj
    rw [List.getElem_take, List.getElem_drop]
    have hs1 : s ≠ s0 := fun q => by rcases h3 q with q | q <;> omega
    have k := h1 (s - 1) (by omega) (by omega) (by omega) (by omega)
    exact (hL.at_le (i := i) (j := s - 1) (by omega) (by omega)).trans (k.trans (hR.at_le (i := s + e - 1 - (s - 1)) (j := e + j) (by omega) (by omega)))
  have hRL : ∀ x ∈ R.take e, ∀ y ∈ L.drop s, Le x y := fun x hx y hy => by
    obtain ⟨i, hi, rfl⟩ := List.getElem_of_mem hx
    obtain ⟨j, hj, rfl⟩ := List.getElem_of_mem hy
    simp only [List.length_take, List.length_drop] at hi hj
    rw [List.getElem_take, List.getElem_drop]
    have hs1 : s ≠ r0 := fun q => by rcases h4 q with q | q <;> omega
    have k := h2 s (by omega) (by omega) (by omega) (by omega)
    exact (hR.at_le (i := i) (j := s + e - 1 - s) (by omega) (by omega)).trans (k.trans (hL.at_le (i := s) (j := s + j) (by omega) (by omega)))
  intro x hx y hy
  rcases List.mem_append.1 hx with hx | hx <;> rcases List.mem_append.1 hy with hy | hy
  · exact hLL x hx y hy
  · exact hLR x hx y hy
  · exact hRL x hx y hy
  · exact hRR x hx y hy
/-- Both halves in order, the first not behind the second. -/
theorem Sd.join {L1 R1 L2 R2 M1 M2 : List Tm} (h : ∀ x ∈ L1 ++ R1, ∀ y ∈ L2 ++ R2, Le x y) (h1 : Sd M1) (h2 : Sd M2) (p1 : M1.Perm (L1 ++ R1)) (p2 : M2.Perm (L2 ++ R2)) : Sd (M1 ++ M2) ∧ (M1 ++ M2).Perm ((L1 ++ L2) ++ (R1 ++ R2)) := by
  refine ⟨Sd.app.2 ⟨h1, h2, fun x hx y hy => h x (p1.mem_iff.1 hx) y (p2.mem_iff.1 hy)⟩, (p1.append p2).trans ?_⟩
  rw [show L1 ++ R1 ++ (L2 ++ R2) = L1 ++ ((R1 ++ L2) ++ R2) by simp, show L1 ++ L2 ++ (R1 ++ R2) = L1 ++ ((L2 ++ R1) ++ R2) by simp]
  exact ((List.perm_append_comm).append_right _).append_left _
/-- One into a list in order. -/
theorem Sd.put {A B : List Tm} {x : Tm} (h : Sd (A ++ B)) (h1 : ∀ a ∈ A, Le a x) (h2 : ∀ b ∈ B, Le x b) : Sd (A ++ x :: B) := by
  obtain ⟨hA, hB, hAB⟩ := Sd.app.1 h
  refine Sd.app.2 ⟨hA, Sd.cons.2 ⟨h2, hB⟩, fun a ha y hy => ?_⟩
  rcases List.mem_cons.1 hy with rfl | hy
  · exact h1 a ha
  · exact hAB a ha y hy
theorem put_perm (A B : List Tm) (x : Tm) : (A ++ x :: B).Perm (x :: (A ++ B)) := List.perm_middle
/-! ### The insertion sort of a part -/
def OutI (P S Q : List Tm) (k : Nat) (zs : List Tm) : Prop := ∃ T U, Sd T ∧ (T ++ U).Perm S ∧ (T.length = k ∨ (S = [] ∧ k = 1)) ∧ zs = (P ++ T) ++ (U ++ Q)
def InI (P S Q : List Tm) (k j : Nat) (zs : List Tm) : Prop := ∃ T1 x T2 U, Sd (T1 ++ T2) ∧ (T1 ++ x :: T2 ++ U).Perm S ∧ T1.length + T2.length = k ∧ zs = (P ++ T1) ++ x :: (T2 ++ (U ++ Q)) ∧ j = P.length + T1.length ∧ ∀ y ∈ T2, Le x y
section
variable {P S Q zs : List Tm} {k j : Nat}
theorem OutI.start (P S Q : List Tm) : OutI P S Q 1 (P ++ (S ++ Q)) := by
  cases S with
  | nil => exact ⟨[], [], Sd.nil, .refl _, .inr ⟨rfl, rfl⟩, by simp⟩
  | cons x S => exact ⟨[x], S, Sd.one x, .refl _, .inl rfl, by simp⟩
theorem OutI.inn (h : OutI P S Q k zs) (hk : k < S.length) : InI P S Q k (P.length + k) zs := by
  obtain ⟨T, U, h1, h2, h3, rfl⟩ := h
  have hl := h2.length_eq
  have hT : T.length = k := h3.resolve_right (fun e => by rw [e.1] at hk; simp at hk)
  cases U with
  | nil => simp at hl; omega
  | cons x U => exact ⟨T, x, [], U, by simpa using h1, by simpa using h2, by simpa using hT, by simp, by omega, by simp⟩
theorem InI.exit0 (h : InI P S Q k P.length zs) : OutI P S Q (k + 1) zs := by
  obtain ⟨T1, x, T2, U, h1, h2, h3, rfl, h5, h6⟩ := h
  have : T1 = [] := List.eq_nil_of_length_eq_zero (by omega)
  subst this
  exact ⟨x :: T2, U, Sd.cons.2 ⟨h6, by simpa using h1⟩, by simpa using h2, .inl (by simp at h3 ⊢; omega), by simp⟩
theorem InI.bound (h : InI P S Q k j zs) : P.length ≤ j ∧ j ≤ P.length + k ∧ P.length + k < P.length + S.length ∧ zs.length = P.length + S.length + Q.length := by
  obtain ⟨T1, x, T2, U, h1, h2, h3, rfl, h5, h6⟩ := h
  have hl := h2.length_eq
  simp at hl ⊢
  omega
theorem InI.split (h : InI P S Q k (j + 1) zs) (hp : P.length < j + 1) : ∃ A y x C, zs = A ++ y :: ([] ++ x :: C) ∧ A.length = j ∧ (cmpT x y < 0 → InI P S Q k j (A ++ x :: ([] ++ y :: C))) ∧ (¬ cmpT x y < 0 → OutI P S Q (k + 1) zs) := by
  obtain ⟨T1, x, T2, U, h1, h2, h3, rfl, h5, h6⟩ := h
  obtain ⟨T0, y, rfl⟩ := take_all (l := T1) (fun e => by subst e; simp at h5; omega)
  refine ⟨P ++ T0, y, x, T2 ++ (U ++ Q), by simp, by simp at h5 ⊢; omega, fun hx => ?_, fun hx => ?_⟩
  · refine ⟨T0, x, y :: T2, U, by simpa using h1, ?_, by simp at h3 ⊢; omega, by simp, by simp at h5 ⊢; omega, fun z hz => ?_⟩
    · refine List.Perm.trans ?_ h2
      simp only [List.append_assoc, List.cons_append, List.nil_append]
      exact (List.Perm.swap y x _).append_left T0
    · rcases List.mem_cons.1 hz with rfl | hz
      · exact Le.of_lt hx
      · exact h6 z hz
  · refine ⟨T0 ++ [y] ++ x :: T2, U, Sd.put h1 (fun a ha => ?_) h6, by simpa using h2, .inl (by simp at h3 ⊢; omega), by simp⟩
    rcases List.mem_append.1 ha with ha | ha
    · exact ((Sd.app.1 h1.left).2.2 a ha y (by simp)).trans (Le.of_not hx)
    · rw [List.mem_singleton.1 ha]; exact Le.of_not hx
theorem OutI.fin (h : OutI P S Q k zs) (hk : ¬ k < S.length) : ∃ M, Sd M ∧ M.Perm S ∧ zs = P ++ (M ++ Q) := by
  obtain ⟨T, U, h1, h2, h3, rfl⟩ := h
  have hl := h2.length_eq
  have hU : U = [] := by
    rcases h3 with h3 | ⟨rfl, -⟩
    · simp at hl; exact List.eq_nil_of_length_eq_zero (by omega)
    · simp at hl; exact hl.2
  subst hU
  exact ⟨T, h1, by simpa using h2, by simp⟩
end
theorem InI.step {P S Q zs : List Tm} {k j : Nat} (h : InI P S Q k (j + 1) zs) (hp : P.length < j + 1) (hj1 : j + 1 < zs.length) :
    (cmpT zs[j + 1] (zs[j]'(by omega)) < 0 → InI P S Q k j ((zs.set (j + 1) (zs[j]'(by omega))).set j zs[j + 1])) ∧ (¬ cmpT zs[j + 1] (zs[j]'(by omega)) < 0 → OutI P S Q (k + 1) zs) := by
  obtain ⟨A, y, x, C, rfl, hA, h1, h2⟩ := h.split hp
  have e0 : (A ++ y :: ([] ++ x :: C))[j]'(by omega) = y := get_mid hA.symm _
  have e1 : (A ++ y :: ([] ++ x :: C))[j + 1] = x := by
    have e : A ++ y :: ([] ++ x :: C) = (A ++ [y]) ++ x :: C := by simp
    simp only [e]
    exact get_mid (by simp; omega) _
  rw [e0, e1, swap_mid' hA.symm (by simp; omega)]
  exact ⟨h1, h2⟩
/-! ### Two blocks change places, element by element -/
def SwI (P U V W Q : List Tm) (i : Nat) (zs : List Tm) : Prop := ∃ U1 U2 W1 W2, U = U1 ++ U2 ∧ W = W1 ++ W2 ∧ U1.length = i ∧ W1.length = i ∧ zs = (P ++ W1) ++ (U2 ++ (V ++ (U1 ++ (W2 ++ Q))))
section
variable {P U V W Q zs : List Tm} {i : Nat}
theorem SwI.start (P U V W Q : List Tm) : SwI P U V W Q 0 (P ++ (U ++ (V ++ (W ++ Q)))) := ⟨[], U, [], W, by simp, by simp, rfl, rfl, by simp⟩
theorem SwI.len (h : SwI P U V W Q i zs) : zs.length = P.length + U.length + V.length + W.length + Q.length := by
  obtain ⟨U1, U2, W1, W2, rfl, rfl, h1, h2, rfl⟩ := h
  simp; omega
theorem SwI.step (h : SwI P U V W Q i zs) (hi : i < U.length) (hw : W.length = U.length) {x y : Nat} (ex : x = P.length + i) (ey : y = P.length + U.length + V.length + i) (hx : x < zs.length) (hy : y < zs.length) :
    SwI P U V W Q (i + 1) ((zs.set x zs[y]).set y zs[x]) := by
  obtain ⟨U1, U2, W1, W2, rfl, rfl, h1, h2, rfl⟩ := h
  cases U2 with
  | nil => simp at hi; omega
  | cons u U2 =>
    cases W2 with
    | nil => simp at hw; omega
    | cons v W2 =>
      simp only [List.length_append, List.length_cons] at ey hi hw
      have e : (P ++ W1) ++ ((u :: U2) ++ (V ++ (U1 ++ ((v :: W2) ++ Q)))) = (P ++ W1) ++ u :: ((U2 ++ (V ++ U1)) ++ v :: (W2 ++ Q)) := by simp
      have e2 : (P ++ W1) ++ ((u :: U2) ++ (V ++ (U1 ++ ((v :: W2) ++ Q)))) = ((P ++ W1) ++ u :: (U2 ++ (V ++ U1))) ++ v :: (W2 ++ Q) := by simp
      have g1 : ((P ++ W1) ++ ((u :: U2) ++ (V ++ (U1 ++ ((v :: W2) ++ Q)))))[x] = u := by simp only [e]; exact get_mid (by simp; omega) _
      have g2 : ((P ++ W1) ++ ((u :: U2) ++ (V ++ (U1 ++ ((v :: W2) ++ Q)))))[y] = v := by simp only [e2]; exact get_mid (by simp; omega) _
      rw [g1, g2, e, swap_mid (by simp; omega) (by simp; omega)]
      exact ⟨U1 ++ [u], U2, W1 ++ [v], W2, by simp, by simp, by simp; omega, by simp; omega, by simp⟩
theorem SwI.fin (h : SwI P U V W Q U.length zs) (hw : W.length = U.length) : zs = P ++ (W ++ (V ++ (U ++ Q))) := by
  obtain ⟨U1, U2, W1, W2, rfl, rfl, h1, h2, rfl⟩ := h
  simp only [List.length_append] at h1 h2 hw
  have e1 : U2 = [] := List.eq_nil_of_length_eq_zero (by omega)
  have e2 : W2 = [] := List.eq_nil_of_length_eq_zero (by omega)
  subst e1 e2
  simp
end
/-! ### A turning -/
def RotI (m : Nat) (tgt : List Tm) (i j : Nat) (zs : List Tm) : Prop := ∃ P A B Q, zs = P ++ (A ++ (B ++ Q)) ∧ A.length = i ∧ B.length = j ∧ P.length + i = m ∧ tgt = P ++ (B ++ (A ++ Q))
section
variable {m i j : Nat} {tgt zs : List Tm}
theorem RotI.start (P A B Q : List Tm) : RotI (P.length + A.length) (P ++ (B ++ (A ++ Q))) A.length B.length (P ++ (A ++ (B ++ Q))) := ⟨P, A, B, Q, rfl, rfl, rfl, rfl, rfl⟩
theorem RotI.len (h : RotI m tgt i j zs) : i ≤ m ∧ m + j ≤ zs.length ∧ zs.length = tgt.length := by
  obtain ⟨P, A, B, Q, rfl, h1, h2, h3, rfl⟩ := h
  simp; omega
theorem RotI.gt (h : RotI m tgt i j zs) (hij : j < i) : ∃ P U V X Q, zs = P ++ (U ++ (V ++ (X ++ Q))) ∧ X.length = U.length ∧ m - i = P.length ∧ m = P.length + U.length + V.length ∧ j = U.length ∧ RotI m tgt (i - j) j (P ++ (X ++ (V ++ (U ++ Q)))) := by
  obtain ⟨P, A, B, Q, rfl, h1, h2, h3, rfl⟩ := h
  obtain ⟨U, V, rfl, hU⟩ := split_le (l := A) (i := j) (by omega)
  simp only [List.length_append] at h1
  exact ⟨P, U, V, B, Q, by simp, by omega, by omega, by omega, hU.symm, P ++ B, V, U, Q, by simp, by omega, hU, by simp; omega, by simp⟩
theorem RotI.lt (h : RotI m tgt i j zs) (hij : i < j) : ∃ P U V X Q, zs = P ++ (U ++ (V ++ (X ++ Q))) ∧ X.length = U.length ∧ m - i = P.length ∧ m + j - i = P.length + U.length + V.length ∧ i = U.length ∧ RotI m tgt i (j - i) (P ++ (X ++ (V ++ (U ++ Q)))) := by
  obtain ⟨P, A, B, Q, rfl, h1, h2, h3, rfl⟩ := h
  obtain ⟨X, Y, rfl, hX⟩ := split_le (l := B) (i := j - i) (by omega)
  simp only [List.length_append] at h2
  exact ⟨P, A, X, Y, Q, by simp, by omega, by omega, by omega, h1.symm, P, Y, X, A ++ Q, by simp, by omega, by omega, by omega, by simp⟩
theorem RotI.eq (h : RotI m tgt i i zs) : ∃ P U V X Q, zs = P ++ (U ++ (V ++ (X ++ Q))) ∧ X.length = U.length ∧ m - i = P.length ∧ m = P.length + U.length + V.length ∧ i = U.length ∧ tgt = P ++ (X ++ (V ++ (U ++ Q))) := by
  obtain ⟨P, A, B, Q, rfl, h1, h2, h3, rfl⟩ := h
  exact ⟨P, A, [], B, Q, by simp, by omega, by omega, by simp; omega, h1.symm, by simp⟩
end
end Go.Proofs.Ytdflckjnpgbjlaa

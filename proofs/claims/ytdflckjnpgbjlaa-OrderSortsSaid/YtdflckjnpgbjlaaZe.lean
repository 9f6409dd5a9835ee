/- Plain laws of the merge by turning: its searches. No condition. -/
import Derived.Test.YtdflckjnpgbjlaaZa
set_option linter.unusedVariables false
set_option maxRecDepth 20000
set_option linter.unusedSimpArgs false
namespace Go.Proofs.Ytdflckjnpgbjlaa
theorem lt_of_le {x y z : Tm} (h : Le x y) (k : cmpT y z < 0) : cmpT x z < 0 := by
  have t := cmpT_tr x y z
  have l := t.le h (by omega)
  have := t.lt h (by omega)
  by_cases e : cmpT x z = 0
  · have := (this e).2; omega
  · omega
theorem not_lt {x y : Tm} : ¬ cmpT x y < 0 ↔ Le y x := by
  unfold Le
  have := (cmpT_cmp x y).neg
  omega
theorem get_L {P L T : List Tm} {i x : Nat} (hi : i < L.length) (e : x = P.length + i) (hx : x < (P ++ (L ++ T)).length) : (P ++ (L ++ T))[x] = L[i] := by
  subst e
  rw [List.getElem_append_right (by omega), List.getElem_append_left (by omega)]
  simp
theorem get_R {P L R Q : List Tm} {i x : Nat} (hi : i < R.length) (e : x = P.length + L.length + i) (hx : x < (P ++ (L ++ (R ++ Q))).length) : (P ++ (L ++ (R ++ Q)))[x] = R[i] := by
  subst e
  rw [List.getElem_append_right (by omega), List.getElem_append_right (by omega), List.getElem_append_left (by omega)]
  congr 1
  omega
/-- A search by halves in a list in order. -/
def BsI (R : List Tm) (p : Tm → Prop) (o i j : Nat) : Prop := ∃ A B C, R = A ++ (B ++ C) ∧ i = o + A.length ∧ j = o + A.length + B.length ∧ (∀ y ∈ A, p y) ∧ (∀ y ∈ C, ¬ p y)
section
variable {R : List Tm} {p : Tm → Prop} {o i j h : Nat}
theorem BsI.start (R : List Tm) (p : Tm → Prop) (o : Nat) : BsI R p o o (o + R.length) := ⟨[], R, [], by simp, by simp, by simp, by simp, by simp⟩
theorem BsI.len (h : BsI R p o i j) : o ≤ i ∧ i ≤ j ∧ j ≤ o + R.length := by
  obtain ⟨A, B, C, rfl, h1, h2, -⟩ := h
  simp; omega
theorem BsI.step (hb : BsI R p o i j) (hR : Sd R) (hm : ∀ y z, Le y z → p z → p y) (h1 : i ≤ h) (h2 : h < j) (hx : h - o < R.length) : (p R[h - o] → BsI R p o (h + 1) j) ∧ (¬ p R[h - o] → BsI R p o i h) := by
  obtain ⟨A, B, C, rfl, e1, e2, hA, hC⟩ := hb
  obtain ⟨B1, z, B2, rfl, hl⟩ := split_at (l := B) (i := h - i) (by omega)
  have e : A ++ ((B1 ++ z :: B2) ++ C) = (A ++ B1) ++ z :: (B2 ++ C) := by simp
  have g : (A ++ ((B1 ++ z :: B2) ++ C))[h - o] = z := by simp only [e]; exact get_mid (by simp; omega) _
  rw [g]
  rw [e] at hR
  obtain ⟨s1, s2, s3⟩ := Sd.app.1 hR
  simp only [List.length_append, List.length_cons] at e2
  refine ⟨fun hp => ⟨A ++ B1 ++ [z], B2, C, by simp, by simp; omega, by simp; omega, fun y hy => ?_, hC⟩, fun hp => ⟨A, B1, z :: (B2 ++ C), by simp, e1, by omega, hA, fun y hy hpy => ?_⟩⟩
  · rcases List.mem_append.1 hy with hy | hy
    · exact hm y z (s3 y hy z (by simp)) hp
    · rw [List.mem_singleton.1 hy]; exact hp
  · rcases List.mem_cons.1 hy with rfl | hy
    · exact hp hpy
    · exact hp (hm z y ((Sd.cons.1 s2).1 y hy) hpy)
theorem BsI.fin (h : BsI R p o i i) : ∃ A C, R = A ++ C ∧ i = o + A.length ∧ (∀ y ∈ A, p y) ∧ (∀ y ∈ C, ¬ p y) := by
  obtain ⟨A, B, C, rfl, e1, e2, hA, hC⟩ := h
  have : B = [] := List.eq_nil_of_length_eq_zero (by omega)
  subst this
  exact ⟨A, C, by simp, e1, hA, hC⟩
end
/-- One element goes to the right. -/
def MvR (P : List Tm) (x : Tm) (A T : List Tm) (k : Nat) (zs : List Tm) : Prop := ∃ A1 A2, A = A1 ++ A2 ∧ k = P.length + A1.length ∧ zs = (P ++ A1) ++ x :: (A2 ++ T)
section
variable {P A T zs : List Tm} {x : Tm} {k : Nat}
theorem MvR.start (P : List Tm) (x : Tm) (A T : List Tm) : MvR P x A T P.length (P ++ ([x] ++ (A ++ T))) := ⟨[], A, by simp, by simp, by simp⟩
theorem MvR.len (h : MvR P x A T k zs) : P.length ≤ k ∧ k ≤ P.length + A.length ∧ zs.length = P.length + 1 + A.length + T.length := by
  obtain ⟨A1, A2, rfl, h1, rfl⟩ := h
  simp; omega
theorem MvR.step (h : MvR P x A T k zs) (hk : k < P.length + A.length) (hx : k < zs.length) (hy : k + 1 < zs.length) : MvR P x A T (k + 1) ((zs.set k zs[k + 1]).set (k + 1) zs[k]) := by
  obtain ⟨A1, A2, rfl, h1, rfl⟩ := h
  cases A2 with
  | nil => simp at hk; omega
  | cons y A2 =>
    have e : (P ++ A1) ++ x :: ((y :: A2) ++ T) = (P ++ A1) ++ x :: ([] ++ y :: (A2 ++ T)) := by simp
    have e2 : (P ++ A1) ++ x :: ((y :: A2) ++ T) = ((P ++ A1) ++ [x]) ++ y :: (A2 ++ T) := by simp
    have g1 : ((P ++ A1) ++ x :: ((y :: A2) ++ T))[k] = x := get_mid (by simp; omega) _
    have g2 : ((P ++ A1) ++ x :: ((y :: A2) ++ T))[k + 1] = y := by simp only [e2]; exact get_mid (by simp; omega) _
    rw [g1, g2, e, swap_mid (by simp; omega) (by simp; omega)]
    exact ⟨A1 ++ [y], A2, by simp, by simp; omega, by simp⟩
theorem MvR.fin (h : MvR P x A T k zs) (hk : ¬ k < P.length + A.length) : zs = P ++ ((A ++ [x]) ++ T) := by
  obtain ⟨A1, A2, rfl, h1, rfl⟩ := h
  simp only [List.length_append] at hk
  have : A2 = [] := List.eq_nil_of_length_eq_zero (by omega)
  subst this
  simp
end
/-- One element goes to the left. -/
def MvL (P : List Tm) (y : Tm) (C T : List Tm) (k : Nat) (zs : List Tm) : Prop := ∃ C1 C2, C = C1 ++ C2 ∧ k = P.length + C1.length ∧ zs = (P ++ C1) ++ y :: (C2 ++ T)
section
variable {P C T zs : List Tm} {y : Tm} {k : Nat}
theorem MvL.start (P : List Tm) (y : Tm) (C T : List Tm) : MvL P y C T (P.length + C.length) (P ++ (C ++ ([y] ++ T))) := ⟨C, [], by simp, by simp, by simp⟩
theorem MvL.len (h : MvL P y C T k zs) : P.length ≤ k ∧ k ≤ P.length + C.length ∧ zs.length = P.length + 1 + C.length + T.length := by
  obtain ⟨A1, A2, rfl, h1, rfl⟩ := h
  simp; omega
theorem MvL.step (h : MvL P y C T (k + 1) zs) (hk : P.length < k + 1) (hx : k < zs.length) (hy : k + 1 < zs.length) : MvL P y C T k ((zs.set (k + 1) zs[k]).set k zs[k + 1]) := by
  obtain ⟨C1, C2, rfl, h1, rfl⟩ := h
  obtain ⟨C0, z, rfl⟩ := take_all (l := C1) (fun e => by subst e; simp at h1; omega)
  simp only [List.length_append, List.length_singleton] at h1
  have e : (P ++ (C0 ++ [z])) ++ y :: (C2 ++ T) = (P ++ C0) ++ z :: ([] ++ y :: (C2 ++ T)) := by simp
  have g1 : ((P ++ (C0 ++ [z])) ++ y :: (C2 ++ T))[k] = z := by simp only [e]; exact get_mid (by simp; omega) _
  have g2 : ((P ++ (C0 ++ [z])) ++ y :: (C2 ++ T))[k + 1] = y := get_mid (by simp; omega) _
  rw [g1, g2, e, swap_mid' (by simp; omega) (by simp; omega)]
  exact ⟨C0, z :: C2, by simp, by omega, by simp⟩
theorem MvL.fin (h : MvL P y C T P.length zs) : zs = P ++ ((y :: C) ++ T) := by
  obtain ⟨C1, C2, rfl, h1, rfl⟩ := h
  have : C1 = [] := List.eq_nil_of_length_eq_zero (by omega)
  subst this
  simp
end
/-- The search for where to turn. -/
def SmI (L R : List Tm) (K s0 r0 i j : Nat) : Prop := s0 ≤ i ∧ i ≤ j ∧ j ≤ r0 ∧
  (∀ c, ∀ hc : c < L.length, ∀ hd : K - 1 - c < R.length, s0 ≤ c → c < i → Le L[c] R[K - 1 - c]) ∧
  (∀ c, ∀ hc : c < L.length, ∀ hd : K - 1 - c < R.length, j ≤ c → c < r0 → Le R[K - 1 - c] L[c])
theorem SmI.start {L R : List Tm} {K s0 r0 : Nat} (h : s0 ≤ r0) : SmI L R K s0 r0 s0 r0 := ⟨Nat.le_refl _, h, Nat.le_refl _, fun c _ _ h1 h2 => by omega, fun c _ _ h1 h2 => by omega⟩
theorem SmI.step {L R : List Tm} {K s0 r0 i j c : Nat} (h : SmI L R K s0 r0 i j) (hL : Sd L) (hR : Sd R) (h1 : i ≤ c) (h2 : c < j) (hr : r0 ≤ L.length) (hK : r0 ≤ K) (hs : K ≤ s0 + R.length) :
    (¬ cmpT (R[K - 1 - c]'(by have := h.1; have := h.2.2.1; omega)) (L[c]'(by have := h.2.2.1; omega)) < 0 → SmI L R K s0 r0 (c + 1) j) ∧ (cmpT (R[K - 1 - c]'(by have := h.1; have := h.2.2.1; omega)) (L[c]'(by have := h.2.2.1; omega)) < 0 → SmI L R K s0 r0 i c) := by
  obtain ⟨e1, e2, e3, e4, e5⟩ := h
  refine ⟨fun hx => ⟨by omega, by omega, e3, fun c0 hc hd q1 q2 => ?_, e5⟩, fun hx => ⟨e1, h1, by omega, e4, fun c0 hc hd q1 q2 => ?_⟩⟩
  · exact (hL.at_le (i := c0) (j := c) (by omega) (by omega)).trans ((Le.of_not hx).trans (hR.at_le (i := K - 1 - c) (j := K - 1 - c0) (by omega) (by omega)))
  · exact (hR.at_le (i := K - 1 - c0) (j := K - 1 - c) (by omega) (by omega)).trans ((Le.of_lt hx).trans (hL.at_le (i := c) (j := c0) (by omega) (by omega)))
theorem SmI.fin {L R : List Tm} {K s0 r0 s : Nat} (h : SmI L R K s0 r0 s s) (hL : Sd L) (hR : Sd R) (hr : r0 ≤ L.length) (hK : r0 ≤ K) (hs : K ≤ s0 + R.length) (h3 : s0 = 0 ∨ K = s0 + R.length) (h4 : r0 = L.length ∨ r0 = K) :
    ∃ L1 L2 R1 R2, L = L1 ++ L2 ∧ R = R1 ++ R2 ∧ L1.length = s ∧ R1.length = K - s ∧ ∀ x ∈ L1 ++ R1, ∀ y ∈ L2 ++ R2, Le x y := by
  obtain ⟨e1, e2, e3, e4, e5⟩ := h
  have eK : s + (K - s) = K := by omega
  refine ⟨L.take s, L.drop s, R.take (K - s), R.drop (K - s), by simp, by simp, by simp; omega, by simp; omega, ?_⟩
  refine cut_le hL hR (s0 := s0) (r0 := r0) (by omega) (by omega) e1 e3 hr (fun c hc hd q1 q2 => ?_) (fun c hc hd q1 q2 => ?_) (fun q => ?_) (fun q => ?_)
  · have := e4 c hc (by omega) q1 q2
    simp only [eK]; exact this
  · have := e5 c hc (by omega) q1 q2
    simp only [eK]; exact this
  · rcases h3 with h3 | h3 <;> omega
  · rcases h4 with h4 | h4 <;> omega
end Go.Proofs.Ytdflckjnpgbjlaa

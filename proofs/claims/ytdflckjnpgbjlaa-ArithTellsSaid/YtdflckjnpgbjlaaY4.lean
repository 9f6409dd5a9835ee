/- Layer 13 (arith): what a term is worth, in plain words; the operators' map. Conditions: the bindings make no circle. -/
import Derived.Test.YtdflckjnpgbjlaaY3
import Derived.Test.YtdflckjnpgbjlaaMp
import Derived.Test.YtdflckjnpgbjlaaG2
set_option linter.unusedVariables false
set_option maxRecDepth 20000
set_option linter.unusedSimpArgs false
namespace Go.Proofs.Ytdflckjnpgbjlaa
open Go.RowKit Go.WideMaps

def isOp (s : ByteArray) : Bool := decide (s = ⟨#[43]⟩) || decide (s = ⟨#[45]⟩) || decide (s = ⟨#[42]⟩) || decide (s = ⟨#[47, 47]⟩) || decide (s = ⟨#[114, 101, 109]⟩) || decide (s = ⟨#[109, 111, 100]⟩)
/-- An operator's; of none: nothing that is asked. -/
def opI (s : ByteArray) (a b : Int) : Rk :=
  if s = ⟨#[43]⟩ then addR a b
  else if s = ⟨#[45]⟩ then subR a b
  else if s = ⟨#[42]⟩ then mulR a b
  else if s = ⟨#[47, 47]⟩ then divR a b
  else if s = ⟨#[114, 101, 109]⟩ then remR a b
  else modR a b
/-- What a term is worth, and how many nodes there are then; c: how many there were. -/
def evF (l : Bs) : Nat → Tm → Nat → Rk × Nat
  | 0, _, c => (.er 31, c)
  | f + 1, t, c =>
    if 4096 < c + 1 then (.er 31, c + 1)
    else if (wlk l t).k = 1 then (.er 20, c + 1)
    else if (wlk l t).k = 2 then (.ok (wlk l t).n, c + 1)
    else if (wlk l t).k = 4 then
      match (wlk l t).l with
      | [a] => if (wlk l t).s = ⟨#[45]⟩ then (match evF l f a (c + 1) with
          | (.ok x, c') => (subR 0 x, c')
          | (.er e, c') => (.er e, c')) else (.er 21, c + 1)
      | [a, b] => if isOp (wlk l t).s = true then (match evF l f a (c + 1) with
          | (.ok x, c') => (match evF l f b c' with
            | (.ok y, c'') => (opI (wlk l t).s x y, c'')
            | (.er e, c'') => (.er e, c''))
          | (.er e, c') => (.er e, c')) else (.er 21, c + 1)
      | _ => (.er 21, c + 1)
    else (.er 21, c + 1)
theorem fitR_ok {x n : Int} (h : fitR x = .ok n) : in64 n := by
  unfold fitR at h
  split at h
  · rename_i h1; injection h with h; subst h; exact h1
  · cases h
theorem opI_in {s : ByteArray} {a b n : Int} (ha : in64 a) (hb : in64 b) (h : opI s a b = .ok n) : in64 n := by
  unfold opI at h
  split at h
  · exact fitR_ok h
  split at h
  · exact fitR_ok h
  split at h
  · exact fitR_ok h
  split at h
  · unfold divR at h; split at h
    · cases h
    · exact fitR_ok h
  split at h
  · unfold remR at h; split at h
    · cases h
    · injection h with h; subst h; exact tmod_in hb (by assumption)
  · unfold modR at h; split at h
    · cases h
    · injection h with h; subst h; exact modI_in ha hb (by assumption)
theorem wf_num {t : Tm} (h : t.Wf) : in64 t.n := by
  have := h.parts
  unfold in64
  omega
theorem evF_in {l : Bs} (hwf : ∀ n t, ofB l n = some t → t.Wf) : ∀ (f : Nat) (t : Tm) (c : Nat) (n : Int), t.Wf → (evF l f t c).1 = .ok n → in64 n := by
  intro f
  induction f with
  | zero => intro t c n _ h; cases h
  | succ f ih =>
    intro t c n ht h
    have hx := wlk_wf hwf t ht
    rw [evF] at h
    generalize wlk l t = x at h hx
    split at h
    · cases h
    split at h
    · cases h
    split at h
    · injection h with h; subst h; exact wf_num hx
    split at h
    · split at h
      · split at h
        · split at h
          · exact fitR_ok h
          · cases h
        · cases h
      · rename_i a b hl
        split at h
        · split at h
          · rename_i y c' h1
            split at h
            · rename_i z c'' h2
              have hp := hx.parts.2.2.2
              rw [hl] at hp
              simp only [WfL] at hp
              exact opI_in (ih a _ _ hp.1 (by rw [h1])) (ih b _ _ hp.2.1 (by rw [h2])) h
            · cases h
          · cases h
        · cases h
      · cases h
    · cases h
/-- What is worth: applied. -/
theorem evF_app {l : Bs} (hA : Acyc l) : ∀ (f : Nat) (t : Tm), Fn l f t → ∀ c, evF l f (app l f t) c = evF l f t c := by
  intro f
  induction f with
  | zero => intro t hf; exact hf.elim
  | succ f ih =>
    intro t hf c
    have hs0 : ∀ a ∈ (wlk l t).l, Fn l f a := hf
    have hst : nxt l (app l (f + 1) t) = none := by
      have := hA.ended t
      unfold nxt at this ⊢
      exact this
    have hw : wlk l (app l (f + 1) t) = app l (f + 1) t := wlk_stop hst
    have hk : (app l (f + 1) t).k = (wlk l t).k := rfl
    have hn : (app l (f + 1) t).n = (wlk l t).n := rfl
    have hs : (app l (f + 1) t).s = (wlk l t).s := rfl
    have hl : (app l (f + 1) t).l = (wlk l t).l.map (app l f) := rfl
    rw [evF, evF, hw, hk, hn, hs, hl]
    generalize wlk l t = x at hs0
    match hx : x.l with
    | [] => rfl
    | [a] =>
      rw [hx] at hs0
      simp only [List.map_cons, List.map_nil, ih a (hs0 a (by simp))]
    | [a, b] =>
      rw [hx] at hs0
      simp only [List.map_cons, List.map_nil, ih a (hs0 a (by simp)), ih b (hs0 b (by simp))]
    | a :: b :: d :: r => rfl
/-- More nodes ahead: the same, but for too many. -/
theorem evF_more {l : Bs} : ∀ (f : Nat) (t : Tm) (c d : Nat), (evF l f t (c + d)).1 = .er 31 ∨ ((evF l f t (c + d)).1 = (evF l f t c).1 ∧ (evF l f t (c + d)).2 = (evF l f t c).2 + d) := by
  intro f
  induction f with
  | zero => intro t c d; left; rfl
  | succ f ih =>
    intro t c d
    rw [evF, evF]
    generalize wlk l t = x
    by_cases h1 : 4096 < c + d + 1
    · left; rw [if_pos h1]
    · rw [if_neg h1, if_neg (show ¬ 4096 < c + 1 by omega)]
      split
      · right; exact ⟨rfl, by simp; omega⟩
      split
      · right; exact ⟨rfl, by simp; omega⟩
      split
      · split
        · rename_i a hl
          split
          · have h := ih a (c + 1) d
            rw [show c + 1 + d = c + d + 1 by omega] at h
            generalize evF l f a (c + d + 1) = p at h
            generalize evF l f a (c + 1) = q at h
            obtain ⟨p1, p2⟩ := p
            obtain ⟨q1, q2⟩ := q
            rcases h with h | ⟨h, h'⟩
            · simp only at h; subst h; left; rfl
            · simp only at h h'
              subst h h'
              right
              cases p1 <;> exact ⟨rfl, rfl⟩
          · right; exact ⟨rfl, by simp; omega⟩
        · rename_i a b hl
          split
          · have h := ih a (c + 1) d
            rw [show c + 1 + d = c + d + 1 by omega] at h
            generalize evF l f a (c + d + 1) = p at h
            generalize evF l f a (c + 1) = q at h
            obtain ⟨p1, p2⟩ := p
            obtain ⟨q1, q2⟩ := q
            rcases h with h | ⟨h, h'⟩
            · simp only at h; subst h; left; rfl
            · simp only at h h'
              subst h h'
              cases p1 with
              | er e => right; exact ⟨rfl, rfl⟩
              | ok y =>
                have h := ih b q2 d
                simp only
                generalize evF l f b (q2 + d) = p at h
                generalize evF l f b q2 = q at h
                obtain ⟨p1, p2⟩ := p
                obtain ⟨q1, q2⟩ := q
                rcases h with h | ⟨h, h'⟩
                · simp only at h; subst h; left; rfl
                · simp only at h h'
                  subst h h'
                  right
                  cases p1 <;> exact ⟨rfl, rfl⟩
          · right; exact ⟨rfl, by simp; omega⟩
        · right; exact ⟨rfl, by simp; omega⟩
      · right; exact ⟨rfl, by simp; omega⟩
end Go.Proofs.Ytdflckjnpgbjlaa

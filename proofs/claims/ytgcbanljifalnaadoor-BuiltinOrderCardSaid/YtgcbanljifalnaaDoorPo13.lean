import Derived.Test.YtgcbanljifalnaaDoorPo12
import Derived.Deep.DeepCutAuto
set_option linter.unusedVariables false
set_option maxRecDepth 20000
set_option linter.unusedSimpArgs false
/- Layer 13's reference: what a term is worth, walked. Conditions: the arguments read; the bindings make no circle. -/
namespace Go.Proofs.YtgcbanljifalnaaDoor
open Go.RowKit

theorem opI_er' {s : ByteArray} {a b e : Int} (h : opI s a b = .er e) : e = 22 ∨ e = 23 := by
  have hf : ∀ x, fitR x = .er e → e = 22 := fun x h => by
    unfold fitR at h
    split at h
    · cases h
    · injection h with h; exact h.symm
  unfold opI at h
  split at h
  · exact .inl (hf _ h)
  split at h
  · exact .inl (hf _ h)
  split at h
  · exact .inl (hf _ h)
  split at h
  · unfold divR at h; split at h
    · injection h with h; exact .inr h.symm
    · exact .inl (hf _ h)
  split at h
  · unfold remR at h; split at h
    · injection h with h; exact .inr h.symm
    · cases h
  · unfold modR at h; split at h
    · injection h with h; exact .inr h.symm
    · cases h
theorem subR_er' {a b e : Int} (h : subR a b = .er e) : e = 22 := by
  unfold subR fitR at h
  split at h
  · cases h
  · injection h with h; exact h.symm
theorem evF_er' {l : Bs} : ∀ (f : Nat) (t : Tm) (c : Nat) (e : Int), (evF l f t c).1 = .er e → e ≠ 0 := by
  intro f
  induction f with
  | zero => intro t c e h; injection h with h; omega
  | succ f ih =>
    intro t c e h
    rw [evF] at h
    generalize wlk l t = x at h
    split at h
    · injection h with h; omega
    split at h
    · injection h with h; omega
    split at h
    · cases h
    split at h
    · split at h
      · rename_i a hl
        split at h
        · split at h
          · have := subR_er' h; omega
          · rename_i q c' h1
            injection h with h
            subst h
            exact ih a (c + 1) q (by rw [h1])
        · injection h with h; omega
      · rename_i a b hl
        split at h
        · split at h
          · rename_i y c' h1
            split at h
            · rename_i z c'' h2
              rcases opI_er' h with h | h <;> omega
            · rename_i q c'' h2
              injection h with h
              subst h
              exact ih b _ q (by rw [h2])
          · rename_i q c' h1
            injection h with h
            subst h
            exact ih a (c + 1) q (by rw [h1])
        · injection h with h; omega
      · injection h with h; omega
    · injection h with h; omega
end Go.Proofs.YtgcbanljifalnaaDoor
/- Layer 14 (builtin): what the builtins do, plain. No condition. -/
namespace Go.Proofs.YtgcbanljifalnaaDoor

/-- How two may stand. -/
inductive Cm
  | lt
  | gt
  | eq
  | ne
  | le
  | ge
def Cm.so : Cm → Int → Bool
  | .lt, c => decide (c < 0)
  | .gt, c => decide (0 < c)
  | .eq, c => decide (c = 0)
  | .ne, c => decide (c ≠ 0)
  | .le, c => decide (c ≤ 0)
  | .ge, c => decide (0 ≤ c)
/-- The builtins. -/
inductive Bi
  | always (is : Bool)
  | uni
  | dif
  | alike (want : Bool)
  | stands (m : Cm)
  | becomes
  | reckons (m : Cm)
  | kinds (l : List Int)
def Bi.ar : Bi → Nat
  | .always _ => 0
  | .kinds _ => 1
  | _ => 2
def biL : List (ByteArray × Bi) := [(⟨#[116, 114, 117, 101]⟩, .always true), (⟨#[102, 97, 105, 108]⟩, .always false), (⟨#[61]⟩, .uni), (⟨#[92, 61]⟩, .dif), (⟨#[61, 61]⟩, .alike true), (⟨#[92, 61, 61]⟩, .alike false), (⟨#[64, 60]⟩, .stands .lt), (⟨#[64, 62]⟩, .stands .gt), (⟨#[64, 61, 60]⟩, .stands .le), (⟨#[64, 62, 61]⟩, .stands .ge), (⟨#[105, 115]⟩, .becomes), (⟨#[61, 58, 61]⟩, .reckons .eq), (⟨#[61, 92, 61]⟩, .reckons .ne), (⟨#[60]⟩, .reckons .lt), (⟨#[62]⟩, .reckons .gt), (⟨#[61, 60]⟩, .reckons .le), (⟨#[62, 61]⟩, .reckons .ge), (⟨#[118, 97, 114]⟩, .kinds [1]), (⟨#[110, 111, 110, 118, 97, 114]⟩, .kinds [2, 3, 4]), (⟨#[97, 116, 111, 109]⟩, .kinds [3]), (⟨#[105, 110, 116, 101, 103, 101, 114]⟩, .kinds [2]), (⟨#[97, 116, 111, 109, 105, 99]⟩, .kinds [3, 2]), (⟨#[99, 111, 109, 112, 111, 117, 110, 100]⟩, .kinds [4])]
def biOf (s : ByteArray) : Option Bi := (biL.find? (fun p => decide (p.1 = s))).map Prod.snd
def isBi (s : ByteArray) (n : Int) : Bool := match biOf s with
  | some b => decide ((b.ar : Int) = n)
  | none => false
/-- How a goal ends: an error; not; bindings. -/
inductive DO
  | err (e : Int)
  | no
  | yes (l : Bs)
def UO.do : UO → DO
  | .full => .err 31
  | .no => .no
  | .yes l _ => .yes l
def whenD (l : Bs) (is : Bool) : DO := if is = true then .yes l else .no
/-- What a term is worth. -/
noncomputable def evA (l : Bs) (t : Tm) : Rk := (evF l (fuelOf l t) t 0).1
def tInt (n : Int) : Tm := ⟨2, ⟨#[]⟩, n, []⟩
noncomputable def twoD (l : Bs) (a b : Tm) (f : Int × Bool → DO) : DO :=
  if 4096 < (visA l a).length then .err 31 else if 4096 < (visA l b).length then .err 31 else f (ordT (appA l a) (appA l b))
/-- What a builtin does. -/
noncomputable def Bi.run (l : Bs) : Bi → List Tm → DO
  | .always is, _ => whenD l is
  | .uni, [a, b] => (un 4098 0 l [(a, b)]).do
  | .dif, [a, b] => (match un 4098 0 l [(a, b)] with | .full => .err 31 | .no => .yes l | .yes _ _ => .no)
  | .alike want, [a, b] => twoD l a b (fun c => whenD l (decide (c.1 = 0 ∧ c.2 = true) == want))
  | .stands m, [a, b] => twoD l a b (fun c => if c.2 = true then whenD l (m.so c.1) else .err 20)
  | .becomes, [a, b] => if (evA l b).err ≠ 0 then .err (evA l b).err else (un 4098 0 l [(a, tInt (evA l b).val)]).do
  | .reckons m, [a, b] => if (evA l a).err ≠ 0 then .err (evA l a).err else if (evA l b).err ≠ 0 then .err (evA l b).err else whenD l (m.so (cmpI (evA l a).val (evA l b).val))
  | .kinds ks, [a] => whenD l (decide ((wlk l a).k ∈ ks))
  | _, _ => .err 1
/-- What a goal does. -/
noncomputable def doP (l : Bs) (g : Tm) : DO := match biOf g.s with
  | some b => if b.ar = g.l.length ∧ (g.k = 3 ∨ g.k = 4) then b.run l g.l else .err 1
  | none => .err 1
theorem biOf_some {s : ByteArray} {b : Bi} (h : biOf s = some b) : (s, b) ∈ biL := by
  unfold biOf at h
  obtain ⟨p, h1, h2⟩ := Option.map_eq_some_iff.1 h
  have h3 := List.find?_some h1
  have h4 := List.mem_of_find?_eq_some h1
  obtain ⟨p1, p2⟩ := p
  have h5 : p1 = s := by simpa using h3
  have h6 : p2 = b := h2
  rw [h5, h6] at h4
  exact h4
theorem biOf_none {s : ByteArray} (h : biOf s = none) : ∀ p ∈ biL, p.1 ≠ s := by
  unfold biOf at h
  have h1 := Option.map_eq_none_iff.1 h
  intro p hp e
  have := List.find?_eq_none.1 h1 p hp
  simp [e] at this
theorem isBi_iff {s : ByteArray} {n : Int} : isBi s n = true ↔ ∃ b, biOf s = some b ∧ (b.ar : Int) = n := by
  unfold isBi
  cases biOf s with
  | none => simp
  | some b => simp
end Go.Proofs.YtgcbanljifalnaaDoor
/- The reference: is a name one of some, that blanks part; which names are builtins. Conditions: strings as they may be. -/
namespace Go.Proofs.YtgcbanljifalnaaDoor
open Go.RowKit

/-- The words that blanks part. -/
def wordsF : List UInt8 → List UInt8 → List (List UInt8)
  | w, [] => [w]
  | w, c :: cs => if c = 32 then w :: wordsF [] cs else wordsF (w ++ [c]) cs
/-- Is a name one of some words? -/
def inGo (n w l : List UInt8) : Bool := decide (n ≠ [] ∧ n ∈ wordsF w l)
def inF (n all : ByteArray) : Bool := inGo n.data.toList [] all.data.toList
theorem ba_ext {a b : ByteArray} (h : a.data.toList = b.data.toList) : a = b := by
  cases a; cases b
  simp only at h
  congr 1
  exact Array.toList_inj.1 h
/-- Which names are builtins of no Args, of one, of two. -/
def w1L : ByteArray := ⟨#[118, 97, 114, 32, 110, 111, 110, 118, 97, 114, 32, 97, 116, 111, 109, 32, 105, 110, 116, 101, 103, 101, 114, 32, 97, 116, 111, 109, 105, 99, 32, 99, 111, 109, 112, 111, 117, 110, 100]⟩
def w2L : ByteArray := ⟨#[61, 32, 92, 61, 32, 61, 61, 32, 92, 61, 61, 32, 64, 60, 32, 64, 62, 32, 64, 61, 60, 32, 64, 62, 61, 32, 105, 115, 32, 61, 58, 61, 32, 61, 92, 61, 32, 60, 32, 62, 32, 61, 60, 32, 62, 61]⟩
theorem w1_words : wordsF [] w1L.data.toList = [[118, 97, 114], [110, 111, 110, 118, 97, 114], [97, 116, 111, 109], [105, 110, 116, 101, 103, 101, 114], [97, 116, 111, 109, 105, 99], [99, 111, 109, 112, 111, 117, 110, 100]] := by decide +kernel
theorem w2_words : wordsF [] w2L.data.toList = [[61], [92, 61], [61, 61], [92, 61, 61], [64, 60], [64, 62], [64, 61, 60], [64, 62, 61], [105, 115], [61, 58, 61], [61, 92, 61], [60], [62], [61, 60], [62, 61]] := by decide +kernel
theorem bi_sorted : (biL.all fun p => decide (p.2.ar = 0) == decide (p.1 = ⟨#[116, 114, 117, 101]⟩ ∨ p.1 = ⟨#[102, 97, 105, 108]⟩) && (decide (p.2.ar = 1) == inF p.1 w1L) && (decide (p.2.ar = 2) == inF p.1 w2L) && (biOf p.1).any (fun b => b.ar == p.2.ar)) = true := by decide +kernel
theorem bi_words : ((wordsF [] w1L.data.toList ++ wordsF [] w2L.data.toList).all fun x => (biL.map (fun p => p.1.data.toList)).contains x) = true := by decide +kernel
theorem biOf_all {s : ByteArray} {b : Bi} (h : biOf s = some b) : (decide (b.ar = 0) = decide (s = ⟨#[116, 114, 117, 101]⟩ ∨ s = ⟨#[102, 97, 105, 108]⟩)) ∧ decide (b.ar = 1) = inF s w1L ∧ decide (b.ar = 2) = inF s w2L := by
  have h1 := List.all_eq_true.1 bi_sorted _ (biOf_some h)
  simp only [Bool.and_eq_true, beq_iff_eq] at h1
  exact ⟨h1.1.1.1, h1.1.1.2, h1.1.2⟩
theorem biOf_not {s : ByteArray} (h : biOf s = none) : inF s w1L = false ∧ inF s w2L = false ∧ s ≠ ⟨#[116, 114, 117, 101]⟩ ∧ s ≠ ⟨#[102, 97, 105, 108]⟩ := by
  have h0 := biOf_none h
  have key : ∀ x ∈ wordsF [] w1L.data.toList ++ wordsF [] w2L.data.toList, x ≠ s.data.toList := fun x hx e => by
    have h1 := List.all_eq_true.1 bi_words x hx
    rw [List.contains_iff_mem] at h1
    obtain ⟨p, hp, h2⟩ := List.mem_map.1 h1
    exact h0 p hp (ba_ext (h2.trans e))
  refine ⟨?_, ?_, fun e => h0 _ (.head _) e.symm, fun e => h0 _ (.tail _ (.head _)) e.symm⟩
  · unfold inF inGo
    rw [decide_eq_false_iff_not]
    rintro ⟨_, h2⟩
    exact key _ (List.mem_append_left _ h2) rfl
  · unfold inF inGo
    rw [decide_eq_false_iff_not]
    rintro ⟨_, h2⟩
    exact key _ (List.mem_append_right _ h2) rfl
theorem isBi_0 (s : ByteArray) : isBi s 0 = decide (s = ⟨#[116, 114, 117, 101]⟩ ∨ s = ⟨#[102, 97, 105, 108]⟩) := by
  unfold isBi
  cases h : biOf s with
  | none => have := biOf_not h; simp [this]
  | some b =>
    have := (biOf_all h).1
    rw [← this]
    simp only
    rw [decide_eq_decide]; omega
theorem isBi_1 (s : ByteArray) : isBi s 1 = inF s w1L := by
  unfold isBi
  cases h : biOf s with
  | none => exact (biOf_not h).1.symm
  | some b =>
    rw [← (biOf_all h).2.1]
    simp only
    rw [decide_eq_decide]; omega
theorem isBi_2 (s : ByteArray) : isBi s 2 = inF s w2L := by
  unfold isBi
  cases h : biOf s with
  | none => exact (biOf_not h).2.1.symm
  | some b =>
    rw [← (biOf_all h).2.2]
    simp only
    rw [decide_eq_decide]; omega
theorem isBi_no (s : ByteArray) {n : Int} (h0 : n ≠ 0) (h1 : n ≠ 1) (h2 : n ≠ 2) : isBi s n = false := by
  unfold isBi
  cases h : biOf s with
  | none => rfl
  | some b =>
    simp only [decide_eq_false_iff_not]
    intro e
    cases b <;> simp [Bi.ar] at e <;> omega
end Go.Proofs.YtgcbanljifalnaaDoor

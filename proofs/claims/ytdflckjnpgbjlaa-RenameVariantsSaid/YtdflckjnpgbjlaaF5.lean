/- Plain functions of layer 5: renamed terms, places in a list. No condition. -/
import Derived.Test.YtdflckjnpgbjlaaF1
set_option linter.unusedVariables false
set_option maxRecDepth 20000
set_option linter.unusedSimpArgs false
namespace Go.Proofs.Ytdflckjnpgbjlaa

mutual
/-- Other numbers for the variables. -/
def Tm.ren (f : Int → Int) : Tm → Tm
  | ⟨k, s, n, l⟩ => ⟨k, s, if k = 1 then f n else n, renL f l⟩
def renL (f : Int → Int) : List Tm → List Tm
  | [] => []
  | t :: ts => t.ren f :: renL f ts
end
theorem renL_append (f : Int → Int) : ∀ l m : List Tm, renL f (l ++ m) = renL f l ++ renL f m
  | [], m => by simp [renL]
  | t :: ts, m => by simp [renL, renL_append f ts m]
theorem renL_length (f : Int → Int) : ∀ l : List Tm, (renL f l).length = l.length
  | [] => by simp [renL]
  | t :: ts => by simp [renL, renL_length f ts]
theorem renL_snoc (f : Int → Int) (l : List Tm) (t : Tm) : renL f (l ++ [t]) = renL f l ++ [t.ren f] := by rw [renL_append]; simp [renL]
theorem renL_at (f : Int → Int) : ∀ (l : List Tm) (j : Nat) (h : j < l.length) (h' : j < (renL f l).length), (renL f l)[j] = (l[j]).ren f
  | t :: ts, 0, h, h' => by simp [renL]
  | t :: ts, j + 1, h, h' => by simp only [renL, List.getElem_cons_succ]; exact renL_at f ts j (by simpa using h) _
mutual
theorem ren_occ (f : Int → Int) : ∀ t : Tm, (t.ren f).occ = t.occ.map f
  | ⟨k, s, n, l⟩ => by
    simp only [Tm.ren, Tm.occ, renL_occ f l, List.map_append]
    split <;> simp [*]
theorem renL_occ (f : Int → Int) : ∀ l : List Tm, occL (renL f l) = (occL l).map f
  | [] => by simp [renL, occL]
  | t :: ts => by simp [renL, occL, ren_occ f t, renL_occ f ts]
end
mutual
theorem ren_siz (f : Int → Int) : ∀ t : Tm, (t.ren f).siz = t.siz
  | ⟨k, s, n, l⟩ => by simp [Tm.ren, Tm.siz, renL_siz f l]
theorem renL_siz (f : Int → Int) : ∀ l : List Tm, sizL (renL f l) = sizL l
  | [] => by simp [renL, sizL]
  | t :: ts => by simp [renL, sizL, ren_siz f t, renL_siz f ts]
end
mutual
theorem ren_congr {f g : Int → Int} : ∀ t : Tm, (∀ n ∈ t.occ, f n = g n) → t.ren f = t.ren g
  | ⟨k, s, n, l⟩, h => by
    simp only [Tm.occ, List.mem_append] at h
    simp only [Tm.ren]
    rw [renL_congr l (fun n hn => h n (.inr hn))]
    by_cases hk : k = 1
    · rw [if_pos hk, if_pos hk, h n (.inl (by simp [hk]))]
    · rw [if_neg hk, if_neg hk]
theorem renL_congr {f g : Int → Int} : ∀ l : List Tm, (∀ n ∈ occL l, f n = g n) → renL f l = renL g l
  | [], _ => by simp [renL]
  | t :: ts, h => by
    simp only [occL, List.mem_append] at h
    simp only [renL, ren_congr t (fun n hn => h n (.inl hn)), renL_congr ts (fun n hn => h n (.inr hn))]
end
mutual
theorem ren_ren (f g : Int → Int) : ∀ t : Tm, (t.ren f).ren g = t.ren (fun n => g (f n))
  | ⟨k, s, n, l⟩ => by
    simp only [Tm.ren, renL_renL f g l]
    by_cases hk : k = 1 <;> simp [hk]
theorem renL_renL (f g : Int → Int) : ∀ l : List Tm, renL g (renL f l) = renL (fun n => g (f n)) l
  | [] => by simp [renL]
  | t :: ts => by simp [renL, ren_ren f g t, renL_renL f g ts]
end
mutual
theorem ren_id {f : Int → Int} : ∀ t : Tm, (∀ n ∈ t.occ, f n = n) → t.ren f = t
  | ⟨k, s, n, l⟩, h => by
    simp only [Tm.occ, List.mem_append] at h
    simp only [Tm.ren]
    rw [renL_id l (fun n hn => h n (.inr hn))]
    by_cases hk : k = 1
    · rw [if_pos hk, h n (.inl (by simp [hk]))]
    · rw [if_neg hk]
theorem renL_id {f : Int → Int} : ∀ l : List Tm, (∀ n ∈ occL l, f n = n) → renL f l = l
  | [], _ => by simp [renL]
  | t :: ts, h => by
    simp only [occL, List.mem_append] at h
    simp only [renL, ren_id t (fun n hn => h n (.inl hn)), renL_id ts (fun n hn => h n (.inr hn))]
end
/-- The first place of a number in a list; none: -1. -/
def plc : List Int → Int → Int
  | [], _ => -1
  | x :: xs, n => if x = n then 0 else if plc xs n = -1 then -1 else plc xs n + 1
theorem plc_none : ∀ {l : List Int} {n : Int}, n ∉ l → plc l n = -1
  | [], n, _ => rfl
  | x :: xs, n, h => by
    simp only [List.mem_cons, not_or] at h
    rw [plc, if_neg (fun e => h.1 e.symm), plc_none h.2, if_pos rfl]
theorem plc_some : ∀ {l : List Int} {n : Int}, n ∈ l → 0 ≤ plc l n ∧ plc l n < l.length
  | x :: xs, n, h => by
    by_cases hx : x = n
    · rw [plc, if_pos hx]; simp
    · have h' : n ∈ xs := by rcases List.mem_cons.1 h with rfl | h; exact absurd rfl hx; exact h
      have := plc_some h'
      rw [plc, if_neg hx, if_neg (by omega)]
      simp only [List.length_cons]; omega
theorem plc_append : ∀ {l : List Int} (m : List Int) {n : Int}, n ∈ l → plc (l ++ m) n = plc l n
  | x :: xs, m, n, h => by
    by_cases hx : x = n
    · simp [plc, hx]
    · have h' : n ∈ xs := by rcases List.mem_cons.1 h with rfl | h; exact absurd rfl hx; exact h
      simp only [List.cons_append, plc, if_neg hx, plc_append m h']
theorem plc_new : ∀ {l : List Int} {n : Int}, n ∉ l → plc (l ++ [n]) n = l.length
  | [], n, _ => by simp [plc]
  | x :: xs, n, h => by
    simp only [List.mem_cons, not_or] at h
    have := plc_new h.2
    simp only [List.cons_append, plc, if_neg (fun e : x = n => h.1 e.symm), this, List.length_cons]
    rw [if_neg (by omega)]; omega
theorem plc_at : ∀ {l : List Int}, l.Nodup → ∀ (j : Nat) (h : j < l.length), plc l l[j] = j
  | x :: xs, hn, 0, h => by simp [plc]
  | x :: xs, hn, j + 1, h => by
    have hn' := List.nodup_cons.1 hn
    simp only [List.getElem_cons_succ]
    have hj : j < xs.length := by simpa using h
    have hne : x ≠ xs[j] := fun e => hn'.1 (e ▸ List.getElem_mem hj)
    rw [plc, if_neg hne, plc_at hn'.2 j hj, if_neg (by omega)]
    omega
theorem plc_inj {l : List Int} {a b : Int} (ha : a ∈ l) (hb : b ∈ l) (h : plc l a = plc l b) : a = b := by
  induction l with
  | nil => cases ha
  | cons x xs ih =>
    by_cases h1 : x = a
    · by_cases h2 : x = b
      · rw [← h1, ← h2]
      · have hb' : b ∈ xs := by rcases List.mem_cons.1 hb with rfl | h; exact absurd rfl h2; exact h
        have := plc_some hb'
        rw [plc, if_pos h1, plc, if_neg h2, if_neg (by omega)] at h
        omega
    · have ha' : a ∈ xs := by rcases List.mem_cons.1 ha with rfl | h; exact absurd rfl h1; exact h
      have pa := plc_some ha'
      by_cases h2 : x = b
      · rw [plc, if_neg h1, if_neg (by omega), plc, if_pos h2] at h
        omega
      · have hb' : b ∈ xs := by rcases List.mem_cons.1 hb with rfl | h; exact absurd rfl h2; exact h
        have pb := plc_some hb'
        rw [plc, if_neg h1, if_neg (by omega), plc, if_neg h2, if_neg (by omega)] at h
        exact ih ha' hb' (by omega)
/-- The map's state and the place: what comes of one more number. -/
theorem plc_addNew {l : List Int} {n : Int} : plc (addNew l n) n = if n ∈ l then plc l n else (l.length : Int) := by
  unfold addNew
  split
  · rfl
  · rename_i h; exact plc_new h
theorem mem_addNew {l : List Int} {n x : Int} : x ∈ addNew l n ↔ x ∈ l ∨ x = n := by
  unfold addNew
  split
  · rename_i h; constructor
    · exact .inl
    · rintro (h' | rfl); exact h'; exact h
  · simp
/-- The greatest of some numbers. -/
def most : List Int → Int
  | [] => -1
  | x :: xs => max x (most xs)
theorem foldl_addNew_map {f : Int → Int} : ∀ (l out : List Int), (∀ a ∈ out ++ l, ∀ b ∈ out ++ l, f a = f b → a = b) → (l.map f).foldl addNew (out.map f) = (l.foldl addNew out).map f
  | [], out, _ => by simp
  | n :: l, out, h => by
    simp only [List.map_cons, List.foldl_cons]
    have hs : addNew (out.map f) (f n) = (addNew out n).map f := by
      unfold addNew
      by_cases hn : n ∈ out
      · rw [if_pos hn, if_pos (List.mem_map_of_mem hn)]
      · rw [if_neg hn, if_neg (fun hm => by
          obtain ⟨a, ha, he⟩ := List.mem_map.1 hm
          have := h a (List.mem_append_left _ ha) n (by simp) he
          exact hn (this ▸ ha))]
        simp
    rw [hs]
    refine foldl_addNew_map l (addNew out n) (fun a ha b hb => h a ?_ b ?_)
    · rcases List.mem_append.1 ha with ha | ha
      · rcases mem_addNew.1 ha with ha | rfl <;> simp [*]
      · simp [ha]
    · rcases List.mem_append.1 hb with hb | hb
      · rcases mem_addNew.1 hb with hb | rfl <;> simp [*]
      · simp [hb]
theorem dd_map {f : Int → Int} (l : List Int) (h : ∀ a ∈ l, ∀ b ∈ l, f a = f b → a = b) : dd (l.map f) = (dd l).map f := by
  have := foldl_addNew_map (f := f) l [] (by simpa using h)
  simpa [dd] using this
end Go.Proofs.Ytdflckjnpgbjlaa

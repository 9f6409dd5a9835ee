/- Plain functions of layer 1: what terms' sizes, depths, variables are. No condition. -/
import Derived.Test.YtdflckjnpgbjlaaB
set_option linter.unusedVariables false
set_option maxRecDepth 20000
set_option linter.unusedSimpArgs false
namespace Go.Proofs.Ytdflckjnpgbjlaa

mutual
def Tm.eqb : Tm → Tm → Bool
  | ⟨k, s, n, l⟩, ⟨k', s', n', l'⟩ => decide (k = k') && decide (s = s') && decide (n = n') && eqbL l l'
def eqbL : List Tm → List Tm → Bool
  | [], [] => true
  | t :: ts, u :: us => t.eqb u && eqbL ts us
  | _, _ => false
end
mutual
theorem Tm.eqb_iff : ∀ (t u : Tm), t.eqb u = true ↔ t = u
  | ⟨k, s, n, l⟩, ⟨k', s', n', l'⟩ => by simp [Tm.eqb, eqbL_iff l l', and_assoc]
theorem eqbL_iff : ∀ (l m : List Tm), eqbL l m = true ↔ l = m
  | [], [] => by simp [eqbL]
  | t :: ts, u :: us => by simp [eqbL, Tm.eqb_iff t u, eqbL_iff ts us]
  | [], _ :: _ => by simp [eqbL]
  | _ :: _, [] => by simp [eqbL]
end
instance : DecidableEq Tm := fun t u => decidable_of_iff _ (Tm.eqb_iff t u)

mutual
/-- The numbers of the variables, as they come. -/
def Tm.occ : Tm → List Int
  | ⟨k, _, n, l⟩ => (if k = 1 then [n] else []) ++ occL l
def occL : List Tm → List Int
  | [] => []
  | t :: ts => t.occ ++ occL ts
end
def addNew (out : List Int) (n : Int) : List Int := if n ∈ out then out else out ++ [n]
/-- Each once, in the order of first occurrence. -/
def dd (l : List Int) : List Int := l.foldl addNew []
mutual
def Tm.dep : Tm → Nat
  | ⟨_, _, _, l⟩ => depL l + 1
def depL : List Tm → Nat
  | [] => 0
  | t :: ts => max t.dep (depL ts)
end
mutual
def Tm.siz : Tm → Nat
  | ⟨_, _, _, l⟩ => sizL l + 1
def sizL : List Tm → Nat
  | [] => 0
  | t :: ts => t.siz + sizL ts
end
/-- May a name be one? -/
def nameOk (s : ByteArray) : Bool := decide (s.size ≤ 32) && s.data.toList.all fun c => decide ((32 ≤ c.toNat ∧ c.toNat ≤ 126) ∨ c.toNat = 9 ∨ c.toNat = 10)
mutual
/-- Is a term good, but for its depth? -/
def Tm.shp : Tm → Bool
  | ⟨k, s, n, l⟩ =>
    if k = 1 then decide (0 ≤ n) && decide (s.size = 0) && decide (l = [])
    else if k = 2 then decide (s.size = 0) && decide (l = [])
    else if k = 3 then decide (n = 0) && decide (l = []) && nameOk s
    else decide (k = 4) && decide (n = 0) && decide (0 < l.length ∧ l.length ≤ 16) && nameOk s && shpL l
def shpL : List Tm → Bool
  | [] => true
  | t :: ts => t.shp && shpL ts
end
def Tm.good (t : Tm) : Bool := decide (t.dep ≤ 64) && t.shp

theorem sizL_append : ∀ l m : List Tm, sizL (l ++ m) = sizL l + sizL m
  | [], m => by simp [sizL]
  | t :: ts, m => by simp [sizL, sizL_append ts m, Nat.add_assoc]
theorem depL_append : ∀ l m : List Tm, depL (l ++ m) = max (depL l) (depL m)
  | [], m => by simp [depL]
  | t :: ts, m => by simp [depL, depL_append ts m, Nat.max_assoc]
theorem occL_append : ∀ l m : List Tm, occL (l ++ m) = occL l ++ occL m
  | [], m => by simp [occL]
  | t :: ts, m => by simp [occL, occL_append ts m]
theorem shpL_append : ∀ l m : List Tm, shpL (l ++ m) = (shpL l && shpL m)
  | [], m => by simp [shpL]
  | t :: ts, m => by simp [shpL, shpL_append ts m, Bool.and_assoc]
theorem take_succ_at {α : Type} (l : List α) {j : Nat} (hj : j < l.length) : l.take (j + 1) = l.take j ++ [l[j]] := List.take_succ_eq_append_getElem hj
theorem Tm.siz_pos : ∀ t : Tm, 1 ≤ t.siz
  | ⟨_, _, _, _⟩ => by simp [Tm.siz]
theorem length_le_sizL : ∀ l : List Tm, l.length ≤ sizL l
  | [] => by simp [sizL]
  | t :: ts => by have := t.siz_pos; have := length_le_sizL ts; simp only [sizL, List.length_cons]; omega
theorem siz_mem {t : Tm} : ∀ {l : List Tm}, t ∈ l → t.siz ≤ sizL l
  | u :: us, h => by
    simp only [sizL]
    rcases List.mem_cons.1 h with rfl | h
    · omega
    · have := siz_mem h; omega
theorem dep_mem {t : Tm} : ∀ {l : List Tm}, t ∈ l → t.dep ≤ depL l
  | u :: us, h => by
    simp only [depL]
    rcases List.mem_cons.1 h with rfl | h
    · omega
    · have := dep_mem h; omega
/-- Terms are what they are made of: an induction over terms. -/
theorem Tm.ind {p : Tm → Prop} (h : ∀ t : Tm, (∀ u ∈ t.l, p u) → p t) (t : Tm) : p t := by
  have key : ∀ (n : Nat) (t : Tm), t.siz ≤ n → p t := by
    intro n
    induction n with
    | zero => intro t ht; have := t.siz_pos; omega
    | succ n ih =>
      intro t ht
      refine h t fun u hu => ih u ?_
      have := siz_mem hu
      cases t; simp only [Tm.siz] at ht; simp only at hu this; omega
  exact key t.siz t (Nat.le_refl _)
theorem dd_snoc (l : List Int) (n : Int) : dd (l ++ [n]) = addNew (dd l) n := by simp [dd, List.foldl_append]
theorem dd_append (l m : List Int) : dd (l ++ m) = m.foldl addNew (dd l) := by simp [dd, List.foldl_append]
theorem addNew_mem {out : List Int} {n m : Int} : m ∈ addNew out n ↔ m ∈ out ∨ m = n := by
  unfold addNew
  split
  · rename_i h; constructor
    · exact .inl
    · rintro (h' | rfl); exact h'; exact h
  · simp
theorem foldl_addNew_mem (l : List Int) : ∀ (out : List Int) (m : Int), m ∈ l.foldl addNew out ↔ m ∈ out ∨ m ∈ l := by
  induction l with
  | nil => simp
  | cons n l ih => intro out m; simp [ih, addNew_mem, or_assoc]
theorem dd_mem {l : List Int} {m : Int} : m ∈ dd l ↔ m ∈ l := by simp [dd, foldl_addNew_mem]
theorem addNew_length (out : List Int) (n : Int) : out.length ≤ (addNew out n).length ∧ (addNew out n).length ≤ out.length + 1 := by
  unfold addNew; split <;> simp
theorem foldl_addNew_length (l : List Int) : ∀ out : List Int, (l.foldl addNew out).length ≤ out.length + l.length := by
  induction l with
  | nil => simp
  | cons n l ih => intro out; have := ih (addNew out n); have := addNew_length out n; simp only [List.foldl_cons, List.length_cons]; omega
theorem dd_length (l : List Int) : (dd l).length ≤ l.length := by have := foldl_addNew_length l []; simpa [dd] using this
mutual
theorem Tm.occ_length : ∀ t : Tm, t.occ.length ≤ t.siz
  | ⟨k, s, n, l⟩ => by have := occL_length l; simp only [Tm.occ, Tm.siz, List.length_append]; split <;> simp <;> omega
theorem occL_length : ∀ l : List Tm, (occL l).length ≤ sizL l
  | [] => by simp [occL, sizL]
  | t :: ts => by have := Tm.occ_length t; have := occL_length ts; simp only [occL, sizL, List.length_append]; omega
end
/-- What is new behind, taken once, is what is new of all. -/
theorem foldl_dd (m : List Int) : ∀ (acc out : List Int), (m.foldl addNew acc).foldl addNew out = m.foldl addNew (acc.foldl addNew out) := by
  induction m with
  | nil => simp
  | cons n m ih =>
    intro acc out
    simp only [List.foldl_cons]
    rw [ih]
    congr 1
    by_cases h : n ∈ acc
    · rw [show addNew acc n = acc by unfold addNew; rw [if_pos h]]
      rw [show addNew (acc.foldl addNew out) n = acc.foldl addNew out by
        generalize hz : acc.foldl addNew out = z
        have : n ∈ z := by rw [← hz]; exact (foldl_addNew_mem acc out n).2 (.inr h)
        unfold addNew; rw [if_pos this]]
    · rw [show addNew acc n = acc ++ [n] by unfold addNew; rw [if_neg h]]
      simp [List.foldl_append]
theorem foldl_dd' (m out : List Int) : (dd m).foldl addNew out = m.foldl addNew out := by simpa [dd] using foldl_dd m [] out

mutual
/-- What can lie in memory: each number is of its kind, each name no longer than memory. -/
def Tm.Wf : Tm → Prop
  | ⟨k, s, n, l⟩ => (0 ≤ k ∧ k ≤ 255) ∧ (-9223372036854775808 ≤ n ∧ n ≤ 9223372036854775807) ∧ s.size ≤ 140737488351232 ∧ WfL l
def WfL : List Tm → Prop
  | [] => True
  | t :: ts => t.Wf ∧ WfL ts
end
theorem WfL_iff : ∀ {l : List Tm}, WfL l ↔ ∀ t ∈ l, t.Wf
  | [] => by simp [WfL]
  | t :: ts => by simp [WfL, WfL_iff (l := ts)]
theorem WfL_at {l : List Tm} (h : WfL l) {j : Nat} (hj : j < l.length) : l[j].Wf := WfL_iff.1 h _ (List.getElem_mem hj)
theorem Tm.Wf.parts {t : Tm} (h : t.Wf) : (0 ≤ t.k ∧ t.k ≤ 255) ∧ (-9223372036854775808 ≤ t.n ∧ t.n ≤ 9223372036854775807) ∧ t.s.size ≤ 140737488351232 ∧ WfL t.l := by cases t; simpa [Tm.Wf] using h
mutual
/-- How many nodes, up to 2,000 or so. -/
def Tm.many : Tm → Nat → Nat
  | ⟨_, s, _, l⟩, n => manyL l (n + 1 + s.size / 200 * 2000)
def manyL : List Tm → Nat → Nat
  | [], n => n
  | t :: ts, n => if n < 2000 then manyL ts (t.many n) else n
end
def great (l : List Tm) : Bool := decide (1000 < manyL l 0)
theorem manyL_big {n : Nat} (h : 2000 ≤ n) : ∀ l : List Tm, manyL l n = n
  | [] => by simp [manyL]
  | t :: ts => by simp only [manyL]; rw [if_neg (by omega)]
mutual
theorem Tm.many_le : ∀ (t : Tm) (n : Nat), t.Wf → n < 2000 → t.many n ≤ 2000000000000000
  | ⟨k, s, m, l⟩, n, h, hn => by
    simp only [Tm.Wf] at h
    simp only [Tm.many]
    exact manyL_le l _ h.2.2.2 (by omega)
theorem manyL_le : ∀ (l : List Tm) (n : Nat), WfL l → n ≤ 2000000000000000 → manyL l n ≤ 2000000000000000
  | [], n, _, hn => by simpa [manyL] using hn
  | t :: ts, n, h, hn => by
    simp only [WfL] at h
    simp only [manyL]
    split
    · exact manyL_le ts _ h.2 (Tm.many_le t n h.1 (by omega))
    · exact hn
end
theorem manyL_append : ∀ (l m : List Tm) (n : Nat), manyL (l ++ m) n = manyL m (manyL l n)
  | [], m, n => by simp [manyL]
  | t :: ts, m, n => by
    simp only [List.cons_append, manyL]
    split
    · exact manyL_append ts m _
    · rw [manyL_big (by omega) m]
mutual
theorem Tm.many_ge : ∀ (t : Tm) (n : Nat), t.many n ≤ 1000 → n + t.siz ≤ t.many n ∧ ∀ u ∈ [t], u.s.size < 200
  | ⟨k, s, m, l⟩, n, h => by
    simp only [Tm.many] at h ⊢
    have := manyL_ge l _ h
    simp only [Tm.siz, List.mem_singleton, forall_eq]
    omega
theorem manyL_ge : ∀ (l : List Tm) (n : Nat), manyL l n ≤ 1000 → n + sizL l ≤ manyL l n
  | [], n, _ => by simp [manyL, sizL]
  | t :: ts, n, h => by
    simp only [manyL] at h ⊢
    split
    · rename_i hn
      rw [if_pos hn] at h
      have h1 := manyL_ge ts _ h
      have h2 := Tm.many_ge t n (by omega)
      simp only [sizL]
      omega
    · rename_i hn
      rw [if_neg hn] at h
      omega
end
/-- What is not great has few nodes. -/
theorem great_siz {l : List Tm} (h : great l = false) : sizL l ≤ 1000 := by
  simp only [great, decide_eq_false_iff_not] at h
  have := manyL_ge l 0 (by omega)
  omega

mutual
theorem dep_le : ∀ t : Tm, t.dep ≤ t.siz
  | ⟨_, _, _, l⟩ => by have := depL_le l; simp only [Tm.dep, Tm.siz]; omega
theorem depL_le : ∀ l : List Tm, depL l ≤ sizL l
  | [] => by simp [depL, sizL]
  | t :: ts => by have := dep_le t; have := depL_le ts; simp only [depL, sizL]; omega
end
end Go.Proofs.Ytdflckjnpgbjlaa

/- Layer 22 (code): instructions in memory; which operation asks what, in plain words. No condition. -/
import Derived.Test.YtdflckjnpgbjlaaWm
set_option linter.unusedVariables false
set_option maxRecDepth 20000
set_option linter.unusedSimpArgs false
namespace Go.Proofs.Ytdflckjnpgbjlaa
open Go.RowKit

/-- A case of a switch. -/
structure Cs where
  k : Int
  s : ByteArray
  n : Int
  to : Int
/-- An instruction. -/
structure In where
  op : Int
  a : Int
  b : Int
  kd : Int
  s : ByteArray
  n : Int
  cs : List Cs
def Cs.val (x : Cs) : Array Value := #[.int .u8 x.k, .string x.s, .int .i64 x.n, .int .i64 x.to]
def Kd.cs : Kd Cs where
  sz := 4
  pos := by decide
  K := fun _ _ x cs => cs = [.int .u8 x.k, .string x.s, .int .i64 x.n, .int .i64 x.to]
  len := fun h => by rw [h]; rfl
  one := fun h u hu => by
    rw [h] at hu
    simp only [List.mem_cons, List.not_mem_nil, or_false] at hu
    rcases hu with rfl | rfl | rfl | rfl <;> rfl
  move := fun _ h => h
  mono := fun _ h => h
  bound := fun h => h
/-- Both forms of an instruction: the operation is a byte, or a number. -/
def Kd.inq (q : IntKind) : Kd In where
  sz := 7
  pos := by decide
  K := fun w ok x cs => ∃ u, cs = [.int q x.op, .int .i64 x.a, .int .i64 x.b, .int .u8 x.kd, .string x.s, .int .i64 x.n, u] ∧ Kd.cs.S w ok x.cs u
  len := fun ⟨_, h, _⟩ => by rw [h]; rfl
  one := fun ⟨v, h, A, c, e, _⟩ u hu => by
    rw [h] at hu
    simp only [List.mem_cons, List.not_mem_nil, or_false] at hu
    rcases hu with rfl | rfl | rfl | rfl | rfl | rfl | rfl <;> first | rfl | (rw [e]; rfl)
  move := fun hm ⟨v, h, hs⟩ => ⟨v, h, Kd.S.move hm hs⟩
  mono := fun hm ⟨v, h, hs⟩ => ⟨v, h, Kd.S.mono hm hs⟩
  bound := fun ⟨v, h, hs⟩ => ⟨v, h, Kd.S.bound hs⟩
/-- Element j of a slice of cases. -/
theorem cs_elem {w : World} {ok : Nat → Prop} {l : List Cs} {A : Option Addr} {c : Nat} (h : (l = [] ∧ (A = none → c = 0)) ∨ ∃ b o, A = some ⟨b, o, none⟩ ∧ ok b ∧ Kd.cs.At w ok l b o) {j : Nat} (hj : j < l.length) :
    ∃ b o, A = some ⟨b, o, none⟩ ∧ ok b ∧ b < w.heap.size ∧ w.cell? ⟨b, o + j * 4, none⟩ = some (.int .u8 l[j].k) ∧ w.cell? ⟨b, o + j * 4 + 1, none⟩ = some (.string l[j].s) ∧ w.cell? ⟨b, o + j * 4 + 2, none⟩ = some (.int .i64 l[j].n) ∧ w.cell? ⟨b, o + j * 4 + 3, none⟩ = some (.int .i64 l[j].to) := by
  obtain ⟨b, o, ha, hb, ht⟩ := h.resolve_left (by rintro ⟨rfl, _⟩; simp at hj)
  obtain ⟨cs, hk, hc⟩ := ht j l[j] (List.getElem?_eq_getElem hj)
  have hk : cs = [.int .u8 l[j].k, .string l[j].s, .int .i64 l[j].n, .int .i64 l[j].to] := hk
  subst hk
  have hsz : Kd.cs.sz = 4 := rfl
  rw [hsz] at hc
  have h0 := hc 0 _ rfl
  exact ⟨b, o, ha, hb, cell_lt h0, h0, hc 1 _ rfl, hc 2 _ rfl, hc 3 _ rfl⟩
/-- Element j of a slice of instructions. -/
theorem in_elem {q : IntKind} {w : World} {ok : Nat → Prop} {l : List In} {A : Option Addr} {c : Nat} (h : (l = [] ∧ (A = none → c = 0)) ∨ ∃ b o, A = some ⟨b, o, none⟩ ∧ ok b ∧ (Kd.inq q).At w ok l b o) {j : Nat} (hj : j < l.length) :
    ∃ b o u, A = some ⟨b, o, none⟩ ∧ ok b ∧ b < w.heap.size ∧ w.cell? ⟨b, o + j * 7, none⟩ = some (.int q l[j].op) ∧ w.cell? ⟨b, o + j * 7 + 1, none⟩ = some (.int .i64 l[j].a) ∧ w.cell? ⟨b, o + j * 7 + 2, none⟩ = some (.int .i64 l[j].b) ∧ w.cell? ⟨b, o + j * 7 + 3, none⟩ = some (.int .u8 l[j].kd) ∧
      w.cell? ⟨b, o + j * 7 + 4, none⟩ = some (.string l[j].s) ∧ w.cell? ⟨b, o + j * 7 + 5, none⟩ = some (.int .i64 l[j].n) ∧ w.cell? ⟨b, o + j * 7 + 6, none⟩ = some u ∧ Kd.cs.S w ok l[j].cs u := by
  obtain ⟨b, o, ha, hb, ht⟩ := h.resolve_left (by rintro ⟨rfl, _⟩; simp at hj)
  obtain ⟨cs, ⟨u, rfl, hS⟩, hc⟩ := ht j l[j] (List.getElem?_eq_getElem hj)
  have hsz : (Kd.inq q).sz = 7 := rfl
  rw [hsz] at hc
  have h0 := hc 0 _ rfl
  exact ⟨b, o, u, ha, hb, cell_lt h0, h0, hc 1 _ rfl, hc 2 _ rfl, hc 3 _ rfl, hc 4 _ rfl, hc 5 _ rfl, hc 6 _ rfl, hS⟩
/-- An instruction that is handed over. -/
def InV (q : IntKind) (w : World) (ok : Nat → Prop) (x : In) (v : Value) : Prop := ∃ u, v = .agg #[.int q x.op, .int .i64 x.a, .int .i64 x.b, .int .u8 x.kd, .string x.s, .int .i64 x.n, u] ∧ Kd.cs.S w ok x.cs u

/-! ### Which operation asks what -/
def placeB (at_ n : Int) : Bool := decide (0 ≤ at_) && decide (at_ < n)
def argsB (n : Int) : Bool := decide (0 ≤ n) && decide (n ≤ 16)
def regB (r : Int) : Bool := decide (-64 ≤ r) && decide (r < 256)
def xB (r : Int) : Bool := decide (0 ≤ r) && decide (r < 256)
def constB (i : In) : Bool := decide (i.kd = 2) || decide (i.kd = 3)
def funB (i : In) : Bool := decide (1 ≤ i.n) && argsB i.n
def orL : List Int → Int
  | [] => 0
  | x :: l => if x ≠ 0 then x else orL l
def ordC (x y : Cs) : Int := orL [cmpI x.k y.k, cmpS x.s y.s, cmpI x.n y.n]
/-- A case by itself. -/
def caseB (c : Cs) : Bool := (decide (c.k = 2) && decide (c.s = ⟨#[]⟩)) || (decide (c.k = 3) && decide (c.n = 0)) || (decide (c.k = 4) && (decide (1 ≤ c.n) && argsB c.n))
/-- The cases from number j on: 'prev' is the one ahead. -/
def casesF (n : Int) : Option Cs → List Cs → Bool
  | _, [] => true
  | p, c :: cs => placeB c.to n && (match p with | none => true | some q => decide (ordC q c < 0)) && caseB c && casesF n (some c) cs
def casesB (i : In) (n : Int) : Bool := casesF n none i.cs
def okB (i : In) (n : Int) : Bool :=
  if i.op = 1 then decide (0 ≤ i.a) && decide (i.a ≤ 64)
  else if i.op ∈ [3, 4] then placeB i.a n && argsB i.n
  else if i.op = 9 then argsB i.n
  else if i.op ∈ [10, 11, 12] then placeB i.a n && argsB i.b
  else if i.op = 13 then placeB i.a n && casesB i n
  else if i.op = 14 then decide (i.a = -1) && casesB i n
  else if i.op ∈ [15, 16, 22, 23, 30] then regB i.a && xB i.b
  else if i.op ∈ [17, 24, 26, 28] then constB i && xB i.b
  else if i.op ∈ [18, 27, 29] then funB i && xB i.b
  else if i.op = 25 then funB i && xB i.a
  else if i.op ∈ [19, 20, 31] then regB i.a
  else if i.op = 21 then constB i
  else if i.op = 0 then false
  else true
def endB (o : Int) : Bool := decide (o ∈ [4, 5, 6, 7, 12, 13, 14])
def argB (o : Int) : Bool := decide (o ∈ [18, 25, 27, 29])
def partB (o : Int) : Bool := decide (o ∈ [19, 20, 21, 31])
end Go.Proofs.Ytdflckjnpgbjlaa

/- Maps keyed by int64, elements whatever: what is there, and how many. No condition. -/
import Derived.Test.YtdflckjnpgbjlaaF1
import Derived.Test.YtdflckjnpgbjlaaProg
import Derived.Maps.OwnSet
import Derived.Maps.OwnOps
set_option linter.unusedVariables false
set_option maxRecDepth 20000
set_option linter.unusedSimpArgs false
namespace Go.Proofs.Ytdflckjnpgbjlaa
open Go.RowKit Go.Maps

/-- Whatever value, read as itself. -/
def rawElem (v : Value) : Option (DataW Value × List MemPlace) := some (.held v, [])
/-- Block b is a map of what M says, sz entries. -/
def MapAt (w : World) (b : Nat) (M : Int → Option Value) (sz : Nat) : Prop :=
  ∃ D : DataW Value, w.ownsMap Try.prog 2 rawElem b sz D ∧ Maps.size D = sz ∧ (∀ n, (Lit.int .i64 n).wf = true → Maps.has D (.int .i64 n) = (M n).isSome) ∧ ∀ n v, (Lit.int .i64 n).wf = true → M n = some v → ∀ z, D.atKey (.int .i64 n) z = .held v
theorem Try.key64 : Keyed Try.prog 2 := int_keyed Try.underlying2
theorem MapAt.made (w : World) : MapAt (w.alloc (.map #[] 0)) w.heap.size (fun _ => none) 0 :=
  ⟨.map [], World.ownsMap_made _ _ _ _, rfl, fun n _ => rfl, fun n v _ h => by cases h⟩
theorem MapAt.lt {w : World} {b : Nat} {M : Int → Option Value} {sz : Nat} (h : MapAt w b M sz) : b < w.heap.size := by
  obtain ⟨D, h1, _⟩ := h; exact h1.lt
theorem MapAt.move {w w' : World} {b : Nat} {M : Int → Option Value} {sz : Nat} (h : MapAt w b M sz) (hb : w'.heap[b]? = w.heap[b]?) : MapAt w' b M sz := by
  obtain ⟨D, ⟨es, clock, h1, h2⟩, h3⟩ := h
  exact ⟨D, ⟨es, clock, hb.trans h1, h2⟩, h3⟩
theorem MapAt.not_cells {w : World} {b : Nat} {M : Int → Option Value} {sz : Nat} (h : MapAt w b M sz) : ∀ c t f, w.heap[b]? ≠ some (.cells c t f) := by
  obtain ⟨D, ⟨es, clock, h1, h2⟩, h3⟩ := h
  intro c t f he; rw [h1] at he; cases he
section
variable {P : Program} {ops : Array Oper} {rest : List Oper} {o : Oper} {a : Act} {Q : Exit → Act → World → Prop} {w : World} {b : Nat} {M : Int → Option Value} {sz : Nat}
theorem key_lit (n : Int) (hn : (Lit.int .i64 n).wf = true) : keyOf Try.prog 2 (.int .i64 n) = some (.int .i64 n) := keyOf_int_mk Try.underlying2 hn
/-- v, ok := m[n] -/
theorem MapAt.look_ok (h : MapAt w b M sz) (hg : o.guard = none) (m x : Operand) (t : TypeId) (hop : o.op = Op.lookup t m x true) (e : TypeId) (ht : Try.prog.underlying t = some (.map 2 e)) {z : Value} (hz : ∀ w, (zeroValue e).run Try.prog w = .ok z w)
    (hm : a.eval m = .map (some b)) (n : Int) (hn : (Lit.int .i64 n).wf = true) (hx : a.eval x = .int .i64 n)
    (hK : wpList Try.prog ops Q rest (a.put o.dst (.tuple #[(M n).getD z, .bool (M n).isSome])) w) : wpList Try.prog ops Q (o :: rest) a w := by
  obtain ⟨D, h1, h2, h3, h4⟩ := h
  refine wpList_lookup_own_ok w hg m x t hop 2 e Try.key64 ht rawElem (hz w) (.held z) [] rfl b sz D hm h1 _ _ hx (key_lit n hn) (fun v ps hv => ?_)
  have hv' : DataW.held v = D.atKey (.int .i64 n) (.held z) := by
    have : (DataW.held v, ([] : List MemPlace)) = (D.atKey (.int .i64 n) (.held z), ps) := Option.some.inj hv
    exact congrArg Prod.fst this
  rw [h3 n hn]
  cases hM : M n with
  | some u =>
    rw [h4 n u hn hM] at hv'
    injection hv' with hv'
    rw [hM] at hK
    subst hv'
    exact hK
  | none =>
    have h0 : Maps.has D (.int .i64 n) = false := by rw [h3 n hn, hM]; rfl
    rw [Maps.atKey_of_not_has h0] at hv'
    injection hv' with hv'
    rw [hM] at hK
    subst hv'
    exact hK
/-- v := m[n] -/
theorem MapAt.look (h : MapAt w b M sz) (hg : o.guard = none) (m x : Operand) (t : TypeId) (hop : o.op = Op.lookup t m x false) (e : TypeId) (ht : Try.prog.underlying t = some (.map 2 e)) {z : Value} (hz : ∀ w, (zeroValue e).run Try.prog w = .ok z w)
    (hm : a.eval m = .map (some b)) (n : Int) (hn : (Lit.int .i64 n).wf = true) (hx : a.eval x = .int .i64 n)
    (hK : wpList Try.prog ops Q rest (a.put o.dst ((M n).getD z)) w) : wpList Try.prog ops Q (o :: rest) a w := by
  obtain ⟨D, h1, h2, h3, h4⟩ := h
  refine wpList_plain hg fun K' hK' => ?_
  obtain ⟨v, ps, hrun, hv⟩ := h1.lookup Try.key64 ht (hz w) (zd := .held z) (zp := []) rfl (key_lit n hn)
  have hv' : DataW.held v = D.atKey (.int .i64 n) (.held z) := by
    have : (DataW.held v, ([] : List MemPlace)) = (D.atKey (.int .i64 n) (.held z), ps) := Option.some.inj hv
    exact congrArg Prod.fst this
  have key : v = (M n).getD z := by
    cases hM : M n with
    | some u =>
      rw [h4 n u hn hM] at hv'
      injection hv' with hv'
    | none =>
      have h0 : Maps.has D (.int .i64 n) = false := by rw [h3 n hn, hM]; rfl
      rw [Maps.atKey_of_not_has h0] at hv'
      injection hv' with hv'
  subst key
  unfold Oper.wp
  simp [execOp, hop, hm, hx, hrun, Result.andThen]
  exact hK' _ _ hK
/-- len(m) -/
theorem MapAt.len (h : MapAt w b M sz) (hg : o.guard = none) (m : Operand) (t : TypeId) (hop : o.op = Op.call { callee := Callee.builtin Builtin.len, args := #[m], argTypes := #[t] }) (e : TypeId) (ht : Try.prog.underlying t = some (.map 2 e))
    (hm : a.eval m = .map (some b)) (hK : wpList Try.prog ops Q rest (a.put o.dst (.int .i64 sz)) w) : wpList Try.prog ops Q (o :: rest) a w := by
  obtain ⟨D, h1, h2, h3, h4⟩ := h
  refine wpList_len_own w hg m t hop 2 e ht rawElem b sz D hm h1 ?_
  rw [h2]; exact hK
/-- m[n] = v -/
theorem MapAt.update (h : MapAt w b M sz) (hg : o.guard = none) (m x v : Operand) (t : TypeId) (hop : o.op = Op.mapUpdate t m x v) (e : TypeId) (ht : Try.prog.underlying t = some (.map 2 e))
    (hm : a.eval m = .map (some b)) (n : Int) (hn : (Lit.int .i64 n).wf = true) (u : Value) (hx : a.eval x = .int .i64 n) (hv : a.eval v = u) (hsz : sz < maxLen) (hnew : M n = none)
    (hK : ∀ w', MapAt w' b (fun k => if k = n then some u else M k) (sz + 1) → w.grownBy w' (some b) → wpList Try.prog ops Q rest (a.put o.dst undef) w') : wpList Try.prog ops Q (o :: rest) a w := by
  obtain ⟨D, h1, h2, h3, h4⟩ := h
  have hik : WideAt.IsKeyLit (.int .i64 n) := Try.key64.key (key_lit n hn)
  refine wpList_mapUpdate_own w hg m x v t hop 2 e Try.key64 ht rawElem b sz D hm h1 hsz _ _ _ hx hv (key_lit n hn) (.held u) [] rfl (fun w' ho hgw => hK w' ⟨D.put (.int .i64 n) (.held u), ho, ?_, ?_, ?_⟩ hgw)
  · rw [Maps.size_put (h1.tidy Try.key64), h3 n hn, hnew]
    simp [h2]
  · intro k hk
    by_cases hkn : k = n
    · subst hkn
      rw [Maps.has_put_same h1.isMap hik]; simp
    · rw [Maps.has_put_other (fun e => hkn (by injection e)), h3 k hk]; simp [hkn]
  · intro k v' hk hM z
    by_cases hkn : k = n
    · subst hkn
      simp at hM
      subst hM
      exact Maps.atKey_put_same h1.isMap hik _ _
    · simp [hkn] at hM
      rw [Maps.atKey_put_other (fun e => hkn (by injection e))]
      exact h4 k v' hk hM z
end
end Go.Proofs.Ytdflckjnpgbjlaa

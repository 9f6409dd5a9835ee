/- Layer 13 (arith): the operators' map; what a term is worth, walked. Conditions: the arguments read; the bindings make no circle. -/
import Derived.Test.YtdflckjnpgbjlaaY4
import Derived.Test.YtdflckjnpgbjlaaSc
set_option linter.unusedVariables false
set_option maxRecDepth 20000
set_option linter.unusedSimpArgs false
namespace Go.Proofs.Ytdflckjnpgbjlaa
open Go.RowKit Go.WideMaps

abbrev OpL : List (Value × Value) := [(.string ⟨#[43]⟩, .func (.func 145) #[] #[]), (.string ⟨#[45]⟩, .func (.func 146) #[] #[]), (.string ⟨#[42]⟩, .func (.func 147) #[] #[]), (.string ⟨#[47, 47]⟩, .func (.func 148) #[] #[]), (.string ⟨#[114, 101, 109]⟩, .func (.func 149) #[] #[]), (.string ⟨#[109, 111, 100]⟩, .func (.func 150) #[] #[])]
theorem opL_keys : ∀ p ∈ OpL, ∃ l, keyOf Try.prog 9 p.1 = some l := by
  intro p hp
  simp only [OpL, List.mem_cons, List.not_mem_nil, or_false] at hp
  rcases hp with rfl | rfl | rfl | rfl | rfl | rfl <;> exact str_key (by decide)
/-- An operator's function. -/
theorem op_fn {s : ByteArray} (h : isOp s = true) : ∃ g : Nat, ((.string s, .func (.func g) #[] #[]) : Value × Value) ∈ OpL ∧ (∀ args w, (callFunc g args).run Try.prog w = .ok (.enter g args) w) ∧
    ∀ a b, in64 a → in64 b → ∀ W, Calls Try.prog g #[.int .i64 a, .int .i64 b] W (RPost W.heap.size (opI s a b) W) := by
  unfold isOp at h
  simp only [Bool.or_eq_true, decide_eq_true_eq] at h
  rcases h with ((((h | h) | h) | h) | h) | h <;> subst h
  · exact ⟨145, .head _, fun args w => by rfl, fun a b ha hb W => by
      rw [show opI ⟨#[43]⟩ a b = addR a b from rfl]
      exact add_c a b ha hb W⟩
  · exact ⟨146, .tail _ (.head _), fun args w => by rfl, fun a b ha hb W => by
      rw [show opI ⟨#[45]⟩ a b = subR a b from rfl]
      exact sub_c a b ha hb W⟩
  · exact ⟨147, .tail _ (.tail _ (.head _)), fun args w => by rfl, fun a b ha hb W => by
      rw [show opI ⟨#[42]⟩ a b = mulR a b from rfl]
      exact mul_c a b ha hb W⟩
  · exact ⟨148, .tail _ (.tail _ (.tail _ (.head _))), fun args w => by rfl, fun a b ha hb W => by
      rw [show opI ⟨#[47, 47]⟩ a b = divR a b from rfl]
      exact div_c a b ha hb W⟩
  · exact ⟨149, .tail _ (.tail _ (.tail _ (.tail _ (.head _)))), fun args w => by rfl, fun a b ha hb W => by
      rw [show opI ⟨#[114, 101, 109]⟩ a b = remR a b from rfl]
      exact rem_c a b ha hb W⟩
  · exact ⟨150, .tail _ (.tail _ (.tail _ (.tail _ (.tail _ (.head _))))), fun args w => by rfl, fun a b ha hb W => by
      rw [show opI ⟨#[109, 111, 100]⟩ a b = modR a b from rfl]
      exact mod_c a b ha hb W⟩
theorem op_none {s : ByteArray} (h : isOp s = false) : ∀ p ∈ OpL, p.1 ≠ .string s := by
  unfold isOp at h
  simp only [Bool.or_eq_false_iff, decide_eq_false_iff_not] at h
  obtain ⟨⟨⟨⟨⟨h1, h2⟩, h3⟩, h4⟩, h5⟩, h6⟩ := h
  intro p hp
  simp only [OpL, List.mem_cons, List.not_mem_nil, or_false] at hp
  rcases hp with rfl | rfl | rfl | rfl | rfl | rfl <;> (intro e; injection e with e; first | exact h1 e.symm | exact h2 e.symm | exact h3 e.symm | exact h4 e.symm | exact h5 e.symm | exact h6 e.symm)
theorem operators_c (w : World) : Calls Try.prog 129 #[] w fun e w' => (∃ b, e = .returned (.map (some b)) ∧ Mp w' b OpL) ∧ Below w.heap.size w w' := by
  have hmm := @run_makeMap Try.prog
  have m0 := Mp.made w
  have g0 : Below w.heap.size w (w.alloc (.map #[] 0)) := (Below.refl _ w).alloc (Nat.le_refl _) _
  obtain ⟨W1, e1, m1, r1⟩ := Mp.put_new Try.strLaw Try.underlying166 m0 (k := .string ⟨#[43]⟩) (v := .func (.func 145) #[] #[]) (fun p hp => opL_keys p (List.IsPrefix.subset (l₂ := OpL) ⟨[(.string ⟨#[43]⟩, .func (.func 145) #[] #[]), (.string ⟨#[45]⟩, .func (.func 146) #[] #[]), (.string ⟨#[42]⟩, .func (.func 147) #[] #[]), (.string ⟨#[47, 47]⟩, .func (.func 148) #[] #[]), (.string ⟨#[114, 101, 109]⟩, .func (.func 149) #[] #[]), (.string ⟨#[109, 111, 100]⟩, .func (.func 150) #[] #[])], rfl⟩ hp)) (keyOf_string_mk Try.underlying9 (by decide)) (by simp)
  have g1 : Below w.heap.size w W1 := below_of_grown (gfresh (r := none) (gnone g0) r1 (Nat.le_refl _))
  obtain ⟨W2, e2, m2, r2⟩ := Mp.put_new Try.strLaw Try.underlying166 m1 (k := .string ⟨#[45]⟩) (v := .func (.func 146) #[] #[]) (fun p hp => opL_keys p (List.IsPrefix.subset (l₂ := OpL) ⟨[(.string ⟨#[45]⟩, .func (.func 146) #[] #[]), (.string ⟨#[42]⟩, .func (.func 147) #[] #[]), (.string ⟨#[47, 47]⟩, .func (.func 148) #[] #[]), (.string ⟨#[114, 101, 109]⟩, .func (.func 149) #[] #[]), (.string ⟨#[109, 111, 100]⟩, .func (.func 150) #[] #[])], rfl⟩ hp)) (keyOf_string_mk Try.underlying9 (by decide)) (by simp)
  have g2 : Below w.heap.size w W2 := below_of_grown (gfresh (r := none) (gnone g1) r2 (Nat.le_refl _))
  obtain ⟨W3, e3, m3, r3⟩ := Mp.put_new Try.strLaw Try.underlying166 m2 (k := .string ⟨#[42]⟩) (v := .func (.func 147) #[] #[]) (fun p hp => opL_keys p (List.IsPrefix.subset (l₂ := OpL) ⟨[(.string ⟨#[42]⟩, .func (.func 147) #[] #[]), (.string ⟨#[47, 47]⟩, .func (.func 148) #[] #[]), (.string ⟨#[114, 101, 109]⟩, .func (.func 149) #[] #[]), (.string ⟨#[109, 111, 100]⟩, .func (.func 150) #[] #[])], rfl⟩ hp)) (keyOf_string_mk Try.underlying9 (by decide)) (by simp)
  have g3 : Below w.heap.size w W3 := below_of_grown (gfresh (r := none) (gnone g2) r3 (Nat.le_refl _))
  obtain ⟨W4, e4, m4, r4⟩ := Mp.put_new Try.strLaw Try.underlying166 m3 (k := .string ⟨#[47, 47]⟩) (v := .func (.func 148) #[] #[]) (fun p hp => opL_keys p (List.IsPrefix.subset (l₂ := OpL) ⟨[(.string ⟨#[47, 47]⟩, .func (.func 148) #[] #[]), (.string ⟨#[114, 101, 109]⟩, .func (.func 149) #[] #[]), (.string ⟨#[109, 111, 100]⟩, .func (.func 150) #[] #[])], rfl⟩ hp)) (keyOf_string_mk Try.underlying9 (by decide)) (by simp)
  have g4 : Below w.heap.size w W4 := below_of_grown (gfresh (r := none) (gnone g3) r4 (Nat.le_refl _))
  obtain ⟨W5, e5, m5, r5⟩ := Mp.put_new Try.strLaw Try.underlying166 m4 (k := .string ⟨#[114, 101, 109]⟩) (v := .func (.func 149) #[] #[]) (fun p hp => opL_keys p (List.IsPrefix.subset (l₂ := OpL) ⟨[(.string ⟨#[114, 101, 109]⟩, .func (.func 149) #[] #[]), (.string ⟨#[109, 111, 100]⟩, .func (.func 150) #[] #[])], rfl⟩ hp)) (keyOf_string_mk Try.underlying9 (by decide)) (by simp)
  have g5 : Below w.heap.size w W5 := below_of_grown (gfresh (r := none) (gnone g4) r5 (Nat.le_refl _))
  obtain ⟨W6, e6, m6, r6⟩ := Mp.put_new Try.strLaw Try.underlying166 m5 (k := .string ⟨#[109, 111, 100]⟩) (v := .func (.func 150) #[] #[]) (fun p hp => opL_keys p (List.IsPrefix.subset (l₂ := OpL) ⟨[(.string ⟨#[109, 111, 100]⟩, .func (.func 150) #[] #[])], rfl⟩ hp)) (keyOf_string_mk Try.underlying9 (by decide)) (by simp)
  have g6 : Below w.heap.size w W6 := below_of_grown (gfresh (r := none) (gnone g5) r6 (Nat.le_refl _))
  have M := Lib.hid m6
  have G := Lib.hid g6
  clear m0 m1 m2 m3 m4 m5 m6 g0 g1 g2 g3 g4 g5 g6
  go_enter Try.func129, Try.ntmps129
  go_wp2
  go_ret
  exact ⟨⟨_, rfl, M.out⟩, G.out⟩
end Go.Proofs.Ytdflckjnpgbjlaa

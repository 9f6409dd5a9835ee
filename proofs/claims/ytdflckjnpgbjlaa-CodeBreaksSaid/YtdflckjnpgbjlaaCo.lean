/- Layer 22's law: the entries laid into a map, one behind the other. Conditions: at most twenty. -/
import Derived.Test.YtdflckjnpgbjlaaCn
import Derived.DeepKeys5
import Derived.Maps.Keyed
set_option linter.unusedVariables false
set_option maxRecDepth 20000
set_option linter.unusedSimpArgs false
namespace Go.Proofs.Ytdflckjnpgbjlaa
open Go.RowKit Go.WideMaps

def keyV (i : Nat) : Value := .agg #[.string ⟨#[112]⟩, .int .i64 (i : Int)]
theorem predLaw : KeyLaw Try.prog 61 := Go.deep_law_gate (by kernel_rfl) (of_decide_eq_true (by kernel_rfl)) (of_decide_eq_true (by kernel_rfl)) (by kernel_rfl) (by kernel_rfl)
theorem keys_all : ((List.range 20).all fun i => (keyOf Try.prog 61 (keyV i)).isSome) = true := by kernel_rfl
theorem keyV_ok {i : Nat} (h : i < 20) : ∃ l, keyOf Try.prog 61 (keyV i) = some l :=
  Option.isSome_iff_exists.1 (List.all_eq_true.1 keys_all i (List.mem_range.2 h))
theorem keyV_inj {i j : Nat} (h : keyV i = keyV j) : i = j := by
  unfold keyV at h
  injection h with h
  have h2 := congrArg (fun a : Array Value => a[1]?) h
  simp at h2
  omega
/-- The map of the entries so far. -/
structure En (W : World) (b : Nat) (es : List Int) : Prop where
  at_ : ∃ (E : Array MapEntry) (clock : Nat), W.heap[b]? = some (.map E clock) ∧ MapKept.Stamped E clock ∧ E.toList.map (·.val) = es.map (Value.int .i64) ∧ E.toList.map (·.key) = (List.range es.length).map keyV
theorem En.run {W : World} {b : Nat} {es : List Int} (h : En W b es) (hl : es.length < 20) (v : Int) : ∃ W', (Instr.mapUpdate 57 (.map (some b)) (keyV es.length) (.int .i64 v)).run Try.prog W = .ok () W' ∧ En W' b (es ++ [v]) ∧ W.grownBy W' (some b) := by
  obtain ⟨E, clock, hb, hst, hv, hk⟩ := h.at_
  obtain ⟨lx, hlx⟩ := keyV_ok hl
  have hkeys : ∀ e ∈ E.toList, ∃ i, i < es.length ∧ e.key = keyV i := fun e he => by
    have : e.key ∈ E.toList.map (·.key) := List.mem_map.2 ⟨e, he, rfl⟩
    rw [hk] at this
    obtain ⟨i, hi, h⟩ := List.mem_map.1 this
    exact ⟨i, List.mem_range.1 hi, h.symm⟩
  have hne : ∀ e ∈ E.toList, e.key ≠ keyV es.length := fun e he h => by
    obtain ⟨i, hi, hki⟩ := hkeys e he
    have := keyV_inj (hki.symm.trans h)
    omega
  have hfind : (Instr.findKey 61 (keyV es.length) E.toList).run Try.prog W = .ok none W := by
    rcases predLaw.find W hlx E.toList (fun e he => by
      obtain ⟨i, hi, hki⟩ := hkeys e he
      rw [hki]
      exact keyV_ok (by omega)) with ⟨h1, _⟩ | ⟨j, e, _, h2, h3⟩
    · exact h1
    · exact absurd h3 (hne e (List.mem_of_getElem? h2))
  have hcheck := predLaw.check W false hlx
  refine ⟨_, by simp [Instr.mapUpdate, run_underlying Try.underlying57, MapKept.run_getObj_map hb, hcheck, hfind, MapKept.run_setObj_map _ hb, Result.andThen]; rfl, ?_, ?_⟩
  · have hlt := (Array.getElem?_eq_some_iff.1 hb).1
    refine ⟨E.push ⟨keyV es.length, .int .i64 v, clock⟩, clock + 1, by simp [hlt], ?_, by simp [hv], by simp [hk, List.range_succ]⟩
    obtain ⟨s1, s2, s3⟩ := hst
    refine ⟨fun x hx => ?_, ?_, ?_⟩
    · simp at hx
      rcases hx with hx | hx
      · have := s1 x (by simpa using hx); omega
      · rw [hx]; simp
    · simp only [Array.toList_push, List.map_append, List.map_cons, List.map_nil]
      rw [List.nodup_append]
      refine ⟨s2, by simp, fun a ha c hc => ?_⟩
      obtain ⟨x, hx, rfl⟩ := List.mem_map.1 ha
      have := s1 x hx
      simp at hc
      omega
    · simp only [Array.toList_push, List.map_append, List.map_cons, List.map_nil]
      rw [List.nodup_append]
      refine ⟨s3, by simp, fun a ha c hc => ?_⟩
      obtain ⟨x, hx, rfl⟩ := List.mem_map.1 ha
      simp at hc
      rw [hc]
      exact hne x hx
  · exact ⟨rfl, rfl, rfl, by simp, fun k hk hne => by
      simp only
      rw [Array.getElem?_setIfInBounds_ne (fun e => hne (by rw [e]))]⟩
theorem En.ent {W : World} {b : Nat} {es : List Int} (h : En W b es) : EntAt W (.map (some b)) es := by
  obtain ⟨E, clock, hb, hst, hv, _⟩ := h.at_
  exact .inr ⟨b, E, clock, rfl, hb, hst, hv⟩
end Go.Proofs.Ytdflckjnpgbjlaa

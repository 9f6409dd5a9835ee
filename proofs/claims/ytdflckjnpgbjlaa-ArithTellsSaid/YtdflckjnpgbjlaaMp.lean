/- Maps as lists of entries, whatever the keys (that have a law) and the elements. No condition. -/
import Derived.Test.YtdflckjnpgbjlaaF1
import Derived.Test.YtdflckjnpgbjlaaProg
import Derived.WalkKit
import Derived.DeepKeys5
import Derived.StringKeys
import Derived.MapKept
import Derived.Maps.Keyed
import Derived.Laws.NewBlocks
set_option linter.unusedVariables false
set_option maxRecDepth 20000
set_option linter.unusedSimpArgs false
namespace Go.Proofs.Ytdflckjnpgbjlaa
open Go.RowKit Go.WideMaps

/-- Block b is a map of these entries. -/
def Mp (W : World) (b : Nat) (L : List (Value × Value)) : Prop :=
  ∃ (E : Array MapEntry) (clock : Nat), W.heap[b]? = some (.map E clock) ∧ MapKept.Stamped E clock ∧ E.toList.map (fun e => (e.key, e.val)) = L
theorem Mp.made (W : World) : Mp (W.alloc (.map #[] 0)) W.heap.size [] := ⟨#[], 0, heap_alloc_new W _, MapKept.stamped_empty 0, rfl⟩
theorem Mp.lt {W : World} {b : Nat} {L : List (Value × Value)} (h : Mp W b L) : b < W.heap.size := by
  obtain ⟨E, clock, h1, _⟩ := h
  exact (Array.getElem?_eq_some_iff.1 h1).1
theorem Mp.move {W W' : World} {b : Nat} {L : List (Value × Value)} (h : Mp W b L) (hb : W'.heap[b]? = W.heap[b]?) : Mp W' b L := by
  obtain ⟨E, clock, h1, h2⟩ := h
  exact ⟨E, clock, hb.trans h1, h2⟩
theorem Mp.below {W W' : World} {b N : Nat} {L : List (Value × Value)} (h : Mp W b L) (hb : Below N W W') (hN : b < N) : Mp W' b L := h.move (hb.block b hN)
section
variable {P : Program} {kt mt et : TypeId} (K : KeyLaw P kt) (hmt : P.underlying mt = some (.map kt et)) {W : World} {b : Nat} {L : List (Value × Value)} (h : Mp W b L) (hL : ∀ p ∈ L, ∃ l, keyOf P kt p.1 = some l)
include K hmt h hL
/-- m[k] of an entry that is there. -/
theorem Mp.look_some (c : Bool) {k v : Value} (hk : (k, v) ∈ L) : (Instr.lookup mt (.map (some b)) k c).run P W = .ok (if c then .tuple #[v, .bool true] else v) W := by
  obtain ⟨lk, hlk⟩ := hL _ hk
  obtain ⟨E, clock, hb, hst, rfl⟩ := h
  rcases K.find W hlk E.toList (fun e he => hL (e.key, e.val) (List.mem_map.2 ⟨e, he, rfl⟩)) with ⟨_, h2⟩ | ⟨j, e, h1, h2, h3⟩
  · obtain ⟨e, he, he2⟩ := List.mem_map.1 hk
    exact absurd (congrArg Prod.fst he2) (h2 e he)
  · obtain ⟨e', he', he2⟩ := List.mem_map.1 hk
    have e1 : e'.key = e.key := (congrArg Prod.fst he2).trans h3.symm
    have hee : e' = e := by
      have hn := hst.2.2
      obtain ⟨i, hi, hi2⟩ := List.mem_iff_getElem.1 he'
      obtain ⟨hj, hj2⟩ := List.getElem?_eq_some_iff.1 h2
      by_cases hij : i = j
      · subst hij; rw [← hi2, ← hj2]
      · exfalso
        have hp := List.pairwise_map.1 hn
        rw [List.pairwise_iff_getElem] at hp
        rcases Nat.lt_or_gt_of_ne hij with hlt | hlt
        · exact hp i j hi hj hlt (by rw [hi2, hj2]; exact e1)
        · exact hp j i hj hi hlt (by rw [hi2, hj2]; exact e1.symm)
    subst hee
    have hv : e'.val = v := congrArg Prod.snd he2
    simp [Instr.lookup, run_underlying hmt, MapKept.run_getObj_map hb, K.check W _ hlk, h1, Result.andThen, hv]
/-- m[k] of none. -/
theorem Mp.look_none (c : Bool) {k z : Value} {lk : Lit} (hlk : keyOf P kt k = some lk) (hz : (zeroValue et).run P W = .ok z W) (hk : ∀ p ∈ L, p.1 ≠ k) : (Instr.lookup mt (.map (some b)) k c).run P W = .ok (if c then .tuple #[z, .bool false] else z) W := by
  obtain ⟨E, clock, hb, hst, rfl⟩ := h
  rcases K.find W hlk E.toList (fun e he => hL (e.key, e.val) (List.mem_map.2 ⟨e, he, rfl⟩)) with ⟨h1, _⟩ | ⟨j, e, h1, h2, h3⟩
  · simp [Instr.lookup, run_underlying hmt, MapKept.run_getObj_map hb, K.check W _ hlk, h1, hz, Result.andThen]
  · exact absurd h3 (hk (e.key, e.val) (List.mem_map.2 ⟨e, List.mem_of_getElem? h2, rfl⟩))
/-- m[k] = v, of a new key. -/
theorem Mp.put_new {k v : Value} {lk : Lit} (hlk : keyOf P kt k = some lk) (hk : ∀ p ∈ L, p.1 ≠ k) : ∃ W', (Instr.mapUpdate mt (.map (some b)) k v).run P W = .ok () W' ∧ Mp W' b (L ++ [(k, v)]) ∧ W.grownBy W' (some b) := by
  obtain ⟨E, clock, hb, hst, rfl⟩ := h
  rcases K.find W hlk E.toList (fun e he => hL (e.key, e.val) (List.mem_map.2 ⟨e, he, rfl⟩)) with ⟨h1, _⟩ | ⟨j, e, h1, h2, h3⟩
  · refine ⟨{ W with heap := W.heap.setIfInBounds b (.map (E.push ⟨k, v, clock⟩) (clock + 1)) }, by simp [Instr.mapUpdate, run_underlying hmt, MapKept.run_getObj_map hb, K.check W _ hlk, h1, MapKept.run_setObj_map _ hb, Result.andThen], ⟨E.push ⟨k, v, clock⟩, clock + 1, ?_, MapKept.stamped_push hst (fun x hx => hk (x.key, x.val) (List.mem_map.2 ⟨x, hx, rfl⟩)), by simp⟩, ⟨rfl, rfl, rfl, by simp, fun i hi hne => ?_⟩⟩
    · have hlt := (Array.getElem?_eq_some_iff.1 hb).1
      simp [hlt]
    · simp only
      rw [Array.getElem?_setIfInBounds_ne (fun e => hne (by rw [e]))]
  · exact absurd h3 (hk (e.key, e.val) (List.mem_map.2 ⟨e, List.mem_of_getElem? h2, rfl⟩))
end
theorem Try.strLaw : KeyLaw Try.prog 9 := string_law Try.underlying9
theorem str_key {s : ByteArray} (hs : s.size ≤ 140737488351232) : ∃ l, keyOf Try.prog 9 (.string s) = some l := ⟨_, keyOf_string_mk Try.underlying9 (by unfold maxLen; omega)⟩
end Go.Proofs.Ytdflckjnpgbjlaa

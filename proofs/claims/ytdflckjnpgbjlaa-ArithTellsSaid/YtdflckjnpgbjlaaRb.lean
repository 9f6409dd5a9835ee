/- A row's arguments, opened: lists of bindings out of the reading. No condition. -/
import Derived.Test.YtdflckjnpgbjlaaRo
import Derived.Test.YtdflckjnpgbjlaaSc
set_option linter.unusedVariables false
set_option maxRecDepth 20000
set_option linter.unusedSimpArgs false
namespace Go.Proofs.Ytdflckjnpgbjlaa
open Go.ChangeShapes Go.WideShapes Go.ChangeAt Go.RowKit
section
variable {H : Type} {enc : TypeId × Value → H} {W : World}
theorem Try.cellsBd : Try.prog.cellsOf 48 = 5 := by kernel_rfl
theorem open_bd (fuel : Nat) (cs : List Value) (x : DataW H × List MemPlace) (h : DataW.trod enc Try.prog W 0 (fun _ => true) true fuel 48 cs = some x) (hL : Light Try.prog 48 x.1) :
    ∃ b : Int × Tm, Kd.bd.K W (fun _ => True) b cs ∧ (-9223372036854775808 ≤ b.1 ∧ b.1 ≤ 9223372036854775807) ∧ b.2.Wf := by
  cases fuel with
  | zero => simp [DataW.trod] at h
  | succ fuel =>
    obtain ⟨xs, n, hn, rfl, hlen, hxl, hf⟩ := DataW.trod_struct Try.underlying48 h
    obtain rfl : fuel = n := by omega
    rw [Try.cellsBd] at hlen
    have f0 : DataW.trod enc Try.prog W 0 (fun _ => true) true fuel 2 ((cs.drop 0).take (Try.prog.cellsOf 2)) = xs[0]? := hf 0 _ rfl
    have f1 : DataW.trod enc Try.prog W 0 (fun _ => true) true fuel 24 ((cs.drop 1).take (Try.prog.cellsOf 24)) = xs[1]? := hf 1 _ rfl
    rw [Try.cells64] at f0
    rw [Try.cellsT] at f1
    match cs, hlen with
    | [c0, c1, c2, c3, c4], _ =>
      match xs, hxl with
      | [y0, y1], _ =>
        simp only [List.drop_zero, List.drop_succ_cons, List.take_succ_cons, List.take_zero, List.getElem?_cons_zero, List.getElem?_cons_succ] at f0 f1
        obtain ⟨k, e0, rfl, w0⟩ := DataW.trod_int Try.underlying2 f0
        injection e0 with e0
        subst e0
        have hL' := hL
        unfold Light at hL'
        simp only [List.map_cons, List.map_nil, DataW.weights, Try.underlying48, DataW.weightsEach, List.all_append, Bool.and_eq_true, List.nil_append, List.append_nil, List.all_cons, List.all_nil, List.cons_append, Bool.and_true, decide_eq_true_eq] at hL'
        obtain ⟨t, ht, hw⟩ := (open_both fuel).1 _ _ f1 (by unfold Light; first | exact hL' | exact hL'.2)
        refine ⟨(k, t), ⟨[.int .i64 k], [c1, c2, c3, c4], rfl, rfl, ht⟩, ?_, hw⟩
        simp only [Lit.wf, Bool.and_eq_true, decide_eq_true_eq] at w0
        simpa [IntKind.min, IntKind.max, IntKind.signed, IntKind.bits] using w0
theorem open_bdl (fuel : Nat) (cs : List Value) (x : DataW H × List MemPlace) (h : DataW.trod enc Try.prog W 0 (fun _ => true) true fuel 45 cs = some x) (hL : Light Try.prog 45 x.1) :
    ∃ l u, cs = [u] ∧ Kd.bd.S W (fun _ => True) l u ∧ WfB l := by
  rcases DataW.trod_slice Try.underlying45 h with ⟨rfl, rfl⟩ | ⟨a, len0, cap0, elems, rest, n, hn, rfl, rfl, _, hlc, hcm, hel, he, _, _⟩
  · exact ⟨[], _, rfl, Kd.S.nil _ _ _, fun b hb => by cases hb⟩
  · unfold Light at hL
    simp only [DataW.weights, Try.underlying45, List.all_cons, List.all_append, Bool.and_eq_true] at hL
    have hLe := light_all hL.2.1
    simp only [Try.cellsBd] at he
    have key : ∀ i : Fin len0, ∃ t : Int × Tm, (∃ cs, Kd.bd.K W (fun _ => True) t cs ∧ a.spot = none ∧ ∀ k u, cs[k]? = some u → W.cell? ⟨a.block, a.off + i * 5 + k, none⟩ = some u) ∧ (-9223372036854775808 ≤ t.1 ∧ t.1 ≤ 9223372036854775807) ∧ t.2.Wf := by
      intro i
      have h1 := he i.1 i.2
      obtain ⟨y, hy⟩ : ∃ y, elems[i.1]? = some y := ⟨_, List.getElem?_eq_getElem (by rw [hel]; exact i.2)⟩
      rw [hy] at h1
      obtain ⟨cs, hcs, htr⟩ := Option.bind_eq_some_iff.1 h1
      obtain ⟨t, ht, hw⟩ := open_bd _ cs y htr (hLe _ (List.mem_map.2 ⟨y, List.mem_of_getElem? hy, rfl⟩))
      obtain ⟨hb0, hl4, hc4⟩ := World.cells?_some hcs
      have hl : cs.length = 5 := hl4
      have hsp : len0 ≠ 0 → a.spot = none := fun hne => by
        have h1 := he 0 (by omega)
        obtain ⟨y, hy⟩ : ∃ y, elems[0]? = some y := ⟨_, List.getElem?_eq_getElem (by omega)⟩
        rw [hy] at h1
        obtain ⟨cs', hcs', _⟩ := Option.bind_eq_some_iff.1 h1
        obtain ⟨_, hl', hc'⟩ := World.cells?_some hcs'
        have e : W.cell? ((a.add (0 * 5)).add 0) = some cs'[0] := by rw [hc' 0 (by omega)]; exact List.getElem?_eq_getElem (by omega)
        exact cell_spot e
      have ha := hsp (by have := i.2; omega)
      refine ⟨t, ⟨cs, ht, ha, fun k u hk => ?_⟩, hw⟩
      have hk4 : k < 5 := by rw [← hl]; exact (List.getElem?_eq_some_iff.1 hk).1
      have := hc4 k hk4
      rw [hk, addr_add ha, add_off] at this
      exact this
    let l : Bs := List.ofFn (fun i : Fin len0 => Classical.choose (key i))
    have hll : l.length = len0 := List.length_ofFn
    have hat : ∀ j t, l[j]? = some t → ∃ h : j < len0, t = Classical.choose (key ⟨j, h⟩) := fun j t hj => by
      obtain ⟨h1, h2⟩ := List.getElem?_eq_some_iff.1 hj
      refine ⟨by rw [← hll]; exact h1, ?_⟩
      rw [← h2]
      simp [l]
    refine ⟨l, _, rfl, ⟨some a, cap0, by rw [hll], by omega, hcm, ?_⟩, ?_⟩
    · by_cases h0 : l = []
      · exact .inl ⟨h0, fun e => by cases e⟩
      · right
        have hpos : 0 < len0 := by
          rw [← hll]; exact List.length_pos_iff.2 h0
        have hsp := (Classical.choose_spec (key ⟨0, hpos⟩)).1
        obtain ⟨_, _, hspot, _⟩ := hsp
        obtain ⟨b, o, sp⟩ := a
        simp only at hspot
        subst hspot
        refine ⟨b, o, rfl, trivial, fun j t hj => ?_⟩
        obtain ⟨hjl, rfl⟩ := hat j t hj
        obtain ⟨cs, ht, _, hc⟩ := (Classical.choose_spec (key ⟨j, hjl⟩)).1
        exact ⟨cs, ht, hc⟩
    · intro t ht
      obtain ⟨j, hj⟩ := List.mem_iff_getElem?.1 ht
      obtain ⟨hjl, rfl⟩ := hat j t hj
      exact (Classical.choose_spec (key ⟨j, hjl⟩)).2
/-- A list of bindings that is handed in. -/
theorem open_bds {v : Value} {d : DataW H} {ps : List MemPlace} {r : Reach} {b0 : Nat} (hv : Value.okWide Try.prog W r b0 45 v) (h : DataW.Trod enc Try.prog W 0 (fun _ => true) true 45 v d ps) (hL : Light Try.prog 45 d) :
    ∃ l, Kd.bd.S W (fun _ => True) l v ∧ WfB l := by
  obtain ⟨a, len, cap, rfl⟩ := okWide_slice Try.underlying45 hv
  obtain ⟨fuel, hf⟩ := h
  obtain ⟨l, u, e, hS, hw⟩ := open_bdl fuel _ _ hf hL
  refine ⟨l, ?_, hw⟩
  simp only [Value.cells] at e
  injection e with e
  subst e
  exact hS
end
end Go.Proofs.Ytdflckjnpgbjlaa

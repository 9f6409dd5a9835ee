/- A row's arguments, opened: lists of instructions, lists of numbers. No condition. -/
import Derived.Test.YtdflckjnpgbjlaaRo
import Derived.Test.YtdflckjnpgbjlaaLCodeChecks
set_option linter.unusedVariables false
set_option maxRecDepth 20000
set_option linter.unusedSimpArgs false
namespace Go.Proofs.Ytdflckjnpgbjlaa
open Go.ChangeShapes Go.WideShapes Go.ChangeAt Go.RowKit
section
variable {H : Type} {enc : TypeId × Value → H} {W : World}
theorem open_slice {α : Type} (d : Kd α) (T e : TypeId) (hu : Try.prog.underlying T = some (.slice e)) (hc : Try.prog.cellsOf e = d.sz) (G : α → Prop)
    (elem : ∀ (fuel : Nat) (cs : List Value) (x : DataW H × List MemPlace), DataW.trod enc Try.prog W 0 (fun _ => true) true fuel e cs = some x → Light Try.prog e x.1 → ∃ t, d.K W (fun _ => True) t cs ∧ G t)
    (fuel : Nat) (cs : List Value) (x : DataW H × List MemPlace) (h : DataW.trod enc Try.prog W 0 (fun _ => true) true fuel T cs = some x) (hL : Light Try.prog T x.1) :
    ∃ l u, cs = [u] ∧ d.S W (fun _ => True) l u ∧ ∀ t ∈ l, G t := by
  have hdp := d.pos
  rcases DataW.trod_slice hu h with ⟨rfl, rfl⟩ | ⟨a, len0, cap0, elems, rest, n, hn, rfl, rfl, _, hlc, hcm, hel, he, _, _⟩
  · exact ⟨[], _, rfl, Kd.S.nil _ _ _, fun b hb => by cases hb⟩
  · unfold Light at hL
    simp only [DataW.weights, hu, List.all_cons, List.all_append, Bool.and_eq_true] at hL
    have hLe := light_all hL.2.1
    simp only [hc] at he
    have key : ∀ i : Fin len0, ∃ t : α, (∃ cs, d.K W (fun _ => True) t cs ∧ a.spot = none ∧ ∀ k u, cs[k]? = some u → W.cell? ⟨a.block, a.off + i * d.sz + k, none⟩ = some u) ∧ G t := by
      intro i
      have h1 := he i.1 i.2
      obtain ⟨y, hy⟩ : ∃ y, elems[i.1]? = some y := ⟨_, List.getElem?_eq_getElem (by rw [hel]; exact i.2)⟩
      rw [hy] at h1
      obtain ⟨cs, hcs, htr⟩ := Option.bind_eq_some_iff.1 h1
      obtain ⟨t, ht, hw⟩ := elem _ cs y htr (hLe _ (List.mem_map.2 ⟨y, List.mem_of_getElem? hy, rfl⟩))
      obtain ⟨hb0, hl4, hc4⟩ := World.cells?_some hcs
      have hl : cs.length = d.sz := hl4
      have hsp : len0 ≠ 0 → a.spot = none := fun hne => by
        have h1 := he 0 (by omega)
        obtain ⟨y, hy⟩ : ∃ y, elems[0]? = some y := ⟨_, List.getElem?_eq_getElem (by omega)⟩
        rw [hy] at h1
        obtain ⟨cs', hcs', _⟩ := Option.bind_eq_some_iff.1 h1
        obtain ⟨_, hl', hc'⟩ := World.cells?_some hcs'
        have e : W.cell? ((a.add (0 * d.sz)).add 0) = some cs'[0] := by rw [hc' 0 (by omega)]; exact List.getElem?_eq_getElem (by omega)
        rw [Nat.zero_mul] at e
        exact cell_spot e
      have ha := hsp (by have := i.2; omega)
      refine ⟨t, ⟨cs, ht, ha, fun k u hk => ?_⟩, hw⟩
      have hk4 : k < d.sz := by rw [← hl]; exact (List.getElem?_eq_some_iff.1 hk).1
      have := hc4 k hk4
      rw [hk, addr_add ha, add_off] at this
      exact this
    let l : List α := List.ofFn (fun i : Fin len0 => Classical.choose (key i))
    have hll : l.length = len0 := List.length_ofFn
    have hat : ∀ j t, l[j]? = some t → ∃ h : j < len0, t = Classical.choose (key ⟨j, h⟩) := fun j t hj => by
      obtain ⟨h1, h2⟩ := List.getElem?_eq_some_iff.1 hj
      refine ⟨by rw [← hll]; exact h1, ?_⟩
      rw [← h2]
      simp [l]
    refine ⟨l, _, rfl, ⟨some a, cap0, by rw [hll], by omega, hcm, ?_⟩, ?_⟩
    · by_cases h0 : l = []
      · exact .inl ⟨h0, fun e => by cases e⟩
      · right
        have hpos : 0 < len0 := by
          rw [← hll]; exact List.length_pos_iff.2 h0
        have hsp := (Classical.choose_spec (key ⟨0, hpos⟩)).1
        obtain ⟨_, _, hspot, _⟩ := hsp
        obtain ⟨b, o, sp⟩ := a
        simp only at hspot
        subst hspot
        refine ⟨b, o, rfl, trivial, fun j t hj => ?_⟩
        obtain ⟨hjl, rfl⟩ := hat j t hj
        obtain ⟨cs, ht, _, hc⟩ := (Classical.choose_spec (key ⟨j, hjl⟩)).1
        exact ⟨cs, ht, hc⟩
    · intro t ht
      obtain ⟨j, hj⟩ := List.mem_iff_getElem?.1 ht
      obtain ⟨hjl, rfl⟩ := hat j t hj
      exact (Classical.choose_spec (key ⟨j, hjl⟩)).2
theorem Try.cellsCs : Try.prog.cellsOf 73 = 4 := by kernel_rfl
theorem Try.cellsIn : Try.prog.cellsOf 65 = 7 := by kernel_rfl
theorem Try.cellsI : Try.prog.cellsOf 3 = 1 := by kernel_rfl
theorem Try.cellsOp : Try.prog.cellsOf 62 = 1 := by kernel_rfl
theorem Try.cellsCL : Try.prog.cellsOf 63 = 1 := by kernel_rfl
theorem open_int1 (fuel : Nat) (cs : List Value) (x : DataW H × List MemPlace) (h : DataW.trod enc Try.prog W 0 (fun _ => true) true fuel 3 cs = some x) (hL : Light Try.prog 3 x.1) :
    ∃ b : Int, (Kd.int .i64).K W (fun _ => True) b cs ∧ True := by
  cases fuel with
  | zero => simp [DataW.trod] at h
  | succ fuel =>
    obtain ⟨k, e0, -, -⟩ := DataW.trod_int Try.underlying3 h
    exact ⟨k, e0, trivial⟩
theorem open_cs (fuel : Nat) (cs : List Value) (x : DataW H × List MemPlace) (h : DataW.trod enc Try.prog W 0 (fun _ => true) true fuel 73 cs = some x) (hL : Light Try.prog 73 x.1) :
    ∃ b : Cs, Kd.cs.K W (fun _ => True) b cs ∧ b.s.size ≤ 140737488351232 := by
  cases fuel with
  | zero => simp [DataW.trod] at h
  | succ fuel =>
    obtain ⟨xs, n, hn, rfl, hlen, hxl, hf⟩ := DataW.trod_struct Try.underlying73 h
    obtain rfl : fuel = n := by omega
    rw [Try.cellsCs] at hlen
    have f0 : DataW.trod enc Try.prog W 0 (fun _ => true) true fuel 5 ((cs.drop 0).take (Try.prog.cellsOf 5)) = xs[0]? := hf 0 _ rfl
    have f1 : DataW.trod enc Try.prog W 0 (fun _ => true) true fuel 9 ((cs.drop 1).take (Try.prog.cellsOf 9)) = xs[1]? := hf 1 _ rfl
    have f2 : DataW.trod enc Try.prog W 0 (fun _ => true) true fuel 2 ((cs.drop 2).take (Try.prog.cellsOf 2)) = xs[2]? := hf 2 _ rfl
    have f3 : DataW.trod enc Try.prog W 0 (fun _ => true) true fuel 3 ((cs.drop 3).take (Try.prog.cellsOf 3)) = xs[3]? := hf 3 _ rfl
    rw [Try.cells8] at f0
    rw [Try.cellsS] at f1
    rw [Try.cells64] at f2
    rw [Try.cellsI] at f3
    match cs, hlen with
    | [c0, c1, c2, c3], _ =>
      match xs, hxl with
      | [y0, y1, y2, y3], _ =>
        simp only [List.drop_zero, List.drop_succ_cons, List.take_succ_cons, List.take_zero, List.getElem?_cons_zero, List.getElem?_cons_succ] at f0 f1 f2 f3
        obtain ⟨k, e0, rfl, w0⟩ := DataW.trod_int Try.underlying5 f0
        obtain ⟨s, e1, rfl, w1⟩ := DataW.trod_string Try.underlying9 f1
        obtain ⟨q, e2, rfl, w2⟩ := DataW.trod_int Try.underlying2 f2
        obtain ⟨t, e3, rfl, w3⟩ := DataW.trod_int Try.underlying3 f3
        injection e0 with e0
        injection e1 with e1
        injection e2 with e2
        injection e3 with e3
        subst e0 e1 e2 e3
        have hL' := hL
        unfold Light at hL'
        simp only [List.map_cons, List.map_nil, DataW.weights, Try.underlying73, DataW.weightsEach, List.all_append, Bool.and_eq_true, List.nil_append, List.append_nil, List.all_cons, List.all_nil, List.cons_append, Bool.and_true, decide_eq_true_eq] at hL'
        refine ⟨⟨k, s, q, t⟩, rfl, ?_⟩
        have := hL'
        simpa [reachBytes] using this
theorem open_in (fuel : Nat) (cs : List Value) (x : DataW H × List MemPlace) (h : DataW.trod enc Try.prog W 0 (fun _ => true) true fuel 65 cs = some x) (hL : Light Try.prog 65 x.1) :
    ∃ b : In, (Kd.inq .u8).K W (fun _ => True) b cs ∧ ((0 ≤ b.op ∧ b.op ≤ 255) ∧ ∀ x ∈ b.cs, x.s.size ≤ 140737488351232) := by
  cases fuel with
  | zero => simp [DataW.trod] at h
  | succ fuel =>
    obtain ⟨xs, n, hn, rfl, hlen, hxl, hf⟩ := DataW.trod_struct Try.underlying65 h
    obtain rfl : fuel = n := by omega
    rw [Try.cellsIn] at hlen
    have f0 : DataW.trod enc Try.prog W 0 (fun _ => true) true fuel 62 ((cs.drop 0).take (Try.prog.cellsOf 62)) = xs[0]? := hf 0 _ rfl
    have f1 : DataW.trod enc Try.prog W 0 (fun _ => true) true fuel 3 ((cs.drop 1).take (Try.prog.cellsOf 3)) = xs[1]? := hf 1 _ rfl
    have f2 : DataW.trod enc Try.prog W 0 (fun _ => true) true fuel 3 ((cs.drop 2).take (Try.prog.cellsOf 3)) = xs[2]? := hf 2 _ rfl
    have f3 : DataW.trod enc Try.prog W 0 (fun _ => true) true fuel 5 ((cs.drop 3).take (Try.prog.cellsOf 5)) = xs[3]? := hf 3 _ rfl
    have f4 : DataW.trod enc Try.prog W 0 (fun _ => true) true fuel 9 ((cs.drop 4).take (Try.prog.cellsOf 9)) = xs[4]? := hf 4 _ rfl
    have f5 : DataW.trod enc Try.prog W 0 (fun _ => true) true fuel 2 ((cs.drop 5).take (Try.prog.cellsOf 2)) = xs[5]? := hf 5 _ rfl
    have f6 : DataW.trod enc Try.prog W 0 (fun _ => true) true fuel 63 ((cs.drop 6).take (Try.prog.cellsOf 63)) = xs[6]? := hf 6 _ rfl
    rw [Try.cellsOp] at f0
    rw [Try.cellsI] at f1 f2
    rw [Try.cells8] at f3
    rw [Try.cellsS] at f4
    rw [Try.cells64] at f5
    rw [Try.cellsCL] at f6
    match cs, hlen with
    | [c0, c1, c2, c3, c4, c5, c6], _ =>
      match xs, hxl with
      | [y0, y1, y2, y3, y4, y5, y6], _ =>
        simp only [List.drop_zero, List.drop_succ_cons, List.take_succ_cons, List.take_zero, List.getElem?_cons_zero, List.getElem?_cons_succ] at f0 f1 f2 f3 f4 f5 f6
        obtain ⟨o, e0, rfl, w0⟩ := DataW.trod_int Try.underlying62 f0
        obtain ⟨a, e1, rfl, w1⟩ := DataW.trod_int Try.underlying3 f1
        obtain ⟨b, e2, rfl, w2⟩ := DataW.trod_int Try.underlying3 f2
        obtain ⟨k, e3, rfl, w3⟩ := DataW.trod_int Try.underlying5 f3
        obtain ⟨s, e4, rfl, w4⟩ := DataW.trod_string Try.underlying9 f4
        obtain ⟨q, e5, rfl, w5⟩ := DataW.trod_int Try.underlying2 f5
        injection e0 with e0
        injection e1 with e1
        injection e2 with e2
        injection e3 with e3
        injection e4 with e4
        injection e5 with e5
        subst e0 e1 e2 e3 e4 e5
        have hL' := hL
        unfold Light at hL'
        simp only [List.map_cons, List.map_nil, DataW.weights, Try.underlying65, DataW.weightsEach, List.all_append, Bool.and_eq_true, List.nil_append, List.append_nil, List.all_cons, List.all_nil, List.cons_append, Bool.and_true, decide_eq_true_eq] at hL'
        obtain ⟨l, u, e6, hS, hwl⟩ := open_slice Kd.cs 63 73 Try.underlying63 Try.cellsCs _ open_cs _ _ _ f6 (by unfold Light; first | exact hL'.2 | exact hL')
        injection e6 with e6
        subst e6
        refine ⟨⟨o, a, b, k, s, q, l⟩, ⟨_, rfl, hS⟩, ?_, hwl⟩
        simp only [Lit.wf, Bool.and_eq_true, decide_eq_true_eq] at w0
        simpa [IntKind.min, IntKind.max, IntKind.signed, IntKind.bits] using w0
/-- Instructions, numbers that are handed in. -/
theorem open_ins {v : Value} {d : DataW H} {ps : List MemPlace} {r : Reach} {b0 : Nat} (hv : Value.okWide Try.prog W r b0 54 v) (h : DataW.Trod enc Try.prog W 0 (fun _ => true) true 54 v d ps) (hL : Light Try.prog 54 d) :
    ∃ l, (Kd.inq .u8).S W (fun _ => True) l v ∧ WfI l := by
  obtain ⟨a, len, cap, rfl⟩ := okWide_slice Try.underlying54 hv
  obtain ⟨fuel, hf⟩ := h
  obtain ⟨l, u, e, hS, hw⟩ := open_slice (Kd.inq .u8) 54 65 Try.underlying54 Try.cellsIn _ open_in fuel _ _ hf hL
  refine ⟨l, ?_, hw⟩
  simp only [Value.cells] at e
  injection e with e
  subst e
  exact hS
theorem open_es {v : Value} {d : DataW H} {ps : List MemPlace} {r : Reach} {b0 : Nat} (hv : Value.okWide Try.prog W r b0 55 v) (h : DataW.Trod enc Try.prog W 0 (fun _ => true) true 55 v d ps) (hL : Light Try.prog 55 d) :
    ∃ l, (Kd.int .i64).S W (fun _ => True) l v ∧ True := by
  obtain ⟨a, len, cap, rfl⟩ := okWide_slice Try.underlying55 hv
  obtain ⟨fuel, hf⟩ := h
  obtain ⟨l, u, e, hS, hw⟩ := open_slice (Kd.int .i64) 55 3 Try.underlying55 Try.cellsI (fun _ => True) open_int1 fuel _ _ hf hL
  refine ⟨l, ?_, trivial⟩
  simp only [Value.cells] at e
  injection e with e
  subst e
  exact hS
end
end Go.Proofs.Ytdflckjnpgbjlaa

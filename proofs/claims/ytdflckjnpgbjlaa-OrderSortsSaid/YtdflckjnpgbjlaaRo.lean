/- A row's arguments, opened: terms and lists of terms out of the reading. No condition. -/
import Derived.Test.YtdflckjnpgbjlaaF1
import Derived.Test.YtdflckjnpgbjlaaProg
import Derived.ProofKit
import Derived.OpenShut
import Derived.ShutString
import Derived.ChangeOld
import Derived.SizedLaws
import Derived.ChangeArms
set_option linter.unusedVariables false
set_option maxRecDepth 20000
set_option linter.unusedSimpArgs false
namespace Go.Proofs.Ytdflckjnpgbjlaa
open Go.ChangeShapes Go.WideShapes Go.ChangeAt Go.RowKit
open Go.ChangeMaps (open_string shut_string)

theorem cell_spot {w : World} {a : Addr} {v : Value} (h : w.cell? a = some v) : a.spot = none := by
  unfold World.cell? at h
  split at h
  · split at h
    · cases h
    · rename_i h1; simpa using h1
  · cases h
theorem addr_add {a : Addr} (h : a.spot = none) (n : Nat) : a.add n = ⟨a.block, a.off + n, none⟩ := by
  obtain ⟨b, o, s⟩ := a
  simp only at h
  subst h
  exact add_off b o n
section
variable {H : Type} {enc : TypeId × Value → H} {W : World}
theorem Try.cellsT : Try.prog.cellsOf 24 = 4 := by kernel_rfl
theorem Try.cells8 : Try.prog.cellsOf 5 = 1 := by kernel_rfl
theorem Try.cells64 : Try.prog.cellsOf 2 = 1 := by kernel_rfl
theorem Try.cellsS : Try.prog.cellsOf 9 = 1 := by kernel_rfl
theorem Try.cellsL : Try.prog.cellsOf 22 = 1 := by kernel_rfl
/-- Weights that are borne. -/
def Light (P : Program) (t : TypeId) (d : DataW H) : Prop := (d.weights P t).all (· ≤ reachBytes) = true
theorem light_all {P : Program} {e : TypeId} : ∀ {l : List (DataW H)}, (DataW.weightsAll P e l).all (· ≤ reachBytes) = true → ∀ d ∈ l, Light P e d
  | [], _, d, hd => by cases hd
  | x :: r, h, d, hd => by
    simp only [DataW.weightsAll, List.all_append, Bool.and_eq_true] at h
    rcases List.mem_cons.1 hd with rfl | hd
    · exact h.1
    · exact light_all h.2 d hd
theorem open_both : ∀ fuel : Nat,
    (∀ (cs : List Value) (x : DataW H × List MemPlace), DataW.trod enc Try.prog W 0 (fun _ => true) true fuel 24 cs = some x → Light Try.prog 24 x.1 → ∃ t, TmK W (fun _ => True) t cs ∧ t.Wf) ∧
    (∀ (cs : List Value) (x : DataW H × List MemPlace), DataW.trod enc Try.prog W 0 (fun _ => true) true fuel 22 cs = some x → Light Try.prog 22 x.1 → ∃ l u, cs = [u] ∧ Kd.tm.S W (fun _ => True) l u ∧ WfL l)
  | 0 => ⟨fun cs x h => by simp [DataW.trod] at h, fun cs x h => by simp [DataW.trod] at h⟩
  | fuel + 1 => by
    obtain ⟨ih1, ih2⟩ := open_both fuel
    constructor
    · intro cs x h hL
      obtain ⟨xs, n, hn, rfl, hlen, hxl, hf⟩ := DataW.trod_struct Try.underlying24 h
      obtain rfl : fuel = n := by omega
      rw [Try.cellsT] at hlen
      have f0 : DataW.trod enc Try.prog W 0 (fun _ => true) true fuel 5 ((cs.drop 0).take (Try.prog.cellsOf 5)) = xs[0]? := hf 0 _ rfl
      have f1 : DataW.trod enc Try.prog W 0 (fun _ => true) true fuel 9 ((cs.drop 1).take (Try.prog.cellsOf 9)) = xs[1]? := hf 1 _ rfl
      have f2 : DataW.trod enc Try.prog W 0 (fun _ => true) true fuel 2 ((cs.drop 2).take (Try.prog.cellsOf 2)) = xs[2]? := hf 2 _ rfl
      have f3 : DataW.trod enc Try.prog W 0 (fun _ => true) true fuel 22 ((cs.drop 3).take (Try.prog.cellsOf 22)) = xs[3]? := hf 3 _ rfl
      rw [Try.cells8] at f0
      rw [Try.cellsS] at f1
      rw [Try.cells64] at f2
      rw [Try.cellsL] at f3
      match cs, hlen with
      | [c0, c1, c2, c3], _ =>
        match xs, hxl with
        | [y0, y1, y2, y3], _ =>
          simp only [List.drop_zero, List.drop_succ_cons, List.take_succ_cons, List.take_zero, List.getElem?_cons_zero, List.getElem?_cons_succ] at f0 f1 f2 f3
          obtain ⟨k, e0, rfl, w0⟩ := DataW.trod_int Try.underlying5 f0
          obtain ⟨s, e1, rfl, w1⟩ := DataW.trod_string Try.underlying9 f1
          obtain ⟨q, e2, rfl, w2⟩ := DataW.trod_int Try.underlying2 f2
          injection e0 with e0
          injection e1 with e1
          injection e2 with e2
          subst e0 e1 e2
          have hL' := hL
          unfold Light at hL'
          simp only [List.map_cons, List.map_nil, DataW.weights, Try.underlying24, DataW.weightsEach, List.all_append, Bool.and_eq_true, List.nil_append, List.append_nil, List.all_cons, List.all_nil, List.cons_append, Bool.and_true, decide_eq_true_eq] at hL'
          obtain ⟨l, u, e3, hS, hwl⟩ := ih2 _ _ f3 (by unfold Light; exact hL'.2)
          injection e3 with e3
          subst e3
          refine ⟨⟨k, s, q, l⟩, TmK_iff.2 ⟨_, rfl, hS⟩, ?_⟩
          simp only [Lit.wf, Bool.and_eq_true, decide_eq_true_eq] at w0 w2
          refine ⟨?_, ?_, ?_, hwl⟩
          · simpa [IntKind.min, IntKind.max, IntKind.signed, IntKind.bits] using w0
          · simpa [IntKind.min, IntKind.max, IntKind.signed, IntKind.bits] using w2
          · have := hL'.1
            simpa [reachBytes] using this
    · intro cs x h hL
      rcases DataW.trod_slice Try.underlying22 h with ⟨rfl, rfl⟩ | ⟨a, len, cap, elems, rest, n, hn, rfl, rfl, _, hlc, hcm, hel, he, _, _⟩
      · exact ⟨[], _, rfl, Kd.S.nil _ _ _, trivial⟩
      · obtain rfl : fuel = n := by omega
        unfold Light at hL
        simp only [DataW.weights, Try.underlying22, List.all_cons, List.all_append, Bool.and_eq_true] at hL
        have hLe := light_all hL.2.1
        simp only [Try.cellsT] at he
        have key : ∀ i : Fin len, ∃ t : Tm, (∃ cs, TmK W (fun _ => True) t cs ∧ a.spot = none ∧ ∀ k u, cs[k]? = some u → W.cell? ⟨a.block, a.off + i * 4 + k, none⟩ = some u) ∧ t.Wf := by
          intro i
          have h1 := he i.1 i.2
          obtain ⟨y, hy⟩ : ∃ y, elems[i.1]? = some y := ⟨_, List.getElem?_eq_getElem (by rw [hel]; exact i.2)⟩
          rw [hy] at h1
          obtain ⟨cs, hcs, htr⟩ := Option.bind_eq_some_iff.1 h1
          obtain ⟨t, ht, hw⟩ := ih1 cs y htr (hLe _ (List.mem_map.2 ⟨y, List.mem_of_getElem? hy, rfl⟩))
          obtain ⟨hb0, hl4, hc4⟩ := World.cells?_some hcs
          have h0 := hc4 0 (by omega)
          have hl : cs.length = 4 := hl4
          have hc0 : (a.add (i.1 * 4)).spot = none := by
            have e : W.cell? ((a.add (i.1 * 4)).add 0) = some cs[0] := by rw [h0]; exact List.getElem?_eq_getElem (by omega)
            have := cell_spot e
            rwa [show (a.add (i.1 * 4)).add 0 = a.add (i.1 * 4) from rfl] at this
          have hsp : len ≠ 0 → a.spot = none := fun hne => by
            have h1 := he 0 (by omega)
            obtain ⟨y, hy⟩ : ∃ y, elems[0]? = some y := ⟨_, List.getElem?_eq_getElem (by omega)⟩
            rw [hy] at h1
            obtain ⟨cs', hcs', _⟩ := Option.bind_eq_some_iff.1 h1
            obtain ⟨_, hl', hc'⟩ := World.cells?_some hcs'
            have e : W.cell? ((a.add (0 * 4)).add 0) = some cs'[0] := by rw [hc' 0 (by omega)]; exact List.getElem?_eq_getElem (by omega)
            exact cell_spot e
          have ha := hsp (by have := i.2; omega)
          refine ⟨t, ⟨cs, ht, ha, fun k u hk => ?_⟩, hw⟩
          have hk4 : k < 4 := by rw [← hl]; exact (List.getElem?_eq_some_iff.1 hk).1
          have := hc4 k hk4
          rw [hk, addr_add ha, add_off] at this
          exact this
        let l : List Tm := List.ofFn (fun i : Fin len => Classical.choose (key i))
        have hll : l.length = len := List.length_ofFn
        have hat : ∀ j t, l[j]? = some t → ∃ h : j < len, t = Classical.choose (key ⟨j, h⟩) := fun j t hj => by
          obtain ⟨h1, h2⟩ := List.getElem?_eq_some_iff.1 hj
          refine ⟨by rw [← hll]; exact h1, ?_⟩
          rw [← h2]
          simp [l]
        refine ⟨l, _, rfl, ⟨some a, cap, by rw [hll], by omega, hcm, ?_⟩, ?_⟩
        · by_cases h0 : l = []
          · exact .inl ⟨h0, fun e => by cases e⟩
          · right
            have hpos : 0 < len := by
              rw [← hll]; exact List.length_pos_iff.2 h0
            have hsp := (Classical.choose_spec (key ⟨0, hpos⟩)).1
            obtain ⟨_, _, hspot, _⟩ := hsp
            obtain ⟨b, o, sp⟩ := a
            simp only at hspot
            subst hspot
            refine ⟨b, o, rfl, trivial, fun j t hj => ?_⟩
            obtain ⟨hjl, rfl⟩ := hat j t hj
            obtain ⟨cs, ht, _, hc⟩ := (Classical.choose_spec (key ⟨j, hjl⟩)).1
            exact ⟨cs, ht, hc⟩
        · rw [WfL_iff]
          intro t ht
          obtain ⟨j, hj⟩ := List.mem_iff_getElem?.1 ht
          obtain ⟨hjl, rfl⟩ := hat j t hj
          exact (Classical.choose_spec (key ⟨j, hjl⟩)).2
/-- A term that is handed in. -/
theorem open_tm {v : Value} {d : DataW H} {ps : List MemPlace} {r : Reach} {b0 : Nat} (hv : Value.okWide Try.prog W r b0 24 v) (h : DataW.Trod enc Try.prog W 0 (fun _ => true) true 24 v d ps) (hL : Light Try.prog 24 d) :
    ∃ t, TmV W (fun _ => True) t v ∧ t.Wf := by
  obtain ⟨cs, rfl, hsz⟩ := okWide_struct Try.underlying24 hv
  obtain ⟨fuel, hf⟩ := h
  obtain ⟨t, ht, hw⟩ := (open_both fuel).1 _ _ hf hL
  refine ⟨t, ?_, hw⟩
  obtain ⟨u, e, hS⟩ := TmK_iff.1 ht
  refine ⟨u, ?_, hS⟩
  simp only [Value.cells] at e
  rw [show cs = cs.toList.toArray by simp, e]
/-- A list of terms that is handed in. -/
theorem open_tms {v : Value} {d : DataW H} {ps : List MemPlace} {r : Reach} {b0 : Nat} (hv : Value.okWide Try.prog W r b0 22 v) (h : DataW.Trod enc Try.prog W 0 (fun _ => true) true 22 v d ps) (hL : Light Try.prog 22 d) :
    ∃ l, Kd.tm.S W (fun _ => True) l v ∧ WfL l := by
  obtain ⟨a, len, cap, rfl⟩ := okWide_slice Try.underlying22 hv
  obtain ⟨fuel, hf⟩ := h
  obtain ⟨l, u, e, hS, hw⟩ := (open_both fuel).2 _ _ hf hL
  refine ⟨l, ?_, hw⟩
  simp only [Value.cells] at e
  injection e with e
  subst e
  exact hS
end
end Go.Proofs.Ytdflckjnpgbjlaa

/- The reference's 'Occurs', 'Apply'. Conditions: the arguments read; the bindings make no circle; terms of at most a million nodes. -/
import Derived.Test.YtdflckjnpgbjlaaS8
set_option linter.unusedVariables false
set_option maxRecDepth 20000
set_option linter.unusedSimpArgs false
namespace Go.Proofs.Ytdflckjnpgbjlaa
open Go.RowKit

theorem occE_nod (P : List Tm) (q : Int) : occE P q = if 0 ≤ (nodE P q).2 ∧ (nodE P q).2 ≤ 4096 then (true, 0) else if 4096 < (nodE P q).1 then (false, 31) else (false, 0) := by
  have hl : (4096 < (nodE P q).1) ↔ 4096 < P.length := by
    simp only [nodE, List.length_take]; omega
  have ht : P.take 4096 = (P.take 4097).take 4096 := by rw [List.take_take]; rfl
  have ha : (P.take 4096).any (isv q) = true ↔ 0 ≤ (nodE P q).2 ∧ (nodE P q).2 ≤ 4096 := by
    simp only [nodE]
    rw [ht]
    generalize P.take 4097 = L
    unfold fpos
    cases h : L.findIdx? (isv q) with
    | none =>
      simp only [List.findIdx?_eq_none_iff] at h
      constructor
      · intro h2
        obtain ⟨x, hx, hi⟩ := List.any_eq_true.1 h2
        rw [h x (List.mem_of_mem_take hx)] at hi
        cases hi
      · intro h2; simp at h2
    | some i =>
      obtain ⟨h1, h2, h3⟩ := List.findIdx?_eq_some_iff_getElem.1 h
      constructor
      · intro h4
        obtain ⟨x, hx, hi⟩ := List.any_eq_true.1 h4
        obtain ⟨j, hj, rfl⟩ := List.mem_iff_getElem.1 hx
        rw [List.length_take] at hj
        rw [List.getElem_take] at hi
        have : i ≤ j := by
          rcases Nat.lt_or_ge j i with h5 | h5
          · exact absurd hi (h3 j h5)
          · exact h5
        simp only; omega
      · intro h4
        simp only at h4
        refine List.any_eq_true.2 ⟨L[i], ?_, h2⟩
        rw [List.mem_iff_getElem]
        exact ⟨i, by rw [List.length_take]; omega, by rw [List.getElem_take]⟩
  unfold occE
  by_cases h1 : (P.take 4096).any (isv q) = true
  · rw [if_pos h1, if_pos (ha.1 h1)]
  · rw [if_neg h1, if_neg (fun h => h1 (ha.2 h))]
    by_cases h2 : 4096 < P.length
    · rw [if_pos h2, if_pos (hl.2 h2)]
    · rw [if_neg h2, if_neg (fun h => h2 (hl.1 h))]
set_option maxHeartbeats 1000000 in
theorem rOccurs_c (l : Bs) (t : Tm) (f : Nat) (q : Int) (vl v : Value) (w : World) (okl ok : Nat → Prop) (hvl : Kd.bd.S w okl l vl) (hv : TmV w ok t v) (hf : Fn l f t) (hA : Acyc l) (hll : l.length ≤ 1000000) (hsm : ∀ n t, ofB l n = some t → t.siz ≤ 1000000) (hsz : t.siz ≤ 1000000) (hq : -9223372036854775808 ≤ q ∧ q ≤ 9223372036854775807) :
    Calls Try.prog 66 #[vl, .int .i64 q, v] w fun e w' => e = .returned (.tuple #[.bool (occE (vis l f t) q).1, .int .i64 (occE (vis l f t) q).2]) ∧ Below w.heap.size w w' := by
  have HN := Lib.hid (fun W (hW : Below w.heap.size w W) => Nodes_c l t f q vl v W _ _ (hvl.below hW) (hv.below hW) hf hA hll hsm hsz hq)
  obtain ⟨Al, cl, rfl⟩ := hvl.form
  obtain ⟨u0, rfl, hS⟩ := hv
  obtain ⟨A, c, rfl⟩ := hS.form
  have hb1 := (Below.refl w.heap.size w).alloc (Nat.le_refl _) (.cells #[.int .u8 t.k, .string t.s, .int .i64 t.n, .slice A t.l.length c] 24)
  have hn := Lib.hid (HN.out _ hb1)
  rw [occE_nod]
  generalize nodE (vis l f t) q = n at hn ⊢
  obtain ⟨n, at'⟩ := n
  simp only at hn ⊢
  clear HN hvl hS hf hA hsm
  by_cases h0 : 0 ≤ at'
  · by_cases h1 : at' ≤ 4096
    · rw [if_pos ⟨h0, h1⟩]
      go_enter Try.func66, Try.ntmps66
      go_wp2_with (go_at_call 104; refine hn.out.mono ?_; clear hn; rintro e w2 ⟨rfl, hb2⟩)
      refine bodyPost_ret (v := .tuple #[.bool true, .int .i64 0]) (by simp [results, Try.results66, go_sem]) rfl ⟨rfl, below_then hb1 hb1.size hb2⟩
    · rw [if_neg (fun h => h1 h.2)]
      by_cases h2 : 4096 < n
      · rw [if_pos h2]
        go_enter Try.func66, Try.ntmps66
        go_wp2_with (go_at_call 104; refine hn.out.mono ?_; clear hn; rintro e w2 ⟨rfl, hb2⟩)
        refine bodyPost_ret (v := .tuple #[.bool false, .int .i64 31]) (by simp [results, Try.results66, go_sem]) rfl ⟨rfl, below_then hb1 hb1.size hb2⟩
      · rw [if_neg h2]
        go_enter Try.func66, Try.ntmps66
        go_wp2_with (go_at_call 104; refine hn.out.mono ?_; clear hn; rintro e w2 ⟨rfl, hb2⟩)
        refine bodyPost_ret (v := .tuple #[.bool false, .int .i64 0]) (by simp [results, Try.results66, go_sem]) rfl ⟨rfl, below_then hb1 hb1.size hb2⟩
  · rw [if_neg (fun h => h0 h.1)]
    by_cases h2 : 4096 < n
    · rw [if_pos h2]
      go_enter Try.func66, Try.ntmps66
      go_wp2_with (go_at_call 104; refine hn.out.mono ?_; clear hn; rintro e w2 ⟨rfl, hb2⟩)
      refine bodyPost_ret (v := .tuple #[.bool false, .int .i64 31]) (by simp [results, Try.results66, go_sem]) rfl ⟨rfl, below_then hb1 hb1.size hb2⟩
    · rw [if_neg h2]
      go_enter Try.func66, Try.ntmps66
      go_wp2_with (go_at_call 104; refine hn.out.mono ?_; clear hn; rintro e w2 ⟨rfl, hb2⟩)
      refine bodyPost_ret (v := .tuple #[.bool false, .int .i64 0]) (by simp [results, Try.results66, go_sem]) rfl ⟨rfl, below_then hb1 hb1.size hb2⟩
end Go.Proofs.Ytdflckjnpgbjlaa

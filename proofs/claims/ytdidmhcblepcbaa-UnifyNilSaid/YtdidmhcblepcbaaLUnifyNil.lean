/- The law UnifyNil, walked. Conditions: the arguments read; what they are made of is in its bounds. -/
import Derived.Test.YtdidmhcblepcbaaU7
set_option linter.unusedVariables false
set_option maxRecDepth 20000
set_option linter.unusedSimpArgs false
namespace Go.Proofs.Ytdidmhcblepcbaa
open Go.RowKit

set_option maxRecDepth 100000 in
set_option maxHeartbeats 4000000 in
theorem UnifyNil_c (s t : Tm) (vs vt : Value) (w : World) (ok ok' : Nat → Prop) (hs : TmV w ok s vs) (ht : TmV w ok' t vt) (ws : s.Wf) (wt : t.Wf) :
    Calls Try.prog 7 #[vs, vt] w fun e w' => e = .returned (.bool true) ∧ Below w.heap.size w w' := by
  obtain ⟨us, rfl, hs⟩ := hs
  obtain ⟨ut, rfl, ht⟩ := ht
  have hwf : WfL [s, t] := by simp [WfL, ws, wt]
  obtain ⟨W2, hW2⟩ : ∃ W2, W2 = ((w.alloc (.cells #[.int .u8 s.k, .string s.s, .int .i64 s.n, us] 25)).alloc (.cells #[.int .u8 t.k, .string t.s, .int .i64 t.n, ut] 25)) := ⟨_, rfl⟩
  have hB : Below w.heap.size w W2 := by rw [hW2]; exact ((Below.refl _ w).alloc (Nat.le_refl _) _).alloc (by simp) _
  have h0 : W2.heap[w.heap.size]? = some (.cells #[.int .u8 s.k, .string s.s, .int .i64 s.n, us] 25 (0, 0)) := by rw [hW2]; exact (Below.heap_alloc _ _ _ (by simp)).trans (heap_new w _)
  have h1 : W2.heap[w.heap.size + 1]? = some (.cells #[.int .u8 t.k, .string t.s, .int .i64 t.n, ut] 25 (0, 0)) := by rw [hW2]; exact heap_at _ _ _ (by simp)
  have hz2 : W2.heap.size = w.heap.size + 2 := by rw [hW2]; simp
  obtain ⟨W3, hW3⟩ : ∃ W3, W3 = W2.alloc (.cells #[.int .u8 s.k, .string s.s, .int .i64 s.n, us, .int .u8 t.k, .string t.s, .int .i64 t.n, ut] 25) := ⟨_, rfl⟩
  have hB3 : Below W2.heap.size W2 W3 := by rw [hW3]; exact (Below.refl _ _).alloc (Nat.le_refl _) _
  have hz3 := hB3.size
  have h2 : W3.heap[w.heap.size + 1 + 1]? = some (.cells #[.int .u8 s.k, .string s.s, .int .i64 s.n, us, .int .u8 t.k, .string t.s, .int .i64 t.n, ut] 25 (0, 0)) := by rw [hW3]; exact heap_at _ _ _ (by omega)
  have HG := Lib.hid (Great_c [s, t] _ W3 _ (lit2_at h2 ((hs.below hB).below (hB3.mono (by omega))) ((ht.below hB).below (hB3.mono (by omega)))) hwf)
  have hBB : Below w.heap.size w W3 := hB.trans (hB3.mono (by omega))
  have HW3 : Hid (W3 = (((w.alloc (.cells #[.int .u8 s.k, .string s.s, .int .i64 s.n, us] 25)).alloc (.cells #[.int .u8 t.k, .string t.s, .int .i64 t.n, ut] 25)).alloc (.cells #[.int .u8 s.k, .string s.s, .int .i64 s.n, us, .int .u8 t.k, .string t.s, .int .i64 t.n, ut] 25))) := Lib.hid (by rw [hW3, hW2])
  have H0 := Lib.hid (block_below hB3 (by omega) h0)
  have H1 := Lib.hid (block_below hB3 (by omega) h1)
  have HB := Lib.hid hBB
  have HS := Lib.hid (hs.below hBB)
  have HT := Lib.hid (ht.below hBB)
  clear hs ht hwf hB hB3 h0 h1 h2 hBB hW2 hW3
  cases hgr : great [s, t] with
  | true =>
    rw [hgr] at HG
    clear hgr
    go_enter Try.func7, Try.ntmps7
    go_wp2_with (first
      | (rw [← HW3.out]; go_at_call 27; refine HG.out.mono ?_; clear HG HW3; rintro e w1 ⟨rfl, hb1⟩)
      | (go_at_call 31; refine (wakes04_c _).mono ?_; rintro e w2 ⟨rfl, hb2⟩))
    go_ret
    exact ⟨rfl, below_then (below_then HB.out HB.out.size hb1) (by have := HB.out.size; have := hb1.size; omega) hb2⟩
  | false =>
    rw [hgr] at HG
    clear hgr
    go_enter Try.func7, Try.ntmps7
    go_wp2_with (first
      | (rw [← HW3.out]; go_at_call 27; refine HG.out.mono ?_; clear HG HW3; rintro e w1 ⟨rfl, hb1⟩; obtain ⟨c0, c1, c2, c3, -, -, -, -⟩ := box4 (block_below hb1 (by omega) H0.out); obtain ⟨d0, d1, d2, d3, -, -, -, -⟩ := box4 (block_below hb1 (by omega) H1.out))
      | (go_at_call 32; refine (Unify_nil s t _ _ _ _ _ ⟨_, rfl, HS.out.below hb1⟩ ⟨_, rfl, HT.out.below hb1⟩).mono ?_; rintro e w2 ⟨rfl, hb2⟩)
      | (go_at_call 33; refine (Lists_nil _ _ _).mono ?_; rintro e w3 ⟨rfl, hb3⟩)
      | (go_at_call 31; refine (wakes04_c _).mono ?_; rintro e w4 ⟨rfl, hb4⟩))
    go_ret
    have hz1 := HB.out.size
    have hz4 := hb1.size
    have hz5 := hb2.size
    have hz6 := hb3.size
    exact ⟨rfl, (((HB.out.trans (hb1.mono (by omega))).trans (hb2.mono (by omega))).trans (hb3.mono (by omega))).trans (hb4.mono (by omega))⟩
end Go.Proofs.Ytdidmhcblepcbaa

/- Walks of layer 2: sorting, fewer than twenty terms. Conditions: the arguments read. -/
import Derived.Test.YtdflckjnpgbjlaaWo
set_option linter.unusedVariables false
set_option maxRecDepth 20000
set_option linter.unusedSimpArgs false
namespace Go.Proofs.Ytdflckjnpgbjlaa
open Go.RowKit

theorem Kd.Own.toRw {w : World} {base : Nat} {ok : Nat → Prop} {xs : List Tm} {v : Value} (h : Kd.tm.Own 24 w base ok xs v) (hx : xs ≠ []) :
    ∃ g cap, v = .slice (some ⟨g, 0, none⟩) xs.length cap ∧ base ≤ g ∧ Rw g cap (fun b => ok b ∧ b ≠ g) xs w := by
  obtain ⟨cells, h1, h2⟩ := h
  have hr := h1
  obtain ⟨hl, h3⟩ := h1
  rcases h3 with ⟨rfl, hn⟩ | ⟨g, cap, cur, rfl, hg, hh, hc1, hc2, hc3, ht⟩
  · exact absurd (List.eq_nil_of_length_eq_zero hn) hx
  · refine ⟨g, cap, rfl, hg, ⟨fun h => h.2 rfl, hc1, hc2, cur, hh, hc3, fun j x hj => ?_⟩⟩
    obtain ⟨u, e, hS⟩ := TmK_iff.1 (h2 j x hj)
    have key : ∀ i y, [Value.int .u8 x.k, .string x.s, .int .i64 x.n, u][i]? = some y → cur[j * 4 + i]? = some y := fun i y hy => by
      rw [← e, List.getElem?_take] at hy
      split at hy
      · rw [List.getElem?_drop] at hy
        have := hr.cells (g := g) rfl (j * 4 + i) y hy
        rw [add_plain] at this
        simpa [World.cell?, hh] using this
      · cases hy
    refine ⟨u, key 0 _ rfl, key 1 _ rfl, key 2 _ rfl, key 3 _ rfl, hS.mono (fun b hb => ⟨hb.1, fun e => hb.2 (by rw [e]; rfl)⟩)⟩
theorem stable_c (g cap : Nat) (ok : Nat → Prop) (xs : List Tm) (w : World) (hR : Rw g cap ok xs w) (hn : xs.length < 20) :
    Calls Try.prog 134 #[.slice (some ⟨g, 0, none⟩) xs.length cap, .int .i64 xs.length, .func (.func 51) #[] #[]] w fun e w' => e = .returned (.tuple #[]) ∧ Rw g cap ok (srt xs.length xs) w' ∧ Keeps (fun k => k = g) w w' := by
  have HI := Lib.hid (insert_c g cap ok xs w hR (by omega))
  clear hR
  obtain ⟨N, hN⟩ : ∃ N, N = xs.length := ⟨_, rfl⟩
  rw [← hN] at hn HI ⊢
  clear hN
  have h1 : ¬ (20 : Int) ≤ N := by omega
  have h2 : ¬ (20 : Int) < N := by omega
  go_enter Try.func134, Try.ntmps134
  go_wp2
  refine wp_loop_rounds 1 ?_
  rw [rounds_succ]
  go_wp2_with (go_at_call 151; refine HI.out.mono ?_; clear HI; rintro e w1 ⟨rfl, hR1, hK1⟩)
  refine wp_loop_rounds 1 ?_
  rw [rounds_succ]
  go_wp2
  go_end0
  exact ⟨rfl, hR1, hK1⟩
theorem sortStable_c (g cap : Nat) (ok : Nat → Prop) (xs : List Tm) (w : World) (hR : Rw g cap ok xs w) (hn : xs.length < 20) :
    Calls Try.prog 81 #[.slice (some ⟨g, 0, none⟩) xs.length cap, .func (.func 51) #[] #[]] w fun e w' => e = .returned (.tuple #[]) ∧ Rw g cap ok (srt xs.length xs) w' ∧ Keeps (fun k => k = g) w w' := by
  have HI := Lib.hid (stable_c g cap ok xs w hR hn)
  clear hR
  go_enter Try.func81, Try.ntmps81
  go_wp2_with (go_at_call 134; refine HI.out.mono ?_; clear HI; rintro e w1 ⟨rfl, hR1, hK1⟩)
  go_end0
  exact ⟨rfl, hR1, hK1⟩
theorem Sort_c (xs : List Tm) (v : Value) (w : World) (ok : Nat → Prop) (hv : Kd.tm.S w ok xs v) (h0 : xs ≠ []) (hn : xs.length < 20) :
    Calls Try.prog 47 #[v] w fun e w' => (∃ g cap, e = .returned (.slice (some ⟨g, 0, none⟩) xs.length cap) ∧ Kd.tm.S w' (fun _ => True) (srt xs.length xs) (.slice (some ⟨g, 0, none⟩) xs.length cap)) ∧ Below w.heap.size w w' := by
  have HC := Lib.hid (Clone_c xs v w ok ok hv.S2 (by omega))
  obtain ⟨A, c, rfl⟩ := hv.form
  have HS := Lib.hid (fun g cap ok W (hR : Rw g cap ok xs W) => sortStable_c g cap ok xs W hR hn)
  clear hv
  go_enter Try.func47, Try.ntmps47
  go_wp2_with (first
    | (go_at_call 60; refine HC.out.mono ?_; clear HC; rintro e w1 ⟨⟨r, rfl, hr⟩, hb1⟩; obtain ⟨g, cap, rfl, hg, hR⟩ := hr.toRw h0; clear hr)
    | (go_at_call 81; refine (HS.out _ _ _ _ hR).mono ?_; clear HS; rintro e w2 ⟨rfl, hR2, hK2⟩))
  go_ret
  have hS := hR2.S
  rw [srt_length] at hS
  exact ⟨⟨g, cap, rfl, hS⟩, (((Keeps.of_below (S := fun _ => False) hb1)).trans (hK2.mono (fun i h => .inr (by omega)))).below⟩
end Go.Proofs.Ytdflckjnpgbjlaa

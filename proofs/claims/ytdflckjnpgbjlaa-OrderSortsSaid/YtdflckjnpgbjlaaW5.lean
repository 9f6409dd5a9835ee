/- Walks of layer 1, fifth part: structures are made. Conditions: the arguments read; at most a million arguments. -/
import Derived.Test.YtdflckjnpgbjlaaW3
set_option linter.unusedVariables false
set_option maxRecDepth 20000
set_option linter.unusedSimpArgs false
namespace Go.Proofs.Ytdflckjnpgbjlaa
open Go.RowKit

theorem Try.infoT : (Try.prog.info? 24).map (fun i => (i.zero, i.size, i.bytes)) = some (some (.agg #[.int .u8 0, .string ⟨#[]⟩, .int .i64 0, .slice none 0 0]), 4, 56) := by kernel_rfl

theorem Clone_c (l : List Tm) (v : Value) (w : World) (oks oki : Nat → Prop) (hv : Kd.tm.S2 w oks oki l v) (hz : l.length ≤ 1000000) :
    Calls Try.prog 60 #[v] w fun e w' => (∃ r, e = .returned r ∧ Kd.tm.Own 24 w' w.heap.size oki l r) ∧ Below w.heap.size w w' := by
  have hv0 := hv
  obtain ⟨A, c, rfl, hl, hc, hA⟩ := hv
  have hnil := @Lib.run_eql_slice_nil Try.prog
  cases A with
  | none =>
    obtain ⟨rfl, hc0⟩ : l = [] ∧ c = 0 := by
      rcases hA with ⟨h1, h2⟩ | ⟨b, o, ha, _⟩
      · exact ⟨h1, h2 rfl⟩
      · cases ha
    subst hc0
    clear hA
    go_enter Try.func60, Try.ntmps60
    go_wp2_with fail
    go_ret
    exact ⟨⟨_, rfl, Kd.Own.nil _ _ _ _ _⟩, Below.refl _ _⟩
  | some ad =>
    have HV := Lib.hid hv0
    have HT := Lib.hid Try.infoT
    clear hA hv0
    go_enter Try.func60, Try.ntmps60
    go_wp2_with (at_builtin; refine Kd.appendS Kd.tm w.heap.size oki (fun b => oks b ∧ b < w.heap.size) (fun b => oki b ∧ b < w.heap.size) rfl (.tmp 5) (.tmp 6) 22 24 (.agg #[.int .u8 0, .string ⟨#[]⟩, .int .i64 0, .slice none 0 0]) 56 rfl Try.underlying22 HT.out rfl (by decide) (.slice (some ⟨w.heap.size, 0, none⟩) 0 0) (.slice (some ad) l.length c) [] l rfl rfl ?HO ?HY ?hoky ?hbase ?hl ?_)
    case HO => exact Kd.Own.lit (d := Kd.tm) (xs := []) [] (Nat.le_refl _) rfl (by simp [maxLen]) (fun i x hx => by simp at hx)
    case HY => exact Kd.S2.below ((Below.refl _ w).alloc (Nat.le_refl _) _) (Kd.S2.bound HV.out)
    case hoky => exact fun x cs hk => Kd.tm.mono (fun b hb => ⟨hb.1.1, by simp only [Value.ownBlock]; intro he; injection he; have := hb.1.2; omega⟩) hk
    case hbase => simp
    case hl => simp only [List.length_nil]; omega
    intro v1 w1 hO1 hg1 hat1
    go_wp2_with fail
    go_ret
    exact ⟨⟨_, rfl, hO1⟩, ((Below.refl _ w).alloc (Nat.le_refl _) _).grown hg1 (by simp) (fun k hk => by simp only [Value.ownBlock] at hk; injection hk; omega)⟩

/-- What F makes. -/
def mkF (s : ByteArray) (l : List Tm) : Tm := if l = [] then ⟨3, s, 0, []⟩ else ⟨4, s, 0, l⟩
theorem F_c (s : ByteArray) (l : List Tm) (v : Value) (w : World) (oks oki : Nat → Prop) (hv : Kd.tm.S2 w oks oki l v) (hz : l.length ≤ 1000000) :
    Calls Try.prog 22 #[.string s, v] w fun e w' => (∃ r, e = .returned r ∧ TmV w' (fun b => oki b ∨ w.heap.size ≤ b) (mkF s l) r) ∧ Below w.heap.size w w' := by
  have HC := Lib.hid (fun (W : World) (hW : Below w.heap.size w W) => Clone_c l v W _ _ ((Kd.S2.bound hv).below hW) hz)
  obtain ⟨A, c, rfl, hl, hc, hA⟩ := hv
  by_cases h0 : l = []
  · subst h0
    have HX : Hid (mkF s [] = ⟨3, s, 0, []⟩) := Lib.hid rfl
    have HA := Lib.hid (fun W => A_c s W oki)
    clear hA HC
    go_enter Try.func22, Try.ntmps22
    go_wp2_with (go_at_call 52; refine (HA.out _).mono ?_; rintro e w1 ⟨rfl, hb1⟩; obtain ⟨c0, c1, c2, c3, f0, f1, f2, f3⟩ := box4 (block_below hb1 (by simp) (heap_new w _)))
    refine bodyPost_ret (v := .agg #[.int .u8 3, .string s, .int .i64 0, .slice none 0 0]) (by simp [results, Try.results22, go_sem, c0, c1, c2, c3]) rfl ⟨⟨_, rfl, ?_⟩, ?_⟩
    · rw [HX.out]
      exact ⟨_, rfl, Kd.S.nil _ _ _⟩
    · exact (below_then ((Below.refl _ w).alloc (Nat.le_refl _) _) (by simp) hb1).grown (grown_set4 _ _ _ _ _ _) (by have := hb1.size; simp at this; omega) (fun k hk => by injection hk; omega)
  · have h0' : ((l.length : Int) == 0) = false := by
      rw [beq_eq_false_iff_ne]; intro h; exact h0 (List.eq_nil_of_length_eq_zero (by omega))
    have HX : Hid (mkF s l = ⟨4, s, 0, l⟩) := Lib.hid (by unfold mkF; rw [if_neg h0])
    clear hA h0
    go_enter Try.func22, Try.ntmps22
    go_wp2_with (go_at_call 60; refine (HC.out _ ((Below.refl _ w).alloc (Nat.le_refl _) _)).mono ?_; rintro e w1 ⟨⟨r, rfl, hr⟩, hb1⟩; obtain ⟨A1, q1, rfl⟩ := Kd.Own.form hr; obtain ⟨c0, c1, c2, c3, f0, f1, f2, f3⟩ := box4 (block_below hb1 (by simp) (heap_new w _)))
    refine bodyPost_ret (v := .agg #[.int .u8 4, .string s, .int .i64 0, .slice A1 l.length q1]) (by simp [results, Try.results22, go_sem, c0, c1, c2, c3]) rfl ⟨⟨_, rfl, ?_⟩, ?_⟩
    · rw [HX.out]
      refine ⟨_, rfl, ?_⟩
      have hS := Kd.Own.S hr
      simp only [World.size_alloc] at hS
      refine Kd.S.mono ?_ (Kd.S.grown (grown_set4 _ _ _ _ _ _) ?_ hS)
      · rintro b (⟨h1, h2⟩ | h1)
        · exact .inl h1
        · exact .inr (by omega)
      · rintro b (⟨h1, h2⟩ | h1) he
        · injection he; omega
        · injection he; omega
    · exact (below_then ((Below.refl _ w).alloc (Nat.le_refl _) _) (by simp) hb1).grown (grown_set4 _ _ _ _ _ _) (by have := hb1.size; simp at this; omega) (fun k hk => by injection hk; omega)
end Go.Proofs.Ytdflckjnpgbjlaa

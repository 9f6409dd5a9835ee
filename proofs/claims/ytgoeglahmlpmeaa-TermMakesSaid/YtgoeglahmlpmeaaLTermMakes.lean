/- The law TermMakes, walked. Conditions: the arguments read; what they are made of is in its bounds. -/
import Derived.Test.YtgoeglahmlpmeaaL1
set_option linter.unusedVariables false
set_option linter.unusedSimpArgs false
namespace Go.Proofs.Ytgoeglahmlpmeaa
open Go.RowKit

/-- The block of a row that is not empty. -/
theorem Kd.Own.block {α : Type} {d : Kd α} {e : TypeId} {w : World} {base : Nat} {ok : Nat → Prop} {xs : List α} {v : Value} (h : d.Own e w base ok xs v) (hx : xs ≠ []) :
    ∃ (g cap : Nat) (cur : Array Value), v = .slice (some ⟨g, 0, none⟩) xs.length cap ∧ base ≤ g ∧ w.heap[g]? = some (.cells cur e (0, 0)) ∧ xs.length ≤ cap ∧ cap ≤ maxLen ∧ cur.size = cap * d.sz := by
  obtain ⟨cells, h1, h2⟩ := h
  obtain ⟨hl, h3⟩ := h1
  rcases h3 with ⟨rfl, hn⟩ | ⟨g, cap, cur, rfl, hg, hh, hc1, hc2, hc3, ht⟩
  · exact absurd (List.eq_nil_of_length_eq_zero hn) hx
  · exact ⟨g, cap, cur, rfl, hg, hh, hc1, hc2, hc3⟩
theorem Same_refl (t : Tm) (v v' : Value) (w : World) (ok ok' : Nat → Prop) (hv : TmV w ok t v) (hv' : TmV w ok' t v') :
    Calls Try.prog 16 #[v, v'] w fun e w' => e = .returned (.bool true) ∧ Below w.heap.size w w' := by
  have := Same_c t t w ok ok' v v' hv hv'
  rwa [(Tm.eqb_iff t t).2 rfl] at this
/-- A cell of a block that is known. -/
theorem cells_at {w : World} {g : Nat} {c : Array Value} {t : TypeId} (h : w.heap[g]? = some (.cells c t (0, 0))) {k : Nat} (hk : k < c.size) : w.cell? ⟨g, k, none⟩ = some c[k] ∧ w.frozen? ⟨g, k, none⟩ = false := by
  simp [World.cell?, World.frozen?, h, hk]

theorem cells_set {W : World} {g : Nat} {c : Array Value} {t : TypeId} (h : W.heap[g]? = some (.cells c t (0, 0))) (o : Nat) (v : Value) : ∃ c', (W.setCell ⟨g, o, none⟩ v).heap[g]? = some (.cells c' t (0, 0)) ∧ c'.size = c.size := by
  refine ⟨c.setIfInBounds o v, ?_, by simp⟩
  have hlt : g < W.heap.size := (Array.getElem?_eq_some_iff.1 h).1
  have hget : W.heap[g] = .cells c t (0, 0) := (Array.getElem?_eq_some_iff.1 h).2
  simp [World.setCell, Array.getElem?_modify, h]
theorem cells_set4 {W : World} {g : Nat} {c : Array Value} {t : TypeId} (h : W.heap[g]? = some (.cells c t (0, 0))) (o0 o1 o2 o3 : Nat) (v0 v1 v2 v3 : Value) :
    ∃ c', ((((W.setCell ⟨g, o0, none⟩ v0).setCell ⟨g, o1, none⟩ v1).setCell ⟨g, o2, none⟩ v2).setCell ⟨g, o3, none⟩ v3).heap[g]? = some (.cells c' t (0, 0)) ∧ c'.size = c.size := by
  obtain ⟨c1, h1, e1⟩ := cells_set h o0 v0
  obtain ⟨c2, h2, e2⟩ := cells_set h1 o1 v1
  obtain ⟨c3, h3, e3⟩ := cells_set h2 o2 v2
  obtain ⟨c4, h4, e4⟩ := cells_set h3 o3 v3
  exact ⟨c4, h4, by omega⟩
theorem grown_setj (W : World) (B o0 o1 o2 o3 : Nat) (a b c d : Value) : W.grownBy ((((W.setCell ⟨B, o0, none⟩ a).setCell ⟨B, o1, none⟩ b).setCell ⟨B, o2, none⟩ c).setCell ⟨B, o3, none⟩ d) (some B) :=
  (((grown_set W B o0 a).trans (grown_set _ B o1 b)).trans (grown_set _ B o2 c)).trans (grown_set _ B o3 d)

set_option maxHeartbeats 4000000 in
theorem TermMakes_c (s : ByteArray) (n : Int) (l : List Tm) (v : Value) (w : World) (ok : Nat → Prop) (hv : Kd.tm.S w ok l v) (hwf : WfL l) :
    Calls Try.prog 3 #[.string s, .int .i64 n, v] w fun e w' => e = .returned (.bool true) ∧ Below w.heap.size w w' := by
  have HG := Lib.hid (Great_c l v w ok hv hwf)
  have HV := Lib.hid ((Kd.S.bound hv).mono (ok' := fun b => b < w.heap.size) (fun _ h => h.2))
  have HT := Lib.hid Try.infoT
  obtain ⟨A, c, rfl, hl, hc, hA⟩ := hv
  unfold maxLen at hc
  clear hA
  cases hgr : great l with
  | true =>
    rw [hgr] at HG
    go_enter Try.func3, Try.ntmps3
    go_wp2_with (first
      | (go_at_call 13; refine HG.out.mono ?_; clear HG; rintro e w1 ⟨rfl, hb1⟩)
      | (go_at_call 14; refine (wakes_c _).mono ?_; rintro e w2 ⟨rfl, hb2⟩))
    go_ret
    exact ⟨rfl, below_then hb1 hb1.size hb2⟩
  | false =>
    rw [hgr] at HG
    have hsz := great_siz hgr
    have hlz := length_le_sizL l
    clear hgr hwf
    go_enter Try.func3, Try.ntmps3
    go_wp2_with (first
      | (go_at_call 13; refine HG.out.mono ?_; clear HG; rintro e w1 ⟨rfl, hb1⟩)
      | (at_builtin; refine Kd.appendS Kd.tm w.heap.size (fun b => b < w.heap.size) (fun b => b < w.heap.size) (fun b => b < w.heap.size) rfl (.const (.slice none 0 0)) (.tmp 14) 22 26 (.agg #[.int .u8 0, .string ⟨#[]⟩, .int .i64 0, .slice none 0 0]) 56 rfl Try.underlying22 HT.out rfl (by decide) (.slice none 0 0) (.slice A l.length c) [] l rfl rfl ?HO ?HY ?hoky ?hbase ?hl ?_))
    case HO => exact Kd.Own.nil _ _ _ _ _
    case HY => exact Kd.S.S2 (Kd.S.below hb1 HV.out)
    case hoky => exact fun x cs hk => Kd.tm.mono (fun b hb => ⟨hb.1, by simp [Value.ownBlock]⟩) hk
    case hbase => exact hb1.size
    case hl => simp only [List.length_nil]; omega
    intro v1 w2 hO1 hg1 hat1
    try simp only [List.nil_append] at hO1
    have hB2 : Below w.heap.size w w2 := hb1.grown hg1 hb1.size (fun k hk => by simp [Value.ownBlock] at hk)
    by_cases h0 : l = []
    · subst h0
      obtain ⟨A1, c1, rfl⟩ := hO1.form
      have HF := Lib.hid (F_c s [] _ w2 _ _ hO1.S2 (by simp))
      have hmk : Hid (mkF s [] = ⟨3, s, 0, []⟩) := Lib.hid rfl
      clear hO1 hg1 hat1 HV HT hb1
      go_wp2_with (go_at_call 15; refine HF.out.mono ?_; clear HF; rw [hmk.out]; rintro e w3 ⟨⟨r, rfl, ru, rfl, hrS⟩, hb3⟩; obtain ⟨rA, rc, rfl⟩ := hrS.form)
      have hb5 : ∀ O O' : Obj, Below w3.heap.size w3 ((w3.alloc O).alloc O') := fun O O' => ((Below.refl _ w3).alloc (Nat.le_refl _) O).alloc (by simp) O'
      obtain ⟨hx8, hx9⟩ := Bx.two (w := w3) (ok := fun _ => True) (a := ⟨3, s, 0, []⟩) (b := ⟨3, s, 0, []⟩) (hrS.mono (fun _ _ => trivial)) (Kd.S.nil _ _ _)
      have hbw := below_then (below_then hB2 hB2.size hb3) (by have := hB2.size; have := hb3.size; omega) (hb5 (.cells #[.int .u8 3, .string s, .int .i64 0, .slice rA ([] : List Tm).length rc] 26) (.cells #[.int .u8 3, .string s, .int .i64 0, .slice none 0 0] 26))
      generalize hW5 : ((w3.alloc _).alloc _) = w5 at hx8 hx9 hbw ⊢
      clear hW5 hb5 hrS hB2 hb3 hmk
      have HQ := Lib.hid (Same_refl ⟨3, s, 0, []⟩ _ _ w5 (fun _ => True) (fun _ => True) hx8.tmv hx9.tmv)
      obtain ⟨c0, c1, c2, c3, -⟩ := hx8.held
      obtain ⟨d0, d1, d2, d3, -⟩ := hx9.held
      clear hx8 hx9
      go_loop [10] (fun i => i = .int .i64 0) (fun i => 0)
      case atStart => rfl
      case round =>
          subst hrel
          go_wp2_with (first
            | (refine HQ.out.mono ?_; clear HQ; rintro e w7 ⟨rfl, hb7⟩; replace hbw := below_then hbw hbw.size hb7)
            | (go_at_call 17; refine (V_c n _ (fun _ => False)).mono ?_; rintro e w7 ⟨rfl, hb7⟩; replace hbw := below_then hbw hbw.size hb7)
            | (go_at_call 18; refine (I_c n _ (fun _ => False)).mono ?_; rintro e w7 ⟨rfl, hb7⟩; replace hbw := below_then hbw hbw.size hb7)
            | (go_at_call 19; refine (A_c s _ (fun _ => False)).mono ?_; rintro e w7 ⟨rfl, hb7⟩; replace hbw := below_then hbw hbw.size hb7)
            | (go_at_call_has 16 (Value.int IntKind.u8 1); refine (Same_refl ⟨1, ⟨#[]⟩, n, []⟩ _ _ _ (fun _ => False) (fun _ => False) ⟨_, rfl, Kd.S.nil _ _ _⟩ ⟨_, rfl, Kd.S.nil _ _ _⟩).mono ?_; rintro e w7 ⟨rfl, hb7⟩; replace hbw := below_then hbw hbw.size hb7)
            | (go_at_call_has 16 (Value.int IntKind.u8 2); refine (Same_refl ⟨2, ⟨#[]⟩, n, []⟩ _ _ _ (fun _ => False) (fun _ => False) ⟨_, rfl, Kd.S.nil _ _ _⟩ ⟨_, rfl, Kd.S.nil _ _ _⟩).mono ?_; rintro e w7 ⟨rfl, hb7⟩; replace hbw := below_then hbw hbw.size hb7)
            | (go_at_call_has 16 (Value.int IntKind.u8 3); refine (Same_refl ⟨3, s, 0, []⟩ _ _ _ (fun _ => False) (fun _ => False) ⟨_, rfl, Kd.S.nil _ _ _⟩ ⟨_, rfl, Kd.S.nil _ _ _⟩).mono ?_; rintro e w7 ⟨rfl, hb7⟩; replace hbw := below_then hbw hbw.size hb7)
            | (go_at_call 14; refine (wakes_c _).mono ?_; rintro e w7 ⟨rfl, hb7⟩; replace hbw := below_then hbw hbw.size hb7))
          go_ret
          exact ⟨rfl, hbw⟩
    · obtain ⟨g, cap, cur, rfl, hgw, hh, hlc, hcm, hcs⟩ := hO1.block h0
      have hg2 := (Array.getElem?_eq_some_iff.1 hh).1
      have h0' : ((l.length : Int) == 0) = false := by
        rw [beq_eq_false_iff_ne]; intro h; exact h0 (List.eq_nil_of_length_eq_zero (by omega))
      have HF := Lib.hid (F_c s l _ w2 _ _ hO1.S2 (by omega))
      have hmk : Hid (mkF s l = ⟨4, s, 0, l⟩) := Lib.hid (by unfold mkF; rw [if_neg h0])
      have HV2 := Lib.hid (Kd.S.below hB2 HV.out)
      clear hO1 hg1 hat1 h0 HV HT hb1
      unfold maxLen at hcm
      go_wp2_with (go_at_call 15; refine HF.out.mono ?_; clear HF; rw [hmk.out]; rintro e w3 ⟨⟨r, rfl, ru, rfl, hrS⟩, hb3⟩; obtain ⟨rA, rc, rfl⟩ := hrS.form)
      have hb5 : ∀ O O' : Obj, Below w3.heap.size w3 ((w3.alloc O).alloc O') := fun O O' => ((Below.refl _ w3).alloc (Nat.le_refl _) O).alloc (by simp) O'
      have hS3 := (HV2.out.below hb3).mono (ok' := fun b => b ≠ g) (fun b hb => by omega)
      have hrS' := hrS.mono (ok' := fun b => b ≠ g) (fun b hb => by
        rcases hb with ⟨h1, h2⟩ | h1
        · omega
        · omega)
      obtain ⟨hx8, hx9⟩ := Bx.two (w := w3) (ok := fun b => b ≠ g) (a := ⟨4, s, 0, l⟩) (b := ⟨4, s, 0, l⟩) hrS' hS3
      have hg5 := block_below (hb5 (.cells #[.int .u8 4, .string s, .int .i64 0, .slice rA l.length rc] 26) (.cells #[.int .u8 4, .string s, .int .i64 0, .slice A l.length c] 26)) (by have := hb3.size; omega) (block_below hb3 hg2 hh)
      have hB5 := below_then (below_then hB2 hB2.size hb3) (by have := hB2.size; have := hb3.size; omega) (hb5 (.cells #[.int .u8 4, .string s, .int .i64 0, .slice rA l.length rc] 26) (.cells #[.int .u8 4, .string s, .int .i64 0, .slice A l.length c] 26))
      have hg3 : g < w3.heap.size := by have := hb3.size; omega
      generalize hW5 : ((w3.alloc _).alloc _) = w5 at hx8 hx9 hg5 hB5 ⊢
      clear hW5 hb5 hrS hrS' hS3 HV2 hB2 hb3 hh hmk
      go_loopw [10] (fun i W => ∃ j : Nat, j ≤ l.length ∧ i = .int .i64 j ∧ (∃ cu : Array Value, W.heap[g]? = some (.cells cu 26 (0, 0)) ∧ cu.size = cap * 4) ∧ Keeps (fun k => k = g) w5 W) (fun i _ => l.length - (intOf i).toNat)
      case atStart => exact ⟨0, Nat.zero_le _, rfl, ⟨cur, hg5, hcs⟩, Keeps.refl _ _⟩
      case round =>
        obtain ⟨j, hj, rfl, ⟨cu, hcu, hcz⟩, hk⟩ := hrel
        by_cases hlt : j < l.length
        · obtain ⟨d0, f0⟩ := cells_at hcu (k := j * 4) (by omega)
          obtain ⟨d1, f1⟩ := cells_at hcu (k := j * 4 + 1) (by omega)
          obtain ⟨d2, f2⟩ := cells_at hcu (k := j * 4 + 2) (by omega)
          obtain ⟨d3, f3⟩ := cells_at hcu (k := j * 4 + 3) (by omega)
          have hlt' : (j : Int) < l.length := by omega
          clear hx8 hx9 hg5
          go_wp2
          go_roundw
          case rel => exact ⟨j + 1, by omega, by go_num, (let ⟨c', h1, h2⟩ := cells_set4 hcu (j * 4) (j * 4 + 1) (j * 4 + 2) (j * 4 + 3) (.int .u8 0) (.string ⟨#[]⟩) (.int .i64 0) (.slice none 0 0); ⟨c', h1, h2.trans hcz⟩), hk.grown (grown_setj wr g (j * 4) (j * 4 + 1) (j * 4 + 2) (j * 4 + 3) _ _ _ _) (fun k hk' => .inl (by injection hk' with hk'; exact hk'.symm))⟩
          case measure => simp [intOf]; omega
        · have hw5 : w3.heap.size + 1 < w5.heap.size := (Array.getElem?_eq_some_iff.1 hx9.box).1
          have hbw : Below w.heap.size w wr := ⟨hk.os.trans hB5.os, hk.tape.trans hB5.tape, hk.output.trans hB5.output, Nat.le_trans hB5.size hk.size, fun k hk1 => (hk.block k (by have := hB5.size; omega) (by omega)).trans (hB5.block k hk1)⟩
          have hx8' : Bx w (fun b => b ≠ g) w3.heap.size ⟨4, s, 0, l⟩ (.slice rA l.length rc) wr := ⟨hbw, (hk.block _ (by omega) (by omega)).trans hx8.box, hx8.args.keeps hk (fun _ h => h)⟩
          have hx9' : Bx w (fun b => b ≠ g) (w3.heap.size + 1) ⟨4, s, 0, l⟩ (.slice A l.length c) wr := ⟨hbw, (hk.block _ (by omega) (by omega)).trans hx9.box, hx9.args.keeps hk (fun _ h => h)⟩
          have HQ := Lib.hid (Same_refl ⟨4, s, 0, l⟩ _ _ wr (fun b => b ≠ g) (fun b => b ≠ g) hx8'.tmv hx9'.tmv)
          obtain ⟨c0, c1, c2, c3, -⟩ := hx8'.held
          obtain ⟨d0, d1, d2, d3, -⟩ := hx9'.held
          clear hx8 hx9 hx8' hx9' hg5 hcu hk hB5
          go_wp2_with (first
            | (go_at_call_has 16 (Value.int IntKind.u8 4); refine HQ.out.mono ?_; clear HQ; rintro e w7 ⟨rfl, hb7⟩; replace hbw := below_then hbw hbw.size hb7)
            | (go_at_call 17; refine (V_c n _ (fun _ => False)).mono ?_; rintro e w7 ⟨rfl, hb7⟩; replace hbw := below_then hbw hbw.size hb7)
            | (go_at_call 18; refine (I_c n _ (fun _ => False)).mono ?_; rintro e w7 ⟨rfl, hb7⟩; replace hbw := below_then hbw hbw.size hb7)
            | (go_at_call 19; refine (A_c s _ (fun _ => False)).mono ?_; rintro e w7 ⟨rfl, hb7⟩; replace hbw := below_then hbw hbw.size hb7)
            | (go_at_call_has 16 (Value.int IntKind.u8 1); refine (Same_refl ⟨1, ⟨#[]⟩, n, []⟩ _ _ _ (fun _ => False) (fun _ => False) ⟨_, rfl, Kd.S.nil _ _ _⟩ ⟨_, rfl, Kd.S.nil _ _ _⟩).mono ?_; rintro e w7 ⟨rfl, hb7⟩; replace hbw := below_then hbw hbw.size hb7)
            | (go_at_call_has 16 (Value.int IntKind.u8 2); refine (Same_refl ⟨2, ⟨#[]⟩, n, []⟩ _ _ _ (fun _ => False) (fun _ => False) ⟨_, rfl, Kd.S.nil _ _ _⟩ ⟨_, rfl, Kd.S.nil _ _ _⟩).mono ?_; rintro e w7 ⟨rfl, hb7⟩; replace hbw := below_then hbw hbw.size hb7)
            | (go_at_call_has 16 (Value.int IntKind.u8 3); refine (Same_refl ⟨3, s, 0, []⟩ _ _ _ (fun _ => False) (fun _ => False) ⟨_, rfl, Kd.S.nil _ _ _⟩ ⟨_, rfl, Kd.S.nil _ _ _⟩).mono ?_; rintro e w7 ⟨rfl, hb7⟩; replace hbw := below_then hbw hbw.size hb7)
            | (go_at_call 14; refine (wakes_c _).mono ?_; rintro e w7 ⟨rfl, hb7⟩; replace hbw := below_then hbw hbw.size hb7))
          go_ret
          exact ⟨rfl, hbw⟩
end Go.Proofs.Ytgoeglahmlpmeaa

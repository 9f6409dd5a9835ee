/- Walks of the law of layer 5: its own canonical form. Conditions: the arguments read; terms of at most a million nodes. -/
import Derived.Test.YtgoeglahmlpmeaaWg
set_option linter.unusedVariables false
set_option linter.unusedSimpArgs false
namespace Go.Proofs.Ytgoeglahmlpmeaa
open Go.RowKit

theorem box_set {W : World} {B : Nat} {t : TypeId} {a b c d : Value} (h : W.heap[B]? = some (.cells #[a, b, c, d] t (0, 0))) (v : Value) :
    (W.setCell ⟨B, 2, none⟩ v).heap[B]? = some (.cells #[a, b, v, d] t (0, 0)) ∧ (W.setCell ⟨B, 3, none⟩ v).heap[B]? = some (.cells #[a, b, c, v] t (0, 0)) := by
  constructor <;> simp [World.setCell, Array.getElem?_modify, h]
set_option maxHeartbeats 4000000 in
theorem canon_k (vars : List Int) (v' : Value) (ok' : Nat → Prop) (k : Nat) : ∀ (l : List Tm) (v : Value) (w : World) (ok : Nat → Prop), sizL l < k → sizL l ≤ 1000000 → Kd.tm.S w ok l v → (Kd.int .i64).S w ok' vars v' →
    Calls Try.prog 40 #[v, v'] w fun e w' => (∃ r, e = .returned r ∧ Kd.tm.Own 26 w' w.heap.size (fun b => w.heap.size ≤ b) (renL (plc vars) l) r) ∧ Below w.heap.size w w' := by
  induction k with
  | zero => intro l v w ok hk; omega
  | succ k ih =>
    intro l v w ok hk hz hv hv'
    have HV := Lib.hid hv'
    obtain ⟨A, c, rfl, hl, hc, hA⟩ := Kd.S.bound hv
    obtain ⟨A', c', rfl⟩ := hv'.form
    unfold maxLen at hc
    have hll := length_le_sizL l
    clear hv hv'
    go_enter Try.func40, Try.ntmps40
    go_wp2
    go_loopw [5, 6] (fun o i wr => ∃ j : Nat, j ≤ l.length ∧ i = .int .i64 j ∧ Kd.tm.Own 26 wr w.heap.size (fun b => w.heap.size ≤ b) (renL (plc vars) (l.take j)) o ∧ Below w.heap.size w wr) (fun _ i _ => l.length - (intOf i).toNat)
    case atStart => exact ⟨0, Nat.zero_le _, rfl, by simpa [renL] using Kd.Own.nil _ _ _ _ _, Below.refl _ _⟩
    case round =>
      obtain ⟨j, hj', rfl, hOr, hbr⟩ := hrel
      have hbs := hbr.size
      by_cases hlt : j < l.length
      · obtain ⟨b, o, u, rfl, hokb, hlo, h0, h1, h2, h3, h4⟩ := tm_elem hA hlt
        have g0 := cell_below hbr h0 hlo
        have g1 := cell_below hbr h1 hlo
        have g2 := cell_below hbr h2 hlo
        have g3 := cell_below hbr h3 hlo
        obtain ⟨Au, cu, rfl⟩ := h4.form
        have hsj := siz_mem (List.getElem_mem hlt)
        have hsl : sizL l[j].l < l[j].siz := by cases l[j]; simp [Tm.siz]
        have hrl := renL_length (plc vars) (l.take j)
        have htl : (l.take j).length = j := by rw [List.length_take]; omega
        have HC := Lib.hid (fun W (hW : Below w.heap.size w W) => ih l[j].l _ W _ (by omega) (by omega) (h4.below hW) (HV.out.below hW))
        have HST : Hid (renL (plc vars) (l.take (j + 1)) = renL (plc vars) (l.take j) ++ [(l[j]).ren (plc vars)]) := Lib.hid (by rw [take_succ_at l hlt, renL_snoc])
        have HP := Lib.hid (fun W (hW : Below w.heap.size w W) => place_c vars l[j].n _ W _ (HV.out.below hW))
        have HLT := Lib.hid (Kd.Own.lt hOr)
        have HO := Lib.hid (Kd.Own.bound hOr)
        have HB := Lib.hid hbr
        have hne1 : ¬ b = wr.heap.size := by omega
        have hne2 : ¬ wr.heap.size = b := by omega
        generalize l[j] = q at g0 g1 g2 g3 HC HP HST hsj hsl
        obtain ⟨qk, qs, qn, ql⟩ := q
        simp only [Tm.ren] at HC HP HST g0 g1 g2 g3
        clear hA h0 h1 h2 h3 h4 hOr hbr ih
        have ha0 : ∀ O : Obj, Below w.heap.size w (wr.alloc O) := fun O => HB.out.alloc hbs O
        by_cases hk1 : qk = 1
        · subst hk1
          simp only [if_pos] at HST
          go_wp2_with (first
            | (go_at_call 66; refine (HP.out _ (ha0 _)).mono ?_; clear HP; rintro e w2 ⟨rfl, hb2⟩; have hbx2 := block_below hb2 (by simp) (heap_new wr _); obtain ⟨c0, c1, c2, c3, f0, f1, f2, f3⟩ := box4 hbx2; have hs2 := hb2.size; rw [World.size_alloc] at hs2; have q3 := cell_below hb2 (cell_below ((Below.refl _ wr).alloc (Nat.le_refl _) _) g3 (cell_lt g3)) (by have := cell_lt g3; simp; omega); have hbw2 : Below w.heap.size w w2 := below_then (ha0 _) (by simp; omega) hb2)
            | (go_at_call 40; go_loud (refine (HC.out _ (hbw2.setCell (p := ⟨wr.heap.size, 2, none⟩) hbs _)).mono ?_; clear HC; rintro e w5 ⟨⟨r, rfl, hr⟩, hb5⟩; obtain ⟨rA, rc, rfl⟩ := Kd.Own.form hr; have hss : (w2.setCell ⟨wr.heap.size, 2, none⟩ (.int .i64 (plc vars qn))).heap.size = w2.heap.size := (by simp [World.setCell]); have hbx5 := block_below hb5 (by omega) (box_set hbx2 (.int .i64 (plc vars qn))).1; obtain ⟨d0, d1, d2, d3, e0, e1, e2, e3⟩ := box4 hbx5; have hs5 := hb5.size; rw [hss] at hs5; refine Hid.out ?_)))
          have hO5 := Kd.Own.below hb5 (Kd.Own.grown (grown_set w2 wr.heap.size 2 (.int .i64 (plc vars qn))) (fun b hb he => by injection he; omega) (.inr (fun he => by have := (HLT.out _ he).2; omega)) (Kd.Own.below hb2 (Kd.Own.below ((Below.refl _ wr).alloc (Nat.le_refl _) _) HO.out)))
          have hbw5 : Below w.heap.size w w5 := below_then (hbw2.setCell (p := ⟨wr.heap.size, 2, none⟩) hbs (.int .i64 (plc vars qn))) (by omega) hb5
          rw [hss] at hr
          have hr' := (Kd.Own.S hr).mono (ok' := fun b => w2.heap.size ≤ b) (fun _ h => h.elim id id)
          have hw2 : wr.heap.size < w2.heap.size := by omega
          clear hr q3
          refine Lib.hid ?_
          generalize plc vars qn = pn at *
          generalize hfv : plc vars = f at *
          have hs3 : (w5.setCell ⟨wr.heap.size, 3, none⟩ (.slice rA (renL (f) ql).length rc)).heap.size = w5.heap.size := by simp [World.setCell]
          go_wp2_with (at_builtin; go_loud (refine Kd.append Kd.tm (W := (w5.setCell ⟨wr.heap.size, 3, none⟩ (.slice rA (renL (f) ql).length rc))) w.heap.size (fun b => w.heap.size ≤ b) rfl (.tmp 34) (.tmp 36) 22 26 (.agg #[.int .u8 0, .string ⟨#[]⟩, .int .i64 0, .slice none 0 0]) 56 rfl Try.underlying22 Try.infoT rfl (by decide) u5 (renL f (l.take j)) ⟨1, qs, pn, renL f ql⟩ [.int .u8 1, .string qs, .int .i64 pn, .slice rA (renL f ql).length rc] rfl (congrArg (fun s => Value.slice (some ⟨s, 0, none⟩) 1 1) hs3.symm) ?hy ?HO2 ?hbase2 ?hl2 ?_))
          case hy => exact TmK_iff.2 ⟨_, rfl, (Kd.S.grown (grown_set _ _ _ _) (fun b hb he => by injection he; omega) hr').mono (fun b hb => ⟨by omega, fun he => by have := (HLT.out b he.symm).2; omega⟩)⟩
          case HO2 => exact (Kd.Own.grown (grown_set _ _ _ _) (fun b hb he => by injection he; omega) (.inr (fun he => by have := (HLT.out _ he).2; omega)) hO5).mono (fun b hb => hb.1)
          case hbase2 => simp [World.setCell]; omega
          case hl2 => rw [hrl, htl]; omega
          intro v1 w1 hO1 hg1 hat1
          go_wp2_with fail
          go_roundw
          case rel => exact ⟨j + 1, by omega, by go_num, by rw [hfv, HST.out]; exact hO1, (hbw5.setCell (p := ⟨wr.heap.size, 3, none⟩) hbs _).grown hg1 (by simp [World.setCell]; omega) (fun k hk => (HLT.out k hk).1)⟩
          case measure => simp [intOf]; omega
        · have hk1' : (qk == 1) = false := by simpa using hk1
          simp only [if_neg hk1] at HST
          obtain ⟨w2, hw2e⟩ : ∃ w2, w2 = wr.alloc (.cells #[.int .u8 qk, .string qs, .int .i64 qn, .slice Au ql.length cu] 26) := ⟨_, rfl⟩
          have q3 := fun O => cell_below ((Below.refl _ wr).alloc (Nat.le_refl _) O) g3 (cell_lt g3)
          go_wp2_with (go_at_call 40; refine (HC.out _ (ha0 _)).mono ?_; clear HC; rintro e w5 ⟨⟨r, rfl, hr⟩, hb5⟩; obtain ⟨rA, rc, rfl⟩ := Kd.Own.form hr; have hbx5 := block_below hb5 (by simp) (heap_new wr _); obtain ⟨d0, d1, d2, d3, e0, e1, e2, e3⟩ := box4 hbx5; have hs5 := hb5.size; rw [World.size_alloc] at hs5; refine Hid.out ?_)
          have hO5 := Kd.Own.below hb5 (Kd.Own.below ((Below.refl _ wr).alloc (Nat.le_refl _) _) HO.out)
          have hbw5 : Below w.heap.size w w5 := below_then (ha0 _) (by simp; omega) hb5
          rw [World.size_alloc] at hr
          have hr' := (Kd.Own.S hr).mono (ok' := fun b => wr.heap.size + 1 ≤ b) (fun _ h => h.elim id id)
          clear hw2e
          clear hr q3
          refine Lib.hid ?_
          generalize hfv : plc vars = f at *
          have hs3 : (w5.setCell ⟨wr.heap.size, 3, none⟩ (.slice rA (renL (f) ql).length rc)).heap.size = w5.heap.size := by simp [World.setCell]
          go_wp2_with (at_builtin; go_loud (refine Kd.append Kd.tm (W := (w5.setCell ⟨wr.heap.size, 3, none⟩ (.slice rA (renL (f) ql).length rc))) w.heap.size (fun b => w.heap.size ≤ b) rfl (.tmp 34) (.tmp 36) 22 26 (.agg #[.int .u8 0, .string ⟨#[]⟩, .int .i64 0, .slice none 0 0]) 56 rfl Try.underlying22 Try.infoT rfl (by decide) u5 (renL f (l.take j)) ⟨qk, qs, qn, renL f ql⟩ [.int .u8 qk, .string qs, .int .i64 qn, .slice rA (renL f ql).length rc] rfl (congrArg (fun s => Value.slice (some ⟨s, 0, none⟩) 1 1) hs3.symm) ?hy ?HO2 ?hbase2 ?hl2 ?_))
          case hy => exact TmK_iff.2 ⟨_, rfl, (Kd.S.grown (grown_set _ _ _ _) (fun b hb he => by injection he; omega) hr').mono (fun b hb => ⟨by omega, fun he => by have := (HLT.out b he.symm).2; omega⟩)⟩
          case HO2 => exact (Kd.Own.grown (grown_set _ _ _ _) (fun b hb he => by injection he; omega) (.inr (fun he => by have := (HLT.out _ he).2; omega)) hO5).mono (fun b hb => hb.1)
          case hbase2 => simp [World.setCell]; omega
          case hl2 => rw [hrl, htl]; omega
          intro v1 w1 hO1 hg1 hat1
          go_wp2_with fail
          go_roundw
          case rel => exact ⟨j + 1, by omega, by go_num, by rw [hfv, HST.out]; exact hO1, (hbw5.setCell (p := ⟨wr.heap.size, 3, none⟩) hbs _).grown hg1 (by simp [World.setCell]; omega) (fun k hk => (HLT.out k hk).1)⟩
          case measure => simp [intOf]; omega
      · have HF : Hid (l.take j = l) := Lib.hid (List.take_of_length_le (by omega))
        rw [HF.out] at hOr
        have HO := Lib.hid hOr
        have HB := Lib.hid hbr
        clear hA hOr hbr ih
        go_wp2_with fail
        go_ret
        exact ⟨⟨_, rfl, HO.out⟩, HB.out⟩
end Go.Proofs.Ytgoeglahmlpmeaa

/- Walks of layer 1, fourth part: the reference's variables. Conditions: the arguments read; terms of at most a million nodes. -/
import Derived.Test.YtgoeglahmlpmeaaW3
set_option linter.unusedVariables false
set_option linter.unusedSimpArgs false
namespace Go.Proofs.Ytgoeglahmlpmeaa
open Go.RowKit

theorem Try.infoI : (Try.prog.info? 2).map (fun i => (i.zero, i.size, i.bytes)) = some (some (.int .i64 0), 1, 8) := by kernel_rfl
theorem dd_step (D M : List Int) {j : Nat} (hj : j < M.length) : (M.take (j + 1)).foldl addNew D = addNew ((M.take j).foldl addNew D) M[j] := by rw [take_succ_at M hj, List.foldl_append]; rfl

set_option maxHeartbeats 800000 in
theorem refVars_k (k : Nat) : ∀ (l : List Tm) (v : Value) (w : World) (ok : Nat → Prop), sizL l < k → k ≤ 1000001 → Kd.tm.S w ok l v →
    Calls Try.prog 30 #[v] w fun e w' => (∃ r, e = .returned r ∧ (Kd.int .i64).Own 2 w' w.heap.size (fun _ => False) (dd (occL l)) r) ∧ Below w.heap.size w w' := by
  induction k with
  | zero => intro l v w ok hk; omega
  | succ k ih =>
    intro l v w ok hk hkm hv
    obtain ⟨A, c, rfl, hl, hc, hA⟩ := hv
    unfold maxLen at hc
    have hlz := length_le_sizL l
    go_enter Try.func30, Try.ntmps30
    go_wp2_with fail
    go_loopw [3, 4] (fun o i wr => ∃ j : Nat, j ≤ l.length ∧ i = .int .i64 j ∧ (Kd.int .i64).Own 2 wr w.heap.size (fun _ => False) (dd (occL (l.take j))) o ∧ Below w.heap.size w wr) (fun _ i _ => l.length - (intOf i).toNat)
    case atStart => exact ⟨0, Nat.zero_le _, rfl, by simpa [occL, dd] using Kd.Own.nil _ _ _ _ _, Below.refl _ _⟩
    case round =>
      obtain ⟨j, hj, rfl, hO, hb⟩ := hrel
      by_cases hlt : j < l.length
      · obtain ⟨b, oo, u, rfl, hok, hlo, h0, h1, h2, h3, h4⟩ := tm_elem hA hlt
        have g0 := cell_below hb h0 hlo
        have g2 := cell_below hb h2 hlo
        have g3 := cell_below hb h3 hlo
        have k4 := h4.below hb
        have hzj := siz_mem (List.getElem_mem hlt)
        have hsj : l[j].siz = sizL l[j].l + 1 := by cases l[j]; rfl
        have hoj := occL_length l[j].l
        have hdj := dd_length (occL l[j].l)
        have HV := Lib.hid (ih l[j].l u wr ok (by omega) (by omega) k4)
        have hocc : Hid (occL (l.take (j + 1)) = occL (l.take j) ++ ((if l[j].k = 1 then [l[j].n] else []) ++ occL l[j].l)) := Lib.hid (by
          rw [take_succ_at l hlt, occL_append]; congr 1; cases l[j]; simp [occL, Tm.occ])
        have hdl := dd_length (occL (l.take j))
        have hol := occL_length (l.take j)
        have htl : sizL (l.take j) + sizL (l.drop j) = sizL l := by rw [← sizL_append, List.take_append_drop]
        have HZ := Lib.hid hsj
        clear hA h0 h1 h2 h3 h4 ih hsj
        have hu3 : ∀ k, u3.ownBlock = some k → k < wr.heap.size := fun k hk => (Kd.Own.lt hO k hk).2
        by_cases hk1 : l[j].k = 1
        · have HM : Hid (([l[j].n] ++ dd (occL l[j].l)).foldl addNew (dd (occL (l.take j))) = dd (occL (l.take (j + 1)))) := Lib.hid (by
            rw [hocc.out, if_pos hk1, List.foldl_append, foldl_dd', ← List.foldl_append, ← dd_append])
          have hML : ([l[j].n] ++ dd (occL l[j].l)).length ≤ sizL l := by have := HZ.out; simp only [List.length_append, List.length_cons, List.length_nil]; omega
          clear hocc
          go_wp2_with (first | (go_at_call 30; refine HV.out.mono ?_; rintro e w1 ⟨⟨r, rfl, hr⟩, hb1⟩; have g0' := cell_below hb1 g0 (Nat.lt_of_lt_of_le hlo hb.size); have g2' := cell_below hb1 g2 (Nat.lt_of_lt_of_le hlo hb.size)) | (at_builtin; refine Kd.appendS (Kd.int .i64) w1.heap.size (fun _ => False) (fun b => True) (fun b => True) rfl (.tmp 30) (.tmp 31) 32 2 (.int .i64 0) 8 rfl Try.underlying32 Try.infoI rfl (by decide) (.slice (some ⟨w1.heap.size, 0, none⟩) 1 1) r [l[j].n] (dd (occL l[j].l)) rfl rfl ?HO ?HY (fun _ _ h => h) (by simp) ?hl ?_))
          case HO => exact Kd.Own.lit (d := Kd.int .i64) (xs := [l[j].n]) [.int .i64 l[j].n] (Nat.le_refl _) rfl (by simp [maxLen]) (fun i x hx => by cases i with
            | zero => simp at hx; subst hx; rfl
            | succ i => simp at hx)
          case HY => exact (Kd.S.below ((Below.refl _ w1).alloc (Nat.le_refl _) _) (Kd.Own.S hr)).mono (fun _ _ => trivial)
          case hl => simp only [List.length_append] at hML; omega
          intro v2 w2 hO2 hg2 hat2
          have hb2 : Below wr.heap.size wr w2 := hb1.trans ((((Below.refl _ w1).alloc (Nat.le_refl _) (.cells #[.int .i64 l[j].n] 2)).grown hg2 (by simp) (fun k hk => by simp only [Value.ownBlock] at hk; injection hk; omega)).mono hb1.size)
          have hS2 : (Kd.int .i64).S w2 (fun b => wr.heap.size ≤ b) ([l[j].n] ++ dd (occL l[j].l)) v2 := (Kd.Own.S hO2).mono (fun b hb => by rcases hb with hb | hb; exact hb.elim; have := hb1.size; omega)
          generalize [l[j].n] ++ dd (occL l[j].l) = M at HM hML hS2
          clear hO2 hg2 hat2 hr g0' g2' HV hk1 hb1
          go_wp2_with fail
          have hO2 := Kd.Own.below hb2 hO
          have hbb : Below w.heap.size w w2 := hb.trans (hb2.mono hb.size)
          obtain ⟨A2, c2, rfl, hl2, hc2, hA2⟩ := hS2
          unfold maxLen at hc2
          clear hO hb k4 g0 g2 g3
          obtain ⟨o0, rfl⟩ : ∃ o0, o0 = u3 := ⟨u3, rfl⟩
          obtain ⟨wo, rfl⟩ : ∃ wo : World, wo = wr := ⟨_, rfl⟩
          go_loopw [3, 6] (fun o i wq => ∃ j2 : Nat, j2 ≤ M.length ∧ i = .int .i64 j2 ∧ (Kd.int .i64).Own 2 wq w.heap.size (fun _ => False) ((M.take j2).foldl addNew (dd (occL (l.take j)))) o ∧ Below w.heap.size w wq ∧ Keeps (fun b => some b = o0.ownBlock) w2 wq ∧ Hid (∀ k, o.ownBlock = some k → some k = o0.ownBlock ∨ w2.heap.size ≤ k)) (fun _ i _ => M.length - (intOf i).toNat)
          case atStart => exact ⟨0, Nat.zero_le _, rfl, by simpa using hO2, hbb, Keeps.refl _ _, Lib.hid (fun k hk => .inl hk.symm)⟩
          case round =>
            obtain ⟨j2, hj2, rfl, hO3, hb3, hk3, hat3⟩ := hrel
            by_cases hlt2 : j2 < M.length
            · obtain ⟨b2, o2, rfl, hok2, hlo2, m0⟩ := int_elem hA2 hlt2
              have hne2 : ¬ some b2 = o0.ownBlock := fun he => by have := hu3 b2 he.symm; omega
              have m1 := hk3.cell m0 hne2
              have HI := Lib.hid (In_c _ M[j2] u3 wr _ (Kd.Own.S hO3))
              have hbq := hb3.size
              clear hA2 m0
              by_cases hm : M[j2] ∈ (M.take j2).foldl addNew (dd (occL (l.take j)))
              · have hst : Hid ((M.take (j2 + 1)).foldl addNew (dd (occL (l.take j))) = (M.take j2).foldl addNew (dd (occL (l.take j)))) := Lib.hid (by rw [dd_step _ _ hlt2, addNew, if_pos hm])
                have hmd : decide (M[j2] ∈ (M.take j2).foldl addNew (dd (occL (l.take j)))) = true := by simpa using hm
                clear hm
                go_wp2_with (go_at_call 22; refine HI.out.mono ?_; rintro e w3 ⟨rfl, hb4⟩)
                go_roundw
                case rel => exact ⟨j2 + 1, by omega, by go_num, by rw [hst.out]; exact Kd.Own.below hb4 hO3, below_then hb3 hbq hb4, hk3.then hb4, hat3⟩
                case measure => simp [intOf]; omega
              · have hst : Hid ((M.take (j2 + 1)).foldl addNew (dd (occL (l.take j))) = (M.take j2).foldl addNew (dd (occL (l.take j))) ++ [M[j2]]) := Lib.hid (by rw [dd_step _ _ hlt2, addNew, if_neg hm])
                have hmd : decide (M[j2] ∈ (M.take j2).foldl addNew (dd (occL (l.take j)))) = false := by simpa using hm
                have hfl := foldl_addNew_length (M.take j2) (dd (occL (l.take j)))
                have htk : (M.take j2).length ≤ M.length := by rw [List.length_take]; omega
                clear hm
                go_wp2_with (first | (go_at_call 22; refine HI.out.mono ?_; rintro e w3 ⟨rfl, hb4⟩; have m2 := cell_below hb4 m1 (cell_lt m1)) | (at_builtin; refine Kd.append (Kd.int .i64) (W := w3) w.heap.size (fun _ => False) rfl (.tmp 46) (.tmp 51) 32 2 (.int .i64 0) 8 rfl Try.underlying32 Try.infoI rfl (by decide) u3 ((M.take j2).foldl addNew (dd (occL (l.take j)))) M[j2] [.int .i64 M[j2]] rfl rfl rfl ?HO2 ?hbase2 ?hl2 ?_))
                case HO2 => exact Kd.Own.below hb4 hO3
                case hbase2 => have := hb4.size; omega
                case hl2 => omega
                intro v4 w4 hO4 hg4 hat4
                go_wp2_with fail
                go_roundw
                case rel => exact ⟨j2 + 1, by omega, by go_num, by rw [hst.out]; exact hO4, (below_then hb3 hbq hb4).grown hg4 (by have := hb4.size; omega) (Kd.Own.lt' hO3), (hk3.then hb4).grown hg4 hat3.out, Lib.hid (fun k hk => by
                  rcases hat4 with h4 | ⟨b4, h4, h5⟩
                  · exact hat3.out k (by rw [← h4]; exact hk)
                  · rw [h4] at hk; injection hk with hk; have := hk3.size; have := hb4.size; right; omega)⟩
                case measure => simp [intOf]; omega
            · have hfin : Hid ((M.take j2).foldl addNew (dd (occL (l.take j))) = dd (occL (l.take (j + 1)))) := Lib.hid (by rw [List.take_of_length_le (show M.length ≤ j2 by omega), HM.out])
              clear hA2 HM
              go_wp2_with fail
              go_roundw
              case rel => exact ⟨j + 1, by omega, by go_num, by rw [← hfin.out]; exact hO3, hb3⟩
              case measure => simp [intOf]; omega
        · have HM : Hid ((dd (occL l[j].l)).foldl addNew (dd (occL (l.take j))) = dd (occL (l.take (j + 1)))) := Lib.hid (by
            rw [hocc.out, if_neg hk1, List.nil_append, foldl_dd', ← dd_append])
          have hML : (dd (occL l[j].l)).length ≤ sizL l := by have := HZ.out; omega
          have hk1' : (l[j].k == 1) = false := by simpa using hk1
          clear hocc
          go_wp2_with (go_at_call 30; refine HV.out.mono ?_; rintro e w2 ⟨⟨v2, rfl, hr⟩, hb2⟩; have g0' := cell_below hb2 g0 (Nat.lt_of_lt_of_le hlo hb.size))
          have hS2 : (Kd.int .i64).S w2 (fun b => wr.heap.size ≤ b) (dd (occL l[j].l)) v2 := (Kd.Own.S hr).mono (fun b hb => by rcases hb with hb | hb; exact hb.elim; exact hb)
          generalize dd (occL l[j].l) = M at HM hML hS2
          clear hr g0' HV hk1 hk1'
          have hO2 := Kd.Own.below hb2 hO
          have hbb : Below w.heap.size w w2 := hb.trans (hb2.mono hb.size)
          obtain ⟨A2, c2, rfl, hl2, hc2, hA2⟩ := hS2
          unfold maxLen at hc2
          clear hO hb k4 g0 g2 g3
          obtain ⟨o0, rfl⟩ : ∃ o0, o0 = u3 := ⟨u3, rfl⟩
          obtain ⟨wo, rfl⟩ : ∃ wo : World, wo = wr := ⟨_, rfl⟩
          go_loopw [3, 6] (fun o i wq => ∃ j2 : Nat, j2 ≤ M.length ∧ i = .int .i64 j2 ∧ (Kd.int .i64).Own 2 wq w.heap.size (fun _ => False) ((M.take j2).foldl addNew (dd (occL (l.take j)))) o ∧ Below w.heap.size w wq ∧ Keeps (fun b => some b = o0.ownBlock) w2 wq ∧ Hid (∀ k, o.ownBlock = some k → some k = o0.ownBlock ∨ w2.heap.size ≤ k)) (fun _ i _ => M.length - (intOf i).toNat)
          case atStart => exact ⟨0, Nat.zero_le _, rfl, by simpa using hO2, hbb, Keeps.refl _ _, Lib.hid (fun k hk => .inl hk.symm)⟩
          case round =>
            obtain ⟨j2, hj2, rfl, hO3, hb3, hk3, hat3⟩ := hrel
            by_cases hlt2 : j2 < M.length
            · obtain ⟨b2, o2, rfl, hok2, hlo2, m0⟩ := int_elem hA2 hlt2
              have hne2 : ¬ some b2 = o0.ownBlock := fun he => by have := hu3 b2 he.symm; omega
              have m1 := hk3.cell m0 hne2
              have HI := Lib.hid (In_c _ M[j2] u3 wr _ (Kd.Own.S hO3))
              have hbq := hb3.size
              clear hA2 m0
              by_cases hm : M[j2] ∈ (M.take j2).foldl addNew (dd (occL (l.take j)))
              · have hst : Hid ((M.take (j2 + 1)).foldl addNew (dd (occL (l.take j))) = (M.take j2).foldl addNew (dd (occL (l.take j)))) := Lib.hid (by rw [dd_step _ _ hlt2, addNew, if_pos hm])
                have hmd : decide (M[j2] ∈ (M.take j2).foldl addNew (dd (occL (l.take j)))) = true := by simpa using hm
                clear hm
                go_wp2_with (go_at_call 22; refine HI.out.mono ?_; rintro e w3 ⟨rfl, hb4⟩)
                go_roundw
                case rel => exact ⟨j2 + 1, by omega, by go_num, by rw [hst.out]; exact Kd.Own.below hb4 hO3, below_then hb3 hbq hb4, hk3.then hb4, hat3⟩
                case measure => simp [intOf]; omega
              · have hst : Hid ((M.take (j2 + 1)).foldl addNew (dd (occL (l.take j))) = (M.take j2).foldl addNew (dd (occL (l.take j))) ++ [M[j2]]) := Lib.hid (by rw [dd_step _ _ hlt2, addNew, if_neg hm])
                have hmd : decide (M[j2] ∈ (M.take j2).foldl addNew (dd (occL (l.take j)))) = false := by simpa using hm
                have hfl := foldl_addNew_length (M.take j2) (dd (occL (l.take j)))
                have htk : (M.take j2).length ≤ M.length := by rw [List.length_take]; omega
                clear hm
                go_wp2_with (first | (go_at_call 22; refine HI.out.mono ?_; rintro e w3 ⟨rfl, hb4⟩; have m2 := cell_below hb4 m1 (cell_lt m1)) | (at_builtin; refine Kd.append (Kd.int .i64) (W := w3) w.heap.size (fun _ => False) rfl (.tmp 46) (.tmp 51) 32 2 (.int .i64 0) 8 rfl Try.underlying32 Try.infoI rfl (by decide) u3 ((M.take j2).foldl addNew (dd (occL (l.take j)))) M[j2] [.int .i64 M[j2]] rfl rfl rfl ?HO2 ?hbase2 ?hl2 ?_))
                case HO2 => exact Kd.Own.below hb4 hO3
                case hbase2 => have := hb4.size; omega
                case hl2 => omega
                intro v4 w4 hO4 hg4 hat4
                go_wp2_with fail
                go_roundw
                case rel => exact ⟨j2 + 1, by omega, by go_num, by rw [hst.out]; exact hO4, (below_then hb3 hbq hb4).grown hg4 (by have := hb4.size; omega) (Kd.Own.lt' hO3), (hk3.then hb4).grown hg4 hat3.out, Lib.hid (fun k hk => by
                  rcases hat4 with h4 | ⟨b4, h4, h5⟩
                  · exact hat3.out k (by rw [← h4]; exact hk)
                  · rw [h4] at hk; injection hk with hk; have := hk3.size; have := hb4.size; right; omega)⟩
                case measure => simp [intOf]; omega
            · have hfin : Hid ((M.take j2).foldl addNew (dd (occL (l.take j))) = dd (occL (l.take (j + 1)))) := Lib.hid (by rw [List.take_of_length_le (show M.length ≤ j2 by omega), HM.out])
              clear hA2 HM
              go_wp2_with fail
              go_roundw
              case rel => exact ⟨j + 1, by omega, by go_num, by rw [← hfin.out]; exact hO3, hb3⟩
              case measure => simp [intOf]; omega
      · have hfin : Hid (dd (occL (l.take j)) = dd (occL l)) := Lib.hid (by rw [List.take_of_length_le (by omega)])
        clear hA ih
        go_wp2_with fail
        go_ret
        exact ⟨⟨_, rfl, by rw [← hfin.out]; exact hO⟩, hb⟩
end Go.Proofs.Ytgoeglahmlpmeaa

/- The variables of a list, by the iterator: the walk. Conditions: the arguments read; terms of at most a million nodes. -/
import Derived.Test.YtdflckjnpgbjlaaW8
import Derived.Test.YtdflckjnpgbjlaaW4
set_option linter.unusedVariables false
set_option maxRecDepth 20000
set_option linter.unusedSimpArgs false
namespace Go.Proofs.Ytdflckjnpgbjlaa
open Go.RowKit Go.Shelf
attribute [local go_sem] Oper.semAt_some

set_option maxRecDepth 100000 in
set_option maxHeartbeats 4000000 in
theorem Vars_in (n : Nat) (hn : 3 ≤ n) (l : List Tm) (v : Value) (w : World) (ok : Nat → Prop) (hv : Kd.tm.S w ok l v) (hz : sizL l ≤ 1000000) :
    CallsIn Fence.wide n Try.prog 23 #[v] w fun e w' => (∃ r, e = .returned r ∧ (Kd.int .i64).Own 2 w' w.heap.size (fun _ => False) (dd (occL l)) r) ∧ Below w.heap.size w w' := by
  have h1 : 1 ≤ n := by omega
  have hv0 : Kd.tm.S w (fun b => b < w.heap.size) l v := (Kd.S.bound hv).mono (fun _ h => h.2)
  have hlz := length_le_sizL l
  obtain ⟨A, c, rfl, hl, hc, hA⟩ := hv0
  unfold maxLen at hc
  refine callsIn_of_wp_marks Try.func23 rfl trivial ?_ rfl
  simp only [Try.ntmps23, List.size_toArray, List.length_cons, List.length_nil, Nat.reduceAdd, Nat.reduceSub, Array.replicate_succ, Array.replicate_zero, List.push_toArray, List.append_toArray, List.nil_append, List.cons_append]
  gi_wp2
  refine wpIn_loop (fun a W => ∃ (j : Nat) (ds : List Nat) (o x5 x11 x12 x13 x14 x15 x33 : Value), j ≤ l.length ∧ ds.Nodup ∧ (∀ D ∈ ds, w.heap.size ≤ D ∧ W.heap[D]? = some (.deferred (some []))) ∧ Boxed W w.heap.size 37 o ∧ (Kd.int .i64).Own 2 W w.heap.size (fun _ => False) (dd (occL (l.take j))) o ∧ Below w.heap.size w W ∧
    a = { tmps := #[.slice A l.length c, undef, .slice none 0 0, .pointer (some ⟨w.heap.size, 0, none⟩), undef, x5, undef, undef, .slice A l.length c, .int .i64 l.length, .int .i64 j, x11, x12, x13, x14, x15, undef, undef, undef, undef, undef, undef, undef, undef, undef, undef, undef, undef, undef, undef, undef, undef, undef, x33, undef], defers := ds.map mark })
    (fun a _ => l.length - (intOf (a.tmps.getD 10 undef)).toNat) ?atStart ?round
  case atStart =>
    refine ⟨0, [], .slice none 0 0, undef, undef, undef, undef, undef, undef, undef, Nat.zero_le _, List.nodup_nil, by simp, ?_, ?_, ?_, rfl⟩
    · exact Boxed.new w _ _
    · simpa [occL, dd] using Kd.Own.nil _ _ _ _ _
    · exact (Below.refl _ w).alloc (Nat.le_refl _) _
  case round =>
    rintro a W ⟨j, ds, o, x5, x11, x12, x13, x14, x15, x33, hj, hnd, hds, hbx, hO, hb, rfl⟩
    by_cases hlt : j < l.length
    · obtain ⟨b, oo, u, rfl, hok, hlo, h0, h1', h2, h3, h4⟩ := tm_elem hA hlt
      have g0 := cell_below hb h0 hok
      have g1 := cell_below hb h1' hok
      have g2 := cell_below hb h2 hok
      have g3 := cell_below hb h3 hok
      have k4 := tms_below hb h4
      obtain ⟨Au, cu, rfl⟩ := h4.form
      have hzj := siz_mem (List.getElem_mem hlt)
      have HST : Hid (dd (occL (l.take (j + 1))) = l[j].occ.foldl addNew (dd (occL (l.take j)))) := Lib.hid (by rw [take_succ_at l hlt, occL_append, dd_append]; simp [occL])
      have hoj := Tm.occ_length l[j]
      have hoL := occL_length (l.take j)
      have hdL := dd_length (occL (l.take j))
      have htl : sizL (l.take j) + sizL (l.drop j) = sizL l := by rw [← sizL_append, List.take_append_drop]
      clear hA h0 h1' h2 h3 h4 hv
      generalize l[j] = tj at g0 g1 g2 g3 k4 hzj HST hoj
      obtain ⟨O, hO'⟩ : ∃ O : Obj, O = .cells #[.int .u8 tj.k, .string tj.s, .int .i64 tj.n, .slice Au tj.l.length cu] 24 := ⟨_, rfl⟩
      gi_wp2_with (refine ⟨trivial, ?_⟩; gi_at_call 61; refine (nodes_in (n - 1) _ _ _ _ _ _ _).mono ?_; rintro e w' ⟨rfl, rfl⟩)
      have hs1 : Below w.heap.size w (W.alloc O) := hb.alloc (by have := hb.size; omega) _
      have hs2 : Below w.heap.size w ((W.alloc O).alloc O) := hs1.alloc (by have := hb.size; simp; omega) _
      have hn0 : w.heap.size ≤ ((W.alloc O).alloc O).heap.size := hs2.size
      have hV : TmV ((W.alloc O).alloc O) (fun b => b < w.heap.size) tj (.agg #[.int .u8 tj.k, .string tj.s, .int .i64 tj.n, .slice Au tj.l.length cu]) := ⟨_, rfl, Kd.S.below (((Below.refl _ W).alloc (Nat.le_refl _) O).alloc (by simp) O) k4⟩
      have hbx2 : Boxed ((W.alloc O).alloc O) w.heap.size 37 o := (hbx.alloc O).alloc O
      have hO2 := Kd.Own.below (((Below.refl _ W).alloc (Nat.le_refl _) O).alloc (by simp) O) hO
      have hBt : ((W.alloc O).alloc O).heap[W.heap.size + 1]? = some O := by simpa using heap_new (W.alloc O) O
      have hds2 : ∀ D ∈ ds, w.heap.size ≤ D ∧ D < ((W.alloc O).alloc O).heap.size ∧ ((W.alloc O).alloc O).heap[D]? = some (.deferred (some [])) := fun D hD => by
        obtain ⟨q1, q2⟩ := hds D hD
        have hlt := (Array.getElem?_eq_some_iff.1 q2).1
        refine ⟨q1, by simp; omega, ?_⟩
        exact (Below.heap_alloc _ _ _ (by simp; omega)).trans ((Below.heap_alloc _ _ _ hlt).trans q2)
      have hsz : ((W.alloc O).alloc O).heap.size = W.heap.size + 2 := by simp
      subst hO'
      generalize hW2 : ((W.alloc _).alloc _) = W2 at hs2 hn0 hV hbx2 hO2 hBt hds2 hsz ⊢
      clear hW2 hs1 k4 g0 g1 g2 g3 hbx hO hb
      have hwW : w.heap.size < W2.heap.size := by have := hbx2.lt; exact this
      refine wpIn_rangeFunc_ownH rfl h1 (gf := 100) (lb := #[.pointer (some ⟨W.heap.size + 1, 0, none⟩)]) rfl trivial (enters_of Try.func100 (by kernel_rfl) rfl)
        (nodes1_stops (n - 1) w.heap.size (W.heap.size + 1) tj _ _ hn0 hV (by omega) (fun A' c' he => by
          injection he with he
          have := congrArg (fun a => a[3]?) he
          simp only [List.getElem?_toArray, List.getElem?_cons_succ, List.getElem?_cons_zero, Option.some.injEq, Value.slice.injEq] at this
          obtain ⟨rfl, -, rfl⟩ := this
          exact hBt)) (fun h k => h.trans k) (KpT.put hn0) (Below.refl _ _) (fun _ => rfl)
        (fun pre W => (∃ o, Boxed W w.heap.size 37 o ∧ (Kd.int .i64).Own 2 W w.heap.size (fun _ => False) ((nums (pre.map Nd.p)).foldl addNew (dd (occL (l.take j)))) o) ∧ Below w.heap.size w W ∧ ∀ D ∈ ds, w.heap.size ≤ D ∧ D < W2.heap.size ∧ W.heap[D]? = some (.deferred (some [])))
        (fun _ _ _ => False)
        (OwnFrom.and (fun s X Y row ⟨o, hb, ho⟩ hg hr => ⟨o, (Own.from (boxed_own w.heap.size 37 (fun _ : List Nd => o)) _) s X Y row hb hg hr, (own_from (fun _ h => h.elim) (fun pre : List Nd => (nums (pre.map Nd.p)).foldl addNew (dd (occL (l.take j)))) (fun _ => o)) s X Y row ho hg hr⟩)
          (OwnFrom.and (ownFrom_below (Nat.le_refl _) (by omega)) (fun s X Y row hs hg hr D hD => ⟨(hs D hD).1, (hs D hD).2.1, (hg.block D (Array.getElem?_eq_some_iff.1 (hs D hD).2.2).1 (fun e => by have := (hr D e.symm).1; have := (hs D hD).2.1; omega)).trans (hs D hD).2.2⟩)))
        (fun _ _ _ _ _ hs _ _ => hs)
        ⟨⟨o, hbx2, hO2⟩, hs2, hds2⟩
        (fun x a' W' => ∃ Bt, W'.heap[Bt]? = some (.cells #[.int .u8 x.t.k, .string x.t.s, .int .i64 x.t.n, .slice x.A x.t.l.length x.c] 24 (0, 0)) ∧ a' = { tmps := #[.slice (some ⟨b, oo, none⟩) l.length c, undef, .slice none 0 0, .pointer (some ⟨w.heap.size, 0, none⟩), undef, .pointer (some ⟨W.heap.size, 0, none⟩), undef, .pointer (some ⟨Bt, 0, none⟩), .slice (some ⟨b, oo, none⟩) l.length c, .int .i64 l.length, .int .i64 j, .bool true, .pointer (some ⟨b, oo + j * 4, none⟩), .agg #[.int .u8 tj.k, .string tj.s, .int .i64 tj.n, .slice Au tj.l.length cu], .agg #[.int .u8 tj.k, .string tj.s, .int .i64 tj.n, .slice Au tj.l.length cu], .func (.func 100) #[] #[.pointer (some ⟨W.heap.size + 1, 0, none⟩)], .int .i64 x.d, .agg #[.int .u8 x.t.k, .string x.t.s, .int .i64 x.t.n, .slice x.A x.t.l.length x.c], undef, undef, undef, undef, undef, undef, undef, undef, undef, undef, undef, undef, undef, undef, undef, x33, undef], defers := [] })
        ?ax ?assign ?body ?done ?stop
      case ax =>
        rintro x a' s X Y row ⟨Bt, hBt, ha⟩ hg hr
        exact ⟨Bt, (hg.block Bt (Array.getElem?_eq_some_iff.1 hBt).1 (fun e => by obtain ⟨_, o, ho, hc⟩ := hr Bt e.symm; rw [hBt] at ho; cases ho; cases hc)).trans hBt, ha⟩
      case assign =>
        rintro lo pre x W K ⟨⟨o, hbx, hO⟩, hb, hds⟩ hK
        simp [Nd.vals]
        gi_wp2
        exact hK _ _ (KeepsFrom.of_grownBy (World.grownBy_alloc W _ none) (fun _ e => by cases e)) (KpT.of_below ((Below.refl _ W).alloc (Nat.le_refl _) _) hb.size) ⟨⟨o, hbx.alloc _, Kd.Own.below ((Below.refl _ W).alloc (Nat.le_refl _) _) hO⟩, hb.alloc hb.size _, fun D hD => ⟨(hds D hD).1, (hds D hD).2.1, (Below.heap_alloc _ _ _ (Array.getElem?_eq_some_iff.1 (hds D hD).2.2).1).trans (hds D hD).2.2⟩⟩ ⟨_, heap_new W _, rfl⟩
      case body =>
        rintro lo pre x a' W3 hlo' hloop ⟨⟨o, hbx, hO⟩, hb, hds⟩ ⟨Bt, hBx, rfl⟩ hlt'
        have hBw : w.heap.size ≠ Bt := fun e => by
          rw [← e] at hBx
          have h := hbx
          unfold Boxed at h
          rw [h] at hBx
          injection hBx with hBx
          injection hBx with _ hBx
          exact absurd hBx (by decide)
        obtain ⟨c0, c1, c2, c3, -, -, -, -⟩ := box4 hBx
        have hc1 := hbx.cell
        have hf1 := hbx.frozen
        have HI := Lib.hid (Contains_c _ x.t.n o W3 _ (Kd.Own.S hO))
        have hnm : nums ((pre ++ [x]).map Nd.p) = nums (pre.map Nd.p) ++ (if x.t.k = 1 then [x.t.n] else []) := by simp [nums_append, nums, Nd.p]
        by_cases hk1 : x.t.k = 1
        · by_cases hm : x.t.n ∈ (nums (pre.map Nd.p)).foldl addNew (dd (occL (l.take j)))
          · have hst : Hid ((nums ((pre ++ [x]).map Nd.p)).foldl addNew (dd (occL (l.take j))) = (nums (pre.map Nd.p)).foldl addNew (dd (occL (l.take j)))) := Lib.hid (by rw [hnm, if_pos hk1, List.foldl_append, List.foldl_cons, List.foldl_nil, addNew, if_pos hm])
            have hmd : decide (x.t.n ∈ (nums (pre.map Nd.p)).foldl addNew (dd (occL (l.take j)))) = true := by simpa using hm
            clear hm hnm
            gi_wp2_with (refine ⟨trivial, wide_room _, ?_⟩; gi_at_call 62; refine (CallsIn.inRound lo (callsIn_wide.2 HI.out)).mono ?_; rintro e w3 ⟨rfl, hb4⟩)
            exact ⟨KeepsFrom.of_below hb4, KpT.of_below hb4 hb.size, ⟨o, boxed_below hbx hb4, by rw [hst.out]; exact Kd.Own.below hb4 hO⟩, below_then hb hb.size hb4, fun D hD => ⟨(hds D hD).1, (hds D hD).2.1, (KeepsFrom.of_below (B := 0) hb4).same D _ (Nat.zero_le _) (hds D hD).2.2 rfl⟩⟩
          · have hst : Hid ((nums ((pre ++ [x]).map Nd.p)).foldl addNew (dd (occL (l.take j))) = (nums (pre.map Nd.p)).foldl addNew (dd (occL (l.take j))) ++ [x.t.n]) := Lib.hid (by rw [hnm, if_pos hk1, List.foldl_append, List.foldl_cons, List.foldl_nil, addNew, if_neg hm])
            have hmd : decide (x.t.n ∈ (nums (pre.map Nd.p)).foldl addNew (dd (occL (l.take j)))) = false := by simpa using hm
            have hfl := foldl_addNew_length (nums (pre.map Nd.p)) (dd (occL (l.take j)))
            have hnl := nums_length (pre.map Nd.p)
            simp only [List.length_map] at hnl
            clear hm hnm
            gi_wp2_with (first | (refine ⟨trivial, wide_room _, ?_⟩; gi_at_call 62; refine (CallsIn.inRound lo (callsIn_wide.2 HI.out)).mono ?_; rintro e w3 ⟨rfl, hb4⟩; have hbx3 := boxed_below hbx hb4; have hO3 := Kd.Own.below hb4 hO; have hc3 := hbx3.cell; have hf3 := hbx3.frozen; have hBx3 := block_below hb4 (Array.getElem?_eq_some_iff.1 hBx).1 hBx; obtain ⟨d0, d1, d2, d3, -, -, -, -⟩ := box4 hBx3) | (gi_at_builtin; refine Kd.appendIn (Kd.int .i64) (W := w3) w.heap.size (fun _ => False) rfl (.tmp 28) (.tmp 31) 37 2 (.int .i64 0) 8 rfl Try.underlying37 Try.infoI rfl (by decide) o ((nums (pre.map Nd.p)).foldl addNew (dd (occL (l.take j)))) x.t.n [.int .i64 x.t.n] rfl rfl rfl ?HO2 ?hbase2 ?hl2 ?_))
            case HO2 => exact hO3
            case hbase2 => have := hb4.size; have := hb.size; omega
            case hl2 => omega
            intro v1 w1 hO1 hg1 hat1
            have hbx1 : Boxed w1 w.heap.size 37 o := hbx3.kept hg1 (Boxed.ne_own hbx3 hO3 (by decide))
            have hc1' := hbx1.cell
            have hf1' := hbx1.frozen
            obtain ⟨A1, q1, rfl⟩ := Kd.Own.form hO1
            gi_wp2
            have hw3 : w.heap.size ≤ w3.heap.size := Nat.le_trans hb.size hb4.size
            have hb1 : Below w.heap.size w w1 := (below_then hb hb.size hb4).grown hg1 hw3 (Kd.Own.lt' hO3)
            have hkf : ∀ u B, KeepsFrom B W3 (w1.setCell ⟨w.heap.size, 0, none⟩ u) := fun u B => ((KeepsFrom.of_below hb4).trans (hO3.keepsFrom hg1)).trans ((KeepsOthers.setCell _ _ _).from B)
            refine ⟨hkf _ _, ((KpT.of_below hb4 hb.size).trans (hO3.kpT (by decide) (Nat.le_refl _) hw3 hg1)).trans (kpT_set hb1.size hbx1 (by decide) (Nat.le_refl _) _), ⟨.slice A1 ((nums (pre.map Nd.p)).foldl addNew (dd (occL (l.take j))) ++ [x.t.n]).length q1, by simpa using hbx1.set (.slice A1 ((nums (pre.map Nd.p)).foldl addNew (dd (occL (l.take j))) ++ [x.t.n]).length q1), ?_⟩, hb1.setCell (p := ⟨w.heap.size, 0, none⟩) (Nat.le_refl _) _, fun D hD => ⟨(hds D hD).1, (hds D hD).2.1, (hkf _ 0).same D _ (Nat.zero_le _) (hds D hD).2.2 rfl⟩⟩
            rw [hst.out]
            exact Kd.Own.grown (grown_set _ _ _ _) (fun _ h => h.elim) (.inr (Ne.symm (Boxed.ne_own hbx1 hO1 (by decide)))) hO1
        · have hst : Hid ((nums ((pre ++ [x]).map Nd.p)).foldl addNew (dd (occL (l.take j))) = (nums (pre.map Nd.p)).foldl addNew (dd (occL (l.take j)))) := Lib.hid (by rw [hnm, if_neg hk1, List.append_nil])
          have hk1' : (x.t.k == 1) = false := by simpa using hk1
          clear hnm hk1
          gi_wp2_with (refine ⟨trivial, ?_⟩)
          exact ⟨KeepsFrom.refl _ _, KpT.of_below (Below.refl _ _) hb.size, ⟨o, hbx, by rw [hst.out]; exact hO⟩, hb, hds⟩
      case done =>
        rintro D xs W3 hD hxs ⟨⟨o, hbx, hO⟩, hb, hds⟩ hK
        have hres : Hid ((nums (xs.map Nd.p)).foldl addNew (dd (occL (l.take j))) = dd (occL (l.take (j + 1)))) := Lib.hid (by rw [HST.out, hxs, nums_nodes])
        clear hxs
        gi_wp2
        refine ⟨⟨j + 1, D :: ds, o, _, _, _, _, _, _, _, by omega, List.nodup_cons.2 ⟨fun hm => by have := (hds D hm).2.1; omega, hnd⟩, fun E hE => ?_, hbx, by rw [← hres.out]; exact hO, hb, by go_num⟩, ?_⟩
        · rcases List.mem_cons.1 hE with rfl | hE
          · exact ⟨by omega, hK⟩
          · exact ⟨(hds E hE).1, (hds E hE).2.2⟩
        · simp [intOf]; omega
      case stop =>
        rintro D c pre W _ _ h _
        exact h.elim
    · have hfin : Hid (dd (occL (l.take j)) = dd (occL l)) := Lib.hid (by rw [List.take_of_length_le (by omega)])
      have hc1 := hbx.cell
      clear hA hv
      gi_wp2
      refine leaves_marks o (fun w => results_tmp (t := 2) rfl _ _ w) w ds W hnd hds hb (fun w' hb' hk' => ⟨⟨o, rfl, ?_⟩, hb'⟩)
      rw [← hfin.out]
      refine Kd.Own.keeps hk' (fun _ h => h.elim) ?_ hO
      intro k hk hm
      obtain ⟨c, hc⟩ := hO.cells k hk
      rw [(hds k hm).2] at hc
      cases hc
theorem Vars_c (l : List Tm) (v : Value) (w : World) (ok : Nat → Prop) (hv : Kd.tm.S w ok l v) (hz : sizL l ≤ 1000000) :
    Calls Try.prog 23 #[v] w fun e w' => (∃ r, e = .returned r ∧ (Kd.int .i64).Own 2 w' w.heap.size (fun _ => False) (dd (occL l)) r) ∧ Below w.heap.size w w' := callsIn_wide.1 (Vars_in 3 (Nat.le_refl _) l v w ok hv hz)
end Go.Proofs.Ytdflckjnpgbjlaa

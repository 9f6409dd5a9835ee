/- Walks of layer 5: canonical forms, shifts, counts. Conditions: the arguments read; terms of at most a million nodes. -/
import Derived.Test.YtgoeglahmlpmeaaWe
import Derived.Test.YtgoeglahmlpmeaaL1
import Derived.Test.YtgoeglahmlpmeaaM
set_option linter.unusedVariables false
set_option linter.unusedSimpArgs false
namespace Go.Proofs.Ytgoeglahmlpmeaa
open Go.RowKit

/-- What the closure's map holds, behind some numbers. -/
def numMap (pre : List Int) : Int → Option Value := fun k => if k ∈ pre then some (.int .i64 (plc (dd pre) k)) else none
/-- The closure's state: the captured cell, the map. -/
def NumJ (C M : Nat) (pre : List Int) (W : World) : Prop := W.cell? ⟨C, 0, none⟩ = some (.map (some M)) ∧ MapAt W M (numMap pre) (dd pre).length
theorem dd_snoc_new {pre : List Int} {n : Int} (h : n ∉ pre) : dd (pre ++ [n]) = dd pre ++ [n] := by rw [dd_snoc, addNew, if_neg (fun hm => h (dd_mem.1 hm))]
theorem dd_snoc_old {pre : List Int} {n : Int} (h : n ∈ pre) : dd (pre ++ [n]) = dd pre := by rw [dd_snoc, addNew, if_pos (dd_mem.2 h)]
theorem numMap_old {pre : List Int} {n : Int} (h : n ∈ pre) : numMap (pre ++ [n]) = numMap pre := by
  funext k
  unfold numMap
  rw [dd_snoc_old h]
  by_cases hk : k ∈ pre
  · rw [if_pos hk, if_pos (List.mem_append_left _ hk)]
  · rw [if_neg hk, if_neg (fun hm => by rcases List.mem_append.1 hm with hm | hm; exact hk hm; rw [List.mem_singleton] at hm; exact hk (hm ▸ h))]
theorem numMap_new {pre : List Int} {n : Int} (h : n ∉ pre) : numMap (pre ++ [n]) = fun k => if k = n then some (.int .i64 ((dd pre).length : Nat)) else numMap pre k := by
  funext k
  unfold numMap
  rw [dd_snoc_new h]
  by_cases hkn : k = n
  · subst hkn
    rw [if_pos (by simp), if_pos rfl, plc_new (fun hm => h (dd_mem.1 hm))]
  · rw [if_neg hkn]
    by_cases hk : k ∈ pre
    · rw [if_pos hk, if_pos (List.mem_append_left _ hk), plc_append _ (dd_mem.2 hk)]
    · rw [if_neg hk, if_neg (fun hm => by rcases List.mem_append.1 hm with hm | hm; exact hk hm; rw [List.mem_singleton] at hm; exact hkn hm)]
theorem Try.zero64 : ∀ w, (zeroValue 2).run Try.prog w = .ok (.int .i64 0) w := fun w => by kernel_rfl
theorem number_c (C M : Nat) (pre : List Int) (n : Int) (w : World) (hj : NumJ C M pre w) (hn : (Lit.int .i64 n).wf = true) (hl : pre.length ≤ 1000000) :
    Calls Try.prog 67 #[.int .i64 n, .pointer (some ⟨C, 0, none⟩)] w fun e w' => e = .returned (.int .i64 (plc (dd (pre ++ [n])) n)) ∧ NumJ C M (pre ++ [n]) w' ∧ Keeps (fun k => k = M) w w' := by
  obtain ⟨hC, hM⟩ := hj
  have hCM : C ≠ M := fun e => by
    subst e
    obtain ⟨cs, t, f, hb⟩ : ∃ cs t f, w.heap[C]? = some (.cells cs t f) := by
      unfold World.cell? at hC
      simp only at hC
      split at hC
      · exact ⟨_, _, _, by assumption⟩
      · cases hC
    exact hM.not_cells _ _ _ hb
  have hdl := dd_length pre
  by_cases hin : n ∈ pre
  · have hv : numMap pre n = some (.int .i64 (plc (dd pre) n)) := by unfold numMap; rw [if_pos hin]
    have HM := Lib.hid hM
    have HV := Lib.hid hv
    have H1 := Lib.hid (dd_snoc_old hin)
    have H2 := Lib.hid (numMap_old hin)
    clear hv hin hM
    go_enter Try.func67, Try.ntmps67
    go_wp2_with (first
      | (at_lookup; refine MapAt.look_ok HM.out rfl _ _ 68 rfl 2 Try.underlying68 Try.zero64 rfl n hn rfl ?_; rw [HV.out]; simp only [Option.getD_some, Option.isSome_some])
      | (at_lookup; refine MapAt.look HM.out rfl _ _ 68 rfl 2 Try.underlying68 Try.zero64 rfl n hn rfl ?_; rw [HV.out]; simp only [Option.getD_some]))
    go_ret
    exact ⟨by rw [H1.out]; rfl, ⟨hC, by rw [H1.out, H2.out]; exact HM.out⟩, Keeps.refl _ _⟩
  · have hv : numMap pre n = none := by unfold numMap; rw [if_neg hin]
    have HM := Lib.hid hM
    have HV := Lib.hid hv
    have H1 := Lib.hid (dd_snoc_new hin)
    have H2 := Lib.hid (numMap_new hin)
    have H3 := Lib.hid (plc_new (fun hm => hin (dd_mem.1 hm)))
    clear hv hin hM
    go_enter Try.func67, Try.ntmps67
    go_wp2_with (first
      | (at_lookup; refine MapAt.look_ok HM.out rfl _ _ 68 rfl 2 Try.underlying68 Try.zero64 rfl n hn rfl ?_; rw [HV.out]; simp only [Option.getD_none, Option.isSome_none])
      | (at_len; refine MapAt.len HM.out rfl _ 68 rfl 2 Try.underlying68 rfl ?_)
      | (at_mapUpdate; go_loud (refine MapAt.update HM.out rfl _ _ _ 68 rfl 2 Try.underlying68 rfl n hn (.int .i64 ((dd pre).length : Nat)) rfl rfl (by unfold maxLen; omega) HV.out ?_; intro w1 hM1 hg1; have hC1 := World.grownBy.cell hg1 hC (fun e => hCM (by injection e)); rw [← H2.out] at hM1; have HM1 := Lib.hid hM1; clear hM1))
      | (at_lookup; refine MapAt.look HM1.out rfl _ _ 68 rfl 2 Try.underlying68 Try.zero64 rfl n hn rfl ?_; rw [H2.out]; simp only [if_pos, Option.getD_some]))
    go_ret
    exact ⟨by rw [H1.out, H3.out]; rfl, ⟨hC1, by rw [H1.out]; simpa using HM1.out⟩, (Keeps.refl _ _).grown hg1 (fun k hk => .inl (by injection hk with hk; exact hk.symm))⟩

theorem NumJ.same {C M n₀ : Nat} (hC : C < n₀) (hM : M < n₀) (pre : List Int) (W W' : World) (h : NumJ C M pre W) (hs : ∀ k, k < n₀ → W'.heap[k]? = W.heap[k]?) : NumJ C M pre W' :=
  ⟨(cell_of_block (hs C hC) 0).trans h.1, h.2.move (hs M hM)⟩
theorem dd_of_prefix {pre all : List Int} {n : Int} (h : pre ++ [n] <+: all) : plc (dd all) n = plc (dd (pre ++ [n])) n := by
  obtain ⟨r, rfl⟩ := h
  rw [dd_append]
  obtain ⟨q, hq⟩ := foldl_addNew_prefix r (dd (pre ++ [n]))
  rw [hq, plc_append _ (dd_mem.2 (by simp))]
theorem prefix_mem {pre all : List Int} {n : Int} (h : pre ++ [n] <+: all) : n ∈ all := by
  obtain ⟨r, rfl⟩ := h; simp
mutual
theorem occ_wf : ∀ t : Tm, t.Wf → ∀ n ∈ t.occ, (Lit.int .i64 n).wf = true
  | ⟨k, s, q, l⟩, h, n, hn => by
    simp only [Tm.Wf] at h
    simp only [Tm.occ, List.mem_append] at hn
    rcases hn with hn | hn
    · split at hn
      · rw [List.mem_singleton] at hn; subst hn
        simp only [Lit.wf, Bool.and_eq_true, decide_eq_true_eq, IntKind.min, IntKind.max, IntKind.signed, IntKind.bits]
        simpa using h.2.1
      · cases hn
    · exact occL_wf l h.2.2.2 n hn
theorem occL_wf : ∀ l : List Tm, WfL l → ∀ n ∈ occL l, (Lit.int .i64 n).wf = true
  | [], _, n, hn => by simp [occL] at hn
  | t :: ts, h, n, hn => by
    simp only [WfL] at h
    simp only [occL, List.mem_append] at hn
    exact hn.elim (occ_wf t h.1 n) (occL_wf ts h.2 n)
end
/-- The canonical form of a list. -/
def canL (l : List Tm) : List Tm := renL (plc (dd (occL l))) l
set_option maxHeartbeats 1600000 in
theorem Canon_c (l : List Tm) (v : Value) (w : World) (ok : Nat → Prop) (hv : Kd.tm.S w ok l v) (hz : sizL l ≤ 1000000) (hwf : WfL l) :
    Calls Try.prog 41 #[v] w fun e w' => (∃ r, e = .returned r ∧ Kd.tm.Own 26 w' w.heap.size (fun b => w.heap.size ≤ b) (canL l) r) ∧ Below w.heap.size w w' := by
  have hS' := Kd.S.bound hv
  have hll := length_le_sizL l
  have hol := occL_length l
  have HW := Lib.hid (occL_wf l hwf)
  have HT := Lib.hid (turn_c 67 #[.pointer (some ⟨w.heap.size + 1, 0, none⟩)] (enters_of Try.func67 (by kernel_rfl) rfl) (w.heap.size + 2) (fun k => k = w.heap.size) (fun k hk => by omega) (plc (dd (occL l))) (occL l) (NumJ (w.heap.size + 1) w.heap.size)
    (NumJ.same (by omega) (by omega)) (fun pre n W hj hs hp => (number_c _ _ pre n W hj (HW.out n (prefix_mem hp)) (by have := hp.length_le; simp at this; omega)).mono (fun e W' ⟨he, h1, h2⟩ => ⟨by rw [he, dd_of_prefix hp], h1, h2⟩)))
  have hmm := @run_makeMap Try.prog
  obtain ⟨A, c, rfl, hl, hc, hA⟩ := hS'
  unfold maxLen at hc
  have HI := Lib.hid Try.infoT
  clear hv hwf
  go_enter Try.func41, Try.ntmps41
  go_wp2
  go_loopw [5, 12] (fun o i wr => ∃ j : Nat, j ≤ l.length ∧ i = .int .i64 j ∧ Kd.tm.Own 26 wr (w.heap.size + 2) (fun b => w.heap.size + 2 ≤ b) (renL (plc (dd (occL l))) (l.take j)) o ∧ NumJ (w.heap.size + 1) w.heap.size (occL (l.take j)) wr ∧ Below w.heap.size w wr ∧ w.heap.size + 2 ≤ wr.heap.size) (fun _ i _ => l.length - (intOf i).toNat)
  case atStart =>
    have hst : Below w.heap.size w ((w.alloc (.map #[] 0)).alloc (.cells #[.map (some w.heap.size)] 68)) := ((Below.refl _ w).alloc (Nat.le_refl _) _).alloc (by simp) _
    refine ⟨0, Nat.zero_le _, rfl, by simpa [renL] using Kd.Own.nil _ _ _ _ _, ⟨?_, ?_⟩, hst, by simp⟩
    · have h1 := heap_new (w.alloc (.map #[] 0)) (.cells #[.map (some w.heap.size)] 68)
      rw [World.size_alloc] at h1
      unfold World.cell?
      simp only [h1]
      rfl
    · have e1 : numMap (occL (l.take 0)) = fun _ => none := by funext k; simp [numMap, occL]
      rw [e1]
      exact (MapAt.made w).move (Below.heap_alloc _ _ _ (by simp))
  case round =>
    obtain ⟨j, hj', rfl, hOr, hJr, hbr, hns⟩ := hrel
    by_cases hlt : j < l.length
    · obtain ⟨b, o, u, rfl, hokb, hlo, h0, h1, h2, h3, h4⟩ := tm_elem hA hlt
      have g0 := cell_below hbr h0 hlo
      have g1 := cell_below hbr h1 hlo
      have g2 := cell_below hbr h2 hlo
      have g3 := cell_below hbr h3 hlo
      have k4 : Kd.tm.S wr (fun k => k < w.heap.size) l[j].l u := ((Kd.S.bound h4).mono (fun _ h => h.2)).move (fun k hk => hbr.block k hk)
      obtain ⟨Au, cu, rfl⟩ := k4.form
      have hsj := siz_mem (List.getElem_mem hlt)
      have hrl := renL_length (plc (dd (occL l))) (l.take j)
      have htl : (l.take j).length = j := by rw [List.length_take]; omega
      have HI' := Lib.hid (HT.out l[j] (.agg #[.int .u8 l[j].k, .string l[j].s, .int .i64 l[j].n, .slice Au l[j].l.length cu]) (occL (l.take j)) (wr.alloc (.cells #[.int .u8 l[j].k, .string l[j].s, .int .i64 l[j].n, .slice Au l[j].l.length cu] 26)) (fun b => b < w.heap.size)
        ⟨_, rfl, k4.below ((Below.refl _ wr).alloc (Nat.le_refl _) _)⟩ (fun k hk => by omega) (NumJ.same (n₀ := w.heap.size + 2) (by omega) (by omega) _ _ _ hJr (fun k hk => Below.heap_alloc _ _ _ (by omega))) (by simp; omega)
        (by
          refine ⟨occL (l.drop (j + 1)), ?_⟩
          conv => rhs; rw [← List.take_append_drop (j + 1) l, take_succ_at l hlt]
          rw [occL_append, occL_append]; simp [occL]) (by omega))
      have HST : Hid (renL (plc (dd (occL l))) (l.take (j + 1)) = renL (plc (dd (occL l))) (l.take j) ++ [(l[j]).ren (plc (dd (occL l)))]) := Lib.hid (by rw [take_succ_at l hlt, renL_snoc])
      have HSO : Hid (occL (l.take (j + 1)) = occL (l.take j) ++ (l[j]).occ) := Lib.hid (by rw [take_succ_at l hlt, occL_append]; simp [occL])
      have HLT := Lib.hid (Kd.Own.lt hOr)
      have HO := Lib.hid hOr
      have HB := Lib.hid hbr
      generalize l[j] = q at g0 g1 g2 g3 HI' HST HSO hsj
      obtain ⟨qk, qs, qn, ql⟩ := q
      simp only [Tm.ren] at HI' HST
      obtain ⟨qn', hqn⟩ : ∃ x, x = (if qk = 1 then plc (dd (occL l)) qn else qn) := ⟨_, rfl⟩
      rw [← hqn] at HI' HST
      generalize plc (dd (occL l)) = f at HI' HST hrl HO HLT ⊢
      clear hqn hA h0 h1 h2 h3 h4 k4 hOr hJr hbr HT HW hmm
      go_wp2_with (first
        | (at_builtin; go_loud (refine Kd.append Kd.tm (W := W5) (w.heap.size + 2) (fun b => w.heap.size + 2 ≤ b) rfl (.tmp 16) (.tmp 20) 22 26 (.agg #[.int .u8 0, .string ⟨#[]⟩, .int .i64 0, .slice none 0 0]) 56 rfl Try.underlying22 Try.infoT rfl (by decide) u5 (renL f (l.take j)) ⟨qk, qs, qn', renL f ql⟩ [.int .u8 qk, .string qs, .int .i64 qn', .slice rA (renL f ql).length rc] rfl rfl ?hy ?HO2 ?hbase2 ?hl2 ?_))
        | (refine HI'.out.mono ?_; clear HI'; rintro e W5 ⟨⟨r, rfl, ru, rfl, hru⟩, hJ5, hk5⟩; obtain ⟨rA, rc, rfl⟩ := hru.form; have hs5 := hk5.size; rw [World.size_alloc] at hs5))
      case hy => exact TmK_iff.2 ⟨_, rfl, hru.mono (fun b hb => ⟨by simp at hb; omega, fun he => by have := (HLT.out b he.symm).2; simp at hb; omega⟩)⟩
      case HO2 => exact Kd.Own.keeps (hk5) (fun k hk h => by omega) (fun k hk h => by have := (HLT.out k hk).1; omega) (Kd.Own.below ((Below.refl _ wr).alloc (Nat.le_refl _) _) HO.out)
      case hbase2 => omega
      case hl2 => rw [hrl, htl]; omega
      intro v1 w1 hO1 hg1 hat1
      go_wp2_with fail
      have hne : ∀ k, k < w.heap.size + 2 → some k ≠ Value.ownBlock u5 := fun k hk he => by have := (HLT.out k he.symm).1; omega
      go_roundw
      case rel => exact ⟨j + 1, by omega, by go_num, by rw [HST.out]; exact hO1, by rw [HSO.out]; exact NumJ.same (n₀ := w.heap.size + 2) (by omega) (by omega) _ W5 w1 hJ5 (fun k hk => hg1.block k (by omega) (hne k (by omega))),
        (Keeps.below ((((Keeps.of_below HB.out).alloc _).trans (hk5.mono (fun i h => .inr (by omega)))).grown (hg1) (fun k hk => .inr (by have := (HLT.out k hk).1; omega)))), by have := hg1.size; omega⟩
      case measure => simp [intOf]; omega
    · have HF : Hid (l.take j = l) := Lib.hid (List.take_of_length_le (by omega))
      rw [HF.out] at hOr
      have HO := Lib.hid hOr
      have HB := Lib.hid hbr
      clear hA hOr hJr hbr HT HW hmm
      go_wp2_with fail
      go_ret
      exact ⟨⟨_, rfl, (HO.out.lower (by omega)).mono (fun b hb => by omega)⟩, HB.out⟩
end Go.Proofs.Ytgoeglahmlpmeaa

/- Walks of layer 5: canonical forms, shifts, counts. Walks of layer 5: variants, shifts, counts; the law's own canonical form. Plain laws of layer 5: what shifts and canonical forms count. No condition. Conditions: the arguments read; terms of at most a million nodes, where a statement says so. -/
import Derived.Test.YtdflckjnpgbjlaaWe
import Derived.Test.YtdflckjnpgbjlaaL1
import Derived.Test.YtdflckjnpgbjlaaM
set_option linter.unusedVariables false
set_option maxRecDepth 20000
set_option linter.unusedSimpArgs false
namespace Go.Proofs.Ytdflckjnpgbjlaa
open Go.RowKit

/-- What the closure's map holds, behind some numbers. -/
def numMap (pre : List Int) : Int → Option Value := fun k => if k ∈ pre then some (.int .i64 (plc (dd pre) k)) else none
/-- The closure's state: the captured cell, the map. -/
def NumJ (C M : Nat) (pre : List Int) (W : World) : Prop := W.cell? ⟨C, 0, none⟩ = some (.map (some M)) ∧ MapAt W M (numMap pre) (dd pre).length
theorem dd_snoc_new {pre : List Int} {n : Int} (h : n ∉ pre) : dd (pre ++ [n]) = dd pre ++ [n] := by rw [dd_snoc, addNew, if_neg (fun hm => h (dd_mem.1 hm))]
theorem dd_snoc_old {pre : List Int} {n : Int} (h : n ∈ pre) : dd (pre ++ [n]) = dd pre := by rw [dd_snoc, addNew, if_pos (dd_mem.2 h)]
theorem numMap_old {pre : List Int} {n : Int} (h : n ∈ pre) : numMap (pre ++ [n]) = numMap pre := by
  funext k
  unfold numMap
  rw [dd_snoc_old h]
  by_cases hk : k ∈ pre
  · rw [if_pos hk, if_pos (List.mem_append_left _ hk)]
  · rw [if_neg hk, if_neg (fun hm => by rcases List.mem_append.1 hm with hm | hm; exact hk hm; rw [List.mem_singleton] at hm; exact hk (hm ▸ h))]
theorem numMap_new {pre : List Int} {n : Int} (h : n ∉ pre) : numMap (pre ++ [n]) = fun k => if k = n then some (.int .i64 ((dd pre).length : Nat)) else numMap pre k := by
  funext k
  unfold numMap
  rw [dd_snoc_new h]
  by_cases hkn : k = n
  · subst hkn
    rw [if_pos (by simp), if_pos rfl, plc_new (fun hm => h (dd_mem.1 hm))]
  · rw [if_neg hkn]
    by_cases hk : k ∈ pre
    · rw [if_pos hk, if_pos (List.mem_append_left _ hk), plc_append _ (dd_mem.2 hk)]
    · rw [if_neg hk, if_neg (fun hm => by rcases List.mem_append.1 hm with hm | hm; exact hk hm; rw [List.mem_singleton] at hm; exact hkn hm)]
theorem Try.zero64 : ∀ w, (zeroValue 2).run Try.prog w = .ok (.int .i64 0) w := fun w => by kernel_rfl
theorem number_c (C M : Nat) (pre : List Int) (n : Int) (w : World) (hj : NumJ C M pre w) (hn : (Lit.int .i64 n).wf = true) (hl : pre.length ≤ 1000000) :
    Calls Try.prog 68 #[.int .i64 n, .pointer (some ⟨C, 0, none⟩)] w fun e w' => e = .returned (.int .i64 (plc (dd (pre ++ [n])) n)) ∧ NumJ C M (pre ++ [n]) w' ∧ Keeps (fun k => k = M) w w' := by
  obtain ⟨hC, hM⟩ := hj
  have hCM : C ≠ M := fun e => by
    subst e
    obtain ⟨cs, t, f, hb⟩ : ∃ cs t f, w.heap[C]? = some (.cells cs t f) := by
      unfold World.cell? at hC
      simp only at hC
      split at hC
      · exact ⟨_, _, _, by assumption⟩
      · cases hC
    exact hM.not_cells _ _ _ hb
  have hdl := dd_length pre
  by_cases hin : n ∈ pre
  · have hv : numMap pre n = some (.int .i64 (plc (dd pre) n)) := by unfold numMap; rw [if_pos hin]
    have HM := Lib.hid hM
    have HV := Lib.hid hv
    have H1 := Lib.hid (dd_snoc_old hin)
    have H2 := Lib.hid (numMap_old hin)
    clear hv hin hM
    go_enter Try.func68, Try.ntmps68
    go_wp2_with (first
      | (at_lookup; refine MapAt.look_ok HM.out rfl _ _ 114 rfl 2 Try.underlying114 Try.zero64 rfl n hn rfl ?_; rw [HV.out]; simp only [Option.getD_some, Option.isSome_some])
      | (at_lookup; refine MapAt.look HM.out rfl _ _ 114 rfl 2 Try.underlying114 Try.zero64 rfl n hn rfl ?_; rw [HV.out]; simp only [Option.getD_some]))
    go_ret
    exact ⟨by rw [H1.out]; rfl, ⟨hC, by rw [H1.out, H2.out]; exact HM.out⟩, Keeps.refl _ _⟩
  · have hv : numMap pre n = none := by unfold numMap; rw [if_neg hin]
    have HM := Lib.hid hM
    have HV := Lib.hid hv
    have H1 := Lib.hid (dd_snoc_new hin)
    have H2 := Lib.hid (numMap_new hin)
    have H3 := Lib.hid (plc_new (fun hm => hin (dd_mem.1 hm)))
    clear hv hin hM
    go_enter Try.func68, Try.ntmps68
    go_wp2_with (first
      | (at_lookup; refine MapAt.look_ok HM.out rfl _ _ 114 rfl 2 Try.underlying114 Try.zero64 rfl n hn rfl ?_; rw [HV.out]; simp only [Option.getD_none, Option.isSome_none])
      | (at_len; refine MapAt.len HM.out rfl _ 114 rfl 2 Try.underlying114 rfl ?_)
      | (at_mapUpdate; go_loud (refine MapAt.update HM.out rfl _ _ _ 114 rfl 2 Try.underlying114 rfl n hn (.int .i64 ((dd pre).length : Nat)) rfl rfl (by unfold maxLen; omega) HV.out ?_; intro w1 hM1 hg1; have hC1 := World.grownBy.cell hg1 hC (fun e => hCM (by injection e)); rw [← H2.out] at hM1; have HM1 := Lib.hid hM1; clear hM1))
      | (at_lookup; refine MapAt.look HM1.out rfl _ _ 114 rfl 2 Try.underlying114 Try.zero64 rfl n hn rfl ?_; rw [H2.out]; simp only [if_pos, Option.getD_some]))
    go_ret
    exact ⟨by rw [H1.out, H3.out]; rfl, ⟨hC1, by rw [H1.out]; simpa using HM1.out⟩, (Keeps.refl _ _).grown hg1 (fun k hk => .inl (by injection hk with hk; exact hk.symm))⟩

theorem NumJ.same {C M n₀ : Nat} (hC : C < n₀) (hM : M < n₀) (pre : List Int) (W W' : World) (h : NumJ C M pre W) (hs : ∀ k, k < n₀ → W'.heap[k]? = W.heap[k]?) : NumJ C M pre W' :=
  ⟨(cell_of_block (hs C hC) 0).trans h.1, h.2.move (hs M hM)⟩
theorem dd_of_prefix {pre all : List Int} {n : Int} (h : pre ++ [n] <+: all) : plc (dd all) n = plc (dd (pre ++ [n])) n := by
  obtain ⟨r, rfl⟩ := h
  rw [dd_append]
  obtain ⟨q, hq⟩ := foldl_addNew_prefix r (dd (pre ++ [n]))
  rw [hq, plc_append _ (dd_mem.2 (by simp))]
theorem prefix_mem {pre all : List Int} {n : Int} (h : pre ++ [n] <+: all) : n ∈ all := by
  obtain ⟨r, rfl⟩ := h; simp
mutual
theorem occ_wf : ∀ t : Tm, t.Wf → ∀ n ∈ t.occ, (Lit.int .i64 n).wf = true
  | ⟨k, s, q, l⟩, h, n, hn => by
    simp only [Tm.Wf] at h
    simp only [Tm.occ, List.mem_append] at hn
    rcases hn with hn | hn
    · split at hn
      · rw [List.mem_singleton] at hn; subst hn
        simp only [Lit.wf, Bool.and_eq_true, decide_eq_true_eq, IntKind.min, IntKind.max, IntKind.signed, IntKind.bits]
        simpa using h.2.1
      · cases hn
    · exact occL_wf l h.2.2.2 n hn
theorem occL_wf : ∀ l : List Tm, WfL l → ∀ n ∈ occL l, (Lit.int .i64 n).wf = true
  | [], _, n, hn => by simp [occL] at hn
  | t :: ts, h, n, hn => by
    simp only [WfL] at h
    simp only [occL, List.mem_append] at hn
    exact hn.elim (occ_wf t h.1 n) (occL_wf ts h.2 n)
end
/-- The canonical form of a list. -/
def canL (l : List Tm) : List Tm := renL (plc (dd (occL l))) l
set_option maxHeartbeats 1600000 in
theorem Canon_c (l : List Tm) (v : Value) (w : World) (ok : Nat → Prop) (hv : Kd.tm.S w ok l v) (hz : sizL l ≤ 1000000) (hwf : WfL l) :
    Calls Try.prog 31 #[v] w fun e w' => (∃ r, e = .returned r ∧ Kd.tm.Own 24 w' w.heap.size (fun b => w.heap.size ≤ b) (canL l) r) ∧ Below w.heap.size w w' := by
  have hS' := Kd.S.bound hv
  have hll := length_le_sizL l
  have hol := occL_length l
  have HW := Lib.hid (occL_wf l hwf)
  have HT := Lib.hid (turn_c 68 #[.pointer (some ⟨w.heap.size + 1, 0, none⟩)] (enters_of Try.func68 (by kernel_rfl) rfl) (w.heap.size + 2) (fun k => k = w.heap.size) (fun k hk => by omega) (plc (dd (occL l))) (occL l) (NumJ (w.heap.size + 1) w.heap.size)
    (NumJ.same (by omega) (by omega)) (fun pre n W hj hs hp => (number_c _ _ pre n W hj (HW.out n (prefix_mem hp)) (by have := hp.length_le; simp at this; omega)).mono (fun e W' ⟨he, h1, h2⟩ => ⟨by rw [he, dd_of_prefix hp], h1, h2⟩)))
  have hmm := @run_makeMap Try.prog
  obtain ⟨A, c, rfl, hl, hc, hA⟩ := hS'
  unfold maxLen at hc
  have HI := Lib.hid Try.infoT
  clear hv hwf
  go_enter Try.func31, Try.ntmps31
  go_wp2
  go_loopw [5, 12] (fun o i wr => ∃ j : Nat, j ≤ l.length ∧ i = .int .i64 j ∧ Kd.tm.Own 24 wr (w.heap.size + 2) (fun b => w.heap.size + 2 ≤ b) (renL (plc (dd (occL l))) (l.take j)) o ∧ NumJ (w.heap.size + 1) w.heap.size (occL (l.take j)) wr ∧ Below w.heap.size w wr ∧ w.heap.size + 2 ≤ wr.heap.size) (fun _ i _ => l.length - (intOf i).toNat)
  case atStart =>
    have hst : Below w.heap.size w ((w.alloc (.map #[] 0)).alloc (.cells #[.map (some w.heap.size)] 114)) := ((Below.refl _ w).alloc (Nat.le_refl _) _).alloc (by simp) _
    refine ⟨0, Nat.zero_le _, rfl, by simpa [renL] using Kd.Own.nil _ _ _ _ _, ⟨?_, ?_⟩, hst, by simp⟩
    · have h1 := heap_new (w.alloc (.map #[] 0)) (.cells #[.map (some w.heap.size)] 114)
      rw [World.size_alloc] at h1
      unfold World.cell?
      simp only [h1]
      rfl
    · have e1 : numMap (occL (l.take 0)) = fun _ => none := by funext k; simp [numMap, occL]
      rw [e1]
      exact (MapAt.made w).move (Below.heap_alloc _ _ _ (by simp))
  case round =>
    obtain ⟨j, hj', rfl, hOr, hJr, hbr, hns⟩ := hrel
    by_cases hlt : j < l.length
    · obtain ⟨b, o, u, rfl, hokb, hlo, h0, h1, h2, h3, h4⟩ := tm_elem hA hlt
      have g0 := cell_below hbr h0 hlo
      have g1 := cell_below hbr h1 hlo
      have g2 := cell_below hbr h2 hlo
      have g3 := cell_below hbr h3 hlo
      have k4 : Kd.tm.S wr (fun k => k < w.heap.size) l[j].l u := ((Kd.S.bound h4).mono (fun _ h => h.2)).move (fun k hk => hbr.block k hk)
      obtain ⟨Au, cu, rfl⟩ := k4.form
      have hsj := siz_mem (List.getElem_mem hlt)
      have hrl := renL_length (plc (dd (occL l))) (l.take j)
      have htl : (l.take j).length = j := by rw [List.length_take]; omega
      have HI' := Lib.hid (HT.out l[j] (.agg #[.int .u8 l[j].k, .string l[j].s, .int .i64 l[j].n, .slice Au l[j].l.length cu]) (occL (l.take j)) (wr.alloc (.cells #[.int .u8 l[j].k, .string l[j].s, .int .i64 l[j].n, .slice Au l[j].l.length cu] 24)) (fun b => b < w.heap.size)
        ⟨_, rfl, k4.below ((Below.refl _ wr).alloc (Nat.le_refl _) _)⟩ (fun k hk => by omega) (NumJ.same (n₀ := w.heap.size + 2) (by omega) (by omega) _ _ _ hJr (fun k hk => Below.heap_alloc _ _ _ (by omega))) (by simp; omega)
        (by
          refine ⟨occL (l.drop (j + 1)), ?_⟩
          conv => rhs; rw [← List.take_append_drop (j + 1) l, take_succ_at l hlt]
          rw [occL_append, occL_append]; simp [occL]) (by omega))
      have HST : Hid (renL (plc (dd (occL l))) (l.take (j + 1)) = renL (plc (dd (occL l))) (l.take j) ++ [(l[j]).ren (plc (dd (occL l)))]) := Lib.hid (by rw [take_succ_at l hlt, renL_snoc])
      have HSO : Hid (occL (l.take (j + 1)) = occL (l.take j) ++ (l[j]).occ) := Lib.hid (by rw [take_succ_at l hlt, occL_append]; simp [occL])
      have HLT := Lib.hid (Kd.Own.lt hOr)
      have HO := Lib.hid hOr
      have HB := Lib.hid hbr
      generalize l[j] = q at g0 g1 g2 g3 HI' HST HSO hsj
      obtain ⟨qk, qs, qn, ql⟩ := q
      simp only [Tm.ren] at HI' HST
      obtain ⟨qn', hqn⟩ : ∃ x, x = (if qk = 1 then plc (dd (occL l)) qn else qn) := ⟨_, rfl⟩
      rw [← hqn] at HI' HST
      generalize plc (dd (occL l)) = f at HI' HST hrl HO HLT ⊢
      clear hqn hA h0 h1 h2 h3 h4 k4 hOr hJr hbr HT HW hmm
      go_wp2_with (first
        | (at_builtin; go_loud (refine Kd.append Kd.tm (W := W5) (w.heap.size + 2) (fun b => w.heap.size + 2 ≤ b) rfl (.tmp 16) (.tmp 20) 22 24 (.agg #[.int .u8 0, .string ⟨#[]⟩, .int .i64 0, .slice none 0 0]) 56 rfl Try.underlying22 Try.infoT rfl (by decide) u5 (renL f (l.take j)) ⟨qk, qs, qn', renL f ql⟩ [.int .u8 qk, .string qs, .int .i64 qn', .slice rA (renL f ql).length rc] rfl rfl ?hy ?HO2 ?hbase2 ?hl2 ?_))
        | (refine HI'.out.mono ?_; clear HI'; rintro e W5 ⟨⟨r, rfl, ru, rfl, hru⟩, hJ5, hk5⟩; obtain ⟨rA, rc, rfl⟩ := hru.form; have hs5 := hk5.size; rw [World.size_alloc] at hs5))
      case hy => exact TmK_iff.2 ⟨_, rfl, hru.mono (fun b hb => ⟨by simp at hb; omega, fun he => by have := (HLT.out b he.symm).2; simp at hb; omega⟩)⟩
      case HO2 => exact Kd.Own.keeps (hk5) (fun k hk h => by omega) (fun k hk h => by have := (HLT.out k hk).1; omega) (Kd.Own.below ((Below.refl _ wr).alloc (Nat.le_refl _) _) HO.out)
      case hbase2 => omega
      case hl2 => rw [hrl, htl]; omega
      intro v1 w1 hO1 hg1 hat1
      go_wp2_with fail
      have hne : ∀ k, k < w.heap.size + 2 → some k ≠ Value.ownBlock u5 := fun k hk he => by have := (HLT.out k he.symm).1; omega
      go_roundw
      case rel => exact ⟨j + 1, by omega, by go_num, by rw [HST.out]; exact hO1, by rw [HSO.out]; exact NumJ.same (n₀ := w.heap.size + 2) (by omega) (by omega) _ W5 w1 hJ5 (fun k hk => hg1.block k (by omega) (hne k (by omega))),
        (Keeps.below ((((Keeps.of_below HB.out).alloc _).trans (hk5.mono (fun i h => .inr (by omega)))).grown (hg1) (fun k hk => .inr (by have := (HLT.out k hk).1; omega)))), by have := hg1.size; omega⟩
      case measure => simp [intOf]; omega
    · have HF : Hid (l.take j = l) := Lib.hid (List.take_of_length_le (by omega))
      rw [HF.out] at hOr
      have HO := Lib.hid hOr
      have HB := Lib.hid hbr
      clear hA hOr hJr hbr HT HW hmm
      go_wp2_with fail
      go_ret
      exact ⟨⟨_, rfl, (HO.out.lower (by omega)).mono (fun b hb => by omega)⟩, HB.out⟩

open Go.RowKit

theorem Variants_c (a b : List Tm) (v v' : Value) (w : World) (ok ok' : Nat → Prop) (hv : Kd.tm.S w ok a v) (hv' : Kd.tm.S w ok' b v') (hz : sizL a ≤ 1000000) (hz' : sizL b ≤ 1000000) (hwf : WfL a) (hwf' : WfL b) :
    Calls Try.prog 33 #[v, v'] w fun e w' => e = .returned (.bool (eqbL (canL a) (canL b))) ∧ Below w.heap.size w w' := by
  have HA := Lib.hid (Canon_c a v w ok hv hz hwf)
  have HB := Lib.hid (fun W (hW : Below w.heap.size w W) => Canon_c b v' W ok' (hv'.below hW) hz' hwf')
  obtain ⟨A, c, rfl⟩ := hv.form
  obtain ⟨A', c', rfl⟩ := hv'.form
  clear hv hv'
  go_enter Try.func33, Try.ntmps33
  go_wp2_with (first
    | (go_at_call 31; refine HA.out.mono ?_; clear HA; rintro e w1 ⟨⟨r, rfl, hr⟩, hb1⟩)
    | (go_at_call 31; refine (HB.out _ hb1).mono ?_; clear HB; rintro e w2 ⟨⟨q, rfl, hq⟩, hb2⟩)
    | (go_at_call 71; refine (EqF_of (canL a) (fun t _ => tSame_c t) (canL b) _ _ _ _ _ (Kd.Own.S (Kd.Own.below hb2 hr)) (Kd.Own.S hq)).mono ?_; rintro e w3 ⟨rfl, hb3⟩))
  go_ret
  exact ⟨rfl, below_then (below_then hb1 hb1.size hb2) (Nat.le_trans hb1.size hb2.size) hb3⟩

theorem cell_of_cells {W : World} {B o : Nat} {c : Array Value} {t : TypeId} {v : Value} (h : W.heap[B]? = some (.cells c t (0, 0))) (hv : c[o]? = some v) : W.cell? ⟨B, o, none⟩ = some v := by simp [World.cell?, h, hv]
theorem shift1_c (C : Nat) (n by_ : Int) (w : World) (hC : w.cell? ⟨C, 0, none⟩ = some (.int .i64 by_)) :
    Calls Try.prog 70 #[.int .i64 n, .pointer (some ⟨C, 0, none⟩)] w fun e w' => e = .returned (.int .i64 (wrap64 (n + by_))) ∧ w' = w := by
  go_enter Try.func70, Try.ntmps70
  go_wp2
  go_ret
  exact ⟨rfl, rfl⟩
theorem most_snoc (n : Int) : ∀ (l : List Int), 0 ≤ n → most (l ++ [n]) = max (most l) n
  | [], h => by simp only [List.nil_append, most]; omega
  | x :: xs, h => by simp only [List.cons_append, most, most_snoc n xs h]; omega
theorem Max_c (l : List Int) (v : Value) (w : World) (ok : Nat → Prop) (hv : (Kd.int .i64).S w ok l v) (h0 : l ≠ []) (hp : ∀ n ∈ l, 0 ≤ n) :
    Calls Try.prog 105 #[v] w fun e w' => e = .returned (.int .i64 (most l)) ∧ Below w.heap.size w w' := by
  obtain ⟨A, c, rfl, hl, hc, hA⟩ := hv
  unfold maxLen at hc
  have hlen : 0 < l.length := List.length_pos_iff.2 h0
  obtain ⟨b, o, rfl, hok, hlo, g0⟩ := int_elem hA hlen
  rw [Nat.add_zero] at g0
  have hlt1 : decide ((l.length : Int) < 1) = false := by rw [decide_eq_false_iff_not]; omega
  have hl0 : (0 : Int) < l.length := by omega
  go_enter Try.func105, Try.ntmps105
  go_wp2
  go_loopw [3, 4] (fun m i wr => ∃ j : Nat, j ≤ l.length ∧ i = .int .i64 j ∧ 1 ≤ j ∧ m = .int .i64 (most (l.take j)) ∧ wr = w) (fun _ i _ => l.length - (intOf i).toNat)
  case atStart =>
    refine ⟨1, by omega, rfl, Nat.le_refl _, ?_, rfl⟩
    have h1 : l.take 1 = [l[0]] := by rw [take_succ_at l hlen]; simp
    have := hp _ (List.getElem_mem hlen)
    rw [h1]; simp only [most]; congr 1; omega
  case round =>
    obtain ⟨j, hj, rfl, hj1, rfl, rfl⟩ := hrel
    by_cases hlt : j < l.length
    · obtain ⟨b, o, hbo, hok, hlo, h1⟩ := int_elem hA hlt
      injection hbo with hbo
      injection hbo with e1 e2
      subst e1 e2
      have HM : Hid (most (l.take (j + 1)) = max (most (l.take j)) l[j]) := Lib.hid (by rw [take_succ_at l hlt, most_snoc _ _ (hp _ (List.getElem_mem hlt))])
      clear hA hp
      go_wp2
      refine ⟨⟨j + 1, by omega, by go_num, by omega, ?_, trivial⟩, by simp [intOf]; omega⟩
      rw [HM.out]; congr 1; split <;> omega
    · have HM : Hid (l.take j = l) := Lib.hid (List.take_of_length_le (by omega))
      clear hA hp
      go_wp2
      go_ret
      exact ⟨ret_int (by rw [HM.out]), Below.refl _ _⟩
set_option maxHeartbeats 1600000 in
theorem Shift_c (t : Tm) (by_ : Int) (v : Value) (w : World) (ok : Nat → Prop) (hv : TmV w ok t v) (hz : t.siz ≤ 1000000) :
    Calls Try.prog 32 #[v, .int .i64 by_] w fun e w' => (∃ r, e = .returned r ∧ TmV w' (fun b => w.heap.size ≤ b) (t.ren fun n => wrap64 (n + by_)) r) ∧ Below w.heap.size w w' := by
  have HT := Lib.hid (turn_c 70 #[.pointer (some ⟨w.heap.size + 1, 0, none⟩)] (enters_of Try.func70 (by kernel_rfl) rfl) (w.heap.size + 3) (fun _ => False) (fun k hk => hk.elim) (fun n => wrap64 (n + by_)) t.occ (fun _ W => W.cell? ⟨w.heap.size + 1, 0, none⟩ = some (.int .i64 by_))
    (fun pre W W' h hs => (cell_of_block (hs _ (by omega)) 0).trans h) (fun pre n W hj hs hp => (shift1_c _ n by_ W hj).mono (fun e W' ⟨he, h1⟩ => by subst h1; exact ⟨he, hj, Keeps.refl _ _⟩)) t)
  have hvb := TmV.bound hv
  obtain ⟨u, rfl, hS⟩ := hv
  obtain ⟨A, c, rfl⟩ := hS.form
  obtain ⟨k, s, n, l⟩ := t
  simp only at hS hvb
  obtain ⟨O1, hO1⟩ : ∃ O1 : Obj, O1 = .cells #[.int .u8 k, .string s, .int .i64 n, .slice A l.length c] 24 := ⟨_, rfl⟩
  obtain ⟨O2, hO2⟩ : ∃ O2 : Obj, O2 = .cells #[.int .i64 by_] 2 := ⟨_, rfl⟩
  obtain ⟨O3, hO3⟩ : ∃ O3 : Obj, O3 = .cells #[.int .u8 0, .string ⟨#[]⟩, .int .i64 0, .slice none 0 0] 24 := ⟨_, rfl⟩
  have hst : Below w.heap.size w (((w.alloc O1).alloc O2).alloc O3) := (((Below.refl _ w).alloc (Nat.le_refl _) O1).alloc (by simp) O2).alloc (by simp; omega) O3
  have hc1 : (((w.alloc O1).alloc O2).alloc O3).heap[w.heap.size + 1]? = some O2 := (Below.heap_alloc _ _ _ (by simp)).trans (by have := heap_new (w.alloc O1) O2; rwa [World.size_alloc] at this)
  have hc2 : (((w.alloc O1).alloc O2).alloc O3).heap[w.heap.size + 2]? = some O3 := by have := heap_new ((w.alloc O1).alloc O2) O3; rwa [World.size_alloc, World.size_alloc] at this
  have HI := Lib.hid (HT.out (.agg #[.int .u8 k, .string s, .int .i64 n, .slice A l.length c]) [] (((w.alloc O1).alloc O2).alloc O3) (fun b => ok b ∧ b < w.heap.size) (TmV.move (fun b hb => hst.block b hb.2) hvb) (fun _ _ h => h) (cell_of_cells (hc1.trans (congrArg some hO2)) rfl) (by simp) (by simp) hz)
  generalize Tm.ren (fun n => wrap64 (n + by_)) ⟨k, s, n, l⟩ = T' at HI ⊢
  obtain ⟨tk, ts, tn, tl⟩ := T'
  subst hO1 hO2 hO3
  clear HT hS hvb
  go_enter Try.func32, Try.ntmps32
  go_wp2_with (refine HI.out.mono ?_; clear HI; rintro e W5 ⟨⟨r, rfl, ru, rfl, hru⟩, hJ5, hk5⟩; obtain ⟨rA, rc, rfl⟩ := hru.form; have hr5 := (hk5.block (w.heap.size + 2) (by simp) (fun h => h)).trans hc2; obtain ⟨r0, r1, r2, r3, s0, s1, s2, s3⟩ := box4 hr5)
  have hg5 := grown_set4 W5 (w.heap.size + 2) (.int .u8 tk) (.string ts) (.int .i64 tn) (.slice rA tl.length rc)
  refine bodyPost_ret (v := .agg #[.int .u8 tk, .string ts, .int .i64 tn, .slice rA tl.length rc]) (by simp [results, Try.results32, go_sem, r0, r1, r2, r3]) rfl ⟨⟨_, rfl, _, rfl, ?_⟩, ?_⟩
  · exact Kd.S.mono (fun b hb => by simp at hb; omega) (Kd.S.grown hg5 (fun b hb he => by injection he; simp at hb; omega) hru)
  · have hk := (Keeps.of_below (S := fun _ => False) hst).trans (hk5.mono (fun i h => h.elim))
    exact (hk.grown hg5 (fun k hk => .inr (by injection hk; omega))).below

theorem most_dd (l : List Int) : ∀ n ∈ l, 0 ≤ n → n ≤ most l := by
  intro n hn h
  induction l with
  | nil => cases hn
  | cons x xs ih =>
    simp only [most]
    rcases List.mem_cons.1 hn with rfl | hn
    · omega
    · have := ih hn; omega
theorem most_mem : ∀ {l : List Int}, l ≠ [] → (∀ n ∈ l, 0 ≤ n) → most l ∈ l
  | [x], _, h => by simp only [most]; have := h x (by simp); rw [show max x (-1) = x by omega]; simp
  | x :: y :: ys, _, h => by
    have := most_mem (l := y :: ys) (by simp) (fun n hn => h n (List.mem_cons_of_mem _ hn))
    simp only [most] at this ⊢
    by_cases hx : max y (most ys) ≤ x
    · rw [show max x (max y (most ys)) = x by omega]; simp
    · rw [show max x (max y (most ys)) = max y (most ys) by omega]; exact List.mem_cons_of_mem _ this
theorem Count_c (l : List Tm) (v : Value) (w : World) (ok : Nat → Prop) (hv : Kd.tm.S w ok l v) (hz : sizL l ≤ 1000000) (hp : ∀ n ∈ occL l, 0 ≤ n ∧ n < 4611686018427387904) :
    Calls Try.prog 67 #[v] w fun e w' => e = .returned (.int .i64 (most (dd (occL l)) + 1)) ∧ Below w.heap.size w w' := by
  have HV := Lib.hid (Vars_s l v w ok hv hz)
  obtain ⟨A, c, rfl⟩ := hv.form
  have hp' : ∀ n ∈ dd (occL l), 0 ≤ n ∧ n < 4611686018427387904 := fun n hn => hp n (dd_mem.1 hn)
  generalize dd (occL l) = X at HV hp' ⊢
  clear hv hp
  by_cases h0 : X = []
  · subst h0
    have hz0 : most [] + 1 = 0 := rfl
    rw [hz0]
    clear hp' hz0
    go_enter Try.func67, Try.ntmps67
    go_wp2_with (go_at_call 23; refine HV.out.mono ?_; rintro e w1 ⟨⟨rA, rc, rfl, hr⟩, hb1⟩)
    go_ret
    exact ⟨rfl, hb1⟩
  · have hx0 : ((X.length : Int) == 0) = false := by
      rw [beq_eq_false_iff_ne]; intro h; exact h0 (List.eq_nil_of_length_eq_zero (by omega))
    have hm := most_mem h0 (fun n hn => (hp' n hn).1)
    have hm1 := (hp' _ hm).1
    have hm2 := (hp' _ hm).2
    have HM := Lib.hid (fun W ok' v (hS : (Kd.int .i64).S W ok' X v) => Max_c X v W ok' hS h0 (fun n hn => (hp' n hn).1))
    clear h0 hm hp'
    generalize most X = m at hm1 hm2 HM ⊢
    go_enter Try.func67, Try.ntmps67
    go_wp2_with (first
      | (go_at_call 23; refine HV.out.mono ?_; rintro e w1 ⟨⟨rA, rc, rfl, hr⟩, hb1⟩)
      | (go_at_call 105; refine (HM.out _ _ _ hr).mono ?_; rintro e w2 ⟨rfl, hb2⟩))
    go_ret
    exact ⟨rfl, below_then hb1 hb1.size hb2⟩

open Go.RowKit

theorem wrap_id {x : Int} (h : -9223372036854775808 ≤ x ∧ x ≤ 9223372036854775807) : wrap64 x = x := by
  unfold wrap64; omega
theorem wrap_wrap (n a b : Int) : wrap64 (wrap64 (n + a) + b) = wrap64 (n + (a + b)) := by
  unfold wrap64; omega
theorem wrap_back {n a : Int} (h : -9223372036854775808 ≤ n ∧ n ≤ 9223372036854775807) : wrap64 (wrap64 (n + a) + wrap64 (-a)) = n := by
  unfold wrap64; omega
theorem wrap_inj {a x y : Int} (hx : -9223372036854775808 ≤ x ∧ x ≤ 9223372036854775807) (hy : -9223372036854775808 ≤ y ∧ y ≤ 9223372036854775807) (h : wrap64 (x + a) = wrap64 (y + a)) : x = y := by
  have h1 := wrap_back (a := a) hx
  rw [h, wrap_back hy] at h1
  exact h1.symm
theorem shift_shift (t : Tm) (a b : Int) : (t.ren fun n => wrap64 (n + a)).ren (fun n => wrap64 (n + b)) = t.ren fun n => wrap64 (n + (a + b)) := by
  rw [ren_ren]; exact ren_congr _ (fun n _ => wrap_wrap n a b)
mutual
theorem shp_occ : ∀ t : Tm, t.shp = true → ∀ n ∈ t.occ, 0 ≤ n
  | ⟨k, s, q, l⟩, h, n, hn => by
    simp only [Tm.occ, List.mem_append] at hn
    simp only [Tm.shp] at h
    by_cases k1 : k = 1
    · rw [if_pos k1] at h hn
      simp only [Bool.and_eq_true, decide_eq_true_eq] at h
      rcases hn with hn | hn
      · rw [List.mem_singleton] at hn; omega
      · rw [h.2] at hn; simp [occL] at hn
    · rw [if_neg k1] at h hn
      have hn := hn.resolve_left (by simp)
      by_cases k2 : k = 2
      · rw [if_pos k2] at h
        simp only [Bool.and_eq_true, decide_eq_true_eq] at h
        rw [h.2] at hn; simp [occL] at hn
      · rw [if_neg k2] at h
        by_cases k3 : k = 3
        · rw [if_pos k3] at h
          simp only [Bool.and_eq_true, decide_eq_true_eq] at h
          rw [h.1.2] at hn; simp [occL] at hn
        · rw [if_neg k3] at h
          simp only [Bool.and_eq_true, decide_eq_true_eq] at h
          exact shpL_occ l h.2 n hn
theorem shpL_occ : ∀ l : List Tm, shpL l = true → ∀ n ∈ occL l, 0 ≤ n
  | [], _, n, hn => by simp [occL] at hn
  | t :: ts, h, n, hn => by
    simp only [shpL, Bool.and_eq_true] at h
    simp only [occL, List.mem_append] at hn
    exact hn.elim (shp_occ t h.1 n) (shpL_occ ts h.2 n)
end
theorem good_occ {t : Tm} (h : t.good = true) : ∀ n ∈ t.occ, 0 ≤ n := by
  simp only [Tm.good, Bool.and_eq_true] at h
  exact shp_occ t h.2
theorem occL_one (t : Tm) : occL [t] = t.occ := by simp [occL]
theorem most_le {l : List Int} {m : Int} (h : ∀ n ∈ l, n ≤ m) (hm : -1 ≤ m) : most l ≤ m := by
  induction l with
  | nil => simpa [most] using hm
  | cons x xs ih =>
    simp only [most]
    have := ih (fun n hn => h n (List.mem_cons_of_mem _ hn))
    have := h x (by simp)
    omega
theorem map_plc {l : List Int} (h : l.Nodup) : l.map (plc l) = (List.range l.length).map (fun i : Nat => (i : Int)) := by
  apply List.ext_getElem
  · simp
  · intro j h1 h2
    simp only [List.length_map] at h1
    simp [plc_at h j h1]
theorem most_range : ∀ n : Nat, most ((List.range n).map (fun i : Nat => (i : Int))) = (n : Int) - 1
  | 0 => rfl
  | n + 1 => by
    rw [List.range_succ, List.map_append, List.map_cons, List.map_nil, most_snoc _ _ (by omega), most_range n]
    omega
/-- The canonical form's count is how many variables there are. -/
theorem canCount (t : Tm) : most (dd (occL [t.ren (plc (dd (occL [t])))])) + 1 = (dd (occL [t])).length := by
  rw [occL_one, occL_one, ren_occ, dd_map _ (fun a ha b hb he => plc_inj (dd_mem.2 ha) (dd_mem.2 hb) he), map_plc (dd_nodup _), most_range]
  omega
theorem can_occ (t : Tm) : ∀ n ∈ occL [t.ren (plc (dd (occL [t])))], 0 ≤ n ∧ n < 4611686018427387904 ∨ 4611686018427387904 ≤ (dd (occL [t])).length := by
  intro n hn
  rw [occL_one, occL_one, ren_occ] at hn
  obtain ⟨x, hx, rfl⟩ := List.mem_map.1 hn
  have := plc_some (dd_mem.2 hx)
  rw [occL_one]
  omega
theorem most_map_add {l : List Int} (a : Int) (h0 : l ≠ []) (h : ∀ n ∈ l, 0 ≤ n) (ha : 0 ≤ a) : most (l.map (· + a)) = most l + a := by
  have h1 : most (l.map (· + a)) ≤ most l + a := most_le (fun n hn => by
    obtain ⟨x, hx, rfl⟩ := List.mem_map.1 hn
    have := most_dd l x hx (h x hx); omega) (by have := h _ (most_mem h0 h); omega)
  have h2 : most l + a ≤ most (l.map (· + a)) := most_dd _ _ (List.mem_map.2 ⟨_, most_mem h0 h, rfl⟩) (by have := h _ (most_mem h0 h); omega)
  omega
theorem shift_occ {t : Tm} {a : Int} (h : ∀ n ∈ t.occ, 0 ≤ n ∧ n ≤ 1099511627776) (ha : 0 ≤ a ∧ a ≤ 1099511627776) : occL [t.ren fun n => wrap64 (n + a)] = t.occ.map (· + a) := by
  rw [occL_one, ren_occ]
  exact List.map_congr_left (fun n hn => wrap_id (by have := h n hn; omega))
theorem shiftCount {t : Tm} {a : Int} (h : ∀ n ∈ t.occ, 0 ≤ n ∧ n ≤ 1099511627776) (ha : 0 ≤ a ∧ a ≤ 1099511627776) :
    most (dd (occL [t.ren fun n => wrap64 (n + a)])) + 1 = if (dd (occL [t])).length = 0 then 0 else most (dd (occL [t])) + 1 + a := by
  rw [shift_occ h ha, dd_map _ (fun x _ y _ he => by omega), occL_one]
  have h' : ∀ n ∈ dd t.occ, 0 ≤ n := fun n hn => (h n (dd_mem.1 hn)).1
  by_cases h0 : dd t.occ = []
  · rw [h0]; rfl
  · rw [if_neg (fun e => h0 (List.eq_nil_of_length_eq_zero e)), most_map_add a h0 h' ha.1]
    omega
end Go.Proofs.Ytdflckjnpgbjlaa

/- The law CodeChecks, walked. Conditions: the arguments read; operations are bytes; texts no longer than what is borne. -/
import Derived.Test.YtdflckjnpgbjlaaCo
set_option linter.unusedVariables false
set_option maxRecDepth 20000
set_option linter.unusedSimpArgs false
namespace Go.Proofs.Ytdflckjnpgbjlaa
open Go.RowKit

def WfI (l : List In) : Prop := ∀ i ∈ l, (0 ≤ i.op ∧ i.op ≤ 255) ∧ ∀ x ∈ i.cs, x.s.size ≤ 140737488351232
theorem grC_no {l : List In} (h : grC l = false) : l.length ≤ 100 ∧ ∀ i ∈ l, i.cs.length ≤ 20 := by
  unfold grC at h
  rw [Bool.or_eq_false_iff] at h
  have h2 : l.length ≤ 100 := by simpa using h.2
  refine ⟨h2, fun i hi => ?_⟩
  have := List.any_eq_false.1 h.1 i (by rw [List.take_of_length_le (by omega)]; exact hi)
  unfold badI at this
  simp at this
  omega
theorem En.below {W W' : World} {b : Nat} {es : List Int} (h : En W b es) (hb : Below W.heap.size W W') : En W' b es := by
  obtain ⟨E, clock, h1, h2⟩ := h.at_
  exact ⟨E, clock, (hb.block b (Array.getElem?_eq_some_iff.1 h1).1).trans h1, h2⟩
theorem En.made (W : World) : En (W.alloc (.map #[] 0)) W.heap.size [] := ⟨#[], 0, heap_alloc_new W _, ⟨by simp, by simp, by simp⟩, by simp, by simp⟩
set_option maxRecDepth 100000 in
set_option maxHeartbeats 16000000 in
theorem CodeChecks_c (l : List In) (es : List Int) (v ve : Value) (w : World) (ok ok' : Nat → Prop) (hv : (Kd.inq .u8).S w ok l v) (he : (Kd.int .i64).S w ok' es ve) (hw : WfI l) :
    Calls Try.prog 8 #[v, ve] w fun e w' => e = .returned (.bool true) ∧ Below w.heap.size w w' := by
  have HV := Lib.hid ((Kd.S.bound hv).mono (ok' := fun b => b < w.heap.size) (fun _ h => h.2))
  have HVE := Lib.hid ((Kd.S.bound he).mono (ok' := fun b => b < w.heap.size) (fun _ h => h.2))
  have HG := Lib.hid (great22_c l v w ok hv)
  have hmm := @run_makeMap Try.prog
  obtain ⟨A, c, rfl, hl, hc, -⟩ := hv
  obtain ⟨Ae, ce, rfl, hle, hce, -⟩ := he
  unfold maxLen at hc hce
  cases hgr : grC l with
  | true =>
    rw [hgr] at HG
    clear HV HVE hw hgr
    go_enter Try.func8, Try.ntmps8
    go_wp2_with (first | (go_at_call 35; refine HG.out.mono ?_; clear HG; rintro e w1 ⟨rfl, hb1⟩) | (go_at_call 36; refine (wakes22_c _).mono ?_; rintro e w9 ⟨rfl, hb9⟩))
    go_ret
    exact ⟨rfl, below_then hb1 hb1.size hb9⟩
  | false =>
    rw [hgr] at HG
    obtain ⟨hl100, hcs⟩ := grC_no hgr
    clear hgr
    by_cases hbig : (20 : Int) < es.length
    · clear HV HVE hw
      go_enter Try.func8, Try.ntmps8
      go_wp2_with (first | (go_at_call 35; refine HG.out.mono ?_; clear HG; rintro e w1 ⟨rfl, hb1⟩) | (go_at_call 36; refine (wakes22_c _).mono ?_; rintro e w9 ⟨rfl, hb9⟩))
      go_ret
      exact ⟨rfl, below_then hb1 hb1.size hb9⟩
    have hnb : decide ((20 : Int) < es.length) = false := by simpa using hbig
    have he20 : es.length ≤ 20 := by omega
    clear hbig
    go_enter Try.func8, Try.ntmps8
    go_wp2_with (go_at_call 35; refine HG.out.mono ?_; clear HG; rintro e w1 ⟨rfl, hb1⟩)
    obtain ⟨W2, b, hW2, hbB, hEn, hbx, hbz⟩ : ∃ W2 b, W2 = ((w1.alloc (.map #[] 0)).alloc (.cells #[.slice A l.length c, .map (some w1.heap.size)] 59)) ∧ b = w1.heap.size ∧ En W2 b [] ∧ W2.heap[b + 1]? = some (.cells #[.slice A l.length c, .map (some b)] 59 (0, 0)) ∧ Below w.heap.size w W2 := by
      refine ⟨_, _, rfl, rfl, (En.made w1).below ((Below.refl _ _).alloc (Nat.le_refl _) _), heap_at _ _ _ (by simp), (hb1.alloc hb1.size _).alloc (by simp; have := hb1.size; omega) _⟩
    have hwb : w.heap.size ≤ b := by rw [hbB]; exact hb1.size
    rw [← hW2, ← hbB]
    clear hW2 hbB hb1
    trace_state
    go_loopw [6] (fun i wr => ∃ j : Nat, j ≤ es.length ∧ i = .int .i64 j ∧ Hid (En wr b (es.take j)) ∧ Hid (wr.heap[b + 1]? = some (.cells #[.slice A l.length c, .map (some b)] 59 (0, 0))) ∧ Below w.heap.size w wr) (fun i _ => es.length - (intOf i).toNat)
    case atStart => exact ⟨0, Nat.zero_le _, rfl, Lib.hid hEn, Lib.hid hbx, hbz⟩
    case round =>
      clear hEn hbx hbz
      obtain ⟨j, hj, rfl, hEn, hbx, hbz⟩ := hrel
      by_cases hlt : j < es.length
      · obtain ⟨Av, cv, eA, -, -, hAe⟩ := HVE.out
        injection eA with eA1 eA2 eA3
        subst eA1
        clear eA2 eA3
        obtain ⟨bv, ov, rfl, hbv, hlov, hcv⟩ := int_elem hAe hlt
        have k0 := cell_below hbz hcv hlov
        obtain ⟨x0, x1⟩ := box2 hbx.out
        have hml : (es.take j).length = j := by rw [List.length_take]; omega
        have HMX := Lib.hid (show es.take (j + 1) = es.take j ++ [es[j]] by rw [take_succ_at es hlt])
        have HRN := Lib.hid (hEn.out.below ((Below.refl _ wr).drew) |>.run (by rw [hml]; omega) es[j])
        rw [hml] at HRN
        have hbl := (Array.getElem?_eq_some_iff.1 hbx.out).1
        clear hAe hcv
        generalize es[j] = y at k0 HMX HRN
        go_wp2
        refine wp_region_held_drew (S := (fun W => W.cell? ⟨b + 1, 0, none⟩ = some (.slice A l.length c) ∧ W.cell? ⟨b + 1, 1, none⟩ = some (.map (some b)) ∧ W.cell? ⟨bv, ov + j, none⟩ = some (.int .i64 y))) (by kernel_rfl) ?_ (fun hHeld => ?_)
        · exact ⟨x0, x1, k0⟩
        change wpAnyH _ .any _ _ _ 9 (Array.replicate 9 false) _ _
        refine wpAnyH_take (i := 0) (oi := ⟨some 25, _, _, _, _, _⟩) (v := ?_) rfl (by kernel_rfl) (by kernel_rfl) (by kernel_rfl) (fun _ _ _ h => h) (Or.inl ⟨by rfl, ?_⟩) (by assumption) ?_
        rotate_left
        · (intro w hSw; (try dsimp only at hSw); go_simp; try (with_reducible rfl))
        (try simp only [Act.put, List.setIfInBounds_toArray, List.set_cons_zero, List.set_cons_succ])
        refine wpAnyH_take (i := 1) (oi := ⟨some 26, _, _, _, _, _⟩) (v := ?_) rfl (by kernel_rfl) (by kernel_rfl) (by kernel_rfl) (fun _ _ _ h => h) (Or.inl ⟨by rfl, ?_⟩) (by assumption) ?_
        rotate_left
        · (intro w hSw; (try dsimp only at hSw); go_simp; try (with_reducible rfl))
        (try simp only [Act.put, List.setIfInBounds_toArray, List.set_cons_zero, List.set_cons_succ])
        refine wpAnyH_take (i := 2) (oi := ⟨some 27, _, _, _, _, _⟩) (v := ?_) rfl (by kernel_rfl) (by kernel_rfl) (by kernel_rfl) (fun _ _ _ h => h) (Or.inl ⟨by rfl, ?_⟩) (by assumption) ?_
        rotate_left
        · (intro w hSw; (try dsimp only at hSw); go_simp; try (with_reducible rfl))
        (try simp only [Act.put, List.setIfInBounds_toArray, List.set_cons_zero, List.set_cons_succ])
        refine wpAnyH_take (i := 3) (oi := ⟨some 28, _, _, _, _, _⟩) (v := ?_) rfl (by kernel_rfl) (by kernel_rfl) (by kernel_rfl) (fun _ _ _ h => h) (Or.inl ⟨by rfl, ?_⟩) (by assumption) ?_
        rotate_left
        · (intro w hSw; (try dsimp only at hSw); go_simp; try (with_reducible rfl))
        (try simp only [Act.put, List.setIfInBounds_toArray, List.set_cons_zero, List.set_cons_succ])
        refine wpAnyH_take (i := 4) (oi := ⟨some 29, _, _, _, _, _⟩) (v := ?_) rfl (by kernel_rfl) (by kernel_rfl) (by kernel_rfl) (fun _ _ _ h => h) (Or.inl ⟨by rfl, ?_⟩) (by assumption) ?_
        rotate_left
        · (intro w hSw; (try dsimp only at hSw); go_simp; try (with_reducible rfl))
        (try simp only [Act.put, List.setIfInBounds_toArray, List.set_cons_zero, List.set_cons_succ])
        refine wpAnyH_take (i := 5) (oi := ⟨some 30, _, _, _, _, _⟩) (v := ?_) rfl (by kernel_rfl) (by kernel_rfl) (by kernel_rfl) (fun _ _ _ h => h) (Or.inl ⟨by rfl, ?_⟩) (by assumption) ?_
        rotate_left
        · (intro w hSw; (try dsimp only at hSw); go_simp; try (with_reducible rfl))
        (try simp only [Act.put, List.setIfInBounds_toArray, List.set_cons_zero, List.set_cons_succ])
        refine wpAnyH_take (i := 6) (oi := ⟨some 31, _, _, _, _, _⟩) (v := ?_) rfl (by kernel_rfl) (by kernel_rfl) (by kernel_rfl) (fun _ _ _ h => h) (Or.inl ⟨by rfl, ?_⟩) (by assumption) ?_
        rotate_left
        · (intro w hSw; (try dsimp only at hSw); go_simp; try (with_reducible rfl))
        (try simp only [Act.put, List.setIfInBounds_toArray, List.set_cons_zero, List.set_cons_succ])
        refine wpAnyH_take (i := 7) (oi := ⟨some 32, _, _, _, _, _⟩) (v := ?_) rfl (by kernel_rfl) (by kernel_rfl) (by kernel_rfl) (fun _ _ _ h => h) (Or.inl ⟨by rfl, ?_⟩) (by assumption) ?_
        rotate_left
        · (intro w hSw; (try dsimp only at hSw); go_simp; try (with_reducible rfl))
        (try simp only [Act.put, List.setIfInBounds_toArray, List.set_cons_zero, List.set_cons_succ])
        obtain ⟨W4, hmu, hE4, hg4'⟩ := HRN.out
        have hg4 : wr.grownBy W4 (some b) := ⟨hg4'.os, hg4'.tape, hg4'.output, hg4'.size, hg4'.block⟩
        have hbzs := hbz.size
        have k4 := (cell_of_block (hg4.block bv (by omega) (fun e => by injection e; omega)) _).trans k0
        have hb4 := (hg4.block (b + 1) hbl (fun e => by injection e; omega)).trans hbx.out
        obtain ⟨z0, z1⟩ := box2 hb4
        unfold keyV at hmu
        refine wpAnyH_ready (rs := [8]) (by kernel_rfl) (by simp) ?_
        refine AllReadyH.cons (o := ⟨none, _, _, _, _, _⟩) rfl (fun K hK => ?_) AllReadyH.nil
        go_simp
        refine hK.out _ _ ⟨z0, z1, k4⟩ (fun hHeld => ?_)
        clear hK K
        (try simp only [Act.put, List.setIfInBounds_toArray, List.set_cons_zero, List.set_cons_succ])
        refine wpAnyH_done (by kernel_rfl) ?_ _
        clear hmu
        go_wp2
        go_roundw
        case rel => exact ⟨j + 1, by omega, by go_num, Lib.hid (by rw [HMX.out]; exact hE4), Lib.hid hb4, below_of_grown (gfresh (r := none) (gnone hbz) hg4 hwb)⟩
        case measure => simp [intOf]; omega
      · have hjl : j = es.length := by omega
        subst hjl
        have hE := hEn.out
        rw [List.take_length] at hE
        have HE := Lib.hid hE
        have HX := hbx
        have HB := Lib.hid hbz
        clear hEn hbx hE hlt hj
        have HP := Lib.hid (fun W (h : (Kd.inq .u8).S W (fun b => b < w.heap.size) l (.slice A l.length c)) => Plain_c l _ W _ h (fun i hi => (hw i hi).1) (by omega) (fun i hi => by have := hcs i hi; omega))
        have hbl := (Array.getElem?_eq_some_iff.1 HX.out).1
        go_wp2
        have hBW : Below wr.heap.size wr wr := Below.refl _ _
        obtain ⟨W0, hW0⟩ : ∃ W0, W0 = wr := ⟨_, rfl⟩
        rw [← hW0] at HE HX HB hBW hbl
        have hBW' : Below W0.heap.size W0 wr := by rw [hW0]; exact Below.refl _ _
        clear hBW hbz
        go_loopw [7] (fun i wr => ∃ j : Nat, j ≤ l.length ∧ i = .int .i64 j ∧ Below W0.heap.size W0 wr) (fun i _ => l.length - (intOf i).toNat)
        case atStart => exact ⟨0, Nat.zero_le _, rfl, hBW'⟩
        case round =>
          clear hBW' hW0
          obtain ⟨j, hj, rfl, hb⟩ := hrel
          have hbw := below_then HB.out HB.out.size hb
          by_cases hlt : j < l.length
          · obtain ⟨A', c', eA, -, -, hA⟩ := HV.out
            injection eA with eA1 eA2 eA3
            subst eA1
            clear eA2 eA3
            obtain ⟨bb, ob, u, rfl, hokb, hlo, h0, h1, h2, h3, h4, h5, h6, h7⟩ := in_elem hA hlt
            have g0 := cell_below hbw h0 hlo
            have g1 := cell_below hbw h1 hlo
            have g2 := cell_below hbw h2 hlo
            have g3 := cell_below hbw h3 hlo
            have g4 := cell_below hbw h4 hlo
            have g5 := cell_below hbw h5 hlo
            have g6 := cell_below hbw h6 hlo
            obtain ⟨Au, cu, rfl⟩ := h7.form
            have hop8 := (hw _ (List.getElem_mem hlt)).1
            have HE1 := Lib.hid (Ends_c l[j] (.agg #[.int .u8 l[j].op, .int .i64 l[j].a, .int .i64 l[j].b, .int .u8 l[j].kd, .string l[j].s, .int .i64 l[j].n, .slice Au l[j].cs.length cu]) wr.drew _ ⟨_, rfl, h7.below hbw.drew⟩ hop8.1)
            have HE2 := Lib.hid (fun W => rEnds_c l[j].op W)
            clear hA h0 h1 h2 h3 h4 h5 h6 h7
            generalize l[j] = x at g0 g1 g2 g3 g4 g5 g6 HE1 HE2 hop8
            generalize endB x.op = en at HE1 HE2
            have hen : (en != en) = false := by cases en <;> rfl
            have hcw : IntKind.i64.wrap x.op = x.op := by rw [IntKind.wrap_i64]; omega
            clear hop8
            go_wp2
            refine wp_region_held_drew (S := (fun W => W.cell? ⟨bb, ob + j * 7, none⟩ = some (.int .u8 x.op) ∧ W.cell? ⟨bb, ob + j * 7 + 1, none⟩ = some (.int .i64 x.a) ∧ W.cell? ⟨bb, ob + j * 7 + 2, none⟩ = some (.int .i64 x.b) ∧ W.cell? ⟨bb, ob + j * 7 + 3, none⟩ = some (.int .u8 x.kd) ∧ W.cell? ⟨bb, ob + j * 7 + 4, none⟩ = some (.string x.s) ∧ W.cell? ⟨bb, ob + j * 7 + 5, none⟩ = some (.int .i64 x.n) ∧ W.cell? ⟨bb, ob + j * 7 + 6, none⟩ = some (.slice Au x.cs.length cu))) (by kernel_rfl) ?_ (fun hHeld => ?_)
            · exact ⟨g0, g1, g2, g3, g4, g5, g6⟩
            change wpAnyH _ .any _ _ _ 13 (Array.replicate 13 false) _ _
            refine wpAnyH_take (i := 0) (oi := ⟨some 39, _, _, _, _, _⟩) (v := ?_) rfl (by kernel_rfl) (by kernel_rfl) (by kernel_rfl) (fun _ _ _ h => h) (Or.inl ⟨by rfl, ?_⟩) (by assumption) ?_
            rotate_left
            · (intro w hSw; (try dsimp only at hSw); go_simp; try (with_reducible rfl))
            (try simp only [Act.put, List.setIfInBounds_toArray, List.set_cons_zero, List.set_cons_succ])
            refine wpAnyH_take (i := 1) (oi := ⟨some 40, _, _, _, _, _⟩) (v := ?_) rfl (by kernel_rfl) (by kernel_rfl) (by kernel_rfl) (fun _ _ _ h => h) (Or.inl ⟨by rfl, ?_⟩) (by assumption) ?_
            rotate_left
            · (intro w hSw; (try dsimp only at hSw); go_simp; try (with_reducible rfl))
            (try simp only [Act.put, List.setIfInBounds_toArray, List.set_cons_zero, List.set_cons_succ])
            refine wpAnyH_take (i := 2) (oi := ⟨some 41, _, _, _, _, _⟩) (v := ?_) rfl (by kernel_rfl) (by kernel_rfl) (by kernel_rfl) (fun _ _ _ h => h) (Or.inl ⟨by rfl, ?_⟩) (by assumption) ?_
            rotate_left
            · (intro w hSw; (try dsimp only at hSw); go_simp; try (with_reducible rfl))
            (try simp only [Act.put, List.setIfInBounds_toArray, List.set_cons_zero, List.set_cons_succ])
            refine wpAnyH_take (i := 3) (oi := ⟨some 42, _, _, _, _, _⟩) (v := ?_) rfl (by kernel_rfl) (by kernel_rfl) (by kernel_rfl) (fun _ _ _ h => h) (Or.inl ⟨by rfl, ?_⟩) (by assumption) ?_
            rotate_left
            · (intro w hSw; (try dsimp only at hSw); go_simp; try (with_reducible rfl))
            (try simp only [Act.put, List.setIfInBounds_toArray, List.set_cons_zero, List.set_cons_succ])
            refine wpAnyH_take (i := 5) (oi := ⟨some 44, _, _, _, _, _⟩) (v := ?_) rfl (by kernel_rfl) (by kernel_rfl) (by kernel_rfl) (fun _ _ _ h => h) (Or.inl ⟨by rfl, ?_⟩) (by assumption) ?_
            rotate_left
            · (intro w hSw; (try dsimp only at hSw); go_simp; try (with_reducible rfl))
            (try simp only [Act.put, List.setIfInBounds_toArray, List.set_cons_zero, List.set_cons_succ])
            refine wpAnyH_take (i := 6) (oi := ⟨some 45, _, _, _, _, _⟩) (v := ?_) rfl (by kernel_rfl) (by kernel_rfl) (by kernel_rfl) (fun _ _ _ h => h) (Or.inl ⟨by rfl, ?_⟩) (by assumption) ?_
            rotate_left
            · (intro w hSw; (try dsimp only at hSw); go_simp; try (with_reducible rfl))
            (try simp only [Act.put, List.setIfInBounds_toArray, List.set_cons_zero, List.set_cons_succ])
            refine wpAnyH_take (i := 7) (oi := ⟨some 46, _, _, _, _, _⟩) (v := ?_) rfl (by kernel_rfl) (by kernel_rfl) (by kernel_rfl) (fun _ _ _ h => h) (Or.inl ⟨by rfl, ?_⟩) (by assumption) ?_
            rotate_left
            · (intro w hSw; (try dsimp only at hSw); go_simp; try (with_reducible rfl))
            (try simp only [Act.put, List.setIfInBounds_toArray, List.set_cons_zero, List.set_cons_succ])
            refine wpAnyH_take (i := 8) (oi := ⟨some 47, _, _, _, _, _⟩) (v := ?_) rfl (by kernel_rfl) (by kernel_rfl) (by kernel_rfl) (fun _ _ _ h => h) (Or.inl ⟨by rfl, ?_⟩) (by assumption) ?_
            rotate_left
            · (intro w hSw; (try dsimp only at hSw); go_simp; try (with_reducible rfl))
            (try simp only [Act.put, List.setIfInBounds_toArray, List.set_cons_zero, List.set_cons_succ])
            refine wpAnyH_take (i := 9) (oi := ⟨some 48, _, _, _, _, _⟩) (v := ?_) rfl (by kernel_rfl) (by kernel_rfl) (by kernel_rfl) (fun _ _ _ h => h) (Or.inl ⟨by rfl, ?_⟩) (by assumption) ?_
            rotate_left
            · (intro w hSw; (try dsimp only at hSw); go_simp; try (with_reducible rfl))
            (try simp only [Act.put, List.setIfInBounds_toArray, List.set_cons_zero, List.set_cons_succ])
            refine wpAnyH_take (i := 10) (oi := ⟨some 49, _, _, _, _, _⟩) (v := ?_) rfl (by kernel_rfl) (by kernel_rfl) (by kernel_rfl) (fun _ _ _ h => h) (Or.inl ⟨by rfl, ?_⟩) (by assumption) ?_
            rotate_left
            · (intro w hSw; (try dsimp only at hSw); go_simp; try (with_reducible rfl))
            (try simp only [Act.put, List.setIfInBounds_toArray, List.set_cons_zero, List.set_cons_succ])
            refine wpAnyH_ready (rs := [4]) (by kernel_rfl) (by simp) ?_
            refine AllReadyH.cons (o := ⟨some 43, _, _, _, _, _⟩) rfl (fun K hK => ?_) AllReadyH.nil
            go_simp
            go_at_call 37
            refine HE1.out.mono ?_
            rintro e w5 ⟨rfl, hb5⟩
            have hb8 : Below wr.heap.size wr w5 := below_then (Below.refl _ wr).drew (Nat.le_refl _) hb5
            go_wp2_with fail
            refine hK.out _ _ ⟨cell_below hb8 g0 (cell_lt g0), cell_below hb8 g1 (cell_lt g1), cell_below hb8 g2 (cell_lt g2), cell_below hb8 g3 (cell_lt g3), cell_below hb8 g4 (cell_lt g4), cell_below hb8 g5 (cell_lt g5), cell_below hb8 g6 (cell_lt g6)⟩ (fun hHeld => ?_)
            clear hK K
            (try simp only [Act.put, List.setIfInBounds_toArray, List.set_cons_zero, List.set_cons_succ])
            refine wpAnyH_ready (rs := [11]) (by kernel_rfl) (by simp) ?_
            refine AllReadyH.cons (o := ⟨some 50, _, _, _, _, _⟩) rfl (fun K hK => ?_) AllReadyH.nil
            go_simp
            go_at_call 38
            refine (HE2.out _).mono ?_
            rintro e w6 ⟨rfl, hb6⟩
            have hb7 : Below wr.heap.size wr w6 := below_then hb8 hb8.size hb6
            go_wp2_with fail
            refine hK.out _ _ ⟨cell_below hb7 g0 (cell_lt g0), cell_below hb7 g1 (cell_lt g1), cell_below hb7 g2 (cell_lt g2), cell_below hb7 g3 (cell_lt g3), cell_below hb7 g4 (cell_lt g4), cell_below hb7 g5 (cell_lt g5), cell_below hb7 g6 (cell_lt g6)⟩ (fun hHeld => ?_)
            clear hK K
            (try simp only [Act.put, List.setIfInBounds_toArray, List.set_cons_zero, List.set_cons_succ])
            refine wpAnyH_take (i := 12) (oi := ⟨some 51, _, _, _, _, _⟩) (v := ?_) rfl (by kernel_rfl) (by kernel_rfl) (by kernel_rfl) (fun _ _ _ h => h) (Or.inl ⟨by rfl, ?_⟩) (by assumption) ?_
            rotate_left
            · (intro w hSw; (try dsimp only at hSw); go_simp; try (with_reducible rfl))
            (try simp only [Act.put, List.setIfInBounds_toArray, List.set_cons_zero, List.set_cons_succ])
            have hb9 := below_then hb hb.size hb7
            refine wpAnyH_done (by kernel_rfl) ?_ _
            go_wp2
            go_roundw
            case rel => exact ⟨j + 1, by omega, by go_num, hb9⟩
            case measure => simp [intOf]; omega
          · have hjl : j = l.length := by omega
            subst hjl
            have hE1 := HE.out.below hb
            have hx1 := block_below hb hbl HX.out
            obtain ⟨z0, z1⟩ := box2 hx1
            have HCC := Lib.hid (Check_c l es (.slice A l.length c) (.map (some b)) wr _ (HV.out.below hbw) hE1.ent (fun i hi => (hw i hi).1.1))
            have HRC := Lib.hid (fun W r (hs : (Kd.inq .i64).S W (fun _ => True) l r) (he : (Kd.int .i64).S W (fun b => b < w.heap.size) es (.slice Ae es.length ce)) => rCheck_c l es r _ W _ _ hs he (fun i hi => (hw i hi).1.1) (fun i hi => (hw i hi).2))
            have HV3 := Lib.hid (HV.out.below hbw)
            have HVE3 := Lib.hid (HVE.out.below hbw)
            clear hlt hj hE1 hx1 hb hw
            generalize checkC l es = R at HCC HRC
            go_wp2_with (first
              | (go_at_call 39; refine HCC.out.mono ?_; clear HCC; rintro e w5 ⟨rfl, hb5⟩; replace hbw := below_then hbw hbw.size hb5)
              | (go_at_call 41; refine (HP.out _ (HV3.out.below hb5)).mono ?_; clear HP; rintro e w6 ⟨⟨r, rfl, hr⟩, hb6⟩; replace hbw := below_then hbw hbw.size hb6)
              | (go_at_call 40; refine (HRC.out _ _ hr ((HVE3.out.below hb5).below hb6)).mono ?_; clear HRC; rintro e w7 ⟨rfl, hb7⟩; replace hbw := below_then hbw hbw.size hb7)
              | (go_at_call 36; refine (wakes22_c _).mono ?_; rintro e w9 ⟨rfl, hb9⟩))
            go_ret
            exact ⟨rfl, below_then hbw hbw.size hb9⟩
end Go.Proofs.Ytdflckjnpgbjlaa

/- The law's 'shift': a term's like with other variables. Conditions: the argument reads; its variables are from 0 to 99; a term of at most a million nodes. -/
import Derived.Test.YtdflckjnpgbjlaaUc
set_option linter.unusedVariables false
set_option maxRecDepth 20000
set_option linter.unusedSimpArgs false
namespace Go.Proofs.Ytdflckjnpgbjlaa
open Go.RowKit

theorem occL_in {a : Tm} {n : Int} (hn : n ∈ a.occ) : ∀ {l : List Tm}, a ∈ l → n ∈ occL l
  | x :: xs, h => by
    simp only [occL, List.mem_append]
    rcases List.mem_cons.1 h with rfl | h
    · exact .inl hn
    · exact .inr (occL_in hn h)
theorem occ_mem {t a : Tm} (h : a ∈ t.l) {n : Int} (hn : n ∈ a.occ) : n ∈ t.occ := by
  have h2 := occL_in hn h
  cases t
  simp only [Tm.occ, List.mem_append]
  exact .inr h2
theorem occ_here {t : Tm} (h : t.k = 1) : t.n ∈ t.occ := by
  cases t
  simp only at h
  simp [Tm.occ, h]
set_option maxRecDepth 100000 in
set_option maxHeartbeats 4000000 in
theorem shift_c (d : Int) (hd : 0 ≤ d ∧ d ≤ 1099511627776) (t : Tm) : ∀ (v : Value) (w : World) (ok : Nat → Prop), TmV w ok t v → t.siz ≤ 1000000 → (∀ n ∈ t.occ, 0 ≤ n ∧ n < 100) →
    Calls Try.prog 27 #[v, .int .i64 d] w fun e w' => (∃ u, e = .returned u ∧ TmV w' (fun b => w.heap.size ≤ b) (t.mv d) u) ∧ Below w.heap.size w w' := by
  refine Tm.ind (p := fun t => ∀ (v : Value) (w : World) (ok : Nat → Prop), TmV w ok t v → t.siz ≤ 1000000 → (∀ n ∈ t.occ, 0 ≤ n ∧ n < 100) →
    Calls Try.prog 27 #[v, .int .i64 d] w fun e w' => (∃ u, e = .returned u ∧ TmV w' (fun b => w.heap.size ≤ b) (t.mv d) u) ∧ Below w.heap.size w w') (fun x ih => ?_) t
  intro v w ok hv hsz hoc
  obtain ⟨u, rfl, hvS⟩ := hv
  obtain ⟨A, c, rfl⟩ := hvS.form
  have hb3 : ∀ O O' O2 : Obj, Below w.heap.size w (((w.alloc O).alloc O').alloc O2) := fun O O' O2 => (((Below.refl _ w).alloc (Nat.le_refl _) _).alloc (by simp) _).alloc (by simp; omega) _
  have hxl := len_siz hsz
  rw [mv_def]
  have HVS := Lib.hid (show Kd.tm.S w (fun b => b < w.heap.size) x.l (.slice A x.l.length c) from hvS.bound.mono (fun _ h => h.2))
  have HIH := Lib.hid (fun a (ha : a ∈ x.l) v W ok hv => ih a ha v W ok hv (siz_at hsz ha) (fun n hn => hoc n (occ_mem ha hn)))
  obtain ⟨N, hN, hG⟩ : ∃ N, (if x.k = 1 then x.n + d else x.n) = N ∧ ((x.k == 1) = true ∧ IntKind.i64.wrap (x.n + d) = N ∨ (x.k == 1) = false ∧ N = x.n) := by
    by_cases h : x.k = 1
    · have := hoc _ (occ_here h)
      exact ⟨_, rfl, .inl ⟨by simpa using h, by rw [if_pos h, IntKind.wrap_i64]; omega⟩⟩
    · exact ⟨_, rfl, .inr ⟨by simpa using h, by rw [if_neg h]⟩⟩
  rw [hN]
  clear hN
  obtain ⟨W3, hW3e⟩ : ∃ W3, W3 = (((w.alloc (.cells #[.int .u8 x.k, .string x.s, .int .i64 x.n, .slice A x.l.length c] 24)).alloc (.cells #[.int .u8 0, .string ⟨#[]⟩, .int .i64 0, .slice none 0 0] 24)).alloc (.cells #[.int .u8 x.k, .string x.s, .int .i64 N, .slice none 0 0] 24)) := ⟨_, rfl⟩
  have hW3 : Below w.heap.size w W3 := by rw [hW3e]; exact hb3 _ _ _
  have hbx3 : W3.heap[w.heap.size]? = some (.cells #[.int .u8 x.k, .string x.s, .int .i64 x.n, .slice A x.l.length c] 24 (0, 0)) := by rw [hW3e]; repeat (first | exact heap_at _ _ _ (by simp) | refine (Below.heap_alloc _ _ _ (by simp <;> omega)).trans ?_)
  have hrs3 : W3.heap[w.heap.size + 1]? = some (.cells #[.int .u8 0, .string ⟨#[]⟩, .int .i64 0, .slice none 0 0] 24 (0, 0)) := by rw [hW3e]; repeat (first | exact heap_at _ _ _ (by simp) | refine (Below.heap_alloc _ _ _ (by simp <;> omega)).trans ?_)
  have hbo3 : W3.heap[(w.heap.size + 1 + 1)]? = some (.cells #[.int .u8 x.k, .string x.s, .int .i64 N, .slice none 0 0] 24 (0, 0)) := by rw [hW3e]; exact heap_at _ _ _ (by simp)
  clear hvS ih hoc hsz hd
  have HW3 := Lib.hid hW3e
  clear hW3e
  rcases hG with ⟨hk', hn'⟩ | ⟨hk', hn'⟩
  all_goals
    go_enter Try.func27, Try.ntmps27
    go_wp2
    try rw [hn'] at HW3
    rw [← HW3.out]
    go_loopw [6] (fun i wr => ∃ (j : Nat) (oV : Value), j ≤ x.l.length ∧ i = .int .i64 j ∧ wr.heap[(w.heap.size + 1 + 1)]? = some (.cells #[.int .u8 x.k, .string x.s, .int .i64 N, oV] 24 (0, 0)) ∧ Kd.tm.Own 24 wr ((w.heap.size + 1 + 1) + 1) (fun b => (w.heap.size + 1 + 1) + 1 ≤ b) ((x.l.take j).map (Tm.mv d)) oV ∧ Below w.heap.size w wr ∧
      wr.heap[w.heap.size]? = some (.cells #[.int .u8 x.k, .string x.s, .int .i64 x.n, .slice A x.l.length c] 24 (0, 0)) ∧ wr.heap[w.heap.size + 1]? = some (.cells #[.int .u8 0, .string ⟨#[]⟩, .int .i64 0, .slice none 0 0] 24 (0, 0))) (fun i _ => x.l.length - (intOf i).toNat)
    case atStart => exact ⟨0, _, Nat.zero_le _, rfl, hbo3, by simpa using Kd.Own.nil _ _ _ _ _, hW3, hbx3, hrs3⟩
    case round =>
      clear hbo3 hW3 hbx3 hrs3 hn' hk'
      obtain ⟨j, oV, hj, rfl, hbo, hO, hb, hbx, hrs⟩ := hrel
      have hbol : (w.heap.size + 1 + 1) < wr.heap.size := (Array.getElem?_eq_some_iff.1 hbo).1
      obtain ⟨oA, oc, hoV⟩ := hO.form
      have HLT := Lib.hid hO.lt
      by_cases hlt : j < x.l.length
      · obtain ⟨A', c', eA, hl, hc, hA⟩ := Kd.S.bound (Kd.S.move (fun i hi => hb.block i hi) HVS.out)
        injection eA with eA1 eA2 eA3
        subst eA1 eA3
        clear eA2
        obtain ⟨bb, o, u, rfl, hokb, hlo, h0, h1, h2, h3, h4⟩ := tm_elem hA hlt
        have h4' : TmV wr (fun b => b < wr.heap.size) x.l[j] (.agg #[.int .u8 x.l[j].k, .string x.l[j].s, .int .i64 x.l[j].n, u]) := ⟨u, rfl, h4.mono (fun _ h => h.2)⟩
        obtain ⟨Au, cu, rfl⟩ := h4.form
        have hm := List.getElem_mem hlt
        have HI := Lib.hid (fun W (hW : Below wr.heap.size wr W) => HIH.out x.l[j] hm _ W _ (h4'.below hW))
        have HMX := Lib.hid (show (x.l.take (j + 1)).map (Tm.mv d) = (x.l.take j).map (Tm.mv d) ++ [x.l[j].mv d] by rw [take_succ_at x.l hlt, List.map_append]; rfl)
        have HO := Lib.hid hO
        have HB := Lib.hid hb
        have HBX := Lib.hid hbx
        have HRS := Lib.hid hrs
        have HBO := Lib.hid hbo
        have hml : ((x.l.take j).map (Tm.mv d)).length = j := by rw [List.length_map, List.length_take]; omega
        have hne1 : bb < w.heap.size := hokb.1
        have hbs := hb.size
        obtain ⟨-, -, -, d3, -, -, -, -⟩ := box4 hbx
        obtain ⟨e0, e1, e2, e3, -, -, -, -⟩ := box4 hbo
        have KS : ∀ W : World, (∀ i, i < wr.heap.size → i ≠ (w.heap.size + 1 + 1) → some i ≠ oV.ownBlock → W.heap[i]? = wr.heap[i]?) → (W.cell? ⟨w.heap.size, 3, none⟩ = some (.slice (some ⟨bb, o, none⟩) x.l.length c) ∧ W.cell? ⟨bb, o + j * 4, none⟩ = some (.int .u8 x.l[j].k) ∧ W.cell? ⟨bb, o + j * 4 + 1, none⟩ = some (.string x.l[j].s) ∧ W.cell? ⟨bb, o + j * 4 + 2, none⟩ = some (.int .i64 x.l[j].n) ∧ W.cell? ⟨bb, o + j * 4 + 3, none⟩ = some (.slice Au x.l[j].l.length cu)) := fun W hW => by
          have k1 := hW w.heap.size (by omega) (by omega) (fun e => by have := (HLT.out _ e.symm).1; omega)
          have k2 := hW bb (by omega) (by omega) (fun e => by have := (HLT.out _ e.symm).1; omega)
          exact ⟨(cell_of_block k1 _).trans d3, (cell_of_block k2 _).trans h0, (cell_of_block k2 _).trans h1, (cell_of_block k2 _).trans h2, (cell_of_block k2 _).trans h3⟩
        have KS := Lib.hid KS
        generalize x.l[j] = y at h0 h1 h2 h3 HI HMX KS
        clear hA h4 h4' hm hO hb hbx hrs hbo d3
        rw [hml] at hoV
        subst hoV
        generalize hP : y.mv d = z at HI HMX
        clear hP
        go_wp2
        refine wp_region_held_drew (S := (fun W => W.cell? ⟨w.heap.size, 3, none⟩ = some (.slice (some ⟨bb, o, none⟩) x.l.length c) ∧ W.cell? ⟨bb, o + j * 4, none⟩ = some (.int .u8 y.k) ∧ W.cell? ⟨bb, o + j * 4 + 1, none⟩ = some (.string y.s) ∧ W.cell? ⟨bb, o + j * 4 + 2, none⟩ = some (.int .i64 y.n) ∧ W.cell? ⟨bb, o + j * 4 + 3, none⟩ = some (.slice Au y.l.length cu))) (by kernel_rfl) ?_ (fun hHeld => ?_)
        · exact (KS.out _ (fun i h1 h2 h3 => rfl))
        change wpAnyH _ .any _ _ _ 13 (Array.replicate 13 false) _ _
        refine wpAnyH_take (i := 0) (oi := ⟨some 24, _, _, _, _, _⟩) (v := ?_) rfl (by kernel_rfl) (by kernel_rfl) (by kernel_rfl) (fun _ _ _ h => h) (Or.inl ⟨by rfl, ?_⟩) (by assumption) ?_
        rotate_left
        · (intro w hSw; (try dsimp only at hSw); go_simp; try (with_reducible rfl))
        (try simp only [Act.put, List.setIfInBounds_toArray, List.set_cons_zero, List.set_cons_succ])
        refine wpAnyH_take (i := 2) (oi := ⟨some 26, _, _, _, _, _⟩) (v := ?_) rfl (by kernel_rfl) (by kernel_rfl) (by kernel_rfl) (fun _ _ _ h => h) (Or.inl ⟨by rfl, ?_⟩) (by assumption) ?_
        rotate_left
        · (intro w hSw; (try dsimp only at hSw); go_simp; try (with_reducible rfl))
        (try simp only [Act.put, List.setIfInBounds_toArray, List.set_cons_zero, List.set_cons_succ])
        refine wpAnyH_take (i := 3) (oi := ⟨some 27, _, _, _, _, _⟩) (v := ?_) rfl (by kernel_rfl) (by kernel_rfl) (by kernel_rfl) (fun _ _ _ h => h) (Or.inl ⟨by rfl, ?_⟩) (by assumption) ?_
        rotate_left
        · (intro w hSw; (try dsimp only at hSw); go_simp; try (with_reducible rfl))
        (try simp only [Act.put, List.setIfInBounds_toArray, List.set_cons_zero, List.set_cons_succ])
        refine wpAnyH_take (i := 4) (oi := ⟨some 28, _, _, _, _, _⟩) (v := ?_) rfl (by kernel_rfl) (by kernel_rfl) (by kernel_rfl) (fun _ _ _ h => h) (Or.inl ⟨by rfl, ?_⟩) (by assumption) ?_
        rotate_left
        · (intro w hSw; (try dsimp only at hSw); go_simp; try (with_reducible rfl))
        (try simp only [Act.put, List.setIfInBounds_toArray, List.set_cons_zero, List.set_cons_succ])
        refine wpAnyH_take (i := 5) (oi := ⟨some 29, _, _, _, _, _⟩) (v := ?_) rfl (by kernel_rfl) (by kernel_rfl) (by kernel_rfl) (fun _ _ _ h => h) (Or.inl ⟨by rfl, ?_⟩) (by assumption) ?_
        rotate_left
        · (intro w hSw; (try dsimp only at hSw); go_simp; try (with_reducible rfl))
        (try simp only [Act.put, List.setIfInBounds_toArray, List.set_cons_zero, List.set_cons_succ])
        refine wpAnyH_take (i := 6) (oi := ⟨some 30, _, _, _, _, _⟩) (v := ?_) rfl (by kernel_rfl) (by kernel_rfl) (by kernel_rfl) (fun _ _ _ h => h) (Or.inl ⟨by rfl, ?_⟩) (by assumption) ?_
        rotate_left
        · (intro w hSw; (try dsimp only at hSw); go_simp; try (with_reducible rfl))
        (try simp only [Act.put, List.setIfInBounds_toArray, List.set_cons_zero, List.set_cons_succ])
        refine wpAnyH_take (i := 7) (oi := ⟨some 31, _, _, _, _, _⟩) (v := ?_) rfl (by kernel_rfl) (by kernel_rfl) (by kernel_rfl) (fun _ _ _ h => h) (Or.inl ⟨by rfl, ?_⟩) (by assumption) ?_
        rotate_left
        · (intro w hSw; (try dsimp only at hSw); go_simp; try (with_reducible rfl))
        (try simp only [Act.put, List.setIfInBounds_toArray, List.set_cons_zero, List.set_cons_succ])
        refine wpAnyH_ready (rs := [1, 8]) (by kernel_rfl) (by simp) ?_
        refine AllReadyH.cons (o := ⟨some 25, _, _, _, _, _⟩) rfl (fun K hK => ?_) ?_
        · skip
          go_simp
          refine hK.out _ _ (KS.out _ (fun i h1 h2 h3 => rfl)) (fun hHeld => ?_)
          clear hK K
          (try simp only [Act.put, List.setIfInBounds_toArray, List.set_cons_zero, List.set_cons_succ])
          refine wpAnyH_ready (rs := [8]) (by kernel_rfl) (by simp) ?_
          refine AllReadyH.cons (o := ⟨some 32, _, _, _, _, _⟩) rfl (fun K hK => ?_) AllReadyH.nil
          go_simp
          go_at_call 27
          refine (HI.out _ (Below.refl _ wr).drew).mono ?_
          rintro e W5 ⟨⟨u5, rfl, hu5⟩, hb5⟩
          obtain ⟨uu5, rfl, huS⟩ := hu5
          obtain ⟨rA, rc, rfl⟩ := huS.form
          replace hb5 : Below wr.heap.size wr W5 := below_then (Below.refl _ wr).drew (Nat.le_refl _) hb5
          have hz5 := hb5.size
          have hlo5 : (w.heap.size + 1 + 1) < W5.heap.size := by omega
          obtain ⟨e0', e1', e2', e3', -, -, -, -⟩ := box4 (block_below hb5 hbol HBO.out)
          go_wp2_with fail
          refine hK.out _ _ (KS.out _ (fun i h1 h2 h3 => hb5.block i h1)) (fun hHeld => ?_)
          clear hK K
          (try simp only [Act.put, List.setIfInBounds_toArray, List.set_cons_zero, List.set_cons_succ])
          refine wpAnyH_ready (rs := [9]) (by kernel_rfl) (by simp) ?_
          refine AllReadyH.cons (o := ⟨some 33, _, _, _, _, _⟩) rfl (fun K hK => ?_) AllReadyH.nil
          go_simp
          refine hK.out _ _ (KS.out _ (fun i h1 h2 h3 => (Below.heap_alloc _ _ _ (by omega)).trans (hb5.block i h1))) (fun hHeld => ?_)
          clear hK K
          (try simp only [Act.put, List.setIfInBounds_toArray, List.set_cons_zero, List.set_cons_succ])
          refine wpAnyH_ready (rs := [10]) (by kernel_rfl) (by simp) ?_
          refine AllReadyH.cons (o := ⟨some 34, _, _, _, _, _⟩) rfl (fun K hK => ?_) AllReadyH.nil
          refine if_t (by rfl) (opwp_of_list (ops := #[]) rfl ?_)
          have hy5 : Kd.tm.K W5 (fun b => ((w.heap.size + 1 + 1) + 1 ≤ b) ∧ some b ≠ (Value.slice oA j oc).ownBlock) z [.int .u8 z.k, .string z.s, .int .i64 z.n, .slice rA z.l.length rc] := TmK_iff.2 ⟨_, rfl, huS.mono (fun i hi => ⟨(by simp only [World.size_drew] at hi; omega), fun e => by have := HLT.out _ e.symm; simp only [World.size_drew] at hi; omega⟩)⟩
          have hO5 := Kd.Own.below hb5 HO.out
          have hbase5 : (w.heap.size + 1 + 1) + 1 ≤ W5.heap.size := by omega
          have hl5 : (((x.l.take j).map (Tm.mv d)).length + 1) * 56 ≤ 140737488355328 := by rw [hml]; omega
          have hl6 : ((x.l.take j).map (Tm.mv d) ++ [z]).length = j + 1 := by simp only [List.length_append, hml]; rfl
          refine Kd.append Kd.tm (W := W5) ((w.heap.size + 1 + 1) + 1) (fun b => (w.heap.size + 1 + 1) + 1 ≤ b) rfl (.tmp 25) (.tmp 33) 22 24 (.agg #[.int .u8 0, .string ⟨#[]⟩, .int .i64 0, .slice none 0 0]) 56 rfl Try.underlying22 Try.infoT rfl (by decide) (.slice oA j oc) (((x.l.take j).map (Tm.mv d))) (z) [.int .u8 z.k, .string z.s, .int .i64 z.n, .slice rA z.l.length rc] rfl rfl hy5 hO5 hbase5 hl5 ?_
          intro v6 w6 hO6 hg6 hat6
          obtain ⟨A6, c6, hv6⟩ := Kd.Own.form hO6
          rw [hl6] at hv6
          subst hv6
          change K _ _
          refine hK.out _ _ (KS.out _ (fun i h1 h2 h3 => (hg6.block i (by omega) h3).trans (hb5.block i h1))) (fun hHeld => ?_)
          clear hK K
          (try simp only [Act.put, List.setIfInBounds_toArray, List.set_cons_zero, List.set_cons_succ])
          refine wpAnyH_take (i := 11) (oi := ⟨some 35, _, _, _, _, _⟩) (v := ?_) rfl (by kernel_rfl) (by kernel_rfl) (by kernel_rfl) (fun _ _ _ h => h) (Or.inl ⟨by rfl, ?_⟩) (by assumption) ?_
          rotate_left
          · (intro w hSw; (try dsimp only at hSw); go_simp; try (with_reducible rfl))
          (try simp only [Act.put, List.setIfInBounds_toArray, List.set_cons_zero, List.set_cons_succ])
          have hgs6 := hg6.size
          have hbo6 := (hg6.block (w.heap.size + 1 + 1) hlo5 (fun e => by have := (HLT.out _ e.symm).1; omega)).trans (block_below hb5 hbol HBO.out)
          obtain ⟨k0, k1, k2, k3, m0, m1, m2, m3⟩ := box4 hbo6
          refine wpAnyH_ready (rs := [12]) (by kernel_rfl) (by simp) ?_
          refine AllReadyH.cons (o := ⟨none, _, _, _, _, _⟩) rfl (fun K hK => ?_) AllReadyH.nil
          go_simp
          refine hK.out _ _ (KS.out _ (fun i h1 h2 h3 => ((grown_set w6 (w.heap.size + 1 + 1) 3 _).block i (by omega) (fun e => h2 (by injection e))).trans ((hg6.block i (by omega) h3).trans (hb5.block i h1)))) (fun hHeld => ?_)
          clear hK K
          (try simp only [Act.put, List.setIfInBounds_toArray, List.set_cons_zero, List.set_cons_succ])
          refine wpAnyH_done (by kernel_rfl) ?_ _
          go_wp2
          go_roundw
          case rel =>
            have hk7 : ∀ i, i < wr.heap.size → i ≠ (w.heap.size + 1 + 1) → some i ≠ (Value.slice oA j oc).ownBlock → (w6.setCell ⟨w.heap.size + 1 + 1, 3, none⟩ (.slice A6 (j + 1) c6)).heap[i]? = wr.heap[i]? := fun i h1 h2 h3 => ((grown_set w6 (w.heap.size + 1 + 1) 3 _).block i (by omega) (fun e => h2 (by injection e))).trans ((hg6.block i (by omega) h3).trans (hb5.block i h1))
            have hb7 := below_of_grown (gfresh' (gfresh' (gnone (below_then HB.out HB.out.size hb5)) hg6 (fun k hk => by have := (HLT.out k hk).1; omega)) (grown_set w6 (w.heap.size + 1 + 1) 3 (.slice A6 (j + 1) c6)) (fun k hk => by injection hk; omega))
            have hO7 := Kd.Own.grown (grown_set w6 (w.heap.size + 1 + 1) 3 (.slice A6 (j + 1) c6)) (fun b hb he => by injection he; omega) (.inr (fun he => by have := (Kd.Own.lt hO6 _ he).1; omega)) hO6
            refine ⟨j + 1, .slice A6 (j + 1) c6, by omega, by go_num, by simp [World.setCell, Array.getElem?_modify, hbo6], by rw [HMX.out]; exact hO7, hb7, (hk7 _ (by omega) (by omega) (fun e => by have := (HLT.out _ e.symm).1; omega)).trans HBX.out, (hk7 _ (by omega) (by omega) (fun e => by have := (HLT.out _ e.symm).1; omega)).trans HRS.out⟩
          case measure => simp [intOf]; omega
        refine AllReadyH.cons (o := ⟨some 32, _, _, _, _, _⟩) rfl (fun K hK => ?_) AllReadyH.nil
        go_simp
        go_at_call 27
        refine (HI.out _ (Below.refl _ wr).drew).mono ?_
        rintro e W5 ⟨⟨u5, rfl, hu5⟩, hb5⟩
        obtain ⟨uu5, rfl, huS⟩ := hu5
        obtain ⟨rA, rc, rfl⟩ := huS.form
        replace hb5 : Below wr.heap.size wr W5 := below_then (Below.refl _ wr).drew (Nat.le_refl _) hb5
        have hz5 := hb5.size
        have hlo5 : (w.heap.size + 1 + 1) < W5.heap.size := by omega
        obtain ⟨e0', e1', e2', e3', -, -, -, -⟩ := box4 (block_below hb5 hbol HBO.out)
        go_wp2_with fail
        refine hK.out _ _ (KS.out _ (fun i h1 h2 h3 => hb5.block i h1)) (fun hHeld => ?_)
        clear hK K
        (try simp only [Act.put, List.setIfInBounds_toArray, List.set_cons_zero, List.set_cons_succ])
        refine wpAnyH_ready (rs := [1, 9]) (by kernel_rfl) (by simp) ?_
        refine AllReadyH.cons (o := ⟨some 25, _, _, _, _, _⟩) rfl (fun K hK => ?_) ?_
        · skip
          go_simp
          refine hK.out _ _ (KS.out _ (fun i h1 h2 h3 => hb5.block i h1)) (fun hHeld => ?_)
          clear hK K
          (try simp only [Act.put, List.setIfInBounds_toArray, List.set_cons_zero, List.set_cons_succ])
          refine wpAnyH_ready (rs := [9]) (by kernel_rfl) (by simp) ?_
          refine AllReadyH.cons (o := ⟨some 33, _, _, _, _, _⟩) rfl (fun K hK => ?_) AllReadyH.nil
          go_simp
          refine hK.out _ _ (KS.out _ (fun i h1 h2 h3 => (Below.heap_alloc _ _ _ (by omega)).trans (hb5.block i h1))) (fun hHeld => ?_)
          clear hK K
          (try simp only [Act.put, List.setIfInBounds_toArray, List.set_cons_zero, List.set_cons_succ])
          refine wpAnyH_ready (rs := [10]) (by kernel_rfl) (by simp) ?_
          refine AllReadyH.cons (o := ⟨some 34, _, _, _, _, _⟩) rfl (fun K hK => ?_) AllReadyH.nil
          refine if_t (by rfl) (opwp_of_list (ops := #[]) rfl ?_)
          have hy5 : Kd.tm.K W5 (fun b => ((w.heap.size + 1 + 1) + 1 ≤ b) ∧ some b ≠ (Value.slice oA j oc).ownBlock) z [.int .u8 z.k, .string z.s, .int .i64 z.n, .slice rA z.l.length rc] := TmK_iff.2 ⟨_, rfl, huS.mono (fun i hi => ⟨(by simp only [World.size_drew] at hi; omega), fun e => by have := HLT.out _ e.symm; simp only [World.size_drew] at hi; omega⟩)⟩
          have hO5 := Kd.Own.below hb5 HO.out
          have hbase5 : (w.heap.size + 1 + 1) + 1 ≤ W5.heap.size := by omega
          have hl5 : (((x.l.take j).map (Tm.mv d)).length + 1) * 56 ≤ 140737488355328 := by rw [hml]; omega
          have hl6 : ((x.l.take j).map (Tm.mv d) ++ [z]).length = j + 1 := by simp only [List.length_append, hml]; rfl
          refine Kd.append Kd.tm (W := W5) ((w.heap.size + 1 + 1) + 1) (fun b => (w.heap.size + 1 + 1) + 1 ≤ b) rfl (.tmp 25) (.tmp 33) 22 24 (.agg #[.int .u8 0, .string ⟨#[]⟩, .int .i64 0, .slice none 0 0]) 56 rfl Try.underlying22 Try.infoT rfl (by decide) (.slice oA j oc) (((x.l.take j).map (Tm.mv d))) (z) [.int .u8 z.k, .string z.s, .int .i64 z.n, .slice rA z.l.length rc] rfl rfl hy5 hO5 hbase5 hl5 ?_
          intro v6 w6 hO6 hg6 hat6
          obtain ⟨A6, c6, hv6⟩ := Kd.Own.form hO6
          rw [hl6] at hv6
          subst hv6
          change K _ _
          refine hK.out _ _ (KS.out _ (fun i h1 h2 h3 => (hg6.block i (by omega) h3).trans (hb5.block i h1))) (fun hHeld => ?_)
          clear hK K
          (try simp only [Act.put, List.setIfInBounds_toArray, List.set_cons_zero, List.set_cons_succ])
          refine wpAnyH_take (i := 11) (oi := ⟨some 35, _, _, _, _, _⟩) (v := ?_) rfl (by kernel_rfl) (by kernel_rfl) (by kernel_rfl) (fun _ _ _ h => h) (Or.inl ⟨by rfl, ?_⟩) (by assumption) ?_
          rotate_left
          · (intro w hSw; (try dsimp only at hSw); go_simp; try (with_reducible rfl))
          (try simp only [Act.put, List.setIfInBounds_toArray, List.set_cons_zero, List.set_cons_succ])
          have hgs6 := hg6.size
          have hbo6 := (hg6.block (w.heap.size + 1 + 1) hlo5 (fun e => by have := (HLT.out _ e.symm).1; omega)).trans (block_below hb5 hbol HBO.out)
          obtain ⟨k0, k1, k2, k3, m0, m1, m2, m3⟩ := box4 hbo6
          refine wpAnyH_ready (rs := [12]) (by kernel_rfl) (by simp) ?_
          refine AllReadyH.cons (o := ⟨none, _, _, _, _, _⟩) rfl (fun K hK => ?_) AllReadyH.nil
          go_simp
          refine hK.out _ _ (KS.out _ (fun i h1 h2 h3 => ((grown_set w6 (w.heap.size + 1 + 1) 3 _).block i (by omega) (fun e => h2 (by injection e))).trans ((hg6.block i (by omega) h3).trans (hb5.block i h1)))) (fun hHeld => ?_)
          clear hK K
          (try simp only [Act.put, List.setIfInBounds_toArray, List.set_cons_zero, List.set_cons_succ])
          refine wpAnyH_done (by kernel_rfl) ?_ _
          go_wp2
          go_roundw
          case rel =>
            have hk7 : ∀ i, i < wr.heap.size → i ≠ (w.heap.size + 1 + 1) → some i ≠ (Value.slice oA j oc).ownBlock → (w6.setCell ⟨w.heap.size + 1 + 1, 3, none⟩ (.slice A6 (j + 1) c6)).heap[i]? = wr.heap[i]? := fun i h1 h2 h3 => ((grown_set w6 (w.heap.size + 1 + 1) 3 _).block i (by omega) (fun e => h2 (by injection e))).trans ((hg6.block i (by omega) h3).trans (hb5.block i h1))
            have hb7 := below_of_grown (gfresh' (gfresh' (gnone (below_then HB.out HB.out.size hb5)) hg6 (fun k hk => by have := (HLT.out k hk).1; omega)) (grown_set w6 (w.heap.size + 1 + 1) 3 (.slice A6 (j + 1) c6)) (fun k hk => by injection hk; omega))
            have hO7 := Kd.Own.grown (grown_set w6 (w.heap.size + 1 + 1) 3 (.slice A6 (j + 1) c6)) (fun b hb he => by injection he; omega) (.inr (fun he => by have := (Kd.Own.lt hO6 _ he).1; omega)) hO6
            refine ⟨j + 1, .slice A6 (j + 1) c6, by omega, by go_num, by simp [World.setCell, Array.getElem?_modify, hbo6], by rw [HMX.out]; exact hO7, hb7, (hk7 _ (by omega) (by omega) (fun e => by have := (HLT.out _ e.symm).1; omega)).trans HBX.out, (hk7 _ (by omega) (by omega) (fun e => by have := (HLT.out _ e.symm).1; omega)).trans HRS.out⟩
          case measure => simp [intOf]; omega
        refine AllReadyH.cons (o := ⟨some 33, _, _, _, _, _⟩) rfl (fun K hK => ?_) AllReadyH.nil
        go_simp
        refine hK.out _ _ (KS.out _ (fun i h1 h2 h3 => (Below.heap_alloc _ _ _ (by omega)).trans (hb5.block i h1))) (fun hHeld => ?_)
        clear hK K
        (try simp only [Act.put, List.setIfInBounds_toArray, List.set_cons_zero, List.set_cons_succ])
        refine wpAnyH_ready (rs := [1]) (by kernel_rfl) (by simp) ?_
        refine AllReadyH.cons (o := ⟨some 25, _, _, _, _, _⟩) rfl (fun K hK => ?_) AllReadyH.nil
        go_simp
        refine hK.out _ _ (KS.out _ (fun i h1 h2 h3 => (Below.heap_alloc _ _ _ (by omega)).trans (hb5.block i h1))) (fun hHeld => ?_)
        clear hK K
        (try simp only [Act.put, List.setIfInBounds_toArray, List.set_cons_zero, List.set_cons_succ])
        refine wpAnyH_ready (rs := [10]) (by kernel_rfl) (by simp) ?_
        refine AllReadyH.cons (o := ⟨some 34, _, _, _, _, _⟩) rfl (fun K hK => ?_) AllReadyH.nil
        refine if_t (by rfl) (opwp_of_list (ops := #[]) rfl ?_)
        have hy5 : Kd.tm.K W5 (fun b => ((w.heap.size + 1 + 1) + 1 ≤ b) ∧ some b ≠ (Value.slice oA j oc).ownBlock) z [.int .u8 z.k, .string z.s, .int .i64 z.n, .slice rA z.l.length rc] := TmK_iff.2 ⟨_, rfl, huS.mono (fun i hi => ⟨(by simp only [World.size_drew] at hi; omega), fun e => by have := HLT.out _ e.symm; simp only [World.size_drew] at hi; omega⟩)⟩
        have hO5 := Kd.Own.below hb5 HO.out
        have hbase5 : (w.heap.size + 1 + 1) + 1 ≤ W5.heap.size := by omega
        have hl5 : (((x.l.take j).map (Tm.mv d)).length + 1) * 56 ≤ 140737488355328 := by rw [hml]; omega
        have hl6 : ((x.l.take j).map (Tm.mv d) ++ [z]).length = j + 1 := by simp only [List.length_append, hml]; rfl
        refine Kd.append Kd.tm (W := W5) ((w.heap.size + 1 + 1) + 1) (fun b => (w.heap.size + 1 + 1) + 1 ≤ b) rfl (.tmp 25) (.tmp 33) 22 24 (.agg #[.int .u8 0, .string ⟨#[]⟩, .int .i64 0, .slice none 0 0]) 56 rfl Try.underlying22 Try.infoT rfl (by decide) (.slice oA j oc) (((x.l.take j).map (Tm.mv d))) (z) [.int .u8 z.k, .string z.s, .int .i64 z.n, .slice rA z.l.length rc] rfl rfl hy5 hO5 hbase5 hl5 ?_
        intro v6 w6 hO6 hg6 hat6
        obtain ⟨A6, c6, hv6⟩ := Kd.Own.form hO6
        rw [hl6] at hv6
        subst hv6
        change K _ _
        refine hK.out _ _ (KS.out _ (fun i h1 h2 h3 => (hg6.block i (by omega) h3).trans (hb5.block i h1))) (fun hHeld => ?_)
        clear hK K
        (try simp only [Act.put, List.setIfInBounds_toArray, List.set_cons_zero, List.set_cons_succ])
        refine wpAnyH_take (i := 11) (oi := ⟨some 35, _, _, _, _, _⟩) (v := ?_) rfl (by kernel_rfl) (by kernel_rfl) (by kernel_rfl) (fun _ _ _ h => h) (Or.inl ⟨by rfl, ?_⟩) (by assumption) ?_
        rotate_left
        · (intro w hSw; (try dsimp only at hSw); go_simp; try (with_reducible rfl))
        (try simp only [Act.put, List.setIfInBounds_toArray, List.set_cons_zero, List.set_cons_succ])
        have hgs6 := hg6.size
        have hbo6 := (hg6.block (w.heap.size + 1 + 1) hlo5 (fun e => by have := (HLT.out _ e.symm).1; omega)).trans (block_below hb5 hbol HBO.out)
        obtain ⟨k0, k1, k2, k3, m0, m1, m2, m3⟩ := box4 hbo6
        refine wpAnyH_ready (rs := [12]) (by kernel_rfl) (by simp) ?_
        refine AllReadyH.cons (o := ⟨none, _, _, _, _, _⟩) rfl (fun K hK => ?_) AllReadyH.nil
        go_simp
        refine hK.out _ _ (KS.out _ (fun i h1 h2 h3 => ((grown_set w6 (w.heap.size + 1 + 1) 3 _).block i (by omega) (fun e => h2 (by injection e))).trans ((hg6.block i (by omega) h3).trans (hb5.block i h1)))) (fun hHeld => ?_)
        clear hK K
        (try simp only [Act.put, List.setIfInBounds_toArray, List.set_cons_zero, List.set_cons_succ])
        refine wpAnyH_done (by kernel_rfl) ?_ _
        go_wp2
        go_roundw
        case rel =>
          have hk7 : ∀ i, i < wr.heap.size → i ≠ (w.heap.size + 1 + 1) → some i ≠ (Value.slice oA j oc).ownBlock → (w6.setCell ⟨w.heap.size + 1 + 1, 3, none⟩ (.slice A6 (j + 1) c6)).heap[i]? = wr.heap[i]? := fun i h1 h2 h3 => ((grown_set w6 (w.heap.size + 1 + 1) 3 _).block i (by omega) (fun e => h2 (by injection e))).trans ((hg6.block i (by omega) h3).trans (hb5.block i h1))
          have hb7 := below_of_grown (gfresh' (gfresh' (gnone (below_then HB.out HB.out.size hb5)) hg6 (fun k hk => by have := (HLT.out k hk).1; omega)) (grown_set w6 (w.heap.size + 1 + 1) 3 (.slice A6 (j + 1) c6)) (fun k hk => by injection hk; omega))
          have hO7 := Kd.Own.grown (grown_set w6 (w.heap.size + 1 + 1) 3 (.slice A6 (j + 1) c6)) (fun b hb he => by injection he; omega) (.inr (fun he => by have := (Kd.Own.lt hO6 _ he).1; omega)) hO6
          refine ⟨j + 1, .slice A6 (j + 1) c6, by omega, by go_num, by simp [World.setCell, Array.getElem?_modify, hbo6], by rw [HMX.out]; exact hO7, hb7, (hk7 _ (by omega) (by omega) (fun e => by have := (HLT.out _ e.symm).1; omega)).trans HBX.out, (hk7 _ (by omega) (by omega) (fun e => by have := (HLT.out _ e.symm).1; omega)).trans HRS.out⟩
        case measure => simp [intOf]; omega
      · obtain rfl : j = x.l.length := by omega
        rw [List.take_of_length_le (Nat.le_refl _)] at hO
        rw [show ((x.l.take x.l.length).map (Tm.mv d)).length = x.l.length by simp] at hoV
        subst hoV
        obtain ⟨d0, d1, d2, d3, -, -, -, -⟩ := box4 hbx
        obtain ⟨e0, e1, e2, e3, -, -, -, -⟩ := box4 hbo
        obtain ⟨r0, r1, r2, r3, g0, g1, g2, g3⟩ := box4 hrs
        have HO := Lib.hid hO
        have HB := Lib.hid hb
        clear hO hb hbx hrs hbo
        go_wp2_with fail
        refine bodyPost_ret (v := .agg #[.int .u8 x.k, .string x.s, .int .i64 N, .slice oA x.l.length oc]) (by simp [results, Try.results27, go_sem, r0, r1, r2, r3]) rfl ?_
        have hg := grown_set4 wr (w.heap.size + 1) (.int .u8 x.k) (.string x.s) (.int .i64 N) (.slice oA x.l.length oc)
        refine ⟨⟨_, rfl, _, rfl, ?_⟩, below_of_grown (gfresh (gnone HB.out) hg (by omega))⟩
        refine Kd.S.mono (fun i hi => ?_) (Kd.S.grown hg (fun i hi e => by injection e; omega) ((Kd.Own.S HO.out).mono (ok' := fun b => (w.heap.size + 1 + 1) + 1 ≤ b) (fun i hi => hi.elim id id)))
        omega
end Go.Proofs.Ytdflckjnpgbjlaa

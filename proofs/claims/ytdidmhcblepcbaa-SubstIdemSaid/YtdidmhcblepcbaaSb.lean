/- The law's 'put': a term in the place of a variable. Conditions: the arguments read; terms of at most a million nodes. -/
import Derived.Test.YtdidmhcblepcbaaSa
set_option linter.unusedVariables false
set_option maxRecDepth 20000
set_option linter.unusedSimpArgs false
namespace Go.Proofs.Ytdidmhcblepcbaa
open Go.RowKit

mutual
/-- A term in the place of a variable. -/
def putT (q : Int) (by' : Tm) : Tm → Tm
  | ⟨k, s, n, l⟩ => if k = 1 ∧ n = q then by' else ⟨k, s, n, putL q by' l⟩
def putL (q : Int) (by' : Tm) : List Tm → List Tm
  | [] => []
  | t :: ts => putT q by' t :: putL q by' ts
end
theorem putL_map (q : Int) (by' : Tm) : ∀ l : List Tm, putL q by' l = l.map (putT q by')
  | [] => rfl
  | t :: ts => by simp only [putL, List.map_cons, putL_map q by' ts]
theorem put_def (q : Int) (by' t : Tm) : putT q by' t = if t.k = 1 ∧ t.n = q then by' else ⟨t.k, t.s, t.n, t.l.map (putT q by')⟩ := by
  cases t; simp only [putT, putL_map]
set_option maxRecDepth 100000 in
set_option maxHeartbeats 4000000 in
theorem put_c (q : Int) (y' : Tm) (t : Tm) : ∀ (v vb : Value) (w : World) (ok okb : Nat → Prop), TmV w ok t v → TmV w okb y' vb → t.siz ≤ 1000000 →
    Calls Try.prog 26 #[v, .int .i64 q, vb] w fun e w' => (∃ u, e = .returned u ∧ TmV w' (fun b => okb b ∨ w.heap.size ≤ b) (putT q y' t) u) ∧ Below w.heap.size w w' := by
  refine Tm.ind (p := fun t => ∀ (v vb : Value) (w : World) (ok okb : Nat → Prop), TmV w ok t v → TmV w okb y' vb → t.siz ≤ 1000000 →
    Calls Try.prog 26 #[v, .int .i64 q, vb] w fun e w' => (∃ u, e = .returned u ∧ TmV w' (fun b => okb b ∨ w.heap.size ≤ b) (putT q y' t) u) ∧ Below w.heap.size w w') (fun x ih => ?_) t
  intro v vb w ok okb hv hvb hsz
  obtain ⟨u, rfl, hvS⟩ := hv
  obtain ⟨A, c, rfl⟩ := hvS.form
  replace hvb := hvb.bound
  obtain ⟨ub, rfl, hbS⟩ := hvb
  obtain ⟨Ab, cb, rfl⟩ := hbS.form
  have hb3 : ∀ O O' O2 : Obj, Below w.heap.size w (((w.alloc O).alloc O').alloc O2) := fun O O' O2 => (((Below.refl _ w).alloc (Nat.le_refl _) _).alloc (by simp) _).alloc (by simp; omega) _
  have hxl := len_siz hsz
  rw [put_def]
  have HVS := Lib.hid (show Kd.tm.S w (fun b => b < w.heap.size) x.l (.slice A x.l.length c) from hvS.bound.mono (fun _ h => h.2))
  have HBS := Lib.hid hbS
  have HIH := Lib.hid ih
  by_cases hhit : x.k = 1 ∧ x.n = q
  · rw [if_pos hhit]
    obtain ⟨hk, hn⟩ := hhit
    have hk' : (x.k == 1) = true := by simpa using hk
    have hn' : (x.n == q) = true := by simpa using hn
    clear hk hn hvS hbS ih
    go_enter Try.func26, Try.ntmps26
    go_wp2
    refine bodyPost_ret (v := .agg #[.int .u8 y'.k, .string y'.s, .int .i64 y'.n, .slice Ab y'.l.length cb]) (by simp [results, Try.results26, go_sem]) rfl ?_
    exact ⟨⟨_, rfl, _, rfl, (Kd.S.below (hb3 _ _ _) HBS.out).mono (fun _ h => .inl h.1)⟩, hb3 _ _ _⟩
  rw [if_neg hhit]
  have hpost : ∀ e w', ((∃ u, e = Ending.returned u ∧ TmV w' (fun b => (okb b ∧ b < w.heap.size) ∨ w.heap.size ≤ b) ⟨x.k, x.s, x.n, x.l.map (putT q y')⟩ u) ∧ Below w.heap.size w w') → ((∃ u, e = Ending.returned u ∧ TmV w' (fun b => okb b ∨ w.heap.size ≤ b) ⟨x.k, x.s, x.n, x.l.map (putT q y')⟩ u) ∧ Below w.heap.size w w') := fun e w' ⟨⟨u, h1, h2⟩, h3⟩ => ⟨⟨u, h1, h2.mono (fun _ h => h.imp And.left id)⟩, h3⟩
  refine Calls.mono ?_ hpost
  have hG : ∃ g : Bool, ((x.k == 1) = true ∧ (x.n == q) = false ∨ (x.k == 1) = false) := by
    refine ⟨true, ?_⟩
    by_cases h1 : x.k = 1
    · left; refine ⟨by simpa using h1, ?_⟩; have : x.n ≠ q := fun h => hhit ⟨h1, h⟩; simpa using this
    · right; simpa using h1
  obtain ⟨-, hG⟩ := hG
  obtain ⟨W3, hW3e⟩ : ∃ W3, W3 = ((((w.alloc (.cells #[.int .u8 x.k, .string x.s, .int .i64 x.n, .slice A x.l.length c] 25)).alloc (.cells #[.int .u8 y'.k, .string y'.s, .int .i64 y'.n, .slice Ab y'.l.length cb] 25)).alloc (.cells #[.int .u8 0, .string ⟨#[]⟩, .int .i64 0, .slice none 0 0] 25)).alloc (.cells #[.int .u8 x.k, .string x.s, .int .i64 x.n, .slice none 0 0] 25)) := ⟨_, rfl⟩
  have hW3 : Below w.heap.size w W3 := by rw [hW3e]; exact (hb3 _ _ _).alloc (by simp; omega) _
  have hbx3 : W3.heap[w.heap.size]? = some (.cells #[.int .u8 x.k, .string x.s, .int .i64 x.n, .slice A x.l.length c] 25 (0, 0)) := by rw [hW3e]; repeat (first | exact heap_at _ _ _ (by simp) | refine (Below.heap_alloc _ _ _ (by simp <;> omega)).trans ?_)
  have hby3 : W3.heap[w.heap.size + 1]? = some (.cells #[.int .u8 y'.k, .string y'.s, .int .i64 y'.n, .slice Ab y'.l.length cb] 25 (0, 0)) := by rw [hW3e]; repeat (first | exact heap_at _ _ _ (by simp) | refine (Below.heap_alloc _ _ _ (by simp <;> omega)).trans ?_)
  have hrs3 : W3.heap[w.heap.size + 1 + 1]? = some (.cells #[.int .u8 0, .string ⟨#[]⟩, .int .i64 0, .slice none 0 0] 25 (0, 0)) := by rw [hW3e]; repeat (first | exact heap_at _ _ _ (by simp) | refine (Below.heap_alloc _ _ _ (by simp <;> omega)).trans ?_)
  have hbo3 : W3.heap[(w.heap.size + 1 + 1 + 1)]? = some (.cells #[.int .u8 x.k, .string x.s, .int .i64 x.n, .slice none 0 0] 25 (0, 0)) := by rw [hW3e]; exact heap_at _ _ _ (by simp)
  clear hvS hbS ih hpost hhit
  have HW3 := Lib.hid hW3e
  clear hW3e
  rcases hG with ⟨hk', hn'⟩ | hk'
  all_goals
    go_enter Try.func26, Try.ntmps26
    go_wp2
    rw [← HW3.out]
    go_loopw [8] (fun i wr => ∃ (j : Nat) (oV : Value), j ≤ x.l.length ∧ i = .int .i64 j ∧ wr.heap[(w.heap.size + 1 + 1 + 1)]? = some (.cells #[.int .u8 x.k, .string x.s, .int .i64 x.n, oV] 25 (0, 0)) ∧ Kd.tm.Own 25 wr ((w.heap.size + 1 + 1 + 1) + 1) (fun b => (okb b ∧ b < w.heap.size) ∨ (w.heap.size + 1 + 1 + 1) + 1 ≤ b) ((x.l.take j).map (putT q y')) oV ∧ Below w.heap.size w wr ∧
      wr.heap[w.heap.size]? = some (.cells #[.int .u8 x.k, .string x.s, .int .i64 x.n, .slice A x.l.length c] 25 (0, 0)) ∧ wr.heap[w.heap.size + 1]? = some (.cells #[.int .u8 y'.k, .string y'.s, .int .i64 y'.n, .slice Ab y'.l.length cb] 25 (0, 0)) ∧ wr.heap[w.heap.size + 1 + 1]? = some (.cells #[.int .u8 0, .string ⟨#[]⟩, .int .i64 0, .slice none 0 0] 25 (0, 0))) (fun i _ => x.l.length - (intOf i).toNat)
    case atStart => exact ⟨0, _, Nat.zero_le _, rfl, hbo3, by simpa using Kd.Own.nil _ _ _ _ _, hW3, hbx3, hby3, hrs3⟩
    case round =>
      clear hbo3 hW3 hbx3 hrs3 hby3
      obtain ⟨j, oV, hj, rfl, hbo, hO, hb, hbx, hby, hrs⟩ := hrel
      have hbol : (w.heap.size + 1 + 1 + 1) < wr.heap.size := (Array.getElem?_eq_some_iff.1 hbo).1
      obtain ⟨oA, oc, hoV⟩ := hO.form
      have HLT := Lib.hid hO.lt
      by_cases hlt : j < x.l.length
      · obtain ⟨A', c', eA, hl, hc, hA⟩ := Kd.S.bound (Kd.S.move (fun i hi => hb.block i hi) HVS.out)
        injection eA with eA1 eA2 eA3
        subst eA1 eA3
        clear eA2
        obtain ⟨bb, o, u, rfl, hokb, hlo, h0, h1, h2, h3, h4⟩ := tm_elem hA hlt
        have h4' : TmV wr (fun b => b < wr.heap.size) x.l[j] (.agg #[.int .u8 x.l[j].k, .string x.l[j].s, .int .i64 x.l[j].n, u]) := ⟨u, rfl, h4.mono (fun _ h => h.2)⟩
        obtain ⟨Au, cu, rfl⟩ := h4.form
        have hm := List.getElem_mem hlt
        have HI := Lib.hid (fun W (hW : Below wr.heap.size wr W) => HIH.out x.l[j] hm _ (.agg #[.int .u8 y'.k, .string y'.s, .int .i64 y'.n, .slice Ab y'.l.length cb]) W _ (fun b => okb b ∧ b < w.heap.size) (h4'.below hW) ⟨_, rfl, HBS.out.below (hb.trans (hW.mono hb.size))⟩ (siz_at hsz hm))
        have HMX := Lib.hid (show (x.l.take (j + 1)).map (putT q y') = (x.l.take j).map (putT q y') ++ [putT q y' x.l[j]] by rw [take_succ_at x.l hlt, List.map_append]; rfl)
        have HO := Lib.hid hO
        have HB := Lib.hid hb
        have HBX := Lib.hid hbx
        have HBY := Lib.hid hby
        have HRS := Lib.hid hrs
        have HBO := Lib.hid hbo
        have hml : ((x.l.take j).map (putT q y')).length = j := by rw [List.length_map, List.length_take]; omega
        have hne1 : bb < w.heap.size := hokb.1
        have hbs := hb.size
        obtain ⟨-, -, -, d3, -, -, -, -⟩ := box4 hbx
        obtain ⟨e0, e1, e2, e3, -, -, -, -⟩ := box4 hbo
        obtain ⟨y0, y1, y2, y3, -, -, -, -⟩ := box4 hby
        have KS : ∀ W : World, (∀ i, i < wr.heap.size → i ≠ (w.heap.size + 1 + 1 + 1) → some i ≠ oV.ownBlock → W.heap[i]? = wr.heap[i]?) → (W.cell? ⟨w.heap.size, 3, none⟩ = some (.slice (some ⟨bb, o, none⟩) x.l.length c) ∧ W.cell? ⟨bb, o + j * 4, none⟩ = some (.int .u8 x.l[j].k) ∧ W.cell? ⟨bb, o + j * 4 + 1, none⟩ = some (.string x.l[j].s) ∧ W.cell? ⟨bb, o + j * 4 + 2, none⟩ = some (.int .i64 x.l[j].n) ∧ W.cell? ⟨bb, o + j * 4 + 3, none⟩ = some (.slice Au x.l[j].l.length cu) ∧ W.cell? ⟨w.heap.size + 1, 0, none⟩ = some (.int .u8 y'.k) ∧ W.cell? ⟨w.heap.size + 1, 1, none⟩ = some (.string y'.s) ∧ W.cell? ⟨w.heap.size + 1, 2, none⟩ = some (.int .i64 y'.n) ∧ W.cell? ⟨w.heap.size + 1, 3, none⟩ = some (.slice Ab y'.l.length cb)) := fun W hW => by
          have k1 := hW w.heap.size (by omega) (by omega) (fun e => by have := (HLT.out _ e.symm).1; omega)
          have k2 := hW bb (by omega) (by omega) (fun e => by have := (HLT.out _ e.symm).1; omega)
          have k3 := hW (w.heap.size + 1) (by omega) (by omega) (fun e => by have := (HLT.out _ e.symm).1; omega)
          exact ⟨(cell_of_block k1 _).trans d3, (cell_of_block k2 _).trans h0, (cell_of_block k2 _).trans h1, (cell_of_block k2 _).trans h2, (cell_of_block k2 _).trans h3, (cell_of_block k3 _).trans y0, (cell_of_block k3 _).trans y1, (cell_of_block k3 _).trans y2, (cell_of_block k3 _).trans y3⟩
        have KS := Lib.hid KS
        generalize x.l[j] = y at h0 h1 h2 h3 HI HMX KS
        clear hA h4 h4' hm hO hb hbx hrs hbo hby d3
        rw [hml] at hoV
        subst hoV
        generalize hP : putT q y' y = z at HI HMX
        clear hP
        go_wp2
        refine wp_region_held_drew (S := (fun W => W.cell? ⟨w.heap.size, 3, none⟩ = some (.slice (some ⟨bb, o, none⟩) x.l.length c) ∧ W.cell? ⟨bb, o + j * 4, none⟩ = some (.int .u8 y.k) ∧ W.cell? ⟨bb, o + j * 4 + 1, none⟩ = some (.string y.s) ∧ W.cell? ⟨bb, o + j * 4 + 2, none⟩ = some (.int .i64 y.n) ∧ W.cell? ⟨bb, o + j * 4 + 3, none⟩ = some (.slice Au y.l.length cu) ∧ W.cell? ⟨w.heap.size + 1, 0, none⟩ = some (.int .u8 y'.k) ∧ W.cell? ⟨w.heap.size + 1, 1, none⟩ = some (.string y'.s) ∧ W.cell? ⟨w.heap.size + 1, 2, none⟩ = some (.int .i64 y'.n) ∧ W.cell? ⟨w.heap.size + 1, 3, none⟩ = some (.slice Ab y'.l.length cb))) (by kernel_rfl) ?_ (fun hHeld => ?_)
        · exact (KS.out _ (fun i h1 h2 h3 => rfl))
        change wpAnyH _ .any _ _ _ 14 (Array.replicate 14 false) _ _
        refine wpAnyH_take (i := 0) (oi := ⟨some 28, _, _, _, _, _⟩) (v := ?_) rfl (by kernel_rfl) (by kernel_rfl) (by kernel_rfl) (fun _ _ _ h => h) (Or.inl ⟨by rfl, ?_⟩) (by assumption) ?_
        rotate_left
        · (intro w hSw; (try dsimp only at hSw); go_simp; try (with_reducible rfl))
        (try simp only [Act.put, List.setIfInBounds_toArray, List.set_cons_zero, List.set_cons_succ])
        refine wpAnyH_take (i := 2) (oi := ⟨some 30, _, _, _, _, _⟩) (v := ?_) rfl (by kernel_rfl) (by kernel_rfl) (by kernel_rfl) (fun _ _ _ h => h) (Or.inl ⟨by rfl, ?_⟩) (by assumption) ?_
        rotate_left
        · (intro w hSw; (try dsimp only at hSw); go_simp; try (with_reducible rfl))
        (try simp only [Act.put, List.setIfInBounds_toArray, List.set_cons_zero, List.set_cons_succ])
        refine wpAnyH_take (i := 3) (oi := ⟨some 31, _, _, _, _, _⟩) (v := ?_) rfl (by kernel_rfl) (by kernel_rfl) (by kernel_rfl) (fun _ _ _ h => h) (Or.inl ⟨by rfl, ?_⟩) (by assumption) ?_
        rotate_left
        · (intro w hSw; (try dsimp only at hSw); go_simp; try (with_reducible rfl))
        (try simp only [Act.put, List.setIfInBounds_toArray, List.set_cons_zero, List.set_cons_succ])
        refine wpAnyH_take (i := 4) (oi := ⟨some 32, _, _, _, _, _⟩) (v := ?_) rfl (by kernel_rfl) (by kernel_rfl) (by kernel_rfl) (fun _ _ _ h => h) (Or.inl ⟨by rfl, ?_⟩) (by assumption) ?_
        rotate_left
        · (intro w hSw; (try dsimp only at hSw); go_simp; try (with_reducible rfl))
        (try simp only [Act.put, List.setIfInBounds_toArray, List.set_cons_zero, List.set_cons_succ])
        refine wpAnyH_take (i := 5) (oi := ⟨some 33, _, _, _, _, _⟩) (v := ?_) rfl (by kernel_rfl) (by kernel_rfl) (by kernel_rfl) (fun _ _ _ h => h) (Or.inl ⟨by rfl, ?_⟩) (by assumption) ?_
        rotate_left
        · (intro w hSw; (try dsimp only at hSw); go_simp; try (with_reducible rfl))
        (try simp only [Act.put, List.setIfInBounds_toArray, List.set_cons_zero, List.set_cons_succ])
        refine wpAnyH_take (i := 6) (oi := ⟨some 34, _, _, _, _, _⟩) (v := ?_) rfl (by kernel_rfl) (by kernel_rfl) (by kernel_rfl) (fun _ _ _ h => h) (Or.inl ⟨by rfl, ?_⟩) (by assumption) ?_
        rotate_left
        · (intro w hSw; (try dsimp only at hSw); go_simp; try (with_reducible rfl))
        (try simp only [Act.put, List.setIfInBounds_toArray, List.set_cons_zero, List.set_cons_succ])
        refine wpAnyH_take (i := 7) (oi := ⟨some 35, _, _, _, _, _⟩) (v := ?_) rfl (by kernel_rfl) (by kernel_rfl) (by kernel_rfl) (fun _ _ _ h => h) (Or.inl ⟨by rfl, ?_⟩) (by assumption) ?_
        rotate_left
        · (intro w hSw; (try dsimp only at hSw); go_simp; try (with_reducible rfl))
        (try simp only [Act.put, List.setIfInBounds_toArray, List.set_cons_zero, List.set_cons_succ])
        refine wpAnyH_take (i := 8) (oi := ⟨some 36, _, _, _, _, _⟩) (v := ?_) rfl (by kernel_rfl) (by kernel_rfl) (by kernel_rfl) (fun _ _ _ h => h) (Or.inl ⟨by rfl, ?_⟩) (by assumption) ?_
        rotate_left
        · (intro w hSw; (try dsimp only at hSw); go_simp; try (with_reducible rfl))
        (try simp only [Act.put, List.setIfInBounds_toArray, List.set_cons_zero, List.set_cons_succ])
        refine wpAnyH_ready (rs := [1, 9]) (by kernel_rfl) (by simp) ?_
        refine AllReadyH.cons (o := ⟨some 29, _, _, _, _, _⟩) rfl (fun K hK => ?_) ?_
        · skip
          go_simp
          refine hK.out _ _ (KS.out _ (fun i h1 h2 h3 => rfl)) (fun hHeld => ?_)
          clear hK K
          (try simp only [Act.put, List.setIfInBounds_toArray, List.set_cons_zero, List.set_cons_succ])
          refine wpAnyH_ready (rs := [9]) (by kernel_rfl) (by simp) ?_
          refine AllReadyH.cons (o := ⟨some 37, _, _, _, _, _⟩) rfl (fun K hK => ?_) AllReadyH.nil
          go_simp
          go_at_call 26
          refine (HI.out _ (Below.refl _ wr).drew).mono ?_
          rintro e W5 ⟨⟨u5, rfl, hu5⟩, hb5⟩
          obtain ⟨uu5, rfl, huS⟩ := hu5
          obtain ⟨rA, rc, rfl⟩ := huS.form
          replace hb5 : Below wr.heap.size wr W5 := below_then (Below.refl _ wr).drew (Nat.le_refl _) hb5
          have hz5 := hb5.size
          have hlo5 : (w.heap.size + 1 + 1 + 1) < W5.heap.size := by omega
          obtain ⟨e0', e1', e2', e3', -, -, -, -⟩ := box4 (block_below hb5 hbol HBO.out)
          go_wp2_with fail
          refine hK.out _ _ (KS.out _ (fun i h1 h2 h3 => hb5.block i h1)) (fun hHeld => ?_)
          clear hK K
          (try simp only [Act.put, List.setIfInBounds_toArray, List.set_cons_zero, List.set_cons_succ])
          refine wpAnyH_ready (rs := [10]) (by kernel_rfl) (by simp) ?_
          refine AllReadyH.cons (o := ⟨some 38, _, _, _, _, _⟩) rfl (fun K hK => ?_) AllReadyH.nil
          go_simp
          refine hK.out _ _ (KS.out _ (fun i h1 h2 h3 => (Below.heap_alloc _ _ _ (by omega)).trans (hb5.block i h1))) (fun hHeld => ?_)
          clear hK K
          (try simp only [Act.put, List.setIfInBounds_toArray, List.set_cons_zero, List.set_cons_succ])
          refine wpAnyH_ready (rs := [11]) (by kernel_rfl) (by simp) ?_
          refine AllReadyH.cons (o := ⟨some 39, _, _, _, _, _⟩) rfl (fun K hK => ?_) AllReadyH.nil
          refine if_t (by rfl) (opwp_of_list (ops := #[]) rfl ?_)
          have hy5 : Kd.tm.K W5 (fun b => ((okb b ∧ b < w.heap.size) ∨ (w.heap.size + 1 + 1 + 1) + 1 ≤ b) ∧ some b ≠ (Value.slice oA j oc).ownBlock) z [.int .u8 z.k, .string z.s, .int .i64 z.n, .slice rA z.l.length rc] := TmK_iff.2 ⟨_, rfl, huS.mono (fun i hi => ⟨hi.imp id (fun h => by simp only [World.size_drew] at h; omega), fun e => by have := HLT.out _ e.symm; simp only [World.size_drew] at hi; omega⟩)⟩
          have hO5 := Kd.Own.below hb5 HO.out
          have hbase5 : (w.heap.size + 1 + 1 + 1) + 1 ≤ W5.heap.size := by omega
          have hl5 : (((x.l.take j).map (putT q y')).length + 1) * 56 ≤ 140737488355328 := by rw [hml]; omega
          have hl6 : ((x.l.take j).map (putT q y') ++ [z]).length = j + 1 := by simp only [List.length_append, hml]; rfl
          refine Kd.append Kd.tm (W := W5) ((w.heap.size + 1 + 1 + 1) + 1) (fun b => (okb b ∧ b < w.heap.size) ∨ (w.heap.size + 1 + 1 + 1) + 1 ≤ b) rfl (.tmp 29) (.tmp 38) 23 25 (.agg #[.int .u8 0, .string ⟨#[]⟩, .int .i64 0, .slice none 0 0]) 56 rfl Try.underlying23 Try.infoT rfl (by decide) (.slice oA j oc) (((x.l.take j).map (putT q y'))) (z) [.int .u8 z.k, .string z.s, .int .i64 z.n, .slice rA z.l.length rc] rfl rfl hy5 hO5 hbase5 hl5 ?_
          intro v6 w6 hO6 hg6 hat6
          obtain ⟨A6, c6, hv6⟩ := Kd.Own.form hO6
          rw [hl6] at hv6
          subst hv6
          change K _ _
          refine hK.out _ _ (KS.out _ (fun i h1 h2 h3 => (hg6.block i (by omega) h3).trans (hb5.block i h1))) (fun hHeld => ?_)
          clear hK K
          (try simp only [Act.put, List.setIfInBounds_toArray, List.set_cons_zero, List.set_cons_succ])
          refine wpAnyH_take (i := 12) (oi := ⟨some 40, _, _, _, _, _⟩) (v := ?_) rfl (by kernel_rfl) (by kernel_rfl) (by kernel_rfl) (fun _ _ _ h => h) (Or.inl ⟨by rfl, ?_⟩) (by assumption) ?_
          rotate_left
          · (intro w hSw; (try dsimp only at hSw); go_simp; try (with_reducible rfl))
          (try simp only [Act.put, List.setIfInBounds_toArray, List.set_cons_zero, List.set_cons_succ])
          have hgs6 := hg6.size
          have hbo6 := (hg6.block (w.heap.size + 1 + 1 + 1) hlo5 (fun e => by have := (HLT.out _ e.symm).1; omega)).trans (block_below hb5 hbol HBO.out)
          obtain ⟨k0, k1, k2, k3, m0, m1, m2, m3⟩ := box4 hbo6
          refine wpAnyH_ready (rs := [13]) (by kernel_rfl) (by simp) ?_
          refine AllReadyH.cons (o := ⟨none, _, _, _, _, _⟩) rfl (fun K hK => ?_) AllReadyH.nil
          go_simp
          refine hK.out _ _ (KS.out _ (fun i h1 h2 h3 => ((grown_set w6 (w.heap.size + 1 + 1 + 1) 3 _).block i (by omega) (fun e => h2 (by injection e))).trans ((hg6.block i (by omega) h3).trans (hb5.block i h1)))) (fun hHeld => ?_)
          clear hK K
          (try simp only [Act.put, List.setIfInBounds_toArray, List.set_cons_zero, List.set_cons_succ])
          refine wpAnyH_done (by kernel_rfl) ?_ _
          go_wp2
          go_roundw
          case rel =>
            have hk7 : ∀ i, i < wr.heap.size → i ≠ (w.heap.size + 1 + 1 + 1) → some i ≠ (Value.slice oA j oc).ownBlock → (w6.setCell ⟨w.heap.size + 1 + 1 + 1, 3, none⟩ (.slice A6 (j + 1) c6)).heap[i]? = wr.heap[i]? := fun i h1 h2 h3 => ((grown_set w6 (w.heap.size + 1 + 1 + 1) 3 _).block i (by omega) (fun e => h2 (by injection e))).trans ((hg6.block i (by omega) h3).trans (hb5.block i h1))
            have hb7 := below_of_grown (gfresh' (gfresh' (gnone (below_then HB.out HB.out.size hb5)) hg6 (fun k hk => by have := (HLT.out k hk).1; omega)) (grown_set w6 (w.heap.size + 1 + 1 + 1) 3 (.slice A6 (j + 1) c6)) (fun k hk => by injection hk; omega))
            have hO7 := Kd.Own.grown (grown_set w6 (w.heap.size + 1 + 1 + 1) 3 (.slice A6 (j + 1) c6)) (fun b hb he => by injection he; omega) (.inr (fun he => by have := (Kd.Own.lt hO6 _ he).1; omega)) hO6
            refine ⟨j + 1, .slice A6 (j + 1) c6, by omega, by go_num, by simp [World.setCell, Array.getElem?_modify, hbo6], by rw [HMX.out]; exact hO7, hb7, (hk7 _ (by omega) (by omega) (fun e => by have := (HLT.out _ e.symm).1; omega)).trans HBX.out, (hk7 _ (by omega) (by omega) (fun e => by have := (HLT.out _ e.symm).1; omega)).trans HBY.out, (hk7 _ (by omega) (by omega) (fun e => by have := (HLT.out _ e.symm).1; omega)).trans HRS.out⟩
          case measure => simp [intOf]; omega
        refine AllReadyH.cons (o := ⟨some 37, _, _, _, _, _⟩) rfl (fun K hK => ?_) AllReadyH.nil
        go_simp
        go_at_call 26
        refine (HI.out _ (Below.refl _ wr).drew).mono ?_
        rintro e W5 ⟨⟨u5, rfl, hu5⟩, hb5⟩
        obtain ⟨uu5, rfl, huS⟩ := hu5
        obtain ⟨rA, rc, rfl⟩ := huS.form
        replace hb5 : Below wr.heap.size wr W5 := below_then (Below.refl _ wr).drew (Nat.le_refl _) hb5
        have hz5 := hb5.size
        have hlo5 : (w.heap.size + 1 + 1 + 1) < W5.heap.size := by omega
        obtain ⟨e0', e1', e2', e3', -, -, -, -⟩ := box4 (block_below hb5 hbol HBO.out)
        go_wp2_with fail
        refine hK.out _ _ (KS.out _ (fun i h1 h2 h3 => hb5.block i h1)) (fun hHeld => ?_)
        clear hK K
        (try simp only [Act.put, List.setIfInBounds_toArray, List.set_cons_zero, List.set_cons_succ])
        refine wpAnyH_ready (rs := [1, 10]) (by kernel_rfl) (by simp) ?_
        refine AllReadyH.cons (o := ⟨some 29, _, _, _, _, _⟩) rfl (fun K hK => ?_) ?_
        · skip
          go_simp
          refine hK.out _ _ (KS.out _ (fun i h1 h2 h3 => hb5.block i h1)) (fun hHeld => ?_)
          clear hK K
          (try simp only [Act.put, List.setIfInBounds_toArray, List.set_cons_zero, List.set_cons_succ])
          refine wpAnyH_ready (rs := [10]) (by kernel_rfl) (by simp) ?_
          refine AllReadyH.cons (o := ⟨some 38, _, _, _, _, _⟩) rfl (fun K hK => ?_) AllReadyH.nil
          go_simp
          refine hK.out _ _ (KS.out _ (fun i h1 h2 h3 => (Below.heap_alloc _ _ _ (by omega)).trans (hb5.block i h1))) (fun hHeld => ?_)
          clear hK K
          (try simp only [Act.put, List.setIfInBounds_toArray, List.set_cons_zero, List.set_cons_succ])
          refine wpAnyH_ready (rs := [11]) (by kernel_rfl) (by simp) ?_
          refine AllReadyH.cons (o := ⟨some 39, _, _, _, _, _⟩) rfl (fun K hK => ?_) AllReadyH.nil
          refine if_t (by rfl) (opwp_of_list (ops := #[]) rfl ?_)
          have hy5 : Kd.tm.K W5 (fun b => ((okb b ∧ b < w.heap.size) ∨ (w.heap.size + 1 + 1 + 1) + 1 ≤ b) ∧ some b ≠ (Value.slice oA j oc).ownBlock) z [.int .u8 z.k, .string z.s, .int .i64 z.n, .slice rA z.l.length rc] := TmK_iff.2 ⟨_, rfl, huS.mono (fun i hi => ⟨hi.imp id (fun h => by simp only [World.size_drew] at h; omega), fun e => by have := HLT.out _ e.symm; simp only [World.size_drew] at hi; omega⟩)⟩
          have hO5 := Kd.Own.below hb5 HO.out
          have hbase5 : (w.heap.size + 1 + 1 + 1) + 1 ≤ W5.heap.size := by omega
          have hl5 : (((x.l.take j).map (putT q y')).length + 1) * 56 ≤ 140737488355328 := by rw [hml]; omega
          have hl6 : ((x.l.take j).map (putT q y') ++ [z]).length = j + 1 := by simp only [List.length_append, hml]; rfl
          refine Kd.append Kd.tm (W := W5) ((w.heap.size + 1 + 1 + 1) + 1) (fun b => (okb b ∧ b < w.heap.size) ∨ (w.heap.size + 1 + 1 + 1) + 1 ≤ b) rfl (.tmp 29) (.tmp 38) 23 25 (.agg #[.int .u8 0, .string ⟨#[]⟩, .int .i64 0, .slice none 0 0]) 56 rfl Try.underlying23 Try.infoT rfl (by decide) (.slice oA j oc) (((x.l.take j).map (putT q y'))) (z) [.int .u8 z.k, .string z.s, .int .i64 z.n, .slice rA z.l.length rc] rfl rfl hy5 hO5 hbase5 hl5 ?_
          intro v6 w6 hO6 hg6 hat6
          obtain ⟨A6, c6, hv6⟩ := Kd.Own.form hO6
          rw [hl6] at hv6
          subst hv6
          change K _ _
          refine hK.out _ _ (KS.out _ (fun i h1 h2 h3 => (hg6.block i (by omega) h3).trans (hb5.block i h1))) (fun hHeld => ?_)
          clear hK K
          (try simp only [Act.put, List.setIfInBounds_toArray, List.set_cons_zero, List.set_cons_succ])
          refine wpAnyH_take (i := 12) (oi := ⟨some 40, _, _, _, _, _⟩) (v := ?_) rfl (by kernel_rfl) (by kernel_rfl) (by kernel_rfl) (fun _ _ _ h => h) (Or.inl ⟨by rfl, ?_⟩) (by assumption) ?_
          rotate_left
          · (intro w hSw; (try dsimp only at hSw); go_simp; try (with_reducible rfl))
          (try simp only [Act.put, List.setIfInBounds_toArray, List.set_cons_zero, List.set_cons_succ])
          have hgs6 := hg6.size
          have hbo6 := (hg6.block (w.heap.size + 1 + 1 + 1) hlo5 (fun e => by have := (HLT.out _ e.symm).1; omega)).trans (block_below hb5 hbol HBO.out)
          obtain ⟨k0, k1, k2, k3, m0, m1, m2, m3⟩ := box4 hbo6
          refine wpAnyH_ready (rs := [13]) (by kernel_rfl) (by simp) ?_
          refine AllReadyH.cons (o := ⟨none, _, _, _, _, _⟩) rfl (fun K hK => ?_) AllReadyH.nil
          go_simp
          refine hK.out _ _ (KS.out _ (fun i h1 h2 h3 => ((grown_set w6 (w.heap.size + 1 + 1 + 1) 3 _).block i (by omega) (fun e => h2 (by injection e))).trans ((hg6.block i (by omega) h3).trans (hb5.block i h1)))) (fun hHeld => ?_)
          clear hK K
          (try simp only [Act.put, List.setIfInBounds_toArray, List.set_cons_zero, List.set_cons_succ])
          refine wpAnyH_done (by kernel_rfl) ?_ _
          go_wp2
          go_roundw
          case rel =>
            have hk7 : ∀ i, i < wr.heap.size → i ≠ (w.heap.size + 1 + 1 + 1) → some i ≠ (Value.slice oA j oc).ownBlock → (w6.setCell ⟨w.heap.size + 1 + 1 + 1, 3, none⟩ (.slice A6 (j + 1) c6)).heap[i]? = wr.heap[i]? := fun i h1 h2 h3 => ((grown_set w6 (w.heap.size + 1 + 1 + 1) 3 _).block i (by omega) (fun e => h2 (by injection e))).trans ((hg6.block i (by omega) h3).trans (hb5.block i h1))
            have hb7 := below_of_grown (gfresh' (gfresh' (gnone (below_then HB.out HB.out.size hb5)) hg6 (fun k hk => by have := (HLT.out k hk).1; omega)) (grown_set w6 (w.heap.size + 1 + 1 + 1) 3 (.slice A6 (j + 1) c6)) (fun k hk => by injection hk; omega))
            have hO7 := Kd.Own.grown (grown_set w6 (w.heap.size + 1 + 1 + 1) 3 (.slice A6 (j + 1) c6)) (fun b hb he => by injection he; omega) (.inr (fun he => by have := (Kd.Own.lt hO6 _ he).1; omega)) hO6
            refine ⟨j + 1, .slice A6 (j + 1) c6, by omega, by go_num, by simp [World.setCell, Array.getElem?_modify, hbo6], by rw [HMX.out]; exact hO7, hb7, (hk7 _ (by omega) (by omega) (fun e => by have := (HLT.out _ e.symm).1; omega)).trans HBX.out, (hk7 _ (by omega) (by omega) (fun e => by have := (HLT.out _ e.symm).1; omega)).trans HBY.out, (hk7 _ (by omega) (by omega) (fun e => by have := (HLT.out _ e.symm).1; omega)).trans HRS.out⟩
          case measure => simp [intOf]; omega
        refine AllReadyH.cons (o := ⟨some 38, _, _, _, _, _⟩) rfl (fun K hK => ?_) AllReadyH.nil
        go_simp
        refine hK.out _ _ (KS.out _ (fun i h1 h2 h3 => (Below.heap_alloc _ _ _ (by omega)).trans (hb5.block i h1))) (fun hHeld => ?_)
        clear hK K
        (try simp only [Act.put, List.setIfInBounds_toArray, List.set_cons_zero, List.set_cons_succ])
        refine wpAnyH_ready (rs := [1]) (by kernel_rfl) (by simp) ?_
        refine AllReadyH.cons (o := ⟨some 29, _, _, _, _, _⟩) rfl (fun K hK => ?_) AllReadyH.nil
        go_simp
        refine hK.out _ _ (KS.out _ (fun i h1 h2 h3 => (Below.heap_alloc _ _ _ (by omega)).trans (hb5.block i h1))) (fun hHeld => ?_)
        clear hK K
        (try simp only [Act.put, List.setIfInBounds_toArray, List.set_cons_zero, List.set_cons_succ])
        refine wpAnyH_ready (rs := [11]) (by kernel_rfl) (by simp) ?_
        refine AllReadyH.cons (o := ⟨some 39, _, _, _, _, _⟩) rfl (fun K hK => ?_) AllReadyH.nil
        refine if_t (by rfl) (opwp_of_list (ops := #[]) rfl ?_)
        have hy5 : Kd.tm.K W5 (fun b => ((okb b ∧ b < w.heap.size) ∨ (w.heap.size + 1 + 1 + 1) + 1 ≤ b) ∧ some b ≠ (Value.slice oA j oc).ownBlock) z [.int .u8 z.k, .string z.s, .int .i64 z.n, .slice rA z.l.length rc] := TmK_iff.2 ⟨_, rfl, huS.mono (fun i hi => ⟨hi.imp id (fun h => by simp only [World.size_drew] at h; omega), fun e => by have := HLT.out _ e.symm; simp only [World.size_drew] at hi; omega⟩)⟩
        have hO5 := Kd.Own.below hb5 HO.out
        have hbase5 : (w.heap.size + 1 + 1 + 1) + 1 ≤ W5.heap.size := by omega
        have hl5 : (((x.l.take j).map (putT q y')).length + 1) * 56 ≤ 140737488355328 := by rw [hml]; omega
        have hl6 : ((x.l.take j).map (putT q y') ++ [z]).length = j + 1 := by simp only [List.length_append, hml]; rfl
        refine Kd.append Kd.tm (W := W5) ((w.heap.size + 1 + 1 + 1) + 1) (fun b => (okb b ∧ b < w.heap.size) ∨ (w.heap.size + 1 + 1 + 1) + 1 ≤ b) rfl (.tmp 29) (.tmp 38) 23 25 (.agg #[.int .u8 0, .string ⟨#[]⟩, .int .i64 0, .slice none 0 0]) 56 rfl Try.underlying23 Try.infoT rfl (by decide) (.slice oA j oc) (((x.l.take j).map (putT q y'))) (z) [.int .u8 z.k, .string z.s, .int .i64 z.n, .slice rA z.l.length rc] rfl rfl hy5 hO5 hbase5 hl5 ?_
        intro v6 w6 hO6 hg6 hat6
        obtain ⟨A6, c6, hv6⟩ := Kd.Own.form hO6
        rw [hl6] at hv6
        subst hv6
        change K _ _
        refine hK.out _ _ (KS.out _ (fun i h1 h2 h3 => (hg6.block i (by omega) h3).trans (hb5.block i h1))) (fun hHeld => ?_)
        clear hK K
        (try simp only [Act.put, List.setIfInBounds_toArray, List.set_cons_zero, List.set_cons_succ])
        refine wpAnyH_take (i := 12) (oi := ⟨some 40, _, _, _, _, _⟩) (v := ?_) rfl (by kernel_rfl) (by kernel_rfl) (by kernel_rfl) (fun _ _ _ h => h) (Or.inl ⟨by rfl, ?_⟩) (by assumption) ?_
        rotate_left
        · (intro w hSw; (try dsimp only at hSw); go_simp; try (with_reducible rfl))
        (try simp only [Act.put, List.setIfInBounds_toArray, List.set_cons_zero, List.set_cons_succ])
        have hgs6 := hg6.size
        have hbo6 := (hg6.block (w.heap.size + 1 + 1 + 1) hlo5 (fun e => by have := (HLT.out _ e.symm).1; omega)).trans (block_below hb5 hbol HBO.out)
        obtain ⟨k0, k1, k2, k3, m0, m1, m2, m3⟩ := box4 hbo6
        refine wpAnyH_ready (rs := [13]) (by kernel_rfl) (by simp) ?_
        refine AllReadyH.cons (o := ⟨none, _, _, _, _, _⟩) rfl (fun K hK => ?_) AllReadyH.nil
        go_simp
        refine hK.out _ _ (KS.out _ (fun i h1 h2 h3 => ((grown_set w6 (w.heap.size + 1 + 1 + 1) 3 _).block i (by omega) (fun e => h2 (by injection e))).trans ((hg6.block i (by omega) h3).trans (hb5.block i h1)))) (fun hHeld => ?_)
        clear hK K
        (try simp only [Act.put, List.setIfInBounds_toArray, List.set_cons_zero, List.set_cons_succ])
        refine wpAnyH_done (by kernel_rfl) ?_ _
        go_wp2
        go_roundw
        case rel =>
          have hk7 : ∀ i, i < wr.heap.size → i ≠ (w.heap.size + 1 + 1 + 1) → some i ≠ (Value.slice oA j oc).ownBlock → (w6.setCell ⟨w.heap.size + 1 + 1 + 1, 3, none⟩ (.slice A6 (j + 1) c6)).heap[i]? = wr.heap[i]? := fun i h1 h2 h3 => ((grown_set w6 (w.heap.size + 1 + 1 + 1) 3 _).block i (by omega) (fun e => h2 (by injection e))).trans ((hg6.block i (by omega) h3).trans (hb5.block i h1))
          have hb7 := below_of_grown (gfresh' (gfresh' (gnone (below_then HB.out HB.out.size hb5)) hg6 (fun k hk => by have := (HLT.out k hk).1; omega)) (grown_set w6 (w.heap.size + 1 + 1 + 1) 3 (.slice A6 (j + 1) c6)) (fun k hk => by injection hk; omega))
          have hO7 := Kd.Own.grown (grown_set w6 (w.heap.size + 1 + 1 + 1) 3 (.slice A6 (j + 1) c6)) (fun b hb he => by injection he; omega) (.inr (fun he => by have := (Kd.Own.lt hO6 _ he).1; omega)) hO6
          refine ⟨j + 1, .slice A6 (j + 1) c6, by omega, by go_num, by simp [World.setCell, Array.getElem?_modify, hbo6], by rw [HMX.out]; exact hO7, hb7, (hk7 _ (by omega) (by omega) (fun e => by have := (HLT.out _ e.symm).1; omega)).trans HBX.out, (hk7 _ (by omega) (by omega) (fun e => by have := (HLT.out _ e.symm).1; omega)).trans HBY.out, (hk7 _ (by omega) (by omega) (fun e => by have := (HLT.out _ e.symm).1; omega)).trans HRS.out⟩
        case measure => simp [intOf]; omega
      · obtain rfl : j = x.l.length := by omega
        rw [List.take_of_length_le (Nat.le_refl _)] at hO
        rw [show ((x.l.take x.l.length).map (putT q y')).length = x.l.length by simp] at hoV
        subst hoV
        obtain ⟨d0, d1, d2, d3, -, -, -, -⟩ := box4 hbx
        obtain ⟨e0, e1, e2, e3, -, -, -, -⟩ := box4 hbo
        obtain ⟨r0, r1, r2, r3, g0, g1, g2, g3⟩ := box4 hrs
        have HO := Lib.hid hO
        have HB := Lib.hid hb
        clear hO hb hbx hrs hbo
        go_wp2_with fail
        refine bodyPost_ret (v := .agg #[.int .u8 x.k, .string x.s, .int .i64 x.n, .slice oA x.l.length oc]) (by simp [results, Try.results26, go_sem, r0, r1, r2, r3]) rfl ?_
        have hg := grown_set4 wr (w.heap.size + 1 + 1) (.int .u8 x.k) (.string x.s) (.int .i64 x.n) (.slice oA x.l.length oc)
        refine ⟨⟨_, rfl, _, rfl, ?_⟩, below_of_grown (gfresh (gnone HB.out) hg (by omega))⟩
        refine Kd.S.mono (fun i hi => ?_) (Kd.S.grown hg (fun i hi e => by injection e; omega) ((Kd.Own.S HO.out).mono (ok' := fun b => (okb b ∧ b < w.heap.size) ∨ (w.heap.size + 1 + 1 + 1) + 1 ≤ b) (fun i hi => hi.elim id .inr)))
        rcases hi with h | h
        · exact .inl h
        · exact .inr (by omega)
end Go.Proofs.Ytdidmhcblepcbaa

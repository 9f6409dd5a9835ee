/- The reference's 'Apply'. Conditions: the arguments read; the bindings make no circle; terms of at most a million nodes. -/
import Derived.Test.YtdidmhcblepcbaaS9
set_option linter.unusedVariables false
set_option maxRecDepth 20000
set_option linter.unusedSimpArgs false
namespace Go.Proofs.Ytdidmhcblepcbaa
open Go.RowKit

set_option maxRecDepth 100000 in
set_option maxHeartbeats 4000000 in
theorem rApply_c (l : Bs) (hA : Acyc l) (hll : l.length ≤ 1000000) (hsm : ∀ n t, ofB l n = some t → t.siz ≤ 1000000) : ∀ (f : Nat) (t : Tm), Fn l f t → ∀ (vl v : Value) (w : World) (okl ok : Nat → Prop), Kd.bd.S w okl l vl → TmV w ok t v → t.siz ≤ 1000000 →
    Calls Try.prog 23 #[vl, v] w fun e w' => (∃ u, e = .returned u ∧ TmV w' (fun b => w.heap.size ≤ b) (app l f t) u) ∧ Below w.heap.size w w' := by
  intro f
  induction f with
  | zero => intro t hf; exact hf.elim
  | succ f ih =>
  intro t hf vl v w okl ok hvl hv hsz
  obtain ⟨u, rfl, hvS⟩ := hv
  obtain ⟨A0, c0, rfl⟩ := hvS.form
  have hb2 : ∀ O O' : Obj, Below w.heap.size w ((w.alloc O).alloc O') := fun O O' => ((Below.refl _ w).alloc (Nat.le_refl _) _).alloc (by simp) _
  have hv0 : TmV w (fun b => b < w.heap.size) t (.agg #[.int .u8 t.k, .string t.s, .int .i64 t.n, .slice A0 t.l.length c0]) := ⟨_, rfl, hvS.bound.mono (fun _ h => h.2)⟩
  have hvl0 : Kd.bd.S w (fun b => b < w.heap.size) l vl := hvl.bound.mono (fun _ h => h.2)
  have HWK := Lib.hid (fun O O' => rWalk_c l t vl (.agg #[.int .u8 t.k, .string t.s, .int .i64 t.n, .slice A0 t.l.length c0]) ((w.alloc O).alloc O') _ _ (hvl0.below (hb2 O O')) (hv0.below (hb2 O O')) hA hll)
  obtain ⟨Al, cl, rfl⟩ := hvl.form
  have hxs := wlk_siz hsm t hsz
  have hff : ∀ a ∈ (wlk l t).l, Fn l f a := hf
  simp only [app_succ]
  generalize wlk l t = x at HWK hxs hff ⊢
  have hxl := len_siz hxs
  have HIH := Lib.hid ih
  have HFF := Lib.hid hff
  have HVL := Lib.hid hvl0
  clear hvS hf ih hff hvl hv0 hvl0 hA hsm
  go_enter Try.func23, Try.ntmps23
  go_wp2_with (go_at_call 18; refine (HWK.out _ _).mono ?_; clear HWK; rintro e W2 ⟨⟨u2, rfl, hv2⟩, hb3⟩; obtain ⟨u3, rfl, hvS2⟩ := hv2; obtain ⟨A, c, rfl⟩ := hvS2.form; have hbx := block_below hb3 (by simp only [World.size_alloc]; omega) ((Below.heap_alloc _ (.cells #[.int .u8 0, .string ⟨#[]⟩, .int .i64 0, .slice none 0 0] 25) _ (by simp only [World.size_alloc]; omega)).trans (heap_new w (.cells #[.int .u8 t.k, .string t.s, .int .i64 t.n, .slice A0 t.l.length c0] 25))); have hrs := block_below hb3 (by simp only [World.size_alloc]; omega) (heap_at (w.alloc (.cells #[.int .u8 t.k, .string t.s, .int .i64 t.n, .slice A0 t.l.length c0] 25)) (.cells #[.int .u8 0, .string ⟨#[]⟩, .int .i64 0, .slice none 0 0] 25) (w.heap.size + 1) (by simp only [World.size_alloc])); obtain ⟨c0, c1, c2, c3, f0, f1, f2, f3⟩ := box4 hbx)
  have hs3 := hb3.size
  simp only [World.size_alloc] at hs3
  obtain ⟨bo, hbo⟩ : ∃ bo, bo = W2.heap.size := ⟨_, rfl⟩
  rw [← hbo]
  have hvSw : Kd.tm.S w (fun b => b < w.heap.size) x.l (.slice A x.l.length c) := Kd.S.move (fun i hi => ((below_then (hb2 _ _) (by simp only [World.size_alloc]; omega) hb3).block i hi).symm) (hvS2.mono (fun i hi => hi.elim id id))
  have hW3 : Below w.heap.size w ((((((W2.setCell ⟨w.heap.size, 0, none⟩ (.int .u8 x.k)).setCell ⟨w.heap.size, 1, none⟩ (.string x.s)).setCell ⟨w.heap.size, 2, none⟩ (.int .i64 x.n)).setCell ⟨w.heap.size, 3, none⟩ (.slice A x.l.length c)).alloc (.cells #[.int .u8 x.k, .string x.s, .int .i64 x.n, .slice none 0 0] 25))) :=
    below_of_grown (gbelow (gfresh (gbelow (gnone (hb2 _ _)) hb3) (grown_set4 _ w.heap.size _ _ _ _) (Nat.le_refl _)) ((Below.refl _ _).alloc (Nat.le_refl _) _))
  have hbx3 : ((((((W2.setCell ⟨w.heap.size, 0, none⟩ (.int .u8 x.k)).setCell ⟨w.heap.size, 1, none⟩ (.string x.s)).setCell ⟨w.heap.size, 2, none⟩ (.int .i64 x.n)).setCell ⟨w.heap.size, 3, none⟩ (.slice A x.l.length c)).alloc (.cells #[.int .u8 x.k, .string x.s, .int .i64 x.n, .slice none 0 0] 25))).heap[w.heap.size]? = some (.cells #[.int .u8 x.k, .string x.s, .int .i64 x.n, .slice A x.l.length c] 25 (0, 0)) := (Below.heap_alloc _ _ _ (by simp [World.setCell]; omega)).trans (set4_block hbx)
  have hrs3 : ((((((W2.setCell ⟨w.heap.size, 0, none⟩ (.int .u8 x.k)).setCell ⟨w.heap.size, 1, none⟩ (.string x.s)).setCell ⟨w.heap.size, 2, none⟩ (.int .i64 x.n)).setCell ⟨w.heap.size, 3, none⟩ (.slice A x.l.length c)).alloc (.cells #[.int .u8 x.k, .string x.s, .int .i64 x.n, .slice none 0 0] 25))).heap[w.heap.size + 1]? = some (.cells #[.int .u8 0, .string ⟨#[]⟩, .int .i64 0, .slice none 0 0] 25 (0, 0)) := (Below.heap_alloc _ _ _ (by simp [World.setCell]; omega)).trans (((grown_set4 W2 w.heap.size _ _ _ _).block _ (by omega) (fun e => by injection e; omega)).trans hrs)
  have hbo3 : ((((((W2.setCell ⟨w.heap.size, 0, none⟩ (.int .u8 x.k)).setCell ⟨w.heap.size, 1, none⟩ (.string x.s)).setCell ⟨w.heap.size, 2, none⟩ (.int .i64 x.n)).setCell ⟨w.heap.size, 3, none⟩ (.slice A x.l.length c)).alloc (.cells #[.int .u8 x.k, .string x.s, .int .i64 x.n, .slice none 0 0] 25))).heap[bo]? = some (.cells #[.int .u8 x.k, .string x.s, .int .i64 x.n, .slice none 0 0] 25 (0, 0)) := heap_at _ _ _ (by rw [hbo]; simp [World.setCell])
  generalize ((((((W2.setCell ⟨w.heap.size, 0, none⟩ (.int .u8 x.k)).setCell ⟨w.heap.size, 1, none⟩ (.string x.s)).setCell ⟨w.heap.size, 2, none⟩ (.int .i64 x.n)).setCell ⟨w.heap.size, 3, none⟩ (.slice A x.l.length c)).alloc (.cells #[.int .u8 x.k, .string x.s, .int .i64 x.n, .slice none 0 0] 25))) = W3 at hW3 hbx3 hrs3 hbo3 ⊢
  have HVS := Lib.hid hvSw
  clear hvSw hvS2 hb3 hbx hrs c0 c1 c2 c3 f0 f1 f2 f3
  rw [← hbo] at hs3
  clear hbo
  go_loopw [6] (fun i wr => ∃ (j : Nat) (oV : Value), j ≤ x.l.length ∧ i = .int .i64 j ∧ wr.heap[bo]? = some (.cells #[.int .u8 x.k, .string x.s, .int .i64 x.n, oV] 25 (0, 0)) ∧ Kd.tm.Own 25 wr (bo + 1) (fun b => bo + 1 ≤ b) ((x.l.take j).map (app l f)) oV ∧ Below w.heap.size w wr ∧
    wr.heap[w.heap.size]? = some (.cells #[.int .u8 x.k, .string x.s, .int .i64 x.n, .slice A x.l.length c] 25 (0, 0)) ∧ wr.heap[w.heap.size + 1]? = some (.cells #[.int .u8 0, .string ⟨#[]⟩, .int .i64 0, .slice none 0 0] 25 (0, 0))) (fun i _ => x.l.length - (intOf i).toNat)
  case atStart => exact ⟨0, _, Nat.zero_le _, rfl, hbo3, by simpa using Kd.Own.nil _ _ _ _ _, hW3, hbx3, hrs3⟩
  case round =>
    clear hbo3 hW3 hbx3 hrs3
    obtain ⟨j, oV, hj, rfl, hbo, hO, hb, hbx, hrs⟩ := hrel
    have hbol : bo < wr.heap.size := (Array.getElem?_eq_some_iff.1 hbo).1
    obtain ⟨oA, oc, hoV⟩ := hO.form
    have HLT := Lib.hid hO.lt
    by_cases hlt : j < x.l.length
    · obtain ⟨A', c', eA, hl, hc, hA⟩ := Kd.S.bound (Kd.S.move (fun i hi => hb.block i hi) HVS.out)
      injection eA with eA1 eA2 eA3
      subst eA1 eA3
      clear eA2
      obtain ⟨bb, o, u, rfl, hokb, hlo, h0, h1, h2, h3, h4⟩ := tm_elem hA hlt
      have h4' : TmV wr (fun b => b < wr.heap.size) x.l[j] (.agg #[.int .u8 x.l[j].k, .string x.l[j].s, .int .i64 x.l[j].n, u]) := ⟨u, rfl, h4.mono (fun _ h => h.2)⟩
      obtain ⟨Au, cu, rfl⟩ := h4.form
      have hm := List.getElem_mem hlt
      have HI := Lib.hid (fun W (hW : Below wr.heap.size wr W) => HIH.out x.l[j] (HFF.out _ hm) (.slice Al l.length cl) _ W _ _ (HVL.out.below (hb.trans (hW.mono hb.size))) (h4'.below hW) (siz_at hxs hm))
      have HMX := Lib.hid (show (x.l.take (j + 1)).map (app l f) = (x.l.take j).map (app l f) ++ [app l f x.l[j]] by rw [take_succ_at x.l hlt, List.map_append]; rfl)
      have HO := Lib.hid hO
      have HB := Lib.hid hb
      have HBX := Lib.hid hbx
      have HRS := Lib.hid hrs
      have HBO := Lib.hid hbo
      have hml : ((x.l.take j).map (app l f)).length = j := by rw [List.length_map, List.length_take]; omega
      have hne1 : bb < w.heap.size := hokb.1
      have hbs := hb.size
      obtain ⟨-, -, -, d3, -, -, -, -⟩ := box4 hbx
      obtain ⟨e0, e1, e2, e3, -, -, -, -⟩ := box4 hbo
      have KS : ∀ W : World, (∀ i, i < wr.heap.size → i ≠ bo → some i ≠ oV.ownBlock → W.heap[i]? = wr.heap[i]?) → (W.cell? ⟨w.heap.size, 3, none⟩ = some (.slice (some ⟨bb, o, none⟩) x.l.length c) ∧ W.cell? ⟨bb, o + j * 4, none⟩ = some (.int .u8 x.l[j].k) ∧ W.cell? ⟨bb, o + j * 4 + 1, none⟩ = some (.string x.l[j].s) ∧ W.cell? ⟨bb, o + j * 4 + 2, none⟩ = some (.int .i64 x.l[j].n) ∧ W.cell? ⟨bb, o + j * 4 + 3, none⟩ = some (.slice Au x.l[j].l.length cu)) := fun W hW => by
        have k1 := hW w.heap.size (by omega) (by omega) (fun e => by have := (HLT.out _ e.symm).1; omega)
        have k2 := hW bb (by omega) (by omega) (fun e => by have := (HLT.out _ e.symm).1; omega)
        exact ⟨(cell_of_block k1 _).trans d3, (cell_of_block k2 _).trans h0, (cell_of_block k2 _).trans h1, (cell_of_block k2 _).trans h2, (cell_of_block k2 _).trans h3⟩
      have KS := Lib.hid KS
      generalize x.l[j] = y at h0 h1 h2 h3 HI HMX KS
      clear hA h4 h4' hm hO hb hbx hrs hbo d3
      rw [hml] at hoV
      subst hoV
      go_wp2
      refine wp_region_held_drew (S := (fun W => W.cell? ⟨w.heap.size, 3, none⟩ = some (.slice (some ⟨bb, o, none⟩) x.l.length c) ∧ W.cell? ⟨bb, o + j * 4, none⟩ = some (.int .u8 y.k) ∧ W.cell? ⟨bb, o + j * 4 + 1, none⟩ = some (.string y.s) ∧ W.cell? ⟨bb, o + j * 4 + 2, none⟩ = some (.int .i64 y.n) ∧ W.cell? ⟨bb, o + j * 4 + 3, none⟩ = some (.slice Au y.l.length cu))) (by kernel_rfl) ?_ (fun hHeld => ?_)
      · exact (KS.out _ (fun i h1 h2 h3 => rfl))
      change wpAnyH _ .any _ _ _ 13 (Array.replicate 13 false) _ _
      refine wpAnyH_take (i := 0) (oi := ⟨some 19, _, _, _, _, _⟩) (v := ?_) rfl (by kernel_rfl) (by kernel_rfl) (by kernel_rfl) (fun _ _ _ h => h) (Or.inl ⟨by rfl, ?_⟩) (by assumption) ?_
      rotate_left
      · (intro w hSw; (try dsimp only at hSw); go_simp; try (with_reducible rfl))
      (try simp only [Act.put, List.setIfInBounds_toArray, List.set_cons_zero, List.set_cons_succ])
      refine wpAnyH_take (i := 2) (oi := ⟨some 21, _, _, _, _, _⟩) (v := ?_) rfl (by kernel_rfl) (by kernel_rfl) (by kernel_rfl) (fun _ _ _ h => h) (Or.inl ⟨by rfl, ?_⟩) (by assumption) ?_
      rotate_left
      · (intro w hSw; (try dsimp only at hSw); go_simp; try (with_reducible rfl))
      (try simp only [Act.put, List.setIfInBounds_toArray, List.set_cons_zero, List.set_cons_succ])
      refine wpAnyH_take (i := 3) (oi := ⟨some 22, _, _, _, _, _⟩) (v := ?_) rfl (by kernel_rfl) (by kernel_rfl) (by kernel_rfl) (fun _ _ _ h => h) (Or.inl ⟨by rfl, ?_⟩) (by assumption) ?_
      rotate_left
      · (intro w hSw; (try dsimp only at hSw); go_simp; try (with_reducible rfl))
      (try simp only [Act.put, List.setIfInBounds_toArray, List.set_cons_zero, List.set_cons_succ])
      refine wpAnyH_take (i := 4) (oi := ⟨some 23, _, _, _, _, _⟩) (v := ?_) rfl (by kernel_rfl) (by kernel_rfl) (by kernel_rfl) (fun _ _ _ h => h) (Or.inl ⟨by rfl, ?_⟩) (by assumption) ?_
      rotate_left
      · (intro w hSw; (try dsimp only at hSw); go_simp; try (with_reducible rfl))
      (try simp only [Act.put, List.setIfInBounds_toArray, List.set_cons_zero, List.set_cons_succ])
      refine wpAnyH_take (i := 5) (oi := ⟨some 24, _, _, _, _, _⟩) (v := ?_) rfl (by kernel_rfl) (by kernel_rfl) (by kernel_rfl) (fun _ _ _ h => h) (Or.inl ⟨by rfl, ?_⟩) (by assumption) ?_
      rotate_left
      · (intro w hSw; (try dsimp only at hSw); go_simp; try (with_reducible rfl))
      (try simp only [Act.put, List.setIfInBounds_toArray, List.set_cons_zero, List.set_cons_succ])
      refine wpAnyH_take (i := 6) (oi := ⟨some 25, _, _, _, _, _⟩) (v := ?_) rfl (by kernel_rfl) (by kernel_rfl) (by kernel_rfl) (fun _ _ _ h => h) (Or.inl ⟨by rfl, ?_⟩) (by assumption) ?_
      rotate_left
      · (intro w hSw; (try dsimp only at hSw); go_simp; try (with_reducible rfl))
      (try simp only [Act.put, List.setIfInBounds_toArray, List.set_cons_zero, List.set_cons_succ])
      refine wpAnyH_take (i := 7) (oi := ⟨some 26, _, _, _, _, _⟩) (v := ?_) rfl (by kernel_rfl) (by kernel_rfl) (by kernel_rfl) (fun _ _ _ h => h) (Or.inl ⟨by rfl, ?_⟩) (by assumption) ?_
      rotate_left
      · (intro w hSw; (try dsimp only at hSw); go_simp; try (with_reducible rfl))
      (try simp only [Act.put, List.setIfInBounds_toArray, List.set_cons_zero, List.set_cons_succ])
      refine wpAnyH_ready (rs := [1, 8]) (by kernel_rfl) (by simp) ?_
      refine AllReadyH.cons (o := ⟨some 20, _, _, _, _, _⟩) rfl (fun K hK => ?_) ?_
      · skip
        go_simp
        refine hK.out _ _ (KS.out _ (fun i h1 h2 h3 => rfl)) (fun hHeld => ?_)
        clear hK K
        (try simp only [Act.put, List.setIfInBounds_toArray, List.set_cons_zero, List.set_cons_succ])
        refine wpAnyH_ready (rs := [8]) (by kernel_rfl) (by simp) ?_
        refine AllReadyH.cons (o := ⟨some 27, _, _, _, _, _⟩) rfl (fun K hK => ?_) AllReadyH.nil
        go_simp
        go_at_call 23
        refine (HI.out _ (Below.refl _ wr).drew).mono ?_
        rintro e W5 ⟨⟨u5, rfl, hu5⟩, hb5⟩
        obtain ⟨uu5, rfl, huS⟩ := hu5
        obtain ⟨rA, rc, rfl⟩ := huS.form
        replace hb5 : Below wr.heap.size wr W5 := below_then (Below.refl _ wr).drew (Nat.le_refl _) hb5
        have hz5 := hb5.size
        have hlo5 : bo < W5.heap.size := by omega
        obtain ⟨e0', e1', e2', e3', -, -, -, -⟩ := box4 (block_below hb5 hbol HBO.out)
        go_wp2_with fail
        refine hK.out _ _ (KS.out _ (fun i h1 h2 h3 => hb5.block i h1)) (fun hHeld => ?_)
        clear hK K
        (try simp only [Act.put, List.setIfInBounds_toArray, List.set_cons_zero, List.set_cons_succ])
        refine wpAnyH_ready (rs := [9]) (by kernel_rfl) (by simp) ?_
        refine AllReadyH.cons (o := ⟨some 28, _, _, _, _, _⟩) rfl (fun K hK => ?_) AllReadyH.nil
        go_simp
        refine hK.out _ _ (KS.out _ (fun i h1 h2 h3 => (Below.heap_alloc _ _ _ (by omega)).trans (hb5.block i h1))) (fun hHeld => ?_)
        clear hK K
        (try simp only [Act.put, List.setIfInBounds_toArray, List.set_cons_zero, List.set_cons_succ])
        refine wpAnyH_ready (rs := [10]) (by kernel_rfl) (by simp) ?_
        refine AllReadyH.cons (o := ⟨some 29, _, _, _, _, _⟩) rfl (fun K hK => ?_) AllReadyH.nil
        refine if_t (by rfl) (opwp_of_list (ops := #[]) rfl ?_)
        have hy5 : Kd.tm.K W5 (fun b => (bo + 1 ≤ b) ∧ some b ≠ (Value.slice oA j oc).ownBlock) (app l f y) [.int .u8 (app l f y).k, .string (app l f y).s, .int .i64 (app l f y).n, .slice rA (app l f y).l.length rc] := TmK_iff.2 ⟨_, rfl, huS.mono (fun i hi => ⟨by simp only [World.size_drew] at hi; omega, fun e => by have := (HLT.out _ e.symm).2; simp only [World.size_drew] at hi; omega⟩)⟩
        have hO5 := Kd.Own.below hb5 HO.out
        have hbase5 : bo + 1 ≤ W5.heap.size := by omega
        have hl5 : (((x.l.take j).map (app l f)).length + 1) * 56 ≤ 140737488355328 := by rw [hml]; omega
        have hl6 : ((x.l.take j).map (app l f) ++ [app l f y]).length = j + 1 := by simp only [List.length_append, hml]; rfl
        refine Kd.append Kd.tm (W := W5) (bo + 1) (fun b => bo + 1 ≤ b) rfl (.tmp 20) (.tmp 28) 23 25 (.agg #[.int .u8 0, .string ⟨#[]⟩, .int .i64 0, .slice none 0 0]) 56 rfl Try.underlying23 Try.infoT rfl (by decide) (.slice oA j oc) (((x.l.take j).map (app l f))) (app l f y) [.int .u8 (app l f y).k, .string (app l f y).s, .int .i64 (app l f y).n, .slice rA (app l f y).l.length rc] rfl rfl hy5 hO5 hbase5 hl5 ?_
        intro v6 w6 hO6 hg6 hat6
        obtain ⟨A6, c6, hv6⟩ := Kd.Own.form hO6
        rw [hl6] at hv6
        subst hv6
        change K _ _
        refine hK.out _ _ (KS.out _ (fun i h1 h2 h3 => (hg6.block i (by omega) h3).trans (hb5.block i h1))) (fun hHeld => ?_)
        clear hK K
        (try simp only [Act.put, List.setIfInBounds_toArray, List.set_cons_zero, List.set_cons_succ])
        refine wpAnyH_take (i := 11) (oi := ⟨some 30, _, _, _, _, _⟩) (v := ?_) rfl (by kernel_rfl) (by kernel_rfl) (by kernel_rfl) (fun _ _ _ h => h) (Or.inl ⟨by rfl, ?_⟩) (by assumption) ?_
        rotate_left
        · (intro w hSw; (try dsimp only at hSw); go_simp; try (with_reducible rfl))
        (try simp only [Act.put, List.setIfInBounds_toArray, List.set_cons_zero, List.set_cons_succ])
        have hgs6 := hg6.size
        have hbo6 := (hg6.block bo hlo5 (fun e => by have := (HLT.out _ e.symm).1; omega)).trans (block_below hb5 hbol HBO.out)
        obtain ⟨k0, k1, k2, k3, m0, m1, m2, m3⟩ := box4 hbo6
        refine wpAnyH_ready (rs := [12]) (by kernel_rfl) (by simp) ?_
        refine AllReadyH.cons (o := ⟨none, _, _, _, _, _⟩) rfl (fun K hK => ?_) AllReadyH.nil
        go_simp
        refine hK.out _ _ (KS.out _ (fun i h1 h2 h3 => ((grown_set w6 bo 3 _).block i (by omega) (fun e => h2 (by injection e))).trans ((hg6.block i (by omega) h3).trans (hb5.block i h1)))) (fun hHeld => ?_)
        clear hK K
        (try simp only [Act.put, List.setIfInBounds_toArray, List.set_cons_zero, List.set_cons_succ])
        refine wpAnyH_done (by kernel_rfl) ?_ _
        go_wp2
        go_roundw
        case rel =>
          have hk7 : ∀ i, i < wr.heap.size → i ≠ bo → some i ≠ (Value.slice oA j oc).ownBlock → (w6.setCell ⟨bo, 3, none⟩ (.slice A6 (j + 1) c6)).heap[i]? = wr.heap[i]? := fun i h1 h2 h3 => ((grown_set w6 bo 3 _).block i (by omega) (fun e => h2 (by injection e))).trans ((hg6.block i (by omega) h3).trans (hb5.block i h1))
          have hb7 := below_of_grown (gfresh' (gfresh' (gnone (below_then HB.out HB.out.size hb5)) hg6 (fun k hk => by have := (HLT.out k hk).1; omega)) (grown_set w6 bo 3 (.slice A6 (j + 1) c6)) (fun k hk => by injection hk; omega))
          have hO7 := Kd.Own.grown (grown_set w6 bo 3 (.slice A6 (j + 1) c6)) (fun b hb he => by injection he; omega) (.inr (fun he => by have := (Kd.Own.lt hO6 _ he).1; omega)) hO6
          refine ⟨j + 1, .slice A6 (j + 1) c6, by omega, by go_num, by simp [World.setCell, Array.getElem?_modify, hbo6], by rw [HMX.out]; exact hO7, hb7, (hk7 _ (by omega) (by omega) (fun e => by have := (HLT.out _ e.symm).1; omega)).trans HBX.out, (hk7 _ (by omega) (by omega) (fun e => by have := (HLT.out _ e.symm).1; omega)).trans HRS.out⟩
        case measure => simp [intOf]; omega
      refine AllReadyH.cons (o := ⟨some 27, _, _, _, _, _⟩) rfl (fun K hK => ?_) AllReadyH.nil
      go_simp
      go_at_call 23
      refine (HI.out _ (Below.refl _ wr).drew).mono ?_
      rintro e W5 ⟨⟨u5, rfl, hu5⟩, hb5⟩
      obtain ⟨uu5, rfl, huS⟩ := hu5
      obtain ⟨rA, rc, rfl⟩ := huS.form
      replace hb5 : Below wr.heap.size wr W5 := below_then (Below.refl _ wr).drew (Nat.le_refl _) hb5
      have hz5 := hb5.size
      have hlo5 : bo < W5.heap.size := by omega
      obtain ⟨e0', e1', e2', e3', -, -, -, -⟩ := box4 (block_below hb5 hbol HBO.out)
      go_wp2_with fail
      refine hK.out _ _ (KS.out _ (fun i h1 h2 h3 => hb5.block i h1)) (fun hHeld => ?_)
      clear hK K
      (try simp only [Act.put, List.setIfInBounds_toArray, List.set_cons_zero, List.set_cons_succ])
      refine wpAnyH_ready (rs := [1, 9]) (by kernel_rfl) (by simp) ?_
      refine AllReadyH.cons (o := ⟨some 20, _, _, _, _, _⟩) rfl (fun K hK => ?_) ?_
      · skip
        go_simp
        refine hK.out _ _ (KS.out _ (fun i h1 h2 h3 => hb5.block i h1)) (fun hHeld => ?_)
        clear hK K
        (try simp only [Act.put, List.setIfInBounds_toArray, List.set_cons_zero, List.set_cons_succ])
        refine wpAnyH_ready (rs := [9]) (by kernel_rfl) (by simp) ?_
        refine AllReadyH.cons (o := ⟨some 28, _, _, _, _, _⟩) rfl (fun K hK => ?_) AllReadyH.nil
        go_simp
        refine hK.out _ _ (KS.out _ (fun i h1 h2 h3 => (Below.heap_alloc _ _ _ (by omega)).trans (hb5.block i h1))) (fun hHeld => ?_)
        clear hK K
        (try simp only [Act.put, List.setIfInBounds_toArray, List.set_cons_zero, List.set_cons_succ])
        refine wpAnyH_ready (rs := [10]) (by kernel_rfl) (by simp) ?_
        refine AllReadyH.cons (o := ⟨some 29, _, _, _, _, _⟩) rfl (fun K hK => ?_) AllReadyH.nil
        refine if_t (by rfl) (opwp_of_list (ops := #[]) rfl ?_)
        have hy5 : Kd.tm.K W5 (fun b => (bo + 1 ≤ b) ∧ some b ≠ (Value.slice oA j oc).ownBlock) (app l f y) [.int .u8 (app l f y).k, .string (app l f y).s, .int .i64 (app l f y).n, .slice rA (app l f y).l.length rc] := TmK_iff.2 ⟨_, rfl, huS.mono (fun i hi => ⟨by simp only [World.size_drew] at hi; omega, fun e => by have := (HLT.out _ e.symm).2; simp only [World.size_drew] at hi; omega⟩)⟩
        have hO5 := Kd.Own.below hb5 HO.out
        have hbase5 : bo + 1 ≤ W5.heap.size := by omega
        have hl5 : (((x.l.take j).map (app l f)).length + 1) * 56 ≤ 140737488355328 := by rw [hml]; omega
        have hl6 : ((x.l.take j).map (app l f) ++ [app l f y]).length = j + 1 := by simp only [List.length_append, hml]; rfl
        refine Kd.append Kd.tm (W := W5) (bo + 1) (fun b => bo + 1 ≤ b) rfl (.tmp 20) (.tmp 28) 23 25 (.agg #[.int .u8 0, .string ⟨#[]⟩, .int .i64 0, .slice none 0 0]) 56 rfl Try.underlying23 Try.infoT rfl (by decide) (.slice oA j oc) (((x.l.take j).map (app l f))) (app l f y) [.int .u8 (app l f y).k, .string (app l f y).s, .int .i64 (app l f y).n, .slice rA (app l f y).l.length rc] rfl rfl hy5 hO5 hbase5 hl5 ?_
        intro v6 w6 hO6 hg6 hat6
        obtain ⟨A6, c6, hv6⟩ := Kd.Own.form hO6
        rw [hl6] at hv6
        subst hv6
        change K _ _
        refine hK.out _ _ (KS.out _ (fun i h1 h2 h3 => (hg6.block i (by omega) h3).trans (hb5.block i h1))) (fun hHeld => ?_)
        clear hK K
        (try simp only [Act.put, List.setIfInBounds_toArray, List.set_cons_zero, List.set_cons_succ])
        refine wpAnyH_take (i := 11) (oi := ⟨some 30, _, _, _, _, _⟩) (v := ?_) rfl (by kernel_rfl) (by kernel_rfl) (by kernel_rfl) (fun _ _ _ h => h) (Or.inl ⟨by rfl, ?_⟩) (by assumption) ?_
        rotate_left
        · (intro w hSw; (try dsimp only at hSw); go_simp; try (with_reducible rfl))
        (try simp only [Act.put, List.setIfInBounds_toArray, List.set_cons_zero, List.set_cons_succ])
        have hgs6 := hg6.size
        have hbo6 := (hg6.block bo hlo5 (fun e => by have := (HLT.out _ e.symm).1; omega)).trans (block_below hb5 hbol HBO.out)
        obtain ⟨k0, k1, k2, k3, m0, m1, m2, m3⟩ := box4 hbo6
        refine wpAnyH_ready (rs := [12]) (by kernel_rfl) (by simp) ?_
        refine AllReadyH.cons (o := ⟨none, _, _, _, _, _⟩) rfl (fun K hK => ?_) AllReadyH.nil
        go_simp
        refine hK.out _ _ (KS.out _ (fun i h1 h2 h3 => ((grown_set w6 bo 3 _).block i (by omega) (fun e => h2 (by injection e))).trans ((hg6.block i (by omega) h3).trans (hb5.block i h1)))) (fun hHeld => ?_)
        clear hK K
        (try simp only [Act.put, List.setIfInBounds_toArray, List.set_cons_zero, List.set_cons_succ])
        refine wpAnyH_done (by kernel_rfl) ?_ _
        go_wp2
        go_roundw
        case rel =>
          have hk7 : ∀ i, i < wr.heap.size → i ≠ bo → some i ≠ (Value.slice oA j oc).ownBlock → (w6.setCell ⟨bo, 3, none⟩ (.slice A6 (j + 1) c6)).heap[i]? = wr.heap[i]? := fun i h1 h2 h3 => ((grown_set w6 bo 3 _).block i (by omega) (fun e => h2 (by injection e))).trans ((hg6.block i (by omega) h3).trans (hb5.block i h1))
          have hb7 := below_of_grown (gfresh' (gfresh' (gnone (below_then HB.out HB.out.size hb5)) hg6 (fun k hk => by have := (HLT.out k hk).1; omega)) (grown_set w6 bo 3 (.slice A6 (j + 1) c6)) (fun k hk => by injection hk; omega))
          have hO7 := Kd.Own.grown (grown_set w6 bo 3 (.slice A6 (j + 1) c6)) (fun b hb he => by injection he; omega) (.inr (fun he => by have := (Kd.Own.lt hO6 _ he).1; omega)) hO6
          refine ⟨j + 1, .slice A6 (j + 1) c6, by omega, by go_num, by simp [World.setCell, Array.getElem?_modify, hbo6], by rw [HMX.out]; exact hO7, hb7, (hk7 _ (by omega) (by omega) (fun e => by have := (HLT.out _ e.symm).1; omega)).trans HBX.out, (hk7 _ (by omega) (by omega) (fun e => by have := (HLT.out _ e.symm).1; omega)).trans HRS.out⟩
        case measure => simp [intOf]; omega
      refine AllReadyH.cons (o := ⟨some 28, _, _, _, _, _⟩) rfl (fun K hK => ?_) AllReadyH.nil
      go_simp
      refine hK.out _ _ (KS.out _ (fun i h1 h2 h3 => (Below.heap_alloc _ _ _ (by omega)).trans (hb5.block i h1))) (fun hHeld => ?_)
      clear hK K
      (try simp only [Act.put, List.setIfInBounds_toArray, List.set_cons_zero, List.set_cons_succ])
      refine wpAnyH_ready (rs := [1]) (by kernel_rfl) (by simp) ?_
      refine AllReadyH.cons (o := ⟨some 20, _, _, _, _, _⟩) rfl (fun K hK => ?_) AllReadyH.nil
      go_simp
      refine hK.out _ _ (KS.out _ (fun i h1 h2 h3 => (Below.heap_alloc _ _ _ (by omega)).trans (hb5.block i h1))) (fun hHeld => ?_)
      clear hK K
      (try simp only [Act.put, List.setIfInBounds_toArray, List.set_cons_zero, List.set_cons_succ])
      refine wpAnyH_ready (rs := [10]) (by kernel_rfl) (by simp) ?_
      refine AllReadyH.cons (o := ⟨some 29, _, _, _, _, _⟩) rfl (fun K hK => ?_) AllReadyH.nil
      refine if_t (by rfl) (opwp_of_list (ops := #[]) rfl ?_)
      have hy5 : Kd.tm.K W5 (fun b => (bo + 1 ≤ b) ∧ some b ≠ (Value.slice oA j oc).ownBlock) (app l f y) [.int .u8 (app l f y).k, .string (app l f y).s, .int .i64 (app l f y).n, .slice rA (app l f y).l.length rc] := TmK_iff.2 ⟨_, rfl, huS.mono (fun i hi => ⟨by simp only [World.size_drew] at hi; omega, fun e => by have := (HLT.out _ e.symm).2; simp only [World.size_drew] at hi; omega⟩)⟩
      have hO5 := Kd.Own.below hb5 HO.out
      have hbase5 : bo + 1 ≤ W5.heap.size := by omega
      have hl5 : (((x.l.take j).map (app l f)).length + 1) * 56 ≤ 140737488355328 := by rw [hml]; omega
      have hl6 : ((x.l.take j).map (app l f) ++ [app l f y]).length = j + 1 := by simp only [List.length_append, hml]; rfl
      refine Kd.append Kd.tm (W := W5) (bo + 1) (fun b => bo + 1 ≤ b) rfl (.tmp 20) (.tmp 28) 23 25 (.agg #[.int .u8 0, .string ⟨#[]⟩, .int .i64 0, .slice none 0 0]) 56 rfl Try.underlying23 Try.infoT rfl (by decide) (.slice oA j oc) (((x.l.take j).map (app l f))) (app l f y) [.int .u8 (app l f y).k, .string (app l f y).s, .int .i64 (app l f y).n, .slice rA (app l f y).l.length rc] rfl rfl hy5 hO5 hbase5 hl5 ?_
      intro v6 w6 hO6 hg6 hat6
      obtain ⟨A6, c6, hv6⟩ := Kd.Own.form hO6
      rw [hl6] at hv6
      subst hv6
      change K _ _
      refine hK.out _ _ (KS.out _ (fun i h1 h2 h3 => (hg6.block i (by omega) h3).trans (hb5.block i h1))) (fun hHeld => ?_)
      clear hK K
      (try simp only [Act.put, List.setIfInBounds_toArray, List.set_cons_zero, List.set_cons_succ])
      refine wpAnyH_take (i := 11) (oi := ⟨some 30, _, _, _, _, _⟩) (v := ?_) rfl (by kernel_rfl) (by kernel_rfl) (by kernel_rfl) (fun _ _ _ h => h) (Or.inl ⟨by rfl, ?_⟩) (by assumption) ?_
      rotate_left
      · (intro w hSw; (try dsimp only at hSw); go_simp; try (with_reducible rfl))
      (try simp only [Act.put, List.setIfInBounds_toArray, List.set_cons_zero, List.set_cons_succ])
      have hgs6 := hg6.size
      have hbo6 := (hg6.block bo hlo5 (fun e => by have := (HLT.out _ e.symm).1; omega)).trans (block_below hb5 hbol HBO.out)
      obtain ⟨k0, k1, k2, k3, m0, m1, m2, m3⟩ := box4 hbo6
      refine wpAnyH_ready (rs := [12]) (by kernel_rfl) (by simp) ?_
      refine AllReadyH.cons (o := ⟨none, _, _, _, _, _⟩) rfl (fun K hK => ?_) AllReadyH.nil
      go_simp
      refine hK.out _ _ (KS.out _ (fun i h1 h2 h3 => ((grown_set w6 bo 3 _).block i (by omega) (fun e => h2 (by injection e))).trans ((hg6.block i (by omega) h3).trans (hb5.block i h1)))) (fun hHeld => ?_)
      clear hK K
      (try simp only [Act.put, List.setIfInBounds_toArray, List.set_cons_zero, List.set_cons_succ])
      refine wpAnyH_done (by kernel_rfl) ?_ _
      go_wp2
      go_roundw
      case rel =>
        have hk7 : ∀ i, i < wr.heap.size → i ≠ bo → some i ≠ (Value.slice oA j oc).ownBlock → (w6.setCell ⟨bo, 3, none⟩ (.slice A6 (j + 1) c6)).heap[i]? = wr.heap[i]? := fun i h1 h2 h3 => ((grown_set w6 bo 3 _).block i (by omega) (fun e => h2 (by injection e))).trans ((hg6.block i (by omega) h3).trans (hb5.block i h1))
        have hb7 := below_of_grown (gfresh' (gfresh' (gnone (below_then HB.out HB.out.size hb5)) hg6 (fun k hk => by have := (HLT.out k hk).1; omega)) (grown_set w6 bo 3 (.slice A6 (j + 1) c6)) (fun k hk => by injection hk; omega))
        have hO7 := Kd.Own.grown (grown_set w6 bo 3 (.slice A6 (j + 1) c6)) (fun b hb he => by injection he; omega) (.inr (fun he => by have := (Kd.Own.lt hO6 _ he).1; omega)) hO6
        refine ⟨j + 1, .slice A6 (j + 1) c6, by omega, by go_num, by simp [World.setCell, Array.getElem?_modify, hbo6], by rw [HMX.out]; exact hO7, hb7, (hk7 _ (by omega) (by omega) (fun e => by have := (HLT.out _ e.symm).1; omega)).trans HBX.out, (hk7 _ (by omega) (by omega) (fun e => by have := (HLT.out _ e.symm).1; omega)).trans HRS.out⟩
      case measure => simp [intOf]; omega
    · obtain rfl : j = x.l.length := by omega
      rw [List.take_of_length_le (Nat.le_refl _)] at hO
      rw [show ((x.l.take x.l.length).map (app l f)).length = x.l.length by simp] at hoV
      subst hoV
      obtain ⟨d0, d1, d2, d3, -, -, -, -⟩ := box4 hbx
      obtain ⟨e0, e1, e2, e3, -, -, -, -⟩ := box4 hbo
      obtain ⟨r0, r1, r2, r3, g0, g1, g2, g3⟩ := box4 hrs
      have HO := Lib.hid hO
      have HB := Lib.hid hb
      clear hO hb hbx hrs hbo
      go_wp2_with fail
      refine bodyPost_ret (v := .agg #[.int .u8 x.k, .string x.s, .int .i64 x.n, .slice oA x.l.length oc]) (by simp [results, Try.results23, go_sem, r0, r1, r2, r3]) rfl ?_
      have hg := grown_set4 wr (w.heap.size + 1) (.int .u8 x.k) (.string x.s) (.int .i64 x.n) (.slice oA x.l.length oc)
      refine ⟨⟨_, rfl, _, rfl, ?_⟩, below_of_grown (gfresh (gnone HB.out) hg (by omega))⟩
      refine Kd.S.mono (fun i hi => ?_) (Kd.S.grown hg (fun i hi e => by injection e; omega) ((Kd.Own.S HO.out).mono (ok' := fun b => bo + 1 ≤ b) (fun i hi => hi.elim id id)))
      omega
end Go.Proofs.Ytdidmhcblepcbaa

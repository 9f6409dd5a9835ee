/- Layer 22's law: instructions as the document's, walked. Conditions: the argument reads; at most a million instructions. -/
import Derived.Test.YtdflckjnpgbjlaaCl
import Derived.Test.YtdflckjnpgbjlaaS8
set_option linter.unusedVariables false
set_option maxRecDepth 20000
set_option linter.unusedSimpArgs false
namespace Go.Proofs.Ytdflckjnpgbjlaa
open Go.RowKit

theorem frz7 {w : World} {B : Nat} {t : TypeId} {a b c d e f g : Value} (h : w.heap[B]? = some (.cells #[a, b, c, d, e, f, g] t (0, 0))) : w.frozen? ⟨B, 6, none⟩ = false := by simp [World.frozen?, h]
theorem Try.infoRC : (Try.prog.info? 130).map (fun i => (i.zero, i.size, i.bytes)) = some (some (.agg #[.int .u8 0, .string ⟨#[]⟩, .int .i64 0, .int .i64 0]), 4, 40) := by kernel_rfl
theorem Try.infoRI : (Try.prog.info? 128).map (fun i => (i.zero, i.size, i.bytes)) = some (some (.agg #[.int .i64 0, .int .i64 0, .int .i64 0, .int .u8 0, .string ⟨#[]⟩, .int .i64 0, .slice none 0 0]), 7, 80) := by kernel_rfl
set_option maxRecDepth 100000 in
set_option maxHeartbeats 8000000 in
theorem Plain_c (l : List In) (v : Value) (w : World) (ok : Nat → Prop) (hv : (Kd.inq .u8).S w ok l v) (hop : ∀ i ∈ l, 0 ≤ i.op ∧ i.op ≤ 255) (hll : l.length ≤ 1000000) (hcs : ∀ i ∈ l, i.cs.length ≤ 1000000) :
    Calls Try.prog 41 #[v] w fun e w' => (∃ r, e = .returned r ∧ (Kd.inq .i64).S w' (fun _ => True) l r) ∧ Below w.heap.size w w' := by
  have HV := Lib.hid ((Kd.S.bound hv).mono (ok' := fun b => b < w.heap.size) (fun _ h => h.2))
  obtain ⟨A, c, rfl, hl, hc, -⟩ := hv
  unfold maxLen at hc
  go_enter Try.func41, Try.ntmps41
  go_wp2
  go_loopw [3, 4] (fun sv i wr => ∃ j : Nat, j ≤ l.length ∧ i = .int .i64 j ∧ Hid ((Kd.inq .i64).Own 128 wr w.heap.size (fun b => w.heap.size ≤ b) (l.take j) sv) ∧ Below w.heap.size w wr) (fun _ i _ => l.length - (intOf i).toNat)
  case atStart => exact ⟨0, Nat.zero_le _, rfl, Lib.hid (Kd.Own.nil _ _ _ _ _), Below.refl _ _⟩
  case round =>
    obtain ⟨j, hj, rfl, hO, hb⟩ := hrel
    obtain ⟨oA, oc, hoV⟩ := hO.out.form
    by_cases hlt : j < l.length
    · obtain ⟨A', c', eA, -, -, hA⟩ := HV.out
      injection eA with eA1 eA2 eA3
      subst eA1
      clear eA2 eA3
      obtain ⟨bb, ob, u, rfl, hokb, hlo, h0, h1, h2, h3, h4, h5, h6, h7⟩ := in_elem hA hlt
      have g0 := cell_below hb h0 hlo
      have g1 := cell_below hb h1 hlo
      have g2 := cell_below hb h2 hlo
      have g3 := cell_below hb h3 hlo
      have g4 := cell_below hb h4 hlo
      have g5 := cell_below hb h5 hlo
      have g6 := cell_below hb h6 hlo
      obtain ⟨Au, cu, rfl⟩ := h7.form
      have HS := Lib.hid (h7.below hb)
      have hop8 := hop _ (List.getElem_mem hlt)
      have hcl := hcs _ (List.getElem_mem hlt)
      have HMX := Lib.hid (show l.take (j + 1) = l.take j ++ [l[j]] by rw [take_succ_at l hlt])
      have hml : (l.take j).length = j := by rw [List.length_take]; omega
      have HLT := Lib.hid hO.out.lt
      rw [hml] at hoV
      subst hoV
      clear hA h0 h1 h2 h3 h4 h5 h6 h7
      generalize l[j] = x at g0 g1 g2 g3 g4 g5 g6 HS hop8 hcl HMX
      go_wp2
      refine wp_region_held_drew (S := (fun W => W.cell? ⟨bb, ob + j * 7, none⟩ = some (.int .u8 x.op) ∧ W.cell? ⟨bb, ob + j * 7 + 1, none⟩ = some (.int .i64 x.a) ∧ W.cell? ⟨bb, ob + j * 7 + 2, none⟩ = some (.int .i64 x.b) ∧ W.cell? ⟨bb, ob + j * 7 + 3, none⟩ = some (.int .u8 x.kd) ∧ W.cell? ⟨bb, ob + j * 7 + 4, none⟩ = some (.string x.s) ∧ W.cell? ⟨bb, ob + j * 7 + 5, none⟩ = some (.int .i64 x.n) ∧ W.cell? ⟨bb, ob + j * 7 + 6, none⟩ = some (.slice Au x.cs.length cu))) (by kernel_rfl) ?_ (fun hHeld => ?_)
      · exact ⟨g0, g1, g2, g3, g4, g5, g6⟩
      change wpAnyH _ .any _ _ _ 34 (Array.replicate 34 false) _ _
      refine wpAnyH_take (i := 0) (oi := ⟨some 14, _, _, _, _, _⟩) (v := ?_) rfl (by kernel_rfl) (by kernel_rfl) (by kernel_rfl) (fun _ _ _ h => h) (Or.inl ⟨by rfl, ?_⟩) (by assumption) ?_
      rotate_left
      · (intro w hSw; (try dsimp only at hSw); go_simp; try (with_reducible rfl))
      (try simp only [Act.put, List.setIfInBounds_toArray, List.set_cons_zero, List.set_cons_succ])
      refine wpAnyH_take (i := 1) (oi := ⟨some 15, _, _, _, _, _⟩) (v := ?_) rfl (by kernel_rfl) (by kernel_rfl) (by kernel_rfl) (fun _ _ _ h => h) (Or.inl ⟨by rfl, ?_⟩) (by assumption) ?_
      rotate_left
      · (intro w hSw; (try dsimp only at hSw); go_simp; try (with_reducible rfl))
      (try simp only [Act.put, List.setIfInBounds_toArray, List.set_cons_zero, List.set_cons_succ])
      refine wpAnyH_take (i := 2) (oi := ⟨some 16, _, _, _, _, _⟩) (v := ?_) rfl (by kernel_rfl) (by kernel_rfl) (by kernel_rfl) (fun _ _ _ h => h) (Or.inl ⟨by rfl, ?_⟩) (by assumption) ?_
      rotate_left
      · (intro w hSw; (try dsimp only at hSw); go_simp; try (with_reducible rfl))
      (try simp only [Act.put, List.setIfInBounds_toArray, List.set_cons_zero, List.set_cons_succ])
      refine wpAnyH_take (i := 3) (oi := ⟨some 17, _, _, _, _, _⟩) (v := ?_) rfl (by kernel_rfl) (by kernel_rfl) (by kernel_rfl) (fun _ _ _ h => h) (Or.inl ⟨by rfl, ?_⟩) (by assumption) ?_
      rotate_left
      · (intro w hSw; (try dsimp only at hSw); go_simp; try (with_reducible rfl))
      (try simp only [Act.put, List.setIfInBounds_toArray, List.set_cons_zero, List.set_cons_succ])
      refine wpAnyH_take (i := 4) (oi := ⟨some 18, _, _, _, _, _⟩) (v := ?_) rfl (by kernel_rfl) (by kernel_rfl) (by kernel_rfl) (fun _ _ _ h => h) (Or.inl ⟨by rfl, ?_⟩) (by assumption) ?_
      rotate_left
      · (intro w hSw; (try dsimp only at hSw); go_simp; try (with_reducible rfl))
      (try simp only [Act.put, List.setIfInBounds_toArray, List.set_cons_zero, List.set_cons_succ])
      have hcw : IntKind.i64.wrap x.op = x.op := by rw [IntKind.wrap_i64]; omega
      refine wpAnyH_take (i := 5) (oi := ⟨some 19, _, _, _, _, _⟩) (v := ?_) rfl (by kernel_rfl) (by kernel_rfl) (by kernel_rfl) (fun _ _ _ h => h) (Or.inl ⟨by rfl, ?_⟩) (by assumption) ?_
      rotate_left
      · (intro w hSw; (try dsimp only at hSw); go_simp; try (with_reducible rfl))
      (try simp only [Act.put, List.setIfInBounds_toArray, List.set_cons_zero, List.set_cons_succ])
      refine wpAnyH_take (i := 6) (oi := ⟨some 20, _, _, _, _, _⟩) (v := ?_) rfl (by kernel_rfl) (by kernel_rfl) (by kernel_rfl) (fun _ _ _ h => h) (Or.inl ⟨by rfl, ?_⟩) (by assumption) ?_
      rotate_left
      · (intro w hSw; (try dsimp only at hSw); go_simp; try (with_reducible rfl))
      (try simp only [Act.put, List.setIfInBounds_toArray, List.set_cons_zero, List.set_cons_succ])
      refine wpAnyH_take (i := 7) (oi := ⟨some 21, _, _, _, _, _⟩) (v := ?_) rfl (by kernel_rfl) (by kernel_rfl) (by kernel_rfl) (fun _ _ _ h => h) (Or.inl ⟨by rfl, ?_⟩) (by assumption) ?_
      rotate_left
      · (intro w hSw; (try dsimp only at hSw); go_simp; try (with_reducible rfl))
      (try simp only [Act.put, List.setIfInBounds_toArray, List.set_cons_zero, List.set_cons_succ])
      refine wpAnyH_take (i := 8) (oi := ⟨some 22, _, _, _, _, _⟩) (v := ?_) rfl (by kernel_rfl) (by kernel_rfl) (by kernel_rfl) (fun _ _ _ h => h) (Or.inl ⟨by rfl, ?_⟩) (by assumption) ?_
      rotate_left
      · (intro w hSw; (try dsimp only at hSw); go_simp; try (with_reducible rfl))
      (try simp only [Act.put, List.setIfInBounds_toArray, List.set_cons_zero, List.set_cons_succ])
      refine wpAnyH_take (i := 9) (oi := ⟨some 23, _, _, _, _, _⟩) (v := ?_) rfl (by kernel_rfl) (by kernel_rfl) (by kernel_rfl) (fun _ _ _ h => h) (Or.inl ⟨by rfl, ?_⟩) (by assumption) ?_
      rotate_left
      · (intro w hSw; (try dsimp only at hSw); go_simp; try (with_reducible rfl))
      (try simp only [Act.put, List.setIfInBounds_toArray, List.set_cons_zero, List.set_cons_succ])
      refine wpAnyH_take (i := 10) (oi := ⟨some 24, _, _, _, _, _⟩) (v := ?_) rfl (by kernel_rfl) (by kernel_rfl) (by kernel_rfl) (fun _ _ _ h => h) (Or.inl ⟨by rfl, ?_⟩) (by assumption) ?_
      rotate_left
      · (intro w hSw; (try dsimp only at hSw); go_simp; try (with_reducible rfl))
      (try simp only [Act.put, List.setIfInBounds_toArray, List.set_cons_zero, List.set_cons_succ])
      refine wpAnyH_take (i := 11) (oi := ⟨some 25, _, _, _, _, _⟩) (v := ?_) rfl (by kernel_rfl) (by kernel_rfl) (by kernel_rfl) (fun _ _ _ h => h) (Or.inl ⟨by rfl, ?_⟩) (by assumption) ?_
      rotate_left
      · (intro w hSw; (try dsimp only at hSw); go_simp; try (with_reducible rfl))
      (try simp only [Act.put, List.setIfInBounds_toArray, List.set_cons_zero, List.set_cons_succ])
      refine wpAnyH_take (i := 12) (oi := ⟨some 26, _, _, _, _, _⟩) (v := ?_) rfl (by kernel_rfl) (by kernel_rfl) (by kernel_rfl) (fun _ _ _ h => h) (Or.inl ⟨by rfl, ?_⟩) (by assumption) ?_
      rotate_left
      · (intro w hSw; (try dsimp only at hSw); go_simp; try (with_reducible rfl))
      (try simp only [Act.put, List.setIfInBounds_toArray, List.set_cons_zero, List.set_cons_succ])
      refine wpAnyH_take (i := 13) (oi := ⟨some 27, _, _, _, _, _⟩) (v := ?_) rfl (by kernel_rfl) (by kernel_rfl) (by kernel_rfl) (fun _ _ _ h => h) (Or.inl ⟨by rfl, ?_⟩) (by assumption) ?_
      rotate_left
      · (intro w hSw; (try dsimp only at hSw); go_simp; try (with_reducible rfl))
      (try simp only [Act.put, List.setIfInBounds_toArray, List.set_cons_zero, List.set_cons_succ])
      refine wpAnyH_take (i := 14) (oi := ⟨some 28, _, _, _, _, _⟩) (v := ?_) rfl (by kernel_rfl) (by kernel_rfl) (by kernel_rfl) (fun _ _ _ h => h) (Or.inl ⟨by rfl, ?_⟩) (by assumption) ?_
      rotate_left
      · (intro w hSw; (try dsimp only at hSw); go_simp; try (with_reducible rfl))
      (try simp only [Act.put, List.setIfInBounds_toArray, List.set_cons_zero, List.set_cons_succ])
      refine wpAnyH_take (i := 15) (oi := ⟨some 29, _, _, _, _, _⟩) (v := ?_) rfl (by kernel_rfl) (by kernel_rfl) (by kernel_rfl) (fun _ _ _ h => h) (Or.inl ⟨by rfl, ?_⟩) (by assumption) ?_
      rotate_left
      · (intro w hSw; (try dsimp only at hSw); go_simp; try (with_reducible rfl))
      (try simp only [Act.put, List.setIfInBounds_toArray, List.set_cons_zero, List.set_cons_succ])
      refine wpAnyH_take (i := 16) (oi := ⟨some 30, _, _, _, _, _⟩) (v := ?_) rfl (by kernel_rfl) (by kernel_rfl) (by kernel_rfl) (fun _ _ _ h => h) (Or.inl ⟨by rfl, ?_⟩) (by assumption) ?_
      rotate_left
      · (intro w hSw; (try dsimp only at hSw); go_simp; try (with_reducible rfl))
      (try simp only [Act.put, List.setIfInBounds_toArray, List.set_cons_zero, List.set_cons_succ])
      refine wpAnyH_take (i := 17) (oi := ⟨some 31, _, _, _, _, _⟩) (v := ?_) rfl (by kernel_rfl) (by kernel_rfl) (by kernel_rfl) (fun _ _ _ h => h) (Or.inl ⟨by rfl, ?_⟩) (by assumption) ?_
      rotate_left
      · (intro w hSw; (try dsimp only at hSw); go_simp; try (with_reducible rfl))
      (try simp only [Act.put, List.setIfInBounds_toArray, List.set_cons_zero, List.set_cons_succ])
      refine wpAnyH_take (i := 18) (oi := ⟨some 32, _, _, _, _, _⟩) (v := ?_) rfl (by kernel_rfl) (by kernel_rfl) (by kernel_rfl) (fun _ _ _ h => h) (Or.inl ⟨by rfl, ?_⟩) (by assumption) ?_
      rotate_left
      · (intro w hSw; (try dsimp only at hSw); go_simp; try (with_reducible rfl))
      (try simp only [Act.put, List.setIfInBounds_toArray, List.set_cons_zero, List.set_cons_succ])
      refine wpAnyH_take (i := 19) (oi := ⟨some 33, _, _, _, _, _⟩) (v := ?_) rfl (by kernel_rfl) (by kernel_rfl) (by kernel_rfl) (fun _ _ _ h => h) (Or.inl ⟨by rfl, ?_⟩) (by assumption) ?_
      rotate_left
      · (intro w hSw; (try dsimp only at hSw); go_simp; try (with_reducible rfl))
      (try simp only [Act.put, List.setIfInBounds_toArray, List.set_cons_zero, List.set_cons_succ])
      refine wpAnyH_take (i := 20) (oi := ⟨some 34, _, _, _, _, _⟩) (v := ?_) rfl (by kernel_rfl) (by kernel_rfl) (by kernel_rfl) (fun _ _ _ h => h) (Or.inl ⟨by rfl, ?_⟩) (by assumption) ?_
      rotate_left
      · (intro w hSw; (try dsimp only at hSw); go_simp; try (with_reducible rfl))
      (try simp only [Act.put, List.setIfInBounds_toArray, List.set_cons_zero, List.set_cons_succ])
      refine wpAnyH_take (i := 21) (oi := ⟨some 35, _, _, _, _, _⟩) (v := ?_) rfl (by kernel_rfl) (by kernel_rfl) (by kernel_rfl) (fun _ _ _ h => h) (Or.inl ⟨by rfl, ?_⟩) (by assumption) ?_
      rotate_left
      · (intro w hSw; (try dsimp only at hSw); go_simp; try (with_reducible rfl))
      (try simp only [Act.put, List.setIfInBounds_toArray, List.set_cons_zero, List.set_cons_succ])
      refine wpAnyH_take (i := 22) (oi := ⟨some 36, _, _, _, _, _⟩) (v := ?_) rfl (by kernel_rfl) (by kernel_rfl) (by kernel_rfl) (fun _ _ _ h => h) (Or.inl ⟨by rfl, ?_⟩) (by assumption) ?_
      rotate_left
      · (intro w hSw; (try dsimp only at hSw); go_simp; try (with_reducible rfl))
      (try simp only [Act.put, List.setIfInBounds_toArray, List.set_cons_zero, List.set_cons_succ])
      refine wpAnyH_take (i := 23) (oi := ⟨some 37, _, _, _, _, _⟩) (v := ?_) rfl (by kernel_rfl) (by kernel_rfl) (by kernel_rfl) (fun _ _ _ h => h) (Or.inl ⟨by rfl, ?_⟩) (by assumption) ?_
      rotate_left
      · (intro w hSw; (try dsimp only at hSw); go_simp; try (with_reducible rfl))
      (try simp only [Act.put, List.setIfInBounds_toArray, List.set_cons_zero, List.set_cons_succ])
      refine wpAnyH_take (i := 24) (oi := ⟨some 38, _, _, _, _, _⟩) (v := ?_) rfl (by kernel_rfl) (by kernel_rfl) (by kernel_rfl) (fun _ _ _ h => h) (Or.inl ⟨by rfl, ?_⟩) (by assumption) ?_
      rotate_left
      · (intro w hSw; (try dsimp only at hSw); go_simp; try (with_reducible rfl))
      (try simp only [Act.put, List.setIfInBounds_toArray, List.set_cons_zero, List.set_cons_succ])
      refine wpAnyH_take (i := 25) (oi := ⟨some 39, _, _, _, _, _⟩) (v := ?_) rfl (by kernel_rfl) (by kernel_rfl) (by kernel_rfl) (fun _ _ _ h => h) (Or.inl ⟨by rfl, ?_⟩) (by assumption) ?_
      rotate_left
      · (intro w hSw; (try dsimp only at hSw); go_simp; try (with_reducible rfl))
      (try simp only [Act.put, List.setIfInBounds_toArray, List.set_cons_zero, List.set_cons_succ])
      refine wpAnyH_take (i := 26) (oi := ⟨some 40, _, _, _, _, _⟩) (v := ?_) rfl (by kernel_rfl) (by kernel_rfl) (by kernel_rfl) (fun _ _ _ h => h) (Or.inl ⟨by rfl, ?_⟩) (by assumption) ?_
      rotate_left
      · (intro w hSw; (try dsimp only at hSw); go_simp; try (with_reducible rfl))
      (try simp only [Act.put, List.setIfInBounds_toArray, List.set_cons_zero, List.set_cons_succ])
      refine wpAnyH_take (i := 27) (oi := ⟨some 41, _, _, _, _, _⟩) (v := ?_) rfl (by kernel_rfl) (by kernel_rfl) (by kernel_rfl) (fun _ _ _ h => h) (Or.inl ⟨by rfl, ?_⟩) (by assumption) ?_
      rotate_left
      · (intro w hSw; (try dsimp only at hSw); go_simp; try (with_reducible rfl))
      (try simp only [Act.put, List.setIfInBounds_toArray, List.set_cons_zero, List.set_cons_succ])
      refine wpAnyH_take (i := 28) (oi := ⟨some 42, _, _, _, _, _⟩) (v := ?_) rfl (by kernel_rfl) (by kernel_rfl) (by kernel_rfl) (fun _ _ _ h => h) (Or.inl ⟨by rfl, ?_⟩) (by assumption) ?_
      rotate_left
      · (intro w hSw; (try dsimp only at hSw); go_simp; try (with_reducible rfl))
      (try simp only [Act.put, List.setIfInBounds_toArray, List.set_cons_zero, List.set_cons_succ])
      refine wpAnyH_take (i := 29) (oi := ⟨some 43, _, _, _, _, _⟩) (v := ?_) rfl (by kernel_rfl) (by kernel_rfl) (by kernel_rfl) (fun _ _ _ h => h) (Or.inl ⟨by rfl, ?_⟩) (by assumption) ?_
      rotate_left
      · (intro w hSw; (try dsimp only at hSw); go_simp; try (with_reducible rfl))
      (try simp only [Act.put, List.setIfInBounds_toArray, List.set_cons_zero, List.set_cons_succ])
      refine wpAnyH_take (i := 30) (oi := ⟨some 44, _, _, _, _, _⟩) (v := ?_) rfl (by kernel_rfl) (by kernel_rfl) (by kernel_rfl) (fun _ _ _ h => h) (Or.inl ⟨by rfl, ?_⟩) (by assumption) ?_
      rotate_left
      · (intro w hSw; (try dsimp only at hSw); go_simp; try (with_reducible rfl))
      (try simp only [Act.put, List.setIfInBounds_toArray, List.set_cons_zero, List.set_cons_succ])
      refine wpAnyH_take (i := 31) (oi := ⟨some 45, _, _, _, _, _⟩) (v := ?_) rfl (by kernel_rfl) (by kernel_rfl) (by kernel_rfl) (fun _ _ _ h => h) (Or.inl ⟨by rfl, ?_⟩) (by assumption) ?_
      rotate_left
      · (intro w hSw; (try dsimp only at hSw); go_simp; try (with_reducible rfl))
      (try simp only [Act.put, List.setIfInBounds_toArray, List.set_cons_zero, List.set_cons_succ])
      refine wpAnyH_ready (rs := [32]) (by kernel_rfl) (by simp) ?_
      refine AllReadyH.cons (o := ⟨some 5, _, _, _, _, _⟩) rfl (fun K hK => ?_) AllReadyH.nil
      go_simp
      refine hK.out _ _ ⟨cell_below ((Below.refl _ wr).drew.alloc (Nat.le_refl _) _) g0 (cell_lt g0), cell_below ((Below.refl _ wr).drew.alloc (Nat.le_refl _) _) g1 (cell_lt g1), cell_below ((Below.refl _ wr).drew.alloc (Nat.le_refl _) _) g2 (cell_lt g2), cell_below ((Below.refl _ wr).drew.alloc (Nat.le_refl _) _) g3 (cell_lt g3), cell_below ((Below.refl _ wr).drew.alloc (Nat.le_refl _) _) g4 (cell_lt g4), cell_below ((Below.refl _ wr).drew.alloc (Nat.le_refl _) _) g5 (cell_lt g5), cell_below ((Below.refl _ wr).drew.alloc (Nat.le_refl _) _) g6 (cell_lt g6)⟩ (fun hHeld => ?_)
      clear hK K
      (try simp only [Act.put, List.setIfInBounds_toArray, List.set_cons_zero, List.set_cons_succ])
      refine wpAnyH_ready (rs := [33]) (by kernel_rfl) (by simp) ?_
      refine AllReadyH.cons (o := ⟨none, _, _, _, _, _⟩) rfl (fun K hK => ?_) AllReadyH.nil
      go_simp
      refine hK.out _ _ ⟨cell_below ((Below.refl _ wr).drew.alloc (Nat.le_refl _) _) g0 (cell_lt g0), cell_below ((Below.refl _ wr).drew.alloc (Nat.le_refl _) _) g1 (cell_lt g1), cell_below ((Below.refl _ wr).drew.alloc (Nat.le_refl _) _) g2 (cell_lt g2), cell_below ((Below.refl _ wr).drew.alloc (Nat.le_refl _) _) g3 (cell_lt g3), cell_below ((Below.refl _ wr).drew.alloc (Nat.le_refl _) _) g4 (cell_lt g4), cell_below ((Below.refl _ wr).drew.alloc (Nat.le_refl _) _) g5 (cell_lt g5), cell_below ((Below.refl _ wr).drew.alloc (Nat.le_refl _) _) g6 (cell_lt g6)⟩ (fun hHeld => ?_)
      clear hK K
      (try simp only [Act.put, List.setIfInBounds_toArray, List.set_cons_zero, List.set_cons_succ])
      refine wpAnyH_done (by kernel_rfl) ?_ _
      have hb1 : Below wr.heap.size wr (wr.alloc (.cells #[.int .i64 x.op, .int .i64 x.a, .int .i64 x.b, .int .u8 x.kd, .string x.s, .int .i64 x.n, .slice none 0 0] 128)).drew := ((Below.refl _ wr).alloc (Nat.le_refl _) _).drew
      have hx1 : (wr.alloc (.cells #[.int .i64 x.op, .int .i64 x.a, .int .i64 x.b, .int .u8 x.kd, .string x.s, .int .i64 x.n, .slice none 0 0] 128)).drew.heap[wr.heap.size]? = some (.cells #[.int .i64 x.op, .int .i64 x.a, .int .i64 x.b, .int .u8 x.kd, .string x.s, .int .i64 x.n, .slice none 0 0] 128 (0, 0)) := heap_new wr _
      have hz1 : (wr.alloc (.cells #[.int .i64 x.op, .int .i64 x.a, .int .i64 x.b, .int .u8 x.kd, .string x.s, .int .i64 x.n, .slice none 0 0] 128)).drew.heap.size = wr.heap.size + 1 := by simp
      generalize (wr.alloc (.cells #[.int .i64 x.op, .int .i64 x.a, .int .i64 x.b, .int .u8 x.kd, .string x.s, .int .i64 x.n, .slice none 0 0] 128)).drew = W1 at hb1 hx1 hz1 ⊢
      clear g0 g1 g2 g3 g4 g5 hHeld
      have g6' := cell_below hb1 g6 (cell_lt g6)
      obtain ⟨W0, hW0⟩ : ∃ W0, W0 = wr := ⟨_, rfl⟩
      rw [← hW0] at hO hb g6 HS HLT hb1 hx1 hz1 ⊢
      clear hW0
      have hbs := hb.size
      have HB0 := Lib.hid hb
      have HO0 := hO
      clear hb hO
      generalize hBB : W0.heap.size = B at hx1 hz1 ⊢
      have HBB := Lib.hid hBB
      have HB1 := Lib.hid hb1
      clear hBB
      go_wp2
      go_loopw [6] (fun i wr => ∃ (k : Nat) (oV : Value), k ≤ x.cs.length ∧ i = .int .i64 k ∧ Hid (wr.heap[B]? = some (.cells #[.int .i64 x.op, .int .i64 x.a, .int .i64 x.b, .int .u8 x.kd, .string x.s, .int .i64 x.n, oV] 128 (0, 0))) ∧ Hid (Kd.cs.Own 130 wr (B + 1) (fun b => B + 1 ≤ b) (x.cs.take k) oV) ∧ Hid (Below W0.heap.size W0 wr)) (fun i _ => x.cs.length - (intOf i).toNat)
      case atStart => exact ⟨0, _, Nat.zero_le _, rfl, Lib.hid hx1, Lib.hid (by rw [List.take_zero]; exact Kd.Own.nil _ _ _ _ _), HB1⟩
      case round =>
        clear hx1 hz1 hb1 g6' HB1
        obtain ⟨k, oV, hk, rfl, hX, hO, hb⟩ := hrel
        obtain ⟨pA, pc, hpV⟩ := hO.out.form
        have hml2 : (x.cs.take k).length = k := by rw [List.length_take]; omega
        rw [hml2] at hpV
        subst hpV
        have HLT2 := Lib.hid hO.out.lt
        have hBl : B < wr.heap.size := (Array.getElem?_eq_some_iff.1 hX.out).1
        have hbsz := hb.out.size
        have hB0 := HBB.out
        have g6' := cell_below hb.out g6 (cell_lt g6)
        obtain ⟨k0, k1, k2, k3, k4, k5, k6⟩ := box7 hX.out
        by_cases hkt : k < x.cs.length
        · obtain ⟨As, csc, eS, -, -, hSA⟩ := (HS.out).bound
          injection eS with eS1 eS2 eS3
          subst eS1
          clear eS2 eS3
          obtain ⟨bc, oc', rfl, hbc, hlc, q0, q1, q2, q3⟩ := cs_elem hSA hkt
          have p0 := cell_below hb.out q0 hlc
          have p1 := cell_below hb.out q1 hlc
          have p2 := cell_below hb.out q2 hlc
          have p3 := cell_below hb.out q3 hlc
          have HMX2 := Lib.hid (show x.cs.take (k + 1) = x.cs.take k ++ [x.cs[k]] by rw [take_succ_at x.cs hkt])
          clear hSA q0 q1 q2 q3
          generalize x.cs[k] = y at p0 p1 p2 p3 HMX2
          have hkt' : (k : Int) < x.cs.length := by omega
          go_wp2_with (at_builtin; go_loud (refine Kd.append Kd.cs (W := wr.alloc (.cells #[.int .u8 y.k, .string y.s, .int .i64 y.n, .int .i64 y.to] 73)) (B + 1) (fun b => B + 1 ≤ b) rfl (.tmp 65) (.tmp 75) 126 130 (.agg #[.int .u8 0, .string ⟨#[]⟩, .int .i64 0, .int .i64 0]) 40 rfl Try.underlying126 Try.infoRC rfl (by decide) (.slice pA k pc) (x.cs.take k) y [.int .u8 y.k, .string y.s, .int .i64 y.n, .int .i64 y.to] rfl (by rw [World.size_alloc]; rfl) ?hy ?HO2 ?hbase2 ?hl2 ?_))
          case hy => exact rfl
          case HO2 => exact Kd.Own.below ((Below.refl _ wr).alloc (Nat.le_refl _) _) hO.out
          case hbase2 => simp; omega
          case hl2 => rw [hml2]; omega
          intro v6 w6 hO6 hg6 hat6
          obtain ⟨A6, c6, hv6⟩ := Kd.Own.form hO6
          rw [show (x.cs.take k ++ [y]).length = k + 1 by simp only [List.length_append, hml2]; rfl] at hv6
          subst hv6
          have hbo6 : w6.heap[B]? = some (.cells #[.int .i64 x.op, .int .i64 x.a, .int .i64 x.b, .int .u8 x.kd, .string x.s, .int .i64 x.n, .slice pA k pc] 128 (0, 0)) := (hg6.block B (by simp; omega) (fun e => by have := (HLT2.out _ e.symm).1; omega)).trans ((Below.heap_alloc _ _ _ hBl).trans hX.out)
          obtain ⟨m0, m1, m2, m3, m4, m5, m6⟩ := box7 hbo6
          have mf := frz7 hbo6
          have hgs6 := hg6.size
          rw [World.size_alloc] at hgs6
          go_wp2_with fail
          go_roundw
          case rel =>
            have hgs := grown_set w6 B 6 (.slice A6 (k + 1) c6)
            refine ⟨k + 1, .slice A6 (k + 1) c6, by omega, by go_num, Lib.hid (by simp [World.setCell, Array.getElem?_modify, hbo6]), Lib.hid (by rw [HMX2.out]; exact Kd.Own.grown hgs (fun b hb he => by injection he; omega) (.inr (fun he => by have := (Kd.Own.lt hO6 _ he).1; omega)) hO6), Lib.hid ?_⟩
            exact below_of_grown (gfresh' (gfresh' (gnone (hb.out.alloc (by omega) (.cells #[.int .u8 y.k, .string y.s, .int .i64 y.n, .int .i64 y.to] 73))) hg6 (fun k hk => by have := (HLT2.out k hk).1; omega)) hgs (fun k hk => by injection hk; omega))
          case measure => simp [intOf]; omega
        · have hkl : k = x.cs.length := by omega
          subst hkl
          have hO2 := hO.out
          rw [List.take_length] at hO2
          have hS2 := Kd.Own.S hO2
          have hbb := hb.out
          go_wp2_with (at_builtin; refine Kd.append (Kd.inq .i64) (W := wr) w.heap.size (fun b => w.heap.size ≤ b) rfl (.tmp 78) (.tmp 80) 69 128 (.agg #[.int .i64 0, .int .i64 0, .int .i64 0, .int .u8 0, .string ⟨#[]⟩, .int .i64 0, .slice none 0 0]) 80 rfl Try.underlying69 Try.infoRI rfl (by decide) (.slice oA j oc) (l.take j) x [.int .i64 x.op, .int .i64 x.a, .int .i64 x.b, .int .u8 x.kd, .string x.s, .int .i64 x.n, .slice pA x.cs.length pc] rfl rfl ?hy ?HO2 ?hbase2 ?hl2 ?_)
          case hy => exact ⟨_, rfl, hS2.mono (fun i hi => by
            have hi : B + 1 ≤ i := by rcases hi with h | h <;> exact h
            exact ⟨by omega, fun e => by have := (HLT.out _ e.symm).2; omega⟩)⟩
          case HO2 => exact Kd.Own.below hbb HO0.out
          case hbase2 => omega
          case hl2 => rw [hml]; omega
          intro v6 w6 hO6 hg6 hat6
          go_wp2_with fail
          go_roundw
          case rel => exact ⟨j + 1, by omega, by go_num, Lib.hid (by rw [HMX.out]; exact hO6), below_of_grown (gfresh' (gnone (below_then HB0.out HB0.out.size hbb)) hg6 (fun k hk => (HLT.out k hk).1))⟩
          case measure => simp [intOf]; omega
    · have hjl : j = l.length := by omega
      subst hjl
      have hO := hO.out
      rw [List.take_length] at hO hoV
      subst hoV
      have hS := (Kd.Own.S hO).mono (ok' := fun _ => True) (fun _ _ => trivial)
      clear hO
      go_wp2
      go_ret
      exact ⟨⟨_, rfl, hS⟩, hb⟩
end Go.Proofs.Ytdflckjnpgbjlaa

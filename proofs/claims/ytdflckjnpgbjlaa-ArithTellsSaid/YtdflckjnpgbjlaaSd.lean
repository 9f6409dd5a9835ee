/- The law's 'Make': bindings, one behind the other. Conditions: the arguments read; at most 40 bindings of at most a million nodes. -/
import Derived.Test.YtdflckjnpgbjlaaSc
set_option linter.unusedVariables false
set_option maxRecDepth 20000
set_option linter.unusedSimpArgs false
namespace Go.Proofs.Ytdflckjnpgbjlaa
open Go.RowKit

theorem Try.infoB : (Try.prog.info? 48).map (fun i => (i.zero, i.size, i.bytes)) = some (some (.agg #[.int .i64 0, .int .u8 0, .string ⟨#[]⟩, .int .i64 0, .slice none 0 0]), 5, 64) := by kernel_rfl
/-- A cell of five: box. -/
theorem box5 {w : World} {B : Nat} {t : TypeId} {a b c d e : Value} (h : w.heap[B]? = some (.cells #[a, b, c, d, e] t (0, 0))) :
    w.cell? ⟨B, 0, none⟩ = some a ∧ w.cell? ⟨B, 1, none⟩ = some b ∧ w.cell? ⟨B, 2, none⟩ = some c ∧ w.cell? ⟨B, 3, none⟩ = some d ∧ w.cell? ⟨B, 4, none⟩ = some e := by
  simp [World.cell?, h]
theorem ofB_in {l : Bs} {n : Int} {t : Tm} (h : ofB l n = some t) : (n, t) ∈ l := ofB_mem h
set_option maxRecDepth 100000 in
set_option maxHeartbeats 4000000 in
theorem Make_c (l : Bs) (vl : Value) (w : World) (okl : Nat → Prop) (hvl : Kd.bd.S w okl l vl) (hl : WfB l) (hll : l.length ≤ 40) (hsm : ∀ b ∈ l, b.2.siz ≤ 1000000) :
    Calls Try.prog 29 #[vl] w fun e w' => (∃ p b r, e = .returned (.tuple #[.pointer (some ⟨p, 0, none⟩), r, .bool true]) ∧ Sub w' (fun k => k < w.heap.size) (mk [] l) p b ∧ Kd.bd.S w' (fun _ => True) (mk [] l) r ∧ w.heap.size ≤ p ∧ w.heap.size ≤ b) ∧ Below w.heap.size w w' := by
  obtain ⟨Al, cl, rfl, hl1, hcl, hA⟩ := Kd.S.mono (ok' := fun k => k < w.heap.size) (fun _ h => h.2) (Kd.S.bound hvl)
  have HA := Lib.hid hA
  have HL := Lib.hid hl
  have HSM := Lib.hid hsm
  unfold maxLen at hcl
  clear hA hvl hl hsm
  go_enter Try.func29, Try.ntmps29
  go_wp2_with (go_at_call 19; refine (New_c _ (fun k => k < w.heap.size)).mono ?_; rintro e w1 ⟨⟨p, b, rfl, hs, hp, hb⟩, hb1⟩)
  have HS1 := Lib.hid hs
  clear hs
  go_loopw [6, 7] (fun hd i wr => ∃ (j : Nat) (had : Bs), j ≤ l.length ∧ i = .int .i64 j ∧ Hid (had = mk [] (l.take j)) ∧ Hid (Sub wr (fun k => k < w.heap.size) had p b) ∧ Hid (Kd.bd.Own 48 wr w1.heap.size (fun k => k < w.heap.size) had hd) ∧ Below w.heap.size w wr ∧ w1.heap.size ≤ wr.heap.size) (fun _ i _ => l.length - (intOf i).toNat)
  case atStart => exact ⟨0, [], Nat.zero_le _, rfl, Lib.hid rfl, HS1, Lib.hid (Kd.Own.nil _ _ _ _ _), hb1, Nat.le_refl _⟩
  case round =>
    obtain ⟨j, had, hj, rfl, hh, hs, hO, hbw, hz1⟩ := hrel
    have hlt1 := HS1.out.lt
    have hwz := hb1.size
    clear HS1
    by_cases hlt : j < l.length
    · obtain ⟨bb, o, u, rfl, hokb, hlo, h0, h1, h2, h3, h4, h5⟩ := bd_elem HA.out hlt
      have g0 := cell_below hbw h0 hlo
      have g1 := cell_below hbw h1 hlo
      have g2 := cell_below hbw h2 hlo
      have g3 := cell_below hbw h3 hlo
      have g4 := cell_below hbw h4 hlo
      obtain ⟨Au, cu, rfl⟩ := h5.form
      have hm := List.getElem_mem hlt
      have hS5 := Lib.hid (Kd.S.move (fun i hi => hbw.block i hi) h5)
      have hw5 := HL.out _ hm
      have hz5 := HSM.out _ hm
      have hHN := Lib.hid (show mk [] (l.take (j + 1)) = bnd had l[j].1 l[j].2 (visA had l[j].2) by rw [take_succ_at l hlt, mk_snoc, hh.out])
      have hhl : had.length ≤ j := by rw [hh.out]; have := mk_length (l.take j) []; simp only [List.length_take, List.length_nil] at this; omega
      have hhs : ∀ n t, ofB had n = some t → t.siz ≤ 1000000 := fun n t h => by
        have h1 := ofB_mem h
        rw [hh.out] at h1
        rcases mk_sub _ _ _ h1 with h2 | h2
        · cases h2
        · exact HSM.out _ (List.mem_of_mem_take h2)
      generalize l[j] = q at g0 g1 g2 g3 g4 hS5 hw5 hz5 hHN
      obtain ⟨v, t⟩ := q
      simp only at g0 g1 g2 g3 g4 hS5 hw5 hz5 hHN
      have hac := hs.out.acyc
      have hfu := hac.fueled t
      have HBI := Lib.hid (fun W (hsW : Sub W (fun k => k < w.heap.size) had p b) (hvW : TmV W (fun k => k < w.heap.size) t (.agg #[.int .u8 t.k, .string t.s, .int .i64 t.n, .slice Au t.l.length cu])) => Bind_c had p b _ v t _ W _ hsW hvW hw5.2 hfu hw5.1 (by omega))
      have HOF := Lib.hid (fun W vh (hW : Kd.bd.S W (fun _ => True) had vh) => Of_c had v vh W _ hW)
      have HOC := Lib.hid (fun W vh (hW : Kd.bd.S W (fun _ => True) had vh) (hvW : TmV W (fun k => k < w.heap.size) t (.agg #[.int .u8 t.k, .string t.s, .int .i64 t.n, .slice Au t.l.length cu])) => rOccurs_c had t _ v vh _ W _ _ hW hvW hfu hac (by omega) hhs hz5 hw5.1)
      have HLT := Lib.hid (Kd.Own.lt hO.out)
      obtain ⟨hA', hc', rfl⟩ := Kd.Own.form hO.out
      change Hid (∀ W, _ → _ → Calls _ _ _ W (fun e w' => e = .returned (.int .i64 (bindE had v (visA had t))) ∧ Sub w' _ (bnd had v t (visA had t)) p b ∧ _)) at HBI
      change Hid (∀ W vh, _ → _ → Calls _ _ _ W (fun e w' => e = .returned (.tuple #[.bool (occE (visA had t) v).1, .int .i64 (occE (visA had t) v).2]) ∧ _)) at HOC
      have hbe : bindE had v (visA had t) = if (ofB had v).isSome || decide (v < 0) then 1 else if (occE (visA had t) v).2 ≠ 0 then (occE (visA had t) v).2 else if (occE (visA had t) v).1 then 1 else 0 := rfl
      have hrc : occE (visA had t) v = (true, 0) ∨ occE (visA had t) v = (false, 31) ∨ occE (visA had t) v = (false, 0) := by
        unfold occE; split
        · exact .inl rfl
        · split
          · exact .inr (.inl rfl)
          · exact .inr (.inr rfl)
      have hbn : bindE had v (visA had t) = 0 → bnd had v t (visA had t) = had ++ [(v, t)] := fun h => bindE_eq h t
      have hbn2 : bindE had v (visA had t) ≠ 0 → bnd had v t (visA had t) = had := fun h => bindE_ne h t
      obtain ⟨E, hE⟩ : ∃ E, E = bindE had v (visA had t) := ⟨_, rfl⟩
      rw [← hE] at HBI hbe hbn hbn2
      generalize occE (visA had t) v = r at hbe hrc HOC
      generalize bnd had v t (visA had t) = hadN at HBI hbn hbn2 hHN
      clear hE
      have HBN := Lib.hid hbn
      have HBN2 := Lib.hid hbn2
      have HHL := Lib.hid hhl
      clear h0 h1 h2 h3 h4 h5 hm hfu hac hhs hw5 hz5 hbn hbn2
      obtain ⟨sm, hsm'⟩ : ∃ sm, sm = (ofB had v).isSome := ⟨_, rfl⟩
      rw [← hsm'] at hbe HOF
      clear hsm'
      have hne8 : ∀ O : Obj, (wr.alloc O).heap.size = wr.heap.size + 1 := fun O => World.size_alloc _ _
      have hbb : b ≠ wr.heap.size := by omega
      have hcase : (v < 0 ∧ E = 1) ∨ (¬ v < 0 ∧ sm = true ∧ E = 1) ∨ (¬ v < 0 ∧ sm = false ∧ r = (true, 0) ∧ E = 1) ∨ (¬ v < 0 ∧ sm = false ∧ r = (false, 31) ∧ E = 31) ∨ (¬ v < 0 ∧ sm = false ∧ r = (false, 0) ∧ E = 0) := by
        by_cases h1 : v < 0
        · left; exact ⟨h1, by rw [hbe]; simp [h1]⟩
        · cases sm with
          | true => right; left; exact ⟨h1, rfl, by rw [hbe]; simp⟩
          | false =>
            rcases hrc with rfl | rfl | rfl
            · right; right; left; exact ⟨h1, rfl, rfl, by rw [hbe]; simp [h1]⟩
            · right; right; right; left; exact ⟨h1, rfl, rfl, by rw [hbe]; simp [h1]⟩
            · right; right; right; right; exact ⟨h1, rfl, rfl, by rw [hbe]; simp [h1]⟩
      clear hbe hrc
      rcases hcase with ⟨h1, rfl⟩ | ⟨h1, rfl, rfl⟩ | ⟨h1, rfl, rfl, rfl⟩ | ⟨h1, rfl, rfl, rfl⟩ | ⟨h1, rfl, rfl, rfl⟩
      all_goals
        go_wp2_with (first
          | (go_at_call 64; refine (HBI.out _ (hs.out.below ((Below.refl _ wr).alloc (Nat.le_refl _) _)) ⟨_, rfl, hS5.out.below ((Below.refl _ wr).alloc (Nat.le_refl _) _)⟩).mono ?_; clear HBI; rintro e w2 ⟨rfl, hs2, hg2⟩; have hs2 := Lib.hid hs2; have hz2 := hg2.size; rw [hne8] at hz2; have hbx2 := (hg2.block wr.heap.size (by rw [hne8]; omega) (fun e => hbb (by injection e with e; exact e.symm))).trans (heap_new wr _); obtain ⟨c0, c1, c2, c3, c4⟩ := box5 hbx2; have hbx2 := Lib.hid hbx2; have hO2 := Lib.hid (Kd.Own.grown hg2 (fun k hk e => by injection e; omega) (.inr (fun e => by have := (HLT.out _ e).1; omega)) (Kd.Own.below ((Below.refl _ wr).alloc (Nat.le_refl _) _) hO.out)); have hB2 := Lib.hid (below_of_grown (gfresh (r := none) (gbelow (gnone hbw) ((Below.refl _ wr).alloc (Nat.le_refl _) _)) hg2 hb)))
          | (go_at_call 65; refine (HOF.out _ _ ((Kd.Own.S hO2.out).mono (fun _ _ => trivial))).mono ?_; clear HOF; rintro e w3 ⟨⟨u3, rfl, hu3⟩, hb3⟩; obtain ⟨uu3, rfl, hu3S⟩ := hu3; obtain ⟨A3, c3', rfl⟩ := hu3S.form; clear hu3S; have hz3 := hb3.size; clear c0 c1 c2 c3 c4; have hbx3 := block_below hb3 (by omega) hbx2.out; obtain ⟨c0, c1, c2, c3, c4⟩ := box5 hbx3; have hs3 := Lib.hid (hs2.out.below hb3); have hO3 := Lib.hid (Kd.Own.below hb3 hO2.out); have hB3 := Lib.hid (below_then hB2.out hB2.out.size hb3); have hbl3 : wr.heap.size < w3.heap.size := (by omega))
          | (go_at_call 66; refine (HOC.out _ _ ((Kd.Own.S (Kd.Own.below ((Below.refl _ w3).alloc (Nat.le_refl _) _) hO3.out)).mono (fun _ _ => trivial)) ⟨_, rfl, Kd.S.move (fun i hi => (hB3.out.alloc hB3.out.size _).block i hi |>.trans ((hbw.block i hi).symm)) hS5.out⟩).mono ?_; clear HOC; rintro e w4 ⟨rfl, hb4⟩; have hz4 := hb4.size; rw [World.size_alloc] at hz4; clear c0 c1 c2 c3 c4; have hbx4 := block_below hb4 (by rw [World.size_alloc]; omega) (block_below ((Below.refl _ w3).alloc (Nat.le_refl _) _) hbl3 hbx3); obtain ⟨c0, c1, c2, c3, c4⟩ := box5 hbx4; have hs4 := Lib.hid ((hs3.out.below ((Below.refl _ w3).alloc (Nat.le_refl _) _)).below hb4); have hO4 := Lib.hid (Kd.Own.below hb4 (Kd.Own.below ((Below.refl _ w3).alloc (Nat.le_refl _) _) hO3.out)); have hB4 := Lib.hid (below_then (hB3.out.alloc hB3.out.size _) (hB3.out.alloc hB3.out.size _).size hb4))
          | (at_builtin; refine Kd.append Kd.bd (W := w4) w1.heap.size (fun k => k < w.heap.size) rfl (.tmp 69) (.tmp 71) 45 48 (.agg #[.int .i64 0, .int .u8 0, .string ⟨#[]⟩, .int .i64 0, .slice none 0 0]) 64 rfl Try.underlying45 Try.infoB rfl (by decide) _ had (v, t) [.int .i64 v, .int .u8 t.k, .string t.s, .int .i64 t.n, .slice Au t.l.length cu] rfl rfl ⟨[.int .i64 v], _, rfl, rfl, TmK_iff.2 ⟨_, rfl, Kd.S.mono (fun k hk => ⟨hk, fun e => by have := (HLT.out _ e.symm).1; omega⟩) (Kd.S.move (fun i hi => (hB4.out.block i hi).trans (hbw.block i hi).symm) hS5.out)⟩⟩ hO4.out (by omega) (by have := HHL.out; omega) ?_; intro v5 w5 hO5 hg5 hat5; have hO5 := Lib.hid hO5))
      · go_roundw
        case rel => exact ⟨j + 1, had, by omega, by go_num, Lib.hid (by rw [hHN.out, HBN2.out (by decide)]), Lib.hid ((HBN2.out (by decide) ▸ hs3.out).below ((Below.refl _ w3).alloc (Nat.le_refl _) _)), Lib.hid (Kd.Own.below ((Below.refl _ w3).alloc (Nat.le_refl _) _) hO3.out), hB3.out.alloc hB3.out.size _, by simp only [World.size_alloc]; omega⟩
        case measure => simp [intOf]; omega
      · go_roundw
        case rel => exact ⟨j + 1, had, by omega, by go_num, Lib.hid (by rw [hHN.out, HBN2.out (by decide)]), Lib.hid ((HBN2.out (by decide) ▸ hs3.out).below ((Below.refl _ w3).alloc (Nat.le_refl _) _)), Lib.hid (Kd.Own.below ((Below.refl _ w3).alloc (Nat.le_refl _) _) hO3.out), hB3.out.alloc hB3.out.size _, by simp only [World.size_alloc]; omega⟩
        case measure => simp [intOf]; omega
      · go_roundw
        case rel => exact ⟨j + 1, had, by omega, by go_num, Lib.hid (by rw [hHN.out, HBN2.out (by decide)]), Lib.hid (HBN2.out (by decide) ▸ hs4.out), hO4, hB4.out, by omega⟩
        case measure => simp [intOf]; omega
      · go_roundw
        case rel => exact ⟨j + 1, had, by omega, by go_num, Lib.hid (by rw [hHN.out, HBN2.out (by decide)]), Lib.hid (HBN2.out (by decide) ▸ hs4.out), hO4, hB4.out, by omega⟩
        case measure => simp [intOf]; omega
      · go_roundw
        case rel => exact ⟨j + 1, had ++ [(v, t)], by omega, by go_num, Lib.hid (by rw [hHN.out, HBN.out (by first | rfl | trivial)]), Lib.hid (Sub.grown (HBN.out (by first | rfl | trivial) ▸ hs4.out) hg5 (fun k hk e => by have := (HLT.out _ e.symm).1; omega) (fun e => by have := (HLT.out _ e.symm).1; omega) (fun e => by have := (HLT.out _ e.symm).1; omega)), hO5, below_of_grown (gfresh' (gnone hB4.out) hg5 (fun k hk => by have := (HLT.out _ hk).1; omega)), by have := hg5.size; omega⟩
        case measure => simp [intOf]; omega
    · obtain rfl : j = l.length := by omega
      rw [List.take_of_length_le (Nat.le_refl _)] at hh
      obtain ⟨hA', hc', rfl⟩ := Kd.Own.form hO.out
      have HB := Lib.hid hbw
      clear hbw
      go_wp2_with (go_at_call 20; refine (sLen_c had p b wr _ hs.out).mono ?_; rintro e w2 ⟨rfl, hb2⟩)
      refine bodyPost_ret (v := .tuple #[.pointer (some ⟨p, 0, none⟩), .slice hA' had.length hc', .bool true]) (by simp [results, Try.results29, go_sem]) rfl ⟨⟨p, b, _, rfl, ?_, ?_, hp, hb⟩, below_then HB.out HB.out.size hb2⟩
      · rw [← hh.out]; exact hs.out.below hb2
      · rw [← hh.out]; exact ((Kd.Own.S hO.out).mono (fun _ _ => trivial)).below hb2
end Go.Proofs.Ytdflckjnpgbjlaa

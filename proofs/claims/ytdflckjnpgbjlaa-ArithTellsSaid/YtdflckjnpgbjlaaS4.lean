/- Substitutions made, copied, counted; variables bound. Conditions: the arguments read; the bindings make no circle. -/
import Derived.Test.YtdflckjnpgbjlaaS3
import Derived.StillTailTactics
import Derived.Shelf.SlMaps.Clone
set_option linter.unusedVariables false
set_option maxRecDepth 20000
set_option linter.unusedSimpArgs false
namespace Go.Proofs.Ytdflckjnpgbjlaa
open Go.RowKit

theorem Sub.made (w : World) (ok : Nat → Prop) : Sub ((w.alloc (.map #[] 0)).alloc (.cells #[.map (some w.heap.size)] 91)) ok [] (w.heap.size + 1) w.heap.size := by
  refine ⟨?_, ⟨fun _ => none, (MapAt.made w).move (Below.heap_alloc _ _ _ (by simp)), fun n => ⟨fun _ => rfl, fun t h => by simp [ofB] at h⟩⟩, acyc_nil, fun n t h => by simp [ofB] at h⟩
  have := heap_new (w.alloc (.map #[] 0)) (.cells #[.map (some w.heap.size)] 91)
  rwa [World.size_alloc] at this
theorem New_c (w : World) (ok : Nat → Prop) :
    Calls Try.prog 19 #[] w fun e w' => (∃ p b, e = .returned (.pointer (some ⟨p, 0, none⟩)) ∧ Sub w' ok [] p b ∧ w.heap.size ≤ p ∧ w.heap.size ≤ b) ∧ Below w.heap.size w w' := by
  have hmm := @run_makeMap Try.prog
  go_enter Try.func19, Try.ntmps19
  go_wp2
  go_ret
  exact ⟨⟨_, _, rfl, Sub.made w ok, by omega, by omega⟩, ((Below.refl _ w).alloc (Nat.le_refl _) _).alloc (by simp) _⟩
/-- A map copied. -/
theorem mapsClone_c {M : Int → Option Value} {sz : Nat} (b : Nat) (w : World) (h : MapAt w b M sz) :
    Calls Try.prog 95 #[.map (some b)] w fun e w' => e = .returned (.map (some w.heap.size)) ∧ MapAt w' w.heap.size M sz ∧ Below w.heap.size w w' := by
  obtain ⟨D, ⟨es, clock, hb, hr⟩, h2⟩ := h
  have hq := fun w => run_eql_map_nil_sl (P := Try.prog) w 89 _ _ (some b) Try.underlying89
  go_enter Try.func95, Try.ntmps95
  go_wp2
  rw [run_callFunc_extern Try.func139 (by kernel_rfl) (by kernel_rfl) (by kernel_rfl) (e := Extern.MapsClone.clone) (by kernel_rfl), run_maps_clone_sl w 89 hb]
  simp only [Result.andThen]
  rw [Oper.upon_value]
  go_wp2
  rw [run_typeAssert_map_sl _ 89 _ _ _ _ Try.underlying89]
  simp only [Result.andThen]
  rw [Oper.upon_value]
  go_wp2
  go_ret
  exact ⟨rfl, ⟨D, ⟨es, clock, heap_new w _, hr⟩, h2⟩, (Below.refl _ w).alloc (Nat.le_refl _) _⟩
theorem run_pnil (w : World) : (binOp .eql 28 (.pointer none) (.pointer none)).run Try.prog w = .ok (.bool true) w := by kernel_rfl
theorem sClone_c (l : Bs) (p b : Nat) (w : World) (ok : Nat → Prop) (hs : Sub w ok l p b) :
    Calls Try.prog 58 #[.pointer (some ⟨p, 0, none⟩)] w fun e w' => (∃ p' b', e = .returned (.pointer (some ⟨p', 0, none⟩)) ∧ Sub w' ok l p' b' ∧ w.heap.size ≤ p' ∧ w.heap.size ≤ b') ∧ Below w.heap.size w w' := by
  have hp := hs.at
  have HS := Lib.hid hs
  obtain ⟨M, hM, hM2⟩ := hs.map
  have HM2 := Lib.hid hM2
  have HC := Lib.hid (mapsClone_c b w hM)
  clear hs hM hM2
  go_enter Try.func58, Try.ntmps58
  go_wp2_with (go_at_call 95; refine HC.out.mono ?_; clear HC; rintro e w1 ⟨rfl, hM1, hb1⟩)
  go_ret
  have hlt := hM1.lt
  refine ⟨⟨w1.heap.size, w.heap.size, rfl, ⟨heap_new w1 _, ⟨M, hM1.move (Below.heap_alloc _ _ _ hlt), fun n => ⟨(HM2.out n).1, fun t hn => ?_⟩⟩, HS.out.acyc, HS.out.wf⟩, by omega, by omega⟩, hb1.alloc (by omega) _⟩
  obtain ⟨v, hv, hv2⟩ := (HM2.out n).2 t hn
  exact ⟨v, hv, hv2.below (hb1.alloc (by omega) _)⟩
theorem sClone_nil (w : World) : Calls Try.prog 58 #[.pointer none] w fun e w' => e = .returned (.pointer none) ∧ Below w.heap.size w w' := by
  go_enter Try.func58, Try.ntmps58
  go_wp2
  go_ret
  exact ⟨rfl, Below.refl _ _⟩
theorem sLen_c (l : Bs) (p b : Nat) (w : World) (ok : Nat → Prop) (hs : Sub w ok l p b) :
    Calls Try.prog 20 #[.pointer (some ⟨p, 0, none⟩)] w fun e w' => e = .returned (.int .i64 (l.length : Nat)) ∧ Below w.heap.size w w' := by
  have hp := hs.at
  obtain ⟨M, hM, hM2⟩ := hs.map
  have HM := Lib.hid hM
  clear hs hM hM2
  go_enter Try.func20, Try.ntmps20
  go_wp2_with (at_len; refine MapAt.len HM.out rfl _ 89 rfl 24 Try.underlying89 rfl ?_)
  go_ret
  exact ⟨rfl, Below.refl _ _⟩
theorem sLen_nil (w : World) : Calls Try.prog 20 #[.pointer none] w fun e w' => e = .returned (.int .i64 0) ∧ Below w.heap.size w w' := by
  go_enter Try.func20, Try.ntmps20
  go_wp2
  go_ret
  exact ⟨rfl, Below.refl _ _⟩

theorem Sub.apart {w : World} {ok : Nat → Prop} {l : Bs} {p b : Nat} (h : Sub w ok l p b) : Sub w (fun k => ok k ∧ k ≠ b) l p b := by
  obtain ⟨h1, ⟨M, hM, hM2⟩, h3, h4⟩ := h
  exact ⟨h1, ⟨M, hM, fun n => ⟨(hM2 n).1, fun t hn => by obtain ⟨v, hv, hv2⟩ := (hM2 n).2 t hn; exact ⟨v, hv, hv2.apart hM.not_cells⟩⟩⟩, h3, h4⟩
theorem Sub.not_cells {w : World} {ok : Nat → Prop} {l : Bs} {p b : Nat} (h : Sub w ok l p b) : ∀ c t f, w.heap[b]? ≠ some (.cells c t f) := by
  obtain ⟨M, hM, _⟩ := h.map; exact hM.not_cells
/-- What the bindings are behind a Bind. -/
def bnd (l : Bs) (v : Int) (t : Tm) (P : List Tm) : Bs := if bindE l v P = 0 then l ++ [(v, t)] else l
theorem bindE_ne {l : Bs} {v : Int} {P : List Tm} (h : bindE l v P ≠ 0) (t : Tm) : bnd l v t P = l := by unfold bnd; rw [if_neg h]
theorem bindE_eq {l : Bs} {v : Int} {P : List Tm} (h : bindE l v P = 0) (t : Tm) : bnd l v t P = l ++ [(v, t)] := by unfold bnd; rw [if_pos h]
set_option maxHeartbeats 2000000 in
theorem Bind_c (l : Bs) (p b f : Nat) (q : Int) (t : Tm) (v : Value) (w : World) (ok : Nat → Prop) (hs : Sub w ok l p b) (hv : TmV w ok t v) (hwf : t.Wf) (hf : Fn l f t) (hq : -9223372036854775808 ≤ q ∧ q ≤ 9223372036854775807) (hl : l.length < 1000000) :
    Calls Try.prog 64 #[.pointer (some ⟨p, 0, none⟩), .int .i64 q, v] w fun e w' => e = .returned (.int .i64 (bindE l q (vis l f t))) ∧ Sub w' ok (bnd l q t (vis l f t)) p b ∧ w.grownBy w' (some b) := by
  have hp := hs.at
  have hkq : (Lit.int .i64 q).wf = true := by
    simp only [Lit.wf, Bool.and_eq_true, decide_eq_true_eq, IntKind.min, IntKind.max, IntKind.signed, IntKind.bits]
    simpa using hq
  obtain ⟨u, rfl, hS⟩ := hv
  obtain ⟨A, c, rfl⟩ := hS.form
  have hplt := hs.lt.1
  have hHS := Lib.hid hs
  obtain ⟨M, hM, hM2⟩ := hs.map
  have HT := Lib.hid hS
  have HF := Lib.hid hf
  have HM := Lib.hid hM
  have HK := Lib.hid hkq
  obtain ⟨O, hO⟩ : ∃ O : Obj, O = .cells #[.int .u8 t.k, .string t.s, .int .i64 t.n, .slice A t.l.length c] 24 := ⟨_, rfl⟩
  have hb1 : Below w.heap.size w (w.alloc O) := (Below.refl _ w).alloc (Nat.le_refl _) _
  have HM1 := Lib.hid (hM.move (hb1.block b hM.lt))
  have hp1 := cell_below hb1 hp hplt
  subst hO
  cases ho : ofB l q with
  | some x =>
    obtain ⟨vx, hMx, ux, rfl, hSx⟩ := (hM2 q).2 x ho
    have hbe : bindE l q (vis l f t) = 1 := by simp [bindE, ho]
    have HBE := Lib.hid hbe
    have HMX := Lib.hid hMx
    have hN := bindE_ne (l := l) (v := q) (P := vis l f t) (by rw [hbe]; decide) t
    rw [hbe, hN]
    obtain ⟨Ax, cx, rfl⟩ := hSx.form
    clear hs hM hM2 hS hkq hMx ho hbe hN hf HF hl hSx
    go_enter Try.func64, Try.ntmps64
    go_wp2_with (first
      | (at_lookup; refine MapAt.look_ok HM1.out rfl _ _ 89 rfl 24 Try.underlying89 Try.zeroT rfl q HK.out rfl ?_; rw [HMX.out]; simp only [Option.getD_some, Option.isSome_some]))
    go_ret
    have hB := hb1.alloc hb1.size (.cells #[.int .u8 x.k, .string x.s, .int .i64 x.n, .slice Ax x.l.length cx] 24)
    exact ⟨rfl, hHS.out.below hB, ⟨hB.os, hB.tape, hB.output, hB.size, fun k hk _ => hB.block k hk⟩⟩
  | none =>
    have HMX := Lib.hid ((hM2 q).1 ho)
    by_cases hq0 : q < 0
    · have hbe : bindE l q (vis l f t) = 1 := by simp [bindE, hq0]
      have hN := bindE_ne (l := l) (v := q) (P := vis l f t) (by rw [hbe]; decide) t
      rw [hbe, hN]
      clear hs hM hM2 hS hkq ho hbe hN hf HF hl
      go_enter Try.func64, Try.ntmps64
      go_wp2_with (first
        | (at_lookup; refine MapAt.look_ok HM1.out rfl _ _ 89 rfl 24 Try.underlying89 Try.zeroT rfl q HK.out rfl ?_; rw [HMX.out]; simp only [Option.getD_none, Option.isSome_none]))
      go_ret
      have hB := hb1.alloc hb1.size (.cells #[.int .u8 0, .string ⟨#[]⟩, .int .i64 0, .slice none 0 0] 24)
      exact ⟨rfl, hHS.out.below hB, ⟨hB.os, hB.tape, hB.output, hB.size, fun k hk _ => hB.block k hk⟩⟩
    · have hB := hb1.alloc hb1.size (.cells #[.int .u8 0, .string ⟨#[]⟩, .int .i64 0, .slice none 0 0] 24)
      have hOC := Lib.hid (Occurs_c l p b f q t _ _ ok (hs.below hB) (TmV.below hB ⟨_, rfl, hS⟩) hwf hf)
      have hbx := Lib.hid ((Below.heap_alloc (w.alloc (.cells #[.int .u8 t.k, .string t.s, .int .i64 t.n, .slice A t.l.length c] 24)) (.cells #[.int .u8 0, .string ⟨#[]⟩, .int .i64 0, .slice none 0 0] 24) _ (by simp)).trans (heap_new w _))
      have hq1 : 0 ≤ q := by omega
      obtain ⟨r, hr⟩ : ∃ r, r = occE (vis l f t) q := ⟨_, rfl⟩
      have hbe : bindE l q (vis l f t) = if r.2 ≠ 0 then r.2 else if r.1 then 1 else 0 := by simp [bindE, ho, hr]; omega
      have hrc : r = (true, 0) ∨ r = (false, 31) ∨ r = (false, 0) := by
        rw [hr]; unfold occE; split
        · exact .inl rfl
        · split
          · exact .inr (.inl rfl)
          · exact .inr (.inr rfl)
      rw [← hr] at hOC
      have HSA := Lib.hid hs.apart
      have hsb := Lib.hid hs
      have HTA := Lib.hid (TmV.apart hs.not_cells (t := t) (v := .agg #[.int .u8 t.k, .string t.s, .int .i64 t.n, .slice A t.l.length c]) ⟨_, rfl, hS⟩)
      have HBE := Lib.hid hbe
      have HO := Lib.hid ho
      have HM2 := Lib.hid hM2
      have HL := Lib.hid hl
      have HWF := Lib.hid hwf
      clear hs hM hM2 hS hkq ho hbe hf hl hr hq0 hwf
      rcases hrc with rfl | rfl | rfl
      · have hbe : bindE l q (vis l f t) = 1 := by rw [HBE.out]; simp
        have hN := bindE_ne (l := l) (v := q) (P := vis l f t) (by rw [hbe]; decide) t
        rw [hbe, hN]
        clear hbe hN HBE
        go_enter Try.func64, Try.ntmps64
        go_wp2_with (first
          | (at_lookup; refine MapAt.look_ok HM1.out rfl _ _ 89 rfl 24 Try.underlying89 Try.zeroT rfl q HK.out rfl ?_; rw [HMX.out]; simp only [Option.getD_none, Option.isSome_none])
          | (go_at_call 103; refine hOC.out.mono ?_; clear hOC; rintro e w2 ⟨rfl, hb2⟩))
        go_ret
        have hB2 := below_then hB hB.size hb2
        exact ⟨rfl, hHS.out.below hB2, ⟨hB2.os, hB2.tape, hB2.output, hB2.size, fun k hk _ => hB2.block k hk⟩⟩
      · have hbe : bindE l q (vis l f t) = 31 := by rw [HBE.out]; simp
        have hN := bindE_ne (l := l) (v := q) (P := vis l f t) (by rw [hbe]; decide) t
        rw [hbe, hN]
        clear hbe hN HBE
        go_enter Try.func64, Try.ntmps64
        go_wp2_with (first
          | (at_lookup; refine MapAt.look_ok HM1.out rfl _ _ 89 rfl 24 Try.underlying89 Try.zeroT rfl q HK.out rfl ?_; rw [HMX.out]; simp only [Option.getD_none, Option.isSome_none])
          | (go_at_call 103; refine hOC.out.mono ?_; clear hOC; rintro e w2 ⟨rfl, hb2⟩))
        go_ret
        have hB2 := below_then hB hB.size hb2
        exact ⟨rfl, hHS.out.below hB2, ⟨hB2.os, hB2.tape, hB2.output, hB2.size, fun k hk _ => hB2.block k hk⟩⟩
      · have hbe : bindE l q (vis l f t) = 0 := by rw [HBE.out]; simp
        have hN := bindE_eq (l := l) (v := q) (P := vis l f t) hbe t
        have HA := Lib.hid (Acyc.bound hHS.out.acyc HF.out hbe)
        rw [hbe, hN]
        clear hbe hN HBE
        go_enter Try.func64, Try.ntmps64
        go_wp2_with (first
          | (at_lookup; refine MapAt.look_ok HM1.out rfl _ _ 89 rfl 24 Try.underlying89 Try.zeroT rfl q HK.out rfl ?_; rw [HMX.out]; simp only [Option.getD_none, Option.isSome_none])
          | (go_at_call 103; refine hOC.out.mono ?_; clear hOC; rintro e w2 ⟨rfl, hb2⟩; have hB2 := below_then hB hB.size hb2; have hp2 := cell_below hB2 hp hplt; have hbx2 := block_below hb2 (by simp; omega) hbx.out; obtain ⟨c0, c1, c2, c3, -, -, -, -⟩ := box4 hbx2))
        go_still_tail 6, (by kernel_rfl)
        change wpList _ _ _ _ _ w2.drew
        have HMD := Lib.hid ((HM1.out.move (w' := w2.drew) ((hB2.block b hHS.out.lt.2).trans (hb1.block b hHS.out.lt.2).symm)))
        go_wp2_with (at_mapUpdate; refine MapAt.update HMD.out rfl _ _ _ 89 rfl 24 Try.underlying89 rfl q HK.out (.agg #[.int .u8 t.k, .string t.s, .int .i64 t.n, .slice A t.l.length c]) rfl rfl (by have := HL.out; unfold maxLen; omega) HMX.out ?_; intro w3 hM3 hg3)
        go_ret
        have hgr : w.grownBy w3 (some b) := World.grownBy.trans (b := w2.drew) ⟨hB2.os, hB2.tape, hB2.output, hB2.size, fun k hk _ => hB2.block k hk⟩ hg3
        refine ⟨rfl, ⟨(hgr.block p hplt (fun e => hsb.out.len_le (by injection e))).trans hsb.out.cell, ⟨_, by simpa using hM3, fun n => ?_⟩, HA.out, fun n x hn => ?_⟩, hgr⟩
        · have hmv : ∀ x vx, TmV w ok x vx → TmV w3 ok x vx := fun x vx hx => (TmV.grown hgr (fun k hk he => hk.2 (by injection he)) (hx.apart hsb.out.not_cells)).mono (fun _ h => h.1)
          rw [ofB_append]
          by_cases hn : n = q
          · subst hn
            simp only [HO.out, ofB_one, if_true]
            exact ⟨fun h => (by cases h), fun x hx => by injection hx with hx; subst hx; exact ⟨_, rfl, hmv _ _ ⟨_, rfl, HT.out⟩⟩⟩
          · have hn' : q ≠ n := fun h => hn h.symm
            simp only [ofB_one, if_neg hn, if_neg hn']
            have h2 := HM2.out n
            cases hox : ofB l n with
            | none => exact ⟨fun _ => h2.1 hox, fun x hx => (by simp at hx)⟩
            | some y =>
              refine ⟨fun h => (by simp at h), fun x hx => ?_⟩
              simp only [Option.some.injEq] at hx
              subst hx
              obtain ⟨vx, h3, h4⟩ := h2.2 y hox
              exact ⟨vx, h3, hmv _ _ h4⟩
        · rw [ofB_append] at hn
          cases hox : ofB l n with
          | some y =>
            rw [hox] at hn
            injection hn with hn
            subst hn
            exact hsb.out.wf _ _ hox
          | none =>
            rw [hox, ofB_one] at hn
            simp only at hn
            split at hn
            · injection hn with hn; subst hn; exact HWF.out
            · cases hn
end Go.Proofs.Ytdflckjnpgbjlaa

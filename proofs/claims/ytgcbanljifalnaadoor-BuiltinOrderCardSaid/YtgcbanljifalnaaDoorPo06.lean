import Derived.Test.YtgcbanljifalnaaDoorPo05
import Derived.StillTailTactics
import Derived.Shelf.SlMaps.Clone
import Derived.OwnWalk
import Derived.Deep.DeepCutAuto
set_option linter.unusedVariables false
set_option maxRecDepth 20000
set_option linter.unusedSimpArgs false
/- Substitutions made, copied, counted; variables bound. Conditions: the arguments read; the bindings make no circle. -/
namespace Go.Proofs.YtgcbanljifalnaaDoor
open Go.RowKit

theorem Sub.made (w : World) (ok : Nat → Prop) : Sub ((w.alloc (.map #[] 0)).alloc (.cells #[.map (some w.heap.size)] 72)) ok [] (w.heap.size + 1) w.heap.size := by
  refine ⟨?_, ⟨fun _ => none, (MapAt.made w).move (Below.heap_alloc _ _ _ (by simp)), fun n => ⟨fun _ => rfl, fun t h => by simp [ofB] at h⟩⟩, acyc_nil, fun n t h => by simp [ofB] at h⟩
  have := heap_new (w.alloc (.map #[] 0)) (.cells #[.map (some w.heap.size)] 72)
  rwa [World.size_alloc] at this
theorem New_c (w : World) (ok : Nat → Prop) :
    Calls Tryd.prog 17 #[] w fun e w' => (∃ p b, e = .returned (.pointer (some ⟨p, 0, none⟩)) ∧ Sub w' ok [] p b ∧ w.heap.size ≤ p ∧ w.heap.size ≤ b) ∧ Below w.heap.size w w' := by
  have hmm := @run_makeMap Tryd.prog
  go_enter Tryd.func17, Tryd.ntmps17
  go_wp2
  go_ret
  exact ⟨⟨_, _, rfl, Sub.made w ok, by omega, by omega⟩, ((Below.refl _ w).alloc (Nat.le_refl _) _).alloc (by simp) _⟩
/-- A map copied. -/
theorem mapsClone_c {M : Int → Option Value} {sz : Nat} (b : Nat) (w : World) (h : MapAt w b M sz) :
    Calls Tryd.prog 139 #[.map (some b)] w fun e w' => e = .returned (.map (some w.heap.size)) ∧ MapAt w' w.heap.size M sz ∧ Below w.heap.size w w' := by
  obtain ⟨D, ⟨es, clock, hb, hr⟩, h2⟩ := h
  have hq := fun w => run_eql_map_nil_sl (P := Tryd.prog) w 70 _ _ (some b) Tryd.underlying70
  go_enter Tryd.func139, Tryd.ntmps139
  go_wp2
  rw [run_callFunc_extern Tryd.func151 (by kernel_rfl) (by kernel_rfl) (by kernel_rfl) (e := Extern.MapsClone.clone) (by kernel_rfl), run_maps_clone_sl w 70 hb]
  simp only [Result.andThen]
  rw [Oper.upon_value]
  go_wp2
  rw [run_typeAssert_map_sl _ 70 _ _ _ _ Tryd.underlying70]
  simp only [Result.andThen]
  rw [Oper.upon_value]
  go_wp2
  go_ret
  exact ⟨rfl, ⟨D, ⟨es, clock, heap_new w _, hr⟩, h2⟩, (Below.refl _ w).alloc (Nat.le_refl _) _⟩
theorem sClone_c (l : Bs) (p b : Nat) (w : World) (ok : Nat → Prop) (hs : Sub w ok l p b) :
    Calls Tryd.prog 129 #[.pointer (some ⟨p, 0, none⟩)] w fun e w' => (∃ p' b', e = .returned (.pointer (some ⟨p', 0, none⟩)) ∧ Sub w' ok l p' b' ∧ w.heap.size ≤ p' ∧ w.heap.size ≤ b') ∧ Below w.heap.size w w' := by
  have hp := hs.at
  have HS := Lib.hid hs
  obtain ⟨M, hM, hM2⟩ := hs.map
  have HM2 := Lib.hid hM2
  have HC := Lib.hid (mapsClone_c b w hM)
  clear hs hM hM2
  go_enter Tryd.func129, Tryd.ntmps129
  go_wp2_with (go_at_call 139; refine HC.out.mono ?_; clear HC; rintro e w1 ⟨rfl, hM1, hb1⟩)
  go_ret
  have hlt := hM1.lt
  refine ⟨⟨w1.heap.size, w.heap.size, rfl, ⟨heap_new w1 _, ⟨M, hM1.move (Below.heap_alloc _ _ _ hlt), fun n => ⟨(HM2.out n).1, fun t hn => ?_⟩⟩, HS.out.acyc, HS.out.wf⟩, by omega, by omega⟩, hb1.alloc (by omega) _⟩
  obtain ⟨v, hv, hv2⟩ := (HM2.out n).2 t hn
  exact ⟨v, hv, hv2.below (hb1.alloc (by omega) _)⟩
theorem Sub.apart {w : World} {ok : Nat → Prop} {l : Bs} {p b : Nat} (h : Sub w ok l p b) : Sub w (fun k => ok k ∧ k ≠ b) l p b := by
  obtain ⟨h1, ⟨M, hM, hM2⟩, h3, h4⟩ := h
  exact ⟨h1, ⟨M, hM, fun n => ⟨(hM2 n).1, fun t hn => by obtain ⟨v, hv, hv2⟩ := (hM2 n).2 t hn; exact ⟨v, hv, hv2.apart hM.not_cells⟩⟩⟩, h3, h4⟩
theorem Sub.not_cells {w : World} {ok : Nat → Prop} {l : Bs} {p b : Nat} (h : Sub w ok l p b) : ∀ c t f, w.heap[b]? ≠ some (.cells c t f) := by
  obtain ⟨M, hM, _⟩ := h.map; exact hM.not_cells
/-- What the bindings are behind a Bind. -/
def bnd (l : Bs) (v : Int) (t : Tm) (P : List Tm) : Bs := if bindE l v P = 0 then l ++ [(v, t)] else l
theorem bindE_ne {l : Bs} {v : Int} {P : List Tm} (h : bindE l v P ≠ 0) (t : Tm) : bnd l v t P = l := by unfold bnd; rw [if_neg h]
theorem bindE_eq {l : Bs} {v : Int} {P : List Tm} (h : bindE l v P = 0) (t : Tm) : bnd l v t P = l ++ [(v, t)] := by unfold bnd; rw [if_pos h]
set_option maxHeartbeats 2000000 in
theorem Bind_c (l : Bs) (p b f : Nat) (q : Int) (t : Tm) (v : Value) (w : World) (ok : Nat → Prop) (hs : Sub w ok l p b) (hv : TmV w ok t v) (hwf : t.Wf) (hf : Fn l f t) (hq : -9223372036854775808 ≤ q ∧ q ≤ 9223372036854775807) (hl : l.length < 1000000) :
    Calls Tryd.prog 153 #[.pointer (some ⟨p, 0, none⟩), .int .i64 q, v] w fun e w' => e = .returned (.int .i64 (bindE l q (vis l f t))) ∧ Sub w' ok (bnd l q t (vis l f t)) p b ∧ w.grownBy w' (some b) := by
  have hp := hs.at
  have hkq : (Lit.int .i64 q).wf = true := by
    simp only [Lit.wf, Bool.and_eq_true, decide_eq_true_eq, IntKind.min, IntKind.max, IntKind.signed, IntKind.bits]
    simpa using hq
  obtain ⟨u, rfl, hS⟩ := hv
  obtain ⟨A, c, rfl⟩ := hS.form
  have hplt := hs.lt.1
  have hHS := Lib.hid hs
  obtain ⟨M, hM, hM2⟩ := hs.map
  have HT := Lib.hid hS
  have HF := Lib.hid hf
  have HM := Lib.hid hM
  have HK := Lib.hid hkq
  obtain ⟨O, hO⟩ : ∃ O : Obj, O = .cells #[.int .u8 t.k, .string t.s, .int .i64 t.n, .slice A t.l.length c] 24 := ⟨_, rfl⟩
  have hb1 : Below w.heap.size w (w.alloc O) := (Below.refl _ w).alloc (Nat.le_refl _) _
  have HM1 := Lib.hid (hM.move (hb1.block b hM.lt))
  have hp1 := cell_below hb1 hp hplt
  subst hO
  cases ho : ofB l q with
  | some x =>
    obtain ⟨vx, hMx, ux, rfl, hSx⟩ := (hM2 q).2 x ho
    have hbe : bindE l q (vis l f t) = 1 := by simp [bindE, ho]
    have HBE := Lib.hid hbe
    have HMX := Lib.hid hMx
    have hN := bindE_ne (l := l) (v := q) (P := vis l f t) (by rw [hbe]; decide) t
    rw [hbe, hN]
    obtain ⟨Ax, cx, rfl⟩ := hSx.form
    clear hs hM hM2 hS hkq hMx ho hbe hN hf HF hl hSx
    go_enter Tryd.func153, Tryd.ntmps153
    go_wp2_with (first
      | (at_lookup; refine MapAt.look_ok HM1.out rfl _ _ 70 rfl 24 Tryd.underlying70 Tryd.zeroT rfl q HK.out rfl ?_; rw [HMX.out]; simp only [Option.getD_some, Option.isSome_some]))
    go_ret
    have hB := hb1.alloc hb1.size (.cells #[.int .u8 x.k, .string x.s, .int .i64 x.n, .slice Ax x.l.length cx] 24)
    exact ⟨rfl, hHS.out.below hB, ⟨hB.os, hB.tape, hB.output, hB.size, fun k hk _ => hB.block k hk⟩⟩
  | none =>
    have HMX := Lib.hid ((hM2 q).1 ho)
    by_cases hq0 : q < 0
    · have hbe : bindE l q (vis l f t) = 1 := by simp [bindE, hq0]
      have hN := bindE_ne (l := l) (v := q) (P := vis l f t) (by rw [hbe]; decide) t
      rw [hbe, hN]
      clear hs hM hM2 hS hkq ho hbe hN hf HF hl
      go_enter Tryd.func153, Tryd.ntmps153
      go_wp2_with (first
        | (at_lookup; refine MapAt.look_ok HM1.out rfl _ _ 70 rfl 24 Tryd.underlying70 Tryd.zeroT rfl q HK.out rfl ?_; rw [HMX.out]; simp only [Option.getD_none, Option.isSome_none]))
      go_ret
      have hB := hb1.alloc hb1.size (.cells #[.int .u8 0, .string ⟨#[]⟩, .int .i64 0, .slice none 0 0] 24)
      exact ⟨rfl, hHS.out.below hB, ⟨hB.os, hB.tape, hB.output, hB.size, fun k hk _ => hB.block k hk⟩⟩
    · have hB := hb1.alloc hb1.size (.cells #[.int .u8 0, .string ⟨#[]⟩, .int .i64 0, .slice none 0 0] 24)
      have hOC := Lib.hid (Occurs_c l p b f q t _ _ ok (hs.below hB) (TmV.below hB ⟨_, rfl, hS⟩) hwf hf)
      have hbx := Lib.hid ((Below.heap_alloc (w.alloc (.cells #[.int .u8 t.k, .string t.s, .int .i64 t.n, .slice A t.l.length c] 24)) (.cells #[.int .u8 0, .string ⟨#[]⟩, .int .i64 0, .slice none 0 0] 24) _ (by simp)).trans (heap_new w _))
      have hq1 : 0 ≤ q := by omega
      obtain ⟨r, hr⟩ : ∃ r, r = occE (vis l f t) q := ⟨_, rfl⟩
      have hbe : bindE l q (vis l f t) = if r.2 ≠ 0 then r.2 else if r.1 then 1 else 0 := by simp [bindE, ho, hr]; omega
      have hrc : r = (true, 0) ∨ r = (false, 31) ∨ r = (false, 0) := by
        rw [hr]; unfold occE; split
        · exact .inl rfl
        · split
          · exact .inr (.inl rfl)
          · exact .inr (.inr rfl)
      rw [← hr] at hOC
      have HSA := Lib.hid hs.apart
      have hsb := Lib.hid hs
      have HTA := Lib.hid (TmV.apart hs.not_cells (t := t) (v := .agg #[.int .u8 t.k, .string t.s, .int .i64 t.n, .slice A t.l.length c]) ⟨_, rfl, hS⟩)
      have HBE := Lib.hid hbe
      have HO := Lib.hid ho
      have HM2 := Lib.hid hM2
      have HL := Lib.hid hl
      have HWF := Lib.hid hwf
      clear hs hM hM2 hS hkq ho hbe hf hl hr hq0 hwf
      rcases hrc with rfl | rfl | rfl
      · have hbe : bindE l q (vis l f t) = 1 := by rw [HBE.out]; simp
        have hN := bindE_ne (l := l) (v := q) (P := vis l f t) (by rw [hbe]; decide) t
        rw [hbe, hN]
        clear hbe hN HBE
        go_enter Tryd.func153, Tryd.ntmps153
        go_wp2_with (first
          | (at_lookup; refine MapAt.look_ok HM1.out rfl _ _ 70 rfl 24 Tryd.underlying70 Tryd.zeroT rfl q HK.out rfl ?_; rw [HMX.out]; simp only [Option.getD_none, Option.isSome_none])
          | (go_at_call 156; refine hOC.out.mono ?_; clear hOC; rintro e w2 ⟨rfl, hb2⟩))
        go_ret
        have hB2 := below_then hB hB.size hb2
        exact ⟨rfl, hHS.out.below hB2, ⟨hB2.os, hB2.tape, hB2.output, hB2.size, fun k hk _ => hB2.block k hk⟩⟩
      · have hbe : bindE l q (vis l f t) = 31 := by rw [HBE.out]; simp
        have hN := bindE_ne (l := l) (v := q) (P := vis l f t) (by rw [hbe]; decide) t
        rw [hbe, hN]
        clear hbe hN HBE
        go_enter Tryd.func153, Tryd.ntmps153
        go_wp2_with (first
          | (at_lookup; refine MapAt.look_ok HM1.out rfl _ _ 70 rfl 24 Tryd.underlying70 Tryd.zeroT rfl q HK.out rfl ?_; rw [HMX.out]; simp only [Option.getD_none, Option.isSome_none])
          | (go_at_call 156; refine hOC.out.mono ?_; clear hOC; rintro e w2 ⟨rfl, hb2⟩))
        go_ret
        have hB2 := below_then hB hB.size hb2
        exact ⟨rfl, hHS.out.below hB2, ⟨hB2.os, hB2.tape, hB2.output, hB2.size, fun k hk _ => hB2.block k hk⟩⟩
      · have hbe : bindE l q (vis l f t) = 0 := by rw [HBE.out]; simp
        have hN := bindE_eq (l := l) (v := q) (P := vis l f t) hbe t
        have HA := Lib.hid (Acyc.bound hHS.out.acyc HF.out hbe)
        rw [hbe, hN]
        clear hbe hN HBE
        go_enter Tryd.func153, Tryd.ntmps153
        go_wp2_with (first
          | (at_lookup; refine MapAt.look_ok HM1.out rfl _ _ 70 rfl 24 Tryd.underlying70 Tryd.zeroT rfl q HK.out rfl ?_; rw [HMX.out]; simp only [Option.getD_none, Option.isSome_none])
          | (go_at_call 156; refine hOC.out.mono ?_; clear hOC; rintro e w2 ⟨rfl, hb2⟩; have hB2 := below_then hB hB.size hb2; have hp2 := cell_below hB2 hp hplt; have hbx2 := block_below hb2 (by simp; omega) hbx.out; obtain ⟨c0, c1, c2, c3, -, -, -, -⟩ := box4 hbx2))
        go_still_tail 6, (by kernel_rfl)
        change wpList _ _ _ _ _ w2.drew
        have HMD := Lib.hid ((HM1.out.move (w' := w2.drew) ((hB2.block b hHS.out.lt.2).trans (hb1.block b hHS.out.lt.2).symm)))
        go_wp2_with (at_mapUpdate; refine MapAt.update HMD.out rfl _ _ _ 70 rfl 24 Tryd.underlying70 rfl q HK.out (.agg #[.int .u8 t.k, .string t.s, .int .i64 t.n, .slice A t.l.length c]) rfl rfl (by have := HL.out; unfold maxLen; omega) HMX.out ?_; intro w3 hM3 hg3)
        go_ret
        have hgr : w.grownBy w3 (some b) := World.grownBy.trans (b := w2.drew) ⟨hB2.os, hB2.tape, hB2.output, hB2.size, fun k hk _ => hB2.block k hk⟩ hg3
        refine ⟨rfl, ⟨(hgr.block p hplt (fun e => hsb.out.len_le (by injection e))).trans hsb.out.cell, ⟨_, by simpa using hM3, fun n => ?_⟩, HA.out, fun n x hn => ?_⟩, hgr⟩
        · have hmv : ∀ x vx, TmV w ok x vx → TmV w3 ok x vx := fun x vx hx => (TmV.grown hgr (fun k hk he => hk.2 (by injection he)) (hx.apart hsb.out.not_cells)).mono (fun _ h => h.1)
          rw [ofB_append]
          by_cases hn : n = q
          · subst hn
            simp only [HO.out, ofB_one, if_true]
            exact ⟨fun h => (by cases h), fun x hx => by injection hx with hx; subst hx; exact ⟨_, rfl, hmv _ _ ⟨_, rfl, HT.out⟩⟩⟩
          · have hn' : q ≠ n := fun h => hn h.symm
            simp only [ofB_one, if_neg hn, if_neg hn']
            have h2 := HM2.out n
            cases hox : ofB l n with
            | none => exact ⟨fun _ => h2.1 hox, fun x hx => (by simp at hx)⟩
            | some y =>
              refine ⟨fun h => (by simp at h), fun x hx => ?_⟩
              simp only [Option.some.injEq] at hx
              subst hx
              obtain ⟨vx, h3, h4⟩ := h2.2 y hox
              exact ⟨vx, h3, hmv _ _ h4⟩
        · rw [ofB_append] at hn
          cases hox : ofB l n with
          | some y =>
            rw [hox] at hn
            injection hn with hn
            subst hn
            exact hsb.out.wf _ _ hox
          | none =>
            rw [hox, ofB_one] at hn
            simp only at hn
            split at hn
            · injection hn with hn; subst hn; exact HWF.out
            · cases hn
end Go.Proofs.YtgcbanljifalnaaDoor
/- Substitutions applied: 'apply', 'Apply'. Conditions: the arguments read; the bindings make no circle; terms of at most a million nodes. -/
namespace Go.Proofs.YtgcbanljifalnaaDoor
open Go.RowKit

theorem wlkN_siz {l : Bs} {N : Nat} (hl : ∀ n t, ofB l n = some t → t.siz ≤ N) : ∀ (m : Nat) (t : Tm), t.siz ≤ N → (wlkN l m t).siz ≤ N
  | 0, t, h => h
  | m + 1, t, h => by
    simp only [wlkN]
    cases hn : nxt l t with
    | none => exact h
    | some u =>
      unfold nxt at hn
      split at hn
      · exact wlkN_siz hl m u (hl _ _ hn)
      · cases hn
theorem wlk_siz {l : Bs} {N : Nat} (hl : ∀ n t, ofB l n = some t → t.siz ≤ N) (t : Tm) (h : t.siz ≤ N) : (wlk l t).siz ≤ N := wlkN_siz hl _ t h
theorem siz_at {t : Tm} {N : Nat} (h : t.siz ≤ N) {a : Tm} (ha : a ∈ t.l) : a.siz ≤ N := by
  have := siz_mem ha
  cases t; simp only [Tm.siz] at h; simp only at this; omega
theorem len_siz {t : Tm} {N : Nat} (h : t.siz ≤ N) : t.l.length ≤ N := by
  have := length_le_sizL t.l
  cases t; simp only [Tm.siz] at h; simp only at this ⊢; omega
/-- A term laid into a row at place j. -/
theorem At.put4 {w : World} {ok : Nat → Prop} {A j n : Nat} {cs : Array Value} {T : TypeId} {xs : List Tm} {y : Tm} {u : Value} (h : w.heap[A]? = some (.cells cs T (0, 0))) (hsz : cs.size = n * 4) (hj : j < n) (hat : Kd.tm.At w ok xs A 0) (hlen : xs.length = j) (hok : ∀ b, ok b → b ≠ A) (hS : Kd.tm.S w ok y.l u) :
    Kd.tm.At ((((w.setCell ⟨A, j * 4, none⟩ (.int .u8 y.k)).setCell ⟨A, j * 4 + 1, none⟩ (.string y.s)).setCell ⟨A, j * 4 + 2, none⟩ (.int .i64 y.n)).setCell ⟨A, j * 4 + 3, none⟩ u) ok (xs ++ [y]) A 0 ∧
    (∃ cs' : Array Value, ((((w.setCell ⟨A, j * 4, none⟩ (.int .u8 y.k)).setCell ⟨A, j * 4 + 1, none⟩ (.string y.s)).setCell ⟨A, j * 4 + 2, none⟩ (.int .i64 y.n)).setCell ⟨A, j * 4 + 3, none⟩ u).heap[A]? = some (.cells cs' T (0, 0)) ∧ cs'.size = n * 4) ∧
    w.grownBy ((((w.setCell ⟨A, j * 4, none⟩ (.int .u8 y.k)).setCell ⟨A, j * 4 + 1, none⟩ (.string y.s)).setCell ⟨A, j * 4 + 2, none⟩ (.int .i64 y.n)).setCell ⟨A, j * 4 + 3, none⟩ u) (some A) := by
  have hg : w.grownBy ((((w.setCell ⟨A, j * 4, none⟩ (.int .u8 y.k)).setCell ⟨A, j * 4 + 1, none⟩ (.string y.s)).setCell ⟨A, j * 4 + 2, none⟩ (.int .i64 y.n)).setCell ⟨A, j * 4 + 3, none⟩ u) (some A) := (((grown_set w A _ _).trans (grown_set _ A _ _)).trans (grown_set _ A _ _)).trans (grown_set _ A _ _)
  have hcs : ((((w.setCell ⟨A, j * 4, none⟩ (.int .u8 y.k)).setCell ⟨A, j * 4 + 1, none⟩ (.string y.s)).setCell ⟨A, j * 4 + 2, none⟩ (.int .i64 y.n)).setCell ⟨A, j * 4 + 3, none⟩ u).heap[A]? = some (.cells ((((cs.setIfInBounds (j * 4) (.int .u8 y.k)).setIfInBounds (j * 4 + 1) (.string y.s)).setIfInBounds (j * 4 + 2) (.int .i64 y.n)).setIfInBounds (j * 4 + 3) u) T (0, 0)) := by
    simp [World.setCell, Array.getElem?_modify, h]
  refine ⟨fun i x hx => ?_, ⟨_, hcs, by simp [hsz]⟩, hg⟩
  have hmv : ∀ x c, TmK w ok x c → TmK ((((w.setCell ⟨A, j * 4, none⟩ (.int .u8 y.k)).setCell ⟨A, j * 4 + 1, none⟩ (.string y.s)).setCell ⟨A, j * 4 + 2, none⟩ (.int .i64 y.n)).setCell ⟨A, j * 4 + 3, none⟩ u) ok x c := fun x c hk =>
    TmK.mono (fun b hb => hb.1) _ _ (TmK.move (fun b hb => hg.block b hb.2 (fun he => hok b hb.1 (by injection he))) _ _ (TmK.bound _ _ hk))
  generalize ((((w.setCell ⟨A, j * 4, none⟩ (.int .u8 y.k)).setCell ⟨A, j * 4 + 1, none⟩ (.string y.s)).setCell ⟨A, j * 4 + 2, none⟩ (.int .i64 y.n)).setCell ⟨A, j * 4 + 3, none⟩ u) = W at hcs hmv
  rcases Nat.lt_or_ge i xs.length with hi | hi
  · rw [List.getElem?_append_left hi] at hx
    obtain ⟨c, hk, hc⟩ := hat i x hx
    refine ⟨c, hmv _ _ hk, fun q v hv => ?_⟩
    have hq : q < 4 := by have := Kd.tm.len hk; have := (List.getElem?_eq_some_iff.1 hv).1; simp [Kd.tm] at *; omega
    have h0 := hc q v hv
    unfold World.cell? at h0 ⊢
    simp only [hcs, h, Kd.tm] at h0 ⊢
    rw [← h0]
    have e0 : j * 4 ≠ i * 4 + q := by omega
    have e1 : j * 4 + 1 ≠ i * 4 + q := by omega
    have e2 : j * 4 + 2 ≠ i * 4 + q := by omega
    have e3 : j * 4 + 3 ≠ i * 4 + q := by omega
    simp [Array.getElem?_setIfInBounds, e0, e1, e2, e3]
  · rw [List.getElem?_append_right hi] at hx
    obtain rfl : i = xs.length := by
      have := (List.getElem?_eq_some_iff.1 hx).1
      simp at this; omega
    simp only [Nat.sub_self, List.getElem?_cons_zero, Option.some.injEq] at hx
    subst hx
    refine ⟨[.int .u8 y.k, .string y.s, .int .i64 y.n, u], hmv _ _ (TmK_iff.2 ⟨u, rfl, hS⟩), fun q v hv => ?_⟩
    subst hlen
    unfold World.cell?
    simp only [hcs, Kd.tm]
    match q, hv with
    | 0, hv => simp at hv; subst hv; simp [Array.getElem?_setIfInBounds]; omega
    | 1, hv => simp at hv; subst hv; simp [Array.getElem?_setIfInBounds]; omega
    | 2, hv => simp at hv; subst hv; simp [Array.getElem?_setIfInBounds]; omega
    | 3, hv => simp at hv; subst hv; simp [Array.getElem?_setIfInBounds]; omega
    | q + 4, hv => simp at hv
theorem gfresh {w W W' : World} {r : Option Nat} {k : Nat} (h : w.grownBy W r) (g : W.grownBy W' (some k)) (hk : w.heap.size ≤ k) : w.grownBy W' r :=
  ⟨g.os.trans h.os, g.tape.trans h.tape, g.output.trans h.output, Nat.le_trans h.size g.size, fun i hi hr => (g.block i (Nat.lt_of_lt_of_le hi h.size) (fun e => by injection e; omega)).trans (h.block i hi hr)⟩
theorem gnone {w W : World} {r : Option Nat} (h : Below w.heap.size w W) : w.grownBy W r := ⟨h.os, h.tape, h.output, h.size, fun k hk _ => h.block k hk⟩
theorem gbelow {w W W' : World} {r : Option Nat} (h : w.grownBy W r) (g : Below W.heap.size W W') : w.grownBy W' r := h.trans (gnone g)
/-- What 'apply' leaves with. -/
def ApPost (w : World) (ok : Nat → Prop) (Bn k : Nat) (P : List Tm) (r : Tm) (e : Ending) (w' : World) : Prop :=
  ((k + P.length ≤ 4096 ∧ ∃ u, e = .returned (.tuple #[u, .bool true]) ∧ TmV w' (fun b => ok b ∨ w.heap.size ≤ b) r u ∧ w'.heap[Bn]? = some (.cells #[.int .i64 ((k + P.length : Nat) : Int)] 3 (0, 0))) ∨
   (4096 < k + P.length ∧ e = .returned (.tuple #[.agg #[.int .u8 0, .string ⟨#[]⟩, .int .i64 0, .slice none 0 0], .bool false]))) ∧ w.grownBy w' (some Bn)
theorem app_succ (l : Bs) (f : Nat) (t : Tm) : app l (f + 1) t = ⟨(wlk l t).k, (wlk l t).s, (wlk l t).n, (wlk l t).l.map (app l f)⟩ := rfl
theorem one_cell {w : World} {B : Nat} {v : Value} {t : TypeId} (h : w.heap[B]? = some (.cells #[v] t (0, 0))) : w.cell? ⟨B, 0, none⟩ = some v ∧ w.frozen? ⟨B, 0, none⟩ = false := by
  simp [World.cell?, World.frozen?, h]
theorem row_cell {w : World} {A o : Nat} {cs : Array Value} {T : TypeId} (h : w.heap[A]? = some (.cells cs T (0, 0))) (ho : o < cs.size) : w.cell? ⟨A, o, none⟩ = some cs[o] ∧ w.frozen? ⟨A, o, none⟩ = false := by
  simp [World.cell?, World.frozen?, h, ho]
set_option maxRecDepth 100000 in
set_option maxHeartbeats 4000000 in
theorem apply_c (l : Bs) (p b Bn : Nat) (hp : p ≠ Bn) (hb : b ≠ Bn) (hsm : ∀ n t, ofB l n = some t → t.siz ≤ 1000000) : ∀ (f : Nat) (t : Tm), Fn l f t → ∀ (k : Nat) (v : Value) (w : World) (ok : Nat → Prop), Sub w ok l p b → TmV w ok t v → t.Wf → t.siz ≤ 1000000 → (∀ i, ok i → i ≠ Bn ∧ i < w.heap.size) → w.heap[Bn]? = some (.cells #[.int .i64 (k : Int)] 3 (0, 0)) → k ≤ 4096 →
    Calls Tryd.prog 131 #[.pointer (some ⟨p, 0, none⟩), v, .pointer (some ⟨Bn, 0, none⟩)] w (ApPost w ok Bn k (vis l f t) (app l f t)) := by
  intro f
  induction f with
  | zero => intro t hf; exact hf.elim
  | succ f ih =>
  intro t hf k v w ok hs hv hwf hsz hok hbn hk
  obtain ⟨u, rfl, hvS⟩ := hv
  obtain ⟨A0, c0, rfl⟩ := hvS.form
  have hbnl := (Array.getElem?_eq_some_iff.1 hbn).1
  have hb2 : ∀ O O' : Obj, Below w.heap.size w ((w.alloc O).alloc O') := fun O O' => ((Below.refl _ w).alloc (Nat.le_refl _) _).alloc (by simp) _
  have HWK := Lib.hid (fun O O' => Walk_c l p b t (.agg #[.int .u8 t.k, .string t.s, .int .i64 t.n, .slice A0 t.l.length c0]) ((w.alloc O).alloc O') _ (hs.below (hb2 O O')) (TmV.below (hb2 O O') ⟨_, rfl, hvS⟩) hwf)
  have hxw := wlk_wf hs.wf t hwf
  have hxs := wlk_siz hsm t hsz
  have hff : ∀ a ∈ (wlk l t).l, Fn l f a := hf
  simp only [vis_succ, app_succ]
  generalize wlk l t = x at HWK hxw hxs hff ⊢
  have hxl := len_siz hxs
  have HIH := Lib.hid ih
  have HFF := Lib.hid hff
  have HS := Lib.hid hs
  have HOK := Lib.hid hok
  have HBN := Lib.hid hbn
  have HXW := Lib.hid hxw
  clear hvS hf ih hff hs hwf hxw hok hbn
  by_cases hfull : (4096 : Int) < (k : Int) + 1
  · have hdec : decide ((4096 : Int) < (k : Int) + 1) = true := by simpa using hfull
    have HFU : Hid (4096 < k + (x :: x.l.flatMap (vis l f)).length) := Lib.hid (by simp only [List.length_cons]; omega)
    go_enter Tryd.func131, Tryd.ntmps131
    go_wp2_with (go_at_call 23; refine (HWK.out _ _).mono ?_; clear HWK; rintro e W2 ⟨⟨u2, rfl, hv2⟩, hb3⟩; obtain ⟨u3, rfl, hvS2⟩ := hv2; obtain ⟨A, c, rfl⟩ := hvS2.form; have hbx := block_below hb3 (by simp only [World.size_alloc]; omega) ((Below.heap_alloc _ (.cells #[.int .u8 0, .string ⟨#[]⟩, .int .i64 0, .slice none 0 0] 24) _ (by simp only [World.size_alloc]; omega)).trans (heap_new w (.cells #[.int .u8 t.k, .string t.s, .int .i64 t.n, .slice A0 t.l.length c0] 24))); have hrs := block_below hb3 (by simp only [World.size_alloc]; omega) (heap_at (w.alloc (.cells #[.int .u8 t.k, .string t.s, .int .i64 t.n, .slice A0 t.l.length c0] 24)) (.cells #[.int .u8 0, .string ⟨#[]⟩, .int .i64 0, .slice none 0 0] 24) (w.heap.size + 1) (by simp only [World.size_alloc])); have hbn2 := block_below (below_then (hb2 _ _) (by simp only [World.size_alloc]; omega) hb3) hbnl HBN.out; obtain ⟨c0, c1, c2, c3, f0, f1, f2, f3⟩ := box4 hbx; obtain ⟨r0, r1, r2, r3, g0, g1, g2, g3⟩ := box4 hrs; obtain ⟨n0, m0⟩ := one_cell hbn2)
    refine bodyPost_ret (v := .tuple #[.agg #[.int .u8 0, .string ⟨#[]⟩, .int .i64 0, .slice none 0 0], .bool false]) (by simp [results, Tryd.results131, go_sem, r0, r1, r2, r3]) rfl ⟨.inr ⟨HFU.out, rfl⟩, ?_⟩
    exact gfresh ((gfresh (gbelow (gnone (hb2 _ _)) hb3) (grown_set4 _ w.heap.size _ _ _ _) (Nat.le_refl _)).trans (grown_set _ Bn 0 _)) (grown_set4 _ (w.heap.size + 1) _ _ _ _) (by omega)
  · have hdec : decide ((4096 : Int) < (k : Int) + 1) = false := by simpa using hfull
    have hk1 : k + 1 ≤ 4096 := by omega
    clear hfull
    by_cases hl0 : x.l = []
    · have hll : (x.l.length : Int) = 0 := by rw [hl0]; rfl
      have hle : ((x.l.length : Int) == 0) = true := by rw [hll]; rfl
      have HL0 := Lib.hid hl0
      clear hl0 hll
      go_enter Tryd.func131, Tryd.ntmps131
      go_wp2_with (go_at_call 23; refine (HWK.out _ _).mono ?_; clear HWK; rintro e W2 ⟨⟨u2, rfl, hv2⟩, hb3⟩; obtain ⟨u3, rfl, hvS2⟩ := hv2; obtain ⟨A, c, rfl⟩ := hvS2.form; have hbx := block_below hb3 (by simp only [World.size_alloc]; omega) ((Below.heap_alloc _ (.cells #[.int .u8 0, .string ⟨#[]⟩, .int .i64 0, .slice none 0 0] 24) _ (by simp only [World.size_alloc]; omega)).trans (heap_new w (.cells #[.int .u8 t.k, .string t.s, .int .i64 t.n, .slice A0 t.l.length c0] 24))); have hrs := block_below hb3 (by simp only [World.size_alloc]; omega) (heap_at (w.alloc (.cells #[.int .u8 t.k, .string t.s, .int .i64 t.n, .slice A0 t.l.length c0] 24)) (.cells #[.int .u8 0, .string ⟨#[]⟩, .int .i64 0, .slice none 0 0] 24) (w.heap.size + 1) (by simp only [World.size_alloc])); have hbn2 := block_below (below_then (hb2 _ _) (by simp only [World.size_alloc]; omega) hb3) hbnl HBN.out; obtain ⟨c0, c1, c2, c3, f0, f1, f2, f3⟩ := box4 hbx; obtain ⟨r0, r1, r2, r3, g0, g1, g2, g3⟩ := box4 hrs; obtain ⟨n0, m0⟩ := one_cell hbn2)
      refine bodyPost_ret (v := .tuple #[.agg #[.int .u8 x.k, .string x.s, .int .i64 x.n, .slice A x.l.length c], .bool true]) (by simp [results, Tryd.results131, go_sem, r0, r1, r2, r3]) rfl ⟨.inl ⟨?_, _, rfl, ?_, ?_⟩, ?_⟩
      · rw [HL0.out]; simp; omega
      · refine ⟨_, rfl, ?_⟩
        have e0 : (x.l.map (app l f)) = x.l := by rw [HL0.out]; rfl
        simp only [e0]
        refine Kd.S.mono (fun _ h => .inl h) (Kd.S.move (fun i hi => ?_) hvS2)
        have h1 := (HOK.out i hi).1
        have h2 := (HOK.out i hi).2
        have h3 := hb3.size
        simp only [World.size_alloc] at h3
        exact ((grown_set4 _ (w.heap.size + 1) _ _ _ _).block i (by simp [World.setCell]; omega) (fun e => by injection e; omega)).trans (((grown_set _ Bn 0 _).block i (by simp [World.setCell]; omega) (fun e => by injection e; omega)).trans ((grown_set4 _ w.heap.size _ _ _ _).block i (by omega) (fun e => by injection e; omega)))
      · have h3 := hb3.size
        simp only [World.size_alloc] at h3
        refine ((grown_set4 _ (w.heap.size + 1) _ _ _ _).block Bn (by simp [World.setCell]; omega) (fun e => by injection e; omega)).trans ?_
        have h4 := ((grown_set4 W2 w.heap.size (.int .u8 x.k) (.string x.s) (.int .i64 x.n) (.slice A x.l.length c)).block Bn (by omega) (fun e => by injection e; omega)).trans hbn2
        generalize ((((W2.setCell ⟨w.heap.size, 0, none⟩ (.int .u8 x.k)).setCell ⟨w.heap.size, 1, none⟩ (.string x.s)).setCell ⟨w.heap.size, 2, none⟩ (.int .i64 x.n)).setCell ⟨w.heap.size, 3, none⟩ (.slice A x.l.length c)) = W3 at h4 ⊢
        have e0 : (((k + (x :: x.l.flatMap (vis l f)).length : Nat)) : Int) = (k : Int) + 1 := by rw [HL0.out]; simp
        rw [e0]
        simp [World.setCell, Array.getElem?_modify, h4]
      · exact gfresh ((gfresh (gbelow (gnone (hb2 _ _)) hb3) (grown_set4 _ w.heap.size _ _ _ _) (Nat.le_refl _)).trans (grown_set _ Bn 0 _)) (grown_set4 _ (w.heap.size + 1) _ _ _ _) (by omega)
    · have hlp : 0 < x.l.length := List.length_pos_iff.2 hl0
      have hle : ((x.l.length : Int) == 0) = false := by simp; omega
      obtain ⟨i0, hi, hz0, hz1, hz2⟩ := info_parts Tryd.infoT
      clear hl0
      go_enter Tryd.func131, Tryd.ntmps131
      go_wp2_with (first
        | (at_make; refine wpList_make_full _ rfl _ _ 22 rfl w.heap.size 24 i0 _ 4 Tryd.underlying22 hi hz0 hz1 .i64 .i64 (x.l.length : Int) (x.l.length : Int) x.l.length rfl rfl rfl rfl (by rw [hz2]; omega) (by unfold maxLen; omega) (by have := hb3.size; simp only [World.size_alloc] at this; simp [World.setCell]; omega) ?_; intro W5 hR5 hg5; refine Hid.out ?_)
        | (go_at_call 23; refine (HWK.out _ _).mono ?_; clear HWK; rintro e W2 ⟨⟨u2, rfl, hv2⟩, hb3⟩; obtain ⟨u3, rfl, hvS2⟩ := hv2; obtain ⟨A, c, rfl⟩ := hvS2.form; have hbx := block_below hb3 (by simp only [World.size_alloc]; omega) ((Below.heap_alloc _ (.cells #[.int .u8 0, .string ⟨#[]⟩, .int .i64 0, .slice none 0 0] 24) _ (by simp only [World.size_alloc]; omega)).trans (heap_new w (.cells #[.int .u8 t.k, .string t.s, .int .i64 t.n, .slice A0 t.l.length c0] 24))); have hrs := block_below hb3 (by simp only [World.size_alloc]; omega) (heap_at (w.alloc (.cells #[.int .u8 t.k, .string t.s, .int .i64 t.n, .slice A0 t.l.length c0] 24)) (.cells #[.int .u8 0, .string ⟨#[]⟩, .int .i64 0, .slice none 0 0] 24) (w.heap.size + 1) (by simp only [World.size_alloc])); have hbn2 := block_below (below_then (hb2 _ _) (by simp only [World.size_alloc]; omega) hb3) hbnl HBN.out; obtain ⟨c0, c1, c2, c3, f0, f1, f2, f3⟩ := box4 hbx; obtain ⟨r0, r1, r2, r3, g0, g1, g2, g3⟩ := box4 hrs; obtain ⟨n0, m0⟩ := one_cell hbn2))
      have hs3 := hb3.size
      simp only [World.size_alloc] at hs3
      have hg4 : w.grownBy (((((W2.setCell ⟨w.heap.size, 0, none⟩ (.int .u8 x.k)).setCell ⟨w.heap.size, 1, none⟩ (.string x.s)).setCell ⟨w.heap.size, 2, none⟩ (.int .i64 x.n)).setCell ⟨w.heap.size, 3, none⟩ (.slice A x.l.length c)).setCell ⟨Bn, 0, none⟩ (.int .i64 ((k : Int) + 1))) (some Bn) := (gfresh (gbelow (gnone (hb2 _ _)) hb3) (grown_set4 _ w.heap.size _ _ _ _) (Nat.le_refl _)).trans (grown_set _ Bn 0 _)
      have hz4 : (((((W2.setCell ⟨w.heap.size, 0, none⟩ (.int .u8 x.k)).setCell ⟨w.heap.size, 1, none⟩ (.string x.s)).setCell ⟨w.heap.size, 2, none⟩ (.int .i64 x.n)).setCell ⟨w.heap.size, 3, none⟩ (.slice A x.l.length c)).setCell ⟨Bn, 0, none⟩ (.int .i64 ((k : Int) + 1))).heap.size = W2.heap.size := by simp [World.setCell]
      have hbx4 : (((((W2.setCell ⟨w.heap.size, 0, none⟩ (.int .u8 x.k)).setCell ⟨w.heap.size, 1, none⟩ (.string x.s)).setCell ⟨w.heap.size, 2, none⟩ (.int .i64 x.n)).setCell ⟨w.heap.size, 3, none⟩ (.slice A x.l.length c)).setCell ⟨Bn, 0, none⟩ (.int .i64 ((k : Int) + 1))).heap[w.heap.size]? = some (.cells #[.int .u8 x.k, .string x.s, .int .i64 x.n, .slice A x.l.length c] 24 (0, 0)) :=
        ((grown_set _ Bn 0 _).block _ (by simp [World.setCell]; omega) (fun e => by injection e; omega)).trans (set4_block hbx)
      have hrs4 : (((((W2.setCell ⟨w.heap.size, 0, none⟩ (.int .u8 x.k)).setCell ⟨w.heap.size, 1, none⟩ (.string x.s)).setCell ⟨w.heap.size, 2, none⟩ (.int .i64 x.n)).setCell ⟨w.heap.size, 3, none⟩ (.slice A x.l.length c)).setCell ⟨Bn, 0, none⟩ (.int .i64 ((k : Int) + 1))).heap[w.heap.size + 1]? = some (.cells #[.int .u8 0, .string ⟨#[]⟩, .int .i64 0, .slice none 0 0] 24 (0, 0)) :=
        ((grown_set _ Bn 0 _).block _ (by simp [World.setCell]; omega) (fun e => by injection e; omega)).trans (((grown_set4 W2 w.heap.size (.int .u8 x.k) (.string x.s) (.int .i64 x.n) (.slice A x.l.length c)).block _ (by omega) (fun e => by injection e; omega)).trans hrs)
      have hbn4 : (((((W2.setCell ⟨w.heap.size, 0, none⟩ (.int .u8 x.k)).setCell ⟨w.heap.size, 1, none⟩ (.string x.s)).setCell ⟨w.heap.size, 2, none⟩ (.int .i64 x.n)).setCell ⟨w.heap.size, 3, none⟩ (.slice A x.l.length c)).setCell ⟨Bn, 0, none⟩ (.int .i64 ((k : Int) + 1))).heap[Bn]? = some (.cells #[.int .i64 ((k + 1 : Nat) : Int)] 3 (0, 0)) := by
        have h4 := ((grown_set4 W2 w.heap.size (.int .u8 x.k) (.string x.s) (.int .i64 x.n) (.slice A x.l.length c)).block Bn (by omega) (fun e => by injection e; omega)).trans hbn2
        generalize ((((W2.setCell ⟨w.heap.size, 0, none⟩ (.int .u8 x.k)).setCell ⟨w.heap.size, 1, none⟩ (.string x.s)).setCell ⟨w.heap.size, 2, none⟩ (.int .i64 x.n)).setCell ⟨w.heap.size, 3, none⟩ (.slice A x.l.length c)) = W3 at h4 ⊢
        simp [World.setCell, Array.getElem?_modify, h4]
      have hvS4 : Kd.tm.S (((((W2.setCell ⟨w.heap.size, 0, none⟩ (.int .u8 x.k)).setCell ⟨w.heap.size, 1, none⟩ (.string x.s)).setCell ⟨w.heap.size, 2, none⟩ (.int .i64 x.n)).setCell ⟨w.heap.size, 3, none⟩ (.slice A x.l.length c)).setCell ⟨Bn, 0, none⟩ (.int .i64 ((k : Int) + 1))) ok x.l (.slice A x.l.length c) := Kd.S.move (fun i hi => by
        have h1 := (HOK.out i hi).1
        have h2 := (HOK.out i hi).2
        exact ((grown_set _ Bn 0 _).block i (by simp [World.setCell]; omega) (fun e => by injection e; omega)).trans ((grown_set4 _ w.heap.size _ _ _ _).block i (by omega) (fun e => by injection e; omega))) hvS2
      rw [hz4] at hR5
      generalize (((((W2.setCell ⟨w.heap.size, 0, none⟩ (.int .u8 x.k)).setCell ⟨w.heap.size, 1, none⟩ (.string x.s)).setCell ⟨w.heap.size, 2, none⟩ (.int .i64 x.n)).setCell ⟨w.heap.size, 3, none⟩ (.slice A x.l.length c)).setCell ⟨Bn, 0, none⟩ (.int .i64 ((k : Int) + 1))) = W4 at hg4 hz4 hbx4 hrs4 hbn4 hvS4 hg5 ⊢
      have hbx5 := (hg5.block _ (by omega) (by simp)).trans hbx4
      have hrs5 := (hg5.block _ (by omega) (by simp)).trans hrs4
      have hbn5 := (hg5.block _ (by omega) (by simp)).trans hbn4
      have hg5' : w.grownBy W5 (some Bn) := gbelow hg4 ⟨hg5.os, hg5.tape, hg5.output, hg5.size, fun i hi => hg5.block i hi (by simp)⟩
      have hvS5 : Kd.tm.S W5 ok x.l (.slice A x.l.length c) := Kd.S.grown hg5 (fun _ _ => by simp) hvS4
      obtain ⟨_, h5 | ⟨gA, cap, cur, hgA, hge, hhA, hc1, hc2, hc3, ht⟩⟩ := hR5
      · cases h5.1
      injection hgA with hgA1 hgA2 hgA3
      injection hgA1 with hgA1
      injection hgA1 with hgA1
      subst hgA1 hgA3
      clear hgA2 ht hbx hrs hbn2 hbx4 hrs4 hbn4 hvS4 hvS2 hg4 c0 c1 c2 c3 f0 f1 f2 f3 r0 r1 r2 r3 g0 g1 g2 g3 n0 m0 hb3 hg5
      obtain ⟨c0, c1, c2, c3, f0, f1, f2, f3⟩ := box4 hbx5
      have HB2 := Lib.hid hs3
      generalize W2.heap.size = bA at hhA hz4 hge hs3 HB2 ⊢
      refine Lib.hid ?_
      go_wp2_with fail
      have HVS := Lib.hid hvS5
      have HG5 := Lib.hid hg5'
      have hlt5 := (Array.getElem?_eq_some_iff.1 hhA).1
      go_loopw [38] (fun i wr => ∃ j : Nat, j ≤ x.l.length ∧ i = .int .i64 j ∧ Hid (k + 1 + ((x.l.take j).flatMap (vis l f)).length ≤ 4096) ∧ wr.heap[Bn]? = some (.cells #[.int .i64 ((k + 1 + ((x.l.take j).flatMap (vis l f)).length : Nat) : Int)] 3 (0, 0)) ∧ (∃ cs : Array Value, wr.heap[bA]? = some (.cells cs 24 (0, 0)) ∧ cs.size = x.l.length * 4) ∧ Kd.tm.At wr (fun b => ok b ∨ (w.heap.size + 2 ≤ b ∧ b ≠ bA)) ((x.l.take j).map (app l f)) bA 0 ∧ w.grownBy wr (some Bn) ∧
        wr.heap[w.heap.size]? = some (.cells #[.int .u8 x.k, .string x.s, .int .i64 x.n, .slice A x.l.length c] 24 (0, 0)) ∧ wr.heap[w.heap.size + 1]? = some (.cells #[.int .u8 0, .string ⟨#[]⟩, .int .i64 0, .slice none 0 0] 24 (0, 0))) (fun i _ => x.l.length - (intOf i).toNat)
      case atStart => exact ⟨0, Nat.zero_le _, rfl, Lib.hid (by simpa using hk1), by simpa using hbn5, ⟨cur, hhA, hc3⟩, fun i x hx => by simp at hx, hg5', hbx5, hrs5⟩
      case round =>
        obtain ⟨j, hj, rfl, hcnt, hbnr, ⟨cs, hcr, hcs⟩, hat, hgr, hbr, hrr⟩ := hrel
        clear hbx5 hrs5 hbn5 hg5' hvS5 hhA hc3 c0 c1 c2 c3 f0 f1 f2 f3 hz4 hlt5
        have hns : w.heap.size + 2 ≤ wr.heap.size := (Array.getElem?_eq_some_iff.1 hrr).1
        have hbAl : bA < wr.heap.size := (Array.getElem?_eq_some_iff.1 hcr).1
        have hbnr' : Bn < wr.heap.size := (Array.getElem?_eq_some_iff.1 hbnr).1
        by_cases hlt : j < x.l.length
        · have hvr : Kd.tm.S wr ok x.l (.slice A x.l.length c) := Kd.S.move (fun i hi => by
            have h1 := (HOK.out i hi).1
            have h2 := (HOK.out i hi).2
            exact (hgr.block i h2 (fun e => by injection e; omega)).trans (HG5.out.block i h2 (fun e => by injection e; omega)).symm) HVS.out
          obtain ⟨A', c', eA, hl, hc, hA⟩ := hvr
          injection eA with eA1 eA2 eA3
          subst eA1 eA3
          clear eA2
          obtain ⟨bb, o, u, rfl, hokb, hlo, h0, h1, h2, h3, h4⟩ := tm_elem hA hlt
          have h4' : TmV wr ok x.l[j] (.agg #[.int .u8 x.l[j].k, .string x.l[j].s, .int .i64 x.l[j].n, u]) := ⟨u, rfl, h4⟩
          obtain ⟨Au, cu, rfl⟩ := h4.form
          have hm := List.getElem_mem hlt
          have hnx : (x.l.take (j + 1)).flatMap (vis l f) = (x.l.take j).flatMap (vis l f) ++ vis l f x.l[j] := by rw [take_succ_at x.l hlt, List.flatMap_append]; simp
          have hmx : (x.l.take (j + 1)).map (app l f) = (x.l.take j).map (app l f) ++ [app l f x.l[j]] := by rw [take_succ_at x.l hlt, List.map_append]; rfl
          have htl : x.l.flatMap (vis l f) = (x.l.take (j + 1)).flatMap (vis l f) ++ (x.l.drop (j + 1)).flatMap (vis l f) := by rw [← List.flatMap_append, List.take_append_drop]
          have hBa := (Below.refl _ wr).alloc (Nat.le_refl _) (.cells #[.int .u8 x.l[j].k, .string x.l[j].s, .int .i64 x.l[j].n, .slice Au x.l[j].l.length cu] 24)
          have hgra := gbelow hgr hBa
          have HI := Lib.hid (HIH.out x.l[j] (HFF.out _ hm) (k + 1 + ((x.l.take j).flatMap (vis l f)).length) _ (wr.alloc (.cells #[.int .u8 x.l[j].k, .string x.l[j].s, .int .i64 x.l[j].n, .slice Au x.l[j].l.length cu] 24)) ok
            (HS.out.grown hgra (fun i hi e => (HOK.out i hi).1 (by injection e)) (fun e => hp (by injection e)) (fun e => hb (by injection e)))
            (TmV.below hBa h4') (WfL_at HXW.out.parts.2.2.2 hlt) (siz_at hxs hm) (fun i hi => ⟨(HOK.out i hi).1, by have := (HOK.out i hi).2; simp only [World.size_alloc]; omega⟩) (block_below hBa hbnr' hbnr) hcnt.out)
          have HNX := Lib.hid hnx
          have HMX := Lib.hid hmx
          have HTL := Lib.hid htl
          have HAT := Lib.hid hat
          have HBR := Lib.hid hbr
          have HRR := Lib.hid hrr
          have HCR := Lib.hid hcr
          have HGR := Lib.hid hgr
          generalize x.l[j] = y at h0 h1 h2 h3 HI HNX HMX hgra hBa
          clear hA h4 h4' hnx hmx htl hat hbr hrr hcr hgr hm hbnr hgra
          have HBa := Lib.hid hBa
          clear hBa
          go_wp2_with (go_at_call 131; refine HI.out.mono ?_; clear HI; rintro e W6 ⟨⟨hle, ru, rfl, ⟨ruu, rfl, hrS⟩, hbn6⟩ | ⟨hfu, rfl⟩, hg6⟩; all_goals ((try (obtain ⟨rA, rc, rfl⟩ := hrS.form)); have hz6 := hg6.size; simp only [World.size_alloc] at hz6; have hlA : bA < W6.heap.size := (by omega); have hlR : w.heap.size + 1 < W6.heap.size := (by omega); have hcr6 := (hg6.block bA (by simp only [World.size_alloc]; omega) (fun e => by injection e; omega)).trans (block_below HBa.out hbAl HCR.out); have hrr6 := (hg6.block (w.heap.size + 1) (by simp only [World.size_alloc]; omega) (fun e => by injection e; omega)).trans (block_below HBa.out (by omega) HRR.out); obtain ⟨r0, r1, r2, r3, g0, g1, g2, g3⟩ := box4 hrr6; obtain ⟨a0, b0⟩ := row_cell (o := j * 4) hcr6 (by omega); obtain ⟨a1, b1⟩ := row_cell (o := j * 4 + 1) hcr6 (by omega); obtain ⟨a2, b2⟩ := row_cell (o := j * 4 + 2) hcr6 (by omega); obtain ⟨a3, b3⟩ := row_cell (o := j * 4 + 3) hcr6 (by omega)))
          · go_roundw
            case rel =>
              have hmvb : ∀ b, b < wr.heap.size → b ≠ Bn → W6.heap[b]? = wr.heap[b]? := fun b h1 h2 => (hg6.block b (by simp only [World.size_alloc]; omega) (fun e => h2 (by injection e))).trans (HBa.out.block b h1)
              have hat6 : Kd.tm.At W6 (fun b => ok b ∨ (w.heap.size + 2 ≤ b ∧ b ≠ bA)) ((x.l.take j).map (app l f)) bA 0 :=
                Kd.At.mono (fun b hb => hb.1) (Kd.At.move (fun b hb => hmvb b hb.2 (fun e => by rcases hb.1 with h | h; exact (HOK.out b h).1 e; omega)) (hmvb bA hbAl (by omega)) (Kd.At.bound HAT.out))
              obtain ⟨p1, ⟨cs', p2, p3⟩, p4⟩ := At.put4 (w := W6) (ok := fun b => ok b ∨ (w.heap.size + 2 ≤ b ∧ b ≠ bA)) (A := bA) (j := j) (n := x.l.length) (xs := (x.l.take j).map (app l f)) (y := app l f y) (u := .slice rA (app l f y).l.length rc) hcr6 hcs hlt hat6 (by rw [List.length_map, List.length_take]; omega)
                (fun b hb e => by subst e; rcases hb with h | h; have := (HOK.out _ h).2; omega; omega) (hrS.mono (fun b hb => by rcases hb with h | h; exact .inl h; simp only [World.size_alloc] at h; exact .inr (by omega)))
              have hgw := (gbelow HGR.out HBa.out).trans hg6
              have hgw7 := gfresh hgw p4 (by omega)
              generalize ((((W6.setCell ⟨bA, j * 4, none⟩ (.int .u8 (app l f y).k)).setCell ⟨bA, j * 4 + 1, none⟩ (.string (app l f y).s)).setCell ⟨bA, j * 4 + 2, none⟩ (.int .i64 (app l f y).n)).setCell ⟨bA, j * 4 + 3, none⟩ (.slice rA (app l f y).l.length rc)) = W7 at p1 p2 p4 hgw7 ⊢
              have hB8 := fun O => (Below.refl _ W7).alloc (Nat.le_refl _) O
              have hz7 := p4.size
              have hm7 : ∀ (O : Obj) b, b < wr.heap.size → b ≠ Bn → b ≠ bA → (W7.alloc O).heap[b]? = wr.heap[b]? := fun O b h1 h2 h3 => ((hB8 O).block b (by omega)).trans ((p4.block b (by omega) (fun e => h3 (by injection e))).trans (hmvb b h1 h2))
              refine ⟨j + 1, by omega, by go_num, Lib.hid ?_, ?_, ⟨cs', block_below (hB8 _) (by omega) p2, p3⟩, ?_, gbelow hgw7 (hB8 _), (hm7 _ _ (by omega) (by omega) (by omega)).trans HBR.out, (hm7 _ _ (by omega) (by omega) (by omega)).trans HRR.out⟩
              · rw [HNX.out]; simp only [List.length_append]; omega
              · rw [HNX.out, List.length_append, ← Nat.add_assoc]
                exact block_below (hB8 _) (by omega) ((p4.block Bn (by omega) (fun e => by injection e; omega)).trans hbn6)
              · rw [HMX.out]
                exact Kd.At.mono (fun b hb => hb.1) (Kd.At.move (fun b hb => (hB8 _).block b hb.2) ((hB8 _).block bA (by omega)) (Kd.At.bound p1))
            case measure => simp [intOf]; omega
          · refine bodyPost_ret (v := .tuple #[.agg #[.int .u8 0, .string ⟨#[]⟩, .int .i64 0, .slice none 0 0], .bool false]) (by simp [results, Tryd.results131, go_sem, r0, r1, r2, r3, hlR]) rfl ⟨.inr ⟨?_, rfl⟩, ?_⟩
            · rw [HTL.out, HNX.out]; simp only [List.length_append, List.length_cons]; omega
            · have hgw := (gbelow HGR.out HBa.out).trans hg6
              exact gbelow (gfresh hgw (grown_set4 _ (w.heap.size + 1) _ _ _ _) (by omega)) ((Below.refl _ _).alloc (Nat.le_refl _) _)
        · obtain rfl : j = x.l.length := by omega
          rw [List.take_of_length_le (Nat.le_refl _)] at hcnt hbnr hat
          obtain ⟨c0, c1, c2, c3, f0, f1, f2, f3⟩ := box4 hbr
          obtain ⟨r0, r1, r2, r3, g0, g1, g2, g3⟩ := box4 hrr
          have HAT := Lib.hid hat
          have HGR := Lib.hid hgr
          have HBN := Lib.hid hbnr
          have HCR := Lib.hid hcr
          clear hat hgr hbr hrr hbnr hcr
          go_wp2_with fail
          refine bodyPost_ret (v := .tuple #[.agg #[.int .u8 x.k, .string x.s, .int .i64 x.n, .slice (some ⟨bA, 0, none⟩) x.l.length x.l.length], .bool true]) (by simp [results, Tryd.results131, go_sem, r0, r1, r2, r3]) rfl ⟨.inl ⟨?_, _, rfl, ?_, ?_⟩, ?_⟩
          · have := hcnt.out
            simp only [List.length_cons]; omega
          · refine ⟨.slice (some ⟨bA, 0, none⟩) (x.l.map (app l f)).length x.l.length, by simp only [List.length_map], _, _, rfl, by simp, by unfold maxLen; omega, .inr ⟨bA, 0, rfl, .inr hge, ?_⟩⟩
            exact Kd.At.mono (fun i hi => by rcases hi.1 with h | h; exact .inl h; exact .inr (by omega)) (Kd.At.move (fun i hi => by
              have hne : i ≠ w.heap.size ∧ i ≠ w.heap.size + 1 := by
                rcases hi.1 with h | h
                · have := (HOK.out i h).2; omega
                · omega
              exact ((grown_set4 _ (w.heap.size + 1) _ _ _ _).block i (by simp [World.setCell]; omega) (fun e => hne.2 (by injection e))).trans ((grown_set wr w.heap.size 3 _).block i hi.2 (fun e => hne.1 (by injection e)))) (((grown_set4 _ (w.heap.size + 1) _ _ _ _).block bA (by simp [World.setCell]; omega) (fun e => by injection e; omega)).trans ((grown_set wr w.heap.size 3 _).block bA hbAl (fun e => by injection e; omega))) (Kd.At.bound HAT.out))
          · refine ((grown_set4 _ (w.heap.size + 1) _ _ _ _).block Bn (by simp [World.setCell]; omega) (fun e => by injection e; omega)).trans (((grown_set wr w.heap.size 3 _).block Bn hbnr' (fun e => by injection e; omega)).trans (HBN.out.trans ?_))
            simp only [List.length_cons]
            congr 5
            omega
          · exact gfresh (gfresh HGR.out (grown_set _ w.heap.size 3 _) (Nat.le_refl _)) (grown_set4 _ (w.heap.size + 1) _ _ _ _) (by omega)
end Go.Proofs.YtgcbanljifalnaaDoor
/- Substitutions applied: 'Apply'; no substitution. The reference's bindings: 'Of', 'Walk'. Conditions: the arguments read; terms of at most a million nodes, where a statement says so. -/
namespace Go.Proofs.YtgcbanljifalnaaDoor
open Go.RowKit

theorem below_of_grown {w W : World} (h : w.grownBy W none) : Below w.heap.size w W := ⟨h.os, h.tape, h.output, h.size, fun i hi => h.block i hi (by simp)⟩
/-- What 'Apply' tells. -/
def appE (P : List Tm) (r : Tm) : Tm × Int := if P.length ≤ 4096 then (r, 0) else (tm0, 31)
set_option maxHeartbeats 1000000 in
theorem Apply_c (l : Bs) (p b : Nat) (f : Nat) (t : Tm) (v : Value) (w : World) (ok : Nat → Prop) (hs : Sub w ok l p b) (hv : TmV w ok t v) (hwf : t.Wf) (hf : Fn l f t) (hsm : ∀ n t, ofB l n = some t → t.siz ≤ 1000000) (hsz : t.siz ≤ 1000000) :
    Calls Tryd.prog 115 #[.pointer (some ⟨p, 0, none⟩), v] w fun e w' => (∃ u, e = .returned (.tuple #[u, .int .i64 (appE (vis l f t) (app l f t)).2]) ∧ TmV w' (fun b => ok b ∨ w.heap.size ≤ b) (appE (vis l f t) (app l f t)).1 u) ∧ Below w.heap.size w w' := by
  replace hs := hs.bound
  replace hv := hv.bound
  have hplt := hs.lt
  obtain ⟨u, rfl, hvS⟩ := hv
  obtain ⟨A0, c0, rfl⟩ := hvS.form
  obtain ⟨W3, hW3⟩ : ∃ W3, W3 = ((w.alloc (.cells #[.int .u8 t.k, .string t.s, .int .i64 t.n, .slice A0 t.l.length c0] 24)).alloc (.cells #[.int .u8 0, .string ⟨#[]⟩, .int .i64 0, .slice none 0 0] 24)).alloc (.cells #[.int .i64 0] 3) := ⟨_, rfl⟩
  have hz3 : W3.heap.size = w.heap.size + 3 := by rw [hW3]; simp
  have hb3 : Below w.heap.size w W3 := by rw [hW3]; exact (((Below.refl _ w).alloc (Nat.le_refl _) _).alloc (by simp) _).alloc (by simp; omega) _
  have hbn : W3.heap[w.heap.size + 2]? = some (.cells #[.int .i64 ((0 : Nat) : Int)] 3 (0, 0)) := by rw [hW3]; exact heap_at _ _ _ (by simp)
  have hrs : W3.heap[w.heap.size + 1]? = some (.cells #[.int .u8 0, .string ⟨#[]⟩, .int .i64 0, .slice none 0 0] 24 (0, 0)) := by rw [hW3]; exact (Below.heap_alloc _ _ _ (by simp)).trans (heap_at _ _ _ (by simp))
  have HAP := Lib.hid (apply_c l p b (w.heap.size + 2) (by omega) (by omega) hsm f t hf 0 _ W3 _ (hs.below hb3) (TmV.below hb3 ⟨_, rfl, hvS⟩) hwf hsz (fun i hi => ⟨by omega, by omega⟩) hbn (by omega))
  have HRS := Lib.hid hrs
  have HPL := Lib.hid hplt
  have HB3 := Lib.hid hb3
  have HZ3 := Lib.hid hz3
  clear hs hvS hf hwf hsm hsz hbn hrs hplt hb3 hz3
  go_enter Tryd.func115, Tryd.ntmps115
  go_wp2_with (go_at_call 131; rw [← hW3]; refine HAP.out.mono ?_; clear HAP; rintro e W6 ⟨⟨hle, ru, rfl, ⟨ruu, rfl, hrS⟩, hbn6⟩ | ⟨hfu, rfl⟩, hg6⟩; all_goals ((try (obtain ⟨rA, rc, rfl⟩ := hrS.form)); have hz3 := HZ3.out; have hz6 := hg6.size; have hlR : w.heap.size + 1 < W6.heap.size := (by omega); have hrr6 := (hg6.block (w.heap.size + 1) (by omega) (fun e => by injection e; omega)).trans HRS.out; obtain ⟨r0, r1, r2, r3, g0, g1, g2, g3⟩ := box4 hrr6))
  · refine bodyPost_ret (v := .tuple #[.agg #[.int .u8 (app l f t).k, .string (app l f t).s, .int .i64 (app l f t).n, .slice rA (app l f t).l.length rc], .int .i64 0]) (by simp [results, Tryd.results115, go_sem, r0, r1, r2, r3, hlR]) rfl ?_
    have hE : appE (vis l f t) (app l f t) = (app l f t, 0) := by unfold appE; rw [if_pos (by omega)]
    rw [hE]
    have hgr := gfresh (gbelow (gfresh (gbelow (gnone HB3.out) (Below.refl _ W3)) hg6 (by omega)) (Below.refl _ W6)) (grown_set4 W6 (w.heap.size + 1) (.int .u8 (app l f t).k) (.string (app l f t).s) (.int .i64 (app l f t).n) (.slice rA (app l f t).l.length rc)) (r := none) (by omega)
    refine ⟨⟨_, rfl, _, rfl, ?_⟩, below_of_grown (gbelow hgr ((Below.refl _ _).alloc (Nat.le_refl _) _))⟩
    refine Kd.S.below ((Below.refl _ _).alloc (Nat.le_refl _) _) (Kd.S.mono (fun i hi => hi.1) (Kd.S.move (fun i hi => (grown_set4 W6 (w.heap.size + 1) _ _ _ _).block i hi.2 (fun e => ?_)) (Kd.S.bound (hrS.mono (ok' := fun b => (ok b ∨ w.heap.size ≤ b) ∧ b ≠ w.heap.size + 1) (fun i hi => ?_)))) |>.mono (fun i hi => hi.1))
    · injection e with e; exact hi.1.2 e
    · rcases hi with h | h
      · exact ⟨.inl h.1, by omega⟩
      · exact ⟨.inr (by omega), by omega⟩
  · refine bodyPost_ret (v := .tuple #[.agg #[.int .u8 0, .string ⟨#[]⟩, .int .i64 0, .slice none 0 0], .int .i64 31]) (by simp [results, Tryd.results115, go_sem, r0, r1, r2, r3, hlR]) rfl ?_
    have hE : appE (vis l f t) (app l f t) = (tm0, 31) := by unfold appE; rw [if_neg (by omega)]
    rw [hE]
    have hgr := gfresh (gbelow (gfresh (gbelow (gnone HB3.out) (Below.refl _ W3)) hg6 (by omega)) (Below.refl _ W6)) (grown_set4 W6 (w.heap.size + 1) (.int .u8 0) (.string ⟨#[]⟩) (.int .i64 0) (.slice none 0 0)) (r := none) (by omega)
    exact ⟨⟨_, rfl, _, rfl, Kd.S.nil _ _ _⟩, below_of_grown (gbelow hgr ((Below.refl _ _).alloc (Nat.le_refl _) _))⟩

/-! ### No substitution -/
open Go.RowKit

/-- A binding: a number, and a term. -/
def Kd.bd : Kd (Int × Tm) := Kd.pair (Kd.int .i64) Kd.tm
end Go.Proofs.YtgcbanljifalnaaDoor
/- The reference's 'Nodes', 'Occurs'. Conditions: the arguments read; the bindings make no circle; terms of at most a million nodes. -/
namespace Go.Proofs.YtgcbanljifalnaaDoor
open Go.RowKit

theorem gfresh' {w W W' : World} {r r' : Option Nat} (h : w.grownBy W r) (g : W.grownBy W' r') (hk : ∀ k, r' = some k → w.heap.size ≤ k) : w.grownBy W' r :=
  ⟨g.os.trans h.os, g.tape.trans h.tape, g.output.trans h.output, Nat.le_trans h.size g.size, fun i hi hr => (g.block i (Nat.lt_of_lt_of_le hi h.size) (fun e => by have := hk i e.symm; omega)).trans (h.block i hi hr)⟩
/-- A step that is wanted. -/
theorem if_t {c : Prop} [Decidable c] {p q : Prop} (hc : c) (h : p) : if c then p else q := by rw [if_pos hc]; exact h
/-- An operation of a region that draws, as one of a list. -/
def Qn (K : Act → World → Prop) (Q : Exit → Act → World → Prop) : Exit → Act → World → Prop
  | .normal, a, w => K a w
  | .panic c, a, w => Q (.panic c) a w
  | _, _, _ => False
theorem opwp_of_list {P : Program} {ops : Array Oper} {o : Oper} {a : Act} {w : World} {K : Act → World → Prop} {Q : Exit → Act → World → Prop} (hg : o.guard = none) (h : wpList P ops (Qn K Q) [o] a w) : o.wp P a w K Q := by
  unfold wpList at h
  rw [if_pos (by simp [Region.wanted, hg])] at h
  have hno : ¬ LetsOut (Qn K Q) := fun ⟨_, _, h⟩ => h
  have h := h.resolve_right (fun hh => hno hh.2)
  unfold Oper.wp at h ⊢
  generalize (execOp a.eval o).run P w = r at h ⊢
  match r, h with
  | .ok (.value v) w', h => exact h
  | .ok .skip w', h => exact h
  | .ok (.defer d) w', h => exact h
  | .ok (.enter f args) w', h =>
    exact Calls.mono h (fun e w'' he => match e, he with
      | .returned v, he => he
      | .panicked c, he => he
      | .outgrown, he => absurd he hno)
  | .ok (.row row args) w', h => exact h
  | .halt (.panic v) w', h => exact h

end Go.Proofs.YtgcbanljifalnaaDoor
/- The law's 'Great' of bindings; 'Make', plain. Conditions: the arguments read. -/
namespace Go.Proofs.YtgcbanljifalnaaDoor
open Go.RowKit

theorem Kd.S.apart {w : World} {ok : Nat → Prop} {m : Nat} {l : List Tm} {v : Value} (hm : ∀ c t f, w.heap[m]? ≠ some (.cells c t f)) (h : Kd.tm.S w ok l v) : Kd.tm.S w (fun b => ok b ∧ b ≠ m) l v := by
  obtain ⟨A, c, e, h1, h2, h3⟩ := h
  refine ⟨A, c, e, h1, h2, ?_⟩
  by_cases hx : l = []
  · refine .inl ⟨hx, ?_⟩
    rcases h3 with h3 | ⟨b, o, ha, _⟩
    · exact h3.2
    · intro hn; rw [ha] at hn; cases hn
  · obtain ⟨b, o, ha, hb, ht⟩ := h3.resolve_left (fun h => hx h.1)
    have ht' := (TmL_iff l b o).2 ht
    exact .inr ⟨b, o, ha, ⟨hb, TmL.head_ne hm ht' hx⟩, (TmL_iff l b o).1 (TmL.apart hm l b o ht')⟩
/-! ### Fuel that is enough -/
open Classical in
noncomputable def fuelOf (l : Bs) (t : Tm) : Nat := if h : ∃ f, Fn l f t then Classical.choose h else 0
theorem Acyc.fueled {l : Bs} (h : Acyc l) (t : Tm) : Fn l (fuelOf l t) t := by
  have := h.fuel t
  unfold fuelOf
  rw [dif_pos this]
  exact Classical.choose_spec this
/-- What is visited. -/
noncomputable def visA (l : Bs) (t : Tm) : List Tm := vis l (fuelOf l t) t
noncomputable def appA (l : Bs) (t : Tm) : Tm := app l (fuelOf l t) t
theorem Fn.same {l : Bs} {f g : Nat} {t : Tm} (h : Fn l f t) (k : Fn l g t) : app l f t = app l g t ∧ vis l f t = vis l g t := by
  rcases Nat.le_total f g with hfg | hfg
  · have := h.ge hfg; exact ⟨this.2.1.symm, this.2.2.symm⟩
  · have := k.ge hfg; exact ⟨this.2.1, this.2.2⟩
/-- Bindings, one behind the other, as far as they may be. -/
noncomputable def mk (had : Bs) : Bs → Bs
  | [] => had
  | (v, t) :: l => mk (bnd had v t (visA had t)) l
end Go.Proofs.YtgcbanljifalnaaDoor

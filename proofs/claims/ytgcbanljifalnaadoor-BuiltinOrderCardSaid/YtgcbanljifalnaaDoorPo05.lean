import Derived.Test.YtgcbanljifalnaaDoorPo04
import Derived.Deep.LoopGhost
import Derived.Deep.RegionHeld3
set_option linter.unusedVariables false
set_option maxRecDepth 20000
set_option linter.unusedSimpArgs false
/- Substitutions in memory; terms walked. Conditions: the arguments read. -/
namespace Go.Proofs.YtgcbanljifalnaaDoor
open Go.RowKit

/-- The term that is none. -/
def tm0 : Tm := ⟨0, ⟨#[]⟩, 0, []⟩
mutual
theorem TmK.apart {w : World} {ok : Nat → Prop} {m : Nat} (hm : ∀ c t f, w.heap[m]? ≠ some (.cells c t f)) : ∀ (t : Tm) (cs : List Value), TmK w ok t cs → TmK w (fun b => ok b ∧ b ≠ m) t cs
  | ⟨k, s, n, l⟩, cs, h => by
    simp only [TmK] at h ⊢
    obtain ⟨A, c, e, h1, h2, h3⟩ := h
    refine ⟨A, c, e, h1, h2, ?_⟩
    by_cases hx : l = []
    · refine .inl ⟨hx, ?_⟩
      rcases h3 with h3 | ⟨b, o, ha, _⟩
      · exact h3.2
      · intro hn; rw [ha] at hn; cases hn
    · obtain ⟨b, o, ha, hb, ht⟩ := h3.resolve_left (fun h => hx h.1)
      exact .inr ⟨b, o, ha, ⟨hb, TmL.head_ne hm ht hx⟩, TmL.apart hm l b o ht⟩
theorem TmL.apart {w : World} {ok : Nat → Prop} {m : Nat} (hm : ∀ c t f, w.heap[m]? ≠ some (.cells c t f)) : ∀ (l : List Tm) (b o : Nat), TmL w ok l b o → TmL w (fun b => ok b ∧ b ≠ m) l b o
  | [], _, _, _ => by simp only [TmL]
  | t :: ts, b, o, h => by
    simp only [TmL] at h ⊢
    obtain ⟨⟨cs, hk, hc⟩, hr⟩ := h
    exact ⟨⟨cs, TmK.apart hm t cs hk, hc⟩, TmL.apart hm ts b (o + 4) hr⟩
theorem TmL.head_ne {w : World} {ok : Nat → Prop} {l : List Tm} {b o m : Nat} (hm : ∀ c t f, w.heap[m]? ≠ some (.cells c t f)) (h : TmL w ok l b o) (hx : l ≠ []) : b ≠ m := by
  cases l with
  | nil => exact absurd rfl hx
  | cons t ts =>
    simp only [TmL] at h
    obtain ⟨⟨cs, hk, hc⟩, _⟩ := h
    have hl := TmK.len hk
    cases cs with
    | nil => simp at hl
    | cons c cs =>
      rintro rfl
      have h0 := hc 0 c rfl
      unfold World.cell? at h0
      simp only at h0
      cases h0
end
theorem TmV.apart {w : World} {ok : Nat → Prop} {t : Tm} {v : Value} {m : Nat} (hm : ∀ c t f, w.heap[m]? ≠ some (.cells c t f)) (h : TmV w ok t v) : TmV w (fun b => ok b ∧ b ≠ m) t v := by
  obtain ⟨u, e, hs⟩ := h
  have := TmK.apart hm t _ (TmK_iff.2 ⟨u, rfl, hs⟩)
  obtain ⟨u', e', hs'⟩ := TmK_iff.1 this
  injection e' with _ e'
  injection e' with _ e'
  injection e' with _ e'
  injection e' with e' _
  subst e'
  exact ⟨u, e, hs'⟩
theorem TmV.grown {w w' : World} {ok : Nat → Prop} {t : Tm} {v : Value} {row : Option Nat} (hg : w.grownBy w' row) (hok : ∀ b, ok b → some b ≠ row) (h : TmV w ok t v) : TmV w' ok t v := let ⟨u, e, hs⟩ := h; ⟨u, e, Kd.S.grown hg hok hs⟩

/-- A substitution: a struct in block p that holds the map in block b; the bindings are l's. -/
structure Sub (w : World) (ok : Nat → Prop) (l : Bs) (p b : Nat) : Prop where
  cell : w.heap[p]? = some (.cells #[.map (some b)] 72 (0, 0))
  map : ∃ M, MapAt w b M l.length ∧ ∀ n, (ofB l n = none → M n = none) ∧ ∀ t, ofB l n = some t → ∃ v, M n = some v ∧ TmV w ok t v
  acyc : Acyc l
  wf : ∀ n t, ofB l n = some t → t.Wf
theorem Sub.move {w w' : World} {ok : Nat → Prop} {l : Bs} {p b : Nat} (h : Sub w ok l p b) (hp : w'.heap[p]? = w.heap[p]?) (hb : w'.heap[b]? = w.heap[b]?) (ht : ∀ t v, TmV w ok t v → TmV w' ok t v) : Sub w' ok l p b := by
  obtain ⟨h1, ⟨M, hM, hM2⟩, h3, h4⟩ := h
  exact ⟨hp.trans h1, ⟨M, hM.move hb, fun n => ⟨(hM2 n).1, fun t hn => by obtain ⟨v, hv, hv2⟩ := (hM2 n).2 t hn; exact ⟨v, hv, ht _ _ hv2⟩⟩⟩, h3, h4⟩
theorem Sub.lt {w : World} {ok : Nat → Prop} {l : Bs} {p b : Nat} (h : Sub w ok l p b) : p < w.heap.size ∧ b < w.heap.size :=
  ⟨(Array.getElem?_eq_some_iff.1 h.cell).1, by obtain ⟨M, hM, _⟩ := h.map; exact hM.lt⟩
theorem Sub.below {w w' : World} {ok : Nat → Prop} {l : Bs} {p b : Nat} (h : Sub w ok l p b) (hb : Below w.heap.size w w') : Sub w' ok l p b :=
  h.move (hb.block _ h.lt.1) (hb.block _ h.lt.2) (fun t v => TmV.below hb)
theorem Sub.mono {w : World} {ok ok' : Nat → Prop} {l : Bs} {p b : Nat} (h : Sub w ok l p b) (hm : ∀ k, ok k → ok' k) : Sub w ok' l p b := by
  obtain ⟨h1, ⟨M, hM, hM2⟩, h3, h4⟩ := h
  exact ⟨h1, ⟨M, hM, fun n => ⟨(hM2 n).1, fun t hn => by obtain ⟨v, hv, hv2⟩ := (hM2 n).2 t hn; exact ⟨v, hv, hv2.mono hm⟩⟩⟩, h3, h4⟩
theorem Sub.grown {w w' : World} {ok : Nat → Prop} {l : Bs} {p b : Nat} {row : Option Nat} (h : Sub w ok l p b) (hg : w.grownBy w' row) (hok : ∀ k, ok k → some k ≠ row) (hp : some p ≠ row) (hb : some b ≠ row) : Sub w' ok l p b :=
  h.move (hg.block p h.lt.1 hp) (hg.block b h.lt.2 hb) (fun t v => TmV.grown hg hok)
theorem Sub.bound {w : World} {ok : Nat → Prop} {l : Bs} {p b : Nat} (h : Sub w ok l p b) : Sub w (fun k => ok k ∧ k < w.heap.size) l p b := by
  obtain ⟨h1, ⟨M, hM, hM2⟩, h3, h4⟩ := h
  exact ⟨h1, ⟨M, hM, fun n => ⟨(hM2 n).1, fun t hn => by obtain ⟨v, hv, hv2⟩ := (hM2 n).2 t hn; exact ⟨v, hv, hv2.bound⟩⟩⟩, h3, h4⟩
theorem Sub.len_le {w : World} {ok : Nat → Prop} {l : Bs} {p b : Nat} (h : Sub w ok l p b) : p ≠ b := fun e => by
  obtain ⟨M, hM, _⟩ := h.map
  exact hM.not_cells _ _ _ (by rw [← e]; exact h.cell)
/-- The struct's one cell. -/
theorem Sub.at {w : World} {ok : Nat → Prop} {l : Bs} {p b : Nat} (h : Sub w ok l p b) : w.cell? ⟨p, 0, none⟩ = some (.map (some b)) := by
  unfold World.cell?
  simp only [h.cell]
  rfl
theorem Tm.Wf.key {t : Tm} (h : t.Wf) : (Lit.int .i64 t.n).wf = true := by
  simp only [Lit.wf, Bool.and_eq_true, decide_eq_true_eq, IntKind.min, IntKind.max, IntKind.signed, IntKind.bits]
  simpa using h.parts.2.1
/-- Walked terms are in their bounds. -/
theorem wlkN_wf {l : Bs} (hl : ∀ n t, ofB l n = some t → t.Wf) : ∀ (m : Nat) (t : Tm), t.Wf → (wlkN l m t).Wf
  | 0, t, h => h
  | m + 1, t, h => by
    simp only [wlkN]
    cases hn : nxt l t with
    | none => exact h
    | some u =>
      unfold nxt at hn
      split at hn
      · exact wlkN_wf hl m u (hl _ _ hn)
      · cases hn
theorem Tryd.zeroT : ∀ w, (zeroValue 24).run Tryd.prog w = .ok (.agg #[.int .u8 0, .string ⟨#[]⟩, .int .i64 0, .slice none 0 0]) w := fun w => by kernel_rfl

/-- What a look-up gives. -/
theorem MapAt.look_run {w : World} {b : Nat} {M : Int → Option Value} {sz : Nat} (h : MapAt w b M sz) (t e : TypeId) (ht : Tryd.prog.underlying t = some (.map 2 e)) {z : Value} (hz : ∀ w, (zeroValue e).run Tryd.prog w = .ok z w) (n : Int) (hn : (Lit.int .i64 n).wf = true) :
    (Instr.lookup t (.map (some b)) (.int .i64 n) true).run Tryd.prog w = .ok (.tuple #[(M n).getD z, .bool (M n).isSome]) w := by
  obtain ⟨D, h1, h2, h3, h4⟩ := h
  obtain ⟨v, ps, hrun, hv⟩ := h1.look_ok Tryd.key64 ht (hz w) (zd := .held z) (zp := []) rfl (key_lit n hn)
  have hv' : DataW.held v = D.atKey (.int .i64 n) (.held z) := by
    have : (DataW.held v, ([] : List MemPlace)) = (D.atKey (.int .i64 n) (.held z), ps) := Option.some.inj hv
    exact congrArg Prod.fst this
  rw [h3 n hn] at hrun
  rw [hrun]
  cases hM : M n with
  | some u =>
    rw [h4 n u hn hM] at hv'
    injection hv' with hv'
    subst hv'
    rfl
  | none =>
    have h0 : Maps.has D (.int .i64 n) = false := by rw [h3 n hn, hM]; rfl
    rw [Maps.atKey_of_not_has h0] at hv'
    injection hv' with hv'
    subst hv'
    rfl
set_option maxHeartbeats 2000000 in
theorem Walk_c (l : Bs) (p b : Nat) (t : Tm) (v : Value) (w : World) (ok : Nat → Prop) (hs : Sub w ok l p b) (hv : TmV w ok t v) (hwf : t.Wf) :
    Calls Tryd.prog 23 #[.pointer (some ⟨p, 0, none⟩), v] w fun e w' => (∃ u, e = .returned u ∧ TmV w' ok (wlk l t) u) ∧ Below w.heap.size w w' := by
  replace hs := hs.bound
  replace hv := hv.bound
  obtain ⟨u0, rfl, hS⟩ := hv
  obtain ⟨A, c, rfl⟩ := hS.form
  go_enter Tryd.func23, Tryd.ntmps23
  go_wp2
  go_loopg [] (l.length + 1) (fun g wr => ∃ (m : Nat) (x : Tm) (A : Option Addr) (c : Nat), g + m = l.length + 1 ∧ x = wlkN l m t ∧ wr.heap[w.heap.size]? = some (.cells #[.int .u8 x.k, .string x.s, .int .i64 x.n, .slice A x.l.length c] 24 (0, 0)) ∧ Kd.tm.S w (fun k => ok k ∧ k < w.heap.size) x.l (.slice A x.l.length c) ∧ wr.heap[w.heap.size + 1]? = some (.cells #[.int .u8 0, .string ⟨#[]⟩, .int .i64 0, .slice none 0 0] 24 (0, 0)) ∧ Below w.heap.size w wr)
  case atStart =>
    have hb : Below w.heap.size w ((w.alloc (Obj.cells #[.int .u8 t.k, .string t.s, .int .i64 t.n, .slice A t.l.length c] 24)).alloc (Obj.cells #[.int .u8 0, .string ⟨#[]⟩, .int .i64 0, .slice none 0 0] 24)) := ((Below.refl _ w).alloc (Nat.le_refl _) _).alloc (by simp) _
    refine ⟨0, t, A, c, by simp, rfl, ?_, hS, ?_, hb⟩
    · exact (Below.heap_alloc _ _ _ (by simp)).trans (heap_new w _)
    · have := heap_new (w.alloc (Obj.cells #[.int .u8 t.k, .string t.s, .int .i64 t.n, .slice A t.l.length c] 24)) (Obj.cells #[.int .u8 0, .string ⟨#[]⟩, .int .i64 0, .slice none 0 0] 24)
      rw [World.size_alloc] at this
      exact this
  case round =>
    obtain ⟨m, x, A', c', hg, hx, hbx, hS', hbr, hb⟩ := hrel
    have hwfm : x.Wf := by rw [hx]; exact wlkN_wf hs.wf m t hwf
    have hroom : ∀ u, nxt l x = some u → m < l.length := fun u hu => hs.acyc.room (by rw [← hx]; exact hu)
    have hstop : nxt l x = none → x = wlk l t := fun h => by rw [hx] at h ⊢; exact stop_wlk hs.acyc h
    have hsn : ∀ u, nxt l x = some u → wlkN l (m + 1) t = u := fun u hu => wlkN_snoc m t (by rw [← hx]; exact hu)
    have hszw : w.heap.size + 2 ≤ wr.heap.size := by have := (Array.getElem?_eq_some_iff.1 hbr).1; omega
    obtain ⟨c0, c1, c2, c3, f0, f1, f2, f3⟩ := box4 hbx
    obtain ⟨d0, d1, d2, d3, g0, g1, g2, g3⟩ := box4 hbr
    have hp := (hs.below hb).at
    have hplt := (hs.below hb).lt.1
    obtain ⟨M, hM0, hM2⟩ := hs.map
    have hM := hM0.move (hb.block b hs.lt.2)
    have HM := Lib.hid hM
    have HR := Lib.hid hroom
    have HST := Lib.hid hstop
    have HSN := Lib.hid hsn
    have HG := Lib.hid hg
    have HM2 := Lib.hid hM2
    have HW := Lib.hid hwfm.key
    have HX := Lib.hid hx
    have HS := Lib.hid hs
    have HBX := Lib.hid hbx
    have HBR := Lib.hid hbr
    clear hM hM0 hM2 hroom hstop hsn hg hS hwfm hx hs hbx hbr
    by_cases hk : x.k = 1
    · have hk' : (x.k == 1) = true := by simpa using hk
      cases ho : ofB l x.n with
      | none =>
        have hMx := Lib.hid ((HM2.out x.n).1 ho)
        have hres := Lib.hid (HST.out (by simp [nxt, ho]))
        clear ho HM2 HST HSN HR
        go_wp2
        have HS0 : ∀ W, Below wr.heap.size wr W → (W.cell? ⟨p, 0, none⟩ = some (.map (some b)) ∧ W.cell? ⟨w.heap.size, 2, none⟩ = some (.int .i64 x.n) ∧ MapAt W b M l.length ∧ Below wr.heap.size wr W) := fun W h => ⟨cell_below h hp hplt, cell_below h c2 (by omega), HM.out.move (h.block b HM.out.lt), h⟩
        refine wp_region_held_drew (S := (fun W => W.cell? ⟨p, 0, none⟩ = some (.map (some b)) ∧ W.cell? ⟨w.heap.size, 2, none⟩ = some (.int .i64 x.n) ∧ MapAt W b M l.length ∧ Below wr.heap.size wr W)) (by kernel_rfl) ?_ (fun hHeld => ?_)
        · exact HS0 _ (Below.refl _ wr).drew
        change wpAnyH _ .any _ _ _ 13 (Array.replicate 13 false) _ _
        refine wpAnyH_take (i := 0) (oi := ⟨some 15, _, _, _, _, _⟩) (v := ?_) rfl (by kernel_rfl) (by kernel_rfl) (by kernel_rfl) (fun _ _ _ h => h) (Or.inl ⟨by rfl, ?_⟩) (by assumption) ?_
        rotate_left
        · (intro w hSw; (try dsimp only at hSw); go_simp; try (with_reducible rfl))
        (try simp only [Act.put, List.setIfInBounds_toArray, List.set_cons_zero, List.set_cons_succ])
        refine wpAnyH_take (i := 1) (oi := ⟨some 16, _, _, _, _, _⟩) (v := ?_) rfl (by kernel_rfl) (by kernel_rfl) (by kernel_rfl) (fun _ _ _ h => h) (Or.inl ⟨by rfl, ?_⟩) (by assumption) ?_
        rotate_left
        · (intro w hSw; (try dsimp only at hSw); go_simp; try (with_reducible rfl))
        (try simp only [Act.put, List.setIfInBounds_toArray, List.set_cons_zero, List.set_cons_succ])
        refine wpAnyH_take (i := 2) (oi := ⟨some 17, _, _, _, _, _⟩) (v := ?_) rfl (by kernel_rfl) (by kernel_rfl) (by kernel_rfl) (fun _ _ _ h => h) (Or.inl ⟨by rfl, ?_⟩) (by assumption) ?_
        rotate_left
        · (intro w hSw; (try dsimp only at hSw); go_simp; try (with_reducible rfl))
        (try simp only [Act.put, List.setIfInBounds_toArray, List.set_cons_zero, List.set_cons_succ])
        refine wpAnyH_take (i := 3) (oi := ⟨some 18, _, _, _, _, _⟩) (v := ?_) rfl (by kernel_rfl) (by kernel_rfl) (by kernel_rfl) (fun _ _ _ h => h) (Or.inl ⟨by rfl, ?_⟩) (by assumption) ?_
        rotate_left
        · (intro w hSw; (try dsimp only at hSw); go_simp; try (with_reducible rfl))
        (try simp only [Act.put, List.setIfInBounds_toArray, List.set_cons_zero, List.set_cons_succ])
        refine wpAnyH_take (i := 4) (oi := ⟨some 19, _, _, _, _, _⟩) (v := ?_) rfl (by kernel_rfl) (by kernel_rfl) (by kernel_rfl) (fun _ _ _ h => h) (Or.inl ⟨by rfl, ?_⟩) (by assumption) ?_
        rotate_left
        · (intro w hSw; (try dsimp only at hSw); go_simp; try (with_reducible rfl))
        (try simp only [Act.put, List.setIfInBounds_toArray, List.set_cons_zero, List.set_cons_succ])
        refine wpAnyH_take (i := 5) (oi := ⟨some 20, _, _, _, _, _⟩) (v := ?_) rfl (by kernel_rfl) (by kernel_rfl) (by kernel_rfl) (fun _ _ _ h => h) (Or.inl ⟨by rfl, ?_⟩) (by assumption) ?_
        rotate_left
        · (intro w hSw; (try dsimp only at hSw); go_simp; try (with_reducible rfl))
        (try simp only [Act.put, List.setIfInBounds_toArray, List.set_cons_zero, List.set_cons_succ])
        refine wpAnyH_take (i := 6) (oi := ⟨some 21, _, _, _, _, _⟩) (v := .tuple #[.agg #[.int .u8 0, .string ⟨#[]⟩, .int .i64 0, .slice none 0 0], .bool false]) rfl (by kernel_rfl) (by kernel_rfl) (by kernel_rfl) (fun _ _ _ h => h) (Or.inl ⟨by rfl, ?_⟩) (by assumption) ?_
        · intro w hSw
          have hlk := MapAt.look_run hSw.2.2.1 70 24 Tryd.underlying70 Tryd.zeroT x.n HW.out
          rw [hMx.out] at hlk
          simp only [Option.getD_none, Option.getD_some, Option.isSome_none, Option.isSome_some] at hlk
          clear hSw
          go_simp
        (try simp only [Act.put, List.setIfInBounds_toArray, List.set_cons_zero, List.set_cons_succ])
        refine wpAnyH_take (i := 7) (oi := ⟨some 14, _, _, _, _, _⟩) (v := ?_) rfl (by kernel_rfl) (by kernel_rfl) (by kernel_rfl) (fun _ _ _ h => h) (Or.inl ⟨by rfl, ?_⟩) (by assumption) ?_
        rotate_left
        · (intro w hSw; (try dsimp only at hSw); go_simp; try (with_reducible rfl))
        (try simp only [Act.put, List.setIfInBounds_toArray, List.set_cons_zero, List.set_cons_succ])
        refine wpAnyH_take (i := 8) (oi := ⟨some 22, _, _, _, _, _⟩) (v := ?_) rfl (by kernel_rfl) (by kernel_rfl) (by kernel_rfl) (fun _ _ _ h => h) (Or.inl ⟨by rfl, ?_⟩) (by assumption) ?_
        rotate_left
        · (intro w hSw; (try dsimp only at hSw); go_simp; try (with_reducible rfl))
        (try simp only [Act.put, List.setIfInBounds_toArray, List.set_cons_zero, List.set_cons_succ])
        refine wpAnyH_take (i := 9) (oi := ⟨some 23, _, _, _, _, _⟩) (v := ?_) rfl (by kernel_rfl) (by kernel_rfl) (by kernel_rfl) (fun _ _ _ h => h) (Or.inl ⟨by rfl, ?_⟩) (by assumption) ?_
        rotate_left
        · (intro w hSw; (try dsimp only at hSw); go_simp; try (with_reducible rfl))
        (try simp only [Act.put, List.setIfInBounds_toArray, List.set_cons_zero, List.set_cons_succ])
        refine wpAnyH_ready (rs := [10]) (by kernel_rfl) (by simp) ?_
        refine AllReadyH.cons (o := ⟨some 5, _, _, _, _, _⟩) rfl (fun K hK => ?_) AllReadyH.nil
        go_simp
        refine hK.out _ _ (HS0 _ (hHeld.2.2.2.alloc hHeld.2.2.2.size _)) (fun hHeld => ?_)
        clear hK K
        (try simp only [Act.put, List.setIfInBounds_toArray, List.set_cons_zero, List.set_cons_succ])
        refine wpAnyH_ready (rs := [11]) (by kernel_rfl) (by simp) ?_
        refine AllReadyH.cons (o := ⟨none, _, _, _, _, _⟩) rfl (fun K hK => ?_) AllReadyH.nil
        go_simp
        refine hK.out _ _ (HS0 _ (((Below.refl _ wr).alloc (Nat.le_refl _) _).drew)) (fun hHeld => ?_)
        clear hK K
        (try simp only [Act.put, List.setIfInBounds_toArray, List.set_cons_zero, List.set_cons_succ])
        refine wpAnyH_take (i := 12) (oi := ⟨some 6, _, _, _, _, _⟩) (v := ?_) rfl (by kernel_rfl) (by kernel_rfl) (by kernel_rfl) (fun _ _ _ h => h) (Or.inl ⟨by rfl, ?_⟩) (by assumption) ?_
        rotate_left
        · (intro w hSw; (try dsimp only at hSw); go_simp; try (with_reducible rfl))
        (try simp only [Act.put, List.setIfInBounds_toArray, List.set_cons_zero, List.set_cons_succ])
        refine wpAnyH_done (by kernel_rfl) ?_ _
        clear HS0 hHeld
        have hB2 : Below wr.heap.size wr ((wr.alloc (.cells #[.int .u8 0, .string ⟨#[]⟩, .int .i64 0, .slice none 0 0] 24)).drew) := ((Below.refl _ wr).alloc (Nat.le_refl _) _).drew
        have hN2 : ((wr.alloc (.cells #[.int .u8 0, .string ⟨#[]⟩, .int .i64 0, .slice none 0 0] 24)).drew).heap[wr.heap.size]? = some (.cells #[.int .u8 0, .string ⟨#[]⟩, .int .i64 0, .slice none 0 0] 24) := heap_new wr _
        generalize (wr.alloc _).drew = W2 at hB2 hN2 ⊢
        obtain ⟨e0, e1, e2, e3, -, -, -, -⟩ := box4 hN2
        have hB2s := hB2.size
        replace c0 := cell_below hB2 c0 (by omega)
        replace c1 := cell_below hB2 c1 (by omega)
        replace c2 := cell_below hB2 c2 (by omega)
        replace c3 := cell_below hB2 c3 (by omega)
        replace d0 := cell_below hB2 d0 (by omega)
        replace d1 := cell_below hB2 d1 (by omega)
        replace d2 := cell_below hB2 d2 (by omega)
        replace d3 := cell_below hB2 d3 (by omega)
        replace f0 := frozen_below hB2 f0 (by omega)
        replace f1 := frozen_below hB2 f1 (by omega)
        replace f2 := frozen_below hB2 f2 (by omega)
        replace f3 := frozen_below hB2 f3 (by omega)
        replace g0 := frozen_below hB2 g0 (by omega)
        replace g1 := frozen_below hB2 g1 (by omega)
        replace g2 := frozen_below hB2 g2 (by omega)
        replace g3 := frozen_below hB2 g3 (by omega)
        go_wp2
        refine bodyPost_ret (v := .agg #[.int .u8 1, .string x.s, .int .i64 x.n, .slice A' x.l.length c']) (by simp [results, Tryd.results23, go_sem, d0, d1, d2, d3]) rfl ?_
        have hfin := hb.trans ((hB2.mono (Nat.le_trans (Nat.le_add_right _ 2) hszw)).grown (grown_set4 _ (w.heap.size + 1) (.int .u8 1) (.string x.s) (.int .i64 x.n) (.slice A' x.l.length c')) (by omega) (fun k hk => by injection hk with hk; omega))
        exact ⟨⟨_, rfl, by rw [← hres.out]; exact ⟨_, by rw [hk], (Kd.S.below hfin hS').mono (fun _ h => h.1)⟩⟩, hfin⟩
      | some u =>
        obtain ⟨vu, hMu, hVu⟩ := (HM2.out x.n).2 u ho
        obtain ⟨uu, rfl, hSu⟩ := hVu
        obtain ⟨Au, cu, rfl⟩ := hSu.form
        have hMx := Lib.hid hMu
        have hlt := Lib.hid (HR.out u (by simp [nxt, hk, ho]))
        have hsn := Lib.hid (HSN.out u (by simp [nxt, hk, ho]))
        clear ho HM2 HST HSN HR hMu
        go_wp2
        have HS0 : ∀ W, Below wr.heap.size wr W → (W.cell? ⟨p, 0, none⟩ = some (.map (some b)) ∧ W.cell? ⟨w.heap.size, 2, none⟩ = some (.int .i64 x.n) ∧ MapAt W b M l.length ∧ Below wr.heap.size wr W) := fun W h => ⟨cell_below h hp hplt, cell_below h c2 (by omega), HM.out.move (h.block b HM.out.lt), h⟩
        refine wp_region_held_drew (S := (fun W => W.cell? ⟨p, 0, none⟩ = some (.map (some b)) ∧ W.cell? ⟨w.heap.size, 2, none⟩ = some (.int .i64 x.n) ∧ MapAt W b M l.length ∧ Below wr.heap.size wr W)) (by kernel_rfl) ?_ (fun hHeld => ?_)
        · exact HS0 _ (Below.refl _ wr).drew
        change wpAnyH _ .any _ _ _ 13 (Array.replicate 13 false) _ _
        refine wpAnyH_take (i := 0) (oi := ⟨some 15, _, _, _, _, _⟩) (v := ?_) rfl (by kernel_rfl) (by kernel_rfl) (by kernel_rfl) (fun _ _ _ h => h) (Or.inl ⟨by rfl, ?_⟩) (by assumption) ?_
        rotate_left
        · (intro w hSw; (try dsimp only at hSw); go_simp; try (with_reducible rfl))
        (try simp only [Act.put, List.setIfInBounds_toArray, List.set_cons_zero, List.set_cons_succ])
        refine wpAnyH_take (i := 1) (oi := ⟨some 16, _, _, _, _, _⟩) (v := ?_) rfl (by kernel_rfl) (by kernel_rfl) (by kernel_rfl) (fun _ _ _ h => h) (Or.inl ⟨by rfl, ?_⟩) (by assumption) ?_
        rotate_left
        · (intro w hSw; (try dsimp only at hSw); go_simp; try (with_reducible rfl))
        (try simp only [Act.put, List.setIfInBounds_toArray, List.set_cons_zero, List.set_cons_succ])
        refine wpAnyH_take (i := 2) (oi := ⟨some 17, _, _, _, _, _⟩) (v := ?_) rfl (by kernel_rfl) (by kernel_rfl) (by kernel_rfl) (fun _ _ _ h => h) (Or.inl ⟨by rfl, ?_⟩) (by assumption) ?_
        rotate_left
        · (intro w hSw; (try dsimp only at hSw); go_simp; try (with_reducible rfl))
        (try simp only [Act.put, List.setIfInBounds_toArray, List.set_cons_zero, List.set_cons_succ])
        refine wpAnyH_take (i := 3) (oi := ⟨some 18, _, _, _, _, _⟩) (v := ?_) rfl (by kernel_rfl) (by kernel_rfl) (by kernel_rfl) (fun _ _ _ h => h) (Or.inl ⟨by rfl, ?_⟩) (by assumption) ?_
        rotate_left
        · (intro w hSw; (try dsimp only at hSw); go_simp; try (with_reducible rfl))
        (try simp only [Act.put, List.setIfInBounds_toArray, List.set_cons_zero, List.set_cons_succ])
        refine wpAnyH_take (i := 4) (oi := ⟨some 19, _, _, _, _, _⟩) (v := ?_) rfl (by kernel_rfl) (by kernel_rfl) (by kernel_rfl) (fun _ _ _ h => h) (Or.inl ⟨by rfl, ?_⟩) (by assumption) ?_
        rotate_left
        · (intro w hSw; (try dsimp only at hSw); go_simp; try (with_reducible rfl))
        (try simp only [Act.put, List.setIfInBounds_toArray, List.set_cons_zero, List.set_cons_succ])
        refine wpAnyH_take (i := 5) (oi := ⟨some 20, _, _, _, _, _⟩) (v := ?_) rfl (by kernel_rfl) (by kernel_rfl) (by kernel_rfl) (fun _ _ _ h => h) (Or.inl ⟨by rfl, ?_⟩) (by assumption) ?_
        rotate_left
        · (intro w hSw; (try dsimp only at hSw); go_simp; try (with_reducible rfl))
        (try simp only [Act.put, List.setIfInBounds_toArray, List.set_cons_zero, List.set_cons_succ])
        refine wpAnyH_take (i := 6) (oi := ⟨some 21, _, _, _, _, _⟩) (v := .tuple #[.agg #[.int .u8 u.k, .string u.s, .int .i64 u.n, .slice Au u.l.length cu], .bool true]) rfl (by kernel_rfl) (by kernel_rfl) (by kernel_rfl) (fun _ _ _ h => h) (Or.inl ⟨by rfl, ?_⟩) (by assumption) ?_
        · intro w hSw
          have hlk := MapAt.look_run hSw.2.2.1 70 24 Tryd.underlying70 Tryd.zeroT x.n HW.out
          rw [hMx.out] at hlk
          simp only [Option.getD_none, Option.getD_some, Option.isSome_none, Option.isSome_some] at hlk
          clear hSw
          go_simp
        (try simp only [Act.put, List.setIfInBounds_toArray, List.set_cons_zero, List.set_cons_succ])
        refine wpAnyH_take (i := 7) (oi := ⟨some 14, _, _, _, _, _⟩) (v := ?_) rfl (by kernel_rfl) (by kernel_rfl) (by kernel_rfl) (fun _ _ _ h => h) (Or.inl ⟨by rfl, ?_⟩) (by assumption) ?_
        rotate_left
        · (intro w hSw; (try dsimp only at hSw); go_simp; try (with_reducible rfl))
        (try simp only [Act.put, List.setIfInBounds_toArray, List.set_cons_zero, List.set_cons_succ])
        refine wpAnyH_take (i := 8) (oi := ⟨some 22, _, _, _, _, _⟩) (v := ?_) rfl (by kernel_rfl) (by kernel_rfl) (by kernel_rfl) (fun _ _ _ h => h) (Or.inl ⟨by rfl, ?_⟩) (by assumption) ?_
        rotate_left
        · (intro w hSw; (try dsimp only at hSw); go_simp; try (with_reducible rfl))
        (try simp only [Act.put, List.setIfInBounds_toArray, List.set_cons_zero, List.set_cons_succ])
        refine wpAnyH_take (i := 9) (oi := ⟨some 23, _, _, _, _, _⟩) (v := ?_) rfl (by kernel_rfl) (by kernel_rfl) (by kernel_rfl) (fun _ _ _ h => h) (Or.inl ⟨by rfl, ?_⟩) (by assumption) ?_
        rotate_left
        · (intro w hSw; (try dsimp only at hSw); go_simp; try (with_reducible rfl))
        (try simp only [Act.put, List.setIfInBounds_toArray, List.set_cons_zero, List.set_cons_succ])
        refine wpAnyH_ready (rs := [10]) (by kernel_rfl) (by simp) ?_
        refine AllReadyH.cons (o := ⟨some 5, _, _, _, _, _⟩) rfl (fun K hK => ?_) AllReadyH.nil
        go_simp
        refine hK.out _ _ (HS0 _ (hHeld.2.2.2.alloc hHeld.2.2.2.size _)) (fun hHeld => ?_)
        clear hK K
        (try simp only [Act.put, List.setIfInBounds_toArray, List.set_cons_zero, List.set_cons_succ])
        refine wpAnyH_ready (rs := [11]) (by kernel_rfl) (by simp) ?_
        refine AllReadyH.cons (o := ⟨none, _, _, _, _, _⟩) rfl (fun K hK => ?_) AllReadyH.nil
        go_simp
        refine hK.out _ _ (HS0 _ (((Below.refl _ wr).alloc (Nat.le_refl _) _).drew)) (fun hHeld => ?_)
        clear hK K
        (try simp only [Act.put, List.setIfInBounds_toArray, List.set_cons_zero, List.set_cons_succ])
        refine wpAnyH_take (i := 12) (oi := ⟨some 6, _, _, _, _, _⟩) (v := ?_) rfl (by kernel_rfl) (by kernel_rfl) (by kernel_rfl) (fun _ _ _ h => h) (Or.inl ⟨by rfl, ?_⟩) (by assumption) ?_
        rotate_left
        · (intro w hSw; (try dsimp only at hSw); go_simp; try (with_reducible rfl))
        (try simp only [Act.put, List.setIfInBounds_toArray, List.set_cons_zero, List.set_cons_succ])
        refine wpAnyH_done (by kernel_rfl) ?_ _
        clear HS0 hHeld
        have hB2 : Below wr.heap.size wr ((wr.alloc (.cells #[.int .u8 u.k, .string u.s, .int .i64 u.n, .slice Au u.l.length cu] 24)).drew) := ((Below.refl _ wr).alloc (Nat.le_refl _) _).drew
        have hN2 : ((wr.alloc (.cells #[.int .u8 u.k, .string u.s, .int .i64 u.n, .slice Au u.l.length cu] 24)).drew).heap[wr.heap.size]? = some (.cells #[.int .u8 u.k, .string u.s, .int .i64 u.n, .slice Au u.l.length cu] 24) := heap_new wr _
        generalize (wr.alloc _).drew = W2 at hB2 hN2 ⊢
        obtain ⟨e0, e1, e2, e3, -, -, -, -⟩ := box4 hN2
        have hB2s := hB2.size
        replace c0 := cell_below hB2 c0 (by omega)
        replace c1 := cell_below hB2 c1 (by omega)
        replace c2 := cell_below hB2 c2 (by omega)
        replace c3 := cell_below hB2 c3 (by omega)
        replace d0 := cell_below hB2 d0 (by omega)
        replace d1 := cell_below hB2 d1 (by omega)
        replace d2 := cell_below hB2 d2 (by omega)
        replace d3 := cell_below hB2 d3 (by omega)
        replace f0 := frozen_below hB2 f0 (by omega)
        replace f1 := frozen_below hB2 f1 (by omega)
        replace f2 := frozen_below hB2 f2 (by omega)
        replace f3 := frozen_below hB2 f3 (by omega)
        replace g0 := frozen_below hB2 g0 (by omega)
        replace g1 := frozen_below hB2 g1 (by omega)
        replace g2 := frozen_below hB2 g2 (by omega)
        replace g3 := frozen_below hB2 g3 (by omega)
        go_wp2
        have hfin := (hB2.mono (Nat.le_trans (Nat.le_add_right _ 2) hszw)).grown (grown_set4 _ w.heap.size (.int .u8 u.k) (.string u.s) (.int .i64 u.n) (.slice Au u.l.length cu)) (by omega) (fun k hk => by injection hk with hk; omega)
        go_roundg (gk - 1)
        case measure => have := HG.out; have := hlt.out; omega
        case rel =>
          refine ⟨m + 1, u, Au, cu, by have := HG.out; have := hlt.out; omega, hsn.out.symm, ?_, hSu, ?_, hb.trans hfin⟩
          · have h0 := (hB2.block w.heap.size (by omega)).trans HBX.out
            simp [World.setCell, Array.getElem?_modify, h0]
          · exact ((grown_set4 _ w.heap.size (.int .u8 u.k) (.string u.s) (.int .i64 u.n) (.slice Au u.l.length cu)).block _ (by omega) (fun he => by injection he; omega)).trans ((hB2.block _ (by omega)).trans HBR.out)
    · have hk' : (x.k == 1) = false := by simpa using hk
      have hres := Lib.hid (HST.out (by simp [nxt, hk]))
      clear HM2 HST HSN HR hk
      go_wp2
      refine bodyPost_ret (v := .agg #[.int .u8 x.k, .string x.s, .int .i64 x.n, .slice A' x.l.length c']) (by simp [results, Tryd.results23, go_sem, d0, d1, d2, d3]) rfl ?_
      have hfin := hb.trans ((Below.refl w.heap.size wr).grown (grown_set4 _ (w.heap.size + 1) (.int .u8 x.k) (.string x.s) (.int .i64 x.n) (.slice A' x.l.length c')) (by omega) (fun k hk => by injection hk with hk; omega))
      exact ⟨⟨_, rfl, by rw [← hres.out]; exact ⟨_, rfl, (Kd.S.below hfin hS').mono (fun _ h => h.1)⟩⟩, hfin⟩
end Go.Proofs.YtgcbanljifalnaaDoor
/- The iterator over the nodes of an applied term: 'each', 'visit', 'Occurs'. Whether a variable occurs: 'Occurs'. Conditions: the arguments read; terms of at most a million nodes, where a statement says so. -/
namespace Go.Proofs.YtgcbanljifalnaaDoor
open Go.RowKit Go.Shelf
attribute [local go_sem] Oper.semAt_some

/-- A node as it is handed to yield: the term, its arguments' slice. -/
structure Nv where
  t : Tm
  A : Option Addr
  c : Nat
def Nv.vals (x : Nv) : Array Value := #[.agg #[.int .u8 x.t.k, .string x.t.s, .int .i64 x.t.n, .slice x.A x.t.l.length x.c]]
theorem Sub.belowN {n₀ : Nat} {w w' : World} {l : Bs} {p b : Nat} (h : Sub w (fun k => k < n₀) l p b) (hp : p < n₀) (hq : b < n₀) (hb : Below n₀ w w') : Sub w' (fun k => k < n₀) l p b :=
  h.move (hb.block _ hp) (hb.block _ hq) (fun t v => tmv_below hb)
theorem grownBy_of_below {w w' : World} (h : Below w.heap.size w w') : w.grownBy w' none := ⟨h.os, h.tape, h.output, h.size, fun k hk _ => h.block k hk⟩
theorem wlk_wf {l : Bs} (hl : ∀ n t, ofB l n = some t → t.Wf) (t : Tm) (h : t.Wf) : (wlk l t).Wf := wlkN_wf hl _ t h
theorem vis_succ (l : Bs) (f : Nat) (t : Tm) : vis l (f + 1) t = wlk l t :: (wlk l t).l.flatMap (vis l f) := rfl

theorem set4_block {W : World} {B : Nat} {t : TypeId} {a' b' c' d' a b c d : Value} (h : W.heap[B]? = some (.cells #[a', b', c', d'] t (0, 0))) : ((((W.setCell ⟨B, 0, none⟩ a).setCell ⟨B, 1, none⟩ b).setCell ⟨B, 2, none⟩ c).setCell ⟨B, 3, none⟩ d).heap[B]? = some (.cells #[a, b, c, d] t (0, 0)) := by
  simp [World.setCell, Array.getElem?_modify, h]
set_option maxRecDepth 100000 in
set_option maxHeartbeats 4000000 in
theorem each_in (lp n₀ N : Nat) (J Jx : List Nv → World → Prop) (B : Nat) (hJa : AbidesFrom B J)
    (hY : ∀ m pre x W, J pre W → pre.length < N → YieldAt Fence.wide m Tryd.prog lp x.vals W fun e W' =>
      (e = .returned (.bool true) ∧ J (pre ++ [x]) W' ∧ KpT n₀ W W') ∨ (e = .returned (.bool false) ∧ Jx (pre ++ [x]) W'))
    (l : Bs) (p b : Nat) (hp : p < n₀) (hq : b < n₀) :
    ∀ (f : Nat) (t : Tm), Fn l f t → ∀ (n : Nat) (v : Value) (pre : List Nv) (W : World), Sub W (fun k => k < n₀) l p b → TmV W (fun k => k < n₀) t v → t.Wf → J pre W → n₀ ≤ W.heap.size → pre.length + (vis l f t).length ≤ N →
      CallsIn Fence.wide n Tryd.prog 159 #[.pointer (some ⟨p, 0, none⟩), v, .func (.yield lp) #[] #[]] W fun e W' =>
        (e = .returned (.bool true) ∧ (∃ xs, xs.map Nv.t = vis l f t ∧ J (pre ++ xs) W') ∧ KpT n₀ W W') ∨ (e = .returned (.bool false) ∧ ∃ xs, xs.map Nv.t <+: vis l f t ∧ Jx (pre ++ xs) W') := by
  intro f
  induction f with
  | zero => intro t hf; exact hf.elim
  | succ f ih =>
  intro t hf n v pre W hs hv hwf hJ hn₀ hN
  obtain ⟨u, rfl, hvS⟩ := hv
  obtain ⟨A0, c0, rfl⟩ := hvS.form
  obtain ⟨O, hO⟩ : ∃ O : Obj, O = .cells #[.int .u8 t.k, .string t.s, .int .i64 t.n, .slice A0 t.l.length c0] 24 := ⟨_, rfl⟩
  have hb1 : Below n₀ W (W.alloc O) := (Below.refl _ W).alloc hn₀ _
  have HWK := Lib.hid (Walk_c l p b t _ (W.alloc O) _ (hs.belowN hp hq hb1) (tmv_below hb1 ⟨_, rfl, hvS⟩) hwf)
  have hxw := wlk_wf hs.wf t hwf
  have hff : ∀ a ∈ (wlk l t).l, Fn l f a := hf
  simp only [vis_succ] at hN ⊢
  generalize wlk l t = x at HWK hxw hff hN ⊢
  subst hO
  have HIH := Lib.hid ih
  have HY := Lib.hid hY
  have HJ := Lib.hid hJ
  have HFF := Lib.hid hff
  have HS := Lib.hid hs
  have HA := Lib.hid hJa
  have HN := Lib.hid hN
  clear hvS hf ih hY hJ hff hs hb1 hJa hN hwf
  refine callsIn_of_wp Tryd.func159 rfl trivial ?_ rfl
  simp only [Tryd.ntmps159, List.size_toArray, List.length_cons, List.length_nil, Nat.reduceAdd, Nat.reduceSub, Array.replicate_succ, Array.replicate_zero, List.push_toArray, List.append_toArray, List.nil_append, List.cons_append]
  gi_wp2_with (first | ((try refine ⟨wide_room _, ?_⟩); refine HR.out.mono ?_; clear HR hy; intro e W4 hh; have hh' := hh.imp (fun h1 => And.intro h1.1 (And.intro h1.2.1 (And.intro h1.2.2 (box4 (h1.2.2.2 _ _ hbx3.out)).2.2.2.1))) id; clear hh; rcases hh' with ⟨rfl, hJ4, hk4, d3⟩ | ⟨rfl, hx4⟩) | (refine ⟨trivial, wide_room _, ?_⟩; gi_at_call 23; refine (callsIn_wide.2 HWK.out).mono ?_; clear HWK; rintro e W2 ⟨⟨u2, rfl, hv2⟩, hb2⟩; obtain ⟨u3, rfl, hvS2⟩ := hv2; obtain ⟨A, c, rfl⟩ := hvS2.form; have hbx := block_below hb2 (by simp) (heap_new W _); obtain ⟨c0, c1, c2, c3, f0, f1, f2, f3⟩ := box4 hbx; have hbW2 : Below W.heap.size W W2 := ((Below.refl _ W).alloc (Nat.le_refl _) _).trans (hb2.mono (by simp)); have hsz2 : W.heap.size + 1 ≤ W2.heap.size := (by have := hb2.size; simpa using this); have hbW3 := Lib.hid (hbW2.grown (grown_set4 W2 W.heap.size (.int .u8 x.k) (.string x.s) (.int .i64 x.n) (.slice A x.l.length c)) (by omega) (fun k hk => (by injection hk with hk; omega))); have hbx3 := Lib.hid (set4_block (a := .int .u8 x.k) (b := .string x.s) (c := .int .i64 x.n) (d := .slice A x.l.length c) hbx); have hvS3 := Lib.hid (Kd.S.grown (grown_set4 W2 W.heap.size (.int .u8 x.k) (.string x.s) (.int .i64 x.n) (.slice A x.l.length c)) (fun k hk he => (by injection he; omega)) hvS2); obtain ⟨fn, tmps, assign, body, hy, hR⟩ := HY.out (n - 1) pre ⟨x, A, c⟩ _ (HA.out pre W _ none HJ.out (grownBy_of_below hbW3.out) (fun r e => (by cases e))) (by have := HN.out; simp at this; omega); simp only [Nv.vals] at hy; have HR := Lib.hid hR; clear hR))
  · have hb4 : Below n₀ W W4 := (hbW3.out.mono hn₀).trans hk4.1
    have hn4 : n₀ ≤ W4.heap.size := Nat.le_trans hn₀ hb4.size
    have hvS4 := tms_below hk4.1 hvS3.out
    have HKT := Lib.hid ((KpT.of_below hbW3.out hn₀).trans hk4)
    obtain ⟨A4, c4, he4, hl, hc, hA⟩ := hvS4
    injection he4 with he1 he2 he3
    subst he1 he3
    clear he2 hvS3 hbx3 hbW3 hb2 hbW2 hsz2 hbx hvS2 c0 c1 c2 c3 f0 f1 f2 f3 HJ
    unfold maxLen at hc
    have HK4 := Lib.hid hb4
    gi_loopw [19] (fun i wr => ∃ j : Nat, j ≤ x.l.length ∧ i = .int .i64 j ∧ (∃ xs, xs.map Nv.t = x :: (x.l.take j).flatMap (vis l f) ∧ J (pre ++ xs) wr) ∧ KpT n₀ W4 wr) (fun i _ => x.l.length - (intOf i).toNat)
    case atStart => exact ⟨0, Nat.zero_le _, rfl, ⟨[⟨x, A, c⟩], by simp, hJ4⟩, ⟨Below.refl _ _, fun _ _ h => h⟩⟩
    case round =>
      obtain ⟨j, hj, rfl, ⟨xs, hxs, hJ5⟩, hk5⟩ := hrel
      have hn5 : n₀ ≤ wr.heap.size := Nat.le_trans hn4 hk5.1.size
      by_cases hlt : j < x.l.length
      · obtain ⟨bb, o, u, rfl, hok, hlo, h0, h1, h2, h3, h4⟩ := tm_elem hA hlt
        have g0 := cell_below hk5.1 h0 hok
        have g1 := cell_below hk5.1 h1 hok
        have g2 := cell_below hk5.1 h2 hok
        have g3 := cell_below hk5.1 h3 hok
        have k4 := tms_below hk5.1 h4
        obtain ⟨Au, cu, rfl⟩ := h4.form
        have hm := List.getElem_mem hlt
        have hxl : xs.length = 1 + ((x.l.take j).flatMap (vis l f)).length := by
          have := congrArg List.length hxs
          simp only [List.length_map, List.length_cons] at this
          omega
        have hnx : (x.l.take (j + 1)).flatMap (vis l f) = (x.l.take j).flatMap (vis l f) ++ vis l f x.l[j] := by rw [take_succ_at x.l hlt, List.flatMap_append]; simp
        have htl : x.l.flatMap (vis l f) = (x.l.take (j + 1)).flatMap (vis l f) ++ (x.l.drop (j + 1)).flatMap (vis l f) := by rw [← List.flatMap_append, List.take_append_drop]
        have hbr : Below n₀ W (wr.alloc (.cells #[.int .u8 x.l[j].k, .string x.l[j].s, .int .i64 x.l[j].n, .slice Au x.l[j].l.length cu] 24)) := (HK4.out.trans hk5.1).alloc hn5 _
        have hi := HIH.out x.l[j] (HFF.out _ hm) (n - 1) _ (pre ++ xs) (wr.alloc (.cells #[.int .u8 x.l[j].k, .string x.l[j].s, .int .i64 x.l[j].n, .slice Au x.l[j].l.length cu] 24)) (HS.out.belowN hp hq hbr) (tmv_below ((Below.refl _ wr).alloc hn5 _) ⟨_, rfl, k4⟩) (WfL_at hxw.parts.2.2.2 hlt) (HA.out _ wr _ none hJ5 (World.grownBy_alloc wr _ none) (fun r e => by cases e)) (by simp; omega) (by have := HN.out; rw [htl, hnx] at this; simp only [List.length_append, List.length_cons] at this ⊢; omega)
        have HI := Lib.hid hi
        have HNX := Lib.hid hnx
        have HXS := Lib.hid hxs
        have HTL := Lib.hid htl
        have HXL := Lib.hid hxl
        generalize x.l[j] = y at g0 g1 g2 g3 k4 HI HNX
        clear hA h0 h1 h2 h3 h4 hi hnx hxs htl hxl hbr
        gi_wp2_with (refine ⟨trivial, wide_room _, ?_⟩; gi_at_call 159; refine HI.out.mono ?_; clear HI; rintro e W5 (⟨rfl, ⟨ys, hys, hJ6⟩, hk6⟩ | ⟨rfl, ys, hys, hx6⟩))
        · gi_wp2
          go_roundw
          case rel => exact ⟨j + 1, by omega, by go_num, ⟨xs ++ ys, by rw [List.map_append, HXS.out, hys, HNX.out]; simp, by rw [← List.append_assoc]; exact hJ6⟩, hk5.trans ((KpT.of_below ((Below.refl _ wr).alloc (Nat.le_refl _) _) hn5).trans hk6)⟩
          case measure => simp [intOf]; omega
        · gi_wp2
          go_ret
          obtain ⟨rest, hrest⟩ := hys
          refine .inr ⟨rfl, xs ++ ys, ⟨rest ++ (x.l.drop (j + 1)).flatMap (vis l f), ?_⟩, by rw [← List.append_assoc]; exact hx6⟩
          rw [List.map_append, HXS.out, HTL.out, HNX.out, ← hrest]
          simp
      · have HXS := Lib.hid hxs
        clear hxs hA
        gi_wp2
        go_ret
        refine .inl ⟨rfl, ⟨xs, by rw [HXS.out, List.take_of_length_le (by omega)], hJ5⟩, ?_⟩
        exact HKT.out.trans hk5
  · go_ret
    exact .inr ⟨rfl, [⟨x, A, c⟩], ⟨x.l.flatMap (vis l f), by simp⟩, hx4⟩

set_option maxHeartbeats 1000000 in
theorem visit1_stops (n n₀ Bs' Bt : Nat) (l : Bs) (p b f : Nat) (t : Tm) (A : Option Addr) (c : Nat) (w : World) (hn₀ : n₀ ≤ w.heap.size) (hp : p < n₀) (hq : b < n₀) (hs : Sub w (fun k => k < n₀) l p b) (hf : Fn l f t) (hv : Kd.tm.S w (fun k => k < n₀) t.l (.slice A t.l.length c)) (hwf : t.Wf)
    (hbs : w.heap[Bs']? = some (.cells #[.pointer (some ⟨p, 0, none⟩)] 41 (0, 0)))
    (hbt : w.heap[Bt]? = some (.cells #[.int .u8 t.k, .string t.s, .int .i64 t.n, .slice A t.l.length c] 24 (0, 0))) :
    SeqStopsK Fence.wide n Tryd.prog 158 #[.pointer (some ⟨Bs', 0, none⟩), .pointer (some ⟨Bt, 0, none⟩)] Nv.vals (KpT n₀) (fun xs => xs.map Nv.t = vis l f t) (fun pre => pre.map Nv.t <+: vis l f t) (vis l f t).length w := by
  intro lp J Jx W hW hJ hJx hY h0
  have hbW : W.heap[Bt]? = _ := block_below hW (Array.getElem?_eq_some_iff.1 hbt).1 hbt
  have hbS : W.heap[Bs']? = _ := block_below hW (Array.getElem?_eq_some_iff.1 hbs).1 hbs
  obtain ⟨c0, c1, c2, c3, -, -, -, -⟩ := box4 hbW
  have d0 : W.cell? ⟨Bs', 0, none⟩ = some (.pointer (some ⟨p, 0, none⟩)) := by
    unfold World.cell?
    simp only [hbS]
    rfl
  have hV : TmV W (fun b => b < n₀) t (.agg #[.int .u8 t.k, .string t.s, .int .i64 t.n, .slice A t.l.length c]) := tmv_below (hW.mono hn₀) ⟨_, rfl, hv⟩
  have HW := Lib.hid (each_in lp n₀ (vis l f t).length J Jx W.heap.size hJ (fun m pre x W1 hj hlt => YieldAt.any m (hY pre x W1 hj hlt)) l p b hp hq f t hf (n - 1) _ [] W (hs.belowN hp hq (hW.mono hn₀)) hV hwf h0 (Nat.le_trans hn₀ hW.size) (by simp))
  clear hY hbW hbS hs hv hbs hbt hf
  refine callsIn_of_wp Tryd.func158 rfl trivial ?_ rfl
  simp only [Tryd.ntmps158, List.size_toArray, List.length_cons, List.length_nil, Nat.reduceAdd, Nat.reduceSub, Array.replicate_succ, Array.replicate_zero, List.push_toArray, List.append_toArray, List.nil_append, List.cons_append]
  gi_wp2_with (refine ⟨trivial, wide_room _, ?_⟩; gi_at_call 159; refine HW.out.mono ?_; clear HW; rintro e W1 (⟨rfl, ⟨xs, hxs, hJ1⟩, hk1⟩ | ⟨rfl, xs, hxs, hx1⟩))
  · go_end0
    exact ⟨⟨_, rfl⟩, .inl ⟨xs, hxs, by simpa using hJ1⟩⟩
  · go_end0
    exact ⟨⟨_, rfl⟩, .inr ⟨xs, hxs, by simpa using hx1⟩⟩

/-- 'visit(t)': the substitution and the term are boxed; the function value captures the boxes. -/
theorem visit_in (n : Nat) (p : Nat) (k q : Int) (s : ByteArray) (A : Option Addr) (m c : Nat) (w : World) :
    CallsIn Fence.wide n Tryd.prog 157 #[.pointer (some ⟨p, 0, none⟩), .agg #[.int .u8 k, .string s, .int .i64 q, .slice A m c]] w fun e w' => e = .returned (.func (.func 158) #[] #[.pointer (some ⟨w.heap.size, 0, none⟩), .pointer (some ⟨w.heap.size + 1, 0, none⟩)]) ∧ w' = (w.alloc (.cells #[.pointer (some ⟨p, 0, none⟩)] 41)).alloc (.cells #[.int .u8 k, .string s, .int .i64 q, .slice A m c] 24) := by
  refine callsIn_of_wp Tryd.func157 rfl trivial ?_ rfl
  simp only [Tryd.ntmps157, List.size_toArray, List.length_cons, List.length_nil, Nat.reduceAdd, Nat.reduceSub, Array.replicate_succ, Array.replicate_zero, List.push_toArray, List.append_toArray, List.nil_append, List.cons_append]
  gi_wp2
  go_ret
  exact ⟨by first | rfl | simp, by first | rfl | simp⟩

open Go.RowKit Go.Shelf
attribute [local go_sem] Oper.semAt_some

/-- What the loop leaves with. -/
def OccFin (v : Int) (pre : List Nv) (r : Bool × Int) : Prop :=
  (4096 < pre.length ∧ (∀ x ∈ pre.take 4096, isv v x.t = false) ∧ r = (false, 31)) ∨ ((∃ x ∈ pre.take 4096, isv v x.t = true) ∧ r = (true, 0))
theorem occE_fin {v : Int} {pre : List Nv} {P : List Tm} {r : Bool × Int} (h : OccFin v pre r) (hp : pre.map Nv.t <+: P) : occE P v = r := by
  obtain ⟨rest, rfl⟩ := hp
  unfold occE
  rcases h with ⟨h1, h2, rfl⟩ | ⟨⟨x, hx, hi⟩, rfl⟩
  · have hl : 4096 ≤ (pre.map Nv.t).length := by simp; omega
    rw [List.take_append_of_le_length hl, if_neg, if_pos (by simp; omega)]
    rw [← List.map_take]
    simp only [List.any_map, List.any_eq_true, Function.comp, not_exists, not_and, Bool.not_eq_true]
    exact h2
  · rw [if_pos]
    rw [List.take_append, List.any_append, ← List.map_take]
    simp only [List.any_map, Bool.or_eq_true]
    exact .inl (List.any_eq_true.2 ⟨x, hx, hi⟩)
theorem occE_done {v : Int} {xs : List Nv} {P : List Tm} (h : xs.map Nv.t = P) (hl : xs.length ≤ 4096) (hn : ∀ x ∈ xs, isv v x.t = false) : occE P v = (false, 0) := by
  subst h
  unfold occE
  rw [if_neg, if_neg (by simp; omega)]
  rw [List.take_of_length_le (by simp; omega)]
  simp only [List.any_map, List.any_eq_true, Function.comp, not_exists, not_and, Bool.not_eq_true]
  exact hn
theorem heap_at' (w : World) (o : Obj) (k : Nat) (h : k = w.heap.size) : (w.alloc o).heap[k]? = some o := by subst h; exact heap_new w o
theorem boxed_ne {W : World} {B B' : Nat} {t : TypeId} {u : Value} {cs : Array Value} (h : Boxed W B t u) (h' : W.heap[B']? = some (.cells cs 24 (0, 0))) (ht : t ≠ 24) : B' ≠ B := fun e => by
  subst e
  rw [show W.heap[B']? = _ from h] at h'
  injection h' with h'
  injection h' with _ h'
  exact ht h'
theorem boxed_put {W : World} {B D : Nat} {t : TypeId} {u : Value} (h : Boxed W B t u) (hD : W.heap[D]? = some (.deferred (some []))) (o' : Obj) : Boxed (W.putObj D o') B t u :=
  (World.putObj_heap_other (fun e => by
    subst e
    rw [show W.heap[B]? = _ from h] at hD
    cases hD)).trans h
theorem boxedFrom {β : Type} (B' B : Nat) (t : TypeId) (u : Value) : OwnFrom B' (fun (_ : β) W => Boxed W B t u) := Own.from (boxed_own B t (fun _ => u)) _

set_option maxRecDepth 100000 in
set_option maxHeartbeats 4000000 in
theorem Occurs_in (n : Nat) (hn : 3 ≤ n) (l : Bs) (p b f : Nat) (q : Int) (t : Tm) (v : Value) (w : World) (ok : Nat → Prop) (hs : Sub w ok l p b) (hv : TmV w ok t v) (hwf : t.Wf) (hf : Fn l f t) :
    CallsIn Fence.wide n Tryd.prog 156 #[.pointer (some ⟨p, 0, none⟩), .int .i64 q, v] w fun e w' => e = .returned (.tuple #[.bool (occE (vis l f t) q).1, .int .i64 (occE (vis l f t) q).2]) ∧ Below w.heap.size w w' := by
  have h1 : 1 ≤ n := by omega
  have hv0 : TmV w (fun b => b < w.heap.size) t v := (TmV.bound hv).mono (fun _ h => h.2)
  have hs0 : Sub w (fun b => b < w.heap.size) l p b := hs.bound.mono (fun _ h => h.2)
  obtain ⟨hp, hq⟩ := hs.lt
  obtain ⟨u, rfl, hvS⟩ := hv0
  obtain ⟨A, c, rfl⟩ := hvS.form
  have HS := Lib.hid hs0
  have HV := Lib.hid hvS
  have HF := Lib.hid hf
  clear hs hv hvS hs0 hf
  obtain ⟨O, hO⟩ : ∃ O : Obj, O = .cells #[.int .u8 t.k, .string t.s, .int .i64 t.n, .slice A t.l.length c] 24 := ⟨_, rfl⟩
  refine callsIn_of_wp_marks Tryd.func156 rfl trivial ?_ rfl
  simp only [Tryd.ntmps156, List.size_toArray, List.length_cons, List.length_nil, Nat.reduceAdd, Nat.reduceSub, Array.replicate_succ, Array.replicate_zero, List.push_toArray, List.append_toArray, List.nil_append, List.cons_append]
  gi_wp2_with (refine ⟨trivial, ?_⟩; gi_at_call 157; refine (visit_in (n - 1) _ _ _ _ _ _ _ _).mono ?_; rintro e w' ⟨rfl, rfl⟩)
  obtain ⟨W0, hW0⟩ : ∃ W0, W0 = (((((((w.alloc (.cells #[.int .i64 q] 2)).alloc O).alloc (.cells #[.bool false] 4)).alloc (.cells #[.int .i64 0] 43)).alloc (.cells #[.int .i64 0] 3)).alloc (.cells #[.pointer (some ⟨p, 0, none⟩)] 41)).alloc O) := ⟨_, rfl⟩
  have hs1 : Below w.heap.size w W0 := by
    rw [hW0]
    exact (((((((Below.refl _ w).alloc (Nat.le_refl _) _).alloc (by simp) _).alloc (by simp; omega) _).alloc (by simp; omega) _).alloc (by simp; omega) _).alloc (by simp; omega) _).alloc (by simp; omega) _
  have hsz0 : W0.heap.size = w.heap.size + 7 := by rw [hW0]; simp
  have hxq : Boxed W0 w.heap.size 2 (.int .i64 q) := by rw [hW0]; unfold Boxed; repeat (first | exact heap_at' _ _ _ (by simp) | refine (Below.heap_alloc _ _ _ (by simp <;> omega)).trans ?_)
  have hxb : Boxed W0 (w.heap.size + 1 + 1) 4 (.bool false) := by rw [hW0]; unfold Boxed; repeat (first | exact heap_at' _ _ _ (by simp) | refine (Below.heap_alloc _ _ _ (by simp <;> omega)).trans ?_)
  have hxe : Boxed W0 (w.heap.size + 1 + 1 + 1) 43 (.int .i64 0) := by rw [hW0]; unfold Boxed; repeat (first | exact heap_at' _ _ _ (by simp) | refine (Below.heap_alloc _ _ _ (by simp <;> omega)).trans ?_)
  have hxn : Boxed W0 (w.heap.size + 1 + 1 + 1 + 1) 3 (.int .i64 ((0 : Nat) : Int)) := by rw [hW0]; unfold Boxed; repeat (first | exact heap_at' _ _ _ (by simp) | refine (Below.heap_alloc _ _ _ (by simp <;> omega)).trans ?_)
  have hbs : W0.heap[w.heap.size + 1 + 1 + 1 + 1 + 1]? = some (.cells #[.pointer (some ⟨p, 0, none⟩)] 41 (0, 0)) := by rw [hW0]; repeat (first | exact heap_at' _ _ _ (by simp) | refine (Below.heap_alloc _ _ _ (by simp <;> omega)).trans ?_)
  have hbt : W0.heap[w.heap.size + 1 + 1 + 1 + 1 + 1 + 1]? = some O := by rw [hW0]; repeat (first | exact heap_at' _ _ _ (by simp) | refine (Below.heap_alloc _ _ _ (by simp <;> omega)).trans ?_)
  subst hO
  rw [← hW0]
  clear hW0
  refine wpIn_rangeFunc_ownH rfl h1 (gf := 158) (lb := #[.pointer (some ⟨w.heap.size + 1 + 1 + 1 + 1 + 1, 0, none⟩), .pointer (some ⟨w.heap.size + 1 + 1 + 1 + 1 + 1 + 1, 0, none⟩)]) rfl trivial (enters_of Tryd.func158 (by kernel_rfl) rfl)
    (visit1_stops (n - 1) w.heap.size _ _ l p b f t A c W0 (by omega) hp hq (HS.out.belowN hp hq hs1) HF.out (tms_below hs1 HV.out) hwf hbs hbt) (fun h k => h.trans k) (KpT.put (by omega)) (Below.refl _ _) (fun _ => rfl)
    (fun pre W => Boxed W (w.heap.size + 1 + 1 + 1 + 1) 3 (.int .i64 ((pre.length : Nat) : Int)) ∧ Boxed W (w.heap.size + 1 + 1) 4 (.bool false) ∧ Boxed W (w.heap.size + 1 + 1 + 1) 43 (.int .i64 0) ∧ Boxed W w.heap.size 2 (.int .i64 q) ∧ Below w.heap.size w W ∧ (pre.length ≤ 4096 ∧ ∀ x ∈ pre, isv q x.t = false))
    (fun cd pre W => ∃ r : Bool × Int, Boxed W (w.heap.size + 1 + 1) 4 (.bool r.1) ∧ Boxed W (w.heap.size + 1 + 1 + 1) 43 (.int .i64 r.2) ∧ Below w.heap.size w W ∧ (cd = .ret ∧ OccFin q pre r))
    (OwnFrom.and (Own.from (boxed_own (w.heap.size + 1 + 1 + 1 + 1) 3 (fun pre : List Nv => .int .i64 ((pre.length : Nat) : Int))) _) (OwnFrom.and (boxedFrom _ _ _ _) (OwnFrom.and (boxedFrom _ _ _ _) (OwnFrom.and (boxedFrom _ _ _ _) (OwnFrom.and (ownFrom_below (Nat.le_refl _) (by omega)) (ownFrom_pure _ _))))))
    (fun cd pre X Y row ⟨r, h1, h2, h3, h4⟩ hg hr => ⟨r, boxedFrom (β := Unit) _ _ _ _ () X Y row h1 hg hr, boxedFrom (β := Unit) _ _ _ _ () X Y row h2 hg hr, ownFrom_below (β := Unit) (Nat.le_refl _) (by omega) () X Y row h3 hg hr, h4⟩)
    ⟨hxn, hxb, hxe, hxq, hs1, by simp⟩
    (fun x a' W' => ∃ Bt, W'.heap[Bt]? = some (.cells #[.int .u8 x.t.k, .string x.t.s, .int .i64 x.t.n, .slice x.A x.t.l.length x.c] 24 (0, 0)) ∧ a' = { tmps := #[.pointer (some ⟨p, 0, none⟩), .int .i64 q, .agg #[.int .u8 t.k, .string t.s, .int .i64 t.n, .slice A t.l.length c], undef, .pointer (some ⟨w.heap.size, 0, none⟩), .pointer (some ⟨w.heap.size + 1, 0, none⟩), .pointer (some ⟨w.heap.size + 1 + 1, 0, none⟩), .pointer (some ⟨w.heap.size + 1 + 1 + 1, 0, none⟩), .pointer (some ⟨w.heap.size + 1 + 1 + 1 + 1, 0, none⟩), .pointer (some ⟨Bt, 0, none⟩), .pointer (some ⟨p, 0, none⟩), .bool false, .pointer (some ⟨p, 0, none⟩), .agg #[.int .u8 t.k, .string t.s, .int .i64 t.n, .slice A t.l.length c], .func (.func 158) #[] #[.pointer (some ⟨w.heap.size + 1 + 1 + 1 + 1 + 1, 0, none⟩), .pointer (some ⟨w.heap.size + 1 + 1 + 1 + 1 + 1 + 1, 0, none⟩)], .agg #[.int .u8 x.t.k, .string x.t.s, .int .i64 x.t.n, .slice x.A x.t.l.length x.c], undef, undef, undef, undef, undef, undef, undef, undef, undef, undef, undef, undef, undef], defers := [] })
    ?ax ?assign ?body ?done ?stop
  case ax =>
    rintro x a' s X Y row ⟨Bt, hBt, ha⟩ hg hr
    exact ⟨Bt, (hg.block Bt (Array.getElem?_eq_some_iff.1 hBt).1 (fun e => by obtain ⟨_, o, ho, hc⟩ := hr Bt e.symm; rw [hBt] at ho; cases ho; cases hc)).trans hBt, ha⟩
  case assign =>
    rintro lo pre x W K ⟨hbn, hbb, hbe, hbq, hb, hfin⟩ hK
    have HFIN := Lib.hid hfin
    have hWs := Lib.hid hb.size
    have HKP := Lib.hid (KpT.of_below ((Below.refl _ W).alloc (Nat.le_refl _) (.cells #[.int .u8 x.t.k, .string x.t.s, .int .i64 x.t.n, .slice x.A x.t.l.length x.c] 24)) hb.size)
    clear hfin
    simp [Nv.vals]
    gi_wp2
    exact hK _ _ (KeepsFrom.of_grownBy (World.grownBy_alloc W _ none) (fun _ e => by cases e)) HKP.out ⟨hbn.alloc _, hbb.alloc _, hbe.alloc _, hbq.alloc _, hb.alloc hb.size _, HFIN.out⟩ ⟨_, heap_new W _, rfl⟩
  case body =>
    rintro lo pre x a' W3 hlo' hloop ⟨hbn, hbb, hbe, hbq, hb, hfin⟩ ⟨Bt, hBx, rfl⟩ hlt'
    obtain ⟨c0, c1, c2, c3, -, -, -, -⟩ := box4 hBx
    have hne := boxed_ne hbn hBx (by decide)
    have hcn := hbn.cell
    have hfn := hbn.frozen
    have hcb := hbb.cell
    have hfb := hbb.frozen
    have hce := hbe.cell
    have hfe := hbe.frozen
    have hcq := hbq.cell
    have hpl : (pre.length : Int) ≤ 4096 := by have := hfin.1; omega
    have HFIN := Lib.hid hfin
    have hlen : ((pre ++ [x]).length : Int) = (pre.length : Int) + 1 := by simp
    clear hfin
    by_cases hfull : (4096 : Int) < (pre.length : Int) + 1
    · have hdec : decide ((4096 : Int) < (pre.length : Int) + 1) = true := by simpa using hfull
      clear hlen
      gi_wp2
      have hlx : pre.length = 4096 := by have := HFIN.out.1; omega
      refine ⟨((KeepsOthers.setCell _ _ _).from _).trans (((KeepsOthers.setCell _ _ _).from _).trans ((KeepsOthers.setCell _ _ _).from _)), (false, 31), ?_, ?_, ?_, rfl, .inl ⟨by simp; omega, ?_, rfl⟩⟩
      · exact ((hbb.other (by omega) _).set _).other (by omega) _
      · exact ((hbe.other (by omega) _).other (by omega) _).set _
      · exact ((hb.setCell (p := ⟨w.heap.size + 1 + 1 + 1 + 1, 0, none⟩) (by simp; omega) _).setCell (p := ⟨w.heap.size + 1 + 1, 0, none⟩) (by simp; omega) _).setCell (p := ⟨w.heap.size + 1 + 1 + 1, 0, none⟩) (by simp; omega) _
      · intro y hy
        rw [List.take_append_of_le_length (by omega)] at hy
        exact HFIN.out.2 y (List.mem_of_mem_take hy)
    · have hdec : decide ((4096 : Int) < (pre.length : Int) + 1) = false := by simpa using hfull
      have hpl2 : pre.length < 4096 := by omega
      by_cases hk : x.t.k = 1
      · by_cases hn' : x.t.n = q
        · clear hlen hfull
          subst hn'
          gi_wp2
          refine ⟨((KeepsOthers.setCell _ _ _).from _).trans (((KeepsOthers.setCell _ _ _).from _).trans ((KeepsOthers.setCell _ _ _).from _)), (true, 0), ?_, ?_, ?_, rfl, .inr ⟨⟨x, ?_, by simp [isv, hk]⟩, rfl⟩⟩
          · exact ((hbb.other (by omega) _).set _).other (by omega) _
          · exact ((hbe.other (by omega) _).other (by omega) _).set _
          · exact ((hb.setCell (p := ⟨w.heap.size + 1 + 1 + 1 + 1, 0, none⟩) (by simp; omega) _).setCell (p := ⟨w.heap.size + 1 + 1, 0, none⟩) (by simp; omega) _).setCell (p := ⟨w.heap.size + 1 + 1 + 1, 0, none⟩) (by simp; omega) _
          · rw [List.take_of_length_le (by simp; omega)]; simp
        · have hn2 : (x.t.n == q) = false := by simpa using hn'
          clear hfull
          gi_wp2
          refine ⟨(KeepsOthers.setCell _ _ _).from _, kpT_set (by have := hb.size; omega) hbn (by decide) (by omega) _, ?_, hbb.other (by omega) _, hbe.other (by omega) _, hbq.other (by omega) _, hb.setCell (p := ⟨w.heap.size + 1 + 1 + 1 + 1, 0, none⟩) (by simp; omega) _, by simp; omega, ?_⟩
          · rw [hlen]; exact hbn.set _
          · intro y hy
            rcases List.mem_append.1 hy with hy | hy
            · exact HFIN.out.2 y hy
            · rw [List.mem_singleton] at hy; subst hy; simp [isv, hn']
      · have hk2 : (x.t.k == 1) = false := by simpa using hk
        clear hfull
        gi_wp2
        refine ⟨(KeepsOthers.setCell _ _ _).from _, kpT_set (by have := hb.size; omega) hbn (by decide) (by omega) _, ?_, hbb.other (by omega) _, hbe.other (by omega) _, hbq.other (by omega) _, hb.setCell (p := ⟨w.heap.size + 1 + 1 + 1 + 1, 0, none⟩) (by simp; omega) _, by simp; omega, ?_⟩
        · rw [hlen]; exact hbn.set _
        · intro y hy
          rcases List.mem_append.1 hy with hy | hy
          · exact HFIN.out.2 y hy
          · rw [List.mem_singleton] at hy; subst hy; simp [isv, hk]
  case done =>
    rintro D xs W hD hxs ⟨hbn, hbb, hbe, hbq, hb, hfin⟩ hK
    have hcb := hbb.cell
    have hfb := hbb.frozen
    have hce := hbe.cell
    have hfe := hbe.frozen
    have hres := Lib.hid (occE_done hxs hfin.1 hfin.2)
    clear hxs hfin
    gi_wp2
    have hb6 := (hbb.set (.bool false)).other (B' := w.heap.size + 1 + 1 + 1) (by omega) (.int .i64 0)
    have hb7 := (hbe.other (B' := w.heap.size + 1 + 1) (by omega) (.bool false)).set (.int .i64 0)
    have hK2 := ((Below.heap_setCell (W.setCell ⟨w.heap.size + 1 + 1, 0, none⟩ (.bool false)) ⟨w.heap.size + 1 + 1 + 1, 0, none⟩ (.int .i64 0) D (by simp; omega)).trans (Below.heap_setCell W ⟨w.heap.size + 1 + 1, 0, none⟩ (.bool false) D (by simp; omega))).trans hK
    have hb8 := (hb.setCell (p := ⟨w.heap.size + 1 + 1, 0, none⟩) (by simp; omega) (.bool false)).setCell (p := ⟨w.heap.size + 1 + 1 + 1, 0, none⟩) (by simp; omega) (.int .i64 0)
    have e6 := (boxed_put hb6 hK2 (.deferred none)).cell
    have e7 := (boxed_put hb7 hK2 (.deferred none)).cell
    refine ⟨by simp, .inl ⟨_, _, rfl, run_takeDeferred hK2, ?_⟩⟩
    exact ⟨.tuple #[.bool false, .int .i64 0], by simp [results, Tryd.results156, go_sem, e6, e7], by rw [hres.out], hb8.trans (belowK_b (w := w) (Nat.le_refl _) _ D _ _ (by omega) hK2 rfl rfl)⟩
  case stop =>
    rintro D cd pre W hD hpre ⟨r, hbb, hbe, hb, rfl, hfin⟩ hK
    have hres := Lib.hid (occE_fin hfin hpre)
    clear hpre hfin
    gi_wp2
    have e6 := (boxed_put hbb hK (.deferred none)).cell
    have e7 := (boxed_put hbe hK (.deferred none)).cell
    refine ⟨by simp, .inl ⟨_, _, rfl, run_takeDeferred hK, ?_⟩⟩
    exact ⟨.tuple #[.bool r.1, .int .i64 r.2], by simp [results, Tryd.results156, go_sem, e6, e7], by rw [hres.out], hb.trans (belowK_b (w := w) (Nat.le_refl _) _ D _ _ (by omega) hK rfl rfl)⟩
theorem Occurs_c (l : Bs) (p b f : Nat) (q : Int) (t : Tm) (v : Value) (w : World) (ok : Nat → Prop) (hs : Sub w ok l p b) (hv : TmV w ok t v) (hwf : t.Wf) (hf : Fn l f t) :
    Calls Tryd.prog 156 #[.pointer (some ⟨p, 0, none⟩), .int .i64 q, v] w fun e w' => e = .returned (.tuple #[.bool (occE (vis l f t) q).1, .int .i64 (occE (vis l f t) q).2]) ∧ Below w.heap.size w w' := callsIn_wide.1 (Occurs_in 3 (Nat.le_refl _) l p b f q t v w ok hs hv hwf hf)
end Go.Proofs.YtgcbanljifalnaaDoor

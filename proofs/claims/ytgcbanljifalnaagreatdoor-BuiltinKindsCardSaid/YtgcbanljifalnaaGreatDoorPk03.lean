import Derived.Test.YtgcbanljifalnaaGreatDoorPk02
import Derived.Deep.LoopGhost
import Derived.Deep.RegionHeld3
import Derived.RangeFuncNested
import Derived.RangeFuncBound
import Derived.RangeFuncCalls
import Derived.RangeFuncLeaves
import Derived.Shelf.Abstract
import Derived.Shelf.RegionOpen
import Derived.OwnWalkIn
import Derived.TacticsInMore
import Derived.LoopNIn
import Derived.LoopIn
import Derived.Maps.OwnIn
set_option linter.unusedVariables false
set_option maxRecDepth 20000
set_option linter.unusedSimpArgs false
/- Substitutions in memory; terms walked. Conditions: the arguments read. -/
namespace Go.Proofs.YtgcbanljifalnaaGreatDoor
open Go.RowKit

/-- The term that is none. -/
def tm0 : Tm := ⟨0, ⟨#[]⟩, 0, []⟩
mutual
theorem TmK.apart {w : World} {ok : Nat → Prop} {m : Nat} (hm : ∀ c t f, w.heap[m]? ≠ some (.cells c t f)) : ∀ (t : Tm) (cs : List Value), TmK w ok t cs → TmK w (fun b => ok b ∧ b ≠ m) t cs
  | ⟨k, s, n, l⟩, cs, h => by
    simp only [TmK] at h ⊢
    obtain ⟨A, c, e, h1, h2, h3⟩ := h
    refine ⟨A, c, e, h1, h2, ?_⟩
    by_cases hx : l = []
    · refine .inl ⟨hx, ?_⟩
      rcases h3 with h3 | ⟨b, o, ha, _⟩
      · exact h3.2
      · intro hn; rw [ha] at hn; cases hn
    · obtain ⟨b, o, ha, hb, ht⟩ := h3.resolve_left (fun h => hx h.1)
      exact .inr ⟨b, o, ha, ⟨hb, TmL.head_ne hm ht hx⟩, TmL.apart hm l b o ht⟩
theorem TmL.apart {w : World} {ok : Nat → Prop} {m : Nat} (hm : ∀ c t f, w.heap[m]? ≠ some (.cells c t f)) : ∀ (l : List Tm) (b o : Nat), TmL w ok l b o → TmL w (fun b => ok b ∧ b ≠ m) l b o
  | [], _, _, _ => by simp only [TmL]
  | t :: ts, b, o, h => by
    simp only [TmL] at h ⊢
    obtain ⟨⟨cs, hk, hc⟩, hr⟩ := h
    exact ⟨⟨cs, TmK.apart hm t cs hk, hc⟩, TmL.apart hm ts b (o + 4) hr⟩
theorem TmL.head_ne {w : World} {ok : Nat → Prop} {l : List Tm} {b o m : Nat} (hm : ∀ c t f, w.heap[m]? ≠ some (.cells c t f)) (h : TmL w ok l b o) (hx : l ≠ []) : b ≠ m := by
  cases l with
  | nil => exact absurd rfl hx
  | cons t ts =>
    simp only [TmL] at h
    obtain ⟨⟨cs, hk, hc⟩, _⟩ := h
    have hl := TmK.len hk
    cases cs with
    | nil => simp at hl
    | cons c cs =>
      rintro rfl
      have h0 := hc 0 c rfl
      unfold World.cell? at h0
      simp only at h0
      cases h0
end
theorem TmV.apart {w : World} {ok : Nat → Prop} {t : Tm} {v : Value} {m : Nat} (hm : ∀ c t f, w.heap[m]? ≠ some (.cells c t f)) (h : TmV w ok t v) : TmV w (fun b => ok b ∧ b ≠ m) t v := by
  obtain ⟨u, e, hs⟩ := h
  have := TmK.apart hm t _ (TmK_iff.2 ⟨u, rfl, hs⟩)
  obtain ⟨u', e', hs'⟩ := TmK_iff.1 this
  injection e' with _ e'
  injection e' with _ e'
  injection e' with _ e'
  injection e' with e' _
  subst e'
  exact ⟨u, e, hs'⟩
theorem TmV.grown {w w' : World} {ok : Nat → Prop} {t : Tm} {v : Value} {row : Option Nat} (hg : w.grownBy w' row) (hok : ∀ b, ok b → some b ≠ row) (h : TmV w ok t v) : TmV w' ok t v := let ⟨u, e, hs⟩ := h; ⟨u, e, Kd.S.grown hg hok hs⟩

/-- A substitution: a struct in block p that holds the map in block b; the bindings are l's. -/
structure Sub (w : World) (ok : Nat → Prop) (l : Bs) (p b : Nat) : Prop where
  cell : w.heap[p]? = some (.cells #[.map (some b)] 77 (0, 0))
  map : ∃ M, MapAt w b M l.length ∧ ∀ n, (ofB l n = none → M n = none) ∧ ∀ t, ofB l n = some t → ∃ v, M n = some v ∧ TmV w ok t v
  acyc : Acyc l
  wf : ∀ n t, ofB l n = some t → t.Wf
theorem Sub.move {w w' : World} {ok : Nat → Prop} {l : Bs} {p b : Nat} (h : Sub w ok l p b) (hp : w'.heap[p]? = w.heap[p]?) (hb : w'.heap[b]? = w.heap[b]?) (ht : ∀ t v, TmV w ok t v → TmV w' ok t v) : Sub w' ok l p b := by
  obtain ⟨h1, ⟨M, hM, hM2⟩, h3, h4⟩ := h
  exact ⟨hp.trans h1, ⟨M, hM.move hb, fun n => ⟨(hM2 n).1, fun t hn => by obtain ⟨v, hv, hv2⟩ := (hM2 n).2 t hn; exact ⟨v, hv, ht _ _ hv2⟩⟩⟩, h3, h4⟩
theorem Sub.lt {w : World} {ok : Nat → Prop} {l : Bs} {p b : Nat} (h : Sub w ok l p b) : p < w.heap.size ∧ b < w.heap.size :=
  ⟨(Array.getElem?_eq_some_iff.1 h.cell).1, by obtain ⟨M, hM, _⟩ := h.map; exact hM.lt⟩
theorem Sub.below {w w' : World} {ok : Nat → Prop} {l : Bs} {p b : Nat} (h : Sub w ok l p b) (hb : Below w.heap.size w w') : Sub w' ok l p b :=
  h.move (hb.block _ h.lt.1) (hb.block _ h.lt.2) (fun t v => TmV.below hb)
theorem Sub.mono {w : World} {ok ok' : Nat → Prop} {l : Bs} {p b : Nat} (h : Sub w ok l p b) (hm : ∀ k, ok k → ok' k) : Sub w ok' l p b := by
  obtain ⟨h1, ⟨M, hM, hM2⟩, h3, h4⟩ := h
  exact ⟨h1, ⟨M, hM, fun n => ⟨(hM2 n).1, fun t hn => by obtain ⟨v, hv, hv2⟩ := (hM2 n).2 t hn; exact ⟨v, hv, hv2.mono hm⟩⟩⟩, h3, h4⟩
theorem Sub.grown {w w' : World} {ok : Nat → Prop} {l : Bs} {p b : Nat} {row : Option Nat} (h : Sub w ok l p b) (hg : w.grownBy w' row) (hok : ∀ k, ok k → some k ≠ row) (hp : some p ≠ row) (hb : some b ≠ row) : Sub w' ok l p b :=
  h.move (hg.block p h.lt.1 hp) (hg.block b h.lt.2 hb) (fun t v => TmV.grown hg hok)
theorem Sub.bound {w : World} {ok : Nat → Prop} {l : Bs} {p b : Nat} (h : Sub w ok l p b) : Sub w (fun k => ok k ∧ k < w.heap.size) l p b := by
  obtain ⟨h1, ⟨M, hM, hM2⟩, h3, h4⟩ := h
  exact ⟨h1, ⟨M, hM, fun n => ⟨(hM2 n).1, fun t hn => by obtain ⟨v, hv, hv2⟩ := (hM2 n).2 t hn; exact ⟨v, hv, hv2.bound⟩⟩⟩, h3, h4⟩
theorem Sub.len_le {w : World} {ok : Nat → Prop} {l : Bs} {p b : Nat} (h : Sub w ok l p b) : p ≠ b := fun e => by
  obtain ⟨M, hM, _⟩ := h.map
  exact hM.not_cells _ _ _ (by rw [← e]; exact h.cell)
/-- The struct's one cell. -/
theorem Sub.at {w : World} {ok : Nat → Prop} {l : Bs} {p b : Nat} (h : Sub w ok l p b) : w.cell? ⟨p, 0, none⟩ = some (.map (some b)) := by
  unfold World.cell?
  simp only [h.cell]
  rfl
theorem Tm.Wf.key {t : Tm} (h : t.Wf) : (Lit.int .i64 t.n).wf = true := by
  simp only [Lit.wf, Bool.and_eq_true, decide_eq_true_eq, IntKind.min, IntKind.max, IntKind.signed, IntKind.bits]
  simpa using h.parts.2.1
/-- Walked terms are in their bounds. -/
theorem wlkN_wf {l : Bs} (hl : ∀ n t, ofB l n = some t → t.Wf) : ∀ (m : Nat) (t : Tm), t.Wf → (wlkN l m t).Wf
  | 0, t, h => h
  | m + 1, t, h => by
    simp only [wlkN]
    cases hn : nxt l t with
    | none => exact h
    | some u =>
      unfold nxt at hn
      split at hn
      · exact wlkN_wf hl m u (hl _ _ hn)
      · cases hn
theorem Tryz.zeroT : ∀ w, (zeroValue 30).run Tryz.prog w = .ok (.agg #[.int .u8 0, .string ⟨#[]⟩, .int .i64 0, .slice none 0 0]) w := fun w => by kernel_rfl

/-- What a look-up gives. -/
theorem MapAt.look_run {w : World} {b : Nat} {M : Int → Option Value} {sz : Nat} (h : MapAt w b M sz) (t e : TypeId) (ht : Tryz.prog.underlying t = some (.map 2 e)) {z : Value} (hz : ∀ w, (zeroValue e).run Tryz.prog w = .ok z w) (n : Int) (hn : (Lit.int .i64 n).wf = true) :
    (Instr.lookup t (.map (some b)) (.int .i64 n) true).run Tryz.prog w = .ok (.tuple #[(M n).getD z, .bool (M n).isSome]) w := by
  obtain ⟨D, h1, h2, h3, h4⟩ := h
  obtain ⟨v, ps, hrun, hv⟩ := h1.look_ok Tryz.key64 ht (hz w) (zd := .held z) (zp := []) rfl (key_lit n hn)
  have hv' : DataW.held v = D.atKey (.int .i64 n) (.held z) := by
    have : (DataW.held v, ([] : List MemPlace)) = (D.atKey (.int .i64 n) (.held z), ps) := Option.some.inj hv
    exact congrArg Prod.fst this
  rw [h3 n hn] at hrun
  rw [hrun]
  cases hM : M n with
  | some u =>
    rw [h4 n u hn hM] at hv'
    injection hv' with hv'
    subst hv'
    rfl
  | none =>
    have h0 : Maps.has D (.int .i64 n) = false := by rw [h3 n hn, hM]; rfl
    rw [Maps.atKey_of_not_has h0] at hv'
    injection hv' with hv'
    subst hv'
    rfl
set_option maxHeartbeats 2000000 in
theorem Walk_c (l : Bs) (p b : Nat) (t : Tm) (v : Value) (w : World) (ok : Nat → Prop) (hs : Sub w ok l p b) (hv : TmV w ok t v) (hwf : t.Wf) :
    Calls Tryz.prog 30 #[.pointer (some ⟨p, 0, none⟩), v] w fun e w' => (∃ u, e = .returned u ∧ TmV w' ok (wlk l t) u) ∧ Below w.heap.size w w' := by
  replace hs := hs.bound
  replace hv := hv.bound
  obtain ⟨u0, rfl, hS⟩ := hv
  obtain ⟨A, c, rfl⟩ := hS.form
  go_enter Tryz.func30, Tryz.ntmps30
  go_wp2
  go_loopg [] (l.length + 1) (fun g wr => ∃ (m : Nat) (x : Tm) (A : Option Addr) (c : Nat), g + m = l.length + 1 ∧ x = wlkN l m t ∧ wr.heap[w.heap.size]? = some (.cells #[.int .u8 x.k, .string x.s, .int .i64 x.n, .slice A x.l.length c] 30 (0, 0)) ∧ Kd.tm.S w (fun k => ok k ∧ k < w.heap.size) x.l (.slice A x.l.length c) ∧ wr.heap[w.heap.size + 1]? = some (.cells #[.int .u8 0, .string ⟨#[]⟩, .int .i64 0, .slice none 0 0] 30 (0, 0)) ∧ Below w.heap.size w wr)
  case atStart =>
    have hb : Below w.heap.size w ((w.alloc (Obj.cells #[.int .u8 t.k, .string t.s, .int .i64 t.n, .slice A t.l.length c] 30)).alloc (Obj.cells #[.int .u8 0, .string ⟨#[]⟩, .int .i64 0, .slice none 0 0] 30)) := ((Below.refl _ w).alloc (Nat.le_refl _) _).alloc (by simp) _
    refine ⟨0, t, A, c, by simp, rfl, ?_, hS, ?_, hb⟩
    · exact (Below.heap_alloc _ _ _ (by simp)).trans (heap_new w _)
    · have := heap_new (w.alloc (Obj.cells #[.int .u8 t.k, .string t.s, .int .i64 t.n, .slice A t.l.length c] 30)) (Obj.cells #[.int .u8 0, .string ⟨#[]⟩, .int .i64 0, .slice none 0 0] 30)
      rw [World.size_alloc] at this
      exact this
  case round =>
    obtain ⟨m, x, A', c', hg, hx, hbx, hS', hbr, hb⟩ := hrel
    have hwfm : x.Wf := by rw [hx]; exact wlkN_wf hs.wf m t hwf
    have hroom : ∀ u, nxt l x = some u → m < l.length := fun u hu => hs.acyc.room (by rw [← hx]; exact hu)
    have hstop : nxt l x = none → x = wlk l t := fun h => by rw [hx] at h ⊢; exact stop_wlk hs.acyc h
    have hsn : ∀ u, nxt l x = some u → wlkN l (m + 1) t = u := fun u hu => wlkN_snoc m t (by rw [← hx]; exact hu)
    have hszw : w.heap.size + 2 ≤ wr.heap.size := by have := (Array.getElem?_eq_some_iff.1 hbr).1; omega
    obtain ⟨c0, c1, c2, c3, f0, f1, f2, f3⟩ := box4 hbx
    obtain ⟨d0, d1, d2, d3, g0, g1, g2, g3⟩ := box4 hbr
    have hp := (hs.below hb).at
    have hplt := (hs.below hb).lt.1
    obtain ⟨M, hM0, hM2⟩ := hs.map
    have hM := hM0.move (hb.block b hs.lt.2)
    have HM := Lib.hid hM
    have HR := Lib.hid hroom
    have HST := Lib.hid hstop
    have HSN := Lib.hid hsn
    have HG := Lib.hid hg
    have HM2 := Lib.hid hM2
    have HW := Lib.hid hwfm.key
    have HX := Lib.hid hx
    have HS := Lib.hid hs
    have HBX := Lib.hid hbx
    have HBR := Lib.hid hbr
    clear hM hM0 hM2 hroom hstop hsn hg hS hwfm hx hs hbx hbr
    by_cases hk : x.k = 1
    · have hk' : (x.k == 1) = true := by simpa using hk
      cases ho : ofB l x.n with
      | none =>
        have hMx := Lib.hid ((HM2.out x.n).1 ho)
        have hres := Lib.hid (HST.out (by simp [nxt, ho]))
        clear ho HM2 HST HSN HR
        go_wp2
        have HS0 : ∀ W, Below wr.heap.size wr W → (W.cell? ⟨p, 0, none⟩ = some (.map (some b)) ∧ W.cell? ⟨w.heap.size, 2, none⟩ = some (.int .i64 x.n) ∧ MapAt W b M l.length ∧ Below wr.heap.size wr W) := fun W h => ⟨cell_below h hp hplt, cell_below h c2 (by omega), HM.out.move (h.block b HM.out.lt), h⟩
        refine wp_region_held_drew (S := (fun W => W.cell? ⟨p, 0, none⟩ = some (.map (some b)) ∧ W.cell? ⟨w.heap.size, 2, none⟩ = some (.int .i64 x.n) ∧ MapAt W b M l.length ∧ Below wr.heap.size wr W)) (by kernel_rfl) ?_ (fun hHeld => ?_)
        · exact HS0 _ (Below.refl _ wr).drew
        change wpAnyH _ .any _ _ _ 13 (Array.replicate 13 false) _ _
        refine wpAnyH_take (i := 0) (oi := ⟨some 15, _, _, _, _, _⟩) (v := ?_) rfl (by kernel_rfl) (by kernel_rfl) (by kernel_rfl) (fun _ _ _ h => h) (Or.inl ⟨by rfl, ?_⟩) (by assumption) ?_
        rotate_left
        · (intro w hSw; (try dsimp only at hSw); go_simp; try (with_reducible rfl))
        (try simp only [Act.put, List.setIfInBounds_toArray, List.set_cons_zero, List.set_cons_succ])
        refine wpAnyH_take (i := 1) (oi := ⟨some 16, _, _, _, _, _⟩) (v := ?_) rfl (by kernel_rfl) (by kernel_rfl) (by kernel_rfl) (fun _ _ _ h => h) (Or.inl ⟨by rfl, ?_⟩) (by assumption) ?_
        rotate_left
        · (intro w hSw; (try dsimp only at hSw); go_simp; try (with_reducible rfl))
        (try simp only [Act.put, List.setIfInBounds_toArray, List.set_cons_zero, List.set_cons_succ])
        refine wpAnyH_take (i := 2) (oi := ⟨some 17, _, _, _, _, _⟩) (v := ?_) rfl (by kernel_rfl) (by kernel_rfl) (by kernel_rfl) (fun _ _ _ h => h) (Or.inl ⟨by rfl, ?_⟩) (by assumption) ?_
        rotate_left
        · (intro w hSw; (try dsimp only at hSw); go_simp; try (with_reducible rfl))
        (try simp only [Act.put, List.setIfInBounds_toArray, List.set_cons_zero, List.set_cons_succ])
        refine wpAnyH_take (i := 3) (oi := ⟨some 18, _, _, _, _, _⟩) (v := ?_) rfl (by kernel_rfl) (by kernel_rfl) (by kernel_rfl) (fun _ _ _ h => h) (Or.inl ⟨by rfl, ?_⟩) (by assumption) ?_
        rotate_left
        · (intro w hSw; (try dsimp only at hSw); go_simp; try (with_reducible rfl))
        (try simp only [Act.put, List.setIfInBounds_toArray, List.set_cons_zero, List.set_cons_succ])
        refine wpAnyH_take (i := 4) (oi := ⟨some 19, _, _, _, _, _⟩) (v := ?_) rfl (by kernel_rfl) (by kernel_rfl) (by kernel_rfl) (fun _ _ _ h => h) (Or.inl ⟨by rfl, ?_⟩) (by assumption) ?_
        rotate_left
        · (intro w hSw; (try dsimp only at hSw); go_simp; try (with_reducible rfl))
        (try simp only [Act.put, List.setIfInBounds_toArray, List.set_cons_zero, List.set_cons_succ])
        refine wpAnyH_take (i := 5) (oi := ⟨some 20, _, _, _, _, _⟩) (v := ?_) rfl (by kernel_rfl) (by kernel_rfl) (by kernel_rfl) (fun _ _ _ h => h) (Or.inl ⟨by rfl, ?_⟩) (by assumption) ?_
        rotate_left
        · (intro w hSw; (try dsimp only at hSw); go_simp; try (with_reducible rfl))
        (try simp only [Act.put, List.setIfInBounds_toArray, List.set_cons_zero, List.set_cons_succ])
        refine wpAnyH_take (i := 6) (oi := ⟨some 21, _, _, _, _, _⟩) (v := .tuple #[.agg #[.int .u8 0, .string ⟨#[]⟩, .int .i64 0, .slice none 0 0], .bool false]) rfl (by kernel_rfl) (by kernel_rfl) (by kernel_rfl) (fun _ _ _ h => h) (Or.inl ⟨by rfl, ?_⟩) (by assumption) ?_
        · intro w hSw
          have hlk := MapAt.look_run hSw.2.2.1 75 30 Tryz.underlying75 Tryz.zeroT x.n HW.out
          rw [hMx.out] at hlk
          simp only [Option.getD_none, Option.getD_some, Option.isSome_none, Option.isSome_some] at hlk
          clear hSw
          go_simp
        (try simp only [Act.put, List.setIfInBounds_toArray, List.set_cons_zero, List.set_cons_succ])
        refine wpAnyH_take (i := 7) (oi := ⟨some 14, _, _, _, _, _⟩) (v := ?_) rfl (by kernel_rfl) (by kernel_rfl) (by kernel_rfl) (fun _ _ _ h => h) (Or.inl ⟨by rfl, ?_⟩) (by assumption) ?_
        rotate_left
        · (intro w hSw; (try dsimp only at hSw); go_simp; try (with_reducible rfl))
        (try simp only [Act.put, List.setIfInBounds_toArray, List.set_cons_zero, List.set_cons_succ])
        refine wpAnyH_take (i := 8) (oi := ⟨some 22, _, _, _, _, _⟩) (v := ?_) rfl (by kernel_rfl) (by kernel_rfl) (by kernel_rfl) (fun _ _ _ h => h) (Or.inl ⟨by rfl, ?_⟩) (by assumption) ?_
        rotate_left
        · (intro w hSw; (try dsimp only at hSw); go_simp; try (with_reducible rfl))
        (try simp only [Act.put, List.setIfInBounds_toArray, List.set_cons_zero, List.set_cons_succ])
        refine wpAnyH_take (i := 9) (oi := ⟨some 23, _, _, _, _, _⟩) (v := ?_) rfl (by kernel_rfl) (by kernel_rfl) (by kernel_rfl) (fun _ _ _ h => h) (Or.inl ⟨by rfl, ?_⟩) (by assumption) ?_
        rotate_left
        · (intro w hSw; (try dsimp only at hSw); go_simp; try (with_reducible rfl))
        (try simp only [Act.put, List.setIfInBounds_toArray, List.set_cons_zero, List.set_cons_succ])
        refine wpAnyH_ready (rs := [10]) (by kernel_rfl) (by simp) ?_
        refine AllReadyH.cons (o := ⟨some 5, _, _, _, _, _⟩) rfl (fun K hK => ?_) AllReadyH.nil
        go_simp
        refine hK.out _ _ (HS0 _ (hHeld.2.2.2.alloc hHeld.2.2.2.size _)) (fun hHeld => ?_)
        clear hK K
        (try simp only [Act.put, List.setIfInBounds_toArray, List.set_cons_zero, List.set_cons_succ])
        refine wpAnyH_ready (rs := [11]) (by kernel_rfl) (by simp) ?_
        refine AllReadyH.cons (o := ⟨none, _, _, _, _, _⟩) rfl (fun K hK => ?_) AllReadyH.nil
        go_simp
        refine hK.out _ _ (HS0 _ (((Below.refl _ wr).alloc (Nat.le_refl _) _).drew)) (fun hHeld => ?_)
        clear hK K
        (try simp only [Act.put, List.setIfInBounds_toArray, List.set_cons_zero, List.set_cons_succ])
        refine wpAnyH_take (i := 12) (oi := ⟨some 6, _, _, _, _, _⟩) (v := ?_) rfl (by kernel_rfl) (by kernel_rfl) (by kernel_rfl) (fun _ _ _ h => h) (Or.inl ⟨by rfl, ?_⟩) (by assumption) ?_
        rotate_left
        · (intro w hSw; (try dsimp only at hSw); go_simp; try (with_reducible rfl))
        (try simp only [Act.put, List.setIfInBounds_toArray, List.set_cons_zero, List.set_cons_succ])
        refine wpAnyH_done (by kernel_rfl) ?_ _
        clear HS0 hHeld
        have hB2 : Below wr.heap.size wr ((wr.alloc (.cells #[.int .u8 0, .string ⟨#[]⟩, .int .i64 0, .slice none 0 0] 30)).drew) := ((Below.refl _ wr).alloc (Nat.le_refl _) _).drew
        have hN2 : ((wr.alloc (.cells #[.int .u8 0, .string ⟨#[]⟩, .int .i64 0, .slice none 0 0] 30)).drew).heap[wr.heap.size]? = some (.cells #[.int .u8 0, .string ⟨#[]⟩, .int .i64 0, .slice none 0 0] 30) := heap_new wr _
        generalize (wr.alloc _).drew = W2 at hB2 hN2 ⊢
        obtain ⟨e0, e1, e2, e3, -, -, -, -⟩ := box4 hN2
        have hB2s := hB2.size
        replace c0 := cell_below hB2 c0 (by omega)
        replace c1 := cell_below hB2 c1 (by omega)
        replace c2 := cell_below hB2 c2 (by omega)
        replace c3 := cell_below hB2 c3 (by omega)
        replace d0 := cell_below hB2 d0 (by omega)
        replace d1 := cell_below hB2 d1 (by omega)
        replace d2 := cell_below hB2 d2 (by omega)
        replace d3 := cell_below hB2 d3 (by omega)
        replace f0 := frozen_below hB2 f0 (by omega)
        replace f1 := frozen_below hB2 f1 (by omega)
        replace f2 := frozen_below hB2 f2 (by omega)
        replace f3 := frozen_below hB2 f3 (by omega)
        replace g0 := frozen_below hB2 g0 (by omega)
        replace g1 := frozen_below hB2 g1 (by omega)
        replace g2 := frozen_below hB2 g2 (by omega)
        replace g3 := frozen_below hB2 g3 (by omega)
        go_wp2
        refine bodyPost_ret (v := .agg #[.int .u8 1, .string x.s, .int .i64 x.n, .slice A' x.l.length c']) (by simp [results, Tryz.results30, go_sem, d0, d1, d2, d3]) rfl ?_
        have hfin := hb.trans ((hB2.mono (Nat.le_trans (Nat.le_add_right _ 2) hszw)).grown (grown_set4 _ (w.heap.size + 1) (.int .u8 1) (.string x.s) (.int .i64 x.n) (.slice A' x.l.length c')) (by omega) (fun k hk => by injection hk with hk; omega))
        exact ⟨⟨_, rfl, by rw [← hres.out]; exact ⟨_, by rw [hk], (Kd.S.below hfin hS').mono (fun _ h => h.1)⟩⟩, hfin⟩
      | some u =>
        obtain ⟨vu, hMu, hVu⟩ := (HM2.out x.n).2 u ho
        obtain ⟨uu, rfl, hSu⟩ := hVu
        obtain ⟨Au, cu, rfl⟩ := hSu.form
        have hMx := Lib.hid hMu
        have hlt := Lib.hid (HR.out u (by simp [nxt, hk, ho]))
        have hsn := Lib.hid (HSN.out u (by simp [nxt, hk, ho]))
        clear ho HM2 HST HSN HR hMu
        go_wp2
        have HS0 : ∀ W, Below wr.heap.size wr W → (W.cell? ⟨p, 0, none⟩ = some (.map (some b)) ∧ W.cell? ⟨w.heap.size, 2, none⟩ = some (.int .i64 x.n) ∧ MapAt W b M l.length ∧ Below wr.heap.size wr W) := fun W h => ⟨cell_below h hp hplt, cell_below h c2 (by omega), HM.out.move (h.block b HM.out.lt), h⟩
        refine wp_region_held_drew (S := (fun W => W.cell? ⟨p, 0, none⟩ = some (.map (some b)) ∧ W.cell? ⟨w.heap.size, 2, none⟩ = some (.int .i64 x.n) ∧ MapAt W b M l.length ∧ Below wr.heap.size wr W)) (by kernel_rfl) ?_ (fun hHeld => ?_)
        · exact HS0 _ (Below.refl _ wr).drew
        change wpAnyH _ .any _ _ _ 13 (Array.replicate 13 false) _ _
        refine wpAnyH_take (i := 0) (oi := ⟨some 15, _, _, _, _, _⟩) (v := ?_) rfl (by kernel_rfl) (by kernel_rfl) (by kernel_rfl) (fun _ _ _ h => h) (Or.inl ⟨by rfl, ?_⟩) (by assumption) ?_
        rotate_left
        · (intro w hSw; (try dsimp only at hSw); go_simp; try (with_reducible rfl))
        (try simp only [Act.put, List.setIfInBounds_toArray, List.set_cons_zero, List.set_cons_succ])
        refine wpAnyH_take (i := 1) (oi := ⟨some 16, _, _, _, _, _⟩) (v := ?_) rfl (by kernel_rfl) (by kernel_rfl) (by kernel_rfl) (fun _ _ _ h => h) (Or.inl ⟨by rfl, ?_⟩) (by assumption) ?_
        rotate_left
        · (intro w hSw; (try dsimp only at hSw); go_simp; try (with_reducible rfl))
        (try simp only [Act.put, List.setIfInBounds_toArray, List.set_cons_zero, List.set_cons_succ])
        refine wpAnyH_take (i := 2) (oi := ⟨some 17, _, _, _, _, _⟩) (v := ?_) rfl (by kernel_rfl) (by kernel_rfl) (by kernel_rfl) (fun _ _ _ h => h) (Or.inl ⟨by rfl, ?_⟩) (by assumption) ?_
        rotate_left
        · (intro w hSw; (try dsimp only at hSw); go_simp; try (with_reducible rfl))
        (try simp only [Act.put, List.setIfInBounds_toArray, List.set_cons_zero, List.set_cons_succ])
        refine wpAnyH_take (i := 3) (oi := ⟨some 18, _, _, _, _, _⟩) (v := ?_) rfl (by kernel_rfl) (by kernel_rfl) (by kernel_rfl) (fun _ _ _ h => h) (Or.inl ⟨by rfl, ?_⟩) (by assumption) ?_
        rotate_left
        · (intro w hSw; (try dsimp only at hSw); go_simp; try (with_reducible rfl))
        (try simp only [Act.put, List.setIfInBounds_toArray, List.set_cons_zero, List.set_cons_succ])
        refine wpAnyH_take (i := 4) (oi := ⟨some 19, _, _, _, _, _⟩) (v := ?_) rfl (by kernel_rfl) (by kernel_rfl) (by kernel_rfl) (fun _ _ _ h => h) (Or.inl ⟨by rfl, ?_⟩) (by assumption) ?_
        rotate_left
        · (intro w hSw; (try dsimp only at hSw); go_simp; try (with_reducible rfl))
        (try simp only [Act.put, List.setIfInBounds_toArray, List.set_cons_zero, List.set_cons_succ])
        refine wpAnyH_take (i := 5) (oi := ⟨some 20, _, _, _, _, _⟩) (v := ?_) rfl (by kernel_rfl) (by kernel_rfl) (by kernel_rfl) (fun _ _ _ h => h) (Or.inl ⟨by rfl, ?_⟩) (by assumption) ?_
        rotate_left
        · (intro w hSw; (try dsimp only at hSw); go_simp; try (with_reducible rfl))
        (try simp only [Act.put, List.setIfInBounds_toArray, List.set_cons_zero, List.set_cons_succ])
        refine wpAnyH_take (i := 6) (oi := ⟨some 21, _, _, _, _, _⟩) (v := .tuple #[.agg #[.int .u8 u.k, .string u.s, .int .i64 u.n, .slice Au u.l.length cu], .bool true]) rfl (by kernel_rfl) (by kernel_rfl) (by kernel_rfl) (fun _ _ _ h => h) (Or.inl ⟨by rfl, ?_⟩) (by assumption) ?_
        · intro w hSw
          have hlk := MapAt.look_run hSw.2.2.1 75 30 Tryz.underlying75 Tryz.zeroT x.n HW.out
          rw [hMx.out] at hlk
          simp only [Option.getD_none, Option.getD_some, Option.isSome_none, Option.isSome_some] at hlk
          clear hSw
          go_simp
        (try simp only [Act.put, List.setIfInBounds_toArray, List.set_cons_zero, List.set_cons_succ])
        refine wpAnyH_take (i := 7) (oi := ⟨some 14, _, _, _, _, _⟩) (v := ?_) rfl (by kernel_rfl) (by kernel_rfl) (by kernel_rfl) (fun _ _ _ h => h) (Or.inl ⟨by rfl, ?_⟩) (by assumption) ?_
        rotate_left
        · (intro w hSw; (try dsimp only at hSw); go_simp; try (with_reducible rfl))
        (try simp only [Act.put, List.setIfInBounds_toArray, List.set_cons_zero, List.set_cons_succ])
        refine wpAnyH_take (i := 8) (oi := ⟨some 22, _, _, _, _, _⟩) (v := ?_) rfl (by kernel_rfl) (by kernel_rfl) (by kernel_rfl) (fun _ _ _ h => h) (Or.inl ⟨by rfl, ?_⟩) (by assumption) ?_
        rotate_left
        · (intro w hSw; (try dsimp only at hSw); go_simp; try (with_reducible rfl))
        (try simp only [Act.put, List.setIfInBounds_toArray, List.set_cons_zero, List.set_cons_succ])
        refine wpAnyH_take (i := 9) (oi := ⟨some 23, _, _, _, _, _⟩) (v := ?_) rfl (by kernel_rfl) (by kernel_rfl) (by kernel_rfl) (fun _ _ _ h => h) (Or.inl ⟨by rfl, ?_⟩) (by assumption) ?_
        rotate_left
        · (intro w hSw; (try dsimp only at hSw); go_simp; try (with_reducible rfl))
        (try simp only [Act.put, List.setIfInBounds_toArray, List.set_cons_zero, List.set_cons_succ])
        refine wpAnyH_ready (rs := [10]) (by kernel_rfl) (by simp) ?_
        refine AllReadyH.cons (o := ⟨some 5, _, _, _, _, _⟩) rfl (fun K hK => ?_) AllReadyH.nil
        go_simp
        refine hK.out _ _ (HS0 _ (hHeld.2.2.2.alloc hHeld.2.2.2.size _)) (fun hHeld => ?_)
        clear hK K
        (try simp only [Act.put, List.setIfInBounds_toArray, List.set_cons_zero, List.set_cons_succ])
        refine wpAnyH_ready (rs := [11]) (by kernel_rfl) (by simp) ?_
        refine AllReadyH.cons (o := ⟨none, _, _, _, _, _⟩) rfl (fun K hK => ?_) AllReadyH.nil
        go_simp
        refine hK.out _ _ (HS0 _ (((Below.refl _ wr).alloc (Nat.le_refl _) _).drew)) (fun hHeld => ?_)
        clear hK K
        (try simp only [Act.put, List.setIfInBounds_toArray, List.set_cons_zero, List.set_cons_succ])
        refine wpAnyH_take (i := 12) (oi := ⟨some 6, _, _, _, _, _⟩) (v := ?_) rfl (by kernel_rfl) (by kernel_rfl) (by kernel_rfl) (fun _ _ _ h => h) (Or.inl ⟨by rfl, ?_⟩) (by assumption) ?_
        rotate_left
        · (intro w hSw; (try dsimp only at hSw); go_simp; try (with_reducible rfl))
        (try simp only [Act.put, List.setIfInBounds_toArray, List.set_cons_zero, List.set_cons_succ])
        refine wpAnyH_done (by kernel_rfl) ?_ _
        clear HS0 hHeld
        have hB2 : Below wr.heap.size wr ((wr.alloc (.cells #[.int .u8 u.k, .string u.s, .int .i64 u.n, .slice Au u.l.length cu] 30)).drew) := ((Below.refl _ wr).alloc (Nat.le_refl _) _).drew
        have hN2 : ((wr.alloc (.cells #[.int .u8 u.k, .string u.s, .int .i64 u.n, .slice Au u.l.length cu] 30)).drew).heap[wr.heap.size]? = some (.cells #[.int .u8 u.k, .string u.s, .int .i64 u.n, .slice Au u.l.length cu] 30) := heap_new wr _
        generalize (wr.alloc _).drew = W2 at hB2 hN2 ⊢
        obtain ⟨e0, e1, e2, e3, -, -, -, -⟩ := box4 hN2
        have hB2s := hB2.size
        replace c0 := cell_below hB2 c0 (by omega)
        replace c1 := cell_below hB2 c1 (by omega)
        replace c2 := cell_below hB2 c2 (by omega)
        replace c3 := cell_below hB2 c3 (by omega)
        replace d0 := cell_below hB2 d0 (by omega)
        replace d1 := cell_below hB2 d1 (by omega)
        replace d2 := cell_below hB2 d2 (by omega)
        replace d3 := cell_below hB2 d3 (by omega)
        replace f0 := frozen_below hB2 f0 (by omega)
        replace f1 := frozen_below hB2 f1 (by omega)
        replace f2 := frozen_below hB2 f2 (by omega)
        replace f3 := frozen_below hB2 f3 (by omega)
        replace g0 := frozen_below hB2 g0 (by omega)
        replace g1 := frozen_below hB2 g1 (by omega)
        replace g2 := frozen_below hB2 g2 (by omega)
        replace g3 := frozen_below hB2 g3 (by omega)
        go_wp2
        have hfin := (hB2.mono (Nat.le_trans (Nat.le_add_right _ 2) hszw)).grown (grown_set4 _ w.heap.size (.int .u8 u.k) (.string u.s) (.int .i64 u.n) (.slice Au u.l.length cu)) (by omega) (fun k hk => by injection hk with hk; omega)
        go_roundg (gk - 1)
        case measure => have := HG.out; have := hlt.out; omega
        case rel =>
          refine ⟨m + 1, u, Au, cu, by have := HG.out; have := hlt.out; omega, hsn.out.symm, ?_, hSu, ?_, hb.trans hfin⟩
          · have h0 := (hB2.block w.heap.size (by omega)).trans HBX.out
            simp [World.setCell, Array.getElem?_modify, h0]
          · exact ((grown_set4 _ w.heap.size (.int .u8 u.k) (.string u.s) (.int .i64 u.n) (.slice Au u.l.length cu)).block _ (by omega) (fun he => by injection he; omega)).trans ((hB2.block _ (by omega)).trans HBR.out)
    · have hk' : (x.k == 1) = false := by simpa using hk
      have hres := Lib.hid (HST.out (by simp [nxt, hk]))
      clear HM2 HST HSN HR hk
      go_wp2
      refine bodyPost_ret (v := .agg #[.int .u8 x.k, .string x.s, .int .i64 x.n, .slice A' x.l.length c']) (by simp [results, Tryz.results30, go_sem, d0, d1, d2, d3]) rfl ?_
      have hfin := hb.trans ((Below.refl w.heap.size wr).grown (grown_set4 _ (w.heap.size + 1) (.int .u8 x.k) (.string x.s) (.int .i64 x.n) (.slice A' x.l.length c')) (by omega) (fun k hk => by injection hk with hk; omega))
      exact ⟨⟨_, rfl, by rw [← hres.out]; exact ⟨_, rfl, (Kd.S.below hfin hS').mono (fun _ h => h.1)⟩⟩, hfin⟩
end Go.Proofs.YtgcbanljifalnaaGreatDoor
/- The iterator over a term's nodes: 'walk', 'nodes'. Sizes and depths by the iterator. Conditions: the arguments read; terms of at most a million nodes, where a statement says so. -/
namespace Go.Proofs.YtgcbanljifalnaaGreatDoor
open Go.RowKit Go.Shelf
attribute [local go_sem] Oper.semAt_some

theorem wide_room (k : Nat) : (Fence.wide.depth.isSome = true → 1 ≤ k) := fun h => by simp [Fence.wide] at h
theorem YieldAt.any {m : Nat} (m' : Nat) {P : Program} {l : Nat} {args : Array Value} {W : World} {R : Ending → World → Prop} (h : YieldAt Fence.wide m P l args W R) : YieldAt Fence.wide m' P l args W R := by
  obtain ⟨fn, tmps, assign, body, hy, hR⟩ := h
  exact ⟨fn, tmps, assign, body, hy, ⟨hR.1, fun c cs _ => hR.2 c cs (room_wide _)⟩⟩

/-- A node as it is handed to yield: its depth, the term, its arguments' slice. -/
structure Nd where
  d : Nat
  t : Tm
  A : Option Addr
  c : Nat
def Nd.vals (x : Nd) : Array Value := #[.int .i64 x.d, .agg #[.int .u8 x.t.k, .string x.t.s, .int .i64 x.t.n, .slice x.A x.t.l.length x.c]]
def Nd.p (x : Nd) : Nat × Tm := (x.d, x.t)
mutual
/-- A term's nodes, with their depths, from the outside in. -/
def Tm.nodes : Tm → Nat → List (Nat × Tm)
  | ⟨k, s, n, l⟩, d => (d, ⟨k, s, n, l⟩) :: nodesL l (d + 1)
def nodesL : List Tm → Nat → List (Nat × Tm)
  | [], _ => []
  | t :: ts, d => t.nodes d ++ nodesL ts d
end
/-- What a round keeps for the iterator: what lay when the loop began, and every block of terms. -/
def KpT (n₀ : Nat) (W W' : World) : Prop := Below n₀ W W' ∧ ∀ (k : Nat) (c : Array Value), W.heap[k]? = some (.cells c 30 (0, 0)) → W'.heap[k]? = some (.cells c 30 (0, 0))
theorem KpT.trans {n₀ : Nat} {A B C : World} (h : KpT n₀ A B) (k : KpT n₀ B C) : KpT n₀ A C := ⟨h.1.trans k.1, fun i c hc => k.2 i c (h.2 i c hc)⟩
theorem KpT.of_below {n₀ : Nat} {A B : World} (h : Below A.heap.size A B) (hn : n₀ ≤ A.heap.size) : KpT n₀ A B := ⟨h.mono hn, fun i c hc => block_below h (Array.getElem?_eq_some_iff.1 hc).1 hc⟩
theorem KpT.put {n₀ : Nat} {w : World} (hn : n₀ ≤ w.heap.size) (W : World) (l : Nat) (o o' : Obj) (hl : w.heap.size ≤ l) (h : W.heap[l]? = some o) (hc : o.isCells = false) (hw : o.isWalk = false) : KpT n₀ W (W.putObj l o') :=
  ⟨belowK_b hn W l o o' hl h hc hw, fun k c hk => (World.putObj_heap_other (fun e => by subst e; rw [h] at hk; cases hk; cases hc)).trans hk⟩
theorem KpT.cell {n₀ : Nat} {W W' : World} (h : KpT n₀ W W') {B : Nat} {c : Array Value} (hB : W.heap[B]? = some (.cells c 30 (0, 0))) {o : Nat} {v : Value} (hc : W.cell? ⟨B, o, none⟩ = some v) : W'.cell? ⟨B, o, none⟩ = some v :=
  (cell_of_block ((h.2 B c hB).trans hB.symm) o).trans hc
theorem tmv_below {n₀ : Nat} {W W' : World} {t : Tm} {v : Value} (h : Below n₀ W W') (hv : TmV W (fun b => b < n₀) t v) : TmV W' (fun b => b < n₀) t v := TmV.move (fun b hb => h.block b hb) hv
theorem tms_below {n₀ : Nat} {W W' : World} {l : List Tm} {v : Value} (h : Below n₀ W W') (hv : Kd.tm.S W (fun b => b < n₀) l v) : Kd.tm.S W' (fun b => b < n₀) l v := Kd.S.move (fun b hb => h.block b hb) hv

open Go.RowKit Go.Shelf
attribute [local go_sem] Oper.semAt_some

/-- A store into a box that holds no term. -/
theorem kpT_set {n₀ : Nat} {W : World} {B : Nat} {ty : TypeId} {v : Value} (hn : n₀ ≤ W.heap.size) (hb : Boxed W B ty v) (hty : ty ≠ 30) (hB : n₀ ≤ B) (u : Value) : KpT n₀ W (W.setCell ⟨B, 0, none⟩ u) :=
  ⟨(Below.refl n₀ W).setCell (p := ⟨B, 0, none⟩) hB u, fun k c hk => (Below.heap_setCell W _ u k (fun e => by
    have e' : k = B := e
    subst e'
    rw [show W.heap[k]? = _ from hb] at hk
    injection hk with hk
    injection hk with _ hk
    exact hty hk)).trans hk⟩
end Go.Proofs.YtgcbanljifalnaaGreatDoor
/- The variables of a list, by the iterator. Conditions: the arguments read; terms of at most a million nodes. -/
namespace Go.Proofs.YtgcbanljifalnaaGreatDoor
open Go.RowKit Go.Shelf
attribute [local go_sem] Oper.semAt_some

theorem Kd.Own.cells {α : Type} {d : Kd α} {e : TypeId} {w : World} {base : Nat} {ok : Nat → Prop} {xs : List α} {v : Value} (h : d.Own e w base ok xs v) : ∀ k, v.ownBlock = some k → ∃ c : Array Value, w.heap[k]? = some (.cells c e (0, 0)) := by
  obtain ⟨cells, h1, h2⟩ := h
  obtain ⟨hl, h3⟩ := h1
  rcases h3 with ⟨rfl, hn⟩ | ⟨g, cap, cur, rfl, hg, hh, hc1, hc2, hc3, ht⟩
  · intro k hk; simp [Value.ownBlock] at hk
  · intro k hk
    simp only [Value.ownBlock] at hk
    injection hk with hk
    subst hk
    exact ⟨_, hh⟩
theorem KeepsFrom.of_below {B : Nat} {w w1 : World} (h : Below w.heap.size w w1) : KeepsFrom B w w1 := ⟨h.size, fun k o _ hk _ => block_below h (Array.getElem?_eq_some_iff.1 hk).1 hk⟩
section
variable {P : Program} {F : Fence} {nF : Nat} {ops : Array Oper} {rest : List Oper} {o : Oper} {a : Act} {Q : Exit → Act → World → Prop}
end

end Go.Proofs.YtgcbanljifalnaaGreatDoor

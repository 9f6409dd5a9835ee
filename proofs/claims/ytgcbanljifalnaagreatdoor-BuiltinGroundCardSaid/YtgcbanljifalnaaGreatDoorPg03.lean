import Derived.Test.YtgcbanljifalnaaGreatDoorPg02
import Derived.Deep.LoopGhost
import Derived.Deep.RegionHeld3
import Derived.RangeFuncNested
import Derived.RangeFuncBound
import Derived.RangeFuncCalls
import Derived.RangeFuncLeaves
import Derived.Shelf.Abstract
import Derived.Shelf.RegionOpen
import Derived.OwnWalkIn
import Derived.TacticsInMore
import Derived.LoopNIn
import Derived.LoopIn
import Derived.Maps.OwnIn
set_option linter.unusedVariables false
set_option maxRecDepth 20000
set_option linter.unusedSimpArgs false
/- Substitutions in memory; terms walked. Conditions: the arguments read. -/
namespace Go.Proofs.YtgcbanljifalnaaGreatDoor
open Go.RowKit

/-- The term that is none. -/
def tm0 : Tm := ⟨0, ⟨#[]⟩, 0, []⟩
mutual
theorem TmK.apart {w : World} {ok : Nat → Prop} {m : Nat} (hm : ∀ c t f, w.heap[m]? ≠ some (.cells c t f)) : ∀ (t : Tm) (cs : List Value), TmK w ok t cs → TmK w (fun b => ok b ∧ b ≠ m) t cs
  | ⟨k, s, n, l⟩, cs, h => by
    simp only [TmK] at h ⊢
    obtain ⟨A, c, e, h1, h2, h3⟩ := h
    refine ⟨A, c, e, h1, h2, ?_⟩
    by_cases hx : l = []
    · refine .inl ⟨hx, ?_⟩
      rcases h3 with h3 | ⟨b, o, ha, _⟩
      · exact h3.2
      · intro hn; rw [ha] at hn; cases hn
    · obtain ⟨b, o, ha, hb, ht⟩ := h3.resolve_left (fun h => hx h.1)
      exact .inr ⟨b, o, ha, ⟨hb, TmL.head_ne hm ht hx⟩, TmL.apart hm l b o ht⟩
theorem TmL.apart {w : World} {ok : Nat → Prop} {m : Nat} (hm : ∀ c t f, w.heap[m]? ≠ some (.cells c t f)) : ∀ (l : List Tm) (b o : Nat), TmL w ok l b o → TmL w (fun b => ok b ∧ b ≠ m) l b o
  | [], _, _, _ => by simp only [TmL]
  | t :: ts, b, o, h => by
    simp only [TmL] at h ⊢
    obtain ⟨⟨cs, hk, hc⟩, hr⟩ := h
    exact ⟨⟨cs, TmK.apart hm t cs hk, hc⟩, TmL.apart hm ts b (o + 4) hr⟩
theorem TmL.head_ne {w : World} {ok : Nat → Prop} {l : List Tm} {b o m : Nat} (hm : ∀ c t f, w.heap[m]? ≠ some (.cells c t f)) (h : TmL w ok l b o) (hx : l ≠ []) : b ≠ m := by
  cases l with
  | nil => exact absurd rfl hx
  | cons t ts =>
    simp only [TmL] at h
    obtain ⟨⟨cs, hk, hc⟩, _⟩ := h
    have hl := TmK.len hk
    cases cs with
    | nil => simp at hl
    | cons c cs =>
      rintro rfl
      have h0 := hc 0 c rfl
      unfold World.cell? at h0
      simp only at h0
      cases h0
end
theorem TmV.apart {w : World} {ok : Nat → Prop} {t : Tm} {v : Value} {m : Nat} (hm : ∀ c t f, w.heap[m]? ≠ some (.cells c t f)) (h : TmV w ok t v) : TmV w (fun b => ok b ∧ b ≠ m) t v := by
  obtain ⟨u, e, hs⟩ := h
  have := TmK.apart hm t _ (TmK_iff.2 ⟨u, rfl, hs⟩)
  obtain ⟨u', e', hs'⟩ := TmK_iff.1 this
  injection e' with _ e'
  injection e' with _ e'
  injection e' with _ e'
  injection e' with e' _
  subst e'
  exact ⟨u, e, hs'⟩
theorem TmV.grown {w w' : World} {ok : Nat → Prop} {t : Tm} {v : Value} {row : Option Nat} (hg : w.grownBy w' row) (hok : ∀ b, ok b → some b ≠ row) (h : TmV w ok t v) : TmV w' ok t v := let ⟨u, e, hs⟩ := h; ⟨u, e, Kd.S.grown hg hok hs⟩

/-- A substitution: a struct in block p that holds the map in block b; the bindings are l's. -/
structure Sub (w : World) (ok : Nat → Prop) (l : Bs) (p b : Nat) : Prop where
  cell : w.heap[p]? = some (.cells #[.map (some b)] 77 (0, 0))
  map : ∃ M, MapAt w b M l.length ∧ ∀ n, (ofB l n = none → M n = none) ∧ ∀ t, ofB l n = some t → ∃ v, M n = some v ∧ TmV w ok t v
  acyc : Acyc l
  wf : ∀ n t, ofB l n = some t → t.Wf
theorem Sub.move {w w' : World} {ok : Nat → Prop} {l : Bs} {p b : Nat} (h : Sub w ok l p b) (hp : w'.heap[p]? = w.heap[p]?) (hb : w'.heap[b]? = w.heap[b]?) (ht : ∀ t v, TmV w ok t v → TmV w' ok t v) : Sub w' ok l p b := by
  obtain ⟨h1, ⟨M, hM, hM2⟩, h3, h4⟩ := h
  exact ⟨hp.trans h1, ⟨M, hM.move hb, fun n => ⟨(hM2 n).1, fun t hn => by obtain ⟨v, hv, hv2⟩ := (hM2 n).2 t hn; exact ⟨v, hv, ht _ _ hv2⟩⟩⟩, h3, h4⟩
theorem Sub.lt {w : World} {ok : Nat → Prop} {l : Bs} {p b : Nat} (h : Sub w ok l p b) : p < w.heap.size ∧ b < w.heap.size :=
  ⟨(Array.getElem?_eq_some_iff.1 h.cell).1, by obtain ⟨M, hM, _⟩ := h.map; exact hM.lt⟩
theorem Sub.below {w w' : World} {ok : Nat → Prop} {l : Bs} {p b : Nat} (h : Sub w ok l p b) (hb : Below w.heap.size w w') : Sub w' ok l p b :=
  h.move (hb.block _ h.lt.1) (hb.block _ h.lt.2) (fun t v => TmV.below hb)
theorem Sub.mono {w : World} {ok ok' : Nat → Prop} {l : Bs} {p b : Nat} (h : Sub w ok l p b) (hm : ∀ k, ok k → ok' k) : Sub w ok' l p b := by
  obtain ⟨h1, ⟨M, hM, hM2⟩, h3, h4⟩ := h
  exact ⟨h1, ⟨M, hM, fun n => ⟨(hM2 n).1, fun t hn => by obtain ⟨v, hv, hv2⟩ := (hM2 n).2 t hn; exact ⟨v, hv, hv2.mono hm⟩⟩⟩, h3, h4⟩
theorem Sub.grown {w w' : World} {ok : Nat → Prop} {l : Bs} {p b : Nat} {row : Option Nat} (h : Sub w ok l p b) (hg : w.grownBy w' row) (hok : ∀ k, ok k → some k ≠ row) (hp : some p ≠ row) (hb : some b ≠ row) : Sub w' ok l p b :=
  h.move (hg.block p h.lt.1 hp) (hg.block b h.lt.2 hb) (fun t v => TmV.grown hg hok)
theorem Sub.bound {w : World} {ok : Nat → Prop} {l : Bs} {p b : Nat} (h : Sub w ok l p b) : Sub w (fun k => ok k ∧ k < w.heap.size) l p b := by
  obtain ⟨h1, ⟨M, hM, hM2⟩, h3, h4⟩ := h
  exact ⟨h1, ⟨M, hM, fun n => ⟨(hM2 n).1, fun t hn => by obtain ⟨v, hv, hv2⟩ := (hM2 n).2 t hn; exact ⟨v, hv, hv2.bound⟩⟩⟩, h3, h4⟩
theorem Sub.len_le {w : World} {ok : Nat → Prop} {l : Bs} {p b : Nat} (h : Sub w ok l p b) : p ≠ b := fun e => by
  obtain ⟨M, hM, _⟩ := h.map
  exact hM.not_cells _ _ _ (by rw [← e]; exact h.cell)
/-- The struct's one cell. -/
theorem Sub.at {w : World} {ok : Nat → Prop} {l : Bs} {p b : Nat} (h : Sub w ok l p b) : w.cell? ⟨p, 0, none⟩ = some (.map (some b)) := by
  unfold World.cell?
  simp only [h.cell]
  rfl
theorem Tm.Wf.key {t : Tm} (h : t.Wf) : (Lit.int .i64 t.n).wf = true := by
  simp only [Lit.wf, Bool.and_eq_true, decide_eq_true_eq, IntKind.min, IntKind.max, IntKind.signed, IntKind.bits]
  simpa using h.parts.2.1
/-- Walked terms are in their bounds. -/
theorem wlkN_wf {l : Bs} (hl : ∀ n t, ofB l n = some t → t.Wf) : ∀ (m : Nat) (t : Tm), t.Wf → (wlkN l m t).Wf
  | 0, t, h => h
  | m + 1, t, h => by
    simp only [wlkN]
    cases hn : nxt l t with
    | none => exact h
    | some u =>
      unfold nxt at hn
      split at hn
      · exact wlkN_wf hl m u (hl _ _ hn)
      · cases hn
theorem Tryz.zeroT : ∀ w, (zeroValue 30).run Tryz.prog w = .ok (.agg #[.int .u8 0, .string ⟨#[]⟩, .int .i64 0, .slice none 0 0]) w := fun w => by kernel_rfl

/-- What a look-up gives. -/
theorem MapAt.look_run {w : World} {b : Nat} {M : Int → Option Value} {sz : Nat} (h : MapAt w b M sz) (t e : TypeId) (ht : Tryz.prog.underlying t = some (.map 2 e)) {z : Value} (hz : ∀ w, (zeroValue e).run Tryz.prog w = .ok z w) (n : Int) (hn : (Lit.int .i64 n).wf = true) :
    (Instr.lookup t (.map (some b)) (.int .i64 n) true).run Tryz.prog w = .ok (.tuple #[(M n).getD z, .bool (M n).isSome]) w := by
  obtain ⟨D, h1, h2, h3, h4⟩ := h
  obtain ⟨v, ps, hrun, hv⟩ := h1.look_ok Tryz.key64 ht (hz w) (zd := .held z) (zp := []) rfl (key_lit n hn)
  have hv' : DataW.held v = D.atKey (.int .i64 n) (.held z) := by
    have : (DataW.held v, ([] : List MemPlace)) = (D.atKey (.int .i64 n) (.held z), ps) := Option.some.inj hv
    exact congrArg Prod.fst this
  rw [h3 n hn] at hrun
  rw [hrun]
  cases hM : M n with
  | some u =>
    rw [h4 n u hn hM] at hv'
    injection hv' with hv'
    subst hv'
    rfl
  | none =>
    have h0 : Maps.has D (.int .i64 n) = false := by rw [h3 n hn, hM]; rfl
    rw [Maps.atKey_of_not_has h0] at hv'
    injection hv' with hv'
    subst hv'
    rfl
set_option maxHeartbeats 2000000 in
theorem Walk_c (l : Bs) (p b : Nat) (t : Tm) (v : Value) (w : World) (ok : Nat → Prop) (hs : Sub w ok l p b) (hv : TmV w ok t v) (hwf : t.Wf) :
    Calls Tryz.prog 30 #[.pointer (some ⟨p, 0, none⟩), v] w fun e w' => (∃ u, e = .returned u ∧ TmV w' ok (wlk l t) u) ∧ Below w.heap.size w w' := by
  replace hs := hs.bound
  replace hv := hv.bound
  obtain ⟨u0, rfl, hS⟩ := hv
  obtain ⟨A, c, rfl⟩ := hS.form
  go_enter Tryz.func30, Tryz.ntmps30
  go_wp2
  go_loopg [] (l.length + 1) (fun g wr => ∃ (m : Nat) (x : Tm) (A : Option Addr) (c : Nat), g + m = l.length + 1 ∧ x = wlkN l m t ∧ wr.heap[w.heap.size]? = some (.cells #[.int .u8 x.k, .string x.s, .int .i64 x.n, .slice A x.l.length c] 30 (0, 0)) ∧ Kd.tm.S w (fun k => ok k ∧ k < w.heap.size) x.l (.slice A x.l.length c) ∧ wr.heap[w.heap.size + 1]? = some (.cells #[.int .u8 0, .string ⟨#[]⟩, .int .i64 0, .slice none 0 0] 30 (0, 0)) ∧ Below w.heap.size w wr)
  case atStart =>
    have hb : Below w.heap.size w ((w.alloc (Obj.cells #[.int .u8 t.k, .string t.s, .int .i64 t.n, .slice A t.l.length c] 30)).alloc (Obj.cells #[.int .u8 0, .string ⟨#[]⟩, .int .i64 0, .slice none 0 0] 30)) := ((Below.refl _ w).alloc (Nat.le_refl _) _).alloc (by simp) _
    refine ⟨0, t, A, c, by simp, rfl, ?_, hS, ?_, hb⟩
    · exact (Below.heap_alloc _ _ _ (by simp)).trans (heap_new w _)
    · have := heap_new (w.alloc (Obj.cells #[.int .u8 t.k, .string t.s, .int .i64 t.n, .slice A t.l.length c] 30)) (Obj.cells #[.int .u8 0, .string ⟨#[]⟩, .int .i64 0, .slice none 0 0] 30)
      rw [World.size_alloc] at this
      exact this
  case round =>
    obtain ⟨m, x, A', c', hg, hx, hbx, hS', hbr, hb⟩ := hrel
    have hwfm : x.Wf := by rw [hx]; exact wlkN_wf hs.wf m t hwf
    have hroom : ∀ u, nxt l x = some u → m < l.length := fun u hu => hs.acyc.room (by rw [← hx]; exact hu)
    have hstop : nxt l x = none → x = wlk l t := fun h => by rw [hx] at h ⊢; exact stop_wlk hs.acyc h
    have hsn : ∀ u, nxt l x = some u → wlkN l (m + 1) t = u := fun u hu => wlkN_snoc m t (by rw [← hx]; exact hu)
    have hszw : w.heap.size + 2 ≤ wr.heap.size := by have := (Array.getElem?_eq_some_iff.1 hbr).1; omega
    obtain ⟨c0, c1, c2, c3, f0, f1, f2, f3⟩ := box4 hbx
    obtain ⟨d0, d1, d2, d3, g0, g1, g2, g3⟩ := box4 hbr
    have hp := (hs.below hb).at
    have hplt := (hs.below hb).lt.1
    obtain ⟨M, hM0, hM2⟩ := hs.map
    have hM := hM0.move (hb.block b hs.lt.2)
    have HM := Lib.hid hM
    have HR := Lib.hid hroom
    have HST := Lib.hid hstop
    have HSN := Lib.hid hsn
    have HG := Lib.hid hg
    have HM2 := Lib.hid hM2
    have HW := Lib.hid hwfm.key
    have HX := Lib.hid hx
    have HS := Lib.hid hs
    have HBX := Lib.hid hbx
    have HBR := Lib.hid hbr
    clear hM hM0 hM2 hroom hstop hsn hg hS hwfm hx hs hbx hbr
    by_cases hk : x.k = 1
    · have hk' : (x.k == 1) = true := by simpa using hk
      cases ho : ofB l x.n with
      | none =>
        have hMx := Lib.hid ((HM2.out x.n).1 ho)
        have hres := Lib.hid (HST.out (by simp [nxt, ho]))
        clear ho HM2 HST HSN HR
        go_wp2
        have HS0 : ∀ W, Below wr.heap.size wr W → (W.cell? ⟨p, 0, none⟩ = some (.map (some b)) ∧ W.cell? ⟨w.heap.size, 2, none⟩ = some (.int .i64 x.n) ∧ MapAt W b M l.length ∧ Below wr.heap.size wr W) := fun W h => ⟨cell_below h hp hplt, cell_below h c2 (by omega), HM.out.move (h.block b HM.out.lt), h⟩
        refine wp_region_held_drew (S := (fun W => W.cell? ⟨p, 0, none⟩ = some (.map (some b)) ∧ W.cell? ⟨w.heap.size, 2, none⟩ = some (.int .i64 x.n) ∧ MapAt W b M l.length ∧ Below wr.heap.size wr W)) (by kernel_rfl) ?_ (fun hHeld => ?_)
        · exact HS0 _ (Below.refl _ wr).drew
        change wpAnyH _ .any _ _ _ 13 (Array.replicate 13 false) _ _
        refine wpAnyH_take (i := 0) (oi := ⟨some 15, _, _, _, _, _⟩) (v := ?_) rfl (by kernel_rfl) (by kernel_rfl) (by kernel_rfl) (fun _ _ _ h => h) (Or.inl ⟨by rfl, ?_⟩) (by assumption) ?_
        rotate_left
        · (intro w hSw; (try dsimp only at hSw); go_simp; try (with_reducible rfl))
        (try simp only [Act.put, List.setIfInBounds_toArray, List.set_cons_zero, List.set_cons_succ])
        refine wpAnyH_take (i := 1) (oi := ⟨some 16, _, _, _, _, _⟩) (v := ?_) rfl (by kernel_rfl) (by kernel_rfl) (by kernel_rfl) (fun _ _ _ h => h) (Or.inl ⟨by rfl, ?_⟩) (by assumption) ?_
        rotate_left
        · (intro w hSw; (try dsimp only at hSw); go_simp; try (with_reducible rfl))
        (try simp only [Act.put, List.setIfInBounds_toArray, List.set_cons_zero, List.set_cons_succ])
        refine wpAnyH_take (i := 2) (oi := ⟨some 17, _, _, _, _, _⟩) (v := ?_) rfl (by kernel_rfl) (by kernel_rfl) (by kernel_rfl) (fun _ _ _ h => h) (Or.inl ⟨by rfl, ?_⟩) (by assumption) ?_
        rotate_left
        · (intro w hSw; (try dsimp only at hSw); go_simp; try (with_reducible rfl))
        (try simp only [Act.put, List.setIfInBounds_toArray, List.set_cons_zero, List.set_cons_succ])
        refine wpAnyH_take (i := 3) (oi := ⟨some 18, _, _, _, _, _⟩) (v := ?_) rfl (by kernel_rfl) (by kernel_rfl) (by kernel_rfl) (fun _ _ _ h => h) (Or.inl ⟨by rfl, ?_⟩) (by assumption) ?_
        rotate_left
        · (intro w hSw; (try dsimp only at hSw); go_simp; try (with_reducible rfl))
        (try simp only [Act.put, List.setIfInBounds_toArray, List.set_cons_zero, List.set_cons_succ])
        refine wpAnyH_take (i := 4) (oi := ⟨some 19, _, _, _, _, _⟩) (v := ?_) rfl (by kernel_rfl) (by kernel_rfl) (by kernel_rfl) (fun _ _ _ h => h) (Or.inl ⟨by rfl, ?_⟩) (by assumption) ?_
        rotate_left
        · (intro w hSw; (try dsimp only at hSw); go_simp; try (with_reducible rfl))
        (try simp only [Act.put, List.setIfInBounds_toArray, List.set_cons_zero, List.set_cons_succ])
        refine wpAnyH_take (i := 5) (oi := ⟨some 20, _, _, _, _, _⟩) (v := ?_) rfl (by kernel_rfl) (by kernel_rfl) (by kernel_rfl) (fun _ _ _ h => h) (Or.inl ⟨by rfl, ?_⟩) (by assumption) ?_
        rotate_left
        · (intro w hSw; (try dsimp only at hSw); go_simp; try (with_reducible rfl))
        (try simp only [Act.put, List.setIfInBounds_toArray, List.set_cons_zero, List.set_cons_succ])
        refine wpAnyH_take (i := 6) (oi := ⟨some 21, _, _, _, _, _⟩) (v := .tuple #[.agg #[.int .u8 0, .string ⟨#[]⟩, .int .i64 0, .slice none 0 0], .bool false]) rfl (by kernel_rfl) (by kernel_rfl) (by kernel_rfl) (fun _ _ _ h => h) (Or.inl ⟨by rfl, ?_⟩) (by assumption) ?_
        · intro w hSw
          have hlk := MapAt.look_run hSw.2.2.1 75 30 Tryz.underlying75 Tryz.zeroT x.n HW.out
          rw [hMx.out] at hlk
          simp only [Option.getD_none, Option.getD_some, Option.isSome_none, Option.isSome_some] at hlk
          clear hSw
          go_simp
        (try simp only [Act.put, List.setIfInBounds_toArray, List.set_cons_zero, List.set_cons_succ])
        refine wpAnyH_take (i := 7) (oi := ⟨some 14, _, _, _, _, _⟩) (v := ?_) rfl (by kernel_rfl) (by kernel_rfl) (by kernel_rfl) (fun _ _ _ h => h) (Or.inl ⟨by rfl, ?_⟩) (by assumption) ?_
        rotate_left
        · (intro w hSw; (try dsimp only at hSw); go_simp; try (with_reducible rfl))
        (try simp only [Act.put, List.setIfInBounds_toArray, List.set_cons_zero, List.set_cons_succ])
        refine wpAnyH_take (i := 8) (oi := ⟨some 22, _, _, _, _, _⟩) (v := ?_) rfl (by kernel_rfl) (by kernel_rfl) (by kernel_rfl) (fun _ _ _ h => h) (Or.inl ⟨by rfl, ?_⟩) (by assumption) ?_
        rotate_left
        · (intro w hSw; (try dsimp only at hSw); go_simp; try (with_reducible rfl))
        (try simp only [Act.put, List.setIfInBounds_toArray, List.set_cons_zero, List.set_cons_succ])
        refine wpAnyH_take (i := 9) (oi := ⟨some 23, _, _, _, _, _⟩) (v := ?_) rfl (by kernel_rfl) (by kernel_rfl) (by kernel_rfl) (fun _ _ _ h => h) (Or.inl ⟨by rfl, ?_⟩) (by assumption) ?_
        rotate_left
        · (intro w hSw; (try dsimp only at hSw); go_simp; try (with_reducible rfl))
        (try simp only [Act.put, List.setIfInBounds_toArray, List.set_cons_zero, List.set_cons_succ])
        refine wpAnyH_ready (rs := [10]) (by kernel_rfl) (by simp) ?_
        refine AllReadyH.cons (o := ⟨some 5, _, _, _, _, _⟩) rfl (fun K hK => ?_) AllReadyH.nil
        go_simp
        refine hK.out _ _ (HS0 _ (hHeld.2.2.2.alloc hHeld.2.2.2.size _)) (fun hHeld => ?_)
        clear hK K
        (try simp only [Act.put, List.setIfInBounds_toArray, List.set_cons_zero, List.set_cons_succ])
        refine wpAnyH_ready (rs := [11]) (by kernel_rfl) (by simp) ?_
        refine AllReadyH.cons (o := ⟨none, _, _, _, _, _⟩) rfl (fun K hK => ?_) AllReadyH.nil
        go_simp
        refine hK.out _ _ (HS0 _ (((Below.refl _ wr).alloc (Nat.le_refl _) _).drew)) (fun hHeld => ?_)
        clear hK K
        (try simp only [Act.put, List.setIfInBounds_toArray, List.set_cons_zero, List.set_cons_succ])
        refine wpAnyH_take (i := 12) (oi := ⟨some 6, _, _, _, _, _⟩) (v := ?_) rfl (by kernel_rfl) (by kernel_rfl) (by kernel_rfl) (fun _ _ _ h => h) (Or.inl ⟨by rfl, ?_⟩) (by assumption) ?_
        rotate_left
        · (intro w hSw; (try dsimp only at hSw); go_simp; try (with_reducible rfl))
        (try simp only [Act.put, List.setIfInBounds_toArray, List.set_cons_zero, List.set_cons_succ])
        refine wpAnyH_done (by kernel_rfl) ?_ _
        clear HS0 hHeld
        have hB2 : Below wr.heap.size wr ((wr.alloc (.cells #[.int .u8 0, .string ⟨#[]⟩, .int .i64 0, .slice none 0 0] 30)).drew) := ((Below.refl _ wr).alloc (Nat.le_refl _) _).drew
        have hN2 : ((wr.alloc (.cells #[.int .u8 0, .string ⟨#[]⟩, .int .i64 0, .slice none 0 0] 30)).drew).heap[wr.heap.size]? = some (.cells #[.int .u8 0, .string ⟨#[]⟩, .int .i64 0, .slice none 0 0] 30) := heap_new wr _
        generalize (wr.alloc _).drew = W2 at hB2 hN2 ⊢
        obtain ⟨e0, e1, e2, e3, -, -, -, -⟩ := box4 hN2
        have hB2s := hB2.size
        replace c0 := cell_below hB2 c0 (by omega)
        replace c1 := cell_below hB2 c1 (by omega)
        replace c2 := cell_below hB2 c2 (by omega)
        replace c3 := cell_below hB2 c3 (by omega)
        replace d0 := cell_below hB2 d0 (by omega)
        replace d1 := cell_below hB2 d1 (by omega)
        replace d2 := cell_below hB2 d2 (by omega)
        replace d3 := cell_below hB2 d3 (by omega)
        replace f0 := frozen_below hB2 f0 (by omega)
        replace f1 := frozen_below hB2 f1 (by omega)
        replace f2 := frozen_below hB2 f2 (by omega)
        replace f3 := frozen_below hB2 f3 (by omega)
        replace g0 := frozen_below hB2 g0 (by omega)
        replace g1 := frozen_below hB2 g1 (by omega)
        replace g2 := frozen_below hB2 g2 (by omega)
        replace g3 := frozen_below hB2 g3 (by omega)
        go_wp2
        refine bodyPost_ret (v := .agg #[.int .u8 1, .string x.s, .int .i64 x.n, .slice A' x.l.length c']) (by simp [results, Tryz.results30, go_sem, d0, d1, d2, d3]) rfl ?_
        have hfin := hb.trans ((hB2.mono (Nat.le_trans (Nat.le_add_right _ 2) hszw)).grown (grown_set4 _ (w.heap.size + 1) (.int .u8 1) (.string x.s) (.int .i64 x.n) (.slice A' x.l.length c')) (by omega) (fun k hk => by injection hk with hk; omega))
        exact ⟨⟨_, rfl, by rw [← hres.out]; exact ⟨_, by rw [hk], (Kd.S.below hfin hS').mono (fun _ h => h.1)⟩⟩, hfin⟩
      | some u =>
        obtain ⟨vu, hMu, hVu⟩ := (HM2.out x.n).2 u ho
        obtain ⟨uu, rfl, hSu⟩ := hVu
        obtain ⟨Au, cu, rfl⟩ := hSu.form
        have hMx := Lib.hid hMu
        have hlt := Lib.hid (HR.out u (by simp [nxt, hk, ho]))
        have hsn := Lib.hid (HSN.out u (by simp [nxt, hk, ho]))
        clear ho HM2 HST HSN HR hMu
        go_wp2
        have HS0 : ∀ W, Below wr.heap.size wr W → (W.cell? ⟨p, 0, none⟩ = some (.map (some b)) ∧ W.cell? ⟨w.heap.size, 2, none⟩ = some (.int .i64 x.n) ∧ MapAt W b M l.length ∧ Below wr.heap.size wr W) := fun W h => ⟨cell_below h hp hplt, cell_below h c2 (by omega), HM.out.move (h.block b HM.out.lt), h⟩
        refine wp_region_held_drew (S := (fun W => W.cell? ⟨p, 0, none⟩ = some (.map (some b)) ∧ W.cell? ⟨w.heap.size, 2, none⟩ = some (.int .i64 x.n) ∧ MapAt W b M l.length ∧ Below wr.heap.size wr W)) (by kernel_rfl) ?_ (fun hHeld => ?_)
        · exact HS0 _ (Below.refl _ wr).drew
        change wpAnyH _ .any _ _ _ 13 (Array.replicate 13 false) _ _
        refine wpAnyH_take (i := 0) (oi := ⟨some 15, _, _, _, _, _⟩) (v := ?_) rfl (by kernel_rfl) (by kernel_rfl) (by kernel_rfl) (fun _ _ _ h => h) (Or.inl ⟨by rfl, ?_⟩) (by assumption) ?_
        rotate_left
        · (intro w hSw; (try dsimp only at hSw); go_simp; try (with_reducible rfl))
        (try simp only [Act.put, List.setIfInBounds_toArray, List.set_cons_zero, List.set_cons_succ])
        refine wpAnyH_take (i := 1) (oi := ⟨some 16, _, _, _, _, _⟩) (v := ?_) rfl (by kernel_rfl) (by kernel_rfl) (by kernel_rfl) (fun _ _ _ h => h) (Or.inl ⟨by rfl, ?_⟩) (by assumption) ?_
        rotate_left
        · (intro w hSw; (try dsimp only at hSw); go_simp; try (with_reducible rfl))
        (try simp only [Act.put, List.setIfInBounds_toArray, List.set_cons_zero, List.set_cons_succ])
        refine wpAnyH_take (i := 2) (oi := ⟨some 17, _, _, _, _, _⟩) (v := ?_) rfl (by kernel_rfl) (by kernel_rfl) (by kernel_rfl) (fun _ _ _ h => h) (Or.inl ⟨by rfl, ?_⟩) (by assumption) ?_
        rotate_left
        · (intro w hSw; (try dsimp only at hSw); go_simp; try (with_reducible rfl))
        (try simp only [Act.put, List.setIfInBounds_toArray, List.set_cons_zero, List.set_cons_succ])
        refine wpAnyH_take (i := 3) (oi := ⟨some 18, _, _, _, _, _⟩) (v := ?_) rfl (by kernel_rfl) (by kernel_rfl) (by kernel_rfl) (fun _ _ _ h => h) (Or.inl ⟨by rfl, ?_⟩) (by assumption) ?_
        rotate_left
        · (intro w hSw; (try dsimp only at hSw); go_simp; try (with_reducible rfl))
        (try simp only [Act.put, List.setIfInBounds_toArray, List.set_cons_zero, List.set_cons_succ])
        refine wpAnyH_take (i := 4) (oi := ⟨some 19, _, _, _, _, _⟩) (v := ?_) rfl (by kernel_rfl) (by kernel_rfl) (by kernel_rfl) (fun _ _ _ h => h) (Or.inl ⟨by rfl, ?_⟩) (by assumption) ?_
        rotate_left
        · (intro w hSw; (try dsimp only at hSw); go_simp; try (with_reducible rfl))
        (try simp only [Act.put, List.setIfInBounds_toArray, List.set_cons_zero, List.set_cons_succ])
        refine wpAnyH_take (i := 5) (oi := ⟨some 20, _, _, _, _, _⟩) (v := ?_) rfl (by kernel_rfl) (by kernel_rfl) (by kernel_rfl) (fun _ _ _ h => h) (Or.inl ⟨by rfl, ?_⟩) (by assumption) ?_
        rotate_left
        · (intro w hSw; (try dsimp only at hSw); go_simp; try (with_reducible rfl))
        (try simp only [Act.put, List.setIfInBounds_toArray, List.set_cons_zero, List.set_cons_succ])
        refine wpAnyH_take (i := 6) (oi := ⟨some 21, _, _, _, _, _⟩) (v := .tuple #[.agg #[.int .u8 u.k, .string u.s, .int .i64 u.n, .slice Au u.l.length cu], .bool true]) rfl (by kernel_rfl) (by kernel_rfl) (by kernel_rfl) (fun _ _ _ h => h) (Or.inl ⟨by rfl, ?_⟩) (by assumption) ?_
        · intro w hSw
          have hlk := MapAt.look_run hSw.2.2.1 75 30 Tryz.underlying75 Tryz.zeroT x.n HW.out
          rw [hMx.out] at hlk
          simp only [Option.getD_none, Option.getD_some, Option.isSome_none, Option.isSome_some] at hlk
          clear hSw
          go_simp
        (try simp only [Act.put, List.setIfInBounds_toArray, List.set_cons_zero, List.set_cons_succ])
        refine wpAnyH_take (i := 7) (oi := ⟨some 14, _, _, _, _, _⟩) (v := ?_) rfl (by kernel_rfl) (by kernel_rfl) (by kernel_rfl) (fun _ _ _ h => h) (Or.inl ⟨by rfl, ?_⟩) (by assumption) ?_
        rotate_left
        · (intro w hSw; (try dsimp only at hSw); go_simp; try (with_reducible rfl))
        (try simp only [Act.put, List.setIfInBounds_toArray, List.set_cons_zero, List.set_cons_succ])
        refine wpAnyH_take (i := 8) (oi := ⟨some 22, _, _, _, _, _⟩) (v := ?_) rfl (by kernel_rfl) (by kernel_rfl) (by kernel_rfl) (fun _ _ _ h => h) (Or.inl ⟨by rfl, ?_⟩) (by assumption) ?_
        rotate_left
        · (intro w hSw; (try dsimp only at hSw); go_simp; try (with_reducible rfl))
        (try simp only [Act.put, List.setIfInBounds_toArray, List.set_cons_zero, List.set_cons_succ])
        refine wpAnyH_take (i := 9) (oi := ⟨some 23, _, _, _, _, _⟩) (v := ?_) rfl (by kernel_rfl) (by kernel_rfl) (by kernel_rfl) (fun _ _ _ h => h) (Or.inl ⟨by rfl, ?_⟩) (by assumption) ?_
        rotate_left
        · (intro w hSw; (try dsimp only at hSw); go_simp; try (with_reducible rfl))
        (try simp only [Act.put, List.setIfInBounds_toArray, List.set_cons_zero, List.set_cons_succ])
        refine wpAnyH_ready (rs := [10]) (by kernel_rfl) (by simp) ?_
        refine AllReadyH.cons (o := ⟨some 5, _, _, _, _, _⟩) rfl (fun K hK => ?_) AllReadyH.nil
        go_simp
        refine hK.out _ _ (HS0 _ (hHeld.2.2.2.alloc hHeld.2.2.2.size _)) (fun hHeld => ?_)
        clear hK K
        (try simp only [Act.put, List.setIfInBounds_toArray, List.set_cons_zero, List.set_cons_succ])
        refine wpAnyH_ready (rs := [11]) (by kernel_rfl) (by simp) ?_
        refine AllReadyH.cons (o := ⟨none, _, _, _, _, _⟩) rfl (fun K hK => ?_) AllReadyH.nil
        go_simp
        refine hK.out _ _ (HS0 _ (((Below.refl _ wr).alloc (Nat.le_refl _) _).drew)) (fun hHeld => ?_)
        clear hK K
        (try simp only [Act.put, List.setIfInBounds_toArray, List.set_cons_zero, List.set_cons_succ])
        refine wpAnyH_take (i := 12) (oi := ⟨some 6, _, _, _, _, _⟩) (v := ?_) rfl (by kernel_rfl) (by kernel_rfl) (by kernel_rfl) (fun _ _ _ h => h) (Or.inl ⟨by rfl, ?_⟩) (by assumption) ?_
        rotate_left
        · (intro w hSw; (try dsimp only at hSw); go_simp; try (with_reducible rfl))
        (try simp only [Act.put, List.setIfInBounds_toArray, List.set_cons_zero, List.set_cons_succ])
        refine wpAnyH_done (by kernel_rfl) ?_ _
        clear HS0 hHeld
        have hB2 : Below wr.heap.size wr ((wr.alloc (.cells #[.int .u8 u.k, .string u.s, .int .i64 u.n, .slice Au u.l.length cu] 30)).drew) := ((Below.refl _ wr).alloc (Nat.le_refl _) _).drew
        have hN2 : ((wr.alloc (.cells #[.int .u8 u.k, .string u.s, .int .i64 u.n, .slice Au u.l.length cu] 30)).drew).heap[wr.heap.size]? = some (.cells #[.int .u8 u.k, .string u.s, .int .i64 u.n, .slice Au u.l.length cu] 30) := heap_new wr _
        generalize (wr.alloc _).drew = W2 at hB2 hN2 ⊢
        obtain ⟨e0, e1, e2, e3, -, -, -, -⟩ := box4 hN2
        have hB2s := hB2.size
        replace c0 := cell_below hB2 c0 (by omega)
        replace c1 := cell_below hB2 c1 (by omega)
        replace c2 := cell_below hB2 c2 (by omega)
        replace c3 := cell_below hB2 c3 (by omega)
        replace d0 := cell_below hB2 d0 (by omega)
        replace d1 := cell_below hB2 d1 (by omega)
        replace d2 := cell_below hB2 d2 (by omega)
        replace d3 := cell_below hB2 d3 (by omega)
        replace f0 := frozen_below hB2 f0 (by omega)
        replace f1 := frozen_below hB2 f1 (by omega)
        replace f2 := frozen_below hB2 f2 (by omega)
        replace f3 := frozen_below hB2 f3 (by omega)
        replace g0 := frozen_below hB2 g0 (by omega)
        replace g1 := frozen_below hB2 g1 (by omega)
        replace g2 := frozen_below hB2 g2 (by omega)
        replace g3 := frozen_below hB2 g3 (by omega)
        go_wp2
        have hfin := (hB2.mono (Nat.le_trans (Nat.le_add_right _ 2) hszw)).grown (grown_set4 _ w.heap.size (.int .u8 u.k) (.string u.s) (.int .i64 u.n) (.slice Au u.l.length cu)) (by omega) (fun k hk => by injection hk with hk; omega)
        go_roundg (gk - 1)
        case measure => have := HG.out; have := hlt.out; omega
        case rel =>
          refine ⟨m + 1, u, Au, cu, by have := HG.out; have := hlt.out; omega, hsn.out.symm, ?_, hSu, ?_, hb.trans hfin⟩
          · have h0 := (hB2.block w.heap.size (by omega)).trans HBX.out
            simp [World.setCell, Array.getElem?_modify, h0]
          · exact ((grown_set4 _ w.heap.size (.int .u8 u.k) (.string u.s) (.int .i64 u.n) (.slice Au u.l.length cu)).block _ (by omega) (fun he => by injection he; omega)).trans ((hB2.block _ (by omega)).trans HBR.out)
    · have hk' : (x.k == 1) = false := by simpa using hk
      have hres := Lib.hid (HST.out (by simp [nxt, hk]))
      clear HM2 HST HSN HR hk
      go_wp2
      refine bodyPost_ret (v := .agg #[.int .u8 x.k, .string x.s, .int .i64 x.n, .slice A' x.l.length c']) (by simp [results, Tryz.results30, go_sem, d0, d1, d2, d3]) rfl ?_
      have hfin := hb.trans ((Below.refl w.heap.size wr).grown (grown_set4 _ (w.heap.size + 1) (.int .u8 x.k) (.string x.s) (.int .i64 x.n) (.slice A' x.l.length c')) (by omega) (fun k hk => by injection hk with hk; omega))
      exact ⟨⟨_, rfl, by rw [← hres.out]; exact ⟨_, rfl, (Kd.S.below hfin hS').mono (fun _ h => h.1)⟩⟩, hfin⟩
end Go.Proofs.YtgcbanljifalnaaGreatDoor
/- The iterator over a term's nodes: 'walk', 'nodes'. Sizes and depths by the iterator. Conditions: the arguments read; terms of at most a million nodes, where a statement says so. -/
namespace Go.Proofs.YtgcbanljifalnaaGreatDoor
open Go.RowKit Go.Shelf
attribute [local go_sem] Oper.semAt_some

theorem wide_room (k : Nat) : (Fence.wide.depth.isSome = true → 1 ≤ k) := fun h => by simp [Fence.wide] at h
theorem YieldAt.any {m : Nat} (m' : Nat) {P : Program} {l : Nat} {args : Array Value} {W : World} {R : Ending → World → Prop} (h : YieldAt Fence.wide m P l args W R) : YieldAt Fence.wide m' P l args W R := by
  obtain ⟨fn, tmps, assign, body, hy, hR⟩ := h
  exact ⟨fn, tmps, assign, body, hy, ⟨hR.1, fun c cs _ => hR.2 c cs (room_wide _)⟩⟩

/-- A node as it is handed to yield: its depth, the term, its arguments' slice. -/
structure Nd where
  d : Nat
  t : Tm
  A : Option Addr
  c : Nat
def Nd.vals (x : Nd) : Array Value := #[.int .i64 x.d, .agg #[.int .u8 x.t.k, .string x.t.s, .int .i64 x.t.n, .slice x.A x.t.l.length x.c]]
def Nd.p (x : Nd) : Nat × Tm := (x.d, x.t)
mutual
/-- A term's nodes, with their depths, from the outside in. -/
def Tm.nodes : Tm → Nat → List (Nat × Tm)
  | ⟨k, s, n, l⟩, d => (d, ⟨k, s, n, l⟩) :: nodesL l (d + 1)
def nodesL : List Tm → Nat → List (Nat × Tm)
  | [], _ => []
  | t :: ts, d => t.nodes d ++ nodesL ts d
end
mutual
theorem nodes_length : ∀ (t : Tm) (d : Nat), (t.nodes d).length = t.siz
  | ⟨k, s, n, l⟩, d => by simp [Tm.nodes, Tm.siz, nodesL_length l]
theorem nodesL_length : ∀ (l : List Tm) (d : Nat), (nodesL l d).length = sizL l
  | [], d => by simp [nodesL, sizL]
  | t :: ts, d => by simp [nodesL, sizL, nodes_length t, nodesL_length ts]
end
theorem nodesL_append : ∀ (l m : List Tm) (d : Nat), nodesL (l ++ m) d = nodesL l d ++ nodesL m d
  | [], m, d => by simp [nodesL]
  | t :: ts, m, d => by simp [nodesL, nodesL_append ts m]
/-- What a round keeps for the iterator: what lay when the loop began, and every block of terms. -/
def KpT (n₀ : Nat) (W W' : World) : Prop := Below n₀ W W' ∧ ∀ (k : Nat) (c : Array Value), W.heap[k]? = some (.cells c 30 (0, 0)) → W'.heap[k]? = some (.cells c 30 (0, 0))
theorem KpT.trans {n₀ : Nat} {A B C : World} (h : KpT n₀ A B) (k : KpT n₀ B C) : KpT n₀ A C := ⟨h.1.trans k.1, fun i c hc => k.2 i c (h.2 i c hc)⟩
theorem KpT.of_below {n₀ : Nat} {A B : World} (h : Below A.heap.size A B) (hn : n₀ ≤ A.heap.size) : KpT n₀ A B := ⟨h.mono hn, fun i c hc => block_below h (Array.getElem?_eq_some_iff.1 hc).1 hc⟩
theorem KpT.put {n₀ : Nat} {w : World} (hn : n₀ ≤ w.heap.size) (W : World) (l : Nat) (o o' : Obj) (hl : w.heap.size ≤ l) (h : W.heap[l]? = some o) (hc : o.isCells = false) (hw : o.isWalk = false) : KpT n₀ W (W.putObj l o') :=
  ⟨belowK_b hn W l o o' hl h hc hw, fun k c hk => (World.putObj_heap_other (fun e => by subst e; rw [h] at hk; cases hk; cases hc)).trans hk⟩
theorem KpT.cell {n₀ : Nat} {W W' : World} (h : KpT n₀ W W') {B : Nat} {c : Array Value} (hB : W.heap[B]? = some (.cells c 30 (0, 0))) {o : Nat} {v : Value} (hc : W.cell? ⟨B, o, none⟩ = some v) : W'.cell? ⟨B, o, none⟩ = some v :=
  (cell_of_block ((h.2 B c hB).trans hB.symm) o).trans hc
theorem tmv_below {n₀ : Nat} {W W' : World} {t : Tm} {v : Value} (h : Below n₀ W W') (hv : TmV W (fun b => b < n₀) t v) : TmV W' (fun b => b < n₀) t v := TmV.move (fun b hb => h.block b hb) hv
theorem tms_below {n₀ : Nat} {W W' : World} {l : List Tm} {v : Value} (h : Below n₀ W W') (hv : Kd.tm.S W (fun b => b < n₀) l v) : Kd.tm.S W' (fun b => b < n₀) l v := Kd.S.move (fun b hb => h.block b hb) hv

set_option maxRecDepth 100000 in
set_option maxHeartbeats 2000000 in
theorem seqWalk (l n₀ N : Nat) (J Jx : List Nd → World → Prop) (B : Nat) (hJa : AbidesFrom B J)
    (hY : ∀ m pre x W, J pre W → pre.length < N → YieldAt Fence.wide m Tryz.prog l x.vals W fun e W' =>
      (e = .returned (.bool true) ∧ J (pre ++ [x]) W' ∧ KpT n₀ W W') ∨ (e = .returned (.bool false) ∧ Jx (pre ++ [x]) W')) (t : Tm) :
    ∀ (n d : Nat) (v : Value) (pre : List Nd) (W : World), TmV W (fun b => b < n₀) t v → J pre W → n₀ ≤ W.heap.size → pre.length + t.siz ≤ N → d + t.siz ≤ 2000000 →
      CallsIn Fence.wide n Tryz.prog 137 #[v, .int .i64 d, .func (.yield l) #[] #[]] W fun e W' =>
        (e = .returned (.bool true) ∧ (∃ xs, xs.map Nd.p = t.nodes d ∧ J (pre ++ xs) W') ∧ KpT n₀ W W') ∨ (e = .returned (.bool false) ∧ ∃ xs, xs.map Nd.p <+: t.nodes d ∧ Jx (pre ++ xs) W') := by
  refine Tm.ind (p := fun t => ∀ (n d : Nat) (v : Value) (pre : List Nd) (W : World), TmV W (fun b => b < n₀) t v → J pre W → n₀ ≤ W.heap.size → pre.length + t.siz ≤ N → d + t.siz ≤ 2000000 →
      CallsIn Fence.wide n Tryz.prog 137 #[v, .int .i64 d, .func (.yield l) #[] #[]] W fun e W' =>
        (e = .returned (.bool true) ∧ (∃ xs, xs.map Nd.p = t.nodes d ∧ J (pre ++ xs) W') ∧ KpT n₀ W W') ∨ (e = .returned (.bool false) ∧ ∃ xs, xs.map Nd.p <+: t.nodes d ∧ Jx (pre ++ xs) W')) ?_ t
  intro t ih n d v pre W hv hJ hn₀ hN hd
  obtain ⟨u, rfl, A, c, rfl, hl, hc, hA⟩ := hv
  obtain ⟨k, s, q, ts⟩ := t
  simp only [Tm.siz, Tm.nodes] at hl hA ih hN hd ⊢
  unfold maxLen at hc
  obtain ⟨O, hO⟩ : ∃ O : Obj, O = .cells #[.int .u8 k, .string s, .int .i64 q, .slice A ts.length c] 30 := ⟨_, rfl⟩
  have hJ1 : J pre (W.alloc O) := hJa pre W (W.alloc O) none hJ (World.grownBy_alloc W O none) (fun r e => by cases e)
  have hy := hY (n - 1) pre ⟨d, ⟨k, s, q, ts⟩, A, c⟩ (W.alloc O) hJ1 (by omega)
  obtain ⟨fn, tmps, assign, body, hy, hR⟩ := hy
  simp only [Nd.vals] at hy
  have hR' := hR.mono (R' := fun e W2 => (e = .returned (.bool true) ∧ J (pre ++ [⟨d, ⟨k, s, q, ts⟩, A, c⟩]) W2 ∧ KpT n₀ (W.alloc O) W2 ∧ W2.heap[W.heap.size]? = some O ∧ W2.cell? ⟨W.heap.size, 3, none⟩ = some (.slice A ts.length c)) ∨ (e = .returned (.bool false) ∧ Jx (pre ++ [⟨d, ⟨k, s, q, ts⟩, A, c⟩]) W2)) (fun e W2 h => h.elim (fun ⟨he, hj, hk⟩ => .inl ⟨he, hj, hk, by subst hO; exact hk.2 _ _ (heap_new W _), by
      subst hO; exact (box4 (hk.2 _ _ (heap_new W _))).2.2.2.1⟩) .inr)
  clear hR
  subst hO
  refine callsIn_of_wp Tryz.func137 rfl trivial ?_ rfl
  simp only [Tryz.ntmps137, List.size_toArray, List.length_cons, List.length_nil, Nat.reduceAdd, Nat.reduceSub, Array.replicate_succ, Array.replicate_zero, List.push_toArray, List.append_toArray, List.nil_append, List.cons_append]
  gi_wp2_with ((try refine ⟨wide_room _, ?_⟩); refine hR'.mono ?_; clear hR'; rintro e W2 (⟨rfl, hJ2, hk2, hbx, c3⟩ | ⟨rfl, hx2⟩))
  · have hb0 : Below n₀ W W2 := ((Below.refl _ W).alloc hn₀ _).trans hk2.1
    have hn2 : n₀ ≤ W2.heap.size := Nat.le_trans hn₀ (by have := hk2.1.size; simp at this; omega)
    gi_loopw [17] (fun i wr => ∃ j : Nat, j ≤ ts.length ∧ i = .int .i64 j ∧ (∃ xs, xs.map Nd.p = (d, ⟨k, s, q, ts⟩) :: nodesL (ts.take j) (d + 1) ∧ J (pre ++ xs) wr) ∧ KpT n₀ W2 wr) (fun i _ => ts.length - (intOf i).toNat)
    case atStart => exact ⟨0, Nat.zero_le _, rfl, ⟨[⟨d, ⟨k, s, q, ts⟩, A, c⟩], by simp [Nd.p, nodesL], hJ2⟩, ⟨Below.refl _ _, fun _ _ h => h⟩⟩
    case round =>
      obtain ⟨j, hj, rfl, ⟨xs, hxs, hJ3⟩, hk3⟩ := hrel
      have hb3 : Below n₀ W wr := hb0.trans hk3.1
      have hn3 : n₀ ≤ wr.heap.size := Nat.le_trans hn2 hk3.1.size
      by_cases hlt : j < ts.length
      · obtain ⟨b, o, u, rfl, hok, hlo, h0, h1, h2, h3, h4⟩ := tm_elem hA hlt
        have g0 := cell_below hb3 h0 hok
        have g1 := cell_below hb3 h1 hok
        have g2 := cell_below hb3 h2 hok
        have g3 := cell_below hb3 h3 hok
        have k4 := tms_below hb3 h4
        obtain ⟨Au, cu, rfl⟩ := h4.form
        have hzj := siz_mem (List.getElem_mem hlt)
        have hxl : xs.length = 1 + sizL (ts.take j) := by
          have := congrArg List.length hxs
          simp only [List.length_map, List.length_cons, nodesL_length] at this
          omega
        have htl : sizL (ts.take (j + 1)) + sizL (ts.drop (j + 1)) = sizL ts := by rw [← sizL_append, List.take_append_drop]
        have htl2 : sizL (ts.take (j + 1)) = sizL (ts.take j) + ts[j].siz := by rw [take_succ_at ts hlt, sizL_append]; simp [sizL]
        obtain ⟨O, hO⟩ : ∃ O : Obj, O = .cells #[.int .u8 ts[j].k, .string ts[j].s, .int .i64 ts[j].n, .slice Au ts[j].l.length cu] 30 := ⟨_, rfl⟩
        have hJ4 : J (pre ++ xs) (wr.alloc O) := hJa _ wr (wr.alloc O) none hJ3 (World.grownBy_alloc wr O none) (fun r e => by cases e)
        have hi := ih ts[j] (List.getElem_mem hlt) (n - 1) (d + 1) _ (pre ++ xs) (wr.alloc O) (tmv_below ((Below.refl _ wr).alloc hn3 _) ⟨_, rfl, k4⟩) hJ4 (by simp; omega) (by simp only [List.length_append]; omega) (by omega)
        rw [show ((d + 1 : Nat) : Int) = (d : Int) + 1 by omega] at hi
        have HI := Lib.hid hi
        clear hi
        have hnx : nodesL (ts.take (j + 1)) (d + 1) = nodesL (ts.take j) (d + 1) ++ ts[j].nodes (d + 1) := by rw [take_succ_at ts hlt, nodesL_append]; simp [nodesL]
        have HNX := Lib.hid hnx
        have HXS := Lib.hid hxs
        have HTL := Lib.hid htl
        have HTL2 := Lib.hid htl2
        have HXL := Lib.hid hxl
        subst hO
        clear hA h0 h1 h2 h3 h4 ih hy hY hnx hxs htl htl2 hxl
        gi_wp2_with (refine ⟨trivial, wide_room _, ?_⟩; gi_at_call 137; refine HI.out.mono ?_; clear HI; rintro e W5 (⟨rfl, ⟨ys, hys, hJ5⟩, hk5⟩ | ⟨rfl, ys, hys, hx5⟩))
        · gi_wp2
          go_roundw
          case rel => exact ⟨j + 1, by omega, by go_num, ⟨xs ++ ys, by rw [List.map_append, HXS.out, hys, HNX.out]; simp, by rw [← List.append_assoc]; exact hJ5⟩, hk3.trans ((KpT.of_below ((Below.refl _ wr).alloc (Nat.le_refl _) _) hn3).trans hk5)⟩
          case measure => simp [intOf]; omega
        · gi_wp2
          go_ret
          obtain ⟨rest, hrest⟩ := hys
          refine .inr ⟨rfl, xs ++ ys, ⟨rest ++ nodesL (ts.drop (j + 1)) (d + 1), ?_⟩, by rw [← List.append_assoc]; exact hx5⟩
          rw [List.map_append, HXS.out]
          have : nodesL ts (d + 1) = nodesL (ts.take (j + 1)) (d + 1) ++ nodesL (ts.drop (j + 1)) (d + 1) := by rw [← nodesL_append, List.take_append_drop]
          rw [this, HNX.out, ← hrest]
          simp
      · have HXS := Lib.hid hxs
        clear hxs hA ih hy hY
        gi_wp2
        go_ret
        refine .inl ⟨rfl, ⟨xs, by rw [HXS.out, List.take_of_length_le (by omega)], hJ3⟩, ?_⟩
        exact (KpT.of_below ((Below.refl _ W).alloc (Nat.le_refl _) _) hn₀).trans (hk2.trans hk3)
  · go_ret
    exact .inr ⟨rfl, [⟨d, ⟨k, s, q, ts⟩, A, c⟩], ⟨nodesL ts (d + 1), by simp [Nd.p]⟩, hx2⟩

open Go.RowKit Go.Shelf
attribute [local go_sem] Oper.semAt_some

set_option maxHeartbeats 1000000 in
theorem nodes1_stops (n n₀ Bt : Nat) (t : Tm) (v : Value) (w : World) (hn₀ : n₀ ≤ w.heap.size) (hv : TmV w (fun b => b < n₀) t v) (hz : t.siz ≤ 1000000)
    (hb : ∀ A c, v = .agg #[.int .u8 t.k, .string t.s, .int .i64 t.n, .slice A t.l.length c] → w.heap[Bt]? = some (.cells #[.int .u8 t.k, .string t.s, .int .i64 t.n, .slice A t.l.length c] 30 (0, 0))) :
    SeqStopsK Fence.wide n Tryz.prog 136 #[.pointer (some ⟨Bt, 0, none⟩)] Nd.vals (KpT n₀) (fun xs => xs.map Nd.p = t.nodes 1) (fun pre => pre.map Nd.p <+: t.nodes 1) t.siz w := by
  intro l J Jx W hW hJ hJx hY h0
  obtain ⟨u, hvu, A, c, hu, hl, hc, hA⟩ := hv
  subst hu
  have hbt := hb A c hvu
  have hbW : W.heap[Bt]? = _ := block_below hW (Array.getElem?_eq_some_iff.1 hbt).1 hbt
  obtain ⟨c0, c1, c2, c3, -, -, -, -⟩ := box4 hbW
  have hV : TmV W (fun b => b < n₀) t (.agg #[.int .u8 t.k, .string t.s, .int .i64 t.n, .slice A t.l.length c]) := tmv_below (hW.mono hn₀) ⟨_, rfl, A, c, rfl, hl, hc, hA⟩
  have HW := Lib.hid (seqWalk l n₀ t.siz J Jx W.heap.size hJ (fun m pre x W1 hj hlt => YieldAt.any m (hY pre x W1 hj hlt)) t (n - 1) 1 _ [] W hV h0 (Nat.le_trans hn₀ hW.size) (by simp) (by omega))
  clear hY hA
  refine callsIn_of_wp Tryz.func136 rfl trivial ?_ rfl
  simp only [Tryz.ntmps136, List.size_toArray, List.length_cons, List.length_nil, Nat.reduceAdd, Nat.reduceSub, Array.replicate_succ, Array.replicate_zero, List.push_toArray, List.append_toArray, List.nil_append, List.cons_append]
  gi_wp2_with (refine ⟨trivial, wide_room _, ?_⟩; gi_at_call 137; refine HW.out.mono ?_; clear HW; rintro e W1 (⟨rfl, ⟨xs, hxs, hJ1⟩, hk1⟩ | ⟨rfl, xs, hxs, hx1⟩))
  · go_end0
    exact ⟨⟨_, rfl⟩, .inl ⟨xs, hxs, by simpa using hJ1⟩⟩
  · go_end0
    exact ⟨⟨_, rfl⟩, .inr ⟨xs, hxs, by simpa using hx1⟩⟩

/-- 'nodes(t)': the term is boxed; the function value captures the box. -/
theorem nodes_in (n : Nat) (k q : Int) (s : ByteArray) (A : Option Addr) (m c : Nat) (w : World) :
    CallsIn Fence.wide n Tryz.prog 98 #[.agg #[.int .u8 k, .string s, .int .i64 q, .slice A m c]] w fun e w' => e = .returned (.func (.func 136) #[] #[.pointer (some ⟨w.heap.size, 0, none⟩)]) ∧ w' = w.alloc (.cells #[.int .u8 k, .string s, .int .i64 q, .slice A m c] 30) := by
  refine callsIn_of_wp Tryz.func98 rfl trivial ?_ rfl
  simp only [Tryz.ntmps98, List.size_toArray, List.length_cons, List.length_nil, Nat.reduceAdd, Nat.reduceSub, Array.replicate_succ, Array.replicate_zero, List.push_toArray, List.append_toArray, List.nil_append, List.cons_append]
  gi_wp2
  go_ret
  exact ⟨rfl, rfl⟩

/-- A store into a box that holds no term. -/
theorem kpT_set {n₀ : Nat} {W : World} {B : Nat} {ty : TypeId} {v : Value} (hn : n₀ ≤ W.heap.size) (hb : Boxed W B ty v) (hty : ty ≠ 30) (hB : n₀ ≤ B) (u : Value) : KpT n₀ W (W.setCell ⟨B, 0, none⟩ u) :=
  ⟨(Below.refl n₀ W).setCell (p := ⟨B, 0, none⟩) hB u, fun k c hk => (Below.heap_setCell W _ u k (fun e => by
    have e' : k = B := e
    subst e'
    rw [show W.heap[k]? = _ from hb] at hk
    injection hk with hk
    injection hk with _ hk
    exact hty hk)).trans hk⟩
end Go.Proofs.YtgcbanljifalnaaGreatDoor
/- The variables of a list, by the iterator. Conditions: the arguments read; terms of at most a million nodes. -/
namespace Go.Proofs.YtgcbanljifalnaaGreatDoor
open Go.RowKit Go.Shelf
attribute [local go_sem] Oper.semAt_some

/-- The mark that a range over a function leaves. -/
def mark (D : Nat) : Deferred := { target := .collected D, args := #[] }
theorem leaves_marks {P : Program} {F : Fence} {n : Nat} {fn : Func} {tmps : Array Value} {R : Ending → World → Prop} (v : Value) (hr : ∀ w, (results fn tmps).run P w = .ok v w) (w0 : World) :
    ∀ (ds : List Nat) (w : World), ds.Nodup → (∀ D ∈ ds, w0.heap.size ≤ D ∧ w.heap[D]? = some (.deferred (some []))) → Below w0.heap.size w0 w → (∀ w', Below w0.heap.size w0 w' → Keeps (· ∈ ds) w w' → R (.returned v) w') →
    LeavesInM F n P fn tmps R (ds.map mark) .returning w
  | [], w, _, _, hb, h => ⟨v, hr w, h w hb (Keeps.refl _ _)⟩
  | D :: ds, w, hn, hd, hb, h => by
    have h1 := hd D (by simp)
    have hlt := (Array.getElem?_eq_some_iff.1 h1.2).1
    have hn' := List.nodup_cons.1 hn
    refine ⟨by simp, .inl ⟨D, _, rfl, run_takeDeferred h1.2, ?_⟩⟩
    refine leaves_marks v hr w0 ds _ hn'.2 (fun E hE => ⟨(hd E (by simp [hE])).1, ?_⟩) (hb.trans (belowK_b (w := w0) (Nat.le_refl _) w D _ _ h1.1 h1.2 rfl rfl)) ?_
    · exact (World.putObj_heap_other (fun e => hn'.1 (by first | rw [← e]; exact hE | rw [e]; exact hE))).trans (hd E (by simp [hE])).2
    · intro w' hb' hk
      have hg := grownBy_putObj' w D (.deferred none)
      exact h w' hb' ⟨hk.os.trans hg.os, hk.tape.trans hg.tape, hk.output.trans hg.output, Nat.le_trans hg.size hk.size, fun k hk1 hk2 =>
        (hk.block k (Nat.lt_of_lt_of_le hk1 hg.size) (fun hm => hk2 (by simp [hm]))).trans (hg.block k hk1 (fun e => hk2 (by injection e with e; simp [e])))⟩

theorem Kd.Own.cells {α : Type} {d : Kd α} {e : TypeId} {w : World} {base : Nat} {ok : Nat → Prop} {xs : List α} {v : Value} (h : d.Own e w base ok xs v) : ∀ k, v.ownBlock = some k → ∃ c : Array Value, w.heap[k]? = some (.cells c e (0, 0)) := by
  obtain ⟨cells, h1, h2⟩ := h
  obtain ⟨hl, h3⟩ := h1
  rcases h3 with ⟨rfl, hn⟩ | ⟨g, cap, cur, rfl, hg, hh, hc1, hc2, hc3, ht⟩
  · intro k hk; simp [Value.ownBlock] at hk
  · intro k hk
    simp only [Value.ownBlock] at hk
    injection hk with hk
    subst hk
    exact ⟨_, hh⟩
theorem Kd.Own.keepsFrom {α : Type} {d : Kd α} {e : TypeId} {w w1 : World} {base B : Nat} {ok : Nat → Prop} {xs : List α} {v : Value} (h : d.Own e w base ok xs v) (hg : w.grownBy w1 v.ownBlock) : KeepsFrom B w w1 :=
  ⟨hg.size, fun k o hB hk ho => (hg.block k (Array.getElem?_eq_some_iff.1 hk).1 (fun e => by
    obtain ⟨c, hc⟩ := h.cells k e.symm
    rw [hk] at hc; cases hc; cases ho)).trans hk⟩
theorem Kd.Own.kpT {α : Type} {d : Kd α} {e : TypeId} {w w1 : World} {base n₀ : Nat} {ok : Nat → Prop} {xs : List α} {v : Value} (h : d.Own e w base ok xs v) (he : e ≠ 30) (hn : n₀ ≤ base) (hn' : n₀ ≤ w.heap.size) (hg : w.grownBy w1 v.ownBlock) : KpT n₀ w w1 :=
  ⟨(Below.refl n₀ w).grown hg hn' (fun k hk => Nat.le_trans hn (Kd.Own.lt' h k hk)), fun k c hk => (hg.block k (Array.getElem?_eq_some_iff.1 hk).1 (fun e' => by
    obtain ⟨c', hc⟩ := h.cells k e'.symm
    rw [hk] at hc
    injection hc with hc
    injection hc with _ hc
    exact he hc.symm)).trans hk⟩
theorem Boxed.ne_own {α : Type} {d : Kd α} {t e : TypeId} {w : World} {base B : Nat} {ok : Nat → Prop} {xs : List α} {u v : Value} (hb : Boxed w B t u) (h : d.Own e w base ok xs v) (hte : t ≠ e) : some B ≠ v.ownBlock := fun e' => by
  obtain ⟨c, hc⟩ := h.cells B e'.symm
  rw [show w.heap[B]? = _ from hb] at hc
  injection hc with hc
  injection hc with _ hc
  exact hte hc
theorem KeepsFrom.of_below {B : Nat} {w w1 : World} (h : Below w.heap.size w w1) : KeepsFrom B w w1 := ⟨h.size, fun k o _ hk _ => block_below h (Array.getElem?_eq_some_iff.1 hk).1 hk⟩
theorem boxed_below {w W : World} {B : Nat} {t : TypeId} {v : Value} (h : Boxed w B t v) (hb : Below w.heap.size w W) : Boxed W B t v := block_below hb h.lt h
/-- Whatever is no cell may turn from B on. -/
theorem own_from {α : Type} {d : Kd α} {e : TypeId} {β : Type} {B base : Nat} {ok : Nat → Prop} (hok : ∀ b, ok b → b < B) (f : β → List α) (v : β → Value) : OwnFrom B (fun s W => d.Own e W base ok (f s) (v s)) := fun s X Y row hs hg hr =>
  Kd.Own.grown hg (fun b hb e => by have := (hr b e.symm).1; have := hok b hb; omega) (by
    cases hv : (v s).ownBlock with
    | none => exact .inl rfl
    | some k =>
      refine .inr (fun e => ?_)
      obtain ⟨c, hc⟩ := Kd.Own.cells hs k hv
      obtain ⟨_, o, ho, hoc⟩ := hr k e.symm
      rw [hc] at ho; cases ho; cases hoc) hs

section
variable {P : Program} {F : Fence} {nF : Nat} {ops : Array Oper} {rest : List Oper} {o : Oper} {a : Act} {Q : Exit → Act → World → Prop}
/-- append(v, y), within a fence. -/
theorem Kd.appendIn {α : Type} (d : Kd α) {W : World} (base : Nat) (ok : Nat → Prop) (hgd : o.guard = none) (s x : Operand) (t e : TypeId) (z : Value) (bytes : Nat)
    (ho : o.op = .call { callee := .builtin .append, args := #[s, x], argTypes := #[t, t] })
    (ht : P.underlying t = some (.slice e)) (hinfo : (P.info? e).map (fun i => (i.zero, i.size, i.bytes)) = some (some z, d.sz, bytes)) (hz : z.cells.size = d.sz) (hb0 : 0 < bytes)
    (v : Value) (xs : List α) (y : α) (cs : List Value) (hs : a.eval s = v) (hx : a.eval x = .slice (some ⟨W.heap.size, 0, none⟩) 1 1)
    (hy : d.K W (fun b => ok b ∧ some b ≠ v.ownBlock) y cs) (HO : d.Own e W base ok xs v) (hbase : base ≤ W.heap.size) (hl : (xs.length + 1) * bytes ≤ 140737488355328)
    (h : ∀ v1 w1, d.Own e w1 base ok (xs ++ [y]) v1 → W.grownBy w1 v.ownBlock → (v1.ownBlock = v.ownBlock ∨ ∃ b, v1.ownBlock = some b ∧ W.heap.size ≤ b) → wpListIn F nF P ops Q rest (a.put o.dst v1) w1) :
    wpListIn F nF P ops Q (o :: rest) a (W.alloc (.cells cs.toArray e)) := by
  obtain ⟨i0, hi, hzz⟩ := Option.map_eq_some_iff.1 hinfo
  simp only [Prod.mk.injEq] at hzz
  obtain ⟨hz0, hz1, hz2⟩ := hzz
  obtain ⟨cells, h1, h2⟩ := HO
  have hlen : xs.length + 1 ≤ 140737488355328 := Nat.le_trans (Nat.le_mul_of_pos_right _ hb0) hl
  have hcl := d.len hy
  refine wpListIn_append_own_at (W.alloc (.cells cs.toArray e)) hgd s x t ho base e i0 z d.sz bytes ht hi hz0 hz1 hz2 hz d.pos v xs.length cells hs (h1.alloc _) ⟨W.heap.size, 0, none⟩ 1 1 cs hx (by rw [hcl]; omega)
    (by simpa using World.news_of_block (w := W.alloc (.cells cs.toArray e)) (cs := cs.toArray) (t := e) (fr := (0, 0)) (heap_alloc_new W _)) (d.one hy) (by simp only [maxLen]; omega) hl (by simp; omega) ?_
  intro v1 w1 hown hg _ hat
  have hgW : W.grownBy w1 v.ownBlock := World.grownBy.trans (World.grownBy_alloc W _ _) hg
  have hat' : v1.ownBlock = v.ownBlock ∨ ∃ b, v1.ownBlock = some b ∧ W.heap.size ≤ b := by
    rcases hat with hat | hat
    · exact .inl hat
    · exact .inr ⟨_, hat, by simp⟩
  have hmv : ∀ x c, d.K W (fun b => ok b ∧ some b ≠ v.ownBlock) x c → d.K w1 (fun b => ok b ∧ some b ≠ v1.ownBlock) x c := by
    intro x c hk
    have hb := d.bound hk
    refine d.mono ?_ (d.move (fun b hb => hgW.block b hb.2 hb.1.2) hb)
    rintro b ⟨⟨hb1, hb2⟩, hb3⟩
    refine ⟨hb1, ?_⟩
    rcases hat' with hat | ⟨b', hat, hle⟩
    · rw [hat]; exact hb2
    · rw [hat]; intro he; injection he; omega
  have hcl2 : cells.length = xs.length * d.sz := h1.1
  refine h v1 w1 ⟨cells ++ cs, by simpa using hown, fun j x hx => ?_⟩ hgW hat'
  rcases Nat.lt_or_ge j xs.length with hj | hj
  · rw [List.getElem?_append_left hj] at hx
    have := hmv _ _ (h2 j x hx)
    have hjs : j * d.sz + d.sz ≤ cells.length := by rw [hcl2, ← Nat.succ_mul]; exact Nat.mul_le_mul_right _ hj
    rwa [List.drop_append_of_le_length (by omega), List.take_append_of_le_length (by rw [List.length_drop]; omega)]
  · rw [List.getElem?_append_right hj] at hx
    obtain rfl : j = xs.length := by
      have := (List.getElem?_eq_some_iff.1 hx).1
      simp at this; omega
    simp only [Nat.sub_self, List.getElem?_cons_zero, Option.some.injEq] at hx
    subst hx
    have := hmv _ _ hy
    rw [← hcl2, List.drop_left, ← hcl, List.take_length]
    exact this
end

/-- The variables among some nodes, in order. -/
def nums (l : List (Nat × Tm)) : List Int := l.flatMap fun x => if x.2.k = 1 then [x.2.n] else []
theorem nums_append (l m : List (Nat × Tm)) : nums (l ++ m) = nums l ++ nums m := by simp [nums]
theorem nums_length (l : List (Nat × Tm)) : (nums l).length ≤ l.length := by
  induction l with
  | nil => simp [nums]
  | cons x l ih =>
    rw [show x :: l = [x] ++ l from rfl, nums_append, List.length_append, List.length_append]
    have : (nums [x]).length ≤ 1 := by simp only [nums, List.flatMap_cons, List.flatMap_nil, List.append_nil]; split <;> simp
    simp only [List.length_singleton]
    omega
mutual
theorem nums_nodes : ∀ (t : Tm) (d : Nat), nums (t.nodes d) = t.occ
  | ⟨k, s, n, l⟩, d => by
    simp only [Tm.nodes, nums, List.flatMap_cons, Tm.occ]
    rw [show (nodesL l (d + 1)).flatMap (fun x => if x.2.k = 1 then [x.2.n] else []) = nums (nodesL l (d + 1)) from rfl, nums_nodesL l (d + 1)]
theorem nums_nodesL : ∀ (l : List Tm) (d : Nat), nums (nodesL l d) = occL l
  | [], d => rfl
  | t :: ts, d => by rw [nodesL, nums_append, nums_nodes t d, nums_nodesL ts d, occL]
end
end Go.Proofs.YtgcbanljifalnaaGreatDoor

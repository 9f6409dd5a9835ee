/- Walks of layer 1: ground terms; the terms that are known. Conditions: the arguments read; terms of at most a million nodes. -/
import Derived.Test.YtgoeglahmlpmeaaW9
import Derived.Test.YtgoeglahmlpmeaaWb
import Derived.Test.YtgoeglahmlpmeaaWc
import Derived.Sort.AtCall
set_option linter.unusedVariables false
set_option linter.unusedSimpArgs false
namespace Go.Proofs.Ytgoeglahmlpmeaa
open Go.RowKit

/-- A row of one term, and of two, written out. -/
theorem lit1 {w W : World} {ok : Nat → Prop} {t : Tm} {u : Value} (h : Kd.tm.S W ok t.l u) (hW : Below w.heap.size w W) :
    Kd.tm.S (W.alloc (.cells #[.int .u8 t.k, .string t.s, .int .i64 t.n, u] 26)) (fun b => ok b ∨ w.heap.size ≤ b) [t] (.slice (some ⟨W.heap.size, 0, none⟩) 1 1) :=
  Kd.Own.S (Kd.Own.lit (d := Kd.tm) (e := 26) (base := w.heap.size) (ok := ok) (xs := [t]) [.int .u8 t.k, .string t.s, .int .i64 t.n, u] hW.size rfl (by simp [maxLen]) (fun j x hx => by
    cases j with
    | zero => simp at hx; subst hx; exact TmK_iff.2 ⟨u, rfl, h⟩
    | succ j => simp at hx))
theorem lit2 {w W : World} {ok : Nat → Prop} {t t' : Tm} {u u' : Value} (h : Kd.tm.S W ok t.l u) (h' : Kd.tm.S W ok t'.l u') (hW : Below w.heap.size w W) :
    Kd.tm.S (W.alloc (.cells #[.int .u8 t.k, .string t.s, .int .i64 t.n, u, .int .u8 t'.k, .string t'.s, .int .i64 t'.n, u'] 26)) (fun b => ok b ∨ w.heap.size ≤ b) [t, t'] (.slice (some ⟨W.heap.size, 0, none⟩) 2 2) := by
  have hk : ∀ j x, [t, t'][j]? = some x → Kd.tm.K W ok x (([.int .u8 t.k, .string t.s, .int .i64 t.n, u, .int .u8 t'.k, .string t'.s, .int .i64 t'.n, u'].drop (j * 4)).take 4) := fun j x hx => by
    match j, hx with
    | 0, hx => simp at hx; subst hx; exact TmK_iff.2 ⟨u, by simp, h⟩
    | 1, hx => simp at hx; subst hx; exact TmK_iff.2 ⟨u', by simp, h'⟩
    | j + 2, hx => simp at hx
  exact Kd.Own.S (Kd.Own.lit (d := Kd.tm) (e := 26) (base := w.heap.size) (ok := ok) (xs := [t, t']) [.int .u8 t.k, .string t.s, .int .i64 t.n, u, .int .u8 t'.k, .string t'.s, .int .i64 t'.n, u'] hW.size (by simp [Kd.tm]) (by simp [maxLen]) hk)
theorem litI2 (w : World) (x y : Int) : (Kd.int .i64).S (w.alloc (.cells #[.int .i64 x, .int .i64 y] 2)) (fun _ => True) [x, y] (.slice (some ⟨w.heap.size, 0, none⟩) 2 2) :=
  Kd.S.mono (fun _ _ => trivial) (Kd.Own.S (Kd.Own.lit (d := Kd.int .i64) (e := 2) (base := w.heap.size) (ok := fun _ => True) (xs := [x, y]) [.int .i64 x, .int .i64 y] (Nat.le_refl _) rfl (by simp [maxLen]) (fun j z hz => by
    match j, hz with
    | 0, hz => simp at hz; subst hz; rfl
    | 1, hz => simp at hz; subst hz; rfl
    | j + 2, hz => simp at hz)))

theorem Ground_c (t : Tm) (v : Value) (w : World) (ok : Nat → Prop) (hv : TmV w ok t v) (hz : t.siz ≤ 1000000) :
    Calls Try.prog 23 #[v] w fun e w' => e = .returned (.bool (decide (t.occ = []))) ∧ Below w.heap.size w w' := by
  obtain ⟨u, rfl, hS⟩ := hv
  have hz1 : sizL [t] ≤ 1000000 := by simp [sizL]; omega
  have hst : ∀ O O' : Obj, Below w.heap.size w ((w.alloc O).alloc O') := fun O O' => ((Below.refl _ w).alloc (Nat.le_refl _) O).alloc (by simp) O'
  have HV := Lib.hid (fun W (hW : Below w.heap.size w W) => Vars_c [t] (.slice (some ⟨W.heap.size, 0, none⟩) 1 1) (W.alloc (.cells #[.int .u8 t.k, .string t.s, .int .i64 t.n, u] 26)) (fun b => ok b ∨ w.heap.size ≤ b) (lit1 (w := w) (W := W) (ok := ok) (t := t) (u := u) (hS.below hW) hW) hz1)
  have ho : occL [t] = t.occ := by simp [occL]
  rw [ho] at HV
  obtain ⟨A, c, rfl, hl, hc, hA⟩ := hS
  have HX : Hid (decide ((dd t.occ).length = 0) = decide (t.occ = [])) := Lib.hid (by
    rw [decide_eq_decide]
    constructor
    · intro h
      have h0 := List.eq_nil_of_length_eq_zero h
      cases hq : t.occ with
      | nil => rfl
      | cons n l =>
        have : n ∈ dd t.occ := dd_mem.2 (by rw [hq]; simp)
        rw [h0] at this
        cases this
    · intro h; rw [h]; rfl)
  clear hA ho hz1
  generalize t.occ = oc at HV HX ⊢
  go_enter Try.func23, Try.ntmps23
  go_wp2_with (go_at_call 20; have hv := HV.out _ ((Below.refl _ w).alloc (Nat.le_refl _) (.cells #[.int .u8 t.k, .string t.s, .int .i64 t.n, .slice A t.l.length c] 26)); rw [World.size_alloc] at hv; refine hv.mono ?_; rintro e w1 ⟨⟨r, rfl, hr⟩, hb1⟩; obtain ⟨Ar, cr, rfl⟩ := Kd.Own.form hr)
  go_ret
  refine ⟨ret_bool ?_, below_then (hst _ _) (by simp; omega) hb1⟩
  rw [← HX.out]
  rw [Bool.eq_iff_iff, beq_iff_eq, decide_eq_true_eq]; omega

/-- The terms that are known. -/
def kV (n : Int) : Tm := ⟨1, ⟨#[]⟩, n, []⟩
def kG : Tm := ⟨4, ⟨#[103]⟩, 0, [kV 0, kV 1]⟩
def kF : Tm := ⟨4, ⟨#[102]⟩, 0, [kV 1, kG]⟩
def kH : Tm := ⟨4, ⟨#[102]⟩, 0, [⟨3, ⟨#[97]⟩, 0, []⟩, ⟨2, ⟨#[]⟩, 1, []⟩]⟩
theorem kF_wf : kF.Wf := by
  simp [kF, kG, kV, Tm.Wf, WfL]
  decide
theorem kE_wf : Tm.Wf ⟨4, ⟨#[102]⟩, 0, []⟩ := by
  simp [Tm.Wf, WfL]
  decide
theorem kF_good : kF.good = true := by
  simp [kF, kG, kV, Tm.good, Tm.shp, shpL, Tm.dep, depL, nameOk, ByteArray.size]
theorem kE_good : Tm.good ⟨4, ⟨#[102]⟩, 0, []⟩ = false := by
  simp [Tm.good, Tm.shp]
theorem kH_ground : decide (kH.occ = []) = true := by
  simp [kH, Tm.occ, occL]
theorem kF_siz : kF.siz = 5 := by
  simp [kF, kG, kV, Tm.siz, sizL]
theorem kF_dep : kF.dep = 3 := by
  simp [kF, kG, kV, Tm.dep, depL]
theorem kG_v {W : World} {ok : Nat → Prop} {v : Value} (h : TmV W ok kG v) : ∃ u, v = .agg #[.int .u8 4, .string ⟨#[103]⟩, .int .i64 0, u] ∧ Kd.tm.S W ok [kV 0, kV 1] u := h
theorem kF_v {W : World} {ok : Nat → Prop} {v : Value} (h : TmV W ok kF v) : ∃ u, v = .agg #[.int .u8 4, .string ⟨#[102]⟩, .int .i64 0, u] ∧ Kd.tm.S W ok [kV 1, kG] u := h
theorem kH_v {W : World} {ok : Nat → Prop} {v : Value} (h : TmV W ok kH v) : ∃ u, v = .agg #[.int .u8 4, .string ⟨#[102]⟩, .int .i64 0, u] ∧ Kd.tm.S W ok kH.l u := h
/-- What is known of a world with the term in a box. -/
def Kn (w : World) (B : Nat) (u : Value) (W : World) : Prop :=
  Below w.heap.size w W ∧ Kd.tm.S W (fun b => w.heap.size ≤ b) [kV 1, kG] u ∧ W.heap[B]? = some (.cells #[.int .u8 4, .string ⟨#[102]⟩, .int .i64 0, u] 26 (0, 0))
theorem Kn.then {w W W' : World} {B : Nat} {u : Value} (h : Kn w B u W) (hb : Below W.heap.size W W') : Kn w B u W' :=
  ⟨below_then h.1 h.1.size hb, h.2.1.below hb, block_below hb (Array.getElem?_eq_some_iff.1 h.2.2).1 h.2.2⟩
theorem Kn.alloc {w W : World} {B : Nat} {u : Value} (h : Kn w B u W) (O : Obj) : Kn w B u (W.alloc O) := h.then ((Below.refl _ W).alloc (Nat.le_refl _) O)
theorem Kn.tmv {w W : World} {B : Nat} {u : Value} (h : Kn w B u W) : TmV W (fun b => w.heap.size ≤ b) kF (.agg #[.int .u8 4, .string ⟨#[102]⟩, .int .i64 0, u]) := ⟨u, rfl, h.2.1⟩
theorem Numbers_yes (l : List Int) (v v' : Value) (w : World) (ok ok' : Nat → Prop) (hv : (Kd.int .i64).S w ok l v) (hv' : (Kd.int .i64).S w ok' l v') :
    Calls Try.prog 21 #[v, v'] w fun e w' => e = .returned (.bool true) ∧ Below w.heap.size w w' := by
  have := Numbers_c l l v v' w ok ok' hv hv'
  simpa using this

set_option maxHeartbeats 3200000 in
theorem wakes_c (w : World) :
    Calls Try.prog 14 #[] w fun e w' => e = .returned (.bool true) ∧ Below w.heap.size w w' := by
  have hg1 : mkF ⟨#[103]⟩ [kV 0, kV 1] = kG := by simp [mkF, kG]
  have hg2 : mkF ⟨#[102]⟩ [kV 1, kG] = kF := by simp [mkF, kF]
  have hg3 : mkF ⟨#[102]⟩ kH.l = kH := by simp [mkF, kH]
  have hb := Below.refl w.heap.size w
  go_enter Try.func14, Try.ntmps14
  go_wp2_with (first
    | (go_at_call 17; refine (V_c _ _ (fun _ => False)).mono ?_; rintro e w1 ⟨rfl, hb1⟩; replace hb := below_then hb hb.size hb1; clear hb1)
    | (go_at_call 15; refine (F_c ⟨#[103]⟩ [kV 0, kV 1] _ _ _ _ (Kd.S.S2 (lit2 (w := w) (ok := fun _ => False) (t := kV 0) (t' := kV 1) (Kd.S.nil _ _ _) (Kd.S.nil _ _ _) hb)) (by simp)).mono ?_; rw [hg1]; rintro e w2 ⟨⟨g, rfl, hg⟩, hb2⟩; obtain ⟨gu, rfl, hgS⟩ := kG_v hg; have hb3 := below_then (hb.alloc hb.size _) (by have := hb.size; simp; omega) hb2; have hgS' : Kd.tm.S w2 (fun b => w.heap.size ≤ b) [kV 0, kV 1] gu := hgS.mono (fun b h => by have := hb.size; rcases h with (h | h) | h; exact h.elim; exact h; simp at h; omega); obtain ⟨gA, gc, rfl⟩ := hgS'.form; clear hgS hb2 hb hg)
    | (go_at_call 15; refine (F_c ⟨#[102]⟩ [kV 1, kG] _ _ _ _ (Kd.S.S2 (lit2 (w := w) (ok := fun b => w.heap.size ≤ b) (t := kV 1) (t' := kG) (Kd.S.nil _ _ _) hgS' hb3)) (by simp)).mono ?_; rw [hg2]; rintro e w4 ⟨⟨f, rfl, hf⟩, hb4⟩; obtain ⟨fu, rfl, hfS⟩ := kF_v hf; have hb5 := below_then (hb3.alloc hb3.size _) (by have := hb3.size; simp; omega) hb4; have hfS' : Kd.tm.S w4 (fun b => w.heap.size ≤ b) [kV 1, kG] fu := hfS.mono (fun b h => by have := hb3.size; rcases h with (h | h) | h; exact h; exact h; simp at h; omega); obtain ⟨fA, fc, rfl⟩ := hfS'.form; clear hfS hb4 hb3 hgS' hf; have hn0 : Kn w w4.heap.size (.slice fA 2 fc) (w4.alloc (.cells #[.int .u8 4, .string ⟨#[102]⟩, .int .i64 0, .slice fA 2 fc] 26)) := ⟨hb5.alloc hb5.size _, hfS'.below ((Below.refl _ w4).alloc (Nat.le_refl _) _), heap_new w4 _⟩; have hv1 := Vars_c [kF] _ _ _ (lit1 (t := kF) (w := w) hn0.2.1 hn0.1) (by decide); rw [World.size_alloc] at hv1; clear hb5 hfS')
    | (go_at_call 20; refine hv1.mono ?_; clear hv1; rintro e w5 ⟨⟨r, rfl, hr⟩, hb6⟩; replace hn := (hn0.alloc _).then hb6; obtain ⟨c0, c1, c2, c3, -, -, -, -⟩ := box4 hn.2.2; have hr' := (Kd.Own.S hr).mono (ok' := fun _ => True) (fun _ _ => trivial); obtain ⟨rA, rc, rfl⟩ := hr'.form; have hnm := Numbers_yes [1, 0] _ _ _ _ _ (hr'.below ((Below.refl _ w5).alloc (Nat.le_refl _) _)) (litI2 w5 1 0); clear hr hb6 hn0 hr')
    | (go_at_call 21; refine hnm.mono ?_; clear hnm; rintro e w6 ⟨rfl, hb6⟩; replace hn := (hn.alloc _).then hb6; obtain ⟨c0, c1, c2, c3, -, -, -, -⟩ := box4 hn.2.2; clear hb6)
    | (go_at_call 26; have hq := termSize_c kF _ _ _ hn.tmv (by rw [kF_siz]; omega); rw [kF_siz] at hq; refine hq.mono ?_; clear hq; rintro e w6 ⟨rfl, hb6⟩; replace hn := hn.then hb6; obtain ⟨c0, c1, c2, c3, -, -, -, -⟩ := box4 hn.2.2; clear hb6)
    | (go_at_call 28; have hq := termDepth_c kF _ _ _ hn.tmv (by rw [kF_siz]; omega); rw [kF_dep] at hq; refine hq.mono ?_; clear hq; rintro e w6 ⟨rfl, hb6⟩; replace hn := hn.then hb6; obtain ⟨c0, c1, c2, c3, -, -, -, -⟩ := box4 hn.2.2; clear hb6)
    | (go_at_call_has 24 fA; have hq := Good_c kF _ _ _ hn.tmv kF_wf; rw [kF_good] at hq; refine hq.mono ?_; clear hq; rintro e w6 ⟨rfl, hb6⟩; replace hn := hn.then hb6; obtain ⟨c0, c1, c2, c3, -, -, -, -⟩ := box4 hn.2.2; clear hb6)
    | (go_at_call 24; have hq := fun W => Good_c ⟨4, ⟨#[102]⟩, 0, []⟩ _ W (fun _ => False) ⟨_, rfl, Kd.S.nil _ _ _⟩ kE_wf; rw [kE_good] at hq; refine (hq _).mono ?_; clear hq; rintro e w6 ⟨rfl, hb6⟩; replace hn := hn.then hb6; obtain ⟨c0, c1, c2, c3, -, -, -, -⟩ := box4 hn.2.2; clear hb6)
    | (go_at_call 19; refine (A_c _ _ (fun _ => False)).mono ?_; rintro e w6 ⟨rfl, hb6⟩; replace hn := hn.then hb6; obtain ⟨c0, c1, c2, c3, -, -, -, -⟩ := box4 hn.2.2; clear hb6)
    | (go_at_call 18; refine (I_c _ _ (fun _ => False)).mono ?_; rintro e w6 ⟨rfl, hb6⟩; replace hn := hn.then hb6; obtain ⟨c0, c1, c2, c3, -, -, -, -⟩ := box4 hn.2.2; clear hb6)
    | (go_at_call 15; refine (F_c ⟨#[102]⟩ kH.l _ _ _ _ (Kd.S.S2 (lit2 (w := w) (ok := fun _ => False) (t := ⟨3, ⟨#[97]⟩, 0, []⟩) (t' := ⟨2, ⟨#[]⟩, 1, []⟩) (Kd.S.nil _ _ _) (Kd.S.nil _ _ _) hn.1)) (by simp [kH])).mono ?_; rw [hg3]; rintro e w7 ⟨⟨f, rfl, hf⟩, hb6⟩; obtain ⟨fu, rfl, hfS⟩ := kH_v hf; replace hn := (hn.alloc _).then hb6; have hgr := Ground_c kH _ _ _ hf (by simp [kH, Tm.siz, sizL]); rw [kH_ground] at hgr; obtain ⟨hA, hc, rfl⟩ := hfS.form; clear hfS hf hb6)
    | (go_at_call 23; refine hgr.mono ?_; clear hgr; rintro e w6 ⟨rfl, hb6⟩; replace hn := hn.then hb6; clear hb6))
  go_ret
  exact ⟨rfl, hn.1⟩
end Go.Proofs.Ytgoeglahmlpmeaa

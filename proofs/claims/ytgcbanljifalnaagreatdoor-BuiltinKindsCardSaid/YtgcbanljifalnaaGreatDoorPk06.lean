import Derived.Test.YtgcbanljifalnaaGreatDoorPk05
import Derived.Deep.RegionHeld3
import Derived.Deep.DrawnRows
set_option linter.unusedVariables false
set_option maxRecDepth 20000
set_option linter.unusedSimpArgs false
/- The reference's 'Nodes', 'Occurs'. Conditions: the arguments read; the bindings make no circle; terms of at most a million nodes. -/
namespace Go.Proofs.YtgcbanljifalnaaGreatDoor
open Go.RowKit

theorem gfresh' {w W W' : World} {r r' : Option Nat} (h : w.grownBy W r) (g : W.grownBy W' r') (hk : ∀ k, r' = some k → w.heap.size ≤ k) : w.grownBy W' r :=
  ⟨g.os.trans h.os, g.tape.trans h.tape, g.output.trans h.output, Nat.le_trans h.size g.size, fun i hi hr => (g.block i (Nat.lt_of_lt_of_le hi h.size) (fun e => by have := hk i e.symm; omega)).trans (h.block i hi hr)⟩
/-- A step that is wanted. -/
theorem if_t {c : Prop} [Decidable c] {p q : Prop} (hc : c) (h : p) : if c then p else q := by rw [if_pos hc]; exact h
/-- An operation of a region that draws, as one of a list. -/
def Qn (K : Act → World → Prop) (Q : Exit → Act → World → Prop) : Exit → Act → World → Prop
  | .normal, a, w => K a w
  | .panic c, a, w => Q (.panic c) a w
  | _, _, _ => False
theorem opwp_of_list {P : Program} {ops : Array Oper} {o : Oper} {a : Act} {w : World} {K : Act → World → Prop} {Q : Exit → Act → World → Prop} (hg : o.guard = none) (h : wpList P ops (Qn K Q) [o] a w) : o.wp P a w K Q := by
  unfold wpList at h
  rw [if_pos (by simp [Region.wanted, hg])] at h
  have hno : ¬ LetsOut (Qn K Q) := fun ⟨_, _, h⟩ => h
  have h := h.resolve_right (fun hh => hno hh.2)
  unfold Oper.wp at h ⊢
  generalize (execOp a.eval o).run P w = r at h ⊢
  match r, h with
  | .ok (.value v) w', h => exact h
  | .ok .skip w', h => exact h
  | .ok (.defer d) w', h => exact h
  | .ok (.enter f args) w', h =>
    exact Calls.mono h (fun e w'' he => match e, he with
      | .returned v, he => he
      | .panicked c, he => he
      | .outgrown, he => absurd he hno)
  | .ok (.row row args) w', h => exact h
  | .halt (.panic v) w', h => exact h

theorem Tryz.sizeT (w : World) : (sizeOf (Tryz.prog.elem 28)).run Tryz.prog w = .ok 4 w := by kernel_rfl
/-- Without the first one. -/
theorem S.tail_run {w : World} {ok : Nat → Prop} {x : Tm} {T : List Tm} {v : Value} (h : Kd.tm.S w ok (x :: T) v) :
    ∃ v', (∀ W, (Instr.slice 28 v (some (.int .i64 1)) none none).run Tryz.prog W = .ok v' W) ∧ Kd.tm.S w ok T v' := by
  obtain ⟨A, c, rfl, hl, hc, hA⟩ := h
  obtain ⟨b, o, rfl, hb, hat⟩ := hA.resolve_left (by rintro ⟨h, _⟩; cases h)
  refine ⟨sliced (some ⟨b, o, none⟩) 1 (x :: T).length c 4, fun W => ?_, ?_⟩
  · rw [run_slice_l W 28 _ _ _ Tryz.underlying28 .i64 1 (by omega) (by simp; omega), Tryz.sizeT]
    rfl
  · refine ⟨if c = 1 then some ⟨b, o, none⟩ else some ⟨b, o + 4, none⟩, c - 1, ?_, by simp at hl; omega, by omega, ?_⟩
    · unfold sliced
      simp only [Option.map_some, Nat.one_mul, add_off, List.length_cons, Nat.add_sub_cancel]
    · by_cases hT : T = []
      · exact .inl ⟨hT, fun e => by split at e <;> cases e⟩
      · have : 0 < T.length := List.length_pos_iff.2 hT
        refine .inr ⟨b, o + 4, by rw [if_neg (by simp at hl; omega)], hb, fun j y hy => ?_⟩
        obtain ⟨cs, hk, hcs⟩ := hat (j + 1) y (by simpa using hy)
        refine ⟨cs, hk, fun i u hu => ?_⟩
        have := hcs i u hu
        rw [show o + (j + 1) * Kd.tm.sz + i = o + 4 + j * Kd.tm.sz + i by simp only [Kd.tm]; omega] at this
        exact this
/-- Where v first is visited, counted from 1 on; -1: nowhere. -/
def fpos (v : Int) (L : List Tm) : Int := match L.findIdx? (isv v) with | some i => (i : Int) + 1 | none => -1
theorem fpos_snoc (v : Int) (L : List Tm) (x : Tm) : fpos v (L ++ [x]) = if fpos v L < 0 ∧ isv v x = true then (L.length : Int) + 1 else fpos v L := by
  unfold fpos
  rw [List.findIdx?_append]
  cases h : L.findIdx? (isv v) with
  | some i => simp; omega
  | none =>
    cases hx : isv v x with
    | true => simp [List.findIdx?_cons, hx]
    | false => simp [List.findIdx?_cons, hx]
theorem fpos_le (v : Int) (L : List Tm) : -1 ≤ fpos v L ∧ fpos v L ≤ L.length := by
  unfold fpos
  cases h : L.findIdx? (isv v) with
  | some i => have := List.findIdx?_eq_some_iff_findIdx_eq.1 h; simp; omega
  | none => simp
theorem run_snoc {l : Bs} {T : List Tm} {pre : List Tm} {t x : Tm} {m : Nat} (h : ∀ r, run l (m + r) [t] = pre ++ run l r (x :: T)) : ∀ r, run l (m + 1 + r) [t] = (pre ++ [wlk l x]) ++ run l r ((wlk l x).l ++ T) := fun r => by
  rw [Nat.add_assoc, h (1 + r), Nat.add_comm 1 r]
  simp [run]
/-- What Nodes tells. -/
def nodE (P : List Tm) (q : Int) : Int × Int := (((P.take 4097).length : Nat), fpos q (P.take 4097))
theorem nodE_end {l : Bs} {t : Tm} {f : Nat} {q : Int} {pre : List Tm} {m : Nat} (hf : Fn l f t) (hl : pre.length = m) (hm : m ≤ 4097) (h : ∀ r, run l (m + r) [t] = pre ++ run l r []) : nodE (vis l f t) q = ((m : Int), fpos q pre) := by
  have h1 := run_vis (f := f) (m + (4097 - m)) [t] (by simpa using hf)
  rw [h] at h1
  have h2 : run l (4097 - m) [] = [] := by cases 4097 - m <;> rfl
  rw [h2, List.append_nil, show m + (4097 - m) = 4097 by omega, show [t].flatMap (vis l f) = vis l f t by simp] at h1
  unfold nodE
  rw [← h1, hl]
theorem nodE_full {l : Bs} {t : Tm} {f : Nat} {q : Int} {pre T : List Tm} (hf : Fn l f t) (hl : pre.length = 4097) (h : ∀ r, run l (4097 + r) [t] = pre ++ run l r T) : nodE (vis l f t) q = (4097, fpos q pre) := by
  have h1 := run_vis (f := f) (4097 + 0) [t] (by simpa using hf)
  rw [h, show run l 0 T = [] from rfl, List.append_nil, Nat.add_zero, show [t].flatMap (vis l f) = vis l f t by simp] at h1
  unfold nodE
  rw [← h1, hl]
  rfl
set_option maxRecDepth 100000 in
set_option maxHeartbeats 4000000 in
theorem Nodes_c (l : Bs) (t : Tm) (f : Nat) (q : Int) (vl v : Value) (w : World) (okl ok : Nat → Prop) (hvl : Kd.bd.S w okl l vl) (hv : TmV w ok t v) (hf : Fn l f t) (hA : Acyc l) (hll : l.length ≤ 1000000) (hsm : ∀ n t, ofB l n = some t → t.siz ≤ 1000000) (hsz : t.siz ≤ 1000000) (hq : -9223372036854775808 ≤ q ∧ q ≤ 9223372036854775807) :
    Calls Tryz.prog 20 #[vl, v, .int .i64 q] w fun e w' => e = .returned (.tuple #[.int .i64 (nodE (vis l f t) q).1, .int .i64 (nodE (vis l f t) q).2]) ∧ Below w.heap.size w w' := by
  have HWK := Lib.hid (fun (x : Tm) (u : Value) (W : World) (hW : Below w.heap.size w W) (hu : TmV W (fun _ => True) x u) => rWalk_c l x vl u W _ _ (hvl.bound.below hW) hu hA hll)
  obtain ⟨Al, cl, rfl⟩ := hvl.form
  obtain ⟨u0, rfl, hS⟩ := hv
  obtain ⟨A, c, rfl⟩ := hS.form
  have hb1 := (Below.refl w.heap.size w).alloc (Nat.le_refl _) (.cells #[.int .u8 t.k, .string t.s, .int .i64 t.n, .slice A t.l.length c] 30)
  have HL := Lib.hid (lit1 (w := w) (W := w.alloc (.cells #[.int .u8 t.k, .string t.s, .int .i64 t.n, .slice A t.l.length c] 30)) (ok := ok) (t := t) (hS.below hb1) hb1)
  have HF := Lib.hid hf
  have HSM := Lib.hid hsm
  have HSZ := Lib.hid hsz
  clear hvl hS hf hA hsm hsz
  go_enter Tryz.func20, Tryz.ntmps20
  go_wp2
  go_loopw [8, 9, 10] (fun td n at' wr => ∃ (m : Nat) (pre T : List Tm), pre.length = m ∧ m ≤ 4097 ∧ n = .int .i64 m ∧ at' = .int .i64 (fpos q pre) ∧ Hid (∀ r, run l (m + r) [t] = pre ++ run l r T) ∧ Hid (∀ x ∈ T, x.siz ≤ 1000000) ∧ Hid (T.length ≤ 1 + m * 1000000) ∧ Hid (Kd.tm.S wr (fun _ => True) T td) ∧ Below w.heap.size w wr) (fun _ n _ _ => 4098 - (intOf n).toNat)
  case atStart =>
    have hq0 := HL.out
    rw [World.size_alloc] at hq0
    exact ⟨0, [], [t], rfl, by omega, rfl, rfl, Lib.hid (fun r => by simp), Lib.hid (by have := HSZ.out; simpa using this), Lib.hid (by simp), Lib.hid (hq0.mono (fun _ _ => trivial)), hb1.alloc (by simp) _⟩
  case round =>
    obtain ⟨m, pre, T, hpl, hm, rfl, rfl, hrun, hTs, hTl, hTS, hb⟩ := hrel
    have HB := Lib.hid hb
    have hfp := fpos_le q pre
    rw [hpl] at hfp
    have HPL := Lib.hid hpl
    clear hpl HL hb1
    cases T with
    | nil =>
      obtain ⟨tA, tc, rfl⟩ := hTS.out.form
      have HE := Lib.hid (nodE_end (q := q) HF.out HPL.out hm hrun.out)
      clear hb
      go_wp2
      refine bodyPost_ret (v := .tuple #[.int .i64 m, .int .i64 (fpos q pre)]) (by simp [results, Tryz.results20, go_sem]) rfl ⟨by rw [HE.out], HB.out⟩
    | cons y T =>
      by_cases hm4 : m ≤ 4096
      · have hm4' : (m : Int) ≤ 4096 := by omega
        obtain ⟨A', c', htd, hl', hc', hA'⟩ := hTS.out
        replace htd : _ = Value.slice A' (T.length + 1) c' := htd
        subst htd
        obtain ⟨v4, hsl, hS4⟩ := S.tail_run hTS.out
        obtain ⟨A4, c4, rfl⟩ := hS4.form
        have HSL := Lib.hid hsl
        have HS4 := Lib.hid hS4
        clear hsl hS4
        obtain ⟨b', o', u, rfl, hokb, hlo, h0, h1, h2, h3, h4⟩ := tm_elem (j := 0) hA' (by simp)
        have hyV : TmV wr (fun _ => True) y (.agg #[.int .u8 y.k, .string y.s, .int .i64 y.n, u]) := ⟨u, rfl, h4⟩
        obtain ⟨Au, cu, rfl⟩ := h4.form
        simp only [List.getElem_cons_zero, Nat.zero_mul, Nat.add_zero] at h0 h1 h2 h3
        have HW := Lib.hid (HWK.out y _ wr hb hyV)
        have hxz : (wlk l y).siz ≤ 1000000 := wlk_siz HSM.out y (hTs.out y (by simp))
        have hrn := Lib.hid (run_snoc hrun.out)
        have hsn := fpos_snoc q pre (wlk l y)
        generalize wlk l y = x at HW hxz hrn hsn
        have hxl := len_siz hxz
        have hTl2 : T.length ≤ m * 1000000 := by have := hTl.out; simp at this; omega
        have HC : ∃ a' : Int, fpos q (pre ++ [x]) = a' ∧ ((x.k = 1 ∧ x.n = q ∧ fpos q pre < 0 ∧ a' = (m : Int) + 1) ∨ (a' = fpos q pre ∧ (x.k ≠ 1 ∨ (x.k = 1 ∧ x.n ≠ q) ∨ (x.k = 1 ∧ x.n = q ∧ ¬ fpos q pre < 0)))) := by
          refine ⟨_, rfl, ?_⟩
          rw [hsn, HPL.out]
          unfold isv
          by_cases h1 : x.k = 1
          · by_cases h2 : x.n = q
            · by_cases h3 : fpos q pre < 0
              · left; simp [h1, h2, h3]
              · right; simp [h1, h2, h3]
            · right; simp [h1, h2]
          · right; simp [h1]
        obtain ⟨a', ha', hC⟩ := HC
        have HA' := Lib.hid ha'
        have HT3 := Lib.hid (fun z (hz : z ∈ x.l ++ T) => (List.mem_append.1 hz).elim (fun h => siz_at hxz h) (fun h => hTs.out z (by simp [h])))
        clear hA' hyV h4 hrun hsn ha' hTs hTl hb hTS
        rcases hC with ⟨hk, hn, hfn, ha0⟩ | ⟨ha0, hk | ⟨hk, hn⟩ | ⟨hk, hn, hfn⟩⟩
        all_goals
          have HK := Lib.hid hk
          have HA0 := Lib.hid ha0
          (first
            | (have hd1 : (x.k == 1) = true := (by simpa using hk); have hd2 : (x.n == q) = true := (by simpa using hn); clear ha0)
            | (have hd1 : (x.k == 1) = true := (by simpa using hk); have hd2 : (x.n == q) = false := (by simpa using hn); clear ha0)
            | (have hd1 : (x.k == 1) = false := (by simpa using hk); clear ha0))
          try clear hn
          clear hk
          go_wp2_with (go_at_call 47; refine HW.out.mono ?_; clear HW; rintro e w2 ⟨⟨u2, rfl, hv2⟩, hb2⟩; obtain ⟨u3, rfl, hvS2⟩ := hv2; obtain ⟨A2, c2, rfl⟩ := hvS2.form; have HV2 := Lib.hid hvS2; clear hvS2; have hz2 := Lib.hid hb2.size)
          refine wp_region_held_drew (S := (fun W => W.cell? ⟨w2.heap.size, 3, none⟩ = some (.slice A2 x.l.length c2) ∧ Below w2.heap.size w2 W ∧ w2.heap.size < W.heap.size)) (by kernel_rfl) ?_ (fun hHeld => ?_)
          · exact ⟨by simp [World.cell?_drew], ((Below.refl _ w2).alloc (Nat.le_refl _) _).drew, by simp⟩
          change wpAnyH _ .any _ _ _ 7 (Array.replicate 7 false) _ _
          refine wpAnyH_take (i := 0) (oi := ⟨some 42, _, _, _, _, _⟩) (v := ?_) rfl (by kernel_rfl) (by kernel_rfl) (by kernel_rfl) (fun _ _ _ h => h) (Or.inl ⟨by rfl, ?_⟩) (by assumption) ?_
          rotate_left
          · (intro w hSw; (try dsimp only at hSw); go_simp; try (with_reducible rfl))
          (try simp only [Act.put, List.setIfInBounds_toArray, List.set_cons_zero, List.set_cons_succ])
          refine wpAnyH_take (i := 1) (oi := ⟨some 43, _, _, _, _, _⟩) (v := ?_) rfl (by kernel_rfl) (by kernel_rfl) (by kernel_rfl) (fun _ _ _ h => h) (Or.inl ⟨by rfl, ?_⟩) (by assumption) ?_
          rotate_left
          · (intro w hSw; (try dsimp only at hSw); go_simp; try (with_reducible rfl))
          (try simp only [Act.put, List.setIfInBounds_toArray, List.set_cons_zero, List.set_cons_succ])
          refine wpAnyH_take (i := 3) (oi := ⟨some 45, _, _, _, _, _⟩) (v := ?_) rfl (by kernel_rfl) (by kernel_rfl) (by kernel_rfl) (fun _ _ _ h => h) (Or.inl ⟨by rfl, ?_⟩) (by assumption) ?_
          rotate_left
          · (intro w hSw; (try dsimp only at hSw); go_simp; try (with_reducible rfl))
          (try simp only [Act.put, List.setIfInBounds_toArray, List.set_cons_zero, List.set_cons_succ])
          refine wpAnyH_take (i := 4) (oi := ⟨some 46, _, _, _, _, _⟩) (v := .slice A4 T.length c4) rfl (by kernel_rfl) (by kernel_rfl) (by kernel_rfl) (fun _ _ _ h => h) (Or.inl ⟨by rfl, ?_⟩) (by assumption) ?_
          · intro w hSw
            have hsl := HSL.out w
            clear hSw
            go_simp
          (try simp only [Act.put, List.setIfInBounds_toArray, List.set_cons_zero, List.set_cons_succ])
          refine wpAnyH_ready (rs := [2]) (by kernel_rfl) (by simp) ?_
          refine AllReadyH.cons (o := ⟨some 44, _, _, _, _, _⟩) rfl (fun K hK => ?_) AllReadyH.nil
          refine if_t (by rfl) (opwp_of_list (ops := #[]) rfl ?_)
          have hx2 : Kd.tm.S2 ((w2.alloc (.cells #[.int .u8 x.k, .string x.s, .int .i64 x.n, .slice A2 x.l.length c2] 30)).drew) (fun _ => True) (fun _ => True) x.l (.slice A2 x.l.length c2) := Kd.S.S2 (Kd.S.mono (fun _ _ => trivial) (Kd.S.below ((Below.refl _ w2).alloc (Nat.le_refl _) _).drew HV2.out))
          have ht2 : Kd.tm.S ((w2.alloc (.cells #[.int .u8 x.k, .string x.s, .int .i64 x.n, .slice A2 x.l.length c2] 30)).drew) (fun b => b < w2.heap.size) T (.slice A4 T.length c4) := Kd.S.mono (fun i hi => by have := hz2.out; omega) (Kd.S.below (below_then hb2 hb2.size (((Below.refl _ w2).alloc (Nat.le_refl _) _).drew)) HS4.out.bound)
          refine Kd.appendS Kd.tm (W := ((w2.alloc (.cells #[.int .u8 x.k, .string x.s, .int .i64 x.n, .slice A2 x.l.length c2] 30)).drew)) (w2.heap.size + 1) (fun _ => True) (fun _ => True) (fun _ => True) rfl (.const (.slice none 0 0)) (.tmp 43) 28 30 (.agg #[.int .u8 0, .string ⟨#[]⟩, .int .i64 0, .slice none 0 0]) 56 rfl Tryz.underlying28 Tryz.infoT rfl (by decide) (.slice none 0 0) (.slice A2 x.l.length c2) [] x.l rfl rfl (Kd.Own.nil _ _ _ _ _) hx2 (fun z cs hz => Kd.tm.mono (fun i hi => ⟨trivial, by simp [Value.ownBlock]⟩) hz) (by simp) (by simp; omega) ?_
          intro v5 w5 hO5 hg5 hat5
          obtain ⟨A5, c5, hv5⟩ := Kd.Own.form hO5
          simp only [List.nil_append] at hO5 hv5
          subst hv5
          change K _ _
          replace hg5 : World.grownBy ((w2.alloc (.cells #[.int .u8 x.k, .string x.s, .int .i64 x.n, .slice A2 x.l.length c2] 30)).drew) w5 none := by simpa [Value.ownBlock] using hg5
          refine hK.out _ _ ⟨hg5.cell hHeld.1 (by simp), below_then hHeld.2.1 hHeld.2.1.size (below_of_grown hg5), by have := hg5.size; omega⟩ (fun hHeld => ?_)
          clear hK K
          (try simp only [Act.put, List.setIfInBounds_toArray, List.set_cons_zero, List.set_cons_succ])
          refine wpAnyH_ready (rs := [5]) (by kernel_rfl) (by simp) ?_
          refine AllReadyH.cons (o := ⟨some 47, _, _, _, _, _⟩) rfl (fun K hK => ?_) AllReadyH.nil
          refine if_t (by rfl) (opwp_of_list (ops := #[]) rfl ?_)
          have ht5 := Kd.S.S2 (Kd.S.below (below_of_grown hg5) ht2)
          have hlt5 := Kd.Own.lt hO5
          refine Kd.appendS Kd.tm (W := w5) (w2.heap.size + 1) (fun _ => True) (fun b => b < w2.heap.size) (fun b => b < w2.heap.size) rfl (.tmp 44) (.tmp 46) 28 30 (.agg #[.int .u8 0, .string ⟨#[]⟩, .int .i64 0, .slice none 0 0]) 56 rfl Tryz.underlying28 Tryz.infoT rfl (by decide) (.slice A5 x.l.length c5) (.slice A4 T.length c4) x.l T rfl rfl hO5 ht5 (fun z cs hz => Kd.tm.mono (fun i hi => ⟨trivial, fun he => by have := (hlt5 i he.symm).1; omega⟩) hz) (by omega) (by omega) ?_
          intro v6 w6 hO6 hg6 hat6
          obtain ⟨A6, c6, hv6⟩ := Kd.Own.form hO6
          subst hv6
          change K _ _
          have hb6 : Below w2.heap.size w2 w6 := below_of_grown (gfresh' (gnone hHeld.2.1) hg6 (fun k hk => by have := (hlt5 k hk).1; omega))
          refine hK.out _ _ ⟨hg6.cell hHeld.1 (fun e => ?_), hb6, by have := hg6.size; omega⟩ (fun hHeld => ?_)
          · (have := (hlt5 _ e.symm).1; simp only at this; omega)
          clear hK K
          (try simp only [Act.put, List.setIfInBounds_toArray, List.set_cons_zero, List.set_cons_succ])
          refine wpAnyH_take (i := 6) (oi := ⟨some 8, _, _, _, _, _⟩) (v := ?_) rfl (by kernel_rfl) (by kernel_rfl) (by kernel_rfl) (fun _ _ _ h => h) (Or.inl ⟨by rfl, ?_⟩) (by assumption) ?_
          rotate_left
          · (intro w hSw; (try dsimp only at hSw); go_simp; try (with_reducible rfl))
          (try simp only [Act.put, List.setIfInBounds_toArray, List.set_cons_zero, List.set_cons_succ])
          refine wpAnyH_done (by kernel_rfl) ?_ _
          go_wp2
          go_roundw
          case rel =>
            have hS6 := (Kd.Own.S hO6).mono (ok' := fun _ => True) (fun _ _ => trivial)
            refine ⟨m + 1, pre ++ [x], x.l ++ T, by simp [HPL.out], by omega, by go_num, ?_, hrn, HT3, Lib.hid (by simp only [List.length_append]; omega), Lib.hid (by simpa using hS6), below_then (below_then HB.out HB.out.size hb2) (by have := HB.out.size; have := hb2.size; omega) hb6⟩
            rw [HA'.out, HA0.out]
          case measure => simp [intOf]; omega
      · have hm4' : ¬ (m : Int) ≤ 4096 := by omega
        obtain rfl : m = 4097 := by omega
        obtain ⟨tA, tc, rfl⟩ := hTS.out.form
        have HE := Lib.hid (nodE_full (q := q) HF.out HPL.out hrun.out)
        clear hb
        go_wp2
        refine bodyPost_ret (v := .tuple #[.int .i64 4097, .int .i64 (fpos q pre)]) (by simp [results, Tryz.results20, go_sem]) rfl ⟨by rw [HE.out], HB.out⟩
end Go.Proofs.YtgcbanljifalnaaGreatDoor
/- The reference's 'Occurs', 'Apply'. Conditions: the arguments read; the bindings make no circle; terms of at most a million nodes. -/
namespace Go.Proofs.YtgcbanljifalnaaGreatDoor
open Go.RowKit

theorem occE_nod (P : List Tm) (q : Int) : occE P q = if 0 ≤ (nodE P q).2 ∧ (nodE P q).2 ≤ 4096 then (true, 0) else if 4096 < (nodE P q).1 then (false, 31) else (false, 0) := by
  have hl : (4096 < (nodE P q).1) ↔ 4096 < P.length := by
    simp only [nodE, List.length_take]; omega
  have ht : P.take 4096 = (P.take 4097).take 4096 := by rw [List.take_take]; rfl
  have ha : (P.take 4096).any (isv q) = true ↔ 0 ≤ (nodE P q).2 ∧ (nodE P q).2 ≤ 4096 := by
    simp only [nodE]
    rw [ht]
    generalize P.take 4097 = L
    unfold fpos
    cases h : L.findIdx? (isv q) with
    | none =>
      simp only [List.findIdx?_eq_none_iff] at h
      constructor
      · intro h2
        obtain ⟨x, hx, hi⟩ := List.any_eq_true.1 h2
        rw [h x (List.mem_of_mem_take hx)] at hi
        cases hi
      · intro h2; simp at h2
    | some i =>
      obtain ⟨h1, h2, h3⟩ := List.findIdx?_eq_some_iff_getElem.1 h
      constructor
      · intro h4
        obtain ⟨x, hx, hi⟩ := List.any_eq_true.1 h4
        obtain ⟨j, hj, rfl⟩ := List.mem_iff_getElem.1 hx
        rw [List.length_take] at hj
        rw [List.getElem_take] at hi
        have : i ≤ j := by
          rcases Nat.lt_or_ge j i with h5 | h5
          · exact absurd hi (h3 j h5)
          · exact h5
        simp only; omega
      · intro h4
        simp only at h4
        refine List.any_eq_true.2 ⟨L[i], ?_, h2⟩
        rw [List.mem_iff_getElem]
        exact ⟨i, by rw [List.length_take]; omega, by rw [List.getElem_take]⟩
  unfold occE
  by_cases h1 : (P.take 4096).any (isv q) = true
  · rw [if_pos h1, if_pos (ha.1 h1)]
  · rw [if_neg h1, if_neg (fun h => h1 (ha.2 h))]
    by_cases h2 : 4096 < P.length
    · rw [if_pos h2, if_pos (hl.2 h2)]
    · rw [if_neg h2, if_neg (fun h => h2 (hl.1 h))]
set_option maxHeartbeats 1000000 in
theorem rOccurs_c (l : Bs) (t : Tm) (f : Nat) (q : Int) (vl v : Value) (w : World) (okl ok : Nat → Prop) (hvl : Kd.bd.S w okl l vl) (hv : TmV w ok t v) (hf : Fn l f t) (hA : Acyc l) (hll : l.length ≤ 1000000) (hsm : ∀ n t, ofB l n = some t → t.siz ≤ 1000000) (hsz : t.siz ≤ 1000000) (hq : -9223372036854775808 ≤ q ∧ q ≤ 9223372036854775807) :
    Calls Tryz.prog 44 #[vl, .int .i64 q, v] w fun e w' => e = .returned (.tuple #[.bool (occE (vis l f t) q).1, .int .i64 (occE (vis l f t) q).2]) ∧ Below w.heap.size w w' := by
  have HN := Lib.hid (fun W (hW : Below w.heap.size w W) => Nodes_c l t f q vl v W _ _ (hvl.below hW) (hv.below hW) hf hA hll hsm hsz hq)
  obtain ⟨Al, cl, rfl⟩ := hvl.form
  obtain ⟨u0, rfl, hS⟩ := hv
  obtain ⟨A, c, rfl⟩ := hS.form
  have hb1 := (Below.refl w.heap.size w).alloc (Nat.le_refl _) (.cells #[.int .u8 t.k, .string t.s, .int .i64 t.n, .slice A t.l.length c] 30)
  have hn := Lib.hid (HN.out _ hb1)
  rw [occE_nod]
  generalize nodE (vis l f t) q = n at hn ⊢
  obtain ⟨n, at'⟩ := n
  simp only at hn ⊢
  clear HN hvl hS hf hA hsm
  by_cases h0 : 0 ≤ at'
  · by_cases h1 : at' ≤ 4096
    · rw [if_pos ⟨h0, h1⟩]
      go_enter Tryz.func44, Tryz.ntmps44
      go_wp2_with (go_at_call 20; refine hn.out.mono ?_; clear hn; rintro e w2 ⟨rfl, hb2⟩)
      refine bodyPost_ret (v := .tuple #[.bool true, .int .i64 0]) (by simp [results, Tryz.results44, go_sem]) rfl ⟨rfl, below_then hb1 hb1.size hb2⟩
    · rw [if_neg (fun h => h1 h.2)]
      by_cases h2 : 4096 < n
      · rw [if_pos h2]
        go_enter Tryz.func44, Tryz.ntmps44
        go_wp2_with (go_at_call 20; refine hn.out.mono ?_; clear hn; rintro e w2 ⟨rfl, hb2⟩)
        refine bodyPost_ret (v := .tuple #[.bool false, .int .i64 31]) (by simp [results, Tryz.results44, go_sem]) rfl ⟨rfl, below_then hb1 hb1.size hb2⟩
      · rw [if_neg h2]
        go_enter Tryz.func44, Tryz.ntmps44
        go_wp2_with (go_at_call 20; refine hn.out.mono ?_; clear hn; rintro e w2 ⟨rfl, hb2⟩)
        refine bodyPost_ret (v := .tuple #[.bool false, .int .i64 0]) (by simp [results, Tryz.results44, go_sem]) rfl ⟨rfl, below_then hb1 hb1.size hb2⟩
  · rw [if_neg (fun h => h0 h.1)]
    by_cases h2 : 4096 < n
    · rw [if_pos h2]
      go_enter Tryz.func44, Tryz.ntmps44
      go_wp2_with (go_at_call 20; refine hn.out.mono ?_; clear hn; rintro e w2 ⟨rfl, hb2⟩)
      refine bodyPost_ret (v := .tuple #[.bool false, .int .i64 31]) (by simp [results, Tryz.results44, go_sem]) rfl ⟨rfl, below_then hb1 hb1.size hb2⟩
    · rw [if_neg h2]
      go_enter Tryz.func44, Tryz.ntmps44
      go_wp2_with (go_at_call 20; refine hn.out.mono ?_; clear hn; rintro e w2 ⟨rfl, hb2⟩)
      refine bodyPost_ret (v := .tuple #[.bool false, .int .i64 0]) (by simp [results, Tryz.results44, go_sem]) rfl ⟨rfl, below_then hb1 hb1.size hb2⟩
end Go.Proofs.YtgcbanljifalnaaGreatDoor
/- The law's 'Great' of bindings; 'Make', plain. Conditions: the arguments read. -/
namespace Go.Proofs.YtgcbanljifalnaaGreatDoor
open Go.RowKit

theorem Kd.S.apart {w : World} {ok : Nat → Prop} {m : Nat} {l : List Tm} {v : Value} (hm : ∀ c t f, w.heap[m]? ≠ some (.cells c t f)) (h : Kd.tm.S w ok l v) : Kd.tm.S w (fun b => ok b ∧ b ≠ m) l v := by
  obtain ⟨A, c, e, h1, h2, h3⟩ := h
  refine ⟨A, c, e, h1, h2, ?_⟩
  by_cases hx : l = []
  · refine .inl ⟨hx, ?_⟩
    rcases h3 with h3 | ⟨b, o, ha, _⟩
    · exact h3.2
    · intro hn; rw [ha] at hn; cases hn
  · obtain ⟨b, o, ha, hb, ht⟩ := h3.resolve_left (fun h => hx h.1)
    have ht' := (TmL_iff l b o).2 ht
    exact .inr ⟨b, o, ha, ⟨hb, TmL.head_ne hm ht' hx⟩, (TmL_iff l b o).1 (TmL.apart hm l b o ht')⟩
/-- More than 40 bindings, 1,000 nodes? -/
def great3 (l : Bs) (t : Tm) : Bool := decide (40 < l.length) || great (t :: l.map Prod.snd)
theorem great3_no {l : Bs} {t : Tm} (h : great3 l t = false) : l.length ≤ 40 ∧ great (t :: l.map Prod.snd) = false := by
  simp only [great3, Bool.or_eq_false_iff, decide_eq_false_iff_not] at h
  exact ⟨by omega, h.2⟩
def WfB (l : Bs) : Prop := ∀ b ∈ l, (-9223372036854775808 ≤ b.1 ∧ b.1 ≤ 9223372036854775807) ∧ b.2.Wf
set_option maxHeartbeats 1000000 in
theorem Great3_c (l : Bs) (t : Tm) (vl v : Value) (w : World) (okl ok : Nat → Prop) (hvl : Kd.bd.S w okl l vl) (hv : TmV w ok t v) (hl : WfB l) (ht : t.Wf) :
    Calls Tryz.prog 13 #[vl, v] w fun e w' => e = .returned (.bool (great3 l t)) ∧ Below w.heap.size w w' := by
  replace hvl := hvl.bound
  replace hv := hv.bound
  obtain ⟨u0, rfl, hS⟩ := hv
  obtain ⟨A, c, rfl⟩ := hS.form
  obtain ⟨Al, cl, rfl, hll, hcl, hA⟩ := hvl
  unfold maxLen at hcl
  have hb1 := fun O : Obj => (Below.refl w.heap.size w).alloc (Nat.le_refl _) O
  have hb2 : ∀ O O' : Obj, Below w.heap.size w ((w.alloc O).alloc O') := fun O O' => ((Below.refl _ w).alloc (Nat.le_refl _) _).alloc (by simp) _
  have hwf : WfL (t :: l.map Prod.snd) := by
    rw [WfL_iff]
    intro x hx
    rcases List.mem_cons.1 hx with rfl | hx
    · exact ht
    · obtain ⟨b, hb, rfl⟩ := List.mem_map.1 hx
      exact (hl b hb).2
  by_cases hbig : 40 < l.length
  · have hd : decide ((40 : Int) < l.length) = true := by simp; omega
    have hg : great3 l t = true := by simp [great3, hbig]
    rw [hg]
    clear hA hS hg
    go_enter Tryz.func13, Tryz.ntmps13
    go_wp2
    go_ret
    exact ⟨rfl, hb1 _⟩
  · have hd : decide ((40 : Int) < l.length) = false := by simp; omega
    have hg : great3 l t = great (t :: l.map Prod.snd) := by simp [great3, hbig]
    rw [hg]
    have HG := Lib.hid (fun W v (hv : Kd.tm.S W (fun _ => True) (t :: l.map Prod.snd) v) => Great_c (t :: l.map Prod.snd) v W _ hv hwf)
    have HO := Lib.hid (show Kd.tm.Own 30 ((w.alloc (.cells #[.int .u8 t.k, .string t.s, .int .i64 t.n, .slice A t.l.length c] 30)).alloc (.cells #[.int .u8 t.k, .string t.s, .int .i64 t.n, .slice A t.l.length c] 30)) w.heap.size (fun b => b < w.heap.size) [t] (.slice (some ⟨w.heap.size + 1, 0, none⟩) 1 1) from by
      have := Kd.Own.lit (d := Kd.tm) (e := 30) (w := w.alloc (.cells #[.int .u8 t.k, .string t.s, .int .i64 t.n, .slice A t.l.length c] 30)) (base := w.heap.size) (ok := fun b => b < w.heap.size) (xs := [t]) [.int .u8 t.k, .string t.s, .int .i64 t.n, .slice A t.l.length c] (by simp) rfl (by simp [maxLen]) (fun j x hx => by
        cases j with
        | zero => simp at hx; subst hx; exact TmK_iff.2 ⟨_, rfl, (hS.below (hb1 _)).mono (fun _ h => h.2)⟩
        | succ j => simp at hx)
      rwa [World.size_alloc] at this)
    clear hS hg
    go_enter Tryz.func13, Tryz.ntmps13
    go_wp2
    go_loopw [5, 6] (fun o i wr => ∃ j : Nat, j ≤ l.length ∧ i = .int .i64 j ∧ Hid (Kd.tm.Own 30 wr w.heap.size (fun b => b < w.heap.size) (t :: (l.map Prod.snd).take j) o) ∧ Below w.heap.size w wr) (fun _ i _ => l.length - (intOf i).toNat)
    case atStart => exact ⟨0, Nat.zero_le _, rfl, Lib.hid (by simpa using HO.out), hb2 _ _⟩
    case round =>
      obtain ⟨j, hj, rfl, hO, hb⟩ := hrel
      by_cases hlt : j < l.length
      · obtain ⟨bb, o, u, rfl, hokb, hlo, h0, h1, h2, h3, h4, h5⟩ := bd_elem hA hlt
        have g0 := cell_below hb h0 hlo
        have g1 := cell_below hb h1 hlo
        have g2 := cell_below hb h2 hlo
        have g3 := cell_below hb h3 hlo
        have g4 := cell_below hb h4 hlo
        obtain ⟨Au, cu, rfl⟩ := h5.form
        have hS5 := Lib.hid (Kd.S.move (fun i hi => hb.block i hi.2) h5)
        have HMX := Lib.hid (show (l.map Prod.snd).take (j + 1) = (l.map Prod.snd).take j ++ [l[j].2] by rw [take_succ_at _ (by simpa using hlt)]; simp)
        have hml : (t :: (l.map Prod.snd).take j).length = j + 1 := by rw [List.length_cons, List.length_take, List.length_map]; omega
        have HML := Lib.hid hml
        have HLT := Lib.hid (Kd.Own.lt hO.out)
        have hbs := hb.size
        clear hA h0 h1 h2 h3 h4 h5 hml
        generalize l[j] = q at g0 g1 g2 g3 g4 hS5 HMX
        go_wp2_with (at_builtin; refine Kd.append Kd.tm (W := wr) w.heap.size (fun b => b < w.heap.size) rfl (.tmp 18) (.tmp 24) 28 30 (.agg #[.int .u8 0, .string ⟨#[]⟩, .int .i64 0, .slice none 0 0]) 56 rfl Tryz.underlying28 Tryz.infoT rfl (by decide) _ (t :: (l.map Prod.snd).take j) q.2 [.int .u8 q.2.k, .string q.2.s, .int .i64 q.2.n, .slice Au q.2.l.length cu] rfl rfl ?hy ?HO2 ?hbase2 ?hl2 ?_)
        case hy => exact TmK_iff.2 ⟨_, rfl, hS5.out.mono (fun i hi => ⟨hi.2, fun e => by have := (HLT.out _ e.symm).1; omega⟩)⟩
        case HO2 => exact hO.out
        case hbase2 => omega
        case hl2 => rw [HML.out]; omega
        intro v1 w2 hO1 hg1 hat1
        go_wp2_with fail
        go_roundw
        case rel => exact ⟨j + 1, by omega, by go_num, Lib.hid (by rw [HMX.out]; exact hO1), below_of_grown (gfresh' (gnone hb) hg1 (fun k hk => (HLT.out k hk).1))⟩
        case measure => simp [intOf]; omega
      · rw [List.take_of_length_le (by simp; omega)] at hO
        have HS := Lib.hid ((Kd.Own.S hO.out).mono (ok' := fun _ => True) (fun _ _ => trivial))
        clear hA
        go_wp2_with (go_at_call 38; refine (HG.out _ _ HS.out).mono ?_; rintro e w2 ⟨rfl, hb3⟩)
        go_ret
        exact ⟨rfl, below_then hb hb.size hb3⟩

/-! ### Fuel that is enough -/
open Classical in
noncomputable def fuelOf (l : Bs) (t : Tm) : Nat := if h : ∃ f, Fn l f t then Classical.choose h else 0
theorem Acyc.fueled {l : Bs} (h : Acyc l) (t : Tm) : Fn l (fuelOf l t) t := by
  have := h.fuel t
  unfold fuelOf
  rw [dif_pos this]
  exact Classical.choose_spec this
/-- What is visited. -/
noncomputable def visA (l : Bs) (t : Tm) : List Tm := vis l (fuelOf l t) t
noncomputable def appA (l : Bs) (t : Tm) : Tm := app l (fuelOf l t) t
theorem Fn.same {l : Bs} {f g : Nat} {t : Tm} (h : Fn l f t) (k : Fn l g t) : app l f t = app l g t ∧ vis l f t = vis l g t := by
  rcases Nat.le_total f g with hfg | hfg
  · have := h.ge hfg; exact ⟨this.2.1.symm, this.2.2.symm⟩
  · have := k.ge hfg; exact ⟨this.2.1, this.2.2⟩
/-- Bindings, one behind the other, as far as they may be. -/
noncomputable def mk (had : Bs) : Bs → Bs
  | [] => had
  | (v, t) :: l => mk (bnd had v t (visA had t)) l
theorem mk_snoc : ∀ (l : Bs) (had : Bs) (b : Int × Tm), mk had (l ++ [b]) = bnd (mk had l) b.1 b.2 (visA (mk had l) b.2)
  | [], had, b => rfl
  | (v, t) :: l, had, b => mk_snoc l _ b
theorem bnd_sub {had : Bs} {v : Int} {t : Tm} {P : List Tm} : ∀ b ∈ bnd had v t P, b ∈ had ∨ b = (v, t) := fun b hb => by
  unfold bnd at hb
  split at hb
  · rcases List.mem_append.1 hb with h | h
    · exact .inl h
    · exact .inr (List.mem_singleton.1 h)
  · exact .inl hb
theorem mk_sub : ∀ (l had : Bs), ∀ b ∈ mk had l, b ∈ had ∨ b ∈ l
  | [], had, b, h => .inl h
  | (v, t) :: l, had, b, h => by
    rcases mk_sub l _ b h with h | h
    · rcases bnd_sub b h with h | rfl
      · exact .inl h
      · exact .inr (by simp)
    · exact .inr (by simp [h])
theorem bnd_length (had : Bs) (v : Int) (t : Tm) (P : List Tm) : (bnd had v t P).length ≤ had.length + 1 := by
  unfold bnd; split <;> simp
theorem mk_length : ∀ (l had : Bs), (mk had l).length ≤ had.length + l.length
  | [], had => by simp [mk]
  | (v, t) :: l, had => by
    have h1 := mk_length l (bnd had v t (visA had t))
    have h2 := bnd_length had v t (visA had t)
    simp only [mk, List.length_cons]; omega
end Go.Proofs.YtgcbanljifalnaaGreatDoor
/- A row's arguments, opened: lists of bindings out of the reading. No condition. -/
namespace Go.Proofs.YtgcbanljifalnaaGreatDoor
open Go.ChangeShapes Go.WideShapes Go.ChangeAt Go.RowKit
section
variable {H : Type} {enc : TypeId × Value → H} {W : World}
theorem Tryz.cellsBd : Tryz.prog.cellsOf 46 = 5 := by kernel_rfl
theorem open_bd (fuel : Nat) (cs : List Value) (x : DataW H × List MemPlace) (h : DataW.trod enc Tryz.prog W 0 (fun _ => true) true fuel 46 cs = some x) (hL : Light Tryz.prog 46 x.1) :
    ∃ b : Int × Tm, Kd.bd.K W (fun _ => True) b cs ∧ (-9223372036854775808 ≤ b.1 ∧ b.1 ≤ 9223372036854775807) ∧ b.2.Wf := by
  cases fuel with
  | zero => simp [DataW.trod] at h
  | succ fuel =>
    obtain ⟨xs, n, hn, rfl, hlen, hxl, hf⟩ := DataW.trod_struct Tryz.underlying46 h
    obtain rfl : fuel = n := by omega
    rw [Tryz.cellsBd] at hlen
    have f0 : DataW.trod enc Tryz.prog W 0 (fun _ => true) true fuel 2 ((cs.drop 0).take (Tryz.prog.cellsOf 2)) = xs[0]? := hf 0 _ rfl
    have f1 : DataW.trod enc Tryz.prog W 0 (fun _ => true) true fuel 30 ((cs.drop 1).take (Tryz.prog.cellsOf 30)) = xs[1]? := hf 1 _ rfl
    rw [Tryz.cells64] at f0
    rw [Tryz.cellsT] at f1
    match cs, hlen with
    | [c0, c1, c2, c3, c4], _ =>
      match xs, hxl with
      | [y0, y1], _ =>
        simp only [List.drop_zero, List.drop_succ_cons, List.take_succ_cons, List.take_zero, List.getElem?_cons_zero, List.getElem?_cons_succ] at f0 f1
        obtain ⟨k, e0, rfl, w0⟩ := DataW.trod_int Tryz.underlying2 f0
        injection e0 with e0
        subst e0
        have hL' := hL
        unfold Light at hL'
        simp only [List.map_cons, List.map_nil, DataW.weights, Tryz.underlying46, DataW.weightsEach, List.all_append, Bool.and_eq_true, List.nil_append, List.append_nil, List.all_cons, List.all_nil, List.cons_append, Bool.and_true, decide_eq_true_eq] at hL'
        obtain ⟨t, ht, hw⟩ := (open_both fuel).1 _ _ f1 (by unfold Light; first | exact hL' | exact hL'.2)
        refine ⟨(k, t), ⟨[.int .i64 k], [c1, c2, c3, c4], rfl, rfl, ht⟩, ?_, hw⟩
        simp only [Lit.wf, Bool.and_eq_true, decide_eq_true_eq] at w0
        simpa [IntKind.min, IntKind.max, IntKind.signed, IntKind.bits] using w0
theorem open_bdl (fuel : Nat) (cs : List Value) (x : DataW H × List MemPlace) (h : DataW.trod enc Tryz.prog W 0 (fun _ => true) true fuel 27 cs = some x) (hL : Light Tryz.prog 27 x.1) :
    ∃ l u, cs = [u] ∧ Kd.bd.S W (fun _ => True) l u ∧ WfB l := by
  rcases DataW.trod_slice Tryz.underlying27 h with ⟨rfl, rfl⟩ | ⟨a, len0, cap0, elems, rest, n, hn, rfl, rfl, _, hlc, hcm, hel, he, _, _⟩
  · exact ⟨[], _, rfl, Kd.S.nil _ _ _, fun b hb => by cases hb⟩
  · unfold Light at hL
    simp only [DataW.weights, Tryz.underlying27, List.all_cons, List.all_append, Bool.and_eq_true] at hL
    have hLe := light_all hL.2.1
    simp only [Tryz.cellsBd] at he
    have key : ∀ i : Fin len0, ∃ t : Int × Tm, (∃ cs, Kd.bd.K W (fun _ => True) t cs ∧ a.spot = none ∧ ∀ k u, cs[k]? = some u → W.cell? ⟨a.block, a.off + i * 5 + k, none⟩ = some u) ∧ (-9223372036854775808 ≤ t.1 ∧ t.1 ≤ 9223372036854775807) ∧ t.2.Wf := by
      intro i
      have h1 := he i.1 i.2
      obtain ⟨y, hy⟩ : ∃ y, elems[i.1]? = some y := ⟨_, List.getElem?_eq_getElem (by rw [hel]; exact i.2)⟩
      rw [hy] at h1
      obtain ⟨cs, hcs, htr⟩ := Option.bind_eq_some_iff.1 h1
      obtain ⟨t, ht, hw⟩ := open_bd _ cs y htr (hLe _ (List.mem_map.2 ⟨y, List.mem_of_getElem? hy, rfl⟩))
      obtain ⟨hb0, hl4, hc4⟩ := World.cells?_some hcs
      have hl : cs.length = 5 := hl4
      have hsp : len0 ≠ 0 → a.spot = none := fun hne => by
        have h1 := he 0 (by omega)
        obtain ⟨y, hy⟩ : ∃ y, elems[0]? = some y := ⟨_, List.getElem?_eq_getElem (by omega)⟩
        rw [hy] at h1
        obtain ⟨cs', hcs', _⟩ := Option.bind_eq_some_iff.1 h1
        obtain ⟨_, hl', hc'⟩ := World.cells?_some hcs'
        have e : W.cell? ((a.add (0 * 5)).add 0) = some cs'[0] := by rw [hc' 0 (by omega)]; exact List.getElem?_eq_getElem (by omega)
        exact cell_spot e
      have ha := hsp (by have := i.2; omega)
      refine ⟨t, ⟨cs, ht, ha, fun k u hk => ?_⟩, hw⟩
      have hk4 : k < 5 := by rw [← hl]; exact (List.getElem?_eq_some_iff.1 hk).1
      have := hc4 k hk4
      rw [hk, addr_add ha, add_off] at this
      exact this
    let l : Bs := List.ofFn (fun i : Fin len0 => Classical.choose (key i))
    have hll : l.length = len0 := List.length_ofFn
    have hat : ∀ j t, l[j]? = some t → ∃ h : j < len0, t = Classical.choose (key ⟨j, h⟩) := fun j t hj => by
      obtain ⟨h1, h2⟩ := List.getElem?_eq_some_iff.1 hj
      refine ⟨by rw [← hll]; exact h1, ?_⟩
      rw [← h2]
      simp [l]
    refine ⟨l, _, rfl, ⟨some a, cap0, by rw [hll], by omega, hcm, ?_⟩, ?_⟩
    · by_cases h0 : l = []
      · exact .inl ⟨h0, fun e => by cases e⟩
      · right
        have hpos : 0 < len0 := by
          rw [← hll]; exact List.length_pos_iff.2 h0
        have hsp := (Classical.choose_spec (key ⟨0, hpos⟩)).1
        obtain ⟨_, _, hspot, _⟩ := hsp
        obtain ⟨b, o, sp⟩ := a
        simp only at hspot
        subst hspot
        refine ⟨b, o, rfl, trivial, fun j t hj => ?_⟩
        obtain ⟨hjl, rfl⟩ := hat j t hj
        obtain ⟨cs, ht, _, hc⟩ := (Classical.choose_spec (key ⟨j, hjl⟩)).1
        exact ⟨cs, ht, hc⟩
    · intro t ht
      obtain ⟨j, hj⟩ := List.mem_iff_getElem?.1 ht
      obtain ⟨hjl, rfl⟩ := hat j t hj
      exact (Classical.choose_spec (key ⟨j, hjl⟩)).2
/-- A list of bindings that is handed in. -/
theorem open_bds {v : Value} {d : DataW H} {ps : List MemPlace} {r : Reach} {b0 : Nat} (hv : Value.okWide Tryz.prog W r b0 27 v) (h : DataW.Trod enc Tryz.prog W 0 (fun _ => true) true 27 v d ps) (hL : Light Tryz.prog 27 d) :
    ∃ l, Kd.bd.S W (fun _ => True) l v ∧ WfB l := by
  obtain ⟨a, len, cap, rfl⟩ := okWide_slice Tryz.underlying27 hv
  obtain ⟨fuel, hf⟩ := h
  obtain ⟨l, u, e, hS, hw⟩ := open_bdl fuel _ _ hf hL
  refine ⟨l, ?_, hw⟩
  simp only [Value.cells] at e
  injection e with e
  subst e
  exact hS
end
end Go.Proofs.YtgcbanljifalnaaGreatDoor
/- What is known along a walk: some slices of terms that read. No condition. -/
namespace Go.Proofs.YtgcbanljifalnaaGreatDoor
open Go.RowKit

/-- Some slices of terms that read. -/
structure Ks (w : World) (L : List (List Tm × Value)) (W : World) : Prop where
  below : Below w.heap.size w W
  all : ∀ p ∈ L, Kd.tm.S W (fun _ => True) p.1 p.2
section
variable {w W W' : World} {L : List (List Tm × Value)}
theorem Ks.then (h : Ks w L W) (hb : Below W.heap.size W W') : Ks w L W' := ⟨below_then h.below h.below.size hb, fun p hp => (h.all p hp).below hb⟩
theorem Ks.alloc (h : Ks w L W) (O : Obj) : Ks w L (W.alloc O) := h.then ((Below.refl _ W).alloc (Nat.le_refl _) O)
theorem Ks.push {ok : Nat → Prop} {l : List Tm} {v : Value} (h : Ks w L W) (hs : Kd.tm.S W ok l v) : Ks w ((l, v) :: L) W := ⟨h.below, fun p hp => by
  rcases List.mem_cons.1 hp with rfl | hp
  · exact hs.mono (fun _ _ => trivial)
  · exact h.all p hp⟩
theorem Ks.get (h : Ks w L W) {l : List Tm} {v : Value} (hm : (l, v) ∈ L) : Kd.tm.S W (fun _ => True) l v := h.all _ hm
/-- Lists that are written out: one term; two. -/
theorem Ks.one (h : Ks w L W) (t : Tm) (u : Value) (hu : Kd.tm.S W (fun _ => True) t.l u) : Ks w (([t], .slice (some ⟨W.heap.size, 0, none⟩) 1 1) :: L) (W.alloc (.cells #[.int .u8 t.k, .string t.s, .int .i64 t.n, u] 30)) :=
  (h.alloc _).push (lit1_at (heap_new W _) (hu.below ((Below.refl _ W).alloc (Nat.le_refl _) _)))
theorem Ks.two (h : Ks w L W) (t t' : Tm) (u u' : Value) (hu : Kd.tm.S W (fun _ => True) t.l u) (hu' : Kd.tm.S W (fun _ => True) t'.l u') :
    Ks w (([t, t'], .slice (some ⟨W.heap.size, 0, none⟩) 2 2) :: L) (W.alloc (.cells #[.int .u8 t.k, .string t.s, .int .i64 t.n, u, .int .u8 t'.k, .string t'.s, .int .i64 t'.n, u'] 30)) :=
  (h.alloc _).push (lit2_at (heap_new W _) (hu.below ((Below.refl _ W).alloc (Nat.le_refl _) _)) (hu'.below ((Below.refl _ W).alloc (Nat.le_refl _) _)))
end
theorem mkF_cons (s : ByteArray) (t : Tm) (l : List Tm) : mkF s (t :: l) = ⟨4, s, 0, t :: l⟩ := by unfold mkF; rw [if_neg (by simp)]
end Go.Proofs.YtgcbanljifalnaaGreatDoor
/- What a load of a whole term yields, out of its four cells. No condition. -/
namespace Go.Proofs.YtgcbanljifalnaaGreatDoor
open Go.RowKit
theorem held_cell {W W' : World} (hb : Below W.heap.size W W') {b o : Nat} {v : Value} (h : W.cell? ⟨b, o, none⟩ = some v) : W'.cell? ⟨b, o, none⟩ = some v := cell_below hb h (cell_lt h)
theorem Bx.of {w W : World} {ok : Nat → Prop} {t : Tm} {u : Value} (hb : Below w.heap.size w W) (hu : Kd.tm.S W ok t.l u) : Bx w (fun _ => True) W.heap.size t u (W.alloc (.cells #[.int .u8 t.k, .string t.s, .int .i64 t.n, u] 30)) :=
  ⟨hb.alloc hb.size _, heap_new W _, (hu.below ((Below.refl _ W).alloc (Nat.le_refl _) _)).mono (fun _ _ => trivial)⟩

end Go.Proofs.YtgcbanljifalnaaGreatDoor
/- Walks of layer 2: comparisons. Conditions: the arguments read. -/
namespace Go.Proofs.YtgcbanljifalnaaGreatDoor
open Go.RowKit

/-- Two numbers. -/
def cmpI (a b : Int) : Int := if a < b then -1 else if b < a then 1 else 0
theorem cmp8_c (a b : Int) (w : World) : Calls Tryz.prog 58 #[.int .u8 a, .int .u8 b] w fun e w' => e = .returned (.int .i64 (cmpI a b)) ∧ w' = w := by
  have HX := Lib.hid (show cmpI a b = if a < b then -1 else if b < a then 1 else 0 from rfl)
  go_enter Tryz.func58, Tryz.ntmps58
  go_wp2
  all_goals go_ret
  all_goals exact ⟨ret_int (by rw [HX.out]; (repeat' split) <;> first | rfl | omega), rfl⟩
theorem cmp64_c (a b : Int) (w : World) : Calls Tryz.prog 59 #[.int .i64 a, .int .i64 b] w fun e w' => e = .returned (.int .i64 (cmpI a b)) ∧ w' = w := by
  have HX := Lib.hid (show cmpI a b = if a < b then -1 else if b < a then 1 else 0 from rfl)
  go_enter Tryz.func59, Tryz.ntmps59
  go_wp2
  all_goals go_ret
  all_goals exact ⟨ret_int (by rw [HX.out]; (repeat' split) <;> first | rfl | omega), rfl⟩
theorem cmpi_c (a b : Int) (w : World) : Calls Tryz.prog 60 #[.int .i64 a, .int .i64 b] w fun e w' => e = .returned (.int .i64 (cmpI a b)) ∧ w' = w := by
  have HX := Lib.hid (show cmpI a b = if a < b then -1 else if b < a then 1 else 0 from rfl)
  go_enter Tryz.func60, Tryz.ntmps60
  go_wp2
  all_goals go_ret
  all_goals exact ⟨ret_int (by rw [HX.out]; (repeat' split) <;> first | rfl | omega), rfl⟩
/-- Two texts. -/
def cmpS (a b : ByteArray) : Int := if Op.bytesLess a.toList b.toList = true then -1 else if a = b then 0 else 1
theorem cmps_c (a b : ByteArray) (w : World) : Calls Tryz.prog 61 #[.string a, .string b] w fun e w' => e = .returned (.int .i64 (cmpS a b)) ∧ w' = w := by
  have HX := Lib.hid (show cmpS a b = if Op.bytesLess a.toList b.toList = true then -1 else if a = b then 0 else 1 from rfl)
  have HE : Hid ((!a.toList == b.toList) = false ↔ a = b) := Lib.hid (by
    simp only [Bool.not_eq_false', beq_iff_eq]
    exact ⟨toList_inj, fun h => by rw [h]⟩)
  go_enter Tryz.func61, Tryz.ntmps61
  go_wp2
  all_goals go_ret
  all_goals (refine ⟨ret_int ?_, rfl⟩; rw [HX.out])
  · rw [if_pos (by assumption)]
  · have h1 : Op.bytesLess a.toList b.toList = false := by assumption
    have h2 : (!a.toList == b.toList) = true := by assumption
    rw [if_neg (by rw [h1]; decide), if_neg (fun e => by rw [HE.out.2 e] at h2; cases h2)]
  · have h1 : Op.bytesLess a.toList b.toList = false := by assumption
    have h2 : (!a.toList == b.toList) = false := by assumption
    rw [if_neg (by rw [h1]; decide), if_pos (HE.out.1 h2)]
end Go.Proofs.YtgcbanljifalnaaGreatDoor
/- Walks of layer 2: the standard order. Conditions: the arguments read. -/
namespace Go.Proofs.YtgcbanljifalnaaGreatDoor
open Go.RowKit

/-- The first that tells. -/
def orI (a b : Int) : Int := if a ≠ 0 then a else b
def fstI : List Int → Int
  | [] => 0
  | c :: cs => orI c (fstI cs)
theorem fstI_take {cs : List Int} : ∀ {j : Nat} (hj : j < cs.length), (∀ c ∈ cs.take j, c = 0) → cs[j] ≠ 0 → fstI cs = cs[j] := by
  induction cs with
  | nil => intro j hj; simp at hj
  | cons c cs ih =>
    intro j hj h0 h1
    cases j with
    | zero => simp only [List.getElem_cons_zero] at h1 ⊢; simp [fstI, orI, h1]
    | succ j =>
      simp only [List.getElem_cons_succ] at h1 ⊢
      have hc : c = 0 := h0 c (by simp)
      simp only [fstI, orI, hc, ne_eq, not_true_eq_false, if_false]
      exact ih (by simpa using hj) (fun x hx => h0 x (by simp [hx])) h1
theorem fstI_zero : ∀ {cs : List Int}, (∀ c ∈ cs, c = 0) → fstI cs = 0
  | [], _ => rfl
  | c :: cs, h => by simp [fstI, orI, h c (by simp), fstI_zero (fun x hx => h x (List.mem_cons_of_mem _ hx))]
/-- Function values. -/
def Kd.fn : Kd (Nat × Array Value) := Kd.scalar (fun p => Value.func (.func p.1) #[] p.2) (fun _ => rfl)
end Go.Proofs.YtgcbanljifalnaaGreatDoor
/- Walks of layer 2: Compare. Conditions: the arguments read. -/
namespace Go.Proofs.YtgcbanljifalnaaGreatDoor
open Go.RowKit

/-- Two terms in boxes B and B'. -/
structure TwoB (B B' : Nat) (a b : Tm) (ok ok' : Nat → Prop) (u u' : Value) (W : World) : Prop where
  c : W.heap[B]? = some (.cells #[.int .u8 a.k, .string a.s, .int .i64 a.n, u] 30 (0, 0))
  d : W.heap[B']? = some (.cells #[.int .u8 b.k, .string b.s, .int .i64 b.n, u'] 30 (0, 0))
  s : Kd.tm.S W ok a.l u
  s' : Kd.tm.S W ok' b.l u'
theorem TwoB.then {B B' : Nat} {a b : Tm} {ok ok' : Nat → Prop} {u u' : Value} {W W' : World} (h : TwoB B B' a b ok ok' u u' W) (hb : Below W.heap.size W W') : TwoB B B' a b ok ok' u u' W' :=
  ⟨block_below hb (Array.getElem?_eq_some_iff.1 h.c).1 h.c, block_below hb (Array.getElem?_eq_some_iff.1 h.d).1 h.d, h.s.below hb, h.s'.below hb⟩
section
variable {B B' : Nat} {a b : Tm} {ok ok' : Nat → Prop} {u u' : Value} {W : World} (h : TwoB B B' a b ok ok' u u' W)
include h
end
end Go.Proofs.YtgcbanljifalnaaGreatDoor
/- Walks of the library's insertion sort over terms. Conditions: the row is the call's own. -/
namespace Go.Proofs.YtgcbanljifalnaaGreatDoor
open Go.RowKit
attribute [local go_sem ↓] Go.wp_at_zero Go.wp_at_succ

theorem cell_of_cells' {W : World} {B o : Nat} {c : Array Value} {t : TypeId} {v : Value} (h : W.heap[B]? = some (.cells c t (0, 0))) (hv : c[o]? = some v) : W.cell? ⟨B, o, none⟩ = some v := by simp [World.cell?, h, hv]
/-- Block g holds terms from its head on; what they lead to is ok, and not g. -/
structure Rw (g cap : Nat) (ok : Nat → Prop) (xs : List Tm) (W : World) : Prop where
  ng : ¬ ok g
  len : xs.length ≤ cap
  lim : cap ≤ maxLen
  cur : ∃ cur : Array Value, W.heap[g]? = some (.cells cur 30 (0, 0)) ∧ cur.size = cap * 4 ∧ ∀ j x, xs[j]? = some x → ∃ u, cur[j * 4]? = some (.int .u8 x.k) ∧ cur[j * 4 + 1]? = some (.string x.s) ∧ cur[j * 4 + 2]? = some (.int .i64 x.n) ∧ cur[j * 4 + 3]? = some u ∧ Kd.tm.S W ok x.l u
theorem Rw.then {g cap : Nat} {ok : Nat → Prop} {xs : List Tm} {W W' : World} (h : Rw g cap ok xs W) (hb : Below W.heap.size W W') : Rw g cap ok xs W' := by
  obtain ⟨h1, h2, h2', cur, h3, h4, h5⟩ := h
  exact ⟨h1, h2, h2', cur, block_below hb (Array.getElem?_eq_some_iff.1 h3).1 h3, h4, fun j x hx => let ⟨u, q0, q1, q2, q3, q4⟩ := h5 j x hx; ⟨u, q0, q1, q2, q3, q4.below hb⟩⟩
theorem Rw.lt {g cap : Nat} {ok : Nat → Prop} {xs : List Tm} {W : World} (h : Rw g cap ok xs W) : g < W.heap.size := by
  obtain ⟨h1, h2, h2', cur, h3, h4, h5⟩ := h; exact (Array.getElem?_eq_some_iff.1 h3).1
theorem Rw.elem {g cap : Nat} {ok : Nat → Prop} {xs : List Tm} {W : World} (h : Rw g cap ok xs W) {j : Nat} (hj : j < xs.length) :
    ∃ u, W.cell? ⟨g, j * 4, none⟩ = some (.int .u8 xs[j].k) ∧ W.cell? ⟨g, j * 4 + 1, none⟩ = some (.string xs[j].s) ∧ W.cell? ⟨g, j * 4 + 2, none⟩ = some (.int .i64 xs[j].n) ∧ W.cell? ⟨g, j * 4 + 3, none⟩ = some u ∧
      W.frozen? ⟨g, j * 4, none⟩ = false ∧ W.frozen? ⟨g, j * 4 + 1, none⟩ = false ∧ W.frozen? ⟨g, j * 4 + 2, none⟩ = false ∧ W.frozen? ⟨g, j * 4 + 3, none⟩ = false ∧ Kd.tm.S W ok xs[j].l u := by
  obtain ⟨h1, h2, h2', cur, h3, h4, h5⟩ := h
  obtain ⟨u, q0, q1, q2, q3, q4⟩ := h5 j xs[j] (List.getElem?_eq_getElem hj)
  have b0 := (Array.getElem?_eq_some_iff.1 q3).1
  refine ⟨u, cell_of_cells' h3 q0, cell_of_cells' h3 q1, cell_of_cells' h3 q2, cell_of_cells' h3 q3, ?_, ?_, ?_, ?_, q4⟩ <;> simp [World.frozen?, h3] <;> omega
theorem Rw.S {g cap : Nat} {ok : Nat → Prop} {xs : List Tm} {W : World} (h : Rw g cap ok xs W) : Kd.tm.S W (fun _ => True) xs (.slice (some ⟨g, 0, none⟩) xs.length cap) := by
  have hh := h
  obtain ⟨h1, h2, h2', cur, h3, h4, h5⟩ := h
  refine ⟨_, cap, rfl, h2, h2', .inr ⟨g, 0, rfl, trivial, fun j x hx => ?_⟩⟩
  obtain ⟨u, q0, q1, q2, q3, q4⟩ := h5 j x hx
  refine ⟨_, TmK_iff.2 ⟨u, rfl, q4.mono (fun _ _ => trivial)⟩, fun i v hv => ?_⟩
  have e : 0 + j * Kd.tm.sz + i = j * 4 + i := by simp [Kd.tm]
  rw [e]
  match i, hv with
  | 0, hv => simp at hv; subst hv; exact cell_of_cells' h3 q0
  | 1, hv => simp at hv; subst hv; exact cell_of_cells' h3 q1
  | 2, hv => simp at hv; subst hv; exact cell_of_cells' h3 q2
  | 3, hv => simp at hv; subst hv; exact cell_of_cells' h3 q3
  | i + 4, hv => simp at hv
theorem set_block {W : World} {g : Nat} {c : Array Value} {t : TypeId} (h : W.heap[g]? = some (.cells c t (0, 0))) (o : Nat) (v : Value) : (W.setCell ⟨g, o, none⟩ v).heap[g]? = some (.cells (c.setIfInBounds o v) t (0, 0)) := by
  simp [World.setCell, Array.getElem?_modify, h]
/-- Four stores. -/
def set4 (W : World) (g o : Nat) (a b c d : Value) : World := (((W.setCell ⟨g, o, none⟩ a).setCell ⟨g, o + 1, none⟩ b).setCell ⟨g, o + 2, none⟩ c).setCell ⟨g, o + 3, none⟩ d
theorem set4_grown (W : World) (g o : Nat) (a b c d : Value) : W.grownBy (set4 W g o a b c d) (some g) :=
  (((grown_set W g o a).trans (grown_set _ g (o + 1) b)).trans (grown_set _ g (o + 2) c)).trans (grown_set _ g (o + 3) d)
theorem Rw.set {g cap : Nat} {ok : Nat → Prop} {xs : List Tm} {W : World} (h : Rw g cap ok xs W) {i : Nat} (hi : i < xs.length) (x : Tm) (u : Value) (hu : Kd.tm.S W ok x.l u) : Rw g cap ok (xs.set i x) (set4 W g (i * 4) (.int .u8 x.k) (.string x.s) (.int .i64 x.n) u) := by
  have hg := set4_grown W g (i * 4) (.int .u8 x.k) (.string x.s) (.int .i64 x.n) u
  obtain ⟨h1, h2, h2', cur, h3, h4, h5⟩ := h
  have hok : ∀ b, ok b → some b ≠ some g := fun b hb e => by injection e with e; subst e; exact h1 hb
  refine ⟨h1, by simpa using h2, h2', _, set_block (set_block (set_block (set_block h3 _ _) _ _) _ _) _ _, by simpa using h4, fun j y hy => ?_⟩
  rw [List.getElem?_set] at hy
  split at hy
  · rename_i hij
    subst hij
    injection hy with hy
    subst hy
    refine ⟨u, ?_, ?_, ?_, ?_, Kd.S.grown hg hok hu⟩
    all_goals simp only [Array.getElem?_setIfInBounds, Array.size_setIfInBounds]
    · rw [if_neg (by omega), if_neg (by omega), if_neg (by omega), if_pos trivial, if_pos (by omega)]
    · rw [if_neg (by omega), if_neg (by omega), if_pos trivial, if_pos (by omega)]
    · rw [if_neg (by omega), if_pos trivial, if_pos (by omega)]
    · rw [if_pos trivial, if_pos (by omega)]
  · rename_i hij
    obtain ⟨v, q0, q1, q2, q3, q4⟩ := h5 j y hy
    refine ⟨v, ?_, ?_, ?_, ?_, Kd.S.grown hg hok q4⟩
    all_goals simp only [Array.getElem?_setIfInBounds, Array.size_setIfInBounds]
    · rw [if_neg (by omega), if_neg (by omega), if_neg (by omega), if_neg (by omega)]; exact q0
    · rw [if_neg (by omega), if_neg (by omega), if_neg (by omega), if_neg (by omega)]; exact q1
    · rw [if_neg (by omega), if_neg (by omega), if_neg (by omega), if_neg (by omega)]; exact q2
    · rw [if_neg (by omega), if_neg (by omega), if_neg (by omega), if_neg (by omega)]; exact q3
end Go.Proofs.YtgcbanljifalnaaGreatDoor
/- Walks of layer 2's reference: texts. Conditions: they are no longer than what is borne. -/
namespace Go.Proofs.YtgcbanljifalnaaGreatDoor
open Go.RowKit
attribute [local go_sem ↓] Go.wp_at_zero Go.wp_at_succ
/-- Two texts as lists. -/
def tx (l m : List UInt8) : Int := if Op.bytesLess l m = true then -1 else if l = m then 0 else 1
theorem tx_cons (x y : UInt8) (l m : List UInt8) : tx (x :: l) (y :: m) = if x = y then tx l m else if x < y then -1 else 1 := by
  unfold tx
  by_cases h : x = y
  · subst h
    have : ¬ x < x := by simp
    simp [Op.bytesLess, this]
  · by_cases h1 : x < y
    · simp [Op.bytesLess, h, h1]
    · simp [Op.bytesLess, h, h1]
theorem tx_nil_cons (y : UInt8) (m : List UInt8) : tx [] (y :: m) = -1 := by simp [tx, Op.bytesLess]
theorem tx_cons_nil (x : UInt8) (l : List UInt8) : tx (x :: l) [] = 1 := by simp [tx, Op.bytesLess]
theorem tx_nil : tx [] [] = 0 := by simp [tx, Op.bytesLess]
theorem cmpS_tx (a b : ByteArray) : cmpS a b = tx a.data.toList b.data.toList := by
  unfold cmpS tx
  rw [ByteArray.toList_eq, ByteArray.toList_eq]
  by_cases h : a = b
  · subst h; simp
  · have h' : a.data.toList ≠ b.data.toList := fun e => h (by rw [← ByteArray.toList_eq, ← ByteArray.toList_eq] at e; exact toList_inj e)
    simp [h, h']
end Go.Proofs.YtgcbanljifalnaaGreatDoor
/- Walks of layer 2's reference: the order by definition. Conditions: the arguments read; what they are made of is in its bounds. -/
namespace Go.Proofs.YtgcbanljifalnaaGreatDoor
open Go.RowKit
attribute [local go_sem ↓] Go.wp_at_zero Go.wp_at_succ
end Go.Proofs.YtgcbanljifalnaaGreatDoor
/- The law of layer 2 wakes. No condition. -/
namespace Go.Proofs.YtgcbanljifalnaaGreatDoor
open Go.RowKit

def kA (s : ByteArray) : Tm := ⟨3, s, 0, []⟩
end Go.Proofs.YtgcbanljifalnaaGreatDoor
/- Plain laws of layer 2: of good terms the order is the one by definition. No condition. -/
namespace Go.Proofs.YtgcbanljifalnaaGreatDoor

theorem size_zero {s : ByteArray} (h : s.size = 0) : s = ⟨#[]⟩ := by
  obtain ⟨d⟩ := s
  have : d = #[] := Array.eq_empty_of_size_eq_zero h
  rw [this]
end Go.Proofs.YtgcbanljifalnaaGreatDoor
/- Plain laws of layer 2: the order is one. No condition. -/
namespace Go.Proofs.YtgcbanljifalnaaGreatDoor

/-- What a comparison by three-way numbers must be. -/
structure Cmp (x xr : Int) (e : Prop) : Prop where
  rng : x = -1 ∨ x = 0 ∨ x = 1
  neg : xr = -x
  zero : x = 0 ↔ e
theorem cmpI_cmp (a b : Int) : Cmp (cmpI a b) (cmpI b a) (a = b) := by
  unfold cmpI
  refine ⟨?_, ?_, ?_⟩
  · (repeat' split) <;> simp
  · (repeat' split) <;> omega
  · (repeat' split) <;> omega
theorem tx_cmp : ∀ l m : List UInt8, Cmp (tx l m) (tx m l) (l = m)
  | [], [] => ⟨by simp [tx_nil], by simp [tx_nil], by simp [tx_nil]⟩
  | [], y :: m => ⟨by simp [tx_nil_cons], by simp [tx_nil_cons, tx_cons_nil], by simp [tx_nil_cons]⟩
  | x :: l, [] => ⟨by simp [tx_cons_nil], by simp [tx_nil_cons, tx_cons_nil], by simp [tx_cons_nil]⟩
  | x :: l, y :: m => by
    rw [tx_cons, tx_cons]
    by_cases h : x = y
    · subst h
      have := tx_cmp l m
      simp only [if_pos]
      exact ⟨this.rng, this.neg, by rw [this.zero]; simp⟩
    · have h' : ¬ y = x := fun e => h e.symm
      rw [if_neg h, if_neg h']
      by_cases hl : x < y
      · have : ¬ y < x := by
          rw [UInt8.lt_iff_toNat_lt] at hl ⊢; omega
        rw [if_pos hl, if_neg this]
        exact ⟨by simp, by simp, by simp [h]⟩
      · have : y < x := by
          rw [UInt8.lt_iff_toNat_lt] at hl ⊢
          have : x.toNat ≠ y.toNat := fun e => h (UInt8.toNat_inj.1 e)
          omega
        rw [if_neg hl, if_pos this]
        exact ⟨by simp, by simp, by simp [h]⟩
theorem cmpS_cmp (a b : ByteArray) : Cmp (cmpS a b) (cmpS b a) (a = b) := by
  rw [cmpS_tx, cmpS_tx]
  have := tx_cmp a.data.toList b.data.toList
  refine ⟨this.rng, this.neg, this.zero.trans ⟨fun h => ?_, fun h => by rw [h]⟩⟩
  obtain ⟨a⟩ := a
  obtain ⟨b⟩ := b
  simpa using h
end Go.Proofs.YtgcbanljifalnaaGreatDoor

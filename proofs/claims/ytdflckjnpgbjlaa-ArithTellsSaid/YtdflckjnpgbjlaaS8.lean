/- The reference's 'Nodes', 'Occurs'. Conditions: the arguments read; the bindings make no circle; terms of at most a million nodes. -/
import Derived.Test.YtdflckjnpgbjlaaS7
set_option linter.unusedVariables false
set_option maxRecDepth 20000
set_option linter.unusedSimpArgs false
namespace Go.Proofs.Ytdflckjnpgbjlaa
open Go.RowKit

theorem gfresh' {w W W' : World} {r r' : Option Nat} (h : w.grownBy W r) (g : W.grownBy W' r') (hk : ∀ k, r' = some k → w.heap.size ≤ k) : w.grownBy W' r :=
  ⟨g.os.trans h.os, g.tape.trans h.tape, g.output.trans h.output, Nat.le_trans h.size g.size, fun i hi hr => (g.block i (Nat.lt_of_lt_of_le hi h.size) (fun e => by have := hk i e.symm; omega)).trans (h.block i hi hr)⟩
/-- A step that is wanted. -/
theorem if_t {c : Prop} [Decidable c] {p q : Prop} (hc : c) (h : p) : if c then p else q := by rw [if_pos hc]; exact h
/-- An operation of a region that draws, as one of a list. -/
def Qn (K : Act → World → Prop) (Q : Exit → Act → World → Prop) : Exit → Act → World → Prop
  | .normal, a, w => K a w
  | .panic c, a, w => Q (.panic c) a w
  | _, _, _ => False
theorem opwp_of_list {P : Program} {ops : Array Oper} {o : Oper} {a : Act} {w : World} {K : Act → World → Prop} {Q : Exit → Act → World → Prop} (hg : o.guard = none) (h : wpList P ops (Qn K Q) [o] a w) : o.wp P a w K Q := by
  unfold wpList at h
  rw [if_pos (by simp [Region.wanted, hg])] at h
  have hno : ¬ LetsOut (Qn K Q) := fun ⟨_, _, h⟩ => h
  have h := h.resolve_right (fun hh => hno hh.2)
  unfold Oper.wp at h ⊢
  generalize (execOp a.eval o).run P w = r at h ⊢
  match r, h with
  | .ok (.value v) w', h => exact h
  | .ok .skip w', h => exact h
  | .ok (.defer d) w', h => exact h
  | .ok (.enter f args) w', h =>
    exact Calls.mono h (fun e w'' he => match e, he with
      | .returned v, he => he
      | .panicked c, he => he
      | .outgrown, he => absurd he hno)
  | .ok (.row row args) w', h => exact h
  | .halt (.panic v) w', h => exact h

theorem Try.sizeT (w : World) : (sizeOf (Try.prog.elem 22)).run Try.prog w = .ok 4 w := by kernel_rfl
/-- Without the first one. -/
theorem S.tail_run {w : World} {ok : Nat → Prop} {x : Tm} {T : List Tm} {v : Value} (h : Kd.tm.S w ok (x :: T) v) :
    ∃ v', (∀ W, (Instr.slice 22 v (some (.int .i64 1)) none none).run Try.prog W = .ok v' W) ∧ Kd.tm.S w ok T v' := by
  obtain ⟨A, c, rfl, hl, hc, hA⟩ := h
  obtain ⟨b, o, rfl, hb, hat⟩ := hA.resolve_left (by rintro ⟨h, _⟩; cases h)
  refine ⟨sliced (some ⟨b, o, none⟩) 1 (x :: T).length c 4, fun W => ?_, ?_⟩
  · rw [run_slice_l W 22 _ _ _ Try.underlying22 .i64 1 (by omega) (by simp; omega), Try.sizeT]
    rfl
  · refine ⟨if c = 1 then some ⟨b, o, none⟩ else some ⟨b, o + 4, none⟩, c - 1, ?_, by simp at hl; omega, by omega, ?_⟩
    · unfold sliced
      simp only [Option.map_some, Nat.one_mul, add_off, List.length_cons, Nat.add_sub_cancel]
    · by_cases hT : T = []
      · exact .inl ⟨hT, fun e => by split at e <;> cases e⟩
      · have : 0 < T.length := List.length_pos_iff.2 hT
        refine .inr ⟨b, o + 4, by rw [if_neg (by simp at hl; omega)], hb, fun j y hy => ?_⟩
        obtain ⟨cs, hk, hcs⟩ := hat (j + 1) y (by simpa using hy)
        refine ⟨cs, hk, fun i u hu => ?_⟩
        have := hcs i u hu
        rw [show o + (j + 1) * Kd.tm.sz + i = o + 4 + j * Kd.tm.sz + i by simp only [Kd.tm]; omega] at this
        exact this
/-- Where v first is visited, counted from 1 on; -1: nowhere. -/
def fpos (v : Int) (L : List Tm) : Int := match L.findIdx? (isv v) with | some i => (i : Int) + 1 | none => -1
theorem fpos_snoc (v : Int) (L : List Tm) (x : Tm) : fpos v (L ++ [x]) = if fpos v L < 0 ∧ isv v x = true then (L.length : Int) + 1 else fpos v L := by
  unfold fpos
  rw [List.findIdx?_append]
  cases h : L.findIdx? (isv v) with
  | some i => simp; omega
  | none =>
    cases hx : isv v x with
    | true => simp [List.findIdx?_cons, hx]
    | false => simp [List.findIdx?_cons, hx]
theorem fpos_le (v : Int) (L : List Tm) : -1 ≤ fpos v L ∧ fpos v L ≤ L.length := by
  unfold fpos
  cases h : L.findIdx? (isv v) with
  | some i => have := List.findIdx?_eq_some_iff_findIdx_eq.1 h; simp; omega
  | none => simp
theorem run_snoc {l : Bs} {T : List Tm} {pre : List Tm} {t x : Tm} {m : Nat} (h : ∀ r, run l (m + r) [t] = pre ++ run l r (x :: T)) : ∀ r, run l (m + 1 + r) [t] = (pre ++ [wlk l x]) ++ run l r ((wlk l x).l ++ T) := fun r => by
  rw [Nat.add_assoc, h (1 + r), Nat.add_comm 1 r]
  simp [run]
/-- What Nodes tells. -/
def nodE (P : List Tm) (q : Int) : Int × Int := (((P.take 4097).length : Nat), fpos q (P.take 4097))
theorem nodE_end {l : Bs} {t : Tm} {f : Nat} {q : Int} {pre : List Tm} {m : Nat} (hf : Fn l f t) (hl : pre.length = m) (hm : m ≤ 4097) (h : ∀ r, run l (m + r) [t] = pre ++ run l r []) : nodE (vis l f t) q = ((m : Int), fpos q pre) := by
  have h1 := run_vis (f := f) (m + (4097 - m)) [t] (by simpa using hf)
  rw [h] at h1
  have h2 : run l (4097 - m) [] = [] := by cases 4097 - m <;> rfl
  rw [h2, List.append_nil, show m + (4097 - m) = 4097 by omega, show [t].flatMap (vis l f) = vis l f t by simp] at h1
  unfold nodE
  rw [← h1, hl]
theorem nodE_full {l : Bs} {t : Tm} {f : Nat} {q : Int} {pre T : List Tm} (hf : Fn l f t) (hl : pre.length = 4097) (h : ∀ r, run l (4097 + r) [t] = pre ++ run l r T) : nodE (vis l f t) q = (4097, fpos q pre) := by
  have h1 := run_vis (f := f) (4097 + 0) [t] (by simpa using hf)
  rw [h, show run l 0 T = [] from rfl, List.append_nil, Nat.add_zero, show [t].flatMap (vis l f) = vis l f t by simp] at h1
  unfold nodE
  rw [← h1, hl]
  rfl
set_option maxRecDepth 100000 in
set_option maxHeartbeats 4000000 in
theorem Nodes_c (l : Bs) (t : Tm) (f : Nat) (q : Int) (vl v : Value) (w : World) (okl ok : Nat → Prop) (hvl : Kd.bd.S w okl l vl) (hv : TmV w ok t v) (hf : Fn l f t) (hA : Acyc l) (hll : l.length ≤ 1000000) (hsm : ∀ n t, ofB l n = some t → t.siz ≤ 1000000) (hsz : t.siz ≤ 1000000) (hq : -9223372036854775808 ≤ q ∧ q ≤ 9223372036854775807) :
    Calls Try.prog 104 #[vl, v, .int .i64 q] w fun e w' => e = .returned (.tuple #[.int .i64 (nodE (vis l f t) q).1, .int .i64 (nodE (vis l f t) q).2]) ∧ Below w.heap.size w w' := by
  have HWK := Lib.hid (fun (x : Tm) (u : Value) (W : World) (hW : Below w.heap.size w W) (hu : TmV W (fun _ => True) x u) => rWalk_c l x vl u W _ _ (hvl.bound.below hW) hu hA hll)
  obtain ⟨Al, cl, rfl⟩ := hvl.form
  obtain ⟨u0, rfl, hS⟩ := hv
  obtain ⟨A, c, rfl⟩ := hS.form
  have hb1 := (Below.refl w.heap.size w).alloc (Nat.le_refl _) (.cells #[.int .u8 t.k, .string t.s, .int .i64 t.n, .slice A t.l.length c] 24)
  have HL := Lib.hid (lit1 (w := w) (W := w.alloc (.cells #[.int .u8 t.k, .string t.s, .int .i64 t.n, .slice A t.l.length c] 24)) (ok := ok) (t := t) (hS.below hb1) hb1)
  have HF := Lib.hid hf
  have HSM := Lib.hid hsm
  have HSZ := Lib.hid hsz
  clear hvl hS hf hA hsm hsz
  go_enter Try.func104, Try.ntmps104
  go_wp2
  go_loopw [8, 9, 10] (fun td n at' wr => ∃ (m : Nat) (pre T : List Tm), pre.length = m ∧ m ≤ 4097 ∧ n = .int .i64 m ∧ at' = .int .i64 (fpos q pre) ∧ Hid (∀ r, run l (m + r) [t] = pre ++ run l r T) ∧ Hid (∀ x ∈ T, x.siz ≤ 1000000) ∧ Hid (T.length ≤ 1 + m * 1000000) ∧ Hid (Kd.tm.S wr (fun _ => True) T td) ∧ Below w.heap.size w wr) (fun _ n _ _ => 4098 - (intOf n).toNat)
  case atStart =>
    have hq0 := HL.out
    rw [World.size_alloc] at hq0
    exact ⟨0, [], [t], rfl, by omega, rfl, rfl, Lib.hid (fun r => by simp), Lib.hid (by have := HSZ.out; simpa using this), Lib.hid (by simp), Lib.hid (hq0.mono (fun _ _ => trivial)), hb1.alloc (by simp) _⟩
  case round =>
    obtain ⟨m, pre, T, hpl, hm, rfl, rfl, hrun, hTs, hTl, hTS, hb⟩ := hrel
    have HB := Lib.hid hb
    have hfp := fpos_le q pre
    rw [hpl] at hfp
    have HPL := Lib.hid hpl
    clear hpl HL hb1
    cases T with
    | nil =>
      obtain ⟨tA, tc, rfl⟩ := hTS.out.form
      have HE := Lib.hid (nodE_end (q := q) HF.out HPL.out hm hrun.out)
      clear hb
      go_wp2
      refine bodyPost_ret (v := .tuple #[.int .i64 m, .int .i64 (fpos q pre)]) (by simp [results, Try.results104, go_sem]) rfl ⟨by rw [HE.out], HB.out⟩
    | cons y T =>
      by_cases hm4 : m ≤ 4096
      · have hm4' : (m : Int) ≤ 4096 := by omega
        obtain ⟨A', c', htd, hl', hc', hA'⟩ := hTS.out
        replace htd : _ = Value.slice A' (T.length + 1) c' := htd
        subst htd
        obtain ⟨v4, hsl, hS4⟩ := S.tail_run hTS.out
        obtain ⟨A4, c4, rfl⟩ := hS4.form
        have HSL := Lib.hid hsl
        have HS4 := Lib.hid hS4
        clear hsl hS4
        obtain ⟨b', o', u, rfl, hokb, hlo, h0, h1, h2, h3, h4⟩ := tm_elem (j := 0) hA' (by simp)
        have hyV : TmV wr (fun _ => True) y (.agg #[.int .u8 y.k, .string y.s, .int .i64 y.n, u]) := ⟨u, rfl, h4⟩
        obtain ⟨Au, cu, rfl⟩ := h4.form
        simp only [List.getElem_cons_zero, Nat.zero_mul, Nat.add_zero] at h0 h1 h2 h3
        have HW := Lib.hid (HWK.out y _ wr hb hyV)
        have hxz : (wlk l y).siz ≤ 1000000 := wlk_siz HSM.out y (hTs.out y (by simp))
        have hrn := Lib.hid (run_snoc hrun.out)
        have hsn := fpos_snoc q pre (wlk l y)
        generalize wlk l y = x at HW hxz hrn hsn
        have hxl := len_siz hxz
        have hTl2 : T.length ≤ m * 1000000 := by have := hTl.out; simp at this; omega
        have HC : ∃ a' : Int, fpos q (pre ++ [x]) = a' ∧ ((x.k = 1 ∧ x.n = q ∧ fpos q pre < 0 ∧ a' = (m : Int) + 1) ∨ (a' = fpos q pre ∧ (x.k ≠ 1 ∨ (x.k = 1 ∧ x.n ≠ q) ∨ (x.k = 1 ∧ x.n = q ∧ ¬ fpos q pre < 0)))) := by
          refine ⟨_, rfl, ?_⟩
          rw [hsn, HPL.out]
          unfold isv
          by_cases h1 : x.k = 1
          · by_cases h2 : x.n = q
            · by_cases h3 : fpos q pre < 0
              · left; simp [h1, h2, h3]
              · right; simp [h1, h2, h3]
            · right; simp [h1, h2]
          · right; simp [h1]
        obtain ⟨a', ha', hC⟩ := HC
        have HA' := Lib.hid ha'
        have HT3 := Lib.hid (fun z (hz : z ∈ x.l ++ T) => (List.mem_append.1 hz).elim (fun h => siz_at hxz h) (fun h => hTs.out z (by simp [h])))
        clear hA' hyV h4 hrun hsn ha' hTs hTl hb hTS
        rcases hC with ⟨hk, hn, hfn, ha0⟩ | ⟨ha0, hk | ⟨hk, hn⟩ | ⟨hk, hn, hfn⟩⟩
        all_goals
          have HK := Lib.hid hk
          have HA0 := Lib.hid ha0
          (first
            | (have hd1 : (x.k == 1) = true := (by simpa using hk); have hd2 : (x.n == q) = true := (by simpa using hn); clear ha0)
            | (have hd1 : (x.k == 1) = true := (by simpa using hk); have hd2 : (x.n == q) = false := (by simpa using hn); clear ha0)
            | (have hd1 : (x.k == 1) = false := (by simpa using hk); clear ha0))
          try clear hn
          clear hk
          go_wp2_with (go_at_call 79; refine HW.out.mono ?_; clear HW; rintro e w2 ⟨⟨u2, rfl, hv2⟩, hb2⟩; obtain ⟨u3, rfl, hvS2⟩ := hv2; obtain ⟨A2, c2, rfl⟩ := hvS2.form; have HV2 := Lib.hid hvS2; clear hvS2; have hz2 := Lib.hid hb2.size)
          refine wp_region_held_drew (S := (fun W => W.cell? ⟨w2.heap.size, 3, none⟩ = some (.slice A2 x.l.length c2) ∧ Below w2.heap.size w2 W ∧ w2.heap.size < W.heap.size)) (by kernel_rfl) ?_ (fun hHeld => ?_)
          · exact ⟨by simp [World.cell?_drew], ((Below.refl _ w2).alloc (Nat.le_refl _) _).drew, by simp⟩
          change wpAnyH _ .any _ _ _ 7 (Array.replicate 7 false) _ _
          refine wpAnyH_take (i := 0) (oi := ⟨some 42, _, _, _, _, _⟩) (v := ?_) rfl (by kernel_rfl) (by kernel_rfl) (by kernel_rfl) (fun _ _ _ h => h) (Or.inl ⟨by rfl, ?_⟩) (by assumption) ?_
          rotate_left
          · (intro w hSw; (try dsimp only at hSw); go_simp; try (with_reducible rfl))
          (try simp only [Act.put, List.setIfInBounds_toArray, List.set_cons_zero, List.set_cons_succ])
          refine wpAnyH_take (i := 1) (oi := ⟨some 43, _, _, _, _, _⟩) (v := ?_) rfl (by kernel_rfl) (by kernel_rfl) (by kernel_rfl) (fun _ _ _ h => h) (Or.inl ⟨by rfl, ?_⟩) (by assumption) ?_
          rotate_left
          · (intro w hSw; (try dsimp only at hSw); go_simp; try (with_reducible rfl))
          (try simp only [Act.put, List.setIfInBounds_toArray, List.set_cons_zero, List.set_cons_succ])
          refine wpAnyH_take (i := 3) (oi := ⟨some 45, _, _, _, _, _⟩) (v := ?_) rfl (by kernel_rfl) (by kernel_rfl) (by kernel_rfl) (fun _ _ _ h => h) (Or.inl ⟨by rfl, ?_⟩) (by assumption) ?_
          rotate_left
          · (intro w hSw; (try dsimp only at hSw); go_simp; try (with_reducible rfl))
          (try simp only [Act.put, List.setIfInBounds_toArray, List.set_cons_zero, List.set_cons_succ])
          refine wpAnyH_take (i := 4) (oi := ⟨some 46, _, _, _, _, _⟩) (v := .slice A4 T.length c4) rfl (by kernel_rfl) (by kernel_rfl) (by kernel_rfl) (fun _ _ _ h => h) (Or.inl ⟨by rfl, ?_⟩) (by assumption) ?_
          · intro w hSw
            have hsl := HSL.out w
            clear hSw
            go_simp
          (try simp only [Act.put, List.setIfInBounds_toArray, List.set_cons_zero, List.set_cons_succ])
          refine wpAnyH_ready (rs := [2]) (by kernel_rfl) (by simp) ?_
          refine AllReadyH.cons (o := ⟨some 44, _, _, _, _, _⟩) rfl (fun K hK => ?_) AllReadyH.nil
          refine if_t (by rfl) (opwp_of_list (ops := #[]) rfl ?_)
          have hx2 : Kd.tm.S2 ((w2.alloc (.cells #[.int .u8 x.k, .string x.s, .int .i64 x.n, .slice A2 x.l.length c2] 24)).drew) (fun _ => True) (fun _ => True) x.l (.slice A2 x.l.length c2) := Kd.S.S2 (Kd.S.mono (fun _ _ => trivial) (Kd.S.below ((Below.refl _ w2).alloc (Nat.le_refl _) _).drew HV2.out))
          have ht2 : Kd.tm.S ((w2.alloc (.cells #[.int .u8 x.k, .string x.s, .int .i64 x.n, .slice A2 x.l.length c2] 24)).drew) (fun b => b < w2.heap.size) T (.slice A4 T.length c4) := Kd.S.mono (fun i hi => by have := hz2.out; omega) (Kd.S.below (below_then hb2 hb2.size (((Below.refl _ w2).alloc (Nat.le_refl _) _).drew)) HS4.out.bound)
          refine Kd.appendS Kd.tm (W := ((w2.alloc (.cells #[.int .u8 x.k, .string x.s, .int .i64 x.n, .slice A2 x.l.length c2] 24)).drew)) (w2.heap.size + 1) (fun _ => True) (fun _ => True) (fun _ => True) rfl (.const (.slice none 0 0)) (.tmp 43) 22 24 (.agg #[.int .u8 0, .string ⟨#[]⟩, .int .i64 0, .slice none 0 0]) 56 rfl Try.underlying22 Try.infoT rfl (by decide) (.slice none 0 0) (.slice A2 x.l.length c2) [] x.l rfl rfl (Kd.Own.nil _ _ _ _ _) hx2 (fun z cs hz => Kd.tm.mono (fun i hi => ⟨trivial, by simp [Value.ownBlock]⟩) hz) (by simp) (by simp; omega) ?_
          intro v5 w5 hO5 hg5 hat5
          obtain ⟨A5, c5, hv5⟩ := Kd.Own.form hO5
          simp only [List.nil_append] at hO5 hv5
          subst hv5
          change K _ _
          replace hg5 : World.grownBy ((w2.alloc (.cells #[.int .u8 x.k, .string x.s, .int .i64 x.n, .slice A2 x.l.length c2] 24)).drew) w5 none := by simpa [Value.ownBlock] using hg5
          refine hK.out _ _ ⟨hg5.cell hHeld.1 (by simp), below_then hHeld.2.1 hHeld.2.1.size (below_of_grown hg5), by have := hg5.size; omega⟩ (fun hHeld => ?_)
          clear hK K
          (try simp only [Act.put, List.setIfInBounds_toArray, List.set_cons_zero, List.set_cons_succ])
          refine wpAnyH_ready (rs := [5]) (by kernel_rfl) (by simp) ?_
          refine AllReadyH.cons (o := ⟨some 47, _, _, _, _, _⟩) rfl (fun K hK => ?_) AllReadyH.nil
          refine if_t (by rfl) (opwp_of_list (ops := #[]) rfl ?_)
          have ht5 := Kd.S.S2 (Kd.S.below (below_of_grown hg5) ht2)
          have hlt5 := Kd.Own.lt hO5
          refine Kd.appendS Kd.tm (W := w5) (w2.heap.size + 1) (fun _ => True) (fun b => b < w2.heap.size) (fun b => b < w2.heap.size) rfl (.tmp 44) (.tmp 46) 22 24 (.agg #[.int .u8 0, .string ⟨#[]⟩, .int .i64 0, .slice none 0 0]) 56 rfl Try.underlying22 Try.infoT rfl (by decide) (.slice A5 x.l.length c5) (.slice A4 T.length c4) x.l T rfl rfl hO5 ht5 (fun z cs hz => Kd.tm.mono (fun i hi => ⟨trivial, fun he => by have := (hlt5 i he.symm).1; omega⟩) hz) (by omega) (by omega) ?_
          intro v6 w6 hO6 hg6 hat6
          obtain ⟨A6, c6, hv6⟩ := Kd.Own.form hO6
          subst hv6
          change K _ _
          have hb6 : Below w2.heap.size w2 w6 := below_of_grown (gfresh' (gnone hHeld.2.1) hg6 (fun k hk => by have := (hlt5 k hk).1; omega))
          refine hK.out _ _ ⟨hg6.cell hHeld.1 (fun e => ?_), hb6, by have := hg6.size; omega⟩ (fun hHeld => ?_)
          · (have := (hlt5 _ e.symm).1; simp only at this; omega)
          clear hK K
          (try simp only [Act.put, List.setIfInBounds_toArray, List.set_cons_zero, List.set_cons_succ])
          refine wpAnyH_take (i := 6) (oi := ⟨some 8, _, _, _, _, _⟩) (v := ?_) rfl (by kernel_rfl) (by kernel_rfl) (by kernel_rfl) (fun _ _ _ h => h) (Or.inl ⟨by rfl, ?_⟩) (by assumption) ?_
          rotate_left
          · (intro w hSw; (try dsimp only at hSw); go_simp; try (with_reducible rfl))
          (try simp only [Act.put, List.setIfInBounds_toArray, List.set_cons_zero, List.set_cons_succ])
          refine wpAnyH_done (by kernel_rfl) ?_ _
          go_wp2
          go_roundw
          case rel =>
            have hS6 := (Kd.Own.S hO6).mono (ok' := fun _ => True) (fun _ _ => trivial)
            refine ⟨m + 1, pre ++ [x], x.l ++ T, by simp [HPL.out], by omega, by go_num, ?_, hrn, HT3, Lib.hid (by simp only [List.length_append]; omega), Lib.hid (by simpa using hS6), below_then (below_then HB.out HB.out.size hb2) (by have := HB.out.size; have := hb2.size; omega) hb6⟩
            rw [HA'.out, HA0.out]
          case measure => simp [intOf]; omega
      · have hm4' : ¬ (m : Int) ≤ 4096 := by omega
        obtain rfl : m = 4097 := by omega
        obtain ⟨tA, tc, rfl⟩ := hTS.out.form
        have HE := Lib.hid (nodE_full (q := q) HF.out HPL.out hrun.out)
        clear hb
        go_wp2
        refine bodyPost_ret (v := .tuple #[.int .i64 4097, .int .i64 (fpos q pre)]) (by simp [results, Try.results104, go_sem]) rfl ⟨by rw [HE.out], HB.out⟩
end Go.Proofs.Ytdflckjnpgbjlaa

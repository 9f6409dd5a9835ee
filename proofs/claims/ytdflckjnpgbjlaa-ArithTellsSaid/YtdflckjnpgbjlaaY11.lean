/- Layer 13's reference: what a term is worth, walked. Conditions: the arguments read; the bindings make no circle. -/
import Derived.Test.YtdflckjnpgbjlaaY10
import Derived.Test.YtdflckjnpgbjlaaY6
import Derived.Test.YtdflckjnpgbjlaaSd
import Derived.Deep.DeepCutAuto
set_option linter.unusedVariables false
set_option maxRecDepth 20000
set_option linter.unusedSimpArgs false
namespace Go.Proofs.Ytdflckjnpgbjlaa
open Go.RowKit

theorem opI_er' {s : ByteArray} {a b e : Int} (h : opI s a b = .er e) : e = 22 ∨ e = 23 := by
  have hf : ∀ x, fitR x = .er e → e = 22 := fun x h => by
    unfold fitR at h
    split at h
    · cases h
    · injection h with h; exact h.symm
  unfold opI at h
  split at h
  · exact .inl (hf _ h)
  split at h
  · exact .inl (hf _ h)
  split at h
  · exact .inl (hf _ h)
  split at h
  · unfold divR at h; split at h
    · injection h with h; exact .inr h.symm
    · exact .inl (hf _ h)
  split at h
  · unfold remR at h; split at h
    · injection h with h; exact .inr h.symm
    · cases h
  · unfold modR at h; split at h
    · injection h with h; exact .inr h.symm
    · cases h
theorem subR_er' {a b e : Int} (h : subR a b = .er e) : e = 22 := by
  unfold subR fitR at h
  split at h
  · cases h
  · injection h with h; exact h.symm
theorem evF_er' {l : Bs} : ∀ (f : Nat) (t : Tm) (c : Nat) (e : Int), (evF l f t c).1 = .er e → e ≠ 0 := by
  intro f
  induction f with
  | zero => intro t c e h; injection h with h; omega
  | succ f ih =>
    intro t c e h
    rw [evF] at h
    generalize wlk l t = x at h
    split at h
    · injection h with h; omega
    split at h
    · injection h with h; omega
    split at h
    · cases h
    split at h
    · split at h
      · rename_i a hl
        split at h
        · split at h
          · have := subR_er' h; omega
          · rename_i q c' h1
            injection h with h
            subst h
            exact ih a (c + 1) q (by rw [h1])
        · injection h with h; omega
      · rename_i a b hl
        split at h
        · split at h
          · rename_i y c' h1
            split at h
            · rename_i z c'' h2
              rcases opI_er' h with h | h <;> omega
            · rename_i q c'' h2
              injection h with h
              subst h
              exact ih b _ q (by rw [h2])
          · rename_i q c' h1
            injection h with h
            subst h
            exact ih a (c + 1) q (by rw [h1])
        · injection h with h; omega
      · injection h with h; omega
    · injection h with h; omega
theorem evF_ok_le {l : Bs} : ∀ (f : Nat) (t : Tm) (c : Nat) (n : Int), (evF l f t c).1 = .ok n → (evF l f t c).2 ≤ 4096 := by
  intro f
  induction f with
  | zero => intro t c n h; cases h
  | succ f ih =>
    intro t c n h
    by_cases hc : 4096 < c + 1
    · rw [evF, if_pos hc] at h; cases h
    rw [evF_succ l f t (by omega)] at h ⊢
    generalize wlk l t = x at h ⊢
    unfold evX at h ⊢
    split
    · simp only; omega
    rename_i h1
    rw [if_neg h1] at h
    split
    · simp only; omega
    rename_i h2
    rw [if_neg h2] at h
    split
    · rename_i h3
      rw [if_pos h3] at h
      split
      · rename_i a hl
        simp only [hl] at h
        split
        · rename_i h4
          rw [if_pos h4] at h
          split
          · rename_i y c' he
            have := ih a (c + 1) y (by rw [he])
            rw [he] at this
            exact this
          · rename_i q c' he
            simp only [he] at h
            cases h
        · simp only; omega
      · rename_i a b hl
        simp only [hl] at h
        split
        · rename_i h4
          rw [if_pos h4] at h
          split
          · rename_i y c' he
            simp only [he] at h
            split
            · rename_i z c'' he2
              have := ih b c' z (by rw [he2])
              rw [he2] at this
              exact this
            · rename_i q c'' he2
              simp only [he2] at h
              cases h
          · rename_i q c' he
            simp only [he] at h
            cases h
        · simp only; omega
      · simp only; omega
    · simp only; omega
/-- Whether a structure is none that is reckoned. -/
def badR (x : Tm) : Bool := (x.k != 4) || (((!(x.s.toList == [45])) || ((x.l.length : Int) != 1)) && (((x.l.length : Int) != 2) || ((!(x.s.toList == [43])) && (!(x.s.toList == [45])) && (!(x.s.toList == [42])) && (!(x.s.toList == [47, 47])) && (!(x.s.toList == [114, 101, 109])) && (!(x.s.toList == [109, 111, 100])))))
theorem lst_eq (s s' : ByteArray) : (s.toList == s'.toList) = decide (s = s') := by
  by_cases h : s = s'
  · subst h; simp
  · rw [toList_ne h]; simp [h]
theorem badR_eq (x : Tm) : badR x = !(decide (x.k = 4) && ((decide (x.s = ⟨#[45]⟩) && decide (x.l.length = 1)) || (isOp x.s && decide (x.l.length = 2)))) := by
  have h1 : (x.s.toList == [45]) = decide (x.s = ⟨#[45]⟩) := by rw [← lst_eq]; congr 1; kernel_rfl
  have h2 : (x.s.toList == [43]) = decide (x.s = ⟨#[43]⟩) := by rw [← lst_eq]; congr 1; kernel_rfl
  have h3 : (x.s.toList == [42]) = decide (x.s = ⟨#[42]⟩) := by rw [← lst_eq]; congr 1; kernel_rfl
  have h4 : (x.s.toList == [47, 47]) = decide (x.s = ⟨#[47, 47]⟩) := by rw [← lst_eq]; congr 1; kernel_rfl
  have h5 : (x.s.toList == [114, 101, 109]) = decide (x.s = ⟨#[114, 101, 109]⟩) := by rw [← lst_eq]; congr 1; kernel_rfl
  have h6 : (x.s.toList == [109, 111, 100]) = decide (x.s = ⟨#[109, 111, 100]⟩) := by rw [← lst_eq]; congr 1; kernel_rfl
  have h7 : ((x.l.length : Int) != 1) = !decide (x.l.length = 1) := by
    by_cases h : x.l.length = 1 <;> simp [h]
    omega
  have h8 : ((x.l.length : Int) != 2) = !decide (x.l.length = 2) := by
    by_cases h : x.l.length = 2 <;> simp [h]
    omega
  have h9 : (x.k != 4) = !decide (x.k = 4) := by
    by_cases h : x.k = 4 <;> simp [h]
  unfold badR isOp
  rw [h1, h2, h3, h4, h5, h6, h7, h8, h9]
  generalize decide (x.s = ⟨#[45]⟩) = a1
  generalize decide (x.s = ⟨#[43]⟩) = a2
  generalize decide (x.s = ⟨#[42]⟩) = a3
  generalize decide (x.s = ⟨#[47, 47]⟩) = a4
  generalize decide (x.s = ⟨#[114, 101, 109]⟩) = a5
  generalize decide (x.s = ⟨#[109, 111, 100]⟩) = a6
  generalize decide (x.l.length = 1) = a7
  generalize decide (x.l.length = 2) = a8
  generalize decide (x.k = 4) = a9
  revert a1 a2 a3 a4 a5 a6 a7 a8 a9
  decide
set_option maxRecDepth 100000 in
set_option maxHeartbeats 8000000 in
theorem rEval_c (l : Bs) (hA : Acyc l) (hwl : ∀ n t, ofB l n = some t → t.Wf) (hll : l.length ≤ 1000000) : ∀ (f : Nat) (t : Tm), Fn l f t → ∀ (n : Nat) (vl v : Value) (w : World), Kd.bd.S w (fun _ => True) l vl → TmV w (fun _ => True) t v → t.Wf → n ≤ 4096 →
    Calls Try.prog 45 #[vl, v, .int .i64 (n : Int)] w fun e w' => e = .returned (.tuple #[.int .i64 (evF l f t n).1.val, .int .i64 ((evF l f t n).2 : Int), .int .i64 (evF l f t n).1.err]) ∧ Below w.heap.size w w' := by
  intro f
  induction f with
  | zero => intro t hf; exact hf.elim
  | succ f ih =>
  intro t hf n vl v w hvl hv hwf hn
  obtain ⟨u, rfl, hvS⟩ := hv
  obtain ⟨A0, c0, rfl⟩ := hvS.form
  obtain ⟨Al, cl, rfl⟩ := hvl.form
  have hff : ∀ a ∈ (wlk l t).l, Fn l f a := hf
  have hxw := wlk_wf hwl t hwf
  replace hvl := Kd.S.mono (ok' := fun b => b < w.heap.size) (fun _ h => h.2) (Kd.S.bound hvl)
  replace hvS := Kd.S.mono (ok' := fun b => b < w.heap.size) (fun _ h => h.2) (Kd.S.bound hvS)
  have hba := (Below.refl _ w).alloc (Nat.le_refl _) (.cells #[.int .u8 t.k, .string t.s, .int .i64 t.n, .slice A0 t.l.length c0] 24)
  by_cases hfull : n = 4096
  · subst hfull
    rw [evF, if_pos (by omega)]
    simp only [Rk.val, Rk.err]
    have HBA := Lib.hid hba
    clear hvl hvS hf ih hff hwf hxw hn hba
    go_enter Try.func45, Try.ntmps45
    go_wp2
    go_ret3
    exact ⟨rfl, HBA.out⟩
  · have hn1 : n + 1 ≤ 4096 := by omega
    have HWK := Lib.hid (rWalk_c l t (.slice Al (List.length l) cl) (.agg #[.int .u8 t.k, .string t.s, .int .i64 t.n, .slice A0 t.l.length c0]) (w.alloc (.cells #[.int .u8 t.k, .string t.s, .int .i64 t.n, .slice A0 t.l.length c0] 24)) _ _ (hvl.below hba) (TmV.below hba ⟨_, rfl, hvS⟩) hA hll)
    rw [evF_succ l f t hn1]
    generalize wlk l t = x at HWK hff hxw ⊢
    obtain ⟨E, HE⟩ : ∃ E, Hid (evX l f x n = E) := ⟨_, Lib.hid rfl⟩
    rw [HE.out]
    have hdf : decide ((4096 : Int) < (n : Int) + 1) = false := by simp; omega
    have HBA := Lib.hid hba
    have hbx := heap_new w (.cells #[.int .u8 t.k, .string t.s, .int .i64 t.n, .slice A0 t.l.length c0] 24)
    obtain ⟨b0, b1, b2, b3, g0, g1, g2, g3⟩ := box4 hbx
    have HBX := Lib.hid hbx
    have HVL := Lib.hid hvl
    have HIH := Lib.hid ih
    have HFF := Lib.hid hff
    have HXW := Lib.hid hxw
    clear hvl hvS hf ih hff hwf hxw hba hbx
    go_enter Try.func45, Try.ntmps45
    go_upto_region 5 with (go_at_call 79; refine HWK.out.mono ?_; clear HWK; rintro e w2 ⟨⟨u2, rfl, uu2, rfl, hvS2⟩, hb2⟩; obtain ⟨A, c, rfl⟩ := hvS2.form; have hbx2 := block_below hb2 (by simp) HBX.out; clear b0 b1 b2 b3 g0 g1 g2 g3; obtain ⟨b0, b1, b2, b3, g0, g1, g2, g3⟩ := box4 hbx2)
    have hbx3 := set4_block (a := .int .u8 x.k) (b := .string x.s) (c := .int .i64 x.n) (d := .slice A x.l.length c) hbx2
    have hbw2 : Below w.heap.size w w2 := below_then HBA.out HBA.out.size hb2
    have hg4 := grown_set4 w2 w.heap.size (.int .u8 x.k) (.string x.s) (.int .i64 x.n) (.slice A x.l.length c)
    have hB3 := below_of_grown (gfresh (r := none) (gnone hbw2) hg4 (Nat.le_refl _))
    have hS3 := Kd.S.mono (ok' := fun b => b < w.heap.size) (fun b h => h.elim id id) (Kd.S.move (fun b hb => hg4.block b (by have := hbw2.size; rcases hb with hb | hb <;> omega) (fun e => by injection e with e; rcases hb with hb | hb <;> omega)) hvS2)
    generalize ((((w2.setCell ⟨w.heap.size, 0, none⟩ (.int .u8 x.k)).setCell ⟨w.heap.size, 1, none⟩ (.string x.s)).setCell ⟨w.heap.size, 2, none⟩ (.int .i64 x.n)).setCell ⟨w.heap.size, 3, none⟩ (.slice A x.l.length c)) = W3 at hbx3 hB3 hS3 ⊢
    clear b0 b1 b2 b3 g0 g1 g2 g3 hbx2 hbw2 hg4 hvS2 hb2
    obtain ⟨b0, b1, b2, b3, -, -, -, -⟩ := box4 hbx3
    have HB3 := Lib.hid hB3
    have HBX3 := Lib.hid hbx3
    have HS3 := Lib.hid hS3
    clear hB3 hbx3 hS3
    have hsz := HXW.out
    by_cases hk1 : x.k = 1
    · have q : (x.k == 1) = true := by simpa using hk1
      have HQ := Lib.hid (HE.out.symm.trans (if_pos hk1))
      clear hk1
      go_wp2
      go_ret3
      exact ⟨by rw [HQ.out]; rfl, HB3.out⟩
    · have q1 : (x.k == 1) = false := by simpa using hk1
      by_cases hk2 : x.k = 2
      · have q2 : (x.k == 2) = true := by simpa using hk2
        have HQ := Lib.hid (HE.out.symm.trans (show evX l f x n = (.ok x.n, n + 1) from by unfold evX; rw [if_neg hk1, if_pos hk2]))
        clear hk1 hk2
        go_wp2
        go_ret3
        exact ⟨by rw [HQ.out]; rfl, HB3.out⟩
      · have q2 : (x.k == 2) = false := by simpa using hk2
        have HK12 := Lib.hid (And.intro hk1 hk2)
        clear hk1 hk2
        go_upto_region 9 with fail
        go_cut [80] (fun d wx => d = .bool (badR x) ∧ wx = W3)
        case first =>
          go_wp2
          all_goals
            go_meet
            case rel =>
              refine ⟨?_, rfl⟩
              unfold badR
              simp [*]
        case rest =>
          obtain ⟨rfl, hwc⟩ := hcut
          rw [hwc]
          clear hwc
          have hbq := badR_eq x
          cases hbad : badR x with
          | true =>
            rw [hbad] at hbq
            have HQ := Lib.hid (HE.out.symm.trans (evX_no (l := l) (f := f) (c := n) HK12.out.1 HK12.out.2 (fun h => by simp [h.1, h.2.1, h.2.2] at hbq) (fun h => by simp [h.1, h.2.1, h.2.2] at hbq)))
            clear hbq hbad
            go_wp2
            go_ret3
            exact ⟨by rw [HQ.out]; rfl, HB3.out⟩
          | false =>
            rw [hbad] at hbq
            have hg : x.k = 4 ∧ ((x.s = ⟨#[45]⟩ ∧ x.l.length = 1) ∨ (isOp x.s = true ∧ x.l.length = 2)) := by
              have h1 : (decide (x.k = 4) && ((decide (x.s = ⟨#[45]⟩) && decide (x.l.length = 1)) || (isOp x.s && decide (x.l.length = 2)))) = true := by
                revert hbq
                generalize (decide (x.k = 4) && ((decide (x.s = ⟨#[45]⟩) && decide (x.l.length = 1)) || (isOp x.s && decide (x.l.length = 2)))) = q
                cases q <;> simp
              simpa using h1
            clear hbq hbad
            obtain ⟨hk4, ⟨hs4, hl4⟩ | ⟨hop, hl4⟩⟩ := hg
            · obtain ⟨a, hxa⟩ : ∃ a, x.l = [a] := by
                match hx : x.l, hl4 with
                | [a], _ => exact ⟨a, rfl⟩
              have hl0 : 0 < x.l.length := by omega
              obtain ⟨bb, o, rfl⟩ : ∃ bb o, A = some ⟨bb, o, none⟩ := by
                obtain ⟨A', c', eA, -, -, hA⟩ := HS3.out
                injection eA with eA1 eA2 eA3
                subst eA1
                obtain ⟨bb, o, e, _⟩ := hA.resolve_left (fun h => by rw [h.1] at hl0; simp at hl0)
                exact ⟨bb, o, e⟩
              have hok3 : ∀ i, i < w.heap.size → i ≠ W3.heap.size ∧ i < W3.heap.size := fun i hi => by have := HB3.out.size; omega
              obtain ⟨Au, cu, k1, k2⟩ := arg_at HS3.out hok3 hl0
              have hxa0 : x.l[0] = a := by simp [hxa]
              obtain ⟨g0, g1, g2, g3⟩ := k1 W3 (gnone (Below.refl _ _))
              have HI := Lib.hid (HIH.out x.l[0] (HFF.out _ (List.getElem_mem hl0)) (n + 1) (.slice Al (List.length l) cl) _ W3 ((HVL.out.below HB3.out).mono (fun _ _ => trivial)) ((k2 W3 (gnone (Below.refl _ _))).mono (fun _ _ => trivial)) (WfL_at HXW.out.parts.2.2.2 hl0) hn1)
              have HNI := Lib.hid (fun m (h : (evF l f (x.l[0]'hl0) (n + 1)).1 = .ok m) => evF_in hwl f (x.l[0]'hl0) (n + 1) m (WfL_at HXW.out.parts.2.2.2 hl0) h)
              have HNE := Lib.hid (fun e (h : (evF l f (x.l[0]'hl0) (n + 1)).1 = .er e) => evF_er' (l := l) f (x.l[0]'hl0) (n + 1) e h)
              rw [hxa0] at g0 g1 g2 g3 HI HNI HNE
              simp only [Nat.zero_mul, Nat.add_zero] at g0 g1 g2 g3
              rw [show (((n + 1 : Nat)) : Int) = (n : Int) + 1 by omega] at HI
              have HQ := Lib.hid (HE.out.symm.trans (evX_neg (l := l) (f := f) (c := n) hk4 hs4 hxa))
              have q6 : ((x.l.length : Int) == 1) = true := by simp [hl4]
              have q7 : (0 : Int) < x.l.length := by omega
              clear hk4 hs4 hl4 hxa hl0 hxa0 k1 k2 hok3 hsz
              generalize evF l f a (n + 1) = Z at HI HNI HNE HQ
              obtain ⟨r, n'⟩ := Z
              cases r with
              | er ec =>
                have hec : (ec != 0) = true := by simpa using HNE.out ec rfl
                simp only [Rk.val, Rk.err] at HI
                go_wp2_with (go_at_call_has 45 (Value.slice Au a.l.length cu); refine HI.out.mono ?_; clear HI; rintro e w4 ⟨rfl, hb4⟩)
                go_ret3
                exact ⟨by rw [HQ.out]; rfl, below_then HB3.out HB3.out.size hb4⟩
              | ok y =>
                have HT := Lib.hid (together_c ⟨#[45]⟩ 0 y (by decide) (by decide) (HNI.out y rfl))
                rw [show opI ⟨#[45]⟩ 0 y = subR 0 y from rfl] at HT
                have HQ2 : Hid (E = (subR 0 y, n')) := Lib.hid HQ.out
                simp only [Rk.val, Rk.err] at HI
                clear HQ HNI HNE
                generalize subR 0 y = V at HT HQ2
                go_wp2_with (first
                  | (go_at_call_has 45 (Value.slice Au a.l.length cu); refine HI.out.mono ?_; clear HI; rintro e w4 ⟨rfl, hb4⟩; obtain ⟨b0', b1', b2', b3', -, -, -, -⟩ := box4 (block_below hb4 (Array.getElem?_eq_some_iff.1 HBX3.out).1 HBX3.out); clear b0 b1 b2 b3)
                  | (go_at_call 80; refine (HT.out _).mono ?_; rintro e w6 ⟨rfl, hb6⟩))
                go_ret3
                exact ⟨by first | (rw [HQ2.out]; done) | (rw [HQ2.out]; rfl), below_then (below_then HB3.out HB3.out.size hb4) (below_then HB3.out HB3.out.size hb4).size hb6⟩
            · obtain ⟨a, d, hxa⟩ : ∃ a d, x.l = [a, d] := by
                match hx : x.l, hl4 with
                | [a, d], _ => exact ⟨a, d, rfl⟩
              have hl0 : 0 < x.l.length := by omega
              obtain ⟨bb, o, rfl⟩ : ∃ bb o, A = some ⟨bb, o, none⟩ := by
                obtain ⟨A', c', eA, -, -, hA⟩ := HS3.out
                injection eA with eA1 eA2 eA3
                subst eA1
                obtain ⟨bb, o, e, _⟩ := hA.resolve_left (fun h => by rw [h.1] at hl0; simp at hl0)
                exact ⟨bb, o, e⟩
              have hok3 : ∀ i, i < w.heap.size → i ≠ W3.heap.size ∧ i < W3.heap.size := fun i hi => by have := HB3.out.size; omega
              obtain ⟨Au, cu, k1, k2⟩ := arg_at HS3.out hok3 hl0
              have hl1 : 1 < x.l.length := by omega
              obtain ⟨Av, cv, m1, m2⟩ := arg_at HS3.out hok3 hl1
              have hxa0 : x.l[0] = a := by simp [hxa]
              have hxa1 : x.l[1] = d := by simp [hxa]
              obtain ⟨g0, g1, g2, g3⟩ := k1 W3 (gnone (Below.refl _ _))
              have HI := Lib.hid (HIH.out x.l[0] (HFF.out _ (List.getElem_mem hl0)) (n + 1) (.slice Al (List.length l) cl) _ W3 ((HVL.out.below HB3.out).mono (fun _ _ => trivial)) ((k2 W3 (gnone (Below.refl _ _))).mono (fun _ _ => trivial)) (WfL_at HXW.out.parts.2.2.2 hl0) hn1)
              have HJ := Lib.hid (fun n' (hn' : n' ≤ 4096) W (hb : Below W3.heap.size W3 W) => HIH.out x.l[1] (HFF.out _ (List.getElem_mem hl1)) n' (.slice Al (List.length l) cl) _ W ((HVL.out.below (HB3.out.trans (hb.mono HB3.out.size))).mono (fun _ _ => trivial)) ((m2 W (gnone hb)).mono (fun _ _ => trivial)) (WfL_at HXW.out.parts.2.2.2 hl1) hn')
              have HNI := Lib.hid (fun m (h : (evF l f (x.l[0]'hl0) (n + 1)).1 = .ok m) => evF_in hwl f (x.l[0]'hl0) (n + 1) m (WfL_at HXW.out.parts.2.2.2 hl0) h)
              have HNJ := Lib.hid (fun n' m (h : (evF l f (x.l[1]'hl1) n').1 = .ok m) => evF_in hwl f (x.l[1]'hl1) n' m (WfL_at HXW.out.parts.2.2.2 hl1) h)
              have HNE := Lib.hid (fun e (h : (evF l f (x.l[0]'hl0) (n + 1)).1 = .er e) => evF_er' (l := l) f (x.l[0]'hl0) (n + 1) e h)
              have HNF := Lib.hid (fun n' e (h : (evF l f (x.l[1]'hl1) n').1 = .er e) => evF_er' (l := l) f (x.l[1]'hl1) n' e h)
              have HLE := Lib.hid (fun m (h : (evF l f (x.l[0]'hl0) (n + 1)).1 = .ok m) => evF_ok_le (l := l) f (x.l[0]'hl0) (n + 1) m h)
              rw [hxa0] at g0 g1 g2 g3 HI HNI HNE HLE
              rw [hxa1] at m1 HJ HNJ HNF
              simp only [Nat.zero_mul, Nat.one_mul, Nat.add_zero] at g0 g1 g2 g3 m1
              have HM1 := Lib.hid m1
              rw [show (((n + 1 : Nat)) : Int) = (n : Int) + 1 by omega] at HI
              have HQ := Lib.hid (HE.out.symm.trans (evX_op (l := l) (f := f) (c := n) hk4 hop hxa))
              have HOP := Lib.hid hop
              have q6 : ((x.l.length : Int) == 1) = false := by rw [hl4]; rfl
              have q7 : (0 : Int) < x.l.length := by omega
              have q8 : (1 : Int) < x.l.length := by omega
              clear hk4 hop hl4 hxa hl0 hl1 hxa0 hxa1 k1 k2 m1 m2 hok3 hsz
              generalize evF l f a (n + 1) = Z at HI HNI HNE HQ HLE
              obtain ⟨r, n'⟩ := Z
              cases r with
              | er ec =>
                have hec : (ec != 0) = true := by simpa using HNE.out ec rfl
                simp only [Rk.val, Rk.err] at HI
                go_wp2_with (go_at_call_has 45 (Value.slice Au a.l.length cu); refine HI.out.mono ?_; clear HI; rintro e w4 ⟨rfl, hb4⟩)
                go_ret3
                exact ⟨by rw [HQ.out]; rfl, below_then HB3.out HB3.out.size hb4⟩
              | ok y =>
                have HJ2 := Lib.hid (HJ.out n' (HLE.out y rfl))
                have HQ2 : Hid (E = (match evF l f d n' with
                  | (.ok z, c'') => (opI x.s y z, c'')
                  | (.er e, c'') => (.er e, c''))) := Lib.hid HQ.out
                have HNJ2 := Lib.hid (HNJ.out n')
                have HNF2 := Lib.hid (HNF.out n')
                have HYI := Lib.hid (HNI.out y rfl)
                simp only [Rk.val, Rk.err] at HI
                clear HQ HNI HNE HJ HNJ HNF HLE
                generalize evF l f d n' = Z at HJ2 HQ2 HNJ2 HNF2
                obtain ⟨r, n''⟩ := Z
                have HJ := HJ2
                clear HJ2
                cases r with
                | er ec =>
                  have hec : (ec != 0) = true := by simpa using HNF2.out ec rfl
                  simp only [Rk.val, Rk.err] at HJ
                  go_wp2_with (first
                    | (go_at_call_has 45 (Value.slice Au a.l.length cu); refine HI.out.mono ?_; clear HI; rintro e w4 ⟨rfl, hb4⟩; obtain ⟨g0', g1', g2', g3'⟩ := HM1.out _ (gnone hb4); clear g0 g1 g2 g3; obtain ⟨b0', b1', b2', b3', -, -, -, -⟩ := box4 (block_below hb4 (Array.getElem?_eq_some_iff.1 HBX3.out).1 HBX3.out); clear b0 b1 b2 b3)
                    | (go_at_call 45; refine (HJ.out _ hb4).mono ?_; clear HJ; rintro e w5 ⟨rfl, hb5⟩; obtain ⟨b0, b1, b2, b3, -, -, -, -⟩ := box4 (block_below hb5 (by have := (Array.getElem?_eq_some_iff.1 HBX3.out).1; have := hb4.size; omega) (block_below hb4 (Array.getElem?_eq_some_iff.1 HBX3.out).1 HBX3.out)); clear b0' b1' b2' b3'))
                  go_ret3
                  exact ⟨by rw [HQ2.out]; rfl, below_then (below_then HB3.out HB3.out.size hb4) (below_then HB3.out HB3.out.size hb4).size hb5⟩
                | ok z =>
                  have HT := Lib.hid (together_c x.s y z HOP.out HYI.out (HNJ2.out z rfl))
                  have HQ3 : Hid (E = (opI x.s y z, n'')) := Lib.hid HQ2.out
                  simp only [Rk.val, Rk.err] at HJ
                  clear HQ2 HNJ2 HNF2
                  generalize opI x.s y z = V at HT HQ3
                  go_wp2_with (first
                    | (go_at_call_has 45 (Value.slice Au a.l.length cu); refine HI.out.mono ?_; clear HI; rintro e w4 ⟨rfl, hb4⟩; obtain ⟨g0', g1', g2', g3'⟩ := HM1.out _ (gnone hb4); clear g0 g1 g2 g3; obtain ⟨b0', b1', b2', b3', -, -, -, -⟩ := box4 (block_below hb4 (Array.getElem?_eq_some_iff.1 HBX3.out).1 HBX3.out); clear b0 b1 b2 b3)
                    | (go_at_call 45; refine (HJ.out _ hb4).mono ?_; clear HJ; rintro e w5 ⟨rfl, hb5⟩; obtain ⟨b0, b1, b2, b3, -, -, -, -⟩ := box4 (block_below hb5 (by have := (Array.getElem?_eq_some_iff.1 HBX3.out).1; have := hb4.size; omega) (block_below hb4 (Array.getElem?_eq_some_iff.1 HBX3.out).1 HBX3.out)); clear b0' b1' b2' b3')
                    | (go_at_call 80; refine (HT.out _).mono ?_; rintro e w6 ⟨rfl, hb6⟩))
                  go_ret3
                  have hq := below_then (below_then HB3.out HB3.out.size hb4) (below_then HB3.out HB3.out.size hb4).size hb5
                  exact ⟨by first | (rw [HQ3.out]; done) | (rw [HQ3.out]; rfl), below_then hq hq.size hb6⟩
end Go.Proofs.Ytdflckjnpgbjlaa

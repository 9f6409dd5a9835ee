/- Layer 13's laws: an operator of two numbers; numbers that are known, walked. Conditions: numbers of 64 bits. -/
import Derived.Test.YtdflckjnpgbjlaaY7
import Derived.Test.YtdflckjnpgbjlaaL1
set_option linter.unusedVariables false
set_option maxRecDepth 20000
set_option linter.unusedSimpArgs false
namespace Go.Proofs.Ytdflckjnpgbjlaa
open Go.RowKit

def tI (n : Int) : Tm := ⟨2, ⟨#[]⟩, n, []⟩
theorem tI_wf {n : Int} (h : in64 n) : (tI n).Wf := by
  unfold in64 at h
  simp [tI, Tm.Wf, WfL]
  exact ⟨h, by decide⟩
theorem wlk_num (l : Bs) {t : Tm} (h : t.k ≠ 1) : wlk l t = t := wlk_stop (by simp [nxt, h])
theorem fn_leaf (l : Bs) (f : Nat) {t : Tm} (h : t.k ≠ 1) (hl : t.l = []) : Fn l (f + 1) t := by
  show ∀ a ∈ (wlk l t).l, Fn l f a
  rw [wlk_num l h, hl]
  simp
theorem evF_num (l : Bs) (f : Nat) (n : Int) {c : Nat} (hc : c + 1 ≤ 4096) : evF l (f + 1) (tI n) c = (.ok n, c + 1) := by
  rw [evF, if_neg (by omega), wlk_num l (by simp [tI])]
  rfl
theorem evF_two (s : ByteArray) (a b : Int) (h : isOp s = true) : (evF [] 3 ⟨4, s, 0, [tI a, tI b]⟩ 0).1 = opI s a b := by
  rw [evF, if_neg (by omega), wlk_num [] (by simp)]
  simp only [h, evF_num [] 1 a (c := 0 + 1) (by omega), evF_num [] 1 b (c := 0 + 1 + 1) (by omega)]
  rfl
theorem fn_two (s : ByteArray) (a b : Int) : Fn [] 3 ⟨4, s, 0, [tI a, tI b]⟩ := by
  show ∀ x ∈ (wlk [] ⟨4, s, 0, [tI a, tI b]⟩).l, Fn [] 2 x
  rw [wlk_num [] (by simp)]
  intro x hx
  simp at hx
  rcases hx with rfl | rfl <;> exact fn_leaf [] 1 (by simp [tI]) rfl
set_option maxHeartbeats 4000000 in
theorem two_c (s : ByteArray) (a b : Int) (hs : isOp s = true) (ha : in64 a) (hb : in64 b) (w : World) :
    Calls Try.prog 42 #[.string s, .int .i64 a, .int .i64 b] w fun e w' => e = .returned (.tuple #[.int .i64 (opI s a b).val, .int .i64 (opI s a b).err]) ∧ Below w.heap.size w w' := by
  have hsz : s.size ≤ 140737488351232 := by
    unfold isOp at hs
    simp only [Bool.or_eq_true, decide_eq_true_eq] at hs
    rcases hs with ((((h | h) | h) | h) | h) | h <;> subst h <;> decide
  have HF := Lib.hid (fun (W : World) (B : Nat) (hB : W.heap[B]? = some (.cells #[.int .u8 2, .string ⟨#[]⟩, .int .i64 a, .slice none 0 0, .int .u8 2, .string ⟨#[]⟩, .int .i64 b, .slice none 0 0] 24 (0, 0))) =>
    F_c s [tI a, tI b] (.slice (some ⟨B, 0, none⟩) 2 2) W _ _ (Kd.S.S2 (lit2_at (t := tI a) (t' := tI b) (ok := fun _ => True) (ok' := fun _ => True) hB (Kd.S.nil _ _ _) (Kd.S.nil _ _ _))) (by simp))
  have HE := Lib.hid (fun (W : World) p b' v (hs' : Sub W (fun _ => True) [] p b') (hv : TmV W (fun _ => True) ⟨4, s, 0, [tI a, tI b]⟩ v) =>
    Eval_c [] p b' ⟨4, s, 0, [tI a, tI b]⟩ 3 (fn_two s a b) v W _ _ hs' hv (by simp [Tm.Wf, WfL, tI_wf ha, tI_wf hb]; omega))
  rw [show (evF [] 3 ⟨4, s, 0, [tI a, tI b]⟩ 0).1 = opI s a b from evF_two s a b hs] at HE
  unfold Rk.out at HE
  generalize opI s a b = O at HE ⊢
  have HI := Lib.hid (fun n W => I_c n W (fun _ => True))
  clear hs hsz ha hb
  go_enter Try.func42, Try.ntmps42
  go_wp2_with (first
    | (go_at_call 19; refine (New_c _ (fun _ => True)).mono ?_; rintro e w1 ⟨⟨p, b', rfl, hn, -, -⟩, hb1⟩)
    | (go_at_call_has 56 (Value.int .i64 a); refine (HI.out _ _).mono ?_; rintro e w2 ⟨rfl, hb2⟩; replace hn := hn.below hb2; replace hb1 := below_then hb1 hb1.size hb2; clear hb2)
    | (go_at_call_has 56 (Value.int .i64 b); refine (HI.out _ _).mono ?_; rintro e w2 ⟨rfl, hb2⟩; replace hn := hn.below hb2; replace hb1 := below_then hb1 hb1.size hb2; clear hb2)
    | (go_at_call 22; have hba := (Below.refl _ w2).alloc (Nat.le_refl _) (.cells #[.int .u8 2, .string ⟨#[]⟩, .int .i64 a, .slice none 0 0, .int .u8 2, .string ⟨#[]⟩, .int .i64 b, .slice none 0 0] 24); refine (HF.out _ _ (heap_new _ _)).mono ?_; rintro e w4 ⟨⟨r, rfl, hr⟩, hb4⟩; replace hn := (hn.below hba).below hb4; replace hb1 := below_then (hb1.alloc hb1.size _) (by have := hb1.size; simp only [World.size_alloc]; omega) hb4; replace hr := TmV.mono (ok' := fun _ => True) (fun _ _ => trivial) hr; rw [mkF_cons] at hr)
    | (go_at_call 44; refine (HE.out _ _ _ _ hn hr).mono ?_; rintro e w5 ⟨rfl, hb5⟩))
  go_ret2
  exact ⟨rfl, below_then hb1 hb1.size hb5⟩
def tV0 : Tm := ⟨1, ⟨#[]⟩, 0, []⟩
def tAa : Tm := ⟨3, ⟨#[97]⟩, 0, []⟩
theorem k13a : opI ⟨#[47, 47]⟩ (-7) 2 = .ok (-3) := by kernel_rfl
theorem k13b : opI ⟨#[109, 111, 100]⟩ (-7) 2 = .ok 1 := by kernel_rfl
theorem k13c : opI ⟨#[114, 101, 109]⟩ (-7) 2 = .ok (-1) := by kernel_rfl
theorem k13d : opI ⟨#[43]⟩ 9223372036854775807 1 = .er 22 := by kernel_rfl
theorem k13e : opI ⟨#[47, 47]⟩ 1 0 = .er 23 := by kernel_rfl
theorem k13f : (evF [] 3 ⟨4, ⟨#[43]⟩, 0, [tI 1, tV0]⟩ 0).1 = .er 20 := by
  rw [evF, if_neg (by omega), wlk_num [] (by simp)]
  simp only [evF_num [] 1 1 (c := 0 + 1) (by omega)]
  rw [evF, if_neg (by omega), show wlk [] tV0 = tV0 from rfl]
  rfl
theorem k13g : (evF [] 1 tAa 0).1 = .er 21 := by
  rw [evF, if_neg (by omega), wlk_num [] (by simp [tAa])]
  rfl
theorem fn_k13 : Fn [] 3 ⟨4, ⟨#[43]⟩, 0, [tI 1, tV0]⟩ := by
  show ∀ x ∈ (wlk [] ⟨4, ⟨#[43]⟩, 0, [tI 1, tV0]⟩).l, Fn [] 2 x
  rw [wlk_num [] (by simp)]
  intro x hx
  simp at hx
  rcases hx with rfl | rfl
  · exact fn_leaf [] 1 (by simp [tI]) rfl
  · show ∀ x ∈ (wlk [] tV0).l, Fn [] 1 x
    rw [show wlk [] tV0 = tV0 from rfl]
    intro x hx; simp [tV0] at hx
set_option maxHeartbeats 4000000 in
theorem wakes13_c (w : World) : Calls Try.prog 43 #[] w fun e w' => e = .returned (.bool true) ∧ Below w.heap.size w w' := by
  have H1 := Lib.hid (two_c ⟨#[47, 47]⟩ (-7) 2 (by decide) (by decide) (by decide))
  have H2 := Lib.hid (two_c ⟨#[109, 111, 100]⟩ (-7) 2 (by decide) (by decide) (by decide))
  have H3 := Lib.hid (two_c ⟨#[114, 101, 109]⟩ (-7) 2 (by decide) (by decide) (by decide))
  have H4 := Lib.hid (two_c ⟨#[43]⟩ 9223372036854775807 1 (by decide) (by decide) (by decide))
  have H5 := Lib.hid (two_c ⟨#[47, 47]⟩ 1 0 (by decide) (by decide) (by decide))
  rw [k13a] at H1
  rw [k13b] at H2
  rw [k13c] at H3
  rw [k13d] at H4
  rw [k13e] at H5
  simp only [Rk.val, Rk.err] at H1 H2 H3 H4 H5
  have HF := Lib.hid (fun (W : World) (B : Nat) (hB : W.heap[B]? = some (.cells #[.int .u8 2, .string ⟨#[]⟩, .int .i64 1, .slice none 0 0, .int .u8 1, .string ⟨#[]⟩, .int .i64 0, .slice none 0 0] 24 (0, 0))) =>
    F_c ⟨#[43]⟩ [tI 1, tV0] (.slice (some ⟨B, 0, none⟩) 2 2) W _ _ (Kd.S.S2 (lit2_at (t := tI 1) (t' := tV0) (ok := fun _ => True) (ok' := fun _ => True) hB (Kd.S.nil _ _ _) (Kd.S.nil _ _ _))) (by simp))
  have HE := Lib.hid (fun (W : World) p b' v (hs' : Sub W (fun _ => True) [] p b') (hv : TmV W (fun _ => True) ⟨4, ⟨#[43]⟩, 0, [tI 1, tV0]⟩ v) =>
    Eval_c [] p b' ⟨4, ⟨#[43]⟩, 0, [tI 1, tV0]⟩ 3 fn_k13 v W _ _ hs' hv (by simp [Tm.Wf, WfL, tI, tV0]; decide))
  have HE2 := Lib.hid (fun (W : World) p b' (hs' : Sub W (fun _ => True) [] p b') =>
    Eval_c [] p b' tAa 1 (fn_leaf [] 0 (by simp [tAa]) rfl) (.agg #[.int .u8 3, .string ⟨#[97]⟩, .int .i64 0, .slice none 0 0]) W _ (fun _ => True) hs' ⟨_, rfl, Kd.S.nil _ _ _⟩ (by simp [Tm.Wf, WfL, tAa]; decide))
  rw [k13f] at HE
  rw [k13g] at HE2
  simp only [Rk.out, Rk.val, Rk.err] at HE HE2
  have HI := Lib.hid (fun n W => I_c n W (fun _ => True))
  have HV := Lib.hid (fun n W => V_c n W (fun _ => True))
  have HA := Lib.hid (fun n W => A_c n W (fun _ => True))
  have m1 : Hid (0 = 0) := Lib.hid rfl
  have m2 : Hid (0 = 0) := Lib.hid rfl
  have hb0 := Below.refl w.heap.size w
  go_enter Try.func43, Try.ntmps43
  go_wp2_with (first
    | (go_at_call_has 42 (Value.int .i64 0); refine (H5.out _).mono ?_; clear H5; rintro e w1 ⟨rfl, hb⟩; replace hb0 := below_then hb0 hb0.size hb; clear hb)
    | (go_at_call_has 42 (Value.string ⟨#[47, 47]⟩); refine (H1.out _).mono ?_; rintro e w1 ⟨rfl, hb⟩; replace hb0 := below_then hb0 hb0.size hb; clear hb)
    | (go_at_call_has 42 (Value.string ⟨#[109, 111, 100]⟩); refine (H2.out _).mono ?_; clear H2; rintro e w1 ⟨rfl, hb⟩; replace hb0 := below_then hb0 hb0.size hb; clear hb)
    | (go_at_call_has 42 (Value.string ⟨#[114, 101, 109]⟩); refine (H3.out _).mono ?_; clear H3; rintro e w1 ⟨rfl, hb⟩; replace hb0 := below_then hb0 hb0.size hb; clear hb)
    | (go_at_call_has 42 (Value.string ⟨#[43]⟩); refine (H4.out _).mono ?_; clear H4; rintro e w1 ⟨rfl, hb⟩; replace hb0 := below_then hb0 hb0.size hb; clear hb)
    | (go_at_call 19; refine (New_c _ (fun _ => True)).mono ?_; rintro e w1 ⟨⟨p, b', rfl, hn, -, -⟩, hb⟩; replace hb0 := below_then hb0 hb0.size hb; clear hb)
    | (go_at_call 56; refine (HI.out _ _).mono ?_; rintro e w2 ⟨rfl, hb⟩; replace hn := hn.below hb; replace hb0 := below_then hb0 hb0.size hb; clear hb)
    | (go_at_call 25; refine (HV.out _ _).mono ?_; rintro e w2 ⟨rfl, hb⟩; replace hn := hn.below hb; replace hb0 := below_then hb0 hb0.size hb; clear hb)
    | (go_at_call 52; refine (HA.out _ _).mono ?_; rintro e w2 ⟨rfl, hb⟩; replace hn := hn.below hb; replace hb0 := below_then hb0 hb0.size hb; clear hb)
    | (go_at_call 22; have hba := (Below.refl _ w2).alloc (Nat.le_refl _) (.cells #[.int .u8 2, .string ⟨#[]⟩, .int .i64 1, .slice none 0 0, .int .u8 1, .string ⟨#[]⟩, .int .i64 0, .slice none 0 0] 24); refine (HF.out _ _ (heap_new _ _)).mono ?_; clear HF; rintro e w4 ⟨⟨r, rfl, hr⟩, hb4⟩; replace hn := (hn.below hba).below hb4; replace hb0 := below_then (hb0.alloc hb0.size _) (by have := hb0.size; simp only [World.size_alloc]; omega) hb4; replace hr := TmV.mono (ok' := fun _ => True) (fun _ _ => trivial) hr; rw [mkF_cons] at hr; clear hba hb4)
    | (go_at_call 44; have hx := m1.out; clear hx m1; refine (HE.out _ _ _ _ hn hr).mono ?_; clear HE hr; rintro e w5 ⟨rfl, hb⟩; replace hb0 := below_then hb0 hb0.size hb; clear hb)
    | (go_at_call 44; have hx := m2.out; clear hx m2; refine (HE2.out _ _ _ hn).mono ?_; clear HE2; rintro e w5 ⟨rfl, hb⟩; replace hb0 := below_then hb0 hb0.size hb; clear hb))
  go_ret
  exact ⟨rfl, hb0⟩
end Go.Proofs.Ytdflckjnpgbjlaa

/- The law ArithTells, walked. Conditions: the arguments read; what they are made of is in its bounds. -/
import Derived.Test.YtdflckjnpgbjlaaY8
import Derived.Test.YtdflckjnpgbjlaaY11
import Derived.Test.YtdflckjnpgbjlaaFk
import Derived.Test.YtdflckjnpgbjlaaSf
set_option linter.unusedVariables false
set_option maxRecDepth 20000
set_option linter.unusedSimpArgs false
namespace Go.Proofs.Ytdflckjnpgbjlaa
open Go.RowKit

set_option maxRecDepth 100000 in
set_option maxHeartbeats 8000000 in
theorem ArithTells_c (l : Bs) (t : Tm) (vl v : Value) (w : World) (okl ok : Nat → Prop) (hvl : Kd.bd.S w okl l vl) (hv : TmV w ok t v) (hl : WfB l) (ht : t.Wf) :
    Calls Try.prog 11 #[vl, v] w fun e w' => e = .returned (.bool true) ∧ Below w.heap.size w w' := by
  obtain ⟨u, rfl, hS⟩ := hv
  obtain ⟨A, c, rfl⟩ := hS.form
  have hba := (Below.refl _ w).alloc (Nat.le_refl _) (.cells #[.int .u8 t.k, .string t.s, .int .i64 t.n, .slice A t.l.length c] 24)
  have H0 : Hid (Fk w [.bt w.heap.size t (.slice A t.l.length c), .bds l vl] (w.alloc (.cells #[.int .u8 t.k, .string t.s, .int .i64 t.n, .slice A t.l.length c] 24))) := Lib.hid ⟨hba, fun f hf => by
    simp only [List.mem_cons, List.not_mem_nil, or_false] at hf
    rcases hf with rfl | rfl
    · exact Bt.new hS
    · exact (hvl.below hba).mono (fun _ _ => trivial)⟩
  have HG := Lib.hid (fun W (h : Fk w [.bt w.heap.size t (.slice A t.l.length c), .bds l vl] W) => Great3_c l t vl _ W _ _ (h.bds 1 rfl) (h.bt 0 rfl).tmv hl ht)
  obtain ⟨Al, cl, rfl⟩ := hvl.form
  have hwl := Lib.hid hl
  have hwf := Lib.hid ht
  clear hvl hS hl ht hba
  cases hgr : great3 l t with
  | true =>
    rw [hgr] at HG
    clear hgr
    go_enter Try.func11, Try.ntmps11
    go_wp2_with (first
      | (go_at_call 28; refine (HG.out _ H0.out).mono ?_; clear HG; rintro e w1 ⟨rfl, hb1⟩; have h0 := H0.out.then hb1; clear hb1)
      | (go_at_call 43; refine (wakes13_c _).mono ?_; rintro e w9 ⟨rfl, hb9⟩; replace h0 := h0.then hb9; clear hb9))
    go_ret
    exact ⟨rfl, h0.b0⟩
  | false =>
    rw [hgr] at HG
    obtain ⟨hz1, hz2⟩ := great3_siz hgr
    have hll := (great3_no hgr).1
    have hwm : ∀ n x, ofB (mk [] l) n = some x → x.Wf := fun n x h => by
      rcases mk_sub l [] _ (ofB_mem h) with h1 | h1
      · cases h1
      · exact (hwl.out _ h1).2
    have hac : Acyc (mk [] l) := mk_acyc l [] acyc_nil
    have hml : (mk [] l).length ≤ 1000000 := by have := mk_length l []; simp only [List.length_nil] at this; omega
    have HMK := Lib.hid (fun W (h : Fk w [.bt w.heap.size t (.slice A t.l.length c), .bds l (.slice Al l.length cl)] W) => Make_c l _ W _ (h.bds 1 rfl) hwl.out hll (fun b hb => by have := hz1 b hb; omega))
    generalize mk [] l = had at hac HMK hwm hml
    obtain ⟨f, hf⟩ := hac.fuel t
    have HE1 := Lib.hid (fun W p b (h : Sub W (fun _ => True) had p b) u (hu : TmV W (fun _ => True) t u) => Eval_c had p b t f hf u W _ _ h hu hwf.out)
    have HE2 := Lib.hid (fun W vl u (h : Kd.bd.S W (fun _ => True) had vl) (hu : TmV W (fun _ => True) t u) => rEval_c had hac hwm hml f t hf 0 vl u W h hu hwf.out (by omega))
    have HE3 := Lib.hid (fun W u (hu : TmV W (fun _ => True) t u) => Eval_nil t u W _ hu)
    have HVE : Hid ((evF had f t 0).1.err ≠ 0 → (evF had f t 0).1.val = 0) := Lib.hid (fun h => by
      generalize (evF had f t 0).1 = R at h ⊢
      cases R with
      | ok n => exact absurd rfl h
      | er e => rfl)
    unfold Rk.out at HE1
    generalize (evF had f t 0).1.val = n at HE1 HE2 HVE
    generalize (evF had f t 0).1.err = e at HE1 HE2 HVE
    generalize (((evF had f t 0).2 : Nat) : Int) = q at HE2
    rw [show ((0 : Nat) : Int) = 0 from rfl] at HE2
    clear hgr hz1 hz2 hll hwm hac hf hml
    have m1 : Hid (0 = 0) := Lib.hid rfl
    go_enter Try.func11, Try.ntmps11
    go_upto_region 9 with (first
      | (go_at_call 28; refine (HG.out _ H0.out).mono ?_; clear HG; rintro e w1 ⟨rfl, hb1⟩; have h0 := H0.out.then hb1; clear hb1)
      | (go_at_call 29; refine (HMK.out _ h0).mono ?_; clear HMK; rintro e w3 ⟨⟨p, b, r, rfl, hs2, hr2, hp2, hb2⟩, hb1⟩; obtain ⟨rA, rc, rfl⟩ := hr2.form; replace h0 := ((h0.then hb1).snoc (.sub had p b) (hs2.mono (fun _ _ => trivial))).snoc (.bds had (.slice rA (List.length had) rc)) hr2; simp only [List.cons_append, List.nil_append] at h0; clear hb1 hs2 hr2 hp2 hb2; obtain ⟨d0, d1, d2, d3⟩ := (h0.bt 0 rfl).cells)
      | (go_at_call 44; have hx := m1.out; clear hx m1; refine (HE1.out _ _ _ (h0.sub 2 rfl) _ (h0.bt 0 rfl).tmv).mono ?_; clear HE1; rintro e' w5 ⟨rfl, hb1⟩; replace h0 := h0.then hb1; clear hb1 d0 d1 d2 d3; obtain ⟨d0, d1, d2, d3⟩ := (h0.bt 0 rfl).cells)
      | (go_at_call 45; refine (HE2.out _ _ _ (h0.bds 3 rfl) (h0.bt 0 rfl).tmv).mono ?_; clear HE2; rintro e' w6 ⟨rfl, hb1⟩; replace h0 := h0.then hb1; clear hb1 d0 d1 d2 d3; obtain ⟨d0, d1, d2, d3⟩ := (h0.bt 0 rfl).cells)
      | (go_at_call 44; refine (HE3.out _ _ (h0.bt 0 rfl).tmv).mono ?_; clear HE3; rintro e' w7 ⟨rfl, hb1⟩; replace h0 := h0.then hb1; clear hb1 d0 d1 d2 d3))
    by_cases he : e = 0
    · have g1 : (e != 0) = false := by simpa using he
      clear he
      go_wp2_with (go_at_call 43; refine (wakes13_c _).mono ?_; rintro e w9 ⟨rfl, hb9⟩; replace h0 := h0.then hb9; clear hb9)
      go_ret
      exact ⟨rfl, h0.b0⟩
    · have g1 : (e != 0) = true := by simpa using he
      have g2 : (n == 0) = true := by simpa using HVE.out he
      clear he
      go_wp2_with (go_at_call 43; refine (wakes13_c _).mono ?_; rintro e w9 ⟨rfl, hb9⟩; replace h0 := h0.then hb9; clear hb9)
      go_ret
      exact ⟨rfl, h0.b0⟩
end Go.Proofs.Ytdflckjnpgbjlaa

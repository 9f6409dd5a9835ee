/- The law ArithApplied, walked. Conditions: the arguments read; what they are made of is in its bounds. -/
import Derived.Test.YtdflckjnpgbjlaaY8
import Derived.Test.YtdflckjnpgbjlaaFk
import Derived.Test.YtdflckjnpgbjlaaSf
import Derived.Deep.DeepCutAuto
set_option linter.unusedVariables false
set_option maxRecDepth 20000
set_option linter.unusedSimpArgs false
namespace Go.Proofs.Ytdflckjnpgbjlaa
open Go.RowKit

theorem opI_er {s : ByteArray} {a b e : Int} (h : opI s a b = .er e) : e = 22 ∨ e = 23 := by
  have hf : ∀ x, fitR x = .er e → e = 22 := fun x h => by
    unfold fitR at h
    split at h
    · cases h
    · injection h with h; exact h.symm
  unfold opI at h
  split at h
  · exact .inl (hf _ h)
  split at h
  · exact .inl (hf _ h)
  split at h
  · exact .inl (hf _ h)
  split at h
  · unfold divR at h; split at h
    · injection h with h; exact .inr h.symm
    · exact .inl (hf _ h)
  split at h
  · unfold remR at h; split at h
    · injection h with h; exact .inr h.symm
    · cases h
  · unfold modR at h; split at h
    · injection h with h; exact .inr h.symm
    · cases h
theorem subR_er {a b e : Int} (h : subR a b = .er e) : e = 22 := by
  unfold subR fitR at h
  split at h
  · cases h
  · injection h with h; exact h.symm
theorem evF_er {l : Bs} : ∀ (f : Nat) (t : Tm) (c : Nat) (e : Int), (evF l f t c).1 = .er e → e ≠ 0 := by
  intro f
  induction f with
  | zero => intro t c e h; injection h with h; omega
  | succ f ih =>
    intro t c e h
    rw [evF] at h
    generalize wlk l t = x at h
    split at h
    · injection h with h; omega
    split at h
    · injection h with h; omega
    split at h
    · cases h
    split at h
    · split at h
      · rename_i a hl
        split at h
        · split at h
          · have := subR_er h; omega
          · rename_i q c' h1
            injection h with h
            subst h
            exact ih a (c + 1) q (by rw [h1])
        · injection h with h; omega
      · rename_i a b hl
        split at h
        · split at h
          · rename_i y c' h1
            split at h
            · rename_i z c'' h2
              rcases opI_er h with h | h <;> omega
            · rename_i q c'' h2
              injection h with h
              subst h
              exact ih b _ q (by rw [h2])
          · rename_i q c' h1
            injection h with h
            subst h
            exact ih a (c + 1) q (by rw [h1])
        · injection h with h; omega
      · injection h with h; omega
    · injection h with h; omega
def tN (t : Tm) : Tm := ⟨4, ⟨#[45]⟩, 0, [t]⟩
theorem tN_wf {t : Tm} (h : t.Wf) : (tN t).Wf := by
  simp [tN, Tm.Wf, WfL, h]
  decide
theorem fn_neg {l : Bs} {f : Nat} {t : Tm} (h : Fn l f t) : Fn l (f + 1) (tN t) := by
  show ∀ x ∈ (wlk l (tN t)).l, Fn l f x
  rw [wlk_num l (by simp [tN])]
  intro x hx
  simp [tN] at hx
  rw [hx]; exact h
theorem evF_neg {l : Bs} {f : Nat} {t : Tm} {c : Nat} (hc : c + 1 ≤ 4096) : evF l (f + 1) (tN t) c = (match evF l f t (c + 1) with
    | (.ok y, c') => (subR 0 y, c')
    | (.er e, c') => (.er e, c')) := by
  rw [evF, if_neg (by omega), wlk_num l (by simp [tN])]
  rfl
/-- Negative twice. -/
theorem evF_twice {l : Bs} {f : Nat} {t : Tm} (hr : ∀ n, (evF l f t 0).1 = .ok n → in64 n) :
    (evF l (f + 2) (tN (tN t)) 0).1 = .er 31 ∨ (match (evF l f t 0).1 with
      | .ok n => (evF l (f + 2) (tN (tN t)) 0).1 = .ok n ∨ ((evF l (f + 2) (tN (tN t)) 0).1 = .er 22 ∧ n = -9223372036854775808)
      | .er e => (evF l (f + 2) (tN (tN t)) 0).1 = .er e) := by
  rw [evF_neg (by omega), evF_neg (by omega)]
  have h := evF_more (l := l) f t 0 2
  generalize evF l f t (0 + 1 + 1) = P at *
  generalize evF l f t 0 = Q at *
  obtain ⟨P1, P2⟩ := P
  obtain ⟨Q1, Q2⟩ := Q
  rcases h with h | ⟨h, h'⟩
  · left
    simp only at h
    subst h
    rfl
  · simp only at h h'
    subst h h'
    right
    cases P1 with
    | er e => rfl
    | ok n =>
      have hn := hr n rfl
      simp only
      by_cases hm : n = -9223372036854775808
      · right
        subst hm
        exact ⟨rfl, rfl⟩
      · left
        unfold in64 at hn
        have h1 : subR 0 n = .ok (-n) := by unfold subR; rw [fitR_in (by unfold in64; omega)]; congr 1; omega
        have h2 : subR 0 (-n) = .ok n := by unfold subR; rw [fitR_in (by unfold in64; omega)]; congr 1; omega
        rw [h1]
        simp only
        rw [h2]
/-- What the law asks of the three. -/
def askR (n e o h : Int) : Prop := (e ≠ 0 ∧ (h = e ∨ h = 31)) ∨ (e = 0 ∧ ((h = 0 ∧ o = n) ∨ (h = 22 ∧ n = -9223372036854775808) ∨ h = 31))
theorem ask_ok {l : Bs} {f : Nat} {t : Tm} (hr : ∀ n, (evF l f t 0).1 = .ok n → in64 n) : askR (evF l f t 0).1.val (evF l f t 0).1.err (evF l (f + 2) (tN (tN t)) 0).1.val (evF l (f + 2) (tN (tN t)) 0).1.err := by
  have h := evF_twice hr
  have he := evF_er (l := l) f t 0
  unfold askR
  generalize (evF l (f + 2) (tN (tN t)) 0).1 = T at *
  generalize (evF l f t 0).1 = R at *
  cases R with
  | ok n =>
    right
    refine ⟨rfl, ?_⟩
    rcases h with h | h | ⟨h, h'⟩
    · right; right; rw [h]; rfl
    · left; rw [h]; exact ⟨rfl, rfl⟩
    · right; left; rw [h]; exact ⟨rfl, h'⟩
  | er e =>
    left
    refine ⟨he e rfl, ?_⟩
    rcases h with h | h
    · right; rw [h]; rfl
    · left; rw [h]
set_option maxRecDepth 100000 in
set_option maxHeartbeats 8000000 in
theorem ArithApplied_c (l : Bs) (t : Tm) (vl v : Value) (w : World) (okl ok : Nat → Prop) (hvl : Kd.bd.S w okl l vl) (hv : TmV w ok t v) (hl : WfB l) (ht : t.Wf) :
    Calls Try.prog 12 #[vl, v] w fun e w' => e = .returned (.bool true) ∧ Below w.heap.size w w' := by
  obtain ⟨u, rfl, hS⟩ := hv
  obtain ⟨A, c, rfl⟩ := hS.form
  have hba := (Below.refl _ w).alloc (Nat.le_refl _) (.cells #[.int .u8 t.k, .string t.s, .int .i64 t.n, .slice A t.l.length c] 24)
  have H0 : Hid (Fk w [.bt w.heap.size t (.slice A t.l.length c), .bds l vl] (w.alloc (.cells #[.int .u8 t.k, .string t.s, .int .i64 t.n, .slice A t.l.length c] 24))) := Lib.hid ⟨hba, fun f hf => by
    simp only [List.mem_cons, List.not_mem_nil, or_false] at hf
    rcases hf with rfl | rfl
    · exact Bt.new hS
    · exact (hvl.below hba).mono (fun _ _ => trivial)⟩
  have HG := Lib.hid (fun W (h : Fk w [.bt w.heap.size t (.slice A t.l.length c), .bds l vl] W) => Great3_c l t vl _ W _ _ (h.bds 1 rfl) (h.bt 0 rfl).tmv hl ht)
  obtain ⟨Al, cl, rfl⟩ := hvl.form
  have hwl := Lib.hid hl
  have hwf := Lib.hid ht
  clear hvl hS hl ht hba
  cases hgr : great3 l t with
  | true =>
    rw [hgr] at HG
    clear hgr
    go_enter Try.func12, Try.ntmps12
    go_wp2_with (first
      | (go_at_call 28; refine (HG.out _ H0.out).mono ?_; clear HG; rintro e w1 ⟨rfl, hb1⟩; have h0 := H0.out.then hb1; clear hb1)
      | (go_at_call 43; refine (wakes13_c _).mono ?_; rintro e w9 ⟨rfl, hb9⟩; replace h0 := h0.then hb9; clear hb9))
    go_ret
    exact ⟨rfl, h0.b0⟩
  | false =>
    rw [hgr] at HG
    obtain ⟨hz1, hz2⟩ := great3_siz hgr
    have hll := (great3_no hgr).1
    have hsm : ∀ n x, ofB (mk [] l) n = some x → x.siz ≤ 1000000 := fun n x h => by have := mk_siz hz1 n x h; omega
    have hwm : ∀ n x, ofB (mk [] l) n = some x → x.Wf := fun n x h => by
      rcases mk_sub l [] _ (ofB_mem h) with h1 | h1
      · cases h1
      · exact (hwl.out _ h1).2
    have hac : Acyc (mk [] l) := mk_acyc l [] acyc_nil
    have hsz : t.siz ≤ 1000000 := by omega
    have HMK := Lib.hid (fun W (h : Fk w [.bt w.heap.size t (.slice A t.l.length c), .bds l (.slice Al l.length cl)] W) => Make_c l _ W _ (h.bds 1 rfl) hwl.out hll (fun b hb => by have := hz1 b hb; omega))
    generalize mk [] l = had at hsm hac HMK hwm
    obtain ⟨f, hf⟩ := hac.fuel t
    have HA := Lib.hid (fun W p b (h : Fk w [.bt w.heap.size t (.slice A t.l.length c), .bds l (.slice Al l.length cl), .sub had p b] W) => Apply_c had p b f t _ W _ (h.sub 2 rfl) (h.bt 0 rfl).tmv hwf.out hf hsm hsz)
    by_cases hc : (vis had f t).length ≤ 4096
    · have hE : appE (vis had f t) (app had f t) = (app had f t, 0) := if_pos hc
      rw [hE] at HA
      simp only at HA
      obtain ⟨hfx, hax, -⟩ := app_fix hac f t hf
      have hxw : (app had f t).Wf := app_wf hwm f t hwf.out
      have hev := evF_app hac f t hf 0
      have HE1 := Lib.hid (fun W p b (h : Sub W (fun _ => True) had p b) u (hu : TmV W (fun _ => True) t u) => Eval_c had p b t f hf u W _ _ h hu hwf.out)
      have HE2 := Lib.hid (fun W p b (h : Sub W (fun _ => True) had p b) u (hu : TmV W (fun _ => True) (app had f t) u) => Eval_c had p b (app had f t) f hfx u W _ _ h hu hxw)
      rw [hev] at HE2
      have HE3 := Lib.hid (fun W p b (h : Sub W (fun _ => True) had p b) u (hu : TmV W (fun _ => True) (tN (tN t)) u) => Eval_c had p b (tN (tN t)) (f + 2) (fn_neg (fn_neg hf)) u W _ _ h hu (tN_wf (tN_wf hwf.out)))
      have HASK := Lib.hid (ask_ok (l := had) (f := f) (t := t) (fun n h => evF_in hwm f t 0 n hwf.out h))
      unfold Rk.out at HE1 HE2 HE3
      generalize (evF had f t 0).1.val = n at HE1 HE2 HASK
      generalize (evF had f t 0).1.err = e at HE1 HE2 HASK
      generalize (evF had (f + 2) (tN (tN t)) 0).1.val = o at HE3 HASK
      generalize (evF had (f + 2) (tN (tN t)) 0).1.err = h at HE3 HASK
      generalize app had f t = x at HA HE2
      have HF1 := Lib.hid (fun (W : World) (B : Nat) (hB : W.heap[B]? = some (.cells #[.int .u8 t.k, .string t.s, .int .i64 t.n, .slice A t.l.length c] 24 (0, 0))) (h : Kd.tm.S W (fun _ => True) t.l (.slice A t.l.length c)) => F_c ⟨#[45]⟩ [t] (.slice (some ⟨B, 0, none⟩) 1 1) W _ _ (Kd.S.S2 (lit1_at hB h)) (by simp))
      clear hgr hz1 hz2 hll hsm hwm hac hsz hf hc hE hfx hax hxw hev
      go_enter Try.func12, Try.ntmps12
      go_upto_region 11 with (first
        | (go_at_call 28; refine (HG.out _ H0.out).mono ?_; clear HG; rintro e w1 ⟨rfl, hb1⟩; have h0 := H0.out.then hb1; clear hb1)
        | (go_at_call 29; refine (HMK.out _ h0).mono ?_; clear HMK; rintro e w3 ⟨⟨p, b, r, rfl, hs2, hr2, hp2, hb2⟩, hb1⟩; obtain ⟨rA, rc, rfl⟩ := hr2.form; replace h0 := (h0.then hb1).snoc (.sub had p b) (hs2.mono (fun _ _ => trivial)); simp only [List.cons_append, List.nil_append] at h0; clear hb1 hs2 hr2 hp2 hb2; obtain ⟨d0, d1, d2, d3⟩ := (h0.bt 0 rfl).cells)
        | (go_at_call 24; refine (HA.out _ _ _ h0).mono ?_; clear HA; rintro e w4 ⟨⟨u4, rfl, uu4, rfl, hu4⟩, hb1⟩; obtain ⟨A4, c4, rfl⟩ := hu4.form; replace h0 := ((h0.then hb1).alloc (.cells #[.int .u8 x.k, .string x.s, .int .i64 x.n, .slice A4 x.l.length c4] 24)).snoc (.bt w4.heap.size x (.slice A4 x.l.length c4)) (Bt.new hu4); simp only [List.cons_append, List.nil_append] at h0; clear hb1 hu4 d0 d1 d2 d3; obtain ⟨d0, d1, d2, d3⟩ := (h0.bt 0 rfl).cells)
        | (go_at_call_has 44 (Value.slice A t.l.length c); refine (HE1.out _ _ _ (h0.sub 2 rfl) _ (h0.bt 0 rfl).tmv).mono ?_; clear HE1; rintro e' w5 ⟨rfl, hb1⟩; replace h0 := h0.then hb1; clear hb1 d0 d1 d2 d3; obtain ⟨d0, d1, d2, d3⟩ := (h0.bt 3 rfl).cells)
        | (go_at_call 44; refine (HE2.out _ _ _ (h0.sub 2 rfl) _ (h0.bt 3 rfl).tmv).mono ?_; clear HE2; rintro e' w6 ⟨rfl, hb1⟩; replace h0 := h0.then hb1; clear hb1 d0 d1 d2 d3; obtain ⟨d0, d1, d2, d3⟩ := (h0.bt 0 rfl).cells))
      have m1 : Hid (0 = 0) := Lib.hid rfl
      have HF2 := Lib.hid (fun (W : World) (B : Nat) A7 c7 (hB : W.heap[B]? = some (.cells #[.int .u8 4, .string ⟨#[45]⟩, .int .i64 0, .slice A7 1 c7] 24 (0, 0))) (h : Kd.tm.S W (fun _ => True) [t] (.slice A7 1 c7)) => F_c ⟨#[45]⟩ [tN t] (.slice (some ⟨B, 0, none⟩) 1 1) W _ _ (Kd.S.S2 (lit1_at (t := tN t) hB h)) (by simp))
      go_upto_region 12 with (first
        | (go_at_call 22; have hx := m1.out; clear hx m1; refine (HF1.out _ _ (heap_new _ _) ((h0.alloc _).bt 0 rfl).args).mono ?_; clear HF1; rintro e' w7 ⟨⟨r7, rfl, hr7⟩, hb1⟩; rw [mkF_cons] at hr7; obtain ⟨u7, rfl, hu7⟩ := hr7; obtain ⟨A7, c7, rfl⟩ := hu7.form; replace hu7 := Kd.S.mono (ok' := fun _ => True) (fun _ _ => trivial) hu7; replace h0 := (h0.alloc _).then hb1; clear hb1 d0 d1 d2 d3)
        | (go_at_call 22; have hq := HF2.out _ _ _ _ (heap_new _ _) (hu7.below ((Below.refl _ w7).alloc (Nat.le_refl _) (.cells #[.int .u8 4, .string ⟨#[45]⟩, .int .i64 0, .slice A7 1 c7] 24))); refine hq.mono ?_; clear hq HF2; rintro e' w8 ⟨⟨r8, rfl, hr8⟩, hb1⟩; rw [mkF_cons] at hr8; replace hr8 := TmV.mono (ok' := fun _ => True) (fun _ _ => trivial) hr8; replace h0 := (h0.alloc (.cells #[.int .u8 4, .string ⟨#[45]⟩, .int .i64 0, .slice A7 1 c7] 24)).then hb1; clear hb1 hu7)
        | (go_at_call 44; refine (HE3.out _ _ _ (h0.sub 2 rfl) _ hr8).mono ?_; clear HE3; rintro e' w9 ⟨rfl, hb1⟩; replace h0 := h0.then hb1; clear hb1))
      rcases HASK.out with ⟨h1, h2 | h2⟩ | ⟨h1, ⟨h2, h3⟩ | ⟨h2, h3⟩ | h2⟩
      · have g1 : (e != 0) = true := by simpa using h1
        have g2 : (h == e) = true := by simpa using h2
        clear h1 h2 HASK
        go_wp2_with (go_at_call 43; refine (wakes13_c _).mono ?_; rintro e w9 ⟨rfl, hb9⟩; replace h0 := h0.then hb9; clear hb9)
        go_ret
        exact ⟨rfl, h0.b0⟩
      · have g1 : (e != 0) = true := by simpa using h1
        have g3 : (h == 31) = true := by simpa using h2
        rcases g2 : (h == e) with _ | _
        all_goals
          clear h1 h2
          go_wp2_with (go_at_call 43; refine (wakes13_c _).mono ?_; rintro e w9 ⟨rfl, hb9⟩; replace h0 := h0.then hb9; clear hb9)
          go_ret
          exact ⟨rfl, h0.b0⟩
      · have g1 : (e != 0) = false := by simpa using h1
        have g2 : (h == 0) = true := by simpa using h2
        have g3 : (o == n) = true := by simpa using h3
        clear h1 h2 h3 HASK
        go_wp2_with (go_at_call 43; refine (wakes13_c _).mono ?_; rintro e w9 ⟨rfl, hb9⟩; replace h0 := h0.then hb9; clear hb9)
        go_ret
        exact ⟨rfl, h0.b0⟩
      · have g1 : (e != 0) = false := by simpa using h1
        have g2 : (h == 0) = false := by rw [h2]; rfl
        have g3 : (h == 22) = true := by simpa using h2
        have g4 : (n == -9223372036854775808) = true := by simpa using h3
        clear h1 h2 h3 HASK
        go_wp2_with (go_at_call 43; refine (wakes13_c _).mono ?_; rintro e w9 ⟨rfl, hb9⟩; replace h0 := h0.then hb9; clear hb9)
        go_ret
        exact ⟨rfl, h0.b0⟩
      · have g1 : (e != 0) = false := by simpa using h1
        have g2 : (h == 0) = false := by rw [h2]; rfl
        have g3 : (h == 22) = false := by rw [h2]; rfl
        have g4 : (h == 31) = true := by simpa using h2
        clear h1 h2 HASK
        go_wp2_with (go_at_call 43; refine (wakes13_c _).mono ?_; rintro e w9 ⟨rfl, hb9⟩; replace h0 := h0.then hb9; clear hb9)
        go_ret
        exact ⟨rfl, h0.b0⟩
    · have hE : (appE (vis had f t) (app had f t)).2 = 31 := by unfold appE; rw [if_neg hc]
      rw [hE] at HA
      generalize (appE (vis had f t) (app had f t)).1 = x at HA
      clear hgr hz1 hz2 hll hsm hwm hac hsz hf hc hE
      go_enter Try.func12, Try.ntmps12
      go_wp2_with (first
        | (go_at_call 28; refine (HG.out _ H0.out).mono ?_; clear HG; rintro e w1 ⟨rfl, hb1⟩; have h0 := H0.out.then hb1; clear hb1)
        | (go_at_call 29; refine (HMK.out _ h0).mono ?_; clear HMK; rintro e w3 ⟨⟨p, b, r, rfl, hs2, hr2, hp2, hb2⟩, hb1⟩; obtain ⟨rA, rc, rfl⟩ := hr2.form; replace h0 := (h0.then hb1).snoc (.sub had p b) (hs2.mono (fun _ _ => trivial)); simp only [List.cons_append, List.nil_append] at h0; clear hb1 hs2 hr2 hp2 hb2; obtain ⟨d0, d1, d2, d3⟩ := (h0.bt 0 rfl).cells)
        | (go_at_call 24; refine (HA.out _ _ _ h0).mono ?_; clear HA; rintro e w4 ⟨⟨u4, rfl, uu4, rfl, hu4⟩, hb1⟩; obtain ⟨A4, c4, rfl⟩ := hu4.form; replace h0 := (h0.then hb1).alloc (.cells #[.int .u8 x.k, .string x.s, .int .i64 x.n, .slice A4 x.l.length c4] 24); clear hb1 hu4 d0 d1 d2 d3)
        | (go_at_call 43; refine (wakes13_c _).mono ?_; rintro e w9 ⟨rfl, hb9⟩; replace h0 := h0.then hb9; clear hb9))
      go_ret
      exact ⟨rfl, h0.b0⟩
end Go.Proofs.Ytdflckjnpgbjlaa

/- The law UnifyMost, walked. Conditions: the arguments read; what they are made of is in its bounds. -/
import Derived.Test.YtdflckjnpgbjlaaFk
set_option linter.unusedVariables false
set_option maxRecDepth 20000
set_option linter.unusedSimpArgs false
namespace Go.Proofs.Ytdflckjnpgbjlaa
open Go.RowKit

/-! ### Plain: what unifies is most general -/
theorem most_no {had : Bs} (hA : Acyc had) {a b : Tm} (ha : a.vok) (hb : b.vok) {k n : Nat} (h : un k n [] [(a, b)] = .no) : appA had a ≠ appA had b := fun he => by
  rw [appA_sb hA ha, appA_sb hA hb] at he
  rcases un_most (σ := sgm had) k n [] [(a, b)] acyc_nil (fun v t h => by cases h) (by simp [ha, hb]) (fun v t h => by cases h) (by simpa using he) with h1 | ⟨l', n', h1, _⟩
  · rw [h] at h1; cases h1
  · rw [h] at h1; cases h1
theorem most_yes {a b : Tm} (ha : a.vok) (hb : b.vok) {k n : Nat} {l' : Bs} {n' : Nat} (h : un k n [] [(a, b)] = .yes l' n') : Acyc l' ∧ VokB l' ∧ appA l' a = appA l' b := by
  obtain ⟨h1, h2, -, h3⟩ := un_sound k n [] [(a, b)] l' n' acyc_nil (fun v t h => by cases h) (by simp [ha, hb]) h
  refine ⟨h1, h2, ?_⟩
  rw [appA_sb h1 ha, appA_sb h1 hb]
  exact (h3 _ (sgm_rsp h1 h2)).2 (a, b) (by simp)
theorem kV_vok {n : Int} (h : 0 ≤ n) : (kV n).vok := vok_def.2 ⟨fun _ => ⟨rfl, rfl, h⟩, fun a ha => by cases ha⟩
theorem most_loop {had : Bs} (hA : Acyc had) {a b : Tm} (ha : a.vok) (hb : b.vok) {k n : Nat} {l' : Bs} {n' : Nat} (h : un k n [] [(a, b)] = .yes l' n') (he : appA had a = appA had b) {v : Int} (hv : 0 ≤ v) :
    appA had (appA l' (kV v)) = appA had (kV v) := by
  rw [appA_sb hA ha, appA_sb hA hb] at he
  obtain ⟨h1, h2, -⟩ := most_yes ha hb h
  rcases un_most (σ := sgm had) k n [] [(a, b)] acyc_nil (fun v t h => by cases h) (by simp [ha, hb]) (fun v t h => by cases h) (by simpa using he) with h3 | ⟨l2, n2, h3, hr⟩
  · rw [h] at h3; cases h3
  · rw [h] at h3
    injection h3 with h3 h4
    subst h3
    have hu : (appA l' (kV v)).vok := app_vok h2 _ _ (kV_vok hv)
    rw [appA_sb hA hu, appA_sb hA (kV_vok hv)]
    exact hr.app _ _ (h1.fueled _)
theorem appE_cases (P : List Tm) (t : Tm) : (appE P t).2 = 0 ∧ (appE P t).1 = t ∧ P.length ≤ 4096 ∨ (appE P t).2 = 31 ∧ 4096 < P.length := by
  unfold appE
  split
  · rename_i h; exact .inl ⟨rfl, rfl, h⟩
  · rename_i h; exact .inr ⟨rfl, by omega⟩
theorem vokB_mk {l : Bs} (h : ∀ b ∈ l, b.2.vok) : VokB (mk [] l) := fun v t hv => by
  rcases mk_sub l [] _ (ofB_mem hv) with h1 | h1
  · cases h1
  · exact h _ h1
theorem good_vok {t : Tm} (h : t.good = true) : t.vok := shp_vok t (by unfold Tm.good at h; simp only [Bool.and_eq_true] at h; exact h.2)
mutual
theorem vok_occ : ∀ t : Tm, t.vok → ∀ n ∈ t.occ, 0 ≤ n
  | ⟨k, s, q, l⟩, h, n, hn => by
    have h' := vok_def.1 h
    simp only [Tm.occ, List.mem_append] at hn
    rcases hn with hn | hn
    · split at hn
      · rename_i hk
        rw [List.mem_singleton] at hn; subst hn; exact (h'.1 hk).2.2
      · cases hn
    · exact vokL_occ l (vokL_iff.2 h'.2) n hn
theorem vokL_occ : ∀ l : List Tm, vokL l → ∀ n ∈ occL l, 0 ≤ n
  | [], _, n, hn => by simp [occL] at hn
  | t :: ts, h, n, hn => by
    simp only [occL, List.mem_append] at hn
    exact hn.elim (vok_occ t h.1 n) (vokL_occ ts h.2 n)
end
set_option maxRecDepth 100000 in
set_option maxHeartbeats 16000000 in
theorem most_g3 {w : World} {l : Bs} {Al : Option Addr} {cl : Nat} {a b : Tm} {A B : Option Addr} {ca cb : Nat}
    (HK : Hid (Fk w [.bt w.heap.size a (.slice A a.l.length ca), .bt (w.heap.size + 1) b (.slice B b.l.length cb), .bds l (.slice Al l.length cl)] ((w.alloc (.cells #[.int .u8 a.k, .string a.s, .int .i64 a.n, .slice A a.l.length ca] 24)).alloc (.cells #[.int .u8 b.k, .string b.s, .int .i64 b.n, .slice B b.l.length cb] 24))))
    (HG3 : Hid (∀ W, Kd.bd.S W (fun _ => True) l (.slice Al l.length cl) → Kd.tm.S W (fun _ => True) a.l (.slice A a.l.length ca) → Calls Try.prog 28 #[.slice Al l.length cl, .agg #[.int .u8 a.k, .string a.s, .int .i64 a.n, .slice A a.l.length ca]] W fun e w' => e = .returned (.bool true) ∧ Below W.heap.size W w'))
    :
    Calls Try.prog 6 #[.slice Al l.length cl, .agg #[.int .u8 a.k, .string a.s, .int .i64 a.n, .slice A a.l.length ca], .agg #[.int .u8 b.k, .string b.s, .int .i64 b.n, .slice B b.l.length cb]] w fun e w' => e = .returned (.bool true) ∧ Below w.heap.size w w' := by
  go_enter Try.func6, Try.ntmps6
  go_wp2_with (first
    | (go_at_call 28; refine (HG3.out _ (HK.out.bds 2 rfl) (HK.out.bt 0 rfl).args).mono ?_; clear HG3; rintro e w1 ⟨rfl, hb1⟩; have h := HK.out.then hb1; clear hb1 HK; obtain ⟨c0, c1, c2, c3⟩ := (h.bt 0 rfl).cells; obtain ⟨d0, d1, d2, d3⟩ := (h.bt 1 rfl).cells)
    | (go_at_call 17; refine (wakes04_c _).mono ?_; rintro e w9 ⟨rfl, hb9⟩))
  go_ret
  exact ⟨rfl, below_then h.b0 h.b0.size hb9⟩
set_option maxRecDepth 100000 in
set_option maxHeartbeats 16000000 in
theorem most_g {w : World} {l : Bs} {Al : Option Addr} {cl : Nat} {a b : Tm} {A B : Option Addr} {ca cb : Nat}
    (HK : Hid (Fk w [.bt w.heap.size a (.slice A a.l.length ca), .bt (w.heap.size + 1) b (.slice B b.l.length cb), .bds l (.slice Al l.length cl)] ((w.alloc (.cells #[.int .u8 a.k, .string a.s, .int .i64 a.n, .slice A a.l.length ca] 24)).alloc (.cells #[.int .u8 b.k, .string b.s, .int .i64 b.n, .slice B b.l.length cb] 24))))
    (HG3 : Hid (∀ W, Kd.bd.S W (fun _ => True) l (.slice Al l.length cl) → Kd.tm.S W (fun _ => True) a.l (.slice A a.l.length ca) → Calls Try.prog 28 #[.slice Al l.length cl, .agg #[.int .u8 a.k, .string a.s, .int .i64 a.n, .slice A a.l.length ca]] W fun e w' => e = .returned (.bool false) ∧ Below W.heap.size W w'))
    (HG : Hid (∀ W B', Kd.tm.S W (fun _ => True) [b] (.slice (some ⟨B', 0, none⟩) 1 1) → Calls Try.prog 15 #[.slice (some ⟨B', 0, none⟩) 1 1] W fun e w' => e = .returned (.bool true) ∧ Below W.heap.size W w'))
    :
    Calls Try.prog 6 #[.slice Al l.length cl, .agg #[.int .u8 a.k, .string a.s, .int .i64 a.n, .slice A a.l.length ca], .agg #[.int .u8 b.k, .string b.s, .int .i64 b.n, .slice B b.l.length cb]] w fun e w' => e = .returned (.bool true) ∧ Below w.heap.size w w' := by
  go_enter Try.func6, Try.ntmps6
  go_wp2_with (first
    | (go_at_call 28; refine (HG3.out _ (HK.out.bds 2 rfl) (HK.out.bt 0 rfl).args).mono ?_; clear HG3; rintro e w1 ⟨rfl, hb1⟩; have h := HK.out.then hb1; clear hb1 HK; obtain ⟨c0, c1, c2, c3⟩ := (h.bt 0 rfl).cells; obtain ⟨d0, d1, d2, d3⟩ := (h.bt 1 rfl).cells)
    | (go_at_call 15; refine (HG.out _ _ (lit1_at (heap_new w1 (.cells #[.int .u8 b.k, .string b.s, .int .i64 b.n, .slice B b.l.length cb] 24)) ((h.alloc _).bt 1 rfl).args)).mono ?_; clear HG; rintro e w2 ⟨rfl, hb1⟩; replace h := (h.alloc _).then hb1; clear hb1; clear c0 c1 c2 c3 d0 d1 d2 d3; obtain ⟨c0, c1, c2, c3⟩ := (h.bt 0 rfl).cells; obtain ⟨d0, d1, d2, d3⟩ := (h.bt 1 rfl).cells)
    | (go_at_call 17; refine (wakes04_c _).mono ?_; rintro e w9 ⟨rfl, hb9⟩))
  go_ret
  exact ⟨rfl, below_then h.b0 h.b0.size hb9⟩
set_option maxRecDepth 100000 in
set_option maxHeartbeats 16000000 in
theorem most_ga {w : World} {l : Bs} {Al : Option Addr} {cl : Nat} {a b : Tm} {A B : Option Addr} {ca cb : Nat}
    (HK : Hid (Fk w [.bt w.heap.size a (.slice A a.l.length ca), .bt (w.heap.size + 1) b (.slice B b.l.length cb), .bds l (.slice Al l.length cl)] ((w.alloc (.cells #[.int .u8 a.k, .string a.s, .int .i64 a.n, .slice A a.l.length ca] 24)).alloc (.cells #[.int .u8 b.k, .string b.s, .int .i64 b.n, .slice B b.l.length cb] 24))))
    (HG3 : Hid (∀ W, Kd.bd.S W (fun _ => True) l (.slice Al l.length cl) → Kd.tm.S W (fun _ => True) a.l (.slice A a.l.length ca) → Calls Try.prog 28 #[.slice Al l.length cl, .agg #[.int .u8 a.k, .string a.s, .int .i64 a.n, .slice A a.l.length ca]] W fun e w' => e = .returned (.bool false) ∧ Below W.heap.size W w'))
    (HG : Hid (∀ W B', Kd.tm.S W (fun _ => True) [b] (.slice (some ⟨B', 0, none⟩) 1 1) → Calls Try.prog 15 #[.slice (some ⟨B', 0, none⟩) 1 1] W fun e w' => e = .returned (.bool false) ∧ Below W.heap.size W w'))
    (HDA : Hid (∀ W, Kd.tm.S W (fun _ => True) a.l (.slice A a.l.length ca) → Calls Try.prog 16 #[.agg #[.int .u8 a.k, .string a.s, .int .i64 a.n, .slice A a.l.length ca]] W fun e w' => e = .returned (.bool false) ∧ Below W.heap.size W w'))
    :
    Calls Try.prog 6 #[.slice Al l.length cl, .agg #[.int .u8 a.k, .string a.s, .int .i64 a.n, .slice A a.l.length ca], .agg #[.int .u8 b.k, .string b.s, .int .i64 b.n, .slice B b.l.length cb]] w fun e w' => e = .returned (.bool true) ∧ Below w.heap.size w w' := by
  go_enter Try.func6, Try.ntmps6
  go_wp2_with (first
    | (go_at_call 28; refine (HG3.out _ (HK.out.bds 2 rfl) (HK.out.bt 0 rfl).args).mono ?_; clear HG3; rintro e w1 ⟨rfl, hb1⟩; have h := HK.out.then hb1; clear hb1 HK; obtain ⟨c0, c1, c2, c3⟩ := (h.bt 0 rfl).cells; obtain ⟨d0, d1, d2, d3⟩ := (h.bt 1 rfl).cells)
    | (go_at_call 15; refine (HG.out _ _ (lit1_at (heap_new w1 (.cells #[.int .u8 b.k, .string b.s, .int .i64 b.n, .slice B b.l.length cb] 24)) ((h.alloc _).bt 1 rfl).args)).mono ?_; clear HG; rintro e w2 ⟨rfl, hb1⟩; replace h := (h.alloc _).then hb1; clear hb1; clear c0 c1 c2 c3 d0 d1 d2 d3; obtain ⟨c0, c1, c2, c3⟩ := (h.bt 0 rfl).cells; obtain ⟨d0, d1, d2, d3⟩ := (h.bt 1 rfl).cells)
    | (go_at_call 16; refine (HDA.out _ (h.bt 0 rfl).args).mono ?_; clear HDA; rintro e w3 ⟨rfl, hb1⟩; replace h := h.then hb1; clear hb1; clear c0 c1 c2 c3 d0 d1 d2 d3; obtain ⟨c0, c1, c2, c3⟩ := (h.bt 0 rfl).cells; obtain ⟨d0, d1, d2, d3⟩ := (h.bt 1 rfl).cells)
    | (go_at_call 17; refine (wakes04_c _).mono ?_; rintro e w9 ⟨rfl, hb9⟩))
  go_ret
  exact ⟨rfl, below_then h.b0 h.b0.size hb9⟩
set_option maxRecDepth 100000 in
set_option maxHeartbeats 16000000 in
theorem most_gb {w : World} {l : Bs} {Al : Option Addr} {cl : Nat} {a b : Tm} {A B : Option Addr} {ca cb : Nat}
    (HK : Hid (Fk w [.bt w.heap.size a (.slice A a.l.length ca), .bt (w.heap.size + 1) b (.slice B b.l.length cb), .bds l (.slice Al l.length cl)] ((w.alloc (.cells #[.int .u8 a.k, .string a.s, .int .i64 a.n, .slice A a.l.length ca] 24)).alloc (.cells #[.int .u8 b.k, .string b.s, .int .i64 b.n, .slice B b.l.length cb] 24))))
    (HG3 : Hid (∀ W, Kd.bd.S W (fun _ => True) l (.slice Al l.length cl) → Kd.tm.S W (fun _ => True) a.l (.slice A a.l.length ca) → Calls Try.prog 28 #[.slice Al l.length cl, .agg #[.int .u8 a.k, .string a.s, .int .i64 a.n, .slice A a.l.length ca]] W fun e w' => e = .returned (.bool false) ∧ Below W.heap.size W w'))
    (HG : Hid (∀ W B', Kd.tm.S W (fun _ => True) [b] (.slice (some ⟨B', 0, none⟩) 1 1) → Calls Try.prog 15 #[.slice (some ⟨B', 0, none⟩) 1 1] W fun e w' => e = .returned (.bool false) ∧ Below W.heap.size W w'))
    (HDA : Hid (∀ W, Kd.tm.S W (fun _ => True) a.l (.slice A a.l.length ca) → Calls Try.prog 16 #[.agg #[.int .u8 a.k, .string a.s, .int .i64 a.n, .slice A a.l.length ca]] W fun e w' => e = .returned (.bool true) ∧ Below W.heap.size W w'))
    (HDB : Hid (∀ W, Kd.tm.S W (fun _ => True) b.l (.slice B b.l.length cb) → Calls Try.prog 16 #[.agg #[.int .u8 b.k, .string b.s, .int .i64 b.n, .slice B b.l.length cb]] W fun e w' => e = .returned (.bool false) ∧ Below W.heap.size W w'))
    :
    Calls Try.prog 6 #[.slice Al l.length cl, .agg #[.int .u8 a.k, .string a.s, .int .i64 a.n, .slice A a.l.length ca], .agg #[.int .u8 b.k, .string b.s, .int .i64 b.n, .slice B b.l.length cb]] w fun e w' => e = .returned (.bool true) ∧ Below w.heap.size w w' := by
  go_enter Try.func6, Try.ntmps6
  go_wp2_with (first
    | (go_at_call 28; refine (HG3.out _ (HK.out.bds 2 rfl) (HK.out.bt 0 rfl).args).mono ?_; clear HG3; rintro e w1 ⟨rfl, hb1⟩; have h := HK.out.then hb1; clear hb1 HK; obtain ⟨c0, c1, c2, c3⟩ := (h.bt 0 rfl).cells; obtain ⟨d0, d1, d2, d3⟩ := (h.bt 1 rfl).cells)
    | (go_at_call 15; refine (HG.out _ _ (lit1_at (heap_new w1 (.cells #[.int .u8 b.k, .string b.s, .int .i64 b.n, .slice B b.l.length cb] 24)) ((h.alloc _).bt 1 rfl).args)).mono ?_; clear HG; rintro e w2 ⟨rfl, hb1⟩; replace h := (h.alloc _).then hb1; clear hb1; clear c0 c1 c2 c3 d0 d1 d2 d3; obtain ⟨c0, c1, c2, c3⟩ := (h.bt 0 rfl).cells; obtain ⟨d0, d1, d2, d3⟩ := (h.bt 1 rfl).cells)
    | (go_at_call 16; refine (HDA.out _ (h.bt 0 rfl).args).mono ?_; clear HDA; rintro e w3 ⟨rfl, hb1⟩; replace h := h.then hb1; clear hb1; clear c0 c1 c2 c3 d0 d1 d2 d3; obtain ⟨c0, c1, c2, c3⟩ := (h.bt 0 rfl).cells; obtain ⟨d0, d1, d2, d3⟩ := (h.bt 1 rfl).cells)
    | (go_at_call 16; refine (HDB.out _ (h.bt 1 rfl).args).mono ?_; clear HDB; rintro e w4 ⟨rfl, hb1⟩; replace h := h.then hb1; clear hb1; clear c0 c1 c2 c3 d0 d1 d2 d3; obtain ⟨c0, c1, c2, c3⟩ := (h.bt 0 rfl).cells; obtain ⟨d0, d1, d2, d3⟩ := (h.bt 1 rfl).cells)
    | (go_at_call 17; refine (wakes04_c _).mono ?_; rintro e w9 ⟨rfl, hb9⟩))
  go_ret
  exact ⟨rfl, below_then h.b0 h.b0.size hb9⟩
set_option maxRecDepth 100000 in
set_option maxHeartbeats 16000000 in
theorem mw_full {w : World} {l : Bs} {Al : Option Addr} {cl : Nat} {a b : Tm} {A B : Option Addr} {ca cb : Nat} {had : Bs} {E1 E2 : Int} {X1 X2 : Tm} {al : Bool}
    (HK : Hid (Fk w [.bt w.heap.size a (.slice A a.l.length ca), .bt (w.heap.size + 1) b (.slice B b.l.length cb), .bds l (.slice Al l.length cl)] ((w.alloc (.cells #[.int .u8 a.k, .string a.s, .int .i64 a.n, .slice A a.l.length ca] 24)).alloc (.cells #[.int .u8 b.k, .string b.s, .int .i64 b.n, .slice B b.l.length cb] 24))))
    (HG3 : Hid (∀ W, Kd.bd.S W (fun _ => True) l (.slice Al l.length cl) → Kd.tm.S W (fun _ => True) a.l (.slice A a.l.length ca) → Calls Try.prog 28 #[.slice Al l.length cl, .agg #[.int .u8 a.k, .string a.s, .int .i64 a.n, .slice A a.l.length ca]] W fun e w' => e = .returned (.bool false) ∧ Below W.heap.size W w'))
    (HG : Hid (∀ W B', Kd.tm.S W (fun _ => True) [b] (.slice (some ⟨B', 0, none⟩) 1 1) → Calls Try.prog 15 #[.slice (some ⟨B', 0, none⟩) 1 1] W fun e w' => e = .returned (.bool false) ∧ Below W.heap.size W w'))
    (HDA : Hid (∀ W, Kd.tm.S W (fun _ => True) a.l (.slice A a.l.length ca) → Calls Try.prog 16 #[.agg #[.int .u8 a.k, .string a.s, .int .i64 a.n, .slice A a.l.length ca]] W fun e w' => e = .returned (.bool true) ∧ Below W.heap.size W w'))
    (HDB : Hid (∀ W, Kd.tm.S W (fun _ => True) b.l (.slice B b.l.length cb) → Calls Try.prog 16 #[.agg #[.int .u8 b.k, .string b.s, .int .i64 b.n, .slice B b.l.length cb]] W fun e w' => e = .returned (.bool true) ∧ Below W.heap.size W w'))
    (HLL : Hid (l.length ≤ 40))
    (HDL : Hid (∀ q ∈ l, ∀ W u, Kd.tm.S W (fun _ => True) q.2.l u → Calls Try.prog 16 #[.agg #[.int .u8 q.2.k, .string q.2.s, .int .i64 q.2.n, u]] W fun e w' => e = .returned (.bool q.2.good) ∧ Below W.heap.size W w'))
    (HMK : Hid (∀ W, Kd.bd.S W (fun _ => True) l (.slice Al l.length cl) → Calls Try.prog 29 #[.slice Al l.length cl] W fun e w' => (∃ p b r, e = .returned (.tuple #[.pointer (some ⟨p, 0, none⟩), r, .bool true]) ∧ Sub w' (fun _ => True) had p b) ∧ Below W.heap.size W w'))
    (HAA : Hid (∀ W p b, Sub W (fun _ => True) had p b → Kd.tm.S W (fun _ => True) a.l (.slice A a.l.length ca) → Calls Try.prog 24 #[.pointer (some ⟨p, 0, none⟩), .agg #[.int .u8 a.k, .string a.s, .int .i64 a.n, .slice A a.l.length ca]] W fun e w' => (∃ u, e = .returned (.tuple #[u, .int .i64 E1]) ∧ TmV w' (fun _ => True) X1 u) ∧ Below W.heap.size W w'))
    (HAB : Hid (∀ W p c, Sub W (fun _ => True) had p c → Kd.tm.S W (fun _ => True) b.l (.slice B b.l.length cb) → Calls Try.prog 24 #[.pointer (some ⟨p, 0, none⟩), .agg #[.int .u8 b.k, .string b.s, .int .i64 b.n, .slice B b.l.length cb]] W fun e w' => (∃ u, e = .returned (.tuple #[u, .int .i64 E2]) ∧ TmV w' (fun _ => True) X2 u) ∧ Below W.heap.size W w'))
    (HSM : Hid (∀ W v v', TmV W (fun _ => True) X1 v → TmV W (fun _ => True) X2 v' → Calls Try.prog 26 #[v, v'] W fun e w' => e = .returned (.bool al) ∧ Below W.heap.size W w'))
    (HU : (∀ q ∈ l, q.2.good = true) → Hid (∀ W q c, Kd.tm.S W (fun _ => True) a.l (.slice A a.l.length ca) → Kd.tm.S W (fun _ => True) b.l (.slice B b.l.length cb) → Sub W (fun _ => True) [] q c → Calls Try.prog 18 #[.pointer (some ⟨q, 0, none⟩), .agg #[.int .u8 a.k, .string a.s, .int .i64 a.n, .slice A a.l.length ca], .agg #[.int .u8 b.k, .string b.s, .int .i64 b.n, .slice B b.l.length cb]] W fun e w' => e = .returned (.tuple #[.pointer none, .bool false, .int .i64 31]) ∧ Below W.heap.size W w'))
    (hS : (E1 = 0 ∧ E2 = 0) ∨ E1 = 31 ∨ (E1 = 0 ∧ E2 = 31))
    :
    Calls Try.prog 6 #[.slice Al l.length cl, .agg #[.int .u8 a.k, .string a.s, .int .i64 a.n, .slice A a.l.length ca], .agg #[.int .u8 b.k, .string b.s, .int .i64 b.n, .slice B b.l.length cb]] w fun e w' => e = .returned (.bool true) ∧ Below w.heap.size w w' := by
  have hll := HLL.out
  clear HLL
  go_enter Try.func6, Try.ntmps6
  go_wp2_with (first
    | (go_at_call 28; refine (HG3.out _ (HK.out.bds 2 rfl) (HK.out.bt 0 rfl).args).mono ?_; clear HG3; rintro e w1 ⟨rfl, hb1⟩; have h := HK.out.then hb1; clear hb1 HK; obtain ⟨c0, c1, c2, c3⟩ := (h.bt 0 rfl).cells; obtain ⟨d0, d1, d2, d3⟩ := (h.bt 1 rfl).cells)
    | (go_at_call 15; refine (HG.out _ _ (lit1_at (heap_new w1 (.cells #[.int .u8 b.k, .string b.s, .int .i64 b.n, .slice B b.l.length cb] 24)) ((h.alloc _).bt 1 rfl).args)).mono ?_; clear HG; rintro e w2 ⟨rfl, hb1⟩; replace h := (h.alloc _).then hb1; clear hb1; clear c0 c1 c2 c3 d0 d1 d2 d3; obtain ⟨c0, c1, c2, c3⟩ := (h.bt 0 rfl).cells; obtain ⟨d0, d1, d2, d3⟩ := (h.bt 1 rfl).cells)
    | (go_at_call 16; refine (HDA.out _ (h.bt 0 rfl).args).mono ?_; clear HDA; rintro e w3 ⟨rfl, hb1⟩; replace h := h.then hb1; clear hb1; clear c0 c1 c2 c3 d0 d1 d2 d3; obtain ⟨c0, c1, c2, c3⟩ := (h.bt 0 rfl).cells; obtain ⟨d0, d1, d2, d3⟩ := (h.bt 1 rfl).cells)
    | (go_at_call 16; refine (HDB.out _ (h.bt 1 rfl).args).mono ?_; clear HDB; rintro e w4 ⟨rfl, hb1⟩; replace h := h.then hb1; clear hb1; clear c0 c1 c2 c3 d0 d1 d2 d3; obtain ⟨c0, c1, c2, c3⟩ := (h.bt 0 rfl).cells; obtain ⟨d0, d1, d2, d3⟩ := (h.bt 1 rfl).cells))
  go_loopw [7] (fun i wr => ∃ j : Nat, j ≤ l.length ∧ i = .int .i64 j ∧ (∀ q ∈ l.take j, q.2.good = true) ∧ Fk w [.bt w.heap.size a (.slice A a.l.length ca), .bt (w.heap.size + 1) b (.slice B b.l.length cb), .bds l (.slice Al l.length cl)] wr) (fun i _ => l.length - (intOf i).toNat)
  case atStart => exact ⟨0, Nat.zero_le _, rfl, (by simp), h⟩
  case round =>
    clear h c0 c1 c2 c3 d0 d1 d2 d3
    obtain ⟨j, hj, rfl, hall, h⟩ := hrel
    by_cases hlt : j < l.length
    · obtain ⟨All, cll, eA, -, -, hA⟩ := h.bds 2 rfl
      injection eA with eA1 eA2 eA3
      subst eA1
      clear eA2 eA3
      obtain ⟨bb, o, u, rfl, hokb, hlo, h0, h1, h2, h3, h4, h5⟩ := bd_elem hA hlt
      have hm := List.getElem_mem hlt
      have hall' : l[j].2.good = true → ∀ q ∈ l.take (j + 1), q.2.good = true := fun h q hq => by
        rw [take_succ_at l hlt, List.mem_append, List.mem_singleton] at hq
        exact hq.elim (hall q) (fun e => e ▸ h)
      have HALL := Lib.hid hall'
      have HQ := Lib.hid (HDL.out l[j] hm)
      obtain ⟨Au, cu, rfl⟩ := h5.form
      have hu := h5.mono (ok' := fun _ => True) (fun _ _ => trivial)
      clear hall hall' hA HU HDL HMK HAA HAB HSM h5 
      generalize l[j] = q at h0 h1 h2 h3 h4 hu HALL HQ
      obtain ⟨v, t⟩ := q
      simp only at h0 h1 h2 h3 h4 hu HALL HQ
      cases hg : t.good with
      | false =>
        rw [hg] at HQ
        clear HALL
        go_wp2_with (first
          | (go_at_call 16; refine (HQ.out _ _ hu).mono ?_; clear HQ; rintro e w5 ⟨rfl, hb1⟩; replace h := h.then hb1; clear hb1)
          | (go_at_call 17; refine (wakes04_c _).mono ?_; rintro e w9 ⟨rfl, hb9⟩))
        go_ret
        exact ⟨rfl, below_then h.b0 h.b0.size hb9⟩
      | true =>
        rw [hg] at HQ
        go_wp2_with (go_at_call 16; refine (HQ.out _ _ hu).mono ?_; clear HQ; rintro e w5 ⟨rfl, hb1⟩; replace h := h.then hb1; clear hb1)
        go_roundw
        case rel => exact ⟨j + 1, by omega, by go_num, HALL.out hg, h⟩
        case measure => simp [intOf]; omega
    · have hjl : j = l.length := by omega
      subst hjl
      rw [List.take_length] at hall
      replace HU := HU hall
      clear hall hlt hj HDL
      go_wp2
      refine wp_region_held_drew (S := (fun W => W.cell? ⟨w.heap.size, 0, none⟩ = some (.int .u8 a.k) ∧ W.cell? ⟨w.heap.size, 1, none⟩ = some (.string a.s) ∧ W.cell? ⟨w.heap.size, 2, none⟩ = some (.int .i64 a.n) ∧ W.cell? ⟨w.heap.size, 3, none⟩ = some (.slice A a.l.length ca) ∧ W.cell? ⟨w.heap.size + 1, 0, none⟩ = some (.int .u8 b.k) ∧ W.cell? ⟨w.heap.size + 1, 1, none⟩ = some (.string b.s) ∧ W.cell? ⟨w.heap.size + 1, 2, none⟩ = some (.int .i64 b.n) ∧ W.cell? ⟨w.heap.size + 1, 3, none⟩ = some (.slice B b.l.length cb))) (by kernel_rfl) ?_ (fun hHeld => ?_)
      · have h := h.drew; exact ⟨(h.bt 0 rfl).cells.1, (h.bt 0 rfl).cells.2.1, (h.bt 0 rfl).cells.2.2.1, (h.bt 0 rfl).cells.2.2.2, (h.bt 1 rfl).cells.1, (h.bt 1 rfl).cells.2.1, (h.bt 1 rfl).cells.2.2.1, (h.bt 1 rfl).cells.2.2.2⟩
      change wpAnyH _ .any _ _ _ 11 (Array.replicate 11 false) _ _
      refine wpAnyH_take (i := 1) (oi := ⟨some 66, _, _, _, _, _⟩) (v := ?_) rfl (by kernel_rfl) (by kernel_rfl) (by kernel_rfl) (fun _ _ _ h => h) (Or.inl ⟨by rfl, ?_⟩) (by assumption) ?_
      rotate_left
      · (intro w hSw; (try dsimp only at hSw); go_simp; try (with_reducible rfl))
      (try simp only [Act.put, List.setIfInBounds_toArray, List.set_cons_zero, List.set_cons_succ])
      refine wpAnyH_take (i := 2) (oi := ⟨some 67, _, _, _, _, _⟩) (v := ?_) rfl (by kernel_rfl) (by kernel_rfl) (by kernel_rfl) (fun _ _ _ h => h) (Or.inl ⟨by rfl, ?_⟩) (by assumption) ?_
      rotate_left
      · (intro w hSw; (try dsimp only at hSw); go_simp; try (with_reducible rfl))
      (try simp only [Act.put, List.setIfInBounds_toArray, List.set_cons_zero, List.set_cons_succ])
      replace h := h.drew
      refine wpAnyH_ready (rs := [0]) (by kernel_rfl) (by simp) ?_
      refine AllReadyH.cons (o := ⟨some 65, _, _, _, _, _⟩) rfl (fun K hK => ?_) AllReadyH.nil
      go_simp
      go_at_call 19
      refine (New_c _ (fun _ => True)).mono ?_
      rintro e w5 ⟨⟨q, c, rfl, hn, -, -⟩, hb1⟩
      replace h := h.then hb1
      clear hb1
      go_wp2_with fail
      refine hK.out _ _ ⟨(h.bt 0 rfl).cells.1, (h.bt 0 rfl).cells.2.1, (h.bt 0 rfl).cells.2.2.1, (h.bt 0 rfl).cells.2.2.2, (h.bt 1 rfl).cells.1, (h.bt 1 rfl).cells.2.1, (h.bt 1 rfl).cells.2.2.1, (h.bt 1 rfl).cells.2.2.2⟩ (fun hHeld => ?_)
      clear hK K
      (try simp only [Act.put, List.setIfInBounds_toArray, List.set_cons_zero, List.set_cons_succ])
      refine wpAnyH_ready (rs := [3]) (by kernel_rfl) (by simp) ?_
      refine AllReadyH.cons (o := ⟨some 68, _, _, _, _, _⟩) rfl (fun K hK => ?_) AllReadyH.nil
      go_simp
      go_at_call 18
      refine (HU.out _ _ _ (h.bt 0 rfl).args (h.bt 1 rfl).args hn).mono ?_
      clear HU hn
      rintro e w6 ⟨rfl, hb1⟩
      replace h := h.then hb1
      clear hb1
      go_wp2_with fail
      refine hK.out _ _ ⟨(h.bt 0 rfl).cells.1, (h.bt 0 rfl).cells.2.1, (h.bt 0 rfl).cells.2.2.1, (h.bt 0 rfl).cells.2.2.2, (h.bt 1 rfl).cells.1, (h.bt 1 rfl).cells.2.1, (h.bt 1 rfl).cells.2.2.1, (h.bt 1 rfl).cells.2.2.2⟩ (fun hHeld => ?_)
      clear hK K
      (try simp only [Act.put, List.setIfInBounds_toArray, List.set_cons_zero, List.set_cons_succ])
      refine wpAnyH_take (i := 4) (oi := ⟨some 64, _, _, _, _, _⟩) (v := ?_) rfl (by kernel_rfl) (by kernel_rfl) (by kernel_rfl) (fun _ _ _ h => h) (Or.inl ⟨by rfl, ?_⟩) (by assumption) ?_
      rotate_left
      · (intro w hSw; (try dsimp only at hSw); go_simp; try (with_reducible rfl))
      (try simp only [Act.put, List.setIfInBounds_toArray, List.set_cons_zero, List.set_cons_succ])
      refine wpAnyH_take (i := 5) (oi := ⟨some 69, _, _, _, _, _⟩) (v := ?_) rfl (by kernel_rfl) (by kernel_rfl) (by kernel_rfl) (fun _ _ _ h => h) (Or.inl ⟨by rfl, ?_⟩) (by assumption) ?_
      rotate_left
      · (intro w hSw; (try dsimp only at hSw); go_simp; try (with_reducible rfl))
      (try simp only [Act.put, List.setIfInBounds_toArray, List.set_cons_zero, List.set_cons_succ])
      refine wpAnyH_take (i := 6) (oi := ⟨some 70, _, _, _, _, _⟩) (v := ?_) rfl (by kernel_rfl) (by kernel_rfl) (by kernel_rfl) (fun _ _ _ h => h) (Or.inl ⟨by rfl, ?_⟩) (by assumption) ?_
      rotate_left
      · (intro w hSw; (try dsimp only at hSw); go_simp; try (with_reducible rfl))
      (try simp only [Act.put, List.setIfInBounds_toArray, List.set_cons_zero, List.set_cons_succ])
      refine wpAnyH_take (i := 7) (oi := ⟨some 71, _, _, _, _, _⟩) (v := ?_) rfl (by kernel_rfl) (by kernel_rfl) (by kernel_rfl) (fun _ _ _ h => h) (Or.inl ⟨by rfl, ?_⟩) (by assumption) ?_
      rotate_left
      · (intro w hSw; (try dsimp only at hSw); go_simp; try (with_reducible rfl))
      (try simp only [Act.put, List.setIfInBounds_toArray, List.set_cons_zero, List.set_cons_succ])
      refine wpAnyH_take (i := 8) (oi := ⟨some 8, _, _, _, _, _⟩) (v := ?_) rfl (by kernel_rfl) (by kernel_rfl) (by kernel_rfl) (fun _ _ _ h => h) (Or.inl ⟨by rfl, ?_⟩) (by assumption) ?_
      rotate_left
      · (intro w hSw; (try dsimp only at hSw); go_simp; try (with_reducible rfl))
      (try simp only [Act.put, List.setIfInBounds_toArray, List.set_cons_zero, List.set_cons_succ])
      refine wpAnyH_take (i := 9) (oi := ⟨some 9, _, _, _, _, _⟩) (v := ?_) rfl (by kernel_rfl) (by kernel_rfl) (by kernel_rfl) (fun _ _ _ h => h) (Or.inl ⟨by rfl, ?_⟩) (by assumption) ?_
      rotate_left
      · (intro w hSw; (try dsimp only at hSw); go_simp; try (with_reducible rfl))
      (try simp only [Act.put, List.setIfInBounds_toArray, List.set_cons_zero, List.set_cons_succ])
      refine wpAnyH_take (i := 10) (oi := ⟨some 10, _, _, _, _, _⟩) (v := ?_) rfl (by kernel_rfl) (by kernel_rfl) (by kernel_rfl) (fun _ _ _ h => h) (Or.inl ⟨by rfl, ?_⟩) (by assumption) ?_
      rotate_left
      · (intro w hSw; (try dsimp only at hSw); go_simp; try (with_reducible rfl))
      (try simp only [Act.put, List.setIfInBounds_toArray, List.set_cons_zero, List.set_cons_succ])
      refine wpAnyH_done (by kernel_rfl) ?_ _
      rcases hS with ⟨rfl, rfl⟩ | rfl | ⟨rfl, rfl⟩
      all_goals
        go_wp2_with (first
          | (go_at_call 29; refine (HMK.out _ (h.bds 2 rfl)).mono ?_; clear HMK; rintro e w8 ⟨⟨p, b0, r, rfl, hs⟩, hb1⟩; replace h := (h.then hb1).snoc (.sub had p b0) hs; clear hb1 hs; obtain ⟨c0, c1, c2, c3⟩ := (h.bt 0 rfl).cells; obtain ⟨d0, d1, d2, d3⟩ := (h.bt 1 rfl).cells)
          | (go_at_call 24; refine (HAA.out _ _ _ (h.sub 3 rfl) (h.bt 0 rfl).args).mono ?_; clear HAA; rintro e w10 ⟨⟨u, rfl, uu, rfl, hu⟩, hb1⟩; obtain ⟨A5, cA5, rfl⟩ := hu.form; replace h := ((h.then hb1).alloc (.cells #[.int .u8 X1.k, .string X1.s, .int .i64 X1.n, .slice A5 X1.l.length cA5] 24)).snoc (.bt _ X1 _) (Bt.new hu); clear hb1 hu; clear c0 c1 c2 c3 d0 d1 d2 d3; obtain ⟨c0, c1, c2, c3⟩ := (h.bt 0 rfl).cells; obtain ⟨d0, d1, d2, d3⟩ := (h.bt 1 rfl).cells)
          | (go_at_call 24; refine (HAB.out _ _ _ (h.sub 3 rfl) (h.bt 1 rfl).args).mono ?_; clear HAB; rintro e w11 ⟨⟨u, rfl, uu, rfl, hu⟩, hb1⟩; obtain ⟨A6, cA6, rfl⟩ := hu.form; replace h := ((h.then hb1).alloc (.cells #[.int .u8 X2.k, .string X2.s, .int .i64 X2.n, .slice A6 X2.l.length cA6] 24)).snoc (.bt _ X2 _) (Bt.new hu); clear hb1 hu; clear c0 c1 c2 c3 d0 d1 d2 d3; obtain ⟨c0, c1, c2, c3⟩ := (h.bt 0 rfl).cells; obtain ⟨d0, d1, d2, d3⟩ := (h.bt 1 rfl).cells; obtain ⟨e0, e1, e2, e3⟩ := (h.bt 4 rfl).cells; obtain ⟨f0, f1, f2, f3⟩ := (h.bt 5 rfl).cells)
          | (go_at_call_has 26 (Value.agg #[.int .u8 X1.k, .string X1.s, .int .i64 X1.n, .slice A5 X1.l.length cA5]); refine (HSM.out _ _ _ (h.bt 4 rfl).tmv (h.bt 5 rfl).tmv).mono ?_; clear HSM; rintro e w7 ⟨rfl, hb1⟩; replace h := h.then hb1; clear hb1 e0 e1 e2 e3 f0 f1 f2 f3; clear c0 c1 c2 c3 d0 d1 d2 d3; obtain ⟨c0, c1, c2, c3⟩ := (h.bt 0 rfl).cells; obtain ⟨d0, d1, d2, d3⟩ := (h.bt 1 rfl).cells)
          | (go_at_call 17; refine (wakes04_c _).mono ?_; rintro e w9 ⟨rfl, hb9⟩))
        go_ret
        exact ⟨rfl, below_then h.b0 h.b0.size hb9⟩
set_option maxRecDepth 100000 in
set_option maxHeartbeats 16000000 in
theorem mw_no {w : World} {l : Bs} {Al : Option Addr} {cl : Nat} {a b : Tm} {A B : Option Addr} {ca cb : Nat} {had : Bs} {E1 E2 : Int} {X1 X2 : Tm} {al : Bool}
    (HK : Hid (Fk w [.bt w.heap.size a (.slice A a.l.length ca), .bt (w.heap.size + 1) b (.slice B b.l.length cb), .bds l (.slice Al l.length cl)] ((w.alloc (.cells #[.int .u8 a.k, .string a.s, .int .i64 a.n, .slice A a.l.length ca] 24)).alloc (.cells #[.int .u8 b.k, .string b.s, .int .i64 b.n, .slice B b.l.length cb] 24))))
    (HG3 : Hid (∀ W, Kd.bd.S W (fun _ => True) l (.slice Al l.length cl) → Kd.tm.S W (fun _ => True) a.l (.slice A a.l.length ca) → Calls Try.prog 28 #[.slice Al l.length cl, .agg #[.int .u8 a.k, .string a.s, .int .i64 a.n, .slice A a.l.length ca]] W fun e w' => e = .returned (.bool false) ∧ Below W.heap.size W w'))
    (HG : Hid (∀ W B', Kd.tm.S W (fun _ => True) [b] (.slice (some ⟨B', 0, none⟩) 1 1) → Calls Try.prog 15 #[.slice (some ⟨B', 0, none⟩) 1 1] W fun e w' => e = .returned (.bool false) ∧ Below W.heap.size W w'))
    (HDA : Hid (∀ W, Kd.tm.S W (fun _ => True) a.l (.slice A a.l.length ca) → Calls Try.prog 16 #[.agg #[.int .u8 a.k, .string a.s, .int .i64 a.n, .slice A a.l.length ca]] W fun e w' => e = .returned (.bool true) ∧ Below W.heap.size W w'))
    (HDB : Hid (∀ W, Kd.tm.S W (fun _ => True) b.l (.slice B b.l.length cb) → Calls Try.prog 16 #[.agg #[.int .u8 b.k, .string b.s, .int .i64 b.n, .slice B b.l.length cb]] W fun e w' => e = .returned (.bool true) ∧ Below W.heap.size W w'))
    (HLL : Hid (l.length ≤ 40))
    (HDL : Hid (∀ q ∈ l, ∀ W u, Kd.tm.S W (fun _ => True) q.2.l u → Calls Try.prog 16 #[.agg #[.int .u8 q.2.k, .string q.2.s, .int .i64 q.2.n, u]] W fun e w' => e = .returned (.bool q.2.good) ∧ Below W.heap.size W w'))
    (HMK : Hid (∀ W, Kd.bd.S W (fun _ => True) l (.slice Al l.length cl) → Calls Try.prog 29 #[.slice Al l.length cl] W fun e w' => (∃ p b r, e = .returned (.tuple #[.pointer (some ⟨p, 0, none⟩), r, .bool true]) ∧ Sub w' (fun _ => True) had p b) ∧ Below W.heap.size W w'))
    (HAA : Hid (∀ W p b, Sub W (fun _ => True) had p b → Kd.tm.S W (fun _ => True) a.l (.slice A a.l.length ca) → Calls Try.prog 24 #[.pointer (some ⟨p, 0, none⟩), .agg #[.int .u8 a.k, .string a.s, .int .i64 a.n, .slice A a.l.length ca]] W fun e w' => (∃ u, e = .returned (.tuple #[u, .int .i64 E1]) ∧ TmV w' (fun _ => True) X1 u) ∧ Below W.heap.size W w'))
    (HAB : Hid (∀ W p c, Sub W (fun _ => True) had p c → Kd.tm.S W (fun _ => True) b.l (.slice B b.l.length cb) → Calls Try.prog 24 #[.pointer (some ⟨p, 0, none⟩), .agg #[.int .u8 b.k, .string b.s, .int .i64 b.n, .slice B b.l.length cb]] W fun e w' => (∃ u, e = .returned (.tuple #[u, .int .i64 E2]) ∧ TmV w' (fun _ => True) X2 u) ∧ Below W.heap.size W w'))
    (HSM : Hid (∀ W v v', TmV W (fun _ => True) X1 v → TmV W (fun _ => True) X2 v' → Calls Try.prog 26 #[v, v'] W fun e w' => e = .returned (.bool al) ∧ Below W.heap.size W w'))
    (HU : (∀ q ∈ l, q.2.good = true) → Hid (∀ W q c, Kd.tm.S W (fun _ => True) a.l (.slice A a.l.length ca) → Kd.tm.S W (fun _ => True) b.l (.slice B b.l.length cb) → Sub W (fun _ => True) [] q c → Calls Try.prog 18 #[.pointer (some ⟨q, 0, none⟩), .agg #[.int .u8 a.k, .string a.s, .int .i64 a.n, .slice A a.l.length ca], .agg #[.int .u8 b.k, .string b.s, .int .i64 b.n, .slice B b.l.length cb]] W fun e w' => e = .returned (.tuple #[.pointer none, .bool false, .int .i64 0]) ∧ Below W.heap.size W w'))
    (hS : (E1 = 0 ∧ E2 = 0 ∧ al = false) ∨ E1 = 31 ∨ (E1 = 0 ∧ E2 = 31))
    :
    Calls Try.prog 6 #[.slice Al l.length cl, .agg #[.int .u8 a.k, .string a.s, .int .i64 a.n, .slice A a.l.length ca], .agg #[.int .u8 b.k, .string b.s, .int .i64 b.n, .slice B b.l.length cb]] w fun e w' => e = .returned (.bool true) ∧ Below w.heap.size w w' := by
  have hll := HLL.out
  clear HLL
  go_enter Try.func6, Try.ntmps6
  go_wp2_with (first
    | (go_at_call 28; refine (HG3.out _ (HK.out.bds 2 rfl) (HK.out.bt 0 rfl).args).mono ?_; clear HG3; rintro e w1 ⟨rfl, hb1⟩; have h := HK.out.then hb1; clear hb1 HK; obtain ⟨c0, c1, c2, c3⟩ := (h.bt 0 rfl).cells; obtain ⟨d0, d1, d2, d3⟩ := (h.bt 1 rfl).cells)
    | (go_at_call 15; refine (HG.out _ _ (lit1_at (heap_new w1 (.cells #[.int .u8 b.k, .string b.s, .int .i64 b.n, .slice B b.l.length cb] 24)) ((h.alloc _).bt 1 rfl).args)).mono ?_; clear HG; rintro e w2 ⟨rfl, hb1⟩; replace h := (h.alloc _).then hb1; clear hb1; clear c0 c1 c2 c3 d0 d1 d2 d3; obtain ⟨c0, c1, c2, c3⟩ := (h.bt 0 rfl).cells; obtain ⟨d0, d1, d2, d3⟩ := (h.bt 1 rfl).cells)
    | (go_at_call 16; refine (HDA.out _ (h.bt 0 rfl).args).mono ?_; clear HDA; rintro e w3 ⟨rfl, hb1⟩; replace h := h.then hb1; clear hb1; clear c0 c1 c2 c3 d0 d1 d2 d3; obtain ⟨c0, c1, c2, c3⟩ := (h.bt 0 rfl).cells; obtain ⟨d0, d1, d2, d3⟩ := (h.bt 1 rfl).cells)
    | (go_at_call 16; refine (HDB.out _ (h.bt 1 rfl).args).mono ?_; clear HDB; rintro e w4 ⟨rfl, hb1⟩; replace h := h.then hb1; clear hb1; clear c0 c1 c2 c3 d0 d1 d2 d3; obtain ⟨c0, c1, c2, c3⟩ := (h.bt 0 rfl).cells; obtain ⟨d0, d1, d2, d3⟩ := (h.bt 1 rfl).cells))
  go_loopw [7] (fun i wr => ∃ j : Nat, j ≤ l.length ∧ i = .int .i64 j ∧ (∀ q ∈ l.take j, q.2.good = true) ∧ Fk w [.bt w.heap.size a (.slice A a.l.length ca), .bt (w.heap.size + 1) b (.slice B b.l.length cb), .bds l (.slice Al l.length cl)] wr) (fun i _ => l.length - (intOf i).toNat)
  case atStart => exact ⟨0, Nat.zero_le _, rfl, (by simp), h⟩
  case round =>
    clear h c0 c1 c2 c3 d0 d1 d2 d3
    obtain ⟨j, hj, rfl, hall, h⟩ := hrel
    by_cases hlt : j < l.length
    · obtain ⟨All, cll, eA, -, -, hA⟩ := h.bds 2 rfl
      injection eA with eA1 eA2 eA3
      subst eA1
      clear eA2 eA3
      obtain ⟨bb, o, u, rfl, hokb, hlo, h0, h1, h2, h3, h4, h5⟩ := bd_elem hA hlt
      have hm := List.getElem_mem hlt
      have hall' : l[j].2.good = true → ∀ q ∈ l.take (j + 1), q.2.good = true := fun h q hq => by
        rw [take_succ_at l hlt, List.mem_append, List.mem_singleton] at hq
        exact hq.elim (hall q) (fun e => e ▸ h)
      have HALL := Lib.hid hall'
      have HQ := Lib.hid (HDL.out l[j] hm)
      obtain ⟨Au, cu, rfl⟩ := h5.form
      have hu := h5.mono (ok' := fun _ => True) (fun _ _ => trivial)
      clear hall hall' hA HU HDL HMK HAA HAB HSM h5 
      generalize l[j] = q at h0 h1 h2 h3 h4 hu HALL HQ
      obtain ⟨v, t⟩ := q
      simp only at h0 h1 h2 h3 h4 hu HALL HQ
      cases hg : t.good with
      | false =>
        rw [hg] at HQ
        clear HALL
        go_wp2_with (first
          | (go_at_call 16; refine (HQ.out _ _ hu).mono ?_; clear HQ; rintro e w5 ⟨rfl, hb1⟩; replace h := h.then hb1; clear hb1)
          | (go_at_call 17; refine (wakes04_c _).mono ?_; rintro e w9 ⟨rfl, hb9⟩))
        go_ret
        exact ⟨rfl, below_then h.b0 h.b0.size hb9⟩
      | true =>
        rw [hg] at HQ
        go_wp2_with (go_at_call 16; refine (HQ.out _ _ hu).mono ?_; clear HQ; rintro e w5 ⟨rfl, hb1⟩; replace h := h.then hb1; clear hb1)
        go_roundw
        case rel => exact ⟨j + 1, by omega, by go_num, HALL.out hg, h⟩
        case measure => simp [intOf]; omega
    · have hjl : j = l.length := by omega
      subst hjl
      rw [List.take_length] at hall
      replace HU := HU hall
      clear hall hlt hj HDL
      go_wp2
      refine wp_region_held_drew (S := (fun W => W.cell? ⟨w.heap.size, 0, none⟩ = some (.int .u8 a.k) ∧ W.cell? ⟨w.heap.size, 1, none⟩ = some (.string a.s) ∧ W.cell? ⟨w.heap.size, 2, none⟩ = some (.int .i64 a.n) ∧ W.cell? ⟨w.heap.size, 3, none⟩ = some (.slice A a.l.length ca) ∧ W.cell? ⟨w.heap.size + 1, 0, none⟩ = some (.int .u8 b.k) ∧ W.cell? ⟨w.heap.size + 1, 1, none⟩ = some (.string b.s) ∧ W.cell? ⟨w.heap.size + 1, 2, none⟩ = some (.int .i64 b.n) ∧ W.cell? ⟨w.heap.size + 1, 3, none⟩ = some (.slice B b.l.length cb))) (by kernel_rfl) ?_ (fun hHeld => ?_)
      · have h := h.drew; exact ⟨(h.bt 0 rfl).cells.1, (h.bt 0 rfl).cells.2.1, (h.bt 0 rfl).cells.2.2.1, (h.bt 0 rfl).cells.2.2.2, (h.bt 1 rfl).cells.1, (h.bt 1 rfl).cells.2.1, (h.bt 1 rfl).cells.2.2.1, (h.bt 1 rfl).cells.2.2.2⟩
      change wpAnyH _ .any _ _ _ 11 (Array.replicate 11 false) _ _
      refine wpAnyH_take (i := 1) (oi := ⟨some 66, _, _, _, _, _⟩) (v := ?_) rfl (by kernel_rfl) (by kernel_rfl) (by kernel_rfl) (fun _ _ _ h => h) (Or.inl ⟨by rfl, ?_⟩) (by assumption) ?_
      rotate_left
      · (intro w hSw; (try dsimp only at hSw); go_simp; try (with_reducible rfl))
      (try simp only [Act.put, List.setIfInBounds_toArray, List.set_cons_zero, List.set_cons_succ])
      refine wpAnyH_take (i := 2) (oi := ⟨some 67, _, _, _, _, _⟩) (v := ?_) rfl (by kernel_rfl) (by kernel_rfl) (by kernel_rfl) (fun _ _ _ h => h) (Or.inl ⟨by rfl, ?_⟩) (by assumption) ?_
      rotate_left
      · (intro w hSw; (try dsimp only at hSw); go_simp; try (with_reducible rfl))
      (try simp only [Act.put, List.setIfInBounds_toArray, List.set_cons_zero, List.set_cons_succ])
      replace h := h.drew
      refine wpAnyH_ready (rs := [0]) (by kernel_rfl) (by simp) ?_
      refine AllReadyH.cons (o := ⟨some 65, _, _, _, _, _⟩) rfl (fun K hK => ?_) AllReadyH.nil
      go_simp
      go_at_call 19
      refine (New_c _ (fun _ => True)).mono ?_
      rintro e w5 ⟨⟨q, c, rfl, hn, -, -⟩, hb1⟩
      replace h := h.then hb1
      clear hb1
      go_wp2_with fail
      refine hK.out _ _ ⟨(h.bt 0 rfl).cells.1, (h.bt 0 rfl).cells.2.1, (h.bt 0 rfl).cells.2.2.1, (h.bt 0 rfl).cells.2.2.2, (h.bt 1 rfl).cells.1, (h.bt 1 rfl).cells.2.1, (h.bt 1 rfl).cells.2.2.1, (h.bt 1 rfl).cells.2.2.2⟩ (fun hHeld => ?_)
      clear hK K
      (try simp only [Act.put, List.setIfInBounds_toArray, List.set_cons_zero, List.set_cons_succ])
      refine wpAnyH_ready (rs := [3]) (by kernel_rfl) (by simp) ?_
      refine AllReadyH.cons (o := ⟨some 68, _, _, _, _, _⟩) rfl (fun K hK => ?_) AllReadyH.nil
      go_simp
      go_at_call 18
      refine (HU.out _ _ _ (h.bt 0 rfl).args (h.bt 1 rfl).args hn).mono ?_
      clear HU hn
      rintro e w6 ⟨rfl, hb1⟩
      replace h := h.then hb1
      clear hb1
      go_wp2_with fail
      refine hK.out _ _ ⟨(h.bt 0 rfl).cells.1, (h.bt 0 rfl).cells.2.1, (h.bt 0 rfl).cells.2.2.1, (h.bt 0 rfl).cells.2.2.2, (h.bt 1 rfl).cells.1, (h.bt 1 rfl).cells.2.1, (h.bt 1 rfl).cells.2.2.1, (h.bt 1 rfl).cells.2.2.2⟩ (fun hHeld => ?_)
      clear hK K
      (try simp only [Act.put, List.setIfInBounds_toArray, List.set_cons_zero, List.set_cons_succ])
      refine wpAnyH_take (i := 4) (oi := ⟨some 64, _, _, _, _, _⟩) (v := ?_) rfl (by kernel_rfl) (by kernel_rfl) (by kernel_rfl) (fun _ _ _ h => h) (Or.inl ⟨by rfl, ?_⟩) (by assumption) ?_
      rotate_left
      · (intro w hSw; (try dsimp only at hSw); go_simp; try (with_reducible rfl))
      (try simp only [Act.put, List.setIfInBounds_toArray, List.set_cons_zero, List.set_cons_succ])
      refine wpAnyH_take (i := 5) (oi := ⟨some 69, _, _, _, _, _⟩) (v := ?_) rfl (by kernel_rfl) (by kernel_rfl) (by kernel_rfl) (fun _ _ _ h => h) (Or.inl ⟨by rfl, ?_⟩) (by assumption) ?_
      rotate_left
      · (intro w hSw; (try dsimp only at hSw); go_simp; try (with_reducible rfl))
      (try simp only [Act.put, List.setIfInBounds_toArray, List.set_cons_zero, List.set_cons_succ])
      refine wpAnyH_take (i := 6) (oi := ⟨some 70, _, _, _, _, _⟩) (v := ?_) rfl (by kernel_rfl) (by kernel_rfl) (by kernel_rfl) (fun _ _ _ h => h) (Or.inl ⟨by rfl, ?_⟩) (by assumption) ?_
      rotate_left
      · (intro w hSw; (try dsimp only at hSw); go_simp; try (with_reducible rfl))
      (try simp only [Act.put, List.setIfInBounds_toArray, List.set_cons_zero, List.set_cons_succ])
      refine wpAnyH_take (i := 7) (oi := ⟨some 71, _, _, _, _, _⟩) (v := ?_) rfl (by kernel_rfl) (by kernel_rfl) (by kernel_rfl) (fun _ _ _ h => h) (Or.inl ⟨by rfl, ?_⟩) (by assumption) ?_
      rotate_left
      · (intro w hSw; (try dsimp only at hSw); go_simp; try (with_reducible rfl))
      (try simp only [Act.put, List.setIfInBounds_toArray, List.set_cons_zero, List.set_cons_succ])
      refine wpAnyH_take (i := 8) (oi := ⟨some 8, _, _, _, _, _⟩) (v := ?_) rfl (by kernel_rfl) (by kernel_rfl) (by kernel_rfl) (fun _ _ _ h => h) (Or.inl ⟨by rfl, ?_⟩) (by assumption) ?_
      rotate_left
      · (intro w hSw; (try dsimp only at hSw); go_simp; try (with_reducible rfl))
      (try simp only [Act.put, List.setIfInBounds_toArray, List.set_cons_zero, List.set_cons_succ])
      refine wpAnyH_take (i := 9) (oi := ⟨some 9, _, _, _, _, _⟩) (v := ?_) rfl (by kernel_rfl) (by kernel_rfl) (by kernel_rfl) (fun _ _ _ h => h) (Or.inl ⟨by rfl, ?_⟩) (by assumption) ?_
      rotate_left
      · (intro w hSw; (try dsimp only at hSw); go_simp; try (with_reducible rfl))
      (try simp only [Act.put, List.setIfInBounds_toArray, List.set_cons_zero, List.set_cons_succ])
      refine wpAnyH_take (i := 10) (oi := ⟨some 10, _, _, _, _, _⟩) (v := ?_) rfl (by kernel_rfl) (by kernel_rfl) (by kernel_rfl) (fun _ _ _ h => h) (Or.inl ⟨by rfl, ?_⟩) (by assumption) ?_
      rotate_left
      · (intro w hSw; (try dsimp only at hSw); go_simp; try (with_reducible rfl))
      (try simp only [Act.put, List.setIfInBounds_toArray, List.set_cons_zero, List.set_cons_succ])
      refine wpAnyH_done (by kernel_rfl) ?_ _
      rcases hS with ⟨rfl, rfl, rfl⟩ | rfl | ⟨rfl, rfl⟩
      all_goals
        go_wp2_with (first
          | (go_at_call 29; refine (HMK.out _ (h.bds 2 rfl)).mono ?_; clear HMK; rintro e w8 ⟨⟨p, b0, r, rfl, hs⟩, hb1⟩; replace h := (h.then hb1).snoc (.sub had p b0) hs; clear hb1 hs; obtain ⟨c0, c1, c2, c3⟩ := (h.bt 0 rfl).cells; obtain ⟨d0, d1, d2, d3⟩ := (h.bt 1 rfl).cells)
          | (go_at_call 24; refine (HAA.out _ _ _ (h.sub 3 rfl) (h.bt 0 rfl).args).mono ?_; clear HAA; rintro e w10 ⟨⟨u, rfl, uu, rfl, hu⟩, hb1⟩; obtain ⟨A5, cA5, rfl⟩ := hu.form; replace h := ((h.then hb1).alloc (.cells #[.int .u8 X1.k, .string X1.s, .int .i64 X1.n, .slice A5 X1.l.length cA5] 24)).snoc (.bt _ X1 _) (Bt.new hu); clear hb1 hu; clear c0 c1 c2 c3 d0 d1 d2 d3; obtain ⟨c0, c1, c2, c3⟩ := (h.bt 0 rfl).cells; obtain ⟨d0, d1, d2, d3⟩ := (h.bt 1 rfl).cells)
          | (go_at_call 24; refine (HAB.out _ _ _ (h.sub 3 rfl) (h.bt 1 rfl).args).mono ?_; clear HAB; rintro e w11 ⟨⟨u, rfl, uu, rfl, hu⟩, hb1⟩; obtain ⟨A6, cA6, rfl⟩ := hu.form; replace h := ((h.then hb1).alloc (.cells #[.int .u8 X2.k, .string X2.s, .int .i64 X2.n, .slice A6 X2.l.length cA6] 24)).snoc (.bt _ X2 _) (Bt.new hu); clear hb1 hu; clear c0 c1 c2 c3 d0 d1 d2 d3; obtain ⟨c0, c1, c2, c3⟩ := (h.bt 0 rfl).cells; obtain ⟨d0, d1, d2, d3⟩ := (h.bt 1 rfl).cells; obtain ⟨e0, e1, e2, e3⟩ := (h.bt 4 rfl).cells; obtain ⟨f0, f1, f2, f3⟩ := (h.bt 5 rfl).cells)
          | (go_at_call_has 26 (Value.agg #[.int .u8 X1.k, .string X1.s, .int .i64 X1.n, .slice A5 X1.l.length cA5]); refine (HSM.out _ _ _ (h.bt 4 rfl).tmv (h.bt 5 rfl).tmv).mono ?_; clear HSM; rintro e w7 ⟨rfl, hb1⟩; replace h := h.then hb1; clear hb1 e0 e1 e2 e3 f0 f1 f2 f3; clear c0 c1 c2 c3 d0 d1 d2 d3; obtain ⟨c0, c1, c2, c3⟩ := (h.bt 0 rfl).cells; obtain ⟨d0, d1, d2, d3⟩ := (h.bt 1 rfl).cells)
          | (go_at_call 17; refine (wakes04_c _).mono ?_; rintro e w9 ⟨rfl, hb9⟩))
        go_ret
        exact ⟨rfl, below_then h.b0 h.b0.size hb9⟩
end Go.Proofs.Ytdflckjnpgbjlaa

/- The law ArithRing, walked. Conditions: numbers of 64 bits. -/
import Derived.Test.YtdflckjnpgbjlaaY8
import Derived.Deep.DeepCutAuto
set_option linter.unusedVariables false
set_option maxRecDepth 20000
set_option linter.unusedSimpArgs false
namespace Go.Proofs.Ytdflckjnpgbjlaa
open Go.RowKit

theorem fit_cases (x : Int) : (fitR x).err = 0 ∧ (fitR x).val = x ∧ in64 x ∨ (fitR x).err = 22 ∧ (fitR x).val = 0 ∧ ¬ in64 x := by
  by_cases h : in64 x
  · left; rw [fitR_in h]; exact ⟨rfl, rfl, h⟩
  · right; rw [fitR_out h]; exact ⟨rfl, rfl, h⟩
theorem in64_zero : in64 0 := by decide
theorem val_in (x : Int) : in64 (fitR x).val := by
  rcases fit_cases x with ⟨_, h, h2⟩ | ⟨_, h, _⟩ <;> rw [h]
  · exact h2
  · exact in64_zero
theorem quo_rest {a b : Int} (ha : in64 a) : in64 (a.tdiv b * b) := by
  have h1 := Int.mul_tdiv_add_tmod a b
  have h2 : (a.tmod b).natAbs ≤ a.natAbs := by rw [Int.natAbs_tmod]; exact Nat.mod_le _ _
  have h4 : (a.tdiv b * b).natAbs ≤ a.natAbs := by
    rw [Int.natAbs_mul, Int.natAbs_tdiv]
    exact Nat.div_mul_le_self _ _
  have h5 : a.tmod b = 0 ∨ (a.tmod b < 0 ↔ a < 0) := by
    by_cases h : a.tmod b = 0
    · exact .inl h
    · exact .inr (by rw [tmod_sign h])
  rw [Int.mul_comm] at h1
  unfold in64 at *
  omega
theorem mod_diff {a b : Int} : modI a b - a.tmod b = 0 ∨ modI a b - a.tmod b = b := by
  unfold modI
  split <;> omega
theorem mod_sign {a b : Int} (hb : b ≠ 0) (h : modI a b ≠ 0) : decide (modI a b < 0) = decide (b < 0) := by
  have h1 : (a.tmod b).natAbs < b.natAbs := by rw [Int.natAbs_tmod]; exact Nat.mod_lt _ (by omega)
  unfold modI at h ⊢
  split
  · rename_i hc
    rw [if_pos hc] at h
    obtain ⟨h2, h3⟩ := hc
    by_cases h4 : a.tmod b < 0 <;> by_cases h5 : b < 0 <;> simp [h4, h5] at h3 ⊢ <;> omega
  · rename_i hc
    rw [if_neg hc] at h
    by_cases h4 : a.tmod b < 0 <;> by_cases h5 : b < 0 <;> simp [h4, h5, h] at hc ⊢
theorem quo_cases {a b u ue : Int} (ha : in64 a) (g1 : (fitR (a.tdiv b)).val = u) (g2 : (fitR (a.tdiv b)).err = ue) : (ue = 0 ∧ u = a.tdiv b ∧ ¬ (a = -9223372036854775808 ∧ b = -1)) ∨ (ue = 22 ∧ a = -9223372036854775808 ∧ b = -1) := by
  rcases fit_cases (a.tdiv b) with ⟨h1, h2, h3⟩ | ⟨h1, h2, h3⟩
  · left
    refine ⟨g2.symm.trans h1, g1.symm.trans h2, fun h => ?_⟩
    rw [h.1, h.2, tdiv_min] at h3
    unfold in64 at h3
    omega
  · right
    refine ⟨g2.symm.trans h1, ?_⟩
    exact Decidable.byContradiction (fun h => h3 (tdiv_in ha h))
theorem rem_cases {a b r : Int} (g : a.tmod b = r) : ((r == 0) = true) ∨ ((r == 0) = false ∧ (r < 0) = (a < 0)) := by
  by_cases h : r = 0
  · left; simpa using h
  · right
    exact ⟨by simpa using h, by rw [← g]; exact tmod_sign (by rw [g]; exact h)⟩
theorem mod_cases {a b m : Int} (hz : b ≠ 0) (g : modI a b = m) : ((m == 0) = true) ∨ ((m == 0) = false ∧ (m < 0) = (b < 0)) := by
  by_cases h : m = 0
  · left; simpa using h
  · right
    have h1 : decide (m < 0) = decide (b < 0) := by rw [← g]; exact mod_sign hz (by rw [g]; exact h)
    exact ⟨by simpa using h, by simpa using h1⟩
theorem less_cases {b q : Int} (h : q = 0 ∨ q = b) : ((q == 0) = true) ∨ ((q == 0) = false ∧ (q == b) = true) := by
  by_cases h0 : q = 0
  · left; simpa using h0
  · right; exact ⟨by simpa using h0, by simpa using h.resolve_left h0⟩
theorem back_cases {a b u r k ke d de : Int} (ha : in64 a) (h1 : u = a.tdiv b) (hr : a.tmod b = r) (k1 : (fitR (u * b)).val = k) (k2 : (fitR (u * b)).err = ke) (d1 : (fitR (k + r)).val = d) (d2 : (fitR (k + r)).err = de) : ke = 0 ∧ de = 0 ∧ d = a := by
  have h2 := quo_rest (b := b) ha
  rw [← h1] at h2
  rw [fitR_in h2] at k1 k2
  have h5 : k = u * b := k1.symm
  have h6 : k + r = a := by rw [h5, h1, ← hr, Int.mul_comm]; exact Int.mul_tdiv_add_tmod a b
  rw [h6, fitR_in ha] at d1 d2
  exact ⟨k2.symm, d2.symm, d1.symm⟩
/-- The code from a region on. -/
def begR (n : Nat) : Code → Bool
  | .region i _ _ => i == n
  | .seq a _ => begR n a
  | _ => false
def fromR (n : Nat) : Code → Code
  | .seq a b => if begR n a then .seq a b else fromR n b
  | c => c
noncomputable def Try.arTail : Code := fromR 29 ((Try.f10.body).getD .skip)
set_option maxRecDepth 100000 in
set_option maxHeartbeats 16000000 in
theorem ar_tail (a b r m ls : Int) (w0 w : World) (hb0 : Below w0.heap.size w0 w)
    (T6 : Hid (∀ W, Calls Try.prog 42 #[.string ⟨#[45]⟩, .int .i64 m, .int .i64 r] W fun e' w' => e' = .returned (.tuple #[.int .i64 ls, .int .i64 0]) ∧ Below W.heap.size W w'))
    (HRC : Hid (((r == 0) = true) ∨ ((r == 0) = false ∧ (r < 0) = (a < 0)))) (HMC : Hid (((m == 0) = true) ∨ ((m == 0) = false ∧ (m < 0) = (b < 0)))) (HLC : Hid (((ls == 0) = true) ∨ ((ls == 0) = false ∧ (ls == b) = true)))
    {u2 u3 u4 u5 u6 u7 u8 u9 u10 u11 u12 u13 u14 u15 u16 u17 u18 u19 u20 u21 u22 u23 u24 u25 u26 u28 u30 u31 u32 u33 u34 u35 u36 u37 u38 u39 u40 u41 u42 u43 u44 u45 u46 u47 u48 u49 u50 u51 u52 u53 u54 u55 u56 u57 u58 u59 u60 u61 u62 u63 u64 u65 u66 u67 u68 u69 u70 u71 u72 u73 u74 u75 u76 u77 u78 u79 u80 u81 u82 u83 u84 u85 u86 u87 u88 u89 u90 u91 u92 u93 u94 u95 u96 u97 u98 u99 u100 u101 u102 u103 u104 u105 u106 u107 u108 u109 u110 u111 u112 u113 u114 u115 u116 u117 u118 u119 u120 u121 u122 u123 u124 u125 u126 u127 u128 u129 u130 u131 u132 u133 u134 u135 u136 u137 u138 u139 u140 u141 u142 u143 u144 u145 u146 u147 u148 u149 u150 u151 u152 u153 u154 u155 u156 u157 u158 u159 u160 u161 u162 u163 u164 u165 u166 u167 u168 u169 u170 u171 u172 u173 u174 u175 u176 u177 u178 u179 u180 u181 u182 u183 u184 u185 u186 u187 u188 u189 u190 u191 u192 u193 u194 u195 u196 u197 u198 u199 u200 u201 u202 u203 u204 u205 u206 u207 u208 u209 u210 u211 u212 u213 u214 u215 u216 u217 u218 u219 u220 u221 u222 u223 u224 u225 u226 u227 u228 u229 u230 u231 u232 u233 u234 u235 u236 u237 u238 u239 u240 u241 u242 u243 u244 u245 u246 u247 u248 u249 u250 u251 u252 u253 : Value} :
    Code.wp Try.prog Try.arTail (bodyPost Try.prog Try.f10 fun e w' => e = .returned (.bool true) ∧ Below w0.heap.size w0 w') ⟨#[.int .i64 a, .int .i64 b, u2, u3, u4, u5, u6, u7, u8, u9, u10, u11, u12, u13, u14, u15, u16, u17, u18, u19, u20, u21, u22, u23, u24, u25, u26, .int .i64 r, u28, .int .i64 m, u30, u31, u32, u33, u34, u35, u36, u37, u38, u39, u40, u41, u42, u43, u44, u45, u46, u47, u48, u49, u50, u51, u52, u53, u54, u55, u56, u57, u58, u59, u60, u61, u62, u63, u64, u65, u66, u67, u68, u69, u70, u71, u72, u73, u74, u75, u76, u77, u78, u79, u80, u81, u82, u83, u84, u85, u86, u87, u88, u89, u90, u91, u92, u93, u94, u95, u96, u97, u98, u99, u100, u101, u102, u103, u104, u105, u106, u107, u108, u109, u110, u111, u112, u113, u114, u115, u116, u117, u118, u119, u120, u121, u122, u123, u124, u125, u126, u127, u128, u129, u130, u131, u132, u133, u134, u135, u136, u137, u138, u139, u140, u141, u142, u143, u144, u145, u146, u147, u148, u149, u150, u151, u152, u153, u154, u155, u156, u157, u158, u159, u160, u161, u162, u163, u164, u165, u166, u167, u168, u169, u170, u171, u172, u173, u174, u175, u176, u177, u178, u179, u180, u181, u182, u183, u184, u185, u186, u187, u188, u189, u190, u191, u192, u193, u194, u195, u196, u197, u198, u199, u200, u201, u202, u203, u204, u205, u206, u207, u208, u209, u210, u211, u212, u213, u214, u215, u216, u217, u218, u219, u220, u221, u222, u223, u224, u225, u226, u227, u228, u229, u230, u231, u232, u233, u234, u235, u236, u237, u238, u239, u240, u241, u242, u243, u244, u245, u246, u247, u248, u249, u250, u251, u252, u253], []⟩ w := by
  have m6 : Hid (0 = 0) := Lib.hid rfl
  conv => arg 2; whnf
  go_upto_region 30 with (go_at_call 42; have hx := m6.out; clear hx m6; refine (T6.out _).mono ?_; clear T6; rintro e w1 ⟨rfl, hb⟩; replace hb0 := below_then hb0 hb0.size hb; clear hb)
  rcases HRC.out with h1 | ⟨h1, h2⟩ <;> rcases HMC.out with g1 | ⟨g1, g2⟩ <;> rcases HLC.out with f1 | ⟨f1, f2⟩
  all_goals
    go_wp2_with (go_at_call 43; refine (wakes13_c _).mono ?_; rintro e w1 ⟨rfl, hb⟩; replace hb0 := below_then hb0 hb0.size hb; clear hb)
    go_ret
    exact ⟨rfl, hb0⟩
noncomputable def Try.arHalf : Code := fromR 17 ((Try.f10.body).getD .skip)
set_option maxRecDepth 100000 in
set_option maxHeartbeats 16000000 in
theorem ar_half (a b : Int) (w w0 : World) (hb0 : Below w.heap.size w w0)
    (HT : Hid (∀ (s : ByteArray) (x y : Int) (v e : Int), isOp s = true → in64 x → in64 y → (opI s x y).val = v → (opI s x y).err = e → ∀ W, Calls Try.prog 42 #[.string s, .int .i64 x, .int .i64 y] W fun e' w' => e' = .returned (.tuple #[.int .i64 v, .int .i64 e]) ∧ Below W.heap.size W w'))
    (HA : Hid (in64 a)) (HB : Hid (in64 b))
    {u2 u3 u4 u5 u6 u7 u8 u9 u10 u11 u12 u13 u14 u15 u16 u17 u18 u19 u20 u21 u22 u23 u24 u25 u26 u27 u28 u29 u30 u31 u32 u33 u34 u35 u36 u37 u38 u39 u40 u41 u42 u43 u44 u45 u46 u47 u48 u49 u50 u51 u52 u53 u54 u55 u56 u57 u58 u59 u60 u61 u62 u63 u64 u65 u66 u67 u68 u69 u70 u71 u72 u73 u74 u75 u76 u77 u78 u79 u80 u81 u82 u83 u84 u85 u86 u87 u88 u89 u90 u91 u92 u93 u94 u95 u96 u97 u98 u99 u100 u101 u102 u103 u104 u105 u106 u107 u108 u109 u110 u111 u112 u113 u114 u115 u116 u117 u118 u119 u120 u121 u122 u123 u124 u125 u126 u127 u128 u129 u130 u131 u132 u133 u134 u135 u136 u137 u138 u139 u140 u141 u142 u143 u144 u145 u146 u147 u148 u149 u150 u151 u152 u153 u154 u155 u156 u157 u158 u159 u160 u161 u162 u163 u164 u165 u166 u167 u168 u169 u170 u171 u172 u173 u174 u175 u176 u177 u178 u179 u180 u181 u182 u183 u184 u185 u186 u187 u188 u189 u190 u191 u192 u193 u194 u195 u196 u197 u198 u199 u200 u201 u202 u203 u204 u205 u206 u207 u208 u209 u210 u211 u212 u213 u214 u215 u216 u217 u218 u219 u220 u221 u222 u223 u224 u225 u226 u227 u228 u229 u230 u231 u232 u233 u234 u235 u236 u237 u238 u239 u240 u241 u242 u243 u244 u245 u246 u247 u248 u249 u250 u251 u252 u253 : Value} :
    Code.wp Try.prog Try.arHalf (bodyPost Try.prog Try.f10 fun e w' => e = .returned (.bool true) ∧ Below w.heap.size w w') ⟨#[.int .i64 a, .int .i64 b, u2, u3, u4, u5, u6, u7, u8, u9, u10, u11, u12, u13, u14, u15, u16, u17, u18, u19, u20, u21, u22, u23, u24, u25, u26, u27, u28, u29, u30, u31, u32, u33, u34, u35, u36, u37, u38, u39, u40, u41, u42, u43, u44, u45, u46, u47, u48, u49, u50, u51, u52, u53, u54, u55, u56, u57, u58, u59, u60, u61, u62, u63, u64, u65, u66, u67, u68, u69, u70, u71, u72, u73, u74, u75, u76, u77, u78, u79, u80, u81, u82, u83, u84, u85, u86, u87, u88, u89, u90, u91, u92, u93, u94, u95, u96, u97, u98, u99, u100, u101, u102, u103, u104, u105, u106, u107, u108, u109, u110, u111, u112, u113, u114, u115, u116, u117, u118, u119, u120, u121, u122, u123, u124, u125, u126, u127, u128, u129, u130, u131, u132, u133, u134, u135, u136, u137, u138, u139, u140, u141, u142, u143, u144, u145, u146, u147, u148, u149, u150, u151, u152, u153, u154, u155, u156, u157, u158, u159, u160, u161, u162, u163, u164, u165, u166, u167, u168, u169, u170, u171, u172, u173, u174, u175, u176, u177, u178, u179, u180, u181, u182, u183, u184, u185, u186, u187, u188, u189, u190, u191, u192, u193, u194, u195, u196, u197, u198, u199, u200, u201, u202, u203, u204, u205, u206, u207, u208, u209, u210, u211, u212, u213, u214, u215, u216, u217, u218, u219, u220, u221, u222, u223, u224, u225, u226, u227, u228, u229, u230, u231, u232, u233, u234, u235, u236, u237, u238, u239, u240, u241, u242, u243, u244, u245, u246, u247, u248, u249, u250, u251, u252, u253], []⟩ w0 := by
  conv => arg 2; whnf
  have ha := HA.out
  have hb := HB.out
  have m1 : Hid (0 = 0) := Lib.hid rfl
  have m2 : Hid (0 = 0) := Lib.hid rfl
  have m3 : Hid (0 = 0) := Lib.hid rfl
  by_cases hz : b = 0
  · have q0 : (b == 0) = true := by simpa using hz
    have T1 : Hid (∀ W, Calls Try.prog 42 #[.string ⟨#[47, 47]⟩, .int .i64 a, .int .i64 b] W fun e' w' => e' = .returned (.tuple #[.int .i64 0, .int .i64 23]) ∧ Below W.heap.size W w') := Lib.hid (HT.out _ a b 0 23 (by decide) ha hb (by rw [show opI ⟨#[47, 47]⟩ a b = divR a b from rfl]; unfold divR; rw [if_pos hz]; rfl) (by rw [show opI ⟨#[47, 47]⟩ a b = divR a b from rfl]; unfold divR; rw [if_pos hz]; rfl))
    have T2 : Hid (∀ W, Calls Try.prog 42 #[.string ⟨#[114, 101, 109]⟩, .int .i64 a, .int .i64 b] W fun e' w' => e' = .returned (.tuple #[.int .i64 0, .int .i64 23]) ∧ Below W.heap.size W w') := Lib.hid (HT.out _ a b 0 23 (by decide) ha hb (by rw [show opI ⟨#[114, 101, 109]⟩ a b = remR a b from rfl]; unfold remR; rw [if_pos hz]; rfl) (by rw [show opI ⟨#[114, 101, 109]⟩ a b = remR a b from rfl]; unfold remR; rw [if_pos hz]; rfl))
    have T3 : Hid (∀ W, Calls Try.prog 42 #[.string ⟨#[109, 111, 100]⟩, .int .i64 a, .int .i64 b] W fun e' w' => e' = .returned (.tuple #[.int .i64 0, .int .i64 23]) ∧ Below W.heap.size W w') := Lib.hid (HT.out _ a b 0 23 (by decide) ha hb (by rw [show opI ⟨#[109, 111, 100]⟩ a b = modR a b from rfl]; unfold modR; rw [if_pos hz]; rfl) (by rw [show opI ⟨#[109, 111, 100]⟩ a b = modR a b from rfl]; unfold modR; rw [if_pos hz]; rfl))
    clear hz ha hb
    go_wp2_with (first
          | (go_at_call 42; have hx := m1.out; clear hx m1; refine (T1.out _).mono ?_; clear T1; rintro e w1 ⟨rfl, hb⟩; replace hb0 := below_then hb0 hb0.size hb; clear hb)
          | (go_at_call 42; have hx := m2.out; clear hx m2; refine (T2.out _).mono ?_; clear T2; rintro e w1 ⟨rfl, hb⟩; replace hb0 := below_then hb0 hb0.size hb; clear hb)
          | (go_at_call 42; have hx := m3.out; clear hx m3; refine (T3.out _).mono ?_; clear T3; rintro e w1 ⟨rfl, hb⟩; replace hb0 := below_then hb0 hb0.size hb; clear hb)
          | (go_at_call 43; refine (wakes13_c _).mono ?_; rintro e w1 ⟨rfl, hb⟩; replace hb0 := below_then hb0 hb0.size hb; clear hb))
    go_ret
    exact ⟨rfl, hb0⟩
  · have q0 : (b == 0) = false := by simpa using hz
    obtain ⟨r, HR⟩ : ∃ r, Hid (a.tmod b = r) := ⟨_, Lib.hid rfl⟩
    obtain ⟨m, HM⟩ : ∃ r, Hid (modI a b = r) := ⟨_, Lib.hid rfl⟩
    obtain ⟨u, ue, HU⟩ : ∃ s' e', Hid ((fitR (a.tdiv b)).val = s' ∧ (fitR (a.tdiv b)).err = e') := ⟨_, _, Lib.hid ⟨rfl, rfl⟩⟩
    have hri : in64 r := by rw [← HR.out]; exact tmod_in hb hz
    have hmi : in64 m := by rw [← HM.out]; exact modI_in ha hb hz
    have hui : in64 u := by rw [← HU.out.1]; exact val_in _
    obtain ⟨k, ke, HK⟩ : ∃ s' e', Hid ((fitR (u * b)).val = s' ∧ (fitR (u * b)).err = e') := ⟨_, _, Lib.hid ⟨rfl, rfl⟩⟩
    obtain ⟨d, de, HD⟩ : ∃ s' e', Hid ((fitR (k + r)).val = s' ∧ (fitR (k + r)).err = e') := ⟨_, _, Lib.hid ⟨rfl, rfl⟩⟩
    have hki : in64 k := by rw [← HK.out.1]; exact val_in _
    have hls : m - r = 0 ∨ m - r = b := by rw [← HM.out, ← HR.out]; exact mod_diff
    obtain ⟨ls, HLS⟩ : ∃ q, Hid (m - r = q) := ⟨_, Lib.hid rfl⟩
    have hlsi : in64 (m - r) := by rcases hls with h | h <;> rw [h]; exact in64_zero; exact hb
    have T1 : Hid (∀ W, Calls Try.prog 42 #[.string ⟨#[47, 47]⟩, .int .i64 a, .int .i64 b] W fun e' w' => e' = .returned (.tuple #[.int .i64 u, .int .i64 ue]) ∧ Below W.heap.size W w') := Lib.hid (HT.out _ a b u ue (by decide) ha hb (by rw [show opI ⟨#[47, 47]⟩ a b = divR a b from rfl]; unfold divR; rw [if_neg hz]; exact HU.out.1) (by rw [show opI ⟨#[47, 47]⟩ a b = divR a b from rfl]; unfold divR; rw [if_neg hz]; exact HU.out.2))
    have T2 : Hid (∀ W, Calls Try.prog 42 #[.string ⟨#[114, 101, 109]⟩, .int .i64 a, .int .i64 b] W fun e' w' => e' = .returned (.tuple #[.int .i64 r, .int .i64 0]) ∧ Below W.heap.size W w') := Lib.hid (HT.out _ a b r 0 (by decide) ha hb (by rw [show opI ⟨#[114, 101, 109]⟩ a b = remR a b from rfl]; unfold remR; rw [if_neg hz]; exact HR.out) (by rw [show opI ⟨#[114, 101, 109]⟩ a b = remR a b from rfl]; unfold remR; rw [if_neg hz]; rfl))
    have T3 : Hid (∀ W, Calls Try.prog 42 #[.string ⟨#[109, 111, 100]⟩, .int .i64 a, .int .i64 b] W fun e' w' => e' = .returned (.tuple #[.int .i64 m, .int .i64 0]) ∧ Below W.heap.size W w') := Lib.hid (HT.out _ a b m 0 (by decide) ha hb (by rw [show opI ⟨#[109, 111, 100]⟩ a b = modR a b from rfl]; unfold modR; rw [if_neg hz]; exact HM.out) (by rw [show opI ⟨#[109, 111, 100]⟩ a b = modR a b from rfl]; unfold modR; rw [if_neg hz]; rfl))
    have T4 : Hid (∀ W, Calls Try.prog 42 #[.string ⟨#[42]⟩, .int .i64 u, .int .i64 b] W fun e' w' => e' = .returned (.tuple #[.int .i64 k, .int .i64 ke]) ∧ Below W.heap.size W w') := Lib.hid (HT.out _ u b k ke (by decide) hui hb HK.out.1 HK.out.2)
    have T5 : Hid (∀ W, Calls Try.prog 42 #[.string ⟨#[43]⟩, .int .i64 k, .int .i64 r] W fun e' w' => e' = .returned (.tuple #[.int .i64 d, .int .i64 de]) ∧ Below W.heap.size W w') := Lib.hid (HT.out _ k r d de (by decide) hki hri HD.out.1 HD.out.2)
    have T6 : Hid (∀ W, Calls Try.prog 42 #[.string ⟨#[45]⟩, .int .i64 m, .int .i64 r] W fun e' w' => e' = .returned (.tuple #[.int .i64 ls, .int .i64 0]) ∧ Below W.heap.size W w') := Lib.hid (HT.out _ m r ls 0 (by decide) hmi hri (by rw [show opI ⟨#[45]⟩ m r = fitR (m - r) from rfl, fitR_in hlsi]; exact HLS.out) (by rw [show opI ⟨#[45]⟩ m r = fitR (m - r) from rfl, fitR_in hlsi]; rfl))
    have HUC := Lib.hid (quo_cases ha HU.out.1 HU.out.2)
    have HRC := Lib.hid (rem_cases HR.out)
    have HMC := Lib.hid (mod_cases hz HM.out)
    have HLC := Lib.hid (less_cases (b := b) (q := ls) (by rw [← HLS.out]; exact hls))
    have HDC : Hid (u = a.tdiv b → ke = 0 ∧ de = 0 ∧ d = a) := Lib.hid (fun h => back_cases ha h HR.out HK.out.1 HK.out.2 HD.out.1 HD.out.2)
    clear hri hmi hui hki hls hlsi hz ha hb
    have m4 : Hid (0 = 0) := Lib.hid rfl
    have m5 : Hid (0 = 0) := Lib.hid rfl
    go_upto_region 22 with (first
          | (go_at_call 42; have hx := m1.out; clear hx m1; refine (T1.out _).mono ?_; clear T1; rintro e w1 ⟨rfl, hb⟩; replace hb0 := below_then hb0 hb0.size hb; clear hb)
          | (go_at_call 42; have hx := m2.out; clear hx m2; refine (T2.out _).mono ?_; clear T2; rintro e w1 ⟨rfl, hb⟩; replace hb0 := below_then hb0 hb0.size hb; clear hb)
          | (go_at_call 42; have hx := m3.out; clear hx m3; refine (T3.out _).mono ?_; clear T3; rintro e w1 ⟨rfl, hb⟩; replace hb0 := below_then hb0 hb0.size hb; clear hb)
          | (go_at_call 43; refine (wakes13_c _).mono ?_; rintro e w1 ⟨rfl, hb⟩; replace hb0 := below_then hb0 hb0.size hb; clear hb))
    go_cut [186] (fun d wx => d = .bool false ∧ Below w.heap.size w wx)
    case first =>
      rcases HUC.out with ⟨h1, h2, h3⟩ | ⟨h1, h2, h3⟩
      · subst h1
        by_cases h4 : a = -9223372036854775808
        · have g1 : (a == -9223372036854775808) = true := by simpa using h4
          have g2 : (b == -1) = false := by simp; exact fun h => h3 ⟨h4, h⟩
          clear h2 h3 h4
          go_wp2
          go_meet
          case rel => exact ⟨rfl, hb0⟩
        · have g1 : (a == -9223372036854775808) = false := by simpa using h4
          clear h2 h3 h4
          go_wp2
          go_meet
          case rel => exact ⟨rfl, hb0⟩
      · subst h1
        have g1 : (a == -9223372036854775808) = true := by simpa using h2
        have g2 : (b == -1) = true := by simpa using h3
        clear h2 h3
        go_wp2
        go_meet
        case rel => exact ⟨rfl, hb0⟩
    case rest =>
      clear hb0
      obtain ⟨rfl, hb0⟩ := hcut
      go_upto_if 188 with fail
      go_cut [] (fun wx => Below w.heap.size w wx)
      case first =>
        rcases HUC.out with ⟨h1, h0, -⟩ | ⟨h1, -, -⟩
        · obtain ⟨h2, h3, h4⟩ := HDC.out h0
          clear h0
          rw [h2] at T4
          rw [h3, h4] at T5
          have g0 : (ue == 0) = true := by simpa using h1
          clear h1 h2 h3 h4
          go_wp2_with (first
          | (go_at_call 42; have hx := m4.out; clear hx m4; refine (T4.out _).mono ?_; clear T4; rintro e w1 ⟨rfl, hb⟩; replace hb0 := below_then hb0 hb0.size hb; clear hb)
          | (go_at_call 42; have hx := m5.out; clear hx m5; refine (T5.out _).mono ?_; clear T5; rintro e w1 ⟨rfl, hb⟩; replace hb0 := below_then hb0 hb0.size hb; clear hb))
          go_meet
          case rel => exact hb0
        · have g0 : (ue == 0) = false := by rw [h1]; rfl
          clear h1
          go_wp2
          go_meet
          case rel => exact hb0
      case rest =>
        have hK := (by assumption : ∀ (a' : Act) (w' : World), Code.wp _ _ _ a' w' → _)
        refine hK _ _ ?_
        exact ar_tail a b r m ls w wc hcut T6 HRC HMC HLC
set_option maxRecDepth 100000 in
set_option maxHeartbeats 16000000 in
theorem ArithRing_c (a b c : Int) (w : World) (ha : in64 a) (hb : in64 b) (hc : in64 c) :
    Calls Try.prog 10 #[.int .i64 a, .int .i64 b, .int .i64 c] w fun e w' => e = .returned (.bool true) ∧ Below w.heap.size w w' := by
  have HT : Hid (∀ (s : ByteArray) (x y : Int) (v e : Int), isOp s = true → in64 x → in64 y → (opI s x y).val = v → (opI s x y).err = e → ∀ W, Calls Try.prog 42 #[.string s, .int .i64 x, .int .i64 y] W fun e' w' => e' = .returned (.tuple #[.int .i64 v, .int .i64 e]) ∧ Below W.heap.size W w') := Lib.hid (fun s x y v e h1 h2 h3 h4 h5 W => by subst h4 h5; exact two_c s x y h1 h2 h3 W)
  obtain ⟨s, e, HSE⟩ : ∃ s e, Hid ((fitR (a + b)).val = s ∧ (fitR (a + b)).err = e) := ⟨_, _, Lib.hid ⟨rfl, rfl⟩⟩
  obtain ⟨p, pe, HPE⟩ : ∃ s e, Hid ((fitR (a * b)).val = s ∧ (fitR (a * b)).err = e) := ⟨_, _, Lib.hid ⟨rfl, rfl⟩⟩
  have T1 : Hid (∀ W, Calls Try.prog 42 #[.string ⟨#[43]⟩, .int .i64 a, .int .i64 b] W fun e' w' => e' = .returned (.tuple #[.int .i64 s, .int .i64 e]) ∧ Below W.heap.size W w') := Lib.hid (HT.out _ a b s e (by decide) ha hb HSE.out.1 HSE.out.2)
  have T2 : Hid (∀ W, Calls Try.prog 42 #[.string ⟨#[43]⟩, .int .i64 b, .int .i64 a] W fun e' w' => e' = .returned (.tuple #[.int .i64 s, .int .i64 e]) ∧ Below W.heap.size W w') := Lib.hid (HT.out _ b a s e (by decide) hb ha (by rw [show opI ⟨#[43]⟩ b a = fitR (b + a) from rfl, Int.add_comm]; exact HSE.out.1) (by rw [show opI ⟨#[43]⟩ b a = fitR (b + a) from rfl, Int.add_comm]; exact HSE.out.2))
  have T3 : Hid (∀ W, Calls Try.prog 42 #[.string ⟨#[42]⟩, .int .i64 a, .int .i64 b] W fun e' w' => e' = .returned (.tuple #[.int .i64 p, .int .i64 pe]) ∧ Below W.heap.size W w') := Lib.hid (HT.out _ a b p pe (by decide) ha hb HPE.out.1 HPE.out.2)
  have T4 : Hid (∀ W, Calls Try.prog 42 #[.string ⟨#[42]⟩, .int .i64 b, .int .i64 a] W fun e' w' => e' = .returned (.tuple #[.int .i64 p, .int .i64 pe]) ∧ Below W.heap.size W w') := Lib.hid (HT.out _ b a p pe (by decide) hb ha (by rw [show opI ⟨#[42]⟩ b a = fitR (b * a) from rfl, Int.mul_comm]; exact HPE.out.1) (by rw [show opI ⟨#[42]⟩ b a = fitR (b * a) from rfl, Int.mul_comm]; exact HPE.out.2))
  have HA := Lib.hid ha
  have HB := Lib.hid hb
  have HC := Lib.hid hc
  clear ha hb hc
  have m1 : Hid (0 = 0) := Lib.hid rfl
  have m2 : Hid (0 = 0) := Lib.hid rfl
  have m3 : Hid (0 = 0) := Lib.hid rfl
  have m4 : Hid (0 = 0) := Lib.hid rfl
  have hb0 := Below.refl w.heap.size w
  go_enter Try.func10, Try.ntmps10
  go_upto_if 80 with (first
          | (go_at_call 42; have hx := m1.out; clear hx m1; refine (T1.out _).mono ?_; clear T1; rintro e w1 ⟨rfl, hb⟩; replace hb0 := below_then hb0 hb0.size hb; clear hb)
          | (go_at_call 42; have hx := m2.out; clear hx m2; refine (T2.out _).mono ?_; clear T2; rintro e w1 ⟨rfl, hb⟩; replace hb0 := below_then hb0 hb0.size hb; clear hb)
          | (go_at_call 42; have hx := m3.out; clear hx m3; refine (T3.out _).mono ?_; clear T3; rintro e w1 ⟨rfl, hb⟩; replace hb0 := below_then hb0 hb0.size hb; clear hb)
          | (go_at_call 42; have hx := m4.out; clear hx m4; refine (T4.out _).mono ?_; clear T4; rintro e w1 ⟨rfl, hb⟩; replace hb0 := below_then hb0 hb0.size hb; clear hb))
  go_cut [] (fun wx => Below w.heap.size w wx)
  case first =>
    rcases fit_cases (a + b) with ⟨q1, q2, q3⟩ | ⟨q1, q2, q3⟩
    · rw [HSE.out.1] at q2
      rw [HSE.out.2] at q1
      subst q1
      obtain ⟨x, xe, HX⟩ : ∃ s' e', Hid ((fitR (s * c)).val = s' ∧ (fitR (s * c)).err = e') := ⟨_, _, Lib.hid ⟨rfl, rfl⟩⟩
      obtain ⟨y, ye, HY⟩ : ∃ s' e', Hid ((fitR (a * c)).val = s' ∧ (fitR (a * c)).err = e') := ⟨_, _, Lib.hid ⟨rfl, rfl⟩⟩
      obtain ⟨z, ze, HZ⟩ : ∃ s' e', Hid ((fitR (b * c)).val = s' ∧ (fitR (b * c)).err = e') := ⟨_, _, Lib.hid ⟨rfl, rfl⟩⟩
      obtain ⟨v, ve, HV⟩ : ∃ s' e', Hid ((fitR (y + z)).val = s' ∧ (fitR (y + z)).err = e') := ⟨_, _, Lib.hid ⟨rfl, rfl⟩⟩
      have hsi : in64 s := by rw [q2]; exact q3
      have HQ2 := Lib.hid q2
      have HQ3 := Lib.hid q3
      clear q2 q3
      have T5 : Hid (∀ W, Calls Try.prog 42 #[.string ⟨#[45]⟩, .int .i64 s, .int .i64 b] W fun e' w' => e' = .returned (.tuple #[.int .i64 a, .int .i64 0]) ∧ Below W.heap.size W w') := Lib.hid (HT.out _ s b a 0 (by decide) hsi HB.out (by rw [show opI ⟨#[45]⟩ s b = fitR (s - b) from rfl, HQ2.out, show a + b - b = a by omega, fitR_in HA.out]; rfl) (by rw [show opI ⟨#[45]⟩ s b = fitR (s - b) from rfl, HQ2.out, show a + b - b = a by omega, fitR_in HA.out]; rfl))
      have T6 : Hid (∀ W, Calls Try.prog 42 #[.string ⟨#[42]⟩, .int .i64 s, .int .i64 c] W fun e' w' => e' = .returned (.tuple #[.int .i64 x, .int .i64 xe]) ∧ Below W.heap.size W w') := Lib.hid (HT.out _ s c x xe (by decide) hsi HC.out HX.out.1 HX.out.2)
      have T7 : Hid (∀ W, Calls Try.prog 42 #[.string ⟨#[42]⟩, .int .i64 a, .int .i64 c] W fun e' w' => e' = .returned (.tuple #[.int .i64 y, .int .i64 ye]) ∧ Below W.heap.size W w') := Lib.hid (HT.out _ a c y ye (by decide) HA.out HC.out HY.out.1 HY.out.2)
      have T8 : Hid (∀ W, Calls Try.prog 42 #[.string ⟨#[42]⟩, .int .i64 b, .int .i64 c] W fun e' w' => e' = .returned (.tuple #[.int .i64 z, .int .i64 ze]) ∧ Below W.heap.size W w') := Lib.hid (HT.out _ b c z ze (by decide) HB.out HC.out HZ.out.1 HZ.out.2)
      have T9 : Hid (∀ W, Calls Try.prog 42 #[.string ⟨#[43]⟩, .int .i64 y, .int .i64 z] W fun e' w' => e' = .returned (.tuple #[.int .i64 v, .int .i64 ve]) ∧ Below W.heap.size W w') := Lib.hid (HT.out _ y z v ve (by decide) (by rw [← HY.out.1]; exact val_in _) (by rw [← HZ.out.1]; exact val_in _) HV.out.1 HV.out.2)
      clear hsi
      have m5 : Hid (0 = 0) := Lib.hid rfl
      have m6 : Hid (0 = 0) := Lib.hid rfl
      have m7 : Hid (0 = 0) := Lib.hid rfl
      have m8 : Hid (0 = 0) := Lib.hid rfl
      have m9 : Hid (0 = 0) := Lib.hid rfl
      rcases fit_cases (s * c) with ⟨x1, x2, x3⟩ | ⟨x1, x2, x3⟩
      · rw [HX.out.2] at x1
        rw [HX.out.1] at x2
        subst x1
        rcases fit_cases (a * c) with ⟨y1, y2, y3⟩ | ⟨y1, y2, y3⟩
        · rw [HY.out.2] at y1
          rw [HY.out.1] at y2
          subst y1
          rcases fit_cases (b * c) with ⟨z1, z2, z3⟩ | ⟨z1, z2, z3⟩
          · rw [HZ.out.2] at z1
            rw [HZ.out.1] at z2
            subst z1
            have hyz : y + z = s * c := by rw [y2, z2, HQ2.out, Int.add_mul]
            have hve : ve = 0 ∧ v = x := by rw [← HV.out.1, ← HV.out.2, hyz, HX.out.2, HX.out.1]; exact ⟨rfl, rfl⟩
            obtain ⟨rfl, rfl⟩ := hve
            clear x2 x3 y2 y3 z2 z3 hyz
            go_wp2_with (first
          | (go_at_call 42; have hx := m5.out; clear hx m5; refine (T5.out _).mono ?_; clear T5; rintro e w1 ⟨rfl, hb⟩; replace hb0 := below_then hb0 hb0.size hb; clear hb)
          | (go_at_call 42; have hx := m6.out; clear hx m6; refine (T6.out _).mono ?_; clear T6; rintro e w1 ⟨rfl, hb⟩; replace hb0 := below_then hb0 hb0.size hb; clear hb)
          | (go_at_call 42; have hx := m7.out; clear hx m7; refine (T7.out _).mono ?_; clear T7; rintro e w1 ⟨rfl, hb⟩; replace hb0 := below_then hb0 hb0.size hb; clear hb)
          | (go_at_call 42; have hx := m8.out; clear hx m8; refine (T8.out _).mono ?_; clear T8; rintro e w1 ⟨rfl, hb⟩; replace hb0 := below_then hb0 hb0.size hb; clear hb)
          | (go_at_call 42; have hx := m9.out; clear hx m9; refine (T9.out _).mono ?_; clear T9; rintro e w1 ⟨rfl, hb⟩; replace hb0 := below_then hb0 hb0.size hb; clear hb))
            go_meet
            case rel => exact hb0
          · rw [HZ.out.2] at z1
            subst z1
            clear x2 x3 y2 y3 z2 z3
            go_wp2_with (first
          | (go_at_call 42; have hx := m5.out; clear hx m5; refine (T5.out _).mono ?_; clear T5; rintro e w1 ⟨rfl, hb⟩; replace hb0 := below_then hb0 hb0.size hb; clear hb)
          | (go_at_call 42; have hx := m6.out; clear hx m6; refine (T6.out _).mono ?_; clear T6; rintro e w1 ⟨rfl, hb⟩; replace hb0 := below_then hb0 hb0.size hb; clear hb)
          | (go_at_call 42; have hx := m7.out; clear hx m7; refine (T7.out _).mono ?_; clear T7; rintro e w1 ⟨rfl, hb⟩; replace hb0 := below_then hb0 hb0.size hb; clear hb)
          | (go_at_call 42; have hx := m8.out; clear hx m8; refine (T8.out _).mono ?_; clear T8; rintro e w1 ⟨rfl, hb⟩; replace hb0 := below_then hb0 hb0.size hb; clear hb)
          | (go_at_call 42; have hx := m9.out; clear hx m9; refine (T9.out _).mono ?_; clear T9; rintro e w1 ⟨rfl, hb⟩; replace hb0 := below_then hb0 hb0.size hb; clear hb))
            go_meet
            case rel => exact hb0
        · rw [HY.out.2] at y1
          subst y1
          clear x2 x3 y2 y3
          go_wp2_with (first
          | (go_at_call 42; have hx := m5.out; clear hx m5; refine (T5.out _).mono ?_; clear T5; rintro e w1 ⟨rfl, hb⟩; replace hb0 := below_then hb0 hb0.size hb; clear hb)
          | (go_at_call 42; have hx := m6.out; clear hx m6; refine (T6.out _).mono ?_; clear T6; rintro e w1 ⟨rfl, hb⟩; replace hb0 := below_then hb0 hb0.size hb; clear hb)
          | (go_at_call 42; have hx := m7.out; clear hx m7; refine (T7.out _).mono ?_; clear T7; rintro e w1 ⟨rfl, hb⟩; replace hb0 := below_then hb0 hb0.size hb; clear hb)
          | (go_at_call 42; have hx := m8.out; clear hx m8; refine (T8.out _).mono ?_; clear T8; rintro e w1 ⟨rfl, hb⟩; replace hb0 := below_then hb0 hb0.size hb; clear hb)
          | (go_at_call 42; have hx := m9.out; clear hx m9; refine (T9.out _).mono ?_; clear T9; rintro e w1 ⟨rfl, hb⟩; replace hb0 := below_then hb0 hb0.size hb; clear hb))
          go_meet
          case rel => exact hb0
      · rw [HX.out.2] at x1
        subst x1
        clear x2 x3
        go_wp2_with (first
          | (go_at_call 42; have hx := m5.out; clear hx m5; refine (T5.out _).mono ?_; clear T5; rintro e w1 ⟨rfl, hb⟩; replace hb0 := below_then hb0 hb0.size hb; clear hb)
          | (go_at_call 42; have hx := m6.out; clear hx m6; refine (T6.out _).mono ?_; clear T6; rintro e w1 ⟨rfl, hb⟩; replace hb0 := below_then hb0 hb0.size hb; clear hb)
          | (go_at_call 42; have hx := m7.out; clear hx m7; refine (T7.out _).mono ?_; clear T7; rintro e w1 ⟨rfl, hb⟩; replace hb0 := below_then hb0 hb0.size hb; clear hb)
          | (go_at_call 42; have hx := m8.out; clear hx m8; refine (T8.out _).mono ?_; clear T8; rintro e w1 ⟨rfl, hb⟩; replace hb0 := below_then hb0 hb0.size hb; clear hb)
          | (go_at_call 42; have hx := m9.out; clear hx m9; refine (T9.out _).mono ?_; clear T9; rintro e w1 ⟨rfl, hb⟩; replace hb0 := below_then hb0 hb0.size hb; clear hb))
        go_meet
        case rel => exact hb0
    · rw [HSE.out.2] at q1
      subst q1
      go_wp2
      go_meet
      case rel => exact hb0
  case rest =>
    have hK := (by assumption : ∀ (a' : Act) (w' : World), Code.wp _ _ _ a' w' → _)
    refine hK _ _ ?_
    exact ar_half a b w wc hcut HT HA HB

end Go.Proofs.Ytdflckjnpgbjlaa

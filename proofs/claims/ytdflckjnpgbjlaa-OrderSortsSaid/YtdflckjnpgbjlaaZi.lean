/- Walks of the library's merge by turning. Conditions: the row is the call's own. -/
import Derived.Test.YtdflckjnpgbjlaaZh
import Derived.Deep.DeepCutAuto
import Derived.Deep.CutBlock
set_option linter.unusedVariables false
set_option maxRecDepth 20000
set_option linter.unusedSimpArgs false
namespace Go.Proofs.Ytdflckjnpgbjlaa
open Go.RowKit
attribute [local go_sem ↓] Go.wp_at_zero Go.wp_at_succ
/-- What the search leaves, in a world. -/
def SmQ (g cap : Nat) (ok : Nat → Prop) (f : Nat) (P L R Q : List Tm) (w0 : World) (N a m b mid n i : Nat) (wx : World) : Prop := ∃ (L1 L2 R1 R2 : List Tm) (en : Nat), SmP f P L R L1 L2 R1 R2 Q N a m b i en mid ∧ Rw g cap ok (P ++ (L1 ++ (L2 ++ (R1 ++ (R2 ++ Q))))) wx ∧ Keeps (fun k => k = g) w0 wx ∧ IntKind.i64.wrap ((n : Int) - (i : Int)) = (en : Int)
set_option maxRecDepth 100000 in
set_option maxHeartbeats 16000000 in
theorem sm_lp (g cap : Nat) (ok : Nat → Prop) (f : Nat) (IH : Hid (SmAll g cap ok f)) (P L R Q zs : List Tm) (w0 : World) (N a m b mid n p K s0 r0 d1 d2 : Nat) (hn : N ≤ 1000000) (hNc : N ≤ cap) (HZ : Hid (zs = P ++ (L ++ (R ++ Q)))) (HR : Hid (Rw g cap ok zs w0)) (HSL : Hid (Sd L ∧ Sd R)) (HF : Hid (L.length + R.length ≤ f + 1))
    (HL : Hid (N = P.length + L.length + R.length + Q.length ∧ a = P.length ∧ m = a + L.length ∧ b = m + R.length)) (hw4 : IntKind.i64.wrap ((n : Int) - 1) = (p : Int)) (HM : Hid (mid = (a + b) / 2 ∧ n = mid + m ∧ p = n - 1 ∧ K = mid - a ∧ a < m ∧ m < b ∧ b ≤ N ∧ a < mid ∧ mid < b))
    (hbN : b ≤ N) (ham : a < m) (hmb : m < b) (hnb : n < 3000000) (hmi : mid < b) (hSmB : Hid (SmB L R a K s0 r0)) (hai0 : a ≤ s0) (hsr : s0 ≤ r0)
    {u5 u6 u7 u8 u9 u10 u11 u12 u13 u14 u15 u16 u17 u22 u23 u24 u25 u26 u27 u28 u29 u30 u31 u32 u33 u34 u35 u36 u37 u38 u39 u40 u41 u42 u43 u44 u45 u46 u47 u48 u49 u50 u51 u52 u53 u54 u55 u56 u57 u58 u59 u60 u61 u62 u63 u64 u65 u66 u67 u68 u69 u70 u71 u72 u73 u74 u75 u76 u77 u78 u79 u80 u81 u82 u83 u84 u85 u86 u87 u88 u89 u90 u91 u92 u93 u94 u95 u96 u97 u98 u99 u100 u101 u102 u103 u104 u105 u106 u107 u108 u109 u110 u111 u112 u113 u114 u115 u116 u117 u118 u119 u120 u121 u122 u123 u124 u125 u126 u127 u128 u129 u130 u131 u132 u133 u134 u135 u136 u137 u138 u139 u140 u141 u142 u143 u144 u145 u146 u147 u148 u149 u150 u151 u152 u153 u154 u155 u156 u157 u158 u159 u160 u161 u162 u163 u164 u165 u166 u167 u168 u169 u170 u171 u172 u173 u174 u175 u176 u177 u178 u179 u180 u181 u182 u183 u184 u185 u186 u187 u188 u189 u190 u191 u192 u193 u194 u195 u196 u197 u198 u199 u200 u201 u202 u203 u204 u205 u206 u207 u208 u209 u210 u211 u212 u213 u214 u215 u216 u217 u218 u219 : Value} :
    Code.wp Try.prog (Try.smTail 32) (bodyPost Try.prog Try.f152 fun e w' => e = .returned (.tuple #[]) ∧ (∃ M, Sd M ∧ M.Perm (L ++ R) ∧ Rw g cap ok (P ++ (M ++ Q)) w') ∧ Keeps (fun k => k = g) w0 w') ⟨#[.slice (some ⟨g, 0, none⟩) N cap, .int .i64 (a : Int), .int .i64 (m : Int), .int .i64 (b : Int), .func (.func 51) #[] #[], u5, u6, u7, u8, u9, u10, u11, u12, u13, u14, u15, u16, u17, .int .i64 (mid : Int), .int .i64 (n : Int), .int .i64 (s0 : Int), .int .i64 (r0 : Int), u22, u23, u24, u25, u26, u27, u28, u29, u30, u31, u32, u33, u34, u35, u36, u37, u38, u39, u40, u41, u42, u43, u44, u45, u46, u47, u48, u49, u50, u51, u52, u53, u54, u55, u56, u57, u58, u59, u60, u61, u62, u63, u64, u65, u66, u67, u68, u69, u70, u71, u72, u73, u74, u75, u76, u77, u78, u79, u80, u81, u82, u83, u84, u85, u86, u87, u88, u89, u90, u91, u92, u93, u94, u95, u96, u97, u98, u99, u100, u101, u102, u103, u104, u105, u106, u107, u108, u109, u110, u111, u112, u113, u114, u115, u116, u117, u118, u119, u120, u121, u122, u123, u124, u125, u126, u127, u128, u129, u130, u131, u132, u133, u134, u135, u136, u137, u138, u139, u140, u141, u142, u143, u144, u145, u146, u147, u148, u149, u150, u151, u152, u153, u154, u155, u156, u157, u158, u159, u160, u161, u162, u163, u164, u165, u166, u167, u168, u169, u170, u171, u172, u173, u174, u175, u176, u177, u178, u179, u180, u181, u182, u183, u184, u185, u186, u187, u188, u189, u190, u191, u192, u193, u194, u195, u196, u197, u198, u199, u200, u201, u202, u203, u204, u205, u206, u207, u208, u209, u210, u211, u212, u213, u214, u215, u216, u217, u218, u219], []⟩ w0 := by
  conv => arg 2; whnf
  go_upto_block 8 with fail
  go_cut [20] (fun u wx => ∃ i : Nat, u = .int .i64 (i : Int) ∧ Hid (SmQ g cap ok f P L R Q w0 N a m b mid n i wx))
  case first =>
      go_wp2
      go_loopw [20, 21] (fun u v wr => ∃ i j : Nat, u = .int .i64 (i : Int) ∧ v = .int .i64 (j : Int) ∧ a ≤ i ∧ i ≤ j ∧ j ≤ r0 ∧ Hid (SmI L R K (s0 - a) (r0 - a) (i - a) (j - a)) ∧ Rw g cap ok zs wr ∧ Keeps (fun k => k = g) w0 wr) (fun u v _ => (intOf v).toNat - (intOf u).toNat)
      case atStart => exact ⟨s0, r0, rfl, rfl, hai0, hsr, Nat.le_refl _, Lib.hid (SmI.start (by omega)), HR.out, Keeps.refl _ _⟩
      case round =>
        clear HR
        obtain ⟨i, j, rfl, rfl, hai, hij, hjr, hS, hR, hK⟩ := hrel
        obtain ⟨b1, b2, b3, b4, b5, b6, b7⟩ := hSmB.out
        by_cases hlt : i < j
        · have hil : (i : Int) < (j : Int) := by omega
          obtain ⟨c, hc⟩ : ∃ c, c = (i + j) / 2 := ⟨_, rfl⟩
          have hcd : ((i : Int) + (j : Int)) / 2 = (c : Int) := by omega
          have hic : i ≤ c := by omega
          have hcj : c < j := by omega
          obtain ⟨l1, l2, l3, l4⟩ := HL.out
          obtain ⟨m1, m2, m3, m4, m5, m6, m7, m8, m9⟩ := HM.out
          obtain ⟨e, he⟩ : ∃ e, e = p - c := ⟨_, rfl⟩
          have hwe : IntKind.i64.wrap ((p : Int) - (c : Int)) = (e : Int) := by rw [IntKind.wrap_i64]; omega
          have hcl : c - a < L.length := by omega
          have hsi := hS.out.1
          have hel : K - 1 - (c - a) < R.length := by omega
          have hzl : zs.length = N := by rw [HZ.out]; simp; omega
          have hxl : e < zs.length := by omega
          have hyl : c < zs.length := by omega
          have hst := hS.out.step HSL.out.1 HSL.out.2 (c := c - a) (by omega) (by omega) b3 b4 b5
          have ex : zs[e] = R[K - 1 - (c - a)] := by
            simp only [HZ.out]
            exact get_R hel (by omega) _
          have ey : zs[c] = L[c - a] := by
            simp only [HZ.out]
            exact get_L hcl (by omega) _
          obtain ⟨ux, k0, k1, k2, k3, -, -, -, -, k4⟩ := hR.elem hxl
          obtain ⟨uy, n0, n1, n2, n3, -, -, -, -, n4⟩ := hR.elem hyl
          obtain ⟨uA, uc, rfl⟩ := k4.form
          obtain ⟨vA, vc, rfl⟩ := n4.form
          rw [← ex, ← ey, show c - a + 1 = c + 1 - a by omega] at hst
          have HI1 : Hid (¬ cmpT zs[e] zs[c] < 0 → SmI L R K (s0 - a) (r0 - a) (c + 1 - a) (j - a)) := Lib.hid hst.1
          have HI2 : Hid (cmpT zs[e] zs[c] < 0 → SmI L R K (s0 - a) (r0 - a) (i - a) (c - a)) := Lib.hid hst.2
          have HRb := Lib.hid hR
          have HKb := Lib.hid hK
          have q1 : (e : Int) < N := by omega
          have q2 : (c : Int) < N := by omega
          have q3 : (e : Int) < cap := by omega
          have q4 : (c : Int) < cap := by omega
          have hglt := hR.lt
          have hjN : j < 1000000 := by omega
          clear hsi hst ex ey hR hK hS hcl hel l1 l2 l3 l4 m1 m2 m3 m4 m5 m6 m7 m8 m9 b1 b2 b3 b4 b5 b6 b7 he hc hzl
          generalize zs[e] = t at k0 k1 k2 k3 k4 HI1 HI2
          generalize zs[c] = u at n0 n1 n2 n3 n4 HI1 HI2
          have HC := Lib.hid (fun W (h1 : Kd.tm.S W ok t.l (.slice uA t.l.length uc)) (h2 : Kd.tm.S W ok u.l (.slice vA u.l.length vc)) => Compare_c t u W ok ok _ _ ⟨_, rfl, h1⟩ ⟨_, rfl, h2⟩)
          generalize cmpT t u = d at HC HI1 HI2
          clear hxl hyl
          by_cases hx : d < 0
          · have hx' : decide (d < 0) = true := by simpa using hx
            go_wp2
            refine wp_region_held_drew (S := (fun W => W.cell? ⟨g, e * 4, none⟩ = some (.int .u8 t.k) ∧ W.cell? ⟨g, e * 4 + 1, none⟩ = some (.string t.s) ∧ W.cell? ⟨g, e * 4 + 2, none⟩ = some (.int .i64 t.n) ∧ W.cell? ⟨g, e * 4 + 3, none⟩ = some (.slice uA t.l.length uc) ∧ W.cell? ⟨g, c * 4, none⟩ = some (.int .u8 u.k) ∧ W.cell? ⟨g, c * 4 + 1, none⟩ = some (.string u.s) ∧ W.cell? ⟨g, c * 4 + 2, none⟩ = some (.int .i64 u.n) ∧ W.cell? ⟨g, c * 4 + 3, none⟩ = some (.slice vA u.l.length vc) ∧ Kd.tm.S W ok t.l (.slice uA t.l.length uc) ∧ Kd.tm.S W ok u.l (.slice vA u.l.length vc) ∧ Rw g cap ok zs W ∧ Keeps (fun k => k = g) w0 W)) (by kernel_rfl) ?_ (fun hHeld => ?_)
            · exact ⟨k0, k1, k2, k3, n0, n1, n2, n3, k4.below (Below.refl _ wr).drew, n4.below (Below.refl _ wr).drew, HRb.out.then (Below.refl _ _).drew, HKb.out.drew⟩
            change wpAnyH _ .any _ _ _ 14 (Array.replicate 14 false) _ _
            refine wpAnyH_take (i := 0) (oi := ⟨some 158, _, _, _, _, _⟩) (v := ?_) rfl (by kernel_rfl) (by kernel_rfl) (by kernel_rfl) (fun _ _ _ h => h) (Or.inl ⟨by rfl, ?_⟩) (by assumption) ?_
            rotate_left
            · (intro w hSw; (try dsimp only at hSw); go_simp; try (with_reducible rfl))
            (try simp only [Act.put, List.setIfInBounds_toArray, List.set_cons_zero, List.set_cons_succ])
            refine wpAnyH_take (i := 1) (oi := ⟨some 159, _, _, _, _, _⟩) (v := ?_) rfl (by kernel_rfl) (by kernel_rfl) (by kernel_rfl) (fun _ _ _ h => h) (Or.inl ⟨by rfl, ?_⟩) (by assumption) ?_
            rotate_left
            · (intro w hSw; (try dsimp only at hSw); go_simp; try (with_reducible rfl))
            (try simp only [Act.put, List.setIfInBounds_toArray, List.set_cons_zero, List.set_cons_succ])
            refine wpAnyH_take (i := 2) (oi := ⟨some 160, _, _, _, _, _⟩) (v := ?_) rfl (by kernel_rfl) (by kernel_rfl) (by kernel_rfl) (fun _ _ _ h => h) (Or.inl ⟨by rfl, ?_⟩) (by assumption) ?_
            rotate_left
            · (intro w hSw; (try dsimp only at hSw); go_simp; try (with_reducible rfl))
            (try simp only [Act.put, List.setIfInBounds_toArray, List.set_cons_zero, List.set_cons_succ])
            refine wpAnyH_take (i := 3) (oi := ⟨some 161, _, _, _, _, _⟩) (v := ?_) rfl (by kernel_rfl) (by kernel_rfl) (by kernel_rfl) (fun _ _ _ h => h) (Or.inl ⟨by rfl, ?_⟩) (by assumption) ?_
            rotate_left
            · (intro w hSw; (try dsimp only at hSw); go_simp; try (with_reducible rfl))
            (try simp only [Act.put, List.setIfInBounds_toArray, List.set_cons_zero, List.set_cons_succ])
            refine wpAnyH_take (i := 4) (oi := ⟨some 162, _, _, _, _, _⟩) (v := ?_) rfl (by kernel_rfl) (by kernel_rfl) (by kernel_rfl) (fun _ _ _ h => h) (Or.inl ⟨by rfl, ?_⟩) (by assumption) ?_
            rotate_left
            · (intro w hSw; (try dsimp only at hSw); go_simp; try (with_reducible rfl))
            (try simp only [Act.put, List.setIfInBounds_toArray, List.set_cons_zero, List.set_cons_succ])
            refine wpAnyH_take (i := 5) (oi := ⟨some 163, _, _, _, _, _⟩) (v := ?_) rfl (by kernel_rfl) (by kernel_rfl) (by kernel_rfl) (fun _ _ _ h => h) (Or.inl ⟨by rfl, ?_⟩) (by assumption) ?_
            rotate_left
            · (intro w hSw; (try dsimp only at hSw); go_simp; try (with_reducible rfl))
            (try simp only [Act.put, List.setIfInBounds_toArray, List.set_cons_zero, List.set_cons_succ])
            refine wpAnyH_take (i := 6) (oi := ⟨some 164, _, _, _, _, _⟩) (v := ?_) rfl (by kernel_rfl) (by kernel_rfl) (by kernel_rfl) (fun _ _ _ h => h) (Or.inl ⟨by rfl, ?_⟩) (by assumption) ?_
            rotate_left
            · (intro w hSw; (try dsimp only at hSw); go_simp; try (with_reducible rfl))
            (try simp only [Act.put, List.setIfInBounds_toArray, List.set_cons_zero, List.set_cons_succ])
            refine wpAnyH_take (i := 7) (oi := ⟨some 165, _, _, _, _, _⟩) (v := ?_) rfl (by kernel_rfl) (by kernel_rfl) (by kernel_rfl) (fun _ _ _ h => h) (Or.inl ⟨by rfl, ?_⟩) (by assumption) ?_
            rotate_left
            · (intro w hSw; (try dsimp only at hSw); go_simp; try (with_reducible rfl))
            (try simp only [Act.put, List.setIfInBounds_toArray, List.set_cons_zero, List.set_cons_succ])
            refine wpAnyH_take (i := 8) (oi := ⟨some 166, _, _, _, _, _⟩) (v := ?_) rfl (by kernel_rfl) (by kernel_rfl) (by kernel_rfl) (fun _ _ _ h => h) (Or.inl ⟨by rfl, ?_⟩) (by assumption) ?_
            rotate_left
            · (intro w hSw; (try dsimp only at hSw); go_simp; try (with_reducible rfl))
            (try simp only [Act.put, List.setIfInBounds_toArray, List.set_cons_zero, List.set_cons_succ])
            refine wpAnyH_take (i := 9) (oi := ⟨some 167, _, _, _, _, _⟩) (v := ?_) rfl (by kernel_rfl) (by kernel_rfl) (by kernel_rfl) (fun _ _ _ h => h) (Or.inl ⟨by rfl, ?_⟩) (by assumption) ?_
            rotate_left
            · (intro w hSw; (try dsimp only at hSw); go_simp; try (with_reducible rfl))
            (try simp only [Act.put, List.setIfInBounds_toArray, List.set_cons_zero, List.set_cons_succ])
            refine wpAnyH_take (i := 10) (oi := ⟨some 168, _, _, _, _, _⟩) (v := ?_) rfl (by kernel_rfl) (by kernel_rfl) (by kernel_rfl) (fun _ _ _ h => h) (Or.inl ⟨by rfl, ?_⟩) (by assumption) ?_
            rotate_left
            · (intro w hSw; (try dsimp only at hSw); go_simp; try (with_reducible rfl))
            (try simp only [Act.put, List.setIfInBounds_toArray, List.set_cons_zero, List.set_cons_succ])
            refine wpAnyH_ready (rs := [11]) (by kernel_rfl) (by simp) ?_
            refine AllReadyH.cons (o := ⟨some 169, _, _, _, _, _⟩) rfl (fun K hK => ?_) AllReadyH.nil
            go_simp
            refine (HC.out _ hHeld.2.2.2.2.2.2.2.2.1 hHeld.2.2.2.2.2.2.2.2.2.1).mono ?_
            rintro e w9 ⟨rfl, hb9⟩
            go_wp2_with fail
            refine hK.out _ _ (by obtain ⟨q0, q1, q2, q3, q4, q5, q6, q7, q8, q9, qR, qK⟩ := hHeld; exact ⟨held_cell hb9 q0, held_cell hb9 q1, held_cell hb9 q2, held_cell hb9 q3, held_cell hb9 q4, held_cell hb9 q5, held_cell hb9 q6, held_cell hb9 q7, q8.below hb9, q9.below hb9, qR.then hb9, qK.then hb9⟩) (fun hHeld => ?_)
            clear hK K
            (try simp only [Act.put, List.setIfInBounds_toArray, List.set_cons_zero, List.set_cons_succ])
            refine wpAnyH_take (i := 12) (oi := ⟨some 170, _, _, _, _, _⟩) (v := ?_) rfl (by kernel_rfl) (by kernel_rfl) (by kernel_rfl) (fun _ _ _ h => h) (Or.inl ⟨by rfl, ?_⟩) (by assumption) ?_
            rotate_left
            · (intro w hSw; (try dsimp only at hSw); go_simp; try (with_reducible rfl))
            (try simp only [Act.put, List.setIfInBounds_toArray, List.set_cons_zero, List.set_cons_succ])
            refine wpAnyH_take (i := 13) (oi := ⟨some 171, _, _, _, _, _⟩) (v := ?_) rfl (by kernel_rfl) (by kernel_rfl) (by kernel_rfl) (fun _ _ _ h => h) (Or.inl ⟨by rfl, ?_⟩) (by assumption) ?_
            rotate_left
            · (intro w hSw; (try dsimp only at hSw); go_simp; try (with_reducible rfl))
            (try simp only [Act.put, List.setIfInBounds_toArray, List.set_cons_zero, List.set_cons_succ])
            refine wpAnyH_done (by kernel_rfl) ?_ _
            have hH := hHeld
            clear hHeld
            go_wp2
            go_roundw
            case rel => exact ⟨i, c, rfl, rfl, hai, hic, by omega, Lib.hid (HI2.out hx), hH.2.2.2.2.2.2.2.2.2.2.1, hH.2.2.2.2.2.2.2.2.2.2.2⟩
            case measure => simp [intOf]; omega
          · have hx' : decide (d < 0) = false := by simpa using hx
            go_wp2
            refine wp_region_held_drew (S := (fun W => W.cell? ⟨g, e * 4, none⟩ = some (.int .u8 t.k) ∧ W.cell? ⟨g, e * 4 + 1, none⟩ = some (.string t.s) ∧ W.cell? ⟨g, e * 4 + 2, none⟩ = some (.int .i64 t.n) ∧ W.cell? ⟨g, e * 4 + 3, none⟩ = some (.slice uA t.l.length uc) ∧ W.cell? ⟨g, c * 4, none⟩ = some (.int .u8 u.k) ∧ W.cell? ⟨g, c * 4 + 1, none⟩ = some (.string u.s) ∧ W.cell? ⟨g, c * 4 + 2, none⟩ = some (.int .i64 u.n) ∧ W.cell? ⟨g, c * 4 + 3, none⟩ = some (.slice vA u.l.length vc) ∧ Kd.tm.S W ok t.l (.slice uA t.l.length uc) ∧ Kd.tm.S W ok u.l (.slice vA u.l.length vc) ∧ Rw g cap ok zs W ∧ Keeps (fun k => k = g) w0 W)) (by kernel_rfl) ?_ (fun hHeld => ?_)
            · exact ⟨k0, k1, k2, k3, n0, n1, n2, n3, k4.below (Below.refl _ wr).drew, n4.below (Below.refl _ wr).drew, HRb.out.then (Below.refl _ _).drew, HKb.out.drew⟩
            change wpAnyH _ .any _ _ _ 14 (Array.replicate 14 false) _ _
            refine wpAnyH_take (i := 0) (oi := ⟨some 158, _, _, _, _, _⟩) (v := ?_) rfl (by kernel_rfl) (by kernel_rfl) (by kernel_rfl) (fun _ _ _ h => h) (Or.inl ⟨by rfl, ?_⟩) (by assumption) ?_
            rotate_left
            · (intro w hSw; (try dsimp only at hSw); go_simp; try (with_reducible rfl))
            (try simp only [Act.put, List.setIfInBounds_toArray, List.set_cons_zero, List.set_cons_succ])
            refine wpAnyH_take (i := 1) (oi := ⟨some 159, _, _, _, _, _⟩) (v := ?_) rfl (by kernel_rfl) (by kernel_rfl) (by kernel_rfl) (fun _ _ _ h => h) (Or.inl ⟨by rfl, ?_⟩) (by assumption) ?_
            rotate_left
            · (intro w hSw; (try dsimp only at hSw); go_simp; try (with_reducible rfl))
            (try simp only [Act.put, List.setIfInBounds_toArray, List.set_cons_zero, List.set_cons_succ])
            refine wpAnyH_take (i := 2) (oi := ⟨some 160, _, _, _, _, _⟩) (v := ?_) rfl (by kernel_rfl) (by kernel_rfl) (by kernel_rfl) (fun _ _ _ h => h) (Or.inl ⟨by rfl, ?_⟩) (by assumption) ?_
            rotate_left
            · (intro w hSw; (try dsimp only at hSw); go_simp; try (with_reducible rfl))
            (try simp only [Act.put, List.setIfInBounds_toArray, List.set_cons_zero, List.set_cons_succ])
            refine wpAnyH_take (i := 3) (oi := ⟨some 161, _, _, _, _, _⟩) (v := ?_) rfl (by kernel_rfl) (by kernel_rfl) (by kernel_rfl) (fun _ _ _ h => h) (Or.inl ⟨by rfl, ?_⟩) (by assumption) ?_
            rotate_left
            · (intro w hSw; (try dsimp only at hSw); go_simp; try (with_reducible rfl))
            (try simp only [Act.put, List.setIfInBounds_toArray, List.set_cons_zero, List.set_cons_succ])
            refine wpAnyH_take (i := 4) (oi := ⟨some 162, _, _, _, _, _⟩) (v := ?_) rfl (by kernel_rfl) (by kernel_rfl) (by kernel_rfl) (fun _ _ _ h => h) (Or.inl ⟨by rfl, ?_⟩) (by assumption) ?_
            rotate_left
            · (intro w hSw; (try dsimp only at hSw); go_simp; try (with_reducible rfl))
            (try simp only [Act.put, List.setIfInBounds_toArray, List.set_cons_zero, List.set_cons_succ])
            refine wpAnyH_take (i := 5) (oi := ⟨some 163, _, _, _, _, _⟩) (v := ?_) rfl (by kernel_rfl) (by kernel_rfl) (by kernel_rfl) (fun _ _ _ h => h) (Or.inl ⟨by rfl, ?_⟩) (by assumption) ?_
            rotate_left
            · (intro w hSw; (try dsimp only at hSw); go_simp; try (with_reducible rfl))
            (try simp only [Act.put, List.setIfInBounds_toArray, List.set_cons_zero, List.set_cons_succ])
            refine wpAnyH_take (i := 6) (oi := ⟨some 164, _, _, _, _, _⟩) (v := ?_) rfl (by kernel_rfl) (by kernel_rfl) (by kernel_rfl) (fun _ _ _ h => h) (Or.inl ⟨by rfl, ?_⟩) (by assumption) ?_
            rotate_left
            · (intro w hSw; (try dsimp only at hSw); go_simp; try (with_reducible rfl))
            (try simp only [Act.put, List.setIfInBounds_toArray, List.set_cons_zero, List.set_cons_succ])
            refine wpAnyH_take (i := 7) (oi := ⟨some 165, _, _, _, _, _⟩) (v := ?_) rfl (by kernel_rfl) (by kernel_rfl) (by kernel_rfl) (fun _ _ _ h => h) (Or.inl ⟨by rfl, ?_⟩) (by assumption) ?_
            rotate_left
            · (intro w hSw; (try dsimp only at hSw); go_simp; try (with_reducible rfl))
            (try simp only [Act.put, List.setIfInBounds_toArray, List.set_cons_zero, List.set_cons_succ])
            refine wpAnyH_take (i := 8) (oi := ⟨some 166, _, _, _, _, _⟩) (v := ?_) rfl (by kernel_rfl) (by kernel_rfl) (by kernel_rfl) (fun _ _ _ h => h) (Or.inl ⟨by rfl, ?_⟩) (by assumption) ?_
            rotate_left
            · (intro w hSw; (try dsimp only at hSw); go_simp; try (with_reducible rfl))
            (try simp only [Act.put, List.setIfInBounds_toArray, List.set_cons_zero, List.set_cons_succ])
            refine wpAnyH_take (i := 9) (oi := ⟨some 167, _, _, _, _, _⟩) (v := ?_) rfl (by kernel_rfl) (by kernel_rfl) (by kernel_rfl) (fun _ _ _ h => h) (Or.inl ⟨by rfl, ?_⟩) (by assumption) ?_
            rotate_left
            · (intro w hSw; (try dsimp only at hSw); go_simp; try (with_reducible rfl))
            (try simp only [Act.put, List.setIfInBounds_toArray, List.set_cons_zero, List.set_cons_succ])
            refine wpAnyH_take (i := 10) (oi := ⟨some 168, _, _, _, _, _⟩) (v := ?_) rfl (by kernel_rfl) (by kernel_rfl) (by kernel_rfl) (fun _ _ _ h => h) (Or.inl ⟨by rfl, ?_⟩) (by assumption) ?_
            rotate_left
            · (intro w hSw; (try dsimp only at hSw); go_simp; try (with_reducible rfl))
            (try simp only [Act.put, List.setIfInBounds_toArray, List.set_cons_zero, List.set_cons_succ])
            refine wpAnyH_ready (rs := [11]) (by kernel_rfl) (by simp) ?_
            refine AllReadyH.cons (o := ⟨some 169, _, _, _, _, _⟩) rfl (fun K hK => ?_) AllReadyH.nil
            go_simp
            refine (HC.out _ hHeld.2.2.2.2.2.2.2.2.1 hHeld.2.2.2.2.2.2.2.2.2.1).mono ?_
            rintro e w9 ⟨rfl, hb9⟩
            go_wp2_with fail
            refine hK.out _ _ (by obtain ⟨q0, q1, q2, q3, q4, q5, q6, q7, q8, q9, qR, qK⟩ := hHeld; exact ⟨held_cell hb9 q0, held_cell hb9 q1, held_cell hb9 q2, held_cell hb9 q3, held_cell hb9 q4, held_cell hb9 q5, held_cell hb9 q6, held_cell hb9 q7, q8.below hb9, q9.below hb9, qR.then hb9, qK.then hb9⟩) (fun hHeld => ?_)
            clear hK K
            (try simp only [Act.put, List.setIfInBounds_toArray, List.set_cons_zero, List.set_cons_succ])
            refine wpAnyH_take (i := 12) (oi := ⟨some 170, _, _, _, _, _⟩) (v := ?_) rfl (by kernel_rfl) (by kernel_rfl) (by kernel_rfl) (fun _ _ _ h => h) (Or.inl ⟨by rfl, ?_⟩) (by assumption) ?_
            rotate_left
            · (intro w hSw; (try dsimp only at hSw); go_simp; try (with_reducible rfl))
            (try simp only [Act.put, List.setIfInBounds_toArray, List.set_cons_zero, List.set_cons_succ])
            refine wpAnyH_take (i := 13) (oi := ⟨some 171, _, _, _, _, _⟩) (v := ?_) rfl (by kernel_rfl) (by kernel_rfl) (by kernel_rfl) (fun _ _ _ h => h) (Or.inl ⟨by rfl, ?_⟩) (by assumption) ?_
            rotate_left
            · (intro w hSw; (try dsimp only at hSw); go_simp; try (with_reducible rfl))
            (try simp only [Act.put, List.setIfInBounds_toArray, List.set_cons_zero, List.set_cons_succ])
            refine wpAnyH_done (by kernel_rfl) ?_ _
            have hH := hHeld
            clear hHeld
            go_wp2
            go_roundw
            case rel => exact ⟨c + 1, j, by go_num, rfl, by omega, by omega, hjr, Lib.hid (HI1.out hx), hH.2.2.2.2.2.2.2.2.2.2.1, hH.2.2.2.2.2.2.2.2.2.2.2⟩
            case measure => simp [intOf]; omega
        · have hil : ¬ (i : Int) < (j : Int) := by omega
          obtain rfl : i = j := by omega
          obtain ⟨L1, L2, R1, R2, eL, eR, hl1, hl2, hle⟩ := hS.out.fin HSL.out.1 HSL.out.2 b3 b4 b5 b6 b7
          obtain ⟨l1, l2, l3, l4⟩ := HL.out
          obtain ⟨m1, m2, m3, m4, m5, m6, m7, m8, m9⟩ := HM.out
          obtain ⟨en, hen⟩ : ∃ en, en = n - i := ⟨_, rfl⟩
          have hs1 := HSL.out.1
          have hs2 := HSL.out.2
          have hff := HF.out
          rw [eL] at l1 l3 hs1 hff
          rw [eR] at l1 l4 hs2 hff
          simp only [List.length_append] at l1 l3 l4 hff
          have hwn : IntKind.i64.wrap ((n : Int) - (i : Int)) = (en : Int) := by rw [IntKind.wrap_i64]; omega
          have HX : Hid (SmQ g cap ok f P L R Q w0 N a m b mid n i wr) := Lib.hid ⟨L1, L2, R1, R2, en, ⟨by omega, by omega, ⟨⟨hs1.left, hs1.right⟩, ⟨hs2.left, hs2.right⟩⟩, hle, ⟨eL, eR⟩⟩, (by have h := hR; rw [HZ.out, eL, eR] at h; simpa using h), hK, hwn⟩
          clear hR hK hS eL eR hl1 hl2 hle l1 l2 l3 l4 m1 m2 m3 m4 m5 m6 m7 m8 m9 b1 b2 b3 b4 b5 b6 b7 hs1 hs2 hff hen hwn HL HM HSL HF HZ
          go_wp2
          go_meet
          case rel => exact ⟨i, rfl, HX⟩
  case rest =>
    obtain ⟨i, rfl, hq⟩ := hcut
    obtain ⟨L1, L2, R1, R2, en, h1, h2, h3, h4⟩ := hq.out
    have hK := (by assumption : ∀ (a' : Act) (w' : World), Code.wp _ _ _ a' w' → _)
    refine hK _ _ ?_
    exact sm_t1 g cap ok f IH P L R L1 L2 R1 R2 Q w0 N a m b i en mid hn hNc (Lib.hid h1) _ (Lib.hid h2) (Lib.hid h3) n h4
set_option maxRecDepth 100000 in
set_option maxHeartbeats 16000000 in
theorem sm_c (g cap : Nat) (ok : Nat → Prop) : ∀ (f : Nat) (P L R Q : List Tm) (w0 : World), L.length + R.length ≤ f → Rw g cap ok (P ++ (L ++ (R ++ Q))) w0 → (P ++ (L ++ (R ++ Q))).length ≤ 1000000 → Sd L → Sd R → L ≠ [] → R ≠ [] → ∀ {N a m b : Nat}, N = (P ++ (L ++ (R ++ Q))).length → a = P.length → m = a + L.length → b = m + R.length →
    Calls Try.prog 152 #[.slice (some ⟨g, 0, none⟩) N cap, .int .i64 (a : Int), .int .i64 (m : Int), .int .i64 (b : Int), .func (.func 51) #[] #[]] w0 fun e w' => e = .returned (.tuple #[]) ∧ (∃ M, Sd M ∧ M.Perm (L ++ R) ∧ Rw g cap ok (P ++ (M ++ Q)) w') ∧ Keeps (fun k => k = g) w0 w' := by
  intro f
  induction f with
  | zero =>
    intro P L R Q w0 hf hR hn hL hRs hL0 hR0
    have := List.length_pos_iff.2 hL0
    omega
  | succ f ih =>
    intro P L R Q w0 hf hR hn hL hRs hL0 hR0 N a m b hN ha hm hb
    have hLp := List.length_pos_iff.2 hL0
    have hRp := List.length_pos_iff.2 hR0
    by_cases h1 : L.length = 1
    · obtain ⟨x, rfl⟩ := List.length_eq_one_iff.1 h1
      exact sm1_c g cap ok P x R Q w0 hR hn hRs hN ha (by simpa using hm) hb
    by_cases h2 : R.length = 1
    · obtain ⟨y, rfl⟩ := List.length_eq_one_iff.1 h2
      exact sm2_c g cap ok P L y Q w0 hR hn hL (by omega) hN ha hm (by simpa using hb)
    have IH : Hid (SmAll g cap ok f) := Lib.hid (fun P L R Q w0 h1 h2 h3 h4 h5 h6 h7 N a m b h8 h9 h10 h11 => ih P L R Q w0 h1 h2 h3 h4 h5 h6 h7 h8 h9 h10 h11)
    have hNc : N ≤ cap := by rw [hN]; exact hR.len
    rw [← hN] at hn
    have hNN : N = P.length + L.length + R.length + Q.length := by rw [hN]; simp; omega
    obtain ⟨zs, hzs⟩ : ∃ zs, zs = P ++ (L ++ (R ++ Q)) := ⟨_, rfl⟩
    rw [← hzs] at hR
    have HZ := Lib.hid hzs
    have HR := Lib.hid hR
    have HSL := Lib.hid (And.intro hL hRs)
    have HF := Lib.hid hf
    obtain ⟨d1, hd1⟩ : ∃ d, d = L.length := ⟨_, rfl⟩
    obtain ⟨d2, hd2⟩ : ∃ d, d = R.length := ⟨_, rfl⟩
    have HL := Lib.hid (And.intro hNN (And.intro ha (And.intro hm hb)))
    have hw1 : IntKind.i64.wrap ((m : Int) - (a : Int)) = (d1 : Int) := by rw [IntKind.wrap_i64]; omega
    have hw2 : IntKind.i64.wrap ((b : Int) - (m : Int)) = (d2 : Int) := by rw [IntKind.wrap_i64]; omega
    have hd3 : ((d1 : Int) == 1) = false := by rw [beq_eq_false_iff_ne]; omega
    have hd4 : ((d2 : Int) == 1) = false := by rw [beq_eq_false_iff_ne]; omega
    have hd5 : ¬ (d1 : Int) = 1 := by omega
    have hd6 : ¬ (d2 : Int) = 1 := by omega
    obtain ⟨mid, hmid⟩ : ∃ mid, mid = (a + b) / 2 := ⟨_, rfl⟩
    obtain ⟨n, hnn⟩ : ∃ n, n = mid + m := ⟨_, rfl⟩
    obtain ⟨p, hp⟩ : ∃ p, p = n - 1 := ⟨_, rfl⟩
    obtain ⟨K, hK⟩ : ∃ K, K = mid - a := ⟨_, rfl⟩
    have hmd : ((a : Int) + (b : Int)) / 2 = (mid : Int) := by omega
    have hw3 : IntKind.i64.wrap ((mid : Int) + (m : Int)) = (n : Int) := by rw [IntKind.wrap_i64]; omega
    have hw4 : IntKind.i64.wrap ((n : Int) - 1) = (p : Int) := by rw [IntKind.wrap_i64]; omega
    have HM : Hid (mid = (a + b) / 2 ∧ n = mid + m ∧ p = n - 1 ∧ K = mid - a ∧ a < m ∧ m < b ∧ b ≤ N ∧ a < mid ∧ mid < b) := Lib.hid (by omega)
    have hbN : b ≤ N := by omega
    have ham : a < m := by omega
    have hmb : m < b := by omega
    have hnb : n < 3000000 := by omega
    have hmi : mid < b := by omega
    have hSB : ∀ s0 r0, (mid < m ∧ s0 + b = n ∧ r0 = mid) ∨ (¬ mid < m ∧ s0 = a ∧ r0 = m) → SmB L R a K s0 r0 := fun s0 r0 h => by
      unfold SmB; omega
    have HSB := Lib.hid hSB
    clear hR hN hNN ha hm hb hL hRs hL0 hR0 hLp hRp h1 h2 hzs hd1 hd2 hmid hnn hp hK hSB hf ih
    go_enter Try.func152, Try.ntmps152
    go_upto_if 140 with fail
    go_cut [20, 21] (fun u v wx => ∃ s0 r0 : Nat, u = .int .i64 (s0 : Int) ∧ v = .int .i64 (r0 : Int) ∧ Hid (SmB L R a K s0 r0) ∧ wx = w0)
    case first =>
      by_cases hmm : mid < m
      · have hmm' : (mid : Int) < (m : Int) := by omega
        obtain ⟨s0, hs0⟩ : ∃ s0, s0 + b = n := ⟨n - b, by have := HM.out; omega⟩
        have hw5 : IntKind.i64.wrap ((n : Int) - (b : Int)) = (s0 : Int) := by rw [IntKind.wrap_i64]; omega
        have HX := Lib.hid (HSB.out s0 mid (.inl ⟨hmm, hs0, rfl⟩))
        clear hs0 hmm
        go_wp2
        go_meet
        case rel => exact ⟨s0, mid, rfl, rfl, HX, rfl⟩
      · have hmm' : ¬ (mid : Int) < (m : Int) := by omega
        have HX := Lib.hid (HSB.out a m (.inr ⟨hmm, rfl, rfl⟩))
        clear hmm
        go_wp2
        go_meet
        case rel => exact ⟨a, m, rfl, rfl, HX, rfl⟩
    case rest =>
      obtain ⟨s0, r0, rfl, rfl, hSmB, hwc⟩ := hcut
      rw [hwc]
      clear hwc HSB hw1 hw2 hd3 hd4 hd5 hd6 hmd hw3
      have hai0 : a ≤ s0 := hSmB.out.1
      have hsr : s0 ≤ r0 := hSmB.out.2.1
      have hK := (by assumption : ∀ (a' : Act) (w' : World), Code.wp _ _ _ a' w' → _)
      refine hK _ _ ?_
      exact sm_lp g cap ok f IH P L R Q zs w0 N a m b mid n p K s0 r0 d1 d2 hn hNc HZ HR HSL HF HL hw4 HM hbN ham hmb hnb hmi hSmB hai0 hsr
end Go.Proofs.Ytdflckjnpgbjlaa

/- Walks of the library's merge by turning. Conditions: the row is the call's own. -/
import Derived.Test.YtdflckjnpgbjlaaZg
import Derived.Deep.DeepCutAuto
import Derived.Deep.CutBlock
set_option linter.unusedVariables false
set_option maxRecDepth 20000
set_option linter.unusedSimpArgs false
namespace Go.Proofs.Ytdflckjnpgbjlaa
open Go.RowKit
attribute [local go_sem ↓] Go.wp_at_zero Go.wp_at_succ
/-- Where the search begins and ends. -/
def SmB (L R : List Tm) (a K s0 r0 : Nat) : Prop := a ≤ s0 ∧ s0 ≤ r0 ∧ r0 - a ≤ L.length ∧ r0 - a ≤ K ∧ K ≤ s0 - a + R.length ∧ (s0 - a = 0 ∨ K = s0 - a + R.length) ∧ (r0 - a = L.length ∨ r0 - a = K)
/-- The induction's claim. -/
def SmAll (g cap : Nat) (ok : Nat → Prop) (f : Nat) : Prop := ∀ (P L R Q : List Tm) (w0 : World), L.length + R.length ≤ f → Rw g cap ok (P ++ (L ++ (R ++ Q))) w0 → (P ++ (L ++ (R ++ Q))).length ≤ 1000000 → Sd L → Sd R → L ≠ [] → R ≠ [] → ∀ {N a m b : Nat}, N = (P ++ (L ++ (R ++ Q))).length → a = P.length → m = a + L.length → b = m + R.length →
    Calls Try.prog 152 #[.slice (some ⟨g, 0, none⟩) N cap, .int .i64 (a : Int), .int .i64 (m : Int), .int .i64 (b : Int), .func (.func 51) #[] #[]] w0 fun e w' => e = .returned (.tuple #[]) ∧ (∃ M, Sd M ∧ M.Perm (L ++ R) ∧ Rw g cap ok (P ++ (M ++ Q)) w') ∧ Keeps (fun k => k = g) w0 w'
/-- What the search leaves. -/
def SmP (f : Nat) (P L R L1 L2 R1 R2 Q : List Tm) (N a m b i en mid : Nat) : Prop :=
  (i = P.length + L1.length ∧ en = m + R1.length ∧ mid = P.length + L1.length + R1.length ∧ m = P.length + L1.length + L2.length ∧ b = m + R1.length + R2.length ∧ N = P.length + L1.length + L2.length + R1.length + R2.length + Q.length ∧ a = P.length) ∧
  (L1.length + R1.length ≤ f ∧ L2.length + R2.length ≤ f) ∧ ((Sd L1 ∧ Sd L2) ∧ (Sd R1 ∧ Sd R2)) ∧ (∀ x ∈ L1 ++ R1, ∀ y ∈ L2 ++ R2, Le x y) ∧ (L = L1 ++ L2 ∧ R = R1 ++ R2)
def begD (n : Nat) : Code → Bool
  | .region i _ _ => i == n
  | .seq a _ => begD n a
  | _ => false
def fromD (n : Nat) : Code → Code
  | .seq a b => if begD n a then .seq a b else fromD n b
  | c => c
noncomputable def Try.smTail (n : Nat) : Code := fromD n ((Try.f152.body).getD .skip)
set_option maxRecDepth 100000 in
set_option maxHeartbeats 16000000 in
theorem sm_t3 (g cap : Nat) (ok : Nat → Prop) (f : Nat) (IH : Hid (SmAll g cap ok f)) (P L R L1 L2 R1 R2 Q : List Tm) (w0 : World) (N a m b i en mid : Nat) (hn : N ≤ 1000000) (hNc : N ≤ cap) (HP : Hid (SmP f P L R L1 L2 R1 R2 Q N a m b i en mid))
    (W2 : World) (HM1 : Hid (∃ M1, Sd M1 ∧ M1.Perm (L1 ++ R1) ∧ Rw g cap ok (P ++ (M1 ++ (L2 ++ (R2 ++ Q)))) W2)) (HK2 : Hid (Keeps (fun k => k = g) w0 W2))
    {u5 u6 u7 u8 u9 u10 u11 u12 u13 u14 u15 u16 u17 u19 u21 u22 u23 u25 u26 u27 u28 u29 u30 u31 u32 u33 u34 u35 u36 u37 u38 u39 u40 u41 u42 u43 u44 u45 u46 u47 u48 u49 u50 u51 u52 u53 u54 u55 u56 u57 u58 u59 u60 u61 u62 u63 u64 u65 u66 u67 u68 u69 u70 u71 u72 u73 u74 u75 u76 u77 u78 u79 u80 u81 u82 u83 u84 u85 u86 u87 u88 u89 u90 u91 u92 u93 u94 u95 u96 u97 u98 u99 u100 u101 u102 u103 u104 u105 u106 u107 u108 u109 u110 u111 u112 u113 u114 u115 u116 u117 u118 u119 u120 u121 u122 u123 u124 u125 u126 u127 u128 u129 u130 u131 u132 u133 u134 u135 u136 u137 u138 u139 u140 u141 u142 u143 u144 u145 u146 u147 u148 u149 u150 u151 u152 u153 u154 u155 u156 u157 u158 u159 u160 u161 u162 u163 u164 u165 u166 u167 u168 u169 u170 u171 u172 u173 u174 u175 u176 u177 u178 u179 u180 u181 u182 u183 u184 u185 u186 u187 u188 u189 u190 u191 u192 u193 u194 u195 u196 u197 u198 u199 u200 u201 u202 u203 u204 u205 u206 u207 u208 u209 u210 u211 u212 u213 u214 u215 u216 u217 u218 u219 : Value} :
    Code.wp Try.prog (Try.smTail 43) (bodyPost Try.prog Try.f152 fun e w' => e = .returned (.tuple #[]) ∧ (∃ M, Sd M ∧ M.Perm (L ++ R) ∧ Rw g cap ok (P ++ (M ++ Q)) w') ∧ Keeps (fun k => k = g) w0 w') ⟨#[.slice (some ⟨g, 0, none⟩) N cap, .int .i64 (a : Int), .int .i64 (m : Int), .int .i64 (b : Int), .func (.func 51) #[] #[], u5, u6, u7, u8, u9, u10, u11, u12, u13, u14, u15, u16, u17, .int .i64 (mid : Int), u19, .int .i64 (i : Int), u21, u22, u23, .int .i64 (en : Int), u25, u26, u27, u28, u29, u30, u31, u32, u33, u34, u35, u36, u37, u38, u39, u40, u41, u42, u43, u44, u45, u46, u47, u48, u49, u50, u51, u52, u53, u54, u55, u56, u57, u58, u59, u60, u61, u62, u63, u64, u65, u66, u67, u68, u69, u70, u71, u72, u73, u74, u75, u76, u77, u78, u79, u80, u81, u82, u83, u84, u85, u86, u87, u88, u89, u90, u91, u92, u93, u94, u95, u96, u97, u98, u99, u100, u101, u102, u103, u104, u105, u106, u107, u108, u109, u110, u111, u112, u113, u114, u115, u116, u117, u118, u119, u120, u121, u122, u123, u124, u125, u126, u127, u128, u129, u130, u131, u132, u133, u134, u135, u136, u137, u138, u139, u140, u141, u142, u143, u144, u145, u146, u147, u148, u149, u150, u151, u152, u153, u154, u155, u156, u157, u158, u159, u160, u161, u162, u163, u164, u165, u166, u167, u168, u169, u170, u171, u172, u173, u174, u175, u176, u177, u178, u179, u180, u181, u182, u183, u184, u185, u186, u187, u188, u189, u190, u191, u192, u193, u194, u195, u196, u197, u198, u199, u200, u201, u202, u203, u204, u205, u206, u207, u208, u209, u210, u211, u212, u213, u214, u215, u216, u217, u218, u219], []⟩ W2 := by
  have HPt := Lib.hid HP.out.1
  have HFF := Lib.hid HP.out.2.1
  have HSS := Lib.hid HP.out.2.2.1
  have HLE := Lib.hid HP.out.2.2.2.1
  have HJ := Lib.hid HP.out.2.2.2.2
  conv => arg 2; whnf
  dsimp only
  refine wp_seq_k (fun K hK0 => ?_)
  go_cut [213] (fun d wx => ∃ q : Bool, d = .bool q ∧ Hid (q = true ↔ (mid < en ∧ en < b)) ∧ wx = W2)
  case first =>
    by_cases c1 : mid < en
    · have c1' : (mid : Int) < (en : Int) := by omega
      by_cases c2 : en < b
      · have c2' : (en : Int) < (b : Int) := by omega
        have hx : Hid (mid < en ∧ en < b) := Lib.hid ⟨c1, c2⟩
        clear c1 c2
        go_wp2
        go_meet
        case rel => exact ⟨true, rfl, Lib.hid (iff_of_true rfl hx.out), rfl⟩
      · have c2' : ¬ (en : Int) < (b : Int) := by omega
        have hx : Hid (false = true ↔ (mid < en ∧ en < b)) := Lib.hid ⟨fun q => Bool.noConfusion q, fun q => absurd q.2 c2⟩
        clear c1 c2
        go_wp2
        go_meet
        case rel => exact ⟨false, rfl, hx, rfl⟩
    · have c1' : ¬ (mid : Int) < (en : Int) := by omega
      have hx : Hid (false = true ↔ (mid < en ∧ en < b)) := Lib.hid ⟨fun q => Bool.noConfusion q, fun q => absurd q.1 c1⟩
      clear c1
      go_wp2
      go_meet
      case rel => exact ⟨false, rfl, hx, rfl⟩
  case rest =>
    obtain ⟨q, rfl, hq, hwc⟩ := hcut
    rw [hwc]
    clear hwc
    obtain ⟨p1, p2, p3, p4, p5, p6, p7⟩ := HPt.out
    obtain ⟨M1, o1, o2, o3⟩ := HM1.out
    have ol := o2.length_eq
    simp only [List.length_append] at ol
    cases q with
    | true =>
      have h2 := hq.out.1 rfl
      have HC := Lib.hid (IH.out (P ++ M1) L2 R2 Q W2 HFF.out.2 (by simpa using o3) (by simp; omega) HSS.out.1.2 HSS.out.2.2 (List.length_pos_iff.1 (by omega)) (List.length_pos_iff.1 (by omega)) (N := N) (a := mid) (m := en) (b := b) (by simp; omega) (by simp; omega) (by omega) (by omega))
      have HO := Lib.hid (And.intro o1 o2)
      clear p1 p2 p3 p4 p5 p6 p7 h2 o1 o2 o3 ol
      go_wp2_with (go_at_call 152; refine HC.out.mono ?_; clear HC; rintro e w1 ⟨rfl, hR1, hK1⟩)
      go_end0
      obtain ⟨M2, o3, o4, o5⟩ := hR1
      have hj := Sd.join HLE.out HO.out.1 o3 HO.out.2 o4
      exact ⟨rfl, ⟨M1 ++ M2, hj.1, by rw [HJ.out.1, HJ.out.2]; exact hj.2, by simpa using o5⟩, HK2.out.then' hK1⟩
    | false =>
      have hs : Sd (L2 ++ R2) := by
        by_cases z1 : mid < en
        · have : R2 = [] := List.eq_nil_of_length_eq_zero (by have : ¬ en < b := fun z => Bool.noConfusion (hq.out.2 ⟨z1, z⟩); omega)
          rw [this]; simpa using HSS.out.1.2
        · have : L2 = [] := List.eq_nil_of_length_eq_zero (by omega)
          rw [this]; simpa using HSS.out.2.2
      have hj := Lib.hid (Sd.join HLE.out o1 hs o2 (.refl _))
      have HO := Lib.hid o3
      clear p1 p2 p3 p4 p5 p6 p7 o1 o2 o3 ol hs
      go_wp2
      go_end0
      exact ⟨rfl, ⟨M1 ++ (L2 ++ R2), hj.out.1, by rw [HJ.out.1, HJ.out.2]; exact hj.out.2, by simpa using HO.out⟩, HK2.out⟩
set_option maxRecDepth 100000 in
set_option maxHeartbeats 16000000 in
theorem sm_t2 (g cap : Nat) (ok : Nat → Prop) (f : Nat) (IH : Hid (SmAll g cap ok f)) (P L R L1 L2 R1 R2 Q : List Tm) (w0 : World) (N a m b i en mid : Nat) (hn : N ≤ 1000000) (hNc : N ≤ cap) (HP : Hid (SmP f P L R L1 L2 R1 R2 Q N a m b i en mid))
    (W1 : World) (HR1 : Hid (Rw g cap ok (P ++ (L1 ++ (R1 ++ (L2 ++ (R2 ++ Q))))) W1)) (HK1 : Hid (Keeps (fun k => k = g) w0 W1))
    {u5 u6 u7 u8 u9 u10 u11 u12 u13 u14 u15 u16 u17 u19 u21 u22 u23 u25 u26 u27 u28 u29 u30 u31 u32 u33 u34 u35 u36 u37 u38 u39 u40 u41 u42 u43 u44 u45 u46 u47 u48 u49 u50 u51 u52 u53 u54 u55 u56 u57 u58 u59 u60 u61 u62 u63 u64 u65 u66 u67 u68 u69 u70 u71 u72 u73 u74 u75 u76 u77 u78 u79 u80 u81 u82 u83 u84 u85 u86 u87 u88 u89 u90 u91 u92 u93 u94 u95 u96 u97 u98 u99 u100 u101 u102 u103 u104 u105 u106 u107 u108 u109 u110 u111 u112 u113 u114 u115 u116 u117 u118 u119 u120 u121 u122 u123 u124 u125 u126 u127 u128 u129 u130 u131 u132 u133 u134 u135 u136 u137 u138 u139 u140 u141 u142 u143 u144 u145 u146 u147 u148 u149 u150 u151 u152 u153 u154 u155 u156 u157 u158 u159 u160 u161 u162 u163 u164 u165 u166 u167 u168 u169 u170 u171 u172 u173 u174 u175 u176 u177 u178 u179 u180 u181 u182 u183 u184 u185 u186 u187 u188 u189 u190 u191 u192 u193 u194 u195 u196 u197 u198 u199 u200 u201 u202 u203 u204 u205 u206 u207 u208 u209 u210 u211 u212 u213 u214 u215 u216 u217 u218 u219 : Value} :
    Code.wp Try.prog (Try.smTail 41) (bodyPost Try.prog Try.f152 fun e w' => e = .returned (.tuple #[]) ∧ (∃ M, Sd M ∧ M.Perm (L ++ R) ∧ Rw g cap ok (P ++ (M ++ Q)) w') ∧ Keeps (fun k => k = g) w0 w') ⟨#[.slice (some ⟨g, 0, none⟩) N cap, .int .i64 (a : Int), .int .i64 (m : Int), .int .i64 (b : Int), .func (.func 51) #[] #[], u5, u6, u7, u8, u9, u10, u11, u12, u13, u14, u15, u16, u17, .int .i64 (mid : Int), u19, .int .i64 (i : Int), u21, u22, u23, .int .i64 (en : Int), u25, u26, u27, u28, u29, u30, u31, u32, u33, u34, u35, u36, u37, u38, u39, u40, u41, u42, u43, u44, u45, u46, u47, u48, u49, u50, u51, u52, u53, u54, u55, u56, u57, u58, u59, u60, u61, u62, u63, u64, u65, u66, u67, u68, u69, u70, u71, u72, u73, u74, u75, u76, u77, u78, u79, u80, u81, u82, u83, u84, u85, u86, u87, u88, u89, u90, u91, u92, u93, u94, u95, u96, u97, u98, u99, u100, u101, u102, u103, u104, u105, u106, u107, u108, u109, u110, u111, u112, u113, u114, u115, u116, u117, u118, u119, u120, u121, u122, u123, u124, u125, u126, u127, u128, u129, u130, u131, u132, u133, u134, u135, u136, u137, u138, u139, u140, u141, u142, u143, u144, u145, u146, u147, u148, u149, u150, u151, u152, u153, u154, u155, u156, u157, u158, u159, u160, u161, u162, u163, u164, u165, u166, u167, u168, u169, u170, u171, u172, u173, u174, u175, u176, u177, u178, u179, u180, u181, u182, u183, u184, u185, u186, u187, u188, u189, u190, u191, u192, u193, u194, u195, u196, u197, u198, u199, u200, u201, u202, u203, u204, u205, u206, u207, u208, u209, u210, u211, u212, u213, u214, u215, u216, u217, u218, u219], []⟩ W1 := by
  have HPt := Lib.hid HP.out.1
  have HFF := Lib.hid HP.out.2.1
  have HSS := Lib.hid HP.out.2.2.1
  have HLE := Lib.hid HP.out.2.2.2.1
  have HJ := Lib.hid HP.out.2.2.2.2
  conv => arg 2; whnf
  dsimp only
  refine wp_seq_k (fun K hK0 => ?_)
  refine wp_seq_k (fun K2 hK2 => ?_)
  go_cut [199] (fun d wx => ∃ q : Bool, d = .bool q ∧ Hid (q = true ↔ (a < i ∧ i < mid)) ∧ wx = W1)
  case first =>
    by_cases c1 : a < i
    · have c1' : (a : Int) < (i : Int) := by omega
      by_cases c2 : i < mid
      · have c2' : (i : Int) < (mid : Int) := by omega
        have hx : Hid (a < i ∧ i < mid) := Lib.hid ⟨c1, c2⟩
        clear c1 c2
        go_wp2
        go_meet
        case rel => exact ⟨true, rfl, Lib.hid (iff_of_true rfl hx.out), rfl⟩
      · have c2' : ¬ (i : Int) < (mid : Int) := by omega
        have hx : Hid (false = true ↔ (a < i ∧ i < mid)) := Lib.hid ⟨fun q => Bool.noConfusion q, fun q => absurd q.2 c2⟩
        clear c1 c2
        go_wp2
        go_meet
        case rel => exact ⟨false, rfl, hx, rfl⟩
    · have c1' : ¬ (a : Int) < (i : Int) := by omega
      have hx : Hid (false = true ↔ (a < i ∧ i < mid)) := Lib.hid ⟨fun q => Bool.noConfusion q, fun q => absurd q.1 c1⟩
      clear c1
      go_wp2
      go_meet
      case rel => exact ⟨false, rfl, hx, rfl⟩
  case rest =>
    obtain ⟨q, rfl, hq, hwc⟩ := hcut
    rw [hwc]
    clear hwc
    go_upto_if 199 with fail
    go_cut [] (fun wx => Hid (∃ M1, Sd M1 ∧ M1.Perm (L1 ++ R1) ∧ Rw g cap ok (P ++ (M1 ++ (L2 ++ (R2 ++ Q)))) wx) ∧ Hid (Keeps (fun k => k = g) w0 wx))
    case first =>
      obtain ⟨p1, p2, p3, p4, p5, p6, p7⟩ := HPt.out
      cases q with
      | true =>
        have h2 := hq.out.1 rfl
        have HC := Lib.hid (IH.out P L1 R1 (L2 ++ (R2 ++ Q)) W1 HFF.out.1 HR1.out (by simp; omega) HSS.out.1.1 HSS.out.2.1 (List.length_pos_iff.1 (by omega)) (List.length_pos_iff.1 (by omega)) (N := N) (a := a) (m := i) (b := mid) (by simp; omega) p7 (by omega) (by omega))
        clear p1 p2 p3 p4 p5 p6 p7 h2
        go_wp2_with (go_at_call 152; refine HC.out.mono ?_; clear HC; rintro e w1 ⟨rfl, hR1, hK1⟩)
        go_meet
        case rel => exact ⟨Lib.hid hR1, Lib.hid (HK1.out.then' hK1)⟩
      | false =>
        have HX : Hid (∃ M1, Sd M1 ∧ M1.Perm (L1 ++ R1) ∧ Rw g cap ok (P ++ (M1 ++ (L2 ++ (R2 ++ Q)))) W1) := Lib.hid ⟨L1 ++ R1, by
          by_cases z1 : a < i
          · have : R1 = [] := List.eq_nil_of_length_eq_zero (by have : ¬ i < mid := fun z => Bool.noConfusion (hq.out.2 ⟨z1, z⟩); omega)
            rw [this]; simpa using HSS.out.1.1
          · have : L1 = [] := List.eq_nil_of_length_eq_zero (by omega)
            rw [this]; simpa using HSS.out.2.1, .refl _, by simpa using HR1.out⟩
        clear p1 p2 p3 p4 p5 p6 p7
        go_wp2
        go_meet
        case rel => exact ⟨HX, HK1⟩
    case rest =>
      obtain ⟨HM1, HK2⟩ := hcut
      have hK := (by assumption : ∀ (a' : Act) (w' : World), Code.wp _ _ _ a' w' → _)
      refine hK _ _ ?_
      exact sm_t3 g cap ok f IH P L R L1 L2 R1 R2 Q w0 N a m b i en mid hn hNc HP _ HM1 HK2
set_option maxRecDepth 100000 in
set_option maxHeartbeats 16000000 in
theorem sm_t1 (g cap : Nat) (ok : Nat → Prop) (f : Nat) (IH : Hid (SmAll g cap ok f)) (P L R L1 L2 R1 R2 Q : List Tm) (w0 : World) (N a m b i en mid : Nat) (hn : N ≤ 1000000) (hNc : N ≤ cap) (HP : Hid (SmP f P L R L1 L2 R1 R2 Q N a m b i en mid))
    (wr : World) (HR0 : Hid (Rw g cap ok (P ++ (L1 ++ (L2 ++ (R1 ++ (R2 ++ Q))))) wr)) (HK0 : Hid (Keeps (fun k => k = g) w0 wr)) (n : Nat) (hwn : IntKind.i64.wrap ((n : Int) - (i : Int)) = (en : Int))
    {u5 u6 u7 u8 u9 u10 u11 u12 u13 u14 u15 u16 u17 u21 u22 u23 u24 u25 u26 u27 u28 u29 u30 u31 u32 u33 u34 u35 u36 u37 u38 u39 u40 u41 u42 u43 u44 u45 u46 u47 u48 u49 u50 u51 u52 u53 u54 u55 u56 u57 u58 u59 u60 u61 u62 u63 u64 u65 u66 u67 u68 u69 u70 u71 u72 u73 u74 u75 u76 u77 u78 u79 u80 u81 u82 u83 u84 u85 u86 u87 u88 u89 u90 u91 u92 u93 u94 u95 u96 u97 u98 u99 u100 u101 u102 u103 u104 u105 u106 u107 u108 u109 u110 u111 u112 u113 u114 u115 u116 u117 u118 u119 u120 u121 u122 u123 u124 u125 u126 u127 u128 u129 u130 u131 u132 u133 u134 u135 u136 u137 u138 u139 u140 u141 u142 u143 u144 u145 u146 u147 u148 u149 u150 u151 u152 u153 u154 u155 u156 u157 u158 u159 u160 u161 u162 u163 u164 u165 u166 u167 u168 u169 u170 u171 u172 u173 u174 u175 u176 u177 u178 u179 u180 u181 u182 u183 u184 u185 u186 u187 u188 u189 u190 u191 u192 u193 u194 u195 u196 u197 u198 u199 u200 u201 u202 u203 u204 u205 u206 u207 u208 u209 u210 u211 u212 u213 u214 u215 u216 u217 u218 u219 : Value} :
    Code.wp Try.prog (Try.smTail 38) (bodyPost Try.prog Try.f152 fun e w' => e = .returned (.tuple #[]) ∧ (∃ M, Sd M ∧ M.Perm (L ++ R) ∧ Rw g cap ok (P ++ (M ++ Q)) w') ∧ Keeps (fun k => k = g) w0 w') ⟨#[.slice (some ⟨g, 0, none⟩) N cap, .int .i64 (a : Int), .int .i64 (m : Int), .int .i64 (b : Int), .func (.func 51) #[] #[], u5, u6, u7, u8, u9, u10, u11, u12, u13, u14, u15, u16, u17, .int .i64 (mid : Int), .int .i64 (n : Int), .int .i64 (i : Int), u21, u22, u23, u24, u25, u26, u27, u28, u29, u30, u31, u32, u33, u34, u35, u36, u37, u38, u39, u40, u41, u42, u43, u44, u45, u46, u47, u48, u49, u50, u51, u52, u53, u54, u55, u56, u57, u58, u59, u60, u61, u62, u63, u64, u65, u66, u67, u68, u69, u70, u71, u72, u73, u74, u75, u76, u77, u78, u79, u80, u81, u82, u83, u84, u85, u86, u87, u88, u89, u90, u91, u92, u93, u94, u95, u96, u97, u98, u99, u100, u101, u102, u103, u104, u105, u106, u107, u108, u109, u110, u111, u112, u113, u114, u115, u116, u117, u118, u119, u120, u121, u122, u123, u124, u125, u126, u127, u128, u129, u130, u131, u132, u133, u134, u135, u136, u137, u138, u139, u140, u141, u142, u143, u144, u145, u146, u147, u148, u149, u150, u151, u152, u153, u154, u155, u156, u157, u158, u159, u160, u161, u162, u163, u164, u165, u166, u167, u168, u169, u170, u171, u172, u173, u174, u175, u176, u177, u178, u179, u180, u181, u182, u183, u184, u185, u186, u187, u188, u189, u190, u191, u192, u193, u194, u195, u196, u197, u198, u199, u200, u201, u202, u203, u204, u205, u206, u207, u208, u209, u210, u211, u212, u213, u214, u215, u216, u217, u218, u219], []⟩ wr := by
  have HPt := Lib.hid HP.out.1
  have HFF := Lib.hid HP.out.2.1
  have HSS := Lib.hid HP.out.2.2.1
  have HLE := Lib.hid HP.out.2.2.2.1
  have HJ := Lib.hid HP.out.2.2.2.2
  conv => arg 2; whnf
  go_upto_region 39 with fail
  go_cut [185] (fun d wx => ∃ q : Bool, d = .bool q ∧ Hid (q = true ↔ (i < m ∧ m < en)) ∧ wx = wr)
  case first =>
    by_cases c1 : i < m
    · have c1' : (i : Int) < (m : Int) := by omega
      by_cases c2 : m < en
      · have c2' : (m : Int) < (en : Int) := by omega
        have hx : Hid (i < m ∧ m < en) := Lib.hid ⟨c1, c2⟩
        clear c1 c2
        go_wp2
        go_meet
        case rel => exact ⟨true, rfl, Lib.hid (iff_of_true rfl hx.out), rfl⟩
      · have c2' : ¬ (m : Int) < (en : Int) := by omega
        have hx : Hid (false = true ↔ (i < m ∧ m < en)) := Lib.hid ⟨fun q => Bool.noConfusion q, fun q => absurd q.2 c2⟩
        clear c1 c2
        go_wp2
        go_meet
        case rel => exact ⟨false, rfl, hx, rfl⟩
    · have c1' : ¬ (i : Int) < (m : Int) := by omega
      have hx : Hid (false = true ↔ (i < m ∧ m < en)) := Lib.hid ⟨fun q => Bool.noConfusion q, fun q => absurd q.1 c1⟩
      clear c1
      go_wp2
      go_meet
      case rel => exact ⟨false, rfl, hx, rfl⟩
  case rest =>
    obtain ⟨q, rfl, hq, hwc⟩ := hcut
    rw [hwc]
    clear hwc
    go_upto_if 185 with fail
    go_cut [] (fun wx => Hid (Rw g cap ok (P ++ (L1 ++ (R1 ++ (L2 ++ (R2 ++ Q))))) wx) ∧ Hid (Keeps (fun k => k = g) w0 wx))
    case first =>
      obtain ⟨p1, p2, p3, p4, p5, p6, p7⟩ := HPt.out
      cases q with
      | true =>
        have h2 := hq.out.1 rfl
        have HC := Lib.hid (rotate_c g cap ok (P ++ L1) L2 R1 (R2 ++ Q) wr (by have := HR0.out; simpa using this) (by simp; omega) (List.length_pos_iff.1 (by omega)) (List.length_pos_iff.1 (by omega)) (N := N) (a := i) (m := m) (b := en) (by simp; omega) (by simp; omega) (by simp; omega) (by simp; omega))
        clear p1 p2 p3 p4 p5 p6 p7 h2
        go_wp2_with (go_at_call 159; refine HC.out.mono ?_; clear HC; rintro e w1 ⟨rfl, hR1, hK1⟩)
        go_meet
        case rel => exact ⟨Lib.hid (by simpa using hR1), Lib.hid (HK0.out.then' hK1)⟩
      | false =>
        have hE : L2 = [] ∨ R1 = [] := by
          by_cases z1 : i < m
          · exact .inr (List.eq_nil_of_length_eq_zero (by have : ¬ m < en := fun z => Bool.noConfusion (hq.out.2 ⟨z1, z⟩); omega))
          · exact .inl (List.eq_nil_of_length_eq_zero (by omega))
        have HX : Hid (Rw g cap ok (P ++ (L1 ++ (R1 ++ (L2 ++ (R2 ++ Q))))) wr) := Lib.hid (by
          have h := HR0.out
          rcases hE with e | e
          · rw [e] at h ⊢; simpa using h
          · rw [e] at h ⊢; simpa using h)
        clear p1 p2 p3 p4 p5 p6 p7 hE
        go_wp2
        go_meet
        case rel => exact ⟨HX, HK0⟩
    case rest =>
      obtain ⟨HR1, HK1⟩ := hcut
      have hK := (by assumption : ∀ (a' : Act) (w' : World), Code.wp _ _ _ a' w' → _)
      refine hK _ _ ?_
      exact sm_t2 g cap ok f IH P L R L1 L2 R1 R2 Q w0 N a m b i en mid hn hNc HP _ HR1 HK1
end Go.Proofs.Ytdflckjnpgbjlaa

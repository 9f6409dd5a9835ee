/- The law of layer 2 wakes. No condition. -/
import Derived.Test.YtdflckjnpgbjlaaWp
import Derived.Test.YtdflckjnpgbjlaaWn
set_option linter.unusedVariables false
set_option maxRecDepth 20000
set_option linter.unusedSimpArgs false
namespace Go.Proofs.Ytdflckjnpgbjlaa
open Go.RowKit

def kA (s : ByteArray) : Tm := ⟨3, s, 0, []⟩
def kI (n : Int) : Tm := ⟨2, ⟨#[]⟩, n, []⟩
theorem F2A_c (s x y : ByteArray) {w W : World} {L : List (List Tm × Value)} (h : Ks w L W) :
    Calls Try.prog 22 #[.string s, .slice (some ⟨W.heap.size, 0, none⟩) 2 2] (W.alloc (.cells #[.int .u8 3, .string x, .int .i64 0, .slice none 0 0, .int .u8 3, .string y, .int .i64 0, .slice none 0 0] 24))
      fun e w' => ∃ A c, e = .returned (.agg #[.int .u8 4, .string s, .int .i64 0, .slice A 2 c]) ∧ Ks w (([kA x, kA y], .slice A 2 c) :: L) w' :=
  F_known s (kA x) [kA y] (h.two (kA x) (kA y) _ _ (Kd.S.nil _ _ _) (Kd.S.nil _ _ _)) (by simp)
theorem F1A_c (s x : ByteArray) {w W : World} {L : List (List Tm × Value)} (h : Ks w L W) :
    Calls Try.prog 22 #[.string s, .slice (some ⟨W.heap.size, 0, none⟩) 1 1] (W.alloc (.cells #[.int .u8 3, .string x, .int .i64 0, .slice none 0 0] 24))
      fun e w' => ∃ A c, e = .returned (.agg #[.int .u8 4, .string s, .int .i64 0, .slice A 1 c]) ∧ Ks w (([kA x], .slice A 1 c) :: L) w' :=
  F_known s (kA x) [] (h.one (kA x) _ (Kd.S.nil _ _ _)) (by simp)
theorem five_at (W : World) (t1 t2 t3 t4 t5 : Tm) (u1 u2 u3 u4 u5 : Value) (h1 : Kd.tm.S W (fun _ => True) t1.l u1) (h2 : Kd.tm.S W (fun _ => True) t2.l u2) (h3 : Kd.tm.S W (fun _ => True) t3.l u3) (h4 : Kd.tm.S W (fun _ => True) t4.l u4) (h5 : Kd.tm.S W (fun _ => True) t5.l u5) :
    Kd.tm.S (W.alloc (.cells #[.int .u8 t1.k, .string t1.s, .int .i64 t1.n, u1, .int .u8 t2.k, .string t2.s, .int .i64 t2.n, u2, .int .u8 t3.k, .string t3.s, .int .i64 t3.n, u3, .int .u8 t4.k, .string t4.s, .int .i64 t4.n, u4, .int .u8 t5.k, .string t5.s, .int .i64 t5.n, u5] 24)) (fun _ => True) [t1, t2, t3, t4, t5] (.slice (some ⟨W.heap.size, 0, none⟩) 5 5) :=
  Kd.S.mono (fun _ _ => trivial) (Kd.Own.S (Kd.Own.lit (d := Kd.tm) (e := 24) (base := W.heap.size) (ok := fun _ => True) (xs := [t1, t2, t3, t4, t5]) [.int .u8 t1.k, .string t1.s, .int .i64 t1.n, u1, .int .u8 t2.k, .string t2.s, .int .i64 t2.n, u2, .int .u8 t3.k, .string t3.s, .int .i64 t3.n, u3, .int .u8 t4.k, .string t4.s, .int .i64 t4.n, u4, .int .u8 t5.k, .string t5.s, .int .i64 t5.n, u5] (Nat.le_refl _) rfl (by simp [maxLen]) (fun j z hz => by
    match j, hz with
    | 0, hz => simp at hz; subst hz; exact TmK_iff.2 ⟨u1, rfl, h1⟩
    | 1, hz => simp at hz; subst hz; exact TmK_iff.2 ⟨u2, rfl, h2⟩
    | 2, hz => simp at hz; subst hz; exact TmK_iff.2 ⟨u3, rfl, h3⟩
    | 3, hz => simp at hz; subst hz; exact TmK_iff.2 ⟨u4, rfl, h4⟩
    | 4, hz => simp at hz; subst hz; exact TmK_iff.2 ⟨u5, rfl, h5⟩
    | j + 5, hz => simp at hz)))
def kfab : Tm := ⟨4, ⟨#[102]⟩, 0, [kA ⟨#[97]⟩, kA ⟨#[98]⟩]⟩
def kga : Tm := ⟨4, ⟨#[103]⟩, 0, [kA ⟨#[97]⟩]⟩
def kfb : Tm := ⟨4, ⟨#[102]⟩, 0, [kA ⟨#[98]⟩]⟩
theorem sorted_five : srt 5 [kfab, kga, kA ⟨#[97]⟩, kI 7, kV 9] = [kV 9, kI 7, kA ⟨#[97]⟩, kga, kfab] := by
  have c1 : cmpT kga kfab = -1 := by simp [kga, kfab, kA, cmpT, orI, cmpI]
  have c2 : cmpT (kA ⟨#[97]⟩) kfab = -1 := by simp [kga, kfab, kA, cmpT, orI, cmpI]
  have c3 : cmpT (kA ⟨#[97]⟩) kga = -1 := by simp [kga, kfab, kA, cmpT, orI, cmpI]
  have c4 : cmpT (kI 7) kfab = -1 := by simp [kI, kga, kfab, kA, cmpT, orI, cmpI]
  have c5 : cmpT (kI 7) kga = -1 := by simp [kI, kga, kfab, kA, cmpT, orI, cmpI]
  have c6 : cmpT (kI 7) (kA ⟨#[97]⟩) = -1 := by simp [kI, kga, kfab, kA, cmpT, orI, cmpI]
  have c7 : cmpT (kV 9) kfab = -1 := by simp [kV, kga, kfab, kA, cmpT, orI, cmpI]
  have c8 : cmpT (kV 9) kga = -1 := by simp [kV, kga, kfab, kA, cmpT, orI, cmpI]
  have c9 : cmpT (kV 9) (kA ⟨#[97]⟩) = -1 := by simp [kV, kga, kfab, kA, cmpT, orI, cmpI]
  have c10 : cmpT (kV 9) (kI 7) = -1 := by simp [kV, kI, kga, kfab, kA, cmpT, orI, cmpI]
  simp [srt, List.range_succ, insJ, c1, c2, c3, c4, c5, c6, c7, c8, c9, c10]
theorem cmp_12 : cmpT (kV 1) (kV 2) = -1 := by simp [kV, cmpT, orI, cmpI]
theorem cmp_gf : cmpT kga kfb = 1 := by
  have : cmpS ⟨#[103]⟩ ⟨#[102]⟩ = 1 := by rw [cmpS_tx]; simp [tx, Op.bytesLess]
  simp [kga, kfb, cmpT, orI, cmpI, this]
theorem five_heads {W : World} {ok : Nat → Prop} {g cap : Nat} (h : Kd.tm.S W ok [kV 9, kI 7, kA ⟨#[97]⟩, kga, kfab] (.slice (some ⟨g, 0, none⟩) 5 cap)) :
    W.cell? ⟨g, 0, none⟩ = some (.int .u8 1) ∧ W.cell? ⟨g, 4, none⟩ = some (.int .u8 2) ∧ W.cell? ⟨g, 8, none⟩ = some (.int .u8 3) ∧ W.cell? ⟨g, 13, none⟩ = some (.string ⟨#[103]⟩) := by
  obtain ⟨_, _, e, _, _, hA⟩ := h
  injection e with e1 e2 e3
  subst e1 e3
  obtain ⟨b0, o0, u0, h0, _, _, a0, _⟩ := tm_elem hA (j := 0) (by simp)
  obtain ⟨b1, o1, u1, h1, _, _, a1, _⟩ := tm_elem hA (j := 1) (by simp)
  obtain ⟨b2, o2, u2, h2, _, _, a2, _⟩ := tm_elem hA (j := 2) (by simp)
  obtain ⟨b3, o3, u3, h3, _, _, _, a3, _⟩ := tm_elem hA (j := 3) (by simp)
  injection h0 with h0; injection h0 with p0 q0; subst p0 q0
  injection h1 with h1; injection h1 with p0 q0; subst p0 q0
  injection h2 with h2; injection h2 with p0 q0; subst p0 q0
  injection h3 with h3; injection h3 with p0 q0; subst p0 q0
  exact ⟨a0, a1, a2, a3⟩
set_option maxRecDepth 100000 in
set_option maxHeartbeats 8000000 in
theorem wakes02_c (w : World) :
    Calls Try.prog 46 #[] w fun e w' => e = .returned (.bool true) ∧ Below w.heap.size w w' := by
  have hk := Ks.start w
  have m1 : Hid (0 = 0) := Lib.hid rfl
  go_enter Try.func46, Try.ntmps46
  go_wp2_with (first
    | (go_at_call 52; refine (A_c _ _ (fun _ => True)).mono ?_; rintro e w1 ⟨rfl, hb1⟩; replace hk := hk.then hb1; clear hb1)
    | (go_at_call 56; refine (I_c _ _ (fun _ => True)).mono ?_; rintro e w1 ⟨rfl, hb1⟩; replace hk := hk.then hb1; clear hb1)
    | (go_at_call 25; refine (V_c _ _ (fun _ => True)).mono ?_; rintro e w1 ⟨rfl, hb1⟩; replace hk := hk.then hb1; clear hb1)
    | (go_at_call_has 22 (Value.slice (some ⟨w1.heap.size, 0, none⟩) 2 2); refine (F2A_c _ _ _ hk).mono ?_; rintro e w2 ⟨fA, fc, rfl, hk2⟩; replace hk := hk2; clear hk2)
    | (go_at_call 22; refine (F1A_c _ _ hk).mono ?_; rintro e w2 ⟨gA, gc, rfl, hk2⟩; replace hk := hk2; clear hk2)
    | (go_at_call 47; have hS0 := five_at _ kfab kga (kA ⟨#[97]⟩) (kI 7) (kV 9) _ _ _ _ _ (hk.get (List.mem_cons_of_mem _ (List.mem_cons_self ..))) (hk.get (List.mem_cons_self ..)) (Kd.S.nil _ _ _) (Kd.S.nil _ _ _) (Kd.S.nil _ _ _); have hq := Sort_c [kfab, kga, kA ⟨#[97]⟩, kI 7, kV 9] _ _ _ hS0 (by simp) (by simp); rw [show [kfab, kga, kA ⟨#[97]⟩, kI 7, kV 9].length = 5 from rfl, sorted_five] at hq; refine hq.mono ?_; clear hq hS0; rintro e w3 ⟨⟨g, cap, rfl, hS⟩, hb3⟩; replace hk := (hk.alloc _).then hb3; obtain ⟨c0, c1, c2, c3⟩ := five_heads hS; have hcap := hS.cap; clear hS hb3)
    | (go_at_call 51; have hx := m1.out; clear hx m1; have hq := fun W => Compare_c (kV 1) (kV 2) W (fun _ => True) (fun _ => True) _ _ ⟨_, rfl, Kd.S.nil _ _ _⟩ ⟨_, rfl, Kd.S.nil _ _ _⟩; rw [cmp_12] at hq; refine (hq _).mono ?_; clear hq; rintro e w4 ⟨rfl, hb4⟩; replace hk := hk.then hb4; clear hb4)
    | (go_at_call 51; go_loud (have hq := Compare_c kga kfb _ (fun _ => True) (fun _ => True) _ _ ⟨_, rfl, hk.get (List.mem_cons_of_mem _ (List.mem_cons_self ..))⟩ ⟨_, rfl, hk.get (List.mem_cons_self ..)⟩; rw [cmp_gf] at hq; refine hq.mono ?_; clear hq; rintro e w5 ⟨rfl, hb5⟩; replace hk := hk.then hb5; clear hb5)))
  go_ret
  exact ⟨rfl, hk.below⟩
end Go.Proofs.Ytdflckjnpgbjlaa

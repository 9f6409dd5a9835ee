/- The law UnifyApart, walked. Conditions: the argument reads; what it is made of is in its bounds. -/
import Derived.Test.YtdflckjnpgbjlaaUd
set_option linter.unusedVariables false
set_option maxRecDepth 20000
set_option linter.unusedSimpArgs false
namespace Go.Proofs.Ytdflckjnpgbjlaa
open Go.RowKit

mutual
theorem mv_siz (d : Int) : ∀ t : Tm, (t.mv d).siz = t.siz
  | ⟨k, s, n, l⟩ => by simp only [Tm.mv, Tm.siz, mvL_siz d l]
theorem mvL_siz (d : Int) : ∀ l : List Tm, sizL (mvL d l) = sizL l
  | [] => rfl
  | t :: ts => by simp only [mvL, sizL, mv_siz d t, mvL_siz d ts]
end
mutual
theorem mv_wf (d : Int) (hd : 0 ≤ d ∧ d ≤ 1099511627776) : ∀ t : Tm, t.Wf → (∀ n ∈ t.occ, 0 ≤ n ∧ n < 100) → (t.mv d).Wf
  | ⟨k, s, n, l⟩, h, ho => by
    simp only [Tm.Wf] at h
    simp only [Tm.mv, Tm.Wf]
    refine ⟨h.1, ?_, h.2.2.1, mvL_wf d hd l h.2.2.2 (fun n hn => ho n (by simp only [Tm.occ, List.mem_append]; exact .inr hn))⟩
    split
    · rename_i hk
      have := ho n (by simp [Tm.occ, hk])
      omega
    · exact h.2.1
theorem mvL_wf (d : Int) (hd : 0 ≤ d ∧ d ≤ 1099511627776) : ∀ l : List Tm, WfL l → (∀ n ∈ occL l, 0 ≤ n ∧ n < 100) → WfL (mvL d l)
  | [], _, _ => trivial
  | t :: ts, h, ho => ⟨mv_wf d hd t h.1 (fun n hn => ho n (by simp [occL, hn])), mvL_wf d hd ts h.2 (fun n hn => ho n (by simp [occL, hn]))⟩
end
mutual
theorem vok_occ : ∀ t : Tm, t.vok → ∀ n ∈ t.occ, 0 ≤ n
  | ⟨k, s, q, l⟩, h, n, hn => by
    have h' := vok_def.1 h
    simp only [Tm.occ, List.mem_append] at hn
    rcases hn with hn | hn
    · split at hn
      · rename_i hk
        rw [List.mem_singleton] at hn; subst hn; exact (h'.1 hk).2.2
      · cases hn
    · exact vokL_occ l (vokL_iff.2 h'.2) n hn
theorem vokL_occ : ∀ l : List Tm, vokL l → ∀ n ∈ occL l, 0 ≤ n
  | [], _, n, hn => by simp [occL] at hn
  | t :: ts, h, n, hn => by
    simp only [occL, List.mem_append] at hn
    exact hn.elim (vok_occ t h.1 n) (vokL_occ ts h.2 n)
end
/-- A term in a box: what is known along a law's walk. -/
structure Ka (w : World) (t : Tm) (ut : Value) (W : World) : Prop where
  b0 : Below w.heap.size w W
  x1 : W.heap[w.heap.size]? = some (.cells #[.int .u8 t.k, .string t.s, .int .i64 t.n, ut] 24 (0, 0))
  s1 : Kd.tm.S W (fun _ => True) t.l ut
/-- And a slice of variables. -/
structure Kb (w : World) (t : Tm) (ut : Value) (vs : List Int) (vv : Value) (W : World) : Prop where
  a : Ka w t ut W
  v : (Kd.int .i64).S W (fun _ => True) vs vv
/-- And one more term in a box. -/
structure Kc (w : World) (t : Tm) (ut : Value) (vs : List Int) (vv : Value) (B : Nat) (s : Tm) (us : Value) (W : World) : Prop where
  b : Kb w t ut vs vv W
  x2 : Bt W B s us
section
variable {w W W' : World} {s t : Tm} {us ut vv : Value} {vs : List Int} {B : Nat}
theorem Ka.then (h : Ka w t ut W) (hb : Below W.heap.size W W') : Ka w t ut W' := ⟨below_then h.b0 h.b0.size hb, block_below hb (Array.getElem?_eq_some_iff.1 h.x1).1 h.x1, h.s1.below hb⟩
theorem Kb.then (h : Kb w t ut vs vv W) (hb : Below W.heap.size W W') : Kb w t ut vs vv W' := ⟨h.a.then hb, h.v.below hb⟩
theorem Kc.then (h : Kc w t ut vs vv B s us W) (hb : Below W.heap.size W W') : Kc w t ut vs vv B s us W' := ⟨h.b.then hb, h.x2.below hb⟩
theorem Ka.alloc (h : Ka w t ut W) (O : Obj) : Ka w t ut (W.alloc O) := h.then ((Below.refl _ W).alloc (Nat.le_refl _) O)
theorem Kb.alloc (h : Kb w t ut vs vv W) (O : Obj) : Kb w t ut vs vv (W.alloc O) := h.then ((Below.refl _ W).alloc (Nat.le_refl _) O)
theorem Kc.alloc (h : Kc w t ut vs vv B s us W) (O : Obj) : Kc w t ut vs vv B s us (W.alloc O) := h.then ((Below.refl _ W).alloc (Nat.le_refl _) O)
theorem Ka.cells (h : Ka w t ut W) : W.cell? ⟨w.heap.size, 0, none⟩ = some (.int .u8 t.k) ∧ W.cell? ⟨w.heap.size, 1, none⟩ = some (.string t.s) ∧ W.cell? ⟨w.heap.size, 2, none⟩ = some (.int .i64 t.n) ∧ W.cell? ⟨w.heap.size, 3, none⟩ = some ut :=
  ⟨(box4 h.x1).1, (box4 h.x1).2.1, (box4 h.x1).2.2.1, (box4 h.x1).2.2.2.1⟩
theorem Kc.cells (h : Kc w t ut vs vv B s us W) : W.cell? ⟨w.heap.size, 0, none⟩ = some (.int .u8 t.k) ∧ W.cell? ⟨w.heap.size, 1, none⟩ = some (.string t.s) ∧ W.cell? ⟨w.heap.size, 2, none⟩ = some (.int .i64 t.n) ∧ W.cell? ⟨w.heap.size, 3, none⟩ = some ut ∧
    W.cell? ⟨B, 0, none⟩ = some (.int .u8 s.k) ∧ W.cell? ⟨B, 1, none⟩ = some (.string s.s) ∧ W.cell? ⟨B, 2, none⟩ = some (.int .i64 s.n) ∧ W.cell? ⟨B, 3, none⟩ = some us :=
  ⟨h.b.a.cells.1, h.b.a.cells.2.1, h.b.a.cells.2.2.1, h.b.a.cells.2.2.2, h.x2.cells.1, h.x2.cells.2.1, h.x2.cells.2.2.1, h.x2.cells.2.2.2⟩
end
set_option maxRecDepth 100000 in
set_option maxHeartbeats 16000000 in
theorem apart_great {w : World} {t : Tm} {A : Option Addr} {c : Nat} {d : Int}
    (HK : Hid (Ka w t (.slice A t.l.length c) (w.alloc (.cells #[.int .u8 t.k, .string t.s, .int .i64 t.n, .slice A t.l.length c] 24))))
    (HG : Hid (∀ W B, Kd.tm.S W (fun _ => True) [t] (.slice (some ⟨B, 0, none⟩) 1 1) → Calls Try.prog 15 #[.slice (some ⟨B, 0, none⟩) 1 1] W fun e w' => e = .returned (.bool true) ∧ Below W.heap.size W w'))
    :
    Calls Try.prog 5 #[.agg #[.int .u8 t.k, .string t.s, .int .i64 t.n, .slice A t.l.length c], .int .i64 d] w fun e w' => e = .returned (.bool true) ∧ Below w.heap.size w w' := by
  go_enter Try.func5, Try.ntmps5
  go_wp2_with (first
    | (go_at_call 15; have hq := HG.out _ _ (lit1_at (heap_new (w.alloc (.cells #[.int .u8 t.k, .string t.s, .int .i64 t.n, .slice A t.l.length c] 24)) (.cells #[.int .u8 t.k, .string t.s, .int .i64 t.n, .slice A t.l.length c] 24)) (HK.out.alloc _).s1); rw [World.size_alloc] at hq; refine hq.mono ?_; clear hq HG; rintro e w1 ⟨rfl, hb1⟩; have h := (HK.out.alloc _).then hb1; clear hb1 HK; obtain ⟨c0, c1, c2, c3⟩ := h.cells)
    | (go_at_call 17; refine (wakes04_c _).mono ?_; rintro e w9 ⟨rfl, hb9⟩))
  go_ret
  exact ⟨rfl, below_then h.b0 h.b0.size hb9⟩
set_option maxRecDepth 100000 in
set_option maxHeartbeats 16000000 in
theorem apart_lo {w : World} {t : Tm} {A : Option Addr} {c : Nat} {d : Int}
    (HK : Hid (Ka w t (.slice A t.l.length c) (w.alloc (.cells #[.int .u8 t.k, .string t.s, .int .i64 t.n, .slice A t.l.length c] 24))))
    (HG : Hid (∀ W B, Kd.tm.S W (fun _ => True) [t] (.slice (some ⟨B, 0, none⟩) 1 1) → Calls Try.prog 15 #[.slice (some ⟨B, 0, none⟩) 1 1] W fun e w' => e = .returned (.bool false) ∧ Below W.heap.size W w'))
    (l1 : d < 100) :
    Calls Try.prog 5 #[.agg #[.int .u8 t.k, .string t.s, .int .i64 t.n, .slice A t.l.length c], .int .i64 d] w fun e w' => e = .returned (.bool true) ∧ Below w.heap.size w w' := by
  go_enter Try.func5, Try.ntmps5
  go_wp2_with (first
    | (go_at_call 15; have hq := HG.out _ _ (lit1_at (heap_new (w.alloc (.cells #[.int .u8 t.k, .string t.s, .int .i64 t.n, .slice A t.l.length c] 24)) (.cells #[.int .u8 t.k, .string t.s, .int .i64 t.n, .slice A t.l.length c] 24)) (HK.out.alloc _).s1); rw [World.size_alloc] at hq; refine hq.mono ?_; clear hq HG; rintro e w1 ⟨rfl, hb1⟩; have h := (HK.out.alloc _).then hb1; clear hb1 HK; obtain ⟨c0, c1, c2, c3⟩ := h.cells)
    | (go_at_call 17; refine (wakes04_c _).mono ?_; rintro e w9 ⟨rfl, hb9⟩))
  go_ret
  exact ⟨rfl, below_then h.b0 h.b0.size hb9⟩
set_option maxRecDepth 100000 in
set_option maxHeartbeats 16000000 in
theorem apart_hi {w : World} {t : Tm} {A : Option Addr} {c : Nat} {d : Int}
    (HK : Hid (Ka w t (.slice A t.l.length c) (w.alloc (.cells #[.int .u8 t.k, .string t.s, .int .i64 t.n, .slice A t.l.length c] 24))))
    (HG : Hid (∀ W B, Kd.tm.S W (fun _ => True) [t] (.slice (some ⟨B, 0, none⟩) 1 1) → Calls Try.prog 15 #[.slice (some ⟨B, 0, none⟩) 1 1] W fun e w' => e = .returned (.bool false) ∧ Below W.heap.size W w'))
    (l1 : decide (d < 100) = false) (l2 : 1099511627776 < d) :
    Calls Try.prog 5 #[.agg #[.int .u8 t.k, .string t.s, .int .i64 t.n, .slice A t.l.length c], .int .i64 d] w fun e w' => e = .returned (.bool true) ∧ Below w.heap.size w w' := by
  go_enter Try.func5, Try.ntmps5
  go_wp2_with (first
    | (go_at_call 15; have hq := HG.out _ _ (lit1_at (heap_new (w.alloc (.cells #[.int .u8 t.k, .string t.s, .int .i64 t.n, .slice A t.l.length c] 24)) (.cells #[.int .u8 t.k, .string t.s, .int .i64 t.n, .slice A t.l.length c] 24)) (HK.out.alloc _).s1); rw [World.size_alloc] at hq; refine hq.mono ?_; clear hq HG; rintro e w1 ⟨rfl, hb1⟩; have h := (HK.out.alloc _).then hb1; clear hb1 HK; obtain ⟨c0, c1, c2, c3⟩ := h.cells)
    | (go_at_call 17; refine (wakes04_c _).mono ?_; rintro e w9 ⟨rfl, hb9⟩))
  go_ret
  exact ⟨rfl, below_then h.b0 h.b0.size hb9⟩
set_option maxRecDepth 100000 in
set_option maxHeartbeats 16000000 in
theorem apart_bad {w : World} {t : Tm} {A : Option Addr} {c : Nat} {d : Int}
    (HK : Hid (Ka w t (.slice A t.l.length c) (w.alloc (.cells #[.int .u8 t.k, .string t.s, .int .i64 t.n, .slice A t.l.length c] 24))))
    (HG : Hid (∀ W B, Kd.tm.S W (fun _ => True) [t] (.slice (some ⟨B, 0, none⟩) 1 1) → Calls Try.prog 15 #[.slice (some ⟨B, 0, none⟩) 1 1] W fun e w' => e = .returned (.bool false) ∧ Below W.heap.size W w'))
    (HD : Hid (∀ W, Kd.tm.S W (fun _ => True) t.l (.slice A t.l.length c) → Calls Try.prog 16 #[.agg #[.int .u8 t.k, .string t.s, .int .i64 t.n, .slice A t.l.length c]] W fun e w' => e = .returned (.bool false) ∧ Below W.heap.size W w'))
    (l1 : decide (d < 100) = false) (l2 : decide (1099511627776 < d) = false) :
    Calls Try.prog 5 #[.agg #[.int .u8 t.k, .string t.s, .int .i64 t.n, .slice A t.l.length c], .int .i64 d] w fun e w' => e = .returned (.bool true) ∧ Below w.heap.size w w' := by
  go_enter Try.func5, Try.ntmps5
  go_wp2_with (first
    | (go_at_call 15; have hq := HG.out _ _ (lit1_at (heap_new (w.alloc (.cells #[.int .u8 t.k, .string t.s, .int .i64 t.n, .slice A t.l.length c] 24)) (.cells #[.int .u8 t.k, .string t.s, .int .i64 t.n, .slice A t.l.length c] 24)) (HK.out.alloc _).s1); rw [World.size_alloc] at hq; refine hq.mono ?_; clear hq HG; rintro e w1 ⟨rfl, hb1⟩; have h := (HK.out.alloc _).then hb1; clear hb1 HK; obtain ⟨c0, c1, c2, c3⟩ := h.cells)
    | (go_at_call 16; refine (HD.out _ h.s1).mono ?_; clear HD c0 c1 c2 c3; rintro e w2 ⟨rfl, hb1⟩; replace h := h.then hb1; clear hb1; obtain ⟨c0, c1, c2, c3⟩ := h.cells)
    | (go_at_call 17; refine (wakes04_c _).mono ?_; rintro e w9 ⟨rfl, hb9⟩))
  go_ret
  exact ⟨rfl, below_then h.b0 h.b0.size hb9⟩
set_option maxRecDepth 100000 in
set_option maxHeartbeats 16000000 in
theorem apart_main {w : World} {t : Tm} {A : Option Addr} {c : Nat} {d : Int} {vs : List Int} {s : Tm} {l : Bs}
    (HK : Hid (Ka w t (.slice A t.l.length c) (w.alloc (.cells #[.int .u8 t.k, .string t.s, .int .i64 t.n, .slice A t.l.length c] 24))))
    (HG : Hid (∀ W B, Kd.tm.S W (fun _ => True) [t] (.slice (some ⟨B, 0, none⟩) 1 1) → Calls Try.prog 15 #[.slice (some ⟨B, 0, none⟩) 1 1] W fun e w' => e = .returned (.bool false) ∧ Below W.heap.size W w'))
    (HD : Hid (∀ W, Kd.tm.S W (fun _ => True) t.l (.slice A t.l.length c) → Calls Try.prog 16 #[.agg #[.int .u8 t.k, .string t.s, .int .i64 t.n, .slice A t.l.length c]] W fun e w' => e = .returned (.bool true) ∧ Below W.heap.size W w'))
    (l1 : decide (d < 100) = false) (l2 : decide (1099511627776 < d) = false) (HVL : Hid (vs.length ≤ 1000000))
    (HV : Hid (∀ W B, Kd.tm.S W (fun _ => True) [t] (.slice (some ⟨B, 0, none⟩) 1 1) → Calls Try.prog 23 #[.slice (some ⟨B, 0, none⟩) 1 1] W fun e w' => (∃ A c, e = .returned (.slice A vs.length c) ∧ (Kd.int .i64).S w' (fun _ => True) vs (.slice A vs.length c)) ∧ Below W.heap.size W w'))
    (HS : (∀ n ∈ vs, n < 100) → Hid (∀ W, Kd.tm.S W (fun _ => True) t.l (.slice A t.l.length c) → Calls Try.prog 27 #[.agg #[.int .u8 t.k, .string t.s, .int .i64 t.n, .slice A t.l.length c], .int .i64 d] W fun e w' => (∃ u, e = .returned u ∧ TmV w' (fun b => W.heap.size ≤ b) s u) ∧ Below W.heap.size W w'))
    (HU : (∀ n ∈ vs, n < 100) → Hid (∀ W q b us, Kd.tm.S W (fun _ => True) t.l (.slice A t.l.length c) → Kd.tm.S W (fun _ => True) s.l us → Sub W (fun _ => True) [] q b → Calls Try.prog 18 #[.pointer (some ⟨q, 0, none⟩), .agg #[.int .u8 t.k, .string t.s, .int .i64 t.n, .slice A t.l.length c], .agg #[.int .u8 s.k, .string s.s, .int .i64 s.n, us]] W fun e w' => (∃ p' b', e = .returned (.tuple #[.pointer (some ⟨p', 0, none⟩), .bool true, .int .i64 0]) ∧ Sub w' (fun _ => True) l p' b') ∧ Below W.heap.size W w'))
    (HLN : Hid (∀ W p b, Sub W (fun _ => True) l p b → Calls Try.prog 20 #[.pointer (some ⟨p, 0, none⟩)] W fun e w' => e = .returned (.int .i64 vs.length) ∧ Below W.heap.size W w'))
    (HF : Hid (∀ W B, Kd.tm.S W (fun _ => True) [t] (.slice (some ⟨B, 0, none⟩) 1 1) → Calls Try.prog 22 #[.string ⟨#[115]⟩, .slice (some ⟨B, 0, none⟩) 1 1] W fun e w' => (∃ A c, e = .returned (.agg #[.int .u8 4, .string ⟨#[115]⟩, .int .i64 0, .slice A 1 c]) ∧ Kd.tm.S w' (fun _ => True) [t] (.slice A 1 c)) ∧ Below W.heap.size W w'))
    (HN : Hid (∀ W q b uf, Kd.tm.S W (fun _ => True) t.l (.slice A t.l.length c) → Kd.tm.S W (fun _ => True) [t] uf → Sub W (fun _ => True) [] q b → Calls Try.prog 18 #[.pointer (some ⟨q, 0, none⟩), .agg #[.int .u8 t.k, .string t.s, .int .i64 t.n, .slice A t.l.length c], .agg #[.int .u8 4, .string ⟨#[115]⟩, .int .i64 0, uf]] W fun e w' => e = .returned (.tuple #[.pointer none, .bool false, .int .i64 0]) ∧ Below W.heap.size W w'))
    :
    Calls Try.prog 5 #[.agg #[.int .u8 t.k, .string t.s, .int .i64 t.n, .slice A t.l.length c], .int .i64 d] w fun e w' => e = .returned (.bool true) ∧ Below w.heap.size w w' := by
  have hvl := HVL.out
  clear HVL
  go_enter Try.func5, Try.ntmps5
  go_wp2_with (first
    | (go_at_call 15; have hq := HG.out _ _ (lit1_at (heap_new (w.alloc (.cells #[.int .u8 t.k, .string t.s, .int .i64 t.n, .slice A t.l.length c] 24)) (.cells #[.int .u8 t.k, .string t.s, .int .i64 t.n, .slice A t.l.length c] 24)) (HK.out.alloc _).s1); rw [World.size_alloc] at hq; refine hq.mono ?_; clear hq HG; rintro e w1 ⟨rfl, hb1⟩; have h := (HK.out.alloc _).then hb1; clear hb1 HK; obtain ⟨c0, c1, c2, c3⟩ := h.cells)
    | (go_at_call 16; refine (HD.out _ h.s1).mono ?_; clear HD c0 c1 c2 c3; rintro e w2 ⟨rfl, hb1⟩; replace h := h.then hb1; clear hb1; obtain ⟨c0, c1, c2, c3⟩ := h.cells)
    | (go_at_call 23; refine (HV.out _ _ (lit1_at (heap_new w2 (.cells #[.int .u8 t.k, .string t.s, .int .i64 t.n, .slice A t.l.length c] 24)) (h.alloc _).s1)).mono ?_; clear HV c0 c1 c2 c3; rintro e w3 ⟨⟨Av, cv, rfl, hv⟩, hb1⟩; have h : Kb w t (.slice A t.l.length c) vs (.slice Av vs.length cv) w3 := ⟨(h.alloc _).then hb1, hv⟩; clear hb1 hv))
  go_loopw [6] (fun i wr => ∃ j : Nat, j ≤ vs.length ∧ i = .int .i64 j ∧ (∀ n ∈ vs.take j, n < 100) ∧ Kb w t (.slice A t.l.length c) vs (.slice Av vs.length cv) wr) (fun i _ => vs.length - (intOf i).toNat)
  case atStart => exact ⟨0, Nat.zero_le _, rfl, (by simp), h⟩
  case round =>
    clear h
    obtain ⟨j, hj, rfl, hall, h⟩ := hrel
    by_cases hlt : j < vs.length
    · obtain ⟨Avv, cvv, eA, -, -, hA⟩ := h.v
      injection eA with eA1 eA2 eA3
      subst eA1
      clear eA2 eA3
      obtain ⟨bv, ov, rfl, -, hlo, hcv⟩ := int_elem hA hlt
      have hall' : vs[j] < 100 → ∀ n ∈ vs.take (j + 1), n < 100 := fun h n hn => by
        rw [take_succ_at vs hlt, List.mem_append, List.mem_singleton] at hn
        exact hn.elim (hall n) (fun e => e ▸ h)
      have HALL := Lib.hid hall'
      clear hall hall' hA HS HU HLN HF HN
      generalize vs[j] = n at hcv HALL
      by_cases h100 : 100 ≤ n
      · go_wp2_with (go_at_call 17; refine (wakes04_c _).mono ?_; rintro e w9 ⟨rfl, hb9⟩)
        go_ret
        exact ⟨rfl, below_then h.a.b0 h.a.b0.size hb9⟩
      · have hn100 : decide (100 ≤ n) = false := by simpa using h100
        go_wp2_with fail
        go_roundw
        case rel => exact ⟨j + 1, by omega, by go_num, HALL.out (by omega), h⟩
        case measure => simp [intOf]; omega
    · have hjl : j = vs.length := by omega
      subst hjl
      rw [List.take_length] at hall
      replace HS := HS hall
      replace HU := HU hall
      clear hall hlt hj
      obtain ⟨c0, c1, c2, c3⟩ := h.a.cells
      go_wp2_with (go_at_call 27; refine (HS.out _ h.a.s1).mono ?_; clear HS c0 c1 c2 c3; rintro e w4 ⟨⟨u4, rfl, uu4, rfl, hu⟩, hb1⟩; obtain ⟨Au, cu, rfl⟩ := hu.form; replace h := h.then hb1; have h : Kc w t (.slice A t.l.length c) vs (.slice Av vs.length cv) w4.heap.size s (.slice Au s.l.length cu) (w4.alloc (.cells #[.int .u8 s.k, .string s.s, .int .i64 s.n, .slice Au s.l.length cu] 24)) := ⟨h.alloc _, Bt.new hu⟩; clear hb1 hu)
      refine wp_region_held_drew (S := (fun W => W.cell? ⟨w.heap.size, 0, none⟩ = some (.int .u8 t.k) ∧ W.cell? ⟨w.heap.size, 1, none⟩ = some (.string t.s) ∧ W.cell? ⟨w.heap.size, 2, none⟩ = some (.int .i64 t.n) ∧ W.cell? ⟨w.heap.size, 3, none⟩ = some (.slice A t.l.length c) ∧ W.cell? ⟨w4.heap.size, 0, none⟩ = some (.int .u8 s.k) ∧ W.cell? ⟨w4.heap.size, 1, none⟩ = some (.string s.s) ∧ W.cell? ⟨w4.heap.size, 2, none⟩ = some (.int .i64 s.n) ∧ W.cell? ⟨w4.heap.size, 3, none⟩ = some (.slice Au s.l.length cu))) (by kernel_rfl) ?_ (fun hHeld => ?_)
      · exact (h.then (Below.refl _ _).drew).cells
      change wpAnyH _ .any _ _ _ 11 (Array.replicate 11 false) _ _
      refine wpAnyH_take (i := 1) (oi := ⟨some 51, _, _, _, _, _⟩) (v := ?_) rfl (by kernel_rfl) (by kernel_rfl) (by kernel_rfl) (fun _ _ _ h => h) (Or.inl ⟨by rfl, ?_⟩) (by assumption) ?_
      rotate_left
      · (intro w hSw; (try dsimp only at hSw); go_simp; try (with_reducible rfl))
      (try simp only [Act.put, List.setIfInBounds_toArray, List.set_cons_zero, List.set_cons_succ])
      refine wpAnyH_take (i := 2) (oi := ⟨some 52, _, _, _, _, _⟩) (v := ?_) rfl (by kernel_rfl) (by kernel_rfl) (by kernel_rfl) (fun _ _ _ h => h) (Or.inl ⟨by rfl, ?_⟩) (by assumption) ?_
      rotate_left
      · (intro w hSw; (try dsimp only at hSw); go_simp; try (with_reducible rfl))
      (try simp only [Act.put, List.setIfInBounds_toArray, List.set_cons_zero, List.set_cons_succ])
      replace h := h.then (Below.refl _ _).drew
      refine wpAnyH_ready (rs := [0]) (by kernel_rfl) (by simp) ?_
      refine AllReadyH.cons (o := ⟨some 50, _, _, _, _, _⟩) rfl (fun K hK => ?_) AllReadyH.nil
      go_simp
      go_at_call 19
      refine (New_c _ (fun _ => True)).mono ?_
      rintro e w5 ⟨⟨q, b, rfl, hn, -, -⟩, hb1⟩
      replace h := h.then hb1
      clear hb1
      go_wp2_with fail
      refine hK.out _ _ h.cells (fun hHeld => ?_)
      clear hK K
      (try simp only [Act.put, List.setIfInBounds_toArray, List.set_cons_zero, List.set_cons_succ])
      refine wpAnyH_ready (rs := [3]) (by kernel_rfl) (by simp) ?_
      refine AllReadyH.cons (o := ⟨some 53, _, _, _, _, _⟩) rfl (fun K hK => ?_) AllReadyH.nil
      go_simp
      go_at_call 18
      refine (HU.out _ _ _ _ h.b.a.s1 h.x2.args hn).mono ?_
      clear HU hn
      rintro e w6 ⟨⟨p', b', rfl, hs⟩, hb1⟩
      replace h := h.then hb1
      clear hb1
      go_wp2_with fail
      refine hK.out _ _ h.cells (fun hHeld => ?_)
      clear hK K
      (try simp only [Act.put, List.setIfInBounds_toArray, List.set_cons_zero, List.set_cons_succ])
      refine wpAnyH_take (i := 4) (oi := ⟨some 49, _, _, _, _, _⟩) (v := ?_) rfl (by kernel_rfl) (by kernel_rfl) (by kernel_rfl) (fun _ _ _ h => h) (Or.inl ⟨by rfl, ?_⟩) (by assumption) ?_
      rotate_left
      · (intro w hSw; (try dsimp only at hSw); go_simp; try (with_reducible rfl))
      (try simp only [Act.put, List.setIfInBounds_toArray, List.set_cons_zero, List.set_cons_succ])
      refine wpAnyH_take (i := 5) (oi := ⟨some 54, _, _, _, _, _⟩) (v := ?_) rfl (by kernel_rfl) (by kernel_rfl) (by kernel_rfl) (fun _ _ _ h => h) (Or.inl ⟨by rfl, ?_⟩) (by assumption) ?_
      rotate_left
      · (intro w hSw; (try dsimp only at hSw); go_simp; try (with_reducible rfl))
      (try simp only [Act.put, List.setIfInBounds_toArray, List.set_cons_zero, List.set_cons_succ])
      refine wpAnyH_take (i := 6) (oi := ⟨some 55, _, _, _, _, _⟩) (v := ?_) rfl (by kernel_rfl) (by kernel_rfl) (by kernel_rfl) (fun _ _ _ h => h) (Or.inl ⟨by rfl, ?_⟩) (by assumption) ?_
      rotate_left
      · (intro w hSw; (try dsimp only at hSw); go_simp; try (with_reducible rfl))
      (try simp only [Act.put, List.setIfInBounds_toArray, List.set_cons_zero, List.set_cons_succ])
      refine wpAnyH_take (i := 7) (oi := ⟨some 56, _, _, _, _, _⟩) (v := ?_) rfl (by kernel_rfl) (by kernel_rfl) (by kernel_rfl) (fun _ _ _ h => h) (Or.inl ⟨by rfl, ?_⟩) (by assumption) ?_
      rotate_left
      · (intro w hSw; (try dsimp only at hSw); go_simp; try (with_reducible rfl))
      (try simp only [Act.put, List.setIfInBounds_toArray, List.set_cons_zero, List.set_cons_succ])
      refine wpAnyH_take (i := 8) (oi := ⟨some 8, _, _, _, _, _⟩) (v := ?_) rfl (by kernel_rfl) (by kernel_rfl) (by kernel_rfl) (fun _ _ _ h => h) (Or.inl ⟨by rfl, ?_⟩) (by assumption) ?_
      rotate_left
      · (intro w hSw; (try dsimp only at hSw); go_simp; try (with_reducible rfl))
      (try simp only [Act.put, List.setIfInBounds_toArray, List.set_cons_zero, List.set_cons_succ])
      refine wpAnyH_take (i := 9) (oi := ⟨some 9, _, _, _, _, _⟩) (v := ?_) rfl (by kernel_rfl) (by kernel_rfl) (by kernel_rfl) (fun _ _ _ h => h) (Or.inl ⟨by rfl, ?_⟩) (by assumption) ?_
      rotate_left
      · (intro w hSw; (try dsimp only at hSw); go_simp; try (with_reducible rfl))
      (try simp only [Act.put, List.setIfInBounds_toArray, List.set_cons_zero, List.set_cons_succ])
      refine wpAnyH_take (i := 10) (oi := ⟨some 10, _, _, _, _, _⟩) (v := ?_) rfl (by kernel_rfl) (by kernel_rfl) (by kernel_rfl) (fun _ _ _ h => h) (Or.inl ⟨by rfl, ?_⟩) (by assumption) ?_
      rotate_left
      · (intro w hSw; (try dsimp only at hSw); go_simp; try (with_reducible rfl))
      (try simp only [Act.put, List.setIfInBounds_toArray, List.set_cons_zero, List.set_cons_succ])
      refine wpAnyH_done (by kernel_rfl) ?_ _
      go_wp2_with (go_at_call 20; refine (HLN.out _ _ _ hs).mono ?_; clear HLN; rintro e w7 ⟨rfl, hb1⟩; replace h := h.then hb1; clear hb1 hs)
      refine wp_region_held_drew (S := (fun W => W.cell? ⟨w.heap.size, 0, none⟩ = some (.int .u8 t.k) ∧ W.cell? ⟨w.heap.size, 1, none⟩ = some (.string t.s) ∧ W.cell? ⟨w.heap.size, 2, none⟩ = some (.int .i64 t.n) ∧ W.cell? ⟨w.heap.size, 3, none⟩ = some (.slice A t.l.length c))) (by kernel_rfl) ?_ (fun hHeld => ?_)
      · exact (h.then (Below.refl _ _).drew).b.a.cells
      change wpAnyH _ .any _ _ _ 13 (Array.replicate 13 false) _ _
      refine wpAnyH_take (i := 1) (oi := ⟨some 76, _, _, _, _, _⟩) (v := ?_) rfl (by kernel_rfl) (by kernel_rfl) (by kernel_rfl) (fun _ _ _ h => h) (Or.inl ⟨by rfl, ?_⟩) (by assumption) ?_
      rotate_left
      · (intro w hSw; (try dsimp only at hSw); go_simp; try (with_reducible rfl))
      (try simp only [Act.put, List.setIfInBounds_toArray, List.set_cons_zero, List.set_cons_succ])
      refine wpAnyH_take (i := 2) (oi := ⟨some 77, _, _, _, _, _⟩) (v := ?_) rfl (by kernel_rfl) (by kernel_rfl) (by kernel_rfl) (fun _ _ _ h => h) (Or.inl ⟨by rfl, ?_⟩) (by assumption) ?_
      rotate_left
      · (intro w hSw; (try dsimp only at hSw); go_simp; try (with_reducible rfl))
      (try simp only [Act.put, List.setIfInBounds_toArray, List.set_cons_zero, List.set_cons_succ])
      replace h := h.then (Below.refl _ _).drew
      refine wpAnyH_ready (rs := [0, 3]) (by kernel_rfl) (by simp) ?_
      refine AllReadyH.cons (o := ⟨some 75, _, _, _, _, _⟩) rfl (fun K hK => ?_) ?_
      · go_simp
        go_at_call 19
        refine (New_c _ (fun _ => True)).mono ?_
        rintro e w8 ⟨⟨q, b, rfl, hn, -, -⟩, hb1⟩
        replace h := h.then hb1
        clear hb1
        go_wp2_with fail
        refine hK.out _ _ h.b.a.cells (fun hHeld => ?_)
        clear hK K
        (try simp only [Act.put, List.setIfInBounds_toArray, List.set_cons_zero, List.set_cons_succ])
        refine wpAnyH_ready (rs := [3]) (by kernel_rfl) (by simp) ?_
        refine AllReadyH.cons (o := ⟨some 78, _, _, _, _, _⟩) rfl (fun K hK => ?_) AllReadyH.nil
        go_simp
        refine hK.out _ _ (h.alloc (.cells #[.int .u8 t.k, .string t.s, .int .i64 t.n, .slice A t.l.length c] 24)).b.a.cells (fun hHeld => ?_)
        clear hK K
        (try simp only [Act.put, List.setIfInBounds_toArray, List.set_cons_zero, List.set_cons_succ])
        have hl := lit1_at (heap_new w8 (.cells #[.int .u8 t.k, .string t.s, .int .i64 t.n, .slice A t.l.length c] 24)) (h.alloc (.cells #[.int .u8 t.k, .string t.s, .int .i64 t.n, .slice A t.l.length c] 24)).b.a.s1
        replace hn := hn.below ((Below.refl _ w8).alloc (Nat.le_refl _) (.cells #[.int .u8 t.k, .string t.s, .int .i64 t.n, .slice A t.l.length c] 24))
        replace h := h.alloc (.cells #[.int .u8 t.k, .string t.s, .int .i64 t.n, .slice A t.l.length c] 24)
        refine wpAnyH_ready (rs := [4]) (by kernel_rfl) (by simp) ?_
        refine AllReadyH.cons (o := ⟨some 79, _, _, _, _, _⟩) rfl (fun K hK => ?_) AllReadyH.nil
        go_simp
        go_at_call 22
        refine (HF.out _ _ hl).mono ?_
        rintro e w9 ⟨⟨Af, cf, rfl, hf⟩, hb1⟩
        replace h := h.then hb1
        replace hn := hn.below hb1
        clear hb1 hl
        go_wp2_with fail
        refine hK.out _ _ h.b.a.cells (fun hHeld => ?_)
        clear hK K
        (try simp only [Act.put, List.setIfInBounds_toArray, List.set_cons_zero, List.set_cons_succ])
        refine wpAnyH_ready (rs := [5]) (by kernel_rfl) (by simp) ?_
        refine AllReadyH.cons (o := ⟨some 80, _, _, _, _, _⟩) rfl (fun K hK => ?_) AllReadyH.nil
        go_simp
        go_at_call 18
        refine (HN.out _ _ _ _ h.b.a.s1 hf hn).mono ?_
        rintro e w10 ⟨rfl, hb1⟩
        replace h := h.then hb1
        clear hb1 hn hf
        go_wp2_with fail
        refine hK.out _ _ h.b.a.cells (fun hHeld => ?_)
        clear hK K
        (try simp only [Act.put, List.setIfInBounds_toArray, List.set_cons_zero, List.set_cons_succ])
        refine wpAnyH_take (i := 6) (oi := ⟨some 74, _, _, _, _, _⟩) (v := ?_) rfl (by kernel_rfl) (by kernel_rfl) (by kernel_rfl) (fun _ _ _ h => h) (Or.inl ⟨by rfl, ?_⟩) (by assumption) ?_
        rotate_left
        · (intro w hSw; (try dsimp only at hSw); go_simp; try (with_reducible rfl))
        (try simp only [Act.put, List.setIfInBounds_toArray, List.set_cons_zero, List.set_cons_succ])
        refine wpAnyH_take (i := 7) (oi := ⟨some 81, _, _, _, _, _⟩) (v := ?_) rfl (by kernel_rfl) (by kernel_rfl) (by kernel_rfl) (fun _ _ _ h => h) (Or.inl ⟨by rfl, ?_⟩) (by assumption) ?_
        rotate_left
        · (intro w hSw; (try dsimp only at hSw); go_simp; try (with_reducible rfl))
        (try simp only [Act.put, List.setIfInBounds_toArray, List.set_cons_zero, List.set_cons_succ])
        refine wpAnyH_take (i := 8) (oi := ⟨some 82, _, _, _, _, _⟩) (v := ?_) rfl (by kernel_rfl) (by kernel_rfl) (by kernel_rfl) (fun _ _ _ h => h) (Or.inl ⟨by rfl, ?_⟩) (by assumption) ?_
        rotate_left
        · (intro w hSw; (try dsimp only at hSw); go_simp; try (with_reducible rfl))
        (try simp only [Act.put, List.setIfInBounds_toArray, List.set_cons_zero, List.set_cons_succ])
        refine wpAnyH_take (i := 9) (oi := ⟨some 83, _, _, _, _, _⟩) (v := ?_) rfl (by kernel_rfl) (by kernel_rfl) (by kernel_rfl) (fun _ _ _ h => h) (Or.inl ⟨by rfl, ?_⟩) (by assumption) ?_
        rotate_left
        · (intro w hSw; (try dsimp only at hSw); go_simp; try (with_reducible rfl))
        (try simp only [Act.put, List.setIfInBounds_toArray, List.set_cons_zero, List.set_cons_succ])
        refine wpAnyH_take (i := 10) (oi := ⟨some 11, _, _, _, _, _⟩) (v := ?_) rfl (by kernel_rfl) (by kernel_rfl) (by kernel_rfl) (fun _ _ _ h => h) (Or.inl ⟨by rfl, ?_⟩) (by assumption) ?_
        rotate_left
        · (intro w hSw; (try dsimp only at hSw); go_simp; try (with_reducible rfl))
        (try simp only [Act.put, List.setIfInBounds_toArray, List.set_cons_zero, List.set_cons_succ])
        refine wpAnyH_take (i := 11) (oi := ⟨some 12, _, _, _, _, _⟩) (v := ?_) rfl (by kernel_rfl) (by kernel_rfl) (by kernel_rfl) (fun _ _ _ h => h) (Or.inl ⟨by rfl, ?_⟩) (by assumption) ?_
        rotate_left
        · (intro w hSw; (try dsimp only at hSw); go_simp; try (with_reducible rfl))
        (try simp only [Act.put, List.setIfInBounds_toArray, List.set_cons_zero, List.set_cons_succ])
        refine wpAnyH_take (i := 12) (oi := ⟨some 13, _, _, _, _, _⟩) (v := ?_) rfl (by kernel_rfl) (by kernel_rfl) (by kernel_rfl) (fun _ _ _ h => h) (Or.inl ⟨by rfl, ?_⟩) (by assumption) ?_
        rotate_left
        · (intro w hSw; (try dsimp only at hSw); go_simp; try (with_reducible rfl))
        (try simp only [Act.put, List.setIfInBounds_toArray, List.set_cons_zero, List.set_cons_succ])
        refine wpAnyH_done (by kernel_rfl) ?_ _
        go_wp2_with (go_at_call 17; refine (wakes04_c _).mono ?_; rintro e w9 ⟨rfl, hb9⟩)
        go_ret
        exact ⟨rfl, below_then h.b.a.b0 h.b.a.b0.size hb9⟩
      refine AllReadyH.cons (o := ⟨some 78, _, _, _, _, _⟩) rfl (fun K hK => ?_) AllReadyH.nil
      go_simp
      refine hK.out _ _ (h.alloc (.cells #[.int .u8 t.k, .string t.s, .int .i64 t.n, .slice A t.l.length c] 24)).b.a.cells (fun hHeld => ?_)
      clear hK K
      (try simp only [Act.put, List.setIfInBounds_toArray, List.set_cons_zero, List.set_cons_succ])
      have hl := lit1_at (heap_new w7.drew (.cells #[.int .u8 t.k, .string t.s, .int .i64 t.n, .slice A t.l.length c] 24)) (h.alloc (.cells #[.int .u8 t.k, .string t.s, .int .i64 t.n, .slice A t.l.length c] 24)).b.a.s1
      replace h := h.alloc (.cells #[.int .u8 t.k, .string t.s, .int .i64 t.n, .slice A t.l.length c] 24)
      refine wpAnyH_ready (rs := [0]) (by kernel_rfl) (by simp) ?_
      refine AllReadyH.cons (o := ⟨some 75, _, _, _, _, _⟩) rfl (fun K hK => ?_) AllReadyH.nil
      go_simp
      go_at_call 19
      refine (New_c _ (fun _ => True)).mono ?_
      rintro e w8 ⟨⟨q, b, rfl, hn, -, -⟩, hb1⟩
      replace h := h.then hb1
      replace hl := hl.below hb1
      clear hb1
      go_wp2_with fail
      refine hK.out _ _ h.b.a.cells (fun hHeld => ?_)
      clear hK K
      (try simp only [Act.put, List.setIfInBounds_toArray, List.set_cons_zero, List.set_cons_succ])
      refine wpAnyH_ready (rs := [4]) (by kernel_rfl) (by simp) ?_
      refine AllReadyH.cons (o := ⟨some 79, _, _, _, _, _⟩) rfl (fun K hK => ?_) AllReadyH.nil
      go_simp
      go_at_call 22
      refine (HF.out _ _ hl).mono ?_
      rintro e w9 ⟨⟨Af, cf, rfl, hf⟩, hb1⟩
      replace h := h.then hb1
      replace hn := hn.below hb1
      clear hb1 hl
      go_wp2_with fail
      refine hK.out _ _ h.b.a.cells (fun hHeld => ?_)
      clear hK K
      (try simp only [Act.put, List.setIfInBounds_toArray, List.set_cons_zero, List.set_cons_succ])
      refine wpAnyH_ready (rs := [5]) (by kernel_rfl) (by simp) ?_
      refine AllReadyH.cons (o := ⟨some 80, _, _, _, _, _⟩) rfl (fun K hK => ?_) AllReadyH.nil
      go_simp
      go_at_call 18
      refine (HN.out _ _ _ _ h.b.a.s1 hf hn).mono ?_
      rintro e w10 ⟨rfl, hb1⟩
      replace h := h.then hb1
      clear hb1 hn hf
      go_wp2_with fail
      refine hK.out _ _ h.b.a.cells (fun hHeld => ?_)
      clear hK K
      (try simp only [Act.put, List.setIfInBounds_toArray, List.set_cons_zero, List.set_cons_succ])
      refine wpAnyH_take (i := 6) (oi := ⟨some 74, _, _, _, _, _⟩) (v := ?_) rfl (by kernel_rfl) (by kernel_rfl) (by kernel_rfl) (fun _ _ _ h => h) (Or.inl ⟨by rfl, ?_⟩) (by assumption) ?_
      rotate_left
      · (intro w hSw; (try dsimp only at hSw); go_simp; try (with_reducible rfl))
      (try simp only [Act.put, List.setIfInBounds_toArray, List.set_cons_zero, List.set_cons_succ])
      refine wpAnyH_take (i := 7) (oi := ⟨some 81, _, _, _, _, _⟩) (v := ?_) rfl (by kernel_rfl) (by kernel_rfl) (by kernel_rfl) (fun _ _ _ h => h) (Or.inl ⟨by rfl, ?_⟩) (by assumption) ?_
      rotate_left
      · (intro w hSw; (try dsimp only at hSw); go_simp; try (with_reducible rfl))
      (try simp only [Act.put, List.setIfInBounds_toArray, List.set_cons_zero, List.set_cons_succ])
      refine wpAnyH_take (i := 8) (oi := ⟨some 82, _, _, _, _, _⟩) (v := ?_) rfl (by kernel_rfl) (by kernel_rfl) (by kernel_rfl) (fun _ _ _ h => h) (Or.inl ⟨by rfl, ?_⟩) (by assumption) ?_
      rotate_left
      · (intro w hSw; (try dsimp only at hSw); go_simp; try (with_reducible rfl))
      (try simp only [Act.put, List.setIfInBounds_toArray, List.set_cons_zero, List.set_cons_succ])
      refine wpAnyH_take (i := 9) (oi := ⟨some 83, _, _, _, _, _⟩) (v := ?_) rfl (by kernel_rfl) (by kernel_rfl) (by kernel_rfl) (fun _ _ _ h => h) (Or.inl ⟨by rfl, ?_⟩) (by assumption) ?_
      rotate_left
      · (intro w hSw; (try dsimp only at hSw); go_simp; try (with_reducible rfl))
      (try simp only [Act.put, List.setIfInBounds_toArray, List.set_cons_zero, List.set_cons_succ])
      refine wpAnyH_take (i := 10) (oi := ⟨some 11, _, _, _, _, _⟩) (v := ?_) rfl (by kernel_rfl) (by kernel_rfl) (by kernel_rfl) (fun _ _ _ h => h) (Or.inl ⟨by rfl, ?_⟩) (by assumption) ?_
      rotate_left
      · (intro w hSw; (try dsimp only at hSw); go_simp; try (with_reducible rfl))
      (try simp only [Act.put, List.setIfInBounds_toArray, List.set_cons_zero, List.set_cons_succ])
      refine wpAnyH_take (i := 11) (oi := ⟨some 12, _, _, _, _, _⟩) (v := ?_) rfl (by kernel_rfl) (by kernel_rfl) (by kernel_rfl) (fun _ _ _ h => h) (Or.inl ⟨by rfl, ?_⟩) (by assumption) ?_
      rotate_left
      · (intro w hSw; (try dsimp only at hSw); go_simp; try (with_reducible rfl))
      (try simp only [Act.put, List.setIfInBounds_toArray, List.set_cons_zero, List.set_cons_succ])
      refine wpAnyH_take (i := 12) (oi := ⟨some 13, _, _, _, _, _⟩) (v := ?_) rfl (by kernel_rfl) (by kernel_rfl) (by kernel_rfl) (fun _ _ _ h => h) (Or.inl ⟨by rfl, ?_⟩) (by assumption) ?_
      rotate_left
      · (intro w hSw; (try dsimp only at hSw); go_simp; try (with_reducible rfl))
      (try simp only [Act.put, List.setIfInBounds_toArray, List.set_cons_zero, List.set_cons_succ])
      refine wpAnyH_done (by kernel_rfl) ?_ _
      go_wp2_with (go_at_call 17; refine (wakes04_c _).mono ?_; rintro e w9 ⟨rfl, hb9⟩)
      go_ret
      exact ⟨rfl, below_then h.b.a.b0 h.b.a.b0.size hb9⟩
set_option maxRecDepth 100000 in
theorem UnifyApart_c (t : Tm) (d : Int) (v : Value) (w : World) (ok : Nat → Prop) (hv : TmV w ok t v) (wt : t.Wf) (hd : -9223372036854775808 ≤ d ∧ d ≤ 9223372036854775807) :
    Calls Try.prog 5 #[v, .int .i64 d] w fun e w' => e = .returned (.bool true) ∧ Below w.heap.size w w' := by
  obtain ⟨ut, rfl, hS⟩ := hv
  obtain ⟨A, c, rfl⟩ := hS.form
  have HK : Hid (Ka w t (.slice A t.l.length c) (w.alloc (.cells #[.int .u8 t.k, .string t.s, .int .i64 t.n, .slice A t.l.length c] 24))) := Lib.hid ⟨(Below.refl _ w).alloc (Nat.le_refl _) _, heap_new _ _, (hS.below ((Below.refl _ w).alloc (Nat.le_refl _) _)).mono (fun _ _ => trivial)⟩
  have HG := Lib.hid (fun W B (h : Kd.tm.S W (fun _ => True) [t] (.slice (some ⟨B, 0, none⟩) 1 1)) => Great_c [t] _ W _ h ⟨wt, trivial⟩)
  clear hS
  cases hgr : great [t] with
  | true => rw [hgr] at HG; exact apart_great HK HG
  | false =>
    rw [hgr] at HG
    have hsz := great_siz hgr
    simp only [sizL] at hsz
    by_cases l1 : d < 100
    · exact apart_lo HK HG l1
    · have l1' : decide (d < 100) = false := by simpa using l1
      by_cases l2 : 1099511627776 < d
      · exact apart_hi HK HG l1' l2
      · have l2' : decide (1099511627776 < d) = false := by simpa using l2
        have HD := Lib.hid (fun W (h : Kd.tm.S W (fun _ => True) t.l (.slice A t.l.length c)) => refGood_c t (.agg #[.int .u8 t.k, .string t.s, .int .i64 t.n, .slice A t.l.length c]) W _ ⟨_, rfl, h⟩ (by omega) wt)
        cases hgd : t.good with
        | false => rw [hgd] at HD; exact apart_bad HK HG HD l1' l2'
        | true =>
          rw [hgd] at HD
          have kt : t.vok := shp_vok t (by unfold Tm.good at hgd; simp only [Bool.and_eq_true] at hgd; exact hgd.2)
          have h100 : (∀ n ∈ dd (occL [t]), n < 100) → ∀ n ∈ t.occ, 0 ≤ n ∧ n < 100 := fun h n hn => ⟨vok_occ t kt n hn, h n (dd_mem.2 (by simp [occL, hn]))⟩
          have hvl : (dd (occL [t])).length ≤ 1000000 := by
            have h1 := dd_length (occL [t])
            have h2 := occL_length [t]
            simp only [sizL] at h2
            omega
          refine apart_main (vs := dd (occL [t])) (s := t.mv d) (l := lk d (dd (occL [t]))) HK HG HD l1' l2' (Lib.hid hvl) (Lib.hid (fun W B h => Vars_s [t] _ W _ h (by simp only [sizL]; omega)))
            (fun hx => Lib.hid (fun W h => shift_c d (by omega) t _ W _ ⟨_, rfl, h⟩ (by omega) (h100 hx)))
            (fun hx => ?_) (Lib.hid (fun W p b h => ?_)) (Lib.hid (fun W B h => ?_)) (Lib.hid (fun W q b uf h1 h2 h3 => ?_))
          · obtain ⟨n', hu⟩ := un_like d (by omega) 4098 0 [] [t] (by simp) ⟨kt, trivial⟩ (fun n hn => (h100 hx n (by simpa [occL] using hn)).2) (by simp only [sizL]; omega) (by simp only [sizL]; omega)
            refine Lib.hid (fun W q b us h1 h2 h3 => ?_)
            have hq := Unify_c [] q b t (t.mv d) (.agg #[.int .u8 t.k, .string t.s, .int .i64 t.n, .slice A t.l.length c]) (.agg #[.int .u8 (t.mv d).k, .string (t.mv d).s, .int .i64 (t.mv d).n, us]) W _ _ _ h3 ⟨_, rfl, h1⟩ ⟨_, rfl, h2⟩ wt (mv_wf d (by omega) t wt (h100 hx)) (by omega) (by rw [mv_siz]; omega) K5.sm0 (by simp)
            have hu' : un 4098 0 [] [(t, t.mv d)] = .yes (lk d (dd (occL [t]))) n' := hu
            rw [hu'] at hq
            exact hq.mono (fun e w' h => h)
          · have hq := sLen_c _ p b W _ h
            rw [show (lk d (dd (occL [t]))).length = (dd (occL [t])).length by simp [lk]] at hq
            exact hq
          · exact (F_c ⟨#[115]⟩ [t] _ W _ _ h.S2 (by simp)).mono (fun e w' ⟨⟨r, he, hr⟩, hb⟩ => by
              rw [mkF_cons] at hr
              obtain ⟨u, rfl, hS⟩ := hr
              obtain ⟨A, c', rfl⟩ := hS.form
              exact ⟨⟨A, c', he, hS.mono (fun _ _ => trivial)⟩, hb⟩)
          · have hq := Unify_c [] q b t ⟨4, ⟨#[115]⟩, 0, [t]⟩ (.agg #[.int .u8 t.k, .string t.s, .int .i64 t.n, .slice A t.l.length c]) _ W _ _ _ h3 ⟨_, rfl, h1⟩ ⟨_, rfl, h2⟩ wt (by refine ⟨by omega, by omega, by simp [ByteArray.size], wt, trivial⟩) (by omega) (by simp only [Tm.siz, sizL]; omega) K5.sm0 (by simp)
            rw [un_in ⟨#[115]⟩ t.siz 4098 0 t (Nat.le_refl _) kt (by omega) (by omega)] at hq
            exact hq.mono (fun e w' h => h)
end Go.Proofs.Ytdflckjnpgbjlaa

/- The law UnifyStructs, walked. Conditions: the arguments read; what they are made of is in its bounds. -/
import Derived.Test.YtdflckjnpgbjlaaUc
set_option linter.unusedVariables false
set_option maxRecDepth 20000
set_option linter.unusedSimpArgs false
namespace Go.Proofs.Ytdflckjnpgbjlaa
open Go.RowKit

/-- Two slices of terms that read, along a law's walk. -/
structure Zs (w : World) (a b : List Tm) (va vb : Value) (W : World) : Prop where
  b0 : Below w.heap.size w W
  sa : Kd.tm.S W (fun _ => True) a va
  sb : Kd.tm.S W (fun _ => True) b vb
/-- And a substitution. -/
structure Zt (w : World) (a b : List Tm) (va vb : Value) (l : Bs) (p c : Nat) (W : World) : Prop where
  z : Zs w a b va vb W
  s : Sub W (fun _ => True) l p c
/-- And one more. -/
structure Zu (w : World) (a b : List Tm) (va vb : Value) (l : Bs) (p c q d : Nat) (W : World) : Prop where
  z : Zt w a b va vb l p c W
  s : Sub W (fun _ => True) l q d
/-- And a slice of variables. -/
structure Zv (w : World) (l : Bs) (p c q d : Nat) (vs : List Int) (vv : Value) (W : World) : Prop where
  b0 : Below w.heap.size w W
  s : Sub W (fun _ => True) l p c
  t : Sub W (fun _ => True) l q d
  v : (Kd.int .i64).S W (fun _ => True) vs vv
section
variable {w W W' : World} {a b : List Tm} {va vb : Value} {l : Bs} {p c q d : Nat} {vs : List Int} {vv : Value}
theorem Zs.then (h : Zs w a b va vb W) (hb : Below W.heap.size W W') : Zs w a b va vb W' := ⟨below_then h.b0 h.b0.size hb, h.sa.below hb, h.sb.below hb⟩
theorem Zt.then (h : Zt w a b va vb l p c W) (hb : Below W.heap.size W W') : Zt w a b va vb l p c W' := ⟨h.z.then hb, h.s.below hb⟩
theorem Zu.then (h : Zu w a b va vb l p c q d W) (hb : Below W.heap.size W W') : Zu w a b va vb l p c q d W' := ⟨h.z.then hb, h.s.below hb⟩
theorem Zv.then (h : Zv w l p c q d vs vv W) (hb : Below W.heap.size W W') : Zv w l p c q d vs vv W' := ⟨below_then h.b0 h.b0.size hb, h.s.below hb, h.t.below hb, h.v.below hb⟩
theorem Zv.alloc (h : Zv w l p c q d vs vv W) (O : Obj) : Zv w l p c q d vs vv (W.alloc O) := h.then ((Below.refl _ W).alloc (Nat.le_refl _) O)
end
set_option maxRecDepth 100000 in
set_option maxHeartbeats 16000000 in
theorem structs_ga {w : World} {a b : List Tm} {A B : Option Addr} {ca cb : Nat}
    (HZ : Hid (Zs w a b (.slice A a.length ca) (.slice B b.length cb) w))
    (HA : Hid (∀ W, Zs w a b (.slice A a.length ca) (.slice B b.length cb) W → Calls Try.prog 15 #[.slice A a.length ca] W fun e w' => e = .returned (.bool true) ∧ Below W.heap.size W w'))
    :
    Calls Try.prog 4 #[.slice A a.length ca, .slice B b.length cb] w fun e w' => e = .returned (.bool true) ∧ Below w.heap.size w w' := by
  have m1 : Hid (0 = 0) := Lib.hid rfl
  go_enter Try.func4, Try.ntmps4
  go_wp2_with (first
    | (go_at_call 15; have hx := m1.out; clear hx m1; refine (HA.out _ HZ.out).mono ?_; clear HA; rintro e w1 ⟨rfl, hb1⟩; have h := HZ.out.then hb1; clear hb1 HZ)
    | (go_at_call 17; refine (wakes04_c _).mono ?_; rintro e w9 ⟨rfl, hb9⟩))
  go_ret
  exact ⟨rfl, below_then h.b0 h.b0.size hb9⟩
set_option maxRecDepth 100000 in
set_option maxHeartbeats 16000000 in
theorem structs_gb {w : World} {a b : List Tm} {A B : Option Addr} {ca cb : Nat}
    (HZ : Hid (Zs w a b (.slice A a.length ca) (.slice B b.length cb) w))
    (HA : Hid (∀ W, Zs w a b (.slice A a.length ca) (.slice B b.length cb) W → Calls Try.prog 15 #[.slice A a.length ca] W fun e w' => e = .returned (.bool false) ∧ Below W.heap.size W w'))
    (HB : Hid (∀ W, Zs w a b (.slice A a.length ca) (.slice B b.length cb) W → Calls Try.prog 15 #[.slice B b.length cb] W fun e w' => e = .returned (.bool true) ∧ Below W.heap.size W w'))
    :
    Calls Try.prog 4 #[.slice A a.length ca, .slice B b.length cb] w fun e w' => e = .returned (.bool true) ∧ Below w.heap.size w w' := by
  have m1 : Hid (0 = 0) := Lib.hid rfl
  go_enter Try.func4, Try.ntmps4
  go_wp2_with (first
    | (go_at_call 15; have hx := m1.out; clear hx m1; refine (HA.out _ HZ.out).mono ?_; clear HA; rintro e w1 ⟨rfl, hb1⟩; have h := HZ.out.then hb1; clear hb1 HZ)
    | (go_at_call 15; refine (HB.out _ h).mono ?_; clear HB; rintro e w2 ⟨rfl, hb1⟩; replace h := h.then hb1; clear hb1)
    | (go_at_call 17; refine (wakes04_c _).mono ?_; rintro e w9 ⟨rfl, hb9⟩))
  go_ret
  exact ⟨rfl, below_then h.b0 h.b0.size hb9⟩
set_option maxRecDepth 100000 in
set_option maxHeartbeats 16000000 in
theorem structs_n1 {w : World} {a b : List Tm} {A B : Option Addr} {ca cb : Nat}
    (HZ : Hid (Zs w a b (.slice A a.length ca) (.slice B b.length cb) w))
    (HA : Hid (∀ W, Zs w a b (.slice A a.length ca) (.slice B b.length cb) W → Calls Try.prog 15 #[.slice A a.length ca] W fun e w' => e = .returned (.bool false) ∧ Below W.heap.size W w'))
    (HB : Hid (∀ W, Zs w a b (.slice A a.length ca) (.slice B b.length cb) W → Calls Try.prog 15 #[.slice B b.length cb] W fun e w' => e = .returned (.bool false) ∧ Below W.heap.size W w'))
    (l1 : (16 : Int) < a.length) :
    Calls Try.prog 4 #[.slice A a.length ca, .slice B b.length cb] w fun e w' => e = .returned (.bool true) ∧ Below w.heap.size w w' := by
  have m1 : Hid (0 = 0) := Lib.hid rfl
  go_enter Try.func4, Try.ntmps4
  go_wp2_with (first
    | (go_at_call 15; have hx := m1.out; clear hx m1; refine (HA.out _ HZ.out).mono ?_; clear HA; rintro e w1 ⟨rfl, hb1⟩; have h := HZ.out.then hb1; clear hb1 HZ)
    | (go_at_call 15; refine (HB.out _ h).mono ?_; clear HB; rintro e w2 ⟨rfl, hb1⟩; replace h := h.then hb1; clear hb1)
    | (go_at_call 17; refine (wakes04_c _).mono ?_; rintro e w9 ⟨rfl, hb9⟩))
  go_ret
  exact ⟨rfl, below_then h.b0 h.b0.size hb9⟩
set_option maxRecDepth 100000 in
set_option maxHeartbeats 16000000 in
theorem structs_n2 {w : World} {a b : List Tm} {A B : Option Addr} {ca cb : Nat}
    (HZ : Hid (Zs w a b (.slice A a.length ca) (.slice B b.length cb) w))
    (HA : Hid (∀ W, Zs w a b (.slice A a.length ca) (.slice B b.length cb) W → Calls Try.prog 15 #[.slice A a.length ca] W fun e w' => e = .returned (.bool false) ∧ Below W.heap.size W w'))
    (HB : Hid (∀ W, Zs w a b (.slice A a.length ca) (.slice B b.length cb) W → Calls Try.prog 15 #[.slice B b.length cb] W fun e w' => e = .returned (.bool false) ∧ Below W.heap.size W w'))
    (l1 : decide ((16 : Int) < a.length) = false) (l2 : (16 : Int) < b.length) :
    Calls Try.prog 4 #[.slice A a.length ca, .slice B b.length cb] w fun e w' => e = .returned (.bool true) ∧ Below w.heap.size w w' := by
  have m1 : Hid (0 = 0) := Lib.hid rfl
  go_enter Try.func4, Try.ntmps4
  go_wp2_with (first
    | (go_at_call 15; have hx := m1.out; clear hx m1; refine (HA.out _ HZ.out).mono ?_; clear HA; rintro e w1 ⟨rfl, hb1⟩; have h := HZ.out.then hb1; clear hb1 HZ)
    | (go_at_call 15; refine (HB.out _ h).mono ?_; clear HB; rintro e w2 ⟨rfl, hb1⟩; replace h := h.then hb1; clear hb1)
    | (go_at_call 17; refine (wakes04_c _).mono ?_; rintro e w9 ⟨rfl, hb9⟩))
  go_ret
  exact ⟨rfl, below_then h.b0 h.b0.size hb9⟩
set_option maxRecDepth 100000 in
set_option maxHeartbeats 16000000 in
theorem structs_n3 {w : World} {a b : List Tm} {A B : Option Addr} {ca cb : Nat}
    (HZ : Hid (Zs w a b (.slice A a.length ca) (.slice B b.length cb) w))
    (HA : Hid (∀ W, Zs w a b (.slice A a.length ca) (.slice B b.length cb) W → Calls Try.prog 15 #[.slice A a.length ca] W fun e w' => e = .returned (.bool false) ∧ Below W.heap.size W w'))
    (HB : Hid (∀ W, Zs w a b (.slice A a.length ca) (.slice B b.length cb) W → Calls Try.prog 15 #[.slice B b.length cb] W fun e w' => e = .returned (.bool false) ∧ Below W.heap.size W w'))
    (l1 : decide ((16 : Int) < a.length) = false) (l2 : decide ((16 : Int) < b.length) = false) (l3 : ((a.length : Int) == 0) = true) :
    Calls Try.prog 4 #[.slice A a.length ca, .slice B b.length cb] w fun e w' => e = .returned (.bool true) ∧ Below w.heap.size w w' := by
  have m1 : Hid (0 = 0) := Lib.hid rfl
  go_enter Try.func4, Try.ntmps4
  go_wp2_with (first
    | (go_at_call 15; have hx := m1.out; clear hx m1; refine (HA.out _ HZ.out).mono ?_; clear HA; rintro e w1 ⟨rfl, hb1⟩; have h := HZ.out.then hb1; clear hb1 HZ)
    | (go_at_call 15; refine (HB.out _ h).mono ?_; clear HB; rintro e w2 ⟨rfl, hb1⟩; replace h := h.then hb1; clear hb1)
    | (go_at_call 17; refine (wakes04_c _).mono ?_; rintro e w9 ⟨rfl, hb9⟩))
  go_ret
  exact ⟨rfl, below_then h.b0 h.b0.size hb9⟩
set_option maxRecDepth 100000 in
set_option maxHeartbeats 16000000 in
theorem structs_n4 {w : World} {a b : List Tm} {A B : Option Addr} {ca cb : Nat}
    (HZ : Hid (Zs w a b (.slice A a.length ca) (.slice B b.length cb) w))
    (HA : Hid (∀ W, Zs w a b (.slice A a.length ca) (.slice B b.length cb) W → Calls Try.prog 15 #[.slice A a.length ca] W fun e w' => e = .returned (.bool false) ∧ Below W.heap.size W w'))
    (HB : Hid (∀ W, Zs w a b (.slice A a.length ca) (.slice B b.length cb) W → Calls Try.prog 15 #[.slice B b.length cb] W fun e w' => e = .returned (.bool false) ∧ Below W.heap.size W w'))
    (l1 : decide ((16 : Int) < a.length) = false) (l2 : decide ((16 : Int) < b.length) = false) (l3 : ((a.length : Int) == 0) = false) (l4 : ((b.length : Int) == 0) = true) :
    Calls Try.prog 4 #[.slice A a.length ca, .slice B b.length cb] w fun e w' => e = .returned (.bool true) ∧ Below w.heap.size w w' := by
  have m1 : Hid (0 = 0) := Lib.hid rfl
  go_enter Try.func4, Try.ntmps4
  go_wp2_with (first
    | (go_at_call 15; have hx := m1.out; clear hx m1; refine (HA.out _ HZ.out).mono ?_; clear HA; rintro e w1 ⟨rfl, hb1⟩; have h := HZ.out.then hb1; clear hb1 HZ)
    | (go_at_call 15; refine (HB.out _ h).mono ?_; clear HB; rintro e w2 ⟨rfl, hb1⟩; replace h := h.then hb1; clear hb1)
    | (go_at_call 17; refine (wakes04_c _).mono ?_; rintro e w9 ⟨rfl, hb9⟩))
  go_ret
  exact ⟨rfl, below_then h.b0 h.b0.size hb9⟩
set_option maxRecDepth 100000 in
set_option maxHeartbeats 16000000 in
theorem structs_full31 {w : World} {a b : List Tm} {A B : Option Addr} {ca cb : Nat}
    (HZ : Hid (Zs w a b (.slice A a.length ca) (.slice B b.length cb) w))
    (HA : Hid (∀ W, Zs w a b (.slice A a.length ca) (.slice B b.length cb) W → Calls Try.prog 15 #[.slice A a.length ca] W fun e w' => e = .returned (.bool false) ∧ Below W.heap.size W w'))
    (HB : Hid (∀ W, Zs w a b (.slice A a.length ca) (.slice B b.length cb) W → Calls Try.prog 15 #[.slice B b.length cb] W fun e w' => e = .returned (.bool false) ∧ Below W.heap.size W w'))
    (l1 : decide ((16 : Int) < a.length) = false) (l2 : decide ((16 : Int) < b.length) = false) (l3 : ((a.length : Int) == 0) = false) (l4 : ((b.length : Int) == 0) = false)
    (HF1 : Hid (∀ W, Zs w a b (.slice A a.length ca) (.slice B b.length cb) W → Calls Try.prog 22 #[.string ⟨#[102]⟩, .slice A a.length ca] W fun e w' => (∃ r, e = .returned (.agg #[.int .u8 4, .string ⟨#[102]⟩, .int .i64 0, r]) ∧ Kd.tm.S w' (fun _ => True) a r) ∧ Below W.heap.size W w'))
    (HF2 : Hid (∀ W, Zs w a b (.slice A a.length ca) (.slice B b.length cb) W → Calls Try.prog 22 #[.string ⟨#[102]⟩, .slice B b.length cb] W fun e w' => (∃ r, e = .returned (.agg #[.int .u8 4, .string ⟨#[102]⟩, .int .i64 0, r]) ∧ Kd.tm.S w' (fun _ => True) b r) ∧ Below W.heap.size W w'))
    (HL : Hid (∀ W q c, Zs w a b (.slice A a.length ca) (.slice B b.length cb) W → Sub W (fun _ => True) [] q c → Calls Try.prog 21 #[.pointer (some ⟨q, 0, none⟩), .slice A a.length ca, .slice B b.length cb] W fun e w' => e = .returned (.tuple #[.pointer none, .bool false, .int .i64 31]) ∧ Below W.heap.size W w'))
    (HU : Hid (∀ W q c vf vg, Zs w a b (.slice A a.length ca) (.slice B b.length cb) W → Sub W (fun _ => True) [] q c → Kd.tm.S W (fun _ => True) a vf → Kd.tm.S W (fun _ => True) b vg → Calls Try.prog 18 #[.pointer (some ⟨q, 0, none⟩), .agg #[.int .u8 4, .string ⟨#[102]⟩, .int .i64 0, vf], .agg #[.int .u8 4, .string ⟨#[102]⟩, .int .i64 0, vg]] W fun e w' => e = .returned (.tuple #[.pointer none, .bool false, .int .i64 31]) ∧ Below W.heap.size W w'))
    :
    Calls Try.prog 4 #[.slice A a.length ca, .slice B b.length cb] w fun e w' => e = .returned (.bool true) ∧ Below w.heap.size w w' := by
  have m1 : Hid (0 = 0) := Lib.hid rfl
  have m2 : Hid (0 = 0) := Lib.hid rfl
  have m3 : Hid (0 = 0) := Lib.hid rfl
  go_enter Try.func4, Try.ntmps4
  go_wp2_with (first
    | (go_at_call 15; have hx := m1.out; clear hx m1; refine (HA.out _ HZ.out).mono ?_; clear HA; rintro e w1 ⟨rfl, hb1⟩; have h := HZ.out.then hb1; clear hb1 HZ)
    | (go_at_call 15; refine (HB.out _ h).mono ?_; clear HB; rintro e w2 ⟨rfl, hb1⟩; replace h := h.then hb1; clear hb1)
    | (go_at_call 19; have hx := m2.out; clear hx m2; refine (New_c _ (fun _ => True)).mono ?_; rintro e w3 ⟨⟨q, c, rfl, hn, -, -⟩, hb1⟩; replace h := h.then hb1; clear hb1)
    | (go_at_call 21; refine (HL.out _ _ _ h hn).mono ?_; clear HL hn; rintro e w4 ⟨rfl, hb1⟩; replace h := h.then hb1; clear hb1)
    | (go_at_call 19; refine (New_c _ (fun _ => True)).mono ?_; rintro e w5 ⟨⟨q, c, rfl, hn, -, -⟩, hb1⟩; replace h := h.then hb1; clear hb1)
    | (go_at_call 22; have hx := m3.out; clear hx m3; refine (HF1.out _ h).mono ?_; clear HF1; rintro e w6 ⟨⟨vf, rfl, hf⟩, hb1⟩; replace h := h.then hb1; replace hn := hn.below hb1; clear hb1)
    | (go_at_call 22; refine (HF2.out _ h).mono ?_; clear HF2; rintro e w7 ⟨⟨vg, rfl, hg⟩, hb1⟩; replace h := h.then hb1; replace hn := hn.below hb1; replace hf := hf.below hb1; clear hb1)
    | (go_at_call 18; refine (HU.out _ _ _ _ _ h hn hf hg).mono ?_; clear HU hn hf hg; rintro e w8 ⟨rfl, hb1⟩; replace h := h.then hb1; clear hb1)
    | (go_at_call 17; refine (wakes04_c _).mono ?_; rintro e w9 ⟨rfl, hb9⟩))
  go_ret
  exact ⟨rfl, below_then h.b0 h.b0.size hb9⟩
set_option maxRecDepth 100000 in
set_option maxHeartbeats 16000000 in
theorem structs_full0 {w : World} {a b : List Tm} {A B : Option Addr} {ca cb : Nat} {b1 : Bool}
    (HZ : Hid (Zs w a b (.slice A a.length ca) (.slice B b.length cb) w))
    (HA : Hid (∀ W, Zs w a b (.slice A a.length ca) (.slice B b.length cb) W → Calls Try.prog 15 #[.slice A a.length ca] W fun e w' => e = .returned (.bool false) ∧ Below W.heap.size W w'))
    (HB : Hid (∀ W, Zs w a b (.slice A a.length ca) (.slice B b.length cb) W → Calls Try.prog 15 #[.slice B b.length cb] W fun e w' => e = .returned (.bool false) ∧ Below W.heap.size W w'))
    (l1 : decide ((16 : Int) < a.length) = false) (l2 : decide ((16 : Int) < b.length) = false) (l3 : ((a.length : Int) == 0) = false) (l4 : ((b.length : Int) == 0) = false)
    (HF1 : Hid (∀ W, Zs w a b (.slice A a.length ca) (.slice B b.length cb) W → Calls Try.prog 22 #[.string ⟨#[102]⟩, .slice A a.length ca] W fun e w' => (∃ r, e = .returned (.agg #[.int .u8 4, .string ⟨#[102]⟩, .int .i64 0, r]) ∧ Kd.tm.S w' (fun _ => True) a r) ∧ Below W.heap.size W w'))
    (HF2 : Hid (∀ W, Zs w a b (.slice A a.length ca) (.slice B b.length cb) W → Calls Try.prog 22 #[.string ⟨#[102]⟩, .slice B b.length cb] W fun e w' => (∃ r, e = .returned (.agg #[.int .u8 4, .string ⟨#[102]⟩, .int .i64 0, r]) ∧ Kd.tm.S w' (fun _ => True) b r) ∧ Below W.heap.size W w'))
    (HL : Hid (∀ W q c, Zs w a b (.slice A a.length ca) (.slice B b.length cb) W → Sub W (fun _ => True) [] q c → Calls Try.prog 21 #[.pointer (some ⟨q, 0, none⟩), .slice A a.length ca, .slice B b.length cb] W fun e w' => (∃ P1, e = .returned (.tuple #[P1, .bool b1, .int .i64 0])) ∧ Below W.heap.size W w'))
    (HU : Hid (∀ W q c vf vg, Zs w a b (.slice A a.length ca) (.slice B b.length cb) W → Sub W (fun _ => True) [] q c → Kd.tm.S W (fun _ => True) a vf → Kd.tm.S W (fun _ => True) b vg → Calls Try.prog 18 #[.pointer (some ⟨q, 0, none⟩), .agg #[.int .u8 4, .string ⟨#[102]⟩, .int .i64 0, vf], .agg #[.int .u8 4, .string ⟨#[102]⟩, .int .i64 0, vg]] W fun e w' => e = .returned (.tuple #[.pointer none, .bool false, .int .i64 31]) ∧ Below W.heap.size W w'))
    :
    Calls Try.prog 4 #[.slice A a.length ca, .slice B b.length cb] w fun e w' => e = .returned (.bool true) ∧ Below w.heap.size w w' := by
  have m1 : Hid (0 = 0) := Lib.hid rfl
  have m2 : Hid (0 = 0) := Lib.hid rfl
  have m3 : Hid (0 = 0) := Lib.hid rfl
  go_enter Try.func4, Try.ntmps4
  go_wp2_with (first
    | (go_at_call 15; have hx := m1.out; clear hx m1; refine (HA.out _ HZ.out).mono ?_; clear HA; rintro e w1 ⟨rfl, hb1⟩; have h := HZ.out.then hb1; clear hb1 HZ)
    | (go_at_call 15; refine (HB.out _ h).mono ?_; clear HB; rintro e w2 ⟨rfl, hb1⟩; replace h := h.then hb1; clear hb1)
    | (go_at_call 19; have hx := m2.out; clear hx m2; refine (New_c _ (fun _ => True)).mono ?_; rintro e w3 ⟨⟨q, c, rfl, hn, -, -⟩, hb1⟩; replace h := h.then hb1; clear hb1)
    | (go_at_call 21; refine (HL.out _ _ _ h hn).mono ?_; clear HL hn; rintro e w4 ⟨⟨P1, rfl⟩, hb1⟩; replace h := h.then hb1; clear hb1)
    | (go_at_call 19; refine (New_c _ (fun _ => True)).mono ?_; rintro e w5 ⟨⟨q, c, rfl, hn, -, -⟩, hb1⟩; replace h := h.then hb1; clear hb1)
    | (go_at_call 22; have hx := m3.out; clear hx m3; refine (HF1.out _ h).mono ?_; clear HF1; rintro e w6 ⟨⟨vf, rfl, hf⟩, hb1⟩; replace h := h.then hb1; replace hn := hn.below hb1; clear hb1)
    | (go_at_call 22; refine (HF2.out _ h).mono ?_; clear HF2; rintro e w7 ⟨⟨vg, rfl, hg⟩, hb1⟩; replace h := h.then hb1; replace hn := hn.below hb1; replace hf := hf.below hb1; clear hb1)
    | (go_at_call 18; refine (HU.out _ _ _ _ _ h hn hf hg).mono ?_; clear HU hn hf hg; rintro e w8 ⟨rfl, hb1⟩; replace h := h.then hb1; clear hb1)
    | (go_at_call 17; refine (wakes04_c _).mono ?_; rintro e w9 ⟨rfl, hb9⟩))
  go_ret
  exact ⟨rfl, below_then h.b0 h.b0.size hb9⟩
set_option maxRecDepth 100000 in
set_option maxHeartbeats 16000000 in
theorem structs_no {w : World} {a b : List Tm} {A B : Option Addr} {ca cb : Nat} {vs : List Int}
    (HZ : Hid (Zs w a b (.slice A a.length ca) (.slice B b.length cb) w))
    (HA : Hid (∀ W, Zs w a b (.slice A a.length ca) (.slice B b.length cb) W → Calls Try.prog 15 #[.slice A a.length ca] W fun e w' => e = .returned (.bool false) ∧ Below W.heap.size W w'))
    (HB : Hid (∀ W, Zs w a b (.slice A a.length ca) (.slice B b.length cb) W → Calls Try.prog 15 #[.slice B b.length cb] W fun e w' => e = .returned (.bool false) ∧ Below W.heap.size W w'))
    (l1 : decide ((16 : Int) < a.length) = false) (l2 : decide ((16 : Int) < b.length) = false) (l3 : ((a.length : Int) == 0) = false) (l4 : ((b.length : Int) == 0) = false)
    (HF1 : Hid (∀ W, Zs w a b (.slice A a.length ca) (.slice B b.length cb) W → Calls Try.prog 22 #[.string ⟨#[102]⟩, .slice A a.length ca] W fun e w' => (∃ r, e = .returned (.agg #[.int .u8 4, .string ⟨#[102]⟩, .int .i64 0, r]) ∧ Kd.tm.S w' (fun _ => True) a r) ∧ Below W.heap.size W w'))
    (HF2 : Hid (∀ W, Zs w a b (.slice A a.length ca) (.slice B b.length cb) W → Calls Try.prog 22 #[.string ⟨#[102]⟩, .slice B b.length cb] W fun e w' => (∃ r, e = .returned (.agg #[.int .u8 4, .string ⟨#[102]⟩, .int .i64 0, r]) ∧ Kd.tm.S w' (fun _ => True) b r) ∧ Below W.heap.size W w'))
    (HL : Hid (∀ W q c, Zs w a b (.slice A a.length ca) (.slice B b.length cb) W → Sub W (fun _ => True) [] q c → Calls Try.prog 21 #[.pointer (some ⟨q, 0, none⟩), .slice A a.length ca, .slice B b.length cb] W fun e w' => e = .returned (.tuple #[.pointer none, .bool false, .int .i64 0]) ∧ Below W.heap.size W w'))
    (HU : Hid (∀ W q c vf vg, Zs w a b (.slice A a.length ca) (.slice B b.length cb) W → Sub W (fun _ => True) [] q c → Kd.tm.S W (fun _ => True) a vf → Kd.tm.S W (fun _ => True) b vg → Calls Try.prog 18 #[.pointer (some ⟨q, 0, none⟩), .agg #[.int .u8 4, .string ⟨#[102]⟩, .int .i64 0, vf], .agg #[.int .u8 4, .string ⟨#[102]⟩, .int .i64 0, vg]] W fun e w' => e = .returned (.tuple #[.pointer none, .bool false, .int .i64 0]) ∧ Below W.heap.size W w'))
    (HV : Hid (∀ W v, Kd.tm.S W (fun _ => True) (a ++ b) v → Calls Try.prog 23 #[v] W fun e w' => (∃ A c, e = .returned (.slice A vs.length c) ∧ (Kd.int .i64).S w' (fun _ => True) vs (.slice A vs.length c)) ∧ Below W.heap.size W w'))
    (HT : Hid ((Try.prog.info? 24).map (fun i => (i.zero, i.size, i.bytes)) = some (some (.agg #[.int .u8 0, .string ⟨#[]⟩, .int .i64 0, .slice none 0 0]), 4, 56)))
    (ln : a.length ≤ 16 ∧ b.length ≤ 16)
    :
    Calls Try.prog 4 #[.slice A a.length ca, .slice B b.length cb] w fun e w' => e = .returned (.bool true) ∧ Below w.heap.size w w' := by
  have m1 : Hid (0 = 0) := Lib.hid rfl
  have m2 : Hid (0 = 0) := Lib.hid rfl
  have m3 : Hid (0 = 0) := Lib.hid rfl
  go_enter Try.func4, Try.ntmps4
  go_wp2_with (first
    | (go_at_call 15; have hx := m1.out; clear hx m1; refine (HA.out _ HZ.out).mono ?_; clear HA; rintro e w1 ⟨rfl, hb1⟩; have h := HZ.out.then hb1; clear hb1 HZ)
    | (go_at_call 15; refine (HB.out _ h).mono ?_; clear HB; rintro e w2 ⟨rfl, hb1⟩; replace h := h.then hb1; clear hb1)
    | (go_at_call 19; have hx := m2.out; clear hx m2; refine (New_c _ (fun _ => True)).mono ?_; rintro e w3 ⟨⟨q, c, rfl, hn, -, -⟩, hb1⟩; replace h := h.then hb1; clear hb1)
    | (go_at_call 21; refine (HL.out _ _ _ h hn).mono ?_; clear HL hn; rintro e w4 ⟨rfl, hb1⟩; replace h := h.then hb1; clear hb1)
    | (go_at_call 19; refine (New_c _ (fun _ => True)).mono ?_; rintro e w5 ⟨⟨q, c, rfl, hn, -, -⟩, hb1⟩; replace h := h.then hb1; clear hb1)
    | (go_at_call 22; have hx := m3.out; clear hx m3; refine (HF1.out _ h).mono ?_; clear HF1; rintro e w6 ⟨⟨vf, rfl, hf⟩, hb1⟩; replace h := h.then hb1; replace hn := hn.below hb1; clear hb1)
    | (go_at_call 22; refine (HF2.out _ h).mono ?_; clear HF2; rintro e w7 ⟨⟨vg, rfl, hg⟩, hb1⟩; replace h := h.then hb1; replace hn := hn.below hb1; replace hf := hf.below hb1; clear hb1)
    | (go_at_call 18; refine (HU.out _ _ _ _ _ h hn hf hg).mono ?_; clear HU hn hf hg; rintro e w8 ⟨rfl, hb1⟩; replace h := h.then hb1; clear hb1)
    | (at_builtin; refine Kd.appendS Kd.tm w8.heap.size (fun _ => True) (fun _ => True) (fun _ => True) rfl (.const (.slice none 0 0)) (.tmp 98) 22 24 (.agg #[.int .u8 0, .string ⟨#[]⟩, .int .i64 0, .slice none 0 0]) 56 rfl Try.underlying22 HT.out rfl (by decide) (.slice none 0 0) (.slice A a.length ca) [] a rfl rfl ?HO ?HY ?hoky ?hbase ?hl ?_))
  case HO => exact Kd.Own.nil _ _ _ _ _
  case HY => exact Kd.S.S2 h.sa
  case hoky => exact fun x cs hk => Kd.tm.mono (fun b hb => ⟨trivial, by simp [Value.ownBlock]⟩) hk
  case hbase => exact Nat.le_refl _
  case hl => simp only [List.length_nil]; omega
  intro v1 w10 hO1 hg1 hat1
  try simp only [List.nil_append] at hO1
  obtain ⟨A1, c1, rfl⟩ := hO1.form
  have hB1 : Below w8.heap.size w8 w10 := (Below.refl _ w8).grown hg1 (Nat.le_refl _) (fun k hk => by simp [Value.ownBlock] at hk)
  have hsz1 := hB1.size
  have hSB := Kd.S.S2 ((Kd.S.bound (h.sb)).below hB1)
  have hlt1 := hO1.lt
  clear hat1 hg1
  go_wp2_with (at_builtin; refine Kd.appendS Kd.tm w8.heap.size (fun _ => True) (fun b => True ∧ b < w8.heap.size) (fun b => True ∧ b < w8.heap.size) rfl (.tmp 99) (.tmp 100) 22 24 (.agg #[.int .u8 0, .string ⟨#[]⟩, .int .i64 0, .slice none 0 0]) 56 rfl Try.underlying22 HT.out rfl (by decide) (.slice A1 a.length c1) (.slice B b.length cb) a b rfl rfl hO1 hSB ?hoky ?hbase ?hl ?_)
  case hoky => exact fun x cs hk => Kd.tm.mono (fun b hb => ⟨trivial, fun he => by have := (hlt1 b he.symm).1; omega⟩) hk
  case hbase => exact hsz1
  case hl => omega
  intro v2 w11 hO2 hg2 hat2
  obtain ⟨A2, c2, hv2⟩ := hO2.form
  rw [List.length_append] at hv2
  subst hv2
  have hB2 : Below w8.heap.size w8 w11 := hB1.grown hg2 hsz1 (fun k hk => (hlt1 k hk).1)
  have hS2 := (Kd.Own.S hO2).mono (ok' := fun _ => True) (fun _ _ => trivial)
  replace h := h.then hB2
  clear hO1 hO2 hg2 hat2 hSB hlt1 hsz1 hB1 hB2 HT
  go_wp2_with (first
    | (go_at_call 23; refine (HV.out _ _ hS2).mono ?_; clear HV hS2; rintro e w12 ⟨⟨Av, cv, rfl, hv⟩, hb1⟩; replace h := h.then hb1; clear hb1)
    | (go_at_call 17; refine (wakes04_c _).mono ?_; rintro e w9 ⟨rfl, hb9⟩))
  go_loop [12] (fun i => i = .int .i64 0) (fun i => 0)
  case atStart => rfl
  case round =>
    subst hrel
    by_cases hlv : (0 : Int) < vs.length
    · go_wp2_with (go_at_call 17; refine (wakes04_c _).mono ?_; rintro e w9 ⟨rfl, hb9⟩)
      go_ret
      exact ⟨rfl, below_then h.b0 h.b0.size hb9⟩
    · replace hlv : decide ((0 : Int) < vs.length) = false := by simpa using hlv
      go_wp2_with (go_at_call 17; refine (wakes04_c _).mono ?_; rintro e w9 ⟨rfl, hb9⟩)
      all_goals (go_ret; exact ⟨rfl, below_then h.b0 h.b0.size hb9⟩)
set_option maxRecDepth 100000 in
set_option maxHeartbeats 16000000 in
theorem structs_yes {w : World} {a b : List Tm} {A B : Option Addr} {ca cb : Nat} {vs : List Int} {l : Bs} {E : Int → Int} {X : Int → Tm}
    (HZ : Hid (Zs w a b (.slice A a.length ca) (.slice B b.length cb) w))
    (HA : Hid (∀ W, Zs w a b (.slice A a.length ca) (.slice B b.length cb) W → Calls Try.prog 15 #[.slice A a.length ca] W fun e w' => e = .returned (.bool false) ∧ Below W.heap.size W w'))
    (HB : Hid (∀ W, Zs w a b (.slice A a.length ca) (.slice B b.length cb) W → Calls Try.prog 15 #[.slice B b.length cb] W fun e w' => e = .returned (.bool false) ∧ Below W.heap.size W w'))
    (l1 : decide ((16 : Int) < a.length) = false) (l2 : decide ((16 : Int) < b.length) = false) (l3 : ((a.length : Int) == 0) = false) (l4 : ((b.length : Int) == 0) = false)
    (HF1 : Hid (∀ W, Zs w a b (.slice A a.length ca) (.slice B b.length cb) W → Calls Try.prog 22 #[.string ⟨#[102]⟩, .slice A a.length ca] W fun e w' => (∃ r, e = .returned (.agg #[.int .u8 4, .string ⟨#[102]⟩, .int .i64 0, r]) ∧ Kd.tm.S w' (fun _ => True) a r) ∧ Below W.heap.size W w'))
    (HF2 : Hid (∀ W, Zs w a b (.slice A a.length ca) (.slice B b.length cb) W → Calls Try.prog 22 #[.string ⟨#[102]⟩, .slice B b.length cb] W fun e w' => (∃ r, e = .returned (.agg #[.int .u8 4, .string ⟨#[102]⟩, .int .i64 0, r]) ∧ Kd.tm.S w' (fun _ => True) b r) ∧ Below W.heap.size W w'))
    (HL : Hid (∀ W q c, Zs w a b (.slice A a.length ca) (.slice B b.length cb) W → Sub W (fun _ => True) [] q c → Calls Try.prog 21 #[.pointer (some ⟨q, 0, none⟩), .slice A a.length ca, .slice B b.length cb] W fun e w' => (∃ q' c', e = .returned (.tuple #[.pointer (some ⟨q', 0, none⟩), .bool true, .int .i64 0]) ∧ Sub w' (fun _ => True) l q' c') ∧ Below W.heap.size W w'))
    (HU : Hid (∀ W q c vf vg, Zs w a b (.slice A a.length ca) (.slice B b.length cb) W → Sub W (fun _ => True) [] q c → Kd.tm.S W (fun _ => True) a vf → Kd.tm.S W (fun _ => True) b vg → Calls Try.prog 18 #[.pointer (some ⟨q, 0, none⟩), .agg #[.int .u8 4, .string ⟨#[102]⟩, .int .i64 0, vf], .agg #[.int .u8 4, .string ⟨#[102]⟩, .int .i64 0, vg]] W fun e w' => (∃ q' c', e = .returned (.tuple #[.pointer (some ⟨q', 0, none⟩), .bool true, .int .i64 0]) ∧ Sub w' (fun _ => True) l q' c') ∧ Below W.heap.size W w'))
    (HV : Hid (∀ W v, Kd.tm.S W (fun _ => True) (a ++ b) v → Calls Try.prog 23 #[v] W fun e w' => (∃ A c, e = .returned (.slice A vs.length c) ∧ (Kd.int .i64).S w' (fun _ => True) vs (.slice A vs.length c)) ∧ Below W.heap.size W w'))
    (HT : Hid ((Try.prog.info? 24).map (fun i => (i.zero, i.size, i.bytes)) = some (some (.agg #[.int .u8 0, .string ⟨#[]⟩, .int .i64 0, .slice none 0 0]), 4, 56)))
    (ln : a.length ≤ 16 ∧ b.length ≤ 16)
    (HP : Hid (∀ n ∈ vs, ∀ W p c, Sub W (fun _ => True) l p c → Calls Try.prog 24 #[.pointer (some ⟨p, 0, none⟩), .agg #[.int .u8 1, .string ⟨#[]⟩, .int .i64 n, .slice none 0 0]] W fun e w' => (∃ u, e = .returned (.tuple #[u, .int .i64 (E n)]) ∧ TmV w' (fun _ => True) (X n) u) ∧ Below W.heap.size W w'))
    (HVL : Hid (vs.length ≤ 1000000))
    :
    Calls Try.prog 4 #[.slice A a.length ca, .slice B b.length cb] w fun e w' => e = .returned (.bool true) ∧ Below w.heap.size w w' := by
  have m1 : Hid (0 = 0) := Lib.hid rfl
  have m2 : Hid (0 = 0) := Lib.hid rfl
  have m3 : Hid (0 = 0) := Lib.hid rfl
  go_enter Try.func4, Try.ntmps4
  go_wp2_with (first
    | (go_at_call 15; have hx := m1.out; clear hx m1; refine (HA.out _ HZ.out).mono ?_; clear HA; rintro e w1 ⟨rfl, hb1⟩; have h := HZ.out.then hb1; clear hb1 HZ)
    | (go_at_call 15; refine (HB.out _ h).mono ?_; clear HB; rintro e w2 ⟨rfl, hb1⟩; replace h := h.then hb1; clear hb1)
    | (go_at_call 19; have hx := m2.out; clear hx m2; refine (New_c _ (fun _ => True)).mono ?_; rintro e w3 ⟨⟨q, c, rfl, hn, -, -⟩, hb1⟩; replace h := h.then hb1; clear hb1)
    | (go_at_call 21; refine (HL.out _ _ _ h hn).mono ?_; clear HL hn; rintro e w4 ⟨⟨p1, d1, rfl, hs1⟩, hb1⟩; replace h := h.then hb1; have h : Zt w a b (.slice A a.length ca) (.slice B b.length cb) l p1 d1 w4 := ⟨h, hs1⟩; clear hb1 hs1)
    | (go_at_call 19; refine (New_c _ (fun _ => True)).mono ?_; rintro e w5 ⟨⟨q, c, rfl, hn, -, -⟩, hb1⟩; replace h := h.then hb1; clear hb1)
    | (go_at_call 22; have hx := m3.out; clear hx m3; refine (HF1.out _ h.z).mono ?_; clear HF1; rintro e w6 ⟨⟨vf, rfl, hf⟩, hb1⟩; replace h := h.then hb1; replace hn := hn.below hb1; clear hb1)
    | (go_at_call 22; refine (HF2.out _ h.z).mono ?_; clear HF2; rintro e w7 ⟨⟨vg, rfl, hg⟩, hb1⟩; replace h := h.then hb1; replace hn := hn.below hb1; replace hf := hf.below hb1; clear hb1)
    | (go_at_call 18; refine (HU.out _ _ _ _ _ h.z hn hf hg).mono ?_; clear HU hn hf hg; rintro e w8 ⟨⟨p2, d2, rfl, hs2⟩, hb1⟩; replace h := h.then hb1; have h : Zu w a b (.slice A a.length ca) (.slice B b.length cb) l p1 d1 p2 d2 w8 := ⟨h, hs2⟩; clear hb1 hs2)
    | (go_at_call_has 20 (Value.pointer (some ⟨p1, 0, none⟩)); refine (sLen_c l p1 d1 _ _ h.z.s).mono ?_; rintro e w13 ⟨rfl, hb1⟩; replace h := h.then hb1; clear hb1)
    | (go_at_call 20; refine (sLen_c l p2 d2 _ _ h.s).mono ?_; rintro e w8 ⟨rfl, hb1⟩; replace h := h.then hb1; clear hb1)
    | (at_builtin; refine Kd.appendS Kd.tm w8.heap.size (fun _ => True) (fun _ => True) (fun _ => True) rfl (.const (.slice none 0 0)) (.tmp 98) 22 24 (.agg #[.int .u8 0, .string ⟨#[]⟩, .int .i64 0, .slice none 0 0]) 56 rfl Try.underlying22 HT.out rfl (by decide) (.slice none 0 0) (.slice A a.length ca) [] a rfl rfl ?HO ?HY ?hoky ?hbase ?hl ?_))
  case HO => exact Kd.Own.nil _ _ _ _ _
  case HY => exact Kd.S.S2 h.z.z.sa
  case hoky => exact fun x cs hk => Kd.tm.mono (fun b hb => ⟨trivial, by simp [Value.ownBlock]⟩) hk
  case hbase => exact Nat.le_refl _
  case hl => simp only [List.length_nil]; omega
  intro v1 w10 hO1 hg1 hat1
  try simp only [List.nil_append] at hO1
  obtain ⟨A1, c1, rfl⟩ := hO1.form
  have hB1 : Below w8.heap.size w8 w10 := (Below.refl _ w8).grown hg1 (Nat.le_refl _) (fun k hk => by simp [Value.ownBlock] at hk)
  have hsz1 := hB1.size
  have hSB := Kd.S.S2 ((Kd.S.bound (h.z.z.sb)).below hB1)
  have hlt1 := hO1.lt
  clear hat1 hg1
  go_wp2_with (at_builtin; refine Kd.appendS Kd.tm w8.heap.size (fun _ => True) (fun b => True ∧ b < w8.heap.size) (fun b => True ∧ b < w8.heap.size) rfl (.tmp 99) (.tmp 100) 22 24 (.agg #[.int .u8 0, .string ⟨#[]⟩, .int .i64 0, .slice none 0 0]) 56 rfl Try.underlying22 HT.out rfl (by decide) (.slice A1 a.length c1) (.slice B b.length cb) a b rfl rfl hO1 hSB ?hoky ?hbase ?hl ?_)
  case hoky => exact fun x cs hk => Kd.tm.mono (fun b hb => ⟨trivial, fun he => by have := (hlt1 b he.symm).1; omega⟩) hk
  case hbase => exact hsz1
  case hl => omega
  intro v2 w11 hO2 hg2 hat2
  obtain ⟨A2, c2, hv2⟩ := hO2.form
  rw [List.length_append] at hv2
  subst hv2
  have hB2 : Below w8.heap.size w8 w11 := hB1.grown hg2 hsz1 (fun k hk => (hlt1 k hk).1)
  have hS2 := (Kd.Own.S hO2).mono (ok' := fun _ => True) (fun _ _ => trivial)
  replace h := h.then hB2
  clear hO1 hO2 hg2 hat2 hSB hlt1 hsz1 hB1 hB2 HT
  have hvl := HVL.out
  clear HVL
  go_wp2_with (go_at_call 23; refine (HV.out _ _ hS2).mono ?_; clear HV hS2; rintro e w12 ⟨⟨Av, cv, rfl, hv⟩, hb1⟩; replace h := h.then hb1; clear hb1)
  have h0 : Zv w l p1 d1 p2 d2 vs (.slice Av vs.length cv) w12 := ⟨h.z.z.b0, h.z.s, h.s, hv⟩
  clear h hv
  go_loopw [12] (fun i wr => ∃ j : Nat, j ≤ vs.length ∧ i = .int .i64 j ∧ Zv w l p1 d1 p2 d2 vs (.slice Av vs.length cv) wr) (fun i _ => vs.length - (intOf i).toNat)
  case atStart => exact ⟨0, Nat.zero_le _, rfl, h0⟩
  case round =>
    clear h0
    obtain ⟨j, hj, rfl, h0⟩ := hrel
    by_cases hlt : j < vs.length
    · obtain ⟨Avv, cvv, eA, -, -, hA⟩ := h0.v
      injection eA with eA1 eA2 eA3
      subst eA1
      clear eA2 eA3
      obtain ⟨bv, ov, rfl, -, hlo, hcv⟩ := int_elem hA hlt
      have hn := List.getElem_mem hlt
      have HPn := Lib.hid (HP.out vs[j] hn)
      generalize vs[j] = n at hcv HPn
      clear hA hn
      generalize X n = x at HPn
      generalize E n = ee at HPn
      have m5 : Hid (0 = 0) := Lib.hid rfl
      have m6 : Hid (0 = 0) := Lib.hid rfl
      go_wp2_with (first
        | (go_at_call 25; have hx := m5.out; clear hx m5; refine (V_c _ _ (fun _ => True)).mono ?_; rintro e w13 ⟨rfl, hb1⟩; replace h0 := h0.then hb1; replace hcv := cell_below hb1 hcv hlo; replace hlo := Nat.lt_of_lt_of_le hlo hb1.size; clear hb1)
        | (go_at_call 24; have hx := m6.out; clear hx m6; refine (HPn.out _ _ _ h0.s).mono ?_; rintro e w14 ⟨⟨u, rfl, uu, rfl, hu⟩, hb1⟩; obtain ⟨Au, cu, rfl⟩ := hu.form; replace hcv := cell_below (hb1.alloc hb1.size (.cells #[.int .u8 x.k, .string x.s, .int .i64 x.n, .slice Au x.l.length cu] 24)) hcv hlo; replace hlo := Nat.lt_of_lt_of_le hlo (hb1.alloc hb1.size (.cells #[.int .u8 x.k, .string x.s, .int .i64 x.n, .slice Au x.l.length cu] 24)).size; have hb0 := hb1; replace h0 := (h0.then hb1).alloc (.cells #[.int .u8 x.k, .string x.s, .int .i64 x.n, .slice Au x.l.length cu] 24); have h1 := Bt.new hu; clear hb1 hu)
        | (go_at_call 25; refine (V_c _ _ (fun _ => True)).mono ?_; rintro e w15 ⟨rfl, hb1⟩; replace h0 := h0.then hb1; replace h1 := h1.below hb1; clear hb1)
        | (go_at_call 24; refine (HPn.out _ _ _ h0.t).mono ?_; clear HPn; rintro e w16 ⟨⟨u2, rfl, uu2, rfl, hu2⟩, hb1⟩; obtain ⟨Au2, cu2, rfl⟩ := hu2.form; replace h0 := (h0.then hb1).alloc (.cells #[.int .u8 x.k, .string x.s, .int .i64 x.n, .slice Au2 x.l.length cu2] 24); have h2 := Bt.new hu2; replace h1 := h1.below (hb1.alloc hb1.size (.cells #[.int .u8 x.k, .string x.s, .int .i64 x.n, .slice Au2 x.l.length cu2] 24)); clear hb1 hu2; obtain ⟨c0, c1, c2, c3⟩ := h1.cells; obtain ⟨d0, d1, d2, d3⟩ := h2.cells)
        | (go_at_call 26; refine (Same_refl x _ _ _ _ _ h1.tmv h2.tmv).mono ?_; rintro e w17 ⟨rfl, hb1⟩; replace h0 := h0.then hb1; clear hb1 h1 h2 c0 c1 c2 c3 d0 d1 d2 d3))
      go_roundw
      case rel => exact ⟨j + 1, by omega, by go_num, h0⟩
      case measure => simp [intOf]; omega
    · have hjl : j = vs.length := by omega
      subst hjl
      go_wp2_with (go_at_call 17; refine (wakes04_c _).mono ?_; rintro e w9 ⟨rfl, hb9⟩)
      go_ret
      exact ⟨rfl, below_then h0.b0 h0.b0.size hb9⟩
/-! ### What both unifications come to -/
theorem structs_plain {a b : List Tm} (h : a ≠ []) (h' : b ≠ []) : un 4098 0 [] [(⟨4, ⟨#[102]⟩, 0, a⟩, ⟨4, ⟨#[102]⟩, 0, b⟩)] = if a.length = b.length then un 4097 1 [] (a.zip b) else .no := by
  split
  · rename_i hl
    rw [show (4098 : Nat) = 4097 + 1 from rfl, un_apart (y1 := ⟨4, ⟨#[102]⟩, 0, a⟩) (y2 := ⟨4, ⟨#[102]⟩, 0, b⟩) rfl rfl (by omega) (by simp) (by simp) ⟨rfl, rfl, rfl, hl⟩]
    simp only [List.append_nil]
  · rename_i hl
    rw [show (4098 : Nat) = 4097 + 1 from rfl, un_clash (y1 := ⟨4, ⟨#[102]⟩, 0, a⟩) (y2 := ⟨4, ⟨#[102]⟩, 0, b⟩) rfl rfl (by omega) (by simp) (by simp) (fun h => hl h.2.2.2)]
theorem structs_mem {x : Tm} : ∀ {L : List Tm}, x ∈ L → x.siz ≤ sizL L := fun h => siz_memL h
set_option maxRecDepth 100000 in
set_option maxHeartbeats 16000000 in
theorem UnifyStructs_c (a b : List Tm) (v v' : Value) (w : World) (ok ok' : Nat → Prop) (hv : Kd.tm.S w ok a v) (hv' : Kd.tm.S w ok' b v') (hwa : WfL a) (hwb : WfL b) :
    Calls Try.prog 4 #[v, v'] w fun e w' => e = .returned (.bool true) ∧ Below w.heap.size w w' := by
  obtain ⟨A, ca, rfl⟩ := hv.form
  obtain ⟨B, cb, rfl⟩ := hv'.form
  have HZ : Hid (Zs w a b (.slice A a.length ca) (.slice B b.length cb) w) := Lib.hid ⟨Below.refl _ _, hv.mono (fun _ _ => trivial), hv'.mono (fun _ _ => trivial)⟩
  have HA := Lib.hid (fun W (h : Zs w a b (.slice A a.length ca) (.slice B b.length cb) W) => Great_c a _ W _ h.sa hwa)
  have HB := Lib.hid (fun W (h : Zs w a b (.slice A a.length ca) (.slice B b.length cb) W) => Great_c b _ W _ h.sb hwb)
  clear hv hv'
  cases hga : great a with
  | true => rw [hga] at HA; exact structs_ga HZ HA
  | false =>
    rw [hga] at HA
    cases hgb : great b with
    | true => rw [hgb] at HB; exact structs_gb HZ HA HB
    | false =>
      rw [hgb] at HB
      by_cases l1 : (16 : Int) < a.length
      · exact structs_n1 HZ HA HB l1
      · by_cases l2 : (16 : Int) < b.length
        · exact structs_n2 HZ HA HB (by simpa using l1) l2
        · by_cases l3 : ((a.length : Int) == 0) = true
          · exact structs_n3 HZ HA HB (by simpa using l1) (by simpa using l2) l3
          · by_cases l4 : ((b.length : Int) == 0) = true
            · exact structs_n4 HZ HA HB (by simpa using l1) (by simpa using l2) (by simpa using l3) l4
            · have ln : a.length ≤ 16 ∧ b.length ≤ 16 := by omega
              have ha0 : a ≠ [] := by rintro rfl; simp at l3
              have hb0 : b ≠ [] := by rintro rfl; simp at l4
              replace l1 : decide ((16 : Int) < a.length) = false := by simpa using l1
              replace l2 : decide ((16 : Int) < b.length) = false := by simpa using l2
              replace l3 : ((a.length : Int) == 0) = false := by simpa using l3
              replace l4 : ((b.length : Int) == 0) = false := by simpa using l4
              have hza := great_siz hga
              have hzb := great_siz hgb
              have zA : ∀ x ∈ a, x.siz ≤ 1000000 := fun x hx => by have := structs_mem hx; omega
              have zB : ∀ x ∈ b, x.siz ≤ 1000000 := fun x hx => by have := structs_mem hx; omega
              have fA : ∀ (s : ByteArray), mkF s a = ⟨4, s, 0, a⟩ := fun s => by unfold mkF; rw [if_neg ha0]
              have fB : ∀ (s : ByteArray), mkF s b = ⟨4, s, 0, b⟩ := fun s => by unfold mkF; rw [if_neg hb0]
              have HF1 : Hid (∀ W, Zs w a b (.slice A a.length ca) (.slice B b.length cb) W → Calls Try.prog 22 #[.string ⟨#[102]⟩, .slice A a.length ca] W fun e w' => (∃ r, e = .returned (.agg #[.int .u8 4, .string ⟨#[102]⟩, .int .i64 0, r]) ∧ Kd.tm.S w' (fun _ => True) a r) ∧ Below W.heap.size W w') :=
                Lib.hid (fun W h => (F_c _ a _ W _ _ h.sa.S2 (by omega)).mono (fun e w' ⟨⟨r, he, hr⟩, hb⟩ => by rw [fA] at hr; obtain ⟨u, rfl, hu⟩ := hr; exact ⟨⟨u, he, hu.mono (fun _ _ => trivial)⟩, hb⟩))
              have HF2 : Hid (∀ W, Zs w a b (.slice A a.length ca) (.slice B b.length cb) W → Calls Try.prog 22 #[.string ⟨#[102]⟩, .slice B b.length cb] W fun e w' => (∃ r, e = .returned (.agg #[.int .u8 4, .string ⟨#[102]⟩, .int .i64 0, r]) ∧ Kd.tm.S w' (fun _ => True) b r) ∧ Below W.heap.size W w') :=
                Lib.hid (fun W h => (F_c _ b _ W _ _ h.sb.S2 (by omega)).mono (fun e w' ⟨⟨r, he, hr⟩, hb⟩ => by rw [fB] at hr; obtain ⟨u, rfl, hu⟩ := hr; exact ⟨⟨u, he, hu.mono (fun _ _ => trivial)⟩, hb⟩))
              have HLL := fun W q c (h : Zs w a b (.slice A a.length ca) (.slice B b.length cb) W) (hn : Sub W (fun _ => True) [] q c) => Lists_c [] q c a b _ _ W _ _ _ hn h.sa h.sb hwa hwb zA zB K5.sm0 (by simp) (by omega)
              have HUU := fun W q c vf vg (h : Zs w a b (.slice A a.length ca) (.slice B b.length cb) W) (hn : Sub W (fun _ => True) [] q c) (hf : Kd.tm.S W (fun _ => True) a vf) (hg : Kd.tm.S W (fun _ => True) b vg) =>
                Unify_c [] q c ⟨4, ⟨#[102]⟩, 0, a⟩ ⟨4, ⟨#[102]⟩, 0, b⟩ _ _ W _ _ _ hn ⟨vf, rfl, hf⟩ ⟨vg, rfl, hg⟩ (by refine ⟨?_, ?_, ?_, ?_⟩ <;> first | assumption | simp [ByteArray.size]) (by refine ⟨?_, ?_, ?_, ?_⟩ <;> first | assumption | simp [ByteArray.size]) (by simp only [Tm.siz]; omega) (by simp only [Tm.siz]; omega) K5.sm0 (by simp)
              rw [structs_plain ha0 hb0] at HUU
              have HV := Lib.hid (fun W v (hv : Kd.tm.S W (fun _ => True) (a ++ b) v) => Vars_s (a ++ b) v W _ hv (by rw [sizL_append]; omega))
              have HT := Lib.hid Try.infoT
              by_cases hl : a.length = b.length
              · simp only [if_pos hl] at HUU
                have hL : ∀ {W e w'}, LPost W.heap.size [] a b W e w' → _ := fun {W e w'} h => (by unfold LPost at h; rw [if_pos hl] at h; exact h)
                cases hO2 : un 4097 1 [] (a.zip b) with
                | full =>
                  rw [hO2] at HUU
                  have HU := Lib.hid (fun W q c vf vg h hn hf hg => (HUU W q c vf vg h hn hf hg).mono (fun e w' h => h))
                  cases hO1 : un 4098 0 [] (a.zip b) with
                  | full => exact structs_full31 HZ HA HB l1 l2 l3 l4 HF1 HF2 (Lib.hid (fun W q c h hn => (HLL W q c h hn).mono (fun e w' h => by unfold LPost at h; rw [if_pos hl, hO1] at h; exact h))) HU
                  | no => exact structs_full0 HZ HA HB l1 l2 l3 l4 HF1 HF2 (Lib.hid (fun W q c h hn => (HLL W q c h hn).mono (fun e w' h => by unfold LPost at h; rw [if_pos hl, hO1] at h; exact ⟨⟨_, h.1⟩, h.2⟩))) HU
                  | yes l n => exact structs_full0 HZ HA HB l1 l2 l3 l4 HF1 HF2 (Lib.hid (fun W q c h hn => (HLL W q c h hn).mono (fun e w' h => by unfold LPost at h; rw [if_pos hl, hO1] at h; obtain ⟨⟨p', b', h1, -⟩, h2⟩ := h; exact ⟨⟨_, h1⟩, h2⟩))) HU
                | no =>
                  rw [hO2] at HUU
                  have hs := un_shift 1 4097 4098 0 [] (a.zip b) (by omega) (by rw [show 0 + 1 = 1 from rfl, hO2]; simp)
                  rw [show 0 + 1 = 1 from rfl, hO2] at hs
                  cases hO1 : un 4098 0 [] (a.zip b) with
                  | full => rw [hO1] at hs; exact hs.elim
                  | yes l n => rw [hO1] at hs; exact hs.elim
                  | no => exact structs_no HZ HA HB l1 l2 l3 l4 HF1 HF2 (Lib.hid (fun W q c h hn => (HLL W q c h hn).mono (fun e w' h => by unfold LPost at h; rw [if_pos hl, hO1] at h; exact h))) (Lib.hid (fun W q c vf vg h hn hf hg => (HUU W q c vf vg h hn hf hg).mono (fun e w' h => h))) HV HT ln
                | yes l n =>
                  rw [hO2] at HUU
                  have hs := un_shift 1 4097 4098 0 [] (a.zip b) (by omega) (by rw [show 0 + 1 = 1 from rfl, hO2]; simp)
                  rw [show 0 + 1 = 1 from rfl, hO2] at hs
                  cases hO1 : un 4098 0 [] (a.zip b) with
                  | full => rw [hO1] at hs; exact hs.elim
                  | no => rw [hO1] at hs; exact hs.elim
                  | yes l0 n0 =>
                    rw [hO1] at hs
                    obtain ⟨rfl, -⟩ := hs
                    have hbd := un_bounds (N := 1000000) 4098 0 [] (a.zip b) l0 n0 (fun _ _ h => by cases h) (fun x hx => ⟨zA _ (List.of_mem_zip hx).1, zB _ (List.of_mem_zip hx).2⟩) (by omega) hO1
                    have hvl : (dd (occL (a ++ b))).length ≤ 1000000 := by
                      have h1 := dd_length (occL (a ++ b))
                      have h2 := occL_length (a ++ b)
                      rw [sizL_append] at h2
                      omega
                    have hab : WfL (a ++ b) := WfL_iff.2 (fun t ht => (List.mem_append.1 ht).elim (WfL_iff.1 hwa t) (WfL_iff.1 hwb t))
                    have HP : Hid (∀ n ∈ dd (occL (a ++ b)), ∀ W p c, Sub W (fun _ => True) l0 p c → Calls Try.prog 24 #[.pointer (some ⟨p, 0, none⟩), .agg #[.int .u8 1, .string ⟨#[]⟩, .int .i64 n, .slice none 0 0]] W fun e w' => (∃ u, e = .returned (.tuple #[u, .int .i64 (appE (visA l0 (kV n)) (appA l0 (kV n))).2]) ∧ TmV w' (fun _ => True) (appE (visA l0 (kV n)) (appA l0 (kV n))).1 u) ∧ Below W.heap.size W w') :=
                      Lib.hid (fun n hn W p c hs => (Apply_c l0 p c (fuelOf l0 (kV n)) (kV n) _ W _ hs ⟨_, rfl, Kd.S.nil _ _ _⟩ (kV_wf (occL_bd _ hab n (dd_mem.1 hn))) (hs.acyc.fueled _) hbd.1 (by simp [kV, Tm.siz, sizL])).mono (fun e w' ⟨⟨u, he, hu⟩, hb⟩ => ⟨⟨u, he, hu.mono (fun _ _ => trivial)⟩, hb⟩))
                    exact structs_yes HZ HA HB l1 l2 l3 l4 HF1 HF2 (Lib.hid (fun W q c h hn => (HLL W q c h hn).mono (fun e w' h => by unfold LPost at h; rw [if_pos hl, hO1] at h; obtain ⟨⟨p', b', h1, h3, -⟩, h2⟩ := h; exact ⟨⟨p', b', h1, h3.mono (fun _ _ => trivial)⟩, h2⟩))) (Lib.hid (fun W q c vf vg h hn hf hg => (HUU W q c vf vg h hn hf hg).mono (fun e w' h => h))) HV HT ln HP (Lib.hid hvl)
              · simp only [if_neg hl] at HUU
                exact structs_no HZ HA HB l1 l2 l3 l4 HF1 HF2 (Lib.hid (fun W q c h hn => (HLL W q c h hn).mono (fun e w' h => by unfold LPost at h; rw [if_neg hl] at h; exact h))) (Lib.hid (fun W q c vf vg h hn hf hg => (HUU W q c vf vg h hn hf hg).mono (fun e w' h => h))) HV HT ln
end Go.Proofs.Ytdflckjnpgbjlaa

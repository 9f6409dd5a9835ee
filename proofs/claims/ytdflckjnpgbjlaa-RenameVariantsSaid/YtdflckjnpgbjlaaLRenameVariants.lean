/- The law RenameVariants, walked. Conditions: the arguments read; what they are made of is in its bounds. -/
import Derived.Test.YtdflckjnpgbjlaaFk
import Derived.Test.YtdflckjnpgbjlaaRv1
import Derived.Test.YtdflckjnpgbjlaaWi
set_option linter.unusedVariables false
set_option maxRecDepth 20000
set_option linter.unusedSimpArgs false
namespace Go.Proofs.Ytdflckjnpgbjlaa
open Go.RowKit

set_option maxRecDepth 100000 in
set_option maxHeartbeats 16000000 in
theorem rv_n1 {w : World} {a b c : List Tm} {A B C : Option Addr} {ca cb cc : Nat} {d : Int}
    (HK : Hid (Fk w [.tms a (.slice A a.length ca), .tms b (.slice B b.length cb), .tms c (.slice C c.length cc)] w))
    (l1 : (20 : Int) < a.length) :
    Calls Try.prog 7 #[.slice A a.length ca, .slice B b.length cb, .slice C c.length cc, .int .i64 d] w fun e w' => e = .returned (.bool true) ∧ Below w.heap.size w w' := by
  have h := HK.out
  go_enter Try.func7, Try.ntmps7
  go_wp2_with (first
    | (go_at_call 30; refine (wakes05_c _).mono ?_; rintro e w9 ⟨rfl, hb9⟩))
  go_ret
  exact ⟨rfl, below_then h.b0 h.b0.size hb9⟩
set_option maxRecDepth 100000 in
set_option maxHeartbeats 16000000 in
theorem rv_n2 {w : World} {a b c : List Tm} {A B C : Option Addr} {ca cb cc : Nat} {d : Int}
    (HK : Hid (Fk w [.tms a (.slice A a.length ca), .tms b (.slice B b.length cb), .tms c (.slice C c.length cc)] w))
    (l1 : decide ((20 : Int) < a.length) = false) (l2 : (20 : Int) < b.length) :
    Calls Try.prog 7 #[.slice A a.length ca, .slice B b.length cb, .slice C c.length cc, .int .i64 d] w fun e w' => e = .returned (.bool true) ∧ Below w.heap.size w w' := by
  have h := HK.out
  go_enter Try.func7, Try.ntmps7
  go_wp2_with (first
    | (go_at_call 30; refine (wakes05_c _).mono ?_; rintro e w9 ⟨rfl, hb9⟩))
  go_ret
  exact ⟨rfl, below_then h.b0 h.b0.size hb9⟩
set_option maxRecDepth 100000 in
set_option maxHeartbeats 16000000 in
theorem rv_n3 {w : World} {a b c : List Tm} {A B C : Option Addr} {ca cb cc : Nat} {d : Int}
    (HK : Hid (Fk w [.tms a (.slice A a.length ca), .tms b (.slice B b.length cb), .tms c (.slice C c.length cc)] w))
    (l1 : decide ((20 : Int) < a.length) = false) (l2 : decide ((20 : Int) < b.length) = false) (l3 : (20 : Int) < c.length) :
    Calls Try.prog 7 #[.slice A a.length ca, .slice B b.length cb, .slice C c.length cc, .int .i64 d] w fun e w' => e = .returned (.bool true) ∧ Below w.heap.size w w' := by
  have h := HK.out
  go_enter Try.func7, Try.ntmps7
  go_wp2_with (first
    | (go_at_call 30; refine (wakes05_c _).mono ?_; rintro e w9 ⟨rfl, hb9⟩))
  go_ret
  exact ⟨rfl, below_then h.b0 h.b0.size hb9⟩
set_option maxRecDepth 100000 in
set_option maxHeartbeats 16000000 in
theorem rv_g1 {w : World} {a b c : List Tm} {A B C : Option Addr} {ca cb cc : Nat} {d : Int}
    (HK : Hid (Fk w [.tms a (.slice A a.length ca), .tms b (.slice B b.length cb), .tms c (.slice C c.length cc)] w))
    (HA : Hid (∀ W, Kd.tm.S W (fun _ => True) a (.slice A a.length ca) → Calls Try.prog 15 #[.slice A a.length ca] W fun e w' => e = .returned (.bool true) ∧ Below W.heap.size W w'))
    (l1 : decide ((20 : Int) < a.length) = false) (l2 : decide ((20 : Int) < b.length) = false) (l3 : decide ((20 : Int) < c.length) = false) :
    Calls Try.prog 7 #[.slice A a.length ca, .slice B b.length cb, .slice C c.length cc, .int .i64 d] w fun e w' => e = .returned (.bool true) ∧ Below w.heap.size w w' := by
  have h := HK.out
  go_enter Try.func7, Try.ntmps7
  go_wp2_with (first
    | (go_at_call_has 15 (Value.slice A a.length ca); refine (HA.out _ (h.tms 0 rfl)).mono ?_; clear HA; rintro e w1 ⟨rfl, hb1⟩; replace h := h.then hb1; clear hb1)
    | (go_at_call 30; refine (wakes05_c _).mono ?_; rintro e w9 ⟨rfl, hb9⟩))
  go_ret
  exact ⟨rfl, below_then h.b0 h.b0.size hb9⟩
set_option maxRecDepth 100000 in
set_option maxHeartbeats 16000000 in
theorem rv_g2 {w : World} {a b c : List Tm} {A B C : Option Addr} {ca cb cc : Nat} {d : Int}
    (HK : Hid (Fk w [.tms a (.slice A a.length ca), .tms b (.slice B b.length cb), .tms c (.slice C c.length cc)] w))
    (HA : Hid (∀ W, Kd.tm.S W (fun _ => True) a (.slice A a.length ca) → Calls Try.prog 15 #[.slice A a.length ca] W fun e w' => e = .returned (.bool false) ∧ Below W.heap.size W w'))
    (HB : Hid (∀ W, Kd.tm.S W (fun _ => True) b (.slice B b.length cb) → Calls Try.prog 15 #[.slice B b.length cb] W fun e w' => e = .returned (.bool true) ∧ Below W.heap.size W w'))
    (l1 : decide ((20 : Int) < a.length) = false) (l2 : decide ((20 : Int) < b.length) = false) (l3 : decide ((20 : Int) < c.length) = false) :
    Calls Try.prog 7 #[.slice A a.length ca, .slice B b.length cb, .slice C c.length cc, .int .i64 d] w fun e w' => e = .returned (.bool true) ∧ Below w.heap.size w w' := by
  have h := HK.out
  go_enter Try.func7, Try.ntmps7
  go_wp2_with (first
    | (go_at_call_has 15 (Value.slice A a.length ca); refine (HA.out _ (h.tms 0 rfl)).mono ?_; clear HA; rintro e w1 ⟨rfl, hb1⟩; replace h := h.then hb1; clear hb1)
    | (go_at_call_has 15 (Value.slice B b.length cb); refine (HB.out _ (h.tms 1 rfl)).mono ?_; clear HB; rintro e w2 ⟨rfl, hb1⟩; replace h := h.then hb1; clear hb1)
    | (go_at_call 30; refine (wakes05_c _).mono ?_; rintro e w9 ⟨rfl, hb9⟩))
  go_ret
  exact ⟨rfl, below_then h.b0 h.b0.size hb9⟩
set_option maxRecDepth 100000 in
set_option maxHeartbeats 16000000 in
theorem rv_g3 {w : World} {a b c : List Tm} {A B C : Option Addr} {ca cb cc : Nat} {d : Int}
    (HK : Hid (Fk w [.tms a (.slice A a.length ca), .tms b (.slice B b.length cb), .tms c (.slice C c.length cc)] w))
    (HA : Hid (∀ W, Kd.tm.S W (fun _ => True) a (.slice A a.length ca) → Calls Try.prog 15 #[.slice A a.length ca] W fun e w' => e = .returned (.bool false) ∧ Below W.heap.size W w'))
    (HB : Hid (∀ W, Kd.tm.S W (fun _ => True) b (.slice B b.length cb) → Calls Try.prog 15 #[.slice B b.length cb] W fun e w' => e = .returned (.bool false) ∧ Below W.heap.size W w'))
    (HC : Hid (∀ W, Kd.tm.S W (fun _ => True) c (.slice C c.length cc) → Calls Try.prog 15 #[.slice C c.length cc] W fun e w' => e = .returned (.bool true) ∧ Below W.heap.size W w'))
    (l1 : decide ((20 : Int) < a.length) = false) (l2 : decide ((20 : Int) < b.length) = false) (l3 : decide ((20 : Int) < c.length) = false) :
    Calls Try.prog 7 #[.slice A a.length ca, .slice B b.length cb, .slice C c.length cc, .int .i64 d] w fun e w' => e = .returned (.bool true) ∧ Below w.heap.size w w' := by
  have h := HK.out
  go_enter Try.func7, Try.ntmps7
  go_wp2_with (first
    | (go_at_call_has 15 (Value.slice A a.length ca); refine (HA.out _ (h.tms 0 rfl)).mono ?_; clear HA; rintro e w1 ⟨rfl, hb1⟩; replace h := h.then hb1; clear hb1)
    | (go_at_call_has 15 (Value.slice B b.length cb); refine (HB.out _ (h.tms 1 rfl)).mono ?_; clear HB; rintro e w2 ⟨rfl, hb1⟩; replace h := h.then hb1; clear hb1)
    | (go_at_call_has 15 (Value.slice C c.length cc); refine (HC.out _ (h.tms 2 rfl)).mono ?_; clear HC; rintro e w3 ⟨rfl, hb1⟩; replace h := h.then hb1; clear hb1)
    | (go_at_call 30; refine (wakes05_c _).mono ?_; rintro e w9 ⟨rfl, hb9⟩))
  go_ret
  exact ⟨rfl, below_then h.b0 h.b0.size hb9⟩
set_option maxRecDepth 100000 in
set_option maxHeartbeats 16000000 in
theorem rv_b1 {w : World} {a b c : List Tm} {A B C : Option Addr} {ca cb cc : Nat} {d : Int}
    (HK : Hid (Fk w [.tms a (.slice A a.length ca), .tms b (.slice B b.length cb), .tms c (.slice C c.length cc)] w))
    (HA : Hid (∀ W, Kd.tm.S W (fun _ => True) a (.slice A a.length ca) → Calls Try.prog 15 #[.slice A a.length ca] W fun e w' => e = .returned (.bool false) ∧ Below W.heap.size W w'))
    (HB : Hid (∀ W, Kd.tm.S W (fun _ => True) b (.slice B b.length cb) → Calls Try.prog 15 #[.slice B b.length cb] W fun e w' => e = .returned (.bool false) ∧ Below W.heap.size W w'))
    (HC : Hid (∀ W, Kd.tm.S W (fun _ => True) c (.slice C c.length cc) → Calls Try.prog 15 #[.slice C c.length cc] W fun e w' => e = .returned (.bool false) ∧ Below W.heap.size W w'))
    (l1 : decide ((20 : Int) < a.length) = false) (l2 : decide ((20 : Int) < b.length) = false) (l3 : decide ((20 : Int) < c.length) = false) (l4 : d < 0) :
    Calls Try.prog 7 #[.slice A a.length ca, .slice B b.length cb, .slice C c.length cc, .int .i64 d] w fun e w' => e = .returned (.bool true) ∧ Below w.heap.size w w' := by
  have h := HK.out
  go_enter Try.func7, Try.ntmps7
  go_wp2_with (first
    | (go_at_call_has 15 (Value.slice A a.length ca); refine (HA.out _ (h.tms 0 rfl)).mono ?_; clear HA; rintro e w1 ⟨rfl, hb1⟩; replace h := h.then hb1; clear hb1)
    | (go_at_call_has 15 (Value.slice B b.length cb); refine (HB.out _ (h.tms 1 rfl)).mono ?_; clear HB; rintro e w2 ⟨rfl, hb1⟩; replace h := h.then hb1; clear hb1)
    | (go_at_call_has 15 (Value.slice C c.length cc); refine (HC.out _ (h.tms 2 rfl)).mono ?_; clear HC; rintro e w3 ⟨rfl, hb1⟩; replace h := h.then hb1; clear hb1)
    | (go_at_call 30; refine (wakes05_c _).mono ?_; rintro e w9 ⟨rfl, hb9⟩))
  go_ret
  exact ⟨rfl, below_then h.b0 h.b0.size hb9⟩
set_option maxRecDepth 100000 in
set_option maxHeartbeats 16000000 in
theorem rv_b2 {w : World} {a b c : List Tm} {A B C : Option Addr} {ca cb cc : Nat} {d : Int}
    (HK : Hid (Fk w [.tms a (.slice A a.length ca), .tms b (.slice B b.length cb), .tms c (.slice C c.length cc)] w))
    (HA : Hid (∀ W, Kd.tm.S W (fun _ => True) a (.slice A a.length ca) → Calls Try.prog 15 #[.slice A a.length ca] W fun e w' => e = .returned (.bool false) ∧ Below W.heap.size W w'))
    (HB : Hid (∀ W, Kd.tm.S W (fun _ => True) b (.slice B b.length cb) → Calls Try.prog 15 #[.slice B b.length cb] W fun e w' => e = .returned (.bool false) ∧ Below W.heap.size W w'))
    (HC : Hid (∀ W, Kd.tm.S W (fun _ => True) c (.slice C c.length cc) → Calls Try.prog 15 #[.slice C c.length cc] W fun e w' => e = .returned (.bool false) ∧ Below W.heap.size W w'))
    (l1 : decide ((20 : Int) < a.length) = false) (l2 : decide ((20 : Int) < b.length) = false) (l3 : decide ((20 : Int) < c.length) = false) (l4 : decide (d < 0) = false) (l5 : 4611686018427387904 ≤ d) :
    Calls Try.prog 7 #[.slice A a.length ca, .slice B b.length cb, .slice C c.length cc, .int .i64 d] w fun e w' => e = .returned (.bool true) ∧ Below w.heap.size w w' := by
  have h := HK.out
  go_enter Try.func7, Try.ntmps7
  go_wp2_with (first
    | (go_at_call_has 15 (Value.slice A a.length ca); refine (HA.out _ (h.tms 0 rfl)).mono ?_; clear HA; rintro e w1 ⟨rfl, hb1⟩; replace h := h.then hb1; clear hb1)
    | (go_at_call_has 15 (Value.slice B b.length cb); refine (HB.out _ (h.tms 1 rfl)).mono ?_; clear HB; rintro e w2 ⟨rfl, hb1⟩; replace h := h.then hb1; clear hb1)
    | (go_at_call_has 15 (Value.slice C c.length cc); refine (HC.out _ (h.tms 2 rfl)).mono ?_; clear HC; rintro e w3 ⟨rfl, hb1⟩; replace h := h.then hb1; clear hb1)
    | (go_at_call 30; refine (wakes05_c _).mono ?_; rintro e w9 ⟨rfl, hb9⟩))
  go_ret
  exact ⟨rfl, below_then h.b0 h.b0.size hb9⟩
set_option maxRecDepth 100000 in
set_option maxHeartbeats 16000000 in
theorem rv_main {w : World} {a b c : List Tm} {A B C : Option Addr} {ca cb cc : Nat} {d : Int} {cn : List Tm} {g : Tm → Tm} {x y z : Bool} {l' : Bs} {vs : List Int}
    (HK : Hid (Fk w [.tms a (.slice A a.length ca), .tms b (.slice B b.length cb), .tms c (.slice C c.length cc)] w))
    (HA : Hid (∀ W, Kd.tm.S W (fun _ => True) a (.slice A a.length ca) → Calls Try.prog 15 #[.slice A a.length ca] W fun e w' => e = .returned (.bool false) ∧ Below W.heap.size W w'))
    (HB : Hid (∀ W, Kd.tm.S W (fun _ => True) b (.slice B b.length cb) → Calls Try.prog 15 #[.slice B b.length cb] W fun e w' => e = .returned (.bool false) ∧ Below W.heap.size W w'))
    (HC : Hid (∀ W, Kd.tm.S W (fun _ => True) c (.slice C c.length cc) → Calls Try.prog 15 #[.slice C c.length cc] W fun e w' => e = .returned (.bool false) ∧ Below W.heap.size W w'))
    (l1 : decide ((20 : Int) < a.length) = false) (l2 : decide ((20 : Int) < b.length) = false) (l3 : decide ((20 : Int) < c.length) = false) (l4 : decide (d < 0) = false) (l5 : decide (4611686018427387904 ≤ d) = false) (l6 : IntKind.i64.wrap (d + 1000) = d + 1000)
    (HDL : Hid (∀ t ∈ a, ∀ W u, Kd.tm.S W (fun _ => True) t.l u → Calls Try.prog 16 #[.agg #[.int .u8 t.k, .string t.s, .int .i64 t.n, u]] W fun e w' => e = .returned (.bool t.good) ∧ Below W.heap.size W w'))
    (HCA : Hid (∀ W, Kd.tm.S W (fun _ => True) a (.slice A a.length ca) → Calls Try.prog 31 #[.slice A a.length ca] W fun e w' => (∃ A c, e = .returned (.slice A a.length c) ∧ Kd.tm.S w' (fun _ => True) cn (.slice A a.length c)) ∧ Below W.heap.size W w'))
    (HSH : Hid (∀ t ∈ cn, ∀ W u, Kd.tm.S W (fun _ => True) t.l u → Calls Try.prog 32 #[.agg #[.int .u8 t.k, .string t.s, .int .i64 t.n, u], .int .i64 (d + 1000)] W fun e w' => (∃ r, e = .returned r ∧ TmV w' (fun b => W.heap.size ≤ b) (g t) r) ∧ Below W.heap.size W w'))
    (hcl : cn.length = a.length)
    (HV1 : Hid (∀ W, Kd.tm.S W (fun _ => True) a (.slice A a.length ca) → Kd.tm.S W (fun _ => True) b (.slice B b.length cb) → Calls Try.prog 33 #[.slice A a.length ca, .slice B b.length cb] W fun e w' => e = .returned (.bool x) ∧ Below W.heap.size W w'))
    (HV2 : Hid (∀ W, Kd.tm.S W (fun _ => True) b (.slice B b.length cb) → Kd.tm.S W (fun _ => True) c (.slice C c.length cc) → Calls Try.prog 33 #[.slice B b.length cb, .slice C c.length cc] W fun e w' => e = .returned (.bool y) ∧ Below W.heap.size W w'))
    (HV3 : Hid (∀ W, Kd.tm.S W (fun _ => True) a (.slice A a.length ca) → Kd.tm.S W (fun _ => True) c (.slice C c.length cc) → Calls Try.prog 33 #[.slice A a.length ca, .slice C c.length cc] W fun e w' => e = .returned (.bool z) ∧ Below W.heap.size W w'))
    (HV4 : Hid (∀ W, Kd.tm.S W (fun _ => True) b (.slice B b.length cb) → Kd.tm.S W (fun _ => True) a (.slice A a.length ca) → Calls Try.prog 33 #[.slice B b.length cb, .slice A a.length ca] W fun e w' => e = .returned (.bool x) ∧ Below W.heap.size W w'))
    (hxyz : (x = true ∧ y = true ∧ z = true) ∨ (x = false) ∨ (x = true ∧ y = false))
    (HV5 : Hid (∀ W v, Kd.tm.S W (fun _ => True) a (.slice A a.length ca) → Kd.tm.S W (fun _ => True) cn v → Calls Try.prog 33 #[.slice A a.length ca, v] W fun e w' => e = .returned (.bool true) ∧ Below W.heap.size W w'))
    (HV6 :  Hid (∀ W v, Kd.tm.S W (fun _ => True) a (.slice A a.length ca) → Kd.tm.S W (fun _ => True) (cn.map g) v → Calls Try.prog 33 #[.slice A a.length ca, v] W fun e w' => e = .returned (.bool true) ∧ Below W.heap.size W w'))
    (HC1 : Hid (∀ W v, Kd.tm.S W (fun _ => True) cn v → Calls Try.prog 31 #[v] W fun e w' => (∃ A c, e = .returned (.slice A a.length c) ∧ Kd.tm.S w' (fun _ => True) cn (.slice A a.length c)) ∧ Below W.heap.size W w'))
    (HC2 : Hid (∀ W v, Kd.tm.S W (fun _ => True) (cn.map g) v → Calls Try.prog 31 #[v] W fun e w' => (∃ A c, e = .returned (.slice A a.length c) ∧ Kd.tm.S w' (fun _ => True) cn (.slice A a.length c)) ∧ Below W.heap.size W w'))
    (HAL : Hid (∀ W v v', Kd.tm.S W (fun _ => True) cn v → Kd.tm.S W (fun _ => True) cn v' → Calls Try.prog 34 #[v, v'] W fun e w' => e = .returned (.bool true) ∧ Below W.heap.size W w'))
    (HLI : (∀ t ∈ a, t.good = true) → Hid (∀ W q c v v', Sub W (fun _ => True) [] q c → Kd.tm.S W (fun _ => True) cn v → Kd.tm.S W (fun _ => True) (cn.map g) v' → Calls Try.prog 21 #[.pointer (some ⟨q, 0, none⟩), v, v'] W fun e w' => (∃ p' b', e = .returned (.tuple #[.pointer (some ⟨p', 0, none⟩), .bool true, .int .i64 0]) ∧ Sub w' (fun _ => True) l' p' b') ∧ Below W.heap.size W w'))
    (HLN : Hid (∀ W p b, Sub W (fun _ => True) l' p b → Calls Try.prog 20 #[.pointer (some ⟨p, 0, none⟩)] W fun e w' => e = .returned (.int .i64 vs.length) ∧ Below W.heap.size W w'))
    (HVA : Hid (∀ W, Kd.tm.S W (fun _ => True) a (.slice A a.length ca) → Calls Try.prog 23 #[.slice A a.length ca] W fun e w' => (∃ A c, e = .returned (.slice A vs.length c)) ∧ Below W.heap.size W w'))
    :
    Calls Try.prog 7 #[.slice A a.length ca, .slice B b.length cb, .slice C c.length cc, .int .i64 d] w fun e w' => e = .returned (.bool true) ∧ Below w.heap.size w w' := by
  have h := HK.out
  have hla : a.length ≤ 20 := by
    have : ¬ (20 : Int) < a.length := by simpa using l1
    omega
  go_enter Try.func7, Try.ntmps7
  go_wp2_with (first
    | (go_at_call_has 15 (Value.slice A a.length ca); refine (HA.out _ (h.tms 0 rfl)).mono ?_; clear HA; rintro e w1 ⟨rfl, hb1⟩; replace h := h.then hb1; clear hb1)
    | (go_at_call_has 15 (Value.slice B b.length cb); refine (HB.out _ (h.tms 1 rfl)).mono ?_; clear HB; rintro e w2 ⟨rfl, hb1⟩; replace h := h.then hb1; clear hb1)
    | (go_at_call_has 15 (Value.slice C c.length cc); refine (HC.out _ (h.tms 2 rfl)).mono ?_; clear HC; rintro e w3 ⟨rfl, hb1⟩; replace h := h.then hb1; clear hb1))
  go_loopw [9] (fun i wr => ∃ j : Nat, j ≤ a.length ∧ i = .int .i64 j ∧ (∀ t ∈ a.take j, t.good = true) ∧ Fk w [.tms a (.slice A a.length ca), .tms b (.slice B b.length cb), .tms c (.slice C c.length cc)] wr) (fun i _ => a.length - (intOf i).toNat)
  case atStart => exact ⟨0, Nat.zero_le _, rfl, (by simp), h⟩
  case round =>
    clear h HK
    obtain ⟨j, hj, rfl, hall, h⟩ := hrel
    by_cases hlt : j < a.length
    · obtain ⟨Aa, caa, eA, -, -, hA⟩ := h.tms 0 rfl
      injection eA with eA1 eA2 eA3
      subst eA1
      clear eA2 eA3
      obtain ⟨bb, o, u, rfl, hokb, hlo, h0, h1, h2, h3, h4⟩ := tm_elem hA hlt
      have hm := List.getElem_mem hlt
      have hall' : a[j].good = true → ∀ t ∈ a.take (j + 1), t.good = true := fun h q hq => by
        rw [take_succ_at a hlt, List.mem_append, List.mem_singleton] at hq
        exact hq.elim (hall q) (fun e => e ▸ h)
      have HALL := Lib.hid hall'
      have HQ := Lib.hid (HDL.out a[j] hm)
      obtain ⟨Au, cu, rfl⟩ := h4.form
      clear hall hall' hA HDL HCA HSH HV1 HV2 HV3 HV4 HV5 HV6 HC1 HC2 HAL HLI HLN HVA
      generalize a[j] = t at h0 h1 h2 h3 h4 HALL HQ
      cases hg : t.good with
      | false =>
        rw [hg] at HQ
        clear HALL
        go_wp2_with (first
          | (go_at_call 16; refine (HQ.out _ _ h4).mono ?_; clear HQ; rintro e w5 ⟨rfl, hb1⟩; replace h := h.then hb1; clear hb1)
          | (go_at_call 30; refine (wakes05_c _).mono ?_; rintro e w9 ⟨rfl, hb9⟩))
        go_ret
        exact ⟨rfl, below_then h.b0 h.b0.size hb9⟩
      | true =>
        rw [hg] at HQ
        go_wp2_with (go_at_call 16; refine (HQ.out _ _ h4).mono ?_; clear HQ; rintro e w5 ⟨rfl, hb1⟩; replace h := h.then hb1; clear hb1)
        go_roundw
        case rel => exact ⟨j + 1, by omega, by go_num, HALL.out hg, h⟩
        case measure => simp [intOf]; omega
    · have hjl : j = a.length := by omega
      subst hjl
      rw [List.take_length] at hall
      replace HLI := HLI hall
      clear hall hlt hj HDL
      go_wp2_with (go_at_call 31; refine (HCA.out _ (h.tms 0 rfl)).mono ?_; clear HCA; rintro e w5 ⟨⟨An, can, rfl, hn⟩, hb1⟩; replace h := (h.then hb1).snoc (.tms cn (.slice An a.length can)) hn; clear hb1 hn)
      have HF := Lib.hid h
      go_loopw [11, 12] (fun sv i wr => ∃ j : Nat, j ≤ a.length ∧ i = .int .i64 j ∧ Hid (Kd.tm.Own 24 wr w5.heap.size (fun b => w5.heap.size ≤ b) ((cn.map g).take j) sv) ∧ Below w5.heap.size w5 wr) (fun _ i _ => a.length - (intOf i).toNat)
      case atStart => exact ⟨0, Nat.zero_le _, rfl, Lib.hid (Kd.Own.nil _ _ _ _ _), Below.refl _ _⟩
      case round =>
        clear h
        obtain ⟨j, hj, rfl, hO, hb⟩ := hrel
        obtain ⟨oA, oc, hoV⟩ := hO.out.form
        by_cases hlt : j < a.length
        · have hlc : j < cn.length := by omega
          have hcf : Kd.tm.S w5 (fun _ => True) cn (.slice An cn.length can) := by have := HF.out.tms 3 rfl; rw [hcl]; exact this
          obtain ⟨Aa, caa, eA, -, -, hA⟩ := hcf
          injection eA with eA1 eA2 eA3
          subst eA1
          clear eA2 eA3
          obtain ⟨bb, o, u, rfl, hokb, hlo, h0, h1, h2, h3, h4⟩ := tm_elem hA hlc
          have g0 := cell_below hb h0 hlo
          have g1 := cell_below hb h1 hlo
          have g2 := cell_below hb h2 hlo
          have g3 := cell_below hb h3 hlo
          have hm := List.getElem_mem hlc
          have HI := Lib.hid (HSH.out cn[j] hm wr u ((h4.below hb).mono (fun _ _ => trivial)))
          have HMX := Lib.hid (show (cn.map g).take (j + 1) = (cn.map g).take j ++ [g cn[j]] by rw [take_succ_at _ (by rw [List.length_map]; exact hlc)]; simp)
          obtain ⟨Au, cu, rfl⟩ := h4.form
          have hml : ((cn.map g).take j).length = j := by rw [List.length_take, List.length_map]; omega
          have HLT := Lib.hid (Kd.Own.lt hO.out)
          have hbs := hb.size
          rw [hml] at hoV
          subst hoV
          clear hA h0 h1 h2 h3 h4 hm HSH HV1 HV2 HV3 HV4 HV5 HV6 HC1 HC2 HAL HLI HLN HVA
          generalize hG : g cn[j] = z' at HI HMX
          clear hG
          generalize cn[j] = t at g0 g1 g2 g3 HI
          go_wp2_with (first
            | (go_at_call 32; refine HI.out.mono ?_; clear HI; rintro e W5 ⟨⟨r, rfl, hr⟩, hb5⟩; obtain ⟨uu, rfl, hrS⟩ := hr; obtain ⟨rA, rc, rfl⟩ := hrS.form; have hz5 := hb5.size)
            | (at_builtin; refine Kd.append Kd.tm (W := W5) w5.heap.size (fun b => w5.heap.size ≤ b) rfl (.tmp 79) (.tmp 87) 22 24 (.agg #[.int .u8 0, .string ⟨#[]⟩, .int .i64 0, .slice none 0 0]) 56 rfl Try.underlying22 Try.infoT rfl (by decide) (.slice oA j oc) ((cn.map g).take j) z' [.int .u8 z'.k, .string z'.s, .int .i64 z'.n, .slice rA z'.l.length rc] rfl rfl ?hy ?HO2 ?hbase2 ?hl2 ?_))
          case hy => exact TmK_iff.2 ⟨_, rfl, hrS.mono (fun i hi => ⟨by omega, fun e => by have := (HLT.out _ e.symm).2; omega⟩)⟩
          case HO2 => exact Kd.Own.below hb5 hO.out
          case hbase2 => omega
          case hl2 => rw [hml]; omega
          intro v6 w6 hO6 hg6 hat6
          go_wp2_with fail
          go_roundw
          case rel => exact ⟨j + 1, by omega, by go_num, Lib.hid (by rw [HMX.out]; exact hO6), below_of_grown (gfresh' (gnone (below_then hb hb.size hb5)) hg6 (fun k hk => (HLT.out k hk).1))⟩
          case measure => simp [intOf]; omega
        · have hjl : j = a.length := by omega
          subst hjl
          have hO := hO.out
          rw [List.take_of_length_le (by rw [List.length_map]; omega)] at hO hoV
          rw [List.length_map, hcl] at hoV
          subst hoV
          have hS := (Kd.Own.S hO).mono (ok' := fun _ => True) (fun _ _ => trivial)
          have h := (HF.out.then hb).snoc (.tms (cn.map g) (.slice oA a.length oc)) hS
          clear hO hS hb HF HSH hlt hj
          rcases hxyz with ⟨rfl, rfl, rfl⟩ | rfl | ⟨rfl, rfl⟩
          all_goals
            have m1 : Hid (0 = 0) := Lib.hid rfl
            have m2 : Hid (0 = 0) := Lib.hid rfl
            have m3 : Hid (0 = 0) := Lib.hid rfl
            have m4 : Hid (0 = 0) := Lib.hid rfl
            have m5 : Hid (0 = 0) := Lib.hid rfl
            have m6 : Hid (0 = 0) := Lib.hid rfl
            go_wp2_with (first
              | (go_at_call 33; have hx := m1.out; clear hx m1; refine (HV1.out _ (h.tms 0 rfl) (h.tms 1 rfl)).mono ?_; clear HV1; rintro e w7 ⟨rfl, hb1⟩; replace h := h.then hb1; clear hb1)
              | (go_at_call 33; have hx := m2.out; clear hx m2; refine (HV2.out _ (h.tms 1 rfl) (h.tms 2 rfl)).mono ?_; clear HV2; rintro e w7 ⟨rfl, hb1⟩; replace h := h.then hb1; clear hb1)
              | (go_at_call 33; have hx := m3.out; clear hx m3; refine (HV3.out _ (h.tms 0 rfl) (h.tms 2 rfl)).mono ?_; clear HV3; rintro e w7 ⟨rfl, hb1⟩; replace h := h.then hb1; clear hb1)
              | (go_at_call 33; have hx := m4.out; clear hx m4; refine (HV4.out _ (h.tms 1 rfl) (h.tms 0 rfl)).mono ?_; clear HV4; rintro e w7 ⟨rfl, hb1⟩; replace h := h.then hb1; clear hb1)
              | (go_at_call 33; have hx := m5.out; clear hx m5; refine (HV5.out _ _ (h.tms 0 rfl) (h.tms 3 rfl)).mono ?_; clear HV5; rintro e w7 ⟨rfl, hb1⟩; replace h := h.then hb1; clear hb1)
              | (go_at_call 33; refine (HV6.out _ _ (h.tms 0 rfl) (h.tms 4 rfl)).mono ?_; clear HV6; rintro e w7 ⟨rfl, hb1⟩; replace h := h.then hb1; clear hb1)
              | (go_at_call 31; have hx := m6.out; clear hx m6; refine (HC1.out _ _ (h.tms 3 rfl)).mono ?_; clear HC1; rintro e w7 ⟨⟨A7, c7, rfl, hc⟩, hb1⟩; replace h := h.then hb1; clear hb1)
              | (go_at_call 31; refine (HC2.out _ _ (h.tms 4 rfl)).mono ?_; clear HC2; rintro e w7 ⟨⟨A8, c8, rfl, hc⟩, hb1⟩; replace h := h.then hb1; clear hb1)
              | (go_at_call 34; refine (HAL.out _ _ _ hc (h.tms 3 rfl)).mono ?_; clear hc; rintro e w7 ⟨rfl, hb1⟩; replace h := h.then hb1; clear hb1)
              | (go_at_call 19; refine (New_c _ (fun _ => True)).mono ?_; rintro e w8 ⟨⟨q, c0, rfl, hn, -, -⟩, hb1⟩; replace h := h.then hb1; clear hb1)
              | (go_at_call 21; refine (HLI.out _ _ _ _ _ hn (h.tms 3 rfl) (h.tms 4 rfl)).mono ?_; clear HLI hn; rintro e w8 ⟨⟨p1, d1, rfl, hs⟩, hb1⟩; replace h := h.then hb1; clear hb1)
              | (go_at_call 20; refine (HLN.out _ _ _ hs).mono ?_; clear HLN hs; rintro e w8 ⟨rfl, hb1⟩; replace h := h.then hb1; clear hb1)
              | (go_at_call 23; refine (HVA.out _ (h.tms 0 rfl)).mono ?_; clear HVA; rintro e w8 ⟨⟨A9, c9, rfl⟩, hb1⟩; replace h := h.then hb1; clear hb1)
              | (go_at_call 30; refine (wakes05_c _).mono ?_; rintro e w9 ⟨rfl, hb9⟩))
            go_ret
            exact ⟨rfl, below_then h.b0 h.b0.size hb9⟩
theorem renL_map (f : Int → Int) : ∀ l : List Tm, renL f l = l.map (Tm.ren f)
  | [] => rfl
  | t :: ts => by simp only [renL, List.map_cons, renL_map f ts]
theorem goods_vok {a : List Tm} (h : ∀ t ∈ a, t.good = true) : vokL a := vokL_iff.2 fun t ht => shp_vok t (by have := h t ht; unfold Tm.good at this; simp only [Bool.and_eq_true] at this; exact this.2)
set_option maxRecDepth 100000 in
theorem RenameVariants_c (a b c : List Tm) (d : Int) (va vb vc : Value) (w : World) (ok ok' ok'' : Nat → Prop) (ha : Kd.tm.S w ok a va) (hb : Kd.tm.S w ok' b vb) (hc : Kd.tm.S w ok'' c vc) (wa : WfL a) (wb : WfL b) (wc : WfL c) (hd : -9223372036854775808 ≤ d ∧ d ≤ 9223372036854775807) :
    Calls Try.prog 7 #[va, vb, vc, .int .i64 d] w fun e w' => e = .returned (.bool true) ∧ Below w.heap.size w w' := by
  obtain ⟨A, ca, rfl⟩ := ha.form
  obtain ⟨B, cb, rfl⟩ := hb.form
  obtain ⟨C, cc, rfl⟩ := hc.form
  have HK : Hid (Fk w [.tms a (.slice A a.length ca), .tms b (.slice B b.length cb), .tms c (.slice C c.length cc)] w) := Lib.hid ⟨Below.refl _ _, fun f hf => by
    simp only [List.mem_cons, List.not_mem_nil, or_false] at hf
    rcases hf with rfl | rfl | rfl
    · exact ha.mono (fun _ _ => trivial)
    · exact hb.mono (fun _ _ => trivial)
    · exact hc.mono (fun _ _ => trivial)⟩
  clear ha hb hc
  have HA := Lib.hid (fun W (h : Kd.tm.S W (fun _ => True) a (.slice A a.length ca)) => Great_c a _ W _ h wa)
  have HB := Lib.hid (fun W (h : Kd.tm.S W (fun _ => True) b (.slice B b.length cb)) => Great_c b _ W _ h wb)
  have HC := Lib.hid (fun W (h : Kd.tm.S W (fun _ => True) c (.slice C c.length cc)) => Great_c c _ W _ h wc)
  by_cases l1 : (20 : Int) < a.length
  · exact rv_n1 HK l1
  have l1' : decide ((20 : Int) < a.length) = false := by simpa using l1
  by_cases l2 : (20 : Int) < b.length
  · exact rv_n2 HK l1' l2
  have l2' : decide ((20 : Int) < b.length) = false := by simpa using l2
  by_cases l3 : (20 : Int) < c.length
  · exact rv_n3 HK l1' l2' l3
  have l3' : decide ((20 : Int) < c.length) = false := by simpa using l3
  cases ga : great a with
  | true => rw [ga] at HA; exact rv_g1 HK HA l1' l2' l3'
  | false =>
  rw [ga] at HA
  cases gb : great b with
  | true => rw [gb] at HB; exact rv_g2 HK HA HB l1' l2' l3'
  | false =>
  rw [gb] at HB
  cases gc : great c with
  | true => rw [gc] at HC; exact rv_g3 HK HA HB HC l1' l2' l3'
  | false =>
  rw [gc] at HC
  by_cases l4 : d < 0
  · exact rv_b1 HK HA HB HC l1' l2' l3' l4
  have l4' : decide (d < 0) = false := by simpa using l4
  by_cases l5 : 4611686018427387904 ≤ d
  · exact rv_b2 HK HA HB HC l1' l2' l3' l4' l5
  have l5' : decide (4611686018427387904 ≤ d) = false := by simpa using l5
  have za := great_siz ga
  have zb := great_siz gb
  have zc := great_siz gc
  have wcn := canL_wf a wa (by omega)
  have hup := fun hv => variants_up (a := a) (d := d + 1000) hv wa za (by omega)
  have hb0 : ∀ n ∈ occL (canL a), 0 ≤ n ∧ n < 1000 := fun n hn => by
    have h1 := canL_occ a n hn
    have h2 := dd_length (occL a)
    have h3 := occL_length a
    omega
  have he : renL (fun n => wrap64 (n + (d + 1000))) (canL a) = renL (fun n => n + (d + 1000)) (canL a) := renL_congr _ (fun n hn => wrap_id (by have := hb0 n hn; omega))
  have hcu : canL ((canL a).map (Tm.ren fun n => wrap64 (n + (d + 1000)))) = canL a := by
    rw [← renL_map, he, canL_ren _ (fun x _ y _ h => by have h : x + (d + 1000) = y + (d + 1000) := h; omega), canL_canL]
  have hwu : WfL ((canL a).map (Tm.ren fun n => wrap64 (n + (d + 1000)))) := by
    rw [← renL_map, he]; exact renL_wf _ wcn (fun n hn => by have := hb0 n hn; omega)
  have hzu : sizL ((canL a).map (Tm.ren fun n => wrap64 (n + (d + 1000)))) = sizL a := by rw [← renL_map, renL_siz, canL_siz]
  have hlu : ((canL a).map (Tm.ren fun n => wrap64 (n + (d + 1000)))).length = a.length := by rw [List.length_map, canL_length]
  have can : ∀ (L : List Tm), sizL L ≤ 1000000 → WfL L → L.length = a.length → ∀ W v, Kd.tm.S W (fun _ => True) L v → Calls Try.prog 31 #[v] W fun e w' => (∃ A c, e = .returned (.slice A a.length c) ∧ Kd.tm.S w' (fun _ => True) (canL L) (.slice A a.length c)) ∧ Below W.heap.size W w' :=
    fun L hz hw hl W v h => (Canon_c L v W _ h hz hw).mono (fun e w' ⟨⟨r, he, hr⟩, hb⟩ => by
      obtain ⟨A, c, rfl⟩ := Kd.Own.form hr
      have hs := (Kd.Own.S hr).mono (ok' := fun _ => True) (fun _ _ => trivial)
      rw [canL_length, hl] at he hs
      exact ⟨⟨A, c, he, hs⟩, hb⟩)
  have var : ∀ (L M : List Tm), sizL L ≤ 1000000 → sizL M ≤ 1000000 → WfL L → WfL M → ∀ W v v', Kd.tm.S W (fun _ => True) L v → Kd.tm.S W (fun _ => True) M v' → Calls Try.prog 33 #[v, v'] W fun e w' => e = .returned (.bool (eqbL (canL L) (canL M))) ∧ Below W.heap.size W w' :=
    fun L M h1 h2 h3 h4 W v v' h h' => Variants_c L M v v' W _ _ h h' h1 h2 h3 h4
  have hcz := canL_siz a
  refine rv_main (cn := canL a) (g := Tm.ren fun n => wrap64 (n + (d + 1000))) (x := eqbL (canL a) (canL b)) (y := eqbL (canL b) (canL c)) (z := eqbL (canL a) (canL c)) (l' := lk (d + 1000) (dd (occL (canL a)))) (vs := dd (occL a))
    HK HA HB HC l1' l2' l3' l4' l5' (by rw [IntKind.wrap_i64]; omega)
    (Lib.hid (fun t ht W u h => refGood_c t _ W _ ⟨_, rfl, h⟩ (by have := siz_memL ht; omega) (WfL_iff.1 wa t ht)))
    (Lib.hid (fun W h => can a (by omega) wa rfl W _ h))
    (Lib.hid (fun t ht W u h => Shift_c t (d + 1000) _ W _ ⟨_, rfl, h⟩ (by have := siz_memL ht; omega)))
    (canL_length a)
    (Lib.hid (fun W h h' => var a b (by omega) (by omega) wa wb W _ _ h h'))
    (Lib.hid (fun W h h' => var b c (by omega) (by omega) wb wc W _ _ h h'))
    (Lib.hid (fun W h h' => var a c (by omega) (by omega) wa wc W _ _ h h'))
    (Lib.hid (fun W h h' => ?_)) ?_
    (Lib.hid (fun W v h h' => ?_)) (Lib.hid (fun W v h h' => ?_))
    (Lib.hid (fun W v h => ?_)) (Lib.hid (fun W v h => ?_))
    (Lib.hid (fun W v v' h h' => ?_)) (fun hg => ?_) (Lib.hid (fun W p b h => ?_)) (Lib.hid (fun W h => ?_))
  · rw [eqbL_comm]; exact var b a (by omega) (by omega) wb wa W _ _ h h'
  · cases hx : eqbL (canL a) (canL b) with
    | false => exact .inr (.inl rfl)
    | true =>
      cases hy : eqbL (canL b) (canL c) with
      | false => exact .inr (.inr ⟨rfl, rfl⟩)
      | true =>
        refine .inl ⟨rfl, rfl, ?_⟩
        rw [(eqbL_iff _ _).1 hx, (eqbL_iff _ _).1 hy]
        exact eqbL_self _
  · have hq := var a (canL a) (by omega) (by omega) wa wcn W _ _ h h'
    rw [canL_canL, eqbL_self] at hq
    exact hq
  · have hq := var a ((canL a).map (Tm.ren fun n => wrap64 (n + (d + 1000)))) (by omega) (by omega) wa hwu W _ _ h h'
    rw [hcu, eqbL_self] at hq
    exact hq
  · have hq := can (canL a) (by omega) wcn (canL_length a) W v h
    rw [canL_canL] at hq
    exact hq
  · have hq := can ((canL a).map (Tm.ren fun n => wrap64 (n + (d + 1000)))) (by omega) hwu hlu W v h
    rw [hcu] at hq
    exact hq
  · have hq := All_c (canL a) (canL a) v v' W _ _ h h'
    rw [eqbL_self] at hq
    exact hq
  · obtain ⟨-, -, -, -, n', hu⟩ := variants_up (a := a) (d := d + 1000) (goods_vok hg) wa za (by omega)
    rw [renL_map] at hu
    refine Lib.hid (fun W q c v v' hs h h' => (Lists_c [] q c (canL a) ((canL a).map (Tm.ren fun n => wrap64 (n + (d + 1000)))) v v' W _ _ _ hs h h' wcn hwu (fun x hx => by have := siz_memL hx; omega) (fun x hx => by have := siz_memL hx; omega) K5.sm0 (by simp) (by rw [canL_length]; omega)).mono (fun e w' hp => ?_))
    unfold LPost at hp
    rw [if_pos (by rw [hlu, canL_length]), hu] at hp
    obtain ⟨⟨p', b', h1, h2, -⟩, h3⟩ := hp
    exact ⟨⟨p', b', h1, h2.mono (fun _ _ => trivial)⟩, h3⟩
  · have hq := sLen_c _ p b W _ h
    rw [show (lk (d + 1000) (dd (occL (canL a)))).length = (dd (occL a)).length by simp only [lk, List.length_map]; exact canL_len a] at hq
    exact hq
  · exact (Vars_s a _ W _ h (by omega)).mono (fun e w' ⟨⟨A, c, he, _⟩, hb⟩ => ⟨⟨A, c, he⟩, hb⟩)
end Go.Proofs.Ytdflckjnpgbjlaa

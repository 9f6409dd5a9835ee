/- Walks of layer 2: Compare. Conditions: the arguments read. -/
import Derived.Test.YtdflckjnpgbjlaaWk
set_option linter.unusedVariables false
set_option maxRecDepth 20000
set_option linter.unusedSimpArgs false
namespace Go.Proofs.Ytdflckjnpgbjlaa
open Go.RowKit

/-- Two terms in boxes B and B'. -/
structure TwoB (B B' : Nat) (a b : Tm) (ok ok' : Nat → Prop) (u u' : Value) (W : World) : Prop where
  c : W.heap[B]? = some (.cells #[.int .u8 a.k, .string a.s, .int .i64 a.n, u] 24 (0, 0))
  d : W.heap[B']? = some (.cells #[.int .u8 b.k, .string b.s, .int .i64 b.n, u'] 24 (0, 0))
  s : Kd.tm.S W ok a.l u
  s' : Kd.tm.S W ok' b.l u'
theorem TwoB.then {B B' : Nat} {a b : Tm} {ok ok' : Nat → Prop} {u u' : Value} {W W' : World} (h : TwoB B B' a b ok ok' u u' W) (hb : Below W.heap.size W W') : TwoB B B' a b ok ok' u u' W' :=
  ⟨block_below hb (Array.getElem?_eq_some_iff.1 h.c).1 h.c, block_below hb (Array.getElem?_eq_some_iff.1 h.d).1 h.d, h.s.below hb, h.s'.below hb⟩
section
variable {B B' : Nat} {a b : Tm} {ok ok' : Nat → Prop} {u u' : Value} {W : World} (h : TwoB B B' a b ok ok' u u' W)
include h
theorem cl1_c : Calls Try.prog 85 #[.pointer (some ⟨B, 0, none⟩), .pointer (some ⟨B', 0, none⟩)] W fun e w' => e = .returned (.int .i64 (cmpI a.k b.k)) ∧ Below W.heap.size W w' := by
  obtain ⟨c0, c1, c2, c3, -⟩ := box4 h.c
  obtain ⟨d0, d1, d2, d3, -⟩ := box4 h.d
  clear h
  go_enter Try.func85, Try.ntmps85
  go_wp2_with (go_at_call 86; refine (cmp8_c _ _ _).mono ?_; rintro e w1 ⟨rfl, rfl⟩)
  go_ret
  exact ⟨rfl, Below.refl _ _⟩
theorem cl2_c : Calls Try.prog 87 #[.pointer (some ⟨B, 0, none⟩), .pointer (some ⟨B', 0, none⟩)] W fun e w' => e = .returned (.int .i64 (cmpI a.n b.n)) ∧ Below W.heap.size W w' := by
  obtain ⟨c0, c1, c2, c3, -⟩ := box4 h.c
  obtain ⟨d0, d1, d2, d3, -⟩ := box4 h.d
  clear h
  go_enter Try.func87, Try.ntmps87
  go_wp2_with (go_at_call 88; refine (cmp64_c _ _ _).mono ?_; rintro e w1 ⟨rfl, rfl⟩)
  go_ret
  exact ⟨rfl, Below.refl _ _⟩
theorem cl3_c : Calls Try.prog 89 #[.pointer (some ⟨B, 0, none⟩), .pointer (some ⟨B', 0, none⟩)] W fun e w' => e = .returned (.int .i64 (cmpI a.l.length b.l.length)) ∧ Below W.heap.size W w' := by
  obtain ⟨c0, c1, c2, c3, -⟩ := box4 h.c
  obtain ⟨d0, d1, d2, d3, -⟩ := box4 h.d
  obtain ⟨A, c, rfl⟩ := h.s.form
  obtain ⟨A', c', rfl⟩ := h.s'.form
  clear h
  go_enter Try.func89, Try.ntmps89
  go_wp2_with (go_at_call 90; refine (cmpi_c _ _ _).mono ?_; rintro e w1 ⟨rfl, rfl⟩)
  go_ret
  exact ⟨rfl, Below.refl _ _⟩
theorem cl4_c : Calls Try.prog 91 #[.pointer (some ⟨B, 0, none⟩), .pointer (some ⟨B', 0, none⟩)] W fun e w' => e = .returned (.int .i64 (cmpS a.s b.s)) ∧ Below W.heap.size W w' := by
  obtain ⟨c0, c1, c2, c3, -⟩ := box4 h.c
  obtain ⟨d0, d1, d2, d3, -⟩ := box4 h.d
  clear h
  go_enter Try.func91, Try.ntmps91
  go_wp2_with (go_at_call 92; refine (cmps_c _ _ _).mono ?_; rintro e w1 ⟨rfl, rfl⟩)
  go_ret
  exact ⟨rfl, Below.refl _ _⟩
theorem cl5_c (H : ∀ t ∈ a.l, ∀ (u : Tm) (w : World) (ok ok' : Nat → Prop) (v v' : Value), TmV w ok t v → TmV w ok' u v' → Calls Try.prog 51 #[v, v'] w fun e w' => e = .returned (.int .i64 (cmpT t u)) ∧ Below w.heap.size w w') :
    Calls Try.prog 93 #[.pointer (some ⟨B, 0, none⟩), .pointer (some ⟨B', 0, none⟩)] W fun e w' => e = .returned (.int .i64 (cmpL a.l b.l)) ∧ Below W.heap.size W w' := by
  obtain ⟨c0, c1, c2, c3, -⟩ := box4 h.c
  obtain ⟨d0, d1, d2, d3, -⟩ := box4 h.d
  have HC := Lib.hid (cmpF_of a.l H b.l u u' W ok ok' h.s h.s')
  obtain ⟨A, c, rfl⟩ := h.s.form
  obtain ⟨A', c', rfl⟩ := h.s'.form
  clear h H
  go_enter Try.func93, Try.ntmps93
  go_wp2_with (go_at_call 94; refine HC.out.mono ?_; rintro e w1 ⟨rfl, hb1⟩)
  go_ret
  exact ⟨rfl, hb1⟩
end
theorem fn5_at (W : World) (f1 f2 f3 f4 f5 : Nat) (b1 b2 b3 b4 b5 : Array Value) :
    Kd.fn.S (W.alloc (.cells #[.func (.func f1) #[] b1, .func (.func f2) #[] b2, .func (.func f3) #[] b3, .func (.func f4) #[] b4, .func (.func f5) #[] b5] 33)) (fun _ => True) [(f1, b1), (f2, b2), (f3, b3), (f4, b4), (f5, b5)] (.slice (some ⟨W.heap.size, 0, none⟩) 5 5) :=
  Kd.S.mono (fun _ _ => trivial) (Kd.Own.S (Kd.Own.lit (d := Kd.fn) (e := 33) (base := W.heap.size) (ok := fun _ => True) (xs := [(f1, b1), (f2, b2), (f3, b3), (f4, b4), (f5, b5)]) [.func (.func f1) #[] b1, .func (.func f2) #[] b2, .func (.func f3) #[] b3, .func (.func f4) #[] b4, .func (.func f5) #[] b5] (Nat.le_refl _) rfl (by simp [maxLen]) (fun j z hz => by
    match j, hz with
    | 0, hz => simp at hz; subst hz; rfl
    | 1, hz => simp at hz; subst hz; rfl
    | 2, hz => simp at hz; subst hz; rfl
    | 3, hz => simp at hz; subst hz; rfl
    | 4, hz => simp at hz; subst hz; rfl
    | j + 5, hz => simp at hz)))
set_option maxHeartbeats 1600000 in
theorem Compare_c (t : Tm) : ∀ (u : Tm) (w : World) (ok ok' : Nat → Prop) (v v' : Value), TmV w ok t v → TmV w ok' u v' → Calls Try.prog 51 #[v, v'] w fun e w' => e = .returned (.int .i64 (cmpT t u)) ∧ Below w.heap.size w w' := by
  refine Tm.ind (p := fun t => ∀ (u : Tm) (w : World) (ok ok' : Nat → Prop) (v v' : Value), TmV w ok t v → TmV w ok' u v' → Calls Try.prog 51 #[v, v'] w fun e w' => e = .returned (.int .i64 (cmpT t u)) ∧ Below w.heap.size w w') ?_ t
  intro a ih b w ok ok' v v' hv hv'
  obtain ⟨u, rfl, hs⟩ := hv
  obtain ⟨u', rfl, hs'⟩ := hv'
  obtain ⟨O1, hO1⟩ : ∃ O : Obj, O = .cells #[.int .u8 a.k, .string a.s, .int .i64 a.n, u] 24 := ⟨_, rfl⟩
  obtain ⟨O2, hO2⟩ : ∃ O : Obj, O = .cells #[.int .u8 b.k, .string b.s, .int .i64 b.n, u'] 24 := ⟨_, rfl⟩
  have hst : Below w.heap.size w ((w.alloc O1).alloc O2) := ((Below.refl _ w).alloc (Nat.le_refl _) O1).alloc (by simp) O2
  have hT : TwoB w.heap.size (w.heap.size + 1) a b ok ok' u u' ((w.alloc O1).alloc O2) := ⟨by rw [← hO1]; exact (Below.heap_alloc _ _ _ (by simp)).trans (heap_new w _), by have := heap_new (w.alloc O1) O2; rwa [World.size_alloc, ← hO2] at *, hs.below hst, hs'.below hst⟩
  have hx : cmpT a b = fstI [cmpI a.k b.k, cmpI a.n b.n, cmpI a.l.length b.l.length, cmpS a.s b.s, cmpL a.l b.l] := by
    obtain ⟨k, s, n, l⟩ := a
    obtain ⟨k', s', n', l'⟩ := b
    simp only [cmpT, fstI]
    by_cases h : cmpL l l' = 0 <;> simp [orI, h]
  have HX := Lib.hid hx
  have HF := Lib.hid (fun (W : World) (hW : Below ((w.alloc O1).alloc O2).heap.size ((w.alloc O1).alloc O2) W) (v : Value) (hv : Kd.fn.S W (fun _ => True) [(85, #[.pointer (some ⟨w.heap.size, 0, none⟩), .pointer (some ⟨w.heap.size + 1, 0, none⟩)]), (87, #[.pointer (some ⟨w.heap.size, 0, none⟩), .pointer (some ⟨w.heap.size + 1, 0, none⟩)]), (89, #[.pointer (some ⟨w.heap.size, 0, none⟩), .pointer (some ⟨w.heap.size + 1, 0, none⟩)]), (91, #[.pointer (some ⟨w.heap.size, 0, none⟩), .pointer (some ⟨w.heap.size + 1, 0, none⟩)]), (93, #[.pointer (some ⟨w.heap.size, 0, none⟩), .pointer (some ⟨w.heap.size + 1, 0, none⟩)])] v) =>
    first_c _ [cmpI a.k b.k, cmpI a.n b.n, cmpI a.l.length b.l.length, cmpS a.s b.s, cmpL a.l b.l] rfl (fun p hp => by
      simp only [List.mem_cons, List.not_mem_nil, or_false] at hp
      rcases hp with rfl | rfl | rfl | rfl | rfl
      · exact enters_of Try.func85 (by kernel_rfl) rfl
      · exact enters_of Try.func87 (by kernel_rfl) rfl
      · exact enters_of Try.func89 (by kernel_rfl) rfl
      · exact enters_of Try.func91 (by kernel_rfl) rfl
      · exact enters_of Try.func93 (by kernel_rfl) rfl) v W _ hv (fun j hj W1 hW1 => by
      have hT1 := (hT.then hW).then hW1
      match j, hj with
      | 0, _ => exact cl1_c hT1
      | 1, _ => exact cl2_c hT1
      | 2, _ => exact cl3_c hT1
      | 3, _ => exact cl4_c hT1
      | 4, _ => exact cl5_c hT1 ih))
  rw [← hx] at HF
  obtain ⟨A, c, rfl⟩ := hs.form
  obtain ⟨A', c', rfl⟩ := hs'.form
  subst hO1 hO2
  clear hs hs' hT ih hx
  have hS5 := fn5_at ((w.alloc (.cells #[.int .u8 a.k, .string a.s, .int .i64 a.n, .slice A a.l.length c] 24)).alloc (.cells #[.int .u8 b.k, .string b.s, .int .i64 b.n, .slice A' b.l.length c'] 24)) 85 87 89 91 93 #[.pointer (some ⟨w.heap.size, 0, none⟩), .pointer (some ⟨w.heap.size + 1, 0, none⟩)] #[.pointer (some ⟨w.heap.size, 0, none⟩), .pointer (some ⟨w.heap.size + 1, 0, none⟩)] #[.pointer (some ⟨w.heap.size, 0, none⟩), .pointer (some ⟨w.heap.size + 1, 0, none⟩)] #[.pointer (some ⟨w.heap.size, 0, none⟩), .pointer (some ⟨w.heap.size + 1, 0, none⟩)] #[.pointer (some ⟨w.heap.size, 0, none⟩), .pointer (some ⟨w.heap.size + 1, 0, none⟩)]
  have HQ := Lib.hid (HF.out _ ((Below.refl _ _).alloc (Nat.le_refl _) _) _ hS5)
  have hsz : ∀ O1 O2 : Obj, ((w.alloc O1).alloc O2).heap.size = w.heap.size + 1 + 1 := fun O1 O2 => by simp only [World.size_alloc]
  rw [show (Value.slice (some ⟨((w.alloc (.cells #[.int .u8 a.k, .string a.s, .int .i64 a.n, .slice A a.l.length c] 24)).alloc (.cells #[.int .u8 b.k, .string b.s, .int .i64 b.n, .slice A' b.l.length c'] 24)).heap.size, 0, none⟩) 5 5) = .slice (some ⟨w.heap.size + 1 + 1, 0, none⟩) 5 5 by rw [hsz]] at HQ
  clear HF hS5 hsz
  go_enter Try.func51, Try.ntmps51
  go_wp2_with (go_at_call 84; refine HQ.out.mono ?_; rintro e w1 ⟨rfl, hb1⟩)
  go_ret
  exact ⟨rfl, below_then (hst.alloc hst.size _) (by have := hst.size; simp; omega) hb1⟩
end Go.Proofs.Ytdflckjnpgbjlaa

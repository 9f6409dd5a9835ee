/- Substitutions applied: 'Apply'; no substitution. Conditions: the arguments read; the bindings make no circle; terms of at most a million nodes. -/
import Derived.Test.YtdflckjnpgbjlaaS5
set_option linter.unusedVariables false
set_option maxRecDepth 20000
set_option linter.unusedSimpArgs false
namespace Go.Proofs.Ytdflckjnpgbjlaa
open Go.RowKit

theorem below_of_grown {w W : World} (h : w.grownBy W none) : Below w.heap.size w W := ⟨h.os, h.tape, h.output, h.size, fun i hi => h.block i hi (by simp)⟩
/-- What 'Apply' tells. -/
def appE (P : List Tm) (r : Tm) : Tm × Int := if P.length ≤ 4096 then (r, 0) else (tm0, 31)
set_option maxHeartbeats 1000000 in
theorem Apply_c (l : Bs) (p b : Nat) (f : Nat) (t : Tm) (v : Value) (w : World) (ok : Nat → Prop) (hs : Sub w ok l p b) (hv : TmV w ok t v) (hwf : t.Wf) (hf : Fn l f t) (hsm : ∀ n t, ofB l n = some t → t.siz ≤ 1000000) (hsz : t.siz ≤ 1000000) :
    Calls Try.prog 24 #[.pointer (some ⟨p, 0, none⟩), v] w fun e w' => (∃ u, e = .returned (.tuple #[u, .int .i64 (appE (vis l f t) (app l f t)).2]) ∧ TmV w' (fun b => ok b ∨ w.heap.size ≤ b) (appE (vis l f t) (app l f t)).1 u) ∧ Below w.heap.size w w' := by
  replace hs := hs.bound
  replace hv := hv.bound
  have hplt := hs.lt
  obtain ⟨u, rfl, hvS⟩ := hv
  obtain ⟨A0, c0, rfl⟩ := hvS.form
  obtain ⟨W3, hW3⟩ : ∃ W3, W3 = ((w.alloc (.cells #[.int .u8 t.k, .string t.s, .int .i64 t.n, .slice A0 t.l.length c0] 24)).alloc (.cells #[.int .u8 0, .string ⟨#[]⟩, .int .i64 0, .slice none 0 0] 24)).alloc (.cells #[.int .i64 0] 3) := ⟨_, rfl⟩
  have hz3 : W3.heap.size = w.heap.size + 3 := by rw [hW3]; simp
  have hb3 : Below w.heap.size w W3 := by rw [hW3]; exact (((Below.refl _ w).alloc (Nat.le_refl _) _).alloc (by simp) _).alloc (by simp; omega) _
  have hbn : W3.heap[w.heap.size + 2]? = some (.cells #[.int .i64 ((0 : Nat) : Int)] 3 (0, 0)) := by rw [hW3]; exact heap_at _ _ _ (by simp)
  have hrs : W3.heap[w.heap.size + 1]? = some (.cells #[.int .u8 0, .string ⟨#[]⟩, .int .i64 0, .slice none 0 0] 24 (0, 0)) := by rw [hW3]; exact (Below.heap_alloc _ _ _ (by simp)).trans (heap_at _ _ _ (by simp))
  have HAP := Lib.hid (apply_c l p b (w.heap.size + 2) (by omega) (by omega) hsm f t hf 0 _ W3 _ (hs.below hb3) (TmV.below hb3 ⟨_, rfl, hvS⟩) hwf hsz (fun i hi => ⟨by omega, by omega⟩) hbn (by omega))
  have HRS := Lib.hid hrs
  have HPL := Lib.hid hplt
  have HB3 := Lib.hid hb3
  have HZ3 := Lib.hid hz3
  clear hs hvS hf hwf hsm hsz hbn hrs hplt hb3 hz3
  go_enter Try.func24, Try.ntmps24
  go_wp2_with (go_at_call 63; rw [← hW3]; refine HAP.out.mono ?_; clear HAP; rintro e W6 ⟨⟨hle, ru, rfl, ⟨ruu, rfl, hrS⟩, hbn6⟩ | ⟨hfu, rfl⟩, hg6⟩; all_goals ((try (obtain ⟨rA, rc, rfl⟩ := hrS.form)); have hz3 := HZ3.out; have hz6 := hg6.size; have hlR : w.heap.size + 1 < W6.heap.size := (by omega); have hrr6 := (hg6.block (w.heap.size + 1) (by omega) (fun e => by injection e; omega)).trans HRS.out; obtain ⟨r0, r1, r2, r3, g0, g1, g2, g3⟩ := box4 hrr6))
  · refine bodyPost_ret (v := .tuple #[.agg #[.int .u8 (app l f t).k, .string (app l f t).s, .int .i64 (app l f t).n, .slice rA (app l f t).l.length rc], .int .i64 0]) (by simp [results, Try.results24, go_sem, r0, r1, r2, r3, hlR]) rfl ?_
    have hE : appE (vis l f t) (app l f t) = (app l f t, 0) := by unfold appE; rw [if_pos (by omega)]
    rw [hE]
    have hgr := gfresh (gbelow (gfresh (gbelow (gnone HB3.out) (Below.refl _ W3)) hg6 (by omega)) (Below.refl _ W6)) (grown_set4 W6 (w.heap.size + 1) (.int .u8 (app l f t).k) (.string (app l f t).s) (.int .i64 (app l f t).n) (.slice rA (app l f t).l.length rc)) (r := none) (by omega)
    refine ⟨⟨_, rfl, _, rfl, ?_⟩, below_of_grown (gbelow hgr ((Below.refl _ _).alloc (Nat.le_refl _) _))⟩
    refine Kd.S.below ((Below.refl _ _).alloc (Nat.le_refl _) _) (Kd.S.mono (fun i hi => hi.1) (Kd.S.move (fun i hi => (grown_set4 W6 (w.heap.size + 1) _ _ _ _).block i hi.2 (fun e => ?_)) (Kd.S.bound (hrS.mono (ok' := fun b => (ok b ∨ w.heap.size ≤ b) ∧ b ≠ w.heap.size + 1) (fun i hi => ?_)))) |>.mono (fun i hi => hi.1))
    · injection e with e; exact hi.1.2 e
    · rcases hi with h | h
      · exact ⟨.inl h.1, by omega⟩
      · exact ⟨.inr (by omega), by omega⟩
  · refine bodyPost_ret (v := .tuple #[.agg #[.int .u8 0, .string ⟨#[]⟩, .int .i64 0, .slice none 0 0], .int .i64 31]) (by simp [results, Try.results24, go_sem, r0, r1, r2, r3, hlR]) rfl ?_
    have hE : appE (vis l f t) (app l f t) = (tm0, 31) := by unfold appE; rw [if_neg (by omega)]
    rw [hE]
    have hgr := gfresh (gbelow (gfresh (gbelow (gnone HB3.out) (Below.refl _ W3)) hg6 (by omega)) (Below.refl _ W6)) (grown_set4 W6 (w.heap.size + 1) (.int .u8 0) (.string ⟨#[]⟩) (.int .i64 0) (.slice none 0 0)) (r := none) (by omega)
    exact ⟨⟨_, rfl, _, rfl, Kd.S.nil _ _ _⟩, below_of_grown (gbelow hgr ((Below.refl _ _).alloc (Nat.le_refl _) _))⟩

/-! ### No substitution -/
theorem Walk_nil (t : Tm) (v : Value) (w : World) (ok : Nat → Prop) (hv : TmV w ok t v) :
    Calls Try.prog 97 #[.pointer none, v] w fun e w' => (∃ u, e = .returned u ∧ TmV w' ok t u) ∧ Below w.heap.size w w' := by
  replace hv := hv.bound
  obtain ⟨u, rfl, hvS⟩ := hv
  obtain ⟨A0, c0, rfl⟩ := hvS.form
  go_enter Try.func97, Try.ntmps97
  go_wp2
  refine wp_loop_rounds 1 ?_
  rw [rounds_succ]
  go_wp2
  have hB : Below w.heap.size w ((w.alloc (.cells #[.int .u8 t.k, .string t.s, .int .i64 t.n, .slice A0 t.l.length c0] 24)).alloc (.cells #[.int .u8 t.k, .string t.s, .int .i64 t.n, .slice A0 t.l.length c0] 24)) := ((Below.refl _ w).alloc (Nat.le_refl _) _).alloc (by simp) _
  refine bodyPost_ret (v := .agg #[.int .u8 t.k, .string t.s, .int .i64 t.n, .slice A0 t.l.length c0]) (by simp [results, Try.results97, go_sem]) rfl ⟨⟨_, rfl, _, rfl, ?_⟩, hB⟩
  exact (Kd.S.below hB hvS).mono (fun _ h => h.1)
theorem Occurs_nil (q : Int) (t : Tm) (v : Value) (w : World) (ok : Nat → Prop) (hv : TmV w ok t v) :
    Calls Try.prog 103 #[.pointer none, .int .i64 q, v] w fun e w' => e = .returned (.tuple #[.bool false, .int .i64 2]) ∧ Below w.heap.size w w' := by
  obtain ⟨u, rfl, hvS⟩ := hv
  obtain ⟨A0, c0, rfl⟩ := hvS.form
  go_enter Try.func103, Try.ntmps103
  go_wp2
  refine bodyPost_ret (v := .tuple #[.bool false, .int .i64 2]) (by simp [results, Try.results103, go_sem]) rfl ⟨rfl, ?_⟩
  exact ((((Below.refl _ w).alloc (Nat.le_refl _) _).alloc (by simp) _).alloc (by simp; omega) _).alloc (by simp; omega) _
theorem Bind_nil (q : Int) (t : Tm) (v : Value) (w : World) (ok : Nat → Prop) (hv : TmV w ok t v) :
    Calls Try.prog 64 #[.pointer none, .int .i64 q, v] w fun e w' => e = .returned (.int .i64 2) ∧ Below w.heap.size w w' := by
  obtain ⟨u, rfl, hvS⟩ := hv
  obtain ⟨A0, c0, rfl⟩ := hvS.form
  go_enter Try.func64, Try.ntmps64
  go_wp2
  go_ret
  exact ⟨rfl, (Below.refl _ w).alloc (Nat.le_refl _) _⟩
theorem Apply_nil (t : Tm) (v : Value) (w : World) (ok : Nat → Prop) (hv : TmV w ok t v) :
    Calls Try.prog 24 #[.pointer none, v] w fun e w' => e = .returned (.tuple #[.agg #[.int .u8 0, .string ⟨#[]⟩, .int .i64 0, .slice none 0 0], .int .i64 2]) ∧ Below w.heap.size w w' := by
  obtain ⟨u, rfl, hvS⟩ := hv
  obtain ⟨A0, c0, rfl⟩ := hvS.form
  go_enter Try.func24, Try.ntmps24
  go_wp2
  refine bodyPost_ret (v := .tuple #[.agg #[.int .u8 0, .string ⟨#[]⟩, .int .i64 0, .slice none 0 0], .int .i64 2]) (by simp [results, Try.results24, go_sem]) rfl ⟨rfl, ?_⟩
  exact ((Below.refl _ w).alloc (Nat.le_refl _) _).alloc (by simp) _
end Go.Proofs.Ytdflckjnpgbjlaa

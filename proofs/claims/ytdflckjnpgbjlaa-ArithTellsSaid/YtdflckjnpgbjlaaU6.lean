/- Unification: Unify. Conditions: the arguments read; the bindings make no circle; terms of at most a million nodes. -/
import Derived.Test.YtdflckjnpgbjlaaU5
import Derived.Test.YtdflckjnpgbjlaaL1
set_option linter.unusedVariables false
set_option maxRecDepth 20000
set_option linter.unusedSimpArgs false
namespace Go.Proofs.Ytdflckjnpgbjlaa
open Go.RowKit

/-- What Unify leaves behind. -/
def QPost (N : Nat) (O : UO) (w : World) (e : Ending) (w' : World) : Prop :=
  (match O with
   | .full => e = .returned (.tuple #[.pointer none, .bool false, .int .i64 31])
   | .no => e = .returned (.tuple #[.pointer none, .bool false, .int .i64 0])
   | .yes l' _ => ∃ p' b', e = .returned (.tuple #[.pointer (some ⟨p', 0, none⟩), .bool true, .int .i64 0]) ∧ Sub w' (fun _ => True) l' p' b') ∧ Below N w w'
theorem LPost.q {N M : Nat} {l : Bs} {X Y : List Tm} {w w0 w' : World} {e : Ending} (h : LPost M l X Y w0 e w') (hl : X.length = Y.length) (hb : Below N w w0) (hM : N ≤ M) : QPost N (un 4098 0 l (X.zip Y)) w e w' := by
  unfold LPost at h
  rw [if_pos hl] at h
  unfold QPost
  refine ⟨?_, hb.trans (h.2.mono hM)⟩
  have h1 := h.1
  cases hO : un 4098 0 l (X.zip Y) with
  | full => rw [hO] at h1; exact h1
  | no => rw [hO] at h1; exact h1
  | yes l' n => rw [hO] at h1; obtain ⟨p', b', e1, e2, _⟩ := h1; exact ⟨p', b', e1, e2.mono (fun _ _ => trivial)⟩
theorem QPost.form {N : Nat} {O : UO} {w w' : World} {e : Ending} (h : QPost N O w e w') : ∃ a b c, e = .returned (.tuple #[a, b, c]) := by
  have h1 := h.1
  cases O with
  | full => exact ⟨_, _, _, h1⟩
  | no => exact ⟨_, _, _, h1⟩
  | yes l' n => obtain ⟨p', b', e1, _⟩ := h1; exact ⟨_, _, _, e1⟩
theorem Unify_nil (s t : Tm) (vs vt : Value) (w : World) (ok ok' : Nat → Prop) (hs : TmV w ok s vs) (ht : TmV w ok' t vt) :
    Calls Try.prog 18 #[.pointer none, vs, vt] w fun e w' => e = .returned (.tuple #[.pointer none, .bool false, .int .i64 2]) ∧ Below w.heap.size w w' := by
  obtain ⟨us, rfl, hs⟩ := hs
  obtain ⟨ut, rfl, ht⟩ := ht
  have hW : ∀ W : World, W.heap.size = W.heap.size := fun _ => rfl
  obtain ⟨W4, hW4⟩ : ∃ W4, W4 = ((((w.alloc (.cells #[.int .u8 s.k, .string s.s, .int .i64 s.n, us] 24)).alloc (.cells #[.int .u8 t.k, .string t.s, .int .i64 t.n, ut] 24)).alloc (.cells #[.int .u8 s.k, .string s.s, .int .i64 s.n, us] 24)).alloc (.cells #[.int .u8 t.k, .string t.s, .int .i64 t.n, ut] 24)) := ⟨_, rfl⟩
  have hB : Below w.heap.size w W4 := by rw [hW4]; exact ((((Below.refl _ w).alloc (Nat.le_refl _) _).alloc (by simp) _).alloc (by simp; omega) _).alloc (by simp; omega) _
  have HN := Lib.hid (fun a b => Lists_nil a b W4)
  have HB := Lib.hid hB
  have HW := Lib.hid hW4
  clear hs ht hB hW4
  go_enter Try.func18, Try.ntmps18
  go_wp2_with (rw [← HW.out]; go_at_call 21; refine (HN.out _ _).mono ?_; clear HN; rintro e w5 ⟨rfl, hb5⟩)
  refine bodyPost_ret (v := .tuple #[.pointer none, .bool false, .int .i64 2]) (by simp [results, Try.results18, go_sem]) rfl ?_
  exact ⟨rfl, below_then HB.out HB.out.size hb5⟩
set_option maxHeartbeats 4000000 in
theorem Unify_c (l : Bs) (p b : Nat) (s t : Tm) (vs vt : Value) (w : World) (ok ok' ok'' : Nat → Prop) (hsb : Sub w ok'' l p b) (hs : TmV w ok s vs) (ht : TmV w ok' t vt) (ws : s.Wf) (wt : t.Wf) (zs : s.siz ≤ 1000000) (zt : t.siz ≤ 1000000)
    (hsm : ∀ n t, ofB l n = some t → t.siz ≤ 1000000) (hl0 : l.length ≤ 900000) :
    Calls Try.prog 18 #[.pointer (some ⟨p, 0, none⟩), vs, vt] w (QPost w.heap.size (un 4098 0 l [(s, t)]) w) := by
  obtain ⟨us, rfl, hs⟩ := hs
  obtain ⟨ut, rfl, ht⟩ := ht
  obtain ⟨W4, hW4⟩ : ∃ W4, W4 = ((((w.alloc (.cells #[.int .u8 s.k, .string s.s, .int .i64 s.n, us] 24)).alloc (.cells #[.int .u8 t.k, .string t.s, .int .i64 t.n, ut] 24)).alloc (.cells #[.int .u8 s.k, .string s.s, .int .i64 s.n, us] 24)).alloc (.cells #[.int .u8 t.k, .string t.s, .int .i64 t.n, ut] 24)) := ⟨_, rfl⟩
  have hB : Below w.heap.size w W4 := by rw [hW4]; exact ((((Below.refl _ w).alloc (Nat.le_refl _) _).alloc (by simp) _).alloc (by simp; omega) _).alloc (by simp; omega) _
  have h2 : W4.heap[w.heap.size + 1 + 1]? = some (.cells #[.int .u8 s.k, .string s.s, .int .i64 s.n, us] 24 (0, 0)) := by rw [hW4]; exact (Below.heap_alloc _ _ _ (by simp)).trans (heap_at _ _ _ (by simp))
  have h3 : W4.heap[w.heap.size + 1 + 1 + 1]? = some (.cells #[.int .u8 t.k, .string t.s, .int .i64 t.n, ut] 24 (0, 0)) := by rw [hW4]; exact heap_at _ _ _ (by simp)
  have HC := Lib.hid (Lists_c l p b [s] [t] _ _ W4 _ _ _ (hsb.below hB) (lit1_at h2 (hs.below hB)) (lit1_at h3 (ht.below hB)) (by simp [WfL, ws]) (by simp [WfL, wt]) (by simpa using zs) (by simpa using zt) hsm hl0 (by simp))
  have HB := Lib.hid hB
  have HW := Lib.hid hW4
  clear hs ht hB hW4 h2 h3 hsb ws wt zs zt hsm
  have HQ : Hid (∀ e w', LPost W4.heap.size l [s] [t] W4 e w' → QPost w.heap.size (un 4098 0 l [(s, t)]) w e w') := Lib.hid (fun e w' h => LPost.q h rfl HB.out HB.out.size)
  generalize un 4098 0 l [(s, t)] = O at HQ ⊢
  go_enter Try.func18, Try.ntmps18
  go_wp2_with (rw [← HW.out]; go_at_call 21; refine HC.out.mono ?_; clear HC; intro e w5 hp; replace hp := HQ.out _ _ hp; clear HQ; obtain ⟨ra, rb, rc, rfl⟩ := hp.form; have hp := Lib.hid hp)
  refine bodyPost_ret (v := .tuple #[ra, rb, rc]) (by simp [results, Try.results18, go_sem]) rfl ?_
  exact hp.out
end Go.Proofs.Ytdflckjnpgbjlaa

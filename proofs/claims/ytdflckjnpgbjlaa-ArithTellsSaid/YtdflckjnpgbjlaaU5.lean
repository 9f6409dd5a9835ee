/- Unification: the entry. Conditions: the arguments read; the bindings make no circle; terms of at most a million nodes. -/
import Derived.Test.YtdflckjnpgbjlaaU4
import Derived.Defers
import Derived.Recover
set_option linter.unusedVariables false
set_option maxRecDepth 20000
set_option linter.unusedSimpArgs false
namespace Go.Proofs.Ytdflckjnpgbjlaa
open Go.RowKit

/-- The deferred call: nothing to recover. -/
theorem catch_idle (p6 p7 p8 : Addr) (w : World) :
    CallsD Try.prog 57 #[.pointer (some p6), .pointer (some p7), .pointer (some p8)] .returning w fun e u' w' => e = .returned (.tuple #[]) ∧ u' = .returning ∧ w' = w := by
  refine callsD_of_wpS Try.func57 rfl fun c₀ cs hu => ?_
  apply wpS_seq
  apply wpS_region
  simp [wpOpsS, go_sem, recoverD, hu, Try.ntmps57, Exit.thenS]
  apply wpS_seq
  apply wpS_region
  simp [wpOpsS, go_sem, Exit.thenS]
  refine wpS_cond (t := false) (by simp [Act.eval, Array.replicate]) ?_
  simp only [Bool.false_eq_true, if_false]
  refine wpS_of_wp (wp_skip ?_)
  cases c₀
  simp_all [bodyPostS, results, Try.results57]
theorem Try.fullAs (w : World) : (Instr.typeAssert (Value.iface 93 (Value.agg #[])) 20 93 true).run Try.prog w = .ok (.tuple #[.agg #[], .bool true]) w := by
  kernel_rfl
set_option maxRecDepth 100000 in
set_option maxHeartbeats 4000000 in
/-- The deferred call: the panic of too many visits. -/
theorem catch_full (p6 p7 p8 : Nat) (h67 : p6 ≠ p7) (h68 : p6 ≠ p8) (h78 : p7 ≠ p8) (v6 v7 v8 : Value) (older : List PanicEntry) (w : World)
    (h6 : w.heap[p6]? = some (.cells #[v6] 28 (0, 0))) (h7 : w.heap[p7]? = some (.cells #[v7] 4 (0, 0))) (h8 : w.heap[p8]? = some (.cells #[v8] 29 (0, 0))) :
    CallsD Try.prog 57 #[.pointer (some ⟨p6, 0, none⟩), .pointer (some ⟨p7, 0, none⟩), .pointer (some ⟨p8, 0, none⟩)] (.panicking ({ v := .iface 93 (.agg #[]), recovered := false } :: older)) w fun e u' w' =>
      e = .returned (.tuple #[]) ∧ u' = .panicking ({ v := .iface 93 (.agg #[]), recovered := true } :: older) ∧ w' = (((w.alloc (.cells #[] 93)).setCell ⟨p6, 0, none⟩ (.pointer none)).setCell ⟨p7, 0, none⟩ (.bool false)).setCell ⟨p8, 0, none⟩ (.int .i64 31) := by
  refine callsD_of_wpS Try.func57 rfl fun c₀ cs hu => ?_
  apply wpS_seq
  apply wpS_region
  simp [wpOpsS, go_sem, recoverD, hu, Try.ntmps57, Exit.thenS]
  apply wpS_seq
  apply wpS_region
  simp [wpOpsS, go_sem, Exit.thenS]
  refine wpS_cond (t := true) (by simp [Act.eval, Array.replicate]) ?_
  simp only [if_true]
  refine wpS_of_wp ?_
  have hta := Try.fullAs
  have hB := (Below.refl _ w).alloc (Nat.le_refl _) (.cells #[] 93)
  have h6' := block_below hB (Array.getElem?_eq_some_iff.1 h6).1 h6
  have h7' := block_below hB (Array.getElem?_eq_some_iff.1 h7).1 h7
  have h8' := block_below hB (Array.getElem?_eq_some_iff.1 h8).1 h8
  obtain ⟨c6, f6⟩ := one_cell h6'
  obtain ⟨c7, f7⟩ := one_cell h7'
  obtain ⟨c8, f8⟩ := one_cell h8'
  clear hB h6' h7' h8' h6 h7 h8
  go_wp2
  simp [bodyPostS, results, Try.results57]
theorem Lists_nil (vX vY : Value) (w : World) : Calls Try.prog 21 #[.pointer none, vX, vY] w fun e w' => e = .returned (.tuple #[.pointer none, .bool false, .int .i64 2]) ∧ Below w.heap.size w w' := by
  have hb : Below w.heap.size w (((w.alloc (.cells #[.pointer none] 28)).alloc (.cells #[.bool false] 4)).alloc (.cells #[.int .i64 2] 29)) := (((Below.refl _ w).alloc (Nat.le_refl _) _).alloc (by simp) _).alloc (by simp; omega) _
  go_enter_defers Try.func21, Try.ntmps21
  go_wp2
  simp [bodyPostD, Leaves, settle, results, Try.results21, go_sem]
  exact hb
mutual
theorem TmK.aside {w : World} {ok : Nat → Prop} {m : Nat} (hm : ∀ o k, w.cell? ⟨m, o, none⟩ ≠ some (.int .u8 k)) : ∀ (t : Tm) (cs : List Value), TmK w ok t cs → TmK w (fun b => ok b ∧ b ≠ m) t cs
  | ⟨k, s, n, l⟩, cs, h => by
    simp only [TmK] at h ⊢
    obtain ⟨A, c, e, h1, h2, h3⟩ := h
    refine ⟨A, c, e, h1, h2, ?_⟩
    by_cases hx : l = []
    · refine .inl ⟨hx, ?_⟩
      rcases h3 with h3 | ⟨b, o, ha, _⟩
      · exact h3.2
      · intro hn; rw [ha] at hn; cases hn
    · obtain ⟨b, o, ha, hb, ht⟩ := h3.resolve_left (fun h => hx h.1)
      exact .inr ⟨b, o, ha, ⟨hb, TmL.head_aside hm ht hx⟩, TmL.aside hm l b o ht⟩
theorem TmL.aside {w : World} {ok : Nat → Prop} {m : Nat} (hm : ∀ o k, w.cell? ⟨m, o, none⟩ ≠ some (.int .u8 k)) : ∀ (l : List Tm) (b o : Nat), TmL w ok l b o → TmL w (fun b => ok b ∧ b ≠ m) l b o
  | [], _, _, _ => by simp only [TmL]
  | t :: ts, b, o, h => by
    simp only [TmL] at h ⊢
    obtain ⟨⟨cs, hk, hc⟩, hr⟩ := h
    exact ⟨⟨cs, TmK.aside hm t cs hk, hc⟩, TmL.aside hm ts b (o + 4) hr⟩
theorem TmL.head_aside {w : World} {ok : Nat → Prop} {l : List Tm} {b o m : Nat} (hm : ∀ o k, w.cell? ⟨m, o, none⟩ ≠ some (.int .u8 k)) (h : TmL w ok l b o) (hx : l ≠ []) : b ≠ m := by
  cases l with
  | nil => exact absurd rfl hx
  | cons t ts =>
    simp only [TmL] at h
    obtain ⟨⟨cs, hk, hc⟩, _⟩ := h
    obtain ⟨u, rfl, _⟩ := TmK_iff.1 hk
    rintro rfl
    exact hm o _ (by simpa using hc 0 _ rfl)
end
theorem Sub.aside {w : World} {ok : Nat → Prop} {l : Bs} {p b m : Nat} (hm : ∀ o k, w.cell? ⟨m, o, none⟩ ≠ some (.int .u8 k)) (h : Sub w ok l p b) : Sub w (fun k => ok k ∧ k ≠ m) l p b := by
  obtain ⟨h1, ⟨M, hM, hM2⟩, h3, h4⟩ := h
  refine ⟨h1, ⟨M, hM, fun n => ⟨(hM2 n).1, fun t hn => ?_⟩⟩, h3, h4⟩
  obtain ⟨v, hv, u, e, hs⟩ := (hM2 n).2 t hn
  subst e
  have := TmK.aside hm t _ (TmK_iff.2 ⟨u, rfl, hs⟩)
  obtain ⟨u', e', hs'⟩ := TmK_iff.1 this
  injection e' with _ e'
  injection e' with _ e'
  injection e' with _ e'
  injection e' with e' _
  subst e'
  exact ⟨_, hv, u, rfl, hs'⟩
theorem Leaves.res {P : Program} {fn : Go.Func} {R : Ending → World → Prop} {t t' : Array Value} (h : ∀ w, (results fn t).run P w = (results fn t').run P w) : ∀ (ds : List Deferred) (u : FrameMode) (w : World), Leaves P fn t R ds u w → Leaves P fn t' R ds u w
  | [], .returning, w, hl => by obtain ⟨v, h1, h2⟩ := hl; exact ⟨v, (h w).symm.trans h1, h2⟩
  | [], .panicking _, _, hl => hl
  | [], .run, _, hl => hl
  | d :: ds, u, w, hl => by
    obtain ⟨hu, fv, cap, f, args, h1, h2, h3⟩ := hl
    refine ⟨hu, fv, cap, f, args, h1, h2, h3.mono ?_⟩
    rintro e u' w' he
    match e, he with
    | .returned _, he => exact Leaves.res h ds _ _ he
    | .panicked _, he => exact Leaves.res h ds _ _ he
    | .outgrown, he => exact he
theorem put_still {R : Ending → World → Prop} (d : Nat) (hd : d ≠ 6 ∧ d ≠ 7 ∧ d ≠ 8) (v : Value) (c : List PanicEntry) (a : Act) (w : World) (h : bodyPostD Try.prog Try.f21 R (.panic c) (a.put (some d) v) w) : bodyPostD Try.prog Try.f21 R (.panic c) a w := by
  refine Leaves.res (fun W => ?_) _ _ _ h
  obtain ⟨h6, h7, h8⟩ := hd
  simp [results, Try.results21, Act.put, Array.getElem?_setIfInBounds, h6, h7, h8]
/-- What Lists leaves behind. -/
def LPost (N : Nat) (l : Bs) (X Y : List Tm) (w : World) (e : Ending) (w' : World) : Prop :=
  (if X.length = Y.length then
    (match un 4098 0 l (X.zip Y) with
     | .full => e = .returned (.tuple #[.pointer none, .bool false, .int .i64 31])
     | .no => e = .returned (.tuple #[.pointer none, .bool false, .int .i64 0])
     | .yes l' _ => ∃ p' b', e = .returned (.tuple #[.pointer (some ⟨p', 0, none⟩), .bool true, .int .i64 0]) ∧ Sub w' (fun i => i < N) l' p' b' ∧ N ≤ p' ∧ N ≤ b')
   else e = .returned (.tuple #[.pointer none, .bool false, .int .i64 0])) ∧ Below N w w'
theorem one_not {w : World} {m : Nat} {v : Value} {t : TypeId} (h : w.heap[m]? = some (.cells #[v] t (0, 0))) (hv : ∀ k, v ≠ .int .u8 k) (o : Nat) (k : Int) : w.cell? ⟨m, o, none⟩ ≠ some (.int .u8 k) := by
  intro hc
  unfold World.cell? at hc
  simp only [h] at hc
  cases o with
  | zero => simp at hc; exact hv _ hc
  | succ o => simp at hc
/-- The three named results. -/
structure Nm (B : Nat) (a b c : Value) (w : World) : Prop where
  h6 : w.heap[B]? = some (.cells #[a] 28 (0, 0))
  h7 : w.heap[B + 1]? = some (.cells #[b] 4 (0, 0))
  h8 : w.heap[B + 2]? = some (.cells #[c] 29 (0, 0))
theorem Nm.below {B N : Nat} {a b c : Value} {w w' : World} (h : Nm B a b c w) (hb : Below N w w') (hN : B + 2 < N) : Nm B a b c w' :=
  ⟨(hb.block _ (by omega)).trans h.h6, (hb.block _ (by omega)).trans h.h7, (hb.block _ (by omega)).trans h.h8⟩
def set3 (B : Nat) (a b c : Value) (w : World) : World := (((w.setCell ⟨B, 0, none⟩ a).setCell ⟨B + 1, 0, none⟩ b).setCell ⟨B + 2, 0, none⟩ c)
theorem set3_other (B : Nat) (a b c : Value) (w : World) (k : Nat) (h : k ≠ B ∧ k ≠ B + 1 ∧ k ≠ B + 2) : (set3 B a b c w).heap[k]? = w.heap[k]? := by
  unfold set3
  rw [Below.heap_setCell _ _ _ _ h.2.2, Below.heap_setCell _ _ _ _ h.2.1, Below.heap_setCell _ _ _ _ h.1]
theorem Nm.set {B : Nat} {a b c a' b' c' : Value} {w : World} (h : Nm B a b c w) : Nm B a' b' c' (set3 B a' b' c' w) := by
  unfold set3
  refine ⟨?_, ?_, ?_⟩
  · rw [Below.heap_setCell _ _ _ _ (by show B ≠ B + 2; omega), Below.heap_setCell _ _ _ _ (by show B ≠ B + 1; omega)]; exact one_set h.h6
  · rw [Below.heap_setCell _ _ _ _ (by show B + 1 ≠ B + 2; omega)]
    exact one_set ((Below.heap_setCell _ _ _ _ (by show B + 1 ≠ B; omega)).trans h.h7)
  · exact one_set ((Below.heap_setCell _ _ _ _ (by show B + 2 ≠ B + 1; omega)).trans ((Below.heap_setCell _ _ _ _ (by show B + 2 ≠ B; omega)).trans h.h8))
theorem set3_below (B : Nat) (a b c : Value) (w : World) : Below B w (set3 B a b c w) :=
  ⟨rfl, rfl, rfl, by simp [set3, World.setCell], fun k hk => set3_other B a b c w k ⟨by omega, by omega, by omega⟩⟩
theorem Sub.set3 {B : Nat} {a b c a' b' c' : Value} {w : World} {l : Bs} {p q : Nat} (h : Sub w (fun i => i < B + 3) l p q) (hn : Nm B a b c w) (ha : ∀ k, a ≠ .int .u8 k) (hb : ∀ k, b ≠ .int .u8 k) (hc : ∀ k, c ≠ .int .u8 k) (hp : B + 3 ≤ p) (hq : B + 3 ≤ q) : Sub (set3 B a' b' c' w) (fun i => i < B) l p q := by
  have h1 := Sub.aside (one_not hn.h8 hc) (Sub.aside (one_not hn.h7 hb) (Sub.aside (one_not hn.h6 ha) h))
  have h2 := h1.move (w' := Go.Proofs.Ytdflckjnpgbjlaa.set3 B a' b' c' w) (set3_other _ _ _ _ _ _ ⟨by omega, by omega, by omega⟩) (set3_other _ _ _ _ _ _ ⟨by omega, by omega, by omega⟩) (fun t v ⟨u, e, hs⟩ => ⟨u, e, Kd.S.move (fun k hk => set3_other _ _ _ _ _ _ ⟨hk.1.1.2, hk.1.2, hk.2⟩) hs⟩)
  exact h2.mono (fun k hk => by omega)
theorem LPost.full {N : Nat} {l : Bs} {X Y : List Tm} {w w' : World} (h : X.length = Y.length) (hu : un 4098 0 l (X.zip Y) = .full) (hb : Below N w w') : LPost N l X Y w (.returned (.tuple #[.pointer none, .bool false, .int .i64 31])) w' := by
  unfold LPost; rw [if_pos h, hu]; exact ⟨rfl, hb⟩
theorem LPost.no {N : Nat} {l : Bs} {X Y : List Tm} {w w' : World} (h : X.length = Y.length) (hu : un 4098 0 l (X.zip Y) = .no) (hb : Below N w w') : LPost N l X Y w (.returned (.tuple #[.pointer none, .bool false, .int .i64 0])) w' := by
  unfold LPost; rw [if_pos h, hu]; exact ⟨rfl, hb⟩
theorem LPost.yes {N n : Nat} {l l' : Bs} {X Y : List Tm} {w w' : World} {p' b' : Nat} (h : X.length = Y.length) (hu : un 4098 0 l (X.zip Y) = .yes l' n) (hb : Below N w w') (hs : Sub w' (fun i => i < N) l' p' b') (hp : N ≤ p') (hq : N ≤ b') : LPost N l X Y w (.returned (.tuple #[.pointer (some ⟨p', 0, none⟩), .bool true, .int .i64 0])) w' := by
  unfold LPost; rw [if_pos h, hu]; exact ⟨⟨p', b', rfl, hs, hp, hq⟩, hb⟩
set_option maxRecDepth 100000 in
set_option maxHeartbeats 8000000 in
theorem Lists_c (l : Bs) (p b : Nat) (X Y : List Tm) (vX vY : Value) (w : World) (ok okX okY : Nat → Prop) (hs : Sub w ok l p b) (hX : Kd.tm.S w okX X vX) (hY : Kd.tm.S w okY Y vY)
    (wX : WfL X) (wY : WfL Y) (zX : ∀ x ∈ X, x.siz ≤ 1000000) (zY : ∀ x ∈ Y, x.siz ≤ 1000000) (hsm : ∀ n t, ofB l n = some t → t.siz ≤ 1000000) (hl0 : l.length ≤ 900000) (hlX : X.length ≤ 1000000) :
    Calls Try.prog 21 #[.pointer (some ⟨p, 0, none⟩), vX, vY] w (LPost w.heap.size l X Y w) := by
  have hmf : ∀ (fn : Go.Fn) (first cap : Array Value) (w : World), (Instr.makeFunc fn first cap).run Try.prog w = .ok (.func fn first cap) w := fun _ _ _ _ => rfl
  replace hX := hX.bound
  replace hY := hY.bound
  replace hs := hs.bound
  obtain ⟨A1, c1, rfl, hl1, hc1, hA1⟩ := hX
  obtain ⟨A2, c2, rfl, hl2, hc2, hA2⟩ := hY
  unfold maxLen at hc1 hc2
  by_cases hlen : X.length = Y.length
  · have hne : ((X.length : Int) != (Y.length : Int)) = false := by simp [hlen]
    have HLEN := Lib.hid hlen
    have HA1 := Lib.hid hA1
    have HA2 := Lib.hid hA2
    have HS := Lib.hid hs
    have HZX := Lib.hid zX
    have HZY := Lib.hid zY
    have HSM := Lib.hid hsm
    have HWX := Lib.hid wX
    have HWY := Lib.hid wY
    clear hlen hA1 hA2 hs zX zY hsm wX wY
    obtain ⟨W3, hW3⟩ : ∃ W3, W3 = (((w.alloc (.cells #[.pointer none] 28)).alloc (.cells #[.bool false] 4)).alloc (.cells #[.int .i64 0] 29)) := ⟨_, rfl⟩
    have hB3 : Below w.heap.size w W3 := by rw [hW3]; exact (((Below.refl _ w).alloc (Nat.le_refl _) _).alloc (by simp) _).alloc (by simp; omega) _
    have hz3 : W3.heap.size = w.heap.size + 3 := by rw [hW3]; simp
    have h6 : W3.heap[w.heap.size]? = some (.cells #[.pointer none] 28 (0, 0)) := by rw [hW3]; exact (Below.heap_alloc _ _ _ (by simp; omega)).trans ((Below.heap_alloc _ _ _ (by simp)).trans (heap_new w _))
    have h7 : W3.heap[w.heap.size + 1]? = some (.cells #[.bool false] 4 (0, 0)) := by rw [hW3]; exact (Below.heap_alloc _ _ _ (by simp)).trans (heap_at _ _ _ (by simp))
    have h8 : W3.heap[w.heap.size + 2]? = some (.cells #[.int .i64 0] 29 (0, 0)) := by rw [hW3]; exact heap_at _ _ _ (by simp)
    have H6 := Lib.hid h6
    have H7 := Lib.hid h7
    have H8 := Lib.hid h8
    have HB3 := Lib.hid hB3
    have HW3 := Lib.hid hW3
    clear hB3 h6 h7 h8 hW3
    go_enter_defers Try.func21, Try.ntmps21
    go_wp2
    rw [← HW3.out]
    go_loopw [9, 22] (fun o i wr => ∃ j : Nat, j ≤ X.length ∧ i = .int .i64 j ∧ Hid (Kd.pp.Own 97 wr W3.heap.size (fun i => i < w.heap.size) ((X.zip Y).take j) o) ∧ Below W3.heap.size W3 wr) (fun _ i _ => X.length - (intOf i).toNat)
    case atStart => exact ⟨0, Nat.zero_le _, rfl, Lib.hid (by simpa using Kd.Own.nil Kd.pp _ _ _ _), Below.refl _ _⟩
    case round =>
      obtain ⟨j, hj, rfl, hO, hb⟩ := hrel
      have hbr := hb.size
      by_cases hlt : j < X.length
      · have hlt' : j < Y.length := by rw [← HLEN.out]; exact hlt
        obtain ⟨bb, o, u, rfl, hok, hlo, h0, h1, h2, h3, h4⟩ := tm_elem HA1.out hlt
        obtain ⟨bb', o', u', rfl, hok', hlo', h0', h1', h2', h3', h4'⟩ := tm_elem HA2.out hlt'
        have hbw : Below w.heap.size w wr := HB3.out.trans (hb.mono (by omega))
        have g0 := cell_below hbw h0 hlo
        have g1 := cell_below hbw h1 hlo
        have g2 := cell_below hbw h2 hlo
        have g3 := cell_below hbw h3 hlo
        have g0' := cell_below hbw h0' hlo'
        have g1' := cell_below hbw h1' hlo'
        have g2' := cell_below hbw h2' hlo'
        have g3' := cell_below hbw h3' hlo'
        have k4 := Lib.hid (h4.below hbw)
        have k4' := Lib.hid (h4'.below hbw)
        have hzl : j < (X.zip Y).length := by rw [List.length_zip]; omega
        have HMX := Lib.hid (show (X.zip Y).take (j + 1) = (X.zip Y).take j ++ [(X[j], Y[j])] by rw [take_succ_at _ hzl, List.getElem_zip])
        have HML := Lib.hid (show ((X.zip Y).take j).length = j by rw [List.length_take]; omega)
        have HLT := Lib.hid (Kd.Own.lt hO.out)
        have HS10 : Hid (∀ W, Below w.heap.size w W → (W.cell? ⟨bb, o + j * 4, none⟩ = some (.int .u8 X[j].k) ∧ W.cell? ⟨bb, o + j * 4 + 1, none⟩ = some (.string X[j].s) ∧ W.cell? ⟨bb, o + j * 4 + 2, none⟩ = some (.int .i64 X[j].n) ∧ W.cell? ⟨bb, o + j * 4 + 3, none⟩ = some u ∧ W.cell? ⟨bb', o' + j * 4, none⟩ = some (.int .u8 Y[j].k) ∧ W.cell? ⟨bb', o' + j * 4 + 1, none⟩ = some (.string Y[j].s) ∧ W.cell? ⟨bb', o' + j * 4 + 2, none⟩ = some (.int .i64 Y[j].n) ∧ W.cell? ⟨bb', o' + j * 4 + 3, none⟩ = some u')) := Lib.hid (fun W hW => ⟨cell_below hW h0 (cell_lt h0), cell_below hW h1 (cell_lt h1), cell_below hW h2 (cell_lt h2), cell_below hW h3 (cell_lt h3), cell_below hW h0' (cell_lt h0'), cell_below hW h1' (cell_lt h1'), cell_below hW h2' (cell_lt h2'), cell_below hW h3' (cell_lt h3')⟩)
        clear h0 h1 h2 h3 h0' h1' h2' h3' h4 h4' hzl
        generalize X[j] = x1 at g0 g1 g2 g3 k4 HMX HS10
        generalize Y[j] = x2 at g0' g1' g2' g3' k4' HMX HS10
        go_wp2
        refine wp_region_held_drew (S := (fun W => W.cell? ⟨bb, o + j * 4, none⟩ = some (.int .u8 x1.k) ∧ W.cell? ⟨bb, o + j * 4 + 1, none⟩ = some (.string x1.s) ∧ W.cell? ⟨bb, o + j * 4 + 2, none⟩ = some (.int .i64 x1.n) ∧ W.cell? ⟨bb, o + j * 4 + 3, none⟩ = some u ∧ W.cell? ⟨bb', o' + j * 4, none⟩ = some (.int .u8 x2.k) ∧ W.cell? ⟨bb', o' + j * 4 + 1, none⟩ = some (.string x2.s) ∧ W.cell? ⟨bb', o' + j * 4 + 2, none⟩ = some (.int .i64 x2.n) ∧ W.cell? ⟨bb', o' + j * 4 + 3, none⟩ = some u')) (by kernel_rfl) ?_ (fun hHeld => ?_)
        · exact HS10.out _ hbw.drew
        change wpAnyH _ .any _ _ _ 13 (Array.replicate 13 false) _ _
        refine wpAnyH_take (i := 0) (oi := ⟨some 25, _, _, _, _, _⟩) (v := ?_) rfl (by kernel_rfl) (by kernel_rfl) (by kernel_rfl) (fun c a w h => put_still 25 (by decide) _ c a w h) (Or.inl ⟨by rfl, ?_⟩) (by assumption) ?_
        rotate_left
        · (intro w hSw; (try dsimp only at hSw); go_simp; try (with_reducible rfl))
        (try simp only [Act.put, List.setIfInBounds_toArray, List.set_cons_zero, List.set_cons_succ])
        refine wpAnyH_take (i := 1) (oi := ⟨some 26, _, _, _, _, _⟩) (v := ?_) rfl (by kernel_rfl) (by kernel_rfl) (by kernel_rfl) (fun c a w h => put_still 26 (by decide) _ c a w h) (Or.inl ⟨by rfl, ?_⟩) (by assumption) ?_
        rotate_left
        · (intro w hSw; (try dsimp only at hSw); go_simp; try (with_reducible rfl))
        (try simp only [Act.put, List.setIfInBounds_toArray, List.set_cons_zero, List.set_cons_succ])
        refine wpAnyH_take (i := 2) (oi := ⟨some 27, _, _, _, _, _⟩) (v := ?_) rfl (by kernel_rfl) (by kernel_rfl) (by kernel_rfl) (fun c a w h => put_still 27 (by decide) _ c a w h) (Or.inl ⟨by rfl, ?_⟩) (by assumption) ?_
        rotate_left
        · (intro w hSw; (try dsimp only at hSw); go_simp; try (with_reducible rfl))
        (try simp only [Act.put, List.setIfInBounds_toArray, List.set_cons_zero, List.set_cons_succ])
        refine wpAnyH_take (i := 3) (oi := ⟨some 28, _, _, _, _, _⟩) (v := ?_) rfl (by kernel_rfl) (by kernel_rfl) (by kernel_rfl) (fun c a w h => put_still 28 (by decide) _ c a w h) (Or.inl ⟨by rfl, ?_⟩) (by assumption) ?_
        rotate_left
        · (intro w hSw; (try dsimp only at hSw); go_simp; try (with_reducible rfl))
        (try simp only [Act.put, List.setIfInBounds_toArray, List.set_cons_zero, List.set_cons_succ])
        refine wpAnyH_take (i := 4) (oi := ⟨some 29, _, _, _, _, _⟩) (v := ?_) rfl (by kernel_rfl) (by kernel_rfl) (by kernel_rfl) (fun c a w h => put_still 29 (by decide) _ c a w h) (Or.inl ⟨by rfl, ?_⟩) (by assumption) ?_
        rotate_left
        · (intro w hSw; (try dsimp only at hSw); go_simp; try (with_reducible rfl))
        (try simp only [Act.put, List.setIfInBounds_toArray, List.set_cons_zero, List.set_cons_succ])
        refine wpAnyH_take (i := 5) (oi := ⟨some 30, _, _, _, _, _⟩) (v := ?_) rfl (by kernel_rfl) (by kernel_rfl) (by kernel_rfl) (fun c a w h => put_still 30 (by decide) _ c a w h) (Or.inl ⟨by rfl, ?_⟩) (by assumption) ?_
        rotate_left
        · (intro w hSw; (try dsimp only at hSw); go_simp; try (with_reducible rfl))
        (try simp only [Act.put, List.setIfInBounds_toArray, List.set_cons_zero, List.set_cons_succ])
        refine wpAnyH_take (i := 6) (oi := ⟨some 31, _, _, _, _, _⟩) (v := ?_) rfl (by kernel_rfl) (by kernel_rfl) (by kernel_rfl) (fun c a w h => put_still 31 (by decide) _ c a w h) (Or.inl ⟨by rfl, ?_⟩) (by assumption) ?_
        rotate_left
        · (intro w hSw; (try dsimp only at hSw); go_simp; try (with_reducible rfl))
        (try simp only [Act.put, List.setIfInBounds_toArray, List.set_cons_zero, List.set_cons_succ])
        refine wpAnyH_take (i := 7) (oi := ⟨some 32, _, _, _, _, _⟩) (v := ?_) rfl (by kernel_rfl) (by kernel_rfl) (by kernel_rfl) (fun c a w h => put_still 32 (by decide) _ c a w h) (Or.inl ⟨by rfl, ?_⟩) (by assumption) ?_
        rotate_left
        · (intro w hSw; (try dsimp only at hSw); go_simp; try (with_reducible rfl))
        (try simp only [Act.put, List.setIfInBounds_toArray, List.set_cons_zero, List.set_cons_succ])
        refine wpAnyH_take (i := 8) (oi := ⟨some 33, _, _, _, _, _⟩) (v := ?_) rfl (by kernel_rfl) (by kernel_rfl) (by kernel_rfl) (fun c a w h => put_still 33 (by decide) _ c a w h) (Or.inl ⟨by rfl, ?_⟩) (by assumption) ?_
        rotate_left
        · (intro w hSw; (try dsimp only at hSw); go_simp; try (with_reducible rfl))
        (try simp only [Act.put, List.setIfInBounds_toArray, List.set_cons_zero, List.set_cons_succ])
        refine wpAnyH_take (i := 9) (oi := ⟨some 34, _, _, _, _, _⟩) (v := ?_) rfl (by kernel_rfl) (by kernel_rfl) (by kernel_rfl) (fun c a w h => put_still 34 (by decide) _ c a w h) (Or.inl ⟨by rfl, ?_⟩) (by assumption) ?_
        rotate_left
        · (intro w hSw; (try dsimp only at hSw); go_simp; try (with_reducible rfl))
        (try simp only [Act.put, List.setIfInBounds_toArray, List.set_cons_zero, List.set_cons_succ])
        refine wpAnyH_ready (rs := [10]) (by kernel_rfl) (by simp) ?_
        refine AllReadyH.cons (o := ⟨some 35, _, _, _, _, _⟩) rfl (fun K hK => ?_) AllReadyH.nil
        go_simp
        refine hK.out _ _ (HS10.out _ (hbw.drew.alloc (by simp only [World.size_drew]; omega) _)) (fun hHeld => ?_)
        clear hK K
        (try simp only [Act.put, List.setIfInBounds_toArray, List.set_cons_zero, List.set_cons_succ])
        refine wpAnyH_ready (rs := [11]) (by kernel_rfl) (by simp) ?_
        refine AllReadyH.cons (o := ⟨some 36, _, _, _, _, _⟩) rfl (fun K hK => ?_) AllReadyH.nil
        refine if_t (by rfl) (opwp_of_list (ops := #[]) rfl ?_)
        refine Kd.append Kd.pp (W := wr.drew) W3.heap.size (fun i => i < w.heap.size) rfl (.tmp 25) (.tmp 35) 95 97 (.agg #[.int .u8 0, .string ⟨#[]⟩, .int .i64 0, .slice none 0 0, .int .u8 0, .string ⟨#[]⟩, .int .i64 0, .slice none 0 0]) 112 rfl Try.underlying95 Try.infoP rfl (by decide) _ ((X.zip Y).take j) (x1, x2) [.int .u8 x1.k, .string x1.s, .int .i64 x1.n, u, .int .u8 x2.k, .string x2.s, .int .i64 x2.n, u'] rfl rfl ?hy ?HO2 ?hbase2 ?hl2 ?_
        case hy => exact ⟨[.int .u8 x1.k, .string x1.s, .int .i64 x1.n, u], [.int .u8 x2.k, .string x2.s, .int .i64 x2.n, u'], rfl, TmK_iff.2 ⟨_, rfl, (k4.out.below (Below.refl _ _).drew).mono (fun i hi => ⟨hi.2, fun e => by have := (HLT.out _ e.symm).1; have := hi.2; omega⟩)⟩, TmK_iff.2 ⟨_, rfl, (k4'.out.below (Below.refl _ _).drew).mono (fun i hi => ⟨hi.2, fun e => by have := (HLT.out _ e.symm).1; have := hi.2; omega⟩)⟩⟩
        case HO2 => exact Kd.Own.below (Below.refl _ _).drew hO.out
        case hbase2 => simp only [World.size_drew]; omega
        case hl2 => rw [HML.out]; omega
        intro v1 w2 hO1 hg1 hat1
        obtain ⟨A3, c3, hv1⟩ := Kd.Own.form hO1
        rw [List.length_append, HML.out, List.length_singleton] at hv1
        subst hv1
        have hb2 : Below W3.heap.size W3 w2 := below_of_grown (gfresh' (gnone hb.drew) hg1 (fun k hk => (HLT.out k hk).1))
        change K _ _
        refine hK.out _ _ (HS10.out _ (HB3.out.trans (hb2.mono (by omega)))) (fun hHeld => ?_)
        clear hK K
        (try simp only [Act.put, List.setIfInBounds_toArray, List.set_cons_zero, List.set_cons_succ])
        refine wpAnyH_take (i := 12) (oi := ⟨some 9, _, _, _, _, _⟩) (v := ?_) rfl (by kernel_rfl) (by kernel_rfl) (by kernel_rfl) (fun c a w h => put_still 9 (by decide) _ c a w h) (Or.inl ⟨by rfl, ?_⟩) (by assumption) ?_
        rotate_left
        · (intro w hSw; (try dsimp only at hSw); go_simp; try (with_reducible rfl))
        (try simp only [Act.put, List.setIfInBounds_toArray, List.set_cons_zero, List.set_cons_succ])
        refine wpAnyH_done (by kernel_rfl) ?_ _
        go_wp2_with fail
        go_roundw
        case rel => exact ⟨j + 1, by omega, by go_num, Lib.hid (by rw [HMX.out]; exact hO1), hb2⟩
        case measure => simp [intOf]; omega
      · rw [List.take_of_length_le (by rw [List.length_zip]; omega)] at hO
        have hbw : Below w.heap.size w wr := HB3.out.trans (hb.mono (by omega))
        have HCL := Lib.hid (sClone_c l p b wr _ ((HS.out.below hbw).mono (ok' := fun i => i < W3.heap.size) (fun i hi => by omega)))
        have HLT := Lib.hid (Kd.Own.lt hO.out)
        obtain ⟨oA, oc, ho⟩ := Kd.Own.form hO.out
        have hzl : (X.zip Y).length = X.length := by rw [List.length_zip]; have := HLEN.out; omega
        rw [hzl] at ho
        subst ho
        have HNM := Lib.hid (show Nm w.heap.size (.pointer none) (.bool false) (.int .i64 0) W3 from ⟨H6.out, H7.out, H8.out⟩)
        have hall : ∀ (p' b' : Nat) (w4 : World), Below wr.heap.size wr w4 → Sub w4 (fun i => i < W3.heap.size) l p' b' → wr.heap.size ≤ p' → wr.heap.size ≤ b' → Calls Try.prog 59 #[.pointer (some ⟨w4.heap.size, 0, none⟩), .slice oA X.length oc] (w4.alloc (.cells #[.pointer (some ⟨p', 0, none⟩), .int .i64 0] 100)) (AllPost W3.heap.size w4.heap.size p' b' (w4.alloc (.cells #[.pointer (some ⟨p', 0, none⟩), .int .i64 0] 100)) (un 4098 0 l (X.zip Y))) := by
          intro p' b' w4 hb4 hs4 hp' hb'
          have hz4 := hb4.size
          have hlt4 := hs4.lt
          have hba := (Below.refl _ w4).alloc (Nat.le_refl _) (.cells #[.pointer (some ⟨p', 0, none⟩), .int .i64 0] 100)
          refine all_c W3.heap.size w4.heap.size p' b' l (X.zip Y) _ _ (by omega) (by omega) (by omega) ⟨by omega, by omega⟩ (hs4.below hba) (heap_new w4 _) ?_ (by simp only [World.size_alloc]; omega) ?_ ?_ HSM.out hl0 (by omega)
          · exact ((Kd.Own.S2 (hO.out.below (below_then hb4 hb4.size hba))).mono (fun k hk => by have := HLT.out k hk.2.symm; omega) (fun k hk => by have := hk.1; omega))
          · intro z hz
            have hz := List.of_mem_zip hz
            exact ⟨WfL_iff.1 HWX.out _ hz.1, WfL_iff.1 HWY.out _ hz.2⟩
          · intro z hz
            have hz := List.of_mem_zip hz
            exact ⟨HZX.out _ hz.1, HZY.out _ hz.2⟩
        have hbl : ∀ (p' : Nat) (w4 w6 : World), Below wr.heap.size wr w4 → Below W3.heap.size (w4.alloc (.cells #[.pointer (some ⟨p', 0, none⟩), .int .i64 0] 100)) w6 → Below W3.heap.size W3 w6 := fun p' w4 w6 hb4 hb6 => by
          have hz4 := hb4.size
          exact ((hb.trans (hb4.mono (by omega))).trans (((Below.refl _ _).alloc (Nat.le_refl _) _).mono (by omega))).trans hb6
        generalize hO2 : un 4098 0 l (X.zip Y) = O2 at hall
        have HALL := Lib.hid hall
        have HO2 := Lib.hid hO2
        have HBL := Lib.hid hbl
        clear hall hO2 hbl hO hzl
        cases O2 with
        | full =>
          go_wp2_with (first
            | (go_at_call 58; refine HCL.out.mono ?_; clear HCL; rintro e w4 ⟨⟨p', b', rfl, hs4, hp', hb'⟩, hb4⟩)
            | (go_at_call 59; refine (HALL.out p' b' w4 hb4 hs4 hp' hb').mono ?_; clear HALL; rintro e w6 ⟨rfl, hb6⟩))
          have hB6 := HBL.out p' w4 w6 hb4 hb6
          have hn6 := HNM.out.below hB6 (by omega)
          refine leaves_cons (f := 57) (args := #[.pointer (some ⟨w.heap.size, 0, none⟩), .pointer (some ⟨w.heap.size + 1, 0, none⟩), .pointer (some ⟨w.heap.size + 1 + 1, 0, none⟩)]) (by simp) (by simp [go_sem]) ?_
          have hba := (Below.refl _ w6).alloc (Nat.le_refl _) (.cells #[] 93)
          have hnb := hn6.below hba (by have := hB6.size; omega)
          have hN := hnb.set (a' := .pointer none) (b' := .bool false) (c' := .int .i64 31)
          have hBF : Below w.heap.size w (set3 w.heap.size (.pointer none) (.bool false) (.int .i64 31) (w6.alloc (.cells #[] 93))) := ((HB3.out.trans (hB6.mono (by omega))).trans (hba.mono (by have := hB6.size; omega))).trans (set3_below _ _ _ _ _)
          refine (catch_full w.heap.size (w.heap.size + 1) (w.heap.size + 2) (by omega) (by omega) (by omega) _ _ _ [] w6 hn6.h6 hn6.h7 hn6.h8).mono ?_
          rintro e u' w'' ⟨rfl, rfl, hw⟩
          replace hw : w'' = set3 w.heap.size (.pointer none) (.bool false) (.int .i64 31) (w6.alloc (.cells #[] 93)) := hw
          rw [← hw] at hN hBF
          clear hw hnb hba
          obtain ⟨q6, f6⟩ := one_cell hN.h6
          obtain ⟨q7, f7⟩ := one_cell hN.h7
          obtain ⟨q8, f8⟩ := one_cell hN.h8
          simp [Leaves, settle, results, Try.results21, go_sem, q6, q7, q8]
          exact LPost.full HLEN.out HO2.out hBF
        | no =>
          go_wp2_with (first
            | (go_at_call 58; refine HCL.out.mono ?_; clear HCL; rintro e w4 ⟨⟨p', b', rfl, hs4, hp', hb'⟩, hb4⟩)
            | (go_at_call 59; refine (HALL.out p' b' w4 hb4 hs4 hp' hb').mono ?_; clear HALL; rintro e w6 ⟨rfl, hb6⟩; have hB6 := HBL.out p' w4 w6 hb4 hb6; have hn6 := HNM.out.below hB6 (by omega); obtain ⟨q6, f6⟩ := one_cell hn6.h6; obtain ⟨q7, f7⟩ := one_cell hn6.h7; obtain ⟨q8, f8⟩ := one_cell hn6.h8))
          have hN := hn6.set (a' := .pointer none) (b' := .bool false) (c' := .int .i64 0)
          have hBF : Below w.heap.size w (set3 w.heap.size (.pointer none) (.bool false) (.int .i64 0) w6) := (HB3.out.trans (hB6.mono (by omega))).trans (set3_below _ _ _ _ _)
          change bodyPostD _ _ _ _ _ (set3 w.heap.size (.pointer none) (.bool false) (.int .i64 0) w6)
          generalize set3 w.heap.size (.pointer none) (.bool false) (.int .i64 0) w6 = WF at hN hBF ⊢
          clear q6 q7 q8 f6 f7 f8
          refine leaves_cons (f := 57) (args := #[.pointer (some ⟨w.heap.size, 0, none⟩), .pointer (some ⟨w.heap.size + 1, 0, none⟩), .pointer (some ⟨w.heap.size + 1 + 1, 0, none⟩)]) (by simp) (by simp [go_sem]) ?_
          refine (catch_idle ⟨w.heap.size, 0, none⟩ ⟨w.heap.size + 1, 0, none⟩ ⟨w.heap.size + 1 + 1, 0, none⟩ _).mono ?_
          rintro e u' w'' ⟨rfl, rfl, rfl⟩
          obtain ⟨q6, f6⟩ := one_cell hN.h6
          obtain ⟨q7, f7⟩ := one_cell hN.h7
          obtain ⟨q8, f8⟩ := one_cell hN.h8
          simp [Leaves, settle, results, Try.results21, go_sem, q6, q7, q8]
          exact LPost.no HLEN.out HO2.out hBF
        | yes l' n' =>
          go_wp2_with (first
            | (go_at_call 58; refine HCL.out.mono ?_; clear HCL; rintro e w4 ⟨⟨p', b', rfl, hs4, hp', hb'⟩, hb4⟩)
            | (go_at_call 59; refine (HALL.out p' b' w4 hb4 hs4 hp' hb').mono ?_; clear HALL; rintro e w6 ⟨⟨rfl, hs6, hr6⟩, hb6⟩; have hB6 := HBL.out p' w4 w6 hb4 hb6; have hn6 := HNM.out.below hB6 (by omega); obtain ⟨q6, f6⟩ := one_cell hn6.h6; obtain ⟨q7, f7⟩ := one_cell hn6.h7; obtain ⟨q8, f8⟩ := one_cell hn6.h8; obtain ⟨r0, r1, -, -⟩ := box2 hr6))
          have hsF := Sub.set3 (B := w.heap.size) (a' := .pointer (some ⟨p', 0, none⟩)) (b' := .bool true) (c' := .int .i64 0) (hs6.mono (fun i hi => by omega)) hn6 (by intro k h; cases h) (by intro k h; cases h) (by intro k h; injection h with h; cases h) (by omega) (by omega)
          have hN := hn6.set (a' := .pointer (some ⟨p', 0, none⟩)) (b' := .bool true) (c' := .int .i64 0)
          have hBF : Below w.heap.size w (set3 w.heap.size (.pointer (some ⟨p', 0, none⟩)) (.bool true) (.int .i64 0) w6) := (HB3.out.trans (hB6.mono (by omega))).trans (set3_below _ _ _ _ _)
          change bodyPostD _ _ _ _ _ (set3 w.heap.size (.pointer (some ⟨p', 0, none⟩)) (.bool true) (.int .i64 0) w6)
          generalize set3 w.heap.size (.pointer (some ⟨p', 0, none⟩)) (.bool true) (.int .i64 0) w6 = WF at hN hBF hsF ⊢
          clear q6 q7 q8 f6 f7 f8
          refine leaves_cons (f := 57) (args := #[.pointer (some ⟨w.heap.size, 0, none⟩), .pointer (some ⟨w.heap.size + 1, 0, none⟩), .pointer (some ⟨w.heap.size + 1 + 1, 0, none⟩)]) (by simp) (by simp [go_sem]) ?_
          refine (catch_idle ⟨w.heap.size, 0, none⟩ ⟨w.heap.size + 1, 0, none⟩ ⟨w.heap.size + 1 + 1, 0, none⟩ _).mono ?_
          rintro e u' w'' ⟨rfl, rfl, rfl⟩
          obtain ⟨q6, f6⟩ := one_cell hN.h6
          obtain ⟨q7, f7⟩ := one_cell hN.h7
          obtain ⟨q8, f8⟩ := one_cell hN.h8
          simp [Leaves, settle, results, Try.results21, go_sem, q6, q7, q8]
          exact LPost.yes HLEN.out HO2.out hBF hsF (by omega) (by omega)
  · have hne : ((X.length : Int) != (Y.length : Int)) = true := by simp; omega
    have hb : Below w.heap.size w (((w.alloc (.cells #[.pointer none] 28)).alloc (.cells #[.bool false] 4)).alloc (.cells #[.int .i64 0] 29)) := (((Below.refl _ w).alloc (Nat.le_refl _) _).alloc (by simp) _).alloc (by simp; omega) _
    have HB := Lib.hid hb
    have HX := Lib.hid hlen
    clear hb hA1 hA2 hs zX zY hsm wX wY hlen
    go_enter_defers Try.func21, Try.ntmps21
    go_wp2
    simp [bodyPostD, Leaves, settle, results, Try.results21, go_sem]
    refine ⟨?_, HB.out⟩
    rw [if_neg HX.out]
end Go.Proofs.Ytdflckjnpgbjlaa

import Derived.Test.YtgcbanljifalnaaDoorPo09
import Derived.Defers
import Derived.Recover
set_option linter.unusedVariables false
set_option maxRecDepth 20000
set_option linter.unusedSimpArgs false
/- Unification: the entry. Conditions: the arguments read; the bindings make no circle; terms of at most a million nodes. -/
namespace Go.Proofs.YtgcbanljifalnaaDoor
open Go.RowKit

/-- The deferred call: nothing to recover. -/
theorem catch_idle (p6 p7 p8 : Addr) (w : World) :
    CallsD Tryd.prog 128 #[.pointer (some p6), .pointer (some p7), .pointer (some p8)] .returning w fun e u' w' => e = .returned (.tuple #[]) ∧ u' = .returning ∧ w' = w := by
  refine callsD_of_wpS Tryd.func128 rfl fun c₀ cs hu => ?_
  apply wpS_seq
  apply wpS_region
  simp [wpOpsS, go_sem, recoverD, hu, Tryd.ntmps128, Exit.thenS]
  apply wpS_seq
  apply wpS_region
  simp [wpOpsS, go_sem, Exit.thenS]
  refine wpS_cond (t := false) (by simp [Act.eval, Array.replicate]) ?_
  simp only [Bool.false_eq_true, if_false]
  refine wpS_of_wp (wp_skip ?_)
  cases c₀
  simp_all [bodyPostS, results, Tryd.results128]
theorem Tryd.fullAs (w : World) : (Instr.typeAssert (Value.iface 148 (Value.agg #[])) 20 148 true).run Tryd.prog w = .ok (.tuple #[.agg #[], .bool true]) w := by
  kernel_rfl
set_option maxRecDepth 100000 in
set_option maxHeartbeats 4000000 in
/-- The deferred call: the panic of too many visits. -/
theorem catch_full (p6 p7 p8 : Nat) (h67 : p6 ≠ p7) (h68 : p6 ≠ p8) (h78 : p7 ≠ p8) (v6 v7 v8 : Value) (older : List PanicEntry) (w : World)
    (h6 : w.heap[p6]? = some (.cells #[v6] 41 (0, 0))) (h7 : w.heap[p7]? = some (.cells #[v7] 4 (0, 0))) (h8 : w.heap[p8]? = some (.cells #[v8] 43 (0, 0))) :
    CallsD Tryd.prog 128 #[.pointer (some ⟨p6, 0, none⟩), .pointer (some ⟨p7, 0, none⟩), .pointer (some ⟨p8, 0, none⟩)] (.panicking ({ v := .iface 148 (.agg #[]), recovered := false } :: older)) w fun e u' w' =>
      e = .returned (.tuple #[]) ∧ u' = .panicking ({ v := .iface 148 (.agg #[]), recovered := true } :: older) ∧ w' = (((w.alloc (.cells #[] 148)).setCell ⟨p6, 0, none⟩ (.pointer none)).setCell ⟨p7, 0, none⟩ (.bool false)).setCell ⟨p8, 0, none⟩ (.int .i64 31) := by
  refine callsD_of_wpS Tryd.func128 rfl fun c₀ cs hu => ?_
  apply wpS_seq
  apply wpS_region
  simp [wpOpsS, go_sem, recoverD, hu, Tryd.ntmps128, Exit.thenS]
  apply wpS_seq
  apply wpS_region
  simp [wpOpsS, go_sem, Exit.thenS]
  refine wpS_cond (t := true) (by simp [Act.eval, Array.replicate]) ?_
  simp only [if_true]
  refine wpS_of_wp ?_
  have hta := Tryd.fullAs
  have hB := (Below.refl _ w).alloc (Nat.le_refl _) (.cells #[] 148)
  have h6' := block_below hB (Array.getElem?_eq_some_iff.1 h6).1 h6
  have h7' := block_below hB (Array.getElem?_eq_some_iff.1 h7).1 h7
  have h8' := block_below hB (Array.getElem?_eq_some_iff.1 h8).1 h8
  obtain ⟨c6, f6⟩ := one_cell h6'
  obtain ⟨c7, f7⟩ := one_cell h7'
  obtain ⟨c8, f8⟩ := one_cell h8'
  clear hB h6' h7' h8' h6 h7 h8
  go_wp2
  simp [bodyPostS, results, Tryd.results128]
mutual
theorem TmK.aside {w : World} {ok : Nat → Prop} {m : Nat} (hm : ∀ o k, w.cell? ⟨m, o, none⟩ ≠ some (.int .u8 k)) : ∀ (t : Tm) (cs : List Value), TmK w ok t cs → TmK w (fun b => ok b ∧ b ≠ m) t cs
  | ⟨k, s, n, l⟩, cs, h => by
    simp only [TmK] at h ⊢
    obtain ⟨A, c, e, h1, h2, h3⟩ := h
    refine ⟨A, c, e, h1, h2, ?_⟩
    by_cases hx : l = []
    · refine .inl ⟨hx, ?_⟩
      rcases h3 with h3 | ⟨b, o, ha, _⟩
      · exact h3.2
      · intro hn; rw [ha] at hn; cases hn
    · obtain ⟨b, o, ha, hb, ht⟩ := h3.resolve_left (fun h => hx h.1)
      exact .inr ⟨b, o, ha, ⟨hb, TmL.head_aside hm ht hx⟩, TmL.aside hm l b o ht⟩
theorem TmL.aside {w : World} {ok : Nat → Prop} {m : Nat} (hm : ∀ o k, w.cell? ⟨m, o, none⟩ ≠ some (.int .u8 k)) : ∀ (l : List Tm) (b o : Nat), TmL w ok l b o → TmL w (fun b => ok b ∧ b ≠ m) l b o
  | [], _, _, _ => by simp only [TmL]
  | t :: ts, b, o, h => by
    simp only [TmL] at h ⊢
    obtain ⟨⟨cs, hk, hc⟩, hr⟩ := h
    exact ⟨⟨cs, TmK.aside hm t cs hk, hc⟩, TmL.aside hm ts b (o + 4) hr⟩
theorem TmL.head_aside {w : World} {ok : Nat → Prop} {l : List Tm} {b o m : Nat} (hm : ∀ o k, w.cell? ⟨m, o, none⟩ ≠ some (.int .u8 k)) (h : TmL w ok l b o) (hx : l ≠ []) : b ≠ m := by
  cases l with
  | nil => exact absurd rfl hx
  | cons t ts =>
    simp only [TmL] at h
    obtain ⟨⟨cs, hk, hc⟩, _⟩ := h
    obtain ⟨u, rfl, _⟩ := TmK_iff.1 hk
    rintro rfl
    exact hm o _ (by simpa using hc 0 _ rfl)
end
theorem Sub.aside {w : World} {ok : Nat → Prop} {l : Bs} {p b m : Nat} (hm : ∀ o k, w.cell? ⟨m, o, none⟩ ≠ some (.int .u8 k)) (h : Sub w ok l p b) : Sub w (fun k => ok k ∧ k ≠ m) l p b := by
  obtain ⟨h1, ⟨M, hM, hM2⟩, h3, h4⟩ := h
  refine ⟨h1, ⟨M, hM, fun n => ⟨(hM2 n).1, fun t hn => ?_⟩⟩, h3, h4⟩
  obtain ⟨v, hv, u, e, hs⟩ := (hM2 n).2 t hn
  subst e
  have := TmK.aside hm t _ (TmK_iff.2 ⟨u, rfl, hs⟩)
  obtain ⟨u', e', hs'⟩ := TmK_iff.1 this
  injection e' with _ e'
  injection e' with _ e'
  injection e' with _ e'
  injection e' with e' _
  subst e'
  exact ⟨_, hv, u, rfl, hs'⟩
theorem Leaves.res {P : Program} {fn : Go.Func} {R : Ending → World → Prop} {t t' : Array Value} (h : ∀ w, (results fn t).run P w = (results fn t').run P w) : ∀ (ds : List Deferred) (u : FrameMode) (w : World), Leaves P fn t R ds u w → Leaves P fn t' R ds u w
  | [], .returning, w, hl => by obtain ⟨v, h1, h2⟩ := hl; exact ⟨v, (h w).symm.trans h1, h2⟩
  | [], .panicking _, _, hl => hl
  | [], .run, _, hl => hl
  | d :: ds, u, w, hl => by
    obtain ⟨hu, fv, cap, f, args, h1, h2, h3⟩ := hl
    refine ⟨hu, fv, cap, f, args, h1, h2, h3.mono ?_⟩
    rintro e u' w' he
    match e, he with
    | .returned _, he => exact Leaves.res h ds _ _ he
    | .panicked _, he => exact Leaves.res h ds _ _ he
    | .outgrown, he => exact he
theorem put_still {R : Ending → World → Prop} (d : Nat) (hd : d ≠ 6 ∧ d ≠ 7 ∧ d ≠ 8) (v : Value) (c : List PanicEntry) (a : Act) (w : World) (h : bodyPostD Tryd.prog Tryd.f114 R (.panic c) (a.put (some d) v) w) : bodyPostD Tryd.prog Tryd.f114 R (.panic c) a w := by
  refine Leaves.res (fun W => ?_) _ _ _ h
  obtain ⟨h6, h7, h8⟩ := hd
  simp [results, Tryd.results114, Act.put, Array.getElem?_setIfInBounds, h6, h7, h8]
/-- What Lists leaves behind. -/
def LPost (N : Nat) (l : Bs) (X Y : List Tm) (w : World) (e : Ending) (w' : World) : Prop :=
  (if X.length = Y.length then
    (match un 4098 0 l (X.zip Y) with
     | .full => e = .returned (.tuple #[.pointer none, .bool false, .int .i64 31])
     | .no => e = .returned (.tuple #[.pointer none, .bool false, .int .i64 0])
     | .yes l' _ => ∃ p' b', e = .returned (.tuple #[.pointer (some ⟨p', 0, none⟩), .bool true, .int .i64 0]) ∧ Sub w' (fun i => i < N) l' p' b' ∧ N ≤ p' ∧ N ≤ b')
   else e = .returned (.tuple #[.pointer none, .bool false, .int .i64 0])) ∧ Below N w w'
theorem one_not {w : World} {m : Nat} {v : Value} {t : TypeId} (h : w.heap[m]? = some (.cells #[v] t (0, 0))) (hv : ∀ k, v ≠ .int .u8 k) (o : Nat) (k : Int) : w.cell? ⟨m, o, none⟩ ≠ some (.int .u8 k) := by
  intro hc
  unfold World.cell? at hc
  simp only [h] at hc
  cases o with
  | zero => simp at hc; exact hv _ hc
  | succ o => simp at hc
/-- The three named results. -/
structure Nm (B : Nat) (a b c : Value) (w : World) : Prop where
  h6 : w.heap[B]? = some (.cells #[a] 41 (0, 0))
  h7 : w.heap[B + 1]? = some (.cells #[b] 4 (0, 0))
  h8 : w.heap[B + 2]? = some (.cells #[c] 43 (0, 0))
theorem Nm.below {B N : Nat} {a b c : Value} {w w' : World} (h : Nm B a b c w) (hb : Below N w w') (hN : B + 2 < N) : Nm B a b c w' :=
  ⟨(hb.block _ (by omega)).trans h.h6, (hb.block _ (by omega)).trans h.h7, (hb.block _ (by omega)).trans h.h8⟩
def set3 (B : Nat) (a b c : Value) (w : World) : World := (((w.setCell ⟨B, 0, none⟩ a).setCell ⟨B + 1, 0, none⟩ b).setCell ⟨B + 2, 0, none⟩ c)
theorem set3_other (B : Nat) (a b c : Value) (w : World) (k : Nat) (h : k ≠ B ∧ k ≠ B + 1 ∧ k ≠ B + 2) : (set3 B a b c w).heap[k]? = w.heap[k]? := by
  unfold set3
  rw [Below.heap_setCell _ _ _ _ h.2.2, Below.heap_setCell _ _ _ _ h.2.1, Below.heap_setCell _ _ _ _ h.1]
theorem Nm.set {B : Nat} {a b c a' b' c' : Value} {w : World} (h : Nm B a b c w) : Nm B a' b' c' (set3 B a' b' c' w) := by
  unfold set3
  refine ⟨?_, ?_, ?_⟩
  · rw [Below.heap_setCell _ _ _ _ (by show B ≠ B + 2; omega), Below.heap_setCell _ _ _ _ (by show B ≠ B + 1; omega)]; exact one_set h.h6
  · rw [Below.heap_setCell _ _ _ _ (by show B + 1 ≠ B + 2; omega)]
    exact one_set ((Below.heap_setCell _ _ _ _ (by show B + 1 ≠ B; omega)).trans h.h7)
  · exact one_set ((Below.heap_setCell _ _ _ _ (by show B + 2 ≠ B + 1; omega)).trans ((Below.heap_setCell _ _ _ _ (by show B + 2 ≠ B; omega)).trans h.h8))
theorem set3_below (B : Nat) (a b c : Value) (w : World) : Below B w (set3 B a b c w) :=
  ⟨rfl, rfl, rfl, by simp [set3, World.setCell], fun k hk => set3_other B a b c w k ⟨by omega, by omega, by omega⟩⟩
theorem Sub.set3 {B : Nat} {a b c a' b' c' : Value} {w : World} {l : Bs} {p q : Nat} (h : Sub w (fun i => i < B + 3) l p q) (hn : Nm B a b c w) (ha : ∀ k, a ≠ .int .u8 k) (hb : ∀ k, b ≠ .int .u8 k) (hc : ∀ k, c ≠ .int .u8 k) (hp : B + 3 ≤ p) (hq : B + 3 ≤ q) : Sub (set3 B a' b' c' w) (fun i => i < B) l p q := by
  have h1 := Sub.aside (one_not hn.h8 hc) (Sub.aside (one_not hn.h7 hb) (Sub.aside (one_not hn.h6 ha) h))
  have h2 := h1.move (w' := Go.Proofs.YtgcbanljifalnaaDoor.set3 B a' b' c' w) (set3_other _ _ _ _ _ _ ⟨by omega, by omega, by omega⟩) (set3_other _ _ _ _ _ _ ⟨by omega, by omega, by omega⟩) (fun t v ⟨u, e, hs⟩ => ⟨u, e, Kd.S.move (fun k hk => set3_other _ _ _ _ _ _ ⟨hk.1.1.2, hk.1.2, hk.2⟩) hs⟩)
  exact h2.mono (fun k hk => by omega)
theorem LPost.full {N : Nat} {l : Bs} {X Y : List Tm} {w w' : World} (h : X.length = Y.length) (hu : un 4098 0 l (X.zip Y) = .full) (hb : Below N w w') : LPost N l X Y w (.returned (.tuple #[.pointer none, .bool false, .int .i64 31])) w' := by
  unfold LPost; rw [if_pos h, hu]; exact ⟨rfl, hb⟩
theorem LPost.no {N : Nat} {l : Bs} {X Y : List Tm} {w w' : World} (h : X.length = Y.length) (hu : un 4098 0 l (X.zip Y) = .no) (hb : Below N w w') : LPost N l X Y w (.returned (.tuple #[.pointer none, .bool false, .int .i64 0])) w' := by
  unfold LPost; rw [if_pos h, hu]; exact ⟨rfl, hb⟩
theorem LPost.yes {N n : Nat} {l l' : Bs} {X Y : List Tm} {w w' : World} {p' b' : Nat} (h : X.length = Y.length) (hu : un 4098 0 l (X.zip Y) = .yes l' n) (hb : Below N w w') (hs : Sub w' (fun i => i < N) l' p' b') (hp : N ≤ p') (hq : N ≤ b') : LPost N l X Y w (.returned (.tuple #[.pointer (some ⟨p', 0, none⟩), .bool true, .int .i64 0])) w' := by
  unfold LPost; rw [if_pos h, hu]; exact ⟨⟨p', b', rfl, hs, hp, hq⟩, hb⟩
set_option maxRecDepth 100000 in
set_option maxHeartbeats 8000000 in
theorem Lists_c (l : Bs) (p b : Nat) (X Y : List Tm) (vX vY : Value) (w : World) (ok okX okY : Nat → Prop) (hs : Sub w ok l p b) (hX : Kd.tm.S w okX X vX) (hY : Kd.tm.S w okY Y vY)
    (wX : WfL X) (wY : WfL Y) (zX : ∀ x ∈ X, x.siz ≤ 1000000) (zY : ∀ x ∈ Y, x.siz ≤ 1000000) (hsm : ∀ n t, ofB l n = some t → t.siz ≤ 1000000) (hl0 : l.length ≤ 900000) (hlX : X.length ≤ 1000000) :
    Calls Tryd.prog 114 #[.pointer (some ⟨p, 0, none⟩), vX, vY] w (LPost w.heap.size l X Y w) := by
  have hmf : ∀ (fn : Go.Fn) (first cap : Array Value) (w : World), (Instr.makeFunc fn first cap).run Tryd.prog w = .ok (.func fn first cap) w := fun _ _ _ _ => rfl
  replace hX := hX.bound
  replace hY := hY.bound
  replace hs := hs.bound
  obtain ⟨A1, c1, rfl, hl1, hc1, hA1⟩ := hX
  obtain ⟨A2, c2, rfl, hl2, hc2, hA2⟩ := hY
  unfold maxLen at hc1 hc2
  by_cases hlen : X.length = Y.length
  · have hne : ((X.length : Int) != (Y.length : Int)) = false := by simp [hlen]
    have HLEN := Lib.hid hlen
    have HA1 := Lib.hid hA1
    have HA2 := Lib.hid hA2
    have HS := Lib.hid hs
    have HZX := Lib.hid zX
    have HZY := Lib.hid zY
    have HSM := Lib.hid hsm
    have HWX := Lib.hid wX
    have HWY := Lib.hid wY
    clear hlen hA1 hA2 hs zX zY hsm wX wY
    obtain ⟨W3, hW3⟩ : ∃ W3, W3 = (((w.alloc (.cells #[.pointer none] 41)).alloc (.cells #[.bool false] 4)).alloc (.cells #[.int .i64 0] 43)) := ⟨_, rfl⟩
    have hB3 : Below w.heap.size w W3 := by rw [hW3]; exact (((Below.refl _ w).alloc (Nat.le_refl _) _).alloc (by simp) _).alloc (by simp; omega) _
    have hz3 : W3.heap.size = w.heap.size + 3 := by rw [hW3]; simp
    have h6 : W3.heap[w.heap.size]? = some (.cells #[.pointer none] 41 (0, 0)) := by rw [hW3]; exact (Below.heap_alloc _ _ _ (by simp; omega)).trans ((Below.heap_alloc _ _ _ (by simp)).trans (heap_new w _))
    have h7 : W3.heap[w.heap.size + 1]? = some (.cells #[.bool false] 4 (0, 0)) := by rw [hW3]; exact (Below.heap_alloc _ _ _ (by simp)).trans (heap_at _ _ _ (by simp))
    have h8 : W3.heap[w.heap.size + 2]? = some (.cells #[.int .i64 0] 43 (0, 0)) := by rw [hW3]; exact heap_at _ _ _ (by simp)
    have H6 := Lib.hid h6
    have H7 := Lib.hid h7
    have H8 := Lib.hid h8
    have HB3 := Lib.hid hB3
    have HW3 := Lib.hid hW3
    clear hB3 h6 h7 h8 hW3
    go_enter_defers Tryd.func114, Tryd.ntmps114
    go_wp2
    rw [← HW3.out]
    go_loopw [9, 22] (fun o i wr => ∃ j : Nat, j ≤ X.length ∧ i = .int .i64 j ∧ Hid (Kd.pp.Own 152 wr W3.heap.size (fun i => i < w.heap.size) ((X.zip Y).take j) o) ∧ Below W3.heap.size W3 wr) (fun _ i _ => X.length - (intOf i).toNat)
    case atStart => exact ⟨0, Nat.zero_le _, rfl, Lib.hid (by simpa using Kd.Own.nil Kd.pp _ _ _ _), Below.refl _ _⟩
    case round =>
      obtain ⟨j, hj, rfl, hO, hb⟩ := hrel
      have hbr := hb.size
      by_cases hlt : j < X.length
      · have hlt' : j < Y.length := by rw [← HLEN.out]; exact hlt
        obtain ⟨bb, o, u, rfl, hok, hlo, h0, h1, h2, h3, h4⟩ := tm_elem HA1.out hlt
        obtain ⟨bb', o', u', rfl, hok', hlo', h0', h1', h2', h3', h4'⟩ := tm_elem HA2.out hlt'
        have hbw : Below w.heap.size w wr := HB3.out.trans (hb.mono (by omega))
        have g0 := cell_below hbw h0 hlo
        have g1 := cell_below hbw h1 hlo
        have g2 := cell_below hbw h2 hlo
        have g3 := cell_below hbw h3 hlo
        have g0' := cell_below hbw h0' hlo'
        have g1' := cell_below hbw h1' hlo'
        have g2' := cell_below hbw h2' hlo'
        have g3' := cell_below hbw h3' hlo'
        have k4 := Lib.hid (h4.below hbw)
        have k4' := Lib.hid (h4'.below hbw)
        have hzl : j < (X.zip Y).length := by rw [List.length_zip]; omega
        have HMX := Lib.hid (show (X.zip Y).take (j + 1) = (X.zip Y).take j ++ [(X[j], Y[j])] by rw [take_succ_at _ hzl, List.getElem_zip])
        have HML := Lib.hid (show ((X.zip Y).take j).length = j by rw [List.length_take]; omega)
        have HLT := Lib.hid (Kd.Own.lt hO.out)
        have HS10 : Hid (∀ W, Below w.heap.size w W → (W.cell? ⟨bb, o + j * 4, none⟩ = some (.int .u8 X[j].k) ∧ W.cell? ⟨bb, o + j * 4 + 1, none⟩ = some (.string X[j].s) ∧ W.cell? ⟨bb, o + j * 4 + 2, none⟩ = some (.int .i64 X[j].n) ∧ W.cell? ⟨bb, o + j * 4 + 3, none⟩ = some u ∧ W.cell? ⟨bb', o' + j * 4, none⟩ = some (.int .u8 Y[j].k) ∧ W.cell? ⟨bb', o' + j * 4 + 1, none⟩ = some (.string Y[j].s) ∧ W.cell? ⟨bb', o' + j * 4 + 2, none⟩ = some (.int .i64 Y[j].n) ∧ W.cell? ⟨bb', o' + j * 4 + 3, none⟩ = some u')) := Lib.hid (fun W hW => ⟨cell_below hW h0 (cell_lt h0), cell_below hW h1 (cell_lt h1), cell_below hW h2 (cell_lt h2), cell_below hW h3 (cell_lt h3), cell_below hW h0' (cell_lt h0'), cell_below hW h1' (cell_lt h1'), cell_below hW h2' (cell_lt h2'), cell_below hW h3' (cell_lt h3')⟩)
        clear h0 h1 h2 h3 h0' h1' h2' h3' h4 h4' hzl
        generalize X[j] = x1 at g0 g1 g2 g3 k4 HMX HS10
        generalize Y[j] = x2 at g0' g1' g2' g3' k4' HMX HS10
        go_wp2
        refine wp_region_held_drew (S := (fun W => W.cell? ⟨bb, o + j * 4, none⟩ = some (.int .u8 x1.k) ∧ W.cell? ⟨bb, o + j * 4 + 1, none⟩ = some (.string x1.s) ∧ W.cell? ⟨bb, o + j * 4 + 2, none⟩ = some (.int .i64 x1.n) ∧ W.cell? ⟨bb, o + j * 4 + 3, none⟩ = some u ∧ W.cell? ⟨bb', o' + j * 4, none⟩ = some (.int .u8 x2.k) ∧ W.cell? ⟨bb', o' + j * 4 + 1, none⟩ = some (.string x2.s) ∧ W.cell? ⟨bb', o' + j * 4 + 2, none⟩ = some (.int .i64 x2.n) ∧ W.cell? ⟨bb', o' + j * 4 + 3, none⟩ = some u')) (by kernel_rfl) ?_ (fun hHeld => ?_)
        · exact HS10.out _ hbw.drew
        change wpAnyH _ .any _ _ _ 13 (Array.replicate 13 false) _ _
        refine wpAnyH_take (i := 0) (oi := ⟨some 25, _, _, _, _, _⟩) (v := ?_) rfl (by kernel_rfl) (by kernel_rfl) (by kernel_rfl) (fun c a w h => put_still 25 (by decide) _ c a w h) (Or.inl ⟨by rfl, ?_⟩) (by assumption) ?_
        rotate_left
        · (intro w hSw; (try dsimp only at hSw); go_simp; try (with_reducible rfl))
        (try simp only [Act.put, List.setIfInBounds_toArray, List.set_cons_zero, List.set_cons_succ])
        refine wpAnyH_take (i := 1) (oi := ⟨some 26, _, _, _, _, _⟩) (v := ?_) rfl (by kernel_rfl) (by kernel_rfl) (by kernel_rfl) (fun c a w h => put_still 26 (by decide) _ c a w h) (Or.inl ⟨by rfl, ?_⟩) (by assumption) ?_
        rotate_left
        · (intro w hSw; (try dsimp only at hSw); go_simp; try (with_reducible rfl))
        (try simp only [Act.put, List.setIfInBounds_toArray, List.set_cons_zero, List.set_cons_succ])
        refine wpAnyH_take (i := 2) (oi := ⟨some 27, _, _, _, _, _⟩) (v := ?_) rfl (by kernel_rfl) (by kernel_rfl) (by kernel_rfl) (fun c a w h => put_still 27 (by decide) _ c a w h) (Or.inl ⟨by rfl, ?_⟩) (by assumption) ?_
        rotate_left
        · (intro w hSw; (try dsimp only at hSw); go_simp; try (with_reducible rfl))
        (try simp only [Act.put, List.setIfInBounds_toArray, List.set_cons_zero, List.set_cons_succ])
        refine wpAnyH_take (i := 3) (oi := ⟨some 28, _, _, _, _, _⟩) (v := ?_) rfl (by kernel_rfl) (by kernel_rfl) (by kernel_rfl) (fun c a w h => put_still 28 (by decide) _ c a w h) (Or.inl ⟨by rfl, ?_⟩) (by assumption) ?_
        rotate_left
        · (intro w hSw; (try dsimp only at hSw); go_simp; try (with_reducible rfl))
        (try simp only [Act.put, List.setIfInBounds_toArray, List.set_cons_zero, List.set_cons_succ])
        refine wpAnyH_take (i := 4) (oi := ⟨some 29, _, _, _, _, _⟩) (v := ?_) rfl (by kernel_rfl) (by kernel_rfl) (by kernel_rfl) (fun c a w h => put_still 29 (by decide) _ c a w h) (Or.inl ⟨by rfl, ?_⟩) (by assumption) ?_
        rotate_left
        · (intro w hSw; (try dsimp only at hSw); go_simp; try (with_reducible rfl))
        (try simp only [Act.put, List.setIfInBounds_toArray, List.set_cons_zero, List.set_cons_succ])
        refine wpAnyH_take (i := 5) (oi := ⟨some 30, _, _, _, _, _⟩) (v := ?_) rfl (by kernel_rfl) (by kernel_rfl) (by kernel_rfl) (fun c a w h => put_still 30 (by decide) _ c a w h) (Or.inl ⟨by rfl, ?_⟩) (by assumption) ?_
        rotate_left
        · (intro w hSw; (try dsimp only at hSw); go_simp; try (with_reducible rfl))
        (try simp only [Act.put, List.setIfInBounds_toArray, List.set_cons_zero, List.set_cons_succ])
        refine wpAnyH_take (i := 6) (oi := ⟨some 31, _, _, _, _, _⟩) (v := ?_) rfl (by kernel_rfl) (by kernel_rfl) (by kernel_rfl) (fun c a w h => put_still 31 (by decide) _ c a w h) (Or.inl ⟨by rfl, ?_⟩) (by assumption) ?_
        rotate_left
        · (intro w hSw; (try dsimp only at hSw); go_simp; try (with_reducible rfl))
        (try simp only [Act.put, List.setIfInBounds_toArray, List.set_cons_zero, List.set_cons_succ])
        refine wpAnyH_take (i := 7) (oi := ⟨some 32, _, _, _, _, _⟩) (v := ?_) rfl (by kernel_rfl) (by kernel_rfl) (by kernel_rfl) (fun c a w h => put_still 32 (by decide) _ c a w h) (Or.inl ⟨by rfl, ?_⟩) (by assumption) ?_
        rotate_left
        · (intro w hSw; (try dsimp only at hSw); go_simp; try (with_reducible rfl))
        (try simp only [Act.put, List.setIfInBounds_toArray, List.set_cons_zero, List.set_cons_succ])
        refine wpAnyH_take (i := 8) (oi := ⟨some 33, _, _, _, _, _⟩) (v := ?_) rfl (by kernel_rfl) (by kernel_rfl) (by kernel_rfl) (fun c a w h => put_still 33 (by decide) _ c a w h) (Or.inl ⟨by rfl, ?_⟩) (by assumption) ?_
        rotate_left
        · (intro w hSw; (try dsimp only at hSw); go_simp; try (with_reducible rfl))
        (try simp only [Act.put, List.setIfInBounds_toArray, List.set_cons_zero, List.set_cons_succ])
        refine wpAnyH_take (i := 9) (oi := ⟨some 34, _, _, _, _, _⟩) (v := ?_) rfl (by kernel_rfl) (by kernel_rfl) (by kernel_rfl) (fun c a w h => put_still 34 (by decide) _ c a w h) (Or.inl ⟨by rfl, ?_⟩) (by assumption) ?_
        rotate_left
        · (intro w hSw; (try dsimp only at hSw); go_simp; try (with_reducible rfl))
        (try simp only [Act.put, List.setIfInBounds_toArray, List.set_cons_zero, List.set_cons_succ])
        refine wpAnyH_ready (rs := [10]) (by kernel_rfl) (by simp) ?_
        refine AllReadyH.cons (o := ⟨some 35, _, _, _, _, _⟩) rfl (fun K hK => ?_) AllReadyH.nil
        go_simp
        refine hK.out _ _ (HS10.out _ (hbw.drew.alloc (by simp only [World.size_drew]; omega) _)) (fun hHeld => ?_)
        clear hK K
        (try simp only [Act.put, List.setIfInBounds_toArray, List.set_cons_zero, List.set_cons_succ])
        refine wpAnyH_ready (rs := [11]) (by kernel_rfl) (by simp) ?_
        refine AllReadyH.cons (o := ⟨some 36, _, _, _, _, _⟩) rfl (fun K hK => ?_) AllReadyH.nil
        refine if_t (by rfl) (opwp_of_list (ops := #[]) rfl ?_)
        refine Kd.append Kd.pp (W := wr.drew) W3.heap.size (fun i => i < w.heap.size) rfl (.tmp 25) (.tmp 35) 150 152 (.agg #[.int .u8 0, .string ⟨#[]⟩, .int .i64 0, .slice none 0 0, .int .u8 0, .string ⟨#[]⟩, .int .i64 0, .slice none 0 0]) 112 rfl Tryd.underlying150 Tryd.infoP rfl (by decide) _ ((X.zip Y).take j) (x1, x2) [.int .u8 x1.k, .string x1.s, .int .i64 x1.n, u, .int .u8 x2.k, .string x2.s, .int .i64 x2.n, u'] rfl rfl ?hy ?HO2 ?hbase2 ?hl2 ?_
        case hy => exact ⟨[.int .u8 x1.k, .string x1.s, .int .i64 x1.n, u], [.int .u8 x2.k, .string x2.s, .int .i64 x2.n, u'], rfl, TmK_iff.2 ⟨_, rfl, (k4.out.below (Below.refl _ _).drew).mono (fun i hi => ⟨hi.2, fun e => by have := (HLT.out _ e.symm).1; have := hi.2; omega⟩)⟩, TmK_iff.2 ⟨_, rfl, (k4'.out.below (Below.refl _ _).drew).mono (fun i hi => ⟨hi.2, fun e => by have := (HLT.out _ e.symm).1; have := hi.2; omega⟩)⟩⟩
        case HO2 => exact Kd.Own.below (Below.refl _ _).drew hO.out
        case hbase2 => simp only [World.size_drew]; omega
        case hl2 => rw [HML.out]; omega
        intro v1 w2 hO1 hg1 hat1
        obtain ⟨A3, c3, hv1⟩ := Kd.Own.form hO1
        rw [List.length_append, HML.out, List.length_singleton] at hv1
        subst hv1
        have hb2 : Below W3.heap.size W3 w2 := below_of_grown (gfresh' (gnone hb.drew) hg1 (fun k hk => (HLT.out k hk).1))
        change K _ _
        refine hK.out _ _ (HS10.out _ (HB3.out.trans (hb2.mono (by omega)))) (fun hHeld => ?_)
        clear hK K
        (try simp only [Act.put, List.setIfInBounds_toArray, List.set_cons_zero, List.set_cons_succ])
        refine wpAnyH_take (i := 12) (oi := ⟨some 9, _, _, _, _, _⟩) (v := ?_) rfl (by kernel_rfl) (by kernel_rfl) (by kernel_rfl) (fun c a w h => put_still 9 (by decide) _ c a w h) (Or.inl ⟨by rfl, ?_⟩) (by assumption) ?_
        rotate_left
        · (intro w hSw; (try dsimp only at hSw); go_simp; try (with_reducible rfl))
        (try simp only [Act.put, List.setIfInBounds_toArray, List.set_cons_zero, List.set_cons_succ])
        refine wpAnyH_done (by kernel_rfl) ?_ _
        go_wp2_with fail
        go_roundw
        case rel => exact ⟨j + 1, by omega, by go_num, Lib.hid (by rw [HMX.out]; exact hO1), hb2⟩
        case measure => simp [intOf]; omega
      · rw [List.take_of_length_le (by rw [List.length_zip]; omega)] at hO
        have hbw : Below w.heap.size w wr := HB3.out.trans (hb.mono (by omega))
        have HCL := Lib.hid (sClone_c l p b wr _ ((HS.out.below hbw).mono (ok' := fun i => i < W3.heap.size) (fun i hi => by omega)))
        have HLT := Lib.hid (Kd.Own.lt hO.out)
        obtain ⟨oA, oc, ho⟩ := Kd.Own.form hO.out
        have hzl : (X.zip Y).length = X.length := by rw [List.length_zip]; have := HLEN.out; omega
        rw [hzl] at ho
        subst ho
        have HNM := Lib.hid (show Nm w.heap.size (.pointer none) (.bool false) (.int .i64 0) W3 from ⟨H6.out, H7.out, H8.out⟩)
        have hall : ∀ (p' b' : Nat) (w4 : World), Below wr.heap.size wr w4 → Sub w4 (fun i => i < W3.heap.size) l p' b' → wr.heap.size ≤ p' → wr.heap.size ≤ b' → Calls Tryd.prog 130 #[.pointer (some ⟨w4.heap.size, 0, none⟩), .slice oA X.length oc] (w4.alloc (.cells #[.pointer (some ⟨p', 0, none⟩), .int .i64 0] 155)) (AllPost W3.heap.size w4.heap.size p' b' (w4.alloc (.cells #[.pointer (some ⟨p', 0, none⟩), .int .i64 0] 155)) (un 4098 0 l (X.zip Y))) := by
          intro p' b' w4 hb4 hs4 hp' hb'
          have hz4 := hb4.size
          have hlt4 := hs4.lt
          have hba := (Below.refl _ w4).alloc (Nat.le_refl _) (.cells #[.pointer (some ⟨p', 0, none⟩), .int .i64 0] 155)
          refine all_c W3.heap.size w4.heap.size p' b' l (X.zip Y) _ _ (by omega) (by omega) (by omega) ⟨by omega, by omega⟩ (hs4.below hba) (heap_new w4 _) ?_ (by simp only [World.size_alloc]; omega) ?_ ?_ HSM.out hl0 (by omega)
          · exact ((Kd.Own.S2 (hO.out.below (below_then hb4 hb4.size hba))).mono (fun k hk => by have := HLT.out k hk.2.symm; omega) (fun k hk => by have := hk.1; omega))
          · intro z hz
            have hz := List.of_mem_zip hz
            exact ⟨WfL_iff.1 HWX.out _ hz.1, WfL_iff.1 HWY.out _ hz.2⟩
          · intro z hz
            have hz := List.of_mem_zip hz
            exact ⟨HZX.out _ hz.1, HZY.out _ hz.2⟩
        have hbl : ∀ (p' : Nat) (w4 w6 : World), Below wr.heap.size wr w4 → Below W3.heap.size (w4.alloc (.cells #[.pointer (some ⟨p', 0, none⟩), .int .i64 0] 155)) w6 → Below W3.heap.size W3 w6 := fun p' w4 w6 hb4 hb6 => by
          have hz4 := hb4.size
          exact ((hb.trans (hb4.mono (by omega))).trans (((Below.refl _ _).alloc (Nat.le_refl _) _).mono (by omega))).trans hb6
        generalize hO2 : un 4098 0 l (X.zip Y) = O2 at hall
        have HALL := Lib.hid hall
        have HO2 := Lib.hid hO2
        have HBL := Lib.hid hbl
        clear hall hO2 hbl hO hzl
        cases O2 with
        | full =>
          go_wp2_with (first
            | (go_at_call 129; refine HCL.out.mono ?_; clear HCL; rintro e w4 ⟨⟨p', b', rfl, hs4, hp', hb'⟩, hb4⟩)
            | (go_at_call 130; refine (HALL.out p' b' w4 hb4 hs4 hp' hb').mono ?_; clear HALL; rintro e w6 ⟨rfl, hb6⟩))
          have hB6 := HBL.out p' w4 w6 hb4 hb6
          have hn6 := HNM.out.below hB6 (by omega)
          refine leaves_cons (f := 128) (args := #[.pointer (some ⟨w.heap.size, 0, none⟩), .pointer (some ⟨w.heap.size + 1, 0, none⟩), .pointer (some ⟨w.heap.size + 1 + 1, 0, none⟩)]) (by simp) (by simp [go_sem]) ?_
          have hba := (Below.refl _ w6).alloc (Nat.le_refl _) (.cells #[] 148)
          have hnb := hn6.below hba (by have := hB6.size; omega)
          have hN := hnb.set (a' := .pointer none) (b' := .bool false) (c' := .int .i64 31)
          have hBF : Below w.heap.size w (set3 w.heap.size (.pointer none) (.bool false) (.int .i64 31) (w6.alloc (.cells #[] 148))) := ((HB3.out.trans (hB6.mono (by omega))).trans (hba.mono (by have := hB6.size; omega))).trans (set3_below _ _ _ _ _)
          refine (catch_full w.heap.size (w.heap.size + 1) (w.heap.size + 2) (by omega) (by omega) (by omega) _ _ _ [] w6 hn6.h6 hn6.h7 hn6.h8).mono ?_
          rintro e u' w'' ⟨rfl, rfl, hw⟩
          replace hw : w'' = set3 w.heap.size (.pointer none) (.bool false) (.int .i64 31) (w6.alloc (.cells #[] 148)) := hw
          rw [← hw] at hN hBF
          clear hw hnb hba
          obtain ⟨q6, f6⟩ := one_cell hN.h6
          obtain ⟨q7, f7⟩ := one_cell hN.h7
          obtain ⟨q8, f8⟩ := one_cell hN.h8
          simp [Leaves, settle, results, Tryd.results114, go_sem, q6, q7, q8]
          exact LPost.full HLEN.out HO2.out hBF
        | no =>
          go_wp2_with (first
            | (go_at_call 129; refine HCL.out.mono ?_; clear HCL; rintro e w4 ⟨⟨p', b', rfl, hs4, hp', hb'⟩, hb4⟩)
            | (go_at_call 130; refine (HALL.out p' b' w4 hb4 hs4 hp' hb').mono ?_; clear HALL; rintro e w6 ⟨rfl, hb6⟩; have hB6 := HBL.out p' w4 w6 hb4 hb6; have hn6 := HNM.out.below hB6 (by omega); obtain ⟨q6, f6⟩ := one_cell hn6.h6; obtain ⟨q7, f7⟩ := one_cell hn6.h7; obtain ⟨q8, f8⟩ := one_cell hn6.h8))
          have hN := hn6.set (a' := .pointer none) (b' := .bool false) (c' := .int .i64 0)
          have hBF : Below w.heap.size w (set3 w.heap.size (.pointer none) (.bool false) (.int .i64 0) w6) := (HB3.out.trans (hB6.mono (by omega))).trans (set3_below _ _ _ _ _)
          change bodyPostD _ _ _ _ _ (set3 w.heap.size (.pointer none) (.bool false) (.int .i64 0) w6)
          generalize set3 w.heap.size (.pointer none) (.bool false) (.int .i64 0) w6 = WF at hN hBF ⊢
          clear q6 q7 q8 f6 f7 f8
          refine leaves_cons (f := 128) (args := #[.pointer (some ⟨w.heap.size, 0, none⟩), .pointer (some ⟨w.heap.size + 1, 0, none⟩), .pointer (some ⟨w.heap.size + 1 + 1, 0, none⟩)]) (by simp) (by simp [go_sem]) ?_
          refine (catch_idle ⟨w.heap.size, 0, none⟩ ⟨w.heap.size + 1, 0, none⟩ ⟨w.heap.size + 1 + 1, 0, none⟩ _).mono ?_
          rintro e u' w'' ⟨rfl, rfl, rfl⟩
          obtain ⟨q6, f6⟩ := one_cell hN.h6
          obtain ⟨q7, f7⟩ := one_cell hN.h7
          obtain ⟨q8, f8⟩ := one_cell hN.h8
          simp [Leaves, settle, results, Tryd.results114, go_sem, q6, q7, q8]
          exact LPost.no HLEN.out HO2.out hBF
        | yes l' n' =>
          go_wp2_with (first
            | (go_at_call 129; refine HCL.out.mono ?_; clear HCL; rintro e w4 ⟨⟨p', b', rfl, hs4, hp', hb'⟩, hb4⟩)
            | (go_at_call 130; refine (HALL.out p' b' w4 hb4 hs4 hp' hb').mono ?_; clear HALL; rintro e w6 ⟨⟨rfl, hs6, hr6⟩, hb6⟩; have hB6 := HBL.out p' w4 w6 hb4 hb6; have hn6 := HNM.out.below hB6 (by omega); obtain ⟨q6, f6⟩ := one_cell hn6.h6; obtain ⟨q7, f7⟩ := one_cell hn6.h7; obtain ⟨q8, f8⟩ := one_cell hn6.h8; obtain ⟨r0, r1, -, -⟩ := box2 hr6))
          have hsF := Sub.set3 (B := w.heap.size) (a' := .pointer (some ⟨p', 0, none⟩)) (b' := .bool true) (c' := .int .i64 0) (hs6.mono (fun i hi => by omega)) hn6 (by intro k h; cases h) (by intro k h; cases h) (by intro k h; injection h with h; cases h) (by omega) (by omega)
          have hN := hn6.set (a' := .pointer (some ⟨p', 0, none⟩)) (b' := .bool true) (c' := .int .i64 0)
          have hBF : Below w.heap.size w (set3 w.heap.size (.pointer (some ⟨p', 0, none⟩)) (.bool true) (.int .i64 0) w6) := (HB3.out.trans (hB6.mono (by omega))).trans (set3_below _ _ _ _ _)
          change bodyPostD _ _ _ _ _ (set3 w.heap.size (.pointer (some ⟨p', 0, none⟩)) (.bool true) (.int .i64 0) w6)
          generalize set3 w.heap.size (.pointer (some ⟨p', 0, none⟩)) (.bool true) (.int .i64 0) w6 = WF at hN hBF hsF ⊢
          clear q6 q7 q8 f6 f7 f8
          refine leaves_cons (f := 128) (args := #[.pointer (some ⟨w.heap.size, 0, none⟩), .pointer (some ⟨w.heap.size + 1, 0, none⟩), .pointer (some ⟨w.heap.size + 1 + 1, 0, none⟩)]) (by simp) (by simp [go_sem]) ?_
          refine (catch_idle ⟨w.heap.size, 0, none⟩ ⟨w.heap.size + 1, 0, none⟩ ⟨w.heap.size + 1 + 1, 0, none⟩ _).mono ?_
          rintro e u' w'' ⟨rfl, rfl, rfl⟩
          obtain ⟨q6, f6⟩ := one_cell hN.h6
          obtain ⟨q7, f7⟩ := one_cell hN.h7
          obtain ⟨q8, f8⟩ := one_cell hN.h8
          simp [Leaves, settle, results, Tryd.results114, go_sem, q6, q7, q8]
          exact LPost.yes HLEN.out HO2.out hBF hsF (by omega) (by omega)
  · have hne : ((X.length : Int) != (Y.length : Int)) = true := by simp; omega
    have hb : Below w.heap.size w (((w.alloc (.cells #[.pointer none] 41)).alloc (.cells #[.bool false] 4)).alloc (.cells #[.int .i64 0] 43)) := (((Below.refl _ w).alloc (Nat.le_refl _) _).alloc (by simp) _).alloc (by simp; omega) _
    have HB := Lib.hid hb
    have HX := Lib.hid hlen
    clear hb hA1 hA2 hs zX zY hsm wX wY hlen
    go_enter_defers Tryd.func114, Tryd.ntmps114
    go_wp2
    simp [bodyPostD, Leaves, settle, results, Tryd.results114, go_sem]
    refine ⟨?_, HB.out⟩
    rw [if_neg HX.out]
end Go.Proofs.YtgcbanljifalnaaDoor
/- Unification: Unify. Conditions: the arguments read; the bindings make no circle; terms of at most a million nodes. -/
namespace Go.Proofs.YtgcbanljifalnaaDoor
open Go.RowKit

/-- What Unify leaves behind. -/
def QPost (N : Nat) (O : UO) (w : World) (e : Ending) (w' : World) : Prop :=
  (match O with
   | .full => e = .returned (.tuple #[.pointer none, .bool false, .int .i64 31])
   | .no => e = .returned (.tuple #[.pointer none, .bool false, .int .i64 0])
   | .yes l' _ => ∃ p' b', e = .returned (.tuple #[.pointer (some ⟨p', 0, none⟩), .bool true, .int .i64 0]) ∧ Sub w' (fun _ => True) l' p' b') ∧ Below N w w'
theorem LPost.q {N M : Nat} {l : Bs} {X Y : List Tm} {w w0 w' : World} {e : Ending} (h : LPost M l X Y w0 e w') (hl : X.length = Y.length) (hb : Below N w w0) (hM : N ≤ M) : QPost N (un 4098 0 l (X.zip Y)) w e w' := by
  unfold LPost at h
  rw [if_pos hl] at h
  unfold QPost
  refine ⟨?_, hb.trans (h.2.mono hM)⟩
  have h1 := h.1
  cases hO : un 4098 0 l (X.zip Y) with
  | full => rw [hO] at h1; exact h1
  | no => rw [hO] at h1; exact h1
  | yes l' n => rw [hO] at h1; obtain ⟨p', b', e1, e2, _⟩ := h1; exact ⟨p', b', e1, e2.mono (fun _ _ => trivial)⟩
theorem QPost.form {N : Nat} {O : UO} {w w' : World} {e : Ending} (h : QPost N O w e w') : ∃ a b c, e = .returned (.tuple #[a, b, c]) := by
  have h1 := h.1
  cases O with
  | full => exact ⟨_, _, _, h1⟩
  | no => exact ⟨_, _, _, h1⟩
  | yes l' n => obtain ⟨p', b', e1, _⟩ := h1; exact ⟨_, _, _, e1⟩
set_option maxHeartbeats 4000000 in
theorem Unify_c (l : Bs) (p b : Nat) (s t : Tm) (vs vt : Value) (w : World) (ok ok' ok'' : Nat → Prop) (hsb : Sub w ok'' l p b) (hs : TmV w ok s vs) (ht : TmV w ok' t vt) (ws : s.Wf) (wt : t.Wf) (zs : s.siz ≤ 1000000) (zt : t.siz ≤ 1000000)
    (hsm : ∀ n t, ofB l n = some t → t.siz ≤ 1000000) (hl0 : l.length ≤ 900000) :
    Calls Tryd.prog 96 #[.pointer (some ⟨p, 0, none⟩), vs, vt] w (QPost w.heap.size (un 4098 0 l [(s, t)]) w) := by
  obtain ⟨us, rfl, hs⟩ := hs
  obtain ⟨ut, rfl, ht⟩ := ht
  obtain ⟨W4, hW4⟩ : ∃ W4, W4 = ((((w.alloc (.cells #[.int .u8 s.k, .string s.s, .int .i64 s.n, us] 24)).alloc (.cells #[.int .u8 t.k, .string t.s, .int .i64 t.n, ut] 24)).alloc (.cells #[.int .u8 s.k, .string s.s, .int .i64 s.n, us] 24)).alloc (.cells #[.int .u8 t.k, .string t.s, .int .i64 t.n, ut] 24)) := ⟨_, rfl⟩
  have hB : Below w.heap.size w W4 := by rw [hW4]; exact ((((Below.refl _ w).alloc (Nat.le_refl _) _).alloc (by simp) _).alloc (by simp; omega) _).alloc (by simp; omega) _
  have h2 : W4.heap[w.heap.size + 1 + 1]? = some (.cells #[.int .u8 s.k, .string s.s, .int .i64 s.n, us] 24 (0, 0)) := by rw [hW4]; exact (Below.heap_alloc _ _ _ (by simp)).trans (heap_at _ _ _ (by simp))
  have h3 : W4.heap[w.heap.size + 1 + 1 + 1]? = some (.cells #[.int .u8 t.k, .string t.s, .int .i64 t.n, ut] 24 (0, 0)) := by rw [hW4]; exact heap_at _ _ _ (by simp)
  have HC := Lib.hid (Lists_c l p b [s] [t] _ _ W4 _ _ _ (hsb.below hB) (lit1_at h2 (hs.below hB)) (lit1_at h3 (ht.below hB)) (by simp [WfL, ws]) (by simp [WfL, wt]) (by simpa using zs) (by simpa using zt) hsm hl0 (by simp))
  have HB := Lib.hid hB
  have HW := Lib.hid hW4
  clear hs ht hB hW4 h2 h3 hsb ws wt zs zt hsm
  have HQ : Hid (∀ e w', LPost W4.heap.size l [s] [t] W4 e w' → QPost w.heap.size (un 4098 0 l [(s, t)]) w e w') := Lib.hid (fun e w' h => LPost.q h rfl HB.out HB.out.size)
  generalize un 4098 0 l [(s, t)] = O at HQ ⊢
  go_enter Tryd.func96, Tryd.ntmps96
  go_wp2_with (rw [← HW.out]; go_at_call 114; refine HC.out.mono ?_; clear HC; intro e w5 hp; replace hp := HQ.out _ _ hp; clear HQ; obtain ⟨ra, rb, rc, rfl⟩ := hp.form; have hp := Lib.hid hp)
  refine bodyPost_ret (v := .tuple #[ra, rb, rc]) (by simp [results, Tryd.results96, go_sem]) rfl ?_
  exact hp.out
end Go.Proofs.YtgcbanljifalnaaDoor
/- The law of layer 4 wakes. No condition. -/
namespace Go.Proofs.YtgcbanljifalnaaDoor
open Go.RowKit

/-! ### Steps of a unification, plain -/
theorem visA_vis {l : Bs} (hA : Acyc l) {f : Nat} {t : Tm} (h : Fn l f t) : visA l t = vis l f t := (Fn.same (hA.fueled t) h).2
def biF (f : Nat) (l : Bs) (v : Int) (t : Tm) (n : Nat) : UO :=
  if 4096 < n + ocv v (vis l f t) then .full else if (vis l f t).any (isv v) = true then .no else if bindE l v (vis l f t) = 0 then .yes (l ++ [(v, t)]) (n + ocv v (vis l f t)) else .no
theorem biU_biF {l : Bs} (hA : Acyc l) {f : Nat} {t : Tm} (h : Fn l f t) (v : Int) (n : Nat) : biU l v t n = biF f l v t n := by unfold biU biF; rw [visA_vis hA h]
theorem un_apart {k n : Nat} {l : Bs} {x : Tm × Tm} {r : Ps} {y1 y2 : Tm} (h1 : wlk l x.1 = y1) (h2 : wlk l x.2 = y2) (hn : n + 1 ≤ 4096) (k1 : y1.k ≠ 1) (k2 : y2.k ≠ 1) (hm : y1.k = y2.k ∧ y1.s = y2.s ∧ y1.n = y2.n ∧ y1.l.length = y2.l.length) :
    un (k + 1) n l (x :: r) = un k (n + 1) l (y1.l.zip y2.l ++ r) := by
  subst h1 h2
  rw [un, if_neg (by omega), if_neg (fun h => k1 h.1), if_neg k1, if_neg k2, if_pos hm]
theorem un_left {k n n' : Nat} {l l' : Bs} {x : Tm × Tm} {r : Ps} {y1 y2 : Tm} (h1 : wlk l x.1 = y1) (h2 : wlk l x.2 = y2) (hn : n + 1 ≤ 4096) (k1 : y1.k = 1) (k2 : ¬ (y2.k = 1 ∧ y1.n = y2.n)) (ho : biU l y1.n y2 (n + 1) = .yes l' n') :
    un (k + 1) n l (x :: r) = un k n' l' r := by
  subst h1 h2
  rw [un, if_neg (by omega), if_neg (fun h => k2 h.2), if_pos k1, ho]
theorem un_leftno {k n : Nat} {l : Bs} {x : Tm × Tm} {r : Ps} {y1 y2 : Tm} (h1 : wlk l x.1 = y1) (h2 : wlk l x.2 = y2) (hn : n + 1 ≤ 4096) (k1 : y1.k = 1) (k2 : ¬ (y2.k = 1 ∧ y1.n = y2.n)) (ho : biU l y1.n y2 (n + 1) = .no) :
    un (k + 1) n l (x :: r) = .no := by
  subst h1 h2
  rw [un, if_neg (by omega), if_neg (fun h => k2 h.2), if_pos k1, ho]
namespace K5
def A (c : UInt8) : Tm := ⟨3, ⟨#[c]⟩, 0, []⟩
def t1 : Tm := ⟨4, ⟨#[102]⟩, 0, [kV 0, kV 1]⟩
def t2 : Tm := ⟨4, ⟨#[102]⟩, 0, [kV 1, A 97]⟩
def tf : Tm := ⟨4, ⟨#[102]⟩, 0, [kV 0]⟩
def l1 : Bs := [(0, kV 1)]
def l2 : Bs := [(0, kV 1), (1, A 97)]
theorem fV : Fn [] 3 (kV 1) := by simp [Fn, kV, wlk, wlkN]
theorem ff : Fn [] 4 tf := by simp [Fn, tf, kV, wlk, wlkN]
theorem fA (l : Bs) (c : UInt8) : Fn l 3 (A c) := by
  have : wlk l (A c) = A c := wlk_stop (by simp [nxt, A])
  simp only [Fn, this]
  simp [A]
theorem ac0 : Acyc [] := acyc_nil
theorem b1 : bindE [] 0 (vis [] 3 (kV 1)) = 0 := by kernel_rfl
theorem ac1 : Acyc l1 := Acyc.bound ac0 fV b1
theorem u1 : biU [] 0 (kV 1) 2 = .yes l1 3 := by rw [biU_biF ac0 fV]; kernel_rfl
theorem u2 : biU l1 1 (A 97) 4 = .yes l2 5 := by rw [biU_biF ac1 (fA _ _)]; kernel_rfl
theorem u3 : biU [] 0 tf 1 = .no := by rw [biU_biF ac0 ff]; kernel_rfl
theorem un1 : un 4098 0 [] [(t1, t2)] = .yes l2 5 := by
  rw [show (4098 : Nat) = 4097 + 1 from rfl, un_apart (y1 := t1) (y2 := t2) (by kernel_rfl) (by kernel_rfl) (by omega) (by decide) (by decide) ⟨rfl, rfl, rfl, rfl⟩]
  rw [show t1.l.zip t2.l ++ [] = [(kV 0, kV 1), (kV 1, A 97)] from rfl, show (4097 : Nat) = 4096 + 1 from rfl, un_left (y1 := kV 0) (y2 := kV 1) (by kernel_rfl) (by kernel_rfl) (by omega) rfl (by simp [kV]) u1]
  rw [show (4096 : Nat) = 4095 + 1 from rfl, un_left (y1 := kV 1) (y2 := A 97) (by kernel_rfl) (by kernel_rfl) (by omega) rfl (by simp [A]) u2]
  rfl
theorem un2 : un 4098 0 [] [(kV 0, tf)] = .no := by
  rw [show (4098 : Nat) = 4097 + 1 from rfl, un_leftno (y1 := kV 0) (y2 := tf) (by kernel_rfl) (by kernel_rfl) (by omega) rfl (by simp [tf]) u3]
theorem f3 : Fn l2 4 (kV 0) := by simp [Fn, l2, kV, A, wlk, wlkN, nxt, ofB]
theorem a1 : appE (vis l2 4 (kV 0)) (app l2 4 (kV 0)) = (⟨3, ⟨#[97]⟩, 0, []⟩, 0) := by kernel_rfl
theorem wf1 : t1.Wf := by simp [t1, kV, Tm.Wf, WfL, ByteArray.size]
theorem wf2 : t2.Wf := by simp [t2, A, kV, Tm.Wf, WfL, ByteArray.size]
theorem wfV (n : Int) (h : 0 ≤ n ∧ n ≤ 9) : (kV n).Wf := by simp [kV, Tm.Wf, WfL, ByteArray.size]; omega
theorem z1 : t1.siz ≤ 1000000 := by simp [t1, kV, Tm.siz, sizL]
theorem z2 : t2.siz ≤ 1000000 := by simp [t2, A, kV, Tm.siz, sizL]
end K5
/-- What is known along a walk: slices of terms, two substitutions. -/
structure Kx (w : World) (L : List (List Tm × Value)) (l : Bs) (p b q c : Nat) (W : World) : Prop where
  ks : Ks w L W
  sub : Sub W (fun _ => True) l p b
  new : Sub W (fun _ => True) [] q c
section
variable {w W W' : World} {L : List (List Tm × Value)} {l l' : Bs} {p b q c p' b' : Nat}
theorem Kx.then (h : Kx w L l p b q c W) (hb : Below W.heap.size W W') : Kx w L l p b q c W' := ⟨h.ks.then hb, h.sub.below hb, h.new.below hb⟩
theorem Kx.base (h : Kx w L l p b q c W) : Kx W L l p b q c W := ⟨⟨Below.refl _ _, h.ks.all⟩, h.sub, h.new⟩
theorem Kx.alloc (h : Kx w L l p b q c W) (O : Obj) : Kx w L l p b q c (W.alloc O) := h.then ((Below.refl _ W).alloc (Nat.le_refl _) O)
theorem Kx.drew (h : Kx w L l p b q c W) : Kx w L l p b q c W.drew := h.then (Below.refl _ W).drew
theorem Kx.push {ok : Nat → Prop} {x : List Tm} {v : Value} (h : Kx w L l p b q c W) (hs : Kd.tm.S W ok x v) : Kx w ((x, v) :: L) l p b q c W := ⟨h.ks.push hs, h.sub, h.new⟩
theorem Kx.get (h : Kx w L l p b q c W) {x : List Tm} {v : Value} (hm : (x, v) ∈ L) : Kd.tm.S W (fun _ => True) x v := h.ks.all _ hm
theorem Kx.subs {ok : Nat → Prop} (h : Kx w L l p b q c W) (hs : Sub W ok l' p' b') : Kx w L l' p' b' q c W := ⟨h.ks, hs.mono (fun _ _ => trivial), h.new⟩
theorem Kx.news {ok : Nat → Prop} (h : Kx w L l p b q c W) (hs : Sub W ok [] p' b') : Kx w L l p b p' b' W := ⟨h.ks, h.sub, hs.mono (fun _ _ => trivial)⟩
theorem Kx.F (s : ByteArray) (t : Tm) (x : List Tm) {v : Value} (h : Kx w ((t :: x, v) :: L) l p b q c W) (hz : x.length ≤ 999999) :
    Calls Tryd.prog 19 #[.string s, v] W fun e w' => ∃ A c', e = .returned (.agg #[.int .u8 4, .string s, .int .i64 0, .slice A (t :: x).length c']) ∧ Kx w ((t :: x, .slice A (t :: x).length c') :: L) l p b q c w' ∧ Below W.heap.size W w' :=
  (F_c s (t :: x) v W _ _ (h.get (List.mem_cons_self ..)).S2 (by simp; omega)).mono (fun e w' ⟨⟨r, he, hr⟩, hb⟩ => by
    rw [mkF_cons] at hr
    obtain ⟨u, rfl, hS⟩ := hr
    obtain ⟨A, c', rfl⟩ := hS.form
    have h2 : Kx w L l p b q c W := ⟨⟨h.ks.below, fun q hq => h.ks.all q (List.mem_cons_of_mem _ hq)⟩, h.sub, h.new⟩
    exact ⟨A, c', he, (h2.then hb).push hS, hb⟩)
theorem Kx.one (h : Kx w L l p b q c W) (t : Tm) (u : Value) (hu : Kd.tm.S W (fun _ => True) t.l u) : Kx w (([t], .slice (some ⟨W.heap.size, 0, none⟩) 1 1) :: L) l p b q c (W.alloc (.cells #[.int .u8 t.k, .string t.s, .int .i64 t.n, u] 24)) :=
  ⟨h.ks.one t u hu, (h.alloc _).sub, (h.alloc _).new⟩
theorem Kx.two (h : Kx w L l p b q c W) (t t' : Tm) (u u' : Value) (hu : Kd.tm.S W (fun _ => True) t.l u) (hu' : Kd.tm.S W (fun _ => True) t'.l u') :
    Kx w (([t, t'], .slice (some ⟨W.heap.size, 0, none⟩) 2 2) :: L) l p b q c (W.alloc (.cells #[.int .u8 t.k, .string t.s, .int .i64 t.n, u, .int .u8 t'.k, .string t'.s, .int .i64 t'.n, u'] 24)) :=
  ⟨h.ks.two t t' u u' hu hu', (h.alloc _).sub, (h.alloc _).new⟩
/-- A box, and what is known. -/
structure Ky (w : World) (L : List (List Tm × Value)) (p b q c B : Nat) (t : Tm) (u : Value) (W : World) : Prop where
  kx : Kx w L K5.l2 p b q c W
  x1 : W.heap[B]? = some (.cells #[.int .u8 t.k, .string t.s, .int .i64 t.n, u] 24 (0, 0))
variable {B : Nat} {t : Tm} {u : Value}
theorem Ky.then (h : Ky w L p b q c B t u W) (hb : Below W.heap.size W W') : Ky w L p b q c B t u W' := ⟨h.kx.then hb, block_below hb (Array.getElem?_eq_some_iff.1 h.x1).1 h.x1⟩
theorem Ky.cells (h : Ky w L p b q c B t u W) : W.cell? ⟨B, 0, none⟩ = some (.int .u8 t.k) ∧ W.cell? ⟨B, 1, none⟩ = some (.string t.s) ∧ W.cell? ⟨B, 2, none⟩ = some (.int .i64 t.n) ∧ W.cell? ⟨B, 3, none⟩ = some u :=
  ⟨(box4 h.x1).1, (box4 h.x1).2.1, (box4 h.x1).2.2.1, (box4 h.x1).2.2.2.1⟩
end
end Go.Proofs.YtgcbanljifalnaaDoor
/- Unification in plain words: whatever unifies goes through what the run binds; what the run binds unifies. Unification in plain words: the bindings as a replacement; unified once more; a term with itself. Unification in plain words: what is applied behind what is unified; more visits; a term and its like; a term in itself. Unification in plain words: a term and its like with other variables; a term in a structure of it. Variables of terms in their bounds. No condition. Conditions: the arguments read; terms of at most a million nodes, where a statement says so. -/
namespace Go.Proofs.YtgcbanljifalnaaDoor
mutual
/-- Variables replaced, all at once. -/
def Tm.sb (σ : Int → Tm) : Tm → Tm
  | ⟨k, s, n, l⟩ => if k = 1 then σ n else ⟨k, s, n, sbL σ l⟩
def sbL (σ : Int → Tm) : List Tm → List Tm
  | [] => []
  | t :: ts => t.sb σ :: sbL σ ts
end
mutual
/-- A term's variables are plain ones: no name, no arguments, no sign. -/
def Tm.vok : Tm → Prop
  | ⟨k, s, n, l⟩ => (k = 1 → s = ⟨#[]⟩ ∧ l = [] ∧ 0 ≤ n) ∧ vokL l
def vokL : List Tm → Prop
  | [] => True
  | t :: ts => t.vok ∧ vokL ts
end
theorem sbL_map (σ : Int → Tm) : ∀ l : List Tm, sbL σ l = l.map (Tm.sb σ)
  | [] => rfl
  | t :: ts => by simp [sbL, sbL_map σ ts]
theorem sb_var {σ : Int → Tm} {t : Tm} (h : t.k = 1) : t.sb σ = σ t.n := by cases t; simp only at h; simp [Tm.sb, h]
theorem sb_non {σ : Int → Tm} {t : Tm} (h : t.k ≠ 1) : t.sb σ = ⟨t.k, t.s, t.n, t.l.map (Tm.sb σ)⟩ := by cases t; simp only at h; simp [Tm.sb, h, sbL_map]
/-- σ goes through the bindings. -/
def Rsp (σ : Int → Tm) (l : Bs) : Prop := ∀ v t, ofB l v = some t → σ v = t.sb σ
theorem Rsp.wlkN {σ : Int → Tm} {l : Bs} (h : Rsp σ l) : ∀ (m : Nat) (t : Tm), (wlkN l m t).sb σ = t.sb σ
  | 0, t => rfl
  | m + 1, t => by
    simp only [Go.Proofs.YtgcbanljifalnaaDoor.wlkN]
    cases hn : nxt l t with
    | none => rfl
    | some u =>
      simp only
      rw [h.wlkN m u]
      unfold nxt at hn
      split at hn
      · rename_i h1; rw [sb_var h1]; exact (h _ _ hn).symm
      · cases hn
theorem Rsp.wlk {σ : Int → Tm} {l : Bs} (h : Rsp σ l) (t : Tm) : (wlk l t).sb σ = t.sb σ := h.wlkN _ t
/-- Bound terms are plain too. -/
def VokB (l : Bs) : Prop := ∀ v t, ofB l v = some t → t.vok
theorem VokB.wlkN {l : Bs} (h : VokB l) : ∀ (m : Nat) (t : Tm), t.vok → (wlkN l m t).vok
  | 0, t, ht => ht
  | m + 1, t, ht => by
    simp only [Go.Proofs.YtgcbanljifalnaaDoor.wlkN]
    cases hn : nxt l t with
    | none => exact ht
    | some u =>
      refine h.wlkN m u ?_
      unfold nxt at hn
      split at hn
      · exact h _ _ hn
      · cases hn
theorem VokB.wlk {l : Bs} (h : VokB l) (t : Tm) (ht : t.vok) : (wlk l t).vok := h.wlkN _ t ht
theorem Rsp.snoc {σ : Int → Tm} {l : Bs} {v : Int} {t : Tm} (h : Rsp σ l) (hs : σ v = t.sb σ) : Rsp σ (l ++ [(v, t)]) := fun m s hm => by
  rw [ofB_append] at hm
  cases ho : ofB l m with
  | some y => rw [ho] at hm; injection hm with hm; subst hm; exact h _ _ ho
  | none =>
    rw [ho, ofB_one] at hm
    simp only at hm
    split at hm
    · rename_i e; injection hm with hm; subst hm e; exact hs
    · cases hm
theorem VokB.snoc {l : Bs} {v : Int} {t : Tm} (h : VokB l) (ht : t.vok) : VokB (l ++ [(v, t)]) := fun m s hm => by
  rw [ofB_append] at hm
  cases ho : ofB l m with
  | some y => rw [ho] at hm; injection hm with hm; subst hm; exact h _ _ ho
  | none =>
    rw [ho, ofB_one] at hm
    simp only at hm
    split at hm
    · injection hm with hm; subst hm; exact ht
    · cases hm
theorem Acyc.snoc {l : Bs} (hA : Acyc l) {v : Int} {t : Tm} (hv : ofB l v = none) (ha : (visA l t).any (isv v) = false) : Acyc (l ++ [(v, t)]) :=
  hA.bind hv (hA.fueled t) (fun x hx => by have := (List.any_eq_false.1 ha) x hx; simpa using this)
theorem appA_of {l : Bs} (hA : Acyc l) {f : Nat} {t : Tm} (h : Fn l f t) : appA l t = app l f t := ((hA.fueled t).same h).1
theorem Rsp.app {σ : Int → Tm} {l : Bs} (h : Rsp σ l) : ∀ (f : Nat) (t : Tm), Fn l f t → (app l f t).sb σ = t.sb σ
  | 0, t, hf => hf.elim
  | f + 1, t, hf => by
    rw [app_succ, ← h.wlk t]
    by_cases h1 : (Go.Proofs.YtgcbanljifalnaaDoor.wlk l t).k = 1
    · rw [sb_var h1, sb_var (show (Tm.mk _ _ _ _).k = 1 from h1)]
    · rw [sb_non h1, sb_non (show (Tm.mk _ _ _ _).k ≠ 1 from h1)]
      simp only [List.map_map]
      rw [List.map_congr_left (f := Tm.sb σ ∘ Go.Proofs.YtgcbanljifalnaaDoor.app l f) (g := Tm.sb σ) (fun a ha => h.app f a (hf a ha))]
/-- Each variable bound to its like. -/
def lk (d : Int) (D : List Int) : Bs := D.map fun x => (x, kV (x + d))
open Go.RowKit

end Go.Proofs.YtgcbanljifalnaaDoor
/- Unification's plain laws, for the reference: fuel that suffices, pairs one behind the other. No condition. -/
namespace Go.Proofs.YtgcbanljifalnaaDoor

/-- What is behind a step. -/
def UO.then (o : UO) (f : Bs → Nat → UO) : UO := match o with
  | .yes l n => f l n
  | .full => .full
  | .no => .no
end Go.Proofs.YtgcbanljifalnaaDoor
/- Layer 13 (arith) in plain words: results, operators; whole numbers of 64 bits. No condition. -/
namespace Go.Proofs.YtgcbanljifalnaaDoor
open Go.RowKit

/-- A result: a number, or an error. -/
inductive Rk where
  | ok (n : Int)
  | er (e : Int)
def in64 (x : Int) : Prop := -9223372036854775808 ≤ x ∧ x ≤ 9223372036854775807
instance (x : Int) : Decidable (in64 x) := by unfold in64; infer_instance
def fitR (x : Int) : Rk := if in64 x then .ok x else .er 22
def addR (a b : Int) : Rk := fitR (a + b)
def subR (a b : Int) : Rk := fitR (a - b)
def mulR (a b : Int) : Rk := fitR (a * b)
def divR (a b : Int) : Rk := if b = 0 then .er 23 else fitR (a.tdiv b)
def remR (a b : Int) : Rk := if b = 0 then .er 23 else .ok (a.tmod b)
def modI (a b : Int) : Int := if a.tmod b ≠ 0 ∧ decide (a.tmod b < 0) ≠ decide (b < 0) then a.tmod b + b else a.tmod b
def modR (a b : Int) : Rk := if b = 0 then .er 23 else .ok (modI a b)
def Rk.val : Rk → Int
  | .ok n => n
  | .er _ => 0
def Rk.err : Rk → Int
  | .ok _ => 0
  | .er e => e
theorem fitR_in {x : Int} (h : in64 x) : fitR x = .ok x := if_pos h
theorem fitR_out {x : Int} (h : ¬ in64 x) : fitR x = .er 22 := if_neg h
theorem tmod_in {a b : Int} (hb : in64 b) (h0 : b ≠ 0) : in64 (a.tmod b) := by
  unfold in64 at *
  have h1 : (a.tmod b).natAbs < b.natAbs := by rw [Int.natAbs_tmod]; exact Nat.mod_lt _ (by omega)
  omega
theorem tdiv_le (a b : Int) : (a.tdiv b).natAbs ≤ a.natAbs := by rw [Int.natAbs_tdiv]; exact Nat.div_le_self _ _
theorem tdiv_in {a b : Int} (ha : in64 a) (h : ¬ (a = -9223372036854775808 ∧ b = -1)) : in64 (a.tdiv b) := by
  unfold in64 at *
  have h1 := tdiv_le a b
  by_cases hx : (a.tdiv b).natAbs ≤ 9223372036854775807
  · omega
  · have ha : a = -9223372036854775808 := by omega
    subst ha
    have hb : b.natAbs = 1 := by
      have h2 := Int.natAbs_tdiv (-9223372036854775808) b
      by_cases h0 : b.natAbs = 0
      · have : b = 0 := by omega
        subst this
        simp at hx
      · by_cases h3 : b.natAbs = 1
        · exact h3
        · exfalso
          have h4 : (Int.natAbs (-9223372036854775808)) / b.natAbs ≤ (Int.natAbs (-9223372036854775808)) / 2 := Nat.div_le_div_left (by omega) (by omega)
          have h5 : ((-9223372036854775808 : Int).tdiv b).natAbs = (Int.natAbs (-9223372036854775808)) / b.natAbs := h2
          rw [← h5] at h4
          rw [show Int.natAbs (-9223372036854775808) = 9223372036854775808 from rfl] at h4
          omega
    rcases Int.natAbs_eq b with hb' | hb'
    · rw [hb] at hb'
      simp at hb'
      rw [hb', Int.tdiv_one]
      decide
    · rw [hb] at hb'
      simp at hb'
      exact absurd ⟨rfl, hb'⟩ h
theorem tdiv_min : (-9223372036854775808 : Int).tdiv (-1) = 9223372036854775808 := by decide
theorem tmod_neg1 (a : Int) : a.tmod (-1) = 0 := by
  rw [Int.tmod_neg, Int.tmod_one]
theorem modI_in {a b : Int} (ha : in64 a) (hb : in64 b) (h0 : b ≠ 0) : in64 (modI a b) := by
  have h1 := tmod_in (a := a) hb h0
  unfold modI
  unfold in64 at *
  split
  · rename_i h
    obtain ⟨h2, h3⟩ := h
    by_cases h4 : a.tmod b < 0 <;> by_cases h5 : b < 0 <;> simp [h4, h5] at h3 <;> omega
  · exact h1
end Go.Proofs.YtgcbanljifalnaaDoor

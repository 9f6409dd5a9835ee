import Derived.Test.YtgcbanljifalnaaDoorPo08
import Derived.Deep.DeepCutAuto
import Derived.Deep.LoopGhost
set_option linter.unusedVariables false
set_option maxRecDepth 20000
set_option linter.unusedSimpArgs false
/- Unification: all pairs. Conditions: the arguments read; the bindings make no circle; terms of at most a million nodes. -/
namespace Go.Proofs.YtgcbanljifalnaaDoor
open Go.RowKit

/-- A unification: pairs, from the first one on. -/
noncomputable def un : Nat → Nat → Bs → Ps → UO
  | 0, _, _, _ => .full
  | _ + 1, n, l, [] => .yes l n
  | k + 1, n, l, x :: r =>
    if 4096 < n + 1 then .full
    else if (wlk l x.1).k = 1 ∧ (wlk l x.2).k = 1 ∧ (wlk l x.1).n = (wlk l x.2).n then un k (n + 1) l r
    else if (wlk l x.1).k = 1 then (match biU l (wlk l x.1).n (wlk l x.2) (n + 1) with | .yes l' n' => un k n' l' r | o => o)
    else if (wlk l x.2).k = 1 then (match biU l (wlk l x.2).n (wlk l x.1) (n + 1) with | .yes l' n' => un k n' l' r | o => o)
    else if (wlk l x.1).k = (wlk l x.2).k ∧ (wlk l x.1).s = (wlk l x.2).s ∧ (wlk l x.1).n = (wlk l x.2).n ∧ (wlk l x.1).l.length = (wlk l x.2).l.length then un k (n + 1) l ((wlk l x.1).l.zip (wlk l x.2).l ++ r)
    else .no
theorem Tryd.infoP : (Tryd.prog.info? 152).map (fun i => (i.zero, i.size, i.bytes)) = some (some (.agg #[.int .u8 0, .string ⟨#[]⟩, .int .i64 0, .slice none 0 0, .int .u8 0, .string ⟨#[]⟩, .int .i64 0, .slice none 0 0]), 8, 112) := by kernel_rfl
section
variable {N0 R p b B2 B3 n n' : Nat} {l l' : Bs} {T : Ps} {W W' : World}
theorem US.bound (hA : UA N0 R p b B2 B3) (h : US N0 R p b B2 B3 l n T W) (hN : N0 ≤ W.heap.size) (hs : Sub W' (fun i => i < N0) l' p b) (hr : RunAt W' R p (n' : Int)) (hk : Keeps (fun k => k = R ∨ k = b) W W') : US N0 R p b B2 B3 l' n' T W' := by
  obtain ⟨v, h3, h4⟩ := h.ps
  have ha := hA.a6
  refine ⟨hs, hr, (hk.block B2 h.lt.2.1 (by omega)).trans h.r, ⟨v, (hk.block B3 h.lt.2.2 (by omega)).trans h3, ?_⟩, h.wf⟩
  exact (Kd.S2.move (fun k hk' => hk.block k hk'.2 (by have := hk'.1; omega)) (fun k hk' => hk.block k hk'.2 (by have := hA.a1; have := hA.a3; have := hk'.1; omega)) (Kd.S2.bound h4)).mono (fun _ h => h.1) (fun _ h => h.1)
theorem US.visit (hA : UA N0 R p b B2 B3) (h : US N0 R p b B2 B3 l n T W) (hN : N0 ≤ W.heap.size) : US N0 R p b B2 B3 l (n + 1) T (W.setCell ⟨R, 1, none⟩ (.int .i64 ((n : Int) + 1))) := by
  have ha := hA.a6
  refine h.bound hA hN (h.sub.grown (grown_set W R 1 _) (fun k hk e => by have := hA.a1; injection e; omega) (fun e => by injection e; omega) (fun e => by injection e; omega)) ?_ (keeps_grown (grown_set W R 1 _) (fun k hk => .inl (by injection hk with hk; exact hk.symm)))
  have := runAt_set h.run ((n : Int) + 1)
  simpa using this
theorem US.drew (h : US N0 R p b B2 B3 l n T W) : US N0 R p b B2 B3 l n T W.drew := h.below (Below.refl _ W).drew
/-- Two terms, each in a box; the state. -/
structure UB (N0 R p b B2 B3 : Nat) (l : Bs) (n : Nat) (T : Ps) (B7 B8 : Nat) (x y : Tm) (ux uy : Value) (W : World) : Prop where
  us : US N0 R p b B2 B3 l n T W
  h7 : W.heap[B7]? = some (.cells #[.int .u8 x.k, .string x.s, .int .i64 x.n, ux] 24 (0, 0))
  h8 : W.heap[B8]? = some (.cells #[.int .u8 y.k, .string y.s, .int .i64 y.n, uy] 24 (0, 0))
  s7 : Kd.tm.S W (fun i => i < N0) x.l ux
  s8 : Kd.tm.S W (fun i => i < N0) y.l uy
theorem UB.below {B7 B8 : Nat} {x y : Tm} {ux uy : Value} (h : UB N0 R p b B2 B3 l n T B7 B8 x y ux uy W) (hb : Below W.heap.size W W') : UB N0 R p b B2 B3 l n T B7 B8 x y ux uy W' :=
  ⟨h.us.below hb, block_below hb (Array.getElem?_eq_some_iff.1 h.h7).1 h.h7, block_below hb (Array.getElem?_eq_some_iff.1 h.h8).1 h.h8, h.s7.below hb, h.s8.below hb⟩
end
/-- What is left behind all pairs. -/
def AllPost (N0 R p b : Nat) (w : World) (O : UO) (e : Ending) (w' : World) : Prop :=
  (match O with
   | .full => e = fullEnd
   | .no => e = .returned (.bool false)
   | .yes l n => e = .returned (.bool true) ∧ Sub w' (fun i => i < N0) l p b ∧ RunAt w' R p (n : Int)) ∧ Below N0 w w'
theorem below_keeps {N R b : Nat} {w w' : World} (h : Keeps (fun k => k = R ∨ k = b) w w') (hN : N ≤ w.heap.size) (h1 : N ≤ R) (h2 : N ≤ b) : Below N w w' :=
  ⟨h.os, h.tape, h.output, h.size, fun k hk => h.block k (by omega) (by omega)⟩
theorem biU_yes {l l' : Bs} {v : Int} {t : Tm} {n n' : Nat} (h : biU l v t n = .yes l' n') : l' = l ++ [(v, t)] ∧ n ≤ n' ∧ n' ≤ 4096 := by
  unfold biU at h
  split at h
  · cases h
  · split at h
    · cases h
    · split at h
      · injection h with h1 h2; subst h1 h2; exact ⟨rfl, by omega, by omega⟩
      · cases h
theorem bound_siz {l l' : Bs} {v : Int} {t : Tm} {N : Nat} (h : l' = l ++ [(v, t)]) (hl : ∀ n t, ofB l n = some t → t.siz ≤ N) (ht : t.siz ≤ N) (m : Int) (s : Tm) (hs : ofB l' m = some s) : s.siz ≤ N := by
  subst h
  rw [ofB_append] at hs
  cases ho : ofB l m with
  | some y => rw [ho] at hs; injection hs with hs; subst hs; exact hl _ _ ho
  | none =>
    rw [ho, ofB_one] at hs
    simp only at hs
    split at hs
    · injection hs with hs; subst hs; exact ht
    · cases hs
set_option maxRecDepth 100000 in
set_option maxHeartbeats 8000000 in
theorem all_c (N0 R p b : Nat) (l0 : Bs) (T0 : Ps) (v : Value) (w : World) (a1 : N0 ≤ R) (a2 : N0 ≤ p) (a3 : N0 ≤ b) (a6 : R ≠ p ∧ R ≠ b) (hs : Sub w (fun i => i < N0) l0 p b) (hr : RunAt w R p 0) (hT : Kd.pp.S2 w (fun i => i ≠ R ∧ i ≠ b) (fun i => i < N0) T0 v) (hN : N0 ≤ w.heap.size)
    (hwf : ∀ x ∈ T0, (x.1.Wf ∧ x.2.Wf)) (hsz : ∀ x ∈ T0, x.1.siz ≤ 1000000 ∧ x.2.siz ≤ 1000000) (hsm : ∀ n t, ofB l0 n = some t → t.siz ≤ 1000000) (hl0 : l0.length ≤ 900000) (hT0 : T0.length ≤ 1000000) :
    Calls Tryd.prog 130 #[.pointer (some ⟨R, 0, none⟩), v] w (AllPost N0 R p b w (un 4098 0 l0 T0)) := by
  have hmf : ∀ (fn : Go.Fn) (first cap : Array Value) (w : World), (Instr.makeFunc fn first cap).run Tryd.prog w = .ok (.func fn first cap) w := fun _ _ _ _ => rfl
  obtain ⟨A, c, rfl, hlc, hcm, hAt⟩ := hT.bound
  have hRl := (Array.getElem?_eq_some_iff.1 hr).1
  have hsl := hs.lt
  have hA : UA N0 R p b w.heap.size (w.heap.size + 1) := ⟨a1, a2, a3, hN, by omega, ⟨a6.1, a6.2, by omega, by omega, by omega, by omega, by omega, by omega⟩⟩
  obtain ⟨W1, hW1⟩ : ∃ W1, W1 = ((w.alloc (.cells #[.pointer (some ⟨R, 0, none⟩)] 153)).alloc (.cells #[.slice A T0.length c] 150)) := ⟨_, rfl⟩
  have hB1 : Below w.heap.size w W1 := by rw [hW1]; exact ((Below.refl _ w).alloc (Nat.le_refl _) _).alloc (by simp) _
  have hU1 : US N0 R p b w.heap.size (w.heap.size + 1) l0 0 T0 W1 := by
    refine ⟨hs.below hB1, block_below hB1 hRl hr, ?_, ⟨.slice A T0.length c, ?_, ?_⟩, hwf⟩
    · rw [hW1]; exact (Below.heap_alloc _ _ _ (by simp)).trans (heap_new w _)
    · rw [hW1]; exact heap_at _ _ _ (by simp)
    · exact (Kd.S2.below hB1 (oks := fun i => (i ≠ R ∧ i ≠ b) ∧ i < w.heap.size) (oki := fun i => i < N0) ⟨A, c, rfl, hlc, hcm, hAt.imp id fun ⟨bb, o, h1, h2, h3⟩ => ⟨bb, o, h1, h2, Kd.At.mono (fun _ h => h.1) h3⟩⟩).mono (fun i hi => ⟨hi.1.1, hi.1.2, by omega⟩) (fun _ h => h)
  generalize hO : un 4098 0 l0 T0 = O
  have HO := Lib.hid hO
  have HU := Lib.hid hU1
  have HB1 := Lib.hid (hB1.mono hN)
  have HSM := Lib.hid hsm
  have HSZ := Lib.hid hsz
  have HW := Lib.hid hW1
  have hz1 : W1.heap.size = w.heap.size + 2 := by rw [hW1]; simp
  clear hs hr hT hwf hsz hsm hAt hlc hcm hB1 hU1 hO hW1
  go_enter Tryd.func130, Tryd.ntmps130
  go_wp2
  rw [← HW.out]
  go_loopg [] 4098 (fun g wr => ∃ (n : Nat) (l : Bs) (T : Ps), Hid (un g n l T = O) ∧ n ≤ 4096 ∧ 4098 ≤ g + n ∧ Hid (US N0 R p b w.heap.size (w.heap.size + 1) l n T wr) ∧ Below N0 w wr ∧ W1.heap.size ≤ wr.heap.size ∧ Hid (∀ x ∈ T, x.1.siz ≤ 1000000 ∧ x.2.siz ≤ 1000000) ∧ Hid (∀ n t, ofB l n = some t → t.siz ≤ 1000000) ∧ l.length ≤ 900000 + n ∧ T.length ≤ 1000000 + n * 1000000)
  case atStart => exact ⟨0, l0, T0, HO, by omega, by omega, HU, HB1.out, Nat.le_refl _, HSZ, HSM, by omega, by omega⟩
  case round =>
    obtain ⟨n, l, T, hun, hn, hgn, hus, hb, hzr, hTz, hlz, hll, hTl⟩ := hrel
    have HWr := Lib.hid hb
    have hbs := hb.size
    obtain ⟨gk', hgk⟩ : ∃ gk', gk = gk' + 1 := ⟨gk - 1, by omega⟩
    subst hgk
    obtain ⟨vT, hvT, hST⟩ := hus.out.ps
    obtain ⟨tA, tc, rfl⟩ : ∃ A c, vT = .slice A T.length c := ⟨_, _, hST.choose_spec.choose_spec.1⟩
    obtain ⟨b30, b3f⟩ := one_cell hvT
    obtain ⟨b20, -⟩ := one_cell hus.out.r
    clear HU HB1 hb hvT hST
    cases T with
    | nil =>
      have hO : Hid (O = .yes l n) := Lib.hid (by rw [← hun.out]; rfl)
      clear hun
      go_wp2
      go_ret
      rw [hO.out]
      exact ⟨⟨rfl, hus.out.sub, hus.out.run⟩, HWr.out⟩
    | cons x T =>
      by_cases hfull : n = 4096
      · subst hfull
        have hO : Hid (O = .full) := Lib.hid (by rw [← hun.out]; simp [un])
        have HV := Lib.hid (visits_full R p 4096 wr hus.out.run (by omega) (by omega) (by omega))
        clear hun
        go_wp2_with (go_at_call 141; refine HV.out.mono ?_; clear HV; rintro e w1 ⟨rfl, rfl⟩)
        refine ⟨rfl, ?_⟩
        rw [hO.out]
        exact ⟨rfl, HWr.out.trans (below_gr (grown_set wr R 1 _) (by omega) (fun k hk => by injection hk; omega))⟩
      · have hn1 : n + 1 ≤ 4096 := by omega
        have hNr : N0 ≤ wr.heap.size := by omega
        have HV := Lib.hid (visits_ok R p n wr hus.out.run (by omega) (by omega))
        have hus1 := Lib.hid (hus.out.visit hA hNr)
        have HNX := Lib.hid (next_c N0 R p b w.heap.size (w.heap.size + 1) hA l (n + 1) x T _ hus1.out (by simp [World.setCell]; omega))
        have hbv := Lib.hid (below_gr (grown_set wr R 1 (.int .i64 ((n : Int) + 1))) hNr (fun k hk => by injection hk; omega))
        have hdw : decide ((0 : Int) < (T.length : Int) + 1) = true := by simp
        go_upto_region 5 with (first
          | (go_at_call 141; refine HV.out.mono ?_; clear HV; rintro e w1 ⟨rfl, rfl⟩)
          | (go_at_call 140; refine HNX.out.mono ?_; clear HNX; rintro e w2 ⟨⟨A1, c1, A2, c2, rfl, hy1, hy2⟩, hus2, hb2⟩))
        have hbw2 : Below N0 w w2 := (HWr.out.trans hbv.out).trans hb2
        have hz2 : W1.heap.size ≤ w2.heap.size := by have := hbv.out.size; have := hb2.size; omega
        have hxT := hTz.out x (by simp)
        have hy1z : Hid ((wlk l x.1).siz ≤ 1000000) := Lib.hid (wlk_siz hlz.out _ hxT.1)
        have hy2z : Hid ((wlk l x.2).siz ≤ 1000000) := Lib.hid (wlk_siz hlz.out _ hxT.2)
        have hy1w : Hid ((wlk l x.1).Wf) := Lib.hid (wlk_wf hus1.out.sub.wf _ (hus1.out.wf x (by simp)).1)
        have hy2w : Hid ((wlk l x.2).Wf) := Lib.hid (wlk_wf hus1.out.sub.wf _ (hus1.out.wf x (by simp)).2)
        have hTz' : Hid (∀ y ∈ T, y.1.siz ≤ 1000000 ∧ y.2.siz ≤ 1000000) := Lib.hid (fun y hy => hTz.out y (by simp [hy]))
        have hun' := Lib.hid (show (if 4096 < n + 1 then UO.full
    else if (wlk l x.1).k = 1 ∧ (wlk l x.2).k = 1 ∧ (wlk l x.1).n = (wlk l x.2).n then un gk' (n + 1) l T
    else if (wlk l x.1).k = 1 then (match biU l (wlk l x.1).n (wlk l x.2) (n + 1) with | .yes l' n' => un gk' n' l' T | o => o)
    else if (wlk l x.2).k = 1 then (match biU l (wlk l x.2).n (wlk l x.1) (n + 1) with | .yes l' n' => un gk' n' l' T | o => o)
    else if (wlk l x.1).k = (wlk l x.2).k ∧ (wlk l x.1).s = (wlk l x.2).s ∧ (wlk l x.1).n = (wlk l x.2).n ∧ (wlk l x.1).l.length = (wlk l x.2).l.length then un gk' (n + 1) l ((wlk l x.1).l.zip (wlk l x.2).l ++ T)
    else .no) = O from hun.out)
        clear hun hxT
        generalize wlk l x.1 = y1 at hy1 hy2 hun' hy1z hy1w ⊢
        generalize wlk l x.2 = y2 at hy1 hy2 hun' hy2z hy2w ⊢
        have hpb := heap_new w2 (.cells #[.int .u8 y1.k, .string y1.s, .int .i64 y1.n, .slice A1 y1.l.length c1, .int .u8 y2.k, .string y2.s, .int .i64 y2.n, .slice A2 y2.l.length c2] 152)
        have hBa := (Below.refl _ w2).alloc (Nat.le_refl _) (.cells #[.int .u8 y1.k, .string y1.s, .int .i64 y1.n, .slice A1 y1.l.length c1, .int .u8 y2.k, .string y2.s, .int .i64 y2.n, .slice A2 y2.l.length c2] 152)
        have husP := hus2.below hBa
        replace hy1 := hy1.below hBa
        replace hy2 := hy2.below hBa
        have hbW := hbw2.trans (hBa.mono (by have := hbw2.size; omega))
        have hzW : W1.heap.size ≤ (w2.alloc (.cells #[.int .u8 y1.k, .string y1.s, .int .i64 y1.n, .slice A1 y1.l.length c1, .int .u8 y2.k, .string y2.s, .int .i64 y2.n, .slice A2 y2.l.length c2] 152)).heap.size := by simp only [World.size_alloc]; omega
        have hPl : w2.heap.size < (w2.alloc (.cells #[.int .u8 y1.k, .string y1.s, .int .i64 y1.n, .slice A1 y1.l.length c1, .int .u8 y2.k, .string y2.s, .int .i64 y2.n, .slice A2 y2.l.length c2] 152)).heap.size := by simp only [World.size_alloc]; omega
        generalize w2.heap.size = P at hpb hPl ⊢
        generalize w2.alloc _ = W2 at hpb husP hy1 hy2 hbW hzW hPl ⊢
        have HPB := Lib.hid hpb
        have HUP := Lib.hid husP
        have HY1 := Lib.hid hy1
        have HY2 := Lib.hid hy2
        have HBW := Lib.hid hbW
        clear hpb husP hy1 hy2 hbW hbw2 hz2 hus1 hus2 hb2 hBa hbv b30 b3f b20 hus hTz HWr
        go_cut [7, 8] (fun s7 s8 wx => ∃ B7 B8 : Nat, s7 = .pointer (some ⟨B7, 0, none⟩) ∧ s8 = .pointer (some ⟨B8, 0, none⟩) ∧ Hid (UB N0 R p b w.heap.size (w.heap.size + 1) l (n + 1) T B7 B8 y1 y2 (.slice A1 y1.l.length c1) (.slice A2 y2.l.length c2) wx) ∧ Hid (Below N0 w wx) ∧ W1.heap.size ≤ wx.heap.size ∧ Hid (B7 ≠ R ∧ B7 ≠ b ∧ B8 ≠ R ∧ B8 ≠ b ∧ B7 ≠ w.heap.size + 1 ∧ B8 ≠ w.heap.size + 1))
        case first =>
          have hS0 : ∀ W, Below W2.heap.size W2 W → (W.cell? ⟨P, 0, none⟩ = some (.int .u8 y1.k) ∧ W.cell? ⟨P, 1, none⟩ = some (.string y1.s) ∧ W.cell? ⟨P, 2, none⟩ = some (.int .i64 y1.n) ∧ W.cell? ⟨P, 3, none⟩ = some (.slice A1 y1.l.length c1) ∧ W.cell? ⟨P, 4, none⟩ = some (.int .u8 y2.k) ∧ W.cell? ⟨P, 5, none⟩ = some (.string y2.s) ∧ W.cell? ⟨P, 6, none⟩ = some (.int .i64 y2.n) ∧ W.cell? ⟨P, 7, none⟩ = some (.slice A2 y2.l.length c2)) := fun W hW => by
            have := (box8 (block_below hW hPl HPB.out)).1
            exact this
          have HS0 := Lib.hid hS0
          clear hS0
          refine wp_region_held_drew (S := (fun W => W.cell? ⟨P, 0, none⟩ = some (.int .u8 y1.k) ∧ W.cell? ⟨P, 1, none⟩ = some (.string y1.s) ∧ W.cell? ⟨P, 2, none⟩ = some (.int .i64 y1.n) ∧ W.cell? ⟨P, 3, none⟩ = some (.slice A1 y1.l.length c1) ∧ W.cell? ⟨P, 4, none⟩ = some (.int .u8 y2.k) ∧ W.cell? ⟨P, 5, none⟩ = some (.string y2.s) ∧ W.cell? ⟨P, 6, none⟩ = some (.int .i64 y2.n) ∧ W.cell? ⟨P, 7, none⟩ = some (.slice A2 y2.l.length c2))) (by kernel_rfl) ?_ (fun hHeld => ?_)
          · exact HS0.out _ (Below.refl _ W2).drew
          change wpAnyH _ .any _ _ _ 8 (Array.replicate 8 false) _ _
          refine wpAnyH_take (i := 0) (oi := ⟨some 19, _, _, _, _, _⟩) (v := ?_) rfl (by kernel_rfl) (by kernel_rfl) (by kernel_rfl) (fun _ _ _ h => h) (Or.inl ⟨by rfl, ?_⟩) (by assumption) ?_
          rotate_left
          · (intro w hSw; (try dsimp only at hSw); go_simp; try (with_reducible rfl))
          (try simp only [Act.put, List.setIfInBounds_toArray, List.set_cons_zero, List.set_cons_succ])
          refine wpAnyH_take (i := 1) (oi := ⟨some 20, _, _, _, _, _⟩) (v := ?_) rfl (by kernel_rfl) (by kernel_rfl) (by kernel_rfl) (fun _ _ _ h => h) (Or.inl ⟨by rfl, ?_⟩) (by assumption) ?_
          rotate_left
          · (intro w hSw; (try dsimp only at hSw); go_simp; try (with_reducible rfl))
          (try simp only [Act.put, List.setIfInBounds_toArray, List.set_cons_zero, List.set_cons_succ])
          refine wpAnyH_take (i := 2) (oi := ⟨some 21, _, _, _, _, _⟩) (v := ?_) rfl (by kernel_rfl) (by kernel_rfl) (by kernel_rfl) (fun _ _ _ h => h) (Or.inl ⟨by rfl, ?_⟩) (by assumption) ?_
          rotate_left
          · (intro w hSw; (try dsimp only at hSw); go_simp; try (with_reducible rfl))
          (try simp only [Act.put, List.setIfInBounds_toArray, List.set_cons_zero, List.set_cons_succ])
          refine wpAnyH_take (i := 3) (oi := ⟨some 22, _, _, _, _, _⟩) (v := ?_) rfl (by kernel_rfl) (by kernel_rfl) (by kernel_rfl) (fun _ _ _ h => h) (Or.inl ⟨by rfl, ?_⟩) (by assumption) ?_
          rotate_left
          · (intro w hSw; (try dsimp only at hSw); go_simp; try (with_reducible rfl))
          (try simp only [Act.put, List.setIfInBounds_toArray, List.set_cons_zero, List.set_cons_succ])
          refine wpAnyH_ready (rs := [4, 5]) (by kernel_rfl) (by simp) ?_
          refine AllReadyH.cons (o := ⟨some 7, _, _, _, _, _⟩) rfl (fun K hK => ?_) ?_
          · skip
            go_simp
            refine hK.out _ _ (HS0.out _ (((Below.refl _ W2).alloc (Nat.le_refl _) _).drew)) (fun hHeld => ?_)
            clear hK K
            (try simp only [Act.put, List.setIfInBounds_toArray, List.set_cons_zero, List.set_cons_succ])
            refine wpAnyH_ready (rs := [5]) (by kernel_rfl) (by simp) ?_
            refine AllReadyH.cons (o := ⟨some 8, _, _, _, _, _⟩) rfl (fun K hK => ?_) AllReadyH.nil
            go_simp
            refine hK.out _ _ (HS0.out _ ((((Below.refl _ W2).alloc (Nat.le_refl _) _).alloc (by simp) _).drew)) (fun hHeld => ?_)
            clear hK K
            (try simp only [Act.put, List.setIfInBounds_toArray, List.set_cons_zero, List.set_cons_succ])
            refine wpAnyH_ready (rs := [6]) (by kernel_rfl) (by simp) ?_
            refine AllReadyH.cons (o := ⟨none, _, _, _, _, _⟩) rfl (fun K hK => ?_) AllReadyH.nil
            go_simp
            refine hK.out _ _ (HS0.out _ ((((Below.refl _ W2).alloc (Nat.le_refl _) _).alloc (by simp) _).drew)) (fun hHeld => ?_)
            clear hK K
            (try simp only [Act.put, List.setIfInBounds_toArray, List.set_cons_zero, List.set_cons_succ])
            refine wpAnyH_ready (rs := [7]) (by kernel_rfl) (by simp) ?_
            refine AllReadyH.cons (o := ⟨none, _, _, _, _, _⟩) rfl (fun K hK => ?_) AllReadyH.nil
            go_simp
            refine hK.out _ _ (HS0.out _ ((((Below.refl _ W2).alloc (Nat.le_refl _) _).alloc (by simp) _).drew)) (fun hHeld => ?_)
            clear hK K
            (try simp only [Act.put, List.setIfInBounds_toArray, List.set_cons_zero, List.set_cons_succ])
            refine wpAnyH_done (by kernel_rfl) ?_ _
            go_wp2_with fail
            go_meet
            case rel =>
              have hB : Below W2.heap.size W2 (((W2.alloc (.cells #[.int .u8 y1.k, .string y1.s, .int .i64 y1.n, .slice A1 y1.l.length c1] 24)).alloc (.cells #[.int .u8 y2.k, .string y2.s, .int .i64 y2.n, .slice A2 y2.l.length c2] 24)).drew) := ((((Below.refl _ W2).alloc (Nat.le_refl _) _).alloc (by simp) _).drew)
              have hf : (((W2.alloc (.cells #[.int .u8 y1.k, .string y1.s, .int .i64 y1.n, .slice A1 y1.l.length c1] 24)).alloc (.cells #[.int .u8 y2.k, .string y2.s, .int .i64 y2.n, .slice A2 y2.l.length c2] 24)).drew).heap[W2.heap.size]? = some (.cells #[.int .u8 y1.k, .string y1.s, .int .i64 y1.n, .slice A1 y1.l.length c1] 24 (0, 0)) := (Below.heap_alloc _ _ _ (by simp)).trans (heap_new W2 _)
              have hg : (((W2.alloc (.cells #[.int .u8 y1.k, .string y1.s, .int .i64 y1.n, .slice A1 y1.l.length c1] 24)).alloc (.cells #[.int .u8 y2.k, .string y2.s, .int .i64 y2.n, .slice A2 y2.l.length c2] 24)).drew).heap[W2.heap.size + 1]? = some (.cells #[.int .u8 y2.k, .string y2.s, .int .i64 y2.n, .slice A2 y2.l.length c2] 24 (0, 0)) := heap_at _ _ _ (by simp)
              exact ⟨W2.heap.size, W2.heap.size + 1, rfl, rfl, Lib.hid ⟨HUP.out.below hB, hf, hg, HY1.out.below hB, HY2.out.below hB⟩, Lib.hid (HBW.out.trans (hB.mono (by have := HBW.out.size; omega))), by simp [World.size_drew]; omega, Lib.hid (by have := HUP.out.lt; have := HUP.out.sub.lt; refine ⟨?_, ?_, ?_, ?_, ?_, ?_⟩ <;> omega)⟩
          refine AllReadyH.cons (o := ⟨some 8, _, _, _, _, _⟩) rfl (fun K hK => ?_) AllReadyH.nil
          go_simp
          refine hK.out _ _ (HS0.out _ (((Below.refl _ W2).alloc (Nat.le_refl _) _).drew)) (fun hHeld => ?_)
          clear hK K
          (try simp only [Act.put, List.setIfInBounds_toArray, List.set_cons_zero, List.set_cons_succ])
          refine wpAnyH_ready (rs := [4]) (by kernel_rfl) (by simp) ?_
          refine AllReadyH.cons (o := ⟨some 7, _, _, _, _, _⟩) rfl (fun K hK => ?_) AllReadyH.nil
          go_simp
          refine hK.out _ _ (HS0.out _ ((((Below.refl _ W2).alloc (Nat.le_refl _) _).alloc (by simp) _).drew)) (fun hHeld => ?_)
          clear hK K
          (try simp only [Act.put, List.setIfInBounds_toArray, List.set_cons_zero, List.set_cons_succ])
          refine wpAnyH_ready (rs := [6]) (by kernel_rfl) (by simp) ?_
          refine AllReadyH.cons (o := ⟨none, _, _, _, _, _⟩) rfl (fun K hK => ?_) AllReadyH.nil
          go_simp
          refine hK.out _ _ (HS0.out _ ((((Below.refl _ W2).alloc (Nat.le_refl _) _).alloc (by simp) _).drew)) (fun hHeld => ?_)
          clear hK K
          (try simp only [Act.put, List.setIfInBounds_toArray, List.set_cons_zero, List.set_cons_succ])
          refine wpAnyH_ready (rs := [7]) (by kernel_rfl) (by simp) ?_
          refine AllReadyH.cons (o := ⟨none, _, _, _, _, _⟩) rfl (fun K hK => ?_) AllReadyH.nil
          go_simp
          refine hK.out _ _ (HS0.out _ ((((Below.refl _ W2).alloc (Nat.le_refl _) _).alloc (by simp) _).drew)) (fun hHeld => ?_)
          clear hK K
          (try simp only [Act.put, List.setIfInBounds_toArray, List.set_cons_zero, List.set_cons_succ])
          refine wpAnyH_done (by kernel_rfl) ?_ _
          go_wp2_with fail
          go_meet
          case rel =>
            have hB : Below W2.heap.size W2 (((W2.alloc (.cells #[.int .u8 y2.k, .string y2.s, .int .i64 y2.n, .slice A2 y2.l.length c2] 24)).alloc (.cells #[.int .u8 y1.k, .string y1.s, .int .i64 y1.n, .slice A1 y1.l.length c1] 24)).drew) := ((((Below.refl _ W2).alloc (Nat.le_refl _) _).alloc (by simp) _).drew)
            have hf : (((W2.alloc (.cells #[.int .u8 y2.k, .string y2.s, .int .i64 y2.n, .slice A2 y2.l.length c2] 24)).alloc (.cells #[.int .u8 y1.k, .string y1.s, .int .i64 y1.n, .slice A1 y1.l.length c1] 24)).drew).heap[W2.heap.size]? = some (.cells #[.int .u8 y2.k, .string y2.s, .int .i64 y2.n, .slice A2 y2.l.length c2] 24 (0, 0)) := (Below.heap_alloc _ _ _ (by simp)).trans (heap_new W2 _)
            have hg : (((W2.alloc (.cells #[.int .u8 y2.k, .string y2.s, .int .i64 y2.n, .slice A2 y2.l.length c2] 24)).alloc (.cells #[.int .u8 y1.k, .string y1.s, .int .i64 y1.n, .slice A1 y1.l.length c1] 24)).drew).heap[W2.heap.size + 1]? = some (.cells #[.int .u8 y1.k, .string y1.s, .int .i64 y1.n, .slice A1 y1.l.length c1] 24 (0, 0)) := heap_at _ _ _ (by simp)
            exact ⟨W2.heap.size + 1, W2.heap.size, rfl, rfl, Lib.hid ⟨HUP.out.below hB, hg, hf, HY1.out.below hB, HY2.out.below hB⟩, Lib.hid (HBW.out.trans (hB.mono (by have := HBW.out.size; omega))), by simp [World.size_drew]; omega, Lib.hid (by have := HUP.out.lt; have := HUP.out.sub.lt; refine ⟨?_, ?_, ?_, ?_, ?_, ?_⟩ <;> omega)⟩
        case rest =>
          obtain ⟨B7, B8, rfl, rfl, hub, hbx, hzx, hne⟩ := hcut
          have hxs := hbx.out.size
          have hNx : N0 ≤ wc.heap.size := by omega
          obtain ⟨c0, c1', c2', c3, -, -, -, -⟩ := box4 hub.out.h7
          obtain ⟨d0, d1, d2, d3, -, -, -, -⟩ := box4 hub.out.h8
          obtain ⟨b20, -⟩ := one_cell hub.out.us.r
          have HBX := Lib.hid hbx
          have hif : ∀ {a b : UO}, (if 4096 < n + 1 then a else b) = b := fun {a b} => if_neg (by omega)
          have HIF := Lib.hid hun'
          rw [hif] at HIF
          clear hbx hun' hif HUP HY1 HY2 HBW HPB hPl hzW
          have HLL := Lib.hid hll
          have HTL := Lib.hid hTl
          have hbd := fun (q : Int) (y : Tm) (u : Value) (hq : -9223372036854775808 ≤ q ∧ q ≤ 9223372036854775807) (hy : y.Wf) (hS : Kd.tm.S wc (fun i => i < N0) y.l u) => ubind_c l p b R q (fun e => a6.1 e.symm) (fun e => a6.2 e.symm) y (n + 1) (.agg #[.int .u8 y.k, .string y.s, .int .i64 y.n, u]) wc (fun i => i < N0) hub.out.us.sub ⟨u, rfl, hS⟩ hy (fun i hi => ⟨by omega, by omega⟩) hub.out.us.run hn1 hq (by have := HLL.out; omega)
          by_cases k1 : y1.k = 1
          · have hk1 : (y1.k == 1) = true := by simpa using k1
            by_cases hsame : y2.k = 1 ∧ y1.n = y2.n
            · obtain ⟨k2, hnn⟩ := hsame
              have hk2 : (y2.k == 1) = true := by simpa using k2
              have hnn' : (y1.n == y2.n) = true := by simpa using hnn
              rw [if_pos ⟨k1, k2, hnn⟩] at HIF
              clear k1 k2 hnn hbd
              go_wp2
              go_roundg gk'
              case measure => omega
              case rel => exact ⟨n + 1, l, T, HIF, hn1, by omega, Lib.hid hub.out.us, HBX.out, hzx, hTz', hlz, by have := HLL.out; omega, by have := HTL.out; simp only [List.length_cons] at this; omega⟩
            · rw [if_neg (fun h => hsame ⟨h.2.1, h.2.2⟩), if_pos k1] at HIF
              have hG : ((y2.k == 1) = true ∧ (y1.n == y2.n) = false) ∨ (y2.k == 1) = false := by
                by_cases h1 : y2.k = 1
                · left; exact ⟨by simpa using h1, by have : y1.n ≠ y2.n := fun h => hsame ⟨h1, h⟩; simpa using this⟩
                · right; simpa using h1
              have HBI := Lib.hid (hbd y1.n y2 _ hy1w.out.parts.2.1 hy2w.out hub.out.s8)
              have hyes := fun l' n' => biU_yes (l := l) (v := y1.n) (t := y2) (n := n + 1) (l' := l') (n' := n')
              generalize biU l y1.n y2 (n + 1) = O1 at HBI HIF hyes
              have HYES := Lib.hid hyes
              clear hyes hbd hsame k1
              cases O1 with
              | full =>
                have hO : Hid (O = .full) := Lib.hid HIF.out.symm
                rcases hG with ⟨hk2, hnn⟩ | hk2
                all_goals
                  go_wp2_with (go_at_call 142; refine HBI.out.mono ?_; clear HBI; rintro e w5 ⟨rfl, hk5⟩)
                  refine ⟨rfl, ?_⟩
                  rw [hO.out]
                  exact ⟨rfl, HBX.out.trans (below_keeps hk5 hNx a1 a3)⟩
              | no =>
                have hO : Hid (O = .no) := Lib.hid HIF.out.symm
                rcases hG with ⟨hk2, hnn⟩ | hk2
                all_goals
                  go_wp2_with (go_at_call 142; refine HBI.out.mono ?_; clear HBI; rintro e w5 ⟨rfl, hk5⟩)
                  go_ret
                  rw [hO.out]
                  exact ⟨rfl, HBX.out.trans (below_keeps hk5 hNx a1 a3)⟩
              | yes l' n' =>
                obtain ⟨hl', hn'1, hn'2⟩ := HYES.out l' n' rfl
                have hl2 := Lib.hid (fun m t (h : ofB l' m = some t) => bound_siz hl' hlz.out hy2z.out m t h)
                have hl3 : l'.length = l.length + 1 := by rw [hl']; simp
                clear hl'
                rcases hG with ⟨hk2, hnn⟩ | hk2
                all_goals
                  go_wp2_with (go_at_call 142; refine HBI.out.mono ?_; clear HBI; rintro e w5 ⟨⟨rfl, hs5, hr5⟩, hk5⟩)
                  go_roundg gk'
                  case measure => omega
                  case rel => exact ⟨n', l', T, HIF, hn'2, by omega, Lib.hid (hub.out.us.bound hA hNx hs5 hr5 hk5), HBX.out.trans (below_keeps hk5 hNx a1 a3), by have := hk5.size; omega, hTz', hl2, by have := HLL.out; omega, by have := HTL.out; simp only [List.length_cons] at this; omega⟩
          · have hk1 : (y1.k == 1) = false := by simpa using k1
            rw [if_neg (fun h => k1 h.1), if_neg k1] at HIF
            by_cases k2 : y2.k = 1
            · have hk2 : (y2.k == 1) = true := by simpa using k2
              rw [if_pos k2] at HIF
              have HBI := Lib.hid (hbd y2.n y1 _ hy2w.out.parts.2.1 hy1w.out hub.out.s7)
              have hyes := fun l' n' => biU_yes (l := l) (v := y2.n) (t := y1) (n := n + 1) (l' := l') (n' := n')
              generalize biU l y2.n y1 (n + 1) = O1 at HBI HIF hyes
              have HYES := Lib.hid hyes
              clear hyes hbd k1 k2
              cases O1 with
              | full =>
                have hO : Hid (O = .full) := Lib.hid HIF.out.symm
                go_wp2_with (go_at_call 142; refine HBI.out.mono ?_; clear HBI; rintro e w5 ⟨rfl, hk5⟩)
                refine ⟨rfl, ?_⟩
                rw [hO.out]
                exact ⟨rfl, HBX.out.trans (below_keeps hk5 hNx a1 a3)⟩
              | no =>
                have hO : Hid (O = .no) := Lib.hid HIF.out.symm
                go_wp2_with (go_at_call 142; refine HBI.out.mono ?_; clear HBI; rintro e w5 ⟨rfl, hk5⟩)
                go_ret
                rw [hO.out]
                exact ⟨rfl, HBX.out.trans (below_keeps hk5 hNx a1 a3)⟩
              | yes l' n' =>
                obtain ⟨hl', hn'1, hn'2⟩ := HYES.out l' n' rfl
                have hl2 := Lib.hid (fun m t (h : ofB l' m = some t) => bound_siz hl' hlz.out hy1z.out m t h)
                have hl3 : l'.length = l.length + 1 := by rw [hl']; simp
                clear hl'
                go_wp2_with (go_at_call 142; refine HBI.out.mono ?_; clear HBI; rintro e w5 ⟨⟨rfl, hs5, hr5⟩, hk5⟩)
                go_roundg gk'
                case measure => omega
                case rel => exact ⟨n', l', T, HIF, hn'2, by omega, Lib.hid (hub.out.us.bound hA hNx hs5 hr5 hk5), HBX.out.trans (below_keeps hk5 hNx a1 a3), by have := hk5.size; omega, hTz', hl2, by have := HLL.out; omega, by have := HTL.out; simp only [List.length_cons] at this; omega⟩
            · have hk2 : (y2.k == 1) = false := by simpa using k2
              rw [if_neg k2] at HIF
              have hbsz := HBX.out.size
              clear hbd k1 k2
              by_cases hm : y1.k = y2.k ∧ y1.s = y2.s ∧ y1.n = y2.n ∧ y1.l.length = y2.l.length
              · rw [if_pos hm] at HIF
                obtain ⟨m1, m2, m3, m4⟩ := hm
                rw [← m1] at d0
                rw [← m2] at d1
                rw [← m3] at d2
                rw [← m4] at d3
                have hkk : (y1.k != y1.k) = false := by simp
                have hss : y1.s.toList = y1.s.toList := rfl
                have HM4 := Lib.hid m4
                have HM1 := Lib.hid (And.intro m1 (And.intro m2 m3))
                clear m1 m2 m3 m4
                have hL1 : y1.l.length ≤ 1000000 := len_siz hy1z.out
                obtain ⟨vT, hvT, hST⟩ := hub.out.us.ps
                have hB3l := (Array.getElem?_eq_some_iff.1 hvT).1
                have HVT := Lib.hid hvT
                have HST := Lib.hid hST
                have hA1 := hub.out.s7
                have hA2 := hub.out.s8
                obtain ⟨_, _, e1, hc1l, hc1m, hA1⟩ := hA1
                obtain ⟨_, _, e2, hc2l, hc2m, hA2⟩ := hA2
                injection e1 with e11 e12 e13
                injection e2 with e21 e22 e23
                subst e11 e13 e21 e23
                unfold maxLen at hc1m hc2m
                have HA1 := Lib.hid hA1
                have HA2 := Lib.hid hA2
                clear hvT hST hA1 hA2 e12 e22
                go_wp2
                go_loopw [9, 26] (fun o i wr => ∃ j : Nat, j ≤ y1.l.length ∧ i = .int .i64 j ∧ Hid (Kd.pp.Own 152 wr wc.heap.size (fun i => i < N0) ((y1.l.zip y2.l).take j) o) ∧ Below wc.heap.size wc wr) (fun _ i _ => y1.l.length - (intOf i).toNat)
                case atStart => exact ⟨0, Nat.zero_le _, rfl, Lib.hid (by simpa using Kd.Own.nil Kd.pp _ _ _ _), Below.refl _ _⟩
                case round =>
                  obtain ⟨j, hj, rfl, hO, hb⟩ := hrel
                  have hbr := hb.size
                  have hHB := Lib.hid hb
                  have hub' := Lib.hid (hub.out.below hb)
                  obtain ⟨c0, c1', c2', c3, -, -, -, -⟩ := box4 hub'.out.h7
                  obtain ⟨d0, d1, d2, d3, -, -, -, -⟩ := box4 hub'.out.h8
                  rw [← HM1.out.1] at d0
                  rw [← HM1.out.2.1] at d1
                  rw [← HM1.out.2.2] at d2
                  rw [← HM4.out] at d3
                  by_cases hlt : j < y1.l.length
                  · have hlt' : j < y2.l.length := by rw [← HM4.out]; exact hlt
                    obtain ⟨bb, o, u, rfl, hok, hlo, h0, h1, h2, h3, h4⟩ := tm_elem HA1.out hlt
                    obtain ⟨bb', o', u', rfl, hok', hlo', h0', h1', h2', h3', h4'⟩ := tm_elem HA2.out hlt'
                    have g0 := cell_below hb h0 hlo
                    have g1 := cell_below hb h1 hlo
                    have g2 := cell_below hb h2 hlo
                    have g3 := cell_below hb h3 hlo
                    have g0' := cell_below hb h0' hlo'
                    have g1' := cell_below hb h1' hlo'
                    have g2' := cell_below hb h2' hlo'
                    have g3' := cell_below hb h3' hlo'
                    have k4 := Lib.hid (h4.below hb)
                    have k4' := Lib.hid (h4'.below hb)
                    have hzl : j < (y1.l.zip y2.l).length := by rw [List.length_zip]; omega
                    have HMX := Lib.hid (show (y1.l.zip y2.l).take (j + 1) = (y1.l.zip y2.l).take j ++ [(y1.l[j], y2.l[j])] by rw [take_succ_at _ hzl, List.getElem_zip])
                    have HML := Lib.hid (show ((y1.l.zip y2.l).take j).length = j by rw [List.length_take]; omega)
                    have HLT := Lib.hid (Kd.Own.lt hO.out)
                    have hw3 := (box4 hub.out.h7).2.2.2.1
                    have hv3 := (box4 hub.out.h8).2.2.2.1
                    rw [← HM4.out] at hv3
                    have HS10 : Hid (∀ W, Below wc.heap.size wc W → (W.cell? ⟨B7, 3, none⟩ = some (.slice (some ⟨bb, o, none⟩) y1.l.length c1) ∧ W.cell? ⟨B8, 3, none⟩ = some (.slice (some ⟨bb', o', none⟩) y1.l.length c2) ∧ W.cell? ⟨bb, o + j * 4, none⟩ = some (.int .u8 y1.l[j].k) ∧ W.cell? ⟨bb, o + j * 4 + 1, none⟩ = some (.string y1.l[j].s) ∧ W.cell? ⟨bb, o + j * 4 + 2, none⟩ = some (.int .i64 y1.l[j].n) ∧ W.cell? ⟨bb, o + j * 4 + 3, none⟩ = some u ∧ W.cell? ⟨bb', o' + j * 4, none⟩ = some (.int .u8 y2.l[j].k) ∧ W.cell? ⟨bb', o' + j * 4 + 1, none⟩ = some (.string y2.l[j].s) ∧ W.cell? ⟨bb', o' + j * 4 + 2, none⟩ = some (.int .i64 y2.l[j].n) ∧ W.cell? ⟨bb', o' + j * 4 + 3, none⟩ = some u')) := Lib.hid (fun W hW => ⟨cell_below hW hw3 (cell_lt hw3), cell_below hW hv3 (cell_lt hv3), cell_below hW h0 (cell_lt h0), cell_below hW h1 (cell_lt h1), cell_below hW h2 (cell_lt h2), cell_below hW h3 (cell_lt h3), cell_below hW h0' (cell_lt h0'), cell_below hW h1' (cell_lt h1'), cell_below hW h2' (cell_lt h2'), cell_below hW h3' (cell_lt h3')⟩)
                    clear h0 h1 h2 h3 h0' h1' h2' h3' h4 h4' hzl hw3 hv3
                    generalize y1.l[j] = x1 at g0 g1 g2 g3 k4 HMX HS10
                    generalize y2.l[j] = x2 at g0' g1' g2' g3' k4' HMX HS10
                    go_wp2
                    refine wp_region_held_drew (S := (fun W => W.cell? ⟨B7, 3, none⟩ = some (.slice (some ⟨bb, o, none⟩) y1.l.length c1) ∧ W.cell? ⟨B8, 3, none⟩ = some (.slice (some ⟨bb', o', none⟩) y1.l.length c2) ∧ W.cell? ⟨bb, o + j * 4, none⟩ = some (.int .u8 x1.k) ∧ W.cell? ⟨bb, o + j * 4 + 1, none⟩ = some (.string x1.s) ∧ W.cell? ⟨bb, o + j * 4 + 2, none⟩ = some (.int .i64 x1.n) ∧ W.cell? ⟨bb, o + j * 4 + 3, none⟩ = some u ∧ W.cell? ⟨bb', o' + j * 4, none⟩ = some (.int .u8 x2.k) ∧ W.cell? ⟨bb', o' + j * 4 + 1, none⟩ = some (.string x2.s) ∧ W.cell? ⟨bb', o' + j * 4 + 2, none⟩ = some (.int .i64 x2.n) ∧ W.cell? ⟨bb', o' + j * 4 + 3, none⟩ = some u')) (by kernel_rfl) ?_ (fun hHeld => ?_)
                    · exact HS10.out _ hb.drew
                    change wpAnyH _ .any _ _ _ 15 (Array.replicate 15 false) _ _
                    refine wpAnyH_take (i := 0) (oi := ⟨some 29, _, _, _, _, _⟩) (v := ?_) rfl (by kernel_rfl) (by kernel_rfl) (by kernel_rfl) (fun _ _ _ h => h) (Or.inl ⟨by rfl, ?_⟩) (by assumption) ?_
                    rotate_left
                    · (intro w hSw; (try dsimp only at hSw); go_simp; try (with_reducible rfl))
                    (try simp only [Act.put, List.setIfInBounds_toArray, List.set_cons_zero, List.set_cons_succ])
                    refine wpAnyH_take (i := 1) (oi := ⟨some 30, _, _, _, _, _⟩) (v := ?_) rfl (by kernel_rfl) (by kernel_rfl) (by kernel_rfl) (fun _ _ _ h => h) (Or.inl ⟨by rfl, ?_⟩) (by assumption) ?_
                    rotate_left
                    · (intro w hSw; (try dsimp only at hSw); go_simp; try (with_reducible rfl))
                    (try simp only [Act.put, List.setIfInBounds_toArray, List.set_cons_zero, List.set_cons_succ])
                    refine wpAnyH_take (i := 2) (oi := ⟨some 31, _, _, _, _, _⟩) (v := ?_) rfl (by kernel_rfl) (by kernel_rfl) (by kernel_rfl) (fun _ _ _ h => h) (Or.inl ⟨by rfl, ?_⟩) (by assumption) ?_
                    rotate_left
                    · (intro w hSw; (try dsimp only at hSw); go_simp; try (with_reducible rfl))
                    (try simp only [Act.put, List.setIfInBounds_toArray, List.set_cons_zero, List.set_cons_succ])
                    refine wpAnyH_take (i := 3) (oi := ⟨some 32, _, _, _, _, _⟩) (v := ?_) rfl (by kernel_rfl) (by kernel_rfl) (by kernel_rfl) (fun _ _ _ h => h) (Or.inl ⟨by rfl, ?_⟩) (by assumption) ?_
                    rotate_left
                    · (intro w hSw; (try dsimp only at hSw); go_simp; try (with_reducible rfl))
                    (try simp only [Act.put, List.setIfInBounds_toArray, List.set_cons_zero, List.set_cons_succ])
                    refine wpAnyH_take (i := 4) (oi := ⟨some 33, _, _, _, _, _⟩) (v := ?_) rfl (by kernel_rfl) (by kernel_rfl) (by kernel_rfl) (fun _ _ _ h => h) (Or.inl ⟨by rfl, ?_⟩) (by assumption) ?_
                    rotate_left
                    · (intro w hSw; (try dsimp only at hSw); go_simp; try (with_reducible rfl))
                    (try simp only [Act.put, List.setIfInBounds_toArray, List.set_cons_zero, List.set_cons_succ])
                    refine wpAnyH_take (i := 5) (oi := ⟨some 34, _, _, _, _, _⟩) (v := ?_) rfl (by kernel_rfl) (by kernel_rfl) (by kernel_rfl) (fun _ _ _ h => h) (Or.inl ⟨by rfl, ?_⟩) (by assumption) ?_
                    rotate_left
                    · (intro w hSw; (try dsimp only at hSw); go_simp; try (with_reducible rfl))
                    (try simp only [Act.put, List.setIfInBounds_toArray, List.set_cons_zero, List.set_cons_succ])
                    refine wpAnyH_take (i := 6) (oi := ⟨some 35, _, _, _, _, _⟩) (v := ?_) rfl (by kernel_rfl) (by kernel_rfl) (by kernel_rfl) (fun _ _ _ h => h) (Or.inl ⟨by rfl, ?_⟩) (by assumption) ?_
                    rotate_left
                    · (intro w hSw; (try dsimp only at hSw); go_simp; try (with_reducible rfl))
                    (try simp only [Act.put, List.setIfInBounds_toArray, List.set_cons_zero, List.set_cons_succ])
                    refine wpAnyH_take (i := 7) (oi := ⟨some 36, _, _, _, _, _⟩) (v := ?_) rfl (by kernel_rfl) (by kernel_rfl) (by kernel_rfl) (fun _ _ _ h => h) (Or.inl ⟨by rfl, ?_⟩) (by assumption) ?_
                    rotate_left
                    · (intro w hSw; (try dsimp only at hSw); go_simp; try (with_reducible rfl))
                    (try simp only [Act.put, List.setIfInBounds_toArray, List.set_cons_zero, List.set_cons_succ])
                    refine wpAnyH_take (i := 8) (oi := ⟨some 37, _, _, _, _, _⟩) (v := ?_) rfl (by kernel_rfl) (by kernel_rfl) (by kernel_rfl) (fun _ _ _ h => h) (Or.inl ⟨by rfl, ?_⟩) (by assumption) ?_
                    rotate_left
                    · (intro w hSw; (try dsimp only at hSw); go_simp; try (with_reducible rfl))
                    (try simp only [Act.put, List.setIfInBounds_toArray, List.set_cons_zero, List.set_cons_succ])
                    refine wpAnyH_take (i := 9) (oi := ⟨some 38, _, _, _, _, _⟩) (v := ?_) rfl (by kernel_rfl) (by kernel_rfl) (by kernel_rfl) (fun _ _ _ h => h) (Or.inl ⟨by rfl, ?_⟩) (by assumption) ?_
                    rotate_left
                    · (intro w hSw; (try dsimp only at hSw); go_simp; try (with_reducible rfl))
                    (try simp only [Act.put, List.setIfInBounds_toArray, List.set_cons_zero, List.set_cons_succ])
                    refine wpAnyH_take (i := 10) (oi := ⟨some 39, _, _, _, _, _⟩) (v := ?_) rfl (by kernel_rfl) (by kernel_rfl) (by kernel_rfl) (fun _ _ _ h => h) (Or.inl ⟨by rfl, ?_⟩) (by assumption) ?_
                    rotate_left
                    · (intro w hSw; (try dsimp only at hSw); go_simp; try (with_reducible rfl))
                    (try simp only [Act.put, List.setIfInBounds_toArray, List.set_cons_zero, List.set_cons_succ])
                    refine wpAnyH_take (i := 11) (oi := ⟨some 40, _, _, _, _, _⟩) (v := ?_) rfl (by kernel_rfl) (by kernel_rfl) (by kernel_rfl) (fun _ _ _ h => h) (Or.inl ⟨by rfl, ?_⟩) (by assumption) ?_
                    rotate_left
                    · (intro w hSw; (try dsimp only at hSw); go_simp; try (with_reducible rfl))
                    (try simp only [Act.put, List.setIfInBounds_toArray, List.set_cons_zero, List.set_cons_succ])
                    refine wpAnyH_ready (rs := [12]) (by kernel_rfl) (by simp) ?_
                    refine AllReadyH.cons (o := ⟨some 41, _, _, _, _, _⟩) rfl (fun K hK => ?_) AllReadyH.nil
                    go_simp
                    refine hK.out _ _ (HS10.out _ (hb.drew.alloc (by simp only [World.size_drew]; omega) _)) (fun hHeld => ?_)
                    clear hK K
                    (try simp only [Act.put, List.setIfInBounds_toArray, List.set_cons_zero, List.set_cons_succ])
                    refine wpAnyH_ready (rs := [13]) (by kernel_rfl) (by simp) ?_
                    refine AllReadyH.cons (o := ⟨some 42, _, _, _, _, _⟩) rfl (fun K hK => ?_) AllReadyH.nil
                    refine if_t (by rfl) (opwp_of_list (ops := #[]) rfl ?_)
                    refine Kd.append Kd.pp (W := wr.drew) wc.heap.size (fun i => i < N0) rfl (.tmp 29) (.tmp 41) 150 152 (.agg #[.int .u8 0, .string ⟨#[]⟩, .int .i64 0, .slice none 0 0, .int .u8 0, .string ⟨#[]⟩, .int .i64 0, .slice none 0 0]) 112 rfl Tryd.underlying150 Tryd.infoP rfl (by decide) _ ((y1.l.zip y2.l).take j) (x1, x2) [.int .u8 x1.k, .string x1.s, .int .i64 x1.n, u, .int .u8 x2.k, .string x2.s, .int .i64 x2.n, u'] rfl rfl ?hy ?HO2 ?hbase2 ?hl2 ?_
                    case hy => exact ⟨[.int .u8 x1.k, .string x1.s, .int .i64 x1.n, u], [.int .u8 x2.k, .string x2.s, .int .i64 x2.n, u'], rfl, TmK_iff.2 ⟨_, rfl, (k4.out.below (Below.refl _ _).drew).mono (fun i hi => ⟨hi, fun e => by have := (HLT.out _ e.symm).1; omega⟩)⟩, TmK_iff.2 ⟨_, rfl, (k4'.out.below (Below.refl _ _).drew).mono (fun i hi => ⟨hi, fun e => by have := (HLT.out _ e.symm).1; omega⟩)⟩⟩
                    case HO2 => exact Kd.Own.below (Below.refl _ _).drew hO.out
                    case hbase2 => simp only [World.size_drew]; omega
                    case hl2 => rw [HML.out]; omega
                    intro v1 w2 hO1 hg1 hat1
                    obtain ⟨A3, c3, hv1⟩ := Kd.Own.form hO1
                    rw [List.length_append, HML.out, List.length_singleton] at hv1
                    subst hv1
                    have hb2 : Below wc.heap.size wc w2 := below_of_grown (gfresh' (gnone hb.drew) hg1 (fun k hk => (HLT.out k hk).1))
                    change K _ _
                    refine hK.out _ _ (HS10.out _ hb2) (fun hHeld => ?_)
                    clear hK K
                    (try simp only [Act.put, List.setIfInBounds_toArray, List.set_cons_zero, List.set_cons_succ])
                    refine wpAnyH_take (i := 14) (oi := ⟨some 9, _, _, _, _, _⟩) (v := ?_) rfl (by kernel_rfl) (by kernel_rfl) (by kernel_rfl) (fun _ _ _ h => h) (Or.inl ⟨by rfl, ?_⟩) (by assumption) ?_
                    rotate_left
                    · (intro w hSw; (try dsimp only at hSw); go_simp; try (with_reducible rfl))
                    (try simp only [Act.put, List.setIfInBounds_toArray, List.set_cons_zero, List.set_cons_succ])
                    refine wpAnyH_done (by kernel_rfl) ?_ _
                    go_wp2_with fail
                    go_roundw
                    case rel => exact ⟨j + 1, by omega, by go_num, Lib.hid (by rw [HMX.out]; exact hO1), below_of_grown (gfresh' (gnone hb.drew) hg1 (fun k hk => (HLT.out k hk).1))⟩
                    case measure => simp [intOf]; omega
                  · rw [List.take_of_length_le (by rw [List.length_zip]; omega)] at hO
                    have HLT := Lib.hid (Kd.Own.lt hO.out)
                    have hS3 := Lib.hid (HST.out.below hb)
                    obtain ⟨b30, b3f⟩ := one_cell (block_below hb hB3l HVT.out)
                    have hTl1 : T.length + 1 ≤ 1000000 + n * 1000000 := by have := HTL.out; simpa using this
                    have hzl : (y1.l.zip y2.l).length = y1.l.length := by rw [List.length_zip]; have := HM4.out; omega
                    have HZL := Lib.hid hzl
                    clear hzl
                    have ha := hA.a6
                    have HHA := Lib.hid ha
                    clear ha
                    go_wp2_with (at_builtin; refine Kd.appendS Kd.pp (W := wr) wc.heap.size (fun i => i < N0) (fun i => i ≠ R ∧ i ≠ b ∧ i ≠ w.heap.size + 1) (fun i => i < N0) rfl (.tmp 44) (.tmp 45) 150 152 (.agg #[.int .u8 0, .string ⟨#[]⟩, .int .i64 0, .slice none 0 0, .int .u8 0, .string ⟨#[]⟩, .int .i64 0, .slice none 0 0]) 112 rfl Tryd.underlying150 Tryd.infoP rfl (by decide) _ vT (y1.l.zip y2.l) T rfl rfl hO.out hS3.out ?hoky ?hbase2 ?hl2 ?_)
                    case hoky => exact fun z cs hz => Kd.pp.mono (fun i hi => ⟨hi.1, fun e => by have := (HLT.out _ e.symm).1; omega⟩) hz
                    case hbase2 => omega
                    case hl2 => rw [HZL.out]; omega
                    intro v1 w2 hO1 hg1 hat1
                    obtain ⟨A3, c3, hv1⟩ := Kd.Own.form hO1
                    rw [List.length_append, HZL.out] at hv1
                    subst hv1
                    have hb2 : Below wc.heap.size wc w2 := below_of_grown (gfresh' (gnone hb) hg1 (fun k hk => (HLT.out k hk).1))
                    have hB32 := block_below hb2 hB3l HVT.out
                    obtain ⟨e30, e3f⟩ := one_cell hB32
                    have HLT1 := Lib.hid (Kd.Own.lt hO1)
                    have hz2 := hb2.size
                    have hgs := grown_set w2 (w.heap.size + 1) 0 (.slice A3 (y1.l.length + T.length) c3)
                    have hgf : wc.grownBy (w2.setCell ⟨w.heap.size + 1, 0, none⟩ (.slice A3 (y1.l.length + T.length) c3)) (some (w.heap.size + 1)) := ⟨hgs.os.trans hb2.os, hgs.tape.trans hb2.tape, hgs.output.trans hb2.output, Nat.le_trans hb2.size hgs.size, fun k hk hr => (hgs.block k (Nat.lt_of_lt_of_le hk hb2.size) hr).trans (hb2.block k hk)⟩
                    go_wp2_with fail
                    go_roundg gk'
                    case measure => omega
                    case rel =>
                      refine ⟨n + 1, l, y1.l.zip y2.l ++ T, HIF, hn1, by omega, Lib.hid ⟨hub.out.us.sub.grown hgf ?_ ?_ ?_, ?_, ?_, ⟨_, one_set hB32, ?_⟩, ?_⟩, HBX.out.trans (below_gr hgf (by omega) (fun k hk => by injection hk; omega)), by have := hgf.size; omega, ?_, hlz, by have := HLL.out; omega, ?_⟩
                      · exact fun k hk e => by have := hA.a5; injection e; omega
                      · exact fun e => by have := HHA.out; injection e; omega
                      · exact fun e => by have := HHA.out; injection e; omega
                      · exact (hgf.block R (by have := hub.out.us.lt; omega) (fun e => by have := HHA.out; injection e; omega)).trans hub.out.us.run
                      · exact (hgf.block w.heap.size (by have := hub.out.us.lt; omega) (fun e => by injection e; omega)).trans hub.out.us.r
                      · exact ((Kd.Own.move (fun k hk => hgs.block k (by omega) (fun e => by injection e; omega)) (fun k hk => hgs.block k (by have := HLT1.out k hk; omega) (fun e => by have := HLT1.out k hk; injection e; omega)) hO1).S2).mono (fun k hk => by have := HHA.out; have := hub.out.us.lt; have := hub.out.us.sub.lt; omega) (fun k hk => hk.1)
                      · intro z hz
                        rcases List.mem_append.1 hz with hz | hz
                        · have hz := List.of_mem_zip hz
                          exact ⟨WfL_iff.1 hy1w.out.parts.2.2.2 _ hz.1, WfL_iff.1 hy2w.out.parts.2.2.2 _ hz.2⟩
                        · exact hub.out.us.wf z hz
                      · refine Lib.hid (fun z hz => ?_)
                        rcases List.mem_append.1 hz with hz | hz
                        · have hz := List.of_mem_zip hz
                          exact ⟨siz_at hy1z.out hz.1, siz_at hy2z.out hz.2⟩
                        · exact hTz'.out z hz
                      · rw [List.length_append, HZL.out]; omega
              · rw [if_neg hm] at HIF
                have hO : Hid (O = .no) := Lib.hid HIF.out.symm
                clear HIF
                by_cases m1 : y1.k = y2.k
                · rw [← m1] at d0
                  by_cases m2 : y1.s = y2.s
                  · rw [← m2] at d1
                    by_cases m3 : y1.n = y2.n
                    · rw [← m3] at d2
                      have m4 : y1.l.length ≠ y2.l.length := fun e => hm ⟨m1, m2, m3, e⟩
                      have hl4 : ¬ y1.l.length = y2.l.length := m4
                      have hll4 : ((y1.l.length : Int) != (y2.l.length : Int)) = true := by simp; omega
                      clear hm m1 m2 m3 m4
                      go_wp2
                      go_ret
                      rw [hO.out]
                      exact ⟨rfl, HBX.out⟩
                    · have hnn : (y1.n != y2.n) = true := by simpa using m3
                      clear hm m1 m2
                      go_wp2
                      go_ret
                      rw [hO.out]
                      exact ⟨rfl, HBX.out⟩
                  · have hss : ¬ y1.s.toList = y2.s.toList := fun e => m2 (toList_inj e)
                    clear hm m1 m2
                    go_wp2
                    go_ret
                    rw [hO.out]
                    exact ⟨rfl, HBX.out⟩
                · have hkk : (y1.k != y2.k) = true := by simpa using m1
                  clear hm m1
                  go_wp2
                  go_ret
                  rw [hO.out]
                  exact ⟨rfl, HBX.out⟩
end Go.Proofs.YtgcbanljifalnaaDoor

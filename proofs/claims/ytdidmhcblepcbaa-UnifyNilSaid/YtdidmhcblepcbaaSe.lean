/- The law of layer 3 wakes. No condition. -/
import Derived.Test.YtdidmhcblepcbaaSd
import Derived.Test.YtdidmhcblepcbaaKs
set_option linter.unusedVariables false
set_option maxRecDepth 20000
set_option linter.unusedSimpArgs false
namespace Go.Proofs.Ytdidmhcblepcbaa
open Go.RowKit

/-- What is known along a walk: slices of terms, one substitution. -/
structure Ku (w : World) (L : List (List Tm × Value)) (l : Bs) (p b : Nat) (W : World) : Prop where
  ks : Ks w L W
  sub : Sub W (fun _ => True) l p b
  pw : w.heap.size ≤ p
  bw : w.heap.size ≤ b
section
variable {w W W' : World} {L : List (List Tm × Value)} {l l' : Bs} {p b : Nat}
theorem Ku.then (h : Ku w L l p b W) (hb : Below W.heap.size W W') : Ku w L l p b W' := ⟨h.ks.then hb, h.sub.below hb, h.pw, h.bw⟩
theorem Ku.alloc (h : Ku w L l p b W) (O : Obj) : Ku w L l p b (W.alloc O) := h.then ((Below.refl _ W).alloc (Nat.le_refl _) O)
theorem Ku.drew (h : Ku w L l p b W) : Ku w L l p b W.drew := h.then (Below.refl _ W).drew
theorem Ku.below (h : Ku w L l p b W) : Below w.heap.size w W := h.ks.below
theorem Ku.push {ok : Nat → Prop} {x : List Tm} {v : Value} (h : Ku w L l p b W) (hs : Kd.tm.S W ok x v) : Ku w ((x, v) :: L) l p b W := ⟨h.ks.push hs, h.sub, h.pw, h.bw⟩
theorem Ku.get (h : Ku w L l p b W) {x : List Tm} {v : Value} (hm : (x, v) ∈ L) : Kd.tm.S W (fun _ => True) x v := h.ks.all _ hm
theorem Ku.bound {ok : Nat → Prop} (h : Ku w L l p b W) (hs : Sub W' ok l' p b) (hg : W.grownBy W' (some b)) : Ku w L l' p b W' :=
  ⟨⟨below_of_grown (gfresh (r := none) (gnone h.ks.below) hg h.bw), fun x hx => (Kd.S.grown hg (fun k hk e => hk.2 (by injection e)) (Kd.S.apart h.sub.not_cells (h.ks.all x hx))).mono (fun _ _ => trivial)⟩, hs.mono (fun _ _ => trivial), h.pw, h.bw⟩
theorem Ku.F (s : ByteArray) (t : Tm) (x : List Tm) {v : Value} (h : Ku w ((t :: x, v) :: L) l p b W) (hz : x.length ≤ 999999) :
    Calls Try.prog 38 #[.string s, v] W fun e w' => ∃ A c, e = .returned (.agg #[.int .u8 4, .string s, .int .i64 0, .slice A (t :: x).length c]) ∧ Ku w ((t :: x, .slice A (t :: x).length c) :: L) l p b w' ∧ Below W.heap.size W w' :=
  (F_c s (t :: x) v W _ _ (h.get (List.mem_cons_self ..)).S2 (by simp; omega)).mono (fun e w' ⟨⟨r, he, hr⟩, hb⟩ => by
    rw [mkF_cons] at hr
    obtain ⟨u, rfl, hS⟩ := hr
    obtain ⟨A, c, rfl⟩ := hS.form
    have h2 : Ku w L l p b W := ⟨⟨h.ks.below, fun q hq => h.ks.all q (List.mem_cons_of_mem _ hq)⟩, h.sub, h.pw, h.bw⟩
    exact ⟨A, c, he, (h2.then hb).push hS, hb⟩)
/-- Lists that are written out. -/
theorem Ku.one (h : Ku w L l p b W) (t : Tm) (u : Value) (hu : Kd.tm.S W (fun _ => True) t.l u) : Ku w (([t], .slice (some ⟨W.heap.size, 0, none⟩) 1 1) :: L) l p b (W.alloc (.cells #[.int .u8 t.k, .string t.s, .int .i64 t.n, u] 25)) :=
  ⟨h.ks.one t u hu, (h.alloc _).sub, h.pw, h.bw⟩
theorem Ku.two (h : Ku w L l p b W) (t t' : Tm) (u u' : Value) (hu : Kd.tm.S W (fun _ => True) t.l u) (hu' : Kd.tm.S W (fun _ => True) t'.l u') :
    Ku w (([t, t'], .slice (some ⟨W.heap.size, 0, none⟩) 2 2) :: L) l p b (W.alloc (.cells #[.int .u8 t.k, .string t.s, .int .i64 t.n, u, .int .u8 t'.k, .string t'.s, .int .i64 t'.n, u'] 25)) :=
  ⟨h.ks.two t t' u u' hu hu', (h.alloc _).sub, h.pw, h.bw⟩
end
namespace K3
def A (c : UInt8) : Tm := ⟨3, ⟨#[c]⟩, 0, []⟩
def tf : Tm := ⟨4, ⟨#[102]⟩, 0, [kV 1]⟩
def tfa : Tm := ⟨4, ⟨#[102]⟩, 0, [A 97]⟩
def tg : Tm := ⟨4, ⟨#[103]⟩, 0, [kV 0, kV 2]⟩
def tga : Tm := ⟨4, ⟨#[103]⟩, 0, [tfa, kV 2]⟩
def th : Tm := ⟨4, ⟨#[104]⟩, 0, [kV 2]⟩
def l1 : Bs := [(0, tf)]
def l2 : Bs := [(0, tf), (1, A 97)]
theorem f1 : Fn [] 3 tf := by simp [Fn, tf, kV, wlk, wlkN]
theorem f2 (l : Bs) (c : UInt8) : Fn l 3 (A c) := by
  have : wlk l (A c) = A c := wlk_stop (by simp [nxt, A])
  simp only [Fn, this]
  simp [A]
theorem f3 : Fn l2 4 tg := by simp [Fn, tg, l2, kV, A, tf, wlk, wlkN, nxt, ofB]
theorem f4 : Fn l2 4 th := by simp [Fn, th, l2, kV, A, tf, wlk, wlkN, nxt, ofB]
theorem b1 : bindE [] 0 (vis [] 3 tf) = 0 := by kernel_rfl
theorem b2 : bindE l1 1 (vis l1 3 (A 97)) = 0 := by kernel_rfl
theorem b3 : bindE l2 0 (vis l2 3 (A 98)) = 1 := by kernel_rfl
theorem b4 : bindE l2 2 (vis l2 4 th) = 1 := by kernel_rfl
theorem n1 : bnd [] 0 tf (vis [] 3 tf) = l1 := bindE_eq b1 _
theorem n2 : bnd l1 1 (A 97) (vis l1 3 (A 97)) = l2 := bindE_eq b2 _
theorem n3 : bnd l2 0 (A 98) (vis l2 3 (A 98)) = l2 := bindE_ne (by rw [b3]; decide) _
theorem n4 : bnd l2 2 th (vis l2 4 th) = l2 := bindE_ne (by rw [b4]; decide) _
theorem a1 : appE (vis l2 4 tg) (app l2 4 tg) = (⟨4, ⟨#[103]⟩, 0, [tfa, kV 2]⟩, 0) := by kernel_rfl
theorem w1 : wlk l2 (kV 0) = ⟨4, ⟨#[102]⟩, 0, [kV 1]⟩ := by kernel_rfl
theorem wfA (c : UInt8) : (A c).Wf := by simp [A, Tm.Wf, WfL, ByteArray.size]
theorem wft (c : UInt8) (n : Int) (hn : 0 ≤ n) (hn2 : n ≤ 9) : Tm.Wf ⟨4, ⟨#[c]⟩, 0, [kV n]⟩ := by simp [kV, Tm.Wf, WfL, ByteArray.size]; omega
theorem wfg : tg.Wf := by simp [tg, kV, Tm.Wf, WfL, ByteArray.size]
theorem sm2 : ∀ n t, ofB l2 n = some t → t.siz ≤ 1000000 := fun n t h => by
  have := ofB_mem h
  simp only [l2, List.mem_cons, List.not_mem_nil, or_false, Prod.mk.injEq] at this
  rcases this with ⟨-, rfl⟩ | ⟨-, rfl⟩
  · simp [tf, kV, Tm.siz, sizL]
  · simp [A, Tm.siz, sizL]
end K3
/-- Two boxes, and what is known. -/
structure K4 (w : World) (L : List (List Tm × Value)) (p b B1 B2 : Nat) (A8 : Option Addr) (c8 : Nat) (A9 : Option Addr) (c9 : Nat) (W : World) : Prop where
  ku : Ku w L K3.l2 p b W
  x1 : W.heap[B1]? = some (.cells #[.int .u8 4, .string ⟨#[103]⟩, .int .i64 0, .slice A8 2 c8] 25 (0, 0))
  x2 : W.heap[B2]? = some (.cells #[.int .u8 4, .string ⟨#[102]⟩, .int .i64 0, .slice A9 1 c9] 25 (0, 0))
section
variable {w W W' : World} {L L' : List (List Tm × Value)} {p b B1 B2 : Nat} {A8 A9 : Option Addr} {c8 c9 : Nat}
theorem K4.move (h : K4 w L p b B1 B2 A8 c8 A9 c9 W) (hk : Ku w L' K3.l2 p b W') (hg : W.grownBy W' (some b)) : K4 w L' p b B1 B2 A8 c8 A9 c9 W' :=
  ⟨hk, (hg.block _ (Array.getElem?_eq_some_iff.1 h.x1).1 (fun e => by injection e with e; exact h.ku.sub.not_cells _ _ _ (e ▸ h.x1))).trans h.x1, (hg.block _ (Array.getElem?_eq_some_iff.1 h.x2).1 (fun e => by injection e with e; exact h.ku.sub.not_cells _ _ _ (e ▸ h.x2))).trans h.x2⟩
theorem K4.then (h : K4 w L p b B1 B2 A8 c8 A9 c9 W) (hb : Below W.heap.size W W') : K4 w L p b B1 B2 A8 c8 A9 c9 W' := h.move (h.ku.then hb) (gnone hb)
theorem K4.to (h : K4 w L p b B1 B2 A8 c8 A9 c9 W) (hk : Ku w L' K3.l2 p b W') (hb : Below W.heap.size W W') : K4 w L' p b B1 B2 A8 c8 A9 c9 W' := h.move hk (gnone hb)
theorem K4.bind {ok : Nat → Prop} (h : K4 w L p b B1 B2 A8 c8 A9 c9 W) (hs : Sub W' ok K3.l2 p b) (hg : W.grownBy W' (some b)) : K4 w L p b B1 B2 A8 c8 A9 c9 W' := h.move (h.ku.bound hs hg) hg
theorem K4.cells (h : K4 w L p b B1 B2 A8 c8 A9 c9 W) : W.cell? ⟨B1, 0, none⟩ = some (.int .u8 4) ∧ W.cell? ⟨B1, 1, none⟩ = some (.string ⟨#[103]⟩) ∧ W.cell? ⟨B1, 2, none⟩ = some (.int .i64 0) ∧ W.cell? ⟨B1, 3, none⟩ = some (.slice A8 2 c8) ∧ W.cell? ⟨B2, 1, none⟩ = some (.string ⟨#[102]⟩) :=
  ⟨(box4 h.x1).1, (box4 h.x1).2.1, (box4 h.x1).2.2.1, (box4 h.x1).2.2.2.1, (box4 h.x2).2.1⟩
end
set_option maxRecDepth 100000 in
set_option maxHeartbeats 8000000 in
theorem wakes03_c (w : World) :
    Calls Try.prog 14 #[] w fun e w' => e = .returned (.bool true) ∧ Below w.heap.size w w' := by
  have m1 : Hid (0 = 0) := Lib.hid rfl
  have m2 : Hid (0 = 0) := Lib.hid rfl
  go_enter Try.func14, Try.ntmps14
  go_wp2_with (first
    | (go_at_call 46; refine (New_c _ (fun _ => True)).mono ?_; rintro e w1 ⟨⟨p, b, rfl, hs, hp, hb⟩, hb1⟩; have hk : Ku w [] [] p b w1 := ⟨⟨hb1, fun q hq => by cases hq⟩, hs, hp, hb⟩; clear hs hb1)
    | (go_at_call 24; refine (V_c _ _ (fun _ => True)).mono ?_; rintro e w2 ⟨rfl, hb1⟩; replace hk := hk.then hb1; clear hb1)
    | (go_at_call_has 38 (ByteArray.mk #[102]); refine ((hk.one (kV 1) _ (Kd.S.nil _ _ _)).F ⟨#[102]⟩ (kV 1) [] (by simp)).mono ?_; rintro e w3 ⟨fA, fc, rfl, hk2, -⟩; replace hk := hk2; clear hk2)
    | (go_at_call 25; have hx := m1.out; clear hx m1; have hq := Bind_c [] p b 3 0 K3.tf _ _ _ hk.sub ⟨_, rfl, hk.get (List.mem_cons_self ..)⟩ (K3.wft _ _ (by omega) (by omega)) K3.f1 (by omega) (by simp); rw [K3.b1, K3.n1] at hq; refine hq.mono ?_; clear hq; rintro e w4 ⟨rfl, hs4, hg4⟩; replace hk := hk.bound hs4 hg4; clear hs4 hg4)
    | (go_at_call 47; refine (A_c _ _ (fun _ => True)).mono ?_; rintro e w5 ⟨rfl, hb1⟩; replace hk := hk.then hb1; clear hb1)
    | (go_at_call 25; have hq := Bind_c K3.l1 p b 3 1 (K3.A 97) _ _ _ hk.sub ⟨_, rfl, Kd.S.nil _ _ _⟩ (K3.wfA _) (K3.f2 _ _) (by omega) (by simp [K3.l1]); rw [K3.b2, K3.n2] at hq; refine hq.mono ?_; clear hq; rintro e w6 ⟨rfl, hs4, hg4⟩; replace hk := hk.bound hs4 hg4; clear hs4 hg4)
    | (go_at_call 38; refine ((hk.two (kV 0) (kV 2) _ _ (Kd.S.nil _ _ _) (Kd.S.nil _ _ _)).F ⟨#[103]⟩ (kV 0) [kV 2] (by simp)).mono ?_; rintro e w7 ⟨gA, gc, rfl, hk2, -⟩; replace hk := hk2; clear hk2)
    | (go_at_call 21; have hq := Apply_c K3.l2 p b 4 K3.tg _ _ _ hk.sub ⟨_, rfl, hk.get (List.mem_cons_self ..)⟩ K3.wfg K3.f3 K3.sm2 (by simp [K3.tg, kV, Tm.siz, sizL]); rw [K3.a1] at hq; refine hq.mono ?_; clear hq; rintro e w8 ⟨⟨u8, rfl, uu8, rfl, hu8⟩, hb8⟩; obtain ⟨A8, c8, rfl⟩ := hu8.form; replace hk := (hk.then hb8).push hu8; clear hu8 hb8)
    | (go_at_call 24; refine (V_c _ _ (fun _ => True)).mono ?_; rintro e w9 ⟨rfl, hb9⟩; have hx9 := block_below hb9 (by simp) (heap_new w8 _); replace hk := (hk.alloc _).then hb9; have hz9 := hb9.size; rw [World.size_alloc] at hz9; clear hb9)
    | (go_at_call 17; have hq := fun W (hsW : Sub W (fun _ => True) K3.l2 p b) => Walk_c K3.l2 p b (kV 0) _ W _ hsW ⟨_, rfl, Kd.S.nil _ _ _⟩ (by simp [kV, Tm.Wf, WfL, ByteArray.size]); rw [K3.w1] at hq; refine (hq _ hk.sub).mono ?_; clear hq; rintro e w10 ⟨⟨u9, rfl, uu9, rfl, hu9⟩, hb10⟩; obtain ⟨A9, c9, rfl⟩ := hu9.form; replace hk := (hk.then hb10).alloc (.cells #[.int .u8 4, .string ⟨#[102]⟩, .int .i64 0, .slice A9 1 c9] 25); replace hx9 := block_below ((Below.refl _ w10).alloc (Nat.le_refl _) (.cells #[.int .u8 4, .string ⟨#[102]⟩, .int .i64 0, .slice A9 1 c9] 25)) (by have := hb10.size; omega) (block_below hb10 (by omega) hx9)))
  have h4 : K4 w _ p b w8.heap.size w10.heap.size A8 c8 A9 c9 _ := ⟨hk, hx9, heap_new w10 _⟩
  clear hk hx9
  generalize w10.alloc _ = W0 at h4 ⊢
  refine wp_region_held_drew (S := (fun W => W.cell? ⟨w8.heap.size, 0, none⟩ = some (.int .u8 4) ∧ W.cell? ⟨w8.heap.size, 1, none⟩ = some (.string ⟨#[103]⟩) ∧ W.cell? ⟨w8.heap.size, 2, none⟩ = some (.int .i64 0) ∧ W.cell? ⟨w8.heap.size, 3, none⟩ = some (.slice A8 2 c8) ∧ W.cell? ⟨w10.heap.size, 1, none⟩ = some (.string ⟨#[102]⟩))) (by kernel_rfl) ?_ (fun hHeld => ?_)
  · exact (h4.then (Below.refl _ W0).drew).cells
  change wpAnyH _ .any _ _ _ 37 (Array.replicate 37 false) _ _
  refine wpAnyH_take (i := 0) (oi := ⟨some 30, _, _, _, _, _⟩) (v := ?_) rfl (by kernel_rfl) (by kernel_rfl) (by kernel_rfl) (fun _ _ _ h => h) (Or.inl ⟨by rfl, ?_⟩) (by assumption) ?_
  rotate_left
  · (intro w hSw; (try dsimp only at hSw); go_simp; try (with_reducible rfl))
  (try simp only [Act.put, List.setIfInBounds_toArray, List.set_cons_zero, List.set_cons_succ])
  refine wpAnyH_take (i := 1) (oi := ⟨some 31, _, _, _, _, _⟩) (v := ?_) rfl (by kernel_rfl) (by kernel_rfl) (by kernel_rfl) (fun _ _ _ h => h) (Or.inl ⟨by rfl, ?_⟩) (by assumption) ?_
  rotate_left
  · (intro w hSw; (try dsimp only at hSw); go_simp; try (with_reducible rfl))
  (try simp only [Act.put, List.setIfInBounds_toArray, List.set_cons_zero, List.set_cons_succ])
  refine wpAnyH_take (i := 2) (oi := ⟨some 32, _, _, _, _, _⟩) (v := ?_) rfl (by kernel_rfl) (by kernel_rfl) (by kernel_rfl) (fun _ _ _ h => h) (Or.inl ⟨by rfl, ?_⟩) (by assumption) ?_
  rotate_left
  · (intro w hSw; (try dsimp only at hSw); go_simp; try (with_reducible rfl))
  (try simp only [Act.put, List.setIfInBounds_toArray, List.set_cons_zero, List.set_cons_succ])
  refine wpAnyH_take (i := 3) (oi := ⟨some 33, _, _, _, _, _⟩) (v := ?_) rfl (by kernel_rfl) (by kernel_rfl) (by kernel_rfl) (fun _ _ _ h => h) (Or.inl ⟨by rfl, ?_⟩) (by assumption) ?_
  rotate_left
  · (intro w hSw; (try dsimp only at hSw); go_simp; try (with_reducible rfl))
  (try simp only [Act.put, List.setIfInBounds_toArray, List.set_cons_zero, List.set_cons_succ])
  replace h4 := h4.then (Below.refl _ W0).drew
  refine wpAnyH_ready (rs := [4]) (by kernel_rfl) (by simp) ?_
  refine AllReadyH.cons (o := ⟨some 34, _, _, _, _, _⟩) rfl (fun K hK => ?_) AllReadyH.nil
  go_simp
  go_at_call 47
  refine (A_c _ _ (fun _ => True)).mono ?_
  rintro e w2 ⟨rfl, hb1⟩
  replace h4 := h4.then hb1
  clear hb1
  go_wp2_with fail
  refine hK.out _ _ h4.cells (fun hHeld => ?_)
  clear hK K
  (try simp only [Act.put, List.setIfInBounds_toArray, List.set_cons_zero, List.set_cons_succ])
  have hk5 := h4.ku.one (K3.A 97) _ (Kd.S.nil _ _ _)
  refine wpAnyH_ready (rs := [5]) (by kernel_rfl) (by simp) ?_
  refine AllReadyH.cons (o := ⟨some 35, _, _, _, _, _⟩) rfl (fun K hK => ?_) AllReadyH.nil
  go_simp
  refine hK.out _ _ (h4.to hk5 ((Below.refl _ _).alloc (Nat.le_refl _) _)).cells (fun hHeld => ?_)
  clear hK K
  (try simp only [Act.put, List.setIfInBounds_toArray, List.set_cons_zero, List.set_cons_succ])
  replace h4 := h4.to hk5 ((Below.refl _ _).alloc (Nat.le_refl _) _)
  clear hk5
  refine wpAnyH_ready (rs := [6]) (by kernel_rfl) (by simp) ?_
  refine AllReadyH.cons (o := ⟨some 36, _, _, _, _, _⟩) rfl (fun K hK => ?_) AllReadyH.nil
  go_simp
  go_at_call 38
  refine (h4.ku.F ⟨#[102]⟩ (K3.A 97) [] (by simp)).mono ?_
  rintro e w3 ⟨fA, fc, rfl, hk2, hb1⟩
  replace h4 := h4.to hk2 hb1
  clear hk2 hb1
  go_wp2_with fail
  refine hK.out _ _ h4.cells (fun hHeld => ?_)
  clear hK K
  (try simp only [Act.put, List.setIfInBounds_toArray, List.set_cons_zero, List.set_cons_succ])
  refine wpAnyH_ready (rs := [7]) (by kernel_rfl) (by simp) ?_
  refine AllReadyH.cons (o := ⟨some 37, _, _, _, _, _⟩) rfl (fun K hK => ?_) AllReadyH.nil
  go_simp
  go_at_call 24
  refine (V_c _ _ (fun _ => True)).mono ?_
  rintro e w2 ⟨rfl, hb1⟩
  replace h4 := h4.then hb1
  clear hb1
  go_wp2_with fail
  refine hK.out _ _ h4.cells (fun hHeld => ?_)
  clear hK K
  (try simp only [Act.put, List.setIfInBounds_toArray, List.set_cons_zero, List.set_cons_succ])
  have hk5 := h4.ku.two K3.tfa (kV 2) _ _ (h4.ku.get (List.mem_cons_self ..)) (Kd.S.nil _ _ _)
  refine wpAnyH_ready (rs := [8]) (by kernel_rfl) (by simp) ?_
  refine AllReadyH.cons (o := ⟨some 38, _, _, _, _, _⟩) rfl (fun K hK => ?_) AllReadyH.nil
  go_simp
  refine hK.out _ _ (h4.to hk5 ((Below.refl _ _).alloc (Nat.le_refl _) _)).cells (fun hHeld => ?_)
  clear hK K
  (try simp only [Act.put, List.setIfInBounds_toArray, List.set_cons_zero, List.set_cons_succ])
  replace h4 := h4.to hk5 ((Below.refl _ _).alloc (Nat.le_refl _) _)
  clear hk5
  refine wpAnyH_ready (rs := [9]) (by kernel_rfl) (by simp) ?_
  refine AllReadyH.cons (o := ⟨some 39, _, _, _, _, _⟩) rfl (fun K hK => ?_) AllReadyH.nil
  go_simp
  go_at_call 38
  refine (h4.ku.F ⟨#[103]⟩ K3.tfa [kV 2] (by simp)).mono ?_
  rintro e w3 ⟨fA, fc, rfl, hk2, hb1⟩
  replace h4 := h4.to hk2 hb1
  clear hk2 hb1
  go_wp2_with fail
  refine hK.out _ _ h4.cells (fun hHeld => ?_)
  clear hK K
  (try simp only [Act.put, List.setIfInBounds_toArray, List.set_cons_zero, List.set_cons_succ])
  refine wpAnyH_ready (rs := [10]) (by kernel_rfl) (by simp) ?_
  refine AllReadyH.cons (o := ⟨some 40, _, _, _, _, _⟩) rfl (fun K hK => ?_) AllReadyH.nil
  go_simp
  go_at_call 16
  have hq := Same_c K3.tga K3.tga _ (fun _ => True) (fun _ => True) _ _ ⟨_, rfl, h4.ku.get (List.mem_cons_of_mem _ (List.mem_cons_of_mem _ (List.mem_cons_self ..)))⟩ ⟨_, rfl, h4.ku.get (List.mem_cons_self ..)⟩
  rw [(Tm.eqb_iff K3.tga K3.tga).2 rfl] at hq
  refine hq.mono ?_
  clear hq
  rintro e w4 ⟨rfl, hb1⟩
  replace h4 := h4.then hb1
  clear hb1
  go_wp2_with fail
  refine hK.out _ _ h4.cells (fun hHeld => ?_)
  clear hK K
  (try simp only [Act.put, List.setIfInBounds_toArray, List.set_cons_zero, List.set_cons_succ])
  refine wpAnyH_take (i := 11) (oi := ⟨some 41, _, _, _, _, _⟩) (v := ?_) rfl (by kernel_rfl) (by kernel_rfl) (by kernel_rfl) (fun _ _ _ h => h) (Or.inl ⟨by rfl, ?_⟩) (by assumption) ?_
  rotate_left
  · (intro w hSw; (try dsimp only at hSw); go_simp; try (with_reducible rfl))
  (try simp only [Act.put, List.setIfInBounds_toArray, List.set_cons_zero, List.set_cons_succ])
  refine wpAnyH_take (i := 12) (oi := ⟨some 42, _, _, _, _, _⟩) (v := ?_) rfl (by kernel_rfl) (by kernel_rfl) (by kernel_rfl) (fun _ _ _ h => h) (Or.inl ⟨by rfl, ?_⟩) (by assumption) ?_
  rotate_left
  · (intro w hSw; (try dsimp only at hSw); go_simp; try (with_reducible rfl))
  (try simp only [Act.put, List.setIfInBounds_toArray, List.set_cons_zero, List.set_cons_succ])
  refine wpAnyH_take (i := 13) (oi := ⟨some 43, _, _, _, _, _⟩) (v := ?_) rfl (by kernel_rfl) (by kernel_rfl) (by kernel_rfl) (fun _ _ _ h => h) (Or.inl ⟨by rfl, ?_⟩) (by assumption) ?_
  rotate_left
  · (intro w hSw; (try dsimp only at hSw); go_simp; try (with_reducible rfl))
  (try simp only [Act.put, List.setIfInBounds_toArray, List.set_cons_zero, List.set_cons_succ])
  refine wpAnyH_take (i := 14) (oi := ⟨some 44, _, _, _, _, _⟩) (v := ?_) rfl (by kernel_rfl) (by kernel_rfl) (by kernel_rfl) (fun _ _ _ h => h) (Or.inl ⟨by rfl, ?_⟩) (by assumption) ?_
  rotate_left
  · (intro w hSw; (try dsimp only at hSw); go_simp; try (with_reducible rfl))
  (try simp only [Act.put, List.setIfInBounds_toArray, List.set_cons_zero, List.set_cons_succ])
  refine wpAnyH_take (i := 15) (oi := ⟨some 45, _, _, _, _, _⟩) (v := ?_) rfl (by kernel_rfl) (by kernel_rfl) (by kernel_rfl) (fun _ _ _ h => h) (Or.inl ⟨by rfl, ?_⟩) (by assumption) ?_
  rotate_left
  · (intro w hSw; (try dsimp only at hSw); go_simp; try (with_reducible rfl))
  (try simp only [Act.put, List.setIfInBounds_toArray, List.set_cons_zero, List.set_cons_succ])
  refine wpAnyH_take (i := 16) (oi := ⟨some 46, _, _, _, _, _⟩) (v := ?_) rfl (by kernel_rfl) (by kernel_rfl) (by kernel_rfl) (fun _ _ _ h => h) (Or.inl ⟨by rfl, ?_⟩) (by assumption) ?_
  rotate_left
  · (intro w hSw; (try dsimp only at hSw); go_simp; try (with_reducible rfl))
  (try simp only [Act.put, List.setIfInBounds_toArray, List.set_cons_zero, List.set_cons_succ])
  refine wpAnyH_take (i := 17) (oi := ⟨some 47, _, _, _, _, _⟩) (v := ?_) rfl (by kernel_rfl) (by kernel_rfl) (by kernel_rfl) (fun _ _ _ h => h) (Or.inl ⟨by rfl, ?_⟩) (by assumption) ?_
  rotate_left
  · (intro w hSw; (try dsimp only at hSw); go_simp; try (with_reducible rfl))
  (try simp only [Act.put, List.setIfInBounds_toArray, List.set_cons_zero, List.set_cons_succ])
  refine wpAnyH_take (i := 18) (oi := ⟨some 48, _, _, _, _, _⟩) (v := ?_) rfl (by kernel_rfl) (by kernel_rfl) (by kernel_rfl) (fun _ _ _ h => h) (Or.inl ⟨by rfl, ?_⟩) (by assumption) ?_
  rotate_left
  · (intro w hSw; (try dsimp only at hSw); go_simp; try (with_reducible rfl))
  (try simp only [Act.put, List.setIfInBounds_toArray, List.set_cons_zero, List.set_cons_succ])
  refine wpAnyH_ready (rs := [19]) (by kernel_rfl) (by simp) ?_
  refine AllReadyH.cons (o := ⟨some 49, _, _, _, _, _⟩) rfl (fun K hK => ?_) AllReadyH.nil
  go_simp
  go_at_call 47
  refine (A_c _ _ (fun _ => True)).mono ?_
  rintro e w2 ⟨rfl, hb1⟩
  replace h4 := h4.then hb1
  clear hb1
  go_wp2_with fail
  refine hK.out _ _ h4.cells (fun hHeld => ?_)
  clear hK K
  (try simp only [Act.put, List.setIfInBounds_toArray, List.set_cons_zero, List.set_cons_succ])
  refine wpAnyH_ready (rs := [20]) (by kernel_rfl) (by simp) ?_
  refine AllReadyH.cons (o := ⟨some 50, _, _, _, _, _⟩) rfl (fun K hK => ?_) AllReadyH.nil
  go_simp
  go_at_call 25
  have hq := Bind_c K3.l2 p b 3 0 (K3.A 98) _ _ _ h4.ku.sub ⟨_, rfl, Kd.S.nil _ _ _⟩ (K3.wfA _) (K3.f2 _ _) (by omega) (by simp [K3.l2])
  rw [K3.b3, K3.n3] at hq
  refine hq.mono ?_
  clear hq
  rintro e w6 ⟨rfl, hs6, hg6⟩
  replace h4 := h4.bind hs6 hg6
  clear hs6 hg6
  go_wp2_with fail
  refine hK.out _ _ h4.cells (fun hHeld => ?_)
  clear hK K
  (try simp only [Act.put, List.setIfInBounds_toArray, List.set_cons_zero, List.set_cons_succ])
  refine wpAnyH_take (i := 21) (oi := ⟨some 51, _, _, _, _, _⟩) (v := ?_) rfl (by kernel_rfl) (by kernel_rfl) (by kernel_rfl) (fun _ _ _ h => h) (Or.inl ⟨by rfl, ?_⟩) (by assumption) ?_
  rotate_left
  · (intro w hSw; (try dsimp only at hSw); go_simp; try (with_reducible rfl))
  (try simp only [Act.put, List.setIfInBounds_toArray, List.set_cons_zero, List.set_cons_succ])
  refine wpAnyH_take (i := 22) (oi := ⟨some 52, _, _, _, _, _⟩) (v := ?_) rfl (by kernel_rfl) (by kernel_rfl) (by kernel_rfl) (fun _ _ _ h => h) (Or.inl ⟨by rfl, ?_⟩) (by assumption) ?_
  rotate_left
  · (intro w hSw; (try dsimp only at hSw); go_simp; try (with_reducible rfl))
  (try simp only [Act.put, List.setIfInBounds_toArray, List.set_cons_zero, List.set_cons_succ])
  refine wpAnyH_take (i := 23) (oi := ⟨some 53, _, _, _, _, _⟩) (v := ?_) rfl (by kernel_rfl) (by kernel_rfl) (by kernel_rfl) (fun _ _ _ h => h) (Or.inl ⟨by rfl, ?_⟩) (by assumption) ?_
  rotate_left
  · (intro w hSw; (try dsimp only at hSw); go_simp; try (with_reducible rfl))
  (try simp only [Act.put, List.setIfInBounds_toArray, List.set_cons_zero, List.set_cons_succ])
  refine wpAnyH_take (i := 24) (oi := ⟨some 54, _, _, _, _, _⟩) (v := ?_) rfl (by kernel_rfl) (by kernel_rfl) (by kernel_rfl) (fun _ _ _ h => h) (Or.inl ⟨by rfl, ?_⟩) (by assumption) ?_
  rotate_left
  · (intro w hSw; (try dsimp only at hSw); go_simp; try (with_reducible rfl))
  (try simp only [Act.put, List.setIfInBounds_toArray, List.set_cons_zero, List.set_cons_succ])
  refine wpAnyH_ready (rs := [25]) (by kernel_rfl) (by simp) ?_
  refine AllReadyH.cons (o := ⟨some 55, _, _, _, _, _⟩) rfl (fun K hK => ?_) AllReadyH.nil
  go_simp
  go_at_call 24
  refine (V_c _ _ (fun _ => True)).mono ?_
  rintro e w2 ⟨rfl, hb1⟩
  replace h4 := h4.then hb1
  clear hb1
  go_wp2_with fail
  refine hK.out _ _ h4.cells (fun hHeld => ?_)
  clear hK K
  (try simp only [Act.put, List.setIfInBounds_toArray, List.set_cons_zero, List.set_cons_succ])
  have hk5 := h4.ku.one (kV 2) _ (Kd.S.nil _ _ _)
  refine wpAnyH_ready (rs := [26]) (by kernel_rfl) (by simp) ?_
  refine AllReadyH.cons (o := ⟨some 56, _, _, _, _, _⟩) rfl (fun K hK => ?_) AllReadyH.nil
  go_simp
  refine hK.out _ _ (h4.to hk5 ((Below.refl _ _).alloc (Nat.le_refl _) _)).cells (fun hHeld => ?_)
  clear hK K
  (try simp only [Act.put, List.setIfInBounds_toArray, List.set_cons_zero, List.set_cons_succ])
  replace h4 := h4.to hk5 ((Below.refl _ _).alloc (Nat.le_refl _) _)
  clear hk5
  refine wpAnyH_ready (rs := [27]) (by kernel_rfl) (by simp) ?_
  refine AllReadyH.cons (o := ⟨some 57, _, _, _, _, _⟩) rfl (fun K hK => ?_) AllReadyH.nil
  go_simp
  go_at_call 38
  refine (h4.ku.F ⟨#[104]⟩ (kV 2) [] (by simp)).mono ?_
  rintro e w3 ⟨fA, fc, rfl, hk2, hb1⟩
  replace h4 := h4.to hk2 hb1
  clear hk2 hb1
  go_wp2_with fail
  refine hK.out _ _ h4.cells (fun hHeld => ?_)
  clear hK K
  (try simp only [Act.put, List.setIfInBounds_toArray, List.set_cons_zero, List.set_cons_succ])
  refine wpAnyH_ready (rs := [28]) (by kernel_rfl) (by simp) ?_
  refine AllReadyH.cons (o := ⟨some 58, _, _, _, _, _⟩) rfl (fun K hK => ?_) AllReadyH.nil
  go_simp
  go_at_call 25
  have hq := Bind_c K3.l2 p b 4 2 K3.th _ _ _ h4.ku.sub ⟨_, rfl, h4.ku.get (List.mem_cons_self ..)⟩ (K3.wft _ _ (by omega) (by omega)) K3.f4 (by omega) (by simp [K3.l2])
  rw [K3.b4, K3.n4] at hq
  refine hq.mono ?_
  clear hq
  rintro e w6 ⟨rfl, hs6, hg6⟩
  replace h4 := h4.bind hs6 hg6
  clear hs6 hg6
  go_wp2_with fail
  refine hK.out _ _ h4.cells (fun hHeld => ?_)
  clear hK K
  (try simp only [Act.put, List.setIfInBounds_toArray, List.set_cons_zero, List.set_cons_succ])
  refine wpAnyH_take (i := 29) (oi := ⟨some 59, _, _, _, _, _⟩) (v := ?_) rfl (by kernel_rfl) (by kernel_rfl) (by kernel_rfl) (fun _ _ _ h => h) (Or.inl ⟨by rfl, ?_⟩) (by assumption) ?_
  rotate_left
  · (intro w hSw; (try dsimp only at hSw); go_simp; try (with_reducible rfl))
  (try simp only [Act.put, List.setIfInBounds_toArray, List.set_cons_zero, List.set_cons_succ])
  refine wpAnyH_take (i := 30) (oi := ⟨some 60, _, _, _, _, _⟩) (v := ?_) rfl (by kernel_rfl) (by kernel_rfl) (by kernel_rfl) (fun _ _ _ h => h) (Or.inl ⟨by rfl, ?_⟩) (by assumption) ?_
  rotate_left
  · (intro w hSw; (try dsimp only at hSw); go_simp; try (with_reducible rfl))
  (try simp only [Act.put, List.setIfInBounds_toArray, List.set_cons_zero, List.set_cons_succ])
  refine wpAnyH_take (i := 31) (oi := ⟨some 61, _, _, _, _, _⟩) (v := ?_) rfl (by kernel_rfl) (by kernel_rfl) (by kernel_rfl) (fun _ _ _ h => h) (Or.inl ⟨by rfl, ?_⟩) (by assumption) ?_
  rotate_left
  · (intro w hSw; (try dsimp only at hSw); go_simp; try (with_reducible rfl))
  (try simp only [Act.put, List.setIfInBounds_toArray, List.set_cons_zero, List.set_cons_succ])
  refine wpAnyH_take (i := 32) (oi := ⟨some 62, _, _, _, _, _⟩) (v := ?_) rfl (by kernel_rfl) (by kernel_rfl) (by kernel_rfl) (fun _ _ _ h => h) (Or.inl ⟨by rfl, ?_⟩) (by assumption) ?_
  rotate_left
  · (intro w hSw; (try dsimp only at hSw); go_simp; try (with_reducible rfl))
  (try simp only [Act.put, List.setIfInBounds_toArray, List.set_cons_zero, List.set_cons_succ])
  refine wpAnyH_ready (rs := [33]) (by kernel_rfl) (by simp) ?_
  refine AllReadyH.cons (o := ⟨some 63, _, _, _, _, _⟩) rfl (fun K hK => ?_) AllReadyH.nil
  go_simp
  go_at_call 29
  refine (sLen_c K3.l2 p b _ _ h4.ku.sub).mono ?_
  rintro e w7 ⟨rfl, hb1⟩
  replace h4 := h4.then hb1
  clear hb1
  go_wp2_with fail
  refine hK.out _ _ h4.cells (fun hHeld => ?_)
  clear hK K
  (try simp only [Act.put, List.setIfInBounds_toArray, List.set_cons_zero, List.set_cons_succ])
  refine wpAnyH_take (i := 34) (oi := ⟨some 64, _, _, _, _, _⟩) (v := ?_) rfl (by kernel_rfl) (by kernel_rfl) (by kernel_rfl) (fun _ _ _ h => h) (Or.inl ⟨by rfl, ?_⟩) (by assumption) ?_
  rotate_left
  · (intro w hSw; (try dsimp only at hSw); go_simp; try (with_reducible rfl))
  (try simp only [Act.put, List.setIfInBounds_toArray, List.set_cons_zero, List.set_cons_succ])
  refine wpAnyH_take (i := 35) (oi := ⟨some 65, _, _, _, _, _⟩) (v := ?_) rfl (by kernel_rfl) (by kernel_rfl) (by kernel_rfl) (fun _ _ _ h => h) (Or.inl ⟨by rfl, ?_⟩) (by assumption) ?_
  rotate_left
  · (intro w hSw; (try dsimp only at hSw); go_simp; try (with_reducible rfl))
  (try simp only [Act.put, List.setIfInBounds_toArray, List.set_cons_zero, List.set_cons_succ])
  refine wpAnyH_take (i := 36) (oi := ⟨some 0, _, _, _, _, _⟩) (v := ?_) rfl (by kernel_rfl) (by kernel_rfl) (by kernel_rfl) (fun _ _ _ h => h) (Or.inl ⟨by rfl, ?_⟩) (by assumption) ?_
  rotate_left
  · (intro w hSw; (try dsimp only at hSw); go_simp; try (with_reducible rfl))
  (try simp only [Act.put, List.setIfInBounds_toArray, List.set_cons_zero, List.set_cons_succ])
  refine wpAnyH_done (by kernel_rfl) ?_ _
  go_wp2
  go_ret
  exact ⟨rfl, h4.ku.below⟩
end Go.Proofs.Ytdidmhcblepcbaa

/- The law of layer 4 wakes. No condition. -/
import Derived.Test.YtdflckjnpgbjlaaU6
import Derived.Test.YtdflckjnpgbjlaaSe
set_option linter.unusedVariables false
set_option maxRecDepth 20000
set_option linter.unusedSimpArgs false
namespace Go.Proofs.Ytdflckjnpgbjlaa
open Go.RowKit

/-! ### Steps of a unification, plain -/
theorem visA_vis {l : Bs} (hA : Acyc l) {f : Nat} {t : Tm} (h : Fn l f t) : visA l t = vis l f t := (Fn.same (hA.fueled t) h).2
def biF (f : Nat) (l : Bs) (v : Int) (t : Tm) (n : Nat) : UO :=
  if 4096 < n + ocv v (vis l f t) then .full else if (vis l f t).any (isv v) = true then .no else if bindE l v (vis l f t) = 0 then .yes (l ++ [(v, t)]) (n + ocv v (vis l f t)) else .no
theorem biU_biF {l : Bs} (hA : Acyc l) {f : Nat} {t : Tm} (h : Fn l f t) (v : Int) (n : Nat) : biU l v t n = biF f l v t n := by unfold biU biF; rw [visA_vis hA h]
theorem un_apart {k n : Nat} {l : Bs} {x : Tm × Tm} {r : Ps} {y1 y2 : Tm} (h1 : wlk l x.1 = y1) (h2 : wlk l x.2 = y2) (hn : n + 1 ≤ 4096) (k1 : y1.k ≠ 1) (k2 : y2.k ≠ 1) (hm : y1.k = y2.k ∧ y1.s = y2.s ∧ y1.n = y2.n ∧ y1.l.length = y2.l.length) :
    un (k + 1) n l (x :: r) = un k (n + 1) l (y1.l.zip y2.l ++ r) := by
  subst h1 h2
  rw [un, if_neg (by omega), if_neg (fun h => k1 h.1), if_neg k1, if_neg k2, if_pos hm]
theorem un_clash {k n : Nat} {l : Bs} {x : Tm × Tm} {r : Ps} {y1 y2 : Tm} (h1 : wlk l x.1 = y1) (h2 : wlk l x.2 = y2) (hn : n + 1 ≤ 4096) (k1 : y1.k ≠ 1) (k2 : y2.k ≠ 1) (hm : ¬ (y1.k = y2.k ∧ y1.s = y2.s ∧ y1.n = y2.n ∧ y1.l.length = y2.l.length)) :
    un (k + 1) n l (x :: r) = .no := by
  subst h1 h2
  rw [un, if_neg (by omega), if_neg (fun h => k1 h.1), if_neg k1, if_neg k2, if_neg hm]
theorem un_left {k n n' : Nat} {l l' : Bs} {x : Tm × Tm} {r : Ps} {y1 y2 : Tm} (h1 : wlk l x.1 = y1) (h2 : wlk l x.2 = y2) (hn : n + 1 ≤ 4096) (k1 : y1.k = 1) (k2 : ¬ (y2.k = 1 ∧ y1.n = y2.n)) (ho : biU l y1.n y2 (n + 1) = .yes l' n') :
    un (k + 1) n l (x :: r) = un k n' l' r := by
  subst h1 h2
  rw [un, if_neg (by omega), if_neg (fun h => k2 h.2), if_pos k1, ho]
theorem un_leftno {k n : Nat} {l : Bs} {x : Tm × Tm} {r : Ps} {y1 y2 : Tm} (h1 : wlk l x.1 = y1) (h2 : wlk l x.2 = y2) (hn : n + 1 ≤ 4096) (k1 : y1.k = 1) (k2 : ¬ (y2.k = 1 ∧ y1.n = y2.n)) (ho : biU l y1.n y2 (n + 1) = .no) :
    un (k + 1) n l (x :: r) = .no := by
  subst h1 h2
  rw [un, if_neg (by omega), if_neg (fun h => k2 h.2), if_pos k1, ho]
theorem un_end (k n : Nat) (l : Bs) : un (k + 1) n l [] = .yes l n := rfl
namespace K5
def A (c : UInt8) : Tm := ⟨3, ⟨#[c]⟩, 0, []⟩
def t1 : Tm := ⟨4, ⟨#[102]⟩, 0, [kV 0, kV 1]⟩
def t2 : Tm := ⟨4, ⟨#[102]⟩, 0, [kV 1, A 97]⟩
def tf : Tm := ⟨4, ⟨#[102]⟩, 0, [kV 0]⟩
def i1 : Tm := ⟨2, ⟨#[]⟩, 1, []⟩
def l1 : Bs := [(0, kV 1)]
def l2 : Bs := [(0, kV 1), (1, A 97)]
theorem fV : Fn [] 3 (kV 1) := by simp [Fn, kV, wlk, wlkN]
theorem ff : Fn [] 4 tf := by simp [Fn, tf, kV, wlk, wlkN]
theorem fA (l : Bs) (c : UInt8) : Fn l 3 (A c) := by
  have : wlk l (A c) = A c := wlk_stop (by simp [nxt, A])
  simp only [Fn, this]
  simp [A]
theorem ac0 : Acyc [] := acyc_nil
theorem b1 : bindE [] 0 (vis [] 3 (kV 1)) = 0 := by kernel_rfl
theorem ac1 : Acyc l1 := Acyc.bound ac0 fV b1
theorem u1 : biU [] 0 (kV 1) 2 = .yes l1 3 := by rw [biU_biF ac0 fV]; kernel_rfl
theorem u2 : biU l1 1 (A 97) 4 = .yes l2 5 := by rw [biU_biF ac1 (fA _ _)]; kernel_rfl
theorem u3 : biU [] 0 tf 1 = .no := by rw [biU_biF ac0 ff]; kernel_rfl
theorem un1 : un 4098 0 [] [(t1, t2)] = .yes l2 5 := by
  rw [show (4098 : Nat) = 4097 + 1 from rfl, un_apart (y1 := t1) (y2 := t2) (by kernel_rfl) (by kernel_rfl) (by omega) (by decide) (by decide) ⟨rfl, rfl, rfl, rfl⟩]
  rw [show t1.l.zip t2.l ++ [] = [(kV 0, kV 1), (kV 1, A 97)] from rfl, show (4097 : Nat) = 4096 + 1 from rfl, un_left (y1 := kV 0) (y2 := kV 1) (by kernel_rfl) (by kernel_rfl) (by omega) rfl (by simp [kV]) u1]
  rw [show (4096 : Nat) = 4095 + 1 from rfl, un_left (y1 := kV 1) (y2 := A 97) (by kernel_rfl) (by kernel_rfl) (by omega) rfl (by simp [A]) u2]
  rfl
theorem un2 : un 4098 0 [] [(kV 0, tf)] = .no := by
  rw [show (4098 : Nat) = 4097 + 1 from rfl, un_leftno (y1 := kV 0) (y2 := tf) (by kernel_rfl) (by kernel_rfl) (by omega) rfl (by simp [tf]) u3]
theorem un3 : un 4098 0 [] [(A 97, i1)] = .no := by
  rw [show (4098 : Nat) = 4097 + 1 from rfl, un_clash (y1 := A 97) (y2 := i1) (by kernel_rfl) (by kernel_rfl) (by omega) (by decide) (by decide) (fun h => by have := h.1; simp [A, i1] at this)]
theorem f3 : Fn l2 4 (kV 0) := by simp [Fn, l2, kV, A, wlk, wlkN, nxt, ofB]
theorem a1 : appE (vis l2 4 (kV 0)) (app l2 4 (kV 0)) = (⟨3, ⟨#[97]⟩, 0, []⟩, 0) := by kernel_rfl
theorem wf1 : t1.Wf := by simp [t1, kV, Tm.Wf, WfL, ByteArray.size]
theorem wf2 : t2.Wf := by simp [t2, A, kV, Tm.Wf, WfL, ByteArray.size]
theorem wff : tf.Wf := by simp [tf, kV, Tm.Wf, WfL, ByteArray.size]
theorem wfV (n : Int) (h : 0 ≤ n ∧ n ≤ 9) : (kV n).Wf := by simp [kV, Tm.Wf, WfL, ByteArray.size]; omega
theorem wfA : (A 97).Wf := by simp [A, Tm.Wf, WfL, ByteArray.size]
theorem wfi : i1.Wf := by simp [i1, Tm.Wf, WfL, ByteArray.size]
theorem z1 : t1.siz ≤ 1000000 := by simp [t1, kV, Tm.siz, sizL]
theorem z2 : t2.siz ≤ 1000000 := by simp [t2, A, kV, Tm.siz, sizL]
theorem zf : tf.siz ≤ 1000000 := by simp [tf, kV, Tm.siz, sizL]
theorem zV (n : Int) : (kV n).siz ≤ 1000000 := by simp [kV, Tm.siz, sizL]
theorem zA : (A 97).siz ≤ 1000000 := by simp [A, Tm.siz, sizL]
theorem zi : i1.siz ≤ 1000000 := by simp [i1, Tm.siz, sizL]
theorem sm0 : ∀ n t, ofB [] n = some t → t.siz ≤ 1000000 := fun n t h => by cases h
theorem sm2 : ∀ n t, ofB l2 n = some t → t.siz ≤ 1000000 := fun n t h => by
  have := ofB_mem h
  simp only [l2, List.mem_cons, List.not_mem_nil, or_false, Prod.mk.injEq] at this
  rcases this with ⟨-, rfl⟩ | ⟨-, rfl⟩
  · simp [kV, Tm.siz, sizL]
  · simp [A, Tm.siz, sizL]
end K5
/-- What is known along a walk: slices of terms, two substitutions. -/
structure Kx (w : World) (L : List (List Tm × Value)) (l : Bs) (p b q c : Nat) (W : World) : Prop where
  ks : Ks w L W
  sub : Sub W (fun _ => True) l p b
  new : Sub W (fun _ => True) [] q c
section
variable {w W W' : World} {L : List (List Tm × Value)} {l l' : Bs} {p b q c p' b' : Nat}
theorem Kx.then (h : Kx w L l p b q c W) (hb : Below W.heap.size W W') : Kx w L l p b q c W' := ⟨h.ks.then hb, h.sub.below hb, h.new.below hb⟩
theorem Kx.base (h : Kx w L l p b q c W) : Kx W L l p b q c W := ⟨⟨Below.refl _ _, h.ks.all⟩, h.sub, h.new⟩
theorem Kx.alloc (h : Kx w L l p b q c W) (O : Obj) : Kx w L l p b q c (W.alloc O) := h.then ((Below.refl _ W).alloc (Nat.le_refl _) O)
theorem Kx.drew (h : Kx w L l p b q c W) : Kx w L l p b q c W.drew := h.then (Below.refl _ W).drew
theorem Kx.push {ok : Nat → Prop} {x : List Tm} {v : Value} (h : Kx w L l p b q c W) (hs : Kd.tm.S W ok x v) : Kx w ((x, v) :: L) l p b q c W := ⟨h.ks.push hs, h.sub, h.new⟩
theorem Kx.get (h : Kx w L l p b q c W) {x : List Tm} {v : Value} (hm : (x, v) ∈ L) : Kd.tm.S W (fun _ => True) x v := h.ks.all _ hm
theorem Kx.subs {ok : Nat → Prop} (h : Kx w L l p b q c W) (hs : Sub W ok l' p' b') : Kx w L l' p' b' q c W := ⟨h.ks, hs.mono (fun _ _ => trivial), h.new⟩
theorem Kx.news {ok : Nat → Prop} (h : Kx w L l p b q c W) (hs : Sub W ok [] p' b') : Kx w L l p b p' b' W := ⟨h.ks, h.sub, hs.mono (fun _ _ => trivial)⟩
theorem Kx.F (s : ByteArray) (t : Tm) (x : List Tm) {v : Value} (h : Kx w ((t :: x, v) :: L) l p b q c W) (hz : x.length ≤ 999999) :
    Calls Try.prog 22 #[.string s, v] W fun e w' => ∃ A c', e = .returned (.agg #[.int .u8 4, .string s, .int .i64 0, .slice A (t :: x).length c']) ∧ Kx w ((t :: x, .slice A (t :: x).length c') :: L) l p b q c w' ∧ Below W.heap.size W w' :=
  (F_c s (t :: x) v W _ _ (h.get (List.mem_cons_self ..)).S2 (by simp; omega)).mono (fun e w' ⟨⟨r, he, hr⟩, hb⟩ => by
    rw [mkF_cons] at hr
    obtain ⟨u, rfl, hS⟩ := hr
    obtain ⟨A, c', rfl⟩ := hS.form
    have h2 : Kx w L l p b q c W := ⟨⟨h.ks.below, fun q hq => h.ks.all q (List.mem_cons_of_mem _ hq)⟩, h.sub, h.new⟩
    exact ⟨A, c', he, (h2.then hb).push hS, hb⟩)
theorem Kx.one (h : Kx w L l p b q c W) (t : Tm) (u : Value) (hu : Kd.tm.S W (fun _ => True) t.l u) : Kx w (([t], .slice (some ⟨W.heap.size, 0, none⟩) 1 1) :: L) l p b q c (W.alloc (.cells #[.int .u8 t.k, .string t.s, .int .i64 t.n, u] 24)) :=
  ⟨h.ks.one t u hu, (h.alloc _).sub, (h.alloc _).new⟩
theorem Kx.two (h : Kx w L l p b q c W) (t t' : Tm) (u u' : Value) (hu : Kd.tm.S W (fun _ => True) t.l u) (hu' : Kd.tm.S W (fun _ => True) t'.l u') :
    Kx w (([t, t'], .slice (some ⟨W.heap.size, 0, none⟩) 2 2) :: L) l p b q c (W.alloc (.cells #[.int .u8 t.k, .string t.s, .int .i64 t.n, u, .int .u8 t'.k, .string t'.s, .int .i64 t'.n, u'] 24)) :=
  ⟨h.ks.two t t' u u' hu hu', (h.alloc _).sub, (h.alloc _).new⟩
/-- A box, and what is known. -/
structure Ky (w : World) (L : List (List Tm × Value)) (p b q c B : Nat) (t : Tm) (u : Value) (W : World) : Prop where
  kx : Kx w L K5.l2 p b q c W
  x1 : W.heap[B]? = some (.cells #[.int .u8 t.k, .string t.s, .int .i64 t.n, u] 24 (0, 0))
variable {B : Nat} {t : Tm} {u : Value}
theorem Ky.then (h : Ky w L p b q c B t u W) (hb : Below W.heap.size W W') : Ky w L p b q c B t u W' := ⟨h.kx.then hb, block_below hb (Array.getElem?_eq_some_iff.1 h.x1).1 h.x1⟩
theorem Ky.cells (h : Ky w L p b q c B t u W) : W.cell? ⟨B, 0, none⟩ = some (.int .u8 t.k) ∧ W.cell? ⟨B, 1, none⟩ = some (.string t.s) ∧ W.cell? ⟨B, 2, none⟩ = some (.int .i64 t.n) ∧ W.cell? ⟨B, 3, none⟩ = some u :=
  ⟨(box4 h.x1).1, (box4 h.x1).2.1, (box4 h.x1).2.2.1, (box4 h.x1).2.2.2.1⟩
end
set_option maxRecDepth 100000 in
set_option maxHeartbeats 8000000 in
theorem wakes04_c (w : World) :
    Calls Try.prog 17 #[] w fun e w' => e = .returned (.bool true) ∧ Below w.heap.size w w' := by
  have m1 : Hid (0 = 0) := Lib.hid rfl
  have m2 : Hid (0 = 0) := Lib.hid rfl
  have m3 : Hid (0 = 0) := Lib.hid rfl
  have m4 : Hid (0 = 0) := Lib.hid rfl
  have m5 : Hid (0 = 0) := Lib.hid rfl
  go_enter Try.func17, Try.ntmps17
  go_wp2_with (first
    | (go_at_call 19; have hx := m1.out; clear hx m1; refine (New_c _ (fun _ => True)).mono ?_; rintro e w1 ⟨⟨q, c, rfl, hs, -, -⟩, hb1⟩; have hk : Kx w [] [] q c q c w1 := ⟨⟨hb1, fun q hq => by cases hq⟩, hs, hs⟩; clear hs hb1)
    | (go_at_call 19; refine (New_c _ (fun _ => True)).mono ?_; rintro e w1 ⟨⟨q2, c2, rfl, hs, -, -⟩, hb1⟩; replace hk := (hk.then hb1).news hs; clear hs hb1)
    | (go_at_call 25; refine (V_c _ _ (fun _ => True)).mono ?_; rintro e w2 ⟨rfl, hb1⟩; replace hk := hk.then hb1; clear hb1)
    | (go_at_call 52; refine (A_c _ _ (fun _ => True)).mono ?_; rintro e w2 ⟨rfl, hb1⟩; replace hk := hk.then hb1; clear hb1)
    | (go_at_call 56; refine (I_c _ _ (fun _ => True)).mono ?_; rintro e w2 ⟨rfl, hb1⟩; replace hk := hk.then hb1; clear hb1)
    | (go_at_call 22; have hx := m2.out; clear hx m2; refine ((hk.two (kV 0) (kV 1) _ _ (Kd.S.nil _ _ _) (Kd.S.nil _ _ _)).F ⟨#[102]⟩ (kV 0) [kV 1] (by simp)).mono ?_; rintro e w3 ⟨fA, fc, rfl, hk2, -⟩; replace hk := hk2; clear hk2)
    | (go_at_call 22; have hx := m3.out; clear hx m3; refine ((hk.two (kV 1) (K5.A 97) _ _ (Kd.S.nil _ _ _) (Kd.S.nil _ _ _)).F ⟨#[102]⟩ (kV 1) [K5.A 97] (by simp)).mono ?_; rintro e w3 ⟨gA, gc, rfl, hk2, -⟩; replace hk := hk2; clear hk2)
    | (go_at_call 22; refine ((hk.one (kV 0) _ (Kd.S.nil _ _ _)).F ⟨#[102]⟩ (kV 0) [] (by simp)).mono ?_; rintro e w3 ⟨hA, hc, rfl, hk2, -⟩; replace hk := hk2; clear hk2)
    | (go_at_call 18; have hx := m4.out; clear hx m4; have hq := Unify_c [] q c K5.t1 K5.t2 _ _ _ _ _ _ hk.sub ⟨_, rfl, hk.get (List.mem_cons_of_mem _ (List.mem_cons_self ..))⟩ ⟨_, rfl, hk.get (List.mem_cons_self ..)⟩ K5.wf1 K5.wf2 K5.z1 K5.z2 K5.sm0 (by simp); rw [K5.un1] at hq; refine hq.mono ?_; clear hq; rintro e w4 ⟨⟨p, b, rfl, hs4⟩, hb4⟩; replace hk := (hk.then hb4).subs hs4; clear hs4 hb4)
    | (go_at_call 18; have hx := m5.out; clear hx m5; have hq := Unify_c [] q2 c2 (kV 0) K5.tf _ _ _ _ _ _ hk.new ⟨_, rfl, Kd.S.nil _ _ (fun _ => True)⟩ ⟨_, rfl, hk.get (List.mem_cons_self ..)⟩ (K5.wfV _ (by omega)) K5.wff (K5.zV _) K5.zf K5.sm0 (by simp); rw [K5.un2] at hq; refine hq.mono ?_; clear hq; rintro e w6 ⟨rfl, hb6⟩; replace hk := hk.then hb6)
    | (go_at_call 18; have hq := Unify_c [] q2 c2 (K5.A 97) K5.i1 _ _ _ _ _ _ hk.new ⟨_, rfl, Kd.S.nil _ _ (fun _ => True)⟩ ⟨_, rfl, Kd.S.nil _ _ (fun _ => True)⟩ K5.wfA K5.wfi K5.zA K5.zi K5.sm0 (by simp); rw [K5.un3] at hq; refine hq.mono ?_; clear hq; rintro e w7 ⟨rfl, hb7⟩; replace hk := hk.then hb7)
    | (go_at_call 24; go_loud (have hq := Apply_c K5.l2 p b 4 (kV 0) _ _ _ hk.sub ⟨_, rfl, Kd.S.nil _ _ (fun _ => True)⟩ (K5.wfV _ (by omega)) K5.f3 K5.sm2 (K5.zV _); rw [K5.a1] at hq; refine hq.mono ?_; clear hq; rintro e w8 ⟨⟨u8, rfl, uu8, rfl, hu8⟩, hb8⟩; obtain ⟨A8, c8, rfl⟩ := hu8.form; replace hk := ((hk.then hb8).push hu8).alloc (.cells #[.int .u8 3, .string ⟨#[97]⟩, .int .i64 0, .slice A8 0 c8] 24); clear hu8 hb8; have hx9 := heap_new w8 (.cells #[.int .u8 3, .string ⟨#[97]⟩, .int .i64 0, .slice A8 0 c8] 24); have hz9 : w8.heap.size < (w8.alloc (.cells #[.int .u8 3, .string ⟨#[97]⟩, .int .i64 0, .slice A8 0 c8] 24)).heap.size := (by simp); have HX9 := Lib.hid (And.intro hx9 hz9); clear hx9 hz9; have hb9 := Lib.hid hk.ks.below; replace hk := hk.base)))
  have h4 : Ky _ _ p b _ _ w8.heap.size ⟨3, ⟨#[97]⟩, 0, []⟩ (.slice A8 0 c8) _ := ⟨hk, block_below hk.ks.below HX9.out.2 HX9.out.1⟩
  clear hk
  refine wp_region_held_drew (S := (fun W => W.cell? ⟨w8.heap.size, 0, none⟩ = some (.int .u8 3) ∧ W.cell? ⟨w8.heap.size, 1, none⟩ = some (.string ⟨#[97]⟩) ∧ W.cell? ⟨w8.heap.size, 2, none⟩ = some (.int .i64 0) ∧ W.cell? ⟨w8.heap.size, 3, none⟩ = some (.slice A8 0 c8))) (by kernel_rfl) ?_ (fun hHeld => ?_)
  · exact (h4.then (Below.refl _ w7).drew).cells
  change wpAnyH _ .any _ _ _ 29 (Array.replicate 29 false) _ _
  refine wpAnyH_take (i := 0) (oi := ⟨some 60, _, _, _, _, _⟩) (v := ?_) rfl (by kernel_rfl) (by kernel_rfl) (by kernel_rfl) (fun _ _ _ h => h) (Or.inl ⟨by rfl, ?_⟩) (by assumption) ?_
  rotate_left
  · (intro w hSw; (try dsimp only at hSw); go_simp; try (with_reducible rfl))
  (try simp only [Act.put, List.setIfInBounds_toArray, List.set_cons_zero, List.set_cons_succ])
  refine wpAnyH_take (i := 1) (oi := ⟨some 61, _, _, _, _, _⟩) (v := ?_) rfl (by kernel_rfl) (by kernel_rfl) (by kernel_rfl) (fun _ _ _ h => h) (Or.inl ⟨by rfl, ?_⟩) (by assumption) ?_
  rotate_left
  · (intro w hSw; (try dsimp only at hSw); go_simp; try (with_reducible rfl))
  (try simp only [Act.put, List.setIfInBounds_toArray, List.set_cons_zero, List.set_cons_succ])
  refine wpAnyH_take (i := 2) (oi := ⟨some 62, _, _, _, _, _⟩) (v := ?_) rfl (by kernel_rfl) (by kernel_rfl) (by kernel_rfl) (fun _ _ _ h => h) (Or.inl ⟨by rfl, ?_⟩) (by assumption) ?_
  rotate_left
  · (intro w hSw; (try dsimp only at hSw); go_simp; try (with_reducible rfl))
  (try simp only [Act.put, List.setIfInBounds_toArray, List.set_cons_zero, List.set_cons_succ])
  refine wpAnyH_take (i := 3) (oi := ⟨some 63, _, _, _, _, _⟩) (v := ?_) rfl (by kernel_rfl) (by kernel_rfl) (by kernel_rfl) (fun _ _ _ h => h) (Or.inl ⟨by rfl, ?_⟩) (by assumption) ?_
  rotate_left
  · (intro w hSw; (try dsimp only at hSw); go_simp; try (with_reducible rfl))
  (try simp only [Act.put, List.setIfInBounds_toArray, List.set_cons_zero, List.set_cons_succ])
  replace h4 := h4.then (Below.refl _ w7).drew
  refine wpAnyH_ready (rs := [4]) (by kernel_rfl) (by simp) ?_
  refine AllReadyH.cons (o := ⟨some 64, _, _, _, _, _⟩) rfl (fun K hK => ?_) AllReadyH.nil
  go_simp
  go_at_call 52
  refine (A_c _ _ (fun _ => True)).mono ?_
  rintro e w10 ⟨rfl, hb1⟩
  replace h4 := h4.then hb1
  clear hb1
  go_wp2_with fail
  refine hK.out _ _ h4.cells (fun hHeld => ?_)
  clear hK K
  (try simp only [Act.put, List.setIfInBounds_toArray, List.set_cons_zero, List.set_cons_succ])
  refine wpAnyH_ready (rs := [5]) (by kernel_rfl) (by simp) ?_
  refine AllReadyH.cons (o := ⟨some 65, _, _, _, _, _⟩) rfl (fun K hK => ?_) AllReadyH.nil
  go_simp
  go_at_call 26
  have hq := Same_c (K5.A 97) (K5.A 97) _ (fun _ => True) (fun _ => True) _ _ ⟨_, rfl, h4.kx.get (x := []) (v := .slice A8 0 c8) (by simp)⟩ ⟨_, rfl, Kd.S.nil _ _ _⟩
  rw [(Tm.eqb_iff (K5.A 97) (K5.A 97)).2 rfl] at hq
  refine hq.mono ?_
  clear hq
  rintro e w11 ⟨rfl, hb1⟩
  replace h4 := h4.then hb1
  clear hb1
  go_wp2_with fail
  refine hK.out _ _ h4.cells (fun hHeld => ?_)
  clear hK K
  (try simp only [Act.put, List.setIfInBounds_toArray, List.set_cons_zero, List.set_cons_succ])
  refine wpAnyH_take (i := 6) (oi := ⟨some 66, _, _, _, _, _⟩) (v := ?_) rfl (by kernel_rfl) (by kernel_rfl) (by kernel_rfl) (fun _ _ _ h => h) (Or.inl ⟨by rfl, ?_⟩) (by assumption) ?_
  rotate_left
  · (intro w hSw; (try dsimp only at hSw); go_simp; try (with_reducible rfl))
  (try simp only [Act.put, List.setIfInBounds_toArray, List.set_cons_zero, List.set_cons_succ])
  refine wpAnyH_take (i := 7) (oi := ⟨some 67, _, _, _, _, _⟩) (v := ?_) rfl (by kernel_rfl) (by kernel_rfl) (by kernel_rfl) (fun _ _ _ h => h) (Or.inl ⟨by rfl, ?_⟩) (by assumption) ?_
  rotate_left
  · (intro w hSw; (try dsimp only at hSw); go_simp; try (with_reducible rfl))
  (try simp only [Act.put, List.setIfInBounds_toArray, List.set_cons_zero, List.set_cons_succ])
  refine wpAnyH_take (i := 8) (oi := ⟨some 68, _, _, _, _, _⟩) (v := ?_) rfl (by kernel_rfl) (by kernel_rfl) (by kernel_rfl) (fun _ _ _ h => h) (Or.inl ⟨by rfl, ?_⟩) (by assumption) ?_
  rotate_left
  · (intro w hSw; (try dsimp only at hSw); go_simp; try (with_reducible rfl))
  (try simp only [Act.put, List.setIfInBounds_toArray, List.set_cons_zero, List.set_cons_succ])
  refine wpAnyH_ready (rs := [9]) (by kernel_rfl) (by simp) ?_
  refine AllReadyH.cons (o := ⟨some 69, _, _, _, _, _⟩) rfl (fun K hK => ?_) AllReadyH.nil
  go_simp
  go_at_call 20
  refine (sLen_c K5.l2 p b _ _ h4.kx.sub).mono ?_
  rintro e w12 ⟨rfl, hb1⟩
  replace h4 := h4.then hb1
  clear hb1
  go_wp2_with fail
  refine hK.out _ _ h4.cells (fun hHeld => ?_)
  clear hK K
  (try simp only [Act.put, List.setIfInBounds_toArray, List.set_cons_zero, List.set_cons_succ])
  refine wpAnyH_take (i := 10) (oi := ⟨some 70, _, _, _, _, _⟩) (v := ?_) rfl (by kernel_rfl) (by kernel_rfl) (by kernel_rfl) (fun _ _ _ h => h) (Or.inl ⟨by rfl, ?_⟩) (by assumption) ?_
  rotate_left
  · (intro w hSw; (try dsimp only at hSw); go_simp; try (with_reducible rfl))
  (try simp only [Act.put, List.setIfInBounds_toArray, List.set_cons_zero, List.set_cons_succ])
  refine wpAnyH_take (i := 11) (oi := ⟨some 71, _, _, _, _, _⟩) (v := ?_) rfl (by kernel_rfl) (by kernel_rfl) (by kernel_rfl) (fun _ _ _ h => h) (Or.inl ⟨by rfl, ?_⟩) (by assumption) ?_
  rotate_left
  · (intro w hSw; (try dsimp only at hSw); go_simp; try (with_reducible rfl))
  (try simp only [Act.put, List.setIfInBounds_toArray, List.set_cons_zero, List.set_cons_succ])
  refine wpAnyH_take (i := 12) (oi := ⟨some 72, _, _, _, _, _⟩) (v := ?_) rfl (by kernel_rfl) (by kernel_rfl) (by kernel_rfl) (fun _ _ _ h => h) (Or.inl ⟨by rfl, ?_⟩) (by assumption) ?_
  rotate_left
  · (intro w hSw; (try dsimp only at hSw); go_simp; try (with_reducible rfl))
  (try simp only [Act.put, List.setIfInBounds_toArray, List.set_cons_zero, List.set_cons_succ])
  refine wpAnyH_take (i := 13) (oi := ⟨some 73, _, _, _, _, _⟩) (v := ?_) rfl (by kernel_rfl) (by kernel_rfl) (by kernel_rfl) (fun _ _ _ h => h) (Or.inl ⟨by rfl, ?_⟩) (by assumption) ?_
  rotate_left
  · (intro w hSw; (try dsimp only at hSw); go_simp; try (with_reducible rfl))
  (try simp only [Act.put, List.setIfInBounds_toArray, List.set_cons_zero, List.set_cons_succ])
  refine wpAnyH_take (i := 14) (oi := ⟨some 74, _, _, _, _, _⟩) (v := ?_) rfl (by kernel_rfl) (by kernel_rfl) (by kernel_rfl) (fun _ _ _ h => h) (Or.inl ⟨by rfl, ?_⟩) (by assumption) ?_
  rotate_left
  · (intro w hSw; (try dsimp only at hSw); go_simp; try (with_reducible rfl))
  (try simp only [Act.put, List.setIfInBounds_toArray, List.set_cons_zero, List.set_cons_succ])
  refine wpAnyH_take (i := 15) (oi := ⟨some 75, _, _, _, _, _⟩) (v := ?_) rfl (by kernel_rfl) (by kernel_rfl) (by kernel_rfl) (fun _ _ _ h => h) (Or.inl ⟨by rfl, ?_⟩) (by assumption) ?_
  rotate_left
  · (intro w hSw; (try dsimp only at hSw); go_simp; try (with_reducible rfl))
  (try simp only [Act.put, List.setIfInBounds_toArray, List.set_cons_zero, List.set_cons_succ])
  refine wpAnyH_take (i := 16) (oi := ⟨some 76, _, _, _, _, _⟩) (v := ?_) rfl (by kernel_rfl) (by kernel_rfl) (by kernel_rfl) (fun _ _ _ h => h) (Or.inl ⟨by rfl, ?_⟩) (by assumption) ?_
  rotate_left
  · (intro w hSw; (try dsimp only at hSw); go_simp; try (with_reducible rfl))
  (try simp only [Act.put, List.setIfInBounds_toArray, List.set_cons_zero, List.set_cons_succ])
  refine wpAnyH_take (i := 17) (oi := ⟨some 77, _, _, _, _, _⟩) (v := ?_) rfl (by kernel_rfl) (by kernel_rfl) (by kernel_rfl) (fun _ _ _ h => h) (Or.inl ⟨by rfl, ?_⟩) (by assumption) ?_
  rotate_left
  · (intro w hSw; (try dsimp only at hSw); go_simp; try (with_reducible rfl))
  (try simp only [Act.put, List.setIfInBounds_toArray, List.set_cons_zero, List.set_cons_succ])
  refine wpAnyH_take (i := 18) (oi := ⟨some 78, _, _, _, _, _⟩) (v := ?_) rfl (by kernel_rfl) (by kernel_rfl) (by kernel_rfl) (fun _ _ _ h => h) (Or.inl ⟨by rfl, ?_⟩) (by assumption) ?_
  rotate_left
  · (intro w hSw; (try dsimp only at hSw); go_simp; try (with_reducible rfl))
  (try simp only [Act.put, List.setIfInBounds_toArray, List.set_cons_zero, List.set_cons_succ])
  refine wpAnyH_take (i := 19) (oi := ⟨some 79, _, _, _, _, _⟩) (v := ?_) rfl (by kernel_rfl) (by kernel_rfl) (by kernel_rfl) (fun _ _ _ h => h) (Or.inl ⟨by rfl, ?_⟩) (by assumption) ?_
  rotate_left
  · (intro w hSw; (try dsimp only at hSw); go_simp; try (with_reducible rfl))
  (try simp only [Act.put, List.setIfInBounds_toArray, List.set_cons_zero, List.set_cons_succ])
  refine wpAnyH_take (i := 20) (oi := ⟨some 80, _, _, _, _, _⟩) (v := ?_) rfl (by kernel_rfl) (by kernel_rfl) (by kernel_rfl) (fun _ _ _ h => h) (Or.inl ⟨by rfl, ?_⟩) (by assumption) ?_
  rotate_left
  · (intro w hSw; (try dsimp only at hSw); go_simp; try (with_reducible rfl))
  (try simp only [Act.put, List.setIfInBounds_toArray, List.set_cons_zero, List.set_cons_succ])
  refine wpAnyH_take (i := 21) (oi := ⟨some 81, _, _, _, _, _⟩) (v := ?_) rfl (by kernel_rfl) (by kernel_rfl) (by kernel_rfl) (fun _ _ _ h => h) (Or.inl ⟨by rfl, ?_⟩) (by assumption) ?_
  rotate_left
  · (intro w hSw; (try dsimp only at hSw); go_simp; try (with_reducible rfl))
  (try simp only [Act.put, List.setIfInBounds_toArray, List.set_cons_zero, List.set_cons_succ])
  refine wpAnyH_take (i := 22) (oi := ⟨some 82, _, _, _, _, _⟩) (v := ?_) rfl (by kernel_rfl) (by kernel_rfl) (by kernel_rfl) (fun _ _ _ h => h) (Or.inl ⟨by rfl, ?_⟩) (by assumption) ?_
  rotate_left
  · (intro w hSw; (try dsimp only at hSw); go_simp; try (with_reducible rfl))
  (try simp only [Act.put, List.setIfInBounds_toArray, List.set_cons_zero, List.set_cons_succ])
  refine wpAnyH_take (i := 23) (oi := ⟨some 83, _, _, _, _, _⟩) (v := ?_) rfl (by kernel_rfl) (by kernel_rfl) (by kernel_rfl) (fun _ _ _ h => h) (Or.inl ⟨by rfl, ?_⟩) (by assumption) ?_
  rotate_left
  · (intro w hSw; (try dsimp only at hSw); go_simp; try (with_reducible rfl))
  (try simp only [Act.put, List.setIfInBounds_toArray, List.set_cons_zero, List.set_cons_succ])
  refine wpAnyH_take (i := 24) (oi := ⟨some 84, _, _, _, _, _⟩) (v := ?_) rfl (by kernel_rfl) (by kernel_rfl) (by kernel_rfl) (fun _ _ _ h => h) (Or.inl ⟨by rfl, ?_⟩) (by assumption) ?_
  rotate_left
  · (intro w hSw; (try dsimp only at hSw); go_simp; try (with_reducible rfl))
  (try simp only [Act.put, List.setIfInBounds_toArray, List.set_cons_zero, List.set_cons_succ])
  refine wpAnyH_take (i := 25) (oi := ⟨some 85, _, _, _, _, _⟩) (v := ?_) rfl (by kernel_rfl) (by kernel_rfl) (by kernel_rfl) (fun _ _ _ h => h) (Or.inl ⟨by rfl, ?_⟩) (by assumption) ?_
  rotate_left
  · (intro w hSw; (try dsimp only at hSw); go_simp; try (with_reducible rfl))
  (try simp only [Act.put, List.setIfInBounds_toArray, List.set_cons_zero, List.set_cons_succ])
  refine wpAnyH_take (i := 26) (oi := ⟨some 86, _, _, _, _, _⟩) (v := ?_) rfl (by kernel_rfl) (by kernel_rfl) (by kernel_rfl) (fun _ _ _ h => h) (Or.inl ⟨by rfl, ?_⟩) (by assumption) ?_
  rotate_left
  · (intro w hSw; (try dsimp only at hSw); go_simp; try (with_reducible rfl))
  (try simp only [Act.put, List.setIfInBounds_toArray, List.set_cons_zero, List.set_cons_succ])
  refine wpAnyH_take (i := 27) (oi := ⟨some 87, _, _, _, _, _⟩) (v := ?_) rfl (by kernel_rfl) (by kernel_rfl) (by kernel_rfl) (fun _ _ _ h => h) (Or.inl ⟨by rfl, ?_⟩) (by assumption) ?_
  rotate_left
  · (intro w hSw; (try dsimp only at hSw); go_simp; try (with_reducible rfl))
  (try simp only [Act.put, List.setIfInBounds_toArray, List.set_cons_zero, List.set_cons_succ])
  refine wpAnyH_take (i := 28) (oi := ⟨some 0, _, _, _, _, _⟩) (v := ?_) rfl (by kernel_rfl) (by kernel_rfl) (by kernel_rfl) (fun _ _ _ h => h) (Or.inl ⟨by rfl, ?_⟩) (by assumption) ?_
  rotate_left
  · (intro w hSw; (try dsimp only at hSw); go_simp; try (with_reducible rfl))
  (try simp only [Act.put, List.setIfInBounds_toArray, List.set_cons_zero, List.set_cons_succ])
  refine wpAnyH_done (by kernel_rfl) ?_ _
  go_wp2
  go_ret
  exact ⟨rfl, below_then hb9.out hb9.out.size h4.kx.ks.below⟩
end Go.Proofs.Ytdflckjnpgbjlaa

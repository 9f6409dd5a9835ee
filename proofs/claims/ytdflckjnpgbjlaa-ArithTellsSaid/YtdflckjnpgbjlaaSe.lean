/- The law of layer 3 wakes. No condition. -/
import Derived.Test.YtdflckjnpgbjlaaSd
import Derived.Test.YtdflckjnpgbjlaaKs
set_option linter.unusedVariables false
set_option maxRecDepth 20000
set_option linter.unusedSimpArgs false
namespace Go.Proofs.Ytdflckjnpgbjlaa
open Go.RowKit

/-- What is known along a walk: slices of terms, one substitution. -/
structure Ku (w : World) (L : List (List Tm × Value)) (l : Bs) (p b : Nat) (W : World) : Prop where
  ks : Ks w L W
  sub : Sub W (fun _ => True) l p b
  pw : w.heap.size ≤ p
  bw : w.heap.size ≤ b
section
variable {w W W' : World} {L : List (List Tm × Value)} {l l' : Bs} {p b : Nat}
theorem Ku.then (h : Ku w L l p b W) (hb : Below W.heap.size W W') : Ku w L l p b W' := ⟨h.ks.then hb, h.sub.below hb, h.pw, h.bw⟩
theorem Ku.alloc (h : Ku w L l p b W) (O : Obj) : Ku w L l p b (W.alloc O) := h.then ((Below.refl _ W).alloc (Nat.le_refl _) O)
theorem Ku.drew (h : Ku w L l p b W) : Ku w L l p b W.drew := h.then (Below.refl _ W).drew
theorem Ku.below (h : Ku w L l p b W) : Below w.heap.size w W := h.ks.below
theorem Ku.push {ok : Nat → Prop} {x : List Tm} {v : Value} (h : Ku w L l p b W) (hs : Kd.tm.S W ok x v) : Ku w ((x, v) :: L) l p b W := ⟨h.ks.push hs, h.sub, h.pw, h.bw⟩
theorem Ku.get (h : Ku w L l p b W) {x : List Tm} {v : Value} (hm : (x, v) ∈ L) : Kd.tm.S W (fun _ => True) x v := h.ks.all _ hm
theorem Ku.bound {ok : Nat → Prop} (h : Ku w L l p b W) (hs : Sub W' ok l' p b) (hg : W.grownBy W' (some b)) : Ku w L l' p b W' :=
  ⟨⟨below_of_grown (gfresh (r := none) (gnone h.ks.below) hg h.bw), fun x hx => (Kd.S.grown hg (fun k hk e => hk.2 (by injection e)) (Kd.S.apart h.sub.not_cells (h.ks.all x hx))).mono (fun _ _ => trivial)⟩, hs.mono (fun _ _ => trivial), h.pw, h.bw⟩
theorem Ku.F (s : ByteArray) (t : Tm) (x : List Tm) {v : Value} (h : Ku w ((t :: x, v) :: L) l p b W) (hz : x.length ≤ 999999) :
    Calls Try.prog 22 #[.string s, v] W fun e w' => ∃ A c, e = .returned (.agg #[.int .u8 4, .string s, .int .i64 0, .slice A (t :: x).length c]) ∧ Ku w ((t :: x, .slice A (t :: x).length c) :: L) l p b w' ∧ Below W.heap.size W w' :=
  (F_c s (t :: x) v W _ _ (h.get (List.mem_cons_self ..)).S2 (by simp; omega)).mono (fun e w' ⟨⟨r, he, hr⟩, hb⟩ => by
    rw [mkF_cons] at hr
    obtain ⟨u, rfl, hS⟩ := hr
    obtain ⟨A, c, rfl⟩ := hS.form
    have h2 : Ku w L l p b W := ⟨⟨h.ks.below, fun q hq => h.ks.all q (List.mem_cons_of_mem _ hq)⟩, h.sub, h.pw, h.bw⟩
    exact ⟨A, c, he, (h2.then hb).push hS, hb⟩)
/-- Lists that are written out. -/
theorem Ku.one (h : Ku w L l p b W) (t : Tm) (u : Value) (hu : Kd.tm.S W (fun _ => True) t.l u) : Ku w (([t], .slice (some ⟨W.heap.size, 0, none⟩) 1 1) :: L) l p b (W.alloc (.cells #[.int .u8 t.k, .string t.s, .int .i64 t.n, u] 24)) :=
  ⟨h.ks.one t u hu, (h.alloc _).sub, h.pw, h.bw⟩
theorem Ku.two (h : Ku w L l p b W) (t t' : Tm) (u u' : Value) (hu : Kd.tm.S W (fun _ => True) t.l u) (hu' : Kd.tm.S W (fun _ => True) t'.l u') :
    Ku w (([t, t'], .slice (some ⟨W.heap.size, 0, none⟩) 2 2) :: L) l p b (W.alloc (.cells #[.int .u8 t.k, .string t.s, .int .i64 t.n, u, .int .u8 t'.k, .string t'.s, .int .i64 t'.n, u'] 24)) :=
  ⟨h.ks.two t t' u u' hu hu', (h.alloc _).sub, h.pw, h.bw⟩
end
namespace K3
def A (c : UInt8) : Tm := ⟨3, ⟨#[c]⟩, 0, []⟩
def tf : Tm := ⟨4, ⟨#[102]⟩, 0, [kV 1]⟩
def tfa : Tm := ⟨4, ⟨#[102]⟩, 0, [A 97]⟩
def tg : Tm := ⟨4, ⟨#[103]⟩, 0, [kV 0, kV 2]⟩
def tga : Tm := ⟨4, ⟨#[103]⟩, 0, [tfa, kV 2]⟩
def th : Tm := ⟨4, ⟨#[104]⟩, 0, [kV 2]⟩
def l1 : Bs := [(0, tf)]
def l2 : Bs := [(0, tf), (1, A 97)]
theorem f1 : Fn [] 3 tf := by simp [Fn, tf, kV, wlk, wlkN]
theorem f2 (l : Bs) (c : UInt8) : Fn l 3 (A c) := by
  have : wlk l (A c) = A c := wlk_stop (by simp [nxt, A])
  simp only [Fn, this]
  simp [A]
theorem f3 : Fn l2 4 tg := by simp [Fn, tg, l2, kV, A, tf, wlk, wlkN, nxt, ofB]
theorem f4 : Fn l2 4 th := by simp [Fn, th, l2, kV, A, tf, wlk, wlkN, nxt, ofB]
theorem b1 : bindE [] 0 (vis [] 3 tf) = 0 := by kernel_rfl
theorem b2 : bindE l1 1 (vis l1 3 (A 97)) = 0 := by kernel_rfl
theorem b3 : bindE l2 0 (vis l2 3 (A 98)) = 1 := by kernel_rfl
theorem b4 : bindE l2 2 (vis l2 4 th) = 1 := by kernel_rfl
theorem n1 : bnd [] 0 tf (vis [] 3 tf) = l1 := bindE_eq b1 _
theorem n2 : bnd l1 1 (A 97) (vis l1 3 (A 97)) = l2 := bindE_eq b2 _
theorem n3 : bnd l2 0 (A 98) (vis l2 3 (A 98)) = l2 := bindE_ne (by rw [b3]; decide) _
theorem n4 : bnd l2 2 th (vis l2 4 th) = l2 := bindE_ne (by rw [b4]; decide) _
theorem a1 : appE (vis l2 4 tg) (app l2 4 tg) = (⟨4, ⟨#[103]⟩, 0, [tfa, kV 2]⟩, 0) := by kernel_rfl
theorem w1 : wlk l2 (kV 0) = ⟨4, ⟨#[102]⟩, 0, [kV 1]⟩ := by kernel_rfl
theorem wfA (c : UInt8) : (A c).Wf := by simp [A, Tm.Wf, WfL, ByteArray.size]
theorem wft (c : UInt8) (n : Int) (hn : 0 ≤ n) (hn2 : n ≤ 9) : Tm.Wf ⟨4, ⟨#[c]⟩, 0, [kV n]⟩ := by simp [kV, Tm.Wf, WfL, ByteArray.size]; omega
theorem wfg : tg.Wf := by simp [tg, kV, Tm.Wf, WfL, ByteArray.size]
theorem sm2 : ∀ n t, ofB l2 n = some t → t.siz ≤ 1000000 := fun n t h => by
  have := ofB_mem h
  simp only [l2, List.mem_cons, List.not_mem_nil, or_false, Prod.mk.injEq] at this
  rcases this with ⟨-, rfl⟩ | ⟨-, rfl⟩
  · simp [tf, kV, Tm.siz, sizL]
  · simp [A, Tm.siz, sizL]
end K3
/-- Two boxes, and what is known. -/
structure K4 (w : World) (L : List (List Tm × Value)) (p b B1 B2 : Nat) (A8 : Option Addr) (c8 : Nat) (A9 : Option Addr) (c9 : Nat) (W : World) : Prop where
  ku : Ku w L K3.l2 p b W
  x1 : W.heap[B1]? = some (.cells #[.int .u8 4, .string ⟨#[103]⟩, .int .i64 0, .slice A8 2 c8] 24 (0, 0))
  x2 : W.heap[B2]? = some (.cells #[.int .u8 4, .string ⟨#[102]⟩, .int .i64 0, .slice A9 1 c9] 24 (0, 0))
section
variable {w W W' : World} {L L' : List (List Tm × Value)} {p b B1 B2 : Nat} {A8 A9 : Option Addr} {c8 c9 : Nat}
theorem K4.move (h : K4 w L p b B1 B2 A8 c8 A9 c9 W) (hk : Ku w L' K3.l2 p b W') (hg : W.grownBy W' (some b)) : K4 w L' p b B1 B2 A8 c8 A9 c9 W' :=
  ⟨hk, (hg.block _ (Array.getElem?_eq_some_iff.1 h.x1).1 (fun e => by injection e with e; exact h.ku.sub.not_cells _ _ _ (e ▸ h.x1))).trans h.x1, (hg.block _ (Array.getElem?_eq_some_iff.1 h.x2).1 (fun e => by injection e with e; exact h.ku.sub.not_cells _ _ _ (e ▸ h.x2))).trans h.x2⟩
theorem K4.then (h : K4 w L p b B1 B2 A8 c8 A9 c9 W) (hb : Below W.heap.size W W') : K4 w L p b B1 B2 A8 c8 A9 c9 W' := h.move (h.ku.then hb) (gnone hb)
theorem K4.to (h : K4 w L p b B1 B2 A8 c8 A9 c9 W) (hk : Ku w L' K3.l2 p b W') (hb : Below W.heap.size W W') : K4 w L' p b B1 B2 A8 c8 A9 c9 W' := h.move hk (gnone hb)
theorem K4.bind {ok : Nat → Prop} (h : K4 w L p b B1 B2 A8 c8 A9 c9 W) (hs : Sub W' ok K3.l2 p b) (hg : W.grownBy W' (some b)) : K4 w L p b B1 B2 A8 c8 A9 c9 W' := h.move (h.ku.bound hs hg) hg
theorem K4.cells (h : K4 w L p b B1 B2 A8 c8 A9 c9 W) : W.cell? ⟨B1, 0, none⟩ = some (.int .u8 4) ∧ W.cell? ⟨B1, 1, none⟩ = some (.string ⟨#[103]⟩) ∧ W.cell? ⟨B1, 2, none⟩ = some (.int .i64 0) ∧ W.cell? ⟨B1, 3, none⟩ = some (.slice A8 2 c8) ∧ W.cell? ⟨B2, 1, none⟩ = some (.string ⟨#[102]⟩) :=
  ⟨(box4 h.x1).1, (box4 h.x1).2.1, (box4 h.x1).2.2.1, (box4 h.x1).2.2.2.1, (box4 h.x2).2.1⟩
end
end Go.Proofs.Ytdflckjnpgbjlaa

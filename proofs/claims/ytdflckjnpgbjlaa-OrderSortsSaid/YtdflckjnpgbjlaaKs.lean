/- What is known along a walk: some slices of terms that read. No condition. -/
import Derived.Test.YtdflckjnpgbjlaaL1
set_option linter.unusedVariables false
set_option maxRecDepth 20000
set_option linter.unusedSimpArgs false
namespace Go.Proofs.Ytdflckjnpgbjlaa
open Go.RowKit

/-- Some slices of terms that read. -/
structure Ks (w : World) (L : List (List Tm × Value)) (W : World) : Prop where
  below : Below w.heap.size w W
  all : ∀ p ∈ L, Kd.tm.S W (fun _ => True) p.1 p.2
section
variable {w W W' : World} {L : List (List Tm × Value)}
theorem Ks.start (w : World) : Ks w [] w := ⟨Below.refl _ _, fun p hp => by cases hp⟩
theorem Ks.then (h : Ks w L W) (hb : Below W.heap.size W W') : Ks w L W' := ⟨below_then h.below h.below.size hb, fun p hp => (h.all p hp).below hb⟩
theorem Ks.alloc (h : Ks w L W) (O : Obj) : Ks w L (W.alloc O) := h.then ((Below.refl _ W).alloc (Nat.le_refl _) O)
theorem Ks.push {ok : Nat → Prop} {l : List Tm} {v : Value} (h : Ks w L W) (hs : Kd.tm.S W ok l v) : Ks w ((l, v) :: L) W := ⟨h.below, fun p hp => by
  rcases List.mem_cons.1 hp with rfl | hp
  · exact hs.mono (fun _ _ => trivial)
  · exact h.all p hp⟩
theorem Ks.get (h : Ks w L W) {l : List Tm} {v : Value} (hm : (l, v) ∈ L) : Kd.tm.S W (fun _ => True) l v := h.all _ hm
/-- Lists that are written out: one term; two. -/
theorem Ks.one (h : Ks w L W) (t : Tm) (u : Value) (hu : Kd.tm.S W (fun _ => True) t.l u) : Ks w (([t], .slice (some ⟨W.heap.size, 0, none⟩) 1 1) :: L) (W.alloc (.cells #[.int .u8 t.k, .string t.s, .int .i64 t.n, u] 24)) :=
  (h.alloc _).push (lit1_at (heap_new W _) (hu.below ((Below.refl _ W).alloc (Nat.le_refl _) _)))
theorem Ks.two (h : Ks w L W) (t t' : Tm) (u u' : Value) (hu : Kd.tm.S W (fun _ => True) t.l u) (hu' : Kd.tm.S W (fun _ => True) t'.l u') :
    Ks w (([t, t'], .slice (some ⟨W.heap.size, 0, none⟩) 2 2) :: L) (W.alloc (.cells #[.int .u8 t.k, .string t.s, .int .i64 t.n, u, .int .u8 t'.k, .string t'.s, .int .i64 t'.n, u'] 24)) :=
  (h.alloc _).push (lit2_at (heap_new W _) (hu.below ((Below.refl _ W).alloc (Nat.le_refl _) _)) (hu'.below ((Below.refl _ W).alloc (Nat.le_refl _) _)))
end
theorem mkF_cons (s : ByteArray) (t : Tm) (l : List Tm) : mkF s (t :: l) = ⟨4, s, 0, t :: l⟩ := by unfold mkF; rw [if_neg (by simp)]
/-- A structure of what is written out. -/
theorem F_known (s : ByteArray) (t : Tm) (l : List Tm) {w W : World} {L : List (List Tm × Value)} {v : Value} (h : Ks w ((t :: l, v) :: L) W) (hz : l.length ≤ 999999) :
    Calls Try.prog 22 #[.string s, v] W fun e w' => ∃ A c, e = .returned (.agg #[.int .u8 4, .string s, .int .i64 0, .slice A (t :: l).length c]) ∧ Ks w ((t :: l, .slice A (t :: l).length c) :: L) w' :=
  (F_c s (t :: l) v W _ _ (h.get (List.mem_cons_self ..)).S2 (by simp; omega)).mono (fun e w' ⟨⟨r, he, hr⟩, hb⟩ => by
    rw [mkF_cons] at hr
    obtain ⟨u, rfl, hS⟩ := hr
    obtain ⟨A, c, rfl⟩ := hS.form
    exact ⟨A, c, he, ((⟨h.below, fun p hp => h.all p (List.mem_cons_of_mem _ hp)⟩ : Ks w L W).then hb).push hS⟩)
end Go.Proofs.Ytdflckjnpgbjlaa

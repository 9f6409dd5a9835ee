/- The law SubstIdem, walked. Conditions: the arguments read; what they are made of is in its bounds. -/
import Derived.Test.YtdidmhcblepcbaaSf
import Derived.Test.YtdidmhcblepcbaaG2
set_option linter.unusedVariables false
set_option maxRecDepth 20000
set_option linter.unusedSimpArgs false
namespace Go.Proofs.Ytdidmhcblepcbaa
open Go.RowKit

mutual
theorem occ_bd : ∀ (t : Tm), t.Wf → ∀ n ∈ t.occ, -9223372036854775808 ≤ n ∧ n ≤ 9223372036854775807
  | ⟨k, s, q, l⟩, h, n, hn => by
    simp only [Tm.Wf] at h
    simp only [Tm.occ, List.mem_append] at hn
    rcases hn with hn | hn
    · split at hn
      · rw [List.mem_singleton] at hn; subst hn; exact h.2.1
      · cases hn
    · exact occL_bd l h.2.2.2 n hn
theorem occL_bd : ∀ (l : List Tm), WfL l → ∀ n ∈ occL l, -9223372036854775808 ≤ n ∧ n ≤ 9223372036854775807
  | [], _, n, hn => by simp [occL] at hn
  | t :: ts, h, n, hn => by
    simp only [WfL] at h
    simp only [occL, List.mem_append] at hn
    exact hn.elim (occ_bd t h.1 n) (occL_bd ts h.2 n)
end
/-- What is known, stage by stage. -/
structure I0 (w : World) (t : Tm) (u : Value) (t' : Tm) (u' : Value) (l : Bs) (vl : Value) (W : World) : Prop where
  b0 : Below w.heap.size w W
  x1 : Bt W w.heap.size t u
  x2 : Bt W (w.heap.size + 1) t' u'
  l : Kd.bd.S W (fun _ => True) l vl
section
variable {w W W' : World} {t : Tm} {u : Value} {t' : Tm} {u' : Value} {l : Bs} {vl : Value}
theorem I0.then (h : I0 w t u t' u' l vl W) (hb : Below W.heap.size W W') : I0 w t u t' u' l vl W' :=
  ⟨below_then h.b0 h.b0.size hb, h.x1.below hb, h.x2.below hb, bds_b h.l hb⟩
theorem I0.alloc (h : I0 w t u t' u' l vl W) (O : Obj) : I0 w t u t' u' l vl (W.alloc O) := h.then ((Below.refl _ W).alloc (Nat.le_refl _) O)
theorem I0.drew (h : I0 w t u t' u' l vl W) : I0 w t u t' u' l vl W.drew := h.then (Below.refl _ W).drew
theorem I0.cells (h : I0 w t u t' u' l vl W) : W.cell? ⟨w.heap.size, 0, none⟩ = some (.int .u8 t.k) ∧ W.cell? ⟨w.heap.size, 1, none⟩ = some (.string t.s) ∧ W.cell? ⟨w.heap.size, 2, none⟩ = some (.int .i64 t.n) ∧ W.cell? ⟨w.heap.size, 3, none⟩ = some u ∧ W.cell? ⟨(w.heap.size + 1), 0, none⟩ = some (.int .u8 t'.k) ∧ W.cell? ⟨(w.heap.size + 1), 1, none⟩ = some (.string t'.s) ∧ W.cell? ⟨(w.heap.size + 1), 2, none⟩ = some (.int .i64 t'.n) ∧ W.cell? ⟨(w.heap.size + 1), 3, none⟩ = some u' :=
  ⟨h.x1.cells.1, h.x1.cells.2.1, h.x1.cells.2.2.1, h.x1.cells.2.2.2, h.x2.cells.1, h.x2.cells.2.1, h.x2.cells.2.2.1, h.x2.cells.2.2.2⟩
end
structure I1 (w : World) (t : Tm) (u : Value) (t' : Tm) (u' : Value) (had : Bs) (p b : Nat) (W : World) : Prop where
  b0 : Below w.heap.size w W
  x1 : Bt W w.heap.size t u
  x2 : Bt W (w.heap.size + 1) t' u'
  s : Sb w W had p b
section
variable {w W W' : World} {t : Tm} {u : Value} {t' : Tm} {u' : Value} {had : Bs} {p b : Nat}
theorem I1.then (h : I1 w t u t' u' had p b W) (hb : Below W.heap.size W W') : I1 w t u t' u' had p b W' :=
  ⟨below_then h.b0 h.b0.size hb, h.x1.below hb, h.x2.below hb, h.s.below hb⟩
theorem I1.alloc (h : I1 w t u t' u' had p b W) (O : Obj) : I1 w t u t' u' had p b (W.alloc O) := h.then ((Below.refl _ W).alloc (Nat.le_refl _) O)
theorem I1.drew (h : I1 w t u t' u' had p b W) : I1 w t u t' u' had p b W.drew := h.then (Below.refl _ W).drew
theorem I1.cells (h : I1 w t u t' u' had p b W) : W.cell? ⟨w.heap.size, 0, none⟩ = some (.int .u8 t.k) ∧ W.cell? ⟨w.heap.size, 1, none⟩ = some (.string t.s) ∧ W.cell? ⟨w.heap.size, 2, none⟩ = some (.int .i64 t.n) ∧ W.cell? ⟨w.heap.size, 3, none⟩ = some u ∧ W.cell? ⟨(w.heap.size + 1), 0, none⟩ = some (.int .u8 t'.k) ∧ W.cell? ⟨(w.heap.size + 1), 1, none⟩ = some (.string t'.s) ∧ W.cell? ⟨(w.heap.size + 1), 2, none⟩ = some (.int .i64 t'.n) ∧ W.cell? ⟨(w.heap.size + 1), 3, none⟩ = some u' :=
  ⟨h.x1.cells.1, h.x1.cells.2.1, h.x1.cells.2.2.1, h.x1.cells.2.2.2, h.x2.cells.1, h.x2.cells.2.1, h.x2.cells.2.2.1, h.x2.cells.2.2.2⟩
end
structure I2 (w : World) (t : Tm) (u : Value) (t' : Tm) (u' : Value) (had : Bs) (p b : Nat) (ho : Bs) (p' b' : Nat) (W : World) : Prop where
  b0 : Below w.heap.size w W
  x1 : Bt W w.heap.size t u
  x2 : Bt W (w.heap.size + 1) t' u'
  s : Sb w W had p b
  o : Sb w W ho p' b'
section
variable {w W W' : World} {t : Tm} {u : Value} {t' : Tm} {u' : Value} {had : Bs} {p b : Nat} {ho : Bs} {p' b' : Nat}
theorem I2.then (h : I2 w t u t' u' had p b ho p' b' W) (hb : Below W.heap.size W W') : I2 w t u t' u' had p b ho p' b' W' :=
  ⟨below_then h.b0 h.b0.size hb, h.x1.below hb, h.x2.below hb, h.s.below hb, h.o.below hb⟩
theorem I2.alloc (h : I2 w t u t' u' had p b ho p' b' W) (O : Obj) : I2 w t u t' u' had p b ho p' b' (W.alloc O) := h.then ((Below.refl _ W).alloc (Nat.le_refl _) O)
theorem I2.drew (h : I2 w t u t' u' had p b ho p' b' W) : I2 w t u t' u' had p b ho p' b' W.drew := h.then (Below.refl _ W).drew
theorem I2.cells (h : I2 w t u t' u' had p b ho p' b' W) : W.cell? ⟨w.heap.size, 0, none⟩ = some (.int .u8 t.k) ∧ W.cell? ⟨w.heap.size, 1, none⟩ = some (.string t.s) ∧ W.cell? ⟨w.heap.size, 2, none⟩ = some (.int .i64 t.n) ∧ W.cell? ⟨w.heap.size, 3, none⟩ = some u ∧ W.cell? ⟨(w.heap.size + 1), 0, none⟩ = some (.int .u8 t'.k) ∧ W.cell? ⟨(w.heap.size + 1), 1, none⟩ = some (.string t'.s) ∧ W.cell? ⟨(w.heap.size + 1), 2, none⟩ = some (.int .i64 t'.n) ∧ W.cell? ⟨(w.heap.size + 1), 3, none⟩ = some u' :=
  ⟨h.x1.cells.1, h.x1.cells.2.1, h.x1.cells.2.2.1, h.x1.cells.2.2.2, h.x2.cells.1, h.x2.cells.2.1, h.x2.cells.2.2.1, h.x2.cells.2.2.2⟩
end
structure I3 (w : World) (t : Tm) (u : Value) (t' : Tm) (u' : Value) (had : Bs) (p b : Nat) (ho : Bs) (p' b' : Nat) (B3 : Nat) (x : Tm) (ux : Value) (W : World) : Prop where
  b0 : Below w.heap.size w W
  x1 : Bt W w.heap.size t u
  x2 : Bt W (w.heap.size + 1) t' u'
  s : Sb w W had p b
  o : Sb w W ho p' b'
  x3 : Bt W B3 x ux
section
variable {w W W' : World} {t : Tm} {u : Value} {t' : Tm} {u' : Value} {had : Bs} {p b : Nat} {ho : Bs} {p' b' : Nat} {B3 : Nat} {x : Tm} {ux : Value}
theorem I3.then (h : I3 w t u t' u' had p b ho p' b' B3 x ux W) (hb : Below W.heap.size W W') : I3 w t u t' u' had p b ho p' b' B3 x ux W' :=
  ⟨below_then h.b0 h.b0.size hb, h.x1.below hb, h.x2.below hb, h.s.below hb, h.o.below hb, h.x3.below hb⟩
theorem I3.alloc (h : I3 w t u t' u' had p b ho p' b' B3 x ux W) (O : Obj) : I3 w t u t' u' had p b ho p' b' B3 x ux (W.alloc O) := h.then ((Below.refl _ W).alloc (Nat.le_refl _) O)
theorem I3.drew (h : I3 w t u t' u' had p b ho p' b' B3 x ux W) : I3 w t u t' u' had p b ho p' b' B3 x ux W.drew := h.then (Below.refl _ W).drew
theorem I3.cells (h : I3 w t u t' u' had p b ho p' b' B3 x ux W) : W.cell? ⟨w.heap.size, 0, none⟩ = some (.int .u8 t.k) ∧ W.cell? ⟨w.heap.size, 1, none⟩ = some (.string t.s) ∧ W.cell? ⟨w.heap.size, 2, none⟩ = some (.int .i64 t.n) ∧ W.cell? ⟨w.heap.size, 3, none⟩ = some u ∧ W.cell? ⟨(w.heap.size + 1), 0, none⟩ = some (.int .u8 t'.k) ∧ W.cell? ⟨(w.heap.size + 1), 1, none⟩ = some (.string t'.s) ∧ W.cell? ⟨(w.heap.size + 1), 2, none⟩ = some (.int .i64 t'.n) ∧ W.cell? ⟨(w.heap.size + 1), 3, none⟩ = some u' ∧ W.cell? ⟨B3, 0, none⟩ = some (.int .u8 x.k) ∧ W.cell? ⟨B3, 1, none⟩ = some (.string x.s) ∧ W.cell? ⟨B3, 2, none⟩ = some (.int .i64 x.n) ∧ W.cell? ⟨B3, 3, none⟩ = some ux :=
  ⟨h.x1.cells.1, h.x1.cells.2.1, h.x1.cells.2.2.1, h.x1.cells.2.2.2, h.x2.cells.1, h.x2.cells.2.1, h.x2.cells.2.2.1, h.x2.cells.2.2.2, h.x3.cells.1, h.x3.cells.2.1, h.x3.cells.2.2.1, h.x3.cells.2.2.2⟩
end
structure I4 (w : World) (t : Tm) (u : Value) (t' : Tm) (u' : Value) (had : Bs) (p b : Nat) (ho : Bs) (p' b' : Nat) (B3 : Nat) (x : Tm) (ux : Value) (B4 : Nat) (y : Tm) (uy : Value) (W : World) : Prop where
  b0 : Below w.heap.size w W
  x1 : Bt W w.heap.size t u
  x2 : Bt W (w.heap.size + 1) t' u'
  s : Sb w W had p b
  o : Sb w W ho p' b'
  x3 : Bt W B3 x ux
  x4 : Bt W B4 y uy
section
variable {w W W' : World} {t : Tm} {u : Value} {t' : Tm} {u' : Value} {had : Bs} {p b : Nat} {ho : Bs} {p' b' : Nat} {B3 : Nat} {x : Tm} {ux : Value} {B4 : Nat} {y : Tm} {uy : Value}
theorem I4.then (h : I4 w t u t' u' had p b ho p' b' B3 x ux B4 y uy W) (hb : Below W.heap.size W W') : I4 w t u t' u' had p b ho p' b' B3 x ux B4 y uy W' :=
  ⟨below_then h.b0 h.b0.size hb, h.x1.below hb, h.x2.below hb, h.s.below hb, h.o.below hb, h.x3.below hb, h.x4.below hb⟩
theorem I4.alloc (h : I4 w t u t' u' had p b ho p' b' B3 x ux B4 y uy W) (O : Obj) : I4 w t u t' u' had p b ho p' b' B3 x ux B4 y uy (W.alloc O) := h.then ((Below.refl _ W).alloc (Nat.le_refl _) O)
theorem I4.drew (h : I4 w t u t' u' had p b ho p' b' B3 x ux B4 y uy W) : I4 w t u t' u' had p b ho p' b' B3 x ux B4 y uy W.drew := h.then (Below.refl _ W).drew
theorem I4.cells (h : I4 w t u t' u' had p b ho p' b' B3 x ux B4 y uy W) : W.cell? ⟨w.heap.size, 0, none⟩ = some (.int .u8 t.k) ∧ W.cell? ⟨w.heap.size, 1, none⟩ = some (.string t.s) ∧ W.cell? ⟨w.heap.size, 2, none⟩ = some (.int .i64 t.n) ∧ W.cell? ⟨w.heap.size, 3, none⟩ = some u ∧ W.cell? ⟨(w.heap.size + 1), 0, none⟩ = some (.int .u8 t'.k) ∧ W.cell? ⟨(w.heap.size + 1), 1, none⟩ = some (.string t'.s) ∧ W.cell? ⟨(w.heap.size + 1), 2, none⟩ = some (.int .i64 t'.n) ∧ W.cell? ⟨(w.heap.size + 1), 3, none⟩ = some u' ∧ W.cell? ⟨B3, 0, none⟩ = some (.int .u8 x.k) ∧ W.cell? ⟨B3, 1, none⟩ = some (.string x.s) ∧ W.cell? ⟨B3, 2, none⟩ = some (.int .i64 x.n) ∧ W.cell? ⟨B3, 3, none⟩ = some ux ∧ W.cell? ⟨B4, 0, none⟩ = some (.int .u8 y.k) ∧ W.cell? ⟨B4, 1, none⟩ = some (.string y.s) ∧ W.cell? ⟨B4, 2, none⟩ = some (.int .i64 y.n) ∧ W.cell? ⟨B4, 3, none⟩ = some uy :=
  ⟨h.x1.cells.1, h.x1.cells.2.1, h.x1.cells.2.2.1, h.x1.cells.2.2.2, h.x2.cells.1, h.x2.cells.2.1, h.x2.cells.2.2.1, h.x2.cells.2.2.2, h.x3.cells.1, h.x3.cells.2.1, h.x3.cells.2.2.1, h.x3.cells.2.2.2, h.x4.cells.1, h.x4.cells.2.1, h.x4.cells.2.2.1, h.x4.cells.2.2.2⟩
end
structure I5 (w : World) (t : Tm) (u : Value) (t' : Tm) (u' : Value) (had : Bs) (p b : Nat) (ho : Bs) (p' b' : Nat) (B3 : Nat) (x : Tm) (ux : Value) (B4 : Nat) (y : Tm) (uy : Value) (vs : List Int) (vv : Value) (W : World) : Prop where
  b0 : Below w.heap.size w W
  x1 : Bt W w.heap.size t u
  x2 : Bt W (w.heap.size + 1) t' u'
  s : Sb w W had p b
  o : Sb w W ho p' b'
  x3 : Bt W B3 x ux
  x4 : Bt W B4 y uy
  vs : (Kd.int .i64).S W (fun _ => True) vs vv
section
variable {w W W' : World} {t : Tm} {u : Value} {t' : Tm} {u' : Value} {had : Bs} {p b : Nat} {ho : Bs} {p' b' : Nat} {B3 : Nat} {x : Tm} {ux : Value} {B4 : Nat} {y : Tm} {uy : Value} {vs : List Int} {vv : Value}
theorem I5.then (h : I5 w t u t' u' had p b ho p' b' B3 x ux B4 y uy vs vv W) (hb : Below W.heap.size W W') : I5 w t u t' u' had p b ho p' b' B3 x ux B4 y uy vs vv W' :=
  ⟨below_then h.b0 h.b0.size hb, h.x1.below hb, h.x2.below hb, h.s.below hb, h.o.below hb, h.x3.below hb, h.x4.below hb, ints_b h.vs hb⟩
theorem I5.alloc (h : I5 w t u t' u' had p b ho p' b' B3 x ux B4 y uy vs vv W) (O : Obj) : I5 w t u t' u' had p b ho p' b' B3 x ux B4 y uy vs vv (W.alloc O) := h.then ((Below.refl _ W).alloc (Nat.le_refl _) O)
theorem I5.drew (h : I5 w t u t' u' had p b ho p' b' B3 x ux B4 y uy vs vv W) : I5 w t u t' u' had p b ho p' b' B3 x ux B4 y uy vs vv W.drew := h.then (Below.refl _ W).drew
theorem I5.cells (h : I5 w t u t' u' had p b ho p' b' B3 x ux B4 y uy vs vv W) : W.cell? ⟨w.heap.size, 0, none⟩ = some (.int .u8 t.k) ∧ W.cell? ⟨w.heap.size, 1, none⟩ = some (.string t.s) ∧ W.cell? ⟨w.heap.size, 2, none⟩ = some (.int .i64 t.n) ∧ W.cell? ⟨w.heap.size, 3, none⟩ = some u ∧ W.cell? ⟨(w.heap.size + 1), 0, none⟩ = some (.int .u8 t'.k) ∧ W.cell? ⟨(w.heap.size + 1), 1, none⟩ = some (.string t'.s) ∧ W.cell? ⟨(w.heap.size + 1), 2, none⟩ = some (.int .i64 t'.n) ∧ W.cell? ⟨(w.heap.size + 1), 3, none⟩ = some u' ∧ W.cell? ⟨B3, 0, none⟩ = some (.int .u8 x.k) ∧ W.cell? ⟨B3, 1, none⟩ = some (.string x.s) ∧ W.cell? ⟨B3, 2, none⟩ = some (.int .i64 x.n) ∧ W.cell? ⟨B3, 3, none⟩ = some ux ∧ W.cell? ⟨B4, 0, none⟩ = some (.int .u8 y.k) ∧ W.cell? ⟨B4, 1, none⟩ = some (.string y.s) ∧ W.cell? ⟨B4, 2, none⟩ = some (.int .i64 y.n) ∧ W.cell? ⟨B4, 3, none⟩ = some uy :=
  ⟨h.x1.cells.1, h.x1.cells.2.1, h.x1.cells.2.2.1, h.x1.cells.2.2.2, h.x2.cells.1, h.x2.cells.2.1, h.x2.cells.2.2.1, h.x2.cells.2.2.2, h.x3.cells.1, h.x3.cells.2.1, h.x3.cells.2.2.1, h.x3.cells.2.2.2, h.x4.cells.1, h.x4.cells.2.1, h.x4.cells.2.2.1, h.x4.cells.2.2.2⟩
end
theorem I5.bind {w W W' : World} {t : Tm} {u : Value} {t' : Tm} {u' : Value} {had : Bs} {p b : Nat} {ho : Bs} {p' b' : Nat} {B3 : Nat} {x : Tm} {ux : Value} {B4 : Nat} {y : Tm} {uy : Value} {vs : List Int} {vv : Value} {ok : Nat → Prop} {ho' : Bs} (h : I5 w t u t' u' had p b ho p' b' B3 x ux B4 y uy vs vv W) (hs : Sub W' ok ho' p' b') (hg : W.grownBy W' (some b')) (hq : b ≠ b') : I5 w t u t' u' had p b ho' p' b' B3 x ux B4 y uy vs vv W' :=
  have hu := h.o.ug hg
  ⟨below_bind h.b0 hu h.o.bw, h.x1.bind hu, h.x2.bind hu, h.s.bind hu hq, ⟨hs.mono (fun _ _ => trivial), h.o.pw, h.o.bw⟩, h.x3.bind hu, h.x4.bind hu, ints_bind hu h.vs⟩
structure I6 (w : World) (t : Tm) (u : Value) (t' : Tm) (u' : Value) (had : Bs) (p b : Nat) (ho : Bs) (p' b' : Nat) (B3 : Nat) (x : Tm) (ux : Value) (B4 : Nat) (y : Tm) (uy : Value) (B6 : Nat) (z : Tm) (uz : Value) (W : World) : Prop where
  b0 : Below w.heap.size w W
  x1 : Bt W w.heap.size t u
  x2 : Bt W (w.heap.size + 1) t' u'
  s : Sb w W had p b
  o : Sb w W ho p' b'
  x3 : Bt W B3 x ux
  x4 : Bt W B4 y uy
  x5 : Bt W B6 z uz
section
variable {w W W' : World} {t : Tm} {u : Value} {t' : Tm} {u' : Value} {had : Bs} {p b : Nat} {ho : Bs} {p' b' : Nat} {B3 : Nat} {x : Tm} {ux : Value} {B4 : Nat} {y : Tm} {uy : Value} {B6 : Nat} {z : Tm} {uz : Value}
theorem I6.then (h : I6 w t u t' u' had p b ho p' b' B3 x ux B4 y uy B6 z uz W) (hb : Below W.heap.size W W') : I6 w t u t' u' had p b ho p' b' B3 x ux B4 y uy B6 z uz W' :=
  ⟨below_then h.b0 h.b0.size hb, h.x1.below hb, h.x2.below hb, h.s.below hb, h.o.below hb, h.x3.below hb, h.x4.below hb, h.x5.below hb⟩
theorem I6.alloc (h : I6 w t u t' u' had p b ho p' b' B3 x ux B4 y uy B6 z uz W) (O : Obj) : I6 w t u t' u' had p b ho p' b' B3 x ux B4 y uy B6 z uz (W.alloc O) := h.then ((Below.refl _ W).alloc (Nat.le_refl _) O)
theorem I6.drew (h : I6 w t u t' u' had p b ho p' b' B3 x ux B4 y uy B6 z uz W) : I6 w t u t' u' had p b ho p' b' B3 x ux B4 y uy B6 z uz W.drew := h.then (Below.refl _ W).drew
theorem I6.cells (h : I6 w t u t' u' had p b ho p' b' B3 x ux B4 y uy B6 z uz W) : W.cell? ⟨w.heap.size, 0, none⟩ = some (.int .u8 t.k) ∧ W.cell? ⟨w.heap.size, 1, none⟩ = some (.string t.s) ∧ W.cell? ⟨w.heap.size, 2, none⟩ = some (.int .i64 t.n) ∧ W.cell? ⟨w.heap.size, 3, none⟩ = some u ∧ W.cell? ⟨(w.heap.size + 1), 0, none⟩ = some (.int .u8 t'.k) ∧ W.cell? ⟨(w.heap.size + 1), 1, none⟩ = some (.string t'.s) ∧ W.cell? ⟨(w.heap.size + 1), 2, none⟩ = some (.int .i64 t'.n) ∧ W.cell? ⟨(w.heap.size + 1), 3, none⟩ = some u' ∧ W.cell? ⟨B3, 0, none⟩ = some (.int .u8 x.k) ∧ W.cell? ⟨B3, 1, none⟩ = some (.string x.s) ∧ W.cell? ⟨B3, 2, none⟩ = some (.int .i64 x.n) ∧ W.cell? ⟨B3, 3, none⟩ = some ux ∧ W.cell? ⟨B4, 0, none⟩ = some (.int .u8 y.k) ∧ W.cell? ⟨B4, 1, none⟩ = some (.string y.s) ∧ W.cell? ⟨B4, 2, none⟩ = some (.int .i64 y.n) ∧ W.cell? ⟨B4, 3, none⟩ = some uy ∧ W.cell? ⟨B6, 0, none⟩ = some (.int .u8 z.k) ∧ W.cell? ⟨B6, 1, none⟩ = some (.string z.s) ∧ W.cell? ⟨B6, 2, none⟩ = some (.int .i64 z.n) ∧ W.cell? ⟨B6, 3, none⟩ = some uz :=
  ⟨h.x1.cells.1, h.x1.cells.2.1, h.x1.cells.2.2.1, h.x1.cells.2.2.2, h.x2.cells.1, h.x2.cells.2.1, h.x2.cells.2.2.1, h.x2.cells.2.2.2, h.x3.cells.1, h.x3.cells.2.1, h.x3.cells.2.2.1, h.x3.cells.2.2.2, h.x4.cells.1, h.x4.cells.2.1, h.x4.cells.2.2.1, h.x4.cells.2.2.2, h.x5.cells.1, h.x5.cells.2.1, h.x5.cells.2.2.1, h.x5.cells.2.2.2⟩
end

theorem two_bt {w : World} {ok ok' : Nat → Prop} {a b : Tm} {u u' : Value} (h : Kd.tm.S w ok a.l u) (h' : Kd.tm.S w ok' b.l u') :
    Bt ((w.alloc (.cells #[.int .u8 a.k, .string a.s, .int .i64 a.n, u] 25)).alloc (.cells #[.int .u8 b.k, .string b.s, .int .i64 b.n, u'] 25)) w.heap.size a u ∧
    Bt ((w.alloc (.cells #[.int .u8 a.k, .string a.s, .int .i64 a.n, u] 25)).alloc (.cells #[.int .u8 b.k, .string b.s, .int .i64 b.n, u'] 25)) (w.heap.size + 1) b u' := by
  refine ⟨(Bt.new h).below ((Below.refl _ _).alloc (Nat.le_refl _) _), ?_⟩
  have := Bt.new (W := w.alloc (.cells #[.int .u8 a.k, .string a.s, .int .i64 a.n, u] 25)) (h'.below ((Below.refl _ w).alloc (Nat.le_refl _) _))
  rwa [World.size_alloc] at this
theorem kV_wf {q : Int} (hq : -9223372036854775808 ≤ q ∧ q ≤ 9223372036854775807) : (kV q).Wf := by
  simp [kV, Tm.Wf, WfL, ByteArray.size]; omega
set_option maxRecDepth 100000 in
set_option maxHeartbeats 8000000 in
theorem SubstIdem_c (l : Bs) (t t' : Tm) (q : Int) (vl v v' : Value) (w : World) (okl ok ok' : Nat → Prop) (hvl : Kd.bd.S w okl l vl) (hv : TmV w ok t v) (hv' : TmV w ok' t' v') (hl : WfB l) (ht : t.Wf) (ht' : t'.Wf) (hq : -9223372036854775808 ≤ q ∧ q ≤ 9223372036854775807) :
    Calls Try.prog 6 #[vl, v, v', .int .i64 q] w fun e w' => e = .returned (.bool true) ∧ Below w.heap.size w w' := by
  obtain ⟨u, rfl, hS⟩ := hv
  obtain ⟨A, c, rfl⟩ := hS.form
  obtain ⟨u', rfl, hS'⟩ := hv'
  obtain ⟨A', c', rfl⟩ := hS'.form
  have HG := Lib.hid (fun W (h : I0 w t (.slice A t.l.length c) t' (.slice A' t'.l.length c') l vl W) => Great3_c l t vl _ W _ _ h.l h.x1.tmv hl ht)
  have HG2 := Lib.hid (fun W (h : I0 w t (.slice A t.l.length c) t' (.slice A' t'.l.length c') l vl W) => Great3_c [] t' (.slice none 0 0) _ W (fun _ => True) _ (Kd.S.nil _ _ _) h.x2.tmv (fun b hb => by cases hb) ht')
  have hb2 : ∀ O O' : Obj, Below w.heap.size w ((w.alloc O).alloc O') := fun O O' => ((Below.refl _ w).alloc (Nat.le_refl _) _).alloc (by simp) _
  have HT0 := Lib.hid (show I0 w t (.slice A t.l.length c) t' (.slice A' t'.l.length c') l vl ((w.alloc (.cells #[.int .u8 t.k, .string t.s, .int .i64 t.n, .slice A t.l.length c] 25)).alloc (.cells #[.int .u8 t'.k, .string t'.s, .int .i64 t'.n, .slice A' t'.l.length c'] 25)) from ⟨hb2 _ _, (two_bt hS hS').1, (two_bt hS hS').2, (hvl.below (hb2 _ _)).mono (fun _ _ => trivial)⟩)
  obtain ⟨Al, cl, rfl⟩ := hvl.form
  have hwf := Lib.hid ht
  have hwf' := Lib.hid ht'
  have hwl := Lib.hid hl
  clear hvl hS hS' hl ht ht' hb2
  cases hgr : great3 l t with
  | true =>
    rw [hgr] at HG
    clear hgr HG2
    go_enter Try.func6, Try.ntmps6
    go_wp2_with (first
      | (go_at_call 13; refine (HG.out _ HT0.out).mono ?_; clear HG; rintro e w1 ⟨rfl, hb1⟩; have h0 := HT0.out.then hb1; clear hb1)
      | (go_at_call 14; refine (wakes03_c _).mono ?_; rintro e w2 ⟨rfl, hb2⟩; replace h0 := h0.then hb2))
    go_ret
    exact ⟨rfl, h0.b0⟩
  | false =>
  cases hgr2 : great3 [] t' with
  | true =>
    rw [hgr] at HG
    rw [hgr2] at HG2
    clear hgr hgr2
    go_enter Try.func6, Try.ntmps6
    go_wp2_with (first
      | (go_at_call 13; refine (HG.out _ HT0.out).mono ?_; clear HG; rintro e w1 ⟨rfl, hb1⟩; have h0 := HT0.out.then hb1; clear hb1 HT0; obtain ⟨-, -, -, -, d0, d1, d2, d3⟩ := h0.cells)
      | (go_at_call 13; refine (HG2.out _ h0).mono ?_; clear HG2; rintro e w2 ⟨rfl, hb1⟩; replace h0 := h0.then hb1; clear hb1)
      | (go_at_call 14; refine (wakes03_c _).mono ?_; rintro e w2 ⟨rfl, hb2⟩; replace h0 := h0.then hb2))
    go_ret
    exact ⟨rfl, h0.b0⟩
  | false =>
    rw [hgr] at HG
    rw [hgr2] at HG2
    obtain ⟨hz1, hz2⟩ := great3_siz hgr
    have hll := (great3_no hgr).1
    have hsm : ∀ n x, ofB (mk [] l) n = some x → x.siz ≤ 1000000 := fun n x h => by have := mk_siz hz1 n x h; omega
    have hwm : ∀ n x, ofB (mk [] l) n = some x → x.Wf := fun n x h => by
      rcases mk_sub l [] _ (ofB_mem h) with h1 | h1
      · cases h1
      · exact (hwl.out _ h1).2
    have hac : Acyc (mk [] l) := mk_acyc l [] acyc_nil
    have hml : (mk [] l).length < 1000000 := by have := mk_length l []; simp only [List.length_nil] at this; omega
    have hsz : t.siz ≤ 1000000 := by omega
    have HMK := Lib.hid (fun W (h : I0 w t (.slice A t.l.length c) t' (.slice A' t'.l.length c') l (.slice Al l.length cl) W) => Make_c l _ W _ h.l hwl.out hll (fun b hb => by have := hz1 b hb; omega))
    generalize mk [] l = had at hsm hac hml HMK hwm
    have HCL := Lib.hid (fun W p b (h : I1 w t (.slice A t.l.length c) t' (.slice A' t'.l.length c') had p b W) => sClone_c had p b W _ h.s.sub)
    have HA := Lib.hid (fun W p b ho p' b' (h : I2 w t (.slice A t.l.length c) t' (.slice A' t'.l.length c') had p b ho p' b' W) => Apply_c had p b _ t _ W _ h.s.sub h.x1.tmv hwf.out (hac.fueled t) hsm hsz)
    change Hid (∀ W p b ho p' b', _ → Calls _ _ _ W (fun e w' => (∃ u, e = .returned (.tuple #[u, .int .i64 (appE (visA had t) (appA had t)).2]) ∧ TmV w' _ (appE (visA had t) (appA had t)).1 u) ∧ _)) at HA
    clear hgr hgr2 hz1 hz2
    by_cases hc : (visA had t).length ≤ 4096
    · have hE : appE (visA had t) (appA had t) = (appA had t, 0) := if_pos hc
      rw [hE] at HA
      simp only at HA
      obtain ⟨hfx, hax, hvx⟩ := app_fix hac _ t (hac.fueled t)
      have hxw : (appA had t).Wf := app_wf hwm _ t hwf.out
      have hxs : (appA had t).siz = (visA had t).length := app_siz _ t (hac.fueled t)
      have HOC := fun n (hn : n ∈ dd (occL [appA had t])) => app_occ hac _ t (hac.fueled t) (n := n) (by have := dd_mem.1 hn; simp only [occL, List.append_nil] at this; exact this)
      have HA2 := Lib.hid (fun W p b ho p' b' B3 ux (h : I3 w t (.slice A t.l.length c) t' (.slice A' t'.l.length c') had p b ho p' b' B3 (appA had t) ux W) => Apply_c had p b (fuelOf had t) (appA had t) _ W _ h.s.sub h.x3.tmv hxw hfx hsm (by omega))
      have hE2 : appE (vis had (fuelOf had t) (appA had t)) (app had (fuelOf had t) (appA had t)) = (appA had t, 0) := by
        unfold appE
        rw [if_pos (by show (vis had (fuelOf had t) (app had (fuelOf had t) t)).length ≤ 4096; rw [hvx]; exact hc)]
        exact congrArg (·, (0 : Int)) hax
      rw [hE2] at HA2
      simp only at HA2
      have HVS := Lib.hid (fun W bA (hx : Kd.tm.S W (fun _ => True) [appA had t] (.slice (some ⟨bA, 0, none⟩) 1 1)) => Vars_s [appA had t] _ W _ hx (by simp only [sizL]; omega))
      have HVB := Lib.hid (fun n (hn : n ∈ dd (occL [appA had t])) => occ_bd _ hxw n (by have := dd_mem.1 hn; simpa [occL] using this))
      have HWV := Lib.hid (fun n (hn : n ∈ dd (occL [appA had t])) W p b (hs : Sub W (fun _ => True) had p b) => Walk_c had p b (kV n) (.agg #[.int .u8 1, .string ⟨#[]⟩, .int .i64 n, .slice none 0 0]) W (fun _ => True) hs ⟨_, rfl, Kd.S.nil _ _ _⟩ (kV_wf (HVB.out n hn)))
      have HWV2 := Lib.hid (show ∀ n, n ∈ dd (occL [appA had t]) → wlk had (kV n) = kV n from fun n hn => wlk_unbound (HOC n hn).1)
      have HOV := Lib.hid (fun n (hn : n ∈ dd (occL [appA had t])) W p b u (hs : Sub W (fun _ => True) had p b) (ht : Kd.tm.S W (fun _ => True) t.l u) => Occurs_c had p b (fuelOf had t) n t (.agg #[.int .u8 t.k, .string t.s, .int .i64 t.n, u]) W (fun _ => True) hs ⟨_, rfl, ht⟩ hwf.out (hac.fueled t))
      have HOV2 := Lib.hid (fun n (hn : n ∈ dd (occL [appA had t])) => occE_in hc (HOC n hn).2)
      have HBI := Lib.hid (fun W p b p' b' B3 x ux B4 y uy vs vv (h : I5 w t (.slice A t.l.length c) t' (.slice A' t'.l.length c') had p b had p' b' B3 x ux B4 y uy vs vv W) => Bind_c had p' b' _ q t' _ W _ h.o.sub h.x2.tmv hwf'.out (hac.fueled t') hq hml)
      change Hid (∀ W p b p' b' B3 x ux B4 y uy vs vv, _ → Calls _ _ _ W (fun e w' => e = .returned (.int .i64 (bindE had q (visA had t'))) ∧ Sub w' _ (bnd had q t' (visA had t')) p' b' ∧ _)) at HBI
      have hEE : (bindE had q (visA had t') = 0 ∧ (bnd had q t' (visA had t')).length = had.length + 1) ∨ (bindE had q (visA had t') ≠ 0 ∧ (bnd had q t' (visA had t')).length = had.length) := by
        by_cases h : bindE had q (visA had t') = 0
        · left; exact ⟨h, by rw [bindE_eq h]; simp⟩
        · right; exact ⟨h, by rw [bindE_ne h]⟩
      generalize bnd had q t' (visA had t') = hadN at HBI hEE
      generalize bindE had q (visA had t') = E at HBI hEE
      clear hac hsm hwm hE hE2 hfx hax hvx hxw HOC
      have hvl : (dd (occL [appA had t])).length ≤ 1000000 := by
        have h1 := dd_length (occL [appA had t])
        have h2 := occL_length [appA had t]
        simp only [sizL] at h2
        omega
      clear hc hxs
      generalize dd (occL [appA had t]) = vs at hvl HVS HVB HWV HWV2 HOV HOV2
      generalize appA had t = x at HA HA2 HVS
      change Hid (∀ n hn W p b u, _ → _ → Calls _ _ _ W (fun e w' => e = .returned (.tuple #[.bool (occE (visA had t) n).1, .int .i64 (occE (visA had t) n).2]) ∧ _)) at HOV
      go_enter Try.func6, Try.ntmps6
      go_wp2_with (first
        | (go_at_call 13; refine (HG.out _ HT0.out).mono ?_; clear HG; rintro e w1 ⟨rfl, hb1⟩; have h0 := HT0.out.then hb1; clear hb1 HT0; obtain ⟨d0, d1, d2, d3, e0, e1, e2, e3⟩ := h0.cells)
        | (go_at_call 13; refine (HG2.out _ h0).mono ?_; clear HG2; rintro e w2 ⟨rfl, hb1⟩; replace h0 := h0.then hb1; clear hb1 d0 d1 d2 d3 e0 e1 e2 e3)
        | (go_at_call 15; refine (HMK.out _ h0).mono ?_; clear HMK; rintro e w3 ⟨⟨p, b, r, rfl, hs2, hr2, hp2, hb2⟩, hb1⟩; obtain ⟨rA, rc, rfl⟩ := hr2.form; have hz := h0.b0.size; replace h0 := h0.then hb1; have h1 : I1 w t (.slice A t.l.length c) t' (.slice A' t'.l.length c') had p b w3 := ⟨h0.b0, h0.x1, h0.x2, ⟨hs2.mono (fun _ _ => trivial), (by omega), (by omega)⟩⟩; clear hb1 hs2 hr2 hp2 hb2 h0 hz)
        | (go_at_call 28; refine (HCL.out _ _ _ h1).mono ?_; clear HCL; rintro e w4 ⟨⟨p', b', rfl, hs4, hp4, hb4⟩, hb1⟩; have hz := h1.b0.size; have hbb : b ≠ b' := (by have := h1.s.sub.lt.2; omega); replace h1 := h1.then hb1; have h2 : I2 w t (.slice A t.l.length c) t' (.slice A' t'.l.length c') had p b had p' b' w4 := ⟨h1.b0, h1.x1, h1.x2, h1.s, ⟨hs4.mono (fun _ _ => trivial), (by omega), (by omega)⟩⟩; clear hb1 hs4 hp4 hb4 h1 hz; obtain ⟨d0, d1, d2, d3, -, -, -, -⟩ := h2.cells)
        | (go_at_call 21; have hx := m1.out; clear hx m1; refine (HA2.out _ _ _ _ _ _ _ _ h3).mono ?_; clear HA2; rintro e w6 ⟨⟨u6, rfl, uu6, rfl, hu6⟩, hb1⟩; obtain ⟨A6, c6, rfl⟩ := hu6.form; replace h3 := (h3.then hb1).alloc (.cells #[.int .u8 x.k, .string x.s, .int .i64 x.n, .slice A6 x.l.length c6] 25); have h4 : I4 w t (.slice A t.l.length c) t' (.slice A' t'.l.length c') had p b had p' b' w5.heap.size x (.slice A4 x.l.length c4) w6.heap.size x (.slice A6 x.l.length c6) (w6.alloc (.cells #[.int .u8 x.k, .string x.s, .int .i64 x.n, .slice A6 x.l.length c6] 25)) := ⟨h3.b0, h3.x1, h3.x2, h3.s, h3.o, h3.x3, Bt.new hu6⟩; clear hb1 hu6 h3 g0 g1 g2 g3; obtain ⟨-, -, -, -, -, -, -, -, g0, g1, g2, g3, -, -, -, -⟩ := h4.cells)
        | (go_at_call 21; refine (HA.out _ _ _ _ _ _ h2).mono ?_; have m1 : Hid (0 = 0) := Lib.hid rfl; rintro e w5 ⟨⟨u4, rfl, uu4, rfl, hu4⟩, hb1⟩; obtain ⟨A4, c4, rfl⟩ := hu4.form; replace h2 := (h2.then hb1).alloc (.cells #[.int .u8 x.k, .string x.s, .int .i64 x.n, .slice A4 x.l.length c4] 25); have h3 : I3 w t (.slice A t.l.length c) t' (.slice A' t'.l.length c') had p b had p' b' w5.heap.size x (.slice A4 x.l.length c4) (w5.alloc (.cells #[.int .u8 x.k, .string x.s, .int .i64 x.n, .slice A4 x.l.length c4] 25)) := ⟨h2.b0, h2.x1, h2.x2, h2.s, h2.o, Bt.new hu4⟩; clear hb1 hu4 h2 d0 d1 d2 d3; obtain ⟨-, -, -, -, -, -, -, -, g0, g1, g2, g3⟩ := h3.cells)
        | (go_at_call 30; have hq := HVS.out _ _ (lit1_at (heap_new (w6.alloc (.cells #[.int .u8 x.k, .string x.s, .int .i64 x.n, .slice A6 x.l.length c6] 25)) (.cells #[.int .u8 x.k, .string x.s, .int .i64 x.n, .slice A4 x.l.length c4] 25)) (h4.alloc _).x3.args); rw [World.size_alloc] at hq; refine hq.mono ?_; clear hq HVS; rintro e w7 ⟨⟨Av, cv, rfl, hv7⟩, hb1⟩; replace h4 := (h4.alloc _).then hb1; have h5 : I5 w t (.slice A t.l.length c) t' (.slice A' t'.l.length c') had p b had p' b' w5.heap.size x (.slice A4 x.l.length c4) w6.heap.size x (.slice A6 x.l.length c6) vs (.slice Av vs.length cv) w7 := ⟨h4.b0, h4.x1, h4.x2, h4.s, h4.o, h4.x3, h4.x4, hv7⟩; clear hb1 hv7 h4 g0 g1 g2 g3))
      go_loopw [18] (fun i wr => ∃ j : Nat, j ≤ vs.length ∧ i = .int .i64 j ∧ I5 w t (.slice A t.l.length c) t' (.slice A' t'.l.length c') had p b had p' b' w5.heap.size x (.slice A4 x.l.length c4) w6.heap.size x (.slice A6 x.l.length c6) vs (.slice Av vs.length cv) wr) (fun i _ => vs.length - (intOf i).toNat)
      case atStart => exact ⟨0, Nat.zero_le _, rfl, h5⟩
      case round =>
        clear h5
        obtain ⟨j, hj, rfl, h5⟩ := hrel
        by_cases hlt : j < vs.length
        · obtain ⟨Avv, cvv, eA, -, -, hA⟩ := h5.vs
          injection eA with eA1 eA2 eA3
          subst eA1
          clear eA2 eA3
          obtain ⟨bv, ov, rfl, -, hlo, hcv⟩ := int_elem hA hlt
          have hn := List.getElem_mem hlt
          have HWn := Lib.hid (fun W (h : I5 w t (.slice A t.l.length c) t' (.slice A' t'.l.length c') had p b had p' b' w5.heap.size x (.slice A4 x.l.length c4) w6.heap.size x (.slice A6 x.l.length c6) vs (.slice (some ⟨bv, ov, none⟩) vs.length cv) W) => HWV.out vs[j] hn W p b h.s.sub)
          rw [HWV2.out vs[j] hn] at HWn
          have HOn := Lib.hid (fun W (h : I5 w t (.slice A t.l.length c) t' (.slice A' t'.l.length c') had p b had p' b' w5.heap.size x (.slice A4 x.l.length c4) w6.heap.size x (.slice A6 x.l.length c6) vs (.slice (some ⟨bv, ov, none⟩) vs.length cv) W) => HOV.out vs[j] hn W p b _ h.s.sub h.x1.args)
          rw [HOV2.out vs[j] hn] at HOn
          generalize vs[j] = n at hcv HWn HOn
          clear hA hn
          have hz := h5.b0.size
          go_wp2_with (first
            | (go_at_call 24; refine (V_c _ _ (fun _ => True)).mono ?_; rintro e w8 ⟨rfl, hb1⟩; replace h5 := h5.then hb1; replace hcv := cell_below hb1 hcv hlo; replace hlo := Nat.lt_of_lt_of_le hlo hb1.size; clear hb1)
            | (go_at_call 17; refine (HWn.out _ h5).mono ?_; clear HWn; rintro e w9 ⟨⟨u9, rfl, uu9, rfl, hu9⟩, hb1⟩; obtain ⟨A9, c9, rfl⟩ := hu9.form; replace h5 := h5.then hb1; replace hcv := cell_below hb1 hcv hlo; replace hlo := Nat.lt_of_lt_of_le hlo hb1.size; clear hb1 hu9))
          refine wp_region_held_drew (S := (fun W => W.cell? ⟨w9.heap.size, 0, none⟩ = some (.int .u8 1) ∧ W.cell? ⟨w9.heap.size, 2, none⟩ = some (.int .i64 n) ∧ W.cell? ⟨bv, ov + j, none⟩ = some (.int .i64 n))) (by kernel_rfl) ?_ (fun hHeld => ?_)
          · exact ⟨by simp [World.cell?_drew, kV], by simp [World.cell?_drew, kV], (cell_below ((Below.refl _ w9).alloc (Nat.le_refl _) _).drew hcv hlo)⟩
          change wpAnyH _ .any _ _ _ 12 (Array.replicate 12 false) _ _
          refine wpAnyH_take (i := 0) (oi := ⟨some 79, _, _, _, _, _⟩) (v := ?_) rfl (by kernel_rfl) (by kernel_rfl) (by kernel_rfl) (fun _ _ _ h => h) (Or.inl ⟨by rfl, ?_⟩) (by assumption) ?_
          rotate_left
          · (intro w hSw; (try dsimp only at hSw); go_simp; try (with_reducible rfl))
          (try simp only [Act.put, List.setIfInBounds_toArray, List.set_cons_zero, List.set_cons_succ])
          refine wpAnyH_take (i := 1) (oi := ⟨some 80, _, _, _, _, _⟩) (v := ?_) rfl (by kernel_rfl) (by kernel_rfl) (by kernel_rfl) (fun _ _ _ h => h) (Or.inl ⟨by rfl, ?_⟩) (by assumption) ?_
          rotate_left
          · (intro w hSw; (try dsimp only at hSw); go_simp; try (with_reducible rfl))
          (try simp only [Act.put, List.setIfInBounds_toArray, List.set_cons_zero, List.set_cons_succ])
          refine wpAnyH_take (i := 2) (oi := ⟨some 81, _, _, _, _, _⟩) (v := ?_) rfl (by kernel_rfl) (by kernel_rfl) (by kernel_rfl) (fun _ _ _ h => h) (Or.inl ⟨by rfl, ?_⟩) (by assumption) ?_
          rotate_left
          · (intro w hSw; (try dsimp only at hSw); go_simp; try (with_reducible rfl))
          (try simp only [Act.put, List.setIfInBounds_toArray, List.set_cons_zero, List.set_cons_succ])
          refine wpAnyH_take (i := 3) (oi := ⟨some 82, _, _, _, _, _⟩) (v := ?_) rfl (by kernel_rfl) (by kernel_rfl) (by kernel_rfl) (fun _ _ _ h => h) (Or.inl ⟨by rfl, ?_⟩) (by assumption) ?_
          rotate_left
          · (intro w hSw; (try dsimp only at hSw); go_simp; try (with_reducible rfl))
          (try simp only [Act.put, List.setIfInBounds_toArray, List.set_cons_zero, List.set_cons_succ])
          refine wpAnyH_take (i := 4) (oi := ⟨some 83, _, _, _, _, _⟩) (v := ?_) rfl (by kernel_rfl) (by kernel_rfl) (by kernel_rfl) (fun _ _ _ h => h) (Or.inl ⟨by rfl, ?_⟩) (by assumption) ?_
          rotate_left
          · (intro w hSw; (try dsimp only at hSw); go_simp; try (with_reducible rfl))
          (try simp only [Act.put, List.setIfInBounds_toArray, List.set_cons_zero, List.set_cons_succ])
          refine wpAnyH_take (i := 5) (oi := ⟨some 84, _, _, _, _, _⟩) (v := ?_) rfl (by kernel_rfl) (by kernel_rfl) (by kernel_rfl) (fun _ _ _ h => h) (Or.inl ⟨by rfl, ?_⟩) (by assumption) ?_
          rotate_left
          · (intro w hSw; (try dsimp only at hSw); go_simp; try (with_reducible rfl))
          (try simp only [Act.put, List.setIfInBounds_toArray, List.set_cons_zero, List.set_cons_succ])
          refine wpAnyH_take (i := 6) (oi := ⟨some 85, _, _, _, _, _⟩) (v := ?_) rfl (by kernel_rfl) (by kernel_rfl) (by kernel_rfl) (fun _ _ _ h => h) (Or.inl ⟨by rfl, ?_⟩) (by assumption) ?_
          rotate_left
          · (intro w hSw; (try dsimp only at hSw); go_simp; try (with_reducible rfl))
          (try simp only [Act.put, List.setIfInBounds_toArray, List.set_cons_zero, List.set_cons_succ])
          refine wpAnyH_take (i := 7) (oi := ⟨some 86, _, _, _, _, _⟩) (v := ?_) rfl (by kernel_rfl) (by kernel_rfl) (by kernel_rfl) (fun _ _ _ h => h) (Or.inl ⟨by rfl, ?_⟩) (by assumption) ?_
          rotate_left
          · (intro w hSw; (try dsimp only at hSw); go_simp; try (with_reducible rfl))
          (try simp only [Act.put, List.setIfInBounds_toArray, List.set_cons_zero, List.set_cons_succ])
          refine wpAnyH_take (i := 8) (oi := ⟨some 87, _, _, _, _, _⟩) (v := ?_) rfl (by kernel_rfl) (by kernel_rfl) (by kernel_rfl) (fun _ _ _ h => h) (Or.inl ⟨by rfl, ?_⟩) (by assumption) ?_
          rotate_left
          · (intro w hSw; (try dsimp only at hSw); go_simp; try (with_reducible rfl))
          (try simp only [Act.put, List.setIfInBounds_toArray, List.set_cons_zero, List.set_cons_succ])
          refine wpAnyH_take (i := 9) (oi := ⟨some 88, _, _, _, _, _⟩) (v := ?_) rfl (by kernel_rfl) (by kernel_rfl) (by kernel_rfl) (fun _ _ _ h => h) (Or.inl ⟨by rfl, ?_⟩) (by assumption) ?_
          rotate_left
          · (intro w hSw; (try dsimp only at hSw); go_simp; try (with_reducible rfl))
          (try simp only [Act.put, List.setIfInBounds_toArray, List.set_cons_zero, List.set_cons_succ])
          refine wpAnyH_take (i := 10) (oi := ⟨some 89, _, _, _, _, _⟩) (v := ?_) rfl (by kernel_rfl) (by kernel_rfl) (by kernel_rfl) (fun _ _ _ h => h) (Or.inl ⟨by rfl, ?_⟩) (by assumption) ?_
          rotate_left
          · (intro w hSw; (try dsimp only at hSw); go_simp; try (with_reducible rfl))
          (try simp only [Act.put, List.setIfInBounds_toArray, List.set_cons_zero, List.set_cons_succ])
          refine wpAnyH_take (i := 11) (oi := ⟨some 90, _, _, _, _, _⟩) (v := ?_) rfl (by kernel_rfl) (by kernel_rfl) (by kernel_rfl) (fun _ _ _ h => h) (Or.inl ⟨by rfl, ?_⟩) (by assumption) ?_
          rotate_left
          · (intro w hSw; (try dsimp only at hSw); go_simp; try (with_reducible rfl))
          (try simp only [Act.put, List.setIfInBounds_toArray, List.set_cons_zero, List.set_cons_succ])
          refine wpAnyH_done (by kernel_rfl) ?_ _
          replace hcv := cell_below ((Below.refl _ w9).alloc (Nat.le_refl _) (.cells #[.int .u8 (kV n).k, .string (kV n).s, .int .i64 (kV n).n, .slice A9 (kV n).l.length c9] 25)).drew hcv hlo
          replace h5 := h5.then ((Below.refl _ w9).alloc (Nat.le_refl _) (.cells #[.int .u8 (kV n).k, .string (kV n).s, .int .i64 (kV n).n, .slice A9 (kV n).l.length c9] 25)).drew
          generalize (w9.alloc _).drew = W9 at hcv h5 ⊢
          go_wp2
          refine wp_region_held_drew (S := (fun W => W.cell? ⟨w.heap.size, 0, none⟩ = some (.int .u8 t.k) ∧ W.cell? ⟨w.heap.size, 1, none⟩ = some (.string t.s) ∧ W.cell? ⟨w.heap.size, 2, none⟩ = some (.int .i64 t.n) ∧ W.cell? ⟨w.heap.size, 3, none⟩ = some (.slice A t.l.length c) ∧ W.cell? ⟨bv, ov + j, none⟩ = some (.int .i64 n))) (by kernel_rfl) ?_ (fun hHeld => ?_)
          · exact ⟨h5.drew.x1.cells.1, h5.drew.x1.cells.2.1, h5.drew.x1.cells.2.2.1, h5.drew.x1.cells.2.2.2, (cell_below (Below.refl _ W9).drew hcv (cell_lt hcv))⟩
          change wpAnyH _ .any _ _ _ 12 (Array.replicate 12 false) _ _
          refine wpAnyH_take (i := 0) (oi := ⟨some 92, _, _, _, _, _⟩) (v := ?_) rfl (by kernel_rfl) (by kernel_rfl) (by kernel_rfl) (fun _ _ _ h => h) (Or.inl ⟨by rfl, ?_⟩) (by assumption) ?_
          rotate_left
          · (intro w hSw; (try dsimp only at hSw); go_simp; try (with_reducible rfl))
          (try simp only [Act.put, List.setIfInBounds_toArray, List.set_cons_zero, List.set_cons_succ])
          refine wpAnyH_take (i := 1) (oi := ⟨some 93, _, _, _, _, _⟩) (v := ?_) rfl (by kernel_rfl) (by kernel_rfl) (by kernel_rfl) (fun _ _ _ h => h) (Or.inl ⟨by rfl, ?_⟩) (by assumption) ?_
          rotate_left
          · (intro w hSw; (try dsimp only at hSw); go_simp; try (with_reducible rfl))
          (try simp only [Act.put, List.setIfInBounds_toArray, List.set_cons_zero, List.set_cons_succ])
          refine wpAnyH_take (i := 2) (oi := ⟨some 94, _, _, _, _, _⟩) (v := ?_) rfl (by kernel_rfl) (by kernel_rfl) (by kernel_rfl) (fun _ _ _ h => h) (Or.inl ⟨by rfl, ?_⟩) (by assumption) ?_
          rotate_left
          · (intro w hSw; (try dsimp only at hSw); go_simp; try (with_reducible rfl))
          (try simp only [Act.put, List.setIfInBounds_toArray, List.set_cons_zero, List.set_cons_succ])
          refine wpAnyH_take (i := 3) (oi := ⟨some 95, _, _, _, _, _⟩) (v := ?_) rfl (by kernel_rfl) (by kernel_rfl) (by kernel_rfl) (fun _ _ _ h => h) (Or.inl ⟨by rfl, ?_⟩) (by assumption) ?_
          rotate_left
          · (intro w hSw; (try dsimp only at hSw); go_simp; try (with_reducible rfl))
          (try simp only [Act.put, List.setIfInBounds_toArray, List.set_cons_zero, List.set_cons_succ])
          refine wpAnyH_take (i := 4) (oi := ⟨some 96, _, _, _, _, _⟩) (v := ?_) rfl (by kernel_rfl) (by kernel_rfl) (by kernel_rfl) (fun _ _ _ h => h) (Or.inl ⟨by rfl, ?_⟩) (by assumption) ?_
          rotate_left
          · (intro w hSw; (try dsimp only at hSw); go_simp; try (with_reducible rfl))
          (try simp only [Act.put, List.setIfInBounds_toArray, List.set_cons_zero, List.set_cons_succ])
          refine wpAnyH_take (i := 5) (oi := ⟨some 97, _, _, _, _, _⟩) (v := ?_) rfl (by kernel_rfl) (by kernel_rfl) (by kernel_rfl) (fun _ _ _ h => h) (Or.inl ⟨by rfl, ?_⟩) (by assumption) ?_
          rotate_left
          · (intro w hSw; (try dsimp only at hSw); go_simp; try (with_reducible rfl))
          (try simp only [Act.put, List.setIfInBounds_toArray, List.set_cons_zero, List.set_cons_succ])
          replace hcv := cell_below (Below.refl _ W9).drew hcv (cell_lt hcv)
          replace h5 := h5.drew
          refine wpAnyH_ready (rs := [6]) (by kernel_rfl) (by simp) ?_
          refine AllReadyH.cons (o := ⟨some 98, _, _, _, _, _⟩) rfl (fun K hK => ?_) AllReadyH.nil
          go_simp
          go_at_call 19
          refine (HOn.out _ h5).mono ?_
          clear HOn
          rintro e w10 ⟨rfl, hb1⟩
          replace hcv := cell_below hb1 hcv (cell_lt hcv)
          replace h5 := h5.then hb1
          clear hb1
          go_wp2_with fail
          refine hK.out _ _ ⟨h5.x1.cells.1, h5.x1.cells.2.1, h5.x1.cells.2.2.1, h5.x1.cells.2.2.2, hcv⟩ (fun hHeld => ?_)
          clear hK K
          (try simp only [Act.put, List.setIfInBounds_toArray, List.set_cons_zero, List.set_cons_succ])
          refine wpAnyH_take (i := 7) (oi := ⟨some 91, _, _, _, _, _⟩) (v := ?_) rfl (by kernel_rfl) (by kernel_rfl) (by kernel_rfl) (fun _ _ _ h => h) (Or.inl ⟨by rfl, ?_⟩) (by assumption) ?_
          rotate_left
          · (intro w hSw; (try dsimp only at hSw); go_simp; try (with_reducible rfl))
          (try simp only [Act.put, List.setIfInBounds_toArray, List.set_cons_zero, List.set_cons_succ])
          refine wpAnyH_take (i := 8) (oi := ⟨some 99, _, _, _, _, _⟩) (v := ?_) rfl (by kernel_rfl) (by kernel_rfl) (by kernel_rfl) (fun _ _ _ h => h) (Or.inl ⟨by rfl, ?_⟩) (by assumption) ?_
          rotate_left
          · (intro w hSw; (try dsimp only at hSw); go_simp; try (with_reducible rfl))
          (try simp only [Act.put, List.setIfInBounds_toArray, List.set_cons_zero, List.set_cons_succ])
          refine wpAnyH_take (i := 9) (oi := ⟨some 100, _, _, _, _, _⟩) (v := ?_) rfl (by kernel_rfl) (by kernel_rfl) (by kernel_rfl) (fun _ _ _ h => h) (Or.inl ⟨by rfl, ?_⟩) (by assumption) ?_
          rotate_left
          · (intro w hSw; (try dsimp only at hSw); go_simp; try (with_reducible rfl))
          (try simp only [Act.put, List.setIfInBounds_toArray, List.set_cons_zero, List.set_cons_succ])
          refine wpAnyH_take (i := 10) (oi := ⟨some 20, _, _, _, _, _⟩) (v := ?_) rfl (by kernel_rfl) (by kernel_rfl) (by kernel_rfl) (fun _ _ _ h => h) (Or.inl ⟨by rfl, ?_⟩) (by assumption) ?_
          rotate_left
          · (intro w hSw; (try dsimp only at hSw); go_simp; try (with_reducible rfl))
          (try simp only [Act.put, List.setIfInBounds_toArray, List.set_cons_zero, List.set_cons_succ])
          refine wpAnyH_take (i := 11) (oi := ⟨some 21, _, _, _, _, _⟩) (v := ?_) rfl (by kernel_rfl) (by kernel_rfl) (by kernel_rfl) (fun _ _ _ h => h) (Or.inl ⟨by rfl, ?_⟩) (by assumption) ?_
          rotate_left
          · (intro w hSw; (try dsimp only at hSw); go_simp; try (with_reducible rfl))
          (try simp only [Act.put, List.setIfInBounds_toArray, List.set_cons_zero, List.set_cons_succ])
          refine wpAnyH_done (by kernel_rfl) ?_ _
          go_wp2
          go_roundw
          case rel => exact ⟨j + 1, by omega, by go_num, h5⟩
          case measure => simp [intOf]; omega
        · obtain ⟨m, hm⟩ : ∃ m : Nat, m = had.length := ⟨_, rfl⟩
          have HLS := Lib.hid (fun W (h : Sub W (fun _ => True) had p b) => sLen_c had p b W _ h)
          have HLO := Lib.hid (fun W (h : Sub W (fun _ => True) hadN p' b') => sLen_c hadN p' b' W _ h)
          rw [← hm] at HLS hEE hml
          clear hm
          rcases hEE with ⟨rfl, hle⟩ | ⟨hE0, hle⟩
          · rw [hle] at HLO
            clear hle
            go_wp2_with (first
              | (go_at_call_has 29 (Value.pointer (some ⟨p', 0, none⟩)); refine (HLO.out _ h6.o.sub).mono ?_; clear HLO; rintro e w8 ⟨rfl, hb1⟩; replace h6 := h6.then hb1; clear hb1)
              | (go_at_call 29; refine (HLS.out _ h6.s.sub).mono ?_; clear HLS; rintro e w8 ⟨rfl, hb1⟩; replace h6 := h6.then hb1; clear hb1)
              | (go_at_call 29; refine (HLS.out _ h5.s.sub).mono ?_; rintro e w8 ⟨rfl, hb1⟩; replace h5 := h5.then hb1; clear hb1; obtain ⟨-, -, -, -, d0, d1, d2, d3, -, -, -, -, -, -, -, -⟩ := h5.cells)
              | (go_at_call 25; refine (HBI.out _ _ _ _ _ _ _ _ _ _ _ _ _ h5).mono ?_; clear HBI; rintro e w9 ⟨rfl, hs9, hg9⟩; replace h5 := h5.bind hs9 hg9 hbb; clear hs9 hg9 d0 d1 d2 d3; obtain ⟨d0, d1, d2, d3, -, -, -, -, -, -, -, -, -, -, -, -⟩ := h5.cells)
              | (go_at_call 21; refine (HA.out _ p b hadN p' b' ⟨h5.b0, h5.x1, h5.x2, h5.s, h5.o⟩).mono ?_; clear HA; rintro e w10 ⟨⟨u10, rfl, uu10, rfl, hu10⟩, hb1⟩; obtain ⟨A10, c10, rfl⟩ := hu10.form; replace h5 := (h5.then hb1).alloc (.cells #[.int .u8 x.k, .string x.s, .int .i64 x.n, .slice A10 x.l.length c10] 25); have h6 : I6 w t (.slice A t.l.length c) t' (.slice A' t'.l.length c') had p b hadN p' b' w5.heap.size x (.slice A4 x.l.length c4) w6.heap.size x (.slice A6 x.l.length c6) w10.heap.size x (.slice A10 x.l.length c10) (w10.alloc (.cells #[.int .u8 x.k, .string x.s, .int .i64 x.n, .slice A10 x.l.length c10] 25)) := ⟨h5.b0, h5.x1, h5.x2, h5.s, h5.o, h5.x3, h5.x4, Bt.new hu10⟩; clear hb1 hu10 h5 d0 d1 d2 d3; obtain ⟨-, -, -, -, -, -, -, -, x0, x1, x2, x3, y0, y1, y2, y3, z0, z1, z2, z3⟩ := h6.cells)
              | (go_at_call_has 16 (Value.slice A6 x.l.length c6); refine (rSame_refl x _ _ _ _ _ h6.x3.tmv h6.x4.tmv).mono ?_; rintro e w11 ⟨rfl, hb1⟩; replace h6 := h6.then hb1; clear hb1 x0 x1 x2 x3 y0 y1 y2 y3 z0 z1 z2 z3; obtain ⟨-, -, -, -, -, -, -, -, x0, x1, x2, x3, y0, y1, y2, y3, z0, z1, z2, z3⟩ := h6.cells)
              | (go_at_call 16; refine (rSame_refl x _ _ _ _ _ h6.x3.tmv h6.x5.tmv).mono ?_; rintro e w12 ⟨rfl, hb1⟩; replace h6 := h6.then hb1; clear hb1 x0 x1 x2 x3 y0 y1 y2 y3 z0 z1 z2 z3)
              | (go_at_call 14; refine (wakes03_c _).mono ?_; rintro e w13 ⟨rfl, hb1⟩; replace h6 := h6.then hb1; clear hb1))
            go_ret
            exact ⟨rfl, h6.b0⟩
          · rw [hle] at HLO
            have hE1 : (E == 0) = false := by simpa using hE0
            have hx1 : ((m : Int) == (m : Int) + 1) = false := by simp; omega
            clear hle hE0
            go_wp2_with (first
              | (go_at_call_has 29 (Value.pointer (some ⟨p', 0, none⟩)); refine (HLO.out _ h6.o.sub).mono ?_; clear HLO; rintro e w8 ⟨rfl, hb1⟩; replace h6 := h6.then hb1; clear hb1)
              | (go_at_call 29; refine (HLS.out _ h6.s.sub).mono ?_; clear HLS; rintro e w8 ⟨rfl, hb1⟩; replace h6 := h6.then hb1; clear hb1)
              | (go_at_call 29; refine (HLS.out _ h5.s.sub).mono ?_; rintro e w8 ⟨rfl, hb1⟩; replace h5 := h5.then hb1; clear hb1; obtain ⟨-, -, -, -, d0, d1, d2, d3, -, -, -, -, -, -, -, -⟩ := h5.cells)
              | (go_at_call 25; refine (HBI.out _ _ _ _ _ _ _ _ _ _ _ _ _ h5).mono ?_; clear HBI; rintro e w9 ⟨rfl, hs9, hg9⟩; replace h5 := h5.bind hs9 hg9 hbb; clear hs9 hg9 d0 d1 d2 d3; obtain ⟨d0, d1, d2, d3, -, -, -, -, -, -, -, -, -, -, -, -⟩ := h5.cells)
              | (go_at_call 21; refine (HA.out _ p b hadN p' b' ⟨h5.b0, h5.x1, h5.x2, h5.s, h5.o⟩).mono ?_; clear HA; rintro e w10 ⟨⟨u10, rfl, uu10, rfl, hu10⟩, hb1⟩; obtain ⟨A10, c10, rfl⟩ := hu10.form; replace h5 := (h5.then hb1).alloc (.cells #[.int .u8 x.k, .string x.s, .int .i64 x.n, .slice A10 x.l.length c10] 25); have h6 : I6 w t (.slice A t.l.length c) t' (.slice A' t'.l.length c') had p b hadN p' b' w5.heap.size x (.slice A4 x.l.length c4) w6.heap.size x (.slice A6 x.l.length c6) w10.heap.size x (.slice A10 x.l.length c10) (w10.alloc (.cells #[.int .u8 x.k, .string x.s, .int .i64 x.n, .slice A10 x.l.length c10] 25)) := ⟨h5.b0, h5.x1, h5.x2, h5.s, h5.o, h5.x3, h5.x4, Bt.new hu10⟩; clear hb1 hu10 h5 d0 d1 d2 d3; obtain ⟨-, -, -, -, -, -, -, -, x0, x1, x2, x3, y0, y1, y2, y3, z0, z1, z2, z3⟩ := h6.cells)
              | (go_at_call_has 16 (Value.slice A6 x.l.length c6); refine (rSame_refl x _ _ _ _ _ h6.x3.tmv h6.x4.tmv).mono ?_; rintro e w11 ⟨rfl, hb1⟩; replace h6 := h6.then hb1; clear hb1 x0 x1 x2 x3 y0 y1 y2 y3 z0 z1 z2 z3; obtain ⟨-, -, -, -, -, -, -, -, x0, x1, x2, x3, y0, y1, y2, y3, z0, z1, z2, z3⟩ := h6.cells)
              | (go_at_call 16; refine (rSame_refl x _ _ _ _ _ h6.x3.tmv h6.x5.tmv).mono ?_; rintro e w12 ⟨rfl, hb1⟩; replace h6 := h6.then hb1; clear hb1 x0 x1 x2 x3 y0 y1 y2 y3 z0 z1 z2 z3)
              | (go_at_call 14; refine (wakes03_c _).mono ?_; rintro e w13 ⟨rfl, hb1⟩; replace h6 := h6.then hb1; clear hb1))
            go_ret
            exact ⟨rfl, h6.b0⟩
    · have hE : appE (visA had t) (appA had t) = (tm0, 31) := if_neg hc
      rw [hE] at HA
      simp only at HA
      generalize tm0 = x at HA
      clear hE hc hac hsm hml hwm
      go_enter Try.func6, Try.ntmps6
      go_wp2_with (first
        | (go_at_call 13; refine (HG.out _ HT0.out).mono ?_; clear HG; rintro e w1 ⟨rfl, hb1⟩; have h0 := HT0.out.then hb1; clear hb1 HT0; obtain ⟨d0, d1, d2, d3, e0, e1, e2, e3⟩ := h0.cells)
        | (go_at_call 13; refine (HG2.out _ h0).mono ?_; clear HG2; rintro e w2 ⟨rfl, hb1⟩; replace h0 := h0.then hb1; clear hb1 d0 d1 d2 d3 e0 e1 e2 e3)
        | (go_at_call 15; refine (HMK.out _ h0).mono ?_; clear HMK; rintro e w3 ⟨⟨p, b, r, rfl, hs2, hr2, hp2, hb2⟩, hb1⟩; obtain ⟨rA, rc, rfl⟩ := hr2.form; have hz := h0.b0.size; replace h0 := h0.then hb1; have h1 : I1 w t (.slice A t.l.length c) t' (.slice A' t'.l.length c') had p b w3 := ⟨h0.b0, h0.x1, h0.x2, ⟨hs2.mono (fun _ _ => trivial), (by omega), (by omega)⟩⟩; clear hb1 hs2 hr2 hp2 hb2 h0 hz)
        | (go_at_call 28; refine (HCL.out _ _ _ h1).mono ?_; clear HCL; rintro e w4 ⟨⟨p', b', rfl, hs4, hp4, hb4⟩, hb1⟩; have hz := h1.b0.size; have hbb : b ≠ b' := (by have := h1.s.sub.lt.2; omega); replace h1 := h1.then hb1; have h2 : I2 w t (.slice A t.l.length c) t' (.slice A' t'.l.length c') had p b had p' b' w4 := ⟨h1.b0, h1.x1, h1.x2, h1.s, ⟨hs4.mono (fun _ _ => trivial), (by omega), (by omega)⟩⟩; clear hb1 hs4 hp4 hb4 h1 hz; obtain ⟨d0, d1, d2, d3, -, -, -, -⟩ := h2.cells)
        | (go_at_call 21; refine (HA.out _ _ _ _ _ _ h2).mono ?_; clear HA; rintro e w5 ⟨⟨u4, rfl, uu4, rfl, hu4⟩, hb1⟩; obtain ⟨A4, c4, rfl⟩ := hu4.form; replace h2 := (h2.then hb1).alloc (.cells #[.int .u8 x.k, .string x.s, .int .i64 x.n, .slice A4 x.l.length c4] 25); have h3 : I3 w t (.slice A t.l.length c) t' (.slice A' t'.l.length c') had p b had p' b' w5.heap.size x (.slice A4 x.l.length c4) (w5.alloc (.cells #[.int .u8 x.k, .string x.s, .int .i64 x.n, .slice A4 x.l.length c4] 25)) := ⟨h2.b0, h2.x1, h2.x2, h2.s, h2.o, Bt.new hu4⟩; clear hb1 hu4 h2 d0 d1 d2 d3; obtain ⟨-, -, -, -, -, -, -, -, g0, g1, g2, g3⟩ := h3.cells)
        | (go_at_call 14; refine (wakes03_c _).mono ?_; rintro e w8 ⟨rfl, hb1⟩; replace h3 := h3.then hb1; clear hb1))
      go_ret
      exact ⟨rfl, h3.b0⟩
end Go.Proofs.Ytdidmhcblepcbaa

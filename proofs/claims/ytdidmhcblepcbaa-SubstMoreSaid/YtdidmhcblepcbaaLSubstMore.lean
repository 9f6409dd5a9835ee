/- The law SubstMore, walked. Conditions: the arguments read; what they are made of is in its bounds. -/
import Derived.Test.YtdidmhcblepcbaaSf
import Derived.Test.YtdidmhcblepcbaaG2
set_option linter.unusedVariables false
set_option maxRecDepth 20000
set_option linter.unusedSimpArgs false
namespace Go.Proofs.Ytdidmhcblepcbaa
open Go.RowKit

/-- What is known, stage by stage. -/
structure M0 (w : World) (t : Tm) (u : Value) (t' : Tm) (u' : Value) (l : Bs) (vl : Value) (W : World) : Prop where
  b0 : Below w.heap.size w W
  x1 : Bt W w.heap.size t u
  x2 : Bt W (w.heap.size + 1) t' u'
  l : Kd.bd.S W (fun _ => True) l vl
section
variable {w W W' : World} {t : Tm} {u : Value} {t' : Tm} {u' : Value} {l : Bs} {vl : Value}
theorem M0.then (h : M0 w t u t' u' l vl W) (hb : Below W.heap.size W W') : M0 w t u t' u' l vl W' :=
  ⟨below_then h.b0 h.b0.size hb, h.x1.below hb, h.x2.below hb, bds_b h.l hb⟩
theorem M0.alloc (h : M0 w t u t' u' l vl W) (O : Obj) : M0 w t u t' u' l vl (W.alloc O) := h.then ((Below.refl _ W).alloc (Nat.le_refl _) O)
theorem M0.drew (h : M0 w t u t' u' l vl W) : M0 w t u t' u' l vl W.drew := h.then (Below.refl _ W).drew
theorem M0.cells (h : M0 w t u t' u' l vl W) : W.cell? ⟨w.heap.size, 0, none⟩ = some (.int .u8 t.k) ∧ W.cell? ⟨w.heap.size, 1, none⟩ = some (.string t.s) ∧ W.cell? ⟨w.heap.size, 2, none⟩ = some (.int .i64 t.n) ∧ W.cell? ⟨w.heap.size, 3, none⟩ = some u ∧ W.cell? ⟨(w.heap.size + 1), 0, none⟩ = some (.int .u8 t'.k) ∧ W.cell? ⟨(w.heap.size + 1), 1, none⟩ = some (.string t'.s) ∧ W.cell? ⟨(w.heap.size + 1), 2, none⟩ = some (.int .i64 t'.n) ∧ W.cell? ⟨(w.heap.size + 1), 3, none⟩ = some u' :=
  ⟨h.x1.cells.1, h.x1.cells.2.1, h.x1.cells.2.2.1, h.x1.cells.2.2.2, h.x2.cells.1, h.x2.cells.2.1, h.x2.cells.2.2.1, h.x2.cells.2.2.2⟩
end
structure M1 (w : World) (t : Tm) (u : Value) (t' : Tm) (u' : Value) (had : Bs) (p b : Nat) (W : World) : Prop where
  b0 : Below w.heap.size w W
  x1 : Bt W w.heap.size t u
  x2 : Bt W (w.heap.size + 1) t' u'
  s : Sb w W had p b
section
variable {w W W' : World} {t : Tm} {u : Value} {t' : Tm} {u' : Value} {had : Bs} {p b : Nat}
theorem M1.then (h : M1 w t u t' u' had p b W) (hb : Below W.heap.size W W') : M1 w t u t' u' had p b W' :=
  ⟨below_then h.b0 h.b0.size hb, h.x1.below hb, h.x2.below hb, h.s.below hb⟩
theorem M1.alloc (h : M1 w t u t' u' had p b W) (O : Obj) : M1 w t u t' u' had p b (W.alloc O) := h.then ((Below.refl _ W).alloc (Nat.le_refl _) O)
theorem M1.drew (h : M1 w t u t' u' had p b W) : M1 w t u t' u' had p b W.drew := h.then (Below.refl _ W).drew
theorem M1.cells (h : M1 w t u t' u' had p b W) : W.cell? ⟨w.heap.size, 0, none⟩ = some (.int .u8 t.k) ∧ W.cell? ⟨w.heap.size, 1, none⟩ = some (.string t.s) ∧ W.cell? ⟨w.heap.size, 2, none⟩ = some (.int .i64 t.n) ∧ W.cell? ⟨w.heap.size, 3, none⟩ = some u ∧ W.cell? ⟨(w.heap.size + 1), 0, none⟩ = some (.int .u8 t'.k) ∧ W.cell? ⟨(w.heap.size + 1), 1, none⟩ = some (.string t'.s) ∧ W.cell? ⟨(w.heap.size + 1), 2, none⟩ = some (.int .i64 t'.n) ∧ W.cell? ⟨(w.heap.size + 1), 3, none⟩ = some u' :=
  ⟨h.x1.cells.1, h.x1.cells.2.1, h.x1.cells.2.2.1, h.x1.cells.2.2.2, h.x2.cells.1, h.x2.cells.2.1, h.x2.cells.2.2.1, h.x2.cells.2.2.2⟩
end
structure M2 (w : World) (t : Tm) (u : Value) (t' : Tm) (u' : Value) (had : Bs) (p b : Nat) (B2 : Nat) (x : Tm) (ux : Value) (W : World) : Prop where
  b0 : Below w.heap.size w W
  x1 : Bt W w.heap.size t u
  x2 : Bt W (w.heap.size + 1) t' u'
  s : Sb w W had p b
  x3 : Bt W B2 x ux
section
variable {w W W' : World} {t : Tm} {u : Value} {t' : Tm} {u' : Value} {had : Bs} {p b : Nat} {B2 : Nat} {x : Tm} {ux : Value}
theorem M2.then (h : M2 w t u t' u' had p b B2 x ux W) (hb : Below W.heap.size W W') : M2 w t u t' u' had p b B2 x ux W' :=
  ⟨below_then h.b0 h.b0.size hb, h.x1.below hb, h.x2.below hb, h.s.below hb, h.x3.below hb⟩
theorem M2.alloc (h : M2 w t u t' u' had p b B2 x ux W) (O : Obj) : M2 w t u t' u' had p b B2 x ux (W.alloc O) := h.then ((Below.refl _ W).alloc (Nat.le_refl _) O)
theorem M2.drew (h : M2 w t u t' u' had p b B2 x ux W) : M2 w t u t' u' had p b B2 x ux W.drew := h.then (Below.refl _ W).drew
theorem M2.cells (h : M2 w t u t' u' had p b B2 x ux W) : W.cell? ⟨w.heap.size, 0, none⟩ = some (.int .u8 t.k) ∧ W.cell? ⟨w.heap.size, 1, none⟩ = some (.string t.s) ∧ W.cell? ⟨w.heap.size, 2, none⟩ = some (.int .i64 t.n) ∧ W.cell? ⟨w.heap.size, 3, none⟩ = some u ∧ W.cell? ⟨(w.heap.size + 1), 0, none⟩ = some (.int .u8 t'.k) ∧ W.cell? ⟨(w.heap.size + 1), 1, none⟩ = some (.string t'.s) ∧ W.cell? ⟨(w.heap.size + 1), 2, none⟩ = some (.int .i64 t'.n) ∧ W.cell? ⟨(w.heap.size + 1), 3, none⟩ = some u' ∧ W.cell? ⟨B2, 0, none⟩ = some (.int .u8 x.k) ∧ W.cell? ⟨B2, 1, none⟩ = some (.string x.s) ∧ W.cell? ⟨B2, 2, none⟩ = some (.int .i64 x.n) ∧ W.cell? ⟨B2, 3, none⟩ = some ux :=
  ⟨h.x1.cells.1, h.x1.cells.2.1, h.x1.cells.2.2.1, h.x1.cells.2.2.2, h.x2.cells.1, h.x2.cells.2.1, h.x2.cells.2.2.1, h.x2.cells.2.2.2, h.x3.cells.1, h.x3.cells.2.1, h.x3.cells.2.2.1, h.x3.cells.2.2.2⟩
end
structure M3 (w : World) (t : Tm) (u : Value) (t' : Tm) (u' : Value) (had : Bs) (p b : Nat) (B2 : Nat) (x : Tm) (ux : Value) (B3 : Nat) (y : Tm) (uy : Value) (W : World) : Prop where
  b0 : Below w.heap.size w W
  x1 : Bt W w.heap.size t u
  x2 : Bt W (w.heap.size + 1) t' u'
  s : Sb w W had p b
  x3 : Bt W B2 x ux
  x4 : Bt W B3 y uy
section
variable {w W W' : World} {t : Tm} {u : Value} {t' : Tm} {u' : Value} {had : Bs} {p b : Nat} {B2 : Nat} {x : Tm} {ux : Value} {B3 : Nat} {y : Tm} {uy : Value}
theorem M3.then (h : M3 w t u t' u' had p b B2 x ux B3 y uy W) (hb : Below W.heap.size W W') : M3 w t u t' u' had p b B2 x ux B3 y uy W' :=
  ⟨below_then h.b0 h.b0.size hb, h.x1.below hb, h.x2.below hb, h.s.below hb, h.x3.below hb, h.x4.below hb⟩
theorem M3.alloc (h : M3 w t u t' u' had p b B2 x ux B3 y uy W) (O : Obj) : M3 w t u t' u' had p b B2 x ux B3 y uy (W.alloc O) := h.then ((Below.refl _ W).alloc (Nat.le_refl _) O)
theorem M3.drew (h : M3 w t u t' u' had p b B2 x ux B3 y uy W) : M3 w t u t' u' had p b B2 x ux B3 y uy W.drew := h.then (Below.refl _ W).drew
theorem M3.cells (h : M3 w t u t' u' had p b B2 x ux B3 y uy W) : W.cell? ⟨w.heap.size, 0, none⟩ = some (.int .u8 t.k) ∧ W.cell? ⟨w.heap.size, 1, none⟩ = some (.string t.s) ∧ W.cell? ⟨w.heap.size, 2, none⟩ = some (.int .i64 t.n) ∧ W.cell? ⟨w.heap.size, 3, none⟩ = some u ∧ W.cell? ⟨(w.heap.size + 1), 0, none⟩ = some (.int .u8 t'.k) ∧ W.cell? ⟨(w.heap.size + 1), 1, none⟩ = some (.string t'.s) ∧ W.cell? ⟨(w.heap.size + 1), 2, none⟩ = some (.int .i64 t'.n) ∧ W.cell? ⟨(w.heap.size + 1), 3, none⟩ = some u' ∧ W.cell? ⟨B2, 0, none⟩ = some (.int .u8 x.k) ∧ W.cell? ⟨B2, 1, none⟩ = some (.string x.s) ∧ W.cell? ⟨B2, 2, none⟩ = some (.int .i64 x.n) ∧ W.cell? ⟨B2, 3, none⟩ = some ux ∧ W.cell? ⟨B3, 0, none⟩ = some (.int .u8 y.k) ∧ W.cell? ⟨B3, 1, none⟩ = some (.string y.s) ∧ W.cell? ⟨B3, 2, none⟩ = some (.int .i64 y.n) ∧ W.cell? ⟨B3, 3, none⟩ = some uy :=
  ⟨h.x1.cells.1, h.x1.cells.2.1, h.x1.cells.2.2.1, h.x1.cells.2.2.2, h.x2.cells.1, h.x2.cells.2.1, h.x2.cells.2.2.1, h.x2.cells.2.2.2, h.x3.cells.1, h.x3.cells.2.1, h.x3.cells.2.2.1, h.x3.cells.2.2.2, h.x4.cells.1, h.x4.cells.2.1, h.x4.cells.2.2.1, h.x4.cells.2.2.2⟩
theorem M3.bind {ok : Nat → Prop} {l' : Bs} (h : M3 w t u t' u' had p b B2 x ux B3 y uy W) (hs : Sub W' ok l' p b) (hg : W.grownBy W' (some b)) : M3 w t u t' u' l' p b B2 x ux B3 y uy W' :=
  have hu := h.s.ug hg
  ⟨below_bind h.b0 hu h.s.bw, h.x1.bind hu, h.x2.bind hu, ⟨hs.mono (fun _ _ => trivial), h.s.pw, h.s.bw⟩, h.x3.bind hu, h.x4.bind hu⟩
end
structure M4 (w : World) (t : Tm) (u : Value) (t' : Tm) (u' : Value) (had : Bs) (p b : Nat) (B2 : Nat) (x : Tm) (ux : Value) (B3 : Nat) (y : Tm) (uy : Value) (B4 : Nat) (z : Tm) (uz : Value) (W : World) : Prop where
  b0 : Below w.heap.size w W
  x1 : Bt W w.heap.size t u
  x2 : Bt W (w.heap.size + 1) t' u'
  s : Sb w W had p b
  x3 : Bt W B2 x ux
  x4 : Bt W B3 y uy
  x5 : Bt W B4 z uz
section
variable {w W W' : World} {t : Tm} {u : Value} {t' : Tm} {u' : Value} {had : Bs} {p b : Nat} {B2 : Nat} {x : Tm} {ux : Value} {B3 : Nat} {y : Tm} {uy : Value} {B4 : Nat} {z : Tm} {uz : Value}
theorem M4.then (h : M4 w t u t' u' had p b B2 x ux B3 y uy B4 z uz W) (hb : Below W.heap.size W W') : M4 w t u t' u' had p b B2 x ux B3 y uy B4 z uz W' :=
  ⟨below_then h.b0 h.b0.size hb, h.x1.below hb, h.x2.below hb, h.s.below hb, h.x3.below hb, h.x4.below hb, h.x5.below hb⟩
theorem M4.alloc (h : M4 w t u t' u' had p b B2 x ux B3 y uy B4 z uz W) (O : Obj) : M4 w t u t' u' had p b B2 x ux B3 y uy B4 z uz (W.alloc O) := h.then ((Below.refl _ W).alloc (Nat.le_refl _) O)
theorem M4.drew (h : M4 w t u t' u' had p b B2 x ux B3 y uy B4 z uz W) : M4 w t u t' u' had p b B2 x ux B3 y uy B4 z uz W.drew := h.then (Below.refl _ W).drew
theorem M4.cells (h : M4 w t u t' u' had p b B2 x ux B3 y uy B4 z uz W) : W.cell? ⟨w.heap.size, 0, none⟩ = some (.int .u8 t.k) ∧ W.cell? ⟨w.heap.size, 1, none⟩ = some (.string t.s) ∧ W.cell? ⟨w.heap.size, 2, none⟩ = some (.int .i64 t.n) ∧ W.cell? ⟨w.heap.size, 3, none⟩ = some u ∧ W.cell? ⟨(w.heap.size + 1), 0, none⟩ = some (.int .u8 t'.k) ∧ W.cell? ⟨(w.heap.size + 1), 1, none⟩ = some (.string t'.s) ∧ W.cell? ⟨(w.heap.size + 1), 2, none⟩ = some (.int .i64 t'.n) ∧ W.cell? ⟨(w.heap.size + 1), 3, none⟩ = some u' ∧ W.cell? ⟨B2, 0, none⟩ = some (.int .u8 x.k) ∧ W.cell? ⟨B2, 1, none⟩ = some (.string x.s) ∧ W.cell? ⟨B2, 2, none⟩ = some (.int .i64 x.n) ∧ W.cell? ⟨B2, 3, none⟩ = some ux ∧ W.cell? ⟨B3, 0, none⟩ = some (.int .u8 y.k) ∧ W.cell? ⟨B3, 1, none⟩ = some (.string y.s) ∧ W.cell? ⟨B3, 2, none⟩ = some (.int .i64 y.n) ∧ W.cell? ⟨B3, 3, none⟩ = some uy ∧ W.cell? ⟨B4, 0, none⟩ = some (.int .u8 z.k) ∧ W.cell? ⟨B4, 1, none⟩ = some (.string z.s) ∧ W.cell? ⟨B4, 2, none⟩ = some (.int .i64 z.n) ∧ W.cell? ⟨B4, 3, none⟩ = some uz :=
  ⟨h.x1.cells.1, h.x1.cells.2.1, h.x1.cells.2.2.1, h.x1.cells.2.2.2, h.x2.cells.1, h.x2.cells.2.1, h.x2.cells.2.2.1, h.x2.cells.2.2.2, h.x3.cells.1, h.x3.cells.2.1, h.x3.cells.2.2.1, h.x3.cells.2.2.2, h.x4.cells.1, h.x4.cells.2.1, h.x4.cells.2.2.1, h.x4.cells.2.2.2, h.x5.cells.1, h.x5.cells.2.1, h.x5.cells.2.2.1, h.x5.cells.2.2.2⟩
end
structure M5 (w : World) (t : Tm) (u : Value) (t' : Tm) (u' : Value) (had : Bs) (p b : Nat) (B2 : Nat) (x : Tm) (ux : Value) (B3 : Nat) (y : Tm) (uy : Value) (B4 : Nat) (z : Tm) (uz : Value) (B5 : Nat) (o : Tm) (uo : Value) (W : World) : Prop where
  b0 : Below w.heap.size w W
  x1 : Bt W w.heap.size t u
  x2 : Bt W (w.heap.size + 1) t' u'
  s : Sb w W had p b
  x3 : Bt W B2 x ux
  x4 : Bt W B3 y uy
  x5 : Bt W B4 z uz
  x6 : Bt W B5 o uo
section
variable {w W W' : World} {t : Tm} {u : Value} {t' : Tm} {u' : Value} {had : Bs} {p b : Nat} {B2 : Nat} {x : Tm} {ux : Value} {B3 : Nat} {y : Tm} {uy : Value} {B4 : Nat} {z : Tm} {uz : Value} {B5 : Nat} {o : Tm} {uo : Value}
theorem M5.then (h : M5 w t u t' u' had p b B2 x ux B3 y uy B4 z uz B5 o uo W) (hb : Below W.heap.size W W') : M5 w t u t' u' had p b B2 x ux B3 y uy B4 z uz B5 o uo W' :=
  ⟨below_then h.b0 h.b0.size hb, h.x1.below hb, h.x2.below hb, h.s.below hb, h.x3.below hb, h.x4.below hb, h.x5.below hb, h.x6.below hb⟩
theorem M5.alloc (h : M5 w t u t' u' had p b B2 x ux B3 y uy B4 z uz B5 o uo W) (O : Obj) : M5 w t u t' u' had p b B2 x ux B3 y uy B4 z uz B5 o uo (W.alloc O) := h.then ((Below.refl _ W).alloc (Nat.le_refl _) O)
theorem M5.drew (h : M5 w t u t' u' had p b B2 x ux B3 y uy B4 z uz B5 o uo W) : M5 w t u t' u' had p b B2 x ux B3 y uy B4 z uz B5 o uo W.drew := h.then (Below.refl _ W).drew
theorem M5.cells (h : M5 w t u t' u' had p b B2 x ux B3 y uy B4 z uz B5 o uo W) : W.cell? ⟨w.heap.size, 0, none⟩ = some (.int .u8 t.k) ∧ W.cell? ⟨w.heap.size, 1, none⟩ = some (.string t.s) ∧ W.cell? ⟨w.heap.size, 2, none⟩ = some (.int .i64 t.n) ∧ W.cell? ⟨w.heap.size, 3, none⟩ = some u ∧ W.cell? ⟨(w.heap.size + 1), 0, none⟩ = some (.int .u8 t'.k) ∧ W.cell? ⟨(w.heap.size + 1), 1, none⟩ = some (.string t'.s) ∧ W.cell? ⟨(w.heap.size + 1), 2, none⟩ = some (.int .i64 t'.n) ∧ W.cell? ⟨(w.heap.size + 1), 3, none⟩ = some u' ∧ W.cell? ⟨B2, 0, none⟩ = some (.int .u8 x.k) ∧ W.cell? ⟨B2, 1, none⟩ = some (.string x.s) ∧ W.cell? ⟨B2, 2, none⟩ = some (.int .i64 x.n) ∧ W.cell? ⟨B2, 3, none⟩ = some ux ∧ W.cell? ⟨B3, 0, none⟩ = some (.int .u8 y.k) ∧ W.cell? ⟨B3, 1, none⟩ = some (.string y.s) ∧ W.cell? ⟨B3, 2, none⟩ = some (.int .i64 y.n) ∧ W.cell? ⟨B3, 3, none⟩ = some uy ∧ W.cell? ⟨B4, 0, none⟩ = some (.int .u8 z.k) ∧ W.cell? ⟨B4, 1, none⟩ = some (.string z.s) ∧ W.cell? ⟨B4, 2, none⟩ = some (.int .i64 z.n) ∧ W.cell? ⟨B4, 3, none⟩ = some uz ∧ W.cell? ⟨B5, 0, none⟩ = some (.int .u8 o.k) ∧ W.cell? ⟨B5, 1, none⟩ = some (.string o.s) ∧ W.cell? ⟨B5, 2, none⟩ = some (.int .i64 o.n) ∧ W.cell? ⟨B5, 3, none⟩ = some uo :=
  ⟨h.x1.cells.1, h.x1.cells.2.1, h.x1.cells.2.2.1, h.x1.cells.2.2.2, h.x2.cells.1, h.x2.cells.2.1, h.x2.cells.2.2.1, h.x2.cells.2.2.2, h.x3.cells.1, h.x3.cells.2.1, h.x3.cells.2.2.1, h.x3.cells.2.2.2, h.x4.cells.1, h.x4.cells.2.1, h.x4.cells.2.2.1, h.x4.cells.2.2.2, h.x5.cells.1, h.x5.cells.2.1, h.x5.cells.2.2.1, h.x5.cells.2.2.2, h.x6.cells.1, h.x6.cells.2.1, h.x6.cells.2.2.1, h.x6.cells.2.2.2⟩
end

theorem two_bt {w : World} {ok ok' : Nat → Prop} {a b : Tm} {u u' : Value} (h : Kd.tm.S w ok a.l u) (h' : Kd.tm.S w ok' b.l u') :
    Bt ((w.alloc (.cells #[.int .u8 a.k, .string a.s, .int .i64 a.n, u] 25)).alloc (.cells #[.int .u8 b.k, .string b.s, .int .i64 b.n, u'] 25)) w.heap.size a u ∧
    Bt ((w.alloc (.cells #[.int .u8 a.k, .string a.s, .int .i64 a.n, u] 25)).alloc (.cells #[.int .u8 b.k, .string b.s, .int .i64 b.n, u'] 25)) (w.heap.size + 1) b u' := by
  refine ⟨(Bt.new h).below ((Below.refl _ _).alloc (Nat.le_refl _) _), ?_⟩
  have := Bt.new (W := w.alloc (.cells #[.int .u8 a.k, .string a.s, .int .i64 a.n, u] 25)) (h'.below ((Below.refl _ w).alloc (Nat.le_refl _) _))
  rwa [World.size_alloc] at this
theorem kV_wf {q : Int} (hq : -9223372036854775808 ≤ q ∧ q ≤ 9223372036854775807) : (kV q).Wf := by
  simp [kV, Tm.Wf, WfL, ByteArray.size]; omega
set_option maxRecDepth 100000 in
set_option maxHeartbeats 8000000 in
theorem SubstMore_c (l : Bs) (t t' : Tm) (q : Int) (vl v v' : Value) (w : World) (okl ok ok' : Nat → Prop) (hvl : Kd.bd.S w okl l vl) (hv : TmV w ok t v) (hv' : TmV w ok' t' v') (hl : WfB l) (ht : t.Wf) (ht' : t'.Wf) (hq : -9223372036854775808 ≤ q ∧ q ≤ 9223372036854775807) :
    Calls Try.prog 4 #[vl, v, v', .int .i64 q] w fun e w' => e = .returned (.bool true) ∧ Below w.heap.size w w' := by
  obtain ⟨u, rfl, hS⟩ := hv
  obtain ⟨A, c, rfl⟩ := hS.form
  obtain ⟨u', rfl, hS'⟩ := hv'
  obtain ⟨A', c', rfl⟩ := hS'.form
  have HG := Lib.hid (fun W (h : M0 w t (.slice A t.l.length c) t' (.slice A' t'.l.length c') l vl W) => Great3_c l t vl _ W _ _ h.l h.x1.tmv hl ht)
  have HG2 := Lib.hid (fun W (h : M0 w t (.slice A t.l.length c) t' (.slice A' t'.l.length c') l vl W) => Great3_c [] t' (.slice none 0 0) _ W (fun _ => True) _ (Kd.S.nil _ _ _) h.x2.tmv (fun b hb => by cases hb) ht')
  have hb2 : ∀ O O' : Obj, Below w.heap.size w ((w.alloc O).alloc O') := fun O O' => ((Below.refl _ w).alloc (Nat.le_refl _) _).alloc (by simp) _
  have HT0 := Lib.hid (show M0 w t (.slice A t.l.length c) t' (.slice A' t'.l.length c') l vl ((w.alloc (.cells #[.int .u8 t.k, .string t.s, .int .i64 t.n, .slice A t.l.length c] 25)).alloc (.cells #[.int .u8 t'.k, .string t'.s, .int .i64 t'.n, .slice A' t'.l.length c'] 25)) from ⟨hb2 _ _, (two_bt hS hS').1, (two_bt hS hS').2, (hvl.below (hb2 _ _)).mono (fun _ _ => trivial)⟩)
  obtain ⟨Al, cl, rfl⟩ := hvl.form
  have hwf := Lib.hid ht
  have hwf' := Lib.hid ht'
  have hwl := Lib.hid hl
  clear hvl hS hS' hl ht ht' hb2
  cases hgr : great3 l t with
  | true =>
    rw [hgr] at HG
    clear hgr HG2
    go_enter Try.func4, Try.ntmps4
    go_wp2_with (first
      | (go_at_call 13; refine (HG.out _ HT0.out).mono ?_; clear HG; rintro e w1 ⟨rfl, hb1⟩; have h0 := HT0.out.then hb1; clear hb1)
      | (go_at_call 14; refine (wakes03_c _).mono ?_; rintro e w2 ⟨rfl, hb2⟩; replace h0 := h0.then hb2))
    go_ret
    exact ⟨rfl, h0.b0⟩
  | false =>
  cases hgr2 : great3 [] t' with
  | true =>
    rw [hgr] at HG
    rw [hgr2] at HG2
    clear hgr hgr2
    go_enter Try.func4, Try.ntmps4
    go_wp2_with (first
      | (go_at_call 13; refine (HG.out _ HT0.out).mono ?_; clear HG; rintro e w1 ⟨rfl, hb1⟩; have h0 := HT0.out.then hb1; clear hb1 HT0; obtain ⟨-, -, -, -, d0, d1, d2, d3⟩ := h0.cells)
      | (go_at_call 13; refine (HG2.out _ h0).mono ?_; clear HG2; rintro e w2 ⟨rfl, hb1⟩; replace h0 := h0.then hb1; clear hb1)
      | (go_at_call 14; refine (wakes03_c _).mono ?_; rintro e w2 ⟨rfl, hb2⟩; replace h0 := h0.then hb2))
    go_ret
    exact ⟨rfl, h0.b0⟩
  | false =>
    rw [hgr] at HG
    rw [hgr2] at HG2
    obtain ⟨hz1, hz2⟩ := great3_siz hgr
    obtain ⟨-, hz3⟩ := great3_siz hgr2
    have hll := (great3_no hgr).1
    have hsm : ∀ n x, ofB (mk [] l) n = some x → x.siz ≤ 1000000 := fun n x h => by have := mk_siz hz1 n x h; omega
    have hac : Acyc (mk [] l) := mk_acyc l [] acyc_nil
    have hml : (mk [] l).length < 1000000 := by have := mk_length l []; simp only [List.length_nil] at this; omega
    have hsz : t.siz ≤ 1000000 := by omega
    have HMK := Lib.hid (fun W (h : M0 w t (.slice A t.l.length c) t' (.slice A' t'.l.length c') l (.slice Al l.length cl) W) => Make_c l _ W _ h.l hwl.out hll (fun b hb => by have := hz1 b hb; omega))
    generalize mk [] l = had at hsm hac hml HMK
    have hac' := bnd_acyc hac q t'
    have HA := Lib.hid (fun W p b (h : M1 w t (.slice A t.l.length c) t' (.slice A' t'.l.length c') had p b W) => Apply_c had p b _ t _ W _ h.s.sub h.x1.tmv hwf.out (hac.fueled t) hsm hsz)
    have HW := Lib.hid (fun W p b B2 x ux (h : M2 w t (.slice A t.l.length c) t' (.slice A' t'.l.length c') had p b B2 x ux W) => Walk_c had p b (kV q) _ W (fun _ => True) h.s.sub ⟨_, rfl, Kd.S.nil _ _ _⟩ (kV_wf hq))
    change Hid (∀ W p b B2 x ux, _ → Calls _ _ #[.pointer (some ⟨p, 0, none⟩), .agg #[.int .u8 1, .string ⟨#[]⟩, .int .i64 q, .slice none 0 0]] W _) at HW
    have HBI := Lib.hid (fun W p b B2 x ux B3 y uy (h : M3 w t (.slice A t.l.length c) t' (.slice A' t'.l.length c') had p b B2 x ux B3 y uy W) => Bind_c had p b _ q t' _ W _ h.s.sub h.x2.tmv hwf'.out (hac.fueled t') hq hml)
    have hsm' : ∀ n x, ofB (had ++ [(q, t')]) n = some x → x.siz ≤ 1000000 := fun n x h => by
      rcases List.mem_append.1 (ofB_mem h) with h1 | h1
      · rw [ofB_append] at h
        cases ho : ofB had n with
        | some y => rw [ho] at h; injection h with h; subst h; exact hsm _ _ ho
        | none =>
          rw [ho, ofB_one] at h
          simp only at h
          split at h
          · injection h with h; subst h; omega
          · cases h
      · rw [List.mem_singleton] at h1; injection h1 with _ h1; subst h1; omega
    change Hid (∀ W p b B2 x ux B3 y uy, _ → Calls _ _ _ W (fun e w' => e = .returned (.int .i64 (bindE had q (visA had t'))) ∧ Sub w' _ (bnd had q t' (visA had t')) p b ∧ _)) at HBI
    change Hid (∀ W p b, _ → Calls _ _ _ W (fun e w' => (∃ u, e = .returned (.tuple #[u, .int .i64 (appE (visA had t) (appA had t)).2]) ∧ TmV w' _ (appE (visA had t) (appA had t)).1 u) ∧ _)) at HA
    have hbo : bindE had q (visA had t') = 0 → ofB had q = none := fun h => (bindE_ok h).1
    have hcase : (¬ (visA had t).length ≤ 4096) ∨ ((visA had t).length ≤ 4096 ∧ ¬ bindE had q (visA had t') = 0) ∨ ((visA had t).length ≤ 4096 ∧ bindE had q (visA had t') = 0) := by
      by_cases h1 : (visA had t).length ≤ 4096
      · by_cases h2 : bindE had q (visA had t') = 0
        · exact .inr (.inr ⟨h1, h2⟩)
        · exact .inr (.inl ⟨h1, h2⟩)
      · exact .inl h1
    clear hgr hgr2 hz1 hz2
    rcases hcase with hc | ⟨hc, hbn⟩ | ⟨hc, hbe⟩
    · have hE : appE (visA had t) (appA had t) = (tm0, 31) := if_neg hc
      rw [hE] at HA
      simp only at HA
      generalize tm0 = x at HA
      generalize bnd had q t' (visA had t') = hadN at HBI
      generalize bindE had q (visA had t') = E at HBI
      generalize wlk had (kV q) = y at HW
      clear hE hc hbo hac' hac hsm hsm' hml
      go_enter Try.func4, Try.ntmps4
      go_wp2_with (first
        | (go_at_call 13; refine (HG.out _ HT0.out).mono ?_; clear HG; rintro e w1 ⟨rfl, hb1⟩; have h0 := HT0.out.then hb1; clear hb1 HT0; obtain ⟨d0, d1, d2, d3, e0, e1, e2, e3⟩ := h0.cells)
        | (go_at_call 13; refine (HG2.out _ h0).mono ?_; clear HG2; rintro e w2 ⟨rfl, hb1⟩; replace h0 := h0.then hb1; clear hb1 d0 d1 d2 d3 e0 e1 e2 e3)
        | (go_at_call 15; refine (HMK.out _ h0).mono ?_; clear HMK; rintro e w3 ⟨⟨p, b, r, rfl, hs2, hr2, hp2, hb2⟩, hb1⟩; obtain ⟨rA, rc, rfl⟩ := hr2.form; have hz := h0.b0.size; replace h0 := h0.then hb1; have h1 : M1 w t (.slice A t.l.length c) t' (.slice A' t'.l.length c') had p b w3 := ⟨h0.b0, h0.x1, h0.x2, ⟨hs2.mono (fun _ _ => trivial), (by omega), (by omega)⟩⟩; clear hb1 hs2 hr2 hp2 hb2 h0 hz; obtain ⟨d0, d1, d2, d3, -, -, -, -⟩ := h1.cells)
        | (go_at_call 21; refine (HA.out _ _ _ h1).mono ?_; clear HA; rintro e w4 ⟨⟨u4, rfl, uu4, rfl, hu4⟩, hb1⟩; obtain ⟨A4, c4, rfl⟩ := hu4.form; replace h1 := (h1.then hb1).alloc (.cells #[.int .u8 x.k, .string x.s, .int .i64 x.n, .slice A4 x.l.length c4] 25); have h2 : M2 w t (.slice A t.l.length c) t' (.slice A' t'.l.length c') had p b w4.heap.size x (.slice A4 x.l.length c4) (w4.alloc (.cells #[.int .u8 x.k, .string x.s, .int .i64 x.n, .slice A4 x.l.length c4] 25)) := ⟨h1.b0, h1.x1, h1.x2, h1.s, Bt.new hu4⟩; clear hb1 hu4 h1 d0 d1 d2 d3)
        | (go_at_call 24; refine (V_c _ _ (fun _ => True)).mono ?_; rintro e w5 ⟨rfl, hb1⟩; replace h2 := h2.then hb1; clear hb1)
        | (go_at_call 17; refine (HW.out _ _ _ _ _ _ h2).mono ?_; clear HW; rintro e w6 ⟨⟨u6, rfl, uu6, rfl, hu6⟩, hb1⟩; obtain ⟨A6, c6, rfl⟩ := hu6.form; replace h2 := (h2.then hb1).alloc (.cells #[.int .u8 y.k, .string y.s, .int .i64 y.n, .slice A6 y.l.length c6] 25); have h3 : M3 w t (.slice A t.l.length c) t' (.slice A' t'.l.length c') had p b w4.heap.size x (.slice A4 x.l.length c4) w6.heap.size y (.slice A6 y.l.length c6) (w6.alloc (.cells #[.int .u8 y.k, .string y.s, .int .i64 y.n, .slice A6 y.l.length c6] 25)) := ⟨h2.b0, h2.x1, h2.x2, h2.s, h2.x3, Bt.new hu6⟩; clear hb1 hu6 h2; obtain ⟨-, -, -, -, e0, e1, e2, e3, -, -, -, -, -, -, -, -⟩ := h3.cells)
        | (go_at_call 25; refine (HBI.out _ _ _ _ _ _ _ _ _ h3).mono ?_; clear HBI; rintro e w7 ⟨rfl, hs7, hg7⟩; replace h3 := h3.bind hs7 hg7; clear hs7 hg7 e0 e1 e2 e3)
        | (go_at_call 14; refine (wakes03_c _).mono ?_; rintro e w8 ⟨rfl, hb1⟩; replace h3 := h3.then hb1; clear hb1))
      go_ret
      exact ⟨rfl, h3.b0⟩
    · have hE : appE (visA had t) (appA had t) = (appA had t, 0) := if_pos hc
      rw [hE] at HA
      simp only at HA
      generalize appA had t = x at HA
      generalize bnd had q t' (visA had t') = hadN at HBI
      generalize bindE had q (visA had t') = E at HBI hbn
      have hbn' : (E == 0) = false := by simpa using hbn
      generalize wlk had (kV q) = y at HW
      clear hE hc hbo hac' hac hsm hsm' hml hbn
      go_enter Try.func4, Try.ntmps4
      go_wp2_with (first
        | (go_at_call 13; refine (HG.out _ HT0.out).mono ?_; clear HG; rintro e w1 ⟨rfl, hb1⟩; have h0 := HT0.out.then hb1; clear hb1 HT0; obtain ⟨d0, d1, d2, d3, e0, e1, e2, e3⟩ := h0.cells)
        | (go_at_call 13; refine (HG2.out _ h0).mono ?_; clear HG2; rintro e w2 ⟨rfl, hb1⟩; replace h0 := h0.then hb1; clear hb1 d0 d1 d2 d3 e0 e1 e2 e3)
        | (go_at_call 15; refine (HMK.out _ h0).mono ?_; clear HMK; rintro e w3 ⟨⟨p, b, r, rfl, hs2, hr2, hp2, hb2⟩, hb1⟩; obtain ⟨rA, rc, rfl⟩ := hr2.form; have hz := h0.b0.size; replace h0 := h0.then hb1; have h1 : M1 w t (.slice A t.l.length c) t' (.slice A' t'.l.length c') had p b w3 := ⟨h0.b0, h0.x1, h0.x2, ⟨hs2.mono (fun _ _ => trivial), (by omega), (by omega)⟩⟩; clear hb1 hs2 hr2 hp2 hb2 h0 hz; obtain ⟨d0, d1, d2, d3, -, -, -, -⟩ := h1.cells)
        | (go_at_call 21; refine (HA.out _ _ _ h1).mono ?_; clear HA; rintro e w4 ⟨⟨u4, rfl, uu4, rfl, hu4⟩, hb1⟩; obtain ⟨A4, c4, rfl⟩ := hu4.form; replace h1 := (h1.then hb1).alloc (.cells #[.int .u8 x.k, .string x.s, .int .i64 x.n, .slice A4 x.l.length c4] 25); have h2 : M2 w t (.slice A t.l.length c) t' (.slice A' t'.l.length c') had p b w4.heap.size x (.slice A4 x.l.length c4) (w4.alloc (.cells #[.int .u8 x.k, .string x.s, .int .i64 x.n, .slice A4 x.l.length c4] 25)) := ⟨h1.b0, h1.x1, h1.x2, h1.s, Bt.new hu4⟩; clear hb1 hu4 h1 d0 d1 d2 d3)
        | (go_at_call 24; refine (V_c _ _ (fun _ => True)).mono ?_; rintro e w5 ⟨rfl, hb1⟩; replace h2 := h2.then hb1; clear hb1)
        | (go_at_call 17; refine (HW.out _ _ _ _ _ _ h2).mono ?_; clear HW; rintro e w6 ⟨⟨u6, rfl, uu6, rfl, hu6⟩, hb1⟩; obtain ⟨A6, c6, rfl⟩ := hu6.form; replace h2 := (h2.then hb1).alloc (.cells #[.int .u8 y.k, .string y.s, .int .i64 y.n, .slice A6 y.l.length c6] 25); have h3 : M3 w t (.slice A t.l.length c) t' (.slice A' t'.l.length c') had p b w4.heap.size x (.slice A4 x.l.length c4) w6.heap.size y (.slice A6 y.l.length c6) (w6.alloc (.cells #[.int .u8 y.k, .string y.s, .int .i64 y.n, .slice A6 y.l.length c6] 25)) := ⟨h2.b0, h2.x1, h2.x2, h2.s, h2.x3, Bt.new hu6⟩; clear hb1 hu6 h2; obtain ⟨-, -, -, -, e0, e1, e2, e3, -, -, -, -, -, -, -, -⟩ := h3.cells)
        | (go_at_call 25; refine (HBI.out _ _ _ _ _ _ _ _ _ h3).mono ?_; clear HBI; rintro e w7 ⟨rfl, hs7, hg7⟩; replace h3 := h3.bind hs7 hg7; clear hs7 hg7 e0 e1 e2 e3)
        | (go_at_call 14; refine (wakes03_c _).mono ?_; rintro e w8 ⟨rfl, hb1⟩; replace h3 := h3.then hb1; clear hb1))
      go_ret
      exact ⟨rfl, h3.b0⟩
    · have hE : appE (visA had t) (appA had t) = (appA had t, 0) := if_pos hc
      rw [hE] at HA
      simp only at HA
      have hN := bindE_eq hbe t'
      rw [hbe, hN] at HBI
      rw [hN] at hac'
      have hno := hbo hbe
      have hyw : wlk had (kV q) = kV q := wlk_unbound hno
      have hput : appA (had ++ [(q, t')]) t = putT q (appA (had ++ [(q, t')]) (kV q)) (appA had t) := app_put hac hac' _ t (hac.fueled t) _ (hac'.fueled t) _ (hac'.fueled (kV q)) hno
      have hxs : (appA had t).siz ≤ 1000000 := by
        have : (appA had t).siz = (visA had t).length := app_siz _ t (hac.fueled t)
        omega
      clear hbo hE hN hbe hc
      generalize appA had t = x at HA hput hxs
      have HA2 := Lib.hid (fun W p b B2 x ux B3 y uy (h : M3 w t (.slice A t.l.length c) t' (.slice A' t'.l.length c') (had ++ [(q, t')]) p b B2 x ux B3 y uy W) => Apply_c (had ++ [(q, t')]) p b _ t _ W _ h.s.sub h.x1.tmv hwf.out (hac'.fueled t) hsm' hsz)
      have HA3 := Lib.hid (fun W p b B2 x ux B3 y uy B4 z uz (h : M4 w t (.slice A t.l.length c) t' (.slice A' t'.l.length c') (had ++ [(q, t')]) p b B2 x ux B3 y uy B4 z uz W) => Apply_c (had ++ [(q, t')]) p b _ (kV q) _ W (fun _ => True) h.s.sub ⟨_, rfl, Kd.S.nil _ _ _⟩ (kV_wf hq) (hac'.fueled (kV q)) hsm' (by simp [kV, Tm.siz, sizL]))
      change Hid (∀ W p b B2 x ux B3 y uy, _ → Calls _ _ _ W (fun e w' => (∃ u, e = .returned (.tuple #[u, .int .i64 (appE (visA (had ++ [(q, t')]) t) (appA (had ++ [(q, t')]) t)).2]) ∧ TmV w' _ (appE (visA (had ++ [(q, t')]) t) (appA (had ++ [(q, t')]) t)).1 u) ∧ _)) at HA2
      change Hid (∀ W p b B2 x ux B3 y uy B4 z uz, _ → Calls _ _ _ W (fun e w' => (∃ u, e = .returned (.tuple #[u, .int .i64 (appE (visA (had ++ [(q, t')]) (kV q)) (appA (had ++ [(q, t')]) (kV q))).2]) ∧ TmV w' _ (appE (visA (had ++ [(q, t')]) (kV q)) (appA (had ++ [(q, t')]) (kV q))).1 u) ∧ _)) at HA3
      have hc1 : appE (visA (had ++ [(q, t')]) t) (appA (had ++ [(q, t')]) t) = (appA (had ++ [(q, t')]) t, 0) ∨ appE (visA (had ++ [(q, t')]) t) (appA (had ++ [(q, t')]) t) = (tm0, 31) := by unfold appE; split; exact .inl rfl; exact .inr rfl
      have hc2 : appE (visA (had ++ [(q, t')]) (kV q)) (appA (had ++ [(q, t')]) (kV q)) = (appA (had ++ [(q, t')]) (kV q), 0) ∨ appE (visA (had ++ [(q, t')]) (kV q)) (appA (had ++ [(q, t')]) (kV q)) = (tm0, 31) := by unfold appE; split; exact .inl rfl; exact .inr rfl
      generalize appA (had ++ [(q, t')]) (kV q) = o at HA3 hput hc2
      generalize appA (had ++ [(q, t')]) t = z at HA2 hput hc1
      have HP := Lib.hid (fun W vx vo (hx : TmV W (fun _ => True) x vx) (ho : TmV W (fun _ => True) o vo) => put_c q o x vx vo W _ _ hx ho hxs)
      rw [← hput] at HP
      generalize appE (visA (had ++ [(q, t')]) (kV q)) o = e3 at HA3 hc2
      generalize appE (visA (had ++ [(q, t')]) t) z = e2 at HA2 hc1
      generalize had ++ [(q, t')] = hadN at HBI HA2 HA3
      clear hac hac' hsm hsm' hml hno hput hxs
      have hyk : (wlk had (kV q)).k = 1 := by rw [hyw]; rfl
      have hyn : (wlk had (kV q)).n = q := by rw [hyw]; rfl
      clear hyw
      generalize wlk had (kV q) = y at HW hyk hyn
      have HYK := Lib.hid hyk
      have HYN := Lib.hid hyn
      clear hyk hyn
      obtain ⟨e21, e22⟩ := e2
      obtain ⟨e31, e32⟩ := e3
      simp only [Prod.mk.injEq] at HA2 HA3 hc1 hc2
      rcases hc1 with ⟨rfl, rfl⟩ | ⟨rfl, rfl⟩
      · rcases hc2 with ⟨rfl, rfl⟩ | ⟨rfl, rfl⟩
        · go_enter Try.func4, Try.ntmps4
          go_wp2_with (first
            | (go_at_call 13; refine (HG.out _ HT0.out).mono ?_; clear HG; rintro e w1 ⟨rfl, hb1⟩; have h0 := HT0.out.then hb1; clear hb1 HT0; obtain ⟨d0, d1, d2, d3, e0, e1, e2, e3⟩ := h0.cells)
            | (go_at_call 13; refine (HG2.out _ h0).mono ?_; clear HG2; rintro e w2 ⟨rfl, hb1⟩; replace h0 := h0.then hb1; clear hb1 d0 d1 d2 d3 e0 e1 e2 e3)
            | (go_at_call 15; refine (HMK.out _ h0).mono ?_; clear HMK; rintro e w3 ⟨⟨p, b, r, rfl, hs2, hr2, hp2, hb2⟩, hb1⟩; obtain ⟨rA, rc, rfl⟩ := hr2.form; have hz := h0.b0.size; replace h0 := h0.then hb1; have h1 : M1 w t (.slice A t.l.length c) t' (.slice A' t'.l.length c') had p b w3 := ⟨h0.b0, h0.x1, h0.x2, ⟨hs2.mono (fun _ _ => trivial), (by omega), (by omega)⟩⟩; clear hb1 hs2 hr2 hp2 hb2 h0 hz; obtain ⟨d0, d1, d2, d3, -, -, -, -⟩ := h1.cells)
            | (go_at_call 21; refine (HA.out _ _ _ h1).mono ?_; clear HA; rintro e w4 ⟨⟨u4, rfl, uu4, rfl, hu4⟩, hb1⟩; obtain ⟨A4, c4, rfl⟩ := hu4.form; replace h1 := (h1.then hb1).alloc (.cells #[.int .u8 x.k, .string x.s, .int .i64 x.n, .slice A4 x.l.length c4] 25); have h2 : M2 w t (.slice A t.l.length c) t' (.slice A' t'.l.length c') had p b w4.heap.size x (.slice A4 x.l.length c4) (w4.alloc (.cells #[.int .u8 x.k, .string x.s, .int .i64 x.n, .slice A4 x.l.length c4] 25)) := ⟨h1.b0, h1.x1, h1.x2, h1.s, Bt.new hu4⟩; clear hb1 hu4 h1 d0 d1 d2 d3)
            | (go_at_call 24; refine (V_c _ _ (fun _ => True)).mono ?_; rintro e w5 ⟨rfl, hb1⟩; replace h2 := h2.then hb1; clear hb1)
            | (go_at_call 17; refine (HW.out _ _ _ _ _ _ h2).mono ?_; clear HW; rintro e w6 ⟨⟨u6, rfl, uu6, rfl, hu6⟩, hb1⟩; obtain ⟨A6, c6, rfl⟩ := hu6.form; replace h2 := (h2.then hb1).alloc (.cells #[.int .u8 y.k, .string y.s, .int .i64 y.n, .slice A6 y.l.length c6] 25); have h3 : M3 w t (.slice A t.l.length c) t' (.slice A' t'.l.length c') had p b w4.heap.size x (.slice A4 x.l.length c4) w6.heap.size y (.slice A6 y.l.length c6) (w6.alloc (.cells #[.int .u8 y.k, .string y.s, .int .i64 y.n, .slice A6 y.l.length c6] 25)) := ⟨h2.b0, h2.x1, h2.x2, h2.s, h2.x3, Bt.new hu6⟩; clear hb1 hu6 h2; obtain ⟨-, -, -, -, e0, e1, e2, e3, -, -, -, -, -, -, -, -⟩ := h3.cells)
            | (go_at_call 25; refine (HBI.out _ _ _ _ _ _ _ _ _ h3).mono ?_; clear HBI; rintro e w7 ⟨rfl, hs7, hg7⟩; replace h3 := h3.bind hs7 hg7; clear hs7 hg7 e0 e1 e2 e3; obtain ⟨d0, d1, d2, d3, -, -, -, -, -, -, -, -, -, -, -, -⟩ := h3.cells)
            | (go_at_call 21; refine (HA2.out _ _ _ _ _ _ _ _ _ h3).mono ?_; clear HA2; rintro e w8 ⟨⟨u8, rfl, uu8, rfl, hu8⟩, hb1⟩; obtain ⟨A8, c8, rfl⟩ := hu8.form; replace h3 := (h3.then hb1).alloc (.cells #[.int .u8 e21.k, .string e21.s, .int .i64 e21.n, .slice A8 e21.l.length c8] 25); have h4 : M4 w t (.slice A t.l.length c) t' (.slice A' t'.l.length c') hadN p b w4.heap.size x (.slice A4 x.l.length c4) w6.heap.size y (.slice A6 y.l.length c6) w8.heap.size e21 (.slice A8 e21.l.length c8) (w8.alloc (.cells #[.int .u8 e21.k, .string e21.s, .int .i64 e21.n, .slice A8 e21.l.length c8] 25)) := ⟨h3.b0, h3.x1, h3.x2, h3.s, h3.x3, h3.x4, Bt.new hu8⟩; clear hb1 hu8 h3)
            | (go_at_call 24; refine (V_c _ _ (fun _ => True)).mono ?_; rintro e w9 ⟨rfl, hb1⟩; replace h4 := h4.then hb1; clear hb1)
            | (go_at_call 21; refine (HA3.out _ _ _ _ _ _ _ _ _ _ _ _ h4).mono ?_; clear HA3; rintro e w10 ⟨⟨u10, rfl, uu10, rfl, hu10⟩, hb1⟩; obtain ⟨A10, c10, rfl⟩ := hu10.form; replace h4 := (h4.then hb1).alloc (.cells #[.int .u8 e31.k, .string e31.s, .int .i64 e31.n, .slice A10 e31.l.length c10] 25); have h5 : M5 w t (.slice A t.l.length c) t' (.slice A' t'.l.length c') hadN p b w4.heap.size x (.slice A4 x.l.length c4) w6.heap.size y (.slice A6 y.l.length c6) w8.heap.size e21 (.slice A8 e21.l.length c8) w10.heap.size e31 (.slice A10 e31.l.length c10) (w10.alloc (.cells #[.int .u8 e31.k, .string e31.s, .int .i64 e31.n, .slice A10 e31.l.length c10] 25)) := ⟨h4.b0, h4.x1, h4.x2, h4.s, h4.x3, h4.x4, h4.x5, Bt.new hu10⟩; clear hb1 hu10 h4))
          have hyk := HYK.out
          have hyn := HYN.out
          have hyk2 : ((1 : Int) == 1) = true := rfl
          have hyn2 : (q == q) = true := by simp
          refine wp_region_held_drew (S := (fun W => W.cell? ⟨w.heap.size, 0, none⟩ = some (.int .u8 t.k) ∧ W.cell? ⟨w.heap.size, 1, none⟩ = some (.string t.s) ∧ W.cell? ⟨w.heap.size, 2, none⟩ = some (.int .i64 t.n) ∧ W.cell? ⟨w.heap.size, 3, none⟩ = some (.slice A t.l.length c) ∧ W.cell? ⟨w.heap.size + 1, 0, none⟩ = some (.int .u8 t'.k) ∧ W.cell? ⟨w.heap.size + 1, 1, none⟩ = some (.string t'.s) ∧ W.cell? ⟨w.heap.size + 1, 2, none⟩ = some (.int .i64 t'.n) ∧ W.cell? ⟨w.heap.size + 1, 3, none⟩ = some (.slice A' t'.l.length c') ∧ W.cell? ⟨w4.heap.size, 0, none⟩ = some (.int .u8 x.k) ∧ W.cell? ⟨w4.heap.size, 1, none⟩ = some (.string x.s) ∧ W.cell? ⟨w4.heap.size, 2, none⟩ = some (.int .i64 x.n) ∧ W.cell? ⟨w4.heap.size, 3, none⟩ = some (.slice A4 x.l.length c4) ∧ W.cell? ⟨w6.heap.size, 0, none⟩ = some (.int .u8 y.k) ∧ W.cell? ⟨w6.heap.size, 1, none⟩ = some (.string y.s) ∧ W.cell? ⟨w6.heap.size, 2, none⟩ = some (.int .i64 y.n) ∧ W.cell? ⟨w6.heap.size, 3, none⟩ = some (.slice A6 y.l.length c6) ∧ W.cell? ⟨w8.heap.size, 0, none⟩ = some (.int .u8 e21.k) ∧ W.cell? ⟨w8.heap.size, 1, none⟩ = some (.string e21.s) ∧ W.cell? ⟨w8.heap.size, 2, none⟩ = some (.int .i64 e21.n) ∧ W.cell? ⟨w8.heap.size, 3, none⟩ = some (.slice A8 e21.l.length c8) ∧ W.cell? ⟨w10.heap.size, 0, none⟩ = some (.int .u8 e31.k) ∧ W.cell? ⟨w10.heap.size, 1, none⟩ = some (.string e31.s) ∧ W.cell? ⟨w10.heap.size, 2, none⟩ = some (.int .i64 e31.n) ∧ W.cell? ⟨w10.heap.size, 3, none⟩ = some (.slice A10 e31.l.length c10))) (by kernel_rfl) ?_ (fun hHeld => ?_)
          · exact h5.drew.cells
          change wpAnyH _ .any _ _ _ 21 (Array.replicate 21 false) _ _
          refine wpAnyH_take (i := 0) (oi := ⟨some 85, _, _, _, _, _⟩) (v := ?_) rfl (by kernel_rfl) (by kernel_rfl) (by kernel_rfl) (fun _ _ _ h => h) (Or.inl ⟨by rfl, ?_⟩) (by assumption) ?_
          rotate_left
          · (intro w hSw; (try dsimp only at hSw); go_simp; try (with_reducible rfl))
          (try simp only [Act.put, List.setIfInBounds_toArray, List.set_cons_zero, List.set_cons_succ])
          refine wpAnyH_take (i := 1) (oi := ⟨some 86, _, _, _, _, _⟩) (v := ?_) rfl (by kernel_rfl) (by kernel_rfl) (by kernel_rfl) (fun _ _ _ h => h) (Or.inl ⟨by rfl, ?_⟩) (by assumption) ?_
          rotate_left
          · (intro w hSw; (try dsimp only at hSw); go_simp; try (with_reducible rfl))
          (try simp only [Act.put, List.setIfInBounds_toArray, List.set_cons_zero, List.set_cons_succ])
          refine wpAnyH_take (i := 2) (oi := ⟨some 87, _, _, _, _, _⟩) (v := ?_) rfl (by kernel_rfl) (by kernel_rfl) (by kernel_rfl) (fun _ _ _ h => h) (Or.inl ⟨by rfl, ?_⟩) (by assumption) ?_
          rotate_left
          · (intro w hSw; (try dsimp only at hSw); go_simp; try (with_reducible rfl))
          (try simp only [Act.put, List.setIfInBounds_toArray, List.set_cons_zero, List.set_cons_succ])
          refine wpAnyH_take (i := 3) (oi := ⟨some 88, _, _, _, _, _⟩) (v := ?_) rfl (by kernel_rfl) (by kernel_rfl) (by kernel_rfl) (fun _ _ _ h => h) (Or.inl ⟨by rfl, ?_⟩) (by assumption) ?_
          rotate_left
          · (intro w hSw; (try dsimp only at hSw); go_simp; try (with_reducible rfl))
          (try simp only [Act.put, List.setIfInBounds_toArray, List.set_cons_zero, List.set_cons_succ])
          refine wpAnyH_take (i := 4) (oi := ⟨some 89, _, _, _, _, _⟩) (v := ?_) rfl (by kernel_rfl) (by kernel_rfl) (by kernel_rfl) (fun _ _ _ h => h) (Or.inl ⟨by rfl, ?_⟩) (by assumption) ?_
          rotate_left
          · (intro w hSw; (try dsimp only at hSw); go_simp; try (with_reducible rfl))
          (try simp only [Act.put, List.setIfInBounds_toArray, List.set_cons_zero, List.set_cons_succ])
          refine wpAnyH_take (i := 5) (oi := ⟨some 90, _, _, _, _, _⟩) (v := ?_) rfl (by kernel_rfl) (by kernel_rfl) (by kernel_rfl) (fun _ _ _ h => h) (Or.inl ⟨by rfl, ?_⟩) (by assumption) ?_
          rotate_left
          · (intro w hSw; (try dsimp only at hSw); go_simp; try (with_reducible rfl))
          (try simp only [Act.put, List.setIfInBounds_toArray, List.set_cons_zero, List.set_cons_succ])
          refine wpAnyH_take (i := 6) (oi := ⟨some 91, _, _, _, _, _⟩) (v := ?_) rfl (by kernel_rfl) (by kernel_rfl) (by kernel_rfl) (fun _ _ _ h => h) (Or.inl ⟨by rfl, ?_⟩) (by assumption) ?_
          rotate_left
          · (intro w hSw; (try dsimp only at hSw); go_simp; try (with_reducible rfl))
          (try simp only [Act.put, List.setIfInBounds_toArray, List.set_cons_zero, List.set_cons_succ])
          refine wpAnyH_take (i := 7) (oi := ⟨some 92, _, _, _, _, _⟩) (v := ?_) rfl (by kernel_rfl) (by kernel_rfl) (by kernel_rfl) (fun _ _ _ h => h) (Or.inl ⟨by rfl, ?_⟩) (by assumption) ?_
          rotate_left
          · (intro w hSw; (try dsimp only at hSw); go_simp; try (with_reducible rfl))
          (try simp only [Act.put, List.setIfInBounds_toArray, List.set_cons_zero, List.set_cons_succ])
          refine wpAnyH_take (i := 8) (oi := ⟨some 93, _, _, _, _, _⟩) (v := ?_) rfl (by kernel_rfl) (by kernel_rfl) (by kernel_rfl) (fun _ _ _ h => h) (Or.inl ⟨by rfl, ?_⟩) (by assumption) ?_
          rotate_left
          · (intro w hSw; (try dsimp only at hSw); go_simp; try (with_reducible rfl))
          (try simp only [Act.put, List.setIfInBounds_toArray, List.set_cons_zero, List.set_cons_succ])
          refine wpAnyH_take (i := 9) (oi := ⟨some 94, _, _, _, _, _⟩) (v := ?_) rfl (by kernel_rfl) (by kernel_rfl) (by kernel_rfl) (fun _ _ _ h => h) (Or.inl ⟨by rfl, ?_⟩) (by assumption) ?_
          rotate_left
          · (intro w hSw; (try dsimp only at hSw); go_simp; try (with_reducible rfl))
          (try simp only [Act.put, List.setIfInBounds_toArray, List.set_cons_zero, List.set_cons_succ])
          refine wpAnyH_take (i := 10) (oi := ⟨some 95, _, _, _, _, _⟩) (v := ?_) rfl (by kernel_rfl) (by kernel_rfl) (by kernel_rfl) (fun _ _ _ h => h) (Or.inl ⟨by rfl, ?_⟩) (by assumption) ?_
          rotate_left
          · (intro w hSw; (try dsimp only at hSw); go_simp; try (with_reducible rfl))
          (try simp only [Act.put, List.setIfInBounds_toArray, List.set_cons_zero, List.set_cons_succ])
          refine wpAnyH_take (i := 11) (oi := ⟨some 96, _, _, _, _, _⟩) (v := ?_) rfl (by kernel_rfl) (by kernel_rfl) (by kernel_rfl) (fun _ _ _ h => h) (Or.inl ⟨by rfl, ?_⟩) (by assumption) ?_
          rotate_left
          · (intro w hSw; (try dsimp only at hSw); go_simp; try (with_reducible rfl))
          (try simp only [Act.put, List.setIfInBounds_toArray, List.set_cons_zero, List.set_cons_succ])
          refine wpAnyH_take (i := 12) (oi := ⟨some 97, _, _, _, _, _⟩) (v := ?_) rfl (by kernel_rfl) (by kernel_rfl) (by kernel_rfl) (fun _ _ _ h => h) (Or.inl ⟨by rfl, ?_⟩) (by assumption) ?_
          rotate_left
          · (intro w hSw; (try dsimp only at hSw); go_simp; try (with_reducible rfl))
          (try simp only [Act.put, List.setIfInBounds_toArray, List.set_cons_zero, List.set_cons_succ])
          refine wpAnyH_take (i := 13) (oi := ⟨some 98, _, _, _, _, _⟩) (v := ?_) rfl (by kernel_rfl) (by kernel_rfl) (by kernel_rfl) (fun _ _ _ h => h) (Or.inl ⟨by rfl, ?_⟩) (by assumption) ?_
          rotate_left
          · (intro w hSw; (try dsimp only at hSw); go_simp; try (with_reducible rfl))
          (try simp only [Act.put, List.setIfInBounds_toArray, List.set_cons_zero, List.set_cons_succ])
          replace h5 := h5.drew
          refine wpAnyH_ready (rs := [14]) (by kernel_rfl) (by simp) ?_
          refine AllReadyH.cons (o := ⟨some 99, _, _, _, _, _⟩) rfl (fun K hK => ?_) AllReadyH.nil
          go_simp
          go_at_call 26
          refine (HP.out _ _ _ h5.x3.tmv h5.x6.tmv).mono ?_
          clear HP
          rintro e w12 ⟨⟨u12, rfl, uu12, rfl, hu12⟩, hb1⟩
          obtain ⟨A12, c12, rfl⟩ := hu12.form
          replace h5 := h5.then hb1
          clear hb1
          go_wp2_with fail
          refine hK.out _ _ h5.cells (fun hHeld => ?_)
          clear hK K
          (try simp only [Act.put, List.setIfInBounds_toArray, List.set_cons_zero, List.set_cons_succ])
          refine wpAnyH_ready (rs := [15]) (by kernel_rfl) (by simp) ?_
          refine AllReadyH.cons (o := ⟨some 100, _, _, _, _, _⟩) rfl (fun K hK => ?_) AllReadyH.nil
          go_simp
          go_at_call 16
          refine (rSame_refl e21 _ _ _ _ _ h5.x5.tmv ⟨_, rfl, hu12⟩).mono ?_
          clear hu12
          rintro e w13 ⟨rfl, hb1⟩
          replace h5 := h5.then hb1
          clear hb1
          go_wp2_with fail
          refine hK.out _ _ h5.cells (fun hHeld => ?_)
          clear hK K
          (try simp only [Act.put, List.setIfInBounds_toArray, List.set_cons_zero, List.set_cons_succ])
          refine wpAnyH_take (i := 16) (oi := ⟨some 101, _, _, _, _, _⟩) (v := ?_) rfl (by kernel_rfl) (by kernel_rfl) (by kernel_rfl) (fun _ _ _ h => h) (Or.inl ⟨by rfl, ?_⟩) (by assumption) ?_
          rotate_left
          · (intro w hSw; (try dsimp only at hSw); go_simp; try (with_reducible rfl))
          (try simp only [Act.put, List.setIfInBounds_toArray, List.set_cons_zero, List.set_cons_succ])
          refine wpAnyH_take (i := 17) (oi := ⟨some 102, _, _, _, _, _⟩) (v := ?_) rfl (by kernel_rfl) (by kernel_rfl) (by kernel_rfl) (fun _ _ _ h => h) (Or.inl ⟨by rfl, ?_⟩) (by assumption) ?_
          rotate_left
          · (intro w hSw; (try dsimp only at hSw); go_simp; try (with_reducible rfl))
          (try simp only [Act.put, List.setIfInBounds_toArray, List.set_cons_zero, List.set_cons_succ])
          refine wpAnyH_ready (rs := [18]) (by kernel_rfl) (by simp) ?_
          refine AllReadyH.cons (o := ⟨some 103, _, _, _, _, _⟩) rfl (fun K hK => ?_) AllReadyH.nil
          go_simp
          go_at_call 14
          refine (wakes03_c _).mono ?_
          rintro e w14 ⟨rfl, hb1⟩
          replace h5 := h5.then hb1
          clear hb1
          go_wp2_with fail
          refine hK.out _ _ h5.cells (fun hHeld => ?_)
          clear hK K
          (try simp only [Act.put, List.setIfInBounds_toArray, List.set_cons_zero, List.set_cons_succ])
          refine wpAnyH_take (i := 19) (oi := ⟨some 104, _, _, _, _, _⟩) (v := ?_) rfl (by kernel_rfl) (by kernel_rfl) (by kernel_rfl) (fun _ _ _ h => h) (Or.inl ⟨by rfl, ?_⟩) (by assumption) ?_
          rotate_left
          · (intro w hSw; (try dsimp only at hSw); go_simp; try (with_reducible rfl))
          (try simp only [Act.put, List.setIfInBounds_toArray, List.set_cons_zero, List.set_cons_succ])
          refine wpAnyH_take (i := 20) (oi := ⟨some 8, _, _, _, _, _⟩) (v := ?_) rfl (by kernel_rfl) (by kernel_rfl) (by kernel_rfl) (fun _ _ _ h => h) (Or.inl ⟨by rfl, ?_⟩) (by assumption) ?_
          rotate_left
          · (intro w hSw; (try dsimp only at hSw); go_simp; try (with_reducible rfl))
          (try simp only [Act.put, List.setIfInBounds_toArray, List.set_cons_zero, List.set_cons_succ])
          refine wpAnyH_done (by kernel_rfl) ?_ _
          go_wp2
          go_ret
          exact ⟨rfl, h5.b0⟩
        · go_enter Try.func4, Try.ntmps4
          go_wp2_with (first
            | (go_at_call 13; refine (HG.out _ HT0.out).mono ?_; clear HG; rintro e w1 ⟨rfl, hb1⟩; have h0 := HT0.out.then hb1; clear hb1 HT0; obtain ⟨d0, d1, d2, d3, e0, e1, e2, e3⟩ := h0.cells)
            | (go_at_call 13; refine (HG2.out _ h0).mono ?_; clear HG2; rintro e w2 ⟨rfl, hb1⟩; replace h0 := h0.then hb1; clear hb1 d0 d1 d2 d3 e0 e1 e2 e3)
            | (go_at_call 15; refine (HMK.out _ h0).mono ?_; clear HMK; rintro e w3 ⟨⟨p, b, r, rfl, hs2, hr2, hp2, hb2⟩, hb1⟩; obtain ⟨rA, rc, rfl⟩ := hr2.form; have hz := h0.b0.size; replace h0 := h0.then hb1; have h1 : M1 w t (.slice A t.l.length c) t' (.slice A' t'.l.length c') had p b w3 := ⟨h0.b0, h0.x1, h0.x2, ⟨hs2.mono (fun _ _ => trivial), (by omega), (by omega)⟩⟩; clear hb1 hs2 hr2 hp2 hb2 h0 hz; obtain ⟨d0, d1, d2, d3, -, -, -, -⟩ := h1.cells)
            | (go_at_call 21; refine (HA.out _ _ _ h1).mono ?_; clear HA; rintro e w4 ⟨⟨u4, rfl, uu4, rfl, hu4⟩, hb1⟩; obtain ⟨A4, c4, rfl⟩ := hu4.form; replace h1 := (h1.then hb1).alloc (.cells #[.int .u8 x.k, .string x.s, .int .i64 x.n, .slice A4 x.l.length c4] 25); have h2 : M2 w t (.slice A t.l.length c) t' (.slice A' t'.l.length c') had p b w4.heap.size x (.slice A4 x.l.length c4) (w4.alloc (.cells #[.int .u8 x.k, .string x.s, .int .i64 x.n, .slice A4 x.l.length c4] 25)) := ⟨h1.b0, h1.x1, h1.x2, h1.s, Bt.new hu4⟩; clear hb1 hu4 h1 d0 d1 d2 d3)
            | (go_at_call 24; refine (V_c _ _ (fun _ => True)).mono ?_; rintro e w5 ⟨rfl, hb1⟩; replace h2 := h2.then hb1; clear hb1)
            | (go_at_call 17; refine (HW.out _ _ _ _ _ _ h2).mono ?_; clear HW; rintro e w6 ⟨⟨u6, rfl, uu6, rfl, hu6⟩, hb1⟩; obtain ⟨A6, c6, rfl⟩ := hu6.form; replace h2 := (h2.then hb1).alloc (.cells #[.int .u8 y.k, .string y.s, .int .i64 y.n, .slice A6 y.l.length c6] 25); have h3 : M3 w t (.slice A t.l.length c) t' (.slice A' t'.l.length c') had p b w4.heap.size x (.slice A4 x.l.length c4) w6.heap.size y (.slice A6 y.l.length c6) (w6.alloc (.cells #[.int .u8 y.k, .string y.s, .int .i64 y.n, .slice A6 y.l.length c6] 25)) := ⟨h2.b0, h2.x1, h2.x2, h2.s, h2.x3, Bt.new hu6⟩; clear hb1 hu6 h2; obtain ⟨-, -, -, -, e0, e1, e2, e3, -, -, -, -, -, -, -, -⟩ := h3.cells)
            | (go_at_call 25; refine (HBI.out _ _ _ _ _ _ _ _ _ h3).mono ?_; clear HBI; rintro e w7 ⟨rfl, hs7, hg7⟩; replace h3 := h3.bind hs7 hg7; clear hs7 hg7 e0 e1 e2 e3; obtain ⟨d0, d1, d2, d3, -, -, -, -, -, -, -, -, -, -, -, -⟩ := h3.cells)
            | (go_at_call 21; refine (HA2.out _ _ _ _ _ _ _ _ _ h3).mono ?_; clear HA2; rintro e w8 ⟨⟨u8, rfl, uu8, rfl, hu8⟩, hb1⟩; obtain ⟨A8, c8, rfl⟩ := hu8.form; replace h3 := (h3.then hb1).alloc (.cells #[.int .u8 e21.k, .string e21.s, .int .i64 e21.n, .slice A8 e21.l.length c8] 25); have h4 : M4 w t (.slice A t.l.length c) t' (.slice A' t'.l.length c') hadN p b w4.heap.size x (.slice A4 x.l.length c4) w6.heap.size y (.slice A6 y.l.length c6) w8.heap.size e21 (.slice A8 e21.l.length c8) (w8.alloc (.cells #[.int .u8 e21.k, .string e21.s, .int .i64 e21.n, .slice A8 e21.l.length c8] 25)) := ⟨h3.b0, h3.x1, h3.x2, h3.s, h3.x3, h3.x4, Bt.new hu8⟩; clear hb1 hu8 h3)
            | (go_at_call 24; refine (V_c _ _ (fun _ => True)).mono ?_; rintro e w9 ⟨rfl, hb1⟩; replace h4 := h4.then hb1; clear hb1)
            | (go_at_call 21; refine (HA3.out _ _ _ _ _ _ _ _ _ _ _ _ h4).mono ?_; clear HA3; rintro e w10 ⟨⟨u10, rfl, uu10, rfl, hu10⟩, hb1⟩; obtain ⟨A10, c10, rfl⟩ := hu10.form; replace h4 := (h4.then hb1).alloc (.cells #[.int .u8 tm0.k, .string tm0.s, .int .i64 tm0.n, .slice A10 tm0.l.length c10] 25); have h5 : M5 w t (.slice A t.l.length c) t' (.slice A' t'.l.length c') hadN p b w4.heap.size x (.slice A4 x.l.length c4) w6.heap.size y (.slice A6 y.l.length c6) w8.heap.size e21 (.slice A8 e21.l.length c8) w10.heap.size tm0 (.slice A10 tm0.l.length c10) (w10.alloc (.cells #[.int .u8 tm0.k, .string tm0.s, .int .i64 tm0.n, .slice A10 tm0.l.length c10] 25)) := ⟨h4.b0, h4.x1, h4.x2, h4.s, h4.x3, h4.x4, h4.x5, Bt.new hu10⟩; clear hb1 hu10 h4)
            | (go_at_call 14; refine (wakes03_c _).mono ?_; rintro e w11 ⟨rfl, hb1⟩; replace h5 := h5.then hb1; clear hb1))
          go_ret
          exact ⟨rfl, h5.b0⟩
      · go_enter Try.func4, Try.ntmps4
        go_wp2_with (first
          | (go_at_call 13; refine (HG.out _ HT0.out).mono ?_; clear HG; rintro e w1 ⟨rfl, hb1⟩; have h0 := HT0.out.then hb1; clear hb1 HT0; obtain ⟨d0, d1, d2, d3, e0, e1, e2, e3⟩ := h0.cells)
          | (go_at_call 13; refine (HG2.out _ h0).mono ?_; clear HG2; rintro e w2 ⟨rfl, hb1⟩; replace h0 := h0.then hb1; clear hb1 d0 d1 d2 d3 e0 e1 e2 e3)
          | (go_at_call 15; refine (HMK.out _ h0).mono ?_; clear HMK; rintro e w3 ⟨⟨p, b, r, rfl, hs2, hr2, hp2, hb2⟩, hb1⟩; obtain ⟨rA, rc, rfl⟩ := hr2.form; have hz := h0.b0.size; replace h0 := h0.then hb1; have h1 : M1 w t (.slice A t.l.length c) t' (.slice A' t'.l.length c') had p b w3 := ⟨h0.b0, h0.x1, h0.x2, ⟨hs2.mono (fun _ _ => trivial), (by omega), (by omega)⟩⟩; clear hb1 hs2 hr2 hp2 hb2 h0 hz; obtain ⟨d0, d1, d2, d3, -, -, -, -⟩ := h1.cells)
          | (go_at_call 21; refine (HA.out _ _ _ h1).mono ?_; clear HA; rintro e w4 ⟨⟨u4, rfl, uu4, rfl, hu4⟩, hb1⟩; obtain ⟨A4, c4, rfl⟩ := hu4.form; replace h1 := (h1.then hb1).alloc (.cells #[.int .u8 x.k, .string x.s, .int .i64 x.n, .slice A4 x.l.length c4] 25); have h2 : M2 w t (.slice A t.l.length c) t' (.slice A' t'.l.length c') had p b w4.heap.size x (.slice A4 x.l.length c4) (w4.alloc (.cells #[.int .u8 x.k, .string x.s, .int .i64 x.n, .slice A4 x.l.length c4] 25)) := ⟨h1.b0, h1.x1, h1.x2, h1.s, Bt.new hu4⟩; clear hb1 hu4 h1 d0 d1 d2 d3)
          | (go_at_call 24; refine (V_c _ _ (fun _ => True)).mono ?_; rintro e w5 ⟨rfl, hb1⟩; replace h2 := h2.then hb1; clear hb1)
          | (go_at_call 17; refine (HW.out _ _ _ _ _ _ h2).mono ?_; clear HW; rintro e w6 ⟨⟨u6, rfl, uu6, rfl, hu6⟩, hb1⟩; obtain ⟨A6, c6, rfl⟩ := hu6.form; replace h2 := (h2.then hb1).alloc (.cells #[.int .u8 y.k, .string y.s, .int .i64 y.n, .slice A6 y.l.length c6] 25); have h3 : M3 w t (.slice A t.l.length c) t' (.slice A' t'.l.length c') had p b w4.heap.size x (.slice A4 x.l.length c4) w6.heap.size y (.slice A6 y.l.length c6) (w6.alloc (.cells #[.int .u8 y.k, .string y.s, .int .i64 y.n, .slice A6 y.l.length c6] 25)) := ⟨h2.b0, h2.x1, h2.x2, h2.s, h2.x3, Bt.new hu6⟩; clear hb1 hu6 h2; obtain ⟨-, -, -, -, e0, e1, e2, e3, -, -, -, -, -, -, -, -⟩ := h3.cells)
          | (go_at_call 25; refine (HBI.out _ _ _ _ _ _ _ _ _ h3).mono ?_; clear HBI; rintro e w7 ⟨rfl, hs7, hg7⟩; replace h3 := h3.bind hs7 hg7; clear hs7 hg7 e0 e1 e2 e3; obtain ⟨d0, d1, d2, d3, -, -, -, -, -, -, -, -, -, -, -, -⟩ := h3.cells)
          | (go_at_call 21; refine (HA2.out _ _ _ _ _ _ _ _ _ h3).mono ?_; clear HA2; rintro e w8 ⟨⟨u8, rfl, uu8, rfl, hu8⟩, hb1⟩; obtain ⟨A8, c8, rfl⟩ := hu8.form; replace h3 := (h3.then hb1).alloc (.cells #[.int .u8 tm0.k, .string tm0.s, .int .i64 tm0.n, .slice A8 tm0.l.length c8] 25); have h4 : M4 w t (.slice A t.l.length c) t' (.slice A' t'.l.length c') hadN p b w4.heap.size x (.slice A4 x.l.length c4) w6.heap.size y (.slice A6 y.l.length c6) w8.heap.size tm0 (.slice A8 tm0.l.length c8) (w8.alloc (.cells #[.int .u8 tm0.k, .string tm0.s, .int .i64 tm0.n, .slice A8 tm0.l.length c8] 25)) := ⟨h3.b0, h3.x1, h3.x2, h3.s, h3.x3, h3.x4, Bt.new hu8⟩; clear hb1 hu8 h3)
          | (go_at_call 24; refine (V_c _ _ (fun _ => True)).mono ?_; rintro e w9 ⟨rfl, hb1⟩; replace h4 := h4.then hb1; clear hb1)
          | (go_at_call 21; refine (HA3.out _ _ _ _ _ _ _ _ _ _ _ _ h4).mono ?_; clear HA3; rintro e w10 ⟨⟨u10, rfl, uu10, rfl, hu10⟩, hb1⟩; obtain ⟨A10, c10, rfl⟩ := hu10.form; replace h4 := (h4.then hb1).alloc (.cells #[.int .u8 e31.k, .string e31.s, .int .i64 e31.n, .slice A10 e31.l.length c10] 25); have h5 : M5 w t (.slice A t.l.length c) t' (.slice A' t'.l.length c') hadN p b w4.heap.size x (.slice A4 x.l.length c4) w6.heap.size y (.slice A6 y.l.length c6) w8.heap.size tm0 (.slice A8 tm0.l.length c8) w10.heap.size e31 (.slice A10 e31.l.length c10) (w10.alloc (.cells #[.int .u8 e31.k, .string e31.s, .int .i64 e31.n, .slice A10 e31.l.length c10] 25)) := ⟨h4.b0, h4.x1, h4.x2, h4.s, h4.x3, h4.x4, h4.x5, Bt.new hu10⟩; clear hb1 hu10 h4)
          | (go_at_call 14; refine (wakes03_c _).mono ?_; rintro e w11 ⟨rfl, hb1⟩; replace h5 := h5.then hb1; clear hb1))
        go_ret
        exact ⟨rfl, h5.b0⟩
end Go.Proofs.Ytdidmhcblepcbaa

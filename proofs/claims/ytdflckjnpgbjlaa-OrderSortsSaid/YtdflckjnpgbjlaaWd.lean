/- Walks of layer 1: ground terms; the terms that are known. Conditions: the arguments read; terms of at most a million nodes. -/
import Derived.Test.YtdflckjnpgbjlaaW9
import Derived.Test.YtdflckjnpgbjlaaWb
import Derived.Test.YtdflckjnpgbjlaaWc
import Derived.Sort.AtCall
set_option linter.unusedVariables false
set_option maxRecDepth 20000
set_option linter.unusedSimpArgs false
namespace Go.Proofs.Ytdflckjnpgbjlaa
open Go.RowKit

/-- A row of one term, and of two, written out. -/
theorem lit1 {w W : World} {ok : Nat → Prop} {t : Tm} {u : Value} (h : Kd.tm.S W ok t.l u) (hW : Below w.heap.size w W) :
    Kd.tm.S (W.alloc (.cells #[.int .u8 t.k, .string t.s, .int .i64 t.n, u] 24)) (fun b => ok b ∨ w.heap.size ≤ b) [t] (.slice (some ⟨W.heap.size, 0, none⟩) 1 1) :=
  Kd.Own.S (Kd.Own.lit (d := Kd.tm) (e := 24) (base := w.heap.size) (ok := ok) (xs := [t]) [.int .u8 t.k, .string t.s, .int .i64 t.n, u] hW.size rfl (by simp [maxLen]) (fun j x hx => by
    cases j with
    | zero => simp at hx; subst hx; exact TmK_iff.2 ⟨u, rfl, h⟩
    | succ j => simp at hx))
theorem lit2 {w W : World} {ok : Nat → Prop} {t t' : Tm} {u u' : Value} (h : Kd.tm.S W ok t.l u) (h' : Kd.tm.S W ok t'.l u') (hW : Below w.heap.size w W) :
    Kd.tm.S (W.alloc (.cells #[.int .u8 t.k, .string t.s, .int .i64 t.n, u, .int .u8 t'.k, .string t'.s, .int .i64 t'.n, u'] 24)) (fun b => ok b ∨ w.heap.size ≤ b) [t, t'] (.slice (some ⟨W.heap.size, 0, none⟩) 2 2) := by
  have hk : ∀ j x, [t, t'][j]? = some x → Kd.tm.K W ok x (([.int .u8 t.k, .string t.s, .int .i64 t.n, u, .int .u8 t'.k, .string t'.s, .int .i64 t'.n, u'].drop (j * 4)).take 4) := fun j x hx => by
    match j, hx with
    | 0, hx => simp at hx; subst hx; exact TmK_iff.2 ⟨u, by simp, h⟩
    | 1, hx => simp at hx; subst hx; exact TmK_iff.2 ⟨u', by simp, h'⟩
    | j + 2, hx => simp at hx
  exact Kd.Own.S (Kd.Own.lit (d := Kd.tm) (e := 24) (base := w.heap.size) (ok := ok) (xs := [t, t']) [.int .u8 t.k, .string t.s, .int .i64 t.n, u, .int .u8 t'.k, .string t'.s, .int .i64 t'.n, u'] hW.size (by simp [Kd.tm]) (by simp [maxLen]) hk)
theorem litI2 (w : World) (x y : Int) : (Kd.int .i64).S (w.alloc (.cells #[.int .i64 x, .int .i64 y] 2)) (fun _ => True) [x, y] (.slice (some ⟨w.heap.size, 0, none⟩) 2 2) :=
  Kd.S.mono (fun _ _ => trivial) (Kd.Own.S (Kd.Own.lit (d := Kd.int .i64) (e := 2) (base := w.heap.size) (ok := fun _ => True) (xs := [x, y]) [.int .i64 x, .int .i64 y] (Nat.le_refl _) rfl (by simp [maxLen]) (fun j z hz => by
    match j, hz with
    | 0, hz => simp at hz; subst hz; rfl
    | 1, hz => simp at hz; subst hz; rfl
    | j + 2, hz => simp at hz)))

/-- The terms that are known. -/
def kV (n : Int) : Tm := ⟨1, ⟨#[]⟩, n, []⟩
def kG : Tm := ⟨4, ⟨#[103]⟩, 0, [kV 0, kV 1]⟩
def kF : Tm := ⟨4, ⟨#[102]⟩, 0, [kV 1, kG]⟩
def kH : Tm := ⟨4, ⟨#[102]⟩, 0, [⟨3, ⟨#[97]⟩, 0, []⟩, ⟨2, ⟨#[]⟩, 1, []⟩]⟩
theorem kF_wf : kF.Wf := by
  simp [kF, kG, kV, Tm.Wf, WfL]
  decide
theorem kE_wf : Tm.Wf ⟨4, ⟨#[102]⟩, 0, []⟩ := by
  simp [Tm.Wf, WfL]
  decide
theorem kF_good : kF.good = true := by
  simp [kF, kG, kV, Tm.good, Tm.shp, shpL, Tm.dep, depL, nameOk, ByteArray.size]
theorem kE_good : Tm.good ⟨4, ⟨#[102]⟩, 0, []⟩ = false := by
  simp [Tm.good, Tm.shp]
theorem kH_ground : decide (kH.occ = []) = true := by
  simp [kH, Tm.occ, occL]
theorem kF_siz : kF.siz = 5 := by
  simp [kF, kG, kV, Tm.siz, sizL]
theorem kF_dep : kF.dep = 3 := by
  simp [kF, kG, kV, Tm.dep, depL]
theorem kG_v {W : World} {ok : Nat → Prop} {v : Value} (h : TmV W ok kG v) : ∃ u, v = .agg #[.int .u8 4, .string ⟨#[103]⟩, .int .i64 0, u] ∧ Kd.tm.S W ok [kV 0, kV 1] u := h
theorem kF_v {W : World} {ok : Nat → Prop} {v : Value} (h : TmV W ok kF v) : ∃ u, v = .agg #[.int .u8 4, .string ⟨#[102]⟩, .int .i64 0, u] ∧ Kd.tm.S W ok [kV 1, kG] u := h
theorem kH_v {W : World} {ok : Nat → Prop} {v : Value} (h : TmV W ok kH v) : ∃ u, v = .agg #[.int .u8 4, .string ⟨#[102]⟩, .int .i64 0, u] ∧ Kd.tm.S W ok kH.l u := h
/-- What is known of a world with the term in a box. -/
def Kn (w : World) (B : Nat) (u : Value) (W : World) : Prop :=
  Below w.heap.size w W ∧ Kd.tm.S W (fun b => w.heap.size ≤ b) [kV 1, kG] u ∧ W.heap[B]? = some (.cells #[.int .u8 4, .string ⟨#[102]⟩, .int .i64 0, u] 24 (0, 0))
theorem Kn.then {w W W' : World} {B : Nat} {u : Value} (h : Kn w B u W) (hb : Below W.heap.size W W') : Kn w B u W' :=
  ⟨below_then h.1 h.1.size hb, h.2.1.below hb, block_below hb (Array.getElem?_eq_some_iff.1 h.2.2).1 h.2.2⟩
theorem Kn.alloc {w W : World} {B : Nat} {u : Value} (h : Kn w B u W) (O : Obj) : Kn w B u (W.alloc O) := h.then ((Below.refl _ W).alloc (Nat.le_refl _) O)
theorem Kn.tmv {w W : World} {B : Nat} {u : Value} (h : Kn w B u W) : TmV W (fun b => w.heap.size ≤ b) kF (.agg #[.int .u8 4, .string ⟨#[102]⟩, .int .i64 0, u]) := ⟨u, rfl, h.2.1⟩
end Go.Proofs.Ytdflckjnpgbjlaa

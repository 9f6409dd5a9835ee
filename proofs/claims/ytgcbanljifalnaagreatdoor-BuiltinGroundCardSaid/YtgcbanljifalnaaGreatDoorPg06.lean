import Derived.Test.YtgcbanljifalnaaGreatDoorPg05
import Derived.Deep.RegionHeld3
import Derived.Deep.DrawnRows
set_option linter.unusedVariables false
set_option maxRecDepth 20000
set_option linter.unusedSimpArgs false
/- A row's arguments, opened: lists of bindings out of the reading. No condition. -/
namespace Go.Proofs.YtgcbanljifalnaaGreatDoor
open Go.ChangeShapes Go.WideShapes Go.ChangeAt Go.RowKit
section
variable {H : Type} {enc : TypeId × Value → H} {W : World}
theorem Tryz.cellsBd : Tryz.prog.cellsOf 46 = 5 := by kernel_rfl
theorem open_bd (fuel : Nat) (cs : List Value) (x : DataW H × List MemPlace) (h : DataW.trod enc Tryz.prog W 0 (fun _ => true) true fuel 46 cs = some x) (hL : Light Tryz.prog 46 x.1) :
    ∃ b : Int × Tm, Kd.bd.K W (fun _ => True) b cs ∧ (-9223372036854775808 ≤ b.1 ∧ b.1 ≤ 9223372036854775807) ∧ b.2.Wf := by
  cases fuel with
  | zero => simp [DataW.trod] at h
  | succ fuel =>
    obtain ⟨xs, n, hn, rfl, hlen, hxl, hf⟩ := DataW.trod_struct Tryz.underlying46 h
    obtain rfl : fuel = n := by omega
    rw [Tryz.cellsBd] at hlen
    have f0 : DataW.trod enc Tryz.prog W 0 (fun _ => true) true fuel 2 ((cs.drop 0).take (Tryz.prog.cellsOf 2)) = xs[0]? := hf 0 _ rfl
    have f1 : DataW.trod enc Tryz.prog W 0 (fun _ => true) true fuel 30 ((cs.drop 1).take (Tryz.prog.cellsOf 30)) = xs[1]? := hf 1 _ rfl
    rw [Tryz.cells64] at f0
    rw [Tryz.cellsT] at f1
    match cs, hlen with
    | [c0, c1, c2, c3, c4], _ =>
      match xs, hxl with
      | [y0, y1], _ =>
        simp only [List.drop_zero, List.drop_succ_cons, List.take_succ_cons, List.take_zero, List.getElem?_cons_zero, List.getElem?_cons_succ] at f0 f1
        obtain ⟨k, e0, rfl, w0⟩ := DataW.trod_int Tryz.underlying2 f0
        injection e0 with e0
        subst e0
        have hL' := hL
        unfold Light at hL'
        simp only [List.map_cons, List.map_nil, DataW.weights, Tryz.underlying46, DataW.weightsEach, List.all_append, Bool.and_eq_true, List.nil_append, List.append_nil, List.all_cons, List.all_nil, List.cons_append, Bool.and_true, decide_eq_true_eq] at hL'
        obtain ⟨t, ht, hw⟩ := (open_both fuel).1 _ _ f1 (by unfold Light; first | exact hL' | exact hL'.2)
        refine ⟨(k, t), ⟨[.int .i64 k], [c1, c2, c3, c4], rfl, rfl, ht⟩, ?_, hw⟩
        simp only [Lit.wf, Bool.and_eq_true, decide_eq_true_eq] at w0
        simpa [IntKind.min, IntKind.max, IntKind.signed, IntKind.bits] using w0
theorem open_bdl (fuel : Nat) (cs : List Value) (x : DataW H × List MemPlace) (h : DataW.trod enc Tryz.prog W 0 (fun _ => true) true fuel 27 cs = some x) (hL : Light Tryz.prog 27 x.1) :
    ∃ l u, cs = [u] ∧ Kd.bd.S W (fun _ => True) l u ∧ WfB l := by
  rcases DataW.trod_slice Tryz.underlying27 h with ⟨rfl, rfl⟩ | ⟨a, len0, cap0, elems, rest, n, hn, rfl, rfl, _, hlc, hcm, hel, he, _, _⟩
  · exact ⟨[], _, rfl, Kd.S.nil _ _ _, fun b hb => by cases hb⟩
  · unfold Light at hL
    simp only [DataW.weights, Tryz.underlying27, List.all_cons, List.all_append, Bool.and_eq_true] at hL
    have hLe := light_all hL.2.1
    simp only [Tryz.cellsBd] at he
    have key : ∀ i : Fin len0, ∃ t : Int × Tm, (∃ cs, Kd.bd.K W (fun _ => True) t cs ∧ a.spot = none ∧ ∀ k u, cs[k]? = some u → W.cell? ⟨a.block, a.off + i * 5 + k, none⟩ = some u) ∧ (-9223372036854775808 ≤ t.1 ∧ t.1 ≤ 9223372036854775807) ∧ t.2.Wf := by
      intro i
      have h1 := he i.1 i.2
      obtain ⟨y, hy⟩ : ∃ y, elems[i.1]? = some y := ⟨_, List.getElem?_eq_getElem (by rw [hel]; exact i.2)⟩
      rw [hy] at h1
      obtain ⟨cs, hcs, htr⟩ := Option.bind_eq_some_iff.1 h1
      obtain ⟨t, ht, hw⟩ := open_bd _ cs y htr (hLe _ (List.mem_map.2 ⟨y, List.mem_of_getElem? hy, rfl⟩))
      obtain ⟨hb0, hl4, hc4⟩ := World.cells?_some hcs
      have hl : cs.length = 5 := hl4
      have hsp : len0 ≠ 0 → a.spot = none := fun hne => by
        have h1 := he 0 (by omega)
        obtain ⟨y, hy⟩ : ∃ y, elems[0]? = some y := ⟨_, List.getElem?_eq_getElem (by omega)⟩
        rw [hy] at h1
        obtain ⟨cs', hcs', _⟩ := Option.bind_eq_some_iff.1 h1
        obtain ⟨_, hl', hc'⟩ := World.cells?_some hcs'
        have e : W.cell? ((a.add (0 * 5)).add 0) = some cs'[0] := by rw [hc' 0 (by omega)]; exact List.getElem?_eq_getElem (by omega)
        exact cell_spot e
      have ha := hsp (by have := i.2; omega)
      refine ⟨t, ⟨cs, ht, ha, fun k u hk => ?_⟩, hw⟩
      have hk4 : k < 5 := by rw [← hl]; exact (List.getElem?_eq_some_iff.1 hk).1
      have := hc4 k hk4
      rw [hk, addr_add ha, add_off] at this
      exact this
    let l : Bs := List.ofFn (fun i : Fin len0 => Classical.choose (key i))
    have hll : l.length = len0 := List.length_ofFn
    have hat : ∀ j t, l[j]? = some t → ∃ h : j < len0, t = Classical.choose (key ⟨j, h⟩) := fun j t hj => by
      obtain ⟨h1, h2⟩ := List.getElem?_eq_some_iff.1 hj
      refine ⟨by rw [← hll]; exact h1, ?_⟩
      rw [← h2]
      simp [l]
    refine ⟨l, _, rfl, ⟨some a, cap0, by rw [hll], by omega, hcm, ?_⟩, ?_⟩
    · by_cases h0 : l = []
      · exact .inl ⟨h0, fun e => by cases e⟩
      · right
        have hpos : 0 < len0 := by
          rw [← hll]; exact List.length_pos_iff.2 h0
        have hsp := (Classical.choose_spec (key ⟨0, hpos⟩)).1
        obtain ⟨_, _, hspot, _⟩ := hsp
        obtain ⟨b, o, sp⟩ := a
        simp only at hspot
        subst hspot
        refine ⟨b, o, rfl, trivial, fun j t hj => ?_⟩
        obtain ⟨hjl, rfl⟩ := hat j t hj
        obtain ⟨cs, ht, _, hc⟩ := (Classical.choose_spec (key ⟨j, hjl⟩)).1
        exact ⟨cs, ht, hc⟩
    · intro t ht
      obtain ⟨j, hj⟩ := List.mem_iff_getElem?.1 ht
      obtain ⟨hjl, rfl⟩ := hat j t hj
      exact (Classical.choose_spec (key ⟨j, hjl⟩)).2
/-- A list of bindings that is handed in. -/
theorem open_bds {v : Value} {d : DataW H} {ps : List MemPlace} {r : Reach} {b0 : Nat} (hv : Value.okWide Tryz.prog W r b0 27 v) (h : DataW.Trod enc Tryz.prog W 0 (fun _ => true) true 27 v d ps) (hL : Light Tryz.prog 27 d) :
    ∃ l, Kd.bd.S W (fun _ => True) l v ∧ WfB l := by
  obtain ⟨a, len, cap, rfl⟩ := okWide_slice Tryz.underlying27 hv
  obtain ⟨fuel, hf⟩ := h
  obtain ⟨l, u, e, hS, hw⟩ := open_bdl fuel _ _ hf hL
  refine ⟨l, ?_, hw⟩
  simp only [Value.cells] at e
  injection e with e
  subst e
  exact hS
end
end Go.Proofs.YtgcbanljifalnaaGreatDoor
/- What is known along a walk: some slices of terms that read. No condition. -/
namespace Go.Proofs.YtgcbanljifalnaaGreatDoor
open Go.RowKit

/-- Some slices of terms that read. -/
structure Ks (w : World) (L : List (List Tm × Value)) (W : World) : Prop where
  below : Below w.heap.size w W
  all : ∀ p ∈ L, Kd.tm.S W (fun _ => True) p.1 p.2
section
variable {w W W' : World} {L : List (List Tm × Value)}
theorem Ks.then (h : Ks w L W) (hb : Below W.heap.size W W') : Ks w L W' := ⟨below_then h.below h.below.size hb, fun p hp => (h.all p hp).below hb⟩
theorem Ks.alloc (h : Ks w L W) (O : Obj) : Ks w L (W.alloc O) := h.then ((Below.refl _ W).alloc (Nat.le_refl _) O)
theorem Ks.push {ok : Nat → Prop} {l : List Tm} {v : Value} (h : Ks w L W) (hs : Kd.tm.S W ok l v) : Ks w ((l, v) :: L) W := ⟨h.below, fun p hp => by
  rcases List.mem_cons.1 hp with rfl | hp
  · exact hs.mono (fun _ _ => trivial)
  · exact h.all p hp⟩
theorem Ks.get (h : Ks w L W) {l : List Tm} {v : Value} (hm : (l, v) ∈ L) : Kd.tm.S W (fun _ => True) l v := h.all _ hm
/-- Lists that are written out: one term; two. -/
theorem Ks.one (h : Ks w L W) (t : Tm) (u : Value) (hu : Kd.tm.S W (fun _ => True) t.l u) : Ks w (([t], .slice (some ⟨W.heap.size, 0, none⟩) 1 1) :: L) (W.alloc (.cells #[.int .u8 t.k, .string t.s, .int .i64 t.n, u] 30)) :=
  (h.alloc _).push (lit1_at (heap_new W _) (hu.below ((Below.refl _ W).alloc (Nat.le_refl _) _)))
theorem Ks.two (h : Ks w L W) (t t' : Tm) (u u' : Value) (hu : Kd.tm.S W (fun _ => True) t.l u) (hu' : Kd.tm.S W (fun _ => True) t'.l u') :
    Ks w (([t, t'], .slice (some ⟨W.heap.size, 0, none⟩) 2 2) :: L) (W.alloc (.cells #[.int .u8 t.k, .string t.s, .int .i64 t.n, u, .int .u8 t'.k, .string t'.s, .int .i64 t'.n, u'] 30)) :=
  (h.alloc _).push (lit2_at (heap_new W _) (hu.below ((Below.refl _ W).alloc (Nat.le_refl _) _)) (hu'.below ((Below.refl _ W).alloc (Nat.le_refl _) _)))
end
theorem mkF_cons (s : ByteArray) (t : Tm) (l : List Tm) : mkF s (t :: l) = ⟨4, s, 0, t :: l⟩ := by unfold mkF; rw [if_neg (by simp)]
end Go.Proofs.YtgcbanljifalnaaGreatDoor
/- What a load of a whole term yields, out of its four cells. No condition. -/
namespace Go.Proofs.YtgcbanljifalnaaGreatDoor
open Go.RowKit
theorem held_cell {W W' : World} (hb : Below W.heap.size W W') {b o : Nat} {v : Value} (h : W.cell? ⟨b, o, none⟩ = some v) : W'.cell? ⟨b, o, none⟩ = some v := cell_below hb h (cell_lt h)
theorem Bx.of {w W : World} {ok : Nat → Prop} {t : Tm} {u : Value} (hb : Below w.heap.size w W) (hu : Kd.tm.S W ok t.l u) : Bx w (fun _ => True) W.heap.size t u (W.alloc (.cells #[.int .u8 t.k, .string t.s, .int .i64 t.n, u] 30)) :=
  ⟨hb.alloc hb.size _, heap_new W _, (hu.below ((Below.refl _ W).alloc (Nat.le_refl _) _)).mono (fun _ _ => trivial)⟩

end Go.Proofs.YtgcbanljifalnaaGreatDoor
/- Walks of layer 2: comparisons. Conditions: the arguments read. -/
namespace Go.Proofs.YtgcbanljifalnaaGreatDoor
open Go.RowKit

/-- Two numbers. -/
def cmpI (a b : Int) : Int := if a < b then -1 else if b < a then 1 else 0
theorem cmp8_c (a b : Int) (w : World) : Calls Tryz.prog 58 #[.int .u8 a, .int .u8 b] w fun e w' => e = .returned (.int .i64 (cmpI a b)) ∧ w' = w := by
  have HX := Lib.hid (show cmpI a b = if a < b then -1 else if b < a then 1 else 0 from rfl)
  go_enter Tryz.func58, Tryz.ntmps58
  go_wp2
  all_goals go_ret
  all_goals exact ⟨ret_int (by rw [HX.out]; (repeat' split) <;> first | rfl | omega), rfl⟩
theorem cmp64_c (a b : Int) (w : World) : Calls Tryz.prog 59 #[.int .i64 a, .int .i64 b] w fun e w' => e = .returned (.int .i64 (cmpI a b)) ∧ w' = w := by
  have HX := Lib.hid (show cmpI a b = if a < b then -1 else if b < a then 1 else 0 from rfl)
  go_enter Tryz.func59, Tryz.ntmps59
  go_wp2
  all_goals go_ret
  all_goals exact ⟨ret_int (by rw [HX.out]; (repeat' split) <;> first | rfl | omega), rfl⟩
theorem cmpi_c (a b : Int) (w : World) : Calls Tryz.prog 60 #[.int .i64 a, .int .i64 b] w fun e w' => e = .returned (.int .i64 (cmpI a b)) ∧ w' = w := by
  have HX := Lib.hid (show cmpI a b = if a < b then -1 else if b < a then 1 else 0 from rfl)
  go_enter Tryz.func60, Tryz.ntmps60
  go_wp2
  all_goals go_ret
  all_goals exact ⟨ret_int (by rw [HX.out]; (repeat' split) <;> first | rfl | omega), rfl⟩
/-- Two texts. -/
def cmpS (a b : ByteArray) : Int := if Op.bytesLess a.toList b.toList = true then -1 else if a = b then 0 else 1
theorem cmps_c (a b : ByteArray) (w : World) : Calls Tryz.prog 61 #[.string a, .string b] w fun e w' => e = .returned (.int .i64 (cmpS a b)) ∧ w' = w := by
  have HX := Lib.hid (show cmpS a b = if Op.bytesLess a.toList b.toList = true then -1 else if a = b then 0 else 1 from rfl)
  have HE : Hid ((!a.toList == b.toList) = false ↔ a = b) := Lib.hid (by
    simp only [Bool.not_eq_false', beq_iff_eq]
    exact ⟨toList_inj, fun h => by rw [h]⟩)
  go_enter Tryz.func61, Tryz.ntmps61
  go_wp2
  all_goals go_ret
  all_goals (refine ⟨ret_int ?_, rfl⟩; rw [HX.out])
  · rw [if_pos (by assumption)]
  · have h1 : Op.bytesLess a.toList b.toList = false := by assumption
    have h2 : (!a.toList == b.toList) = true := by assumption
    rw [if_neg (by rw [h1]; decide), if_neg (fun e => by rw [HE.out.2 e] at h2; cases h2)]
  · have h1 : Op.bytesLess a.toList b.toList = false := by assumption
    have h2 : (!a.toList == b.toList) = false := by assumption
    rw [if_neg (by rw [h1]; decide), if_pos (HE.out.1 h2)]
end Go.Proofs.YtgcbanljifalnaaGreatDoor
/- Walks of layer 2: the standard order. Conditions: the arguments read. -/
namespace Go.Proofs.YtgcbanljifalnaaGreatDoor
open Go.RowKit

/-- The first that tells. -/
def orI (a b : Int) : Int := if a ≠ 0 then a else b
mutual
def cmpT : Tm → Tm → Int
  | ⟨k, s, n, l⟩, ⟨k', s', n', l'⟩ => orI (cmpI k k') (orI (cmpI n n') (orI (cmpI l.length l'.length) (orI (cmpS s s') (cmpL l l'))))
def cmpL : List Tm → List Tm → Int
  | [], [] => 0
  | [], _ :: _ => -1
  | _ :: _, [] => 1
  | t :: ts, u :: us => orI (cmpT t u) (cmpL ts us)
end
def fstI : List Int → Int
  | [] => 0
  | c :: cs => orI c (fstI cs)
theorem fstI_take {cs : List Int} : ∀ {j : Nat} (hj : j < cs.length), (∀ c ∈ cs.take j, c = 0) → cs[j] ≠ 0 → fstI cs = cs[j] := by
  induction cs with
  | nil => intro j hj; simp at hj
  | cons c cs ih =>
    intro j hj h0 h1
    cases j with
    | zero => simp only [List.getElem_cons_zero] at h1 ⊢; simp [fstI, orI, h1]
    | succ j =>
      simp only [List.getElem_cons_succ] at h1 ⊢
      have hc : c = 0 := h0 c (by simp)
      simp only [fstI, orI, hc, ne_eq, not_true_eq_false, if_false]
      exact ih (by simpa using hj) (fun x hx => h0 x (by simp [hx])) h1
theorem fstI_zero : ∀ {cs : List Int}, (∀ c ∈ cs, c = 0) → fstI cs = 0
  | [], _ => rfl
  | c :: cs, h => by simp [fstI, orI, h c (by simp), fstI_zero (fun x hx => h x (List.mem_cons_of_mem _ hx))]
/-- Function values. -/
def Kd.fn : Kd (Nat × Array Value) := Kd.scalar (fun p => Value.func (.func p.1) #[] p.2) (fun _ => rfl)
set_option maxHeartbeats 1600000 in
theorem first_c (fs : List (Nat × Array Value)) (cs : List Int) (hcs : cs.length = fs.length) (eg : ∀ p ∈ fs, ∀ args w, (callFunc p.1 args).run Tryz.prog w = .ok (.enter p.1 args) w) (v : Value) (w : World) (ok : Nat → Prop) (hv : Kd.fn.S w ok fs v)
    (H : ∀ (j : Nat) (h : j < fs.length) (W : World), Below w.heap.size w W → Calls Tryz.prog fs[j].1 fs[j].2 W fun e W' => e = .returned (.int .i64 (cs[j]'(by omega))) ∧ Below W.heap.size W W') :
    Calls Tryz.prog 63 #[v] w fun e w' => e = .returned (.int .i64 (fstI cs)) ∧ Below w.heap.size w w' := by
  obtain ⟨A, c, rfl, hl, hc, hA⟩ := hv
  unfold maxLen at hc
  go_enter Tryz.func63, Tryz.ntmps63
  go_wp2
  go_loopw [8] (fun i wr => ∃ j : Nat, j ≤ fs.length ∧ i = .int .i64 j ∧ Hid (∀ c ∈ cs.take j, c = 0) ∧ Below w.heap.size w wr) (fun i _ => fs.length - (intOf i).toNat)
  case atStart => exact ⟨0, Nat.zero_le _, rfl, Lib.hid (by simp), Below.refl _ _⟩
  case round =>
    obtain ⟨j, hj, rfl, hn, hb⟩ := hrel
    by_cases hlt : j < fs.length
    · obtain ⟨b, o, rfl, hok, hlo, h0⟩ := one_elem hA hlt
      have g0 := cell_below hb h0 hlo
      have HC := Lib.hid (H j hlt wr hb)
      have eg' := eg fs[j] (List.getElem_mem hlt)
      have HS : Hid (cs[j]'(by omega) = 0 → ∀ c ∈ cs.take (j + 1), c = 0) := Lib.hid (fun h c hc => by
        rw [take_succ_at cs (by omega), List.mem_append, List.mem_singleton] at hc
        rcases hc with hc | rfl
        · exact hn.out c hc
        · exact h)
      have HF : Hid (cs[j]'(by omega) ≠ 0 → fstI cs = cs[j]'(by omega)) := Lib.hid (fun h => fstI_take (by omega) hn.out h)
      clear hA h0 H eg hn
      generalize fs[j] = p at g0 HC eg'
      generalize cs[j]'(by omega) = x at HC HS HF
      obtain ⟨g, lb⟩ := p
      simp only at g0 HC eg'
      by_cases hx : x = 0
      · have hx' : (x != 0) = false := by simpa using hx
        go_wp2_with (refine HC.out.mono ?_; clear HC; rintro e w1 ⟨rfl, hb1⟩)
        go_roundw
        case rel => exact ⟨j + 1, by omega, by go_num, Lib.hid (HS.out hx), below_then hb hb.size hb1⟩
        case measure => simp [intOf]; omega
      · have hx' : (x != 0) = true := by simpa using hx
        go_wp2_with (refine HC.out.mono ?_; clear HC; rintro e w1 ⟨rfl, hb1⟩)
        go_ret
        exact ⟨ret_int (HF.out hx).symm, below_then hb hb.size hb1⟩
    · have HF : Hid (fstI cs = 0) := Lib.hid (fstI_zero (fun c hc => hn.out c (by rw [List.take_of_length_le (by omega)]; exact hc)))
      clear hA H eg hn
      go_wp2
      go_ret
      exact ⟨ret_int HF.out.symm, hb⟩

theorem cmpL_at : ∀ {l m : List Tm} {j : Nat} (hj : j < l.length) (hj' : j < m.length), (∀ i, ∀ (h : i < j), cmpT (l[i]'(by omega)) (m[i]'(by omega)) = 0) → cmpT l[j] m[j] ≠ 0 → cmpL l m = cmpT l[j] m[j]
  | t :: ts, u :: us, 0, _, _, _, h => by simp only [List.getElem_cons_zero] at h ⊢; simp [cmpL, orI, h]
  | t :: ts, u :: us, j + 1, hj, hj', h0, h => by
    simp only [List.getElem_cons_succ] at h ⊢
    have h00 : cmpT t u = 0 := h0 0 (by omega)
    simp only [cmpL, orI, h00, ne_eq, not_true_eq_false, if_false]
    exact cmpL_at (by simpa using hj) (by simpa using hj') (fun i hi => by have := h0 (i + 1) (by omega); simpa using this) h
theorem cmpL_end : ∀ {l m : List Tm}, (∀ i, ∀ (h : i < l.length) (h' : i < m.length), cmpT l[i] m[i] = 0) → cmpL l m = if l.length < m.length then -1 else if m.length < l.length then 1 else 0
  | [], [], _ => by simp [cmpL]
  | [], _ :: _, _ => by simp [cmpL]
  | _ :: _, [], _ => by simp [cmpL]
  | t :: ts, u :: us, h => by
    have h00 : cmpT t u = 0 := h 0 (by simp) (by simp)
    have := cmpL_end (l := ts) (m := us) (fun i hi hi' => by have := h (i + 1) (by simpa using hi) (by simpa using hi'); simpa using this)
    simp only [cmpL, orI, h00, ne_eq, not_true_eq_false, if_false, this, List.length_cons, Nat.add_lt_add_iff_right]
set_option maxHeartbeats 1600000 in
theorem cmpF_of (l : List Tm) (H : ∀ t ∈ l, ∀ (u : Tm) (w : World) (ok ok' : Nat → Prop) (v v' : Value), TmV w ok t v → TmV w ok' u v' → Calls Tryz.prog 33 #[v, v'] w fun e w' => e = .returned (.int .i64 (cmpT t u)) ∧ Below w.heap.size w w')
    (m : List Tm) (v v' : Value) (w : World) (ok ok' : Nat → Prop) (hv : Kd.tm.S w ok l v) (hv' : Kd.tm.S w ok' m v') :
    Calls Tryz.prog 69 #[v, v', .func (.func 33) #[] #[]] w fun e w' => e = .returned (.int .i64 (cmpL l m)) ∧ Below w.heap.size w w' := by
  obtain ⟨A, c, rfl, hl, hc, hA⟩ := hv
  obtain ⟨A', c', rfl, hl', hc', hA'⟩ := hv'
  unfold maxLen at hc hc'
  go_enter Tryz.func69, Tryz.ntmps69
  go_wp2
  go_loopw [13] (fun i wr => ∃ j : Nat, j ≤ l.length ∧ j ≤ m.length ∧ i = .int .i64 j ∧ Hid (∀ i, ∀ (h : i < j) (h1 : i < l.length) (h2 : i < m.length), cmpT l[i] m[i] = 0) ∧ Below w.heap.size w wr) (fun i _ => l.length - (intOf i).toNat)
  case atStart => exact ⟨0, Nat.zero_le _, Nat.zero_le _, rfl, Lib.hid (fun i h => by omega), Below.refl _ _⟩
  case round =>
    obtain ⟨j, hj, hjm, rfl, hn, hb⟩ := hrel
    by_cases hlt : j < l.length
    · obtain ⟨b, o, u, rfl, hok, hlo, h0, h1, h2, h3, h4⟩ := tm_elem hA hlt
      have g0 := cell_below hb h0 hlo
      have g1 := cell_below hb h1 hlo
      have g2 := cell_below hb h2 hlo
      have g3 := cell_below hb h3 hlo
      have k4 := h4.below hb
      obtain ⟨Au, cu, rfl⟩ := k4.form
      by_cases hlt' : j < m.length
      · obtain ⟨b', o', u', rfl, hok', hlo', h0', h1', h2', h3', h4'⟩ := tm_elem hA' hlt'
        have g0' := cell_below hb h0' hlo'
        have g1' := cell_below hb h1' hlo'
        have g2' := cell_below hb h2' hlo'
        have g3' := cell_below hb h3' hlo'
        have k4' := h4'.below hb
        have HC := Lib.hid (fun W (hW : Below wr.heap.size wr W) => H l[j] (List.getElem_mem hlt) m[j] W ok ok' _ _ ⟨_, rfl, k4.below hW⟩ ⟨u', rfl, k4'.below hW⟩)
        obtain ⟨Au', cu', rfl⟩ := k4'.form
        have hst : ∀ O O' : Obj, Below wr.heap.size wr ((wr.alloc O).alloc O') := fun O O' => ((Below.refl _ wr).alloc (Nat.le_refl _) O).alloc (by simp) O'
        have hbs := hb.size
        have p0 := fun O => cell_below ((Below.refl _ wr).alloc (Nat.le_refl _) O) g0' (by omega)
        have p1 := fun O => cell_below ((Below.refl _ wr).alloc (Nat.le_refl _) O) g1' (by omega)
        have p2 := fun O => cell_below ((Below.refl _ wr).alloc (Nat.le_refl _) O) g2' (by omega)
        have p3 := fun O => cell_below ((Below.refl _ wr).alloc (Nat.le_refl _) O) g3' (by omega)
        have HS : Hid (cmpT l[j] m[j] = 0 → ∀ i, ∀ (h : i < j + 1) (h1 : i < l.length) (h2 : i < m.length), cmpT l[i] m[i] = 0) := Lib.hid (fun h i hi h1 h2 => by
          rcases Nat.lt_or_ge i j with hij | hij
          · exact hn.out i hij h1 h2
          · have : i = j := by omega
            subst this; exact h)
        have HF : Hid (cmpT l[j] m[j] ≠ 0 → cmpL l m = cmpT l[j] m[j]) := Lib.hid (fun h => cmpL_at hlt hlt' (fun i hi => hn.out i hi _ _) h)
        have hjm' : (j : Int) < m.length := by omega
        clear hA hA' h0 h1 h2 h3 h4 h0' h1' h2' h3' h4' H hn k4 k4'
        generalize cmpT l[j] m[j] = x at HC HS HF
        by_cases hx : x = 0
        · have hx' : (x != 0) = false := by simpa using hx
          go_wp2_with (go_at_call 33; refine (HC.out _ (hst _ _)).mono ?_; clear HC; rintro e w1 ⟨rfl, hb1⟩)
          go_roundw
          case rel => exact ⟨j + 1, by omega, by omega, by go_num, Lib.hid (HS.out hx), hb.trans (((hst _ _).trans (hb1.mono (by simp; omega))).mono hbs)⟩
          case measure => simp [intOf]; omega
        · have hx' : (x != 0) = true := by simpa using hx
          go_wp2_with (go_at_call 33; refine (HC.out _ (hst _ _)).mono ?_; clear HC; rintro e w1 ⟨rfl, hb1⟩)
          go_ret
          exact ⟨ret_int (HF.out hx).symm, hb.trans (((hst _ _).trans (hb1.mono (by simp; omega))).mono hbs)⟩
      · have HF : Hid (cmpL l m = 1) := Lib.hid (by
          rw [cmpL_end (fun i hi hi' => hn.out i (by omega) hi hi'), if_neg (by omega), if_pos (by omega)])
        have hjm' : ¬ (j : Int) < m.length := by omega
        have hjm2 : (m.length : Int) ≤ j := by omega
        clear hA hA' H hn k4 h0 h1 h2 h3 h4
        go_wp2
        go_ret
        exact ⟨ret_int HF.out.symm, hb.alloc hb.size _⟩
    · by_cases hlm : l.length < m.length
      · have HF : Hid (cmpL l m = -1) := Lib.hid (by
          rw [cmpL_end (fun i hi hi' => hn.out i (by omega) hi hi'), if_pos hlm])
        have hlm' : (l.length : Int) < m.length := by omega
        clear hA hA' H hn
        go_wp2
        go_ret
        exact ⟨ret_int HF.out.symm, hb⟩
      · have HF : Hid (cmpL l m = 0) := Lib.hid (by
          rw [cmpL_end (fun i hi hi' => hn.out i (by omega) hi hi'), if_neg hlm, if_neg (by omega)])
        have hlm' : ¬ (l.length : Int) < m.length := by omega
        have hlm2 : (m.length : Int) ≤ l.length := by omega
        clear hA hA' H hn
        go_wp2
        go_ret
        exact ⟨ret_int HF.out.symm, hb⟩
end Go.Proofs.YtgcbanljifalnaaGreatDoor
/- Walks of layer 2: Compare. Conditions: the arguments read. -/
namespace Go.Proofs.YtgcbanljifalnaaGreatDoor
open Go.RowKit

/-- Two terms in boxes B and B'. -/
structure TwoB (B B' : Nat) (a b : Tm) (ok ok' : Nat → Prop) (u u' : Value) (W : World) : Prop where
  c : W.heap[B]? = some (.cells #[.int .u8 a.k, .string a.s, .int .i64 a.n, u] 30 (0, 0))
  d : W.heap[B']? = some (.cells #[.int .u8 b.k, .string b.s, .int .i64 b.n, u'] 30 (0, 0))
  s : Kd.tm.S W ok a.l u
  s' : Kd.tm.S W ok' b.l u'
theorem TwoB.then {B B' : Nat} {a b : Tm} {ok ok' : Nat → Prop} {u u' : Value} {W W' : World} (h : TwoB B B' a b ok ok' u u' W) (hb : Below W.heap.size W W') : TwoB B B' a b ok ok' u u' W' :=
  ⟨block_below hb (Array.getElem?_eq_some_iff.1 h.c).1 h.c, block_below hb (Array.getElem?_eq_some_iff.1 h.d).1 h.d, h.s.below hb, h.s'.below hb⟩
section
variable {B B' : Nat} {a b : Tm} {ok ok' : Nat → Prop} {u u' : Value} {W : World} (h : TwoB B B' a b ok ok' u u' W)
include h
theorem cl1_c : Calls Tryz.prog 64 #[.pointer (some ⟨B, 0, none⟩), .pointer (some ⟨B', 0, none⟩)] W fun e w' => e = .returned (.int .i64 (cmpI a.k b.k)) ∧ Below W.heap.size W w' := by
  obtain ⟨c0, c1, c2, c3, -⟩ := box4 h.c
  obtain ⟨d0, d1, d2, d3, -⟩ := box4 h.d
  clear h
  go_enter Tryz.func64, Tryz.ntmps64
  go_wp2_with (go_at_call 58; refine (cmp8_c _ _ _).mono ?_; rintro e w1 ⟨rfl, rfl⟩)
  go_ret
  exact ⟨rfl, Below.refl _ _⟩
theorem cl2_c : Calls Tryz.prog 65 #[.pointer (some ⟨B, 0, none⟩), .pointer (some ⟨B', 0, none⟩)] W fun e w' => e = .returned (.int .i64 (cmpI a.n b.n)) ∧ Below W.heap.size W w' := by
  obtain ⟨c0, c1, c2, c3, -⟩ := box4 h.c
  obtain ⟨d0, d1, d2, d3, -⟩ := box4 h.d
  clear h
  go_enter Tryz.func65, Tryz.ntmps65
  go_wp2_with (go_at_call 59; refine (cmp64_c _ _ _).mono ?_; rintro e w1 ⟨rfl, rfl⟩)
  go_ret
  exact ⟨rfl, Below.refl _ _⟩
theorem cl3_c : Calls Tryz.prog 66 #[.pointer (some ⟨B, 0, none⟩), .pointer (some ⟨B', 0, none⟩)] W fun e w' => e = .returned (.int .i64 (cmpI a.l.length b.l.length)) ∧ Below W.heap.size W w' := by
  obtain ⟨c0, c1, c2, c3, -⟩ := box4 h.c
  obtain ⟨d0, d1, d2, d3, -⟩ := box4 h.d
  obtain ⟨A, c, rfl⟩ := h.s.form
  obtain ⟨A', c', rfl⟩ := h.s'.form
  clear h
  go_enter Tryz.func66, Tryz.ntmps66
  go_wp2_with (go_at_call 60; refine (cmpi_c _ _ _).mono ?_; rintro e w1 ⟨rfl, rfl⟩)
  go_ret
  exact ⟨rfl, Below.refl _ _⟩
theorem cl4_c : Calls Tryz.prog 67 #[.pointer (some ⟨B, 0, none⟩), .pointer (some ⟨B', 0, none⟩)] W fun e w' => e = .returned (.int .i64 (cmpS a.s b.s)) ∧ Below W.heap.size W w' := by
  obtain ⟨c0, c1, c2, c3, -⟩ := box4 h.c
  obtain ⟨d0, d1, d2, d3, -⟩ := box4 h.d
  clear h
  go_enter Tryz.func67, Tryz.ntmps67
  go_wp2_with (go_at_call 61; refine (cmps_c _ _ _).mono ?_; rintro e w1 ⟨rfl, rfl⟩)
  go_ret
  exact ⟨rfl, Below.refl _ _⟩
theorem cl5_c (H : ∀ t ∈ a.l, ∀ (u : Tm) (w : World) (ok ok' : Nat → Prop) (v v' : Value), TmV w ok t v → TmV w ok' u v' → Calls Tryz.prog 33 #[v, v'] w fun e w' => e = .returned (.int .i64 (cmpT t u)) ∧ Below w.heap.size w w') :
    Calls Tryz.prog 68 #[.pointer (some ⟨B, 0, none⟩), .pointer (some ⟨B', 0, none⟩)] W fun e w' => e = .returned (.int .i64 (cmpL a.l b.l)) ∧ Below W.heap.size W w' := by
  obtain ⟨c0, c1, c2, c3, -⟩ := box4 h.c
  obtain ⟨d0, d1, d2, d3, -⟩ := box4 h.d
  have HC := Lib.hid (cmpF_of a.l H b.l u u' W ok ok' h.s h.s')
  obtain ⟨A, c, rfl⟩ := h.s.form
  obtain ⟨A', c', rfl⟩ := h.s'.form
  clear h H
  go_enter Tryz.func68, Tryz.ntmps68
  go_wp2_with (go_at_call 69; refine HC.out.mono ?_; rintro e w1 ⟨rfl, hb1⟩)
  go_ret
  exact ⟨rfl, hb1⟩
end
theorem fn5_at (W : World) (f1 f2 f3 f4 f5 : Nat) (b1 b2 b3 b4 b5 : Array Value) :
    Kd.fn.S (W.alloc (.cells #[.func (.func f1) #[] b1, .func (.func f2) #[] b2, .func (.func f3) #[] b3, .func (.func f4) #[] b4, .func (.func f5) #[] b5] 36)) (fun _ => True) [(f1, b1), (f2, b2), (f3, b3), (f4, b4), (f5, b5)] (.slice (some ⟨W.heap.size, 0, none⟩) 5 5) :=
  Kd.S.mono (fun _ _ => trivial) (Kd.Own.S (Kd.Own.lit (d := Kd.fn) (e := 36) (base := W.heap.size) (ok := fun _ => True) (xs := [(f1, b1), (f2, b2), (f3, b3), (f4, b4), (f5, b5)]) [.func (.func f1) #[] b1, .func (.func f2) #[] b2, .func (.func f3) #[] b3, .func (.func f4) #[] b4, .func (.func f5) #[] b5] (Nat.le_refl _) rfl (by simp [maxLen]) (fun j z hz => by
    match j, hz with
    | 0, hz => simp at hz; subst hz; rfl
    | 1, hz => simp at hz; subst hz; rfl
    | 2, hz => simp at hz; subst hz; rfl
    | 3, hz => simp at hz; subst hz; rfl
    | 4, hz => simp at hz; subst hz; rfl
    | j + 5, hz => simp at hz)))
set_option maxHeartbeats 1600000 in
theorem Compare_c (t : Tm) : ∀ (u : Tm) (w : World) (ok ok' : Nat → Prop) (v v' : Value), TmV w ok t v → TmV w ok' u v' → Calls Tryz.prog 33 #[v, v'] w fun e w' => e = .returned (.int .i64 (cmpT t u)) ∧ Below w.heap.size w w' := by
  refine Tm.ind (p := fun t => ∀ (u : Tm) (w : World) (ok ok' : Nat → Prop) (v v' : Value), TmV w ok t v → TmV w ok' u v' → Calls Tryz.prog 33 #[v, v'] w fun e w' => e = .returned (.int .i64 (cmpT t u)) ∧ Below w.heap.size w w') ?_ t
  intro a ih b w ok ok' v v' hv hv'
  obtain ⟨u, rfl, hs⟩ := hv
  obtain ⟨u', rfl, hs'⟩ := hv'
  obtain ⟨O1, hO1⟩ : ∃ O : Obj, O = .cells #[.int .u8 a.k, .string a.s, .int .i64 a.n, u] 30 := ⟨_, rfl⟩
  obtain ⟨O2, hO2⟩ : ∃ O : Obj, O = .cells #[.int .u8 b.k, .string b.s, .int .i64 b.n, u'] 30 := ⟨_, rfl⟩
  have hst : Below w.heap.size w ((w.alloc O1).alloc O2) := ((Below.refl _ w).alloc (Nat.le_refl _) O1).alloc (by simp) O2
  have hT : TwoB w.heap.size (w.heap.size + 1) a b ok ok' u u' ((w.alloc O1).alloc O2) := ⟨by rw [← hO1]; exact (Below.heap_alloc _ _ _ (by simp)).trans (heap_new w _), by have := heap_new (w.alloc O1) O2; rwa [World.size_alloc, ← hO2] at *, hs.below hst, hs'.below hst⟩
  have hx : cmpT a b = fstI [cmpI a.k b.k, cmpI a.n b.n, cmpI a.l.length b.l.length, cmpS a.s b.s, cmpL a.l b.l] := by
    obtain ⟨k, s, n, l⟩ := a
    obtain ⟨k', s', n', l'⟩ := b
    simp only [cmpT, fstI]
    by_cases h : cmpL l l' = 0 <;> simp [orI, h]
  have HX := Lib.hid hx
  have HF := Lib.hid (fun (W : World) (hW : Below ((w.alloc O1).alloc O2).heap.size ((w.alloc O1).alloc O2) W) (v : Value) (hv : Kd.fn.S W (fun _ => True) [(64, #[.pointer (some ⟨w.heap.size, 0, none⟩), .pointer (some ⟨w.heap.size + 1, 0, none⟩)]), (65, #[.pointer (some ⟨w.heap.size, 0, none⟩), .pointer (some ⟨w.heap.size + 1, 0, none⟩)]), (66, #[.pointer (some ⟨w.heap.size, 0, none⟩), .pointer (some ⟨w.heap.size + 1, 0, none⟩)]), (67, #[.pointer (some ⟨w.heap.size, 0, none⟩), .pointer (some ⟨w.heap.size + 1, 0, none⟩)]), (68, #[.pointer (some ⟨w.heap.size, 0, none⟩), .pointer (some ⟨w.heap.size + 1, 0, none⟩)])] v) =>
    first_c _ [cmpI a.k b.k, cmpI a.n b.n, cmpI a.l.length b.l.length, cmpS a.s b.s, cmpL a.l b.l] rfl (fun p hp => by
      simp only [List.mem_cons, List.not_mem_nil, or_false] at hp
      rcases hp with rfl | rfl | rfl | rfl | rfl
      · exact enters_of Tryz.func64 (by kernel_rfl) rfl
      · exact enters_of Tryz.func65 (by kernel_rfl) rfl
      · exact enters_of Tryz.func66 (by kernel_rfl) rfl
      · exact enters_of Tryz.func67 (by kernel_rfl) rfl
      · exact enters_of Tryz.func68 (by kernel_rfl) rfl) v W _ hv (fun j hj W1 hW1 => by
      have hT1 := (hT.then hW).then hW1
      match j, hj with
      | 0, _ => exact cl1_c hT1
      | 1, _ => exact cl2_c hT1
      | 2, _ => exact cl3_c hT1
      | 3, _ => exact cl4_c hT1
      | 4, _ => exact cl5_c hT1 ih))
  rw [← hx] at HF
  obtain ⟨A, c, rfl⟩ := hs.form
  obtain ⟨A', c', rfl⟩ := hs'.form
  subst hO1 hO2
  clear hs hs' hT ih hx
  have hS5 := fn5_at ((w.alloc (.cells #[.int .u8 a.k, .string a.s, .int .i64 a.n, .slice A a.l.length c] 30)).alloc (.cells #[.int .u8 b.k, .string b.s, .int .i64 b.n, .slice A' b.l.length c'] 30)) 64 65 66 67 68 #[.pointer (some ⟨w.heap.size, 0, none⟩), .pointer (some ⟨w.heap.size + 1, 0, none⟩)] #[.pointer (some ⟨w.heap.size, 0, none⟩), .pointer (some ⟨w.heap.size + 1, 0, none⟩)] #[.pointer (some ⟨w.heap.size, 0, none⟩), .pointer (some ⟨w.heap.size + 1, 0, none⟩)] #[.pointer (some ⟨w.heap.size, 0, none⟩), .pointer (some ⟨w.heap.size + 1, 0, none⟩)] #[.pointer (some ⟨w.heap.size, 0, none⟩), .pointer (some ⟨w.heap.size + 1, 0, none⟩)]
  have HQ := Lib.hid (HF.out _ ((Below.refl _ _).alloc (Nat.le_refl _) _) _ hS5)
  have hsz : ∀ O1 O2 : Obj, ((w.alloc O1).alloc O2).heap.size = w.heap.size + 1 + 1 := fun O1 O2 => by simp only [World.size_alloc]
  rw [show (Value.slice (some ⟨((w.alloc (.cells #[.int .u8 a.k, .string a.s, .int .i64 a.n, .slice A a.l.length c] 30)).alloc (.cells #[.int .u8 b.k, .string b.s, .int .i64 b.n, .slice A' b.l.length c'] 30)).heap.size, 0, none⟩) 5 5) = .slice (some ⟨w.heap.size + 1 + 1, 0, none⟩) 5 5 by rw [hsz]] at HQ
  clear HF hS5 hsz
  go_enter Tryz.func33, Tryz.ntmps33
  go_wp2_with (go_at_call 63; refine HQ.out.mono ?_; rintro e w1 ⟨rfl, hb1⟩)
  go_ret
  exact ⟨rfl, below_then (hst.alloc hst.size _) (by have := hst.size; simp; omega) hb1⟩
end Go.Proofs.YtgcbanljifalnaaGreatDoor
/- Walks of the library's insertion sort over terms. Conditions: the row is the call's own. -/
namespace Go.Proofs.YtgcbanljifalnaaGreatDoor
open Go.RowKit
attribute [local go_sem ↓] Go.wp_at_zero Go.wp_at_succ

theorem cell_of_cells' {W : World} {B o : Nat} {c : Array Value} {t : TypeId} {v : Value} (h : W.heap[B]? = some (.cells c t (0, 0))) (hv : c[o]? = some v) : W.cell? ⟨B, o, none⟩ = some v := by simp [World.cell?, h, hv]
/-- Block g holds terms from its head on; what they lead to is ok, and not g. -/
structure Rw (g cap : Nat) (ok : Nat → Prop) (xs : List Tm) (W : World) : Prop where
  ng : ¬ ok g
  len : xs.length ≤ cap
  lim : cap ≤ maxLen
  cur : ∃ cur : Array Value, W.heap[g]? = some (.cells cur 30 (0, 0)) ∧ cur.size = cap * 4 ∧ ∀ j x, xs[j]? = some x → ∃ u, cur[j * 4]? = some (.int .u8 x.k) ∧ cur[j * 4 + 1]? = some (.string x.s) ∧ cur[j * 4 + 2]? = some (.int .i64 x.n) ∧ cur[j * 4 + 3]? = some u ∧ Kd.tm.S W ok x.l u
theorem Rw.then {g cap : Nat} {ok : Nat → Prop} {xs : List Tm} {W W' : World} (h : Rw g cap ok xs W) (hb : Below W.heap.size W W') : Rw g cap ok xs W' := by
  obtain ⟨h1, h2, h2', cur, h3, h4, h5⟩ := h
  exact ⟨h1, h2, h2', cur, block_below hb (Array.getElem?_eq_some_iff.1 h3).1 h3, h4, fun j x hx => let ⟨u, q0, q1, q2, q3, q4⟩ := h5 j x hx; ⟨u, q0, q1, q2, q3, q4.below hb⟩⟩
theorem Rw.lt {g cap : Nat} {ok : Nat → Prop} {xs : List Tm} {W : World} (h : Rw g cap ok xs W) : g < W.heap.size := by
  obtain ⟨h1, h2, h2', cur, h3, h4, h5⟩ := h; exact (Array.getElem?_eq_some_iff.1 h3).1
theorem Rw.elem {g cap : Nat} {ok : Nat → Prop} {xs : List Tm} {W : World} (h : Rw g cap ok xs W) {j : Nat} (hj : j < xs.length) :
    ∃ u, W.cell? ⟨g, j * 4, none⟩ = some (.int .u8 xs[j].k) ∧ W.cell? ⟨g, j * 4 + 1, none⟩ = some (.string xs[j].s) ∧ W.cell? ⟨g, j * 4 + 2, none⟩ = some (.int .i64 xs[j].n) ∧ W.cell? ⟨g, j * 4 + 3, none⟩ = some u ∧
      W.frozen? ⟨g, j * 4, none⟩ = false ∧ W.frozen? ⟨g, j * 4 + 1, none⟩ = false ∧ W.frozen? ⟨g, j * 4 + 2, none⟩ = false ∧ W.frozen? ⟨g, j * 4 + 3, none⟩ = false ∧ Kd.tm.S W ok xs[j].l u := by
  obtain ⟨h1, h2, h2', cur, h3, h4, h5⟩ := h
  obtain ⟨u, q0, q1, q2, q3, q4⟩ := h5 j xs[j] (List.getElem?_eq_getElem hj)
  have b0 := (Array.getElem?_eq_some_iff.1 q3).1
  refine ⟨u, cell_of_cells' h3 q0, cell_of_cells' h3 q1, cell_of_cells' h3 q2, cell_of_cells' h3 q3, ?_, ?_, ?_, ?_, q4⟩ <;> simp [World.frozen?, h3] <;> omega
theorem Rw.S {g cap : Nat} {ok : Nat → Prop} {xs : List Tm} {W : World} (h : Rw g cap ok xs W) : Kd.tm.S W (fun _ => True) xs (.slice (some ⟨g, 0, none⟩) xs.length cap) := by
  have hh := h
  obtain ⟨h1, h2, h2', cur, h3, h4, h5⟩ := h
  refine ⟨_, cap, rfl, h2, h2', .inr ⟨g, 0, rfl, trivial, fun j x hx => ?_⟩⟩
  obtain ⟨u, q0, q1, q2, q3, q4⟩ := h5 j x hx
  refine ⟨_, TmK_iff.2 ⟨u, rfl, q4.mono (fun _ _ => trivial)⟩, fun i v hv => ?_⟩
  have e : 0 + j * Kd.tm.sz + i = j * 4 + i := by simp [Kd.tm]
  rw [e]
  match i, hv with
  | 0, hv => simp at hv; subst hv; exact cell_of_cells' h3 q0
  | 1, hv => simp at hv; subst hv; exact cell_of_cells' h3 q1
  | 2, hv => simp at hv; subst hv; exact cell_of_cells' h3 q2
  | 3, hv => simp at hv; subst hv; exact cell_of_cells' h3 q3
  | i + 4, hv => simp at hv
theorem set_block {W : World} {g : Nat} {c : Array Value} {t : TypeId} (h : W.heap[g]? = some (.cells c t (0, 0))) (o : Nat) (v : Value) : (W.setCell ⟨g, o, none⟩ v).heap[g]? = some (.cells (c.setIfInBounds o v) t (0, 0)) := by
  simp [World.setCell, Array.getElem?_modify, h]
/-- Four stores. -/
def set4 (W : World) (g o : Nat) (a b c d : Value) : World := (((W.setCell ⟨g, o, none⟩ a).setCell ⟨g, o + 1, none⟩ b).setCell ⟨g, o + 2, none⟩ c).setCell ⟨g, o + 3, none⟩ d
theorem set4_grown (W : World) (g o : Nat) (a b c d : Value) : W.grownBy (set4 W g o a b c d) (some g) :=
  (((grown_set W g o a).trans (grown_set _ g (o + 1) b)).trans (grown_set _ g (o + 2) c)).trans (grown_set _ g (o + 3) d)
theorem Rw.set {g cap : Nat} {ok : Nat → Prop} {xs : List Tm} {W : World} (h : Rw g cap ok xs W) {i : Nat} (hi : i < xs.length) (x : Tm) (u : Value) (hu : Kd.tm.S W ok x.l u) : Rw g cap ok (xs.set i x) (set4 W g (i * 4) (.int .u8 x.k) (.string x.s) (.int .i64 x.n) u) := by
  have hg := set4_grown W g (i * 4) (.int .u8 x.k) (.string x.s) (.int .i64 x.n) u
  obtain ⟨h1, h2, h2', cur, h3, h4, h5⟩ := h
  have hok : ∀ b, ok b → some b ≠ some g := fun b hb e => by injection e with e; subst e; exact h1 hb
  refine ⟨h1, by simpa using h2, h2', _, set_block (set_block (set_block (set_block h3 _ _) _ _) _ _) _ _, by simpa using h4, fun j y hy => ?_⟩
  rw [List.getElem?_set] at hy
  split at hy
  · rename_i hij
    subst hij
    injection hy with hy
    subst hy
    refine ⟨u, ?_, ?_, ?_, ?_, Kd.S.grown hg hok hu⟩
    all_goals simp only [Array.getElem?_setIfInBounds, Array.size_setIfInBounds]
    · rw [if_neg (by omega), if_neg (by omega), if_neg (by omega), if_pos trivial, if_pos (by omega)]
    · rw [if_neg (by omega), if_neg (by omega), if_pos trivial, if_pos (by omega)]
    · rw [if_neg (by omega), if_pos trivial, if_pos (by omega)]
    · rw [if_pos trivial, if_pos (by omega)]
  · rename_i hij
    obtain ⟨v, q0, q1, q2, q3, q4⟩ := h5 j y hy
    refine ⟨v, ?_, ?_, ?_, ?_, Kd.S.grown hg hok q4⟩
    all_goals simp only [Array.getElem?_setIfInBounds, Array.size_setIfInBounds]
    · rw [if_neg (by omega), if_neg (by omega), if_neg (by omega), if_neg (by omega)]; exact q0
    · rw [if_neg (by omega), if_neg (by omega), if_neg (by omega), if_neg (by omega)]; exact q1
    · rw [if_neg (by omega), if_neg (by omega), if_neg (by omega), if_neg (by omega)]; exact q2
    · rw [if_neg (by omega), if_neg (by omega), if_neg (by omega), if_neg (by omega)]; exact q3
end Go.Proofs.YtgcbanljifalnaaGreatDoor
/- Walks of layer 2's reference: texts. Conditions: they are no longer than what is borne. -/
namespace Go.Proofs.YtgcbanljifalnaaGreatDoor
open Go.RowKit
attribute [local go_sem ↓] Go.wp_at_zero Go.wp_at_succ
/-- Two texts as lists. -/
def tx (l m : List UInt8) : Int := if Op.bytesLess l m = true then -1 else if l = m then 0 else 1
theorem tx_cons (x y : UInt8) (l m : List UInt8) : tx (x :: l) (y :: m) = if x = y then tx l m else if x < y then -1 else 1 := by
  unfold tx
  by_cases h : x = y
  · subst h
    have : ¬ x < x := by simp
    simp [Op.bytesLess, this]
  · by_cases h1 : x < y
    · simp [Op.bytesLess, h, h1]
    · simp [Op.bytesLess, h, h1]
theorem tx_nil_cons (y : UInt8) (m : List UInt8) : tx [] (y :: m) = -1 := by simp [tx, Op.bytesLess]
theorem tx_cons_nil (x : UInt8) (l : List UInt8) : tx (x :: l) [] = 1 := by simp [tx, Op.bytesLess]
theorem tx_nil : tx [] [] = 0 := by simp [tx, Op.bytesLess]
theorem cmpS_tx (a b : ByteArray) : cmpS a b = tx a.data.toList b.data.toList := by
  unfold cmpS tx
  rw [ByteArray.toList_eq, ByteArray.toList_eq]
  by_cases h : a = b
  · subst h; simp
  · have h' : a.data.toList ≠ b.data.toList := fun e => h (by rw [← ByteArray.toList_eq, ← ByteArray.toList_eq] at e; exact toList_inj e)
    simp [h, h']
end Go.Proofs.YtgcbanljifalnaaGreatDoor
/- Walks of layer 2's reference: the order by definition. Conditions: the arguments read; what they are made of is in its bounds. -/
namespace Go.Proofs.YtgcbanljifalnaaGreatDoor
open Go.RowKit
attribute [local go_sem ↓] Go.wp_at_zero Go.wp_at_succ
end Go.Proofs.YtgcbanljifalnaaGreatDoor
/- The law of layer 2 wakes. No condition. -/
namespace Go.Proofs.YtgcbanljifalnaaGreatDoor
open Go.RowKit

def kA (s : ByteArray) : Tm := ⟨3, s, 0, []⟩
end Go.Proofs.YtgcbanljifalnaaGreatDoor
/- Plain laws of layer 2: of good terms the order is the one by definition. No condition. -/
namespace Go.Proofs.YtgcbanljifalnaaGreatDoor

theorem zero_orI (b : Int) : orI 0 b = b := by simp [orI]
theorem orI_ne {a : Int} (b : Int) (h : a ≠ 0) : orI a b = a := by simp [orI, h]
theorem size_zero {s : ByteArray} (h : s.size = 0) : s = ⟨#[]⟩ := by
  obtain ⟨d⟩ := s
  have : d = #[] := Array.eq_empty_of_size_eq_zero h
  rw [this]
end Go.Proofs.YtgcbanljifalnaaGreatDoor
/- Plain laws of layer 2: the order is one. No condition. -/
namespace Go.Proofs.YtgcbanljifalnaaGreatDoor

/-- What a comparison by three-way numbers must be. -/
structure Cmp (x xr : Int) (e : Prop) : Prop where
  rng : x = -1 ∨ x = 0 ∨ x = 1
  neg : xr = -x
  zero : x = 0 ↔ e
theorem cmpI_cmp (a b : Int) : Cmp (cmpI a b) (cmpI b a) (a = b) := by
  unfold cmpI
  refine ⟨?_, ?_, ?_⟩
  · (repeat' split) <;> simp
  · (repeat' split) <;> omega
  · (repeat' split) <;> omega
theorem tx_cmp : ∀ l m : List UInt8, Cmp (tx l m) (tx m l) (l = m)
  | [], [] => ⟨by simp [tx_nil], by simp [tx_nil], by simp [tx_nil]⟩
  | [], y :: m => ⟨by simp [tx_nil_cons], by simp [tx_nil_cons, tx_cons_nil], by simp [tx_nil_cons]⟩
  | x :: l, [] => ⟨by simp [tx_cons_nil], by simp [tx_nil_cons, tx_cons_nil], by simp [tx_cons_nil]⟩
  | x :: l, y :: m => by
    rw [tx_cons, tx_cons]
    by_cases h : x = y
    · subst h
      have := tx_cmp l m
      simp only [if_pos]
      exact ⟨this.rng, this.neg, by rw [this.zero]; simp⟩
    · have h' : ¬ y = x := fun e => h e.symm
      rw [if_neg h, if_neg h']
      by_cases hl : x < y
      · have : ¬ y < x := by
          rw [UInt8.lt_iff_toNat_lt] at hl ⊢; omega
        rw [if_pos hl, if_neg this]
        exact ⟨by simp, by simp, by simp [h]⟩
      · have : y < x := by
          rw [UInt8.lt_iff_toNat_lt] at hl ⊢
          have : x.toNat ≠ y.toNat := fun e => h (UInt8.toNat_inj.1 e)
          omega
        rw [if_neg hl, if_pos this]
        exact ⟨by simp, by simp, by simp [h]⟩
theorem cmpS_cmp (a b : ByteArray) : Cmp (cmpS a b) (cmpS b a) (a = b) := by
  rw [cmpS_tx, cmpS_tx]
  have := tx_cmp a.data.toList b.data.toList
  refine ⟨this.rng, this.neg, this.zero.trans ⟨fun h => ?_, fun h => by rw [h]⟩⟩
  obtain ⟨a⟩ := a
  obtain ⟨b⟩ := b
  simpa using h
theorem orI_cmp {x xr y yr : Int} {e f : Prop} (h : Cmp x xr e) (k : Cmp y yr f) : Cmp (orI x y) (orI xr yr) (e ∧ f) := by
  obtain ⟨h1, h2, h3⟩ := h
  obtain ⟨k1, k2, k3⟩ := k
  by_cases hx : x = 0
  · have hxr : xr = 0 := by omega
    subst hx
    rw [hxr, zero_orI, zero_orI]
    exact ⟨k1, k2, by rw [k3]; exact ⟨fun hf => ⟨h3.1 rfl, hf⟩, fun hf => hf.2⟩⟩
  · have hxr : xr ≠ 0 := by omega
    rw [orI_ne _ hx, orI_ne _ hxr]
    exact ⟨h1, h2, ⟨fun h0 => absurd h0 hx, fun hf => absurd (h3.2 hf.1) hx⟩⟩
mutual
theorem cmpT_cmp : ∀ t u : Tm, Cmp (cmpT t u) (cmpT u t) (t = u)
  | ⟨k, s, n, l⟩, ⟨k', s', n', l'⟩ => by
    simp only [cmpT]
    have := orI_cmp (cmpI_cmp k k') (orI_cmp (cmpI_cmp n n') (orI_cmp (cmpI_cmp l.length l'.length) (orI_cmp (cmpS_cmp s s') (cmpL_cmp l l'))))
    refine ⟨this.rng, this.neg, this.zero.trans ⟨?_, ?_⟩⟩
    · rintro ⟨rfl, rfl, _, rfl, rfl⟩; rfl
    · intro h; injection h with h1 h2 h3 h4; subst h1 h2 h3 h4; exact ⟨rfl, rfl, rfl, rfl, rfl⟩
theorem cmpL_cmp : ∀ l m : List Tm, Cmp (cmpL l m) (cmpL m l) (l = m)
  | [], [] => ⟨by simp [cmpL], by simp [cmpL], by simp [cmpL]⟩
  | [], y :: m => ⟨by simp [cmpL], by simp [cmpL], by simp [cmpL]⟩
  | x :: l, [] => ⟨by simp [cmpL], by simp [cmpL], by simp [cmpL]⟩
  | t :: ts, u :: us => by
    simp only [cmpL]
    have := orI_cmp (cmpT_cmp t u) (cmpL_cmp ts us)
    exact ⟨this.rng, this.neg, this.zero.trans (by simp)⟩
end
end Go.Proofs.YtgcbanljifalnaaGreatDoor
/- Plain laws of layer 14 (builtin): how two terms stand, as far as that is known. No condition. -/
namespace Go.Proofs.YtgcbanljifalnaaGreatDoor

theorem orI_assoc (a b c : Int) : orI (orI a b) c = orI a (orI b c) := by unfold orI; split <;> simp_all
/-- The heads of two terms. -/
def hdT (a b : Tm) : Int := fstI [cmpI a.k b.k, cmpI a.n b.n, cmpI a.l.length b.l.length, cmpS a.s b.s]
theorem hdT_zero {a b : Tm} : hdT a b = 0 ↔ a.k = b.k ∧ a.n = b.n ∧ a.l.length = b.l.length ∧ a.s = b.s := by
  have key : ∀ x y : Int, orI x y = 0 ↔ x = 0 ∧ y = 0 := fun x y => by unfold orI; split <;> simp_all
  have h1 := (cmpI_cmp a.k b.k).zero
  have h2 := (cmpI_cmp a.n b.n).zero
  have h3 := (cmpI_cmp a.l.length b.l.length).zero
  have h4 := (cmpS_cmp a.s b.s).zero
  simp only [hdT, fstI, key, h1, h2, h3, h4, and_true]
  constructor <;> (rintro ⟨a1, a2, a3, a4⟩; exact ⟨a1, a2, by omega, a4⟩)
theorem cmpT_hd (a b : Tm) : cmpT a b = orI (hdT a b) (cmpL a.l b.l) := by
  cases a; cases b
  simp only [cmpT, hdT, fstI, orI_assoc, zero_orI]
mutual
/-- How two terms stand, and whether that is known. -/
def ordT : Tm → Tm → Int × Bool
  | ⟨k, s, n, l⟩, ⟨k', s', n', l'⟩ =>
    if k = 1 ∧ k' = 1 then (0, decide (n = n'))
    else if hdT ⟨k, s, n, l⟩ ⟨k', s', n', l'⟩ ≠ 0 then (hdT ⟨k, s, n, l⟩ ⟨k', s', n', l'⟩, true)
    else ordL l l'
def ordL : List Tm → List Tm → Int × Bool
  | t :: ts, u :: us => if ordT t u = (0, true) then ordL ts us else ordT t u
  | _, _ => (0, true)
end
theorem ordT_eq (a b : Tm) : ordT a b = if a.k = 1 ∧ b.k = 1 then (0, decide (a.n = b.n)) else if hdT a b ≠ 0 then (hdT a b, true) else ordL a.l b.l := by
  cases a; cases b; simp only [ordT]
theorem ordL_at : ∀ {l m : List Tm} {j : Nat} (hj : j < l.length) (hj' : j < m.length), (∀ i, ∀ (h : i < j), ordT (l[i]'(by omega)) (m[i]'(by omega)) = (0, true)) → ordT l[j] m[j] ≠ (0, true) → ordL l m = ordT l[j] m[j]
  | t :: ts, u :: us, 0, _, _, _, h => by simp only [List.getElem_cons_zero] at h ⊢; rw [ordL, if_neg h]
  | t :: ts, u :: us, j + 1, hj, hj', h0, h => by
    simp only [List.getElem_cons_succ] at h ⊢
    have h1 := h0 0 (by omega)
    simp only [List.getElem_cons_zero] at h1
    rw [ordL, if_pos h1]
    exact ordL_at (by simpa using hj) (by simpa using hj') (fun i hi => by have := h0 (i + 1) (by omega); simpa using this) h
theorem ordL_end : ∀ {l m : List Tm}, l.length = m.length → (∀ i, ∀ (h : i < l.length) (h' : i < m.length), ordT l[i] m[i] = (0, true)) → ordL l m = (0, true)
  | [], [], _, _ => rfl
  | [], _ :: _, h, _ => by simp at h
  | _ :: _, [], h, _ => by simp at h
  | t :: ts, u :: us, h, h0 => by
    have h1 := h0 0 (by simp) (by simp)
    simp only [List.getElem_cons_zero] at h1
    rw [ordL, if_pos h1]
    exact ordL_end (by simpa using h) (fun i hi hi' => by have := h0 (i + 1) (by simpa using hi) (by simpa using hi'); simpa using this)
/-- The shape of a good term, by its kind. -/
theorem shp_kinds {t : Tm} (h : t.shp = true) : (t.k = 1 ∧ t.s = ⟨#[]⟩ ∧ t.l = []) ∨ (t.k = 2 ∧ t.s = ⟨#[]⟩ ∧ t.l = []) ∨ (t.k = 3 ∧ t.n = 0 ∧ t.l = []) ∨ (t.k = 4 ∧ t.n = 0 ∧ shpL t.l = true) := by
  obtain ⟨k, s, n, l⟩ := t
  by_cases k1 : k = 1
  · subst k1
    simp only [Tm.shp, if_pos, Bool.and_eq_true, decide_eq_true_eq] at h
    exact .inl ⟨rfl, size_zero h.1.2, h.2⟩
  by_cases k2 : k = 2
  · subst k2
    simp only [Tm.shp, if_pos, if_neg k1, Bool.and_eq_true, decide_eq_true_eq] at h
    exact .inr (.inl ⟨rfl, size_zero h.1, h.2⟩)
  by_cases k3 : k = 3
  · subst k3
    simp only [Tm.shp, if_pos, if_neg k1, if_neg k2, Bool.and_eq_true, decide_eq_true_eq] at h
    exact .inr (.inr (.inl ⟨rfl, h.1.1, h.1.2⟩))
  · simp only [Tm.shp, if_neg k1, if_neg k2, if_neg k3, Bool.and_eq_true, decide_eq_true_eq] at h
    exact .inr (.inr (.inr ⟨h.1.1.1.1, h.1.1.1.2, h.2⟩))
theorem shpL_mem : ∀ {l : List Tm}, shpL l = true → ∀ t ∈ l, t.shp = true
  | [], _, t, ht => by cases ht
  | u :: us, h, t, ht => by
    simp only [shpL, Bool.and_eq_true] at h
    rcases List.mem_cons.1 ht with e | e
    · rw [e]; exact h.1
    · exact shpL_mem h.2 t e
/-- What is known of good terms is the standard order's; what is not known is told as zero. -/
theorem ordL_cmp : ∀ (l m : List Tm), l.length = m.length → (∀ t ∈ l, ∀ u ∈ m, ((ordT t u).2 = true → (ordT t u).1 = cmpT t u) ∧ ((ordT t u).2 = false → (ordT t u).1 = 0)) → ((ordL l m).2 = true → (ordL l m).1 = cmpL l m) ∧ ((ordL l m).2 = false → (ordL l m).1 = 0)
  | [], [], _, _ => by simp [ordL, cmpL]
  | [], _ :: _, h, _ => by simp at h
  | _ :: _, [], h, _ => by simp at h
  | t :: ts, u :: us, hl, h => by
    have h1 := h t (by simp) u (by simp)
    rw [ordL, cmpL]
    by_cases hz : ordT t u = (0, true)
    · rw [if_pos hz]
      have : cmpT t u = 0 := by have := h1.1 (by rw [hz]); rw [hz] at this; exact this.symm
      rw [this, zero_orI]
      exact ordL_cmp ts us (by simpa using hl) (fun x hx y hy => h x (List.mem_cons_of_mem _ hx) y (List.mem_cons_of_mem _ hy))
    · rw [if_neg hz]
      refine ⟨fun h2 => ?_, h1.2⟩
      have h3 := h1.1 h2
      rw [h3]
      have : cmpT t u ≠ 0 := fun h4 => hz (Prod.ext (h3.trans h4) h2)
      rw [orI_ne _ this]
theorem ord_cmp (a : Tm) : ∀ b : Tm, a.shp = true → b.shp = true → ((ordT a b).2 = true → (ordT a b).1 = cmpT a b) ∧ ((ordT a b).2 = false → (ordT a b).1 = 0) := by
  refine Tm.ind (p := fun a => ∀ b : Tm, a.shp = true → b.shp = true → ((ordT a b).2 = true → (ordT a b).1 = cmpT a b) ∧ ((ordT a b).2 = false → (ordT a b).1 = 0)) ?_ a
  intro a ih b ha hb
  rw [ordT_eq]
  by_cases hv : a.k = 1 ∧ b.k = 1
  · rw [if_pos hv]
    refine ⟨fun h => ?_, fun _ => rfl⟩
    have hn : a.n = b.n := of_decide_eq_true h
    have ha' := shp_kinds ha
    have hb' := shp_kinds hb
    have : hdT a b = 0 := by
      refine hdT_zero.2 ⟨hv.1.trans hv.2.symm, hn, ?_, ?_⟩
      · rcases ha' with h | h | h | h <;> rcases hb' with h' | h' | h' | h' <;> first | omega | (rw [h.2.2, h'.2.2])
      · rcases ha' with h | h | h | h <;> rcases hb' with h' | h' | h' | h' <;> first | omega | (rw [h.2.1, h'.2.1])
    rw [cmpT_hd, this, zero_orI]
    have e1 : a.l = [] := by rcases ha' with h | h | h | h <;> first | omega | exact h.2.2
    have e2 : b.l = [] := by rcases hb' with h | h | h | h <;> first | omega | exact h.2.2
    rw [e1, e2]
    simp [cmpL]
  rw [if_neg hv, cmpT_hd]
  by_cases hz : hdT a b = 0
  · obtain ⟨e1, e2, e3, e4⟩ := hdT_zero.1 hz
    rw [if_neg (by simpa using hz), hz, zero_orI]
    by_cases k4 : a.k = 4
    · rcases shp_kinds ha with h | h | h | h
      · omega
      · omega
      · omega
      · rcases shp_kinds hb with h' | h' | h' | h'
        · omega
        · omega
        · omega
        · exact ordL_cmp a.l b.l e3 (fun t ht u hu => ih t ht u (shpL_mem h.2.2 t ht) (shpL_mem h'.2.2 u hu))
    · have hl : a.l = [] := by
        rcases shp_kinds ha with h | h | h | h
        · exact h.2.2
        · exact h.2.2
        · exact h.2.2
        · omega
      have hl' : b.l = [] := List.eq_nil_of_length_eq_zero (by rw [← e3, hl]; rfl)
      rw [hl, hl']
      simp [ordL, cmpL]
  · rw [if_pos hz, orI_ne _ hz]
    simp
theorem hdT_neg (a b : Tm) : hdT b a = -hdT a b := by
  have key : ∀ {x x' y y' : Int}, x' = -x → y' = -y → orI x' y' = -orI x y := fun {x x' y y'} h k => by subst h k; unfold orI; split <;> split <;> omega
  unfold hdT
  simp only [fstI]
  exact key (cmpI_cmp a.k b.k).neg (key (cmpI_cmp a.n b.n).neg (key (cmpI_cmp _ _).neg (key (cmpS_cmp a.s b.s).neg rfl)))
theorem ordL_neg : ∀ (l m : List Tm), l.length = m.length → (∀ t ∈ l, ∀ u ∈ m, ordT u t = (-(ordT t u).1, (ordT t u).2)) → ordL m l = (-(ordL l m).1, (ordL l m).2)
  | [], [], _, _ => rfl
  | [], _ :: _, h, _ => by simp at h
  | _ :: _, [], h, _ => by simp at h
  | t :: ts, u :: us, hl, h => by
    have h1 := h t (by simp) u (by simp)
    rw [ordL, ordL]
    by_cases hz : ordT t u = (0, true)
    · have hz' : ordT u t = (0, true) := by rw [h1, hz]; rfl
      rw [if_pos hz, if_pos hz']
      exact ordL_neg ts us (by simpa using hl) (fun x hx y hy => h x (List.mem_cons_of_mem _ hx) y (List.mem_cons_of_mem _ hy))
    · have hz' : ordT u t ≠ (0, true) := fun e => by
        rw [h1] at e
        injection e with e1 e2
        exact hz (Prod.ext (by simp only; omega) e2)
      rw [if_neg hz, if_neg hz', h1]
theorem ord_neg (a : Tm) : ∀ b : Tm, ordT b a = (-(ordT a b).1, (ordT a b).2) := by
  refine Tm.ind (p := fun a => ∀ b : Tm, ordT b a = (-(ordT a b).1, (ordT a b).2)) ?_ a
  intro a ih b
  rw [ordT_eq, ordT_eq a b]
  by_cases hv : a.k = 1 ∧ b.k = 1
  · rw [if_pos ⟨hv.2, hv.1⟩, if_pos hv]
    have : decide (b.n = a.n) = decide (a.n = b.n) := decide_eq_decide.2 ⟨Eq.symm, Eq.symm⟩
    rw [this]
    rfl
  rw [if_neg (fun h => hv ⟨h.2, h.1⟩), if_neg hv]
  have hn := hdT_neg a b
  by_cases hz : hdT a b = 0
  · have hz' : hdT b a = 0 := by omega
    rw [if_neg (by simpa using hz'), if_neg (by simpa using hz)]
    exact ordL_neg a.l b.l (hdT_zero.1 hz).2.2.1 (fun t ht u _ => ih t ht u)
  · have hz' : hdT b a ≠ 0 := by omega
    rw [if_pos hz', if_pos hz, hn]
theorem ordL_known : ∀ (l m : List Tm), (∀ t ∈ l, ∀ u ∈ m, (ordT t u).2 = true) → (ordL l m).2 = true
  | [], [], _ => rfl
  | [], _ :: _, _ => rfl
  | _ :: _, [], _ => rfl
  | t :: ts, u :: us, h => by
    rw [ordL]
    split
    · exact ordL_known ts us (fun x hx y hy => h x (List.mem_cons_of_mem _ hx) y (List.mem_cons_of_mem _ hy))
    · exact h t (by simp) u (by simp)
/-- Of terms of which one has no variables the order is known. -/
theorem ord_ground (a : Tm) : ∀ b : Tm, a.occ = [] → (ordT a b).2 = true := by
  refine Tm.ind (p := fun a => ∀ b : Tm, a.occ = [] → (ordT a b).2 = true) ?_ a
  intro a ih b hg
  rw [ordT_eq]
  have h1 : a.k ≠ 1 ∧ occL a.l = [] := by
    obtain ⟨k, s, n, l⟩ := a
    simp only [Tm.occ, List.append_eq_nil_iff] at hg
    refine ⟨fun e => ?_, hg.2⟩
    have := hg.1
    rw [if_pos e] at this
    cases this
  rw [if_neg (fun h => h1.1 h.1)]
  split
  · rfl
  · refine ordL_known a.l b.l (fun t ht u _ => ih t ht u ?_)
    have h2 := h1.2
    clear ih hg
    generalize a.l = L at h2 ht
    induction L with
    | nil => cases ht
    | cons x xs ih =>
      simp only [occL, List.append_eq_nil_iff] at h2
      rcases List.mem_cons.1 ht with e | e
      · rw [e]; exact h2.1
      · exact ih h2.2 e
theorem ord_ground' (a b : Tm) (h : b.occ = []) : (ordT a b).2 = true := by
  have := ord_ground b a h
  rw [ord_neg a b] at this
  exact this
end Go.Proofs.YtgcbanljifalnaaGreatDoor

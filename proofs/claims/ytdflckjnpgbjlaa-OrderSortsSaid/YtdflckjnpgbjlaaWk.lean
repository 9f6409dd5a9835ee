/- Walks of layer 2: the standard order. Conditions: the arguments read. -/
import Derived.Test.YtdflckjnpgbjlaaWj
set_option linter.unusedVariables false
set_option maxRecDepth 20000
set_option linter.unusedSimpArgs false
namespace Go.Proofs.Ytdflckjnpgbjlaa
open Go.RowKit

/-- The first that tells. -/
def orI (a b : Int) : Int := if a ≠ 0 then a else b
mutual
def cmpT : Tm → Tm → Int
  | ⟨k, s, n, l⟩, ⟨k', s', n', l'⟩ => orI (cmpI k k') (orI (cmpI n n') (orI (cmpI l.length l'.length) (orI (cmpS s s') (cmpL l l'))))
def cmpL : List Tm → List Tm → Int
  | [], [] => 0
  | [], _ :: _ => -1
  | _ :: _, [] => 1
  | t :: ts, u :: us => orI (cmpT t u) (cmpL ts us)
end
def fstI : List Int → Int
  | [] => 0
  | c :: cs => orI c (fstI cs)
theorem fstI_take {cs : List Int} : ∀ {j : Nat} (hj : j < cs.length), (∀ c ∈ cs.take j, c = 0) → cs[j] ≠ 0 → fstI cs = cs[j] := by
  induction cs with
  | nil => intro j hj; simp at hj
  | cons c cs ih =>
    intro j hj h0 h1
    cases j with
    | zero => simp only [List.getElem_cons_zero] at h1 ⊢; simp [fstI, orI, h1]
    | succ j =>
      simp only [List.getElem_cons_succ] at h1 ⊢
      have hc : c = 0 := h0 c (by simp)
      simp only [fstI, orI, hc, ne_eq, not_true_eq_false, if_false]
      exact ih (by simpa using hj) (fun x hx => h0 x (by simp [hx])) h1
theorem fstI_zero : ∀ {cs : List Int}, (∀ c ∈ cs, c = 0) → fstI cs = 0
  | [], _ => rfl
  | c :: cs, h => by simp [fstI, orI, h c (by simp), fstI_zero (fun x hx => h x (List.mem_cons_of_mem _ hx))]
/-- Function values. -/
def Kd.fn : Kd (Nat × Array Value) := Kd.scalar (fun p => Value.func (.func p.1) #[] p.2) (fun _ => rfl)
set_option maxHeartbeats 1600000 in
theorem first_c (fs : List (Nat × Array Value)) (cs : List Int) (hcs : cs.length = fs.length) (eg : ∀ p ∈ fs, ∀ args w, (callFunc p.1 args).run Try.prog w = .ok (.enter p.1 args) w) (v : Value) (w : World) (ok : Nat → Prop) (hv : Kd.fn.S w ok fs v)
    (H : ∀ (j : Nat) (h : j < fs.length) (W : World), Below w.heap.size w W → Calls Try.prog fs[j].1 fs[j].2 W fun e W' => e = .returned (.int .i64 (cs[j]'(by omega))) ∧ Below W.heap.size W W') :
    Calls Try.prog 84 #[v] w fun e w' => e = .returned (.int .i64 (fstI cs)) ∧ Below w.heap.size w w' := by
  obtain ⟨A, c, rfl, hl, hc, hA⟩ := hv
  unfold maxLen at hc
  go_enter Try.func84, Try.ntmps84
  go_wp2
  go_loopw [8] (fun i wr => ∃ j : Nat, j ≤ fs.length ∧ i = .int .i64 j ∧ Hid (∀ c ∈ cs.take j, c = 0) ∧ Below w.heap.size w wr) (fun i _ => fs.length - (intOf i).toNat)
  case atStart => exact ⟨0, Nat.zero_le _, rfl, Lib.hid (by simp), Below.refl _ _⟩
  case round =>
    obtain ⟨j, hj, rfl, hn, hb⟩ := hrel
    by_cases hlt : j < fs.length
    · obtain ⟨b, o, rfl, hok, hlo, h0⟩ := one_elem hA hlt
      have g0 := cell_below hb h0 hlo
      have HC := Lib.hid (H j hlt wr hb)
      have eg' := eg fs[j] (List.getElem_mem hlt)
      have HS : Hid (cs[j]'(by omega) = 0 → ∀ c ∈ cs.take (j + 1), c = 0) := Lib.hid (fun h c hc => by
        rw [take_succ_at cs (by omega), List.mem_append, List.mem_singleton] at hc
        rcases hc with hc | rfl
        · exact hn.out c hc
        · exact h)
      have HF : Hid (cs[j]'(by omega) ≠ 0 → fstI cs = cs[j]'(by omega)) := Lib.hid (fun h => fstI_take (by omega) hn.out h)
      clear hA h0 H eg hn
      generalize fs[j] = p at g0 HC eg'
      generalize cs[j]'(by omega) = x at HC HS HF
      obtain ⟨g, lb⟩ := p
      simp only at g0 HC eg'
      by_cases hx : x = 0
      · have hx' : (x != 0) = false := by simpa using hx
        go_wp2_with (refine HC.out.mono ?_; clear HC; rintro e w1 ⟨rfl, hb1⟩)
        go_roundw
        case rel => exact ⟨j + 1, by omega, by go_num, Lib.hid (HS.out hx), below_then hb hb.size hb1⟩
        case measure => simp [intOf]; omega
      · have hx' : (x != 0) = true := by simpa using hx
        go_wp2_with (refine HC.out.mono ?_; clear HC; rintro e w1 ⟨rfl, hb1⟩)
        go_ret
        exact ⟨ret_int (HF.out hx).symm, below_then hb hb.size hb1⟩
    · have HF : Hid (fstI cs = 0) := Lib.hid (fstI_zero (fun c hc => hn.out c (by rw [List.take_of_length_le (by omega)]; exact hc)))
      clear hA H eg hn
      go_wp2
      go_ret
      exact ⟨ret_int HF.out.symm, hb⟩

theorem cmpL_at : ∀ {l m : List Tm} {j : Nat} (hj : j < l.length) (hj' : j < m.length), (∀ i, ∀ (h : i < j), cmpT (l[i]'(by omega)) (m[i]'(by omega)) = 0) → cmpT l[j] m[j] ≠ 0 → cmpL l m = cmpT l[j] m[j]
  | t :: ts, u :: us, 0, _, _, _, h => by simp only [List.getElem_cons_zero] at h ⊢; simp [cmpL, orI, h]
  | t :: ts, u :: us, j + 1, hj, hj', h0, h => by
    simp only [List.getElem_cons_succ] at h ⊢
    have h00 : cmpT t u = 0 := h0 0 (by omega)
    simp only [cmpL, orI, h00, ne_eq, not_true_eq_false, if_false]
    exact cmpL_at (by simpa using hj) (by simpa using hj') (fun i hi => by have := h0 (i + 1) (by omega); simpa using this) h
theorem cmpL_end : ∀ {l m : List Tm}, (∀ i, ∀ (h : i < l.length) (h' : i < m.length), cmpT l[i] m[i] = 0) → cmpL l m = if l.length < m.length then -1 else if m.length < l.length then 1 else 0
  | [], [], _ => by simp [cmpL]
  | [], _ :: _, _ => by simp [cmpL]
  | _ :: _, [], _ => by simp [cmpL]
  | t :: ts, u :: us, h => by
    have h00 : cmpT t u = 0 := h 0 (by simp) (by simp)
    have := cmpL_end (l := ts) (m := us) (fun i hi hi' => by have := h (i + 1) (by simpa using hi) (by simpa using hi'); simpa using this)
    simp only [cmpL, orI, h00, ne_eq, not_true_eq_false, if_false, this, List.length_cons, Nat.add_lt_add_iff_right]
set_option maxHeartbeats 1600000 in
theorem cmpF_of (l : List Tm) (H : ∀ t ∈ l, ∀ (u : Tm) (w : World) (ok ok' : Nat → Prop) (v v' : Value), TmV w ok t v → TmV w ok' u v' → Calls Try.prog 51 #[v, v'] w fun e w' => e = .returned (.int .i64 (cmpT t u)) ∧ Below w.heap.size w w')
    (m : List Tm) (v v' : Value) (w : World) (ok ok' : Nat → Prop) (hv : Kd.tm.S w ok l v) (hv' : Kd.tm.S w ok' m v') :
    Calls Try.prog 94 #[v, v', .func (.func 51) #[] #[]] w fun e w' => e = .returned (.int .i64 (cmpL l m)) ∧ Below w.heap.size w w' := by
  obtain ⟨A, c, rfl, hl, hc, hA⟩ := hv
  obtain ⟨A', c', rfl, hl', hc', hA'⟩ := hv'
  unfold maxLen at hc hc'
  go_enter Try.func94, Try.ntmps94
  go_wp2
  go_loopw [13] (fun i wr => ∃ j : Nat, j ≤ l.length ∧ j ≤ m.length ∧ i = .int .i64 j ∧ Hid (∀ i, ∀ (h : i < j) (h1 : i < l.length) (h2 : i < m.length), cmpT l[i] m[i] = 0) ∧ Below w.heap.size w wr) (fun i _ => l.length - (intOf i).toNat)
  case atStart => exact ⟨0, Nat.zero_le _, Nat.zero_le _, rfl, Lib.hid (fun i h => by omega), Below.refl _ _⟩
  case round =>
    obtain ⟨j, hj, hjm, rfl, hn, hb⟩ := hrel
    by_cases hlt : j < l.length
    · obtain ⟨b, o, u, rfl, hok, hlo, h0, h1, h2, h3, h4⟩ := tm_elem hA hlt
      have g0 := cell_below hb h0 hlo
      have g1 := cell_below hb h1 hlo
      have g2 := cell_below hb h2 hlo
      have g3 := cell_below hb h3 hlo
      have k4 := h4.below hb
      obtain ⟨Au, cu, rfl⟩ := k4.form
      by_cases hlt' : j < m.length
      · obtain ⟨b', o', u', rfl, hok', hlo', h0', h1', h2', h3', h4'⟩ := tm_elem hA' hlt'
        have g0' := cell_below hb h0' hlo'
        have g1' := cell_below hb h1' hlo'
        have g2' := cell_below hb h2' hlo'
        have g3' := cell_below hb h3' hlo'
        have k4' := h4'.below hb
        have HC := Lib.hid (fun W (hW : Below wr.heap.size wr W) => H l[j] (List.getElem_mem hlt) m[j] W ok ok' _ _ ⟨_, rfl, k4.below hW⟩ ⟨u', rfl, k4'.below hW⟩)
        obtain ⟨Au', cu', rfl⟩ := k4'.form
        have hst : ∀ O O' : Obj, Below wr.heap.size wr ((wr.alloc O).alloc O') := fun O O' => ((Below.refl _ wr).alloc (Nat.le_refl _) O).alloc (by simp) O'
        have hbs := hb.size
        have p0 := fun O => cell_below ((Below.refl _ wr).alloc (Nat.le_refl _) O) g0' (by omega)
        have p1 := fun O => cell_below ((Below.refl _ wr).alloc (Nat.le_refl _) O) g1' (by omega)
        have p2 := fun O => cell_below ((Below.refl _ wr).alloc (Nat.le_refl _) O) g2' (by omega)
        have p3 := fun O => cell_below ((Below.refl _ wr).alloc (Nat.le_refl _) O) g3' (by omega)
        have HS : Hid (cmpT l[j] m[j] = 0 → ∀ i, ∀ (h : i < j + 1) (h1 : i < l.length) (h2 : i < m.length), cmpT l[i] m[i] = 0) := Lib.hid (fun h i hi h1 h2 => by
          rcases Nat.lt_or_ge i j with hij | hij
          · exact hn.out i hij h1 h2
          · have : i = j := by omega
            subst this; exact h)
        have HF : Hid (cmpT l[j] m[j] ≠ 0 → cmpL l m = cmpT l[j] m[j]) := Lib.hid (fun h => cmpL_at hlt hlt' (fun i hi => hn.out i hi _ _) h)
        have hjm' : (j : Int) < m.length := by omega
        clear hA hA' h0 h1 h2 h3 h4 h0' h1' h2' h3' h4' H hn k4 k4'
        generalize cmpT l[j] m[j] = x at HC HS HF
        by_cases hx : x = 0
        · have hx' : (x != 0) = false := by simpa using hx
          go_wp2_with (go_at_call 51; refine (HC.out _ (hst _ _)).mono ?_; clear HC; rintro e w1 ⟨rfl, hb1⟩)
          go_roundw
          case rel => exact ⟨j + 1, by omega, by omega, by go_num, Lib.hid (HS.out hx), hb.trans (((hst _ _).trans (hb1.mono (by simp; omega))).mono hbs)⟩
          case measure => simp [intOf]; omega
        · have hx' : (x != 0) = true := by simpa using hx
          go_wp2_with (go_at_call 51; refine (HC.out _ (hst _ _)).mono ?_; clear HC; rintro e w1 ⟨rfl, hb1⟩)
          go_ret
          exact ⟨ret_int (HF.out hx).symm, hb.trans (((hst _ _).trans (hb1.mono (by simp; omega))).mono hbs)⟩
      · have HF : Hid (cmpL l m = 1) := Lib.hid (by
          rw [cmpL_end (fun i hi hi' => hn.out i (by omega) hi hi'), if_neg (by omega), if_pos (by omega)])
        have hjm' : ¬ (j : Int) < m.length := by omega
        have hjm2 : (m.length : Int) ≤ j := by omega
        clear hA hA' H hn k4 h0 h1 h2 h3 h4
        go_wp2
        go_ret
        exact ⟨ret_int HF.out.symm, hb.alloc hb.size _⟩
    · by_cases hlm : l.length < m.length
      · have HF : Hid (cmpL l m = -1) := Lib.hid (by
          rw [cmpL_end (fun i hi hi' => hn.out i (by omega) hi hi'), if_pos hlm])
        have hlm' : (l.length : Int) < m.length := by omega
        clear hA hA' H hn
        go_wp2
        go_ret
        exact ⟨ret_int HF.out.symm, hb⟩
      · have HF : Hid (cmpL l m = 0) := Lib.hid (by
          rw [cmpL_end (fun i hi hi' => hn.out i (by omega) hi hi'), if_neg hlm, if_neg (by omega)])
        have hlm' : ¬ (l.length : Int) < m.length := by omega
        have hlm2 : (m.length : Int) ≤ l.length := by omega
        clear hA hA' H hn
        go_wp2
        go_ret
        exact ⟨ret_int HF.out.symm, hb⟩
end Go.Proofs.Ytdflckjnpgbjlaa

/- Walks of layer 1: are two alike, by the program's own recursion. Conditions: the arguments read. -/
import Derived.Test.YtdflckjnpgbjlaaW3
import Derived.Shelf.Abstract
set_option linter.unusedVariables false
set_option maxRecDepth 20000
set_option linter.unusedSimpArgs false
namespace Go.Proofs.Ytdflckjnpgbjlaa
open Go.RowKit

theorem EqF_of (l : List Tm) (H : ∀ t ∈ l, ∀ (u : Tm) (w : World) (ok ok' : Nat → Prop) (v v' : Value), TmV w ok t v → TmV w ok' u v' → Calls Try.prog 72 #[v, v'] w fun e w' => e = .returned (.bool (t.eqb u)) ∧ Below w.heap.size w w')
    (m : List Tm) (v v' : Value) (w : World) (ok ok' : Nat → Prop) (hv : Kd.tm.S w ok l v) (hv' : Kd.tm.S w ok' m v') :
    Calls Try.prog 71 #[v, v', .func (.func 72) #[] #[]] w fun e w' => e = .returned (.bool (eqbL l m)) ∧ Below w.heap.size w w' := by
  obtain ⟨A, c, rfl, hl, hc, hA⟩ := hv
  obtain ⟨A', c', rfl, hl', hc', hA'⟩ := hv'
  unfold maxLen at hc hc'
  by_cases hlen : l.length = m.length
  · have hne : ((l.length : Int) != m.length) = false := by simp [hlen]
    have HL := Lib.hid hlen
    clear hlen
    go_enter Try.func71, Try.ntmps71
    go_wp2
    go_loopw [17] (fun i wr => ∃ j : Nat, j ≤ l.length ∧ i = .int .i64 j ∧ Hid (l.take j = m.take j) ∧ Below w.heap.size w wr) (fun i _ => l.length - (intOf i).toNat)
    case atStart => exact ⟨0, Nat.zero_le _, rfl, Lib.hid (by simp), Below.refl _ _⟩
    case round =>
      obtain ⟨j, hj, rfl, hn, hb⟩ := hrel
      by_cases hlt : j < l.length
      · have hlt' : j < m.length := by rw [← HL.out]; exact hlt
        obtain ⟨b, o, u, rfl, hok, hlo, h0, h1, h2, h3, h4⟩ := tm_elem hA hlt
        obtain ⟨b', o', u', rfl, hok', hlo', h0', h1', h2', h3', h4'⟩ := tm_elem hA' hlt'
        have g0 := cell_below hb h0 hlo
        have g1 := cell_below hb h1 hlo
        have g2 := cell_below hb h2 hlo
        have g3 := cell_below hb h3 hlo
        have k4 := h4.below hb
        have g0' := cell_below hb h0' hlo'
        have g1' := cell_below hb h1' hlo'
        have g2' := cell_below hb h2' hlo'
        have g3' := cell_below hb h3' hlo'
        have k4' := h4'.below hb
        have HC := Lib.hid (fun W (hW : Below wr.heap.size wr W) => H l[j] (List.getElem_mem hlt) m[j] W ok ok' _ _ ⟨u, rfl, k4.below hW⟩ ⟨u', rfl, k4'.below hW⟩)
        obtain ⟨Au, cu, rfl⟩ := k4.form
        obtain ⟨Au', cu', rfl⟩ := k4'.form
        have hst : ∀ O O' : Obj, Below wr.heap.size wr ((wr.alloc O).alloc O') := fun O O' => ((Below.refl _ wr).alloc (Nat.le_refl _) O).alloc (by simp) O'
        have hyes : Hid (l[j].eqb m[j] = true → l.take (j + 1) = m.take (j + 1)) := Lib.hid (fun h => by rw [take_succ_at l hlt, take_succ_at m hlt', hn.out, (Tm.eqb_iff _ _).1 h])
        have hno : Hid (l[j].eqb m[j] = false → eqbL l m = false) := Lib.hid (fun h => by
          cases h' : eqbL l m with
          | false => rfl
          | true =>
            have e := (eqbL_iff _ _).1 h'
            subst e
            rw [(Tm.eqb_iff _ _).2 rfl] at h
            cases h)
        have hbs := hb.size
        have p0 := fun O => cell_below ((Below.refl _ wr).alloc (Nat.le_refl _) O) g0' (by omega)
        have p1 := fun O => cell_below ((Below.refl _ wr).alloc (Nat.le_refl _) O) g1' (by omega)
        have p2 := fun O => cell_below ((Below.refl _ wr).alloc (Nat.le_refl _) O) g2' (by omega)
        have p3 := fun O => cell_below ((Below.refl _ wr).alloc (Nat.le_refl _) O) g3' (by omega)
        clear hA hA' h0 h1 h2 h3 h4 h0' h1' h2' h3' h4' H hn k4 k4'
        generalize l[j].eqb m[j] = q at HC hyes hno
        cases q with
        | true =>
          go_wp2_with (go_at_call 72; refine (HC.out _ (hst _ _)).mono ?_; rintro e w1 ⟨rfl, hb1⟩)
          go_roundw
          case rel => exact ⟨j + 1, by omega, by go_num, Lib.hid (hyes.out (by simp)), hb.trans (((hst _ _).trans (hb1.mono (by simp; omega))).mono hbs)⟩
          case measure => simp [intOf]; omega
        | false =>
          go_wp2_with (go_at_call 72; refine (HC.out _ (hst _ _)).mono ?_; rintro e w1 ⟨rfl, hb1⟩)
          go_ret
          exact ⟨ret_bool (hno.out (by simp)).symm, hb.trans (((hst _ _).trans (hb1.mono (by simp; omega))).mono hbs)⟩
      · have hx := hn.out
        rw [List.take_of_length_le (by omega), List.take_of_length_le (by rw [← HL.out]; omega)] at hx
        have HX : Hid (eqbL l m = true) := Lib.hid ((eqbL_iff _ _).2 hx)
        clear hx hn hA hA' H
        go_wp2
        go_ret
        exact ⟨ret_bool HX.out.symm, hb⟩
  · have HX : Hid (eqbL l m = false) := Lib.hid (by
      cases h' : eqbL l m with
      | false => rfl
      | true => exact absurd (congrArg List.length ((eqbL_iff _ _).1 h')) hlen)
    have hne : ((l.length : Int) == m.length) = false := by rw [beq_eq_false_iff_ne]; omega
    clear hA hA' H
    go_enter Try.func71, Try.ntmps71
    go_wp2
    go_ret
    exact ⟨ret_bool HX.out.symm, Below.refl _ _⟩

theorem tSame_c (t : Tm) : ∀ (u : Tm) (w : World) (ok ok' : Nat → Prop) (v v' : Value), TmV w ok t v → TmV w ok' u v' → Calls Try.prog 72 #[v, v'] w fun e w' => e = .returned (.bool (t.eqb u)) ∧ Below w.heap.size w w' := by
  refine Tm.ind (p := fun t => ∀ (u : Tm) (w : World) (ok ok' : Nat → Prop) (v v' : Value), TmV w ok t v → TmV w ok' u v' → Calls Try.prog 72 #[v, v'] w fun e w' => e = .returned (.bool (t.eqb u)) ∧ Below w.heap.size w w') ?_ t
  intro t ih u w ok ok' v v' hv hv'
  obtain ⟨a, rfl, hs⟩ := hv
  obtain ⟨a', rfl, hs'⟩ := hv'
  have HA := Lib.hid (fun (W : World) (hW : Below w.heap.size w W) => EqF_of t.l ih u.l a a' W ok ok' (hs.below hW) (hs'.below hW))
  obtain ⟨A, c, rfl, hl, hc, hA⟩ := hs
  obtain ⟨A', c', rfl, hl', hc', hA'⟩ := hs'
  clear ih hA hA' hc hc' hl hl'
  obtain ⟨k, s, n, l⟩ := t
  obtain ⟨k', s', n', l'⟩ := u
  simp only at HA ⊢
  have hst : ∀ O O' : Obj, Below w.heap.size w ((w.alloc O).alloc O') := fun O O' => ((Below.refl _ w).alloc (Nat.le_refl _) O).alloc (by simp) O'
  by_cases e1 : k = k'
  · subst e1
    by_cases e2 : s = s'
    · subst e2
      by_cases e3 : n = n'
      · subst e3
        have HX : Hid (Tm.eqb ⟨k, s, n, l⟩ ⟨k, s, n, l'⟩ = eqbL l l') := Lib.hid (by simp [Tm.eqb])
        go_enter Try.func72, Try.ntmps72
        go_wp2_with (go_at_call 71; refine (HA.out _ (hst _ _)).mono ?_; rintro e w1 ⟨rfl, hb1⟩)
        go_ret
        exact ⟨ret_bool HX.out.symm, below_then (hst _ _) (by simp; omega) hb1⟩
      · have HX : Hid (Tm.eqb ⟨k, s, n, l⟩ ⟨k, s, n', l'⟩ = false) := Lib.hid (by simp [Tm.eqb, e3])
        have e3' : (n == n') = false := by simpa using e3
        clear HA
        go_enter Try.func72, Try.ntmps72
        go_wp2
        go_ret
        exact ⟨ret_bool HX.out.symm, hst _ _⟩
    · have HX : Hid (Tm.eqb ⟨k, s, n, l⟩ ⟨k, s', n', l'⟩ = false) := Lib.hid (by simp [Tm.eqb, e2])
      have e2' : (s.toList == s'.toList) = false := toList_ne e2
      clear HA
      go_enter Try.func72, Try.ntmps72
      go_wp2
      all_goals go_ret
      all_goals exact ⟨ret_bool HX.out.symm, hst _ _⟩
  · have HX : Hid (Tm.eqb ⟨k, s, n, l⟩ ⟨k', s', n', l'⟩ = false) := Lib.hid (by simp [Tm.eqb, e1])
    have e1' : (k == k') = false := by simpa using e1
    clear HA
    go_enter Try.func72, Try.ntmps72
    go_wp2
    all_goals go_ret
    all_goals exact ⟨ret_bool HX.out.symm, hst _ _⟩
end Go.Proofs.Ytdflckjnpgbjlaa

/- Walks of layer 1's reference and of the law's own helpers: what each call hands back, every block that was there being kept. Conditions: the arguments read; terms of at most a million nodes. -/
import Derived.Test.YtdflckjnpgbjlaaF1
import Derived.Test.YtdflckjnpgbjlaaProg
import Derived.StillTailTactics
set_option linter.unusedVariables false
set_option maxRecDepth 20000
set_option linter.unusedSimpArgs false
namespace Go.Proofs.Ytdflckjnpgbjlaa
open Go.RowKit

theorem ret_bool {a b : Bool} (h : a = b) : Ending.returned (.bool a) = .returned (.bool b) := by rw [h]
theorem ret_int {k : IntKind} {a b : Int} (h : a = b) : Ending.returned (.int k a) = .returned (.int k b) := by rw [h]
theorem below_drewc {B : Nat} {w W w1 : World} (h : Below B w W) (hB : B ≤ W.heap.size) (k : Below W.drew.heap.size W.drew w1) : Below B w w1 := below_then h.drew hB k
theorem eqbL_snoc {l m : List Tm} (h : l.length = m.length) {t u : Tm} : eqbL (l ++ [t]) (m ++ [u]) = (eqbL l m && t.eqb u) := by
  induction l generalizing m with
  | nil => cases m with
    | nil => simp [eqbL]
    | cons _ _ => simp at h
  | cons a l ih => cases m with
    | nil => simp at h
    | cons b m => simp [eqbL, ih (by simpa using h), Bool.and_assoc]
theorem eqbL_take_false : ∀ {l m : List Tm} {j : Nat} (hj : j < l.length) (hj' : j < m.length), l[j].eqb m[j] = false → eqbL l m = false
  | t :: ts, u :: us, 0, _, _, h => by simp only [List.getElem_cons_zero] at h; simp [eqbL, h]
  | t :: ts, u :: us, j + 1, hj, hj', h => by
    simp only [List.getElem_cons_succ] at h
    simp [eqbL, eqbL_take_false (by simpa using hj) (by simpa using hj') h]
theorem eqbL_length : ∀ {l m : List Tm}, l.length ≠ m.length → eqbL l m = false
  | [], [], h => absurd rfl h
  | [], _ :: _, _ => by simp [eqbL]
  | _ :: _, [], _ => by simp [eqbL]
  | t :: ts, u :: us, h => by simp [eqbL, eqbL_length (l := ts) (m := us) (by simpa using h)]

theorem toList_inj {s s' : ByteArray} (h : s.toList = s'.toList) : s = s' := by
  rw [ByteArray.toList_eq, ByteArray.toList_eq] at h
  exact WideShapes.bytes_inj h
theorem toList_ne {s s' : ByteArray} (h : s ≠ s') : (s.toList == s'.toList) = false := by
  rw [beq_eq_false_iff_ne]; exact fun x => h (toList_inj x)
theorem All_of (l : List Tm) (hS : ∀ t ∈ l, ∀ (u : Tm) (w : World) (ok ok' : Nat → Prop) (v v' : Value), TmV w ok t v → TmV w ok' u v' → Calls Try.prog 26 #[v, v'] w fun e w' => e = .returned (.bool (t.eqb u)) ∧ Below w.heap.size w w')
    (m : List Tm) (v v' : Value) (w : World) (ok ok' : Nat → Prop) (hv : Kd.tm.S w ok l v) (hv' : Kd.tm.S w ok' m v') :
    Calls Try.prog 34 #[v, v'] w fun e w' => e = .returned (.bool (eqbL l m)) ∧ Below w.heap.size w w' := by
  obtain ⟨A, c, rfl, hl, hc, hA⟩ := hv
  obtain ⟨A', c', rfl, hl', hc', hA'⟩ := hv'
  unfold maxLen at hc hc'
  by_cases hlen : l.length = m.length
  · have hne : ((l.length : Int) != m.length) = false := by simp [hlen]
    have H := Lib.hid hlen
    clear hlen
    go_enter Try.func34, Try.ntmps34
    go_wp2
    go_loopw [5] (fun i wr => ∃ j : Nat, j ≤ l.length ∧ i = .int .i64 j ∧ Hid (eqbL (l.take j) (m.take j) = true) ∧ Below w.heap.size w wr) (fun i _ => l.length - (intOf i).toNat)
    case atStart => exact ⟨0, Nat.zero_le _, rfl, Lib.hid (by simp [eqbL]), Below.refl _ _⟩
    case round =>
      obtain ⟨j, hj, rfl, hn, hb⟩ := hrel
      by_cases hlt : j < l.length
      · have hlt' : j < m.length := by rw [← H.out]; exact hlt
        obtain ⟨b, o, u, rfl, hok, hlo, h0, h1, h2, h3, h4⟩ := tm_elem hA hlt
        obtain ⟨b', o', u', rfl, hok', hlo', h0', h1', h2', h3', h4'⟩ := tm_elem hA' hlt'
        have g0 := cell_below hb h0 hlo
        have g1 := cell_below hb h1 hlo
        have g2 := cell_below hb h2 hlo
        have g3 := cell_below hb h3 hlo
        have g0' := cell_below hb h0' hlo'
        have g1' := cell_below hb h1' hlo'
        have g2' := cell_below hb h2' hlo'
        have g3' := cell_below hb h3' hlo'
        have k4 := h4.below hb
        have k4' := h4'.below hb
        clear hA hA' h0 h1 h2 h3 h0' h1' h2' h3' h4 h4'
        have HS := Lib.hid (fun (W : World) (hW : Below wr.heap.size wr W) => hS l[j] (List.getElem_mem hlt) m[j] W ok ok' _ _ ⟨u, rfl, k4.below hW⟩ ⟨u', rfl, k4'.below hW⟩)
        clear hS
        by_cases heq : l[j].eqb m[j] = true
        · have hn' : Hid (eqbL (l.take (j + 1)) (m.take (j + 1)) = true) := Lib.hid (by rw [take_succ_at l hlt, take_succ_at m hlt', eqbL_snoc (by simp; omega), hn.out, heq]; rfl)
          clear hn
          go_wp2
          go_still_tail 8, (by kernel_rfl)
          go_wp2_with (go_at_call 26; refine (HS.out _ ((Below.refl _ wr).drew)).mono ?_; rintro e w1 ⟨rfl, hb1⟩)
          go_roundw
          case rel => exact ⟨j + 1, by omega, by go_num, hn', below_drewc hb hb.size hb1⟩
          case measure => simp [intOf]; omega
        · have hx := eqbL_take_false hlt hlt' (by simpa using heq)
          have heq' : l[j].eqb m[j] = false := by simpa using heq
          have HX := Lib.hid hx
          clear hx hn heq
          go_wp2
          go_still_tail 8, (by kernel_rfl)
          go_wp2_with (go_at_call 26; refine (HS.out _ ((Below.refl _ wr).drew)).mono ?_; rintro e w1 ⟨rfl, hb1⟩)
          go_ret
          exact ⟨ret_bool HX.out.symm, below_drewc hb hb.size hb1⟩
      · clear hA hA' hS
        have hx := hn.out
        rw [List.take_of_length_le (by omega), List.take_of_length_le (by have := H.out; omega)] at hx
        have HX := Lib.hid hx
        clear hx hn
        go_wp2
        go_ret
        exact ⟨ret_bool HX.out.symm, hb⟩
  · have hne : ((l.length : Int) != m.length) = true := by simp; omega
    have HX := Lib.hid (eqbL_length hlen)
    clear hA hA' hS
    go_enter Try.func34, Try.ntmps34
    go_wp2
    go_ret
    exact ⟨ret_bool HX.out.symm, Below.refl _ _⟩

theorem Same_c (t : Tm) : ∀ (u : Tm) (w : World) (ok ok' : Nat → Prop) (v v' : Value), TmV w ok t v → TmV w ok' u v' → Calls Try.prog 26 #[v, v'] w fun e w' => e = .returned (.bool (t.eqb u)) ∧ Below w.heap.size w w' := by
  refine Tm.ind (p := fun t => ∀ (u : Tm) (w : World) (ok ok' : Nat → Prop) (v v' : Value), TmV w ok t v → TmV w ok' u v' → Calls Try.prog 26 #[v, v'] w fun e w' => e = .returned (.bool (t.eqb u)) ∧ Below w.heap.size w w') ?_ t
  intro t ih u w ok ok' v v' hv hv'
  obtain ⟨a, rfl, hs⟩ := hv
  obtain ⟨a', rfl, hs'⟩ := hv'
  have HA := Lib.hid (fun (W : World) (hW : Below w.heap.size w W) => All_of t.l ih u.l a a' W ok ok' (hs.below hW) (hs'.below hW))
  obtain ⟨A, c, rfl, hl, hc, hA⟩ := hs
  obtain ⟨A', c', rfl, hl', hc', hA'⟩ := hs'
  clear ih hA hA' hc hc' hl hl'
  obtain ⟨k, s, n, l⟩ := t
  obtain ⟨k', s', n', l'⟩ := u
  simp only at HA ⊢
  have hst : ∀ O O' : Obj, Below w.heap.size w ((w.alloc O).alloc O') := fun O O' => ((Below.refl _ w).alloc (Nat.le_refl _) O).alloc (by simp) O'
  by_cases e1 : k = k'
  · subst e1
    by_cases e2 : s = s'
    · subst e2
      by_cases e3 : n = n'
      · subst e3
        have HX : Hid (Tm.eqb ⟨k, s, n, l⟩ ⟨k, s, n, l'⟩ = eqbL l l') := Lib.hid (by simp [Tm.eqb])
        go_enter Try.func26, Try.ntmps26
        go_wp2_with (go_at_call 34; refine (HA.out _ (hst _ _)).mono ?_; rintro e w1 ⟨rfl, hb1⟩)
        go_ret
        exact ⟨ret_bool HX.out.symm, below_then (hst _ _) (by simp; omega) hb1⟩
      · have HX : Hid (Tm.eqb ⟨k, s, n, l⟩ ⟨k, s, n', l'⟩ = false) := Lib.hid (by simp [Tm.eqb, e3])
        have e3' : (n == n') = false := by simpa using e3
        clear HA
        go_enter Try.func26, Try.ntmps26
        go_wp2
        go_ret
        exact ⟨ret_bool HX.out.symm, hst _ _⟩
    · have HX : Hid (Tm.eqb ⟨k, s, n, l⟩ ⟨k, s', n', l'⟩ = false) := Lib.hid (by simp [Tm.eqb, e2])
      have e2' : (s.toList == s'.toList) = false := toList_ne e2
      clear HA
      go_enter Try.func26, Try.ntmps26
      go_wp2
      all_goals go_ret
      all_goals exact ⟨ret_bool HX.out.symm, hst _ _⟩
  · have HX : Hid (Tm.eqb ⟨k, s, n, l⟩ ⟨k', s', n', l'⟩ = false) := Lib.hid (by simp [Tm.eqb, e1])
    have e1' : (k == k') = false := by simpa using e1
    clear HA
    go_enter Try.func26, Try.ntmps26
    go_wp2
    all_goals go_ret
    all_goals exact ⟨ret_bool HX.out.symm, hst _ _⟩
theorem All_c (l m : List Tm) (v v' : Value) (w : World) (ok ok' : Nat → Prop) (hv : Kd.tm.S w ok l v) (hv' : Kd.tm.S w ok' m v') :
    Calls Try.prog 34 #[v, v'] w fun e w' => e = .returned (.bool (eqbL l m)) ∧ Below w.heap.size w w' := All_of l (fun t _ => Same_c t) m v v' w ok ok' hv hv'
end Go.Proofs.Ytdflckjnpgbjlaa

/- Walks of layer 1, third part: goodness by the reference, how many nodes, the reference's variables, structures. Conditions: the arguments read; terms of at most a million nodes. -/
import Derived.Test.YtdflckjnpgbjlaaW2
set_option linter.unusedVariables false
set_option maxRecDepth 20000
set_option linter.unusedSimpArgs false
namespace Go.Proofs.Ytdflckjnpgbjlaa
open Go.RowKit

theorem refGood_c (t : Tm) (v : Value) (w : World) (ok : Nat → Prop) (hv : TmV w ok t v) (hz : t.siz ≤ 1000000) (hwf : t.Wf) :
    Calls Try.prog 16 #[v] w fun e w' => e = .returned (.bool t.good) ∧ Below w.heap.size w w' := by
  have HD := Lib.hid (fun (W : World) (hW : Below w.heap.size w W) => Depth_c t v W ok (hv.below hW) hz)
  have HS := Lib.hid (fun (W : World) (hW : Below w.heap.size w W) => shape_c t v W ok (hv.below hW) hwf)
  obtain ⟨u, rfl, A, c, rfl, hl, hc, hA⟩ := hv
  have hst : ∀ O : Obj, Below w.heap.size w (w.alloc O) := fun O => (Below.refl _ w).alloc (Nat.le_refl _) O
  clear hl hc hA hwf hz
  by_cases hd : t.dep ≤ 64
  · have HX : Hid (t.good = t.shp) := Lib.hid (by simp [Tm.good, hd])
    have hd' : (t.dep : Int) ≤ 64 := by omega
    go_enter Try.func16, Try.ntmps16
    go_wp2_with (first | (go_at_call 54; refine (HD.out _ (hst _)).mono ?_; rintro e w1 ⟨rfl, hb1⟩; have hb2 := below_then (hst _) (by simp) hb1; have c0 : w1.cell? ⟨w.heap.size, 0, none⟩ = some (.int .u8 t.k) := cell_below hb1 (by simp) (by simp); have c1 : w1.cell? ⟨w.heap.size, 1, none⟩ = some (.string t.s) := cell_below hb1 (by simp) (by simp); have c2 : w1.cell? ⟨w.heap.size, 2, none⟩ = some (.int .i64 t.n) := cell_below hb1 (by simp) (by simp); have c3 : w1.cell? ⟨w.heap.size, 3, none⟩ = some (.slice A t.l.length c) := cell_below hb1 (by simp) (by simp)) | (go_at_call 55; refine (HS.out _ (by assumption)).mono ?_; rintro e w2 ⟨rfl, hb3⟩))
    go_ret
    exact ⟨ret_bool (by rw [HX.out]), below_then hb2 hb2.size hb3⟩
  · have HX : Hid (t.good = false) := Lib.hid (by simp [Tm.good, hd])
    have hd' : ¬ (t.dep : Int) ≤ 64 := by omega
    go_enter Try.func16, Try.ntmps16
    go_wp2_with (go_at_call 54; refine (HD.out _ (hst _)).mono ?_; rintro e w1 ⟨rfl, hb1⟩; have hb2 := below_then (hst _) (by simp) hb1)
    go_ret
    exact ⟨ret_bool (by rw [HX.out]), hb2⟩

theorem many_k (k : Nat) : ∀ (l : List Tm) (n : Nat) (v : Value) (w : World) (ok : Nat → Prop), sizL l < k → Kd.tm.S w ok l v → WfL l → n ≤ 2000000000000000 →
    Calls Try.prog 53 #[v, .int .i64 n] w fun e w' => e = .returned (.int .i64 (manyL l n : Nat)) ∧ Below w.heap.size w w' := by
  induction k with
  | zero => intro l n v w ok hk; omega
  | succ k ih =>
    intro l n v w ok hk hv hwf hn
    obtain ⟨A, c, rfl, hl, hc, hA⟩ := hv
    unfold maxLen at hc
    have hlz := length_le_sizL l
    go_enter Try.func53, Try.ntmps53
    go_wp2_with fail
    go_loopw [1, 5] (fun m i wr => ∃ j d : Nat, j ≤ l.length ∧ i = .int .i64 j ∧ m = .int .i64 d ∧ d ≤ 2000000000000000 ∧ Hid (manyL (l.drop j) d = manyL l n) ∧ Below w.heap.size w wr) (fun _ i _ => l.length - (intOf i).toNat)
    case atStart => exact ⟨0, n, Nat.zero_le _, rfl, rfl, hn, Lib.hid (by simp), Below.refl _ _⟩
    case round =>
      obtain ⟨j, d, hj, rfl, rfl, hd, hdd, hb⟩ := hrel
      by_cases hlt : j < l.length
      · by_cases hd2 : d < 2000
        · have hd2' : (d : Int) < 2000 := by omega
          obtain ⟨b, o, u, rfl, hok, hlo, h0, h1, h2, h3, h4⟩ := tm_elem hA hlt
          have g0 := cell_below hb h0 hlo
          have g1 := cell_below hb h1 hlo
          have g2 := cell_below hb h2 hlo
          have g3 := cell_below hb h3 hlo
          have k4 := h4.below hb
          have hzj := siz_mem (List.getElem_mem hlt)
          have hwj := (WfL_at hwf hlt).parts
          have hsj := hwj.2.2.1
          have hkl : sizL l[j].l < k := by
            have : l[j].siz = sizL l[j].l + 1 := by cases l[j]; rfl
            omega
          have hwl := hwj.2.2.2
          have hmj : l[j].many d = manyL l[j].l (d + 1 + l[j].s.size / 200 * 2000) := by cases l[j]; simp [Tm.many]
          have HS : Hid (∀ (W : World) (hW : Below wr.heap.size wr W), Calls Try.prog 53 #[u, .int .i64 ((d : Int) + 1 + (l[j].s.size : Int) / 200 * 2000)] W fun e w' => e = .returned (.int .i64 (l[j].many d : Nat)) ∧ Below W.heap.size W w') := Lib.hid (fun W hW => by
            have := ih l[j].l (d + 1 + l[j].s.size / 200 * 2000) u W ok hkl (k4.below hW) hwl (by omega)
            rw [hmj]
            rwa [show ((d + 1 + l[j].s.size / 200 * 2000 : Nat) : Int) = (d : Int) + 1 + (l[j].s.size : Int) / 200 * 2000 by omega] at this)
          clear hmj
          have hml := Tm.many_le l[j] d (WfL_at hwf hlt) hd2
          have hn' : Hid (manyL (l.drop (j + 1)) (l[j].many d) = manyL l n) := Lib.hid (by
            rw [← hdd.out, List.drop_eq_getElem_cons hlt]
            simp only [manyL]
            rw [if_pos hd2])
          clear hA h0 h1 h2 h3 h4 ih hwj hwl hdd hwf k4 hkl hzj
          go_wp2_with fail
          go_still_tail 16, (by kernel_rfl)
          go_wp2_with (go_at_call 53; refine (HS.out _ (Below.refl _ wr).drew).mono ?_; rintro e w1 ⟨rfl, hb1⟩)
          go_roundw
          case rel => exact ⟨j + 1, l[j].many d, by omega, by go_num, rfl, hml, hn', below_drewc hb hb.size hb1⟩
          case measure => simp [intOf]; omega
        · have hd2' : ¬ (d : Int) < 2000 := by omega
          have HX : Hid (manyL l n = d) := Lib.hid (by rw [← hdd.out, manyL_big (by omega)])
          clear hA ih hdd
          go_wp2_with fail
          go_ret
          exact ⟨ret_int (by rw [HX.out]), hb⟩
      · have HX : Hid (manyL l n = d) := Lib.hid (by rw [← hdd.out, List.drop_of_length_le (by omega)]; rfl)
        clear hA ih hdd
        go_wp2_with fail
        go_ret
        exact ⟨ret_int (by rw [HX.out]), hb⟩
theorem Great_c (l : List Tm) (v : Value) (w : World) (ok : Nat → Prop) (hv : Kd.tm.S w ok l v) (hwf : WfL l) :
    Calls Try.prog 15 #[v] w fun e w' => e = .returned (.bool (great l)) ∧ Below w.heap.size w w' := by
  have HM := Lib.hid (many_k (sizL l + 1) l 0 v w ok (Nat.lt_succ_self _) hv hwf (by omega))
  have hle := manyL_le l 0 hwf (by omega)
  have HX : Hid (great l = decide (1000 < (manyL l 0 : Int))) := Lib.hid (by rw [great, decide_eq_decide]; omega)
  generalize manyL l 0 = m at *
  go_enter Try.func15, Try.ntmps15
  go_wp2_with (go_at_call 53; refine HM.out.mono ?_; rintro e w1 ⟨rfl, hb1⟩)
  go_ret
  exact ⟨ret_bool (by rw [HX.out]), hb1⟩
end Go.Proofs.Ytdflckjnpgbjlaa

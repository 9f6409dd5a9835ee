/- Layer 22's reference: which code may be run, walked; it answers what the program's Check answers. Conditions: the arguments read; texts no longer than what is borne. -/
import Derived.Test.YtdflckjnpgbjlaaCj
import Derived.Test.YtdflckjnpgbjlaaCf
set_option linter.unusedVariables false
set_option maxRecDepth 20000
set_option linter.unusedSimpArgs false
namespace Go.Proofs.Ytdflckjnpgbjlaa
open Go.RowKit

/-- Each structure has as many parts behind it as it wants. -/
def pOK : Int → List In → Bool
  | left, [] => decide (left ≤ 0)
  | left, i :: l => if 0 < left then partB i.op && pOK (left - 1) l else !partB i.op && pOK (if argB i.op = true then i.n else 0) l
def endsL (l : List In) : Bool := match l.getLast? with | none => false | some i => endB i.op
theorem goC_pOK (n : Int) : ∀ (l : List In) (left : Int), 0 ≤ left → (∀ i ∈ l, 0 ≤ i.op) →
    (match goC n left l with | none => false | some r => decide (r ≤ 0)) = (l.all (fun i => oneB i n) && pOK left l)
  | [], left, _, _ => by simp [goC, pOK]
  | i :: l, left, h0, hop => by
    have ih := fun left h => goC_pOK n l left h (fun x hx => hop x (by simp [hx]))
    have hi := hop i (by simp)
    rw [goC]
    by_cases hc : (decide (32 ≤ i.op) || !okB i n || (partB i.op != decide (0 < left))) = true
    · rw [if_pos hc]
      simp only [Bool.or_eq_true, Bool.not_eq_true', decide_eq_true_eq, bne_iff_ne] at hc
      symm
      rw [Bool.and_eq_false_iff]
      rcases hc with (hc | hc) | hc
      · left
        rw [List.all_cons, Bool.and_eq_false_iff]
        left; unfold oneB; simp; omega
      · left
        rw [List.all_cons, Bool.and_eq_false_iff]
        left; unfold oneB; rw [hc]; simp
      · right
        rw [pOK]
        by_cases hl : 0 < left
        · rw [if_pos hl, Bool.and_eq_false_iff]
          left
          cases hp : partB i.op with
          | false => rfl
          | true => rw [hp] at hc; exact absurd (by simpa using hl) hc
        · rw [if_neg hl, Bool.and_eq_false_iff]
          left
          cases hp : partB i.op with
          | true => rfl
          | false => rw [hp] at hc; exact absurd (by simpa using hl) hc
    · rw [if_neg hc]
      simp only [Bool.or_eq_true, Bool.not_eq_true', decide_eq_true_eq, bne_iff_ne, not_or, Bool.not_eq_false, Decidable.not_not] at hc
      obtain ⟨⟨c1, c2⟩, c3⟩ := hc
      have hop0 : ¬ i.op = 0 := fun e => by rw [okB] at c2; simp [e] at c2
      have ho : oneB i n = true := by unfold oneB; rw [c2]; simp; omega
      rw [List.all_cons, ho, Bool.true_and, pOK]
      by_cases ha : argB i.op = true
      · have hn := okB_arg c2 ha
        have hp : partB i.op = false := by
          unfold argB at ha; unfold partB
          simp only [List.mem_cons, List.not_mem_nil, or_false, decide_eq_true_eq] at ha
          rcases ha with e | e | e | e <;> rw [e] <;> rfl
        have hl : ¬ 0 < left := by
          intro h; rw [hp] at c3
          have : decide (0 < left) = true := by simpa using h
          rw [this] at c3; cases c3
        rw [if_pos ha, if_neg hl, hp, if_pos ha, ih _ (by omega)]; simp
      · rw [if_neg ha, if_neg ha]
        by_cases hl : 0 < left
        · have hp : partB i.op = true := by rw [c3]; simpa using hl
          rw [if_pos hl, hp, show max (left - 1) 0 = left - 1 by omega, ih _ (by omega)]; simp
        · have hp : partB i.op = false := by rw [c3]; simpa using hl
          rw [if_neg hl, hp, show max (left - 1) 0 = 0 by omega, ih _ (by omega)]; simp
theorem checkA_eq (l : List In) (hop : ∀ i ∈ l, 0 ≤ i.op) : checkA l = (l.all (fun i => oneB i l.length) && pOK 0 l && endsL l) := by
  have h := goC_pOK l.length l 0 (by omega) hop
  unfold checkA endsL
  rw [← h]
  cases goC l.length 0 l with
  | none => rfl
  | some r => rfl
theorem part_in (n : Int) : inB n [19, 20, 21, 31] = partB n := by unfold partB inB; rw [Bool.eq_iff_iff]; simp; constructor <;> rintro (h | h | h | h) <;> simp [h]
theorem arg_in (n : Int) : inB n [18, 25, 27, 29] = argB n := by unfold argB inB; rw [Bool.eq_iff_iff]; simp; constructor <;> rintro (h | h | h | h) <;> simp [h]
theorem pOK_zero (x : In) (l : List In) : pOK 0 (x :: l) = (!partB x.op && pOK (if argB x.op = true then x.n else 0) l) := by rw [pOK, if_neg (by omega)]
theorem pOK_pos (left : Int) (h : 0 < left) (x : In) (l : List In) : pOK left (x :: l) = (partB x.op && pOK (left - 1) l) := by rw [pOK, if_pos h]
set_option maxRecDepth 100000 in
set_option maxHeartbeats 8000000 in
theorem rCheck_c (l : List In) (es : List Int) (v ve : Value) (w : World) (ok ok' : Nat → Prop) (hv : (Kd.inq .i64).S w ok l v) (he : (Kd.int .i64).S w ok' es ve) (hop : ∀ i ∈ l, 0 ≤ i.op) (hsz : ∀ i ∈ l, ∀ x ∈ i.cs, x.s.size ≤ 140737488351232) :
    Calls Try.prog 40 #[v, ve] w fun e w' => e = .returned (.int .i64 (checkC l es)) ∧ Below w.heap.size w w' := by
  have HV := Lib.hid ((Kd.S.bound hv).mono (ok' := fun b => b < w.heap.size) (fun _ h => h.2))
  have HVE := Lib.hid ((Kd.S.bound he).mono (ok' := fun b => b < w.heap.size) (fun _ h => h.2))
  obtain ⟨A, c, rfl, hl, hc, -⟩ := hv
  obtain ⟨Ae, ce, rfl, hle, hce, -⟩ := he
  unfold maxLen at hc hce
  have hb : Below w.heap.size w w := Below.refl _ _
  have HC : Hid (checkC l es = if 16384 < l.length then 3 else if checkA l && es.all (fun e => placeB e l.length) then 0 else 33) := Lib.hid rfl
  generalize checkC l es = R at HC
  by_cases hbig : (16384 : Int) < l.length
  · have HR : Hid (R = 3) := Lib.hid (by rw [HC.out, if_pos (by omega)])
    clear HV HVE
    go_enter Try.func40, Try.ntmps40
    go_wp2
    go_ret
    exact ⟨ret_int HR.out.symm, hb⟩
  have hnb : decide ((16384 : Int) < l.length) = false := by simpa using hbig
  have hll : l.length ≤ 16384 := by omega
  have HA : Hid (checkA l = (l.all (fun i => oneB i l.length) && pOK 0 l && endsL l)) := Lib.hid (checkA_eq l hop)
  replace HC : Hid (R = if checkA l && es.all (fun e => placeB e l.length) then 0 else 33) := Lib.hid (by rw [HC.out, if_neg (by omega)])
  have HRF : Hid (checkA l = false → R = 33) := Lib.hid (fun hf => by rw [HC.out, hf]; rfl)
  clear hbig
  by_cases hn0 : l.length = 0
  · have hl0 : l = [] := List.eq_nil_of_length_eq_zero hn0
    have HR33 : Hid (R = 33) := Lib.hid (HRF.out (by rw [HA.out, hl0]; simp [endsL]))
    have hz : ((l.length : Int) == 0) = true := by simpa using hl0
    have HN0 := Lib.hid hn0
    clear hn0 hl0 HRF HC HA HV HVE
    go_enter Try.func40, Try.ntmps40
    go_wp2
    go_ret
    exact ⟨ret_int HR33.out.symm, hb⟩
  have hz : ((l.length : Int) == 0) = false := by simpa using hn0
  obtain ⟨m, hm⟩ : ∃ m, l.length = m + 1 := ⟨l.length - 1, by omega⟩
  have hml : m < l.length := by omega
  have hgl : l.getLast? = some l[m] := by rw [List.getLast?_eq_getElem?, hm]; simp
  have HEL : Hid (endsL l = endB l[m].op) := Lib.hid (by unfold endsL; rw [hgl])
  have hwr : IntKind.i64.wrap ((l.length : Int) - 1) = (m : Int) := by rw [IntKind.wrap_i64]; omega
  have hmi : (m : Int) < l.length := by omega
  obtain ⟨bb, ob, eA, hok, hA⟩ : ∃ bb ob, A = some ⟨bb, ob, none⟩ ∧ bb < w.heap.size ∧ (Kd.inq .i64).At w (fun b => b < w.heap.size) l bb ob := by
    obtain ⟨A', c', e, -, -, hA⟩ := HV.out
    injection e with e1 e2 e3
    rcases hA with ⟨h, -⟩ | ⟨b, o, h1, h2, h3⟩
    · rw [h] at hml; simp at hml
    · exact ⟨b, o, e1.trans h1, h2, h3⟩
  subst eA
  have IE : ∀ j (hj : j < l.length), ∃ u, w.cell? ⟨bb, ob + j * 7, none⟩ = some (.int .i64 l[j].op) ∧ w.cell? ⟨bb, ob + j * 7 + 1, none⟩ = some (.int .i64 l[j].a) ∧ w.cell? ⟨bb, ob + j * 7 + 2, none⟩ = some (.int .i64 l[j].b) ∧ w.cell? ⟨bb, ob + j * 7 + 3, none⟩ = some (.int .u8 l[j].kd) ∧
      w.cell? ⟨bb, ob + j * 7 + 4, none⟩ = some (.string l[j].s) ∧ w.cell? ⟨bb, ob + j * 7 + 5, none⟩ = some (.int .i64 l[j].n) ∧ w.cell? ⟨bb, ob + j * 7 + 6, none⟩ = some u ∧ Kd.cs.S w (fun b => b < w.heap.size) l[j].cs u := fun j hj => by
    obtain ⟨b, o, u, e, -, -, h0, h1, h2, h3, h4, h5, h6, h7⟩ := in_elem (c := c) (.inr ⟨bb, ob, rfl, hok, hA⟩) hj
    injection e with e
    injection e with e1 e2
    subst e1 e2
    exact ⟨u, h0, h1, h2, h3, h4, h5, h6, h7⟩
  have HIE := Lib.hid IE
  clear IE hA hn0 hgl
  have hlo := hok
  obtain ⟨u0, h0, -, -, -, -, -, -, -⟩ := HIE.out m hml
  have HE := Lib.hid (rEnds_c l[m].op w)
  have HM := Lib.hid hm
  clear hm
  generalize l[m].op = lop at h0 HEL HE
  generalize endB lop = en at HEL HE
  cases en with
  | false =>
    have HR33 : Hid (R = 33) := Lib.hid (HRF.out (by rw [HA.out, HEL.out]; simp))
    clear HRF HC HA HV HVE HIE HEL
    go_enter Try.func40, Try.ntmps40
    go_wp2_with (go_at_call 38; refine HE.out.mono ?_; clear HE; rintro e w4 ⟨rfl, hb4⟩; replace hb := below_then hb hb.size hb4; clear hb4)
    go_ret
    exact ⟨ret_int HR33.out.symm, hb⟩
  | true =>
    go_enter Try.func40, Try.ntmps40
    go_wp2_with (go_at_call 38; refine HE.out.mono ?_; clear HE; rintro e w4 ⟨rfl, hb4⟩; replace hb := below_then hb hb.size hb4; clear hb4)
    clear h0 hwr
    go_loopw [5] (fun i wr => ∃ j : Nat, j ≤ l.length ∧ i = .int .i64 j ∧ Hid (∀ x ∈ l.take j, oneB x l.length = true) ∧ Below w.heap.size w wr) (fun i _ => l.length - (intOf i).toNat)
    case atStart => exact ⟨0, Nat.zero_le _, rfl, Lib.hid (by simp), hb⟩
    case round =>
      clear hb
      obtain ⟨j, hj, rfl, hall, hb⟩ := hrel
      by_cases hlt : j < l.length
      · obtain ⟨u, h0, h1, h2, h3, h4, h5, h6, h7⟩ := HIE.out j hlt
        obtain ⟨Au, cu, rfl⟩ := h7.form
        have g0 := cell_below hb h0 hlo
        have g1 := cell_below hb h1 hlo
        have g2 := cell_below hb h2 hlo
        have g3 := cell_below hb h3 hlo
        have g4 := cell_below hb h4 hlo
        have g5 := cell_below hb h5 hlo
        have g6 := cell_below hb h6 hlo
        have HO := Lib.hid (one22_c l[j] l.length (.agg #[.int .i64 l[j].op, .int .i64 l[j].a, .int .i64 l[j].b, .int .u8 l[j].kd, .string l[j].s, .int .i64 l[j].n, .slice Au l[j].cs.length cu]) wr _ ⟨_, rfl, h7.below hb⟩ (hsz _ (List.getElem_mem hlt)))
        have HN : Hid (oneB l[j] l.length = false → R = 33) := Lib.hid (fun hf => HRF.out (by
          rw [HA.out, Bool.and_eq_false_iff, Bool.and_eq_false_iff]
          left; left
          rw [List.all_eq_false]
          exact ⟨l[j], List.getElem_mem hlt, by rw [hf]; simp⟩))
        have HY : Hid (oneB l[j] l.length = true → ∀ x ∈ l.take (j + 1), oneB x l.length = true) := Lib.hid (fun h x hx => by
          rw [take_succ_at l hlt, List.mem_append, List.mem_singleton] at hx
          exact hx.elim (hall.out x) (fun e => e ▸ h))
        clear h0 h1 h2 h3 h4 h5 h6 h7 hall
        generalize oneB l[j] l.length = ov at HO HN HY
        generalize l[j] = x at g0 g1 g2 g3 g4 g5 g6 HO
        cases ov with
        | false =>
          have HR33 := Lib.hid (HN.out rfl)
          clear HN HY
          go_wp2_with (go_at_call 76; refine HO.out.mono ?_; clear HO; rintro e w5 ⟨rfl, hb4⟩; replace hb := below_then hb hb.size hb4; clear hb4)
          go_ret
          exact ⟨ret_int HR33.out.symm, hb⟩
        | true =>
          have HY2 := Lib.hid (HY.out rfl)
          clear HN HY
          go_wp2_with (go_at_call 76; refine HO.out.mono ?_; clear HO; rintro e w5 ⟨rfl, hb4⟩; replace hb := below_then hb hb.size hb4; clear hb4)
          go_roundw
          case rel => exact ⟨j + 1, by omega, by go_num, HY2, hb⟩
          case measure => simp [intOf]; omega
      · have hjl : j = l.length := by omega
        subst hjl
        have HALL : Hid (∀ x ∈ l, oneB x l.length = true) := Lib.hid (fun x hx => hall.out x (by rw [List.take_length]; exact hx))
        clear hall hlt hj
        have HA2 : Hid (checkA l = pOK 0 l) := Lib.hid (by rw [HA.out, HEL.out, List.all_eq_true.2 HALL.out]; simp)
        clear HA HEL
        go_wp2
        go_loopw [6] (fun i wr => ∃ j : Nat, j ≤ l.length ∧ i = .int .i64 j ∧ Hid (pOK 0 l = pOK 0 (l.drop j)) ∧ Below w.heap.size w wr) (fun i _ => l.length - (intOf i).toNat)
        case atStart => exact ⟨0, Nat.zero_le _, rfl, Lib.hid rfl, hb⟩
        case round =>
          clear hb
          obtain ⟨j, hj, rfl, hP, hb⟩ := hrel
          by_cases hlt : j < l.length
          · obtain ⟨u, h0, -, -, -, -, h5, -, -⟩ := HIE.out j hlt
            have g0 := cell_below hb h0 hlo
            have g5 := cell_below hb h5 hlo
            have HP := Lib.hid (show pOK 0 l = (!partB l[j].op && pOK (if argB l[j].op = true then l[j].n else 0) (l.drop (j + 1))) by rw [hP.out, List.drop_eq_getElem_cons hlt, pOK_zero])
            have HI1 := Lib.hid (fun W v h => in_c l[j].op [19, 20, 21, 31] v W (fun _ => True) h)
            have HI2 := Lib.hid (fun W v h => in_c l[j].op [18, 25, 27, 29] v W (fun _ => True) h)
            rw [part_in] at HI1
            rw [arg_in] at HI2
            have HNN : Hid (argB l[j].op = true → 1 ≤ l[j].n ∧ l[j].n ≤ 16) := Lib.hid (fun h => okB_arg (by have := HALL.out l[j] (List.getElem_mem hlt); unfold oneB at this; simp only [Bool.and_eq_true] at this; exact this.2) h)
            clear hP
            generalize partB l[j].op = pa at HP HI1
            generalize argB l[j].op = ar at HP HI2 HNN
            generalize l[j].op = xo at g0 h0 HI1 HI2
            generalize l[j].n = xn at g5 h5 HP HNN
            have m1 : Hid (0 = 0) := Lib.hid rfl
            cases pa with
            | true =>
              have HR33 : Hid (R = 33) := Lib.hid (HRF.out (by rw [HA2.out, HP.out]; rfl))
              clear HP HNN HI2
              go_wp2_with (go_at_call 74; have hx := m1.out; clear hx m1; refine (HI1.out _ _ (litI [19, 20, 21, 31] (heap_new _ (.cells #[.int .i64 19, .int .i64 20, .int .i64 21, .int .i64 31] 3)) trivial (by simp))).mono ?_; clear HI1; rintro e w6 ⟨rfl, hb4⟩; replace hb := below_then hb hb.size (below_then ((Below.refl _ _).alloc (Nat.le_refl _) (.cells #[.int .i64 19, .int .i64 20, .int .i64 21, .int .i64 31] 3)) (by simp) hb4); clear hb4; clear g0 g5; have g0 := cell_below hb h0 hlo; have g5 := cell_below hb h5 hlo)
              go_ret
              exact ⟨ret_int HR33.out.symm, hb⟩
            | false =>
              cases ar with
              | false =>
                have HP2 : Hid (pOK 0 l = pOK 0 (l.drop (j + 1))) := Lib.hid (by rw [HP.out]; simp)
                clear HP HNN
                go_wp2_with (first | (go_at_call 74; have hx := m1.out; clear hx m1; refine (HI1.out _ _ (litI [19, 20, 21, 31] (heap_new _ (.cells #[.int .i64 19, .int .i64 20, .int .i64 21, .int .i64 31] 3)) trivial (by simp))).mono ?_; clear HI1; rintro e w6 ⟨rfl, hb4⟩; replace hb := below_then hb hb.size (below_then ((Below.refl _ _).alloc (Nat.le_refl _) (.cells #[.int .i64 19, .int .i64 20, .int .i64 21, .int .i64 31] 3)) (by simp) hb4); clear hb4; clear g0 g5; have g0 := cell_below hb h0 hlo; have g5 := cell_below hb h5 hlo) | (go_at_call 74; refine (HI2.out _ _ (litI [18, 25, 27, 29] (heap_new _ (.cells #[.int .i64 18, .int .i64 25, .int .i64 27, .int .i64 29] 3)) trivial (by simp))).mono ?_; clear HI2; rintro e w7 ⟨rfl, hb4⟩; replace hb := below_then hb hb.size (below_then ((Below.refl _ _).alloc (Nat.le_refl _) (.cells #[.int .i64 18, .int .i64 25, .int .i64 27, .int .i64 29] 3)) (by simp) hb4); clear hb4; clear g0 g5; have g0 := cell_below hb h0 hlo; have g5 := cell_below hb h5 hlo))
                go_roundw
                case rel => exact ⟨j + 1, by omega, by go_num, HP2, hb⟩
                case measure => simp [intOf]; omega
              | true =>
                have hnn := HNN.out rfl
                have HP2 : Hid (pOK 0 l = pOK xn (l.drop (j + 1))) := Lib.hid (by rw [HP.out]; simp)
                clear HP HNN
                obtain ⟨nn, rfl⟩ : ∃ nn : Nat, xn = (nn : Int) := ⟨xn.toNat, by omega⟩
                have hn1 : 1 ≤ nn ∧ nn ≤ 16 := by omega
                clear hnn
                go_wp2_with (first | (go_at_call 74; have hx := m1.out; clear hx m1; refine (HI1.out _ _ (litI [19, 20, 21, 31] (heap_new _ (.cells #[.int .i64 19, .int .i64 20, .int .i64 21, .int .i64 31] 3)) trivial (by simp))).mono ?_; clear HI1; rintro e w6 ⟨rfl, hb4⟩; replace hb := below_then hb hb.size (below_then ((Below.refl _ _).alloc (Nat.le_refl _) (.cells #[.int .i64 19, .int .i64 20, .int .i64 21, .int .i64 31] 3)) (by simp) hb4); clear hb4; clear g0 g5; have g0 := cell_below hb h0 hlo; have g5 := cell_below hb h5 hlo) | (go_at_call 74; refine (HI2.out _ _ (litI [18, 25, 27, 29] (heap_new _ (.cells #[.int .i64 18, .int .i64 25, .int .i64 27, .int .i64 29] 3)) trivial (by simp))).mono ?_; clear HI2; rintro e w7 ⟨rfl, hb4⟩; replace hb := below_then hb hb.size (below_then ((Below.refl _ _).alloc (Nat.le_refl _) (.cells #[.int .i64 18, .int .i64 25, .int .i64 27, .int .i64 29] 3)) (by simp) hb4); clear hb4; clear g0 g5; have g0 := cell_below hb h0 hlo; have g5 := cell_below hb h5 hlo))
                go_loopw [8] (fun i wr => ∃ k : Nat, 1 ≤ k ∧ k ≤ nn + 1 ∧ j + k ≤ l.length ∧ i = .int .i64 k ∧ Hid (pOK 0 l = pOK ((nn : Int) - ((k : Int) - 1)) (l.drop (j + k))) ∧ Below w.heap.size w wr) (fun i _ => nn + 1 - (intOf i).toNat)
                case atStart => exact ⟨1, by omega, by omega, by omega, rfl, Lib.hid (by rw [HP2.out]; simp), hb⟩
                case round =>
                  clear hb g0 g5 HP2
                  obtain ⟨k, hk1, hk2, hk3, rfl, hP, hb⟩ := hrel
                  have hwjk : IntKind.i64.wrap ((j : Int) + k) = ((j + k : Nat) : Int) := by rw [IntKind.wrap_i64]; omega
                  by_cases hkn : k ≤ nn
                  · have hki : (k : Int) ≤ nn := by omega
                    by_cases hjk : j + k < l.length
                    · obtain ⟨u', k0, -, -, -, -, -, -, -⟩ := HIE.out (j + k) hjk
                      have g0 := cell_below hb k0 hlo
                      have HP3 := Lib.hid (show pOK 0 l = (partB l[j + k].op && pOK ((nn : Int) - ((k + 1 : Nat) : Int) + 1) (l.drop (j + (k + 1)))) by
                        rw [hP.out, List.drop_eq_getElem_cons hjk, pOK_pos _ (by omega)]
                        rw [show (nn : Int) - ((k : Int) - 1) - 1 = (nn : Int) - ((k + 1 : Nat) : Int) + 1 by omega]; rfl)
                      have HI3 := Lib.hid (fun W v h => in_c l[j + k].op [19, 20, 21, 31] v W (fun _ => True) h)
                      rw [part_in] at HI3
                      have hd1 : decide ((l.length : Int) ≤ ((j + k : Nat) : Int)) = false := by simp; omega
                      have hjki : ((j + k : Nat) : Int) < l.length := by omega
                      clear hP k0
                      generalize partB l[j + k].op = pb at HP3 HI3
                      generalize l[j + k].op = yo at g0 HI3
                      cases pb with
                      | false =>
                        have HR33 : Hid (R = 33) := Lib.hid (HRF.out (by rw [HA2.out, HP3.out]; rfl))
                        clear HP3
                        go_wp2_with (go_at_call 74; refine (HI3.out _ _ (litI [19, 20, 21, 31] (heap_new _ (.cells #[.int .i64 19, .int .i64 20, .int .i64 21, .int .i64 31] 3)) trivial (by simp))).mono ?_; clear HI3; rintro e w8 ⟨rfl, hb4⟩; replace hb := below_then hb hb.size (below_then ((Below.refl _ _).alloc (Nat.le_refl _) (.cells #[.int .i64 19, .int .i64 20, .int .i64 21, .int .i64 31] 3)) (by simp) hb4); clear hb4)
                        go_ret
                        exact ⟨ret_int HR33.out.symm, hb⟩
                      | true =>
                        have HP4 : Hid (pOK 0 l = pOK ((nn : Int) - (((k + 1 : Nat) : Int) - 1)) (l.drop (j + (k + 1)))) := Lib.hid (by rw [HP3.out, Bool.true_and, show (nn : Int) - ((k + 1 : Nat) : Int) + 1 = (nn : Int) - (((k + 1 : Nat) : Int) - 1) by omega])
                        clear HP3
                        go_wp2_with (go_at_call 74; refine (HI3.out _ _ (litI [19, 20, 21, 31] (heap_new _ (.cells #[.int .i64 19, .int .i64 20, .int .i64 21, .int .i64 31] 3)) trivial (by simp))).mono ?_; clear HI3; rintro e w8 ⟨rfl, hb4⟩; replace hb := below_then hb hb.size (below_then ((Below.refl _ _).alloc (Nat.le_refl _) (.cells #[.int .i64 19, .int .i64 20, .int .i64 21, .int .i64 31] 3)) (by simp) hb4); clear hb4)
                        go_roundw
                        case rel => exact ⟨k + 1, by omega, by omega, by omega, by go_num, HP4, hb⟩
                        case measure => simp [intOf]; omega
                    · have HR33 : Hid (R = 33) := Lib.hid (HRF.out (by rw [HA2.out, hP.out, List.drop_eq_nil_of_le (by omega), pOK]; simp; omega))
                      have hd1 : decide ((l.length : Int) ≤ ((j + k : Nat) : Int)) = true := by simp; omega
                      clear hP
                      go_wp2
                      go_ret
                      exact ⟨ret_int HR33.out.symm, hb⟩
                  · have hkk : k = nn + 1 := by omega
                    subst hkk
                    have HP4 : Hid (pOK 0 l = pOK 0 (l.drop (j + nn + 1))) := Lib.hid (by rw [hP.out, show (nn : Int) - (((nn + 1 : Nat) : Int) - 1) = 0 by omega]; rfl)
                    have hkd : decide (((nn + 1 : Nat) : Int) ≤ nn) = false := by simp; omega
                    have hwjn : IntKind.i64.wrap ((j : Int) + nn) = ((j + nn : Nat) : Int) := by rw [IntKind.wrap_i64]; omega
                    clear hP hwjk hkn
                    go_wp2
                    go_roundw
                    case rel => exact ⟨j + nn + 1, by omega, by go_num, HP4, hb⟩
                    case measure => simp [intOf]; omega
          · have HCA : Hid (checkA l = true) := Lib.hid (by rw [HA2.out, hP.out, List.drop_eq_nil_of_le (by omega)]; rfl)
            have HRE : Hid (R = if es.all (fun e => placeB e l.length) then 0 else 33) := Lib.hid (by rw [HC.out, HCA.out, Bool.true_and])
            have hjl : j = l.length := by omega
            subst hjl
            clear hP HRF HC HA2 HCA hlt hj
            go_wp2
            go_loopw [9] (fun i wr => ∃ j : Nat, j ≤ es.length ∧ i = .int .i64 j ∧ Hid (∀ e ∈ es.take j, placeB e l.length = true) ∧ Below w.heap.size w wr) (fun i _ => es.length - (intOf i).toNat)
            case atStart => exact ⟨0, Nat.zero_le _, rfl, Lib.hid (by simp), hb⟩
            case round =>
              clear hb
              obtain ⟨j, hj, rfl, hE, hb⟩ := hrel
              by_cases hlt : j < es.length
              · obtain ⟨Av, cv, eA, -, -, hAe⟩ := HVE.out
                injection eA with eA1 eA2 eA3
                subst eA1
                clear eA2 eA3
                obtain ⟨bv, ov, rfl, hbv, hlov, hcv⟩ := int_elem hAe hlt
                have k0 := cell_below hb hcv hlov
                have HN : Hid (placeB es[j] l.length = false → R = 33) := Lib.hid (fun hf => by
                  rw [HRE.out, if_neg]
                  intro h
                  have := List.all_eq_true.1 h es[j] (List.getElem_mem hlt)
                  rw [hf] at this
                  cases this)
                have HY : Hid (placeB es[j] l.length = true → ∀ x ∈ es.take (j + 1), placeB x l.length = true) := Lib.hid (fun h x hx => by
                  rw [take_succ_at es hlt, List.mem_append, List.mem_singleton] at hx
                  exact hx.elim (hE.out x) (fun e => e ▸ h))
                clear hAe hcv hE
                generalize es[j] = y at k0 HN HY
                by_cases q1 : y < 0
                · have HR33 : Hid (R = 33) := Lib.hid (HN.out (by unfold placeB; simp; omega))
                  have hd1 : decide (y < 0) = true := by simpa using q1
                  clear HN HY
                  go_wp2
                  go_ret
                  exact ⟨ret_int HR33.out.symm, hb⟩
                · have hd1 : decide (y < 0) = false := by simpa using q1
                  by_cases q2 : (l.length : Int) ≤ y
                  · have HR33 : Hid (R = 33) := Lib.hid (HN.out (by unfold placeB; simp; omega))
                    have hd2 : decide ((l.length : Int) ≤ y) = true := by simpa using q2
                    clear HN HY
                    go_wp2
                    go_ret
                    exact ⟨ret_int HR33.out.symm, hb⟩
                  · have hd2 : decide ((l.length : Int) ≤ y) = false := by simpa using q2
                    have HY2 := Lib.hid (HY.out (by unfold placeB; simp; omega))
                    clear HN HY
                    go_wp2
                    go_roundw
                    case rel => exact ⟨j + 1, by omega, by go_num, HY2, hb⟩
                    case measure => simp [intOf]; omega
              · have HR0 : Hid (R = 0) := Lib.hid (by
                  rw [HRE.out, if_pos]
                  rw [List.all_eq_true]
                  intro x hx
                  exact hE.out x (by rw [List.take_of_length_le (by omega)]; exact hx))
                clear hE
                go_wp2
                go_ret
                exact ⟨ret_int HR0.out.symm, hb⟩
end Go.Proofs.Ytdflckjnpgbjlaa

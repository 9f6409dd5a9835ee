/- Walks of layer 5: variants, shifts, counts; the law's own canonical form. Conditions: the arguments read; terms of at most a million nodes. -/
import Derived.Test.YtgoeglahmlpmeaaWf
set_option linter.unusedVariables false
set_option linter.unusedSimpArgs false
namespace Go.Proofs.Ytgoeglahmlpmeaa
open Go.RowKit

theorem Variants_c (a b : List Tm) (v v' : Value) (w : World) (ok ok' : Nat → Prop) (hv : Kd.tm.S w ok a v) (hv' : Kd.tm.S w ok' b v') (hz : sizL a ≤ 1000000) (hz' : sizL b ≤ 1000000) (hwf : WfL a) (hwf' : WfL b) :
    Calls Try.prog 42 #[v, v'] w fun e w' => e = .returned (.bool (eqbL (canL a) (canL b))) ∧ Below w.heap.size w w' := by
  have HA := Lib.hid (Canon_c a v w ok hv hz hwf)
  have HB := Lib.hid (fun W (hW : Below w.heap.size w W) => Canon_c b v' W ok' (hv'.below hW) hz' hwf')
  obtain ⟨A, c, rfl⟩ := hv.form
  obtain ⟨A', c', rfl⟩ := hv'.form
  clear hv hv'
  go_enter Try.func42, Try.ntmps42
  go_wp2_with (first
    | (go_at_call 41; refine HA.out.mono ?_; clear HA; rintro e w1 ⟨⟨r, rfl, hr⟩, hb1⟩)
    | (go_at_call 41; refine (HB.out _ hb1).mono ?_; clear HB; rintro e w2 ⟨⟨q, rfl, hq⟩, hb2⟩)
    | (go_at_call 51; refine (EqF_of (canL a) (fun t _ => tSame_c t) (canL b) _ _ _ _ _ (Kd.Own.S (Kd.Own.below hb2 hr)) (Kd.Own.S hq)).mono ?_; rintro e w3 ⟨rfl, hb3⟩))
  go_ret
  exact ⟨rfl, below_then (below_then hb1 hb1.size hb2) (Nat.le_trans hb1.size hb2.size) hb3⟩

theorem cell_of_cells {W : World} {B o : Nat} {c : Array Value} {t : TypeId} {v : Value} (h : W.heap[B]? = some (.cells c t (0, 0))) (hv : c[o]? = some v) : W.cell? ⟨B, o, none⟩ = some v := by simp [World.cell?, h, hv]
theorem shift1_c (C : Nat) (n by_ : Int) (w : World) (hC : w.cell? ⟨C, 0, none⟩ = some (.int .i64 by_)) :
    Calls Try.prog 70 #[.int .i64 n, .pointer (some ⟨C, 0, none⟩)] w fun e w' => e = .returned (.int .i64 (wrap64 (n + by_))) ∧ w' = w := by
  go_enter Try.func70, Try.ntmps70
  go_wp2
  go_ret
  exact ⟨rfl, rfl⟩
theorem most_snoc (n : Int) : ∀ (l : List Int), 0 ≤ n → most (l ++ [n]) = max (most l) n
  | [], h => by simp only [List.nil_append, most]; omega
  | x :: xs, h => by simp only [List.cons_append, most, most_snoc n xs h]; omega
theorem Max_c (l : List Int) (v : Value) (w : World) (ok : Nat → Prop) (hv : (Kd.int .i64).S w ok l v) (h0 : l ≠ []) (hp : ∀ n ∈ l, 0 ≤ n) :
    Calls Try.prog 69 #[v] w fun e w' => e = .returned (.int .i64 (most l)) ∧ Below w.heap.size w w' := by
  obtain ⟨A, c, rfl, hl, hc, hA⟩ := hv
  unfold maxLen at hc
  have hlen : 0 < l.length := List.length_pos_iff.2 h0
  obtain ⟨b, o, rfl, hok, hlo, g0⟩ := int_elem hA hlen
  rw [Nat.add_zero] at g0
  have hlt1 : decide ((l.length : Int) < 1) = false := by rw [decide_eq_false_iff_not]; omega
  have hl0 : (0 : Int) < l.length := by omega
  go_enter Try.func69, Try.ntmps69
  go_wp2
  go_loopw [3, 4] (fun m i wr => ∃ j : Nat, j ≤ l.length ∧ i = .int .i64 j ∧ 1 ≤ j ∧ m = .int .i64 (most (l.take j)) ∧ wr = w) (fun _ i _ => l.length - (intOf i).toNat)
  case atStart =>
    refine ⟨1, by omega, rfl, Nat.le_refl _, ?_, rfl⟩
    have h1 : l.take 1 = [l[0]] := by rw [take_succ_at l hlen]; simp
    have := hp _ (List.getElem_mem hlen)
    rw [h1]; simp only [most]; congr 1; omega
  case round =>
    obtain ⟨j, hj, rfl, hj1, rfl, rfl⟩ := hrel
    by_cases hlt : j < l.length
    · obtain ⟨b, o, hbo, hok, hlo, h1⟩ := int_elem hA hlt
      injection hbo with hbo
      injection hbo with e1 e2
      subst e1 e2
      have HM : Hid (most (l.take (j + 1)) = max (most (l.take j)) l[j]) := Lib.hid (by rw [take_succ_at l hlt, most_snoc _ _ (hp _ (List.getElem_mem hlt))])
      clear hA hp
      go_wp2
      refine ⟨⟨j + 1, by omega, by go_num, by omega, ?_, trivial⟩, by simp [intOf]; omega⟩
      rw [HM.out]; congr 1; split <;> omega
    · have HM : Hid (l.take j = l) := Lib.hid (List.take_of_length_le (by omega))
      clear hA hp
      go_wp2
      go_ret
      exact ⟨ret_int (by rw [HM.out]), Below.refl _ _⟩
theorem place_c (l : List Int) (n : Int) (v : Value) (w : World) (ok : Nat → Prop) (hv : (Kd.int .i64).S w ok l v) :
    Calls Try.prog 66 #[v, .int .i64 n] w fun e w' => e = .returned (.int .i64 (plc l n)) ∧ Below w.heap.size w w' := by
  obtain ⟨A, c, rfl, hl, hc, hA⟩ := hv
  unfold maxLen at hc
  go_enter Try.func66, Try.ntmps66
  go_wp2
  go_loopw [5] (fun i wr => ∃ j : Nat, j ≤ l.length ∧ i = .int .i64 j ∧ n ∉ l.take j ∧ Below w.heap.size w wr) (fun i _ => l.length - (intOf i).toNat)
  case atStart => exact ⟨0, Nat.zero_le _, rfl, by simp, Below.refl _ _⟩
  case round =>
    obtain ⟨j, hj, rfl, hn, hb⟩ := hrel
    by_cases hlt : j < l.length
    · obtain ⟨b, o, rfl, hok, hlo, h0⟩ := int_elem hA hlt
      have g0 := cell_below hb h0 hlo
      clear hA h0
      by_cases he : l[j] = n
      · have hp : Hid (plc l n = j) := Lib.hid (by
          have e : l = l.take j ++ [l[j]] ++ l.drop (j + 1) := by
            rw [← take_succ_at l hlt, List.take_append_drop]
          rw [he] at e
          rw [e, plc_append _ (by simp), plc_new hn]; rw [List.length_take]; omega)
        have he' : (l[j] == n) = true := by simpa using he
        go_wp2
        go_ret
        exact ⟨ret_int hp.out.symm, hb⟩
      · have he' : (l[j] == n) = false := by simpa using he
        have hn' : n ∉ l.take (j + 1) := by
          rw [take_succ_at l hlt, List.mem_append, List.mem_singleton]
          rintro (h | h)
          · exact hn h
          · exact he h.symm
        clear hn
        go_wp2
        go_roundw
        case rel => exact ⟨j + 1, by omega, by go_num, hn', hb⟩
        case measure => simp [intOf]; omega
    · have hp : Hid (plc l n = -1) := Lib.hid (by
        rw [List.take_of_length_le (by omega)] at hn
        exact plc_none hn)
      clear hA hn
      go_wp2
      go_ret
      exact ⟨ret_int hp.out.symm, hb⟩

set_option maxHeartbeats 1600000 in
theorem Shift_c (t : Tm) (by_ : Int) (v : Value) (w : World) (ok : Nat → Prop) (hv : TmV w ok t v) (hz : t.siz ≤ 1000000) :
    Calls Try.prog 44 #[v, .int .i64 by_] w fun e w' => (∃ r, e = .returned r ∧ TmV w' (fun b => w.heap.size ≤ b) (t.ren fun n => wrap64 (n + by_)) r) ∧ Below w.heap.size w w' := by
  have HT := Lib.hid (turn_c 70 #[.pointer (some ⟨w.heap.size + 1, 0, none⟩)] (enters_of Try.func70 (by kernel_rfl) rfl) (w.heap.size + 3) (fun _ => False) (fun k hk => hk.elim) (fun n => wrap64 (n + by_)) t.occ (fun _ W => W.cell? ⟨w.heap.size + 1, 0, none⟩ = some (.int .i64 by_))
    (fun pre W W' h hs => (cell_of_block (hs _ (by omega)) 0).trans h) (fun pre n W hj hs hp => (shift1_c _ n by_ W hj).mono (fun e W' ⟨he, h1⟩ => by subst h1; exact ⟨he, hj, Keeps.refl _ _⟩)) t)
  have hvb := TmV.bound hv
  obtain ⟨u, rfl, hS⟩ := hv
  obtain ⟨A, c, rfl⟩ := hS.form
  obtain ⟨k, s, n, l⟩ := t
  simp only at hS hvb
  obtain ⟨O1, hO1⟩ : ∃ O1 : Obj, O1 = .cells #[.int .u8 k, .string s, .int .i64 n, .slice A l.length c] 26 := ⟨_, rfl⟩
  obtain ⟨O2, hO2⟩ : ∃ O2 : Obj, O2 = .cells #[.int .i64 by_] 2 := ⟨_, rfl⟩
  obtain ⟨O3, hO3⟩ : ∃ O3 : Obj, O3 = .cells #[.int .u8 0, .string ⟨#[]⟩, .int .i64 0, .slice none 0 0] 26 := ⟨_, rfl⟩
  have hst : Below w.heap.size w (((w.alloc O1).alloc O2).alloc O3) := (((Below.refl _ w).alloc (Nat.le_refl _) O1).alloc (by simp) O2).alloc (by simp; omega) O3
  have hc1 : (((w.alloc O1).alloc O2).alloc O3).heap[w.heap.size + 1]? = some O2 := (Below.heap_alloc _ _ _ (by simp)).trans (by have := heap_new (w.alloc O1) O2; rwa [World.size_alloc] at this)
  have hc2 : (((w.alloc O1).alloc O2).alloc O3).heap[w.heap.size + 2]? = some O3 := by have := heap_new ((w.alloc O1).alloc O2) O3; rwa [World.size_alloc, World.size_alloc] at this
  have HI := Lib.hid (HT.out (.agg #[.int .u8 k, .string s, .int .i64 n, .slice A l.length c]) [] (((w.alloc O1).alloc O2).alloc O3) (fun b => ok b ∧ b < w.heap.size) (TmV.move (fun b hb => hst.block b hb.2) hvb) (fun _ _ h => h) (cell_of_cells (hc1.trans (congrArg some hO2)) rfl) (by simp) (by simp) hz)
  generalize Tm.ren (fun n => wrap64 (n + by_)) ⟨k, s, n, l⟩ = T' at HI ⊢
  obtain ⟨tk, ts, tn, tl⟩ := T'
  subst hO1 hO2 hO3
  clear HT hS hvb
  go_enter Try.func44, Try.ntmps44
  go_wp2_with (refine HI.out.mono ?_; clear HI; rintro e W5 ⟨⟨r, rfl, ru, rfl, hru⟩, hJ5, hk5⟩; obtain ⟨rA, rc, rfl⟩ := hru.form; have hr5 := (hk5.block (w.heap.size + 2) (by simp) (fun h => h)).trans hc2; obtain ⟨r0, r1, r2, r3, s0, s1, s2, s3⟩ := box4 hr5)
  have hg5 := grown_set4 W5 (w.heap.size + 2) (.int .u8 tk) (.string ts) (.int .i64 tn) (.slice rA tl.length rc)
  refine bodyPost_ret (v := .agg #[.int .u8 tk, .string ts, .int .i64 tn, .slice rA tl.length rc]) (by simp [results, Try.results44, go_sem, r0, r1, r2, r3]) rfl ⟨⟨_, rfl, _, rfl, ?_⟩, ?_⟩
  · exact Kd.S.mono (fun b hb => by simp at hb; omega) (Kd.S.grown hg5 (fun b hb he => by injection he; simp at hb; omega) hru)
  · have hk := (Keeps.of_below (S := fun _ => False) hst).trans (hk5.mono (fun i h => h.elim))
    exact (hk.grown hg5 (fun k hk => .inr (by injection hk; omega))).below

theorem most_dd (l : List Int) : ∀ n ∈ l, 0 ≤ n → n ≤ most l := by
  intro n hn h
  induction l with
  | nil => cases hn
  | cons x xs ih =>
    simp only [most]
    rcases List.mem_cons.1 hn with rfl | hn
    · omega
    · have := ih hn; omega
theorem most_mem : ∀ {l : List Int}, l ≠ [] → (∀ n ∈ l, 0 ≤ n) → most l ∈ l
  | [x], _, h => by simp only [most]; have := h x (by simp); rw [show max x (-1) = x by omega]; simp
  | x :: y :: ys, _, h => by
    have := most_mem (l := y :: ys) (by simp) (fun n hn => h n (List.mem_cons_of_mem _ hn))
    simp only [most] at this ⊢
    by_cases hx : max y (most ys) ≤ x
    · rw [show max x (max y (most ys)) = x by omega]; simp
    · rw [show max x (max y (most ys)) = max y (most ys) by omega]; exact List.mem_cons_of_mem _ this
theorem Count_c (l : List Tm) (v : Value) (w : World) (ok : Nat → Prop) (hv : Kd.tm.S w ok l v) (hz : sizL l ≤ 1000000) (hp : ∀ n ∈ occL l, 0 ≤ n ∧ n < 4611686018427387904) :
    Calls Try.prog 43 #[v] w fun e w' => e = .returned (.int .i64 (most (dd (occL l)) + 1)) ∧ Below w.heap.size w w' := by
  have HV := Lib.hid (Vars_s l v w ok hv hz)
  obtain ⟨A, c, rfl⟩ := hv.form
  have hp' : ∀ n ∈ dd (occL l), 0 ≤ n ∧ n < 4611686018427387904 := fun n hn => hp n (dd_mem.1 hn)
  generalize dd (occL l) = X at HV hp' ⊢
  clear hv hp
  by_cases h0 : X = []
  · subst h0
    have hz0 : most [] + 1 = 0 := rfl
    rw [hz0]
    clear hp' hz0
    go_enter Try.func43, Try.ntmps43
    go_wp2_with (go_at_call 20; refine HV.out.mono ?_; rintro e w1 ⟨⟨rA, rc, rfl, hr⟩, hb1⟩)
    go_ret
    exact ⟨rfl, hb1⟩
  · have hx0 : ((X.length : Int) == 0) = false := by
      rw [beq_eq_false_iff_ne]; intro h; exact h0 (List.eq_nil_of_length_eq_zero (by omega))
    have hm := most_mem h0 (fun n hn => (hp' n hn).1)
    have hm1 := (hp' _ hm).1
    have hm2 := (hp' _ hm).2
    have HM := Lib.hid (fun W ok' v (hS : (Kd.int .i64).S W ok' X v) => Max_c X v W ok' hS h0 (fun n hn => (hp' n hn).1))
    clear h0 hm hp'
    generalize most X = m at hm1 hm2 HM ⊢
    go_enter Try.func43, Try.ntmps43
    go_wp2_with (first
      | (go_at_call 20; refine HV.out.mono ?_; rintro e w1 ⟨⟨rA, rc, rfl, hr⟩, hb1⟩)
      | (go_at_call 69; refine (HM.out _ _ _ hr).mono ?_; rintro e w2 ⟨rfl, hb2⟩))
    go_ret
    exact ⟨rfl, below_then hb1 hb1.size hb2⟩
end Go.Proofs.Ytgoeglahmlpmeaa

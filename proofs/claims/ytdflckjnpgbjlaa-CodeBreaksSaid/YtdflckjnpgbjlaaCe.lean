/- Layer 22 (code): the table of operations, read; whether an instruction is an end. Conditions: the arguments read. -/
import Derived.Test.YtdflckjnpgbjlaaCd
set_option linter.unusedVariables false
set_option maxRecDepth 20000
set_option linter.unusedSimpArgs false
namespace Go.Proofs.Ytdflckjnpgbjlaa
open Go.RowKit

/-- The function that asks what an operation asks. -/
def okN : Nat → FuncId
  | 0 => 125
  | 1 => 108
  | 2 => 106
  | 3 => 109
  | 4 => 109
  | 5 => 106
  | 6 => 106
  | 7 => 106
  | 8 => 106
  | 9 => 110
  | 10 => 112
  | 11 => 112
  | 12 => 112
  | 13 => 113
  | 14 => 115
  | 15 => 116
  | 16 => 116
  | 17 => 117
  | 18 => 118
  | 19 => 122
  | 20 => 122
  | 21 => 123
  | 22 => 116
  | 23 => 116
  | 24 => 117
  | 25 => 119
  | 26 => 117
  | 27 => 118
  | 28 => 117
  | 29 => 118
  | 30 => 116
  | 31 => 122
  | _ => 0
set_option maxRecDepth 100000 in
theorem tabl_at : ∀ o : Nat, o < 32 → Try.tabl[o * 4]? = some (.func (.func (okN o)) #[] #[]) ∧ Try.tabl[o * 4 + 1]? = some (.bool (argB o)) ∧ Try.tabl[o * 4 + 2]? = some (.bool (partB o)) ∧ Try.tabl[o * 4 + 3]? = some (.bool (endB o))
  | 0, _ => ⟨by kernel_rfl, by kernel_rfl, by kernel_rfl, by kernel_rfl⟩
  | 1, _ => ⟨by kernel_rfl, by kernel_rfl, by kernel_rfl, by kernel_rfl⟩
  | 2, _ => ⟨by kernel_rfl, by kernel_rfl, by kernel_rfl, by kernel_rfl⟩
  | 3, _ => ⟨by kernel_rfl, by kernel_rfl, by kernel_rfl, by kernel_rfl⟩
  | 4, _ => ⟨by kernel_rfl, by kernel_rfl, by kernel_rfl, by kernel_rfl⟩
  | 5, _ => ⟨by kernel_rfl, by kernel_rfl, by kernel_rfl, by kernel_rfl⟩
  | 6, _ => ⟨by kernel_rfl, by kernel_rfl, by kernel_rfl, by kernel_rfl⟩
  | 7, _ => ⟨by kernel_rfl, by kernel_rfl, by kernel_rfl, by kernel_rfl⟩
  | 8, _ => ⟨by kernel_rfl, by kernel_rfl, by kernel_rfl, by kernel_rfl⟩
  | 9, _ => ⟨by kernel_rfl, by kernel_rfl, by kernel_rfl, by kernel_rfl⟩
  | 10, _ => ⟨by kernel_rfl, by kernel_rfl, by kernel_rfl, by kernel_rfl⟩
  | 11, _ => ⟨by kernel_rfl, by kernel_rfl, by kernel_rfl, by kernel_rfl⟩
  | 12, _ => ⟨by kernel_rfl, by kernel_rfl, by kernel_rfl, by kernel_rfl⟩
  | 13, _ => ⟨by kernel_rfl, by kernel_rfl, by kernel_rfl, by kernel_rfl⟩
  | 14, _ => ⟨by kernel_rfl, by kernel_rfl, by kernel_rfl, by kernel_rfl⟩
  | 15, _ => ⟨by kernel_rfl, by kernel_rfl, by kernel_rfl, by kernel_rfl⟩
  | 16, _ => ⟨by kernel_rfl, by kernel_rfl, by kernel_rfl, by kernel_rfl⟩
  | 17, _ => ⟨by kernel_rfl, by kernel_rfl, by kernel_rfl, by kernel_rfl⟩
  | 18, _ => ⟨by kernel_rfl, by kernel_rfl, by kernel_rfl, by kernel_rfl⟩
  | 19, _ => ⟨by kernel_rfl, by kernel_rfl, by kernel_rfl, by kernel_rfl⟩
  | 20, _ => ⟨by kernel_rfl, by kernel_rfl, by kernel_rfl, by kernel_rfl⟩
  | 21, _ => ⟨by kernel_rfl, by kernel_rfl, by kernel_rfl, by kernel_rfl⟩
  | 22, _ => ⟨by kernel_rfl, by kernel_rfl, by kernel_rfl, by kernel_rfl⟩
  | 23, _ => ⟨by kernel_rfl, by kernel_rfl, by kernel_rfl, by kernel_rfl⟩
  | 24, _ => ⟨by kernel_rfl, by kernel_rfl, by kernel_rfl, by kernel_rfl⟩
  | 25, _ => ⟨by kernel_rfl, by kernel_rfl, by kernel_rfl, by kernel_rfl⟩
  | 26, _ => ⟨by kernel_rfl, by kernel_rfl, by kernel_rfl, by kernel_rfl⟩
  | 27, _ => ⟨by kernel_rfl, by kernel_rfl, by kernel_rfl, by kernel_rfl⟩
  | 28, _ => ⟨by kernel_rfl, by kernel_rfl, by kernel_rfl, by kernel_rfl⟩
  | 29, _ => ⟨by kernel_rfl, by kernel_rfl, by kernel_rfl, by kernel_rfl⟩
  | 30, _ => ⟨by kernel_rfl, by kernel_rfl, by kernel_rfl, by kernel_rfl⟩
  | 31, _ => ⟨by kernel_rfl, by kernel_rfl, by kernel_rfl, by kernel_rfl⟩
  | o + 32, h => by omega
theorem okN_enters : ∀ o : Nat, o < 32 → ∀ args w, (callFunc (okN o) args).run Try.prog w = .ok (.enter (okN o) args) w
  | 0, _ => enters_of Try.func125 (by kernel_rfl) rfl
  | 1, _ => enters_of Try.func108 (by kernel_rfl) rfl
  | 2, _ => enters_of Try.func106 (by kernel_rfl) rfl
  | 3, _ => enters_of Try.func109 (by kernel_rfl) rfl
  | 4, _ => enters_of Try.func109 (by kernel_rfl) rfl
  | 5, _ => enters_of Try.func106 (by kernel_rfl) rfl
  | 6, _ => enters_of Try.func106 (by kernel_rfl) rfl
  | 7, _ => enters_of Try.func106 (by kernel_rfl) rfl
  | 8, _ => enters_of Try.func106 (by kernel_rfl) rfl
  | 9, _ => enters_of Try.func110 (by kernel_rfl) rfl
  | 10, _ => enters_of Try.func112 (by kernel_rfl) rfl
  | 11, _ => enters_of Try.func112 (by kernel_rfl) rfl
  | 12, _ => enters_of Try.func112 (by kernel_rfl) rfl
  | 13, _ => enters_of Try.func113 (by kernel_rfl) rfl
  | 14, _ => enters_of Try.func115 (by kernel_rfl) rfl
  | 15, _ => enters_of Try.func116 (by kernel_rfl) rfl
  | 16, _ => enters_of Try.func116 (by kernel_rfl) rfl
  | 17, _ => enters_of Try.func117 (by kernel_rfl) rfl
  | 18, _ => enters_of Try.func118 (by kernel_rfl) rfl
  | 19, _ => enters_of Try.func122 (by kernel_rfl) rfl
  | 20, _ => enters_of Try.func122 (by kernel_rfl) rfl
  | 21, _ => enters_of Try.func123 (by kernel_rfl) rfl
  | 22, _ => enters_of Try.func116 (by kernel_rfl) rfl
  | 23, _ => enters_of Try.func116 (by kernel_rfl) rfl
  | 24, _ => enters_of Try.func117 (by kernel_rfl) rfl
  | 25, _ => enters_of Try.func119 (by kernel_rfl) rfl
  | 26, _ => enters_of Try.func117 (by kernel_rfl) rfl
  | 27, _ => enters_of Try.func118 (by kernel_rfl) rfl
  | 28, _ => enters_of Try.func117 (by kernel_rfl) rfl
  | 29, _ => enters_of Try.func118 (by kernel_rfl) rfl
  | 30, _ => enters_of Try.func116 (by kernel_rfl) rfl
  | 31, _ => enters_of Try.func122 (by kernel_rfl) rfl
  | o + 32, h => by omega
theorem okN_c (i : In) (n : Int) (v : Value) (w : World) (ok : Nat → Prop) (hv : InV .u8 w ok i v) : ∀ o : Nat, o < 32 → i.op = (o : Int) → Calls Try.prog (okN o) #[v, .int .i64 n] w fun e w' => e = .returned (.bool (okB i n)) ∧ Below w.heap.size w w'
  | 0, _, h => (all8_c i n v w ok hv).mono (fun e w' ⟨he, hb⟩ => ⟨he.trans (ret_bool (by rw [okB]; simp [h])), hb⟩)
  | 1, _, h => (all2_c i n v w ok hv).mono (fun e w' ⟨he, hb⟩ => ⟨he.trans (ret_bool (by rw [okB]; simp [h])), hb⟩)
  | 2, _, h => (plain_c i n v w ok hv).mono (fun e w' ⟨he, hb⟩ => ⟨he.trans (ret_bool (by rw [okB]; simp [h])), hb⟩)
  | 3, _, h => (jump_c i n v w ok hv).mono (fun e w' ⟨he, hb⟩ => ⟨he.trans (ret_bool (by rw [okB]; simp [h])), hb⟩)
  | 4, _, h => (jump_c i n v w ok hv).mono (fun e w' ⟨he, hb⟩ => ⟨he.trans (ret_bool (by rw [okB]; simp [h])), hb⟩)
  | 5, _, h => (plain_c i n v w ok hv).mono (fun e w' ⟨he, hb⟩ => ⟨he.trans (ret_bool (by rw [okB]; simp [h])), hb⟩)
  | 6, _, h => (plain_c i n v w ok hv).mono (fun e w' ⟨he, hb⟩ => ⟨he.trans (ret_bool (by rw [okB]; simp [h])), hb⟩)
  | 7, _, h => (plain_c i n v w ok hv).mono (fun e w' ⟨he, hb⟩ => ⟨he.trans (ret_bool (by rw [okB]; simp [h])), hb⟩)
  | 8, _, h => (plain_c i n v w ok hv).mono (fun e w' ⟨he, hb⟩ => ⟨he.trans (ret_bool (by rw [okB]; simp [h])), hb⟩)
  | 9, _, h => (all3_c i n v w ok hv).mono (fun e w' ⟨he, hb⟩ => ⟨he.trans (ret_bool (by rw [okB]; simp [h])), hb⟩)
  | 10, _, h => (choice_c i n v w ok hv).mono (fun e w' ⟨he, hb⟩ => ⟨he.trans (ret_bool (by rw [okB]; simp [h])), hb⟩)
  | 11, _, h => (choice_c i n v w ok hv).mono (fun e w' ⟨he, hb⟩ => ⟨he.trans (ret_bool (by rw [okB]; simp [h])), hb⟩)
  | 12, _, h => (choice_c i n v w ok hv).mono (fun e w' ⟨he, hb⟩ => ⟨he.trans (ret_bool (by rw [okB]; simp [h])), hb⟩)
  | 13, _, h => (all4_c i n v w ok hv).mono (fun e w' ⟨he, hb⟩ => ⟨he.trans (ret_bool (by rw [okB]; simp [h])), hb⟩)
  | 14, _, h => (all5_c i n v w ok hv).mono (fun e w' ⟨he, hb⟩ => ⟨he.trans (ret_bool (by rw [okB]; simp [h])), hb⟩)
  | 15, _, h => (two_c i n v w ok hv).mono (fun e w' ⟨he, hb⟩ => ⟨he.trans (ret_bool (by rw [okB]; simp [h])), hb⟩)
  | 16, _, h => (two_c i n v w ok hv).mono (fun e w' ⟨he, hb⟩ => ⟨he.trans (ret_bool (by rw [okB]; simp [h])), hb⟩)
  | 17, _, h => (getConst_c i n v w ok hv).mono (fun e w' ⟨he, hb⟩ => ⟨he.trans (ret_bool (by rw [okB]; simp [h])), hb⟩)
  | 18, _, h => (getStruct_c i n v w ok hv).mono (fun e w' ⟨he, hb⟩ => ⟨he.trans (ret_bool (by rw [okB]; simp [h])), hb⟩)
  | 19, _, h => (one_c i n v w ok hv).mono (fun e w' ⟨he, hb⟩ => ⟨he.trans (ret_bool (by rw [okB]; simp [h])), hb⟩)
  | 20, _, h => (one_c i n v w ok hv).mono (fun e w' ⟨he, hb⟩ => ⟨he.trans (ret_bool (by rw [okB]; simp [h])), hb⟩)
  | 21, _, h => (all7_c i n v w ok hv).mono (fun e w' ⟨he, hb⟩ => ⟨he.trans (ret_bool (by rw [okB]; simp [h])), hb⟩)
  | 22, _, h => (two_c i n v w ok hv).mono (fun e w' ⟨he, hb⟩ => ⟨he.trans (ret_bool (by rw [okB]; simp [h])), hb⟩)
  | 23, _, h => (two_c i n v w ok hv).mono (fun e w' ⟨he, hb⟩ => ⟨he.trans (ret_bool (by rw [okB]; simp [h])), hb⟩)
  | 24, _, h => (getConst_c i n v w ok hv).mono (fun e w' ⟨he, hb⟩ => ⟨he.trans (ret_bool (by rw [okB]; simp [h])), hb⟩)
  | 25, _, h => (all6_c i n v w ok hv).mono (fun e w' ⟨he, hb⟩ => ⟨he.trans (ret_bool (by rw [okB]; simp [h])), hb⟩)
  | 26, _, h => (getConst_c i n v w ok hv).mono (fun e w' ⟨he, hb⟩ => ⟨he.trans (ret_bool (by rw [okB]; simp [h])), hb⟩)
  | 27, _, h => (getStruct_c i n v w ok hv).mono (fun e w' ⟨he, hb⟩ => ⟨he.trans (ret_bool (by rw [okB]; simp [h])), hb⟩)
  | 28, _, h => (getConst_c i n v w ok hv).mono (fun e w' ⟨he, hb⟩ => ⟨he.trans (ret_bool (by rw [okB]; simp [h])), hb⟩)
  | 29, _, h => (getStruct_c i n v w ok hv).mono (fun e w' ⟨he, hb⟩ => ⟨he.trans (ret_bool (by rw [okB]; simp [h])), hb⟩)
  | 30, _, h => (two_c i n v w ok hv).mono (fun e w' ⟨he, hb⟩ => ⟨he.trans (ret_bool (by rw [okB]; simp [h])), hb⟩)
  | 31, _, h => (one_c i n v w ok hv).mono (fun e w' ⟨he, hb⟩ => ⟨he.trans (ret_bool (by rw [okB]; simp [h])), hb⟩)
  | o + 32, h, _ => by omega
theorem tabl_ext (o : Nat) (h : o < 32) : Try.tabl.extract (o * 4) (o * 4 + 4) = #[.func (.func (okN o)) #[] #[], .bool (argB o), .bool (partB o), .bool (endB o)] := by
  obtain ⟨h0, h1, h2, h3⟩ := tabl_at o h
  apply Array.ext_getElem?
  intro k
  rw [Array.getElem?_extract]
  rw [tabl_size]
  match k with
  | 0 => simpa [show min (o * 4 + 4) 128 - o * 4 = 4 by omega] using h0
  | 1 => simpa [show min (o * 4 + 4) 128 - o * 4 = 4 by omega] using h1
  | 2 => simpa [show min (o * 4 + 4) 128 - o * 4 = 4 by omega] using h2
  | 3 => simpa [show min (o * 4 + 4) 128 - o * 4 = 4 by omega] using h3
  | k + 4 => simp; omega
theorem run_index_tab {T : Array Value} {o : Nat} {a b c d : Value} {w : World} (hts : T.size = 128) (ho : o < 32) (hext : T.extract (o * 4) (o * 4 + 4) = #[a, b, c, d]) : (Instr.index 122 (.agg T) (.int .u8 o)).run Try.prog w = .ok (.agg #[a, b, c, d]) w := by
  have ho' : (o : Int) < 32 := by omega
  have ha : (isAgg 121).run Try.prog w = .ok true w := by kernel_rfl
  have hs : (sizeOf 121).run Try.prog w = .ok 4 w := by kernel_rfl
  simp [Instr.index, run_underlying Try.underlying122, asIntOf, ho', part, ha, hs, hext, hts]
  intro h; omega
theorem run_field_tab {a b c d : Value} {w : World} : (Instr.field 121 (.agg #[a, b, c, d]) 3).run Try.prog w = .ok d w := by kernel_rfl
theorem cell_drew {w : World} {a : Addr} {v : Value} (h : w.cell? a = some v) : w.drew.cell? a = some v := h
set_option maxRecDepth 100000 in
set_option maxHeartbeats 4000000 in
theorem Ends_c (i : In) (v : Value) (w : World) (ok : Nat → Prop) (hv : InV .u8 w ok i v) (h0 : 0 ≤ i.op) : Calls Try.prog 37 #[v] w fun e w' => e = .returned (.bool (endB i.op)) ∧ Below w.heap.size w w' := by
  obtain ⟨u, rfl, hS⟩ := hv
  obtain ⟨A, c, rfl⟩ := hS.form
  obtain ⟨o, ho⟩ : ∃ o : Nat, i.op = (o : Int) := ⟨i.op.toNat, by omega⟩
  clear h0 hS
  rw [ho]
  have HW : Hid (Below w.heap.size w (w.alloc (.cells #[.int .u8 o, .int .i64 i.a, .int .i64 i.b, .int .u8 i.kd, .string i.s, .int .i64 i.n, .slice A i.cs.length c] 65)) ∧ (w.alloc (.cells #[.int .u8 o, .int .i64 i.a, .int .i64 i.b, .int .u8 i.kd, .string i.s, .int .i64 i.n, .slice A i.cs.length c] 65)).cell? ⟨w.heap.size, 0, none⟩ = some (.int .u8 o)) := Lib.hid ⟨(Below.refl _ w).alloc (Nat.le_refl _) _, (box7 (heap_new w (.cells #[.int .u8 o, .int .i64 i.a, .int .i64 i.b, .int .u8 i.kd, .string i.s, .int .i64 i.n, .slice A i.cs.length c] 65))).1⟩
  have hEN : Hid (o < 32 → Try.tabl.extract (o * 4) (o * 4 + 4) = #[.func (.func (okN o)) #[] #[], .bool (argB o), .bool (partB o), .bool (endB o)]) := Lib.hid (tabl_ext o)
  have hEF : Hid (¬ o < 32 → endB o = false) := Lib.hid (fun h => by unfold endB; simp; omega)
  generalize endB o = en at hEN hEF ⊢
  generalize argB o = ar at hEN
  generalize partB o = pa at hEN
  have hen := fun h => hEF.out h
  clear hEF
  go_enter Try.func37, Try.ntmps37
  go_wp2
  revert HW
  generalize w.alloc (.cells #[.int .u8 o, .int .i64 i.a, .int .i64 i.b, .int .u8 i.kd, .string i.s, .int .i64 i.n, .slice A i.cs.length c] 65) = W1
  intro HW
  obtain ⟨hb, hx0⟩ := HW.out
  clear HW
  by_cases hlt : o < 32
  · have hlt' : (o : Int) < 32 := by omega
    have hd : decide ((o : Int) < 32) = true := by simpa using hlt'
    have hext := hEN.out hlt
    have hts := tabl_size
    clear hEN hen
    refine wp_region_held_drew (S := (fun W => W.cell? ⟨w.heap.size, 0, none⟩ = some (.int .u8 o))) (by kernel_rfl) ?_ (fun hHeld => ?_)
    · exact cell_drew hx0
    change wpAnyH _ .any _ _ _ 11 (Array.replicate 11 false) _ _
    refine wpAnyH_take (i := 0) (oi := ⟨some 3, _, _, _, _, _⟩) (v := ?_) rfl (by kernel_rfl) (by kernel_rfl) (by kernel_rfl) (fun _ _ _ h => h) (Or.inl ⟨by rfl, ?_⟩) (by assumption) ?_
    rotate_left
    · (intro w hSw; (try dsimp only at hSw); go_simp; try (with_reducible rfl))
    (try simp only [Act.put, List.setIfInBounds_toArray, List.set_cons_zero, List.set_cons_succ])
    refine wpAnyH_take (i := 1) (oi := ⟨some 4, _, _, _, _, _⟩) (v := ?_) rfl (by kernel_rfl) (by kernel_rfl) (by kernel_rfl) (fun _ _ _ h => h) (Or.inl ⟨by rfl, ?_⟩) (by assumption) ?_
    rotate_left
    · (intro w hSw; (try dsimp only at hSw); go_simp; try (with_reducible rfl))
    (try simp only [Act.put, List.setIfInBounds_toArray, List.set_cons_zero, List.set_cons_succ])
    refine wpAnyH_take (i := 2) (oi := ⟨some 5, _, _, _, _, _⟩) (v := ?_) rfl (by kernel_rfl) (by kernel_rfl) (by kernel_rfl) (fun _ _ _ h => h) (Or.inl ⟨by rfl, ?_⟩) (by assumption) ?_
    rotate_left
    · (intro w hSw; (try dsimp only at hSw); go_simp; try (with_reducible rfl))
    (try simp only [Act.put, List.setIfInBounds_toArray, List.set_cons_zero, List.set_cons_succ])
    (try simp only [hd])
    refine wpAnyH_take (i := 3) (oi := ⟨some 6, _, _, _, _, _⟩) (v := ?_) rfl (by kernel_rfl) (by kernel_rfl) (by kernel_rfl) (fun _ _ _ h => h) (Or.inl ⟨by rfl, ?_⟩) (by assumption) ?_
    rotate_left
    · (intro w hSw; (try dsimp only at hSw); go_simp; try (with_reducible rfl))
    (try simp only [Act.put, List.setIfInBounds_toArray, List.set_cons_zero, List.set_cons_succ])
    refine wpAnyH_take (i := 5) (oi := ⟨some 8, _, _, _, _, _⟩) (v := ?_) rfl (by kernel_rfl) (by kernel_rfl) (by kernel_rfl) (fun _ _ _ h => h) (Or.inl ⟨by rfl, ?_⟩) (by assumption) ?_
    rotate_left
    · (intro w hSw; (try dsimp only at hSw); go_simp; try (with_reducible rfl))
    (try simp only [Act.put, List.setIfInBounds_toArray, List.set_cons_zero, List.set_cons_succ])
    refine wpAnyH_take (i := 6) (oi := ⟨some 9, _, _, _, _, _⟩) (v := ?_) rfl (by kernel_rfl) (by kernel_rfl) (by kernel_rfl) (fun _ _ _ h => h) (Or.inl ⟨by rfl, ?_⟩) (by assumption) ?_
    rotate_left
    · (intro w hSw; (try dsimp only at hSw); go_simp; try (with_reducible rfl))
    (try simp only [Act.put, List.setIfInBounds_toArray, List.set_cons_zero, List.set_cons_succ])
    refine wpAnyH_ready (rs := [4]) (by kernel_rfl) (by simp) ?_
    refine AllReadyH.cons (o := ⟨some 7, _, _, _, _, _⟩) rfl (fun K hK => ?_) AllReadyH.nil
    go_simp
    go_at_call 73
    refine (all_c _).mono ?_
    rintro e w2 ⟨rfl, hb1⟩
    go_wp2_with fail
    have hrf := @run_field_tab
    have hri := fun w => run_index_tab (w := w) hts hlt hext
    generalize Try.tabl = T at hri hK ⊢
    clear hext hts
    refine hK.out _ _ (cell_below hb1 (cell_drew hx0) (cell_lt (cell_drew hx0))) (fun hHeld => ?_)
    clear hK K
    (try simp only [Act.put, List.setIfInBounds_toArray, List.set_cons_zero, List.set_cons_succ])
    refine wpAnyH_take (i := 7) (oi := ⟨some 10, _, _, _, _, _⟩) (v := ?_) rfl (by kernel_rfl) (by kernel_rfl) (by kernel_rfl) (fun _ _ _ h => h) (Or.inl ⟨by rfl, ?_⟩) (by assumption) ?_
    rotate_left
    · (intro w hSw; (try dsimp only at hSw); go_simp; try (with_reducible rfl))
    (try simp only [Act.put, List.setIfInBounds_toArray, List.set_cons_zero, List.set_cons_succ])
    refine wpAnyH_take (i := 8) (oi := ⟨some 11, _, _, _, _, _⟩) (v := ?_) rfl (by kernel_rfl) (by kernel_rfl) (by kernel_rfl) (fun _ _ _ h => h) (Or.inl ⟨by rfl, ?_⟩) (by assumption) ?_
    rotate_left
    · (intro w hSw; (try dsimp only at hSw); go_simp; try (with_reducible rfl))
    (try simp only [Act.put, List.setIfInBounds_toArray, List.set_cons_zero, List.set_cons_succ])
    refine wpAnyH_take (i := 9) (oi := ⟨some 12, _, _, _, _, _⟩) (v := ?_) rfl (by kernel_rfl) (by kernel_rfl) (by kernel_rfl) (fun _ _ _ h => h) (Or.inl ⟨by rfl, ?_⟩) (by assumption) ?_
    rotate_left
    · (intro w hSw; (try dsimp only at hSw); go_simp; try (with_reducible rfl))
    (try simp only [Act.put, List.setIfInBounds_toArray, List.set_cons_zero, List.set_cons_succ])
    refine wpAnyH_take (i := 10) (oi := ⟨some 2, _, _, _, _, _⟩) (v := ?_) rfl (by kernel_rfl) (by kernel_rfl) (by kernel_rfl) (fun _ _ _ h => h) (Or.inl ⟨by rfl, ?_⟩) (by assumption) ?_
    rotate_left
    · (intro w hSw; (try dsimp only at hSw); go_simp; try (with_reducible rfl))
    (try simp only [Act.put, List.setIfInBounds_toArray, List.set_cons_zero, List.set_cons_succ])
    refine wpAnyH_done (by kernel_rfl) ?_ _
    go_wp2
    go_ret
    exact ⟨rfl, below_then hb hb.size (below_then (Below.refl _ W1).drew (Nat.le_refl _) hb1)⟩
  · have hlt' : ¬ (o : Int) < 32 := by omega
    have hd : decide ((o : Int) < 32) = false := by simpa using hlt'
    replace hen := hen hlt
    clear hEN
    subst hen
    refine wp_region_held_drew (S := (fun W => W.cell? ⟨w.heap.size, 0, none⟩ = some (.int .u8 o))) (by kernel_rfl) ?_ (fun hHeld => ?_)
    · exact cell_drew hx0
    change wpAnyH _ .any _ _ _ 11 (Array.replicate 11 false) _ _
    refine wpAnyH_take (i := 0) (oi := ⟨some 3, _, _, _, _, _⟩) (v := ?_) rfl (by kernel_rfl) (by kernel_rfl) (by kernel_rfl) (fun _ _ _ h => h) (Or.inl ⟨by rfl, ?_⟩) (by assumption) ?_
    rotate_left
    · (intro w hSw; (try dsimp only at hSw); go_simp; try (with_reducible rfl))
    (try simp only [Act.put, List.setIfInBounds_toArray, List.set_cons_zero, List.set_cons_succ])
    refine wpAnyH_take (i := 1) (oi := ⟨some 4, _, _, _, _, _⟩) (v := ?_) rfl (by kernel_rfl) (by kernel_rfl) (by kernel_rfl) (fun _ _ _ h => h) (Or.inl ⟨by rfl, ?_⟩) (by assumption) ?_
    rotate_left
    · (intro w hSw; (try dsimp only at hSw); go_simp; try (with_reducible rfl))
    (try simp only [Act.put, List.setIfInBounds_toArray, List.set_cons_zero, List.set_cons_succ])
    refine wpAnyH_take (i := 2) (oi := ⟨some 5, _, _, _, _, _⟩) (v := ?_) rfl (by kernel_rfl) (by kernel_rfl) (by kernel_rfl) (fun _ _ _ h => h) (Or.inl ⟨by rfl, ?_⟩) (by assumption) ?_
    rotate_left
    · (intro w hSw; (try dsimp only at hSw); go_simp; try (with_reducible rfl))
    (try simp only [Act.put, List.setIfInBounds_toArray, List.set_cons_zero, List.set_cons_succ])
    (try simp only [hd])
    refine wpAnyH_take (i := 3) (oi := ⟨some 6, _, _, _, _, _⟩) (v := ?_) rfl (by kernel_rfl) (by kernel_rfl) (by kernel_rfl) (fun _ _ _ h => h) (Or.inl ⟨by rfl, ?_⟩) (by assumption) ?_
    rotate_left
    · (intro w hSw; (try dsimp only at hSw); go_simp; try (with_reducible rfl))
    (try simp only [Act.put, List.setIfInBounds_toArray, List.set_cons_zero, List.set_cons_succ])
    refine wpAnyH_take (i := 4) (oi := ⟨some 7, _, _, _, _, _⟩) rfl (by kernel_rfl) (by kernel_rfl) (by kernel_rfl) (fun _ _ _ h => h) (Or.inr ⟨by rfl, rfl⟩) (by assumption) ?_
    (try simp only [Act.put, List.setIfInBounds_toArray, List.set_cons_zero, List.set_cons_succ])
    refine wpAnyH_take (i := 5) (oi := ⟨some 8, _, _, _, _, _⟩) rfl (by kernel_rfl) (by kernel_rfl) (by kernel_rfl) (fun _ _ _ h => h) (Or.inr ⟨by rfl, rfl⟩) (by assumption) ?_
    (try simp only [Act.put, List.setIfInBounds_toArray, List.set_cons_zero, List.set_cons_succ])
    refine wpAnyH_take (i := 6) (oi := ⟨some 9, _, _, _, _, _⟩) rfl (by kernel_rfl) (by kernel_rfl) (by kernel_rfl) (fun _ _ _ h => h) (Or.inr ⟨by rfl, rfl⟩) (by assumption) ?_
    (try simp only [Act.put, List.setIfInBounds_toArray, List.set_cons_zero, List.set_cons_succ])
    refine wpAnyH_take (i := 7) (oi := ⟨some 10, _, _, _, _, _⟩) rfl (by kernel_rfl) (by kernel_rfl) (by kernel_rfl) (fun _ _ _ h => h) (Or.inr ⟨by rfl, rfl⟩) (by assumption) ?_
    (try simp only [Act.put, List.setIfInBounds_toArray, List.set_cons_zero, List.set_cons_succ])
    refine wpAnyH_take (i := 8) (oi := ⟨some 11, _, _, _, _, _⟩) rfl (by kernel_rfl) (by kernel_rfl) (by kernel_rfl) (fun _ _ _ h => h) (Or.inr ⟨by rfl, rfl⟩) (by assumption) ?_
    (try simp only [Act.put, List.setIfInBounds_toArray, List.set_cons_zero, List.set_cons_succ])
    refine wpAnyH_take (i := 9) (oi := ⟨some 12, _, _, _, _, _⟩) (v := ?_) rfl (by kernel_rfl) (by kernel_rfl) (by kernel_rfl) (fun _ _ _ h => h) (Or.inl ⟨by rfl, ?_⟩) (by assumption) ?_
    rotate_left
    · (intro w hSw; (try dsimp only at hSw); go_simp; try (with_reducible rfl))
    (try simp only [Act.put, List.setIfInBounds_toArray, List.set_cons_zero, List.set_cons_succ])
    refine wpAnyH_take (i := 10) (oi := ⟨some 2, _, _, _, _, _⟩) (v := ?_) rfl (by kernel_rfl) (by kernel_rfl) (by kernel_rfl) (fun _ _ _ h => h) (Or.inl ⟨by rfl, ?_⟩) (by assumption) ?_
    rotate_left
    · (intro w hSw; (try dsimp only at hSw); go_simp; try (with_reducible rfl))
    (try simp only [Act.put, List.setIfInBounds_toArray, List.set_cons_zero, List.set_cons_succ])
    refine wpAnyH_done (by kernel_rfl) ?_ _
    go_wp2
    go_ret
    exact ⟨rfl, hb.drew⟩
end Go.Proofs.Ytdflckjnpgbjlaa

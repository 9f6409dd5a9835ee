import Derived.Test.YtgcbanljifalnaaDoorPo17
set_option linter.unusedVariables false
set_option maxRecDepth 20000
set_option linter.unusedSimpArgs false
/- Layer 12 (check): the map of the builtins' predicates, walked. Conditions: the library's table of blanks is laid as its text says. -/
namespace Go.Proofs.YtgcbanljifalnaaDoor
open Go.RowKit Go.WideMaps

theorem prdLaw : KeyLaw Tryd.prog 75 := Go.deep_law_gate (by kernel_rfl) (of_decide_eq_true (by kernel_rfl)) (of_decide_eq_true (by kernel_rfl)) (by kernel_rfl) (by kernel_rfl)
theorem prd_key {s : ByteArray} {n : Int} (hs : s.size ≤ maxLen) (hn : (Lit.int .i64 n).wf = true) : ∃ l, keyOf Tryd.prog 75 (.agg #[.string s, .int .i64 n]) = some l := by
  have hk : Tryd.prog.keyType 75 = true := by kernel_rfl
  have hc : Tryd.prog.cellsOf 75 = 2 := by kernel_rfl
  have hc1 : Tryd.prog.cellsOf 9 = 1 := by kernel_rfl
  have hc2 : Tryd.prog.cellsOf 3 = 1 := by kernel_rfl
  have hu := Tryd.underlying75
  have hu1 := Tryd.underlying9
  have hu2 := Tryd.underlying3
  obtain ⟨m, hz⟩ : ∃ m, Tryd.prog.types.size + 1 = m + 1 + 1 := ⟨Tryd.prog.types.size - 1, by
    have : 0 < Tryd.prog.types.size := of_decide_eq_true (by kernel_rfl)
    omega⟩
  generalize Tryd.prog = P at *
  unfold keyOf
  rw [hz, hu]
  dsimp only
  simp [hk, hc, Value.formed, hu, Program.keyLits, hu1, hu2, hc1, hc2, hs, hn, Value.cells]
/-- A predicate as a key. -/
def prd (x : List UInt8) (n : Int) : Value := .agg #[.string ⟨x.toArray⟩, .int .i64 n]
theorem prd_inj {x y : List UInt8} {n m : Int} (h : prd x n = prd y m) : x = y ∧ n = m := by
  unfold prd at h
  simp at h
  exact h
/-- Keys that are predicates. -/
def Prds (L : List (Value × Value)) : Prop := ∀ p ∈ L, ∃ x n, p.1 = prd x n ∧ x.length ≤ 1000 ∧ 0 ≤ n ∧ n ≤ 9
theorem Prds.key {L : List (Value × Value)} (h : Prds L) : ∀ p ∈ L, ∃ l, keyOf Tryd.prog 75 p.1 = some l := fun p hp => by
  obtain ⟨x, n, e, h1, h2, h3⟩ := h p hp
  rw [e]
  exact prd_key (by simp [ByteArray.size, maxLen]; omega) (by simp [Lit.wf, IntKind.min, IntKind.max, IntKind.signed, IntKind.bits]; omega)
def prdE (n : Int) (X : List (List UInt8)) : List (Value × Value) := X.map (fun x => (prd x n, .bool true))
/-! ### walked -/
theorem prdE_snoc (n : Int) (X : List (List UInt8)) {j : Nat} (hj : j < X.length) : prdE n (X.take (j + 1)) = prdE n (X.take j) ++ [(prd X[j] n, .bool true)] := by
  rw [take_succ_at X hj, prdE, List.map_append]; rfl
theorem Prds.more {L : List (Value × Value)} (h : Prds L) {n : Int} (hn : 0 ≤ n ∧ n ≤ 9) {X : List (List UInt8)} (hX : ∀ x ∈ X, x.length ≤ 1000) : Prds (L ++ prdE n X) := fun p hp => by
  rcases List.mem_append.1 hp with hp | hp
  · exact h p hp
  · obtain ⟨x, hx, e⟩ := List.mem_map.1 hp
    rw [← e]
    exact ⟨x, n, rfl, hX x hx, hn⟩
set_option maxHeartbeats 4000000 in
theorem preds_c (b : Nat) (L : List (Value × Value)) (n : Int) (names : ByteArray) (X : List (List UInt8)) (w : World) (hM : Mp w b L) (hP : Prds L) (hX : Lib.fields names.data.toList = X) (hs : names.size ≤ 1000) (ha : ∀ b ∈ names.data.toList, b.toNat < 128)
    (hT : Lib.TabIs Tryd.prog w "strings.asciiSpace" .u8 Lib.asciiSpaceTab) (hn : 0 ≤ n ∧ n ≤ 9) (hXl : ∀ x ∈ X, x.length ≤ 1000) (hXn : X.length ≤ 1000) (hd : X.Nodup) (hN : ∀ p ∈ L, ∀ x ∈ X, p.1 ≠ prd x n) :
    Calls Tryd.prog 93 #[.map (some b), .int .i64 n, .string names] w fun e w' => e = .returned (.tuple #[]) ∧ Mp w' b (L ++ prdE n X) ∧ w.grownBy w' (some b) := by
  have hF := Tryd.strings_Fields names w (by omega) (fun j b hb => ha b (List.mem_of_getElem? hb)) hT
  rw [hX] at hF
  have hlt := hM.lt
  obtain ⟨W1, hW1⟩ : ∃ W1, W1 = w.alloc (.cells (X.map fun l => Value.string ⟨l.toArray⟩).toArray 9) := ⟨_, rfl⟩
  rw [← hW1] at hF
  have hB1 : Below w.heap.size w W1 := by rw [hW1]; exact (Below.refl _ w).alloc (Nat.le_refl _) _
  have hz1 : W1.heap.size = w.heap.size + 1 := by rw [hW1]; simp
  have hrow : ∀ j (hj : j < X.length), W1.cell? ⟨w.heap.size, j, none⟩ = some (.string ⟨X[j].toArray⟩) := fun j hj => by
    rw [hW1]
    unfold World.cell?
    simp only
    rw [heap_alloc_new]
    simp [hj]
  have HROW := Lib.hid hrow
  have HF := Lib.hid hF
  have HM1 := Lib.hid (hM.below hB1 hlt)
  have HP := Lib.hid hP
  have HXl := Lib.hid hXl
  have HD := Lib.hid hd
  have HN := Lib.hid hN
  have HB1 := Lib.hid hB1
  clear hrow hF hM hP hXl hd hN hB1 hX ha hT hW1
  go_enter Tryd.func93, Tryd.ntmps93
  go_wp2_with (go_at_call 113; refine HF.out.mono ?_; clear HF; rintro e w1 ⟨rfl, hw1⟩; rw [hw1]; clear hw1 w1)
  go_loopw [11] (fun s11 wr => ∃ j : Nat, j ≤ X.length ∧ s11 = .int .i64 j ∧ Hid (Mp wr b (L ++ prdE n (X.take j))) ∧ Hid (W1.grownBy wr (some b))) (fun s11 _ => X.length - (intOf s11).toNat)
  case atStart => exact ⟨0, Nat.zero_le _, rfl, Lib.hid (by simpa [prdE] using HM1.out), Lib.hid (gnone (Below.refl _ _))⟩
  case round =>
    obtain ⟨j, hj, rfl, hm, hg⟩ := hrel
    by_cases hlt2 : j < X.length
    · have hc : wr.cell? ⟨w.heap.size, j, none⟩ = some (.string ⟨X[j].toArray⟩) := (cell_of_block (hg.out.block _ (by omega) (fun e => by injection e; omega)) j).trans (HROW.out j hlt2)
      have hmem := List.getElem_mem hlt2
      have hsz : (⟨X[j].toArray⟩ : ByteArray).size ≤ maxLen := by have := HXl.out _ hmem; simp [ByteArray.size, maxLen]; omega
      obtain ⟨lk, hlk⟩ := prd_key (s := ⟨X[j].toArray⟩) (n := n) hsz (by simp [Lit.wf, IntKind.min, IntKind.max, IntKind.signed, IntKind.bits]; omega)
      obtain ⟨W2, e2, m2, g2⟩ := Mp.put_new prdLaw Tryd.underlying94 hm.out (k := prd X[j] n) (v := .bool true) ((HP.out.more hn (fun x hx => HXl.out x (List.mem_of_mem_take hx))).key) hlk (fun p hp => by
        rcases List.mem_append.1 hp with hp | hp
        · exact HN.out p hp _ hmem
        · obtain ⟨x, hx, e⟩ := List.mem_map.1 hp
          rw [← e]
          intro e3
          have e4 := (prd_inj e3).1
          obtain ⟨i, hi, e5⟩ := List.mem_iff_getElem.1 hx
          simp only [List.length_take] at hi
          simp only [List.getElem_take] at e5
          have := (List.getElem_inj (i := i) (j := j) (h₀ := by omega) (h₁ := hlt2) HD.out).1 (e5.trans e4)
          omega)
      have HM2 := Lib.hid (show Mp W2 b (L ++ prdE n (X.take (j + 1))) by rw [prdE_snoc n X hlt2, ← List.append_assoc]; exact m2)
      have HG2 := Lib.hid (hg.out.trans g2)
      unfold prd at e2
      clear hm hg m2 g2 hlk hmem hsz
      go_wp2
      go_roundw
      case rel => exact ⟨j + 1, by omega, by go_num, HM2, HG2⟩
      case measure => simp [intOf]; omega
    · have hj2 : j = X.length := by omega
      have hm2 := hm.out
      rw [hj2, List.take_length] at hm2
      have HM2 := Lib.hid hm2
      clear hm hm2
      go_wp2
      go_end0
      exact ⟨rfl, HM2.out, gbelow2 HB1.out hg.out⟩
def X0 : List (List UInt8) := [[116, 114, 117, 101], [102, 97, 105, 108]]
def X1 : List (List UInt8) := [[118, 97, 114], [110, 111, 110, 118, 97, 114], [97, 116, 111, 109], [105, 110, 116, 101, 103, 101, 114], [97, 116, 111, 109, 105, 99], [99, 111, 109, 112, 111, 117, 110, 100]]
def X2 : List (List UInt8) := [[61], [92, 61], [61, 61], [92, 61, 61], [64, 60], [64, 62], [64, 61, 60], [64, 62, 61], [105, 115], [61, 58, 61], [61, 92, 61], [60], [62], [61, 60], [62, 61]]
/-- The builtins' predicates. -/
def PL : List (Value × Value) := prdE 0 X0 ++ prdE 1 X1 ++ prdE 2 X2
theorem prd_apart {n : Int} {X : List (List UInt8)} {L : List (Value × Value)} (h : ∀ p ∈ L, ∃ x m, p.1 = prd x m ∧ m ≠ n) : ∀ p ∈ L, ∀ x ∈ X, p.1 ≠ prd x n := fun p hp x _ e => by
  obtain ⟨y, m, e1, h1⟩ := h p hp
  rw [e1] at e
  exact h1 (prd_inj e).2
theorem prdE_form {n : Int} {X : List (List UInt8)} : ∀ p ∈ prdE n X, ∃ x, x ∈ X ∧ p = (prd x n, .bool true) := fun p hp => by
  obtain ⟨x, hx, e⟩ := List.mem_map.1 hp
  exact ⟨x, hx, e.symm⟩
theorem apart2 : ∀ p ∈ (([] : List (Value × Value)) ++ prdE 0 X0) ++ prdE 1 X1, ∀ x ∈ X2, p.1 ≠ prd x 2 := prd_apart (fun p hp => by
  rw [List.nil_append] at hp
  rcases List.mem_append.1 hp with hp | hp
  · obtain ⟨x, _, e⟩ := prdE_form p hp
    exact ⟨x, 0, by rw [e], by omega⟩
  · obtain ⟨x, _, e⟩ := prdE_form p hp
    exact ⟨x, 1, by rw [e], by omega⟩)
theorem tab_below {w W : World} (h : Lib.TabIs Tryd.prog w "strings.asciiSpace" .u8 Lib.asciiSpaceTab) (hb : Below w.heap.size w W) : Lib.TabIs Tryd.prog W "strings.asciiSpace" .u8 Lib.asciiSpaceTab := by
  unfold Lib.TabIs World.var? at *
  cases hg : Tryd.prog.globalNamed "strings.asciiSpace" with
  | none => simp [hg] at h
  | some g =>
    simp only [hg, Option.bind_some] at h ⊢
    have hlt : g < w.heap.size := by
      rcases Nat.lt_or_ge g w.heap.size with h' | h'
      · exact h'
      · rw [Array.getElem?_eq_none h'] at h; simp at h
    rw [hb.block g hlt]
    exact h
set_option maxHeartbeats 4000000 in
theorem builtins_c (w : World) (hT : Lib.TabIs Tryd.prog w "strings.asciiSpace" .u8 Lib.asciiSpaceTab) : Calls Tryd.prog 53 #[] w fun e w' => (∃ b, e = .returned (.map (some b)) ∧ Mp w' b PL) ∧ Below w.heap.size w w' := by
  have hmm := @run_makeMap Tryd.prog
  have M0 := Lib.hid (Mp.made w)
  have B0 := Lib.hid (show Below w.heap.size w (w.alloc (.map #[] 0)) from (Below.refl _ w).alloc (Nat.le_refl _) _)
  have HT := Lib.hid (fun W (h : Below w.heap.size w W) => tab_below hT h)
  have P0 := Lib.hid (show Prds [] from fun p hp => by cases hp)
  clear hT
  go_enter Tryd.func53, Tryd.ntmps53
  go_wp2_with (first
    | (go_at_call 93; have hx := M0.out; clear M0; refine (preds_c _ _ 0 ⟨#[116, 114, 117, 101, 32, 102, 97, 105, 108]⟩ X0 _ hx P0.out (by decide +kernel) (by decide) (by decide +kernel) (HT.out _ B0.out) (by omega) (by decide +kernel) (by decide) (by decide +kernel) (fun p hp => by cases hp)).mono ?_; clear hx; rintro e w1 ⟨rfl, m1, g1⟩; have M1 := Lib.hid m1; have B1 := Lib.hid (below_of_grown (gfresh (r := none) (gnone B0.out) g1 (Nat.le_refl _))); have P1 := Lib.hid (P0.out.more (n := 0) (by omega) (X := X0) (by decide +kernel)); clear m1 g1)
    | (go_at_call 93; have hx := M1.out; clear M1; refine (preds_c _ _ 1 ⟨#[118, 97, 114, 32, 110, 111, 110, 118, 97, 114, 32, 97, 116, 111, 109, 32, 105, 110, 116, 101, 103, 101, 114, 32, 97, 116, 111, 109, 105, 99, 32, 99, 111, 109, 112, 111, 117, 110, 100]⟩ X1 _ hx P1.out (by decide +kernel) (by decide) (by decide +kernel) (HT.out _ B1.out) (by omega) (by decide +kernel) (by decide) (by decide +kernel) (prd_apart (fun p hp => by rw [List.nil_append] at hp; obtain ⟨x, _, e⟩ := prdE_form p hp; exact ⟨x, 0, by rw [e], by omega⟩))).mono ?_; clear hx; rintro e w2 ⟨rfl, m2, g2⟩; have M2 := Lib.hid m2; have B2 := Lib.hid (below_of_grown (gfresh (r := none) (gnone B1.out) g2 (Nat.le_refl _))); have P2 := Lib.hid (P1.out.more (n := 1) (by omega) (X := X1) (by decide +kernel)); clear m2 g2)
    | (go_at_call 93; have hx := M2.out; clear M2; refine (preds_c _ _ 2 ⟨#[61, 32, 92, 61, 32, 61, 61, 32, 92, 61, 61, 32, 64, 60, 32, 64, 62, 32, 64, 61, 60, 32, 64, 62, 61, 32, 105, 115, 32, 61, 58, 61, 32, 61, 92, 61, 32, 60, 32, 62, 32, 61, 60, 32, 62, 61]⟩ X2 _ hx P2.out (by decide +kernel) (by decide) (by decide +kernel) (HT.out _ B2.out) (by omega) (by decide +kernel) (by decide) (by decide +kernel) apart2).mono ?_; clear hx; rintro e w3 ⟨rfl, m3, g3⟩; have M3 := Lib.hid m3; have B3 := Lib.hid (below_of_grown (gfresh (r := none) (gnone B2.out) g3 (Nat.le_refl _))); clear m3 g3))
  go_ret
  exact ⟨⟨_, rfl, M3.out⟩, B3.out⟩
theorem PL_in {x : List UInt8} {n : Int} : (prd x n, Value.bool true) ∈ PL ↔ (n = 0 ∧ x ∈ X0) ∨ (n = 1 ∧ x ∈ X1) ∨ (n = 2 ∧ x ∈ X2) := by
  unfold PL
  simp only [List.mem_append]
  have key : ∀ (m : Int) (X : List (List UInt8)), (prd x n, Value.bool true) ∈ prdE m X ↔ n = m ∧ x ∈ X := fun m X => by
    constructor
    · intro h
      obtain ⟨y, hy, e⟩ := prdE_form _ h
      have e2 := prd_inj (congrArg Prod.fst e)
      exact ⟨e2.2, e2.1 ▸ hy⟩
    · rintro ⟨rfl, h⟩
      exact List.mem_map.2 ⟨x, h, rfl⟩
  rw [key, key, key, or_assoc]
theorem X0_in (s : ByteArray) : s.data.toList ∈ X0 ↔ isBi s 0 = true := by
  rw [isBi_0, decide_eq_true_eq]
  unfold X0
  simp only [List.mem_cons, List.not_mem_nil, or_false]
  constructor
  · rintro (h | h)
    · exact .inl (ba_ext h)
    · exact .inr (ba_ext h)
  · rintro (h | h)
    · rw [h]; exact .inl rfl
    · rw [h]; exact .inr rfl
theorem X1_in (s : ByteArray) : s.data.toList ∈ X1 ↔ isBi s 1 = true := by
  rw [isBi_1, inF, inGo, decide_eq_true_eq, w1_words]
  constructor
  · intro h
    refine ⟨fun e => ?_, h⟩
    rw [e] at h
    revert h
    decide +kernel
  · exact fun h => h.2
theorem X2_in (s : ByteArray) : s.data.toList ∈ X2 ↔ isBi s 2 = true := by
  rw [isBi_2, inF, inGo, decide_eq_true_eq, w2_words]
  constructor
  · intro h
    refine ⟨fun e => ?_, h⟩
    rw [e] at h
    revert h
    decide +kernel
  · exact fun h => h.2
theorem PL_isBi (s : ByteArray) (n : Int) : (prd s.data.toList n, Value.bool true) ∈ PL ↔ isBi s n = true := by
  rw [PL_in, X0_in, X1_in, X2_in]
  by_cases h0 : n = 0
  · subst h0; simp
  by_cases h1 : n = 1
  · subst h1; simp
  by_cases h2 : n = 2
  · subst h2; simp
  · rw [isBi_no s h0 h1 h2]; simp [h0, h1, h2]
theorem PL_keys : Prds PL := by
  have h0 : Prds [] := fun p hp => by cases hp
  have h1 := ((h0.more (n := 0) (by omega) (X := X0) (by decide +kernel)).more (n := 1) (by omega) (X := X1) (by decide +kernel)).more (n := 2) (by omega) (X := X2) (by decide +kernel)
  exact h1
theorem PL_true : ∀ p ∈ PL, p.2 = .bool true := by
  intro p hp
  unfold PL at hp
  simp only [List.mem_append] at hp
  rcases hp with (hp | hp) | hp <;> (obtain ⟨x, _, e⟩ := prdE_form p hp; rw [e])
theorem PL_look {W : World} {b : Nat} (h : Mp W b PL) (s : ByteArray) (n : Int) (hs : s.size ≤ maxLen) (hn : (Lit.int .i64 n).wf = true) : (Instr.lookup 94 (.map (some b)) (.agg #[.string s, .int .i64 n]) false).run Tryd.prog W = .ok (.bool (isBi s n)) W := by
  obtain ⟨lk, hlk⟩ := prd_key hs hn
  have hp : (.agg #[.string s, .int .i64 n] : Value) = prd s.data.toList n := rfl
  cases hb : isBi s n with
  | true =>
    have := Mp.look_some prdLaw Tryd.underlying94 h PL_keys.key false ((PL_isBi s n).2 hb)
    rw [hp]
    simpa using this
  | false =>
    have := Mp.look_none prdLaw Tryd.underlying94 h PL_keys.key false hlk (z := .bool false) (by kernel_rfl) (fun p hp' e => by
      have h2 : p = (prd s.data.toList n, .bool true) := Prod.ext (e.trans hp) (PL_true p hp')
      rw [h2] at hp'
      rw [(PL_isBi s n).1 hp'] at hb
      cases hb)
    simpa using this
set_option maxRecDepth 100000 in
set_option maxHeartbeats 4000000 in
theorem Builtin_c (s : ByteArray) (n : Int) (w : World) (hs : s.size ≤ maxLen) (hn : (Lit.int .i64 n).wf = true) (hT : Lib.TabIs Tryd.prog w "strings.asciiSpace" .u8 Lib.asciiSpaceTab) :
    Calls Tryd.prog 37 #[.agg #[.string s, .int .i64 n]] w fun e w' => e = .returned (.bool (isBi s n)) ∧ Below w.heap.size w w' := by
  obtain ⟨W1, hW1⟩ : ∃ W1, W1 = w.alloc (.cells #[.string s, .int .i64 n] 75) := ⟨_, rfl⟩
  have hB1 : Below w.heap.size w W1.drew := by rw [hW1]; exact ((Below.refl _ w).alloc (Nat.le_refl _) _).drew
  obtain ⟨c0, c1, -⟩ := box2 (w := W1.drew) (B := w.heap.size) (by rw [hW1]; exact heap_new w _)
  have HB := Lib.hid (builtins_c W1.drew (tab_below hT hB1))
  have HB1 := Lib.hid hB1
  have HW := Lib.hid hW1
  clear hB1 hT hW1
  go_enter Tryd.func37, Tryd.ntmps37
  go_wp2
  rw [← HW.out]
  refine wp_region_held_drew (S := (fun W => W.cell? ⟨w.heap.size, 0, none⟩ = some (.string s) ∧ W.cell? ⟨w.heap.size, 1, none⟩ = some (.int .i64 n))) (by kernel_rfl) ?_ (fun hHeld => ?_)
  · exact ⟨c0, c1⟩
  change wpAnyH _ .any _ _ _ 4 (Array.replicate 4 false) _ _
  refine wpAnyH_take (i := 1) (oi := ⟨some 4, _, _, _, _, _⟩) (v := ?_) rfl (by kernel_rfl) (by kernel_rfl) (by kernel_rfl) (fun _ _ _ h => h) (Or.inl ⟨by rfl, ?_⟩) (by assumption) ?_
  rotate_left
  · (intro w hSw; (try dsimp only at hSw); go_simp; try (with_reducible rfl))
  (try simp only [Act.put, List.setIfInBounds_toArray, List.set_cons_zero, List.set_cons_succ])
  refine wpAnyH_ready (rs := [0]) (by kernel_rfl) (by simp) ?_
  refine AllReadyH.cons (o := ⟨some 3, _, _, _, _, _⟩) rfl (fun K hK => ?_) AllReadyH.nil
  go_simp
  refine HB.out.mono ?_
  clear HB
  rintro e W2 ⟨⟨b, rfl, hM⟩, hb2⟩
  have hlk := PL_look hM s n hs hn
  have HB2 := Lib.hid hb2
  go_wp2_with fail
  refine hK.out _ _ ⟨held_cell hb2 c0, held_cell hb2 c1⟩ (fun hHeld => ?_)
  clear hK K
  (try simp only [Act.put, List.setIfInBounds_toArray, List.set_cons_zero, List.set_cons_succ])
  refine wpAnyH_ready (rs := [2]) (by kernel_rfl) (by simp) ?_
  refine AllReadyH.cons (o := ⟨some 5, _, _, _, _, _⟩) rfl (fun K hK => ?_) AllReadyH.nil
  go_simp
  refine hK.out _ _ hHeld (fun hHeld => ?_)
  clear hK K
  (try simp only [Act.put, List.setIfInBounds_toArray, List.set_cons_zero, List.set_cons_succ])
  refine wpAnyH_take (i := 3) (oi := ⟨some 2, _, _, _, _, _⟩) (v := ?_) rfl (by kernel_rfl) (by kernel_rfl) (by kernel_rfl) (fun _ _ _ h => h) (Or.inl ⟨by rfl, ?_⟩) (by assumption) ?_
  rotate_left
  · (intro w hSw; (try dsimp only at hSw); go_simp; try (with_reducible rfl))
  (try simp only [Act.put, List.setIfInBounds_toArray, List.set_cons_zero, List.set_cons_succ])
  refine wpAnyH_done (by kernel_rfl) ?_ _
  go_wp2
  go_ret
  exact ⟨rfl, below_then HB1.out HB1.out.size HB2.out⟩
end Go.Proofs.YtgcbanljifalnaaDoor
/- Layer 14 (builtin): Do, walked. Conditions: the arguments read; what they are made of is bounded; the library's table of blanks is laid as its text says. -/
namespace Go.Proofs.YtgcbanljifalnaaDoor
open Go.RowKit
attribute [local go_sem ↓] Go.wp_at_zero Go.wp_at_succ
abbrev Tab (W : World) : Prop := Lib.TabIs Tryd.prog W "strings.asciiSpace" .u8 Lib.asciiSpaceTab
theorem BiV.enters {W : World} {g : Nat} {cap : Array Value} {bi : Bi} (h : BiV W g cap bi) : ∀ args w, (callFunc g args).run Tryd.prog w = .ok (.enter g args) w := by
  cases bi with
  | always is => obtain ⟨rfl, _⟩ := h; intro args w; rfl
  | uni => obtain ⟨rfl, _⟩ := h; intro args w; rfl
  | dif => obtain ⟨rfl, _⟩ := h; intro args w; rfl
  | alike want => obtain ⟨rfl, _⟩ := h; intro args w; rfl
  | stands m => obtain ⟨rfl, _⟩ := h; intro args w; rfl
  | becomes => obtain ⟨rfl, _⟩ := h; intro args w; rfl
  | reckons m => obtain ⟨rfl, _⟩ := h; intro args w; rfl
  | kinds ks => obtain ⟨rfl, _⟩ := h; intro args w; rfl
theorem gOf_c (g : Tm) (A : Option Addr) (c : Nat) (w : World) : Calls Tryd.prog 38 #[.agg #[.int .u8 g.k, .string g.s, .int .i64 g.n, .slice A g.l.length c]] w fun e w' => e = .returned (.agg #[.string g.s, .int .i64 (g.l.length : Int)]) ∧ Below w.heap.size w w' := by
  go_enter Tryd.func38, Tryd.ntmps38
  go_wp2
  refine bodyPost_ret (v := .agg #[.string g.s, .int .i64 (g.l.length : Int)]) (by simp [results, Tryd.results38, go_sem]) rfl ?_
  exact ⟨rfl, ((Below.refl _ w).alloc (Nat.le_refl _) _).alloc (by simp) _⟩
/-- What is known of a world in a goal: the substitution, the goal. -/
structure DX (w : World) (l : Bs) (p m : Nat) (g : Tm) (A : Option Addr) (c : Nat) (W : World) : Prop where
  gk : GK w l p m g.l (.slice A g.l.length c) W
  bx : W.heap[w.heap.size]? = some (.cells #[.int .u8 g.k, .string g.s, .int .i64 g.n, .slice A g.l.length c] 24 (0, 0))
  tab : Tab W
theorem DX.then {w W W' : World} {l : Bs} {p m : Nat} {g : Tm} {A : Option Addr} {c : Nat} (h : DX w l p m g A c W) (hb : Below W.heap.size W W') : DX w l p m g A c W' :=
  ⟨h.gk.then hb, block_below hb (Array.getElem?_eq_some_iff.1 h.bx).1 h.bx, tab_below h.tab hb⟩
theorem DX.cells {w W : World} {l : Bs} {p m : Nat} {g : Tm} {A : Option Addr} {c : Nat} (h : DX w l p m g A c W) : W.cell? ⟨w.heap.size, 0, none⟩ = some (.int .u8 g.k) ∧ W.cell? ⟨w.heap.size, 1, none⟩ = some (.string g.s) ∧ W.cell? ⟨w.heap.size, 2, none⟩ = some (.int .i64 g.n) ∧ W.cell? ⟨w.heap.size, 3, none⟩ = some (.slice A g.l.length c) := by
  obtain ⟨h0, h1, h2, h3, -⟩ := box4 h.bx
  exact ⟨h0, h1, h2, h3⟩
theorem doP_bad {l : Bs} {g : Tm} (h : isBi g.s g.l.length = false ∨ (g.k ≠ 3 ∧ g.k ≠ 4)) : doP l g = .err 1 := by
  unfold doP
  cases hb : biOf g.s with
  | none => rfl
  | some b =>
    simp only
    rw [if_neg]
    rintro ⟨h1, h2⟩
    rcases h with h | h
    · unfold isBi at h
      rw [hb] at h
      simp only [decide_eq_false_iff_not] at h
      exact h (by omega)
    · omega
theorem doP_ok {l : Bs} {g : Tm} (h : isBi g.s g.l.length = true) (h2 : g.k = 3 ∨ g.k = 4) : ∃ b, biOf g.s = some b ∧ b.ar = g.l.length ∧ doP l g = b.run l g.l := by
  obtain ⟨b, hb, ha⟩ := isBi_iff.1 h
  have ha' : b.ar = g.l.length := by omega
  exact ⟨b, hb, ha', by unfold doP; rw [hb]; simp only; rw [if_pos ⟨ha', h2⟩]⟩
set_option maxRecDepth 100000 in
set_option maxHeartbeats 8000000 in
theorem Do_c (l : Bs) (p m : Nat) (g : Tm) (v : Value) (w : World) (hs : Sub w (fun _ => True) l p m) (hv : TmV w (fun _ => True) g v) (hgw : g.Wf) (hg : GB l g.l) (hT : Tab w) (hlen : g.l.length ≤ 1000000) :
    Calls Tryd.prog 18 #[.pointer (some ⟨p, 0, none⟩), v] w (DPost w.heap.size (doP l g) w) := by
  obtain ⟨u, rfl, hvS⟩ := hv
  obtain ⟨A, c, rfl⟩ := hvS.form
  have hb0 := (Below.refl w.heap.size w).alloc (Nat.le_refl _) (.cells #[.int .u8 g.k, .string g.s, .int .i64 g.n, .slice A g.l.length c] 24)
  have hx0 : DX w l p m g A c (w.alloc (.cells #[.int .u8 g.k, .string g.s, .int .i64 g.n, .slice A g.l.length c] 24)) := ⟨⟨hb0, hs.below hb0, hvS.below hb0⟩, heap_new w _, tab_below hT hb0⟩
  have hgs : g.s.size ≤ maxLen := by
    have := hgw
    cases g
    simp only [Tm.Wf] at this
    simp only [maxLen]
    omega
  have HO := Lib.hid (fun W (hx : DX w l p m g A c W) => (gOf_c g A c W).mono (R' := fun e w' => e = .returned (.agg #[.string g.s, .int .i64 (g.l.length : Int)]) ∧ DX w l p m g A c w') (fun e w' h => ⟨h.1, hx.then h.2⟩))
  have HBI := Lib.hid (fun W (hx : DX w l p m g A c W) => (Builtin_c g.s (g.l.length : Int) W hgs (by simp [Lit.wf, IntKind.min, IntKind.max, IntKind.signed, IntKind.bits]; omega) hx.tab).mono (R' := fun e w' => e = .returned (.bool (isBi g.s g.l.length)) ∧ DX w l p m g A c w') (fun e w' h => ⟨h.1, hx.then h.2⟩))
  clear hs hvS hT hb0 hgs hgw
  cases hib : isBi g.s g.l.length with
  | false =>
    rw [hib] at HBI
    rw [doP_bad (.inl hib)]
    clear hg hib
    go_enter Tryd.func18, Tryd.ntmps18
    go_wp2_with (first
      | (go_at_call 38; refine (HO.out _ hx0).mono ?_; rintro e w2 ⟨rfl, hx2⟩; obtain ⟨c0, c1, c2, c3⟩ := hx2.cells)
      | (go_at_call 37; refine (HBI.out _ hx2).mono ?_; rintro e w3 ⟨rfl, hx3⟩; clear c0 c1 c2 c3; obtain ⟨c0, c1, c2, c3⟩ := hx3.cells))
    go_ret3
    exact ⟨rfl, hx3.gk.b0⟩
  | true =>
    rw [hib] at HBI
    by_cases hk : g.k = 3 ∨ g.k = 4
    · obtain ⟨bi, hbi, har, hdo⟩ := doP_ok (l := l) hib hk
      rw [hdo]
      have HCALL := Lib.hid (fun (gf : Nat) (cap : Array Value) (W : World) (hbv : BiV W gf cap bi) (hx : DX w l p m g A c W) => (bi_call l p m bi gf cap g.l (.slice A g.l.length c) W hbv hx.gk.sub hx.gk.args hg har).mono (R' := fun e w' => ∃ v1 v2 v3, e = .returned (.tuple #[v1, v2, v3]) ∧ Below W.heap.size W w' ∧ DPost w.heap.size (bi.run l g.l) w (.returned (.tuple #[v1, v2, v3])) w') (fun e w' h => by
        obtain ⟨v1, v2, v3, rfl, h2⟩ := h.tup
        refine ⟨v1, v2, v3, rfl, h2.2, h2.1, below_then hx.gk.b0 hx.gk.b0.size h2.2⟩))
      clear hdo hib hg
      rcases hk with hk | hk
      · have HK := Lib.hid hk
        clear hk
        go_enter Tryd.func18, Tryd.ntmps18
        go_wp2_with (first
          | (go_at_call 38; refine (HO.out _ hx0).mono ?_; rintro e w2 ⟨rfl, hx2⟩; obtain ⟨c0, c1, c2, c3⟩ := hx2.cells)
          | (go_at_call 37; refine (HBI.out _ hx2).mono ?_; rintro e w3 ⟨rfl, hx3⟩; clear c0 c1 c2 c3; obtain ⟨c0, c1, c2, c3⟩ := hx3.cells))
        all_goals (try (exfalso; have hk := HK.out; first | omega | (clear hx0 HO HBI hx2 hx3; simp only [bne_iff_ne, ne_eq, bne_eq_false_iff_eq] at *; omega)))
        refine wp_region_held_drew (S := (fun W => W.cell? ⟨w.heap.size, 1, none⟩ = some (.string g.s) ∧ W.cell? ⟨w.heap.size, 3, none⟩ = some (.slice A g.l.length c) ∧ DX w l p m g A c W)) (by kernel_rfl) ?_ (fun hHeld => ?_)
        · exact ⟨c1, c3, hx3.then (Below.refl _ _).drew⟩
        change wpAnyH _ .any _ _ _ 14 (Array.replicate 14 false) _ _
        refine wpAnyH_take (i := 1) (oi := ⟨some 26, _, _, _, _, _⟩) (v := ?_) rfl (by kernel_rfl) (by kernel_rfl) (by kernel_rfl) (fun _ _ _ h => h) (Or.inl ⟨by rfl, ?_⟩) (by assumption) ?_
        rotate_left
        · (intro w hSw; (try dsimp only at hSw); go_simp; try (with_reducible rfl))
        (try simp only [Act.put, List.setIfInBounds_toArray, List.set_cons_zero, List.set_cons_succ])
        refine wpAnyH_take (i := 2) (oi := ⟨some 27, _, _, _, _, _⟩) (v := ?_) rfl (by kernel_rfl) (by kernel_rfl) (by kernel_rfl) (fun _ _ _ h => h) (Or.inl ⟨by rfl, ?_⟩) (by assumption) ?_
        rotate_left
        · (intro w hSw; (try dsimp only at hSw); go_simp; try (with_reducible rfl))
        (try simp only [Act.put, List.setIfInBounds_toArray, List.set_cons_zero, List.set_cons_succ])
        refine wpAnyH_take (i := 4) (oi := ⟨some 29, _, _, _, _, _⟩) (v := ?_) rfl (by kernel_rfl) (by kernel_rfl) (by kernel_rfl) (fun _ _ _ h => h) (Or.inl ⟨by rfl, ?_⟩) (by assumption) ?_
        rotate_left
        · (intro w hSw; (try dsimp only at hSw); go_simp; try (with_reducible rfl))
        (try simp only [Act.put, List.setIfInBounds_toArray, List.set_cons_zero, List.set_cons_succ])
        refine wpAnyH_take (i := 5) (oi := ⟨some 30, _, _, _, _, _⟩) (v := ?_) rfl (by kernel_rfl) (by kernel_rfl) (by kernel_rfl) (fun _ _ _ h => h) (Or.inl ⟨by rfl, ?_⟩) (by assumption) ?_
        rotate_left
        · (intro w hSw; (try dsimp only at hSw); go_simp; try (with_reducible rfl))
        (try simp only [Act.put, List.setIfInBounds_toArray, List.set_cons_zero, List.set_cons_succ])
        refine wpAnyH_take (i := 6) (oi := ⟨some 31, _, _, _, _, _⟩) (v := ?_) rfl (by kernel_rfl) (by kernel_rfl) (by kernel_rfl) (fun _ _ _ h => h) (Or.inl ⟨by rfl, ?_⟩) (by assumption) ?_
        rotate_left
        · (intro w hSw; (try dsimp only at hSw); go_simp; try (with_reducible rfl))
        (try simp only [Act.put, List.setIfInBounds_toArray, List.set_cons_zero, List.set_cons_succ])
        refine wpAnyH_ready (rs := [0]) (by kernel_rfl) (by simp) ?_
        refine AllReadyH.cons (o := ⟨some 25, _, _, _, _, _⟩) rfl (fun K hK => ?_) AllReadyH.nil
        go_simp
        refine (biAll_c _).mono ?_
        rintro e w5 ⟨⟨mb, rfl, hal⟩, hb5⟩
        obtain ⟨gf, cap, hlk, hbv⟩ := hal.at hbi
        have eg := hbv.enters
        have hx5 := hHeld.2.2.then hb5
        have HBV := Lib.hid hbv
        clear hal hbv
        go_wp2_with fail
        refine hK.out _ _ ⟨hx5.cells.2.1, hx5.cells.2.2.2, hx5⟩ (fun hHeld => ?_)
        clear hK K
        (try simp only [Act.put, List.setIfInBounds_toArray, List.set_cons_zero, List.set_cons_succ])
        refine wpAnyH_ready (rs := [3]) (by kernel_rfl) (by simp) ?_
        refine AllReadyH.cons (o := ⟨some 28, _, _, _, _, _⟩) rfl (fun K hK => ?_) AllReadyH.nil
        go_simp
        refine hK.out _ _ hHeld (fun hHeld => ?_)
        clear hK K
        (try simp only [Act.put, List.setIfInBounds_toArray, List.set_cons_zero, List.set_cons_succ])
        refine wpAnyH_ready (rs := [7]) (by kernel_rfl) (by simp) ?_
        refine AllReadyH.cons (o := ⟨some 32, _, _, _, _, _⟩) rfl (fun K hK => ?_) AllReadyH.nil
        go_simp
        go_at_fn gf
        refine (HCALL.out _ _ _ HBV.out hx5).mono ?_
        rintro e w6 ⟨v1, v2, v3, rfl, hb6, hpost⟩
        go_wp2_with fail
        refine hK.out _ _ ⟨(hx5.then hb6).cells.2.1, (hx5.then hb6).cells.2.2.2, hx5.then hb6⟩ (fun hHeld => ?_)
        clear hK K
        (try simp only [Act.put, List.setIfInBounds_toArray, List.set_cons_zero, List.set_cons_succ])
        refine wpAnyH_take (i := 8) (oi := ⟨some 33, _, _, _, _, _⟩) (v := ?_) rfl (by kernel_rfl) (by kernel_rfl) (by kernel_rfl) (fun _ _ _ h => h) (Or.inl ⟨by rfl, ?_⟩) (by assumption) ?_
        rotate_left
        · (intro w hSw; (try dsimp only at hSw); go_simp; try (with_reducible rfl))
        (try simp only [Act.put, List.setIfInBounds_toArray, List.set_cons_zero, List.set_cons_succ])
        refine wpAnyH_take (i := 9) (oi := ⟨some 34, _, _, _, _, _⟩) (v := ?_) rfl (by kernel_rfl) (by kernel_rfl) (by kernel_rfl) (fun _ _ _ h => h) (Or.inl ⟨by rfl, ?_⟩) (by assumption) ?_
        rotate_left
        · (intro w hSw; (try dsimp only at hSw); go_simp; try (with_reducible rfl))
        (try simp only [Act.put, List.setIfInBounds_toArray, List.set_cons_zero, List.set_cons_succ])
        refine wpAnyH_take (i := 10) (oi := ⟨some 35, _, _, _, _, _⟩) (v := ?_) rfl (by kernel_rfl) (by kernel_rfl) (by kernel_rfl) (fun _ _ _ h => h) (Or.inl ⟨by rfl, ?_⟩) (by assumption) ?_
        rotate_left
        · (intro w hSw; (try dsimp only at hSw); go_simp; try (with_reducible rfl))
        (try simp only [Act.put, List.setIfInBounds_toArray, List.set_cons_zero, List.set_cons_succ])
        refine wpAnyH_take (i := 11) (oi := ⟨some 4, _, _, _, _, _⟩) (v := ?_) rfl (by kernel_rfl) (by kernel_rfl) (by kernel_rfl) (fun _ _ _ h => h) (Or.inl ⟨by rfl, ?_⟩) (by assumption) ?_
        rotate_left
        · (intro w hSw; (try dsimp only at hSw); go_simp; try (with_reducible rfl))
        (try simp only [Act.put, List.setIfInBounds_toArray, List.set_cons_zero, List.set_cons_succ])
        refine wpAnyH_take (i := 12) (oi := ⟨some 5, _, _, _, _, _⟩) (v := ?_) rfl (by kernel_rfl) (by kernel_rfl) (by kernel_rfl) (fun _ _ _ h => h) (Or.inl ⟨by rfl, ?_⟩) (by assumption) ?_
        rotate_left
        · (intro w hSw; (try dsimp only at hSw); go_simp; try (with_reducible rfl))
        (try simp only [Act.put, List.setIfInBounds_toArray, List.set_cons_zero, List.set_cons_succ])
        refine wpAnyH_take (i := 13) (oi := ⟨some 6, _, _, _, _, _⟩) (v := ?_) rfl (by kernel_rfl) (by kernel_rfl) (by kernel_rfl) (fun _ _ _ h => h) (Or.inl ⟨by rfl, ?_⟩) (by assumption) ?_
        rotate_left
        · (intro w hSw; (try dsimp only at hSw); go_simp; try (with_reducible rfl))
        (try simp only [Act.put, List.setIfInBounds_toArray, List.set_cons_zero, List.set_cons_succ])
        refine wpAnyH_done (by kernel_rfl) ?_ _
        clear hHeld
        go_wp2
        go_ret3
        exact hpost
      · have HK := Lib.hid hk
        clear hk
        go_enter Tryd.func18, Tryd.ntmps18
        go_wp2_with (first
          | (go_at_call 38; refine (HO.out _ hx0).mono ?_; rintro e w2 ⟨rfl, hx2⟩; obtain ⟨c0, c1, c2, c3⟩ := hx2.cells)
          | (go_at_call 37; refine (HBI.out _ hx2).mono ?_; rintro e w3 ⟨rfl, hx3⟩; clear c0 c1 c2 c3; obtain ⟨c0, c1, c2, c3⟩ := hx3.cells))
        all_goals (try (exfalso; have hk := HK.out; first | omega | (clear hx0 HO HBI hx2 hx3; simp only [bne_iff_ne, ne_eq, bne_eq_false_iff_eq] at *; omega)))
        refine wp_region_held_drew (S := (fun W => W.cell? ⟨w.heap.size, 1, none⟩ = some (.string g.s) ∧ W.cell? ⟨w.heap.size, 3, none⟩ = some (.slice A g.l.length c) ∧ DX w l p m g A c W)) (by kernel_rfl) ?_ (fun hHeld => ?_)
        · exact ⟨c1, c3, hx3.then (Below.refl _ _).drew⟩
        change wpAnyH _ .any _ _ _ 14 (Array.replicate 14 false) _ _
        refine wpAnyH_take (i := 1) (oi := ⟨some 26, _, _, _, _, _⟩) (v := ?_) rfl (by kernel_rfl) (by kernel_rfl) (by kernel_rfl) (fun _ _ _ h => h) (Or.inl ⟨by rfl, ?_⟩) (by assumption) ?_
        rotate_left
        · (intro w hSw; (try dsimp only at hSw); go_simp; try (with_reducible rfl))
        (try simp only [Act.put, List.setIfInBounds_toArray, List.set_cons_zero, List.set_cons_succ])
        refine wpAnyH_take (i := 2) (oi := ⟨some 27, _, _, _, _, _⟩) (v := ?_) rfl (by kernel_rfl) (by kernel_rfl) (by kernel_rfl) (fun _ _ _ h => h) (Or.inl ⟨by rfl, ?_⟩) (by assumption) ?_
        rotate_left
        · (intro w hSw; (try dsimp only at hSw); go_simp; try (with_reducible rfl))
        (try simp only [Act.put, List.setIfInBounds_toArray, List.set_cons_zero, List.set_cons_succ])
        refine wpAnyH_take (i := 4) (oi := ⟨some 29, _, _, _, _, _⟩) (v := ?_) rfl (by kernel_rfl) (by kernel_rfl) (by kernel_rfl) (fun _ _ _ h => h) (Or.inl ⟨by rfl, ?_⟩) (by assumption) ?_
        rotate_left
        · (intro w hSw; (try dsimp only at hSw); go_simp; try (with_reducible rfl))
        (try simp only [Act.put, List.setIfInBounds_toArray, List.set_cons_zero, List.set_cons_succ])
        refine wpAnyH_take (i := 5) (oi := ⟨some 30, _, _, _, _, _⟩) (v := ?_) rfl (by kernel_rfl) (by kernel_rfl) (by kernel_rfl) (fun _ _ _ h => h) (Or.inl ⟨by rfl, ?_⟩) (by assumption) ?_
        rotate_left
        · (intro w hSw; (try dsimp only at hSw); go_simp; try (with_reducible rfl))
        (try simp only [Act.put, List.setIfInBounds_toArray, List.set_cons_zero, List.set_cons_succ])
        refine wpAnyH_take (i := 6) (oi := ⟨some 31, _, _, _, _, _⟩) (v := ?_) rfl (by kernel_rfl) (by kernel_rfl) (by kernel_rfl) (fun _ _ _ h => h) (Or.inl ⟨by rfl, ?_⟩) (by assumption) ?_
        rotate_left
        · (intro w hSw; (try dsimp only at hSw); go_simp; try (with_reducible rfl))
        (try simp only [Act.put, List.setIfInBounds_toArray, List.set_cons_zero, List.set_cons_succ])
        refine wpAnyH_ready (rs := [0]) (by kernel_rfl) (by simp) ?_
        refine AllReadyH.cons (o := ⟨some 25, _, _, _, _, _⟩) rfl (fun K hK => ?_) AllReadyH.nil
        go_simp
        refine (biAll_c _).mono ?_
        rintro e w5 ⟨⟨mb, rfl, hal⟩, hb5⟩
        obtain ⟨gf, cap, hlk, hbv⟩ := hal.at hbi
        have eg := hbv.enters
        have hx5 := hHeld.2.2.then hb5
        have HBV := Lib.hid hbv
        clear hal hbv
        go_wp2_with fail
        refine hK.out _ _ ⟨hx5.cells.2.1, hx5.cells.2.2.2, hx5⟩ (fun hHeld => ?_)
        clear hK K
        (try simp only [Act.put, List.setIfInBounds_toArray, List.set_cons_zero, List.set_cons_succ])
        refine wpAnyH_ready (rs := [3]) (by kernel_rfl) (by simp) ?_
        refine AllReadyH.cons (o := ⟨some 28, _, _, _, _, _⟩) rfl (fun K hK => ?_) AllReadyH.nil
        go_simp
        refine hK.out _ _ hHeld (fun hHeld => ?_)
        clear hK K
        (try simp only [Act.put, List.setIfInBounds_toArray, List.set_cons_zero, List.set_cons_succ])
        refine wpAnyH_ready (rs := [7]) (by kernel_rfl) (by simp) ?_
        refine AllReadyH.cons (o := ⟨some 32, _, _, _, _, _⟩) rfl (fun K hK => ?_) AllReadyH.nil
        go_simp
        go_at_fn gf
        refine (HCALL.out _ _ _ HBV.out hx5).mono ?_
        rintro e w6 ⟨v1, v2, v3, rfl, hb6, hpost⟩
        go_wp2_with fail
        refine hK.out _ _ ⟨(hx5.then hb6).cells.2.1, (hx5.then hb6).cells.2.2.2, hx5.then hb6⟩ (fun hHeld => ?_)
        clear hK K
        (try simp only [Act.put, List.setIfInBounds_toArray, List.set_cons_zero, List.set_cons_succ])
        refine wpAnyH_take (i := 8) (oi := ⟨some 33, _, _, _, _, _⟩) (v := ?_) rfl (by kernel_rfl) (by kernel_rfl) (by kernel_rfl) (fun _ _ _ h => h) (Or.inl ⟨by rfl, ?_⟩) (by assumption) ?_
        rotate_left
        · (intro w hSw; (try dsimp only at hSw); go_simp; try (with_reducible rfl))
        (try simp only [Act.put, List.setIfInBounds_toArray, List.set_cons_zero, List.set_cons_succ])
        refine wpAnyH_take (i := 9) (oi := ⟨some 34, _, _, _, _, _⟩) (v := ?_) rfl (by kernel_rfl) (by kernel_rfl) (by kernel_rfl) (fun _ _ _ h => h) (Or.inl ⟨by rfl, ?_⟩) (by assumption) ?_
        rotate_left
        · (intro w hSw; (try dsimp only at hSw); go_simp; try (with_reducible rfl))
        (try simp only [Act.put, List.setIfInBounds_toArray, List.set_cons_zero, List.set_cons_succ])
        refine wpAnyH_take (i := 10) (oi := ⟨some 35, _, _, _, _, _⟩) (v := ?_) rfl (by kernel_rfl) (by kernel_rfl) (by kernel_rfl) (fun _ _ _ h => h) (Or.inl ⟨by rfl, ?_⟩) (by assumption) ?_
        rotate_left
        · (intro w hSw; (try dsimp only at hSw); go_simp; try (with_reducible rfl))
        (try simp only [Act.put, List.setIfInBounds_toArray, List.set_cons_zero, List.set_cons_succ])
        refine wpAnyH_take (i := 11) (oi := ⟨some 4, _, _, _, _, _⟩) (v := ?_) rfl (by kernel_rfl) (by kernel_rfl) (by kernel_rfl) (fun _ _ _ h => h) (Or.inl ⟨by rfl, ?_⟩) (by assumption) ?_
        rotate_left
        · (intro w hSw; (try dsimp only at hSw); go_simp; try (with_reducible rfl))
        (try simp only [Act.put, List.setIfInBounds_toArray, List.set_cons_zero, List.set_cons_succ])
        refine wpAnyH_take (i := 12) (oi := ⟨some 5, _, _, _, _, _⟩) (v := ?_) rfl (by kernel_rfl) (by kernel_rfl) (by kernel_rfl) (fun _ _ _ h => h) (Or.inl ⟨by rfl, ?_⟩) (by assumption) ?_
        rotate_left
        · (intro w hSw; (try dsimp only at hSw); go_simp; try (with_reducible rfl))
        (try simp only [Act.put, List.setIfInBounds_toArray, List.set_cons_zero, List.set_cons_succ])
        refine wpAnyH_take (i := 13) (oi := ⟨some 6, _, _, _, _, _⟩) (v := ?_) rfl (by kernel_rfl) (by kernel_rfl) (by kernel_rfl) (fun _ _ _ h => h) (Or.inl ⟨by rfl, ?_⟩) (by assumption) ?_
        rotate_left
        · (intro w hSw; (try dsimp only at hSw); go_simp; try (with_reducible rfl))
        (try simp only [Act.put, List.setIfInBounds_toArray, List.set_cons_zero, List.set_cons_succ])
        refine wpAnyH_done (by kernel_rfl) ?_ _
        clear hHeld
        go_wp2
        go_ret3
        exact hpost
    · have HK := Lib.hid hk
      rw [doP_bad (.inr ⟨by omega, by omega⟩)]
      clear hg hib hk
      go_enter Tryd.func18, Tryd.ntmps18
      go_wp2_with (first
        | (go_at_call 38; refine (HO.out _ hx0).mono ?_; rintro e w2 ⟨rfl, hx2⟩; obtain ⟨c0, c1, c2, c3⟩ := hx2.cells)
        | (go_at_call 37; refine (HBI.out _ hx2).mono ?_; rintro e w3 ⟨rfl, hx3⟩; clear c0 c1 c2 c3; obtain ⟨c0, c1, c2, c3⟩ := hx3.cells))
      all_goals (try (exfalso; have hk := HK.out; first | omega | (clear hx0 HO HBI hx2 hx3; simp only [bne_iff_ne, ne_eq, bne_eq_false_iff_eq] at *; omega)))
      go_ret3
      exact ⟨rfl, hx3.gk.b0⟩
end Go.Proofs.YtgcbanljifalnaaDoor
/- Layer 14 (builtin): of opposites just one holds; plain. No condition. -/
namespace Go.Proofs.YtgcbanljifalnaaDoor

theorem doP_at {l : Bs} {s : ByteArray} {b : Bi} {xs : List Tm} (h : biOf s = some b) (hn : b.ar = xs.length) : doP l ⟨4, s, 0, xs⟩ = b.run l xs := by
  unfold doP
  simp only [h, hn, true_and, or_true, if_true]
section
variable {l : Bs} {a b : Tm}
theorem twoD_in {f : Int × Bool → DO} (ha : (visA l a).length ≤ 4096) (hb : (visA l b).length ≤ 4096) : twoD l a b f = f (ordT (appA l a) (appA l b)) := by
  unfold twoD
  rw [if_neg (by omega), if_neg (by omega)]
end
end Go.Proofs.YtgcbanljifalnaaDoor
/- Layer 13's laws: an operator of two numbers; numbers that are known, walked. Conditions: numbers of 64 bits. -/
namespace Go.Proofs.YtgcbanljifalnaaDoor
open Go.RowKit

def tI (n : Int) : Tm := ⟨2, ⟨#[]⟩, n, []⟩
theorem wlk_num (l : Bs) {t : Tm} (h : t.k ≠ 1) : wlk l t = t := wlk_stop (by simp [nxt, h])
theorem fn_leaf (l : Bs) (f : Nat) {t : Tm} (h : t.k ≠ 1) (hl : t.l = []) : Fn l (f + 1) t := by
  show ∀ a ∈ (wlk l t).l, Fn l f a
  rw [wlk_num l h, hl]
  simp
theorem evF_num (l : Bs) (f : Nat) (n : Int) {c : Nat} (hc : c + 1 ≤ 4096) : evF l (f + 1) (tI n) c = (.ok n, c + 1) := by
  rw [evF, if_neg (by omega), wlk_num l (by simp [tI])]
  rfl
theorem evF_two (s : ByteArray) (a b : Int) (h : isOp s = true) : (evF [] 3 ⟨4, s, 0, [tI a, tI b]⟩ 0).1 = opI s a b := by
  rw [evF, if_neg (by omega), wlk_num [] (by simp)]
  simp only [h, evF_num [] 1 a (c := 0 + 1) (by omega), evF_num [] 1 b (c := 0 + 1 + 1) (by omega)]
  rfl
theorem fn_two (s : ByteArray) (a b : Int) : Fn [] 3 ⟨4, s, 0, [tI a, tI b]⟩ := by
  show ∀ x ∈ (wlk [] ⟨4, s, 0, [tI a, tI b]⟩).l, Fn [] 2 x
  rw [wlk_num [] (by simp)]
  intro x hx
  simp at hx
  rcases hx with rfl | rfl <;> exact fn_leaf [] 1 (by simp [tI]) rfl
end Go.Proofs.YtgcbanljifalnaaDoor
/- Layer 14 (builtin): goals that are known, walked. Condition: the library's table of blanks is laid as its text says. -/
namespace Go.Proofs.YtgcbanljifalnaaDoor
open Go.RowKit
theorem evF_fuel {l : Bs} : ∀ (f : Nat) (t : Tm), Fn l f t → ∀ g, f ≤ g → ∀ c, evF l g t c = evF l f t c := by
  intro f
  induction f with
  | zero => intro t hf; exact hf.elim
  | succ f ih =>
    intro t hf g hg c
    obtain ⟨g, rfl⟩ : ∃ g', g = g' + 1 := ⟨g - 1, by omega⟩
    have hs0 : ∀ a ∈ (wlk l t).l, Fn l f a := hf
    rw [evF, evF]
    generalize wlk l t = x at hs0
    match hx : x.l with
    | [] => rfl
    | [a] =>
      rw [hx] at hs0
      simp only [ih a (hs0 a (by simp)) g (by omega)]
    | [a, b] =>
      rw [hx] at hs0
      simp only [ih a (hs0 a (by simp)) g (by omega), ih b (hs0 b (by simp)) g (by omega)]
    | a :: b :: d :: r => rfl
theorem evA_at {l : Bs} (hA : Acyc l) {f : Nat} {t : Tm} (h : Fn l f t) : evA l t = (evF l f t 0).1 := by
  unfold evA
  rw [← evF_fuel (fuelOf l t) t (hA.fueled t) (max f (fuelOf l t)) (Nat.le_max_right _ _), evF_fuel f t h (max f (fuelOf l t)) (Nat.le_max_left _ _)]
namespace K14
def P12 : Tm := ⟨4, ⟨#[43]⟩, 0, [tI 1, tI 2]⟩
def fa : Tm := ⟨4, ⟨#[102]⟩, 0, [K5.A 97]⟩
def G1 : Tm := ⟨4, ⟨#[105, 115]⟩, 0, [kV 0, P12]⟩
def G2 : Tm := ⟨4, ⟨#[92, 61]⟩, 0, [K5.tf, fa]⟩
def G3 : Tm := ⟨4, ⟨#[64, 60]⟩, 0, [kV 0, kV 1]⟩
def G4 : Tm := ⟨4, ⟨#[64, 60]⟩, 0, [kV 0, tI 1]⟩
def G5 : Tm := ⟨4, ⟨#[60]⟩, 0, [tI 1, K5.A 97]⟩
theorem fnV (n : Int) : Fn [] 3 (kV n) := by simp [Fn, kV, wlk, wlkN]
theorem fnI (n : Int) : Fn [] 3 (tI n) := fn_leaf [] 2 (by simp [tI]) rfl
theorem fnA : Fn [] 3 (K5.A 97) := K5.fA [] 97
theorem u1 : biU [] 0 (tI 3) 1 = .yes [(0, tI 3)] 2 := by rw [biU_biF acyc_nil (fnI 3)]; kernel_rfl
theorem u2 : biU [] 0 (K5.A 97) 2 = .yes [(0, K5.A 97)] 3 := by rw [biU_biF acyc_nil fnA]; kernel_rfl
theorem un1 : un 4098 0 [] [(kV 0, tI 3)] = .yes [(0, tI 3)] 2 := by
  rw [show (4098 : Nat) = 4097 + 1 from rfl, un_left (y1 := kV 0) (y2 := tI 3) (by kernel_rfl) (by kernel_rfl) (by omega) rfl (by simp [tI]) u1]
  rfl
theorem un2 : un 4098 0 [] [(K5.tf, fa)] = .yes [(0, K5.A 97)] 3 := by
  rw [show (4098 : Nat) = 4097 + 1 from rfl, un_apart (y1 := K5.tf) (y2 := fa) (by kernel_rfl) (by kernel_rfl) (by omega) (by decide) (by decide) ⟨rfl, rfl, rfl, rfl⟩]
  rw [show K5.tf.l.zip fa.l ++ [] = [(kV 0, K5.A 97)] from rfl, show (4097 : Nat) = 4096 + 1 from rfl, un_left (y1 := kV 0) (y2 := K5.A 97) (by kernel_rfl) (by kernel_rfl) (by omega) rfl (by simp [K5.A]) u2]
  rfl
theorem ev12 : evA [] P12 = .ok 3 := by
  unfold P12
  rw [evA_at acyc_nil (fn_two ⟨#[43]⟩ 1 2), evF_two _ _ _ (by decide)]
  kernel_rfl
theorem ev1 : evA [] (tI 1) = .ok 1 := by
  rw [evA_at acyc_nil (fnI 1)]
  kernel_rfl
theorem evAa : evA [] (K5.A 97) = .er 21 := by
  rw [evA_at acyc_nil fnA]
  kernel_rfl
theorem d1 : doP [] G1 = .yes [(0, tI 3)] := by
  rw [show G1 = ⟨4, ⟨#[105, 115]⟩, 0, [kV 0, P12]⟩ from rfl, doP_at (b := .becomes) rfl rfl]
  simp only [Bi.run, ev12, Rk.err, Rk.val]
  rw [if_neg (by simp), show tInt 3 = tI 3 from rfl, un1]
  rfl
theorem d2 : doP [] G2 = .no := by
  rw [show G2 = ⟨4, ⟨#[92, 61]⟩, 0, [K5.tf, fa]⟩ from rfl, doP_at (b := .dif) rfl rfl]
  simp only [Bi.run, un2]
theorem vs {t : Tm} {f : Nat} (h : Fn [] f t) (hl : (vis [] f t).length ≤ 4096) : (visA [] t).length ≤ 4096 := by rw [visA_vis acyc_nil h]; exact hl
theorem d3 : doP [] G3 = .err 20 := by
  rw [show G3 = ⟨4, ⟨#[64, 60]⟩, 0, [kV 0, kV 1]⟩ from rfl, doP_at (b := .stands .lt) rfl rfl]
  simp only [Bi.run]
  rw [twoD_in (vs (fnV 0) (of_decide_eq_true (by kernel_rfl))) (vs (fnV 1) (of_decide_eq_true (by kernel_rfl))), appA_of acyc_nil (fnV 0), appA_of acyc_nil (fnV 1)]
  rw [show ordT (app [] 3 (kV 0)) (app [] 3 (kV 1)) = (0, false) by kernel_rfl]
  rfl
theorem d4 : doP [] G4 = .yes [] := by
  rw [show G4 = ⟨4, ⟨#[64, 60]⟩, 0, [kV 0, tI 1]⟩ from rfl, doP_at (b := .stands .lt) rfl rfl]
  simp only [Bi.run]
  rw [twoD_in (vs (fnV 0) (of_decide_eq_true (by kernel_rfl))) (vs (fnI 1) (of_decide_eq_true (by kernel_rfl))), appA_of acyc_nil (fnV 0), appA_of acyc_nil (fnI 1)]
  rw [show ordT (app [] 3 (kV 0)) (app [] 3 (tI 1)) = (-1, true) by kernel_rfl]
  rfl
theorem d5 : doP [] G5 = .err 21 := by
  rw [show G5 = ⟨4, ⟨#[60]⟩, 0, [tI 1, K5.A 97]⟩ from rfl, doP_at (b := .reckons .lt) rfl rfl]
  simp only [Bi.run, ev1, evAa, Rk.err, Rk.val]
  rw [if_neg (by simp), if_pos (by simp)]
theorem wf1 : G1.Wf := by simp [G1, P12, fa, K5.tf, K5.A, tI, kV, Tm.Wf, WfL, ByteArray.size]
theorem gb1 : GB [] G1.l := ⟨by simp [G1, P12, fa, K5.tf, K5.A, tI, kV, Tm.Wf, WfL, ByteArray.size], by simp [G1, P12, fa, K5.tf, K5.A, tI, kV, Tm.siz, sizL], (fun n t h => by cases h), by simp⟩
theorem wf2 : G2.Wf := by simp [G2, P12, fa, K5.tf, K5.A, tI, kV, Tm.Wf, WfL, ByteArray.size]
theorem gb2 : GB [] G2.l := ⟨by simp [G2, P12, fa, K5.tf, K5.A, tI, kV, Tm.Wf, WfL, ByteArray.size], by simp [G2, P12, fa, K5.tf, K5.A, tI, kV, Tm.siz, sizL], (fun n t h => by cases h), by simp⟩
theorem wf3 : G3.Wf := by simp [G3, P12, fa, K5.tf, K5.A, tI, kV, Tm.Wf, WfL, ByteArray.size]
theorem gb3 : GB [] G3.l := ⟨by simp [G3, P12, fa, K5.tf, K5.A, tI, kV, Tm.Wf, WfL, ByteArray.size], by simp [G3, P12, fa, K5.tf, K5.A, tI, kV, Tm.siz, sizL], (fun n t h => by cases h), by simp⟩
theorem wf4 : G4.Wf := by simp [G4, P12, fa, K5.tf, K5.A, tI, kV, Tm.Wf, WfL, ByteArray.size]
theorem gb4 : GB [] G4.l := ⟨by simp [G4, P12, fa, K5.tf, K5.A, tI, kV, Tm.Wf, WfL, ByteArray.size], by simp [G4, P12, fa, K5.tf, K5.A, tI, kV, Tm.siz, sizL], (fun n t h => by cases h), by simp⟩
theorem wf5 : G5.Wf := by simp [G5, P12, fa, K5.tf, K5.A, tI, kV, Tm.Wf, WfL, ByteArray.size]
theorem gb5 : GB [] G5.l := ⟨by simp [G5, P12, fa, K5.tf, K5.A, tI, kV, Tm.Wf, WfL, ByteArray.size], by simp [G5, P12, fa, K5.tf, K5.A, tI, kV, Tm.siz, sizL], (fun n t h => by cases h), by simp⟩
theorem w3 : wlk [(0, tI 3)] (kV 0) = tI 3 := by kernel_rfl
end K14
/-- What is known: slices of terms, the empty substitution, a further one, the table. -/
structure Kw14 (w : World) (L : List (List Tm × Value)) (l : Bs) (p b q c : Nat) (W : World) : Prop where
  kx : Kx w L l p b q c W
  tab : Tab W
section
variable {w W W' : World} {L : List (List Tm × Value)} {l l' : Bs} {p b q c p' b' : Nat}
theorem Kw14.then (h : Kw14 w L l p b q c W) (hb : Below W.heap.size W W') : Kw14 w L l p b q c W' := ⟨h.kx.then hb, tab_below h.tab hb⟩
theorem Kw14.F (s : ByteArray) (t : Tm) (x : List Tm) {v : Value} (h : Kw14 w ((t :: x, v) :: L) l p b q c W) (hz : x.length ≤ 999999) :
    Calls Tryd.prog 19 #[.string s, v] W fun e w' => ∃ A c', e = .returned (.agg #[.int .u8 4, .string s, .int .i64 0, .slice A (t :: x).length c']) ∧ Kw14 w ((t :: x, .slice A (t :: x).length c') :: L) l p b q c w' :=
  (h.kx.F s t x hz).mono (fun e w' ⟨A, c', he, hk, hb⟩ => ⟨A, c', he, hk, tab_below h.tab hb⟩)
theorem Kw14.one (h : Kw14 w L l p b q c W) (t : Tm) (u : Value) (hu : Kd.tm.S W (fun _ => True) t.l u) : Kw14 w (([t], .slice (some ⟨W.heap.size, 0, none⟩) 1 1) :: L) l p b q c (W.alloc (.cells #[.int .u8 t.k, .string t.s, .int .i64 t.n, u] 24)) :=
  ⟨h.kx.one t u hu, (h.then ((Below.refl _ W).alloc (Nat.le_refl _) _)).tab⟩
theorem Kw14.two (h : Kw14 w L l p b q c W) (t t' : Tm) (u u' : Value) (hu : Kd.tm.S W (fun _ => True) t.l u) (hu' : Kd.tm.S W (fun _ => True) t'.l u') :
    Kw14 w (([t, t'], .slice (some ⟨W.heap.size, 0, none⟩) 2 2) :: L) l p b q c (W.alloc (.cells #[.int .u8 t.k, .string t.s, .int .i64 t.n, u, .int .u8 t'.k, .string t'.s, .int .i64 t'.n, u'] 24)) :=
  ⟨h.kx.two t t' u u' hu hu', (h.then ((Below.refl _ W).alloc (Nat.le_refl _) _)).tab⟩
theorem Kw14.do (h : Kw14 w L l p b q c W) (g : Tm) (v : Value) (hm : (g.l, v) ∈ L) (hw : g.Wf) (hg : GB [] g.l) (hl : g.l.length ≤ 1000000) :
    Calls Tryd.prog 18 #[.pointer (some ⟨q, 0, none⟩), .agg #[.int .u8 g.k, .string g.s, .int .i64 g.n, v]] W (fun e w' => DPost W.heap.size (doP [] g) W e w') :=
  Do_c [] q c g _ W h.kx.new ⟨_, rfl, h.kx.get hm⟩ hw hg h.tab hl
end
set_option maxRecDepth 100000 in
set_option maxHeartbeats 8000000 in
theorem wakes14_c (w : World) (hT : Tab w) :
    Calls Tryd.prog 7 #[] w fun e w' => e = .returned (.bool true) ∧ Below w.heap.size w w' := by
  have m1 : Hid (0 = 0) := Lib.hid rfl
  have m2 : Hid (0 = 0) := Lib.hid rfl
  have m3 : Hid (0 = 0) := Lib.hid rfl
  have m4 : Hid (0 = 0) := Lib.hid rfl
  have m5 : Hid (0 = 0) := Lib.hid rfl
  have n1 : Hid (0 = 0) := Lib.hid rfl
  have n2 : Hid (0 = 0) := Lib.hid rfl
  have n3 : Hid (0 = 0) := Lib.hid rfl
  have n4 : Hid (0 = 0) := Lib.hid rfl
  have n5 : Hid (0 = 0) := Lib.hid rfl
  have n6 : Hid (0 = 0) := Lib.hid rfl
  have n7 : Hid (0 = 0) := Lib.hid rfl
  have n8 : Hid (0 = 0) := Lib.hid rfl
  have HT := Lib.hid hT
  clear hT
  go_enter Tryd.func7, Tryd.ntmps7
  go_wp2_with (first
    | (go_at_call 17; refine (New_c _ (fun _ => True)).mono ?_; rintro e w1 ⟨⟨q, c, rfl, hs, -, -⟩, hb1⟩; have hk : Kw14 w [] [] q c q c w1 := ⟨⟨⟨hb1, fun q hq => by cases hq⟩, hs, hs⟩, tab_below HT.out hb1⟩; clear hs hb1)
    | (go_at_call 20; refine (V_c _ _ (fun _ => True)).mono ?_; rintro e w2 ⟨rfl, hb1⟩; replace hk := hk.then hb1; clear hb1)
    | (go_at_call 22; refine (A_c _ _ (fun _ => True)).mono ?_; rintro e w2 ⟨rfl, hb1⟩; replace hk := hk.then hb1; clear hb1)
    | (go_at_call 21; refine (I_c _ _ (fun _ => True)).mono ?_; rintro e w2 ⟨rfl, hb1⟩; replace hk := hk.then hb1; clear hb1)
    | (go_at_call 19; have hx := n1.out; clear hx n1; refine ((hk.two (tI 1) (tI 2) _ _ (Kd.S.nil _ _ _) (Kd.S.nil _ _ _)).F ⟨#[43]⟩ (tI 1) [tI 2] (by simp)).mono ?_; rintro e w3 ⟨aA, ac, rfl, hk2⟩; replace hk := hk2; clear hk2)
    | (go_at_call 19; have hx := n2.out; clear hx n2; refine ((hk.two (kV 0) K14.P12 _ _ (Kd.S.nil _ _ _) (hk.kx.get (List.mem_cons_self ..))).F ⟨#[105, 115]⟩ (kV 0) [K14.P12] (by simp)).mono ?_; rintro e w3 ⟨bA, bc, rfl, hk2⟩; replace hk := hk2; clear hk2)
    | (go_at_call 19; have hx := n3.out; clear hx n3; refine ((hk.one (kV 0) _ (Kd.S.nil _ _ _)).F ⟨#[102]⟩ (kV 0) [] (by simp)).mono ?_; rintro e w3 ⟨dA, dc, rfl, hk2⟩; replace hk := hk2; clear hk2)
    | (go_at_call 19; have hx := n4.out; clear hx n4; refine ((hk.one (K5.A 97) _ (Kd.S.nil _ _ _)).F ⟨#[102]⟩ (K5.A 97) [] (by simp)).mono ?_; rintro e w3 ⟨gA, gc, rfl, hk2⟩; replace hk := hk2; clear hk2)
    | (go_at_call 19; have hx := n5.out; clear hx n5; refine ((hk.two K5.tf K14.fa _ _ (hk.kx.get (List.mem_cons_of_mem _ (List.mem_cons_self ..))) (hk.kx.get (List.mem_cons_self ..))).F ⟨#[92, 61]⟩ K5.tf [K14.fa] (by simp)).mono ?_; rintro e w3 ⟨hA, hc, rfl, hk2⟩; replace hk := hk2; clear hk2)
    | (go_at_call 19; have hx := n6.out; clear hx n6; refine ((hk.two (kV 0) (kV 1) _ _ (Kd.S.nil _ _ _) (Kd.S.nil _ _ _)).F ⟨#[64, 60]⟩ (kV 0) [kV 1] (by simp)).mono ?_; rintro e w3 ⟨iA, ic, rfl, hk2⟩; replace hk := hk2; clear hk2)
    | (go_at_call 19; have hx := n7.out; clear hx n7; refine ((hk.two (kV 0) (tI 1) _ _ (Kd.S.nil _ _ _) (Kd.S.nil _ _ _)).F ⟨#[64, 60]⟩ (kV 0) [tI 1] (by simp)).mono ?_; rintro e w3 ⟨jA, jc, rfl, hk2⟩; replace hk := hk2; clear hk2)
    | (go_at_call 19; have hx := n8.out; clear hx n8; refine ((hk.two (tI 1) (K5.A 97) _ _ (Kd.S.nil _ _ _) (Kd.S.nil _ _ _)).F ⟨#[60]⟩ (tI 1) [K5.A 97] (by simp)).mono ?_; rintro e w3 ⟨kA, kc, rfl, hk2⟩; replace hk := hk2; clear hk2)
    | (go_at_call 18; have hx := m1.out; clear hx m1; have hq := hk.do K14.G1 _ (List.mem_cons_self ..) K14.wf1 K14.gb1 (by simp [K14.G1]); rw [K14.d1] at hq; refine hq.mono ?_; clear hq; rintro e w4 ⟨⟨p, b, rfl, hs4⟩, hb4⟩; replace hk : Kw14 _ _ _ p b _ _ w4 := ⟨(hk.kx.then hb4).subs hs4, tab_below hk.tab hb4⟩; clear hs4 hb4)
    | (go_at_call 18; have hx := m2.out; clear hx m2; have hq := hk.do K14.G2 _ (List.mem_cons_self ..) K14.wf2 K14.gb2 (by simp [K14.G2]); rw [K14.d2] at hq; refine hq.mono ?_; clear hq; rintro e w4 ⟨rfl, hb4⟩; replace hk := hk.then hb4; clear hb4)
    | (go_at_call 18; have hx := m3.out; clear hx m3; have hq := hk.do K14.G3 _ (List.mem_cons_self ..) K14.wf3 K14.gb3 (by simp [K14.G3]); rw [K14.d3] at hq; refine hq.mono ?_; clear hq; rintro e w4 ⟨rfl, hb4⟩; replace hk := hk.then hb4; clear hb4)
    | (go_at_call 18; have hx := m4.out; clear hx m4; have hq := hk.do K14.G4 _ (List.mem_cons_self ..) K14.wf4 K14.gb4 (by simp [K14.G4]); rw [K14.d4] at hq; refine hq.mono ?_; clear hq; rintro e w4 ⟨⟨p4, b4, rfl, hs4⟩, hb4⟩; replace hk := hk.then hb4; clear hb4 hs4)
    | (go_at_call 18; have hx := m5.out; clear hx m5; have hq := hk.do K14.G5 _ (List.mem_cons_self ..) K14.wf5 K14.gb5 (by simp [K14.G5]); rw [K14.d5] at hq; refine hq.mono ?_; clear hq; rintro e w4 ⟨rfl, hb4⟩; replace hk := hk.then hb4; clear hb4)
    | (go_at_call 23; have hq := Walk_c [(0, tI 3)] p b (kV 0) _ _ _ hk.kx.sub ⟨_, rfl, Kd.S.nil _ _ (fun _ => True)⟩ (K5.wfV _ (by omega)); rw [K14.w3] at hq; refine hq.mono ?_; clear hq; rintro e w8 ⟨⟨u8, rfl, uu8, rfl, hu8⟩, hb8⟩; obtain ⟨A8, c8, rfl⟩ := hu8.form; have HB8 := Lib.hid (hk.then hb8); clear hu8 hb8))
  go_ret
  exact ⟨rfl, (HB8.out.then ((Below.refl _ _).alloc (Nat.le_refl _) _)).kx.ks.below⟩
end Go.Proofs.YtgcbanljifalnaaDoor

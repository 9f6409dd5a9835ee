/- The law OrderSorts, walked. Conditions: the arguments read; what they are made of is in its bounds. -/
import Derived.Test.YtdflckjnpgbjlaaZk
import Derived.Test.YtdflckjnpgbjlaaF7
set_option linter.unusedVariables false
set_option maxRecDepth 20000
set_option linter.unusedSimpArgs false
namespace Go.Proofs.Ytdflckjnpgbjlaa
open Go.RowKit
attribute [local go_sem ↓] Go.wp_at_zero Go.wp_at_succ
/-- What is known: both rows. -/
structure SR (w : World) (ok : Nat → Prop) (xs : List Tm) (A : Option Addr) (c : Nat) (M : List Tm) (A5 : Option Addr) (n c5 : Nat) (W : World) : Prop where
  b : Below w.heap.size w W
  l : Kd.tm.S W ok xs (.slice A n c)
  m : Kd.tm.S W (fun _ => True) M (.slice A5 n c5)
theorem SR.then {w : World} {ok : Nat → Prop} {xs : List Tm} {A : Option Addr} {c : Nat} {M : List Tm} {A5 : Option Addr} {n c5 : Nat} {W W' : World} (h : SR w ok xs A c M A5 n c5 W) (hb : Below W.heap.size W W') : SR w ok xs A c M A5 n c5 W' := ⟨below_then h.b h.b.size hb, h.l.below hb, h.m.below hb⟩
theorem SR.drew {w : World} {ok : Nat → Prop} {xs : List Tm} {A : Option Addr} {c : Nat} {M : List Tm} {A5 : Option Addr} {n c5 : Nat} {W : World} (h : SR w ok xs A c M A5 n c5 W) : SR w ok xs A c M A5 n c5 W.drew := h.then (Below.refl _ W).drew
/-- Element j of a row of terms. -/
theorem elemS {W : World} {ok : Nat → Prop} {M : List Tm} {b o n c : Nat} (h : Kd.tm.S W ok M (.slice (some ⟨b, o, none⟩) n c)) {j : Nat} (hj : j < M.length) :
    ∃ eA ec, W.cell? ⟨b, o + j * 4, none⟩ = some (.int .u8 M[j].k) ∧ W.cell? ⟨b, o + j * 4 + 1, none⟩ = some (.string M[j].s) ∧ W.cell? ⟨b, o + j * 4 + 2, none⟩ = some (.int .i64 M[j].n) ∧ W.cell? ⟨b, o + j * 4 + 3, none⟩ = some (.slice eA M[j].l.length ec) ∧ Kd.tm.S W ok M[j].l (.slice eA M[j].l.length ec) := by
  obtain ⟨_, _, e, _, _, hA⟩ := h
  injection e with e1 e2 e3
  subst e1 e3
  obtain ⟨b', o', u, e, _, _, h0, h1, h2, h3, h4⟩ := tm_elem hA hj
  injection e with e; injection e with p q; subst p q
  obtain ⟨eA, ec, rfl⟩ := h4.form
  exact ⟨eA, ec, h0, h1, h2, h3, h4⟩
theorem elemA {W : World} {ok : Nat → Prop} {M : List Tm} {A : Option Addr} {n c : Nat} (h : Kd.tm.S W ok M (.slice A n c)) (hj : 0 < M.length) : ∃ b o, A = some ⟨b, o, none⟩ := by
  obtain ⟨_, _, e, _, _, hA⟩ := h
  injection e with e1 e2 e3
  subst e1 e3
  obtain ⟨b', o', u, e, _⟩ := tm_elem hA hj
  exact ⟨b', o', e⟩
set_option maxRecDepth 100000 in
set_option maxHeartbeats 16000000 in
theorem OrderSorts_c (xs : List Tm) (v : Value) (w : World) (ok : Nat → Prop) (hv : Kd.tm.S w ok xs v) (hwf : WfL xs) :
    Calls Try.prog 13 #[v] w fun e w' => e = .returned (.bool true) ∧ Below w.heap.size w w' := by
  have HV := Lib.hid hv
  obtain ⟨A, c, rfl⟩ := hv.form
  have HGR := Lib.hid (Great_c xs _ w ok HV.out hwf)
  obtain ⟨N, hN⟩ : ∃ N, N = xs.length := ⟨_, rfl⟩
  rw [← hN] at HV HGR ⊢
  by_cases h30 : 30 < N
  · have h30' : (30 : Int) < N := by omega
    clear HGR HV hv hwf hN
    go_enter Try.func13, Try.ntmps13
    go_wp2_with (go_at_call 46; refine (wakes02_c _).mono ?_; rintro e w2 ⟨rfl, hb2⟩)
    go_ret
    exact ⟨rfl, hb2⟩
  have h30' : ¬ (30 : Int) < N := by omega
  cases hgr : great xs with
  | true =>
    rw [hgr] at HGR
    clear HV hv hwf hN
    go_enter Try.func13, Try.ntmps13
    go_wp2_with (first
      | (go_at_call 15; refine HGR.out.mono ?_; clear HGR; rintro e w1 ⟨rfl, hb1⟩)
      | (go_at_call 46; refine (wakes02_c _).mono ?_; rintro e w2 ⟨rfl, hb2⟩))
    go_ret
    exact ⟨rfl, below_then hb1 hb1.size hb2⟩
  | false =>
    rw [hgr] at HGR
    have HSZ := Lib.hid (great_siz hgr)
    have HW := Lib.hid hwf
    have HN := Lib.hid hN
    have HT := Lib.hid Try.infoT
    clear hv hwf hN hgr
    go_enter Try.func13, Try.ntmps13
    go_wp2_with (go_at_call 15; refine HGR.out.mono ?_; clear HGR; rintro e w1 ⟨rfl, hb1⟩)
    go_loopw [3] (fun i wr => ∃ j : Nat, j ≤ N ∧ i = .int .i64 j ∧ Hid (∀ x ∈ xs.take j, x.good = true) ∧ Below w.heap.size w wr) (fun i _ => N - (intOf i).toNat)
    case atStart => exact ⟨0, Nat.zero_le _, rfl, Lib.hid (by simp), hb1⟩
    case round =>
      clear hb1
      obtain ⟨j, hj, rfl, hgd, hb⟩ := hrel
      by_cases hlt : j < N
      · have hlt2 : (j : Int) < N := by omega
        have hlt3 : j < xs.length := by have := HN.out; omega
        have hV := HV.out.below hb
        obtain ⟨b, o, rfl⟩ := elemA hV (by omega)
        obtain ⟨eA, ec, y0, y1, y2, y3, y4⟩ := elemS hV (j := j) hlt3
        have HGD := Lib.hid (refGood_c xs[j] _ wr ok ⟨_, rfl, y4⟩ (by have := HSZ.out; have := siz_mem (List.getElem_mem hlt3); omega) ((WfL_iff.1 HW.out) _ (List.getElem_mem hlt3)))
        clear hV y4
        cases hx : xs[j].good with
        | false =>
          rw [hx] at HGD
          clear hgd
          go_wp2_with (first
            | (go_at_call 16; refine HGD.out.mono ?_; clear HGD; rintro e w2 ⟨rfl, hb2⟩)
            | (go_at_call 46; refine (wakes02_c _).mono ?_; rintro e w3 ⟨rfl, hb3⟩))
          go_ret
          exact ⟨rfl, below_then (below_then hb hb.size hb2) (by have := hb.size; have := hb2.size; omega) hb3⟩
        | true =>
          rw [hx] at HGD
          have hgd' : Hid (∀ x ∈ xs.take (j + 1), x.good = true) := Lib.hid (by
            rw [take_succ_at xs hlt3]
            intro x h
            rcases List.mem_append.1 h with h | h
            · exact hgd.out x h
            · rw [List.mem_singleton.1 h]; exact hx)
          clear hgd
          go_wp2_with (go_at_call 16; refine HGD.out.mono ?_; clear HGD; rintro e w2 ⟨rfl, hb2⟩)
          go_roundw
          case rel => exact ⟨j + 1, by omega, by go_num, hgd', below_then hb hb.size hb2⟩
          case measure => simp [intOf]; omega
      · have hlt2 : ¬ (j : Int) < N := by omega
        have hGA : Hid (∀ x ∈ xs, x.good = true) := Lib.hid (by
          have h := hgd.out
          rwa [List.take_of_length_le (by have := HN.out; omega)] at h)
        have hV := HV.out.below hb
        clear hgd HV
        go_wp2_with (at_builtin; refine Kd.appendS Kd.tm wr.heap.size (fun _ => True) ok ok rfl (.const (.slice none 0 0)) (.tmp 28) 22 24 (.agg #[.int .u8 0, .string ⟨#[]⟩, .int .i64 0, .slice none 0 0]) 56 rfl Try.underlying22 HT.out rfl (by decide) (.slice none 0 0) (.slice A N c) [] xs rfl rfl ?HO ?HY ?hoky ?hbase ?hl ?_)
        case HO => exact Kd.Own.nil _ _ _ _ _
        case HY => exact Kd.S.S2 hV
        case hoky => exact fun x cs hk => Kd.tm.mono (fun b hb => by first | exact ⟨trivial, by simp [Value.ownBlock]⟩ | simp [Value.ownBlock]) hk
        try case hbase => exact Nat.le_refl _
        case hl => (try simp only [List.length_nil]); have := HN.out; omega
        intro v1 w2 hO1 hg1 hat1
        try simp only [List.nil_append] at hO1
        obtain ⟨A1, c1, rfl⟩ := hO1.form
        have hB1 : Below wr.heap.size wr w2 := (Below.refl _ wr).grown hg1 (Nat.le_refl _) (fun k hk => by simp [Value.ownBlock] at hk)
        have hb2 := below_then hb hb.size hB1
        have hV2 := hV.below hB1
        have hW2 : Kd.tm.S w2 (fun _ => True) xs (.slice A1 xs.length c1) := hO1.S.mono (fun _ _ => trivial)
        have HSO := Lib.hid (SortR_c xs _ w2 ok hV2 (by have := HN.out; omega))
        have HEQ := Lib.hid (fun (W : World) (h1 : Kd.tm.S W ok xs (.slice A N c)) (h2 : Kd.tm.S W (fun _ => True) xs (.slice A1 xs.length c1)) => All_c xs xs _ _ W _ _ h1 h2)
        rw [show eqbL xs xs = true from (eqbL_iff xs xs).2 rfl] at HEQ
        rw [← HN.out] at HSO HEQ hW2 ⊢
        clear hat1 hg1 hO1 hV hB1 hb hj hlt hlt2 HT
        go_wp2_with (first
          | (go_at_call 47; refine HSO.out.mono ?_; clear HSO; rintro e w3 ⟨⟨A5, c5, M, rfl, hM1, hM2, hM3⟩, hb3⟩; have hV3 := hV2.below hb3; have hW3 := hW2.below hb3; have hb4 := below_then hb2 hb2.size hb3; clear hV2 hW2 hb2)
          | (go_at_call 34; refine (HEQ.out _ hV3 hW3).mono ?_; clear HEQ; rintro e w4 ⟨rfl, hb5⟩))
        have hX : SR w ok xs A c M A5 N c5 w4 := ⟨below_then hb4 hb4.size hb5, hV3.below hb5, hM3.below hb5⟩
        have HS := Lib.hid (And.intro hM1 hM2)
        have HG2 : Hid (∀ x ∈ M, x.good = true) := Lib.hid (fun x hx => hGA.out x (hM2.mem_iff.1 hx))
        have HWf : Hid (∀ x ∈ M, x.Wf) := Lib.hid (fun x hx => (WfL_iff.1 HW.out) x (hM2.mem_iff.1 hx))
        have hMl : M.length = N := by rw [hM2.length_eq]; exact HN.out.symm
        have hxl : xs.length = N := HN.out.symm
        clear hV3 hW3 hM3 hb4 hb5 hM1 hM2 hGA HW HSZ HN
        go_loopw [6] (fun i wq => ∃ j : Nat, j ≤ N ∧ i = .int .i64 j ∧ SR w ok xs A c M A5 N c5 wq) (fun i _ => N - (intOf i).toNat)
        case atStart => exact ⟨0, Nat.zero_le _, rfl, hX⟩
        case round =>
          clear hX
          obtain ⟨j, hj, rfl, hX⟩ := hrel
          by_cases hlt : j < N
          · obtain ⟨b, o, rfl⟩ := elemA hX.m (by omega)
            by_cases hj0 : j = 0
            · subst hj0
              obtain ⟨eA, ec, y0, y1, y2, y3, y4⟩ := elemS hX.m (j := 0) (by omega)
              have hwy := HWf.out (M[0]'(by omega)) (List.getElem_mem _)
              have hcq : cnt xs (M[0]'(by omega)) = cnt M (M[0]'(by omega)) := (HS.out.2.countP_eq _).symm
              have HA := Lib.hid (fun (W : World) (h : Kd.tm.S W (fun _ => True) (M[0]'(by omega)).l (.slice eA (M[0]'(by omega)).l.length ec)) (hX : SR w ok xs A c M (some ⟨b, o, none⟩) N c5 W) => count_c M (M[0]'(by omega)) _ _ W _ _ hX.m ⟨_, rfl, h⟩ (by omega))
              have HB := Lib.hid (fun (W : World) (h : Kd.tm.S W (fun _ => True) (M[0]'(by omega)).l (.slice eA (M[0]'(by omega)).l.length ec)) (hX : SR w ok xs A c M (some ⟨b, o, none⟩) N c5 W) => count_c xs (M[0]'(by omega)) _ _ W _ _ hX.l ⟨_, rfl, h⟩ (by omega))
              rw [hcq] at HB
              generalize cnt M (M[0]'(by omega)) = q at HA HB
              have hk2 : (0 : Int) < N := by omega
              simp only [Nat.zero_mul, Nat.add_zero] at y0 y1 y2 y3
              generalize (M[0]'(by omega)) = y at HA HB hwy y0 y1 y2 y3 y4
              clear hcq
              go_wp2
              refine wp_region_held_drew (S := (fun W => W.cell? ⟨b, o, none⟩ = some (.int .u8 y.k) ∧ W.cell? ⟨b, o + 1, none⟩ = some (.string y.s) ∧ W.cell? ⟨b, o + 2, none⟩ = some (.int .i64 y.n) ∧ W.cell? ⟨b, o + 3, none⟩ = some (.slice eA y.l.length ec) ∧ Kd.tm.S W (fun _ => True) y.l (.slice eA y.l.length ec) ∧ SR w ok xs A c M (some ⟨b, o, none⟩) N c5 W)) (by kernel_rfl) ?_ (fun hHeld => ?_)
              · exact ⟨y0, y1, y2, y3, y4.below (Below.refl _ wr).drew, hX.drew⟩
              change wpAnyH _ .any _ _ _ 30 (Array.replicate 30 false) _ _
              refine wpAnyH_take (i := 0) (oi := ⟨some 49, _, _, _, _, _⟩) (v := ?_) rfl (by kernel_rfl) (by kernel_rfl) (by kernel_rfl) (fun _ _ _ h => h) (Or.inl ⟨by rfl, ?_⟩) (by assumption) ?_
              rotate_left
              · (intro w hSw; (try dsimp only at hSw); go_simp; try (with_reducible rfl))
              (try simp only [Act.put, List.setIfInBounds_toArray, List.set_cons_zero, List.set_cons_succ])
              refine wpAnyH_take (i := 1) (oi := ⟨some 50, _, _, _, _, _⟩) (v := ?_) rfl (by kernel_rfl) (by kernel_rfl) (by kernel_rfl) (fun _ _ _ h => h) (Or.inl ⟨by rfl, ?_⟩) (by assumption) ?_
              rotate_left
              · (intro w hSw; (try dsimp only at hSw); go_simp; try (with_reducible rfl))
              (try simp only [Act.put, List.setIfInBounds_toArray, List.set_cons_zero, List.set_cons_succ])
              refine wpAnyH_take (i := 2) (oi := ⟨some 51, _, _, _, _, _⟩) (v := ?_) rfl (by kernel_rfl) (by kernel_rfl) (by kernel_rfl) (fun _ _ _ h => h) (Or.inl ⟨by rfl, ?_⟩) (by assumption) ?_
              rotate_left
              · (intro w hSw; (try dsimp only at hSw); go_simp; try (with_reducible rfl))
              (try simp only [Act.put, List.setIfInBounds_toArray, List.set_cons_zero, List.set_cons_succ])
              refine wpAnyH_take (i := 3) (oi := ⟨some 52, _, _, _, _, _⟩) rfl (by kernel_rfl) (by kernel_rfl) (by kernel_rfl) (fun _ _ _ h => h) (Or.inr ⟨by rfl, rfl⟩) (by assumption) ?_
              (try simp only [Act.put, List.setIfInBounds_toArray, List.set_cons_zero, List.set_cons_succ])
              refine wpAnyH_take (i := 4) (oi := ⟨some 53, _, _, _, _, _⟩) rfl (by kernel_rfl) (by kernel_rfl) (by kernel_rfl) (fun _ _ _ h => h) (Or.inr ⟨by rfl, rfl⟩) (by assumption) ?_
              (try simp only [Act.put, List.setIfInBounds_toArray, List.set_cons_zero, List.set_cons_succ])
              refine wpAnyH_take (i := 5) (oi := ⟨some 54, _, _, _, _, _⟩) rfl (by kernel_rfl) (by kernel_rfl) (by kernel_rfl) (fun _ _ _ h => h) (Or.inr ⟨by rfl, rfl⟩) (by assumption) ?_
              (try simp only [Act.put, List.setIfInBounds_toArray, List.set_cons_zero, List.set_cons_succ])
              refine wpAnyH_take (i := 6) (oi := ⟨some 55, _, _, _, _, _⟩) rfl (by kernel_rfl) (by kernel_rfl) (by kernel_rfl) (fun _ _ _ h => h) (Or.inr ⟨by rfl, rfl⟩) (by assumption) ?_
              (try simp only [Act.put, List.setIfInBounds_toArray, List.set_cons_zero, List.set_cons_succ])
              refine wpAnyH_take (i := 7) (oi := ⟨some 56, _, _, _, _, _⟩) rfl (by kernel_rfl) (by kernel_rfl) (by kernel_rfl) (fun _ _ _ h => h) (Or.inr ⟨by rfl, rfl⟩) (by assumption) ?_
              (try simp only [Act.put, List.setIfInBounds_toArray, List.set_cons_zero, List.set_cons_succ])
              refine wpAnyH_take (i := 8) (oi := ⟨some 57, _, _, _, _, _⟩) rfl (by kernel_rfl) (by kernel_rfl) (by kernel_rfl) (fun _ _ _ h => h) (Or.inr ⟨by rfl, rfl⟩) (by assumption) ?_
              (try simp only [Act.put, List.setIfInBounds_toArray, List.set_cons_zero, List.set_cons_succ])
              refine wpAnyH_take (i := 9) (oi := ⟨some 58, _, _, _, _, _⟩) rfl (by kernel_rfl) (by kernel_rfl) (by kernel_rfl) (fun _ _ _ h => h) (Or.inr ⟨by rfl, rfl⟩) (by assumption) ?_
              (try simp only [Act.put, List.setIfInBounds_toArray, List.set_cons_zero, List.set_cons_succ])
              refine wpAnyH_take (i := 10) (oi := ⟨some 59, _, _, _, _, _⟩) rfl (by kernel_rfl) (by kernel_rfl) (by kernel_rfl) (fun _ _ _ h => h) (Or.inr ⟨by rfl, rfl⟩) (by assumption) ?_
              (try simp only [Act.put, List.setIfInBounds_toArray, List.set_cons_zero, List.set_cons_succ])
              refine wpAnyH_take (i := 11) (oi := ⟨some 60, _, _, _, _, _⟩) rfl (by kernel_rfl) (by kernel_rfl) (by kernel_rfl) (fun _ _ _ h => h) (Or.inr ⟨by rfl, rfl⟩) (by assumption) ?_
              (try simp only [Act.put, List.setIfInBounds_toArray, List.set_cons_zero, List.set_cons_succ])
              refine wpAnyH_take (i := 12) (oi := ⟨some 61, _, _, _, _, _⟩) rfl (by kernel_rfl) (by kernel_rfl) (by kernel_rfl) (fun _ _ _ h => h) (Or.inr ⟨by rfl, rfl⟩) (by assumption) ?_
              (try simp only [Act.put, List.setIfInBounds_toArray, List.set_cons_zero, List.set_cons_succ])
              refine wpAnyH_take (i := 13) (oi := ⟨some 62, _, _, _, _, _⟩) rfl (by kernel_rfl) (by kernel_rfl) (by kernel_rfl) (fun _ _ _ h => h) (Or.inr ⟨by rfl, rfl⟩) (by assumption) ?_
              (try simp only [Act.put, List.setIfInBounds_toArray, List.set_cons_zero, List.set_cons_succ])
              refine wpAnyH_take (i := 14) (oi := ⟨some 63, _, _, _, _, _⟩) (v := ?_) rfl (by kernel_rfl) (by kernel_rfl) (by kernel_rfl) (fun _ _ _ h => h) (Or.inl ⟨by rfl, ?_⟩) (by assumption) ?_
              rotate_left
              · (intro w hSw; (try dsimp only at hSw); go_simp; try (with_reducible rfl))
              (try simp only [Act.put, List.setIfInBounds_toArray, List.set_cons_zero, List.set_cons_succ])
              refine wpAnyH_take (i := 15) (oi := ⟨some 64, _, _, _, _, _⟩) (v := ?_) rfl (by kernel_rfl) (by kernel_rfl) (by kernel_rfl) (fun _ _ _ h => h) (Or.inl ⟨by rfl, ?_⟩) (by assumption) ?_
              rotate_left
              · (intro w hSw; (try dsimp only at hSw); go_simp; try (with_reducible rfl))
              (try simp only [Act.put, List.setIfInBounds_toArray, List.set_cons_zero, List.set_cons_succ])
              refine wpAnyH_take (i := 16) (oi := ⟨some 65, _, _, _, _, _⟩) (v := ?_) rfl (by kernel_rfl) (by kernel_rfl) (by kernel_rfl) (fun _ _ _ h => h) (Or.inl ⟨by rfl, ?_⟩) (by assumption) ?_
              rotate_left
              · (intro w hSw; (try dsimp only at hSw); go_simp; try (with_reducible rfl))
              (try simp only [Act.put, List.setIfInBounds_toArray, List.set_cons_zero, List.set_cons_succ])
              refine wpAnyH_take (i := 17) (oi := ⟨some 66, _, _, _, _, _⟩) (v := ?_) rfl (by kernel_rfl) (by kernel_rfl) (by kernel_rfl) (fun _ _ _ h => h) (Or.inl ⟨by rfl, ?_⟩) (by assumption) ?_
              rotate_left
              · (intro w hSw; (try dsimp only at hSw); go_simp; try (with_reducible rfl))
              (try simp only [Act.put, List.setIfInBounds_toArray, List.set_cons_zero, List.set_cons_succ])
              refine wpAnyH_take (i := 18) (oi := ⟨some 67, _, _, _, _, _⟩) (v := ?_) rfl (by kernel_rfl) (by kernel_rfl) (by kernel_rfl) (fun _ _ _ h => h) (Or.inl ⟨by rfl, ?_⟩) (by assumption) ?_
              rotate_left
              · (intro w hSw; (try dsimp only at hSw); go_simp; try (with_reducible rfl))
              (try simp only [Act.put, List.setIfInBounds_toArray, List.set_cons_zero, List.set_cons_succ])
              refine wpAnyH_take (i := 19) (oi := ⟨some 68, _, _, _, _, _⟩) (v := ?_) rfl (by kernel_rfl) (by kernel_rfl) (by kernel_rfl) (fun _ _ _ h => h) (Or.inl ⟨by rfl, ?_⟩) (by assumption) ?_
              rotate_left
              · (intro w hSw; (try dsimp only at hSw); go_simp; try (with_reducible rfl))
              (try simp only [Act.put, List.setIfInBounds_toArray, List.set_cons_zero, List.set_cons_succ])
              refine wpAnyH_take (i := 20) (oi := ⟨some 69, _, _, _, _, _⟩) (v := ?_) rfl (by kernel_rfl) (by kernel_rfl) (by kernel_rfl) (fun _ _ _ h => h) (Or.inl ⟨by rfl, ?_⟩) (by assumption) ?_
              rotate_left
              · (intro w hSw; (try dsimp only at hSw); go_simp; try (with_reducible rfl))
              (try simp only [Act.put, List.setIfInBounds_toArray, List.set_cons_zero, List.set_cons_succ])
              refine wpAnyH_take (i := 22) (oi := ⟨some 71, _, _, _, _, _⟩) (v := ?_) rfl (by kernel_rfl) (by kernel_rfl) (by kernel_rfl) (fun _ _ _ h => h) (Or.inl ⟨by rfl, ?_⟩) (by assumption) ?_
              rotate_left
              · (intro w hSw; (try dsimp only at hSw); go_simp; try (with_reducible rfl))
              (try simp only [Act.put, List.setIfInBounds_toArray, List.set_cons_zero, List.set_cons_succ])
              refine wpAnyH_take (i := 23) (oi := ⟨some 72, _, _, _, _, _⟩) (v := ?_) rfl (by kernel_rfl) (by kernel_rfl) (by kernel_rfl) (fun _ _ _ h => h) (Or.inl ⟨by rfl, ?_⟩) (by assumption) ?_
              rotate_left
              · (intro w hSw; (try dsimp only at hSw); go_simp; try (with_reducible rfl))
              (try simp only [Act.put, List.setIfInBounds_toArray, List.set_cons_zero, List.set_cons_succ])
              refine wpAnyH_take (i := 24) (oi := ⟨some 73, _, _, _, _, _⟩) (v := ?_) rfl (by kernel_rfl) (by kernel_rfl) (by kernel_rfl) (fun _ _ _ h => h) (Or.inl ⟨by rfl, ?_⟩) (by assumption) ?_
              rotate_left
              · (intro w hSw; (try dsimp only at hSw); go_simp; try (with_reducible rfl))
              (try simp only [Act.put, List.setIfInBounds_toArray, List.set_cons_zero, List.set_cons_succ])
              refine wpAnyH_take (i := 25) (oi := ⟨some 74, _, _, _, _, _⟩) (v := ?_) rfl (by kernel_rfl) (by kernel_rfl) (by kernel_rfl) (fun _ _ _ h => h) (Or.inl ⟨by rfl, ?_⟩) (by assumption) ?_
              rotate_left
              · (intro w hSw; (try dsimp only at hSw); go_simp; try (with_reducible rfl))
              (try simp only [Act.put, List.setIfInBounds_toArray, List.set_cons_zero, List.set_cons_succ])
              refine wpAnyH_take (i := 26) (oi := ⟨some 75, _, _, _, _, _⟩) (v := ?_) rfl (by kernel_rfl) (by kernel_rfl) (by kernel_rfl) (fun _ _ _ h => h) (Or.inl ⟨by rfl, ?_⟩) (by assumption) ?_
              rotate_left
              · (intro w hSw; (try dsimp only at hSw); go_simp; try (with_reducible rfl))
              (try simp only [Act.put, List.setIfInBounds_toArray, List.set_cons_zero, List.set_cons_succ])
              refine wpAnyH_ready (rs := [21]) (by kernel_rfl) (by simp) ?_
              refine AllReadyH.cons (o := ⟨some 70, _, _, _, _, _⟩) rfl (fun K hK => ?_) AllReadyH.nil
              go_simp
              obtain ⟨q0, q1, q2, q3, q4, q5⟩ := id hHeld
              refine (HA.out _ q4 q5).mono ?_
              clear q0 q1 q2 q3 q4 q5
              rintro e w10 ⟨rfl, hb10⟩
              go_wp2_with fail
              refine hK.out _ _ (by obtain ⟨q0, q1, q2, q3, q4, q5⟩ := hHeld; exact ⟨held_cell hb10 q0, held_cell hb10 q1, held_cell hb10 q2, held_cell hb10 q3, q4.below hb10, q5.then hb10⟩) (fun hHeld => ?_)
              clear hK K
              (try simp only [Act.put, List.setIfInBounds_toArray, List.set_cons_zero, List.set_cons_succ])
              refine wpAnyH_ready (rs := [27]) (by kernel_rfl) (by simp) ?_
              refine AllReadyH.cons (o := ⟨some 76, _, _, _, _, _⟩) rfl (fun K hK => ?_) AllReadyH.nil
              go_simp
              obtain ⟨q0, q1, q2, q3, q4, q5⟩ := id hHeld
              refine (HB.out _ q4 q5).mono ?_
              clear q0 q1 q2 q3 q4 q5
              rintro e w11 ⟨rfl, hb11⟩
              go_wp2_with fail
              refine hK.out _ _ (by obtain ⟨q0, q1, q2, q3, q4, q5⟩ := hHeld; exact ⟨held_cell hb11 q0, held_cell hb11 q1, held_cell hb11 q2, held_cell hb11 q3, q4.below hb11, q5.then hb11⟩) (fun hHeld => ?_)
              clear hK K
              (try simp only [Act.put, List.setIfInBounds_toArray, List.set_cons_zero, List.set_cons_succ])
              refine wpAnyH_take (i := 28) (oi := ⟨some 77, _, _, _, _, _⟩) (v := ?_) rfl (by kernel_rfl) (by kernel_rfl) (by kernel_rfl) (fun _ _ _ h => h) (Or.inl ⟨by rfl, ?_⟩) (by assumption) ?_
              rotate_left
              · (intro w hSw; (try dsimp only at hSw); go_simp; try (with_reducible rfl))
              (try simp only [Act.put, List.setIfInBounds_toArray, List.set_cons_zero, List.set_cons_succ])
              refine wpAnyH_take (i := 29) (oi := ⟨some 78, _, _, _, _, _⟩) (v := ?_) rfl (by kernel_rfl) (by kernel_rfl) (by kernel_rfl) (fun _ _ _ h => h) (Or.inl ⟨by rfl, ?_⟩) (by assumption) ?_
              rotate_left
              · (intro w hSw; (try dsimp only at hSw); go_simp; try (with_reducible rfl))
              (try simp only [Act.put, List.setIfInBounds_toArray, List.set_cons_zero, List.set_cons_succ])
              refine wpAnyH_done (by kernel_rfl) ?_ _
              have hH := hHeld.2.2.2.2.2
              clear hHeld
              go_wp2
              go_roundw
              case rel => exact ⟨1, by omega, by go_num, hH⟩
              case measure => simp [intOf]; omega
            · obtain ⟨k, hjk⟩ : ∃ k, j = k + 1 := ⟨j - 1, by omega⟩
              obtain ⟨eA, ec, y0, y1, y2, y3, y4⟩ := elemS hX.m (j := j) (by omega)
              obtain ⟨pA, pc, x0, x1, x2, x3, x4⟩ := elemS hX.m (j := k) (by omega)
              have hle := HS.out.1
              have hwx := HWf.out M[k] (List.getElem_mem _)
              have hrx : Hid (¬ 0 < refT M[k] M[j]) := Lib.hid (by rw [ref_cmp_good (HG2.out _ (List.getElem_mem _)) (HG2.out _ (List.getElem_mem _))]; have := List.pairwise_iff_getElem.1 hle k j (by omega) (by omega) (by omega); unfold Le at this; omega)
              have hwy := HWf.out (M[j]'(by omega)) (List.getElem_mem _)
              have hcq : cnt xs (M[j]'(by omega)) = cnt M (M[j]'(by omega)) := (HS.out.2.countP_eq _).symm
              have HA := Lib.hid (fun (W : World) (h : Kd.tm.S W (fun _ => True) (M[j]'(by omega)).l (.slice eA (M[j]'(by omega)).l.length ec)) (hX : SR w ok xs A c M (some ⟨b, o, none⟩) N c5 W) => count_c M (M[j]'(by omega)) _ _ W _ _ hX.m ⟨_, rfl, h⟩ (by omega))
              have HB := Lib.hid (fun (W : World) (h : Kd.tm.S W (fun _ => True) (M[j]'(by omega)).l (.slice eA (M[j]'(by omega)).l.length ec)) (hX : SR w ok xs A c M (some ⟨b, o, none⟩) N c5 W) => count_c xs (M[j]'(by omega)) _ _ W _ _ hX.l ⟨_, rfl, h⟩ (by omega))
              rw [hcq] at HB
              generalize cnt M (M[j]'(by omega)) = q at HA HB
              have HC := Lib.hid (fun (W : World) (h1 : Kd.tm.S W (fun _ => True) M[k].l (.slice pA M[k].l.length pc)) (h2 : Kd.tm.S W (fun _ => True) M[j].l (.slice eA M[j].l.length ec)) => refCompare_c M[k] M[j] W _ _ _ _ ⟨_, rfl, h1⟩ ⟨_, rfl, h2⟩ hwx hwy)
              generalize refT M[k] M[j] = d at HC hrx
              have hr1 := hrx.out
              have hr2 : decide (0 < d) = false := by simpa using hr1
              have hr3 : decide (d > 0) = false := by simpa using hr1
              have hk1 : IntKind.i64.wrap ((j : Int) - 1) = (k : Int) := by rw [IntKind.wrap_i64]; omega
              have hk5 : IntKind.i64.wrap (k : Int) = (k : Int) := by rw [IntKind.wrap_i64]; omega
              have hk2 : (k : Int) < N := by omega
              have hk3 : (j : Int) < N := by omega
              have hk4 : (0 : Int) < (j : Int) := by omega
              have hk6 : 0 < j := by omega
              generalize M[k] = x at HC hwx x0 x1 x2 x3 x4
              generalize M[j] = y at HC HA HB hwy y0 y1 y2 y3 y4
              clear hcq hle hrx hjk
              go_wp2
              refine wp_region_held_drew (S := (fun W => W.cell? ⟨b, o + k * 4, none⟩ = some (.int .u8 x.k) ∧ W.cell? ⟨b, o + k * 4 + 1, none⟩ = some (.string x.s) ∧ W.cell? ⟨b, o + k * 4 + 2, none⟩ = some (.int .i64 x.n) ∧ W.cell? ⟨b, o + k * 4 + 3, none⟩ = some (.slice pA x.l.length pc) ∧ W.cell? ⟨b, o + j * 4, none⟩ = some (.int .u8 y.k) ∧ W.cell? ⟨b, o + j * 4 + 1, none⟩ = some (.string y.s) ∧ W.cell? ⟨b, o + j * 4 + 2, none⟩ = some (.int .i64 y.n) ∧ W.cell? ⟨b, o + j * 4 + 3, none⟩ = some (.slice eA y.l.length ec) ∧ Kd.tm.S W (fun _ => True) x.l (.slice pA x.l.length pc) ∧ Kd.tm.S W (fun _ => True) y.l (.slice eA y.l.length ec) ∧ SR w ok xs A c M (some ⟨b, o, none⟩) N c5 W)) (by kernel_rfl) ?_ (fun hHeld => ?_)
              · exact ⟨x0, x1, x2, x3, y0, y1, y2, y3, x4.below (Below.refl _ wr).drew, y4.below (Below.refl _ wr).drew, hX.drew⟩
              change wpAnyH _ .any _ _ _ 30 (Array.replicate 30 false) _ _
              refine wpAnyH_take (i := 0) (oi := ⟨some 49, _, _, _, _, _⟩) (v := ?_) rfl (by kernel_rfl) (by kernel_rfl) (by kernel_rfl) (fun _ _ _ h => h) (Or.inl ⟨by rfl, ?_⟩) (by assumption) ?_
              rotate_left
              · (intro w hSw; (try dsimp only at hSw); go_simp; try (with_reducible rfl))
              (try simp only [Act.put, List.setIfInBounds_toArray, List.set_cons_zero, List.set_cons_succ])
              refine wpAnyH_take (i := 1) (oi := ⟨some 50, _, _, _, _, _⟩) (v := ?_) rfl (by kernel_rfl) (by kernel_rfl) (by kernel_rfl) (fun _ _ _ h => h) (Or.inl ⟨by rfl, ?_⟩) (by assumption) ?_
              rotate_left
              · (intro w hSw; (try dsimp only at hSw); go_simp; try (with_reducible rfl))
              (try simp only [Act.put, List.setIfInBounds_toArray, List.set_cons_zero, List.set_cons_succ])
              refine wpAnyH_take (i := 2) (oi := ⟨some 51, _, _, _, _, _⟩) (v := ?_) rfl (by kernel_rfl) (by kernel_rfl) (by kernel_rfl) (fun _ _ _ h => h) (Or.inl ⟨by rfl, ?_⟩) (by assumption) ?_
              rotate_left
              · (intro w hSw; (try dsimp only at hSw); go_simp; try (with_reducible rfl))
              (try simp only [Act.put, List.setIfInBounds_toArray, List.set_cons_zero, List.set_cons_succ])
              refine wpAnyH_take (i := 3) (oi := ⟨some 52, _, _, _, _, _⟩) (v := ?_) rfl (by kernel_rfl) (by kernel_rfl) (by kernel_rfl) (fun _ _ _ h => h) (Or.inl ⟨by rfl, ?_⟩) (by assumption) ?_
              rotate_left
              · (intro w hSw; (try dsimp only at hSw); go_simp; try (with_reducible rfl))
              (try simp only [Act.put, List.setIfInBounds_toArray, List.set_cons_zero, List.set_cons_succ])
              refine wpAnyH_take (i := 4) (oi := ⟨some 53, _, _, _, _, _⟩) (v := ?_) rfl (by kernel_rfl) (by kernel_rfl) (by kernel_rfl) (fun _ _ _ h => h) (Or.inl ⟨by rfl, ?_⟩) (by assumption) ?_
              rotate_left
              · (intro w hSw; (try dsimp only at hSw); go_simp; try (with_reducible rfl))
              (try simp only [Act.put, List.setIfInBounds_toArray, List.set_cons_zero, List.set_cons_succ])
              refine wpAnyH_take (i := 5) (oi := ⟨some 54, _, _, _, _, _⟩) (v := ?_) rfl (by kernel_rfl) (by kernel_rfl) (by kernel_rfl) (fun _ _ _ h => h) (Or.inl ⟨by rfl, ?_⟩) (by assumption) ?_
              rotate_left
              · (intro w hSw; (try dsimp only at hSw); go_simp; try (with_reducible rfl))
              (try simp only [Act.put, List.setIfInBounds_toArray, List.set_cons_zero, List.set_cons_succ])
              refine wpAnyH_take (i := 6) (oi := ⟨some 55, _, _, _, _, _⟩) (v := ?_) rfl (by kernel_rfl) (by kernel_rfl) (by kernel_rfl) (fun _ _ _ h => h) (Or.inl ⟨by rfl, ?_⟩) (by assumption) ?_
              rotate_left
              · (intro w hSw; (try dsimp only at hSw); go_simp; try (with_reducible rfl))
              (try simp only [Act.put, List.setIfInBounds_toArray, List.set_cons_zero, List.set_cons_succ])
              refine wpAnyH_take (i := 7) (oi := ⟨some 56, _, _, _, _, _⟩) (v := ?_) rfl (by kernel_rfl) (by kernel_rfl) (by kernel_rfl) (fun _ _ _ h => h) (Or.inl ⟨by rfl, ?_⟩) (by assumption) ?_
              rotate_left
              · (intro w hSw; (try dsimp only at hSw); go_simp; try (with_reducible rfl))
              (try simp only [Act.put, List.setIfInBounds_toArray, List.set_cons_zero, List.set_cons_succ])
              refine wpAnyH_take (i := 8) (oi := ⟨some 57, _, _, _, _, _⟩) (v := ?_) rfl (by kernel_rfl) (by kernel_rfl) (by kernel_rfl) (fun _ _ _ h => h) (Or.inl ⟨by rfl, ?_⟩) (by assumption) ?_
              rotate_left
              · (intro w hSw; (try dsimp only at hSw); go_simp; try (with_reducible rfl))
              (try simp only [Act.put, List.setIfInBounds_toArray, List.set_cons_zero, List.set_cons_succ])
              refine wpAnyH_take (i := 9) (oi := ⟨some 58, _, _, _, _, _⟩) (v := ?_) rfl (by kernel_rfl) (by kernel_rfl) (by kernel_rfl) (fun _ _ _ h => h) (Or.inl ⟨by rfl, ?_⟩) (by assumption) ?_
              rotate_left
              · (intro w hSw; (try dsimp only at hSw); go_simp; try (with_reducible rfl))
              (try simp only [Act.put, List.setIfInBounds_toArray, List.set_cons_zero, List.set_cons_succ])
              refine wpAnyH_take (i := 10) (oi := ⟨some 59, _, _, _, _, _⟩) (v := ?_) rfl (by kernel_rfl) (by kernel_rfl) (by kernel_rfl) (fun _ _ _ h => h) (Or.inl ⟨by rfl, ?_⟩) (by assumption) ?_
              rotate_left
              · (intro w hSw; (try dsimp only at hSw); go_simp; try (with_reducible rfl))
              (try simp only [Act.put, List.setIfInBounds_toArray, List.set_cons_zero, List.set_cons_succ])
              refine wpAnyH_take (i := 11) (oi := ⟨some 60, _, _, _, _, _⟩) (v := ?_) rfl (by kernel_rfl) (by kernel_rfl) (by kernel_rfl) (fun _ _ _ h => h) (Or.inl ⟨by rfl, ?_⟩) (by assumption) ?_
              rotate_left
              · (intro w hSw; (try dsimp only at hSw); go_simp; try (with_reducible rfl))
              (try simp only [Act.put, List.setIfInBounds_toArray, List.set_cons_zero, List.set_cons_succ])
              refine wpAnyH_ready (rs := [12]) (by kernel_rfl) (by simp) ?_
              refine AllReadyH.cons (o := ⟨some 61, _, _, _, _, _⟩) rfl (fun K hK => ?_) AllReadyH.nil
              go_simp
              obtain ⟨q0, q1, q2, q3, q4, q5, q6, q7, q8, q9, q10⟩ := id hHeld
              refine (HC.out _ q8 q9).mono ?_
              clear q0 q1 q2 q3 q4 q5 q6 q7 q8 q9 q10
              rintro e w9 ⟨rfl, hb9⟩
              go_wp2_with fail
              refine hK.out _ _ (by obtain ⟨q0, q1, q2, q3, q4, q5, q6, q7, q8, q9, q10⟩ := hHeld; exact ⟨held_cell hb9 q0, held_cell hb9 q1, held_cell hb9 q2, held_cell hb9 q3, held_cell hb9 q4, held_cell hb9 q5, held_cell hb9 q6, held_cell hb9 q7, q8.below hb9, q9.below hb9, q10.then hb9⟩) (fun hHeld => ?_)
              clear hK K
              (try simp only [Act.put, List.setIfInBounds_toArray, List.set_cons_zero, List.set_cons_succ])
              refine wpAnyH_take (i := 13) (oi := ⟨some 62, _, _, _, _, _⟩) (v := ?_) rfl (by kernel_rfl) (by kernel_rfl) (by kernel_rfl) (fun _ _ _ h => h) (Or.inl ⟨by rfl, ?_⟩) (by assumption) ?_
              rotate_left
              · (intro w hSw; (try dsimp only at hSw); go_simp; try (with_reducible rfl))
              (try simp only [Act.put, List.setIfInBounds_toArray, List.set_cons_zero, List.set_cons_succ])
              refine wpAnyH_take (i := 14) (oi := ⟨some 63, _, _, _, _, _⟩) (v := ?_) rfl (by kernel_rfl) (by kernel_rfl) (by kernel_rfl) (fun _ _ _ h => h) (Or.inl ⟨by rfl, ?_⟩) (by assumption) ?_
              rotate_left
              · (intro w hSw; (try dsimp only at hSw); go_simp; try (with_reducible rfl))
              (try simp only [Act.put, List.setIfInBounds_toArray, List.set_cons_zero, List.set_cons_succ])
              refine wpAnyH_take (i := 15) (oi := ⟨some 64, _, _, _, _, _⟩) (v := ?_) rfl (by kernel_rfl) (by kernel_rfl) (by kernel_rfl) (fun _ _ _ h => h) (Or.inl ⟨by rfl, ?_⟩) (by assumption) ?_
              rotate_left
              · (intro w hSw; (try dsimp only at hSw); go_simp; try (with_reducible rfl))
              (try simp only [Act.put, List.setIfInBounds_toArray, List.set_cons_zero, List.set_cons_succ])
              refine wpAnyH_take (i := 16) (oi := ⟨some 65, _, _, _, _, _⟩) (v := ?_) rfl (by kernel_rfl) (by kernel_rfl) (by kernel_rfl) (fun _ _ _ h => h) (Or.inl ⟨by rfl, ?_⟩) (by assumption) ?_
              rotate_left
              · (intro w hSw; (try dsimp only at hSw); go_simp; try (with_reducible rfl))
              (try simp only [Act.put, List.setIfInBounds_toArray, List.set_cons_zero, List.set_cons_succ])
              refine wpAnyH_take (i := 17) (oi := ⟨some 66, _, _, _, _, _⟩) (v := ?_) rfl (by kernel_rfl) (by kernel_rfl) (by kernel_rfl) (fun _ _ _ h => h) (Or.inl ⟨by rfl, ?_⟩) (by assumption) ?_
              rotate_left
              · (intro w hSw; (try dsimp only at hSw); go_simp; try (with_reducible rfl))
              (try simp only [Act.put, List.setIfInBounds_toArray, List.set_cons_zero, List.set_cons_succ])
              refine wpAnyH_take (i := 18) (oi := ⟨some 67, _, _, _, _, _⟩) (v := ?_) rfl (by kernel_rfl) (by kernel_rfl) (by kernel_rfl) (fun _ _ _ h => h) (Or.inl ⟨by rfl, ?_⟩) (by assumption) ?_
              rotate_left
              · (intro w hSw; (try dsimp only at hSw); go_simp; try (with_reducible rfl))
              (try simp only [Act.put, List.setIfInBounds_toArray, List.set_cons_zero, List.set_cons_succ])
              refine wpAnyH_take (i := 19) (oi := ⟨some 68, _, _, _, _, _⟩) (v := ?_) rfl (by kernel_rfl) (by kernel_rfl) (by kernel_rfl) (fun _ _ _ h => h) (Or.inl ⟨by rfl, ?_⟩) (by assumption) ?_
              rotate_left
              · (intro w hSw; (try dsimp only at hSw); go_simp; try (with_reducible rfl))
              (try simp only [Act.put, List.setIfInBounds_toArray, List.set_cons_zero, List.set_cons_succ])
              refine wpAnyH_take (i := 20) (oi := ⟨some 69, _, _, _, _, _⟩) (v := ?_) rfl (by kernel_rfl) (by kernel_rfl) (by kernel_rfl) (fun _ _ _ h => h) (Or.inl ⟨by rfl, ?_⟩) (by assumption) ?_
              rotate_left
              · (intro w hSw; (try dsimp only at hSw); go_simp; try (with_reducible rfl))
              (try simp only [Act.put, List.setIfInBounds_toArray, List.set_cons_zero, List.set_cons_succ])
              refine wpAnyH_take (i := 22) (oi := ⟨some 71, _, _, _, _, _⟩) (v := ?_) rfl (by kernel_rfl) (by kernel_rfl) (by kernel_rfl) (fun _ _ _ h => h) (Or.inl ⟨by rfl, ?_⟩) (by assumption) ?_
              rotate_left
              · (intro w hSw; (try dsimp only at hSw); go_simp; try (with_reducible rfl))
              (try simp only [Act.put, List.setIfInBounds_toArray, List.set_cons_zero, List.set_cons_succ])
              refine wpAnyH_take (i := 23) (oi := ⟨some 72, _, _, _, _, _⟩) (v := ?_) rfl (by kernel_rfl) (by kernel_rfl) (by kernel_rfl) (fun _ _ _ h => h) (Or.inl ⟨by rfl, ?_⟩) (by assumption) ?_
              rotate_left
              · (intro w hSw; (try dsimp only at hSw); go_simp; try (with_reducible rfl))
              (try simp only [Act.put, List.setIfInBounds_toArray, List.set_cons_zero, List.set_cons_succ])
              refine wpAnyH_take (i := 24) (oi := ⟨some 73, _, _, _, _, _⟩) (v := ?_) rfl (by kernel_rfl) (by kernel_rfl) (by kernel_rfl) (fun _ _ _ h => h) (Or.inl ⟨by rfl, ?_⟩) (by assumption) ?_
              rotate_left
              · (intro w hSw; (try dsimp only at hSw); go_simp; try (with_reducible rfl))
              (try simp only [Act.put, List.setIfInBounds_toArray, List.set_cons_zero, List.set_cons_succ])
              refine wpAnyH_take (i := 25) (oi := ⟨some 74, _, _, _, _, _⟩) (v := ?_) rfl (by kernel_rfl) (by kernel_rfl) (by kernel_rfl) (fun _ _ _ h => h) (Or.inl ⟨by rfl, ?_⟩) (by assumption) ?_
              rotate_left
              · (intro w hSw; (try dsimp only at hSw); go_simp; try (with_reducible rfl))
              (try simp only [Act.put, List.setIfInBounds_toArray, List.set_cons_zero, List.set_cons_succ])
              refine wpAnyH_take (i := 26) (oi := ⟨some 75, _, _, _, _, _⟩) (v := ?_) rfl (by kernel_rfl) (by kernel_rfl) (by kernel_rfl) (fun _ _ _ h => h) (Or.inl ⟨by rfl, ?_⟩) (by assumption) ?_
              rotate_left
              · (intro w hSw; (try dsimp only at hSw); go_simp; try (with_reducible rfl))
              (try simp only [Act.put, List.setIfInBounds_toArray, List.set_cons_zero, List.set_cons_succ])
              refine wpAnyH_ready (rs := [21]) (by kernel_rfl) (by simp) ?_
              refine AllReadyH.cons (o := ⟨some 70, _, _, _, _, _⟩) rfl (fun K hK => ?_) AllReadyH.nil
              go_simp
              obtain ⟨q0, q1, q2, q3, q4, q5, q6, q7, q8, q9, q10⟩ := id hHeld
              refine (HA.out _ q9 q10).mono ?_
              clear q0 q1 q2 q3 q4 q5 q6 q7 q8 q9 q10
              rintro e w10 ⟨rfl, hb10⟩
              go_wp2_with fail
              refine hK.out _ _ (by obtain ⟨q0, q1, q2, q3, q4, q5, q6, q7, q8, q9, q10⟩ := hHeld; exact ⟨held_cell hb10 q0, held_cell hb10 q1, held_cell hb10 q2, held_cell hb10 q3, held_cell hb10 q4, held_cell hb10 q5, held_cell hb10 q6, held_cell hb10 q7, q8.below hb10, q9.below hb10, q10.then hb10⟩) (fun hHeld => ?_)
              clear hK K
              (try simp only [Act.put, List.setIfInBounds_toArray, List.set_cons_zero, List.set_cons_succ])
              refine wpAnyH_ready (rs := [27]) (by kernel_rfl) (by simp) ?_
              refine AllReadyH.cons (o := ⟨some 76, _, _, _, _, _⟩) rfl (fun K hK => ?_) AllReadyH.nil
              go_simp
              obtain ⟨q0, q1, q2, q3, q4, q5, q6, q7, q8, q9, q10⟩ := id hHeld
              refine (HB.out _ q9 q10).mono ?_
              clear q0 q1 q2 q3 q4 q5 q6 q7 q8 q9 q10
              rintro e w11 ⟨rfl, hb11⟩
              go_wp2_with fail
              refine hK.out _ _ (by obtain ⟨q0, q1, q2, q3, q4, q5, q6, q7, q8, q9, q10⟩ := hHeld; exact ⟨held_cell hb11 q0, held_cell hb11 q1, held_cell hb11 q2, held_cell hb11 q3, held_cell hb11 q4, held_cell hb11 q5, held_cell hb11 q6, held_cell hb11 q7, q8.below hb11, q9.below hb11, q10.then hb11⟩) (fun hHeld => ?_)
              clear hK K
              (try simp only [Act.put, List.setIfInBounds_toArray, List.set_cons_zero, List.set_cons_succ])
              refine wpAnyH_take (i := 28) (oi := ⟨some 77, _, _, _, _, _⟩) (v := ?_) rfl (by kernel_rfl) (by kernel_rfl) (by kernel_rfl) (fun _ _ _ h => h) (Or.inl ⟨by rfl, ?_⟩) (by assumption) ?_
              rotate_left
              · (intro w hSw; (try dsimp only at hSw); go_simp; try (with_reducible rfl))
              (try simp only [Act.put, List.setIfInBounds_toArray, List.set_cons_zero, List.set_cons_succ])
              refine wpAnyH_take (i := 29) (oi := ⟨some 78, _, _, _, _, _⟩) (v := ?_) rfl (by kernel_rfl) (by kernel_rfl) (by kernel_rfl) (fun _ _ _ h => h) (Or.inl ⟨by rfl, ?_⟩) (by assumption) ?_
              rotate_left
              · (intro w hSw; (try dsimp only at hSw); go_simp; try (with_reducible rfl))
              (try simp only [Act.put, List.setIfInBounds_toArray, List.set_cons_zero, List.set_cons_succ])
              refine wpAnyH_done (by kernel_rfl) ?_ _
              have hH := hHeld.2.2.2.2.2.2.2.2.2.2
              clear hHeld
              go_wp2
              go_roundw
              case rel => exact ⟨j + 1, by omega, by go_num, hH⟩
              case measure => simp [intOf]; omega
          · have hlt2 : ¬ (j : Int) < N := by omega
            go_wp2_with (go_at_call 46; refine (wakes02_c _).mono ?_; rintro e w5 ⟨rfl, hb5⟩)
            go_ret
            exact ⟨rfl, (hX.then hb5).b⟩
end Go.Proofs.Ytdflckjnpgbjlaa

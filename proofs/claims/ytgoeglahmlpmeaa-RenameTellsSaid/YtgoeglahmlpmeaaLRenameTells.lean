/- The law RenameTells, walked. Conditions: the arguments read; what they are made of is in its bounds. -/
import Derived.Test.YtgoeglahmlpmeaaWi
import Derived.Test.YtgoeglahmlpmeaaF6
import Derived.Test.YtgoeglahmlpmeaaKl
import Derived.Deep.RegionHeld3
import Derived.Deep.DrawnRows
set_option linter.unusedVariables false
set_option linter.unusedSimpArgs false
namespace Go.Proofs.Ytgoeglahmlpmeaa
open Go.RowKit
attribute [local go_sem ↓] Go.wp_at_zero Go.wp_at_succ

/-- The greatest, and whether all are good, as the law reckons. -/
def mst (l : List Int) : Int := l.foldl (fun m n => if m < n then n else m) (-1)
def gds (l : List Int) : Bool := l.all fun n => decide (0 ≤ n) && decide (n < 4611686018427387904)
theorem mst_snoc (l : List Int) (n : Int) : mst (l ++ [n]) = if mst l < n then n else mst l := by unfold mst; rw [List.foldl_append]; rfl
theorem gds_snoc (l : List Int) (n : Int) : gds (l ++ [n]) = (gds l && (decide (0 ≤ n) && decide (n < 4611686018427387904))) := by simp [gds]
theorem gds_iff {l : List Int} : gds l = true ↔ ∀ n ∈ l, 0 ≤ n ∧ n < 4611686018427387904 := by simp [gds]
theorem foldl_most : ∀ (l : List Int) (m : Int), (∀ n ∈ l, 0 ≤ n) → -1 ≤ m → l.foldl (fun m n => if m < n then n else m) m = max m (most l)
  | [], m, _, h => by simp only [List.foldl_nil, most]; omega
  | x :: xs, m, h, hm => by
    have hx := h x (by simp)
    rw [List.foldl_cons, foldl_most xs _ (fun n hn => h n (List.mem_cons_of_mem _ hn)) (by split <;> omega)]
    simp only [most]
    split <;> omega
theorem mst_most {l : List Int} (h : ∀ n ∈ l, 0 ≤ n) : mst l = most l := by
  have := foldl_most l (-1) h (by omega)
  unfold mst; rw [this]
  have : -1 ≤ most l := by cases l with
    | nil => simp [most]
    | cons x xs => simp only [most]; have := h x (by simp); omega
  omega
theorem mst_lo : ∀ (l : List Int), -1 ≤ mst l := by
  intro l
  have key : ∀ (l : List Int) (m : Int), -1 ≤ m → -1 ≤ l.foldl (fun m n => if m < n then n else m) m := by
    intro l
    induction l with
    | nil => intro m h; exact h
    | cons x xs ih => intro m h; rw [List.foldl_cons]; exact ih _ (by split <;> omega)
  exact key l (-1) (by omega)
theorem occ_rng {t : Tm} (h : t.Wf) : ∀ n ∈ t.occ, -9223372036854775808 ≤ n ∧ n ≤ 9223372036854775807 := fun n hn => by
  have := occ_wf t h n hn
  simpa [Lit.wf, IntKind.min, IntKind.max, IntKind.signed, IntKind.bits] using this
theorem back_same {t : Tm} (h : t.Wf) (a : Int) : (t.ren fun n => wrap64 (n + a)).ren (fun n => wrap64 (n + wrap64 (-a))) = t := by
  rw [ren_ren]; exact ren_id _ (fun n hn => wrap_back (occ_rng h n hn))
theorem shift_vars {t : Tm} (h : t.Wf) (a : Int) : dd (occL [t.ren fun n => wrap64 (n + a)]) = (dd (occL [t])).map (fun n => wrap64 (n + a)) := by
  rw [occL_one, ren_occ, dd_map _ (fun x hx y hy he => wrap_inj (occ_rng h x hx) (occ_rng h y hy) he), occL_one]
/-- One element of a slice, as a slice. -/
theorem sub_one {W : World} {ok : Nat → Prop} {l : List Tm} {b o c : Nat} (h : Kd.tm.S W ok l (.slice (some ⟨b, o, none⟩) l.length c)) {j : Nat} (hj : j < l.length) {c' : Nat} (hc : 1 ≤ c' ∧ c' ≤ c) : Kd.tm.S W ok [l[j]] (.slice (some ⟨b, o + j * 4, none⟩) 1 c') := by
  obtain ⟨_, _, e, h1, h2, hA⟩ := h
  injection e with e1 e2 e3
  subst e1 e3
  refine ⟨_, c', rfl, by simpa using hc.1, by unfold maxLen at h2 ⊢; omega, .inr ⟨b, o + j * 4, rfl, ?_, fun i x hx => ?_⟩⟩
  · rcases hA with ⟨hn, _⟩ | ⟨b', o', hb, hok, _⟩
    · rw [hn] at hj; simp at hj
    · injection hb with hb; injection hb with f1 f2; subst f1; exact hok
  · rcases hA with ⟨hn, _⟩ | ⟨b', o', hb, hok, hat⟩
    · rw [hn] at hj; simp at hj
    · injection hb with hb; injection hb with f1 f2; subst f1 f2
      match i, hx with
      | 0, hx =>
        simp at hx; subst hx
        obtain ⟨cs, hk, hcs⟩ := hat j l[j] (List.getElem?_eq_getElem hj)
        refine ⟨cs, hk, fun q u hu => ?_⟩
        have := hcs q u hu
        simpa [Kd.tm] using this
      | i + 1, hx => simp at hx

/-- What is known: the shifted term in a box, the term's arguments, both rows of variables. -/
structure TS (w : World) (B : Nat) (s : Tm) (su : Value) (tl : List Tm) (tu : Value) (L : List Int) (lv : Value) (M : List Int) (mv : Value) (W : World) : Prop where
  s : Bx w (fun _ => True) B s su W
  e : Kd.tm.S W (fun _ => True) tl tu
  l : (Kd.int .i64).S W (fun _ => True) L lv
  m : (Kd.int .i64).S W (fun _ => True) M mv
theorem TS.then {w : World} {B : Nat} {s : Tm} {su : Value} {tl : List Tm} {tu : Value} {L : List Int} {lv : Value} {M : List Int} {mv : Value} {W W' : World} (h : TS w B s su tl tu L lv M mv W) (hb : Below W.heap.size W W') : TS w B s su tl tu L lv M mv W' :=
  ⟨h.s.then hb, h.e.below hb, h.l.below hb, h.m.below hb⟩
set_option maxRecDepth 100000 in
set_option maxHeartbeats 16000000 in
theorem RenameTells_c (a b : List Tm) (by_ : Int) (v v' : Value) (w : World) (ok ok' : Nat → Prop) (hv : Kd.tm.S w ok a v) (hv' : Kd.tm.S w ok' b v') (hwa : WfL a) (hwb : WfL b) (hby : -9223372036854775808 ≤ by_ ∧ by_ ≤ 9223372036854775807) :
    Calls Try.prog 11 #[v, v', .int .i64 by_] w fun e w' => e = .returned (.bool true) ∧ Below w.heap.size w w' := by
  have HL := Lib.hid (fun W (hW : Below w.heap.size w W) => Great_c a v W ok (hv.below hW) hwa)
  have HM := Lib.hid (fun W (hW : Below w.heap.size w W) => Great_c b v' W ok' (hv'.below hW) hwb)
  have HV := Lib.hid hv
  have HV' := Lib.hid hv'
  obtain ⟨A, c, rfl⟩ := hv.form
  obtain ⟨A', c', rfl⟩ := hv'.form
  have hb := Below.refl w.heap.size w
  clear hv hv'
  by_cases l1 : (20 : Int) < a.length
  · clear HL HM
    go_enter Try.func11, Try.ntmps11
    go_wp2_with (go_at_call 39; refine (wakes05_c _).mono ?_; rintro e w2 ⟨rfl, hb2⟩; replace hb := below_then hb hb.size hb2)
    go_ret
    exact ⟨rfl, hb⟩
  · have l1' : decide ((20 : Int) < a.length) = false := by simpa using l1
    by_cases l2 : (20 : Int) < b.length
    · clear HL HM
      go_enter Try.func11, Try.ntmps11
      go_wp2_with (go_at_call 39; refine (wakes05_c _).mono ?_; rintro e w2 ⟨rfl, hb2⟩; replace hb := below_then hb hb.size hb2)
      go_ret
      exact ⟨rfl, hb⟩
    · have l2' : decide ((20 : Int) < b.length) = false := by simpa using l2
      cases hga : great a with
      | true =>
        rw [hga] at HL
        clear HM
        go_enter Try.func11, Try.ntmps11
        go_wp2_with (first
          | (go_at_call 13; refine (HL.out _ hb).mono ?_; clear HL; rintro e w1 ⟨rfl, hb1⟩; replace hb := below_then hb hb.size hb1)
          | (go_at_call 39; refine (wakes05_c _).mono ?_; rintro e w2 ⟨rfl, hb2⟩; replace hb := below_then hb hb.size hb2))
        go_ret
        exact ⟨rfl, hb⟩
      | false =>
        rw [hga] at HL
        cases hgb : great b with
        | true =>
          rw [hgb] at HM
          go_enter Try.func11, Try.ntmps11
          go_wp2_with (first
            | (go_at_call_has 13 (Value.slice A a.length c); refine (HL.out _ hb).mono ?_; clear HL; rintro e w1 ⟨rfl, hb1⟩; replace hb := below_then hb hb.size hb1)
            | (go_at_call 13; refine (HM.out _ hb).mono ?_; clear HM; rintro e w1 ⟨rfl, hb1⟩; replace hb := below_then hb hb.size hb1)
            | (go_at_call 39; refine (wakes05_c _).mono ?_; rintro e w2 ⟨rfl, hb2⟩; replace hb := below_then hb hb.size hb2))
          go_ret
          exact ⟨rfl, hb⟩
        | false =>
          rw [hgb] at HM
          have hza := great_siz hga
          have hzb := great_siz hgb
          have hla := length_le_sizL a
          clear hga hgb l1 l2
          have HVa := Lib.hid (fun W (hW : Below w.heap.size w W) => refVars_c a _ W _ (HV.out.below hW) (by omega))
          have HVb := Lib.hid (fun W (hW : Below w.heap.size w W) => refVars_c b _ W _ (HV'.out.below hW) (by omega))
          have HCa := Lib.hid (fun W (hW : Below w.heap.size w W) => Canon_c a _ W _ (HV.out.below hW) (by omega) hwa)
          have HNa := Lib.hid (fun W (hW : Below w.heap.size w W) u ok (hu : (Kd.int .i64).S W ok (dd (occL a)) u) => canon_k (dd (occL a)) u ok (sizL a + 1) a _ W _ (Nat.lt_succ_self _) (by omega) (HV.out.below hW) hu)
          have HNb := Lib.hid (fun W (hW : Below w.heap.size w W) u ok (hu : (Kd.int .i64).S W ok (dd (occL b)) u) => canon_k (dd (occL b)) u ok (sizL b + 1) b _ W _ (Nat.lt_succ_self _) (by omega) (HV'.out.below hW) hu)
          have HVr := Lib.hid (fun W (hW : Below w.heap.size w W) => Variants_c a b _ _ W _ _ (HV.out.below hW) (HV'.out.below hW) (by omega) (by omega) hwa hwb)
          have HA1 := Lib.hid (fun W v v' ok ok' => All_c (canL a) (canL a) v v' W ok ok')
          rw [(eqbL_iff _ _).2 rfl] at HA1
          have HA2 := Lib.hid (fun W v v' ok ok' => All_c (canL a) (canL b) v v' W ok ok')
          have hq : ∀ q : Bool, (q != q) = false := fun q => by cases q <;> rfl
          generalize eqbL (canL a) (canL b) = q at HVr HA2
          replace hq := hq q
          have m1 : Hid (0 = 0) := Lib.hid rfl
          have m2 : Hid (0 = 0) := Lib.hid rfl
          have m3 : Hid (0 = 0) := Lib.hid rfl
          have m4 : Hid (0 = 0) := Lib.hid rfl
          go_enter Try.func11, Try.ntmps11
          go_wp2_with (first
            | (go_at_call_has 13 (Value.slice A a.length c); refine (HL.out _ hb).mono ?_; clear HL; rintro e w1 ⟨rfl, hb1⟩; replace hb := below_then hb hb.size hb1; clear hb1)
            | (go_at_call 13; refine (HM.out _ hb).mono ?_; clear HM; rintro e w1 ⟨rfl, hb1⟩; replace hb := below_then hb hb.size hb1; clear hb1)
            | (go_at_call 30; have hx := m1.out; clear hx m1; refine (HVa.out _ hb).mono ?_; rintro e w2 ⟨⟨xA, xc, rfl, hX⟩, hb1⟩; replace hb := below_then hb hb.size hb1; clear hb1)
            | (go_at_call 40; have hx := m2.out; clear hx m2; refine (HNa.out _ hb _ _ hX).mono ?_; clear HNa hX; rintro e w3 ⟨⟨r, rfl, hr⟩, hb1⟩; replace hb := below_then hb hb.size hb1; clear hb1; obtain ⟨rA, rc, rfl⟩ := Kd.Own.form hr; have hW := (Kd.Own.S hr).mono (ok' := fun _ => True) (fun _ _ => trivial); clear hr)
            | (go_at_call 41; refine (HCa.out _ hb).mono ?_; clear HCa; rintro e w4 ⟨⟨r, rfl, hr⟩, hb1⟩; replace hb := below_then hb hb.size hb1; obtain ⟨cA, cc, rfl⟩ := Kd.Own.form hr; have hC := (Kd.Own.S hr).mono (ok' := fun _ => True) (fun _ _ => trivial); replace hW := hW.below hb1; clear hr hb1)
            | (go_at_call 36; have hx := m3.out; clear hx m3; refine (HA1.out _ _ _ _ _ hC hW).mono ?_; clear HA1 hC; rintro e w5 ⟨rfl, hb1⟩; replace hb := below_then hb hb.size hb1; replace hW := hW.below hb1; clear hb1)
            | (go_at_call 42; refine (HVr.out _ hb).mono ?_; clear HVr; rintro e w6 ⟨rfl, hb1⟩; replace hb := below_then hb hb.size hb1; replace hW := hW.below hb1; clear hb1)
            | (go_at_call 30; have hx := m4.out; clear hx m4; refine (HVb.out _ hb).mono ?_; clear HVb; rintro e w7 ⟨⟨yA, yc, rfl, hY⟩, hb1⟩; replace hb := below_then hb hb.size hb1; replace hW := hW.below hb1; clear hb1)
            | (go_at_call 40; refine (HNb.out _ hb _ _ hY).mono ?_; clear HNb hY; rintro e w8 ⟨⟨r, rfl, hr⟩, hb1⟩; replace hb := below_then hb hb.size hb1; obtain ⟨sA, sc, rfl⟩ := Kd.Own.form hr; have hZ := (Kd.Own.S hr).mono (ok' := fun _ => True) (fun _ _ => trivial); replace hW := hW.below hb1; clear hr hb1)
            | (go_at_call 36; refine (HA2.out _ _ _ _ _ hW hZ).mono ?_; clear HA2 hW hZ; rintro e w9 ⟨rfl, hb1⟩; replace hb := below_then hb hb.size hb1; clear hb1)
            | (go_at_call 30; refine (HVa.out _ hb).mono ?_; clear HVa; rintro e w10 ⟨⟨xA, xc, rfl, hX⟩, hb1⟩; replace hb := below_then hb hb.size hb1; clear hb1))
          have hXl : (dd (occL a)).length ≤ 1000000 := by have h1 := dd_length (occL a); have h2 := occL_length a; omega
          have HCn := Lib.hid (fun W (hW : Below w.heap.size w W) (hp : gds (dd (occL a)) = true) => Count_c a _ W _ (HV.out.below hW) (by omega) (fun n hn => gds_iff.1 hp n (dd_mem.2 hn)))
          have HWA := Lib.hid hwa
          clear hwa hwb HV' hzb hq hla
          generalize dd (occL a) = X at hX hXl HCn
          have hxc := hX.cap
          go_loopw [9, 10, 12] (fun m g i wr => ∃ j : Nat, j ≤ X.length ∧ i = .int .i64 j ∧ m = .int .i64 (mst (X.take j)) ∧ g = .bool (gds (X.take j)) ∧ wr = w10) (fun _ _ i _ => X.length - (intOf i).toNat)
          case atStart => exact ⟨0, Nat.zero_le _, rfl, rfl, rfl, rfl⟩
          case round =>
            obtain ⟨j, hj, rfl, rfl, rfl, rfl⟩ := hrel
            by_cases hlt : j < X.length
            · obtain ⟨_, _, ev, _, _, hAv⟩ := hX
              injection ev with e1 e2 e3
              subst e1 e3
              clear e2
              obtain ⟨bv, ov, rfl, -, hlov, g0⟩ := int_elem hAv hlt
              have HM1 := Lib.hid (show mst (X.take (j + 1)) = if mst (X.take j) < X[j] then X[j] else mst (X.take j) by rw [take_succ_at X hlt, mst_snoc])
              have HG1 := Lib.hid (show gds (X.take (j + 1)) = (gds (X.take j) && (decide (0 ≤ X[j]) && decide (X[j] < 4611686018427387904))) by rw [take_succ_at X hlt, gds_snoc])
              generalize mst (X.take j) = m at HM1 ⊢
              generalize gds (X.take j) = g at HG1 ⊢
              generalize X[j] = x at HM1 HG1 g0
              have hjx : (j : Int) < X.length := by omega
              clear hAv HCn HV
              cases g with
              | false =>
                go_wp2
                all_goals first
                  | (refine ⟨⟨j + 1, by omega, by go_num, ?_, ?_, trivial⟩, by simp [intOf]; omega⟩
                     · rw [HM1.out]
                     · rw [HG1.out]; rfl)
              | true =>
                by_cases hx0 : 0 ≤ x
                · by_cases hx1 : x < 4611686018427387904
                  · go_wp2
                    all_goals first
                      | (refine ⟨⟨j + 1, by omega, by go_num, ?_, ?_, trivial⟩, by simp [intOf]; omega⟩
                         · rw [HM1.out]
                         · rw [HG1.out]; simp [hx0, hx1])
                  · go_wp2
                    all_goals first
                      | (refine ⟨⟨j + 1, by omega, by go_num, ?_, ?_, trivial⟩, by simp [intOf]; omega⟩
                         · rw [HM1.out]
                         · rw [HG1.out]; simp [hx0, hx1])
                · go_wp2
                  all_goals first
                    | (refine ⟨⟨j + 1, by omega, by go_num, ?_, ?_, trivial⟩, by simp [intOf]; omega⟩
                       · rw [HM1.out]
                       · rw [HG1.out]; simp [hx0])
            · have HF : Hid (X.take j = X) := Lib.hid (List.take_of_length_le (by omega))
              rw [HF.out]
              clear hX
              cases hgd : gds X with
              | false =>
                clear HCn
                go_wp2
                go_loopw [13] (fun i wr => ∃ j : Nat, j ≤ a.length ∧ i = .int .i64 j ∧ Below w.heap.size w wr) (fun i _ => a.length - (intOf i).toNat)
                case atStart => exact ⟨0, Nat.zero_le _, rfl, hb⟩
                case round =>
                  clear hb
                  obtain ⟨j, hj, rfl, hbr⟩ := hrel
                  by_cases hlt : j < a.length
                  · have hSa := HV.out.below hbr
                    have hSa' := hSa
                    obtain ⟨_, _, ea, hal, hac, hAa⟩ := hSa'
                    injection ea with e1 e2 e3
                    subst e1 e3
                    clear e2
                    unfold maxLen at hac
                    obtain ⟨ba, oa, ua, rfl, -, hloa, k0, k1, k2, k3, haS⟩ := tm_elem hAa hlt
                    obtain ⟨uA, uc, rfl⟩ := haS.form
                    have hzj : a[j].siz ≤ 1000000 := by have := siz_mem (List.getElem_mem hlt); omega
                    have hwj := WfL_at HWA.out hlt
                    have HSU := Lib.hid (fun W (hW : Below wr.heap.size wr W) c' (hc : 1 ≤ c' ∧ c' ≤ c) => sub_one (hSa.below hW) hlt hc)
                    clear hAa hSa
                    generalize a[j] = t at k0 k1 k2 k3 haS hzj hwj HSU
                    obtain ⟨s, hs⟩ : ∃ s, s = t.ren fun n => wrap64 (n + by_) := ⟨_, rfl⟩
                    obtain ⟨nby, hnby⟩ : ∃ nby, nby = wrap64 (-by_) := ⟨_, rfl⟩
                    have hneg : IntKind.i64.wrap (-by_) = nby := by rw [hnby, IntKind.wrap_i64, wrap64]
                    have HB := Lib.hid (show (s.ren fun n => wrap64 (n + nby)).eqb t = true by rw [hs, hnby, back_same hwj]; exact (Tm.eqb_iff _ _).2 rfl)
                    have HD := Lib.hid (show dd (occL [s]) = (dd (occL [t])).map (fun n => wrap64 (n + by_)) by rw [hs]; exact shift_vars hwj by_)
                    have HS := Lib.hid (Shift_c t by_ _ wr _ ⟨_, rfl, haS⟩ hzj)
                    rw [← hs] at HS
                    have hzs : sizL [s] ≤ 1000000 := by rw [hs]; simp [sizL, ren_siz]; omega
                    have hzs' : s.siz ≤ 1000000 := by rw [hs, ren_siz]; exact hzj
                    have HVm := Lib.hid (fun W v ok (hv : Kd.tm.S W ok [t] v) => refVars_c [t] v W ok hv (by simp [sizL]; omega))
                    have HVs := Lib.hid (fun W v ok (hv : Kd.tm.S W ok [s] v) => refVars_c [s] v W ok hv hzs)
                    rw [HD.out] at HVs
                    simp only [List.length_map] at HVs
                    have hMl : (dd (occL [t])).length ≤ 1000000 := by have h1 := dd_length (occL [t]); have h2 := occL_length [t]; simp [sizL] at h2; omega
                    generalize dd (occL [t]) = Y at HVm HVs hMl
                    obtain ⟨sk, ss, sn, sl⟩ := s
                    have m1 : Hid (0 = 0) := Lib.hid rfl
                    have hj1 : (j : Int) + 1 ≤ a.length := by omega
                    have hj2 : (j : Int) + 1 ≤ c := by omega
                    have hjw : IntKind.i64.wrap ((j : Int) + 1) = (j : Int) + 1 := by rw [IntKind.wrap_i64]; omega
                    clear hs hnby HD hwj
                    go_wp2_with (first
                      | (go_at_call 44; refine HS.out.mono ?_; clear HS; rintro e w1 ⟨⟨r, rfl, su, rfl, hsS⟩, hb1⟩; obtain ⟨sA, sc, rfl⟩ := hsS.form; have hbw1 := below_then hbr hbr.size hb1; have hS1 := Bx.of (w := w) (t := ⟨sk, ss, sn, sl⟩) hbw1 hsS; obtain ⟨x0, x1, x2, x3, -⟩ := hS1.held)
                      | (go_at_call 30; have hx := m1.out; clear hx m1; refine (HVs.out _ _ _ (lit1_at (t := ⟨sk, ss, sn, sl⟩) (heap_at _ _ _ (by simp)) (hS1.alloc _).args)).mono ?_; clear HVs; rintro e w2 ⟨⟨lA, lc, rfl, hL⟩, hb2⟩; have hS2 := (hS1.alloc _).then hb2; have hbb : Below wr.heap.size wr w2 := below_then ((hb1.alloc hb1.size _).alloc (by have := hb1.size; simp; omega) _) (by have := hb1.size; simp; omega) hb2)
                      | (go_at_call 30; refine (HVm.out _ _ _ (HSU.out _ hbb (c - j) ⟨by omega, by omega⟩)).mono ?_; clear HVm HSU; rintro e w3 ⟨⟨mA, mc, rfl, hM⟩, hb3⟩; have hbb3 : Below wr.heap.size wr w3 := below_then hbb hbb.size hb3; have hTS : TS w w1.heap.size ⟨sk, ss, sn, sl⟩ (.slice sA sl.length sc) t.l (.slice uA t.l.length uc) (Y.map fun n => wrap64 (n + by_)) (.slice lA Y.length lc) Y (.slice mA Y.length mc) w3 := ⟨hS2.then hb3, ((haS.below hbb).below hb3).mono (fun _ _ => trivial), hL.below hb3, hM⟩))
                    replace k0 := held_cell hbb3 k0
                    replace k1 := held_cell hbb3 k1
                    replace k2 := held_cell hbb3 k2
                    replace k3 := held_cell hbb3 k3
                    obtain ⟨x0, x1, x2, x3, -⟩ := hTS.s.held
                    clear hS1 hS2 hL hM haS hb1 hb2 hb3 hbb hbb3 hsS hbw1
                    refine wp_region_held_drew (S := (fun W => W.cell? ⟨w1.heap.size, 0, none⟩ = some (.int .u8 sk) ∧ W.cell? ⟨w1.heap.size, 1, none⟩ = some (.string ss) ∧ W.cell? ⟨w1.heap.size, 2, none⟩ = some (.int .i64 sn) ∧ W.cell? ⟨w1.heap.size, 3, none⟩ = some (.slice sA sl.length sc) ∧ W.cell? ⟨ba, oa + j * 4, none⟩ = some (.int .u8 t.k) ∧ W.cell? ⟨ba, oa + j * 4 + 1, none⟩ = some (.string t.s) ∧ W.cell? ⟨ba, oa + j * 4 + 2, none⟩ = some (.int .i64 t.n) ∧ W.cell? ⟨ba, oa + j * 4 + 3, none⟩ = some (.slice uA t.l.length uc) ∧ TS w w1.heap.size ⟨sk, ss, sn, sl⟩ (.slice sA sl.length sc) t.l (.slice uA t.l.length uc) (Y.map fun n => wrap64 (n + by_)) (.slice lA Y.length lc) Y (.slice mA Y.length mc) W)) (by kernel_rfl) ?_ (fun hHeld => ?_)
                    · exact ⟨x0, x1, x2, x3, k0, k1, k2, k3, hTS.then (Below.refl _ _).drew⟩
                    change wpAnyH _ .any _ _ _ 17 (Array.replicate 17 false) _ _
                    refine wpAnyH_take (i := 0) (oi := ⟨some 115, _, _, _, _, _⟩) (v := ?pav0) rfl (by kernel_rfl) (by kernel_rfl) (by kernel_rfl) (fun _ _ _ h => h) (Or.inl ⟨by rfl, fun w hSw => ?pay0⟩) (by assumption) ?_
                    case pay0 => (dsimp only at hSw; go_simp; try (with_reducible rfl))
                    (try simp only [Act.put, List.setIfInBounds_toArray, List.set_cons_zero, List.set_cons_succ])
                    refine wpAnyH_take (i := 1) (oi := ⟨some 116, _, _, _, _, _⟩) (v := ?pav1) rfl (by kernel_rfl) (by kernel_rfl) (by kernel_rfl) (fun _ _ _ h => h) (Or.inl ⟨by rfl, fun w hSw => ?pay1⟩) (by assumption) ?_
                    case pay1 => (dsimp only at hSw; go_simp; try (with_reducible rfl))
                    (try simp only [Act.put, List.setIfInBounds_toArray, List.set_cons_zero, List.set_cons_succ])
                    refine wpAnyH_take (i := 2) (oi := ⟨some 117, _, _, _, _, _⟩) (v := ?pav2) rfl (by kernel_rfl) (by kernel_rfl) (by kernel_rfl) (fun _ _ _ h => h) (Or.inl ⟨by rfl, fun w hSw => ?pay2⟩) (by assumption) ?_
                    case pay2 => (dsimp only at hSw; go_simp; try (with_reducible rfl))
                    (try simp only [Act.put, List.setIfInBounds_toArray, List.set_cons_zero, List.set_cons_succ])
                    refine wpAnyH_take (i := 3) (oi := ⟨some 118, _, _, _, _, _⟩) (v := ?pav3) rfl (by kernel_rfl) (by kernel_rfl) (by kernel_rfl) (fun _ _ _ h => h) (Or.inl ⟨by rfl, fun w hSw => ?pay3⟩) (by assumption) ?_
                    case pay3 => (dsimp only at hSw; go_simp; try (with_reducible rfl))
                    (try simp only [Act.put, List.setIfInBounds_toArray, List.set_cons_zero, List.set_cons_succ])
                    refine wpAnyH_take (i := 4) (oi := ⟨some 119, _, _, _, _, _⟩) (v := ?pav4) rfl (by kernel_rfl) (by kernel_rfl) (by kernel_rfl) (fun _ _ _ h => h) (Or.inl ⟨by rfl, fun w hSw => ?pay4⟩) (by assumption) ?_
                    case pay4 => (dsimp only at hSw; go_simp; try (with_reducible rfl))
                    (try simp only [Act.put, List.setIfInBounds_toArray, List.set_cons_zero, List.set_cons_succ])
                    refine wpAnyH_take (i := 5) (oi := ⟨some 120, _, _, _, _, _⟩) (v := ?pav5) rfl (by kernel_rfl) (by kernel_rfl) (by kernel_rfl) (fun _ _ _ h => h) (Or.inl ⟨by rfl, fun w hSw => ?pay5⟩) (by assumption) ?_
                    case pay5 => (dsimp only at hSw; go_simp; try (with_reducible rfl))
                    (try simp only [Act.put, List.setIfInBounds_toArray, List.set_cons_zero, List.set_cons_succ])
                    refine wpAnyH_take (i := 6) (oi := ⟨some 121, _, _, _, _, _⟩) (v := ?pav6) rfl (by kernel_rfl) (by kernel_rfl) (by kernel_rfl) (fun _ _ _ h => h) (Or.inl ⟨by rfl, fun w hSw => ?pay6⟩) (by assumption) ?_
                    case pay6 => (dsimp only at hSw; go_simp; try (with_reducible rfl))
                    (try simp only [Act.put, List.setIfInBounds_toArray, List.set_cons_zero, List.set_cons_succ])
                    refine wpAnyH_take (i := 7) (oi := ⟨some 122, _, _, _, _, _⟩) (v := ?pav7) rfl (by kernel_rfl) (by kernel_rfl) (by kernel_rfl) (fun _ _ _ h => h) (Or.inl ⟨by rfl, fun w hSw => ?pay7⟩) (by assumption) ?_
                    case pay7 => (dsimp only at hSw; go_simp; try (with_reducible rfl))
                    (try simp only [Act.put, List.setIfInBounds_toArray, List.set_cons_zero, List.set_cons_succ])
                    refine wpAnyH_take (i := 8) (oi := ⟨some 123, _, _, _, _, _⟩) (v := ?pav8) rfl (by kernel_rfl) (by kernel_rfl) (by kernel_rfl) (fun _ _ _ h => h) (Or.inl ⟨by rfl, fun w hSw => ?pay8⟩) (by assumption) ?_
                    case pay8 => (dsimp only at hSw; go_simp; try (with_reducible rfl))
                    (try simp only [Act.put, List.setIfInBounds_toArray, List.set_cons_zero, List.set_cons_succ])
                    refine wpAnyH_take (i := 10) (oi := ⟨some 125, _, _, _, _, _⟩) (v := ?pav10) rfl (by kernel_rfl) (by kernel_rfl) (by kernel_rfl) (fun _ _ _ h => h) (Or.inl ⟨by rfl, fun w hSw => ?pay10⟩) (by assumption) ?_
                    case pay10 => (dsimp only at hSw; go_simp; try (with_reducible rfl))
                    (try simp only [Act.put, List.setIfInBounds_toArray, List.set_cons_zero, List.set_cons_succ])
                    refine wpAnyH_take (i := 11) (oi := ⟨some 126, _, _, _, _, _⟩) (v := ?pav11) rfl (by kernel_rfl) (by kernel_rfl) (by kernel_rfl) (fun _ _ _ h => h) (Or.inl ⟨by rfl, fun w hSw => ?pay11⟩) (by assumption) ?_
                    case pay11 => (dsimp only at hSw; go_simp; try (with_reducible rfl))
                    (try simp only [Act.put, List.setIfInBounds_toArray, List.set_cons_zero, List.set_cons_succ])
                    refine wpAnyH_take (i := 12) (oi := ⟨some 127, _, _, _, _, _⟩) (v := ?pav12) rfl (by kernel_rfl) (by kernel_rfl) (by kernel_rfl) (fun _ _ _ h => h) (Or.inl ⟨by rfl, fun w hSw => ?pay12⟩) (by assumption) ?_
                    case pay12 => (dsimp only at hSw; go_simp; try (with_reducible rfl))
                    (try simp only [Act.put, List.setIfInBounds_toArray, List.set_cons_zero, List.set_cons_succ])
                    refine wpAnyH_take (i := 13) (oi := ⟨some 128, _, _, _, _, _⟩) (v := ?pav13) rfl (by kernel_rfl) (by kernel_rfl) (by kernel_rfl) (fun _ _ _ h => h) (Or.inl ⟨by rfl, fun w hSw => ?pay13⟩) (by assumption) ?_
                    case pay13 => (dsimp only at hSw; go_simp; try (with_reducible rfl))
                    (try simp only [Act.put, List.setIfInBounds_toArray, List.set_cons_zero, List.set_cons_succ])
                    refine wpAnyH_ready (rs := [9]) (by kernel_rfl) (by simp) ?_
                    refine AllReadyH.cons (o := ⟨some 124, _, _, _, _, _⟩) rfl (fun K hK => ?_) AllReadyH.nil
                    go_simp
                    refine (Shift_c ⟨sk, ss, sn, sl⟩ nby _ _ _ hHeld.2.2.2.2.2.2.2.2.s.tmv hzs').mono ?_
                    rintro e w9 ⟨⟨r9, rfl, hr9⟩, hb9⟩
                    go_wp2_with fail
                    refine hK.out _ _ (by obtain ⟨q0, q1, q2, q3, q4, q5, q6, q7, qR⟩ := hHeld; exact ⟨held_cell hb9 q0, held_cell hb9 q1, held_cell hb9 q2, held_cell hb9 q3, held_cell hb9 q4, held_cell hb9 q5, held_cell hb9 q6, held_cell hb9 q7, qR.then hb9⟩) (fun hHeld => ?_)
                    clear hK K
                    (try simp only [Act.put, List.setIfInBounds_toArray, List.set_cons_zero, List.set_cons_succ])
                    refine wpAnyH_ready (rs := [14]) (by kernel_rfl) (by simp) ?_
                    refine AllReadyH.cons (o := ⟨some 129, _, _, _, _, _⟩) rfl (fun K hK => ?_) AllReadyH.nil
                    go_simp
                    have hq := Same_c _ t _ _ _ _ _ hr9 ⟨_, rfl, hHeld.2.2.2.2.2.2.2.2.e⟩
                    rw [HB.out] at hq
                    refine hq.mono ?_
                    clear hq
                    rintro e w14 ⟨rfl, hb14⟩
                    go_wp2_with fail
                    refine hK.out _ _ (by obtain ⟨q0, q1, q2, q3, q4, q5, q6, q7, qR⟩ := hHeld; exact ⟨held_cell hb14 q0, held_cell hb14 q1, held_cell hb14 q2, held_cell hb14 q3, held_cell hb14 q4, held_cell hb14 q5, held_cell hb14 q6, held_cell hb14 q7, qR.then hb14⟩) (fun hHeld => ?_)
                    clear hK K
                    (try simp only [Act.put, List.setIfInBounds_toArray, List.set_cons_zero, List.set_cons_succ])
                    refine wpAnyH_take (i := 15) (oi := ⟨some 130, _, _, _, _, _⟩) (v := ?pav15) rfl (by kernel_rfl) (by kernel_rfl) (by kernel_rfl) (fun _ _ _ h => h) (Or.inl ⟨by rfl, fun w hSw => ?pay15⟩) (by assumption) ?_
                    case pay15 => (dsimp only at hSw; go_simp; try (with_reducible rfl))
                    (try simp only [Act.put, List.setIfInBounds_toArray, List.set_cons_zero, List.set_cons_succ])
                    refine wpAnyH_take (i := 16) (oi := ⟨some 131, _, _, _, _, _⟩) (v := ?pav16) rfl (by kernel_rfl) (by kernel_rfl) (by kernel_rfl) (fun _ _ _ h => h) (Or.inl ⟨by rfl, fun w hSw => ?pay16⟩) (by assumption) ?_
                    case pay16 => (dsimp only at hSw; go_simp; try (with_reducible rfl))
                    (try simp only [Act.put, List.setIfInBounds_toArray, List.set_cons_zero, List.set_cons_succ])
                    refine wpAnyH_done (by kernel_rfl) ?_ _
                    have hT2 := hHeld.2.2.2.2.2.2.2.2
                    clear hHeld k0 k1 k2 k3 x0 x1 x2 x3 hb9 hb14 hr9 hneg hTS HB
                    go_wp2
                    go_loopw [17] (fun i wr => ∃ k : Nat, k ≤ Y.length ∧ i = .int .i64 k ∧ TS w w1.heap.size ⟨sk, ss, sn, sl⟩ (.slice sA sl.length sc) t.l (.slice uA t.l.length uc) (Y.map fun n => wrap64 (n + by_)) (.slice lA Y.length lc) Y (.slice mA Y.length mc) wr) (fun i _ => Y.length - (intOf i).toNat)
                    case atStart => exact ⟨0, Nat.zero_le _, rfl, hT2⟩
                    case round =>
                      clear hT2
                      obtain ⟨k, hk, rfl, hT⟩ := hrel
                      by_cases hkl : k < Y.length
                      · obtain ⟨_, _, el, hl1, hl2, hAl⟩ := hT.l
                        injection el with e1 e2 e3
                        subst e1 e3
                        clear e2
                        obtain ⟨_, _, em, hm1, hm2, hAm⟩ := hT.m
                        injection em with e1 e2 e3
                        subst e1 e3
                        clear e2
                        obtain ⟨bl, ol, rfl, -, hll, y0⟩ := int_elem hAl (j := k) (by simpa using hkl)
                        obtain ⟨bm, om, rfl, -, hlm, z0⟩ := int_elem hAm hkl
                        rw [List.getElem_map] at y0
                        obtain ⟨z, hz⟩ : ∃ z, z = wrap64 (Y[k] + by_) := ⟨_, rfl⟩
                        rw [← hz] at y0
                        have hzw : IntKind.i64.wrap (Y[k] + by_) = z := by rw [hz, IntKind.wrap_i64, wrap64]
                        simp only [List.length_map] at hl1
                        unfold maxLen at hl2 hm2
                        have hk1 : (k : Int) < Y.length := by omega
                        have hk2 : (k : Int) < lc := by omega
                        have hk3 : (k : Int) < mc := by omega
                        have hTd := Lib.hid hT
                        clear hAl hAm hz hT
                        generalize Y[k] = y at y0 z0 hzw
                        go_wp2
                        refine wp_region_held_drew (S := (fun W => W.cell? ⟨bl, ol + k, none⟩ = some (.int .i64 z) ∧ W.cell? ⟨bm, om + k, none⟩ = some (.int .i64 y) ∧ TS w w1.heap.size ⟨sk, ss, sn, sl⟩ (.slice sA sl.length sc) t.l (.slice uA t.l.length uc) (Y.map fun n => wrap64 (n + by_)) (.slice (some ⟨bl, ol, none⟩) Y.length lc) Y (.slice (some ⟨bm, om, none⟩) Y.length mc) W)) (by kernel_rfl) ?_ (fun hHeld => ?_)
                        · exact ⟨y0, z0, hTd.out.then (Below.refl _ _).drew⟩
                        change wpAnyH _ .any _ _ _ 11 (Array.replicate 11 false) _ _
                        refine wpAnyH_take (i := 0) (oi := ⟨some 138, _, _, _, _, _⟩) (v := ?pbv0) rfl (by kernel_rfl) (by kernel_rfl) (by kernel_rfl) (fun _ _ _ h => h) (Or.inl ⟨by rfl, fun w hSw => ?pby0⟩) (by assumption) ?_
                        case pby0 => (dsimp only at hSw; go_simp; try (with_reducible rfl))
                        (try simp only [Act.put, List.setIfInBounds_toArray, List.set_cons_zero, List.set_cons_succ])
                        refine wpAnyH_take (i := 1) (oi := ⟨some 139, _, _, _, _, _⟩) (v := ?pbv1) rfl (by kernel_rfl) (by kernel_rfl) (by kernel_rfl) (fun _ _ _ h => h) (Or.inl ⟨by rfl, fun w hSw => ?pby1⟩) (by assumption) ?_
                        case pby1 => (dsimp only at hSw; go_simp; try (with_reducible rfl))
                        (try simp only [Act.put, List.setIfInBounds_toArray, List.set_cons_zero, List.set_cons_succ])
                        refine wpAnyH_take (i := 2) (oi := ⟨some 140, _, _, _, _, _⟩) (v := ?pbv2) rfl (by kernel_rfl) (by kernel_rfl) (by kernel_rfl) (fun _ _ _ h => h) (Or.inl ⟨by rfl, fun w hSw => ?pby2⟩) (by assumption) ?_
                        case pby2 => (dsimp only at hSw; go_simp; try (with_reducible rfl))
                        (try simp only [Act.put, List.setIfInBounds_toArray, List.set_cons_zero, List.set_cons_succ])
                        refine wpAnyH_take (i := 3) (oi := ⟨some 141, _, _, _, _, _⟩) (v := ?pbv3) rfl (by kernel_rfl) (by kernel_rfl) (by kernel_rfl) (fun _ _ _ h => h) (Or.inl ⟨by rfl, fun w hSw => ?pby3⟩) (by assumption) ?_
                        case pby3 => (dsimp only at hSw; go_simp; try (with_reducible rfl))
                        (try simp only [Act.put, List.setIfInBounds_toArray, List.set_cons_zero, List.set_cons_succ])
                        refine wpAnyH_take (i := 4) (oi := ⟨some 142, _, _, _, _, _⟩) (v := ?pbv4) rfl (by kernel_rfl) (by kernel_rfl) (by kernel_rfl) (fun _ _ _ h => h) (Or.inl ⟨by rfl, fun w hSw => ?pby4⟩) (by assumption) ?_
                        case pby4 => (dsimp only at hSw; go_simp; try (with_reducible rfl))
                        (try simp only [Act.put, List.setIfInBounds_toArray, List.set_cons_zero, List.set_cons_succ])
                        refine wpAnyH_take (i := 5) (oi := ⟨some 143, _, _, _, _, _⟩) (v := ?pbv5) rfl (by kernel_rfl) (by kernel_rfl) (by kernel_rfl) (fun _ _ _ h => h) (Or.inl ⟨by rfl, fun w hSw => ?pby5⟩) (by assumption) ?_
                        case pby5 => (dsimp only at hSw; go_simp; try (with_reducible rfl))
                        (try simp only [Act.put, List.setIfInBounds_toArray, List.set_cons_zero, List.set_cons_succ])
                        refine wpAnyH_take (i := 6) (oi := ⟨some 144, _, _, _, _, _⟩) (v := ?pbv6) rfl (by kernel_rfl) (by kernel_rfl) (by kernel_rfl) (fun _ _ _ h => h) (Or.inl ⟨by rfl, fun w hSw => ?pby6⟩) (by assumption) ?_
                        case pby6 => (dsimp only at hSw; go_simp; try (with_reducible rfl))
                        (try simp only [Act.put, List.setIfInBounds_toArray, List.set_cons_zero, List.set_cons_succ])
                        refine wpAnyH_take (i := 7) (oi := ⟨some 145, _, _, _, _, _⟩) (v := ?pbv7) rfl (by kernel_rfl) (by kernel_rfl) (by kernel_rfl) (fun _ _ _ h => h) (Or.inl ⟨by rfl, fun w hSw => ?pby7⟩) (by assumption) ?_
                        case pby7 => (dsimp only at hSw; go_simp; try (with_reducible rfl))
                        (try simp only [Act.put, List.setIfInBounds_toArray, List.set_cons_zero, List.set_cons_succ])
                        refine wpAnyH_take (i := 8) (oi := ⟨some 146, _, _, _, _, _⟩) (v := ?pbv8) rfl (by kernel_rfl) (by kernel_rfl) (by kernel_rfl) (fun _ _ _ h => h) (Or.inl ⟨by rfl, fun w hSw => ?pby8⟩) (by assumption) ?_
                        case pby8 => (dsimp only at hSw; go_simp; try (with_reducible rfl))
                        (try simp only [Act.put, List.setIfInBounds_toArray, List.set_cons_zero, List.set_cons_succ])
                        refine wpAnyH_take (i := 9) (oi := ⟨some 147, _, _, _, _, _⟩) (v := ?pbv9) rfl (by kernel_rfl) (by kernel_rfl) (by kernel_rfl) (fun _ _ _ h => h) (Or.inl ⟨by rfl, fun w hSw => ?pby9⟩) (by assumption) ?_
                        case pby9 => (dsimp only at hSw; go_simp; try (with_reducible rfl))
                        (try simp only [Act.put, List.setIfInBounds_toArray, List.set_cons_zero, List.set_cons_succ])
                        refine wpAnyH_take (i := 10) (oi := ⟨some 148, _, _, _, _, _⟩) (v := ?pbv10) rfl (by kernel_rfl) (by kernel_rfl) (by kernel_rfl) (fun _ _ _ h => h) (Or.inl ⟨by rfl, fun w hSw => ?pby10⟩) (by assumption) ?_
                        case pby10 => (dsimp only at hSw; go_simp; try (with_reducible rfl))
                        (try simp only [Act.put, List.setIfInBounds_toArray, List.set_cons_zero, List.set_cons_succ])
                        refine wpAnyH_done (by kernel_rfl) ?_ _
                        have hTe := hHeld.2.2
                        clear hHeld y0 z0
                        go_wp2
                        go_roundw
                        case rel => exact ⟨k + 1, by omega, by go_num, hTe⟩
                        case measure => simp [intOf]; omega
                      ·
                        go_wp2
                        go_roundw
                        case rel => exact ⟨j + 1, by omega, by go_num, hT.s.below⟩
                        case measure => simp [intOf]; omega
                  · clear HV HWA
                    go_wp2_with (go_at_call 39; refine (wakes05_c _).mono ?_; rintro e w2 ⟨rfl, hb2⟩)
                    go_ret
                    exact ⟨rfl, below_then hbr hbr.size hb2⟩
              | true =>
                have hmm := mst_most (fun n hn => (gds_iff.1 hgd n hn).1)
                have hm0 := mst_lo X
                have hm1 : mst X < 4611686018427387904 := by
                  rw [hmm]
                  by_cases hX0 : X = []
                  · subst hX0; simp [most]
                  · exact (gds_iff.1 hgd _ (most_mem hX0 (fun n hn => (gds_iff.1 hgd n hn).1))).2
                have HCo := Lib.hid (fun W hW => HCn.out W hW hgd)
                rw [← hmm] at HCo
                clear hmm HCn hgd
                generalize mst X = m at HCo hm0 hm1 ⊢
                have hwm : IntKind.i64.wrap (m + 1) = m + 1 := by rw [IntKind.wrap_i64]; omega
                go_wp2_with (go_at_call 43; refine (HCo.out _ hb).mono ?_; clear HCo; rintro e w11 ⟨rfl, hb1⟩; replace hb := below_then hb hb.size hb1; clear hb1)
                go_loopw [13] (fun i wr => ∃ j : Nat, j ≤ a.length ∧ i = .int .i64 j ∧ Below w.heap.size w wr) (fun i _ => a.length - (intOf i).toNat)
                case atStart => exact ⟨0, Nat.zero_le _, rfl, hb⟩
                case round =>
                  clear hb
                  obtain ⟨j, hj, rfl, hbr⟩ := hrel
                  by_cases hlt : j < a.length
                  · have hSa := HV.out.below hbr
                    have hSa' := hSa
                    obtain ⟨_, _, ea, hal, hac, hAa⟩ := hSa'
                    injection ea with e1 e2 e3
                    subst e1 e3
                    clear e2
                    unfold maxLen at hac
                    obtain ⟨ba, oa, ua, rfl, -, hloa, k0, k1, k2, k3, haS⟩ := tm_elem hAa hlt
                    obtain ⟨uA, uc, rfl⟩ := haS.form
                    have hzj : a[j].siz ≤ 1000000 := by have := siz_mem (List.getElem_mem hlt); omega
                    have hwj := WfL_at HWA.out hlt
                    have HSU := Lib.hid (fun W (hW : Below wr.heap.size wr W) c' (hc : 1 ≤ c' ∧ c' ≤ c) => sub_one (hSa.below hW) hlt hc)
                    clear hAa hSa
                    generalize a[j] = t at k0 k1 k2 k3 haS hzj hwj HSU
                    obtain ⟨s, hs⟩ : ∃ s, s = t.ren fun n => wrap64 (n + by_) := ⟨_, rfl⟩
                    obtain ⟨nby, hnby⟩ : ∃ nby, nby = wrap64 (-by_) := ⟨_, rfl⟩
                    have hneg : IntKind.i64.wrap (-by_) = nby := by rw [hnby, IntKind.wrap_i64, wrap64]
                    have HB := Lib.hid (show (s.ren fun n => wrap64 (n + nby)).eqb t = true by rw [hs, hnby, back_same hwj]; exact (Tm.eqb_iff _ _).2 rfl)
                    have HD := Lib.hid (show dd (occL [s]) = (dd (occL [t])).map (fun n => wrap64 (n + by_)) by rw [hs]; exact shift_vars hwj by_)
                    have HS := Lib.hid (Shift_c t by_ _ wr _ ⟨_, rfl, haS⟩ hzj)
                    rw [← hs] at HS
                    have hzs : sizL [s] ≤ 1000000 := by rw [hs]; simp [sizL, ren_siz]; omega
                    have hzs' : s.siz ≤ 1000000 := by rw [hs, ren_siz]; exact hzj
                    have HVm := Lib.hid (fun W v ok (hv : Kd.tm.S W ok [t] v) => refVars_c [t] v W ok hv (by simp [sizL]; omega))
                    have HVs := Lib.hid (fun W v ok (hv : Kd.tm.S W ok [s] v) => refVars_c [s] v W ok hv hzs)
                    rw [HD.out] at HVs
                    simp only [List.length_map] at HVs
                    have hMl : (dd (occL [t])).length ≤ 1000000 := by have h1 := dd_length (occL [t]); have h2 := occL_length [t]; simp [sizL] at h2; omega
                    generalize dd (occL [t]) = Y at HVm HVs hMl
                    obtain ⟨sk, ss, sn, sl⟩ := s
                    have m1 : Hid (0 = 0) := Lib.hid rfl
                    have hj1 : (j : Int) + 1 ≤ a.length := by omega
                    have hj2 : (j : Int) + 1 ≤ c := by omega
                    have hjw : IntKind.i64.wrap ((j : Int) + 1) = (j : Int) + 1 := by rw [IntKind.wrap_i64]; omega
                    clear hs hnby HD hwj
                    go_wp2_with (first
                      | (go_at_call 44; refine HS.out.mono ?_; clear HS; rintro e w1 ⟨⟨r, rfl, su, rfl, hsS⟩, hb1⟩; obtain ⟨sA, sc, rfl⟩ := hsS.form; have hbw1 := below_then hbr hbr.size hb1; have hS1 := Bx.of (w := w) (t := ⟨sk, ss, sn, sl⟩) hbw1 hsS; obtain ⟨x0, x1, x2, x3, -⟩ := hS1.held)
                      | (go_at_call 30; have hx := m1.out; clear hx m1; refine (HVs.out _ _ _ (lit1_at (t := ⟨sk, ss, sn, sl⟩) (heap_at _ _ _ (by simp)) (hS1.alloc _).args)).mono ?_; clear HVs; rintro e w2 ⟨⟨lA, lc, rfl, hL⟩, hb2⟩; have hS2 := (hS1.alloc _).then hb2; have hbb : Below wr.heap.size wr w2 := below_then ((hb1.alloc hb1.size _).alloc (by have := hb1.size; simp; omega) _) (by have := hb1.size; simp; omega) hb2)
                      | (go_at_call 30; refine (HVm.out _ _ _ (HSU.out _ hbb (c - j) ⟨by omega, by omega⟩)).mono ?_; clear HVm HSU; rintro e w3 ⟨⟨mA, mc, rfl, hM⟩, hb3⟩; have hbb3 : Below wr.heap.size wr w3 := below_then hbb hbb.size hb3; have hTS : TS w w1.heap.size ⟨sk, ss, sn, sl⟩ (.slice sA sl.length sc) t.l (.slice uA t.l.length uc) (Y.map fun n => wrap64 (n + by_)) (.slice lA Y.length lc) Y (.slice mA Y.length mc) w3 := ⟨hS2.then hb3, ((haS.below hbb).below hb3).mono (fun _ _ => trivial), hL.below hb3, hM⟩))
                    replace k0 := held_cell hbb3 k0
                    replace k1 := held_cell hbb3 k1
                    replace k2 := held_cell hbb3 k2
                    replace k3 := held_cell hbb3 k3
                    obtain ⟨x0, x1, x2, x3, -⟩ := hTS.s.held
                    clear hS1 hS2 hL hM haS hb1 hb2 hb3 hbb hbb3 hsS hbw1
                    refine wp_region_held_drew (S := (fun W => W.cell? ⟨w1.heap.size, 0, none⟩ = some (.int .u8 sk) ∧ W.cell? ⟨w1.heap.size, 1, none⟩ = some (.string ss) ∧ W.cell? ⟨w1.heap.size, 2, none⟩ = some (.int .i64 sn) ∧ W.cell? ⟨w1.heap.size, 3, none⟩ = some (.slice sA sl.length sc) ∧ W.cell? ⟨ba, oa + j * 4, none⟩ = some (.int .u8 t.k) ∧ W.cell? ⟨ba, oa + j * 4 + 1, none⟩ = some (.string t.s) ∧ W.cell? ⟨ba, oa + j * 4 + 2, none⟩ = some (.int .i64 t.n) ∧ W.cell? ⟨ba, oa + j * 4 + 3, none⟩ = some (.slice uA t.l.length uc) ∧ TS w w1.heap.size ⟨sk, ss, sn, sl⟩ (.slice sA sl.length sc) t.l (.slice uA t.l.length uc) (Y.map fun n => wrap64 (n + by_)) (.slice lA Y.length lc) Y (.slice mA Y.length mc) W)) (by kernel_rfl) ?_ (fun hHeld => ?_)
                    · exact ⟨x0, x1, x2, x3, k0, k1, k2, k3, hTS.then (Below.refl _ _).drew⟩
                    change wpAnyH _ .any _ _ _ 17 (Array.replicate 17 false) _ _
                    refine wpAnyH_take (i := 0) (oi := ⟨some 115, _, _, _, _, _⟩) (v := ?qav0) rfl (by kernel_rfl) (by kernel_rfl) (by kernel_rfl) (fun _ _ _ h => h) (Or.inl ⟨by rfl, fun w hSw => ?qay0⟩) (by assumption) ?_
                    case qay0 => (dsimp only at hSw; go_simp; try (with_reducible rfl))
                    (try simp only [Act.put, List.setIfInBounds_toArray, List.set_cons_zero, List.set_cons_succ])
                    refine wpAnyH_take (i := 1) (oi := ⟨some 116, _, _, _, _, _⟩) (v := ?qav1) rfl (by kernel_rfl) (by kernel_rfl) (by kernel_rfl) (fun _ _ _ h => h) (Or.inl ⟨by rfl, fun w hSw => ?qay1⟩) (by assumption) ?_
                    case qay1 => (dsimp only at hSw; go_simp; try (with_reducible rfl))
                    (try simp only [Act.put, List.setIfInBounds_toArray, List.set_cons_zero, List.set_cons_succ])
                    refine wpAnyH_take (i := 2) (oi := ⟨some 117, _, _, _, _, _⟩) (v := ?qav2) rfl (by kernel_rfl) (by kernel_rfl) (by kernel_rfl) (fun _ _ _ h => h) (Or.inl ⟨by rfl, fun w hSw => ?qay2⟩) (by assumption) ?_
                    case qay2 => (dsimp only at hSw; go_simp; try (with_reducible rfl))
                    (try simp only [Act.put, List.setIfInBounds_toArray, List.set_cons_zero, List.set_cons_succ])
                    refine wpAnyH_take (i := 3) (oi := ⟨some 118, _, _, _, _, _⟩) (v := ?qav3) rfl (by kernel_rfl) (by kernel_rfl) (by kernel_rfl) (fun _ _ _ h => h) (Or.inl ⟨by rfl, fun w hSw => ?qay3⟩) (by assumption) ?_
                    case qay3 => (dsimp only at hSw; go_simp; try (with_reducible rfl))
                    (try simp only [Act.put, List.setIfInBounds_toArray, List.set_cons_zero, List.set_cons_succ])
                    refine wpAnyH_take (i := 4) (oi := ⟨some 119, _, _, _, _, _⟩) (v := ?qav4) rfl (by kernel_rfl) (by kernel_rfl) (by kernel_rfl) (fun _ _ _ h => h) (Or.inl ⟨by rfl, fun w hSw => ?qay4⟩) (by assumption) ?_
                    case qay4 => (dsimp only at hSw; go_simp; try (with_reducible rfl))
                    (try simp only [Act.put, List.setIfInBounds_toArray, List.set_cons_zero, List.set_cons_succ])
                    refine wpAnyH_take (i := 5) (oi := ⟨some 120, _, _, _, _, _⟩) (v := ?qav5) rfl (by kernel_rfl) (by kernel_rfl) (by kernel_rfl) (fun _ _ _ h => h) (Or.inl ⟨by rfl, fun w hSw => ?qay5⟩) (by assumption) ?_
                    case qay5 => (dsimp only at hSw; go_simp; try (with_reducible rfl))
                    (try simp only [Act.put, List.setIfInBounds_toArray, List.set_cons_zero, List.set_cons_succ])
                    refine wpAnyH_take (i := 6) (oi := ⟨some 121, _, _, _, _, _⟩) (v := ?qav6) rfl (by kernel_rfl) (by kernel_rfl) (by kernel_rfl) (fun _ _ _ h => h) (Or.inl ⟨by rfl, fun w hSw => ?qay6⟩) (by assumption) ?_
                    case qay6 => (dsimp only at hSw; go_simp; try (with_reducible rfl))
                    (try simp only [Act.put, List.setIfInBounds_toArray, List.set_cons_zero, List.set_cons_succ])
                    refine wpAnyH_take (i := 7) (oi := ⟨some 122, _, _, _, _, _⟩) (v := ?qav7) rfl (by kernel_rfl) (by kernel_rfl) (by kernel_rfl) (fun _ _ _ h => h) (Or.inl ⟨by rfl, fun w hSw => ?qay7⟩) (by assumption) ?_
                    case qay7 => (dsimp only at hSw; go_simp; try (with_reducible rfl))
                    (try simp only [Act.put, List.setIfInBounds_toArray, List.set_cons_zero, List.set_cons_succ])
                    refine wpAnyH_take (i := 8) (oi := ⟨some 123, _, _, _, _, _⟩) (v := ?qav8) rfl (by kernel_rfl) (by kernel_rfl) (by kernel_rfl) (fun _ _ _ h => h) (Or.inl ⟨by rfl, fun w hSw => ?qay8⟩) (by assumption) ?_
                    case qay8 => (dsimp only at hSw; go_simp; try (with_reducible rfl))
                    (try simp only [Act.put, List.setIfInBounds_toArray, List.set_cons_zero, List.set_cons_succ])
                    refine wpAnyH_take (i := 10) (oi := ⟨some 125, _, _, _, _, _⟩) (v := ?qav10) rfl (by kernel_rfl) (by kernel_rfl) (by kernel_rfl) (fun _ _ _ h => h) (Or.inl ⟨by rfl, fun w hSw => ?qay10⟩) (by assumption) ?_
                    case qay10 => (dsimp only at hSw; go_simp; try (with_reducible rfl))
                    (try simp only [Act.put, List.setIfInBounds_toArray, List.set_cons_zero, List.set_cons_succ])
                    refine wpAnyH_take (i := 11) (oi := ⟨some 126, _, _, _, _, _⟩) (v := ?qav11) rfl (by kernel_rfl) (by kernel_rfl) (by kernel_rfl) (fun _ _ _ h => h) (Or.inl ⟨by rfl, fun w hSw => ?qay11⟩) (by assumption) ?_
                    case qay11 => (dsimp only at hSw; go_simp; try (with_reducible rfl))
                    (try simp only [Act.put, List.setIfInBounds_toArray, List.set_cons_zero, List.set_cons_succ])
                    refine wpAnyH_take (i := 12) (oi := ⟨some 127, _, _, _, _, _⟩) (v := ?qav12) rfl (by kernel_rfl) (by kernel_rfl) (by kernel_rfl) (fun _ _ _ h => h) (Or.inl ⟨by rfl, fun w hSw => ?qay12⟩) (by assumption) ?_
                    case qay12 => (dsimp only at hSw; go_simp; try (with_reducible rfl))
                    (try simp only [Act.put, List.setIfInBounds_toArray, List.set_cons_zero, List.set_cons_succ])
                    refine wpAnyH_take (i := 13) (oi := ⟨some 128, _, _, _, _, _⟩) (v := ?qav13) rfl (by kernel_rfl) (by kernel_rfl) (by kernel_rfl) (fun _ _ _ h => h) (Or.inl ⟨by rfl, fun w hSw => ?qay13⟩) (by assumption) ?_
                    case qay13 => (dsimp only at hSw; go_simp; try (with_reducible rfl))
                    (try simp only [Act.put, List.setIfInBounds_toArray, List.set_cons_zero, List.set_cons_succ])
                    refine wpAnyH_ready (rs := [9]) (by kernel_rfl) (by simp) ?_
                    refine AllReadyH.cons (o := ⟨some 124, _, _, _, _, _⟩) rfl (fun K hK => ?_) AllReadyH.nil
                    go_simp
                    refine (Shift_c ⟨sk, ss, sn, sl⟩ nby _ _ _ hHeld.2.2.2.2.2.2.2.2.s.tmv hzs').mono ?_
                    rintro e w9 ⟨⟨r9, rfl, hr9⟩, hb9⟩
                    go_wp2_with fail
                    refine hK.out _ _ (by obtain ⟨q0, q1, q2, q3, q4, q5, q6, q7, qR⟩ := hHeld; exact ⟨held_cell hb9 q0, held_cell hb9 q1, held_cell hb9 q2, held_cell hb9 q3, held_cell hb9 q4, held_cell hb9 q5, held_cell hb9 q6, held_cell hb9 q7, qR.then hb9⟩) (fun hHeld => ?_)
                    clear hK K
                    (try simp only [Act.put, List.setIfInBounds_toArray, List.set_cons_zero, List.set_cons_succ])
                    refine wpAnyH_ready (rs := [14]) (by kernel_rfl) (by simp) ?_
                    refine AllReadyH.cons (o := ⟨some 129, _, _, _, _, _⟩) rfl (fun K hK => ?_) AllReadyH.nil
                    go_simp
                    have hq := Same_c _ t _ _ _ _ _ hr9 ⟨_, rfl, hHeld.2.2.2.2.2.2.2.2.e⟩
                    rw [HB.out] at hq
                    refine hq.mono ?_
                    clear hq
                    rintro e w14 ⟨rfl, hb14⟩
                    go_wp2_with fail
                    refine hK.out _ _ (by obtain ⟨q0, q1, q2, q3, q4, q5, q6, q7, qR⟩ := hHeld; exact ⟨held_cell hb14 q0, held_cell hb14 q1, held_cell hb14 q2, held_cell hb14 q3, held_cell hb14 q4, held_cell hb14 q5, held_cell hb14 q6, held_cell hb14 q7, qR.then hb14⟩) (fun hHeld => ?_)
                    clear hK K
                    (try simp only [Act.put, List.setIfInBounds_toArray, List.set_cons_zero, List.set_cons_succ])
                    refine wpAnyH_take (i := 15) (oi := ⟨some 130, _, _, _, _, _⟩) (v := ?qav15) rfl (by kernel_rfl) (by kernel_rfl) (by kernel_rfl) (fun _ _ _ h => h) (Or.inl ⟨by rfl, fun w hSw => ?qay15⟩) (by assumption) ?_
                    case qay15 => (dsimp only at hSw; go_simp; try (with_reducible rfl))
                    (try simp only [Act.put, List.setIfInBounds_toArray, List.set_cons_zero, List.set_cons_succ])
                    refine wpAnyH_take (i := 16) (oi := ⟨some 131, _, _, _, _, _⟩) (v := ?qav16) rfl (by kernel_rfl) (by kernel_rfl) (by kernel_rfl) (fun _ _ _ h => h) (Or.inl ⟨by rfl, fun w hSw => ?qay16⟩) (by assumption) ?_
                    case qay16 => (dsimp only at hSw; go_simp; try (with_reducible rfl))
                    (try simp only [Act.put, List.setIfInBounds_toArray, List.set_cons_zero, List.set_cons_succ])
                    refine wpAnyH_done (by kernel_rfl) ?_ _
                    have hT2 := hHeld.2.2.2.2.2.2.2.2
                    clear hHeld k0 k1 k2 k3 x0 x1 x2 x3 hb9 hb14 hr9 hneg hTS HB
                    go_wp2
                    go_loopw [17] (fun i wr => ∃ k : Nat, k ≤ Y.length ∧ i = .int .i64 k ∧ TS w w1.heap.size ⟨sk, ss, sn, sl⟩ (.slice sA sl.length sc) t.l (.slice uA t.l.length uc) (Y.map fun n => wrap64 (n + by_)) (.slice lA Y.length lc) Y (.slice mA Y.length mc) wr) (fun i _ => Y.length - (intOf i).toNat)
                    case atStart => exact ⟨0, Nat.zero_le _, rfl, hT2⟩
                    case round =>
                      clear hT2
                      obtain ⟨k, hk, rfl, hT⟩ := hrel
                      by_cases hkl : k < Y.length
                      · obtain ⟨_, _, el, hl1, hl2, hAl⟩ := hT.l
                        injection el with e1 e2 e3
                        subst e1 e3
                        clear e2
                        obtain ⟨_, _, em, hm1, hm2, hAm⟩ := hT.m
                        injection em with e1 e2 e3
                        subst e1 e3
                        clear e2
                        obtain ⟨bl, ol, rfl, -, hll, y0⟩ := int_elem hAl (j := k) (by simpa using hkl)
                        obtain ⟨bm, om, rfl, -, hlm, z0⟩ := int_elem hAm hkl
                        rw [List.getElem_map] at y0
                        obtain ⟨z, hz⟩ : ∃ z, z = wrap64 (Y[k] + by_) := ⟨_, rfl⟩
                        rw [← hz] at y0
                        have hzw : IntKind.i64.wrap (Y[k] + by_) = z := by rw [hz, IntKind.wrap_i64, wrap64]
                        simp only [List.length_map] at hl1
                        unfold maxLen at hl2 hm2
                        have hk1 : (k : Int) < Y.length := by omega
                        have hk2 : (k : Int) < lc := by omega
                        have hk3 : (k : Int) < mc := by omega
                        have hTd := Lib.hid hT
                        clear hAl hAm hz hT
                        generalize Y[k] = y at y0 z0 hzw
                        go_wp2
                        refine wp_region_held_drew (S := (fun W => W.cell? ⟨bl, ol + k, none⟩ = some (.int .i64 z) ∧ W.cell? ⟨bm, om + k, none⟩ = some (.int .i64 y) ∧ TS w w1.heap.size ⟨sk, ss, sn, sl⟩ (.slice sA sl.length sc) t.l (.slice uA t.l.length uc) (Y.map fun n => wrap64 (n + by_)) (.slice (some ⟨bl, ol, none⟩) Y.length lc) Y (.slice (some ⟨bm, om, none⟩) Y.length mc) W)) (by kernel_rfl) ?_ (fun hHeld => ?_)
                        · exact ⟨y0, z0, hTd.out.then (Below.refl _ _).drew⟩
                        change wpAnyH _ .any _ _ _ 11 (Array.replicate 11 false) _ _
                        refine wpAnyH_take (i := 0) (oi := ⟨some 138, _, _, _, _, _⟩) (v := ?qbv0) rfl (by kernel_rfl) (by kernel_rfl) (by kernel_rfl) (fun _ _ _ h => h) (Or.inl ⟨by rfl, fun w hSw => ?qby0⟩) (by assumption) ?_
                        case qby0 => (dsimp only at hSw; go_simp; try (with_reducible rfl))
                        (try simp only [Act.put, List.setIfInBounds_toArray, List.set_cons_zero, List.set_cons_succ])
                        refine wpAnyH_take (i := 1) (oi := ⟨some 139, _, _, _, _, _⟩) (v := ?qbv1) rfl (by kernel_rfl) (by kernel_rfl) (by kernel_rfl) (fun _ _ _ h => h) (Or.inl ⟨by rfl, fun w hSw => ?qby1⟩) (by assumption) ?_
                        case qby1 => (dsimp only at hSw; go_simp; try (with_reducible rfl))
                        (try simp only [Act.put, List.setIfInBounds_toArray, List.set_cons_zero, List.set_cons_succ])
                        refine wpAnyH_take (i := 2) (oi := ⟨some 140, _, _, _, _, _⟩) (v := ?qbv2) rfl (by kernel_rfl) (by kernel_rfl) (by kernel_rfl) (fun _ _ _ h => h) (Or.inl ⟨by rfl, fun w hSw => ?qby2⟩) (by assumption) ?_
                        case qby2 => (dsimp only at hSw; go_simp; try (with_reducible rfl))
                        (try simp only [Act.put, List.setIfInBounds_toArray, List.set_cons_zero, List.set_cons_succ])
                        refine wpAnyH_take (i := 3) (oi := ⟨some 141, _, _, _, _, _⟩) (v := ?qbv3) rfl (by kernel_rfl) (by kernel_rfl) (by kernel_rfl) (fun _ _ _ h => h) (Or.inl ⟨by rfl, fun w hSw => ?qby3⟩) (by assumption) ?_
                        case qby3 => (dsimp only at hSw; go_simp; try (with_reducible rfl))
                        (try simp only [Act.put, List.setIfInBounds_toArray, List.set_cons_zero, List.set_cons_succ])
                        refine wpAnyH_take (i := 4) (oi := ⟨some 142, _, _, _, _, _⟩) (v := ?qbv4) rfl (by kernel_rfl) (by kernel_rfl) (by kernel_rfl) (fun _ _ _ h => h) (Or.inl ⟨by rfl, fun w hSw => ?qby4⟩) (by assumption) ?_
                        case qby4 => (dsimp only at hSw; go_simp; try (with_reducible rfl))
                        (try simp only [Act.put, List.setIfInBounds_toArray, List.set_cons_zero, List.set_cons_succ])
                        refine wpAnyH_take (i := 5) (oi := ⟨some 143, _, _, _, _, _⟩) (v := ?qbv5) rfl (by kernel_rfl) (by kernel_rfl) (by kernel_rfl) (fun _ _ _ h => h) (Or.inl ⟨by rfl, fun w hSw => ?qby5⟩) (by assumption) ?_
                        case qby5 => (dsimp only at hSw; go_simp; try (with_reducible rfl))
                        (try simp only [Act.put, List.setIfInBounds_toArray, List.set_cons_zero, List.set_cons_succ])
                        refine wpAnyH_take (i := 6) (oi := ⟨some 144, _, _, _, _, _⟩) (v := ?qbv6) rfl (by kernel_rfl) (by kernel_rfl) (by kernel_rfl) (fun _ _ _ h => h) (Or.inl ⟨by rfl, fun w hSw => ?qby6⟩) (by assumption) ?_
                        case qby6 => (dsimp only at hSw; go_simp; try (with_reducible rfl))
                        (try simp only [Act.put, List.setIfInBounds_toArray, List.set_cons_zero, List.set_cons_succ])
                        refine wpAnyH_take (i := 7) (oi := ⟨some 145, _, _, _, _, _⟩) (v := ?qbv7) rfl (by kernel_rfl) (by kernel_rfl) (by kernel_rfl) (fun _ _ _ h => h) (Or.inl ⟨by rfl, fun w hSw => ?qby7⟩) (by assumption) ?_
                        case qby7 => (dsimp only at hSw; go_simp; try (with_reducible rfl))
                        (try simp only [Act.put, List.setIfInBounds_toArray, List.set_cons_zero, List.set_cons_succ])
                        refine wpAnyH_take (i := 8) (oi := ⟨some 146, _, _, _, _, _⟩) (v := ?qbv8) rfl (by kernel_rfl) (by kernel_rfl) (by kernel_rfl) (fun _ _ _ h => h) (Or.inl ⟨by rfl, fun w hSw => ?qby8⟩) (by assumption) ?_
                        case qby8 => (dsimp only at hSw; go_simp; try (with_reducible rfl))
                        (try simp only [Act.put, List.setIfInBounds_toArray, List.set_cons_zero, List.set_cons_succ])
                        refine wpAnyH_take (i := 9) (oi := ⟨some 147, _, _, _, _, _⟩) (v := ?qbv9) rfl (by kernel_rfl) (by kernel_rfl) (by kernel_rfl) (fun _ _ _ h => h) (Or.inl ⟨by rfl, fun w hSw => ?qby9⟩) (by assumption) ?_
                        case qby9 => (dsimp only at hSw; go_simp; try (with_reducible rfl))
                        (try simp only [Act.put, List.setIfInBounds_toArray, List.set_cons_zero, List.set_cons_succ])
                        refine wpAnyH_take (i := 10) (oi := ⟨some 148, _, _, _, _, _⟩) (v := ?qbv10) rfl (by kernel_rfl) (by kernel_rfl) (by kernel_rfl) (fun _ _ _ h => h) (Or.inl ⟨by rfl, fun w hSw => ?qby10⟩) (by assumption) ?_
                        case qby10 => (dsimp only at hSw; go_simp; try (with_reducible rfl))
                        (try simp only [Act.put, List.setIfInBounds_toArray, List.set_cons_zero, List.set_cons_succ])
                        refine wpAnyH_done (by kernel_rfl) ?_ _
                        have hTe := hHeld.2.2
                        clear hHeld y0 z0
                        go_wp2
                        go_roundw
                        case rel => exact ⟨k + 1, by omega, by go_num, hTe⟩
                        case measure => simp [intOf]; omega
                      ·
                        go_wp2
                        go_roundw
                        case rel => exact ⟨j + 1, by omega, by go_num, hT.s.below⟩
                        case measure => simp [intOf]; omega
                  · clear HV HWA
                    go_wp2_with (go_at_call 39; refine (wakes05_c _).mono ?_; rintro e w2 ⟨rfl, hb2⟩)
                    go_ret
                    exact ⟨rfl, below_then hbr hbr.size hb2⟩
end Go.Proofs.Ytgoeglahmlpmeaa

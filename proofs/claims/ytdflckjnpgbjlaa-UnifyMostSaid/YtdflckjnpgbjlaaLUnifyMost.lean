/- The law UnifyMost, walked. Conditions: the arguments read; what they are made of is in its bounds. -/
import Derived.Test.YtdflckjnpgbjlaaUm2
import Derived.Test.YtdflckjnpgbjlaaUm3
set_option linter.unusedVariables false
set_option maxRecDepth 20000
set_option linter.unusedSimpArgs false
namespace Go.Proofs.Ytdflckjnpgbjlaa
open Go.RowKit

set_option maxRecDepth 100000 in
theorem UnifyMost_c (l : Bs) (a b : Tm) (vl v v' : Value) (w : World) (okl ok ok' : Nat → Prop) (hvl : Kd.bd.S w okl l vl) (hv : TmV w ok a v) (hv' : TmV w ok' b v') (hl : WfB l) (wa : a.Wf) (wb : b.Wf) :
    Calls Try.prog 6 #[vl, v, v'] w fun e w' => e = .returned (.bool true) ∧ Below w.heap.size w w' := by
  obtain ⟨ua, rfl, hS⟩ := hv
  obtain ⟨A, ca, rfl⟩ := hS.form
  obtain ⟨ub, rfl, hS'⟩ := hv'
  obtain ⟨B, cb, rfl⟩ := hS'.form
  obtain ⟨Al, cl, rfl⟩ := hvl.form
  have hb2 : ∀ O O' : Obj, Below w.heap.size w ((w.alloc O).alloc O') := fun O O' => ((Below.refl _ w).alloc (Nat.le_refl _) _).alloc (by simp) _
  have hbt2 := Bt.new (W := w.alloc (.cells #[.int .u8 a.k, .string a.s, .int .i64 a.n, .slice A a.l.length ca] 24)) (hS'.below ((Below.refl _ w).alloc (Nat.le_refl _) _))
  rw [World.size_alloc] at hbt2
  have hbt1 := (Bt.new hS).below ((Below.refl _ (w.alloc (.cells #[.int .u8 a.k, .string a.s, .int .i64 a.n, .slice A a.l.length ca] 24))).alloc (Nat.le_refl _) (.cells #[.int .u8 b.k, .string b.s, .int .i64 b.n, .slice B b.l.length cb] 24))
  have HK : Hid (Fk w [.bt w.heap.size a (.slice A a.l.length ca), .bt (w.heap.size + 1) b (.slice B b.l.length cb), .bds l (.slice Al l.length cl)] ((w.alloc (.cells #[.int .u8 a.k, .string a.s, .int .i64 a.n, .slice A a.l.length ca] 24)).alloc (.cells #[.int .u8 b.k, .string b.s, .int .i64 b.n, .slice B b.l.length cb] 24))) :=
    Lib.hid ⟨hb2 _ _, fun f hf => by
      simp only [List.mem_cons, List.not_mem_nil, or_false] at hf
      rcases hf with rfl | rfl | rfl
      · exact hbt1
      · exact hbt2
      · exact (hvl.below (hb2 _ _)).mono (fun _ _ => trivial)⟩
  clear hvl hS hS' hb2 hbt1 hbt2
  have HG3 := Lib.hid (fun W (h : Kd.bd.S W (fun _ => True) l (.slice Al l.length cl)) (h' : Kd.tm.S W (fun _ => True) a.l (.slice A a.l.length ca)) => Great3_c l a _ (.agg #[.int .u8 a.k, .string a.s, .int .i64 a.n, .slice A a.l.length ca]) W _ _ h ⟨_, rfl, h'⟩ hl wa)
  have HG := Lib.hid (fun W B' (h : Kd.tm.S W (fun _ => True) [b] (.slice (some ⟨B', 0, none⟩) 1 1)) => Great_c [b] _ W _ h ⟨wb, trivial⟩)
  cases hg3 : great3 l a with
  | true => rw [hg3] at HG3; exact most_g3 HK HG3
  | false =>
    rw [hg3] at HG3
    cases hgb : great [b] with
    | true => rw [hgb] at HG; exact most_g HK HG3 HG
    | false =>
      rw [hgb] at HG
      obtain ⟨hz1, hz2⟩ := great3_siz hg3
      have hll := (great3_no hg3).1
      have hz3 := great_siz hgb
      simp only [sizL] at hz3
      have HDA := Lib.hid (fun W (h : Kd.tm.S W (fun _ => True) a.l (.slice A a.l.length ca)) => refGood_c a (.agg #[.int .u8 a.k, .string a.s, .int .i64 a.n, .slice A a.l.length ca]) W _ ⟨_, rfl, h⟩ (by omega) wa)
      have HDB := Lib.hid (fun W (h : Kd.tm.S W (fun _ => True) b.l (.slice B b.l.length cb)) => refGood_c b (.agg #[.int .u8 b.k, .string b.s, .int .i64 b.n, .slice B b.l.length cb]) W _ ⟨_, rfl, h⟩ (by omega) wb)
      cases hga : a.good with
      | false => rw [hga] at HDA; exact most_ga HK HG3 HG HDA
      | true =>
        rw [hga] at HDA
        cases hgb2 : b.good with
        | false => rw [hgb2] at HDB; exact most_gb HK HG3 HG HDA HDB
        | true =>
          rw [hgb2] at HDB
          have ka := good_vok hga
          have kb := good_vok hgb2
          have hac : Acyc (mk [] l) := mk_acyc l [] acyc_nil
          have hsm : ∀ n x, ofB (mk [] l) n = some x → x.siz ≤ 1000000 := fun n x h => by have := mk_siz hz1 n x h; omega
          have hwm : ∀ n x, ofB (mk [] l) n = some x → x.Wf := fun n x h => by
            rcases mk_sub l [] _ (ofB_mem h) with h1 | h1
            · cases h1
            · exact (hl _ h1).2
          have HDL : Hid (∀ q ∈ l, ∀ W u, Kd.tm.S W (fun _ => True) q.2.l u → Calls Try.prog 16 #[.agg #[.int .u8 q.2.k, .string q.2.s, .int .i64 q.2.n, u]] W fun e w' => e = .returned (.bool q.2.good) ∧ Below W.heap.size W w') :=
            Lib.hid (fun q hq W u h => refGood_c q.2 _ W _ ⟨_, rfl, h⟩ (by have := hz1 q hq; omega) (hl q hq).2)
          have HMK : Hid (∀ W, Kd.bd.S W (fun _ => True) l (.slice Al l.length cl) → Calls Try.prog 29 #[.slice Al l.length cl] W fun e w' => (∃ p b r, e = .returned (.tuple #[.pointer (some ⟨p, 0, none⟩), r, .bool true]) ∧ Sub w' (fun _ => True) (mk [] l) p b) ∧ Below W.heap.size W w') :=
            Lib.hid (fun W h => (Make_c l _ W _ h hl hll (fun b hb => by have := hz1 b hb; omega)).mono (fun e w' ⟨⟨p, b, r, he, hs, _⟩, hb⟩ => ⟨⟨p, b, r, he, hs.mono (fun _ _ => trivial)⟩, hb⟩))
          have AP : ∀ (L : Bs), Acyc L → (∀ n t, ofB L n = some t → t.siz ≤ 1000000) → ∀ (t : Tm), t.Wf → t.siz ≤ 1000000 → ∀ W p c u, Sub W (fun _ => True) L p c → Kd.tm.S W (fun _ => True) t.l u → Calls Try.prog 24 #[.pointer (some ⟨p, 0, none⟩), .agg #[.int .u8 t.k, .string t.s, .int .i64 t.n, u]] W fun e w' => (∃ u, e = .returned (.tuple #[u, .int .i64 (appE (visA L t) (appA L t)).2]) ∧ TmV w' (fun _ => True) (appE (visA L t) (appA L t)).1 u) ∧ Below W.heap.size W w' :=
            fun L hA hsm t ht hz W p c u hs hu => (Apply_c L p c (fuelOf L t) t _ W _ hs ⟨_, rfl, hu⟩ ht (hA.fueled t) hsm hz).mono (fun e w' ⟨⟨u, he, hu⟩, hb⟩ => ⟨⟨u, he, hu.mono (fun _ _ => trivial)⟩, hb⟩)
          have HAA := Lib.hid (fun W p c (hs : Sub W (fun _ => True) (mk [] l) p c) (hu : Kd.tm.S W (fun _ => True) a.l (.slice A a.l.length ca)) => AP (mk [] l) hac hsm a wa (by omega) W p c _ hs hu)
          have HAB := Lib.hid (fun W p c (hs : Sub W (fun _ => True) (mk [] l) p c) (hu : Kd.tm.S W (fun _ => True) b.l (.slice B b.l.length cb)) => AP (mk [] l) hac hsm b wb (by omega) W p c _ hs hu)
          have SM : ∀ x y W v v', TmV W (fun _ => True) x v → TmV W (fun _ => True) y v' → Calls Try.prog 26 #[v, v'] W fun e w' => e = .returned (.bool (Tm.eqb x y)) ∧ Below W.heap.size W w' := fun x y W v v' h h' => Same_c x y W _ _ v v' h h'
          have HUU := fun W q c (h : Kd.tm.S W (fun _ => True) a.l (.slice A a.l.length ca)) (h' : Kd.tm.S W (fun _ => True) b.l (.slice B b.l.length cb)) (hn : Sub W (fun _ => True) [] q c) => Unify_c [] q c a b (.agg #[.int .u8 a.k, .string a.s, .int .i64 a.n, .slice A a.l.length ca]) (.agg #[.int .u8 b.k, .string b.s, .int .i64 b.n, .slice B b.l.length cb]) W _ _ _ hn ⟨_, rfl, h⟩ ⟨_, rfl, h'⟩ wa wb (by omega) (by omega) K5.sm0 (by simp)
          have c1 := appE_cases (visA (mk [] l) a) (appA (mk [] l) a)
          have c2 := appE_cases (visA (mk [] l) b) (appA (mk [] l) b)
          have HSM := Lib.hid (fun W v v' h h' => SM (appE (visA (mk [] l) a) (appA (mk [] l) a)).1 (appE (visA (mk [] l) b) (appA (mk [] l) b)).1 W v v' h h')
          cases hO : un 4098 0 [] [(a, b)] with
          | full =>
            rw [hO] at HUU
            exact mw_full HK HG3 HG HDA HDB (Lib.hid hll) HDL HMK HAA HAB HSM (fun _ => Lib.hid HUU) (by omega)
          | no =>
            rw [hO] at HUU
            refine mw_no HK HG3 HG HDA HDB (Lib.hid hll) HDL HMK HAA HAB HSM (fun _ => Lib.hid HUU) ?_
            have hne := most_no hac ka kb hO
            rcases c1 with ⟨c1, c1', _⟩ | ⟨c1, _⟩
            · rcases c2 with ⟨c2, c2', _⟩ | ⟨c2, _⟩
              · refine .inl ⟨c1, c2, ?_⟩
                rw [c1', c2', Bool.eq_false_iff]
                exact fun h => hne ((Tm.eqb_iff _ _).1 h)
              · exact .inr (.inr ⟨c1, c2⟩)
            · exact .inr (.inl c1)
          | yes l' n' =>
            rw [hO] at HUU
            have HU2 : (∀ q ∈ l, q.2.good = true) → _ := fun _ => Lib.hid HUU
            obtain ⟨hA', hV', hEq⟩ := most_yes ka kb hO
            have hbd := un_bounds (N := 1000000) 4098 0 [] [(a, b)] l' n' (fun _ _ h => by cases h) (by simp; omega) (by omega) hO
            have HPA := Lib.hid (fun W p c (hs : Sub W (fun _ => True) l' p c) (hu : Kd.tm.S W (fun _ => True) a.l (.slice A a.l.length ca)) => AP l' hA' hbd.1 a wa (by omega) W p c _ hs hu)
            have HPB := Lib.hid (fun W p c (hs : Sub W (fun _ => True) l' p c) (hu : Kd.tm.S W (fun _ => True) b.l (.slice B b.l.length cb)) => AP l' hA' hbd.1 b wb (by omega) W p c _ hs hu)
            have hVL : (visA l' a).length = (visA l' b).length := by
              have h1 := app_siz _ a (hA'.fueled a)
              have h2 := app_siz _ b (hA'.fueled b)
              show (vis l' (fuelOf l' a) a).length = (vis l' (fuelOf l' b) b).length
              rw [← h1, ← h2]
              exact congrArg Tm.siz hEq
            have c3 := appE_cases (visA l' a) (appA l' a)
            have c4 := appE_cases (visA l' b) (appA l' b)
            have e34 : (appE (visA l' b) (appA l' b)).2 = (appE (visA l' a) (appA l' a)).2 := by
              rcases c3 with ⟨c3, _, h3⟩ | ⟨c3, h3⟩
              · rcases c4 with ⟨c4, _, h4⟩ | ⟨c4, h4⟩
                · rw [c3, c4]
                · omega
              · rcases c4 with ⟨c4, _, h4⟩ | ⟨c4, h4⟩
                · omega
                · rw [c3, c4]
            rw [e34] at HPB
            have hE : ((appE (visA l' a) (appA l' a)).2 = 0 ∧ (appE (visA l' a) (appA l' a)).1.eqb (appE (visA l' b) (appA l' b)).1 = true) ∨ (appE (visA l' a) (appA l' a)).2 = 31 := by
              rcases c3 with ⟨c3, h3, _⟩ | ⟨c3, _⟩
              · rcases c4 with ⟨c4, h4, _⟩ | ⟨c4, _⟩
                · refine .inl ⟨c3, ?_⟩
                  rw [h3, h4, hEq]
                  exact (Tm.eqb_iff _ _).2 rfl
                · rw [e34, c3] at c4; omega
              · exact .inr c3
            have HS2 := Lib.hid (fun W v v' h h' => SM (appE (visA l' a) (appA l' a)).1 (appE (visA l' b) (appA l' b)).1 W v v' h h')
            have hzz : sizL [a, b] ≤ 1000000 := by simp only [sizL]; omega
            have HV := Lib.hid (fun W B' (h : Kd.tm.S W (fun _ => True) [a, b] (.slice (some ⟨B', 0, none⟩) 2 2)) => Vars_s [a, b] _ W _ h hzz)
            have hvl : (dd (occL [a, b])).length ≤ 1000000 := by
              have h1 := dd_length (occL [a, b])
              have h2 := occL_length [a, b]
              omega
            by_cases hal : (appE (visA (mk [] l) a) (appA (mk [] l) a)).2 = 0 ∧ (appE (visA (mk [] l) b) (appA (mk [] l) b)).2 = 0 ∧ (appE (visA (mk [] l) a) (appA (mk [] l) a)).1.eqb (appE (visA (mk [] l) b) (appA (mk [] l) b)).1 = true
            · have hab : appA (mk [] l) a = appA (mk [] l) b := by
                obtain ⟨h1, h2, h3⟩ := hal
                rcases c1 with ⟨_, c1', _⟩ | ⟨c1, _⟩
                · rcases c2 with ⟨_, c2', _⟩ | ⟨c2, _⟩
                  · rw [c1', c2'] at h3; exact (Tm.eqb_iff _ _).1 h3
                  · omega
                · omega
              have hnv : ∀ n ∈ dd (occL [a, b]), 0 ≤ n ∧ (-9223372036854775808 ≤ n ∧ n ≤ 9223372036854775807) := fun n hn => ⟨vokL_occ [a, b] ⟨ka, kb, trivial⟩ n (dd_mem.1 hn), occL_bd [a, b] ⟨wa, wb, trivial⟩ n (dd_mem.1 hn)⟩
              have hkz : ∀ n, (kV n).siz ≤ 1000000 := fun n => by simp [kV, Tm.siz, sizL]
              refine mw_yest (had := mk [] l) (l' := l') (vs := dd (occL [a, b])) (mM := fun n => (appE (visA l' (kV n)) (appA l' (kV n))).2) (mU := fun n => (appE (visA l' (kV n)) (appA l' (kV n))).1)
                (mN := fun n => (appE (visA (mk [] l) (appE (visA l' (kV n)) (appA l' (kV n))).1) (appA (mk [] l) (appE (visA l' (kV n)) (appA l' (kV n))).1)).2) (mV := fun n => (appE (visA (mk [] l) (appE (visA l' (kV n)) (appA l' (kV n))).1) (appA (mk [] l) (appE (visA l' (kV n)) (appA l' (kV n))).1)).1)
                (mO := fun n => (appE (visA (mk [] l) (kV n)) (appA (mk [] l) (kV n))).2) (mY := fun n => (appE (visA (mk [] l) (kV n)) (appA (mk [] l) (kV n))).1)
                HK HG3 HG HDA HDB (Lib.hid hll) HDL HMK HAA HAB HSM HU2 HPA HPB HS2 HV (Lib.hid hvl)
                (Lib.hid (fun n hn W p c hs => AP l' hA' hbd.1 (kV n) (kV_wf (hnv n hn).2) (hkz n) W p c _ hs (Kd.S.nil _ _ _)))
                (Lib.hid (fun n hn h0 W p c q d u hs' hs hu => ?_))
                (Lib.hid (fun n hn W p c hs => AP (mk [] l) hac hsm (kV n) (kV_wf (hnv n hn).2) (hkz n) W p c _ hs (Kd.S.nil _ _ _)))
                (Lib.hid (fun n hn => ?_)) (Lib.hid SM) hal hE
              · have c5 := appE_cases (visA l' (kV n)) (appA l' (kV n))
                try simp only at h0
                have hx : (appE (visA l' (kV n)) (appA l' (kV n))).1 = appA l' (kV n) ∧ (visA l' (kV n)).length ≤ 4096 := by
                  rcases c5 with ⟨_, h1, h2⟩ | ⟨h1, _⟩
                  · exact ⟨h1, h2⟩
                  · omega
                have hxw : (appA l' (kV n)).Wf := app_wf hs'.wf _ _ (kV_wf (hnv n hn).2)
                have hxz : (appA l' (kV n)).siz = (visA l' (kV n)).length := app_siz _ _ (hA'.fueled _)
                refine AP (mk [] l) hac hsm _ ?_ ?_ W p c u hs hu
                · show ((appE (visA l' (kV n)) (appA l' (kV n))).1).Wf
                  rw [hx.1]; exact hxw
                · show ((appE (visA l' (kV n)) (appA l' (kV n))).1).siz ≤ 1000000
                  rw [hx.1, hxz]; omega
              · have c5 := appE_cases (visA l' (kV n)) (appA l' (kV n))
                have c7 := appE_cases (visA (mk [] l) (kV n)) (appA (mk [] l) (kV n))
                refine ⟨?_, fun h0 => ⟨?_, ?_, fun h1 h2 => ?_⟩⟩
                · rcases c5 with ⟨h, _⟩ | ⟨h, _⟩
                  · exact .inl h
                  · exact .inr h
                · rcases appE_cases (visA (mk [] l) (appE (visA l' (kV n)) (appA l' (kV n))).1) (appA (mk [] l) (appE (visA l' (kV n)) (appA l' (kV n))).1) with ⟨h, _⟩ | ⟨h, _⟩
                  · exact .inl h
                  · exact .inr h
                · rcases c7 with ⟨h, _⟩ | ⟨h, _⟩
                  · exact .inl h
                  · exact .inr h
                · try simp only at h0 h1 h2
                  have hx : (appE (visA l' (kV n)) (appA l' (kV n))).1 = appA l' (kV n) := by
                    rcases c5 with ⟨_, h, _⟩ | ⟨h, _⟩
                    · exact h
                    · omega
                  have hy : (appE (visA (mk [] l) (kV n)) (appA (mk [] l) (kV n))).1 = appA (mk [] l) (kV n) := by
                    rcases c7 with ⟨_, h, _⟩ | ⟨h, _⟩
                    · exact h
                    · omega
                  try simp only
                  rw [hx] at h1 ⊢
                  rw [hy]
                  have hz : (appE (visA (mk [] l) (appA l' (kV n))) (appA (mk [] l) (appA l' (kV n)))).1 = appA (mk [] l) (appA l' (kV n)) := by
                    rcases appE_cases (visA (mk [] l) (appA l' (kV n))) (appA (mk [] l) (appA l' (kV n))) with ⟨_, h, _⟩ | ⟨h, _⟩
                    · exact h
                    · omega
                  rw [hz, most_loop hac ka kb hO hab (hnv n hn).1]
                  exact (Tm.eqb_iff _ _).2 rfl
            · refine mw_yesf (vs := dd (occL [a, b])) HK HG3 HG HDA HDB (Lib.hid hll) HDL HMK HAA HAB HSM HU2 HPA HPB HS2 HV (Lib.hid hvl) ?_ hE
              rcases c1 with ⟨c1, _⟩ | ⟨c1, _⟩
              · rcases c2 with ⟨c2, _⟩ | ⟨c2, _⟩
                · refine .inl ⟨c1, c2, ?_⟩
                  rw [Bool.eq_false_iff]
                  exact fun h => hal ⟨c1, c2, h⟩
                · exact .inr (.inr ⟨c1, c2⟩)
              · exact .inr (.inl c1)
end Go.Proofs.Ytdflckjnpgbjlaa

/- Walks of layer 5: renamed terms by a closure. Conditions: the arguments read; terms of at most a million nodes. -/
import Derived.Test.YtdflckjnpgbjlaaF5
import Derived.Test.YtdflckjnpgbjlaaW5
import Derived.OwnWalk
import Derived.Deep.DeepCutAuto
set_option linter.unusedVariables false
set_option maxRecDepth 20000
set_option linter.unusedSimpArgs false
namespace Go.Proofs.Ytdflckjnpgbjlaa
open Go.RowKit

theorem Keeps.block_of {T : Nat → Prop} {w w' : World} {n₀ : Nat} (h : Keeps T w w') (hn : n₀ ≤ w.heap.size) {k : Nat} (hk : k < n₀) (hT : ¬ T k) : w'.heap[k]? = w.heap[k]? := h.block k (Nat.lt_of_lt_of_le hk hn) hT
/-- A row, as a slice beside. -/
theorem Kd.Own.S_in {α : Type} {d : Kd α} {e : TypeId} {w : World} {base : Nat} {xs : List α} {v : Value} (h : d.Own e w base (fun b => base ≤ b) xs v) : d.S w (fun b => base ≤ b) xs v :=
  (Kd.Own.S h).mono (fun _ h => h.elim id id)
set_option maxHeartbeats 4000000 in
theorem turn_c (g : Nat) (lb : Array Value) (eg : ∀ args w, (callFunc g args).run Try.prog w = .ok (.enter g args) w) (n₀ : Nat) (T : Nat → Prop) (hT : ∀ k, T k → k < n₀) (f : Int → Int) (all : List Int) (J : List Int → World → Prop)
    (hJ : ∀ pre W W', J pre W → (∀ k, k < n₀ → W'.heap[k]? = W.heap[k]?) → J pre W')
    (hY : ∀ pre n W, J pre W → n₀ ≤ W.heap.size → pre ++ [n] <+: all → Calls Try.prog g (#[.int .i64 n] ++ lb) W fun e W' => e = .returned (.int .i64 (f n)) ∧ J (pre ++ [n]) W' ∧ Keeps T W W') (t : Tm) :
    ∀ (v : Value) (pre : List Int) (w : World) (ok : Nat → Prop), TmV w ok t v → (∀ k, ok k → ¬ T k) → J pre w → n₀ ≤ w.heap.size → pre ++ t.occ <+: all → t.siz ≤ 1000000 →
      Calls Try.prog 69 #[v, .func (.func g) #[] lb] w fun e w' => (∃ r, e = .returned r ∧ TmV w' (fun b => w.heap.size ≤ b) (t.ren f) r) ∧ J (pre ++ t.occ) w' ∧ Keeps T w w' := by
  refine Tm.ind (p := fun t => ∀ (v : Value) (pre : List Int) (w : World) (ok : Nat → Prop), TmV w ok t v → (∀ k, ok k → ¬ T k) → J pre w → n₀ ≤ w.heap.size → pre ++ t.occ <+: all → t.siz ≤ 1000000 →
      Calls Try.prog 69 #[v, .func (.func g) #[] lb] w fun e w' => (∃ r, e = .returned r ∧ TmV w' (fun b => w.heap.size ≤ b) (t.ren f) r) ∧ J (pre ++ t.occ) w' ∧ Keeps T w w') ?_ t
  intro t ih v pre w ok hv hok hj hn₀ hall hz
  obtain ⟨u, rfl, hS⟩ := hv
  obtain ⟨k, s, n, l⟩ := t
  simp only [Tm.occ, Tm.ren, Tm.siz] at hS ih hall hz ⊢
  have hS' := Kd.S.bound hS
  obtain ⟨A, c, rfl, hl, hc, hA⟩ := hS'
  unfold maxLen at hc
  have hll := length_le_sizL l
  obtain ⟨i0, hi, hz0, hz1, hz2⟩ := info_parts Try.infoT
  have hst : ∀ O O' : Obj, Below w.heap.size w ((w.alloc O).alloc O') := fun O O' => ((Below.refl _ w).alloc (Nat.le_refl _) O).alloc (by simp) O'
  have hTn : ∀ k, w.heap.size ≤ k → ¬ T k := fun k hk h => by have := hT k h; omega
  have HR : ∃ (n' : Int) (pre2 : List Int), pre2 = pre ++ (if k = 1 then [n] else []) ∧ n' = (if k = 1 then f n else n) := ⟨_, _, rfl, rfl⟩
  obtain ⟨n', pre2, hp2, hn'⟩ := HR
  rw [← hn']
  rw [← List.append_assoc] at hall
  rw [← List.append_assoc]
  rw [← hp2] at hall ⊢
  have HIH := Lib.hid ih
  have HJ := Lib.hid hJ
  clear ih hJ
  by_cases hk : k = 1
  · subst hk
    rw [if_pos rfl] at hn' hp2
    have HY := Lib.hid (hY pre n ((w.alloc (.cells #[.int .u8 1, .string s, .int .i64 n, .slice A l.length c] 24)).alloc (.cells #[.int .u8 0, .string ⟨#[]⟩, .int .i64 0, .slice none 0 0] 24))
      (HJ.out _ _ _ hj (fun k hk => (hst _ _).block k (by omega))) (by simp; omega) ⟨occL l ++ hall.choose, by rw [← List.append_assoc, ← hp2]; exact hall.choose_spec⟩)
    rw [← hp2] at HY
    subst hn'
    clear hj
    go_enter Try.func69, Try.ntmps69
    go_wp2_with (first | (at_make; refine wpList_make_own _ rfl _ _ 22 rfl (w.heap.size + 2) 24 i0 _ 4 Try.underlying22 hi hz0 hz1 .i64 .i64 (l.length : Int) l.length rfl rfl rfl (by rw [hz2]; omega) (by unfold maxLen; omega) (by have := hk2.size; simp at this; simp [World.setCell]; omega) ?_; intro W3 hR3 hg3; refine Hid.out ?_) | (refine HY.out.mono ?_; clear HY; rintro e W2 ⟨rfl, hj2, hk2⟩; have hbx2 := (hk2.block w.heap.size (by simp; omega) (hTn _ (Nat.le_refl _))).trans ((Below.heap_alloc _ _ _ (by simp)).trans (heap_new w _)); have hrs2 : W2.heap[w.heap.size + 1]? = some (.cells #[.int .u8 0, .string ⟨#[]⟩, .int .i64 0, .slice none 0 0] 24 (0, 0)) := (hk2.block (w.heap.size + 1) (by simp) (hTn _ (by omega))).trans (by have := heap_new (w.alloc (.cells #[.int .u8 1, .string s, .int .i64 n, .slice A l.length c] 24)) (.cells #[.int .u8 0, .string ⟨#[]⟩, .int .i64 0, .slice none 0 0] 24); rwa [World.size_alloc] at this); obtain ⟨c0, c1, c2, c3, f0, f1, f2, f3⟩ := box4 hbx2))
    have hgz : (W2.setCell ⟨w.heap.size, 2, none⟩ (.int .i64 (f n))).heap.size = W2.heap.size := by simp [World.setCell]
    rw [hgz] at hR3
    have hO3 : Kd.tm.Own 24 W3 (w.heap.size + 2) (fun b => w.heap.size + 2 ≤ b) [] (.slice (some ⟨W2.heap.size, 0, none⟩) 0 l.length) := ⟨[], hR3, fun j x hx => by simp at hx⟩
    have hs2 := hk2.size
    simp only [World.size_alloc] at hs2
    have hgs := grown_set W2 w.heap.size 2 (.int .i64 (f n))
    have hj3 := HJ.out _ W2 W3 hj2 (fun k hk => (hg3.block k (by simp [World.setCell]; omega) (by simp)).trans (hgs.block k (by omega) (fun he => by injection he; omega)))
    have hk3 : Keeps T w W3 := ((((Keeps.of_below (hst _ _)).trans (hk2.mono (fun i h => .inl h))).grown hgs (fun k hk => .inr (by injection hk; omega))).grown hg3 (fun k hk => by cases hk))
    have hbx3 : W3.heap[w.heap.size]? = some (.cells #[.int .u8 1, .string s, .int .i64 (f n), .slice A l.length c] 24 (0, 0)) := (hg3.block _ (by simp [World.setCell]; omega) (by simp)).trans (by simp [World.setCell, Array.getElem?_modify, hbx2])
    have hr3 : W3.heap[w.heap.size + 1]? = some (.cells #[.int .u8 0, .string ⟨#[]⟩, .int .i64 0, .slice none 0 0] 24 (0, 0)) := (hg3.block _ (by simp [World.setCell]; omega) (by simp)).trans ((hgs.block _ (by omega) (fun he => by injection he; omega)).trans hrs2)
    obtain ⟨d0, d1, d2, d3, -, -, -, -⟩ := box4 hbx3
    refine Lib.hid ?_
    go_wp2_with fail
    go_loopw [5, 23] (fun o i wr => ∃ j : Nat, j ≤ l.length ∧ i = .int .i64 j ∧ Kd.tm.Own 24 wr (w.heap.size + 2) (fun b => w.heap.size + 2 ≤ b) (renL f (l.take j)) o ∧ J (pre2 ++ occL (l.take j)) wr ∧ Keeps T w wr ∧
      wr.heap[w.heap.size]? = some (.cells #[.int .u8 1, .string s, .int .i64 (f n), .slice A l.length c] 24 (0, 0)) ∧ wr.heap[w.heap.size + 1]? = some (.cells #[.int .u8 0, .string ⟨#[]⟩, .int .i64 0, .slice none 0 0] 24 (0, 0))) (fun _ i _ => l.length - (intOf i).toNat)
    case atStart => exact ⟨0, Nat.zero_le _, rfl, by simpa [renL] using hO3, by simpa [occL] using hj3, hk3, hbx3, hr3⟩
    case round =>
      clear hO3 hj3 hk3 hbx3 hr3 d0 d1 d2 d3 hR3 hg3
      obtain ⟨j, hj', rfl, hOr, hJr, hkr, hbr, hrr⟩ := hrel
      have hns : w.heap.size + 2 ≤ wr.heap.size := (Array.getElem?_eq_some_iff.1 hrr).1
      obtain ⟨b0, b1, b2, b3, e0, e1, e2, e3⟩ := box4 hbr
      by_cases hlt : j < l.length
      · obtain ⟨b, o, u, rfl, hokb, hlo, h0, h1, h2, h3, h4⟩ := tm_elem hA hlt
        have g0 := hkr.cell h0 (hok _ hokb.1)
        have g1 := hkr.cell h1 (hok _ hokb.1)
        have g2 := hkr.cell h2 (hok _ hokb.1)
        have g3 := hkr.cell h3 (hok _ hokb.1)
        have k4 := Kd.S.keeps hkr (fun k hk => hok k hk.1) h4
        obtain ⟨Au, cu, rfl⟩ := k4.form
        have hsj := siz_mem (List.getElem_mem hlt)
        have hrl := renL_length f (l.take j)
        have htl : (l.take j).length = j := by rw [List.length_take]; omega
        have HI := Lib.hid (HIH.out l[j] (List.getElem_mem hlt) (.agg #[.int .u8 l[j].k, .string l[j].s, .int .i64 l[j].n, .slice Au l[j].l.length cu]) (pre2 ++ occL (l.take j)) (wr.alloc (.cells #[.int .u8 l[j].k, .string l[j].s, .int .i64 l[j].n, .slice Au l[j].l.length cu] 24)) (fun b => ok b ∧ b < w.heap.size)
          ⟨_, rfl, k4.below ((Below.refl _ wr).alloc (Nat.le_refl _) _)⟩ (fun k hk => hok k hk.1) (HJ.out _ _ _ hJr (fun k hk => Below.heap_alloc _ _ _ (by omega))) (by simp; omega)
          (by
            refine List.IsPrefix.trans ?_ hall
            rw [List.append_assoc]
            refine (List.prefix_append_right_inj _).2 ⟨occL (l.drop (j + 1)), ?_⟩
            conv => rhs; rw [← List.take_append_drop (j + 1) l, take_succ_at l hlt]
            rw [occL_append, occL_append]; simp [occL]) (by omega))
        have HST : Hid (renL f (l.take (j + 1)) = renL f (l.take j) ++ [(l[j]).ren f]) := Lib.hid (by rw [take_succ_at l hlt, renL_snoc])
        have HSO : Hid (occL (l.take (j + 1)) = occL (l.take j) ++ (l[j]).occ) := Lib.hid (by rw [take_succ_at l hlt, occL_append]; simp [occL])
        have HLT := Lib.hid (Kd.Own.lt hOr)
        have HO := Lib.hid hOr
        have HK := Lib.hid hkr
        have HKB := Lib.hid hbr
        have HKR := Lib.hid hrr
        generalize l[j] = q at g0 g1 g2 g3 HI HST HSO hsj
        obtain ⟨qk, qs, qn, ql⟩ := q
        simp only [Tm.ren] at HI HST
        obtain ⟨qn', hqn⟩ : ∃ x, x = (if qk = 1 then f qn else qn) := ⟨_, rfl⟩
        rw [← hqn] at HI HST
        clear hqn hA h0 h1 h2 h3 h4 k4 hOr hJr hkr hbr hrr hall hY hi hz0 hz1 hz2
        go_wp2_with (first
          | (at_builtin; refine Kd.append Kd.tm (W := W5) (w.heap.size + 2) (fun b => w.heap.size + 2 ≤ b) rfl (.tmp 27) (.tmp 31) 22 24 (.agg #[.int .u8 0, .string ⟨#[]⟩, .int .i64 0, .slice none 0 0]) 56 rfl Try.underlying22 Try.infoT rfl (by decide) u5 (renL f (l.take j)) ⟨qk, qs, qn', renL f ql⟩ [.int .u8 qk, .string qs, .int .i64 qn', .slice rA (renL f ql).length rc] rfl rfl ?hy ?HO2 ?hbase2 ?hl2 ?_)
          | (refine HI.out.mono ?_; clear HI; rintro e W5 ⟨⟨r, rfl, ru, rfl, hru⟩, hJ5, hk5⟩; obtain ⟨rA, rc, rfl⟩ := hru.form; have hs5 := hk5.size; rw [World.size_alloc] at hs5))
        case hy => exact TmK_iff.2 ⟨_, rfl, hru.mono (fun b hb => ⟨by simp at hb; omega, fun he => by have := (HLT.out b he.symm).2; simp at hb; omega⟩)⟩
        case HO2 => exact Kd.Own.keeps (hk5) (fun k hk h => by have := hT k h; omega) (fun k hk h => by have := (HLT.out k hk).1; have := hT k h; omega) (Kd.Own.below ((Below.refl _ wr).alloc (Nat.le_refl _) _) HO.out)
        case hbase2 => omega
        case hl2 => rw [hrl, htl]; omega
        intro v1 w1 hO1 hg1 hat1
        go_wp2_with fail
        have hne : ∀ k, k < w.heap.size + 2 → some k ≠ Value.ownBlock u5 := fun k hk he => by have := (HLT.out k he.symm).1; omega
        go_roundw
        case rel => exact ⟨j + 1, by omega, by go_num, by rw [HST.out]; exact hO1, by rw [HSO.out, ← List.append_assoc]; exact HJ.out _ W5 w1 hJ5 (fun k hk => hg1.block k (by omega) (hne k (by omega))),
          ((HK.out.alloc _).trans (hk5.mono (fun i h => .inl h))).grown hg1 (fun k hk => .inr (by have := (HLT.out k hk).1; omega)),
          (hg1.block _ (by omega) (hne _ (by omega))).trans ((hk5.block _ (by simp; omega) (hTn _ (by omega))).trans ((Below.heap_alloc _ _ _ (by omega)).trans HKB.out)),
          (hg1.block _ (by omega) (hne _ (by omega))).trans ((hk5.block _ (by simp; omega) (hTn _ (by omega))).trans ((Below.heap_alloc _ _ _ (by omega)).trans HKR.out))⟩
        case measure => simp [intOf]; omega
      · have HF : Hid (l.take j = l) := Lib.hid (List.take_of_length_le (by omega))
        rw [HF.out] at hOr hJr
        obtain ⟨oA, oc, rfl⟩ := Kd.Own.form hOr
        obtain ⟨r0, r1, r2, r3, s0, s1, s2, s3⟩ := box4 hrr
        have HO := Lib.hid hOr
        have HK := Lib.hid hkr
        have HJr := Lib.hid hJr
        clear hA hOr hJr hkr hall hz hY hi hz0 hz1 hz2
        go_wp2_with fail
        have hg4 := (grown_set wr w.heap.size 3 (.slice oA (renL f l).length oc))
        have hg5 := grown_set4 (wr.setCell ⟨w.heap.size, 3, none⟩ (.slice oA (renL f l).length oc)) (w.heap.size + 1) (.int .u8 1) (.string s) (.int .i64 (f n)) (.slice oA (renL f l).length oc)
        refine bodyPost_ret (v := .agg #[.int .u8 1, .string s, .int .i64 (f n), .slice oA (renL f l).length oc]) (by simp [results, Try.results69, go_sem, r0, r1, r2, r3]) rfl ⟨⟨_, rfl, _, rfl, ?_⟩, ?_, ?_⟩
        · have hS := (Kd.Own.S HO.out).mono (ok' := fun b => w.heap.size + 2 ≤ b) (fun _ h => h.elim id id)
          refine Kd.S.mono (ok := fun b => w.heap.size + 2 ≤ b) (fun b hb => by omega) (Kd.S.grown hg5 (fun b hb he => by injection he; omega) (Kd.S.grown hg4 (fun b hb he => by injection he; omega) hS))
        · refine HJ.out _ wr _ HJr.out (fun k hk => ?_)
          exact (hg5.block k (by simp [World.setCell]; omega) (fun he => by injection he; omega)).trans (hg4.block k (by omega) (fun he => by injection he; omega))
        · exact (HK.out.grown hg4 (fun k hk => .inr (by injection hk; omega))).grown hg5 (fun k hk => .inr (by injection hk; omega))
  · rw [if_neg hk] at hn' hp2
    rw [List.append_nil] at hp2
    subst n'
    subst pre2
    have hk' : (k == 1) = false := by simpa using hk
    go_enter Try.func69, Try.ntmps69
    go_wp2_with (at_make; refine wpList_make_own _ rfl _ _ 22 rfl (w.heap.size + 2) 24 i0 _ 4 Try.underlying22 hi hz0 hz1 .i64 .i64 (l.length : Int) l.length rfl rfl rfl (by rw [hz2]; omega) (by unfold maxLen; omega) (by simp) ?_; intro W3 hR3 hg3; refine Hid.out ?_)
    simp only [World.size_alloc] at hR3
    have hO3 : Kd.tm.Own 24 W3 (w.heap.size + 2) (fun b => w.heap.size + 2 ≤ b) [] (.slice (some ⟨w.heap.size + 1 + 1, 0, none⟩) 0 l.length) := ⟨[], hR3, fun j x hx => by simp at hx⟩
    have hj3 := HJ.out _ w W3 hj (fun k hk => (hg3.block k (by simp; omega) (by simp)).trans ((hst _ _).block k (by omega)))
    have hk3 : Keeps T w W3 := (Keeps.of_below (hst _ _)).grown hg3 (fun k hk => by cases hk)
    have hbx3 : W3.heap[w.heap.size]? = some (.cells #[.int .u8 k, .string s, .int .i64 n, .slice A l.length c] 24 (0, 0)) := (hg3.block _ (by simp; omega) (by simp)).trans ((Below.heap_alloc _ _ _ (by simp)).trans (heap_new w _))
    have hr3 : W3.heap[w.heap.size + 1]? = some (.cells #[.int .u8 0, .string ⟨#[]⟩, .int .i64 0, .slice none 0 0] 24 (0, 0)) := (hg3.block _ (by simp) (by simp)).trans (by have := heap_new (w.alloc (.cells #[.int .u8 k, .string s, .int .i64 n, .slice A l.length c] 24)) (.cells #[.int .u8 0, .string ⟨#[]⟩, .int .i64 0, .slice none 0 0] 24); rwa [World.size_alloc] at this)
    obtain ⟨d0, d1, d2, d3, -, -, -, -⟩ := box4 hbx3
    refine Lib.hid ?_
    go_wp2_with fail
    go_loopw [5, 23] (fun o i wr => ∃ j : Nat, j ≤ l.length ∧ i = .int .i64 j ∧ Kd.tm.Own 24 wr (w.heap.size + 2) (fun b => w.heap.size + 2 ≤ b) (renL f (l.take j)) o ∧ J (pre ++ occL (l.take j)) wr ∧ Keeps T w wr ∧
      wr.heap[w.heap.size]? = some (.cells #[.int .u8 k, .string s, .int .i64 n, .slice A l.length c] 24 (0, 0)) ∧ wr.heap[w.heap.size + 1]? = some (.cells #[.int .u8 0, .string ⟨#[]⟩, .int .i64 0, .slice none 0 0] 24 (0, 0))) (fun _ i _ => l.length - (intOf i).toNat)
    case atStart => exact ⟨0, Nat.zero_le _, rfl, by simpa [renL] using hO3, by simpa [occL] using hj3, hk3, hbx3, hr3⟩
    case round =>
      clear hO3 hj3 hk3 hbx3 hr3 d0 d1 d2 d3 hR3 hg3
      obtain ⟨j, hj', rfl, hOr, hJr, hkr, hbr, hrr⟩ := hrel
      have hns : w.heap.size + 2 ≤ wr.heap.size := (Array.getElem?_eq_some_iff.1 hrr).1
      obtain ⟨b0, b1, b2, b3, e0, e1, e2, e3⟩ := box4 hbr
      by_cases hlt : j < l.length
      · obtain ⟨b, o, u, rfl, hokb, hlo, h0, h1, h2, h3, h4⟩ := tm_elem hA hlt
        have g0 := hkr.cell h0 (hok _ hokb.1)
        have g1 := hkr.cell h1 (hok _ hokb.1)
        have g2 := hkr.cell h2 (hok _ hokb.1)
        have g3 := hkr.cell h3 (hok _ hokb.1)
        have k4 := Kd.S.keeps hkr (fun k hk => hok k hk.1) h4
        obtain ⟨Au, cu, rfl⟩ := k4.form
        have hsj := siz_mem (List.getElem_mem hlt)
        have hrl := renL_length f (l.take j)
        have htl : (l.take j).length = j := by rw [List.length_take]; omega
        have HI := Lib.hid (HIH.out l[j] (List.getElem_mem hlt) (.agg #[.int .u8 l[j].k, .string l[j].s, .int .i64 l[j].n, .slice Au l[j].l.length cu]) (pre ++ occL (l.take j)) (wr.alloc (.cells #[.int .u8 l[j].k, .string l[j].s, .int .i64 l[j].n, .slice Au l[j].l.length cu] 24)) (fun b => ok b ∧ b < w.heap.size)
          ⟨_, rfl, k4.below ((Below.refl _ wr).alloc (Nat.le_refl _) _)⟩ (fun k hk => hok k hk.1) (HJ.out _ _ _ hJr (fun k hk => Below.heap_alloc _ _ _ (by omega))) (by simp; omega)
          (by
            refine List.IsPrefix.trans ?_ hall
            rw [List.append_assoc]
            refine (List.prefix_append_right_inj _).2 ⟨occL (l.drop (j + 1)), ?_⟩
            conv => rhs; rw [← List.take_append_drop (j + 1) l, take_succ_at l hlt]
            rw [occL_append, occL_append]; simp [occL]) (by omega))
        have HST : Hid (renL f (l.take (j + 1)) = renL f (l.take j) ++ [(l[j]).ren f]) := Lib.hid (by rw [take_succ_at l hlt, renL_snoc])
        have HSO : Hid (occL (l.take (j + 1)) = occL (l.take j) ++ (l[j]).occ) := Lib.hid (by rw [take_succ_at l hlt, occL_append]; simp [occL])
        have HLT := Lib.hid (Kd.Own.lt hOr)
        have HO := Lib.hid hOr
        have HK := Lib.hid hkr
        have HKB := Lib.hid hbr
        have HKR := Lib.hid hrr
        generalize l[j] = q at g0 g1 g2 g3 HI HST HSO hsj
        obtain ⟨qk, qs, qn, ql⟩ := q
        simp only [Tm.ren] at HI HST
        obtain ⟨qn', hqn⟩ : ∃ x, x = (if qk = 1 then f qn else qn) := ⟨_, rfl⟩
        rw [← hqn] at HI HST
        clear hqn hA h0 h1 h2 h3 h4 k4 hOr hJr hkr hbr hrr hall hY hi hz0 hz1 hz2
        go_wp2_with (first
          | (at_builtin; refine Kd.append Kd.tm (W := W5) (w.heap.size + 2) (fun b => w.heap.size + 2 ≤ b) rfl (.tmp 27) (.tmp 31) 22 24 (.agg #[.int .u8 0, .string ⟨#[]⟩, .int .i64 0, .slice none 0 0]) 56 rfl Try.underlying22 Try.infoT rfl (by decide) u5 (renL f (l.take j)) ⟨qk, qs, qn', renL f ql⟩ [.int .u8 qk, .string qs, .int .i64 qn', .slice rA (renL f ql).length rc] rfl rfl ?hy ?HO2 ?hbase2 ?hl2 ?_)
          | (refine HI.out.mono ?_; clear HI; rintro e W5 ⟨⟨r, rfl, ru, rfl, hru⟩, hJ5, hk5⟩; obtain ⟨rA, rc, rfl⟩ := hru.form; have hs5 := hk5.size; rw [World.size_alloc] at hs5))
        case hy => exact TmK_iff.2 ⟨_, rfl, hru.mono (fun b hb => ⟨by simp at hb; omega, fun he => by have := (HLT.out b he.symm).2; simp at hb; omega⟩)⟩
        case HO2 => exact Kd.Own.keeps (hk5) (fun k hk h => by have := hT k h; omega) (fun k hk h => by have := (HLT.out k hk).1; have := hT k h; omega) (Kd.Own.below ((Below.refl _ wr).alloc (Nat.le_refl _) _) HO.out)
        case hbase2 => omega
        case hl2 => rw [hrl, htl]; omega
        intro v1 w1 hO1 hg1 hat1
        go_wp2_with fail
        have hne : ∀ k, k < w.heap.size + 2 → some k ≠ Value.ownBlock u5 := fun k hk he => by have := (HLT.out k he.symm).1; omega
        go_roundw
        case rel => exact ⟨j + 1, by omega, by go_num, by rw [HST.out]; exact hO1, by rw [HSO.out, ← List.append_assoc]; exact HJ.out _ W5 w1 hJ5 (fun k hk => hg1.block k (by omega) (hne k (by omega))),
          ((HK.out.alloc _).trans (hk5.mono (fun i h => .inl h))).grown hg1 (fun k hk => .inr (by have := (HLT.out k hk).1; omega)),
          (hg1.block _ (by omega) (hne _ (by omega))).trans ((hk5.block _ (by simp; omega) (hTn _ (by omega))).trans ((Below.heap_alloc _ _ _ (by omega)).trans HKB.out)),
          (hg1.block _ (by omega) (hne _ (by omega))).trans ((hk5.block _ (by simp; omega) (hTn _ (by omega))).trans ((Below.heap_alloc _ _ _ (by omega)).trans HKR.out))⟩
        case measure => simp [intOf]; omega
      · have HF : Hid (l.take j = l) := Lib.hid (List.take_of_length_le (by omega))
        rw [HF.out] at hOr hJr
        obtain ⟨oA, oc, rfl⟩ := Kd.Own.form hOr
        obtain ⟨r0, r1, r2, r3, s0, s1, s2, s3⟩ := box4 hrr
        have HO := Lib.hid hOr
        have HK := Lib.hid hkr
        have HJr := Lib.hid hJr
        clear hA hOr hJr hkr hall hz hY hi hz0 hz1 hz2
        go_wp2_with fail
        have hg4 := (grown_set wr w.heap.size 3 (.slice oA (renL f l).length oc))
        have hg5 := grown_set4 (wr.setCell ⟨w.heap.size, 3, none⟩ (.slice oA (renL f l).length oc)) (w.heap.size + 1) (.int .u8 k) (.string s) (.int .i64 n) (.slice oA (renL f l).length oc)
        refine bodyPost_ret (v := .agg #[.int .u8 k, .string s, .int .i64 n, .slice oA (renL f l).length oc]) (by simp [results, Try.results69, go_sem, r0, r1, r2, r3]) rfl ⟨⟨_, rfl, _, rfl, ?_⟩, ?_, ?_⟩
        · have hS := (Kd.Own.S HO.out).mono (ok' := fun b => w.heap.size + 2 ≤ b) (fun _ h => h.elim id id)
          refine Kd.S.mono (ok := fun b => w.heap.size + 2 ≤ b) (fun b hb => by omega) (Kd.S.grown hg5 (fun b hb he => by injection he; omega) (Kd.S.grown hg4 (fun b hb he => by injection he; omega) hS))
        · refine HJ.out _ wr _ HJr.out (fun k hk => ?_)
          exact (hg5.block k (by simp [World.setCell]; omega) (fun he => by injection he; omega)).trans (hg4.block k (by omega) (fun he => by injection he; omega))
        · exact (HK.out.grown hg4 (fun k hk => .inr (by injection hk; omega))).grown hg5 (fun k hk => .inr (by injection hk; omega))
end Go.Proofs.Ytdflckjnpgbjlaa

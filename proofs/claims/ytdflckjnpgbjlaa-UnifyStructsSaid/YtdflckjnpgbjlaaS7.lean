/- Substitutions applied: 'Apply'; no substitution. The reference's bindings: 'Of', 'Walk'. Conditions: the arguments read; terms of at most a million nodes, where a statement says so. -/
import Derived.Test.YtdflckjnpgbjlaaS5
set_option linter.unusedVariables false
set_option maxRecDepth 20000
set_option linter.unusedSimpArgs false
namespace Go.Proofs.Ytdflckjnpgbjlaa
open Go.RowKit

theorem below_of_grown {w W : World} (h : w.grownBy W none) : Below w.heap.size w W := ⟨h.os, h.tape, h.output, h.size, fun i hi => h.block i hi (by simp)⟩
/-- What 'Apply' tells. -/
def appE (P : List Tm) (r : Tm) : Tm × Int := if P.length ≤ 4096 then (r, 0) else (tm0, 31)
set_option maxHeartbeats 1000000 in
theorem Apply_c (l : Bs) (p b : Nat) (f : Nat) (t : Tm) (v : Value) (w : World) (ok : Nat → Prop) (hs : Sub w ok l p b) (hv : TmV w ok t v) (hwf : t.Wf) (hf : Fn l f t) (hsm : ∀ n t, ofB l n = some t → t.siz ≤ 1000000) (hsz : t.siz ≤ 1000000) :
    Calls Try.prog 24 #[.pointer (some ⟨p, 0, none⟩), v] w fun e w' => (∃ u, e = .returned (.tuple #[u, .int .i64 (appE (vis l f t) (app l f t)).2]) ∧ TmV w' (fun b => ok b ∨ w.heap.size ≤ b) (appE (vis l f t) (app l f t)).1 u) ∧ Below w.heap.size w w' := by
  replace hs := hs.bound
  replace hv := hv.bound
  have hplt := hs.lt
  obtain ⟨u, rfl, hvS⟩ := hv
  obtain ⟨A0, c0, rfl⟩ := hvS.form
  obtain ⟨W3, hW3⟩ : ∃ W3, W3 = ((w.alloc (.cells #[.int .u8 t.k, .string t.s, .int .i64 t.n, .slice A0 t.l.length c0] 24)).alloc (.cells #[.int .u8 0, .string ⟨#[]⟩, .int .i64 0, .slice none 0 0] 24)).alloc (.cells #[.int .i64 0] 3) := ⟨_, rfl⟩
  have hz3 : W3.heap.size = w.heap.size + 3 := by rw [hW3]; simp
  have hb3 : Below w.heap.size w W3 := by rw [hW3]; exact (((Below.refl _ w).alloc (Nat.le_refl _) _).alloc (by simp) _).alloc (by simp; omega) _
  have hbn : W3.heap[w.heap.size + 2]? = some (.cells #[.int .i64 ((0 : Nat) : Int)] 3 (0, 0)) := by rw [hW3]; exact heap_at _ _ _ (by simp)
  have hrs : W3.heap[w.heap.size + 1]? = some (.cells #[.int .u8 0, .string ⟨#[]⟩, .int .i64 0, .slice none 0 0] 24 (0, 0)) := by rw [hW3]; exact (Below.heap_alloc _ _ _ (by simp)).trans (heap_at _ _ _ (by simp))
  have HAP := Lib.hid (apply_c l p b (w.heap.size + 2) (by omega) (by omega) hsm f t hf 0 _ W3 _ (hs.below hb3) (TmV.below hb3 ⟨_, rfl, hvS⟩) hwf hsz (fun i hi => ⟨by omega, by omega⟩) hbn (by omega))
  have HRS := Lib.hid hrs
  have HPL := Lib.hid hplt
  have HB3 := Lib.hid hb3
  have HZ3 := Lib.hid hz3
  clear hs hvS hf hwf hsm hsz hbn hrs hplt hb3 hz3
  go_enter Try.func24, Try.ntmps24
  go_wp2_with (go_at_call 63; rw [← hW3]; refine HAP.out.mono ?_; clear HAP; rintro e W6 ⟨⟨hle, ru, rfl, ⟨ruu, rfl, hrS⟩, hbn6⟩ | ⟨hfu, rfl⟩, hg6⟩; all_goals ((try (obtain ⟨rA, rc, rfl⟩ := hrS.form)); have hz3 := HZ3.out; have hz6 := hg6.size; have hlR : w.heap.size + 1 < W6.heap.size := (by omega); have hrr6 := (hg6.block (w.heap.size + 1) (by omega) (fun e => by injection e; omega)).trans HRS.out; obtain ⟨r0, r1, r2, r3, g0, g1, g2, g3⟩ := box4 hrr6))
  · refine bodyPost_ret (v := .tuple #[.agg #[.int .u8 (app l f t).k, .string (app l f t).s, .int .i64 (app l f t).n, .slice rA (app l f t).l.length rc], .int .i64 0]) (by simp [results, Try.results24, go_sem, r0, r1, r2, r3, hlR]) rfl ?_
    have hE : appE (vis l f t) (app l f t) = (app l f t, 0) := by unfold appE; rw [if_pos (by omega)]
    rw [hE]
    have hgr := gfresh (gbelow (gfresh (gbelow (gnone HB3.out) (Below.refl _ W3)) hg6 (by omega)) (Below.refl _ W6)) (grown_set4 W6 (w.heap.size + 1) (.int .u8 (app l f t).k) (.string (app l f t).s) (.int .i64 (app l f t).n) (.slice rA (app l f t).l.length rc)) (r := none) (by omega)
    refine ⟨⟨_, rfl, _, rfl, ?_⟩, below_of_grown (gbelow hgr ((Below.refl _ _).alloc (Nat.le_refl _) _))⟩
    refine Kd.S.below ((Below.refl _ _).alloc (Nat.le_refl _) _) (Kd.S.mono (fun i hi => hi.1) (Kd.S.move (fun i hi => (grown_set4 W6 (w.heap.size + 1) _ _ _ _).block i hi.2 (fun e => ?_)) (Kd.S.bound (hrS.mono (ok' := fun b => (ok b ∨ w.heap.size ≤ b) ∧ b ≠ w.heap.size + 1) (fun i hi => ?_)))) |>.mono (fun i hi => hi.1))
    · injection e with e; exact hi.1.2 e
    · rcases hi with h | h
      · exact ⟨.inl h.1, by omega⟩
      · exact ⟨.inr (by omega), by omega⟩
  · refine bodyPost_ret (v := .tuple #[.agg #[.int .u8 0, .string ⟨#[]⟩, .int .i64 0, .slice none 0 0], .int .i64 31]) (by simp [results, Try.results24, go_sem, r0, r1, r2, r3, hlR]) rfl ?_
    have hE : appE (vis l f t) (app l f t) = (tm0, 31) := by unfold appE; rw [if_neg (by omega)]
    rw [hE]
    have hgr := gfresh (gbelow (gfresh (gbelow (gnone HB3.out) (Below.refl _ W3)) hg6 (by omega)) (Below.refl _ W6)) (grown_set4 W6 (w.heap.size + 1) (.int .u8 0) (.string ⟨#[]⟩) (.int .i64 0) (.slice none 0 0)) (r := none) (by omega)
    exact ⟨⟨_, rfl, _, rfl, Kd.S.nil _ _ _⟩, below_of_grown (gbelow hgr ((Below.refl _ _).alloc (Nat.le_refl _) _))⟩

/-! ### No substitution -/
theorem Walk_nil (t : Tm) (v : Value) (w : World) (ok : Nat → Prop) (hv : TmV w ok t v) :
    Calls Try.prog 97 #[.pointer none, v] w fun e w' => (∃ u, e = .returned u ∧ TmV w' ok t u) ∧ Below w.heap.size w w' := by
  replace hv := hv.bound
  obtain ⟨u, rfl, hvS⟩ := hv
  obtain ⟨A0, c0, rfl⟩ := hvS.form
  go_enter Try.func97, Try.ntmps97
  go_wp2
  refine wp_loop_rounds 1 ?_
  rw [rounds_succ]
  go_wp2
  have hB : Below w.heap.size w ((w.alloc (.cells #[.int .u8 t.k, .string t.s, .int .i64 t.n, .slice A0 t.l.length c0] 24)).alloc (.cells #[.int .u8 t.k, .string t.s, .int .i64 t.n, .slice A0 t.l.length c0] 24)) := ((Below.refl _ w).alloc (Nat.le_refl _) _).alloc (by simp) _
  refine bodyPost_ret (v := .agg #[.int .u8 t.k, .string t.s, .int .i64 t.n, .slice A0 t.l.length c0]) (by simp [results, Try.results97, go_sem]) rfl ⟨⟨_, rfl, _, rfl, ?_⟩, hB⟩
  exact (Kd.S.below hB hvS).mono (fun _ h => h.1)
theorem Occurs_nil (q : Int) (t : Tm) (v : Value) (w : World) (ok : Nat → Prop) (hv : TmV w ok t v) :
    Calls Try.prog 103 #[.pointer none, .int .i64 q, v] w fun e w' => e = .returned (.tuple #[.bool false, .int .i64 2]) ∧ Below w.heap.size w w' := by
  obtain ⟨u, rfl, hvS⟩ := hv
  obtain ⟨A0, c0, rfl⟩ := hvS.form
  go_enter Try.func103, Try.ntmps103
  go_wp2
  refine bodyPost_ret (v := .tuple #[.bool false, .int .i64 2]) (by simp [results, Try.results103, go_sem]) rfl ⟨rfl, ?_⟩
  exact ((((Below.refl _ w).alloc (Nat.le_refl _) _).alloc (by simp) _).alloc (by simp; omega) _).alloc (by simp; omega) _
theorem Bind_nil (q : Int) (t : Tm) (v : Value) (w : World) (ok : Nat → Prop) (hv : TmV w ok t v) :
    Calls Try.prog 64 #[.pointer none, .int .i64 q, v] w fun e w' => e = .returned (.int .i64 2) ∧ Below w.heap.size w w' := by
  obtain ⟨u, rfl, hvS⟩ := hv
  obtain ⟨A0, c0, rfl⟩ := hvS.form
  go_enter Try.func64, Try.ntmps64
  go_wp2
  go_ret
  exact ⟨rfl, (Below.refl _ w).alloc (Nat.le_refl _) _⟩
theorem Apply_nil (t : Tm) (v : Value) (w : World) (ok : Nat → Prop) (hv : TmV w ok t v) :
    Calls Try.prog 24 #[.pointer none, v] w fun e w' => e = .returned (.tuple #[.agg #[.int .u8 0, .string ⟨#[]⟩, .int .i64 0, .slice none 0 0], .int .i64 2]) ∧ Below w.heap.size w w' := by
  obtain ⟨u, rfl, hvS⟩ := hv
  obtain ⟨A0, c0, rfl⟩ := hvS.form
  go_enter Try.func24, Try.ntmps24
  go_wp2
  refine bodyPost_ret (v := .tuple #[.agg #[.int .u8 0, .string ⟨#[]⟩, .int .i64 0, .slice none 0 0], .int .i64 2]) (by simp [results, Try.results24, go_sem]) rfl ⟨rfl, ?_⟩
  exact ((Below.refl _ w).alloc (Nat.le_refl _) _).alloc (by simp) _

open Go.RowKit

/-- A binding: a number, and a term. -/
def Kd.bd : Kd (Int × Tm) := Kd.pair (Kd.int .i64) Kd.tm
theorem bd_at {w : World} {ok : Nat → Prop} {l : Bs} {b o : Nat} (h : Kd.bd.At w ok l b o) {j : Nat} (hj : j < l.length) :
    ∃ u, w.cell? ⟨b, o + j * 5, none⟩ = some (.int .i64 l[j].1) ∧ w.cell? ⟨b, o + j * 5 + 1, none⟩ = some (.int .u8 l[j].2.k) ∧ w.cell? ⟨b, o + j * 5 + 2, none⟩ = some (.string l[j].2.s) ∧ w.cell? ⟨b, o + j * 5 + 3, none⟩ = some (.int .i64 l[j].2.n) ∧
      w.cell? ⟨b, o + j * 5 + 4, none⟩ = some u ∧ Kd.tm.S w ok l[j].2.l u := by
  obtain ⟨cs, hk, hc⟩ := h j l[j] (List.getElem?_eq_getElem hj)
  obtain ⟨c1, c2, rfl, h1, h2⟩ := hk
  have h1 : c1 = [.int .i64 l[j].1] := h1
  obtain ⟨u, rfl, hS⟩ := TmK_iff.1 h2
  subst h1
  have hsz : Kd.bd.sz = 5 := rfl
  rw [hsz] at hc
  exact ⟨u, hc 0 _ rfl, hc 1 _ rfl, hc 2 _ rfl, hc 3 _ rfl, hc 4 _ rfl, hS⟩
/-- Element j of a slice of bindings. -/
theorem bd_elem {w : World} {ok : Nat → Prop} {l : Bs} {A : Option Addr} {c : Nat} (h : (l = [] ∧ (A = none → c = 0)) ∨ ∃ b o, A = some ⟨b, o, none⟩ ∧ ok b ∧ Kd.bd.At w ok l b o) {j : Nat} (hj : j < l.length) :
    ∃ b o u, A = some ⟨b, o, none⟩ ∧ ok b ∧ b < w.heap.size ∧ w.cell? ⟨b, o + j * 5, none⟩ = some (.int .i64 l[j].1) ∧ w.cell? ⟨b, o + j * 5 + 1, none⟩ = some (.int .u8 l[j].2.k) ∧ w.cell? ⟨b, o + j * 5 + 2, none⟩ = some (.string l[j].2.s) ∧ w.cell? ⟨b, o + j * 5 + 3, none⟩ = some (.int .i64 l[j].2.n) ∧
      w.cell? ⟨b, o + j * 5 + 4, none⟩ = some u ∧ Kd.tm.S w ok l[j].2.l u := by
  obtain ⟨b, o, ha, hb, ht⟩ := h.resolve_left (by rintro ⟨rfl, _⟩; simp at hj)
  obtain ⟨u, h1, h2⟩ := bd_at ht hj
  exact ⟨b, o, u, ha, hb, cell_lt h1, h1, h2⟩
theorem ofB_split (l : Bs) (n : Int) (j : Nat) (h : ofB (l.take j) n = none) : ofB l n = ofB (l.drop j) n := by
  conv => lhs; rw [← List.take_append_drop j l]
  rw [ofB_append, h]
theorem ofB_drop {l : Bs} {j : Nat} (hj : j < l.length) (n : Int) : ofB (l.drop j) n = if l[j].1 = n then some l[j].2 else ofB (l.drop (j + 1)) n := by
  rw [List.drop_eq_getElem_cons hj]; rfl
theorem ofB_take_succ {l : Bs} {j : Nat} (hj : j < l.length) {n : Int} (h : ofB (l.take j) n = none) (hn : l[j].1 ≠ n) : ofB (l.take (j + 1)) n = none := by
  rw [take_succ_at l hj, ofB_append, h]
  simp [ofB, hn]
theorem tm0_v (W : World) (ok : Nat → Prop) : TmV W ok tm0 (.agg #[.int .u8 0, .string ⟨#[]⟩, .int .i64 0, .slice none 0 0]) := ⟨_, rfl, Kd.S.nil _ _ _⟩
set_option maxHeartbeats 1000000 in
theorem Of_c (l : Bs) (n : Int) (v : Value) (w : World) (ok : Nat → Prop) (hv : Kd.bd.S w ok l v) :
    Calls Try.prog 65 #[v, .int .i64 n] w fun e w' => (∃ u, e = .returned (.tuple #[u, .bool (ofB l n).isSome]) ∧ TmV w' ok ((ofB l n).getD tm0) u) ∧ Below w.heap.size w w' := by
  replace hv := hv.bound
  obtain ⟨A, c, rfl, hl, hc, hA⟩ := hv
  unfold maxLen at hc
  have hb1 := (Below.refl w.heap.size w).alloc (Nat.le_refl _) (.cells #[.int .u8 0, .string ⟨#[]⟩, .int .i64 0, .slice none 0 0] 24)
  go_enter Try.func65, Try.ntmps65
  go_wp2
  go_loop [6] (fun i => ∃ j : Nat, j ≤ l.length ∧ i = .int .i64 j ∧ Hid (ofB (l.take j) n = none)) (fun i => l.length - (intOf i).toNat)
  case atStart => exact ⟨0, Nat.zero_le _, rfl, Lib.hid rfl⟩
  case round =>
    obtain ⟨j, hj, rfl, hn⟩ := hrel
    by_cases hlt : j < l.length
    · obtain ⟨b, o, u, rfl, hok, hlo, h0, h1, h2, h3, h4, h5⟩ := bd_elem hA hlt
      have g0 := cell_below hb1 h0 hlo
      have g1 := cell_below hb1 h1 hlo
      have g2 := cell_below hb1 h2 hlo
      have g3 := cell_below hb1 h3 hlo
      have g4 := cell_below hb1 h4 hlo
      obtain ⟨Au, cu, rfl⟩ := h5.form
      by_cases he : l[j].1 = n
      · have hof : ofB l n = some l[j].2 := by rw [ofB_split l n j hn.out, ofB_drop hlt, if_pos he]
        have HOF := Lib.hid hof
        have HS := Lib.hid h5
        have he' : (l[j].1 == n) = true := by simpa using he
        clear hof he h5 hA
        go_wp2
        have hb2 := (Below.refl w.heap.size w).alloc (Nat.le_refl _) (.cells #[.int .u8 l[j].2.k, .string l[j].2.s, .int .i64 l[j].2.n, .slice Au l[j].2.l.length cu] 24)
        refine bodyPost_ret (v := .tuple #[.agg #[.int .u8 l[j].2.k, .string l[j].2.s, .int .i64 l[j].2.n, .slice Au l[j].2.l.length cu], .bool true]) (by simp [results, Try.results65, go_sem]) rfl ⟨⟨_, by rw [HOF.out]; rfl, _, by rw [HOF.out]; rfl, ?_⟩, hb2⟩
        rw [HOF.out]
        exact (Kd.S.below hb2 HS.out).mono (fun _ h => h.1)
      · have hn' := Lib.hid (ofB_take_succ hlt hn.out he)
        have he' : (l[j].1 == n) = false := by simpa using he
        clear he hn hA h5
        go_wp2
        go_round
        case rel => exact ⟨j + 1, by omega, by go_num, hn'⟩
        case measure => simp [intOf]; omega
    · have hof : ofB l n = none := by rw [ofB_split l n j hn.out, List.drop_of_length_le (by omega)]; rfl
      have HOF := Lib.hid hof
      clear hof hn hA
      go_wp2
      refine bodyPost_ret (v := .tuple #[.agg #[.int .u8 0, .string ⟨#[]⟩, .int .i64 0, .slice none 0 0], .bool false]) (by simp [results, Try.results65, go_sem]) rfl ⟨⟨_, by rw [HOF.out]; rfl, ?_⟩, hb1⟩
      rw [HOF.out]
      exact tm0_v _ _
set_option maxHeartbeats 2000000 in
theorem rWalk_c (l : Bs) (t : Tm) (vl v : Value) (w : World) (okl ok : Nat → Prop) (hvl : Kd.bd.S w okl l vl) (hv : TmV w ok t v) (hA : Acyc l) (hll : l.length ≤ 1000000) :
    Calls Try.prog 79 #[vl, v] w fun e w' => (∃ u, e = .returned u ∧ TmV w' (fun b => okl b ∨ ok b) (wlk l t) u) ∧ Below w.heap.size w w' := by
  replace hvl := hvl.bound
  replace hv := hv.bound
  have hof := fun n W (hW : Below w.heap.size w W) => Of_c l n vl W _ (hvl.below hW)
  have HOF := Lib.hid hof
  obtain ⟨Al, cl, rfl⟩ := hvl.form
  have HVL := Lib.hid hvl
  clear hof hvl
  obtain ⟨u0, rfl, hS⟩ := hv
  obtain ⟨A, c, rfl⟩ := hS.form
  have HA := Lib.hid hA
  clear hA
  go_enter Try.func79, Try.ntmps79
  go_wp2
  go_loopw [5] (fun i wr => ∃ (m : Nat) (x : Tm) (A : Option Addr) (c : Nat), m ≤ l.length + 1 ∧ i = .int .i64 m ∧ Hid (x = wlkN l m t) ∧ wr.heap[w.heap.size]? = some (.cells #[.int .u8 x.k, .string x.s, .int .i64 x.n, .slice A x.l.length c] 24 (0, 0)) ∧ Hid (Kd.tm.S wr (fun k => (okl k ∨ ok k) ∧ k < w.heap.size) x.l (.slice A x.l.length c)) ∧ wr.heap[w.heap.size + 1]? = some (.cells #[.int .u8 0, .string ⟨#[]⟩, .int .i64 0, .slice none 0 0] 24 (0, 0)) ∧ Below w.heap.size w wr) (fun i _ => l.length + 1 - (intOf i).toNat)
  case atStart =>
    have hb : Below w.heap.size w ((w.alloc (Obj.cells #[.int .u8 t.k, .string t.s, .int .i64 t.n, .slice A t.l.length c] 24)).alloc (Obj.cells #[.int .u8 0, .string ⟨#[]⟩, .int .i64 0, .slice none 0 0] 24)) := ((Below.refl _ w).alloc (Nat.le_refl _) _).alloc (by simp) _
    exact ⟨0, t, A, c, by omega, rfl, Lib.hid rfl, (Below.heap_alloc _ _ _ (by simp)).trans (heap_new w _), Lib.hid ((hS.below hb).mono (fun _ h => ⟨.inr h.1, h.2⟩)), heap_at _ _ _ (by simp), hb⟩
  case round =>
    obtain ⟨m, x, A', c', hm, rfl, hx, hbx, hS', hbr, hb⟩ := hrel
    have hszw : w.heap.size + 2 ≤ wr.heap.size := by have := (Array.getElem?_eq_some_iff.1 hbr).1; omega
    obtain ⟨c0, c1, c2, c3, f0, f1, f2, f3⟩ := box4 hbx
    obtain ⟨d0, d1, d2, d3, g0, g1, g2, g3⟩ := box4 hbr
    have HB := Lib.hid hb
    have HBX := Lib.hid hbx
    have HBR := Lib.hid hbr
    have hdone : nxt l x = none → x = wlk l t := fun h => by rw [hx.out] at h ⊢; exact stop_wlk HA.out h
    clear hS hbx hbr
    by_cases hml : m ≤ l.length
    · have hml' : (m : Int) ≤ (l.length : Int) := by omega
      by_cases hk : x.k = 1
      · have hk' : (x.k == 1) = true := by simpa using hk
        have HO := Lib.hid (HOF.out x.n wr hb)
        cases ho : ofB l x.n with
        | none =>
          rw [ho] at HO
          have hxe := Lib.hid (hdone (by simp [nxt, ho]))
          clear hdone hb ho hx
          go_wp2_with (go_at_call 65; refine HO.out.mono ?_; clear HO; rintro e w2 ⟨⟨u, rfl, hu⟩, hb2⟩; obtain ⟨uu, rfl, huS⟩ := hu; obtain ⟨Au, cu, rfl⟩ := huS.form; have hz2 := hb2.size; clear c0 c1 c2 c3 f0 f1 f2 f3 d0 d1 d2 d3 g0 g1 g2 g3; obtain ⟨c0, c1, c2, c3, f0, f1, f2, f3⟩ := box4 (block_below hb2 (by omega) HBX.out); obtain ⟨d0, d1, d2, d3, g0, g1, g2, g3⟩ := box4 (block_below hb2 (by omega) HBR.out); have hl1 : w.heap.size < w2.heap.size := (by omega); have hl2 : w.heap.size + 1 < w2.heap.size := (by omega))
          refine bodyPost_ret (v := .agg #[.int .u8 1, .string x.s, .int .i64 x.n, .slice A' x.l.length c']) (by simp [results, Try.results79, go_sem, d0, d1, d2, d3, hl2]) rfl ?_
          have hg := gbelow (gfresh (r := none) (gbelow (gnone HB.out) hb2) (grown_set4 w2 (w.heap.size + 1) (.int .u8 1) (.string x.s) (.int .i64 x.n) (.slice A' x.l.length c')) (by omega)) ((Below.refl _ _).alloc (Nat.le_refl _) (.cells #[.int .u8 tm0.k, .string tm0.s, .int .i64 tm0.n, .slice Au tm0.l.length cu] 24))
          have hfin := below_of_grown hg
          have hS2 := Kd.S.below hb2 hS'.out
          refine ⟨⟨_, rfl, ?_⟩, hfin⟩
          rw [← hxe.out]
          refine ⟨_, by rw [hk], ?_⟩
          exact (Kd.S.move (fun i hi => (Below.heap_alloc _ _ _ (by simp [World.setCell]; omega)).trans ((grown_set4 w2 (w.heap.size + 1) _ _ _ _).block i (by omega) (fun e => by injection e; omega))) hS2).mono (fun _ h => h.1)
        | some y =>
          rw [ho] at HO
          have hxe := Lib.hid (show y = wlkN l (m + 1) t from (wlkN_snoc m t (by rw [← hx.out]; simp [nxt, hk, ho])).symm)
          clear hdone hb ho hx
          go_wp2_with (go_at_call 65; refine HO.out.mono ?_; clear HO; rintro e w2 ⟨⟨u, rfl, hu⟩, hb2⟩; obtain ⟨uu, rfl, huS⟩ := hu; simp only [Option.getD_some] at huS; obtain ⟨Au, cu, rfl⟩ := huS.form; have hz2 := hb2.size; clear c0 c1 c2 c3 f0 f1 f2 f3 d0 d1 d2 d3 g0 g1 g2 g3; obtain ⟨c0, c1, c2, c3, f0, f1, f2, f3⟩ := box4 (block_below hb2 (by omega) HBX.out); have hl1 : w.heap.size < w2.heap.size := (by omega); have hl2 : w.heap.size + 1 < w2.heap.size := (by omega))
          go_roundw
          case rel =>
            have hbx2 := block_below hb2 (by omega) HBX.out
            have hbr2 := block_below hb2 (by omega) HBR.out
            have hg := gbelow (gfresh (r := none) (gbelow (gnone HB.out) hb2) (grown_set4 w2 w.heap.size (.int .u8 y.k) (.string y.s) (.int .i64 y.n) (.slice Au y.l.length cu)) (by omega)) ((Below.refl _ _).alloc (Nat.le_refl _) (.cells #[.int .u8 y.k, .string y.s, .int .i64 y.n, .slice Au y.l.length cu] 24))
            refine ⟨m + 1, y, Au, cu, by omega, by go_num, hxe, (Below.heap_alloc _ _ _ (by simp [World.setCell]; omega)).trans (set4_block hbx2), Lib.hid ?_, (Below.heap_alloc _ _ _ (by simp [World.setCell]; omega)).trans (((grown_set4 w2 w.heap.size _ _ _ _).block _ (by omega) (fun e => by injection e; omega)).trans hbr2), below_of_grown hg⟩
            exact Kd.S.move (fun i hi => (Below.heap_alloc _ _ _ (by simp [World.setCell]; omega)).trans ((grown_set4 w2 w.heap.size _ _ _ _).block i (by omega) (fun e => by injection e; omega))) (huS.mono (fun i hi => ⟨.inl hi.1, hi.2⟩))
          case measure => simp [intOf]; omega
      · have hk' : (x.k == 1) = false := by simpa using hk
        have hxe := Lib.hid (hdone (by simp [nxt, hk]))
        clear hdone hb
        go_wp2
        refine bodyPost_ret (v := .agg #[.int .u8 x.k, .string x.s, .int .i64 x.n, .slice A' x.l.length c']) (by simp [results, Try.results79, go_sem, d0, d1, d2, d3]) rfl ?_
        have hfin := below_of_grown (gfresh (r := none) (gnone HB.out) (grown_set4 wr (w.heap.size + 1) (.int .u8 x.k) (.string x.s) (.int .i64 x.n) (.slice A' x.l.length c')) (by omega))
        refine ⟨⟨_, rfl, ?_⟩, hfin⟩
        rw [← hxe.out]
        refine ⟨_, rfl, ?_⟩
        exact (Kd.S.move (fun i hi => (grown_set4 wr (w.heap.size + 1) _ _ _ _).block i (by omega) (fun e => by injection e; omega)) hS'.out).mono (fun _ h => h.1)
    · have hml' : ¬ (m : Int) ≤ (l.length : Int) := by omega
      obtain rfl : m = l.length + 1 := by omega
      have hxe := Lib.hid (show x = wlk l t by rw [hx.out]; exact HA.out.ge t (by omega))
      clear hdone hb
      go_wp2
      refine bodyPost_ret (v := .agg #[.int .u8 x.k, .string x.s, .int .i64 x.n, .slice A' x.l.length c']) (by simp [results, Try.results79, go_sem, d0, d1, d2, d3]) rfl ?_
      have hfin := below_of_grown (gfresh (r := none) (gnone HB.out) (grown_set4 wr (w.heap.size + 1) (.int .u8 x.k) (.string x.s) (.int .i64 x.n) (.slice A' x.l.length c')) (by omega))
      refine ⟨⟨_, rfl, ?_⟩, hfin⟩
      rw [← hxe.out]
      refine ⟨_, rfl, ?_⟩
      exact (Kd.S.move (fun i hi => (grown_set4 wr (w.heap.size + 1) _ _ _ _).block i (by omega) (fun e => by injection e; omega)) hS'.out).mono (fun _ h => h.1)
end Go.Proofs.Ytdflckjnpgbjlaa

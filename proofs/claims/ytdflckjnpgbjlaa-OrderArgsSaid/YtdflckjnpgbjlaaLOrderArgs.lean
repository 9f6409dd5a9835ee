/- The law OrderArgs, walked. Conditions: the arguments read; what they are made of is in its bounds. -/
import Derived.Test.YtdflckjnpgbjlaaOb
import Derived.Deep.DeepCutAuto
import Derived.Deep.CutBlock
set_option linter.unusedVariables false
set_option maxRecDepth 20000
set_option linter.unusedSimpArgs false
namespace Go.Proofs.Ytdflckjnpgbjlaa
open Go.RowKit
attribute [local go_sem ↓] Go.wp_at_zero Go.wp_at_succ
theorem Bx.bd {w W : World} {ok : Nat → Prop} {B : Nat} {t : Tm} {u : Value} (h : Bx w ok B t u W) : Bx w (fun x => x < W.heap.size) B t u W.drew :=
  (Bx.mk h.below h.box (h.args.bound.mono (fun _ hx => hx.2)) : Bx w (fun x => x < W.heap.size) B t u W).drew

set_option maxRecDepth 100000 in
set_option maxHeartbeats 16000000 in
theorem OrderArgs_c (s : ByteArray) (a b : Tm) (v v' : Value) (w : World) (ok : Nat → Prop) (hv : TmV w ok a v) (hv' : TmV w ok b v') (ha : a.Wf) (hb : b.Wf) (hs : s.size ≤ 140737488351232) :
    Calls Try.prog 14 #[.string s, v, v'] w fun e w' => e = .returned (.bool true) ∧ Below w.heap.size w w' := by
  obtain ⟨u, rfl, hS⟩ := hv
  obtain ⟨u', rfl, hS'⟩ := hv'
  obtain ⟨A, c, rfl⟩ := hS.form
  obtain ⟨A', c', rfl⟩ := hS'.form
  have hwf : WfL [a, b] := by simp [WfL, ha, hb]
  have HG := Lib.hid (fun W (hW : Below w.heap.size w W) => Great_c [a, b] _ _ _ (lit2 (w := w) (W := W) (ok := ok) (hS.below hW) (hS'.below hW) hW) hwf)
  have HB0 := Bx.two hS hS'
  have HB := Lib.hid (And.intro HB0.1.mono HB0.2.mono)
  have HN := Lib.hid (fun W => Name_c s W hs)
  obtain ⟨c0, c1, c2, c3, -⟩ := HB.out.1.held
  obtain ⟨d0, d1, d2, d3, -⟩ := HB.out.2.held
  clear hS hS' HB0
  cases hgr : great [a, b] with
  | true =>
    rw [hgr] at HG
    go_enter Try.func14, Try.ntmps14
    go_wp2_with (first
      | (go_at_call 15; have hq := HG.out _ HB.out.1.below; rw [World.size_alloc, World.size_alloc] at hq; refine hq.mono ?_; clear hq HG; rintro e w1 ⟨rfl, hb1⟩; have x1 := (HB.out.1.alloc _).then hb1; have x2 := (HB.out.2.alloc _).then hb1; obtain ⟨e0, e1, e2, e3, -⟩ := x1.held; obtain ⟨f0, f1, f2, f3, -⟩ := x2.held; clear hb1)
      | (go_at_call 46; refine (wakes02_c _).mono ?_; rintro e w7 ⟨rfl, hb7⟩))
    go_ret
    exact ⟨rfl, (x1.then hb7).below⟩
  | false =>
    rw [hgr] at HG
    have hsz := great_siz hgr
    simp only [sizL] at hsz
    have hza : a.siz ≤ 1000000 := by omega
    have hzb : b.siz ≤ 1000000 := by omega
    have hwf4 : Tm.Wf ⟨4, s, 0, [a, b]⟩ := by simp [Tm.Wf, WfL, ha, hb]; omega
    have hz4 : Tm.siz ⟨4, s, 0, [a, b]⟩ ≤ 1000000 := by simp only [Tm.siz, sizL]; omega
    clear hgr hsz hwf
    have HDa := Lib.hid (fun W (hW : Bx w (fun _ => True) w.heap.size a (.slice A a.l.length c) W) => refGood_c a _ W _ hW.tmv hza ha)
    have HDb := Lib.hid (fun W (hW : Bx w (fun _ => True) (w.heap.size + 1) b (.slice A' b.l.length c') W) => refGood_c b _ W _ hW.tmv hzb hb)
    have HF2 := Lib.hid (fun (W : World) (B : Nat) (hBl : W.heap[B]? = some (Obj.cells #[.int .u8 a.k, .string a.s, .int .i64 a.n, .slice A a.l.length c, .int .u8 b.k, .string b.s, .int .i64 b.n, .slice A' b.l.length c'] 24 (0, 0))) (h1 : Bx w (fun _ => True) w.heap.size a (.slice A a.l.length c) W) (h2 : Bx w (fun _ => True) (w.heap.size + 1) b (.slice A' b.l.length c') W) => Fk_c s a [b] (lit2_at hBl h1.args h2.args) (by simp))
    have HDf := Lib.hid (fun W u (hu : Kd.tm.S W (fun _ => True) [a, b] u) => refGood_c ⟨4, s, 0, [a, b]⟩ _ W _ ⟨u, rfl, hu⟩ hz4 hwf4)
    cases hga : a.good with
    | false =>
      rw [hga] at HDa
      go_enter Try.func14, Try.ntmps14
      go_wp2_with (first
        | (go_at_call 15; have hq := HG.out _ HB.out.1.below; rw [World.size_alloc, World.size_alloc] at hq; refine hq.mono ?_; clear hq HG; rintro e w1 ⟨rfl, hb1⟩; have x1 := (HB.out.1.alloc _).then hb1; have x2 := (HB.out.2.alloc _).then hb1; obtain ⟨e0, e1, e2, e3, -⟩ := x1.held; obtain ⟨f0, f1, f2, f3, -⟩ := x2.held; clear hb1)
        | (go_at_call_has 16 (Value.slice A a.l.length c); refine (HDa.out _ x1).mono ?_; clear HDa; rintro e w2 ⟨rfl, hb2⟩; replace x1 := x1.then hb2; replace x2 := x2.then hb2; obtain ⟨e0, e1, e2, e3, -⟩ := x1.held; obtain ⟨f0, f1, f2, f3, -⟩ := x2.held; clear hb2)
        | (go_at_call 46; refine (wakes02_c _).mono ?_; rintro e w7 ⟨rfl, hb7⟩))
      go_ret
      exact ⟨rfl, (x1.then hb7).below⟩
    | true =>
      rw [hga] at HDa
      cases hgb : b.good with
      | false =>
        rw [hgb] at HDb
        go_enter Try.func14, Try.ntmps14
        go_wp2_with (first
          | (go_at_call 15; have hq := HG.out _ HB.out.1.below; rw [World.size_alloc, World.size_alloc] at hq; refine hq.mono ?_; clear hq HG; rintro e w1 ⟨rfl, hb1⟩; have x1 := (HB.out.1.alloc _).then hb1; have x2 := (HB.out.2.alloc _).then hb1; obtain ⟨e0, e1, e2, e3, -⟩ := x1.held; obtain ⟨f0, f1, f2, f3, -⟩ := x2.held; clear hb1)
          | (go_at_call_has 16 (Value.slice A a.l.length c); refine (HDa.out _ x1).mono ?_; clear HDa; rintro e w2 ⟨rfl, hb2⟩; replace x1 := x1.then hb2; replace x2 := x2.then hb2; obtain ⟨e0, e1, e2, e3, -⟩ := x1.held; obtain ⟨f0, f1, f2, f3, -⟩ := x2.held; clear hb2)
          | (go_at_call_has 16 (Value.slice A' b.l.length c'); refine (HDb.out _ x2).mono ?_; clear HDb; rintro e w3 ⟨rfl, hb2⟩; replace x1 := x1.then hb2; replace x2 := x2.then hb2; obtain ⟨e0, e1, e2, e3, -⟩ := x1.held; obtain ⟨f0, f1, f2, f3, -⟩ := x2.held; clear hb2)
          | (go_at_call 46; refine (wakes02_c _).mono ?_; rintro e w7 ⟨rfl, hb7⟩))
        go_ret
        exact ⟨rfl, (x1.then hb7).below⟩
      | true =>
        rw [hgb] at HDb
        cases hgn : nameOk s with
        | false =>
          rw [hgn] at HN
          go_enter Try.func14, Try.ntmps14
          go_wp2_with (first
            | (go_at_call 15; have hq := HG.out _ HB.out.1.below; rw [World.size_alloc, World.size_alloc] at hq; refine hq.mono ?_; clear hq HG; rintro e w1 ⟨rfl, hb1⟩; have x1 := (HB.out.1.alloc _).then hb1; have x2 := (HB.out.2.alloc _).then hb1; obtain ⟨e0, e1, e2, e3, -⟩ := x1.held; obtain ⟨f0, f1, f2, f3, -⟩ := x2.held; clear hb1)
            | (go_at_call_has 16 (Value.slice A a.l.length c); refine (HDa.out _ x1).mono ?_; clear HDa; rintro e w2 ⟨rfl, hb2⟩; replace x1 := x1.then hb2; replace x2 := x2.then hb2; obtain ⟨e0, e1, e2, e3, -⟩ := x1.held; obtain ⟨f0, f1, f2, f3, -⟩ := x2.held; clear hb2)
            | (go_at_call_has 16 (Value.slice A' b.l.length c'); refine (HDb.out _ x2).mono ?_; clear HDb; rintro e w3 ⟨rfl, hb2⟩; replace x1 := x1.then hb2; replace x2 := x2.then hb2; obtain ⟨e0, e1, e2, e3, -⟩ := x1.held; obtain ⟨f0, f1, f2, f3, -⟩ := x2.held; clear hb2)
            | (go_at_call 50; refine (HN.out _).mono ?_; clear HN; rintro e w4 ⟨rfl, hb2⟩; replace x1 := x1.then hb2; replace x2 := x2.then hb2; obtain ⟨e0, e1, e2, e3, -⟩ := x1.held; obtain ⟨f0, f1, f2, f3, -⟩ := x2.held; clear hb2)
            | (go_at_call 46; refine (wakes02_c _).mono ?_; rintro e w7 ⟨rfl, hb7⟩))
          go_ret
          exact ⟨rfl, (x1.then hb7).below⟩
        | true =>
          rw [hgn] at HN
          cases hgf : Tm.good ⟨4, s, 0, [a, b]⟩ with
          | false =>
            rw [hgf] at HDf
            go_enter Try.func14, Try.ntmps14
            go_wp2_with (first
              | (go_at_call 15; have hq := HG.out _ HB.out.1.below; rw [World.size_alloc, World.size_alloc] at hq; refine hq.mono ?_; clear hq HG; rintro e w1 ⟨rfl, hb1⟩; have x1 := (HB.out.1.alloc _).then hb1; have x2 := (HB.out.2.alloc _).then hb1; obtain ⟨e0, e1, e2, e3, -⟩ := x1.held; obtain ⟨f0, f1, f2, f3, -⟩ := x2.held; clear hb1)
              | (go_at_call_has 16 (Value.slice A a.l.length c); refine (HDa.out _ x1).mono ?_; clear HDa; rintro e w2 ⟨rfl, hb2⟩; replace x1 := x1.then hb2; replace x2 := x2.then hb2; obtain ⟨e0, e1, e2, e3, -⟩ := x1.held; obtain ⟨f0, f1, f2, f3, -⟩ := x2.held; clear hb2)
              | (go_at_call_has 16 (Value.slice A' b.l.length c'); refine (HDb.out _ x2).mono ?_; clear HDb; rintro e w3 ⟨rfl, hb2⟩; replace x1 := x1.then hb2; replace x2 := x2.then hb2; obtain ⟨e0, e1, e2, e3, -⟩ := x1.held; obtain ⟨f0, f1, f2, f3, -⟩ := x2.held; clear hb2)
              | (go_at_call 50; refine (HN.out _).mono ?_; clear HN; rintro e w4 ⟨rfl, hb2⟩; replace x1 := x1.then hb2; replace x2 := x2.then hb2; obtain ⟨e0, e1, e2, e3, -⟩ := x1.held; obtain ⟨f0, f1, f2, f3, -⟩ := x2.held; clear hb2)
              | (go_at_call 22; refine (HF2.out _ _ (heap_new _ _) (x1.alloc _) (x2.alloc _)).mono ?_; clear HF2; rintro e w5 ⟨⟨fA, fc, rfl, hFS⟩, hb2⟩; replace x1 := (x1.alloc _).then hb2; replace x2 := (x2.alloc _).then hb2; obtain ⟨e0, e1, e2, e3, -⟩ := x1.held; obtain ⟨f0, f1, f2, f3, -⟩ := x2.held; clear hb2)
              | (go_at_call 16; refine (HDf.out _ _ hFS).mono ?_; clear HDf hFS; rintro e w6 ⟨rfl, hb2⟩; replace x1 := x1.then hb2; replace x2 := x2.then hb2; obtain ⟨e0, e1, e2, e3, -⟩ := x1.held; obtain ⟨f0, f1, f2, f3, -⟩ := x2.held; clear hb2)
              | (go_at_call 46; refine (wakes02_c _).mono ?_; rintro e w7 ⟨rfl, hb7⟩))
            go_ret
            exact ⟨rfl, (x1.then hb7).below⟩
          | true =>
            rw [hgf] at HDf
            clear hga hgb hgn hgf
            go_enter Try.func14, Try.ntmps14
            go_upto_if 36 with (first
              | (go_at_call 15; have hq := HG.out _ HB.out.1.below; rw [World.size_alloc, World.size_alloc] at hq; refine hq.mono ?_; clear hq HG; rintro e w1 ⟨rfl, hb1⟩; have x1 := (HB.out.1.alloc _).then hb1; have x2 := (HB.out.2.alloc _).then hb1; obtain ⟨e0, e1, e2, e3, -⟩ := x1.held; obtain ⟨f0, f1, f2, f3, -⟩ := x2.held; clear hb1)
              | (go_at_call_has 16 (Value.slice A a.l.length c); refine (HDa.out _ x1).mono ?_; clear HDa; rintro e w2 ⟨rfl, hb2⟩; replace x1 := x1.then hb2; replace x2 := x2.then hb2; obtain ⟨e0, e1, e2, e3, -⟩ := x1.held; obtain ⟨f0, f1, f2, f3, -⟩ := x2.held; clear hb2)
              | (go_at_call_has 16 (Value.slice A' b.l.length c'); refine (HDb.out _ x2).mono ?_; clear HDb; rintro e w3 ⟨rfl, hb2⟩; replace x1 := x1.then hb2; replace x2 := x2.then hb2; obtain ⟨e0, e1, e2, e3, -⟩ := x1.held; obtain ⟨f0, f1, f2, f3, -⟩ := x2.held; clear hb2)
              | (go_at_call 50; refine (HN.out _).mono ?_; clear HN; rintro e w4 ⟨rfl, hb2⟩; replace x1 := x1.then hb2; replace x2 := x2.then hb2; obtain ⟨e0, e1, e2, e3, -⟩ := x1.held; obtain ⟨f0, f1, f2, f3, -⟩ := x2.held; clear hb2)
              | (go_at_call 22; refine (HF2.out _ _ (heap_new _ _) (x1.alloc _) (x2.alloc _)).mono ?_; clear HF2; rintro e w5 ⟨⟨fA, fc, rfl, hFS⟩, hb2⟩; replace x1 := (x1.alloc _).then hb2; replace x2 := (x2.alloc _).then hb2; obtain ⟨e0, e1, e2, e3, -⟩ := x1.held; obtain ⟨f0, f1, f2, f3, -⟩ := x2.held; clear hb2)
              | (go_at_call 16; refine (HDf.out _ _ hFS).mono ?_; clear HDf hFS; rintro e w6 ⟨rfl, hb2⟩; replace x1 := x1.then hb2; replace x2 := x2.then hb2; obtain ⟨e0, e1, e2, e3, -⟩ := x1.held; obtain ⟨f0, f1, f2, f3, -⟩ := x2.held; clear hb2))
            have HX := Lib.hid (And.intro x1 x2)
            clear x1 x2 e0 e1 e2 e3 f0 f1 f2 f3 c0 c1 c2 c3 d0 d1 d2 d3
            go_cut [] (fun wx => Hid (Bx w (fun _ => True) w.heap.size a (.slice A a.l.length c) wx ∧ Bx w (fun _ => True) (w.heap.size + 1) b (.slice A' b.l.length c') wx))
            case first =>
              go_wp2
              go_meet
              case rel => exact HX
            case rest =>
              have hK := (by assumption : ∀ (a' : Act) (w' : World), Code.wp _ _ _ a' w' → _)
              refine hK _ _ ?_
              exact oa_tail s a b w wc wc.heap.size A A' c c' hcut.out.1.bd hcut.out.2.bd (hlt hcut.out.2.box) (Nat.le_refl _)
end Go.Proofs.Ytdflckjnpgbjlaa

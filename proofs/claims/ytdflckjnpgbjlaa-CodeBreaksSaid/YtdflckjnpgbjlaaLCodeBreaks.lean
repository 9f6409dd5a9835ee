/- The law CodeBreaks, walked. Conditions: the argument reads; operations are bytes; texts no longer than what is borne. -/
import Derived.Test.YtdflckjnpgbjlaaLCodeChecks
import Derived.Test.YtdflckjnpgbjlaaCq
import Derived.Deep.DeepCutAuto
import Derived.Deep.CutBlock
set_option linter.unusedVariables false
set_option maxRecDepth 20000
set_option linter.unusedSimpArgs false
namespace Go.Proofs.Ytdflckjnpgbjlaa
open Go.RowKit

/-- An instruction of a slice, in memory; whether it is an end. -/
theorem in_load {w : World} {l : List In} {bb ob : Nat} (hA : (Kd.inq .u8).At w (fun b => b < w.heap.size) l bb ob) (hop : ∀ i ∈ l, 0 ≤ i.op) {j : Nat} (hj : j < l.length) :
    ∃ A c, (∀ W, Below w.heap.size w W → W.cell? ⟨bb, ob + j * 7, none⟩ = some (.int .u8 l[j].op) ∧ W.cell? ⟨bb, ob + j * 7 + 1, none⟩ = some (.int .i64 l[j].a) ∧ W.cell? ⟨bb, ob + j * 7 + 2, none⟩ = some (.int .i64 l[j].b) ∧ W.cell? ⟨bb, ob + j * 7 + 3, none⟩ = some (.int .u8 l[j].kd) ∧ W.cell? ⟨bb, ob + j * 7 + 4, none⟩ = some (.string l[j].s) ∧ W.cell? ⟨bb, ob + j * 7 + 5, none⟩ = some (.int .i64 l[j].n) ∧ W.cell? ⟨bb, ob + j * 7 + 6, none⟩ = some (.slice A l[j].cs.length c)) ∧ (Kd.cs.S w (fun b => b < w.heap.size) l[j].cs (.slice A l[j].cs.length c)) ∧
      (∀ W, Below w.heap.size w W → Calls Try.prog 37 #[.agg #[.int .u8 l[j].op, .int .i64 l[j].a, .int .i64 l[j].b, .int .u8 l[j].kd, .string l[j].s, .int .i64 l[j].n, .slice A l[j].cs.length c]] W fun e w' => e = .returned (.bool (endB l[j].op)) ∧ Below W.heap.size W w') := by
  have hne : l ≠ [] := by rintro rfl; simp at hj
  have hlt := Kd.At.head_lt hA hne
  obtain ⟨b', o', u, eA, hokb, hlo, h0, h1, h2, h3, h4, h5, h6, h7⟩ := in_elem (c := 0) (.inr ⟨bb, ob, rfl, hlt, hA⟩) hj
  injection eA with eA
  injection eA with e1 e2
  subst e1 e2
  obtain ⟨A, c, rfl⟩ := h7.form
  refine ⟨A, c, fun W hb => ⟨cell_below hb h0 hlo, cell_below hb h1 hlo, cell_below hb h2 hlo, cell_below hb h3 hlo, cell_below hb h4 hlo, cell_below hb h5 hlo, cell_below hb h6 hlo⟩, h7, fun W hb => Ends_c l[j] _ W _ ⟨_, rfl, h7.below hb⟩ (hop _ (List.getElem_mem hj))⟩
theorem in_at2 {w : World} {ok : Nat → Prop} {l : List In} {g : Nat} (h : (Kd.inq .u8).At w ok l g 0) {j : Nat} (hj : j < l.length) : w.cell? ⟨g, j * 7, none⟩ = some (.int .u8 l[j].op) ∧ w.cell? ⟨g, j * 7 + 1, none⟩ = some (.int .i64 l[j].a) := by
  obtain ⟨cs, ⟨u, rfl, hS⟩, hc⟩ := h j l[j] (List.getElem?_eq_getElem hj)
  have hsz : (Kd.inq .u8).sz = 7 := rfl
  rw [hsz] at hc
  have h0 := hc 0 _ rfl
  have h1 := hc 1 _ rfl
  rw [Nat.zero_add] at h0 h1
  exact ⟨h0, h1⟩
set_option maxRecDepth 100000 in
set_option maxHeartbeats 16000000 in
theorem CodeBreaks_c (l : List In) (q : Int) (v : Value) (w : World) (ok : Nat → Prop) (hv : (Kd.inq .u8).S w ok l v) (hw : WfI l) (hq : 0 ≤ q ∧ q ≤ 255) :
    Calls Try.prog 9 #[v, .int .u8 q] w fun e w' => e = .returned (.bool true) ∧ Below w.heap.size w w' := by
  have HV := Lib.hid ((Kd.S.bound hv).mono (ok' := fun b => b < w.heap.size) (fun _ h => h.2))
  obtain ⟨A, c, rfl, hl, hc, -⟩ := hv
  unfold maxLen at hc
  have HG := Lib.hid (great22_c l _ (w.alloc (.cells #[.slice A l.length c, .map none] 59)) _ (HV.out.below ((Below.refl _ w).alloc (Nat.le_refl _) _)))
  have HCK := Lib.hid (fun W (hb : Below w.heap.size w W) => Check_c l [] (.slice A l.length c) (.map none) W _ (HV.out.below hb) (.inl ⟨rfl, rfl⟩) (fun i hi => (hw i hi).1.1))
  cases hgr : grC l with
  | true =>
    rw [hgr] at HG
    clear HV hw hgr HCK
    go_enter Try.func9, Try.ntmps9
    go_wp2_with (first | (go_at_call 35; refine HG.out.mono ?_; clear HG; rintro e w1 ⟨rfl, hb1⟩; have hxb := block_below hb1 (by simp) (heap_new w (.cells #[.slice A l.length c, .map none] 59)); obtain ⟨z0, z1⟩ := box2 hxb; have hbw : Below w.heap.size w w1 := below_then ((Below.refl _ w).alloc (Nat.le_refl _) _) (by simp) hb1; clear hxb hb1) | (go_at_call 36; refine (wakes22_c _).mono ?_; rintro e w9 ⟨rfl, hb9⟩))
    go_ret
    exact ⟨rfl, below_then hbw hbw.size hb9⟩
  | false =>
    rw [hgr] at HG
    obtain ⟨hl100, hcs⟩ := grC_no hgr
    clear hgr
    by_cases hz : checkC l [] = 0
    · rw [hz] at HCK
      obtain ⟨-, hchk⟩ := checkC_zero hz
      have hop : ∀ i ∈ l, 0 ≤ i.op := fun i hi => (hw i hi).1.1
      obtain ⟨hn, hend⟩ := breaks_last hop hchk
      obtain ⟨m, hm⟩ : ∃ m, l.length = m + 1 := ⟨l.length - 1, by have := List.length_pos_iff.2 hn; omega⟩
      have hml : m < l.length := by omega
      rw [List.getLast_eq_getElem] at hend
      have hend' : endB l[m].op = true := by
        have : l[l.length - 1] = l[m] := by congr 1; omega
        rw [← this]; exact hend
      obtain ⟨A', c', eA, -, -, hA⟩ := HV.out
      injection eA with eA1 eA2 eA3
      subst eA1
      clear eA2 eA3
      obtain ⟨bb, ob, rfl, hbbok, hAt⟩ := hA.resolve_left (fun h => hn h.1)
      have HAt := Lib.hid hAt
      obtain ⟨A1, c1, k1, k2, k3⟩ := in_load hAt hop hml
      have K1 := Lib.hid k1
      have KE := Lib.hid k3
      rw [hend'] at KE
      rw [hm] at HG HCK HV hl hl100 ⊢
      clear k1 k2 k3 hA hAt hend hend' hz hn hbbok
      have HM := Lib.hid hm
      have HW := Lib.hid hw
      have HCS := Lib.hid hcs
      have HOP := Lib.hid hop
      have HCH := Lib.hid hchk
      have hm0 : (((m : Nat) : Int) + 1 == 0) = false := by simp; omega
      clear hm hw hcs hop hchk
      generalize hx : l[m] = x1 at K1 KE
      clear hx
      have hcI : ((m + 1 : Nat) : Int) = (m : Int) + 1 := by omega
      go_enter Try.func9, Try.ntmps9
      go_upto_region 7 with (first | (go_at_call 35; refine HG.out.mono ?_; clear HG; rintro e w1 ⟨rfl, hb1⟩; have hxb := block_below hb1 (by simp) (heap_new w (.cells #[.slice (some ⟨bb, ob, none⟩) (m + 1) c, .map none] 59)); obtain ⟨z0, z1⟩ := box2 hxb; have hbw : Below w.heap.size w w1 := below_then ((Below.refl _ w).alloc (Nat.le_refl _) _) (by simp) hb1; clear hxb hb1) | (go_at_call 39; refine (HCK.out _ hbw).mono ?_; clear HCK; rintro e w5 ⟨rfl, hb5⟩; replace hbw := below_then hbw hbw.size hb5; clear z0 z1 hb5; obtain ⟨g0, g1, g2, g3, g4, g5, g6⟩ := K1.out _ hbw) | (go_at_call 37; refine (KE.out _ hbw).mono ?_; clear KE K1; rintro e w6 ⟨rfl, hb6⟩; replace hbw := below_then hbw hbw.size hb6; clear hb6 g0 g1 g2 g3 g4 g5 g6))
      go_wp2
      go_loopw [7] (fun i wr => ∃ j : Nat, j ≤ m + 1 ∧ i = .int .i64 j ∧ Below w.heap.size w wr) (fun i _ => m + 1 - (intOf i).toNat)
      case atStart => exact ⟨0, by omega, rfl, hbw⟩
      case round =>
        clear hbw
        obtain ⟨j, hj, rfl, hbw⟩ := hrel
        by_cases hlt : j < m + 1
        · have hlti : (j : Int) < (m : Int) + 1 := by omega
          have hjl : j < l.length := by rw [HM.out]; exact hlt
          obtain ⟨A2, c2, k1, k2, k3⟩ := in_load HAt.out HOP.out hjl
          have K1 := Lib.hid k1
          have K2 := Lib.hid k2
          have HP : Hid ((l[j].op = 13 ∨ l[j].op = 14) → ∀ c ∈ l[j].cs, 0 ≤ c.to ∧ c.to < (m : Int) + 1) := Lib.hid (fun ho c hc => by
            have := breaks_case HOP.out HCH.out (List.getElem_mem hjl) ho c hc
            rw [HM.out] at this
            simp [placeB] at this
            omega)
          have hc20 := HCS.out _ (List.getElem_mem hjl)
          clear k1 k2 k3
          generalize l[j] = x at K1 K2 HP hc20
          go_wp2
          go_loopw [8] (fun i wr => ∃ k : Nat, k ≤ x.cs.length ∧ i = .int .i64 k ∧ Below w.heap.size w wr) (fun i _ => x.cs.length - (intOf i).toNat)
          case atStart => exact ⟨0, by omega, rfl, hbw⟩
          case round =>
            clear hbw
            obtain ⟨k, hk, rfl, hbw⟩ := hrel
            obtain ⟨g0, -, -, -, -, -, g6⟩ := K1.out _ hbw
            by_cases hkl : k < x.cs.length
            · have hkli : (k : Int) < x.cs.length := by omega
              by_cases ho : x.op = 13 ∨ x.op = 14
              · obtain ⟨A'', c'', eA, -, -, hA⟩ := (K2.out.below hbw)
                injection eA with eA1 eA2 eA3
                subst eA1
                clear eA2 eA3
                obtain ⟨bc, oc, rfl, hbc, hlo, -, -, -, e3⟩ := cs_elem hA hkl
                obtain ⟨p1, p2⟩ := HP.out ho _ (List.getElem_mem hkl)
                have d1 : decide (x.cs[k].to < 0) = false := by simp; omega
                have d2 : decide ((m : Int) + 1 ≤ x.cs[k].to) = false := by simp; omega
                clear hA p1 p2 hlo hbc
                generalize x.cs[k].to = y at e3 d1 d2
                rcases ho with ho | ho
                · have q1 : (x.op == 13) = true := by simpa using ho
                  clear ho
                  go_wp2
                  go_roundw
                  case rel => exact ⟨k + 1, by omega, by go_num, hbw⟩
                  case measure => simp [intOf]; omega
                · have q1 : (x.op == 13) = false := by simp [ho]
                  have q2 : (x.op == 14) = true := by simpa using ho
                  clear ho
                  go_wp2
                  go_roundw
                  case rel => exact ⟨k + 1, by omega, by go_num, hbw⟩
                  case measure => simp [intOf]; omega
              · have q1 : (x.op == 13) = false := by simp; exact fun e => ho (.inl e)
                have q2 : (x.op == 14) = false := by simp; exact fun e => ho (.inr e)
                clear ho
                go_wp2
                go_roundw
                case rel => exact ⟨j + 1, by omega, by go_num, hbw⟩
                case measure => simp [intOf]; omega
            · have hkli : decide ((k : Int) < x.cs.length) = false := by simp; omega
              go_wp2
              go_roundw
              case rel => exact ⟨j + 1, by omega, by go_num, hbw⟩
              case measure => simp [intOf]; omega
        · have hjl : j = m + 1 := by omega
          subst hjl
          clear hlt hj
          go_upto_region 15 with fail
          go_cut [109] (fun c wx => c = .bool false ∧ Below w.heap.size w wx)
          case first =>
            rcases Nat.eq_zero_or_pos m with hz | hz
            · have hd : decide ((1 : Int) < (m : Int) + 1) = false := by simp; omega
              go_wp2
              go_meet
              case rel => exact ⟨rfl, hbw⟩
            · have hd : decide ((1 : Int) < (m : Int) + 1) = true := by simp; omega
              obtain ⟨m', rfl⟩ : ∃ m', m = m' + 1 := ⟨m - 1, by omega⟩
              clear hz
              have hml' : m' < l.length := by omega
              obtain ⟨A2, c2, k1, k2, k3⟩ := in_load HAt.out HOP.out hml'
              obtain ⟨g0, g1, g2, g3, g4, g5, g6⟩ := k1 _ hbw
              have KE := Lib.hid k3
              have HCK : Hid (endB l[m'].op = false → ∀ W, Below w.heap.size w W → Calls Try.prog 39 #[.agg #[.slice (some ⟨bb, ob, none⟩) (m' + 1) c, .map none]] W fun e w' => e = .returned (.int .i64 33) ∧ Below W.heap.size W w') := Lib.hid (fun he W hb => by
                have h1 := Check_c (l.take (m' + 1)) [] (.slice (some ⟨bb, ob, none⟩) (m' + 1) c) (.map none) W _ ((HV.out.below hb).pfx (by omega) (by omega)) (.inl ⟨rfl, rfl⟩) (fun i hi => HOP.out i (List.mem_of_mem_take hi))
                rw [breaks_short HOP.out (by have := HM.out; omega) HM.out he] at h1
                exact h1)
              clear k1 k2 k3
              generalize l[m'] = x at g0 g1 g2 g3 g4 g5 g6 KE HCK
              cases he : endB x.op with
              | true =>
                rw [he] at KE
                clear he HCK
                go_wp2_with (go_at_call 37; refine (KE.out _ hbw).mono ?_; clear KE; rintro e w7 ⟨rfl, hb7⟩; replace hbw := below_then hbw hbw.size hb7)
                go_meet
                case rel => exact ⟨rfl, hbw⟩
              | false =>
                rw [he] at KE
                have HCK := Lib.hid (HCK.out he)
                clear he
                go_wp2_with (first
                  | (go_at_call 37; refine (KE.out _ hbw).mono ?_; clear KE; rintro e w7 ⟨rfl, hb7⟩; replace hbw := below_then hbw hbw.size hb7)
                  | (go_at_call 39; refine (HCK.out _ hbw).mono ?_; clear HCK; rintro e w8 ⟨rfl, hb8⟩; replace hbw := below_then hbw hbw.size hb8))
                go_meet
                case rel => exact ⟨rfl, hbw⟩
          case rest =>
            clear hbw
            obtain ⟨rfl, hbw⟩ := hcut
            have hne : l ≠ [] := by have := HM.out; rintro rfl; simp at this
            have hnb : (m : Int) + 1 ≠ 0 := by omega
            obtain ⟨i, hi, hqi⟩ : ∃ i : Nat, i < m + 1 ∧ q.tmod ((m : Int) + 1) = (i : Int) := by
              refine ⟨(q.tmod ((m : Int) + 1)).toNat, ?_, ?_⟩
              · have h1 := Int.tmod_lt_of_pos q (show (0 : Int) < (m : Int) + 1 by omega)
                omega
              · have h1 := Int.tmod_nonneg ((m : Int) + 1) hq.1
                omega
            have HQ := Lib.hid hq
            have HNE := Lib.hid hne
            have hqw : wrap64 q = q := by unfold wrap64; omega
            clear hq hne
            have hme : ((m : Int) + 1 == 0) = false := by simpa using hnb
            go_wp2_with (at_builtin; refine Kd.appendS (Kd.inq .u8) wc.heap.size (fun b => b < w.heap.size) (fun b => b < w.heap.size) (fun b => b < w.heap.size) rfl (.const (.slice none 0 0)) (.tmp 110) 54 65 (.agg #[.int .u8 0, .int .i64 0, .int .i64 0, .int .u8 0, .string ⟨#[]⟩, .int .i64 0, .slice none 0 0]) 80 rfl Try.underlying54 Try.infoCI rfl (by decide) (.slice none 0 0) (.slice (some ⟨bb, ob, none⟩) (m + 1) c) [] l rfl rfl ?HO ?HY ?hoky ?hbase ?hl ?_)
            case HO => exact Kd.Own.nil _ _ _ _ _
            case HY => exact Kd.S.S2 (HV.out.below hbw)
            case hoky => exact fun x cs hk => (Kd.inq .u8).mono (fun b hb => ⟨hb.1, by simp [Value.ownBlock]⟩) hk
            case hbase => exact Nat.le_refl _
            case hl => have := HM.out; simp only [List.length_nil]; omega
            intro v1 w10 hO1 hg1 hat1
            try simp only [List.nil_append] at hO1
            obtain ⟨A3, c3, hv1⟩ := hO1.form
            rw [HM.out] at hv1
            subst hv1
            have hb1 : Below wc.heap.size wc w10 := (Below.refl _ wc).grown hg1 (Nat.le_refl _) (fun k hk => by simp [Value.ownBlock] at hk)
            obtain ⟨g, rfl, hgb, hgs, hAt3, hfr, hc3, hc3'⟩ := hO1.at_ HNE.out
            have hwg : w.heap.size ≤ g := Nat.le_trans hbw.size hgb
            replace hbw := below_then hbw hbw.size hb1
            have hil : i < l.length := by rw [HM.out]; exact hi
            obtain ⟨h0, h1⟩ := in_at2 hAt3 hil
            have f1 := hfr (i * 7 + 1)
            have HC4 : Hid (l[i].op ∈ ([3, 4, 10, 11, 12, 13] : List Int) → Calls Try.prog 39 #[.agg #[.slice (some ⟨g, 0, none⟩) (m + 1) c3, .map none]] (w10.setCell ⟨g, i * 7 + 1, none⟩ (.int .i64 ((m : Int) + 1))) fun e w' => e = .returned (.int .i64 33) ∧ Below (w10.setCell ⟨g, i * 7 + 1, none⟩ (.int .i64 ((m : Int) + 1))).heap.size (w10.setCell ⟨g, i * 7 + 1, none⟩ (.int .i64 ((m : Int) + 1))) w') := Lib.hid (fun ho => by
              have hS : (Kd.inq .u8).S (w10.setCell ⟨g, i * 7 + 1, none⟩ (.int .i64 ((m : Int) + 1))) (fun _ => True) (l.set i ⟨l[i].op, (m : Int) + 1, l[i].b, l[i].kd, l[i].s, l[i].n, l[i].cs⟩) (.slice (some ⟨g, 0, none⟩) (m + 1) c3) :=
                ⟨_, c3, by rw [List.length_set, HM.out], by rw [List.length_set]; exact hc3, hc3', .inr ⟨g, 0, rfl, trivial, (at_setA hAt3 (fun b hb => by omega) hil _).mono (fun _ _ => trivial)⟩⟩
              have h1 := Check_c _ [] _ (.map none) _ _ hS (.inl ⟨rfl, rfl⟩) (fun z hz => (List.mem_or_eq_of_mem_set hz).elim (HOP.out z) (fun e => by rw [e]; show 0 ≤ l[i].op; exact HOP.out _ (List.getElem_mem hil)))
              rw [breaks_place (x := ⟨l[i].op, (m : Int) + 1, l[i].b, l[i].kd, l[i].s, l[i].n, l[i].cs⟩) HOP.out (by have := HM.out; omega) hil ho (by show (m : Int) + 1 = _; rw [HM.out]; omega)] at h1
              exact h1)
            have hset : Hid (∀ {w11 : World}, Below (w10.setCell ⟨g, i * 7 + 1, none⟩ (.int .i64 ((m : Int) + 1))).heap.size (w10.setCell ⟨g, i * 7 + 1, none⟩ (.int .i64 ((m : Int) + 1))) w11 → Below w.heap.size w w11) := Lib.hid (fun h11 =>
              below_then (below_of_grown (gfresh (r := none) (gnone hbw) (grown_set w10 g (i * 7 + 1) _) hwg)) (by have := hbw.size; simpa using this) h11)
            have hii : (i : Int) < (m : Int) + 1 := by omega
            clear hO1 hg1 hat1 hb1 hgb hgs hAt3 hfr hc3 hc3'
            generalize l[i] = x at h0 h1 HC4
            clear hil
            go_upto_block 4 with fail
            go_cut [] (fun wx => Below w.heap.size w wx)
            case first =>
              by_cases ho : x.op = 3
              · have HC := Lib.hid (HC4.out (by rw [ho]; decide))
                have q1 : (x.op == 3) = true := by simpa using ho
                clear HC4 ho
                go_wp2_with (go_at_call 39; refine HC.out.mono ?_; clear HC; rintro e w11 ⟨rfl, hb11⟩)
                go_meet
                case rel => exact hset.out hb11
              · have q3 : (x.op == 3) = false := by simpa using ho
                clear ho
                by_cases ho : x.op = 4
                · have HC := Lib.hid (HC4.out (by rw [ho]; decide))
                  have q1 : (x.op == 4) = true := by simpa using ho
                  clear HC4 ho
                  go_wp2_with (go_at_call 39; refine HC.out.mono ?_; clear HC; rintro e w11 ⟨rfl, hb11⟩)
                  go_meet
                  case rel => exact hset.out hb11
                · have q4 : (x.op == 4) = false := by simpa using ho
                  clear ho
                  by_cases ho : x.op = 10
                  · have HC := Lib.hid (HC4.out (by rw [ho]; decide))
                    have q1 : (x.op == 10) = true := by simpa using ho
                    clear HC4 ho
                    go_wp2_with (go_at_call 39; refine HC.out.mono ?_; clear HC; rintro e w11 ⟨rfl, hb11⟩)
                    go_meet
                    case rel => exact hset.out hb11
                  · have q10 : (x.op == 10) = false := by simpa using ho
                    clear ho
                    by_cases ho : x.op = 11
                    · have HC := Lib.hid (HC4.out (by rw [ho]; decide))
                      have q1 : (x.op == 11) = true := by simpa using ho
                      clear HC4 ho
                      go_wp2_with (go_at_call 39; refine HC.out.mono ?_; clear HC; rintro e w11 ⟨rfl, hb11⟩)
                      go_meet
                      case rel => exact hset.out hb11
                    · have q11 : (x.op == 11) = false := by simpa using ho
                      clear ho
                      by_cases ho : x.op = 12
                      · have HC := Lib.hid (HC4.out (by rw [ho]; decide))
                        have q1 : (x.op == 12) = true := by simpa using ho
                        clear HC4 ho
                        go_wp2_with (go_at_call 39; refine HC.out.mono ?_; clear HC; rintro e w11 ⟨rfl, hb11⟩)
                        go_meet
                        case rel => exact hset.out hb11
                      · have q12 : (x.op == 12) = false := by simpa using ho
                        clear ho
                        by_cases ho : x.op = 13
                        · have HC := Lib.hid (HC4.out (by rw [ho]; decide))
                          have q1 : (x.op == 13) = true := by simpa using ho
                          clear HC4 ho
                          go_wp2_with (go_at_call 39; refine HC.out.mono ?_; clear HC; rintro e w11 ⟨rfl, hb11⟩)
                          go_meet
                          case rel => exact hset.out hb11
                        · have q13 : (x.op == 13) = false := by simpa using ho
                          clear ho
                          clear HC4
                          go_wp2
                          go_meet
                          case rel => exact hbw
            case rest =>
              clear hbw h0 h1 f1 HC4 hset hqi hi hii
              have hmk := make_many
              have hbw := hcut
              clear hcut
              have hMA := Many.made wc 65
              have hbz : Below w.heap.size w (wc.alloc (.cells (madeCells zIn (16385 * 7)) 65)) := hbw.alloc hbw.size _
              have hgz : wc.heap.size < (wc.alloc (.cells (madeCells zIn (16385 * 7)) 65)).heap.size := by simp
              have hwz := hbw.size
              generalize (madeCells zIn (16385 * 7)) = ZC at hmk hMA hbz hgz
              have HMA := Lib.hid hMA
              have HBZ := Lib.hid hbz
              clear hMA hbz hbw
              go_wp2
              go_loopw [12] (fun i wr => ∃ k : Nat, k ≤ 16385 ∧ i = .int .i64 k ∧ Hid (Many wc.heap.size k wr) ∧ Hid (Below w.heap.size w wr) ∧ wc.heap.size < wr.heap.size) (fun i _ => 16385 - (intOf i).toNat)
              case atStart => exact ⟨0, by omega, rfl, HMA, HBZ, hgz⟩
              case round =>
                clear HMA HBZ hmk hgz
                obtain ⟨k, hk, rfl, hMA, hbw, hgz⟩ := hrel
                by_cases hkl : k < 16385
                · have hkli : (k : Int) < 16385 := by omega
                  have e0 := hMA.out.op k hkl
                  rw [if_neg (by omega)] at e0
                  have e1 := hMA.out.free (k * 7)
                  go_wp2
                  go_roundw
                  case rel => exact ⟨k + 1, by omega, by go_num, Lib.hid (hMA.out.step hkl), Lib.hid (below_of_grown (gfresh (r := none) (gnone hbw.out) (grown_set _ _ _ _) hwz)), by simpa using hgz⟩
                  case measure => simp [intOf]; omega
                · have hkk : k = 16385 := by omega
                  subst hkk
                  have HC1 := Lib.hid (Check_c (List.replicate 16385 K22.iP) [] (.slice (some ⟨wc.heap.size, 0 * 7, none⟩) 16385 16385) (.map none) wr _ (hMA.out.S (q := 0) (by omega)) (.inl ⟨rfl, rfl⟩) (fun i hi => by rw [List.eq_of_mem_replicate hi]; decide))
                  rw [many_long, Nat.zero_mul] at HC1
                  have HC2 := Lib.hid (fun W (hb : Below wr.heap.size wr W) => Check_c (List.replicate 16384 K22.iP) [] (.slice (some ⟨wc.heap.size, 1 * 7, none⟩) 16384 16384) (.map none) W _ ((hMA.out.below hb hgz).S (q := 1) (by omega)) (.inl ⟨rfl, rfl⟩) (fun i hi => by rw [List.eq_of_mem_replicate hi]; decide))
                  rw [many_ok, Nat.one_mul] at HC2
                  have HC3 : Hid (∀ W b, Below w.heap.size w W → En W b [(m : Int) + 1] → Calls Try.prog 39 #[.agg #[.slice (some ⟨bb, ob, none⟩) (m + 1) c, .map (some b)]] W fun e w' => e = .returned (.int .i64 33) ∧ Below W.heap.size W w') := Lib.hid (fun W b hb hE => by
                    have h1 := Check_c l [(m : Int) + 1] (.slice (some ⟨bb, ob, none⟩) (m + 1) c) (.map (some b)) W _ (HV.out.below hb) hE.ent HOP.out
                    have h2 := breaks_entry (l := l) (by have := HM.out; omega)
                    rw [HM.out] at h2
                    rw [show (((m + 1 : Nat) : Int)) = (m : Int) + 1 by omega] at h2
                    rw [h2] at h1
                    exact h1)
                  have hmm := @run_makeMap Try.prog
                  clear hMA hkl hk HAt
                  have m1 : Hid (0 = 0) := Lib.hid rfl
                  have m2 : Hid (0 = 0) := Lib.hid rfl
                  go_wp2_with (first
                    | (go_at_call 39; have hx := m1.out; clear hx m1; refine HC1.out.mono ?_; clear HC1; rintro e w12 ⟨rfl, hb12⟩)
                    | (go_at_call 39; have hx := m2.out; clear hx m2; refine (HC2.out _ hb12).mono ?_; clear HC2; rintro e w13 ⟨rfl, hb13⟩; replace hb12 := below_then hb12 hb12.size hb13; have hbw3 := below_then hbw.out hbw.out.size hb12; obtain ⟨W4, hmu, hE4, hg4⟩ := (En.made w13).run (by simp) ((m : Int) + 1); have hb4 : Below w.heap.size w W4 := below_of_grown (gfresh (r := none) (gnone (hbw3.alloc hbw3.size _)) hg4 hbw3.size); unfold keyV at hmu; rw [show ((([] : List Int).length : Nat) : Int) = 0 from rfl] at hmu; rw [List.nil_append] at hE4)
                    | (go_at_call 39; refine (HC3.out _ _ hb4 hE4).mono ?_; clear HC3; rintro e w14 ⟨rfl, hb14⟩; replace hb4 := below_then hb4 hb4.size hb14)
                    | (go_at_call 36; refine (wakes22_c _).mono ?_; rintro e w15 ⟨rfl, hb15⟩))
                  go_ret
                  exact ⟨rfl, below_then hb4 hb4.size hb15⟩
    · have hnz : (checkC l [] != 0) = true := by simpa using hz
      clear HV hw
      generalize checkC l [] = R at HCK hnz
      clear hz
      go_enter Try.func9, Try.ntmps9
      go_wp2_with (first | (go_at_call 35; refine HG.out.mono ?_; clear HG; rintro e w1 ⟨rfl, hb1⟩; have hxb := block_below hb1 (by simp) (heap_new w (.cells #[.slice A l.length c, .map none] 59)); obtain ⟨z0, z1⟩ := box2 hxb; have hbw : Below w.heap.size w w1 := below_then ((Below.refl _ w).alloc (Nat.le_refl _) _) (by simp) hb1; clear hxb hb1) | (go_at_call 39; refine (HCK.out _ hbw).mono ?_; clear HCK; rintro e w5 ⟨rfl, hb5⟩; replace hbw := below_then hbw hbw.size hb5; clear z0 z1 hb5) | (go_at_call 36; refine (wakes22_c _).mono ?_; rintro e w9 ⟨rfl, hb9⟩))
      go_ret
      exact ⟨rfl, below_then hbw hbw.size hb9⟩
end Go.Proofs.Ytdflckjnpgbjlaa

/- The law's 'Great' of bindings; 'Make', plain. Conditions: the arguments read. -/
import Derived.Test.YtdflckjnpgbjlaaSa
import Derived.Test.YtdflckjnpgbjlaaW3
set_option linter.unusedVariables false
set_option maxRecDepth 20000
set_option linter.unusedSimpArgs false
namespace Go.Proofs.Ytdflckjnpgbjlaa
open Go.RowKit

theorem Kd.S.apart {w : World} {ok : Nat → Prop} {m : Nat} {l : List Tm} {v : Value} (hm : ∀ c t f, w.heap[m]? ≠ some (.cells c t f)) (h : Kd.tm.S w ok l v) : Kd.tm.S w (fun b => ok b ∧ b ≠ m) l v := by
  obtain ⟨A, c, e, h1, h2, h3⟩ := h
  refine ⟨A, c, e, h1, h2, ?_⟩
  by_cases hx : l = []
  · refine .inl ⟨hx, ?_⟩
    rcases h3 with h3 | ⟨b, o, ha, _⟩
    · exact h3.2
    · intro hn; rw [ha] at hn; cases hn
  · obtain ⟨b, o, ha, hb, ht⟩ := h3.resolve_left (fun h => hx h.1)
    have ht' := (TmL_iff l b o).2 ht
    exact .inr ⟨b, o, ha, ⟨hb, TmL.head_ne hm ht' hx⟩, (TmL_iff l b o).1 (TmL.apart hm l b o ht')⟩
/-- More than 40 bindings, 1,000 nodes? -/
def great3 (l : Bs) (t : Tm) : Bool := decide (40 < l.length) || great (t :: l.map Prod.snd)
theorem great3_no {l : Bs} {t : Tm} (h : great3 l t = false) : l.length ≤ 40 ∧ great (t :: l.map Prod.snd) = false := by
  simp only [great3, Bool.or_eq_false_iff, decide_eq_false_iff_not] at h
  exact ⟨by omega, h.2⟩
def WfB (l : Bs) : Prop := ∀ b ∈ l, (-9223372036854775808 ≤ b.1 ∧ b.1 ≤ 9223372036854775807) ∧ b.2.Wf
set_option maxHeartbeats 1000000 in
theorem Great3_c (l : Bs) (t : Tm) (vl v : Value) (w : World) (okl ok : Nat → Prop) (hvl : Kd.bd.S w okl l vl) (hv : TmV w ok t v) (hl : WfB l) (ht : t.Wf) :
    Calls Try.prog 28 #[vl, v] w fun e w' => e = .returned (.bool (great3 l t)) ∧ Below w.heap.size w w' := by
  replace hvl := hvl.bound
  replace hv := hv.bound
  obtain ⟨u0, rfl, hS⟩ := hv
  obtain ⟨A, c, rfl⟩ := hS.form
  obtain ⟨Al, cl, rfl, hll, hcl, hA⟩ := hvl
  unfold maxLen at hcl
  have hb1 := fun O : Obj => (Below.refl w.heap.size w).alloc (Nat.le_refl _) O
  have hb2 : ∀ O O' : Obj, Below w.heap.size w ((w.alloc O).alloc O') := fun O O' => ((Below.refl _ w).alloc (Nat.le_refl _) _).alloc (by simp) _
  have hwf : WfL (t :: l.map Prod.snd) := by
    rw [WfL_iff]
    intro x hx
    rcases List.mem_cons.1 hx with rfl | hx
    · exact ht
    · obtain ⟨b, hb, rfl⟩ := List.mem_map.1 hx
      exact (hl b hb).2
  by_cases hbig : 40 < l.length
  · have hd : decide ((40 : Int) < l.length) = true := by simp; omega
    have hg : great3 l t = true := by simp [great3, hbig]
    rw [hg]
    clear hA hS hg
    go_enter Try.func28, Try.ntmps28
    go_wp2
    go_ret
    exact ⟨rfl, hb1 _⟩
  · have hd : decide ((40 : Int) < l.length) = false := by simp; omega
    have hg : great3 l t = great (t :: l.map Prod.snd) := by simp [great3, hbig]
    rw [hg]
    have HG := Lib.hid (fun W v (hv : Kd.tm.S W (fun _ => True) (t :: l.map Prod.snd) v) => Great_c (t :: l.map Prod.snd) v W _ hv hwf)
    have HO := Lib.hid (show Kd.tm.Own 24 ((w.alloc (.cells #[.int .u8 t.k, .string t.s, .int .i64 t.n, .slice A t.l.length c] 24)).alloc (.cells #[.int .u8 t.k, .string t.s, .int .i64 t.n, .slice A t.l.length c] 24)) w.heap.size (fun b => b < w.heap.size) [t] (.slice (some ⟨w.heap.size + 1, 0, none⟩) 1 1) from by
      have := Kd.Own.lit (d := Kd.tm) (e := 24) (w := w.alloc (.cells #[.int .u8 t.k, .string t.s, .int .i64 t.n, .slice A t.l.length c] 24)) (base := w.heap.size) (ok := fun b => b < w.heap.size) (xs := [t]) [.int .u8 t.k, .string t.s, .int .i64 t.n, .slice A t.l.length c] (by simp) rfl (by simp [maxLen]) (fun j x hx => by
        cases j with
        | zero => simp at hx; subst hx; exact TmK_iff.2 ⟨_, rfl, (hS.below (hb1 _)).mono (fun _ h => h.2)⟩
        | succ j => simp at hx)
      rwa [World.size_alloc] at this)
    clear hS hg
    go_enter Try.func28, Try.ntmps28
    go_wp2
    go_loopw [5, 6] (fun o i wr => ∃ j : Nat, j ≤ l.length ∧ i = .int .i64 j ∧ Hid (Kd.tm.Own 24 wr w.heap.size (fun b => b < w.heap.size) (t :: (l.map Prod.snd).take j) o) ∧ Below w.heap.size w wr) (fun _ i _ => l.length - (intOf i).toNat)
    case atStart => exact ⟨0, Nat.zero_le _, rfl, Lib.hid (by simpa using HO.out), hb2 _ _⟩
    case round =>
      obtain ⟨j, hj, rfl, hO, hb⟩ := hrel
      by_cases hlt : j < l.length
      · obtain ⟨bb, o, u, rfl, hokb, hlo, h0, h1, h2, h3, h4, h5⟩ := bd_elem hA hlt
        have g0 := cell_below hb h0 hlo
        have g1 := cell_below hb h1 hlo
        have g2 := cell_below hb h2 hlo
        have g3 := cell_below hb h3 hlo
        have g4 := cell_below hb h4 hlo
        obtain ⟨Au, cu, rfl⟩ := h5.form
        have hS5 := Lib.hid (Kd.S.move (fun i hi => hb.block i hi.2) h5)
        have HMX := Lib.hid (show (l.map Prod.snd).take (j + 1) = (l.map Prod.snd).take j ++ [l[j].2] by rw [take_succ_at _ (by simpa using hlt)]; simp)
        have hml : (t :: (l.map Prod.snd).take j).length = j + 1 := by rw [List.length_cons, List.length_take, List.length_map]; omega
        have HML := Lib.hid hml
        have HLT := Lib.hid (Kd.Own.lt hO.out)
        have hbs := hb.size
        clear hA h0 h1 h2 h3 h4 h5 hml
        generalize l[j] = q at g0 g1 g2 g3 g4 hS5 HMX
        go_wp2_with (at_builtin; refine Kd.append Kd.tm (W := wr) w.heap.size (fun b => b < w.heap.size) rfl (.tmp 18) (.tmp 24) 22 24 (.agg #[.int .u8 0, .string ⟨#[]⟩, .int .i64 0, .slice none 0 0]) 56 rfl Try.underlying22 Try.infoT rfl (by decide) _ (t :: (l.map Prod.snd).take j) q.2 [.int .u8 q.2.k, .string q.2.s, .int .i64 q.2.n, .slice Au q.2.l.length cu] rfl rfl ?hy ?HO2 ?hbase2 ?hl2 ?_)
        case hy => exact TmK_iff.2 ⟨_, rfl, hS5.out.mono (fun i hi => ⟨hi.2, fun e => by have := (HLT.out _ e.symm).1; omega⟩)⟩
        case HO2 => exact hO.out
        case hbase2 => omega
        case hl2 => rw [HML.out]; omega
        intro v1 w2 hO1 hg1 hat1
        go_wp2_with fail
        go_roundw
        case rel => exact ⟨j + 1, by omega, by go_num, Lib.hid (by rw [HMX.out]; exact hO1), below_of_grown (gfresh' (gnone hb) hg1 (fun k hk => (HLT.out k hk).1))⟩
        case measure => simp [intOf]; omega
      · rw [List.take_of_length_le (by simp; omega)] at hO
        have HS := Lib.hid ((Kd.Own.S hO.out).mono (ok' := fun _ => True) (fun _ _ => trivial))
        clear hA
        go_wp2_with (go_at_call 15; refine (HG.out _ _ HS.out).mono ?_; rintro e w2 ⟨rfl, hb3⟩)
        go_ret
        exact ⟨rfl, below_then hb hb.size hb3⟩

/-! ### Fuel that is enough -/
open Classical in
noncomputable def fuelOf (l : Bs) (t : Tm) : Nat := if h : ∃ f, Fn l f t then Classical.choose h else 0
theorem Acyc.fueled {l : Bs} (h : Acyc l) (t : Tm) : Fn l (fuelOf l t) t := by
  have := h.fuel t
  unfold fuelOf
  rw [dif_pos this]
  exact Classical.choose_spec this
/-- What is visited. -/
noncomputable def visA (l : Bs) (t : Tm) : List Tm := vis l (fuelOf l t) t
noncomputable def appA (l : Bs) (t : Tm) : Tm := app l (fuelOf l t) t
theorem Fn.same {l : Bs} {f g : Nat} {t : Tm} (h : Fn l f t) (k : Fn l g t) : app l f t = app l g t ∧ vis l f t = vis l g t := by
  rcases Nat.le_total f g with hfg | hfg
  · have := h.ge hfg; exact ⟨this.2.1.symm, this.2.2.symm⟩
  · have := k.ge hfg; exact ⟨this.2.1, this.2.2⟩
/-- Bindings, one behind the other, as far as they may be. -/
noncomputable def mk (had : Bs) : Bs → Bs
  | [] => had
  | (v, t) :: l => mk (bnd had v t (visA had t)) l
theorem mk_snoc : ∀ (l : Bs) (had : Bs) (b : Int × Tm), mk had (l ++ [b]) = bnd (mk had l) b.1 b.2 (visA (mk had l) b.2)
  | [], had, b => rfl
  | (v, t) :: l, had, b => mk_snoc l _ b
theorem bnd_sub {had : Bs} {v : Int} {t : Tm} {P : List Tm} : ∀ b ∈ bnd had v t P, b ∈ had ∨ b = (v, t) := fun b hb => by
  unfold bnd at hb
  split at hb
  · rcases List.mem_append.1 hb with h | h
    · exact .inl h
    · exact .inr (List.mem_singleton.1 h)
  · exact .inl hb
theorem mk_sub : ∀ (l had : Bs), ∀ b ∈ mk had l, b ∈ had ∨ b ∈ l
  | [], had, b, h => .inl h
  | (v, t) :: l, had, b, h => by
    rcases mk_sub l _ b h with h | h
    · rcases bnd_sub b h with h | rfl
      · exact .inl h
      · exact .inr (by simp)
    · exact .inr (by simp [h])
theorem bnd_length (had : Bs) (v : Int) (t : Tm) (P : List Tm) : (bnd had v t P).length ≤ had.length + 1 := by
  unfold bnd; split <;> simp
theorem mk_length : ∀ (l had : Bs), (mk had l).length ≤ had.length + l.length
  | [], had => by simp [mk]
  | (v, t) :: l, had => by
    have h1 := mk_length l (bnd had v t (visA had t))
    have h2 := bnd_length had v t (visA had t)
    simp only [mk, List.length_cons]; omega
theorem bnd_acyc {had : Bs} (h : Acyc had) (v : Int) (t : Tm) : Acyc (bnd had v t (visA had t)) := by
  by_cases hb : bindE had v (visA had t) = 0
  · rw [bindE_eq hb]; exact h.bound (h.fueled t) hb
  · rw [bindE_ne hb]; exact h
theorem mk_acyc : ∀ (l had : Bs), Acyc had → Acyc (mk had l)
  | [], had, h => h
  | (v, t) :: l, had, h => mk_acyc l _ (bnd_acyc h v t)
end Go.Proofs.Ytdflckjnpgbjlaa

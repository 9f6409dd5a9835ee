import Derived.Test.YtgcbanljifalnaaGreatDoorPk18
set_option linter.unusedVariables false
set_option maxRecDepth 20000
set_option linter.unusedSimpArgs false
/- The law's 'bad', walked. Conditions: the arguments read; what they are made of is bounded. -/
namespace Go.Proofs.YtgcbanljifalnaaGreatDoor
open Go.RowKit
/-- The term in its box, the bindings that came in, the table. -/
structure N0 (w : World) (t : Tm) (u : Value) (l : Bs) (vl : Value) (W : World) : Prop where
  b0 : Below w.heap.size w W
  t : Bt W w.heap.size t u
  l : Kd.bd.S W (fun _ => True) l vl
section
variable {w W W' : World} {t : Tm} {u : Value} {l : Bs} {vl : Value}
theorem N0.then (h : N0 w t u l vl W) (hb : Below W.heap.size W W') : N0 w t u l vl W' :=
  ⟨below_then h.b0 h.b0.size hb, h.t.below hb, bds_b h.l hb⟩
theorem N0.alloc (h : N0 w t u l vl W) (O : Obj) : N0 w t u l vl (W.alloc O) := h.then ((Below.refl _ W).alloc (Nat.le_refl _) O)
theorem N0.drew (h : N0 w t u l vl W) : N0 w t u l vl W.drew := h.then (Below.refl _ W).drew
theorem N0.cells (h : N0 w t u l vl W) : W.cell? ⟨w.heap.size, 0, none⟩ = some (.int .u8 t.k) ∧ W.cell? ⟨w.heap.size, 1, none⟩ = some (.string t.s) ∧ W.cell? ⟨w.heap.size, 2, none⟩ = some (.int .i64 t.n) ∧ W.cell? ⟨w.heap.size, 3, none⟩ = some u :=
  ⟨h.t.cells.1, h.t.cells.2.1, h.t.cells.2.2.1, h.t.cells.2.2.2⟩
end
theorem bds_elem {W : World} {ok : Nat → Prop} {l : Bs} {A : Option Addr} {n c : Nat} (h : Kd.bd.S W ok l (.slice A n c)) {j : Nat} (hj : j < l.length) :
    ∃ b o u, A = some ⟨b, o, none⟩ ∧ W.cell? ⟨b, o + j * 5, none⟩ = some (.int .i64 l[j].1) ∧ W.cell? ⟨b, o + j * 5 + 1, none⟩ = some (.int .u8 l[j].2.k) ∧ W.cell? ⟨b, o + j * 5 + 2, none⟩ = some (.string l[j].2.s) ∧ W.cell? ⟨b, o + j * 5 + 3, none⟩ = some (.int .i64 l[j].2.n) ∧
      W.cell? ⟨b, o + j * 5 + 4, none⟩ = some u ∧ Kd.tm.S W ok l[j].2.l u := by
  obtain ⟨_, _, e, _, _, hA⟩ := h
  injection e with e1 e2 e3
  subst e1 e3
  obtain ⟨b, o, u, e, _, _, h⟩ := bd_elem hA hj
  exact ⟨b, o, u, e, h⟩
/-- How many are not good? -/
def ngL (L : List Tm) : Nat := L.countP (fun t => !t.good)
theorem ngL_succ {L : List Tm} {j : Nat} (hj : j < L.length) : ngL (L.take (j + 1)) = ngL (L.take j) + (if L[j].good = true then 0 else 1) := by
  rw [take_succ_at L hj]
  unfold ngL
  rw [List.countP_append]
  cases h : L[j].good <;> simp [List.countP_cons, h]
theorem ngL_good {L : List Tm} (h : ngL L = 0) : ∀ t ∈ L, t.good = true := by
  intro t ht
  have := List.countP_eq_zero.1 h t ht
  simpa using this
def badN (l : Bs) (g : Tm) : Nat := ngL (l.map Prod.snd) + ngL g.l
set_option maxHeartbeats 4000000 in
theorem bad_c (l : Bs) (g : Tm) (vl v : Value) (w : World) (hvl : Kd.bd.S w (fun _ => True) l vl) (hv : TmV w (fun _ => True) g v) (hl : WfB l) (hg : g.Wf) (hzl : ∀ b ∈ l, b.2.siz ≤ 1000000) (hz : g.siz ≤ 1000000) (hll : l.length ≤ 1000000) :
    Calls Tryz.prog 14 #[vl, v] w fun e w' => e = .returned (.int .i64 (badN l g : Nat)) ∧ Below w.heap.size w w' := by
  obtain ⟨u, rfl, hS⟩ := hv
  obtain ⟨A, c, rfl⟩ := hS.form
  obtain ⟨Al, cl, rfl⟩ := hvl.form
  have hb1 := fun O : Obj => (Below.refl w.heap.size w).alloc (Nat.le_refl _) O
  have HX0 := Lib.hid (show N0 w g (.slice A g.l.length c) l (.slice Al l.length cl) (w.alloc (.cells #[.int .u8 g.k, .string g.s, .int .i64 g.n, .slice A g.l.length c] 30)) from ⟨hb1 _, Bt.new hS, hvl.below (hb1 _)⟩)
  have hgl : g.l.length ≤ 1000000 := by have := length_le_sizL g.l; cases g; simp only [Tm.siz, Tm.l] at *; omega
  have hwa := Lib.hid (hg.parts.2.2.2)
  have hza := Lib.hid (fun x (hx : x ∈ g.l) => by have := siz_mem hx; cases g; simp only [Tm.siz, Tm.l] at *; omega : ∀ x ∈ g.l, x.siz ≤ 1000000)
  have hwl := Lib.hid hl
  have hzb := Lib.hid hzl
  clear hvl hS hl hg hzl hz
  go_enter Tryz.func14, Tryz.ntmps14
  go_wp2
  go_loopw [5, 6] (fun n i wr => ∃ j k : Nat, j ≤ l.length ∧ k ≤ j ∧ i = .int .i64 j ∧ n = .int .i64 k ∧ Hid (k = ngL ((l.map Prod.snd).take j)) ∧ Hid (N0 w g (.slice A g.l.length c) l (.slice Al l.length cl) wr)) (fun _ i _ => l.length - (intOf i).toNat)
  case atStart => exact ⟨0, 0, Nat.zero_le _, Nat.le_refl _, rfl, rfl, Lib.hid rfl, HX0⟩
  case round =>
    obtain ⟨j, k, hj, hkj, rfl, rfl, hk, hx⟩ := hrel
    by_cases hlt : j < l.length
    · obtain ⟨bb, o, u, rfl, g0, g1, g2, g3, g4, h5⟩ := bds_elem hx.out.l hlt
      obtain ⟨Au, cu, rfl⟩ := h5.form
      have HG := Lib.hid (refGood_c l[j].2 _ wr _ ⟨_, rfl, h5⟩ (hzb.out _ (List.getElem_mem hlt)) (hwl.out _ (List.getElem_mem hlt)).2)
      have HS := Lib.hid (ngL_succ (L := l.map Prod.snd) (j := j) (by simpa using hlt))
      have HE := Lib.hid (show (l.map Prod.snd)[j]'(by simpa using hlt) = l[j].2 by simp)
      clear h5
      cases hgd : l[j].2.good with
      | true =>
        have HK := Lib.hid (show k = ngL ((l.map Prod.snd).take (j + 1)) by rw [HS.out, HE.out, if_pos hgd, ← hk.out, Nat.add_zero])
        rw [hgd] at HG
        clear HS HE hgd
        go_wp2_with (go_at_call 25; refine HG.out.mono ?_; rintro e w1 ⟨rfl, hb1⟩; have hx1 := Lib.hid (hx.out.then hb1))
        go_roundw
        case rel => exact ⟨j + 1, k, by omega, by omega, by go_num, rfl, HK, hx1⟩
        case measure => simp [intOf]; omega
      | false =>
        have HK := Lib.hid (show k + 1 = ngL ((l.map Prod.snd).take (j + 1)) by rw [HS.out, HE.out, if_neg (by simp [hgd]), ← hk.out])
        rw [hgd] at HG
        clear HS HE hgd
        go_wp2_with (go_at_call 25; refine HG.out.mono ?_; rintro e w1 ⟨rfl, hb1⟩; have hx1 := Lib.hid (hx.out.then hb1))
        go_roundw
        case rel => exact ⟨j + 1, k + 1, by omega, by omega, by go_num, by go_num, HK, hx1⟩
        case measure => simp [intOf]; omega
    · have HK := Lib.hid (show k = ngL (l.map Prod.snd) by rw [hk.out, List.take_of_length_le (by simp; omega)])
      have hkl : k ≤ 1000000 := by omega
      obtain ⟨c0, c1, c2, c3⟩ := hx.out.cells
      clear hk HX0
      go_wp2
      go_loopw [5, 7] (fun n i wr => ∃ i2 k2 : Nat, i2 ≤ g.l.length ∧ k2 ≤ i2 ∧ i = .int .i64 i2 ∧ n = .int .i64 ((k + k2 : Nat) : Int) ∧ Hid (k2 = ngL (g.l.take i2)) ∧ Hid (N0 w g (.slice A g.l.length c) l (.slice Al l.length cl) wr)) (fun _ i _ => g.l.length - (intOf i).toNat)
      case atStart => exact ⟨0, 0, Nat.zero_le _, Nat.le_refl _, rfl, rfl, Lib.hid rfl, hx⟩
      case round =>
        obtain ⟨i2, k2, hi2, hk2, rfl, rfl, hkk, hy⟩ := hrel
        clear c0 c1 c2 c3 hx
        obtain ⟨c0, c1, c2, c3⟩ := hy.out.cells
        by_cases hlt2 : i2 < g.l.length
        · obtain ⟨ba, oa, rfl⟩ := elemA0 hy.out.t.args (by omega)
          obtain ⟨Au, cu, g0, g1, g2, g3, h5⟩ := elemS0 hy.out.t.args hlt2
          have HG := Lib.hid (refGood_c g.l[i2] _ wr _ ⟨_, rfl, h5⟩ (hza.out _ (List.getElem_mem hlt2)) (WfL_at hwa.out hlt2))
          have HS := Lib.hid (ngL_succ (L := g.l) (j := i2) hlt2)
          clear h5
          cases hgd : g.l[i2].good with
          | true =>
            have HK2 := Lib.hid (show k2 = ngL (g.l.take (i2 + 1)) by rw [HS.out, if_pos hgd, ← hkk.out, Nat.add_zero])
            rw [hgd] at HG
            clear HS hgd
            go_wp2_with (go_at_call 25; refine HG.out.mono ?_; rintro e w1 ⟨rfl, hb1⟩; have hx1 := Lib.hid (hy.out.then hb1))
            go_roundw
            case rel => exact ⟨i2 + 1, k2, by omega, by omega, by go_num, rfl, HK2, hx1⟩
            case measure => simp [intOf]; omega
          | false =>
            have HK2 := Lib.hid (show k2 + 1 = ngL (g.l.take (i2 + 1)) by rw [HS.out, if_neg (by simp [hgd]), ← hkk.out])
            rw [hgd] at HG
            clear HS hgd
            go_wp2_with (go_at_call 25; refine HG.out.mono ?_; rintro e w1 ⟨rfl, hb1⟩; have hx1 := Lib.hid (hy.out.then hb1))
            go_roundw
            case rel => exact ⟨i2 + 1, k2 + 1, by omega, by omega, by go_num, by go_num, HK2, hx1⟩
            case measure => simp [intOf]; omega
        · have HB := Lib.hid (show badN l g = k + k2 by rw [badN, ← HK.out, hkk.out, List.take_of_length_le (by omega)])
          clear hkk HK
          go_wp2
          go_ret
          exact ⟨ret_int (by rw [HB.out]), hy.out.b0⟩
end Go.Proofs.YtgcbanljifalnaaGreatDoor
/- The law BuiltinKinds, walked. Conditions: the arguments read; what they are made of is in its bounds; the library's table of blanks is laid as its text says. -/
namespace Go.Proofs.YtgcbanljifalnaaGreatDoor
open Go.RowKit
/-- The term in its box, the bindings that came in, the table. -/
structure N1 (w : World) (t : Tm) (u : Value) (l : Bs) (vl : Value) (W : World) : Prop where
  n : N0 w t u l vl W
  tab : Tab W
section
variable {w W W' : World} {t : Tm} {u : Value} {l : Bs} {vl : Value}
theorem N1.then (h : N1 w t u l vl W) (hb : Below W.heap.size W W') : N1 w t u l vl W' := ⟨h.n.then hb, tab_below h.tab hb⟩
theorem N1.b0 (h : N1 w t u l vl W) : Below w.heap.size w W := h.n.b0
theorem N1.cells (h : N1 w t u l vl W) : W.cell? ⟨w.heap.size, 0, none⟩ = some (.int .u8 t.k) ∧ W.cell? ⟨w.heap.size, 1, none⟩ = some (.string t.s) ∧ W.cell? ⟨w.heap.size, 2, none⟩ = some (.int .i64 t.n) ∧ W.cell? ⟨w.heap.size, 3, none⟩ = some u := h.n.cells
end
/-- The substitution, too. -/
structure N3 (w : World) (t : Tm) (u : Value) (had : Bs) (p b : Nat) (W : World) : Prop where
  b0 : Below w.heap.size w W
  t : Bt W w.heap.size t u
  s : Sub W (fun _ => True) had p b
  tab : Tab W
section
variable {w W W' : World} {t : Tm} {u : Value} {had : Bs} {p b : Nat}
theorem N3.then (h : N3 w t u had p b W) (hb : Below W.heap.size W W') : N3 w t u had p b W' :=
  ⟨below_then h.b0 h.b0.size hb, h.t.below hb, h.s.below hb, tab_below h.tab hb⟩
theorem N3.cells (h : N3 w t u had p b W) : W.cell? ⟨w.heap.size, 0, none⟩ = some (.int .u8 t.k) ∧ W.cell? ⟨w.heap.size, 1, none⟩ = some (.string t.s) ∧ W.cell? ⟨w.heap.size, 2, none⟩ = some (.int .i64 t.n) ∧ W.cell? ⟨w.heap.size, 3, none⟩ = some u :=
  ⟨h.t.cells.1, h.t.cells.2.1, h.t.cells.2.2.1, h.t.cells.2.2.2⟩
end
theorem fone (s : ByteArray) (t : Tm) (A : Option Addr) (c : Nat) (W : World) (hu : Kd.tm.S W (fun _ => True) t.l (.slice A t.l.length c)) :
    Calls Tryz.prog 29 #[.string s, .slice (some ⟨W.heap.size, 0, none⟩) 1 1] (W.alloc (.cells #[.int .u8 t.k, .string t.s, .int .i64 t.n, .slice A t.l.length c] 30)) fun e w' => ∃ A' c', e = .returned (.agg #[.int .u8 4, .string s, .int .i64 0, .slice A' 1 c']) ∧ Kd.tm.S w' (fun _ => True) [t] (.slice A' 1 c') ∧ Below W.heap.size W w' := by
  have hl := lit1 (w := W) (W := W) (ok := fun _ => True) (t := t) (u := .slice A t.l.length c) hu (Below.refl _ W)
  refine (F_c s [t] _ _ _ _ hl.S2 (by simp)).mono ?_
  rintro e w' ⟨⟨r, rfl, hr⟩, hb⟩
  rw [mkF_cons] at hr
  obtain ⟨u, rfl, hS⟩ := hr
  obtain ⟨A', c', rfl⟩ := hS.form
  exact ⟨A', c', rfl, hS.mono (fun _ _ => trivial), below_then ((Below.refl _ W).alloc (Nat.le_refl _) _) (by simp) hb⟩
theorem dpost_when {N : Nat} {l : Bs} {is : Bool} {w w' : World} {e : Ending} (h : DPost N (whenD l is) w e w') : ∃ v1, e = .returned (.tuple #[v1, .bool is, .int .i64 0]) ∧ Below N w w' := by
  cases is with
  | false => exact ⟨_, h.1, h.2⟩
  | true =>
    obtain ⟨⟨p', b', he, _⟩, hb⟩ := h
    exact ⟨_, he, hb⟩
/-- The names asked, and what they answer of a kind. -/
def kNm : Nat → ByteArray
  | 0 => ⟨#[118, 97, 114]⟩
  | 1 => ⟨#[110, 111, 110, 118, 97, 114]⟩
  | 2 => ⟨#[97, 116, 111, 109]⟩
  | 3 => ⟨#[105, 110, 116, 101, 103, 101, 114]⟩
  | 4 => ⟨#[97, 116, 111, 109, 105, 99]⟩
  | _ => ⟨#[99, 111, 109, 112, 111, 117, 110, 100]⟩
def kKs : Nat → List Int
  | 0 => [1]
  | 1 => [2, 3, 4]
  | 2 => [3]
  | 3 => [2]
  | 4 => [3, 2]
  | _ => [4]
def kq (k : Int) (j : Nat) : Bool := decide (k ∈ kKs j)
theorem kinds_do (l : Bs) (t : Tm) (j : Nat) (hj : j < 6) : doP l ⟨4, kNm j, 0, [t]⟩ = whenD l (kq (wlk l t).k j) := by
  have h : j = 0 ∨ j = 1 ∨ j = 2 ∨ j = 3 ∨ j = 4 ∨ j = 5 := by omega
  rcases h with rfl | rfl | rfl | rfl | rfl | rfl <;> exact doP_at (b := .kinds _) rfl rfl
theorem good_shp' {t : Tm} (h : t.good = true) : t.shp = true := by
  simp only [Tm.good, Bool.and_eq_true] at h
  exact h.2
theorem kwf {t : Tm} (h : t.Wf) (j : Nat) : (⟨4, kNm j, 0, [t]⟩ : Tm).Wf := by
  have : (kNm j).size ≤ 8 := by unfold kNm; split <;> simp [ByteArray.size]
  simp [Tm.Wf, WfL, h]
  omega
theorem wlk_mem (l : Bs) (t : Tm) : wlk l t = t ∨ ∃ b ∈ l, wlk l t = b.2 := by
  have key : ∀ (n : Nat) (t : Tm), wlkN l n t = t ∨ ∃ b ∈ l, wlkN l n t = b.2 := by
    intro n
    induction n with
    | zero => intro t; exact .inl rfl
    | succ n ih =>
      intro t
      rw [wlkN]
      cases hn : nxt l t with
      | none => exact .inl rfl
      | some x =>
        simp only
        have hm : (t.n, x) ∈ l := by
          unfold nxt at hn
          split at hn
          · exact ofB_mem hn
          · cases hn
        rcases ih x with h | h
        · exact .inr ⟨_, hm, h⟩
        · exact .inr h
  exact key _ t
theorem wlk_kind {l : Bs} {t : Tm} (hl : ∀ b ∈ l, b.2.good = true) (ht : t.good = true) : (wlk (mk [] l) t).k = 1 ∨ (wlk (mk [] l) t).k = 2 ∨ (wlk (mk [] l) t).k = 3 ∨ (wlk (mk [] l) t).k = 4 := by
  have hg : (wlk (mk [] l) t).good = true := by
    rcases wlk_mem (mk [] l) t with h | ⟨b, hb, h⟩
    · rw [h]; exact ht
    · rw [h]
      rcases mk_sub l [] b hb with h | h
      · simp at h
      · exact hl b h
  rcases shp_kinds (good_shp' hg) with h | h | h | h
  · exact .inl h.1
  · exact .inr (.inl h.1)
  · exact .inr (.inr (.inl h.1))
  · exact .inr (.inr (.inr h.1))
/-- The array, as far as it is written. -/
def kArr (k : Int) (j : Nat) : Array Value := ((List.range 6).map (fun i => Value.bool (decide (i < j) && kq k i))).toArray
theorem kArr_set (k : Int) (j : Nat) (hj : j < 6) : (kArr k j).setIfInBounds j (.bool (kq k j)) = kArr k (j + 1) := by
  have h : j = 0 ∨ j = 1 ∨ j = 2 ∨ j = 3 ∨ j = 4 ∨ j = 5 := by omega
  rcases h with rfl | rfl | rfl | rfl | rfl | rfl <;> simp [kArr, List.range, List.range.loop]
theorem set_at' {w : World} {B o : Nat} {t : TypeId} {cs : Array Value} {f : Nat × Nat} (v : Value) (h : w.heap[B]? = some (.cells cs t f)) : (w.setCell ⟨B, o, none⟩ v).heap[B]? = some (.cells (cs.setIfInBounds o v) t f) := by
  simp [World.setCell, Array.getElem?_modify, h]
theorem below_set' {N B o : Nat} {v : Value} {w W : World} (h : Below N w W) (hN : N ≤ B) (hw : N ≤ w.heap.size) : Below N w (W.setCell ⟨B, o, none⟩ v) :=
  ⟨h.os, h.tape, h.output, by have := h.size; simp [World.setCell]; omega, fun k hk => ((grown_set W B o v).block k (by have := h.size; omega) (fun e => by injection e; omega)).trans (h.block k hk)⟩
/-- In the loop. -/
structure NV (k : Int) (B j : Nat) (V W : World) : Prop where
  b : Below V.heap.size V W
  a : W.heap[B]? = some (.cells (kArr k j) 57 (0, 0))
theorem NV.then {k : Int} {B j : Nat} {V W W' : World} (h : NV k B j V W) (hb : Below W.heap.size W W') : NV k B j V W' :=
  ⟨below_then h.b h.b.size hb, block_below hb (Array.getElem?_eq_some_iff.1 h.a).1 h.a⟩
theorem NV.set {k : Int} {B j : Nat} {V W : World} (h : NV k B j V W) (hj : j < 6) (hB : V.heap.size ≤ B) : NV k B (j + 1) V (W.setCell ⟨B, j, none⟩ (.bool (kq k j))) :=
  ⟨below_set' h.b hB (Nat.le_refl _), by rw [← kArr_set k j hj]; exact set_at' _ h.a⟩
theorem NV.cells {k : Int} {B : Nat} {V W : World} (h : NV k B 6 V W) : W.cell? ⟨B, 0, none⟩ = some (.bool (kq k 0)) ∧ W.cell? ⟨B, 1, none⟩ = some (.bool (kq k 1)) ∧ W.cell? ⟨B, 2, none⟩ = some (.bool (kq k 2)) ∧ W.cell? ⟨B, 3, none⟩ = some (.bool (kq k 3)) ∧ W.cell? ⟨B, 4, none⟩ = some (.bool (kq k 4)) ∧ W.cell? ⟨B, 5, none⟩ = some (.bool (kq k 5)) := by
  have ha := h.a
  simp [World.cell?, ha, kArr, List.range, List.range.loop]
theorem NV.at {k : Int} {B j : Nat} {V W : World} (h : NV k B j V W) (hj : j < 6) : W.cell? ⟨B, j, none⟩ = some (.bool false) ∧ W.frozen? ⟨B, j, none⟩ = false := by
  have ha := h.a
  have h : j = 0 ∨ j = 1 ∨ j = 2 ∨ j = 3 ∨ j = 4 ∨ j = 5 := by omega
  rcases h with rfl | rfl | rfl | rfl | rfl | rfl <;> simp [World.cell?, World.frozen?, ha, kArr, List.range, List.range.loop]
def kNames : Obj := .cells #[.string ⟨#[118, 97, 114]⟩, .string ⟨#[110, 111, 110, 118, 97, 114]⟩, .string ⟨#[97, 116, 111, 109]⟩, .string ⟨#[105, 110, 116, 101, 103, 101, 114]⟩, .string ⟨#[97, 116, 111, 109, 105, 99]⟩, .string ⟨#[99, 111, 109, 112, 111, 117, 110, 100]⟩] 9
theorem kNames_cell (V : World) (j : Nat) (hj : j < 6) : (V.alloc kNames).cell? ⟨V.heap.size, j, none⟩ = some (.string (kNm j)) := by
  have h : j = 0 ∨ j = 1 ∨ j = 2 ∨ j = 3 ∨ j = 4 ∨ j = 5 := by omega
  rcases h with rfl | rfl | rfl | rfl | rfl | rfl <;> simp [kNames, kNm]
set_option maxRecDepth 100000 in
set_option maxHeartbeats 8000000 in
theorem BuiltinKinds_c (l : Bs) (t : Tm) (vl v : Value) (w : World) (okl ok : Nat → Prop) (hvl : Kd.bd.S w okl l vl) (hv : TmV w ok t v) (hl : WfB l) (ht : t.Wf) (hT : Tab w) :
    Calls Tryz.prog 6 #[vl, v] w fun e w' => e = .returned (.bool true) ∧ Below w.heap.size w w' := by
  obtain ⟨u, rfl, hS⟩ := hv
  obtain ⟨A, c, rfl⟩ := hS.form
  obtain ⟨Al, cl, rfl⟩ := hvl.form
  have hb1 := fun O : Obj => (Below.refl w.heap.size w).alloc (Nat.le_refl _) O
  have H0 := Lib.hid (show N1 w t (.slice A t.l.length c) l (.slice Al l.length cl) (w.alloc (.cells #[.int .u8 t.k, .string t.s, .int .i64 t.n, .slice A t.l.length c] 30)) from ⟨⟨hb1 _, Bt.new hS, (hvl.below (hb1 _)).mono (fun _ _ => trivial)⟩, tab_below hT (hb1 _)⟩)
  have HG := Lib.hid (fun W (h : N1 w t (.slice A t.l.length c) l (.slice Al l.length cl) W) => Great3_c l t _ _ W _ _ h.n.l h.n.t.tmv hl ht)
  have HW := Lib.hid (fun W (h : N1 w t (.slice A t.l.length c) l (.slice Al l.length cl) W) => wakes14_c W h.tab)
  clear hvl hS hT
  cases hgr : great3 l t with
  | true =>
    rw [hgr] at HG
    clear hgr hl ht
    go_enter Tryz.func6, Tryz.ntmps6
    go_wp2_with (first
      | (go_at_call 13; refine (HG.out _ H0.out).mono ?_; rintro e w1 ⟨rfl, hb1⟩; replace H0 := Lib.hid (H0.out.then hb1); clear hb1 HG; (try clear c0 c1 c2 c3); obtain ⟨c0, c1, c2, c3⟩ := H0.out.cells)
      | (go_at_call 15; refine (HW.out _ H0.out).mono ?_; rintro e w5 ⟨rfl, hb5⟩; replace H0 := Lib.hid (H0.out.then hb5); clear hb5 HW; (try clear c0 c1 c2 c3); obtain ⟨c0, c1, c2, c3⟩ := H0.out.cells))
    go_ret
    exact ⟨rfl, H0.out.b0⟩
  | false =>
    rw [hgr] at HG
    obtain ⟨hz1, hz2⟩ := great3_siz hgr
    have hll := (great3_no hgr).1
    have HA := Lib.hid (fun W (h : N1 w t (.slice A t.l.length c) l (.slice Al l.length cl) W) => refGood_c t _ W _ h.n.t.tmv (by omega) ht)
    have HB := Lib.hid (fun W (h : N1 w t (.slice A t.l.length c) l (.slice Al l.length cl) W) => bad_c l t _ _ W h.n.l h.n.t.tmv hl ht (fun b hb => by have := hz1 b hb; omega) (by omega) (by omega))
    cases hgd : t.good with
    | false =>
      rw [hgd] at HA
      clear hgr hl ht hz1 hz2 hll HB hgd
      go_enter Tryz.func6, Tryz.ntmps6
      go_wp2_with (first
        | (go_at_call 13; refine (HG.out _ H0.out).mono ?_; rintro e w1 ⟨rfl, hb1⟩; replace H0 := Lib.hid (H0.out.then hb1); clear hb1 HG; (try clear c0 c1 c2 c3); obtain ⟨c0, c1, c2, c3⟩ := H0.out.cells)
        | (go_at_call 25; refine (HA.out _ H0.out).mono ?_; rintro e w3 ⟨rfl, hb3⟩; replace H0 := Lib.hid (H0.out.then hb3); clear hb3 HA; (try clear c0 c1 c2 c3); obtain ⟨c0, c1, c2, c3⟩ := H0.out.cells)
        | (go_at_call 15; refine (HW.out _ H0.out).mono ?_; rintro e w5 ⟨rfl, hb5⟩; replace H0 := Lib.hid (H0.out.then hb5); clear hb5 HW; (try clear c0 c1 c2 c3); obtain ⟨c0, c1, c2, c3⟩ := H0.out.cells))
      go_ret
      exact ⟨rfl, H0.out.b0⟩
    | true =>
      rw [hgd] at HA
      by_cases hbd : badN l t = 0
      · rw [hbd] at HB
        have hgl : ∀ b ∈ l, b.2.good = true := fun b hb => ngL_good (Nat.eq_zero_of_add_eq_zero_right hbd) b.2 (List.mem_map.2 ⟨b, hb, rfl⟩)
        have hkd := wlk_kind hgl hgd
        have hsm : ∀ n x, ofB (mk [] l) n = some x → x.siz ≤ 1000000 := fun n x h => by have := mk_siz hz1 n x h; omega
        have hml : (mk [] l).length ≤ 900000 := by have := mk_length l []; simp only [List.length_nil] at this; omega
        have hgb : GB (mk [] l) [t] := ⟨by simp [WfL, ht], by intro x hx; simp at hx; subst hx; omega, hsm, hml⟩
        have hwf := Lib.hid ht
        have HMK := Lib.hid (fun W (h : N1 w t (.slice A t.l.length c) l (.slice Al l.length cl) W) => Make_c l _ W _ h.n.l hl hll (fun b hb => by have := hz1 b hb; omega))
        have hdo := fun j hj => kinds_do (mk [] l) t j hj
        clear hgr hl hz1 hz2 hll hsm hml hbd hgl hgd
        generalize mk [] l = had at hkd hgb HMK hdo
        have HD := Lib.hid (fun (j : Nat) (hj : j < 6) (W : World) p b (h : N3 w t (.slice A t.l.length c) had p b W) (A' : Option Addr) (c' : Nat) (hx : Kd.tm.S W (fun _ => True) [t] (.slice A' 1 c')) => (by
          have := Do_c had p b ⟨4, kNm j, 0, [t]⟩ (.agg #[.int .u8 4, .string (kNm j), .int .i64 0, .slice A' 1 c']) W h.s ⟨_, rfl, hx⟩ (kwf ht j) hgb h.tab (by simp)
          rw [hdo j hj] at this
          exact this.mono (fun e w' hd => dpost_when hd) : Calls Tryz.prog 18 #[.pointer (some ⟨p, 0, none⟩), .agg #[.int .u8 4, .string (kNm j), .int .i64 0, .slice A' 1 c']] W fun e w' => ∃ v1, e = .returned (.tuple #[v1, .bool (kq (wlk had t).k j), .int .i64 0]) ∧ Below W.heap.size W w'))
        have HWK := Lib.hid (fun W p b (h : N3 w t (.slice A t.l.length c) had p b W) => Walk_c had p b t _ W _ h.s h.t.tmv hwf.out)
        clear hdo hgb ht
        generalize wlk had t = x at hkd HD HWK
        have hkx := Lib.hid hkd
        clear hkd
        go_enter Tryz.func6, Tryz.ntmps6
        go_wp2_with (first
          | (go_at_call 13; refine (HG.out _ H0.out).mono ?_; rintro e w1 ⟨rfl, hb1⟩; replace H0 := Lib.hid (H0.out.then hb1); clear hb1 HG; (try clear c0 c1 c2 c3); obtain ⟨c0, c1, c2, c3⟩ := H0.out.cells)
          | (go_at_call 25; refine (HA.out _ H0.out).mono ?_; rintro e w3 ⟨rfl, hb3⟩; replace H0 := Lib.hid (H0.out.then hb3); clear hb3 HA; (try clear c0 c1 c2 c3); obtain ⟨c0, c1, c2, c3⟩ := H0.out.cells)
          | (go_at_call 14; refine (HB.out _ H0.out).mono ?_; rintro e w4 ⟨rfl, hb4⟩; replace H0 := Lib.hid (H0.out.then hb4); clear hb4 HB; (try clear c0 c1 c2 c3); obtain ⟨c0, c1, c2, c3⟩ := H0.out.cells)
          | (go_at_call 16; refine (HMK.out _ H0.out).mono ?_; clear HMK; rintro e w2 ⟨⟨p, b, r, rfl, hs2, hr2, hp2, hb2⟩, hb1⟩; replace H0 := H0.out.then hb1; obtain ⟨rA, rc, rfl⟩ := hr2.form; have h1 : N3 w t (.slice A t.l.length c) had p b w2 := ⟨H0.b0, H0.n.t, hs2.mono (fun _ _ => trivial), H0.tab⟩; clear hb1 hs2 hr2 hp2 hb2 H0 c0 c1 c2 c3))
        obtain ⟨V, hV⟩ : ∃ V : World, V = w2.alloc kNames := ⟨_, rfl⟩
        have HV := Lib.hid (show N3 w t (.slice A t.l.length c) had p b V from by rw [hV]; exact h1.then ((Below.refl _ w2).alloc (Nat.le_refl _) _))
        have HVs := Lib.hid (show V.heap.size = w2.heap.size + 1 by rw [hV]; simp)
        have HNm := Lib.hid (fun j hj => by rw [hV]; exact kNames_cell w2 j hj : ∀ j, j < 6 → V.cell? ⟨w2.heap.size, j, none⟩ = some (.string (kNm j)))
        have HA0 := Lib.hid (show NV x.k (w2.heap.size + 1) 0 V (V.alloc (.cells #[.bool false, .bool false, .bool false, .bool false, .bool false, .bool false] 57)) from ⟨(Below.refl _ V).alloc (Nat.le_refl _) _, by rw [← HVs.out]; exact heap_new V _⟩)
        have hVh := Lib.hid hV
        clear hV h1
        go_loopw [10] (fun i wr => ∃ j : Nat, j ≤ 6 ∧ i = .int .i64 j ∧ Hid (NV x.k (w2.heap.size + 1) j V wr)) (fun i _ => 6 - (intOf i).toNat)
        case atStart => exact ⟨0, by omega, rfl, by have h := HA0; rw [hVh.out] at h ⊢; exact h⟩
        case round =>
          obtain ⟨j, hj, rfl, hx⟩ := hrel
          by_cases hlt : j < 6
          · have hlt' : (j : Int) < 6 := by omega
            have hn := cell_below hx.out.b (HNm.out j hlt) (by have := HVs.out; omega)
            have h3 := HV.out.then hx.out.b
            obtain ⟨c0, c1, c2, c3⟩ := h3.cells
            have h3h := Lib.hid h3
            clear h3
            go_wp2
            refine wp_region_held_drew (S := (fun W => W.cell? ⟨w2.heap.size, j, none⟩ = some (.string (kNm j)) ∧ W.cell? ⟨w.heap.size, 0, none⟩ = some (.int .u8 t.k) ∧ W.cell? ⟨w.heap.size, 1, none⟩ = some (.string t.s) ∧ W.cell? ⟨w.heap.size, 2, none⟩ = some (.int .i64 t.n) ∧ W.cell? ⟨w.heap.size, 3, none⟩ = some (.slice A t.l.length c) ∧ NV x.k (w2.heap.size + 1) j V W ∧ N3 w t (.slice A t.l.length c) had p b W)) (by kernel_rfl) ?_ (fun hHeld => ?_)
            · exact ⟨hn, c0, c1, c2, c3, hx.out.then (Below.refl _ _).drew, h3h.out.then (Below.refl _ _).drew⟩
            clear hn c0 c1 c2 c3 h3h hx
            change wpAnyH _ .any _ _ _ 16 (Array.replicate 16 false) _ _
            refine wpAnyH_take (i := 0) (oi := ⟨some 44, _, _, _, _, _⟩) (v := ?_) rfl (by kernel_rfl) (by kernel_rfl) (by kernel_rfl) (fun _ _ _ h => h) (Or.inl ⟨by rfl, ?_⟩) (by assumption) ?_
            rotate_left
            · (intro w hSw; (try dsimp only at hSw); go_simp; try (with_reducible rfl))
            (try simp only [Act.put, List.setIfInBounds_toArray, List.set_cons_zero, List.set_cons_succ])
            refine wpAnyH_take (i := 1) (oi := ⟨some 45, _, _, _, _, _⟩) (v := ?_) rfl (by kernel_rfl) (by kernel_rfl) (by kernel_rfl) (fun _ _ _ h => h) (Or.inl ⟨by rfl, ?_⟩) (by assumption) ?_
            rotate_left
            · (intro w hSw; (try dsimp only at hSw); go_simp; try (with_reducible rfl))
            (try simp only [Act.put, List.setIfInBounds_toArray, List.set_cons_zero, List.set_cons_succ])
            refine wpAnyH_take (i := 2) (oi := ⟨some 46, _, _, _, _, _⟩) (v := ?_) rfl (by kernel_rfl) (by kernel_rfl) (by kernel_rfl) (fun _ _ _ h => h) (Or.inl ⟨by rfl, ?_⟩) (by assumption) ?_
            rotate_left
            · (intro w hSw; (try dsimp only at hSw); go_simp; try (with_reducible rfl))
            (try simp only [Act.put, List.setIfInBounds_toArray, List.set_cons_zero, List.set_cons_succ])
            refine wpAnyH_take (i := 3) (oi := ⟨some 47, _, _, _, _, _⟩) (v := ?_) rfl (by kernel_rfl) (by kernel_rfl) (by kernel_rfl) (fun _ _ _ h => h) (Or.inl ⟨by rfl, ?_⟩) (by assumption) ?_
            rotate_left
            · (intro w hSw; (try dsimp only at hSw); go_simp; try (with_reducible rfl))
            (try simp only [Act.put, List.setIfInBounds_toArray, List.set_cons_zero, List.set_cons_succ])
            refine wpAnyH_take (i := 4) (oi := ⟨some 48, _, _, _, _, _⟩) (v := ?_) rfl (by kernel_rfl) (by kernel_rfl) (by kernel_rfl) (fun _ _ _ h => h) (Or.inl ⟨by rfl, ?_⟩) (by assumption) ?_
            rotate_left
            · (intro w hSw; (try dsimp only at hSw); go_simp; try (with_reducible rfl))
            (try simp only [Act.put, List.setIfInBounds_toArray, List.set_cons_zero, List.set_cons_succ])
            refine wpAnyH_take (i := 5) (oi := ⟨some 49, _, _, _, _, _⟩) (v := ?_) rfl (by kernel_rfl) (by kernel_rfl) (by kernel_rfl) (fun _ _ _ h => h) (Or.inl ⟨by rfl, ?_⟩) (by assumption) ?_
            rotate_left
            · (intro w hSw; (try dsimp only at hSw); go_simp; try (with_reducible rfl))
            (try simp only [Act.put, List.setIfInBounds_toArray, List.set_cons_zero, List.set_cons_succ])
            refine wpAnyH_ready (rs := [6]) (by kernel_rfl) (by simp) ?_
            refine AllReadyH.cons (o := ⟨some 50, _, _, _, _, _⟩) rfl (fun K hK => ?_) AllReadyH.nil
            go_simp
            have hu6 := hHeld.2.2.2.2.2.2.t.args
            refine hK.out _ _ (by obtain ⟨q0, q1, q2, q3, q4, q5, q6⟩ := hHeld; exact ⟨held_cell ((Below.refl _ _).alloc (Nat.le_refl _) _) q0, held_cell ((Below.refl _ _).alloc (Nat.le_refl _) _) q1, held_cell ((Below.refl _ _).alloc (Nat.le_refl _) _) q2, held_cell ((Below.refl _ _).alloc (Nat.le_refl _) _) q3, held_cell ((Below.refl _ _).alloc (Nat.le_refl _) _) q4, q5.then ((Below.refl _ _).alloc (Nat.le_refl _) _), q6.then ((Below.refl _ _).alloc (Nat.le_refl _) _)⟩) (fun hHeld6 => ?_)
            clear hK K
            (try simp only [Act.put, List.setIfInBounds_toArray, List.set_cons_zero, List.set_cons_succ])
            refine wpAnyH_ready (rs := [7]) (by kernel_rfl) (by simp) ?_
            refine AllReadyH.cons (o := ⟨some 51, _, _, _, _, _⟩) rfl (fun K hK => ?_) AllReadyH.nil
            go_simp
            refine (fone (kNm j) t A c _ hu6).mono ?_
            rintro e w3 ⟨A', c', rfl, hx3, hb3⟩
            go_wp2_with fail
            refine hK.out _ _ (by obtain ⟨q0, q1, q2, q3, q4, q5, q6⟩ := hHeld; exact ⟨held_cell hb3 q0, held_cell hb3 q1, held_cell hb3 q2, held_cell hb3 q3, held_cell hb3 q4, q5.then hb3, q6.then hb3⟩) (fun hHeld7 => ?_)
            clear hHeld hHeld6 hu6
            clear hK K
            (try simp only [Act.put, List.setIfInBounds_toArray, List.set_cons_zero, List.set_cons_succ])
            refine wpAnyH_ready (rs := [8]) (by kernel_rfl) (by simp) ?_
            refine AllReadyH.cons (o := ⟨some 52, _, _, _, _, _⟩) rfl (fun K hK => ?_) AllReadyH.nil
            go_simp
            refine (HD.out j hlt w3 p b hHeld7.2.2.2.2.2.2 A' c' hx3).mono ?_
            rintro e w4 ⟨v1, rfl, hb4⟩
            go_wp2_with fail
            refine hK.out _ _ (by obtain ⟨q0, q1, q2, q3, q4, q5, q6⟩ := hHeld7; exact ⟨held_cell hb4 q0, held_cell hb4 q1, held_cell hb4 q2, held_cell hb4 q3, held_cell hb4 q4, q5.then hb4, q6.then hb4⟩) (fun hHeld8 => ?_)
            clear hHeld7 hx3 hb4 hb3
            clear hK K
            (try simp only [Act.put, List.setIfInBounds_toArray, List.set_cons_zero, List.set_cons_succ])
            refine wpAnyH_take (i := 9) (oi := ⟨some 43, _, _, _, _, _⟩) (v := ?_) rfl (by kernel_rfl) (by kernel_rfl) (by kernel_rfl) (fun _ _ _ h => h) (Or.inl ⟨by rfl, ?_⟩) (by assumption) ?_
            rotate_left
            · (intro w hSw; (try dsimp only at hSw); go_simp; try (with_reducible rfl))
            (try simp only [Act.put, List.setIfInBounds_toArray, List.set_cons_zero, List.set_cons_succ])
            refine wpAnyH_take (i := 10) (oi := ⟨some 53, _, _, _, _, _⟩) (v := ?_) rfl (by kernel_rfl) (by kernel_rfl) (by kernel_rfl) (fun _ _ _ h => h) (Or.inl ⟨by rfl, ?_⟩) (by assumption) ?_
            rotate_left
            · (intro w hSw; (try dsimp only at hSw); go_simp; try (with_reducible rfl))
            (try simp only [Act.put, List.setIfInBounds_toArray, List.set_cons_zero, List.set_cons_succ])
            refine wpAnyH_take (i := 11) (oi := ⟨some 54, _, _, _, _, _⟩) (v := ?_) rfl (by kernel_rfl) (by kernel_rfl) (by kernel_rfl) (fun _ _ _ h => h) (Or.inl ⟨by rfl, ?_⟩) (by assumption) ?_
            rotate_left
            · (intro w hSw; (try dsimp only at hSw); go_simp; try (with_reducible rfl))
            (try simp only [Act.put, List.setIfInBounds_toArray, List.set_cons_zero, List.set_cons_succ])
            refine wpAnyH_take (i := 12) (oi := ⟨some 55, _, _, _, _, _⟩) (v := ?_) rfl (by kernel_rfl) (by kernel_rfl) (by kernel_rfl) (fun _ _ _ h => h) (Or.inl ⟨by rfl, ?_⟩) (by assumption) ?_
            rotate_left
            · (intro w hSw; (try dsimp only at hSw); go_simp; try (with_reducible rfl))
            (try simp only [Act.put, List.setIfInBounds_toArray, List.set_cons_zero, List.set_cons_succ])
            refine wpAnyH_take (i := 13) (oi := ⟨some 11, _, _, _, _, _⟩) (v := ?_) rfl (by kernel_rfl) (by kernel_rfl) (by kernel_rfl) (fun _ _ _ h => h) (Or.inl ⟨by rfl, ?_⟩) (by assumption) ?_
            rotate_left
            · (intro w hSw; (try dsimp only at hSw); go_simp; try (with_reducible rfl))
            (try simp only [Act.put, List.setIfInBounds_toArray, List.set_cons_zero, List.set_cons_succ])
            refine wpAnyH_take (i := 14) (oi := ⟨some 12, _, _, _, _, _⟩) (v := ?_) rfl (by kernel_rfl) (by kernel_rfl) (by kernel_rfl) (fun _ _ _ h => h) (Or.inl ⟨by rfl, ?_⟩) (by assumption) ?_
            rotate_left
            · (intro w hSw; (try dsimp only at hSw); go_simp; try (with_reducible rfl))
            (try simp only [Act.put, List.setIfInBounds_toArray, List.set_cons_zero, List.set_cons_succ])
            refine wpAnyH_take (i := 15) (oi := ⟨some 13, _, _, _, _, _⟩) (v := ?_) rfl (by kernel_rfl) (by kernel_rfl) (by kernel_rfl) (fun _ _ _ h => h) (Or.inl ⟨by rfl, ?_⟩) (by assumption) ?_
            rotate_left
            · (intro w hSw; (try dsimp only at hSw); go_simp; try (with_reducible rfl))
            (try simp only [Act.put, List.setIfInBounds_toArray, List.set_cons_zero, List.set_cons_succ])
            refine wpAnyH_done (by kernel_rfl) ?_ _
            have hy := Lib.hid hHeld8.2.2.2.2.2.1
            clear hHeld8
            obtain ⟨d0, d1⟩ := hy.out.at hlt
            go_wp2
            go_roundw
            case rel => exact ⟨j + 1, by omega, by go_num, Lib.hid (hy.out.set hlt (by have := HVs.out; omega))⟩
            case measure => simp [intOf]; omega
          · have hlt' : ¬ (j : Int) < 6 := by omega
            replace hx : Hid (NV x.k (w2.heap.size + 1) 6 V wr) := by
              obtain rfl : j = 6 := by omega
              exact hx
            have h3 := Lib.hid (HV.out.then hx.out.b)
            clear hj hlt HNm HVs HA0 hVh HD
            obtain ⟨xk, xs, xn, xl⟩ := x
            have hkk := hkx.out
            simp only at hkk hx
            clear hkx
            obtain ⟨c0, c1, c2, c3⟩ := h3.out.cells
            rcases hkk with rfl | rfl | rfl | rfl
            · go_wp2_with (first
                | (go_at_call 30; refine (HWK.out _ p b h3.out).mono ?_; rintro e w5 ⟨⟨u5, rfl, uu, rfl, hu⟩, hb5⟩; have hy := Lib.hid (hx.out.then hb5); have h5 := Lib.hid (h3.out.then hb5); obtain ⟨uA, uc, rfl⟩ := hu.form; clear c0 c1 c2 c3 hb5 HWK; have hlt5 : w2.heap.size + 1 < w5.heap.size := (Array.getElem?_eq_some_iff.1 hy.out.a).1; have hne5 : ¬ w2.heap.size + 1 = w5.heap.size := (by omega); obtain ⟨e0, e1, e2, e3, e4, e5⟩ := hy.out.cells; simp only [show kq 1 0 = true from rfl, show kq 1 1 = false from rfl, show kq 1 2 = false from rfl, show kq 1 3 = false from rfl, show kq 1 4 = false from rfl, show kq 1 5 = false from rfl] at e0 e1 e2 e3 e4 e5)
                | (go_at_call 15; refine (wakes14_c _ (h5.out.then ((Below.refl _ _).alloc (Nat.le_refl _) _)).tab).mono ?_; rintro e w6 ⟨rfl, hb6⟩))
              go_ret
              exact ⟨rfl, ((h5.out.then ((Below.refl _ _).alloc (Nat.le_refl _) _)).then hb6).b0⟩
            · go_wp2_with (first
                | (go_at_call 30; refine (HWK.out _ p b h3.out).mono ?_; rintro e w5 ⟨⟨u5, rfl, uu, rfl, hu⟩, hb5⟩; have hy := Lib.hid (hx.out.then hb5); have h5 := Lib.hid (h3.out.then hb5); obtain ⟨uA, uc, rfl⟩ := hu.form; clear c0 c1 c2 c3 hb5 HWK; have hlt5 : w2.heap.size + 1 < w5.heap.size := (Array.getElem?_eq_some_iff.1 hy.out.a).1; have hne5 : ¬ w2.heap.size + 1 = w5.heap.size := (by omega); obtain ⟨e0, e1, e2, e3, e4, e5⟩ := hy.out.cells; simp only [show kq 2 0 = false from rfl, show kq 2 1 = true from rfl, show kq 2 2 = false from rfl, show kq 2 3 = true from rfl, show kq 2 4 = true from rfl, show kq 2 5 = false from rfl] at e0 e1 e2 e3 e4 e5)
                | (go_at_call 15; refine (wakes14_c _ (h5.out.then ((Below.refl _ _).alloc (Nat.le_refl _) _)).tab).mono ?_; rintro e w6 ⟨rfl, hb6⟩))
              go_ret
              exact ⟨rfl, ((h5.out.then ((Below.refl _ _).alloc (Nat.le_refl _) _)).then hb6).b0⟩
            · go_wp2_with (first
                | (go_at_call 30; refine (HWK.out _ p b h3.out).mono ?_; rintro e w5 ⟨⟨u5, rfl, uu, rfl, hu⟩, hb5⟩; have hy := Lib.hid (hx.out.then hb5); have h5 := Lib.hid (h3.out.then hb5); obtain ⟨uA, uc, rfl⟩ := hu.form; clear c0 c1 c2 c3 hb5 HWK; have hlt5 : w2.heap.size + 1 < w5.heap.size := (Array.getElem?_eq_some_iff.1 hy.out.a).1; have hne5 : ¬ w2.heap.size + 1 = w5.heap.size := (by omega); obtain ⟨e0, e1, e2, e3, e4, e5⟩ := hy.out.cells; simp only [show kq 3 0 = false from rfl, show kq 3 1 = true from rfl, show kq 3 2 = true from rfl, show kq 3 3 = false from rfl, show kq 3 4 = true from rfl, show kq 3 5 = false from rfl] at e0 e1 e2 e3 e4 e5)
                | (go_at_call 15; refine (wakes14_c _ (h5.out.then ((Below.refl _ _).alloc (Nat.le_refl _) _)).tab).mono ?_; rintro e w6 ⟨rfl, hb6⟩))
              go_ret
              exact ⟨rfl, ((h5.out.then ((Below.refl _ _).alloc (Nat.le_refl _) _)).then hb6).b0⟩
            · go_wp2_with (first
                | (go_at_call 30; refine (HWK.out _ p b h3.out).mono ?_; rintro e w5 ⟨⟨u5, rfl, uu, rfl, hu⟩, hb5⟩; have hy := Lib.hid (hx.out.then hb5); have h5 := Lib.hid (h3.out.then hb5); obtain ⟨uA, uc, rfl⟩ := hu.form; clear c0 c1 c2 c3 hb5 HWK; have hlt5 : w2.heap.size + 1 < w5.heap.size := (Array.getElem?_eq_some_iff.1 hy.out.a).1; have hne5 : ¬ w2.heap.size + 1 = w5.heap.size := (by omega); obtain ⟨e0, e1, e2, e3, e4, e5⟩ := hy.out.cells; simp only [show kq 4 0 = false from rfl, show kq 4 1 = true from rfl, show kq 4 2 = false from rfl, show kq 4 3 = false from rfl, show kq 4 4 = false from rfl, show kq 4 5 = true from rfl] at e0 e1 e2 e3 e4 e5)
                | (go_at_call 15; refine (wakes14_c _ (h5.out.then ((Below.refl _ _).alloc (Nat.le_refl _) _)).tab).mono ?_; rintro e w6 ⟨rfl, hb6⟩))
              go_ret
              exact ⟨rfl, ((h5.out.then ((Below.refl _ _).alloc (Nat.le_refl _) _)).then hb6).b0⟩
      · have hm : 0 < badN l t := by omega
        generalize badN l t = m at HB hm
        have hm' : (0 : Int) < m := by omega
        clear hgr hl ht hz1 hz2 hll hbd hgd hm
        go_enter Tryz.func6, Tryz.ntmps6
        go_wp2_with (first
          | (go_at_call 13; refine (HG.out _ H0.out).mono ?_; rintro e w1 ⟨rfl, hb1⟩; replace H0 := Lib.hid (H0.out.then hb1); clear hb1 HG; (try clear c0 c1 c2 c3); obtain ⟨c0, c1, c2, c3⟩ := H0.out.cells)
          | (go_at_call 25; refine (HA.out _ H0.out).mono ?_; rintro e w3 ⟨rfl, hb3⟩; replace H0 := Lib.hid (H0.out.then hb3); clear hb3 HA; (try clear c0 c1 c2 c3); obtain ⟨c0, c1, c2, c3⟩ := H0.out.cells)
          | (go_at_call 14; refine (HB.out _ H0.out).mono ?_; rintro e w4 ⟨rfl, hb4⟩; replace H0 := Lib.hid (H0.out.then hb4); clear hb4 HB; (try clear c0 c1 c2 c3); obtain ⟨c0, c1, c2, c3⟩ := H0.out.cells)
          | (go_at_call 15; refine (HW.out _ H0.out).mono ?_; rintro e w5 ⟨rfl, hb5⟩; replace H0 := Lib.hid (H0.out.then hb5); clear hb5 HW; (try clear c0 c1 c2 c3); obtain ⟨c0, c1, c2, c3⟩ := H0.out.cells))
        go_ret
        exact ⟨rfl, H0.out.b0⟩
end Go.Proofs.YtgcbanljifalnaaGreatDoor

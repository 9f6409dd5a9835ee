/- Layer 22 (code): which code may be run, walked. Conditions: the arguments read; operations are bytes; at most a million instructions. -/
import Derived.Test.YtdflckjnpgbjlaaCe
import Derived.Maps.RangeRun
set_option linter.unusedVariables false
set_option maxRecDepth 20000
set_option linter.unusedSimpArgs false
namespace Go.Proofs.Ytdflckjnpgbjlaa
open Go.RowKit

/-- The instructions one behind the other: how many Args are to come. -/
def goC (n : Int) : Int → List In → Option Int
  | left, [] => some left
  | left, i :: l => if (decide (32 ≤ i.op) || !okB i n || (partB i.op != decide (0 < left))) = true then none else goC n (if argB i.op = true then i.n else max (left - 1) 0) l
/-- What Check answers, ahead of the entries. -/
def checkA (l : List In) : Bool := match goC l.length 0 l with
  | none => false
  | some left => decide (left ≤ 0) && (match l.getLast? with | none => false | some i => endB i.op)
def checkC (l : List In) (es : List Int) : Int := if 16384 < l.length then 3 else if checkA l && es.all (fun e => placeB e l.length) then 0 else 33
/-- The entries of a map, whatever their keys. -/
def EntAt (w : World) (m : Value) (es : List Int) : Prop :=
  (m = .map none ∧ es = []) ∨ ∃ b E clock, m = .map (some b) ∧ w.heap[b]? = some (.map E clock) ∧ MapKept.Stamped E clock ∧ E.toList.map (·.val) = es.map (Value.int .i64)
theorem EntAt.below {w w' : World} {m : Value} {es : List Int} (h : EntAt w m es) (hb : Below w.heap.size w w') : EntAt w' m es := by
  rcases h with h | ⟨b, E, clock, h1, h2, h3⟩
  · exact .inl h
  · exact .inr ⟨b, E, clock, h1, (hb.block b (Array.getElem?_eq_some_iff.1 h2).1).trans h2, h3⟩
theorem okB_arg {i : In} {n : Int} (h : okB i n = true) (ha : argB i.op = true) : 1 ≤ i.n ∧ i.n ≤ 16 := by
  unfold argB at ha
  simp only [List.mem_cons, List.not_mem_nil, or_false, decide_eq_true_eq] at ha
  have hf : funB i = true := by
    unfold okB at h
    rcases ha with e | e | e | e <;> rw [e] at h <;> simp at h <;> exact h.1
  unfold funB argsB at hf
  simp at hf
  omega
theorem place_w (a n : Int) (w : World) : Calls Try.prog 75 #[.int .i64 a, .int .i64 n] w fun e w' => e = .returned (.bool (placeB a n)) ∧ w' = w := by
  have HX := Lib.hid (show placeB a n = (decide (0 ≤ a) && decide (a < n)) from rfl)
  go_enter Try.func75, Try.ntmps75
  go_wp2
  all_goals go_ret
  all_goals exact ⟨ret_bool (by rw [HX.out]; (try simp [*]); (try omega)), rfl⟩
/-- What is known along Check's walk. -/
structure Ck (w : World) (va vm : Value) (T : Array Value) (Bt : Nat) (W : World) : Prop where
  b0 : Below w.heap.size w W
  x0 : W.heap[w.heap.size]? = some (.cells #[va, vm] 59 (0, 0))
  xt : ∀ (k : Nat) (v : Value), T[k]? = some v → W.cell? ⟨Bt, k, none⟩ = some v
  lt : Bt < W.heap.size
  bt : w.heap.size < Bt
theorem Ck.then {w W W' : World} {va vm : Value} {T : Array Value} {Bt : Nat} (h : Ck w va vm T Bt W) (hb : Below W.heap.size W W') : Ck w va vm T Bt W' :=
  ⟨below_then h.b0 h.b0.size hb, block_below hb (Array.getElem?_eq_some_iff.1 h.x0).1 h.x0, fun k v hk => cell_below hb (h.xt k v hk) h.lt, Nat.lt_of_lt_of_le h.lt hb.size, h.bt⟩
theorem box2 {w : World} {B : Nat} {t : TypeId} {a b : Value} (h : w.heap[B]? = some (.cells #[a, b] t (0, 0))) : w.cell? ⟨B, 0, none⟩ = some a ∧ w.cell? ⟨B, 1, none⟩ = some b := by simp [World.cell?, h]
theorem Ck.alloc {w W : World} {va vm : Value} {T : Array Value} {Bt : Nat} (h : Ck w va vm T Bt W) (O : Obj) : Ck w va vm T Bt (W.alloc O) := h.then ((Below.refl _ W).alloc (Nat.le_refl _) O)
def valI : Value → Int
  | .int _ n => n
  | _ => 0
theorem iterSeen_of {w : World} {r a : Nat} {m : Option Nat} {s : Array Nat} {c : Nat} (h : w.heap[r]? = some (.mapIter m a s c)) : w.iterSeen r = s := by unfold World.iterSeen; rw [h]
theorem setBlock_at {w W : World} {r : Nat} {o o' : Obj} (hb : Below w.heap.size w W) (hr : w.heap.size ≤ r) (h : W.heap[r]? = some o) : (Go.ChangeMaps.setBlock W r o').heap[r]? = some o' ∧ Below w.heap.size w (Go.ChangeMaps.setBlock W r o') ∧ (Go.ChangeMaps.setBlock W r o').heap.size = W.heap.size := by
  have hlt := (Array.getElem?_eq_some_iff.1 h).1
  refine ⟨by simp [Go.ChangeMaps.setBlock, hlt], ⟨hb.os, hb.tape, hb.output, by simpa [Go.ChangeMaps.setBlock] using hb.size, fun k hk => ?_⟩, by simp [Go.ChangeMaps.setBlock]⟩
  rw [← hb.block k hk]
  simp only [Go.ChangeMaps.setBlock]
  rw [Array.getElem?_setIfInBounds_ne (by omega)]
theorem ck_there {w1 : World} {T : Array Value} (hT : T.size = 128) : (w1.alloc (.cells Try.zeroCells122 122)).there w1.heap.size 0 T.size := there_of (heap_new w1 _) (by rw [hT, zero_size]; exact Nat.le_refl _)
theorem ck_hi {T : Array Value} (hT : T.size = 128) : (Try.prog.info? 122).map (·.size) = some T.size := by rw [hT]; kernel_rfl
theorem ck_start {w w1 : World} {va vm : Value} {T : Array Value} (hT : T.size = 128) (hb1 : Below (w.alloc (.cells #[va, vm] 59)).heap.size (w.alloc (.cells #[va, vm] 59)) w1) :
    Ck w va vm T w1.heap.size ((w1.alloc (.cells Try.zeroCells122 122)).setCells w1.heap.size 0 T.toList) := by
  have hth : (w1.alloc (.cells Try.zeroCells122 122)).there w1.heap.size 0 T.toList.length := there_of (heap_new w1 _) (by rw [Array.length_toList, hT, zero_size]; exact Nat.le_refl _)
  have hra := World.rangeAt_setCells_same (w1.alloc (.cells Try.zeroCells122 122)) w1.heap.size 0 T.toList hth
  have hb2 : Below w1.heap.size w1 ((w1.alloc (.cells Try.zeroCells122 122)).setCells w1.heap.size 0 T.toList) := setCells_below ((Below.refl _ w1).alloc (Nat.le_refl _) _) (Nat.le_refl _) 0 T.toList
  have hsz2 : w1.heap.size < ((w1.alloc (.cells Try.zeroCells122 122)).setCells w1.heap.size 0 T.toList).heap.size := Nat.lt_of_lt_of_le (by simp) (setCells_grown w1.heap.size T.toList 0 (w1.alloc (.cells Try.zeroCells122 122))).size
  generalize (w1.alloc (.cells Try.zeroCells122 122)).setCells w1.heap.size 0 T.toList = W2 at hra hb2 hsz2 ⊢
  have hb0 : Below w.heap.size w (w.alloc (.cells #[va, vm] 59)) := (Below.refl _ w).alloc (Nat.le_refl _) _
  have hx0 := heap_new w (.cells #[va, vm] 59)
  have hz1 : w.heap.size < w1.heap.size := Nat.lt_of_lt_of_le (by simp) hb1.size
  refine ⟨below_then hb0 hb0.size (below_then hb1 hb1.size hb2), block_below hb2 hz1 (block_below hb1 (by simp) hx0), fun k v hk => ?_, hsz2, hz1⟩
  have := hra k v (by simpa using hk)
  simpa using this
set_option maxRecDepth 100000 in
set_option maxHeartbeats 8000000 in
theorem Check_c (l : List In) (es : List Int) (va vm : Value) (w : World) (ok : Nat → Prop) (hv : (Kd.inq .u8).S w ok l va) (hm : EntAt w vm es) (hop : ∀ i ∈ l, 0 ≤ i.op) :
    Calls Try.prog 39 #[.agg #[va, vm]] w fun e w' => e = .returned (.int .i64 (checkC l es)) ∧ Below w.heap.size w w' := by
  have HV := Lib.hid ((Kd.S.bound hv).mono (ok' := fun b => b < w.heap.size) (fun _ h => h.2))
  have HM := Lib.hid hm
  obtain ⟨A, c, rfl, hl, hc, -⟩ := hv
  unfold maxLen at hc
  clear hm
  have HC : Hid (checkC l es = if 16384 < l.length then 3 else if checkA l && es.all (fun e => placeB e l.length) then 0 else 33) := Lib.hid rfl
  generalize checkC l es = R at HC
  obtain ⟨mm, hmm⟩ : ∃ m, vm = .map m := by rcases HM.out with ⟨h, _⟩ | ⟨b, _, _, h, _⟩; exact ⟨_, h⟩; exact ⟨_, h⟩
  subst hmm
  by_cases hbig : (16384 : Int) < l.length
  · have HR : Hid (R = 3) := Lib.hid (by rw [HC.out, if_pos (by omega)])
    go_enter Try.func39, Try.ntmps39
    go_wp2
    go_ret
    exact ⟨ret_int HR.out.symm, (Below.refl _ w).alloc (Nat.le_refl _) _⟩
  have hnb : decide ((16384 : Int) < l.length) = false := by simpa using hbig
  have hll : l.length ≤ 16384 := by omega
  replace HC : Hid (R = if checkA l && es.all (fun e => placeB e l.length) then 0 else 33) := Lib.hid (by rw [HC.out, if_neg (by omega)])
  clear hbig
  obtain ⟨T, HA, HTS, HT1, HTE⟩ : ∃ T, Hid (∀ w, Calls Try.prog 73 #[] w fun e w' => e = .returned (.agg T) ∧ Below w.heap.size w w') ∧ Hid (T.size = 128) ∧ Hid (T.all (·.oneCell') = true) ∧ Hid (∀ o : Nat, o < 32 → T[o * 4]? = some (.func (.func (okN o)) #[] #[]) ∧ T[o * 4 + 1]? = some (.bool (argB o)) ∧ T[o * 4 + 2]? = some (.bool (partB o)) ∧ T[o * 4 + 3]? = some (.bool (endB o))) := ⟨Try.tabl, Lib.hid all_c, Lib.hid tabl_size, Lib.hid tabl_one, Lib.hid tabl_at⟩
  go_enter Try.func39, Try.ntmps39
  go_wp2_with (first
    | (go_at_call 73; refine (HA.out _).mono ?_; clear HA; rintro e w1 ⟨rfl, hb1⟩)
    | (refine wpList_store_mid rfl 122 (.tmp 5) (.tmp 15) rfl w1.heap.size 0 T rfl rfl (ck_there HTS.out) (ck_hi HTS.out) HT1.out ?_; go_loud (have h := ck_start (va := .slice A l.length c) (vm := .map mm) HTS.out hb1; generalize ((w1.alloc (.cells Try.zeroCells122 122)).setCells w1.heap.size 0 T.toList) = W2 at h ⊢; clear hb1; generalize w1.heap.size = Bt at h ⊢; obtain ⟨x00, x01⟩ := box2 h.x0)))
  go_loopw [4, 19] (fun lv i wr => ∃ (j : Nat) (left : Int), j ≤ l.length ∧ i = .int .i64 j ∧ lv = .int .i64 left ∧ (0 ≤ left ∧ left ≤ 16) ∧ Hid (goC l.length 0 l = goC l.length left (l.drop j)) ∧ Ck w (.slice A l.length c) (.map mm) T Bt wr) (fun _ i _ => l.length - (intOf i).toNat)
  case atStart => exact ⟨0, 0, Nat.zero_le _, rfl, rfl, by omega, Lib.hid rfl, h⟩
  case round =>
    clear h x00 x01
    obtain ⟨j, left, hj, rfl, rfl, hlf, hG, h⟩ := hrel
    by_cases hlt : j < l.length
    · obtain ⟨Aa, caa, eA, -, -, hA⟩ := HV.out
      injection eA with eA1 eA2 eA3
      subst eA1 eA3
      clear eA2
      obtain ⟨bb, ob, u, rfl, hokb, hlo, h0, h1, h2, h3, h4, h5, h6, h7⟩ := in_elem hA hlt
      have g0 := cell_below h.b0 h0 hlo
      have g1 := cell_below h.b0 h1 hlo
      have g2 := cell_below h.b0 h2 hlo
      have g3 := cell_below h.b0 h3 hlo
      have g4 := cell_below h.b0 h4 hlo
      have g5 := cell_below h.b0 h5 hlo
      have g6 := cell_below h.b0 h6 hlo
      have hm := List.getElem_mem hlt
      have hx0 := hop _ hm
      have HG := Lib.hid (show goC l.length 0 l = if (decide (32 ≤ l[j].op) || !okB l[j] l.length || (partB l[j].op != decide (0 < left))) = true then none else goC l.length (if argB l[j].op = true then l[j].n else max (left - 1) 0) (l.drop (j + 1)) by rw [hG.out, List.drop_eq_getElem_cons hlt]; rfl)
      obtain ⟨Au, cu, rfl⟩ := h7.form
      have HS := Lib.hid (h7.below h.b0)
      clear hA h0 h1 h2 h3 h4 h5 h6 h7 hm hG
      generalize l[j] = x at g0 g1 g2 g3 g4 g5 g6 HG HS hx0
      obtain ⟨o, hox⟩ : ∃ o : Nat, x.op = (o : Int) := ⟨x.op.toNat, by omega⟩
      rw [hox] at g0 HG
      clear hx0
      have hnl : (l.length : Int) = l.length := rfl
      have HRF : Hid (checkA l = false → R = 33) := Lib.hid (fun hf => by rw [HC.out, hf]; rfl)
      go_wp2
      obtain ⟨W1, hW1⟩ : ∃ W1, W1 = wr.alloc (.cells #[.int .u8 o, .int .i64 x.a, .int .i64 x.b, .int .u8 x.kd, .string x.s, .int .i64 x.n, .slice Au x.cs.length cu] 65) := ⟨_, rfl⟩
      have hb1 : Below wr.heap.size wr W1 := by rw [hW1]; exact (Below.refl _ wr).alloc (Nat.le_refl _) _
      have hxb : W1.heap[wr.heap.size]? = some (.cells #[.int .u8 o, .int .i64 x.a, .int .i64 x.b, .int .u8 x.kd, .string x.s, .int .i64 x.n, .slice Au x.cs.length cu] 65 (0, 0)) := by rw [hW1]; exact heap_new wr _
      have hz1 : wr.heap.size < W1.heap.size := by rw [hW1]; simp
      rw [← hW1]
      clear hW1 g0 g1 g2 g3 g4 g5 g6
      replace h := h.then hb1
      obtain ⟨c0, c1, c2, c3, c4, c5, c6⟩ := box7 hxb
      have hHX : Hid (W1.heap[wr.heap.size]? = some (.cells #[.int .u8 o, .int .i64 x.a, .int .i64 x.b, .int .u8 x.kd, .string x.s, .int .i64 x.n, .slice Au x.cs.length cu] 65 (0, 0))) := Lib.hid hxb
      clear hxb
      by_cases ho : o < 32
      · have hd : decide (32 ≤ (o : Int)) = false := by simp; omega
        have ho' : (o : Int) < 32 := by omega
        obtain ⟨e0, e1, e2, -⟩ := HTE.out o ho
        have t0 := h.xt _ _ e0
        have t1 := h.xt _ _ e1
        have t2 := h.xt _ _ e2
        clear e0 e1 e2
        have HO := Lib.hid (okN_c x l.length (.agg #[.int .u8 o, .int .i64 x.a, .int .i64 x.b, .int .u8 x.kd, .string x.s, .int .i64 x.n, .slice Au x.cs.length cu]) W1.drew _ ⟨_, by rw [hox], HS.out.below (hb1.drew)⟩ o ho hox)
        have eg := okN_enters o ho
        have HAR : Hid (okB x l.length = true → argB o = true → 1 ≤ x.n ∧ x.n ≤ 16) := Lib.hid (fun h1 h2 => okB_arg h1 (by rw [hox]; exact h2))
        have hd' : decide (32 ≤ (o : Int)) = false := hd
        rw [hd] at HG
        generalize okN o = g at t0 HO eg
        generalize okB x l.length = ov at HO HG HAR
        generalize partB o = pa at t2 HG
        generalize argB o = ar at t1 HG HAR
        clear hox HS
        cases ov with
        | false =>
          have HR33 : Hid (R = 33) := Lib.hid (HRF.out (by unfold checkA; rw [HG.out]; simp))
          clear HG HAR HRF
          refine wp_region_held_drew (S := (fun W => (W.cell? ⟨wr.heap.size, 0, none⟩ = some (.int .u8 o) ∧ W.cell? ⟨wr.heap.size, 1, none⟩ = some (.int .i64 x.a) ∧ W.cell? ⟨wr.heap.size, 2, none⟩ = some (.int .i64 x.b) ∧ W.cell? ⟨wr.heap.size, 3, none⟩ = some (.int .u8 x.kd) ∧ W.cell? ⟨wr.heap.size, 4, none⟩ = some (.string x.s) ∧ W.cell? ⟨wr.heap.size, 5, none⟩ = some (.int .i64 x.n) ∧ W.cell? ⟨wr.heap.size, 6, none⟩ = some (.slice Au x.cs.length cu)) ∧ W.cell? ⟨Bt, o * 4, none⟩ = some (.func (.func g) #[] #[]) ∧ W.cell? ⟨Bt, o * 4 + 2, none⟩ = some (.bool pa))) (by kernel_rfl) ?_ (fun hHeld => ?_)
          · exact ⟨⟨c0, c1, c2, c3, c4, c5, c6⟩, t0, t2⟩
          change wpAnyH _ .any _ _ _ 24 (Array.replicate 24 false) _ _
          refine wpAnyH_take (i := 0) (oi := ⟨some 23, _, _, _, _, _⟩) (v := ?_) rfl (by kernel_rfl) (by kernel_rfl) (by kernel_rfl) (fun _ _ _ h => h) (Or.inl ⟨by rfl, ?_⟩) (by assumption) ?_
          rotate_left
          · (intro w hSw; (try dsimp only at hSw); go_simp; try (with_reducible rfl))
          (try simp only [Act.put, List.setIfInBounds_toArray, List.set_cons_zero, List.set_cons_succ])
          refine wpAnyH_take (i := 1) (oi := ⟨some 24, _, _, _, _, _⟩) (v := ?_) rfl (by kernel_rfl) (by kernel_rfl) (by kernel_rfl) (fun _ _ _ h => h) (Or.inl ⟨by rfl, ?_⟩) (by assumption) ?_
          rotate_left
          · (intro w hSw; (try dsimp only at hSw); go_simp; try (with_reducible rfl))
          (try simp only [Act.put, List.setIfInBounds_toArray, List.set_cons_zero, List.set_cons_succ])
          refine wpAnyH_take (i := 2) (oi := ⟨some 25, _, _, _, _, _⟩) (v := ?_) rfl (by kernel_rfl) (by kernel_rfl) (by kernel_rfl) (fun _ _ _ h => h) (Or.inl ⟨by rfl, ?_⟩) (by assumption) ?_
          rotate_left
          · (intro w hSw; (try dsimp only at hSw); go_simp; try (with_reducible rfl))
          (try simp only [Act.put, List.setIfInBounds_toArray, List.set_cons_zero, List.set_cons_succ])
          (try simp only [hd])
          refine wpAnyH_take (i := 3) (oi := ⟨some 26, _, _, _, _, _⟩) (v := ?_) rfl (by kernel_rfl) (by kernel_rfl) (by kernel_rfl) (fun _ _ _ h => h) (Or.inl ⟨by rfl, ?_⟩) (by assumption) ?_
          rotate_left
          · (intro w hSw; (try dsimp only at hSw); go_simp; try (with_reducible rfl))
          (try simp only [Act.put, List.setIfInBounds_toArray, List.set_cons_zero, List.set_cons_succ])
          refine wpAnyH_take (i := 4) (oi := ⟨some 27, _, _, _, _, _⟩) (v := ?_) rfl (by kernel_rfl) (by kernel_rfl) (by kernel_rfl) (fun _ _ _ h => h) (Or.inl ⟨by rfl, ?_⟩) (by assumption) ?_
          rotate_left
          · (intro w hSw; (try dsimp only at hSw); go_simp; try (with_reducible rfl))
          (try simp only [Act.put, List.setIfInBounds_toArray, List.set_cons_zero, List.set_cons_succ])
          refine wpAnyH_take (i := 5) (oi := ⟨some 28, _, _, _, _, _⟩) (v := ?_) rfl (by kernel_rfl) (by kernel_rfl) (by kernel_rfl) (fun _ _ _ h => h) (Or.inl ⟨by rfl, ?_⟩) (by assumption) ?_
          rotate_left
          · (intro w hSw; (try dsimp only at hSw); go_simp; try (with_reducible rfl))
          (try simp only [Act.put, List.setIfInBounds_toArray, List.set_cons_zero, List.set_cons_succ])
          refine wpAnyH_take (i := 6) (oi := ⟨some 29, _, _, _, _, _⟩) (v := ?_) rfl (by kernel_rfl) (by kernel_rfl) (by kernel_rfl) (fun _ _ _ h => h) (Or.inl ⟨by rfl, ?_⟩) (by assumption) ?_
          rotate_left
          · (intro w hSw; (try dsimp only at hSw); go_simp; try (with_reducible rfl))
          (try simp only [Act.put, List.setIfInBounds_toArray, List.set_cons_zero, List.set_cons_succ])
          refine wpAnyH_take (i := 7) (oi := ⟨some 30, _, _, _, _, _⟩) (v := ?_) rfl (by kernel_rfl) (by kernel_rfl) (by kernel_rfl) (fun _ _ _ h => h) (Or.inl ⟨by rfl, ?_⟩) (by assumption) ?_
          rotate_left
          · (intro w hSw; (try dsimp only at hSw); go_simp; try (with_reducible rfl))
          (try simp only [Act.put, List.setIfInBounds_toArray, List.set_cons_zero, List.set_cons_succ])
          refine wpAnyH_take (i := 8) (oi := ⟨some 31, _, _, _, _, _⟩) (v := ?_) rfl (by kernel_rfl) (by kernel_rfl) (by kernel_rfl) (fun _ _ _ h => h) (Or.inl ⟨by rfl, ?_⟩) (by assumption) ?_
          rotate_left
          · (intro w hSw; (try dsimp only at hSw); go_simp; try (with_reducible rfl))
          (try simp only [Act.put, List.setIfInBounds_toArray, List.set_cons_zero, List.set_cons_succ])
          refine wpAnyH_take (i := 9) (oi := ⟨some 32, _, _, _, _, _⟩) (v := ?_) rfl (by kernel_rfl) (by kernel_rfl) (by kernel_rfl) (fun _ _ _ h => h) (Or.inl ⟨by rfl, ?_⟩) (by assumption) ?_
          rotate_left
          · (intro w hSw; (try dsimp only at hSw); go_simp; try (with_reducible rfl))
          (try simp only [Act.put, List.setIfInBounds_toArray, List.set_cons_zero, List.set_cons_succ])
          refine wpAnyH_take (i := 10) (oi := ⟨some 33, _, _, _, _, _⟩) (v := ?_) rfl (by kernel_rfl) (by kernel_rfl) (by kernel_rfl) (fun _ _ _ h => h) (Or.inl ⟨by rfl, ?_⟩) (by assumption) ?_
          rotate_left
          · (intro w hSw; (try dsimp only at hSw); go_simp; try (with_reducible rfl))
          (try simp only [Act.put, List.setIfInBounds_toArray, List.set_cons_zero, List.set_cons_succ])
          refine wpAnyH_ready (rs := [11]) (by kernel_rfl) (by simp) ?_
          refine AllReadyH.cons (o := ⟨some 34, _, _, _, _, _⟩) rfl (fun K hK => ?_) AllReadyH.nil
          go_simp
          go_at_fn g
          refine HO.out.mono ?_
          rintro e w4 ⟨rfl, hb4⟩
          go_wp2_with fail
          replace hb4 : Below W1.heap.size W1 w4 := below_then (Below.refl _ W1).drew (Nat.le_refl _) hb4
          refine hK.out _ _ ⟨⟨cell_below hb4 c0 (cell_lt c0), cell_below hb4 c1 (cell_lt c1), cell_below hb4 c2 (cell_lt c2), cell_below hb4 c3 (cell_lt c3), cell_below hb4 c4 (cell_lt c4), cell_below hb4 c5 (cell_lt c5), cell_below hb4 c6 (cell_lt c6)⟩, cell_below hb4 t0 (cell_lt t0), cell_below hb4 t2 (cell_lt t2)⟩ (fun hHeld => ?_)
          clear hK K
          (try simp only [Act.put, List.setIfInBounds_toArray, List.set_cons_zero, List.set_cons_succ])
          refine wpAnyH_take (i := 12) (oi := ⟨some 35, _, _, _, _, _⟩) (v := ?_) rfl (by kernel_rfl) (by kernel_rfl) (by kernel_rfl) (fun _ _ _ h => h) (Or.inl ⟨by rfl, ?_⟩) (by assumption) ?_
          rotate_left
          · (intro w hSw; (try dsimp only at hSw); go_simp; try (with_reducible rfl))
          (try simp only [Act.put, List.setIfInBounds_toArray, List.set_cons_zero, List.set_cons_succ])
          refine wpAnyH_take (i := 13) (oi := ⟨some 36, _, _, _, _, _⟩) (v := ?_) rfl (by kernel_rfl) (by kernel_rfl) (by kernel_rfl) (fun _ _ _ h => h) (Or.inl ⟨by rfl, ?_⟩) (by assumption) ?_
          rotate_left
          · (intro w hSw; (try dsimp only at hSw); go_simp; try (with_reducible rfl))
          (try simp only [Act.put, List.setIfInBounds_toArray, List.set_cons_zero, List.set_cons_succ])
          refine wpAnyH_take (i := 14) (oi := ⟨some 37, _, _, _, _, _⟩) (v := ?_) rfl (by kernel_rfl) (by kernel_rfl) (by kernel_rfl) (fun _ _ _ h => h) (Or.inl ⟨by rfl, ?_⟩) (by assumption) ?_
          rotate_left
          · (intro w hSw; (try dsimp only at hSw); go_simp; try (with_reducible rfl))
          (try simp only [Act.put, List.setIfInBounds_toArray, List.set_cons_zero, List.set_cons_succ])
          refine wpAnyH_take (i := 15) (oi := ⟨some 38, _, _, _, _, _⟩) rfl (by kernel_rfl) (by kernel_rfl) (by kernel_rfl) (fun _ _ _ h => h) (Or.inr ⟨by rfl, rfl⟩) (by assumption) ?_
          (try simp only [Act.put, List.setIfInBounds_toArray, List.set_cons_zero, List.set_cons_succ])
          refine wpAnyH_take (i := 16) (oi := ⟨some 39, _, _, _, _, _⟩) rfl (by kernel_rfl) (by kernel_rfl) (by kernel_rfl) (fun _ _ _ h => h) (Or.inr ⟨by rfl, rfl⟩) (by assumption) ?_
          (try simp only [Act.put, List.setIfInBounds_toArray, List.set_cons_zero, List.set_cons_succ])
          refine wpAnyH_take (i := 17) (oi := ⟨some 40, _, _, _, _, _⟩) rfl (by kernel_rfl) (by kernel_rfl) (by kernel_rfl) (fun _ _ _ h => h) (Or.inr ⟨by rfl, rfl⟩) (by assumption) ?_
          (try simp only [Act.put, List.setIfInBounds_toArray, List.set_cons_zero, List.set_cons_succ])
          refine wpAnyH_take (i := 18) (oi := ⟨some 41, _, _, _, _, _⟩) rfl (by kernel_rfl) (by kernel_rfl) (by kernel_rfl) (fun _ _ _ h => h) (Or.inr ⟨by rfl, rfl⟩) (by assumption) ?_
          (try simp only [Act.put, List.setIfInBounds_toArray, List.set_cons_zero, List.set_cons_succ])
          refine wpAnyH_take (i := 19) (oi := ⟨some 42, _, _, _, _, _⟩) rfl (by kernel_rfl) (by kernel_rfl) (by kernel_rfl) (fun _ _ _ h => h) (Or.inr ⟨by rfl, rfl⟩) (by assumption) ?_
          (try simp only [Act.put, List.setIfInBounds_toArray, List.set_cons_zero, List.set_cons_succ])
          refine wpAnyH_take (i := 20) (oi := ⟨some 43, _, _, _, _, _⟩) rfl (by kernel_rfl) (by kernel_rfl) (by kernel_rfl) (fun _ _ _ h => h) (Or.inr ⟨by rfl, rfl⟩) (by assumption) ?_
          (try simp only [Act.put, List.setIfInBounds_toArray, List.set_cons_zero, List.set_cons_succ])
          refine wpAnyH_take (i := 21) (oi := ⟨some 44, _, _, _, _, _⟩) rfl (by kernel_rfl) (by kernel_rfl) (by kernel_rfl) (fun _ _ _ h => h) (Or.inr ⟨by rfl, rfl⟩) (by assumption) ?_
          (try simp only [Act.put, List.setIfInBounds_toArray, List.set_cons_zero, List.set_cons_succ])
          refine wpAnyH_take (i := 22) (oi := ⟨some 45, _, _, _, _, _⟩) rfl (by kernel_rfl) (by kernel_rfl) (by kernel_rfl) (fun _ _ _ h => h) (Or.inr ⟨by rfl, rfl⟩) (by assumption) ?_
          (try simp only [Act.put, List.setIfInBounds_toArray, List.set_cons_zero, List.set_cons_succ])
          refine wpAnyH_take (i := 23) (oi := ⟨some 46, _, _, _, _, _⟩) (v := ?_) rfl (by kernel_rfl) (by kernel_rfl) (by kernel_rfl) (fun _ _ _ h => h) (Or.inl ⟨by rfl, ?_⟩) (by assumption) ?_
          rotate_left
          · (intro w hSw; (try dsimp only at hSw); go_simp; try (with_reducible rfl))
          (try simp only [Act.put, List.setIfInBounds_toArray, List.set_cons_zero, List.set_cons_succ])
          refine wpAnyH_done (by kernel_rfl) ?_ _
          go_wp2
          go_ret
          exact ⟨ret_int HR33.out.symm, below_then h.b0 h.b0.size hb4⟩
        | true =>
          by_cases hl0 : 0 < left
          · have hdl : decide (0 < left) = true := by simpa using hl0
            cases pa with
            | true =>
              have HG2 : Hid (goC l.length 0 l = goC l.length (if ar = true then x.n else max (left - 1) 0) (l.drop (j + 1))) := Lib.hid (by rw [HG.out, hdl]; simp)
              replace HAR := HAR.out rfl
              clear HG HRF
              refine wp_region_held_drew (S := (fun W => (W.cell? ⟨wr.heap.size, 0, none⟩ = some (.int .u8 o) ∧ W.cell? ⟨wr.heap.size, 1, none⟩ = some (.int .i64 x.a) ∧ W.cell? ⟨wr.heap.size, 2, none⟩ = some (.int .i64 x.b) ∧ W.cell? ⟨wr.heap.size, 3, none⟩ = some (.int .u8 x.kd) ∧ W.cell? ⟨wr.heap.size, 4, none⟩ = some (.string x.s) ∧ W.cell? ⟨wr.heap.size, 5, none⟩ = some (.int .i64 x.n) ∧ W.cell? ⟨wr.heap.size, 6, none⟩ = some (.slice Au x.cs.length cu)) ∧ W.cell? ⟨Bt, o * 4, none⟩ = some (.func (.func g) #[] #[]) ∧ W.cell? ⟨Bt, o * 4 + 2, none⟩ = some (.bool true))) (by kernel_rfl) ?_ (fun hHeld => ?_)
              · exact ⟨⟨c0, c1, c2, c3, c4, c5, c6⟩, t0, t2⟩
              change wpAnyH _ .any _ _ _ 24 (Array.replicate 24 false) _ _
              refine wpAnyH_take (i := 0) (oi := ⟨some 23, _, _, _, _, _⟩) (v := ?_) rfl (by kernel_rfl) (by kernel_rfl) (by kernel_rfl) (fun _ _ _ h => h) (Or.inl ⟨by rfl, ?_⟩) (by assumption) ?_
              rotate_left
              · (intro w hSw; (try dsimp only at hSw); go_simp; try (with_reducible rfl))
              (try simp only [Act.put, List.setIfInBounds_toArray, List.set_cons_zero, List.set_cons_succ])
              refine wpAnyH_take (i := 1) (oi := ⟨some 24, _, _, _, _, _⟩) (v := ?_) rfl (by kernel_rfl) (by kernel_rfl) (by kernel_rfl) (fun _ _ _ h => h) (Or.inl ⟨by rfl, ?_⟩) (by assumption) ?_
              rotate_left
              · (intro w hSw; (try dsimp only at hSw); go_simp; try (with_reducible rfl))
              (try simp only [Act.put, List.setIfInBounds_toArray, List.set_cons_zero, List.set_cons_succ])
              refine wpAnyH_take (i := 2) (oi := ⟨some 25, _, _, _, _, _⟩) (v := ?_) rfl (by kernel_rfl) (by kernel_rfl) (by kernel_rfl) (fun _ _ _ h => h) (Or.inl ⟨by rfl, ?_⟩) (by assumption) ?_
              rotate_left
              · (intro w hSw; (try dsimp only at hSw); go_simp; try (with_reducible rfl))
              (try simp only [Act.put, List.setIfInBounds_toArray, List.set_cons_zero, List.set_cons_succ])
              (try simp only [hd])
              refine wpAnyH_take (i := 3) (oi := ⟨some 26, _, _, _, _, _⟩) (v := ?_) rfl (by kernel_rfl) (by kernel_rfl) (by kernel_rfl) (fun _ _ _ h => h) (Or.inl ⟨by rfl, ?_⟩) (by assumption) ?_
              rotate_left
              · (intro w hSw; (try dsimp only at hSw); go_simp; try (with_reducible rfl))
              (try simp only [Act.put, List.setIfInBounds_toArray, List.set_cons_zero, List.set_cons_succ])
              refine wpAnyH_take (i := 4) (oi := ⟨some 27, _, _, _, _, _⟩) (v := ?_) rfl (by kernel_rfl) (by kernel_rfl) (by kernel_rfl) (fun _ _ _ h => h) (Or.inl ⟨by rfl, ?_⟩) (by assumption) ?_
              rotate_left
              · (intro w hSw; (try dsimp only at hSw); go_simp; try (with_reducible rfl))
              (try simp only [Act.put, List.setIfInBounds_toArray, List.set_cons_zero, List.set_cons_succ])
              refine wpAnyH_take (i := 5) (oi := ⟨some 28, _, _, _, _, _⟩) (v := ?_) rfl (by kernel_rfl) (by kernel_rfl) (by kernel_rfl) (fun _ _ _ h => h) (Or.inl ⟨by rfl, ?_⟩) (by assumption) ?_
              rotate_left
              · (intro w hSw; (try dsimp only at hSw); go_simp; try (with_reducible rfl))
              (try simp only [Act.put, List.setIfInBounds_toArray, List.set_cons_zero, List.set_cons_succ])
              refine wpAnyH_take (i := 6) (oi := ⟨some 29, _, _, _, _, _⟩) (v := ?_) rfl (by kernel_rfl) (by kernel_rfl) (by kernel_rfl) (fun _ _ _ h => h) (Or.inl ⟨by rfl, ?_⟩) (by assumption) ?_
              rotate_left
              · (intro w hSw; (try dsimp only at hSw); go_simp; try (with_reducible rfl))
              (try simp only [Act.put, List.setIfInBounds_toArray, List.set_cons_zero, List.set_cons_succ])
              refine wpAnyH_take (i := 7) (oi := ⟨some 30, _, _, _, _, _⟩) (v := ?_) rfl (by kernel_rfl) (by kernel_rfl) (by kernel_rfl) (fun _ _ _ h => h) (Or.inl ⟨by rfl, ?_⟩) (by assumption) ?_
              rotate_left
              · (intro w hSw; (try dsimp only at hSw); go_simp; try (with_reducible rfl))
              (try simp only [Act.put, List.setIfInBounds_toArray, List.set_cons_zero, List.set_cons_succ])
              refine wpAnyH_take (i := 8) (oi := ⟨some 31, _, _, _, _, _⟩) (v := ?_) rfl (by kernel_rfl) (by kernel_rfl) (by kernel_rfl) (fun _ _ _ h => h) (Or.inl ⟨by rfl, ?_⟩) (by assumption) ?_
              rotate_left
              · (intro w hSw; (try dsimp only at hSw); go_simp; try (with_reducible rfl))
              (try simp only [Act.put, List.setIfInBounds_toArray, List.set_cons_zero, List.set_cons_succ])
              refine wpAnyH_take (i := 9) (oi := ⟨some 32, _, _, _, _, _⟩) (v := ?_) rfl (by kernel_rfl) (by kernel_rfl) (by kernel_rfl) (fun _ _ _ h => h) (Or.inl ⟨by rfl, ?_⟩) (by assumption) ?_
              rotate_left
              · (intro w hSw; (try dsimp only at hSw); go_simp; try (with_reducible rfl))
              (try simp only [Act.put, List.setIfInBounds_toArray, List.set_cons_zero, List.set_cons_succ])
              refine wpAnyH_take (i := 10) (oi := ⟨some 33, _, _, _, _, _⟩) (v := ?_) rfl (by kernel_rfl) (by kernel_rfl) (by kernel_rfl) (fun _ _ _ h => h) (Or.inl ⟨by rfl, ?_⟩) (by assumption) ?_
              rotate_left
              · (intro w hSw; (try dsimp only at hSw); go_simp; try (with_reducible rfl))
              (try simp only [Act.put, List.setIfInBounds_toArray, List.set_cons_zero, List.set_cons_succ])
              refine wpAnyH_ready (rs := [11]) (by kernel_rfl) (by simp) ?_
              refine AllReadyH.cons (o := ⟨some 34, _, _, _, _, _⟩) rfl (fun K hK => ?_) AllReadyH.nil
              go_simp
              go_at_fn g
              refine HO.out.mono ?_
              rintro e w4 ⟨rfl, hb4⟩
              go_wp2_with fail
              replace hb4 : Below W1.heap.size W1 w4 := below_then (Below.refl _ W1).drew (Nat.le_refl _) hb4
              refine hK.out _ _ ⟨⟨cell_below hb4 c0 (cell_lt c0), cell_below hb4 c1 (cell_lt c1), cell_below hb4 c2 (cell_lt c2), cell_below hb4 c3 (cell_lt c3), cell_below hb4 c4 (cell_lt c4), cell_below hb4 c5 (cell_lt c5), cell_below hb4 c6 (cell_lt c6)⟩, cell_below hb4 t0 (cell_lt t0), cell_below hb4 t2 (cell_lt t2)⟩ (fun hHeld => ?_)
              clear hK K
              (try simp only [Act.put, List.setIfInBounds_toArray, List.set_cons_zero, List.set_cons_succ])
              refine wpAnyH_take (i := 12) (oi := ⟨some 35, _, _, _, _, _⟩) (v := ?_) rfl (by kernel_rfl) (by kernel_rfl) (by kernel_rfl) (fun _ _ _ h => h) (Or.inl ⟨by rfl, ?_⟩) (by assumption) ?_
              rotate_left
              · (intro w hSw; (try dsimp only at hSw); go_simp; try (with_reducible rfl))
              (try simp only [Act.put, List.setIfInBounds_toArray, List.set_cons_zero, List.set_cons_succ])
              refine wpAnyH_take (i := 13) (oi := ⟨some 36, _, _, _, _, _⟩) (v := ?_) rfl (by kernel_rfl) (by kernel_rfl) (by kernel_rfl) (fun _ _ _ h => h) (Or.inl ⟨by rfl, ?_⟩) (by assumption) ?_
              rotate_left
              · (intro w hSw; (try dsimp only at hSw); go_simp; try (with_reducible rfl))
              (try simp only [Act.put, List.setIfInBounds_toArray, List.set_cons_zero, List.set_cons_succ])
              refine wpAnyH_take (i := 14) (oi := ⟨some 37, _, _, _, _, _⟩) (v := ?_) rfl (by kernel_rfl) (by kernel_rfl) (by kernel_rfl) (fun _ _ _ h => h) (Or.inl ⟨by rfl, ?_⟩) (by assumption) ?_
              rotate_left
              · (intro w hSw; (try dsimp only at hSw); go_simp; try (with_reducible rfl))
              (try simp only [Act.put, List.setIfInBounds_toArray, List.set_cons_zero, List.set_cons_succ])
              refine wpAnyH_take (i := 15) (oi := ⟨some 38, _, _, _, _, _⟩) (v := ?_) rfl (by kernel_rfl) (by kernel_rfl) (by kernel_rfl) (fun _ _ _ h => h) (Or.inl ⟨by rfl, ?_⟩) (by assumption) ?_
              rotate_left
              · (intro w hSw; (try dsimp only at hSw); go_simp; try (with_reducible rfl))
              (try simp only [Act.put, List.setIfInBounds_toArray, List.set_cons_zero, List.set_cons_succ])
              refine wpAnyH_take (i := 16) (oi := ⟨some 39, _, _, _, _, _⟩) (v := ?_) rfl (by kernel_rfl) (by kernel_rfl) (by kernel_rfl) (fun _ _ _ h => h) (Or.inl ⟨by rfl, ?_⟩) (by assumption) ?_
              rotate_left
              · (intro w hSw; (try dsimp only at hSw); go_simp; try (with_reducible rfl))
              (try simp only [Act.put, List.setIfInBounds_toArray, List.set_cons_zero, List.set_cons_succ])
              refine wpAnyH_take (i := 17) (oi := ⟨some 40, _, _, _, _, _⟩) (v := ?_) rfl (by kernel_rfl) (by kernel_rfl) (by kernel_rfl) (fun _ _ _ h => h) (Or.inl ⟨by rfl, ?_⟩) (by assumption) ?_
              rotate_left
              · (intro w hSw; (try dsimp only at hSw); go_simp; try (with_reducible rfl))
              (try simp only [Act.put, List.setIfInBounds_toArray, List.set_cons_zero, List.set_cons_succ])
              refine wpAnyH_take (i := 18) (oi := ⟨some 41, _, _, _, _, _⟩) (v := ?_) rfl (by kernel_rfl) (by kernel_rfl) (by kernel_rfl) (fun _ _ _ h => h) (Or.inl ⟨by rfl, ?_⟩) (by assumption) ?_
              rotate_left
              · (intro w hSw; (try dsimp only at hSw); go_simp; try (with_reducible rfl))
              (try simp only [Act.put, List.setIfInBounds_toArray, List.set_cons_zero, List.set_cons_succ])
              refine wpAnyH_take (i := 19) (oi := ⟨some 42, _, _, _, _, _⟩) (v := ?_) rfl (by kernel_rfl) (by kernel_rfl) (by kernel_rfl) (fun _ _ _ h => h) (Or.inl ⟨by rfl, ?_⟩) (by assumption) ?_
              rotate_left
              · (intro w hSw; (try dsimp only at hSw); go_simp; try (with_reducible rfl))
              (try simp only [Act.put, List.setIfInBounds_toArray, List.set_cons_zero, List.set_cons_succ])
              refine wpAnyH_take (i := 20) (oi := ⟨some 43, _, _, _, _, _⟩) (v := ?_) rfl (by kernel_rfl) (by kernel_rfl) (by kernel_rfl) (fun _ _ _ h => h) (Or.inl ⟨by rfl, ?_⟩) (by assumption) ?_
              rotate_left
              · (intro w hSw; (try dsimp only at hSw); go_simp; try (with_reducible rfl))
              (try simp only [Act.put, List.setIfInBounds_toArray, List.set_cons_zero, List.set_cons_succ])
              refine wpAnyH_take (i := 21) (oi := ⟨some 44, _, _, _, _, _⟩) (v := ?_) rfl (by kernel_rfl) (by kernel_rfl) (by kernel_rfl) (fun _ _ _ h => h) (Or.inl ⟨by rfl, ?_⟩) (by assumption) ?_
              rotate_left
              · (intro w hSw; (try dsimp only at hSw); go_simp; try (with_reducible rfl))
              (try simp only [Act.put, List.setIfInBounds_toArray, List.set_cons_zero, List.set_cons_succ])
              (try simp only [hdl])
              refine wpAnyH_take (i := 22) (oi := ⟨some 45, _, _, _, _, _⟩) (v := ?_) rfl (by kernel_rfl) (by kernel_rfl) (by kernel_rfl) (fun _ _ _ h => h) (Or.inl ⟨by rfl, ?_⟩) (by assumption) ?_
              rotate_left
              · (intro w hSw; (try dsimp only at hSw); go_simp; try (with_reducible rfl))
              (try simp only [Act.put, List.setIfInBounds_toArray, List.set_cons_zero, List.set_cons_succ])
              refine wpAnyH_take (i := 23) (oi := ⟨some 46, _, _, _, _, _⟩) (v := ?_) rfl (by kernel_rfl) (by kernel_rfl) (by kernel_rfl) (fun _ _ _ h => h) (Or.inl ⟨by rfl, ?_⟩) (by assumption) ?_
              rotate_left
              · (intro w hSw; (try dsimp only at hSw); go_simp; try (with_reducible rfl))
              (try simp only [Act.put, List.setIfInBounds_toArray, List.set_cons_zero, List.set_cons_succ])
              refine wpAnyH_done (by kernel_rfl) ?_ _
              have h5 := h.then hb4
              have hH5 := block_below hb4 hz1 hHX.out
              have hz5 := Nat.lt_of_lt_of_le hz1 hb4.size
              have s1 := cell_below hb4 t1 (cell_lt t1)
              obtain ⟨d0, d1, d2, d3, d4, d5, d6⟩ := box7 hH5
              have hwl : IntKind.i64.wrap (left - 1) = left - 1 := by rw [IntKind.wrap_i64]; omega
              clear c0 c1 c2 c3 c4 c5 c6 t0 t1 t2 hH5 HO
              cases ar with
              | true =>
                have har := HAR rfl
                go_wp2
                go_roundw
                case rel => exact ⟨j + 1, x.n, by omega, by go_num, rfl, by omega, Lib.hid (by rw [HG2.out]; simp), h5⟩
                case measure => simp [intOf]; omega
              | false =>
                clear HAR
                go_wp2
                go_roundw
                case rel => exact ⟨j + 1, left - 1, by omega, by go_num, rfl, by omega, Lib.hid (by rw [HG2.out, if_neg (by simp), show max (left - 1) 0 = left - 1 by omega]), h5⟩
                case measure => simp [intOf]; omega
            | false =>
              have HR33 : Hid (R = 33) := Lib.hid (HRF.out (by unfold checkA; rw [HG.out, hdl]; simp))
              clear HG HAR HRF
              refine wp_region_held_drew (S := (fun W => (W.cell? ⟨wr.heap.size, 0, none⟩ = some (.int .u8 o) ∧ W.cell? ⟨wr.heap.size, 1, none⟩ = some (.int .i64 x.a) ∧ W.cell? ⟨wr.heap.size, 2, none⟩ = some (.int .i64 x.b) ∧ W.cell? ⟨wr.heap.size, 3, none⟩ = some (.int .u8 x.kd) ∧ W.cell? ⟨wr.heap.size, 4, none⟩ = some (.string x.s) ∧ W.cell? ⟨wr.heap.size, 5, none⟩ = some (.int .i64 x.n) ∧ W.cell? ⟨wr.heap.size, 6, none⟩ = some (.slice Au x.cs.length cu)) ∧ W.cell? ⟨Bt, o * 4, none⟩ = some (.func (.func g) #[] #[]) ∧ W.cell? ⟨Bt, o * 4 + 2, none⟩ = some (.bool false))) (by kernel_rfl) ?_ (fun hHeld => ?_)
              · exact ⟨⟨c0, c1, c2, c3, c4, c5, c6⟩, t0, t2⟩
              change wpAnyH _ .any _ _ _ 24 (Array.replicate 24 false) _ _
              refine wpAnyH_take (i := 0) (oi := ⟨some 23, _, _, _, _, _⟩) (v := ?_) rfl (by kernel_rfl) (by kernel_rfl) (by kernel_rfl) (fun _ _ _ h => h) (Or.inl ⟨by rfl, ?_⟩) (by assumption) ?_
              rotate_left
              · (intro w hSw; (try dsimp only at hSw); go_simp; try (with_reducible rfl))
              (try simp only [Act.put, List.setIfInBounds_toArray, List.set_cons_zero, List.set_cons_succ])
              refine wpAnyH_take (i := 1) (oi := ⟨some 24, _, _, _, _, _⟩) (v := ?_) rfl (by kernel_rfl) (by kernel_rfl) (by kernel_rfl) (fun _ _ _ h => h) (Or.inl ⟨by rfl, ?_⟩) (by assumption) ?_
              rotate_left
              · (intro w hSw; (try dsimp only at hSw); go_simp; try (with_reducible rfl))
              (try simp only [Act.put, List.setIfInBounds_toArray, List.set_cons_zero, List.set_cons_succ])
              refine wpAnyH_take (i := 2) (oi := ⟨some 25, _, _, _, _, _⟩) (v := ?_) rfl (by kernel_rfl) (by kernel_rfl) (by kernel_rfl) (fun _ _ _ h => h) (Or.inl ⟨by rfl, ?_⟩) (by assumption) ?_
              rotate_left
              · (intro w hSw; (try dsimp only at hSw); go_simp; try (with_reducible rfl))
              (try simp only [Act.put, List.setIfInBounds_toArray, List.set_cons_zero, List.set_cons_succ])
              (try simp only [hd])
              refine wpAnyH_take (i := 3) (oi := ⟨some 26, _, _, _, _, _⟩) (v := ?_) rfl (by kernel_rfl) (by kernel_rfl) (by kernel_rfl) (fun _ _ _ h => h) (Or.inl ⟨by rfl, ?_⟩) (by assumption) ?_
              rotate_left
              · (intro w hSw; (try dsimp only at hSw); go_simp; try (with_reducible rfl))
              (try simp only [Act.put, List.setIfInBounds_toArray, List.set_cons_zero, List.set_cons_succ])
              refine wpAnyH_take (i := 4) (oi := ⟨some 27, _, _, _, _, _⟩) (v := ?_) rfl (by kernel_rfl) (by kernel_rfl) (by kernel_rfl) (fun _ _ _ h => h) (Or.inl ⟨by rfl, ?_⟩) (by assumption) ?_
              rotate_left
              · (intro w hSw; (try dsimp only at hSw); go_simp; try (with_reducible rfl))
              (try simp only [Act.put, List.setIfInBounds_toArray, List.set_cons_zero, List.set_cons_succ])
              refine wpAnyH_take (i := 5) (oi := ⟨some 28, _, _, _, _, _⟩) (v := ?_) rfl (by kernel_rfl) (by kernel_rfl) (by kernel_rfl) (fun _ _ _ h => h) (Or.inl ⟨by rfl, ?_⟩) (by assumption) ?_
              rotate_left
              · (intro w hSw; (try dsimp only at hSw); go_simp; try (with_reducible rfl))
              (try simp only [Act.put, List.setIfInBounds_toArray, List.set_cons_zero, List.set_cons_succ])
              refine wpAnyH_take (i := 6) (oi := ⟨some 29, _, _, _, _, _⟩) (v := ?_) rfl (by kernel_rfl) (by kernel_rfl) (by kernel_rfl) (fun _ _ _ h => h) (Or.inl ⟨by rfl, ?_⟩) (by assumption) ?_
              rotate_left
              · (intro w hSw; (try dsimp only at hSw); go_simp; try (with_reducible rfl))
              (try simp only [Act.put, List.setIfInBounds_toArray, List.set_cons_zero, List.set_cons_succ])
              refine wpAnyH_take (i := 7) (oi := ⟨some 30, _, _, _, _, _⟩) (v := ?_) rfl (by kernel_rfl) (by kernel_rfl) (by kernel_rfl) (fun _ _ _ h => h) (Or.inl ⟨by rfl, ?_⟩) (by assumption) ?_
              rotate_left
              · (intro w hSw; (try dsimp only at hSw); go_simp; try (with_reducible rfl))
              (try simp only [Act.put, List.setIfInBounds_toArray, List.set_cons_zero, List.set_cons_succ])
              refine wpAnyH_take (i := 8) (oi := ⟨some 31, _, _, _, _, _⟩) (v := ?_) rfl (by kernel_rfl) (by kernel_rfl) (by kernel_rfl) (fun _ _ _ h => h) (Or.inl ⟨by rfl, ?_⟩) (by assumption) ?_
              rotate_left
              · (intro w hSw; (try dsimp only at hSw); go_simp; try (with_reducible rfl))
              (try simp only [Act.put, List.setIfInBounds_toArray, List.set_cons_zero, List.set_cons_succ])
              refine wpAnyH_take (i := 9) (oi := ⟨some 32, _, _, _, _, _⟩) (v := ?_) rfl (by kernel_rfl) (by kernel_rfl) (by kernel_rfl) (fun _ _ _ h => h) (Or.inl ⟨by rfl, ?_⟩) (by assumption) ?_
              rotate_left
              · (intro w hSw; (try dsimp only at hSw); go_simp; try (with_reducible rfl))
              (try simp only [Act.put, List.setIfInBounds_toArray, List.set_cons_zero, List.set_cons_succ])
              refine wpAnyH_take (i := 10) (oi := ⟨some 33, _, _, _, _, _⟩) (v := ?_) rfl (by kernel_rfl) (by kernel_rfl) (by kernel_rfl) (fun _ _ _ h => h) (Or.inl ⟨by rfl, ?_⟩) (by assumption) ?_
              rotate_left
              · (intro w hSw; (try dsimp only at hSw); go_simp; try (with_reducible rfl))
              (try simp only [Act.put, List.setIfInBounds_toArray, List.set_cons_zero, List.set_cons_succ])
              refine wpAnyH_ready (rs := [11]) (by kernel_rfl) (by simp) ?_
              refine AllReadyH.cons (o := ⟨some 34, _, _, _, _, _⟩) rfl (fun K hK => ?_) AllReadyH.nil
              go_simp
              go_at_fn g
              refine HO.out.mono ?_
              rintro e w4 ⟨rfl, hb4⟩
              go_wp2_with fail
              replace hb4 : Below W1.heap.size W1 w4 := below_then (Below.refl _ W1).drew (Nat.le_refl _) hb4
              refine hK.out _ _ ⟨⟨cell_below hb4 c0 (cell_lt c0), cell_below hb4 c1 (cell_lt c1), cell_below hb4 c2 (cell_lt c2), cell_below hb4 c3 (cell_lt c3), cell_below hb4 c4 (cell_lt c4), cell_below hb4 c5 (cell_lt c5), cell_below hb4 c6 (cell_lt c6)⟩, cell_below hb4 t0 (cell_lt t0), cell_below hb4 t2 (cell_lt t2)⟩ (fun hHeld => ?_)
              clear hK K
              (try simp only [Act.put, List.setIfInBounds_toArray, List.set_cons_zero, List.set_cons_succ])
              refine wpAnyH_take (i := 12) (oi := ⟨some 35, _, _, _, _, _⟩) (v := ?_) rfl (by kernel_rfl) (by kernel_rfl) (by kernel_rfl) (fun _ _ _ h => h) (Or.inl ⟨by rfl, ?_⟩) (by assumption) ?_
              rotate_left
              · (intro w hSw; (try dsimp only at hSw); go_simp; try (with_reducible rfl))
              (try simp only [Act.put, List.setIfInBounds_toArray, List.set_cons_zero, List.set_cons_succ])
              refine wpAnyH_take (i := 13) (oi := ⟨some 36, _, _, _, _, _⟩) (v := ?_) rfl (by kernel_rfl) (by kernel_rfl) (by kernel_rfl) (fun _ _ _ h => h) (Or.inl ⟨by rfl, ?_⟩) (by assumption) ?_
              rotate_left
              · (intro w hSw; (try dsimp only at hSw); go_simp; try (with_reducible rfl))
              (try simp only [Act.put, List.setIfInBounds_toArray, List.set_cons_zero, List.set_cons_succ])
              refine wpAnyH_take (i := 14) (oi := ⟨some 37, _, _, _, _, _⟩) (v := ?_) rfl (by kernel_rfl) (by kernel_rfl) (by kernel_rfl) (fun _ _ _ h => h) (Or.inl ⟨by rfl, ?_⟩) (by assumption) ?_
              rotate_left
              · (intro w hSw; (try dsimp only at hSw); go_simp; try (with_reducible rfl))
              (try simp only [Act.put, List.setIfInBounds_toArray, List.set_cons_zero, List.set_cons_succ])
              refine wpAnyH_take (i := 15) (oi := ⟨some 38, _, _, _, _, _⟩) (v := ?_) rfl (by kernel_rfl) (by kernel_rfl) (by kernel_rfl) (fun _ _ _ h => h) (Or.inl ⟨by rfl, ?_⟩) (by assumption) ?_
              rotate_left
              · (intro w hSw; (try dsimp only at hSw); go_simp; try (with_reducible rfl))
              (try simp only [Act.put, List.setIfInBounds_toArray, List.set_cons_zero, List.set_cons_succ])
              refine wpAnyH_take (i := 16) (oi := ⟨some 39, _, _, _, _, _⟩) (v := ?_) rfl (by kernel_rfl) (by kernel_rfl) (by kernel_rfl) (fun _ _ _ h => h) (Or.inl ⟨by rfl, ?_⟩) (by assumption) ?_
              rotate_left
              · (intro w hSw; (try dsimp only at hSw); go_simp; try (with_reducible rfl))
              (try simp only [Act.put, List.setIfInBounds_toArray, List.set_cons_zero, List.set_cons_succ])
              refine wpAnyH_take (i := 17) (oi := ⟨some 40, _, _, _, _, _⟩) (v := ?_) rfl (by kernel_rfl) (by kernel_rfl) (by kernel_rfl) (fun _ _ _ h => h) (Or.inl ⟨by rfl, ?_⟩) (by assumption) ?_
              rotate_left
              · (intro w hSw; (try dsimp only at hSw); go_simp; try (with_reducible rfl))
              (try simp only [Act.put, List.setIfInBounds_toArray, List.set_cons_zero, List.set_cons_succ])
              refine wpAnyH_take (i := 18) (oi := ⟨some 41, _, _, _, _, _⟩) (v := ?_) rfl (by kernel_rfl) (by kernel_rfl) (by kernel_rfl) (fun _ _ _ h => h) (Or.inl ⟨by rfl, ?_⟩) (by assumption) ?_
              rotate_left
              · (intro w hSw; (try dsimp only at hSw); go_simp; try (with_reducible rfl))
              (try simp only [Act.put, List.setIfInBounds_toArray, List.set_cons_zero, List.set_cons_succ])
              refine wpAnyH_take (i := 19) (oi := ⟨some 42, _, _, _, _, _⟩) (v := ?_) rfl (by kernel_rfl) (by kernel_rfl) (by kernel_rfl) (fun _ _ _ h => h) (Or.inl ⟨by rfl, ?_⟩) (by assumption) ?_
              rotate_left
              · (intro w hSw; (try dsimp only at hSw); go_simp; try (with_reducible rfl))
              (try simp only [Act.put, List.setIfInBounds_toArray, List.set_cons_zero, List.set_cons_succ])
              refine wpAnyH_take (i := 20) (oi := ⟨some 43, _, _, _, _, _⟩) (v := ?_) rfl (by kernel_rfl) (by kernel_rfl) (by kernel_rfl) (fun _ _ _ h => h) (Or.inl ⟨by rfl, ?_⟩) (by assumption) ?_
              rotate_left
              · (intro w hSw; (try dsimp only at hSw); go_simp; try (with_reducible rfl))
              (try simp only [Act.put, List.setIfInBounds_toArray, List.set_cons_zero, List.set_cons_succ])
              refine wpAnyH_take (i := 21) (oi := ⟨some 44, _, _, _, _, _⟩) (v := ?_) rfl (by kernel_rfl) (by kernel_rfl) (by kernel_rfl) (fun _ _ _ h => h) (Or.inl ⟨by rfl, ?_⟩) (by assumption) ?_
              rotate_left
              · (intro w hSw; (try dsimp only at hSw); go_simp; try (with_reducible rfl))
              (try simp only [Act.put, List.setIfInBounds_toArray, List.set_cons_zero, List.set_cons_succ])
              (try simp only [hdl])
              refine wpAnyH_take (i := 22) (oi := ⟨some 45, _, _, _, _, _⟩) (v := ?_) rfl (by kernel_rfl) (by kernel_rfl) (by kernel_rfl) (fun _ _ _ h => h) (Or.inl ⟨by rfl, ?_⟩) (by assumption) ?_
              rotate_left
              · (intro w hSw; (try dsimp only at hSw); go_simp; try (with_reducible rfl))
              (try simp only [Act.put, List.setIfInBounds_toArray, List.set_cons_zero, List.set_cons_succ])
              refine wpAnyH_take (i := 23) (oi := ⟨some 46, _, _, _, _, _⟩) (v := ?_) rfl (by kernel_rfl) (by kernel_rfl) (by kernel_rfl) (fun _ _ _ h => h) (Or.inl ⟨by rfl, ?_⟩) (by assumption) ?_
              rotate_left
              · (intro w hSw; (try dsimp only at hSw); go_simp; try (with_reducible rfl))
              (try simp only [Act.put, List.setIfInBounds_toArray, List.set_cons_zero, List.set_cons_succ])
              refine wpAnyH_done (by kernel_rfl) ?_ _
              go_wp2
              go_ret
              exact ⟨ret_int HR33.out.symm, below_then h.b0 h.b0.size hb4⟩
          · have hdl : decide (0 < left) = false := by simpa using hl0
            cases pa with
            | false =>
              have HG2 : Hid (goC l.length 0 l = goC l.length (if ar = true then x.n else max (left - 1) 0) (l.drop (j + 1))) := Lib.hid (by rw [HG.out, hdl]; simp)
              replace HAR := HAR.out rfl
              clear HG HRF
              refine wp_region_held_drew (S := (fun W => (W.cell? ⟨wr.heap.size, 0, none⟩ = some (.int .u8 o) ∧ W.cell? ⟨wr.heap.size, 1, none⟩ = some (.int .i64 x.a) ∧ W.cell? ⟨wr.heap.size, 2, none⟩ = some (.int .i64 x.b) ∧ W.cell? ⟨wr.heap.size, 3, none⟩ = some (.int .u8 x.kd) ∧ W.cell? ⟨wr.heap.size, 4, none⟩ = some (.string x.s) ∧ W.cell? ⟨wr.heap.size, 5, none⟩ = some (.int .i64 x.n) ∧ W.cell? ⟨wr.heap.size, 6, none⟩ = some (.slice Au x.cs.length cu)) ∧ W.cell? ⟨Bt, o * 4, none⟩ = some (.func (.func g) #[] #[]) ∧ W.cell? ⟨Bt, o * 4 + 2, none⟩ = some (.bool false))) (by kernel_rfl) ?_ (fun hHeld => ?_)
              · exact ⟨⟨c0, c1, c2, c3, c4, c5, c6⟩, t0, t2⟩
              change wpAnyH _ .any _ _ _ 24 (Array.replicate 24 false) _ _
              refine wpAnyH_take (i := 0) (oi := ⟨some 23, _, _, _, _, _⟩) (v := ?_) rfl (by kernel_rfl) (by kernel_rfl) (by kernel_rfl) (fun _ _ _ h => h) (Or.inl ⟨by rfl, ?_⟩) (by assumption) ?_
              rotate_left
              · (intro w hSw; (try dsimp only at hSw); go_simp; try (with_reducible rfl))
              (try simp only [Act.put, List.setIfInBounds_toArray, List.set_cons_zero, List.set_cons_succ])
              refine wpAnyH_take (i := 1) (oi := ⟨some 24, _, _, _, _, _⟩) (v := ?_) rfl (by kernel_rfl) (by kernel_rfl) (by kernel_rfl) (fun _ _ _ h => h) (Or.inl ⟨by rfl, ?_⟩) (by assumption) ?_
              rotate_left
              · (intro w hSw; (try dsimp only at hSw); go_simp; try (with_reducible rfl))
              (try simp only [Act.put, List.setIfInBounds_toArray, List.set_cons_zero, List.set_cons_succ])
              refine wpAnyH_take (i := 2) (oi := ⟨some 25, _, _, _, _, _⟩) (v := ?_) rfl (by kernel_rfl) (by kernel_rfl) (by kernel_rfl) (fun _ _ _ h => h) (Or.inl ⟨by rfl, ?_⟩) (by assumption) ?_
              rotate_left
              · (intro w hSw; (try dsimp only at hSw); go_simp; try (with_reducible rfl))
              (try simp only [Act.put, List.setIfInBounds_toArray, List.set_cons_zero, List.set_cons_succ])
              (try simp only [hd])
              refine wpAnyH_take (i := 3) (oi := ⟨some 26, _, _, _, _, _⟩) (v := ?_) rfl (by kernel_rfl) (by kernel_rfl) (by kernel_rfl) (fun _ _ _ h => h) (Or.inl ⟨by rfl, ?_⟩) (by assumption) ?_
              rotate_left
              · (intro w hSw; (try dsimp only at hSw); go_simp; try (with_reducible rfl))
              (try simp only [Act.put, List.setIfInBounds_toArray, List.set_cons_zero, List.set_cons_succ])
              refine wpAnyH_take (i := 4) (oi := ⟨some 27, _, _, _, _, _⟩) (v := ?_) rfl (by kernel_rfl) (by kernel_rfl) (by kernel_rfl) (fun _ _ _ h => h) (Or.inl ⟨by rfl, ?_⟩) (by assumption) ?_
              rotate_left
              · (intro w hSw; (try dsimp only at hSw); go_simp; try (with_reducible rfl))
              (try simp only [Act.put, List.setIfInBounds_toArray, List.set_cons_zero, List.set_cons_succ])
              refine wpAnyH_take (i := 5) (oi := ⟨some 28, _, _, _, _, _⟩) (v := ?_) rfl (by kernel_rfl) (by kernel_rfl) (by kernel_rfl) (fun _ _ _ h => h) (Or.inl ⟨by rfl, ?_⟩) (by assumption) ?_
              rotate_left
              · (intro w hSw; (try dsimp only at hSw); go_simp; try (with_reducible rfl))
              (try simp only [Act.put, List.setIfInBounds_toArray, List.set_cons_zero, List.set_cons_succ])
              refine wpAnyH_take (i := 6) (oi := ⟨some 29, _, _, _, _, _⟩) (v := ?_) rfl (by kernel_rfl) (by kernel_rfl) (by kernel_rfl) (fun _ _ _ h => h) (Or.inl ⟨by rfl, ?_⟩) (by assumption) ?_
              rotate_left
              · (intro w hSw; (try dsimp only at hSw); go_simp; try (with_reducible rfl))
              (try simp only [Act.put, List.setIfInBounds_toArray, List.set_cons_zero, List.set_cons_succ])
              refine wpAnyH_take (i := 7) (oi := ⟨some 30, _, _, _, _, _⟩) (v := ?_) rfl (by kernel_rfl) (by kernel_rfl) (by kernel_rfl) (fun _ _ _ h => h) (Or.inl ⟨by rfl, ?_⟩) (by assumption) ?_
              rotate_left
              · (intro w hSw; (try dsimp only at hSw); go_simp; try (with_reducible rfl))
              (try simp only [Act.put, List.setIfInBounds_toArray, List.set_cons_zero, List.set_cons_succ])
              refine wpAnyH_take (i := 8) (oi := ⟨some 31, _, _, _, _, _⟩) (v := ?_) rfl (by kernel_rfl) (by kernel_rfl) (by kernel_rfl) (fun _ _ _ h => h) (Or.inl ⟨by rfl, ?_⟩) (by assumption) ?_
              rotate_left
              · (intro w hSw; (try dsimp only at hSw); go_simp; try (with_reducible rfl))
              (try simp only [Act.put, List.setIfInBounds_toArray, List.set_cons_zero, List.set_cons_succ])
              refine wpAnyH_take (i := 9) (oi := ⟨some 32, _, _, _, _, _⟩) (v := ?_) rfl (by kernel_rfl) (by kernel_rfl) (by kernel_rfl) (fun _ _ _ h => h) (Or.inl ⟨by rfl, ?_⟩) (by assumption) ?_
              rotate_left
              · (intro w hSw; (try dsimp only at hSw); go_simp; try (with_reducible rfl))
              (try simp only [Act.put, List.setIfInBounds_toArray, List.set_cons_zero, List.set_cons_succ])
              refine wpAnyH_take (i := 10) (oi := ⟨some 33, _, _, _, _, _⟩) (v := ?_) rfl (by kernel_rfl) (by kernel_rfl) (by kernel_rfl) (fun _ _ _ h => h) (Or.inl ⟨by rfl, ?_⟩) (by assumption) ?_
              rotate_left
              · (intro w hSw; (try dsimp only at hSw); go_simp; try (with_reducible rfl))
              (try simp only [Act.put, List.setIfInBounds_toArray, List.set_cons_zero, List.set_cons_succ])
              refine wpAnyH_ready (rs := [11]) (by kernel_rfl) (by simp) ?_
              refine AllReadyH.cons (o := ⟨some 34, _, _, _, _, _⟩) rfl (fun K hK => ?_) AllReadyH.nil
              go_simp
              go_at_fn g
              refine HO.out.mono ?_
              rintro e w4 ⟨rfl, hb4⟩
              go_wp2_with fail
              replace hb4 : Below W1.heap.size W1 w4 := below_then (Below.refl _ W1).drew (Nat.le_refl _) hb4
              refine hK.out _ _ ⟨⟨cell_below hb4 c0 (cell_lt c0), cell_below hb4 c1 (cell_lt c1), cell_below hb4 c2 (cell_lt c2), cell_below hb4 c3 (cell_lt c3), cell_below hb4 c4 (cell_lt c4), cell_below hb4 c5 (cell_lt c5), cell_below hb4 c6 (cell_lt c6)⟩, cell_below hb4 t0 (cell_lt t0), cell_below hb4 t2 (cell_lt t2)⟩ (fun hHeld => ?_)
              clear hK K
              (try simp only [Act.put, List.setIfInBounds_toArray, List.set_cons_zero, List.set_cons_succ])
              refine wpAnyH_take (i := 12) (oi := ⟨some 35, _, _, _, _, _⟩) (v := ?_) rfl (by kernel_rfl) (by kernel_rfl) (by kernel_rfl) (fun _ _ _ h => h) (Or.inl ⟨by rfl, ?_⟩) (by assumption) ?_
              rotate_left
              · (intro w hSw; (try dsimp only at hSw); go_simp; try (with_reducible rfl))
              (try simp only [Act.put, List.setIfInBounds_toArray, List.set_cons_zero, List.set_cons_succ])
              refine wpAnyH_take (i := 13) (oi := ⟨some 36, _, _, _, _, _⟩) (v := ?_) rfl (by kernel_rfl) (by kernel_rfl) (by kernel_rfl) (fun _ _ _ h => h) (Or.inl ⟨by rfl, ?_⟩) (by assumption) ?_
              rotate_left
              · (intro w hSw; (try dsimp only at hSw); go_simp; try (with_reducible rfl))
              (try simp only [Act.put, List.setIfInBounds_toArray, List.set_cons_zero, List.set_cons_succ])
              refine wpAnyH_take (i := 14) (oi := ⟨some 37, _, _, _, _, _⟩) (v := ?_) rfl (by kernel_rfl) (by kernel_rfl) (by kernel_rfl) (fun _ _ _ h => h) (Or.inl ⟨by rfl, ?_⟩) (by assumption) ?_
              rotate_left
              · (intro w hSw; (try dsimp only at hSw); go_simp; try (with_reducible rfl))
              (try simp only [Act.put, List.setIfInBounds_toArray, List.set_cons_zero, List.set_cons_succ])
              refine wpAnyH_take (i := 15) (oi := ⟨some 38, _, _, _, _, _⟩) (v := ?_) rfl (by kernel_rfl) (by kernel_rfl) (by kernel_rfl) (fun _ _ _ h => h) (Or.inl ⟨by rfl, ?_⟩) (by assumption) ?_
              rotate_left
              · (intro w hSw; (try dsimp only at hSw); go_simp; try (with_reducible rfl))
              (try simp only [Act.put, List.setIfInBounds_toArray, List.set_cons_zero, List.set_cons_succ])
              refine wpAnyH_take (i := 16) (oi := ⟨some 39, _, _, _, _, _⟩) (v := ?_) rfl (by kernel_rfl) (by kernel_rfl) (by kernel_rfl) (fun _ _ _ h => h) (Or.inl ⟨by rfl, ?_⟩) (by assumption) ?_
              rotate_left
              · (intro w hSw; (try dsimp only at hSw); go_simp; try (with_reducible rfl))
              (try simp only [Act.put, List.setIfInBounds_toArray, List.set_cons_zero, List.set_cons_succ])
              refine wpAnyH_take (i := 17) (oi := ⟨some 40, _, _, _, _, _⟩) (v := ?_) rfl (by kernel_rfl) (by kernel_rfl) (by kernel_rfl) (fun _ _ _ h => h) (Or.inl ⟨by rfl, ?_⟩) (by assumption) ?_
              rotate_left
              · (intro w hSw; (try dsimp only at hSw); go_simp; try (with_reducible rfl))
              (try simp only [Act.put, List.setIfInBounds_toArray, List.set_cons_zero, List.set_cons_succ])
              refine wpAnyH_take (i := 18) (oi := ⟨some 41, _, _, _, _, _⟩) (v := ?_) rfl (by kernel_rfl) (by kernel_rfl) (by kernel_rfl) (fun _ _ _ h => h) (Or.inl ⟨by rfl, ?_⟩) (by assumption) ?_
              rotate_left
              · (intro w hSw; (try dsimp only at hSw); go_simp; try (with_reducible rfl))
              (try simp only [Act.put, List.setIfInBounds_toArray, List.set_cons_zero, List.set_cons_succ])
              refine wpAnyH_take (i := 19) (oi := ⟨some 42, _, _, _, _, _⟩) (v := ?_) rfl (by kernel_rfl) (by kernel_rfl) (by kernel_rfl) (fun _ _ _ h => h) (Or.inl ⟨by rfl, ?_⟩) (by assumption) ?_
              rotate_left
              · (intro w hSw; (try dsimp only at hSw); go_simp; try (with_reducible rfl))
              (try simp only [Act.put, List.setIfInBounds_toArray, List.set_cons_zero, List.set_cons_succ])
              refine wpAnyH_take (i := 20) (oi := ⟨some 43, _, _, _, _, _⟩) (v := ?_) rfl (by kernel_rfl) (by kernel_rfl) (by kernel_rfl) (fun _ _ _ h => h) (Or.inl ⟨by rfl, ?_⟩) (by assumption) ?_
              rotate_left
              · (intro w hSw; (try dsimp only at hSw); go_simp; try (with_reducible rfl))
              (try simp only [Act.put, List.setIfInBounds_toArray, List.set_cons_zero, List.set_cons_succ])
              refine wpAnyH_take (i := 21) (oi := ⟨some 44, _, _, _, _, _⟩) (v := ?_) rfl (by kernel_rfl) (by kernel_rfl) (by kernel_rfl) (fun _ _ _ h => h) (Or.inl ⟨by rfl, ?_⟩) (by assumption) ?_
              rotate_left
              · (intro w hSw; (try dsimp only at hSw); go_simp; try (with_reducible rfl))
              (try simp only [Act.put, List.setIfInBounds_toArray, List.set_cons_zero, List.set_cons_succ])
              (try simp only [hdl])
              refine wpAnyH_take (i := 22) (oi := ⟨some 45, _, _, _, _, _⟩) (v := ?_) rfl (by kernel_rfl) (by kernel_rfl) (by kernel_rfl) (fun _ _ _ h => h) (Or.inl ⟨by rfl, ?_⟩) (by assumption) ?_
              rotate_left
              · (intro w hSw; (try dsimp only at hSw); go_simp; try (with_reducible rfl))
              (try simp only [Act.put, List.setIfInBounds_toArray, List.set_cons_zero, List.set_cons_succ])
              refine wpAnyH_take (i := 23) (oi := ⟨some 46, _, _, _, _, _⟩) (v := ?_) rfl (by kernel_rfl) (by kernel_rfl) (by kernel_rfl) (fun _ _ _ h => h) (Or.inl ⟨by rfl, ?_⟩) (by assumption) ?_
              rotate_left
              · (intro w hSw; (try dsimp only at hSw); go_simp; try (with_reducible rfl))
              (try simp only [Act.put, List.setIfInBounds_toArray, List.set_cons_zero, List.set_cons_succ])
              refine wpAnyH_done (by kernel_rfl) ?_ _
              have h5 := h.then hb4
              have hH5 := block_below hb4 hz1 hHX.out
              have hz5 := Nat.lt_of_lt_of_le hz1 hb4.size
              have s1 := cell_below hb4 t1 (cell_lt t1)
              obtain ⟨d0, d1, d2, d3, d4, d5, d6⟩ := box7 hH5
              have hwl : IntKind.i64.wrap (left - 1) = left - 1 := by rw [IntKind.wrap_i64]; omega
              clear c0 c1 c2 c3 c4 c5 c6 t0 t1 t2 hH5 HO
              cases ar with
              | true =>
                have har := HAR rfl
                go_wp2
                go_roundw
                case rel => exact ⟨j + 1, x.n, by omega, by go_num, rfl, by omega, Lib.hid (by rw [HG2.out]; simp), h5⟩
                case measure => simp [intOf]; omega
              | false =>
                clear HAR
                go_wp2
                go_roundw
                case rel => exact ⟨j + 1, 0, by omega, by go_num, rfl, by omega, Lib.hid (by rw [HG2.out, if_neg (by simp), show max (left - 1) 0 = 0 by omega]), h5⟩
                case measure => simp [intOf]; omega
            | true =>
              have HR33 : Hid (R = 33) := Lib.hid (HRF.out (by unfold checkA; rw [HG.out, hdl]; simp))
              clear HG HAR HRF
              refine wp_region_held_drew (S := (fun W => (W.cell? ⟨wr.heap.size, 0, none⟩ = some (.int .u8 o) ∧ W.cell? ⟨wr.heap.size, 1, none⟩ = some (.int .i64 x.a) ∧ W.cell? ⟨wr.heap.size, 2, none⟩ = some (.int .i64 x.b) ∧ W.cell? ⟨wr.heap.size, 3, none⟩ = some (.int .u8 x.kd) ∧ W.cell? ⟨wr.heap.size, 4, none⟩ = some (.string x.s) ∧ W.cell? ⟨wr.heap.size, 5, none⟩ = some (.int .i64 x.n) ∧ W.cell? ⟨wr.heap.size, 6, none⟩ = some (.slice Au x.cs.length cu)) ∧ W.cell? ⟨Bt, o * 4, none⟩ = some (.func (.func g) #[] #[]) ∧ W.cell? ⟨Bt, o * 4 + 2, none⟩ = some (.bool true))) (by kernel_rfl) ?_ (fun hHeld => ?_)
              · exact ⟨⟨c0, c1, c2, c3, c4, c5, c6⟩, t0, t2⟩
              change wpAnyH _ .any _ _ _ 24 (Array.replicate 24 false) _ _
              refine wpAnyH_take (i := 0) (oi := ⟨some 23, _, _, _, _, _⟩) (v := ?_) rfl (by kernel_rfl) (by kernel_rfl) (by kernel_rfl) (fun _ _ _ h => h) (Or.inl ⟨by rfl, ?_⟩) (by assumption) ?_
              rotate_left
              · (intro w hSw; (try dsimp only at hSw); go_simp; try (with_reducible rfl))
              (try simp only [Act.put, List.setIfInBounds_toArray, List.set_cons_zero, List.set_cons_succ])
              refine wpAnyH_take (i := 1) (oi := ⟨some 24, _, _, _, _, _⟩) (v := ?_) rfl (by kernel_rfl) (by kernel_rfl) (by kernel_rfl) (fun _ _ _ h => h) (Or.inl ⟨by rfl, ?_⟩) (by assumption) ?_
              rotate_left
              · (intro w hSw; (try dsimp only at hSw); go_simp; try (with_reducible rfl))
              (try simp only [Act.put, List.setIfInBounds_toArray, List.set_cons_zero, List.set_cons_succ])
              refine wpAnyH_take (i := 2) (oi := ⟨some 25, _, _, _, _, _⟩) (v := ?_) rfl (by kernel_rfl) (by kernel_rfl) (by kernel_rfl) (fun _ _ _ h => h) (Or.inl ⟨by rfl, ?_⟩) (by assumption) ?_
              rotate_left
              · (intro w hSw; (try dsimp only at hSw); go_simp; try (with_reducible rfl))
              (try simp only [Act.put, List.setIfInBounds_toArray, List.set_cons_zero, List.set_cons_succ])
              (try simp only [hd])
              refine wpAnyH_take (i := 3) (oi := ⟨some 26, _, _, _, _, _⟩) (v := ?_) rfl (by kernel_rfl) (by kernel_rfl) (by kernel_rfl) (fun _ _ _ h => h) (Or.inl ⟨by rfl, ?_⟩) (by assumption) ?_
              rotate_left
              · (intro w hSw; (try dsimp only at hSw); go_simp; try (with_reducible rfl))
              (try simp only [Act.put, List.setIfInBounds_toArray, List.set_cons_zero, List.set_cons_succ])
              refine wpAnyH_take (i := 4) (oi := ⟨some 27, _, _, _, _, _⟩) (v := ?_) rfl (by kernel_rfl) (by kernel_rfl) (by kernel_rfl) (fun _ _ _ h => h) (Or.inl ⟨by rfl, ?_⟩) (by assumption) ?_
              rotate_left
              · (intro w hSw; (try dsimp only at hSw); go_simp; try (with_reducible rfl))
              (try simp only [Act.put, List.setIfInBounds_toArray, List.set_cons_zero, List.set_cons_succ])
              refine wpAnyH_take (i := 5) (oi := ⟨some 28, _, _, _, _, _⟩) (v := ?_) rfl (by kernel_rfl) (by kernel_rfl) (by kernel_rfl) (fun _ _ _ h => h) (Or.inl ⟨by rfl, ?_⟩) (by assumption) ?_
              rotate_left
              · (intro w hSw; (try dsimp only at hSw); go_simp; try (with_reducible rfl))
              (try simp only [Act.put, List.setIfInBounds_toArray, List.set_cons_zero, List.set_cons_succ])
              refine wpAnyH_take (i := 6) (oi := ⟨some 29, _, _, _, _, _⟩) (v := ?_) rfl (by kernel_rfl) (by kernel_rfl) (by kernel_rfl) (fun _ _ _ h => h) (Or.inl ⟨by rfl, ?_⟩) (by assumption) ?_
              rotate_left
              · (intro w hSw; (try dsimp only at hSw); go_simp; try (with_reducible rfl))
              (try simp only [Act.put, List.setIfInBounds_toArray, List.set_cons_zero, List.set_cons_succ])
              refine wpAnyH_take (i := 7) (oi := ⟨some 30, _, _, _, _, _⟩) (v := ?_) rfl (by kernel_rfl) (by kernel_rfl) (by kernel_rfl) (fun _ _ _ h => h) (Or.inl ⟨by rfl, ?_⟩) (by assumption) ?_
              rotate_left
              · (intro w hSw; (try dsimp only at hSw); go_simp; try (with_reducible rfl))
              (try simp only [Act.put, List.setIfInBounds_toArray, List.set_cons_zero, List.set_cons_succ])
              refine wpAnyH_take (i := 8) (oi := ⟨some 31, _, _, _, _, _⟩) (v := ?_) rfl (by kernel_rfl) (by kernel_rfl) (by kernel_rfl) (fun _ _ _ h => h) (Or.inl ⟨by rfl, ?_⟩) (by assumption) ?_
              rotate_left
              · (intro w hSw; (try dsimp only at hSw); go_simp; try (with_reducible rfl))
              (try simp only [Act.put, List.setIfInBounds_toArray, List.set_cons_zero, List.set_cons_succ])
              refine wpAnyH_take (i := 9) (oi := ⟨some 32, _, _, _, _, _⟩) (v := ?_) rfl (by kernel_rfl) (by kernel_rfl) (by kernel_rfl) (fun _ _ _ h => h) (Or.inl ⟨by rfl, ?_⟩) (by assumption) ?_
              rotate_left
              · (intro w hSw; (try dsimp only at hSw); go_simp; try (with_reducible rfl))
              (try simp only [Act.put, List.setIfInBounds_toArray, List.set_cons_zero, List.set_cons_succ])
              refine wpAnyH_take (i := 10) (oi := ⟨some 33, _, _, _, _, _⟩) (v := ?_) rfl (by kernel_rfl) (by kernel_rfl) (by kernel_rfl) (fun _ _ _ h => h) (Or.inl ⟨by rfl, ?_⟩) (by assumption) ?_
              rotate_left
              · (intro w hSw; (try dsimp only at hSw); go_simp; try (with_reducible rfl))
              (try simp only [Act.put, List.setIfInBounds_toArray, List.set_cons_zero, List.set_cons_succ])
              refine wpAnyH_ready (rs := [11]) (by kernel_rfl) (by simp) ?_
              refine AllReadyH.cons (o := ⟨some 34, _, _, _, _, _⟩) rfl (fun K hK => ?_) AllReadyH.nil
              go_simp
              go_at_fn g
              refine HO.out.mono ?_
              rintro e w4 ⟨rfl, hb4⟩
              go_wp2_with fail
              replace hb4 : Below W1.heap.size W1 w4 := below_then (Below.refl _ W1).drew (Nat.le_refl _) hb4
              refine hK.out _ _ ⟨⟨cell_below hb4 c0 (cell_lt c0), cell_below hb4 c1 (cell_lt c1), cell_below hb4 c2 (cell_lt c2), cell_below hb4 c3 (cell_lt c3), cell_below hb4 c4 (cell_lt c4), cell_below hb4 c5 (cell_lt c5), cell_below hb4 c6 (cell_lt c6)⟩, cell_below hb4 t0 (cell_lt t0), cell_below hb4 t2 (cell_lt t2)⟩ (fun hHeld => ?_)
              clear hK K
              (try simp only [Act.put, List.setIfInBounds_toArray, List.set_cons_zero, List.set_cons_succ])
              refine wpAnyH_take (i := 12) (oi := ⟨some 35, _, _, _, _, _⟩) (v := ?_) rfl (by kernel_rfl) (by kernel_rfl) (by kernel_rfl) (fun _ _ _ h => h) (Or.inl ⟨by rfl, ?_⟩) (by assumption) ?_
              rotate_left
              · (intro w hSw; (try dsimp only at hSw); go_simp; try (with_reducible rfl))
              (try simp only [Act.put, List.setIfInBounds_toArray, List.set_cons_zero, List.set_cons_succ])
              refine wpAnyH_take (i := 13) (oi := ⟨some 36, _, _, _, _, _⟩) (v := ?_) rfl (by kernel_rfl) (by kernel_rfl) (by kernel_rfl) (fun _ _ _ h => h) (Or.inl ⟨by rfl, ?_⟩) (by assumption) ?_
              rotate_left
              · (intro w hSw; (try dsimp only at hSw); go_simp; try (with_reducible rfl))
              (try simp only [Act.put, List.setIfInBounds_toArray, List.set_cons_zero, List.set_cons_succ])
              refine wpAnyH_take (i := 14) (oi := ⟨some 37, _, _, _, _, _⟩) (v := ?_) rfl (by kernel_rfl) (by kernel_rfl) (by kernel_rfl) (fun _ _ _ h => h) (Or.inl ⟨by rfl, ?_⟩) (by assumption) ?_
              rotate_left
              · (intro w hSw; (try dsimp only at hSw); go_simp; try (with_reducible rfl))
              (try simp only [Act.put, List.setIfInBounds_toArray, List.set_cons_zero, List.set_cons_succ])
              refine wpAnyH_take (i := 15) (oi := ⟨some 38, _, _, _, _, _⟩) (v := ?_) rfl (by kernel_rfl) (by kernel_rfl) (by kernel_rfl) (fun _ _ _ h => h) (Or.inl ⟨by rfl, ?_⟩) (by assumption) ?_
              rotate_left
              · (intro w hSw; (try dsimp only at hSw); go_simp; try (with_reducible rfl))
              (try simp only [Act.put, List.setIfInBounds_toArray, List.set_cons_zero, List.set_cons_succ])
              refine wpAnyH_take (i := 16) (oi := ⟨some 39, _, _, _, _, _⟩) (v := ?_) rfl (by kernel_rfl) (by kernel_rfl) (by kernel_rfl) (fun _ _ _ h => h) (Or.inl ⟨by rfl, ?_⟩) (by assumption) ?_
              rotate_left
              · (intro w hSw; (try dsimp only at hSw); go_simp; try (with_reducible rfl))
              (try simp only [Act.put, List.setIfInBounds_toArray, List.set_cons_zero, List.set_cons_succ])
              refine wpAnyH_take (i := 17) (oi := ⟨some 40, _, _, _, _, _⟩) (v := ?_) rfl (by kernel_rfl) (by kernel_rfl) (by kernel_rfl) (fun _ _ _ h => h) (Or.inl ⟨by rfl, ?_⟩) (by assumption) ?_
              rotate_left
              · (intro w hSw; (try dsimp only at hSw); go_simp; try (with_reducible rfl))
              (try simp only [Act.put, List.setIfInBounds_toArray, List.set_cons_zero, List.set_cons_succ])
              refine wpAnyH_take (i := 18) (oi := ⟨some 41, _, _, _, _, _⟩) (v := ?_) rfl (by kernel_rfl) (by kernel_rfl) (by kernel_rfl) (fun _ _ _ h => h) (Or.inl ⟨by rfl, ?_⟩) (by assumption) ?_
              rotate_left
              · (intro w hSw; (try dsimp only at hSw); go_simp; try (with_reducible rfl))
              (try simp only [Act.put, List.setIfInBounds_toArray, List.set_cons_zero, List.set_cons_succ])
              refine wpAnyH_take (i := 19) (oi := ⟨some 42, _, _, _, _, _⟩) (v := ?_) rfl (by kernel_rfl) (by kernel_rfl) (by kernel_rfl) (fun _ _ _ h => h) (Or.inl ⟨by rfl, ?_⟩) (by assumption) ?_
              rotate_left
              · (intro w hSw; (try dsimp only at hSw); go_simp; try (with_reducible rfl))
              (try simp only [Act.put, List.setIfInBounds_toArray, List.set_cons_zero, List.set_cons_succ])
              refine wpAnyH_take (i := 20) (oi := ⟨some 43, _, _, _, _, _⟩) (v := ?_) rfl (by kernel_rfl) (by kernel_rfl) (by kernel_rfl) (fun _ _ _ h => h) (Or.inl ⟨by rfl, ?_⟩) (by assumption) ?_
              rotate_left
              · (intro w hSw; (try dsimp only at hSw); go_simp; try (with_reducible rfl))
              (try simp only [Act.put, List.setIfInBounds_toArray, List.set_cons_zero, List.set_cons_succ])
              refine wpAnyH_take (i := 21) (oi := ⟨some 44, _, _, _, _, _⟩) (v := ?_) rfl (by kernel_rfl) (by kernel_rfl) (by kernel_rfl) (fun _ _ _ h => h) (Or.inl ⟨by rfl, ?_⟩) (by assumption) ?_
              rotate_left
              · (intro w hSw; (try dsimp only at hSw); go_simp; try (with_reducible rfl))
              (try simp only [Act.put, List.setIfInBounds_toArray, List.set_cons_zero, List.set_cons_succ])
              (try simp only [hdl])
              refine wpAnyH_take (i := 22) (oi := ⟨some 45, _, _, _, _, _⟩) (v := ?_) rfl (by kernel_rfl) (by kernel_rfl) (by kernel_rfl) (fun _ _ _ h => h) (Or.inl ⟨by rfl, ?_⟩) (by assumption) ?_
              rotate_left
              · (intro w hSw; (try dsimp only at hSw); go_simp; try (with_reducible rfl))
              (try simp only [Act.put, List.setIfInBounds_toArray, List.set_cons_zero, List.set_cons_succ])
              refine wpAnyH_take (i := 23) (oi := ⟨some 46, _, _, _, _, _⟩) (v := ?_) rfl (by kernel_rfl) (by kernel_rfl) (by kernel_rfl) (fun _ _ _ h => h) (Or.inl ⟨by rfl, ?_⟩) (by assumption) ?_
              rotate_left
              · (intro w hSw; (try dsimp only at hSw); go_simp; try (with_reducible rfl))
              (try simp only [Act.put, List.setIfInBounds_toArray, List.set_cons_zero, List.set_cons_succ])
              refine wpAnyH_done (by kernel_rfl) ?_ _
              go_wp2
              go_ret
              exact ⟨ret_int HR33.out.symm, below_then h.b0 h.b0.size hb4⟩
      · have hd : decide (32 ≤ (o : Int)) = true := by simp; omega
        have HR33 : Hid (R = 33) := Lib.hid (HRF.out (by unfold checkA; rw [HG.out, hd]; simp))
        clear HG HRF HS hox
        refine wp_region_held_drew (S := (fun W => W.cell? ⟨wr.heap.size, 0, none⟩ = some (.int .u8 o) ∧ W.cell? ⟨wr.heap.size, 1, none⟩ = some (.int .i64 x.a) ∧ W.cell? ⟨wr.heap.size, 2, none⟩ = some (.int .i64 x.b) ∧ W.cell? ⟨wr.heap.size, 3, none⟩ = some (.int .u8 x.kd) ∧ W.cell? ⟨wr.heap.size, 4, none⟩ = some (.string x.s) ∧ W.cell? ⟨wr.heap.size, 5, none⟩ = some (.int .i64 x.n) ∧ W.cell? ⟨wr.heap.size, 6, none⟩ = some (.slice Au x.cs.length cu))) (by kernel_rfl) ?_ (fun hHeld => ?_)
        · exact ⟨c0, c1, c2, c3, c4, c5, c6⟩
        change wpAnyH _ .any _ _ _ 24 (Array.replicate 24 false) _ _
        refine wpAnyH_take (i := 0) (oi := ⟨some 23, _, _, _, _, _⟩) (v := ?_) rfl (by kernel_rfl) (by kernel_rfl) (by kernel_rfl) (fun _ _ _ h => h) (Or.inl ⟨by rfl, ?_⟩) (by assumption) ?_
        rotate_left
        · (intro w hSw; (try dsimp only at hSw); go_simp; try (with_reducible rfl))
        (try simp only [Act.put, List.setIfInBounds_toArray, List.set_cons_zero, List.set_cons_succ])
        refine wpAnyH_take (i := 1) (oi := ⟨some 24, _, _, _, _, _⟩) (v := ?_) rfl (by kernel_rfl) (by kernel_rfl) (by kernel_rfl) (fun _ _ _ h => h) (Or.inl ⟨by rfl, ?_⟩) (by assumption) ?_
        rotate_left
        · (intro w hSw; (try dsimp only at hSw); go_simp; try (with_reducible rfl))
        (try simp only [Act.put, List.setIfInBounds_toArray, List.set_cons_zero, List.set_cons_succ])
        refine wpAnyH_take (i := 2) (oi := ⟨some 25, _, _, _, _, _⟩) (v := ?_) rfl (by kernel_rfl) (by kernel_rfl) (by kernel_rfl) (fun _ _ _ h => h) (Or.inl ⟨by rfl, ?_⟩) (by assumption) ?_
        rotate_left
        · (intro w hSw; (try dsimp only at hSw); go_simp; try (with_reducible rfl))
        (try simp only [Act.put, List.setIfInBounds_toArray, List.set_cons_zero, List.set_cons_succ])
        (try simp only [hd])
        refine wpAnyH_take (i := 3) (oi := ⟨some 26, _, _, _, _, _⟩) (v := ?_) rfl (by kernel_rfl) (by kernel_rfl) (by kernel_rfl) (fun _ _ _ h => h) (Or.inl ⟨by rfl, ?_⟩) (by assumption) ?_
        rotate_left
        · (intro w hSw; (try dsimp only at hSw); go_simp; try (with_reducible rfl))
        (try simp only [Act.put, List.setIfInBounds_toArray, List.set_cons_zero, List.set_cons_succ])
        refine wpAnyH_take (i := 4) (oi := ⟨some 27, _, _, _, _, _⟩) rfl (by kernel_rfl) (by kernel_rfl) (by kernel_rfl) (fun _ _ _ h => h) (Or.inr ⟨by rfl, rfl⟩) (by assumption) ?_
        (try simp only [Act.put, List.setIfInBounds_toArray, List.set_cons_zero, List.set_cons_succ])
        refine wpAnyH_take (i := 5) (oi := ⟨some 28, _, _, _, _, _⟩) rfl (by kernel_rfl) (by kernel_rfl) (by kernel_rfl) (fun _ _ _ h => h) (Or.inr ⟨by rfl, rfl⟩) (by assumption) ?_
        (try simp only [Act.put, List.setIfInBounds_toArray, List.set_cons_zero, List.set_cons_succ])
        refine wpAnyH_take (i := 6) (oi := ⟨some 29, _, _, _, _, _⟩) rfl (by kernel_rfl) (by kernel_rfl) (by kernel_rfl) (fun _ _ _ h => h) (Or.inr ⟨by rfl, rfl⟩) (by assumption) ?_
        (try simp only [Act.put, List.setIfInBounds_toArray, List.set_cons_zero, List.set_cons_succ])
        refine wpAnyH_take (i := 7) (oi := ⟨some 30, _, _, _, _, _⟩) rfl (by kernel_rfl) (by kernel_rfl) (by kernel_rfl) (fun _ _ _ h => h) (Or.inr ⟨by rfl, rfl⟩) (by assumption) ?_
        (try simp only [Act.put, List.setIfInBounds_toArray, List.set_cons_zero, List.set_cons_succ])
        refine wpAnyH_take (i := 8) (oi := ⟨some 31, _, _, _, _, _⟩) rfl (by kernel_rfl) (by kernel_rfl) (by kernel_rfl) (fun _ _ _ h => h) (Or.inr ⟨by rfl, rfl⟩) (by assumption) ?_
        (try simp only [Act.put, List.setIfInBounds_toArray, List.set_cons_zero, List.set_cons_succ])
        refine wpAnyH_take (i := 9) (oi := ⟨some 32, _, _, _, _, _⟩) rfl (by kernel_rfl) (by kernel_rfl) (by kernel_rfl) (fun _ _ _ h => h) (Or.inr ⟨by rfl, rfl⟩) (by assumption) ?_
        (try simp only [Act.put, List.setIfInBounds_toArray, List.set_cons_zero, List.set_cons_succ])
        refine wpAnyH_take (i := 10) (oi := ⟨some 33, _, _, _, _, _⟩) rfl (by kernel_rfl) (by kernel_rfl) (by kernel_rfl) (fun _ _ _ h => h) (Or.inr ⟨by rfl, rfl⟩) (by assumption) ?_
        (try simp only [Act.put, List.setIfInBounds_toArray, List.set_cons_zero, List.set_cons_succ])
        refine wpAnyH_take (i := 11) (oi := ⟨some 34, _, _, _, _, _⟩) rfl (by kernel_rfl) (by kernel_rfl) (by kernel_rfl) (fun _ _ _ h => h) (Or.inr ⟨by rfl, rfl⟩) (by assumption) ?_
        (try simp only [Act.put, List.setIfInBounds_toArray, List.set_cons_zero, List.set_cons_succ])
        refine wpAnyH_take (i := 12) (oi := ⟨some 35, _, _, _, _, _⟩) rfl (by kernel_rfl) (by kernel_rfl) (by kernel_rfl) (fun _ _ _ h => h) (Or.inr ⟨by rfl, rfl⟩) (by assumption) ?_
        (try simp only [Act.put, List.setIfInBounds_toArray, List.set_cons_zero, List.set_cons_succ])
        refine wpAnyH_take (i := 13) (oi := ⟨some 36, _, _, _, _, _⟩) (v := ?_) rfl (by kernel_rfl) (by kernel_rfl) (by kernel_rfl) (fun _ _ _ h => h) (Or.inl ⟨by rfl, ?_⟩) (by assumption) ?_
        rotate_left
        · (intro w hSw; (try dsimp only at hSw); go_simp; try (with_reducible rfl))
        (try simp only [Act.put, List.setIfInBounds_toArray, List.set_cons_zero, List.set_cons_succ])
        refine wpAnyH_take (i := 14) (oi := ⟨some 37, _, _, _, _, _⟩) (v := ?_) rfl (by kernel_rfl) (by kernel_rfl) (by kernel_rfl) (fun _ _ _ h => h) (Or.inl ⟨by rfl, ?_⟩) (by assumption) ?_
        rotate_left
        · (intro w hSw; (try dsimp only at hSw); go_simp; try (with_reducible rfl))
        (try simp only [Act.put, List.setIfInBounds_toArray, List.set_cons_zero, List.set_cons_succ])
        refine wpAnyH_take (i := 15) (oi := ⟨some 38, _, _, _, _, _⟩) rfl (by kernel_rfl) (by kernel_rfl) (by kernel_rfl) (fun _ _ _ h => h) (Or.inr ⟨by rfl, rfl⟩) (by assumption) ?_
        (try simp only [Act.put, List.setIfInBounds_toArray, List.set_cons_zero, List.set_cons_succ])
        refine wpAnyH_take (i := 16) (oi := ⟨some 39, _, _, _, _, _⟩) rfl (by kernel_rfl) (by kernel_rfl) (by kernel_rfl) (fun _ _ _ h => h) (Or.inr ⟨by rfl, rfl⟩) (by assumption) ?_
        (try simp only [Act.put, List.setIfInBounds_toArray, List.set_cons_zero, List.set_cons_succ])
        refine wpAnyH_take (i := 17) (oi := ⟨some 40, _, _, _, _, _⟩) rfl (by kernel_rfl) (by kernel_rfl) (by kernel_rfl) (fun _ _ _ h => h) (Or.inr ⟨by rfl, rfl⟩) (by assumption) ?_
        (try simp only [Act.put, List.setIfInBounds_toArray, List.set_cons_zero, List.set_cons_succ])
        refine wpAnyH_take (i := 18) (oi := ⟨some 41, _, _, _, _, _⟩) rfl (by kernel_rfl) (by kernel_rfl) (by kernel_rfl) (fun _ _ _ h => h) (Or.inr ⟨by rfl, rfl⟩) (by assumption) ?_
        (try simp only [Act.put, List.setIfInBounds_toArray, List.set_cons_zero, List.set_cons_succ])
        refine wpAnyH_take (i := 19) (oi := ⟨some 42, _, _, _, _, _⟩) rfl (by kernel_rfl) (by kernel_rfl) (by kernel_rfl) (fun _ _ _ h => h) (Or.inr ⟨by rfl, rfl⟩) (by assumption) ?_
        (try simp only [Act.put, List.setIfInBounds_toArray, List.set_cons_zero, List.set_cons_succ])
        refine wpAnyH_take (i := 20) (oi := ⟨some 43, _, _, _, _, _⟩) rfl (by kernel_rfl) (by kernel_rfl) (by kernel_rfl) (fun _ _ _ h => h) (Or.inr ⟨by rfl, rfl⟩) (by assumption) ?_
        (try simp only [Act.put, List.setIfInBounds_toArray, List.set_cons_zero, List.set_cons_succ])
        refine wpAnyH_take (i := 21) (oi := ⟨some 44, _, _, _, _, _⟩) rfl (by kernel_rfl) (by kernel_rfl) (by kernel_rfl) (fun _ _ _ h => h) (Or.inr ⟨by rfl, rfl⟩) (by assumption) ?_
        (try simp only [Act.put, List.setIfInBounds_toArray, List.set_cons_zero, List.set_cons_succ])
        refine wpAnyH_take (i := 22) (oi := ⟨some 45, _, _, _, _, _⟩) rfl (by kernel_rfl) (by kernel_rfl) (by kernel_rfl) (fun _ _ _ h => h) (Or.inr ⟨by rfl, rfl⟩) (by assumption) ?_
        (try simp only [Act.put, List.setIfInBounds_toArray, List.set_cons_zero, List.set_cons_succ])
        refine wpAnyH_take (i := 23) (oi := ⟨some 46, _, _, _, _, _⟩) (v := ?_) rfl (by kernel_rfl) (by kernel_rfl) (by kernel_rfl) (fun _ _ _ h => h) (Or.inl ⟨by rfl, ?_⟩) (by assumption) ?_
        rotate_left
        · (intro w hSw; (try dsimp only at hSw); go_simp; try (with_reducible rfl))
        (try simp only [Act.put, List.setIfInBounds_toArray, List.set_cons_zero, List.set_cons_succ])
        refine wpAnyH_done (by kernel_rfl) ?_ _
        go_wp2
        go_ret
        exact ⟨ret_int HR33.out.symm, h.b0.drew⟩
    · have hjl : j = l.length := by omega
      subst hjl
      have hCA : Hid (checkA l = (decide (left ≤ 0) && (match l.getLast? with | none => false | some i => endB i.op))) := Lib.hid (by unfold checkA; rw [hG.out, List.drop_length]; rfl)
      have HRF : Hid (checkA l = false → R = 33) := Lib.hid (fun hf => by rw [HC.out, hf]; rfl)
      obtain ⟨x00, x01⟩ := box2 h.x0
      clear hlt hj hG
      by_cases hn0 : l.length = 0
      · have hl0 : l = [] := List.eq_nil_of_length_eq_zero hn0
        have HR33 : Hid (R = 33) := Lib.hid (HRF.out (by rw [hCA.out, hl0]; simp))
        have hz : ((l.length : Int) == 0) = true := by simpa using hl0
        have HN0 := Lib.hid hn0
        clear hn0 hl0 hCA HRF
        go_wp2
        go_ret
        exact ⟨ret_int HR33.out.symm, h.b0⟩
      have hz : ((l.length : Int) == 0) = false := by simpa using hn0
      by_cases hl0 : 0 < left
      · have HR33 : Hid (R = 33) := Lib.hid (HRF.out (by rw [hCA.out, show decide (left ≤ 0) = false by simpa using hl0]; rfl))
        clear hn0 hCA HRF
        go_wp2
        go_ret
        exact ⟨ret_int HR33.out.symm, h.b0⟩
      have hdl : decide (0 < left) = false := by simpa using hl0
      obtain ⟨m, hm⟩ : ∃ m, l.length = m + 1 := ⟨l.length - 1, by omega⟩
      have hml : m < l.length := by omega
      have hgl : l.getLast? = some l[m] := by rw [List.getLast?_eq_getElem?, hm]; simp
      have hCA2 : Hid (checkA l = endB l[m].op) := Lib.hid (by rw [hCA.out, hgl, show decide (left ≤ 0) = true by simpa using (show left ≤ 0 by omega)]; rfl)
      have HWR : Hid (l.length = m + 1) := Lib.hid hm
      have hwr : IntKind.i64.wrap ((l.length : Int) - 1) = (m : Int) := by rw [IntKind.wrap_i64]; omega
      have hmi : (m : Int) < l.length := by omega
      obtain ⟨Aa, caa, eA, -, -, hA⟩ := HV.out
      injection eA with eA1 eA2 eA3
      subst eA1 eA3
      clear eA2
      obtain ⟨bb, ob, u, rfl, hokb, hlo, h0, h1, h2, h3, h4, h5, h6, h7⟩ := in_elem hA hml
      have g0 := cell_below h.b0 h0 hlo
      have g1 := cell_below h.b0 h1 hlo
      have g2 := cell_below h.b0 h2 hlo
      have g3 := cell_below h.b0 h3 hlo
      have g4 := cell_below h.b0 h4 hlo
      have g5 := cell_below h.b0 h5 hlo
      have g6 := cell_below h.b0 h6 hlo
      obtain ⟨Au, cu, rfl⟩ := h7.form
      have HE := Lib.hid (Ends_c l[m] (.agg #[.int .u8 l[m].op, .int .i64 l[m].a, .int .i64 l[m].b, .int .u8 l[m].kd, .string l[m].s, .int .i64 l[m].n, .slice Au l[m].cs.length cu]) wr _ ⟨_, rfl, h7.below h.b0⟩ (hop _ (List.getElem_mem hml)))
      clear hA h0 h1 h2 h3 h4 h5 h6 h7 hm hgl hn0 hl0 hCA HWR
      generalize l[m] = x at g0 g1 g2 g3 g4 g5 g6 hCA2 HE
      generalize endB x.op = en at hCA2 HE
      cases en with
      | false =>
        have HR33 : Hid (R = 33) := Lib.hid (HRF.out hCA2.out)
        clear HRF hCA2
        go_wp2_with (go_at_call 37; refine HE.out.mono ?_; clear HE; rintro e w4 ⟨rfl, hb4⟩; replace h := h.then hb4; clear hb4 g0 g1 g2 g3 g4 g5 g6 x00 x01; obtain ⟨x00, x01⟩ := box2 h.x0)
        go_ret
        exact ⟨ret_int HR33.out.symm, h.b0⟩
      | true =>
        have HRE : Hid (R = if es.all (fun e => placeB e l.length) then 0 else 33) := Lib.hid (by rw [HC.out, hCA2.out, Bool.true_and])
        clear HRF hCA2 HC
        rcases HM.out with ⟨hmm, hes⟩ | ⟨b, E, clock, hmm, hb, hst, hE⟩
        · have HR0 : Hid (R = 0) := Lib.hid (by rw [HRE.out, hes]; rfl)
          injection hmm with hmm
          subst hmm
          clear HRE hes HM
          go_wp2_with (go_at_call 37; refine HE.out.mono ?_; clear HE; rintro e w4 ⟨rfl, hb4⟩; replace h := h.then hb4; clear hb4 g0 g1 g2 g3 g4 g5 g6 x00 x01; obtain ⟨x00, x01⟩ := box2 h.x0; have hrg := run_range_nilMap (P := Try.prog) w4 57 61 3 Try.underlying57; have hnx : ∀ ty, (Instr.next (.pointer (some ⟨w4.heap.size, 0, none⟩)) false ty).run Try.prog (w4.alloc (.mapIter none 0 #[] 0)) = _ := fun ty => run_next_nilMap w4 ty 0 0 #[])
          refine wp_loop_rounds 1 ?_
          rw [rounds_succ]
          go_wp2
          go_ret
          exact ⟨ret_int HR0.out.symm, h.b0.alloc h.b0.size _⟩
        · injection hmm with hmm
          subst hmm
          clear HM
          have hbl := (Array.getElem?_eq_some_iff.1 hb).1
          have HB := Lib.hid hb
          have HST := Lib.hid hst
          have HEs := Lib.hid hE
          clear hb hst hE
          go_wp2_with (go_at_call 37; refine HE.out.mono ?_; clear HE; rintro e w4 ⟨rfl, hb4⟩; replace h := h.then hb4; clear hb4 g0 g1 g2 g3 g4 g5 g6 x00 x01; obtain ⟨x00, x01⟩ := box2 h.x0; have hb := (h.b0.block b hbl).trans HB.out; have hrg := run_range_map (P := Try.prog) w4 57 61 3 b E clock Try.underlying57 hb)
          have hz4 := h.b0.size
          have hst0 : (w4.alloc (.mapIter (some b) clock #[] clock)).heap[w4.heap.size]? = some (.mapIter (some b) clock #[] clock) := heap_new w4 _
          have hb0 : Below w.heap.size w (w4.alloc (.mapIter (some b) clock #[] clock)) := h.b0.alloc h.b0.size _
          clear h hb hrg x00 x01
          generalize hr4 : w4.heap.size = r at hz4 hst0 hb0 ⊢
          go_loopw [] (fun wr => ∃ seen : Array Nat, wr.heap[r]? = some (.mapIter (some b) clock seen clock) ∧ Below w.heap.size w wr ∧ ∀ y ∈ E.toList, seen.contains y.born = true → placeB (valI y.val) l.length = true) (fun wr => (leftOf E (wr.iterSeen r)).size)
          case atStart => exact ⟨#[], hst0, hb0, fun y _ h => by simp at h⟩
          case round =>
            clear hst0 hb0 hr4
            obtain ⟨seen, hit, hb0, hno⟩ := hrel
            have hb1 := (hb0.block b hbl).trans HB.out
            rcases run_next_at (P := Try.prog) wr 0 r b clock clock seen E clock hit hb1 HST.out.1 (Nat.le_refl _) with ⟨hs0, hrun⟩ | ⟨e, he, w5, hal, hrun⟩
            · have hnx : ∀ ty, (Instr.next (.pointer (some ⟨r, 0, none⟩)) false ty).run Try.prog wr = _ := fun _ => hrun
              have HR0 : Hid (R = 0) := Lib.hid (by
                rw [HRE.out, if_pos]
                rw [List.all_eq_true]
                intro v hv
                have : (Value.int .i64 v) ∈ E.toList.map (·.val) := by rw [HEs.out]; exact List.mem_map.2 ⟨v, hv, rfl⟩
                obtain ⟨y, hy, hyv⟩ := List.mem_map.1 this
                have := hno y hy (all_seen E seen hs0 y hy)
                rw [hyv] at this
                exact this)
              go_wp2
              go_ret
              exact ⟨ret_int HR0.out.symm, hb0⟩
            · have hem := (mem_left he).1
              obtain ⟨v, hv, hval⟩ : ∃ v ∈ es, e.val = .int .i64 v := by
                have : e.val ∈ es.map (Value.int .i64) := by rw [← HEs.out]; exact List.mem_map.2 ⟨e, hem, rfl⟩
                obtain ⟨v, hv, h⟩ := List.mem_map.1 this
                exact ⟨v, hv, h.symm⟩
              have hw5 : w5.heap = wr.heap ∧ Below w.heap.size w w5 := by rcases hal with rfl | rfl; exact ⟨rfl, hb0⟩; exact ⟨rfl, hb0.drew⟩
              have hit5 : w5.heap[r]? = some (.mapIter (some b) clock seen clock) := by rw [hw5.1]; exact hit
              obtain ⟨q1, q2, q3⟩ := setBlock_at (o' := .mapIter (some b) clock (seen.push e.born) clock) hw5.2 hz4 hit5
              have hb6 := (q2.block b hbl).trans HB.out
              have hen := run_entry_at (P := Try.prog) _ r b clock seen E clock e q1 hb6 hem HST.out.2.1
              rw [hval] at hrun hen
              have hnx : ∀ ty, (Instr.next (.pointer (some ⟨r, 0, none⟩)) false ty).run Try.prog wr = _ := fun _ => hrun
              generalize Go.ChangeMaps.setBlock w5 r (.mapIter (some b) clock (seen.push e.born) clock) = w6 at q1 q2 q3 hen hnx hrun
              clear hrun hit5 hw5 hal
              have HP := Lib.hid (place_w v l.length w6)
              have HPV : Hid (placeB (valI e.val) l.length = placeB v l.length) := Lib.hid (by rw [hval]; rfl)
              have HV2 := Lib.hid hval
              have HITER := Lib.hid (show wr.iterSeen r = seen from iterSeen_of hit)
              have HITER2 := Lib.hid (show w6.iterSeen r = seen.push e.born from iterSeen_of q1)
              have HNF : Hid (placeB v l.length = false → R = 33) := Lib.hid (fun hf => by
                rw [HRE.out, if_neg]
                intro h
                have := List.all_eq_true.1 h v hv
                rw [hf] at this
                cases this)
              clear hval hv hit hb1
              cases hpv : placeB v l.length with
              | false =>
                have HR33 : Hid (R = 33) := Lib.hid (HNF.out hpv)
                rw [hpv] at HP
                clear HNF hpv HPV
                go_wp2_with (go_at_call 75; refine HP.out.mono ?_; clear HP; rintro e2 w7 ⟨rfl, rfl⟩)
                go_ret
                exact ⟨ret_int HR33.out.symm, q2⟩
              | true =>
                rw [hpv] at HP HPV
                clear HNF hpv
                go_wp2_with (go_at_call 75; refine HP.out.mono ?_; clear HP; rintro e2 w7 ⟨rfl, rfl⟩)
                go_roundw
                case rel =>
                  refine ⟨seen.push e.born, q1, q2, fun y hy hc => ?_⟩
                  rw [contains_push] at hc
                  rcases Bool.or_eq_true _ _ ▸ hc with h1 | h1
                  · exact hno y hy h1
                  · have : y = e := born_inj HST.out.2.1 hy hem (beq_iff_eq.1 h1)
                    subst this
                    exact HPV.out
                case measure =>
                  rw [HITER.out, HITER2.out]
                  exact left_shrinks E seen e he
end Go.Proofs.Ytdflckjnpgbjlaa

/- Layer 22 (code): the table of operations, made and read. No condition. -/
import Derived.Test.YtdflckjnpgbjlaaCc
import Derived.Test.YtdflckjnpgbjlaaS7
import Derived.Deep.MidRow
set_option linter.unusedVariables false
set_option maxRecDepth 20000
set_option linter.unusedSimpArgs false
namespace Go.Proofs.Ytdflckjnpgbjlaa
open Go.RowKit

theorem all4_c (i : In) (n : Int) (v : Value) (w : World) (ok : Nat → Prop) (hv : InV .u8 w ok i v) : Calls Try.prog 113 #[v, .int .i64 n] w fun e w' => e = .returned (.bool (placeB i.a n && casesB i n)) ∧ Below w.heap.size w w' := by
  obtain ⟨u, rfl, hS⟩ := hv
  obtain ⟨A, c, rfl⟩ := hS.form
  have HX := Lib.hid (show (placeB i.a n && casesB i n) = (placeB i.a n && casesB i n) from rfl)
  have HS := Lib.hid hS
  have hb : Below w.heap.size w (w.alloc (.cells #[.int .u8 i.op, .int .i64 i.a, .int .i64 i.b, .int .u8 i.kd, .string i.s, .int .i64 i.n, .slice A i.cs.length c] 65)) := (Below.refl _ w).alloc (Nat.le_refl _) _
  have hx := heap_new w (.cells #[.int .u8 i.op, .int .i64 i.a, .int .i64 i.b, .int .u8 i.kd, .string i.s, .int .i64 i.n, .slice A i.cs.length c] 65)
  have hxl : w.heap.size < (w.alloc (.cells #[.int .u8 i.op, .int .i64 i.a, .int .i64 i.b, .int .u8 i.kd, .string i.s, .int .i64 i.n, .slice A i.cs.length c] 65)).heap.size := by simp
  clear hS
  obtain ⟨c0, c1, c2, c3, c4, c5, c6⟩ := box7 hx
  go_enter Try.func113, Try.ntmps113
  go_wp2_with (first | (go_at_call 75; refine (place_c _ _ _).mono ?_; rintro e w1 ⟨rfl, hb1⟩; have hz := hb.size; replace hb := below_then hb hb.size hb1; replace hx := block_below hb1 hxl hx; replace hxl := Nat.lt_of_lt_of_le hxl hb1.size; clear hz; obtain ⟨c0, c1, c2, c3, c4, c5, c6⟩ := box7 hx; clear hb1) | (go_at_call 114; refine (cases_c i n _ _ _ ⟨_, rfl, HS.out.below hb⟩).mono ?_; rintro e w2 ⟨rfl, hb1⟩; have hz := hb.size; replace hb := below_then hb hb.size hb1; replace hx := block_below hb1 hxl hx; replace hxl := Nat.lt_of_lt_of_le hxl hb1.size; clear hz; obtain ⟨c0, c1, c2, c3, c4, c5, c6⟩ := box7 hx; clear hb1))
  all_goals go_ret
  all_goals exact ⟨ret_bool (by (try rw [HX.out]); (try simp [*]); (try omega)), hb⟩
theorem all5_c (i : In) (n : Int) (v : Value) (w : World) (ok : Nat → Prop) (hv : InV .u8 w ok i v) : Calls Try.prog 115 #[v, .int .i64 n] w fun e w' => e = .returned (.bool (decide (i.a = -1) && casesB i n)) ∧ Below w.heap.size w w' := by
  obtain ⟨u, rfl, hS⟩ := hv
  obtain ⟨A, c, rfl⟩ := hS.form
  have HX := Lib.hid (show (decide (i.a = -1) && casesB i n) = (decide (i.a = -1) && casesB i n) from rfl)
  have HS := Lib.hid hS
  have hb : Below w.heap.size w (w.alloc (.cells #[.int .u8 i.op, .int .i64 i.a, .int .i64 i.b, .int .u8 i.kd, .string i.s, .int .i64 i.n, .slice A i.cs.length c] 65)) := (Below.refl _ w).alloc (Nat.le_refl _) _
  have hx := heap_new w (.cells #[.int .u8 i.op, .int .i64 i.a, .int .i64 i.b, .int .u8 i.kd, .string i.s, .int .i64 i.n, .slice A i.cs.length c] 65)
  have hxl : w.heap.size < (w.alloc (.cells #[.int .u8 i.op, .int .i64 i.a, .int .i64 i.b, .int .u8 i.kd, .string i.s, .int .i64 i.n, .slice A i.cs.length c] 65)).heap.size := by simp
  clear hS
  obtain ⟨c0, c1, c2, c3, c4, c5, c6⟩ := box7 hx
  have hq : ((i.a == -1) = true ∧ decide (i.a = -1) = true) ∨ ((i.a == -1) = false ∧ decide (i.a = -1) = false) := by
    by_cases h : i.a = -1
    · left; exact ⟨by simpa using h, by simpa using h⟩
    · right; exact ⟨by simpa using h, by simpa using h⟩
  clear HX
  rcases hq with ⟨hq, hr⟩ | ⟨hq, hr⟩
  all_goals rw [hr]; clear hr
  all_goals go_enter Try.func115, Try.ntmps115
  all_goals go_wp2_with (first | (go_at_call 114; refine (cases_c i n _ _ _ ⟨_, rfl, HS.out.below hb⟩).mono ?_; rintro e w2 ⟨rfl, hb1⟩; have hz := hb.size; replace hb := below_then hb hb.size hb1; replace hx := block_below hb1 hxl hx; replace hxl := Nat.lt_of_lt_of_le hxl hb1.size; clear hz; obtain ⟨c0, c1, c2, c3, c4, c5, c6⟩ := box7 hx; clear hb1))
  all_goals go_ret
  all_goals exact ⟨ret_bool (by simp), hb⟩
theorem store_fn {P : Program} {w : World} {a : Addr} {m : Mode} (g : Go.Fn) : (store a (.func g #[] #[]) m).run P w = stored P w a (.func g #[] #[]) m := run_store P w a _ m rfl
/-- Some cells of a table set to one value. -/
def setsA (c : Array Value) (k : Nat) (v : Value) (l : List Int) : Array Value := l.foldl (fun c o => c.setIfInBounds (o.toNat * 4 + k) v) c
theorem setsA_size (k : Nat) (v : Value) : ∀ (l : List Int) (c : Array Value), (setsA c k v l).size = c.size
  | [], c => rfl
  | o :: l, c => by
    show (setsA (c.setIfInBounds (o.toNat * 4 + k) v) k v l).size = _
    rw [setsA_size k v l]; simp
theorem setsA_snoc (c : Array Value) (k : Nat) (v : Value) (l : List Int) (o : Int) : setsA c k v (l ++ [o]) = (setsA c k v l).setIfInBounds (o.toNat * 4 + k) v := by
  unfold setsA; rw [List.foldl_append]; rfl
theorem set_cells {W : World} {g : Nat} {c : Array Value} {t : TypeId} (h : W.heap[g]? = some (.cells c t (0, 0))) (o : Nat) (v : Value) : (W.setCell ⟨g, o, none⟩ v).heap[g]? = some (.cells (c.setIfInBounds o v) t (0, 0)) := by
  simp [World.setCell, Array.getElem?_modify, h]
theorem cells_of {w : World} {g : Nat} {c : Array Value} {t : TypeId} (h : w.heap[g]? = some (.cells c t (0, 0))) {k : Nat} (hk : k < c.size) : w.cell? ⟨g, k, none⟩ = some c[k] ∧ w.frozen? ⟨g, k, none⟩ = false := by
  simp [World.cell?, World.frozen?, h, hk]
/-- What is known while the table is made. -/
structure Al (w : World) (z c : Array Value) (W : World) : Prop where
  b0 : Below w.heap.size w W
  x0 : W.heap[w.heap.size]? = some (.cells z 122 (0, 0))
  x1 : W.heap[w.heap.size + 1]? = some (.cells c 122 (0, 0))
  s0 : z.size = 128
  s1 : c.size = 128
theorem Al.lt {w W : World} {z c : Array Value} (h : Al w z c W) : w.heap.size + 1 < W.heap.size := (Array.getElem?_eq_some_iff.1 h.x1).1
theorem Al.then {w W W' : World} {z c : Array Value} (h : Al w z c W) (hb : Below W.heap.size W W') : Al w z c W' :=
  ⟨below_then h.b0 h.b0.size hb, block_below hb (Array.getElem?_eq_some_iff.1 h.x0).1 h.x0, block_below hb h.lt h.x1, h.s0, h.s1⟩
theorem Al.alloc {w W : World} {z c : Array Value} (h : Al w z c W) (O : Obj) : Al w z c (W.alloc O) := h.then ((Below.refl _ W).alloc (Nat.le_refl _) O)
theorem Al.set {w W : World} {z c : Array Value} (h : Al w z c W) (o : Nat) (v : Value) : Al w z (c.setIfInBounds o v) (W.setCell ⟨w.heap.size + 1, o, none⟩ v) :=
  ⟨below_of_grown (gfresh (r := none) (gnone h.b0) (grown_set W (w.heap.size + 1) o v) (by omega)), ((grown_set W (w.heap.size + 1) o v).block _ (Array.getElem?_eq_some_iff.1 h.x0).1 (fun e => by injection e; omega)).trans h.x0, set_cells h.x1 o v, h.s0, by simpa using h.s1⟩
theorem u8_set {w W : World} {l : List Int} {v : Value} {B : Nat} (hB : ∀ c t f, W.heap[B]? = some (.cells c t f) → True) (h : (Kd.int .u8).S W (fun b => b ≠ B) l v) (o : Nat) (x : Value) : (Kd.int .u8).S (W.setCell ⟨B, o, none⟩ x) (fun b => b ≠ B) l v :=
  Kd.S.grown (grown_set W B o x) (fun b hb e => hb (by injection e)) h
set_option maxHeartbeats 1600000 in
theorem put1_c (w : World) (z c : Array Value) (W : World) (h : Al w z c W) (g : Go.Fn) (l : List Int) (v : Value) (hS : (Kd.int .u8).S W (fun b => b ≠ w.heap.size + 1) l v) (hl : ∀ o ∈ l, 0 ≤ o ∧ o < 32) :
    Calls Try.prog 107 #[.func g #[] #[], v, .pointer (some ⟨w.heap.size + 1, 0, none⟩)] W fun e w' => e = .returned (.tuple #[]) ∧ Al w z (setsA c 0 (.func g #[] #[]) l) w' := by
  obtain ⟨A, n, rfl⟩ := hS.form
  have hn : l.length ≤ maxLen := by obtain ⟨_, _, e, h1, h2, _⟩ := hS; omega
  unfold maxLen at hn
  have hsf := @store_fn Try.prog
  go_enter Try.func107, Try.ntmps107
  go_wp2
  go_loopw [9] (fun i wr => ∃ j : Nat, j ≤ l.length ∧ i = .int .i64 j ∧ Hid (Al w z (setsA c 0 (.func g #[] #[]) (l.take j)) wr) ∧ Hid ((Kd.int .u8).S wr (fun b => b ≠ w.heap.size + 1) l (.slice A l.length n))) (fun i _ => l.length - (intOf i).toNat)
  case atStart => exact ⟨0, Nat.zero_le _, rfl, Lib.hid h, Lib.hid hS⟩
  case round =>
    clear h hS
    obtain ⟨j, hj, rfl, h, hS⟩ := hrel
    by_cases hlt : j < l.length
    · obtain ⟨Av, cv, eA, -, -, hA⟩ := hS.out
      injection eA with eA1 eA2 eA3
      subst eA1
      clear eA2 eA3
      obtain ⟨bv, ov, rfl, -, hlo, hcv⟩ := int_elem hA hlt
      have hm := hl _ (List.getElem_mem hlt)
      have HT := Lib.hid (show setsA c 0 (.func g #[] #[]) (l.take (j + 1)) = (setsA c 0 (.func g #[] #[]) (l.take j)).setIfInBounds (l[j].toNat * 4 + 0) (.func g #[] #[]) by rw [take_succ_at l hlt, setsA_snoc])
      clear hA
      generalize l[j] = o at hcv hm HT
      obtain ⟨k, rfl⟩ : ∃ k : Nat, o = (k : Int) := ⟨o.toNat, by omega⟩
      have hk : k < 32 := by omega
      have hk' : (k : Int) < 32 := by omega
      generalize setsA c 0 (.func g #[] #[]) (l.take j) = cur at h HT
      have hcz := h.out.s1
      obtain ⟨old, g0, g1⟩ : ∃ old, wr.cell? ⟨w.heap.size + 1, k * 4, none⟩ = some old ∧ wr.frozen? ⟨w.heap.size + 1, k * 4, none⟩ = false := ⟨_, cells_of h.out.x1 (k := k * 4) (by omega)⟩
      go_wp2
      go_roundw
      case rel => exact ⟨j + 1, by omega, by go_num, Lib.hid (by rw [HT.out]; exact h.out.set _ _), Lib.hid (u8_set (w := w) (fun _ _ _ _ => trivial) hS.out _ _)⟩
      case measure => simp [intOf]; omega
    · have hjl : j = l.length := by omega
      subst hjl
      have h := h.out
      rw [List.take_length] at h
      go_wp2
      go_end0
      exact ⟨rfl, h⟩
theorem setsA_nil (c : Array Value) (k : Nat) (v : Value) : setsA c k v [] = c := rfl
theorem zero_size : (Try.zeroCells122).size = 128 := by kernel_rfl
def allF : List Int := (List.range 32).map (fun i : Nat => (i : Int))
noncomputable def Try.tab0 : Array Value := setsA Try.zeroCells122 0 (.func (.func 106) #[] #[]) allF
noncomputable def Try.tab1 : Array Value := setsA Try.tab0 0 (.func (.func 108) #[] #[]) [1]
noncomputable def Try.tab2 : Array Value := setsA Try.tab1 0 (.func (.func 109) #[] #[]) [3, 4]
noncomputable def Try.tab3 : Array Value := setsA Try.tab2 0 (.func (.func 110) #[] #[]) [9]
noncomputable def Try.tab4 : Array Value := setsA Try.tab3 0 (.func (.func 112) #[] #[]) [10, 11, 12]
noncomputable def Try.tab5 : Array Value := setsA Try.tab4 0 (.func (.func 113) #[] #[]) [13]
noncomputable def Try.tab6 : Array Value := setsA Try.tab5 0 (.func (.func 115) #[] #[]) [14]
noncomputable def Try.tab7 : Array Value := setsA Try.tab6 0 (.func (.func 116) #[] #[]) [15, 16, 22, 23, 30]
noncomputable def Try.tab8 : Array Value := setsA Try.tab7 0 (.func (.func 117) #[] #[]) [17, 24, 26, 28]
noncomputable def Try.tab9 : Array Value := setsA Try.tab8 0 (.func (.func 118) #[] #[]) [18, 27, 29]
noncomputable def Try.tab10 : Array Value := setsA Try.tab9 0 (.func (.func 119) #[] #[]) [25]
noncomputable def Try.tab11 : Array Value := setsA Try.tab10 0 (.func (.func 122) #[] #[]) [19, 20, 31]
noncomputable def Try.tab12 : Array Value := setsA Try.tab11 0 (.func (.func 123) #[] #[]) [21]
noncomputable def Try.tab13 : Array Value := setsA Try.tab12 0 (.func (.func 125) #[] #[]) [0]
noncomputable def Try.tab14 : Array Value := setsA Try.tab13 1 (.bool true) [18, 27, 29, 25]
noncomputable def Try.tab15 : Array Value := setsA Try.tab14 2 (.bool true) [19, 20, 21, 31]
noncomputable def Try.tabl : Array Value := setsA Try.tab15 3 (.bool true) [5, 4, 6, 7, 12, 13, 14]
theorem litU {W : World} {B : Nat} {ok : Nat → Prop} {t : TypeId} (l : List Int) (h : W.heap[B]? = some (.cells (l.map (Value.int .u8)).toArray t (0, 0))) (hok : ok B) (hl : l.length ≤ 100) : (Kd.int .u8).S W ok l (.slice (some ⟨B, 0, none⟩) l.length l.length) := by
  refine ⟨some ⟨B, 0, none⟩, l.length, rfl, Nat.le_refl _, by simp [maxLen]; omega, .inr ⟨B, 0, rfl, hok, fun j x hx => ?_⟩⟩
  refine ⟨[.int .u8 x], rfl, fun i u hi => ?_⟩
  cases i with
  | succ i => simp at hi
  | zero =>
    simp at hi
    subst hi
    have hj : j < l.length := (List.getElem?_eq_some_iff.1 hx).1
    have hx' : l[j] = x := (List.getElem?_eq_some_iff.1 hx).2
    have hsz : (Kd.int IntKind.u8).sz = 1 := rfl
    simp [World.cell?, h, hsz, hj, hx']
theorem results_cell_val {P : Program} {fn : Go.Func} {p : Tmp} {ty : TypeId} (h : fn.results = #[.cell p ty]) (tmps : Array Value) (w : World) (a : Addr) (v : Value) (hp : tmps.getD p undef = .pointer (some a)) (hl : (loadVar ty a).run P w = .ok v w) : (results fn tmps).run P w = .ok v w := by
  have hp' : tmps[p]?.getD undef = .pointer (some a) := by simpa using hp
  simp [results, h, hp', asAddr, hl]
theorem range_of {W : World} {g : Nat} {c : Array Value} {t : TypeId} (h : W.heap[g]? = some (.cells c t (0, 0))) : W.rangeAt g 0 c.toList := fun j v hv => by
  simp only [Nat.zero_add]
  simp [World.cell?, h]
  simpa using hv
theorem there_of {W : World} {g n : Nat} {c : Array Value} {t : TypeId} (h : W.heap[g]? = some (.cells c t (0, 0))) (hn : n ≤ c.size) : W.there g 0 n := fun j hj => by
  rw [Nat.zero_add]
  have := cells_of h (k := j) (by omega)
  exact ⟨by rw [this.1]; rfl, this.2⟩
theorem setCells_grown (B : Nat) : ∀ (vs : List Value) (o : Nat) (W : World), W.grownBy (W.setCells B o vs) (some B)
  | [], o, W => ⟨rfl, rfl, rfl, Nat.le_refl _, fun _ _ _ => rfl⟩
  | v :: vs, o, W => (grown_set W B o v).trans (setCells_grown B vs (o + 1) (W.setCell ⟨B, o, none⟩ v))
theorem setCells_below {w W : World} {B : Nat} (h : Below w.heap.size w W) (hB : w.heap.size ≤ B) (o : Nat) (vs : List Value) : Below w.heap.size w (W.setCells B o vs) :=
  below_of_grown (gfresh (r := none) (gnone h) (setCells_grown B vs o W) hB)
theorem tabl_size : Try.tabl.size = 128 := by kernel_rfl
theorem tabl_one : Try.tabl.all (·.oneCell') = true := by kernel_rfl
set_option maxRecDepth 100000 in
set_option maxHeartbeats 8000000 in
theorem all_c (w : World) : Calls Try.prog 73 #[] w fun e w' => e = .returned (.agg Try.tabl) ∧ Below w.heap.size w w' := by
  have hsf := @store_fn Try.prog
  have h : Al w Try.zeroCells122 Try.zeroCells122 ((w.alloc (.cells Try.zeroCells122 122)).alloc (.cells Try.zeroCells122 122)) :=
    ⟨((Below.refl _ w).alloc (Nat.le_refl _) _).alloc (by simp) _, (Below.heap_alloc _ _ _ (by simp)).trans (heap_new w _), heap_at _ _ _ (by simp), zero_size, zero_size⟩
  go_enter Try.func73, Try.ntmps73
  go_wp2
  generalize hW2 : ((w.alloc (.cells Try.zeroCells122 122)).alloc (.cells Try.zeroCells122 122)) = W2 at h ⊢
  clear hW2
  have hzd := Lib.hid (show setsA Try.zeroCells122 0 (.func (.func 106) #[] #[]) allF = Try.tab0 from rfl)
  revert hzd h
  generalize Try.zeroCells122 = z
  intro h hzd
  go_loopw [10] (fun i wr => ∃ j : Nat, j ≤ 32 ∧ i = .int .i64 j ∧ Hid (Al w z (setsA z 0 (.func (.func 106) #[] #[]) (allF.take j)) wr)) (fun i _ => 32 - (intOf i).toNat)
  case atStart => exact ⟨0, Nat.zero_le _, rfl, Lib.hid h⟩
  case round =>
    clear h
    obtain ⟨j, hj, rfl, h⟩ := hrel
    by_cases hlt : j < 32
    · have hfl : j < allF.length := by simp [allF]; omega
      have hfj : allF[j] = (j : Int) := by simp [allF]
      have HT := Lib.hid (show setsA z 0 (.func (.func 106) #[] #[]) (allF.take (j + 1)) = (setsA z 0 (.func (.func 106) #[] #[]) (allF.take j)).setIfInBounds (j * 4 + 0) (.func (.func 106) #[] #[]) by rw [take_succ_at allF hfl, setsA_snoc, hfj]; simp)
      have hj' : (j : Int) < 32 := by omega
      have hcz := h.out.s1
      generalize setsA z 0 (.func (.func 106) #[] #[]) (allF.take j) = cur at h HT hcz
      obtain ⟨old, g0, g1⟩ : ∃ old, wr.cell? ⟨w.heap.size + 1, j * 4, none⟩ = some old ∧ wr.frozen? ⟨w.heap.size + 1, j * 4, none⟩ = false := ⟨_, cells_of h.out.x1 (k := j * 4) (by omega)⟩
      go_wp2
      go_roundw
      case rel => exact ⟨j + 1, by omega, by go_num, Lib.hid (by rw [HT.out]; exact h.out.set _ _)⟩
      case measure => simp [intOf]; omega
    · have hjl : j = 32 := by omega
      subst hjl
      have h : Al w z Try.tab0 wr := by have := h.out; rw [List.take_of_length_le (by simp [allF]), hzd.out] at this; exact this
      clear hj hlt hzd
      have m0 : Hid (0 = 0) := Lib.hid rfl
      have m1 : Hid (0 = 0) := Lib.hid rfl
      have m2 : Hid (0 = 0) := Lib.hid rfl
      have m3 : Hid (0 = 0) := Lib.hid rfl
      have m4 : Hid (0 = 0) := Lib.hid rfl
      have m5 : Hid (0 = 0) := Lib.hid rfl
      have m6 : Hid (0 = 0) := Lib.hid rfl
      have m7 : Hid (0 = 0) := Lib.hid rfl
      have m8 : Hid (0 = 0) := Lib.hid rfl
      have m9 : Hid (0 = 0) := Lib.hid rfl
      have m10 : Hid (0 = 0) := Lib.hid rfl
      have m11 : Hid (0 = 0) := Lib.hid rfl
      have m12 : Hid (0 = 0) := Lib.hid rfl
      go_wp2_with (first
        | (go_at_call 107; have hx := m0.out; clear hx m0; have hq := put1_c w z _ _ (h.alloc (.cells #[.int .u8 1] 62)) (.func 108) [1] _ (litU [1] (heap_new _ (.cells #[.int .u8 1] 62)) (by have := h.lt; omega) (by simp)) (by decide); refine hq.mono ?_; clear hq; rintro e w20 ⟨rfl, h'⟩; replace h : Al w z Try.tab1 w20 := h'; clear h')
        | (go_at_call 107; have hx := m1.out; clear hx m1; have hq := put1_c w z _ _ (h.alloc (.cells #[.int .u8 3, .int .u8 4] 62)) (.func 109) [3, 4] _ (litU [3, 4] (heap_new _ (.cells #[.int .u8 3, .int .u8 4] 62)) (by have := h.lt; omega) (by simp)) (by decide); refine hq.mono ?_; clear hq; rintro e w21 ⟨rfl, h'⟩; replace h : Al w z Try.tab2 w21 := h'; clear h')
        | (go_at_call 107; have hx := m2.out; clear hx m2; have hq := put1_c w z _ _ (h.alloc (.cells #[.int .u8 9] 62)) (.func 110) [9] _ (litU [9] (heap_new _ (.cells #[.int .u8 9] 62)) (by have := h.lt; omega) (by simp)) (by decide); refine hq.mono ?_; clear hq; rintro e w22 ⟨rfl, h'⟩; replace h : Al w z Try.tab3 w22 := h'; clear h')
        | (go_at_call 107; have hx := m3.out; clear hx m3; have hq := put1_c w z _ _ (h.alloc (.cells #[.int .u8 10, .int .u8 11, .int .u8 12] 62)) (.func 112) [10, 11, 12] _ (litU [10, 11, 12] (heap_new _ (.cells #[.int .u8 10, .int .u8 11, .int .u8 12] 62)) (by have := h.lt; omega) (by simp)) (by decide); refine hq.mono ?_; clear hq; rintro e w23 ⟨rfl, h'⟩; replace h : Al w z Try.tab4 w23 := h'; clear h')
        | (go_at_call 107; have hx := m4.out; clear hx m4; have hq := put1_c w z _ _ (h.alloc (.cells #[.int .u8 13] 62)) (.func 113) [13] _ (litU [13] (heap_new _ (.cells #[.int .u8 13] 62)) (by have := h.lt; omega) (by simp)) (by decide); refine hq.mono ?_; clear hq; rintro e w24 ⟨rfl, h'⟩; replace h : Al w z Try.tab5 w24 := h'; clear h')
        | (go_at_call 107; have hx := m5.out; clear hx m5; have hq := put1_c w z _ _ (h.alloc (.cells #[.int .u8 14] 62)) (.func 115) [14] _ (litU [14] (heap_new _ (.cells #[.int .u8 14] 62)) (by have := h.lt; omega) (by simp)) (by decide); refine hq.mono ?_; clear hq; rintro e w25 ⟨rfl, h'⟩; replace h : Al w z Try.tab6 w25 := h'; clear h')
        | (go_at_call 107; have hx := m6.out; clear hx m6; have hq := put1_c w z _ _ (h.alloc (.cells #[.int .u8 15, .int .u8 16, .int .u8 22, .int .u8 23, .int .u8 30] 62)) (.func 116) [15, 16, 22, 23, 30] _ (litU [15, 16, 22, 23, 30] (heap_new _ (.cells #[.int .u8 15, .int .u8 16, .int .u8 22, .int .u8 23, .int .u8 30] 62)) (by have := h.lt; omega) (by simp)) (by decide); refine hq.mono ?_; clear hq; rintro e w26 ⟨rfl, h'⟩; replace h : Al w z Try.tab7 w26 := h'; clear h')
        | (go_at_call 107; have hx := m7.out; clear hx m7; have hq := put1_c w z _ _ (h.alloc (.cells #[.int .u8 17, .int .u8 24, .int .u8 26, .int .u8 28] 62)) (.func 117) [17, 24, 26, 28] _ (litU [17, 24, 26, 28] (heap_new _ (.cells #[.int .u8 17, .int .u8 24, .int .u8 26, .int .u8 28] 62)) (by have := h.lt; omega) (by simp)) (by decide); refine hq.mono ?_; clear hq; rintro e w27 ⟨rfl, h'⟩; replace h : Al w z Try.tab8 w27 := h'; clear h')
        | (go_at_call 107; have hx := m8.out; clear hx m8; have hq := put1_c w z _ _ (h.alloc (.cells #[.int .u8 18, .int .u8 27, .int .u8 29] 62)) (.func 118) [18, 27, 29] _ (litU [18, 27, 29] (heap_new _ (.cells #[.int .u8 18, .int .u8 27, .int .u8 29] 62)) (by have := h.lt; omega) (by simp)) (by decide); refine hq.mono ?_; clear hq; rintro e w28 ⟨rfl, h'⟩; replace h : Al w z Try.tab9 w28 := h'; clear h')
        | (go_at_call 107; have hx := m9.out; clear hx m9; have hq := put1_c w z _ _ (h.alloc (.cells #[.int .u8 25] 62)) (.func 119) [25] _ (litU [25] (heap_new _ (.cells #[.int .u8 25] 62)) (by have := h.lt; omega) (by simp)) (by decide); refine hq.mono ?_; clear hq; rintro e w29 ⟨rfl, h'⟩; replace h : Al w z Try.tab10 w29 := h'; clear h')
        | (go_at_call 107; have hx := m10.out; clear hx m10; have hq := put1_c w z _ _ (h.alloc (.cells #[.int .u8 19, .int .u8 20, .int .u8 31] 62)) (.func 122) [19, 20, 31] _ (litU [19, 20, 31] (heap_new _ (.cells #[.int .u8 19, .int .u8 20, .int .u8 31] 62)) (by have := h.lt; omega) (by simp)) (by decide); refine hq.mono ?_; clear hq; rintro e w30 ⟨rfl, h'⟩; replace h : Al w z Try.tab11 w30 := h'; clear h')
        | (go_at_call 107; have hx := m11.out; clear hx m11; have hq := put1_c w z _ _ (h.alloc (.cells #[.int .u8 21] 62)) (.func 123) [21] _ (litU [21] (heap_new _ (.cells #[.int .u8 21] 62)) (by have := h.lt; omega) (by simp)) (by decide); refine hq.mono ?_; clear hq; rintro e w31 ⟨rfl, h'⟩; replace h : Al w z Try.tab12 w31 := h'; clear h')
        | (go_at_call 107; have hx := m12.out; clear hx m12; have hq := put1_c w z _ _ (h.alloc (.cells #[.int .u8 0] 62)) (.func 125) [0] _ (litU [0] (heap_new _ (.cells #[.int .u8 0] 62)) (by have := h.lt; omega) (by simp)) (by decide); refine hq.mono ?_; clear hq; rintro e w32 ⟨rfl, h'⟩; replace h : Al w z Try.tab13 w32 := h'; clear h'))
      have hS : (Kd.int .u8).S (w32.alloc (.cells #[.int .u8 18, .int .u8 27, .int .u8 29, .int .u8 25] 62)) (fun b => b ≠ w.heap.size + 1) [18, 27, 29, 25] (.slice (some ⟨w32.heap.size, 0, none⟩) 4 4) := litU [18, 27, 29, 25] (heap_new w32 (.cells #[.int .u8 18, .int .u8 27, .int .u8 29, .int .u8 25] 62)) (by have := h.lt; omega) (by simp)
      replace h := h.alloc (.cells #[.int .u8 18, .int .u8 27, .int .u8 29, .int .u8 25] 62)
      generalize hB : w32.heap.size = B at hS ⊢
      generalize hW : w32.alloc (.cells #[.int .u8 18, .int .u8 27, .int .u8 29, .int .u8 25] 62) = W3 at h hS ⊢
      clear hB hW
      generalize c13D : Try.tab13 = c13 at h
      go_loopw [59] (fun i wr => ∃ j : Nat, j ≤ 4 ∧ i = .int .i64 j ∧ Hid (Al w z (setsA c13 1 (.bool true) (([18, 27, 29, 25] : List Int).take j)) wr) ∧ Hid ((Kd.int .u8).S wr (fun b => b ≠ w.heap.size + 1) [18, 27, 29, 25] (.slice (some ⟨B, 0, none⟩) 4 4))) (fun i _ => 4 - (intOf i).toNat)
      case atStart => exact ⟨0, Nat.zero_le _, rfl, Lib.hid (by rw [List.take_zero, setsA_nil]; exact h), Lib.hid hS⟩
      case round =>
        clear h hS
        obtain ⟨j, hj, rfl, h, hS⟩ := hrel
        by_cases hlt : j < 4
        · obtain ⟨Av, cv, eA, -, -, hA⟩ := hS.out
          injection eA with eA1 eA2 eA3
          subst eA1
          clear eA2 eA3
          obtain ⟨bv, ov, eB, -, hlo, hcv⟩ := int_elem hA (show j < ([18, 27, 29, 25] : List Int).length from hlt)
          injection eB with eB
          injection eB with eB1 eB2
          subst eB1 eB2
          rw [Nat.zero_add] at hcv
          have hm : 0 ≤ ([18, 27, 29, 25] : List Int)[j] ∧ ([18, 27, 29, 25] : List Int)[j] < 32 := (by decide : ∀ o ∈ ([18, 27, 29, 25] : List Int), 0 ≤ o ∧ o < 32) _ (List.getElem_mem (show j < ([18, 27, 29, 25] : List Int).length from hlt))
          have HT := Lib.hid (show setsA c13 1 (.bool true) (([18, 27, 29, 25] : List Int).take (j + 1)) = (setsA c13 1 (.bool true) (([18, 27, 29, 25] : List Int).take j)).setIfInBounds (([18, 27, 29, 25] : List Int)[j].toNat * 4 + 1) (.bool true) by rw [take_succ_at ([18, 27, 29, 25] : List Int) hlt, setsA_snoc])
          clear hA
          generalize setsA c13 1 (.bool true) (([18, 27, 29, 25] : List Int).take j) = cur at h HT
          generalize ([18, 27, 29, 25] : List Int)[j] = o at hcv hm HT
          obtain ⟨q, rfl⟩ : ∃ q : Nat, o = (q : Int) := ⟨o.toNat, by omega⟩
          have hq : q < 32 := by omega
          have hq' : (q : Int) < 32 := by omega
          have hcz := h.out.s1
          obtain ⟨old, g0, g1⟩ : ∃ old, wr.cell? ⟨w.heap.size + 1, q * 4 + 1, none⟩ = some old ∧ wr.frozen? ⟨w.heap.size + 1, q * 4 + 1, none⟩ = false := ⟨_, cells_of h.out.x1 (k := q * 4 + 1) (by omega)⟩
          go_wp2
          go_roundw
          case rel => exact ⟨j + 1, by omega, by go_num, Lib.hid (by rw [HT.out]; exact h.out.set _ _), Lib.hid (u8_set (w := w) (fun _ _ _ _ => trivial) hS.out _ _)⟩
          case measure => simp [intOf]; omega
        · have hjl : j = 4 := by omega
          subst hjl
          have h := h.out
          rw [show (([18, 27, 29, 25] : List Int).take 4) = [18, 27, 29, 25] from rfl] at h
          generalize c14D : setsA c13 1 (.bool true) [18, 27, 29, 25] = c14 at h
          clear hS hj hlt
          go_wp2
          have hS : (Kd.int .u8).S (wr.alloc (.cells #[.int .u8 19, .int .u8 20, .int .u8 21, .int .u8 31] 62)) (fun b => b ≠ w.heap.size + 1) [19, 20, 21, 31] (.slice (some ⟨wr.heap.size, 0, none⟩) 4 4) := litU [19, 20, 21, 31] (heap_new wr (.cells #[.int .u8 19, .int .u8 20, .int .u8 21, .int .u8 31] 62)) (by have := h.lt; omega) (by simp)
          replace h := h.alloc (.cells #[.int .u8 19, .int .u8 20, .int .u8 21, .int .u8 31] 62)
          generalize hB4 : wr.heap.size = B4 at hS ⊢
          generalize hW4 : wr.alloc (.cells #[.int .u8 19, .int .u8 20, .int .u8 21, .int .u8 31] 62) = W4 at h hS ⊢
          clear hB4 hW4
          go_loopw [69] (fun i wr => ∃ j : Nat, j ≤ 4 ∧ i = .int .i64 j ∧ Hid (Al w z (setsA c14 2 (.bool true) (([19, 20, 21, 31] : List Int).take j)) wr) ∧ Hid ((Kd.int .u8).S wr (fun b => b ≠ w.heap.size + 1) [19, 20, 21, 31] (.slice (some ⟨B4, 0, none⟩) 4 4))) (fun i _ => 4 - (intOf i).toNat)
          case atStart => exact ⟨0, Nat.zero_le _, rfl, Lib.hid (by rw [List.take_zero, setsA_nil]; exact h), Lib.hid hS⟩
          case round =>
            clear h hS
            obtain ⟨j, hj, rfl, h, hS⟩ := hrel
            by_cases hlt : j < 4
            · obtain ⟨Av, cv, eA, -, -, hA⟩ := hS.out
              injection eA with eA1 eA2 eA3
              subst eA1
              clear eA2 eA3
              obtain ⟨bv, ov, eB, -, hlo, hcv⟩ := int_elem hA (show j < ([19, 20, 21, 31] : List Int).length from hlt)
              injection eB with eB
              injection eB with eB1 eB2
              subst eB1 eB2
              rw [Nat.zero_add] at hcv
              have hm : 0 ≤ ([19, 20, 21, 31] : List Int)[j] ∧ ([19, 20, 21, 31] : List Int)[j] < 32 := (by decide : ∀ o ∈ ([19, 20, 21, 31] : List Int), 0 ≤ o ∧ o < 32) _ (List.getElem_mem (show j < ([19, 20, 21, 31] : List Int).length from hlt))
              have HT := Lib.hid (show setsA c14 2 (.bool true) (([19, 20, 21, 31] : List Int).take (j + 1)) = (setsA c14 2 (.bool true) (([19, 20, 21, 31] : List Int).take j)).setIfInBounds (([19, 20, 21, 31] : List Int)[j].toNat * 4 + 2) (.bool true) by rw [take_succ_at ([19, 20, 21, 31] : List Int) hlt, setsA_snoc])
              clear hA
              generalize setsA c14 2 (.bool true) (([19, 20, 21, 31] : List Int).take j) = cur at h HT
              generalize ([19, 20, 21, 31] : List Int)[j] = o at hcv hm HT
              obtain ⟨q, rfl⟩ : ∃ q : Nat, o = (q : Int) := ⟨o.toNat, by omega⟩
              have hq : q < 32 := by omega
              have hq' : (q : Int) < 32 := by omega
              have hcz := h.out.s1
              obtain ⟨old, g0, g1⟩ : ∃ old, wr.cell? ⟨w.heap.size + 1, q * 4 + 2, none⟩ = some old ∧ wr.frozen? ⟨w.heap.size + 1, q * 4 + 2, none⟩ = false := ⟨_, cells_of h.out.x1 (k := q * 4 + 2) (by omega)⟩
              go_wp2
              go_roundw
              case rel => exact ⟨j + 1, by omega, by go_num, Lib.hid (by rw [HT.out]; exact h.out.set _ _), Lib.hid (u8_set (w := w) (fun _ _ _ _ => trivial) hS.out _ _)⟩
              case measure => simp [intOf]; omega
            · have hjl : j = 4 := by omega
              subst hjl
              have h := h.out
              rw [show (([19, 20, 21, 31] : List Int).take 4) = [19, 20, 21, 31] from rfl] at h
              generalize c15D : setsA c14 2 (.bool true) [19, 20, 21, 31] = c15 at h
              clear hS hj hlt
              go_wp2
              have hS : (Kd.int .u8).S (wr.alloc (.cells #[.int .u8 5, .int .u8 4, .int .u8 6, .int .u8 7, .int .u8 12, .int .u8 13, .int .u8 14] 62)) (fun b => b ≠ w.heap.size + 1) [5, 4, 6, 7, 12, 13, 14] (.slice (some ⟨wr.heap.size, 0, none⟩) 7 7) := litU [5, 4, 6, 7, 12, 13, 14] (heap_new wr (.cells #[.int .u8 5, .int .u8 4, .int .u8 6, .int .u8 7, .int .u8 12, .int .u8 13, .int .u8 14] 62)) (by have := h.lt; omega) (by simp)
              replace h := h.alloc (.cells #[.int .u8 5, .int .u8 4, .int .u8 6, .int .u8 7, .int .u8 12, .int .u8 13, .int .u8 14] 62)
              generalize hB5 : wr.heap.size = B5 at hS ⊢
              generalize hW5 : wr.alloc (.cells #[.int .u8 5, .int .u8 4, .int .u8 6, .int .u8 7, .int .u8 12, .int .u8 13, .int .u8 14] 62) = W5 at h hS ⊢
              clear hB5 hW5
              go_loopw [79] (fun i wr => ∃ j : Nat, j ≤ 7 ∧ i = .int .i64 j ∧ Hid (Al w z (setsA c15 3 (.bool true) (([5, 4, 6, 7, 12, 13, 14] : List Int).take j)) wr) ∧ Hid ((Kd.int .u8).S wr (fun b => b ≠ w.heap.size + 1) [5, 4, 6, 7, 12, 13, 14] (.slice (some ⟨B5, 0, none⟩) 7 7))) (fun i _ => 7 - (intOf i).toNat)
              case atStart => exact ⟨0, Nat.zero_le _, rfl, Lib.hid (by rw [List.take_zero, setsA_nil]; exact h), Lib.hid hS⟩
              case round =>
                clear h hS
                obtain ⟨j, hj, rfl, h, hS⟩ := hrel
                by_cases hlt : j < 7
                · obtain ⟨Av, cv, eA, -, -, hA⟩ := hS.out
                  injection eA with eA1 eA2 eA3
                  subst eA1
                  clear eA2 eA3
                  obtain ⟨bv, ov, eB, -, hlo, hcv⟩ := int_elem hA (show j < ([5, 4, 6, 7, 12, 13, 14] : List Int).length from hlt)
                  injection eB with eB
                  injection eB with eB1 eB2
                  subst eB1 eB2
                  rw [Nat.zero_add] at hcv
                  have hm : 0 ≤ ([5, 4, 6, 7, 12, 13, 14] : List Int)[j] ∧ ([5, 4, 6, 7, 12, 13, 14] : List Int)[j] < 32 := (by decide : ∀ o ∈ ([5, 4, 6, 7, 12, 13, 14] : List Int), 0 ≤ o ∧ o < 32) _ (List.getElem_mem (show j < ([5, 4, 6, 7, 12, 13, 14] : List Int).length from hlt))
                  have HT := Lib.hid (show setsA c15 3 (.bool true) (([5, 4, 6, 7, 12, 13, 14] : List Int).take (j + 1)) = (setsA c15 3 (.bool true) (([5, 4, 6, 7, 12, 13, 14] : List Int).take j)).setIfInBounds (([5, 4, 6, 7, 12, 13, 14] : List Int)[j].toNat * 4 + 3) (.bool true) by rw [take_succ_at ([5, 4, 6, 7, 12, 13, 14] : List Int) hlt, setsA_snoc])
                  clear hA
                  generalize setsA c15 3 (.bool true) (([5, 4, 6, 7, 12, 13, 14] : List Int).take j) = cur at h HT
                  generalize ([5, 4, 6, 7, 12, 13, 14] : List Int)[j] = o at hcv hm HT
                  obtain ⟨q, rfl⟩ : ∃ q : Nat, o = (q : Int) := ⟨o.toNat, by omega⟩
                  have hq : q < 32 := by omega
                  have hq' : (q : Int) < 32 := by omega
                  have hcz := h.out.s1
                  obtain ⟨old, g0, g1⟩ : ∃ old, wr.cell? ⟨w.heap.size + 1, q * 4 + 3, none⟩ = some old ∧ wr.frozen? ⟨w.heap.size + 1, q * 4 + 3, none⟩ = false := ⟨_, cells_of h.out.x1 (k := q * 4 + 3) (by omega)⟩
                  go_wp2
                  go_roundw
                  case rel => exact ⟨j + 1, by omega, by go_num, Lib.hid (by rw [HT.out]; exact h.out.set _ _), Lib.hid (u8_set (w := w) (fun _ _ _ _ => trivial) hS.out _ _)⟩
                  case measure => simp [intOf]; omega
                · have hjl : j = 7 := by omega
                  subst hjl
                  have h := h.out
                  rw [show (([5, 4, 6, 7, 12, 13, 14] : List Int).take 7) = [5, 4, 6, 7, 12, 13, 14] from rfl] at h
                  generalize c16D : setsA c15 3 (.bool true) [5, 4, 6, 7, 12, 13, 14] = c16 at h
                  clear hS hj hlt
                  have hc16 : c16 = Try.tabl := by rw [← c16D, ← c15D, ← c14D, ← c13D]; rfl
                  clear c16D c15D c14D c13D
                  subst hc16
                  go_wp2_with (first
                    | (refine wpList_load_mid rfl 122 (.tmp 1) rfl (w.heap.size + 1) 0 rfl Try.tabl.toList _ ?hc Try.underlying122 rfl ?hi ?_)
                    | (refine wpList_store_mid rfl 122 (.tmp 0) (.tmp 87) rfl w.heap.size 0 Try.tabl.toList.toArray rfl rfl ?ht ?hi2 ?h1 ?_))
                  case hc => exact range_of h.x1
                  case hi => rw [Array.length_toList, tabl_size]; kernel_rfl
                  case ht => exact there_of h.x0 (by rw [h.s0]; simp [tabl_size])
                  case hi2 => rw [List.size_toArray, Array.length_toList, tabl_size]; kernel_rfl
                  case h1 => simpa using tabl_one
                  have hr := World.rangeAt_setCells_same wr w.heap.size 0 Try.tabl.toList (there_of h.x0 (by rw [h.s0]; simp [tabl_size]))
                  have hgb := setCells_below h.b0 (B := w.heap.size) (Nat.le_refl _) 0 Try.tabl.toList
                  refine bodyPost_ret (v := .agg Try.tabl) ?_ rfl ⟨rfl, hgb⟩
                  have hl := run_loadVar_mid (P := Try.prog) _ w.heap.size 0 122 _ _ hr Try.underlying122 rfl (by rw [Array.length_toList, tabl_size]; kernel_rfl)
                  rw [Array.toArray_toList] at hl
                  refine results_cell_val (p := 0) (ty := 122) Try.results73 _ _ ⟨w.heap.size, 0, none⟩ _ (by rfl) ?_
                  exact hl
end Go.Proofs.Ytdflckjnpgbjlaa

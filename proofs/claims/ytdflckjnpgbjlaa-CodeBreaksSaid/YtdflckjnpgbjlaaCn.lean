/- Layer 22's law: great code; code that is known, walked. Conditions: the argument reads. -/
import Derived.Test.YtdflckjnpgbjlaaCm
set_option linter.unusedVariables false
set_option maxRecDepth 20000
set_option linter.unusedSimpArgs false
namespace Go.Proofs.Ytdflckjnpgbjlaa
open Go.RowKit

def badI (i : In) : Bool := decide (20 < i.cs.length) || decide (200 < i.s.size)
def grC (l : List In) : Bool := (l.take 101).any badI || decide (100 < l.length)
set_option maxHeartbeats 4000000 in
theorem great22_c (l : List In) (v : Value) (w : World) (ok : Nat → Prop) (hv : (Kd.inq .u8).S w ok l v) : Calls Try.prog 35 #[v] w fun e w' => e = .returned (.bool (grC l)) ∧ Below w.heap.size w w' := by
  obtain ⟨A, c, rfl, hl, hc, hA⟩ := hv
  unfold maxLen at hc
  have HG : Hid (grC l = ((l.take 101).any badI || decide (100 < l.length))) := Lib.hid rfl
  generalize grC l = R at HG
  go_enter Try.func35, Try.ntmps35
  go_wp2
  go_loopw [3] (fun i wr => ∃ j : Nat, j ≤ l.length ∧ j ≤ 101 ∧ i = .int .i64 j ∧ Hid (∀ x ∈ l.take j, badI x = false) ∧ wr = w) (fun i _ => l.length - (intOf i).toNat)
  case atStart => exact ⟨0, Nat.zero_le _, by omega, rfl, Lib.hid (by simp), rfl⟩
  case round =>
    obtain ⟨j, hj, hj2, rfl, hall, rfl⟩ := hrel
    by_cases hlt : j < l.length
    · have hlti : (j : Int) < l.length := by omega
      by_cases h100 : j ≤ 100
      · have h100i : (j : Int) ≤ 100 := by omega
        obtain ⟨bb, ob, u, rfl, hokb, hlo, h0, h1, h2, h3, h4, h5, h6, h7⟩ := in_elem hA hlt
        obtain ⟨Au, cu, rfl⟩ := h7.form
        have HN : Hid (badI l[j] = true → R = true) := Lib.hid (fun hb => by
          rw [HG.out, Bool.or_eq_true]
          left
          rw [List.any_eq_true]
          exact ⟨l[j], List.mem_iff_getElem.2 ⟨j, by rw [List.length_take]; omega, by simp⟩, hb⟩)
        have HY : Hid (badI l[j] = false → ∀ x ∈ l.take (j + 1), badI x = false) := Lib.hid (fun hb x hx => by
          rw [take_succ_at l hlt, List.mem_append, List.mem_singleton] at hx
          exact hx.elim (hall.out x) (fun e => e ▸ hb))
        clear hA h0 h1 h2 h3 h5 h7 hall
        generalize l[j] = x at h4 h6 HN HY
        by_cases q1 : (20 : Int) < x.cs.length
        · have HT := Lib.hid (HN.out (by unfold badI; simp; omega))
          clear HN HY
          go_wp2
          go_ret
          exact ⟨ret_bool HT.out.symm, Below.refl _ _⟩
        · have d1 : decide ((20 : Int) < x.cs.length) = false := by simpa using q1
          by_cases q2 : (200 : Int) < x.s.size
          · have HT := Lib.hid (HN.out (by unfold badI; simp; omega))
            clear HN HY
            go_wp2
            go_ret
            exact ⟨ret_bool HT.out.symm, Below.refl _ _⟩
          · have d2 : decide ((200 : Int) < x.s.size) = false := by simpa using q2
            have HT := Lib.hid (HY.out (by unfold badI; simp; omega))
            clear HN HY
            go_wp2
            go_roundw
            case rel => exact ⟨j + 1, by omega, by omega, by go_num, HT, (by trivial)⟩
            case measure => simp [intOf]; omega
      · have h100i : decide ((j : Int) ≤ 100) = false := by simp; omega
        have HT : Hid (R = true) := Lib.hid (by rw [HG.out, Bool.or_eq_true]; right; simp; omega)
        have hgt : (100 : Int) < l.length := by omega
        clear hall hA HG
        go_wp2
        go_ret
        exact ⟨ret_bool HT.out.symm, Below.refl _ _⟩
    · have hlti : decide ((j : Int) < l.length) = false := by simp; omega
      have HF : Hid (R = decide ((100 : Int) < l.length)) := Lib.hid (by
        rw [HG.out]
        have : (l.take 101).any badI = false := by
          rw [List.any_eq_false]
          intro x hx
          have := hall.out x (by rw [List.take_of_length_le (by omega)]; exact List.mem_of_mem_take hx)
          rw [this]; simp
        rw [this, Bool.false_or, decide_eq_decide]
        omega)
      clear hall hA HG
      go_wp2
      go_ret
      exact ⟨ret_bool HF.out.symm, Below.refl _ _⟩
namespace K22
def iP : In := ⟨5, 0, 0, 0, ⟨#[]⟩, 0, []⟩
def iG : In := ⟨18, 0, 0, 0, ⟨#[102]⟩, 2, []⟩
def iU : In := ⟨19, 1, 0, 0, ⟨#[]⟩, 0, []⟩
def iC : In := ⟨17, 0, 0, 3, ⟨#[97]⟩, 0, []⟩
theorem kP : checkC [iP] [] = 0 := by kernel_rfl
theorem kB : checkC [iG, iU, iP] [] = 33 := by kernel_rfl
theorem kC : checkC [iC] [] = 33 := by kernel_rfl
theorem kN : checkC [] [] = 33 := by kernel_rfl
end K22
theorem in_lit1 {W : World} {B : Nat} {t : TypeId} {o a kd n : Int} {s : ByteArray} (h : W.heap[B]? = some (.cells #[.int .u8 o, .int .i64 a, .int .i64 0, .int .u8 kd, .string s, .int .i64 n, .slice none 0 0] t (0, 0))) : (Kd.inq .u8).S W (fun _ => True) [⟨o, a, 0, kd, s, n, []⟩] (.slice (some ⟨B, 0, none⟩) 1 1) := by
  refine ⟨some ⟨B, 0, none⟩, 1, rfl, by simp, by simp [maxLen], .inr ⟨B, 0, rfl, trivial, fun j x hx => ?_⟩⟩
  match j, hx with
  | 0, hx =>
    simp at hx; subst hx
    refine ⟨_, ⟨_, rfl, Kd.S.nil _ _ _⟩, fun q u hu => ?_⟩
    match q, hu with
    | 0, hu => simp at hu; subst hu; simp [World.cell?, h, Kd.inq]
    | 1, hu => simp at hu; subst hu; simp [World.cell?, h, Kd.inq]
    | 2, hu => simp at hu; subst hu; simp [World.cell?, h, Kd.inq]
    | 3, hu => simp at hu; subst hu; simp [World.cell?, h, Kd.inq]
    | 4, hu => simp at hu; subst hu; simp [World.cell?, h, Kd.inq]
    | 5, hu => simp at hu; subst hu; simp [World.cell?, h, Kd.inq]
    | 6, hu => simp at hu; subst hu; simp [World.cell?, h, Kd.inq]
    | q + 7, hu => simp at hu
  | j + 1, hx => simp at hx
theorem in_lit3 {W : World} {B : Nat} {t : TypeId} {xo xa xk xn yo ya yk yn zo za zk zn : Int} {xs ys zs : ByteArray} (h : W.heap[B]? = some (.cells #[.int .u8 xo, .int .i64 xa, .int .i64 0, .int .u8 xk, .string xs, .int .i64 xn, .slice none 0 0, .int .u8 yo, .int .i64 ya, .int .i64 0, .int .u8 yk, .string ys, .int .i64 yn, .slice none 0 0, .int .u8 zo, .int .i64 za, .int .i64 0, .int .u8 zk, .string zs, .int .i64 zn, .slice none 0 0] t (0, 0))) : (Kd.inq .u8).S W (fun _ => True) [⟨xo, xa, 0, xk, xs, xn, []⟩, ⟨yo, ya, 0, yk, ys, yn, []⟩, ⟨zo, za, 0, zk, zs, zn, []⟩] (.slice (some ⟨B, 0, none⟩) 3 3) := by
  refine ⟨some ⟨B, 0, none⟩, 3, rfl, by simp, by simp [maxLen], .inr ⟨B, 0, rfl, trivial, fun j x hx => ?_⟩⟩
  match j, hx with
  | 0, hx =>
    simp at hx; subst hx
    refine ⟨_, ⟨_, rfl, Kd.S.nil _ _ _⟩, fun q u hu => ?_⟩
    match q, hu with
    | 0, hu => simp at hu; subst hu; simp [World.cell?, h, Kd.inq]
    | 1, hu => simp at hu; subst hu; simp [World.cell?, h, Kd.inq]
    | 2, hu => simp at hu; subst hu; simp [World.cell?, h, Kd.inq]
    | 3, hu => simp at hu; subst hu; simp [World.cell?, h, Kd.inq]
    | 4, hu => simp at hu; subst hu; simp [World.cell?, h, Kd.inq]
    | 5, hu => simp at hu; subst hu; simp [World.cell?, h, Kd.inq]
    | 6, hu => simp at hu; subst hu; simp [World.cell?, h, Kd.inq]
    | q + 7, hu => simp at hu
  | 1, hx =>
    simp at hx; subst hx
    refine ⟨_, ⟨_, rfl, Kd.S.nil _ _ _⟩, fun q u hu => ?_⟩
    match q, hu with
    | 0, hu => simp at hu; subst hu; simp [World.cell?, h, Kd.inq]
    | 1, hu => simp at hu; subst hu; simp [World.cell?, h, Kd.inq]
    | 2, hu => simp at hu; subst hu; simp [World.cell?, h, Kd.inq]
    | 3, hu => simp at hu; subst hu; simp [World.cell?, h, Kd.inq]
    | 4, hu => simp at hu; subst hu; simp [World.cell?, h, Kd.inq]
    | 5, hu => simp at hu; subst hu; simp [World.cell?, h, Kd.inq]
    | 6, hu => simp at hu; subst hu; simp [World.cell?, h, Kd.inq]
    | q + 7, hu => simp at hu
  | 2, hx =>
    simp at hx; subst hx
    refine ⟨_, ⟨_, rfl, Kd.S.nil _ _ _⟩, fun q u hu => ?_⟩
    match q, hu with
    | 0, hu => simp at hu; subst hu; simp [World.cell?, h, Kd.inq]
    | 1, hu => simp at hu; subst hu; simp [World.cell?, h, Kd.inq]
    | 2, hu => simp at hu; subst hu; simp [World.cell?, h, Kd.inq]
    | 3, hu => simp at hu; subst hu; simp [World.cell?, h, Kd.inq]
    | 4, hu => simp at hu; subst hu; simp [World.cell?, h, Kd.inq]
    | 5, hu => simp at hu; subst hu; simp [World.cell?, h, Kd.inq]
    | 6, hu => simp at hu; subst hu; simp [World.cell?, h, Kd.inq]
    | q + 7, hu => simp at hu
  | j + 3, hx => simp at hx
/-- What is known along the walk. -/
structure K22.K (w W : World) : Prop where
  b0 : Below w.heap.size w W
  x0 : W.heap[w.heap.size]? = some (.cells #[.int .u8 5, .int .i64 0, .int .i64 0, .int .u8 0, .string ⟨#[]⟩, .int .i64 0, .slice none 0 0] 65 (0, 0))
  x1 : W.heap[w.heap.size + 1]? = some (.cells #[.slice (some ⟨w.heap.size, 0, none⟩) 1 1, .map none] 59 (0, 0))
  x2 : W.heap[w.heap.size + 1 + 1]? = some (.cells #[.int .u8 18, .int .i64 0, .int .i64 0, .int .u8 0, .string ⟨#[102]⟩, .int .i64 2, .slice none 0 0, .int .u8 19, .int .i64 1, .int .i64 0, .int .u8 0, .string ⟨#[]⟩, .int .i64 0, .slice none 0 0, .int .u8 5, .int .i64 0, .int .i64 0, .int .u8 0, .string ⟨#[]⟩, .int .i64 0, .slice none 0 0] 65 (0, 0))
  x3 : W.heap[w.heap.size + 1 + 1 + 1]? = some (.cells #[.slice (some ⟨w.heap.size + 1 + 1, 0, none⟩) 3 3, .map none] 59 (0, 0))
  x4 : W.heap[w.heap.size + 1 + 1 + 1 + 1]? = some (.cells #[.int .u8 17, .int .i64 0, .int .i64 0, .int .u8 3, .string ⟨#[97]⟩, .int .i64 0, .slice none 0 0] 65 (0, 0))
  x5 : W.heap[w.heap.size + 1 + 1 + 1 + 1 + 1]? = some (.cells #[.slice (some ⟨w.heap.size + 1 + 1 + 1 + 1, 0, none⟩) 1 1, .map none] 59 (0, 0))
theorem K22.K.then {w W W' : World} (h : K22.K w W) (hb : Below W.heap.size W W') : K22.K w W' :=
  ⟨below_then h.b0 h.b0.size hb, block_below hb (Array.getElem?_eq_some_iff.1 h.x0).1 h.x0, block_below hb (Array.getElem?_eq_some_iff.1 h.x1).1 h.x1, block_below hb (Array.getElem?_eq_some_iff.1 h.x2).1 h.x2, block_below hb (Array.getElem?_eq_some_iff.1 h.x3).1 h.x3, block_below hb (Array.getElem?_eq_some_iff.1 h.x4).1 h.x4, block_below hb (Array.getElem?_eq_some_iff.1 h.x5).1 h.x5⟩
theorem K22.start (w : World) : K22.K w ((((((w.alloc (.cells #[.int .u8 5, .int .i64 0, .int .i64 0, .int .u8 0, .string ⟨#[]⟩, .int .i64 0, .slice none 0 0] 65)).alloc (.cells #[.slice (some ⟨w.heap.size, 0, none⟩) 1 1, .map none] 59)).alloc (.cells #[.int .u8 18, .int .i64 0, .int .i64 0, .int .u8 0, .string ⟨#[102]⟩, .int .i64 2, .slice none 0 0, .int .u8 19, .int .i64 1, .int .i64 0, .int .u8 0, .string ⟨#[]⟩, .int .i64 0, .slice none 0 0, .int .u8 5, .int .i64 0, .int .i64 0, .int .u8 0, .string ⟨#[]⟩, .int .i64 0, .slice none 0 0] 65)).alloc (.cells #[.slice (some ⟨w.heap.size + 1 + 1, 0, none⟩) 3 3, .map none] 59)).alloc (.cells #[.int .u8 17, .int .i64 0, .int .i64 0, .int .u8 3, .string ⟨#[97]⟩, .int .i64 0, .slice none 0 0] 65)).alloc (.cells #[.slice (some ⟨w.heap.size + 1 + 1 + 1 + 1, 0, none⟩) 1 1, .map none] 59)) := by
  refine ⟨?_, ?_, ?_, ?_, ?_, ?_, ?_⟩
  · exact ((((((Below.refl _ w).alloc (Nat.le_refl _) _).alloc (by simp) _).alloc (by simp; omega) _).alloc (by simp; omega) _).alloc (by simp; omega) _).alloc (by simp; omega) _
  all_goals repeat (first | exact heap_at _ _ _ (by simp) | exact heap_new w _ | refine (Below.heap_alloc _ _ _ (by simp <;> omega)).trans ?_)
set_option maxRecDepth 100000 in
set_option maxHeartbeats 8000000 in
theorem wakes22_c (w : World) : Calls Try.prog 36 #[] w fun e w' => e = .returned (.bool true) ∧ Below w.heap.size w w' := by
  have HZ := Lib.hid (K22.start w)
  have HC1 := Lib.hid (fun W (h : K22.K w W) => Check_c [K22.iP] [] _ (.map none) W _ (in_lit1 h.x0) (.inl ⟨rfl, rfl⟩) (by simp [K22.iP]))
  have HC2 := Lib.hid (fun W (h : K22.K w W) => Check_c [K22.iG, K22.iU, K22.iP] [] _ (.map none) W _ (in_lit3 h.x2) (.inl ⟨rfl, rfl⟩) (by simp [K22.iP, K22.iG, K22.iU]))
  have HC3 := Lib.hid (fun W (h : K22.K w W) => Check_c [K22.iC] [] _ (.map none) W _ (in_lit1 h.x4) (.inl ⟨rfl, rfl⟩) (by simp [K22.iC]))
  have HC4 := Lib.hid (fun W => Check_c [] [] (.slice none 0 0) (.map none) W (fun _ => True) (Kd.S.nil _ _ _) (.inl ⟨rfl, rfl⟩) (by simp))
  have HE1 := Lib.hid (fun W => Ends_c K22.iP (.agg #[.int .u8 5, .int .i64 0, .int .i64 0, .int .u8 0, .string ⟨#[]⟩, .int .i64 0, .slice none 0 0]) W (fun _ => True) ⟨_, rfl, Kd.S.nil _ _ _⟩ (by simp [K22.iP]))
  have HE2 := Lib.hid (fun W => Ends_c K22.iC (.agg #[.int .u8 17, .int .i64 0, .int .i64 0, .int .u8 3, .string ⟨#[97]⟩, .int .i64 0, .slice none 0 0]) W (fun _ => True) ⟨_, rfl, Kd.S.nil _ _ _⟩ (by simp [K22.iC]))
  rw [K22.kP] at HC1
  rw [K22.kB] at HC2
  rw [K22.kC] at HC3
  rw [K22.kN] at HC4
  rw [show endB K22.iP.op = true from rfl] at HE1
  rw [show endB K22.iC.op = false from rfl] at HE2
  have m1 : Hid (0 = 0) := Lib.hid rfl
  have m2 : Hid (0 = 0) := Lib.hid rfl
  have m3 : Hid (0 = 0) := Lib.hid rfl
  have m4 : Hid (0 = 0) := Lib.hid rfl
  go_enter Try.func36, Try.ntmps36
  go_wp2_with (first
    | (go_at_call 39; have hx := m1.out; clear hx m1; refine (HC1.out _ HZ.out).mono ?_; clear HC1; rintro e w1 ⟨rfl, hb1⟩; have h := HZ.out.then hb1; clear HZ hb1; obtain ⟨a10, a11⟩ := box2 (h.x1); obtain ⟨a30, a31⟩ := box2 (h.x3); obtain ⟨a50, a51⟩ := box2 (h.x5); obtain ⟨p0, p1, p2, p3, p4, p5, p6⟩ := box7 h.x0; obtain ⟨q0, q1, q2, q3, q4, q5, q6⟩ := box7 h.x4)
    | (go_at_call 39; have hx := m2.out; clear hx m2; refine (HC2.out _ h).mono ?_; clear HC2; rintro e w2 ⟨rfl, hb1⟩; replace h := h.then hb1; clear hb1; clear a10 a11 a30 a31 a50 a51 p0 p1 p2 p3 p4 p5 p6 q0 q1 q2 q3 q4 q5 q6; obtain ⟨a10, a11⟩ := box2 (h.x1); obtain ⟨a30, a31⟩ := box2 (h.x3); obtain ⟨a50, a51⟩ := box2 (h.x5); obtain ⟨p0, p1, p2, p3, p4, p5, p6⟩ := box7 h.x0; obtain ⟨q0, q1, q2, q3, q4, q5, q6⟩ := box7 h.x4)
    | (go_at_call 39; have hx := m3.out; clear hx m3; refine (HC3.out _ h).mono ?_; clear HC3; rintro e w3 ⟨rfl, hb1⟩; replace h := h.then hb1; clear hb1; clear a10 a11 a30 a31 a50 a51 p0 p1 p2 p3 p4 p5 p6 q0 q1 q2 q3 q4 q5 q6; obtain ⟨a10, a11⟩ := box2 (h.x1); obtain ⟨a30, a31⟩ := box2 (h.x3); obtain ⟨a50, a51⟩ := box2 (h.x5); obtain ⟨p0, p1, p2, p3, p4, p5, p6⟩ := box7 h.x0; obtain ⟨q0, q1, q2, q3, q4, q5, q6⟩ := box7 h.x4)
    | (go_at_call 37; have hx := m4.out; clear hx m4; refine (HE1.out _).mono ?_; clear HE1; rintro e w4 ⟨rfl, hb1⟩; replace h := h.then hb1; clear hb1; clear a10 a11 a30 a31 a50 a51 p0 p1 p2 p3 p4 p5 p6 q0 q1 q2 q3 q4 q5 q6; obtain ⟨a10, a11⟩ := box2 (h.x1); obtain ⟨a30, a31⟩ := box2 (h.x3); obtain ⟨a50, a51⟩ := box2 (h.x5); obtain ⟨p0, p1, p2, p3, p4, p5, p6⟩ := box7 h.x0; obtain ⟨q0, q1, q2, q3, q4, q5, q6⟩ := box7 h.x4)
    | (go_at_call 37; refine (HE2.out _).mono ?_; clear HE2; rintro e w5 ⟨rfl, hb1⟩; replace h := h.then hb1; clear hb1; clear a10 a11 a30 a31 a50 a51 p0 p1 p2 p3 p4 p5 p6 q0 q1 q2 q3 q4 q5 q6; obtain ⟨a10, a11⟩ := box2 (h.x1); obtain ⟨a30, a31⟩ := box2 (h.x3); obtain ⟨a50, a51⟩ := box2 (h.x5); obtain ⟨p0, p1, p2, p3, p4, p5, p6⟩ := box7 h.x0; obtain ⟨q0, q1, q2, q3, q4, q5, q6⟩ := box7 h.x4)
    | (go_at_call 39; refine (HC4.out _).mono ?_; clear HC4; rintro e w6 ⟨rfl, hb1⟩; replace h := h.then hb1; clear hb1; clear a10 a11 a30 a31 a50 a51 p0 p1 p2 p3 p4 p5 p6 q0 q1 q2 q3 q4 q5 q6))
  go_ret
  exact ⟨rfl, h.b0⟩
end Go.Proofs.Ytdflckjnpgbjlaa

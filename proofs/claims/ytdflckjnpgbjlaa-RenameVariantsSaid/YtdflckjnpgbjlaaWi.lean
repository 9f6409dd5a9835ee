/- The law of layer 5 wakes. No condition. -/
import Derived.Test.YtdflckjnpgbjlaaWh
import Derived.Test.YtdflckjnpgbjlaaKs
set_option linter.unusedVariables false
set_option maxRecDepth 20000
set_option linter.unusedSimpArgs false
namespace Go.Proofs.Ytdflckjnpgbjlaa
open Go.RowKit

def kf (l : List Tm) : Tm := ⟨4, ⟨#[102]⟩, 0, l⟩
theorem F2V_c (n n' : Int) {w W : World} {L : List (List Tm × Value)} (h : Ks w L W) :
    Calls Try.prog 22 #[.string ⟨#[102]⟩, .slice (some ⟨W.heap.size, 0, none⟩) 2 2] (W.alloc (.cells #[.int .u8 1, .string ⟨#[]⟩, .int .i64 n, .slice none 0 0, .int .u8 1, .string ⟨#[]⟩, .int .i64 n', .slice none 0 0] 24))
      fun e w' => ∃ A c, e = .returned (.agg #[.int .u8 4, .string ⟨#[102]⟩, .int .i64 0, .slice A 2 c]) ∧ Ks w (([kV n, kV n'], .slice A 2 c) :: L) w' :=
  F_known ⟨#[102]⟩ (kV n) [kV n'] (h.two (kV n) (kV n') _ _ (Kd.S.nil _ _ _) (Kd.S.nil _ _ _)) (by simp)
theorem F1V_c (n : Int) {w W : World} {L : List (List Tm × Value)} (h : Ks w L W) :
    Calls Try.prog 22 #[.string ⟨#[102]⟩, .slice (some ⟨W.heap.size, 0, none⟩) 1 1] (W.alloc (.cells #[.int .u8 1, .string ⟨#[]⟩, .int .i64 n, .slice none 0 0] 24))
      fun e w' => ∃ A c, e = .returned (.agg #[.int .u8 4, .string ⟨#[102]⟩, .int .i64 0, .slice A 1 c]) ∧ Ks w (([kV n], .slice A 1 c) :: L) w' :=
  F_known ⟨#[102]⟩ (kV n) [] (h.one (kV n) _ (Kd.S.nil _ _ _)) (by simp)
theorem canL_1 : canL [kf [kV 7, kV 3], kV 7] = [kf [kV 0, kV 1], kV 0] := by simp [canL, kf, kV, renL, Tm.ren, occL, Tm.occ, dd, addNew, plc]
theorem canL_2 : eqbL (canL [kf [kV 0, kV 0]]) (canL [kf [kV 0, kV 1]]) = false := by simp [canL, kf, kV, renL, Tm.ren, occL, Tm.occ, dd, addNew, plc, eqbL, Tm.eqb]
theorem canL_3 : eqbL (canL [kf [kV 0, kV 1]]) (canL [kf [kV 1, kV 0]]) = true := by simp [canL, kf, kV, renL, Tm.ren, occL, Tm.occ, dd, addNew, plc, eqbL, Tm.eqb]
theorem count_1 : most (dd (occL [kf [kV 2]])) + 1 = 3 := by simp [kf, kV, occL, Tm.occ, dd, addNew, most]; omega
theorem kf_wf (n n' : Int) (h : -9223372036854775808 ≤ n ∧ n ≤ 9223372036854775807) (h' : -9223372036854775808 ≤ n' ∧ n' ≤ 9223372036854775807) : WfL [kf [kV n, kV n']] := by
  simp [WfL, kf, kV, Tm.Wf, h, h', ByteArray.size]
set_option maxRecDepth 100000 in
set_option maxHeartbeats 4000000 in
theorem wakes05_c (w : World) :
    Calls Try.prog 30 #[] w fun e w' => e = .returned (.bool true) ∧ Below w.heap.size w w' := by
  have hk := Ks.start w
  have m1 : Hid (0 = 0) := Lib.hid rfl
  go_enter Try.func30, Try.ntmps30
  go_wp2_with (first
    | (go_at_call 25; refine (V_c _ _ (fun _ => True)).mono ?_; rintro e w1 ⟨rfl, hb1⟩; replace hk := (by first | exact hk.then hb1 | exact (hk.one (kf [_, _]) _ (hk.get (List.mem_cons_self ..))).then hb1 : Ks w _ w1); clear hb1)
    | (go_at_call_has 22 (Value.slice (some ⟨w1.heap.size, 0, none⟩) 1 1); refine (F1V_c _ hk).mono ?_; rintro e w2 ⟨fA, fc, rfl, hk2⟩; replace hk := hk2; clear hk2)
    | (go_at_call 22; refine (F2V_c _ _ hk).mono ?_; rintro e w2 ⟨fA, fc, rfl, hk2⟩; replace hk := hk2; clear hk2)
    | (go_at_call 31; replace hk := hk.two (kf [kV 7, kV 3]) (kV 7) _ _ (hk.get (List.mem_cons_self ..)) (Kd.S.nil _ _ _); refine (Canon_c [kf [kV 7, kV 3], kV 7] _ _ _ (hk.get (List.mem_cons_self ..)) (by simp [kf, kV, sizL, Tm.siz]) (by simp [WfL, kf, kV, Tm.Wf, ByteArray.size])).mono ?_; rw [canL_1]; rintro e w3 ⟨⟨r, rfl, hr⟩, hb3⟩; obtain ⟨cA, cc, rfl⟩ := Kd.Own.form hr; replace hk := (hk.then hb3).push (Kd.Own.S hr); clear hb3 hr)
    | (go_at_call 34; go_loud (replace hk := hk.two (kf [kV 0, kV 1]) (kV 0) _ _ (hk.get (List.mem_cons_self ..)) (Kd.S.nil _ _ _); have hq := fun v hm => All_c [kf [kV 0, kV 1], kV 0] [kf [kV 0, kV 1], kV 0] v _ _ _ _ (hk.get hm) (hk.get (List.mem_cons_self ..)); rw [(eqbL_iff _ _).2 rfl] at hq; refine (hq _ (by repeat (first | exact List.mem_cons_self .. | refine List.mem_cons_of_mem _ ?_))).mono ?_; clear hq; rintro e w4 ⟨rfl, hb4⟩; replace hk := hk.then hb4; clear hb4))
    | (go_at_call 33; have hx := m1.out; clear hx m1; have hq := fun v v' hm hm' => Variants_c [kf [kV 0, kV 0]] [kf [kV 0, kV 1]] v v' _ _ _ (hk.get hm) (hk.get hm') (by simp [kf, kV, sizL, Tm.siz]) (by simp [kf, kV, sizL, Tm.siz]) (kf_wf _ _ (by omega) (by omega)) (kf_wf _ _ (by omega) (by omega)); rw [canL_2] at hq; refine (hq _ _ (by repeat (first | exact List.mem_cons_self .. | refine List.mem_cons_of_mem _ ?_)) (by repeat (first | exact List.mem_cons_self .. | refine List.mem_cons_of_mem _ ?_))).mono ?_; clear hq; rintro e w5 ⟨rfl, hb5⟩; replace hk := hk.then hb5; clear hb5)
    | (go_at_call 33; have hq := fun v v' hm hm' => Variants_c [kf [kV 0, kV 1]] [kf [kV 1, kV 0]] v v' _ _ _ (hk.get hm) (hk.get hm') (by simp [kf, kV, sizL, Tm.siz]) (by simp [kf, kV, sizL, Tm.siz]) (kf_wf _ _ (by omega) (by omega)) (kf_wf _ _ (by omega) (by omega)); rw [canL_3] at hq; refine (hq _ _ (by repeat (first | exact List.mem_cons_self .. | refine List.mem_cons_of_mem _ ?_)) (by repeat (first | exact List.mem_cons_self .. | refine List.mem_cons_of_mem _ ?_))).mono ?_; clear hq; rintro e w6 ⟨rfl, hb6⟩; replace hk := hk.then hb6; clear hb6)
    | (go_at_call 67; replace hk := hk.one (kf [kV 2]) _ (hk.get (List.mem_cons_self ..)); have hq := Count_c [kf [kV 2]] _ _ _ (hk.get (List.mem_cons_self ..)) (by simp [kf, kV, sizL, Tm.siz]) (by simp [kf, kV, occL, Tm.occ]); rw [count_1] at hq; refine hq.mono ?_; clear hq; rintro e w7 ⟨rfl, hb7⟩; replace hk := hk.then hb7; clear hb7))
  go_ret
  exact ⟨rfl, hk.below⟩
end Go.Proofs.Ytdflckjnpgbjlaa

/- What is known along a walk, as a list of facts that keep. No condition. -/
import Derived.Test.YtdflckjnpgbjlaaUd
set_option linter.unusedVariables false
set_option maxRecDepth 20000
set_option linter.unusedSimpArgs false
namespace Go.Proofs.Ytdflckjnpgbjlaa
open Go.RowKit

/-- A fact that keeps: a term in a box, a substitution, a slice. -/
inductive Fc where
  | bt (B : Nat) (t : Tm) (u : Value)
  | sub (l : Bs) (p b : Nat)
  | tms (l : List Tm) (v : Value)
  | ints (l : List Int) (v : Value)
  | bds (l : Bs) (v : Value)
def Fc.at : Fc → World → Prop
  | .bt B t u, W => Bt W B t u
  | .sub l p b, W => Sub W (fun _ => True) l p b
  | .tms l v, W => Kd.tm.S W (fun _ => True) l v
  | .ints l v, W => (Kd.int .i64).S W (fun _ => True) l v
  | .bds l v, W => Kd.bd.S W (fun _ => True) l v
theorem Fc.below {f : Fc} {W W' : World} (h : f.at W) (hb : Below W.heap.size W W') : f.at W' := by
  cases f with
  | bt B t u => exact Bt.below h hb
  | sub l p b => exact Sub.below h hb
  | tms l v => exact Kd.S.below hb h
  | ints l v => exact Kd.S.below hb h
  | bds l v => exact Kd.S.below hb h
/-- What is known. -/
structure Fk (w : World) (F : List Fc) (W : World) : Prop where
  b0 : Below w.heap.size w W
  all : ∀ f ∈ F, f.at W
section
variable {w W W' : World} {F : List Fc}
theorem Fk.then (h : Fk w F W) (hb : Below W.heap.size W W') : Fk w F W' := ⟨below_then h.b0 h.b0.size hb, fun f hf => Fc.below (h.all f hf) hb⟩
theorem Fk.alloc (h : Fk w F W) (O : Obj) : Fk w F (W.alloc O) := h.then ((Below.refl _ W).alloc (Nat.le_refl _) O)
theorem Fk.drew (h : Fk w F W) : Fk w F W.drew := h.then (Below.refl _ W).drew
theorem Fk.snoc (h : Fk w F W) (f : Fc) (hf : f.at W) : Fk w (F ++ [f]) W := ⟨h.b0, fun g hg => by
  rcases List.mem_append.1 hg with hg | hg
  · exact h.all g hg
  · rw [List.mem_singleton.1 hg]; exact hf⟩
theorem Fk.bt (h : Fk w F W) (i : Nat) {B : Nat} {t : Tm} {u : Value} (hi : F[i]? = some (.bt B t u)) : Bt W B t u := h.all _ (List.mem_of_getElem? hi)
theorem Fk.sub (h : Fk w F W) (i : Nat) {l : Bs} {p b : Nat} (hi : F[i]? = some (.sub l p b)) : Sub W (fun _ => True) l p b := h.all _ (List.mem_of_getElem? hi)
theorem Fk.tms (h : Fk w F W) (i : Nat) {l : List Tm} {v : Value} (hi : F[i]? = some (.tms l v)) : Kd.tm.S W (fun _ => True) l v := h.all _ (List.mem_of_getElem? hi)
theorem Fk.ints (h : Fk w F W) (i : Nat) {l : List Int} {v : Value} (hi : F[i]? = some (.ints l v)) : (Kd.int .i64).S W (fun _ => True) l v := h.all _ (List.mem_of_getElem? hi)
theorem Fk.bds (h : Fk w F W) (i : Nat) {l : Bs} {v : Value} (hi : F[i]? = some (.bds l v)) : Kd.bd.S W (fun _ => True) l v := h.all _ (List.mem_of_getElem? hi)
end
theorem Fk.start (w : World) : Fk w [] w := ⟨Below.refl _ _, fun f hf => by cases hf⟩
end Go.Proofs.Ytdflckjnpgbjlaa

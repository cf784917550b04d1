/- Plain lemmas: what the functions compute is what the reference says, in plain Lean. No condition. -/
import Derived.Test.YtegdphhfimaieacGreatPCur2
set_option maxRecDepth 4000
set_option maxHeartbeats 1000000
set_option linter.unusedVariables false
set_option linter.unusedSimpArgs false
set_option linter.unusedSectionVars false

namespace Go.Proofs.YtegdphhfimaieacGreat
open Go.AM

theorem sameInts_l (b : List Int) : ∀ (ys pre : List Int), b = pre ++ ys → laws_sameInts_l1 b ys pre.length = some true := by
  intro ys
  induction ys with
  | nil => intro pre _; rw [laws_sameInts_l1]
  | cons y ys ih =>
    intro pre h
    rw [laws_sameInts_l1, bnd (getI_app (pre := pre) (y := y) (ys := ys) h rfl), show (y != y) = false from by simp, cond_false]
    have := ih (pre ++ [y]) (by rw [h]; simp)
    rw [show (pre ++ [y]).length = pre.length + 1 from by simp] at this
    exact this
theorem sameInts_eq (b : List Int) : laws_sameInts_p b b = some true := by
  unfold laws_sameInts_p
  rw [show ((b.length : Int) != (b.length : Int)) = false from by simp, cond_false]
  exact sameInts_l b b [] rfl
theorem sameLists_l (b : List (List Int)) : ∀ (ys pre : List (List Int)), b = pre ++ ys → laws_sameLists_l1 b ys pre.length = some true := by
  intro ys
  induction ys with
  | nil => intro pre _; rw [laws_sameLists_l1]
  | cons y ys ih =>
    intro pre h
    rw [laws_sameLists_l1, bnd (getI_app (pre := pre) (y := y) (ys := ys) h rfl), bnd (sameInts_eq _), Bool.not_true, cond_false]
    have := ih (pre ++ [y]) (by rw [h]; simp)
    rw [show (pre ++ [y]).length = pre.length + 1 from by simp] at this
    exact this
theorem sameLists_eq (b : List (List Int)) : laws_sameLists_p b b = some true := by
  unfold laws_sameLists_p
  rw [show ((b.length : Int) != (b.length : Int)) = false from by simp, cond_false]
  exact sameLists_l b b [] rfl

end Go.Proofs.YtegdphhfimaieacGreat

/- Plain lemmas: what the functions compute is what the reference says, in plain Lean. No condition. -/
import Derived.Test.YtegdphhfimaieacGreatPEvent2
set_option maxRecDepth 4000
set_option maxHeartbeats 1000000
set_option linter.unusedVariables false
set_option linter.unusedSimpArgs false
set_option linter.unusedSectionVars false

namespace Go.Proofs.YtegdphhfimaieacGreat
open Go.AM

theorem own_l (l : List Int) (h : l.length ≤ 1048576) : spec_l1Own_p l = some l := by
  unfold spec_l1Own_p; rw [fits_of (by omega), need_t, Option.bind_some]
theorem without_l (o : List Int) : ∀ (ys : List Int) (k : Nat) (acc : List Int), acc.length + ys.length ≤ 1048576 → impl_without_l1 o ys k acc = some (acc ++ ys.filter fun n => decide (n ∉ o)) := by
  intro ys
  induction ys with
  | nil => intro k acc _; rw [impl_without_l1]; simp
  | cons y ys ih =>
    intro k acc h
    simp only [List.length_cons] at h
    rw [impl_without_l1]
    obtain ⟨b, h1, h2⟩ := contains_eq o y
    rw [bnd h1]
    cases b
    · have hy : y ∉ o := fun k => by simpa using h2.2 k
      simp only [Bool.not_false, cond_true]
      rw [fits_of (by simp; omega), need_t, Option.bind_some, ih (k + 1) _ (by simp; omega)]
      simp [hy]
    · have hy : y ∈ o := h2.1 rfl
      simp only [Bool.not_true, cond_false]
      rw [ih (k + 1) _ (by omega)]
      simp [hy]
theorem without_eq (l o : List Int) (h : l.length ≤ 1048576) : impl_without_p l o = some (l.filter fun n => decide (n ∉ o)) := without_l o l 0 [] (by simpa using h)

end Go.Proofs.YtegdphhfimaieacGreat

/- Plain lemmas: what the functions compute is what the reference says, in plain Lean. No condition. -/
import Derived.Test.YtjbkbiofklgblaaDoorPHText3
set_option maxRecDepth 4000
set_option maxHeartbeats 1000000
set_option linter.unusedVariables false
set_option linter.unusedSimpArgs false
set_option linter.unusedSectionVars false

namespace Go.Proofs.YtjbkbiofklgblaaDoor
open Go.AM

def Good (F : Nat) (l : List Item) (h : List Change) : Prop := impl_isHistory_p F l h = some true
theorem good_in {l : List Item} (hb : nameB l) {h : List Change} (hl : h.length ≤ 1048576) {F : Nat} (hF : 1048576 < F) (hg : Good F l h) :
    h.length ≤ 60 ∧ (∀ c ∈ h, chgIn c) ∧ impl_AreItems_p F l = some true ∧ spec_itList_p F l = some true ∧ spec_hiGood_p l h = some true := by
  obtain ⟨b, b1, b2, b3, a, a1, a2, a3, a4⟩ := isHistory_eq hb h hl F hF
  have hbt : b = true := by rw [show impl_isHistory_p F l h = some true from hg] at b1; exact (Option.some.inj b1).symm
  subst hbt
  obtain ⟨hi, h60, z, hz⟩ := b3 rfl
  have hat : a = true := by cases a with | true => rfl | false => exact absurd (a4 rfl) (by simp)
  subst hat
  exact ⟨h60, run_in h none _ _ z (start_ok hi) (start_sim l) hz, a1, a2, a3 rfl⟩

end Go.Proofs.YtjbkbiofklgblaaDoor

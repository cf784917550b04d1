/- Plain lemmas: what the functions compute is what the reference says, in plain Lean. No condition. -/
import Derived.Test.YtjbkbiofklgblaaGreatDoorPSeason1
set_option maxRecDepth 4000
set_option maxHeartbeats 1000000
set_option linter.unusedVariables false
set_option linter.unusedSimpArgs false
set_option linter.unusedSectionVars false

namespace Go.Proofs.YtjbkbiofklgblaaGreatDoor
open Go.AM

theorem ret_allWithin (lo hi : Int) : ∀ (l : List Int) (k : Nat), Ret (impl_allWithin_l1 lo hi l k) (∀ n ∈ l, lo ≤ n ∧ n ≤ hi) := by
  intro l
  induction l with
  | nil => intro k; rw [impl_allWithin_l1]; exact .t (by simp)
  | cons y l ih =>
    intro k
    rw [impl_allWithin_l1]
    refine (ret_within y lo hi).bindR (fun h => ?_) (fun h => .f fun q => h (q y (by simp)))
    simp only [Bool.not_true, cond_false]
    refine (ih (k + 1)).iff ⟨fun q n hn => ?_, fun q n hn => q n (by simp [hn])⟩
    rcases List.mem_cons.1 hn with rfl | hn
    · exact h
    · exact q n hn
def rd (a : Int) : Int := cond (decide (((w64 (w64 (2 * a) + 100)).tmod 200) < 0)) (w64 (w64 ((w64 (w64 (2 * a) + 100)).tdiv 200) - 1)) (w64 ((w64 (w64 (2 * a) + 100)).tdiv 200))

end Go.Proofs.YtjbkbiofklgblaaGreatDoor

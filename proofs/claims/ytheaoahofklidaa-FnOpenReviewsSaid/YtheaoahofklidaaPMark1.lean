/- Plain lemmas: what the functions compute is what the reference says, in plain Lean. No condition. -/
import Derived.Test.YtheaoahofklidaaPHistory4
set_option maxRecDepth 4000
set_option maxHeartbeats 1000000
set_option linter.unusedVariables false
set_option linter.unusedSimpArgs false
set_option linter.unusedSectionVars false

namespace Go.Proofs.Ytheaoahofklidaa
open Go.AM

def mItem (x : Item) : Nat := 1 + x.names.length + x.marks.length
def mItemS (l : List Item) : Nat := (l.map fun x => mItem x).sum
theorem m_le (l : List Item) (B : Nat) (h : ∀ it ∈ l, mItem it ≤ B) : mItemS l ≤ l.length * B := by
  unfold mItemS
  induction l with
  | nil => simp
  | cons y l ih =>
    have h1 := ih fun it hi => h it (by simp [hi])
    have h2 := h y (by simp)
    simp only [List.map_cons, List.sum_cons, List.length_cons, Nat.succ_mul]
    omega

end Go.Proofs.Ytheaoahofklidaa

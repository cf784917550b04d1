/- Plain lemmas: what the functions compute is what the reference says, in plain Lean. No condition. -/
import Derived.Test.YtegdphhfimaieacGreatPEvent5
set_option maxRecDepth 4000
set_option maxHeartbeats 1000000
set_option linter.unusedVariables false
set_option linter.unusedSimpArgs false
set_option linter.unusedSectionVars false

namespace Go.Proofs.YtegdphhfimaieacGreat
open Go.AM

def idxs (n : Nat) : List Int := (List.range n).map fun i : Nat => (i : Int)
theorem mem_idxs (n : Nat) (i : Int) : i ∈ idxs n ↔ 0 ≤ i ∧ i < (n : Int) := by
  unfold idxs
  rw [List.mem_map]
  constructor
  · rintro ⟨k, hk, rfl⟩; rw [List.mem_range] at hk; omega
  · intro h; exact ⟨i.toNat, by rw [List.mem_range]; omega, by omega⟩

end Go.Proofs.YtegdphhfimaieacGreat

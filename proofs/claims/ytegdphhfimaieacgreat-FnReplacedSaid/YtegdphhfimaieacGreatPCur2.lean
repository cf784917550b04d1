/- Plain lemmas: what the functions compute is what the reference says, in plain Lean. No condition. -/
import Derived.Test.YtegdphhfimaieacGreatPCur1
set_option maxRecDepth 4000
set_option maxHeartbeats 1000000
set_option linter.unusedVariables false
set_option linter.unusedSimpArgs false
set_option linter.unusedSectionVars false

namespace Go.Proofs.YtegdphhfimaieacGreat
open Go.AM

theorem one_ok {a : List Int} {b m s : Int} (h : CO a b m) (hm : m ≤ 900000000) (n : Int) (hn : n ≤ 65536) : ∃ b' s' v, spec_l1Cur_one_p (L1Cur.mk a b s) n = some (L1Cur.mk a b' s', v) ∧ CO a b' (m + 2) := by
  obtain ⟨b1, s1, v1, e1, g1, _, _⟩ := pick_ok (s := s) h hm n hn
  unfold spec_l1Cur_one_p
  rw [bnd e1]
  exact ⟨_, _, _, rfl, g1⟩

end Go.Proofs.YtegdphhfimaieacGreat

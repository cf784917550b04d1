/- Plain lemmas: what the functions compute is what the reference says, in plain Lean. No condition. -/
import Derived.Test.YtjbkbiofklgblaaGreatDoorPHistory3
set_option maxRecDepth 4000
set_option maxHeartbeats 1000000
set_option linter.unusedVariables false
set_option linter.unusedSimpArgs false
set_option linter.unusedSectionVars false

namespace Go.Proofs.YtjbkbiofklgblaaGreatDoor
open Go.AM

theorem ret_tick (T : Int) : ∃ n, spec_l1In_p T 0 100000 = some n ∧ impl_isTick_p T = some n := by
  obtain ⟨n, n1, n2⟩ := ret_l1In T 0 100000
  obtain ⟨n', n3, n4⟩ := ret_within T 0 100000
  obtain rfl : n = n' := Bool.eq_iff_iff.2 (n2.trans n4.symm)
  exact ⟨n, n1, by unfold impl_isTick_p; rw [bnd n3]⟩
theorem add_same {l : List Item} (hb : nameB l) (h : List Change) (hl : h.length ≤ 1048576) (x : Change) (fuel : Nat) (hf : 1048576 < fuel) (ht : impl_isHistory_p fuel l h = some true) : ∃ r, spec_hiAdd_p l h x = some r ∧ impl_AddChange_p fuel l h x = some r ∧ r.1.length ≤ 61 := by
  obtain ⟨b, b1, b2, b3, a, a1, a2, a3, a4⟩ := isHistory_eq hb h hl fuel hf
  obtain rfl : b = true := by rw [ht] at b1; exact (Option.some.inj b1).symm
  obtain ⟨hi, h60, z, hz⟩ := b3 rfl
  obtain ⟨c, c1, c2, c3, d, d1, d2, d3, d4⟩ := isHistory_eq hb (h ++ [x]) (by simp; omega) fuel hf
  obtain rfl : a = d := by rw [a1] at d1; exact Option.some.inj d1
  have hat : a = true := by
    cases a
    · exact absurd (a4 rfl) (by simp)
    · rfl
  unfold spec_hiAdd_p impl_AddChange_p
  rw [bnd ht, fits_of (n := h.length) (by omega), fits_of (n := h.length + [x].length) (by simp; omega)]
  simp only [need_t, Option.bind_some, Bool.not_true, cond_false]
  rw [bnd (d3 hat), bnd c1]
  cases c
  · exact ⟨_, rfl, rfl, by simp⟩
  · exact ⟨_, rfl, rfl, by simp; omega⟩

end Go.Proofs.YtjbkbiofklgblaaGreatDoor

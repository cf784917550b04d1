/- Plain lemmas: what the functions compute is what the reference says, in plain Lean. No condition. -/
import Derived.Test.YtheaoahofklidaaPHistory3
set_option maxRecDepth 4000
set_option maxHeartbeats 1000000
set_option linter.unusedVariables false
set_option linter.unusedSimpArgs false
set_option linter.unusedSectionVars false

namespace Go.Proofs.Ytheaoahofklidaa
open Go.AM

theorem lastChange_l (h : List Change) (i k : Int) (hl : h.length ≤ 1048576) : ∀ (m fuel : Nat), m ≤ h.length → m < fuel → ∃ r, spec_LastChange_l1 h i k fuel ((m : Int) - 1) = some r ∧ impl_LastChange_l1 h i k fuel ((m : Int) - 1) = some r := by
  intro m
  induction m with
  | zero =>
    intro fuel _ hf
    obtain ⟨f, rfl⟩ := Nat.exists_eq_succ_of_ne_zero (by omega : fuel ≠ 0)
    rw [spec_LastChange_l1, impl_LastChange_l1, decide_eq_false (by omega)]
    exact ⟨_, rfl, rfl⟩
  | succ m ih =>
    intro fuel hm hf
    obtain ⟨f, rfl⟩ := Nat.exists_eq_succ_of_ne_zero (by omega : fuel ≠ 0)
    rw [show ((m + 1 : Nat) : Int) - 1 = (m : Int) from by omega]
    rw [spec_LastChange_l1, impl_LastChange_l1, decide_eq_true (by omega), cond_true, cond_true, bnd (getI_lt_some (by omega)), bnd (getI_lt_some (by omega)), w64_in (by omega)]
    cases ((h[m].item == i) && (h[m].name == k))
    · exact ih f (by omega) (by omega)
    · exact ⟨_, rfl, rfl⟩
theorem same_LastChange {l : List Item} (hb : nameB l) (h : List Change) (hl : h.length ≤ 1048576) (i k : Int) (fuel : Nat) (hf : 1048576 < fuel) : ∃ r, spec_LastChange_p fuel l h i k = some r ∧ impl_LastChange_p fuel l h i k = some r := by
  obtain ⟨b, b1, b2, b3, _⟩ := isHistory_eq hb h hl fuel hf
  unfold spec_LastChange_p impl_LastChange_p
  rw [bnd b1, bnd b2]
  cases b
  · exact ⟨_, rfl, rfl⟩
  · obtain ⟨hi, h60, _⟩ := b3 rfl
    simp only [Bool.not_true, Bool.not_false, opt_t, Bool.false_or]
    obtain ⟨n, n1, n2⟩ := ret_spName l hi i k
    obtain ⟨n', n3, n4⟩ := ret_imName l hi i k
    obtain rfl : n = n' := Bool.eq_iff_iff.2 (n2.trans n4.symm)
    rw [bnd n1, bnd n3]
    cases n
    · exact ⟨_, rfl, rfl⟩
    · simp only [Bool.not_true, cond_false]
      rw [w64_in (by omega)]
      exact lastChange_l h i k hl h.length fuel (Nat.le_refl _) (by omega)

end Go.Proofs.Ytheaoahofklidaa

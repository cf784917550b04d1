/- Plain lemmas: what the functions compute is what the reference says, in plain Lean. No condition. -/
import Derived.Test.YtheaoahofklidaaPMark1
set_option maxRecDepth 4000
set_option maxHeartbeats 1000000
set_option linter.unusedVariables false
set_option linter.unusedSimpArgs false
set_option linter.unusedSectionVars false

namespace Go.Proofs.Ytheaoahofklidaa
open Go.AM

theorem mOk {l : List Item} (h : ItemsOk l) : mItemS l ≤ 1000 := by
  have h1 := m_le l 7 fun it hi => by
    have h2 := h.2 it hi
    have h3 := h2.1
    have h4 := h2.2
    unfold mItem; omega
  have := h.1
  omega
theorem ret_tick (T : Int) : ∃ n, spec_l1In_p T 0 100000 = some n ∧ impl_isTick_p T = some n := by
  obtain ⟨n, n1, n2⟩ := ret_l1In T 0 100000
  obtain ⟨n', n3, n4⟩ := ret_within T 0 100000
  obtain rfl : n = n' := Bool.eq_iff_iff.2 (n2.trans n4.symm)
  exact ⟨n, n1, by unfold impl_isTick_p; rw [bnd n3]⟩
theorem same_StateAt {l : List Item} (hb : nameB l) (h : List Change) (hl : h.length ≤ 1048576) (T : Int) (fuel : Nat) (hf : 1048576 < fuel) : ∃ r, spec_StateAt_p fuel l h T = some r ∧ impl_StateAt_p fuel l h T = some r ∧ mItemS r.1 ≤ 1000 := by
  obtain ⟨b, b1, b2, b3, _⟩ := isHistory_eq hb h hl fuel hf
  unfold spec_StateAt_p impl_StateAt_p
  rw [bnd b1, bnd b2]
  cases b
  · exact ⟨([], false), rfl, rfl, by simp [mItemS]⟩
  · obtain ⟨hi, h60, z, hz⟩ := b3 rfl
    obtain ⟨n, n1, n2⟩ := ret_tick T
    simp only [Bool.not_true, Bool.not_false, opt_t, Bool.false_or]
    rw [bnd n1, bnd n2]
    cases n
    · exact ⟨([], false), rfl, rfl, by simp [mItemS]⟩
    · obtain ⟨s', y, q1, q2, q3, q4⟩ := (stateOf_eq hi h hl T).2 z hz
      obtain ⟨y', p1, p2⟩ := hiRun_eq hi h hl T hz
      obtain rfl : y = y' := by rw [q2] at p2; exact Option.some.inj p2
      simp only [Bool.not_true, cond_false]
      rw [bnd q1, bnd p1]
      exact ⟨(y.items, true), rfl, by show some (s'.items, true) = _; rw [q3.1], mOk q4.1⟩
theorem add_same {l : List Item} (hb : nameB l) (h : List Change) (hl : h.length ≤ 1048576) (x : Change) (fuel : Nat) (hf : 1048576 < fuel) (ht : impl_isHistory_p fuel l h = some true) : ∃ r, spec_hiAdd_p l h x = some r ∧ impl_AddChange_p fuel l h x = some r ∧ r.1.length ≤ 61 := by
  obtain ⟨b, b1, b2, b3, a, a1, a2, a3, a4⟩ := isHistory_eq hb h hl fuel hf
  obtain rfl : b = true := by rw [ht] at b1; exact (Option.some.inj b1).symm
  obtain ⟨hi, h60, z, hz⟩ := b3 rfl
  obtain ⟨c, c1, c2, c3, d, d1, d2, d3, d4⟩ := isHistory_eq hb (h ++ [x]) (by simp; omega) fuel hf
  obtain rfl : a = d := by rw [a1] at d1; exact Option.some.inj d1
  have hat : a = true := by
    cases a
    · exact absurd (a4 rfl) (by simp)
    · rfl
  unfold spec_hiAdd_p impl_AddChange_p
  rw [bnd ht, fits_of (n := h.length) (by omega), fits_of (n := h.length + [x].length) (by simp; omega)]
  simp only [need_t, Option.bind_some, Bool.not_true, cond_false]
  rw [bnd (d3 hat), bnd c1]
  cases c
  · exact ⟨_, rfl, rfl, by simp⟩
  · exact ⟨_, rfl, rfl, by simp; omega⟩
theorem same_AddChange {l : List Item} (hb : nameB l) (h : List Change) (hl : h.length ≤ 1048576) (x : Change) (fuel : Nat) (hf : 1048576 < fuel) : ∃ r, spec_AddChange_p fuel l h x = some r ∧ impl_AddChange_p fuel l h x = some r ∧ r.1.length ≤ 61 := by
  obtain ⟨b, b1, b2, b3, _⟩ := isHistory_eq hb h hl fuel hf
  unfold spec_AddChange_p
  rw [bnd b2]
  cases b
  · unfold impl_AddChange_p
    rw [bnd b1]
    exact ⟨([], false), rfl, rfl, by simp⟩
  · obtain ⟨r, r1, r2, r3⟩ := add_same hb h hl x fuel hf b1
    simp only [Bool.not_true, cond_false]
    rw [bnd r1]
    exact ⟨r, rfl, r2, r3⟩

end Go.Proofs.Ytheaoahofklidaa

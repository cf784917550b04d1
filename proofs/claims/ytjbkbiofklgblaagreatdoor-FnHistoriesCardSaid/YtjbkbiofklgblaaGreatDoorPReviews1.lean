/- Plain lemmas: what the functions compute is what the reference says, in plain Lean. No condition. -/
import Derived.Test.YtjbkbiofklgblaaGreatDoorPCur3
set_option maxRecDepth 4000
set_option maxHeartbeats 1000000
set_option linter.unusedVariables false
set_option linter.unusedSimpArgs false
set_option linter.unusedSectionVars false

namespace Go.Proofs.YtjbkbiofklgblaaGreatDoor
open Go.AM

theorem qInts_l (b : List Int) : ∀ (ys pre : List Int), b = pre ++ ys → laws_qInts_l1 b ys pre.length = some true := by
  intro ys
  induction ys with
  | nil => intro pre _; rw [laws_qInts_l1]
  | cons y ys ih =>
    intro pre h
    have := ih (pre ++ [y]) (by rw [h]; simp)
    rw [show (pre ++ [y]).length = pre.length + 1 from by simp] at this
    rw [laws_qInts_l1, bnd (getI_app (pre := pre) (y := y) (ys := ys) h rfl), bne_self_eq_false, cond_false, this]
theorem qInts_eq (a : List Int) : laws_qInts_p a a = some true := by
  unfold laws_qInts_p
  rw [bne_self_eq_false, cond_false]
  exact qInts_l a a [] rfl
theorem qWords_l (b : List ByteArray) : ∀ (ys pre : List ByteArray), b = pre ++ ys → laws_qWords_l1 b ys pre.length = some true := by
  intro ys
  induction ys with
  | nil => intro pre _; rw [laws_qWords_l1]
  | cons y ys ih =>
    intro pre h
    have := ih (pre ++ [y]) (by rw [h]; simp)
    rw [show (pre ++ [y]).length = pre.length + 1 from by simp] at this
    rw [laws_qWords_l1, bnd (getI_app (pre := pre) (y := y) (ys := ys) h rfl), decide_eq_true rfl, Bool.not_true, cond_false, this]
theorem qWords_eq (a : List ByteArray) : laws_qWords_p a a = some true := by
  unfold laws_qWords_p
  rw [bne_self_eq_false, cond_false]
  exact qWords_l a a [] rfl
theorem qItems_l (b : List Item) : ∀ (ys pre : List Item), b = pre ++ ys → laws_qItems_l1 b ys pre.length = some true := by
  intro ys
  induction ys with
  | nil => intro pre _; rw [laws_qItems_l1]
  | cons y ys ih =>
    intro pre h
    have := ih (pre ++ [y]) (by rw [h]; simp)
    rw [show (pre ++ [y]).length = pre.length + 1 from by simp] at this
    rw [laws_qItems_l1, bnd (getI_app (pre := pre) (y := y) (ys := ys) h rfl), bnd (qWords_eq _)]
    simp only [Bool.not_true, Bool.not_false, opt_t]
    rw [bnd (qInts_eq _)]
    simp only [Bool.not_true, beq_self_eq_true, Bool.or_false, cond_false]
    exact this
theorem qItems_eq (a : List Item) : laws_qItems_p a a = some true := by
  unfold laws_qItems_p
  rw [bne_self_eq_false, cond_false]
  exact qItems_l a a [] rfl
theorem qChanges_l (b : List Change) : ∀ (ys pre : List Change), b = pre ++ ys → laws_qChanges_l1 b ys pre.length = some true := by
  intro ys
  induction ys with
  | nil => intro pre _; rw [laws_qChanges_l1]
  | cons y ys ih =>
    intro pre h
    have := ih (pre ++ [y]) (by rw [h]; simp)
    rw [show (pre ++ [y]).length = pre.length + 1 from by simp] at this
    rw [laws_qChanges_l1, bnd (getI_app (pre := pre) (y := y) (ys := ys) h rfl), decide_eq_true rfl, Bool.not_true, cond_false, this]
theorem qChanges_eq (a : List Change) : laws_qChanges_p a a = some true := by
  unfold laws_qChanges_p
  rw [bne_self_eq_false, cond_false]
  exact qChanges_l a a [] rfl
theorem hist_any {l : List Item} (hb : nameB l) (h p : List Change) (hl : h.length ≤ 1048576) (fuel : Nat) (hf : 1048576 < fuel) (ht : impl_isHistory_p fuel l h = some true) (hp : p.length ≤ 60) {z : HiState} (hz : runH l p = some z) : impl_isHistory_p fuel l p = some true := by
  obtain ⟨b, b1, b2, b3, a, a1, a2, a3, a4⟩ := isHistory_eq hb h hl fuel hf
  obtain rfl : b = true := by rw [ht] at b1; exact (Option.some.inj b1).symm
  obtain ⟨c, c1, c2, c3, d, d1, d2, d3, d4⟩ := isHistory_eq hb p (by omega) fuel hf
  obtain rfl : a = d := by rw [a1] at d1; exact Option.some.inj d1
  have hat : a = true := by
    cases a
    · exact absurd (a4 rfl) (by simp)
    · rfl
  have hg := hiGood_eq (b3 rfl).1 p (by omega)
  rw [d3 hat, hz] at hg
  rw [c1, Option.some.inj hg, decide_eq_true (by omega)]
  rfl
theorem stateAt_case {l : List Item} (hb : nameB l) (h : List Change) (hl : h.length ≤ 1048576) (T : Int) (fuel : Nat) (hf : 1048576 < fuel) :
    (∃ y, impl_isHistory_p fuel l h = some true ∧ (0 ≤ T ∧ T ≤ 100000) ∧ runH l (h.takeWhile fun c => decide (c.tick ≤ T)) = some y ∧ spec_StateAt_p fuel l h T = some (y.items, true) ∧ impl_StateAt_p fuel l h T = some (y.items, true)) ∨
    ((¬ (impl_isHistory_p fuel l h = some true ∧ (0 ≤ T ∧ T ≤ 100000))) ∧ spec_StateAt_p fuel l h T = some ([], false) ∧ impl_StateAt_p fuel l h T = some ([], false)) := by
  obtain ⟨b, b1, b2, b3, _⟩ := isHistory_eq hb h hl fuel hf
  unfold spec_StateAt_p impl_StateAt_p
  rw [bnd b1, bnd b2]
  cases b
  · exact .inr ⟨by rw [b1]; simp, rfl, rfl⟩
  · obtain ⟨hi, h60, z, hz⟩ := b3 rfl
    obtain ⟨n, n1, n2⟩ := ret_l1In T 0 100000
    obtain ⟨n', n1', n3⟩ := ret_tick T
    obtain rfl : n = n' := by rw [n1] at n1'; exact Option.some.inj n1'
    simp only [Bool.not_true, Bool.not_false, opt_t, Bool.false_or]
    rw [bnd n1, bnd n3]
    cases n
    · exact .inr ⟨fun q => by simpa using n2.2 q.2, rfl, rfl⟩
    · obtain ⟨s', y, q1, q2, q3, q4⟩ := (stateOf_eq hi h hl T).2 z hz
      obtain ⟨y', p1, p2⟩ := hiRun_eq hi h hl T hz
      obtain rfl : y = y' := by rw [q2] at p2; exact Option.some.inj p2
      simp only [Bool.not_true, cond_false]
      rw [bnd q1, bnd p1]
      exact .inl ⟨y, b1, n2.1 rfl, q2, rfl, by show some (s'.items, true) = _; rw [q3.1]⟩
theorem final_case {l : List Item} (hb : nameB l) (h : List Change) (hl : h.length ≤ 1048576) (fuel : Nat) (hf : 1048576 < fuel) :
    (∃ y, impl_isHistory_p fuel l h = some true ∧ runH l h = some y ∧ spec_FinalState_p fuel l h = some (y.items, true) ∧ impl_FinalState_p fuel l h = some (y.items, true)) ∨
    ((¬ impl_isHistory_p fuel l h = some true) ∧ spec_FinalState_p fuel l h = some ([], false) ∧ impl_FinalState_p fuel l h = some ([], false)) := by
  unfold spec_FinalState_p impl_FinalState_p
  rcases stateAt_case hb h hl 100000 fuel hf with ⟨y, h1, h2, h3, h4, h5⟩ | ⟨h1, h4, h5⟩
  · rw [bnd h4, bnd h5]
    obtain ⟨b, b1, b2, b3, _⟩ := isHistory_eq hb h hl fuel hf
    obtain rfl : b = true := by rw [h1] at b1; exact (Option.some.inj b1).symm
    obtain ⟨hi, h60, z, hz⟩ := b3 rfl
    rw [all_ticks hi hz] at h3
    exact .inl ⟨y, h1, h3, rfl, rfl⟩
  · rw [bnd h4, bnd h5]
    exact .inr ⟨fun q => h1 ⟨q, by omega, by omega⟩, rfl, rfl⟩

end Go.Proofs.YtjbkbiofklgblaaGreatDoor

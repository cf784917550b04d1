/- Plain lemmas: what the functions compute is what the reference says, in plain Lean. No condition. -/
import Derived.Test.YtheaoahofklidaaPHistory5
set_option maxRecDepth 4000
set_option maxHeartbeats 1000000
set_option linter.unusedVariables false
set_option linter.unusedSimpArgs false
set_option linter.unusedSectionVars false

namespace Go.Proofs.Ytheaoahofklidaa
open Go.AM

def callersH (i k : Int) (h : List Change) : List Int := (h.filter fun c => c.item == i && c.name == k).map fun c => c.caller
theorem callers_s (i k : Int) (fuel : Nat) (hf : 1048576 < fuel) : ∀ (ys : List Change) (j : Nat) (acc : List Int), acc.Pairwise (· < ·) → acc.length + ys.length ≤ 999999 →
    ∃ r, spec_CallersOf_l1 i k fuel ys j acc = some (r, true) ∧ r.Pairwise (· < ·) ∧ (∀ x, x ∈ r ↔ x ∈ acc ∨ x ∈ callersH i k ys) ∧ r.length ≤ acc.length + ys.length := by
  intro ys
  induction ys with
  | nil => intro j acc h1 h2; exact ⟨acc, by rw [spec_CallersOf_l1], h1, by simp [callersH], by simp⟩
  | cons y ys ih =>
    intro j acc h1 h2
    simp only [List.length_cons] at h2 ⊢
    rw [spec_CallersOf_l1]
    cases hc : (y.item == i && y.name == k)
    · obtain ⟨r, r1, r2, r3, r4⟩ := ih (j + 1) acc h1 (by omega)
      refine ⟨r, r1, r2, fun x => ?_, by omega⟩
      rw [r3]; unfold callersH
      rw [List.filter_cons_of_neg (by rw [hc]; simp)]
    · obtain ⟨l', p1, p2, p3, p4⟩ := put_eq acc y.caller h1 (by omega) fuel hf
      obtain ⟨r, r1, r2, r3, r4⟩ := ih (j + 1) l' p2 (by omega)
      rw [cond_true, bnd p1]
      refine ⟨r, r1, r2, fun x => ?_, by omega⟩
      rw [r3, p3]; unfold callersH
      rw [List.filter_cons_of_pos (p := fun c : Change => c.item == i && c.name == k) hc, List.map_cons, List.mem_cons]
      constructor
      · rintro ((h | h) | h) <;> simp [h]
      · rintro (h | h | h) <;> simp [h]
theorem callers_i (i k : Int) (fuel : Nat) (hf : 1048576 < fuel) : ∀ (ys : List Change) (j : Nat) (acc : List Int), acc.length + ys.length ≤ 999999 →
    impl_CallersOf_l1 i k fuel ys j acc = some (dd (sortI (acc ++ callersH i k ys)), true) := by
  intro ys
  induction ys with
  | nil =>
    intro j acc h
    simp only [List.length_nil] at h
    rw [impl_CallersOf_l1]
    unfold slices_Sort_int_p
    rw [show Nat.blt acc.length 4611686018427387904 = true from by rw [Nat.blt_eq]; omega, need_t]
    simp only [Option.bind_some]
    rw [bnd (compact_eq _ (by rw [(sortI_perm acc).length_eq]; omega) fuel hf)]
    simp [callersH]
  | cons y ys ih =>
    intro j acc h
    simp only [List.length_cons] at h
    rw [impl_CallersOf_l1]
    cases hc : (y.item == i && y.name == k)
    · rw [cond_false, ih (j + 1) acc (by omega)]
      unfold callersH
      rw [List.filter_cons_of_neg (by rw [hc]; simp)]
    · rw [cond_true, bnd (x := ()) (by rw [fits_of (by simp; omega)]; rfl), ih (j + 1) _ (by simp; omega)]
      unfold callersH
      rw [List.filter_cons_of_pos (p := fun c : Change => c.item == i && c.name == k) hc, List.map_cons, List.append_assoc]; rfl
theorem same_CallersOf {l : List Item} (hb : nameB l) (h : List Change) (hl : h.length ≤ 1048576) (i k : Int) (fuel : Nat) (hf : 1048576 < fuel) : ∃ r, spec_CallersOf_p fuel l h i k = some r ∧ impl_CallersOf_p fuel l h i k = some r ∧ r.1.length ≤ 60 := by
  obtain ⟨b, b1, b2, b3, _⟩ := isHistory_eq hb h hl fuel hf
  unfold spec_CallersOf_p impl_CallersOf_p
  rw [bnd b1, bnd b2]
  cases b
  · exact ⟨([], false), rfl, rfl, by simp⟩
  · obtain ⟨hi, h60, _⟩ := b3 rfl
    simp only [Bool.not_true, Bool.not_false, opt_t, Bool.false_or]
    obtain ⟨n, n1, n2⟩ := ret_spName l hi i k
    obtain ⟨n', n3, n4⟩ := ret_imName l hi i k
    obtain rfl : n = n' := Bool.eq_iff_iff.2 (n2.trans n4.symm)
    rw [bnd n1, bnd n3]
    cases n
    · exact ⟨([], false), rfl, rfl, by simp⟩
    · simp only [Bool.not_true, cond_false]
      obtain ⟨r, r1, r2, r3, r4⟩ := callers_s i k fuel hf h 0 [] List.Pairwise.nil (by simp; omega)
      have e : dd (sortI ([] ++ callersH i k h)) = r := lt_mem_eq (dd_lt (sortI_le _)) r2 fun x => by
        rw [mem_dd, (sortI_perm _).mem_iff, r3]; simp
      rw [r1, callers_i i k fuel hf h 0 [] (by simp; omega), e]
      exact ⟨_, rfl, rfl, by simp at r4; show r.length ≤ 60; omega⟩
theorem runS_mid : ∀ (pre : List Change) (lo : Option Int) (x z : HiState) (c : Change) (post : List Change), runS lo x (pre ++ c :: post) = some z → ∃ z0, runS lo x pre = some z0 ∧ (chg z0 c).2 = true := by
  intro pre
  induction pre with
  | nil =>
    intro lo x z c post h
    rw [List.nil_append, runS] at h
    split at h
    · rename_i hq; exact ⟨x, by rw [runS], hq.1⟩
    · cases h
  | cons p pre ih =>
    intro lo x z c post h
    rw [List.cons_append, runS] at h
    split at h
    · rename_i hq
      obtain ⟨z0, h1, h2⟩ := ih _ _ _ _ _ h
      exact ⟨z0, by rw [runS, if_pos hq]; exact h1, h2⟩
    · cases h
theorem chg_valid {x : HiState} (hx : StOk x) (c : Change) (h : (chg x c).2 = true) : valid x.items c.item c.name := by
  unfold chg spec_hiState_change_p at h
  obtain ⟨n, n1, n2⟩ := ret_spName x.items hx.1 c.item c.name
  rw [n1] at h
  cases n
  · simp [opt] at h
  · exact n2.1 rfl
theorem all_ticks {l : List Item} (hi : ItemsOk l) {h : List Change} {z : HiState} (hz : runH l h = some z) : (h.takeWhile fun c => decide (c.tick ≤ 100000)) = h := by
  have h1 := run_rising h none 0 _ _ z (.inr ⟨rfl, rfl⟩) (start_ok hi) (start_sim l) hz
  have h2 := rising_le h 0 h1
  clear h1 hz
  induction h with
  | nil => rfl
  | cons c h ih =>
    rw [List.takeWhile_cons_of_pos (by simpa using h2 c (by simp)), ih fun d hd => h2 d (by simp [hd])]

end Go.Proofs.Ytheaoahofklidaa

/- Plain lemmas: what the functions compute is what the reference says, in plain Lean. No condition. -/
import Derived.Test.YtjbkbiofklgblaaGreatDoorPHistory5
set_option maxRecDepth 4000
set_option maxHeartbeats 1000000
set_option linter.unusedVariables false
set_option linter.unusedSimpArgs false
set_option linter.unusedSectionVars false

namespace Go.Proofs.YtjbkbiofklgblaaGreatDoor
open Go.AM

theorem runS_mid : ∀ (pre : List Change) (lo : Option Int) (x z : HiState) (c : Change) (post : List Change), runS lo x (pre ++ c :: post) = some z → ∃ z0, runS lo x pre = some z0 ∧ (chg z0 c).2 = true := by
  intro pre
  induction pre with
  | nil =>
    intro lo x z c post h
    rw [List.nil_append, runS] at h
    split at h
    · rename_i hq; exact ⟨x, by rw [runS], hq.1⟩
    · cases h
  | cons p pre ih =>
    intro lo x z c post h
    rw [List.cons_append, runS] at h
    split at h
    · rename_i hq
      obtain ⟨z0, h1, h2⟩ := ih _ _ _ _ _ h
      exact ⟨z0, by rw [runS, if_pos hq]; exact h1, h2⟩
    · cases h
theorem chg_valid {x : HiState} (hx : StOk x) (c : Change) (h : (chg x c).2 = true) : valid x.items c.item c.name := by
  unfold chg spec_hiState_change_p at h
  obtain ⟨n, n1, n2⟩ := ret_spName x.items hx.1 c.item c.name
  rw [n1] at h
  cases n
  · simp [opt] at h
  · exact n2.1 rfl
theorem tb_scan (l : List Item) (h : List Change) (hl : h.length ≤ 1048576) (T ca : Int) : ∀ (m fuel : Nat), m ≤ h.length → m < fuel →
    (impl_TakeBack_l1 h fuel ((m : Int) - 1) = some (-1) ∧ spec_TakeBack_l1 l h T ca fuel ((m : Int) - 1) = some ([], false)) ∨
    (∃ (i : Nat) (c : Change), h[i]? = some c ∧ impl_TakeBack_l1 h fuel ((m : Int) - 1) = some (i : Int) ∧ spec_TakeBack_l1 l h T ca fuel ((m : Int) - 1) = ((sliceHi h (i : Int)).bind fun x33 =>
        (spec_hiRun_p l x33 100000).bind fun x35 =>
        (getI x35.1.items c.item).bind fun x37 =>
        (getI x37.marks c.name).bind fun x39 =>
        (spec_hiAdd_p l h (Change.mk T ca c.item c.name x39 false)).bind fun x41 =>
        some (x41.1, x41.2))) := by
  intro m
  induction m with
  | zero =>
    intro fuel _ hf
    obtain ⟨f, rfl⟩ := Nat.exists_eq_succ_of_ne_zero (by omega : fuel ≠ 0)
    left
    rw [impl_TakeBack_l1, spec_TakeBack_l1, decide_eq_false (by omega)]
    exact ⟨rfl, rfl⟩
  | succ m ih =>
    intro fuel hm hf
    obtain ⟨f, rfl⟩ := Nat.exists_eq_succ_of_ne_zero (by omega : fuel ≠ 0)
    rw [show ((m + 1 : Nat) : Int) - 1 = (m : Int) from by omega, impl_TakeBack_l1, spec_TakeBack_l1, decide_eq_true (by omega : (m : Int) ≥ 0), opt_t, cond_true, bnd (getI_lt_some (by omega)), bnd (getI_lt_some (by omega)), w64_in (by omega), Bool.true_and]
    cases hr : h[m].review
    · right
      exact ⟨m, h[m], List.getElem?_eq_getElem (by omega), rfl, rfl⟩
    · exact ih f (by omega) (by omega)
theorem all_ticks {l : List Item} (hi : ItemsOk l) {h : List Change} {z : HiState} (hz : runH l h = some z) : (h.takeWhile fun c => decide (c.tick ≤ 100000)) = h := by
  have h1 := run_rising h none 0 _ _ z (.inr ⟨rfl, rfl⟩) (start_ok hi) (start_sim l) hz
  have h2 := rising_le h 0 h1
  clear h1 hz
  induction h with
  | nil => rfl
  | cons c h ih =>
    rw [List.takeWhile_cons_of_pos (by simpa using h2 c (by simp)), ih fun d hd => h2 d (by simp [hd])]
theorem same_TakeBack {l : List Item} (hb : nameB l) (h : List Change) (hl : h.length ≤ 1048576) (T ca : Int) (fuel : Nat) (hf : 1048576 < fuel) : ∃ r, spec_TakeBack_p fuel l h T ca = some r ∧ impl_TakeBack_p fuel l h T ca = some r ∧ r.1.length ≤ 61 := by
  obtain ⟨b, b1, b2, b3, _⟩ := isHistory_eq hb h hl fuel hf
  unfold spec_TakeBack_p impl_TakeBack_p
  rw [bnd b1, bnd b2]
  cases b
  · exact ⟨([], false), rfl, rfl, by simp⟩
  · obtain ⟨hi, h60, z, hz⟩ := b3 rfl
    simp only [Bool.not_true, cond_false]
    rw [w64_in (by omega)]
    rcases tb_scan l h hl T ca h.length fuel (Nat.le_refl _) (by omega) with ⟨q1, q2⟩ | ⟨i, c, q0, q1, q2⟩
    · rw [bnd q1, q2]
      exact ⟨([], false), rfl, rfl, by simp⟩
    · have hil := (List.getElem?_eq_some_iff.1 q0).1
      have hci := (List.getElem?_eq_some_iff.1 q0).2
      rw [bnd q1, q2, decide_eq_false (by omega), cond_false]
      have hs : sliceHi h (i : Int) = some (h.take i) := sliceHi_of rfl (by omega)
      rw [bnd hs, bnd hs]
      have hsplit : h = h.take i ++ c :: h.drop (i + 1) := by rw [← hci, List.getElem_cons_drop hil, List.take_append_drop]
      obtain ⟨z0, z1, z2⟩ := runS_mid (h.take i) none (startH l) z c (h.drop (i + 1)) (by rw [← hsplit]; exact hz)
      have hpl : (h.take i).length ≤ 1048576 := by rw [List.length_take]; omega
      obtain ⟨s', y, g1, g2, g3, g4⟩ := (stateOf_eq hi (h.take i) hpl 100000).2 z0 z1
      obtain ⟨y', p1, p2⟩ := hiRun_eq hi (h.take i) hpl 100000 z1
      rw [all_ticks hi z1] at g2 p2
      obtain rfl : z0 = y := by rw [show runH l (h.take i) = some z0 from z1] at g2; exact Option.some.inj g2
      obtain rfl : z0 = y' := by rw [show runH l (h.take i) = some z0 from z1] at p2; exact Option.some.inj p2
      obtain ⟨v1, v2, it, v3, v4⟩ := chg_valid g4 c z2
      have hit := g4.1.2 it (List.mem_of_getElem? v3)
      have hg1 : getI z0.items c.item = some it := by rw [getI_of (k := c.item.toNat) (by omega)]; exact v3
      have hkl : c.name.toNat < it.marks.length := by rw [hit.2]; omega
      have hg2 : getI it.marks c.name = some it.marks[c.name.toNat] := by rw [getI_of (k := c.name.toNat) (by omega)]; exact List.getElem?_eq_getElem hkl
      have hgc : getI h (i : Int) = some c := by rw [getI_nat]; exact q0
      obtain ⟨r, r1, r2, r3⟩ := add_same hb h hl (Change.mk T ca c.item c.name it.marks[c.name.toNat] false) fuel hf b1
      rw [bnd p1, bnd g1]
      dsimp only
      rw [bnd hgc, g3.1, bnd hg1, bnd hg1, bnd hg2, bnd hg2, bnd r1, bnd r2]
      exact ⟨_, rfl, rfl, r3⟩

end Go.Proofs.YtjbkbiofklgblaaGreatDoor

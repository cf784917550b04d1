/- Plain lemmas: what the functions compute is what the reference says, in plain Lean. No condition. -/
import Derived.Test.YtgcnndkbpmnmgaaPSeasonA
set_option maxRecDepth 4000
set_option maxHeartbeats 1000000
set_option linter.unusedVariables false
set_option linter.unusedSimpArgs false
set_option linter.unusedSectionVars false

namespace Go.Proofs.Ytgcnndkbpmnmgaa
open Go.AM

def aheadL : List Int → List Int → Bool
  | [], _ => false
  | _ :: _, [] => true
  | x :: xs, y :: ys => bif x != y then decide (x > y) else aheadL xs ys
theorem seAhead_l : ∀ (xs pre zs : List Int), spec_seAhead_l1 (pre ++ zs) xs pre.length = some (aheadL xs zs) := by
  intro xs
  induction xs with
  | nil => intro pre zs; rw [spec_seAhead_l1]; rfl
  | cons x xs ih =>
    intro pre zs
    rw [spec_seAhead_l1]
    cases zs with
    | nil => simp [aheadL]
    | cons z zs =>
      rw [show (((pre.length : Int) == ((pre ++ z :: zs).length : Int)) : Bool) = false from by simp; omega, cond_false, bnd (getI_pre1 pre z zs)]
      unfold aheadL
      cases h : (x != z)
      · simp only [cond_false]
        have := ih (pre ++ [z]) zs
        simpa using this
      · rfl
theorem cmpInt (x y : Int) : cmp_Compare_int_p x y = some (if x < y then -1 else if x > y then 1 else 0) := by
  unfold cmp_Compare_int_p cmp_isNaN_int_p
  simp only [bne_self_eq_false, Option.bind_some, cond_false]
  by_cases h1 : x < y
  · simp [h1]
  · by_cases h2 : x > y
    · simp [h1, h2]
    · simp [h1, h2]
theorem compare_l (a b : List Int) : ∀ (xs pre zs : List Int), b = pre ++ zs → a.length = pre.length + xs.length → ∃ c, slices_Compare_int_l1 a b xs pre.length = some c ∧ (c > 0 ↔ aheadL xs zs = true) := by
  intro xs
  induction xs with
  | nil =>
    intro pre zs _ _
    rw [slices_Compare_int_l1]
    by_cases h : (a.length : Int) < (b.length : Int)
    · rw [decide_eq_true h]; exact ⟨-1, rfl, by simp [aheadL]⟩
    · rw [decide_eq_false h]; exact ⟨0, rfl, by simp [aheadL]⟩
  | cons x xs ih =>
    intro pre zs hb ha
    rw [slices_Compare_int_l1]
    cases zs with
    | nil =>
      rw [decide_eq_true (by rw [hb]; simp)]
      exact ⟨1, rfl, by simp [aheadL]⟩
    | cons z zs =>
      rw [decide_eq_false (by rw [hb]; simp; omega), cond_false, bnd (getI_app hb rfl), bnd (cmpInt x z)]
      by_cases h1 : x < z
      · rw [if_pos h1]
        exact ⟨-1, rfl, by unfold aheadL; rw [show (x != z) = true from by simp; omega]; simp; omega⟩
      · rw [if_neg h1]
        by_cases h2 : x > z
        · rw [if_pos h2]
          exact ⟨1, rfl, by unfold aheadL; rw [show (x != z) = true from by simp; omega]; simp; omega⟩
        · rw [if_neg h2]
          obtain rfl : x = z := by omega
          obtain ⟨c, h3, h4⟩ := ih (pre ++ [x]) zs (by rw [hb]; simp) (by simp at ha ⊢; omega)
          refine ⟨c, by simpa using h3, h4.trans ?_⟩
          have : aheadL (x :: xs) (x :: zs) = aheadL xs zs := by rw [aheadL]; simp
          rw [this]
def aheadS (a b : Line) (best : Int) : Bool := bif sumW (countedL a best) != sumW (countedL b best) then decide (sumW (countedL a best) > sumW (countedL b best)) else aheadL (countedL a best) (countedL b best)
theorem isAhead_eq (a b : Line) (best : Int) (hbest : 1 ≤ best ∧ best ≤ 9) : impl_isAhead_p a b best = some (aheadS a b best) := by
  unfold impl_isAhead_p aheadS
  rw [bnd (counting_eq a best hbest), bnd (counting_eq b best hbest), bnd (sumInts_eq _), bnd (sumInts_eq _)]
  cases h : (sumW (countedL a best) != sumW (countedL b best))
  · simp only [cond_false]
    obtain ⟨c, h1, h2⟩ := compare_l (countedL a best) (countedL b best) (countedL a best) [] (countedL b best) rfl (by simp)
    unfold slices_Compare_int_p
    rw [bnd (show slices_Compare_int_l1 _ _ _ 0 = some c from h1)]
    congr 1
    rw [Bool.eq_iff_iff]
    simpa using h2
  · rfl
theorem seAhead_eq (s : Season) (i k : Nat) (a b : Line) (ha : s.lines[i]? = some a) (hb : s.lines[k]? = some b) (hbest : 1 ≤ s.best ∧ s.best ≤ 9) : spec_seAhead_p s (i : Int) (k : Int) = some (aheadS a b s.best) := by
  unfold spec_seAhead_p aheadS
  rw [bnd (seTotal_eq s i a ha hbest), bnd (seTotal_eq s k b hb hbest)]
  cases h : (sumW (countedL a s.best) != sumW (countedL b s.best))
  · simp only [cond_false]
    rw [bnd (seCounted_eq s i a ha hbest), bnd (seCounted_eq s k b hb hbest)]
    exact seAhead_l _ [] _
  · rfl
theorem places_l2 (s : Season) (hbest : 1 ≤ s.best ∧ s.best ≤ 9) (hl : s.lines.length ≤ 80) (k : Nat) (b : Line) (hk : s.lines[k]? = some b) (acc : List Int) (hacc : acc.length ≤ 80) : ∀ (ys pre : List Line) (v : Int), s.lines = pre ++ ys →
    ∃ r : List Int, spec_PlacesOf_l2 s k acc ys pre.length v = some r ∧ impl_PlacesOf_l2 s b acc ys pre.length v = some r ∧ r.length = acc.length + 1 := by
  intro ys
  induction ys with
  | nil =>
    intro pre v _
    rw [spec_PlacesOf_l2, impl_PlacesOf_l2]
    have : need (fitsB 8 (acc.length + [v].length)) = some () := by rw [fits_of (by simp; omega)]; rfl
    rw [bnd this]
    exact ⟨_, rfl, rfl, by simp⟩
  | cons y ys ih =>
    intro pre v h1
    have hy : s.lines[pre.length]? = some y := by rw [h1]; simp
    rw [spec_PlacesOf_l2, impl_PlacesOf_l2, bnd (seAhead_eq s pre.length k y b hy hk hbest), bnd (isAhead_eq y b s.best hbest)]
    cases aheadS y b s.best
    · have := ih (pre ++ [y]) v (by rw [h1]; simp)
      simpa using this
    · have := ih (pre ++ [y]) (w64 (v + 1)) (by rw [h1]; simp)
      simpa using this
theorem places_l1 (s : Season) (hbest : 1 ≤ s.best ∧ s.best ≤ 9) (hl : s.lines.length ≤ 80) : ∀ (ys pre : List Line) (acc : List Int), s.lines = pre ++ ys → acc.length = pre.length →
    ∃ r : List Int × Bool, spec_PlacesOf_l1 s ys pre.length acc = some r ∧ impl_PlacesOf_l1 s ys pre.length acc = some r ∧ r.1.length ≤ 80 := by
  intro ys
  induction ys with
  | nil =>
    intro pre acc h1 h2
    rw [spec_PlacesOf_l1, impl_PlacesOf_l1]
    exact ⟨_, rfl, rfl, by rw [List.append_nil] at h1; show acc.length ≤ 80; rw [h2, ← h1]; exact hl⟩
  | cons y ys ih =>
    intro pre acc h1 h2
    have hy : s.lines[pre.length]? = some y := by rw [h1]; simp
    have hp : pre.length ≤ 80 := by rw [h1] at hl; simp at hl; omega
    obtain ⟨r, g1, g2, g3⟩ := places_l2 s hbest hl pre.length y hy acc (by omega) s.lines [] 1 rfl
    rw [spec_PlacesOf_l1, impl_PlacesOf_l1, bnd (show spec_PlacesOf_l2 s pre.length acc s.lines 0 1 = some r from g1), bnd (show impl_PlacesOf_l2 s y acc s.lines 0 1 = some r from g2)]
    have := ih (pre ++ [y]) r (by rw [h1]; simp) (by rw [g3, h2]; simp)
    simpa using this
theorem same_PlacesOf (s : Season) (hb : nSeason s ≤ 1048576) (fuel : Nat) (hf : 1048576 < fuel) : ∃ r : List Int × Bool, spec_PlacesOf_p s = some r ∧ impl_PlacesOf_p fuel s = some r ∧ r.1.length ≤ 80 := by
  obtain ⟨b, g1, g2⟩ := ret_seGood s hb
  obtain ⟨b', g1', g2'⟩ := ret_impl_IsSeason s hb fuel hf
  obtain rfl : b = b' := Bool.eq_iff_iff.2 (g2.trans g2'.symm)
  unfold spec_PlacesOf_p impl_PlacesOf_p
  rw [bnd g1, bnd g1']
  cases b
  · exact ⟨_, rfl, rfl, by simp⟩
  have hok := g2.1 rfl
  simp only [Bool.not_true, cond_false]
  exact places_l1 s hok.1 (lines_len hok) s.lines [] [] rfl rfl

end Go.Proofs.Ytgcnndkbpmnmgaa

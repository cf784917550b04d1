/- Plain lemmas: what the functions compute is what the reference says, in plain Lean. No condition. -/
import Derived.Test.YtkabhjekcchjlaaPTrim1
set_option maxRecDepth 4000
set_option maxHeartbeats 1000000
set_option linter.unusedVariables false
set_option linter.unusedSimpArgs false
set_option linter.unusedSectionVars false

namespace Go.Proofs.Ytkabhjekcchjlaa
open Go.AM

theorem split_at {l : List Int} {k : Int} (h : HasM l k) : ∃ pre x post, l = pre ++ x :: post ∧ (pre.length : Int) = k ∧ getI l k = some x ∧ ∀ v, l.set k.toNat v = pre ++ v :: post := by
  have hk : k.toNat < l.length := by have := h.2; omega
  have hs : l = l.take k.toNat ++ l[k.toNat] :: l.drop (k.toNat + 1) := by rw [List.getElem_cons_drop hk, List.take_append_drop]
  have hp : (l.take k.toNat).length = k.toNat := by rw [List.length_take]; omega
  refine ⟨l.take k.toNat, l[k.toNat], l.drop (k.toNat + 1), hs, by have := h.2; omega, ?_, fun v => ?_⟩
  · rw [getI_of (k := k.toNat) (by have := h.2; omega)]; exact List.getElem?_eq_getElem hk
  · rw [List.set_eq_take_append_cons_drop, if_pos hk]
theorem sameInts_l (b : List Int) : ∀ (ys pre : List Int), b = pre ++ ys → laws_sameInts_l1 b ys pre.length = some true := by
  intro ys
  induction ys with
  | nil => intro pre _; rw [laws_sameInts_l1]
  | cons y ys ih =>
    intro pre h
    rw [laws_sameInts_l1, bnd (getI_app (pre := pre) (y := y) (ys := ys) h rfl), show (y != y) = false from by simp, cond_false]
    have := ih (pre ++ [y]) (by rw [h]; simp)
    rw [show (pre ++ [y]).length = pre.length + 1 from by simp] at this
    exact this
theorem sameInts_eq (b : List Int) : laws_sameInts_p b b = some true := by
  unfold laws_sameInts_p
  rw [show ((b.length : Int) != (b.length : Int)) = false from by simp, cond_false]
  exact sameInts_l b b [] rfl
theorem mean_eq {l : List Int} (h : GoodM l) (fuel : Nat) (hf : 2000 < fuel) : ∃ p q g, impl_TrimmedMean_p fuel l = some (p, q, true) ∧ 0 < g ∧ p * g = tS l ∧ q * g = nS l ∧ (1 ≤ q ∧ q ≤ 9) ∧ (-20000 ≤ p ∧ p ≤ 20000) := by
  have hb := tS_bd h
  obtain ⟨p, q, g, h1, h2, h3, h4, h5, h6, h7⟩ := low_eq (tS l) (nS l) (by omega) (nS_bd h) fuel (by omega)
  obtain ⟨c, c1, c2⟩ := ret_AreMarks l
  have hc : c = true := c2.2 h
  subst hc
  refine ⟨p, q, g, ?_, h3, h4, h5, h6, by omega⟩
  unfold impl_TrimmedMean_p
  rw [bnd c1]
  simp only [Bool.not_true, cond_false]
  rw [bnd (trimmed_eq h fuel hf).1, bnd h1]
theorem sumT_eq {l : List Int} (h : GoodM l) (fuel : Nat) (hf : 2000 < fuel) : impl_TrimmedSum_p fuel l = some (tS l, nS l, true) := by
  obtain ⟨c, c1, c2⟩ := ret_AreMarks l
  have hc : c = true := c2.2 h
  subst hc
  unfold impl_TrimmedSum_p
  rw [bnd c1]
  simp only [Bool.not_true, cond_false]
  rw [bnd (trimmed_eq h fuel hf).1]
theorem tmOrder_l (S : List Int) (hS : S.length ≤ 1000) : ∀ (m f : Nat) (acc : List Int), m ≤ S.length → m < f → acc.length + m ≤ 1000 → spec_tmOrder_l1 S f acc ((m : Int) - 1) = some (acc ++ (S.take m).reverse) := by
  intro m
  induction m with
  | zero =>
    intro f acc _ hf _
    obtain ⟨f, rfl⟩ := Nat.exists_eq_succ_of_ne_zero (by omega : f ≠ 0)
    rw [spec_tmOrder_l1, decide_eq_false (by omega)]
    simp
  | succ m ih =>
    intro f acc hm hf ha
    obtain ⟨f, rfl⟩ := Nat.exists_eq_succ_of_ne_zero (by omega : f ≠ 0)
    rw [show ((m + 1 : Nat) : Int) - 1 = (m : Int) from by omega, spec_tmOrder_l1, decide_eq_true (by omega), cond_true, bnd (getI_lt_some (by omega)), fits_of (by simp; omega), need_t, Option.bind_some, w64_in (by omega), ih f _ (by omega) (by omega) (by simp; omega)]
    have ht : S.take (m + 1) = S.take m ++ [S[m]] := List.take_succ_eq_append_getElem (by omega)
    rw [ht, List.reverse_append, List.append_assoc]
    rfl

end Go.Proofs.Ytkabhjekcchjlaa

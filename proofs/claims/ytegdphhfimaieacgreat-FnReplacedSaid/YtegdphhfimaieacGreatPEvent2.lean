/- Plain lemmas: what the functions compute is what the reference says, in plain Lean. No condition. -/
import Derived.Test.YtegdphhfimaieacGreatPWorld3P
set_option maxRecDepth 4000
set_option maxHeartbeats 1000000
set_option linter.unusedVariables false
set_option linter.unusedSimpArgs false
set_option linter.unusedSectionVars false

namespace Go.Proofs.YtegdphhfimaieacGreat
open Go.AM

def UpOk (l : List Int) (lo hi : Int) : Prop := (∀ n ∈ l, lo ≤ n ∧ n ≤ hi) ∧ l.Pairwise (· < ·)
theorem ret_l1Rising_l (l : List Int) (lo hi : Int) (hl : l.length ≤ 1048576) : ∀ (ys pre : List Int), l = pre ++ ys → (∀ n ∈ pre, lo ≤ n ∧ n ≤ hi) → pre.Pairwise (· < ·) → Ret (spec_l1Rising_l1 l lo hi ys pre.length) (UpOk l lo hi) := by
  intro ys
  induction ys with
  | nil =>
    intro pre h1 h2 h3
    rw [List.append_nil] at h1
    rw [spec_l1Rising_l1]
    exact .t (by rw [h1]; exact ⟨h2, h3⟩)
  | cons y ys ih =>
    intro pre h1 h2 h3
    have hy : y ∈ l := by rw [h1]; simp
    rw [spec_l1Rising_l1]
    refine (ret_l1In y lo hi).bindR (fun h => ?_) (fun h => .f fun k => h (k.1 y hy))
    simp only [Bool.not_true, Bool.not_false, Bool.true_and, Bool.false_or]
    have fin : (∀ l, pre.getLast? = some l → l < y) → Ret (spec_l1Rising_l1 l lo hi ys (pre.length + 1)) (UpOk l lo hi) := by
      intro hlast
      have := ih (pre ++ [y]) (by rw [h1]; simp) (by
        intro n hn; rcases List.mem_append.1 hn with hn | hn
        · exact h2 n hn
        · obtain rfl := List.mem_singleton.1 hn; exact h) (pw_snoc (R := fun a b : Int => a < b) (fun a b c p q => by omega) h3 hlast)
      simpa using this
    rcases List.eq_nil_or_concat pre with rfl | ⟨q, z, rfl⟩
    · simp only [List.length_nil, zero_d, opt_f, Option.bind_some, Bool.false_and, cond_false]
      exact fin (by simp)
    · simp only [List.concat_eq_append] at *
      have hkl : (q ++ [z]).length = q.length + 1 := by simp
      have hq : q.length ≤ 1048576 := by rw [h1] at hl; simp at hl; omega
      rw [hkl] at fin ⊢
      simp only [pos_d, opt_t, Bool.true_and]
      rw [w64_pred (by omega), bnd (getI_app (pre := q) (y := z) (ys := y :: ys) (by rw [h1]; simp) rfl)]
      refine .dcond (fun hlt => .f fun k => ?_) (fun hlt => fin ?_)
      · have := k.2
        rw [h1] at this
        have := (List.pairwise_append.1 this).2.2 z (by simp) y (by simp)
        omega
      · intro l hl'; simp at hl'; subst hl'; omega
theorem ret_l1Rising (l : List Int) (lo hi : Int) (hl : l.length ≤ 1048576) : Ret (spec_l1Rising_p l lo hi) (UpOk l lo hi) := ret_l1Rising_l l lo hi hl l [] rfl (by simp) List.Pairwise.nil
theorem ret_isIncreasing_l (l : List Int) (m : Int) (hm : 1 ≤ m ∧ m ≤ 1000000) (hl : l.length ≤ 1048576) : ∀ (ys pre : List Int), l = pre ++ ys → (∀ n ∈ pre, 0 ≤ n ∧ n ≤ m - 1) → pre.Pairwise (· < ·) → Ret (impl_isIncreasing_l1 l m ys pre.length) (UpOk l 0 (m - 1)) := by
  intro ys
  induction ys with
  | nil =>
    intro pre h1 h2 h3
    rw [List.append_nil] at h1
    rw [impl_isIncreasing_l1]
    exact .t (by rw [h1]; exact ⟨h2, h3⟩)
  | cons y ys ih =>
    intro pre h1 h2 h3
    have hy : y ∈ l := by rw [h1]; simp
    rw [impl_isIncreasing_l1, w64_in (by omega)]
    refine (ret_within y 0 (m - 1)).bindR (fun h => ?_) (fun h => .f fun k => h (k.1 y hy))
    simp only [Bool.not_true, Bool.not_false, Bool.true_and, Bool.false_or]
    have fin : (∀ l, pre.getLast? = some l → l < y) → Ret (impl_isIncreasing_l1 l m ys (pre.length + 1)) (UpOk l 0 (m - 1)) := by
      intro hlast
      have := ih (pre ++ [y]) (by rw [h1]; simp) (by
        intro n hn; rcases List.mem_append.1 hn with hn | hn
        · exact h2 n hn
        · obtain rfl := List.mem_singleton.1 hn; exact h) (pw_snoc (R := fun a b : Int => a < b) (fun a b c p q => by omega) h3 hlast)
      simpa using this
    rcases List.eq_nil_or_concat pre with rfl | ⟨q, z, rfl⟩
    · simp only [List.length_nil, zero_d, opt_f, Option.bind_some, Bool.false_and, cond_false]
      exact fin (by simp)
    · simp only [List.concat_eq_append] at *
      have hkl : (q ++ [z]).length = q.length + 1 := by simp
      have hq : q.length ≤ 1048576 := by rw [h1] at hl; simp at hl; omega
      rw [hkl] at fin ⊢
      simp only [pos_d, opt_t, Bool.true_and]
      rw [w64_pred (by omega), bnd (getI_app (pre := q) (y := z) (ys := y :: ys) (by rw [h1]; simp) rfl)]
      refine .dcond (fun hlt => .f fun k => ?_) (fun hlt => fin ?_)
      · have := k.2
        rw [h1] at this
        have := (List.pairwise_append.1 this).2.2 z (by simp) y (by simp)
        omega
      · intro l hl'; simp at hl'; subst hl'; omega
theorem ret_isIncreasing (l : List Int) (m : Int) (hm : 1 ≤ m ∧ m ≤ 1000000) (hl : l.length ≤ 1048576) : Ret (impl_isIncreasing_p l m) (UpOk l 0 (m - 1)) := ret_isIncreasing_l l m hm hl l [] rfl (by simp) List.Pairwise.nil

end Go.Proofs.YtegdphhfimaieacGreat

/- Plain lemmas: what the functions compute is what the reference says, in plain Lean. No condition. -/
import Derived.Test.YtegdphhfimaieacGreatPWorld1
set_option maxRecDepth 4000
set_option maxHeartbeats 1000000
set_option linter.unusedVariables false
set_option linter.unusedSimpArgs false
set_option linter.unusedSectionVars false

namespace Go.Proofs.YtegdphhfimaieacGreat
open Go.AM

def dd' : Int → List Int → List Int
  | _, [] => []
  | x, y :: l => bif y != x then y :: dd' y l else dd' x l
def dd : List Int → List Int
  | [] => []
  | x :: l => x :: dd' x l
theorem mem_dd' : ∀ (l : List Int) (x a : Int), a = x ∨ a ∈ dd' x l ↔ a = x ∨ a ∈ l
  | [], x, a => by simp [dd']
  | y :: l, x, a => by
    rw [dd']
    by_cases h : y = x
    · subst h
      rw [show (y != y) = false from by simp, cond_false, mem_dd' l y a]
      simp
    · rw [show (y != x) = true from by simpa using h, cond_true, List.mem_cons, List.mem_cons, mem_dd' l y a]
theorem mem_dd (l : List Int) (a : Int) : a ∈ dd l ↔ a ∈ l := by
  cases l with
  | nil => simp [dd]
  | cons x l => rw [dd, List.mem_cons, List.mem_cons, mem_dd' l x a]
theorem dd'_lt : ∀ (l : List Int) (x : Int), (x :: l).Pairwise (· ≤ ·) → (x :: dd' x l).Pairwise (· < ·)
  | [], x, _ => List.pairwise_singleton _ _
  | y :: l, x, h => by
    rw [dd']
    have h1 := List.pairwise_cons.1 h
    by_cases hy : y = x
    · subst hy
      rw [show (y != y) = false from by simp, cond_false]
      exact dd'_lt l y h1.2
    · rw [show (y != x) = true from by simpa using hy, cond_true]
      have h2 := dd'_lt l y h1.2
      refine List.pairwise_cons.2 ⟨fun z hz => ?_, h2⟩
      have h3 := h1.1 y (by simp)
      rcases List.mem_cons.1 hz with rfl | hz
      · omega
      · have := (List.pairwise_cons.1 h2).1 z hz; omega
theorem dd_lt {l : List Int} (h : l.Pairwise (· ≤ ·)) : (dd l).Pairwise (· < ·) := by
  cases l with
  | nil => exact List.Pairwise.nil
  | cons x l => exact dd'_lt l x h
theorem getP_app {l A B : List Int} {y : Int} {lo n : Nat} {i : Int} (hl : l = A ++ y :: B) (hi : (lo : Int) + i = (A.length : Int)) (h0 : 0 ≤ i) (hn : i < (n : Int)) : getP l lo n i = some y := by
  unfold getP
  rw [if_pos ⟨h0, by omega⟩, show lo + i.toNat = A.length from by omega, hl]
  simp
theorem compact_l2 (sA : List Int) (K0 : Nat) (hK : K0 ≤ sA.length) (hl : sA.length ≤ 1048576) : ∀ (rest W M0 v207 : List Int) (prev : Int) (fuel : Nat), rest.length < fuel → (W ++ (M0 ++ [prev]) ++ rest).length = sA.length → K0 < (W ++ (M0 ++ [prev])).length →
    slices_Compact_int_l2 sA (K0 : Int) fuel v207 (W.length : Int) (W ++ (M0 ++ [prev]) ++ rest) (((W ++ (M0 ++ [prev])).length : Int) - (K0 : Int)) = some (.error (W ++ dd' prev rest)) := by
  intro rest
  induction rest with
  | nil =>
    intro W M0 v207 prev fuel hf h1 h2
    obtain ⟨f, rfl⟩ := Nat.exists_eq_succ_of_ne_zero (by omega : fuel ≠ 0)
    rw [slices_Compact_int_l2, List.append_nil]
    rw [List.append_nil] at h1
    have hlen : (W ++ (M0 ++ [prev])).length = W.length + (M0.length + 1) := by simp
    rw [Int.toNat_natCast, decide_eq_false (by omega), cond_false]
    have i1 : inB (W.length : Int) ((W ++ (M0 ++ [prev])).length : Int) ((W ++ (M0 ++ [prev])).length : Int) = true := by
      simp only [inB, Bool.and_eq_true, decide_eq_true_eq]; omega
    rw [i1, Int.toNat_natCast]
    have e1 : (List.take W.length (W ++ (M0 ++ [prev])) ++ List.replicate ((W ++ (M0 ++ [prev])).length - W.length) (0 : Int) ++ List.drop (W.length + ((W ++ (M0 ++ [prev])).length - W.length)) (W ++ (M0 ++ [prev]))) = W ++ List.replicate (M0.length + 1) 0 := by
      rw [hlen]; simp
    rw [e1]
    have i2 : inB 0 (W.length : Int) ((W ++ List.replicate (M0.length + 1) (0 : Int)).length : Int) = true := by
      simp only [inB, Bool.and_eq_true, decide_eq_true_eq]; simp; omega
    rw [i2]
    simp [need, dd']
  | cons y rest ih =>
    intro W M0 v207 prev fuel hf h1 h2
    obtain ⟨f, rfl⟩ := Nat.exists_eq_succ_of_ne_zero (by simp at hf; omega : fuel ≠ 0)
    simp only [List.length_cons] at hf
    have hlen : (W ++ (M0 ++ [prev])).length = W.length + (M0.length + 1) := by simp
    have h1' : W.length + (M0.length + 1) + (rest.length + 1) = sA.length := by simp at h1; omega
    rw [slices_Compact_int_l2, Int.toNat_natCast, decide_eq_true (by omega), cond_true, bnd (getP_app (A := W ++ (M0 ++ [prev])) (y := y) (B := rest) rfl (by omega) (by omega) (by omega)),
      w64_in (n := ((W ++ (M0 ++ [prev])).length : Int) - (K0 : Int) - 1) (by omega), bnd (getP_app (A := W ++ M0) (y := prev) (B := y :: rest) (by simp) (by simp; omega) (by omega) (by omega)), w64_in (n := ((W ++ (M0 ++ [prev])).length : Int) - (K0 : Int) + 1) (by omega), dd']
    by_cases hy : y = prev
    · rw [show (y != prev) = false from by simp [hy], cond_false, cond_false]
      subst hy
      have := ih W (M0 ++ [y]) (W ++ (M0 ++ [y]) ++ y :: rest) y f (by omega) (by simp; omega) (by simp at h2 ⊢; omega)
      rw [show W ++ (M0 ++ [y] ++ [y]) ++ rest = W ++ (M0 ++ [y]) ++ y :: rest from by simp, show (((W ++ (M0 ++ [y] ++ [y])).length : Nat) : Int) - (K0 : Int) = ((W ++ (M0 ++ [y])).length : Int) - (K0 : Int) + 1 from by simp; omega] at this
      exact this
    · rw [show (y != prev) = true from by simpa using hy, cond_true, cond_true]
      obtain ⟨m, M', hM⟩ := List.exists_cons_of_ne_nil (l := M0 ++ [prev]) (by simp)
      have hMl : M'.length = M0.length := by have := congrArg List.length hM; simp at this; omega
      rw [hM]
      rw [bnd (show getI (W ++ m :: M' ++ y :: rest) (W.length : Int) = some m from by rw [List.append_assoc, List.cons_append]; exact getI_pre W m _ rfl), w64_in (n := (W.length : Int) + 1) (by omega), Int.toNat_natCast]
      have e1 : (W ++ m :: M' ++ y :: rest).set W.length y = (W ++ [y]) ++ (M' ++ [y]) ++ rest := by simp [List.set_append]
      rw [e1]
      have := ih (W ++ [y]) M' ((W ++ [y]) ++ (M' ++ [y]) ++ rest) y f (by omega) (by simp; omega) (by simp at h2 ⊢; omega)
      rw [show (((W ++ [y] ++ (M' ++ [y])).length : Nat) : Int) - (K0 : Int) = ((W ++ m :: M').length : Int) - (K0 : Int) + 1 from by simp; omega, show ((W ++ [y]).length : Int) = (W.length : Int) + 1 from by simp] at this
      rw [this]
      simp
theorem compact_l1 (sA : List Int) (fu : Nat) (hfu : sA.length < fu) (hl : sA.length ≤ 1048576) : ∀ (rest P : List Int) (prev : Int) (fuel : Nat), rest.length < fuel → sA = P ++ prev :: rest → (∀ r, dd (P ++ prev :: r) = P ++ prev :: dd' prev r) →
    slices_Compact_int_l1 sA fu fuel ((P.length + 1 : Nat) : Int) = some (dd sA) := by
  intro rest
  induction rest with
  | nil =>
    intro P prev fuel hf h1 h2
    obtain ⟨f, rfl⟩ := Nat.exists_eq_succ_of_ne_zero (by omega : fuel ≠ 0)
    rw [slices_Compact_int_l1, decide_eq_false (by rw [h1]; simp), cond_false]
    have := h2 []
    rw [dd'] at this
    rw [h1, this]
  | cons y rest ih =>
    intro P prev fuel hf h1 h2
    obtain ⟨f, rfl⟩ := Nat.exists_eq_succ_of_ne_zero (by simp at hf; omega : fuel ≠ 0)
    simp only [List.length_cons] at hf
    have hlen : sA.length = P.length + (rest.length + 1 + 1) := by rw [h1]; simp
    rw [slices_Compact_int_l1, decide_eq_true (by omega), cond_true, bnd (getI_app (pre := P ++ [prev]) (y := y) (ys := rest) (by rw [h1]; simp) (by simp)), w64_in (n := ((P.length + 1 : Nat) : Int) - 1) (by omega), bnd (getI_app (pre := P) (y := prev) (ys := y :: rest) h1 (by omega)), w64_in (n := ((P.length + 1 : Nat) : Int) + 1) (by omega)]
    by_cases hy : y = prev
    · rw [show (y == prev) = true from by simp [hy], cond_true]
      subst hy
      have i1 : inB ((P.length + 1 : Nat) : Int) (sA.length : Int) (sA.length : Int) = true := by
        simp only [inB, Bool.and_eq_true, decide_eq_true_eq]; omega
      rw [i1]
      have := compact_l2 sA (P.length + 1) (by omega) hl rest (P ++ [y]) [] sA y fu (by omega) (by simp; omega) (by simp)
      rw [show P ++ [y] ++ (([] : List Int) ++ [y]) ++ rest = sA from by rw [h1]; simp, show (P ++ [y] ++ (([] : List Int) ++ [y])).length = P.length + 2 from by simp, show (P ++ [y]).length = P.length + 1 from by simp, show ((P.length + 2 : Nat) : Int) - ((P.length + 1 : Nat) : Int) = 1 from by omega] at this
      have h3 := h2 (y :: rest)
      rw [dd', show (y != y) = false from by simp, cond_false] at h3
      simp only [need, Option.bind_some, cond_true]
      rw [this]
      simp only [Option.bind_some, flow]
      rw [h1, h3]; simp
    · rw [show (y == prev) = false from by simpa using hy, cond_false]
      simp only [Option.bind_some, flow]
      have := ih (P ++ [prev]) y f (by omega) (by rw [h1]; simp) (by
        intro r
        have h3 := h2 (y :: r)
        rw [dd', show (y != prev) = true from by simpa using hy, cond_true] at h3
        simpa using h3)
      rw [show (((P ++ [prev]).length + 1 : Nat) : Int) = ((P.length + 1 : Nat) : Int) + 1 from by simp] at this
      exact this
theorem compact_eq (l : List Int) (hl : l.length ≤ 1048576) (fuel : Nat) (hf : 1048576 < fuel) : slices_Compact_int_p fuel l = some (dd l) := by
  unfold slices_Compact_int_p
  cases l with
  | nil => rfl
  | cons x l =>
    cases l with
    | nil => rfl
    | cons y l =>
      rw [decide_eq_false (by simp; omega), cond_false]
      exact compact_l1 (x :: y :: l) fuel (by omega) hl (y :: l) [] x fuel (by simp at hl ⊢; omega) rfl (fun r => rfl)
theorem sortI_le (l : List Int) : (sortI l).Pairwise (· ≤ ·) := by
  have := List.pairwise_mergeSort (le := fun x y : Int => decide (x ≤ y)) (fun a b c h1 h2 => by simp at *; omega) (fun a b => by simp; omega) l
  exact this.imp fun h => by simpa using h
theorem sortI_perm (l : List Int) : (sortI l).Perm l := List.mergeSort_perm l _
theorem contains_eq (l : List Int) (x : Int) : Ret (slices_Contains_int_p l x) (x ∈ l) := by
  have key : ∀ (l : List Int) (k : Nat), ∃ i : Int, slices_Index_int_l1 x l k = some i ∧ (i ≥ 0 ↔ x ∈ l) := by
    intro l
    induction l with
    | nil => intro k; exact ⟨-1, by rw [slices_Index_int_l1], by simp⟩
    | cons y l ih =>
      intro k
      rw [slices_Index_int_l1]
      by_cases h : x = y
      · rw [show (x == y) = true from by simp [h], cond_true]; exact ⟨_, rfl, by simp [h]⟩
      · rw [show (x == y) = false from by simpa using h, cond_false]
        obtain ⟨i, h1, h2⟩ := ih (k + 1)
        exact ⟨i, h1, h2.trans (by simp [h])⟩
  obtain ⟨i, h1, h2⟩ := key l 0
  unfold slices_Contains_int_p slices_Index_int_p
  rw [bnd h1]
  exact .some (by simpa using h2)

end Go.Proofs.YtegdphhfimaieacGreat

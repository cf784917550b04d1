/- Plain lemmas: what the functions compute is what the reference says, in plain Lean. No condition. -/
import Derived.Test.YtkabhjekcchjlaaPCur1
set_option maxRecDepth 4000
set_option maxHeartbeats 1000000
set_option linter.unusedVariables false
set_option linter.unusedSimpArgs false
set_option linter.unusedSectionVars false

namespace Go.Proofs.Ytkabhjekcchjlaa
open Go.AM

def GoodM (l : List Int) : Prop := (1 ≤ l.length ∧ l.length ≤ 9) ∧ ∀ x ∈ l, -1000 ≤ x ∧ x ≤ 1000
theorem ret_sAll (lo hi : Int) : ∀ (l : List Int) (k : Nat), Ret (spec_l1All_l1 lo hi l k) (∀ n ∈ l, lo ≤ n ∧ n ≤ hi) := by
  intro l
  induction l with
  | nil => intro k; rw [spec_l1All_l1]; exact .t (by simp)
  | cons y l ih =>
    intro k
    rw [spec_l1All_l1]
    refine (ret_l1In y lo hi).bindR (fun h => ?_) (fun h => .f fun k => h (k y (by simp)))
    simp only [Bool.not_true, cond_false]
    refine (ih (k + 1)).iff ⟨fun q n hn => ?_, fun q n hn => q n (by simp [hn])⟩
    rcases List.mem_cons.1 hn with rfl | hn
    · exact h
    · exact q n hn
theorem ret_AreMarks (l : List Int) : Ret (impl_AreMarksOf_p l) (GoodM l) := by
  unfold impl_AreMarksOf_p
  obtain ⟨b, b1, b2⟩ := ret_within (l.length : Int) 1 9
  rw [bnd b1]
  cases b
  · exact .f fun k => absurd (b2.2 (by have := k.1; omega)) (by simp)
  · obtain ⟨c, c1, c2⟩ := ret_allWithin (-1000) 1000 l 0
    rw [opt_t, bnd (show impl_allWithin_p l (-1000) 1000 = some c from c1), Bool.true_and]
    exact .some (c2.trans ⟨fun k => ⟨by have := b2.1 rfl; omega, k⟩, fun k => k.2⟩)
theorem ret_tmGood (l : List Int) : Ret (spec_tmGood_p l) (GoodM l) := by
  unfold spec_tmGood_p
  obtain ⟨b, b1, b2⟩ := ret_l1In (l.length : Int) 1 9
  rw [bnd b1]
  cases b
  · exact .f fun k => absurd (b2.2 (by have := k.1; omega)) (by simp)
  · obtain ⟨c, c1, c2⟩ := ret_sAll (-1000) 1000 l 0
    rw [opt_t, bnd (show spec_l1All_p l (-1000) 1000 = some c from c1), Bool.true_and]
    exact .some (c2.trans ⟨fun k => ⟨by have := b2.1 rfl; omega, k⟩, fun k => k.2⟩)
def HasM (l : List Int) (k : Int) : Prop := GoodM l ∧ 0 ≤ k ∧ k < (l.length : Int)
theorem ret_isMark (l : List Int) (k : Int) : Ret (impl_isMarkOf_p l k) (HasM l k) := by
  unfold impl_isMarkOf_p
  obtain ⟨b, b1, b2⟩ := ret_AreMarks l
  rw [bnd b1]
  cases b
  · exact .f fun q => absurd (b2.2 q.1) (by simp)
  · have hg := b2.1 rfl
    have := hg.1
    rw [opt_t, w64_in (by omega)]
    obtain ⟨c, c1, c2⟩ := ret_within k 0 ((l.length : Int) - 1)
    rw [bnd c1, Bool.true_and]
    exact .some (c2.trans ⟨fun q => ⟨hg, by omega, by omega⟩, fun q => by have := q.2; omega⟩)
theorem ret_tmHas (l : List Int) (k : Int) : Ret (spec_tmHas_p l k) (HasM l k) := by
  unfold spec_tmHas_p
  obtain ⟨b, b1, b2⟩ := ret_tmGood l
  rw [bnd b1]
  cases b
  · exact .f fun q => absurd (b2.2 q.1) (by simp)
  · have hg := b2.1 rfl
    have := hg.1
    rw [opt_t, w64_in (by omega)]
    obtain ⟨c, c1, c2⟩ := ret_l1In k 0 ((l.length : Int) - 1)
    rw [bnd c1, Bool.true_and]
    exact .some (c2.trans ⟨fun q => ⟨hg, by omega, by omega⟩, fun q => by have := q.2; omega⟩)
def bd (l : List Int) : Prop := ∀ x ∈ l, -1000 ≤ x ∧ x ≤ 1000
theorem sum_bd : ∀ {l : List Int}, bd l → -1000 * (l.length : Int) ≤ l.sum ∧ l.sum ≤ 1000 * (l.length : Int) := by
  intro l
  induction l with
  | nil => intro _; simp
  | cons y l ih =>
    intro h
    have h1 := ih fun x hx => h x (by simp [hx])
    have h2 := h y (by simp)
    simp only [List.sum_cons, List.length_cons]
    omega
theorem sums_l : ∀ (l : List Int) (k : Nat) (v : Int), bd l → (-1000000 ≤ v - 1000 * (l.length : Int) ∧ v + 1000 * (l.length : Int) ≤ 1000000) → impl_sumInts_l1 l k v = some (v + l.sum) ∧ spec_poSum_l1 l k v = some (v + l.sum) := by
  intro l
  induction l with
  | nil => intro k v _ _; rw [impl_sumInts_l1, spec_poSum_l1]; simp
  | cons y l ih =>
    intro k v h hv
    simp only [List.length_cons] at hv
    have h2 := h y (by simp)
    rw [impl_sumInts_l1, spec_poSum_l1, w64_in (by omega), List.sum_cons, ← Int.add_assoc]
    exact ih (k + 1) (v + y) (fun x hx => h x (by simp [hx])) (by omega)
theorem sums_eq {l : List Int} (h : bd l) (hl : l.length ≤ 100) : impl_sumInts_p l = some l.sum ∧ spec_poSum_p l = some l.sum := by
  have := sums_l l 0 0 h (by omega)
  rw [Int.zero_add] at this
  exact this
def mxL (l : List Int) : Int := l.foldr max (-5000)
def mnL (l : List Int) : Int := l.foldr min 5000
theorem mxL_le : ∀ (l : List Int) (M : Int), mxL l ≤ M ↔ -5000 ≤ M ∧ ∀ y ∈ l, y ≤ M := by
  intro l M
  induction l with
  | nil => simp [mxL]
  | cons y l ih =>
    have e : mxL (y :: l) = max y (mxL l) := rfl
    rw [e, Int.max_le, ih]
    simp only [List.mem_cons, forall_eq_or_imp]
    constructor
    · rintro ⟨a, b, c⟩; exact ⟨b, a, c⟩
    · rintro ⟨a, b, c⟩; exact ⟨b, a, c⟩
theorem le_mnL : ∀ (l : List Int) (M : Int), M ≤ mnL l ↔ M ≤ 5000 ∧ ∀ y ∈ l, M ≤ y := by
  intro l M
  induction l with
  | nil => simp [mnL]
  | cons y l ih =>
    have e : mnL (y :: l) = min y (mnL l) := rfl
    rw [e, Int.le_min, ih]
    simp only [List.mem_cons, forall_eq_or_imp]
    constructor
    · rintro ⟨a, b, c⟩; exact ⟨b, a, c⟩
    · rintro ⟨a, b, c⟩; exact ⟨b, a, c⟩
theorem le_mx {l : List Int} {y : Int} (h : y ∈ l) : y ≤ mxL l := ((mxL_le l (mxL l)).1 (Int.le_refl _)).2 y h
theorem mn_le {l : List Int} {y : Int} (h : y ∈ l) : mnL l ≤ y := ((le_mnL l (mnL l)).1 (Int.le_refl _)).2 y h
theorem max_loop (x : List Int) (hx : x.length ≤ 1000) : ∀ (ys pre : List Int) (fuel : Nat) (m : Int), x = pre ++ ys → ys.length < fuel → -5000 ≤ m → slices_Max_int_l1 x fuel m (pre.length : Int) = some (max m (mxL ys)) := by
  intro ys
  induction ys with
  | nil =>
    intro pre fuel m h hf hm
    obtain ⟨f, rfl⟩ := Nat.exists_eq_succ_of_ne_zero (by omega : fuel ≠ 0)
    have e : mxL [] = -5000 := rfl
    rw [slices_Max_int_l1, decide_eq_false (by rw [h]; simp), cond_false, e, show max m (-5000) = m from by omega]
  | cons y ys ih =>
    intro pre fuel m h hf hm
    obtain ⟨f, rfl⟩ := Nat.exists_eq_succ_of_ne_zero (by omega : fuel ≠ 0)
    simp only [List.length_cons] at hf
    have hlen : x.length = pre.length + (ys.length + 1) := by rw [h]; simp
    rw [slices_Max_int_l1, decide_eq_true (by omega), cond_true, bnd (getI_app h rfl), w64_in (by omega)]
    have := ih (pre ++ [y]) f (max m y) (by rw [h]; simp) (by omega) (by omega)
    rw [show (pre ++ [y]).length = pre.length + 1 from by simp, Int.natCast_add, Int.natCast_one] at this
    have e : mxL (y :: ys) = max y (mxL ys) := rfl
    rw [this, e, show max (max m y) (mxL ys) = max m (max y (mxL ys)) from by omega]
theorem min_loop (x : List Int) (hx : x.length ≤ 1000) : ∀ (ys pre : List Int) (fuel : Nat) (m : Int), x = pre ++ ys → ys.length < fuel → m ≤ 5000 → slices_Min_int_l1 x fuel m (pre.length : Int) = some (min m (mnL ys)) := by
  intro ys
  induction ys with
  | nil =>
    intro pre fuel m h hf hm
    obtain ⟨f, rfl⟩ := Nat.exists_eq_succ_of_ne_zero (by omega : fuel ≠ 0)
    have e : mnL [] = 5000 := rfl
    rw [slices_Min_int_l1, decide_eq_false (by rw [h]; simp), cond_false, e, show min m 5000 = m from by omega]
  | cons y ys ih =>
    intro pre fuel m h hf hm
    obtain ⟨f, rfl⟩ := Nat.exists_eq_succ_of_ne_zero (by omega : fuel ≠ 0)
    simp only [List.length_cons] at hf
    have hlen : x.length = pre.length + (ys.length + 1) := by rw [h]; simp
    rw [slices_Min_int_l1, decide_eq_true (by omega), cond_true, bnd (getI_app h rfl), w64_in (by omega)]
    have := ih (pre ++ [y]) f (min m y) (by rw [h]; simp) (by omega) (by omega)
    rw [show (pre ++ [y]).length = pre.length + 1 from by simp, Int.natCast_add, Int.natCast_one] at this
    have e : mnL (y :: ys) = min y (mnL ys) := rfl
    rw [this, e, show min (min m y) (mnL ys) = min m (min y (mnL ys)) from by omega]
theorem most_eq {l : List Int} (h : GoodM l) (fuel : Nat) (hf : 1000 < fuel) : slices_Max_int_p fuel l = some (mxL l) ∧ slices_Min_int_p fuel l = some (mnL l) := by
  unfold slices_Max_int_p slices_Min_int_p
  have h1 := h.1
  have h2 := h.2
  cases l with
  | nil => simp at h1
  | cons y ys =>
    have hy := h2 y (by simp)
    simp only [List.length_cons] at h1
    rw [decide_eq_false (by simp; omega), cond_false, bnd (show getI (y :: ys) 0 = some y from rfl), cond_false, bnd (show getI (y :: ys) 0 = some y from rfl)]
    exact ⟨max_loop (y :: ys) (by simp; omega) ys [y] fuel y rfl (by omega) (by omega), min_loop (y :: ys) (by simp; omega) ys [y] fuel y rfl (by omega) (by omega)⟩
theorem sorted_l2 (y : Int) (v : List Int) (hv : v.length ≤ 1000) (hs : v.Pairwise (· ≥ ·)) : ∀ (n : Nat) (A B : List Int) (f : Nat), A.length = n → v = A ++ B → n < f → (∀ b ∈ B, b < y) →
    ∃ A' B', v = A' ++ B' ∧ spec_poSorted_l2 y v f (A.length : Int) = some (A'.length : Int) ∧ (∀ b ∈ B', b < y) ∧ (∀ a ∈ A', y ≤ a) := by
  intro n
  induction n with
  | zero =>
    intro A B f hA h hf hB
    obtain ⟨f, rfl⟩ := Nat.exists_eq_succ_of_ne_zero (by omega : f ≠ 0)
    obtain rfl : A = [] := List.eq_nil_of_length_eq_zero hA
    refine ⟨[], B, h, ?_, hB, by simp⟩
    rw [spec_poSorted_l2]
    rfl
  | succ n ih =>
    intro A B f hA h hf hB
    obtain ⟨f, rfl⟩ := Nat.exists_eq_succ_of_ne_zero (by omega : f ≠ 0)
    rcases List.eq_nil_or_concat A with h0 | ⟨A0, a, h0⟩
    · rw [h0] at hA; simp at hA
    · rw [List.concat_eq_append] at h0
      subst h0
      have hA0 : A0.length = n := by simp at hA; omega
      have hvl : v.length = n + 1 + B.length := by rw [h]; simp; omega
      have hg : getI v (n : Int) = some a := getI_app (pre := A0) (y := a) (ys := B) (by rw [h]; simp) (by omega)
      rw [spec_poSorted_l2, hA, decide_eq_true (by omega), opt_t, w64_in (by omega), show ((n + 1 : Nat) : Int) - 1 = (n : Int) from by omega, bnd hg, Bool.true_and]
      by_cases hc : a < y
      · rw [decide_eq_true hc, cond_true]
        have := ih A0 (a :: B) f hA0 (by rw [h]; simp) (by omega) (fun b hb => by
          rcases List.mem_cons.1 hb with rfl | hb
          · exact hc
          · exact hB b hb)
        rw [hA0] at this
        exact this
      · rw [decide_eq_false hc, cond_false]
        refine ⟨A0 ++ [a], B, h, by rw [hA], hB, fun x hx => ?_⟩
        rw [h] at hs
        have hp := (List.pairwise_append.1 (List.pairwise_append.1 hs).1).2.2
        rcases List.mem_append.1 hx with hx | hx
        · have := hp x hx a (by simp); omega
        · rw [List.mem_singleton.1 hx]; omega
theorem sorted_l1 (fuel : Nat) (hf : 2000 < fuel) : ∀ (ys : List Int) (k : Nat) (acc : List Int), acc.Pairwise (· ≥ ·) → acc.length + ys.length ≤ 900 → ∃ S, spec_poSorted_l1 fuel ys k acc = some S ∧ S.Perm (acc ++ ys) ∧ S.Pairwise (· ≥ ·) := by
  intro ys
  induction ys with
  | nil => intro k acc h _; exact ⟨acc, by rw [spec_poSorted_l1], by simp, h⟩
  | cons y ys ih =>
    intro k acc h hl
    simp only [List.length_cons] at hl
    obtain ⟨A, B, e1, e2, e3, e4⟩ := sorted_l2 y acc (by omega) h acc.length acc [] fuel rfl (by simp) (by omega) (by simp)
    have hlen : acc.length = A.length + B.length := by rw [e1]; simp
    have hp := List.pairwise_append.1 (e1 ▸ h)
    rw [spec_poSorted_l1, bnd e2, bnd (show sliceHi acc (A.length : Int) = some A from by rw [e1]; exact sliceHi_pre A B rfl), fits_of (by omega), need_t, Option.bind_some, fits_of (by simp; omega), need_t, Option.bind_some,
      bnd (show sliceLo acc (A.length : Int) = some B from by rw [sliceLo_of rfl (by omega), e1]; simp), fits_of (by simp; omega), need_t, Option.bind_some]
    obtain ⟨S, s1, s2, s3⟩ := ih (k + 1) (A ++ [y] ++ B) (by
      rw [List.append_assoc]
      refine List.pairwise_append.2 ⟨hp.1, List.pairwise_cons.2 ⟨fun b hb => by have := e3 b hb; omega, hp.2.1⟩, fun a ha b hb => ?_⟩
      rcases List.mem_cons.1 hb with rfl | hb
      · exact e4 a ha
      · exact hp.2.2 a ha b hb) (by simp; omega)
    refine ⟨S, s1, s2.trans ?_, s3⟩
    rw [e1]
    simp only [List.append_assoc]
    refine List.Perm.append_left A ?_
    show ([y] ++ (B ++ ys)).Perm (B ++ ([y] ++ ys))
    rw [← List.append_assoc, ← List.append_assoc]
    exact List.Perm.append_right ys List.perm_append_comm
theorem sorted_ok {l : List Int} (h : GoodM l) (fuel : Nat) (hf : 2000 < fuel) : ∃ S, spec_poSorted_p fuel l = some S ∧ S.length = l.length ∧ getI S 0 = some (mxL l) ∧ getI S ((S.length : Int) - 1) = some (mnL l) ∧ ∀ x ∈ S, x ∈ l := by
  have h1 := h.1
  have h2 := h.2
  obtain ⟨S, s1, s2, s3⟩ := sorted_l1 fuel hf l 0 [] List.Pairwise.nil (by simp; omega)
  rw [List.nil_append] at s2
  refine ⟨S, s1, s2.length_eq, ?_, ?_, fun x hx => s2.mem_iff.1 hx⟩
  · cases S with
    | nil => have := s2.length_eq; simp at this; omega
    | cons s S =>
      have hs : s ∈ l := s2.mem_iff.1 (by simp)
      have hb := h2 s hs
      have e : mxL l = s := by
        have a : mxL l ≤ s := (mxL_le l s).2 ⟨by omega, fun y hy => by
          rcases List.mem_cons.1 (s2.mem_iff.2 hy) with rfl | q
          · omega
          · exact (List.pairwise_cons.1 s3).1 y q⟩
        have b := le_mx hs
        omega
      rw [e]; rfl
  · rcases List.eq_nil_or_concat S with h0 | ⟨S0, t, h0⟩
    · have := s2.length_eq; rw [h0] at this; simp at this; omega
    · rw [List.concat_eq_append] at h0
      have ht : t ∈ l := s2.mem_iff.1 (by rw [h0]; simp)
      have hb := h2 t ht
      have e : mnL l = t := by
        have a : t ≤ mnL l := (le_mnL l t).2 ⟨by omega, fun y hy => by
          have hy' := s2.mem_iff.2 hy
          rw [h0] at hy' s3
          rcases List.mem_append.1 hy' with q | q
          · exact (List.pairwise_append.1 s3).2.2 y q t (by simp)
          · rw [List.mem_singleton.1 q]; omega⟩
        have b := mn_le ht
        omega
      rw [e]
      exact getI_app (pre := S0) (y := t) (ys := []) h0 (by rw [h0]; simp)
def tS (l : List Int) : Int := if l.length < 5 then l.sum else l.sum - mxL l - mnL l
def nS (l : List Int) : Int := if l.length < 5 then (l.length : Int) else (l.length : Int) - 2
theorem mm_bd {l : List Int} (h : GoodM l) : (-1000 ≤ mxL l ∧ mxL l ≤ 1000) ∧ (-1000 ≤ mnL l ∧ mnL l ≤ 1000) := by
  have h1 := h.1
  have h2 := h.2
  cases l with
  | nil => simp at h1
  | cons y l =>
    have hy := h2 y (by simp)
    have a := le_mx (l := y :: l) (y := y) (by simp)
    have b := mn_le (l := y :: l) (y := y) (by simp)
    have c : mxL (y :: l) ≤ 1000 := (mxL_le _ _).2 ⟨by omega, fun z hz => (h2 z hz).2⟩
    have d : -1000 ≤ mnL (y :: l) := (le_mnL _ _).2 ⟨by omega, fun z hz => (h2 z hz).1⟩
    omega
theorem tS_bd {l : List Int} (h : GoodM l) : -20000 ≤ tS l ∧ tS l ≤ 20000 := by
  have h1 := h.1
  have h2 := sum_bd h.2
  have h3 := mm_bd h
  unfold tS
  split <;> omega
theorem nS_bd {l : List Int} (h : GoodM l) : 1 ≤ nS l ∧ nS l ≤ 9 := by
  have h1 := h.1
  unfold nS
  split <;> omega
theorem trimmed_eq {l : List Int} (h : GoodM l) (fuel : Nat) (hf : 2000 < fuel) : impl_trimmedSum_p fuel l = some (tS l, nS l) ∧ spec_tmMean_p fuel l = some (tS l, nS l) := by
  have h1 := h.1
  have h2 := sum_bd h.2
  have h3 := mm_bd h
  obtain ⟨a1, a2⟩ := sums_eq h.2 (by omega)
  obtain ⟨m1, m2⟩ := most_eq h fuel (by omega)
  obtain ⟨S, s1, s2, s3, s4, _⟩ := sorted_ok h fuel hf
  unfold impl_trimmedSum_p spec_tmMean_p tS nS
  by_cases h5 : l.length < 5
  · rw [decide_eq_true (by omega), cond_true, bnd a1, bnd a2, cond_true, if_pos h5, if_pos h5]
    exact ⟨rfl, rfl⟩
  · rw [decide_eq_false (by omega), cond_false, bnd a1, bnd m1, bnd m2, bnd a2, cond_false, bnd s1, bnd s3, w64_in (n := (S.length : Int) - 1) (by omega), bnd s4, if_neg h5, if_neg h5, w64_in (n := l.sum - mxL l) (by omega), w64_in (n := l.sum - mxL l - mnL l) (by omega), w64_in (n := (l.length : Int) - 2) (by omega)]
    exact ⟨rfl, rfl⟩
theorem gcd_loop : ∀ (n : Nat) (A B f : Nat), B ≤ n → n < f → impl_gcdOf_l1 f (A : Int) (B : Int) = some ((Nat.gcd A B : Nat) : Int) ∧ spec_poLowest_l1 f (A : Int) (B : Int) = some ((Nat.gcd A B : Nat) : Int) := by
  intro n
  induction n with
  | zero =>
    intro A B f hB hf
    obtain ⟨f, rfl⟩ := Nat.exists_eq_succ_of_ne_zero (by omega : f ≠ 0)
    obtain rfl : B = 0 := by omega
    rw [impl_gcdOf_l1, spec_poLowest_l1, Nat.gcd_zero_right]
    exact ⟨rfl, rfl⟩
  | succ n ih =>
    intro A B f hB hf
    obtain ⟨f, rfl⟩ := Nat.exists_eq_succ_of_ne_zero (by omega : f ≠ 0)
    by_cases h0 : B = 0
    · subst h0
      rw [impl_gcdOf_l1, spec_poLowest_l1, Nat.gcd_zero_right]
      exact ⟨rfl, rfl⟩
    · have e1 : ((B : Int) != 0) = true := by rw [bne_iff_ne]; omega
      have e2 : (A : Int).tmod (B : Int) = ((A % B : Nat) : Int) := by rw [Int.tmod_eq_emod_of_nonneg (by omega)]; simp
      have e3 : A % B < B := Nat.mod_lt _ (by omega)
      have e4 : Nat.gcd B (A % B) = Nat.gcd A B := by rw [Nat.gcd_comm, ← Nat.gcd_rec, Nat.gcd_comm]
      rw [impl_gcdOf_l1, spec_poLowest_l1, e1, cond_true, need_t, Option.bind_some, decide_eq_true (by omega), cond_true, Option.bind_some, e2, ← e4]
      exact ih B (A % B) f (by omega) (by omega)
theorem low_eq (a n : Int) (ha : -1000000 ≤ a ∧ a ≤ 1000000) (hn : 1 ≤ n ∧ n ≤ 9) (fuel : Nat) (hf : 1000 < fuel) : ∃ p q g, impl_lowestTerms_p fuel a n = some (p, q) ∧ spec_poLowest_p fuel a n = some (p, q) ∧ 0 < g ∧ p * g = a ∧ q * g = n ∧ (1 ≤ q ∧ q ≤ 9) ∧ p.natAbs ≤ a.natAbs := by
  have g0 : 0 < Nat.gcd a.natAbs n.natAbs := Nat.gcd_pos_of_pos_right _ (by omega)
  have dv1 : ((Nat.gcd a.natAbs n.natAbs : Nat) : Int) ∣ a := Int.ofNat_dvd_left.2 (Nat.gcd_dvd_left _ _)
  have dv2 : ((Nat.gcd a.natAbs n.natAbs : Nat) : Int) ∣ n := Int.ofNat_dvd_left.2 (Nat.gcd_dvd_right _ _)
  have c1 := Int.tdiv_mul_cancel dv1
  have c2 := Int.tdiv_mul_cancel dv2
  obtain ⟨l1, l2⟩ := gcd_loop 9 a.natAbs n.natAbs fuel (by omega) (by omega)
  generalize hG : Nat.gcd a.natAbs n.natAbs = G at *
  have hp : (a.tdiv (G : Int)).natAbs ≤ a.natAbs := by
    have := congrArg Int.natAbs c1
    rw [Int.natAbs_mul] at this
    rw [← this]
    exact Nat.le_mul_of_pos_right _ (by omega)
  have hq : (n.tdiv (G : Int)).natAbs ≤ n.natAbs := by
    have := congrArg Int.natAbs c2
    rw [Int.natAbs_mul] at this
    rw [← this]
    exact Nat.le_mul_of_pos_right _ (by omega)
  have hq0 : 0 < n.tdiv (G : Int) := by
    rcases Int.lt_trichotomy (n.tdiv (G : Int)) 0 with h | h | h
    · have := Int.mul_neg_of_neg_of_pos h (show (0 : Int) < (G : Int) by omega); omega
    · rw [h] at c2; omega
    · exact h
  refine ⟨a.tdiv (G : Int), n.tdiv (G : Int), (G : Int), ?_, ?_, by omega, c1, c2, ⟨by omega, by omega⟩, hp⟩
  · unfold impl_lowestTerms_p impl_gcdOf_p
    rw [w64_in (n := -a) (by omega), w64_in (n := -n) (by omega), show max a (-a) = (a.natAbs : Int) from by omega, show max n (-n) = (n.natAbs : Int) from by omega, l1]
    simp only [Option.bind_some]
    rw [show ((G : Int) != 0) = true from by rw [bne_iff_ne]; omega, need_t, Option.bind_some, w64_in (by omega), w64_in (by omega)]
  · unfold spec_poLowest_p spec_l1Abs_p spec_l1Most_p
    rw [w64_in (n := -a) (by omega)]
    have e : (cond (decide (a > -a)) (some a) (some (-a))) = some (a.natAbs : Int) := by
      by_cases h : a > -a
      · rw [decide_eq_true h, cond_true, show (a.natAbs : Int) = a from by omega]
      · rw [decide_eq_false h, cond_false, show (a.natAbs : Int) = -a from by omega]
    rw [e]
    simp only [Option.bind_some]
    rw [show (n.natAbs : Int) = n from by omega] at l2
    rw [l2]
    simp only [Option.bind_some]
    rw [show ((G : Int) != 0) = true from by rw [bne_iff_ne]; omega, need_t, Option.bind_some, w64_in (by omega), w64_in (by omega)]

end Go.Proofs.Ytkabhjekcchjlaa

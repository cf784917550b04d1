/- Plain lemmas: what the functions compute is what the reference says, in plain Lean. No condition. -/
import Derived.Test.YtkabhjekcchjlaaPMoved2
set_option maxRecDepth 4000
set_option maxHeartbeats 1000000
set_option linter.unusedVariables false
set_option linter.unusedSimpArgs false
set_option linter.unusedSectionVars false

namespace Go.Proofs.Ytkabhjekcchjlaa
open Go.AM

theorem floor_same (a b : Int) (hb : b ≠ 0) : ∃ r, impl_floorDiv_p a b = some r ∧ spec_poDown_p a b = some r := by
  unfold impl_floorDiv_p spec_poDown_p
  rw [show (b != 0) = true from by rw [bne_iff_ne]; exact hb, need_t]
  simp only [Option.bind_some]
  cases decide (a.tmod b < 0)
  · exact ⟨_, rfl, rfl⟩
  · exact ⟨_, rfl, rfl⟩
theorem part_same (a b m : Int) (hb : 1 ≤ b ∧ b ≤ 1000000) (hm : -1 ≤ m ∧ m ≤ 1) : ∃ r, impl_roundPart_p a b m = some r ∧ spec_poMode_p a b m = some r := by
  unfold impl_roundPart_p spec_poMode_p impl_roundDiv_p spec_poRound_p
  obtain ⟨r1, a1, a2⟩ := floor_same a b (by omega)
  obtain ⟨r2, b1, b2⟩ := floor_same (w64 (-a)) b (by omega)
  obtain ⟨r3, c1, c2⟩ := floor_same (w64 (w64 (2 * a) + b)) (w64 (2 * b)) (by rw [w64_in (by omega)]; omega)
  rw [a1, a2, b1, b2, c1, c2]
  have h3 : m = -1 ∨ m = 0 ∨ m = 1 := by omega
  rcases h3 with rfl | rfl | rfl
  · exact ⟨_, rfl, rfl⟩
  · exact ⟨_, rfl, rfl⟩
  · exact ⟨_, rfl, rfl⟩
theorem same_Points (l : List Int) (fa pa m : Int) (fuel : Nat) (hf : 2000 < fuel) : ∃ r : Int × Bool, impl_TrimmedPoints_p fuel l fa pa m = some r ∧ spec_TrimmedPoints_p fuel l fa pa m = some r := by
  unfold impl_TrimmedPoints_p spec_TrimmedPoints_p impl_isMode_p spec_poIsMode_p
  obtain ⟨b, a1, a2⟩ := ret_AreMarks l
  obtain ⟨b', a3, a4⟩ := ret_tmGood l
  obtain rfl : b = b' := Bool.eq_iff_iff.2 (a2.trans a4.symm)
  obtain ⟨c, c1, c2⟩ := ret_within fa 0 10000
  obtain ⟨c', c3, c4⟩ := ret_l1In fa 0 10000
  obtain rfl : c = c' := Bool.eq_iff_iff.2 (c2.trans c4.symm)
  obtain ⟨d, d1, d2⟩ := ret_within pa 1 1000
  obtain ⟨d', d3, d4⟩ := ret_l1In pa 1 1000
  obtain rfl : d = d' := Bool.eq_iff_iff.2 (d2.trans d4.symm)
  obtain ⟨e, e1, e2⟩ := ret_within m (-1) 1
  obtain ⟨e', e3, e4⟩ := ret_l1In m (-1) 1
  obtain rfl : e = e' := Bool.eq_iff_iff.2 (e2.trans e4.symm)
  rw [bnd a1, bnd a3, c1, c3, d1, d3, e1, e3]
  cases b
  · exact ⟨_, rfl, rfl⟩
  cases c
  · exact ⟨_, rfl, rfl⟩
  cases d
  · exact ⟨_, rfl, rfl⟩
  cases e
  · exact ⟨_, rfl, rfl⟩
  simp only [Bool.not_true, Bool.not_false, opt_t, Bool.false_or, Option.bind_some, cond_false]
  have hg := a2.1 rfl
  have hn := nS_bd hg
  have hp := d2.1 rfl
  obtain ⟨t1, t2⟩ := trimmed_eq hg fuel hf
  rw [bnd t1, bnd t2]
  dsimp only
  have k1 := mul_bd (p := pa) (q := nS l) (A := 1000) (by omega) (by omega)
  have k2 : 0 < nS l * pa := Int.mul_pos (by omega) (by omega)
  rw [Int.mul_comm pa] at k1
  obtain ⟨r, r1, r2⟩ := part_same (w64 (tS l * fa)) (w64 (nS l * pa)) m (by rw [w64_in (by omega)]; omega) (e2.1 rfl)
  rw [bnd r1, bnd r2]
  exact ⟨_, rfl, rfl⟩
theorem sorted_uniq : ∀ {l m : List Int}, l.Pairwise (· ≤ ·) → m.Pairwise (· ≤ ·) → l.Perm m → l = m
  | [], m, _, _, h => by rw [List.nil_perm.1 h]
  | x :: l, [], _, _, h => by have := h.length_eq; simp at this
  | x :: l, y :: m, hl, hm, h => by
    have h1 := List.pairwise_cons.1 hl
    have h2 := List.pairwise_cons.1 hm
    have e : x = y := by
      have a : x ∈ y :: m := h.mem_iff.1 (by simp)
      have b : y ∈ x :: l := h.mem_iff.2 (by simp)
      rcases List.mem_cons.1 a with a | a
      · exact a
      · rcases List.mem_cons.1 b with b | b
        · exact b.symm
        · have := h2.1 x a; have := h1.1 y b; omega
    subst e
    rw [sorted_uniq h1.2 h2.2 h.cons_inv]
theorem order_all {l : List Int} (h : GoodM l) (fuel : Nat) (hf : 2000 < fuel) : impl_sortedInts_p l = some (sortI l) ∧ spec_tmOrder_p fuel l = some (sortI l) ∧ (sortI l).length = l.length ∧ getI (sortI l) 0 = some (mnL l) ∧ getI (sortI l) ((l.length : Int) - 1) = some (mxL l) := by
  have h1 := h.1
  have h2 := h.2
  have hp := sortI_perm l
  have hs := sortI_le l
  have hlen := hp.length_eq
  refine ⟨?_, ?_, hlen, ?_, ?_⟩
  · unfold impl_sortedInts_p
    have e1 : impl_copyInts_p l = some l := by unfold impl_copyInts_p; rw [fits_of (by omega)]; rfl
    have e2 : slices_Sort_int_p l = some (sortI l) := by
      unfold slices_Sort_int_p
      rw [show Nat.blt l.length 4611686018427387904 = true from by rw [Nat.blt_eq]; omega]; rfl
    rw [e1, Option.bind_some, e2]; rfl
  · obtain ⟨S, s1, s2, s3⟩ := sorted_l1 fuel hf l 0 [] List.Pairwise.nil (by simp; omega)
    rw [List.nil_append] at s2
    have hl := s2.length_eq
    unfold spec_tmOrder_p
    rw [bnd (show spec_poSorted_p fuel l = some S from s1), w64_in (by omega), tmOrder_l S (by omega) S.length fuel [] (Nat.le_refl _) (by omega) (by simp; omega), List.take_length, List.nil_append]
    rw [sorted_uniq (l := S.reverse) (m := sortI l) (List.pairwise_reverse.2 s3) hs ((List.reverse_perm S).trans (s2.trans hp.symm))]
  · cases hq : sortI l with
    | nil => rw [hq] at hlen; simp at hlen; omega
    | cons s S =>
      rw [hq] at hp hs
      have hsl : s ∈ l := hp.mem_iff.1 (by simp)
      have hb := h2 s hsl
      have a : s ≤ mnL l := (le_mnL l s).2 ⟨by omega, fun y hy => by
        rcases List.mem_cons.1 (hp.mem_iff.2 hy) with rfl | q
        · omega
        · exact (List.pairwise_cons.1 hs).1 y q⟩
      have b := mn_le hsl
      rw [show mnL l = s from by omega]; rfl
  · rcases List.eq_nil_or_concat (sortI l) with h0 | ⟨S0, t, h0⟩
    · rw [h0] at hlen; simp at hlen; omega
    · rw [List.concat_eq_append] at h0
      have ht : t ∈ l := hp.mem_iff.1 (by rw [h0]; simp)
      have hb := h2 t ht
      have e : mxL l = t := by
        have a : mxL l ≤ t := (mxL_le l t).2 ⟨by omega, fun y hy => by
          have hy' := hp.mem_iff.2 hy
          rw [h0] at hy' hs
          rcases List.mem_append.1 hy' with q | q
          · exact (List.pairwise_append.1 hs).2.2 y q t (by simp)
          · rw [List.mem_singleton.1 q]; omega⟩
        have b := le_mx ht
        omega
      rw [e]
      exact getI_app (pre := S0) (y := t) (ys := []) h0 (by rw [h0] at hlen; simp at hlen; omega)
theorem same_Order (l : List Int) (k : Int) (fuel : Nat) (hf : 2000 < fuel) : ∃ r : Int × Bool, impl_OrderOf_p l k = some r ∧ spec_OrderOf_p fuel l k = some r ∧ (HasM l k → ∃ y, getI (sortI l) k = some y ∧ r = (y, true)) := by
  unfold impl_OrderOf_p spec_OrderOf_p
  obtain ⟨b, b1, b2⟩ := ret_isMark l k
  obtain ⟨b', b3, b4⟩ := ret_tmHas l k
  obtain rfl : b = b' := Bool.eq_iff_iff.2 (b2.trans b4.symm)
  rw [bnd b1, bnd b3]
  cases b
  · exact ⟨_, rfl, rfl, fun q => absurd (b2.2 q) (by simp)⟩
  · have hh := b2.1 rfl
    obtain ⟨o1, o2, o3, _, _⟩ := order_all hh.1 fuel hf
    have hk : k.toNat < (sortI l).length := by have := hh.2; omega
    have hg : getI (sortI l) k = some (sortI l)[k.toNat] := by rw [getI_of (k := k.toNat) (by have := hh.2; omega)]; exact List.getElem?_eq_getElem hk
    simp only [Bool.not_true, cond_false]
    rw [bnd o1, bnd o2, bnd hg]
    exact ⟨_, rfl, rfl, fun _ => ⟨_, hg, rfl⟩⟩
theorem mid_eq {l : List Int} (h : GoodM l) (fuel : Nat) (hf : 2000 < fuel) : ∃ p q g x y, impl_MiddleOf_p fuel l = some (p, q, true) ∧ spec_MiddleOf_p fuel l = some (p, q, true) ∧ 0 < g ∧ p * g = x + y ∧ q * g = 2 ∧ (1 ≤ q ∧ q ≤ 9) ∧ (-2000 ≤ p ∧ p ≤ 2000) ∧ x ∈ l ∧ y ∈ l := by
  have h1 := h.1
  obtain ⟨o1, o2, o3, _, _⟩ := order_all h fuel hf
  obtain ⟨b, b1, b2⟩ := ret_AreMarks l
  have hb : b = true := b2.2 h
  subst hb
  obtain ⟨c, c1, c2⟩ := ret_tmGood l
  have hc : c = true := c2.2 h
  subst hc
  have e1 : w64 ((w64 ((l.length : Int) - 1)).tdiv 2) = (((l.length - 1) / 2 : Nat) : Int) := by
    rw [w64_in (n := (l.length : Int) - 1) (by omega), Int.tdiv_eq_ediv_of_nonneg (by omega), w64_in (by omega)]; omega
  have e2 : w64 ((l.length : Int).tdiv 2) = ((l.length / 2 : Nat) : Int) := by
    rw [Int.tdiv_eq_ediv_of_nonneg (by omega), w64_in (by omega)]; omega
  have g1 : getI (sortI l) (((l.length - 1) / 2 : Nat) : Int) = some (sortI l)[(l.length - 1) / 2] := getI_lt_some (by omega)
  have g2 : getI (sortI l) ((l.length / 2 : Nat) : Int) = some (sortI l)[l.length / 2] := getI_lt_some (by omega)
  have m1 : (sortI l)[(l.length - 1) / 2] ∈ l := (sortI_perm l).mem_iff.1 (List.getElem_mem _)
  have m2 : (sortI l)[l.length / 2] ∈ l := (sortI_perm l).mem_iff.1 (List.getElem_mem _)
  generalize (sortI l)[(l.length - 1) / 2] = x at *
  generalize (sortI l)[l.length / 2] = y at *
  have bx := h.2 x m1
  have bY := h.2 y m2
  obtain ⟨p, q, g, a1, a2, a3, a4, a5, a6, a7⟩ := low_eq (x + y) 2 (by omega) (by omega) fuel (by omega)
  refine ⟨p, q, g, x, y, ?_, ?_, a3, a4, a5, a6, by omega, m1, m2⟩
  · unfold impl_MiddleOf_p
    rw [bnd b1]
    simp only [Bool.not_true, cond_false]
    rw [bnd o1, show need (2 != 0) = some () from rfl, Option.bind_some, e1, e2, bnd g1, bnd g2, w64_in (by omega), bnd a1]
  · unfold spec_MiddleOf_p
    rw [bnd c1]
    simp only [Bool.not_true, cond_false]
    rw [bnd o2, show need (2 != 0) = some () from rfl, Option.bind_some, o3, e1, e2, bnd g1, bnd g2, w64_in (by omega), bnd a2]
theorem not_good {l : List Int} (h : ¬ GoodM l) (fuel : Nat) : impl_TrimmedMean_p fuel l = some (0, 0, false) ∧ spec_TrimmedMean_p fuel l = some (0, 0, false) ∧ impl_TrimmedSum_p fuel l = some (0, 0, false) ∧ spec_TrimmedSum_p fuel l = some (0, 0, false) ∧
    impl_MiddleOf_p fuel l = some (0, 0, false) ∧ spec_MiddleOf_p fuel l = some (0, 0, false) ∧ impl_AreMarksOf_p l = some false := by
  obtain ⟨b, b1, b2⟩ := ret_AreMarks l
  have hb : b = false := by
    cases b
    · rfl
    · exact absurd (b2.1 rfl) h
  subst hb
  obtain ⟨c, c1, c2⟩ := ret_tmGood l
  have hc : c = false := by
    cases c
    · rfl
    · exact absurd (c2.1 rfl) h
  subst hc
  refine ⟨?_, ?_, ?_, ?_, ?_, ?_, b1⟩
  · unfold impl_TrimmedMean_p
    rw [bnd b1]
    rfl
  · unfold spec_TrimmedMean_p
    rw [bnd c1]
    rfl
  · unfold impl_TrimmedSum_p
    rw [bnd b1]
    rfl
  · unfold spec_TrimmedSum_p
    rw [bnd c1]
    rfl
  · unfold impl_MiddleOf_p
    rw [bnd b1]
    rfl
  · unfold spec_MiddleOf_p
    rw [bnd c1]
    rfl
theorem specMean_eq {l : List Int} (h : GoodM l) (fuel : Nat) (hf : 2000 < fuel) {p q : Int} (hi : impl_TrimmedMean_p fuel l = some (p, q, true)) : spec_TrimmedMean_p fuel l = some (p, q, true) ∧ spec_TrimmedSum_p fuel l = some (tS l, nS l, true) := by
  obtain ⟨c, c1, c2⟩ := ret_tmGood l
  have hc : c = true := c2.2 h
  subst hc
  obtain ⟨b, b1, b2⟩ := ret_AreMarks l
  have hb : b = true := b2.2 h
  subst hb
  obtain ⟨t1, t2⟩ := trimmed_eq h fuel hf
  have hbd := tS_bd h
  obtain ⟨p', q', g', l1, l2, _⟩ := low_eq (tS l) (nS l) (by omega) (nS_bd h) fuel (by omega)
  unfold impl_TrimmedMean_p at hi
  rw [bnd b1] at hi
  simp only [Bool.not_true, cond_false] at hi
  rw [bnd t1, bnd l1] at hi
  cases hi
  constructor
  · unfold spec_TrimmedMean_p
    rw [bnd c1]
    simp only [Bool.not_true, cond_false]
    rw [bnd t2, bnd l2]
  · unfold spec_TrimmedSum_p
    rw [bnd c1]
    simp only [Bool.not_true, cond_false]
    rw [bnd t2]
theorem sum_ge (m : Int) : ∀ (l : List Int), (∀ x ∈ l, m ≤ x) → m * (l.length : Int) ≤ l.sum := by
  intro l
  induction l with
  | nil => intro _; simp
  | cons y l ih =>
    intro h
    have h1 := ih fun x hx => h x (by simp [hx])
    have h2 := h y (by simp)
    rw [List.length_cons, List.sum_cons, Int.natCast_add, Int.natCast_one, Int.mul_add, Int.mul_one]
    omega
theorem sum_le (m : Int) : ∀ (l : List Int), (∀ x ∈ l, x ≤ m) → l.sum ≤ m * (l.length : Int) := by
  intro l
  induction l with
  | nil => intro _; simp
  | cons y l ih =>
    intro h
    have h1 := ih fun x hx => h x (by simp [hx])
    have h2 := h y (by simp)
    rw [List.length_cons, List.sum_cons, Int.natCast_add, Int.natCast_one, Int.mul_add, Int.mul_one]
    omega
theorem split_mem {l : List Int} {y : Int} (h : y ∈ l) : ∃ a b, l = a ++ y :: b := List.append_of_mem h
theorem mx_in {l : List Int} (h : GoodM l) : mxL l ∈ l ∧ mnL l ∈ l := by
  have h1 := h.1
  have h2 := h.2
  obtain ⟨_, _, o3, o4, o5⟩ := order_all h 3000 (by omega)
  have hb := mm_bd h
  constructor
  · rw [getI_of (k := l.length - 1) (by omega)] at o5
    exact (sortI_perm l).mem_iff.1 (List.mem_of_getElem? o5)
  · rw [show (0 : Int) = ((0 : Nat) : Int) from rfl, getI_nat] at o4
    exact (sortI_perm l).mem_iff.1 (List.mem_of_getElem? o4)
theorem tS_between {l : List Int} (h : GoodM l) : mnL l * nS l ≤ tS l ∧ tS l ≤ mxL l * nS l := by
  obtain ⟨i1, i2⟩ := mx_in h
  unfold tS nS
  by_cases h5 : l.length < 5
  · rw [if_pos h5, if_pos h5]
    exact ⟨sum_ge _ l fun x hx => mn_le hx, sum_le _ l fun x hx => le_mx hx⟩
  · rw [if_neg h5, if_neg h5]
    constructor
    · obtain ⟨a, b, e⟩ := split_mem i1
      have hs : l.sum = (a ++ b).sum + mxL l := by
        have := congrArg List.sum e
        rw [List.sum_append, List.sum_cons] at this
        rw [List.sum_append]; omega
      have hl : (l.length : Int) = ((a ++ b).length : Int) + 1 := by
        have := congrArg List.length e
        simp at this ⊢; omega
      have := sum_ge (mnL l) (a ++ b) fun x hx => mn_le (by
        rw [e]
        rcases List.mem_append.1 hx with q | q
        · simp [q]
        · simp [q])
      rw [hl, hs, show ((a ++ b).length : Int) + 1 - 2 = ((a ++ b).length : Int) - 1 from by omega, Int.mul_sub, Int.mul_one]
      omega
    · obtain ⟨a, b, e⟩ := split_mem i2
      have hs : l.sum = (a ++ b).sum + mnL l := by
        have := congrArg List.sum e
        rw [List.sum_append, List.sum_cons] at this
        rw [List.sum_append]; omega
      have hl : (l.length : Int) = ((a ++ b).length : Int) + 1 := by
        have := congrArg List.length e
        simp at this ⊢; omega
      have := sum_le (mxL l) (a ++ b) fun x hx => le_mx (by
        rw [e]
        rcases List.mem_append.1 hx with q | q
        · simp [q]
        · simp [q])
      rw [hl, hs, show ((a ++ b).length : Int) + 1 - 2 = ((a ++ b).length : Int) - 1 from by omega, Int.mul_sub, Int.mul_one]
      omega

end Go.Proofs.Ytkabhjekcchjlaa

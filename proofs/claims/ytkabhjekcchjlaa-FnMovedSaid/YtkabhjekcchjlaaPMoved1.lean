/- Plain lemmas: what the functions compute is what the reference says, in plain Lean. No condition. -/
import Derived.Test.YtkabhjekcchjlaaPTrim1
set_option maxRecDepth 4000
set_option maxHeartbeats 1000000
set_option linter.unusedVariables false
set_option linter.unusedSimpArgs false
set_option linter.unusedSectionVars false

namespace Go.Proofs.Ytkabhjekcchjlaa
open Go.AM

theorem tS_split (pre post : List Int) (x : Int) : tS (pre ++ x :: post) = if pre.length + post.length < 4 then pre.sum + post.sum + x else pre.sum + post.sum + x - max x (max (mxL pre) (mxL post)) - min x (min (mnL pre) (mnL post)) := by
  have e1 : mxL (x :: post) = max x (mxL post) := rfl
  have e2 : mnL (x :: post) = min x (mnL post) := rfl
  have e3 : (pre ++ x :: post).length = pre.length + post.length + 1 := by simp; omega
  unfold tS
  rw [e3, mxL_app, mnL_app, e1, e2, List.sum_append, List.sum_cons]
  by_cases h : pre.length + post.length < 4
  · rw [if_pos h, if_pos (by omega)]; omega
  · rw [if_neg h, if_neg (by omega)]; omega
theorem rest_bd {pre post : List Int} (h : bd (pre ++ post)) (h0 : 0 < pre.length + post.length) : min (mnL pre) (mnL post) ≤ max (mxL pre) (mxL post) ∧ -1000 ≤ min (mnL pre) (mnL post) ∧ max (mxL pre) (mxL post) ≤ 1000 := by
  rw [← mxL_app, ← mnL_app]
  have hl : (pre ++ post).length = pre.length + post.length := by simp
  generalize pre ++ post = z at *
  cases z with
  | nil => simp at hl; omega
  | cons y z =>
    have hy := h y (by simp)
    have a := le_mx (l := y :: z) (y := y) (by simp)
    have b := mn_le (l := y :: z) (y := y) (by simp)
    have c : mxL (y :: z) ≤ 1000 := (mxL_le _ _).2 ⟨by omega, fun w hw => (h w hw).2⟩
    have d : -1000 ≤ mnL (y :: z) := (le_mnL _ _).2 ⟨by omega, fun w hw => (h w hw).1⟩
    omega
theorem split_at {l : List Int} {k : Int} (h : HasM l k) : ∃ pre x post, l = pre ++ x :: post ∧ (pre.length : Int) = k ∧ getI l k = some x ∧ ∀ v, l.set k.toNat v = pre ++ v :: post := by
  have hk : k.toNat < l.length := by have := h.2; omega
  have hs : l = l.take k.toNat ++ l[k.toNat] :: l.drop (k.toNat + 1) := by rw [List.getElem_cons_drop hk, List.take_append_drop]
  have hp : (l.take k.toNat).length = k.toNat := by rw [List.length_take]; omega
  refine ⟨l.take k.toNat, l[k.toNat], l.drop (k.toNat + 1), hs, by have := h.2; omega, ?_, fun v => ?_⟩
  · rw [getI_of (k := k.toNat) (by have := h.2; omega)]; exact List.getElem?_eq_getElem hk
  · rw [List.set_eq_take_append_cons_drop, if_pos hk]
theorem set_good {l : List Int} {k v : Int} (h : HasM l k) (hv : -1000 ≤ v ∧ v ≤ 1000) : GoodM (l.set k.toNat v) ∧ nS (l.set k.toNat v) = nS l := by
  refine ⟨⟨by simpa using h.1.1, fun x hx => ?_⟩, by unfold nS; rw [List.length_set]⟩
  rcases List.mem_or_eq_of_mem_set hx with hx | rfl
  · exact h.1.2 x hx
  · exact hv
theorem tS_mono {l : List Int} {k u v : Int} (h : HasM l k) (huv : u ≤ v) : tS (l.set k.toNat u) ≤ tS (l.set k.toNat v) := by
  obtain ⟨pre, x, post, h1, h2, h3, h4⟩ := split_at h
  rw [h4, h4, tS_split, tS_split]
  by_cases hc : pre.length + post.length < 4
  · rw [if_pos hc, if_pos hc]; omega
  · rw [if_neg hc, if_neg hc]
    have hb : bd (pre ++ post) := fun y hy => h.1.2 y (by
      rw [h1]
      rcases List.mem_append.1 hy with hy | hy
      · simp [hy]
      · simp [hy])
    have := rest_bd hb (by omega)
    omega
theorem tS_low {l : List Int} {k x : Int} (h : HasM l k) (h5 : 5 ≤ l.length) (hx : getI l k = some x) (hm : x = mnL l) : tS (l.set k.toNat (-1000)) = tS l := by
  obtain ⟨pre, y, post, h1, h2, h3, h4⟩ := split_at h
  obtain rfl : x = y := by rw [hx] at h3; exact Option.some.inj h3
  have hl : l.length = pre.length + post.length + 1 := by rw [h1]; simp; omega
  have hb : bd (pre ++ post) := fun y hy => h.1.2 y (by
      rw [h1]
      rcases List.mem_append.1 hy with hy | hy
      · simp [hy]
      · simp [hy])
  have hr := rest_bd hb (by omega)
  have e2 : mnL (x :: post) = min x (mnL post) := rfl
  rw [h1, mnL_app, e2] at hm
  have hxb := h.1.2 x (by rw [h1]; simp)
  rw [h4]
  rw [h1, tS_split, tS_split, if_neg (by omega), if_neg (by omega)]
  omega
theorem tS_high {l : List Int} {k x : Int} (h : HasM l k) (h5 : 5 ≤ l.length) (hx : getI l k = some x) (hm : x = mxL l) : tS (l.set k.toNat 1000) = tS l := by
  obtain ⟨pre, y, post, h1, h2, h3, h4⟩ := split_at h
  obtain rfl : x = y := by rw [hx] at h3; exact Option.some.inj h3
  have hl : l.length = pre.length + post.length + 1 := by rw [h1]; simp; omega
  have hb : bd (pre ++ post) := fun y hy => h.1.2 y (by
      rw [h1]
      rcases List.mem_append.1 hy with hy | hy
      · simp [hy]
      · simp [hy])
  have hr := rest_bd hb (by omega)
  have e2 : mxL (x :: post) = max x (mxL post) := rfl
  rw [h1, mxL_app, e2] at hm
  have hxb := h.1.2 x (by rw [h1]; simp)
  rw [h4]
  rw [h1, tS_split, tS_split, if_neg (by omega), if_neg (by omega)]
  omega
theorem with_eq {l : List Int} {k : Int} (h : HasM l k) (v : Int) : impl_withMark_p l k v = some (l.set k.toNat v) ∧ spec_tmWith_p l k v = some (l.set k.toNat v) := by
  obtain ⟨pre, x, post, h1, h2, h3, h4⟩ := split_at h
  have := h.1.1
  have c1 : impl_copyInts_p l = some l := by unfold impl_copyInts_p; rw [fits_of (by omega)]; rfl
  have c2 : spec_l1Own_p l = some l := by unfold spec_l1Own_p; rw [fits_of (by omega)]; rfl
  unfold impl_withMark_p spec_tmWith_p
  rw [bnd c1, bnd c2, bnd h3]
  exact ⟨rfl, rfl⟩
theorem same_With (l : List Int) (k v : Int) : ∃ r : List Int × Bool, impl_WithMark_p l k v = some r ∧ spec_WithMark_p l k v = some r ∧ (HasM l k → -1000 ≤ v ∧ v ≤ 1000 → r = (l.set k.toNat v, true)) := by
  unfold impl_WithMark_p spec_WithMark_p
  obtain ⟨b, b1, b2⟩ := ret_isMark l k
  obtain ⟨b', b3, b4⟩ := ret_tmHas l k
  obtain rfl : b = b' := Bool.eq_iff_iff.2 (b2.trans b4.symm)
  rw [bnd b1, bnd b3]
  cases b
  · exact ⟨_, rfl, rfl, fun q => absurd (b2.2 q) (by simp)⟩
  · obtain ⟨c, c1, c2⟩ := ret_within v (-1000) 1000
    obtain ⟨c', c3, c4⟩ := ret_l1In v (-1000) 1000
    obtain rfl : c = c' := Bool.eq_iff_iff.2 (c2.trans c4.symm)
    simp only [Bool.not_true, Bool.not_false, opt_t, Bool.false_or]
    rw [bnd c1, bnd c3]
    cases c
    · exact ⟨_, rfl, rfl, fun _ q => absurd (c2.2 q) (by simp)⟩
    · obtain ⟨w1, w2⟩ := with_eq (b2.1 rfl) v
      simp only [Bool.not_true, cond_false]
      rw [bnd w1, bnd w2]
      exact ⟨_, rfl, rfl, fun _ _ => rfl⟩
theorem sameInts_l (b : List Int) : ∀ (ys pre : List Int), b = pre ++ ys → laws_sameInts_l1 b ys pre.length = some true := by
  intro ys
  induction ys with
  | nil => intro pre _; rw [laws_sameInts_l1]
  | cons y ys ih =>
    intro pre h
    rw [laws_sameInts_l1, bnd (getI_app (pre := pre) (y := y) (ys := ys) h rfl), show (y != y) = false from by simp, cond_false]
    have := ih (pre ++ [y]) (by rw [h]; simp)
    rw [show (pre ++ [y]).length = pre.length + 1 from by simp] at this
    exact this
theorem sameInts_eq (b : List Int) : laws_sameInts_p b b = some true := by
  unfold laws_sameInts_p
  rw [show ((b.length : Int) != (b.length : Int)) = false from by simp, cond_false]
  exact sameInts_l b b [] rfl
theorem mean_eq {l : List Int} (h : GoodM l) (fuel : Nat) (hf : 2000 < fuel) : ∃ p q g, impl_TrimmedMean_p fuel l = some (p, q, true) ∧ 0 < g ∧ p * g = tS l ∧ q * g = nS l ∧ (1 ≤ q ∧ q ≤ 9) ∧ (-20000 ≤ p ∧ p ≤ 20000) := by
  have hb := tS_bd h
  obtain ⟨p, q, g, h1, h2, h3, h4, h5, h6, h7⟩ := low_eq (tS l) (nS l) (by omega) (nS_bd h) fuel (by omega)
  obtain ⟨c, c1, c2⟩ := ret_AreMarks l
  have hc : c = true := c2.2 h
  subst hc
  refine ⟨p, q, g, ?_, h3, h4, h5, h6, by omega⟩
  unfold impl_TrimmedMean_p
  rw [bnd c1]
  simp only [Bool.not_true, cond_false]
  rw [bnd (trimmed_eq h fuel hf).1, bnd h1]
theorem sumT_eq {l : List Int} (h : GoodM l) (fuel : Nat) (hf : 2000 < fuel) : impl_TrimmedSum_p fuel l = some (tS l, nS l, true) := by
  obtain ⟨c, c1, c2⟩ := ret_AreMarks l
  have hc : c = true := c2.2 h
  subst hc
  unfold impl_TrimmedSum_p
  rw [bnd c1]
  simp only [Bool.not_true, cond_false]
  rw [bnd (trimmed_eq h fuel hf).1]
theorem order_eq {l : List Int} (h : GoodM l) : impl_OrderOf_p l 0 = some (mnL l, true) := by
  have h1 := h.1
  have h2 := h.2
  obtain ⟨c, c1, c2⟩ := ret_isMark l 0
  have hc : c = true := c2.2 ⟨h, by omega, by omega⟩
  subst hc
  have e1 : impl_copyInts_p l = some l := by unfold impl_copyInts_p; rw [fits_of (by omega)]; rfl
  have e2 : slices_Sort_int_p l = some (sortI l) := by
    unfold slices_Sort_int_p
    rw [show Nat.blt l.length 4611686018427387904 = true from by rw [Nat.blt_eq]; omega]; rfl
  have e3 : getI (sortI l) 0 = some (mnL l) := by
    have hp := sortI_perm l
    have hs := sortI_le l
    cases hq : sortI l with
    | nil => rw [hq] at hp; have := hp.length_eq; simp at this; omega
    | cons s S =>
      rw [hq] at hp hs
      have hsl : s ∈ l := hp.mem_iff.1 (by simp)
      have hb := h2 s hsl
      have a : s ≤ mnL l := (le_mnL l s).2 ⟨by omega, fun y hy => by
        rcases List.mem_cons.1 (hp.mem_iff.2 hy) with rfl | q
        · omega
        · exact (List.pairwise_cons.1 hs).1 y q⟩
      have b := mn_le hsl
      rw [show mnL l = s from by omega]; rfl
  unfold impl_OrderOf_p impl_sortedInts_p
  rw [bnd c1]
  simp only [Bool.not_true, cond_false]
  rw [e1, Option.bind_some, e2]
  simp only [Option.bind_some]
  rw [bnd e3]
theorem tmOrder_l (S : List Int) (hS : S.length ≤ 1000) : ∀ (m f : Nat) (acc : List Int), m ≤ S.length → m < f → acc.length + m ≤ 1000 → spec_tmOrder_l1 S f acc ((m : Int) - 1) = some (acc ++ (S.take m).reverse) := by
  intro m
  induction m with
  | zero =>
    intro f acc _ hf _
    obtain ⟨f, rfl⟩ := Nat.exists_eq_succ_of_ne_zero (by omega : f ≠ 0)
    rw [spec_tmOrder_l1, decide_eq_false (by omega)]
    simp
  | succ m ih =>
    intro f acc hm hf ha
    obtain ⟨f, rfl⟩ := Nat.exists_eq_succ_of_ne_zero (by omega : f ≠ 0)
    rw [show ((m + 1 : Nat) : Int) - 1 = (m : Int) from by omega, spec_tmOrder_l1, decide_eq_true (by omega), cond_true, bnd (getI_lt_some (by omega)), fits_of (by simp; omega), need_t, Option.bind_some, w64_in (by omega), ih f _ (by omega) (by omega) (by simp; omega)]
    have ht : S.take (m + 1) = S.take m ++ [S[m]] := List.take_succ_eq_append_getElem (by omega)
    rw [ht, List.reverse_append, List.append_assoc]
    rfl
theorem same_Trimmed (l : List Int) (k : Int) (fuel : Nat) (hf : 2000 < fuel) : ∃ r : Bool × Bool, impl_IsTrimmed_p fuel l k = some r ∧ spec_IsTrimmed_p fuel l k = some r ∧ (r.2 = true → HasM l k) ∧ (r.1 = true → 5 ≤ l.length ∧ ∃ x, getI l k = some x ∧ (x = mxL l ∨ x = mnL l)) := by
  unfold impl_IsTrimmed_p spec_IsTrimmed_p
  obtain ⟨b, b1, b2⟩ := ret_isMark l k
  obtain ⟨b', b3, b4⟩ := ret_tmHas l k
  obtain rfl : b = b' := Bool.eq_iff_iff.2 (b2.trans b4.symm)
  rw [bnd b1, bnd b3]
  cases b
  · exact ⟨_, rfl, rfl, by simp, by simp⟩
  · have hh := b2.1 rfl
    have h9 := hh.1.1
    simp only [Bool.not_true, cond_false]
    obtain ⟨S, s1, s2, s3, s4, _⟩ := sorted_ok hh.1 fuel hf
    have ho : spec_tmOrder_p fuel l = some S.reverse := by
      unfold spec_tmOrder_p
      rw [bnd s1, w64_in (by omega), tmOrder_l S (by omega) S.length fuel [] (Nat.le_refl _) (by omega) (by simp; omega)]
      simp
    rw [bnd ho]
    obtain ⟨pre, x, post, h1, h2, h3, h4⟩ := split_at hh
    obtain ⟨m1, m2⟩ := most_eq hh.1 fuel (by omega)
    by_cases h5 : (l.length : Int) ≥ 5
    · have r0 : getI S.reverse 0 = some (mnL l) := by
        rw [show (0 : Int) = ((0 : Nat) : Int) from rfl, getI_nat, List.getElem?_reverse (by omega)]
        rw [getI_of (k := S.length - 1) (by omega)] at s4
        rw [← s4]; congr 1
      have r1 : getI S.reverse ((S.length : Int) - 1) = some (mxL l) := by
        rw [getI_of (k := S.length - 1) (by omega), List.getElem?_reverse (by omega)]
        rw [show (0 : Int) = ((0 : Nat) : Int) from rfl, getI_nat] at s3
        rw [← s3]; congr 1; omega
      rw [decide_eq_true h5]
      simp only [opt_t, Bool.true_and]
      rw [bnd h3, bnd m1, bnd h3, bnd r0, List.length_reverse, w64_in (n := (S.length : Int) - 1) (by omega), r1, m2]
      have o1 : ∀ (c : Bool) (z : Int), opt c (default : Int) (some z) = some (if c then z else default) := fun c z => by cases c <;> rfl
      rw [o1, o1, Option.bind_some, Option.bind_some]
      by_cases ea : x = mxL l
      · refine ⟨(true, true), ?_, ?_, fun _ => hh, fun _ => ⟨by omega, x, h3, .inl ea⟩⟩
        · rw [show (x == mxL l) = true from by simp [ea], Bool.true_or]
        · by_cases eb : x = mnL l
          · rw [show (x == mnL l) = true from by simp [eb], Bool.true_or]
          · rw [show (x == mnL l) = false from by simp [eb]]
            simp [ea]
      · by_cases eb : x = mnL l
        · refine ⟨(true, true), ?_, ?_, fun _ => hh, fun _ => ⟨by omega, x, h3, .inr eb⟩⟩
          · rw [show (x == mxL l) = false from by simp [ea]]
            simp [eb]
          · rw [show (x == mnL l) = true from by simp [eb], Bool.true_or]
        · refine ⟨(false, true), ?_, ?_, fun _ => hh, by simp⟩
          · rw [show (x == mxL l) = false from by simp [ea]]
            simp [eb]
          · rw [show (x == mnL l) = false from by simp [eb]]
            simp [ea]
    · rw [decide_eq_false h5]
      exact ⟨(false, true), rfl, rfl, fun _ => hh, by simp⟩

end Go.Proofs.Ytkabhjekcchjlaa

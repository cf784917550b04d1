/- Plain lemmas: what the functions compute is what the reference says, in plain Lean. No condition. -/
import Derived.Test.YtkabhjekcchjlaaPTrims1
set_option maxRecDepth 4000
set_option maxHeartbeats 1000000
set_option linter.unusedVariables false
set_option linter.unusedSimpArgs false
set_option linter.unusedSectionVars false

namespace Go.Proofs.Ytkabhjekcchjlaa
open Go.AM

theorem pSum_l : ∀ (l : List Int) (k : Nat) (v : Int), bd l → (-1000000 ≤ v - 1000 * (l.length : Int) ∧ v + 1000 * (l.length : Int) ≤ 1000000) → laws_pSum_l1 l k v = some (v + l.sum) := by
  intro l
  induction l with
  | nil => intro k v _ _; rw [laws_pSum_l1]; simp
  | cons y l ih =>
    intro k v h hv
    simp only [List.length_cons] at hv
    have h2 := h y (by simp)
    rw [laws_pSum_l1, w64_in (by omega), List.sum_cons, ← Int.add_assoc]
    exact ih (k + 1) (v + y) (fun x hx => h x (by simp [hx])) (by omega)
theorem pSum_eq {l : List Int} (h : bd l) (hl : l.length ≤ 100) : laws_pSum_p l = some l.sum := by
  have := pSum_l l 0 0 h (by omega)
  rw [Int.zero_add] at this
  exact this
theorem same_Without (l : List Int) (k : Int) : ∃ r : List Int × Bool, impl_WithoutMark_p l k = some r ∧ spec_WithoutMark_p l k = some r ∧ (r.2 = true → (r.1.length : Int) = w64 ((l.length : Int) - 1) ∧ ∃ a x b, laws_pSum_p r.1 = some a ∧ getI l k = some x ∧ laws_pSum_p l = some b ∧ w64 (a + x) = b) := by
  unfold impl_WithoutMark_p spec_WithoutMark_p
  obtain ⟨b, b1, b2⟩ := ret_isMark l k
  obtain ⟨b', b3, b4⟩ := ret_tmHas l k
  obtain rfl : b = b' := Bool.eq_iff_iff.2 (b2.trans b4.symm)
  rw [bnd b1, bnd b3]
  cases b
  · exact ⟨_, rfl, rfl, by simp⟩
  · have hh := b2.1 rfl
    have h9 := hh.1.1
    by_cases h1 : l.length = 1
    · rw [show ((l.length : Int) == 1) = true from by rw [h1]; rfl]
      exact ⟨_, rfl, rfl, by simp⟩
    · rw [show ((l.length : Int) == 1) = false from by simp only [beq_eq_false_iff_ne, ne_eq]; omega]
      simp only [Bool.not_true, Bool.or_false, cond_false]
      obtain ⟨pre, x, post, e1, e2, e3, e4⟩ := split_at hh
      have hll : l.length = pre.length + post.length + 1 := by rw [e1]; simp; omega
      have c1 : impl_copyInts_p l = some l := by unfold impl_copyInts_p; rw [fits_of (by omega)]; rfl
      have t1 : l.take pre.length = pre := by rw [e1]; simp
      have t2 : l.drop (pre.length + 1) = post := by
        rw [e1, show pre ++ x :: post = (pre ++ [x]) ++ post from by simp]
        exact List.drop_left' (by simp)
      have hk1 : w64 (k + 1) = ((pre.length + 1 : Nat) : Int) := by rw [w64_in (by omega)]; omega
      have d1 : slices_Delete_int_p l k (w64 (k + 1)) = some (pre ++ post) := by
        unfold slices_Delete_int_p
        rw [hk1, ← e2, show (decide (0 ≤ (pre.length : Int)) && decide ((pre.length : Int) ≤ ((pre.length + 1 : Nat) : Int)) && decide (((pre.length + 1 : Nat) : Int) ≤ (l.length : Int)) && decide (0 < l.length)) = true from by
          simp only [Bool.and_eq_true, decide_eq_true_eq]; omega, need_t, Option.bind_some, Int.toNat_natCast, Int.toNat_natCast, t1, t2]
      have s1 : sliceHi l k = some pre := by rw [sliceHi_of (k := pre.length) e2.symm (by omega), t1]
      have s2 : sliceLo l (w64 (k + 1)) = some post := by rw [sliceLo_of (k := pre.length + 1) hk1 (by omega), t2]
      have o1 : spec_l1Own_p pre = some pre := by unfold spec_l1Own_p; rw [fits_of (by omega)]; rfl
      rw [bnd c1, bnd d1, bnd s1, bnd o1, bnd s2, fits_of (by omega), need_t, Option.bind_some]
      have hb : bd (pre ++ post) := fun y hy => hh.1.2 y (by
        rw [e1]
        rcases List.mem_append.1 hy with hy | hy
        · simp [hy]
        · simp [hy])
      have hx := hh.1.2 x (by rw [e1]; simp)
      have hs := sum_bd hb
      have hlen : (pre ++ post).length = pre.length + post.length := by simp
      have hsum : l.sum = (pre ++ post).sum + x := by rw [e1, List.sum_append, List.sum_cons, List.sum_append]; omega
      refine ⟨_, rfl, rfl, fun _ => ?_⟩
      dsimp only
      exact ⟨by rw [w64_in (by omega), hlen]; omega, _, x, _, pSum_eq hb (by omega), e3, pSum_eq hh.1.2 (by omega), by rw [hsum, w64_in (by omega)]⟩
theorem pIn_true (n : Int) : ∀ (l : List Int) (k : Nat), n ∈ l → laws_pIn_l1 n l k = some true := by
  intro l
  induction l with
  | nil => intro k h; simp at h
  | cons y l ih =>
    intro k h
    rw [laws_pIn_l1]
    by_cases e : y = n
    · rw [show (y == n) = true from by simp [e]]; rfl
    · rw [show (y == n) = false from by simp [e], cond_false]
      rcases List.mem_cons.1 h with q | q
      · exact absurd q.symm e
      · exact ih (k + 1) q
def restTrims (fuel : Nat) (more : List Int) : Option Bool :=
  (spec_DrawTrimmedPoints_p fuel more).bind fun x38 =>
      (impl_TrimmedPoints_p fuel x38.1 x38.2.1 x38.2.2.1 x38.2.2.2).bind fun x40 =>
      (spec_TrimmedPoints_p fuel x38.1 x38.2.1 x38.2.2.1 x38.2.2.2).bind fun x42 =>
      (spec_DrawOrderOf_p fuel more).bind fun x44 =>
      (impl_OrderOf_p x44.1 x44.2).bind fun x46 =>
      (spec_OrderOf_p fuel x44.1 x44.2).bind fun x48 =>
      (impl_WithoutMark_p x44.1 x44.2).bind fun x50 =>
      (spec_WithoutMark_p x44.1 x44.2).bind fun x52 =>
      (opt (((((x40.2 == x42.2) && (x40.1 == x42.1)) && (x46.2 == x48.2)) && (x46.1 == x48.1)) && (x50.2 == x52.2)) default (laws_sameInts_p x50.1 x52.1)).bind fun x54 =>
      (opt ((((((((x40.2 == x42.2) && (x40.1 == x42.1)) && (x46.2 == x48.2)) && (x46.1 == x48.1)) && (x50.2 == x52.2)) && x54) && (!(!x50.2))) && ((x52.1.length : Int) == (w64 ((x44.1.length : Int) - 1)))) default (laws_pSum_p x52.1)).bind fun x56 =>
      (opt ((((((((x40.2 == x42.2) && (x40.1 == x42.1)) && (x46.2 == x48.2)) && (x46.1 == x48.1)) && (x50.2 == x52.2)) && x54) && (!(!x50.2))) && ((x52.1.length : Int) == (w64 ((x44.1.length : Int) - 1)))) default (getI x44.1 x44.2)).bind fun x58 =>
      (opt ((((((((x40.2 == x42.2) && (x40.1 == x42.1)) && (x46.2 == x48.2)) && (x46.1 == x48.1)) && (x50.2 == x52.2)) && x54) && (!(!x50.2))) && ((x52.1.length : Int) == (w64 ((x44.1.length : Int) - 1)))) default (laws_pSum_p x44.1)).bind fun x60 =>
      some (((((((x40.2 == x42.2) && (x40.1 == x42.1)) && (x46.2 == x48.2)) && (x46.1 == x48.1)) && (x50.2 == x52.2)) && x54) && ((!x50.2) || (((x52.1.length : Int) == (w64 ((x44.1.length : Int) - 1))) && ((w64 (x56 + x58)) == x60))))
theorem drawPoints_ok {code : List Int} (hc : ∀ x ∈ code, isByte x) (hl : code.length ≤ 1048576) (fuel : Nat) (hf : 1000 < fuel) : ∃ l a b c, spec_DrawTrimmedPoints_p fuel code = some (l, a, b, c) := by
  unfold spec_DrawTrimmedPoints_p
  obtain ⟨b1, s1, l1, e1, g1, q1, r1⟩ := marksOf_ok (a := code) (b := 0) (m := 0) (s := 0) ⟨hc, hl, by omega, by omega⟩ (by omega) fuel hf
  rw [bnd e1]
  dsimp only
  obtain ⟨b2, s2, v2, e2, g2, _⟩ := among_ok (s := s1) g1 (by omega) [0, 1, 10, 95, 250, 10000, 10001, (-1)] (by simp) (by simp)
  rw [bnd e2]
  dsimp only
  obtain ⟨b3, s3, v3, e3, g3, _⟩ := among_ok (s := s2) g2 (by omega) [1, 10, 100, 1000, 1001, 0] (by simp) (by simp)
  rw [bnd e3]
  dsimp only
  obtain ⟨b4, s4, v4, e4, g4, _⟩ := pick_ok (s := s3) g3 (by omega) 4 (by omega)
  rw [bnd e4]
  dsimp only
  obtain ⟨b5, s5, v5, e5, g5, _⟩ := pick_ok (s := s4) g4 (by omega) 24 (by omega)
  rw [bnd e5, show need (23 != 0) = some () from rfl, Option.bind_some]
  exact ⟨_, _, _, _, rfl⟩
theorem restTrims_ok {more : List Int} (hc : ∀ x ∈ more, isByte x) (hl : more.length ≤ 1048576) (fuel : Nat) (hf : 2000 < fuel) : restTrims fuel more = some true := by
  obtain ⟨l, a, b, c, h1⟩ := drawPoints_ok hc hl fuel (by omega)
  obtain ⟨l', k, h2⟩ := drawOrder_ok hc hl fuel (by omega)
  obtain ⟨r1, a1, a2⟩ := same_Points l a b c fuel hf
  obtain ⟨r2, b1, b2, _⟩ := same_Order l' k fuel hf
  obtain ⟨r3, c1, c2, c3⟩ := same_Without l' k
  unfold restTrims
  rw [bnd h1]
  dsimp only
  rw [bnd a1, bnd a2, bnd h2]
  dsimp only
  rw [bnd b1, bnd b2, bnd c1, bnd c2]
  simp only [beq_self_eq_true, Bool.true_and, Bool.and_true, opt_t]
  rw [bnd (sameInts_eq r3.1)]
  simp only [Bool.true_and, Bool.not_not]
  cases hq : r3.2
  · simp only [Bool.false_and, opt_f, Option.bind_some, Bool.not_false, Bool.true_or]
  · obtain ⟨d1, x, y, z, d2, d3, d4, d5⟩ := c3 hq
    rw [d1, d2, d3, d4]
    simp only [beq_self_eq_true, Bool.true_and, opt_t, Option.bind_some, Bool.not_true, Bool.false_or, d5]
theorem trims_loop {more l : List Int} {p q g mp mq : Int} (hg : GoodM l) (fuel : Nat) (hf : 2000 < fuel) (hr : restTrims fuel more = some true) (hA : 0 < g ∧ p * g = tS l ∧ q * g = nS l ∧ (1 ≤ q ∧ q ≤ 9) ∧ (-20000 ≤ p ∧ p ≤ 20000))
    (hB : (1 ≤ mq ∧ mq ≤ 9) ∧ (-2000 ≤ mp ∧ mp ≤ 2000) ∧ mnL l * mq ≤ mp ∧ mp ≤ mxL l * mq) : ∀ (ys pre : List Int) (v : Int), l = pre ++ ys → ((pre.length = 0 ∧ v = -2000) ∨ (0 < pre.length ∧ getI (sortI l) ((pre.length : Int) - 1) = some v)) →
    laws_FnTrims_l1 more fuel l (p, q, true) (tS l, nS l, true) (mp, mq, true) ys pre.length v = some true := by
  have h1 := hg.1
  obtain ⟨_, _, o3, o4, o5⟩ := order_all hg fuel hf
  intro ys
  induction ys with
  | nil =>
    intro pre v e hv
    rw [List.append_nil] at e
    subst e
    have hvm : v = mxL l := by
      rcases hv with ⟨hv, _⟩ | ⟨_, hv⟩
      · omega
      · rw [o5] at hv; exact (Option.some.inj hv).symm
    subst hvm
    obtain ⟨r, r1, r2, r3⟩ := same_Order l 0 fuel hf
    obtain ⟨y, y1, y2⟩ := r3 ⟨hg, by omega, by omega⟩
    rw [o4] at y1
    obtain rfl := Option.some.inj y1
    rw [y2] at r1
    rw [laws_FnTrims_l1, bnd r1]
    dsimp only
    obtain ⟨a1, a2, a3, a4, a5⟩ := hA
    obtain ⟨c1, c2, c3, c4⟩ := hB
    have hm := mm_bd hg
    have hn := nS_bd hg
    have ht := tS_bd hg
    obtain ⟨u1, u2⟩ := tS_between hg
    have k1 := mul_bd (p := mnL l) (q := q) (A := 1000) (by omega) (by omega)
    have k2 := mul_bd (p := mxL l) (q := q) (A := 1000) (by omega) (by omega)
    have k3 := mul_bd (p := mnL l) (q := mq) (A := 1000) (by omega) (by omega)
    have k4 := mul_bd (p := mxL l) (q := mq) (A := 1000) (by omega) (by omega)
    have k5 := mul_bd (p := p) (q := nS l) (A := 20000) (by omega) (by omega)
    have k6 := mul_bd (p := tS l) (q := q) (A := 20000) (by omega) (by omega)
    have f1 : mnL l * q ≤ p := Int.le_of_mul_le_mul_right (by rw [a2, Int.mul_assoc, a3]; exact u1) a1
    have f2 : p ≤ mxL l * q := Int.le_of_mul_le_mul_right (by rw [a2, Int.mul_assoc, a3]; exact u2) a1
    have f3 : p * nS l = tS l * q := by
      rw [← a2, ← a3]; ac_rfl
    rw [w64_in (n := mnL l * q) (by omega), w64_in (n := mxL l * q) (by omega), w64_in (n := mnL l * mq) (by omega), w64_in (n := mxL l * mq) (by omega), w64_in (n := p * nS l) (by omega), w64_in (n := tS l * q) (by omega),
      decide_eq_false (by omega : ¬ p < mnL l * q), decide_eq_false (by omega : ¬ p > mxL l * q), decide_eq_false (by omega : ¬ mp < mnL l * mq), decide_eq_false (by omega : ¬ mp > mxL l * mq), f3]
    simp only [Bool.not_true, Bool.or_false, bne_self_eq_false, cond_false]
    exact hr
  | cons y ys ih =>
    intro pre v e hv
    have hlt : pre.length < l.length := by rw [e]; simp
    have hs := sortI_le l
    obtain ⟨r, r1, r2, r3⟩ := same_Order l (pre.length : Int) fuel hf
    obtain ⟨z, z1, z2⟩ := r3 ⟨hg, by omega, by omega⟩
    rw [z2] at r1
    have hz : z ∈ l := by
      rw [getI_nat] at z1
      exact (sortI_perm l).mem_iff.1 (List.mem_of_getElem? z1)
    have hzb := hg.2 z hz
    have hvz : v ≤ z := by
      rcases hv with ⟨_, hv⟩ | ⟨hv0, hv⟩
      · omega
      · rw [getI_of (k := pre.length - 1) (by omega)] at hv
        rw [getI_nat] at z1
        obtain ⟨w1, w2⟩ := List.getElem?_eq_some_iff.1 hv
        obtain ⟨w3, w4⟩ := List.getElem?_eq_some_iff.1 z1
        have := (List.pairwise_iff_getElem.1 hs) (pre.length - 1) pre.length w1 w3 (by omega)
        omega
    rw [laws_FnTrims_l1, bnd r1]
    dsimp only
    rw [decide_eq_false (by omega : ¬ z < v)]
    simp only [Bool.not_true, Bool.not_false, Bool.false_or, opt_t]
    rw [bnd (show laws_pIn_p l z = some true from pIn_true z l 0 hz)]
    simp only [Bool.not_true, cond_false]
    have := ih (pre ++ [y]) z (by rw [e]; simp) (.inr ⟨by simp, by rw [show (((pre ++ [y]).length : Nat) : Int) - 1 = (pre.length : Int) from by simp]; exact z1⟩)
    rw [show (pre ++ [y]).length = pre.length + 1 from by simp] at this
    exact this

end Go.Proofs.Ytkabhjekcchjlaa

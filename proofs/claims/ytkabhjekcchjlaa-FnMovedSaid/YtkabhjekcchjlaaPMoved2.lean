/- Plain lemmas: what the functions compute is what the reference says, in plain Lean. No condition. -/
import Derived.Test.YtkabhjekcchjlaaPMoved1
set_option maxRecDepth 4000
set_option maxHeartbeats 1000000
set_option linter.unusedVariables false
set_option linter.unusedSimpArgs false
set_option linter.unusedSectionVars false

namespace Go.Proofs.Ytkabhjekcchjlaa
open Go.AM

theorem frac_le {p q g p1 q1 g1 T T1 n : Int} (hg : 0 < g) (hg1 : 0 < g1) (e1 : p * g = T) (e2 : q * g = n) (e3 : p1 * g1 = T1) (e4 : q1 * g1 = n) (hn : 0 < n) (h : T1 ≤ T) : p1 * q ≤ p * q1 := by
  have a : (p1 * q) * (g * g1) = T1 * n := by
    calc (p1 * q) * (g * g1) = (p1 * g1) * (q * g) := by ac_rfl
      _ = T1 * n := by rw [e3, e2]
  have b : (p * q1) * (g * g1) = T * n := by
    calc (p * q1) * (g * g1) = (p * g) * (q1 * g1) := by ac_rfl
      _ = T * n := by rw [e1, e4]
  exact Int.le_of_mul_le_mul_right (by rw [a, b]; exact Int.mul_le_mul_of_nonneg_right h (by omega)) (Int.mul_pos hg hg1)
theorem moved_le {q g q0 g0 pm qm gm T D n E : Int} (hE : E * (g * g0) = T * n) (hg : 0 < g) (hg0 : 0 < g0) (hgm : 0 < gm) (e2 : q * g = n) (e4 : q0 * g0 = n) (e5 : pm * gm = D) (e6 : qm * gm = n) (hn : 0 < n) (h : T ≤ D) : E * qm ≤ pm * q * q0 := by
  have a : (E * qm) * (g * g0 * gm) = T * n * n := by
    calc (E * qm) * (g * g0 * gm) = (E * (g * g0)) * (qm * gm) := by ac_rfl
      _ = T * n * n := by rw [hE, e6]
  have b : (pm * q * q0) * (g * g0 * gm) = D * n * n := by
    calc (pm * q * q0) * (g * g0 * gm) = (pm * gm) * (q * g) * (q0 * g0) := by ac_rfl
      _ = D * n * n := by rw [e5, e2, e4]
  refine Int.le_of_mul_le_mul_right (by rw [a, b]; exact Int.mul_le_mul_of_nonneg_right (Int.mul_le_mul_of_nonneg_right h (by omega)) (by omega)) (Int.mul_pos (Int.mul_pos hg hg0) hgm)
theorem mul_bd {p q A : Int} (hp : -A ≤ p ∧ p ≤ A) (hq : 0 ≤ q ∧ q ≤ 9) : -(9 * A) ≤ p * q ∧ p * q ≤ 9 * A := by
  have hA : 0 ≤ A := by omega
  have h1 := Int.mul_le_mul_of_nonneg_right hp.2 hq.1
  have h2 := Int.mul_le_mul_of_nonneg_left hq.2 hA
  have h3 := Int.mul_le_mul_of_nonneg_right hp.1 hq.1
  rw [Int.neg_mul] at h3
  omega
def dM (l : List Int) (k lo hi : Int) : Int := max (max (max (tS l - tS (l.set k.toNat lo)) (tS (l.set k.toNat lo) - tS l)) (tS (l.set k.toNat hi) - tS l)) (tS l - tS (l.set k.toNat hi))
theorem range_eq {l : List Int} {k lo hi : Int} (h : AskM l k lo hi) (fuel : Nat) (hf : 2000 < fuel) : ∃ p1 q1 g1 p2 q2 g2 pm qm gm, impl_MeanRange_p fuel l k lo hi = some (p1, q1, p2, q2, true) ∧ spec_MeanRange_p fuel l k lo hi = some (p1, q1, p2, q2, true) ∧
    impl_MostMoved_p fuel l k lo hi = some (pm, qm, true) ∧ spec_MostMoved_p fuel l k lo hi = some (pm, qm, true) ∧ (0 < g1 ∧ p1 * g1 = tS (l.set k.toNat lo) ∧ q1 * g1 = nS l ∧ (1 ≤ q1 ∧ q1 ≤ 9) ∧ -20000 ≤ p1 ∧ p1 ≤ 20000) ∧ (0 < g2 ∧ p2 * g2 = tS (l.set k.toNat hi) ∧ q2 * g2 = nS l ∧ (1 ≤ q2 ∧ q2 ≤ 9) ∧ -20000 ≤ p2 ∧ p2 ≤ 20000) ∧
    (0 < gm ∧ pm * gm = dM l k lo hi ∧ qm * gm = nS l ∧ (1 ≤ qm ∧ qm ≤ 9) ∧ -40000 ≤ pm ∧ pm ≤ 40000) := by
  obtain ⟨hm, hlo, hlh, hhi⟩ := h
  obtain ⟨gl, nl⟩ := set_good hm (v := lo) (by omega)
  obtain ⟨gh, nh⟩ := set_good hm (v := hi) (by omega)
  have bl := tS_bd gl
  have bh := tS_bd gh
  have b0 := tS_bd hm.1
  obtain ⟨tl1, tl2⟩ := trimmed_eq gl fuel hf
  obtain ⟨th1, th2⟩ := trimmed_eq gh fuel hf
  obtain ⟨t01, t02⟩ := trimmed_eq hm.1 fuel hf
  rw [nl] at tl1 tl2
  rw [nh] at th1 th2
  obtain ⟨wl1, wl2⟩ := with_eq hm lo
  obtain ⟨wh1, wh2⟩ := with_eq hm hi
  obtain ⟨p1, q1, g1, a1, a2, a3, a4, a5, a6, a7⟩ := low_eq (tS (l.set k.toNat lo)) (nS l) (by omega) (nS_bd hm.1) fuel (by omega)
  obtain ⟨p2, q2, g2, c1, c2, c3, c4, c5, c6, c7⟩ := low_eq (tS (l.set k.toNat hi)) (nS l) (by omega) (nS_bd hm.1) fuel (by omega)
  have hD : -40000 ≤ dM l k lo hi ∧ dM l k lo hi ≤ 40000 := by unfold dM; omega
  obtain ⟨pm, qm, gm, d1, d2, d3, d4, d5, d6, d7⟩ := low_eq (dM l k lo hi) (nS l) (by omega) (nS_bd hm.1) fuel (by omega)
  obtain ⟨b, r1, r2⟩ := ret_range l k lo hi
  have hb : b = true := r2.2 ⟨hm, hlo, hlh, hhi⟩
  subst hb
  obtain ⟨b, s1, s2⟩ := ret_asked l k lo hi
  have hb : b = true := s2.2 ⟨hm, hlo, hlh, hhi⟩
  subst hb
  refine ⟨p1, q1, g1, p2, q2, g2, pm, qm, gm, ?_, ?_, ?_, ?_, ⟨a3, a4, a5, a6, by omega⟩, ⟨c3, c4, c5, c6, by omega⟩, ⟨d3, d4, d5, d6, by omega⟩⟩
  · unfold impl_MeanRange_p
    rw [bnd r1]
    simp only [Bool.not_true, cond_false]
    rw [bnd wl1, bnd tl1, bnd a1, bnd wh1, bnd th1, bnd c1]
  · unfold spec_MeanRange_p
    rw [bnd s1]
    simp only [Bool.not_true, cond_false]
    rw [bnd wl2, bnd tl2, bnd a2, bnd wh2, bnd th2, bnd c2]
  · unfold impl_MostMoved_p
    rw [bnd r1]
    simp only [Bool.not_true, cond_false]
    rw [bnd t01, bnd wl1, bnd tl1, bnd wh1, bnd th1]
    dsimp only
    rw [w64_in (n := tS l - tS (l.set k.toNat lo)) (by omega), w64_in (n := tS (l.set k.toNat lo) - tS l) (by omega), w64_in (n := tS (l.set k.toNat hi) - tS l) (by omega), w64_in (n := tS l - tS (l.set k.toNat hi)) (by omega)]
    rw [bnd (show impl_lowestTerms_p fuel (max (max (max (tS l - tS (l.set k.toNat lo)) (tS (l.set k.toNat lo) - tS l)) (tS (l.set k.toNat hi) - tS l)) (tS l - tS (l.set k.toNat hi))) (nS l) = some (pm, qm) from d1)]
  · have habs : ∀ z : Int, -100000 ≤ z ∧ z ≤ 100000 → spec_l1Abs_p z = some (max z (-z)) := by
      intro z hz
      unfold spec_l1Abs_p spec_l1Most_p
      rw [w64_in (n := -z) (by omega)]
      by_cases hc : z > -z
      · rw [decide_eq_true hc, cond_true, show max z (-z) = z from by omega]; rfl
      · rw [decide_eq_false hc, cond_false, show max z (-z) = -z from by omega]; rfl
    have hmost : ∀ y z : Int, spec_l1Most_p y z = some (max y z) := by
      intro y z
      unfold spec_l1Most_p
      by_cases hc : y > z
      · rw [decide_eq_true hc, cond_true, show max y z = y from by omega]
      · rw [decide_eq_false hc, cond_false, show max y z = z from by omega]
    unfold spec_MostMoved_p
    rw [bnd s1]
    simp only [Bool.not_true, cond_false]
    rw [bnd t02, bnd wl2, bnd tl2, bnd wh2, bnd th2]
    dsimp only
    rw [w64_in (n := tS l - tS (l.set k.toNat lo)) (by omega), w64_in (n := tS (l.set k.toNat hi) - tS l) (by omega), bnd (habs _ (by omega)), bnd (habs _ (by omega)), bnd (hmost _ _)]
    have e : max (max (tS l - tS (l.set k.toNat lo)) (-(tS l - tS (l.set k.toNat lo)))) (max (tS (l.set k.toNat hi) - tS l) (-(tS (l.set k.toNat hi) - tS l))) = dM l k lo hi := by unfold dM; omega
    rw [e, bnd d2]
theorem range_no {l : List Int} {k lo hi : Int} (h : ¬ AskM l k lo hi) (fuel : Nat) : impl_MeanRange_p fuel l k lo hi = some (0, 0, 0, 0, false) ∧ spec_MeanRange_p fuel l k lo hi = some (0, 0, 0, 0, false) ∧ impl_MostMoved_p fuel l k lo hi = some (0, 0, false) ∧ spec_MostMoved_p fuel l k lo hi = some (0, 0, false) := by
  obtain ⟨b, r1, r2⟩ := ret_range l k lo hi
  have hb : b = false := by
    cases b
    · rfl
    · exact absurd (r2.1 rfl) h
  subst hb
  obtain ⟨b, s1, s2⟩ := ret_asked l k lo hi
  have hb : b = false := by
    cases b
    · rfl
    · exact absurd (s2.1 rfl) h
  subst hb
  unfold impl_MeanRange_p spec_MeanRange_p impl_MostMoved_p spec_MostMoved_p
  rw [bnd r1, bnd s1, bnd r1, bnd s1]
  exact ⟨rfl, rfl, rfl, rfl⟩
def restMoved (fuel : Nat) (more : List Int) : Option Bool :=
  (spec_DrawIsTrimmed_p fuel more).bind fun x57 =>
      (impl_IsTrimmed_p fuel x57.1 x57.2).bind fun x59 =>
      (spec_IsTrimmed_p fuel x57.1 x57.2).bind fun x61 =>
      cond ((!(x59.2 == x61.2)) || (!(x59.1 == x61.1)))
        (some false)
        (cond (x59.2 && x61.1)
          ((impl_TrimmedSum_p fuel x57.1).bind fun x63 =>
          (impl_OrderOf_p x57.1 0).bind fun x65 =>
          (getI x57.1 x57.2).bind fun x67 =>
          cond (x67 == x65.1)
            ((impl_WithMark_p x57.1 x57.2 (-1000)).bind fun x69 =>
            (impl_TrimmedSum_p fuel x69.1).bind fun x71 =>
            cond ((((((!x63.2.2) || (!x65.2)) || (!x69.2)) || (!x71.2.2)) || (x71.1 != x63.1)) || (x71.2.1 != x63.2.1))
              (some false)
              ((spec_DrawWithMark_p fuel more).bind fun x73 =>
              (impl_WithMark_p x73.1 x73.2.1 x73.2.2).bind fun x75 =>
              (spec_WithMark_p x73.1 x73.2.1 x73.2.2).bind fun x77 =>
              (opt (x75.2 == x77.2) default (laws_sameInts_p x75.1 x77.1)).bind fun x79 =>
              some ((x75.2 == x77.2) && x79)))
            ((impl_WithMark_p x57.1 x57.2 1000).bind fun x81 =>
            (impl_TrimmedSum_p fuel x81.1).bind fun x83 =>
            cond ((((((!x63.2.2) || (!x65.2)) || (!x81.2)) || (!x83.2.2)) || (x83.1 != x63.1)) || (x83.2.1 != x63.2.1))
              (some false)
              ((spec_DrawWithMark_p fuel more).bind fun x85 =>
              (impl_WithMark_p x85.1 x85.2.1 x85.2.2).bind fun x87 =>
              (spec_WithMark_p x85.1 x85.2.1 x85.2.2).bind fun x89 =>
              (opt (x87.2 == x89.2) default (laws_sameInts_p x87.1 x89.1)).bind fun x91 =>
              some ((x87.2 == x89.2) && x91))))
          ((spec_DrawWithMark_p fuel more).bind fun x93 =>
          (impl_WithMark_p x93.1 x93.2.1 x93.2.2).bind fun x95 =>
          (spec_WithMark_p x93.1 x93.2.1 x93.2.2).bind fun x97 =>
          (opt (x95.2 == x97.2) default (laws_sameInts_p x95.1 x97.1)).bind fun x99 =>
          some ((x95.2 == x97.2) && x99)))
theorem last_ok {more : List Int} (hc : ∀ x ∈ more, isByte x) (hl : more.length ≤ 1048576) (fuel : Nat) (hf : 2000 < fuel) : ((spec_DrawWithMark_p fuel more).bind fun x73 =>
              (impl_WithMark_p x73.1 x73.2.1 x73.2.2).bind fun x75 =>
              (spec_WithMark_p x73.1 x73.2.1 x73.2.2).bind fun x77 =>
              (opt (x75.2 == x77.2) default (laws_sameInts_p x75.1 x77.1)).bind fun x79 =>
              some ((x75.2 == x77.2) && x79)) = some true := by
  obtain ⟨l, k, v, h⟩ := drawWith_ok hc hl fuel (by omega)
  obtain ⟨r, r1, r2, _⟩ := same_With l k v
  rw [bnd h]
  dsimp only
  rw [bnd r1, bnd r2, show (r.2 == r.2) = true from by simp, opt_t, bnd (sameInts_eq r.1)]
  rfl
theorem restMoved_ok {more : List Int} (hc : ∀ x ∈ more, isByte x) (hl : more.length ≤ 1048576) (fuel : Nat) (hf : 2000 < fuel) : restMoved fuel more = some true := by
  have hz := last_ok hc hl fuel hf
  obtain ⟨l, k, h⟩ := drawTrimmed_ok hc hl fuel (by omega)
  obtain ⟨r, r1, r2, r3, r4⟩ := same_Trimmed l k fuel hf
  unfold restMoved
  rw [bnd h]
  dsimp only
  rw [bnd r1, bnd r2, show (!(r.2 == r.2) || !(r.1 == r.1)) = false from by simp, cond_false]
  cases hq : (r.2 && r.1)
  · exact hz
  · rw [Bool.and_eq_true] at hq
    have hm := r3 hq.1
    obtain ⟨h5, x, x1, x2⟩ := r4 hq.2
    rw [cond_true, bnd (sumT_eq hm.1 fuel hf), bnd (order_eq hm.1), bnd x1]
    dsimp only
    by_cases e : x = mnL l
    · rw [show (x == mnL l) = true from by simp [e], cond_true]
      obtain ⟨w, w1, _, w3⟩ := same_With l k (-1000)
      rw [w3 hm (by omega)] at w1
      obtain ⟨g1, g2⟩ := set_good hm (v := -1000) (by omega)
      rw [bnd w1]
      dsimp only
      rw [bnd (sumT_eq g1 fuel hf), tS_low hm h5 x1 e, g2]
      simp only [Bool.not_true, Bool.false_or, bne_self_eq_false, cond_false]
      exact hz
    · rw [show (x == mnL l) = false from by simp [e], cond_false]
      have e' : x = mxL l := by
        rcases x2 with x2 | x2
        · exact x2
        · exact absurd x2 e
      obtain ⟨w, w1, _, w3⟩ := same_With l k 1000
      rw [w3 hm (by omega)] at w1
      obtain ⟨g1, g2⟩ := set_good hm (v := 1000) (by omega)
      rw [bnd w1]
      dsimp only
      rw [bnd (sumT_eq g1 fuel hf), tS_high hm h5 x1 e', g2]
      simp only [Bool.not_true, Bool.false_or, bne_self_eq_false, cond_false]
      exact hz
theorem mid_in {lo hi : Int} (h : lo ≤ hi) (hb : -1000 ≤ lo ∧ hi ≤ 1000) : lo ≤ w64 ((w64 (lo + hi)).tdiv 2) ∧ w64 ((w64 (lo + hi)).tdiv 2) ≤ hi := by
  rw [w64_in (n := lo + hi) (by omega)]
  by_cases hs : 0 ≤ lo + hi
  · rw [Int.tdiv_eq_ediv_of_nonneg hs, w64_in (by omega)]; omega
  · have e : (lo + hi).tdiv 2 = -((-(lo + hi)) / 2) := by
      rw [← Int.tdiv_eq_ediv_of_nonneg (by omega : 0 ≤ -(lo + hi)), Int.neg_tdiv]; omega
    rw [e, w64_in (by omega)]; omega
theorem moved_loop {more l : List Int} {k lo hi p1 q1 g1 p2 q2 g2 pm qm gm p0 q0 g0 : Int} (h : AskM l k lo hi) (fuel : Nat) (hf : 2000 < fuel) (hr : restMoved fuel more = some true)
    (hA : 0 < g1 ∧ p1 * g1 = tS (l.set k.toNat lo) ∧ q1 * g1 = nS l ∧ (1 ≤ q1 ∧ q1 ≤ 9) ∧ -20000 ≤ p1 ∧ p1 ≤ 20000) (hB : 0 < g2 ∧ p2 * g2 = tS (l.set k.toNat hi) ∧ q2 * g2 = nS l ∧ (1 ≤ q2 ∧ q2 ≤ 9) ∧ -20000 ≤ p2 ∧ p2 ≤ 20000)
    (hC : 0 < gm ∧ pm * gm = dM l k lo hi ∧ qm * gm = nS l ∧ (1 ≤ qm ∧ qm ≤ 9) ∧ -40000 ≤ pm ∧ pm ≤ 40000) (h0 : 0 < g0 ∧ p0 * g0 = tS l ∧ q0 * g0 = nS l ∧ (1 ≤ q0 ∧ q0 ≤ 9) ∧ -20000 ≤ p0 ∧ p0 ≤ 20000) :
    ∀ (m f v : Nat), v + m = 3 → m < f → laws_FnMoved_l1 more fuel (l, k, lo, hi) (p1, q1, p2, q2, true) (pm, qm, true) (p0, q0, true) f (v : Int) = some true := by
  intro m
  induction m with
  | zero =>
    intro f v hv hfm
    obtain ⟨f, rfl⟩ := Nat.exists_eq_succ_of_ne_zero (by omega : f ≠ 0)
    rw [laws_FnMoved_l1, decide_eq_false (by simp; omega), cond_false]
    exact hr
  | succ m ih =>
    intro f v hv hfm
    obtain ⟨f, rfl⟩ := Nat.exists_eq_succ_of_ne_zero (by omega : f ≠ 0)
    rw [laws_FnMoved_l1, decide_eq_true (by simp; omega), cond_true]
    dsimp only
    have hmid := mid_in h.2.2.1 ⟨h.2.1, h.2.2.2⟩
    obtain ⟨y, hy, hyb⟩ : ∃ y, getI [lo, w64 ((w64 (lo + hi)).tdiv 2), hi] (v : Int) = some y ∧ lo ≤ y ∧ y ≤ hi := by
      have hv3 : v = 0 ∨ v = 1 ∨ v = 2 := by omega
      have := h.2.2.1
      rcases hv3 with rfl | rfl | rfl
      · exact ⟨lo, rfl, by omega, by omega⟩
      · exact ⟨_, rfl, hmid⟩
      · exact ⟨hi, rfl, by omega, by omega⟩
    obtain ⟨hm, hlo, hlh, hhi⟩ := h
    rw [bnd hy]
    obtain ⟨w, w1, w2, w3⟩ := same_With l k y
    rw [w3 hm (by omega)] at w1 w2
    obtain ⟨gg, gn⟩ := set_good hm (v := y) (by omega)
    obtain ⟨p, q, g, m1, m2, m3, m4, m5, m6⟩ := mean_eq gg fuel hf
    rw [gn] at m4
    rw [bnd w1, bnd w2]
    dsimp only
    rw [bnd m1]
    simp only [Bool.not_true, Bool.not_false, Bool.false_or, opt_t]
    rw [bnd (sameInts_eq _)]
    simp only [Bool.not_true, Bool.not_false, Bool.false_or, opt_t]
    have hn := nS_bd hm.1
    obtain ⟨a1, a2, a3, a4, a5⟩ := hA
    obtain ⟨b1, b2, b3, b4, b5⟩ := hB
    obtain ⟨c1, c2, c3, c4, c5⟩ := hC
    obtain ⟨d1, d2, d3, d4, d5⟩ := h0
    have mono1 := tS_mono hm (u := lo) (v := y) hyb.1
    have mono2 := tS_mono hm (u := y) (v := hi) hyb.2
    have f1 := frac_le m2 a1 m3 m4 a2 a3 (by omega) mono1
    have f2 := frac_le b1 m2 b2 b3 m3 m4 (by omega) mono2
    have k1 := mul_bd (p := p) (q := q1) (A := 20000) (by omega) (by omega)
    have k2 := mul_bd (p := p1) (q := q) (A := 20000) (by omega) (by omega)
    have k3 := mul_bd (p := p) (q := q2) (A := 20000) (by omega) (by omega)
    have k4 := mul_bd (p := p2) (q := q) (A := 20000) (by omega) (by omega)
    have k5 := mul_bd (p := p) (q := q0) (A := 20000) (by omega) (by omega)
    have k6 := mul_bd (p := p0) (q := q) (A := 20000) (by omega) (by omega)
    have k7 := mul_bd (p := pm) (q := q) (A := 40000) (by omega) (by omega)
    have k8 := mul_bd (p := pm * q) (q := q0) (A := 360000) (by omega) (by omega)
    rw [w64_in (n := p * q1) (by omega), w64_in (n := p1 * q) (by omega), decide_eq_false (by omega : ¬ p * q1 < p1 * q), w64_in (n := p * q2) (by omega), w64_in (n := p2 * q) (by omega), decide_eq_false (by omega : ¬ p * q2 > p2 * q), w64_in (n := p * q0) (by omega), w64_in (n := p0 * q) (by omega), w64_in (n := p * q0 - p0 * q) (by omega)]
    simp only [Bool.not_true, Bool.not_false, Bool.false_or, opt_t]
    have hE : (p * q0 - p0 * q) * (g * g0) = (tS (l.set k.toNat y) - tS l) * nS l := by
      have x1 : (p * q0) * (g * g0) = tS (l.set k.toNat y) * nS l := by
        calc (p * q0) * (g * g0) = (p * g) * (q0 * g0) := by ac_rfl
          _ = tS (l.set k.toNat y) * nS l := by rw [m3, d3]
      have x2 : (p0 * q) * (g * g0) = tS l * nS l := by
        calc (p0 * q) * (g * g0) = (p0 * g0) * (q * g) := by ac_rfl
          _ = tS l * nS l := by rw [d2, m4]
      rw [Int.sub_mul, Int.sub_mul, x1, x2]
    have hE' : (-(p * q0 - p0 * q)) * (g * g0) = (tS l - tS (l.set k.toNat y)) * nS l := by
      rw [Int.neg_mul, hE, ← Int.neg_mul]; congr 1; omega
    have hD1 : tS (l.set k.toNat y) - tS l ≤ dM l k lo hi := by unfold dM; omega
    have hD2 : tS l - tS (l.set k.toNat y) ≤ dM l k lo hi := by unfold dM; omega
    have u1 := moved_le hE m2 d1 c1 m4 d3 c2 c3 (by omega) hD1
    have u2 := moved_le hE' m2 d1 c1 m4 d3 c2 c3 (by omega) hD2
    have hab : ∃ z, laws_pAbs_p (p * q0 - p0 * q) = some z ∧ (-360000 ≤ z ∧ z ≤ 360000) ∧ z * qm ≤ pm * q * q0 := by
      unfold laws_pAbs_p
      by_cases hc : p * q0 - p0 * q < 0
      · rw [decide_eq_true hc, cond_true, w64_in (by omega)]
        exact ⟨_, rfl, by omega, u2⟩
      · rw [decide_eq_false hc, cond_false]
        exact ⟨_, rfl, by omega, u1⟩
    obtain ⟨z, z1, z2, z3⟩ := hab
    have k9 := mul_bd (p := z) (q := qm) (A := 360000) (by omega) (by omega)
    rw [bnd z1, w64_in (n := z * qm) (by omega), w64_in (n := pm * q) (by omega), w64_in (n := pm * q * q0) (by omega), decide_eq_false (by omega : ¬ z * qm > pm * q * q0), cond_false, w64_in (by omega)]
    have := ih f (v + 1) (by omega) (by omega)
    rw [Int.natCast_add, Int.natCast_one] at this
    exact this

end Go.Proofs.Ytkabhjekcchjlaa

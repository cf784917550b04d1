/- Plain lemmas: what the functions compute is what the reference says, in plain Lean. No condition. -/
import Derived.Test.YtgcnndkbpmnmgaaPCur4
set_option maxRecDepth 4000
set_option maxHeartbeats 1000000
set_option linter.unusedVariables false
set_option linter.unusedSimpArgs false
set_option linter.unusedSectionVars false

namespace Go.Proofs.Ytgcnndkbpmnmgaa
open Go.AM

theorem qInts_l (b : List Int) : ∀ (ys pre : List Int), b = pre ++ ys → laws_qInts_l1 b ys pre.length = some true := by
  intro ys
  induction ys with
  | nil => intro pre _; rw [laws_qInts_l1]
  | cons y ys ih =>
    intro pre h
    have := ih (pre ++ [y]) (by rw [h]; simp)
    rw [show (pre ++ [y]).length = pre.length + 1 from by simp] at this
    rw [laws_qInts_l1, bnd (getI_app (pre := pre) (y := y) (ys := ys) h rfl), bne_self_eq_false, cond_false, this]
theorem qInts_eq (a : List Int) : laws_qInts_p a a = some true := by
  unfold laws_qInts_p
  rw [bne_self_eq_false, cond_false]
  exact qInts_l a a [] rfl
theorem totalOf_case (s : Season) (hb : nSeason s ≤ 1048576) (sk : Int) (fuel : Nat) (hf : 1048576 < fuel) :
    (∃ x ∈ s.lines, SeasonOk s ∧ findL s sk = some x ∧ spec_TotalOf_p fuel s sk = some (sumW (countedL x s.best), true) ∧ impl_TotalOf_p fuel s sk = some (sumW (countedL x s.best), true)) ∨
    ((SeasonOk s → findL s sk = none) ∧ spec_TotalOf_p fuel s sk = some (0, false) ∧ impl_TotalOf_p fuel s sk = some (0, false)) := by
  have hl : s.lines.length ≤ 1048576 := by unfold nSeason nLineS at hb; omega
  obtain ⟨b, g1, g2⟩ := ret_seGood s hb
  obtain ⟨r, r1, r2⟩ := same_TotalOf s hb sk fuel hf
  have hs := r1
  unfold spec_TotalOf_p at hs
  rw [bnd g1] at hs
  cases b
  · cases hs
    exact .inr ⟨fun h => absurd (g2.2 h) (by simp), r1, r2⟩
  have hok := g2.1 rfl
  simp only [Bool.not_true, Bool.not_false, opt_t, Bool.false_or] at hs
  rcases seHas_eq s sk hl hok.2.2.1 fuel hf with ⟨k, x, e1, e2, e3, e4, _⟩ | ⟨e1, e2, _⟩
  · rw [bnd e1, decide_eq_false (by omega), cond_false, bnd e1, bnd (seTotal_eq s k x e2 hok.1)] at hs
    cases hs
    exact .inl ⟨x, List.mem_of_getElem? e2, hok, e4, r1, r2⟩
  · rw [bnd e1] at hs
    cases hs
    exact .inr ⟨fun _ => e2, r1, r2⟩
def insD (x : Int) : List Int → List Int
  | [] => [x]
  | y :: l => if y ≥ x then y :: insD x l else x :: y :: l
theorem insD_perm (x : Int) : ∀ l, (insD x l).Perm (x :: l)
  | [] => List.Perm.refl _
  | y :: l => by
    rw [insD]
    split
    · exact ((insD_perm x l).cons y).trans (List.Perm.swap x y l)
    · exact List.Perm.refl _
theorem insD_desc (x : Int) : ∀ l : List Int, l.Pairwise (· ≥ ·) → (insD x l).Pairwise (· ≥ ·)
  | [], _ => List.pairwise_singleton _ _
  | y :: l, h => by
    rw [insD]
    have h' := List.pairwise_cons.1 h
    split
    · rename_i hyx
      refine List.pairwise_cons.2 ⟨fun z hz => ?_, insD_desc x l h'.2⟩
      rcases List.mem_cons.1 ((insD_perm x l).mem_iff.1 hz) with rfl | hz
      · exact hyx
      · exact h'.1 z hz
    · rename_i hyx
      refine List.pairwise_cons.2 ⟨fun z hz => ?_, h⟩
      rcases List.mem_cons.1 hz with rfl | hz
      · omega
      · have := h'.1 z hz; omega
theorem take_up (l : List Int) (z : Int) (hz : 0 ≤ z) (h : ∀ y ∈ l, 0 ≤ y ∧ y ≤ z) : ∀ b : Nat, (l.take b).sum ≤ (l.take (b + 1)).sum ∧ (l.take (b + 1)).sum ≤ (l.take b).sum + z := by
  induction l with
  | nil => intro b; simp [hz]
  | cons y l ih =>
    intro b
    have hy := h y (by simp)
    cases b with
    | zero => simp; omega
    | succ b =>
      have := ih (fun y hy => h y (by simp [hy])) b
      simp only [List.take_succ_cons, List.sum_cons]
      omega
theorem insD_take (x : Int) (hx : 0 ≤ x) : ∀ (l : List Int) (b : Nat), l.Pairwise (· ≥ ·) → (∀ y ∈ l, 0 ≤ y) → (l.take b).sum ≤ ((insD x l).take b).sum ∧ ((insD x l).take b).sum ≤ (l.take b).sum + x := by
  intro l
  induction l with
  | nil => intro b _ _; cases b <;> simp [insD, hx]
  | cons y l ih =>
    intro b hd hn
    have h' := List.pairwise_cons.1 hd
    cases b with
    | zero => simp [hx]
    | succ b =>
      rw [insD]
      split
      · have := ih b h'.2 (fun z hz => hn z (by simp [hz]))
        simp only [List.take_succ_cons, List.sum_cons]
        omega
      · rename_i hyx
        have hy := hn y (by simp)
        have h1 := take_up (y :: l) x hx (fun z hz => ⟨hn z hz, by
          rcases List.mem_cons.1 hz with rfl | hz
          · omega
          · have := h'.1 z hz; omega⟩) b
        simp only [List.take_succ_cons, List.sum_cons] at h1 ⊢
        omega
theorem more_take (x : Int) (hx : 0 ≤ x) (b : Nat) : ∀ (e : Nat) (l l' : List Int), l.Pairwise (· ≥ ·) → (∀ y ∈ l, 0 ≤ y) → l'.Pairwise (· ≥ ·) → l'.Perm (l ++ List.replicate e x) → (l.take b).sum ≤ (l'.take b).sum ∧ (l'.take b).sum ≤ (l.take b).sum + (e : Int) * x := by
  intro e
  induction e with
  | zero =>
    intro l l' h1 _ h2 h3
    have : l' = l := List.Perm.eq_of_pairwise (le := (· ≥ ·)) (fun a b _ _ h k => by omega) h2 h1 (by simpa using h3)
    subst this
    simp
  | succ e ih =>
    intro l l' h1 hn h2 h3
    have hp := insD_perm x l
    have h4 := ih (insD x l) l' (insD_desc x l h1) (fun y hy => by
      rcases List.mem_cons.1 (hp.mem_iff.1 hy) with rfl | hy
      · exact hx
      · exact hn y hy) h2 (h3.trans (by
        rw [List.replicate_succ]
        exact (List.perm_middle).trans ((hp.append_right _).symm)))
    have h5 := insD_take x hx l b h1 hn
    rw [Int.natCast_succ, Int.add_mul, Int.one_mul]
    omega
theorem pts_of {s : Season} (hok : SeasonOk s) {x : Line} (hx : x ∈ s.lines) : x.points.Pairwise (· ≥ ·) ∧ (∀ y ∈ x.points, 0 ≤ y ∧ y ≤ 100000) ∧ x.points.length ≤ 80 := by
  have hN := hok.2.1 x hx
  have hG := (good_flat hok.2.2.1).2 hok.2.2.2.1 x hx
  obtain ⟨hp1, hp2⟩ := pts_desc hG hN
  refine ⟨hp1, hp2, ?_⟩
  have := hok.2.2.2.2
  unfold seasonEs at this
  rw [flat_len_lines hok.2.1] at this
  have := le_sum hx (fun x => x.events.length)
  have := hN.1
  omega
theorem counted_sum {s : Season} (hok : SeasonOk s) {x : Line} (hx : x ∈ s.lines) : sumW (countedL x s.best) = (x.points.take s.best.toNat).sum ∧ 0 ≤ (x.points.take s.best.toNat).sum ∧ (x.points.take s.best.toNat).sum ≤ 8000000 := by
  obtain ⟨_, h2, h3⟩ := pts_of hok hx
  have hm : ∀ y ∈ x.points.take s.best.toNat, 0 ≤ y ∧ y ≤ 100000 := fun y hy => h2 y (List.mem_of_mem_take hy)
  have hl : (x.points.take s.best.toNat).length ≤ 80 := by rw [List.length_take]; omega
  have hb : ∀ l : List Int, (∀ y ∈ l, 0 ≤ y ∧ y ≤ 100000) → 0 ≤ l.sum ∧ l.sum ≤ 100000 * (l.length : Int) := by
    intro l
    induction l with
    | nil => intro _; simp
    | cons y l ih => intro h; have h1 := h y (by simp); have h2 := ih (fun z hz => h z (by simp [hz])); simp only [List.sum_cons, List.length_cons]; omega
  have := hb _ hm
  refine ⟨?_, this.1, by omega⟩
  unfold sumW countedL
  rw [sumW_sum _ 0 hm (by omega) (by omega)]
  omega
theorem mostStill_case (s : Season) (hb : nSeason s ≤ 1048576) (sk ev mo : Int) (fuel : Nat) (hf : 1048576 < fuel) :
    (∃ (e : Nat) (l' : List Int), SeasonOk s ∧ ev = (e : Int) ∧ (0 ≤ ev ∧ ev ≤ 20) ∧ (0 ≤ mo ∧ mo ≤ 100000) ∧ l'.Pairwise (· ≥ ·) ∧ l'.Perm (((findL s sk).map fun x => x.points).getD [] ++ List.replicate e mo) ∧
      spec_MostStill_p fuel s sk ev mo = some ((l'.take s.best.toNat).sum, true) ∧ impl_MostStill_p fuel s sk ev mo = some ((l'.take s.best.toNat).sum, true)) ∨
    (∃ r, spec_MostStill_p fuel s sk ev mo = some (r, false) ∧ impl_MostStill_p fuel s sk ev mo = some (r, false)) := by
  have hl : s.lines.length ≤ 1048576 := by unfold nSeason nLineS at hb; omega
  obtain ⟨b, g1, g2⟩ := ret_seGood s hb
  obtain ⟨r, r1, r2⟩ := same_MostStill s hb sk ev mo fuel hf
  have hs := r1
  unfold spec_MostStill_p at hs
  rw [bnd g1] at hs
  cases b
  · cases hs; exact .inr ⟨_, r1, r2⟩
  have hok := g2.1 rfl
  obtain ⟨b2, a1, a2⟩ := ret_l1In sk 1 999
  simp only [Bool.not_true, Bool.not_false, opt_t, Bool.false_or] at hs
  rw [bnd a1] at hs
  cases b2
  · cases hs; exact .inr ⟨_, r1, r2⟩
  obtain ⟨b3, c1, c2⟩ := ret_l1In ev 0 20
  simp only [Bool.not_true, Bool.not_false, opt_t, Bool.false_or] at hs
  rw [bnd c1] at hs
  cases b3
  · cases hs; exact .inr ⟨_, r1, r2⟩
  obtain ⟨b4, d1, d2⟩ := ret_l1In mo 0 100000
  simp only [Bool.not_true, Bool.not_false, opt_t, Bool.false_or] at hs
  rw [bnd d1] at hs
  cases b4
  · cases hs; exact .inr ⟨_, r1, r2⟩
  simp only [Bool.not_true, cond_false] at hs
  have hev := c2.1 rfl
  have hmo := d2.1 rfl
  obtain ⟨e, he⟩ : ∃ e : Nat, ev = (e : Int) := ⟨ev.toNat, by omega⟩
  left
  rcases seHas_eq s sk hl hok.2.2.1 fuel hf with ⟨k, x, e1, e2, e3, e4, _⟩ | ⟨e1, e2, _⟩
  · obtain ⟨hp1, hp2, hlen⟩ := pts_of hok (List.mem_of_getElem? e2)
    obtain ⟨l', k1, k2, k3⟩ := ms_l1 mo fuel hf e fuel x.points (by omega) (by omega) hp1
    have hl' : l'.length = x.points.length + e := by rw [k3.length_eq]; simp
    have hm' : ∀ y ∈ l', 0 ≤ y ∧ y ≤ 100000 := by
      intro y hy
      rcases List.mem_append.1 (k3.mem_iff.1 hy) with h | h
      · exact hp2 y h
      · rw [List.eq_of_mem_replicate h]; exact hmo
    rw [he, bnd e1, decide_eq_true (by omega), cond_true, bnd (by rw [getI_nat]; exact e2), bnd (own_eq _ (by omega)), bnd k1, ms_l3 s hok.1 l' 0 0 hm' (by omega) (by omega)] at hs
    simp only [Int.zero_add, Nat.sub_zero] at hs
    cases hs
    exact ⟨e, l', hok, he, hev, hmo, k2, by rw [e4]; exact k3, r1, r2⟩
  · obtain ⟨l', k1, k2, k3⟩ := ms_l1D mo fuel hf e fuel [] (by omega) (by simp; omega) (by simp)
    have hl' : l'.length = e := by rw [k3.length_eq]; simp
    have hm' : ∀ y ∈ l', 0 ≤ y ∧ y ≤ 100000 := by
      intro y hy
      rcases List.mem_append.1 (k3.mem_iff.1 hy) with h | h
      · simp at h
      · rw [List.eq_of_mem_replicate h]; exact hmo
    rw [he, bnd e1] at hs
    simp only [show decide ((-1 : Int) ≥ 0) = false from rfl, cond_false] at hs
    rw [bnd k1, ms_l3D s hok.1 l' 0 0 hm' (by omega) (by omega)] at hs
    simp only [Int.zero_add, Nat.sub_zero] at hs
    cases hs
    exact ⟨e, l', hok, he, hev, hmo, k2, by rw [e2]; exact k3, r1, r2⟩
theorem still_ok (s : Season) (hb : nSeason s ≤ 1048576) (sk ev mo : Int) (fuel : Nat) (hf : 1048576 < fuel) {r t : Int × Bool} (hr : spec_MostStill_p fuel s sk ev mo = some r) (ht : spec_TotalOf_p fuel s sk = some t) (h : r.2 = true) :
    t.1 ≤ r.1 ∧ r.1 ≤ w64 (t.1 + w64 (ev * mo)) ∧ (ev = 0 → r.1 = t.1) := by
  rcases mostStill_case s hb sk ev mo fuel hf with ⟨e, l', hok, he, hev, hmo, k2, k3, q1, _⟩ | ⟨q, q1, _⟩
  · rw [hr] at q1
    obtain rfl := Option.some.inj q1
    have hem : 0 ≤ (e : Int) * mo ∧ (e : Int) * mo ≤ 2000000 := by
      have h1 : (e : Int) * mo ≤ 20 * mo := Int.mul_le_mul_of_nonneg_right (by omega) hmo.1
      exact ⟨Int.mul_nonneg (by omega) hmo.1, by omega⟩
    rw [he]
    rcases totalOf_case s hb sk fuel hf with ⟨x, hx, _, f1, f2, _⟩ | ⟨f1, f2, _⟩
    · rw [ht] at f2
      obtain rfl := Option.some.inj f2
      obtain ⟨hp1, hp2, _⟩ := pts_of hok hx
      obtain ⟨c1, c2, c3⟩ := counted_sum hok hx
      rw [f1] at k3
      have hmt := more_take mo hmo.1 s.best.toNat e x.points l' hp1 (fun y hy => (hp2 y hy).1) k2 k3
      dsimp only
      rw [c1, w64_in (n := (e : Int) * mo) (by omega), w64_in (by omega)]
      refine ⟨hmt.1, hmt.2, fun h0 => ?_⟩
      have : e = 0 := by omega
      subst this
      simp only [Int.natCast_zero, Int.zero_mul, Int.add_zero] at hmt
      omega
    · rw [ht] at f2
      obtain rfl := Option.some.inj f2
      rw [f1 hok] at k3
      have hmt := more_take mo hmo.1 s.best.toNat e [] l' (by simp) (by simp) k2 k3
      simp only [List.take_nil, List.sum_nil] at hmt
      dsimp only
      rw [w64_in (n := (e : Int) * mo) (by omega), w64_in (by omega)]
      refine ⟨by omega, by omega, fun h0 => ?_⟩
      have : e = 0 := by omega
      subst this
      simp only [Int.natCast_zero, Int.zero_mul, Int.add_zero] at hmt
      omega
  · rw [hr] at q1
    obtain rfl := Option.some.inj q1
    cases h
def plcN (s : Season) (b : Line) : Int := 1 + ((s.lines.filter fun a => aheadS a b s.best).length : Int)
theorem placesV_l2 (s : Season) (hbest : 1 ≤ s.best ∧ s.best ≤ 9) (hl : s.lines.length ≤ 80) (k : Nat) (b : Line) (hk : s.lines[k]? = some b) (acc : List Int) (hacc : acc.length ≤ 80) : ∀ (ys pre : List Line) (v : Int), s.lines = pre ++ ys → 0 ≤ v → v + (ys.length : Int) ≤ 1000 →
    spec_PlacesOf_l2 s k acc ys pre.length v = some (acc ++ [v + ((ys.filter fun a => aheadS a b s.best).length : Int)]) := by
  intro ys
  induction ys with
  | nil =>
    intro pre v _ _ _
    rw [spec_PlacesOf_l2]
    have : need (fitsB 8 (acc.length + [v].length)) = some () := by rw [fits_of (by simp; omega)]; rfl
    rw [bnd this]
    simp
  | cons y ys ih =>
    intro pre v h1 h0 h2
    simp only [List.length_cons] at h2
    have hy : s.lines[pre.length]? = some y := by rw [h1]; simp
    rw [spec_PlacesOf_l2, bnd (seAhead_eq s pre.length k y b hy hk hbest)]
    cases hc : aheadS y b s.best
    · have := ih (pre ++ [y]) v (by rw [h1]; simp) h0 (by omega)
      rw [show (pre ++ [y]).length = pre.length + 1 from by simp] at this
      rw [cond_false, this, List.filter_cons_of_neg (by simp [hc])]
    · have := ih (pre ++ [y]) (w64 (v + 1)) (by rw [h1]; simp) (by rw [w64_in (by omega)]; omega) (by rw [w64_in (by omega)]; omega)
      rw [show (pre ++ [y]).length = pre.length + 1 from by simp, w64_in (by omega)] at this
      rw [cond_true, w64_in (by omega), this, List.filter_cons_of_pos (by simp [hc]), List.length_cons]
      congr 3
      omega
theorem placesV_l1 (s : Season) (hbest : 1 ≤ s.best ∧ s.best ≤ 9) (hl : s.lines.length ≤ 80) : ∀ (ys pre : List Line) (acc : List Int), s.lines = pre ++ ys → acc.length = pre.length →
    spec_PlacesOf_l1 s ys pre.length acc = some (acc ++ ys.map (plcN s), true) := by
  intro ys
  induction ys with
  | nil =>
    intro pre acc h1 h2
    rw [spec_PlacesOf_l1]; simp
  | cons y ys ih =>
    intro pre acc h1 h2
    have hy : s.lines[pre.length]? = some y := by rw [h1]; simp
    have hp : pre.length ≤ 80 := by rw [h1] at hl; simp at hl; omega
    have g1 := placesV_l2 s hbest hl pre.length y hy acc (by omega) s.lines [] 1 rfl (by omega) (by omega)
    rw [spec_PlacesOf_l1, bnd (show spec_PlacesOf_l2 s pre.length acc s.lines 0 1 = _ from g1)]
    have := ih (pre ++ [y]) (acc ++ [plcN s y]) (by rw [h1]; simp) (by simp [h2])
    rw [show (pre ++ [y]).length = pre.length + 1 from by simp] at this
    show spec_PlacesOf_l1 s ys (pre.length + 1) (acc ++ [plcN s y]) = _
    rw [this]; simp
theorem places_case (s : Season) (hb : nSeason s ≤ 1048576) (fuel : Nat) (hf : 1048576 < fuel) :
    (SeasonOk s ∧ spec_PlacesOf_p s = some (s.lines.map (plcN s), true) ∧ impl_PlacesOf_p fuel s = some (s.lines.map (plcN s), true)) ∨ (∃ r, spec_PlacesOf_p s = some (r, false) ∧ impl_PlacesOf_p fuel s = some (r, false)) := by
  obtain ⟨r, r1, r2, _⟩ := same_PlacesOf s hb fuel hf
  obtain ⟨b, g1, g2⟩ := ret_seGood s hb
  have hs := r1
  unfold spec_PlacesOf_p at hs
  rw [bnd g1] at hs
  cases b
  · cases hs; exact .inr ⟨_, r1, r2⟩
  · have hok := g2.1 rfl
    simp only [Bool.not_true, cond_false] at hs
    rw [show spec_PlacesOf_l1 s s.lines 0 [] = _ from placesV_l1 s hok.1 (lines_len hok) s.lines [] [] rfl rfl] at hs
    cases hs
    exact .inl ⟨hok, r1, r2⟩
theorem plcN_bd (s : Season) (b : Line) : 1 ≤ plcN s b := by unfold plcN; omega
theorem aheadL_irr : ∀ l, aheadL l l = false
  | [] => rfl
  | x :: l => by rw [aheadL]; simp [aheadL_irr l]
theorem aheadS_irr (a : Line) (best : Int) : aheadS a a best = false := by unfold aheadS; simp [aheadL_irr]
theorem plcN_len {s : Season} {b : Line} (hb : b ∈ s.lines) : plcN s b ≤ (s.lines.length : Int) := by
  unfold plcN
  have : (s.lines.filter fun a => aheadS a b s.best).length < s.lines.length := by
    rw [List.length_filter_lt_length_iff_exists]
    exact ⟨b, hb, by simp [aheadS_irr]⟩
  omega
theorem plcN_lt {s : Season} {a b : Line} (ha : a ∈ s.lines) (h : sumW (countedL a s.best) > sumW (countedL b s.best)) : plcN s a < plcN s b := by
  have key : ∀ l : List Line, a ∈ l → (l.filter fun c => aheadS c a s.best).length < (l.filter fun c => aheadS c b s.best).length := by
    have mono : ∀ c : Line, aheadS c a s.best = true → aheadS c b s.best = true := by
      intro c hc
      unfold aheadS at hc ⊢
      have h1 : sumW (countedL c s.best) ≥ sumW (countedL a s.best) := by
        cases hq : (sumW (countedL c s.best) != sumW (countedL a s.best))
        · have : sumW (countedL c s.best) = sumW (countedL a s.best) := by simpa using hq
          omega
        · rw [hq, cond_true] at hc
          have := of_decide_eq_true hc; omega
      rw [show (sumW (countedL c s.best) != sumW (countedL b s.best)) = true from by rw [bne_iff_ne]; omega, cond_true]
      exact decide_eq_true (by omega)
    have hle : ∀ l : List Line, (l.filter fun c => aheadS c a s.best).length ≤ (l.filter fun c => aheadS c b s.best).length := by
      intro l
      induction l with
      | nil => simp
      | cons c l ih =>
        cases hc : aheadS c a s.best
        · rw [List.filter_cons_of_neg (by simp [hc])]
          cases hd : aheadS c b s.best
          · rw [List.filter_cons_of_neg (by simp [hd])]; exact ih
          · rw [List.filter_cons_of_pos (by simp [hd]), List.length_cons]; omega
        · rw [List.filter_cons_of_pos (by simp [hc]), List.filter_cons_of_pos (by simp [mono c hc]), List.length_cons, List.length_cons]; omega
    intro l
    induction l with
    | nil => intro h; simp at h
    | cons c l ih =>
      intro hm
      rcases List.mem_cons.1 hm with rfl | hm
      · have h2 : aheadS a b s.best = true := by
          unfold aheadS
          rw [show (sumW (countedL a s.best) != sumW (countedL b s.best)) = true from by rw [bne_iff_ne]; omega, cond_true]
          exact decide_eq_true h
        rw [List.filter_cons_of_neg (by simp [aheadS_irr]), List.filter_cons_of_pos (by simp [h2]), List.length_cons]
        have := hle l
        omega
      · have := ih hm
        cases hc : aheadS c a s.best
        · rw [List.filter_cons_of_neg (by simp [hc])]
          cases hd : aheadS c b s.best
          · rw [List.filter_cons_of_neg (by simp [hd])]; exact this
          · rw [List.filter_cons_of_pos (by simp [hd]), List.length_cons]; omega
        · rw [List.filter_cons_of_pos (by simp [hc]), List.filter_cons_of_pos (by simp [mono c hc]), List.length_cons, List.length_cons]; omega
  unfold plcN
  have := key s.lines ha
  omega
def totN (s : Season) (x : Line) : Int := sumW (countedL x s.best)
theorem stand_l3 (s : Season) (P : List Int × Bool) (hP : P.1 = s.lines.map (plcN s)) (a : Line) (k : Nat) (hk : s.lines[k]? = some a) : ∀ (ys pre : List Line), s.lines = pre ++ ys → laws_FnStandings_l3 P k (totN s a) (ys.map (totN s)) pre.length = some (.ok ()) ∧ laws_FnStandings_l6 P k (totN s a) (ys.map (totN s)) pre.length = some (.ok ()) := by
  intro ys
  induction ys with
  | nil => intro pre _; rw [List.map_nil, laws_FnStandings_l3, laws_FnStandings_l6]; exact ⟨rfl, rfl⟩
  | cons y ys ih =>
    intro pre h
    have := ih (pre ++ [y]) (by rw [h]; simp)
    rw [show (pre ++ [y]).length = pre.length + 1 from by simp] at this
    rw [List.map_cons, laws_FnStandings_l3, laws_FnStandings_l6]
    have g1 : getI P.1 (k : Int) = some (plcN s a) := by rw [getI_nat, hP, List.getElem?_map, hk]; rfl
    have g2 : getI P.1 (pre.length : Int) = some (plcN s y) := by rw [getI_nat, hP, List.getElem?_map, h]; simp
    by_cases hc : totN s a > totN s y
    · rw [decide_eq_true hc]
      simp only [opt_t]
      rw [bnd g1, bnd g2, bnd g1, bnd g2, decide_eq_false (by have := plcN_lt (List.mem_of_getElem? hk) hc; omega), Bool.and_false, cond_false, cond_false]
      exact this
    · rw [decide_eq_false hc]
      simp only [opt_f, Option.bind_some, Bool.false_and, cond_false]
      exact this
theorem stand_l2 (s : Season) (P : List Int × Bool) (hP : P.1 = s.lines.map (plcN s)) : ∀ (ys pre : List Line), s.lines = pre ++ ys → laws_FnStandings_l2 P (s.lines.map (totN s)) (ys.map (totN s)) pre.length = some true ∧ laws_FnStandings_l5 P (s.lines.map (totN s)) (ys.map (totN s)) pre.length = some true := by
  intro ys
  induction ys with
  | nil => intro pre _; rw [List.map_nil, laws_FnStandings_l2, laws_FnStandings_l5]; exact ⟨rfl, rfl⟩
  | cons y ys ih =>
    intro pre h
    have := ih (pre ++ [y]) (by rw [h]; simp)
    rw [show (pre ++ [y]).length = pre.length + 1 from by simp] at this
    obtain ⟨g1, g2⟩ := stand_l3 s P hP y pre.length (by rw [h]; simp) s.lines [] rfl
    rw [List.map_cons, laws_FnStandings_l2, laws_FnStandings_l5, bnd (show laws_FnStandings_l3 P pre.length (totN s y) (s.lines.map (totN s)) 0 = _ from g1), bnd (show laws_FnStandings_l6 P pre.length (totN s y) (s.lines.map (totN s)) 0 = _ from g2)]
    exact this
theorem findL_mem {s : Season} (hs : s.lines.Pairwise (fun a b => a.skater < b.skater)) {x : Line} (hx : x ∈ s.lines) : findL s x.skater = some x := by
  unfold findL
  have : ∀ l : List Line, l.Pairwise (fun a b => a.skater < b.skater) → x ∈ l → l.find? (fun y => y.skater == x.skater) = some x := by
    intro l
    induction l with
    | nil => intro _ h; simp at h
    | cons y l ih =>
      intro hp hm
      have hp' := List.pairwise_cons.1 hp
      rcases List.mem_cons.1 hm with rfl | hm
      · rw [List.find?_cons_of_pos (by simp)]
      · rw [List.find?_cons_of_neg (by have := hp'.1 x hm; simp; omega)]
        exact ih hp'.2 hm
  exact this s.lines hs hx
theorem stand_l1 (s : Season) (hb : nSeason s ≤ 1048576) (hok : SeasonOk s) (P : List Int × Bool) (hP : P.1 = s.lines.map (plcN s)) (fuel : Nat) (hf : 1048576 < fuel) : ∀ (ys pre : List Line) (f : Nat), s.lines = pre ++ ys → ys.length < f →
    laws_FnStandings_l1 fuel s P f s.lines (pre.map (totN s)) s.lines (pre.length : Int) = some true ∧ laws_FnStandings_l4 fuel s P f s.lines (pre.map (totN s)) s.lines (pre.length : Int) = some true := by
  have h80 := lines_len hok
  intro ys
  induction ys with
  | nil =>
    intro pre f h hf'
    obtain ⟨f, rfl⟩ := Nat.exists_eq_succ_of_ne_zero (by omega : f ≠ 0)
    rw [List.append_nil] at h
    rw [laws_FnStandings_l1, laws_FnStandings_l4, h, decide_eq_false (by omega), cond_false, cond_false, ← h]
    exact stand_l2 s P hP s.lines [] rfl
  | cons y ys ih =>
    intro pre f h hf'
    obtain ⟨f, rfl⟩ := Nat.exists_eq_succ_of_ne_zero (by omega : f ≠ 0)
    simp only [List.length_cons] at hf'
    have hlen : s.lines.length = pre.length + (ys.length + 1) := by rw [h]; simp
    have hg : getI s.lines (pre.length : Int) = some y := getI_app (pre := pre) (y := y) (ys := ys) h rfl
    have hy : y ∈ s.lines := by rw [h]; simp
    have hp : getI P.1 (pre.length : Int) = some (plcN s y) := by rw [getI_nat, hP, List.getElem?_map, h]; simp
    have h1 := plcN_bd s y
    have h2 := plcN_len hy
    obtain ⟨t1, t2⟩ : spec_TotalOf_p fuel s y.skater = some (totN s y, true) ∧ impl_TotalOf_p fuel s y.skater = some (totN s y, true) := by
      rcases totalOf_case s hb y.skater fuel hf with ⟨x, hx, _, f1, f2, f3⟩ | ⟨f1, _⟩
      · rw [findL_mem hok.2.2.1 hy] at f1
        cases f1
        exact ⟨f2, f3⟩
      · have := f1 hok
        rw [findL_mem hok.2.2.1 hy] at this
        cases this
    have := ih (pre ++ [y]) f (by rw [h]; simp) (by omega)
    rw [List.map_append, List.map_cons, List.map_nil, show ((pre ++ [y]).length : Int) = (pre.length : Int) + 1 from by simp] at this
    rw [laws_FnStandings_l1, laws_FnStandings_l4, decide_eq_true (by omega), cond_true, cond_true, bnd hg, bnd hg]
    rw [show (Season.mk s.best s.lines) = s from rfl, bnd t2, bnd t2, bnd t1, bnd t1]
    simp only [Bool.not_true, Bool.not_false, bne_self_eq_false, Bool.or_false, Bool.false_or, opt_t]
    rw [bnd hp, bnd hp, decide_eq_false (by omega)]
    simp only [Bool.not_true, Bool.not_false, bne_self_eq_false, Bool.or_false, Bool.false_or, opt_t]
    rw [bnd hp, bnd hp, decide_eq_false (by omega), cond_false, cond_false, fits_of (by simp; omega), need_t, Option.bind_some, Option.bind_some, w64_in (by omega)]
    exact this

end Go.Proofs.Ytgcnndkbpmnmgaa

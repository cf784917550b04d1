/- Plain lemmas: what the functions compute is what the reference says, in plain Lean. No condition. -/
import Derived.Test.YtgcnndkbpmnmgaaPSeason5
set_option maxRecDepth 4000
set_option maxHeartbeats 1000000
set_option linter.unusedVariables false
set_option linter.unusedSimpArgs false
set_option linter.unusedSectionVars false

namespace Go.Proofs.Ytgcnndkbpmnmgaa
open Go.AM

theorem ms_l2 (most : Int) (l : List Int) (hb : l.length ≤ 1048576) : ∀ (ys pre : List Int) (fuel : Nat), ys.length < fuel → l = pre ++ ys → (∀ x ∈ pre, x ≥ most) →
    ∃ k : Nat, spec_MostStill_l2 most l fuel (pre.length : Int) = some (k : Int) ∧ k ≤ l.length ∧ (∀ x ∈ l.take k, x ≥ most) ∧ (∀ x, l[k]? = some x → x < most) := by
  intro ys
  induction ys with
  | nil =>
    intro pre fuel hf h1 h2
    obtain ⟨f, rfl⟩ := Nat.exists_eq_succ_of_ne_zero (by omega : fuel ≠ 0)
    rw [List.append_nil] at h1
    rw [spec_MostStill_l2, ← h1, decide_eq_false (by omega)]
    refine ⟨l.length, rfl, Nat.le_refl _, by rw [List.take_length, h1]; exact h2, by simp⟩
  | cons y ys ih =>
    intro pre fuel hf h1 h2
    obtain ⟨f, rfl⟩ := Nat.exists_eq_succ_of_ne_zero (by omega : fuel ≠ 0)
    have hk : pre.length < l.length := by rw [h1]; simp
    rw [spec_MostStill_l2, decide_eq_true (by omega), opt_t, bnd (getI_app h1 rfl), Bool.true_and]
    by_cases hy : y ≥ most
    · rw [decide_eq_true hy, cond_true, w64_in (by omega)]
      have := ih (pre ++ [y]) f (by simp at hf; omega) (by rw [h1]; simp) (by
        intro x hx; rcases List.mem_append.1 hx with hx | hx
        · exact h2 x hx
        · obtain rfl := List.mem_singleton.1 hx; exact hy)
      simpa using this
    · rw [decide_eq_false hy, cond_false]
      refine ⟨pre.length, rfl, by omega, by rw [h1]; simpa using h2, ?_⟩
      intro x hx
      rw [h1] at hx; simp at hx; subst hx; omega
theorem ms_l1 (most : Int) (fuel : Nat) (hf : 1048576 < fuel) : ∀ (e f : Nat) (l : List Int), e < f → l.length + e ≤ 1000 → l.Pairwise (· ≥ ·) → ∃ l' : List Int, spec_MostStill_l1 most fuel f (e : Int) l = some l' ∧ l'.Pairwise (· ≥ ·) ∧ l'.Perm (l ++ List.replicate e most) := by
  intro e
  induction e with
  | zero =>
    intro f l h1 h2 h3
    obtain ⟨f, rfl⟩ := Nat.exists_eq_succ_of_ne_zero (by omega : f ≠ 0)
    rw [spec_MostStill_l1]
    exact ⟨l, rfl, h3, by simp⟩
  | succ e ih =>
    intro f l h1 h2 h3
    obtain ⟨f, rfl⟩ := Nat.exists_eq_succ_of_ne_zero (by omega : f ≠ 0)
    obtain ⟨k, g1, g2, g3, g4⟩ := ms_l2 most l (by omega) l [] fuel (by omega) rfl (by simp)
    rw [spec_MostStill_l1, pos_d, cond_true, bnd (show spec_MostStill_l2 most l fuel 0 = some (k : Int) from g1), bnd (seInsert_eq l k most g2 (by omega))]
    simp only [Option.bind_some]
    rw [w64_pred (by omega)]
    have hs : (l.take k ++ most :: l.drop k).Pairwise (· ≥ ·) := by
      rw [← List.take_append_drop k l, List.pairwise_append] at h3
      rw [List.pairwise_append, List.pairwise_cons]
      have hd : ∀ x ∈ l.drop k, x < most := by
        cases hdr : l.drop k with
        | nil => simp
        | cons z zs =>
          have hz : l[k]? = some z := by
            have := congrArg (·[0]?) hdr
            simpa using this
          have hzl := g4 z hz
          intro x hx
          rcases List.mem_cons.1 hx with rfl | hx
          · exact hzl
          · have := h3.2.1
            rw [hdr, List.pairwise_cons] at this
            have := this.1 x hx; omega
      refine ⟨h3.1, ⟨fun x hx => by have := hd x hx; omega, h3.2.1⟩, fun a ha b hb => ?_⟩
      rcases List.mem_cons.1 hb with rfl | hb
      · exact g3 a ha
      · exact h3.2.2 a ha b hb
    have hl : (l.take k ++ most :: l.drop k).length = l.length + 1 := by simp; omega
    obtain ⟨l', k1, k2, k3⟩ := ih f (l.take k ++ most :: l.drop k) (by omega) (by omega) hs
    refine ⟨l', by simpa using k1, k2, k3.trans ?_⟩
    have p1 : (l.take k ++ most :: l.drop k).Perm (most :: l) := by
      have := List.perm_middle (a := most) (l₁ := l.take k) (l₂ := l.drop k)
      rwa [List.take_append_drop] at this
    have p2 := p1.append_right (List.replicate e most)
    refine p2.trans ?_
    rw [List.replicate_succ]
    exact (List.perm_middle (a := most) (l₁ := l) (l₂ := List.replicate e most)).symm
theorem ms_l3 (s : Season) (hbest : 1 ≤ s.best ∧ s.best ≤ 9) : ∀ (ys : List Int) (k : Nat) (v : Int), (∀ y ∈ ys, 0 ≤ y ∧ y ≤ 100000) → 0 ≤ v → v + 100000 * (ys.length : Int) ≤ 1000000000000 → spec_MostStill_l3 s ys k v = some (v + (ys.take (s.best.toNat - k)).sum, true) := by
  intro ys
  induction ys with
  | nil => intro k v _ _ _; rw [spec_MostStill_l3]; simp
  | cons y ys ih =>
    intro k v h1 h2 h3
    have hy := h1 y (by simp)
    simp only [List.length_cons, Int.natCast_add] at h3
    rw [spec_MostStill_l3]
    by_cases hk : (k : Int) < s.best
    · rw [decide_eq_true hk, cond_true, w64_in (by omega), ih (k + 1) (v + y) (fun x hx => h1 x (by simp [hx])) (by omega) (by omega)]
      have : s.best.toNat - k = (s.best.toNat - (k + 1)) + 1 := by omega
      rw [this, List.take_succ_cons, List.sum_cons]
      congr 2; omega
    · rw [decide_eq_false hk, cond_false, ih (k + 1) v (fun x hx => h1 x (by simp [hx])) h2 (by omega)]
      have e1 : s.best.toNat - k = 0 := by omega
      have e2 : s.best.toNat - (k + 1) = 0 := by omega
      rw [e1, e2]; simp
theorem ms_l2D (most : Int) (l : List Int) (hb : l.length ≤ 1048576) : ∀ (ys pre : List Int) (fuel : Nat), ys.length < fuel → l = pre ++ ys → (∀ x ∈ pre, x ≥ most) →
    ∃ k : Nat, spec_MostStill_l5 most l fuel (pre.length : Int) = some (k : Int) ∧ k ≤ l.length ∧ (∀ x ∈ l.take k, x ≥ most) ∧ (∀ x, l[k]? = some x → x < most) := by
  intro ys
  induction ys with
  | nil =>
    intro pre fuel hf h1 h2
    obtain ⟨f, rfl⟩ := Nat.exists_eq_succ_of_ne_zero (by omega : fuel ≠ 0)
    rw [List.append_nil] at h1
    rw [spec_MostStill_l5, ← h1, decide_eq_false (by omega)]
    refine ⟨l.length, rfl, Nat.le_refl _, by rw [List.take_length, h1]; exact h2, by simp⟩
  | cons y ys ih =>
    intro pre fuel hf h1 h2
    obtain ⟨f, rfl⟩ := Nat.exists_eq_succ_of_ne_zero (by omega : fuel ≠ 0)
    have hk : pre.length < l.length := by rw [h1]; simp
    rw [spec_MostStill_l5, decide_eq_true (by omega), opt_t, bnd (getI_app h1 rfl), Bool.true_and]
    by_cases hy : y ≥ most
    · rw [decide_eq_true hy, cond_true, w64_in (by omega)]
      have := ih (pre ++ [y]) f (by simp at hf; omega) (by rw [h1]; simp) (by
        intro x hx; rcases List.mem_append.1 hx with hx | hx
        · exact h2 x hx
        · obtain rfl := List.mem_singleton.1 hx; exact hy)
      simpa using this
    · rw [decide_eq_false hy, cond_false]
      refine ⟨pre.length, rfl, by omega, by rw [h1]; simpa using h2, ?_⟩
      intro x hx
      rw [h1] at hx; simp at hx; subst hx; omega
theorem ms_l1D (most : Int) (fuel : Nat) (hf : 1048576 < fuel) : ∀ (e f : Nat) (l : List Int), e < f → l.length + e ≤ 1000 → l.Pairwise (· ≥ ·) → ∃ l' : List Int, spec_MostStill_l4 most fuel f (e : Int) l = some l' ∧ l'.Pairwise (· ≥ ·) ∧ l'.Perm (l ++ List.replicate e most) := by
  intro e
  induction e with
  | zero =>
    intro f l h1 h2 h3
    obtain ⟨f, rfl⟩ := Nat.exists_eq_succ_of_ne_zero (by omega : f ≠ 0)
    rw [spec_MostStill_l4]
    exact ⟨l, rfl, h3, by simp⟩
  | succ e ih =>
    intro f l h1 h2 h3
    obtain ⟨f, rfl⟩ := Nat.exists_eq_succ_of_ne_zero (by omega : f ≠ 0)
    obtain ⟨k, g1, g2, g3, g4⟩ := ms_l2D most l (by omega) l [] fuel (by omega) rfl (by simp)
    rw [spec_MostStill_l4, pos_d, cond_true, bnd (show spec_MostStill_l5 most l fuel 0 = some (k : Int) from g1), bnd (seInsert_eq l k most g2 (by omega))]
    simp only [Option.bind_some]
    rw [w64_pred (by omega)]
    have hs : (l.take k ++ most :: l.drop k).Pairwise (· ≥ ·) := by
      rw [← List.take_append_drop k l, List.pairwise_append] at h3
      rw [List.pairwise_append, List.pairwise_cons]
      have hd : ∀ x ∈ l.drop k, x < most := by
        cases hdr : l.drop k with
        | nil => simp
        | cons z zs =>
          have hz : l[k]? = some z := by
            have := congrArg (·[0]?) hdr
            simpa using this
          have hzl := g4 z hz
          intro x hx
          rcases List.mem_cons.1 hx with rfl | hx
          · exact hzl
          · have := h3.2.1
            rw [hdr, List.pairwise_cons] at this
            have := this.1 x hx; omega
      refine ⟨h3.1, ⟨fun x hx => by have := hd x hx; omega, h3.2.1⟩, fun a ha b hb => ?_⟩
      rcases List.mem_cons.1 hb with rfl | hb
      · exact g3 a ha
      · exact h3.2.2 a ha b hb
    have hl : (l.take k ++ most :: l.drop k).length = l.length + 1 := by simp; omega
    obtain ⟨l', k1, k2, k3⟩ := ih f (l.take k ++ most :: l.drop k) (by omega) (by omega) hs
    refine ⟨l', by simpa using k1, k2, k3.trans ?_⟩
    have p1 : (l.take k ++ most :: l.drop k).Perm (most :: l) := by
      have := List.perm_middle (a := most) (l₁ := l.take k) (l₂ := l.drop k)
      rwa [List.take_append_drop] at this
    have p2 := p1.append_right (List.replicate e most)
    refine p2.trans ?_
    rw [List.replicate_succ]
    exact (List.perm_middle (a := most) (l₁ := l) (l₂ := List.replicate e most)).symm
theorem ms_l3D (s : Season) (hbest : 1 ≤ s.best ∧ s.best ≤ 9) : ∀ (ys : List Int) (k : Nat) (v : Int), (∀ y ∈ ys, 0 ≤ y ∧ y ≤ 100000) → 0 ≤ v → v + 100000 * (ys.length : Int) ≤ 1000000000000 → spec_MostStill_l6 s ys k v = some (v + (ys.take (s.best.toNat - k)).sum, true) := by
  intro ys
  induction ys with
  | nil => intro k v _ _ _; rw [spec_MostStill_l6]; simp
  | cons y ys ih =>
    intro k v h1 h2 h3
    have hy := h1 y (by simp)
    simp only [List.length_cons, Int.natCast_add] at h3
    rw [spec_MostStill_l6]
    by_cases hk : (k : Int) < s.best
    · rw [decide_eq_true hk, cond_true, w64_in (by omega), ih (k + 1) (v + y) (fun x hx => h1 x (by simp [hx])) (by omega) (by omega)]
      have : s.best.toNat - k = (s.best.toNat - (k + 1)) + 1 := by omega
      rw [this, List.take_succ_cons, List.sum_cons]
      congr 2; omega
    · rw [decide_eq_false hk, cond_false, ih (k + 1) v (fun x hx => h1 x (by simp [hx])) h2 (by omega)]
      have e1 : s.best.toNat - k = 0 := by omega
      have e2 : s.best.toNat - (k + 1) = 0 := by omega
      rw [e1, e2]; simp
theorem sumW_sum (l : List Int) : ∀ (v : Int), (∀ y ∈ l, 0 ≤ y ∧ y ≤ 100000) → 0 ≤ v → v + 100000 * (l.length : Int) ≤ 1000000000000 → l.foldl (fun v y => w64 (v + y)) v = v + l.sum := by
  induction l with
  | nil => intro v _ _ _; simp
  | cons y l ih =>
    intro v h1 h2 h3
    have hy := h1 y (by simp)
    simp only [List.length_cons, Int.natCast_add] at h3
    rw [List.foldl_cons, w64_in (by omega), ih (v + y) (fun x hx => h1 x (by simp [hx])) (by omega) (by omega), List.sum_cons]; omega
theorem impl_ms_l (s : Season) (hbest : 1 ≤ s.best ∧ s.best ≤ 9) (events most : Int) (he : 0 ≤ events ∧ events ≤ 20) (hm : 0 ≤ most ∧ most ≤ 100000) : ∀ (n fuel : Nat) (v : List Int) (i : Int), i + (n : Int) = events → 0 ≤ i → n < fuel → v.length + n ≤ 1000 → (∀ y ∈ v, 0 ≤ y ∧ y ≤ 100000) →
    impl_MostStill_l1 s events most fuel v i = some (((sortI (v ++ List.replicate n most)).drop ((v.length + n) - s.best.toNat)).sum, true) := by
  intro n
  induction n with
  | zero =>
    intro fuel v i h1 h2 h3 h4 h5
    obtain ⟨f, rfl⟩ := Nat.exists_eq_succ_of_ne_zero (by omega : fuel ≠ 0)
    rw [impl_MostStill_l1, decide_eq_false (by omega), cond_false]
    have hlen : (sortI v).length = v.length := by unfold sortI; exact List.length_mergeSort v
    have hmem : ∀ y ∈ sortI v, 0 ≤ y ∧ y ≤ 100000 := fun y hy => h5 y ((List.mergeSort_perm v _).mem_iff.1 hy)
    have hsort : slices_Sort_int_p v = some (sortI v) := by
      unfold slices_Sort_int_p
      rw [bnd (x := ()) (by rw [show Nat.blt v.length 4611686018427387904 = true from Nat.ble_eq_true_of_le (by omega)]; rfl)]
    rw [bnd hsort, w64_in (by omega), bnd (sliceLo_of (k := v.length - s.best.toNat) (by rw [hlen]; omega) (by omega)), bnd (sumInts_eq _)]
    have := sumW_sum ((sortI v).drop (v.length - s.best.toNat)) 0 (fun y hy => hmem y (List.mem_of_mem_drop hy)) (by omega) (by simp only [List.length_drop, hlen]; omega)
    unfold sumW
    rw [this]
    simp
  | succ n ih =>
    intro fuel v i h1 h2 h3 h4 h5
    obtain ⟨f, rfl⟩ := Nat.exists_eq_succ_of_ne_zero (by omega : fuel ≠ 0)
    rw [impl_MostStill_l1, decide_eq_true (by omega), cond_true, bnd (x := ()) (by rw [fits_of (by simp; omega)]; rfl), w64_in (by omega)]
    rw [ih f (v ++ [most]) (i + 1) (by omega) (by omega) (by omega) (by simp; omega) (by
      intro y hy; rcases List.mem_append.1 hy with hy | hy
      · exact h5 y hy
      · obtain rfl := List.mem_singleton.1 hy; exact hm)]
    have e1 : v ++ [most] ++ List.replicate n most = v ++ List.replicate (n + 1) most := by simp [List.replicate_succ]
    have e2 : (v ++ [most]).length + n = v.length + (n + 1) := by simp; omega
    rw [e1, e2]
theorem sum_ends {l m : List Int} (h1 : l.Pairwise (· ≥ ·)) (h2 : l.Perm m) (b : Nat) : (l.take b).sum = ((sortI m).drop (m.length - b)).sum := by
  have hs : (sortI m).Pairwise (· ≤ ·) := by
    have := List.pairwise_mergeSort (le := fun x y : Int => decide (x ≤ y)) (by intro a b c; simp; omega) (by intro a b; simp; omega) m
    exact this.imp fun h => by simpa using h
  have hl : l = (sortI m).reverse := by
    refine List.Perm.eq_of_pairwise (le := (· ≥ ·)) (fun a b _ _ h k => by omega) h1 ?_ (h2.trans ((List.mergeSort_perm m _).symm.trans (List.reverse_perm _).symm))
    rw [List.pairwise_reverse]; exact hs
  have hlen : (sortI m).length = m.length := by unfold sortI; exact List.length_mergeSort m
  rw [hl, List.take_reverse, List.sum_reverse, hlen]
theorem pts_desc {x : Line} (h : GoodE (lineEs x)) (hN : lineN x) : x.points.Pairwise (· ≥ ·) ∧ (∀ y ∈ x.points, 0 ≤ y ∧ y ≤ 100000) := by
  have hmap : (lineEs x).map Entry.points = x.points := by
    unfold lineEs
    rw [List.map_zipWith]
    have : ∀ (a b : List Int), b.length = a.length → List.zipWith (fun (_ p : Int) => p) a b = b := by
      intro a
      induction a with
      | nil => intro b h; rw [List.eq_nil_of_length_eq_zero h]; rfl
      | cons y a ih => intro b h; cases b with | nil => simp at h | cons z b => simp only [List.zipWith_cons_cons]; rw [ih b (by simpa using h)]
    exact this _ _ hN.1
  constructor
  · rw [← hmap, List.pairwise_map]
    have hsk : ∀ e ∈ lineEs x, e.skater = x.skater := fun e he => lineEs_sk he
    refine List.Pairwise.imp_of_mem (fun {a b} ha hb h => ?_) h.2.1
    have e1 := hsk a ha; have e2 := hsk b hb
    unfold ltE at h; omega
  · intro y hy
    rw [← hmap] at hy
    obtain ⟨e, he, rfl⟩ := List.mem_map.1 hy
    exact (h.1 e he).2.2
theorem same_MostStill (s : Season) (hb : nSeason s ≤ 1048576) (sk ev mo : Int) (fuel : Nat) (hf : 1048576 < fuel) : ∃ r, spec_MostStill_p fuel s sk ev mo = some r ∧ impl_MostStill_p fuel s sk ev mo = some r := by
  have hl : s.lines.length ≤ 1048576 := by unfold nSeason nLineS at hb; omega
  obtain ⟨b, g1, g2⟩ := ret_seGood s hb
  obtain ⟨b', g1', g2'⟩ := ret_impl_IsSeason s hb fuel hf
  obtain rfl : b = b' := Bool.eq_iff_iff.2 (g2.trans g2'.symm)
  unfold spec_MostStill_p impl_MostStill_p
  rw [bnd g1, bnd g1']
  cases b
  · exact ⟨_, rfl, rfl⟩
  have hok := g2.1 rfl
  obtain ⟨b2, a1, a2⟩ := ret_l1In sk 1 999
  obtain ⟨b2', a1', a2'⟩ := ret_isSkater sk
  obtain rfl : b2 = b2' := Bool.eq_iff_iff.2 (a2.trans a2'.symm)
  simp only [Bool.not_true, Bool.not_false, opt_t, Bool.false_or]
  rw [bnd a1, bnd a1']
  cases b2
  · exact ⟨_, rfl, rfl⟩
  obtain ⟨b3, c1, c2⟩ := ret_l1In ev 0 20
  obtain ⟨b3', c1', c2'⟩ := ret_within ev 0 20
  obtain rfl : b3 = b3' := Bool.eq_iff_iff.2 (c2.trans c2'.symm)
  simp only [Bool.not_true, Bool.not_false, opt_t, Bool.false_or]
  rw [bnd c1, bnd c1']
  cases b3
  · exact ⟨_, rfl, rfl⟩
  obtain ⟨b4, d1, d2⟩ := ret_l1In mo 0 100000
  obtain ⟨b4', d1', d2'⟩ := ret_within mo 0 100000
  obtain rfl : b4 = b4' := Bool.eq_iff_iff.2 (d2.trans d2'.symm)
  simp only [Bool.not_true, Bool.not_false, opt_t, Bool.false_or]
  rw [bnd d1, bnd d1']
  cases b4
  · exact ⟨_, rfl, rfl⟩
  simp only [Bool.not_true, cond_false]
  have hev := c2.1 rfl
  have hmo := d2.1 rfl
  obtain ⟨e, rfl⟩ : ∃ e : Nat, ev = (e : Int) := ⟨ev.toNat, by omega⟩
  rcases seHas_eq s sk hl hok.2.2.1 fuel hf with ⟨k, x, e1, e2, e3, e4, _⟩ | ⟨e1, e2, _⟩
  · have hxm : x ∈ s.lines := List.mem_of_getElem? e2
    have hN := hok.2.1 x hxm
    have hG := (good_flat hok.2.2.1).2 hok.2.2.2.1 x hxm
    obtain ⟨hp1, hp2⟩ := pts_desc hG hN
    have hlen : x.points.length ≤ 80 := by
      have := hok.2.2.2.2
      unfold seasonEs at this
      rw [flat_len_lines hok.2.1] at this
      have := le_sum hxm (fun x => x.events.length)
      have := hN.1
      omega
    obtain ⟨l', k1, k2, k3⟩ := ms_l1 mo fuel hf e fuel x.points (by omega) (by omega) hp1
    have hl' : l'.length = x.points.length + e := by rw [k3.length_eq]; simp
    have hm' : ∀ y ∈ l', 0 ≤ y ∧ y ≤ 100000 := by
      intro y hy
      rcases List.mem_append.1 (k3.mem_iff.1 hy) with h | h
      · exact hp2 y h
      · rw [List.eq_of_mem_replicate h]; exact hmo
    refine ⟨((l'.take s.best.toNat).sum, true), ?_, ?_⟩
    · rw [bnd e1, decide_eq_true (by omega), cond_true, bnd (by rw [getI_nat]; exact e2), bnd (own_eq _ (by omega)), bnd k1, ms_l3 s hok.1 l' 0 0 hm' (by omega) (by omega)]
      simp
    · rw [bnd (lineOf_eq s sk), e4]
      simp only [Option.getD_some]
      rw [bnd (copyInts_eq _ (by omega)), impl_ms_l s hok.1 (e : Int) mo hev hmo e fuel x.points 0 (by omega) (by omega) (by omega) (by omega) hp2, sum_ends k2 k3]
      simp
  · obtain ⟨l', k1, k2, k3⟩ := ms_l1D mo fuel hf e fuel [] (by omega) (by simp; omega) (by simp)
    have hl' : l'.length = e := by rw [k3.length_eq]; simp
    have hm' : ∀ y ∈ l', 0 ≤ y ∧ y ≤ 100000 := by
      intro y hy
      rcases List.mem_append.1 (k3.mem_iff.1 hy) with h | h
      · simp at h
      · rw [List.eq_of_mem_replicate h]; exact hmo
    refine ⟨((l'.take s.best.toNat).sum, true), ?_, ?_⟩
    · rw [bnd e1]
      simp only [show decide ((-1 : Int) ≥ 0) = false from rfl, cond_false]
      rw [bnd k1, ms_l3D s hok.1 l' 0 0 hm' (by omega) (by omega)]
      simp
    · rw [bnd (lineOf_eq s sk), e2]
      simp only [Option.getD_none]
      rw [bnd (copyInts_eq _ (by simp)), impl_ms_l s hok.1 (e : Int) mo hev hmo e fuel [] 0 (by omega) (by omega) (by omega) (by simp; omega) (by simp), sum_ends k2 k3]
      simp

end Go.Proofs.Ytgcnndkbpmnmgaa

/- Plain lemmas: what the functions compute is what the reference says, in plain Lean. No condition. -/
import Derived.Test.YtegdphhfimaieacGreatPDraw5
set_option maxRecDepth 4000
set_option maxHeartbeats 1000000
set_option linter.unusedVariables false
set_option linter.unusedSimpArgs false
set_option linter.unusedSectionVars false

namespace Go.Proofs.YtegdphhfimaieacGreat
open Go.AM

def offOk (x : Official) : Prop := (1 ≤ x.number ∧ x.number ≤ 999) ∧ (1 ≤ x.club ∧ x.club ≤ 20) ∧ (1 ≤ x.level ∧ x.level ≤ 3)
def OffOk (l : List Official) : Prop := (∀ x ∈ l, offOk x) ∧ l.Pairwise (fun a b => a.number ≠ b.number) ∧ l.length ≤ 24
theorem off_snoc {l : List Official} {y : Official} (h : l.Pairwise (fun a b => a.number ≠ b.number)) (hy : ∀ x ∈ l, x.number ≠ y.number) : (l ++ [y]).Pairwise (fun a b => a.number ≠ b.number) := by
  rw [List.pairwise_append]
  exact ⟨h, List.pairwise_singleton _ _, fun a ha b hb => by obtain rfl := List.mem_singleton.1 hb; exact hy a ha⟩
theorem ret_paOfficials_l (l : List Official) (hl : l.length ≤ 1048576) : ∀ (ys pre : List Official), l = pre ++ ys → (∀ s ∈ pre, offOk s) → pre.Pairwise (fun a b => a.number ≠ b.number) →
    Ret (spec_paOfficials_l1 l ys pre.length (pre.map fun x => x.number)) (OffOk l) := by
  intro ys
  induction ys with
  | nil =>
    intro pre h1 h2 h3
    rw [List.append_nil] at h1
    rw [spec_paOfficials_l1]
    refine .some ?_
    unfold OffOk
    rw [decide_eq_true_eq, h1]
    exact ⟨fun h => ⟨h2, h3, by omega⟩, fun h => by have := h.2.2; omega⟩
  | cons y ys ih =>
    intro pre h1 h2 h3
    have hy : y ∈ l := by rw [h1]; simp
    have hpre : pre.length ≤ 1048575 := by rw [h1] at hl; simp at hl; omega
    rw [spec_paOfficials_l1]
    refine (ret_l1In y.number 1 999).bindR (fun h => ?_) (fun h => .f fun k => h (k.1 y hy).1)
    simp only [Bool.not_true, Bool.not_false, opt_t, Bool.false_or]
    refine (ret_l1Has (pre.map fun x : Official => x.number) y.number).bindR (fun hin => .f fun k => ?_) (fun hin => ?_)
    · have := k.2.1
      rw [h1, List.pairwise_append] at this
      obtain ⟨x, hx, e⟩ := List.mem_map.1 hin
      exact this.2.2 x hx y (by simp) e
    · simp only [Bool.not_true, Bool.not_false, opt_t, Bool.false_or]
      refine (ret_l1In y.club 1 20).bindR (fun h4 => ?_) (fun h4 => .f fun k => h4 (k.1 y hy).2.1)
      simp only [Bool.not_true, Bool.not_false, opt_t, Bool.false_or]
      refine (ret_l1In y.level 1 3).bindR (fun h5 => ?_) (fun h5 => .f fun k => h5 (k.1 y hy).2.2)
      simp only [Bool.not_true, cond_false]
      rw [fits_of (by simp; omega), need_t, Option.bind_some]
      have := ih (pre ++ [y]) (by rw [h1]; simp) (by
        intro n hn; rcases List.mem_append.1 hn with hn | hn
        · exact h2 n hn
        · obtain rfl := List.mem_singleton.1 hn; exact ⟨h, h4, h5⟩) (off_snoc h3 fun x hx e => hin (List.mem_map.2 ⟨x, hx, e⟩))
      simpa using this
theorem ret_paOfficials (l : List Official) (hl : l.length ≤ 1048576) : Ret (spec_paOfficials_p l) (OffOk l) := ret_paOfficials_l l hl l [] rfl (by simp) List.Pairwise.nil
theorem idxOff (f : Official → Option Bool) (p : Official → Prop) : ∀ (l : List Official) (k : Nat), (∀ x ∈ l, Ret (f x) (p x)) → ∃ i, slices_IndexFunc_Official_l1 f l k = some i ∧ (i ≥ 0 ↔ ∃ x ∈ l, p x) := by
  intro l
  induction l with
  | nil => intro k _; exact ⟨-1, by rw [slices_IndexFunc_Official_l1], by simp⟩
  | cons y l ih =>
    intro k h
    obtain ⟨b, h1, h2⟩ := h y (by simp)
    rw [slices_IndexFunc_Official_l1, bnd h1]
    cases b
    · obtain ⟨i, i1, i2⟩ := ih (k + 1) fun x hx => h x (by simp [hx])
      refine ⟨i, i1, i2.trans ⟨fun ⟨x, hx, hp⟩ => ⟨x, by simp [hx], hp⟩, fun ⟨x, hx, hp⟩ => ?_⟩⟩
      rcases List.mem_cons.1 hx with rfl | hx
      · exact absurd (h2.2 hp) (by simp)
      · exact ⟨x, hx, hp⟩
    · exact ⟨_, rfl, ⟨by exact fun _ => ⟨y, by simp, h2.1 rfl⟩, by intro _; omega⟩⟩
theorem ret_AreOfficials_l (l : List Official) (hl : l.length ≤ 1048576) : ∀ (ys pre : List Official), l = pre ++ ys → (∀ s ∈ pre, offOk s) → pre.Pairwise (fun a b => a.number ≠ b.number) → Ret (impl_AreOfficials_l1 l ys pre.length) (OffOk l) := by
  intro ys
  induction ys with
  | nil =>
    intro pre h1 h2 h3
    rw [List.append_nil] at h1
    rw [impl_AreOfficials_l1]
    refine .some ?_
    unfold OffOk
    rw [decide_eq_true_eq, h1]
    exact ⟨fun h => ⟨h2, h3, by omega⟩, fun h => by have := h.2.2; omega⟩
  | cons y ys ih =>
    intro pre h1 h2 h3
    have hy : y ∈ l := by rw [h1]; simp
    rw [impl_AreOfficials_l1]
    refine (ret_isSkater y.number).bindR (fun h => ?_) (fun h => .f fun k => h (k.1 y hy).1)
    simp only [Bool.not_true, Bool.not_false, opt_t, Bool.false_or]
    refine (ret_within y.club 1 20).bindR (fun h4 => ?_) (fun h4 => .f fun k => h4 (k.1 y hy).2.1)
    simp only [Bool.not_true, Bool.not_false, opt_t, Bool.false_or]
    refine (ret_within y.level 1 3).bindR (fun h5 => ?_) (fun h5 => .f fun k => h5 (k.1 y hy).2.2)
    simp only [Bool.not_true, cond_false]
    rw [bnd (show sliceHi l (pre.length : Int) = some pre from by rw [h1]; exact sliceHi_pre pre (y :: ys) rfl)]
    unfold slices_ContainsFunc_Official_p slices_IndexFunc_Official_p
    obtain ⟨i, i1, i2⟩ := idxOff (fun a0 => impl_AreOfficials_c1_p a0 y) (fun x => x.number = y.number) pre 0 fun x _ => .some (by simp)
    rw [bnd i1, Option.bind_some]
    by_cases hi : i ≥ 0
    · rw [decide_eq_true hi]
      refine .f fun k => ?_
      obtain ⟨x, hx, e⟩ := i2.1 hi
      have := k.2.1
      rw [h1, List.pairwise_append] at this
      exact this.2.2 x hx y (by simp) e
    · rw [decide_eq_false hi, cond_false]
      have := ih (pre ++ [y]) (by rw [h1]; simp) (by
        intro n hn; rcases List.mem_append.1 hn with hn | hn
        · exact h2 n hn
        · obtain rfl := List.mem_singleton.1 hn; exact ⟨h, h4, h5⟩) (off_snoc h3 fun x hx e => hi (i2.2 ⟨x, hx, e⟩))
      simpa using this
theorem ret_AreOfficials (l : List Official) (hl : l.length ≤ 1048576) : Ret (impl_AreOfficials_p l) (OffOk l) := ret_AreOfficials_l l hl l [] rfl (by simp) List.Pairwise.nil
theorem ret_l1All (lo hi : Int) : ∀ (l : List Int) (k : Nat), Ret (spec_l1All_l1 lo hi l k) (∀ n ∈ l, lo ≤ n ∧ n ≤ hi) := by
  intro l
  induction l with
  | nil => intro k; rw [spec_l1All_l1]; exact .t (by simp)
  | cons y l ih =>
    intro k
    rw [spec_l1All_l1]
    refine (ret_l1In y lo hi).bindR (fun h => ?_) (fun h => .f fun k => h (k y (by simp)))
    simp only [Bool.not_true, cond_false]
    refine (ih (k + 1)).iff ⟨fun q n hn => ?_, fun q n hn => q n (by simp [hn])⟩
    rcases List.mem_cons.1 hn with rfl | hn
    · exact h
    · exact q n hn
theorem ret_dwKeys (K : List Int) : Ret (spec_dwKeys_p K 6) (K.length ≤ 6 ∧ keyOk K) := by
  unfold spec_dwKeys_p
  by_cases h : (K.length : Int) ≤ 6
  · rw [decide_eq_true h]
    simp only [opt_t, Bool.true_and]
    obtain ⟨b, h1, h2⟩ := ret_l1All 0 1000000000 K 0
    rw [show spec_l1All_p K 0 1000000000 = some b from h1, Option.bind_some]
    exact .some (h2.trans ⟨fun k => ⟨by omega, k⟩, fun k => k.2⟩)
  · rw [decide_eq_false h]
    exact .f fun k => by have := k.1; omega
theorem ret_areKeys (K : List Int) : Ret (impl_areKeys_p K 6) (K.length ≤ 6 ∧ keyOk K) := by
  unfold impl_areKeys_p
  by_cases h : (K.length : Int) ≤ 6
  · rw [decide_eq_true h]
    simp only [opt_t, Bool.true_and]
    obtain ⟨b, h1, h2⟩ := ret_allWithin 0 1000000000 K 0
    rw [show impl_allWithin_p K 0 1000000000 = some b from h1, Option.bind_some]
    exact .some (h2.trans ⟨fun k => ⟨by omega, k⟩, fun k => k.2⟩)
  · rw [decide_eq_false h]
    exact .f fun k => by have := k.1; omega
theorem sort_of {r xs : List Int} (h : r.Pairwise (· < ·)) (hn : xs.Nodup) (hm : ∀ x, x ∈ r ↔ x ∈ xs) : r = sortI xs :=
  lt_mem_eq h (sortI_lt hn) fun x => by rw [hm, (sortI_perm xs).mem_iff]
theorem nums_nodup {l : List Official} (h : l.Pairwise (fun a b => a.number ≠ b.number)) : (l.map fun x => x.number).Nodup := by
  unfold List.Nodup; rw [List.pairwise_map]; exact h
theorem slSort_eq (l : List Int) (h : l.length ≤ 1048576) : slices_Sort_int_p l = some (sortI l) := by
  unfold slices_Sort_int_p
  rw [show Nat.blt l.length 4611686018427387904 = true from by rw [Nat.blt_eq]; omega, need_t, Option.bind_some]
def panK (o : List Int) (n : Nat) (k : Nat) : List Int := sortI ((o.drop (k * n)).take n)
theorem spread_l3 (n : Int) (fuel : Nat) (hf : 1048576 < fuel) (v259 : List Int) (v260 : List (List Int)) : ∀ (ys : List Int) (k : Nat) (acc : List Int), acc.Pairwise (· < ·) → acc.length + ys.length ≤ 999 →
    ∃ r, spec_SpreadPanels_l3 n fuel v259 v260 ys k acc = spec_SpreadPanels_l3 n fuel v259 v260 [] 0 r ∧ r.Pairwise (· < ·) ∧ (∀ x, x ∈ r ↔ x ∈ acc ∨ x ∈ ys) ∧ r.length ≤ acc.length + ys.length := by
  intro ys
  induction ys with
  | nil => intro k acc h _; exact ⟨acc, by rw [spec_SpreadPanels_l3, spec_SpreadPanels_l3], h, by simp, by simp⟩
  | cons y ys ih =>
    intro k acc h hb
    simp only [List.length_cons] at hb
    obtain ⟨g, g1, g2, g3, g4⟩ := put_eq acc y h (by omega) fuel hf
    obtain ⟨r, r1, r2, r3, r4⟩ := ih (k + 1) g g2 (by omega)
    refine ⟨r, ?_, r2, fun x => ?_, by simp only [List.length_cons]; omega⟩
    · have hu : spec_SpreadPanels_l3 n fuel v259 v260 (y :: ys) k acc = spec_SpreadPanels_l3 n fuel v259 v260 ys (k + 1) g := by rw [spec_SpreadPanels_l3, bnd g1]
      rw [hu, r1]
    · rw [r3, g3, List.mem_cons]; constructor
      · rintro ((a | a) | a)
        · exact .inl a
        · exact .inr (.inl a)
        · exact .inr (.inr a)
      · rintro (a | a | a)
        · exact .inl (.inl a)
        · exact .inl (.inr a)
        · exact .inr a
theorem spread_l2 (n : Nat) (fuel : Nat) (hf : 1048576 < fuel) (hn : n ≤ 9) (o : List Int) (ho : o.Nodup) (hol : o.length ≤ 24) (P : Nat) (hP : P ≤ 4) (hle : n * P ≤ o.length) : ∀ (m j : Nat) (fu : Nat), j + m = P → m < fu →
    spec_SpreadPanels_l2 (n : Int) fuel fu (m : Int) (o.drop (j * n)) ((List.range j).map (panK o n)) = some ((List.range P).map (panK o n)) := by
  intro m
  induction m with
  | zero =>
    intro j fu h1 h2
    obtain ⟨f, rfl⟩ := Nat.exists_eq_succ_of_ne_zero (by omega : fu ≠ 0)
    obtain rfl : j = P := by omega
    rw [spec_SpreadPanels_l2, decide_eq_false (by omega), cond_false]
  | succ m ih =>
    intro j fu h1 h2
    obtain ⟨f, rfl⟩ := Nat.exists_eq_succ_of_ne_zero (by omega : fu ≠ 0)
    have hj : (j + 1) * n ≤ o.length := by
      have : (j + 1) * n ≤ P * n := Nat.mul_le_mul_right n (by omega)
      rw [Nat.mul_comm P n] at this; omega
    rw [Nat.succ_mul] at hj
    rw [spec_SpreadPanels_l2, decide_eq_true (by omega), cond_true]
    have hlen : (o.drop (j * n)).length = o.length - j * n := List.length_drop ..
    rw [bnd (sliceHi_of (l := o.drop (j * n)) (k := n) rfl (by omega))]
    obtain ⟨r, r1, r2, r3, r4⟩ := spread_l3 (n : Int) fuel hf (o.drop (j * n)) ((List.range j).map (panK o n)) ((o.drop (j * n)).take n) 0 [] List.Pairwise.nil (by simp; omega)
    have hr : r = panK o n j := sort_of r2 ((ho.sublist (List.drop_sublist _ _)).sublist (List.take_sublist _ _)) (by intro x; rw [r3]; simp)
    rw [r1, spec_SpreadPanels_l3, fits_of (by simp; omega), need_t, Option.bind_some, bnd (sliceLo_of (l := o.drop (j * n)) (k := n) rfl (by omega)), Option.bind_some]
    dsimp only
    rw [hr, w64_in (by omega), List.drop_drop, show ((m + 1 : Nat) : Int) - 1 = (m : Int) from by omega]
    have e1 : (List.range j).map (panK o n) ++ [panK o n j] = (List.range (j + 1)).map (panK o n) := by rw [List.range_succ, List.map_append]; rfl
    have e2 : j * n + n = (j + 1) * n := by rw [Nat.succ_mul]
    rw [e1, e2]
    exact ih (j + 1) f (by omega) (by omega)
theorem spreadI_l2 (n : Nat) (hn : n ≤ 9) (o : List Int) (hol : o.length ≤ 24) (P : Nat) (hP : P ≤ 4) (hle : n * P ≤ o.length) : ∀ (m j : Nat) (fu : Nat), j + m = P → m < fu →
    impl_SpreadPanels_l2 (n : Int) (P : Int) fu o ((List.range j).map (panK o n)) (j : Int) = some ((List.range P).map (panK o n), true) := by
  intro m
  induction m with
  | zero =>
    intro j fu h1 h2
    obtain ⟨f, rfl⟩ := Nat.exists_eq_succ_of_ne_zero (by omega : fu ≠ 0)
    obtain rfl : j = P := by omega
    rw [impl_SpreadPanels_l2, decide_eq_false (by omega), cond_false]
  | succ m ih =>
    intro j fu h1 h2
    obtain ⟨f, rfl⟩ := Nat.exists_eq_succ_of_ne_zero (by omega : fu ≠ 0)
    have hj : (j + 1) * n ≤ o.length := by
      have : (j + 1) * n ≤ P * n := Nat.mul_le_mul_right n (by omega)
      rw [Nat.mul_comm P n] at this; omega
    rw [Nat.succ_mul] at hj
    rw [impl_SpreadPanels_l2, decide_eq_true (by omega), cond_true]
    have hj2 : ((j : Int) * (n : Int)) = ((j * n : Nat) : Int) := by rw [Int.natCast_mul]
    rw [hj2, w64_in (n := ((j * n : Nat) : Int)) (by omega), w64_in (by omega)]
    have hs : sliceLH o ((j * n : Nat) : Int) (((j * n : Nat) : Int) + (n : Int)) = some ((o.drop (j * n)).take n) := by
      unfold sliceLH
      rw [if_pos (by omega)]
      congr 1
      rw [show (((j * n : Nat) : Int) + (n : Int)).toNat = j * n + n from by omega, show (((j * n : Nat) : Int)).toNat = j * n from by omega]
      rw [List.drop_take]
      congr 1; omega
    rw [bnd hs, bnd (sortedInts_eq _ (by simp; omega)), fits_of (by simp; omega), need_t, Option.bind_some, w64_in (by omega)]
    have e1 : (List.range j).map (panK o n) ++ [sortI ((o.drop (j * n)).take n)] = (List.range (j + 1)).map (panK o n) := by rw [List.range_succ, List.map_append]; rfl
    rw [e1]
    have := ih (j + 1) f (by omega) (by omega)
    rw [show (((j + 1 : Nat) : Int)) = (j : Int) + 1 from by omega] at this
    exact this
theorem spread_l1 (K : List Int) (n p : Int) (fuel : Nat) (hf : 1048576 < fuel) : ∀ (ys : List Official) (k : Nat) (acc : List Int), acc.Pairwise (· < ·) → acc.length + ys.length ≤ 999 →
    ∃ r, spec_SpreadPanels_l1 K n p fuel ys k acc = spec_SpreadPanels_l1 K n p fuel [] 0 r ∧ r.Pairwise (· < ·) ∧ (∀ x, x ∈ r ↔ x ∈ acc ∨ x ∈ ys.map fun y => y.number) := by
  intro ys
  induction ys with
  | nil => intro k acc h _; exact ⟨acc, by rw [spec_SpreadPanels_l1, spec_SpreadPanels_l1], h, by simp⟩
  | cons y ys ih =>
    intro k acc h hb
    simp only [List.length_cons] at hb
    obtain ⟨g, g1, g2, g3, g4⟩ := put_eq acc y.number h (by omega) fuel hf
    obtain ⟨r, r1, r2, r3⟩ := ih (k + 1) g g2 (by omega)
    refine ⟨r, ?_, r2, fun x => ?_⟩
    · have hu : spec_SpreadPanels_l1 K n p fuel (y :: ys) k acc = spec_SpreadPanels_l1 K n p fuel ys (k + 1) g := by rw [spec_SpreadPanels_l1, bnd g1]
      rw [hu, r1]
    · rw [r3, g3, List.map_cons, List.mem_cons]; constructor
      · rintro ((a | a) | a)
        · exact .inl a
        · exact .inr (.inl a)
        · exact .inr (.inr a)
      · rintro (a | a | a)
        · exact .inl (.inl a)
        · exact .inl (.inr a)
        · exact .inr a
theorem spreadI_l1 (K : List Int) (n p : Int) (fuel : Nat) : ∀ (ys : List Official) (k : Nat) (acc : List Int), acc.length + ys.length ≤ 1000 → impl_SpreadPanels_l1 K n p fuel ys k acc = impl_SpreadPanels_l1 K n p fuel [] 0 (acc ++ ys.map fun y => y.number) := by
  intro ys
  induction ys with
  | nil => intro k acc _; rw [impl_SpreadPanels_l1, impl_SpreadPanels_l1]; simp
  | cons y ys ih =>
    intro k acc h
    simp only [List.length_cons] at h
    have hu : impl_SpreadPanels_l1 K n p fuel (y :: ys) k acc = impl_SpreadPanels_l1 K n p fuel ys (k + 1) (acc ++ [y.number]) := by
      rw [impl_SpreadPanels_l1, fits_of (by simp; omega), need_t, Option.bind_some]
    rw [hu, ih _ _ (by simp; omega)]
    simp
theorem same_SpreadPanels (K : List Int) (l : List Official) (hl : l.length ≤ 1048576) (n p : Int) (fuel : Nat) (hf : 1048576 < fuel) : ∃ r : List (List Int) × Bool, spec_SpreadPanels_p fuel K l n p = some r ∧ impl_SpreadPanels_p fuel K l n p = some r ∧ r.1.length ≤ 4 ∧ ∀ z ∈ r.1, z.length ≤ 9 := by
  unfold spec_SpreadPanels_p impl_SpreadPanels_p impl_isPanelSize_p spec_paMost_p
  obtain ⟨b, a1, a2⟩ := ret_dwKeys K
  obtain ⟨b', a3, a4⟩ := ret_areKeys K
  obtain rfl : b = b' := Bool.eq_iff_iff.2 (a2.trans a4.symm)
  rw [bnd a1, bnd a3]
  cases b
  · exact ⟨_, rfl, rfl, by simp, by simp⟩
  simp only [Bool.not_true, Bool.not_false, opt_t, Bool.false_or]
  obtain ⟨b, c1, c2⟩ := ret_paOfficials l hl
  obtain ⟨b', c3, c4⟩ := ret_AreOfficials l hl
  obtain rfl : b = b' := Bool.eq_iff_iff.2 (c2.trans c4.symm)
  rw [bnd c1, bnd c3]
  cases b
  · exact ⟨_, rfl, rfl, by simp, by simp⟩
  simp only [Bool.not_true, Bool.not_false, opt_t, Bool.false_or]
  obtain ⟨b, d1, d2⟩ := ret_l1In n 1 9
  obtain ⟨b', d3, d4⟩ := ret_within n 1 9
  obtain rfl : b = b' := Bool.eq_iff_iff.2 (d2.trans d4.symm)
  rw [d1, d3]
  simp only [Option.bind_some]
  cases b
  · exact ⟨_, rfl, rfl, by simp, by simp⟩
  simp only [Bool.not_true, Bool.not_false, opt_t, Bool.false_or]
  obtain ⟨b, e1, e2⟩ := ret_l1In p 1 4
  obtain ⟨b', e3, e4⟩ := ret_within p 1 4
  obtain rfl : b = b' := Bool.eq_iff_iff.2 (e2.trans e4.symm)
  rw [bnd e1, bnd e3]
  cases b
  · exact ⟨_, rfl, rfl, by simp, by simp⟩
  simp only [Bool.not_true, Bool.false_or]
  have hK := a2.1 rfl
  have hO := c2.1 rfl
  have hn := d2.1 rfl
  have hp := e2.1 rfl
  obtain ⟨N, rfl⟩ : ∃ N : Nat, n = (N : Int) := ⟨n.toNat, by omega⟩
  obtain ⟨Q, rfl⟩ : ∃ Q : Nat, p = (Q : Int) := ⟨p.toNat, by omega⟩
  have hNQ : (N : Int) * (Q : Int) = ((N * Q : Nat) : Int) := by rw [Int.natCast_mul]
  have hNQ2 : N * Q ≤ 36 := by
    have := Nat.mul_le_mul (show N ≤ 9 by omega) (show Q ≤ 4 by omega); omega
  rw [hNQ, w64_in (by omega)]
  by_cases hlt : ((N * Q : Nat) : Int) > (l.length : Int)
  · rw [decide_eq_true hlt]
    exact ⟨_, rfl, rfl, by simp, by simp⟩
  rw [decide_eq_false hlt, cond_false, cond_false]
  have h24 := hO.2.2
  have hnd := nums_nodup hO.2.1
  obtain ⟨r, r1, r2, r3⟩ := spread_l1 K N Q fuel hf l 0 [] List.Pairwise.nil (by simp; omega)
  have hr : r = sortI (l.map fun x => x.number) := sort_of r2 hnd (by intro x; rw [r3]; simp)
  have hrl : r.length = l.length := by rw [hr, (sortI_perm _).length_eq, List.length_map]
  rw [r1, spec_SpreadPanels_l1, spreadI_l1 K N Q fuel l 0 [] (by simp; omega), impl_SpreadPanels_l1, List.nil_append, bnd (slSort_eq _ (by simp; omega)), ← hr]
  rw [bnd (dwNumbers_eq K r hK.2 (by omega) (by omega) fuel hf), bnd (shuffledNumbers_eq K r hK.2 (by omega) (by omega) fuel hf)]
  have hperm := numsK_perm K r hK.2 (by omega) (by omega)
  have hlo : (numsK K r).length = l.length := by rw [hperm.length_eq, hrl]
  have hndo : (numsK K r).Nodup := hperm.nodup_iff.2 (r2.imp fun h => by omega)
  have s1 := spread_l2 N fuel hf (by omega) (numsK K r) hndo (by omega) Q (by omega) (by omega) Q 0 fuel (by omega) (by omega)
  have s2 := spreadI_l2 N (by omega) (numsK K r) (by omega) Q (by omega) (by omega) Q 0 fuel (by omega) (by omega)
  rw [Nat.zero_mul, List.drop_zero] at s1
  rw [bnd (show spec_SpreadPanels_l2 (N : Int) fuel fuel (Q : Int) (numsK K r) [] = _ from s1)]
  refine ⟨_, rfl, s2, by simp; omega, fun z hz => ?_⟩
  obtain ⟨j, _, rfl⟩ := List.mem_map.1 hz
  unfold panK
  rw [(sortI_perm _).length_eq, List.length_take]; omega

end Go.Proofs.YtegdphhfimaieacGreat

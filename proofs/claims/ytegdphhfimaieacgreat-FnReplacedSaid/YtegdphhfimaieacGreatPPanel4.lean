/- Plain lemmas: what the functions compute is what the reference says, in plain Lean. No condition. -/
import Derived.Test.YtegdphhfimaieacGreatPCount3
set_option maxRecDepth 4000
set_option maxHeartbeats 1000000
set_option linter.unusedVariables false
set_option linter.unusedSimpArgs false
set_option linter.unusedSectionVars false

namespace Go.Proofs.YtegdphhfimaieacGreat
open Go.AM

theorem cntC_perm {l : List Official} {p q : List Int} (h : p.Perm q) (c : Int) : cntC l p c = cntC l q c := (h.filter _).length_eq
theorem panelOf_in {l : List Official} (h : OffOk l) (clubs : List Int) (level most : Int) (N : Nat) (fuel : Nat) (hf : 1048576 < fuel) : ∀ (ys : List Int) (k : Nat) (v A B : List Int), (∀ x ∈ ys, x ∈ eliK clubs level l) → (B ++ ys).Nodup → A = sortI B → (∀ x ∈ B, x ∈ eliK clubs level l) → CntV l B v → (∀ c, ((cntC l B c : Nat) : Int) ≤ most) → B.length ≤ N → B.length + ys.length ≤ 900 →
    ∀ r, spec_PanelOf_l1 l most (N : Int) fuel ys k v A = some r → r.2 = true → ∃ B', r.1 = sortI B' ∧ B'.Nodup ∧ (∀ x ∈ B', x ∈ eliK clubs level l) ∧ (∀ c, ((cntC l B' c : Nat) : Int) ≤ most) ∧ B'.length = N := by
  intro ys
  induction ys with
  | nil =>
    intro k v A B _ hnd hA hBE hv hcm hBN hB r hr ht
    have hl : A.length = B.length := by rw [hA, (sortI_perm B).length_eq]
    rw [spec_PanelOf_l1, hl] at hr
    by_cases hc : (B.length : Int) < (N : Int)
    · rw [decide_eq_true hc] at hr
      cases hr; cases ht
    · rw [decide_eq_false hc] at hr
      cases hr
      exact ⟨B, hA, by simpa using hnd, hBE, hcm, by omega⟩
  | cons y ys ih =>
    intro k v A B hy hnd hA hBE hv hcm hBN hB r hr ht
    simp only [List.length_cons] at hB
    have hl : A.length = B.length := by rw [hA, (sortI_perm B).length_eq]
    obtain ⟨i, x, i1, i2, i3, i4, i5⟩ := eli_club h (hy y (by simp))
    obtain ⟨g1, g2, g3⟩ := cntV_step hv (by omega) (y := y) (by omega)
    have hBnd : (B ++ ys).Nodup := hnd.sublist (List.Sublist.append_left (List.sublist_cons_self y ys) B)
    have hys : ∀ x ∈ ys, x ∈ eliK clubs level l := fun x hx => hy x (by simp [hx])
    rw [spec_PanelOf_l1, bnd i1, bnd i2, i3, hl, g1] at hr
    have skip := fun k' => ih k' v A B hys hBnd hA hBE hv hcm hBN (by omega) r
    by_cases hc : (B.length : Int) < (N : Int)
    · rw [decide_eq_true hc] at hr
      simp only [opt_t, Option.bind_some, Bool.true_and] at hr
      by_cases hm : ((cntC l B (clubN l y) : Nat) : Int) < most
      · rw [decide_eq_true hm, cond_true] at hr
        have hA2 : A.Pairwise (· < ·) := by rw [hA]; exact sortI_lt (List.nodup_append.1 hnd).1
        obtain ⟨g, q1, q2, q3, q4⟩ := put_eq A y hA2 (by omega) fuel hf
        have hBy : (B ++ [y]).Nodup := by
          rw [show B ++ y :: ys = (B ++ [y]) ++ ys from by simp] at hnd
          exact (List.nodup_append.1 hnd).1
        have hg : g = sortI (B ++ [y]) := sort_of q2 hBy fun z => by rw [q3, hA, (sortI_perm B).mem_iff, List.mem_append, List.mem_singleton]
        rw [bnd q1] at hr
        refine ih (k + 1) _ g (B ++ [y]) hys (by rw [List.append_assoc]; exact hnd) hg (fun z hz => ?_) g2 (fun c => ?_) (by simp; omega) (by simp; omega) r hr ht
        · rcases List.mem_append.1 hz with hz | hz
          · exact hBE z hz
          · obtain rfl := List.mem_singleton.1 hz; exact hy _ (by simp)
        · rw [cntC_snoc]
          have := hcm c
          split
          · rename_i e; rw [e] at hm; omega
          · omega
      · rw [decide_eq_false hm, cond_false] at hr
        exact skip _ hr ht
    · rw [decide_eq_false hc] at hr
      simp only [opt_f, Option.bind_some, Bool.false_and, cond_false] at hr
      exact skip _ hr ht
theorem panelOf_of (K : List Int) (l : List Official) (hl : l.length ≤ 1048576) (clubs : List Int) (hcl : clubs.length ≤ 1048576) (level most n : Int) (fuel : Nat) (hf : 1048576 < fuel) (r : List Int × Bool) (r1 : spec_PanelOf_p fuel K l clubs level most n = some r) (ht : r.2 = true) : ∃ M N : Nat, most = (M : Int) ∧ n = (N : Int) ∧ (1 ≤ M ∧ M ≤ 9) ∧ (1 ≤ N ∧ N ≤ 9) ∧ AskOk l clubs level ∧ PanOk l clubs level most r.1 ∧ r.1.length = N := by
  unfold spec_PanelOf_p at r1
  obtain ⟨b, a1, a2⟩ := ret_dwKeys K
  rw [bnd a1] at r1
  cases b
  · cases r1; cases ht
  simp only [Bool.not_true, Bool.not_false, opt_t, Bool.false_or] at r1
  rcases asked_case l hl clubs hcl level most with ⟨M, rfl, hM, hA, c1, c2, _⟩ | ⟨_, _, b, c, c1, c2, c3⟩
  · rw [bnd c1] at r1
    simp only [Bool.not_true, Bool.not_false, opt_t, Bool.false_or] at r1
    rw [bnd c2] at r1
    simp only [Bool.not_true, Bool.not_false, opt_t, Bool.false_or] at r1
    obtain ⟨e, e1, e2⟩ := ret_l1In n 1 9
    have e3 : spec_paMost_p n = some e := by unfold spec_paMost_p; rw [bnd e1]
    rw [bnd e3] at r1
    cases e
    · cases r1; cases ht
    have hN := e2.1 rfl
    obtain ⟨N, rfl⟩ : ∃ N : Nat, n = (N : Int) := ⟨n.toNat, by omega⟩
    simp only [Bool.not_true, cond_false] at r1
    have hK := a2.1 rfl
    have hO := hA.1
    have hel := eli_len hO clubs level
    rw [show (need (decide (0 ≤ 21) && fitsB 8 (21 : Int).toNat)) = some () from rfl, Option.bind_some] at r1
    unfold spec_paOrder_p at r1
    rw [bnd (paEligible_eq hO clubs level fuel hf), dwNumbers_eq K _ hK.2 (by omega) (by omega) fuel hf, Option.bind_some] at r1
    have hperm := numsK_perm K (eliK clubs level l) hK.2 (by omega) (by omega)
    obtain ⟨B, h1, h2, h3, h4, h5⟩ := panelOf_in hO clubs level (M : Int) N fuel hf (numsK K (eliK clubs level l)) 0 (List.replicate 21 0) [] [] (fun x hx => hperm.mem_iff.1 hx)
      (by rw [List.nil_append]; exact hperm.nodup_iff.2 ((eli_lt hO clubs level).imp fun h => by omega)) (by unfold sortI; simp) (by simp) (cntV_nil l) (fun c => by show ((0 : Nat) : Int) ≤ _; omega) (by simp) (by rw [hperm.length_eq]; simp; omega) r r1 ht
    have hlen : r.1.length = N := by rw [h1, (sortI_perm B).length_eq, h5]
    refine ⟨M, N, rfl, rfl, hM, by omega, hA, ⟨⟨by omega, fun x hx => ?_, by rw [h1]; exact sortI_lt h2⟩, fun x hx => ?_, fun c => ?_⟩, hlen⟩
    · rw [h1] at hx; exact eli_range hO (h3 x ((sortI_perm B).mem_iff.1 hx))
    · rw [h1] at hx; exact h3 x ((sortI_perm B).mem_iff.1 hx)
    · rw [h1, cntC_perm (sortI_perm B)]; exact h4 c
  · rw [bnd c1] at r1
    cases b
    · cases r1; cases ht
    · have : c = false := by simpa using c3
      subst this
      simp only [Bool.not_true, Bool.not_false, opt_t, Bool.false_or] at r1
      rw [bnd c2] at r1
      cases r1; cases ht
theorem panelOf_s {l : List Official} (h : OffOk l) (most : Int) (n : Int) (fuel : Nat) (hf : 1048576 < fuel) : ∀ (ys : List Int) (k : Nat) (v A : List Int), (∀ x ∈ ys, ∃ o ∈ l, o.number = x) → v.length = 21 → A.Pairwise (· < ·) → A.length + ys.length ≤ 900 →
    ∃ r : List Int × Bool, spec_PanelOf_l1 l most n fuel ys k v A = some r ∧ r.1.length ≤ A.length + ys.length := by
  intro ys
  induction ys with
  | nil =>
    intro k v A _ hv hA hB
    rw [spec_PanelOf_l1]
    cases decide ((A.length : Int) < n)
    · rw [cond_false]
      exact ⟨_, rfl, by simp⟩
    · exact ⟨_, rfl, by simp⟩
  | cons y ys ih =>
    intro k v A hy hv hA hB
    simp only [List.length_cons] at hB
    obtain ⟨i, x, i1, i2, i3, i4, i5⟩ := found_off h (hy y (by simp))
    obtain ⟨c, c1, c2⟩ := getI_at (c := clubN l y) hv (by omega)
    rw [spec_PanelOf_l1, bnd i1, bnd i2, i3, c1]
    have hys : ∀ x ∈ ys, ∃ o ∈ l, o.number = x := fun x hx => hy x (by simp [hx])
    have skip := ih (k + 1) v A hys hv hA (by omega)
    cases hn : decide ((A.length : Int) < n)
    · simp only [opt_f, Option.bind_some, Bool.false_and, cond_false]
      obtain ⟨r, r1, r3⟩ := skip
      exact ⟨r, r1, by simp only [List.length_cons]; omega⟩
    · simp only [opt_t, Option.bind_some, Bool.true_and]
      cases hm : decide (c < most)
      · simp only [cond_false]
        obtain ⟨r, r1, r3⟩ := skip
        exact ⟨r, r1, by simp only [List.length_cons]; omega⟩
      · simp only [cond_true]
        obtain ⟨g, g1, g2, g3, g4⟩ := put_eq A y hA (by omega) fuel hf
        rw [bnd g1]
        obtain ⟨r, r1, r3⟩ := ih (k + 1) (v.set (clubN l y).toNat (w64 (c + 1))) g hys (by simpa using hv) g2 (by omega)
        exact ⟨r, r1, by simp only [List.length_cons]; omega⟩
theorem panelOf_ex (K : List Int) (l : List Official) (hl : l.length ≤ 1048576) (clubs : List Int) (hcl : clubs.length ≤ 1048576) (level most n : Int) (fuel : Nat) (hf : 1048576 < fuel) : ∃ r : List Int × Bool, spec_PanelOf_p fuel K l clubs level most n = some r ∧ r.1.length ≤ 24 ∧
    (r.2 = true → ∃ M N : Nat, most = (M : Int) ∧ n = (N : Int) ∧ (1 ≤ M ∧ M ≤ 9) ∧ (1 ≤ N ∧ N ≤ 9) ∧ AskOk l clubs level ∧ PanOk l clubs level most r.1 ∧ r.1.length = N) := by
  have key : ∃ r : List Int × Bool, spec_PanelOf_p fuel K l clubs level most n = some r ∧ r.1.length ≤ 24 := by
    unfold spec_PanelOf_p
    obtain ⟨b, a1, a2⟩ := ret_dwKeys K
    rw [bnd a1]
    cases b
    · exact ⟨_, rfl, by simp⟩
    simp only [Bool.not_true, Bool.not_false, opt_t, Bool.false_or]
    rcases asked_case l hl clubs hcl level most with ⟨M, rfl, hM, hA, c1, c2, _⟩ | ⟨_, _, b, c, c1, c2, c3⟩
    · rw [bnd c1]
      simp only [Bool.not_true, Bool.not_false, opt_t, Bool.false_or]
      rw [bnd c2]
      simp only [Bool.not_true, Bool.not_false, opt_t, Bool.false_or]
      obtain ⟨e, e1, e2⟩ := ret_l1In n 1 9
      have e3 : spec_paMost_p n = some e := by unfold spec_paMost_p; rw [bnd e1]
      rw [bnd e3]
      cases e
      · exact ⟨_, rfl, by simp⟩
      simp only [Bool.not_true, cond_false]
      have hK := a2.1 rfl
      have hO := hA.1
      have hel := eli_len hO clubs level
      rw [show (need (decide (0 ≤ 21) && fitsB 8 (21 : Int).toNat)) = some () from rfl, Option.bind_some]
      unfold spec_paOrder_p
      rw [bnd (paEligible_eq hO clubs level fuel hf), dwNumbers_eq K _ hK.2 (by omega) (by omega) fuel hf, Option.bind_some]
      have hperm := numsK_perm K (eliK clubs level l) hK.2 (by omega) (by omega)
      obtain ⟨r, r1, r3⟩ := panelOf_s hO (M : Int) n fuel hf (numsK K (eliK clubs level l)) 0 (List.replicate 21 0) [] (fun x hx => eli_mem (hperm.mem_iff.1 hx)) (by simp) List.Pairwise.nil (by rw [hperm.length_eq]; simp; omega)
      refine ⟨r, r1, ?_⟩
      rw [hperm.length_eq] at r3
      simp at r3; omega
    · rw [bnd c1]
      cases b
      · exact ⟨_, rfl, by simp⟩
      · have : c = false := by simpa using c3
        subst this
        simp only [Bool.not_true, Bool.not_false, opt_t, Bool.false_or]
        rw [bnd c2]
        exact ⟨_, rfl, by simp⟩
  obtain ⟨r, r1, r2⟩ := key
  exact ⟨r, r1, r2, panelOf_of K l hl clubs hcl level most n fuel hf r r1⟩
theorem paFind_no (n : Int) : ∀ (l : List Official) (k : Nat), (∀ x ∈ l, x.number ≠ n) → spec_paFind_l1 n l k = some (-1) := by
  intro l
  induction l with
  | nil => intro k _; rw [spec_paFind_l1]
  | cons y l ih =>
    intro k h
    rw [spec_paFind_l1, show (y.number == n) = false from by simpa using h y (by simp), cond_false]
    exact ih (k + 1) fun x hx => h x (by simp [hx])
theorem clubN_no {n : Int} : ∀ {l : List Official}, (∀ x ∈ l, x.number ≠ n) → clubN l n = 0 := by
  intro l h
  unfold clubN
  rw [List.find?_eq_none.2 (fun x hx => by simpa using h x hx)]; rfl
theorem clubs_l {l : List Official} (h : OffOk l) (fuel : Nat) (hf : 1048576 < fuel) : ∀ (ys : List Int) (k k' : Nat) (A B : List Int), A.Pairwise (· < ·) → (∀ x, x ∈ A ↔ x ∈ B) → A.length + ys.length ≤ 10000 → B.length + ys.length ≤ 10000 →
    ∃ r : List Int × Bool, spec_ClubsOfPanel_l1 l fuel ys k A = some r ∧ impl_ClubsOfPanel_l1 l fuel ys k' B = some r ∧ r.1.length ≤ A.length + ys.length ∧ ((∀ y ∈ ys, ∃ o ∈ l, o.number = y) → r.2 = true ∧ ∀ z ∈ r.1, z ∈ B ∨ ∃ y ∈ ys, z = clubN l y) := by
  intro ys
  induction ys with
  | nil =>
    intro k k' A B h1 h2 h3 h4
    rw [spec_ClubsOfPanel_l1, impl_ClubsOfPanel_l1, bnd (slSort_eq B (by simp at h4; omega)), bnd (compact_eq (sortI B) (by rw [(sortI_perm B).length_eq]; simp at h4; omega) fuel hf)]
    have e : dd (sortI B) = A := lt_mem_eq (dd_lt (sortI_le B)) h1 fun x => by rw [mem_dd, (sortI_perm B).mem_iff, h2]
    rw [e]
    exact ⟨_, rfl, rfl, by simp, fun _ => ⟨rfl, fun z hz => .inl ((h2 z).1 hz)⟩⟩
  | cons y ys ih =>
    intro k k' A B h1 h2 h3 h4
    simp only [List.length_cons] at h3 h4
    rw [spec_ClubsOfPanel_l1, impl_ClubsOfPanel_l1, bnd (show impl_clubOf_p l y = some (clubN l y) from clubOf_eq y l 0)]
    by_cases hy : ∃ o ∈ l, o.number = y
    · obtain ⟨i, x, i1, i2, i3, i4, i5⟩ := found_off h hy
      have hi := getI_nn i2
      obtain ⟨g, g1, g2, g3, g4⟩ := put_eq A (clubN l y) h1 (by omega) fuel hf
      rw [bnd i1, decide_eq_false (by omega), cond_false, bnd i2, i3, bnd g1, show (clubN l y == 0) = false from by rw [beq_eq_false_iff_ne]; omega, cond_false, fits_of (by simp; omega), need_t, Option.bind_some]
      obtain ⟨r, r1, r2, r3, r4⟩ := ih (k + 1) (k' + 1) g (B ++ [clubN l y]) g2 (fun x => by rw [g3, h2, List.mem_append, List.mem_singleton]) (by omega) (by simp; omega)
      refine ⟨r, r1, r2, by simp only [List.length_cons]; omega, fun hall => ?_⟩
      obtain ⟨q1, q2⟩ := r4 fun z hz => hall z (by simp [hz])
      refine ⟨q1, fun z hz => ?_⟩
      rcases q2 z hz with q | ⟨w, hw, e⟩
      · rcases List.mem_append.1 q with q | q
        · exact .inl q
        · exact .inr ⟨y, by simp, List.mem_singleton.1 q⟩
      · exact .inr ⟨w, by simp [hw], e⟩
    · have hno : ∀ x ∈ l, x.number ≠ y := fun x hx e => hy ⟨x, hx, e⟩
      rw [bnd (show spec_paFind_p l y = some (-1) from paFind_no y l 0 hno), show decide ((-1 : Int) < 0) = true from rfl, cond_true, clubN_no hno]
      exact ⟨_, rfl, rfl, by simp, fun hall => absurd (hall y (by simp)) hy⟩
theorem clubsOf_case (l : List Official) (hl : l.length ≤ 1048576) (p : List Int) (hp : p.length ≤ 9000) (fuel : Nat) (hf : 1048576 < fuel) : ∃ r : List Int × Bool, spec_ClubsOfPanel_p fuel l p = some r ∧ impl_ClubsOfPanel_p fuel l p = some r ∧ r.1.length ≤ p.length ∧
    (OffOk l → UpOk p 1 999 → (∀ y ∈ p, ∃ o ∈ l, o.number = y) → r.2 = true ∧ ∀ z ∈ r.1, ∃ y ∈ p, z = clubN l y) := by
  unfold spec_ClubsOfPanel_p impl_ClubsOfPanel_p
  obtain ⟨b, b1, b2⟩ := ret_paOfficials l hl
  obtain ⟨b', d1, d2⟩ := ret_AreOfficials l hl
  obtain rfl : b = b' := Bool.eq_iff_iff.2 (b2.trans d2.symm)
  rw [bnd b1, bnd d1]
  cases b
  · exact ⟨_, rfl, rfl, by simp, fun h => absurd (b2.2 h) (by simp)⟩
  have hO := b2.1 rfl
  obtain ⟨c, c1, c2⟩ := ret_l1Rising p 1 999 (by omega)
  obtain ⟨e, e1, e2⟩ := ret_isIncreasing p 1000 (by omega) (by omega)
  simp only [Bool.not_true, Bool.not_false, opt_t, Bool.false_or]
  rw [bnd c1, bnd e1]
  cases c
  · have hnot : ¬ UpOk p 1 999 := fun h => absurd (c2.2 h) (by simp)
    cases e
    · exact ⟨_, rfl, rfl, by simp, fun _ h => absurd h hnot⟩
    · have hU := e2.1 rfl
      have h0 : ∃ rest, p = 0 :: rest := by
        cases p with
        | nil => exact absurd ⟨by simp, List.Pairwise.nil⟩ hnot
        | cons x rest =>
          refine ⟨rest, ?_⟩
          have hx := (hU.1 x (by simp)).1
          have : x = 0 := by
            apply Classical.byContradiction
            intro hne
            refine hnot ⟨fun y hy => ?_, hU.2⟩
            have := hU.1 y hy
            rcases List.mem_cons.1 hy with rfl | hy
            · omega
            · have := (List.pairwise_cons.1 hU.2).1 y hy; omega
          rw [this]
      obtain ⟨rest, rfl⟩ := h0
      have hno : ∀ x ∈ l, x.number ≠ 0 := fun x hx e => by have := (hO.1 x hx).1; omega
      simp only [Bool.not_true, Bool.not_false, cond_false, cond_true]
      rw [impl_ClubsOfPanel_l1, bnd (show impl_clubOf_p l 0 = some (clubN l 0) from clubOf_eq 0 l 0), clubN_no hno]
      exact ⟨_, rfl, rfl, by simp, fun _ h => absurd h hnot⟩
  · have hU := c2.1 rfl
    obtain rfl : e = true := e2.2 ⟨fun n hn => by have := hU.1 n hn; omega, hU.2⟩
    simp only [Bool.not_true, cond_false]
    obtain ⟨r, r1, r2, r3, r4⟩ := clubs_l hO fuel hf p 0 0 [] [] List.Pairwise.nil (by simp) (by simp; omega) (by simp; omega)
    exact ⟨r, r1, r2, by simpa using r3, fun _ _ h => ⟨(r4 h).1, fun z hz => by
      rcases (r4 h).2 z hz with q | q
      · simp at q
      · exact q⟩⟩

end Go.Proofs.YtegdphhfimaieacGreat

/- Plain lemmas: what the functions compute is what the reference says, in plain Lean. No condition. -/
import Derived.Test.YtegdphhfimaieacPCur7
set_option maxRecDepth 4000
set_option maxHeartbeats 1000000
set_option linter.unusedVariables false
set_option linter.unusedSimpArgs false
set_option linter.unusedSectionVars false

namespace Go.Proofs.Ytegdphhfimaieac
open Go.AM
theorem panels_end {more : List Int} (hv : wfByteS more) (F : Nat) (hF : 1048576 < F) (x21 : List Official × List Int × Int) (k : Nat) : laws_FnPanels_l1 more F x21 [] k = some true := by
  have hml : more.length ≤ 9223372036854775807 := hv.1
  rw [laws_FnPanels_l1]
  obtain ⟨l, c, level, most, p, d1, k1, k2, k3⟩ := drawIsPanel_ok hv.2 hml F hF
  obtain ⟨r, r1, r2, _⟩ := isPanel_case l (by omega) c (by omega) level most p (by omega) F hF
  rw [bnd d1]
  dsimp only
  rw [bnd r2, bnd r1]
  simp
theorem panels_l1 {more : List Int} (hv : wfByteS more) (F : Nat) (hF : 1048576 < F) (u : List Official) (v : List Int) (w : Int) : ∀ (ys : List Int) (k : Nat), (∀ z ∈ ys, z ∉ v) → laws_FnPanels_l1 more F (u, v, w) ys k = some true := by
  intro ys
  induction ys with
  | nil => intro k _; exact panels_end hv F hF _ k
  | cons y ys ih =>
    intro k h
    obtain ⟨b, b1, b2⟩ := ret_pIn v y
    have hb : b = false := by
      cases b
      · rfl
      · exact absurd (b2.1 rfl) (h y (by simp))
    subst hb
    rw [laws_FnPanels_l1]
    dsimp only
    rw [bnd b1, cond_false]
    exact ih (k + 1) fun z hz => h z (by simp [hz])
theorem panels_l2 (more : List Int) (F : Nat) (x : List Official × List Int × Int) : ∀ (ys : List Int) (k : Nat), laws_FnPanels_l2 more F x ys k = laws_FnPanels_l1 more F x ys k := by
  intro ys
  induction ys with
  | nil => intro k; rw [laws_FnPanels_l2, laws_FnPanels_l1]
  | cons y ys ih => intro k; rw [laws_FnPanels_l2, laws_FnPanels_l1]; simp only [ih]
theorem panels_l3 (more : List Int) (F : Nat) (x : List Official × List Int × Int) : ∀ (ys : List Int) (k : Nat), laws_FnPanels_l3 more F x ys k = laws_FnPanels_l1 more F x ys k := by
  intro ys
  induction ys with
  | nil => intro k; rw [laws_FnPanels_l3, laws_FnPanels_l1]
  | cons y ys ih => intro k; rw [laws_FnPanels_l3, laws_FnPanels_l1]; simp only [ih]
theorem panels_l4 (more : List Int) (F : Nat) (x : List Official × List Int × Int) : ∀ (ys : List Int) (k : Nat), laws_FnPanels_l4 more F x ys k = laws_FnPanels_l1 more F x ys k := by
  intro ys
  induction ys with
  | nil => intro k; rw [laws_FnPanels_l4, laws_FnPanels_l1]
  | cons y ys ih => intro k; rw [laws_FnPanels_l4, laws_FnPanels_l1]; simp only [ih]
theorem eli_conf {l : List Official} (h : OffOk l) {clubs : List Int} {level y : Int} (hy : y ∈ eliK clubs level l) : clubN l y ∉ clubs := by
  unfold eliK at hy
  rw [(sortI_perm _).mem_iff] at hy
  obtain ⟨o, ho, e⟩ := List.mem_map.1 hy
  obtain ⟨h1, h2⟩ := List.mem_filter.1 ho
  have hc : clubN l y = o.club := by
    have key : ∀ l : List Official, l.Pairwise (fun a b => a.number ≠ b.number) → o ∈ l → clubN l y = o.club := by
      intro l
      induction l with
      | nil => intro _ h; simp at h
      | cons x l ih =>
        intro hp hm
        have hp' := List.pairwise_cons.1 hp
        rcases List.mem_cons.1 hm with rfl | hm
        · unfold clubN; rw [List.find?_cons_of_pos (by simpa using e)]; rfl
        · have := hp'.1 o hm
          have := ih hp'.2 hm
          unfold clubN at this ⊢
          rw [List.find?_cons_of_neg (by simp; omega)]
          exact this
    exact key l h.2.1 h1
  rw [hc]
  unfold eliP at h2
  rw [Bool.and_eq_true, decide_eq_true_eq] at h2
  exact h2.1
theorem panels_tail {more : List Int} (hv : wfByteS more) (F : Nat) (hF : 1048576 < F) : ((spec_DrawEligibleFor_p F more).bind fun x21 =>
    (impl_EligibleFor_p x21.1 x21.2.1 x21.2.2).bind fun x23 =>
    (spec_EligibleFor_p F x21.1 x21.2.1 x21.2.2).bind fun x25 =>
    (opt (!(!(x23.2 == x25.2))) default (laws_sameInts_p x23.1 x25.1)).bind fun x27 =>
    (opt (!((!(x23.2 == x25.2)) || (!x27))) default (impl_AreOfficials_p x21.1)).bind fun x29 =>
    (opt (!((!(x23.2 == x25.2)) || (!x27))) default (spec_AreOfficials_p x21.1)).bind fun x31 =>
    cond (((!(x23.2 == x25.2)) || (!x27)) || (!(x29 == x31)))
      (some false)
      (cond x23.2
        ((impl_ClubsOfPanel_p F x21.1 x23.1).bind fun x33 =>
        (spec_ClubsOfPanel_p F x21.1 x25.1).bind fun x35 =>
        (opt (!((!x33.2) || (!x35.2))) default (laws_sameInts_p x33.1 x35.1)).bind fun x37 =>
        cond (((!x33.2) || (!x35.2)) || (!x37))
          (some false)
          (laws_FnPanels_l1 more F x21 x35.1 0))
        (laws_FnPanels_l1 more F x21 [] 0))) = some true := by
  have hml : more.length ≤ 9223372036854775807 := hv.1
  obtain ⟨u, v, w, d1, k1, k2⟩ := drawEligibleFor_ok hv.2 hml F hF
  obtain ⟨b, b1, b2⟩ := ret_AreOfficials u (by omega)
  have hb : spec_AreOfficials_p u = some b := by
    obtain ⟨c, c1, c2⟩ := ret_paOfficials u (by omega)
    unfold spec_AreOfficials_p
    rw [bnd c1, Bool.eq_iff_iff.2 (c2.trans b2.symm)]
  rw [bnd d1]
  dsimp only
  rcases eligible_case u (by omega) v (by omega) w F hF with ⟨hA, e1, e2⟩ | ⟨e1, e2⟩
  · have hlen := eli_len hA.1 v w
    obtain ⟨r, r1, r2, _, r4⟩ := clubsOf_case u (by omega) (eliK v w u) (by omega) F hF
    obtain ⟨r5, r6⟩ := r4 hA.1 ⟨fun x hx => eli_range hA.1 hx, eli_lt hA.1 v w⟩ (fun y hy => eli_mem hy)
    rw [bnd e2, bnd e1]
    simp only [beq_self_eq_true, Bool.not_true, Bool.not_false, opt_t]
    rw [bnd (sameInts_eq _)]
    simp only [Bool.not_true, Bool.not_false, Bool.or_false, opt_t]
    rw [bnd b1, bnd hb]
    simp only [beq_self_eq_true, Bool.not_true, Bool.or_false, cond_false, cond_true]
    rw [bnd r2, bnd r1]
    simp only [r5, Bool.not_true, Bool.not_false, Bool.or_false, opt_t]
    rw [bnd (sameInts_eq _)]
    simp only [Bool.not_true, cond_false]
    refine panels_l1 hv F hF u v w r.1 0 fun z hz => ?_
    obtain ⟨y, hy, rfl⟩ := r6 z hz
    exact eli_conf hA.1 hy
  · rw [bnd e2, bnd e1]
    simp only [beq_self_eq_true, Bool.not_true, Bool.not_false, opt_t]
    rw [bnd (sameInts_eq _)]
    simp only [Bool.not_true, Bool.not_false, Bool.or_false, opt_t]
    rw [bnd b1, bnd hb]
    simp only [beq_self_eq_true, Bool.not_true, Bool.or_false, cond_false]
    exact panels_end hv F hF _ 0
theorem law_FnPanelsF (F : Nat) (hF : 1048576 < F) (code more : List Int) (hw : wfByteS code) (hv : wfByteS more) : laws_FnPanels_p F code more = some true := by
  have hcl : code.length ≤ 9223372036854775807 := hw.1
  have htail := panels_tail hv F hF
  simp only [laws_FnPanels_l1] at htail
  unfold laws_FnPanels_p laws_big_p
  rw [Option.bind_some]
  cases decide ((code.length : Int) > 1048576) || decide ((more.length : Int) > w64 (1048576 - (code.length : Int)))
  rotate_left
  · rfl
  rw [cond_false]
  simp only [panels_l2, panels_l3, panels_l4]
  obtain ⟨K, l, clubs, level, most, n, d1, k1, k2, k3⟩ := drawPanelOf_ok hw.2 hcl F hF
  obtain ⟨r, r1, r2, r3, r4⟩ := panelOf_case K l (by omega) clubs (by omega) level most n F hF
  obtain ⟨g, g1, g2, g3⟩ : ∃ g : Int × Bool, spec_LargestPanel_p F l clubs level most = some g ∧ impl_LargestPanel_p l clubs level most = some g ∧ ((∃ M : Nat, most = (M : Int) ∧ (1 ≤ M ∧ M ≤ 9) ∧ AskOk l clubs level ∧ g = ((larg l clubs level M : Int), true)) ∨ (¬ (AskOk l clubs level ∧ (1 ≤ most ∧ most ≤ 9)) ∧ g.2 = false)) := by
    rcases largest_case l (by omega) clubs (by omega) level most F hF with ⟨M, hM, hM9, hA, e1, e2⟩ | ⟨hn, x, e1, e2⟩
    · exact ⟨_, e1, e2, .inl ⟨M, hM, hM9, hA, rfl⟩⟩
    · exact ⟨_, e1, e2, .inr ⟨hn, rfl⟩⟩
  have hcnt : ∀ A B : Option Bool, A = some true → B = some true → cond (((g.2 && decide (n ≥ 1)) && decide (n ≤ 9)) && decide ((l.length : Int) ≤ 14))
      ((impl_CountPanels_p F l clubs level most n).bind fun x17 =>
      (spec_CountPanels_p F l clubs level most n).bind fun x19 =>
      cond ((((!x17.2) || (!x19.2)) || (x17.1 != x19.1)) || (!(decide (x19.1 > 0) == decide (n ≤ g.1)))) (some false) A) B = some true := by
    intro A B hA hB
    cases hc : ((g.2 && decide (n ≥ 1)) && decide (n ≤ 9)) && decide ((l.length : Int) ≤ 14)
    · exact hB
    · rw [cond_true]
      simp only [Bool.and_eq_true, decide_eq_true_eq] at hc
      obtain ⟨⟨⟨c1, c2⟩, c3⟩, c4⟩ := hc
      rcases g3 with ⟨M, hM, hM9, hAsk, rfl⟩ | ⟨_, q⟩
      · rcases count_case l (by omega) clubs (by omega) level most n F hF with ⟨M', N, hM', hN, _, _, _, e1, e2⟩ | ⟨q, _⟩
        · obtain rfl : M = M' := by omega
          rw [bnd e2, bnd e1]
          have := cntP_pos l clubs level M N
          have hd : decide ((cntP l clubs level M N : Int) > 0) = decide (n ≤ (larg l clubs level M : Int)) := decide_eq_decide.2 (by omega)
          simp only [bne_self_eq_false, Bool.not_true, Bool.or_false, Bool.false_or, hd, beq_self_eq_true, cond_false]
          exact hA
        · exact absurd ⟨hAsk, by omega, ⟨c2, c3⟩, by omega⟩ q
      · rw [q] at c1; cases c1
  rw [bnd d1]
  dsimp only
  rw [bnd r2, bnd r1, bnd g2, bnd g1]
  simp only [beq_self_eq_true, bne_self_eq_false, Bool.not_true, Bool.not_false, Bool.or_false, opt_t]
  rw [bnd (sameInts_eq _)]
  simp only [Bool.not_true, Bool.or_false, Bool.false_or]
  cases hr : r.2
  · simp only [Bool.false_and, cond_false]
    exact hcnt _ _ htail htail
  · obtain ⟨M, N, hM, hN, hM9, hN9, hAsk, hP, hlen⟩ := r4 hr
    obtain ⟨q, q1, q2, q3⟩ := isPanel_case l (by omega) clubs (by omega) level most r.1 (by omega) F hF
    obtain rfl := q3 hAsk (by omega) hP
    rcases g3 with ⟨M', hM', _, _, hg⟩ | ⟨q, _⟩
    · obtain rfl : M = M' := by omega
      have hle : r.1.length ≤ larg l clubs level M := panel_larg hAsk.1 (by rw [← hM]; exact hP)
      have hg1 : g.1 = (larg l clubs level M : Int) := by rw [hg]
      have hg2 : g.2 = true := by rw [hg]
      rw [hg2]
      simp only [Bool.not_true, Bool.and_false, cond_false, cond_true]
      rw [bnd q2]
      simp only [Bool.not_true, Bool.or_false, Bool.false_or]
      rw [show ((r.1.length : Int) != n) = false from by rw [bne_eq_false_iff_eq]; omega, decide_eq_false (by rw [hg1]; omega)]
      simp only [Bool.or_false, cond_false]
      have := hcnt _ _ htail htail
      rw [hg2] at this
      exact this
    · exact absurd ⟨hAsk, by omega⟩ q
theorem law_FnPanels (code more : List Int) (hw : wfByteS code) (hv : wfByteS more) : laws_FnPanels_p 99999999 code more = some true := law_FnPanelsF 99999999 (by omega) code more hw hv

end Go.Proofs.Ytegdphhfimaieac

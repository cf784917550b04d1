/- Plain lemmas: what the functions compute is what the reference says, in plain Lean. No condition. -/
import Derived.Test.YtegdphhfimaieacGreatPCur7
set_option maxRecDepth 4000
set_option maxHeartbeats 1000000
set_option linter.unusedVariables false
set_option linter.unusedSimpArgs false
set_option linter.unusedSectionVars false

namespace Go.Proofs.YtegdphhfimaieacGreat
open Go.AM

theorem without_len {p : List Int} (hp : p.Nodup) {g : Int} (hg : g ∈ p) : (p.filter fun n => decide (n ∉ [g])).length = p.length - 1 := by
  have e : (p.filter fun n => decide (n ∉ [g])) = p.erase g := by
    rw [hp.erase_eq_filter]
    refine List.filter_congr fun x _ => ?_
    by_cases h : x = g
    · subst h; simp
    · simp [h]
  rw [e, List.length_erase_of_mem hg]
theorem replace_in {l : List Official} (h : OffOk l) (clubs : List Int) (level most : Int) (hm : 1 ≤ most) (p : List Int) (hp : PanOk l clubs level most p) (gone : Int) (hg : gone ∈ p) (fuel : Nat) (hf : 1048576 < fuel) : ∀ (ys : List Int) (k : Nat) (r : List Int × Bool),
    spec_ReplaceJudge_l1 l clubs level most p gone fuel ys k = some r → r.2 = true → PanOk l clubs level most r.1 ∧ r.1.length = p.length ∧ gone ∉ r.1 ∧ (r.1.filter fun n => decide (n ∈ p)).length = p.length - 1 := by
  intro ys
  induction ys with
  | nil => intro k r hr ht; rw [spec_ReplaceJudge_l1] at hr; cases hr; cases ht
  | cons y ys ih =>
    intro k r hr ht
    have h9 := hp.1.1
    rw [spec_ReplaceJudge_l1] at hr
    obtain ⟨b, b1, b2⟩ := ret_l1Has p y
    rw [bnd b1] at hr
    cases b
    · have hny : y ∉ p := fun q => absurd (b2.2 q) (by simp)
      simp only [cond_false] at hr
      have hlen := without_len (hp.1.2.2.imp fun h => by omega) hg
      have hmem : ∀ z, z ∈ (p.filter fun n => decide (n ∉ [gone])) → z ∈ p ∧ z ≠ gone := fun z hz => by
        have := List.mem_filter.1 hz
        exact ⟨this.1, by simpa using this.2⟩
      have hqw := paWithoutR_l gone p 0 [] (by simp; omega)
      have hqs : (p.filter fun n => decide (n ∉ [gone])).Pairwise (· < ·) := hp.1.2.2.filter _
      generalize (p.filter fun n => decide (n ∉ [gone])) = q at hlen hmem hqw hqs
      rw [List.nil_append] at hqw
      have hqy : y ∉ q := fun k => hny (hmem y k).1
      obtain ⟨g, g1, g2, g3, g4⟩ := put_eq q y hqs (by omega) fuel hf
      have hgp : g = sortI (q ++ [y]) := by
        refine sort_of g2 ?_ fun z => ?_
        · rw [List.nodup_append]
          exact ⟨hqs.imp fun h => by omega, by simp, fun a ha b hb => by rw [List.mem_singleton.1 hb]; exact fun e => hqy (e ▸ ha)⟩
        · rw [g3, List.mem_append, List.mem_singleton]
      rw [bnd (show spec_paWithout_p p gone = some q from hqw), bnd g1] at hr
      obtain ⟨b, e1, e2, e3⟩ := isPanel_same h clubs level most hm g (by omega) fuel hf
      rw [bnd e1] at hr
      cases b
      · exact ih (k + 1) r hr ht
      · cases hr
        refine ⟨e3 rfl, ?_, ?_, ?_⟩
        · show g.length = p.length
          rw [hgp, (sortI_perm _).length_eq, List.length_append, hlen]; simp; omega
        · show gone ∉ g
          intro hq
          rcases (g3 gone).1 hq with hq | hq
          · exact (hmem gone hq).2 rfl
          · exact hny (hq ▸ hg)
        · show (g.filter fun n => decide (n ∈ p)).length = p.length - 1
          rw [hgp, ((sortI_perm (q ++ [y])).filter _).length_eq, List.filter_append, List.filter_eq_self.2 (fun z hz => by simpa using (hmem z hz).1), List.filter_cons_of_neg (by simpa using hny), List.filter_nil, List.append_nil, hlen]
    · exact ih (k + 1) r hr ht
theorem replace_case (K : List Int) (l : List Official) (hl : l.length ≤ 1048576) (clubs : List Int) (hcl : clubs.length ≤ 1048576) (level most : Int) (p : List Int) (hp : p.length ≤ 1048576) (gone : Int) (fuel : Nat) (hf : 1048576 < fuel) : ∃ r : List Int × Bool, spec_ReplaceJudge_p fuel K l clubs level most p gone = some r ∧ impl_ReplaceJudge_p fuel K l clubs level most p gone = some r ∧ r.1.length ≤ 10 ∧
    (r.2 = true → AskOk l clubs level ∧ (1 ≤ most ∧ most ≤ 9) ∧ PanOk l clubs level most r.1 ∧ r.1.length = p.length ∧ gone ∉ r.1 ∧ (r.1.filter fun n => decide (n ∈ p)).length = p.length - 1) := by
  obtain ⟨r, r1, r2, r3⟩ := same_ReplaceJudge K l hl clubs hcl level most p hp gone fuel hf
  refine ⟨r, r1, r2, r3, fun ht => ?_⟩
  unfold spec_ReplaceJudge_p spec_paMost_p at r1
  obtain ⟨b, a1, a2⟩ := ret_dwKeys K
  rw [bnd a1] at r1
  cases b
  · cases r1; cases ht
  simp only [Bool.not_true, Bool.not_false, opt_t, Bool.false_or] at r1
  obtain ⟨b, c1, c2⟩ := ret_paAsked l hl clubs hcl level
  rw [bnd c1] at r1
  cases b
  · cases r1; cases ht
  simp only [Bool.not_true, Bool.not_false, opt_t, Bool.false_or] at r1
  obtain ⟨d, d1, d2⟩ := ret_l1In most 1 9
  rw [d1, Option.bind_some] at r1
  cases d
  · cases r1; cases ht
  simp only [Bool.not_true, Bool.not_false, opt_t, Bool.false_or, Option.bind_some] at r1
  have hA := c2.1 rfl
  have hm := d2.1 rfl
  have hO := hA.1
  obtain ⟨e, e1, e2, e3⟩ := isPanel_same hO clubs level most hm.1 p hp fuel hf
  rw [bnd e1] at r1
  cases e
  · cases r1; cases ht
  simp only [Bool.not_true, Bool.not_false, opt_t, Bool.false_or] at r1
  obtain ⟨f, f1, f2⟩ := ret_l1Has p gone
  rw [bnd f1] at r1
  cases f
  · cases r1; cases ht
  simp only [Bool.not_true, cond_false] at r1
  have hK := a2.1 rfl
  have hel := eli_len hO clubs level
  unfold spec_paOrder_p at r1
  rw [bnd (paEligible_eq hO clubs level fuel hf), dwNumbers_eq K _ hK.2 (by omega) (by omega) fuel hf, Option.bind_some] at r1
  exact ⟨hA, hm, replace_in hO clubs level most hm.1 p (e3 rfl) gone (f2.1 rfl) fuel hf _ 0 r r1 ht⟩
theorem panK_flat (o : List Int) (n : Nat) : ∀ j : Nat, (((List.range j).map (panK o n)).flatten).Perm (o.take (j * n))
  | 0 => by simp
  | j + 1 => by
    rw [List.range_succ, List.map_append, List.flatten_append, Nat.succ_mul, List.take_add]
    refine (panK_flat o n j).append ?_
    rw [List.map_singleton, List.flatten_singleton]
    exact sortI_perm _
theorem spread_case (K : List Int) (l : List Official) (hl : l.length ≤ 1048576) (n p : Int) (fuel : Nat) (hf : 1048576 < fuel) : ∃ r : List (List Int) × Bool, spec_SpreadPanels_p fuel K l n p = some r ∧ impl_SpreadPanels_p fuel K l n p = some r ∧ (∀ z ∈ r.1, (z.length : Int) = n) ∧ r.1.flatten.Nodup ∧ r.1.flatten.length ≤ 24 := by
  obtain ⟨r, r1, r2, r3, r4⟩ := same_SpreadPanels K l hl n p fuel hf
  refine ⟨r, r1, r2, ?_⟩
  have hno : some (([] : List (List Int)), false) = some r → (∀ z ∈ r.1, (z.length : Int) = n) ∧ r.1.flatten.Nodup ∧ r.1.flatten.length ≤ 24 := fun h => by cases h; exact ⟨by simp, by simp, by simp⟩
  unfold spec_SpreadPanels_p spec_paMost_p at r1
  obtain ⟨b, a1, a2⟩ := ret_dwKeys K
  rw [bnd a1] at r1
  cases b
  · exact hno r1
  simp only [Bool.not_true, Bool.not_false, opt_t, Bool.false_or] at r1
  obtain ⟨b, c1, c2⟩ := ret_paOfficials l hl
  rw [bnd c1] at r1
  cases b
  · exact hno r1
  simp only [Bool.not_true, Bool.not_false, opt_t, Bool.false_or] at r1
  obtain ⟨b, d1, d2⟩ := ret_l1In n 1 9
  rw [d1] at r1
  simp only [Option.bind_some] at r1
  cases b
  · exact hno r1
  simp only [Bool.not_true, Bool.not_false, opt_t, Bool.false_or] at r1
  obtain ⟨b, e1, e2⟩ := ret_l1In p 1 4
  rw [bnd e1] at r1
  cases b
  · exact hno r1
  simp only [Bool.not_true, Bool.false_or] at r1
  have hK := a2.1 rfl
  have hO := c2.1 rfl
  have hn := d2.1 rfl
  have hp := e2.1 rfl
  obtain ⟨N, rfl⟩ : ∃ N : Nat, n = (N : Int) := ⟨n.toNat, by omega⟩
  obtain ⟨Q, rfl⟩ : ∃ Q : Nat, p = (Q : Int) := ⟨p.toNat, by omega⟩
  have hNQ : (N : Int) * (Q : Int) = ((N * Q : Nat) : Int) := by rw [Int.natCast_mul]
  have hNQ2 : N * Q ≤ 36 := by
    have := Nat.mul_le_mul (show N ≤ 9 by omega) (show Q ≤ 4 by omega); omega
  rw [hNQ, w64_in (by omega)] at r1
  by_cases hlt : ((N * Q : Nat) : Int) > (l.length : Int)
  · rw [decide_eq_true hlt] at r1
    exact hno r1
  rw [decide_eq_false hlt, cond_false] at r1
  have h24 := hO.2.2
  have hnd := nums_nodup hO.2.1
  obtain ⟨s, s1, s2, s3⟩ := spread_l1 K N Q fuel hf l 0 [] List.Pairwise.nil (by simp; omega)
  have hr : s = sortI (l.map fun x => x.number) := sort_of s2 hnd (by intro x; rw [s3]; simp)
  have hrl : s.length = l.length := by rw [hr, (sortI_perm _).length_eq, List.length_map]
  rw [s1, spec_SpreadPanels_l1, bnd (dwNumbers_eq K s hK.2 (by omega) (by omega) fuel hf)] at r1
  have hperm := numsK_perm K s hK.2 (by omega) (by omega)
  have hlo : (numsK K s).length = l.length := by rw [hperm.length_eq, hrl]
  have hndo : (numsK K s).Nodup := hperm.nodup_iff.2 (s2.imp fun h => by omega)
  have t1 := spread_l2 N fuel hf (by omega) (numsK K s) hndo (by omega) Q (by omega) (by omega) Q 0 fuel (by omega) (by omega)
  rw [Nat.zero_mul, List.drop_zero] at t1
  rw [bnd (show spec_SpreadPanels_l2 (N : Int) fuel fuel (Q : Int) (numsK K s) [] = _ from t1)] at r1
  cases r1
  have hfl := panK_flat (numsK K s) N Q
  refine ⟨fun z hz => ?_, ?_, ?_⟩
  · obtain ⟨j, hj, rfl⟩ := List.mem_map.1 hz
    have hj := List.mem_range.1 hj
    have hjn : (j + 1) * N ≤ Q * N := Nat.mul_le_mul_right N (by omega)
    rw [Nat.succ_mul, Nat.mul_comm Q N] at hjn
    unfold panK
    rw [(sortI_perm _).length_eq, List.length_take, List.length_drop]; omega
  · exact hfl.nodup_iff.2 (hndo.sublist (List.take_sublist _ _))
  · show (((List.range Q).map (panK (numsK K s) N)).flatten).length ≤ 24
    rw [hfl.length_eq, List.length_take]; omega
theorem drawReplaceJudge_ok {code : List Int} (hc : ∀ x ∈ code, isByte x) (hl : code.length ≤ 9223372036854775807) (fuel : Nat) (hf : 1048576 < fuel) : ∃ K l clubs level most p g, spec_DrawReplaceJudge_p fuel code = some (K, l, clubs, level, most, p, g) ∧ l.length ≤ 25 ∧ clubs.length ≤ 25 ∧ p.length ≤ 100 := by
  unfold spec_DrawReplaceJudge_p
  obtain ⟨l, clubs, level, most, p, d1, k1, k2, k3⟩ := drawIsPanel_ok hc hl fuel hf
  rw [bnd d1]
  dsimp only
  obtain ⟨b1, s1, v1, e1, g1, l1, u1⟩ := pick_ok (s := 0) (co0 hc hl) (by omega) 99 (by omega)
  rw [bnd e1]
  dsimp only
  by_cases h0 : (p.length : Int) > 0
  · rw [decide_eq_true h0]
    simp only [opt_t, Bool.true_and]
    obtain ⟨b2, s2, v2, e2, g2⟩ := one_ok (s := s1) g1 (by omega) 6 (by omega)
    rw [bnd e2]
    dsimp only
    cases v2
    · simp only [Bool.not_false, cond_true]
      obtain ⟨b3, s3, v3, e3, g3, l3, u3⟩ := pick_ok (s := s2) g2 (by omega) (p.length : Int) (by omega)
      rw [bnd e3]
      dsimp only
      have hlt : v3.toNat < p.length := by omega
      have hg : getI p v3 = some p[v3.toNat] := by rw [getI_of (k := v3.toNat) (by omega)]; exact List.getElem?_eq_getElem hlt
      rw [bnd hg]
      obtain ⟨b4, s4, K, e4, g4, k4⟩ := keyList_ok (s := s3) g3 (by omega) fuel hf
      rw [bnd e4]
      exact ⟨_, _, _, _, _, _, _, rfl, k1, k2, k3⟩
    · simp only [Bool.not_true, cond_false]
      obtain ⟨b4, s4, K, e4, g4, k4⟩ := keyList_ok (s := s2) g2 (by omega) fuel hf
      rw [bnd e4]
      exact ⟨_, _, _, _, _, _, _, rfl, k1, k2, k3⟩
  · rw [decide_eq_false h0]
    simp only [opt_f, Option.bind_some, Bool.false_and, cond_false]
    obtain ⟨b4, s4, K, e4, g4, k4⟩ := keyList_ok (s := s1) g1 (by omega) fuel hf
    rw [bnd e4]
    exact ⟨_, _, _, _, _, _, _, rfl, k1, k2, k3⟩
theorem drawSpreadPanels_ok {code : List Int} (hc : ∀ x ∈ code, isByte x) (hl : code.length ≤ 9223372036854775807) (fuel : Nat) (hf : 1048576 < fuel) : ∃ K l n p, spec_DrawSpreadPanels_p fuel code = some (K, l, n, p) ∧ l.length ≤ 25 := by
  unfold spec_DrawSpreadPanels_p
  obtain ⟨b1, s1, K, e1, g1, k1⟩ := keyList_ok (s := 0) (co0 hc hl) (by omega) fuel hf
  rw [bnd e1]
  dsimp only
  obtain ⟨b2, s2, l, e2, g2, k2⟩ := officials_ok (s := s1) g1 (by omega) fuel hf
  rw [bnd e2]
  dsimp only
  obtain ⟨b6, s6, v6, e6, g6, _⟩ := among_ok (s := s2) g2 (by omega) [1, 2, 3, 9, 10, 0] (by simp) (by simp)
  rw [bnd e6]
  dsimp only
  obtain ⟨b7, s7, v7, e7, g7, l7, u7⟩ := pick_ok (s := s6) g6 (by omega) 6 (by omega)
  rw [bnd e7]
  exact ⟨_, _, _, _, rfl, k2⟩
theorem drawCountPanels_ok {code : List Int} (hc : ∀ x ∈ code, isByte x) (hl : code.length ≤ 9223372036854775807) (fuel : Nat) (hf : 1048576 < fuel) : ∃ l clubs level most n, spec_DrawCountPanels_p fuel code = some (l, clubs, level, most, n) ∧ l.length ≤ 25 ∧ clubs.length ≤ 25 := by
  unfold spec_DrawCountPanels_p
  obtain ⟨b2, s2, l, e2, g2, k2⟩ := officials_ok (s := 0) (co0 hc hl) (by omega) fuel hf
  rw [bnd e2]
  dsimp only
  obtain ⟨b3, s3, c, e3, g3, k3⟩ := conflicts_ok (s := s2) g2 (by omega) fuel hf
  rw [bnd e3]
  dsimp only
  obtain ⟨b4, s4, v4, e4, g4⟩ := grade_ok (s := s3) g3 (by omega)
  rw [bnd e4]
  dsimp only
  obtain ⟨b5, s5, v5, e5, g5⟩ := atMost_ok (s := s4) g4 (by omega)
  rw [bnd e5]
  dsimp only
  obtain ⟨b6, s6, v6, e6, g6, _⟩ := among_ok (s := s5) g5 (by omega) [1, 2, 3, 9, 10, 0] (by simp) (by simp)
  rw [bnd e6]
  exact ⟨_, _, _, _, _, rfl, k2, k3⟩
theorem drawClubsOfPanel_ok {code : List Int} (hc : ∀ x ∈ code, isByte x) (hl : code.length ≤ 9223372036854775807) (fuel : Nat) (hf : 1048576 < fuel) : ∃ l p, spec_DrawClubsOfPanel_p fuel code = some (l, p) ∧ l.length ≤ 25 ∧ p.length ≤ 100 := by
  unfold spec_DrawClubsOfPanel_p
  obtain ⟨l, clubs, level, most, p, d1, k1, k2, k3⟩ := drawIsPanel_ok hc hl fuel hf
  rw [bnd d1]
  exact ⟨_, _, rfl, k1, k3⟩
theorem drawLargestPanel_ok {code : List Int} (hc : ∀ x ∈ code, isByte x) (hl : code.length ≤ 9223372036854775807) (fuel : Nat) (hf : 1048576 < fuel) : ∃ l clubs level most, spec_DrawLargestPanel_p fuel code = some (l, clubs, level, most) ∧ l.length ≤ 25 ∧ clubs.length ≤ 25 := by
  unfold spec_DrawLargestPanel_p
  obtain ⟨b2, s2, l, e2, g2, k2⟩ := officials_ok (s := 0) (co0 hc hl) (by omega) fuel hf
  rw [bnd e2]
  dsimp only
  obtain ⟨b3, s3, c, e3, g3, k3⟩ := conflicts_ok (s := s2) g2 (by omega) fuel hf
  rw [bnd e3]
  dsimp only
  obtain ⟨b4, s4, v4, e4, g4⟩ := grade_ok (s := s3) g3 (by omega)
  rw [bnd e4]
  dsimp only
  obtain ⟨b5, s5, v5, e5, g5⟩ := atMost_ok (s := s4) g4 (by omega)
  rw [bnd e5]
  exact ⟨_, _, _, _, rfl, k2, k3⟩
theorem isPanel_impl (l : List Official) (hl : l.length ≤ 1048576) (clubs : List Int) (hc : clubs.length ≤ 1048576) (level most : Int) (p : List Int) (hp : p.length ≤ 1048576) (fuel : Nat) (hf : 1048576 < fuel) (hA : AskOk l clubs level) (hm : 1 ≤ most ∧ most ≤ 9) (hP : PanOk l clubs level most p) : impl_IsPanel_p fuel l clubs level most p = some (true, true) := by
  unfold impl_IsPanel_p
  rcases asked_case l hl clubs hc level most with ⟨M, rfl, hM, hA, a1, a2, a3⟩ | ⟨hn, _⟩
  · obtain ⟨b, b1, b2, b3⟩ := isPanel_same hA.1 clubs level (M : Int) (by omega) p hp fuel hf
    obtain ⟨c, c1, c2⟩ := ret_paIs hA.1 clubs level (M : Int) (by omega) p hp fuel hf
    obtain rfl : b = c := Option.some.inj (b1.symm.trans c1)
    rw [bnd a3]
    simp only [Bool.not_true, cond_false]
    rw [bnd b2, c2.2 hP]
  · exact absurd ⟨hA, hm⟩ hn

end Go.Proofs.YtegdphhfimaieacGreat

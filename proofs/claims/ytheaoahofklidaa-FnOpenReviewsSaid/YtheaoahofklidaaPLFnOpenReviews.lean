/- Plain lemmas: what the functions compute is what the reference says, in plain Lean. No condition. -/
import Derived.Test.YtheaoahofklidaaPReviews1
set_option maxRecDepth 4000
set_option maxHeartbeats 1000000
set_option linter.unusedVariables false
set_option linter.unusedSimpArgs false
set_option linter.unusedSectionVars false

namespace Go.Proofs.Ytheaoahofklidaa
open Go.AM
theorem law_FnOpenReviews (code more : List Int) (hw : wfByteS code) (hv : wfByteS more) : laws_FnOpenReviews_p 99999999 code more = some true := by
  have hF : 1048576 < 99999999 := by omega
  have hcl : code.length ≤ 9223372036854775807 := hw.1
  have hml : more.length ≤ 9223372036854775807 := hv.1
  unfold laws_FnOpenReviews_p
  by_cases hbig : w64 ((code.length : Int) + (more.length : Int)) > 1048576
  · rw [decide_eq_true hbig]; rfl
  rw [decide_eq_false hbig, cond_false]
  obtain ⟨l, h, T, d1, hb, hl⟩ := drawStateAt_ok hw.2 hcl 99999999 hF
  obtain ⟨a, g, x, d2, ha, hg⟩ := drawAddChange_ok hv.2 hml 99999999 hF
  obtain ⟨b, k, i, j, d3, hb3, hk⟩ := drawLastChange_ok hv.2 hml 99999999 hF
  obtain ⟨u, r, u1, u2, r1, r2, hur⟩ := callers_last hb3 k (by omega) i j 99999999 hF
  obtain ⟨o, o1, o2, _⟩ := same_OpenReviews hb h (by omega) 99999999 hF
  obtain ⟨st, s1, s2, _⟩ := same_StateAt hb h (by omega) T 99999999 hF
  obtain ⟨n, n1, n2, _⟩ := same_AddChange ha g (by omega) x 99999999 hF
  rw [bnd d1]
  dsimp only
  rw [bnd s2, bnd s1, bnd o2, bnd o1, bnd d2]
  dsimp only
  rw [bnd n2, bnd n1, bnd d3]
  dsimp only
  rw [bnd u2, bnd u1, bnd r2, bnd r1]
  simp only [beq_self_eq_true, bne_self_eq_false, Bool.not_true, Bool.not_false, Bool.or_false, opt_t]
  rw [bnd (qItems_eq _)]
  simp only [Bool.not_true, Bool.not_false, Bool.or_false, opt_t]
  rw [bnd (qLists_eq _)]
  simp only [Bool.not_true, Bool.not_false, Bool.or_false, opt_t]
  rw [bnd (qChanges_eq _)]
  simp only [Bool.not_true, Bool.not_false, Bool.or_false, opt_t]
  rw [bnd (qInts_eq _)]
  simp only [Bool.not_true, cond_false]
  have hcall : ∃ c v, opt ((r.2 && !!(u.2 == decide ((r.1.length : Int) > 0))) && u.2) default (getI k u.1) = some c ∧ opt ((r.2 && !!(u.2 == decide ((r.1.length : Int) > 0))) && u.2) default (laws_qHas_p r.1 c.caller) = some v ∧
      (r.2 && (!(u.2 == decide ((r.1.length : Int) > 0)) || (u.2 && !v))) = false := by
    cases hr : r.2
    · exact ⟨default, default, rfl, rfl, rfl⟩
    · obtain ⟨e1, e2⟩ := hur hr
      rw [← e1]
      cases hu : u.2
      · exact ⟨default, default, rfl, rfl, rfl⟩
      · obtain ⟨c, c1, c2⟩ := e2 hu
        exact ⟨c, true, c1, by show laws_qHas_p r.1 c.caller = some true; rw [qHas_eq, decide_eq_true c2], rfl⟩
  obtain ⟨c, v, c1, c2, c3⟩ := hcall
  have hend : ∃ w, cond (!st.2) (some true) ((laws_FnOpenReviews_l2 (l, h, T) 99999999 0).bind fun v69 =>
          (sliceHi h v69).bind fun x82 =>
          (impl_FinalState_p 99999999 l x82).bind fun x84 =>
          (opt x84.2 default (laws_qItems_p x84.1 st.1)).bind fun x86 =>
          some ((x84.2 && x86) && o.2)) = some w ∧ cond (!st.2) (some true) ((laws_FnOpenReviews_l3 (l, h, T) 99999999 0).bind fun v69 =>
          (sliceHi h v69).bind fun x82 =>
          (impl_FinalState_p 99999999 l x82).bind fun x84 =>
          (opt x84.2 default (laws_qItems_p x84.1 st.1)).bind fun x86 =>
          some ((x84.2 && x86) && o.2)) = some w ∧ w = true := by
    rcases stateAt_case hb h (by omega) T 99999999 hF with ⟨y, q1, q2, q3, q4, q5⟩ | ⟨q1, q4, q5⟩
    · rw [s1] at q4
      obtain rfl := Option.some.inj q4
      have ho : o.2 = true := by
        rcases open_case hb h (by omega) 99999999 hF with ⟨z, _, _, _, _, z5, _⟩ | ⟨z, _⟩
        · rw [o1] at z5; rw [Option.some.inj z5]
        · exact absurd q1 z
      obtain ⟨w, p, w1, w2, w3, w4⟩ := end_ok hb h (by omega) T 99999999 hF q1 q3
      simp only [Bool.not_true, cond_false]
      rw [w1, w2]
      simp only [Option.bind_some]
      rw [bnd w3, bnd w4]
      dsimp only
      rw [opt_t, bnd (qItems_eq _), ho]
      exact ⟨_, rfl, rfl, rfl⟩
    · rw [s1] at q4
      obtain rfl := Option.some.inj q4
      exact ⟨_, rfl, rfl, rfl⟩
  obtain ⟨w, w1, w2, rfl⟩ := hend
  rcases add_case ha g (by omega) x 99999999 hF with ⟨q1, q2, q3, q4⟩ | ⟨q3, q4⟩
  · rw [n1] at q3
    obtain rfl := Option.some.inj q3
    rw [cond_true]
    dsimp only
    rw [bnd (last_added ha g (by omega) x 99999999 hF q2)]
    rcases open_case ha (g ++ [x]) (by simp; omega) 99999999 hF with ⟨z, z1, z2, z3, z4, z5, z6⟩ | ⟨z, _⟩
    · rw [bnd z6, bnd z5]
      obtain ⟨k', e⟩ := found_l 99999999 (l, h, T) st st o (a, g, x) (b, k, i, j) u u r r ((g.length : Int), true) (allL z.open' 0, true) (allL z.open' 0, true) (allL z.open' 0) 0 false z4
      rw [e, laws_FnOpenReviews_l1]
      dsimp only
      have hfound : decide ([x.item, x.name] ∈ allL z.open' 0) = x.review := by
        obtain ⟨z0, y1, y2⟩ := runS_mid g none (startH a) z x [] z2
        have hz : (chg z0 x).1 = z := by
          have : ∀ (pre : List Change) (lo : Option Int) (s : HiState), runS lo s pre = some z0 → runS lo s (pre ++ [x]) = some z → (chg z0 x).1 = z := by
            intro pre
            induction pre with
            | nil =>
              intro lo s h1 h2
              rw [runS] at h1; cases h1
              rw [List.nil_append, runS] at h2
              split at h2
              · rw [runS] at h2; exact Option.some.inj h2
              · cases h2
            | cons p pre ih =>
              intro lo s h1 h2
              rw [List.cons_append, runS] at h2
              rw [runS] at h1
              split at h1
              · rename_i hq; rw [if_pos hq] at h2; exact ih _ _ h1 h2
              · cases h1
          exact this g none (startH a) y1 z2
        have hx0 : StOk z0 := by
          obtain ⟨bb, b1, b2, b3, _⟩ := isHistory_eq ha (g ++ [x]) (by simp; omega) 99999999 hF
          obtain rfl : bb = true := by rw [q2] at b1; exact (Option.some.inj b1).symm
          obtain ⟨hi, _, _⟩ := b3 rfl
          obtain ⟨s', y, p1, p2, p3, p4⟩ := (stateOf_eq hi g (by omega) 100000).2 z0 y1
          rw [all_ticks hi y1] at p2
          obtain rfl : z0 = y := by rw [show runH a g = some z0 from y1] at p2; exact Option.some.inj p2
          exact p4
        rw [← hz, Bool.eq_iff_iff, decide_eq_true_eq, mem_opn, chg_opn hx0 x y2]
      rw [hfound]
      simp only [beq_self_eq_true, bne_self_eq_false, Bool.not_true, Bool.not_false, Bool.or_false, Bool.false_or, opt_t]
      rw [bnd (qLists_eq _)]
      simp only [Bool.not_true, Bool.or_false, cond_false]
      rw [bnd c1, bnd c2, c3, cond_false]
      exact w1
    · exact absurd q2 z
  · rw [n1] at q3
    obtain rfl := Option.some.inj q3
    rw [cond_false, bnd c1, bnd c2, c3, cond_false]
    exact w2

end Go.Proofs.Ytheaoahofklidaa

/- Plain lemmas: what the functions compute is what the reference says, in plain Lean. No condition. -/
import Derived.Test.YtgcnndkbpmnmgaaPStand1
set_option maxRecDepth 4000
set_option maxHeartbeats 1000000
set_option linter.unusedVariables false
set_option linter.unusedSimpArgs false
set_option linter.unusedSectionVars false

namespace Go.Proofs.Ytgcnndkbpmnmgaa
open Go.AM
theorem law_FnStandingsF (F : Nat) (hF : 1048576 < F) (code more : List Int) (hw : wfByteS code) (hv : wfByteS more) : laws_FnStandings_p F code more = some true := by
  have hcl : code.length ≤ 9223372036854775807 := hw.1
  have hml : more.length ≤ 9223372036854775807 := hv.1
  unfold laws_FnStandings_p
  by_cases hbig : w64 ((code.length : Int) + (more.length : Int)) > 1048576
  · rw [decide_eq_true hbig]; rfl
  rw [decide_eq_false hbig, cond_false]
  obtain ⟨s, d1, n1⟩ := drawPlacesOf_ok hw.2 hcl F hF
  obtain ⟨a, k, d2, n2⟩ := drawTotalOf_ok hv.2 hml F hF
  obtain ⟨b, sk, ev, mo, d3, n3⟩ := drawMostStill_ok hv.2 hml F hF
  obtain ⟨p, p1, p2, _⟩ := same_PlacesOf s (by omega) F hF
  obtain ⟨t, t1, t2⟩ := same_TotalOf a (by omega) k F hF
  obtain ⟨r, r1, r2⟩ := same_MostStill b (by omega) sk ev mo F hF
  obtain ⟨u, u1, u2⟩ := same_TotalOf b (by omega) sk F hF
  rw [bnd d1, bnd p2, bnd p1, bnd d2]
  dsimp only
  rw [show (Season.mk a.best a.lines) = a from rfl, bnd t2, bnd t1, bnd d3]
  dsimp only
  rw [show (Season.mk b.best b.lines) = b from rfl, bnd r2, bnd r1]
  simp only [beq_self_eq_true, bne_self_eq_false, Bool.not_true, Bool.not_false, Bool.or_false, opt_t]
  rw [bnd (qInts_eq _)]
  have ht : (t.2 && decide (t.1 < 0)) = false := by
    rcases totalOf_case a (by omega) k F hF with ⟨x, hx, hok, _, f2, _⟩ | ⟨_, f2, _⟩
    · rw [t1] at f2
      obtain rfl := Option.some.inj f2
      obtain ⟨c1, c2, _⟩ := counted_sum hok hx
      rw [decide_eq_false (by dsimp only; omega), Bool.and_false]
    · rw [t1] at f2
      obtain rfl := Option.some.inj f2
      rfl
  rw [ht]
  simp only [Bool.not_true, Bool.or_false, cond_false]
  have hend : cond (!p.2) (some true) (laws_FnStandings_l1 F s p F s.lines [] s.lines 0) = some true ∧ cond (!p.2) (some true) (laws_FnStandings_l4 F s p F s.lines [] s.lines 0) = some true := by
    rcases places_case s (by omega) F hF with ⟨hok, q1, _⟩ | ⟨q, q1, _⟩
    · rw [p1] at q1
      obtain rfl := Option.some.inj q1
      have h80 := lines_len hok
      exact stand_l1 s (by omega) hok (s.lines.map (plcN s), true) rfl F hF s.lines [] F rfl (by omega)
    · rw [p1] at q1
      obtain rfl := Option.some.inj q1
      exact ⟨rfl, rfl⟩
  cases hr : r.2
  · rw [cond_false]
    exact hend.2
  · obtain ⟨e1, e2, e3⟩ := still_ok b (by omega) sk ev mo F hF r1 u1 hr
    rw [cond_true, bnd u2, bnd u1, decide_eq_false (by omega), decide_eq_false (by omega)]
    simp only [beq_self_eq_true, bne_self_eq_false, Bool.not_true, Bool.or_false, Bool.false_or]
    have : ((ev == 0) && (r.1 != u.1)) = false := by
      by_cases h0 : ev = 0
      · rw [e3 h0, bne_self_eq_false, Bool.and_false]
      · rw [show (ev == 0) = false from by simp [h0]]; rfl
    rw [this, cond_false]
    exact hend.1
theorem law_FnStandings (code more : List Int) (hw : wfByteS code) (hv : wfByteS more) : laws_FnStandings_p 99999999 code more = some true := law_FnStandingsF 99999999 (by omega) code more hw hv

end Go.Proofs.Ytgcnndkbpmnmgaa

/- Plain lemmas: what the functions compute is what the reference says, in plain Lean. No condition. -/
import Derived.Test.YtbclgnikhophlaaGreatPDraw10
set_option maxRecDepth 4000
set_option maxHeartbeats 1000000
set_option linter.unusedVariables false
set_option linter.unusedSimpArgs false
set_option linter.unusedSectionVars false

namespace Go.Proofs.YtbclgnikhophlaaGreat
open Go.AM

theorem st_id (o : Option (Event × Bool)) : (o.bind fun x => some (Event.mk x.1.segments x.1.size x.1.key x.1.entrants x.1.gone x.1.segment x.1.order x.1.results, x.2)) = o := by
  cases o <;> rfl
theorem ret_some (e : Event) : Ret (slices_ContainsFunc_Entrant_p e.entrants (fun a0 => impl_AllowedSteps_c1_p a0 e)) (thS e e.entrants ≠ []) := by
  unfold slices_ContainsFunc_Entrant_p slices_IndexFunc_Entrant_p
  obtain ⟨i, i1, i2⟩ := idxEntr (fun a0 => impl_AllowedSteps_c1_p a0 e) (fun x => x.skater ∈ skE e ∧ x.skater ∉ e.gone) e.entrants 0 fun x _ => by
    obtain ⟨b, b1, b2⟩ := ret_isThere e x.skater
    exact ⟨b, by unfold impl_AllowedSteps_c1_p; rw [bnd b1], b2⟩
  rw [bnd i1]
  refine .some ?_
  rw [decide_eq_true_eq, i2]
  constructor
  · rintro ⟨x, hx, _, hg⟩ k
    have : x ∈ thS e e.entrants := List.mem_filter.2 ⟨hx, decide_eq_true hg⟩
    rw [k] at this; simp at this
  · intro k
    obtain ⟨x, hx⟩ := List.exists_mem_of_ne_nil _ k
    obtain ⟨h1, h2⟩ := List.mem_filter.1 hx
    exact ⟨x, h1, List.mem_map.2 ⟨x, h1, rfl⟩, of_decide_eq_true h2⟩
theorem draw_same (e : Event) (hb : nEvent e ≤ 1048576) (fuel : Nat) (hf : 1048576 < fuel) (hg : spec_evGood_p fuel e = some true) (hlt : e.segment < e.segments) : ∃ r : Event × Bool, spec_evDraw_p fuel e = some r ∧ impl_BeginSegment_p fuel e = some r := by
  obtain ⟨r, r1, r2, _⟩ := same_BeginSegment e hb fuel hf
  refine ⟨r, ?_, r2⟩
  unfold spec_BeginSegment_p at r1
  rw [st_id, asked e _ fuel hg hlt] at r1
  exact r1
theorem same_AllowedSteps (e : Event) (hb : nEvent e ≤ 1048576) (fuel : Nat) (hf : 1048576 < fuel) : ∃ r : List Int × Bool, spec_AllowedSteps_p fuel e = some r ∧ impl_AllowedSteps_p fuel e = some r ∧ r.1.length ≤ 3 := by
  obtain ⟨b1, b2, b3, b4, b5, b6⟩ := sizes_E hb
  unfold spec_AllowedSteps_p impl_AllowedSteps_p
  rcases both_event e hb fuel hf with ⟨h1, h2, h3⟩ | ⟨h1, h2⟩
  · rw [bnd h1, bnd h2]
    simp only [Bool.not_true, cond_false]
    have h4 : impl_isRunning_p e = some (decide (e.segment < e.segments)) := by
      rcases running e hb fuel hf with ⟨_, q, _⟩ | ⟨q, _⟩
      · exact q
      · rw [q] at h1; cases h1
    rw [bnd h4]
    have hle := h3.1.2.2.2.1.2
    by_cases hlt : e.segment < e.segments
    · rw [decide_eq_true hlt, show (e.segment == e.segments) = false from by simp only [beq_eq_false_iff_ne, ne_eq]; omega]
      simp only [Bool.not_true, cond_false]
      obtain ⟨r, r1, r2⟩ := draw_same e hb fuel hf h1 hlt
      obtain ⟨b, s1, s2⟩ := ret_some e
      have hd : decide (((thS e e.entrants).length : Int) > 0) = b := by
        rw [Bool.eq_iff_iff, s2, decide_eq_true_eq, ← List.length_pos_iff]; omega
      rw [bnd (show spec_evThere_p e = some (thS e e.entrants) from there_eq e b1), bnd s1, hd, bnd r1, bnd r2, bnd r1, bnd r2]
      cases b <;> cases r.2 <;> cases decide ((e.order.length : Int) > 0) <;> exact ⟨_, rfl, rfl, by simp⟩
    · rw [decide_eq_false hlt, show (e.segment == e.segments) = true from by simp only [beq_iff_eq]; omega]
      exact ⟨_, rfl, rfl, by simp⟩
  · rw [bnd h1, bnd h2]
    exact ⟨_, rfl, rfl, by simp⟩

end Go.Proofs.YtbclgnikhophlaaGreat

/- Plain lemmas: what the functions compute is what the reference says, in plain Lean. No condition. -/
import Derived.Test.YtgcnndkbpmnmgaaPSeason3
set_option maxRecDepth 4000
set_option maxHeartbeats 1000000
set_option linter.unusedVariables false
set_option linter.unusedSimpArgs false
set_option linter.unusedSectionVars false

namespace Go.Proofs.Ytgcnndkbpmnmgaa
open Go.AM

theorem seAll_l2 (y : Line) : ∀ (ys ps pre ppre : List Int) (acc : List Entry), y.events = pre ++ ys → y.points = ppre ++ ps → pre.length = ppre.length → ys.length = ps.length → acc.length + ys.length ≤ 1048576 →
    spec_seAll_l2 y ys pre.length acc = some (acc ++ List.zipWith (mkE y.skater) ys ps) := by
  intro ys
  induction ys with
  | nil => intro ps pre ppre acc h1 h2 h3 h4 h5; rw [spec_seAll_l2]; simp
  | cons e ys ih =>
    intro ps pre ppre acc h1 h2 h3 h4 h5
    cases ps with
    | nil => simp at h4
    | cons p ps =>
    rw [spec_seAll_l2, bnd (getI_app h2 (by rw [h3])), bnd (x := ()) (by rw [fits_of (by simp at h5 ⊢; omega)]; rfl)]
    have := ih ps (pre ++ [e]) (ppre ++ [p]) (acc ++ [⟨e, y.skater, p⟩]) (by rw [h1]; simp) (by rw [h2]; simp) (by simp [h3]) (by simpa using h4) (by simp at h5 ⊢; omega)
    simpa [mkE] using this
theorem seAll_l1 : ∀ (ys : List Line) (k : Nat) (acc : List Entry), (∀ x ∈ ys, x.points.length = x.events.length) → acc.length + (ys.map fun x => x.events.length).sum ≤ 1048576 →
    spec_seAll_l1 ys k acc = some (acc ++ ys.flatMap lineEs) := by
  intro ys
  induction ys with
  | nil => intro k acc _ _; rw [spec_seAll_l1]; simp
  | cons y ys ih =>
    intro k acc h1 h2
    simp only [List.map_cons, List.sum_cons] at h2
    have hy := h1 y (by simp)
    have hl : (List.zipWith (mkE y.skater) y.events y.points).length = y.events.length := by rw [List.length_zipWith, hy, Nat.min_self]
    rw [spec_seAll_l1, bnd (show spec_seAll_l2 y y.events 0 acc = _ from seAll_l2 y y.events y.points [] [] acc rfl rfl rfl hy.symm (by omega)), ih (k + 1) _ (fun x hx => h1 x (by simp [hx])) (by rw [List.length_append, hl]; omega)]
    simp [lineEs]
    rfl
theorem seAll_eq (s : Season) (hb : nSeason s ≤ 1048576) (h : ∀ x ∈ s.lines, x.points.length = x.events.length) : spec_seAll_p s = some (seasonEs s) := by
  unfold spec_seAll_p seasonEs
  rw [seAll_l1 s.lines 0 [] h (by have := sum_ev s.lines; unfold nSeason nLineS at hb; simp; omega)]
  simp
theorem same_EntriesOf (s : Season) (hb : nSeason s ≤ 1048576) (fuel : Nat) (hf : 1048576 < fuel) : ∃ r : List Entry × Bool, spec_EntriesOf_p s = some r ∧ impl_EntriesOf_p fuel s = some r ∧ r.1.length ≤ 80 := by
  obtain ⟨b, g1, g2⟩ := ret_seGood s hb
  obtain ⟨b', g1', g2'⟩ := ret_impl_IsSeason s hb fuel hf
  obtain rfl : b = b' := Bool.eq_iff_iff.2 (g2.trans g2'.symm)
  unfold spec_EntriesOf_p impl_EntriesOf_p
  rw [bnd g1, bnd g1']
  cases b
  · exact ⟨_, rfl, rfl, by simp⟩
  have hok := g2.1 rfl
  have hl : ∀ x ∈ s.lines, x.points.length = x.events.length := fun x hx => (hok.2.1 x hx).1
  simp only [Bool.not_true, cond_false]
  rw [bnd (seAll_eq s hb hl), bnd (entriesOf_eq s hb hl)]
  exact ⟨_, rfl, rfl, hok.2.2.2.2⟩

end Go.Proofs.Ytgcnndkbpmnmgaa

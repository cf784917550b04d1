/- Plain lemmas: what the functions compute is what the reference says, in plain Lean. No condition. -/
import Derived.Test.YtegdphhfimaieacGreatPPanel5
set_option maxRecDepth 4000
set_option maxHeartbeats 1000000
set_option linter.unusedVariables false
set_option linter.unusedSimpArgs false
set_option linter.unusedSectionVars false

namespace Go.Proofs.YtegdphhfimaieacGreat
open Go.AM
theorem repl_end {more : List Int} (hv : wfByteS more) (F : Nat) (hF : 1048576 < F) (u : List Int × List Official × Int × Int) (k : Nat) (v : List Int) : laws_FnReplaced_l2 more F u [] k v = some true := by
  have hml : more.length ≤ 9223372036854775807 := hv.1
  rw [laws_FnReplaced_l2]
  obtain ⟨l, c, level, most, n, d1, k1, k2⟩ := drawCountPanels_ok hv.2 hml F hF
  obtain ⟨g, g1, g2⟩ : ∃ g : Int × Bool, spec_CountPanels_p F l c level most n = some g ∧ impl_CountPanels_p F l c level most n = some g := by
    rcases count_case l (by omega) c (by omega) level most n F hF with ⟨M, N, _, _, _, _, _, e1, e2⟩ | ⟨_, x, e1, e2⟩
    · exact ⟨_, e1, e2⟩
    · exact ⟨_, e1, e2⟩
  rw [bnd d1]
  dsimp only
  rw [bnd g2, bnd g1]
  obtain ⟨l, p, d1, k1, k2⟩ := drawClubsOfPanel_ok hv.2 hml F hF
  obtain ⟨r, r1, r2, _⟩ := clubsOf_case l (by omega) p (by omega) F hF
  rw [bnd d1]
  dsimp only
  rw [bnd r2, bnd r1]
  obtain ⟨l, c, level, most, d1, k1, k2⟩ := drawLargestPanel_ok hv.2 hml F hF
  obtain ⟨h, h1, h2⟩ : ∃ g : Int × Bool, spec_LargestPanel_p F l c level most = some g ∧ impl_LargestPanel_p l c level most = some g := by
    rcases largest_case l (by omega) c (by omega) level most F hF with ⟨M, _, _, _, e1, e2⟩ | ⟨_, x, e1, e2⟩
    · exact ⟨_, e1, e2⟩
    · exact ⟨_, e1, e2⟩
  rw [bnd d1]
  dsimp only
  rw [bnd h2, bnd h1]
  simp only [beq_self_eq_true, Bool.and_true, opt_t]
  rw [bnd (sameInts_eq _)]
  rfl
theorem repl_l3 : ∀ (ys : List Int) (k : Nat) (v : List Int), (v ++ ys).Nodup → v.length + ys.length ≤ 1000 → laws_FnReplaced_l3 ys k v = some (.ok (v ++ ys)) := by
  intro ys
  induction ys with
  | nil => intro k v _ _; rw [laws_FnReplaced_l3, List.append_nil]
  | cons y ys ih =>
    intro k v h hl
    simp only [List.length_cons] at hl
    obtain ⟨b, b1, b2⟩ := ret_pIn v y
    have hb : b = false := by
      cases b
      · rfl
      · exact absurd rfl ((List.nodup_append.1 h).2.2 y (b2.1 rfl) y (by simp))
    subst hb
    rw [laws_FnReplaced_l3, bnd b1, cond_false, fits_of (by simp; omega), need_t, Option.bind_some, ih (k + 1) (v ++ [y]) (by simpa using h) (by simp; omega)]
    simp
theorem repl_l2 {more : List Int} (hv : wfByteS more) (F : Nat) (hF : 1048576 < F) (u : List Int × List Official × Int × Int) : ∀ (ys : List (List Int)) (k : Nat) (v : List Int), (v ++ ys.flatten).Nodup → (∀ z ∈ ys, (z.length : Int) = u.2.2.1) → v.length + ys.flatten.length ≤ 1000 → laws_FnReplaced_l2 more F u ys k v = some true := by
  intro ys
  induction ys with
  | nil => intro k v _ _ _; exact repl_end hv F hF u k v
  | cons y ys ih =>
    intro k v h hn hl
    rw [List.flatten_cons] at h hl
    rw [List.length_append] at hl
    rw [← List.append_assoc] at h
    rw [laws_FnReplaced_l2, show ((y.length : Int) != u.2.2.1) = false from by rw [bne_eq_false_iff_eq]; exact hn y (by simp), cond_false, repl_l3 y 0 v (List.nodup_append.1 h).1 (by omega), Option.bind_some]
    exact ih (k + 1) (v ++ y) h (fun z hz => hn z (by simp [hz])) (by rw [List.length_append]; omega)
theorem repl_l5 : ∀ (ys : List Int) (k : Nat) (v : List Int), laws_FnReplaced_l5 ys k v = laws_FnReplaced_l3 ys k v := by
  intro ys
  induction ys with
  | nil => intro k v; rw [laws_FnReplaced_l5, laws_FnReplaced_l3]
  | cons y ys ih => intro k v; rw [laws_FnReplaced_l5, laws_FnReplaced_l3]; simp only [ih]
theorem repl_l4 (more : List Int) (F : Nat) (u : List Int × List Official × Int × Int) : ∀ (ys : List (List Int)) (k : Nat) (v : List Int), laws_FnReplaced_l4 more F u ys k v = laws_FnReplaced_l2 more F u ys k v := by
  intro ys
  induction ys with
  | nil => intro k v; rw [laws_FnReplaced_l4, laws_FnReplaced_l2]
  | cons y ys ih => intro k v; rw [laws_FnReplaced_l4, laws_FnReplaced_l2]; simp only [ih, repl_l5]
theorem repl_tail {more : List Int} (hv : wfByteS more) (F : Nat) (hF : 1048576 < F) : ((spec_DrawSpreadPanels_p F more).bind fun x28 =>
      (impl_SpreadPanels_p F x28.1 x28.2.1 x28.2.2.1 x28.2.2.2).bind fun x30 =>
      (spec_SpreadPanels_p F x28.1 x28.2.1 x28.2.2.1 x28.2.2.2).bind fun x32 =>
      (opt (!(!(x30.2 == x32.2))) default (laws_sameLists_p x30.1 x32.1)).bind fun x34 =>
      cond ((!(x30.2 == x32.2)) || (!x34))
        (some false)
        (laws_FnReplaced_l2 more F x28 x32.1 0 [])) = some true := by
  have hml : more.length ≤ 9223372036854775807 := hv.1
  obtain ⟨K, l, n, p, d1, k1⟩ := drawSpreadPanels_ok hv.2 hml F hF
  obtain ⟨r, r1, r2, r3, r4, r5⟩ := spread_case K l (by omega) n p F hF
  rw [bnd d1]
  dsimp only
  rw [bnd r2, bnd r1]
  simp only [beq_self_eq_true, Bool.not_true, Bool.not_false, opt_t, Bool.false_or]
  rw [bnd (sameLists_eq _)]
  simp only [Bool.not_true, cond_false]
  exact repl_l2 hv F hF (K, l, n, p) r.1 0 [] (by simpa using r4) r3 (by simp only [List.length_nil]; omega)
theorem repl_l1 (more : List Int) (F : Nat) (x3 : List Int × List Official × List Int × Int × Int × List Int × Int) : ∀ (ys : List Int) (k : Nat) (v : Nat), v + ys.length ≤ 1000 →
    laws_FnReplaced_l1 more F x3 ys k (v : Int) = laws_FnReplaced_l1 more F x3 [] 0 ((v + (ys.filter fun n => decide (n ∈ x3.2.2.2.2.2.1)).length : Nat) : Int) := by
  intro ys
  induction ys with
  | nil => intro k v _; rw [laws_FnReplaced_l1, laws_FnReplaced_l1]; rfl
  | cons y ys ih =>
    intro k v h
    simp only [List.length_cons] at h
    obtain ⟨b, b1, b2⟩ := ret_pIn x3.2.2.2.2.2.1 y
    have hu : laws_FnReplaced_l1 more F x3 (y :: ys) k (v : Int) = cond b (laws_FnReplaced_l1 more F x3 ys (k + 1) (w64 ((v : Int) + 1))) (laws_FnReplaced_l1 more F x3 ys (k + 1) (v : Int)) := by rw [laws_FnReplaced_l1, bnd b1]
    rw [hu]
    cases b
    · rw [cond_false, ih (k + 1) v (by omega), List.filter_cons_of_neg (by simpa using fun q => absurd (b2.2 q) (by simp))]
    · rw [cond_true, w64_in (by omega), show (v : Int) + 1 = ((v + 1 : Nat) : Int) from by omega, ih (k + 1) (v + 1) (by omega), List.filter_cons_of_pos (by simpa using b2.1 rfl), List.length_cons, show v + 1 + (ys.filter fun n => decide (n ∈ x3.2.2.2.2.2.1)).length = v + ((ys.filter fun n => decide (n ∈ x3.2.2.2.2.2.1)).length + 1) from by omega]
theorem law_FnReplacedF (F : Nat) (hF : 1048576 < F) (code more : List Int) (hw : wfByteS code) (hv : wfByteS more) : laws_FnReplaced_p F code more = some true := by
  have hcl : code.length ≤ 9223372036854775807 := hw.1
  have htail := repl_tail hv F hF
  unfold laws_FnReplaced_p laws_big_p
  rw [Option.bind_some]
  cases decide ((code.length : Int) > 1048576) || decide ((more.length : Int) > w64 (1048576 - (code.length : Int)))
  rotate_left
  · rfl
  rw [cond_false]
  simp only [repl_l4]
  obtain ⟨K, l, clubs, level, most, p, gone, d1, k1, k2, k3⟩ := drawReplaceJudge_ok hw.2 hcl F hF
  obtain ⟨r, r1, r2, r3, r4⟩ := replace_case K l (by omega) clubs (by omega) level most p (by omega) gone F hF
  rw [bnd d1]
  dsimp only
  rw [bnd r2, bnd r1]
  simp only [beq_self_eq_true, Bool.not_true, Bool.not_false, opt_t, Bool.false_or]
  rw [bnd (sameInts_eq _)]
  simp only [Bool.not_true, cond_false]
  cases hr : r.2
  · exact htail
  · obtain ⟨hA, hm, hP, hlen, hgone, hcnt⟩ := r4 hr
    have q2 := isPanel_impl l (by omega) clubs (by omega) level most r.1 (by omega) F hF hA hm hP
    have hp1 := hP.1.1
    rw [cond_true, bnd q2, show ((r.1.length : Int) != (p.length : Int)) = false from by rw [bne_eq_false_iff_eq]; omega]
    simp only [Bool.not_true, Bool.not_false, Bool.or_false, opt_t]
    obtain ⟨b, b1, b2⟩ := ret_pIn r.1 gone
    have hb : b = false := by
      cases b
      · rfl
      · exact absurd (b2.1 rfl) hgone
    subst hb
    rw [bnd b1]
    simp only [Bool.false_or, cond_false]
    have := repl_l1 more F (K, l, clubs, level, most, p, gone) r.1 0 0 (by omega)
    rw [show ((0 : Nat) : Int) = 0 from rfl] at this
    rw [this, laws_FnReplaced_l1]
    dsimp only
    rw [hcnt, w64_in (by omega), show (((0 + (p.length - 1) : Nat) : Int) != (p.length : Int) - 1) = false from by rw [bne_eq_false_iff_eq]; omega, cond_false]
    exact htail
theorem law_FnReplaced (code more : List Int) (hw : wfByteS code) (hv : wfByteS more) : laws_FnReplaced_p 99999999 code more = some true := law_FnReplacedF 99999999 (by omega) code more hw hv

end Go.Proofs.YtegdphhfimaieacGreat

/- Plain lemmas: what the functions compute is what the reference says, in plain Lean. No condition. -/
import Derived.Test.YtgcnndkbpmnmgaaPSeas1
set_option maxRecDepth 4000
set_option maxHeartbeats 1000000
set_option linter.unusedVariables false
set_option linter.unusedSimpArgs false
set_option linter.unusedSectionVars false

namespace Go.Proofs.Ytgcnndkbpmnmgaa
open Go.AM
theorem seas_l5 (x1 : Int × List Entry) (x5 : Season × Bool) (v : Int) (w : List Line) : ∀ (ys : List Entry) (k : Nat) (acc : List Entry), laws_FnSeasons_l5 x1 x5 v w ys k acc = laws_FnSeasons_l3 x1 x5 v w ys k acc := by
  intro ys
  induction ys with
  | nil => intro k acc; rw [laws_FnSeasons_l5, laws_FnSeasons_l3]
  | cons y ys ih => intro k acc; rw [laws_FnSeasons_l5, laws_FnSeasons_l3]; simp only [ih]
theorem seas_l8 (x1 : Int × List Entry) (x5 : Season × Bool) (v : Int) (w : List Line) : ∀ (ys : List Entry) (k : Nat) (acc : List Entry), laws_FnSeasons_l8 x1 x5 v w ys k acc = laws_FnSeasons_l3 x1 x5 v w ys k acc := by
  intro ys
  induction ys with
  | nil => intro k acc; rw [laws_FnSeasons_l8, laws_FnSeasons_l3]
  | cons y ys ih => intro k acc; rw [laws_FnSeasons_l8, laws_FnSeasons_l3]; simp only [ih]
theorem seas_l10 (x1 : Int × List Entry) (x5 : Season × Bool) (v : Int) (w : List Line) : ∀ (ys : List Entry) (k : Nat) (acc : List Entry), laws_FnSeasons_l10 x1 x5 v w ys k acc = laws_FnSeasons_l3 x1 x5 v w ys k acc := by
  intro ys
  induction ys with
  | nil => intro k acc; rw [laws_FnSeasons_l10, laws_FnSeasons_l3]
  | cons y ys ih => intro k acc; rw [laws_FnSeasons_l10, laws_FnSeasons_l3]; simp only [ih]
theorem seas_l13 (x1 : Int × List Entry) (x5 : Season × Bool) (v : Int) (w : List Line) : ∀ (ys : List Entry) (k : Nat) (acc : List Entry), laws_FnSeasons_l13 x1 x5 v w ys k acc = laws_FnSeasons_l3 x1 x5 v w ys k acc := by
  intro ys
  induction ys with
  | nil => intro k acc; rw [laws_FnSeasons_l13, laws_FnSeasons_l3]
  | cons y ys ih => intro k acc; rw [laws_FnSeasons_l13, laws_FnSeasons_l3]; simp only [ih]
theorem seas_l15 (x1 : Int × List Entry) (x5 : Season × Bool) (v : Int) (w : List Line) : ∀ (ys : List Entry) (k : Nat) (acc : List Entry), laws_FnSeasons_l15 x1 x5 v w ys k acc = laws_FnSeasons_l3 x1 x5 v w ys k acc := by
  intro ys
  induction ys with
  | nil => intro k acc; rw [laws_FnSeasons_l15, laws_FnSeasons_l3]
  | cons y ys ih => intro k acc; rw [laws_FnSeasons_l15, laws_FnSeasons_l3]; simp only [ih]
theorem seas_l18 (x1 : Int × List Entry) (x5 : Season × Bool) (v : Int) (w : List Line) : ∀ (ys : List Entry) (k : Nat) (acc : List Entry), laws_FnSeasons_l18 x1 x5 v w ys k acc = laws_FnSeasons_l3 x1 x5 v w ys k acc := by
  intro ys
  induction ys with
  | nil => intro k acc; rw [laws_FnSeasons_l18, laws_FnSeasons_l3]
  | cons y ys ih => intro k acc; rw [laws_FnSeasons_l18, laws_FnSeasons_l3]; simp only [ih]
theorem seas_l20 (x1 : Int × List Entry) (x5 : Season × Bool) (v : Int) (w : List Line) : ∀ (ys : List Entry) (k : Nat) (acc : List Entry), laws_FnSeasons_l20 x1 x5 v w ys k acc = laws_FnSeasons_l3 x1 x5 v w ys k acc := by
  intro ys
  induction ys with
  | nil => intro k acc; rw [laws_FnSeasons_l20, laws_FnSeasons_l3]
  | cons y ys ih => intro k acc; rw [laws_FnSeasons_l20, laws_FnSeasons_l3]; simp only [ih]
theorem seas_l4 (fuel : Nat) (x1 : Int × List Entry) (x5 : Season × Bool) : ∀ (ys : List Entry) (k : Nat) (v : Int) (w : List Line), laws_FnSeasons_l4 fuel x1 x5 ys k v w = laws_FnSeasons_l2 fuel x1 x5 ys k v w := by
  intro ys
  induction ys with
  | nil => intro k v w; rw [laws_FnSeasons_l4, laws_FnSeasons_l2, seas_l5]
  | cons y ys ih => intro k v w; rw [laws_FnSeasons_l4, laws_FnSeasons_l2]; simp only [ih]
theorem seas_l7 (fuel : Nat) (x1 : Int × List Entry) (x5 : Season × Bool) : ∀ (ys : List Entry) (k : Nat) (v : Int) (w : List Line), laws_FnSeasons_l7 fuel x1 x5 ys k v w = laws_FnSeasons_l2 fuel x1 x5 ys k v w := by
  intro ys
  induction ys with
  | nil => intro k v w; rw [laws_FnSeasons_l7, laws_FnSeasons_l2, seas_l8]
  | cons y ys ih => intro k v w; rw [laws_FnSeasons_l7, laws_FnSeasons_l2]; simp only [ih]
theorem seas_l9 (fuel : Nat) (x1 : Int × List Entry) (x5 : Season × Bool) : ∀ (ys : List Entry) (k : Nat) (v : Int) (w : List Line), laws_FnSeasons_l9 fuel x1 x5 ys k v w = laws_FnSeasons_l2 fuel x1 x5 ys k v w := by
  intro ys
  induction ys with
  | nil => intro k v w; rw [laws_FnSeasons_l9, laws_FnSeasons_l2, seas_l10]
  | cons y ys ih => intro k v w; rw [laws_FnSeasons_l9, laws_FnSeasons_l2]; simp only [ih]
theorem seas_l12 (fuel : Nat) (x1 : Int × List Entry) (x5 : Season × Bool) : ∀ (ys : List Entry) (k : Nat) (v : Int) (w : List Line), laws_FnSeasons_l12 fuel x1 x5 ys k v w = laws_FnSeasons_l2 fuel x1 x5 ys k v w := by
  intro ys
  induction ys with
  | nil => intro k v w; rw [laws_FnSeasons_l12, laws_FnSeasons_l2, seas_l13]
  | cons y ys ih => intro k v w; rw [laws_FnSeasons_l12, laws_FnSeasons_l2]; simp only [ih]
theorem seas_l14 (fuel : Nat) (x1 : Int × List Entry) (x5 : Season × Bool) : ∀ (ys : List Entry) (k : Nat) (v : Int) (w : List Line), laws_FnSeasons_l14 fuel x1 x5 ys k v w = laws_FnSeasons_l2 fuel x1 x5 ys k v w := by
  intro ys
  induction ys with
  | nil => intro k v w; rw [laws_FnSeasons_l14, laws_FnSeasons_l2, seas_l15]
  | cons y ys ih => intro k v w; rw [laws_FnSeasons_l14, laws_FnSeasons_l2]; simp only [ih]
theorem seas_l17 (fuel : Nat) (x1 : Int × List Entry) (x5 : Season × Bool) : ∀ (ys : List Entry) (k : Nat) (v : Int) (w : List Line), laws_FnSeasons_l17 fuel x1 x5 ys k v w = laws_FnSeasons_l2 fuel x1 x5 ys k v w := by
  intro ys
  induction ys with
  | nil => intro k v w; rw [laws_FnSeasons_l17, laws_FnSeasons_l2, seas_l18]
  | cons y ys ih => intro k v w; rw [laws_FnSeasons_l17, laws_FnSeasons_l2]; simp only [ih]
theorem seas_l19 (fuel : Nat) (x1 : Int × List Entry) (x5 : Season × Bool) : ∀ (ys : List Entry) (k : Nat) (v : Int) (w : List Line), laws_FnSeasons_l19 fuel x1 x5 ys k v w = laws_FnSeasons_l2 fuel x1 x5 ys k v w := by
  intro ys
  induction ys with
  | nil => intro k v w; rw [laws_FnSeasons_l19, laws_FnSeasons_l2, seas_l20]
  | cons y ys ih => intro k v w; rw [laws_FnSeasons_l19, laws_FnSeasons_l2]; simp only [ih]
theorem seas_l6 (fuel : Nat) (x1 : Int × List Entry) (x3 x5 : Season × Bool) (x19 : Season × Int) : ∀ (ys : List Entry) (k : Nat), laws_FnSeasons_l6 fuel x1 x3 x5 x19 ys k = laws_FnSeasons_l1 fuel x1 x3 x5 x19 ys k := by
  intro ys
  induction ys with
  | nil => intro k; rw [laws_FnSeasons_l6, laws_FnSeasons_l1, seas_l7]
  | cons y ys ih => intro k; rw [laws_FnSeasons_l6, laws_FnSeasons_l1, ih]
theorem seas_l11 (fuel : Nat) (x1 : Int × List Entry) (x3 x5 : Season × Bool) (x19 : Season × Int) : ∀ (ys : List Entry) (k : Nat), laws_FnSeasons_l11 fuel x1 x3 x5 x19 ys k = laws_FnSeasons_l1 fuel x1 x3 x5 x19 ys k := by
  intro ys
  induction ys with
  | nil => intro k; rw [laws_FnSeasons_l11, laws_FnSeasons_l1, seas_l12]
  | cons y ys ih => intro k; rw [laws_FnSeasons_l11, laws_FnSeasons_l1, ih]
theorem seas_l16 (fuel : Nat) (x1 : Int × List Entry) (x3 x5 : Season × Bool) (x19 : Season × Int) : ∀ (ys : List Entry) (k : Nat), laws_FnSeasons_l16 fuel x1 x3 x5 x19 ys k = laws_FnSeasons_l1 fuel x1 x3 x5 x19 ys k := by
  intro ys
  induction ys with
  | nil => intro k; rw [laws_FnSeasons_l16, laws_FnSeasons_l1, seas_l17]
  | cons y ys ih => intro k; rw [laws_FnSeasons_l16, laws_FnSeasons_l1, ih]
theorem seas_l1 (fuel : Nat) (x1 : Int × List Entry) (x3 x5 : Season × Bool) (x19 : Season × Int) : ∀ (ys : List Entry) (k : Nat), (∀ x ∈ ys, x.event ≠ x19.2) → laws_FnSeasons_l1 fuel x1 x3 x5 x19 ys k = cond (!x3.2) (some true) (laws_FnSeasons_l2 fuel x1 x5 x1.2 0 x1.1 []) := by
  intro ys
  induction ys with
  | nil => intro k _; rw [laws_FnSeasons_l1]
  | cons y ys ih =>
    intro k h
    rw [laws_FnSeasons_l1, show (y.event == x19.2) = false from by simpa using h y (by simp), cond_false, ih _ (fun x hx => h x (by simp [hx]))]
theorem law_FnSeasonsF (F : Nat) (hF : 1048576 < F) (code more : List Int) (hw : wfByteS code) (hv : wfByteS more) : laws_FnSeasons_p F code more = some true := by
  have hcl : code.length ≤ 9223372036854775807 := hw.1
  have hml : more.length ≤ 9223372036854775807 := hv.1
  unfold laws_FnSeasons_p
  by_cases hbig : w64 ((code.length : Int) + (more.length : Int)) > 1048576
  · rw [decide_eq_true hbig]; rfl
  rw [decide_eq_false hbig, cond_false]
  obtain ⟨best, l, d1, n1⟩ := drawFreshSeason_ok hw.2 hcl F hF
  obtain ⟨a, e, d2, n2⟩ := drawAddEntry_ok hv.2 hml F hF
  obtain ⟨b, ev, sk, d3, n3⟩ := drawDropEntry_ok hv.2 hml F hF
  obtain ⟨c, n, d4, n4⟩ := drawDropEvent_ok hv.2 hml F hF
  obtain ⟨d, d5, n5⟩ := drawEntriesOf_ok hv.2 hml F hF
  obtain ⟨s, s1, s2, s3⟩ := same_FreshSeason best l (by omega) F hF
  obtain ⟨x, x1, x2, x3⟩ := same_AddEntry a (by omega) e F hF
  obtain ⟨y, y1, y2, y3⟩ := same_DropEntry b (by omega) ev sk F hF
  obtain ⟨z, z1, z2, z3⟩ := same_DropEvent c (by omega) n F hF
  obtain ⟨u, u1, u2, u3⟩ := same_EntriesOf d (by omega) F hF
  obtain ⟨p, p1, p2⟩ := ret_AreEntries l (by omega)
  obtain ⟨p', p1', p2'⟩ : Ret (spec_AreEntries_p l) (Ents l) := by
    unfold spec_AreEntries_p
    exact (ret_seEntries l (by omega)).bindR (fun h => .t h) (fun h => .f h)
  obtain rfl : p = p' := Bool.eq_iff_iff.2 (p2.trans p2'.symm)
  obtain ⟨q, q1, q2⟩ := ret_impl_IsSeason d (by omega) F hF
  have hq : q = u.2 := by
    rcases entries_case d (by omega) F hF with ⟨h1, h2, _⟩ | ⟨h1, r, h2, _⟩
    · rw [u1] at h2
      obtain rfl := Option.some.inj h2
      exact q2.2 h1
    · rw [u1] at h2
      obtain rfl := Option.some.inj h2
      cases q
      · rfl
      · exact absurd (q2.1 rfl) h1
  subst hq
  rw [bnd d1]
  dsimp only
  rw [bnd s2, bnd s1, bnd d2]
  dsimp only
  rw [show (Season.mk a.best a.lines) = a from rfl, show (Entry.mk e.event e.skater e.points) = e from rfl, bnd x2, bnd x1, bnd d3]
  dsimp only
  rw [show (Season.mk b.best b.lines) = b from rfl, bnd y2, bnd y1, bnd d4]
  dsimp only
  rw [show (Season.mk c.best c.lines) = c from rfl, bnd z2, bnd z1, bnd d5, bnd u2, bnd u1]
  have eS : ∀ t : Season, (Season.mk t.best t.lines) = t := fun _ => rfl
  simp only [beq_self_eq_true, Bool.not_true, Bool.not_false, opt_t, eS]
  rw [bnd (qSeason_eq _)]
  simp only [Bool.not_true, Bool.not_false, Bool.or_false, opt_t]
  rw [bnd (qSeason_eq _)]
  simp only [Bool.not_true, Bool.not_false, Bool.or_false, opt_t]
  rw [bnd (qSeason_eq _)]
  simp only [Bool.not_true, Bool.not_false, Bool.or_false, opt_t]
  rw [bnd (qSeason_eq _)]
  simp only [Bool.not_true, Bool.not_false, Bool.or_false, opt_t]
  rw [bnd (qEntries_eq _)]
  simp only [Bool.not_true, Bool.not_false, Bool.or_false, opt_t]
  rw [bnd p1, bnd p1']
  simp only [beq_self_eq_true, Bool.not_true, Bool.not_false, Bool.or_false, opt_t]
  rw [bnd q1]
  simp only [beq_self_eq_true, Bool.not_true, Bool.not_false, Bool.or_false, opt_t, cond_false, seas_l4, seas_l6, seas_l7, seas_l9, seas_l11, seas_l12, seas_l14, seas_l16, seas_l17, seas_l19]
  have hend : cond (!s.2) (some true) (laws_FnSeasons_l2 F (best, l) s l 0 best []) = some true := by
    rcases fresh_case best l (by omega) F hF with ⟨w, w1, w2, w3, w4, w5, _⟩ | ⟨_, r, w5, _⟩
    · rw [s1] at w5
      obtain rfl := Option.some.inj w5
      exact seas_l2 w3 w2 w1 F hF l [] 0 ⟨best, []⟩ rfl (fresh_nil best)
    · rw [s1] at w5
      obtain rfl := Option.some.inj w5
      rfl
  have hfive : ∀ f : Option (List Entry × Bool) → Option Bool, (∀ w : List Entry, (∀ x ∈ w, x.event ≠ n) → z.2 = true → impl_EntriesOf_p F z.1 = some (w, true) → f (some (w, true)) = some true) → cond z.2 (f (impl_EntriesOf_p F z.1)) (cond (!s.2) (some true) (laws_FnSeasons_l2 F (best, l) s l 0 best [])) = some true := by
    intro f hf
    rcases without_case c (by omega) n F hF with ⟨t, t1, t2, t3, t4, _⟩ | ⟨r, t4, _⟩
    · rw [z1] at t4
      obtain rfl := Option.some.inj t4
      rcases entries_case t t3 F hF with ⟨_, _, k2⟩ | ⟨k, _⟩
      · dsimp only
        rw [cond_true, k2]
        exact hf _ t2 rfl k2
      · exact absurd t1 k
    · rw [z1] at t4
      obtain rfl := Option.some.inj t4
      exact hend
  have hfive' : cond z.2 ((impl_EntriesOf_p F z.1).bind fun x57 => cond (!x57.2) (some false) (laws_FnSeasons_l1 F (best, l) s s (c, n) x57.1 0)) (cond (!s.2) (some true) (laws_FnSeasons_l2 F (best, l) s l 0 best [])) = some true := by
    refine hfive (fun o => o.bind fun x57 => cond (!x57.2) (some false) (laws_FnSeasons_l1 F (best, l) s s (c, n) x57.1 0)) fun w hw _ _ => ?_
    rw [Option.bind_some]
    dsimp only
    rw [Bool.not_true, cond_false, seas_l1 _ _ _ _ _ _ _ hw]
    exact hend
  have hseven : cond u.2 ((impl_FreshSeason_p d.best u.1).bind fun x53 => (opt (!(!x53.2)) default (laws_qSeason_p x53.1 d)).bind fun x55 => cond ((!x53.2) || (!x55)) (some false) (cond z.2 ((impl_EntriesOf_p F z.1).bind fun x57 => cond (!x57.2) (some false) (laws_FnSeasons_l1 F (best, l) s s (c, n) x57.1 0)) (cond (!s.2) (some true) (laws_FnSeasons_l2 F (best, l) s l 0 best [])))) (cond z.2 ((impl_EntriesOf_p F z.1).bind fun x57 => cond (!x57.2) (some false) (laws_FnSeasons_l1 F (best, l) s s (c, n) x57.1 0)) (cond (!s.2) (some true) (laws_FnSeasons_l2 F (best, l) s l 0 best []))) = some true := by
    rw [hfive']
    rcases entries_case d (by omega) F hF with ⟨h1, h2, _⟩ | ⟨h1, r, h2, _⟩
    · rw [u1] at h2
      obtain rfl := Option.some.inj h2
      have hE := season_ents h1
      rcases fresh_case d.best (seasonEs d) (by have := hE.2.2; omega) F hF with ⟨w, _, _, w3, _, _, w6⟩ | ⟨w, _⟩
      · obtain rfl := w3.uniq (season_fresh h1)
        dsimp only
        rw [cond_true, bnd w6]
        simp only [Bool.not_true, Bool.not_false, opt_t]
        rw [bnd (qSeason_eq _)]
        rfl
      · exact absurd ⟨h1.1, hE⟩ w
    · rw [u1] at h2
      obtain rfl := Option.some.inj h2
      rfl
  cases hx : x.2
  · rw [cond_false]; exact hseven
  · rw [cond_true]
    rcases add_case a (by omega) e F hF with ⟨t, t1, t2, t3, t4, t5, _⟩ | ⟨_, r, t5, _⟩
    · rw [x1] at t5
      obtain rfl := Option.some.inj t5
      dsimp only at x3 ⊢
      rw [bnd (back_ok a t e t1 t2 t3 t4 (by omega) F hF)]
      simp only [Bool.not_true, Bool.not_false, opt_t]
      rw [bnd (qSeason_eq _)]
      simp only [Bool.not_true, Bool.not_false, Bool.or_false, opt_t]
      obtain ⟨b', i1, i2⟩ := ret_impl_IsSeason t (by omega) F hF
      obtain rfl := i2.2 t4
      rw [bnd i1]
      simp only [Bool.not_true, Bool.or_false, cond_false]
      exact hseven
    · rw [x1] at t5
      obtain rfl := Option.some.inj t5
      simp at hx
theorem law_FnSeasons (code more : List Int) (hw : wfByteS code) (hv : wfByteS more) : laws_FnSeasons_p 99999999 code more = some true := law_FnSeasonsF 99999999 (by omega) code more hw hv

end Go.Proofs.Ytgcnndkbpmnmgaa

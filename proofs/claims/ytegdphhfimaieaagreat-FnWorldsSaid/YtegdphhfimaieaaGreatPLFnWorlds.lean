/- Plain lemmas: what the functions compute is what the reference says, in plain Lean. No condition. -/
import Derived.Test.YtegdphhfimaieaaGreatPWorld6
set_option maxRecDepth 4000
set_option maxHeartbeats 1000000
set_option linter.unusedVariables false
set_option linter.unusedSimpArgs false
set_option linter.unusedSectionVars false

namespace Go.Proofs.YtegdphhfimaieaaGreat
open Go.AM
theorem pSumW_l (l : List Int) : ∀ (k : Nat) (v : Int), laws_pSum_l1 l k v = some (l.foldl (fun v y => w64 (v + y)) v) := by
  induction l with
  | nil => intro k v; rw [laws_pSum_l1]; rfl
  | cons y l ih => intro k v; rw [laws_pSum_l1, ih]; rfl
theorem pSumW_eq (l : List Int) : laws_pSum_p l = some (sumW l) := pSumW_l l 0 0
theorem worlds_l2 (W : World) (n : Int) : ∀ (ys : List Rank) (k : Nat), (∀ x ∈ ys, x.place ≤ n) → laws_FnWorlds_l2 (W, n) ys k = some true := by
  intro ys
  induction ys with
  | nil => intro k _; rw [laws_FnWorlds_l2]
  | cons y ys ih =>
    intro k h
    have hy := h y (by simp)
    rw [laws_FnWorlds_l2, decide_eq_false (by dsimp only; omega), cond_false, ih _ (fun x hx => h x (by simp [hx]))]
theorem worlds_l3 (x : World × Int) : ∀ (ys : List Rank) (k : Nat), laws_FnWorlds_l3 x ys k = laws_FnWorlds_l2 x ys k := by
  intro ys
  induction ys with
  | nil => intro k; rw [laws_FnWorlds_l3, laws_FnWorlds_l2]
  | cons y ys ih => intro k; rw [laws_FnWorlds_l3, laws_FnWorlds_l2, ih]
theorem worlds_rest {more : List Int} (hv : wfByteS more) (F : Nat) (hF : 1048576 < F) (x3 : World) (x7 : List Rank × Bool) (k : Nat) : laws_FnWorlds_l1 more F x3 x7 [] k = some true := by
  have hml : more.length ≤ 9223372036854775807 := hv.1
  rw [laws_FnWorlds_l1]
  obtain ⟨W, n, d1, n1⟩ := drawFirstOf_ok hv.2 hml F hF
  obtain ⟨V, s, d2, n2⟩ := drawWorldTotal_ok hv.2 hml F hF
  obtain ⟨f, f1, f2, _⟩ := same_FirstOf W (by omega) n F hF
  obtain ⟨t, t1, t2⟩ := same_WorldTotal V (by omega) s F hF
  obtain ⟨q, q1, q2⟩ := same_WorldPlace V (by omega) s F hF
  obtain ⟨p, p1, p2, _⟩ := same_SeasonParts V (by omega) s F hF
  have hq : q.2 = t.2 := by
    rcases worldTotal_case V (by omega) s F hF with ⟨a1, a2, a3, _⟩ | ⟨a1, r, a3, _⟩
    · rcases worldPlace_case V (by omega) s F hF with ⟨_, _, b3, _⟩ | ⟨b1, _⟩
      · rw [t1] at a3; rw [q1] at b3
        rw [Option.some.inj a3, Option.some.inj b3]
      · exact absurd ⟨a1, a2⟩ b1
    · rcases worldPlace_case V (by omega) s F hF with ⟨b1, b2, _⟩ | ⟨_, r', b3, _⟩
      · exact absurd ⟨b1, b2⟩ a1
      · rw [t1] at a3; rw [q1] at b3
        rw [Option.some.inj a3, Option.some.inj b3]
  rw [bnd d1]
  dsimp only
  rw [show (World.mk W.seasons W.weights) = W from rfl, bnd f2, bnd f1, bnd d2]
  dsimp only
  rw [show (World.mk V.seasons V.weights) = V from rfl, bnd t2, bnd t1, bnd q2, bnd q1, bnd p2, bnd p1]
  simp only [hq, beq_self_eq_true, bne_self_eq_false, Bool.not_true, Bool.not_false, Bool.or_false, Bool.false_or, opt_t]
  rw [bnd (sameRanks_eq _)]
  simp only [hq, beq_self_eq_true, bne_self_eq_false, Bool.not_true, Bool.not_false, Bool.or_false, Bool.false_or, opt_t]
  rw [bnd (sameInts_eq _)]
  simp only [Bool.not_true, cond_false]
  exact worlds_l2 W n f.1 0 (firstOf_place W (by omega) n F hF f f1)
theorem worlds_l1 {more : List Int} (hv : wfByteS more) (F : Nat) (hF : 1048576 < F) (w : World) (hb : nWorld w ≤ 1048576) (hok : WorldOk w) (r : List Rank) (hp : r.Perm ((skatersW w).map (mkP w (tsW w)))) (hs : r.Pairwise (RK pl sk)) (hl : r.length ≤ 240) : ∀ (ys pre : List Rank), r = pre ++ ys → laws_FnWorlds_l1 more F w (r, true) ys pre.length = some true := by
  intro ys
  induction ys with
  | nil => intro pre _; exact worlds_rest hv F hF w (r, true) pre.length
  | cons y ys ih =>
    intro pre h
    have hnext := ih (pre ++ [y]) (by rw [h]; simp)
    rw [show (pre ++ [y]).length = pre.length + 1 from by simp] at hnext
    obtain ⟨y1, y2, y3⟩ := rank_of hp (x := y) (by rw [h]; simp)
    obtain ⟨a1, a2⟩ := seasonParts_case w hb hok y1 F hF
    have hfall := totals_fall hp hs
    rcases worldTotal_case w hb y.skater F hF with ⟨_, _, _, b1⟩ | ⟨b1, _⟩
    · rcases worldPlace_case w hb y.skater F hF with ⟨_, _, _, c1⟩ | ⟨c1, _⟩
      · rw [laws_FnWorlds_l1, bnd a2, bnd a1, bnd b1, bnd c1]
        simp only [Bool.not_true, Bool.not_false, Bool.false_or, opt_t]
        rw [bnd (sameInts_eq _)]
        simp only [y2, y3, bne_self_eq_false, Bool.not_true, Bool.not_false, Bool.or_false, Bool.false_or, opt_t]
        rw [bnd (pSumW_eq _), show sumW (partsW w y.skater) = totW w y.skater from rfl]
        simp only [bne_self_eq_false, Bool.not_true, Bool.not_false, Bool.or_false, Bool.false_or, Bool.true_and]
        rcases List.eq_nil_or_concat pre with rfl | ⟨q, l, rfl⟩
        · simp only [List.length_nil]
          rw [show decide (((0 : Nat) : Int) > 0) = false from rfl]
          simp only [opt_f, Option.bind_some, Bool.false_and, cond_false]
          exact hnext
        · simp only [List.concat_eq_append] at *
          have hkl : (q ++ [l]).length = q.length + 1 := by simp
          rw [hkl] at hnext ⊢
          have hg : getI r (q.length : Int) = some l := getI_app (pre := q) (y := l) (ys := y :: ys) (by rw [h]; simp) rfl
          rw [h, List.append_assoc, List.pairwise_append] at hfall
          have := (List.pairwise_cons.1 hfall.2.1).1 y (by simp)
          have hql : q.length ≤ 240 := by rw [h] at hl; simp at hl; omega
          rw [decide_eq_true (by omega : ((q.length + 1 : Nat) : Int) > 0)]
          simp only [opt_t, Bool.true_and]
          rw [w64_in (by omega), show ((q.length + 1 : Nat) : Int) - 1 = (q.length : Int) from by omega, bnd hg, decide_eq_false (by omega), cond_false]
          exact hnext
      · exact absurd ⟨hok, y1⟩ c1
    · exact absurd ⟨hok, y1⟩ b1
theorem law_FnWorldsF (F : Nat) (hF : 1048576 < F) (code more : List Int) (hw : wfByteS code) (hv : wfByteS more) : laws_FnWorlds_p F code more = some true := by
  have hcl : code.length ≤ 9223372036854775807 := hw.1
  unfold laws_FnWorlds_p laws_big_p
  rw [Option.bind_some]
  cases decide ((code.length : Int) > 1048576) || decide ((more.length : Int) > w64 (1048576 - (code.length : Int)))
  rotate_left
  · rfl
  rw [cond_false]
  obtain ⟨w, d1, n1⟩ := drawWorldList_ok hw.2 hcl F hF
  rw [bnd d1]
  obtain ⟨b, i1, i2⟩ := ret_impl_IsWorld w (by omega) F hF
  rcases worldList_case w (by omega) F hF with ⟨r, r1, r2, r3, r4, r5, r6, _⟩ | ⟨r1, r5, r6⟩
  · obtain rfl := i2.2 r1
    rw [bnd r6, bnd r5]
    simp only [beq_self_eq_true, Bool.not_true, Bool.not_false, opt_t]
    rw [bnd (sameRanks_eq _)]
    simp only [Bool.not_true, Bool.not_false, Bool.or_false, opt_t]
    rw [bnd i1]
    simp only [beq_self_eq_true, Bool.not_true, Bool.or_false, cond_false, cond_true]
    exact worlds_l1 hv F hF w (by omega) r1 r r2 r3 r4 r [] rfl
  · have : b = false := by
      cases b
      · rfl
      · exact absurd (i2.1 rfl) r1
    subst this
    rw [bnd r6, bnd r5]
    simp only [beq_self_eq_true, Bool.not_true, Bool.not_false, opt_t]
    rw [bnd (sameRanks_eq _)]
    simp only [Bool.not_true, Bool.not_false, Bool.or_false, opt_t]
    rw [bnd i1]
    simp only [beq_self_eq_true, Bool.not_true, Bool.or_false, cond_false, worlds_l3]
    have := worlds_rest hv F hF w ([], false) 0
    rw [laws_FnWorlds_l1] at this
    exact this
theorem law_FnWorlds (code more : List Int) (hw : wfByteS code) (hv : wfByteS more) : laws_FnWorlds_p 99999999 code more = some true := law_FnWorldsF 99999999 (by omega) code more hw hv

end Go.Proofs.YtegdphhfimaieaaGreat

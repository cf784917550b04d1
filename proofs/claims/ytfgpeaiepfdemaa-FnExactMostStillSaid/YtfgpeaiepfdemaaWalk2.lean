/- The walk, part 2: what each function reached by the law FnExactMostStill computes. No condition. -/
import Derived.Test.YtfgpeaiepfdemaaWalk1
set_option maxRecDepth 4000
set_option linter.unusedVariables false
set_option linter.unusedSimpArgs false
set_option linter.unusedSectionVars false

namespace Go.Proofs.Ytfgpeaiepfdemaa
open Go.AM

def spec_l1Least_p (a : Int) (b : Int) : Option Int :=
  cond (decide (a < b))
    (some a)
    (some b)
theorem spec_l1Least_ok (a : Int) (b : Int) (r : Int) (hH : spec_l1Least_p a b = some r) : SpecR Try.prog 119 [.v (.int .i64 a), .v (.int .i64 b)] (.v (.int .i64 r)) := by
  refine fn_ok T Try.func119 rfl (by decide) rfl ?_
  refine AW.seq ?_
  refine AW.region ?_
  refine AO.pure T rfl rfl rfl ?_
  refine AO.nil ?_
  refine AW.seq ?_
  refine AW.seq ?_
  refine AW.region ?_
  refine AO.pure T rfl rfl rfl ?_
  refine AO.pure T rfl rfl rfl ?_
  refine AO.pure T rfl rfl rfl ?_
  refine AO.nil ?_
  refine AW.cond (b := decide (a < b)) rfl (fun hc => ?_) (fun hc => ?_)
  · replace hH := condT hc hH
    refine AW.seq ?_
    refine AW.region ?_
    refine AO.pure T rfl rfl rfl ?_
    refine AO.pure T rfl rfl rfl ?_
    refine AO.nil ?_
    refine AW.ret ?_
    cases someE hH
    exact ⟨trivial, _, [], rfl, .c (.c .v), by decide⟩
  · replace hH := condF hc hH
    refine AW.skip ?_
    refine AW.seq ?_
    refine AW.region ?_
    refine AO.pure T rfl rfl rfl ?_
    refine AO.pure T rfl rfl rfl ?_
    refine AO.nil ?_
    refine AW.ret ?_
    cases someE hH
    exact ⟨trivial, _, [], rfl, .c (.c .v), by decide⟩

def spec_seCounted_p (sA : Season) (k : Int) : Option (List Int) :=
  (getI sA.lines k).bind fun x1 =>
  (spec_l1Least_p (x1.points.length : Int) sA.best).bind fun x3 =>
  (sliceHi x1.points x3).bind fun x5 =>
  some x5
theorem spec_seCounted_ok (sA : Season) (k : Int) (r : (List Int)) (hH : spec_seCounted_p sA k = some r) : SpecR Try.prog 108 [.g (encSeason sA), .v (.int .i64 k)] (.s (r.map encInt)) := by
  refine fn_ok T Try.func108 rfl (by decide) rfl ?_
  refine AW.seq ?_
  refine AW.region ?_
  refine AO.step rfl (box_ok T rfl 1 rfl rfl rfl rfl) ?_
  refine AO.pure T rfl rfl rfl ?_
  refine AO.nil ?_
  refine AW.seq ?_
  obtain ⟨x1, hx2, hH⟩ := bindE hH
  refine AW.region ?_
  refine AO.pure T rfl rfl rfl ?_
  refine AO.pure T rfl rfl rfl ?_
  refine AO.pure T rfl rfl rfl ?_
  refine AO.val rfl rfl (ix_map_ok T rfl rfl rfl rfl rfl (hx2) rfl) ?_
  refine AO.pure T rfl rfl rfl ?_
  refine AO.pure T rfl rfl rfl ?_
  refine AO.pure T rfl rfl rfl ?_
  refine AO.nil ?_
  refine AW.seq ?_
  obtain ⟨x3, hx4, hH⟩ := bindE hH
  obtain ⟨x5, hx6, hH⟩ := bindE hH
  refine AW.region ?_
  refine AO.pure T rfl rfl rfl ?_
  refine AO.pure T rfl rfl rfl ?_
  refine AO.val rfl rfl (len_map_ok T rfl rfl rfl) ?_
  refine AO.pure T rfl rfl rfl ?_
  refine AO.pure T rfl rfl rfl ?_
  refine AO.val rfl rfl (callV_ok rfl rfl rfl rfl (spec_l1Least_ok _ _ _ (hx4)) rfl) ?_
  refine AO.val rfl rfl (slice_hi_map_ok T rfl rfl rfl rfl rfl (hx6) (fun _ => rfl)) ?_
  refine AO.pure T rfl rfl rfl ?_
  refine AO.nil ?_
  refine AW.ret ?_
  cases someE hH
  exact ⟨trivial, _, [], rfl, .c (.c .s), by decide⟩

def spec_seTotal_l1 : List Int → Nat → Int → Option Int
  | [], k3, v10 =>
    some v10
  | y4 :: ys5, k3, v10 =>
    spec_seTotal_l1 ys5 (k3 + 1) (w64 (v10 + y4))
def spec_seTotal_p (sA : Season) (k : Int) : Option Int :=
  (spec_seCounted_p sA k).bind fun x1 =>
  spec_seTotal_l1 x1 0 0
theorem spec_seTotal_ok (sA : Season) (k : Int) (r : Int) (hH : spec_seTotal_p sA k = some r) : SpecR Try.prog 68 [.g (encSeason sA), .v (.int .i64 k)] (.v (.int .i64 r)) := by
  refine fn_ok T Try.func68 rfl (by decide) rfl ?_
  refine AW.seq ?_
  refine AW.region ?_
  refine AO.step rfl (box_ok T rfl 1 rfl rfl rfl rfl) ?_
  refine AO.pure T rfl rfl rfl ?_
  refine AO.nil ?_
  refine AW.seq ?_
  refine AW.region ?_
  refine AO.pure T rfl rfl rfl ?_
  refine AO.nil ?_
  refine AW.seq ?_
  refine AW.seq ?_
  obtain ⟨x1, hx2, hH⟩ := bindE hH
  refine AW.region ?_
  refine AO.pure T rfl rfl rfl ?_
  refine AO.pure T rfl rfl rfl ?_
  refine AO.val rfl rfl (callV_ok rfl rfl rfl rfl (spec_seCounted_ok _ _ _ (hx2)) rfl) ?_
  refine AO.val rfl rfl (len_map_ok T rfl rfl rfl) ?_
  refine AO.pure T rfl rfl rfl ?_
  refine AO.nil ?_
  refine AW.block ?_
  refine AW.loopS (fun s : Nat × Int => (⟨[(5, .v (.int .i64 s.2)), (10, .s (List.map encInt x1)), (11, .v (.int .i64 (x1.length : Int))), (12, .v (.int .i64 (s.1 : Int)))], [], 21, []⟩ : St)) (fun s => s.1 ≤ x1.length ∧ spec_seTotal_l1 (x1.drop s.1) s.1 s.2 = some r) (fun s => x1.length - s.1) (0, 0) ⟨Nat.zero_le _, hH⟩ ?_ ?_
  · exact Le.cut 0 0 rfl (by repeat' (first | exact trivial | refine ⟨⟨_, rfl, rfl⟩, ?_⟩)) (by repeat' (first | exact trivial | refine ⟨⟨_, rfl, rfl⟩, ?_⟩)) rfl
  · rintro ⟨k3, v10⟩ ⟨hk, hH⟩
    replace hH : spec_seTotal_l1 (x1.drop k3) k3 v10 = some r := hH
    show AW _ _ _ (⟨[(5, .v (.int .i64 v10)), (10, .s (List.map encInt x1)), (11, .v (.int .i64 (x1.length : Int))), (12, .v (.int .i64 (k3 : Int)))], [], 21, []⟩ : St)
    refine AW.boundM (t := 10) (l := x1) rfl (fun hb7 => ?_)
    cases hd6 : x1.drop k3 with
    | nil =>
      rw [hd6] at hH
      rw [spec_seTotal_l1] at hH
      have hlt8 := drop_ge hd6
      refine AW.seq ?_
      refine AW.region ?_
      refine AO.pure T rfl rfl rfl ?_
      refine AO.nil ?_
      refine AW.seq ?_
      refine AW.condF' (b := decide ((k3 : Int) < (x1.length : Int))) rfl (rngF hlt8) ?_
      refine AW.exit ?_
      refine AW.seq ?_
      refine AW.region ?_
      refine AO.pure T rfl rfl rfl ?_
      refine AO.pure T rfl rfl rfl ?_
      refine AO.nil ?_
      refine AW.ret ?_
      cases someE hH
      exact ⟨trivial, _, [], rfl, .c (.c .v), by decide⟩
    | cons y4 ys5 =>
      rw [hd6] at hH
      rw [spec_seTotal_l1] at hH
      have hlt8 := drop_lt hd6
      refine AW.seq ?_
      refine AW.region ?_
      refine AO.pure T rfl rfl rfl ?_
      refine AO.nil ?_
      refine AW.seq ?_
      refine AW.condT' (b := decide ((k3 : Int) < (x1.length : Int))) rfl (rngT hlt8) ?_
      refine AW.skip ?_
      refine AW.seq ?_
      refine AW.block ?_
      refine AW.seq ?_
      refine AW.region ?_
      refine AO.val rfl rfl (ix_map_ok T rfl rfl rfl rfl rfl (getI_drop hd6) rfl) ?_
      refine AO.pure T rfl rfl rfl ?_
      refine AO.pure T rfl rfl rfl ?_
      refine AO.nil ?_
      refine AW.region ?_
      refine AO.pure T rfl rfl rfl ?_
      refine AO.pure T rfl rfl rfl ?_
      refine AO.val rfl rfl (arw_ok rfl rfl rfl rfl) ?_
      refine AO.pure T rfl rfl rfl ?_
      refine AO.nil ?_
      refine AW.region ?_
      refine AO.val rfl rfl (ar_ok rfl rfl rfl rfl (inI_succ hlt8 hb7)) ?_
      refine AO.pure T rfl rfl rfl ?_
      refine AO.nil ?_
      refine ⟨(k3 + 1, w64 (v10 + y4)), ⟨Nat.succ_le_of_lt hlt8, (by rw [drop_succ_of hd6]; exact hH)⟩, (by have := hlt8; dsimp only; omega), ?_⟩
      exact Le.cut 0 0 rfl (by repeat' (first | exact trivial | refine ⟨⟨_, rfl, rfl⟩, ?_⟩)) (by repeat' (first | exact trivial | refine ⟨⟨_, rfl, rfl⟩, ?_⟩)) rfl

def spec_TotalOf_p (fuel : Nat) (sA : Season) (skater : Int) : Option (Int × Bool) :=
  (spec_seGood_p sA).bind fun x1 =>
  (opt (!(!x1)) default (spec_seHas_p fuel sA skater)).bind fun x3 =>
  cond ((!x1) || decide (x3 < 0))
    (some (0, false))
    ((spec_seHas_p fuel sA skater).bind fun x5 =>
    (spec_seTotal_p sA x5).bind fun x7 =>
    some (x7, true))
theorem spec_TotalOf_ok (fuel : Nat) (sA : Season) (skater : Int) (r : (Int × Bool)) (hH : spec_TotalOf_p fuel sA skater = some r) : SpecR Try.prog 19 [.g (encSeason sA), .v (.int .i64 skater)] (.t [.v (.int .i64 r.1), .v (.bool r.2)]) := by
  refine fn_ok T Try.func19 rfl (by decide) rfl ?_
  refine AW.seq ?_
  refine AW.region ?_
  refine AO.step rfl (box_ok T rfl 1 rfl rfl rfl rfl) ?_
  refine AO.pure T rfl rfl rfl ?_
  refine AO.pure T rfl rfl rfl ?_
  refine AO.nil ?_
  refine AW.seq ?_
  refine AW.seq ?_
  obtain ⟨x1, hx2, hH⟩ := bindE hH
  obtain ⟨x3, hx4, hH⟩ := bindE hH
  refine AW.region ?_
  refine AO.pure T rfl rfl rfl ?_
  refine AO.val rfl rfl (callV_ok rfl rfl rfl rfl (spec_seGood_ok _ _ (hx2)) rfl) ?_
  refine AO.pure T rfl rfl rfl ?_
  refine AO.pure T rfl rfl rfl ?_
  refine AO.pureG T [] rfl trivial rfl rfl ?_
  refine AO.pureG T [] rfl trivial rfl rfl ?_
  refine AO.guard [10, 11] rfl ⟨fun h => h, fun h => h, trivial⟩ (fun hg => callV_ok rfl rfl rfl rfl (spec_seHas_ok fuel _ _ _ (optT hx4 hg)) rfl) rfl ?_
  refine AO.pureG T [12] rfl ⟨fun h => h, trivial⟩ rfl rfl ?_
  refine AO.val rfl rfl (pick_or rfl rfl rfl rfl) ?_
  refine AO.nil ?_
  refine AW.cond (b := ((!x1) || decide (x3 < 0))) rfl (fun hc => ?_) (fun hc => ?_)
  · replace hH := condT hc hH
    refine AW.seq ?_
    refine AW.region ?_
    refine AO.pure T rfl rfl rfl ?_
    refine AO.pure T rfl rfl rfl ?_
    refine AO.nil ?_
    refine AW.ret ?_
    cases someE hH
    exact ⟨trivial, _, [], rfl, .t (expLG_cons (.c .v) (expLG_cons (.c .v) (expLG_nil))), by decide⟩
  · replace hH := condF hc hH
    refine AW.skip ?_
    refine AW.seq ?_
    obtain ⟨x5, hx6, hH⟩ := bindE hH
    obtain ⟨x7, hx8, hH⟩ := bindE hH
    refine AW.drawn 4 2 [] mix (by kernel_rfl) rfl ?_
    refine AD.pure T rfl rfl rfl ?_
    refine AD.pure T rfl rfl rfl ?_
    refine AD.pure T rfl rfl rfl ?_
    refine AD.val rfl rfl (callV_ok rfl rfl rfl rfl (spec_seHas_ok fuel _ _ _ (hx6)) rfl) ?_
    refine AD.nil ?_
    refine AO.val rfl rfl (callV_ok rfl rfl rfl rfl (spec_seTotal_ok _ _ _ (hx8)) rfl) ?_
    refine AO.pure T rfl rfl rfl ?_
    refine AO.pure T rfl rfl rfl ?_
    refine AO.nil ?_
    refine AW.ret ?_
    cases someE hH
    exact ⟨trivial, _, [], rfl, .t (expLG_cons (.c .v) (expLG_cons (.c .v) (expLG_nil))), by decide⟩

end Go.Proofs.Ytfgpeaiepfdemaa

/- The walk, part 2: what each function reached by the law FnStandings computes. No condition. -/
import Derived.Test.YtgcnndkbpmnmgaaWalk1
set_option maxRecDepth 4000
set_option maxHeartbeats 1000000
set_option linter.unusedVariables false
set_option linter.unusedSimpArgs false
set_option linter.unusedSectionVars false

namespace Go.Proofs.Ytgcnndkbpmnmgaa
open Go.AM

def spec_PlacesOf_l2 (sA : Season) (k3 : Nat) (v80 : List Int) : List Line → Nat → Int → Option (List Int)
  | [], k101, v112 =>
    (need (fitsB 8 (v80.length + ([v112]).length))).bind fun u114 =>
    some (v80 ++ [v112])
  | y102 :: ys103, k101, v112 =>
    (spec_seAhead_p sA (k101 : Int) (k3 : Int)).bind fun x116 =>
    cond x116
      (spec_PlacesOf_l2 sA k3 v80 ys103 (k101 + 1) (w64 (v112 + 1)))
      (spec_PlacesOf_l2 sA k3 v80 ys103 (k101 + 1) v112)
def spec_PlacesOf_l1 (sA : Season) : List Line → Nat → List Int → Option (((List Int) × Bool))
  | [], k3, v80 =>
    some (v80, true)
  | y4 :: ys5, k3, v80 =>
    (spec_PlacesOf_l2 sA k3 v80 sA.lines 0 1).bind fun v98 =>
    spec_PlacesOf_l1 sA ys5 (k3 + 1) v98
def spec_PlacesOf_p (sA : Season) : Option ((List Int) × Bool) :=
  (spec_seGood_p sA).bind fun x1 =>
  cond (!x1)
    (some ([], false))
    (spec_PlacesOf_l1 sA sA.lines 0 [])
theorem spec_PlacesOf_ok (sA : Season) (r : ((List Int) × Bool)) (hH : spec_PlacesOf_p sA = some r) : SpecR Try.prog 7 [.g (encSeason sA)] (.t [.w 1 (r.1.map encInt), .v (.bool r.2)]) := by
 refine fn_ok T Try.func7 rfl (by decide) rfl ?_
 refine AW.seq (AW.region ?_)
 refine AO.step rfl (box_ok T rfl 1 rfl rfl rfl rfl) ?_
 iterate 2 refine AO.pu T ?_
 refine AO.nil ?_
 iterate 2 refine AW.seq ?_
 obtain ⟨x1, hx2, hH⟩ := bindE hH
 refine AW.region ?_
 refine AO.pu T (d := .g [sA.best, .s (List.map encLine sA.lines)]) ?_
 refine AO.val rfl rfl (callV_ok rfl rfl rfl rfl (spec_seGood_ok _ _ (hx2)) rfl) ?_
 refine AO.pu T ?_
 refine AO.nil ?_
 refine AW.cond (b := (!x1)) rfl (fun hc => ?_) (fun hc => ?_)
 replace hH := condT hc hH
 refine AW.seq (AW.region ?_)
 iterate 2 refine AO.pu T ?_
 refine AO.nil (AW.ret ?_)
 have hR := someE hH; subst hR
 exact retQ.i [] rfl (.t (expLG_cons (.c .nil) (expLG_cons (.c .v) (expLG_nil))))
 replace hH := condF hc hH
 refine AW.skip ?_
 refine AW.seq (AW.region ?_)
 refine AO.pu T ?_
 refine AO.nil ?_
 iterate 2 refine AW.seq ?_
 refine AW.region ?_
 iterate 2 refine AO.pu T ?_
 refine AO.val rfl rfl (len_map_ok T rfl rfl rfl) ?_
 refine AO.pu T ?_
 refine AO.nil ?_
 refine AW.block ?_
 refine AW.loopS (fun s : Nat × (List Int) => (⟨[(1, .p 1 0), (4, .R 7), (13, (sA.lines.length : Int)), (14, (s.1 : Int))], [(1, .box [sA.best, .s (List.map encLine sA.lines)]), (7, .row 1 (List.map encInt s.2))], 36, []⟩ : St)) (fun s => s.1 ≤ sA.lines.length ∧ spec_PlacesOf_l1 sA (sA.lines.drop s.1) s.1 s.2 = some r) (fun s => sA.lines.length - s.1) (0, []) ⟨Nat.zero_le _, hH⟩ ?_ ?_
 refine Le.trans (Le.void 4 7 1 rfl rfl) ?_
 exact Le.ct 0 0
 rintro ⟨k3, v80⟩ ⟨hk, hH⟩
 replace hH : spec_PlacesOf_l1 sA (sA.lines.drop k3) k3 v80 = some r := hH
 try dsimp only
 refine AW.boundBox (id := 1) (j := 1) (l := sA.lines) rfl rfl (fun hb7 => ?_)
 rcases hd6 : sA.lines.drop k3 with _ | ⟨y4, ys5⟩
 rw [hd6, spec_PlacesOf_l1] at hH
 have hlt8 := drop_ge hd6
 refine AW.seq (AW.region ?_)
 refine AO.pu T ?_
 refine AO.nil (AW.seq ?_)
 refine AW.condF' (b := decide ((k3 : Int) < (sA.lines.length : Int))) rfl (rngF hlt8) ?_
 refine AW.exit ?_
 refine AW.seq (AW.region ?_)
 iterate 3 refine AO.pu T ?_
 refine AO.nil (AW.ret ?_)
 have hR := someE hH; subst hR
 exact retQ.i [7] rfl (.t (expLG_cons (.c (.rowR rfl)) (expLG_cons (.c .v) (expLG_nil))))
 rw [hd6, spec_PlacesOf_l1] at hH
 have hlt8 := drop_lt hd6
 refine AW.seq (AW.region ?_)
 refine AO.pu T ?_
 refine AO.nil (AW.seq ?_)
 refine AW.condT' (b := decide ((k3 : Int) < (sA.lines.length : Int))) rfl (rngT hlt8) ?_
 refine AW.skip ?_
 obtain ⟨o99, hH, hK100⟩ := bindE hH
 refine AW.seqJ (fun s : List Int => (⟨[(1, .p 1 0), (4, .R 11), (13, (sA.lines.length : Int)), (14, (k3 : Int))], [(1, .box [sA.best, .s (List.map encLine sA.lines)]), (11, .row 1 (List.map encInt s))], 36, []⟩ : St)) (fun s => s = o99) ?_ ?_
 refine AW.block ?_
 refine AW.seq (AW.region ?_)
 iterate 2 refine AO.pu T ?_
 refine AO.nil (AW.seq ?_)
 refine AW.region ?_
 refine AO.pu T ?_
 refine AO.nil ?_
 iterate 2 refine AW.seq ?_
 refine AW.region ?_
 iterate 2 refine AO.pu T ?_
 refine AO.val rfl rfl (len_map_ok T rfl rfl rfl) ?_
 refine AO.pu T ?_
 refine AO.nil ?_
 refine AW.block ?_
 refine AW.loopS (fun s : Nat × Int => (⟨[(1, .p 1 0), (4, .R 7), (5, (k3 : Int)), (6, s.2), (13, (sA.lines.length : Int)), (14, (k3 : Int)), (19, (sA.lines.length : Int)), (20, (s.1 : Int))], [(1, .box [sA.best, .s (List.map encLine sA.lines)]), (7, .row 1 (List.map encInt v80))], 36, []⟩ : St)) (fun s => s.1 ≤ sA.lines.length ∧ spec_PlacesOf_l2 sA k3 v80 (sA.lines.drop s.1) s.1 s.2 = some o99) (fun s => sA.lines.length - s.1) (0, 1) ⟨Nat.zero_le _, hH⟩ ?_ ?_
 exact Le.ct 0 0
 rintro ⟨k101, v112⟩ ⟨hk, hH⟩
 replace hH : spec_PlacesOf_l2 sA k3 v80 (sA.lines.drop k101) k101 v112 = some o99 := hH
 try dsimp only
 refine AW.boundBox (id := 1) (j := 1) (l := sA.lines) rfl rfl (fun hb105 => ?_)
 rcases hd104 : sA.lines.drop k101 with _ | ⟨y102, ys103⟩
 rw [hd104, spec_PlacesOf_l2] at hH
 have hlt106 := drop_ge hd104
 refine AW.seq (AW.region ?_)
 refine AO.pu T ?_
 refine AO.nil (AW.seq ?_)
 refine AW.condF' (b := decide ((k101 : Int) < (sA.lines.length : Int))) rfl (rngF hlt106) ?_
 refine AW.exit ?_
 obtain ⟨u114, hx115, hH⟩ := bindE hH
 refine AW.region ?_
 iterate 2 refine AO.pu T ?_
 refine AO.step rfl (mk_map_ok T rfl 12 rfl rfl rfl rfl rfl (f := encInt) (l := [v112]) rfl rfl (fun _ => rfl) rfl rfl rfl rfl rfl) ?_
 refine AO.step rfl (app_rv_map T rfl 13 rfl rfl rfl rfl rfl (by decide) rfl rfl rfl rfl (fun _ => rfl) (needT (hx115)) rfl rfl) ?_
 refine AO.pu T ?_
 refine AO.nil ?_
 refine ⟨_, someE hH, ?_⟩
 exact Le.ct 13 11
 rw [hd104, spec_PlacesOf_l2] at hH
 have hlt106 := drop_lt hd104
 refine AW.seq (AW.region ?_)
 refine AO.pu T ?_
 refine AO.nil (AW.seq ?_)
 refine AW.condT' (b := decide ((k101 : Int) < (sA.lines.length : Int))) rfl (rngT hlt106) ?_
 refine AW.skip ?_
 refine AW.seq ?_
 refine AW.block ?_
 refine AW.seq (AW.region ?_)
 iterate 2 refine AO.pu T ?_
 refine AO.nil (AW.seq ?_)
 obtain ⟨x116, hx117, hH⟩ := bindE hH
 refine AW.region ?_
 refine AO.pu T (d := .g [sA.best, .s (List.map encLine sA.lines)]) ?_
 iterate 2 refine AO.pu T ?_
 refine AO.val rfl rfl (callV_ok rfl rfl rfl rfl (spec_seAhead_ok _ _ _ _ (hx117)) rfl) ?_
 refine AO.nil ?_
 refine AW.cond (b := x116) rfl (fun hc => ?_) (fun hc => ?_)
 replace hH := condT hc hH
 refine AW.region ?_
 refine AO.pu T ?_
 refine AO.val rfl rfl (arw_ok rfl rfl rfl rfl) ?_
 refine AO.pu T ?_
 refine AO.nil ?_
 refine AW.region ?_
 refine AO.val rfl rfl (ar_ok rfl rfl rfl rfl (inI_succ hlt106 hb105)) ?_
 refine AO.pu T ?_
 refine AO.nil ?_
 refine ⟨(k101 + 1, w64 (v112 + 1)), ⟨Nat.succ_le_of_lt hlt106, (by rw [drop_succ_of hd104]; exact hH)⟩, (by have := hlt106; dsimp only; omega), ?_⟩
 exact Le.ct 0 0
 replace hH := condF hc hH
 refine AW.skip ?_
 refine AW.region ?_
 refine AO.val rfl rfl (ar_ok rfl rfl rfl rfl (inI_succ hlt106 hb105)) ?_
 refine AO.pu T ?_
 refine AO.nil ?_
 refine ⟨(k101 + 1, v112), ⟨Nat.succ_le_of_lt hlt106, (by rw [drop_succ_of hd104]; exact hH)⟩, (by have := hlt106; dsimp only; omega), ?_⟩
 exact Le.ct 0 0
 rintro v98 hs
 subst hs
 replace hH := hK100
 try dsimp only [flow, flowE] at hH
 try dsimp only
 refine AW.region ?_
 refine AO.val rfl rfl (ar_ok rfl rfl rfl rfl (inI_succ hlt8 hb7)) ?_
 refine AO.pu T ?_
 refine AO.nil ?_
 refine ⟨(k3 + 1, v98), ⟨Nat.succ_le_of_lt hlt8, (by rw [drop_succ_of hd6]; exact hH)⟩, (by have := hlt8; dsimp only; omega), ?_⟩
 exact Le.ct 11 7

def spec_DrawTotalOf_p (fuel : Nat) (code : List Int) : Option (Season × Int) :=
  (spec_l1Cur_season_p fuel (L1Cur.mk code 0 0)).bind fun x1 =>
  (spec_l1Cur_pick_p (L1Cur.mk x1.1.code x1.1.at' x1.1.seed) 7).bind fun x3 =>
  some ((Season.mk x1.2.best x1.2.lines), x3.2)
theorem spec_DrawTotalOf_ok (fuel : Nat) (code : List Int) (r : (Season × Int)) (hH : spec_DrawTotalOf_p fuel code = some r) : SpecR Try.prog 8 [.s (List.map encInt_u8 code)] (.t [.g (encSeasonO r.1), .v (.int .i64 r.2)]) := by
 refine fn_ok T Try.func8 rfl (by decide) rfl ?_
 refine AW.seq (AW.region ?_)
 refine AO.step rfl (alloc_ok T rfl 1 rfl rfl rfl rfl rfl) ?_
 refine AO.pu T ?_
 refine AO.nil (AW.seq ?_)
 refine AW.region ?_
 refine AO.pu T ?_
 refine AO.pu T (d := .g [.s (List.map encInt_u8 code), (0 : Int), .v (.int .u64 0)]) ?_
 refine AO.step rfl (box_ok T rfl 2 rfl rfl rfl rfl) ?_
 refine AO.pu T ?_
 refine AO.nil (AW.seq ?_)
 obtain ⟨x1, hx2, hH⟩ := bindE hH
 obtain ⟨x3, hx4, hH⟩ := bindE hH
 refine AW.region ?_
 refine AO.pu T ?_
 refine AO.step rfl (callM_ok rfl 3 rfl rfl (es := [.pw (encL1Cur (L1Cur.mk code 0 0))]) (outs := [.pw (encL1Cur x1.1)]) (ids := [2]) (by exact expLG_cons (.c (.box rfl rfl)) (expLG_nil)) (by decide) (.inl (by rfl)) (by rfl) (spec_l1Cur_season_ok fuel _ _ (hx2)) rfl (by rfl) rfl) ?_
 refine AO.pu T ?_
 refine AO.step rfl (callM_ok rfl 4 rfl rfl (es := [.pw (encL1Cur (L1Cur.mk x1.1.code x1.1.at' x1.1.seed)), .v (.int .i64 7)]) (outs := [.pw (encL1Cur x3.1), .u]) (ids := [2]) (by exact expLG_cons (.c (.box rfl rfl)) (expLG_cons (.c .v) (expLG_nil))) (by decide) (.inl (by rfl)) (by rfl) (spec_l1Cur_pick_ok _ _ _ (hx4)) rfl (by rfl) rfl) ?_
 refine AO.se T [x1.2.best, .R 3] ?_
 refine AO.pu T ?_
 refine AO.nil (AW.ret ?_)
 have hR := someE hH; subst hR
 exact retQ.i [3] rfl (.t (expLG_cons (.g (expLC_cons .v (expLC_cons (.rowR rfl) (expLC_nil)))) (expLG_cons (.c .v) (expLG_nil))))

def impl_lineOf_l1 (skater : Int) : List Line → Nat → Option Line
  | [], k1 =>
    some (Line.mk skater [] [])
  | y2 :: ys3, k1 =>
    cond (y2.skater == skater)
      (some y2)
      (impl_lineOf_l1 skater ys3 (k1 + 1))
def impl_lineOf_p (sA : Season) (skater : Int) : Option Line :=
  impl_lineOf_l1 skater sA.lines 0
theorem impl_lineOf_ok (sA : Season) (skater : Int) (r : Line) (hH : impl_lineOf_p sA skater = some r) : SpecR Try.prog 41 [.g (encSeason sA), skater] (.g (encLine r)) := by
 refine fn_ok T Try.func41 rfl (by decide) rfl ?_
 refine AW.seq (AW.region ?_)
 refine AO.step rfl (box_ok T rfl 1 rfl rfl rfl rfl) ?_
 refine AO.step rfl (alloc_ok T rfl 2 rfl rfl rfl rfl rfl) ?_
 refine AO.nil ?_
 iterate 2 refine AW.seq ?_
 refine AW.region ?_
 iterate 2 refine AO.pu T ?_
 refine AO.val rfl rfl (len_map_ok T rfl rfl rfl) ?_
 refine AO.pu T ?_
 refine AO.nil ?_
 refine AW.block ?_
 refine AW.loopS (fun s : Nat => (⟨[(1, skater), (4, .p 2 0), (8, .s (List.map encLine sA.lines)), (9, (sA.lines.length : Int)), (10, (s : Int))], [(2, .box [(0 : Int), .w 0 [], .w 0 []])], 22, []⟩ : St)) (fun s => s ≤ sA.lines.length ∧ impl_lineOf_l1 skater (sA.lines.drop s) s = some r) (fun s => sA.lines.length - s) 0 ⟨Nat.zero_le _, hH⟩ ?_ ?_
 exact Le.ct 0 0
 rintro k1 ⟨hk, hH⟩
 replace hH : impl_lineOf_l1 skater (sA.lines.drop k1) k1 = some r := hH
 try dsimp only
 refine AW.boundM (t := 8) (l := sA.lines) rfl (fun hb5 => ?_)
 rcases hd4 : sA.lines.drop k1 with _ | ⟨y2, ys3⟩
 rw [hd4, impl_lineOf_l1] at hH
 have hlt6 := drop_ge hd4
 refine AW.seq (AW.region ?_)
 refine AO.pu T ?_
 refine AO.nil (AW.seq ?_)
 refine AW.condF' (b := decide ((k1 : Int) < (sA.lines.length : Int))) rfl (rngF hlt6) ?_
 refine AW.exit ?_
 refine AW.seq (AW.region ?_)
 refine AO.pu T ?_
 refine AO.pu T (d := .g [skater, .w 0 [], .w 0 []]) ?_
 refine AO.se T [skater, .w 0 [], .w 0 []] ?_
 refine AO.nil (AW.ret ?_)
 have hR := someE hH; subst hR
 exact retQ.i [] rfl (.c (.g (expLC_cons .v (expLC_cons .nilS (expLC_cons .nilS (expLC_nil))))))
 rw [hd4, impl_lineOf_l1] at hH
 have hlt6 := drop_lt hd4
 refine AW.seq (AW.region ?_)
 refine AO.pu T ?_
 refine AO.nil (AW.seq ?_)
 refine AW.condT' (b := decide ((k1 : Int) < (sA.lines.length : Int))) rfl (rngT hlt6) ?_
 refine AW.skip ?_
 refine AW.seq ?_
 refine AW.block ?_
 refine AW.seq (AW.region ?_)
 refine AO.val rfl rfl (ix_map_ok T rfl rfl rfl rfl rfl (getI_drop hd4) rfl) ?_
 refine AO.pu T (d := .g [y2.skater, .s (List.map encInt y2.events), .s (List.map encInt y2.points)]) ?_
 refine AO.step rfl (alloc_ok T rfl 5 rfl rfl rfl rfl rfl) ?_
 refine AO.se T [y2.skater, .s (List.map encInt y2.events), .s (List.map encInt y2.points)] ?_
 refine AO.nil (AW.seq ?_)
 refine AW.region ?_
 iterate 4 refine AO.pu T ?_
 refine AO.nil ?_
 refine AW.cond (b := (y2.skater == skater)) rfl (fun hc => ?_) (fun hc => ?_)
 replace hH := condT hc hH
 refine AW.seq (AW.region ?_)
 refine AO.pu T (d := .g [y2.skater, .s (List.map encInt y2.events), .s (List.map encInt y2.points)]) ?_
 refine AO.se T [y2.skater, .s (List.map encInt y2.events), .s (List.map encInt y2.points)] ?_
 refine AO.nil (AW.ret ?_)
 have hR := someE hH; subst hR
 exact retQ.i [] rfl (.c (.g (expLC_cons .v (expLC_cons .s (expLC_cons .s (expLC_nil))))))
 replace hH := condF hc hH
 refine AW.skip ?_
 refine AW.region ?_
 refine AO.val rfl rfl (ar_ok rfl rfl rfl rfl (inI_succ hlt6 hb5)) ?_
 refine AO.pu T ?_
 refine AO.nil ?_
 refine ⟨k1 + 1, ⟨Nat.succ_le_of_lt hlt6, (by rw [drop_succ_of hd4]; exact hH)⟩, (by have := hlt6; dsimp only; omega), ?_⟩
 exact Le.ct 0 0

def impl_TotalOf_p (fuel : Nat) (sA : Season) (skater : Int) : Option (Int × Bool) :=
  (impl_IsSeason_p fuel sA).bind fun x1 =>
  (opt (!(!x1)) default (impl_lineOf_p sA skater)).bind fun x3 =>
  cond ((!x1) || ((x3.points.length : Int) == 0))
    (some (0, false))
    ((impl_lineOf_p sA skater).bind fun x5 =>
    (impl_counting_p x5 sA.best).bind fun x7 =>
    (impl_sumInts_p x7).bind fun x9 =>
    some (x9, true))
theorem impl_TotalOf_ok (fuel : Nat) (sA : Season) (skater : Int) (r : (Int × Bool)) (hH : impl_TotalOf_p fuel sA skater = some r) : SpecR Try.prog 9 [.g (encSeason sA), skater] (.t [.v (.int .i64 r.1), .v (.bool r.2)]) := by
 refine fn_ok T Try.func9 rfl (by decide) rfl ?_
 refine AW.seq (AW.region ?_)
 refine AO.step rfl (box_ok T rfl 1 rfl rfl rfl rfl) ?_
 iterate 2 refine AO.pu T ?_
 refine AO.nil ?_
 iterate 2 refine AW.seq ?_
 obtain ⟨x1, hx2, hH⟩ := bindE hH
 obtain ⟨x3, hx4, hH⟩ := bindE hH
 refine AW.region ?_
 refine AO.pu T (d := .g [sA.best, .s (List.map encLine sA.lines)]) ?_
 refine AO.val rfl rfl (callV_ok rfl rfl rfl rfl (impl_IsSeason_ok fuel _ _ (hx2)) rfl) ?_
 iterate 2 refine AO.pu T ?_
 refine AO.pureG T (d := .g [sA.best, .s (List.map encLine sA.lines)]) [] rfl trivial rfl rfl ?_
 refine AO.pureG T [] rfl trivial rfl rfl ?_
 refine AO.guard [10, 11] rfl ⟨fun h => h, fun h => h, trivial⟩ (fun hg => callV_ok rfl rfl rfl rfl (impl_lineOf_ok _ _ _ (optT hx4 hg)) rfl) rfl ?_
 refine AO.pureG T [12] rfl ⟨fun h => h, trivial⟩ rfl rfl ?_
 refine AO.guard [13] rfl ⟨fun h => h, trivial⟩ (fun hg => len_map_ok T rfl rfl rfl) rfl ?_
 refine AO.pureG T [14] rfl ⟨fun h => h, trivial⟩ rfl rfl ?_
 refine AO.val rfl rfl (pick_or rfl rfl rfl rfl) ?_
 refine AO.nil ?_
 refine AW.cond (b := ((!x1) || ((x3.points.length : Int) == 0))) rfl (fun hc => ?_) (fun hc => ?_)
 replace hH := condT hc hH
 refine AW.seq (AW.region ?_)
 iterate 2 refine AO.pu T ?_
 refine AO.nil (AW.ret ?_)
 have hR := someE hH; subst hR
 exact retQ.i [] rfl (.t (expLG_cons (.c .v) (expLG_cons (.c .v) (expLG_nil))))
 replace hH := condF hc hH
 refine AW.skip ?_
 refine AW.seq ?_
 obtain ⟨x5, hx6, hH⟩ := bindE hH
 obtain ⟨x7, hx8, hH⟩ := bindE hH
 obtain ⟨x9, hx10, hH⟩ := bindE hH
 refine AW.drawn 5 2 [] mix (by kernel_rfl) rfl ?_
 refine AD.pure T (d := .g [sA.best, .s (List.map encLine sA.lines)]) rfl rfl rfl ?_
 refine AD.pure T rfl rfl rfl ?_
 refine AD.val rfl rfl (callV_ok rfl rfl rfl rfl (impl_lineOf_ok _ _ _ (hx6)) rfl) ?_
 iterate 2 refine AD.pure T rfl rfl rfl ?_
 refine AD.nil ?_
 refine AO.val rfl rfl (callV_ok rfl rfl rfl rfl (impl_counting_ok _ _ _ (hx8)) rfl) ?_
 refine AO.val rfl rfl (callV_ok rfl rfl rfl rfl (impl_sumInts_ok _ _ (hx10)) rfl) ?_
 iterate 2 refine AO.pu T ?_
 refine AO.nil (AW.ret ?_)
 have hR := someE hH; subst hR
 exact retQ.i [] rfl (.t (expLG_cons (.c .v) (expLG_cons (.c .v) (expLG_nil))))

def spec_TotalOf_p (fuel : Nat) (sA : Season) (skater : Int) : Option (Int × Bool) :=
  (spec_seGood_p sA).bind fun x1 =>
  (opt (!(!x1)) default (spec_seHas_p fuel sA skater)).bind fun x3 =>
  cond ((!x1) || decide (x3 < 0))
    (some (0, false))
    ((spec_seHas_p fuel sA skater).bind fun x5 =>
    (spec_seTotal_p sA x5).bind fun x7 =>
    some (x7, true))
theorem spec_TotalOf_ok (fuel : Nat) (sA : Season) (skater : Int) (r : (Int × Bool)) (hH : spec_TotalOf_p fuel sA skater = some r) : SpecR Try.prog 10 [.g (encSeason sA), skater] (.t [.v (.int .i64 r.1), .v (.bool r.2)]) := by
 refine fn_ok T Try.func10 rfl (by decide) rfl ?_
 refine AW.seq (AW.region ?_)
 refine AO.step rfl (box_ok T rfl 1 rfl rfl rfl rfl) ?_
 iterate 2 refine AO.pu T ?_
 refine AO.nil ?_
 iterate 2 refine AW.seq ?_
 obtain ⟨x1, hx2, hH⟩ := bindE hH
 obtain ⟨x3, hx4, hH⟩ := bindE hH
 refine AW.region ?_
 refine AO.pu T (d := .g [sA.best, .s (List.map encLine sA.lines)]) ?_
 refine AO.val rfl rfl (callV_ok rfl rfl rfl rfl (spec_seGood_ok _ _ (hx2)) rfl) ?_
 iterate 2 refine AO.pu T ?_
 refine AO.pureG T (d := .g [sA.best, .s (List.map encLine sA.lines)]) [] rfl trivial rfl rfl ?_
 refine AO.pureG T [] rfl trivial rfl rfl ?_
 refine AO.guard [10, 11] rfl ⟨fun h => h, fun h => h, trivial⟩ (fun hg => callV_ok rfl rfl rfl rfl (spec_seHas_ok fuel _ _ _ (optT hx4 hg)) rfl) rfl ?_
 refine AO.pureG T [12] rfl ⟨fun h => h, trivial⟩ rfl rfl ?_
 refine AO.val rfl rfl (pick_or rfl rfl rfl rfl) ?_
 refine AO.nil ?_
 refine AW.cond (b := ((!x1) || decide (x3 < 0))) rfl (fun hc => ?_) (fun hc => ?_)
 replace hH := condT hc hH
 refine AW.seq (AW.region ?_)
 iterate 2 refine AO.pu T ?_
 refine AO.nil (AW.ret ?_)
 have hR := someE hH; subst hR
 exact retQ.i [] rfl (.t (expLG_cons (.c .v) (expLG_cons (.c .v) (expLG_nil))))
 replace hH := condF hc hH
 refine AW.skip ?_
 refine AW.seq ?_
 obtain ⟨x5, hx6, hH⟩ := bindE hH
 obtain ⟨x7, hx8, hH⟩ := bindE hH
 refine AW.drawn 4 2 [] mix (by kernel_rfl) rfl ?_
 iterate 2 refine AD.pure T (d := .g [sA.best, .s (List.map encLine sA.lines)]) rfl rfl rfl ?_
 refine AD.pure T rfl rfl rfl ?_
 refine AD.val rfl rfl (callV_ok rfl rfl rfl rfl (spec_seHas_ok fuel _ _ _ (hx6)) rfl) ?_
 refine AD.nil ?_
 refine AO.val rfl rfl (callV_ok rfl rfl rfl rfl (spec_seTotal_ok _ _ _ (hx8)) rfl) ?_
 iterate 2 refine AO.pu T ?_
 refine AO.nil (AW.ret ?_)
 have hR := someE hH; subst hR
 exact retQ.i [] rfl (.t (expLG_cons (.c .v) (expLG_cons (.c .v) (expLG_nil))))

def spec_DrawMostStill_p (fuel : Nat) (code : List Int) : Option (Season × Int × Int × Int) :=
  (spec_l1Cur_season_p fuel (L1Cur.mk code 0 0)).bind fun x1 =>
  (spec_l1Cur_among_p (L1Cur.mk x1.1.code x1.1.at' x1.1.seed) ([1, 2, 3, 4, 5, 9, 999, 1000, 0] : List Int)).bind fun x3 =>
  (spec_l1Cur_among_p (L1Cur.mk x3.1.code x3.1.at' x3.1.seed) ([0, 1, 2, 20, 21, (-1)] : List Int)).bind fun x5 =>
  (spec_l1Cur_among_p (L1Cur.mk x5.1.code x5.1.at' x5.1.seed) ([0, 100, 500, 100000, 100001] : List Int)).bind fun x7 =>
  some ((Season.mk x1.2.best x1.2.lines), x3.2, x5.2, x7.2)
theorem spec_DrawMostStill_ok (fuel : Nat) (code : List Int) (r : (Season × Int × Int × Int)) (hH : spec_DrawMostStill_p fuel code = some r) : SpecR Try.prog 11 [.s (List.map encInt_u8 code)] (.t [.g (encSeasonO r.1), .v (.int .i64 r.2.1), .v (.int .i64 r.2.2.1), .v (.int .i64 r.2.2.2)]) := by
 refine fn_ok T Try.func11 rfl (by decide) rfl ?_
 refine AW.seq (AW.region ?_)
 refine AO.step rfl (alloc_ok T rfl 1 rfl rfl rfl rfl rfl) ?_
 iterate 3 refine AO.pu T ?_
 refine AO.nil (AW.seq ?_)
 refine AW.region ?_
 refine AO.pu T ?_
 refine AO.pu T (d := .g [.s (List.map encInt_u8 code), (0 : Int), .v (.int .u64 0)]) ?_
 refine AO.step rfl (box_ok T rfl 2 rfl rfl rfl rfl) ?_
 refine AO.pu T ?_
 refine AO.nil (AW.seq ?_)
 obtain ⟨x1, hx2, hH⟩ := bindE hH
 obtain ⟨x3, hx4, hH⟩ := bindE hH
 obtain ⟨x5, hx6, hH⟩ := bindE hH
 obtain ⟨x7, hx8, hH⟩ := bindE hH
 refine AW.region ?_
 refine AO.pu T ?_
 refine AO.step rfl (callM_ok rfl 3 rfl rfl (es := [.pw (encL1Cur (L1Cur.mk code 0 0))]) (outs := [.pw (encL1Cur x1.1)]) (ids := [2]) (by exact expLG_cons (.c (.box rfl rfl)) (expLG_nil)) (by decide) (.inl (by rfl)) (by rfl) (spec_l1Cur_season_ok fuel _ _ (hx2)) rfl (by rfl) rfl) ?_
 refine AO.pu T ?_
 refine AO.step rfl (mk_map_ok T rfl 4 rfl rfl rfl rfl rfl (f := encInt) (l := ([1, 2, 3, 4, 5, 9, 999, 1000, 0] : List Int)) rfl rfl (fun _ => rfl) rfl rfl rfl rfl rfl) ?_
 refine AO.le (Le.freezeM 4 (g := encInt) rfl (fun y => .vs rfl)) ?_
 refine AO.step rfl (callM_ok rfl 5 rfl rfl (es := [.pw (encL1Cur (L1Cur.mk x1.1.code x1.1.at' x1.1.seed)), .s (([1, 2, 3, 4, 5, 9, 999, 1000, 0] : List Int).map encInt)]) (outs := [.pw (encL1Cur x3.1), .u]) (ids := [2]) (by exact expLG_cons (.c (.box rfl rfl)) (expLG_cons (.c .s) (expLG_nil))) (by decide) (.inl (by rfl)) (by rfl) (spec_l1Cur_among_ok _ _ _ (hx4)) rfl (by rfl) rfl) ?_
 refine AO.pu T ?_
 refine AO.step rfl (mk_map_ok T rfl 5 rfl rfl rfl rfl rfl (f := encInt) (l := ([0, 1, 2, 20, 21, (-1)] : List Int)) rfl rfl (fun _ => rfl) rfl rfl rfl rfl rfl) ?_
 refine AO.le (Le.freezeM 5 (g := encInt) rfl (fun y => .vs rfl)) ?_
 refine AO.step rfl (callM_ok rfl 6 rfl rfl (es := [.pw (encL1Cur (L1Cur.mk x3.1.code x3.1.at' x3.1.seed)), .s (([0, 1, 2, 20, 21, (-1)] : List Int).map encInt)]) (outs := [.pw (encL1Cur x5.1), .u]) (ids := [2]) (by exact expLG_cons (.c (.box rfl rfl)) (expLG_cons (.c .s) (expLG_nil))) (by decide) (.inl (by rfl)) (by rfl) (spec_l1Cur_among_ok _ _ _ (hx6)) rfl (by rfl) rfl) ?_
 refine AO.pu T ?_
 refine AO.step rfl (mk_map_ok T rfl 6 rfl rfl rfl rfl rfl (f := encInt) (l := ([0, 100, 500, 100000, 100001] : List Int)) rfl rfl (fun _ => rfl) rfl rfl rfl rfl rfl) ?_
 refine AO.le (Le.freezeM 6 (g := encInt) rfl (fun y => .vs rfl)) ?_
 refine AO.step rfl (callM_ok rfl 7 rfl rfl (es := [.pw (encL1Cur (L1Cur.mk x5.1.code x5.1.at' x5.1.seed)), .s (([0, 100, 500, 100000, 100001] : List Int).map encInt)]) (outs := [.pw (encL1Cur x7.1), .u]) (ids := [2]) (by exact expLG_cons (.c (.box rfl rfl)) (expLG_cons (.c .s) (expLG_nil))) (by decide) (.inl (by rfl)) (by rfl) (spec_l1Cur_among_ok _ _ _ (hx8)) rfl (by rfl) rfl) ?_
 refine AO.se T [x1.2.best, .R 3] ?_
 iterate 3 refine AO.pu T ?_
 refine AO.nil (AW.ret ?_)
 have hR := someE hH; subst hR
 exact retQ.i [3] rfl (.t (expLG_cons (.g (expLC_cons .v (expLC_cons (.rowR rfl) (expLC_nil)))) (expLG_cons (.c .v) (expLG_cons (.c .v) (expLG_cons (.c .v) (expLG_nil))))))

def impl_copyInts_p (l : List Int) : Option (List Int) :=
  (need (fitsB 8 l.length)).bind fun u1 =>
  some l
theorem impl_copyInts_ok (l : List Int) (r : (List Int)) (hH : impl_copyInts_p l = some r) : SpecR Try.prog 49 [.s (List.map encInt l)] (.w 1 (r.map encInt)) := by
 refine fn_ok T Try.func49 rfl (by decide) rfl ?_
 refine AW.seq (AW.region ?_)
 refine AO.pu T ?_
 refine AO.nil (AW.seq ?_)
 obtain ⟨u1, hx2, hH⟩ := bindE hH
 refine AW.region ?_
 refine AO.step rfl (mk0_ok T rfl rfl rfl rfl) ?_
 refine AO.pu T ?_
 refine AO.step rfl (app_ws_map T rfl 1 rfl rfl rfl rfl rfl (by decide) (by decide) rfl rfl (fun _ => rfl) (needT (hx2)) rfl rfl) ?_
 refine AO.pu T ?_
 refine AO.nil (AW.ret ?_)
 have hR := someE hH; subst hR
 exact retQ.i [1] rfl (.c (.c (.rowR rfl)))

def slices_Sort_int_p (x : List Int) : Option (List Int) := (need (Nat.blt x.length 4611686018427387904)).bind fun _ => some (sortI x)
theorem slices_Sort_int_ok (x : List Int) (r : List Int) (hH : slices_Sort_int_p x = some r) : SpecM Try.prog 50 [.w 1 (x.map encInt)] [.w 1 (r.map encInt)] (.t []) := by
  obtain ⟨u, hu, hr⟩ := bindE hH
  cases someE hr
  exact spec_sortI ⟨_, Try.func50, rfl, by decide⟩ Try.slices_Sort_int Try.slices_Sort_int_none x (Nat.le_of_ble_eq_true (needT hu))

def impl_MostStill_l1 (sA : Season) (events : Int) (most : Int) : Nat → List Int → Int → Option ((Int × Bool))
  | 0, _, _ => none
  | k13 + 1, v20, v21 =>
    cond (decide (v21 < events))
      ((need (fitsB 8 (v20.length + ([most]).length))).bind fun u23 =>
      impl_MostStill_l1 sA events most k13 (v20 ++ [most]) (w64 (v21 + 1)))
      ((slices_Sort_int_p v20).bind fun x25 =>
      (sliceLo x25 (max (w64 ((x25.length : Int) - sA.best)) 0)).bind fun x27 =>
      (impl_sumInts_p x27).bind fun x29 =>
      some (x29, true))
def impl_MostStill_p (fuel : Nat) (sA : Season) (skater : Int) (events : Int) (most : Int) : Option (Int × Bool) :=
  (impl_IsSeason_p fuel sA).bind fun x1 =>
  (opt (!(!x1)) default (impl_isSkater_p skater)).bind fun x3 =>
  (opt (!((!x1) || (!x3))) default (impl_within_p events 0 20)).bind fun x5 =>
  (opt (!(((!x1) || (!x3)) || (!x5))) default (impl_within_p most 0 100000)).bind fun x7 =>
  cond ((((!x1) || (!x3)) || (!x5)) || (!x7))
    (some (0, false))
    ((impl_lineOf_p sA skater).bind fun x9 =>
    (impl_copyInts_p x9.points).bind fun x11 =>
    impl_MostStill_l1 sA events most fuel x11 0)
theorem impl_MostStill_ok (fuel : Nat) (sA : Season) (skater : Int) (events : Int) (most : Int) (r : (Int × Bool)) (hH : impl_MostStill_p fuel sA skater events most = some r) : SpecR Try.prog 12 [.g (encSeason sA), skater, events, most] (.t [.v (.int .i64 r.1), .v (.bool r.2)]) := by
 refine fn_ok T Try.func12 rfl (by decide) rfl ?_
 refine AW.seq (AW.region ?_)
 refine AO.step rfl (box_ok T rfl 1 rfl rfl rfl rfl) ?_
 iterate 2 refine AO.pu T ?_
 refine AO.nil ?_
 iterate 2 refine AW.seq ?_
 obtain ⟨x1, hx2, hH⟩ := bindE hH
 obtain ⟨x3, hx4, hH⟩ := bindE hH
 obtain ⟨x5, hx6, hH⟩ := bindE hH
 obtain ⟨x7, hx8, hH⟩ := bindE hH
 refine AW.region ?_
 refine AO.pu T (d := .g [sA.best, .s (List.map encLine sA.lines)]) ?_
 refine AO.val rfl rfl (callV_ok rfl rfl rfl rfl (impl_IsSeason_ok fuel _ _ (hx2)) rfl) ?_
 iterate 2 refine AO.pu T ?_
 refine AO.pureG T [] rfl trivial rfl rfl ?_
 refine AO.guard [15] rfl ⟨fun h => h, trivial⟩ (fun hg => callV_ok rfl rfl rfl rfl (impl_isSkater_ok _ _ (optT hx4 hg)) rfl) rfl ?_
 refine AO.pureG T [16] rfl ⟨fun h => h, trivial⟩ rfl rfl ?_
 refine AO.val rfl rfl (pick_or rfl rfl rfl rfl) ?_
 refine AO.pu T ?_
 refine AO.pureG T [] rfl trivial rfl rfl ?_
 refine AO.guard [20] rfl ⟨fun h => h, trivial⟩ (fun hg => callV_ok rfl rfl rfl rfl (impl_within_ok _ _ _ _ (optT hx6 hg)) rfl) rfl ?_
 refine AO.pureG T [21] rfl ⟨fun h => h, trivial⟩ rfl rfl ?_
 refine AO.val rfl rfl (pick_or rfl rfl rfl rfl) ?_
 refine AO.pu T ?_
 refine AO.pureG T [] rfl trivial rfl rfl ?_
 refine AO.guard [25] rfl ⟨fun h => h, trivial⟩ (fun hg => callV_ok rfl rfl rfl rfl (impl_within_ok _ _ _ _ (optT hx8 hg)) rfl) rfl ?_
 refine AO.pureG T [26] rfl ⟨fun h => h, trivial⟩ rfl rfl ?_
 refine AO.val rfl rfl (pick_or rfl rfl rfl rfl) ?_
 refine AO.nil ?_
 refine AW.cond (b := ((((!x1) || (!x3)) || (!x5)) || (!x7))) rfl (fun hc => ?_) (fun hc => ?_)
 replace hH := condT hc hH
 refine AW.seq (AW.region ?_)
 iterate 2 refine AO.pu T ?_
 refine AO.nil (AW.ret ?_)
 have hR := someE hH; subst hR
 exact retQ.i [] rfl (.t (expLG_cons (.c .v) (expLG_cons (.c .v) (expLG_nil))))
 replace hH := condF hc hH
 refine AW.skip ?_
 refine AW.seq ?_
 obtain ⟨x9, hx10, hH⟩ := bindE hH
 obtain ⟨x11, hx12, hH⟩ := bindE hH
 refine AW.region ?_
 refine AO.pu T (d := .g [sA.best, .s (List.map encLine sA.lines)]) ?_
 refine AO.pu T ?_
 refine AO.val rfl rfl (callV_ok rfl rfl rfl rfl (impl_lineOf_ok _ _ _ (hx10)) rfl) ?_
 refine AO.pu T ?_
 refine AO.step rfl (call_ok rfl 2 rfl rfl rfl (impl_copyInts_ok _ _ (hx12)) rfl rfl rfl) ?_
 refine AO.pu T ?_
 refine AO.nil ?_
 refine AW.le (Le.ct 0 0 (σ' := (⟨[(2, events), (3, most), (4, .p 1 0), (10, .R 2)], [(1, .box [sA.best, .s (List.map encLine sA.lines)]), (2, .row 1 (List.map encInt x11))], 53, []⟩ : St))) ?_
 iterate 2 refine AW.seq ?_
 refine AW.region ?_
 iterate 2 refine AO.pu T ?_
 refine AO.nil ?_
 refine AW.block ?_
 refine AW.loopS (fun s : Nat × (List Int) × Int => (⟨[(3, most), (4, .p 1 0), (10, .R 2), (34, events), (35, s.2.2)], [(1, .box [sA.best, .s (List.map encLine sA.lines)]), (2, .row 1 (List.map encInt s.2.1))], 53, []⟩ : St)) (fun s => impl_MostStill_l1 sA events most s.1 s.2.1 s.2.2 = some r) (fun s => s.1) (fuel, x11, 0) hH ?_ ?_
 exact Le.ct 0 0
 rintro ⟨k13, v20, v21⟩ hH
 replace hH : impl_MostStill_l1 sA events most k13 v20 v21 = some r := hH
 try dsimp only
 rcases k13 with _ | k13
 cases (show none = some _ from hH)
 rw [impl_MostStill_l1] at hH
 refine AW.seq (AW.region ?_)
 refine AO.pu T ?_
 refine AO.nil (AW.seq ?_)
 refine AW.cond (b := decide (v21 < events)) rfl (fun hc => ?_) (fun hc => ?_)
 replace hH := condT hc hH
 refine AW.skip ?_
 refine AW.seq ?_
 refine AW.block ?_
 obtain ⟨u23, hx24, hH⟩ := bindE hH
 refine AW.region ?_
 iterate 2 refine AO.pu T ?_
 refine AO.step rfl (mk_map_ok T rfl 7 rfl rfl rfl rfl rfl (f := encInt) (l := [most]) rfl rfl (fun _ => rfl) rfl rfl rfl rfl rfl) ?_
 refine AO.step rfl (app_rv_map T rfl 8 rfl rfl rfl rfl rfl (by decide) rfl rfl rfl rfl (fun _ => rfl) (needT (hx24)) rfl rfl) ?_
 refine AO.pu T ?_
 refine AO.nil ?_
 refine AW.region ?_
 refine AO.val rfl rfl (arw_ok rfl rfl rfl rfl) ?_
 refine AO.pu T ?_
 refine AO.nil ?_
 refine ⟨(k13, (v20 ++ [most]), w64 (v21 + 1)), hH, Nat.lt_succ_self _, ?_⟩
 exact Le.ct 8 2
 replace hH := condF hc hH
 refine AW.exit ?_
 refine AW.seq ?_
 obtain ⟨x25, hx26, hH⟩ := bindE hH
 refine AW.region ?_
 refine AO.pu T ?_
 refine AO.step rfl (callM_ok rfl 9 rfl rfl (es := [.w 1 (v20.map encInt)]) (outs := [.w 1 (x25.map encInt)]) (ids := [2]) (by exact expLG_cons (.c (.rowR rfl)) (expLG_nil)) (by decide) (.inl (by rfl)) (by rfl) (slices_Sort_int_ok _ _ (hx26)) rfl (by rfl) rfl) ?_
 refine AO.nil (AW.seq ?_)
 obtain ⟨x27, hx28, hH⟩ := bindE hH
 obtain ⟨x29, hx30, hH⟩ := bindE hH
 refine AW.le (Le.freezeM 2 (g := encInt) rfl (fun y => .vs rfl)) ?_
 refine AW.region ?_
 iterate 2 refine AO.pu T ?_
 refine AO.val rfl rfl (len_map_ok T rfl rfl rfl) ?_
 iterate 2 refine AO.pu T ?_
 refine AO.val rfl rfl (arw_ok rfl rfl rfl rfl) ?_
 refine AO.val rfl rfl (max_ok rfl rfl rfl) ?_
 refine AO.val rfl rfl (slice_lo_map_ok T rfl rfl rfl rfl rfl (hx28) (fun _ => rfl)) ?_
 refine AO.val rfl rfl (callV_ok rfl rfl rfl rfl (impl_sumInts_ok _ _ (hx30)) rfl) ?_
 iterate 2 refine AO.pu T ?_
 refine AO.nil (AW.ret ?_)
 have hR := someE hH; subst hR
 exact retQ.i [] rfl (.t (expLG_cons (.c .v) (expLG_cons (.c .v) (expLG_nil))))

def spec_MostStill_l2 (most : Int) (v272 : List Int) : Nat → Int → Option Int
  | 0, _ => none
  | k312 + 1, v318 =>
    (opt (decide (v318 < (v272.length : Int))) default (getI v272 v318)).bind fun x320 =>
    cond (decide (v318 < (v272.length : Int)) && decide (x320 ≥ most))
      (spec_MostStill_l2 most v272 k312 (w64 (v318 + 1)))
      (some v318)
def spec_MostStill_l1 (most : Int) (fuel : Nat) : Nat → Int → List Int → Option (List Int)
  | 0, _, _ => none
  | k170 + 1, v271, v272 =>
    cond (decide (v271 > 0))
      (((spec_MostStill_l2 most v272 fuel 0).bind fun v309 =>
      (spec_seInsert_p v272 v309 most).bind fun x322 =>
      some x322).bind fun v297 =>
      spec_MostStill_l1 most fuel k170 (w64 (v271 - 1)) v297)
      (some v272)
def spec_MostStill_l3 (sA : Season) : List Int → Nat → Int → Option ((Int × Bool))
  | [], k324, v331 =>
    some (v331, true)
  | y325 :: ys326, k324, v331 =>
    cond (decide ((k324 : Int) < sA.best))
      (spec_MostStill_l3 sA ys326 (k324 + 1) (w64 (v331 + y325)))
      (spec_MostStill_l3 sA ys326 (k324 + 1) v331)
def spec_MostStill_l5 (most : Int) (v542 : List Int) : Nat → Int → Option Int
  | 0, _ => none
  | k582 + 1, v588 =>
    (opt (decide (v588 < (v542.length : Int))) default (getI v542 v588)).bind fun x590 =>
    cond (decide (v588 < (v542.length : Int)) && decide (x590 ≥ most))
      (spec_MostStill_l5 most v542 k582 (w64 (v588 + 1)))
      (some v588)
def spec_MostStill_l4 (most : Int) (fuel : Nat) : Nat → Int → List Int → Option (List Int)
  | 0, _, _ => none
  | k464 + 1, v541, v542 =>
    cond (decide (v541 > 0))
      (((spec_MostStill_l5 most v542 fuel 0).bind fun v579 =>
      (spec_seInsert_p v542 v579 most).bind fun x592 =>
      some x592).bind fun v567 =>
      spec_MostStill_l4 most fuel k464 (w64 (v541 - 1)) v567)
      (some v542)
def spec_MostStill_l6 (sA : Season) : List Int → Nat → Int → Option ((Int × Bool))
  | [], k594, v601 =>
    some (v601, true)
  | y595 :: ys596, k594, v601 =>
    cond (decide ((k594 : Int) < sA.best))
      (spec_MostStill_l6 sA ys596 (k594 + 1) (w64 (v601 + y595)))
      (spec_MostStill_l6 sA ys596 (k594 + 1) v601)
def spec_MostStill_p (fuel : Nat) (sA : Season) (skater : Int) (events : Int) (most : Int) : Option (Int × Bool) :=
  (spec_seGood_p sA).bind fun x1 =>
  (opt (!(!x1)) default (spec_l1In_p skater 1 999)).bind fun x3 =>
  (opt (!((!x1) || (!x3))) default (spec_l1In_p events 0 20)).bind fun x5 =>
  (opt (!(((!x1) || (!x3)) || (!x5))) default (spec_l1In_p most 0 100000)).bind fun x7 =>
  cond ((((!x1) || (!x3)) || (!x5)) || (!x7))
    (some (0, false))
    ((spec_seHas_p fuel sA skater).bind fun x9 =>
    cond (decide (x9 ≥ 0))
      ((getI sA.lines x9).bind fun x11 =>
      (spec_l1Own_p x11.points).bind fun x13 =>
      (spec_MostStill_l1 most fuel fuel events x13).bind fun v167 =>
      spec_MostStill_l3 sA v167 0 0)
      ((spec_MostStill_l4 most fuel fuel events []).bind fun v461 =>
      spec_MostStill_l6 sA v461 0 0))
theorem spec_MostStill_ok (fuel : Nat) (sA : Season) (skater : Int) (events : Int) (most : Int) (r : (Int × Bool)) (hH : spec_MostStill_p fuel sA skater events most = some r) : SpecR Try.prog 13 [.g (encSeason sA), skater, events, most] (.t [.v (.int .i64 r.1), .v (.bool r.2)]) := by
 refine fn_ok T Try.func13 rfl (by decide) rfl ?_
 refine AW.seq (AW.region ?_)
 refine AO.step rfl (box_ok T rfl 1 rfl rfl rfl rfl) ?_
 iterate 2 refine AO.pu T ?_
 refine AO.nil ?_
 iterate 2 refine AW.seq ?_
 obtain ⟨x1, hx2, hH⟩ := bindE hH
 obtain ⟨x3, hx4, hH⟩ := bindE hH
 obtain ⟨x5, hx6, hH⟩ := bindE hH
 obtain ⟨x7, hx8, hH⟩ := bindE hH
 refine AW.region ?_
 refine AO.pu T (d := .g [sA.best, .s (List.map encLine sA.lines)]) ?_
 refine AO.val rfl rfl (callV_ok rfl rfl rfl rfl (spec_seGood_ok _ _ (hx2)) rfl) ?_
 iterate 2 refine AO.pu T ?_
 refine AO.pureG T [] rfl trivial rfl rfl ?_
 refine AO.guard [20] rfl ⟨fun h => h, trivial⟩ (fun hg => callV_ok rfl rfl rfl rfl (spec_l1In_ok _ _ _ _ (optT hx4 hg)) rfl) rfl ?_
 refine AO.pureG T [21] rfl ⟨fun h => h, trivial⟩ rfl rfl ?_
 refine AO.val rfl rfl (pick_or rfl rfl rfl rfl) ?_
 refine AO.pu T ?_
 refine AO.pureG T [] rfl trivial rfl rfl ?_
 refine AO.guard [25] rfl ⟨fun h => h, trivial⟩ (fun hg => callV_ok rfl rfl rfl rfl (spec_l1In_ok _ _ _ _ (optT hx6 hg)) rfl) rfl ?_
 refine AO.pureG T [26] rfl ⟨fun h => h, trivial⟩ rfl rfl ?_
 refine AO.val rfl rfl (pick_or rfl rfl rfl rfl) ?_
 refine AO.pu T ?_
 refine AO.pureG T [] rfl trivial rfl rfl ?_
 refine AO.guard [30] rfl ⟨fun h => h, trivial⟩ (fun hg => callV_ok rfl rfl rfl rfl (spec_l1In_ok _ _ _ _ (optT hx8 hg)) rfl) rfl ?_
 refine AO.pureG T [31] rfl ⟨fun h => h, trivial⟩ rfl rfl ?_
 refine AO.val rfl rfl (pick_or rfl rfl rfl rfl) ?_
 refine AO.nil ?_
 refine AW.cond (b := ((((!x1) || (!x3)) || (!x5)) || (!x7))) rfl (fun hc => ?_) (fun hc => ?_)
 replace hH := condT hc hH
 refine AW.seq (AW.region ?_)
 iterate 2 refine AO.pu T ?_
 refine AO.nil (AW.ret ?_)
 have hR := someE hH; subst hR
 exact retQ.i [] rfl (.t (expLG_cons (.c .v) (expLG_cons (.c .v) (expLG_nil))))
 replace hH := condF hc hH
 refine AW.skip ?_
 refine AW.seq (AW.region ?_)
 refine AO.pu T ?_
 refine AO.nil ?_
 iterate 2 refine AW.seq ?_
 obtain ⟨x9, hx10, hH⟩ := bindE hH
 refine AW.region ?_
 refine AO.pu T (d := .g [sA.best, .s (List.map encLine sA.lines)]) ?_
 refine AO.pu T ?_
 refine AO.val rfl rfl (callV_ok rfl rfl rfl rfl (spec_seHas_ok fuel _ _ _ (hx10)) rfl) ?_
 refine AO.pu T ?_
 refine AO.nil ?_
 refine AW.le (Le.ct 0 0 (σ' := (⟨[(2, events), (3, most), (4, .p 1 0), (10, .w 0 []), (11, x9)], [(1, .box [sA.best, .s (List.map encLine sA.lines)])], 84, []⟩ : St))) ?_
 refine AW.seq (AW.region ?_)
 iterate 2 refine AO.pu T ?_
 refine AO.nil ?_
 refine AW.cond (b := decide (x9 ≥ 0)) rfl (fun hc => ?_) (fun hc => ?_)
 replace hH := condT hc hH
 obtain ⟨x11, hx12, hH⟩ := bindE hH
 obtain ⟨x13, hx14, hH⟩ := bindE hH
 refine AW.region ?_
 iterate 3 refine AO.pu T ?_
 refine AO.val rfl rfl (ix_map_ok T rfl rfl rfl rfl rfl (hx12) rfl) ?_
 iterate 2 refine AO.pu T ?_
 refine AO.step rfl (call_ok rfl 2 rfl rfl rfl (spec_l1Own_ok _ _ (hx14)) rfl rfl rfl) ?_
 refine AO.pu T ?_
 refine AO.nil ?_
 obtain ⟨o168, hH, hK169⟩ := bindE hH
 refine AW.seqJ (fun s : List Int => (⟨[(4, .p 1 0), (10, .R 2)], [(1, .box [sA.best, .s (List.map encLine sA.lines)]), (2, .row 1 (List.map encInt s))], 84, []⟩ : St)) (fun s => s = o168) ?_ ?_
 refine AW.block ?_
 refine AW.loopS (fun s : Nat × Int × (List Int) => (⟨[(2, s.2.1), (3, most), (4, .p 1 0), (10, .R 2)], [(1, .box [sA.best, .s (List.map encLine sA.lines)]), (2, .row 1 (List.map encInt s.2.2))], 84, []⟩ : St)) (fun s => spec_MostStill_l1 most fuel s.1 s.2.1 s.2.2 = some o168) (fun s => s.1) (fuel, events, x13) hH ?_ ?_
 exact Le.ct 0 0
 rintro ⟨k170, v271, v272⟩ hH
 replace hH : spec_MostStill_l1 most fuel k170 v271 v272 = some o168 := hH
 try dsimp only
 rcases k170 with _ | k170
 cases (show none = some _ from hH)
 rw [spec_MostStill_l1] at hH
 iterate 2 refine AW.seq ?_
 refine AW.region ?_
 iterate 2 refine AO.pu T ?_
 refine AO.nil ?_
 refine AW.cond (b := decide (v271 > 0)) rfl (fun hc => ?_) (fun hc => ?_)
 replace hH := condT hc hH
 refine AW.skip ?_
 obtain ⟨o298, hH, hK299⟩ := bindE hH
 refine AW.seqJ (fun s : List Int => (⟨[(2, v271), (3, most), (4, .p 1 0), (10, .R 13)], [(1, .box [sA.best, .s (List.map encLine sA.lines)]), (13, .row 1 (List.map encInt s))], 84, []⟩ : St)) (fun s => s = o298) ?_ ?_
 refine AW.block ?_
 refine AW.seq (AW.region ?_)
 refine AO.pu T ?_
 refine AO.nil ?_
 obtain ⟨o310, hH, hK311⟩ := bindE hH
 refine AW.seqJ (fun s : Int => (⟨[(2, v271), (3, most), (4, .p 1 0), (10, .R 2), (12, s)], [(1, .box [sA.best, .s (List.map encLine sA.lines)]), (2, .row 1 (List.map encInt v272))], 84, []⟩ : St)) (fun s => s = o310) ?_ ?_
 refine AW.block ?_
 refine AW.loopS (fun s : Nat × Int => (⟨[(2, v271), (3, most), (4, .p 1 0), (10, .R 2), (12, s.2)], [(1, .box [sA.best, .s (List.map encLine sA.lines)]), (2, .row 1 (List.map encInt v272))], 84, []⟩ : St)) (fun s => spec_MostStill_l2 most v272 s.1 s.2 = some o310) (fun s => s.1) (fuel, 0) hH ?_ ?_
 exact Le.ct 0 0
 rintro ⟨k312, v318⟩ hH
 replace hH : spec_MostStill_l2 most v272 k312 v318 = some o310 := hH
 try dsimp only
 rcases k312 with _ | k312
 cases (show none = some _ from hH)
 rw [spec_MostStill_l2] at hH
 iterate 2 refine AW.seq ?_
 obtain ⟨x320, hx321, hH⟩ := bindE hH
 refine AW.region ?_
 iterate 2 refine AO.pu T ?_
 refine AO.val rfl rfl (len_row_ok T rfl rfl rfl rfl) ?_
 iterate 2 refine AO.pu T ?_
 iterate 2 refine AO.pureG T [] rfl trivial rfl rfl ?_
 refine AO.guard [55, 56] rfl ⟨fun h => h, fun h => h, trivial⟩ (fun hg => ix_row_ok T rfl rfl rfl rfl rfl rfl (optT hx321 hg)) rfl ?_
 refine AO.guard [57] rfl ⟨fun h => h, trivial⟩ (fun hg => load_row_ok T rfl rfl rfl rfl (getI_get (optT hx321 hg)) rfl rfl rfl) rfl ?_
 refine AO.pureG T [] rfl trivial rfl rfl ?_
 refine AO.pureG T [58, 59] rfl ⟨fun h => h, fun h => h, trivial⟩ rfl rfl ?_
 refine AO.val rfl rfl (pick_and rfl rfl rfl rfl) ?_
 refine AO.nil ?_
 refine AW.cond (b := (decide (v318 < (v272.length : Int)) && decide (x320 ≥ most))) rfl (fun hc => ?_) (fun hc => ?_)
 replace hH := condT hc hH
 refine AW.skip ?_
 refine AW.block ?_
 refine AW.region ?_
 refine AO.pu T ?_
 refine AO.val rfl rfl (arw_ok rfl rfl rfl rfl) ?_
 refine AO.pu T ?_
 refine AO.nil ?_
 refine ⟨(k312, w64 (v318 + 1)), hH, Nat.lt_succ_self _, ?_⟩
 exact Le.ct 0 0
 replace hH := condF hc hH
 refine AW.exit ?_
 refine ⟨_, someE hH, ?_⟩
 exact Le.ct 0 0
 rintro v309 hs
 subst hs
 replace hH := hK311
 try dsimp only [flow, flowE] at hH
 try dsimp only
 obtain ⟨x322, hx323, hH⟩ := bindE hH
 refine AW.region ?_
 iterate 3 refine AO.pu T ?_
 refine AO.step rfl (callL_ok rfl 14 rfl rfl (es := [.s (List.map encInt v272), v309, most]) (by exact ⟨(.rowR rfl (.map fun y => .vs rfl)), .free rfl, .free rfl, trivial⟩) (spec_seInsert_ok _ _ _ _ (hx323)) (zfree_map (fun y => (.cons (zfree_v _) .nil))) rfl rfl rfl) ?_
 refine AO.pu T ?_
 refine AO.nil ?_
 refine ⟨_, someE hH, ?_⟩
 exact Le.ct 14 13
 rintro v297 hs
 subst hs
 replace hH := hK299
 try dsimp only [flow, flowE] at hH
 try dsimp only
 refine AW.region ?_
 refine AO.pu T ?_
 refine AO.val rfl rfl (arw_ok rfl rfl rfl rfl) ?_
 refine AO.pu T ?_
 refine AO.nil ?_
 refine ⟨(k170, w64 (v271 - 1), v297), hH, Nat.lt_succ_self _, ?_⟩
 exact Le.ct 13 2
 replace hH := condF hc hH
 refine AW.exit ?_
 refine ⟨_, someE hH, ?_⟩
 exact Le.ct 0 0
 rintro v167 hs
 subst hs
 replace hH := hK169
 try dsimp only [flow, flowE] at hH
 try dsimp only
 refine AW.seq (AW.region ?_)
 refine AO.pu T ?_
 refine AO.nil ?_
 iterate 2 refine AW.seq ?_
 refine AW.region ?_
 refine AO.pu T ?_
 refine AO.val rfl rfl (len_row_ok T rfl rfl rfl rfl) ?_
 refine AO.pu T ?_
 refine AO.nil ?_
 refine AW.block ?_
 refine AW.loopS (fun s : Nat × Int => (⟨[(4, .p 1 0), (13, s.2), (68, .R 2), (69, (v167.length : Int)), (70, (s.1 : Int))], [(1, .box [sA.best, .s (List.map encLine sA.lines)]), (2, .row 1 (List.map encInt v167))], 84, []⟩ : St)) (fun s => s.1 ≤ v167.length ∧ spec_MostStill_l3 sA (v167.drop s.1) s.1 s.2 = some r) (fun s => v167.length - s.1) (0, 0) ⟨Nat.zero_le _, hH⟩ ?_ ?_
 exact Le.ct 0 0
 rintro ⟨k324, v331⟩ ⟨hk, hH⟩
 replace hH : spec_MostStill_l3 sA (v167.drop k324) k324 v331 = some r := hH
 try dsimp only
 refine AW.boundR (id := 2) (l := v167) rfl (fun hb328 => ?_)
 rcases hd327 : v167.drop k324 with _ | ⟨y325, ys326⟩
 rw [hd327, spec_MostStill_l3] at hH
 have hlt329 := drop_ge hd327
 refine AW.seq (AW.region ?_)
 refine AO.pu T ?_
 refine AO.nil (AW.seq ?_)
 refine AW.condF' (b := decide ((k324 : Int) < (v167.length : Int))) rfl (rngF hlt329) ?_
 refine AW.exit ?_
 refine AW.seq (AW.region ?_)
 iterate 3 refine AO.pu T ?_
 refine AO.nil (AW.ret ?_)
 have hR := someE hH; subst hR
 exact retQ.i [] rfl (.t (expLG_cons (.c .v) (expLG_cons (.c .v) (expLG_nil))))
 rw [hd327, spec_MostStill_l3] at hH
 have hlt329 := drop_lt hd327
 refine AW.seq (AW.region ?_)
 refine AO.pu T ?_
 refine AO.nil (AW.seq ?_)
 refine AW.condT' (b := decide ((k324 : Int) < (v167.length : Int))) rfl (rngT hlt329) ?_
 refine AW.skip ?_
 refine AW.seq ?_
 refine AW.block ?_
 refine AW.seq (AW.region ?_)
 refine AO.pu T ?_
 refine AO.val rfl rfl (ix_row_ok T rfl rfl rfl rfl rfl rfl (getI_drop hd327)) ?_
 refine AO.val rfl rfl (load_row_ok T rfl rfl rfl rfl (getI_get (getI_drop hd327)) rfl rfl rfl) ?_
 iterate 2 refine AO.pu T ?_
 refine AO.nil (AW.seq ?_)
 refine AW.region ?_
 iterate 4 refine AO.pu T ?_
 refine AO.nil ?_
 refine AW.cond (b := decide ((k324 : Int) < sA.best)) rfl (fun hc => ?_) (fun hc => ?_)
 replace hH := condT hc hH
 refine AW.region ?_
 iterate 2 refine AO.pu T ?_
 refine AO.val rfl rfl (arw_ok rfl rfl rfl rfl) ?_
 refine AO.pu T ?_
 refine AO.nil ?_
 refine AW.region ?_
 refine AO.val rfl rfl (ar_ok rfl rfl rfl rfl (inI_succ hlt329 hb328)) ?_
 refine AO.pu T ?_
 refine AO.nil ?_
 refine ⟨(k324 + 1, w64 (v331 + y325)), ⟨Nat.succ_le_of_lt hlt329, (by rw [drop_succ_of hd327]; exact hH)⟩, (by have := hlt329; dsimp only; omega), ?_⟩
 exact Le.ct 0 0
 replace hH := condF hc hH
 refine AW.skip ?_
 refine AW.region ?_
 refine AO.val rfl rfl (ar_ok rfl rfl rfl rfl (inI_succ hlt329 hb328)) ?_
 refine AO.pu T ?_
 refine AO.nil ?_
 refine ⟨(k324 + 1, v331), ⟨Nat.succ_le_of_lt hlt329, (by rw [drop_succ_of hd327]; exact hH)⟩, (by have := hlt329; dsimp only; omega), ?_⟩
 exact Le.ct 0 0
 replace hH := condF hc hH
 refine AW.skip ?_
 obtain ⟨o462, hH, hK463⟩ := bindE hH
 refine AW.seqJ (fun s : List Int => (⟨[(4, .p 1 0), (10, .R 17)], [(1, .box [sA.best, .s (List.map encLine sA.lines)]), (17, .row 1 (List.map encInt s))], 84, []⟩ : St)) (fun s => s = o462) ?_ ?_
 refine AW.block ?_
 refine AW.loopS (fun s : Nat × Int × (List Int) => (⟨[(2, s.2.1), (3, most), (4, .p 1 0), (10, .R 23)], [(1, .box [sA.best, .s (List.map encLine sA.lines)]), (23, .row 1 (List.map encInt s.2.2))], 84, []⟩ : St)) (fun s => spec_MostStill_l4 most fuel s.1 s.2.1 s.2.2 = some o462) (fun s => s.1) (fuel, events, []) hH ?_ ?_
 refine Le.trans (Le.void 10 23 1 rfl rfl) ?_
 exact Le.ct 0 0
 rintro ⟨k464, v541, v542⟩ hH
 replace hH : spec_MostStill_l4 most fuel k464 v541 v542 = some o462 := hH
 try dsimp only
 rcases k464 with _ | k464
 cases (show none = some _ from hH)
 rw [spec_MostStill_l4] at hH
 iterate 2 refine AW.seq ?_
 refine AW.region ?_
 iterate 2 refine AO.pu T ?_
 refine AO.nil ?_
 refine AW.cond (b := decide (v541 > 0)) rfl (fun hc => ?_) (fun hc => ?_)
 replace hH := condT hc hH
 refine AW.skip ?_
 obtain ⟨o568, hH, hK569⟩ := bindE hH
 refine AW.seqJ (fun s : List Int => (⟨[(2, v541), (3, most), (4, .p 1 0), (10, .R 25)], [(1, .box [sA.best, .s (List.map encLine sA.lines)]), (25, .row 1 (List.map encInt s))], 84, []⟩ : St)) (fun s => s = o568) ?_ ?_
 refine AW.block ?_
 refine AW.seq (AW.region ?_)
 refine AO.pu T ?_
 refine AO.nil ?_
 obtain ⟨o580, hH, hK581⟩ := bindE hH
 refine AW.seqJ (fun s : Int => (⟨[(2, v541), (3, most), (4, .p 1 0), (10, .R 23), (12, s)], [(1, .box [sA.best, .s (List.map encLine sA.lines)]), (23, .row 1 (List.map encInt v542))], 84, []⟩ : St)) (fun s => s = o580) ?_ ?_
 refine AW.block ?_
 refine AW.loopS (fun s : Nat × Int => (⟨[(2, v541), (3, most), (4, .p 1 0), (10, .R 23), (12, s.2)], [(1, .box [sA.best, .s (List.map encLine sA.lines)]), (23, .row 1 (List.map encInt v542))], 84, []⟩ : St)) (fun s => spec_MostStill_l5 most v542 s.1 s.2 = some o580) (fun s => s.1) (fuel, 0) hH ?_ ?_
 exact Le.ct 0 0
 rintro ⟨k582, v588⟩ hH
 replace hH : spec_MostStill_l5 most v542 k582 v588 = some o580 := hH
 try dsimp only
 rcases k582 with _ | k582
 cases (show none = some _ from hH)
 rw [spec_MostStill_l5] at hH
 iterate 2 refine AW.seq ?_
 obtain ⟨x590, hx591, hH⟩ := bindE hH
 refine AW.region ?_
 iterate 2 refine AO.pu T ?_
 refine AO.val rfl rfl (len_row_ok T rfl rfl rfl rfl) ?_
 iterate 2 refine AO.pu T ?_
 iterate 2 refine AO.pureG T [] rfl trivial rfl rfl ?_
 refine AO.guard [55, 56] rfl ⟨fun h => h, fun h => h, trivial⟩ (fun hg => ix_row_ok T rfl rfl rfl rfl rfl rfl (optT hx591 hg)) rfl ?_
 refine AO.guard [57] rfl ⟨fun h => h, trivial⟩ (fun hg => load_row_ok T rfl rfl rfl rfl (getI_get (optT hx591 hg)) rfl rfl rfl) rfl ?_
 refine AO.pureG T [] rfl trivial rfl rfl ?_
 refine AO.pureG T [58, 59] rfl ⟨fun h => h, fun h => h, trivial⟩ rfl rfl ?_
 refine AO.val rfl rfl (pick_and rfl rfl rfl rfl) ?_
 refine AO.nil ?_
 refine AW.cond (b := (decide (v588 < (v542.length : Int)) && decide (x590 ≥ most))) rfl (fun hc => ?_) (fun hc => ?_)
 replace hH := condT hc hH
 refine AW.skip ?_
 refine AW.block ?_
 refine AW.region ?_
 refine AO.pu T ?_
 refine AO.val rfl rfl (arw_ok rfl rfl rfl rfl) ?_
 refine AO.pu T ?_
 refine AO.nil ?_
 refine ⟨(k582, w64 (v588 + 1)), hH, Nat.lt_succ_self _, ?_⟩
 exact Le.ct 0 0
 replace hH := condF hc hH
 refine AW.exit ?_
 refine ⟨_, someE hH, ?_⟩
 exact Le.ct 0 0
 rintro v579 hs
 subst hs
 replace hH := hK581
 try dsimp only [flow, flowE] at hH
 try dsimp only
 obtain ⟨x592, hx593, hH⟩ := bindE hH
 refine AW.region ?_
 iterate 3 refine AO.pu T ?_
 refine AO.step rfl (callL_ok rfl 26 rfl rfl (es := [.s (List.map encInt v542), v579, most]) (by exact ⟨(.rowR rfl (.map fun y => .vs rfl)), .free rfl, .free rfl, trivial⟩) (spec_seInsert_ok _ _ _ _ (hx593)) (zfree_map (fun y => (.cons (zfree_v _) .nil))) rfl rfl rfl) ?_
 refine AO.pu T ?_
 refine AO.nil ?_
 refine ⟨_, someE hH, ?_⟩
 exact Le.ct 26 25
 rintro v567 hs
 subst hs
 replace hH := hK569
 try dsimp only [flow, flowE] at hH
 try dsimp only
 refine AW.region ?_
 refine AO.pu T ?_
 refine AO.val rfl rfl (arw_ok rfl rfl rfl rfl) ?_
 refine AO.pu T ?_
 refine AO.nil ?_
 refine ⟨(k464, w64 (v541 - 1), v567), hH, Nat.lt_succ_self _, ?_⟩
 exact Le.ct 25 23
 replace hH := condF hc hH
 refine AW.exit ?_
 refine ⟨_, someE hH, ?_⟩
 exact Le.ct 23 17
 rintro v461 hs
 subst hs
 replace hH := hK463
 try dsimp only [flow, flowE] at hH
 try dsimp only
 refine AW.seq (AW.region ?_)
 refine AO.pu T ?_
 refine AO.nil ?_
 iterate 2 refine AW.seq ?_
 refine AW.region ?_
 refine AO.pu T ?_
 refine AO.val rfl rfl (len_row_ok T rfl rfl rfl rfl) ?_
 refine AO.pu T ?_
 refine AO.nil ?_
 refine AW.block ?_
 refine AW.loopS (fun s : Nat × Int => (⟨[(4, .p 1 0), (13, s.2), (68, .R 17), (69, (v461.length : Int)), (70, (s.1 : Int))], [(1, .box [sA.best, .s (List.map encLine sA.lines)]), (17, .row 1 (List.map encInt v461))], 84, []⟩ : St)) (fun s => s.1 ≤ v461.length ∧ spec_MostStill_l6 sA (v461.drop s.1) s.1 s.2 = some r) (fun s => v461.length - s.1) (0, 0) ⟨Nat.zero_le _, hH⟩ ?_ ?_
 exact Le.ct 0 0
 rintro ⟨k594, v601⟩ ⟨hk, hH⟩
 replace hH : spec_MostStill_l6 sA (v461.drop k594) k594 v601 = some r := hH
 try dsimp only
 refine AW.boundR (id := 17) (l := v461) rfl (fun hb598 => ?_)
 rcases hd597 : v461.drop k594 with _ | ⟨y595, ys596⟩
 rw [hd597, spec_MostStill_l6] at hH
 have hlt599 := drop_ge hd597
 refine AW.seq (AW.region ?_)
 refine AO.pu T ?_
 refine AO.nil (AW.seq ?_)
 refine AW.condF' (b := decide ((k594 : Int) < (v461.length : Int))) rfl (rngF hlt599) ?_
 refine AW.exit ?_
 refine AW.seq (AW.region ?_)
 iterate 3 refine AO.pu T ?_
 refine AO.nil (AW.ret ?_)
 have hR := someE hH; subst hR
 exact retQ.i [] rfl (.t (expLG_cons (.c .v) (expLG_cons (.c .v) (expLG_nil))))
 rw [hd597, spec_MostStill_l6] at hH
 have hlt599 := drop_lt hd597
 refine AW.seq (AW.region ?_)
 refine AO.pu T ?_
 refine AO.nil (AW.seq ?_)
 refine AW.condT' (b := decide ((k594 : Int) < (v461.length : Int))) rfl (rngT hlt599) ?_
 refine AW.skip ?_
 refine AW.seq ?_
 refine AW.block ?_
 refine AW.seq (AW.region ?_)
 refine AO.pu T ?_
 refine AO.val rfl rfl (ix_row_ok T rfl rfl rfl rfl rfl rfl (getI_drop hd597)) ?_
 refine AO.val rfl rfl (load_row_ok T rfl rfl rfl rfl (getI_get (getI_drop hd597)) rfl rfl rfl) ?_
 iterate 2 refine AO.pu T ?_
 refine AO.nil (AW.seq ?_)
 refine AW.region ?_
 iterate 4 refine AO.pu T ?_
 refine AO.nil ?_
 refine AW.cond (b := decide ((k594 : Int) < sA.best)) rfl (fun hc => ?_) (fun hc => ?_)
 replace hH := condT hc hH
 refine AW.region ?_
 iterate 2 refine AO.pu T ?_
 refine AO.val rfl rfl (arw_ok rfl rfl rfl rfl) ?_
 refine AO.pu T ?_
 refine AO.nil ?_
 refine AW.region ?_
 refine AO.val rfl rfl (ar_ok rfl rfl rfl rfl (inI_succ hlt599 hb598)) ?_
 refine AO.pu T ?_
 refine AO.nil ?_
 refine ⟨(k594 + 1, w64 (v601 + y595)), ⟨Nat.succ_le_of_lt hlt599, (by rw [drop_succ_of hd597]; exact hH)⟩, (by have := hlt599; dsimp only; omega), ?_⟩
 exact Le.ct 0 0
 replace hH := condF hc hH
 refine AW.skip ?_
 refine AW.region ?_
 refine AO.val rfl rfl (ar_ok rfl rfl rfl rfl (inI_succ hlt599 hb598)) ?_
 refine AO.pu T ?_
 refine AO.nil ?_
 refine ⟨(k594 + 1, v601), ⟨Nat.succ_le_of_lt hlt599, (by rw [drop_succ_of hd597]; exact hH)⟩, (by have := hlt599; dsimp only; omega), ?_⟩
 exact Le.ct 0 0

def laws_qInts_l1 (b : List Int) : List Int → Nat → Option Bool
  | [], k1 =>
    some true
  | y2 :: ys3, k1 =>
    (getI b (k1 : Int)).bind fun x12 =>
    cond (y2 != x12)
      (some false)
      (laws_qInts_l1 b ys3 (k1 + 1))
def laws_qInts_p (a : List Int) (b : List Int) : Option Bool :=
  cond ((a.length : Int) != (b.length : Int))
    (some false)
    (laws_qInts_l1 b a 0)
theorem laws_qInts_ok (a : List Int) (b : List Int) (r : Bool) (hH : laws_qInts_p a b = some r) : SpecR Try.prog 14 [.s (List.map encInt a), .s (List.map encInt b)] (.v (.bool r)) := by
 refine fn_ok T Try.func14 rfl (by decide) rfl ?_
 refine AW.seq (AW.region ?_)
 refine AO.pu T ?_
 refine AO.nil ?_
 iterate 2 refine AW.seq ?_
 refine AW.region ?_
 refine AO.pu T ?_
 refine AO.val rfl rfl (len_map_ok T rfl rfl rfl) ?_
 refine AO.pu T ?_
 refine AO.val rfl rfl (len_map_ok T rfl rfl rfl) ?_
 refine AO.pu T ?_
 refine AO.nil ?_
 refine AW.cond (b := ((a.length : Int) != (b.length : Int))) rfl (fun hc => ?_) (fun hc => ?_)
 replace hH := condT hc hH
 refine AW.seq (AW.region ?_)
 refine AO.pu T ?_
 refine AO.nil (AW.ret ?_)
 have hR := someE hH; subst hR
 exact retQ.i [] rfl (.c (.c .v))
 replace hH := condF hc hH
 refine AW.skip ?_
 iterate 2 refine AW.seq ?_
 refine AW.region ?_
 refine AO.pu T ?_
 refine AO.val rfl rfl (len_map_ok T rfl rfl rfl) ?_
 refine AO.pu T ?_
 refine AO.nil ?_
 refine AW.block ?_
 refine AW.loopS (fun s : Nat => (⟨[(0, .s (List.map encInt a)), (1, .s (List.map encInt b)), (12, (a.length : Int)), (13, (s : Int))], [], 26, []⟩ : St)) (fun s => s ≤ a.length ∧ laws_qInts_l1 b (a.drop s) s = some r) (fun s => a.length - s) 0 ⟨Nat.zero_le _, hH⟩ ?_ ?_
 exact Le.ct 0 0
 rintro k1 ⟨hk, hH⟩
 replace hH : laws_qInts_l1 b (a.drop k1) k1 = some r := hH
 try dsimp only
 refine AW.boundM (t := 0) (l := a) rfl (fun hb5 => ?_)
 rcases hd4 : a.drop k1 with _ | ⟨y2, ys3⟩
 rw [hd4, laws_qInts_l1] at hH
 have hlt6 := drop_ge hd4
 refine AW.seq (AW.region ?_)
 refine AO.pu T ?_
 refine AO.nil (AW.seq ?_)
 refine AW.condF' (b := decide ((k1 : Int) < (a.length : Int))) rfl (rngF hlt6) ?_
 refine AW.exit ?_
 refine AW.seq (AW.region ?_)
 refine AO.pu T ?_
 refine AO.nil (AW.ret ?_)
 have hR := someE hH; subst hR
 exact retQ.i [] rfl (.c (.c .v))
 rw [hd4, laws_qInts_l1] at hH
 have hlt6 := drop_lt hd4
 refine AW.seq (AW.region ?_)
 refine AO.pu T ?_
 refine AO.nil (AW.seq ?_)
 refine AW.condT' (b := decide ((k1 : Int) < (a.length : Int))) rfl (rngT hlt6) ?_
 refine AW.skip ?_
 refine AW.seq ?_
 refine AW.block ?_
 refine AW.seq (AW.region ?_)
 iterate 2 refine AO.pu T ?_
 refine AO.nil (AW.seq ?_)
 obtain ⟨x12, hx13, hH⟩ := bindE hH
 refine AW.drawn 8 1 [] mix (by kernel_rfl) rfl ?_
 iterate 2 refine AD.pure T rfl rfl rfl ?_
 refine AD.val rfl rfl (ix_map_ok T rfl rfl rfl rfl rfl (getI_drop hd4) rfl) ?_
 iterate 3 refine AD.pure T rfl rfl rfl ?_
 refine AD.val rfl rfl (ix_map_ok T rfl rfl rfl rfl rfl (hx13) rfl) ?_
 refine AD.pure T rfl rfl rfl ?_
 refine AD.nil ?_
 refine AO.pu T ?_
 refine AO.nil ?_
 refine AW.cond (b := (y2 != x12)) rfl (fun hc => ?_) (fun hc => ?_)
 replace hH := condT hc hH
 refine AW.seq (AW.region ?_)
 refine AO.pu T ?_
 refine AO.nil (AW.ret ?_)
 have hR := someE hH; subst hR
 exact retQ.i [] rfl (.c (.c .v))
 replace hH := condF hc hH
 refine AW.skip ?_
 refine AW.region ?_
 refine AO.val rfl rfl (ar_ok rfl rfl rfl rfl (inI_succ hlt6 hb5)) ?_
 refine AO.pu T ?_
 refine AO.nil ?_
 refine ⟨k1 + 1, ⟨Nat.succ_le_of_lt hlt6, (by rw [drop_succ_of hd4]; exact hH)⟩, (by have := hlt6; dsimp only; omega), ?_⟩
 exact Le.ct 0 0

def laws_FnStandings_l3 (x5 : ((List Int) × Bool)) (k71 : Nat) (y72 : Int) : List Int → Nat → Option (Except Bool Unit)
  | [], k174 =>
    some (.ok ())
  | y175 :: ys176, k174 =>
    (opt (decide (y72 > y175)) default (getI x5.1 (k71 : Int))).bind fun x189 =>
    (opt (decide (y72 > y175)) default (getI x5.1 (k174 : Int))).bind fun x191 =>
    cond (decide (y72 > y175) && decide (x189 ≥ x191))
      (some (.error false))
      (laws_FnStandings_l3 x5 k71 y72 ys176 (k174 + 1))
def laws_FnStandings_l2 (x5 : ((List Int) × Bool)) (v55 : List Int) : List Int → Nat → Option Bool
  | [], k71 =>
    some true
  | y72 :: ys73, k71 =>
    (laws_FnStandings_l3 x5 k71 y72 v55 0).bind fun o172 => flow o172 fun _ =>
    laws_FnStandings_l2 x5 v55 ys73 (k71 + 1)
def laws_FnStandings_l1 (fuel : Nat) (x1 : Season) (x5 : ((List Int) × Bool)) : Nat → List Line → List Int → List Line → Int → Option Bool
  | 0, _, _, _, _ => none
  | k25 + 1, v54, v55, v56, v57 =>
    cond (decide (v57 < (x1.lines.length : Int)))
      ((getI v56 v57).bind fun x59 =>
      (impl_TotalOf_p fuel (Season.mk x1.best v54) x59.skater).bind fun x61 =>
      (spec_TotalOf_p fuel (Season.mk x1.best v54) x59.skater).bind fun x63 =>
      (opt (!(((!x61.2) || (!x63.2)) || (x61.1 != x63.1))) default (getI x5.1 v57)).bind fun x65 =>
      (opt (!((((!x61.2) || (!x63.2)) || (x61.1 != x63.1)) || decide (x65 < 1))) default (getI x5.1 v57)).bind fun x67 =>
      cond (((((!x61.2) || (!x63.2)) || (x61.1 != x63.1)) || decide (x65 < 1)) || decide (x67 > (v54.length : Int)))
        (some false)
        ((need (fitsB 8 (v55.length + ([x63.1]).length))).bind fun u69 =>
        laws_FnStandings_l1 fuel x1 x5 k25 v54 (v55 ++ [x63.1]) v56 (w64 (v57 + 1))))
      (laws_FnStandings_l2 x5 v55 v55 0)
def laws_FnStandings_l6 (x5 : ((List Int) × Bool)) (k239 : Nat) (y240 : Int) : List Int → Nat → Option (Except Bool Unit)
  | [], k342 =>
    some (.ok ())
  | y343 :: ys344, k342 =>
    (opt (decide (y240 > y343)) default (getI x5.1 (k239 : Int))).bind fun x357 =>
    (opt (decide (y240 > y343)) default (getI x5.1 (k342 : Int))).bind fun x359 =>
    cond (decide (y240 > y343) && decide (x357 ≥ x359))
      (some (.error false))
      (laws_FnStandings_l6 x5 k239 y240 ys344 (k342 + 1))
def laws_FnStandings_l5 (x5 : ((List Int) × Bool)) (v223 : List Int) : List Int → Nat → Option Bool
  | [], k239 =>
    some true
  | y240 :: ys241, k239 =>
    (laws_FnStandings_l6 x5 k239 y240 v223 0).bind fun o340 => flow o340 fun _ =>
    laws_FnStandings_l5 x5 v223 ys241 (k239 + 1)
def laws_FnStandings_l4 (fuel : Nat) (x1 : Season) (x5 : ((List Int) × Bool)) : Nat → List Line → List Int → List Line → Int → Option Bool
  | 0, _, _, _, _ => none
  | k193 + 1, v222, v223, v224, v225 =>
    cond (decide (v225 < (x1.lines.length : Int)))
      ((getI v224 v225).bind fun x227 =>
      (impl_TotalOf_p fuel (Season.mk x1.best v222) x227.skater).bind fun x229 =>
      (spec_TotalOf_p fuel (Season.mk x1.best v222) x227.skater).bind fun x231 =>
      (opt (!(((!x229.2) || (!x231.2)) || (x229.1 != x231.1))) default (getI x5.1 v225)).bind fun x233 =>
      (opt (!((((!x229.2) || (!x231.2)) || (x229.1 != x231.1)) || decide (x233 < 1))) default (getI x5.1 v225)).bind fun x235 =>
      cond (((((!x229.2) || (!x231.2)) || (x229.1 != x231.1)) || decide (x233 < 1)) || decide (x235 > (v222.length : Int)))
        (some false)
        ((need (fitsB 8 (v223.length + ([x231.1]).length))).bind fun u237 =>
        laws_FnStandings_l4 fuel x1 x5 k193 v222 (v223 ++ [x231.1]) v224 (w64 (v225 + 1))))
      (laws_FnStandings_l5 x5 v223 v223 0)
def laws_FnStandings_p (fuel : Nat) (code : List Int) (more : List Int) : Option Bool :=
  cond (decide ((w64 ((code.length : Int) + (more.length : Int))) > 1048576))
    (some true)
    ((spec_DrawPlacesOf_p fuel code).bind fun x1 =>
    (impl_PlacesOf_p fuel x1).bind fun x3 =>
    (spec_PlacesOf_p x1).bind fun x5 =>
    (spec_DrawTotalOf_p fuel more).bind fun x7 =>
    (impl_TotalOf_p fuel (Season.mk x7.1.best x7.1.lines) x7.2).bind fun x9 =>
    (spec_TotalOf_p fuel (Season.mk x7.1.best x7.1.lines) x7.2).bind fun x11 =>
    (spec_DrawMostStill_p fuel more).bind fun x13 =>
    (impl_MostStill_p fuel (Season.mk x13.1.best x13.1.lines) x13.2.1 x13.2.2.1 x13.2.2.2).bind fun x15 =>
    (spec_MostStill_p fuel (Season.mk x13.1.best x13.1.lines) x13.2.1 x13.2.2.1 x13.2.2.2).bind fun x17 =>
    (opt (!(!(x3.2 == x5.2))) default (laws_qInts_p x3.1 x5.1)).bind fun x19 =>
    cond (((((((!(x3.2 == x5.2)) || (!x19)) || (!(x9.2 == x11.2))) || (x9.1 != x11.1)) || (!(x15.2 == x17.2))) || (x15.1 != x17.1)) || (x9.2 && decide (x11.1 < 0)))
      (some false)
      (cond x15.2
        ((impl_TotalOf_p fuel (Season.mk x13.1.best x13.1.lines) x13.2.1).bind fun x21 =>
        (spec_TotalOf_p fuel (Season.mk x13.1.best x13.1.lines) x13.2.1).bind fun x23 =>
        cond (((((!(x21.2 == x23.2)) || (x21.1 != x23.1)) || decide (x17.1 < x23.1)) || decide (x17.1 > (w64 (x23.1 + (w64 (x13.2.2.1 * x13.2.2.2)))))) || ((x13.2.2.1 == 0) && (x17.1 != x23.1)))
          (some false)
          (cond (!x3.2)
            (some true)
            (laws_FnStandings_l1 fuel x1 x5 fuel x1.lines [] x1.lines 0)))
        (cond (!x3.2)
          (some true)
          (laws_FnStandings_l4 fuel x1 x5 fuel x1.lines [] x1.lines 0))))
theorem laws_FnStandings_ok (fuel : Nat) (code : List Int) (more : List Int) (r : Bool) (hH : laws_FnStandings_p fuel code more = some r) : SpecR Try.prog 3 [.s (List.map encInt_u8 code), .s (List.map encInt_u8 more)] (.v (.bool r)) := by
 refine fn_ok T Try.func3 rfl (by decide) rfl ?_
 refine AW.seq (AW.region ?_)
 refine AO.pu T ?_
 refine AO.nil ?_
 iterate 2 refine AW.seq ?_
 refine AW.region ?_
 refine AO.pu T ?_
 refine AO.val rfl rfl (len_map_ok T rfl rfl rfl) ?_
 refine AO.pu T ?_
 refine AO.val rfl rfl (len_map_ok T rfl rfl rfl) ?_
 refine AO.val rfl rfl (arw_ok rfl rfl rfl rfl) ?_
 refine AO.pu T ?_
 refine AO.nil ?_
 refine AW.cond (b := decide ((w64 ((code.length : Int) + (more.length : Int))) > 1048576)) rfl (fun hc => ?_) (fun hc => ?_)
 replace hH := condT hc hH
 refine AW.seq (AW.region ?_)
 refine AO.pu T ?_
 refine AO.nil (AW.ret ?_)
 have hR := someE hH; subst hR
 exact retQ.i [] rfl (.c (.c .v))
 replace hH := condF hc hH
 refine AW.skip ?_
 refine AW.seq ?_
 obtain ⟨x1, hx2, hH⟩ := bindE hH
 refine AW.region ?_
 refine AO.pu T ?_
 refine AO.step rfl (call_ok rfl 1 rfl rfl rfl (spec_DrawPlacesOf_ok fuel _ _ (hx2)) rfl rfl rfl) ?_
 refine AO.step rfl (alloc_ok T rfl 2 rfl rfl rfl rfl rfl) ?_
 refine AO.se T [x1.best, .R 1] ?_
 refine AO.nil (AW.seq ?_)
 obtain ⟨x3, hx4, hH⟩ := bindE hH
 refine AW.region ?_
 refine AO.pu T (d := .g [x1.best, .R 1]) ?_
 refine AO.step rfl (callL_ok rfl 3 rfl rfl (es := [.g (encSeason x1)]) (by exact ⟨lend_g (LendL.cons (.free rfl) (LendL.cons ((.rowR rfl (.map fun y => frzLine y))) LendL.nil)), trivial⟩) (impl_PlacesOf_ok fuel _ _ (hx4)) (zfree_t (zfl (.cons (zfree_map (fun y => (.cons (zfree_v _) .nil))) (.cons (zfree_v _) .nil)))) rfl rfl rfl) ?_
 iterate 5 refine AO.pu T ?_
 refine AO.nil (AW.seq ?_)
 obtain ⟨x5, hx6, hH⟩ := bindE hH
 refine AW.region ?_
 refine AO.pu T (d := .g [x1.best, .R 1]) ?_
 refine AO.step rfl (callL_ok rfl 4 rfl rfl (es := [.g (encSeason x1)]) (by exact ⟨lend_g (LendL.cons (.free rfl) (LendL.cons ((.rowR rfl (.map fun y => frzLine y))) LendL.nil)), trivial⟩) (spec_PlacesOf_ok _ _ (hx6)) (zfree_t (zfl (.cons (zfree_map (fun y => (.cons (zfree_v _) .nil))) (.cons (zfree_v _) .nil)))) rfl rfl rfl) ?_
 iterate 5 refine AO.pu T ?_
 refine AO.nil ?_
 refine AW.le (Le.ct 0 0 (σ' := (⟨[(1, .s (List.map encInt_u8 more)), (5, .p 2 0), (6, .R 3), (7, .v (.bool x3.2)), (8, .R 4), (9, .v (.bool x5.2))], [(1, .row 3 (List.map encLineO x1.lines)), (2, .box [x1.best, .R 1]), (3, .row 1 (List.map encInt x3.1)), (4, .row 1 (List.map encInt x5.1))], 264, []⟩ : St))) ?_
 refine AW.seq ?_
 obtain ⟨x7, hx8, hH⟩ := bindE hH
 refine AW.region ?_
 refine AO.pu T ?_
 refine AO.step rfl (call_ok rfl 5 rfl rfl rfl (spec_DrawTotalOf_ok fuel _ _ (hx8)) rfl rfl rfl) ?_
 refine AO.pu T ?_
 refine AO.pu T (d := .g [x7.1.best, .R 5]) ?_
 refine AO.pu T ?_
 refine AO.step rfl (alloc_ok T rfl 6 rfl rfl rfl rfl rfl) ?_
 refine AO.se T [x7.1.best, .R 5] ?_
 refine AO.pu T ?_
 refine AO.nil (AW.seq ?_)
 obtain ⟨x9, hx10, hH⟩ := bindE hH
 refine AW.region ?_
 refine AO.pu T (d := .g [x7.1.best, .R 5]) ?_
 refine AO.pu T ?_
 refine AO.val rfl rfl (callLV_ok rfl rfl rfl (es := [.g (encSeason (Season.mk x7.1.best x7.1.lines)), x7.2]) ⟨lend_g (LendL.cons (.free rfl) (LendL.cons ((.rowR rfl (.map fun y => frzLine y))) LendL.nil)), .free rfl, trivial⟩ (impl_TotalOf_ok fuel _ _ _ (hx10)) (zfree_t (zfl (.cons (zfree_v _) (.cons (zfree_v _) .nil)))) rfl) ?_
 iterate 5 refine AO.pu T ?_
 refine AO.nil (AW.seq ?_)
 obtain ⟨x11, hx12, hH⟩ := bindE hH
 refine AW.region ?_
 refine AO.pu T (d := .g [x7.1.best, .R 5]) ?_
 refine AO.pu T ?_
 refine AO.val rfl rfl (callLV_ok rfl rfl rfl (es := [.g (encSeason (Season.mk x7.1.best x7.1.lines)), x7.2]) ⟨lend_g (LendL.cons (.free rfl) (LendL.cons ((.rowR rfl (.map fun y => frzLine y))) LendL.nil)), .free rfl, trivial⟩ (spec_TotalOf_ok fuel _ _ _ (hx12)) (zfree_t (zfl (.cons (zfree_v _) (.cons (zfree_v _) .nil)))) rfl) ?_
 iterate 5 refine AO.pu T ?_
 refine AO.nil ?_
 refine AW.le (Le.ct 0 0 (σ' := (⟨[(1, .s (List.map encInt_u8 more)), (5, .p 2 0), (6, .R 3), (7, .v (.bool x3.2)), (8, .R 4), (9, .v (.bool x5.2)), (12, x9.1), (13, .v (.bool x9.2)), (14, x11.1), (15, .v (.bool x11.2))], [(1, .row 3 (List.map encLineO x1.lines)), (2, .box [x1.best, .R 1]), (3, .row 1 (List.map encInt x3.1)), (4, .row 1 (List.map encInt x5.1))], 264, []⟩ : St))) ?_
 refine AW.seq ?_
 obtain ⟨x13, hx14, hH⟩ := bindE hH
 refine AW.region ?_
 refine AO.pu T ?_
 refine AO.step rfl (call_ok rfl 7 rfl rfl rfl (spec_DrawMostStill_ok fuel _ _ (hx14)) rfl rfl rfl) ?_
 refine AO.pu T ?_
 refine AO.pu T (d := .g [x13.1.best, .R 7]) ?_
 iterate 3 refine AO.pu T ?_
 refine AO.step rfl (alloc_ok T rfl 8 rfl rfl rfl rfl rfl) ?_
 refine AO.se T [x13.1.best, .R 7] ?_
 iterate 3 refine AO.pu T ?_
 refine AO.nil (AW.seq ?_)
 obtain ⟨x15, hx16, hH⟩ := bindE hH
 refine AW.region ?_
 refine AO.pu T (d := .g [x13.1.best, .R 7]) ?_
 iterate 3 refine AO.pu T ?_
 refine AO.val rfl rfl (callLV_ok rfl rfl rfl (es := [.g (encSeason (Season.mk x13.1.best x13.1.lines)), x13.2.1, x13.2.2.1, x13.2.2.2]) ⟨lend_g (LendL.cons (.free rfl) (LendL.cons ((.rowR rfl (.map fun y => frzLine y))) LendL.nil)), .free rfl, .free rfl, .free rfl, trivial⟩ (impl_MostStill_ok fuel _ _ _ _ _ (hx16)) (zfree_t (zfl (.cons (zfree_v _) (.cons (zfree_v _) .nil)))) rfl) ?_
 iterate 5 refine AO.pu T ?_
 refine AO.nil (AW.seq ?_)
 obtain ⟨x17, hx18, hH⟩ := bindE hH
 refine AW.region ?_
 refine AO.pu T (d := .g [x13.1.best, .R 7]) ?_
 iterate 3 refine AO.pu T ?_
 refine AO.val rfl rfl (callLV_ok rfl rfl rfl (es := [.g (encSeason (Season.mk x13.1.best x13.1.lines)), x13.2.1, x13.2.2.1, x13.2.2.2]) ⟨lend_g (LendL.cons (.free rfl) (LendL.cons ((.rowR rfl (.map fun y => frzLine y))) LendL.nil)), .free rfl, .free rfl, .free rfl, trivial⟩ (spec_MostStill_ok fuel _ _ _ _ _ (hx18)) (zfree_t (zfl (.cons (zfree_v _) (.cons (zfree_v _) .nil)))) rfl) ?_
 iterate 5 refine AO.pu T ?_
 refine AO.nil ?_
 refine AW.le (Le.ct 0 0 (σ' := (⟨[(5, .p 2 0), (6, .R 3), (7, .v (.bool x3.2)), (8, .R 4), (9, .v (.bool x5.2)), (12, x9.1), (13, .v (.bool x9.2)), (14, x11.1), (15, .v (.bool x11.2)), (16, .p 8 0), (17, x13.2.1), (18, x13.2.2.1), (19, x13.2.2.2), (20, x15.1), (21, .v (.bool x15.2)), (22, x17.1), (23, .v (.bool x17.2))], [(1, .row 3 (List.map encLineO x1.lines)), (2, .box [x1.best, .R 1]), (3, .row 1 (List.map encInt x3.1)), (4, .row 1 (List.map encInt x5.1)), (7, .row 3 (List.map encLineO x13.1.lines)), (8, .box [x13.1.best, .R 7])], 264, []⟩ : St))) ?_
 iterate 2 refine AW.seq ?_
 obtain ⟨x19, hx20, hH⟩ := bindE hH
 refine AW.region ?_
 iterate 4 refine AO.pu T ?_
 iterate 2 refine AO.pureG T [] rfl trivial rfl rfl ?_
 refine AO.guard [101, 102] rfl ⟨fun h => h, fun h => h, trivial⟩ (fun hg => callLV_ok rfl rfl rfl (es := [.s (List.map encInt x3.1), .s (List.map encInt x5.1)]) ⟨(.rowR rfl (.map fun y => .vs rfl)), (.rowR rfl (.map fun y => .vs rfl)), trivial⟩ (laws_qInts_ok _ _ _ (optT hx20 hg)) (zfree_v _) rfl) rfl ?_
 refine AO.pureG T [103] rfl ⟨fun h => h, trivial⟩ rfl rfl ?_
 refine AO.val rfl rfl (pick_or rfl rfl rfl rfl) ?_
 refine AO.pu T ?_
 iterate 2 refine AO.pureG T [] rfl trivial rfl rfl ?_
 refine AO.pureG T [107, 108] rfl ⟨fun h => h, fun h => h, trivial⟩ rfl rfl ?_
 refine AO.val rfl rfl (pick_or rfl rfl rfl rfl) ?_
 refine AO.pu T ?_
 iterate 2 refine AO.pureG T [] rfl trivial rfl rfl ?_
 refine AO.pureG T [112, 113] rfl ⟨fun h => h, fun h => h, trivial⟩ rfl rfl ?_
 refine AO.val rfl rfl (pick_or rfl rfl rfl rfl) ?_
 refine AO.pu T ?_
 iterate 2 refine AO.pureG T [] rfl trivial rfl rfl ?_
 refine AO.pureG T [117, 118] rfl ⟨fun h => h, fun h => h, trivial⟩ rfl rfl ?_
 refine AO.val rfl rfl (pick_or rfl rfl rfl rfl) ?_
 refine AO.pu T ?_
 iterate 2 refine AO.pureG T [] rfl trivial rfl rfl ?_
 refine AO.pureG T [122, 123] rfl ⟨fun h => h, fun h => h, trivial⟩ rfl rfl ?_
 refine AO.val rfl rfl (pick_or rfl rfl rfl rfl) ?_
 refine AO.pu T ?_
 refine AO.pureG T [] rfl trivial rfl rfl ?_
 refine AO.pureG T [127] rfl ⟨fun h => h, trivial⟩ rfl rfl ?_
 refine AO.pureG T [] rfl trivial rfl rfl ?_
 refine AO.pureG T [129] rfl ⟨fun h => h, trivial⟩ rfl rfl ?_
 refine AO.guard [128] rfl ⟨fun h => h, trivial⟩ (fun hg => pick_and rfl rfl rfl (by rw [hg]; exact Bool.true_and _)) rfl ?_
 refine AO.val rfl rfl (pick_or rfl rfl rfl rfl) ?_
 refine AO.nil ?_
 refine AW.le (Le.ct 0 0 (σ' := (⟨[(5, .p 2 0), (7, .v (.bool x3.2)), (8, .R 4), (16, .p 8 0), (17, x13.2.1), (18, x13.2.2.1), (19, x13.2.2.2), (21, .v (.bool x15.2)), (22, x17.1), (132, .v (.bool (((((((!(x3.2 == x5.2)) || (!x19)) || (!(x9.2 == x11.2))) || (x9.1 != x11.1)) || (!(x15.2 == x17.2))) || (x15.1 != x17.1)) || (x9.2 && decide (x11.1 < 0)))))], [(1, .row 3 (List.map encLineO x1.lines)), (2, .box [x1.best, .R 1]), (4, .row 1 (List.map encInt x5.1)), (7, .row 3 (List.map encLineO x13.1.lines)), (8, .box [x13.1.best, .R 7])], 264, []⟩ : St))) ?_
 refine AW.cond (b := (((((((!(x3.2 == x5.2)) || (!x19)) || (!(x9.2 == x11.2))) || (x9.1 != x11.1)) || (!(x15.2 == x17.2))) || (x15.1 != x17.1)) || (x9.2 && decide (x11.1 < 0)))) rfl (fun hc => ?_) (fun hc => ?_)
 replace hH := condT hc hH
 refine AW.seq (AW.region ?_)
 refine AO.pu T ?_
 refine AO.nil (AW.ret ?_)
 have hR := someE hH; subst hR
 exact retQ.i [] rfl (.c (.c .v))
 replace hH := condF hc hH
 refine AW.skip ?_
 iterate 2 refine AW.seq ?_
 refine AW.region ?_
 refine AO.pu T ?_
 refine AO.nil ?_
 refine AW.cond (b := x15.2) rfl (fun hc => ?_) (fun hc => ?_)
 replace hH := condT hc hH
 refine AW.seq ?_
 obtain ⟨x21, hx22, hH⟩ := bindE hH
 refine AW.region ?_
 refine AO.pu T (d := .g [x13.1.best, .R 7]) ?_
 refine AO.pu T ?_
 refine AO.val rfl rfl (callLV_ok rfl rfl rfl (es := [.g (encSeason (Season.mk x13.1.best x13.1.lines)), x13.2.1]) ⟨lend_g (LendL.cons (.free rfl) (LendL.cons ((.rowR rfl (.map fun y => frzLine y))) LendL.nil)), .free rfl, trivial⟩ (impl_TotalOf_ok fuel _ _ _ (hx22)) (zfree_t (zfl (.cons (zfree_v _) (.cons (zfree_v _) .nil)))) rfl) ?_
 iterate 5 refine AO.pu T ?_
 refine AO.nil (AW.seq ?_)
 obtain ⟨x23, hx24, hH⟩ := bindE hH
 refine AW.region ?_
 refine AO.pu T (d := .g [x13.1.best, .R 7]) ?_
 refine AO.pu T ?_
 refine AO.val rfl rfl (callLV_ok rfl rfl rfl (es := [.g (encSeason (Season.mk x13.1.best x13.1.lines)), x13.2.1]) ⟨lend_g (LendL.cons (.free rfl) (LendL.cons ((.rowR rfl (.map fun y => frzLine y))) LendL.nil)), .free rfl, trivial⟩ (spec_TotalOf_ok fuel _ _ _ (hx24)) (zfree_t (zfl (.cons (zfree_v _) (.cons (zfree_v _) .nil)))) rfl) ?_
 iterate 5 refine AO.pu T ?_
 refine AO.nil (AW.seq ?_)
 refine AW.region ?_
 iterate 4 refine AO.pu T ?_
 iterate 2 refine AO.pureG T [] rfl trivial rfl rfl ?_
 refine AO.pureG T [150, 151] rfl ⟨fun h => h, fun h => h, trivial⟩ rfl rfl ?_
 refine AO.val rfl rfl (pick_or rfl rfl rfl rfl) ?_
 refine AO.pu T ?_
 iterate 2 refine AO.pureG T [] rfl trivial rfl rfl ?_
 refine AO.pureG T [155, 156] rfl ⟨fun h => h, fun h => h, trivial⟩ rfl rfl ?_
 refine AO.val rfl rfl (pick_or rfl rfl rfl rfl) ?_
 refine AO.pu T ?_
 iterate 4 refine AO.pureG T [] rfl trivial rfl rfl ?_
 refine AO.guard [162, 163] rfl ⟨fun h => h, fun h => h, trivial⟩ (fun hg => arw_ok rfl rfl rfl rfl) rfl ?_
 refine AO.guard [161, 164] rfl ⟨fun h => h, fun h => h, trivial⟩ (fun hg => arw_ok rfl rfl rfl rfl) rfl ?_
 refine AO.pureG T [160, 165] rfl ⟨fun h => h, fun h => h, trivial⟩ rfl rfl ?_
 refine AO.val rfl rfl (pick_or rfl rfl rfl rfl) ?_
 refine AO.pu T ?_
 refine AO.pureG T [] rfl trivial rfl rfl ?_
 refine AO.pureG T [169] rfl ⟨fun h => h, trivial⟩ rfl rfl ?_
 refine AO.pureG T [170] rfl ⟨fun h => h, trivial⟩ rfl rfl ?_
 iterate 2 refine AO.pureG T [] rfl trivial rfl rfl ?_
 refine AO.pureG T [172, 173] rfl ⟨fun h => h, fun h => h, trivial⟩ rfl rfl ?_
 refine AO.guard [171] rfl ⟨fun h => h, trivial⟩ (fun hg => pick_and rfl rfl rfl (by rw [hg]; exact Bool.true_and _)) rfl ?_
 refine AO.val rfl rfl (pick_or rfl rfl rfl rfl) ?_
 refine AO.nil ?_
 refine AW.le (Le.ct 0 0 (σ' := (⟨[(5, .p 2 0), (7, .v (.bool x3.2)), (8, .R 4), (176, .v (.bool (((((!(x21.2 == x23.2)) || (x21.1 != x23.1)) || decide (x17.1 < x23.1)) || decide (x17.1 > (w64 (x23.1 + (w64 (x13.2.2.1 * x13.2.2.2)))))) || ((x13.2.2.1 == 0) && (x17.1 != x23.1)))))], [(1, .row 3 (List.map encLineO x1.lines)), (2, .box [x1.best, .R 1]), (4, .row 1 (List.map encInt x5.1))], 264, []⟩ : St))) ?_
 refine AW.cond (b := (((((!(x21.2 == x23.2)) || (x21.1 != x23.1)) || decide (x17.1 < x23.1)) || decide (x17.1 > (w64 (x23.1 + (w64 (x13.2.2.1 * x13.2.2.2)))))) || ((x13.2.2.1 == 0) && (x17.1 != x23.1)))) rfl (fun hc => ?_) (fun hc => ?_)
 replace hH := condT hc hH
 refine AW.seq (AW.region ?_)
 refine AO.pu T ?_
 refine AO.nil (AW.ret ?_)
 have hR := someE hH; subst hR
 exact retQ.i [] rfl (.c (.c .v))
 replace hH := condF hc hH
 refine AW.skip ?_
 iterate 2 refine AW.seq ?_
 refine AW.region ?_
 iterate 2 refine AO.pu T ?_
 refine AO.nil ?_
 refine AW.cond (b := (!x3.2)) rfl (fun hc => ?_) (fun hc => ?_)
 replace hH := condT hc hH
 refine AW.seq (AW.region ?_)
 refine AO.pu T ?_
 refine AO.nil (AW.ret ?_)
 have hR := someE hH; subst hR
 exact retQ.i [] rfl (.c (.c .v))
 replace hH := condF hc hH
 refine AW.skip ?_
 refine AW.seq (AW.region ?_)
 refine AO.pu T ?_
 refine AO.nil ?_
 iterate 2 refine AW.seq ?_
 refine AW.region ?_
 iterate 2 refine AO.pu T ?_
 refine AO.val rfl rfl (len_row_ok T rfl rfl rfl rfl) ?_
 refine AO.pu T ?_
 refine AO.nil ?_
 refine AW.block ?_
 refine AW.loopS (fun s : Nat × (List Line) × (List Int) × (List Line) × Int => (⟨[(5, .p 2 0), (8, .R 4), (28, .R 14), (180, .s (List.map encLine s.2.2.2.1)), (181, (x1.lines.length : Int)), (182, s.2.2.2.2)], [(2, .box [x1.best, .s (List.map encLine s.2.1)]), (4, .row 1 (List.map encInt x5.1)), (14, .row 1 (List.map encInt s.2.2.1))], 264, []⟩ : St)) (fun s => laws_FnStandings_l1 fuel x1 x5 s.1 s.2.1 s.2.2.1 s.2.2.2.1 s.2.2.2.2 = some r) (fun s => s.1) (fuel, x1.lines, [], x1.lines, 0) hH ?_ ?_
 refine Le.trans (Le.void 28 14 1 rfl rfl) ?_
 refine Le.trans (Le.freezeM 1 (g := encLine) rfl (fun y => frzLine y)) ?_
 exact Le.ct 0 0
 rintro ⟨k25, v54, v55, v56, v57⟩ hH
 replace hH : laws_FnStandings_l1 fuel x1 x5 k25 v54 v55 v56 v57 = some r := hH
 try dsimp only
 rcases k25 with _ | k25
 cases (show none = some _ from hH)
 rw [laws_FnStandings_l1] at hH
 refine AW.seq (AW.region ?_)
 refine AO.pu T ?_
 refine AO.nil (AW.seq ?_)
 refine AW.cond (b := decide (v57 < (x1.lines.length : Int))) rfl (fun hc => ?_) (fun hc => ?_)
 replace hH := condT hc hH
 refine AW.skip ?_
 refine AW.seq ?_
 refine AW.block ?_
 refine AW.seq ?_
 obtain ⟨x59, hx60, hH⟩ := bindE hH
 refine AW.region ?_
 refine AO.pu T ?_
 refine AO.val rfl rfl (ix_map_ok T rfl rfl rfl rfl rfl (hx60) rfl) ?_
 refine AO.pu T (d := .g [x59.skater, .s (List.map encInt x59.events), .s (List.map encInt x59.points)]) ?_
 refine AO.step rfl (alloc_ok T rfl 15 rfl rfl rfl rfl rfl) ?_
 refine AO.pu T ?_
 refine AO.se T [x59.skater, .s (List.map encInt x59.events), .s (List.map encInt x59.points)] ?_
 refine AO.nil (AW.seq ?_)
 obtain ⟨x61, hx62, hH⟩ := bindE hH
 refine AW.region ?_
 refine AO.pu T (d := .g [x1.best, .s (List.map encLine v54)]) ?_
 iterate 2 refine AO.pu T ?_
 refine AO.val rfl rfl (callV_ok rfl rfl rfl rfl (impl_TotalOf_ok fuel _ _ _ (hx62)) rfl) ?_
 iterate 5 refine AO.pu T ?_
 refine AO.nil (AW.seq ?_)
 obtain ⟨x63, hx64, hH⟩ := bindE hH
 refine AW.region ?_
 refine AO.pu T (d := .g [x1.best, .s (List.map encLine v54)]) ?_
 iterate 2 refine AO.pu T ?_
 refine AO.val rfl rfl (callV_ok rfl rfl rfl rfl (spec_TotalOf_ok fuel _ _ _ (hx64)) rfl) ?_
 iterate 5 refine AO.pu T ?_
 refine AO.nil ?_
 refine AW.le (Le.ct 0 0 (σ' := (⟨[(5, .p 2 0), (8, .R 4), (28, .R 14), (29, v57), (31, x61.1), (32, .v (.bool x61.2)), (33, x63.1), (34, .v (.bool x63.2)), (180, .s (List.map encLine v56)), (181, (x1.lines.length : Int)), (182, v57)], [(2, .box [x1.best, .s (List.map encLine v54)]), (4, .row 1 (List.map encInt x5.1)), (14, .row 1 (List.map encInt v55))], 264, []⟩ : St))) ?_
 iterate 2 refine AW.seq ?_
 obtain ⟨x65, hx66, hH⟩ := bindE hH
 obtain ⟨x67, hx68, hH⟩ := bindE hH
 refine AW.drawn 26 16 [] mix (by kernel_rfl) rfl ?_
 iterate 3 refine AD.pure T rfl rfl rfl ?_
 refine AD.pureG T [] rfl trivial rfl rfl ?_
 refine AD.pureG T [204] rfl ⟨fun h => h, trivial⟩ rfl rfl ?_
 refine AD.val rfl rfl (pick_or rfl rfl rfl rfl) ?_
 refine AD.pure T rfl rfl rfl ?_
 iterate 2 refine AD.pureG T [] rfl trivial rfl rfl ?_
 refine AD.pureG T [208, 209] rfl ⟨fun h => h, fun h => h, trivial⟩ rfl rfl ?_
 refine AD.val rfl rfl (pick_or rfl rfl rfl rfl) ?_
 refine AD.pure T rfl rfl rfl ?_
 iterate 2 refine AD.pureG T [] rfl trivial rfl rfl ?_
 refine AD.guard [213, 214] rfl ⟨fun h => h, fun h => h, trivial⟩ (fun hg => ix_row_ok T rfl rfl rfl rfl rfl rfl (optT hx66 hg)) rfl ?_
 refine AD.guard [215] rfl ⟨fun h => h, trivial⟩ (fun hg => load_row_ok T rfl rfl rfl rfl (getI_get (optT hx66 hg)) rfl rfl rfl) rfl ?_
 refine AD.pureG T [216] rfl ⟨fun h => h, trivial⟩ rfl rfl ?_
 refine AD.val rfl rfl (pick_or rfl rfl rfl rfl) ?_
 refine AD.pure T rfl rfl rfl ?_
 iterate 2 refine AD.pureG T [] rfl trivial rfl rfl ?_
 refine AD.guard [220, 221] rfl ⟨fun h => h, fun h => h, trivial⟩ (fun hg => ix_row_ok T rfl rfl rfl rfl rfl rfl (optT hx68 hg)) rfl ?_
 refine AD.guard [222] rfl ⟨fun h => h, trivial⟩ (fun hg => load_row_ok T rfl rfl rfl rfl (getI_get (optT hx68 hg)) rfl rfl rfl) rfl ?_
 refine AD.pureG T [] rfl trivial rfl rfl ?_
 refine AD.pureG T [224] rfl ⟨fun h => h, trivial⟩ rfl rfl ?_
 refine AD.guard [225] rfl ⟨fun h => h, trivial⟩ (fun hg => len_map_ok T rfl rfl rfl) rfl ?_
 refine AD.nil ?_
 refine AO.pureG T [223, 226] rfl ⟨fun h => h, fun h => h, trivial⟩ rfl rfl ?_
 refine AO.val rfl rfl (pick_or rfl rfl rfl rfl) ?_
 refine AO.nil ?_
 refine AW.le (Le.ct 0 0 (σ' := (⟨[(5, .p 2 0), (8, .R 4), (28, .R 14), (33, x63.1), (180, .s (List.map encLine v56)), (181, (x1.lines.length : Int)), (182, v57), (228, .v (.bool (((((!x61.2) || (!x63.2)) || (x61.1 != x63.1)) || decide (x65 < 1)) || decide (x67 > (v54.length : Int)))))], [(2, .box [x1.best, .s (List.map encLine v54)]), (4, .row 1 (List.map encInt x5.1)), (14, .row 1 (List.map encInt v55))], 264, []⟩ : St))) ?_
 refine AW.cond (b := (((((!x61.2) || (!x63.2)) || (x61.1 != x63.1)) || decide (x65 < 1)) || decide (x67 > (v54.length : Int)))) rfl (fun hc => ?_) (fun hc => ?_)
 replace hH := condT hc hH
 refine AW.seq (AW.region ?_)
 refine AO.pu T ?_
 refine AO.nil (AW.ret ?_)
 have hR := someE hH; subst hR
 exact retQ.i [] rfl (.c (.c .v))
 replace hH := condF hc hH
 refine AW.skip ?_
 obtain ⟨u69, hx70, hH⟩ := bindE hH
 refine AW.region ?_
 iterate 2 refine AO.pu T ?_
 refine AO.step rfl (mk_map_ok T rfl 16 rfl rfl rfl rfl rfl (f := encInt) (l := [x63.1]) rfl rfl (fun _ => rfl) rfl rfl rfl rfl rfl) ?_
 refine AO.step rfl (app_rv_map T rfl 17 rfl rfl rfl rfl rfl (by decide) rfl rfl rfl rfl (fun _ => rfl) (needT (hx70)) rfl rfl) ?_
 refine AO.pu T ?_
 refine AO.nil ?_
 refine AW.region ?_
 refine AO.val rfl rfl (arw_ok rfl rfl rfl rfl) ?_
 refine AO.pu T ?_
 refine AO.nil ?_
 refine ⟨(k25, v54, (v55 ++ [x63.1]), v56, w64 (v57 + 1)), hH, Nat.lt_succ_self _, ?_⟩
 exact Le.ct 17 14
 replace hH := condF hc hH
 refine AW.exit ?_
 iterate 2 refine AW.seq ?_
 refine AW.region ?_
 refine AO.pu T ?_
 refine AO.val rfl rfl (len_row_ok T rfl rfl rfl rfl) ?_
 refine AO.pu T ?_
 refine AO.nil ?_
 refine AW.block ?_
 refine AW.loopS (fun s : Nat => (⟨[(8, .R 4), (28, .R 14), (234, .R 14), (235, (v55.length : Int)), (236, (s : Int))], [(4, .row 1 (List.map encInt x5.1)), (14, .row 1 (List.map encInt v55))], 264, []⟩ : St)) (fun s => s ≤ v55.length ∧ laws_FnStandings_l2 x5 v55 (v55.drop s) s = some r) (fun s => v55.length - s) 0 ⟨Nat.zero_le _, hH⟩ ?_ ?_
 exact Le.ct 0 0
 rintro k71 ⟨hk, hH⟩
 replace hH : laws_FnStandings_l2 x5 v55 (v55.drop k71) k71 = some r := hH
 try dsimp only
 refine AW.boundR (id := 14) (l := v55) rfl (fun hb75 => ?_)
 rcases hd74 : v55.drop k71 with _ | ⟨y72, ys73⟩
 rw [hd74, laws_FnStandings_l2] at hH
 have hlt76 := drop_ge hd74
 refine AW.seq (AW.region ?_)
 refine AO.pu T ?_
 refine AO.nil (AW.seq ?_)
 refine AW.condF' (b := decide ((k71 : Int) < (v55.length : Int))) rfl (rngF hlt76) ?_
 refine AW.exit ?_
 refine AW.seq (AW.region ?_)
 refine AO.pu T ?_
 refine AO.nil (AW.ret ?_)
 have hR := someE hH; subst hR
 exact retQ.i [] rfl (.c (.c .v))
 rw [hd74, laws_FnStandings_l2] at hH
 have hlt76 := drop_lt hd74
 refine AW.seq (AW.region ?_)
 refine AO.pu T ?_
 refine AO.nil (AW.seq ?_)
 refine AW.condT' (b := decide ((k71 : Int) < (v55.length : Int))) rfl (rngT hlt76) ?_
 refine AW.skip ?_
 obtain ⟨o172, hH, hK173⟩ := bindE hH
 refine AW.seqJ (fun s : Unit => (⟨[(8, .R 4), (28, .R 14), (234, .R 14), (235, (v55.length : Int)), (236, (k71 : Int))], [(4, .row 1 (List.map encInt x5.1)), (14, .row 1 (List.map encInt v55))], 264, []⟩ : St)) (fun s => .ok s = o172) ?_ ?_
 refine AW.block ?_
 refine AW.seq (AW.region ?_)
 refine AO.pu T ?_
 refine AO.val rfl rfl (ix_row_ok T rfl rfl rfl rfl rfl rfl (getI_drop hd74)) ?_
 refine AO.val rfl rfl (load_row_ok T rfl rfl rfl rfl (getI_get (getI_drop hd74)) rfl rfl rfl) ?_
 iterate 2 refine AO.pu T ?_
 refine AO.nil (AW.seq ?_)
 refine AW.region ?_
 refine AO.pu T ?_
 refine AO.val rfl rfl (len_row_ok T rfl rfl rfl rfl) ?_
 refine AO.pu T ?_
 refine AO.nil ?_
 refine AW.block ?_
 refine AW.loopS (fun s : Nat => (⟨[(8, .R 4), (28, .R 14), (35, (k71 : Int)), (36, y72), (234, .R 14), (235, (v55.length : Int)), (236, (k71 : Int)), (241, .R 14), (242, (v55.length : Int)), (243, (s : Int))], [(4, .row 1 (List.map encInt x5.1)), (14, .row 1 (List.map encInt v55))], 264, []⟩ : St)) (fun s => s ≤ v55.length ∧ laws_FnStandings_l3 x5 k71 y72 (v55.drop s) s = some o172) (fun s => v55.length - s) 0 ⟨Nat.zero_le _, hH⟩ ?_ ?_
 exact Le.ct 0 0
 rintro k174 ⟨hk, hH⟩
 replace hH : laws_FnStandings_l3 x5 k71 y72 (v55.drop k174) k174 = some o172 := hH
 try dsimp only
 refine AW.boundR (id := 14) (l := v55) rfl (fun hb178 => ?_)
 rcases hd177 : v55.drop k174 with _ | ⟨y175, ys176⟩
 rw [hd177, laws_FnStandings_l3] at hH
 have hlt179 := drop_ge hd177
 refine AW.seq (AW.region ?_)
 refine AO.pu T ?_
 refine AO.nil (AW.seq ?_)
 refine AW.condF' (b := decide ((k174 : Int) < (v55.length : Int))) rfl (rngF hlt179) ?_
 refine AW.exit ?_
 refine ⟨_, someE hH, ?_⟩
 exact Le.ct 0 0
 rw [hd177, laws_FnStandings_l3] at hH
 have hlt179 := drop_lt hd177
 refine AW.seq (AW.region ?_)
 refine AO.pu T ?_
 refine AO.nil (AW.seq ?_)
 refine AW.condT' (b := decide ((k174 : Int) < (v55.length : Int))) rfl (rngT hlt179) ?_
 refine AW.skip ?_
 refine AW.seq ?_
 refine AW.block ?_
 refine AW.seq (AW.region ?_)
 refine AO.pu T ?_
 refine AO.val rfl rfl (ix_row_ok T rfl rfl rfl rfl rfl rfl (getI_drop hd177)) ?_
 refine AO.val rfl rfl (load_row_ok T rfl rfl rfl rfl (getI_get (getI_drop hd177)) rfl rfl rfl) ?_
 iterate 2 refine AO.pu T ?_
 refine AO.nil (AW.seq ?_)
 obtain ⟨x189, hx190, hH⟩ := bindE hH
 obtain ⟨x191, hx192, hH⟩ := bindE hH
 refine AW.drawn 12 18 [] mix (by kernel_rfl) rfl ?_
 iterate 4 refine AD.pure T rfl rfl rfl ?_
 iterate 2 refine AD.pureG T [] rfl trivial rfl rfl ?_
 refine AD.guard [252, 253] rfl ⟨fun h => h, fun h => h, trivial⟩ (fun hg => ix_row_ok T rfl rfl rfl rfl rfl rfl (optT hx190 hg)) rfl ?_
 refine AD.guard [254] rfl ⟨fun h => h, trivial⟩ (fun hg => load_row_ok T rfl rfl rfl rfl (getI_get (optT hx190 hg)) rfl rfl rfl) rfl ?_
 iterate 2 refine AD.pureG T [] rfl trivial rfl rfl ?_
 refine AD.guard [256, 257] rfl ⟨fun h => h, fun h => h, trivial⟩ (fun hg => ix_row_ok T rfl rfl rfl rfl rfl rfl (optT hx192 hg)) rfl ?_
 refine AD.guard [258] rfl ⟨fun h => h, trivial⟩ (fun hg => load_row_ok T rfl rfl rfl rfl (getI_get (optT hx192 hg)) rfl rfl rfl) rfl ?_
 refine AD.nil ?_
 refine AO.pureG T [255, 259] rfl ⟨fun h => h, fun h => h, trivial⟩ rfl rfl ?_
 refine AO.val rfl rfl (pick_and rfl rfl rfl rfl) ?_
 refine AO.nil ?_
 refine AW.cond (b := (decide (y72 > y175) && decide (x189 ≥ x191))) rfl (fun hc => ?_) (fun hc => ?_)
 replace hH := condT hc hH
 refine AW.seq (AW.region ?_)
 refine AO.pu T ?_
 refine AO.nil (AW.ret ?_)
 obtain rfl := someE hH
 replace hH := hK173
 have hR := someE hH; subst hR
 exact retQ.i [] rfl (.c (.c .v))
 replace hH := condF hc hH
 refine AW.skip ?_
 refine AW.region ?_
 refine AO.val rfl rfl (ar_ok rfl rfl rfl rfl (inI_succ hlt179 hb178)) ?_
 refine AO.pu T ?_
 refine AO.nil ?_
 refine ⟨k174 + 1, ⟨Nat.succ_le_of_lt hlt179, (by rw [drop_succ_of hd177]; exact hH)⟩, (by have := hlt179; dsimp only; omega), ?_⟩
 exact Le.ct 0 0
 rintro _ hs
 subst hs
 replace hH := hK173
 try dsimp only [flow, flowE] at hH
 try dsimp only
 refine AW.region ?_
 refine AO.val rfl rfl (ar_ok rfl rfl rfl rfl (inI_succ hlt76 hb75)) ?_
 refine AO.pu T ?_
 refine AO.nil ?_
 refine ⟨k71 + 1, ⟨Nat.succ_le_of_lt hlt76, (by rw [drop_succ_of hd74]; exact hH)⟩, (by have := hlt76; dsimp only; omega), ?_⟩
 exact Le.ct 0 0
 replace hH := condF hc hH
 refine AW.skip ?_
 iterate 2 refine AW.seq ?_
 refine AW.region ?_
 iterate 2 refine AO.pu T ?_
 refine AO.nil ?_
 refine AW.cond (b := (!x3.2)) rfl (fun hc => ?_) (fun hc => ?_)
 replace hH := condT hc hH
 refine AW.seq (AW.region ?_)
 refine AO.pu T ?_
 refine AO.nil (AW.ret ?_)
 have hR := someE hH; subst hR
 exact retQ.i [] rfl (.c (.c .v))
 replace hH := condF hc hH
 refine AW.skip ?_
 refine AW.seq (AW.region ?_)
 refine AO.pu T ?_
 refine AO.nil ?_
 iterate 2 refine AW.seq ?_
 refine AW.region ?_
 iterate 2 refine AO.pu T ?_
 refine AO.val rfl rfl (len_row_ok T rfl rfl rfl rfl) ?_
 refine AO.pu T ?_
 refine AO.nil ?_
 refine AW.block ?_
 refine AW.loopS (fun s : Nat × (List Line) × (List Int) × (List Line) × Int => (⟨[(5, .p 2 0), (8, .R 4), (28, .R 23), (180, .s (List.map encLine s.2.2.2.1)), (181, (x1.lines.length : Int)), (182, s.2.2.2.2)], [(2, .box [x1.best, .s (List.map encLine s.2.1)]), (4, .row 1 (List.map encInt x5.1)), (23, .row 1 (List.map encInt s.2.2.1))], 264, []⟩ : St)) (fun s => laws_FnStandings_l4 fuel x1 x5 s.1 s.2.1 s.2.2.1 s.2.2.2.1 s.2.2.2.2 = some r) (fun s => s.1) (fuel, x1.lines, [], x1.lines, 0) hH ?_ ?_
 refine Le.trans (Le.void 28 23 1 rfl rfl) ?_
 refine Le.trans (Le.freezeM 1 (g := encLine) rfl (fun y => frzLine y)) ?_
 exact Le.ct 0 0
 rintro ⟨k193, v222, v223, v224, v225⟩ hH
 replace hH : laws_FnStandings_l4 fuel x1 x5 k193 v222 v223 v224 v225 = some r := hH
 try dsimp only
 rcases k193 with _ | k193
 cases (show none = some _ from hH)
 rw [laws_FnStandings_l4] at hH
 refine AW.seq (AW.region ?_)
 refine AO.pu T ?_
 refine AO.nil (AW.seq ?_)
 refine AW.cond (b := decide (v225 < (x1.lines.length : Int))) rfl (fun hc => ?_) (fun hc => ?_)
 replace hH := condT hc hH
 refine AW.skip ?_
 refine AW.seq ?_
 refine AW.block ?_
 refine AW.seq ?_
 obtain ⟨x227, hx228, hH⟩ := bindE hH
 refine AW.region ?_
 refine AO.pu T ?_
 refine AO.val rfl rfl (ix_map_ok T rfl rfl rfl rfl rfl (hx228) rfl) ?_
 refine AO.pu T (d := .g [x227.skater, .s (List.map encInt x227.events), .s (List.map encInt x227.points)]) ?_
 refine AO.step rfl (alloc_ok T rfl 24 rfl rfl rfl rfl rfl) ?_
 refine AO.pu T ?_
 refine AO.se T [x227.skater, .s (List.map encInt x227.events), .s (List.map encInt x227.points)] ?_
 refine AO.nil (AW.seq ?_)
 obtain ⟨x229, hx230, hH⟩ := bindE hH
 refine AW.region ?_
 refine AO.pu T (d := .g [x1.best, .s (List.map encLine v222)]) ?_
 iterate 2 refine AO.pu T ?_
 refine AO.val rfl rfl (callV_ok rfl rfl rfl rfl (impl_TotalOf_ok fuel _ _ _ (hx230)) rfl) ?_
 iterate 5 refine AO.pu T ?_
 refine AO.nil (AW.seq ?_)
 obtain ⟨x231, hx232, hH⟩ := bindE hH
 refine AW.region ?_
 refine AO.pu T (d := .g [x1.best, .s (List.map encLine v222)]) ?_
 iterate 2 refine AO.pu T ?_
 refine AO.val rfl rfl (callV_ok rfl rfl rfl rfl (spec_TotalOf_ok fuel _ _ _ (hx232)) rfl) ?_
 iterate 5 refine AO.pu T ?_
 refine AO.nil ?_
 refine AW.le (Le.ct 0 0 (σ' := (⟨[(5, .p 2 0), (8, .R 4), (28, .R 23), (29, v225), (31, x229.1), (32, .v (.bool x229.2)), (33, x231.1), (34, .v (.bool x231.2)), (180, .s (List.map encLine v224)), (181, (x1.lines.length : Int)), (182, v225)], [(2, .box [x1.best, .s (List.map encLine v222)]), (4, .row 1 (List.map encInt x5.1)), (23, .row 1 (List.map encInt v223))], 264, []⟩ : St))) ?_
 iterate 2 refine AW.seq ?_
 obtain ⟨x233, hx234, hH⟩ := bindE hH
 obtain ⟨x235, hx236, hH⟩ := bindE hH
 refine AW.drawn 26 25 [] mix (by kernel_rfl) rfl ?_
 iterate 3 refine AD.pure T rfl rfl rfl ?_
 refine AD.pureG T [] rfl trivial rfl rfl ?_
 refine AD.pureG T [204] rfl ⟨fun h => h, trivial⟩ rfl rfl ?_
 refine AD.val rfl rfl (pick_or rfl rfl rfl rfl) ?_
 refine AD.pure T rfl rfl rfl ?_
 iterate 2 refine AD.pureG T [] rfl trivial rfl rfl ?_
 refine AD.pureG T [208, 209] rfl ⟨fun h => h, fun h => h, trivial⟩ rfl rfl ?_
 refine AD.val rfl rfl (pick_or rfl rfl rfl rfl) ?_
 refine AD.pure T rfl rfl rfl ?_
 iterate 2 refine AD.pureG T [] rfl trivial rfl rfl ?_
 refine AD.guard [213, 214] rfl ⟨fun h => h, fun h => h, trivial⟩ (fun hg => ix_row_ok T rfl rfl rfl rfl rfl rfl (optT hx234 hg)) rfl ?_
 refine AD.guard [215] rfl ⟨fun h => h, trivial⟩ (fun hg => load_row_ok T rfl rfl rfl rfl (getI_get (optT hx234 hg)) rfl rfl rfl) rfl ?_
 refine AD.pureG T [216] rfl ⟨fun h => h, trivial⟩ rfl rfl ?_
 refine AD.val rfl rfl (pick_or rfl rfl rfl rfl) ?_
 refine AD.pure T rfl rfl rfl ?_
 iterate 2 refine AD.pureG T [] rfl trivial rfl rfl ?_
 refine AD.guard [220, 221] rfl ⟨fun h => h, fun h => h, trivial⟩ (fun hg => ix_row_ok T rfl rfl rfl rfl rfl rfl (optT hx236 hg)) rfl ?_
 refine AD.guard [222] rfl ⟨fun h => h, trivial⟩ (fun hg => load_row_ok T rfl rfl rfl rfl (getI_get (optT hx236 hg)) rfl rfl rfl) rfl ?_
 refine AD.pureG T [] rfl trivial rfl rfl ?_
 refine AD.pureG T [224] rfl ⟨fun h => h, trivial⟩ rfl rfl ?_
 refine AD.guard [225] rfl ⟨fun h => h, trivial⟩ (fun hg => len_map_ok T rfl rfl rfl) rfl ?_
 refine AD.nil ?_
 refine AO.pureG T [223, 226] rfl ⟨fun h => h, fun h => h, trivial⟩ rfl rfl ?_
 refine AO.val rfl rfl (pick_or rfl rfl rfl rfl) ?_
 refine AO.nil ?_
 refine AW.le (Le.ct 0 0 (σ' := (⟨[(5, .p 2 0), (8, .R 4), (28, .R 23), (33, x231.1), (180, .s (List.map encLine v224)), (181, (x1.lines.length : Int)), (182, v225), (228, .v (.bool (((((!x229.2) || (!x231.2)) || (x229.1 != x231.1)) || decide (x233 < 1)) || decide (x235 > (v222.length : Int)))))], [(2, .box [x1.best, .s (List.map encLine v222)]), (4, .row 1 (List.map encInt x5.1)), (23, .row 1 (List.map encInt v223))], 264, []⟩ : St))) ?_
 refine AW.cond (b := (((((!x229.2) || (!x231.2)) || (x229.1 != x231.1)) || decide (x233 < 1)) || decide (x235 > (v222.length : Int)))) rfl (fun hc => ?_) (fun hc => ?_)
 replace hH := condT hc hH
 refine AW.seq (AW.region ?_)
 refine AO.pu T ?_
 refine AO.nil (AW.ret ?_)
 have hR := someE hH; subst hR
 exact retQ.i [] rfl (.c (.c .v))
 replace hH := condF hc hH
 refine AW.skip ?_
 obtain ⟨u237, hx238, hH⟩ := bindE hH
 refine AW.region ?_
 iterate 2 refine AO.pu T ?_
 refine AO.step rfl (mk_map_ok T rfl 25 rfl rfl rfl rfl rfl (f := encInt) (l := [x231.1]) rfl rfl (fun _ => rfl) rfl rfl rfl rfl rfl) ?_
 refine AO.step rfl (app_rv_map T rfl 26 rfl rfl rfl rfl rfl (by decide) rfl rfl rfl rfl (fun _ => rfl) (needT (hx238)) rfl rfl) ?_
 refine AO.pu T ?_
 refine AO.nil ?_
 refine AW.region ?_
 refine AO.val rfl rfl (arw_ok rfl rfl rfl rfl) ?_
 refine AO.pu T ?_
 refine AO.nil ?_
 refine ⟨(k193, v222, (v223 ++ [x231.1]), v224, w64 (v225 + 1)), hH, Nat.lt_succ_self _, ?_⟩
 exact Le.ct 26 23
 replace hH := condF hc hH
 refine AW.exit ?_
 iterate 2 refine AW.seq ?_
 refine AW.region ?_
 refine AO.pu T ?_
 refine AO.val rfl rfl (len_row_ok T rfl rfl rfl rfl) ?_
 refine AO.pu T ?_
 refine AO.nil ?_
 refine AW.block ?_
 refine AW.loopS (fun s : Nat => (⟨[(8, .R 4), (28, .R 23), (234, .R 23), (235, (v223.length : Int)), (236, (s : Int))], [(4, .row 1 (List.map encInt x5.1)), (23, .row 1 (List.map encInt v223))], 264, []⟩ : St)) (fun s => s ≤ v223.length ∧ laws_FnStandings_l5 x5 v223 (v223.drop s) s = some r) (fun s => v223.length - s) 0 ⟨Nat.zero_le _, hH⟩ ?_ ?_
 exact Le.ct 0 0
 rintro k239 ⟨hk, hH⟩
 replace hH : laws_FnStandings_l5 x5 v223 (v223.drop k239) k239 = some r := hH
 try dsimp only
 refine AW.boundR (id := 23) (l := v223) rfl (fun hb243 => ?_)
 rcases hd242 : v223.drop k239 with _ | ⟨y240, ys241⟩
 rw [hd242, laws_FnStandings_l5] at hH
 have hlt244 := drop_ge hd242
 refine AW.seq (AW.region ?_)
 refine AO.pu T ?_
 refine AO.nil (AW.seq ?_)
 refine AW.condF' (b := decide ((k239 : Int) < (v223.length : Int))) rfl (rngF hlt244) ?_
 refine AW.exit ?_
 refine AW.seq (AW.region ?_)
 refine AO.pu T ?_
 refine AO.nil (AW.ret ?_)
 have hR := someE hH; subst hR
 exact retQ.i [] rfl (.c (.c .v))
 rw [hd242, laws_FnStandings_l5] at hH
 have hlt244 := drop_lt hd242
 refine AW.seq (AW.region ?_)
 refine AO.pu T ?_
 refine AO.nil (AW.seq ?_)
 refine AW.condT' (b := decide ((k239 : Int) < (v223.length : Int))) rfl (rngT hlt244) ?_
 refine AW.skip ?_
 obtain ⟨o340, hH, hK341⟩ := bindE hH
 refine AW.seqJ (fun s : Unit => (⟨[(8, .R 4), (28, .R 23), (234, .R 23), (235, (v223.length : Int)), (236, (k239 : Int))], [(4, .row 1 (List.map encInt x5.1)), (23, .row 1 (List.map encInt v223))], 264, []⟩ : St)) (fun s => .ok s = o340) ?_ ?_
 refine AW.block ?_
 refine AW.seq (AW.region ?_)
 refine AO.pu T ?_
 refine AO.val rfl rfl (ix_row_ok T rfl rfl rfl rfl rfl rfl (getI_drop hd242)) ?_
 refine AO.val rfl rfl (load_row_ok T rfl rfl rfl rfl (getI_get (getI_drop hd242)) rfl rfl rfl) ?_
 iterate 2 refine AO.pu T ?_
 refine AO.nil (AW.seq ?_)
 refine AW.region ?_
 refine AO.pu T ?_
 refine AO.val rfl rfl (len_row_ok T rfl rfl rfl rfl) ?_
 refine AO.pu T ?_
 refine AO.nil ?_
 refine AW.block ?_
 refine AW.loopS (fun s : Nat => (⟨[(8, .R 4), (28, .R 23), (35, (k239 : Int)), (36, y240), (234, .R 23), (235, (v223.length : Int)), (236, (k239 : Int)), (241, .R 23), (242, (v223.length : Int)), (243, (s : Int))], [(4, .row 1 (List.map encInt x5.1)), (23, .row 1 (List.map encInt v223))], 264, []⟩ : St)) (fun s => s ≤ v223.length ∧ laws_FnStandings_l6 x5 k239 y240 (v223.drop s) s = some o340) (fun s => v223.length - s) 0 ⟨Nat.zero_le _, hH⟩ ?_ ?_
 exact Le.ct 0 0
 rintro k342 ⟨hk, hH⟩
 replace hH : laws_FnStandings_l6 x5 k239 y240 (v223.drop k342) k342 = some o340 := hH
 try dsimp only
 refine AW.boundR (id := 23) (l := v223) rfl (fun hb346 => ?_)
 rcases hd345 : v223.drop k342 with _ | ⟨y343, ys344⟩
 rw [hd345, laws_FnStandings_l6] at hH
 have hlt347 := drop_ge hd345
 refine AW.seq (AW.region ?_)
 refine AO.pu T ?_
 refine AO.nil (AW.seq ?_)
 refine AW.condF' (b := decide ((k342 : Int) < (v223.length : Int))) rfl (rngF hlt347) ?_
 refine AW.exit ?_
 refine ⟨_, someE hH, ?_⟩
 exact Le.ct 0 0
 rw [hd345, laws_FnStandings_l6] at hH
 have hlt347 := drop_lt hd345
 refine AW.seq (AW.region ?_)
 refine AO.pu T ?_
 refine AO.nil (AW.seq ?_)
 refine AW.condT' (b := decide ((k342 : Int) < (v223.length : Int))) rfl (rngT hlt347) ?_
 refine AW.skip ?_
 refine AW.seq ?_
 refine AW.block ?_
 refine AW.seq (AW.region ?_)
 refine AO.pu T ?_
 refine AO.val rfl rfl (ix_row_ok T rfl rfl rfl rfl rfl rfl (getI_drop hd345)) ?_
 refine AO.val rfl rfl (load_row_ok T rfl rfl rfl rfl (getI_get (getI_drop hd345)) rfl rfl rfl) ?_
 iterate 2 refine AO.pu T ?_
 refine AO.nil (AW.seq ?_)
 obtain ⟨x357, hx358, hH⟩ := bindE hH
 obtain ⟨x359, hx360, hH⟩ := bindE hH
 refine AW.drawn 12 27 [] mix (by kernel_rfl) rfl ?_
 iterate 4 refine AD.pure T rfl rfl rfl ?_
 iterate 2 refine AD.pureG T [] rfl trivial rfl rfl ?_
 refine AD.guard [252, 253] rfl ⟨fun h => h, fun h => h, trivial⟩ (fun hg => ix_row_ok T rfl rfl rfl rfl rfl rfl (optT hx358 hg)) rfl ?_
 refine AD.guard [254] rfl ⟨fun h => h, trivial⟩ (fun hg => load_row_ok T rfl rfl rfl rfl (getI_get (optT hx358 hg)) rfl rfl rfl) rfl ?_
 iterate 2 refine AD.pureG T [] rfl trivial rfl rfl ?_
 refine AD.guard [256, 257] rfl ⟨fun h => h, fun h => h, trivial⟩ (fun hg => ix_row_ok T rfl rfl rfl rfl rfl rfl (optT hx360 hg)) rfl ?_
 refine AD.guard [258] rfl ⟨fun h => h, trivial⟩ (fun hg => load_row_ok T rfl rfl rfl rfl (getI_get (optT hx360 hg)) rfl rfl rfl) rfl ?_
 refine AD.nil ?_
 refine AO.pureG T [255, 259] rfl ⟨fun h => h, fun h => h, trivial⟩ rfl rfl ?_
 refine AO.val rfl rfl (pick_and rfl rfl rfl rfl) ?_
 refine AO.nil ?_
 refine AW.cond (b := (decide (y240 > y343) && decide (x357 ≥ x359))) rfl (fun hc => ?_) (fun hc => ?_)
 replace hH := condT hc hH
 refine AW.seq (AW.region ?_)
 refine AO.pu T ?_
 refine AO.nil (AW.ret ?_)
 obtain rfl := someE hH
 replace hH := hK341
 have hR := someE hH; subst hR
 exact retQ.i [] rfl (.c (.c .v))
 replace hH := condF hc hH
 refine AW.skip ?_
 refine AW.region ?_
 refine AO.val rfl rfl (ar_ok rfl rfl rfl rfl (inI_succ hlt347 hb346)) ?_
 refine AO.pu T ?_
 refine AO.nil ?_
 refine ⟨k342 + 1, ⟨Nat.succ_le_of_lt hlt347, (by rw [drop_succ_of hd345]; exact hH)⟩, (by have := hlt347; dsimp only; omega), ?_⟩
 exact Le.ct 0 0
 rintro _ hs
 subst hs
 replace hH := hK341
 try dsimp only [flow, flowE] at hH
 try dsimp only
 refine AW.region ?_
 refine AO.val rfl rfl (ar_ok rfl rfl rfl rfl (inI_succ hlt244 hb243)) ?_
 refine AO.pu T ?_
 refine AO.nil ?_
 refine ⟨k239 + 1, ⟨Nat.succ_le_of_lt hlt244, (by rw [drop_succ_of hd242]; exact hH)⟩, (by have := hlt244; dsimp only; omega), ?_⟩
 exact Le.ct 0 0

end Go.Proofs.Ytgcnndkbpmnmgaa

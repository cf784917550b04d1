/- The walk, part 2: what each function reached by the law FnExactRunSteps computes. No condition. -/
import Derived.Test.YtbclgnikhophlaaGreatWalk1
set_option maxRecDepth 4000
set_option maxHeartbeats 1000000
set_option linter.unusedVariables false
set_option linter.unusedSimpArgs false
set_option linter.unusedSectionVars false

namespace Go.Proofs.YtbclgnikhophlaaGreat
open Go.AM

def spec_rkPlaces_l1 (l : List Result) (fuel : Nat) : List Result → Nat → List Int → Option ((List Int))
  | [], k1, v16 =>
    some v16
  | y2 :: ys3, k1, v16 =>
    (spec_rkPlace_p fuel l (k1 : Int)).bind fun x18 =>
    (need (fitsB 8 (v16.length + ([x18]).length))).bind fun u20 =>
    spec_rkPlaces_l1 l fuel ys3 (k1 + 1) (v16 ++ [x18])
def spec_rkPlaces_p (fuel : Nat) (l : List Result) : Option (List Int) :=
  spec_rkPlaces_l1 l fuel l 0 []
theorem spec_rkPlaces_ok (fuel : Nat) (l : List Result) (r : (List Int)) (hH : spec_rkPlaces_p fuel l = some r) : SpecR Tryz.prog 116 [.s (List.map encResult l)] (.w 1 (r.map encInt)) := by
 refine fn_ok T Tryz.func116 rfl (by decide) rfl ?_
 refine AW.seq (AW.region ?_)
 refine AO.pu T ?_
 refine AO.nil (AW.seq ?_)
 refine AW.region ?_
 refine AO.pu T ?_
 refine AO.nil ?_
 iterate 2 refine AW.seq ?_
 refine AW.region ?_
 refine AO.pu T ?_
 refine AO.val rfl rfl (len_map_ok T rfl rfl rfl) ?_
 refine AO.pu T ?_
 refine AO.nil ?_
 refine AW.block ?_
 refine AW.loopS (fun s : Nat × (List Int) => (⟨[(0, .s (List.map encResult l)), (3, .R 4), (6, (l.length : Int)), (7, (s.1 : Int))], [(4, .row 1 (List.map encInt s.2))], 18, []⟩ : St)) (fun s => s.1 ≤ l.length ∧ spec_rkPlaces_l1 l fuel (l.drop s.1) s.1 s.2 = some r) (fun s => l.length - s.1) (0, []) ⟨Nat.zero_le _, hH⟩ ?_ ?_
 refine Le.trans (Le.void 3 4 1 rfl rfl) ?_
 exact Le.ct 0 0
 rintro ⟨k1, v16⟩ ⟨hk, hH⟩
 replace hH : spec_rkPlaces_l1 l fuel (l.drop k1) k1 v16 = some r := hH
 try dsimp only
 refine AW.boundM (t := 0) (l := l) rfl (fun hb5 => ?_)
 rcases hd4 : l.drop k1 with _ | ⟨y2, ys3⟩
 rw [hd4, spec_rkPlaces_l1] at hH
 have hlt6 := drop_ge hd4
 refine AW.seq (AW.region ?_)
 refine AO.pu T ?_
 refine AO.nil (AW.seq ?_)
 refine AW.condF' (b := decide ((k1 : Int) < (l.length : Int))) rfl (rngF hlt6) ?_
 refine AW.exit ?_
 refine AW.seq (AW.region ?_)
 iterate 2 refine AO.pu T ?_
 refine AO.nil (AW.ret ?_)
 cases someE hH
 exact retQ.i [4] rfl (.c (.c (.rowR rfl)))
 rw [hd4, spec_rkPlaces_l1] at hH
 have hlt6 := drop_lt hd4
 refine AW.seq (AW.region ?_)
 refine AO.pu T ?_
 refine AO.nil (AW.seq ?_)
 refine AW.condT' (b := decide ((k1 : Int) < (l.length : Int))) rfl (rngT hlt6) ?_
 refine AW.skip ?_
 refine AW.seq ?_
 refine AW.block ?_
 refine AW.seq (AW.region ?_)
 iterate 2 refine AO.pu T ?_
 refine AO.nil ?_
 obtain ⟨x18, hx19, hH⟩ := bindE hH
 obtain ⟨u20, hx21, hH⟩ := bindE hH
 refine AW.region ?_
 iterate 3 refine AO.pu T ?_
 refine AO.val rfl rfl (callV_ok rfl rfl rfl rfl (spec_rkPlace_ok fuel _ _ _ (hx19)) rfl) ?_
 refine AO.step rfl (mk_map_ok T rfl 5 rfl rfl rfl rfl rfl (f := encInt) (l := [x18]) rfl rfl (fun _ => rfl) rfl rfl rfl rfl rfl) ?_
 refine AO.step rfl (app_rv_map T rfl 6 rfl rfl rfl rfl rfl (by decide) rfl rfl rfl rfl (fun _ => rfl) (needT (hx21)) rfl rfl) ?_
 refine AO.pu T ?_
 refine AO.nil ?_
 refine AW.region ?_
 refine AO.val rfl rfl (ar_ok rfl rfl rfl rfl (inI_succ hlt6 hb5)) ?_
 refine AO.pu T ?_
 refine AO.nil ?_
 refine ⟨(k1 + 1, (v16 ++ [x18])), ⟨Nat.succ_le_of_lt hlt6, (by rw [drop_succ_of hd4]; exact hH)⟩, (by have := hlt6; dsimp only; omega), ?_⟩
 exact Le.ct 6 4

def spec_soFalling_l2 (keys : List Int) (places : List Int) (fuel : Nat) (v122 : List Int) (v123 : Int) : List Int → Nat → List Int → Option (List Int)
  | [], k156, v171 =>
    (spec_l1Own_p keys).bind fun x173 =>
    (need (fitsB 8 (x173.length + ([90, v123]).length))).bind fun u175 =>
    (spec_dwNumbers_p fuel (x173 ++ [90, v123]) v171).bind fun x177 =>
    (need (fitsB 8 (v122.length + x177.length))).bind fun u179 =>
    some (v122 ++ x177)
  | y157 :: ys158, k156, v171 =>
    (getI places (k156 : Int)).bind fun x181 =>
    cond (x181 == v123)
      ((need (fitsB 8 (v171.length + ([y157]).length))).bind fun u183 =>
      spec_soFalling_l2 keys places fuel v122 v123 ys158 (k156 + 1) (v171 ++ [y157]))
      (spec_soFalling_l2 keys places fuel v122 v123 ys158 (k156 + 1) v171)
def spec_soFalling_l1 (keys : List Int) (skaters : List Int) (places : List Int) (fuel : Nat) : Nat → List Int → Int → Option ((List Int))
  | 0, _, _ => none
  | k1 + 1, v122, v123 =>
    cond (decide (v123 ≥ 1))
      ((spec_soFalling_l2 keys places fuel v122 v123 skaters 0 []).bind fun v153 =>
      spec_soFalling_l1 keys skaters places fuel k1 v153 (w64 (v123 - 1)))
      (some v122)
def spec_soFalling_p (fuel : Nat) (keys : List Int) (skaters : List Int) (places : List Int) : Option (List Int) :=
  spec_soFalling_l1 keys skaters places fuel fuel [] 99
theorem spec_soFalling_ok (fuel : Nat) (keys : List Int) (skaters : List Int) (places : List Int) (r : (List Int)) (hH : spec_soFalling_p fuel keys skaters places = some r) : SpecR Tryz.prog 161 [.s (List.map encInt keys), .s (List.map encInt skaters), .s (List.map encInt places)] (.w 1 (r.map encInt)) := by
 refine fn_ok T Tryz.func161 rfl (by decide) rfl ?_
 refine AW.seq (AW.region ?_)
 refine AO.pu T ?_
 refine AO.nil (AW.seq ?_)
 refine AW.region ?_
 refine AO.pu T ?_
 refine AO.nil ?_
 iterate 2 refine AW.seq ?_
 refine AW.region ?_
 refine AO.pu T ?_
 refine AO.nil ?_
 refine AW.block ?_
 refine AW.loopS (fun s : Nat × (List Int) × Int => (⟨[(0, .s (List.map encInt keys)), (1, .s (List.map encInt skaters)), (2, .s (List.map encInt places)), (7, .R 31), (8, s.2.2)], [(31, .row 1 (List.map encInt s.2.1))], 44, []⟩ : St)) (fun s => spec_soFalling_l1 keys skaters places fuel s.1 s.2.1 s.2.2 = some r) (fun s => s.1) (fuel, [], 99) hH ?_ ?_
 refine Le.trans (Le.void 7 31 1 rfl rfl) ?_
 exact Le.ct 0 0
 rintro ⟨k1, v122, v123⟩ hH
 replace hH : spec_soFalling_l1 keys skaters places fuel k1 v122 v123 = some r := hH
 try dsimp only
 rcases k1 with _ | k1
 cases (show none = some _ from hH)
 rw [spec_soFalling_l1] at hH
 iterate 2 refine AW.seq ?_
 refine AW.region ?_
 iterate 2 refine AO.pu T ?_
 refine AO.nil ?_
 refine AW.cond (b := decide (v123 ≥ 1)) rfl (fun hc => ?_) (fun hc => ?_)
 replace hH := condT hc hH
 refine AW.skip ?_
 obtain ⟨o154, hH, hK155⟩ := bindE hH
 refine AW.seqJ (fun s : List Int => (⟨[(0, .s (List.map encInt keys)), (1, .s (List.map encInt skaters)), (2, .s (List.map encInt places)), (7, .R 53), (8, v123)], [(53, .row 1 (List.map encInt s))], 44, []⟩ : St)) (fun s => s = o154) ?_ ?_
 refine AW.block ?_
 refine AW.seq (AW.region ?_)
 refine AO.pu T ?_
 refine AO.nil ?_
 iterate 2 refine AW.seq ?_
 refine AW.region ?_
 refine AO.pu T ?_
 refine AO.val rfl rfl (len_map_ok T rfl rfl rfl) ?_
 refine AO.pu T ?_
 refine AO.nil ?_
 refine AW.block ?_
 refine AW.loopS (fun s : Nat × (List Int) => (⟨[(0, .s (List.map encInt keys)), (1, .s (List.map encInt skaters)), (2, .s (List.map encInt places)), (7, .R 31), (8, v123), (9, .R 59), (16, .s (List.map encInt skaters)), (17, (skaters.length : Int)), (18, (s.1 : Int))], [(31, .row 1 (List.map encInt v122)), (59, .row 1 (List.map encInt s.2))], 44, []⟩ : St)) (fun s => s.1 ≤ skaters.length ∧ spec_soFalling_l2 keys places fuel v122 v123 (skaters.drop s.1) s.1 s.2 = some o154) (fun s => skaters.length - s.1) (0, []) ⟨Nat.zero_le _, hH⟩ ?_ ?_
 refine Le.trans (Le.void 9 59 1 rfl rfl) ?_
 exact Le.ct 0 0
 rintro ⟨k156, v171⟩ ⟨hk, hH⟩
 replace hH : spec_soFalling_l2 keys places fuel v122 v123 (skaters.drop k156) k156 v171 = some o154 := hH
 try dsimp only
 refine AW.boundM (t := 1) (l := skaters) rfl (fun hb160 => ?_)
 rcases hd159 : skaters.drop k156 with _ | ⟨y157, ys158⟩
 rw [hd159, spec_soFalling_l2] at hH
 have hlt161 := drop_ge hd159
 refine AW.seq (AW.region ?_)
 refine AO.pu T ?_
 refine AO.nil (AW.seq ?_)
 refine AW.condF' (b := decide ((k156 : Int) < (skaters.length : Int))) rfl (rngF hlt161) ?_
 refine AW.exit ?_
 obtain ⟨x173, hx174, hH⟩ := bindE hH
 obtain ⟨u175, hx176, hH⟩ := bindE hH
 obtain ⟨x177, hx178, hH⟩ := bindE hH
 obtain ⟨u179, hx180, hH⟩ := bindE hH
 refine AW.region ?_
 iterate 2 refine AO.pu T ?_
 refine AO.step rfl (call_ok rfl 60 rfl rfl rfl (spec_l1Own_ok _ _ (hx174)) rfl rfl rfl) ?_
 refine AO.pu T ?_
 refine AO.step rfl (mk_map_ok T rfl 61 rfl rfl rfl rfl rfl (f := encInt) (l := [90, v123]) rfl rfl (fun _ => rfl) rfl rfl rfl rfl rfl) ?_
 refine AO.step rfl (app_rv_map T rfl 62 rfl rfl rfl rfl rfl (by decide) rfl rfl rfl rfl (fun _ => rfl) (needT (hx176)) rfl rfl) ?_
 refine AO.pu T ?_
 refine AO.step rfl (callL_ok rfl 63 rfl rfl (es := [.s (List.map encInt (x173 ++ [90, v123])), .s (List.map encInt v171)]) (by exact ⟨(.rowR rfl (.map fun y => .vs rfl)), (.rowR rfl (.map fun y => .vs rfl)), trivial⟩) (spec_dwNumbers_ok fuel _ _ _ (hx178)) (zfree_map (fun y => (.cons (zfree_v _) .nil))) rfl rfl rfl) ?_
 refine AO.step rfl (app_rv_map T rfl 64 rfl rfl rfl rfl rfl (by decide) rfl rfl rfl rfl (fun _ => rfl) (needT (hx180)) rfl rfl) ?_
 refine AO.pu T ?_
 refine AO.nil ?_
 refine ⟨_, someE hH, ?_⟩
 exact Le.ct 64 53
 rw [hd159, spec_soFalling_l2] at hH
 have hlt161 := drop_lt hd159
 refine AW.seq (AW.region ?_)
 refine AO.pu T ?_
 refine AO.nil (AW.seq ?_)
 refine AW.condT' (b := decide ((k156 : Int) < (skaters.length : Int))) rfl (rngT hlt161) ?_
 refine AW.skip ?_
 refine AW.seq ?_
 refine AW.block ?_
 refine AW.seq (AW.region ?_)
 refine AO.pu T ?_
 refine AO.val rfl rfl (ix_map_ok T rfl rfl rfl rfl rfl (getI_drop hd159) rfl) ?_
 iterate 3 refine AO.pu T ?_
 refine AO.nil (AW.seq ?_)
 obtain ⟨x181, hx182, hH⟩ := bindE hH
 refine AW.region ?_
 iterate 2 refine AO.pu T ?_
 refine AO.val rfl rfl (ix_map_ok T rfl rfl rfl rfl rfl (hx182) rfl) ?_
 iterate 3 refine AO.pu T ?_
 refine AO.nil ?_
 refine AW.cond (b := (x181 == v123)) rfl (fun hc => ?_) (fun hc => ?_)
 replace hH := condT hc hH
 obtain ⟨u183, hx184, hH⟩ := bindE hH
 refine AW.region ?_
 iterate 2 refine AO.pu T ?_
 refine AO.step rfl (mk_map_ok T rfl 65 rfl rfl rfl rfl rfl (f := encInt) (l := [y157]) rfl rfl (fun _ => rfl) rfl rfl rfl rfl rfl) ?_
 refine AO.step rfl (app_rv_map T rfl 66 rfl rfl rfl rfl rfl (by decide) rfl rfl rfl rfl (fun _ => rfl) (needT (hx184)) rfl rfl) ?_
 refine AO.pu T ?_
 refine AO.nil ?_
 refine AW.region ?_
 refine AO.val rfl rfl (ar_ok rfl rfl rfl rfl (inI_succ hlt161 hb160)) ?_
 refine AO.pu T ?_
 refine AO.nil ?_
 refine ⟨(k156 + 1, (v171 ++ [y157])), ⟨Nat.succ_le_of_lt hlt161, (by rw [drop_succ_of hd159]; exact hH)⟩, (by have := hlt161; dsimp only; omega), ?_⟩
 exact Le.ct 66 59
 replace hH := condF hc hH
 refine AW.skip ?_
 refine AW.region ?_
 refine AO.val rfl rfl (ar_ok rfl rfl rfl rfl (inI_succ hlt161 hb160)) ?_
 refine AO.pu T ?_
 refine AO.nil ?_
 refine ⟨(k156 + 1, v171), ⟨Nat.succ_le_of_lt hlt161, (by rw [drop_succ_of hd159]; exact hH)⟩, (by have := hlt161; dsimp only; omega), ?_⟩
 exact Le.ct 0 0
 rintro v153 hs
 subst hs
 replace hH := hK155
 try dsimp only [flow, flowE] at hH
 try dsimp only
 refine AW.region ?_
 refine AO.pu T ?_
 refine AO.val rfl rfl (arw_ok rfl rfl rfl rfl) ?_
 refine AO.pu T ?_
 refine AO.nil ?_
 refine ⟨(k1, v153, w64 (v123 - 1)), hH, Nat.lt_succ_self _, ?_⟩
 exact Le.ct 53 31
 replace hH := condF hc hH
 refine AW.exit ?_
 refine AW.seq (AW.region ?_)
 iterate 2 refine AO.pu T ?_
 refine AO.nil (AW.ret ?_)
 cases someE hH
 exact retQ.i [31] rfl (.c (.c (.rowR rfl)))

def spec_OrderByPlaces_l1 (keys : List Int) (size : Int) (fuel : Nat) (x9 : (List Int)) : Nat → List Int → List Int → Int → Option (((List Int) × Bool))
  | 0, _, _, _ => none
  | k13 + 1, v65, v66, v67 =>
    cond (decide ((v65.length : Int) > 0))
      (cond ((v67 == 0) && decide (((x9.length : Int).tmod size) > 0))
        ((spec_l1Own_p keys).bind fun x69 =>
        (need (fitsB 8 (x69.length + ([v67]).length))).bind fun u71 =>
        (sliceHi v65 ((x9.length : Int).tmod size)).bind fun x73 =>
        (spec_dwNumbers_p fuel (x69 ++ [v67]) x73).bind fun x75 =>
        (need (fitsB 8 (v66.length + x75.length))).bind fun u77 =>
        (sliceLo v65 ((x9.length : Int).tmod size)).bind fun x79 =>
        spec_OrderByPlaces_l1 keys size fuel x9 k13 x79 (v66 ++ x75) (w64 (v67 + 1)))
        ((spec_l1Own_p keys).bind fun x81 =>
        (need (fitsB 8 (x81.length + ([v67]).length))).bind fun u83 =>
        (sliceHi v65 size).bind fun x85 =>
        (spec_dwNumbers_p fuel (x81 ++ [v67]) x85).bind fun x87 =>
        (need (fitsB 8 (v66.length + x87.length))).bind fun u89 =>
        (sliceLo v65 size).bind fun x91 =>
        spec_OrderByPlaces_l1 keys size fuel x9 k13 x91 (v66 ++ x87) (w64 (v67 + 1))))
      (some (v66, true))
def spec_OrderByPlaces_p (fuel : Nat) (keys : List Int) (skaters : List Int) (places : List Int) (size : Int) : Option ((List Int) × Bool) :=
  (spec_dwKeys_p keys 4).bind fun x1 =>
  (opt (!(!x1)) default (spec_soOrder_p skaters)).bind fun x3 =>
  (opt (!(((!x1) || (!x3)) || ((places.length : Int) != (skaters.length : Int)))) default (spec_l1All_p places 1 99)).bind fun x5 =>
  (opt (!((((!x1) || (!x3)) || ((places.length : Int) != (skaters.length : Int))) || (!x5))) default (spec_soSize_p size)).bind fun x7 =>
  cond (((((!x1) || (!x3)) || ((places.length : Int) != (skaters.length : Int))) || (!x5)) || (!x7))
    (some ([], false))
    ((spec_soFalling_p fuel keys skaters places).bind fun x9 =>
    (need (size != 0)).bind fun u11 =>
    spec_OrderByPlaces_l1 keys size fuel x9 fuel x9 [] 0)
theorem spec_OrderByPlaces_ok (fuel : Nat) (keys : List Int) (skaters : List Int) (places : List Int) (size : Int) (r : ((List Int) × Bool)) (hH : spec_OrderByPlaces_p fuel keys skaters places size = some r) : SpecR Tryz.prog 117 [.s (List.map encInt keys), .s (List.map encInt skaters), .s (List.map encInt places), size] (.t [.w 1 (r.1.map encInt), .v (.bool r.2)]) := by
 refine fn_ok T Tryz.func117 rfl (by decide) rfl ?_
 refine AW.seq (AW.region ?_)
 iterate 2 refine AO.pu T ?_
 refine AO.nil ?_
 iterate 2 refine AW.seq ?_
 obtain ⟨x1, hx2, hH⟩ := bindE hH
 obtain ⟨x3, hx4, hH⟩ := bindE hH
 obtain ⟨x5, hx6, hH⟩ := bindE hH
 obtain ⟨x7, hx8, hH⟩ := bindE hH
 refine AW.region ?_
 refine AO.pu T ?_
 refine AO.val rfl rfl (callV_ok rfl rfl rfl rfl (spec_dwKeys_ok _ _ _ (hx2)) rfl) ?_
 iterate 2 refine AO.pu T ?_
 refine AO.pureG T [] rfl trivial rfl rfl ?_
 refine AO.guard [19] rfl ⟨fun h => h, trivial⟩ (fun hg => callV_ok rfl rfl rfl rfl (spec_soOrder_ok _ _ (optT hx4 hg)) rfl) rfl ?_
 refine AO.pureG T [20] rfl ⟨fun h => h, trivial⟩ rfl rfl ?_
 refine AO.val rfl rfl (pick_or rfl rfl rfl rfl) ?_
 refine AO.pu T ?_
 refine AO.pureG T [] rfl trivial rfl rfl ?_
 refine AO.guard [24] rfl ⟨fun h => h, trivial⟩ (fun hg => len_map_ok T rfl rfl rfl) rfl ?_
 refine AO.pureG T [] rfl trivial rfl rfl ?_
 refine AO.guard [26] rfl ⟨fun h => h, trivial⟩ (fun hg => len_map_ok T rfl rfl rfl) rfl ?_
 refine AO.pureG T [25, 27] rfl ⟨fun h => h, fun h => h, trivial⟩ rfl rfl ?_
 refine AO.val rfl rfl (pick_or rfl rfl rfl rfl) ?_
 refine AO.pu T ?_
 refine AO.pureG T [] rfl trivial rfl rfl ?_
 refine AO.guard [31] rfl ⟨fun h => h, trivial⟩ (fun hg => callV_ok rfl rfl rfl rfl (spec_l1All_ok _ _ _ _ (optT hx6 hg)) rfl) rfl ?_
 refine AO.pureG T [32] rfl ⟨fun h => h, trivial⟩ rfl rfl ?_
 refine AO.val rfl rfl (pick_or rfl rfl rfl rfl) ?_
 refine AO.pu T ?_
 refine AO.pureG T [] rfl trivial rfl rfl ?_
 refine AO.guard [36] rfl ⟨fun h => h, trivial⟩ (fun hg => callV_ok rfl rfl rfl rfl (spec_soSize_ok _ _ (optT hx8 hg)) rfl) rfl ?_
 refine AO.pureG T [37] rfl ⟨fun h => h, trivial⟩ rfl rfl ?_
 refine AO.val rfl rfl (pick_or rfl rfl rfl rfl) ?_
 refine AO.nil ?_
 refine AW.le (Le.ct 0 0 (σ' := (⟨[(0, .s (List.map encInt keys)), (1, .s (List.map encInt skaters)), (2, .s (List.map encInt places)), (3, size), (39, .v (.bool (((((!x1) || (!x3)) || ((places.length : Int) != (skaters.length : Int))) || (!x5)) || (!x7))))], [], 76, []⟩ : St))) ?_
 refine AW.cond (b := (((((!x1) || (!x3)) || ((places.length : Int) != (skaters.length : Int))) || (!x5)) || (!x7))) rfl (fun hc => ?_) (fun hc => ?_)
 replace hH := condT hc hH
 refine AW.seq (AW.region ?_)
 iterate 2 refine AO.pu T ?_
 refine AO.nil (AW.ret ?_)
 cases someE hH
 exact retQ.i [] rfl (.t (expLG_cons (.c .nil) (expLG_cons (.c .v) (expLG_nil))))
 replace hH := condF hc hH
 refine AW.skip ?_
 refine AW.seq ?_
 obtain ⟨x9, hx10, hH⟩ := bindE hH
 refine AW.region ?_
 iterate 3 refine AO.pu T ?_
 refine AO.step rfl (call_ok rfl 1 rfl rfl rfl (spec_soFalling_ok fuel _ _ _ _ (hx10)) rfl rfl rfl) ?_
 refine AO.pu T ?_
 refine AO.nil (AW.seq ?_)
 refine AW.region ?_
 refine AO.pu T ?_
 refine AO.nil (AW.seq ?_)
 obtain ⟨u11, hx12, hH⟩ := bindE hH
 refine AW.region ?_
 refine AO.pu T ?_
 refine AO.val rfl rfl (len_row_ok T rfl rfl rfl rfl) ?_
 refine AO.pu T ?_
 refine AO.val rfl rfl (rem_ok rfl rfl rfl (neZ (needT (hx12)))) ?_
 refine AO.pu T ?_
 refine AO.nil ?_
 iterate 2 refine AW.seq ?_
 refine AW.region ?_
 refine AO.pu T ?_
 refine AO.nil ?_
 refine AW.block ?_
 refine AW.loopS (fun s : Nat × (List Int) × (List Int) × Int => (⟨[(0, .s (List.map encInt keys)), (3, size), (10, .s (List.map encInt s.2.1)), (11, .R 16), (12, ((x9.length : Int).tmod size : Int)), (13, s.2.2.2)], [(16, .row 1 (List.map encInt s.2.2.1))], 76, []⟩ : St)) (fun s => spec_OrderByPlaces_l1 keys size fuel x9 s.1 s.2.1 s.2.2.1 s.2.2.2 = some r) (fun s => s.1) (fuel, x9, [], 0) hH ?_ ?_
 refine Le.trans (Le.freezeM 1 (g := encInt) rfl (fun y => .vs rfl)) ?_
 refine Le.trans (Le.void 11 16 1 rfl rfl) ?_
 exact Le.ct 0 0
 rintro ⟨k13, v65, v66, v67⟩ hH
 replace hH : spec_OrderByPlaces_l1 keys size fuel x9 k13 v65 v66 v67 = some r := hH
 try dsimp only
 rcases k13 with _ | k13
 cases (show none = some _ from hH)
 rw [spec_OrderByPlaces_l1] at hH
 iterate 2 refine AW.seq ?_
 refine AW.region ?_
 refine AO.pu T ?_
 refine AO.val rfl rfl (len_map_ok T rfl rfl rfl) ?_
 refine AO.pu T ?_
 refine AO.nil ?_
 refine AW.cond (b := decide ((v65.length : Int) > 0)) rfl (fun hc => ?_) (fun hc => ?_)
 replace hH := condT hc hH
 refine AW.skip ?_
 refine AW.seq ?_
 refine AW.block ?_
 refine AW.seq (AW.region ?_)
 iterate 2 refine AO.pu T ?_
 refine AO.nil ?_
 iterate 2 refine AW.seq ?_
 refine AW.region ?_
 iterate 3 refine AO.pu T ?_
 refine AO.pureG T [] rfl trivial rfl rfl ?_
 refine AO.pureG T [57] rfl ⟨fun h => h, trivial⟩ rfl rfl ?_
 refine AO.val rfl rfl (pick_and rfl rfl rfl rfl) ?_
 refine AO.nil ?_
 refine AW.cond (b := ((v67 == 0) && decide (((x9.length : Int).tmod size) > 0))) rfl (fun hc => ?_) (fun hc => ?_)
 replace hH := condT hc hH
 refine AW.region ?_
 iterate 2 refine AO.pu T ?_
 refine AO.nil (AW.seq ?_)
 obtain ⟨x69, hx70, hH⟩ := bindE hH
 obtain ⟨u71, hx72, hH⟩ := bindE hH
 obtain ⟨x73, hx74, hH⟩ := bindE hH
 obtain ⟨x75, hx76, hH⟩ := bindE hH
 obtain ⟨u77, hx78, hH⟩ := bindE hH
 refine AW.drawn 10 22 [] mix (by kernel_rfl) rfl ?_
 iterate 2 refine AD.pure T rfl rfl rfl ?_
 refine AD.q (FStep.call rfl rfl rfl rfl rfl (spec_l1Own_ok _ _ (hx70)) rfl rfl) (impT_names _ _) (impT_le _ _) rfl ?_
 refine AD.pure T rfl rfl rfl ?_
 refine AD.q (FStep.mk T (f := encInt) (l := [v67]) rfl rfl rfl rfl rfl rfl rfl rfl rfl (fun _ => rfl) rfl rfl rfl rfl) (by simp [namesIn]) (Nat.le_succ _) rfl ?_
 refine AD.k rfl rfl (FStep.app_rv T rfl rfl rfl rfl rfl rfl rfl (by decide) rfl rfl rfl rfl (fun _ => rfl) (needT (hx72)) rfl) rfl rfl rfl ?_
 iterate 2 refine AD.pure T rfl rfl rfl ?_
 refine AD.val rfl rfl (slice_hi_map_ok T rfl rfl rfl rfl rfl (hx74) (fun _ => rfl)) ?_
 refine AD.qd rfl (FStep.callL rfl rfl rfl rfl (es := [.s (List.map encInt (x69 ++ [v67])), .s (List.map encInt x73)]) ⟨(.rowR rfl (.map fun y => .vs rfl)), .free rfl, trivial⟩ (spec_dwNumbers_ok fuel _ _ _ (hx76)) (zfree_map (fun y => (.cons (zfree_v _) .nil))) rfl rfl) (impT_names _ _) (impT_le _ _) rfl ?_
 refine AD.nil ?_
 refine AO.step rfl (app_rv_map T rfl 26 rfl rfl rfl rfl rfl (by decide) rfl rfl rfl rfl (fun _ => rfl) (needT (hx78)) rfl rfl) ?_
 refine AO.pu T ?_
 refine AO.nil ?_
 refine AW.le (Le.ct 0 0 (σ' := (⟨[(0, .s (List.map encInt keys)), (3, size), (10, .s (List.map encInt v65)), (11, .R 26), (12, ((x9.length : Int).tmod size : Int)), (13, v67), (14, ((x9.length : Int).tmod size : Int))], [(26, .row 1 (List.map encInt (v66 ++ x75)))], 76, []⟩ : St))) ?_
 obtain ⟨x79, hx80, hH⟩ := bindE hH
 refine AW.region ?_
 iterate 2 refine AO.pu T ?_
 refine AO.val rfl rfl (slice_lo_map_ok T rfl rfl rfl rfl rfl (hx80) (fun _ => rfl)) ?_
 refine AO.pu T ?_
 refine AO.nil ?_
 refine AW.region ?_
 refine AO.pu T ?_
 refine AO.val rfl rfl (arw_ok rfl rfl rfl rfl) ?_
 refine AO.pu T ?_
 refine AO.nil ?_
 refine ⟨(k13, x79, (v66 ++ x75), w64 (v67 + 1)), hH, Nat.lt_succ_self _, ?_⟩
 exact Le.ct 26 16
 replace hH := condF hc hH
 refine AW.skip ?_
 refine AW.seq ?_
 obtain ⟨x81, hx82, hH⟩ := bindE hH
 obtain ⟨u83, hx84, hH⟩ := bindE hH
 obtain ⟨x85, hx86, hH⟩ := bindE hH
 obtain ⟨x87, hx88, hH⟩ := bindE hH
 obtain ⟨u89, hx90, hH⟩ := bindE hH
 refine AW.drawn 10 27 [] mix (by kernel_rfl) rfl ?_
 iterate 2 refine AD.pure T rfl rfl rfl ?_
 refine AD.q (FStep.call rfl rfl rfl rfl rfl (spec_l1Own_ok _ _ (hx82)) rfl rfl) (impT_names _ _) (impT_le _ _) rfl ?_
 refine AD.pure T rfl rfl rfl ?_
 refine AD.q (FStep.mk T (f := encInt) (l := [v67]) rfl rfl rfl rfl rfl rfl rfl rfl rfl (fun _ => rfl) rfl rfl rfl rfl) (by simp [namesIn]) (Nat.le_succ _) rfl ?_
 refine AD.k rfl rfl (FStep.app_rv T rfl rfl rfl rfl rfl rfl rfl (by decide) rfl rfl rfl rfl (fun _ => rfl) (needT (hx84)) rfl) rfl rfl rfl ?_
 iterate 2 refine AD.pure T rfl rfl rfl ?_
 refine AD.val rfl rfl (slice_hi_map_ok T rfl rfl rfl rfl rfl (hx86) (fun _ => rfl)) ?_
 refine AD.qd rfl (FStep.callL rfl rfl rfl rfl (es := [.s (List.map encInt (x81 ++ [v67])), .s (List.map encInt x85)]) ⟨(.rowR rfl (.map fun y => .vs rfl)), .free rfl, trivial⟩ (spec_dwNumbers_ok fuel _ _ _ (hx88)) (zfree_map (fun y => (.cons (zfree_v _) .nil))) rfl rfl) (impT_names _ _) (impT_le _ _) rfl ?_
 refine AD.nil ?_
 refine AO.step rfl (app_rv_map T rfl 31 rfl rfl rfl rfl rfl (by decide) rfl rfl rfl rfl (fun _ => rfl) (needT (hx90)) rfl rfl) ?_
 refine AO.pu T ?_
 refine AO.nil ?_
 obtain ⟨x91, hx92, hH⟩ := bindE hH
 refine AW.region ?_
 iterate 2 refine AO.pu T ?_
 refine AO.val rfl rfl (slice_lo_map_ok T rfl rfl rfl rfl rfl (hx92) (fun _ => rfl)) ?_
 refine AO.pu T ?_
 refine AO.nil ?_
 refine AW.le (Le.ct 0 0 (σ' := (⟨[(0, .s (List.map encInt keys)), (3, size), (10, .s (List.map encInt x91)), (11, .R 31), (12, ((x9.length : Int).tmod size : Int)), (13, v67)], [(31, .row 1 (List.map encInt (v66 ++ x87)))], 76, []⟩ : St))) ?_
 refine AW.region ?_
 refine AO.pu T ?_
 refine AO.val rfl rfl (arw_ok rfl rfl rfl rfl) ?_
 refine AO.pu T ?_
 refine AO.nil ?_
 refine ⟨(k13, x91, (v66 ++ x87), w64 (v67 + 1)), hH, Nat.lt_succ_self _, ?_⟩
 exact Le.ct 31 16
 replace hH := condF hc hH
 refine AW.exit ?_
 refine AW.seq (AW.region ?_)
 iterate 3 refine AO.pu T ?_
 refine AO.nil (AW.ret ?_)
 cases someE hH
 exact retQ.i [16] rfl (.t (expLG_cons (.c (.rowR rfl)) (expLG_cons (.c .v) (expLG_nil))))

def spec_evDraw_l1 (e : Event) (fuel : Nat) (x3 : Event) : List Int → Nat → List Int → List Int → Option ((Event × Bool))
  | [], k11, v35, v36 =>
    (spec_OrderByPlaces_p fuel [e.key, e.segment] v35 v36 e.size).bind fun x38 =>
    (spec_evIf_p (Event.mk x3.segments x3.size x3.key x3.entrants x3.gone x3.segment x38.1 x3.results) x38.2).bind fun x40 =>
    some ((Event.mk x40.1.segments x40.1.size x40.1.key x40.1.entrants x40.1.gone x40.1.segment x40.1.order x40.1.results), x40.2)
  | y12 :: ys13, k11, v35, v36 =>
    (getI e.results (k11 : Int)).bind fun x42 =>
    (spec_l1Has_p e.gone x42.skater).bind fun x44 =>
    cond (!x44)
      ((need (fitsB 8 (v35.length + ([x42.skater]).length))).bind fun u46 =>
      (need (fitsB 8 (v36.length + ([y12]).length))).bind fun u48 =>
      spec_evDraw_l1 e fuel x3 ys13 (k11 + 1) (v35 ++ [x42.skater]) (v36 ++ [y12]))
      (spec_evDraw_l1 e fuel x3 ys13 (k11 + 1) v35 v36)
def spec_evDraw_p (fuel : Nat) (e : Event) : Option (Event × Bool) :=
  (spec_evThere_p e).bind fun x1 =>
  cond (decide ((e.order.length : Int) > 0) || ((x1.length : Int) == 0))
    (some ((Event.mk 0 0 0 [] [] 0 [] []), false))
    ((spec_evOwn_p e).bind fun x3 =>
    cond (e.segment == 0)
      ((spec_StartOrder_p fuel [e.key, 0] x1 e.size).bind fun x5 =>
      (spec_evIf_p (Event.mk x3.segments x3.size x3.key x3.entrants x3.gone x3.segment x5.1 x3.results) x5.2).bind fun x7 =>
      some ((Event.mk x7.1.segments x7.1.size x7.1.key x7.1.entrants x7.1.gone x7.1.segment x7.1.order x7.1.results), x7.2))
      ((spec_rkPlaces_p fuel e.results).bind fun x9 =>
      spec_evDraw_l1 e fuel x3 x9 0 [] []))
theorem spec_evDraw_ok (fuel : Nat) (e : Event) (r : (Event × Bool)) (hH : spec_evDraw_p fuel e = some r) : SpecR Tryz.prog 57 [.g (encEvent e)] (.t [.g (encEvent r.1), .v (.bool r.2)]) := by
 refine fn_ok T Tryz.func57 rfl (by decide) rfl ?_
 refine AW.seq (AW.region ?_)
 refine AO.step rfl (box_ok T rfl 1 rfl rfl rfl rfl) ?_
 refine AO.step rfl (alloc_ok T rfl 2 rfl rfl rfl rfl rfl) ?_
 refine AO.pu T ?_
 refine AO.nil (AW.seq ?_)
 obtain ⟨x1, hx2, hH⟩ := bindE hH
 refine AW.region ?_
 refine AO.pu T (d := .g [e.segments, e.size, e.key, .s (List.map encEntrant e.entrants), .s (List.map encInt e.gone), e.segment, .s (List.map encInt e.order), .s (List.map encResult e.results)]) ?_
 refine AO.step rfl (call_ok rfl 3 rfl rfl rfl (spec_evThere_ok _ _ (hx2)) rfl rfl rfl) ?_
 refine AO.pu T ?_
 refine AO.nil ?_
 iterate 2 refine AW.seq ?_
 refine AW.region ?_
 iterate 2 refine AO.pu T ?_
 refine AO.val rfl rfl (len_map_ok T rfl rfl rfl) ?_
 iterate 2 refine AO.pu T ?_
 refine AO.pureG T [] rfl trivial rfl rfl ?_
 refine AO.guard [22] rfl ⟨fun h => h, trivial⟩ (fun hg => len_row_ok T rfl rfl rfl rfl) rfl ?_
 refine AO.pureG T [23] rfl ⟨fun h => h, trivial⟩ rfl rfl ?_
 refine AO.val rfl rfl (pick_or rfl rfl rfl rfl) ?_
 refine AO.nil ?_
 refine AW.cond (b := (decide ((e.order.length : Int) > 0) || ((x1.length : Int) == 0))) rfl (fun hc => ?_) (fun hc => ?_)
 replace hH := condT hc hH
 refine AW.seq (AW.region ?_)
 refine AO.pu T (d := .g [(0 : Int), (0 : Int), (0 : Int), .w 0 [], .w 0 [], (0 : Int), .w 0 [], .w 0 []]) ?_
 refine AO.se T [(0 : Int), (0 : Int), (0 : Int), .w 0 [], .w 0 [], (0 : Int), .w 0 [], .w 0 []] ?_
 refine AO.pu T ?_
 refine AO.nil (AW.ret ?_)
 cases someE hH
 exact retQ.i [] rfl (.t (expLG_cons (.g (expLC_cons .v (expLC_cons .v (expLC_cons .v (expLC_cons .nilS (expLC_cons .nilS (expLC_cons .v (expLC_cons .nilS (expLC_cons .nilS (expLC_nil)))))))))) (expLG_cons (.c .v) (expLG_nil))))
 replace hH := condF hc hH
 refine AW.skip ?_
 refine AW.seq ?_
 obtain ⟨x3, hx4, hH⟩ := bindE hH
 refine AW.region ?_
 refine AO.pu T (d := .g [e.segments, e.size, e.key, .s (List.map encEntrant e.entrants), .s (List.map encInt e.gone), e.segment, .s (List.map encInt e.order), .s (List.map encResult e.results)]) ?_
 refine AO.step rfl (call_ok rfl 4 rfl rfl rfl (spec_evOwn_ok _ _ (hx4)) rfl rfl rfl) ?_
 refine AO.step rfl (alloc_ok T rfl 8 rfl rfl rfl rfl rfl) ?_
 refine AO.se T [x3.segments, x3.size, x3.key, .R 4, .R 5, x3.segment, .R 6, .R 7] ?_
 refine AO.nil ?_
 iterate 2 refine AW.seq ?_
 refine AW.region ?_
 iterate 3 refine AO.pu T ?_
 refine AO.nil ?_
 refine AW.cond (b := (e.segment == 0)) rfl (fun hc => ?_) (fun hc => ?_)
 replace hH := condT hc hH
 refine AW.seq ?_
 obtain ⟨x5, hx6, hH⟩ := bindE hH
 refine AW.region ?_
 iterate 2 refine AO.pu T ?_
 refine AO.step rfl (mk_map_ok T rfl 9 rfl rfl rfl rfl rfl (f := encInt) (l := [e.key, 0]) rfl rfl (fun _ => rfl) rfl rfl rfl rfl rfl) ?_
 iterate 3 refine AO.pu T ?_
 refine AO.step rfl (callL_ok rfl 10 rfl rfl (es := [.s (List.map encInt [e.key, 0]), .s (List.map encEntrant x1), e.size]) (by exact ⟨(.rowR rfl (.map fun y => .vs rfl)), (.rowR rfl (.map fun y => .vs rfl)), .free rfl, trivial⟩) (spec_StartOrder_ok fuel _ _ _ _ (hx6)) (zfree_t (zfl (.cons (zfree_map (fun y => (.cons (zfree_v _) .nil))) (.cons (zfree_v _) .nil)))) rfl rfl rfl) ?_
 iterate 5 refine AO.pu T ?_
 refine AO.nil ?_
 refine AW.le (Le.ct 0 0 (σ' := (⟨[(2, .p 2 0), (5, .p 8 0), (6, .R 10), (7, .v (.bool x5.2))], [(2, .box [(0 : Int), (0 : Int), (0 : Int), .w 0 [], .w 0 [], (0 : Int), .w 0 [], .w 0 []]), (4, .row 2 (List.map encEntrant x3.entrants)), (5, .row 1 (List.map encInt x3.gone)), (6, .row 1 (List.map encInt x3.order)), (7, .row 2 (List.map encResultO x3.results)), (8, .box [x3.segments, x3.size, x3.key, .R 4, .R 5, x3.segment, .R 6, .R 7]), (10, .row 1 (List.map encInt x5.1))], 98, []⟩ : St))) ?_
 refine AW.seq (AW.region ?_)
 iterate 2 refine AO.pu T ?_
 refine AO.se T [x3.segments, x3.size, x3.key, .R 4, .R 5, x3.segment, .R 10, .R 7] ?_
 refine AO.nil (AW.seq ?_)
 obtain ⟨x7, hx8, hH⟩ := bindE hH
 refine AW.le (Le.freezeM 4 (g := encEntrant) rfl (fun y => .vs rfl)) ?_
 refine AW.le (Le.freezeM 5 (g := encInt) rfl (fun y => .vs rfl)) ?_
 refine AW.le (Le.freezeM 7 (g := encResult) rfl (fun y => frzResult y)) ?_
 refine AW.le (Le.freezeM 10 (g := encInt) rfl (fun y => .vs rfl)) ?_
 refine AW.region ?_
 refine AO.pu T (d := .g [x3.segments, x3.size, x3.key, .s (List.map encEntrant x3.entrants), .s (List.map encInt x3.gone), x3.segment, .s (List.map encInt x5.1), .s (List.map encResult x3.results)]) ?_
 refine AO.pu T ?_
 refine AO.val rfl rfl (callV_ok rfl rfl rfl rfl (spec_evIf_ok _ _ _ (hx8)) rfl) ?_
 refine AO.pu T (d := .g [x7.1.segments, x7.1.size, x7.1.key, .s (List.map encEntrant x7.1.entrants), .s (List.map encInt x7.1.gone), x7.1.segment, .s (List.map encInt x7.1.order), .s (List.map encResult x7.1.results)]) ?_
 refine AO.pu T ?_
 refine AO.se T [x7.1.segments, x7.1.size, x7.1.key, .s (List.map encEntrant x7.1.entrants), .s (List.map encInt x7.1.gone), x7.1.segment, .s (List.map encInt x7.1.order), .s (List.map encResult x7.1.results)] ?_
 refine AO.pu T ?_
 refine AO.nil (AW.ret ?_)
 cases someE hH
 exact retQ.i [] rfl (.t (expLG_cons (.g (expLC_cons .v (expLC_cons .v (expLC_cons .v (expLC_cons .s (expLC_cons .s (expLC_cons .v (expLC_cons .s (expLC_cons .s (expLC_nil)))))))))) (expLG_cons (.c .v) (expLG_nil))))
 replace hH := condF hc hH
 refine AW.skip ?_
 refine AW.seq (AW.region ?_)
 iterate 2 refine AO.pu T ?_
 refine AO.nil ?_
 refine AW.le (Le.ct 0 0 (σ' := (⟨[(1, .p 1 0), (2, .p 2 0), (5, .p 8 0), (8, .w 0 []), (9, .w 0 [])], [(1, .box [e.segments, e.size, e.key, .s (List.map encEntrant e.entrants), .s (List.map encInt e.gone), e.segment, .s (List.map encInt e.order), .s (List.map encResult e.results)]), (2, .box [(0 : Int), (0 : Int), (0 : Int), .w 0 [], .w 0 [], (0 : Int), .w 0 [], .w 0 []]), (4, .row 2 (List.map encEntrant x3.entrants)), (5, .row 1 (List.map encInt x3.gone)), (6, .row 1 (List.map encInt x3.order)), (7, .row 2 (List.map encResultO x3.results)), (8, .box [x3.segments, x3.size, x3.key, .R 4, .R 5, x3.segment, .R 6, .R 7])], 98, []⟩ : St))) ?_
 iterate 2 refine AW.seq ?_
 obtain ⟨x9, hx10, hH⟩ := bindE hH
 refine AW.region ?_
 iterate 2 refine AO.pu T ?_
 refine AO.step rfl (call_ok rfl 11 rfl rfl rfl (spec_rkPlaces_ok fuel _ _ (hx10)) rfl rfl rfl) ?_
 refine AO.val rfl rfl (len_row_ok T rfl rfl rfl rfl) ?_
 refine AO.pu T ?_
 refine AO.nil ?_
 refine AW.block ?_
 refine AW.loopS (fun s : Nat × (List Int) × (List Int) => (⟨[(1, .p 1 0), (2, .p 2 0), (5, .p 8 0), (8, .R 17), (9, .R 19), (51, .R 11), (52, (x9.length : Int)), (53, (s.1 : Int))], [(1, .box [e.segments, e.size, e.key, .s (List.map encEntrant e.entrants), .s (List.map encInt e.gone), e.segment, .s (List.map encInt e.order), .s (List.map encResult e.results)]), (2, .box [(0 : Int), (0 : Int), (0 : Int), .w 0 [], .w 0 [], (0 : Int), .w 0 [], .w 0 []]), (4, .row 2 (List.map encEntrant x3.entrants)), (5, .row 1 (List.map encInt x3.gone)), (6, .row 1 (List.map encInt x3.order)), (7, .row 2 (List.map encResultO x3.results)), (8, .box [x3.segments, x3.size, x3.key, .R 4, .R 5, x3.segment, .R 6, .R 7]), (11, .row 1 (List.map encInt x9)), (17, .row 1 (List.map encInt s.2.1)), (19, .row 1 (List.map encInt s.2.2))], 98, []⟩ : St)) (fun s => s.1 ≤ x9.length ∧ spec_evDraw_l1 e fuel x3 (x9.drop s.1) s.1 s.2.1 s.2.2 = some r) (fun s => x9.length - s.1) (0, [], []) ⟨Nat.zero_le _, hH⟩ ?_ ?_
 refine Le.trans (Le.void 8 17 1 rfl rfl) ?_
 refine Le.trans (Le.void 9 19 1 rfl rfl) ?_
 exact Le.ct 0 0
 rintro ⟨k11, v35, v36⟩ ⟨hk, hH⟩
 replace hH : spec_evDraw_l1 e fuel x3 (x9.drop k11) k11 v35 v36 = some r := hH
 try dsimp only
 refine AW.boundR (id := 11) (l := x9) rfl (fun hb15 => ?_)
 rcases hd14 : x9.drop k11 with _ | ⟨y12, ys13⟩
 rw [hd14, spec_evDraw_l1] at hH
 have hlt16 := drop_ge hd14
 refine AW.seq (AW.region ?_)
 refine AO.pu T ?_
 refine AO.nil (AW.seq ?_)
 refine AW.condF' (b := decide ((k11 : Int) < (x9.length : Int))) rfl (rngF hlt16) ?_
 refine AW.exit ?_
 refine AW.seq ?_
 obtain ⟨x38, hx39, hH⟩ := bindE hH
 refine AW.region ?_
 iterate 4 refine AO.pu T ?_
 refine AO.step rfl (mk_map_ok T rfl 20 rfl rfl rfl rfl rfl (f := encInt) (l := [e.key, e.segment]) rfl rfl (fun _ => rfl) rfl rfl rfl rfl rfl) ?_
 iterate 4 refine AO.pu T ?_
 refine AO.step rfl (callL_ok rfl 21 rfl rfl (es := [.s (List.map encInt [e.key, e.segment]), .s (List.map encInt v35), .s (List.map encInt v36), e.size]) (by exact ⟨(.rowR rfl (.map fun y => .vs rfl)), (.rowR rfl (.map fun y => .vs rfl)), (.rowR rfl (.map fun y => .vs rfl)), .free rfl, trivial⟩) (spec_OrderByPlaces_ok fuel _ _ _ _ _ (hx39)) (zfree_t (zfl (.cons (zfree_map (fun y => (.cons (zfree_v _) .nil))) (.cons (zfree_v _) .nil)))) rfl rfl rfl) ?_
 iterate 5 refine AO.pu T ?_
 refine AO.nil (AW.seq ?_)
 refine AW.region ?_
 iterate 2 refine AO.pu T ?_
 refine AO.se T [x3.segments, x3.size, x3.key, .R 4, .R 5, x3.segment, .R 21, .R 7] ?_
 refine AO.nil (AW.seq ?_)
 obtain ⟨x40, hx41, hH⟩ := bindE hH
 refine AW.le (Le.freezeM 4 (g := encEntrant) rfl (fun y => .vs rfl)) ?_
 refine AW.le (Le.freezeM 5 (g := encInt) rfl (fun y => .vs rfl)) ?_
 refine AW.le (Le.freezeM 7 (g := encResult) rfl (fun y => frzResult y)) ?_
 refine AW.le (Le.freezeM 21 (g := encInt) rfl (fun y => .vs rfl)) ?_
 refine AW.region ?_
 refine AO.pu T (d := .g [x3.segments, x3.size, x3.key, .s (List.map encEntrant x3.entrants), .s (List.map encInt x3.gone), x3.segment, .s (List.map encInt x38.1), .s (List.map encResult x3.results)]) ?_
 refine AO.pu T ?_
 refine AO.val rfl rfl (callV_ok rfl rfl rfl rfl (spec_evIf_ok _ _ _ (hx41)) rfl) ?_
 refine AO.pu T (d := .g [x40.1.segments, x40.1.size, x40.1.key, .s (List.map encEntrant x40.1.entrants), .s (List.map encInt x40.1.gone), x40.1.segment, .s (List.map encInt x40.1.order), .s (List.map encResult x40.1.results)]) ?_
 refine AO.pu T ?_
 refine AO.se T [x40.1.segments, x40.1.size, x40.1.key, .s (List.map encEntrant x40.1.entrants), .s (List.map encInt x40.1.gone), x40.1.segment, .s (List.map encInt x40.1.order), .s (List.map encResult x40.1.results)] ?_
 refine AO.pu T ?_
 refine AO.nil ?_
 refine AW.le (Le.ct 0 0 (σ' := (⟨[(2, .p 2 0), (3, .v (.bool x40.2))], [(2, .box [x40.1.segments, x40.1.size, x40.1.key, .s (List.map encEntrant x40.1.entrants), .s (List.map encInt x40.1.gone), x40.1.segment, .s (List.map encInt x40.1.order), .s (List.map encResult x40.1.results)])], 98, []⟩ : St))) ?_
 refine AW.ret ?_
 cases someE hH
 exact retQ.i [] rfl (.t (expLG_cons (.g (expLC_cons .v (expLC_cons .v (expLC_cons .v (expLC_cons .s (expLC_cons .s (expLC_cons .v (expLC_cons .s (expLC_cons .s (expLC_nil)))))))))) (expLG_cons (.c .v) (expLG_nil))))
 rw [hd14, spec_evDraw_l1] at hH
 have hlt16 := drop_lt hd14
 refine AW.seq (AW.region ?_)
 refine AO.pu T ?_
 refine AO.nil (AW.seq ?_)
 refine AW.condT' (b := decide ((k11 : Int) < (x9.length : Int))) rfl (rngT hlt16) ?_
 refine AW.skip ?_
 refine AW.seq ?_
 refine AW.block ?_
 refine AW.seq (AW.region ?_)
 refine AO.pu T ?_
 refine AO.val rfl rfl (ix_row_ok T rfl rfl rfl rfl rfl rfl (getI_drop hd14)) ?_
 refine AO.val rfl rfl (load_row_ok T rfl rfl rfl rfl (getI_get (getI_drop hd14)) rfl rfl rfl) ?_
 iterate 2 refine AO.pu T ?_
 refine AO.nil (AW.seq ?_)
 obtain ⟨x42, hx43, hH⟩ := bindE hH
 refine AW.region ?_
 iterate 3 refine AO.pu T ?_
 refine AO.val rfl rfl (ix_map_ok T rfl rfl rfl rfl rfl (hx43) rfl) ?_
 iterate 3 refine AO.pu T ?_
 refine AO.nil (AW.seq ?_)
 obtain ⟨x44, hx45, hH⟩ := bindE hH
 refine AW.region ?_
 iterate 3 refine AO.pu T ?_
 refine AO.val rfl rfl (callV_ok rfl rfl rfl rfl (spec_l1Has_ok _ _ _ (hx45)) rfl) ?_
 refine AO.pu T ?_
 refine AO.nil ?_
 refine AW.cond (b := (!x44)) rfl (fun hc => ?_) (fun hc => ?_)
 replace hH := condT hc hH
 refine AW.seq ?_
 obtain ⟨u46, hx47, hH⟩ := bindE hH
 refine AW.region ?_
 iterate 2 refine AO.pu T ?_
 refine AO.step rfl (mk_map_ok T rfl 22 rfl rfl rfl rfl rfl (f := encInt) (l := [x42.skater]) rfl rfl (fun _ => rfl) rfl rfl rfl rfl rfl) ?_
 refine AO.step rfl (app_rv_map T rfl 23 rfl rfl rfl rfl rfl (by decide) rfl rfl rfl rfl (fun _ => rfl) (needT (hx47)) rfl rfl) ?_
 refine AO.pu T ?_
 refine AO.nil ?_
 obtain ⟨u48, hx49, hH⟩ := bindE hH
 refine AW.region ?_
 iterate 2 refine AO.pu T ?_
 refine AO.step rfl (mk_map_ok T rfl 24 rfl rfl rfl rfl rfl (f := encInt) (l := [y12]) rfl rfl (fun _ => rfl) rfl rfl rfl rfl rfl) ?_
 refine AO.step rfl (app_rv_map T rfl 25 rfl rfl rfl rfl rfl (by decide) rfl rfl rfl rfl (fun _ => rfl) (needT (hx49)) rfl rfl) ?_
 refine AO.pu T ?_
 refine AO.nil ?_
 refine AW.le (Le.ct 0 0 (σ' := (⟨[(1, .p 1 0), (2, .p 2 0), (5, .p 8 0), (8, .R 23), (9, .R 25), (51, .R 11), (52, (x9.length : Int)), (53, (k11 : Int))], [(1, .box [e.segments, e.size, e.key, .s (List.map encEntrant e.entrants), .s (List.map encInt e.gone), e.segment, .s (List.map encInt e.order), .s (List.map encResult e.results)]), (2, .box [(0 : Int), (0 : Int), (0 : Int), .w 0 [], .w 0 [], (0 : Int), .w 0 [], .w 0 []]), (4, .row 2 (List.map encEntrant x3.entrants)), (5, .row 1 (List.map encInt x3.gone)), (6, .row 1 (List.map encInt x3.order)), (7, .row 2 (List.map encResultO x3.results)), (8, .box [x3.segments, x3.size, x3.key, .R 4, .R 5, x3.segment, .R 6, .R 7]), (11, .row 1 (List.map encInt x9)), (23, .row 1 (List.map encInt (v35 ++ [x42.skater]))), (25, .row 1 (List.map encInt (v36 ++ [y12])))], 98, []⟩ : St))) ?_
 refine AW.region ?_
 refine AO.val rfl rfl (ar_ok rfl rfl rfl rfl (inI_succ hlt16 hb15)) ?_
 refine AO.pu T ?_
 refine AO.nil ?_
 refine ⟨(k11 + 1, (v35 ++ [x42.skater]), (v36 ++ [y12])), ⟨Nat.succ_le_of_lt hlt16, (by rw [drop_succ_of hd14]; exact hH)⟩, (by have := hlt16; dsimp only; omega), ?_⟩
 refine Le.trans (Le.ct 23 17 (σ' := (⟨[(1, .p 1 0), (2, .p 2 0), (5, .p 8 0), (8, .R 17), (9, .R 25), (51, .R 11), (52, (x9.length : Int)), (53, ((k11 + 1 : Nat) : Int))], [(1, .box [e.segments, e.size, e.key, .s (List.map encEntrant e.entrants), .s (List.map encInt e.gone), e.segment, .s (List.map encInt e.order), .s (List.map encResult e.results)]), (2, .box [(0 : Int), (0 : Int), (0 : Int), .w 0 [], .w 0 [], (0 : Int), .w 0 [], .w 0 []]), (4, .row 2 (List.map encEntrant x3.entrants)), (5, .row 1 (List.map encInt x3.gone)), (6, .row 1 (List.map encInt x3.order)), (7, .row 2 (List.map encResultO x3.results)), (8, .box [x3.segments, x3.size, x3.key, .R 4, .R 5, x3.segment, .R 6, .R 7]), (11, .row 1 (List.map encInt x9)), (17, .row 1 (List.map encInt (v35 ++ [x42.skater]))), (25, .row 1 (List.map encInt (v36 ++ [y12])))], 98, []⟩ : St))) ?_
 exact Le.ct 25 19
 replace hH := condF hc hH
 refine AW.skip ?_
 refine AW.region ?_
 refine AO.val rfl rfl (ar_ok rfl rfl rfl rfl (inI_succ hlt16 hb15)) ?_
 refine AO.pu T ?_
 refine AO.nil ?_
 refine ⟨(k11 + 1, v35, v36), ⟨Nat.succ_le_of_lt hlt16, (by rw [drop_succ_of hd14]; exact hH)⟩, (by have := hlt16; dsimp only; omega), ?_⟩
 exact Le.ct 0 0

def spec_evNext_l1 (e : Event) : List Int → Nat → Option Int
  | [], k1 =>
    some 0
  | y2 :: ys3, k1 =>
    (spec_evHas_p e y2).bind fun x12 =>
    cond (!x12)
      (some y2)
      (spec_evNext_l1 e ys3 (k1 + 1))
def spec_evNext_p (e : Event) : Option Int :=
  spec_evNext_l1 e e.order 0
theorem spec_evNext_ok (e : Event) (r : Int) (hH : spec_evNext_p e = some r) : SpecR Tryz.prog 81 [.g (encEvent e)] (.v (.int .i64 r)) := by
 refine fn_ok T Tryz.func81 rfl (by decide) rfl ?_
 refine AW.seq (AW.region ?_)
 refine AO.step rfl (box_ok T rfl 1 rfl rfl rfl rfl) ?_
 refine AO.pu T ?_
 refine AO.nil ?_
 iterate 2 refine AW.seq ?_
 refine AW.region ?_
 iterate 2 refine AO.pu T ?_
 refine AO.val rfl rfl (len_map_ok T rfl rfl rfl) ?_
 refine AO.pu T ?_
 refine AO.nil ?_
 refine AW.block ?_
 refine AW.loopS (fun s : Nat => (⟨[(1, .p 1 0), (6, .s (List.map encInt e.order)), (7, (e.order.length : Int)), (8, (s : Int))], [(1, .box [e.segments, e.size, e.key, .s (List.map encEntrant e.entrants), .s (List.map encInt e.gone), e.segment, .s (List.map encInt e.order), .s (List.map encResult e.results)])], 18, []⟩ : St)) (fun s => s ≤ e.order.length ∧ spec_evNext_l1 e (e.order.drop s) s = some r) (fun s => e.order.length - s) 0 ⟨Nat.zero_le _, hH⟩ ?_ ?_
 exact Le.ct 0 0
 rintro k1 ⟨hk, hH⟩
 replace hH : spec_evNext_l1 e (e.order.drop k1) k1 = some r := hH
 try dsimp only
 refine AW.boundM (t := 6) (l := e.order) rfl (fun hb5 => ?_)
 rcases hd4 : e.order.drop k1 with _ | ⟨y2, ys3⟩
 rw [hd4, spec_evNext_l1] at hH
 have hlt6 := drop_ge hd4
 refine AW.seq (AW.region ?_)
 refine AO.pu T ?_
 refine AO.nil (AW.seq ?_)
 refine AW.condF' (b := decide ((k1 : Int) < (e.order.length : Int))) rfl (rngF hlt6) ?_
 refine AW.exit ?_
 refine AW.seq (AW.region ?_)
 refine AO.pu T ?_
 refine AO.nil (AW.ret ?_)
 cases someE hH
 exact retQ.i [] rfl (.c (.c .v))
 rw [hd4, spec_evNext_l1] at hH
 have hlt6 := drop_lt hd4
 refine AW.seq (AW.region ?_)
 refine AO.pu T ?_
 refine AO.nil (AW.seq ?_)
 refine AW.condT' (b := decide ((k1 : Int) < (e.order.length : Int))) rfl (rngT hlt6) ?_
 refine AW.skip ?_
 refine AW.seq ?_
 refine AW.block ?_
 refine AW.seq (AW.region ?_)
 refine AO.val rfl rfl (ix_map_ok T rfl rfl rfl rfl rfl (getI_drop hd4) rfl) ?_
 iterate 2 refine AO.pu T ?_
 refine AO.nil (AW.seq ?_)
 obtain ⟨x12, hx13, hH⟩ := bindE hH
 refine AW.region ?_
 refine AO.pu T (d := .g [e.segments, e.size, e.key, .s (List.map encEntrant e.entrants), .s (List.map encInt e.gone), e.segment, .s (List.map encInt e.order), .s (List.map encResult e.results)]) ?_
 refine AO.pu T ?_
 refine AO.val rfl rfl (callV_ok rfl rfl rfl rfl (spec_evHas_ok _ _ _ (hx13)) rfl) ?_
 refine AO.pu T ?_
 refine AO.nil ?_
 refine AW.cond (b := (!x12)) rfl (fun hc => ?_) (fun hc => ?_)
 replace hH := condT hc hH
 refine AW.seq (AW.region ?_)
 iterate 2 refine AO.pu T ?_
 refine AO.nil (AW.ret ?_)
 cases someE hH
 exact retQ.i [] rfl (.c (.c .v))
 replace hH := condF hc hH
 refine AW.skip ?_
 refine AW.region ?_
 refine AO.val rfl rfl (ar_ok rfl rfl rfl rfl (inI_succ hlt6 hb5)) ?_
 refine AO.pu T ?_
 refine AO.nil ?_
 refine ⟨k1 + 1, ⟨Nat.succ_le_of_lt hlt6, (by rw [drop_succ_of hd4]; exact hH)⟩, (by have := hlt6; dsimp only; omega), ?_⟩
 exact Le.ct 0 0

def spec_evScore_l1 (e : Event) (score : Int) (x1 : Int) (x5 : Event) : Nat → List Result → List Result → Int → Option ((Event × Bool))
  | 0, _, _, _ => none
  | k7 + 1, v19, v20, v21 =>
    cond (decide (v21 < (x5.results.length : Int)))
      ((getI v20 v21).bind fun x23 =>
      cond (x23.skater == x1)
        ((getI x23.scores e.segment).bind fun x25 =>
        spec_evScore_l1 e score x1 x5 k7 (v20.set v21.toNat (Result.mk x23.skater (x23.scores.set e.segment.toNat score))) (v20.set v21.toNat (Result.mk x23.skater (x23.scores.set e.segment.toNat score))) (w64 (v21 + 1)))
        (spec_evScore_l1 e score x1 x5 k7 (v20.set v21.toNat x23) (v20.set v21.toNat x23) (w64 (v21 + 1))))
      ((spec_evEnd_p (Event.mk x5.segments x5.size x5.key x5.entrants x5.gone x5.segment x5.order v20)).bind fun x27 =>
      some (x27, true))
def spec_evScore_p (fuel : Nat) (e : Event) (score : Int) : Option (Event × Bool) :=
  (spec_evNext_p e).bind fun x1 =>
  (opt (!(x1 == 0)) default (spec_l1In_p score 0 100000)).bind fun x3 =>
  cond ((x1 == 0) || (!x3))
    (some ((Event.mk 0 0 0 [] [] 0 [] []), false))
    ((spec_evOwn_p e).bind fun x5 =>
    spec_evScore_l1 e score x1 x5 fuel x5.results x5.results 0)
theorem spec_evScore_ok (fuel : Nat) (e : Event) (score : Int) (r : (Event × Bool)) (hH : spec_evScore_p fuel e score = some r) : SpecR Tryz.prog 130 [.g (encEvent e), score] (.t [.g (encEvent r.1), .v (.bool r.2)]) := by
 refine fn_ok T Tryz.func130 rfl (by decide) rfl ?_
 refine AW.seq (AW.region ?_)
 refine AO.step rfl (box_ok T rfl 1 rfl rfl rfl rfl) ?_
 refine AO.step rfl (alloc_ok T rfl 2 rfl rfl rfl rfl rfl) ?_
 refine AO.pu T ?_
 refine AO.nil (AW.seq ?_)
 obtain ⟨x1, hx2, hH⟩ := bindE hH
 refine AW.region ?_
 refine AO.pu T (d := .g [e.segments, e.size, e.key, .s (List.map encEntrant e.entrants), .s (List.map encInt e.gone), e.segment, .s (List.map encInt e.order), .s (List.map encResult e.results)]) ?_
 refine AO.val rfl rfl (callV_ok rfl rfl rfl rfl (spec_evNext_ok _ _ (hx2)) rfl) ?_
 refine AO.pu T ?_
 refine AO.nil ?_
 iterate 2 refine AW.seq ?_
 obtain ⟨x3, hx4, hH⟩ := bindE hH
 refine AW.region ?_
 iterate 3 refine AO.pu T ?_
 refine AO.pureG T [] rfl trivial rfl rfl ?_
 refine AO.guard [15] rfl ⟨fun h => h, trivial⟩ (fun hg => callV_ok rfl rfl rfl rfl (spec_l1In_ok _ _ _ _ (optT hx4 hg)) rfl) rfl ?_
 refine AO.pureG T [16] rfl ⟨fun h => h, trivial⟩ rfl rfl ?_
 refine AO.val rfl rfl (pick_or rfl rfl rfl rfl) ?_
 refine AO.nil ?_
 refine AW.cond (b := ((x1 == 0) || (!x3))) rfl (fun hc => ?_) (fun hc => ?_)
 replace hH := condT hc hH
 refine AW.seq (AW.region ?_)
 refine AO.pu T (d := .g [(0 : Int), (0 : Int), (0 : Int), .w 0 [], .w 0 [], (0 : Int), .w 0 [], .w 0 []]) ?_
 refine AO.se T [(0 : Int), (0 : Int), (0 : Int), .w 0 [], .w 0 [], (0 : Int), .w 0 [], .w 0 []] ?_
 refine AO.pu T ?_
 refine AO.nil (AW.ret ?_)
 cases someE hH
 exact retQ.i [] rfl (.t (expLG_cons (.g (expLC_cons .v (expLC_cons .v (expLC_cons .v (expLC_cons .nilS (expLC_cons .nilS (expLC_cons .v (expLC_cons .nilS (expLC_cons .nilS (expLC_nil)))))))))) (expLG_cons (.c .v) (expLG_nil))))
 replace hH := condF hc hH
 refine AW.skip ?_
 refine AW.seq ?_
 obtain ⟨x5, hx6, hH⟩ := bindE hH
 refine AW.region ?_
 refine AO.pu T (d := .g [e.segments, e.size, e.key, .s (List.map encEntrant e.entrants), .s (List.map encInt e.gone), e.segment, .s (List.map encInt e.order), .s (List.map encResult e.results)]) ?_
 refine AO.step rfl (call_ok rfl 3 rfl rfl rfl (spec_evOwn_ok _ _ (hx6)) rfl rfl rfl) ?_
 refine AO.step rfl (alloc_ok T rfl 7 rfl rfl rfl rfl rfl) ?_
 refine AO.se T [x5.segments, x5.size, x5.key, .R 3, .R 4, x5.segment, .R 5, .R 6] ?_
 refine AO.nil ?_
 iterate 2 refine AW.seq ?_
 refine AW.region ?_
 iterate 2 refine AO.pu T ?_
 refine AO.val rfl rfl (len_row_ok T rfl rfl rfl rfl) ?_
 refine AO.pu T ?_
 refine AO.nil ?_
 refine AW.block ?_
 refine AW.loopS (fun s : Nat × (List Result) × (List Result) × Int => (⟨[(1, score), (2, .p 1 0), (4, .p 2 0), (6, x1), (7, .p 7 0), (23, .R 6), (24, (x5.results.length : Int)), (25, s.2.2.2)], [(1, .box [e.segments, e.size, e.key, .s (List.map encEntrant e.entrants), .s (List.map encInt e.gone), e.segment, .s (List.map encInt e.order), .s (List.map encResult e.results)]), (2, .box [(0 : Int), (0 : Int), (0 : Int), .w 0 [], .w 0 [], (0 : Int), .w 0 [], .w 0 []]), (3, .row 2 (List.map encEntrant x5.entrants)), (4, .row 1 (List.map encInt x5.gone)), (5, .row 1 (List.map encInt x5.order)), (6, .row 2 (List.map encResultO s.2.2.1)), (7, .box [x5.segments, x5.size, x5.key, .R 3, .R 4, x5.segment, .R 5, .R 6])], 42, []⟩ : St)) (fun s => spec_evScore_l1 e score x1 x5 s.1 s.2.1 s.2.2.1 s.2.2.2 = some r) (fun s => s.1) (fuel, x5.results, x5.results, 0) hH ?_ ?_
 exact Le.ct 0 0
 rintro ⟨k7, v19, v20, v21⟩ hH
 replace hH : spec_evScore_l1 e score x1 x5 k7 v19 v20 v21 = some r := hH
 try dsimp only
 rcases k7 with _ | k7
 cases (show none = some _ from hH)
 rw [spec_evScore_l1] at hH
 refine AW.seq (AW.region ?_)
 refine AO.pu T ?_
 refine AO.nil (AW.seq ?_)
 refine AW.cond (b := decide (v21 < (x5.results.length : Int))) rfl (fun hc => ?_) (fun hc => ?_)
 replace hH := condT hc hH
 refine AW.skip ?_
 refine AW.seq ?_
 refine AW.block ?_
 refine AW.seq ?_
 obtain ⟨x23, hx24, hH⟩ := bindE hH
 refine AW.le (Le.openM 6 v21.toNat 1 12 rfl (getI_get (hx24)) rfl rfl) ?_
 refine AW.region ?_
 refine AO.val rfl rfl (ix_lent_ok T rfl rfl rfl rfl rfl rfl (hx24)) ?_
 refine AO.val rfl rfl (load_lentS_ok T rfl rfl rfl rfl rfl (getI_get (hx24)) rfl rfl rfl) ?_
 refine AO.step rfl (alloc_ok T rfl 13 rfl rfl rfl rfl rfl) ?_
 refine AO.se T [x23.skater, .R 12] ?_
 refine AO.nil (AW.seq ?_)
 refine AW.region ?_
 iterate 4 refine AO.pu T ?_
 refine AO.nil ?_
 refine AW.cond (b := (x23.skater == x1)) rfl (fun hc => ?_) (fun hc => ?_)
 replace hH := condT hc hH
 obtain ⟨x25, hx26, hH⟩ := bindE hH
 refine AW.region ?_
 iterate 5 refine AO.pu T ?_
 refine AO.val rfl rfl (ix_row_ok T rfl rfl rfl rfl rfl rfl (hx26)) ?_
 refine AO.step rfl (store_row_ok T rfl rfl rfl rfl rfl (getI_get (hx26)) rfl rfl rfl rfl (u' := score) rfl rfl) ?_
 refine AO.le (Le.closeM 6 v21.toNat 1 12 rfl rfl (getI_get (hx24)) rfl (u' := (Result.mk x23.skater (x23.scores.set e.segment.toNat score))) rfl) ?_
 refine AO.nil ?_
 refine AW.region ?_
 refine AO.val rfl rfl (arw_ok rfl rfl rfl rfl) ?_
 refine AO.pu T ?_
 refine AO.nil ?_
 refine ⟨(k7, (v20.set v21.toNat (Result.mk x23.skater (x23.scores.set e.segment.toNat score))), (v20.set v21.toNat (Result.mk x23.skater (x23.scores.set e.segment.toNat score))), w64 (v21 + 1)), hH, Nat.lt_succ_self _, ?_⟩
 exact Le.ct 0 0
 replace hH := condF hc hH
 refine AW.skip ?_
 refine AW.region ?_
 refine AO.val rfl rfl (arw_ok rfl rfl rfl rfl) ?_
 refine AO.pu T ?_
 refine AO.le (Le.closeM 6 v21.toNat 1 12 rfl rfl (getI_get (hx24)) rfl (u' := x23) rfl) ?_
 refine AO.nil ?_
 refine ⟨(k7, (v20.set v21.toNat x23), (v20.set v21.toNat x23), w64 (v21 + 1)), hH, Nat.lt_succ_self _, ?_⟩
 exact Le.ct 0 0
 replace hH := condF hc hH
 refine AW.exit ?_
 refine AW.seq ?_
 obtain ⟨x27, hx28, hH⟩ := bindE hH
 refine AW.le (Le.freezeM 3 (g := encEntrant) rfl (fun y => .vs rfl)) ?_
 refine AW.le (Le.freezeM 4 (g := encInt) rfl (fun y => .vs rfl)) ?_
 refine AW.le (Le.freezeM 5 (g := encInt) rfl (fun y => .vs rfl)) ?_
 refine AW.le (Le.freezeM 6 (g := encResult) rfl (fun y => frzResult y)) ?_
 refine AW.region ?_
 refine AO.pu T (d := .g [x5.segments, x5.size, x5.key, .s (List.map encEntrant x5.entrants), .s (List.map encInt x5.gone), x5.segment, .s (List.map encInt x5.order), .s (List.map encResult v20)]) ?_
 refine AO.val rfl rfl (callV_ok rfl rfl rfl rfl (spec_evEnd_ok _ _ (hx28)) rfl) ?_
 refine AO.se T [x27.segments, x27.size, x27.key, .s (List.map encEntrant x27.entrants), .s (List.map encInt x27.gone), x27.segment, .s (List.map encInt x27.order), .s (List.map encResult x27.results)] ?_
 refine AO.pu T ?_
 refine AO.nil (AW.ret ?_)
 cases someE hH
 exact retQ.i [] rfl (.t (expLG_cons (.g (expLC_cons .v (expLC_cons .v (expLC_cons .v (expLC_cons .s (expLC_cons .s (expLC_cons .v (expLC_cons .s (expLC_cons .s (expLC_nil)))))))))) (expLG_cons (.c .v) (expLG_nil))))

def spec_evStep_p (fuel : Nat) (e : Event) (sA : Step) : Option (Event × Bool) :=
  cond (e.segment == e.segments)
    (some ((Event.mk 0 0 0 [] [] 0 [] []), false))
    (cond (sA.kind == 1)
      ((spec_evEnter_p fuel e (Entrant.mk sA.skater sA.number)).bind fun x1 =>
      some ((Event.mk x1.1.segments x1.1.size x1.1.key x1.1.entrants x1.1.gone x1.1.segment x1.1.order x1.1.results), x1.2))
      (cond (sA.kind == 2)
        ((spec_evLeave_p fuel e sA.skater).bind fun x3 =>
        some ((Event.mk x3.1.segments x3.1.size x3.1.key x3.1.entrants x3.1.gone x3.1.segment x3.1.order x3.1.results), x3.2))
        (cond (sA.kind == 3)
          ((spec_evDraw_p fuel e).bind fun x5 =>
          some ((Event.mk x5.1.segments x5.1.size x5.1.key x5.1.entrants x5.1.gone x5.1.segment x5.1.order x5.1.results), x5.2))
          (cond (sA.kind == 4)
            ((spec_evScore_p fuel e sA.number).bind fun x7 =>
            some ((Event.mk x7.1.segments x7.1.size x7.1.key x7.1.entrants x7.1.gone x7.1.segment x7.1.order x7.1.results), x7.2))
            (some ((Event.mk 0 0 0 [] [] 0 [] []), false))))))
theorem spec_evStep_ok (fuel : Nat) (e : Event) (sA : Step) (r : (Event × Bool)) (hH : spec_evStep_p fuel e sA = some r) : SpecR Tryz.prog 75 [.g (encEvent e), .g (encStep sA)] (.t [.g (encEvent r.1), .v (.bool r.2)]) := by
 refine fn_ok T Tryz.func75 rfl (by decide) rfl ?_
 refine AW.seq (AW.region ?_)
 refine AO.step rfl (box_ok T rfl 1 rfl rfl rfl rfl) ?_
 refine AO.step rfl (box_ok T rfl 2 rfl rfl rfl rfl) ?_
 refine AO.step rfl (alloc_ok T rfl 3 rfl rfl rfl rfl rfl) ?_
 refine AO.pu T ?_
 refine AO.nil ?_
 iterate 2 refine AW.seq ?_
 refine AW.region ?_
 iterate 5 refine AO.pu T ?_
 refine AO.nil ?_
 refine AW.cond (b := (e.segment == e.segments)) rfl (fun hc => ?_) (fun hc => ?_)
 replace hH := condT hc hH
 refine AW.seq (AW.region ?_)
 refine AO.pu T (d := .g [(0 : Int), (0 : Int), (0 : Int), .w 0 [], .w 0 [], (0 : Int), .w 0 [], .w 0 []]) ?_
 refine AO.se T [(0 : Int), (0 : Int), (0 : Int), .w 0 [], .w 0 [], (0 : Int), .w 0 [], .w 0 []] ?_
 refine AO.pu T ?_
 refine AO.nil (AW.ret ?_)
 cases someE hH
 exact retQ.i [] rfl (.t (expLG_cons (.g (expLC_cons .v (expLC_cons .v (expLC_cons .v (expLC_cons .nilS (expLC_cons .nilS (expLC_cons .v (expLC_cons .nilS (expLC_cons .nilS (expLC_nil)))))))))) (expLG_cons (.c .v) (expLG_nil))))
 replace hH := condF hc hH
 refine AW.skip ?_
 iterate 2 refine AW.seq ?_
 refine AW.region ?_
 iterate 2 refine AO.pu T ?_
 refine AO.nil ?_
 refine AW.block ?_
 refine AW.seq (AW.region ?_)
 iterate 2 refine AO.pu T ?_
 refine AO.nil ?_
 refine AW.cond (b := (sA.kind == 1)) rfl (fun hc => ?_) (fun hc => ?_)
 replace hH := condT hc hH
 refine AW.seq ?_
 obtain ⟨x1, hx2, hH⟩ := bindE hH
 refine AW.region ?_
 refine AO.pu T (d := .g [e.segments, e.size, e.key, .s (List.map encEntrant e.entrants), .s (List.map encInt e.gone), e.segment, .s (List.map encInt e.order), .s (List.map encResult e.results)]) ?_
 iterate 4 refine AO.pu T ?_
 refine AO.pu T (d := .g [sA.skater, sA.number]) ?_
 refine AO.step rfl (call_ok rfl 4 rfl rfl rfl (spec_evEnter_ok fuel _ _ _ (hx2)) rfl rfl rfl) ?_
 refine AO.pu T (d := .g [x1.1.segments, x1.1.size, x1.1.key, .R 4, .R 5, x1.1.segment, .R 6, .R 7]) ?_
 refine AO.pu T ?_
 refine AO.se T [x1.1.segments, x1.1.size, x1.1.key, .R 4, .R 5, x1.1.segment, .R 6, .R 7] ?_
 refine AO.pu T ?_
 refine AO.nil ?_
 refine AW.le (Le.ct 0 0 (σ' := (⟨[(4, .p 3 0), (5, .v (.bool x1.2))], [(3, .box [x1.1.segments, x1.1.size, x1.1.key, .R 4, .R 5, x1.1.segment, .R 6, .R 7]), (4, .row 2 (List.map encEntrant x1.1.entrants)), (5, .row 1 (List.map encInt x1.1.gone)), (6, .row 1 (List.map encInt x1.1.order)), (7, .row 2 (List.map encResultO x1.1.results))], 48, []⟩ : St))) ?_
 refine AW.le (Le.freezeM 7 (g := encResult) rfl (fun y => frzResult y)) ?_
 refine AW.le (Le.freezeM 6 (g := encInt) rfl (fun y => .vs rfl)) ?_
 refine AW.le (Le.freezeM 5 (g := encInt) rfl (fun y => .vs rfl)) ?_
 refine AW.le (Le.freezeM 4 (g := encEntrant) rfl (fun y => .vs rfl)) ?_
 refine AW.ret ?_
 cases someE hH
 exact retQ.i [] rfl (.t (expLG_cons (.g (expLC_cons .v (expLC_cons .v (expLC_cons .v (expLC_cons .s (expLC_cons .s (expLC_cons .v (expLC_cons .s (expLC_cons .s (expLC_nil)))))))))) (expLG_cons (.c .v) (expLG_nil))))
 replace hH := condF hc hH
 refine AW.seq (AW.region ?_)
 iterate 2 refine AO.pu T ?_
 refine AO.nil ?_
 refine AW.cond (b := (sA.kind == 2)) rfl (fun hc => ?_) (fun hc => ?_)
 replace hH := condT hc hH
 refine AW.seq ?_
 obtain ⟨x3, hx4, hH⟩ := bindE hH
 refine AW.region ?_
 refine AO.pu T (d := .g [e.segments, e.size, e.key, .s (List.map encEntrant e.entrants), .s (List.map encInt e.gone), e.segment, .s (List.map encInt e.order), .s (List.map encResult e.results)]) ?_
 iterate 2 refine AO.pu T ?_
 refine AO.val rfl rfl (callV_ok rfl rfl rfl rfl (spec_evLeave_ok fuel _ _ _ (hx4)) rfl) ?_
 refine AO.pu T (d := .g [x3.1.segments, x3.1.size, x3.1.key, .s (List.map encEntrant x3.1.entrants), .s (List.map encInt x3.1.gone), x3.1.segment, .s (List.map encInt x3.1.order), .s (List.map encResult x3.1.results)]) ?_
 refine AO.pu T ?_
 refine AO.se T [x3.1.segments, x3.1.size, x3.1.key, .s (List.map encEntrant x3.1.entrants), .s (List.map encInt x3.1.gone), x3.1.segment, .s (List.map encInt x3.1.order), .s (List.map encResult x3.1.results)] ?_
 refine AO.pu T ?_
 refine AO.nil (AW.ret ?_)
 cases someE hH
 exact retQ.i [] rfl (.t (expLG_cons (.g (expLC_cons .v (expLC_cons .v (expLC_cons .v (expLC_cons .s (expLC_cons .s (expLC_cons .v (expLC_cons .s (expLC_cons .s (expLC_nil)))))))))) (expLG_cons (.c .v) (expLG_nil))))
 replace hH := condF hc hH
 refine AW.seq (AW.region ?_)
 iterate 2 refine AO.pu T ?_
 refine AO.nil ?_
 refine AW.cond (b := (sA.kind == 3)) rfl (fun hc => ?_) (fun hc => ?_)
 replace hH := condT hc hH
 refine AW.seq ?_
 obtain ⟨x5, hx6, hH⟩ := bindE hH
 refine AW.region ?_
 refine AO.pu T (d := .g [e.segments, e.size, e.key, .s (List.map encEntrant e.entrants), .s (List.map encInt e.gone), e.segment, .s (List.map encInt e.order), .s (List.map encResult e.results)]) ?_
 refine AO.val rfl rfl (callV_ok rfl rfl rfl rfl (spec_evDraw_ok fuel _ _ (hx6)) rfl) ?_
 refine AO.pu T (d := .g [x5.1.segments, x5.1.size, x5.1.key, .s (List.map encEntrant x5.1.entrants), .s (List.map encInt x5.1.gone), x5.1.segment, .s (List.map encInt x5.1.order), .s (List.map encResult x5.1.results)]) ?_
 refine AO.pu T ?_
 refine AO.se T [x5.1.segments, x5.1.size, x5.1.key, .s (List.map encEntrant x5.1.entrants), .s (List.map encInt x5.1.gone), x5.1.segment, .s (List.map encInt x5.1.order), .s (List.map encResult x5.1.results)] ?_
 refine AO.pu T ?_
 refine AO.nil (AW.ret ?_)
 cases someE hH
 exact retQ.i [] rfl (.t (expLG_cons (.g (expLC_cons .v (expLC_cons .v (expLC_cons .v (expLC_cons .s (expLC_cons .s (expLC_cons .v (expLC_cons .s (expLC_cons .s (expLC_nil)))))))))) (expLG_cons (.c .v) (expLG_nil))))
 replace hH := condF hc hH
 refine AW.seq (AW.region ?_)
 iterate 2 refine AO.pu T ?_
 refine AO.nil ?_
 refine AW.cond (b := (sA.kind == 4)) rfl (fun hc => ?_) (fun hc => ?_)
 replace hH := condT hc hH
 refine AW.seq ?_
 obtain ⟨x7, hx8, hH⟩ := bindE hH
 refine AW.region ?_
 refine AO.pu T (d := .g [e.segments, e.size, e.key, .s (List.map encEntrant e.entrants), .s (List.map encInt e.gone), e.segment, .s (List.map encInt e.order), .s (List.map encResult e.results)]) ?_
 iterate 2 refine AO.pu T ?_
 refine AO.val rfl rfl (callV_ok rfl rfl rfl rfl (spec_evScore_ok fuel _ _ _ (hx8)) rfl) ?_
 refine AO.pu T (d := .g [x7.1.segments, x7.1.size, x7.1.key, .s (List.map encEntrant x7.1.entrants), .s (List.map encInt x7.1.gone), x7.1.segment, .s (List.map encInt x7.1.order), .s (List.map encResult x7.1.results)]) ?_
 refine AO.pu T ?_
 refine AO.se T [x7.1.segments, x7.1.size, x7.1.key, .s (List.map encEntrant x7.1.entrants), .s (List.map encInt x7.1.gone), x7.1.segment, .s (List.map encInt x7.1.order), .s (List.map encResult x7.1.results)] ?_
 refine AO.pu T ?_
 refine AO.nil ?_
 refine AW.le (Le.ct 0 0 (σ' := (⟨[(4, .p 3 0), (5, .v (.bool x7.2))], [(3, .box [x7.1.segments, x7.1.size, x7.1.key, .s (List.map encEntrant x7.1.entrants), .s (List.map encInt x7.1.gone), x7.1.segment, .s (List.map encInt x7.1.order), .s (List.map encResult x7.1.results)])], 48, []⟩ : St))) ?_
 refine AW.ret ?_
 cases someE hH
 exact retQ.i [] rfl (.t (expLG_cons (.g (expLC_cons .v (expLC_cons .v (expLC_cons .v (expLC_cons .s (expLC_cons .s (expLC_cons .v (expLC_cons .s (expLC_cons .s (expLC_nil)))))))))) (expLG_cons (.c .v) (expLG_nil))))
 replace hH := condF hc hH
 refine AW.skip ?_
 refine AW.seq (AW.region ?_)
 refine AO.pu T (d := .g [(0 : Int), (0 : Int), (0 : Int), .w 0 [], .w 0 [], (0 : Int), .w 0 [], .w 0 []]) ?_
 refine AO.se T [(0 : Int), (0 : Int), (0 : Int), .w 0 [], .w 0 [], (0 : Int), .w 0 [], .w 0 []] ?_
 refine AO.pu T ?_
 refine AO.nil (AW.ret ?_)
 cases someE hH
 exact retQ.i [] rfl (.t (expLG_cons (.g (expLC_cons .v (expLC_cons .v (expLC_cons .v (expLC_cons .nilS (expLC_cons .nilS (expLC_cons .v (expLC_cons .nilS (expLC_cons .nilS (expLC_nil)))))))))) (expLG_cons (.c .v) (expLG_nil))))

def spec_RunSteps_l1 (l : List Step) (fuel : Nat) : List Step → Nat → Int → Int → Int → List Entrant → List Int → Int → List Int → List Result → Option ((Event × Int × Bool))
  | [], k5, v23, v24, v25, v26, v27, v28, v29, v30 =>
    some ((Event.mk v23 v24 v25 v26 v27 v28 v29 v30), (l.length : Int), true)
  | y6 :: ys7, k5, v23, v24, v25, v26, v27, v28, v29, v30 =>
    (spec_evStep_p fuel (Event.mk v23 v24 v25 v26 v27 v28 v29 v30) y6).bind fun x32 =>
    cond (!x32.2)
      (some ((Event.mk v23 v24 v25 v26 v27 v28 v29 v30), (k5 : Int), true))
      (spec_RunSteps_l1 l fuel ys7 (k5 + 1) x32.1.segments x32.1.size x32.1.key x32.1.entrants x32.1.gone x32.1.segment x32.1.order x32.1.results)
def spec_RunSteps_p (fuel : Nat) (e : Event) (l : List Step) : Option (Event × Int × Bool) :=
  (spec_evGood_p fuel e).bind fun x1 =>
  cond ((!x1) || decide ((l.length : Int) > 120))
    (some ((Event.mk 0 0 0 [] [] 0 [] []), 0, false))
    ((spec_evOwn_p e).bind fun x3 =>
    spec_RunSteps_l1 l fuel l 0 x3.segments x3.size x3.key x3.entrants x3.gone x3.segment x3.order x3.results)
theorem spec_RunSteps_ok (fuel : Nat) (e : Event) (l : List Step) (r : (Event × Int × Bool)) (hH : spec_RunSteps_p fuel e l = some r) : SpecR Tryz.prog 21 [.g (encEvent e), .s (List.map encStep l)] (.t [.g (encEvent r.1), .v (.int .i64 r.2.1), .v (.bool r.2.2)]) := by
 refine fn_ok T Tryz.func21 rfl (by decide) rfl ?_
 refine AW.seq (AW.region ?_)
 refine AO.step rfl (box_ok T rfl 1 rfl rfl rfl rfl) ?_
 refine AO.step rfl (alloc_ok T rfl 2 rfl rfl rfl rfl rfl) ?_
 iterate 2 refine AO.pu T ?_
 refine AO.nil ?_
 iterate 2 refine AW.seq ?_
 obtain ⟨x1, hx2, hH⟩ := bindE hH
 refine AW.region ?_
 refine AO.pu T (d := .g [e.segments, e.size, e.key, .s (List.map encEntrant e.entrants), .s (List.map encInt e.gone), e.segment, .s (List.map encInt e.order), .s (List.map encResult e.results)]) ?_
 refine AO.val rfl rfl (callV_ok rfl rfl rfl rfl (spec_evGood_ok fuel _ _ (hx2)) rfl) ?_
 iterate 2 refine AO.pu T ?_
 refine AO.pureG T [] rfl trivial rfl rfl ?_
 refine AO.guard [16] rfl ⟨fun h => h, trivial⟩ (fun hg => len_map_ok T rfl rfl rfl) rfl ?_
 refine AO.pureG T [17] rfl ⟨fun h => h, trivial⟩ rfl rfl ?_
 refine AO.val rfl rfl (pick_or rfl rfl rfl rfl) ?_
 refine AO.nil ?_
 refine AW.cond (b := ((!x1) || decide ((l.length : Int) > 120))) rfl (fun hc => ?_) (fun hc => ?_)
 replace hH := condT hc hH
 refine AW.seq (AW.region ?_)
 refine AO.pu T (d := .g [(0 : Int), (0 : Int), (0 : Int), .w 0 [], .w 0 [], (0 : Int), .w 0 [], .w 0 []]) ?_
 refine AO.se T [(0 : Int), (0 : Int), (0 : Int), .w 0 [], .w 0 [], (0 : Int), .w 0 [], .w 0 []] ?_
 iterate 2 refine AO.pu T ?_
 refine AO.nil (AW.ret ?_)
 cases someE hH
 exact retQ.i [] rfl (.t (expLG_cons (.g (expLC_cons .v (expLC_cons .v (expLC_cons .v (expLC_cons .nilS (expLC_cons .nilS (expLC_cons .v (expLC_cons .nilS (expLC_cons .nilS (expLC_nil)))))))))) (expLG_cons (.c .v) (expLG_cons (.c .v) (expLG_nil)))))
 replace hH := condF hc hH
 refine AW.skip ?_
 refine AW.seq ?_
 obtain ⟨x3, hx4, hH⟩ := bindE hH
 refine AW.region ?_
 refine AO.pu T (d := .g [e.segments, e.size, e.key, .s (List.map encEntrant e.entrants), .s (List.map encInt e.gone), e.segment, .s (List.map encInt e.order), .s (List.map encResult e.results)]) ?_
 refine AO.step rfl (call_ok rfl 3 rfl rfl rfl (spec_evOwn_ok _ _ (hx4)) rfl rfl rfl) ?_
 refine AO.step rfl (alloc_ok T rfl 7 rfl rfl rfl rfl rfl) ?_
 refine AO.se T [x3.segments, x3.size, x3.key, .R 3, .R 4, x3.segment, .R 5, .R 6] ?_
 refine AO.nil ?_
 iterate 2 refine AW.seq ?_
 refine AW.region ?_
 refine AO.pu T ?_
 refine AO.val rfl rfl (len_map_ok T rfl rfl rfl) ?_
 refine AO.pu T ?_
 refine AO.nil ?_
 refine AW.block ?_
 refine AW.loopS (fun s : Nat × Int × Int × Int × (List Entrant) × (List Int) × Int × (List Int) × (List Result) => (⟨[(1, .s (List.map encStep l)), (4, .p 2 0), (7, .p 7 0), (23, .s (List.map encStep l)), (24, (l.length : Int)), (25, (s.1 : Int))], [(2, .box [(0 : Int), (0 : Int), (0 : Int), .w 0 [], .w 0 [], (0 : Int), .w 0 [], .w 0 []]), (7, .box [s.2.1, s.2.2.1, s.2.2.2.1, .s (List.map encEntrant s.2.2.2.2.1), .s (List.map encInt s.2.2.2.2.2.1), s.2.2.2.2.2.2.1, .s (List.map encInt s.2.2.2.2.2.2.2.1), .s (List.map encResult s.2.2.2.2.2.2.2.2)])], 45, []⟩ : St)) (fun s => s.1 ≤ l.length ∧ spec_RunSteps_l1 l fuel (l.drop s.1) s.1 s.2.1 s.2.2.1 s.2.2.2.1 s.2.2.2.2.1 s.2.2.2.2.2.1 s.2.2.2.2.2.2.1 s.2.2.2.2.2.2.2.1 s.2.2.2.2.2.2.2.2 = some r) (fun s => l.length - s.1) (0, x3.segments, x3.size, x3.key, x3.entrants, x3.gone, x3.segment, x3.order, x3.results) ⟨Nat.zero_le _, hH⟩ ?_ ?_
 refine Le.trans (Le.freezeM 3 (g := encEntrant) rfl (fun y => .vs rfl)) ?_
 refine Le.trans (Le.freezeM 4 (g := encInt) rfl (fun y => .vs rfl)) ?_
 refine Le.trans (Le.freezeM 5 (g := encInt) rfl (fun y => .vs rfl)) ?_
 refine Le.trans (Le.freezeM 6 (g := encResult) rfl (fun y => frzResult y)) ?_
 exact Le.ct 0 0
 rintro ⟨k5, v23, v24, v25, v26, v27, v28, v29, v30⟩ ⟨hk, hH⟩
 replace hH : spec_RunSteps_l1 l fuel (l.drop k5) k5 v23 v24 v25 v26 v27 v28 v29 v30 = some r := hH
 try dsimp only
 refine AW.boundM (t := 1) (l := l) rfl (fun hb9 => ?_)
 rcases hd8 : l.drop k5 with _ | ⟨y6, ys7⟩
 rw [hd8, spec_RunSteps_l1] at hH
 have hlt10 := drop_ge hd8
 refine AW.seq (AW.region ?_)
 refine AO.pu T ?_
 refine AO.nil (AW.seq ?_)
 refine AW.condF' (b := decide ((k5 : Int) < (l.length : Int))) rfl (rngF hlt10) ?_
 refine AW.exit ?_
 refine AW.seq (AW.region ?_)
 refine AO.pu T (d := .g [v23, v24, v25, .s (List.map encEntrant v26), .s (List.map encInt v27), v28, .s (List.map encInt v29), .s (List.map encResult v30)]) ?_
 refine AO.pu T ?_
 refine AO.val rfl rfl (len_map_ok T rfl rfl rfl) ?_
 refine AO.se T [v23, v24, v25, .s (List.map encEntrant v26), .s (List.map encInt v27), v28, .s (List.map encInt v29), .s (List.map encResult v30)] ?_
 iterate 2 refine AO.pu T ?_
 refine AO.nil (AW.ret ?_)
 cases someE hH
 exact retQ.i [] rfl (.t (expLG_cons (.g (expLC_cons .v (expLC_cons .v (expLC_cons .v (expLC_cons .s (expLC_cons .s (expLC_cons .v (expLC_cons .s (expLC_cons .s (expLC_nil)))))))))) (expLG_cons (.c .v) (expLG_cons (.c .v) (expLG_nil)))))
 rw [hd8, spec_RunSteps_l1] at hH
 have hlt10 := drop_lt hd8
 refine AW.seq (AW.region ?_)
 refine AO.pu T ?_
 refine AO.nil (AW.seq ?_)
 refine AW.condT' (b := decide ((k5 : Int) < (l.length : Int))) rfl (rngT hlt10) ?_
 refine AW.skip ?_
 refine AW.seq ?_
 refine AW.block ?_
 refine AW.seq (AW.region ?_)
 refine AO.pu T ?_
 refine AO.val rfl rfl (ix_map_ok T rfl rfl rfl rfl rfl (getI_drop hd8) rfl) ?_
 refine AO.pu T (d := .g [y6.kind, y6.skater, y6.number]) ?_
 refine AO.step rfl (alloc_ok T rfl 12 rfl rfl rfl rfl rfl) ?_
 refine AO.pu T ?_
 refine AO.se T [y6.kind, y6.skater, y6.number] ?_
 refine AO.nil (AW.seq ?_)
 obtain ⟨x32, hx33, hH⟩ := bindE hH
 refine AW.region ?_
 refine AO.pu T (d := .g [v23, v24, v25, .s (List.map encEntrant v26), .s (List.map encInt v27), v28, .s (List.map encInt v29), .s (List.map encResult v30)]) ?_
 refine AO.pu T (d := .g [y6.kind, y6.skater, y6.number]) ?_
 refine AO.val rfl rfl (callV_ok rfl rfl rfl rfl (spec_evStep_ok fuel _ _ _ (hx33)) rfl) ?_
 refine AO.pu T ?_
 refine AO.pu T (d := .g [x32.1.segments, x32.1.size, x32.1.key, .s (List.map encEntrant x32.1.entrants), .s (List.map encInt x32.1.gone), x32.1.segment, .s (List.map encInt x32.1.order), .s (List.map encResult x32.1.results)]) ?_
 refine AO.pu T ?_
 refine AO.step rfl (alloc_ok T rfl 13 rfl rfl rfl rfl rfl) ?_
 refine AO.se T [x32.1.segments, x32.1.size, x32.1.key, .s (List.map encEntrant x32.1.entrants), .s (List.map encInt x32.1.gone), x32.1.segment, .s (List.map encInt x32.1.order), .s (List.map encResult x32.1.results)] ?_
 refine AO.pu T ?_
 refine AO.nil ?_
 iterate 2 refine AW.seq ?_
 refine AW.region ?_
 iterate 2 refine AO.pu T ?_
 refine AO.nil ?_
 refine AW.cond (b := (!x32.2)) rfl (fun hc => ?_) (fun hc => ?_)
 replace hH := condT hc hH
 refine AW.seq (AW.region ?_)
 refine AO.pu T (d := .g [v23, v24, v25, .s (List.map encEntrant v26), .s (List.map encInt v27), v28, .s (List.map encInt v29), .s (List.map encResult v30)]) ?_
 refine AO.pu T ?_
 refine AO.se T [v23, v24, v25, .s (List.map encEntrant v26), .s (List.map encInt v27), v28, .s (List.map encInt v29), .s (List.map encResult v30)] ?_
 iterate 2 refine AO.pu T ?_
 refine AO.nil (AW.ret ?_)
 cases someE hH
 exact retQ.i [] rfl (.t (expLG_cons (.g (expLC_cons .v (expLC_cons .v (expLC_cons .v (expLC_cons .s (expLC_cons .s (expLC_cons .v (expLC_cons .s (expLC_cons .s (expLC_nil)))))))))) (expLG_cons (.c .v) (expLG_cons (.c .v) (expLG_nil)))))
 replace hH := condF hc hH
 refine AW.skip ?_
 refine AW.region ?_
 refine AO.pu T (d := .g [x32.1.segments, x32.1.size, x32.1.key, .s (List.map encEntrant x32.1.entrants), .s (List.map encInt x32.1.gone), x32.1.segment, .s (List.map encInt x32.1.order), .s (List.map encResult x32.1.results)]) ?_
 refine AO.se T [x32.1.segments, x32.1.size, x32.1.key, .s (List.map encEntrant x32.1.entrants), .s (List.map encInt x32.1.gone), x32.1.segment, .s (List.map encInt x32.1.order), .s (List.map encResult x32.1.results)] ?_
 refine AO.nil ?_
 refine AW.region ?_
 refine AO.val rfl rfl (ar_ok rfl rfl rfl rfl (inI_succ hlt10 hb9)) ?_
 refine AO.pu T ?_
 refine AO.nil ?_
 refine ⟨(k5 + 1, x32.1.segments, x32.1.size, x32.1.key, x32.1.entrants, x32.1.gone, x32.1.segment, x32.1.order, x32.1.results), ⟨Nat.succ_le_of_lt hlt10, (by rw [drop_succ_of hd8]; exact hH)⟩, (by have := hlt10; dsimp only; omega), ?_⟩
 exact Le.ct 0 0

def impl_within_p (n : Int) (low : Int) (high : Int) : Option Bool :=
  some (decide (n ≥ low) && decide (n ≤ high))
theorem impl_within_ok (n : Int) (low : Int) (high : Int) (r : Bool) (hH : impl_within_p n low high = some r) : SpecR Tryz.prog 84 [n, low, high] (.v (.bool r)) := by
 refine fn_ok T Tryz.func84 rfl (by decide) rfl ?_
 refine AW.seq (AW.region ?_)
 refine AO.pu T ?_
 refine AO.nil (AW.seq ?_)
 refine AW.region ?_
 iterate 4 refine AO.pu T ?_
 iterate 2 refine AO.pureG T [] rfl trivial rfl rfl ?_
 refine AO.pureG T [11, 12] rfl ⟨fun h => h, fun h => h, trivial⟩ rfl rfl ?_
 refine AO.val rfl rfl (pick_and rfl rfl rfl rfl) ?_
 refine AO.pu T ?_
 refine AO.nil (AW.ret ?_)
 cases someE hH
 exact retQ.i [] rfl (.c (.c .v))

def impl_isGroupSize_p (size : Int) : Option Bool :=
  (impl_within_p size 1 8).bind fun x1 =>
  some x1
theorem impl_isGroupSize_ok (size : Int) (r : Bool) (hH : impl_isGroupSize_p size = some r) : SpecR Tryz.prog 85 [size] (.v (.bool r)) := by
 refine fn_ok T Tryz.func85 rfl (by decide) rfl ?_
 refine AW.seq (AW.region ?_)
 refine AO.pu T ?_
 refine AO.nil (AW.seq ?_)
 obtain ⟨x1, hx2, hH⟩ := bindE hH
 refine AW.region ?_
 refine AO.pu T ?_
 refine AO.val rfl rfl (callV_ok rfl rfl rfl rfl (impl_within_ok _ _ _ _ (hx2)) rfl) ?_
 refine AO.pu T ?_
 refine AO.nil (AW.ret ?_)
 cases someE hH
 exact retQ.i [] rfl (.c (.c .v))

def impl_allWithin_l1 (low : Int) (high : Int) : List Int → Nat → Option Bool
  | [], k1 =>
    some true
  | y2 :: ys3, k1 =>
    (impl_within_p y2 low high).bind fun x12 =>
    cond (!x12)
      (some false)
      (impl_allWithin_l1 low high ys3 (k1 + 1))
def impl_allWithin_p (l : List Int) (low : Int) (high : Int) : Option Bool :=
  impl_allWithin_l1 low high l 0
theorem impl_allWithin_ok (l : List Int) (low : Int) (high : Int) (r : Bool) (hH : impl_allWithin_p l low high = some r) : SpecR Tryz.prog 166 [.s (List.map encInt l), low, high] (.v (.bool r)) := by
 refine fn_ok T Tryz.func166 rfl (by decide) rfl ?_
 refine AW.seq (AW.region ?_)
 refine AO.pu T ?_
 refine AO.nil ?_
 iterate 2 refine AW.seq ?_
 refine AW.region ?_
 refine AO.pu T ?_
 refine AO.val rfl rfl (len_map_ok T rfl rfl rfl) ?_
 refine AO.pu T ?_
 refine AO.nil ?_
 refine AW.block ?_
 refine AW.loopS (fun s : Nat => (⟨[(1, low), (2, high), (9, .s (List.map encInt l)), (10, (l.length : Int)), (11, (s : Int))], [], 21, []⟩ : St)) (fun s => s ≤ l.length ∧ impl_allWithin_l1 low high (l.drop s) s = some r) (fun s => l.length - s) 0 ⟨Nat.zero_le _, hH⟩ ?_ ?_
 exact Le.ct 0 0
 rintro k1 ⟨hk, hH⟩
 replace hH : impl_allWithin_l1 low high (l.drop k1) k1 = some r := hH
 try dsimp only
 refine AW.boundM (t := 9) (l := l) rfl (fun hb5 => ?_)
 rcases hd4 : l.drop k1 with _ | ⟨y2, ys3⟩
 rw [hd4, impl_allWithin_l1] at hH
 have hlt6 := drop_ge hd4
 refine AW.seq (AW.region ?_)
 refine AO.pu T ?_
 refine AO.nil (AW.seq ?_)
 refine AW.condF' (b := decide ((k1 : Int) < (l.length : Int))) rfl (rngF hlt6) ?_
 refine AW.exit ?_
 refine AW.seq (AW.region ?_)
 refine AO.pu T ?_
 refine AO.nil (AW.ret ?_)
 cases someE hH
 exact retQ.i [] rfl (.c (.c .v))
 rw [hd4, impl_allWithin_l1] at hH
 have hlt6 := drop_lt hd4
 refine AW.seq (AW.region ?_)
 refine AO.pu T ?_
 refine AO.nil (AW.seq ?_)
 refine AW.condT' (b := decide ((k1 : Int) < (l.length : Int))) rfl (rngT hlt6) ?_
 refine AW.skip ?_
 refine AW.seq ?_
 refine AW.block ?_
 refine AW.seq (AW.region ?_)
 refine AO.val rfl rfl (ix_map_ok T rfl rfl rfl rfl rfl (getI_drop hd4) rfl) ?_
 iterate 2 refine AO.pu T ?_
 refine AO.nil (AW.seq ?_)
 obtain ⟨x12, hx13, hH⟩ := bindE hH
 refine AW.region ?_
 iterate 3 refine AO.pu T ?_
 refine AO.val rfl rfl (callV_ok rfl rfl rfl rfl (impl_within_ok _ _ _ _ (hx13)) rfl) ?_
 refine AO.pu T ?_
 refine AO.nil ?_
 refine AW.cond (b := (!x12)) rfl (fun hc => ?_) (fun hc => ?_)
 replace hH := condT hc hH
 refine AW.seq (AW.region ?_)
 refine AO.pu T ?_
 refine AO.nil (AW.ret ?_)
 cases someE hH
 exact retQ.i [] rfl (.c (.c .v))
 replace hH := condF hc hH
 refine AW.skip ?_
 refine AW.region ?_
 refine AO.val rfl rfl (ar_ok rfl rfl rfl rfl (inI_succ hlt6 hb5)) ?_
 refine AO.pu T ?_
 refine AO.nil ?_
 refine ⟨k1 + 1, ⟨Nat.succ_le_of_lt hlt6, (by rw [drop_succ_of hd4]; exact hH)⟩, (by have := hlt6; dsimp only; omega), ?_⟩
 exact Le.ct 0 0

def impl_areKeys_p (keys : List Int) (most : Int) : Option Bool :=
  (opt (decide ((keys.length : Int) ≤ most)) default (impl_allWithin_p keys 0 1000000000)).bind fun x1 =>
  some (decide ((keys.length : Int) ≤ most) && x1)
theorem impl_areKeys_ok (keys : List Int) (most : Int) (r : Bool) (hH : impl_areKeys_p keys most = some r) : SpecR Tryz.prog 131 [.s (List.map encInt keys), most] (.v (.bool r)) := by
 refine fn_ok T Tryz.func131 rfl (by decide) rfl ?_
 refine AW.seq (AW.region ?_)
 refine AO.pu T ?_
 refine AO.nil (AW.seq ?_)
 obtain ⟨x1, hx2, hH⟩ := bindE hH
 refine AW.region ?_
 refine AO.pu T ?_
 refine AO.val rfl rfl (len_map_ok T rfl rfl rfl) ?_
 iterate 3 refine AO.pu T ?_
 refine AO.pureG T [] rfl trivial rfl rfl ?_
 refine AO.guard [10] rfl ⟨fun h => h, trivial⟩ (fun hg => callV_ok rfl rfl rfl rfl (impl_allWithin_ok _ _ _ _ (optT hx2 hg)) rfl) rfl ?_
 refine AO.val rfl rfl (pick_and rfl rfl rfl rfl) ?_
 refine AO.pu T ?_
 refine AO.nil (AW.ret ?_)
 cases someE hH
 exact retQ.i [] rfl (.c (.c .v))

def impl_isKey_p (key : Int) : Option Bool :=
  (impl_areKeys_p [key] 1).bind fun x1 =>
  some x1
theorem impl_isKey_ok (key : Int) (r : Bool) (hH : impl_isKey_p key = some r) : SpecR Tryz.prog 86 [key] (.v (.bool r)) := by
 refine fn_ok T Tryz.func86 rfl (by decide) rfl ?_
 refine AW.seq (AW.region ?_)
 refine AO.pu T ?_
 refine AO.nil (AW.seq ?_)
 obtain ⟨x1, hx2, hH⟩ := bindE hH
 refine AW.region ?_
 refine AO.pu T ?_
 refine AO.step rfl (mk_map_ok T rfl 1 rfl rfl rfl rfl rfl (f := encInt) (l := [key]) rfl rfl (fun _ => rfl) rfl rfl rfl rfl rfl) ?_
 refine AO.val rfl rfl (callLV_ok rfl rfl rfl (es := [.s (List.map encInt [key]), (1 : Int)]) ⟨(.rowR rfl (.map fun y => .vs rfl)), .free rfl, trivial⟩ (impl_areKeys_ok _ _ _ (hx2)) (zfree_v _) rfl) ?_
 refine AO.pu T ?_
 refine AO.nil (AW.ret ?_)
 cases someE hH
 exact retQ.i [] rfl (.c (.c .v))

def impl_isSkater_p (skater : Int) : Option Bool :=
  (impl_within_p skater 1 999).bind fun x1 =>
  some x1
theorem impl_isSkater_ok (skater : Int) (r : Bool) (hH : impl_isSkater_p skater = some r) : SpecR Tryz.prog 132 [skater] (.v (.bool r)) := by
 refine fn_ok T Tryz.func132 rfl (by decide) rfl ?_
 refine AW.seq (AW.region ?_)
 refine AO.pu T ?_
 refine AO.nil (AW.seq ?_)
 obtain ⟨x1, hx2, hH⟩ := bindE hH
 refine AW.region ?_
 refine AO.pu T ?_
 refine AO.val rfl rfl (callV_ok rfl rfl rfl rfl (impl_within_ok _ _ _ _ (hx2)) rfl) ?_
 refine AO.pu T ?_
 refine AO.nil (AW.ret ?_)
 cases someE hH
 exact retQ.i [] rfl (.c (.c .v))

def slices_Index_int_l1 (v : Int) : List Int → Nat → Option Int
  | [], k1 =>
    some (-1)
  | y2 :: ys3, k1 =>
    cond (v == y2)
      (some (k1 : Int))
      (slices_Index_int_l1 v ys3 (k1 + 1))
def slices_Index_int_p (sA : List Int) (v : Int) : Option Int :=
  slices_Index_int_l1 v sA 0
theorem slices_Index_int_ok (sA : List Int) (v : Int) (r : Int) (hH : slices_Index_int_p sA v = some r) : SpecR Tryz.prog 162 [.s (List.map encInt sA), v] (.v (.int .i64 r)) := by
 refine fn_ok T Tryz.func162 rfl (by decide) rfl ?_
 refine AW.seq (AW.region ?_)
 refine AO.pu T ?_
 refine AO.nil ?_
 iterate 2 refine AW.seq ?_
 refine AW.region ?_
 refine AO.pu T ?_
 refine AO.val rfl rfl (len_map_ok T rfl rfl rfl) ?_
 refine AO.pu T ?_
 refine AO.nil ?_
 refine AW.block ?_
 refine AW.loopS (fun s : Nat => (⟨[(0, .s (List.map encInt sA)), (1, v), (7, (sA.length : Int)), (8, (s : Int))], [], 19, []⟩ : St)) (fun s => s ≤ sA.length ∧ slices_Index_int_l1 v (sA.drop s) s = some r) (fun s => sA.length - s) 0 ⟨Nat.zero_le _, hH⟩ ?_ ?_
 exact Le.ct 0 0
 rintro k1 ⟨hk, hH⟩
 replace hH : slices_Index_int_l1 v (sA.drop k1) k1 = some r := hH
 try dsimp only
 refine AW.boundM (t := 0) (l := sA) rfl (fun hb5 => ?_)
 rcases hd4 : sA.drop k1 with _ | ⟨y2, ys3⟩
 rw [hd4, slices_Index_int_l1] at hH
 have hlt6 := drop_ge hd4
 refine AW.seq (AW.region ?_)
 refine AO.pu T ?_
 refine AO.nil (AW.seq ?_)
 refine AW.condF' (b := decide ((k1 : Int) < (sA.length : Int))) rfl (rngF hlt6) ?_
 refine AW.exit ?_
 refine AW.seq (AW.region ?_)
 refine AO.pu T ?_
 refine AO.nil (AW.ret ?_)
 cases someE hH
 exact retQ.i [] rfl (.c (.c .v))
 rw [hd4, slices_Index_int_l1] at hH
 have hlt6 := drop_lt hd4
 refine AW.seq (AW.region ?_)
 refine AO.pu T ?_
 refine AO.nil (AW.seq ?_)
 refine AW.condT' (b := decide ((k1 : Int) < (sA.length : Int))) rfl (rngT hlt6) ?_
 refine AW.skip ?_
 refine AW.seq ?_
 refine AW.block ?_
 refine AW.seq (AW.region ?_)
 iterate 2 refine AO.pu T ?_
 refine AO.nil (AW.seq ?_)
 refine AW.region ?_
 iterate 3 refine AO.pu T ?_
 refine AO.val rfl rfl (ix_map_ok T rfl rfl rfl rfl rfl (getI_drop hd4) rfl) ?_
 iterate 2 refine AO.pu T ?_
 refine AO.nil ?_
 refine AW.cond (b := (v == y2)) rfl (fun hc => ?_) (fun hc => ?_)
 replace hH := condT hc hH
 refine AW.seq (AW.region ?_)
 iterate 2 refine AO.pu T ?_
 refine AO.nil (AW.ret ?_)
 cases someE hH
 exact retQ.i [] rfl (.c (.c .v))
 replace hH := condF hc hH
 refine AW.skip ?_
 refine AW.region ?_
 refine AO.val rfl rfl (ar_ok rfl rfl rfl rfl (inI_succ hlt6 hb5)) ?_
 refine AO.pu T ?_
 refine AO.nil ?_
 refine ⟨k1 + 1, ⟨Nat.succ_le_of_lt hlt6, (by rw [drop_succ_of hd4]; exact hH)⟩, (by have := hlt6; dsimp only; omega), ?_⟩
 exact Le.ct 0 0

def slices_Contains_int_p (sA : List Int) (v : Int) : Option Bool :=
  (slices_Index_int_p sA v).bind fun x1 =>
  some (decide (x1 ≥ 0))
theorem slices_Contains_int_ok (sA : List Int) (v : Int) (r : Bool) (hH : slices_Contains_int_p sA v = some r) : SpecR Tryz.prog 122 [.s (List.map encInt sA), v] (.v (.bool r)) := by
 refine fn_ok T Tryz.func122 rfl (by decide) rfl ?_
 refine AW.seq (AW.region ?_)
 refine AO.pu T ?_
 refine AO.nil (AW.seq ?_)
 obtain ⟨x1, hx2, hH⟩ := bindE hH
 refine AW.region ?_
 iterate 2 refine AO.pu T ?_
 refine AO.val rfl rfl (callV_ok rfl rfl rfl rfl (slices_Index_int_ok _ _ _ (hx2)) rfl) ?_
 iterate 2 refine AO.pu T ?_
 refine AO.nil (AW.ret ?_)
 cases someE hH
 exact retQ.i [] rfl (.c (.c .v))

def impl_isOrder_l1 (order : List Int) : List Int → Nat → Option Bool
  | [], k1 =>
    some (decide ((order.length : Int) ≤ 40))
  | y2 :: ys3, k1 =>
    (impl_isSkater_p y2).bind fun x20 =>
    (opt (!(!x20)) default (sliceHi order (k1 : Int))).bind fun x22 =>
    (opt (!(!x20)) default (slices_Contains_int_p x22 y2)).bind fun x24 =>
    cond ((!x20) || x24)
      (some false)
      (impl_isOrder_l1 order ys3 (k1 + 1))
def impl_isOrder_p (order : List Int) : Option Bool :=
  impl_isOrder_l1 order order 0
theorem impl_isOrder_ok (order : List Int) (r : Bool) (hH : impl_isOrder_p order = some r) : SpecR Tryz.prog 87 [.s (List.map encInt order)] (.v (.bool r)) := by
 refine fn_ok T Tryz.func87 rfl (by decide) rfl ?_
 refine AW.seq (AW.region ?_)
 refine AO.pu T ?_
 refine AO.nil ?_
 iterate 2 refine AW.seq ?_
 refine AW.region ?_
 refine AO.pu T ?_
 refine AO.val rfl rfl (len_map_ok T rfl rfl rfl) ?_
 refine AO.pu T ?_
 refine AO.nil ?_
 refine AW.block ?_
 refine AW.loopS (fun s : Nat => (⟨[(0, .s (List.map encInt order)), (5, .s (List.map encInt order)), (6, (order.length : Int)), (7, (s : Int))], [], 26, []⟩ : St)) (fun s => s ≤ order.length ∧ impl_isOrder_l1 order (order.drop s) s = some r) (fun s => order.length - s) 0 ⟨Nat.zero_le _, hH⟩ ?_ ?_
 exact Le.ct 0 0
 rintro k1 ⟨hk, hH⟩
 replace hH : impl_isOrder_l1 order (order.drop k1) k1 = some r := hH
 try dsimp only
 refine AW.boundM (t := 0) (l := order) rfl (fun hb5 => ?_)
 rcases hd4 : order.drop k1 with _ | ⟨y2, ys3⟩
 rw [hd4, impl_isOrder_l1] at hH
 have hlt6 := drop_ge hd4
 refine AW.seq (AW.region ?_)
 refine AO.pu T ?_
 refine AO.nil (AW.seq ?_)
 refine AW.condF' (b := decide ((k1 : Int) < (order.length : Int))) rfl (rngF hlt6) ?_
 refine AW.exit ?_
 refine AW.seq (AW.region ?_)
 refine AO.pu T ?_
 refine AO.val rfl rfl (len_map_ok T rfl rfl rfl) ?_
 iterate 2 refine AO.pu T ?_
 refine AO.nil (AW.ret ?_)
 cases someE hH
 exact retQ.i [] rfl (.c (.c .v))
 rw [hd4, impl_isOrder_l1] at hH
 have hlt6 := drop_lt hd4
 refine AW.seq (AW.region ?_)
 refine AO.pu T ?_
 refine AO.nil (AW.seq ?_)
 refine AW.condT' (b := decide ((k1 : Int) < (order.length : Int))) rfl (rngT hlt6) ?_
 refine AW.skip ?_
 refine AW.seq ?_
 refine AW.block ?_
 refine AW.seq (AW.region ?_)
 refine AO.pu T ?_
 refine AO.val rfl rfl (ix_map_ok T rfl rfl rfl rfl rfl (getI_drop hd4) rfl) ?_
 iterate 3 refine AO.pu T ?_
 refine AO.nil (AW.seq ?_)
 obtain ⟨x20, hx21, hH⟩ := bindE hH
 obtain ⟨x22, hx23, hH⟩ := bindE hH
 obtain ⟨x24, hx25, hH⟩ := bindE hH
 refine AW.region ?_
 refine AO.pu T ?_
 refine AO.val rfl rfl (callV_ok rfl rfl rfl rfl (impl_isSkater_ok _ _ (hx21)) rfl) ?_
 iterate 2 refine AO.pu T ?_
 iterate 2 refine AO.pureG T [] rfl trivial rfl rfl ?_
 refine AO.guard [16, 17] rfl ⟨fun h => h, fun h => h, trivial⟩ (fun hg => slice_hi_map_ok T rfl rfl rfl rfl rfl (optT hx23 hg) (fun _ => rfl)) rfl ?_
 refine AO.pureG T [] rfl trivial rfl rfl ?_
 refine AO.guard [18, 19] rfl ⟨fun h => h, fun h => h, trivial⟩ (fun hg => callV_ok rfl rfl rfl rfl (slices_Contains_int_ok _ _ _ (optT hx25 hg)) rfl) rfl ?_
 refine AO.val rfl rfl (pick_or rfl rfl rfl rfl) ?_
 refine AO.nil ?_
 refine AW.cond (b := ((!x20) || x24)) rfl (fun hc => ?_) (fun hc => ?_)
 replace hH := condT hc hH
 refine AW.seq (AW.region ?_)
 refine AO.pu T ?_
 refine AO.nil (AW.ret ?_)
 cases someE hH
 exact retQ.i [] rfl (.c (.c .v))
 replace hH := condF hc hH
 refine AW.skip ?_
 refine AW.region ?_
 refine AO.val rfl rfl (ar_ok rfl rfl rfl rfl (inI_succ hlt6 hb5)) ?_
 refine AO.pu T ?_
 refine AO.nil ?_
 refine ⟨k1 + 1, ⟨Nat.succ_le_of_lt hlt6, (by rw [drop_succ_of hd4]; exact hH)⟩, (by have := hlt6; dsimp only; omega), ?_⟩
 exact Le.ct 0 0

def impl_AreEntrants_l2 (y2 : Entrant) : List Entrant → Nat → Option (Except Bool Unit)
  | [], k80 =>
    some (.ok ())
  | y81 :: ys82, k80 =>
    cond ((y81.skater == y2.skater) || ((y81.rank == y2.rank) && decide (y2.rank > 0)))
      (some (.error false))
      (impl_AreEntrants_l2 y2 ys82 (k80 + 1))
def impl_AreEntrants_l1 (l : List Entrant) : List Entrant → Nat → Option Bool
  | [], k1 =>
    some (decide ((l.length : Int) ≤ 40))
  | y2 :: ys3, k1 =>
    ((impl_isSkater_p y2.skater).bind fun x74 =>
    (opt (!(!x74)) default (impl_within_p y2.rank 0 999)).bind fun x76 =>
    cond ((!x74) || (!x76))
      (some (.error false))
      ((sliceHi l (k1 : Int)).bind fun x78 =>
      impl_AreEntrants_l2 y2 x78 0)).bind fun o72 => flow o72 fun _ =>
    impl_AreEntrants_l1 l ys3 (k1 + 1)
def impl_AreEntrants_p (l : List Entrant) : Option Bool :=
  impl_AreEntrants_l1 l l 0
theorem impl_AreEntrants_ok (l : List Entrant) (r : Bool) (hH : impl_AreEntrants_p l = some r) : SpecR Tryz.prog 96 [.s (List.map encEntrant l)] (.v (.bool r)) := by
 refine fn_ok T Tryz.func96 rfl (by decide) rfl ?_
 refine AW.seq (AW.region ?_)
 refine AO.pu T ?_
 refine AO.nil ?_
 iterate 2 refine AW.seq ?_
 refine AW.region ?_
 refine AO.pu T ?_
 refine AO.val rfl rfl (len_map_ok T rfl rfl rfl) ?_
 refine AO.pu T ?_
 refine AO.nil ?_
 refine AW.block ?_
 refine AW.loopS (fun s : Nat => (⟨[(0, .s (List.map encEntrant l)), (7, .s (List.map encEntrant l)), (8, (l.length : Int)), (9, (s : Int))], [], 54, []⟩ : St)) (fun s => s ≤ l.length ∧ impl_AreEntrants_l1 l (l.drop s) s = some r) (fun s => l.length - s) 0 ⟨Nat.zero_le _, hH⟩ ?_ ?_
 exact Le.ct 0 0
 rintro k1 ⟨hk, hH⟩
 replace hH : impl_AreEntrants_l1 l (l.drop k1) k1 = some r := hH
 try dsimp only
 refine AW.boundM (t := 0) (l := l) rfl (fun hb5 => ?_)
 rcases hd4 : l.drop k1 with _ | ⟨y2, ys3⟩
 rw [hd4, impl_AreEntrants_l1] at hH
 have hlt6 := drop_ge hd4
 refine AW.seq (AW.region ?_)
 refine AO.pu T ?_
 refine AO.nil (AW.seq ?_)
 refine AW.condF' (b := decide ((k1 : Int) < (l.length : Int))) rfl (rngF hlt6) ?_
 refine AW.exit ?_
 refine AW.seq (AW.region ?_)
 refine AO.pu T ?_
 refine AO.val rfl rfl (len_map_ok T rfl rfl rfl) ?_
 iterate 2 refine AO.pu T ?_
 refine AO.nil (AW.ret ?_)
 cases someE hH
 exact retQ.i [] rfl (.c (.c .v))
 rw [hd4, impl_AreEntrants_l1] at hH
 have hlt6 := drop_lt hd4
 refine AW.seq (AW.region ?_)
 refine AO.pu T ?_
 refine AO.nil (AW.seq ?_)
 refine AW.condT' (b := decide ((k1 : Int) < (l.length : Int))) rfl (rngT hlt6) ?_
 refine AW.skip ?_
 obtain ⟨o72, hH, hK73⟩ := bindE hH
 refine AW.seqJ (fun s : Unit => (⟨[(0, .s (List.map encEntrant l)), (7, .s (List.map encEntrant l)), (8, (l.length : Int)), (9, (k1 : Int))], [], 54, []⟩ : St)) (fun s => .ok s = o72) ?_ ?_
 refine AW.block ?_
 refine AW.seq (AW.region ?_)
 refine AO.pu T ?_
 refine AO.val rfl rfl (ix_map_ok T rfl rfl rfl rfl rfl (getI_drop hd4) rfl) ?_
 refine AO.pu T (d := .g [y2.skater, y2.rank]) ?_
 refine AO.step rfl (alloc_ok T rfl 21 rfl rfl rfl rfl rfl) ?_
 refine AO.pu T ?_
 refine AO.se T [y2.skater, y2.rank] ?_
 refine AO.nil ?_
 iterate 2 refine AW.seq ?_
 obtain ⟨x74, hx75, hH⟩ := bindE hH
 obtain ⟨x76, hx77, hH⟩ := bindE hH
 refine AW.region ?_
 iterate 2 refine AO.pu T ?_
 refine AO.val rfl rfl (callV_ok rfl rfl rfl rfl (impl_isSkater_ok _ _ (hx75)) rfl) ?_
 iterate 2 refine AO.pu T ?_
 refine AO.pureG T [] rfl trivial rfl rfl ?_
 refine AO.pureG T [19] rfl ⟨fun h => h, trivial⟩ rfl rfl ?_
 refine AO.guard [20] rfl ⟨fun h => h, trivial⟩ (fun hg => callV_ok rfl rfl rfl rfl (impl_within_ok _ _ _ _ (optT hx77 hg)) rfl) rfl ?_
 refine AO.pureG T [21] rfl ⟨fun h => h, trivial⟩ rfl rfl ?_
 refine AO.val rfl rfl (pick_or rfl rfl rfl rfl) ?_
 refine AO.nil ?_
 refine AW.cond (b := ((!x74) || (!x76))) rfl (fun hc => ?_) (fun hc => ?_)
 replace hH := condT hc hH
 refine AW.seq (AW.region ?_)
 refine AO.pu T ?_
 refine AO.nil (AW.ret ?_)
 obtain rfl := someE hH
 replace hH := hK73
 cases someE hH
 exact retQ.i [] rfl (.c (.c .v))
 replace hH := condF hc hH
 refine AW.skip ?_
 refine AW.seq ?_
 obtain ⟨x78, hx79, hH⟩ := bindE hH
 refine AW.region ?_
 iterate 2 refine AO.pu T ?_
 refine AO.val rfl rfl (slice_hi_map_ok T rfl rfl rfl rfl rfl (hx79) (fun _ => rfl)) ?_
 refine AO.val rfl rfl (len_map_ok T rfl rfl rfl) ?_
 refine AO.pu T ?_
 refine AO.nil ?_
 refine AW.block ?_
 refine AW.loopS (fun s : Nat => (⟨[(0, .s (List.map encEntrant l)), (4, .p 21 0), (7, .s (List.map encEntrant l)), (8, (l.length : Int)), (9, (k1 : Int)), (26, .s (List.map encEntrant x78)), (27, (x78.length : Int)), (28, (s : Int))], [(21, .box [y2.skater, y2.rank])], 54, []⟩ : St)) (fun s => s ≤ x78.length ∧ impl_AreEntrants_l2 y2 (x78.drop s) s = some o72) (fun s => x78.length - s) 0 ⟨Nat.zero_le _, hH⟩ ?_ ?_
 exact Le.ct 0 0
 rintro k80 ⟨hk, hH⟩
 replace hH : impl_AreEntrants_l2 y2 (x78.drop k80) k80 = some o72 := hH
 try dsimp only
 refine AW.boundM (t := 26) (l := x78) rfl (fun hb84 => ?_)
 rcases hd83 : x78.drop k80 with _ | ⟨y81, ys82⟩
 rw [hd83, impl_AreEntrants_l2] at hH
 have hlt85 := drop_ge hd83
 refine AW.seq (AW.region ?_)
 refine AO.pu T ?_
 refine AO.nil (AW.seq ?_)
 refine AW.condF' (b := decide ((k80 : Int) < (x78.length : Int))) rfl (rngF hlt85) ?_
 refine AW.exit ?_
 refine ⟨_, someE hH, ?_⟩
 exact Le.ct 0 0
 rw [hd83, impl_AreEntrants_l2] at hH
 have hlt85 := drop_lt hd83
 refine AW.seq (AW.region ?_)
 refine AO.pu T ?_
 refine AO.nil (AW.seq ?_)
 refine AW.condT' (b := decide ((k80 : Int) < (x78.length : Int))) rfl (rngT hlt85) ?_
 refine AW.skip ?_
 refine AW.seq ?_
 refine AW.block ?_
 refine AW.seq (AW.region ?_)
 refine AO.val rfl rfl (ix_map_ok T rfl rfl rfl rfl rfl (getI_drop hd83) rfl) ?_
 refine AO.pu T (d := .g [y81.skater, y81.rank]) ?_
 refine AO.step rfl (alloc_ok T rfl 24 rfl rfl rfl rfl rfl) ?_
 refine AO.se T [y81.skater, y81.rank] ?_
 refine AO.nil (AW.seq ?_)
 refine AW.region ?_
 iterate 6 refine AO.pu T ?_
 refine AO.pureG T [] rfl trivial rfl rfl ?_
 refine AO.pureG T [38] rfl ⟨fun h => h, trivial⟩ rfl rfl ?_
 refine AO.pureG T [] rfl trivial rfl rfl ?_
 refine AO.pureG T [40] rfl ⟨fun h => h, trivial⟩ rfl rfl ?_
 refine AO.pureG T [39, 41] rfl ⟨fun h => h, fun h => h, trivial⟩ rfl rfl ?_
 refine AO.pureG T [42] rfl ⟨fun h => h, trivial⟩ rfl rfl ?_
 refine AO.pureG T [] rfl trivial rfl rfl ?_
 refine AO.pureG T [44] rfl ⟨fun h => h, trivial⟩ rfl rfl ?_
 refine AO.pureG T [45] rfl ⟨fun h => h, trivial⟩ rfl rfl ?_
 refine AO.guard [43] rfl ⟨fun h => h, trivial⟩ (fun hg => pick_and rfl rfl rfl (by rw [hg]; exact Bool.true_and _)) rfl ?_
 refine AO.val rfl rfl (pick_or rfl rfl rfl rfl) ?_
 refine AO.nil ?_
 refine AW.cond (b := ((y81.skater == y2.skater) || ((y81.rank == y2.rank) && decide (y2.rank > 0)))) rfl (fun hc => ?_) (fun hc => ?_)
 replace hH := condT hc hH
 refine AW.seq (AW.region ?_)
 refine AO.pu T ?_
 refine AO.nil (AW.ret ?_)
 obtain rfl := someE hH
 replace hH := hK73
 cases someE hH
 exact retQ.i [] rfl (.c (.c .v))
 replace hH := condF hc hH
 refine AW.skip ?_
 refine AW.region ?_
 refine AO.val rfl rfl (ar_ok rfl rfl rfl rfl (inI_succ hlt85 hb84)) ?_
 refine AO.pu T ?_
 refine AO.nil ?_
 refine ⟨k80 + 1, ⟨Nat.succ_le_of_lt hlt85, (by rw [drop_succ_of hd83]; exact hH)⟩, (by have := hlt85; dsimp only; omega), ?_⟩
 exact Le.ct 0 0
 rintro _ hs
 subst hs
 replace hH := hK73
 try dsimp only [flow, flowE] at hH
 try dsimp only
 refine AW.region ?_
 refine AO.val rfl rfl (ar_ok rfl rfl rfl rfl (inI_succ hlt6 hb5)) ?_
 refine AO.pu T ?_
 refine AO.nil ?_
 refine ⟨k1 + 1, ⟨Nat.succ_le_of_lt hlt6, (by rw [drop_succ_of hd4]; exact hH)⟩, (by have := hlt6; dsimp only; omega), ?_⟩
 exact Le.ct 0 0

def impl_isIncreasing_l1 (l : List Int) (n : Int) : List Int → Nat → Option Bool
  | [], k1 =>
    some true
  | y2 :: ys3, k1 =>
    (impl_within_p y2 0 (w64 (n - 1))).bind fun x16 =>
    (opt ((!(!x16)) && decide ((k1 : Int) > 0)) default (getI l (w64 ((k1 : Int) - 1)))).bind fun x18 =>
    cond ((!x16) || (decide ((k1 : Int) > 0) && decide (x18 ≥ y2)))
      (some false)
      (impl_isIncreasing_l1 l n ys3 (k1 + 1))
def impl_isIncreasing_p (l : List Int) (n : Int) : Option Bool :=
  impl_isIncreasing_l1 l n l 0
theorem impl_isIncreasing_ok (l : List Int) (n : Int) (r : Bool) (hH : impl_isIncreasing_p l n = some r) : SpecR Tryz.prog 133 [.s (List.map encInt l), n] (.v (.bool r)) := by
 refine fn_ok T Tryz.func133 rfl (by decide) rfl ?_
 refine AW.seq (AW.region ?_)
 refine AO.pu T ?_
 refine AO.nil ?_
 iterate 2 refine AW.seq ?_
 refine AW.region ?_
 refine AO.pu T ?_
 refine AO.val rfl rfl (len_map_ok T rfl rfl rfl) ?_
 refine AO.pu T ?_
 refine AO.nil ?_
 refine AW.block ?_
 refine AW.loopS (fun s : Nat => (⟨[(0, .s (List.map encInt l)), (1, n), (7, .s (List.map encInt l)), (8, (l.length : Int)), (9, (s : Int))], [], 33, []⟩ : St)) (fun s => s ≤ l.length ∧ impl_isIncreasing_l1 l n (l.drop s) s = some r) (fun s => l.length - s) 0 ⟨Nat.zero_le _, hH⟩ ?_ ?_
 exact Le.ct 0 0
 rintro k1 ⟨hk, hH⟩
 replace hH : impl_isIncreasing_l1 l n (l.drop k1) k1 = some r := hH
 try dsimp only
 refine AW.boundM (t := 0) (l := l) rfl (fun hb5 => ?_)
 rcases hd4 : l.drop k1 with _ | ⟨y2, ys3⟩
 rw [hd4, impl_isIncreasing_l1] at hH
 have hlt6 := drop_ge hd4
 refine AW.seq (AW.region ?_)
 refine AO.pu T ?_
 refine AO.nil (AW.seq ?_)
 refine AW.condF' (b := decide ((k1 : Int) < (l.length : Int))) rfl (rngF hlt6) ?_
 refine AW.exit ?_
 refine AW.seq (AW.region ?_)
 refine AO.pu T ?_
 refine AO.nil (AW.ret ?_)
 cases someE hH
 exact retQ.i [] rfl (.c (.c .v))
 rw [hd4, impl_isIncreasing_l1] at hH
 have hlt6 := drop_lt hd4
 refine AW.seq (AW.region ?_)
 refine AO.pu T ?_
 refine AO.nil (AW.seq ?_)
 refine AW.condT' (b := decide ((k1 : Int) < (l.length : Int))) rfl (rngT hlt6) ?_
 refine AW.skip ?_
 refine AW.seq ?_
 refine AW.block ?_
 refine AW.seq (AW.region ?_)
 refine AO.pu T ?_
 refine AO.val rfl rfl (ix_map_ok T rfl rfl rfl rfl rfl (getI_drop hd4) rfl) ?_
 iterate 3 refine AO.pu T ?_
 refine AO.nil (AW.seq ?_)
 obtain ⟨x16, hx17, hH⟩ := bindE hH
 obtain ⟨x18, hx19, hH⟩ := bindE hH
 refine AW.region ?_
 iterate 2 refine AO.pu T ?_
 refine AO.val rfl rfl (arw_ok rfl rfl rfl rfl) ?_
 refine AO.val rfl rfl (callV_ok rfl rfl rfl rfl (impl_within_ok _ _ _ _ (hx17)) rfl) ?_
 iterate 2 refine AO.pu T ?_
 refine AO.pureG T [] rfl trivial rfl rfl ?_
 refine AO.pureG T [20] rfl ⟨fun h => h, trivial⟩ rfl rfl ?_
 refine AO.pureG T [21] rfl ⟨fun h => h, trivial⟩ rfl rfl ?_
 iterate 2 refine AO.pureG T [] rfl trivial rfl rfl ?_
 refine AO.guard [24] rfl ⟨fun h => h, trivial⟩ (fun hg => arw_ok rfl rfl rfl rfl) rfl ?_
 refine AO.guard [23, 25] rfl ⟨fun h => h, fun h => h, trivial⟩ (fun hg => ix_map_ok T rfl rfl rfl rfl rfl (optT hx19 hg) rfl) rfl ?_
 refine AO.pureG T [26] rfl ⟨fun h => h, trivial⟩ rfl rfl ?_
 refine AO.pureG T [] rfl trivial rfl rfl ?_
 refine AO.pureG T [27, 28] rfl ⟨fun h => h, fun h => h, trivial⟩ rfl rfl ?_
 refine AO.guard [22] rfl ⟨fun h => h, trivial⟩ (fun hg => pick_and rfl rfl rfl (by rw [hg]; exact Bool.true_and _)) rfl ?_
 refine AO.val rfl rfl (pick_or rfl rfl rfl rfl) ?_
 refine AO.nil ?_
 refine AW.le (Le.ct 0 0 (σ' := (⟨[(0, .s (List.map encInt l)), (1, n), (7, .s (List.map encInt l)), (8, (l.length : Int)), (9, (k1 : Int)), (31, .v (.bool ((!x16) || (decide ((k1 : Int) > 0) && decide (x18 ≥ y2)))))], [], 33, []⟩ : St))) ?_
 refine AW.cond (b := ((!x16) || (decide ((k1 : Int) > 0) && decide (x18 ≥ y2)))) rfl (fun hc => ?_) (fun hc => ?_)
 replace hH := condT hc hH
 refine AW.seq (AW.region ?_)
 refine AO.pu T ?_
 refine AO.nil (AW.ret ?_)
 cases someE hH
 exact retQ.i [] rfl (.c (.c .v))
 replace hH := condF hc hH
 refine AW.skip ?_
 refine AW.region ?_
 refine AO.val rfl rfl (ar_ok rfl rfl rfl rfl (inI_succ hlt6 hb5)) ?_
 refine AO.pu T ?_
 refine AO.nil ?_
 refine ⟨k1 + 1, ⟨Nat.succ_le_of_lt hlt6, (by rw [drop_succ_of hd4]; exact hH)⟩, (by have := hlt6; dsimp only; omega), ?_⟩
 exact Le.ct 0 0

def impl_isResult_l1 (rA : Result) : List Int → Nat → Option Bool
  | [], k1 =>
    (impl_isSkater_p rA.skater).bind fun x16 =>
    (opt x16 default (impl_within_p (rA.scores.length : Int) 1 3)).bind fun x18 =>
    some (x16 && x18)
  | y2 :: ys3, k1 =>
    (impl_within_p y2 (-1) 100000).bind fun x20 =>
    (opt ((!(!x20)) && decide ((k1 : Int) > 0)) default (getI rA.scores (w64 ((k1 : Int) - 1)))).bind fun x22 =>
    cond ((!x20) || ((decide ((k1 : Int) > 0) && decide (x22 < 0)) && decide (y2 ≥ 0)))
      (some false)
      (impl_isResult_l1 rA ys3 (k1 + 1))
def impl_isResult_p (rA : Result) : Option Bool :=
  impl_isResult_l1 rA rA.scores 0
theorem impl_isResult_ok (rA : Result) (r : Bool) (hH : impl_isResult_p rA = some r) : SpecR Tryz.prog 150 [.g (encResult rA)] (.v (.bool r)) := by
 refine fn_ok T Tryz.func150 rfl (by decide) rfl ?_
 refine AW.seq (AW.region ?_)
 refine AO.step rfl (box_ok T rfl 1 rfl rfl rfl rfl) ?_
 refine AO.pu T ?_
 refine AO.nil ?_
 iterate 2 refine AW.seq ?_
 refine AW.region ?_
 iterate 2 refine AO.pu T ?_
 refine AO.val rfl rfl (len_map_ok T rfl rfl rfl) ?_
 refine AO.pu T ?_
 refine AO.nil ?_
 refine AW.block ?_
 refine AW.loopS (fun s : Nat => (⟨[(1, .p 1 0), (6, .s (List.map encInt rA.scores)), (7, (rA.scores.length : Int)), (8, (s : Int))], [(1, .box [rA.skater, .s (List.map encInt rA.scores)])], 43, []⟩ : St)) (fun s => s ≤ rA.scores.length ∧ impl_isResult_l1 rA (rA.scores.drop s) s = some r) (fun s => rA.scores.length - s) 0 ⟨Nat.zero_le _, hH⟩ ?_ ?_
 exact Le.ct 0 0
 rintro k1 ⟨hk, hH⟩
 replace hH : impl_isResult_l1 rA (rA.scores.drop k1) k1 = some r := hH
 try dsimp only
 refine AW.boundM (t := 6) (l := rA.scores) rfl (fun hb5 => ?_)
 rcases hd4 : rA.scores.drop k1 with _ | ⟨y2, ys3⟩
 rw [hd4, impl_isResult_l1] at hH
 have hlt6 := drop_ge hd4
 refine AW.seq (AW.region ?_)
 refine AO.pu T ?_
 refine AO.nil (AW.seq ?_)
 refine AW.condF' (b := decide ((k1 : Int) < (rA.scores.length : Int))) rfl (rngF hlt6) ?_
 refine AW.exit ?_
 refine AW.seq ?_
 obtain ⟨x16, hx17, hH⟩ := bindE hH
 obtain ⟨x18, hx19, hH⟩ := bindE hH
 refine AW.region ?_
 iterate 2 refine AO.pu T ?_
 refine AO.val rfl rfl (callV_ok rfl rfl rfl rfl (impl_isSkater_ok _ _ (hx17)) rfl) ?_
 refine AO.pu T ?_
 refine AO.pureG T [] rfl trivial rfl rfl ?_
 refine AO.pureG T [38] rfl ⟨fun h => h, trivial⟩ rfl rfl ?_
 refine AO.guard [39] rfl ⟨fun h => h, trivial⟩ (fun hg => len_map_ok T rfl rfl rfl) rfl ?_
 refine AO.guard [40] rfl ⟨fun h => h, trivial⟩ (fun hg => callV_ok rfl rfl rfl rfl (impl_within_ok _ _ _ _ (optT hx19 hg)) rfl) rfl ?_
 refine AO.val rfl rfl (pick_and rfl rfl rfl rfl) ?_
 refine AO.pu T ?_
 refine AO.nil (AW.ret ?_)
 cases someE hH
 exact retQ.i [] rfl (.c (.c .v))
 rw [hd4, impl_isResult_l1] at hH
 have hlt6 := drop_lt hd4
 refine AW.seq (AW.region ?_)
 refine AO.pu T ?_
 refine AO.nil (AW.seq ?_)
 refine AW.condT' (b := decide ((k1 : Int) < (rA.scores.length : Int))) rfl (rngT hlt6) ?_
 refine AW.skip ?_
 refine AW.seq ?_
 refine AW.block ?_
 refine AW.seq (AW.region ?_)
 refine AO.pu T ?_
 refine AO.val rfl rfl (ix_map_ok T rfl rfl rfl rfl rfl (getI_drop hd4) rfl) ?_
 iterate 3 refine AO.pu T ?_
 refine AO.nil (AW.seq ?_)
 obtain ⟨x20, hx21, hH⟩ := bindE hH
 obtain ⟨x22, hx23, hH⟩ := bindE hH
 refine AW.region ?_
 refine AO.pu T ?_
 refine AO.val rfl rfl (callV_ok rfl rfl rfl rfl (impl_within_ok _ _ _ _ (hx21)) rfl) ?_
 iterate 2 refine AO.pu T ?_
 refine AO.pureG T [] rfl trivial rfl rfl ?_
 refine AO.pureG T [17] rfl ⟨fun h => h, trivial⟩ rfl rfl ?_
 refine AO.pureG T [18] rfl ⟨fun h => h, trivial⟩ rfl rfl ?_
 refine AO.pureG T [] rfl trivial rfl rfl ?_
 refine AO.pureG T [20] rfl ⟨fun h => h, trivial⟩ rfl rfl ?_
 refine AO.pureG T [] rfl trivial rfl rfl ?_
 refine AO.guard [22] rfl ⟨fun h => h, trivial⟩ (fun hg => arw_ok rfl rfl rfl rfl) rfl ?_
 refine AO.guard [21, 23] rfl ⟨fun h => h, fun h => h, trivial⟩ (fun hg => ix_map_ok T rfl rfl rfl rfl rfl (optT hx23 hg) rfl) rfl ?_
 refine AO.pureG T [24] rfl ⟨fun h => h, trivial⟩ rfl rfl ?_
 refine AO.pureG T [25] rfl ⟨fun h => h, trivial⟩ rfl rfl ?_
 refine AO.guard [19] rfl ⟨fun h => h, trivial⟩ (fun hg => pick_and rfl rfl rfl (by rw [hg]; exact Bool.true_and _)) rfl ?_
 refine AO.pureG T [27] rfl ⟨fun h => h, trivial⟩ rfl rfl ?_
 refine AO.pureG T [] rfl trivial rfl rfl ?_
 refine AO.pureG T [29] rfl ⟨fun h => h, trivial⟩ rfl rfl ?_
 refine AO.guard [28] rfl ⟨fun h => h, trivial⟩ (fun hg => pick_and rfl rfl rfl (by rw [hg]; exact Bool.true_and _)) rfl ?_
 refine AO.val rfl rfl (pick_or rfl rfl rfl rfl) ?_
 refine AO.nil ?_
 refine AW.le (Le.ct 0 0 (σ' := (⟨[(1, .p 1 0), (6, .s (List.map encInt rA.scores)), (7, (rA.scores.length : Int)), (8, (k1 : Int)), (32, .v (.bool ((!x20) || ((decide ((k1 : Int) > 0) && decide (x22 < 0)) && decide (y2 ≥ 0)))))], [(1, .box [rA.skater, .s (List.map encInt rA.scores)])], 43, []⟩ : St))) ?_
 refine AW.cond (b := ((!x20) || ((decide ((k1 : Int) > 0) && decide (x22 < 0)) && decide (y2 ≥ 0)))) rfl (fun hc => ?_) (fun hc => ?_)
 replace hH := condT hc hH
 refine AW.seq (AW.region ?_)
 refine AO.pu T ?_
 refine AO.nil (AW.ret ?_)
 cases someE hH
 exact retQ.i [] rfl (.c (.c .v))
 replace hH := condF hc hH
 refine AW.skip ?_
 refine AW.region ?_
 refine AO.val rfl rfl (ar_ok rfl rfl rfl rfl (inI_succ hlt6 hb5)) ?_
 refine AO.pu T ?_
 refine AO.nil ?_
 refine ⟨k1 + 1, ⟨Nat.succ_le_of_lt hlt6, (by rw [drop_succ_of hd4]; exact hH)⟩, (by have := hlt6; dsimp only; omega), ?_⟩
 exact Le.ct 0 0

def impl_AreResults_l2 (y2 : Result) : List Result → Nat → Option (Except Bool Unit)
  | [], k80 =>
    some (.ok ())
  | y81 :: ys82, k80 =>
    cond (y81.skater == y2.skater)
      (some (.error false))
      (impl_AreResults_l2 y2 ys82 (k80 + 1))
def impl_AreResults_l1 (l : List Result) : List Result → Nat → Option Bool
  | [], k1 =>
    some (decide ((l.length : Int) ≤ 40))
  | y2 :: ys3, k1 =>
    ((impl_isResult_p y2).bind fun x74 =>
    (opt (!(!x74)) default (getI l 0)).bind fun x76 =>
    cond ((!x74) || ((y2.scores.length : Int) != (x76.scores.length : Int)))
      (some (.error false))
      ((sliceHi l (k1 : Int)).bind fun x78 =>
      impl_AreResults_l2 y2 x78 0)).bind fun o72 => flow o72 fun _ =>
    impl_AreResults_l1 l ys3 (k1 + 1)
def impl_AreResults_p (l : List Result) : Option Bool :=
  impl_AreResults_l1 l l 0
theorem impl_AreResults_ok (l : List Result) (r : Bool) (hH : impl_AreResults_p l = some r) : SpecR Tryz.prog 106 [.s (List.map encResult l)] (.v (.bool r)) := by
 refine fn_ok T Tryz.func106 rfl (by decide) rfl ?_
 refine AW.seq (AW.region ?_)
 refine AO.pu T ?_
 refine AO.nil ?_
 iterate 2 refine AW.seq ?_
 refine AW.region ?_
 refine AO.pu T ?_
 refine AO.val rfl rfl (len_map_ok T rfl rfl rfl) ?_
 refine AO.pu T ?_
 refine AO.nil ?_
 refine AW.block ?_
 refine AW.loopS (fun s : Nat => (⟨[(0, .s (List.map encResult l)), (7, .s (List.map encResult l)), (8, (l.length : Int)), (9, (s : Int))], [], 46, []⟩ : St)) (fun s => s ≤ l.length ∧ impl_AreResults_l1 l (l.drop s) s = some r) (fun s => l.length - s) 0 ⟨Nat.zero_le _, hH⟩ ?_ ?_
 exact Le.ct 0 0
 rintro k1 ⟨hk, hH⟩
 replace hH : impl_AreResults_l1 l (l.drop k1) k1 = some r := hH
 try dsimp only
 refine AW.boundM (t := 0) (l := l) rfl (fun hb5 => ?_)
 rcases hd4 : l.drop k1 with _ | ⟨y2, ys3⟩
 rw [hd4, impl_AreResults_l1] at hH
 have hlt6 := drop_ge hd4
 refine AW.seq (AW.region ?_)
 refine AO.pu T ?_
 refine AO.nil (AW.seq ?_)
 refine AW.condF' (b := decide ((k1 : Int) < (l.length : Int))) rfl (rngF hlt6) ?_
 refine AW.exit ?_
 refine AW.seq (AW.region ?_)
 refine AO.pu T ?_
 refine AO.val rfl rfl (len_map_ok T rfl rfl rfl) ?_
 iterate 2 refine AO.pu T ?_
 refine AO.nil (AW.ret ?_)
 cases someE hH
 exact retQ.i [] rfl (.c (.c .v))
 rw [hd4, impl_AreResults_l1] at hH
 have hlt6 := drop_lt hd4
 refine AW.seq (AW.region ?_)
 refine AO.pu T ?_
 refine AO.nil (AW.seq ?_)
 refine AW.condT' (b := decide ((k1 : Int) < (l.length : Int))) rfl (rngT hlt6) ?_
 refine AW.skip ?_
 obtain ⟨o72, hH, hK73⟩ := bindE hH
 refine AW.seqJ (fun s : Unit => (⟨[(0, .s (List.map encResult l)), (7, .s (List.map encResult l)), (8, (l.length : Int)), (9, (k1 : Int))], [], 46, []⟩ : St)) (fun s => .ok s = o72) ?_ ?_
 refine AW.block ?_
 refine AW.seq (AW.region ?_)
 refine AO.pu T ?_
 refine AO.val rfl rfl (ix_map_ok T rfl rfl rfl rfl rfl (getI_drop hd4) rfl) ?_
 refine AO.pu T (d := .g [y2.skater, .s (List.map encInt y2.scores)]) ?_
 refine AO.step rfl (alloc_ok T rfl 21 rfl rfl rfl rfl rfl) ?_
 refine AO.pu T ?_
 refine AO.se T [y2.skater, .s (List.map encInt y2.scores)] ?_
 refine AO.nil ?_
 iterate 2 refine AW.seq ?_
 obtain ⟨x74, hx75, hH⟩ := bindE hH
 obtain ⟨x76, hx77, hH⟩ := bindE hH
 refine AW.drawn 12 22 [] mix (by kernel_rfl) rfl ?_
 refine AD.pure T (d := .g [y2.skater, .s (List.map encInt y2.scores)]) rfl rfl rfl ?_
 refine AD.val rfl rfl (callV_ok rfl rfl rfl rfl (impl_isResult_ok _ _ (hx75)) rfl) ?_
 iterate 2 refine AD.pure T rfl rfl rfl ?_
 refine AD.pureG T [] rfl trivial rfl rfl ?_
 refine AD.pureG T [18] rfl ⟨fun h => h, trivial⟩ rfl rfl ?_
 refine AD.guard [19] rfl ⟨fun h => h, trivial⟩ (fun hg => len_map_ok T rfl rfl rfl) rfl ?_
 refine AD.pureG T [] rfl trivial rfl rfl ?_
 refine AD.guard [21] rfl ⟨fun h => h, trivial⟩ (fun hg => ix_map_ok T rfl rfl rfl rfl rfl (optT hx77 hg) rfl) rfl ?_
 refine AD.pureG T [22] rfl ⟨fun h => h, trivial⟩ rfl rfl ?_
 refine AD.pureG T [23] rfl ⟨fun h => h, trivial⟩ rfl rfl ?_
 refine AD.guard [24] rfl ⟨fun h => h, trivial⟩ (fun hg => len_map_ok T rfl rfl rfl) rfl ?_
 refine AD.nil ?_
 refine AO.pureG T [20, 25] rfl ⟨fun h => h, fun h => h, trivial⟩ rfl rfl ?_
 refine AO.val rfl rfl (pick_or rfl rfl rfl rfl) ?_
 refine AO.nil ?_
 refine AW.cond (b := ((!x74) || ((y2.scores.length : Int) != (x76.scores.length : Int)))) rfl (fun hc => ?_) (fun hc => ?_)
 replace hH := condT hc hH
 refine AW.seq (AW.region ?_)
 refine AO.pu T ?_
 refine AO.nil (AW.ret ?_)
 obtain rfl := someE hH
 replace hH := hK73
 cases someE hH
 exact retQ.i [] rfl (.c (.c .v))
 replace hH := condF hc hH
 refine AW.skip ?_
 refine AW.seq ?_
 obtain ⟨x78, hx79, hH⟩ := bindE hH
 refine AW.region ?_
 iterate 2 refine AO.pu T ?_
 refine AO.val rfl rfl (slice_hi_map_ok T rfl rfl rfl rfl rfl (hx79) (fun _ => rfl)) ?_
 refine AO.val rfl rfl (len_map_ok T rfl rfl rfl) ?_
 refine AO.pu T ?_
 refine AO.nil ?_
 refine AW.le (Le.ct 0 0 (σ' := (⟨[(0, .s (List.map encResult l)), (4, .p 21 0), (7, .s (List.map encResult l)), (8, (l.length : Int)), (9, (k1 : Int)), (30, .s (List.map encResult x78)), (31, (x78.length : Int)), (32, (0 : Int))], [(21, .box [y2.skater, .s (List.map encInt y2.scores)])], 46, []⟩ : St))) ?_
 refine AW.block ?_
 refine AW.loopS (fun s : Nat => (⟨[(0, .s (List.map encResult l)), (4, .p 21 0), (7, .s (List.map encResult l)), (8, (l.length : Int)), (9, (k1 : Int)), (30, .s (List.map encResult x78)), (31, (x78.length : Int)), (32, (s : Int))], [(21, .box [y2.skater, .s (List.map encInt y2.scores)])], 46, []⟩ : St)) (fun s => s ≤ x78.length ∧ impl_AreResults_l2 y2 (x78.drop s) s = some o72) (fun s => x78.length - s) 0 ⟨Nat.zero_le _, hH⟩ ?_ ?_
 exact Le.ct 0 0
 rintro k80 ⟨hk, hH⟩
 replace hH : impl_AreResults_l2 y2 (x78.drop k80) k80 = some o72 := hH
 try dsimp only
 refine AW.boundM (t := 30) (l := x78) rfl (fun hb84 => ?_)
 rcases hd83 : x78.drop k80 with _ | ⟨y81, ys82⟩
 rw [hd83, impl_AreResults_l2] at hH
 have hlt85 := drop_ge hd83
 refine AW.seq (AW.region ?_)
 refine AO.pu T ?_
 refine AO.nil (AW.seq ?_)
 refine AW.condF' (b := decide ((k80 : Int) < (x78.length : Int))) rfl (rngF hlt85) ?_
 refine AW.exit ?_
 refine ⟨_, someE hH, ?_⟩
 exact Le.ct 0 0
 rw [hd83, impl_AreResults_l2] at hH
 have hlt85 := drop_lt hd83
 refine AW.seq (AW.region ?_)
 refine AO.pu T ?_
 refine AO.nil (AW.seq ?_)
 refine AW.condT' (b := decide ((k80 : Int) < (x78.length : Int))) rfl (rngT hlt85) ?_
 refine AW.skip ?_
 refine AW.seq ?_
 refine AW.block ?_
 refine AW.seq (AW.region ?_)
 refine AO.val rfl rfl (ix_map_ok T rfl rfl rfl rfl rfl (getI_drop hd83) rfl) ?_
 refine AO.pu T (d := .g [y81.skater, .s (List.map encInt y81.scores)]) ?_
 refine AO.step rfl (alloc_ok T rfl 24 rfl rfl rfl rfl rfl) ?_
 refine AO.se T [y81.skater, .s (List.map encInt y81.scores)] ?_
 refine AO.nil (AW.seq ?_)
 refine AW.region ?_
 iterate 5 refine AO.pu T ?_
 refine AO.nil ?_
 refine AW.cond (b := (y81.skater == y2.skater)) rfl (fun hc => ?_) (fun hc => ?_)
 replace hH := condT hc hH
 refine AW.seq (AW.region ?_)
 refine AO.pu T ?_
 refine AO.nil (AW.ret ?_)
 obtain rfl := someE hH
 replace hH := hK73
 cases someE hH
 exact retQ.i [] rfl (.c (.c .v))
 replace hH := condF hc hH
 refine AW.skip ?_
 refine AW.region ?_
 refine AO.val rfl rfl (ar_ok rfl rfl rfl rfl (inI_succ hlt85 hb84)) ?_
 refine AO.pu T ?_
 refine AO.nil ?_
 refine ⟨k80 + 1, ⟨Nat.succ_le_of_lt hlt85, (by rw [drop_succ_of hd83]; exact hH)⟩, (by have := hlt85; dsimp only; omega), ?_⟩
 exact Le.ct 0 0
 rintro _ hs
 subst hs
 replace hH := hK73
 try dsimp only [flow, flowE] at hH
 try dsimp only
 refine AW.region ?_
 refine AO.val rfl rfl (ar_ok rfl rfl rfl rfl (inI_succ hlt6 hb5)) ?_
 refine AO.pu T ?_
 refine AO.nil ?_
 refine ⟨k1 + 1, ⟨Nat.succ_le_of_lt hlt6, (by rw [drop_succ_of hd4]; exact hH)⟩, (by have := hlt6; dsimp only; omega), ?_⟩
 exact Le.ct 0 0

def impl_without_l1 (other : List Int) : List Int → Nat → List Int → Option ((List Int))
  | [], k1, v16 =>
    some v16
  | y2 :: ys3, k1, v16 =>
    (slices_Contains_int_p other y2).bind fun x18 =>
    cond (!x18)
      ((need (fitsB 8 (v16.length + ([y2]).length))).bind fun u20 =>
      impl_without_l1 other ys3 (k1 + 1) (v16 ++ [y2]))
      (impl_without_l1 other ys3 (k1 + 1) v16)
def impl_without_p (l : List Int) (other : List Int) : Option (List Int) :=
  impl_without_l1 other l 0 []
theorem impl_without_ok (l : List Int) (other : List Int) (r : (List Int)) (hH : impl_without_p l other = some r) : SpecR Tryz.prog 99 [.s (List.map encInt l), .s (List.map encInt other)] (.w 1 (r.map encInt)) := by
 refine fn_ok T Tryz.func99 rfl (by decide) rfl ?_
 refine AW.seq (AW.region ?_)
 refine AO.pu T ?_
 refine AO.nil (AW.seq ?_)
 refine AW.region ?_
 refine AO.step rfl (mk0_ok T rfl rfl rfl rfl) ?_
 refine AO.pu T ?_
 refine AO.nil ?_
 iterate 2 refine AW.seq ?_
 refine AW.region ?_
 refine AO.pu T ?_
 refine AO.val rfl rfl (len_map_ok T rfl rfl rfl) ?_
 refine AO.pu T ?_
 refine AO.nil ?_
 refine AW.block ?_
 refine AW.loopS (fun s : Nat × (List Int) => (⟨[(1, .s (List.map encInt other)), (5, .R 4), (9, .s (List.map encInt l)), (10, (l.length : Int)), (11, (s.1 : Int))], [(4, .row 1 (List.map encInt s.2))], 25, []⟩ : St)) (fun s => s.1 ≤ l.length ∧ impl_without_l1 other (l.drop s.1) s.1 s.2 = some r) (fun s => l.length - s.1) (0, []) ⟨Nat.zero_le _, hH⟩ ?_ ?_
 refine Le.trans (Le.void 5 4 1 rfl rfl) ?_
 exact Le.ct 0 0
 rintro ⟨k1, v16⟩ ⟨hk, hH⟩
 replace hH : impl_without_l1 other (l.drop k1) k1 v16 = some r := hH
 try dsimp only
 refine AW.boundM (t := 9) (l := l) rfl (fun hb5 => ?_)
 rcases hd4 : l.drop k1 with _ | ⟨y2, ys3⟩
 rw [hd4, impl_without_l1] at hH
 have hlt6 := drop_ge hd4
 refine AW.seq (AW.region ?_)
 refine AO.pu T ?_
 refine AO.nil (AW.seq ?_)
 refine AW.condF' (b := decide ((k1 : Int) < (l.length : Int))) rfl (rngF hlt6) ?_
 refine AW.exit ?_
 refine AW.seq (AW.region ?_)
 iterate 2 refine AO.pu T ?_
 refine AO.nil (AW.ret ?_)
 cases someE hH
 exact retQ.i [4] rfl (.c (.c (.rowR rfl)))
 rw [hd4, impl_without_l1] at hH
 have hlt6 := drop_lt hd4
 refine AW.seq (AW.region ?_)
 refine AO.pu T ?_
 refine AO.nil (AW.seq ?_)
 refine AW.condT' (b := decide ((k1 : Int) < (l.length : Int))) rfl (rngT hlt6) ?_
 refine AW.skip ?_
 refine AW.seq ?_
 refine AW.block ?_
 refine AW.seq (AW.region ?_)
 refine AO.val rfl rfl (ix_map_ok T rfl rfl rfl rfl rfl (getI_drop hd4) rfl) ?_
 iterate 2 refine AO.pu T ?_
 refine AO.nil (AW.seq ?_)
 obtain ⟨x18, hx19, hH⟩ := bindE hH
 refine AW.region ?_
 iterate 2 refine AO.pu T ?_
 refine AO.val rfl rfl (callV_ok rfl rfl rfl rfl (slices_Contains_int_ok _ _ _ (hx19)) rfl) ?_
 refine AO.pu T ?_
 refine AO.nil ?_
 refine AW.cond (b := (!x18)) rfl (fun hc => ?_) (fun hc => ?_)
 replace hH := condT hc hH
 obtain ⟨u20, hx21, hH⟩ := bindE hH
 refine AW.region ?_
 iterate 2 refine AO.pu T ?_
 refine AO.step rfl (mk_map_ok T rfl 5 rfl rfl rfl rfl rfl (f := encInt) (l := [y2]) rfl rfl (fun _ => rfl) rfl rfl rfl rfl rfl) ?_
 refine AO.step rfl (app_rv_map T rfl 6 rfl rfl rfl rfl rfl (by decide) rfl rfl rfl rfl (fun _ => rfl) (needT (hx21)) rfl rfl) ?_
 refine AO.pu T ?_
 refine AO.nil ?_
 refine AW.region ?_
 refine AO.val rfl rfl (ar_ok rfl rfl rfl rfl (inI_succ hlt6 hb5)) ?_
 refine AO.pu T ?_
 refine AO.nil ?_
 refine ⟨(k1 + 1, (v16 ++ [y2])), ⟨Nat.succ_le_of_lt hlt6, (by rw [drop_succ_of hd4]; exact hH)⟩, (by have := hlt6; dsimp only; omega), ?_⟩
 exact Le.ct 6 4
 replace hH := condF hc hH
 refine AW.skip ?_
 refine AW.region ?_
 refine AO.val rfl rfl (ar_ok rfl rfl rfl rfl (inI_succ hlt6 hb5)) ?_
 refine AO.pu T ?_
 refine AO.nil ?_
 refine ⟨(k1 + 1, v16), ⟨Nat.succ_le_of_lt hlt6, (by rw [drop_succ_of hd4]; exact hH)⟩, (by have := hlt6; dsimp only; omega), ?_⟩
 exact Le.ct 0 0

def impl_hasEntrants_l1 (e : Event) : List Entrant → Nat → List Int → Option Bool
  | [], k7, v22 =>
    (impl_without_p e.gone v22).bind fun x24 =>
    some ((x24.length : Int) == 0)
  | y8 :: ys9, k7, v22 =>
    (need (fitsB 8 (v22.length + ([y8.skater]).length))).bind fun u26 =>
    (getI e.results (k7 : Int)).bind fun x28 =>
    cond ((x28.skater != y8.skater) || ((x28.scores.length : Int) != e.segments))
      (some false)
      (impl_hasEntrants_l1 e ys9 (k7 + 1) (v22 ++ [y8.skater]))
def impl_hasEntrants_p (e : Event) : Option Bool :=
  (impl_AreEntrants_p e.entrants).bind fun x1 =>
  (opt (!(!x1)) default (impl_isIncreasing_p e.gone 1000)).bind fun x3 =>
  (opt (!((!x1) || (!x3))) default (impl_AreResults_p e.results)).bind fun x5 =>
  cond ((((!x1) || (!x3)) || (!x5)) || ((e.results.length : Int) != (e.entrants.length : Int)))
    (some false)
    (impl_hasEntrants_l1 e e.entrants 0 [])
theorem impl_hasEntrants_ok (e : Event) (r : Bool) (hH : impl_hasEntrants_p e = some r) : SpecR Tryz.prog 88 [.g (encEvent e)] (.v (.bool r)) := by
 refine fn_ok T Tryz.func88 rfl (by decide) rfl ?_
 refine AW.seq (AW.region ?_)
 refine AO.step rfl (box_ok T rfl 1 rfl rfl rfl rfl) ?_
 refine AO.pu T ?_
 refine AO.nil ?_
 iterate 2 refine AW.seq ?_
 obtain ⟨x1, hx2, hH⟩ := bindE hH
 obtain ⟨x3, hx4, hH⟩ := bindE hH
 obtain ⟨x5, hx6, hH⟩ := bindE hH
 refine AW.region ?_
 iterate 2 refine AO.pu T ?_
 refine AO.val rfl rfl (callV_ok rfl rfl rfl rfl (impl_AreEntrants_ok _ _ (hx2)) rfl) ?_
 iterate 2 refine AO.pu T ?_
 refine AO.pureG T [] rfl trivial rfl rfl ?_
 refine AO.pureG T [12] rfl ⟨fun h => h, trivial⟩ rfl rfl ?_
 refine AO.guard [13] rfl ⟨fun h => h, trivial⟩ (fun hg => callV_ok rfl rfl rfl rfl (impl_isIncreasing_ok _ _ _ (optT hx4 hg)) rfl) rfl ?_
 refine AO.pureG T [14] rfl ⟨fun h => h, trivial⟩ rfl rfl ?_
 refine AO.val rfl rfl (pick_or rfl rfl rfl rfl) ?_
 refine AO.pu T ?_
 refine AO.pureG T [] rfl trivial rfl rfl ?_
 refine AO.pureG T [18] rfl ⟨fun h => h, trivial⟩ rfl rfl ?_
 refine AO.guard [19] rfl ⟨fun h => h, trivial⟩ (fun hg => callV_ok rfl rfl rfl rfl (impl_AreResults_ok _ _ (optT hx6 hg)) rfl) rfl ?_
 refine AO.pureG T [20] rfl ⟨fun h => h, trivial⟩ rfl rfl ?_
 refine AO.val rfl rfl (pick_or rfl rfl rfl rfl) ?_
 refine AO.pu T ?_
 refine AO.pureG T [] rfl trivial rfl rfl ?_
 refine AO.pureG T [24] rfl ⟨fun h => h, trivial⟩ rfl rfl ?_
 refine AO.guard [25] rfl ⟨fun h => h, trivial⟩ (fun hg => len_map_ok T rfl rfl rfl) rfl ?_
 refine AO.pureG T [] rfl trivial rfl rfl ?_
 refine AO.pureG T [27] rfl ⟨fun h => h, trivial⟩ rfl rfl ?_
 refine AO.guard [28] rfl ⟨fun h => h, trivial⟩ (fun hg => len_map_ok T rfl rfl rfl) rfl ?_
 refine AO.pureG T [26, 29] rfl ⟨fun h => h, fun h => h, trivial⟩ rfl rfl ?_
 refine AO.val rfl rfl (pick_or rfl rfl rfl rfl) ?_
 refine AO.nil ?_
 refine AW.le (Le.ct 0 0 (σ' := (⟨[(1, .p 1 0), (31, .v (.bool ((((!x1) || (!x3)) || (!x5)) || ((e.results.length : Int) != (e.entrants.length : Int)))))], [(1, .box [e.segments, e.size, e.key, .s (List.map encEntrant e.entrants), .s (List.map encInt e.gone), e.segment, .s (List.map encInt e.order), .s (List.map encResult e.results)])], 71, []⟩ : St))) ?_
 refine AW.cond (b := ((((!x1) || (!x3)) || (!x5)) || ((e.results.length : Int) != (e.entrants.length : Int)))) rfl (fun hc => ?_) (fun hc => ?_)
 replace hH := condT hc hH
 refine AW.seq (AW.region ?_)
 refine AO.pu T ?_
 refine AO.nil (AW.ret ?_)
 cases someE hH
 exact retQ.i [] rfl (.c (.c .v))
 replace hH := condF hc hH
 refine AW.skip ?_
 refine AW.seq (AW.region ?_)
 refine AO.step rfl (mk0_ok T rfl rfl rfl rfl) ?_
 refine AO.pu T ?_
 refine AO.nil ?_
 iterate 2 refine AW.seq ?_
 refine AW.region ?_
 iterate 2 refine AO.pu T ?_
 refine AO.val rfl rfl (len_map_ok T rfl rfl rfl) ?_
 refine AO.pu T ?_
 refine AO.nil ?_
 refine AW.block ?_
 refine AW.loopS (fun s : Nat × (List Int) => (⟨[(1, .p 1 0), (3, .R 8), (34, .s (List.map encEntrant e.entrants)), (35, (e.entrants.length : Int)), (36, (s.1 : Int))], [(1, .box [e.segments, e.size, e.key, .s (List.map encEntrant e.entrants), .s (List.map encInt e.gone), e.segment, .s (List.map encInt e.order), .s (List.map encResult e.results)]), (8, .row 1 (List.map encInt s.2))], 71, []⟩ : St)) (fun s => s.1 ≤ e.entrants.length ∧ impl_hasEntrants_l1 e (e.entrants.drop s.1) s.1 s.2 = some r) (fun s => e.entrants.length - s.1) (0, []) ⟨Nat.zero_le _, hH⟩ ?_ ?_
 refine Le.trans (Le.void 3 8 1 rfl rfl) ?_
 exact Le.ct 0 0
 rintro ⟨k7, v22⟩ ⟨hk, hH⟩
 replace hH : impl_hasEntrants_l1 e (e.entrants.drop k7) k7 v22 = some r := hH
 try dsimp only
 refine AW.boundM (t := 34) (l := e.entrants) rfl (fun hb11 => ?_)
 rcases hd10 : e.entrants.drop k7 with _ | ⟨y8, ys9⟩
 rw [hd10, impl_hasEntrants_l1] at hH
 have hlt12 := drop_ge hd10
 refine AW.seq (AW.region ?_)
 refine AO.pu T ?_
 refine AO.nil (AW.seq ?_)
 refine AW.condF' (b := decide ((k7 : Int) < (e.entrants.length : Int))) rfl (rngF hlt12) ?_
 refine AW.exit ?_
 refine AW.seq ?_
 obtain ⟨x24, hx25, hH⟩ := bindE hH
 refine AW.region ?_
 iterate 3 refine AO.pu T ?_
 refine AO.step rfl (callL_ok rfl 10 rfl rfl (es := [.s (List.map encInt e.gone), .s (List.map encInt v22)]) (by exact ⟨.free rfl, (.rowR rfl (.map fun y => .vs rfl)), trivial⟩) (impl_without_ok _ _ _ (hx25)) (zfree_map (fun y => (.cons (zfree_v _) .nil))) rfl rfl rfl) ?_
 refine AO.val rfl rfl (len_row_ok T rfl rfl rfl rfl) ?_
 iterate 2 refine AO.pu T ?_
 refine AO.nil (AW.ret ?_)
 cases someE hH
 exact retQ.i [] rfl (.c (.c .v))
 rw [hd10, impl_hasEntrants_l1] at hH
 have hlt12 := drop_lt hd10
 refine AW.seq (AW.region ?_)
 refine AO.pu T ?_
 refine AO.nil (AW.seq ?_)
 refine AW.condT' (b := decide ((k7 : Int) < (e.entrants.length : Int))) rfl (rngT hlt12) ?_
 refine AW.skip ?_
 refine AW.seq ?_
 refine AW.block ?_
 refine AW.seq (AW.region ?_)
 refine AO.pu T ?_
 refine AO.val rfl rfl (ix_map_ok T rfl rfl rfl rfl rfl (getI_drop hd10) rfl) ?_
 refine AO.pu T (d := .g [y8.skater, y8.rank]) ?_
 refine AO.step rfl (alloc_ok T rfl 11 rfl rfl rfl rfl rfl) ?_
 refine AO.pu T ?_
 refine AO.se T [y8.skater, y8.rank] ?_
 refine AO.nil (AW.seq ?_)
 obtain ⟨u26, hx27, hH⟩ := bindE hH
 refine AW.region ?_
 iterate 3 refine AO.pu T ?_
 refine AO.step rfl (mk_map_ok T rfl 12 rfl rfl rfl rfl rfl (f := encInt) (l := [y8.skater]) rfl rfl (fun _ => rfl) rfl rfl rfl rfl rfl) ?_
 refine AO.step rfl (app_rv_map T rfl 13 rfl rfl rfl rfl rfl (by decide) rfl rfl rfl rfl (fun _ => rfl) (needT (hx27)) rfl rfl) ?_
 refine AO.pu T ?_
 refine AO.nil (AW.seq ?_)
 obtain ⟨x28, hx29, hH⟩ := bindE hH
 refine AW.region ?_
 iterate 3 refine AO.pu T ?_
 refine AO.val rfl rfl (ix_map_ok T rfl rfl rfl rfl rfl (hx29) rfl) ?_
 refine AO.pu T (d := .g [x28.skater, .s (List.map encInt x28.scores)]) ?_
 refine AO.step rfl (alloc_ok T rfl 14 rfl rfl rfl rfl rfl) ?_
 refine AO.se T [x28.skater, .s (List.map encInt x28.scores)] ?_
 refine AO.nil (AW.seq ?_)
 refine AW.region ?_
 iterate 6 refine AO.pu T ?_
 refine AO.pureG T [] rfl trivial rfl rfl ?_
 refine AO.pureG T [57] rfl ⟨fun h => h, trivial⟩ rfl rfl ?_
 refine AO.guard [58] rfl ⟨fun h => h, trivial⟩ (fun hg => len_map_ok T rfl rfl rfl) rfl ?_
 refine AO.pureG T [] rfl trivial rfl rfl ?_
 refine AO.pureG T [60] rfl ⟨fun h => h, trivial⟩ rfl rfl ?_
 refine AO.pureG T [59, 61] rfl ⟨fun h => h, fun h => h, trivial⟩ rfl rfl ?_
 refine AO.val rfl rfl (pick_or rfl rfl rfl rfl) ?_
 refine AO.nil ?_
 refine AW.le (Le.ct 0 0 (σ' := (⟨[(1, .p 1 0), (3, .R 13), (34, .s (List.map encEntrant e.entrants)), (35, (e.entrants.length : Int)), (36, (k7 : Int)), (63, .v (.bool ((x28.skater != y8.skater) || ((x28.scores.length : Int) != e.segments))))], [(1, .box [e.segments, e.size, e.key, .s (List.map encEntrant e.entrants), .s (List.map encInt e.gone), e.segment, .s (List.map encInt e.order), .s (List.map encResult e.results)]), (13, .row 1 (List.map encInt (v22 ++ [y8.skater])))], 71, []⟩ : St))) ?_
 refine AW.cond (b := ((x28.skater != y8.skater) || ((x28.scores.length : Int) != e.segments))) rfl (fun hc => ?_) (fun hc => ?_)
 replace hH := condT hc hH
 refine AW.seq (AW.region ?_)
 refine AO.pu T ?_
 refine AO.nil (AW.ret ?_)
 cases someE hH
 exact retQ.i [] rfl (.c (.c .v))
 replace hH := condF hc hH
 refine AW.skip ?_
 refine AW.region ?_
 refine AO.val rfl rfl (ar_ok rfl rfl rfl rfl (inI_succ hlt12 hb11)) ?_
 refine AO.pu T ?_
 refine AO.nil ?_
 refine ⟨(k7 + 1, (v22 ++ [y8.skater])), ⟨Nat.succ_le_of_lt hlt12, (by rw [drop_succ_of hd10]; exact hH)⟩, (by have := hlt12; dsimp only; omega), ?_⟩
 exact Le.ct 13 8

def impl_totalOf_l1 : List Int → Nat → Int → Int → Option ((Int × Int))
  | [], k1, v9, v10 =>
    some (v9, v10)
  | y2 :: ys3, k1, v9, v10 =>
    cond (decide (y2 ≥ 0))
      (impl_totalOf_l1 ys3 (k1 + 1) (w64 (v9 + y2)) (w64 (v10 + 1)))
      (impl_totalOf_l1 ys3 (k1 + 1) v9 v10)
def impl_totalOf_p (rA : Result) : Option (Int × Int) :=
  impl_totalOf_l1 rA.scores 0 0 0
theorem impl_totalOf_ok (rA : Result) (r : (Int × Int)) (hH : impl_totalOf_p rA = some r) : SpecR Tryz.prog 170 [.g (encResult rA)] (.t [.v (.int .i64 r.1), .v (.int .i64 r.2)]) := by
 refine fn_ok T Tryz.func170 rfl (by decide) rfl ?_
 refine AW.seq (AW.region ?_)
 refine AO.step rfl (box_ok T rfl 1 rfl rfl rfl rfl) ?_
 iterate 2 refine AO.pu T ?_
 refine AO.nil (AW.seq ?_)
 refine AW.region ?_
 iterate 2 refine AO.pu T ?_
 refine AO.nil ?_
 iterate 2 refine AW.seq ?_
 refine AW.region ?_
 iterate 2 refine AO.pu T ?_
 refine AO.val rfl rfl (len_map_ok T rfl rfl rfl) ?_
 refine AO.pu T ?_
 refine AO.nil ?_
 refine AW.block ?_
 refine AW.loopS (fun s : Nat × Int × Int => (⟨[(4, s.2.1), (5, s.2.2), (9, .s (List.map encInt rA.scores)), (10, (rA.scores.length : Int)), (11, (s.1 : Int))], [], 25, []⟩ : St)) (fun s => s.1 ≤ rA.scores.length ∧ impl_totalOf_l1 (rA.scores.drop s.1) s.1 s.2.1 s.2.2 = some r) (fun s => rA.scores.length - s.1) (0, 0, 0) ⟨Nat.zero_le _, hH⟩ ?_ ?_
 exact Le.ct 0 0
 rintro ⟨k1, v9, v10⟩ ⟨hk, hH⟩
 replace hH : impl_totalOf_l1 (rA.scores.drop k1) k1 v9 v10 = some r := hH
 try dsimp only
 refine AW.boundM (t := 9) (l := rA.scores) rfl (fun hb5 => ?_)
 rcases hd4 : rA.scores.drop k1 with _ | ⟨y2, ys3⟩
 rw [hd4, impl_totalOf_l1] at hH
 have hlt6 := drop_ge hd4
 refine AW.seq (AW.region ?_)
 refine AO.pu T ?_
 refine AO.nil (AW.seq ?_)
 refine AW.condF' (b := decide ((k1 : Int) < (rA.scores.length : Int))) rfl (rngF hlt6) ?_
 refine AW.exit ?_
 refine AW.seq (AW.region ?_)
 iterate 4 refine AO.pu T ?_
 refine AO.nil (AW.ret ?_)
 cases someE hH
 exact retQ.i [] rfl (.t (expLG_cons (.c .v) (expLG_cons (.c .v) (expLG_nil))))
 rw [hd4, impl_totalOf_l1] at hH
 have hlt6 := drop_lt hd4
 refine AW.seq (AW.region ?_)
 refine AO.pu T ?_
 refine AO.nil (AW.seq ?_)
 refine AW.condT' (b := decide ((k1 : Int) < (rA.scores.length : Int))) rfl (rngT hlt6) ?_
 refine AW.skip ?_
 refine AW.seq ?_
 refine AW.block ?_
 refine AW.seq (AW.region ?_)
 refine AO.val rfl rfl (ix_map_ok T rfl rfl rfl rfl rfl (getI_drop hd4) rfl) ?_
 iterate 2 refine AO.pu T ?_
 refine AO.nil (AW.seq ?_)
 refine AW.region ?_
 iterate 2 refine AO.pu T ?_
 refine AO.nil ?_
 refine AW.cond (b := decide (y2 ≥ 0)) rfl (fun hc => ?_) (fun hc => ?_)
 replace hH := condT hc hH
 refine AW.seq (AW.region ?_)
 iterate 2 refine AO.pu T ?_
 refine AO.val rfl rfl (arw_ok rfl rfl rfl rfl) ?_
 refine AO.pu T ?_
 refine AO.nil ?_
 refine AW.region ?_
 refine AO.pu T ?_
 refine AO.val rfl rfl (arw_ok rfl rfl rfl rfl) ?_
 refine AO.pu T ?_
 refine AO.nil ?_
 refine AW.region ?_
 refine AO.val rfl rfl (ar_ok rfl rfl rfl rfl (inI_succ hlt6 hb5)) ?_
 refine AO.pu T ?_
 refine AO.nil ?_
 refine ⟨(k1 + 1, w64 (v9 + y2), w64 (v10 + 1)), ⟨Nat.succ_le_of_lt hlt6, (by rw [drop_succ_of hd4]; exact hH)⟩, (by have := hlt6; dsimp only; omega), ?_⟩
 exact Le.ct 0 0
 replace hH := condF hc hH
 refine AW.skip ?_
 refine AW.region ?_
 refine AO.val rfl rfl (ar_ok rfl rfl rfl rfl (inI_succ hlt6 hb5)) ?_
 refine AO.pu T ?_
 refine AO.nil ?_
 refine ⟨(k1 + 1, v9, v10), ⟨Nat.succ_le_of_lt hlt6, (by rw [drop_succ_of hd4]; exact hH)⟩, (by have := hlt6; dsimp only; omega), ?_⟩
 exact Le.ct 0 0

def impl_scoredIn_l1 (skater : Int) : List Result → Nat → Option Int
  | [], k1 =>
    some 0
  | y2 :: ys3, k1 =>
    cond (y2.skater == skater)
      ((impl_totalOf_p y2).bind fun x12 =>
      some x12.2)
      (impl_scoredIn_l1 skater ys3 (k1 + 1))
def impl_scoredIn_p (e : Event) (skater : Int) : Option Int :=
  impl_scoredIn_l1 skater e.results 0
theorem impl_scoredIn_ok (e : Event) (skater : Int) (r : Int) (hH : impl_scoredIn_p e skater = some r) : SpecR Tryz.prog 134 [.g (encEvent e), skater] (.v (.int .i64 r)) := by
 refine fn_ok T Tryz.func134 rfl (by decide) rfl ?_
 refine AW.seq (AW.region ?_)
 refine AO.step rfl (box_ok T rfl 1 rfl rfl rfl rfl) ?_
 refine AO.pu T ?_
 refine AO.nil ?_
 iterate 2 refine AW.seq ?_
 refine AW.region ?_
 iterate 2 refine AO.pu T ?_
 refine AO.val rfl rfl (len_map_ok T rfl rfl rfl) ?_
 refine AO.pu T ?_
 refine AO.nil ?_
 refine AW.block ?_
 refine AW.loopS (fun s : Nat => (⟨[(1, skater), (10, .s (List.map encResult e.results)), (11, (e.results.length : Int)), (12, (s : Int))], [], 27, []⟩ : St)) (fun s => s ≤ e.results.length ∧ impl_scoredIn_l1 skater (e.results.drop s) s = some r) (fun s => e.results.length - s) 0 ⟨Nat.zero_le _, hH⟩ ?_ ?_
 exact Le.ct 0 0
 rintro k1 ⟨hk, hH⟩
 replace hH : impl_scoredIn_l1 skater (e.results.drop k1) k1 = some r := hH
 try dsimp only
 refine AW.boundM (t := 10) (l := e.results) rfl (fun hb5 => ?_)
 rcases hd4 : e.results.drop k1 with _ | ⟨y2, ys3⟩
 rw [hd4, impl_scoredIn_l1] at hH
 have hlt6 := drop_ge hd4
 refine AW.seq (AW.region ?_)
 refine AO.pu T ?_
 refine AO.nil (AW.seq ?_)
 refine AW.condF' (b := decide ((k1 : Int) < (e.results.length : Int))) rfl (rngF hlt6) ?_
 refine AW.exit ?_
 refine AW.seq (AW.region ?_)
 refine AO.pu T ?_
 refine AO.nil (AW.ret ?_)
 cases someE hH
 exact retQ.i [] rfl (.c (.c .v))
 rw [hd4, impl_scoredIn_l1] at hH
 have hlt6 := drop_lt hd4
 refine AW.seq (AW.region ?_)
 refine AO.pu T ?_
 refine AO.nil (AW.seq ?_)
 refine AW.condT' (b := decide ((k1 : Int) < (e.results.length : Int))) rfl (rngT hlt6) ?_
 refine AW.skip ?_
 refine AW.seq ?_
 refine AW.block ?_
 refine AW.seq (AW.region ?_)
 refine AO.val rfl rfl (ix_map_ok T rfl rfl rfl rfl rfl (getI_drop hd4) rfl) ?_
 refine AO.pu T (d := .g [y2.skater, .s (List.map encInt y2.scores)]) ?_
 refine AO.step rfl (alloc_ok T rfl 4 rfl rfl rfl rfl rfl) ?_
 refine AO.se T [y2.skater, .s (List.map encInt y2.scores)] ?_
 refine AO.nil (AW.seq ?_)
 refine AW.region ?_
 iterate 4 refine AO.pu T ?_
 refine AO.nil ?_
 refine AW.cond (b := (y2.skater == skater)) rfl (fun hc => ?_) (fun hc => ?_)
 replace hH := condT hc hH
 refine AW.seq ?_
 obtain ⟨x12, hx13, hH⟩ := bindE hH
 refine AW.region ?_
 refine AO.pu T (d := .g [y2.skater, .s (List.map encInt y2.scores)]) ?_
 refine AO.val rfl rfl (callV_ok rfl rfl rfl rfl (impl_totalOf_ok _ _ (hx13)) rfl) ?_
 iterate 5 refine AO.pu T ?_
 refine AO.nil (AW.seq ?_)
 refine AW.region ?_
 iterate 2 refine AO.pu T ?_
 refine AO.nil (AW.ret ?_)
 cases someE hH
 exact retQ.i [] rfl (.c (.c .v))
 replace hH := condF hc hH
 refine AW.skip ?_
 refine AW.region ?_
 refine AO.val rfl rfl (ar_ok rfl rfl rfl rfl (inI_succ hlt6 hb5)) ?_
 refine AO.pu T ?_
 refine AO.nil ?_
 refine ⟨k1 + 1, ⟨Nat.succ_le_of_lt hlt6, (by rw [drop_succ_of hd4]; exact hH)⟩, (by have := hlt6; dsimp only; omega), ?_⟩
 exact Le.ct 0 0

def slices_IndexFunc_Entrant_l1 (f : Entrant → Option Bool) : List Entrant → Nat → Option Int
  | [], k1 =>
    some (-1)
  | y2 :: ys3, k1 =>
    (f y2).bind fun x12 =>
    cond x12
      (some (k1 : Int))
      (slices_IndexFunc_Entrant_l1 f ys3 (k1 + 1))
def slices_IndexFunc_Entrant_p (sA : List Entrant) (f : Entrant → Option Bool) : Option Int :=
  slices_IndexFunc_Entrant_l1 f sA 0
theorem slices_IndexFunc_Entrant_ok (sA : List Entrant) (f_f : Nat) (f_c : List D) (f_k : f_c.all D.capOk = true) (f : Entrant → Option Bool) (f_h : ∀ (a0 : Entrant) (q : Bool), f a0 = some q → SpecR Tryz.prog f_f ([.g (encEntrant a0)] ++ f_c) (.v (.bool q))) (r : Int) (hH : slices_IndexFunc_Entrant_p sA f = some r) : SpecR Tryz.prog 120 [.s (List.map encEntrant sA), .f f_f f_c] (.v (.int .i64 r)) := by
 have f_r := cap_cfree f_k
 refine fn_ok T Tryz.func120 rfl (by decide) rfl ?_
 refine AW.seq (AW.region ?_)
 refine AO.pu T ?_
 refine AO.nil ?_
 iterate 2 refine AW.seq ?_
 refine AW.region ?_
 refine AO.pu T ?_
 refine AO.val rfl rfl (len_map_ok T rfl rfl rfl) ?_
 refine AO.pu T ?_
 refine AO.nil ?_
 refine AW.block ?_
 refine AW.loopS (fun s : Nat => (⟨[(0, .s (List.map encEntrant sA)), (1, .f f_f f_c), (7, (sA.length : Int)), (8, (s : Int))], [], 19, []⟩ : St)) (fun s => s ≤ sA.length ∧ slices_IndexFunc_Entrant_l1 f (sA.drop s) s = some r) (fun s => sA.length - s) 0 ⟨Nat.zero_le _, hH⟩ ?_ ?_
 exact Le.cut 0 0 rfl ⟨⟨_, rfl, rfl⟩, ⟨_, rfl, ren_fF f_r⟩, ⟨_, rfl, rfl⟩, ⟨_, rfl, rfl⟩, trivial⟩ (by repeat' (first | exact trivial | refine ⟨⟨_, rfl, rfl⟩, ?_⟩)) (andT (allC rfl (allC (known_fF f_r) (allC rfl (allC rfl allN)))) rfl)
 rintro k1 ⟨hk, hH⟩
 replace hH : slices_IndexFunc_Entrant_l1 f (sA.drop k1) k1 = some r := hH
 try dsimp only
 refine AW.boundM (t := 0) (l := sA) rfl (fun hb5 => ?_)
 rcases hd4 : sA.drop k1 with _ | ⟨y2, ys3⟩
 rw [hd4, slices_IndexFunc_Entrant_l1] at hH
 have hlt6 := drop_ge hd4
 refine AW.seq (AW.region ?_)
 refine AO.pu T ?_
 refine AO.nil (AW.seq ?_)
 refine AW.condF' (b := decide ((k1 : Int) < (sA.length : Int))) rfl (rngF hlt6) ?_
 refine AW.exit ?_
 refine AW.seq (AW.region ?_)
 refine AO.pu T ?_
 refine AO.nil (AW.ret ?_)
 cases someE hH
 exact retQ.i [] rfl (.c (.c .v))
 rw [hd4, slices_IndexFunc_Entrant_l1] at hH
 have hlt6 := drop_lt hd4
 refine AW.seq (AW.region ?_)
 refine AO.pu T ?_
 refine AO.nil (AW.seq ?_)
 refine AW.condT' (b := decide ((k1 : Int) < (sA.length : Int))) rfl (rngT hlt6) ?_
 refine AW.skip ?_
 refine AW.seq ?_
 refine AW.block ?_
 refine AW.seq (AW.region ?_)
 iterate 2 refine AO.pu T ?_
 refine AO.nil (AW.seq ?_)
 obtain ⟨x12, hx13, hH⟩ := bindE hH
 refine AW.region ?_
 iterate 3 refine AO.pu T ?_
 refine AO.val rfl rfl (ix_map_ok T rfl rfl rfl rfl rfl (getI_drop hd4) rfl) ?_
 refine AO.pu T (d := .g [y2.skater, y2.rank]) ?_
 refine AO.val rfl rfl (callV_ok rfl rfl rfl (andT rfl (free_cfree f_r)) (f_h _ _ (hx13)) rfl) ?_
 refine AO.nil ?_
 refine AW.cond (b := x12) rfl (fun hc => ?_) (fun hc => ?_)
 replace hH := condT hc hH
 refine AW.seq (AW.region ?_)
 iterate 2 refine AO.pu T ?_
 refine AO.nil (AW.ret ?_)
 cases someE hH
 exact retQ.i [] rfl (.c (.c .v))
 replace hH := condF hc hH
 refine AW.skip ?_
 refine AW.region ?_
 refine AO.val rfl rfl (ar_ok rfl rfl rfl rfl (inI_succ hlt6 hb5)) ?_
 refine AO.pu T ?_
 refine AO.nil ?_
 refine ⟨k1 + 1, ⟨Nat.succ_le_of_lt hlt6, (by rw [drop_succ_of hd4]; exact hH)⟩, (by have := hlt6; dsimp only; omega), ?_⟩
 exact Le.cut 0 0 rfl ⟨⟨_, rfl, rfl⟩, ⟨_, rfl, ren_fF f_r⟩, ⟨_, rfl, rfl⟩, ⟨_, rfl, rfl⟩, trivial⟩ (by repeat' (first | exact trivial | refine ⟨⟨_, rfl, rfl⟩, ?_⟩)) (andT (allC rfl (allC (known_fF f_r) (allC rfl (allC rfl allN)))) rfl)

def slices_ContainsFunc_Entrant_p (sA : List Entrant) (f : Entrant → Option Bool) : Option Bool :=
  (slices_IndexFunc_Entrant_p sA f).bind fun x1 =>
  some (decide (x1 ≥ 0))
theorem slices_ContainsFunc_Entrant_ok (sA : List Entrant) (f_f : Nat) (f_c : List D) (f_k : f_c.all D.capOk = true) (f : Entrant → Option Bool) (f_h : ∀ (a0 : Entrant) (q : Bool), f a0 = some q → SpecR Tryz.prog f_f ([.g (encEntrant a0)] ++ f_c) (.v (.bool q))) (r : Bool) (hH : slices_ContainsFunc_Entrant_p sA f = some r) : SpecR Tryz.prog 62 [.s (List.map encEntrant sA), .f f_f f_c] (.v (.bool r)) := by
 have f_r := cap_cfree f_k
 refine fn_ok T Tryz.func62 rfl (by decide) rfl ?_
 refine AW.seq (AW.region ?_)
 refine AO.pu T ?_
 refine AO.nil (AW.seq ?_)
 obtain ⟨x1, hx2, hH⟩ := bindE hH
 refine AW.region ?_
 iterate 2 refine AO.pu T ?_
 refine AO.val rfl rfl (callV_ok rfl rfl rfl (andT (allC rfl (allC f_r allN)) rfl) (slices_IndexFunc_Entrant_ok _ f_f f_c f_k f f_h _ (hx2)) rfl) ?_
 iterate 2 refine AO.pu T ?_
 refine AO.nil (AW.ret ?_)
 cases someE hH
 exact retQ.i [] rfl (.c (.c .v))

def impl_isThere_c1_p (x : Entrant) (a : Int) : Option Bool :=
  some (x.skater == a)
theorem impl_isThere_c1_ok (x : Entrant) (a : Int) (r : Bool) (hH : impl_isThere_c1_p x a = some r) : SpecR Tryz.prog 121 [.g (encEntrant x), .q [a]] (.v (.bool r)) := by
 refine fn_ok T Tryz.func121 rfl (by decide) rfl ?_
 refine AW.seq (AW.region ?_)
 refine AO.step rfl (box_ok T rfl 1 rfl rfl rfl rfl) ?_
 refine AO.pu T ?_
 refine AO.nil (AW.seq ?_)
 refine AW.region ?_
 iterate 5 refine AO.pu T ?_
 refine AO.nil (AW.ret ?_)
 cases someE hH
 exact retQ.i [] rfl (.c (.c .v))

def impl_isThere_p (e : Event) (skater : Int) : Option Bool :=
  (slices_ContainsFunc_Entrant_p e.entrants (fun a0 => impl_isThere_c1_p a0 skater)).bind fun x1 =>
  (opt x1 default (slices_Contains_int_p e.gone skater)).bind fun x3 =>
  some (x1 && (!x3))
theorem impl_isThere_ok (e : Event) (skater : Int) (r : Bool) (hH : impl_isThere_p e skater = some r) : SpecR Tryz.prog 64 [.g (encEvent e), skater] (.v (.bool r)) := by
 refine fn_ok T Tryz.func64 rfl (by decide) rfl ?_
 refine AW.seq (AW.region ?_)
 refine AO.step rfl (box_ok T rfl 1 rfl rfl rfl rfl) ?_
 refine AO.step rfl (box_ok T rfl 2 rfl rfl rfl rfl) ?_
 refine AO.pu T ?_
 refine AO.nil (AW.seq ?_)
 obtain ⟨x1, hx2, hH⟩ := bindE hH
 obtain ⟨x3, hx4, hH⟩ := bindE hH
 refine AW.region ?_
 iterate 3 refine AO.pu T ?_
 refine AO.val rfl rfl (callLV_ok rfl rfl rfl (es := [.s (List.map encEntrant e.entrants), .f 121 [.q [skater]]]) ⟨.free rfl, lend_f (LendL.cons (Lend.boxF rfl rfl) LendL.nil), trivial⟩ (slices_ContainsFunc_Entrant_ok _ 121 [.q [skater]] rfl (fun a0 => impl_isThere_c1_p a0 skater) (fun a0 q h => impl_isThere_c1_ok a0 skater q h) _ (hx2)) (zfree_v _) rfl) ?_
 refine AO.pu T ?_
 refine AO.pureG T [] rfl trivial rfl rfl ?_
 refine AO.pureG T [10] rfl ⟨fun h => h, trivial⟩ rfl rfl ?_
 refine AO.pureG T [] rfl trivial rfl rfl ?_
 refine AO.guard [11, 12] rfl ⟨fun h => h, fun h => h, trivial⟩ (fun hg => callV_ok rfl rfl rfl rfl (slices_Contains_int_ok _ _ _ (optT hx4 hg)) rfl) rfl ?_
 refine AO.pureG T [13] rfl ⟨fun h => h, trivial⟩ rfl rfl ?_
 refine AO.val rfl rfl (pick_and rfl rfl rfl rfl) ?_
 refine AO.pu T ?_
 refine AO.nil (AW.ret ?_)
 cases someE hH
 exact retQ.i [] rfl (.c (.c .v))

def impl_copyInts_p (l : List Int) : Option (List Int) :=
  (need (fitsB 8 l.length)).bind fun u1 =>
  some l
theorem impl_copyInts_ok (l : List Int) (r : (List Int)) (hH : impl_copyInts_p l = some r) : SpecR Tryz.prog 127 [.s (List.map encInt l)] (.w 1 (r.map encInt)) := by
 refine fn_ok T Tryz.func127 rfl (by decide) rfl ?_
 refine AW.seq (AW.region ?_)
 refine AO.pu T ?_
 refine AO.nil (AW.seq ?_)
 obtain ⟨u1, hx2, hH⟩ := bindE hH
 refine AW.region ?_
 refine AO.step rfl (mk0_ok T rfl rfl rfl rfl) ?_
 refine AO.pu T ?_
 refine AO.step rfl (app_ws_map T rfl 1 rfl rfl rfl rfl rfl (by decide) (by decide) rfl rfl (fun _ => rfl) (needT (hx2)) rfl rfl) ?_
 refine AO.pu T ?_
 refine AO.nil (AW.ret ?_)
 cases someE hH
 exact retQ.i [1] rfl (.c (.c (.rowR rfl)))

def slices_Sort_int_p (x : List Int) : Option (List Int) := (need (Nat.blt x.length 4611686018427387904)).bind fun _ => some (sortI x)
theorem slices_Sort_int_ok (x : List Int) (r : List Int) (hH : slices_Sort_int_p x = some r) : SpecM Tryz.prog 97 [.w 1 (x.map encInt)] [.w 1 (r.map encInt)] (.t []) := by
  obtain ⟨u, hu, hr⟩ := bindE hH
  cases someE hr
  exact spec_sortI ⟨_, Tryz.func97, rfl, by decide⟩ Tryz.slices_Sort_int Tryz.slices_Sort_int_none x (Nat.le_of_ble_eq_true (needT hu))

def impl_sortedInts_p (l : List Int) : Option (List Int) :=
  (impl_copyInts_p l).bind fun x1 =>
  (slices_Sort_int_p x1).bind fun x3 =>
  some x3
theorem impl_sortedInts_ok (l : List Int) (r : (List Int)) (hH : impl_sortedInts_p l = some r) : SpecR Tryz.prog 136 [.s (List.map encInt l)] (.w 1 (r.map encInt)) := by
 refine fn_ok T Tryz.func136 rfl (by decide) rfl ?_
 refine AW.seq (AW.region ?_)
 refine AO.pu T ?_
 refine AO.nil (AW.seq ?_)
 obtain ⟨x1, hx2, hH⟩ := bindE hH
 refine AW.region ?_
 refine AO.pu T ?_
 refine AO.step rfl (call_ok rfl 1 rfl rfl rfl (impl_copyInts_ok _ _ (hx2)) rfl rfl rfl) ?_
 refine AO.pu T ?_
 refine AO.nil (AW.seq ?_)
 obtain ⟨x3, hx4, hH⟩ := bindE hH
 refine AW.region ?_
 refine AO.pu T ?_
 refine AO.step rfl (callM_ok rfl 2 rfl rfl (es := [.w 1 (x1.map encInt)]) (outs := [.w 1 (x3.map encInt)]) (ids := [1]) (by exact expLG_cons (.c (.rowR rfl)) (expLG_nil)) (by decide) (.inl (by rfl)) (by rfl) (slices_Sort_int_ok _ _ (hx4)) rfl (by rfl) rfl) ?_
 refine AO.nil (AW.seq ?_)
 refine AW.region ?_
 iterate 2 refine AO.pu T ?_
 refine AO.nil (AW.ret ?_)
 cases someE hH
 exact retQ.i [1] rfl (.c (.c (.rowR rfl)))

def slices_Equal_int_l1 (s2A : List Int) : List Int → Nat → Option Bool
  | [], k1 =>
    some true
  | y2 :: ys3, k1 =>
    (getI s2A (k1 : Int)).bind fun x12 =>
    cond (y2 != x12)
      (some false)
      (slices_Equal_int_l1 s2A ys3 (k1 + 1))
def slices_Equal_int_p (s1A : List Int) (s2A : List Int) : Option Bool :=
  cond ((s1A.length : Int) != (s2A.length : Int))
    (some false)
    (slices_Equal_int_l1 s2A s1A 0)
theorem slices_Equal_int_ok (s1A : List Int) (s2A : List Int) (r : Bool) (hH : slices_Equal_int_p s1A s2A = some r) : SpecR Tryz.prog 135 [.s (List.map encInt s1A), .s (List.map encInt s2A)] (.v (.bool r)) := by
 refine fn_ok T Tryz.func135 rfl (by decide) rfl ?_
 refine AW.seq (AW.region ?_)
 refine AO.pu T ?_
 refine AO.nil ?_
 iterate 2 refine AW.seq ?_
 refine AW.region ?_
 refine AO.pu T ?_
 refine AO.val rfl rfl (len_map_ok T rfl rfl rfl) ?_
 refine AO.pu T ?_
 refine AO.val rfl rfl (len_map_ok T rfl rfl rfl) ?_
 refine AO.pu T ?_
 refine AO.nil ?_
 refine AW.cond (b := ((s1A.length : Int) != (s2A.length : Int))) rfl (fun hc => ?_) (fun hc => ?_)
 replace hH := condT hc hH
 refine AW.seq (AW.region ?_)
 refine AO.pu T ?_
 refine AO.nil (AW.ret ?_)
 cases someE hH
 exact retQ.i [] rfl (.c (.c .v))
 replace hH := condF hc hH
 refine AW.skip ?_
 iterate 2 refine AW.seq ?_
 refine AW.region ?_
 refine AO.pu T ?_
 refine AO.val rfl rfl (len_map_ok T rfl rfl rfl) ?_
 refine AO.pu T ?_
 refine AO.nil ?_
 refine AW.block ?_
 refine AW.loopS (fun s : Nat => (⟨[(0, .s (List.map encInt s1A)), (1, .s (List.map encInt s2A)), (12, (s1A.length : Int)), (13, (s : Int))], [], 26, []⟩ : St)) (fun s => s ≤ s1A.length ∧ slices_Equal_int_l1 s2A (s1A.drop s) s = some r) (fun s => s1A.length - s) 0 ⟨Nat.zero_le _, hH⟩ ?_ ?_
 exact Le.ct 0 0
 rintro k1 ⟨hk, hH⟩
 replace hH : slices_Equal_int_l1 s2A (s1A.drop k1) k1 = some r := hH
 try dsimp only
 refine AW.boundM (t := 0) (l := s1A) rfl (fun hb5 => ?_)
 rcases hd4 : s1A.drop k1 with _ | ⟨y2, ys3⟩
 rw [hd4, slices_Equal_int_l1] at hH
 have hlt6 := drop_ge hd4
 refine AW.seq (AW.region ?_)
 refine AO.pu T ?_
 refine AO.nil (AW.seq ?_)
 refine AW.condF' (b := decide ((k1 : Int) < (s1A.length : Int))) rfl (rngF hlt6) ?_
 refine AW.exit ?_
 refine AW.seq (AW.region ?_)
 refine AO.pu T ?_
 refine AO.nil (AW.ret ?_)
 cases someE hH
 exact retQ.i [] rfl (.c (.c .v))
 rw [hd4, slices_Equal_int_l1] at hH
 have hlt6 := drop_lt hd4
 refine AW.seq (AW.region ?_)
 refine AO.pu T ?_
 refine AO.nil (AW.seq ?_)
 refine AW.condT' (b := decide ((k1 : Int) < (s1A.length : Int))) rfl (rngT hlt6) ?_
 refine AW.skip ?_
 refine AW.seq ?_
 refine AW.block ?_
 refine AW.seq (AW.region ?_)
 iterate 2 refine AO.pu T ?_
 refine AO.nil (AW.seq ?_)
 obtain ⟨x12, hx13, hH⟩ := bindE hH
 refine AW.drawn 8 1 [] mix (by kernel_rfl) rfl ?_
 iterate 2 refine AD.pure T rfl rfl rfl ?_
 refine AD.val rfl rfl (ix_map_ok T rfl rfl rfl rfl rfl (getI_drop hd4) rfl) ?_
 iterate 3 refine AD.pure T rfl rfl rfl ?_
 refine AD.val rfl rfl (ix_map_ok T rfl rfl rfl rfl rfl (hx13) rfl) ?_
 refine AD.pure T rfl rfl rfl ?_
 refine AD.nil ?_
 refine AO.pu T ?_
 refine AO.nil ?_
 refine AW.cond (b := (y2 != x12)) rfl (fun hc => ?_) (fun hc => ?_)
 replace hH := condT hc hH
 refine AW.seq (AW.region ?_)
 refine AO.pu T ?_
 refine AO.nil (AW.ret ?_)
 cases someE hH
 exact retQ.i [] rfl (.c (.c .v))
 replace hH := condF hc hH
 refine AW.skip ?_
 refine AW.region ?_
 refine AO.val rfl rfl (ar_ok rfl rfl rfl rfl (inI_succ hlt6 hb5)) ?_
 refine AO.pu T ?_
 refine AO.nil ?_
 refine ⟨k1 + 1, ⟨Nat.succ_le_of_lt hlt6, (by rw [drop_succ_of hd4]; exact hH)⟩, (by have := hlt6; dsimp only; omega), ?_⟩
 exact Le.ct 0 0

def impl_isScored_p (e : Event) (skater : Int) : Option Bool :=
  (impl_scoredIn_p e skater).bind fun x1 =>
  some (decide (x1 > e.segment))
theorem impl_isScored_ok (e : Event) (skater : Int) (r : Bool) (hH : impl_isScored_p e skater = some r) : SpecR Tryz.prog 98 [.g (encEvent e), skater] (.v (.bool r)) := by
 refine fn_ok T Tryz.func98 rfl (by decide) rfl ?_
 refine AW.seq (AW.region ?_)
 refine AO.step rfl (box_ok T rfl 1 rfl rfl rfl rfl) ?_
 refine AO.pu T ?_
 refine AO.nil (AW.seq ?_)
 obtain ⟨x1, hx2, hH⟩ := bindE hH
 refine AW.drawn 5 2 [] mix (by kernel_rfl) rfl ?_
 refine AD.pure T (d := .g [e.segments, e.size, e.key, .s (List.map encEntrant e.entrants), .s (List.map encInt e.gone), e.segment, .s (List.map encInt e.order), .s (List.map encResult e.results)]) rfl rfl rfl ?_
 refine AD.pure T rfl rfl rfl ?_
 refine AD.val rfl rfl (callV_ok rfl rfl rfl rfl (impl_scoredIn_ok _ _ _ (hx2)) rfl) ?_
 iterate 2 refine AD.pure T rfl rfl rfl ?_
 refine AD.nil ?_
 iterate 2 refine AO.pu T ?_
 refine AO.nil (AW.ret ?_)
 cases someE hH
 exact retQ.i [] rfl (.c (.c .v))

def impl_isEventOrder_l2 (e : Event) (v34 : Int) : List Int → Nat → Option Bool
  | [], k42 =>
    some true
  | y43 :: ys44, k42 =>
    (impl_isScored_p e y43).bind fun x53 =>
    cond (!(x53 == decide ((k42 : Int) < v34)))
      (some false)
      (impl_isEventOrder_l2 e v34 ys44 (k42 + 1))
def impl_isEventOrder_l1 (e : Event) : List Entrant → Nat → List Int → Int → Option Bool
  | [], k1, v33, v34 =>
    cond ((e.order.length : Int) == 0)
      (some (v34 == 0))
      ((opt (!((e.segment == e.segments) || (v34 == (e.order.length : Int)))) default (impl_sortedInts_p e.order)).bind fun x36 =>
      (opt (!((e.segment == e.segments) || (v34 == (e.order.length : Int)))) default (impl_sortedInts_p v33)).bind fun x38 =>
      (opt (!((e.segment == e.segments) || (v34 == (e.order.length : Int)))) default (slices_Equal_int_p x36 x38)).bind fun x40 =>
      cond (((e.segment == e.segments) || (v34 == (e.order.length : Int))) || (!x40))
        (some false)
        (impl_isEventOrder_l2 e v34 e.order 0))
  | y2 :: ys3, k1, v33, v34 =>
    (impl_scoredIn_p e y2.skater).bind fun x55 =>
    (opt (!(decide (x55 > (w64 (e.segment + 1))))) default (impl_isThere_p e y2.skater)).bind fun x57 =>
    cond (decide (x55 > (w64 (e.segment + 1))) || (x57 && decide (x55 < e.segment)))
      (some false)
      (cond (decide (x55 > e.segment))
        ((opt (!(decide (x55 > e.segment))) default (impl_isThere_p e y2.skater)).bind fun x59 =>
        cond (decide (x55 > e.segment) || x59)
          ((need (fitsB 8 (v33.length + ([y2.skater]).length))).bind fun u61 =>
          impl_isEventOrder_l1 e ys3 (k1 + 1) (v33 ++ [y2.skater]) (w64 (v34 + 1)))
          (impl_isEventOrder_l1 e ys3 (k1 + 1) v33 (w64 (v34 + 1))))
        ((opt (!(decide (x55 > e.segment))) default (impl_isThere_p e y2.skater)).bind fun x63 =>
        cond (decide (x55 > e.segment) || x63)
          ((need (fitsB 8 (v33.length + ([y2.skater]).length))).bind fun u65 =>
          impl_isEventOrder_l1 e ys3 (k1 + 1) (v33 ++ [y2.skater]) v34)
          (impl_isEventOrder_l1 e ys3 (k1 + 1) v33 v34)))
def impl_isEventOrder_p (e : Event) : Option Bool :=
  impl_isEventOrder_l1 e e.entrants 0 [] 0
theorem impl_isEventOrder_ok (e : Event) (r : Bool) (hH : impl_isEventOrder_p e = some r) : SpecR Tryz.prog 89 [.g (encEvent e)] (.v (.bool r)) := by
 refine fn_ok T Tryz.func89 rfl (by decide) rfl ?_
 refine AW.seq (AW.region ?_)
 refine AO.step rfl (box_ok T rfl 1 rfl rfl rfl rfl) ?_
 refine AO.pu T ?_
 refine AO.nil (AW.seq ?_)
 refine AW.region ?_
 refine AO.step rfl (mk0_ok T rfl rfl rfl rfl) ?_
 iterate 2 refine AO.pu T ?_
 refine AO.nil ?_
 iterate 2 refine AW.seq ?_
 refine AW.region ?_
 iterate 2 refine AO.pu T ?_
 refine AO.val rfl rfl (len_map_ok T rfl rfl rfl) ?_
 refine AO.pu T ?_
 refine AO.nil ?_
 refine AW.block ?_
 refine AW.loopS (fun s : Nat × (List Int) × Int => (⟨[(1, .p 1 0), (3, .R 9), (4, s.2.2), (12, .s (List.map encEntrant e.entrants)), (13, (e.entrants.length : Int)), (14, (s.1 : Int))], [(1, .box [e.segments, e.size, e.key, .s (List.map encEntrant e.entrants), .s (List.map encInt e.gone), e.segment, .s (List.map encInt e.order), .s (List.map encResult e.results)]), (9, .row 1 (List.map encInt s.2.1))], 104, []⟩ : St)) (fun s => s.1 ≤ e.entrants.length ∧ impl_isEventOrder_l1 e (e.entrants.drop s.1) s.1 s.2.1 s.2.2 = some r) (fun s => e.entrants.length - s.1) (0, [], 0) ⟨Nat.zero_le _, hH⟩ ?_ ?_
 refine Le.trans (Le.void 3 9 1 rfl rfl) ?_
 exact Le.ct 0 0
 rintro ⟨k1, v33, v34⟩ ⟨hk, hH⟩
 replace hH : impl_isEventOrder_l1 e (e.entrants.drop k1) k1 v33 v34 = some r := hH
 try dsimp only
 refine AW.boundM (t := 12) (l := e.entrants) rfl (fun hb5 => ?_)
 rcases hd4 : e.entrants.drop k1 with _ | ⟨y2, ys3⟩
 rw [hd4, impl_isEventOrder_l1] at hH
 have hlt6 := drop_ge hd4
 refine AW.seq (AW.region ?_)
 refine AO.pu T ?_
 refine AO.nil (AW.seq ?_)
 refine AW.condF' (b := decide ((k1 : Int) < (e.entrants.length : Int))) rfl (rngF hlt6) ?_
 refine AW.exit ?_
 iterate 2 refine AW.seq ?_
 refine AW.region ?_
 iterate 2 refine AO.pu T ?_
 refine AO.val rfl rfl (len_map_ok T rfl rfl rfl) ?_
 refine AO.pu T ?_
 refine AO.nil ?_
 refine AW.cond (b := ((e.order.length : Int) == 0)) rfl (fun hc => ?_) (fun hc => ?_)
 replace hH := condT hc hH
 refine AW.seq (AW.region ?_)
 iterate 3 refine AO.pu T ?_
 refine AO.nil (AW.ret ?_)
 cases someE hH
 exact retQ.i [] rfl (.c (.c .v))
 replace hH := condF hc hH
 refine AW.skip ?_
 iterate 2 refine AW.seq ?_
 obtain ⟨x36, hx37, hH⟩ := bindE hH
 obtain ⟨x38, hx39, hH⟩ := bindE hH
 obtain ⟨x40, hx41, hH⟩ := bindE hH
 refine AW.region ?_
 iterate 6 refine AO.pu T ?_
 iterate 2 refine AO.pureG T [] rfl trivial rfl rfl ?_
 refine AO.pureG T [74] rfl ⟨fun h => h, trivial⟩ rfl rfl ?_
 refine AO.guard [75] rfl ⟨fun h => h, trivial⟩ (fun hg => len_map_ok T rfl rfl rfl) rfl ?_
 refine AO.pureG T [73, 76] rfl ⟨fun h => h, fun h => h, trivial⟩ rfl rfl ?_
 refine AO.val rfl rfl (pick_or rfl rfl rfl rfl) ?_
 refine AO.pu T ?_
 refine AO.pureG T [] rfl trivial rfl rfl ?_
 refine AO.pureG T [80] rfl ⟨fun h => h, trivial⟩ rfl rfl ?_
 refine AO.guard [81] rfl ⟨fun h => h, trivial⟩ (fun hg => callF_ok rfl rfl rfl rfl (impl_sortedInts_ok _ _ (optT hx37 hg)) (.c (.c (.map fun y => .vs rfl)))) rfl ?_
 refine AO.pureG T [] rfl trivial rfl rfl ?_
 refine AO.guard [83] rfl ⟨fun h => h, trivial⟩ (fun hg => callLF_ok rfl rfl rfl (es := [.s (List.map encInt v33)]) ⟨(.rowR rfl (.map fun y => .vs rfl)), trivial⟩ (impl_sortedInts_ok _ _ (optT hx39 hg)) (zfree_map (fun y => (.cons (zfree_v _) .nil))) (.c (.c (.map fun y => .vs rfl)))) rfl ?_
 refine AO.guard [82, 84] rfl ⟨fun h => h, fun h => h, trivial⟩ (fun hg => callV_ok rfl rfl rfl rfl (slices_Equal_int_ok _ _ _ (optT hx41 hg)) rfl) rfl ?_
 refine AO.pureG T [85] rfl ⟨fun h => h, trivial⟩ rfl rfl ?_
 refine AO.val rfl rfl (pick_or rfl rfl rfl rfl) ?_
 refine AO.nil ?_
 refine AW.le (Le.ct 0 0 (σ' := (⟨[(1, .p 1 0), (4, v34), (87, .v (.bool (((e.segment == e.segments) || (v34 == (e.order.length : Int))) || (!x40))))], [(1, .box [e.segments, e.size, e.key, .s (List.map encEntrant e.entrants), .s (List.map encInt e.gone), e.segment, .s (List.map encInt e.order), .s (List.map encResult e.results)])], 104, []⟩ : St))) ?_
 refine AW.cond (b := (((e.segment == e.segments) || (v34 == (e.order.length : Int))) || (!x40))) rfl (fun hc => ?_) (fun hc => ?_)
 replace hH := condT hc hH
 refine AW.seq (AW.region ?_)
 refine AO.pu T ?_
 refine AO.nil (AW.ret ?_)
 cases someE hH
 exact retQ.i [] rfl (.c (.c .v))
 replace hH := condF hc hH
 refine AW.skip ?_
 iterate 2 refine AW.seq ?_
 refine AW.region ?_
 iterate 2 refine AO.pu T ?_
 refine AO.val rfl rfl (len_map_ok T rfl rfl rfl) ?_
 refine AO.pu T ?_
 refine AO.nil ?_
 refine AW.block ?_
 refine AW.loopS (fun s : Nat => (⟨[(1, .p 1 0), (4, v34), (89, .s (List.map encInt e.order)), (90, (e.order.length : Int)), (91, (s : Int))], [(1, .box [e.segments, e.size, e.key, .s (List.map encEntrant e.entrants), .s (List.map encInt e.gone), e.segment, .s (List.map encInt e.order), .s (List.map encResult e.results)])], 104, []⟩ : St)) (fun s => s ≤ e.order.length ∧ impl_isEventOrder_l2 e v34 (e.order.drop s) s = some r) (fun s => e.order.length - s) 0 ⟨Nat.zero_le _, hH⟩ ?_ ?_
 exact Le.ct 0 0
 rintro k42 ⟨hk, hH⟩
 replace hH : impl_isEventOrder_l2 e v34 (e.order.drop k42) k42 = some r := hH
 try dsimp only
 refine AW.boundM (t := 89) (l := e.order) rfl (fun hb46 => ?_)
 rcases hd45 : e.order.drop k42 with _ | ⟨y43, ys44⟩
 rw [hd45, impl_isEventOrder_l2] at hH
 have hlt47 := drop_ge hd45
 refine AW.seq (AW.region ?_)
 refine AO.pu T ?_
 refine AO.nil (AW.seq ?_)
 refine AW.condF' (b := decide ((k42 : Int) < (e.order.length : Int))) rfl (rngF hlt47) ?_
 refine AW.exit ?_
 refine AW.seq (AW.region ?_)
 refine AO.pu T ?_
 refine AO.nil (AW.ret ?_)
 cases someE hH
 exact retQ.i [] rfl (.c (.c .v))
 rw [hd45, impl_isEventOrder_l2] at hH
 have hlt47 := drop_lt hd45
 refine AW.seq (AW.region ?_)
 refine AO.pu T ?_
 refine AO.nil (AW.seq ?_)
 refine AW.condT' (b := decide ((k42 : Int) < (e.order.length : Int))) rfl (rngT hlt47) ?_
 refine AW.skip ?_
 refine AW.seq ?_
 refine AW.block ?_
 refine AW.seq (AW.region ?_)
 refine AO.pu T ?_
 refine AO.val rfl rfl (ix_map_ok T rfl rfl rfl rfl rfl (getI_drop hd45) rfl) ?_
 iterate 3 refine AO.pu T ?_
 refine AO.nil (AW.seq ?_)
 obtain ⟨x53, hx54, hH⟩ := bindE hH
 refine AW.region ?_
 refine AO.pu T (d := .g [e.segments, e.size, e.key, .s (List.map encEntrant e.entrants), .s (List.map encInt e.gone), e.segment, .s (List.map encInt e.order), .s (List.map encResult e.results)]) ?_
 refine AO.pu T ?_
 refine AO.val rfl rfl (callV_ok rfl rfl rfl rfl (impl_isScored_ok _ _ _ (hx54)) rfl) ?_
 iterate 4 refine AO.pu T ?_
 refine AO.nil ?_
 refine AW.cond (b := (!(x53 == decide ((k42 : Int) < v34)))) rfl (fun hc => ?_) (fun hc => ?_)
 replace hH := condT hc hH
 refine AW.seq (AW.region ?_)
 refine AO.pu T ?_
 refine AO.nil (AW.ret ?_)
 cases someE hH
 exact retQ.i [] rfl (.c (.c .v))
 replace hH := condF hc hH
 refine AW.skip ?_
 refine AW.region ?_
 refine AO.val rfl rfl (ar_ok rfl rfl rfl rfl (inI_succ hlt47 hb46)) ?_
 refine AO.pu T ?_
 refine AO.nil ?_
 refine ⟨k42 + 1, ⟨Nat.succ_le_of_lt hlt47, (by rw [drop_succ_of hd45]; exact hH)⟩, (by have := hlt47; dsimp only; omega), ?_⟩
 exact Le.ct 0 0
 rw [hd4, impl_isEventOrder_l1] at hH
 have hlt6 := drop_lt hd4
 refine AW.seq (AW.region ?_)
 refine AO.pu T ?_
 refine AO.nil (AW.seq ?_)
 refine AW.condT' (b := decide ((k1 : Int) < (e.entrants.length : Int))) rfl (rngT hlt6) ?_
 refine AW.skip ?_
 refine AW.seq ?_
 refine AW.block ?_
 refine AW.seq (AW.region ?_)
 refine AO.val rfl rfl (ix_map_ok T rfl rfl rfl rfl rfl (getI_drop hd4) rfl) ?_
 refine AO.pu T (d := .g [y2.skater, y2.rank]) ?_
 refine AO.step rfl (alloc_ok T rfl 12 rfl rfl rfl rfl rfl) ?_
 refine AO.se T [y2.skater, y2.rank] ?_
 refine AO.nil (AW.seq ?_)
 obtain ⟨x55, hx56, hH⟩ := bindE hH
 refine AW.region ?_
 refine AO.pu T (d := .g [e.segments, e.size, e.key, .s (List.map encEntrant e.entrants), .s (List.map encInt e.gone), e.segment, .s (List.map encInt e.order), .s (List.map encResult e.results)]) ?_
 iterate 2 refine AO.pu T ?_
 refine AO.val rfl rfl (callV_ok rfl rfl rfl rfl (impl_scoredIn_ok _ _ _ (hx56)) rfl) ?_
 refine AO.pu T ?_
 refine AO.nil ?_
 iterate 2 refine AW.seq ?_
 obtain ⟨x57, hx58, hH⟩ := bindE hH
 refine AW.region ?_
 iterate 3 refine AO.pu T ?_
 refine AO.val rfl rfl (arw_ok rfl rfl rfl rfl) ?_
 iterate 2 refine AO.pu T ?_
 refine AO.pureG T (d := .g [e.segments, e.size, e.key, .s (List.map encEntrant e.entrants), .s (List.map encInt e.gone), e.segment, .s (List.map encInt e.order), .s (List.map encResult e.results)]) [] rfl trivial rfl rfl ?_
 refine AO.pureG T [] rfl trivial rfl rfl ?_
 refine AO.pureG T [29] rfl ⟨fun h => h, trivial⟩ rfl rfl ?_
 refine AO.guard [28, 30] rfl ⟨fun h => h, fun h => h, trivial⟩ (fun hg => callV_ok rfl rfl rfl rfl (impl_isThere_ok _ _ _ (optT hx58 hg)) rfl) rfl ?_
 refine AO.pureG T [31] rfl ⟨fun h => h, trivial⟩ rfl rfl ?_
 iterate 2 refine AO.pureG T [] rfl trivial rfl rfl ?_
 refine AO.pureG T [34] rfl ⟨fun h => h, trivial⟩ rfl rfl ?_
 refine AO.pureG T [33, 35] rfl ⟨fun h => h, fun h => h, trivial⟩ rfl rfl ?_
 refine AO.guard [32] rfl ⟨fun h => h, trivial⟩ (fun hg => pick_and rfl rfl rfl (by rw [hg]; exact Bool.true_and _)) rfl ?_
 refine AO.val rfl rfl (pick_or rfl rfl rfl rfl) ?_
 refine AO.nil ?_
 refine AW.le (Le.ct 0 0 (σ' := (⟨[(1, .p 1 0), (3, .R 9), (4, v34), (6, .p 12 0), (7, x55), (12, .s (List.map encEntrant e.entrants)), (13, (e.entrants.length : Int)), (14, (k1 : Int)), (38, .v (.bool (decide (x55 > (w64 (e.segment + 1))) || (x57 && decide (x55 < e.segment)))))], [(1, .box [e.segments, e.size, e.key, .s (List.map encEntrant e.entrants), .s (List.map encInt e.gone), e.segment, .s (List.map encInt e.order), .s (List.map encResult e.results)]), (9, .row 1 (List.map encInt v33)), (12, .box [y2.skater, y2.rank])], 104, []⟩ : St))) ?_
 refine AW.cond (b := (decide (x55 > (w64 (e.segment + 1))) || (x57 && decide (x55 < e.segment)))) rfl (fun hc => ?_) (fun hc => ?_)
 replace hH := condT hc hH
 refine AW.seq (AW.region ?_)
 refine AO.pu T ?_
 refine AO.nil (AW.ret ?_)
 cases someE hH
 exact retQ.i [] rfl (.c (.c .v))
 replace hH := condF hc hH
 refine AW.skip ?_
 iterate 2 refine AW.seq ?_
 refine AW.region ?_
 iterate 4 refine AO.pu T ?_
 refine AO.nil ?_
 refine AW.cond (b := decide (x55 > e.segment)) rfl (fun hc => ?_) (fun hc => ?_)
 replace hH := condT hc hH
 refine AW.region ?_
 refine AO.pu T ?_
 refine AO.val rfl rfl (arw_ok rfl rfl rfl rfl) ?_
 refine AO.pu T ?_
 refine AO.nil (AW.seq ?_)
 obtain ⟨x59, hx60, hH⟩ := bindE hH
 refine AW.region ?_
 iterate 5 refine AO.pu T ?_
 refine AO.pureG T (d := .g [e.segments, e.size, e.key, .s (List.map encEntrant e.entrants), .s (List.map encInt e.gone), e.segment, .s (List.map encInt e.order), .s (List.map encResult e.results)]) [] rfl trivial rfl rfl ?_
 refine AO.pureG T [] rfl trivial rfl rfl ?_
 refine AO.pureG T [51] rfl ⟨fun h => h, trivial⟩ rfl rfl ?_
 refine AO.guard [50, 52] rfl ⟨fun h => h, fun h => h, trivial⟩ (fun hg => callV_ok rfl rfl rfl rfl (impl_isThere_ok _ _ _ (optT hx60 hg)) rfl) rfl ?_
 refine AO.val rfl rfl (pick_or rfl rfl rfl rfl) ?_
 refine AO.nil ?_
 refine AW.cond (b := (decide (x55 > e.segment) || x59)) rfl (fun hc => ?_) (fun hc => ?_)
 replace hH := condT hc hH
 obtain ⟨u61, hx62, hH⟩ := bindE hH
 refine AW.region ?_
 iterate 3 refine AO.pu T ?_
 refine AO.step rfl (mk_map_ok T rfl 13 rfl rfl rfl rfl rfl (f := encInt) (l := [y2.skater]) rfl rfl (fun _ => rfl) rfl rfl rfl rfl rfl) ?_
 refine AO.step rfl (app_rv_map T rfl 14 rfl rfl rfl rfl rfl (by decide) rfl rfl rfl rfl (fun _ => rfl) (needT (hx62)) rfl rfl) ?_
 refine AO.pu T ?_
 refine AO.nil ?_
 refine AW.region ?_
 refine AO.val rfl rfl (ar_ok rfl rfl rfl rfl (inI_succ hlt6 hb5)) ?_
 refine AO.pu T ?_
 refine AO.nil ?_
 refine ⟨(k1 + 1, (v33 ++ [y2.skater]), w64 (v34 + 1)), ⟨Nat.succ_le_of_lt hlt6, (by rw [drop_succ_of hd4]; exact hH)⟩, (by have := hlt6; dsimp only; omega), ?_⟩
 exact Le.ct 14 9
 replace hH := condF hc hH
 refine AW.skip ?_
 refine AW.region ?_
 refine AO.val rfl rfl (ar_ok rfl rfl rfl rfl (inI_succ hlt6 hb5)) ?_
 refine AO.pu T ?_
 refine AO.nil ?_
 refine ⟨(k1 + 1, v33, w64 (v34 + 1)), ⟨Nat.succ_le_of_lt hlt6, (by rw [drop_succ_of hd4]; exact hH)⟩, (by have := hlt6; dsimp only; omega), ?_⟩
 exact Le.ct 0 0
 replace hH := condF hc hH
 refine AW.skip ?_
 refine AW.seq ?_
 obtain ⟨x63, hx64, hH⟩ := bindE hH
 refine AW.region ?_
 iterate 5 refine AO.pu T ?_
 refine AO.pureG T (d := .g [e.segments, e.size, e.key, .s (List.map encEntrant e.entrants), .s (List.map encInt e.gone), e.segment, .s (List.map encInt e.order), .s (List.map encResult e.results)]) [] rfl trivial rfl rfl ?_
 refine AO.pureG T [] rfl trivial rfl rfl ?_
 refine AO.pureG T [51] rfl ⟨fun h => h, trivial⟩ rfl rfl ?_
 refine AO.guard [50, 52] rfl ⟨fun h => h, fun h => h, trivial⟩ (fun hg => callV_ok rfl rfl rfl rfl (impl_isThere_ok _ _ _ (optT hx64 hg)) rfl) rfl ?_
 refine AO.val rfl rfl (pick_or rfl rfl rfl rfl) ?_
 refine AO.nil ?_
 refine AW.cond (b := (decide (x55 > e.segment) || x63)) rfl (fun hc => ?_) (fun hc => ?_)
 replace hH := condT hc hH
 obtain ⟨u65, hx66, hH⟩ := bindE hH
 refine AW.region ?_
 iterate 3 refine AO.pu T ?_
 refine AO.step rfl (mk_map_ok T rfl 15 rfl rfl rfl rfl rfl (f := encInt) (l := [y2.skater]) rfl rfl (fun _ => rfl) rfl rfl rfl rfl rfl) ?_
 refine AO.step rfl (app_rv_map T rfl 16 rfl rfl rfl rfl rfl (by decide) rfl rfl rfl rfl (fun _ => rfl) (needT (hx66)) rfl rfl) ?_
 refine AO.pu T ?_
 refine AO.nil ?_
 refine AW.region ?_
 refine AO.val rfl rfl (ar_ok rfl rfl rfl rfl (inI_succ hlt6 hb5)) ?_
 refine AO.pu T ?_
 refine AO.nil ?_
 refine ⟨(k1 + 1, (v33 ++ [y2.skater]), v34), ⟨Nat.succ_le_of_lt hlt6, (by rw [drop_succ_of hd4]; exact hH)⟩, (by have := hlt6; dsimp only; omega), ?_⟩
 exact Le.ct 16 9
 replace hH := condF hc hH
 refine AW.skip ?_
 refine AW.region ?_
 refine AO.val rfl rfl (ar_ok rfl rfl rfl rfl (inI_succ hlt6 hb5)) ?_
 refine AO.pu T ?_
 refine AO.nil ?_
 refine ⟨(k1 + 1, v33, v34), ⟨Nat.succ_le_of_lt hlt6, (by rw [drop_succ_of hd4]; exact hH)⟩, (by have := hlt6; dsimp only; omega), ?_⟩
 exact Le.ct 0 0

def impl_IsEvent_p (e : Event) : Option Bool :=
  (impl_within_p e.segments 1 3).bind fun x1 =>
  (opt x1 default (impl_isGroupSize_p e.size)).bind fun x3 =>
  (opt (x1 && x3) default (impl_isKey_p e.key)).bind fun x5 =>
  (opt ((x1 && x3) && x5) default (impl_within_p e.segment 0 e.segments)).bind fun x7 =>
  (opt (((x1 && x3) && x5) && x7) default (impl_isOrder_p e.order)).bind fun x9 =>
  (opt ((((x1 && x3) && x5) && x7) && x9) default (impl_hasEntrants_p e)).bind fun x11 =>
  (opt (((((x1 && x3) && x5) && x7) && x9) && x11) default (impl_isEventOrder_p e)).bind fun x13 =>
  some ((((((x1 && x3) && x5) && x7) && x9) && x11) && x13)
theorem impl_IsEvent_ok (e : Event) (r : Bool) (hH : impl_IsEvent_p e = some r) : SpecR Tryz.prog 32 [.g (encEvent e)] (.v (.bool r)) := by
 refine fn_ok T Tryz.func32 rfl (by decide) rfl ?_
 refine AW.seq (AW.region ?_)
 refine AO.step rfl (box_ok T rfl 1 rfl rfl rfl rfl) ?_
 refine AO.pu T ?_
 refine AO.nil (AW.seq ?_)
 obtain ⟨x1, hx2, hH⟩ := bindE hH
 obtain ⟨x3, hx4, hH⟩ := bindE hH
 obtain ⟨x5, hx6, hH⟩ := bindE hH
 obtain ⟨x7, hx8, hH⟩ := bindE hH
 obtain ⟨x9, hx10, hH⟩ := bindE hH
 obtain ⟨x11, hx12, hH⟩ := bindE hH
 obtain ⟨x13, hx14, hH⟩ := bindE hH
 refine AW.region ?_
 iterate 2 refine AO.pu T ?_
 refine AO.val rfl rfl (callV_ok rfl rfl rfl rfl (impl_within_ok _ _ _ _ (hx2)) rfl) ?_
 refine AO.pu T ?_
 refine AO.pureG T [] rfl trivial rfl rfl ?_
 refine AO.pureG T [7] rfl ⟨fun h => h, trivial⟩ rfl rfl ?_
 refine AO.guard [8] rfl ⟨fun h => h, trivial⟩ (fun hg => callV_ok rfl rfl rfl rfl (impl_isGroupSize_ok _ _ (optT hx4 hg)) rfl) rfl ?_
 refine AO.val rfl rfl (pick_and rfl rfl rfl rfl) ?_
 refine AO.pu T ?_
 refine AO.pureG T [] rfl trivial rfl rfl ?_
 refine AO.pureG T [12] rfl ⟨fun h => h, trivial⟩ rfl rfl ?_
 refine AO.guard [13] rfl ⟨fun h => h, trivial⟩ (fun hg => callV_ok rfl rfl rfl rfl (impl_isKey_ok _ _ (optT hx6 hg)) rfl) rfl ?_
 refine AO.val rfl rfl (pick_and rfl rfl rfl rfl) ?_
 refine AO.pu T ?_
 refine AO.pureG T [] rfl trivial rfl rfl ?_
 refine AO.pureG T [17] rfl ⟨fun h => h, trivial⟩ rfl rfl ?_
 refine AO.pureG T [] rfl trivial rfl rfl ?_
 refine AO.pureG T [19] rfl ⟨fun h => h, trivial⟩ rfl rfl ?_
 refine AO.guard [18, 20] rfl ⟨fun h => h, fun h => h, trivial⟩ (fun hg => callV_ok rfl rfl rfl rfl (impl_within_ok _ _ _ _ (optT hx8 hg)) rfl) rfl ?_
 refine AO.val rfl rfl (pick_and rfl rfl rfl rfl) ?_
 refine AO.pu T ?_
 refine AO.pureG T [] rfl trivial rfl rfl ?_
 refine AO.pureG T [24] rfl ⟨fun h => h, trivial⟩ rfl rfl ?_
 refine AO.guard [25] rfl ⟨fun h => h, trivial⟩ (fun hg => callV_ok rfl rfl rfl rfl (impl_isOrder_ok _ _ (optT hx10 hg)) rfl) rfl ?_
 refine AO.val rfl rfl (pick_and rfl rfl rfl rfl) ?_
 refine AO.pu T ?_
 refine AO.pureG T (d := .g [e.segments, e.size, e.key, .s (List.map encEntrant e.entrants), .s (List.map encInt e.gone), e.segment, .s (List.map encInt e.order), .s (List.map encResult e.results)]) [] rfl trivial rfl rfl ?_
 refine AO.guard [29] rfl ⟨fun h => h, trivial⟩ (fun hg => callV_ok rfl rfl rfl rfl (impl_hasEntrants_ok _ _ (optT hx12 hg)) rfl) rfl ?_
 refine AO.val rfl rfl (pick_and rfl rfl rfl rfl) ?_
 refine AO.pu T ?_
 refine AO.pureG T (d := .g [e.segments, e.size, e.key, .s (List.map encEntrant e.entrants), .s (List.map encInt e.gone), e.segment, .s (List.map encInt e.order), .s (List.map encResult e.results)]) [] rfl trivial rfl rfl ?_
 refine AO.guard [33] rfl ⟨fun h => h, trivial⟩ (fun hg => callV_ok rfl rfl rfl rfl (impl_isEventOrder_ok _ _ (optT hx14 hg)) rfl) rfl ?_
 refine AO.val rfl rfl (pick_and rfl rfl rfl rfl) ?_
 refine AO.pu T ?_
 refine AO.nil ?_
 refine AW.le (Le.ct 0 0 (σ' := (⟨[(2, .v (.bool ((((((x1 && x3) && x5) && x7) && x9) && x11) && x13)))], [], 36, []⟩ : St))) ?_
 refine AW.ret ?_
 cases someE hH
 exact retQ.i [] rfl (.c (.c .v))

def impl_copyEvent_l1 (e : Event) : List Result → Nat → List Result → Option Event
  | [], k1, v16 =>
    (need (fitsB 16 e.entrants.length)).bind fun u18 =>
    (impl_copyInts_p e.gone).bind fun x20 =>
    (impl_copyInts_p e.order).bind fun x22 =>
    some (Event.mk e.segments e.size e.key e.entrants x20 e.segment x22 v16)
  | y2 :: ys3, k1, v16 =>
    (impl_copyInts_p y2.scores).bind fun x24 =>
    (need (fitsB 32 (v16.length + ([(Result.mk y2.skater x24)]).length))).bind fun u26 =>
    impl_copyEvent_l1 e ys3 (k1 + 1) (v16 ++ [(Result.mk y2.skater x24)])
def impl_copyEvent_p (e : Event) : Option Event :=
  impl_copyEvent_l1 e e.results 0 []
theorem impl_copyEvent_ok (e : Event) (r : Event) (hH : impl_copyEvent_p e = some r) : SpecR Tryz.prog 71 [.g (encEvent e)] (.g (encEventO r)) := by
 refine fn_ok T Tryz.func71 rfl (by decide) rfl ?_
 refine AW.seq (AW.region ?_)
 refine AO.step rfl (box_ok T rfl 1 rfl rfl rfl rfl) ?_
 refine AO.step rfl (alloc_ok T rfl 2 rfl rfl rfl rfl rfl) ?_
 refine AO.nil (AW.seq ?_)
 refine AW.region ?_
 refine AO.step rfl (mk0_ok T rfl rfl rfl rfl) ?_
 refine AO.pu T ?_
 refine AO.nil ?_
 iterate 2 refine AW.seq ?_
 refine AW.region ?_
 iterate 2 refine AO.pu T ?_
 refine AO.val rfl rfl (len_map_ok T rfl rfl rfl) ?_
 refine AO.pu T ?_
 refine AO.nil ?_
 refine AW.block ?_
 refine AW.loopS (fun s : Nat × (List Result) => (⟨[(1, .p 1 0), (2, .p 2 0), (3, .R 10), (8, .s (List.map encResult e.results)), (9, (e.results.length : Int)), (10, (s.1 : Int))], [(1, .box [e.segments, e.size, e.key, .s (List.map encEntrant e.entrants), .s (List.map encInt e.gone), e.segment, .s (List.map encInt e.order), .s (List.map encResult e.results)]), (2, .box [(0 : Int), (0 : Int), (0 : Int), .w 0 [], .w 0 [], (0 : Int), .w 0 [], .w 0 []]), (10, .row 2 (List.map encResultO s.2))], 40, []⟩ : St)) (fun s => s.1 ≤ e.results.length ∧ impl_copyEvent_l1 e (e.results.drop s.1) s.1 s.2 = some r) (fun s => e.results.length - s.1) (0, []) ⟨Nat.zero_le _, hH⟩ ?_ ?_
 refine Le.trans (Le.void 3 10 2 rfl rfl) ?_
 exact Le.ct 0 0
 rintro ⟨k1, v16⟩ ⟨hk, hH⟩
 replace hH : impl_copyEvent_l1 e (e.results.drop k1) k1 v16 = some r := hH
 try dsimp only
 refine AW.boundM (t := 8) (l := e.results) rfl (fun hb5 => ?_)
 rcases hd4 : e.results.drop k1 with _ | ⟨y2, ys3⟩
 rw [hd4, impl_copyEvent_l1] at hH
 have hlt6 := drop_ge hd4
 refine AW.seq (AW.region ?_)
 refine AO.pu T ?_
 refine AO.nil (AW.seq ?_)
 refine AW.condF' (b := decide ((k1 : Int) < (e.results.length : Int))) rfl (rngF hlt6) ?_
 refine AW.exit ?_
 refine AW.seq ?_
 obtain ⟨u18, hx19, hH⟩ := bindE hH
 refine AW.region ?_
 refine AO.step rfl (mk0_ok T rfl rfl rfl rfl) ?_
 iterate 2 refine AO.pu T ?_
 refine AO.step rfl (app_ws_map T rfl 11 rfl rfl rfl rfl rfl (by decide) (by decide) rfl rfl (fun _ => rfl) (needT (hx19)) rfl rfl) ?_
 iterate 2 refine AO.pu T ?_
 refine AO.se T [e.segments, e.size, e.key, .R 11, .s (List.map encInt e.gone), e.segment, .s (List.map encInt e.order), .s (List.map encResult e.results)] ?_
 refine AO.pu T ?_
 refine AO.se T [e.segments, e.size, e.key, .R 11, .s (List.map encInt e.gone), e.segment, .s (List.map encInt e.order), .R 10] ?_
 refine AO.nil (AW.seq ?_)
 obtain ⟨x20, hx21, hH⟩ := bindE hH
 obtain ⟨x22, hx23, hH⟩ := bindE hH
 refine AW.drawn 7 12 [] mix (by kernel_rfl) rfl ?_
 iterate 2 refine AD.pure T rfl rfl rfl ?_
 refine AD.q (FStep.call rfl rfl rfl rfl rfl (impl_copyInts_ok _ _ (hx21)) rfl rfl) (impT_names _ _) (impT_le _ _) rfl ?_
 iterate 2 refine AD.pure T rfl rfl rfl ?_
 refine AD.q (FStep.call rfl rfl rfl rfl rfl (impl_copyInts_ok _ _ (hx23)) rfl rfl) (impT_names _ _) (impT_le _ _) rfl ?_
 refine AD.pure T rfl rfl rfl ?_
 refine AD.nil ?_
 refine AO.se T [e.segments, e.size, e.key, .R 11, .R 12, e.segment, .s (List.map encInt e.order), .R 10] ?_
 refine AO.pu T ?_
 refine AO.se T [e.segments, e.size, e.key, .R 11, .R 12, e.segment, .R 13, .R 10] ?_
 refine AO.nil (AW.seq ?_)
 refine AW.region ?_
 refine AO.pu T (d := .g [e.segments, e.size, e.key, .R 11, .R 12, e.segment, .R 13, .R 10]) ?_
 refine AO.se T [e.segments, e.size, e.key, .R 11, .R 12, e.segment, .R 13, .R 10] ?_
 refine AO.nil (AW.ret ?_)
 cases someE hH
 exact retQ.i [11, 12, 13, 10] rfl (.c (.g (expLC_cons .v (expLC_cons .v (expLC_cons .v (expLC_cons (.rowR rfl) (expLC_cons (.rowR rfl) (expLC_cons .v (expLC_cons (.rowR rfl) (expLC_cons (.rowR rfl) (expLC_nil)))))))))))
 rw [hd4, impl_copyEvent_l1] at hH
 have hlt6 := drop_lt hd4
 refine AW.seq (AW.region ?_)
 refine AO.pu T ?_
 refine AO.nil (AW.seq ?_)
 refine AW.condT' (b := decide ((k1 : Int) < (e.results.length : Int))) rfl (rngT hlt6) ?_
 refine AW.skip ?_
 refine AW.seq ?_
 refine AW.block ?_
 refine AW.seq (AW.region ?_)
 refine AO.val rfl rfl (ix_map_ok T rfl rfl rfl rfl rfl (getI_drop hd4) rfl) ?_
 refine AO.pu T (d := .g [y2.skater, .s (List.map encInt y2.scores)]) ?_
 refine AO.step rfl (alloc_ok T rfl 14 rfl rfl rfl rfl rfl) ?_
 refine AO.se T [y2.skater, .s (List.map encInt y2.scores)] ?_
 refine AO.nil ?_
 obtain ⟨x24, hx25, hH⟩ := bindE hH
 obtain ⟨u26, hx27, hH⟩ := bindE hH
 refine AW.drawn 8 15 [] mix (by kernel_rfl) rfl ?_
 iterate 5 refine AD.pure T rfl rfl rfl ?_
 refine AD.q (FStep.call rfl rfl rfl rfl rfl (impl_copyInts_ok _ _ (hx25)) rfl rfl) (impT_names _ _) (impT_le _ _) rfl ?_
 refine AD.pured T (d := .g [y2.skater, .R 15]) rfl rfl rfl rfl ?_
 refine AD.k rfl rfl (FStep.mk_o T rfl rfl rfl rfl rfl rfl rfl rfl (f := encResultO) (l := [(Result.mk y2.skater x24)]) (ids := [15]) rfl rfl (fun _ => rfl) (by exact expLC_cons .v (expLC_cons (.rowR rfl) (expLC_nil))) (by decide) rfl rfl rfl rfl) rfl rfl rfl ?_
 refine AD.nil ?_
 refine AO.step rfl (app_rr_map T rfl 17 rfl rfl rfl rfl rfl (by decide) rfl rfl rfl rfl rfl (needT (hx27)) rfl rfl) ?_
 refine AO.pu T ?_
 refine AO.nil ?_
 refine AW.region ?_
 refine AO.val rfl rfl (ar_ok rfl rfl rfl rfl (inI_succ hlt6 hb5)) ?_
 refine AO.pu T ?_
 refine AO.nil ?_
 refine ⟨(k1 + 1, (v16 ++ [(Result.mk y2.skater x24)])), ⟨Nat.succ_le_of_lt hlt6, (by rw [drop_succ_of hd4]; exact hH)⟩, (by have := hlt6; dsimp only; omega), ?_⟩
 exact Le.ct 17 10

def impl_isRunning_p (e : Event) : Option Bool :=
  (impl_IsEvent_p e).bind fun x1 =>
  some (x1 && decide (e.segment < e.segments))
theorem impl_isRunning_ok (e : Event) (r : Bool) (hH : impl_isRunning_p e = some r) : SpecR Tryz.prog 61 [.g (encEvent e)] (.v (.bool r)) := by
 refine fn_ok T Tryz.func61 rfl (by decide) rfl ?_
 refine AW.seq (AW.region ?_)
 refine AO.step rfl (box_ok T rfl 1 rfl rfl rfl rfl) ?_
 refine AO.pu T ?_
 refine AO.nil (AW.seq ?_)
 obtain ⟨x1, hx2, hH⟩ := bindE hH
 refine AW.region ?_
 refine AO.pu T (d := .g [e.segments, e.size, e.key, .s (List.map encEntrant e.entrants), .s (List.map encInt e.gone), e.segment, .s (List.map encInt e.order), .s (List.map encResult e.results)]) ?_
 refine AO.val rfl rfl (callV_ok rfl rfl rfl rfl (impl_IsEvent_ok _ _ (hx2)) rfl) ?_
 refine AO.pu T ?_
 refine AO.pureG T [] rfl trivial rfl rfl ?_
 refine AO.pureG T [6] rfl ⟨fun h => h, trivial⟩ rfl rfl ?_
 refine AO.pureG T [] rfl trivial rfl rfl ?_
 refine AO.pureG T [8] rfl ⟨fun h => h, trivial⟩ rfl rfl ?_
 refine AO.pureG T [7, 9] rfl ⟨fun h => h, fun h => h, trivial⟩ rfl rfl ?_
 refine AO.val rfl rfl (pick_and rfl rfl rfl rfl) ?_
 refine AO.pu T ?_
 refine AO.nil (AW.ret ?_)
 cases someE hH
 exact retQ.i [] rfl (.c (.c .v))

def impl_EnterSkater_l1 (e : Event) (x : Entrant) (x3 : Event) : Nat → List Int → Int → Option ((Event × Bool))
  | 0, _, _ => none
  | k9 + 1, v16, v17 =>
    cond (decide (v17 < e.segments))
      ((need (fitsB 8 (v16.length + ([(-1)]).length))).bind fun u19 =>
      impl_EnterSkater_l1 e x x3 k9 (v16 ++ [(-1)]) (w64 (v17 + 1)))
      ((need (fitsB 32 (x3.results.length + ([(Result.mk x.skater v16)]).length))).bind fun u21 =>
      some ((Event.mk x3.segments x3.size x3.key (x3.entrants ++ [x]) x3.gone x3.segment x3.order (x3.results ++ [(Result.mk x.skater v16)])), true))
def impl_EnterSkater_p (fuel : Nat) (e : Event) (x : Entrant) : Option (Event × Bool) :=
  (impl_isRunning_p e).bind fun x1 =>
  cond (((!x1) || decide (e.segment > 0)) || decide ((e.order.length : Int) > 0))
    (some ((Event.mk 0 0 0 [] [] 0 [] []), false))
    ((impl_copyEvent_p e).bind fun x3 =>
    (need (fitsB 16 (x3.entrants.length + ([x]).length))).bind fun u5 =>
    (impl_AreEntrants_p (x3.entrants ++ [x])).bind fun x7 =>
    cond (!x7)
      (some ((Event.mk 0 0 0 [] [] 0 [] []), false))
      (impl_EnterSkater_l1 e x x3 fuel [] 0))
theorem impl_EnterSkater_ok (fuel : Nat) (e : Event) (x : Entrant) (r : (Event × Bool)) (hH : impl_EnterSkater_p fuel e x = some r) : SpecR Tryz.prog 38 [.g (encEvent e), .g (encEntrant x)] (.t [.g (encEventO r.1), .v (.bool r.2)]) := by
 refine fn_ok T Tryz.func38 rfl (by decide) rfl ?_
 refine AW.seq (AW.region ?_)
 refine AO.step rfl (box_ok T rfl 1 rfl rfl rfl rfl) ?_
 refine AO.step rfl (box_ok T rfl 2 rfl rfl rfl rfl) ?_
 refine AO.step rfl (alloc_ok T rfl 3 rfl rfl rfl rfl rfl) ?_
 refine AO.pu T ?_
 refine AO.nil ?_
 iterate 2 refine AW.seq ?_
 obtain ⟨x1, hx2, hH⟩ := bindE hH
 refine AW.region ?_
 refine AO.pu T (d := .g [e.segments, e.size, e.key, .s (List.map encEntrant e.entrants), .s (List.map encInt e.gone), e.segment, .s (List.map encInt e.order), .s (List.map encResult e.results)]) ?_
 refine AO.val rfl rfl (callV_ok rfl rfl rfl rfl (impl_isRunning_ok _ _ (hx2)) rfl) ?_
 iterate 2 refine AO.pu T ?_
 refine AO.pureG T [] rfl trivial rfl rfl ?_
 refine AO.pureG T [12] rfl ⟨fun h => h, trivial⟩ rfl rfl ?_
 refine AO.pureG T [13] rfl ⟨fun h => h, trivial⟩ rfl rfl ?_
 refine AO.val rfl rfl (pick_or rfl rfl rfl rfl) ?_
 refine AO.pu T ?_
 refine AO.pureG T [] rfl trivial rfl rfl ?_
 refine AO.pureG T [17] rfl ⟨fun h => h, trivial⟩ rfl rfl ?_
 refine AO.guard [18] rfl ⟨fun h => h, trivial⟩ (fun hg => len_map_ok T rfl rfl rfl) rfl ?_
 refine AO.pureG T [19] rfl ⟨fun h => h, trivial⟩ rfl rfl ?_
 refine AO.val rfl rfl (pick_or rfl rfl rfl rfl) ?_
 refine AO.nil ?_
 refine AW.cond (b := (((!x1) || decide (e.segment > 0)) || decide ((e.order.length : Int) > 0))) rfl (fun hc => ?_) (fun hc => ?_)
 replace hH := condT hc hH
 refine AW.seq (AW.region ?_)
 refine AO.pu T (d := .g [(0 : Int), (0 : Int), (0 : Int), .w 0 [], .w 0 [], (0 : Int), .w 0 [], .w 0 []]) ?_
 refine AO.se T [(0 : Int), (0 : Int), (0 : Int), .w 0 [], .w 0 [], (0 : Int), .w 0 [], .w 0 []] ?_
 refine AO.pu T ?_
 refine AO.nil (AW.ret ?_)
 cases someE hH
 exact retQ.i [] rfl (.t (expLG_cons (.g (expLC_cons .v (expLC_cons .v (expLC_cons .v (expLC_cons .nil (expLC_cons .nil (expLC_cons .v (expLC_cons .nil (expLC_cons .nil (expLC_nil)))))))))) (expLG_cons (.c .v) (expLG_nil))))
 replace hH := condF hc hH
 refine AW.skip ?_
 refine AW.seq ?_
 obtain ⟨x3, hx4, hH⟩ := bindE hH
 refine AW.region ?_
 refine AO.pu T (d := .g [e.segments, e.size, e.key, .s (List.map encEntrant e.entrants), .s (List.map encInt e.gone), e.segment, .s (List.map encInt e.order), .s (List.map encResult e.results)]) ?_
 refine AO.step rfl (call_ok rfl 4 rfl rfl rfl (impl_copyEvent_ok _ _ (hx4)) rfl rfl rfl) ?_
 refine AO.step rfl (alloc_ok T rfl 8 rfl rfl rfl rfl rfl) ?_
 refine AO.se T [x3.segments, x3.size, x3.key, .R 4, .R 5, x3.segment, .R 6, .R 7] ?_
 refine AO.nil (AW.seq ?_)
 obtain ⟨u5, hx6, hH⟩ := bindE hH
 refine AW.region ?_
 iterate 2 refine AO.pu T ?_
 refine AO.pu T (d := .g [x.skater, x.rank]) ?_
 refine AO.step rfl (mk_map_ok T rfl 9 rfl rfl rfl rfl rfl (f := encEntrant) (l := [x]) rfl rfl (fun _ => rfl) rfl rfl rfl rfl rfl) ?_
 refine AO.step rfl (app_rv_map T rfl 10 rfl rfl rfl rfl rfl (by decide) rfl rfl rfl rfl (fun _ => rfl) (needT (hx6)) rfl rfl) ?_
 refine AO.pu T ?_
 refine AO.se T [x3.segments, x3.size, x3.key, .R 10, .R 5, x3.segment, .R 6, .R 7] ?_
 refine AO.nil ?_
 refine AW.le (Le.ct 0 0 (σ' := (⟨[(2, .p 1 0), (3, .p 2 0), (4, .p 3 0), (6, .p 8 0)], [(1, .box [e.segments, e.size, e.key, .s (List.map encEntrant e.entrants), .s (List.map encInt e.gone), e.segment, .s (List.map encInt e.order), .s (List.map encResult e.results)]), (2, .box [x.skater, x.rank]), (3, .box [(0 : Int), (0 : Int), (0 : Int), .w 0 [], .w 0 [], (0 : Int), .w 0 [], .w 0 []]), (5, .row 1 (List.map encInt x3.gone)), (6, .row 1 (List.map encInt x3.order)), (7, .row 2 (List.map encResultO x3.results)), (8, .box [x3.segments, x3.size, x3.key, .R 10, .R 5, x3.segment, .R 6, .R 7]), (10, .row 2 (List.map encEntrant (x3.entrants ++ [x])))], 55, []⟩ : St))) ?_
 iterate 2 refine AW.seq ?_
 obtain ⟨x7, hx8, hH⟩ := bindE hH
 refine AW.region ?_
 iterate 2 refine AO.pu T ?_
 refine AO.val rfl rfl (callLV_ok rfl rfl rfl (es := [.s (List.map encEntrant (x3.entrants ++ [x]))]) ⟨(.rowR rfl (.map fun y => .vs rfl)), trivial⟩ (impl_AreEntrants_ok _ _ (hx8)) (zfree_v _) rfl) ?_
 refine AO.pu T ?_
 refine AO.nil ?_
 refine AW.cond (b := (!x7)) rfl (fun hc => ?_) (fun hc => ?_)
 replace hH := condT hc hH
 refine AW.seq (AW.region ?_)
 refine AO.pu T (d := .g [(0 : Int), (0 : Int), (0 : Int), .w 0 [], .w 0 [], (0 : Int), .w 0 [], .w 0 []]) ?_
 refine AO.se T [(0 : Int), (0 : Int), (0 : Int), .w 0 [], .w 0 [], (0 : Int), .w 0 [], .w 0 []] ?_
 refine AO.pu T ?_
 refine AO.nil (AW.ret ?_)
 cases someE hH
 exact retQ.i [] rfl (.t (expLG_cons (.g (expLC_cons .v (expLC_cons .v (expLC_cons .v (expLC_cons .nil (expLC_cons .nil (expLC_cons .v (expLC_cons .nil (expLC_cons .nil (expLC_nil)))))))))) (expLG_cons (.c .v) (expLG_nil))))
 replace hH := condF hc hH
 refine AW.skip ?_
 refine AW.seq (AW.region ?_)
 refine AO.step rfl (mk0_ok T rfl rfl rfl rfl) ?_
 refine AO.pu T ?_
 refine AO.nil ?_
 iterate 2 refine AW.seq ?_
 refine AW.region ?_
 iterate 3 refine AO.pu T ?_
 refine AO.nil ?_
 refine AW.block ?_
 refine AW.loopS (fun s : Nat × (List Int) × Int => (⟨[(3, .p 2 0), (4, .p 3 0), (6, .p 8 0), (7, .R 14), (38, e.segments), (39, s.2.2)], [(2, .box [x.skater, x.rank]), (3, .box [(0 : Int), (0 : Int), (0 : Int), .w 0 [], .w 0 [], (0 : Int), .w 0 [], .w 0 []]), (5, .row 1 (List.map encInt x3.gone)), (6, .row 1 (List.map encInt x3.order)), (7, .row 2 (List.map encResultO x3.results)), (8, .box [x3.segments, x3.size, x3.key, .R 10, .R 5, x3.segment, .R 6, .R 7]), (10, .row 2 (List.map encEntrant (x3.entrants ++ [x]))), (14, .row 1 (List.map encInt s.2.1))], 55, []⟩ : St)) (fun s => impl_EnterSkater_l1 e x x3 s.1 s.2.1 s.2.2 = some r) (fun s => s.1) (fuel, [], 0) hH ?_ ?_
 refine Le.trans (Le.void 7 14 1 rfl rfl) ?_
 exact Le.ct 0 0
 rintro ⟨k9, v16, v17⟩ hH
 replace hH : impl_EnterSkater_l1 e x x3 k9 v16 v17 = some r := hH
 try dsimp only
 rcases k9 with _ | k9
 cases (show none = some _ from hH)
 rw [impl_EnterSkater_l1] at hH
 refine AW.seq (AW.region ?_)
 refine AO.pu T ?_
 refine AO.nil (AW.seq ?_)
 refine AW.cond (b := decide (v17 < e.segments)) rfl (fun hc => ?_) (fun hc => ?_)
 replace hH := condT hc hH
 refine AW.skip ?_
 refine AW.seq ?_
 refine AW.block ?_
 obtain ⟨u19, hx20, hH⟩ := bindE hH
 refine AW.region ?_
 refine AO.pu T ?_
 refine AO.step rfl (mk_map_ok T rfl 15 rfl rfl rfl rfl rfl (f := encInt) (l := [(-1)]) rfl rfl (fun _ => rfl) rfl rfl rfl rfl rfl) ?_
 refine AO.step rfl (app_rv_map T rfl 16 rfl rfl rfl rfl rfl (by decide) rfl rfl rfl rfl (fun _ => rfl) (needT (hx20)) rfl rfl) ?_
 refine AO.pu T ?_
 refine AO.nil ?_
 refine AW.region ?_
 refine AO.val rfl rfl (arw_ok rfl rfl rfl rfl) ?_
 refine AO.pu T ?_
 refine AO.nil ?_
 refine ⟨(k9, (v16 ++ [(-1)]), w64 (v17 + 1)), hH, Nat.lt_succ_self _, ?_⟩
 exact Le.ct 16 14
 replace hH := condF hc hH
 refine AW.exit ?_
 refine AW.seq ?_
 obtain ⟨u21, hx22, hH⟩ := bindE hH
 refine AW.region ?_
 iterate 5 refine AO.pu T ?_
 refine AO.pu T (d := .g [x.skater, .R 14]) ?_
 refine AO.step rfl (mk_o_ok T rfl 17 rfl rfl rfl rfl rfl rfl (f := encResultO) (l := [(Result.mk x.skater v16)]) (ids := [14]) rfl rfl (fun _ => rfl) (by exact expLC_cons .v (expLC_cons (.rowR rfl) (expLC_nil))) (by decide) rfl rfl rfl rfl rfl) ?_
 refine AO.step rfl (app_rr_map T rfl 18 rfl rfl rfl rfl rfl (by decide) rfl rfl rfl rfl rfl (needT (hx22)) rfl rfl) ?_
 refine AO.pu T ?_
 refine AO.se T [x3.segments, x3.size, x3.key, .R 10, .R 5, x3.segment, .R 6, .R 18] ?_
 refine AO.nil (AW.seq ?_)
 refine AW.region ?_
 refine AO.pu T (d := .g [x3.segments, x3.size, x3.key, .R 10, .R 5, x3.segment, .R 6, .R 18]) ?_
 refine AO.se T [x3.segments, x3.size, x3.key, .R 10, .R 5, x3.segment, .R 6, .R 18] ?_
 refine AO.pu T ?_
 refine AO.nil (AW.ret ?_)
 cases someE hH
 exact retQ.i [10, 5, 6, 18] rfl (.t (expLG_cons (.g (expLC_cons .v (expLC_cons .v (expLC_cons .v (expLC_cons (.rowR rfl) (expLC_cons (.rowR rfl) (expLC_cons .v (expLC_cons (.rowR rfl) (expLC_cons (.rowR rfl) (expLC_nil)))))))))) (expLG_cons (.c .v) (expLG_nil))))

def slices_IndexFunc_int_l1 (f : Int → Option Bool) : List Int → Nat → Option Int
  | [], k1 =>
    some (-1)
  | y2 :: ys3, k1 =>
    (f y2).bind fun x12 =>
    cond x12
      (some (k1 : Int))
      (slices_IndexFunc_int_l1 f ys3 (k1 + 1))
def slices_IndexFunc_int_p (sA : List Int) (f : Int → Option Bool) : Option Int :=
  slices_IndexFunc_int_l1 f sA 0
theorem slices_IndexFunc_int_ok (sA : List Int) (f_f : Nat) (f_c : List D) (f_k : f_c.all D.capOk = true) (f : Int → Option Bool) (f_h : ∀ (a0 : Int) (q : Bool), f a0 = some q → SpecR Tryz.prog f_f ([.v (.int .i64 a0)] ++ f_c) (.v (.bool q))) (r : Int) (hH : slices_IndexFunc_int_p sA f = some r) : SpecR Tryz.prog 171 [.s (List.map encInt sA), .f f_f f_c] (.v (.int .i64 r)) := by
 have f_r := cap_cfree f_k
 refine fn_ok T Tryz.func171 rfl (by decide) rfl ?_
 refine AW.seq (AW.region ?_)
 refine AO.pu T ?_
 refine AO.nil ?_
 iterate 2 refine AW.seq ?_
 refine AW.region ?_
 refine AO.pu T ?_
 refine AO.val rfl rfl (len_map_ok T rfl rfl rfl) ?_
 refine AO.pu T ?_
 refine AO.nil ?_
 refine AW.block ?_
 refine AW.loopS (fun s : Nat => (⟨[(0, .s (List.map encInt sA)), (1, .f f_f f_c), (7, (sA.length : Int)), (8, (s : Int))], [], 19, []⟩ : St)) (fun s => s ≤ sA.length ∧ slices_IndexFunc_int_l1 f (sA.drop s) s = some r) (fun s => sA.length - s) 0 ⟨Nat.zero_le _, hH⟩ ?_ ?_
 exact Le.cut 0 0 rfl ⟨⟨_, rfl, rfl⟩, ⟨_, rfl, ren_fF f_r⟩, ⟨_, rfl, rfl⟩, ⟨_, rfl, rfl⟩, trivial⟩ (by repeat' (first | exact trivial | refine ⟨⟨_, rfl, rfl⟩, ?_⟩)) (andT (allC rfl (allC (known_fF f_r) (allC rfl (allC rfl allN)))) rfl)
 rintro k1 ⟨hk, hH⟩
 replace hH : slices_IndexFunc_int_l1 f (sA.drop k1) k1 = some r := hH
 try dsimp only
 refine AW.boundM (t := 0) (l := sA) rfl (fun hb5 => ?_)
 rcases hd4 : sA.drop k1 with _ | ⟨y2, ys3⟩
 rw [hd4, slices_IndexFunc_int_l1] at hH
 have hlt6 := drop_ge hd4
 refine AW.seq (AW.region ?_)
 refine AO.pu T ?_
 refine AO.nil (AW.seq ?_)
 refine AW.condF' (b := decide ((k1 : Int) < (sA.length : Int))) rfl (rngF hlt6) ?_
 refine AW.exit ?_
 refine AW.seq (AW.region ?_)
 refine AO.pu T ?_
 refine AO.nil (AW.ret ?_)
 cases someE hH
 exact retQ.i [] rfl (.c (.c .v))
 rw [hd4, slices_IndexFunc_int_l1] at hH
 have hlt6 := drop_lt hd4
 refine AW.seq (AW.region ?_)
 refine AO.pu T ?_
 refine AO.nil (AW.seq ?_)
 refine AW.condT' (b := decide ((k1 : Int) < (sA.length : Int))) rfl (rngT hlt6) ?_
 refine AW.skip ?_
 refine AW.seq ?_
 refine AW.block ?_
 refine AW.seq (AW.region ?_)
 iterate 2 refine AO.pu T ?_
 refine AO.nil (AW.seq ?_)
 obtain ⟨x12, hx13, hH⟩ := bindE hH
 refine AW.region ?_
 iterate 3 refine AO.pu T ?_
 refine AO.val rfl rfl (ix_map_ok T rfl rfl rfl rfl rfl (getI_drop hd4) rfl) ?_
 refine AO.pu T ?_
 refine AO.val rfl rfl (callV_ok rfl rfl rfl (andT rfl (free_cfree f_r)) (f_h _ _ (hx13)) rfl) ?_
 refine AO.nil ?_
 refine AW.cond (b := x12) rfl (fun hc => ?_) (fun hc => ?_)
 replace hH := condT hc hH
 refine AW.seq (AW.region ?_)
 iterate 2 refine AO.pu T ?_
 refine AO.nil (AW.ret ?_)
 cases someE hH
 exact retQ.i [] rfl (.c (.c .v))
 replace hH := condF hc hH
 refine AW.skip ?_
 refine AW.region ?_
 refine AO.val rfl rfl (ar_ok rfl rfl rfl rfl (inI_succ hlt6 hb5)) ?_
 refine AO.pu T ?_
 refine AO.nil ?_
 refine ⟨k1 + 1, ⟨Nat.succ_le_of_lt hlt6, (by rw [drop_succ_of hd4]; exact hH)⟩, (by have := hlt6; dsimp only; omega), ?_⟩
 exact Le.cut 0 0 rfl ⟨⟨_, rfl, rfl⟩, ⟨_, rfl, ren_fF f_r⟩, ⟨_, rfl, rfl⟩, ⟨_, rfl, rfl⟩, trivial⟩ (by repeat' (first | exact trivial | refine ⟨⟨_, rfl, rfl⟩, ?_⟩)) (andT (allC rfl (allC (known_fF f_r) (allC rfl (allC rfl allN)))) rfl)

def slices_ContainsFunc_int_p (sA : List Int) (f : Int → Option Bool) : Option Bool :=
  (slices_IndexFunc_int_p sA f).bind fun x1 =>
  some (decide (x1 ≥ 0))
theorem slices_ContainsFunc_int_ok (sA : List Int) (f_f : Nat) (f_c : List D) (f_k : f_c.all D.capOk = true) (f : Int → Option Bool) (f_h : ∀ (a0 : Int) (q : Bool), f a0 = some q → SpecR Tryz.prog f_f ([.v (.int .i64 a0)] ++ f_c) (.v (.bool q))) (r : Bool) (hH : slices_ContainsFunc_int_p sA f = some r) : SpecR Tryz.prog 138 [.s (List.map encInt sA), .f f_f f_c] (.v (.bool r)) := by
 have f_r := cap_cfree f_k
 refine fn_ok T Tryz.func138 rfl (by decide) rfl ?_
 refine AW.seq (AW.region ?_)
 refine AO.pu T ?_
 refine AO.nil (AW.seq ?_)
 obtain ⟨x1, hx2, hH⟩ := bindE hH
 refine AW.region ?_
 iterate 2 refine AO.pu T ?_
 refine AO.val rfl rfl (callV_ok rfl rfl rfl (andT (allC rfl (allC f_r allN)) rfl) (slices_IndexFunc_int_ok _ f_f f_c f_k f f_h _ (hx2)) rfl) ?_
 iterate 2 refine AO.pu T ?_
 refine AO.nil (AW.ret ?_)
 cases someE hH
 exact retQ.i [] rfl (.c (.c .v))

def impl_behindStep_c1_p (skater : Int) (a : Event) : Option Bool :=
  (impl_isScored_p a skater).bind fun x1 =>
  some (!x1)
theorem impl_behindStep_c1_ok (skater : Int) (a : Event) (r : Bool) (hH : impl_behindStep_c1_p skater a = some r) : SpecR Tryz.prog 139 [skater, .q (encEvent a)] (.v (.bool r)) := by
 refine fn_ok T Tryz.func139 rfl (by decide) rfl ?_
 refine AW.seq (AW.region ?_)
 refine AO.pu T ?_
 refine AO.nil (AW.seq ?_)
 obtain ⟨x1, hx2, hH⟩ := bindE hH
 refine AW.region ?_
 refine AO.pu T (d := .g [a.segments, a.size, a.key, .s (List.map encEntrant a.entrants), .s (List.map encInt a.gone), a.segment, .s (List.map encInt a.order), .s (List.map encResult a.results)]) ?_
 refine AO.pu T ?_
 refine AO.val rfl rfl (callV_ok rfl rfl rfl rfl (impl_isScored_ok _ _ _ (hx2)) rfl) ?_
 iterate 2 refine AO.pu T ?_
 refine AO.nil (AW.ret ?_)
 cases someE hH
 exact retQ.i [] rfl (.c (.c .v))

def impl_behindStep_p (e : Event) : Option Event :=
  (opt (decide ((e.order.length : Int) > 0)) default (slices_ContainsFunc_int_p e.order (fun a0 => impl_behindStep_c1_p a0 e))).bind fun x1 =>
  cond (decide ((e.order.length : Int) > 0) && (!x1))
    (some (Event.mk e.segments e.size e.key e.entrants e.gone (w64 (e.segment + 1)) [] e.results))
    (some e)
theorem impl_behindStep_ok (e : Event) (r : Event) (hH : impl_behindStep_p e = some r) : SpecM Tryz.prog 92 [.g (encEventO e)] [.u] (.g (encEventO r)) := by
 refine fn_okM T Tryz.func92 rfl (by decide) rfl rfl ?_
 intro L
 show AW _ _ _ (⟨[(0, .g [e.segments, e.size, e.key, .R 1, .R 2, e.segment, .R 3, .R 4])], [(4, .row 2 (List.map encResultO e.results)), (3, .row 1 (List.map encInt e.order)), (2, .row 1 (List.map encInt e.gone)), (1, .row 2 (List.map encEntrant e.entrants))], 21, [(4, L 4), (3, L 3), (2, L 2), (1, L 1)]⟩ : St)
 refine AW.seq (AW.region ?_)
 refine AO.step rfl (box_ok T rfl 5 rfl rfl rfl rfl) ?_
 refine AO.step rfl (alloc_ok T rfl 6 rfl rfl rfl rfl rfl) ?_
 refine AO.nil ?_
 iterate 2 refine AW.seq ?_
 obtain ⟨x1, hx2, hH⟩ := bindE hH
 refine AW.region ?_
 iterate 2 refine AO.pu T ?_
 refine AO.val rfl rfl (len_row_ok T rfl rfl rfl rfl) ?_
 iterate 2 refine AO.pu T ?_
 refine AO.pureG T [] rfl trivial rfl rfl ?_
 refine AO.pureG T [8] rfl ⟨fun h => h, trivial⟩ rfl rfl ?_
 refine AO.pureG T [] rfl trivial rfl rfl ?_
 refine AO.guard [9, 10] rfl ⟨fun h => h, fun h => h, trivial⟩ (fun hg => callLV_ok rfl rfl rfl (es := [.s (List.map encInt e.order), .f 139 [.q [e.segments, e.size, e.key, .s (List.map encEntrant e.entrants), .s (List.map encInt e.gone), e.segment, .s (List.map encInt e.order), .s (List.map encResult e.results)]]]) ⟨(.rowR rfl (.map fun y => .vs rfl)), lend_f (LendL.cons (lend_p rfl (LendL.cons (.free rfl) (LendL.cons (.free rfl) (LendL.cons (.free rfl) (LendL.cons ((.rowR rfl (.map fun y => .vs rfl))) (LendL.cons ((.rowR rfl (.map fun y => .vs rfl))) (LendL.cons (.free rfl) (LendL.cons ((.rowR rfl (.map fun y => .vs rfl))) (LendL.cons ((.rowR rfl (.map fun y => frzResult y))) LendL.nil))))))))) LendL.nil), trivial⟩ (slices_ContainsFunc_int_ok _ 139 [.q [e.segments, e.size, e.key, .s (List.map encEntrant e.entrants), .s (List.map encInt e.gone), e.segment, .s (List.map encInt e.order), .s (List.map encResult e.results)]] rfl (fun a0 => impl_behindStep_c1_p a0 e) (fun a0 q h => impl_behindStep_c1_ok a0 e q h) _ (optT hx2 hg)) (zfree_v _) rfl) rfl ?_
 refine AO.pureG T [11] rfl ⟨fun h => h, trivial⟩ rfl rfl ?_
 refine AO.val rfl rfl (pick_and rfl rfl rfl rfl) ?_
 refine AO.nil ?_
 refine AW.cond (b := (decide ((e.order.length : Int) > 0) && (!x1))) rfl (fun hc => ?_) (fun hc => ?_)
 replace hH := condT hc hH
 refine AW.seq (AW.region ?_)
 iterate 2 refine AO.pu T ?_
 refine AO.val rfl rfl (arw_ok rfl rfl rfl rfl) ?_
 refine AO.pu T ?_
 refine AO.se T [e.segments, e.size, e.key, .R 1, .R 2, w64 (e.segment + 1), .R 3, .R 4] ?_
 refine AO.nil ?_
 refine AW.region ?_
 refine AO.step rfl (mk0_ok T rfl rfl rfl rfl) ?_
 refine AO.pu T ?_
 refine AO.se T [e.segments, e.size, e.key, .R 1, .R 2, w64 (e.segment + 1), .w 1 [], .R 4] ?_
 refine AO.nil (AW.seq ?_)
 refine AW.region ?_
 refine AO.pu T (d := .g [e.segments, e.size, e.key, .R 1, .R 2, w64 (e.segment + 1), .w 1 [], .R 4]) ?_
 refine AO.se T [e.segments, e.size, e.key, .R 1, .R 2, w64 (e.segment + 1), .w 1 [], .R 4] ?_
 refine AO.nil (AW.ret ?_)
 cases someE hH
 exact ⟨trivial, rfl, _, [1, 2, 4], [], rfl, expLG_cons (.c .u) (expLG_nil), .c (.g (expLC_cons .v (expLC_cons .v (expLC_cons .v (expLC_cons (.rowR rfl) (expLC_cons (.rowR rfl) (expLC_cons .v (expLC_cons .nil (expLC_cons (.rowR rfl) (expLC_nil)))))))))), by decide⟩
 replace hH := condF hc hH
 refine AW.skip ?_
 refine AW.seq (AW.region ?_)
 refine AO.pu T (d := .g [e.segments, e.size, e.key, .R 1, .R 2, e.segment, .R 3, .R 4]) ?_
 refine AO.se T [e.segments, e.size, e.key, .R 1, .R 2, e.segment, .R 3, .R 4] ?_
 refine AO.nil (AW.ret ?_)
 cases someE hH
 exact ⟨trivial, rfl, _, [1, 2, 3, 4], [], rfl, expLG_cons (.c .u) (expLG_nil), .c (.g (expLC_cons .v (expLC_cons .v (expLC_cons .v (expLC_cons (.rowR rfl) (expLC_cons (.rowR rfl) (expLC_cons .v (expLC_cons (.rowR rfl) (expLC_cons (.rowR rfl) (expLC_nil)))))))))), by decide⟩

def impl_LeaveEvent_p (e : Event) (skater : Int) : Option (Event × Bool) :=
  (impl_isRunning_p e).bind fun x1 =>
  (opt (!(!x1)) default (impl_isThere_p e skater)).bind fun x3 =>
  cond ((!x1) || (!x3))
    (some ((Event.mk 0 0 0 [] [] 0 [] []), false))
    ((impl_copyEvent_p e).bind fun x5 =>
    (need (fitsB 8 (x5.gone.length + ([skater]).length))).bind fun u7 =>
    (slices_Sort_int_p (x5.gone ++ [skater])).bind fun x9 =>
    (impl_isScored_p (Event.mk x5.segments x5.size x5.key x5.entrants x9 x5.segment x5.order x5.results) skater).bind fun x11 =>
    cond (!x11)
      ((impl_without_p x5.order [skater]).bind fun x13 =>
      (impl_behindStep_p (Event.mk x5.segments x5.size x5.key x5.entrants x9 x5.segment x13 x5.results)).bind fun x15 =>
      some (x15, true))
      ((impl_behindStep_p (Event.mk x5.segments x5.size x5.key x5.entrants x9 x5.segment x5.order x5.results)).bind fun x17 =>
      some (x17, true)))
theorem impl_LeaveEvent_ok (e : Event) (skater : Int) (r : (Event × Bool)) (hH : impl_LeaveEvent_p e skater = some r) : SpecR Tryz.prog 41 [.g (encEvent e), skater] (.t [.g (encEventO r.1), .v (.bool r.2)]) := by
 refine fn_ok T Tryz.func41 rfl (by decide) rfl ?_
 refine AW.seq (AW.region ?_)
 refine AO.step rfl (box_ok T rfl 1 rfl rfl rfl rfl) ?_
 refine AO.step rfl (alloc_ok T rfl 2 rfl rfl rfl rfl rfl) ?_
 refine AO.pu T ?_
 refine AO.nil ?_
 iterate 2 refine AW.seq ?_
 obtain ⟨x1, hx2, hH⟩ := bindE hH
 obtain ⟨x3, hx4, hH⟩ := bindE hH
 refine AW.region ?_
 refine AO.pu T (d := .g [e.segments, e.size, e.key, .s (List.map encEntrant e.entrants), .s (List.map encInt e.gone), e.segment, .s (List.map encInt e.order), .s (List.map encResult e.results)]) ?_
 refine AO.val rfl rfl (callV_ok rfl rfl rfl rfl (impl_isRunning_ok _ _ (hx2)) rfl) ?_
 iterate 2 refine AO.pu T ?_
 refine AO.pureG T (d := .g [e.segments, e.size, e.key, .s (List.map encEntrant e.entrants), .s (List.map encInt e.gone), e.segment, .s (List.map encInt e.order), .s (List.map encResult e.results)]) [] rfl trivial rfl rfl ?_
 refine AO.pureG T [] rfl trivial rfl rfl ?_
 refine AO.guard [11, 12] rfl ⟨fun h => h, fun h => h, trivial⟩ (fun hg => callV_ok rfl rfl rfl rfl (impl_isThere_ok _ _ _ (optT hx4 hg)) rfl) rfl ?_
 refine AO.pureG T [13] rfl ⟨fun h => h, trivial⟩ rfl rfl ?_
 refine AO.val rfl rfl (pick_or rfl rfl rfl rfl) ?_
 refine AO.nil ?_
 refine AW.cond (b := ((!x1) || (!x3))) rfl (fun hc => ?_) (fun hc => ?_)
 replace hH := condT hc hH
 refine AW.seq (AW.region ?_)
 refine AO.pu T (d := .g [(0 : Int), (0 : Int), (0 : Int), .w 0 [], .w 0 [], (0 : Int), .w 0 [], .w 0 []]) ?_
 refine AO.se T [(0 : Int), (0 : Int), (0 : Int), .w 0 [], .w 0 [], (0 : Int), .w 0 [], .w 0 []] ?_
 refine AO.pu T ?_
 refine AO.nil (AW.ret ?_)
 cases someE hH
 exact retQ.i [] rfl (.t (expLG_cons (.g (expLC_cons .v (expLC_cons .v (expLC_cons .v (expLC_cons .nil (expLC_cons .nil (expLC_cons .v (expLC_cons .nil (expLC_cons .nil (expLC_nil)))))))))) (expLG_cons (.c .v) (expLG_nil))))
 replace hH := condF hc hH
 refine AW.skip ?_
 refine AW.seq ?_
 obtain ⟨x5, hx6, hH⟩ := bindE hH
 refine AW.region ?_
 refine AO.pu T (d := .g [e.segments, e.size, e.key, .s (List.map encEntrant e.entrants), .s (List.map encInt e.gone), e.segment, .s (List.map encInt e.order), .s (List.map encResult e.results)]) ?_
 refine AO.step rfl (call_ok rfl 3 rfl rfl rfl (impl_copyEvent_ok _ _ (hx6)) rfl rfl rfl) ?_
 refine AO.step rfl (alloc_ok T rfl 7 rfl rfl rfl rfl rfl) ?_
 refine AO.se T [x5.segments, x5.size, x5.key, .R 3, .R 4, x5.segment, .R 5, .R 6] ?_
 refine AO.nil (AW.seq ?_)
 obtain ⟨u7, hx8, hH⟩ := bindE hH
 refine AW.region ?_
 iterate 3 refine AO.pu T ?_
 refine AO.step rfl (mk_map_ok T rfl 8 rfl rfl rfl rfl rfl (f := encInt) (l := [skater]) rfl rfl (fun _ => rfl) rfl rfl rfl rfl rfl) ?_
 refine AO.step rfl (app_rv_map T rfl 9 rfl rfl rfl rfl rfl (by decide) rfl rfl rfl rfl (fun _ => rfl) (needT (hx8)) rfl rfl) ?_
 refine AO.pu T ?_
 refine AO.se T [x5.segments, x5.size, x5.key, .R 3, .R 9, x5.segment, .R 5, .R 6] ?_
 refine AO.nil (AW.seq ?_)
 obtain ⟨x9, hx10, hH⟩ := bindE hH
 refine AW.region ?_
 iterate 2 refine AO.pu T ?_
 refine AO.step rfl (callM_ok rfl 10 rfl rfl (es := [.w 1 ((x5.gone ++ [skater]).map encInt)]) (outs := [.w 1 (x9.map encInt)]) (ids := [9]) (by exact expLG_cons (.c (.rowR rfl)) (expLG_nil)) (by decide) (.inl (by rfl)) (by rfl) (slices_Sort_int_ok _ _ (hx10)) rfl (by rfl) rfl) ?_
 refine AO.nil ?_
 refine AW.le (Le.ct 0 0 (σ' := (⟨[(1, skater), (4, .p 2 0), (6, .p 7 0)], [(2, .box [(0 : Int), (0 : Int), (0 : Int), .w 0 [], .w 0 [], (0 : Int), .w 0 [], .w 0 []]), (3, .row 2 (List.map encEntrant x5.entrants)), (5, .row 1 (List.map encInt x5.order)), (6, .row 2 (List.map encResultO x5.results)), (7, .box [x5.segments, x5.size, x5.key, .R 3, .R 9, x5.segment, .R 5, .R 6]), (9, .row 1 (List.map encInt x9))], 40, []⟩ : St))) ?_
 iterate 2 refine AW.seq ?_
 obtain ⟨x11, hx12, hH⟩ := bindE hH
 refine AW.region ?_
 refine AO.pu T (d := .g [x5.segments, x5.size, x5.key, .R 3, .R 9, x5.segment, .R 5, .R 6]) ?_
 refine AO.pu T ?_
 refine AO.val rfl rfl (callLV_ok rfl rfl rfl (es := [.g (encEvent (Event.mk x5.segments x5.size x5.key x5.entrants x9 x5.segment x5.order x5.results)), skater]) ⟨lend_g (LendL.cons (.free rfl) (LendL.cons (.free rfl) (LendL.cons (.free rfl) (LendL.cons ((.rowR rfl (.map fun y => .vs rfl))) (LendL.cons ((.rowR rfl (.map fun y => .vs rfl))) (LendL.cons (.free rfl) (LendL.cons ((.rowR rfl (.map fun y => .vs rfl))) (LendL.cons ((.rowR rfl (.map fun y => frzResult y))) LendL.nil)))))))), .free rfl, trivial⟩ (impl_isScored_ok _ _ _ (hx12)) (zfree_v _) rfl) ?_
 refine AO.pu T ?_
 refine AO.nil ?_
 refine AW.cond (b := (!x11)) rfl (fun hc => ?_) (fun hc => ?_)
 replace hH := condT hc hH
 obtain ⟨x13, hx14, hH⟩ := bindE hH
 refine AW.region ?_
 iterate 3 refine AO.pu T ?_
 refine AO.step rfl (mk_map_ok T rfl 10 rfl rfl rfl rfl rfl (f := encInt) (l := [skater]) rfl rfl (fun _ => rfl) rfl rfl rfl rfl rfl) ?_
 refine AO.step rfl (callL_ok rfl 11 rfl rfl (es := [.s (List.map encInt x5.order), .s (List.map encInt [skater])]) (by exact ⟨(.rowR rfl (.map fun y => .vs rfl)), (.rowR rfl (.map fun y => .vs rfl)), trivial⟩) (impl_without_ok _ _ _ (hx14)) (zfree_map (fun y => (.cons (zfree_v _) .nil))) rfl rfl rfl) ?_
 refine AO.pu T ?_
 refine AO.se T [x5.segments, x5.size, x5.key, .R 3, .R 9, x5.segment, .R 11, .R 6] ?_
 refine AO.nil (AW.seq ?_)
 obtain ⟨x15, hx16, hH⟩ := bindE hH
 refine AW.region ?_
 refine AO.pu T (d := .g [x5.segments, x5.size, x5.key, .R 3, .R 9, x5.segment, .R 11, .R 6]) ?_
 refine AO.step rfl (callM_ok rfl 12 rfl rfl (es := [.g (encEventO (Event.mk x5.segments x5.size x5.key x5.entrants x9 x5.segment x13 x5.results))]) (outs := [.u]) (ids := [3, 9, 11, 6]) (by exact expLG_cons (.g (expLC_cons .v (expLC_cons .v (expLC_cons .v (expLC_cons (.rowR rfl) (expLC_cons (.rowR rfl) (expLC_cons .v (expLC_cons (.rowR rfl) (expLC_cons (.rowR rfl) (expLC_nil)))))))))) (expLG_nil)) (by decide) (.inr (by exact (show ([] : List Nat).Nodup ∧ ∀ i ∈ ([] : List Nat), i ∈ ([3, 9, 11, 6] : List Nat) from by decide))) (by rfl) (impl_behindStep_ok _ _ (hx16)) rfl (by rfl) rfl) ?_
 refine AO.se T [x15.segments, x15.size, x15.key, .R 12, .R 13, x15.segment, .R 14, .R 15] ?_
 refine AO.pu T ?_
 refine AO.nil (AW.ret ?_)
 cases someE hH
 exact retQ.i [12, 13, 14, 15] rfl (.t (expLG_cons (.g (expLC_cons .v (expLC_cons .v (expLC_cons .v (expLC_cons (.rowR rfl) (expLC_cons (.rowR rfl) (expLC_cons .v (expLC_cons (.rowR rfl) (expLC_cons (.rowR rfl) (expLC_nil)))))))))) (expLG_cons (.c .v) (expLG_nil))))
 replace hH := condF hc hH
 refine AW.skip ?_
 refine AW.seq ?_
 obtain ⟨x17, hx18, hH⟩ := bindE hH
 refine AW.region ?_
 refine AO.pu T (d := .g [x5.segments, x5.size, x5.key, .R 3, .R 9, x5.segment, .R 5, .R 6]) ?_
 refine AO.step rfl (callM_ok rfl 16 rfl rfl (es := [.g (encEventO (Event.mk x5.segments x5.size x5.key x5.entrants x9 x5.segment x5.order x5.results))]) (outs := [.u]) (ids := [3, 9, 5, 6]) (by exact expLG_cons (.g (expLC_cons .v (expLC_cons .v (expLC_cons .v (expLC_cons (.rowR rfl) (expLC_cons (.rowR rfl) (expLC_cons .v (expLC_cons (.rowR rfl) (expLC_cons (.rowR rfl) (expLC_nil)))))))))) (expLG_nil)) (by decide) (.inr (by exact (show ([] : List Nat).Nodup ∧ ∀ i ∈ ([] : List Nat), i ∈ ([3, 9, 5, 6] : List Nat) from by decide))) (by rfl) (impl_behindStep_ok _ _ (hx18)) rfl (by rfl) rfl) ?_
 refine AO.se T [x17.segments, x17.size, x17.key, .R 16, .R 17, x17.segment, .R 18, .R 19] ?_
 refine AO.pu T ?_
 refine AO.nil (AW.ret ?_)
 cases someE hH
 exact retQ.i [16, 17, 18, 19] rfl (.t (expLG_cons (.g (expLC_cons .v (expLC_cons .v (expLC_cons .v (expLC_cons (.rowR rfl) (expLC_cons (.rowR rfl) (expLC_cons .v (expLC_cons (.rowR rfl) (expLC_cons (.rowR rfl) (expLC_nil)))))))))) (expLG_cons (.c .v) (expLG_nil))))

def impl_signOf_p (n : Int) : Option Int :=
  cond (decide (n > 0))
    (some 1)
    (cond (decide (n < 0))
      (some (-1))
      (some 0))
theorem impl_signOf_ok (n : Int) (r : Int) (hH : impl_signOf_p n = some r) : SpecR Tryz.prog 184 [n] (.v (.int .i64 r)) := by
 refine fn_ok T Tryz.func184 rfl (by decide) rfl ?_
 refine AW.seq (AW.region ?_)
 refine AO.pu T ?_
 refine AO.nil (AW.seq ?_)
 refine AW.block ?_
 refine AW.seq (AW.region ?_)
 iterate 3 refine AO.pu T ?_
 refine AO.nil ?_
 refine AW.cond (b := decide (n > 0)) rfl (fun hc => ?_) (fun hc => ?_)
 replace hH := condT hc hH
 refine AW.seq (AW.region ?_)
 refine AO.pu T ?_
 refine AO.nil (AW.ret ?_)
 cases someE hH
 exact retQ.i [] rfl (.c (.c .v))
 replace hH := condF hc hH
 refine AW.seq (AW.region ?_)
 iterate 3 refine AO.pu T ?_
 refine AO.nil ?_
 refine AW.cond (b := decide (n < 0)) rfl (fun hc => ?_) (fun hc => ?_)
 replace hH := condT hc hH
 refine AW.seq (AW.region ?_)
 refine AO.pu T ?_
 refine AO.nil (AW.ret ?_)
 cases someE hH
 exact retQ.i [] rfl (.c (.c .v))
 replace hH := condF hc hH
 refine AW.skip ?_
 refine AW.seq (AW.region ?_)
 refine AO.pu T ?_
 refine AO.nil (AW.ret ?_)
 cases someE hH
 exact retQ.i [] rfl (.c (.c .v))

def impl_compareResults_l1 (a : Result) (b : Result) : Nat → Int → Option Int
  | 0, _ => none
  | k9 + 1, v23 =>
    cond (decide (v23 ≥ 0))
      ((getI a.scores v23).bind fun x25 =>
      (getI b.scores v23).bind fun x27 =>
      cond (x25 != x27)
        ((impl_signOf_p (w64 (x25 - x27))).bind fun x29 =>
        some x29)
        (impl_compareResults_l1 a b k9 (w64 (v23 - 1))))
      (some 0)
def impl_compareResults_p (fuel : Nat) (a : Result) (b : Result) : Option Int :=
  (impl_totalOf_p a).bind fun x1 =>
  (impl_totalOf_p b).bind fun x3 =>
  cond (x1.2 != x3.2)
    ((impl_signOf_p (w64 (x1.2 - x3.2))).bind fun x5 =>
    some x5)
    (cond (x1.1 != x3.1)
      ((impl_signOf_p (w64 (x1.1 - x3.1))).bind fun x7 =>
      some x7)
      (impl_compareResults_l1 a b fuel (w64 ((a.scores.length : Int) - 1))))
theorem impl_compareResults_ok (fuel : Nat) (a : Result) (b : Result) (r : Int) (hH : impl_compareResults_p fuel a b = some r) : SpecR Tryz.prog 148 [.g (encResult a), .g (encResult b)] (.v (.int .i64 r)) := by
 refine fn_ok T Tryz.func148 rfl (by decide) rfl ?_
 refine AW.seq (AW.region ?_)
 refine AO.step rfl (box_ok T rfl 1 rfl rfl rfl rfl) ?_
 refine AO.step rfl (box_ok T rfl 2 rfl rfl rfl rfl) ?_
 refine AO.pu T ?_
 refine AO.nil (AW.seq ?_)
 obtain ⟨x1, hx2, hH⟩ := bindE hH
 refine AW.region ?_
 refine AO.pu T (d := .g [a.skater, .s (List.map encInt a.scores)]) ?_
 refine AO.val rfl rfl (callV_ok rfl rfl rfl rfl (impl_totalOf_ok _ _ (hx2)) rfl) ?_
 iterate 5 refine AO.pu T ?_
 refine AO.nil (AW.seq ?_)
 obtain ⟨x3, hx4, hH⟩ := bindE hH
 refine AW.region ?_
 refine AO.pu T (d := .g [b.skater, .s (List.map encInt b.scores)]) ?_
 refine AO.val rfl rfl (callV_ok rfl rfl rfl rfl (impl_totalOf_ok _ _ (hx4)) rfl) ?_
 iterate 5 refine AO.pu T ?_
 refine AO.nil ?_
 iterate 2 refine AW.seq ?_
 refine AW.region ?_
 iterate 3 refine AO.pu T ?_
 refine AO.nil ?_
 refine AW.cond (b := (x1.2 != x3.2)) rfl (fun hc => ?_) (fun hc => ?_)
 replace hH := condT hc hH
 refine AW.seq ?_
 obtain ⟨x5, hx6, hH⟩ := bindE hH
 refine AW.region ?_
 iterate 2 refine AO.pu T ?_
 refine AO.val rfl rfl (arw_ok rfl rfl rfl rfl) ?_
 refine AO.val rfl rfl (callV_ok rfl rfl rfl rfl (impl_signOf_ok _ _ (hx6)) rfl) ?_
 refine AO.pu T ?_
 refine AO.nil ?_
 refine AW.le (Le.ct 0 0 (σ' := (⟨[(4, x5)], [], 65, []⟩ : St))) ?_
 refine AW.ret ?_
 cases someE hH
 exact retQ.i [] rfl (.c (.c .v))
 replace hH := condF hc hH
 refine AW.skip ?_
 iterate 2 refine AW.seq ?_
 refine AW.region ?_
 iterate 3 refine AO.pu T ?_
 refine AO.nil ?_
 refine AW.cond (b := (x1.1 != x3.1)) rfl (fun hc => ?_) (fun hc => ?_)
 replace hH := condT hc hH
 refine AW.seq ?_
 obtain ⟨x7, hx8, hH⟩ := bindE hH
 refine AW.region ?_
 iterate 2 refine AO.pu T ?_
 refine AO.val rfl rfl (arw_ok rfl rfl rfl rfl) ?_
 refine AO.val rfl rfl (callV_ok rfl rfl rfl rfl (impl_signOf_ok _ _ (hx8)) rfl) ?_
 refine AO.pu T ?_
 refine AO.nil ?_
 refine AW.le (Le.ct 0 0 (σ' := (⟨[(4, x7)], [], 65, []⟩ : St))) ?_
 refine AW.ret ?_
 cases someE hH
 exact retQ.i [] rfl (.c (.c .v))
 replace hH := condF hc hH
 refine AW.skip ?_
 iterate 2 refine AW.seq ?_
 refine AW.region ?_
 iterate 2 refine AO.pu T ?_
 refine AO.val rfl rfl (len_map_ok T rfl rfl rfl) ?_
 refine AO.val rfl rfl (arw_ok rfl rfl rfl rfl) ?_
 refine AO.pu T ?_
 refine AO.nil ?_
 refine AW.le (Le.ct 0 0 (σ' := (⟨[(2, .p 1 0), (3, .p 2 0), (9, w64 ((a.scores.length : Int) - 1))], [(1, .box [a.skater, .s (List.map encInt a.scores)]), (2, .box [b.skater, .s (List.map encInt b.scores)])], 65, []⟩ : St))) ?_
 refine AW.block ?_
 refine AW.loopS (fun s : Nat × Int => (⟨[(2, .p 1 0), (3, .p 2 0), (9, s.2)], [(1, .box [a.skater, .s (List.map encInt a.scores)]), (2, .box [b.skater, .s (List.map encInt b.scores)])], 65, []⟩ : St)) (fun s => impl_compareResults_l1 a b s.1 s.2 = some r) (fun s => s.1) (fuel, w64 ((a.scores.length : Int) - 1)) hH ?_ ?_
 exact Le.ct 0 0
 rintro ⟨k9, v23⟩ hH
 replace hH : impl_compareResults_l1 a b k9 v23 = some r := hH
 try dsimp only
 rcases k9 with _ | k9
 cases (show none = some _ from hH)
 rw [impl_compareResults_l1] at hH
 iterate 2 refine AW.seq ?_
 refine AW.region ?_
 iterate 2 refine AO.pu T ?_
 refine AO.nil ?_
 refine AW.cond (b := decide (v23 ≥ 0)) rfl (fun hc => ?_) (fun hc => ?_)
 replace hH := condT hc hH
 refine AW.skip ?_
 refine AW.seq ?_
 refine AW.block ?_
 refine AW.seq ?_
 obtain ⟨x25, hx26, hH⟩ := bindE hH
 obtain ⟨x27, hx28, hH⟩ := bindE hH
 refine AW.drawn 10 3 [] mix (by kernel_rfl) rfl ?_
 iterate 3 refine AD.pure T rfl rfl rfl ?_
 refine AD.val rfl rfl (ix_map_ok T rfl rfl rfl rfl rfl (hx26) rfl) ?_
 iterate 4 refine AD.pure T rfl rfl rfl ?_
 refine AD.val rfl rfl (ix_map_ok T rfl rfl rfl rfl rfl (hx28) rfl) ?_
 refine AD.pure T rfl rfl rfl ?_
 refine AD.nil ?_
 refine AO.pu T ?_
 refine AO.nil ?_
 refine AW.cond (b := (x25 != x27)) rfl (fun hc => ?_) (fun hc => ?_)
 replace hH := condT hc hH
 refine AW.seq ?_
 obtain ⟨x29, hx30, hH⟩ := bindE hH
 refine AW.drawn 10 3 [] mix (by kernel_rfl) rfl ?_
 iterate 3 refine AD.pure T rfl rfl rfl ?_
 refine AD.val rfl rfl (ix_map_ok T rfl rfl rfl rfl rfl (hx26) rfl) ?_
 iterate 4 refine AD.pure T rfl rfl rfl ?_
 refine AD.val rfl rfl (ix_map_ok T rfl rfl rfl rfl rfl (hx28) rfl) ?_
 refine AD.pure T rfl rfl rfl ?_
 refine AD.nil ?_
 refine AO.val rfl rfl (arw_ok rfl rfl rfl rfl) ?_
 refine AO.val rfl rfl (callV_ok rfl rfl rfl rfl (impl_signOf_ok _ _ (hx30)) rfl) ?_
 refine AO.pu T ?_
 refine AO.nil ?_
 refine AW.le (Le.ct 0 0 (σ' := (⟨[(4, x29)], [], 65, []⟩ : St))) ?_
 refine AW.ret ?_
 cases someE hH
 exact retQ.i [] rfl (.c (.c .v))
 replace hH := condF hc hH
 refine AW.skip ?_
 refine AW.region ?_
 refine AO.pu T ?_
 refine AO.val rfl rfl (arw_ok rfl rfl rfl rfl) ?_
 refine AO.pu T ?_
 refine AO.nil ?_
 refine ⟨(k9, w64 (v23 - 1)), hH, Nat.lt_succ_self _, ?_⟩
 exact Le.ct 0 0
 replace hH := condF hc hH
 refine AW.exit ?_
 refine AW.seq (AW.region ?_)
 refine AO.pu T ?_
 refine AO.nil (AW.ret ?_)
 cases someE hH
 exact retQ.i [] rfl (.c (.c .v))

def impl_placeOf_l1 (l : List Result) (i : Int) (fuel : Nat) : List Result → Nat → Int → Option Int
  | [], k1, v16 =>
    some v16
  | y2 :: ys3, k1, v16 =>
    (getI l i).bind fun x18 =>
    (impl_compareResults_p fuel y2 x18).bind fun x20 =>
    cond (decide (x20 > 0))
      (impl_placeOf_l1 l i fuel ys3 (k1 + 1) (w64 (v16 + 1)))
      (impl_placeOf_l1 l i fuel ys3 (k1 + 1) v16)
def impl_placeOf_p (fuel : Nat) (l : List Result) (i : Int) : Option Int :=
  impl_placeOf_l1 l i fuel l 0 1
theorem impl_placeOf_ok (fuel : Nat) (l : List Result) (i : Int) (r : Int) (hH : impl_placeOf_p fuel l i = some r) : SpecR Tryz.prog 102 [.s (List.map encResult l), i] (.v (.int .i64 r)) := by
 refine fn_ok T Tryz.func102 rfl (by decide) rfl ?_
 refine AW.seq (AW.region ?_)
 refine AO.pu T ?_
 refine AO.nil (AW.seq ?_)
 refine AW.region ?_
 refine AO.pu T ?_
 refine AO.nil ?_
 iterate 2 refine AW.seq ?_
 refine AW.region ?_
 refine AO.pu T ?_
 refine AO.val rfl rfl (len_map_ok T rfl rfl rfl) ?_
 refine AO.pu T ?_
 refine AO.nil ?_
 refine AW.block ?_
 refine AW.loopS (fun s : Nat × Int => (⟨[(0, .s (List.map encResult l)), (1, i), (5, s.2), (8, .s (List.map encResult l)), (9, (l.length : Int)), (10, (s.1 : Int))], [], 25, []⟩ : St)) (fun s => s.1 ≤ l.length ∧ impl_placeOf_l1 l i fuel (l.drop s.1) s.1 s.2 = some r) (fun s => l.length - s.1) (0, 1) ⟨Nat.zero_le _, hH⟩ ?_ ?_
 exact Le.ct 0 0
 rintro ⟨k1, v16⟩ ⟨hk, hH⟩
 replace hH : impl_placeOf_l1 l i fuel (l.drop k1) k1 v16 = some r := hH
 try dsimp only
 refine AW.boundM (t := 0) (l := l) rfl (fun hb5 => ?_)
 rcases hd4 : l.drop k1 with _ | ⟨y2, ys3⟩
 rw [hd4, impl_placeOf_l1] at hH
 have hlt6 := drop_ge hd4
 refine AW.seq (AW.region ?_)
 refine AO.pu T ?_
 refine AO.nil (AW.seq ?_)
 refine AW.condF' (b := decide ((k1 : Int) < (l.length : Int))) rfl (rngF hlt6) ?_
 refine AW.exit ?_
 refine AW.seq (AW.region ?_)
 iterate 2 refine AO.pu T ?_
 refine AO.nil (AW.ret ?_)
 cases someE hH
 exact retQ.i [] rfl (.c (.c .v))
 rw [hd4, impl_placeOf_l1] at hH
 have hlt6 := drop_lt hd4
 refine AW.seq (AW.region ?_)
 refine AO.pu T ?_
 refine AO.nil (AW.seq ?_)
 refine AW.condT' (b := decide ((k1 : Int) < (l.length : Int))) rfl (rngT hlt6) ?_
 refine AW.skip ?_
 refine AW.seq ?_
 refine AW.block ?_
 refine AW.seq (AW.region ?_)
 refine AO.val rfl rfl (ix_map_ok T rfl rfl rfl rfl rfl (getI_drop hd4) rfl) ?_
 refine AO.pu T (d := .g [y2.skater, .s (List.map encInt y2.scores)]) ?_
 refine AO.step rfl (alloc_ok T rfl 3 rfl rfl rfl rfl rfl) ?_
 refine AO.se T [y2.skater, .s (List.map encInt y2.scores)] ?_
 refine AO.nil (AW.seq ?_)
 obtain ⟨x18, hx19, hH⟩ := bindE hH
 obtain ⟨x20, hx21, hH⟩ := bindE hH
 refine AW.drawn 5 4 [] mix (by kernel_rfl) rfl ?_
 refine AD.pure T (d := .g [y2.skater, .s (List.map encInt y2.scores)]) rfl rfl rfl ?_
 iterate 2 refine AD.pure T rfl rfl rfl ?_
 refine AD.val rfl rfl (ix_map_ok T rfl rfl rfl rfl rfl (hx19) rfl) ?_
 refine AD.pure T (d := .g [x18.skater, .s (List.map encInt x18.scores)]) rfl rfl rfl ?_
 refine AD.nil ?_
 refine AO.val rfl rfl (callV_ok rfl rfl rfl rfl (impl_compareResults_ok fuel _ _ _ (hx21)) rfl) ?_
 refine AO.pu T ?_
 refine AO.nil ?_
 refine AW.cond (b := decide (x20 > 0)) rfl (fun hc => ?_) (fun hc => ?_)
 replace hH := condT hc hH
 refine AW.region ?_
 refine AO.pu T ?_
 refine AO.val rfl rfl (arw_ok rfl rfl rfl rfl) ?_
 refine AO.pu T ?_
 refine AO.nil ?_
 refine AW.region ?_
 refine AO.val rfl rfl (ar_ok rfl rfl rfl rfl (inI_succ hlt6 hb5)) ?_
 refine AO.pu T ?_
 refine AO.nil ?_
 refine ⟨(k1 + 1, w64 (v16 + 1)), ⟨Nat.succ_le_of_lt hlt6, (by rw [drop_succ_of hd4]; exact hH)⟩, (by have := hlt6; dsimp only; omega), ?_⟩
 exact Le.ct 0 0
 replace hH := condF hc hH
 refine AW.skip ?_
 refine AW.region ?_
 refine AO.val rfl rfl (ar_ok rfl rfl rfl rfl (inI_succ hlt6 hb5)) ?_
 refine AO.pu T ?_
 refine AO.nil ?_
 refine ⟨(k1 + 1, v16), ⟨Nat.succ_le_of_lt hlt6, (by rw [drop_succ_of hd4]; exact hH)⟩, (by have := hlt6; dsimp only; omega), ?_⟩
 exact Le.ct 0 0

def slices_SortFunc_Entrant_p (x : List Entrant) (cmp : Entrant → Entrant → Option Int) : Option (List Entrant) := sortF cmp x
theorem slices_SortFunc_Entrant_ok (x : List Entrant) (cmp_f : Nat) (cmp_c : List D) (cmp_k : cmp_c.all D.capOk = true) (cmp : Entrant → Entrant → Option Int) (cmp_h : ∀ (a0 a1 : Entrant) (q : Int), cmp a0 a1 = some q → SpecR Tryz.prog cmp_f ([.g (encEntrant a0), .g (encEntrant a1)] ++ cmp_c) (.v (.int .i64 q))) (r : List Entrant) (hH : slices_SortFunc_Entrant_p x cmp = some r) : SpecM Tryz.prog 208 [.w 2 (x.map encEntrant), .f cmp_f cmp_c] [.w 2 (r.map encEntrant), .u] (.t []) :=
  spec_sortF ⟨_, Tryz.func208, rfl, by decide⟩ (fun enc hk h1 cf hO cb blk off cap d w eg => AnyQ.slices_SortFunc Tryz.sortF208 2 Tryz.isAgg64 Tryz.sizeOf64 enc hk h1 cf hO cmp_f cb blk off cap d w eg) (fun p cap cb w => AnyF.slices_SortFunc_none Tryz.sortF208 p cap _ w) encEntrant (fun _ => rfl) (fun _ => rfl) cmp_c (cap_sc cmp_k) cmp x r cmp_h hH

def impl_compareBehind_p (x : Entrant) (y : Entrant) : Option Int :=
  cond ((x.rank == 0) && (y.rank == 0))
    (some (w64 (y.skater - x.skater)))
    (cond (x.rank == 0)
      (some (-1))
      (cond (y.rank == 0)
        (some 1)
        (some (w64 (y.rank - x.rank)))))
theorem impl_compareBehind_ok (x : Entrant) (y : Entrant) (r : Int) (hH : impl_compareBehind_p x y = some r) : SpecR Tryz.prog 209 [.g (encEntrant x), .g (encEntrant y)] (.v (.int .i64 r)) := by
 refine fn_ok T Tryz.func209 rfl (by decide) rfl ?_
 refine AW.seq (AW.region ?_)
 refine AO.step rfl (box_ok T rfl 1 rfl rfl rfl rfl) ?_
 refine AO.step rfl (box_ok T rfl 2 rfl rfl rfl rfl) ?_
 refine AO.pu T ?_
 refine AO.nil (AW.seq ?_)
 refine AW.block ?_
 refine AW.seq (AW.region ?_)
 iterate 4 refine AO.pu T ?_
 refine AO.pureG T [] rfl trivial rfl rfl ?_
 refine AO.pureG T [10] rfl ⟨fun h => h, trivial⟩ rfl rfl ?_
 refine AO.pureG T [11] rfl ⟨fun h => h, trivial⟩ rfl rfl ?_
 refine AO.val rfl rfl (pick_and rfl rfl rfl rfl) ?_
 refine AO.pu T ?_
 refine AO.nil ?_
 refine AW.cond (b := ((x.rank == 0) && (y.rank == 0))) rfl (fun hc => ?_) (fun hc => ?_)
 replace hH := condT hc hH
 refine AW.seq (AW.region ?_)
 iterate 4 refine AO.pu T ?_
 refine AO.val rfl rfl (arw_ok rfl rfl rfl rfl) ?_
 refine AO.pu T ?_
 refine AO.nil (AW.ret ?_)
 cases someE hH
 exact retQ.i [] rfl (.c (.c .v))
 replace hH := condF hc hH
 refine AW.seq (AW.region ?_)
 iterate 4 refine AO.pu T ?_
 refine AO.nil ?_
 refine AW.cond (b := (x.rank == 0)) rfl (fun hc => ?_) (fun hc => ?_)
 replace hH := condT hc hH
 refine AW.seq (AW.region ?_)
 refine AO.pu T ?_
 refine AO.nil (AW.ret ?_)
 cases someE hH
 exact retQ.i [] rfl (.c (.c .v))
 replace hH := condF hc hH
 refine AW.seq (AW.region ?_)
 iterate 4 refine AO.pu T ?_
 refine AO.nil ?_
 refine AW.cond (b := (y.rank == 0)) rfl (fun hc => ?_) (fun hc => ?_)
 replace hH := condT hc hH
 refine AW.seq (AW.region ?_)
 refine AO.pu T ?_
 refine AO.nil (AW.ret ?_)
 cases someE hH
 exact retQ.i [] rfl (.c (.c .v))
 replace hH := condF hc hH
 refine AW.skip ?_
 refine AW.seq (AW.region ?_)
 iterate 4 refine AO.pu T ?_
 refine AO.val rfl rfl (arw_ok rfl rfl rfl rfl) ?_
 refine AO.pu T ?_
 refine AO.nil ?_
 refine AW.le (Le.ct 0 0 (σ' := (⟨[(4, w64 (y.rank - x.rank))], [], 32, []⟩ : St))) ?_
 refine AW.ret ?_
 cases someE hH
 exact retQ.i [] rfl (.c (.c .v))

def impl_evenSizes_l1 (n : Int) (groups : Int) : Nat → List Int → Int → Option ((List Int))
  | 0, _, _ => none
  | k1 + 1, v16, v17 =>
    cond (decide (v17 < groups))
      ((need (groups != 0)).bind fun u19 =>
      cond (decide (v17 < (n.tmod groups)))
        ((need (fitsB 8 (v16.length + ([w64 ((w64 (n.tdiv groups)) + 1)]).length))).bind fun u21 =>
        impl_evenSizes_l1 n groups k1 (v16 ++ [w64 ((w64 (n.tdiv groups)) + 1)]) (w64 (v17 + 1)))
        ((need (fitsB 8 (v16.length + ([w64 (n.tdiv groups)]).length))).bind fun u23 =>
        impl_evenSizes_l1 n groups k1 (v16 ++ [w64 (n.tdiv groups)]) (w64 (v17 + 1))))
      (some v16)
def impl_evenSizes_p (fuel : Nat) (n : Int) (groups : Int) : Option (List Int) :=
  impl_evenSizes_l1 n groups fuel [] 0
theorem impl_evenSizes_ok (fuel : Nat) (n : Int) (groups : Int) (r : (List Int)) (hH : impl_evenSizes_p fuel n groups = some r) : SpecR Tryz.prog 210 [n, groups] (.w 1 (r.map encInt)) := by
 refine fn_ok T Tryz.func210 rfl (by decide) rfl ?_
 refine AW.seq (AW.region ?_)
 refine AO.pu T ?_
 refine AO.nil (AW.seq ?_)
 refine AW.region ?_
 refine AO.step rfl (mk0_ok T rfl rfl rfl rfl) ?_
 refine AO.pu T ?_
 refine AO.nil ?_
 iterate 2 refine AW.seq ?_
 refine AW.region ?_
 iterate 2 refine AO.pu T ?_
 refine AO.nil ?_
 refine AW.block ?_
 refine AW.loopS (fun s : Nat × (List Int) × Int => (⟨[(0, n), (1, groups), (5, .R 6), (9, groups), (10, s.2.2)], [(6, .row 1 (List.map encInt s.2.1))], 29, []⟩ : St)) (fun s => impl_evenSizes_l1 n groups s.1 s.2.1 s.2.2 = some r) (fun s => s.1) (fuel, [], 0) hH ?_ ?_
 refine Le.trans (Le.void 5 6 1 rfl rfl) ?_
 exact Le.ct 0 0
 rintro ⟨k1, v16, v17⟩ hH
 replace hH : impl_evenSizes_l1 n groups k1 v16 v17 = some r := hH
 try dsimp only
 rcases k1 with _ | k1
 cases (show none = some _ from hH)
 rw [impl_evenSizes_l1] at hH
 refine AW.seq (AW.region ?_)
 refine AO.pu T ?_
 refine AO.nil (AW.seq ?_)
 refine AW.cond (b := decide (v17 < groups)) rfl (fun hc => ?_) (fun hc => ?_)
 replace hH := condT hc hH
 refine AW.skip ?_
 refine AW.seq ?_
 refine AW.block ?_
 refine AW.seq (AW.region ?_)
 iterate 2 refine AO.pu T ?_
 refine AO.nil (AW.seq ?_)
 obtain ⟨u19, hx20, hH⟩ := bindE hH
 refine AW.region ?_
 iterate 2 refine AO.pu T ?_
 refine AO.val rfl rfl (quow_ok rfl rfl rfl (neZ (needT (hx20)))) ?_
 refine AO.pu T ?_
 refine AO.nil ?_
 iterate 2 refine AW.seq ?_
 refine AW.region ?_
 iterate 3 refine AO.pu T ?_
 refine AO.val rfl rfl (rem_ok rfl rfl rfl (neZ (needT (hx20)))) ?_
 refine AO.pu T ?_
 refine AO.nil ?_
 refine AW.cond (b := decide (v17 < (n.tmod groups))) rfl (fun hc => ?_) (fun hc => ?_)
 replace hH := condT hc hH
 refine AW.region ?_
 refine AO.pu T ?_
 refine AO.val rfl rfl (arw_ok rfl rfl rfl rfl) ?_
 refine AO.pu T ?_
 refine AO.nil ?_
 obtain ⟨u21, hx22, hH⟩ := bindE hH
 refine AW.region ?_
 iterate 2 refine AO.pu T ?_
 refine AO.step rfl (mk_map_ok T rfl 9 rfl rfl rfl rfl rfl (f := encInt) (l := [w64 ((w64 (n.tdiv groups)) + 1)]) rfl rfl (fun _ => rfl) rfl rfl rfl rfl rfl) ?_
 refine AO.step rfl (app_rv_map T rfl 10 rfl rfl rfl rfl rfl (by decide) rfl rfl rfl rfl (fun _ => rfl) (needT (hx22)) rfl rfl) ?_
 refine AO.pu T ?_
 refine AO.nil ?_
 refine AW.region ?_
 refine AO.val rfl rfl (arw_ok rfl rfl rfl rfl) ?_
 refine AO.pu T ?_
 refine AO.nil ?_
 refine ⟨(k1, (v16 ++ [w64 ((w64 (n.tdiv groups)) + 1)]), w64 (v17 + 1)), hH, Nat.lt_succ_self _, ?_⟩
 exact Le.ct 10 6
 replace hH := condF hc hH
 refine AW.skip ?_
 obtain ⟨u23, hx24, hH⟩ := bindE hH
 refine AW.region ?_
 iterate 2 refine AO.pu T ?_
 refine AO.step rfl (mk_map_ok T rfl 11 rfl rfl rfl rfl rfl (f := encInt) (l := [w64 (n.tdiv groups)]) rfl rfl (fun _ => rfl) rfl rfl rfl rfl rfl) ?_
 refine AO.step rfl (app_rv_map T rfl 12 rfl rfl rfl rfl rfl (by decide) rfl rfl rfl rfl (fun _ => rfl) (needT (hx24)) rfl rfl) ?_
 refine AO.pu T ?_
 refine AO.nil ?_
 refine AW.region ?_
 refine AO.val rfl rfl (arw_ok rfl rfl rfl rfl) ?_
 refine AO.pu T ?_
 refine AO.nil ?_
 refine ⟨(k1, (v16 ++ [w64 (n.tdiv groups)]), w64 (v17 + 1)), hH, Nat.lt_succ_self _, ?_⟩
 exact Le.ct 12 6
 replace hH := condF hc hH
 refine AW.exit ?_
 refine AW.seq (AW.region ?_)
 iterate 2 refine AO.pu T ?_
 refine AO.nil (AW.ret ?_)
 cases someE hH
 exact retQ.i [6] rfl (.c (.c (.rowR rfl)))

end Go.Proofs.YtbclgnikhophlaaGreat

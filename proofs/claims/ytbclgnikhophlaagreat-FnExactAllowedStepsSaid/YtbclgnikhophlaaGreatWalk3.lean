/- The walk, part 3: what each function reached by the law FnExactAllowedSteps computes. No condition. -/
import Derived.Test.YtbclgnikhophlaaGreatWalk2
set_option maxRecDepth 4000
set_option maxHeartbeats 1000000
set_option linter.unusedVariables false
set_option linter.unusedSimpArgs false
set_option linter.unusedSectionVars false

namespace Go.Proofs.YtbclgnikhophlaaGreat
open Go.AM

def impl_shuffledNumbers_l1 (l : List Int) : List Int → Nat → List Int → Option ((List Int))
  | [], k3, v18 =>
    some v18
  | y4 :: ys5, k3, v18 =>
    (getI l y4).bind fun x20 =>
    (need (fitsB 8 (v18.length + ([x20]).length))).bind fun u22 =>
    impl_shuffledNumbers_l1 l ys5 (k3 + 1) (v18 ++ [x20])
def impl_shuffledNumbers_p (fuel : Nat) (keys : List Int) (l : List Int) : Option (List Int) :=
  (impl_shuffleOf_p fuel keys (l.length : Int)).bind fun x1 =>
  impl_shuffledNumbers_l1 l x1 0 []
theorem impl_shuffledNumbers_ok (fuel : Nat) (keys : List Int) (l : List Int) (r : (List Int)) (hH : impl_shuffledNumbers_p fuel keys l = some r) : SpecR Tryz.prog 164 [.s (List.map encInt keys), .s (List.map encInt l)] (.w 1 (r.map encInt)) := by
 refine fn_ok T Tryz.func164 rfl (by decide) rfl ?_
 refine AW.seq (AW.region ?_)
 refine AO.pure T rfl rfl rfl ?_
 refine AO.nil (AW.seq ?_)
 refine AW.region ?_
 refine AO.step rfl (mk0_ok T rfl rfl rfl rfl) ?_
 refine AO.pure T rfl rfl rfl ?_
 refine AO.nil ?_
 iterate 2 refine AW.seq ?_
 obtain ⟨x1, hx2, hH⟩ := bindE hH
 refine AW.region ?_
 iterate 2 refine AO.pure T rfl rfl rfl ?_
 refine AO.val rfl rfl (len_map_ok T rfl rfl rfl) ?_
 refine AO.step rfl (call_ok rfl 1 rfl rfl rfl (impl_shuffleOf_ok fuel _ _ _ (hx2)) rfl rfl rfl) ?_
 refine AO.val rfl rfl (len_row_ok T rfl rfl rfl rfl) ?_
 refine AO.pure T rfl rfl rfl ?_
 refine AO.nil ?_
 refine AW.block ?_
 refine AW.loopS (fun s : Nat × (List Int) => (⟨[(1, .s (List.map encInt l)), (5, .R 5), (12, .R 1), (13, .v (.int .i64 (x1.length : Int))), (14, .v (.int .i64 (s.1 : Int)))], [(1, .row 1 (List.map encInt x1)), (5, .row 1 (List.map encInt s.2))], 27, []⟩ : St)) (fun s => s.1 ≤ x1.length ∧ impl_shuffledNumbers_l1 l (x1.drop s.1) s.1 s.2 = some r) (fun s => x1.length - s.1) (0, []) ⟨Nat.zero_le _, hH⟩ ?_ ?_
 refine Le.trans (Le.void 5 5 1 rfl rfl) ?_
 exact Le.ct 0 0
 rintro ⟨k3, v18⟩ ⟨hk, hH⟩
 replace hH : impl_shuffledNumbers_l1 l (x1.drop k3) k3 v18 = some r := hH
 show AW _ _ _ (⟨[(1, .s (List.map encInt l)), (5, .R 5), (12, .R 1), (13, .v (.int .i64 (x1.length : Int))), (14, .v (.int .i64 (k3 : Int)))], [(1, .row 1 (List.map encInt x1)), (5, .row 1 (List.map encInt v18))], 27, []⟩ : St)
 refine AW.boundR (id := 1) (l := x1) rfl (fun hb7 => ?_)
 rcases hd6 : x1.drop k3 with _ | ⟨y4, ys5⟩
 rw [hd6, impl_shuffledNumbers_l1] at hH
 have hlt8 := drop_ge hd6
 refine AW.seq (AW.region ?_)
 refine AO.pure T rfl rfl rfl ?_
 refine AO.nil (AW.seq ?_)
 refine AW.condF' (b := decide ((k3 : Int) < (x1.length : Int))) rfl (rngF hlt8) ?_
 refine AW.exit ?_
 refine AW.seq (AW.region ?_)
 iterate 2 refine AO.pure T rfl rfl rfl ?_
 refine AO.nil (AW.ret ?_)
 cases someE hH
 exact ⟨trivial, _, [5], rfl, .c (.c (.rowR rfl)), by decide⟩
 rw [hd6, impl_shuffledNumbers_l1] at hH
 have hlt8 := drop_lt hd6
 refine AW.seq (AW.region ?_)
 refine AO.pure T rfl rfl rfl ?_
 refine AO.nil (AW.seq ?_)
 refine AW.condT' (b := decide ((k3 : Int) < (x1.length : Int))) rfl (rngT hlt8) ?_
 refine AW.skip ?_
 refine AW.seq ?_
 refine AW.block ?_
 refine AW.seq (AW.region ?_)
 refine AO.val rfl rfl (ix_row_ok T rfl rfl rfl rfl rfl rfl (getI_drop hd6)) ?_
 refine AO.val rfl rfl (load_row_ok T rfl rfl rfl rfl (getI_get (getI_drop hd6)) rfl rfl rfl) ?_
 refine AO.pure T rfl rfl rfl ?_
 refine AO.nil ?_
 obtain ⟨x20, hx21, hH⟩ := bindE hH
 obtain ⟨u22, hx23, hH⟩ := bindE hH
 refine AW.region ?_
 iterate 3 refine AO.pure T rfl rfl rfl ?_
 refine AO.val rfl rfl (ix_map_ok T rfl rfl rfl rfl rfl (hx21) rfl) ?_
 refine AO.pure T rfl rfl rfl ?_
 refine AO.step rfl (mk_map_ok T rfl 6 rfl rfl rfl rfl rfl (f := encInt) (l := [x20]) rfl rfl (fun _ => rfl) rfl rfl rfl rfl rfl) ?_
 refine AO.step rfl (app_rv_map T rfl 7 rfl rfl rfl rfl rfl (by decide) rfl rfl rfl rfl (fun _ => rfl) (needT (hx23)) rfl rfl) ?_
 refine AO.pure T rfl rfl rfl ?_
 refine AO.nil ?_
 refine AW.region ?_
 refine AO.val rfl rfl (ar_ok rfl rfl rfl rfl (inI_succ hlt8 hb7)) ?_
 refine AO.pure T rfl rfl rfl ?_
 refine AO.nil ?_
 refine ⟨(k3 + 1, (v18 ++ [x20])), ⟨Nat.succ_le_of_lt hlt8, (by rw [drop_succ_of hd6]; exact hH)⟩, (by have := hlt8; dsimp only; omega), ?_⟩
 exact Le.ct 7 5

def impl_StartOrder_l1 (keys : List Int) (fuel : Nat) (x1 : ((List (List Int)) × Bool)) : Nat → List Int → List (List Int) → Int → Option (((List Int) × Bool))
  | 0, _, _, _ => none
  | k5 + 1, v25, v26, v27 =>
    cond (decide (v27 < (x1.1.length : Int)))
      ((getI v26 v27).bind fun x29 =>
      (impl_withKeys_p keys [v27]).bind fun x31 =>
      (impl_shuffledNumbers_p fuel x31 x29).bind fun x33 =>
      (need (fitsB 8 (v25.length + x33.length))).bind fun u35 =>
      impl_StartOrder_l1 keys fuel x1 k5 (v25 ++ x33) (v26.set v27.toNat x29) (w64 (v27 + 1)))
      (some (v25, true))
def impl_StartOrder_p (fuel : Nat) (keys : List Int) (l : List Entrant) (size : Int) : Option ((List Int) × Bool) :=
  (impl_RankGroups_p fuel l size).bind fun x1 =>
  (opt (!(!x1.2)) default (impl_areKeys_p keys 4)).bind fun x3 =>
  cond ((!x1.2) || (!x3))
    (some ([], false))
    (impl_StartOrder_l1 keys fuel x1 fuel [] x1.1 0)
theorem impl_StartOrder_ok (fuel : Nat) (keys : List Int) (l : List Entrant) (size : Int) (r : ((List Int) × Bool)) (hH : impl_StartOrder_p fuel keys l size = some r) : SpecR Tryz.prog 125 [.s (List.map encInt keys), .s (List.map encEntrant l), .v (.int .i64 size)] (.t [.w 1 (r.1.map encInt), .v (.bool r.2)]) := by
 refine fn_ok T Tryz.func125 rfl (by decide) rfl ?_
 refine AW.seq (AW.region ?_)
 iterate 2 refine AO.pure T rfl rfl rfl ?_
 refine AO.nil (AW.seq ?_)
 obtain ⟨x1, hx2, hH⟩ := bindE hH
 refine AW.region ?_
 iterate 2 refine AO.pure T rfl rfl rfl ?_
 refine AO.step rfl (call_ok rfl 1 rfl rfl rfl (impl_RankGroups_ok fuel _ _ _ (hx2)) rfl rfl rfl) ?_
 iterate 5 refine AO.pure T rfl rfl rfl ?_
 refine AO.nil ?_
 iterate 2 refine AW.seq ?_
 obtain ⟨x3, hx4, hH⟩ := bindE hH
 refine AW.region ?_
 iterate 3 refine AO.pure T rfl rfl rfl ?_
 refine AO.pureG T [] rfl trivial rfl rfl ?_
 refine AO.guard [22] rfl ⟨fun h => h, trivial⟩ (fun hg => callV_ok rfl rfl rfl rfl (impl_areKeys_ok _ _ _ (optT hx4 hg)) rfl) rfl ?_
 refine AO.pureG T [23] rfl ⟨fun h => h, trivial⟩ rfl rfl ?_
 refine AO.val rfl rfl (pick_or rfl rfl rfl rfl) ?_
 refine AO.nil ?_
 refine AW.cond (b := ((!x1.2) || (!x3))) rfl (fun hc => ?_) (fun hc => ?_)
 replace hH := condT hc hH
 refine AW.seq (AW.region ?_)
 iterate 2 refine AO.pure T rfl rfl rfl ?_
 refine AO.nil (AW.ret ?_)
 cases someE hH
 exact ⟨trivial, _, [], rfl, .t (expLG_cons (.c .nil) (expLG_cons (.c .v) (expLG_nil))), by decide⟩
 replace hH := condF hc hH
 refine AW.skip ?_
 refine AW.seq (AW.region ?_)
 refine AO.step rfl (mk0_ok T rfl rfl rfl rfl) ?_
 refine AO.pure T rfl rfl rfl ?_
 refine AO.nil ?_
 iterate 2 refine AW.seq ?_
 refine AW.region ?_
 refine AO.pure T rfl rfl rfl ?_
 refine AO.val rfl rfl (len_row_ok T rfl rfl rfl rfl) ?_
 refine AO.pure T rfl rfl rfl ?_
 refine AO.nil ?_
 refine AW.block ?_
 refine AW.loopS (fun s : Nat × (List Int) × (List (List Int)) × Int => (⟨[(0, .s (List.map encInt keys)), (10, .R 11), (27, .R 1), (28, .v (.int .i64 (x1.1.length : Int))), (29, .v (.int .i64 s.2.2.2))], [(1, .row 1 (List.map encLIntO s.2.2.1)), (11, .row 1 (List.map encInt s.2.1))], 44, []⟩ : St)) (fun s => impl_StartOrder_l1 keys fuel x1 s.1 s.2.1 s.2.2.1 s.2.2.2 = some r) (fun s => s.1) (fuel, [], x1.1, 0) hH ?_ ?_
 refine Le.trans (Le.void 10 11 1 rfl rfl) ?_
 exact Le.ct 0 0
 rintro ⟨k5, v25, v26, v27⟩ hH
 replace hH : impl_StartOrder_l1 keys fuel x1 k5 v25 v26 v27 = some r := hH
 show AW _ _ _ (⟨[(0, .s (List.map encInt keys)), (10, .R 11), (27, .R 1), (28, .v (.int .i64 (x1.1.length : Int))), (29, .v (.int .i64 v27))], [(1, .row 1 (List.map encLIntO v26)), (11, .row 1 (List.map encInt v25))], 44, []⟩ : St)
 rcases k5 with _ | k5
 cases (show none = some _ from hH)
 rw [impl_StartOrder_l1] at hH
 refine AW.seq (AW.region ?_)
 refine AO.pure T rfl rfl rfl ?_
 refine AO.nil (AW.seq ?_)
 refine AW.cond (b := decide (v27 < (x1.1.length : Int))) rfl (fun hc => ?_) (fun hc => ?_)
 replace hH := condT hc hH
 refine AW.skip ?_
 refine AW.seq ?_
 refine AW.block ?_
 refine AW.seq ?_
 obtain ⟨x29, hx30, hH⟩ := bindE hH
 refine AW.le (Le.openM 1 v27.toNat 0 12 rfl (getI_get (hx30)) rfl rfl) ?_
 refine AW.region ?_
 refine AO.pure T rfl rfl rfl ?_
 refine AO.val rfl rfl (ix_lent_ok T rfl rfl rfl rfl rfl rfl (hx30)) ?_
 refine AO.val rfl rfl (load_lent_ok T rfl rfl rfl rfl rfl) ?_
 iterate 2 refine AO.pure T rfl rfl rfl ?_
 refine AO.nil ?_
 obtain ⟨x31, hx32, hH⟩ := bindE hH
 obtain ⟨x33, hx34, hH⟩ := bindE hH
 obtain ⟨u35, hx36, hH⟩ := bindE hH
 refine AW.region ?_
 iterate 3 refine AO.pure T rfl rfl rfl ?_
 refine AO.step rfl (mk_map_ok T rfl 13 rfl rfl rfl rfl rfl (f := encInt) (l := [v27]) rfl rfl (fun _ => rfl) rfl rfl rfl rfl rfl) ?_
 refine AO.step rfl (callL_ok rfl 14 rfl rfl (es := [.s (List.map encInt keys), .s (List.map encInt [v27])]) (by exact ⟨.free rfl, (.rowR rfl (.map fun y => .vs rfl)), trivial⟩) (impl_withKeys_ok _ _ _ (hx32)) (zfree_map (fun y => (.cons (zfree_v _) .nil))) rfl rfl rfl) ?_
 refine AO.pure T rfl rfl rfl ?_
 refine AO.step rfl (callL_ok rfl 15 rfl rfl (es := [.s (List.map encInt x31), .s (List.map encInt x29)]) (by exact ⟨(.rowR rfl (.map fun y => .vs rfl)), (.rowR rfl (.map fun y => .vs rfl)), trivial⟩) (impl_shuffledNumbers_ok fuel _ _ _ (hx34)) (zfree_map (fun y => (.cons (zfree_v _) .nil))) rfl rfl rfl) ?_
 refine AO.step rfl (app_rv_map T rfl 16 rfl rfl rfl rfl rfl (by decide) rfl rfl rfl rfl (fun _ => rfl) (needT (hx36)) rfl rfl) ?_
 refine AO.pure T rfl rfl rfl ?_
 refine AO.le (Le.closeM 1 v27.toNat 0 12 rfl rfl (getI_get (hx30)) rfl (u' := x29) rfl) ?_
 refine AO.nil ?_
 refine AW.region ?_
 refine AO.val rfl rfl (arw_ok rfl rfl rfl rfl) ?_
 refine AO.pure T rfl rfl rfl ?_
 refine AO.nil ?_
 refine ⟨(k5, (v25 ++ x33), (v26.set v27.toNat x29), w64 (v27 + 1)), hH, Nat.lt_succ_self _, ?_⟩
 exact Le.ct 16 11
 replace hH := condF hc hH
 refine AW.exit ?_
 refine AW.seq (AW.region ?_)
 iterate 3 refine AO.pure T rfl rfl rfl ?_
 refine AO.nil (AW.ret ?_)
 cases someE hH
 exact ⟨trivial, _, [11], rfl, .t (expLG_cons (.c (.rowR rfl)) (expLG_cons (.c .v) (expLG_nil))), by decide⟩

def impl_OrderByPlaces_l2 (keys : List Int) (places : List Int) (fuel : Nat) (v122 : List Int) (v123 : Int) : List Int → Nat → List Int → Option (List Int)
  | [], k154, v169 =>
    (impl_withKeys_p keys [90, v123]).bind fun x171 =>
    (impl_shuffledNumbers_p fuel x171 v169).bind fun x173 =>
    (need (fitsB 8 (v122.length + x173.length))).bind fun u175 =>
    some (v122 ++ x173)
  | y155 :: ys156, k154, v169 =>
    (getI places (k154 : Int)).bind fun x177 =>
    cond (x177 == v123)
      ((need (fitsB 8 (v169.length + ([y155]).length))).bind fun u179 =>
      impl_OrderByPlaces_l2 keys places fuel v122 v123 ys156 (k154 + 1) (v169 ++ [y155]))
      (impl_OrderByPlaces_l2 keys places fuel v122 v123 ys156 (k154 + 1) v169)
def impl_OrderByPlaces_l4 (keys : List Int) (fuel : Nat) (x197 : (List (List Int))) : Nat → List Int → List (List Int) → Int → Option (((List Int) × Bool))
  | 0, _, _, _ => none
  | k199 + 1, v219, v220, v221 =>
    cond (decide (v221 < (x197.length : Int)))
      ((getI v220 v221).bind fun x223 =>
      (impl_withKeys_p keys [v221]).bind fun x225 =>
      (impl_shuffledNumbers_p fuel x225 x223).bind fun x227 =>
      (need (fitsB 8 (v219.length + x227.length))).bind fun u229 =>
      impl_OrderByPlaces_l4 keys fuel x197 k199 (v219 ++ x227) (v220.set v221.toNat x223) (w64 (v221 + 1)))
      (some (v219, true))
def impl_OrderByPlaces_l3 (keys : List Int) (size : Int) (fuel : Nat) (v122 : List Int) : Nat → List Int → Int → Option (((List Int) × Bool))
  | 0, _, _ => none
  | k185 + 1, v192, v193 =>
    cond (decide (v193 < (w64 ((v122.length : Int).tdiv size))))
      ((need (fitsB 8 (v192.length + ([size]).length))).bind fun u195 =>
      impl_OrderByPlaces_l3 keys size fuel v122 k185 (v192 ++ [size]) (w64 (v193 + 1)))
      ((impl_cutInto_p v122 v192).bind fun x197 =>
      impl_OrderByPlaces_l4 keys fuel x197 fuel [] x197 0)
def impl_OrderByPlaces_l6 (keys : List Int) (fuel : Nat) (x243 : (List (List Int))) : Nat → List Int → List (List Int) → Int → Option (((List Int) × Bool))
  | 0, _, _, _ => none
  | k245 + 1, v265, v266, v267 =>
    cond (decide (v267 < (x243.length : Int)))
      ((getI v266 v267).bind fun x269 =>
      (impl_withKeys_p keys [v267]).bind fun x271 =>
      (impl_shuffledNumbers_p fuel x271 x269).bind fun x273 =>
      (need (fitsB 8 (v265.length + x273.length))).bind fun u275 =>
      impl_OrderByPlaces_l6 keys fuel x243 k245 (v265 ++ x273) (v266.set v267.toNat x269) (w64 (v267 + 1)))
      (some (v265, true))
def impl_OrderByPlaces_l5 (keys : List Int) (size : Int) (fuel : Nat) (v122 : List Int) : Nat → List Int → Int → Option (((List Int) × Bool))
  | 0, _, _ => none
  | k231 + 1, v238, v239 =>
    cond (decide (v239 < (w64 ((v122.length : Int).tdiv size))))
      ((need (fitsB 8 (v238.length + ([size]).length))).bind fun u241 =>
      impl_OrderByPlaces_l5 keys size fuel v122 k231 (v238 ++ [size]) (w64 (v239 + 1)))
      ((impl_cutInto_p v122 v238).bind fun x243 =>
      impl_OrderByPlaces_l6 keys fuel x243 fuel [] x243 0)
def impl_OrderByPlaces_l1 (keys : List Int) (skaters : List Int) (places : List Int) (size : Int) (fuel : Nat) : Nat → List Int → Int → Option (((List Int) × Bool))
  | 0, _, _ => none
  | k9 + 1, v122, v123 =>
    cond (decide (v123 ≥ 1))
      ((impl_OrderByPlaces_l2 keys places fuel v122 v123 skaters 0 []).bind fun v151 =>
      impl_OrderByPlaces_l1 keys skaters places size fuel k9 v151 (w64 (v123 - 1)))
      ((need (size != 0)).bind fun u181 =>
      cond (decide (((v122.length : Int).tmod size) > 0))
        ((need (fitsB 8 (([((v122.length : Int).tmod size)]).length))).bind fun u183 =>
        impl_OrderByPlaces_l3 keys size fuel v122 fuel [((v122.length : Int).tmod size)] 0)
        (impl_OrderByPlaces_l5 keys size fuel v122 fuel [] 0))
def impl_OrderByPlaces_p (fuel : Nat) (keys : List Int) (skaters : List Int) (places : List Int) (size : Int) : Option ((List Int) × Bool) :=
  (impl_areKeys_p keys 4).bind fun x1 =>
  (opt (!(!x1)) default (impl_isOrder_p skaters)).bind fun x3 =>
  (opt (!(((!x1) || (!x3)) || ((places.length : Int) != (skaters.length : Int)))) default (impl_allWithin_p places 1 99)).bind fun x5 =>
  (opt (!((((!x1) || (!x3)) || ((places.length : Int) != (skaters.length : Int))) || (!x5))) default (impl_isGroupSize_p size)).bind fun x7 =>
  cond (((((!x1) || (!x3)) || ((places.length : Int) != (skaters.length : Int))) || (!x5)) || (!x7))
    (some ([], false))
    (impl_OrderByPlaces_l1 keys skaters places size fuel fuel [] 99)
theorem impl_OrderByPlaces_ok (fuel : Nat) (keys : List Int) (skaters : List Int) (places : List Int) (size : Int) (r : ((List Int) × Bool)) (hH : impl_OrderByPlaces_p fuel keys skaters places size = some r) : SpecR Tryz.prog 126 [.s (List.map encInt keys), .s (List.map encInt skaters), .s (List.map encInt places), .v (.int .i64 size)] (.t [.w 1 (r.1.map encInt), .v (.bool r.2)]) := by
 refine fn_ok T Tryz.func126 rfl (by decide) rfl ?_
 refine AW.seq (AW.region ?_)
 iterate 2 refine AO.pure T rfl rfl rfl ?_
 refine AO.nil ?_
 iterate 2 refine AW.seq ?_
 obtain ⟨x1, hx2, hH⟩ := bindE hH
 obtain ⟨x3, hx4, hH⟩ := bindE hH
 obtain ⟨x5, hx6, hH⟩ := bindE hH
 obtain ⟨x7, hx8, hH⟩ := bindE hH
 refine AW.region ?_
 refine AO.pure T rfl rfl rfl ?_
 refine AO.val rfl rfl (callV_ok rfl rfl rfl rfl (impl_areKeys_ok _ _ _ (hx2)) rfl) ?_
 iterate 2 refine AO.pure T rfl rfl rfl ?_
 refine AO.pureG T [] rfl trivial rfl rfl ?_
 refine AO.guard [24] rfl ⟨fun h => h, trivial⟩ (fun hg => callV_ok rfl rfl rfl rfl (impl_isOrder_ok _ _ (optT hx4 hg)) rfl) rfl ?_
 refine AO.pureG T [25] rfl ⟨fun h => h, trivial⟩ rfl rfl ?_
 refine AO.val rfl rfl (pick_or rfl rfl rfl rfl) ?_
 refine AO.pure T rfl rfl rfl ?_
 refine AO.pureG T [] rfl trivial rfl rfl ?_
 refine AO.guard [29] rfl ⟨fun h => h, trivial⟩ (fun hg => len_map_ok T rfl rfl rfl) rfl ?_
 refine AO.pureG T [] rfl trivial rfl rfl ?_
 refine AO.guard [31] rfl ⟨fun h => h, trivial⟩ (fun hg => len_map_ok T rfl rfl rfl) rfl ?_
 refine AO.pureG T [30, 32] rfl ⟨fun h => h, fun h => h, trivial⟩ rfl rfl ?_
 refine AO.val rfl rfl (pick_or rfl rfl rfl rfl) ?_
 refine AO.pure T rfl rfl rfl ?_
 refine AO.pureG T [] rfl trivial rfl rfl ?_
 refine AO.guard [36] rfl ⟨fun h => h, trivial⟩ (fun hg => callV_ok rfl rfl rfl rfl (impl_allWithin_ok _ _ _ _ (optT hx6 hg)) rfl) rfl ?_
 refine AO.pureG T [37] rfl ⟨fun h => h, trivial⟩ rfl rfl ?_
 refine AO.val rfl rfl (pick_or rfl rfl rfl rfl) ?_
 refine AO.pure T rfl rfl rfl ?_
 refine AO.pureG T [] rfl trivial rfl rfl ?_
 refine AO.guard [41] rfl ⟨fun h => h, trivial⟩ (fun hg => callV_ok rfl rfl rfl rfl (impl_isGroupSize_ok _ _ (optT hx8 hg)) rfl) rfl ?_
 refine AO.pureG T [42] rfl ⟨fun h => h, trivial⟩ rfl rfl ?_
 refine AO.val rfl rfl (pick_or rfl rfl rfl rfl) ?_
 refine AO.nil ?_
 refine AW.le (Le.ct 0 0 (σ' := (⟨[(0, .s (List.map encInt keys)), (1, .s (List.map encInt skaters)), (2, .s (List.map encInt places)), (3, .v (.int .i64 size)), (44, .v (.bool (((((!x1) || (!x3)) || ((places.length : Int) != (skaters.length : Int))) || (!x5)) || (!x7))))], [], 119, []⟩ : St))) ?_
 refine AW.cond (b := (((((!x1) || (!x3)) || ((places.length : Int) != (skaters.length : Int))) || (!x5)) || (!x7))) rfl (fun hc => ?_) (fun hc => ?_)
 replace hH := condT hc hH
 refine AW.seq (AW.region ?_)
 iterate 2 refine AO.pure T rfl rfl rfl ?_
 refine AO.nil (AW.ret ?_)
 cases someE hH
 exact ⟨trivial, _, [], rfl, .t (expLG_cons (.c .nil) (expLG_cons (.c .v) (expLG_nil))), by decide⟩
 replace hH := condF hc hH
 refine AW.skip ?_
 refine AW.seq (AW.region ?_)
 refine AO.step rfl (mk0_ok T rfl rfl rfl rfl) ?_
 refine AO.pure T rfl rfl rfl ?_
 refine AO.nil ?_
 iterate 2 refine AW.seq ?_
 refine AW.region ?_
 refine AO.pure T rfl rfl rfl ?_
 refine AO.nil ?_
 refine AW.block ?_
 refine AW.loopS (fun s : Nat × (List Int) × Int => (⟨[(0, .s (List.map encInt keys)), (1, .s (List.map encInt skaters)), (2, .s (List.map encInt places)), (3, .v (.int .i64 size)), (10, .R 28), (11, .v (.int .i64 s.2.2))], [(28, .row 1 (List.map encInt s.2.1))], 119, []⟩ : St)) (fun s => impl_OrderByPlaces_l1 keys skaters places size fuel s.1 s.2.1 s.2.2 = some r) (fun s => s.1) (fuel, [], 99) hH ?_ ?_
 refine Le.trans (Le.void 10 28 1 rfl rfl) ?_
 exact Le.ct 0 0
 rintro ⟨k9, v122, v123⟩ hH
 replace hH : impl_OrderByPlaces_l1 keys skaters places size fuel k9 v122 v123 = some r := hH
 show AW _ _ _ (⟨[(0, .s (List.map encInt keys)), (1, .s (List.map encInt skaters)), (2, .s (List.map encInt places)), (3, .v (.int .i64 size)), (10, .R 28), (11, .v (.int .i64 v123))], [(28, .row 1 (List.map encInt v122))], 119, []⟩ : St)
 rcases k9 with _ | k9
 cases (show none = some _ from hH)
 rw [impl_OrderByPlaces_l1] at hH
 iterate 2 refine AW.seq ?_
 refine AW.region ?_
 iterate 2 refine AO.pure T rfl rfl rfl ?_
 refine AO.nil ?_
 refine AW.cond (b := decide (v123 ≥ 1)) rfl (fun hc => ?_) (fun hc => ?_)
 replace hH := condT hc hH
 refine AW.skip ?_
 obtain ⟨o152, hH, hK153⟩ := bindE hH
 refine AW.seqJ (fun s : List Int => (⟨[(0, .s (List.map encInt keys)), (1, .s (List.map encInt skaters)), (2, .s (List.map encInt places)), (3, .v (.int .i64 size)), (10, .R 48), (11, .v (.int .i64 v123))], [(48, .row 1 (List.map encInt s))], 119, []⟩ : St)) (fun s => s = o152) ?_ ?_
 refine AW.block ?_
 refine AW.seq (AW.region ?_)
 refine AO.step rfl (mk0_ok T rfl rfl rfl rfl) ?_
 refine AO.pure T rfl rfl rfl ?_
 refine AO.nil ?_
 iterate 2 refine AW.seq ?_
 refine AW.region ?_
 refine AO.pure T rfl rfl rfl ?_
 refine AO.val rfl rfl (len_map_ok T rfl rfl rfl) ?_
 refine AO.pure T rfl rfl rfl ?_
 refine AO.nil ?_
 refine AW.block ?_
 refine AW.loopS (fun s : Nat × (List Int) => (⟨[(0, .s (List.map encInt keys)), (1, .s (List.map encInt skaters)), (2, .s (List.map encInt places)), (3, .v (.int .i64 size)), (10, .R 28), (11, .v (.int .i64 v123)), (12, .R 54), (51, .s (List.map encInt skaters)), (52, .v (.int .i64 (skaters.length : Int))), (53, .v (.int .i64 (s.1 : Int)))], [(28, .row 1 (List.map encInt v122)), (54, .row 1 (List.map encInt s.2))], 119, []⟩ : St)) (fun s => s.1 ≤ skaters.length ∧ impl_OrderByPlaces_l2 keys places fuel v122 v123 (skaters.drop s.1) s.1 s.2 = some o152) (fun s => skaters.length - s.1) (0, []) ⟨Nat.zero_le _, hH⟩ ?_ ?_
 refine Le.trans (Le.void 12 54 1 rfl rfl) ?_
 exact Le.ct 0 0
 rintro ⟨k154, v169⟩ ⟨hk, hH⟩
 replace hH : impl_OrderByPlaces_l2 keys places fuel v122 v123 (skaters.drop k154) k154 v169 = some o152 := hH
 show AW _ _ _ (⟨[(0, .s (List.map encInt keys)), (1, .s (List.map encInt skaters)), (2, .s (List.map encInt places)), (3, .v (.int .i64 size)), (10, .R 28), (11, .v (.int .i64 v123)), (12, .R 54), (51, .s (List.map encInt skaters)), (52, .v (.int .i64 (skaters.length : Int))), (53, .v (.int .i64 (k154 : Int)))], [(28, .row 1 (List.map encInt v122)), (54, .row 1 (List.map encInt v169))], 119, []⟩ : St)
 refine AW.boundM (t := 1) (l := skaters) rfl (fun hb158 => ?_)
 rcases hd157 : skaters.drop k154 with _ | ⟨y155, ys156⟩
 rw [hd157, impl_OrderByPlaces_l2] at hH
 have hlt159 := drop_ge hd157
 refine AW.seq (AW.region ?_)
 refine AO.pure T rfl rfl rfl ?_
 refine AO.nil (AW.seq ?_)
 refine AW.condF' (b := decide ((k154 : Int) < (skaters.length : Int))) rfl (rngF hlt159) ?_
 refine AW.exit ?_
 obtain ⟨x171, hx172, hH⟩ := bindE hH
 obtain ⟨x173, hx174, hH⟩ := bindE hH
 obtain ⟨u175, hx176, hH⟩ := bindE hH
 refine AW.region ?_
 iterate 3 refine AO.pure T rfl rfl rfl ?_
 refine AO.step rfl (mk_map_ok T rfl 55 rfl rfl rfl rfl rfl (f := encInt) (l := [90, v123]) rfl rfl (fun _ => rfl) rfl rfl rfl rfl rfl) ?_
 refine AO.step rfl (callL_ok rfl 56 rfl rfl (es := [.s (List.map encInt keys), .s (List.map encInt [90, v123])]) (by exact ⟨.free rfl, (.rowR rfl (.map fun y => .vs rfl)), trivial⟩) (impl_withKeys_ok _ _ _ (hx172)) (zfree_map (fun y => (.cons (zfree_v _) .nil))) rfl rfl rfl) ?_
 refine AO.pure T rfl rfl rfl ?_
 refine AO.step rfl (callL_ok rfl 57 rfl rfl (es := [.s (List.map encInt x171), .s (List.map encInt v169)]) (by exact ⟨(.rowR rfl (.map fun y => .vs rfl)), (.rowR rfl (.map fun y => .vs rfl)), trivial⟩) (impl_shuffledNumbers_ok fuel _ _ _ (hx174)) (zfree_map (fun y => (.cons (zfree_v _) .nil))) rfl rfl rfl) ?_
 refine AO.step rfl (app_rv_map T rfl 58 rfl rfl rfl rfl rfl (by decide) rfl rfl rfl rfl (fun _ => rfl) (needT (hx176)) rfl rfl) ?_
 refine AO.pure T rfl rfl rfl ?_
 refine AO.nil ?_
 refine ⟨_, someE hH, ?_⟩
 exact Le.ct 58 48
 rw [hd157, impl_OrderByPlaces_l2] at hH
 have hlt159 := drop_lt hd157
 refine AW.seq (AW.region ?_)
 refine AO.pure T rfl rfl rfl ?_
 refine AO.nil (AW.seq ?_)
 refine AW.condT' (b := decide ((k154 : Int) < (skaters.length : Int))) rfl (rngT hlt159) ?_
 refine AW.skip ?_
 refine AW.seq ?_
 refine AW.block ?_
 refine AW.seq (AW.region ?_)
 refine AO.pure T rfl rfl rfl ?_
 refine AO.val rfl rfl (ix_map_ok T rfl rfl rfl rfl rfl (getI_drop hd157) rfl) ?_
 iterate 3 refine AO.pure T rfl rfl rfl ?_
 refine AO.nil (AW.seq ?_)
 obtain ⟨x177, hx178, hH⟩ := bindE hH
 refine AW.region ?_
 iterate 2 refine AO.pure T rfl rfl rfl ?_
 refine AO.val rfl rfl (ix_map_ok T rfl rfl rfl rfl rfl (hx178) rfl) ?_
 iterate 3 refine AO.pure T rfl rfl rfl ?_
 refine AO.nil ?_
 refine AW.cond (b := (x177 == v123)) rfl (fun hc => ?_) (fun hc => ?_)
 replace hH := condT hc hH
 obtain ⟨u179, hx180, hH⟩ := bindE hH
 refine AW.region ?_
 iterate 2 refine AO.pure T rfl rfl rfl ?_
 refine AO.step rfl (mk_map_ok T rfl 59 rfl rfl rfl rfl rfl (f := encInt) (l := [y155]) rfl rfl (fun _ => rfl) rfl rfl rfl rfl rfl) ?_
 refine AO.step rfl (app_rv_map T rfl 60 rfl rfl rfl rfl rfl (by decide) rfl rfl rfl rfl (fun _ => rfl) (needT (hx180)) rfl rfl) ?_
 refine AO.pure T rfl rfl rfl ?_
 refine AO.nil ?_
 refine AW.region ?_
 refine AO.val rfl rfl (ar_ok rfl rfl rfl rfl (inI_succ hlt159 hb158)) ?_
 refine AO.pure T rfl rfl rfl ?_
 refine AO.nil ?_
 refine ⟨(k154 + 1, (v169 ++ [y155])), ⟨Nat.succ_le_of_lt hlt159, (by rw [drop_succ_of hd157]; exact hH)⟩, (by have := hlt159; dsimp only; omega), ?_⟩
 exact Le.ct 60 54
 replace hH := condF hc hH
 refine AW.skip ?_
 refine AW.region ?_
 refine AO.val rfl rfl (ar_ok rfl rfl rfl rfl (inI_succ hlt159 hb158)) ?_
 refine AO.pure T rfl rfl rfl ?_
 refine AO.nil ?_
 refine ⟨(k154 + 1, v169), ⟨Nat.succ_le_of_lt hlt159, (by rw [drop_succ_of hd157]; exact hH)⟩, (by have := hlt159; dsimp only; omega), ?_⟩
 exact Le.ct 0 0
 rintro v151 hs
 subst hs
 replace hH := hK153
 try dsimp only [flow, flowE] at hH
 show AW _ _ _ (⟨[(0, .s (List.map encInt keys)), (1, .s (List.map encInt skaters)), (2, .s (List.map encInt places)), (3, .v (.int .i64 size)), (10, .R 48), (11, .v (.int .i64 v123))], [(48, .row 1 (List.map encInt v151))], 119, []⟩ : St)
 refine AW.region ?_
 refine AO.pure T rfl rfl rfl ?_
 refine AO.val rfl rfl (arw_ok rfl rfl rfl rfl) ?_
 refine AO.pure T rfl rfl rfl ?_
 refine AO.nil ?_
 refine ⟨(k9, v151, w64 (v123 - 1)), hH, Nat.lt_succ_self _, ?_⟩
 exact Le.ct 48 28
 replace hH := condF hc hH
 refine AW.exit ?_
 refine AW.seq (AW.region ?_)
 refine AO.step rfl (mk0_ok T rfl rfl rfl rfl) ?_
 refine AO.pure T rfl rfl rfl ?_
 refine AO.nil ?_
 iterate 2 refine AW.seq ?_
 obtain ⟨u181, hx182, hH⟩ := bindE hH
 refine AW.region ?_
 refine AO.pure T rfl rfl rfl ?_
 refine AO.val rfl rfl (len_row_ok T rfl rfl rfl rfl) ?_
 refine AO.pure T rfl rfl rfl ?_
 refine AO.val rfl rfl (rem_ok rfl rfl rfl (neZ (needT (hx182)))) ?_
 refine AO.pure T rfl rfl rfl ?_
 refine AO.nil (AW.seq ?_)
 refine AW.region ?_
 iterate 2 refine AO.pure T rfl rfl rfl ?_
 refine AO.nil ?_
 refine AW.cond (b := decide (((v122.length : Int).tmod size) > 0)) rfl (fun hc => ?_) (fun hc => ?_)
 replace hH := condT hc hH
 obtain ⟨u183, hx184, hH⟩ := bindE hH
 refine AW.region ?_
 iterate 2 refine AO.pure T rfl rfl rfl ?_
 refine AO.step rfl (mk_map_ok T rfl 61 rfl rfl rfl rfl rfl (f := encInt) (l := [((v122.length : Int).tmod size)]) rfl rfl (fun _ => rfl) rfl rfl rfl rfl rfl) ?_
 refine AO.step rfl (app_wv_map T rfl 62 rfl rfl rfl rfl rfl (by decide) rfl rfl rfl (fun _ => rfl) (needT (hx184)) rfl rfl) ?_
 refine AO.pure T rfl rfl rfl ?_
 refine AO.nil ?_
 iterate 2 refine AW.seq ?_
 refine AW.region ?_
 refine AO.pure T rfl rfl rfl ?_
 refine AO.val rfl rfl (len_row_ok T rfl rfl rfl rfl) ?_
 refine AO.pure T rfl rfl rfl ?_
 refine AO.val rfl rfl (quow_ok rfl rfl rfl (neZ (needT (hx182)))) ?_
 refine AO.pure T rfl rfl rfl ?_
 refine AO.nil ?_
 refine AW.block ?_
 refine AW.loopS (fun s : Nat × (List Int) × Int => (⟨[(0, .s (List.map encInt keys)), (3, .v (.int .i64 size)), (10, .R 28), (15, .R 62), (91, .v (.int .i64 (w64 ((v122.length : Int).tdiv size)))), (92, .v (.int .i64 s.2.2))], [(28, .row 1 (List.map encInt v122)), (62, .row 1 (List.map encInt s.2.1))], 119, []⟩ : St)) (fun s => impl_OrderByPlaces_l3 keys size fuel v122 s.1 s.2.1 s.2.2 = some r) (fun s => s.1) (fuel, [((v122.length : Int).tmod size)], 0) hH ?_ ?_
 exact Le.ct 0 0
 rintro ⟨k185, v192, v193⟩ hH
 replace hH : impl_OrderByPlaces_l3 keys size fuel v122 k185 v192 v193 = some r := hH
 show AW _ _ _ (⟨[(0, .s (List.map encInt keys)), (3, .v (.int .i64 size)), (10, .R 28), (15, .R 62), (91, .v (.int .i64 (w64 ((v122.length : Int).tdiv size)))), (92, .v (.int .i64 v193))], [(28, .row 1 (List.map encInt v122)), (62, .row 1 (List.map encInt v192))], 119, []⟩ : St)
 rcases k185 with _ | k185
 cases (show none = some _ from hH)
 rw [impl_OrderByPlaces_l3] at hH
 refine AW.seq (AW.region ?_)
 refine AO.pure T rfl rfl rfl ?_
 refine AO.nil (AW.seq ?_)
 refine AW.cond (b := decide (v193 < (w64 ((v122.length : Int).tdiv size)))) rfl (fun hc => ?_) (fun hc => ?_)
 replace hH := condT hc hH
 refine AW.skip ?_
 refine AW.seq ?_
 refine AW.block ?_
 obtain ⟨u195, hx196, hH⟩ := bindE hH
 refine AW.region ?_
 iterate 2 refine AO.pure T rfl rfl rfl ?_
 refine AO.step rfl (mk_map_ok T rfl 67 rfl rfl rfl rfl rfl (f := encInt) (l := [size]) rfl rfl (fun _ => rfl) rfl rfl rfl rfl rfl) ?_
 refine AO.step rfl (app_rv_map T rfl 68 rfl rfl rfl rfl rfl (by decide) rfl rfl rfl rfl (fun _ => rfl) (needT (hx196)) rfl rfl) ?_
 refine AO.pure T rfl rfl rfl ?_
 refine AO.nil ?_
 refine AW.region ?_
 refine AO.val rfl rfl (arw_ok rfl rfl rfl rfl) ?_
 refine AO.pure T rfl rfl rfl ?_
 refine AO.nil ?_
 refine ⟨(k185, (v192 ++ [size]), w64 (v193 + 1)), hH, Nat.lt_succ_self _, ?_⟩
 exact Le.ct 68 62
 replace hH := condF hc hH
 refine AW.exit ?_
 refine AW.seq (AW.region ?_)
 refine AO.step rfl (mk0_ok T rfl rfl rfl rfl) ?_
 refine AO.pure T rfl rfl rfl ?_
 refine AO.nil ?_
 iterate 2 refine AW.seq ?_
 obtain ⟨x197, hx198, hH⟩ := bindE hH
 refine AW.region ?_
 iterate 2 refine AO.pure T rfl rfl rfl ?_
 refine AO.step rfl (callL_ok rfl 69 rfl rfl (es := [.s (List.map encInt v122), .s (List.map encInt v192)]) (by exact ⟨(.rowR rfl (.map fun y => .vs rfl)), (.rowR rfl (.map fun y => .vs rfl)), trivial⟩) (impl_cutInto_ok _ _ _ (hx198)) (zfree_map (fun y => (.cons (zfree_map (fun y => (.cons (zfree_v _) .nil))) .nil))) rfl rfl rfl) ?_
 refine AO.val rfl rfl (len_row_ok T rfl rfl rfl rfl) ?_
 refine AO.pure T rfl rfl rfl ?_
 refine AO.nil ?_
 refine AW.block ?_
 refine AW.loopS (fun s : Nat × (List Int) × (List (List Int)) × Int => (⟨[(0, .s (List.map encInt keys)), (17, .R 79), (102, .R 69), (103, .v (.int .i64 (x197.length : Int))), (104, .v (.int .i64 s.2.2.2))], [(69, .row 1 (List.map encLIntO s.2.2.1)), (79, .row 1 (List.map encInt s.2.1))], 119, []⟩ : St)) (fun s => impl_OrderByPlaces_l4 keys fuel x197 s.1 s.2.1 s.2.2.1 s.2.2.2 = some r) (fun s => s.1) (fuel, [], x197, 0) hH ?_ ?_
 refine Le.trans (Le.void 17 79 1 rfl rfl) ?_
 exact Le.ct 0 0
 rintro ⟨k199, v219, v220, v221⟩ hH
 replace hH : impl_OrderByPlaces_l4 keys fuel x197 k199 v219 v220 v221 = some r := hH
 show AW _ _ _ (⟨[(0, .s (List.map encInt keys)), (17, .R 79), (102, .R 69), (103, .v (.int .i64 (x197.length : Int))), (104, .v (.int .i64 v221))], [(69, .row 1 (List.map encLIntO v220)), (79, .row 1 (List.map encInt v219))], 119, []⟩ : St)
 rcases k199 with _ | k199
 cases (show none = some _ from hH)
 rw [impl_OrderByPlaces_l4] at hH
 refine AW.seq (AW.region ?_)
 refine AO.pure T rfl rfl rfl ?_
 refine AO.nil (AW.seq ?_)
 refine AW.cond (b := decide (v221 < (x197.length : Int))) rfl (fun hc => ?_) (fun hc => ?_)
 replace hH := condT hc hH
 refine AW.skip ?_
 refine AW.seq ?_
 refine AW.block ?_
 refine AW.seq ?_
 obtain ⟨x223, hx224, hH⟩ := bindE hH
 refine AW.le (Le.openM 69 v221.toNat 0 80 rfl (getI_get (hx224)) rfl rfl) ?_
 refine AW.region ?_
 refine AO.pure T rfl rfl rfl ?_
 refine AO.val rfl rfl (ix_lent_ok T rfl rfl rfl rfl rfl rfl (hx224)) ?_
 refine AO.val rfl rfl (load_lent_ok T rfl rfl rfl rfl rfl) ?_
 iterate 2 refine AO.pure T rfl rfl rfl ?_
 refine AO.nil ?_
 obtain ⟨x225, hx226, hH⟩ := bindE hH
 obtain ⟨x227, hx228, hH⟩ := bindE hH
 obtain ⟨u229, hx230, hH⟩ := bindE hH
 refine AW.region ?_
 iterate 3 refine AO.pure T rfl rfl rfl ?_
 refine AO.step rfl (mk_map_ok T rfl 81 rfl rfl rfl rfl rfl (f := encInt) (l := [v221]) rfl rfl (fun _ => rfl) rfl rfl rfl rfl rfl) ?_
 refine AO.step rfl (callL_ok rfl 82 rfl rfl (es := [.s (List.map encInt keys), .s (List.map encInt [v221])]) (by exact ⟨.free rfl, (.rowR rfl (.map fun y => .vs rfl)), trivial⟩) (impl_withKeys_ok _ _ _ (hx226)) (zfree_map (fun y => (.cons (zfree_v _) .nil))) rfl rfl rfl) ?_
 refine AO.pure T rfl rfl rfl ?_
 refine AO.step rfl (callL_ok rfl 83 rfl rfl (es := [.s (List.map encInt x225), .s (List.map encInt x223)]) (by exact ⟨(.rowR rfl (.map fun y => .vs rfl)), (.rowR rfl (.map fun y => .vs rfl)), trivial⟩) (impl_shuffledNumbers_ok fuel _ _ _ (hx228)) (zfree_map (fun y => (.cons (zfree_v _) .nil))) rfl rfl rfl) ?_
 refine AO.step rfl (app_rv_map T rfl 84 rfl rfl rfl rfl rfl (by decide) rfl rfl rfl rfl (fun _ => rfl) (needT (hx230)) rfl rfl) ?_
 refine AO.pure T rfl rfl rfl ?_
 refine AO.le (Le.closeM 69 v221.toNat 0 80 rfl rfl (getI_get (hx224)) rfl (u' := x223) rfl) ?_
 refine AO.nil ?_
 refine AW.region ?_
 refine AO.val rfl rfl (arw_ok rfl rfl rfl rfl) ?_
 refine AO.pure T rfl rfl rfl ?_
 refine AO.nil ?_
 refine ⟨(k199, (v219 ++ x227), (v220.set v221.toNat x223), w64 (v221 + 1)), hH, Nat.lt_succ_self _, ?_⟩
 exact Le.ct 84 79
 replace hH := condF hc hH
 refine AW.exit ?_
 refine AW.seq (AW.region ?_)
 iterate 3 refine AO.pure T rfl rfl rfl ?_
 refine AO.nil (AW.ret ?_)
 cases someE hH
 exact ⟨trivial, _, [79], rfl, .t (expLG_cons (.c (.rowR rfl)) (expLG_cons (.c .v) (expLG_nil))), by decide⟩
 replace hH := condF hc hH
 refine AW.skip ?_
 iterate 2 refine AW.seq ?_
 refine AW.region ?_
 refine AO.pure T rfl rfl rfl ?_
 refine AO.val rfl rfl (len_row_ok T rfl rfl rfl rfl) ?_
 refine AO.pure T rfl rfl rfl ?_
 refine AO.val rfl rfl (quow_ok rfl rfl rfl (neZ (needT (hx182)))) ?_
 refine AO.pure T rfl rfl rfl ?_
 refine AO.nil ?_
 refine AW.block ?_
 refine AW.loopS (fun s : Nat × (List Int) × Int => (⟨[(0, .s (List.map encInt keys)), (3, .v (.int .i64 size)), (10, .R 28), (15, .R 88), (91, .v (.int .i64 (w64 ((v122.length : Int).tdiv size)))), (92, .v (.int .i64 s.2.2))], [(28, .row 1 (List.map encInt v122)), (88, .row 1 (List.map encInt s.2.1))], 119, []⟩ : St)) (fun s => impl_OrderByPlaces_l5 keys size fuel v122 s.1 s.2.1 s.2.2 = some r) (fun s => s.1) (fuel, [], 0) hH ?_ ?_
 refine Le.trans (Le.void 15 88 1 rfl rfl) ?_
 exact Le.ct 0 0
 rintro ⟨k231, v238, v239⟩ hH
 replace hH : impl_OrderByPlaces_l5 keys size fuel v122 k231 v238 v239 = some r := hH
 show AW _ _ _ (⟨[(0, .s (List.map encInt keys)), (3, .v (.int .i64 size)), (10, .R 28), (15, .R 88), (91, .v (.int .i64 (w64 ((v122.length : Int).tdiv size)))), (92, .v (.int .i64 v239))], [(28, .row 1 (List.map encInt v122)), (88, .row 1 (List.map encInt v238))], 119, []⟩ : St)
 rcases k231 with _ | k231
 cases (show none = some _ from hH)
 rw [impl_OrderByPlaces_l5] at hH
 refine AW.seq (AW.region ?_)
 refine AO.pure T rfl rfl rfl ?_
 refine AO.nil (AW.seq ?_)
 refine AW.cond (b := decide (v239 < (w64 ((v122.length : Int).tdiv size)))) rfl (fun hc => ?_) (fun hc => ?_)
 replace hH := condT hc hH
 refine AW.skip ?_
 refine AW.seq ?_
 refine AW.block ?_
 obtain ⟨u241, hx242, hH⟩ := bindE hH
 refine AW.region ?_
 iterate 2 refine AO.pure T rfl rfl rfl ?_
 refine AO.step rfl (mk_map_ok T rfl 89 rfl rfl rfl rfl rfl (f := encInt) (l := [size]) rfl rfl (fun _ => rfl) rfl rfl rfl rfl rfl) ?_
 refine AO.step rfl (app_rv_map T rfl 90 rfl rfl rfl rfl rfl (by decide) rfl rfl rfl rfl (fun _ => rfl) (needT (hx242)) rfl rfl) ?_
 refine AO.pure T rfl rfl rfl ?_
 refine AO.nil ?_
 refine AW.region ?_
 refine AO.val rfl rfl (arw_ok rfl rfl rfl rfl) ?_
 refine AO.pure T rfl rfl rfl ?_
 refine AO.nil ?_
 refine ⟨(k231, (v238 ++ [size]), w64 (v239 + 1)), hH, Nat.lt_succ_self _, ?_⟩
 exact Le.ct 90 88
 replace hH := condF hc hH
 refine AW.exit ?_
 refine AW.seq (AW.region ?_)
 refine AO.step rfl (mk0_ok T rfl rfl rfl rfl) ?_
 refine AO.pure T rfl rfl rfl ?_
 refine AO.nil ?_
 iterate 2 refine AW.seq ?_
 obtain ⟨x243, hx244, hH⟩ := bindE hH
 refine AW.region ?_
 iterate 2 refine AO.pure T rfl rfl rfl ?_
 refine AO.step rfl (callL_ok rfl 91 rfl rfl (es := [.s (List.map encInt v122), .s (List.map encInt v238)]) (by exact ⟨(.rowR rfl (.map fun y => .vs rfl)), (.rowR rfl (.map fun y => .vs rfl)), trivial⟩) (impl_cutInto_ok _ _ _ (hx244)) (zfree_map (fun y => (.cons (zfree_map (fun y => (.cons (zfree_v _) .nil))) .nil))) rfl rfl rfl) ?_
 refine AO.val rfl rfl (len_row_ok T rfl rfl rfl rfl) ?_
 refine AO.pure T rfl rfl rfl ?_
 refine AO.nil ?_
 refine AW.block ?_
 refine AW.loopS (fun s : Nat × (List Int) × (List (List Int)) × Int => (⟨[(0, .s (List.map encInt keys)), (17, .R 101), (102, .R 91), (103, .v (.int .i64 (x243.length : Int))), (104, .v (.int .i64 s.2.2.2))], [(91, .row 1 (List.map encLIntO s.2.2.1)), (101, .row 1 (List.map encInt s.2.1))], 119, []⟩ : St)) (fun s => impl_OrderByPlaces_l6 keys fuel x243 s.1 s.2.1 s.2.2.1 s.2.2.2 = some r) (fun s => s.1) (fuel, [], x243, 0) hH ?_ ?_
 refine Le.trans (Le.void 17 101 1 rfl rfl) ?_
 exact Le.ct 0 0
 rintro ⟨k245, v265, v266, v267⟩ hH
 replace hH : impl_OrderByPlaces_l6 keys fuel x243 k245 v265 v266 v267 = some r := hH
 show AW _ _ _ (⟨[(0, .s (List.map encInt keys)), (17, .R 101), (102, .R 91), (103, .v (.int .i64 (x243.length : Int))), (104, .v (.int .i64 v267))], [(91, .row 1 (List.map encLIntO v266)), (101, .row 1 (List.map encInt v265))], 119, []⟩ : St)
 rcases k245 with _ | k245
 cases (show none = some _ from hH)
 rw [impl_OrderByPlaces_l6] at hH
 refine AW.seq (AW.region ?_)
 refine AO.pure T rfl rfl rfl ?_
 refine AO.nil (AW.seq ?_)
 refine AW.cond (b := decide (v267 < (x243.length : Int))) rfl (fun hc => ?_) (fun hc => ?_)
 replace hH := condT hc hH
 refine AW.skip ?_
 refine AW.seq ?_
 refine AW.block ?_
 refine AW.seq ?_
 obtain ⟨x269, hx270, hH⟩ := bindE hH
 refine AW.le (Le.openM 91 v267.toNat 0 102 rfl (getI_get (hx270)) rfl rfl) ?_
 refine AW.region ?_
 refine AO.pure T rfl rfl rfl ?_
 refine AO.val rfl rfl (ix_lent_ok T rfl rfl rfl rfl rfl rfl (hx270)) ?_
 refine AO.val rfl rfl (load_lent_ok T rfl rfl rfl rfl rfl) ?_
 iterate 2 refine AO.pure T rfl rfl rfl ?_
 refine AO.nil ?_
 obtain ⟨x271, hx272, hH⟩ := bindE hH
 obtain ⟨x273, hx274, hH⟩ := bindE hH
 obtain ⟨u275, hx276, hH⟩ := bindE hH
 refine AW.region ?_
 iterate 3 refine AO.pure T rfl rfl rfl ?_
 refine AO.step rfl (mk_map_ok T rfl 103 rfl rfl rfl rfl rfl (f := encInt) (l := [v267]) rfl rfl (fun _ => rfl) rfl rfl rfl rfl rfl) ?_
 refine AO.step rfl (callL_ok rfl 104 rfl rfl (es := [.s (List.map encInt keys), .s (List.map encInt [v267])]) (by exact ⟨.free rfl, (.rowR rfl (.map fun y => .vs rfl)), trivial⟩) (impl_withKeys_ok _ _ _ (hx272)) (zfree_map (fun y => (.cons (zfree_v _) .nil))) rfl rfl rfl) ?_
 refine AO.pure T rfl rfl rfl ?_
 refine AO.step rfl (callL_ok rfl 105 rfl rfl (es := [.s (List.map encInt x271), .s (List.map encInt x269)]) (by exact ⟨(.rowR rfl (.map fun y => .vs rfl)), (.rowR rfl (.map fun y => .vs rfl)), trivial⟩) (impl_shuffledNumbers_ok fuel _ _ _ (hx274)) (zfree_map (fun y => (.cons (zfree_v _) .nil))) rfl rfl rfl) ?_
 refine AO.step rfl (app_rv_map T rfl 106 rfl rfl rfl rfl rfl (by decide) rfl rfl rfl rfl (fun _ => rfl) (needT (hx276)) rfl rfl) ?_
 refine AO.pure T rfl rfl rfl ?_
 refine AO.le (Le.closeM 91 v267.toNat 0 102 rfl rfl (getI_get (hx270)) rfl (u' := x269) rfl) ?_
 refine AO.nil ?_
 refine AW.region ?_
 refine AO.val rfl rfl (arw_ok rfl rfl rfl rfl) ?_
 refine AO.pure T rfl rfl rfl ?_
 refine AO.nil ?_
 refine ⟨(k245, (v265 ++ x273), (v266.set v267.toNat x269), w64 (v267 + 1)), hH, Nat.lt_succ_self _, ?_⟩
 exact Le.ct 106 101
 replace hH := condF hc hH
 refine AW.exit ?_
 refine AW.seq (AW.region ?_)
 iterate 3 refine AO.pure T rfl rfl rfl ?_
 refine AO.nil (AW.ret ?_)
 cases someE hH
 exact ⟨trivial, _, [101], rfl, .t (expLG_cons (.c (.rowR rfl)) (expLG_cons (.c .v) (expLG_nil))), by decide⟩

def impl_drawOf_l1 (e : Event) (fuel : Nat) : List Entrant → Nat → List Entrant → List Int → List Int → Option (((List Int) × Bool))
  | [], k1, v30, v31, v32 =>
    cond ((v30.length : Int) == 0)
      (some ([], false))
      (cond (e.segment == 0)
        ((impl_StartOrder_p fuel [e.key, 0] v30 e.size).bind fun x34 =>
        some (x34.1, x34.2))
        ((impl_OrderByPlaces_p fuel [e.key, e.segment] v31 v32 e.size).bind fun x36 =>
        some (x36.1, x36.2)))
  | y2 :: ys3, k1, v30, v31, v32 =>
    (impl_isThere_p e y2.skater).bind fun x38 =>
    cond x38
      ((need (fitsB 16 (v30.length + ([y2]).length))).bind fun u40 =>
      (need (fitsB 8 (v31.length + ([y2.skater]).length))).bind fun u42 =>
      (impl_placeOf_p fuel e.results (k1 : Int)).bind fun x44 =>
      (need (fitsB 8 (v32.length + ([x44]).length))).bind fun u46 =>
      impl_drawOf_l1 e fuel ys3 (k1 + 1) (v30 ++ [y2]) (v31 ++ [y2.skater]) (v32 ++ [x44]))
      (impl_drawOf_l1 e fuel ys3 (k1 + 1) v30 v31 v32)
def impl_drawOf_p (fuel : Nat) (e : Event) : Option ((List Int) × Bool) :=
  impl_drawOf_l1 e fuel e.entrants 0 [] [] []
theorem impl_drawOf_ok (fuel : Nat) (e : Event) (r : ((List Int) × Bool)) (hH : impl_drawOf_p fuel e = some r) : SpecR Tryz.prog 70 [.g (encEvent e)] (.t [.w 1 (r.1.map encInt), .v (.bool r.2)]) := by
 refine fn_ok T Tryz.func70 rfl (by decide) rfl ?_
 refine AW.seq (AW.region ?_)
 refine AO.step rfl (box_ok T rfl 1 rfl rfl rfl rfl) ?_
 iterate 2 refine AO.pure T rfl rfl rfl ?_
 refine AO.nil (AW.seq ?_)
 refine AW.region ?_
 iterate 3 refine AO.step rfl (mk0_ok T rfl rfl rfl rfl) ?_
 iterate 3 refine AO.pure T rfl rfl rfl ?_
 refine AO.nil ?_
 iterate 2 refine AW.seq ?_
 refine AW.region ?_
 iterate 2 refine AO.pure T rfl rfl rfl ?_
 refine AO.val rfl rfl (len_map_ok T rfl rfl rfl) ?_
 refine AO.pure T rfl rfl rfl ?_
 refine AO.nil ?_
 refine AW.block ?_
 refine AW.loopS (fun s : Nat × (List Entrant) × (List Int) × (List Int) => (⟨[(1, .p 1 0), (4, .R 11), (5, .R 13), (6, .R 15), (13, .s (List.map encEntrant e.entrants)), (14, .v (.int .i64 (e.entrants.length : Int))), (15, .v (.int .i64 (s.1 : Int)))], [(1, .box [.v (.int .i64 e.segments), .v (.int .i64 e.size), .v (.int .i64 e.key), .s (List.map encEntrant e.entrants), .s (List.map encInt e.gone), .v (.int .i64 e.segment), .s (List.map encInt e.order), .s (List.map encResult e.results)]), (11, .row 2 (List.map encEntrant s.2.1)), (13, .row 1 (List.map encInt s.2.2.1)), (15, .row 1 (List.map encInt s.2.2.2))], 68, []⟩ : St)) (fun s => s.1 ≤ e.entrants.length ∧ impl_drawOf_l1 e fuel (e.entrants.drop s.1) s.1 s.2.1 s.2.2.1 s.2.2.2 = some r) (fun s => e.entrants.length - s.1) (0, [], [], []) ⟨Nat.zero_le _, hH⟩ ?_ ?_
 refine Le.trans (Le.void 4 11 2 rfl rfl) ?_
 refine Le.trans (Le.void 5 13 1 rfl rfl) ?_
 refine Le.trans (Le.void 6 15 1 rfl rfl) ?_
 exact Le.ct 0 0
 rintro ⟨k1, v30, v31, v32⟩ ⟨hk, hH⟩
 replace hH : impl_drawOf_l1 e fuel (e.entrants.drop k1) k1 v30 v31 v32 = some r := hH
 show AW _ _ _ (⟨[(1, .p 1 0), (4, .R 11), (5, .R 13), (6, .R 15), (13, .s (List.map encEntrant e.entrants)), (14, .v (.int .i64 (e.entrants.length : Int))), (15, .v (.int .i64 (k1 : Int)))], [(1, .box [.v (.int .i64 e.segments), .v (.int .i64 e.size), .v (.int .i64 e.key), .s (List.map encEntrant e.entrants), .s (List.map encInt e.gone), .v (.int .i64 e.segment), .s (List.map encInt e.order), .s (List.map encResult e.results)]), (11, .row 2 (List.map encEntrant v30)), (13, .row 1 (List.map encInt v31)), (15, .row 1 (List.map encInt v32))], 68, []⟩ : St)
 refine AW.boundM (t := 13) (l := e.entrants) rfl (fun hb5 => ?_)
 rcases hd4 : e.entrants.drop k1 with _ | ⟨y2, ys3⟩
 rw [hd4, impl_drawOf_l1] at hH
 have hlt6 := drop_ge hd4
 refine AW.seq (AW.region ?_)
 refine AO.pure T rfl rfl rfl ?_
 refine AO.nil (AW.seq ?_)
 refine AW.condF' (b := decide ((k1 : Int) < (e.entrants.length : Int))) rfl (rngF hlt6) ?_
 refine AW.exit ?_
 iterate 2 refine AW.seq ?_
 refine AW.region ?_
 refine AO.pure T rfl rfl rfl ?_
 refine AO.val rfl rfl (len_row_ok T rfl rfl rfl rfl) ?_
 refine AO.pure T rfl rfl rfl ?_
 refine AO.nil ?_
 refine AW.cond (b := ((v30.length : Int) == 0)) rfl (fun hc => ?_) (fun hc => ?_)
 replace hH := condT hc hH
 refine AW.seq (AW.region ?_)
 iterate 2 refine AO.pure T rfl rfl rfl ?_
 refine AO.nil (AW.ret ?_)
 cases someE hH
 exact ⟨trivial, _, [], rfl, .t (expLG_cons (.c .nil) (expLG_cons (.c .v) (expLG_nil))), by decide⟩
 replace hH := condF hc hH
 refine AW.skip ?_
 iterate 2 refine AW.seq ?_
 refine AW.region ?_
 iterate 3 refine AO.pure T rfl rfl rfl ?_
 refine AO.nil ?_
 refine AW.cond (b := (e.segment == 0)) rfl (fun hc => ?_) (fun hc => ?_)
 replace hH := condT hc hH
 refine AW.seq ?_
 obtain ⟨x34, hx35, hH⟩ := bindE hH
 refine AW.region ?_
 iterate 2 refine AO.pure T rfl rfl rfl ?_
 refine AO.step rfl (mk_map_ok T rfl 16 rfl rfl rfl rfl rfl (f := encInt) (l := [e.key, 0]) rfl rfl (fun _ => rfl) rfl rfl rfl rfl rfl) ?_
 iterate 3 refine AO.pure T rfl rfl rfl ?_
 refine AO.step rfl (callL_ok rfl 17 rfl rfl (es := [.s (List.map encInt [e.key, 0]), .s (List.map encEntrant v30), .v (.int .i64 e.size)]) (by exact ⟨(.rowR rfl (.map fun y => .vs rfl)), (.rowR rfl (.map fun y => .vs rfl)), .free rfl, trivial⟩) (impl_StartOrder_ok fuel _ _ _ _ (hx35)) (zfree_t (zfl (.cons (zfree_map (fun y => (.cons (zfree_v _) .nil))) (.cons (zfree_v _) .nil)))) rfl rfl rfl) ?_
 iterate 4 refine AO.pure T rfl rfl rfl ?_
 refine AO.nil (AW.ret ?_)
 cases someE hH
 exact ⟨trivial, _, [17], rfl, .t (expLG_cons (.c (.rowR rfl)) (expLG_cons (.c .v) (expLG_nil))), by decide⟩
 replace hH := condF hc hH
 refine AW.skip ?_
 refine AW.seq ?_
 obtain ⟨x36, hx37, hH⟩ := bindE hH
 refine AW.region ?_
 iterate 4 refine AO.pure T rfl rfl rfl ?_
 refine AO.step rfl (mk_map_ok T rfl 18 rfl rfl rfl rfl rfl (f := encInt) (l := [e.key, e.segment]) rfl rfl (fun _ => rfl) rfl rfl rfl rfl rfl) ?_
 iterate 4 refine AO.pure T rfl rfl rfl ?_
 refine AO.step rfl (callL_ok rfl 19 rfl rfl (es := [.s (List.map encInt [e.key, e.segment]), .s (List.map encInt v31), .s (List.map encInt v32), .v (.int .i64 e.size)]) (by exact ⟨(.rowR rfl (.map fun y => .vs rfl)), (.rowR rfl (.map fun y => .vs rfl)), (.rowR rfl (.map fun y => .vs rfl)), .free rfl, trivial⟩) (impl_OrderByPlaces_ok fuel _ _ _ _ _ (hx37)) (zfree_t (zfl (.cons (zfree_map (fun y => (.cons (zfree_v _) .nil))) (.cons (zfree_v _) .nil)))) rfl rfl rfl) ?_
 iterate 4 refine AO.pure T rfl rfl rfl ?_
 refine AO.nil (AW.ret ?_)
 cases someE hH
 exact ⟨trivial, _, [19], rfl, .t (expLG_cons (.c (.rowR rfl)) (expLG_cons (.c .v) (expLG_nil))), by decide⟩
 rw [hd4, impl_drawOf_l1] at hH
 have hlt6 := drop_lt hd4
 refine AW.seq (AW.region ?_)
 refine AO.pure T rfl rfl rfl ?_
 refine AO.nil (AW.seq ?_)
 refine AW.condT' (b := decide ((k1 : Int) < (e.entrants.length : Int))) rfl (rngT hlt6) ?_
 refine AW.skip ?_
 refine AW.seq ?_
 refine AW.block ?_
 refine AW.seq (AW.region ?_)
 refine AO.pure T rfl rfl rfl ?_
 refine AO.val rfl rfl (ix_map_ok T rfl rfl rfl rfl rfl (getI_drop hd4) rfl) ?_
 refine AO.pure T (d := .g [.v (.int .i64 y2.skater), .v (.int .i64 y2.rank)]) rfl rfl rfl ?_
 refine AO.step rfl (alloc_ok T rfl 20 rfl rfl rfl rfl rfl) ?_
 refine AO.pure T rfl rfl rfl ?_
 refine AO.step rfl (store_okE T rfl rfl rfl rfl rfl rfl rfl rfl rfl (ds' := [.v (.int .i64 y2.skater), .v (.int .i64 y2.rank)]) rfl) ?_
 refine AO.nil (AW.seq ?_)
 obtain ⟨x38, hx39, hH⟩ := bindE hH
 refine AW.region ?_
 refine AO.pure T (d := .g [.v (.int .i64 e.segments), .v (.int .i64 e.size), .v (.int .i64 e.key), .s (List.map encEntrant e.entrants), .s (List.map encInt e.gone), .v (.int .i64 e.segment), .s (List.map encInt e.order), .s (List.map encResult e.results)]) rfl rfl rfl ?_
 iterate 2 refine AO.pure T rfl rfl rfl ?_
 refine AO.val rfl rfl (callV_ok rfl rfl rfl rfl (impl_isThere_ok _ _ _ (hx39)) rfl) ?_
 refine AO.nil ?_
 refine AW.cond (b := x38) rfl (fun hc => ?_) (fun hc => ?_)
 replace hH := condT hc hH
 refine AW.seq ?_
 obtain ⟨u40, hx41, hH⟩ := bindE hH
 refine AW.region ?_
 refine AO.pure T rfl rfl rfl ?_
 refine AO.pure T (d := .g [.v (.int .i64 y2.skater), .v (.int .i64 y2.rank)]) rfl rfl rfl ?_
 refine AO.step rfl (mk_map_ok T rfl 21 rfl rfl rfl rfl rfl (f := encEntrant) (l := [y2]) rfl rfl (fun _ => rfl) rfl rfl rfl rfl rfl) ?_
 refine AO.step rfl (app_rv_map T rfl 22 rfl rfl rfl rfl rfl (by decide) rfl rfl rfl rfl (fun _ => rfl) (needT (hx41)) rfl rfl) ?_
 refine AO.pure T rfl rfl rfl ?_
 refine AO.nil (AW.seq ?_)
 obtain ⟨u42, hx43, hH⟩ := bindE hH
 refine AW.region ?_
 iterate 3 refine AO.pure T rfl rfl rfl ?_
 refine AO.step rfl (mk_map_ok T rfl 23 rfl rfl rfl rfl rfl (f := encInt) (l := [y2.skater]) rfl rfl (fun _ => rfl) rfl rfl rfl rfl rfl) ?_
 refine AO.step rfl (app_rv_map T rfl 24 rfl rfl rfl rfl rfl (by decide) rfl rfl rfl rfl (fun _ => rfl) (needT (hx43)) rfl rfl) ?_
 refine AO.pure T rfl rfl rfl ?_
 refine AO.nil ?_
 obtain ⟨x44, hx45, hH⟩ := bindE hH
 obtain ⟨u46, hx47, hH⟩ := bindE hH
 refine AW.region ?_
 iterate 4 refine AO.pure T rfl rfl rfl ?_
 refine AO.val rfl rfl (callV_ok rfl rfl rfl rfl (impl_placeOf_ok fuel _ _ _ (hx45)) rfl) ?_
 refine AO.step rfl (mk_map_ok T rfl 25 rfl rfl rfl rfl rfl (f := encInt) (l := [x44]) rfl rfl (fun _ => rfl) rfl rfl rfl rfl rfl) ?_
 refine AO.step rfl (app_rv_map T rfl 26 rfl rfl rfl rfl rfl (by decide) rfl rfl rfl rfl (fun _ => rfl) (needT (hx47)) rfl rfl) ?_
 refine AO.pure T rfl rfl rfl ?_
 refine AO.nil ?_
 refine AW.le (Le.ct 0 0 (σ' := (⟨[(1, .p 1 0), (4, .R 22), (5, .R 24), (6, .R 26), (13, .s (List.map encEntrant e.entrants)), (14, .v (.int .i64 (e.entrants.length : Int))), (15, .v (.int .i64 (k1 : Int)))], [(1, .box [.v (.int .i64 e.segments), .v (.int .i64 e.size), .v (.int .i64 e.key), .s (List.map encEntrant e.entrants), .s (List.map encInt e.gone), .v (.int .i64 e.segment), .s (List.map encInt e.order), .s (List.map encResult e.results)]), (22, .row 2 (List.map encEntrant (v30 ++ [y2]))), (24, .row 1 (List.map encInt (v31 ++ [y2.skater]))), (26, .row 1 (List.map encInt (v32 ++ [x44])))], 68, []⟩ : St))) ?_
 refine AW.region ?_
 refine AO.val rfl rfl (ar_ok rfl rfl rfl rfl (inI_succ hlt6 hb5)) ?_
 refine AO.pure T rfl rfl rfl ?_
 refine AO.nil ?_
 refine ⟨(k1 + 1, (v30 ++ [y2]), (v31 ++ [y2.skater]), (v32 ++ [x44])), ⟨Nat.succ_le_of_lt hlt6, (by rw [drop_succ_of hd4]; exact hH)⟩, (by have := hlt6; dsimp only; omega), ?_⟩
 refine Le.trans (Le.ct 22 11 (σ' := (⟨[(1, .p 1 0), (4, .R 11), (5, .R 24), (6, .R 26), (13, .s (List.map encEntrant e.entrants)), (14, .v (.int .i64 (e.entrants.length : Int))), (15, .v (.int .i64 (k1 + 1 : Nat)))], [(1, .box [.v (.int .i64 e.segments), .v (.int .i64 e.size), .v (.int .i64 e.key), .s (List.map encEntrant e.entrants), .s (List.map encInt e.gone), .v (.int .i64 e.segment), .s (List.map encInt e.order), .s (List.map encResult e.results)]), (11, .row 2 (List.map encEntrant (v30 ++ [y2]))), (24, .row 1 (List.map encInt (v31 ++ [y2.skater]))), (26, .row 1 (List.map encInt (v32 ++ [x44])))], 68, []⟩ : St))) ?_
 refine Le.trans (Le.ct 24 13 (σ' := (⟨[(1, .p 1 0), (4, .R 11), (5, .R 13), (6, .R 26), (13, .s (List.map encEntrant e.entrants)), (14, .v (.int .i64 (e.entrants.length : Int))), (15, .v (.int .i64 (k1 + 1 : Nat)))], [(1, .box [.v (.int .i64 e.segments), .v (.int .i64 e.size), .v (.int .i64 e.key), .s (List.map encEntrant e.entrants), .s (List.map encInt e.gone), .v (.int .i64 e.segment), .s (List.map encInt e.order), .s (List.map encResult e.results)]), (11, .row 2 (List.map encEntrant (v30 ++ [y2]))), (13, .row 1 (List.map encInt (v31 ++ [y2.skater]))), (26, .row 1 (List.map encInt (v32 ++ [x44])))], 68, []⟩ : St))) ?_
 exact Le.ct 26 15
 replace hH := condF hc hH
 refine AW.skip ?_
 refine AW.region ?_
 refine AO.val rfl rfl (ar_ok rfl rfl rfl rfl (inI_succ hlt6 hb5)) ?_
 refine AO.pure T rfl rfl rfl ?_
 refine AO.nil ?_
 refine ⟨(k1 + 1, v30, v31, v32), ⟨Nat.succ_le_of_lt hlt6, (by rw [drop_succ_of hd4]; exact hH)⟩, (by have := hlt6; dsimp only; omega), ?_⟩
 exact Le.ct 0 0

def impl_copyEvent_l1 (e : Event) : List Result → Nat → List Result → Option Event
  | [], k1, v16 =>
    (need (fitsB 16 e.entrants.length)).bind fun u18 =>
    (impl_copyInts_p e.gone).bind fun x20 =>
    (impl_copyInts_p e.order).bind fun x22 =>
    some (Event.mk e.segments e.size e.key e.entrants x20 e.segment x22 v16)
  | y2 :: ys3, k1, v16 =>
    (impl_copyInts_p y2.scores).bind fun x24 =>
    (need (fitsB 32 (v16.length + ([(Result.mk y2.skater x24)]).length))).bind fun u26 =>
    impl_copyEvent_l1 e ys3 (k1 + 1) (v16 ++ [(Result.mk y2.skater x24)])
def impl_copyEvent_p (e : Event) : Option Event :=
  impl_copyEvent_l1 e e.results 0 []
theorem impl_copyEvent_ok (e : Event) (r : Event) (hH : impl_copyEvent_p e = some r) : SpecR Tryz.prog 71 [.g (encEvent e)] (.g (encEventO r)) := by
 refine fn_ok T Tryz.func71 rfl (by decide) rfl ?_
 refine AW.seq (AW.region ?_)
 refine AO.step rfl (box_ok T rfl 1 rfl rfl rfl rfl) ?_
 refine AO.step rfl (alloc_ok T rfl 2 rfl rfl rfl rfl rfl) ?_
 refine AO.nil (AW.seq ?_)
 refine AW.region ?_
 refine AO.step rfl (mk0_ok T rfl rfl rfl rfl) ?_
 refine AO.pure T rfl rfl rfl ?_
 refine AO.nil ?_
 iterate 2 refine AW.seq ?_
 refine AW.region ?_
 iterate 2 refine AO.pure T rfl rfl rfl ?_
 refine AO.val rfl rfl (len_map_ok T rfl rfl rfl) ?_
 refine AO.pure T rfl rfl rfl ?_
 refine AO.nil ?_
 refine AW.block ?_
 refine AW.loopS (fun s : Nat × (List Result) => (⟨[(1, .p 1 0), (2, .p 2 0), (3, .R 10), (8, .s (List.map encResult e.results)), (9, .v (.int .i64 (e.results.length : Int))), (10, .v (.int .i64 (s.1 : Int)))], [(1, .box [.v (.int .i64 e.segments), .v (.int .i64 e.size), .v (.int .i64 e.key), .s (List.map encEntrant e.entrants), .s (List.map encInt e.gone), .v (.int .i64 e.segment), .s (List.map encInt e.order), .s (List.map encResult e.results)]), (2, .box [.v (.int .i64 0), .v (.int .i64 0), .v (.int .i64 0), .w 0 [], .w 0 [], .v (.int .i64 0), .w 0 [], .w 0 []]), (10, .row 2 (List.map encResultO s.2))], 40, []⟩ : St)) (fun s => s.1 ≤ e.results.length ∧ impl_copyEvent_l1 e (e.results.drop s.1) s.1 s.2 = some r) (fun s => e.results.length - s.1) (0, []) ⟨Nat.zero_le _, hH⟩ ?_ ?_
 refine Le.trans (Le.void 3 10 2 rfl rfl) ?_
 exact Le.ct 0 0
 rintro ⟨k1, v16⟩ ⟨hk, hH⟩
 replace hH : impl_copyEvent_l1 e (e.results.drop k1) k1 v16 = some r := hH
 show AW _ _ _ (⟨[(1, .p 1 0), (2, .p 2 0), (3, .R 10), (8, .s (List.map encResult e.results)), (9, .v (.int .i64 (e.results.length : Int))), (10, .v (.int .i64 (k1 : Int)))], [(1, .box [.v (.int .i64 e.segments), .v (.int .i64 e.size), .v (.int .i64 e.key), .s (List.map encEntrant e.entrants), .s (List.map encInt e.gone), .v (.int .i64 e.segment), .s (List.map encInt e.order), .s (List.map encResult e.results)]), (2, .box [.v (.int .i64 0), .v (.int .i64 0), .v (.int .i64 0), .w 0 [], .w 0 [], .v (.int .i64 0), .w 0 [], .w 0 []]), (10, .row 2 (List.map encResultO v16))], 40, []⟩ : St)
 refine AW.boundM (t := 8) (l := e.results) rfl (fun hb5 => ?_)
 rcases hd4 : e.results.drop k1 with _ | ⟨y2, ys3⟩
 rw [hd4, impl_copyEvent_l1] at hH
 have hlt6 := drop_ge hd4
 refine AW.seq (AW.region ?_)
 refine AO.pure T rfl rfl rfl ?_
 refine AO.nil (AW.seq ?_)
 refine AW.condF' (b := decide ((k1 : Int) < (e.results.length : Int))) rfl (rngF hlt6) ?_
 refine AW.exit ?_
 refine AW.seq ?_
 obtain ⟨u18, hx19, hH⟩ := bindE hH
 refine AW.region ?_
 refine AO.step rfl (mk0_ok T rfl rfl rfl rfl) ?_
 iterate 2 refine AO.pure T rfl rfl rfl ?_
 refine AO.step rfl (app_ws_map T rfl 11 rfl rfl rfl rfl rfl (by decide) (by decide) rfl rfl (fun _ => rfl) (needT (hx19)) rfl rfl) ?_
 iterate 2 refine AO.pure T rfl rfl rfl ?_
 refine AO.step rfl (store_okE T rfl rfl rfl rfl rfl rfl rfl rfl rfl (ds' := [.v (.int .i64 e.segments), .v (.int .i64 e.size), .v (.int .i64 e.key), .R 11, .s (List.map encInt e.gone), .v (.int .i64 e.segment), .s (List.map encInt e.order), .s (List.map encResult e.results)]) rfl) ?_
 refine AO.pure T rfl rfl rfl ?_
 refine AO.step rfl (store_okE T rfl rfl rfl rfl rfl rfl rfl rfl rfl (ds' := [.v (.int .i64 e.segments), .v (.int .i64 e.size), .v (.int .i64 e.key), .R 11, .s (List.map encInt e.gone), .v (.int .i64 e.segment), .s (List.map encInt e.order), .R 10]) rfl) ?_
 refine AO.nil (AW.seq ?_)
 obtain ⟨x20, hx21, hH⟩ := bindE hH
 obtain ⟨x22, hx23, hH⟩ := bindE hH
 refine AW.drawn 7 12 [] mix (by kernel_rfl) rfl ?_
 iterate 2 refine AD.pure T rfl rfl rfl ?_
 refine AD.q (FStep.call rfl rfl rfl rfl rfl (impl_copyInts_ok _ _ (hx21)) rfl rfl) (impT_names _ _) (impT_le _ _) rfl ?_
 iterate 2 refine AD.pure T rfl rfl rfl ?_
 refine AD.q (FStep.call rfl rfl rfl rfl rfl (impl_copyInts_ok _ _ (hx23)) rfl rfl) (impT_names _ _) (impT_le _ _) rfl ?_
 refine AD.pure T rfl rfl rfl ?_
 refine AD.nil ?_
 refine AO.step rfl (store_okE T rfl rfl rfl rfl rfl rfl rfl rfl rfl (ds' := [.v (.int .i64 e.segments), .v (.int .i64 e.size), .v (.int .i64 e.key), .R 11, .R 12, .v (.int .i64 e.segment), .s (List.map encInt e.order), .R 10]) rfl) ?_
 refine AO.pure T rfl rfl rfl ?_
 refine AO.step rfl (store_okE T rfl rfl rfl rfl rfl rfl rfl rfl rfl (ds' := [.v (.int .i64 e.segments), .v (.int .i64 e.size), .v (.int .i64 e.key), .R 11, .R 12, .v (.int .i64 e.segment), .R 13, .R 10]) rfl) ?_
 refine AO.nil (AW.seq ?_)
 refine AW.region ?_
 refine AO.pure T (d := .g [.v (.int .i64 e.segments), .v (.int .i64 e.size), .v (.int .i64 e.key), .R 11, .R 12, .v (.int .i64 e.segment), .R 13, .R 10]) rfl rfl rfl ?_
 refine AO.step rfl (store_okE T rfl rfl rfl rfl rfl rfl rfl rfl rfl (ds' := [.v (.int .i64 e.segments), .v (.int .i64 e.size), .v (.int .i64 e.key), .R 11, .R 12, .v (.int .i64 e.segment), .R 13, .R 10]) rfl) ?_
 refine AO.nil (AW.ret ?_)
 cases someE hH
 exact ⟨trivial, _, [11, 12, 13, 10], rfl, .c (.g (expLC_cons .v (expLC_cons .v (expLC_cons .v (expLC_cons (.rowR rfl) (expLC_cons (.rowR rfl) (expLC_cons .v (expLC_cons (.rowR rfl) (expLC_cons (.rowR rfl) (expLC_nil)))))))))), by decide⟩
 rw [hd4, impl_copyEvent_l1] at hH
 have hlt6 := drop_lt hd4
 refine AW.seq (AW.region ?_)
 refine AO.pure T rfl rfl rfl ?_
 refine AO.nil (AW.seq ?_)
 refine AW.condT' (b := decide ((k1 : Int) < (e.results.length : Int))) rfl (rngT hlt6) ?_
 refine AW.skip ?_
 refine AW.seq ?_
 refine AW.block ?_
 refine AW.seq (AW.region ?_)
 refine AO.val rfl rfl (ix_map_ok T rfl rfl rfl rfl rfl (getI_drop hd4) rfl) ?_
 refine AO.pure T (d := .g [.v (.int .i64 y2.skater), .s (List.map encInt y2.scores)]) rfl rfl rfl ?_
 refine AO.step rfl (alloc_ok T rfl 14 rfl rfl rfl rfl rfl) ?_
 refine AO.step rfl (store_okE T rfl rfl rfl rfl rfl rfl rfl rfl rfl (ds' := [.v (.int .i64 y2.skater), .s (List.map encInt y2.scores)]) rfl) ?_
 refine AO.nil ?_
 obtain ⟨x24, hx25, hH⟩ := bindE hH
 obtain ⟨u26, hx27, hH⟩ := bindE hH
 refine AW.drawn 8 15 [] mix (by kernel_rfl) rfl ?_
 iterate 5 refine AD.pure T rfl rfl rfl ?_
 refine AD.q (FStep.call rfl rfl rfl rfl rfl (impl_copyInts_ok _ _ (hx25)) rfl rfl) (impT_names _ _) (impT_le _ _) rfl ?_
 refine AD.pured T (d := .g [.v (.int .i64 y2.skater), .R 15]) rfl rfl rfl rfl ?_
 refine AD.k rfl rfl (FStep.mk_o T rfl rfl rfl rfl rfl rfl rfl rfl (f := encResultO) (l := [(Result.mk y2.skater x24)]) (ids := [15]) rfl rfl (fun _ => rfl) (by exact expLC_cons .v (expLC_cons (.rowR rfl) (expLC_nil))) (by decide) rfl rfl rfl rfl) rfl rfl rfl ?_
 refine AD.nil ?_
 refine AO.step rfl (app_rr_map T rfl 17 rfl rfl rfl rfl rfl (by decide) rfl rfl rfl rfl rfl (needT (hx27)) rfl rfl) ?_
 refine AO.pure T rfl rfl rfl ?_
 refine AO.nil ?_
 refine AW.region ?_
 refine AO.val rfl rfl (ar_ok rfl rfl rfl rfl (inI_succ hlt6 hb5)) ?_
 refine AO.pure T rfl rfl rfl ?_
 refine AO.nil ?_
 refine ⟨(k1 + 1, (v16 ++ [(Result.mk y2.skater x24)])), ⟨Nat.succ_le_of_lt hlt6, (by rw [drop_succ_of hd4]; exact hH)⟩, (by have := hlt6; dsimp only; omega), ?_⟩
 exact Le.ct 17 10

def impl_BeginSegment_p (fuel : Nat) (e : Event) : Option (Event × Bool) :=
  (impl_isRunning_p e).bind fun x1 =>
  cond ((!x1) || decide ((e.order.length : Int) > 0))
    (some ((Event.mk 0 0 0 [] [] 0 [] []), false))
    ((impl_drawOf_p fuel e).bind fun x3 =>
    cond (!x3.2)
      (some ((Event.mk 0 0 0 [] [] 0 [] []), false))
      ((impl_copyEvent_p e).bind fun x5 =>
      some ((Event.mk x5.segments x5.size x5.key x5.entrants x5.gone x5.segment x3.1 x5.results), true)))
theorem impl_BeginSegment_ok (fuel : Nat) (e : Event) (r : (Event × Bool)) (hH : impl_BeginSegment_p fuel e = some r) : SpecR Tryz.prog 18 [.g (encEvent e)] (.t [.g (encEventO r.1), .v (.bool r.2)]) := by
 refine fn_ok T Tryz.func18 rfl (by decide) rfl ?_
 refine AW.seq (AW.region ?_)
 refine AO.step rfl (box_ok T rfl 1 rfl rfl rfl rfl) ?_
 refine AO.step rfl (alloc_ok T rfl 2 rfl rfl rfl rfl rfl) ?_
 refine AO.pure T rfl rfl rfl ?_
 refine AO.nil ?_
 iterate 2 refine AW.seq ?_
 obtain ⟨x1, hx2, hH⟩ := bindE hH
 refine AW.region ?_
 refine AO.pure T (d := .g [.v (.int .i64 e.segments), .v (.int .i64 e.size), .v (.int .i64 e.key), .s (List.map encEntrant e.entrants), .s (List.map encInt e.gone), .v (.int .i64 e.segment), .s (List.map encInt e.order), .s (List.map encResult e.results)]) rfl rfl rfl ?_
 refine AO.val rfl rfl (callV_ok rfl rfl rfl rfl (impl_isRunning_ok _ _ (hx2)) rfl) ?_
 iterate 2 refine AO.pure T rfl rfl rfl ?_
 refine AO.pureG T [] rfl trivial rfl rfl ?_
 refine AO.pureG T [11] rfl ⟨fun h => h, trivial⟩ rfl rfl ?_
 refine AO.guard [12] rfl ⟨fun h => h, trivial⟩ (fun hg => len_map_ok T rfl rfl rfl) rfl ?_
 refine AO.pureG T [13] rfl ⟨fun h => h, trivial⟩ rfl rfl ?_
 refine AO.val rfl rfl (pick_or rfl rfl rfl rfl) ?_
 refine AO.nil ?_
 refine AW.cond (b := ((!x1) || decide ((e.order.length : Int) > 0))) rfl (fun hc => ?_) (fun hc => ?_)
 replace hH := condT hc hH
 refine AW.seq (AW.region ?_)
 refine AO.pure T (d := .g [.v (.int .i64 0), .v (.int .i64 0), .v (.int .i64 0), .w 0 [], .w 0 [], .v (.int .i64 0), .w 0 [], .w 0 []]) rfl rfl rfl ?_
 refine AO.step rfl (store_okE T rfl rfl rfl rfl rfl rfl rfl rfl rfl (ds' := [.v (.int .i64 0), .v (.int .i64 0), .v (.int .i64 0), .w 0 [], .w 0 [], .v (.int .i64 0), .w 0 [], .w 0 []]) rfl) ?_
 refine AO.pure T rfl rfl rfl ?_
 refine AO.nil (AW.ret ?_)
 cases someE hH
 exact ⟨trivial, _, [], rfl, .t (expLG_cons (.g (expLC_cons .v (expLC_cons .v (expLC_cons .v (expLC_cons .nil (expLC_cons .nil (expLC_cons .v (expLC_cons .nil (expLC_cons .nil (expLC_nil)))))))))) (expLG_cons (.c .v) (expLG_nil))), by decide⟩
 replace hH := condF hc hH
 refine AW.skip ?_
 refine AW.seq ?_
 obtain ⟨x3, hx4, hH⟩ := bindE hH
 refine AW.region ?_
 refine AO.pure T (d := .g [.v (.int .i64 e.segments), .v (.int .i64 e.size), .v (.int .i64 e.key), .s (List.map encEntrant e.entrants), .s (List.map encInt e.gone), .v (.int .i64 e.segment), .s (List.map encInt e.order), .s (List.map encResult e.results)]) rfl rfl rfl ?_
 refine AO.step rfl (call_ok rfl 3 rfl rfl rfl (impl_drawOf_ok fuel _ _ (hx4)) rfl rfl rfl) ?_
 iterate 5 refine AO.pure T rfl rfl rfl ?_
 refine AO.nil ?_
 iterate 2 refine AW.seq ?_
 refine AW.region ?_
 iterate 2 refine AO.pure T rfl rfl rfl ?_
 refine AO.nil ?_
 refine AW.cond (b := (!x3.2)) rfl (fun hc => ?_) (fun hc => ?_)
 replace hH := condT hc hH
 refine AW.seq (AW.region ?_)
 refine AO.pure T (d := .g [.v (.int .i64 0), .v (.int .i64 0), .v (.int .i64 0), .w 0 [], .w 0 [], .v (.int .i64 0), .w 0 [], .w 0 []]) rfl rfl rfl ?_
 refine AO.step rfl (store_okE T rfl rfl rfl rfl rfl rfl rfl rfl rfl (ds' := [.v (.int .i64 0), .v (.int .i64 0), .v (.int .i64 0), .w 0 [], .w 0 [], .v (.int .i64 0), .w 0 [], .w 0 []]) rfl) ?_
 refine AO.pure T rfl rfl rfl ?_
 refine AO.nil ?_
 refine AW.le (Le.ct 0 0 (σ' := (⟨[(2, .p 2 0), (3, .v (.bool false))], [(2, .box [.v (.int .i64 0), .v (.int .i64 0), .v (.int .i64 0), .w 0 [], .w 0 [], .v (.int .i64 0), .w 0 [], .w 0 []])], 30, []⟩ : St))) ?_
 refine AW.ret ?_
 cases someE hH
 exact ⟨trivial, _, [], rfl, .t (expLG_cons (.g (expLC_cons .v (expLC_cons .v (expLC_cons .v (expLC_cons .nil (expLC_cons .nil (expLC_cons .v (expLC_cons .nil (expLC_cons .nil (expLC_nil)))))))))) (expLG_cons (.c .v) (expLG_nil))), by decide⟩
 replace hH := condF hc hH
 refine AW.skip ?_
 refine AW.seq ?_
 obtain ⟨x5, hx6, hH⟩ := bindE hH
 refine AW.region ?_
 refine AO.pure T (d := .g [.v (.int .i64 e.segments), .v (.int .i64 e.size), .v (.int .i64 e.key), .s (List.map encEntrant e.entrants), .s (List.map encInt e.gone), .v (.int .i64 e.segment), .s (List.map encInt e.order), .s (List.map encResult e.results)]) rfl rfl rfl ?_
 refine AO.step rfl (call_ok rfl 4 rfl rfl rfl (impl_copyEvent_ok _ _ (hx6)) rfl rfl rfl) ?_
 refine AO.step rfl (alloc_ok T rfl 8 rfl rfl rfl rfl rfl) ?_
 refine AO.step rfl (store_okE T rfl rfl rfl rfl rfl rfl rfl rfl rfl (ds' := [.v (.int .i64 x5.segments), .v (.int .i64 x5.size), .v (.int .i64 x5.key), .R 4, .R 5, .v (.int .i64 x5.segment), .R 6, .R 7]) rfl) ?_
 refine AO.nil ?_
 refine AW.le (Le.ct 0 0 (σ' := (⟨[(2, .p 2 0), (4, .R 3), (6, .p 8 0)], [(2, .box [.v (.int .i64 0), .v (.int .i64 0), .v (.int .i64 0), .w 0 [], .w 0 [], .v (.int .i64 0), .w 0 [], .w 0 []]), (3, .row 1 (List.map encInt x3.1)), (4, .row 2 (List.map encEntrant x5.entrants)), (5, .row 1 (List.map encInt x5.gone)), (6, .row 1 (List.map encInt x5.order)), (7, .row 2 (List.map encResultO x5.results)), (8, .box [.v (.int .i64 x5.segments), .v (.int .i64 x5.size), .v (.int .i64 x5.key), .R 4, .R 5, .v (.int .i64 x5.segment), .R 6, .R 7])], 30, []⟩ : St))) ?_
 refine AW.seq (AW.region ?_)
 iterate 2 refine AO.pure T rfl rfl rfl ?_
 refine AO.step rfl (store_okE T rfl rfl rfl rfl rfl rfl rfl rfl rfl (ds' := [.v (.int .i64 x5.segments), .v (.int .i64 x5.size), .v (.int .i64 x5.key), .R 4, .R 5, .v (.int .i64 x5.segment), .R 3, .R 7]) rfl) ?_
 refine AO.nil (AW.seq ?_)
 refine AW.region ?_
 refine AO.pure T (d := .g [.v (.int .i64 x5.segments), .v (.int .i64 x5.size), .v (.int .i64 x5.key), .R 4, .R 5, .v (.int .i64 x5.segment), .R 3, .R 7]) rfl rfl rfl ?_
 refine AO.step rfl (store_okE T rfl rfl rfl rfl rfl rfl rfl rfl rfl (ds' := [.v (.int .i64 x5.segments), .v (.int .i64 x5.size), .v (.int .i64 x5.key), .R 4, .R 5, .v (.int .i64 x5.segment), .R 3, .R 7]) rfl) ?_
 refine AO.pure T rfl rfl rfl ?_
 refine AO.nil (AW.ret ?_)
 cases someE hH
 exact ⟨trivial, _, [4, 5, 3, 7], rfl, .t (expLG_cons (.g (expLC_cons .v (expLC_cons .v (expLC_cons .v (expLC_cons (.rowR rfl) (expLC_cons (.rowR rfl) (expLC_cons .v (expLC_cons (.rowR rfl) (expLC_cons (.rowR rfl) (expLC_nil)))))))))) (expLG_cons (.c .v) (expLG_nil))), by decide⟩

def impl_AllowedSteps_p (fuel : Nat) (e : Event) : Option ((List Int) × Bool) :=
  (impl_IsEvent_p e).bind fun x1 =>
  cond (!x1)
    (some ([], false))
    ((impl_isRunning_p e).bind fun x3 =>
    cond (!x3)
      (some ([], true))
      ((slices_ContainsFunc_Entrant_p e.entrants (fun a0 => impl_AllowedSteps_c1_p a0 e)).bind fun x5 =>
      cond x5
        ((need (fitsB 8 (([2]).length))).bind fun u7 =>
        (impl_BeginSegment_p fuel e).bind fun x9 =>
        cond x9.2
          ((need (fitsB 8 (([2]).length + ([3]).length))).bind fun u11 =>
          cond (decide ((e.order.length : Int) > 0))
            ((need (fitsB 8 ((([2] ++ [3])).length + ([4]).length))).bind fun u13 =>
            some ((([2] ++ [3]) ++ [4]), true))
            (some (([2] ++ [3]), true)))
          (cond (decide ((e.order.length : Int) > 0))
            ((need (fitsB 8 (([2]).length + ([4]).length))).bind fun u15 =>
            some (([2] ++ [4]), true))
            (some ([2], true))))
        ((impl_BeginSegment_p fuel e).bind fun x17 =>
        cond x17.2
          ((need (fitsB 8 (([3]).length))).bind fun u19 =>
          cond (decide ((e.order.length : Int) > 0))
            ((need (fitsB 8 (([3]).length + ([4]).length))).bind fun u21 =>
            some (([3] ++ [4]), true))
            (some ([3], true)))
          (cond (decide ((e.order.length : Int) > 0))
            ((need (fitsB 8 (([4]).length))).bind fun u23 =>
            some ([4], true))
            (some ([], true))))))
theorem impl_AllowedSteps_ok (fuel : Nat) (e : Event) (r : ((List Int) × Bool)) (hH : impl_AllowedSteps_p fuel e = some r) : SpecR Tryz.prog 11 [.g (encEvent e)] (.t [.w 1 (r.1.map encInt), .v (.bool r.2)]) := by
 refine fn_ok T Tryz.func11 rfl (by decide) rfl ?_
 refine AW.seq (AW.region ?_)
 refine AO.step rfl (box_ok T rfl 1 rfl rfl rfl rfl) ?_
 iterate 2 refine AO.pure T rfl rfl rfl ?_
 refine AO.nil ?_
 iterate 2 refine AW.seq ?_
 obtain ⟨x1, hx2, hH⟩ := bindE hH
 refine AW.region ?_
 refine AO.pure T (d := .g [.v (.int .i64 e.segments), .v (.int .i64 e.size), .v (.int .i64 e.key), .s (List.map encEntrant e.entrants), .s (List.map encInt e.gone), .v (.int .i64 e.segment), .s (List.map encInt e.order), .s (List.map encResult e.results)]) rfl rfl rfl ?_
 refine AO.val rfl rfl (callV_ok rfl rfl rfl rfl (impl_IsEvent_ok _ _ (hx2)) rfl) ?_
 refine AO.pure T rfl rfl rfl ?_
 refine AO.nil ?_
 refine AW.cond (b := (!x1)) rfl (fun hc => ?_) (fun hc => ?_)
 replace hH := condT hc hH
 refine AW.seq (AW.region ?_)
 iterate 2 refine AO.pure T rfl rfl rfl ?_
 refine AO.nil (AW.ret ?_)
 cases someE hH
 exact ⟨trivial, _, [], rfl, .t (expLG_cons (.c .nil) (expLG_cons (.c .v) (expLG_nil))), by decide⟩
 replace hH := condF hc hH
 refine AW.skip ?_
 refine AW.seq (AW.region ?_)
 refine AO.step rfl (mk0_ok T rfl rfl rfl rfl) ?_
 refine AO.pure T rfl rfl rfl ?_
 refine AO.nil ?_
 iterate 2 refine AW.seq ?_
 obtain ⟨x3, hx4, hH⟩ := bindE hH
 refine AW.region ?_
 refine AO.pure T (d := .g [.v (.int .i64 e.segments), .v (.int .i64 e.size), .v (.int .i64 e.key), .s (List.map encEntrant e.entrants), .s (List.map encInt e.gone), .v (.int .i64 e.segment), .s (List.map encInt e.order), .s (List.map encResult e.results)]) rfl rfl rfl ?_
 refine AO.val rfl rfl (callV_ok rfl rfl rfl rfl (impl_isRunning_ok _ _ (hx4)) rfl) ?_
 refine AO.pure T rfl rfl rfl ?_
 refine AO.nil ?_
 refine AW.cond (b := (!x3)) rfl (fun hc => ?_) (fun hc => ?_)
 replace hH := condT hc hH
 refine AW.seq (AW.region ?_)
 iterate 3 refine AO.pure T rfl rfl rfl ?_
 refine AO.nil (AW.ret ?_)
 cases someE hH
 exact ⟨trivial, _, [], rfl, .t (expLG_cons (.c .nil) (expLG_cons (.c .v) (expLG_nil))), by decide⟩
 replace hH := condF hc hH
 refine AW.skip ?_
 iterate 2 refine AW.seq ?_
 obtain ⟨x5, hx6, hH⟩ := bindE hH
 refine AW.region ?_
 iterate 3 refine AO.pure T rfl rfl rfl ?_
 refine AO.val rfl rfl (callLV_ok rfl rfl rfl (es := [.s (List.map encEntrant e.entrants), .f 63 [.q [.v (.int .i64 e.segments), .v (.int .i64 e.size), .v (.int .i64 e.key), .s (List.map encEntrant e.entrants), .s (List.map encInt e.gone), .v (.int .i64 e.segment), .s (List.map encInt e.order), .s (List.map encResult e.results)]]]) ⟨.free rfl, lend_f (LendL.cons (Lend.boxF rfl rfl) LendL.nil), trivial⟩ (slices_ContainsFunc_Entrant_ok _ 63 [.q [.v (.int .i64 e.segments), .v (.int .i64 e.size), .v (.int .i64 e.key), .s (List.map encEntrant e.entrants), .s (List.map encInt e.gone), .v (.int .i64 e.segment), .s (List.map encInt e.order), .s (List.map encResult e.results)]] rfl (fun a0 => impl_AllowedSteps_c1_p a0 e) (fun a0 q h => impl_AllowedSteps_c1_ok a0 e q h) _ (hx6)) (zfree_v _) rfl) ?_
 refine AO.nil ?_
 refine AW.cond (b := x5) rfl (fun hc => ?_) (fun hc => ?_)
 replace hH := condT hc hH
 obtain ⟨u7, hx8, hH⟩ := bindE hH
 refine AW.region ?_
 refine AO.pure T rfl rfl rfl ?_
 refine AO.step rfl (mk_map_ok T rfl 2 rfl rfl rfl rfl rfl (f := encInt) (l := [2]) rfl rfl (fun _ => rfl) rfl rfl rfl rfl rfl) ?_
 refine AO.step rfl (app_wv_map T rfl 3 rfl rfl rfl rfl rfl (by decide) rfl rfl rfl (fun _ => rfl) (needT (hx8)) rfl rfl) ?_
 refine AO.pure T rfl rfl rfl ?_
 refine AO.nil ?_
 iterate 2 refine AW.seq ?_
 obtain ⟨x9, hx10, hH⟩ := bindE hH
 refine AW.region ?_
 refine AO.pure T (d := .g [.v (.int .i64 e.segments), .v (.int .i64 e.size), .v (.int .i64 e.key), .s (List.map encEntrant e.entrants), .s (List.map encInt e.gone), .v (.int .i64 e.segment), .s (List.map encInt e.order), .s (List.map encResult e.results)]) rfl rfl rfl ?_
 refine AO.step rfl (call_ok rfl 4 rfl rfl rfl (impl_BeginSegment_ok fuel _ _ (hx10)) rfl rfl rfl) ?_
 refine AO.pure T rfl rfl rfl ?_
 refine AO.pure T (d := .g [.v (.int .i64 x9.1.segments), .v (.int .i64 x9.1.size), .v (.int .i64 x9.1.key), .R 4, .R 5, .v (.int .i64 x9.1.segment), .R 6, .R 7]) rfl rfl rfl ?_
 refine AO.pure T rfl rfl rfl ?_
 refine AO.step rfl (alloc_ok T rfl 8 rfl rfl rfl rfl rfl) ?_
 refine AO.step rfl (store_okE T rfl rfl rfl rfl rfl rfl rfl rfl rfl (ds' := [.v (.int .i64 x9.1.segments), .v (.int .i64 x9.1.size), .v (.int .i64 x9.1.key), .R 4, .R 5, .v (.int .i64 x9.1.segment), .R 6, .R 7]) rfl) ?_
 refine AO.pure T rfl rfl rfl ?_
 refine AO.nil ?_
 refine AW.le (Le.ct 0 0 (σ' := (⟨[(1, .p 1 0), (4, .R 3), (6, .v (.bool x9.2))], [(1, .box [.v (.int .i64 e.segments), .v (.int .i64 e.size), .v (.int .i64 e.key), .s (List.map encEntrant e.entrants), .s (List.map encInt e.gone), .v (.int .i64 e.segment), .s (List.map encInt e.order), .s (List.map encResult e.results)]), (3, .row 1 (List.map encInt [2]))], 39, []⟩ : St))) ?_
 refine AW.seq (AW.region ?_)
 refine AO.pure T rfl rfl rfl ?_
 refine AO.nil ?_
 refine AW.cond (b := x9.2) rfl (fun hc => ?_) (fun hc => ?_)
 replace hH := condT hc hH
 obtain ⟨u11, hx12, hH⟩ := bindE hH
 refine AW.region ?_
 refine AO.pure T rfl rfl rfl ?_
 refine AO.step rfl (mk_map_ok T rfl 9 rfl rfl rfl rfl rfl (f := encInt) (l := [3]) rfl rfl (fun _ => rfl) rfl rfl rfl rfl rfl) ?_
 refine AO.step rfl (app_rv_map T rfl 10 rfl rfl rfl rfl rfl (by decide) rfl rfl rfl rfl (fun _ => rfl) (needT (hx12)) rfl rfl) ?_
 refine AO.pure T rfl rfl rfl ?_
 refine AO.nil ?_
 iterate 2 refine AW.seq ?_
 refine AW.region ?_
 iterate 2 refine AO.pure T rfl rfl rfl ?_
 refine AO.val rfl rfl (len_map_ok T rfl rfl rfl) ?_
 refine AO.pure T rfl rfl rfl ?_
 refine AO.nil ?_
 refine AW.cond (b := decide ((e.order.length : Int) > 0)) rfl (fun hc => ?_) (fun hc => ?_)
 replace hH := condT hc hH
 obtain ⟨u13, hx14, hH⟩ := bindE hH
 refine AW.region ?_
 refine AO.pure T rfl rfl rfl ?_
 refine AO.step rfl (mk_map_ok T rfl 11 rfl rfl rfl rfl rfl (f := encInt) (l := [4]) rfl rfl (fun _ => rfl) rfl rfl rfl rfl rfl) ?_
 refine AO.step rfl (app_rv_map T rfl 12 rfl rfl rfl rfl rfl (by decide) rfl rfl rfl rfl (fun _ => rfl) (needT (hx14)) rfl rfl) ?_
 refine AO.pure T rfl rfl rfl ?_
 refine AO.nil (AW.seq ?_)
 refine AW.region ?_
 iterate 3 refine AO.pure T rfl rfl rfl ?_
 refine AO.nil (AW.ret ?_)
 cases someE hH
 exact ⟨trivial, _, [12], rfl, .t (expLG_cons (.c (.rowR rfl)) (expLG_cons (.c .v) (expLG_nil))), by decide⟩
 replace hH := condF hc hH
 refine AW.skip ?_
 refine AW.seq (AW.region ?_)
 iterate 3 refine AO.pure T rfl rfl rfl ?_
 refine AO.nil (AW.ret ?_)
 cases someE hH
 exact ⟨trivial, _, [10], rfl, .t (expLG_cons (.c (.rowR rfl)) (expLG_cons (.c .v) (expLG_nil))), by decide⟩
 replace hH := condF hc hH
 refine AW.skip ?_
 iterate 2 refine AW.seq ?_
 refine AW.region ?_
 iterate 2 refine AO.pure T rfl rfl rfl ?_
 refine AO.val rfl rfl (len_map_ok T rfl rfl rfl) ?_
 refine AO.pure T rfl rfl rfl ?_
 refine AO.nil ?_
 refine AW.cond (b := decide ((e.order.length : Int) > 0)) rfl (fun hc => ?_) (fun hc => ?_)
 replace hH := condT hc hH
 obtain ⟨u15, hx16, hH⟩ := bindE hH
 refine AW.region ?_
 refine AO.pure T rfl rfl rfl ?_
 refine AO.step rfl (mk_map_ok T rfl 13 rfl rfl rfl rfl rfl (f := encInt) (l := [4]) rfl rfl (fun _ => rfl) rfl rfl rfl rfl rfl) ?_
 refine AO.step rfl (app_rv_map T rfl 14 rfl rfl rfl rfl rfl (by decide) rfl rfl rfl rfl (fun _ => rfl) (needT (hx16)) rfl rfl) ?_
 refine AO.pure T rfl rfl rfl ?_
 refine AO.nil (AW.seq ?_)
 refine AW.region ?_
 iterate 3 refine AO.pure T rfl rfl rfl ?_
 refine AO.nil (AW.ret ?_)
 cases someE hH
 exact ⟨trivial, _, [14], rfl, .t (expLG_cons (.c (.rowR rfl)) (expLG_cons (.c .v) (expLG_nil))), by decide⟩
 replace hH := condF hc hH
 refine AW.skip ?_
 refine AW.seq (AW.region ?_)
 iterate 3 refine AO.pure T rfl rfl rfl ?_
 refine AO.nil (AW.ret ?_)
 cases someE hH
 exact ⟨trivial, _, [3], rfl, .t (expLG_cons (.c (.rowR rfl)) (expLG_cons (.c .v) (expLG_nil))), by decide⟩
 replace hH := condF hc hH
 refine AW.skip ?_
 iterate 2 refine AW.seq ?_
 obtain ⟨x17, hx18, hH⟩ := bindE hH
 refine AW.region ?_
 refine AO.pure T (d := .g [.v (.int .i64 e.segments), .v (.int .i64 e.size), .v (.int .i64 e.key), .s (List.map encEntrant e.entrants), .s (List.map encInt e.gone), .v (.int .i64 e.segment), .s (List.map encInt e.order), .s (List.map encResult e.results)]) rfl rfl rfl ?_
 refine AO.step rfl (call_ok rfl 15 rfl rfl rfl (impl_BeginSegment_ok fuel _ _ (hx18)) rfl rfl rfl) ?_
 refine AO.pure T rfl rfl rfl ?_
 refine AO.pure T (d := .g [.v (.int .i64 x17.1.segments), .v (.int .i64 x17.1.size), .v (.int .i64 x17.1.key), .R 15, .R 16, .v (.int .i64 x17.1.segment), .R 17, .R 18]) rfl rfl rfl ?_
 refine AO.pure T rfl rfl rfl ?_
 refine AO.step rfl (alloc_ok T rfl 19 rfl rfl rfl rfl rfl) ?_
 refine AO.step rfl (store_okE T rfl rfl rfl rfl rfl rfl rfl rfl rfl (ds' := [.v (.int .i64 x17.1.segments), .v (.int .i64 x17.1.size), .v (.int .i64 x17.1.key), .R 15, .R 16, .v (.int .i64 x17.1.segment), .R 17, .R 18]) rfl) ?_
 refine AO.pure T rfl rfl rfl ?_
 refine AO.nil (AW.seq ?_)
 refine AW.region ?_
 refine AO.pure T rfl rfl rfl ?_
 refine AO.nil ?_
 refine AW.le (Le.ct 0 0 (σ' := (⟨[(1, .p 1 0), (4, .w 1 []), (27, .v (.bool x17.2))], [(1, .box [.v (.int .i64 e.segments), .v (.int .i64 e.size), .v (.int .i64 e.key), .s (List.map encEntrant e.entrants), .s (List.map encInt e.gone), .v (.int .i64 e.segment), .s (List.map encInt e.order), .s (List.map encResult e.results)])], 39, []⟩ : St))) ?_
 refine AW.cond (b := x17.2) rfl (fun hc => ?_) (fun hc => ?_)
 replace hH := condT hc hH
 obtain ⟨u19, hx20, hH⟩ := bindE hH
 refine AW.region ?_
 refine AO.pure T rfl rfl rfl ?_
 refine AO.step rfl (mk_map_ok T rfl 20 rfl rfl rfl rfl rfl (f := encInt) (l := [3]) rfl rfl (fun _ => rfl) rfl rfl rfl rfl rfl) ?_
 refine AO.step rfl (app_wv_map T rfl 21 rfl rfl rfl rfl rfl (by decide) rfl rfl rfl (fun _ => rfl) (needT (hx20)) rfl rfl) ?_
 refine AO.pure T rfl rfl rfl ?_
 refine AO.nil ?_
 iterate 2 refine AW.seq ?_
 refine AW.region ?_
 iterate 2 refine AO.pure T rfl rfl rfl ?_
 refine AO.val rfl rfl (len_map_ok T rfl rfl rfl) ?_
 refine AO.pure T rfl rfl rfl ?_
 refine AO.nil ?_
 refine AW.cond (b := decide ((e.order.length : Int) > 0)) rfl (fun hc => ?_) (fun hc => ?_)
 replace hH := condT hc hH
 obtain ⟨u21, hx22, hH⟩ := bindE hH
 refine AW.region ?_
 refine AO.pure T rfl rfl rfl ?_
 refine AO.step rfl (mk_map_ok T rfl 22 rfl rfl rfl rfl rfl (f := encInt) (l := [4]) rfl rfl (fun _ => rfl) rfl rfl rfl rfl rfl) ?_
 refine AO.step rfl (app_rv_map T rfl 23 rfl rfl rfl rfl rfl (by decide) rfl rfl rfl rfl (fun _ => rfl) (needT (hx22)) rfl rfl) ?_
 refine AO.pure T rfl rfl rfl ?_
 refine AO.nil (AW.seq ?_)
 refine AW.region ?_
 iterate 3 refine AO.pure T rfl rfl rfl ?_
 refine AO.nil (AW.ret ?_)
 cases someE hH
 exact ⟨trivial, _, [23], rfl, .t (expLG_cons (.c (.rowR rfl)) (expLG_cons (.c .v) (expLG_nil))), by decide⟩
 replace hH := condF hc hH
 refine AW.skip ?_
 refine AW.seq (AW.region ?_)
 iterate 3 refine AO.pure T rfl rfl rfl ?_
 refine AO.nil (AW.ret ?_)
 cases someE hH
 exact ⟨trivial, _, [21], rfl, .t (expLG_cons (.c (.rowR rfl)) (expLG_cons (.c .v) (expLG_nil))), by decide⟩
 replace hH := condF hc hH
 refine AW.skip ?_
 iterate 2 refine AW.seq ?_
 refine AW.region ?_
 iterate 2 refine AO.pure T rfl rfl rfl ?_
 refine AO.val rfl rfl (len_map_ok T rfl rfl rfl) ?_
 refine AO.pure T rfl rfl rfl ?_
 refine AO.nil ?_
 refine AW.cond (b := decide ((e.order.length : Int) > 0)) rfl (fun hc => ?_) (fun hc => ?_)
 replace hH := condT hc hH
 obtain ⟨u23, hx24, hH⟩ := bindE hH
 refine AW.region ?_
 refine AO.pure T rfl rfl rfl ?_
 refine AO.step rfl (mk_map_ok T rfl 24 rfl rfl rfl rfl rfl (f := encInt) (l := [4]) rfl rfl (fun _ => rfl) rfl rfl rfl rfl rfl) ?_
 refine AO.step rfl (app_wv_map T rfl 25 rfl rfl rfl rfl rfl (by decide) rfl rfl rfl (fun _ => rfl) (needT (hx24)) rfl rfl) ?_
 refine AO.pure T rfl rfl rfl ?_
 refine AO.nil (AW.seq ?_)
 refine AW.region ?_
 iterate 3 refine AO.pure T rfl rfl rfl ?_
 refine AO.nil (AW.ret ?_)
 cases someE hH
 exact ⟨trivial, _, [25], rfl, .t (expLG_cons (.c (.rowR rfl)) (expLG_cons (.c .v) (expLG_nil))), by decide⟩
 replace hH := condF hc hH
 refine AW.skip ?_
 refine AW.seq (AW.region ?_)
 iterate 3 refine AO.pure T rfl rfl rfl ?_
 refine AO.nil (AW.ret ?_)
 cases someE hH
 exact ⟨trivial, _, [], rfl, .t (expLG_cons (.c .nil) (expLG_cons (.c .v) (expLG_nil))), by decide⟩

def laws_eqIntS_l1 (b : List Int) : List Int → Nat → Option Bool
  | [], k1 =>
    some true
  | y2 :: ys3, k1 =>
    (getI b (k1 : Int)).bind fun x12 =>
    cond (y2 != x12)
      (some false)
      (laws_eqIntS_l1 b ys3 (k1 + 1))
def laws_eqIntS_p (a : List Int) (b : List Int) : Option Bool :=
  cond ((a.length : Int) != (b.length : Int))
    (some false)
    (laws_eqIntS_l1 b a 0)
theorem laws_eqIntS_ok (a : List Int) (b : List Int) (r : Bool) (hH : laws_eqIntS_p a b = some r) : SpecR Tryz.prog 12 [.s (List.map encInt a), .s (List.map encInt b)] (.v (.bool r)) := by
 refine fn_ok T Tryz.func12 rfl (by decide) rfl ?_
 refine AW.seq (AW.region ?_)
 refine AO.pure T rfl rfl rfl ?_
 refine AO.nil ?_
 iterate 2 refine AW.seq ?_
 refine AW.region ?_
 refine AO.pure T rfl rfl rfl ?_
 refine AO.val rfl rfl (len_map_ok T rfl rfl rfl) ?_
 refine AO.pure T rfl rfl rfl ?_
 refine AO.val rfl rfl (len_map_ok T rfl rfl rfl) ?_
 refine AO.pure T rfl rfl rfl ?_
 refine AO.nil ?_
 refine AW.cond (b := ((a.length : Int) != (b.length : Int))) rfl (fun hc => ?_) (fun hc => ?_)
 replace hH := condT hc hH
 refine AW.seq (AW.region ?_)
 refine AO.pure T rfl rfl rfl ?_
 refine AO.nil (AW.ret ?_)
 cases someE hH
 exact ⟨trivial, _, [], rfl, .c (.c .v), by decide⟩
 replace hH := condF hc hH
 refine AW.skip ?_
 iterate 2 refine AW.seq ?_
 refine AW.region ?_
 refine AO.pure T rfl rfl rfl ?_
 refine AO.nil ?_
 refine AW.block ?_
 refine AW.loopS (fun s : Nat => (⟨[(0, .s (List.map encInt a)), (1, .s (List.map encInt b)), (5, .v (.int .i64 (s : Int)))], [], 26, []⟩ : St)) (fun s => s ≤ a.length ∧ laws_eqIntS_l1 b (a.drop s) s = some r) (fun s => a.length - s) 0 ⟨Nat.zero_le _, hH⟩ ?_ ?_
 exact Le.ct 0 0
 rintro k1 ⟨hk, hH⟩
 replace hH : laws_eqIntS_l1 b (a.drop k1) k1 = some r := hH
 show AW _ _ _ (⟨[(0, .s (List.map encInt a)), (1, .s (List.map encInt b)), (5, .v (.int .i64 (k1 : Int)))], [], 26, []⟩ : St)
 refine AW.boundM (t := 0) (l := a) rfl (fun hb5 => ?_)
 rcases hd4 : a.drop k1 with _ | ⟨y2, ys3⟩
 rw [hd4, laws_eqIntS_l1] at hH
 have hlt6 := drop_ge hd4
 iterate 2 refine AW.seq ?_
 refine AW.region ?_
 iterate 2 refine AO.pure T rfl rfl rfl ?_
 refine AO.val rfl rfl (len_map_ok T rfl rfl rfl) ?_
 refine AO.pure T rfl rfl rfl ?_
 refine AO.nil ?_
 refine AW.condF' (b := decide ((k1 : Int) < (a.length : Int))) rfl (rngF hlt6) ?_
 refine AW.exit ?_
 refine AW.seq (AW.region ?_)
 refine AO.pure T rfl rfl rfl ?_
 refine AO.nil (AW.ret ?_)
 cases someE hH
 exact ⟨trivial, _, [], rfl, .c (.c .v), by decide⟩
 rw [hd4, laws_eqIntS_l1] at hH
 have hlt6 := drop_lt hd4
 iterate 2 refine AW.seq ?_
 refine AW.region ?_
 iterate 2 refine AO.pure T rfl rfl rfl ?_
 refine AO.val rfl rfl (len_map_ok T rfl rfl rfl) ?_
 refine AO.pure T rfl rfl rfl ?_
 refine AO.nil ?_
 refine AW.condT' (b := decide ((k1 : Int) < (a.length : Int))) rfl (rngT hlt6) ?_
 refine AW.skip ?_
 refine AW.seq ?_
 refine AW.block ?_
 refine AW.seq ?_
 obtain ⟨x12, hx13, hH⟩ := bindE hH
 refine AW.drawn 8 1 [] mix (by kernel_rfl) rfl ?_
 iterate 2 refine AD.pure T rfl rfl rfl ?_
 refine AD.val rfl rfl (ix_map_ok T rfl rfl rfl rfl rfl (getI_drop hd4) rfl) ?_
 iterate 3 refine AD.pure T rfl rfl rfl ?_
 refine AD.val rfl rfl (ix_map_ok T rfl rfl rfl rfl rfl (hx13) rfl) ?_
 refine AD.pure T rfl rfl rfl ?_
 refine AD.nil ?_
 refine AO.pure T rfl rfl rfl ?_
 refine AO.nil ?_
 refine AW.cond (b := (y2 != x12)) rfl (fun hc => ?_) (fun hc => ?_)
 replace hH := condT hc hH
 refine AW.seq (AW.region ?_)
 refine AO.pure T rfl rfl rfl ?_
 refine AO.nil (AW.ret ?_)
 cases someE hH
 exact ⟨trivial, _, [], rfl, .c (.c .v), by decide⟩
 replace hH := condF hc hH
 refine AW.skip ?_
 refine AW.region ?_
 refine AO.pure T rfl rfl rfl ?_
 refine AO.val rfl rfl (ar_ok rfl rfl rfl rfl (inI_succ hlt6 hb5)) ?_
 refine AO.pure T rfl rfl rfl ?_
 refine AO.nil ?_
 refine ⟨k1 + 1, ⟨Nat.succ_le_of_lt hlt6, (by rw [drop_succ_of hd4]; exact hH)⟩, (by have := hlt6; dsimp only; omega), ?_⟩
 exact Le.ct 0 0

def laws_eqEntrant_p (a : Entrant) (b : Entrant) : Option Bool :=
  cond (a.skater != b.skater)
    (some false)
    (cond (a.rank != b.rank)
      (some false)
      (some true))
theorem laws_eqEntrant_ok (a : Entrant) (b : Entrant) (r : Bool) (hH : laws_eqEntrant_p a b = some r) : SpecR Tryz.prog 123 [.g (encEntrant a), .g (encEntrant b)] (.v (.bool r)) := by
 refine fn_ok T Tryz.func123 rfl (by decide) rfl ?_
 refine AW.seq (AW.region ?_)
 refine AO.step rfl (box_ok T rfl 1 rfl rfl rfl rfl) ?_
 refine AO.step rfl (box_ok T rfl 2 rfl rfl rfl rfl) ?_
 refine AO.pure T rfl rfl rfl ?_
 refine AO.nil ?_
 iterate 2 refine AW.seq ?_
 refine AW.region ?_
 iterate 5 refine AO.pure T rfl rfl rfl ?_
 refine AO.nil ?_
 refine AW.cond (b := (a.skater != b.skater)) rfl (fun hc => ?_) (fun hc => ?_)
 replace hH := condT hc hH
 refine AW.seq (AW.region ?_)
 refine AO.pure T rfl rfl rfl ?_
 refine AO.nil (AW.ret ?_)
 cases someE hH
 exact ⟨trivial, _, [], rfl, .c (.c .v), by decide⟩
 replace hH := condF hc hH
 refine AW.skip ?_
 iterate 2 refine AW.seq ?_
 refine AW.region ?_
 iterate 5 refine AO.pure T rfl rfl rfl ?_
 refine AO.nil ?_
 refine AW.cond (b := (a.rank != b.rank)) rfl (fun hc => ?_) (fun hc => ?_)
 replace hH := condT hc hH
 refine AW.seq (AW.region ?_)
 refine AO.pure T rfl rfl rfl ?_
 refine AO.nil (AW.ret ?_)
 cases someE hH
 exact ⟨trivial, _, [], rfl, .c (.c .v), by decide⟩
 replace hH := condF hc hH
 refine AW.skip ?_
 refine AW.seq (AW.region ?_)
 refine AO.pure T rfl rfl rfl ?_
 refine AO.nil (AW.ret ?_)
 cases someE hH
 exact ⟨trivial, _, [], rfl, .c (.c .v), by decide⟩

def laws_eqEntrantS_l1 (b : List Entrant) : List Entrant → Nat → Option Bool
  | [], k1 =>
    some true
  | y2 :: ys3, k1 =>
    (getI b (k1 : Int)).bind fun x16 =>
    (laws_eqEntrant_p y2 x16).bind fun x18 =>
    cond (!x18)
      (some false)
      (laws_eqEntrantS_l1 b ys3 (k1 + 1))
def laws_eqEntrantS_p (a : List Entrant) (b : List Entrant) : Option Bool :=
  cond ((a.length : Int) != (b.length : Int))
    (some false)
    (laws_eqEntrantS_l1 b a 0)
theorem laws_eqEntrantS_ok (a : List Entrant) (b : List Entrant) (r : Bool) (hH : laws_eqEntrantS_p a b = some r) : SpecR Tryz.prog 65 [.s (List.map encEntrant a), .s (List.map encEntrant b)] (.v (.bool r)) := by
 refine fn_ok T Tryz.func65 rfl (by decide) rfl ?_
 refine AW.seq (AW.region ?_)
 refine AO.pure T rfl rfl rfl ?_
 refine AO.nil ?_
 iterate 2 refine AW.seq ?_
 refine AW.region ?_
 refine AO.pure T rfl rfl rfl ?_
 refine AO.val rfl rfl (len_map_ok T rfl rfl rfl) ?_
 refine AO.pure T rfl rfl rfl ?_
 refine AO.val rfl rfl (len_map_ok T rfl rfl rfl) ?_
 refine AO.pure T rfl rfl rfl ?_
 refine AO.nil ?_
 refine AW.cond (b := ((a.length : Int) != (b.length : Int))) rfl (fun hc => ?_) (fun hc => ?_)
 replace hH := condT hc hH
 refine AW.seq (AW.region ?_)
 refine AO.pure T rfl rfl rfl ?_
 refine AO.nil (AW.ret ?_)
 cases someE hH
 exact ⟨trivial, _, [], rfl, .c (.c .v), by decide⟩
 replace hH := condF hc hH
 refine AW.skip ?_
 iterate 2 refine AW.seq ?_
 refine AW.region ?_
 refine AO.pure T rfl rfl rfl ?_
 refine AO.nil ?_
 refine AW.block ?_
 refine AW.loopS (fun s : Nat => (⟨[(0, .s (List.map encEntrant a)), (1, .s (List.map encEntrant b)), (5, .v (.int .i64 (s : Int)))], [], 27, []⟩ : St)) (fun s => s ≤ a.length ∧ laws_eqEntrantS_l1 b (a.drop s) s = some r) (fun s => a.length - s) 0 ⟨Nat.zero_le _, hH⟩ ?_ ?_
 exact Le.ct 0 0
 rintro k1 ⟨hk, hH⟩
 replace hH : laws_eqEntrantS_l1 b (a.drop k1) k1 = some r := hH
 show AW _ _ _ (⟨[(0, .s (List.map encEntrant a)), (1, .s (List.map encEntrant b)), (5, .v (.int .i64 (k1 : Int)))], [], 27, []⟩ : St)
 refine AW.boundM (t := 0) (l := a) rfl (fun hb5 => ?_)
 rcases hd4 : a.drop k1 with _ | ⟨y2, ys3⟩
 rw [hd4, laws_eqEntrantS_l1] at hH
 have hlt6 := drop_ge hd4
 iterate 2 refine AW.seq ?_
 refine AW.region ?_
 iterate 2 refine AO.pure T rfl rfl rfl ?_
 refine AO.val rfl rfl (len_map_ok T rfl rfl rfl) ?_
 refine AO.pure T rfl rfl rfl ?_
 refine AO.nil ?_
 refine AW.condF' (b := decide ((k1 : Int) < (a.length : Int))) rfl (rngF hlt6) ?_
 refine AW.exit ?_
 refine AW.seq (AW.region ?_)
 refine AO.pure T rfl rfl rfl ?_
 refine AO.nil (AW.ret ?_)
 cases someE hH
 exact ⟨trivial, _, [], rfl, .c (.c .v), by decide⟩
 rw [hd4, laws_eqEntrantS_l1] at hH
 have hlt6 := drop_lt hd4
 iterate 2 refine AW.seq ?_
 refine AW.region ?_
 iterate 2 refine AO.pure T rfl rfl rfl ?_
 refine AO.val rfl rfl (len_map_ok T rfl rfl rfl) ?_
 refine AO.pure T rfl rfl rfl ?_
 refine AO.nil ?_
 refine AW.condT' (b := decide ((k1 : Int) < (a.length : Int))) rfl (rngT hlt6) ?_
 refine AW.skip ?_
 refine AW.seq ?_
 refine AW.block ?_
 refine AW.seq ?_
 obtain ⟨x16, hx17, hH⟩ := bindE hH
 obtain ⟨x18, hx19, hH⟩ := bindE hH
 refine AW.drawn 8 1 [] mix (by kernel_rfl) rfl ?_
 iterate 2 refine AD.pure T rfl rfl rfl ?_
 refine AD.val rfl rfl (ix_map_ok T rfl rfl rfl rfl rfl (getI_drop hd4) rfl) ?_
 refine AD.pure T (d := .g [.v (.int .i64 y2.skater), .v (.int .i64 y2.rank)]) rfl rfl rfl ?_
 iterate 2 refine AD.pure T rfl rfl rfl ?_
 refine AD.val rfl rfl (ix_map_ok T rfl rfl rfl rfl rfl (hx17) rfl) ?_
 refine AD.pure T (d := .g [.v (.int .i64 x16.skater), .v (.int .i64 x16.rank)]) rfl rfl rfl ?_
 refine AD.nil ?_
 refine AO.val rfl rfl (callV_ok rfl rfl rfl rfl (laws_eqEntrant_ok _ _ _ (hx19)) rfl) ?_
 refine AO.pure T rfl rfl rfl ?_
 refine AO.nil ?_
 refine AW.cond (b := (!x18)) rfl (fun hc => ?_) (fun hc => ?_)
 replace hH := condT hc hH
 refine AW.seq (AW.region ?_)
 refine AO.pure T rfl rfl rfl ?_
 refine AO.nil (AW.ret ?_)
 cases someE hH
 exact ⟨trivial, _, [], rfl, .c (.c .v), by decide⟩
 replace hH := condF hc hH
 refine AW.skip ?_
 refine AW.region ?_
 refine AO.pure T rfl rfl rfl ?_
 refine AO.val rfl rfl (ar_ok rfl rfl rfl rfl (inI_succ hlt6 hb5)) ?_
 refine AO.pure T rfl rfl rfl ?_
 refine AO.nil ?_
 refine ⟨k1 + 1, ⟨Nat.succ_le_of_lt hlt6, (by rw [drop_succ_of hd4]; exact hH)⟩, (by have := hlt6; dsimp only; omega), ?_⟩
 exact Le.ct 0 0

def laws_eqResult_p (a : Result) (b : Result) : Option Bool :=
  cond (a.skater != b.skater)
    (some false)
    ((laws_eqIntS_p a.scores b.scores).bind fun x1 =>
    cond (!x1)
      (some false)
      (some true))
theorem laws_eqResult_ok (a : Result) (b : Result) (r : Bool) (hH : laws_eqResult_p a b = some r) : SpecR Tryz.prog 124 [.g (encResult a), .g (encResult b)] (.v (.bool r)) := by
 refine fn_ok T Tryz.func124 rfl (by decide) rfl ?_
 refine AW.seq (AW.region ?_)
 refine AO.step rfl (box_ok T rfl 1 rfl rfl rfl rfl) ?_
 refine AO.step rfl (box_ok T rfl 2 rfl rfl rfl rfl) ?_
 refine AO.pure T rfl rfl rfl ?_
 refine AO.nil ?_
 iterate 2 refine AW.seq ?_
 refine AW.region ?_
 iterate 5 refine AO.pure T rfl rfl rfl ?_
 refine AO.nil ?_
 refine AW.cond (b := (a.skater != b.skater)) rfl (fun hc => ?_) (fun hc => ?_)
 replace hH := condT hc hH
 refine AW.seq (AW.region ?_)
 refine AO.pure T rfl rfl rfl ?_
 refine AO.nil (AW.ret ?_)
 cases someE hH
 exact ⟨trivial, _, [], rfl, .c (.c .v), by decide⟩
 replace hH := condF hc hH
 refine AW.skip ?_
 iterate 2 refine AW.seq ?_
 obtain ⟨x1, hx2, hH⟩ := bindE hH
 refine AW.region ?_
 iterate 4 refine AO.pure T rfl rfl rfl ?_
 refine AO.val rfl rfl (callV_ok rfl rfl rfl rfl (laws_eqIntS_ok _ _ _ (hx2)) rfl) ?_
 refine AO.pure T rfl rfl rfl ?_
 refine AO.nil ?_
 refine AW.cond (b := (!x1)) rfl (fun hc => ?_) (fun hc => ?_)
 replace hH := condT hc hH
 refine AW.seq (AW.region ?_)
 refine AO.pure T rfl rfl rfl ?_
 refine AO.nil (AW.ret ?_)
 cases someE hH
 exact ⟨trivial, _, [], rfl, .c (.c .v), by decide⟩
 replace hH := condF hc hH
 refine AW.skip ?_
 refine AW.seq (AW.region ?_)
 refine AO.pure T rfl rfl rfl ?_
 refine AO.nil (AW.ret ?_)
 cases someE hH
 exact ⟨trivial, _, [], rfl, .c (.c .v), by decide⟩

def laws_eqResultS_l1 (b : List Result) : List Result → Nat → Option Bool
  | [], k1 =>
    some true
  | y2 :: ys3, k1 =>
    (getI b (k1 : Int)).bind fun x16 =>
    (laws_eqResult_p y2 x16).bind fun x18 =>
    cond (!x18)
      (some false)
      (laws_eqResultS_l1 b ys3 (k1 + 1))
def laws_eqResultS_p (a : List Result) (b : List Result) : Option Bool :=
  cond ((a.length : Int) != (b.length : Int))
    (some false)
    (laws_eqResultS_l1 b a 0)
theorem laws_eqResultS_ok (a : List Result) (b : List Result) (r : Bool) (hH : laws_eqResultS_p a b = some r) : SpecR Tryz.prog 66 [.s (List.map encResult a), .s (List.map encResult b)] (.v (.bool r)) := by
 refine fn_ok T Tryz.func66 rfl (by decide) rfl ?_
 refine AW.seq (AW.region ?_)
 refine AO.pure T rfl rfl rfl ?_
 refine AO.nil ?_
 iterate 2 refine AW.seq ?_
 refine AW.region ?_
 refine AO.pure T rfl rfl rfl ?_
 refine AO.val rfl rfl (len_map_ok T rfl rfl rfl) ?_
 refine AO.pure T rfl rfl rfl ?_
 refine AO.val rfl rfl (len_map_ok T rfl rfl rfl) ?_
 refine AO.pure T rfl rfl rfl ?_
 refine AO.nil ?_
 refine AW.cond (b := ((a.length : Int) != (b.length : Int))) rfl (fun hc => ?_) (fun hc => ?_)
 replace hH := condT hc hH
 refine AW.seq (AW.region ?_)
 refine AO.pure T rfl rfl rfl ?_
 refine AO.nil (AW.ret ?_)
 cases someE hH
 exact ⟨trivial, _, [], rfl, .c (.c .v), by decide⟩
 replace hH := condF hc hH
 refine AW.skip ?_
 iterate 2 refine AW.seq ?_
 refine AW.region ?_
 refine AO.pure T rfl rfl rfl ?_
 refine AO.nil ?_
 refine AW.block ?_
 refine AW.loopS (fun s : Nat => (⟨[(0, .s (List.map encResult a)), (1, .s (List.map encResult b)), (5, .v (.int .i64 (s : Int)))], [], 27, []⟩ : St)) (fun s => s ≤ a.length ∧ laws_eqResultS_l1 b (a.drop s) s = some r) (fun s => a.length - s) 0 ⟨Nat.zero_le _, hH⟩ ?_ ?_
 exact Le.ct 0 0
 rintro k1 ⟨hk, hH⟩
 replace hH : laws_eqResultS_l1 b (a.drop k1) k1 = some r := hH
 show AW _ _ _ (⟨[(0, .s (List.map encResult a)), (1, .s (List.map encResult b)), (5, .v (.int .i64 (k1 : Int)))], [], 27, []⟩ : St)
 refine AW.boundM (t := 0) (l := a) rfl (fun hb5 => ?_)
 rcases hd4 : a.drop k1 with _ | ⟨y2, ys3⟩
 rw [hd4, laws_eqResultS_l1] at hH
 have hlt6 := drop_ge hd4
 iterate 2 refine AW.seq ?_
 refine AW.region ?_
 iterate 2 refine AO.pure T rfl rfl rfl ?_
 refine AO.val rfl rfl (len_map_ok T rfl rfl rfl) ?_
 refine AO.pure T rfl rfl rfl ?_
 refine AO.nil ?_
 refine AW.condF' (b := decide ((k1 : Int) < (a.length : Int))) rfl (rngF hlt6) ?_
 refine AW.exit ?_
 refine AW.seq (AW.region ?_)
 refine AO.pure T rfl rfl rfl ?_
 refine AO.nil (AW.ret ?_)
 cases someE hH
 exact ⟨trivial, _, [], rfl, .c (.c .v), by decide⟩
 rw [hd4, laws_eqResultS_l1] at hH
 have hlt6 := drop_lt hd4
 iterate 2 refine AW.seq ?_
 refine AW.region ?_
 iterate 2 refine AO.pure T rfl rfl rfl ?_
 refine AO.val rfl rfl (len_map_ok T rfl rfl rfl) ?_
 refine AO.pure T rfl rfl rfl ?_
 refine AO.nil ?_
 refine AW.condT' (b := decide ((k1 : Int) < (a.length : Int))) rfl (rngT hlt6) ?_
 refine AW.skip ?_
 refine AW.seq ?_
 refine AW.block ?_
 refine AW.seq ?_
 obtain ⟨x16, hx17, hH⟩ := bindE hH
 obtain ⟨x18, hx19, hH⟩ := bindE hH
 refine AW.drawn 8 1 [] mix (by kernel_rfl) rfl ?_
 iterate 2 refine AD.pure T rfl rfl rfl ?_
 refine AD.val rfl rfl (ix_map_ok T rfl rfl rfl rfl rfl (getI_drop hd4) rfl) ?_
 refine AD.pure T (d := .g [.v (.int .i64 y2.skater), .s (List.map encInt y2.scores)]) rfl rfl rfl ?_
 iterate 2 refine AD.pure T rfl rfl rfl ?_
 refine AD.val rfl rfl (ix_map_ok T rfl rfl rfl rfl rfl (hx17) rfl) ?_
 refine AD.pure T (d := .g [.v (.int .i64 x16.skater), .s (List.map encInt x16.scores)]) rfl rfl rfl ?_
 refine AD.nil ?_
 refine AO.val rfl rfl (callV_ok rfl rfl rfl rfl (laws_eqResult_ok _ _ _ (hx19)) rfl) ?_
 refine AO.pure T rfl rfl rfl ?_
 refine AO.nil ?_
 refine AW.cond (b := (!x18)) rfl (fun hc => ?_) (fun hc => ?_)
 replace hH := condT hc hH
 refine AW.seq (AW.region ?_)
 refine AO.pure T rfl rfl rfl ?_
 refine AO.nil (AW.ret ?_)
 cases someE hH
 exact ⟨trivial, _, [], rfl, .c (.c .v), by decide⟩
 replace hH := condF hc hH
 refine AW.skip ?_
 refine AW.region ?_
 refine AO.pure T rfl rfl rfl ?_
 refine AO.val rfl rfl (ar_ok rfl rfl rfl rfl (inI_succ hlt6 hb5)) ?_
 refine AO.pure T rfl rfl rfl ?_
 refine AO.nil ?_
 refine ⟨k1 + 1, ⟨Nat.succ_le_of_lt hlt6, (by rw [drop_succ_of hd4]; exact hH)⟩, (by have := hlt6; dsimp only; omega), ?_⟩
 exact Le.ct 0 0

def laws_eqEvent_p (a : Event) (b : Event) : Option Bool :=
  cond (a.segments != b.segments)
    (some false)
    (cond (a.size != b.size)
      (some false)
      (cond (a.key != b.key)
        (some false)
        ((laws_eqEntrantS_p a.entrants b.entrants).bind fun x1 =>
        cond (!x1)
          (some false)
          ((laws_eqIntS_p a.gone b.gone).bind fun x3 =>
          cond (!x3)
            (some false)
            (cond (a.segment != b.segment)
              (some false)
              ((laws_eqIntS_p a.order b.order).bind fun x5 =>
              cond (!x5)
                (some false)
                ((laws_eqResultS_p a.results b.results).bind fun x7 =>
                cond (!x7)
                  (some false)
                  (some true))))))))
theorem laws_eqEvent_ok (a : Event) (b : Event) (r : Bool) (hH : laws_eqEvent_p a b = some r) : SpecR Tryz.prog 13 [.g (encEvent a), .g (encEvent b)] (.v (.bool r)) := by
 refine fn_ok T Tryz.func13 rfl (by decide) rfl ?_
 refine AW.seq (AW.region ?_)
 refine AO.step rfl (box_ok T rfl 1 rfl rfl rfl rfl) ?_
 refine AO.step rfl (box_ok T rfl 2 rfl rfl rfl rfl) ?_
 refine AO.pure T rfl rfl rfl ?_
 refine AO.nil ?_
 iterate 2 refine AW.seq ?_
 refine AW.region ?_
 iterate 5 refine AO.pure T rfl rfl rfl ?_
 refine AO.nil ?_
 refine AW.cond (b := (a.segments != b.segments)) rfl (fun hc => ?_) (fun hc => ?_)
 replace hH := condT hc hH
 refine AW.seq (AW.region ?_)
 refine AO.pure T rfl rfl rfl ?_
 refine AO.nil (AW.ret ?_)
 cases someE hH
 exact ⟨trivial, _, [], rfl, .c (.c .v), by decide⟩
 replace hH := condF hc hH
 refine AW.skip ?_
 iterate 2 refine AW.seq ?_
 refine AW.region ?_
 iterate 5 refine AO.pure T rfl rfl rfl ?_
 refine AO.nil ?_
 refine AW.cond (b := (a.size != b.size)) rfl (fun hc => ?_) (fun hc => ?_)
 replace hH := condT hc hH
 refine AW.seq (AW.region ?_)
 refine AO.pure T rfl rfl rfl ?_
 refine AO.nil (AW.ret ?_)
 cases someE hH
 exact ⟨trivial, _, [], rfl, .c (.c .v), by decide⟩
 replace hH := condF hc hH
 refine AW.skip ?_
 iterate 2 refine AW.seq ?_
 refine AW.region ?_
 iterate 5 refine AO.pure T rfl rfl rfl ?_
 refine AO.nil ?_
 refine AW.cond (b := (a.key != b.key)) rfl (fun hc => ?_) (fun hc => ?_)
 replace hH := condT hc hH
 refine AW.seq (AW.region ?_)
 refine AO.pure T rfl rfl rfl ?_
 refine AO.nil (AW.ret ?_)
 cases someE hH
 exact ⟨trivial, _, [], rfl, .c (.c .v), by decide⟩
 replace hH := condF hc hH
 refine AW.skip ?_
 iterate 2 refine AW.seq ?_
 obtain ⟨x1, hx2, hH⟩ := bindE hH
 refine AW.region ?_
 iterate 4 refine AO.pure T rfl rfl rfl ?_
 refine AO.val rfl rfl (callV_ok rfl rfl rfl rfl (laws_eqEntrantS_ok _ _ _ (hx2)) rfl) ?_
 refine AO.pure T rfl rfl rfl ?_
 refine AO.nil ?_
 refine AW.le (Le.ct 0 0 (σ' := (⟨[(2, .p 1 0), (3, .p 2 0), (25, .v (.bool (!x1)))], [(1, .box [.v (.int .i64 a.segments), .v (.int .i64 a.size), .v (.int .i64 a.key), .s (List.map encEntrant a.entrants), .s (List.map encInt a.gone), .v (.int .i64 a.segment), .s (List.map encInt a.order), .s (List.map encResult a.results)]), (2, .box [.v (.int .i64 b.segments), .v (.int .i64 b.size), .v (.int .i64 b.key), .s (List.map encEntrant b.entrants), .s (List.map encInt b.gone), .v (.int .i64 b.segment), .s (List.map encInt b.order), .s (List.map encResult b.results)])], 49, []⟩ : St))) ?_
 refine AW.cond (b := (!x1)) rfl (fun hc => ?_) (fun hc => ?_)
 replace hH := condT hc hH
 refine AW.seq (AW.region ?_)
 refine AO.pure T rfl rfl rfl ?_
 refine AO.nil (AW.ret ?_)
 cases someE hH
 exact ⟨trivial, _, [], rfl, .c (.c .v), by decide⟩
 replace hH := condF hc hH
 refine AW.skip ?_
 iterate 2 refine AW.seq ?_
 obtain ⟨x3, hx4, hH⟩ := bindE hH
 refine AW.region ?_
 iterate 4 refine AO.pure T rfl rfl rfl ?_
 refine AO.val rfl rfl (callV_ok rfl rfl rfl rfl (laws_eqIntS_ok _ _ _ (hx4)) rfl) ?_
 refine AO.pure T rfl rfl rfl ?_
 refine AO.nil ?_
 refine AW.cond (b := (!x3)) rfl (fun hc => ?_) (fun hc => ?_)
 replace hH := condT hc hH
 refine AW.seq (AW.region ?_)
 refine AO.pure T rfl rfl rfl ?_
 refine AO.nil (AW.ret ?_)
 cases someE hH
 exact ⟨trivial, _, [], rfl, .c (.c .v), by decide⟩
 replace hH := condF hc hH
 refine AW.skip ?_
 iterate 2 refine AW.seq ?_
 refine AW.region ?_
 iterate 5 refine AO.pure T rfl rfl rfl ?_
 refine AO.nil ?_
 refine AW.cond (b := (a.segment != b.segment)) rfl (fun hc => ?_) (fun hc => ?_)
 replace hH := condT hc hH
 refine AW.seq (AW.region ?_)
 refine AO.pure T rfl rfl rfl ?_
 refine AO.nil (AW.ret ?_)
 cases someE hH
 exact ⟨trivial, _, [], rfl, .c (.c .v), by decide⟩
 replace hH := condF hc hH
 refine AW.skip ?_
 iterate 2 refine AW.seq ?_
 obtain ⟨x5, hx6, hH⟩ := bindE hH
 refine AW.region ?_
 iterate 4 refine AO.pure T rfl rfl rfl ?_
 refine AO.val rfl rfl (callV_ok rfl rfl rfl rfl (laws_eqIntS_ok _ _ _ (hx6)) rfl) ?_
 refine AO.pure T rfl rfl rfl ?_
 refine AO.nil ?_
 refine AW.cond (b := (!x5)) rfl (fun hc => ?_) (fun hc => ?_)
 replace hH := condT hc hH
 refine AW.seq (AW.region ?_)
 refine AO.pure T rfl rfl rfl ?_
 refine AO.nil (AW.ret ?_)
 cases someE hH
 exact ⟨trivial, _, [], rfl, .c (.c .v), by decide⟩
 replace hH := condF hc hH
 refine AW.skip ?_
 iterate 2 refine AW.seq ?_
 obtain ⟨x7, hx8, hH⟩ := bindE hH
 refine AW.region ?_
 iterate 4 refine AO.pure T rfl rfl rfl ?_
 refine AO.val rfl rfl (callV_ok rfl rfl rfl rfl (laws_eqResultS_ok _ _ _ (hx8)) rfl) ?_
 refine AO.pure T rfl rfl rfl ?_
 refine AO.nil ?_
 refine AW.cond (b := (!x7)) rfl (fun hc => ?_) (fun hc => ?_)
 replace hH := condT hc hH
 refine AW.seq (AW.region ?_)
 refine AO.pure T rfl rfl rfl ?_
 refine AO.nil ?_
 refine AW.le (Le.ct 0 0 (σ' := (⟨[(4, .v (.bool false))], [], 49, []⟩ : St))) ?_
 refine AW.ret ?_
 cases someE hH
 exact ⟨trivial, _, [], rfl, .c (.c .v), by decide⟩
 replace hH := condF hc hH
 refine AW.skip ?_
 refine AW.seq (AW.region ?_)
 refine AO.pure T rfl rfl rfl ?_
 refine AO.nil ?_
 refine AW.le (Le.ct 0 0 (σ' := (⟨[(4, .v (.bool true))], [], 49, []⟩ : St))) ?_
 refine AW.ret ?_
 cases someE hH
 exact ⟨trivial, _, [], rfl, .c (.c .v), by decide⟩

def laws_markEntrantS_l1 : Nat → List Entrant → Int → Int → Option (((List Entrant) × Int))
  | 0, _, _, _ => none
  | k1 + 1, v13, v14, v15 =>
    cond (decide (v15 < (v13.length : Int)))
      ((getI v13 v15).bind fun x17 =>
      (getI (v13.set v15.toNat (Entrant.mk v14 x17.rank)) v15).bind fun x19 =>
      laws_markEntrantS_l1 k1 ((v13.set v15.toNat (Entrant.mk v14 x17.rank)).set v15.toNat (Entrant.mk x19.skater (w64 (v14 + 1)))) (w64 ((w64 (v14 + 1)) + 1)) (w64 (v15 + 1)))
      (some (v13, v14))
def laws_markEntrantS_p (fuel : Nat) (a : List Entrant) (k : Int) : Option ((List Entrant) × Int) :=
  laws_markEntrantS_l1 fuel a k 0
theorem laws_markEntrantS_ok (fuel : Nat) (a : List Entrant) (k : Int) (r : ((List Entrant) × Int)) (hH : laws_markEntrantS_p fuel a k = some r) : SpecM Tryz.prog 67 [.w 2 (a.map encEntrant), .v (.int .i64 k)] [.w 2 (r.1.map encEntrant), .u] (.v (.int .i64 r.2)) := by
 refine fn_okM T Tryz.func67 rfl (by decide) rfl rfl ?_
 intro L
 show AW _ _ _ (⟨[(0, .R 1), (1, .v (.int .i64 k))], [(1, .row 2 (List.map encEntrant a))], 27, [(1, L 1)]⟩ : St)
 refine AW.seq (AW.region ?_)
 refine AO.pure T rfl rfl rfl ?_
 refine AO.nil ?_
 iterate 2 refine AW.seq ?_
 refine AW.region ?_
 refine AO.pure T rfl rfl rfl ?_
 refine AO.nil ?_
 refine AW.block ?_
 refine AW.loopS (fun s : Nat × (List Entrant) × Int × Int => (⟨[(0, .R 1), (1, .v (.int .i64 s.2.2.1)), (5, .v (.int .i64 s.2.2.2))], [(1, .row 2 (List.map encEntrant s.2.1))], 27, [(1, L 1)]⟩ : St)) (fun s => laws_markEntrantS_l1 s.1 s.2.1 s.2.2.1 s.2.2.2 = some r) (fun s => s.1) (fuel, a, k, 0) hH ?_ ?_
 exact Le.ct 0 0 (hpin := ⟨⟨rfl, rfl⟩, trivial⟩)
 rintro ⟨k1, v13, v14, v15⟩ hH
 replace hH : laws_markEntrantS_l1 k1 v13 v14 v15 = some r := hH
 show AW _ _ _ (⟨[(0, .R 1), (1, .v (.int .i64 v14)), (5, .v (.int .i64 v15))], [(1, .row 2 (List.map encEntrant v13))], 27, [(1, L 1)]⟩ : St)
 rcases k1 with _ | k1
 cases (show none = some _ from hH)
 rw [laws_markEntrantS_l1] at hH
 iterate 2 refine AW.seq ?_
 refine AW.region ?_
 iterate 2 refine AO.pure T rfl rfl rfl ?_
 refine AO.val rfl rfl (len_row_ok T rfl rfl rfl rfl) ?_
 refine AO.pure T rfl rfl rfl ?_
 refine AO.nil ?_
 refine AW.cond (b := decide (v15 < (v13.length : Int))) rfl (fun hc => ?_) (fun hc => ?_)
 replace hH := condT hc hH
 refine AW.skip ?_
 refine AW.seq ?_
 refine AW.block ?_
 refine AW.seq ?_
 obtain ⟨x17, hx18, hH⟩ := bindE hH
 refine AW.region ?_
 iterate 3 refine AO.pure T rfl rfl rfl ?_
 refine AO.val rfl rfl (ix_row_ok T rfl rfl rfl rfl rfl rfl (hx18)) ?_
 refine AO.pure T rfl rfl rfl ?_
 refine AO.step rfl (store_row_ok T rfl rfl rfl rfl rfl (getI_get (hx18)) rfl rfl rfl rfl (u' := (Entrant.mk v14 x17.rank)) rfl rfl) ?_
 refine AO.nil (AW.seq ?_)
 refine AW.region ?_
 refine AO.pure T rfl rfl rfl ?_
 refine AO.val rfl rfl (arw_ok rfl rfl rfl rfl) ?_
 refine AO.pure T rfl rfl rfl ?_
 refine AO.nil (AW.seq ?_)
 obtain ⟨x19, hx20, hH⟩ := bindE hH
 refine AW.region ?_
 iterate 3 refine AO.pure T rfl rfl rfl ?_
 refine AO.val rfl rfl (ix_row_ok T rfl rfl rfl rfl rfl rfl (hx20)) ?_
 refine AO.pure T rfl rfl rfl ?_
 refine AO.step rfl (store_row_ok T rfl rfl rfl rfl rfl (getI_get (hx20)) rfl rfl rfl rfl (u' := (Entrant.mk x19.skater (w64 (v14 + 1)))) rfl rfl) ?_
 refine AO.nil ?_
 refine AW.region ?_
 refine AO.pure T rfl rfl rfl ?_
 refine AO.val rfl rfl (arw_ok rfl rfl rfl rfl) ?_
 refine AO.pure T rfl rfl rfl ?_
 refine AO.nil ?_
 refine AW.region ?_
 refine AO.pure T rfl rfl rfl ?_
 refine AO.val rfl rfl (arw_ok rfl rfl rfl rfl) ?_
 refine AO.pure T rfl rfl rfl ?_
 refine AO.nil ?_
 refine ⟨(k1, ((v13.set v15.toNat (Entrant.mk v14 x17.rank)).set v15.toNat (Entrant.mk x19.skater (w64 (v14 + 1)))), w64 ((w64 (v14 + 1)) + 1), w64 (v15 + 1)), hH, Nat.lt_succ_self _, ?_⟩
 exact Le.ct 0 0 (hpin := ⟨⟨rfl, rfl⟩, trivial⟩)
 replace hH := condF hc hH
 refine AW.exit ?_
 refine AW.seq (AW.region ?_)
 iterate 2 refine AO.pure T rfl rfl rfl ?_
 refine AO.nil (AW.ret ?_)
 cases someE hH
 exact ⟨trivial, rfl, _, [], [1], rfl, expLG_cons (.c (.rowR rfl)) (expLG_cons (.c .u) (expLG_nil)), .c (.c .v), by decide⟩

def laws_markIntS_l1 : Nat → List Int → Int → Int → Option (((List Int) × Int))
  | 0, _, _, _ => none
  | k1 + 1, v9, v10, v11 =>
    cond (decide (v11 < (v9.length : Int)))
      ((getI v9 v11).bind fun x13 =>
      laws_markIntS_l1 k1 (v9.set v11.toNat v10) (w64 (v10 + 1)) (w64 (v11 + 1)))
      (some (v9, v10))
def laws_markIntS_p (fuel : Nat) (a : List Int) (k : Int) : Option ((List Int) × Int) :=
  laws_markIntS_l1 fuel a k 0
theorem laws_markIntS_ok (fuel : Nat) (a : List Int) (k : Int) (r : ((List Int) × Int)) (hH : laws_markIntS_p fuel a k = some r) : SpecM Tryz.prog 15 [.w 1 (a.map encInt), .v (.int .i64 k)] [.w 1 (r.1.map encInt), .u] (.v (.int .i64 r.2)) := by
 refine fn_okM T Tryz.func15 rfl (by decide) rfl rfl ?_
 intro L
 show AW _ _ _ (⟨[(0, .R 1), (1, .v (.int .i64 k))], [(1, .row 1 (List.map encInt a))], 19, [(1, L 1)]⟩ : St)
 refine AW.seq (AW.region ?_)
 refine AO.pure T rfl rfl rfl ?_
 refine AO.nil ?_
 iterate 2 refine AW.seq ?_
 refine AW.region ?_
 refine AO.pure T rfl rfl rfl ?_
 refine AO.nil ?_
 refine AW.block ?_
 refine AW.loopS (fun s : Nat × (List Int) × Int × Int => (⟨[(0, .R 1), (1, .v (.int .i64 s.2.2.1)), (5, .v (.int .i64 s.2.2.2))], [(1, .row 1 (List.map encInt s.2.1))], 19, [(1, L 1)]⟩ : St)) (fun s => laws_markIntS_l1 s.1 s.2.1 s.2.2.1 s.2.2.2 = some r) (fun s => s.1) (fuel, a, k, 0) hH ?_ ?_
 exact Le.ct 0 0 (hpin := ⟨⟨rfl, rfl⟩, trivial⟩)
 rintro ⟨k1, v9, v10, v11⟩ hH
 replace hH : laws_markIntS_l1 k1 v9 v10 v11 = some r := hH
 show AW _ _ _ (⟨[(0, .R 1), (1, .v (.int .i64 v10)), (5, .v (.int .i64 v11))], [(1, .row 1 (List.map encInt v9))], 19, [(1, L 1)]⟩ : St)
 rcases k1 with _ | k1
 cases (show none = some _ from hH)
 rw [laws_markIntS_l1] at hH
 iterate 2 refine AW.seq ?_
 refine AW.region ?_
 iterate 2 refine AO.pure T rfl rfl rfl ?_
 refine AO.val rfl rfl (len_row_ok T rfl rfl rfl rfl) ?_
 refine AO.pure T rfl rfl rfl ?_
 refine AO.nil ?_
 refine AW.cond (b := decide (v11 < (v9.length : Int))) rfl (fun hc => ?_) (fun hc => ?_)
 replace hH := condT hc hH
 refine AW.skip ?_
 refine AW.seq ?_
 refine AW.block ?_
 refine AW.seq ?_
 obtain ⟨x13, hx14, hH⟩ := bindE hH
 refine AW.region ?_
 iterate 3 refine AO.pure T rfl rfl rfl ?_
 refine AO.val rfl rfl (ix_row_ok T rfl rfl rfl rfl rfl rfl (hx14)) ?_
 refine AO.step rfl (store_row_ok T rfl rfl rfl rfl rfl (getI_get (hx14)) rfl rfl rfl rfl (u' := v10) rfl rfl) ?_
 refine AO.nil ?_
 refine AW.region ?_
 refine AO.pure T rfl rfl rfl ?_
 refine AO.val rfl rfl (arw_ok rfl rfl rfl rfl) ?_
 refine AO.pure T rfl rfl rfl ?_
 refine AO.nil ?_
 refine AW.region ?_
 refine AO.pure T rfl rfl rfl ?_
 refine AO.val rfl rfl (arw_ok rfl rfl rfl rfl) ?_
 refine AO.pure T rfl rfl rfl ?_
 refine AO.nil ?_
 refine ⟨(k1, (v9.set v11.toNat v10), w64 (v10 + 1), w64 (v11 + 1)), hH, Nat.lt_succ_self _, ?_⟩
 exact Le.ct 0 0 (hpin := ⟨⟨rfl, rfl⟩, trivial⟩)
 replace hH := condF hc hH
 refine AW.exit ?_
 refine AW.seq (AW.region ?_)
 iterate 2 refine AO.pure T rfl rfl rfl ?_
 refine AO.nil (AW.ret ?_)
 cases someE hH
 exact ⟨trivial, rfl, _, [], [1], rfl, expLG_cons (.c (.rowR rfl)) (expLG_cons (.c .u) (expLG_nil)), .c (.c .v), by decide⟩

def laws_markResultS_l1 (fuel : Nat) : Nat → List Result → Int → Int → Option (((List Result) × Int))
  | 0, _, _, _ => none
  | k1 + 1, v17, v18, v19 =>
    cond (decide (v19 < (v17.length : Int)))
      ((getI v17 v19).bind fun x21 =>
      (getI (v17.set v19.toNat (Result.mk v18 x21.scores)) v19).bind fun x23 =>
      (laws_markIntS_p fuel x23.scores (w64 (v18 + 1))).bind fun x25 =>
      laws_markResultS_l1 fuel k1 ((v17.set v19.toNat (Result.mk v18 x21.scores)).set v19.toNat (Result.mk x23.skater x25.1)) x25.2 (w64 (v19 + 1)))
      (some (v17, v18))
def laws_markResultS_p (fuel : Nat) (a : List Result) (k : Int) : Option ((List Result) × Int) :=
  laws_markResultS_l1 fuel fuel a k 0
theorem laws_markResultS_ok (fuel : Nat) (a : List Result) (k : Int) (r : ((List Result) × Int)) (hH : laws_markResultS_p fuel a k = some r) : SpecM Tryz.prog 68 [.w 2 (a.map encResultO), .v (.int .i64 k)] [.w 2 (r.1.map encResultO), .u] (.v (.int .i64 r.2)) := by
 refine fn_okM T Tryz.func68 rfl (by decide) rfl rfl ?_
 intro L
 show AW _ _ _ (⟨[(0, .R 1), (1, .v (.int .i64 k))], [(1, .row 2 (List.map encResultO a))], 27, [(1, L 1)]⟩ : St)
 refine AW.seq (AW.region ?_)
 refine AO.pure T rfl rfl rfl ?_
 refine AO.nil ?_
 iterate 2 refine AW.seq ?_
 refine AW.region ?_
 refine AO.pure T rfl rfl rfl ?_
 refine AO.nil ?_
 refine AW.block ?_
 refine AW.loopS (fun s : Nat × (List Result) × Int × Int => (⟨[(0, .R 1), (1, .v (.int .i64 s.2.2.1)), (5, .v (.int .i64 s.2.2.2))], [(1, .row 2 (List.map encResultO s.2.1))], 27, [(1, L 1)]⟩ : St)) (fun s => laws_markResultS_l1 fuel s.1 s.2.1 s.2.2.1 s.2.2.2 = some r) (fun s => s.1) (fuel, a, k, 0) hH ?_ ?_
 exact Le.ct 0 0 (hpin := ⟨⟨rfl, rfl⟩, trivial⟩)
 rintro ⟨k1, v17, v18, v19⟩ hH
 replace hH : laws_markResultS_l1 fuel k1 v17 v18 v19 = some r := hH
 show AW _ _ _ (⟨[(0, .R 1), (1, .v (.int .i64 v18)), (5, .v (.int .i64 v19))], [(1, .row 2 (List.map encResultO v17))], 27, [(1, L 1)]⟩ : St)
 rcases k1 with _ | k1
 cases (show none = some _ from hH)
 rw [laws_markResultS_l1] at hH
 iterate 2 refine AW.seq ?_
 refine AW.region ?_
 iterate 2 refine AO.pure T rfl rfl rfl ?_
 refine AO.val rfl rfl (len_row_ok T rfl rfl rfl rfl) ?_
 refine AO.pure T rfl rfl rfl ?_
 refine AO.nil ?_
 refine AW.cond (b := decide (v19 < (v17.length : Int))) rfl (fun hc => ?_) (fun hc => ?_)
 replace hH := condT hc hH
 refine AW.skip ?_
 refine AW.seq ?_
 refine AW.block ?_
 refine AW.seq ?_
 obtain ⟨x21, hx22, hH⟩ := bindE hH
 refine AW.region ?_
 iterate 3 refine AO.pure T rfl rfl rfl ?_
 refine AO.val rfl rfl (ix_row_ok T rfl rfl rfl rfl rfl rfl (hx22)) ?_
 refine AO.pure T rfl rfl rfl ?_
 refine AO.step rfl (store_row_ok T rfl rfl rfl rfl rfl (getI_get (hx22)) rfl rfl rfl rfl (u' := (Result.mk v18 x21.scores)) rfl rfl) ?_
 refine AO.nil (AW.seq ?_)
 refine AW.region ?_
 refine AO.pure T rfl rfl rfl ?_
 refine AO.val rfl rfl (arw_ok rfl rfl rfl rfl) ?_
 refine AO.pure T rfl rfl rfl ?_
 refine AO.nil ?_
 obtain ⟨x23, hx24, hH⟩ := bindE hH
 obtain ⟨x25, hx26, hH⟩ := bindE hH
 refine AW.le (Le.openM 1 v19.toNat 1 4 rfl (getI_get (hx24)) rfl rfl) ?_
 refine AW.region ?_
 iterate 2 refine AO.pure T rfl rfl rfl ?_
 refine AO.val rfl rfl (ix_lent_ok T rfl rfl rfl rfl rfl rfl (hx24)) ?_
 refine AO.pure T rfl rfl rfl ?_
 refine AO.val rfl rfl (load_lent_ok T rfl rfl rfl rfl rfl) ?_
 refine AO.pure T rfl rfl rfl ?_
 refine AO.step rfl (callM_ok rfl 5 rfl rfl (es := [.w 1 (x23.scores.map encInt), .v (.int .i64 (w64 (v18 + 1)))]) (outs := [.w 1 (x25.1.map encInt), .u]) (ids := [4]) (by exact expLG_cons (.c (.rowR rfl)) (expLG_cons (.c .v) (expLG_nil))) (by decide) (.inl (by rfl)) (by rfl) (laws_markIntS_ok fuel _ _ _ (hx26)) rfl (by rfl) rfl) ?_
 refine AO.pure T rfl rfl rfl ?_
 refine AO.le (Le.closeM 1 v19.toNat 1 4 rfl rfl (getI_get (hx24)) rfl (u' := (Result.mk x23.skater x25.1)) rfl) ?_
 refine AO.nil ?_
 refine AW.region ?_
 refine AO.pure T rfl rfl rfl ?_
 refine AO.val rfl rfl (arw_ok rfl rfl rfl rfl) ?_
 refine AO.pure T rfl rfl rfl ?_
 refine AO.nil ?_
 refine ⟨(k1, ((v17.set v19.toNat (Result.mk v18 x21.scores)).set v19.toNat (Result.mk x23.skater x25.1)), x25.2, w64 (v19 + 1)), hH, Nat.lt_succ_self _, ?_⟩
 exact Le.ct 0 0 (hpin := ⟨⟨rfl, rfl⟩, trivial⟩)
 replace hH := condF hc hH
 refine AW.exit ?_
 refine AW.seq (AW.region ?_)
 iterate 2 refine AO.pure T rfl rfl rfl ?_
 refine AO.nil (AW.ret ?_)
 cases someE hH
 exact ⟨trivial, rfl, _, [], [1], rfl, expLG_cons (.c (.rowR rfl)) (expLG_cons (.c .u) (expLG_nil)), .c (.c .v), by decide⟩

def laws_markEvent_p (fuel : Nat) (a : Event) (k : Int) : Option (Event × Int) :=
  (laws_markEntrantS_p fuel a.entrants k).bind fun x1 =>
  (laws_markIntS_p fuel a.gone x1.2).bind fun x3 =>
  (laws_markIntS_p fuel a.order x3.2).bind fun x5 =>
  (laws_markResultS_p fuel a.results x5.2).bind fun x7 =>
  some ((Event.mk a.segments a.size a.key x1.1 x3.1 a.segment x5.1 x7.1), x7.2)
theorem laws_markEvent_ok (fuel : Nat) (a : Event) (k : Int) (r : (Event × Int)) (hH : laws_markEvent_p fuel a k = some r) : SpecM Tryz.prog 14 [.g (encEventO a), .v (.int .i64 k)] [.g [.u, .u, .u, .w 2 (r.1.entrants.map encEntrant), .w 1 (r.1.gone.map encInt), .u, .w 1 (r.1.order.map encInt), .w 2 (r.1.results.map encResultO)], .u] (.v (.int .i64 r.2)) := by
 refine fn_okM T Tryz.func14 rfl (by decide) rfl rfl ?_
 intro L
 show AW _ _ _ (⟨[(0, .g [.v (.int .i64 a.segments), .v (.int .i64 a.size), .v (.int .i64 a.key), .R 1, .R 2, .v (.int .i64 a.segment), .R 3, .R 4]), (1, .v (.int .i64 k))], [(4, .row 2 (List.map encResultO a.results)), (3, .row 1 (List.map encInt a.order)), (2, .row 1 (List.map encInt a.gone)), (1, .row 2 (List.map encEntrant a.entrants))], 22, [(4, L 4), (3, L 3), (2, L 2), (1, L 1)]⟩ : St)
 refine AW.seq (AW.region ?_)
 refine AO.step rfl (box_ok T rfl 5 rfl rfl rfl rfl) ?_
 refine AO.pure T rfl rfl rfl ?_
 refine AO.nil (AW.seq ?_)
 obtain ⟨x1, hx2, hH⟩ := bindE hH
 refine AW.region ?_
 iterate 3 refine AO.pure T rfl rfl rfl ?_
 refine AO.step rfl (callM_ok rfl 6 rfl rfl (es := [.w 2 (a.entrants.map encEntrant), .v (.int .i64 k)]) (outs := [.w 2 (x1.1.map encEntrant), .u]) (ids := [1]) (by exact expLG_cons (.c (.rowR rfl)) (expLG_cons (.c .v) (expLG_nil))) (by decide) (.inl (by rfl)) (by rfl) (laws_markEntrantS_ok fuel _ _ _ (hx2)) rfl (by rfl) rfl) ?_
 refine AO.pure T rfl rfl rfl ?_
 refine AO.nil (AW.seq ?_)
 obtain ⟨x3, hx4, hH⟩ := bindE hH
 refine AW.region ?_
 iterate 3 refine AO.pure T rfl rfl rfl ?_
 refine AO.step rfl (callM_ok rfl 6 rfl rfl (es := [.w 1 (a.gone.map encInt), .v (.int .i64 x1.2)]) (outs := [.w 1 (x3.1.map encInt), .u]) (ids := [2]) (by exact expLG_cons (.c (.rowR rfl)) (expLG_cons (.c .v) (expLG_nil))) (by decide) (.inl (by rfl)) (by rfl) (laws_markIntS_ok fuel _ _ _ (hx4)) rfl (by rfl) rfl) ?_
 refine AO.pure T rfl rfl rfl ?_
 refine AO.nil (AW.seq ?_)
 obtain ⟨x5, hx6, hH⟩ := bindE hH
 refine AW.region ?_
 iterate 3 refine AO.pure T rfl rfl rfl ?_
 refine AO.step rfl (callM_ok rfl 6 rfl rfl (es := [.w 1 (a.order.map encInt), .v (.int .i64 x3.2)]) (outs := [.w 1 (x5.1.map encInt), .u]) (ids := [3]) (by exact expLG_cons (.c (.rowR rfl)) (expLG_cons (.c .v) (expLG_nil))) (by decide) (.inl (by rfl)) (by rfl) (laws_markIntS_ok fuel _ _ _ (hx6)) rfl (by rfl) rfl) ?_
 refine AO.pure T rfl rfl rfl ?_
 refine AO.nil (AW.seq ?_)
 obtain ⟨x7, hx8, hH⟩ := bindE hH
 refine AW.region ?_
 iterate 3 refine AO.pure T rfl rfl rfl ?_
 refine AO.step rfl (callM_ok rfl 6 rfl rfl (es := [.w 2 (a.results.map encResultO), .v (.int .i64 x5.2)]) (outs := [.w 2 (x7.1.map encResultO), .u]) (ids := [4]) (by exact expLG_cons (.c (.rowR rfl)) (expLG_cons (.c .v) (expLG_nil))) (by decide) (.inl (by rfl)) (by rfl) (laws_markResultS_ok fuel _ _ _ (hx8)) rfl (by rfl) rfl) ?_
 refine AO.pure T rfl rfl rfl ?_
 refine AO.nil (AW.seq ?_)
 refine AW.region ?_
 iterate 2 refine AO.pure T rfl rfl rfl ?_
 refine AO.nil ?_
 refine AW.le (Le.ct 0 0 (σ' := (⟨[(4, .v (.int .i64 x7.2))], [(1, .row 2 (List.map encEntrant x1.1)), (2, .row 1 (List.map encInt x3.1)), (3, .row 1 (List.map encInt x5.1)), (4, .row 2 (List.map encResultO x7.1))], 22, [(4, L 4), (3, L 3), (2, L 2), (1, L 1)]⟩ : St)) (hpin := ⟨⟨rfl, rfl⟩, ⟨rfl, rfl⟩, ⟨rfl, rfl⟩, ⟨rfl, rfl⟩, trivial⟩)) ?_
 refine AW.ret ?_
 cases someE hH
 exact ⟨trivial, rfl, _, [], [1, 2, 3, 4], rfl, expLG_cons (.g (expLC_cons .u (expLC_cons .u (expLC_cons .u (expLC_cons (.rowR rfl) (expLC_cons (.rowR rfl) (expLC_cons .u (expLC_cons (.rowR rfl) (expLC_cons (.rowR rfl) (expLC_nil)))))))))) (expLG_cons (.c .u) (expLG_nil)), .c (.c .v), by decide⟩

def laws_heldIntS_l1 : List Int → Nat → Int → Option Int
  | [], k1, v8 =>
    some v8
  | y2 :: ys3, k1, v8 =>
    cond (y2 != v8)
      (some (-1))
      (laws_heldIntS_l1 ys3 (k1 + 1) (w64 (v8 + 1)))
def laws_heldIntS_p (a : List Int) (k : Int) : Option Int :=
  laws_heldIntS_l1 a 0 k
theorem laws_heldIntS_ok (a : List Int) (k : Int) (r : Int) (hH : laws_heldIntS_p a k = some r) : SpecR Tryz.prog 16 [.s (List.map encInt a), .v (.int .i64 k)] (.v (.int .i64 r)) := by
 refine fn_ok T Tryz.func16 rfl (by decide) rfl ?_
 refine AW.seq (AW.region ?_)
 refine AO.pure T rfl rfl rfl ?_
 refine AO.nil ?_
 iterate 2 refine AW.seq ?_
 refine AW.region ?_
 refine AO.pure T rfl rfl rfl ?_
 refine AO.nil ?_
 refine AW.block ?_
 refine AW.loopS (fun s : Nat × Int => (⟨[(0, .s (List.map encInt a)), (1, .v (.int .i64 s.2)), (5, .v (.int .i64 (s.1 : Int)))], [], 21, []⟩ : St)) (fun s => s.1 ≤ a.length ∧ laws_heldIntS_l1 (a.drop s.1) s.1 s.2 = some r) (fun s => a.length - s.1) (0, k) ⟨Nat.zero_le _, hH⟩ ?_ ?_
 exact Le.ct 0 0
 rintro ⟨k1, v8⟩ ⟨hk, hH⟩
 replace hH : laws_heldIntS_l1 (a.drop k1) k1 v8 = some r := hH
 show AW _ _ _ (⟨[(0, .s (List.map encInt a)), (1, .v (.int .i64 v8)), (5, .v (.int .i64 (k1 : Int)))], [], 21, []⟩ : St)
 refine AW.boundM (t := 0) (l := a) rfl (fun hb5 => ?_)
 rcases hd4 : a.drop k1 with _ | ⟨y2, ys3⟩
 rw [hd4, laws_heldIntS_l1] at hH
 have hlt6 := drop_ge hd4
 iterate 2 refine AW.seq ?_
 refine AW.region ?_
 iterate 2 refine AO.pure T rfl rfl rfl ?_
 refine AO.val rfl rfl (len_map_ok T rfl rfl rfl) ?_
 refine AO.pure T rfl rfl rfl ?_
 refine AO.nil ?_
 refine AW.condF' (b := decide ((k1 : Int) < (a.length : Int))) rfl (rngF hlt6) ?_
 refine AW.exit ?_
 refine AW.seq (AW.region ?_)
 iterate 2 refine AO.pure T rfl rfl rfl ?_
 refine AO.nil (AW.ret ?_)
 cases someE hH
 exact ⟨trivial, _, [], rfl, .c (.c .v), by decide⟩
 rw [hd4, laws_heldIntS_l1] at hH
 have hlt6 := drop_lt hd4
 iterate 2 refine AW.seq ?_
 refine AW.region ?_
 iterate 2 refine AO.pure T rfl rfl rfl ?_
 refine AO.val rfl rfl (len_map_ok T rfl rfl rfl) ?_
 refine AO.pure T rfl rfl rfl ?_
 refine AO.nil ?_
 refine AW.condT' (b := decide ((k1 : Int) < (a.length : Int))) rfl (rngT hlt6) ?_
 refine AW.skip ?_
 refine AW.seq ?_
 refine AW.block ?_
 iterate 2 refine AW.seq ?_
 refine AW.region ?_
 iterate 2 refine AO.pure T rfl rfl rfl ?_
 refine AO.val rfl rfl (ix_map_ok T rfl rfl rfl rfl rfl (getI_drop hd4) rfl) ?_
 iterate 3 refine AO.pure T rfl rfl rfl ?_
 refine AO.nil ?_
 refine AW.cond (b := (y2 != v8)) rfl (fun hc => ?_) (fun hc => ?_)
 replace hH := condT hc hH
 refine AW.seq (AW.region ?_)
 refine AO.pure T rfl rfl rfl ?_
 refine AO.nil (AW.ret ?_)
 cases someE hH
 exact ⟨trivial, _, [], rfl, .c (.c .v), by decide⟩
 replace hH := condF hc hH
 refine AW.skip ?_
 refine AW.region ?_
 refine AO.pure T rfl rfl rfl ?_
 refine AO.val rfl rfl (arw_ok rfl rfl rfl rfl) ?_
 refine AO.pure T rfl rfl rfl ?_
 refine AO.nil ?_
 refine AW.region ?_
 refine AO.pure T rfl rfl rfl ?_
 refine AO.val rfl rfl (ar_ok rfl rfl rfl rfl (inI_succ hlt6 hb5)) ?_
 refine AO.pure T rfl rfl rfl ?_
 refine AO.nil ?_
 refine ⟨(k1 + 1, w64 (v8 + 1)), ⟨Nat.succ_le_of_lt hlt6, (by rw [drop_succ_of hd4]; exact hH)⟩, (by have := hlt6; dsimp only; omega), ?_⟩
 exact Le.ct 0 0

def laws_FnExactAllowedSteps_p (fuel : Nat) (aE : Event) : Option Bool :=
  (laws_szEvent_p aE 1048576).bind fun x1 =>
  cond (decide (x1 < 0))
    (some true)
    ((laws_toEvent_p aE).bind fun x3 =>
    (spec_AllowedSteps_p fuel x3).bind fun x5 =>
    (impl_AllowedSteps_p fuel x3).bind fun x7 =>
    (laws_eqIntS_p x7.1 x5.1).bind fun x9 =>
    cond ((!x9) || (!(x7.2 == x5.2)))
      (some false)
      ((laws_eqEvent_p x3 x3).bind fun x11 =>
      cond (!x11)
        (some false)
        ((laws_markEvent_p fuel x3 1).bind fun x13 =>
        cond ((decide (x13.2 < 0) || (!x9)) || (!(x7.2 == x5.2)))
          (some false)
          ((laws_markIntS_p fuel x7.1 1).bind fun x15 =>
          (laws_heldIntS_p x15.1 1).bind fun x17 =>
          cond (decide (x17 < 0))
            (some false)
            (cond (x17 != x15.2)
              (some false)
              (cond ((!x9) || (!(x7.2 == x5.2)))
                (some false)
                (cond (decide (x17 < 0))
                  (some false)
                  (cond (x17 != x15.2)
                    (some false)
                    (some true)))))))))
theorem laws_FnExactAllowedSteps_ok (fuel : Nat) (aE : Event) (r : Bool) (hH : laws_FnExactAllowedSteps_p fuel aE = some r) : SpecR Tryz.prog 3 [.g (encEvent aE)] (.v (.bool r)) := by
 refine fn_ok T Tryz.func3 rfl (by decide) rfl ?_
 refine AW.seq (AW.region ?_)
 refine AO.step rfl (box_ok T rfl 1 rfl rfl rfl rfl) ?_
 refine AO.pure T rfl rfl rfl ?_
 refine AO.nil (AW.seq ?_)
 refine AW.region ?_
 refine AO.pure T rfl rfl rfl ?_
 refine AO.nil (AW.seq ?_)
 obtain ⟨x1, hx2, hH⟩ := bindE hH
 refine AW.region ?_
 refine AO.pure T (d := .g [.v (.int .i64 aE.segments), .v (.int .i64 aE.size), .v (.int .i64 aE.key), .s (List.map encEntrant aE.entrants), .s (List.map encInt aE.gone), .v (.int .i64 aE.segment), .s (List.map encInt aE.order), .s (List.map encResult aE.results)]) rfl rfl rfl ?_
 refine AO.pure T rfl rfl rfl ?_
 refine AO.val rfl rfl (callV_ok rfl rfl rfl rfl (laws_szEvent_ok _ _ _ (hx2)) rfl) ?_
 refine AO.pure T rfl rfl rfl ?_
 refine AO.nil ?_
 iterate 2 refine AW.seq ?_
 refine AW.region ?_
 iterate 2 refine AO.pure T rfl rfl rfl ?_
 refine AO.nil ?_
 refine AW.cond (b := decide (x1 < 0)) rfl (fun hc => ?_) (fun hc => ?_)
 replace hH := condT hc hH
 refine AW.seq (AW.region ?_)
 refine AO.pure T rfl rfl rfl ?_
 refine AO.nil (AW.ret ?_)
 cases someE hH
 exact ⟨trivial, _, [], rfl, .c (.c .v), by decide⟩
 replace hH := condF hc hH
 refine AW.skip ?_
 refine AW.seq ?_
 obtain ⟨x3, hx4, hH⟩ := bindE hH
 obtain ⟨x5, hx6, hH⟩ := bindE hH
 refine AW.region ?_
 refine AO.pure T (d := .g [.v (.int .i64 aE.segments), .v (.int .i64 aE.size), .v (.int .i64 aE.key), .s (List.map encEntrant aE.entrants), .s (List.map encInt aE.gone), .v (.int .i64 aE.segment), .s (List.map encInt aE.order), .s (List.map encResult aE.results)]) rfl rfl rfl ?_
 refine AO.step rfl (call_ok rfl 2 rfl rfl rfl (laws_toEvent_ok _ _ (hx4)) rfl rfl rfl) ?_
 refine AO.step rfl (callL_ok rfl 6 rfl rfl (es := [.g (encEvent x3)]) (by exact ⟨lend_g (LendL.cons (.free rfl) (LendL.cons (.free rfl) (LendL.cons (.free rfl) (LendL.cons ((.rowR rfl (.map fun y => .vs rfl))) (LendL.cons ((.rowR rfl (.map fun y => .vs rfl))) (LendL.cons (.free rfl) (LendL.cons ((.rowR rfl (.map fun y => .vs rfl))) (LendL.cons ((.rowR rfl (.map fun y => frzResult y))) LendL.nil)))))))), trivial⟩) (spec_AllowedSteps_ok fuel _ _ (hx6)) (zfree_t (zfl (.cons (zfree_map (fun y => (.cons (zfree_v _) .nil))) (.cons (zfree_v _) .nil)))) rfl rfl rfl) ?_
 iterate 5 refine AO.pure T rfl rfl rfl ?_
 refine AO.nil (AW.seq ?_)
 refine AW.region ?_
 refine AO.pure T (d := .g [.v (.int .i64 aE.segments), .v (.int .i64 aE.size), .v (.int .i64 aE.key), .s (List.map encEntrant aE.entrants), .s (List.map encInt aE.gone), .v (.int .i64 aE.segment), .s (List.map encInt aE.order), .s (List.map encResult aE.results)]) rfl rfl rfl ?_
 refine AO.step rfl (call_ok rfl 7 rfl rfl rfl (laws_toEvent_ok _ _ (hx4)) rfl rfl rfl) ?_
 refine AO.step rfl (alloc_ok T rfl 11 rfl rfl rfl rfl rfl) ?_
 refine AO.step rfl (store_okE T rfl rfl rfl rfl rfl rfl rfl rfl rfl (ds' := [.v (.int .i64 x3.segments), .v (.int .i64 x3.size), .v (.int .i64 x3.key), .R 7, .R 8, .v (.int .i64 x3.segment), .R 9, .R 10]) rfl) ?_
 refine AO.nil (AW.seq ?_)
 obtain ⟨x7, hx8, hH⟩ := bindE hH
 refine AW.region ?_
 refine AO.pure T (d := .g [.v (.int .i64 x3.segments), .v (.int .i64 x3.size), .v (.int .i64 x3.key), .R 7, .R 8, .v (.int .i64 x3.segment), .R 9, .R 10]) rfl rfl rfl ?_
 refine AO.step rfl (callL_ok rfl 12 rfl rfl (es := [.g (encEvent x3)]) (by exact ⟨lend_g (LendL.cons (.free rfl) (LendL.cons (.free rfl) (LendL.cons (.free rfl) (LendL.cons ((.rowR rfl (.map fun y => .vs rfl))) (LendL.cons ((.rowR rfl (.map fun y => .vs rfl))) (LendL.cons (.free rfl) (LendL.cons ((.rowR rfl (.map fun y => .vs rfl))) (LendL.cons ((.rowR rfl (.map fun y => frzResult y))) LendL.nil)))))))), trivial⟩) (impl_AllowedSteps_ok fuel _ _ (hx8)) (zfree_t (zfl (.cons (zfree_map (fun y => (.cons (zfree_v _) .nil))) (.cons (zfree_v _) .nil)))) rfl rfl rfl) ?_
 iterate 5 refine AO.pure T rfl rfl rfl ?_
 refine AO.nil ?_
 refine AW.le (Le.ct 0 0 (σ' := (⟨[(1, .p 1 0), (4, .R 6), (5, .v (.bool x5.2)), (6, .p 11 0), (7, .R 12), (8, .v (.bool x7.2))], [(1, .box [.v (.int .i64 aE.segments), .v (.int .i64 aE.size), .v (.int .i64 aE.key), .s (List.map encEntrant aE.entrants), .s (List.map encInt aE.gone), .v (.int .i64 aE.segment), .s (List.map encInt aE.order), .s (List.map encResult aE.results)]), (6, .row 1 (List.map encInt x5.1)), (7, .row 2 (List.map encEntrant x3.entrants)), (8, .row 1 (List.map encInt x3.gone)), (9, .row 1 (List.map encInt x3.order)), (10, .row 2 (List.map encResultO x3.results)), (11, .box [.v (.int .i64 x3.segments), .v (.int .i64 x3.size), .v (.int .i64 x3.key), .R 7, .R 8, .v (.int .i64 x3.segment), .R 9, .R 10]), (12, .row 1 (List.map encInt x7.1))], 96, []⟩ : St))) ?_
 iterate 2 refine AW.seq ?_
 obtain ⟨x9, hx10, hH⟩ := bindE hH
 refine AW.region ?_
 iterate 2 refine AO.pure T rfl rfl rfl ?_
 refine AO.val rfl rfl (callLV_ok rfl rfl rfl (es := [.s (List.map encInt x7.1), .s (List.map encInt x5.1)]) ⟨(.rowR rfl (.map fun y => .vs rfl)), (.rowR rfl (.map fun y => .vs rfl)), trivial⟩ (laws_eqIntS_ok _ _ _ (hx10)) (zfree_v _) rfl) ?_
 iterate 2 refine AO.pure T rfl rfl rfl ?_
 iterate 2 refine AO.pureG T [] rfl trivial rfl rfl ?_
 refine AO.pureG T [37, 38] rfl ⟨fun h => h, fun h => h, trivial⟩ rfl rfl ?_
 refine AO.val rfl rfl (pick_or rfl rfl rfl rfl) ?_
 refine AO.nil ?_
 refine AW.cond (b := ((!x9) || (!(x7.2 == x5.2)))) rfl (fun hc => ?_) (fun hc => ?_)
 replace hH := condT hc hH
 refine AW.seq (AW.region ?_)
 refine AO.pure T rfl rfl rfl ?_
 refine AO.nil (AW.ret ?_)
 cases someE hH
 exact ⟨trivial, _, [], rfl, .c (.c .v), by decide⟩
 replace hH := condF hc hH
 refine AW.skip ?_
 iterate 2 refine AW.seq ?_
 obtain ⟨x11, hx12, hH⟩ := bindE hH
 refine AW.drawn 3 13 [] mix (by kernel_rfl) rfl ?_
 refine AD.pure T (d := .g [.v (.int .i64 x3.segments), .v (.int .i64 x3.size), .v (.int .i64 x3.key), .R 7, .R 8, .v (.int .i64 x3.segment), .R 9, .R 10]) rfl rfl rfl ?_
 refine AD.pure T (d := .g [.v (.int .i64 aE.segments), .v (.int .i64 aE.size), .v (.int .i64 aE.key), .s (List.map encEntrant aE.entrants), .s (List.map encInt aE.gone), .v (.int .i64 aE.segment), .s (List.map encInt aE.order), .s (List.map encResult aE.results)]) rfl rfl rfl ?_
 refine AD.q (FStep.call rfl rfl rfl rfl rfl (laws_toEvent_ok _ _ (hx4)) rfl rfl) (impT_names _ _) (impT_le _ _) rfl ?_
 refine AD.nil ?_
 refine AO.val rfl rfl (callLV_ok rfl rfl rfl (es := [.g (encEvent x3), .g (encEvent x3)]) ⟨lend_g (LendL.cons (.free rfl) (LendL.cons (.free rfl) (LendL.cons (.free rfl) (LendL.cons ((.rowR rfl (.map fun y => .vs rfl))) (LendL.cons ((.rowR rfl (.map fun y => .vs rfl))) (LendL.cons (.free rfl) (LendL.cons ((.rowR rfl (.map fun y => .vs rfl))) (LendL.cons ((.rowR rfl (.map fun y => frzResult y))) LendL.nil)))))))), lend_g (LendL.cons (.free rfl) (LendL.cons (.free rfl) (LendL.cons (.free rfl) (LendL.cons ((.rowR rfl (.map fun y => .vs rfl))) (LendL.cons ((.rowR rfl (.map fun y => .vs rfl))) (LendL.cons (.free rfl) (LendL.cons ((.rowR rfl (.map fun y => .vs rfl))) (LendL.cons ((.rowR rfl (.map fun y => frzResult y))) LendL.nil)))))))), trivial⟩ (laws_eqEvent_ok _ _ _ (hx12)) (zfree_v _) rfl) ?_
 refine AO.pure T rfl rfl rfl ?_
 refine AO.nil ?_
 refine AW.cond (b := (!x11)) rfl (fun hc => ?_) (fun hc => ?_)
 replace hH := condT hc hH
 refine AW.seq (AW.region ?_)
 refine AO.pure T rfl rfl rfl ?_
 refine AO.nil (AW.ret ?_)
 cases someE hH
 exact ⟨trivial, _, [], rfl, .c (.c .v), by decide⟩
 replace hH := condF hc hH
 refine AW.skip ?_
 refine AW.seq (AW.region ?_)
 refine AO.pure T rfl rfl rfl ?_
 refine AO.nil (AW.seq ?_)
 obtain ⟨x13, hx14, hH⟩ := bindE hH
 refine AW.region ?_
 refine AO.pure T (d := .g [.v (.int .i64 x3.segments), .v (.int .i64 x3.size), .v (.int .i64 x3.key), .R 7, .R 8, .v (.int .i64 x3.segment), .R 9, .R 10]) rfl rfl rfl ?_
 refine AO.pure T rfl rfl rfl ?_
 refine AO.step rfl (callM_ok rfl 17 rfl rfl (es := [.g (encEventO x3), .v (.int .i64 1)]) (outs := [.g [.u, .u, .u, .w 2 (x13.1.entrants.map encEntrant), .w 1 (x13.1.gone.map encInt), .u, .w 1 (x13.1.order.map encInt), .w 2 (x13.1.results.map encResultO)], .u]) (ids := [7, 8, 9, 10]) (by exact expLG_cons (.g (expLC_cons .v (expLC_cons .v (expLC_cons .v (expLC_cons (.rowR rfl) (expLC_cons (.rowR rfl) (expLC_cons .v (expLC_cons (.rowR rfl) (expLC_cons (.rowR rfl) (expLC_nil)))))))))) (expLG_cons (.c .v) (expLG_nil))) (by decide) (.inl (by rfl)) (by rfl) (laws_markEvent_ok fuel _ _ _ (hx14)) rfl (by rfl) rfl) ?_
 refine AO.pure T rfl rfl rfl ?_
 refine AO.nil ?_
 iterate 2 refine AW.seq ?_
 refine AW.region ?_
 iterate 3 refine AO.pure T rfl rfl rfl ?_
 iterate 2 refine AO.pureG T [] rfl trivial rfl rfl ?_
 refine AO.guard [52, 53] rfl ⟨fun h => h, fun h => h, trivial⟩ (fun hg => callLV_ok rfl rfl rfl (es := [.s (List.map encInt x7.1), .s (List.map encInt x5.1)]) ⟨(.rowR rfl (.map fun y => .vs rfl)), (.rowR rfl (.map fun y => .vs rfl)), trivial⟩ (laws_eqIntS_ok _ _ _ (hx10)) (zfree_v _) rfl) rfl ?_
 refine AO.pureG T [54] rfl ⟨fun h => h, trivial⟩ rfl rfl ?_
 refine AO.val rfl rfl (pick_or rfl rfl rfl rfl) ?_
 refine AO.pure T rfl rfl rfl ?_
 iterate 2 refine AO.pureG T [] rfl trivial rfl rfl ?_
 refine AO.pureG T [58, 59] rfl ⟨fun h => h, fun h => h, trivial⟩ rfl rfl ?_
 refine AO.val rfl rfl (pick_or rfl rfl rfl rfl) ?_
 refine AO.nil ?_
 refine AW.le (Le.ct 0 0 (σ' := (⟨[(1, .p 1 0), (4, .R 6), (5, .v (.bool x5.2)), (7, .R 12), (61, .v (.bool ((decide (x13.2 < 0) || (!x9)) || (!(x7.2 == x5.2)))))], [(1, .box [.v (.int .i64 aE.segments), .v (.int .i64 aE.size), .v (.int .i64 aE.key), .s (List.map encEntrant aE.entrants), .s (List.map encInt aE.gone), .v (.int .i64 aE.segment), .s (List.map encInt aE.order), .s (List.map encResult aE.results)]), (6, .row 1 (List.map encInt x5.1)), (12, .row 1 (List.map encInt x7.1))], 96, []⟩ : St))) ?_
 refine AW.cond (b := ((decide (x13.2 < 0) || (!x9)) || (!(x7.2 == x5.2)))) rfl (fun hc => ?_) (fun hc => ?_)
 replace hH := condT hc hH
 refine AW.seq (AW.region ?_)
 refine AO.pure T rfl rfl rfl ?_
 refine AO.nil (AW.ret ?_)
 cases someE hH
 exact ⟨trivial, _, [], rfl, .c (.c .v), by decide⟩
 replace hH := condF hc hH
 refine AW.skip ?_
 refine AW.seq (AW.region ?_)
 refine AO.pure T rfl rfl rfl ?_
 refine AO.nil (AW.seq ?_)
 obtain ⟨x15, hx16, hH⟩ := bindE hH
 refine AW.region ?_
 iterate 2 refine AO.pure T rfl rfl rfl ?_
 refine AO.step rfl (callM_ok rfl 17 rfl rfl (es := [.w 1 (x7.1.map encInt), .v (.int .i64 1)]) (outs := [.w 1 (x15.1.map encInt), .u]) (ids := [12]) (by exact expLG_cons (.c (.rowR rfl)) (expLG_cons (.c .v) (expLG_nil))) (by decide) (.inl (by rfl)) (by rfl) (laws_markIntS_ok fuel _ _ _ (hx16)) rfl (by rfl) rfl) ?_
 refine AO.pure T rfl rfl rfl ?_
 refine AO.nil (AW.seq ?_)
 refine AW.region ?_
 refine AO.pure T rfl rfl rfl ?_
 refine AO.nil (AW.seq ?_)
 obtain ⟨x17, hx18, hH⟩ := bindE hH
 refine AW.region ?_
 iterate 2 refine AO.pure T rfl rfl rfl ?_
 refine AO.val rfl rfl (callLV_ok rfl rfl rfl (es := [.s (List.map encInt x15.1), .v (.int .i64 1)]) ⟨(.rowR rfl (.map fun y => .vs rfl)), .free rfl, trivial⟩ (laws_heldIntS_ok _ _ _ (hx18)) (zfree_v _) rfl) ?_
 refine AO.pure T rfl rfl rfl ?_
 refine AO.nil ?_
 iterate 2 refine AW.seq ?_
 refine AW.region ?_
 iterate 2 refine AO.pure T rfl rfl rfl ?_
 refine AO.nil ?_
 refine AW.cond (b := decide (x17 < 0)) rfl (fun hc => ?_) (fun hc => ?_)
 replace hH := condT hc hH
 refine AW.seq (AW.region ?_)
 refine AO.pure T rfl rfl rfl ?_
 refine AO.nil (AW.ret ?_)
 cases someE hH
 exact ⟨trivial, _, [], rfl, .c (.c .v), by decide⟩
 replace hH := condF hc hH
 refine AW.skip ?_
 iterate 2 refine AW.seq ?_
 refine AW.region ?_
 iterate 3 refine AO.pure T rfl rfl rfl ?_
 refine AO.nil ?_
 refine AW.cond (b := (x17 != x15.2)) rfl (fun hc => ?_) (fun hc => ?_)
 replace hH := condT hc hH
 refine AW.seq (AW.region ?_)
 refine AO.pure T rfl rfl rfl ?_
 refine AO.nil (AW.ret ?_)
 cases someE hH
 exact ⟨trivial, _, [], rfl, .c (.c .v), by decide⟩
 replace hH := condF hc hH
 refine AW.skip ?_
 refine AW.seq (AW.region ?_)
 refine AO.pure T (d := .g [.v (.int .i64 aE.segments), .v (.int .i64 aE.size), .v (.int .i64 aE.key), .s (List.map encEntrant aE.entrants), .s (List.map encInt aE.gone), .v (.int .i64 aE.segment), .s (List.map encInt aE.order), .s (List.map encResult aE.results)]) rfl rfl rfl ?_
 refine AO.step rfl (call_ok rfl 17 rfl rfl rfl (laws_toEvent_ok _ _ (hx4)) rfl rfl rfl) ?_
 refine AO.step rfl (callL_ok rfl 21 rfl rfl (es := [.g (encEvent x3)]) (by exact ⟨lend_g (LendL.cons (.free rfl) (LendL.cons (.free rfl) (LendL.cons (.free rfl) (LendL.cons ((.rowR rfl (.map fun y => .vs rfl))) (LendL.cons ((.rowR rfl (.map fun y => .vs rfl))) (LendL.cons (.free rfl) (LendL.cons ((.rowR rfl (.map fun y => .vs rfl))) (LendL.cons ((.rowR rfl (.map fun y => frzResult y))) LendL.nil)))))))), trivial⟩) (impl_AllowedSteps_ok fuel _ _ (hx8)) (zfree_t (zfl (.cons (zfree_map (fun y => (.cons (zfree_v _) .nil))) (.cons (zfree_v _) .nil)))) rfl rfl rfl) ?_
 iterate 5 refine AO.pure T rfl rfl rfl ?_
 refine AO.nil ?_
 iterate 2 refine AW.seq ?_
 refine AW.region ?_
 iterate 2 refine AO.pure T rfl rfl rfl ?_
 refine AO.val rfl rfl (callLV_ok rfl rfl rfl (es := [.s (List.map encInt x7.1), .s (List.map encInt x5.1)]) ⟨(.rowR rfl (.map fun y => .vs rfl)), (.rowR rfl (.map fun y => .vs rfl)), trivial⟩ (laws_eqIntS_ok _ _ _ (hx10)) (zfree_v _) rfl) ?_
 iterate 2 refine AO.pure T rfl rfl rfl ?_
 iterate 2 refine AO.pureG T [] rfl trivial rfl rfl ?_
 refine AO.pureG T [84, 85] rfl ⟨fun h => h, fun h => h, trivial⟩ rfl rfl ?_
 refine AO.val rfl rfl (pick_or rfl rfl rfl rfl) ?_
 refine AO.nil ?_
 refine AW.le (Le.ct 0 0 (σ' := (⟨[(7, .R 12), (10, .v (.int .i64 x15.2)), (87, .v (.bool ((!x9) || (!(x7.2 == x5.2)))))], [(12, .row 1 (List.map encInt x15.1))], 96, []⟩ : St))) ?_
 refine AW.cond (b := ((!x9) || (!(x7.2 == x5.2)))) rfl (fun hc => ?_) (fun hc => ?_)
 replace hH := condT hc hH
 refine AW.seq (AW.region ?_)
 refine AO.pure T rfl rfl rfl ?_
 refine AO.nil (AW.ret ?_)
 cases someE hH
 exact ⟨trivial, _, [], rfl, .c (.c .v), by decide⟩
 replace hH := condF hc hH
 refine AW.skip ?_
 refine AW.seq (AW.region ?_)
 refine AO.pure T rfl rfl rfl ?_
 refine AO.nil (AW.seq ?_)
 refine AW.region ?_
 iterate 2 refine AO.pure T rfl rfl rfl ?_
 refine AO.val rfl rfl (callLV_ok rfl rfl rfl (es := [.s (List.map encInt x15.1), .v (.int .i64 1)]) ⟨(.rowR rfl (.map fun y => .vs rfl)), .free rfl, trivial⟩ (laws_heldIntS_ok _ _ _ (hx18)) (zfree_v _) rfl) ?_
 refine AO.pure T rfl rfl rfl ?_
 refine AO.nil ?_
 iterate 2 refine AW.seq ?_
 refine AW.region ?_
 iterate 2 refine AO.pure T rfl rfl rfl ?_
 refine AO.nil ?_
 refine AW.cond (b := decide (x17 < 0)) rfl (fun hc => ?_) (fun hc => ?_)
 replace hH := condT hc hH
 refine AW.seq (AW.region ?_)
 refine AO.pure T rfl rfl rfl ?_
 refine AO.nil (AW.ret ?_)
 cases someE hH
 exact ⟨trivial, _, [], rfl, .c (.c .v), by decide⟩
 replace hH := condF hc hH
 refine AW.skip ?_
 iterate 2 refine AW.seq ?_
 refine AW.region ?_
 iterate 3 refine AO.pure T rfl rfl rfl ?_
 refine AO.nil ?_
 refine AW.cond (b := (x17 != x15.2)) rfl (fun hc => ?_) (fun hc => ?_)
 replace hH := condT hc hH
 refine AW.seq (AW.region ?_)
 refine AO.pure T rfl rfl rfl ?_
 refine AO.nil (AW.ret ?_)
 cases someE hH
 exact ⟨trivial, _, [], rfl, .c (.c .v), by decide⟩
 replace hH := condF hc hH
 refine AW.skip ?_
 refine AW.seq (AW.region ?_)
 refine AO.pure T rfl rfl rfl ?_
 refine AO.nil (AW.ret ?_)
 cases someE hH
 exact ⟨trivial, _, [], rfl, .c (.c .v), by decide⟩

def spec_evEnter_l1 (e : Event) (x : Entrant) (x1 : Event) : Nat → List Int → Int → Option ((Event × Bool))
  | 0, _, _ => none
  | k7 + 1, v14, v15 =>
    cond (decide (v15 < e.segments))
      ((need (fitsB 8 (v14.length + ([(-1)]).length))).bind fun u17 =>
      spec_evEnter_l1 e x x1 k7 (v14 ++ [(-1)]) (w64 (v15 + 1)))
      ((need (fitsB 32 (x1.results.length + ([(Result.mk x.skater v14)]).length))).bind fun u19 =>
      some ((Event.mk x1.segments x1.size x1.key (x1.entrants ++ [x]) x1.gone x1.segment x1.order (x1.results ++ [(Result.mk x.skater v14)])), true))
def spec_evEnter_p (fuel : Nat) (e : Event) (x : Entrant) : Option (Event × Bool) :=
  (spec_evOwn_p e).bind fun x1 =>
  (need (fitsB 16 (x1.entrants.length + ([x]).length))).bind fun u3 =>
  (opt (!(decide (e.segment > 0) || decide ((e.order.length : Int) > 0))) default (spec_soEntrants_p (x1.entrants ++ [x]))).bind fun x5 =>
  cond ((decide (e.segment > 0) || decide ((e.order.length : Int) > 0)) || (!x5))
    (some ((Event.mk 0 0 0 [] [] 0 [] []), false))
    (spec_evEnter_l1 e x x1 fuel [] 0)
theorem spec_evEnter_ok (fuel : Nat) (e : Event) (x : Entrant) (r : (Event × Bool)) (hH : spec_evEnter_p fuel e x = some r) : SpecR Tryz.prog 95 [.g (encEvent e), .g (encEntrant x)] (.t [.g (encEventO r.1), .v (.bool r.2)]) := by
 refine fn_ok T Tryz.func95 rfl (by decide) rfl ?_
 refine AW.seq (AW.region ?_)
 refine AO.step rfl (box_ok T rfl 1 rfl rfl rfl rfl) ?_
 refine AO.step rfl (box_ok T rfl 2 rfl rfl rfl rfl) ?_
 refine AO.step rfl (alloc_ok T rfl 3 rfl rfl rfl rfl rfl) ?_
 refine AO.pure T rfl rfl rfl ?_
 refine AO.nil (AW.seq ?_)
 obtain ⟨x1, hx2, hH⟩ := bindE hH
 refine AW.region ?_
 refine AO.pure T (d := .g [.v (.int .i64 e.segments), .v (.int .i64 e.size), .v (.int .i64 e.key), .s (List.map encEntrant e.entrants), .s (List.map encInt e.gone), .v (.int .i64 e.segment), .s (List.map encInt e.order), .s (List.map encResult e.results)]) rfl rfl rfl ?_
 refine AO.step rfl (call_ok rfl 4 rfl rfl rfl (spec_evOwn_ok _ _ (hx2)) rfl rfl rfl) ?_
 refine AO.step rfl (alloc_ok T rfl 8 rfl rfl rfl rfl rfl) ?_
 refine AO.step rfl (store_okE T rfl rfl rfl rfl rfl rfl rfl rfl rfl (ds' := [.v (.int .i64 x1.segments), .v (.int .i64 x1.size), .v (.int .i64 x1.key), .R 4, .R 5, .v (.int .i64 x1.segment), .R 6, .R 7]) rfl) ?_
 refine AO.nil (AW.seq ?_)
 obtain ⟨u3, hx4, hH⟩ := bindE hH
 refine AW.region ?_
 iterate 2 refine AO.pure T rfl rfl rfl ?_
 refine AO.pure T (d := .g [.v (.int .i64 x.skater), .v (.int .i64 x.rank)]) rfl rfl rfl ?_
 refine AO.step rfl (mk_map_ok T rfl 9 rfl rfl rfl rfl rfl (f := encEntrant) (l := [x]) rfl rfl (fun _ => rfl) rfl rfl rfl rfl rfl) ?_
 refine AO.step rfl (app_rv_map T rfl 10 rfl rfl rfl rfl rfl (by decide) rfl rfl rfl rfl (fun _ => rfl) (needT (hx4)) rfl rfl) ?_
 refine AO.pure T rfl rfl rfl ?_
 refine AO.step rfl (store_okE T rfl rfl rfl rfl rfl rfl rfl rfl rfl (ds' := [.v (.int .i64 x1.segments), .v (.int .i64 x1.size), .v (.int .i64 x1.key), .R 10, .R 5, .v (.int .i64 x1.segment), .R 6, .R 7]) rfl) ?_
 refine AO.nil ?_
 iterate 2 refine AW.seq ?_
 obtain ⟨x5, hx6, hH⟩ := bindE hH
 refine AW.region ?_
 iterate 4 refine AO.pure T rfl rfl rfl ?_
 refine AO.pureG T [] rfl trivial rfl rfl ?_
 refine AO.pureG T [21] rfl ⟨fun h => h, trivial⟩ rfl rfl ?_
 refine AO.guard [22] rfl ⟨fun h => h, trivial⟩ (fun hg => len_map_ok T rfl rfl rfl) rfl ?_
 refine AO.pureG T [23] rfl ⟨fun h => h, trivial⟩ rfl rfl ?_
 refine AO.val rfl rfl (pick_or rfl rfl rfl rfl) ?_
 refine AO.pure T rfl rfl rfl ?_
 refine AO.pureG T [] rfl trivial rfl rfl ?_
 refine AO.pureG T [27] rfl ⟨fun h => h, trivial⟩ rfl rfl ?_
 refine AO.guard [28] rfl ⟨fun h => h, trivial⟩ (fun hg => callLV_ok rfl rfl rfl (es := [.s (List.map encEntrant (x1.entrants ++ [x]))]) ⟨(.rowR rfl (.map fun y => .vs rfl)), trivial⟩ (spec_soEntrants_ok _ _ (optT hx6 hg)) (zfree_v _) rfl) rfl ?_
 refine AO.pureG T [29] rfl ⟨fun h => h, trivial⟩ rfl rfl ?_
 refine AO.val rfl rfl (pick_or rfl rfl rfl rfl) ?_
 refine AO.nil ?_
 refine AW.le (Le.ct 0 0 (σ' := (⟨[(2, .p 1 0), (3, .p 2 0), (4, .p 3 0), (6, .p 8 0), (31, .v (.bool ((decide (e.segment > 0) || decide ((e.order.length : Int) > 0)) || (!x5))))], [(1, .box [.v (.int .i64 e.segments), .v (.int .i64 e.size), .v (.int .i64 e.key), .s (List.map encEntrant e.entrants), .s (List.map encInt e.gone), .v (.int .i64 e.segment), .s (List.map encInt e.order), .s (List.map encResult e.results)]), (2, .box [.v (.int .i64 x.skater), .v (.int .i64 x.rank)]), (3, .box [.v (.int .i64 0), .v (.int .i64 0), .v (.int .i64 0), .w 0 [], .w 0 [], .v (.int .i64 0), .w 0 [], .w 0 []]), (5, .row 1 (List.map encInt x1.gone)), (6, .row 1 (List.map encInt x1.order)), (7, .row 2 (List.map encResultO x1.results)), (8, .box [.v (.int .i64 x1.segments), .v (.int .i64 x1.size), .v (.int .i64 x1.key), .R 10, .R 5, .v (.int .i64 x1.segment), .R 6, .R 7]), (10, .row 2 (List.map encEntrant (x1.entrants ++ [x])))], 54, []⟩ : St))) ?_
 refine AW.cond (b := ((decide (e.segment > 0) || decide ((e.order.length : Int) > 0)) || (!x5))) rfl (fun hc => ?_) (fun hc => ?_)
 replace hH := condT hc hH
 refine AW.seq (AW.region ?_)
 refine AO.pure T (d := .g [.v (.int .i64 0), .v (.int .i64 0), .v (.int .i64 0), .w 0 [], .w 0 [], .v (.int .i64 0), .w 0 [], .w 0 []]) rfl rfl rfl ?_
 refine AO.step rfl (store_okE T rfl rfl rfl rfl rfl rfl rfl rfl rfl (ds' := [.v (.int .i64 0), .v (.int .i64 0), .v (.int .i64 0), .w 0 [], .w 0 [], .v (.int .i64 0), .w 0 [], .w 0 []]) rfl) ?_
 refine AO.pure T rfl rfl rfl ?_
 refine AO.nil (AW.ret ?_)
 cases someE hH
 exact ⟨trivial, _, [], rfl, .t (expLG_cons (.g (expLC_cons .v (expLC_cons .v (expLC_cons .v (expLC_cons .nil (expLC_cons .nil (expLC_cons .v (expLC_cons .nil (expLC_cons .nil (expLC_nil)))))))))) (expLG_cons (.c .v) (expLG_nil))), by decide⟩
 replace hH := condF hc hH
 refine AW.skip ?_
 refine AW.seq (AW.region ?_)
 iterate 2 refine AO.pure T rfl rfl rfl ?_
 refine AO.pure T (d := .g [.v (.int .i64 x.skater), .w 0 []]) rfl rfl rfl ?_
 refine AO.step rfl (alloc_ok T rfl 11 rfl rfl rfl rfl rfl) ?_
 refine AO.step rfl (store_okE T rfl rfl rfl rfl rfl rfl rfl rfl rfl (ds' := [.v (.int .i64 x.skater), .w 0 []]) rfl) ?_
 refine AO.nil ?_
 iterate 2 refine AW.seq ?_
 refine AW.region ?_
 refine AO.pure T rfl rfl rfl ?_
 refine AO.nil ?_
 refine AW.block ?_
 refine AW.loopS (fun s : Nat × (List Int) × Int => (⟨[(2, .p 1 0), (4, .p 3 0), (6, .p 8 0), (7, .p 11 0), (8, .v (.int .i64 s.2.2))], [(1, .box [.v (.int .i64 e.segments), .v (.int .i64 e.size), .v (.int .i64 e.key), .s (List.map encEntrant e.entrants), .s (List.map encInt e.gone), .v (.int .i64 e.segment), .s (List.map encInt e.order), .s (List.map encResult e.results)]), (3, .box [.v (.int .i64 0), .v (.int .i64 0), .v (.int .i64 0), .w 0 [], .w 0 [], .v (.int .i64 0), .w 0 [], .w 0 []]), (5, .row 1 (List.map encInt x1.gone)), (6, .row 1 (List.map encInt x1.order)), (7, .row 2 (List.map encResultO x1.results)), (8, .box [.v (.int .i64 x1.segments), .v (.int .i64 x1.size), .v (.int .i64 x1.key), .R 10, .R 5, .v (.int .i64 x1.segment), .R 6, .R 7]), (10, .row 2 (List.map encEntrant (x1.entrants ++ [x]))), (11, .box [.v (.int .i64 x.skater), .R 15]), (15, .row 1 (List.map encInt s.2.1))], 54, []⟩ : St)) (fun s => spec_evEnter_l1 e x x1 s.1 s.2.1 s.2.2 = some r) (fun s => s.1) (fuel, [], 0) hH ?_ ?_
 refine Le.trans (Le.voidBox 11 1 15 1 rfl rfl rfl rfl) ?_
 exact Le.ct 0 0
 rintro ⟨k7, v14, v15⟩ hH
 replace hH : spec_evEnter_l1 e x x1 k7 v14 v15 = some r := hH
 show AW _ _ _ (⟨[(2, .p 1 0), (4, .p 3 0), (6, .p 8 0), (7, .p 11 0), (8, .v (.int .i64 v15))], [(1, .box [.v (.int .i64 e.segments), .v (.int .i64 e.size), .v (.int .i64 e.key), .s (List.map encEntrant e.entrants), .s (List.map encInt e.gone), .v (.int .i64 e.segment), .s (List.map encInt e.order), .s (List.map encResult e.results)]), (3, .box [.v (.int .i64 0), .v (.int .i64 0), .v (.int .i64 0), .w 0 [], .w 0 [], .v (.int .i64 0), .w 0 [], .w 0 []]), (5, .row 1 (List.map encInt x1.gone)), (6, .row 1 (List.map encInt x1.order)), (7, .row 2 (List.map encResultO x1.results)), (8, .box [.v (.int .i64 x1.segments), .v (.int .i64 x1.size), .v (.int .i64 x1.key), .R 10, .R 5, .v (.int .i64 x1.segment), .R 6, .R 7]), (10, .row 2 (List.map encEntrant (x1.entrants ++ [x]))), (11, .box [.v (.int .i64 x.skater), .R 15]), (15, .row 1 (List.map encInt v14))], 54, []⟩ : St)
 rcases k7 with _ | k7
 cases (show none = some _ from hH)
 rw [spec_evEnter_l1] at hH
 iterate 2 refine AW.seq ?_
 refine AW.region ?_
 iterate 4 refine AO.pure T rfl rfl rfl ?_
 refine AO.nil ?_
 refine AW.cond (b := decide (v15 < e.segments)) rfl (fun hc => ?_) (fun hc => ?_)
 replace hH := condT hc hH
 refine AW.skip ?_
 refine AW.seq ?_
 refine AW.block ?_
 obtain ⟨u17, hx18, hH⟩ := bindE hH
 refine AW.region ?_
 iterate 2 refine AO.pure T rfl rfl rfl ?_
 refine AO.step rfl (mk_map_ok T rfl 16 rfl rfl rfl rfl rfl (f := encInt) (l := [(-1)]) rfl rfl (fun _ => rfl) rfl rfl rfl rfl rfl) ?_
 refine AO.step rfl (app_rv_map T rfl 17 rfl rfl rfl rfl rfl (by decide) rfl rfl rfl rfl (fun _ => rfl) (needT (hx18)) rfl rfl) ?_
 refine AO.pure T rfl rfl rfl ?_
 refine AO.step rfl (store_okE T rfl rfl rfl rfl rfl rfl rfl rfl rfl (ds' := [.v (.int .i64 x.skater), .R 17]) rfl) ?_
 refine AO.nil ?_
 refine AW.region ?_
 refine AO.pure T rfl rfl rfl ?_
 refine AO.val rfl rfl (arw_ok rfl rfl rfl rfl) ?_
 refine AO.pure T rfl rfl rfl ?_
 refine AO.nil ?_
 refine ⟨(k7, (v14 ++ [(-1)]), w64 (v15 + 1)), hH, Nat.lt_succ_self _, ?_⟩
 exact Le.ct 17 15
 replace hH := condF hc hH
 refine AW.exit ?_
 refine AW.seq ?_
 obtain ⟨u19, hx20, hH⟩ := bindE hH
 refine AW.region ?_
 iterate 2 refine AO.pure T rfl rfl rfl ?_
 refine AO.pure T (d := .g [.v (.int .i64 x.skater), .R 15]) rfl rfl rfl ?_
 refine AO.step rfl (mk_o_ok T rfl 18 rfl rfl rfl rfl rfl rfl (f := encResultO) (l := [(Result.mk x.skater v14)]) (ids := [15]) rfl rfl (fun _ => rfl) (by exact expLC_cons .v (expLC_cons (.rowR rfl) (expLC_nil))) (by decide) rfl rfl rfl rfl rfl) ?_
 refine AO.step rfl (app_rr_map T rfl 19 rfl rfl rfl rfl rfl (by decide) rfl rfl rfl rfl rfl (needT (hx20)) rfl rfl) ?_
 refine AO.pure T rfl rfl rfl ?_
 refine AO.step rfl (store_okE T rfl rfl rfl rfl rfl rfl rfl rfl rfl (ds' := [.v (.int .i64 x1.segments), .v (.int .i64 x1.size), .v (.int .i64 x1.key), .R 10, .R 5, .v (.int .i64 x1.segment), .R 6, .R 19]) rfl) ?_
 refine AO.nil (AW.seq ?_)
 refine AW.region ?_
 refine AO.pure T (d := .g [.v (.int .i64 x1.segments), .v (.int .i64 x1.size), .v (.int .i64 x1.key), .R 10, .R 5, .v (.int .i64 x1.segment), .R 6, .R 19]) rfl rfl rfl ?_
 refine AO.step rfl (store_okE T rfl rfl rfl rfl rfl rfl rfl rfl rfl (ds' := [.v (.int .i64 x1.segments), .v (.int .i64 x1.size), .v (.int .i64 x1.key), .R 10, .R 5, .v (.int .i64 x1.segment), .R 6, .R 19]) rfl) ?_
 refine AO.pure T rfl rfl rfl ?_
 refine AO.nil (AW.ret ?_)
 cases someE hH
 exact ⟨trivial, _, [10, 5, 6, 19], rfl, .t (expLG_cons (.g (expLC_cons .v (expLC_cons .v (expLC_cons .v (expLC_cons (.rowR rfl) (expLC_cons (.rowR rfl) (expLC_cons .v (expLC_cons (.rowR rfl) (expLC_cons (.rowR rfl) (expLC_nil)))))))))) (expLG_cons (.c .v) (expLG_nil))), by decide⟩

def spec_paWithout_l1 (gone : Int) : List Int → Nat → List Int → Option ((List Int))
  | [], k1, v12 =>
    some v12
  | y2 :: ys3, k1, v12 =>
    cond (y2 != gone)
      ((need (fitsB 8 (v12.length + ([y2]).length))).bind fun u14 =>
      spec_paWithout_l1 gone ys3 (k1 + 1) (v12 ++ [y2]))
      (spec_paWithout_l1 gone ys3 (k1 + 1) v12)
def spec_paWithout_p (l : List Int) (gone : Int) : Option (List Int) :=
  spec_paWithout_l1 gone l 0 []
theorem spec_paWithout_ok (l : List Int) (gone : Int) (r : (List Int)) (hH : spec_paWithout_p l gone = some r) : SpecR Tryz.prog 168 [.s (List.map encInt l), .v (.int .i64 gone)] (.w 1 (r.map encInt)) := by
 refine fn_ok T Tryz.func168 rfl (by decide) rfl ?_
 refine AW.seq (AW.region ?_)
 refine AO.pure T rfl rfl rfl ?_
 refine AO.nil (AW.seq ?_)
 refine AW.region ?_
 refine AO.pure T rfl rfl rfl ?_
 refine AO.nil ?_
 iterate 2 refine AW.seq ?_
 refine AW.region ?_
 refine AO.pure T rfl rfl rfl ?_
 refine AO.val rfl rfl (len_map_ok T rfl rfl rfl) ?_
 refine AO.pure T rfl rfl rfl ?_
 refine AO.nil ?_
 refine AW.block ?_
 refine AW.loopS (fun s : Nat × (List Int) => (⟨[(1, .v (.int .i64 gone)), (5, .R 4), (8, .s (List.map encInt l)), (9, .v (.int .i64 (l.length : Int))), (10, .v (.int .i64 (s.1 : Int)))], [(4, .row 1 (List.map encInt s.2))], 23, []⟩ : St)) (fun s => s.1 ≤ l.length ∧ spec_paWithout_l1 gone (l.drop s.1) s.1 s.2 = some r) (fun s => l.length - s.1) (0, []) ⟨Nat.zero_le _, hH⟩ ?_ ?_
 refine Le.trans (Le.void 5 4 1 rfl rfl) ?_
 exact Le.ct 0 0
 rintro ⟨k1, v12⟩ ⟨hk, hH⟩
 replace hH : spec_paWithout_l1 gone (l.drop k1) k1 v12 = some r := hH
 show AW _ _ _ (⟨[(1, .v (.int .i64 gone)), (5, .R 4), (8, .s (List.map encInt l)), (9, .v (.int .i64 (l.length : Int))), (10, .v (.int .i64 (k1 : Int)))], [(4, .row 1 (List.map encInt v12))], 23, []⟩ : St)
 refine AW.boundM (t := 8) (l := l) rfl (fun hb5 => ?_)
 rcases hd4 : l.drop k1 with _ | ⟨y2, ys3⟩
 rw [hd4, spec_paWithout_l1] at hH
 have hlt6 := drop_ge hd4
 refine AW.seq (AW.region ?_)
 refine AO.pure T rfl rfl rfl ?_
 refine AO.nil (AW.seq ?_)
 refine AW.condF' (b := decide ((k1 : Int) < (l.length : Int))) rfl (rngF hlt6) ?_
 refine AW.exit ?_
 refine AW.seq (AW.region ?_)
 iterate 2 refine AO.pure T rfl rfl rfl ?_
 refine AO.nil (AW.ret ?_)
 cases someE hH
 exact ⟨trivial, _, [4], rfl, .c (.c (.rowR rfl)), by decide⟩
 rw [hd4, spec_paWithout_l1] at hH
 have hlt6 := drop_lt hd4
 refine AW.seq (AW.region ?_)
 refine AO.pure T rfl rfl rfl ?_
 refine AO.nil (AW.seq ?_)
 refine AW.condT' (b := decide ((k1 : Int) < (l.length : Int))) rfl (rngT hlt6) ?_
 refine AW.skip ?_
 refine AW.seq ?_
 refine AW.block ?_
 refine AW.seq (AW.region ?_)
 refine AO.val rfl rfl (ix_map_ok T rfl rfl rfl rfl rfl (getI_drop hd4) rfl) ?_
 iterate 2 refine AO.pure T rfl rfl rfl ?_
 refine AO.nil (AW.seq ?_)
 refine AW.region ?_
 iterate 3 refine AO.pure T rfl rfl rfl ?_
 refine AO.nil ?_
 refine AW.cond (b := (y2 != gone)) rfl (fun hc => ?_) (fun hc => ?_)
 replace hH := condT hc hH
 obtain ⟨u14, hx15, hH⟩ := bindE hH
 refine AW.region ?_
 iterate 2 refine AO.pure T rfl rfl rfl ?_
 refine AO.step rfl (mk_map_ok T rfl 5 rfl rfl rfl rfl rfl (f := encInt) (l := [y2]) rfl rfl (fun _ => rfl) rfl rfl rfl rfl rfl) ?_
 refine AO.step rfl (app_rv_map T rfl 6 rfl rfl rfl rfl rfl (by decide) rfl rfl rfl rfl (fun _ => rfl) (needT (hx15)) rfl rfl) ?_
 refine AO.pure T rfl rfl rfl ?_
 refine AO.nil ?_
 refine AW.region ?_
 refine AO.val rfl rfl (ar_ok rfl rfl rfl rfl (inI_succ hlt6 hb5)) ?_
 refine AO.pure T rfl rfl rfl ?_
 refine AO.nil ?_
 refine ⟨(k1 + 1, (v12 ++ [y2])), ⟨Nat.succ_le_of_lt hlt6, (by rw [drop_succ_of hd4]; exact hH)⟩, (by have := hlt6; dsimp only; omega), ?_⟩
 exact Le.ct 6 4
 replace hH := condF hc hH
 refine AW.skip ?_
 refine AW.region ?_
 refine AO.val rfl rfl (ar_ok rfl rfl rfl rfl (inI_succ hlt6 hb5)) ?_
 refine AO.pure T rfl rfl rfl ?_
 refine AO.nil ?_
 refine ⟨(k1 + 1, v12), ⟨Nat.succ_le_of_lt hlt6, (by rw [drop_succ_of hd4]; exact hH)⟩, (by have := hlt6; dsimp only; omega), ?_⟩
 exact Le.ct 0 0

def spec_evEnd_p (e : Event) : Option Event :=
  (opt (decide ((e.order.length : Int) > 0)) default (getI e.order (w64 ((e.order.length : Int) - 1)))).bind fun x1 =>
  (opt (decide ((e.order.length : Int) > 0)) default (spec_evHas_p e x1)).bind fun x3 =>
  cond (decide ((e.order.length : Int) > 0) && x3)
    (some (Event.mk e.segments e.size e.key e.entrants e.gone (w64 (e.segment + 1)) [] e.results))
    (some e)
theorem spec_evEnd_ok (e : Event) (r : Event) (hH : spec_evEnd_p e = some r) : SpecR Tryz.prog 169 [.g (encEvent e)] (.g (encEvent r)) := by
 refine fn_ok T Tryz.func169 rfl (by decide) rfl ?_
 refine AW.seq (AW.region ?_)
 refine AO.step rfl (box_ok T rfl 1 rfl rfl rfl rfl) ?_
 refine AO.step rfl (alloc_ok T rfl 2 rfl rfl rfl rfl rfl) ?_
 refine AO.nil ?_
 iterate 2 refine AW.seq ?_
 obtain ⟨x1, hx2, hH⟩ := bindE hH
 obtain ⟨x3, hx4, hH⟩ := bindE hH
 refine AW.drawn 14 3 [] mix (by kernel_rfl) rfl ?_
 iterate 2 refine AD.pure T rfl rfl rfl ?_
 refine AD.val rfl rfl (len_map_ok T rfl rfl rfl) ?_
 iterate 2 refine AD.pure T rfl rfl rfl ?_
 refine AD.pureG T (d := .g [.v (.int .i64 e.segments), .v (.int .i64 e.size), .v (.int .i64 e.key), .s (List.map encEntrant e.entrants), .s (List.map encInt e.gone), .v (.int .i64 e.segment), .s (List.map encInt e.order), .s (List.map encResult e.results)]) [] rfl trivial rfl rfl ?_
 refine AD.pureG T [] rfl trivial rfl rfl ?_
 refine AD.pureG T [9] rfl ⟨fun h => h, trivial⟩ rfl rfl ?_
 refine AD.pureG T [] rfl trivial rfl rfl ?_
 refine AD.pureG T [11] rfl ⟨fun h => h, trivial⟩ rfl rfl ?_
 refine AD.guard [12] rfl ⟨fun h => h, trivial⟩ (fun hg => len_map_ok T rfl rfl rfl) rfl ?_
 refine AD.guard [13] rfl ⟨fun h => h, trivial⟩ (fun hg => arw_ok rfl rfl rfl rfl) rfl ?_
 refine AD.guard [10, 14] rfl ⟨fun h => h, fun h => h, trivial⟩ (fun hg => ix_map_ok T rfl rfl rfl rfl rfl (optT hx2 hg) rfl) rfl ?_
 refine AD.pureG T [15] rfl ⟨fun h => h, trivial⟩ rfl rfl ?_
 refine AD.nil ?_
 refine AO.guard [8, 16] rfl ⟨fun h => h, fun h => h, trivial⟩ (fun hg => callV_ok rfl rfl rfl rfl (spec_evHas_ok _ _ _ (optT hx4 hg)) rfl) rfl ?_
 refine AO.val rfl rfl (pick_and rfl rfl rfl rfl) ?_
 refine AO.nil ?_
 refine AW.cond (b := (decide ((e.order.length : Int) > 0) && x3)) rfl (fun hc => ?_) (fun hc => ?_)
 replace hH := condT hc hH
 refine AW.seq (AW.region ?_)
 iterate 2 refine AO.pure T rfl rfl rfl ?_
 refine AO.val rfl rfl (arw_ok rfl rfl rfl rfl) ?_
 refine AO.pure T rfl rfl rfl ?_
 refine AO.step rfl (store_okE T rfl rfl rfl rfl rfl rfl rfl rfl rfl (ds' := [.v (.int .i64 e.segments), .v (.int .i64 e.size), .v (.int .i64 e.key), .s (List.map encEntrant e.entrants), .s (List.map encInt e.gone), .v (.int .i64 (w64 (e.segment + 1))), .s (List.map encInt e.order), .s (List.map encResult e.results)]) rfl) ?_
 refine AO.nil ?_
 refine AW.region ?_
 refine AO.pure T rfl rfl rfl ?_
 refine AO.step rfl (store_okE T rfl rfl rfl rfl rfl rfl rfl rfl rfl (ds' := [.v (.int .i64 e.segments), .v (.int .i64 e.size), .v (.int .i64 e.key), .s (List.map encEntrant e.entrants), .s (List.map encInt e.gone), .v (.int .i64 (w64 (e.segment + 1))), .w 0 [], .s (List.map encResult e.results)]) rfl) ?_
 refine AO.nil ?_
 refine AW.le (Le.ct 0 0 (σ' := (⟨[(1, .p 1 0), (2, .p 2 0)], [(1, .box [.v (.int .i64 e.segments), .v (.int .i64 e.size), .v (.int .i64 e.key), .s (List.map encEntrant e.entrants), .s (List.map encInt e.gone), .v (.int .i64 (w64 (e.segment + 1))), .w 0 [], .s (List.map encResult e.results)]), (2, .box [.v (.int .i64 0), .v (.int .i64 0), .v (.int .i64 0), .w 0 [], .w 0 [], .v (.int .i64 0), .w 0 [], .w 0 []])], 25, []⟩ : St))) ?_
 refine AW.seq (AW.region ?_)
 refine AO.pure T (d := .g [.v (.int .i64 e.segments), .v (.int .i64 e.size), .v (.int .i64 e.key), .s (List.map encEntrant e.entrants), .s (List.map encInt e.gone), .v (.int .i64 (w64 (e.segment + 1))), .w 0 [], .s (List.map encResult e.results)]) rfl rfl rfl ?_
 refine AO.step rfl (store_okE T rfl rfl rfl rfl rfl rfl rfl rfl rfl (ds' := [.v (.int .i64 e.segments), .v (.int .i64 e.size), .v (.int .i64 e.key), .s (List.map encEntrant e.entrants), .s (List.map encInt e.gone), .v (.int .i64 (w64 (e.segment + 1))), .w 0 [], .s (List.map encResult e.results)]) rfl) ?_
 refine AO.nil (AW.ret ?_)
 cases someE hH
 exact ⟨trivial, _, [], rfl, .c (.g (expLC_cons .v (expLC_cons .v (expLC_cons .v (expLC_cons .s (expLC_cons .s (expLC_cons .v (expLC_cons .nilS (expLC_cons .s (expLC_nil)))))))))), by decide⟩
 replace hH := condF hc hH
 refine AW.skip ?_
 refine AW.seq (AW.region ?_)
 refine AO.pure T (d := .g [.v (.int .i64 e.segments), .v (.int .i64 e.size), .v (.int .i64 e.key), .s (List.map encEntrant e.entrants), .s (List.map encInt e.gone), .v (.int .i64 e.segment), .s (List.map encInt e.order), .s (List.map encResult e.results)]) rfl rfl rfl ?_
 refine AO.step rfl (store_okE T rfl rfl rfl rfl rfl rfl rfl rfl rfl (ds' := [.v (.int .i64 e.segments), .v (.int .i64 e.size), .v (.int .i64 e.key), .s (List.map encEntrant e.entrants), .s (List.map encInt e.gone), .v (.int .i64 e.segment), .s (List.map encInt e.order), .s (List.map encResult e.results)]) rfl) ?_
 refine AO.nil (AW.ret ?_)
 cases someE hH
 exact ⟨trivial, _, [], rfl, .c (.g (expLC_cons .v (expLC_cons .v (expLC_cons .v (expLC_cons .s (expLC_cons .s (expLC_cons .v (expLC_cons .s (expLC_cons .s (expLC_nil)))))))))), by decide⟩

def spec_evLeave_l1 (e : Event) (skater : Int) (fuel : Nat) : List Entrant → Nat → Bool → Option ((Event × Bool))
  | [], k3, v10 =>
    cond (!v10)
      (some ((Event.mk 0 0 0 [] [] 0 [] []), false))
      ((spec_evOwn_p e).bind fun x12 =>
      (spec_l1Put_p fuel x12.gone skater).bind fun x14 =>
      (spec_evHas_p e skater).bind fun x16 =>
      cond (!x16)
        ((spec_paWithout_p x12.order skater).bind fun x18 =>
        (spec_evEnd_p (Event.mk x12.segments x12.size x12.key x12.entrants x14 x12.segment x18 x12.results)).bind fun x20 =>
        some (x20, true))
        ((spec_evEnd_p (Event.mk x12.segments x12.size x12.key x12.entrants x14 x12.segment x12.order x12.results)).bind fun x22 =>
        some (x22, true)))
  | y4 :: ys5, k3, v10 =>
    spec_evLeave_l1 e skater fuel ys5 (k3 + 1) (v10 || (y4.skater == skater))
def spec_evLeave_p (fuel : Nat) (e : Event) (skater : Int) : Option (Event × Bool) :=
  (spec_evThere_p e).bind fun x1 =>
  spec_evLeave_l1 e skater fuel x1 0 false
theorem spec_evLeave_ok (fuel : Nat) (e : Event) (skater : Int) (r : (Event × Bool)) (hH : spec_evLeave_p fuel e skater = some r) : SpecR Tryz.prog 129 [.g (encEvent e), .v (.int .i64 skater)] (.t [.g (encEvent r.1), .v (.bool r.2)]) := by
 refine fn_ok T Tryz.func129 rfl (by decide) rfl ?_
 refine AW.seq (AW.region ?_)
 refine AO.step rfl (box_ok T rfl 1 rfl rfl rfl rfl) ?_
 refine AO.step rfl (alloc_ok T rfl 2 rfl rfl rfl rfl rfl) ?_
 refine AO.pure T rfl rfl rfl ?_
 refine AO.nil (AW.seq ?_)
 refine AW.region ?_
 refine AO.pure T rfl rfl rfl ?_
 refine AO.nil ?_
 iterate 2 refine AW.seq ?_
 obtain ⟨x1, hx2, hH⟩ := bindE hH
 refine AW.region ?_
 refine AO.pure T (d := .g [.v (.int .i64 e.segments), .v (.int .i64 e.size), .v (.int .i64 e.key), .s (List.map encEntrant e.entrants), .s (List.map encInt e.gone), .v (.int .i64 e.segment), .s (List.map encInt e.order), .s (List.map encResult e.results)]) rfl rfl rfl ?_
 refine AO.step rfl (call_ok rfl 3 rfl rfl rfl (spec_evThere_ok _ _ (hx2)) rfl rfl rfl) ?_
 refine AO.val rfl rfl (len_row_ok T rfl rfl rfl rfl) ?_
 refine AO.pure T rfl rfl rfl ?_
 refine AO.nil ?_
 refine AW.block ?_
 refine AW.loopS (fun s : Nat × Bool => (⟨[(1, .v (.int .i64 skater)), (2, .p 1 0), (4, .p 2 0), (6, .v (.bool s.2)), (11, .R 3), (12, .v (.int .i64 (x1.length : Int))), (13, .v (.int .i64 (s.1 : Int)))], [(1, .box [.v (.int .i64 e.segments), .v (.int .i64 e.size), .v (.int .i64 e.key), .s (List.map encEntrant e.entrants), .s (List.map encInt e.gone), .v (.int .i64 e.segment), .s (List.map encInt e.order), .s (List.map encResult e.results)]), (2, .box [.v (.int .i64 0), .v (.int .i64 0), .v (.int .i64 0), .w 0 [], .w 0 [], .v (.int .i64 0), .w 0 [], .w 0 []]), (3, .row 2 (List.map encEntrant x1))], 46, []⟩ : St)) (fun s => s.1 ≤ x1.length ∧ spec_evLeave_l1 e skater fuel (x1.drop s.1) s.1 s.2 = some r) (fun s => x1.length - s.1) (0, false) ⟨Nat.zero_le _, hH⟩ ?_ ?_
 exact Le.ct 0 0
 rintro ⟨k3, v10⟩ ⟨hk, hH⟩
 replace hH : spec_evLeave_l1 e skater fuel (x1.drop k3) k3 v10 = some r := hH
 show AW _ _ _ (⟨[(1, .v (.int .i64 skater)), (2, .p 1 0), (4, .p 2 0), (6, .v (.bool v10)), (11, .R 3), (12, .v (.int .i64 (x1.length : Int))), (13, .v (.int .i64 (k3 : Int)))], [(1, .box [.v (.int .i64 e.segments), .v (.int .i64 e.size), .v (.int .i64 e.key), .s (List.map encEntrant e.entrants), .s (List.map encInt e.gone), .v (.int .i64 e.segment), .s (List.map encInt e.order), .s (List.map encResult e.results)]), (2, .box [.v (.int .i64 0), .v (.int .i64 0), .v (.int .i64 0), .w 0 [], .w 0 [], .v (.int .i64 0), .w 0 [], .w 0 []]), (3, .row 2 (List.map encEntrant x1))], 46, []⟩ : St)
 refine AW.boundR (id := 3) (l := x1) rfl (fun hb7 => ?_)
 rcases hd6 : x1.drop k3 with _ | ⟨y4, ys5⟩
 rw [hd6, spec_evLeave_l1] at hH
 have hlt8 := drop_ge hd6
 refine AW.seq (AW.region ?_)
 refine AO.pure T rfl rfl rfl ?_
 refine AO.nil (AW.seq ?_)
 refine AW.condF' (b := decide ((k3 : Int) < (x1.length : Int))) rfl (rngF hlt8) ?_
 refine AW.exit ?_
 iterate 2 refine AW.seq ?_
 refine AW.region ?_
 iterate 2 refine AO.pure T rfl rfl rfl ?_
 refine AO.nil ?_
 refine AW.cond (b := (!v10)) rfl (fun hc => ?_) (fun hc => ?_)
 replace hH := condT hc hH
 refine AW.seq (AW.region ?_)
 refine AO.pure T (d := .g [.v (.int .i64 0), .v (.int .i64 0), .v (.int .i64 0), .w 0 [], .w 0 [], .v (.int .i64 0), .w 0 [], .w 0 []]) rfl rfl rfl ?_
 refine AO.step rfl (store_okE T rfl rfl rfl rfl rfl rfl rfl rfl rfl (ds' := [.v (.int .i64 0), .v (.int .i64 0), .v (.int .i64 0), .w 0 [], .w 0 [], .v (.int .i64 0), .w 0 [], .w 0 []]) rfl) ?_
 refine AO.pure T rfl rfl rfl ?_
 refine AO.nil (AW.ret ?_)
 cases someE hH
 exact ⟨trivial, _, [], rfl, .t (expLG_cons (.g (expLC_cons .v (expLC_cons .v (expLC_cons .v (expLC_cons .nilS (expLC_cons .nilS (expLC_cons .v (expLC_cons .nilS (expLC_cons .nilS (expLC_nil)))))))))) (expLG_cons (.c .v) (expLG_nil))), by decide⟩
 replace hH := condF hc hH
 refine AW.skip ?_
 refine AW.seq ?_
 obtain ⟨x12, hx13, hH⟩ := bindE hH
 refine AW.region ?_
 refine AO.pure T (d := .g [.v (.int .i64 e.segments), .v (.int .i64 e.size), .v (.int .i64 e.key), .s (List.map encEntrant e.entrants), .s (List.map encInt e.gone), .v (.int .i64 e.segment), .s (List.map encInt e.order), .s (List.map encResult e.results)]) rfl rfl rfl ?_
 refine AO.step rfl (call_ok rfl 6 rfl rfl rfl (spec_evOwn_ok _ _ (hx13)) rfl rfl rfl) ?_
 refine AO.step rfl (alloc_ok T rfl 10 rfl rfl rfl rfl rfl) ?_
 refine AO.step rfl (store_okE T rfl rfl rfl rfl rfl rfl rfl rfl rfl (ds' := [.v (.int .i64 x12.segments), .v (.int .i64 x12.size), .v (.int .i64 x12.key), .R 6, .R 7, .v (.int .i64 x12.segment), .R 8, .R 9]) rfl) ?_
 refine AO.nil (AW.seq ?_)
 obtain ⟨x14, hx15, hH⟩ := bindE hH
 refine AW.le (Le.freezeM 7 (g := encInt) rfl (fun y => .vs rfl)) ?_
 refine AW.region ?_
 iterate 3 refine AO.pure T rfl rfl rfl ?_
 refine AO.val rfl rfl (callV_ok rfl rfl rfl rfl (spec_l1Put_ok fuel _ _ _ (hx15)) rfl) ?_
 refine AO.pure T rfl rfl rfl ?_
 refine AO.step rfl (store_okE T rfl rfl rfl rfl rfl rfl rfl rfl rfl (ds' := [.v (.int .i64 x12.segments), .v (.int .i64 x12.size), .v (.int .i64 x12.key), .R 6, .s (List.map encInt x14), .v (.int .i64 x12.segment), .R 8, .R 9]) rfl) ?_
 refine AO.nil ?_
 iterate 2 refine AW.seq ?_
 obtain ⟨x16, hx17, hH⟩ := bindE hH
 refine AW.region ?_
 refine AO.pure T (d := .g [.v (.int .i64 e.segments), .v (.int .i64 e.size), .v (.int .i64 e.key), .s (List.map encEntrant e.entrants), .s (List.map encInt e.gone), .v (.int .i64 e.segment), .s (List.map encInt e.order), .s (List.map encResult e.results)]) rfl rfl rfl ?_
 refine AO.pure T rfl rfl rfl ?_
 refine AO.val rfl rfl (callV_ok rfl rfl rfl rfl (spec_evHas_ok _ _ _ (hx17)) rfl) ?_
 refine AO.pure T rfl rfl rfl ?_
 refine AO.nil ?_
 refine AW.cond (b := (!x16)) rfl (fun hc => ?_) (fun hc => ?_)
 replace hH := condT hc hH
 obtain ⟨x18, hx19, hH⟩ := bindE hH
 refine AW.region ?_
 iterate 3 refine AO.pure T rfl rfl rfl ?_
 refine AO.step rfl (callL_ok rfl 11 rfl rfl (es := [.s (List.map encInt x12.order), .v (.int .i64 skater)]) (by exact ⟨(.rowR rfl (.map fun y => .vs rfl)), .free rfl, trivial⟩) (spec_paWithout_ok _ _ _ (hx19)) (zfree_map (fun y => (.cons (zfree_v _) .nil))) rfl rfl rfl) ?_
 refine AO.pure T rfl rfl rfl ?_
 refine AO.step rfl (store_okE T rfl rfl rfl rfl rfl rfl rfl rfl rfl (ds' := [.v (.int .i64 x12.segments), .v (.int .i64 x12.size), .v (.int .i64 x12.key), .R 6, .s (List.map encInt x14), .v (.int .i64 x12.segment), .R 11, .R 9]) rfl) ?_
 refine AO.nil (AW.seq ?_)
 obtain ⟨x20, hx21, hH⟩ := bindE hH
 refine AW.le (Le.freezeM 6 (g := encEntrant) rfl (fun y => .vs rfl)) ?_
 refine AW.le (Le.freezeM 9 (g := encResult) rfl (fun y => frzResult y)) ?_
 refine AW.le (Le.freezeM 11 (g := encInt) rfl (fun y => .vs rfl)) ?_
 refine AW.region ?_
 refine AO.pure T (d := .g [.v (.int .i64 x12.segments), .v (.int .i64 x12.size), .v (.int .i64 x12.key), .s (List.map encEntrant x12.entrants), .s (List.map encInt x14), .v (.int .i64 x12.segment), .s (List.map encInt x18), .s (List.map encResult x12.results)]) rfl rfl rfl ?_
 refine AO.val rfl rfl (callV_ok rfl rfl rfl rfl (spec_evEnd_ok _ _ (hx21)) rfl) ?_
 refine AO.step rfl (store_okE T rfl rfl rfl rfl rfl rfl rfl rfl rfl (ds' := [.v (.int .i64 x20.segments), .v (.int .i64 x20.size), .v (.int .i64 x20.key), .s (List.map encEntrant x20.entrants), .s (List.map encInt x20.gone), .v (.int .i64 x20.segment), .s (List.map encInt x20.order), .s (List.map encResult x20.results)]) rfl) ?_
 refine AO.pure T rfl rfl rfl ?_
 refine AO.nil ?_
 refine AW.le (Le.ct 0 0 (σ' := (⟨[(4, .p 2 0), (5, .v (.bool true))], [(2, .box [.v (.int .i64 x20.segments), .v (.int .i64 x20.size), .v (.int .i64 x20.key), .s (List.map encEntrant x20.entrants), .s (List.map encInt x20.gone), .v (.int .i64 x20.segment), .s (List.map encInt x20.order), .s (List.map encResult x20.results)])], 46, []⟩ : St))) ?_
 refine AW.ret ?_
 cases someE hH
 exact ⟨trivial, _, [], rfl, .t (expLG_cons (.g (expLC_cons .v (expLC_cons .v (expLC_cons .v (expLC_cons .s (expLC_cons .s (expLC_cons .v (expLC_cons .s (expLC_cons .s (expLC_nil)))))))))) (expLG_cons (.c .v) (expLG_nil))), by decide⟩
 replace hH := condF hc hH
 refine AW.skip ?_
 refine AW.seq ?_
 obtain ⟨x22, hx23, hH⟩ := bindE hH
 refine AW.le (Le.freezeM 6 (g := encEntrant) rfl (fun y => .vs rfl)) ?_
 refine AW.le (Le.freezeM 8 (g := encInt) rfl (fun y => .vs rfl)) ?_
 refine AW.le (Le.freezeM 9 (g := encResult) rfl (fun y => frzResult y)) ?_
 refine AW.region ?_
 refine AO.pure T (d := .g [.v (.int .i64 x12.segments), .v (.int .i64 x12.size), .v (.int .i64 x12.key), .s (List.map encEntrant x12.entrants), .s (List.map encInt x14), .v (.int .i64 x12.segment), .s (List.map encInt x12.order), .s (List.map encResult x12.results)]) rfl rfl rfl ?_
 refine AO.val rfl rfl (callV_ok rfl rfl rfl rfl (spec_evEnd_ok _ _ (hx23)) rfl) ?_
 refine AO.step rfl (store_okE T rfl rfl rfl rfl rfl rfl rfl rfl rfl (ds' := [.v (.int .i64 x22.segments), .v (.int .i64 x22.size), .v (.int .i64 x22.key), .s (List.map encEntrant x22.entrants), .s (List.map encInt x22.gone), .v (.int .i64 x22.segment), .s (List.map encInt x22.order), .s (List.map encResult x22.results)]) rfl) ?_
 refine AO.pure T rfl rfl rfl ?_
 refine AO.nil (AW.ret ?_)
 cases someE hH
 exact ⟨trivial, _, [], rfl, .t (expLG_cons (.g (expLC_cons .v (expLC_cons .v (expLC_cons .v (expLC_cons .s (expLC_cons .s (expLC_cons .v (expLC_cons .s (expLC_cons .s (expLC_nil)))))))))) (expLG_cons (.c .v) (expLG_nil))), by decide⟩
 rw [hd6, spec_evLeave_l1] at hH
 have hlt8 := drop_lt hd6
 refine AW.seq (AW.region ?_)
 refine AO.pure T rfl rfl rfl ?_
 refine AO.nil (AW.seq ?_)
 refine AW.condT' (b := decide ((k3 : Int) < (x1.length : Int))) rfl (rngT hlt8) ?_
 refine AW.skip ?_
 refine AW.seq ?_
 refine AW.block ?_
 refine AW.seq (AW.region ?_)
 refine AO.val rfl rfl (ix_row_ok T rfl rfl rfl rfl rfl rfl (getI_drop hd6)) ?_
 refine AO.val rfl rfl (load_row_ok T rfl rfl rfl rfl (getI_get (getI_drop hd6)) rfl rfl rfl) ?_
 refine AO.step rfl (alloc_ok T rfl 12 rfl rfl rfl rfl rfl) ?_
 refine AO.step rfl (store_okE T rfl rfl rfl rfl rfl rfl rfl rfl rfl (ds' := [.v (.int .i64 y4.skater), .v (.int .i64 y4.rank)]) rfl) ?_
 refine AO.nil ?_
 refine AW.region ?_
 iterate 2 refine AO.pure T rfl rfl rfl ?_
 refine AO.pureG T [] rfl trivial rfl rfl ?_
 refine AO.pureG T [19] rfl ⟨fun h => h, trivial⟩ rfl rfl ?_
 refine AO.pureG T [] rfl trivial rfl rfl ?_
 refine AO.pureG T [20, 21] rfl ⟨fun h => h, fun h => h, trivial⟩ rfl rfl ?_
 refine AO.val rfl rfl (pick_or rfl rfl rfl rfl) ?_
 refine AO.pure T rfl rfl rfl ?_
 refine AO.nil ?_
 refine AW.region ?_
 refine AO.val rfl rfl (ar_ok rfl rfl rfl rfl (inI_succ hlt8 hb7)) ?_
 refine AO.pure T rfl rfl rfl ?_
 refine AO.nil ?_
 refine ⟨(k3 + 1, (v10 || (y4.skater == skater))), ⟨Nat.succ_le_of_lt hlt8, (by rw [drop_succ_of hd6]; exact hH)⟩, (by have := hlt8; dsimp only; omega), ?_⟩
 exact Le.ct 0 0

def spec_evNext_l1 (e : Event) : List Int → Nat → Option Int
  | [], k1 =>
    some 0
  | y2 :: ys3, k1 =>
    (spec_evHas_p e y2).bind fun x12 =>
    cond (!x12)
      (some y2)
      (spec_evNext_l1 e ys3 (k1 + 1))
def spec_evNext_p (e : Event) : Option Int :=
  spec_evNext_l1 e e.order 0
theorem spec_evNext_ok (e : Event) (r : Int) (hH : spec_evNext_p e = some r) : SpecR Tryz.prog 81 [.g (encEvent e)] (.v (.int .i64 r)) := by
 refine fn_ok T Tryz.func81 rfl (by decide) rfl ?_
 refine AW.seq (AW.region ?_)
 refine AO.step rfl (box_ok T rfl 1 rfl rfl rfl rfl) ?_
 refine AO.pure T rfl rfl rfl ?_
 refine AO.nil ?_
 iterate 2 refine AW.seq ?_
 refine AW.region ?_
 iterate 2 refine AO.pure T rfl rfl rfl ?_
 refine AO.val rfl rfl (len_map_ok T rfl rfl rfl) ?_
 refine AO.pure T rfl rfl rfl ?_
 refine AO.nil ?_
 refine AW.block ?_
 refine AW.loopS (fun s : Nat => (⟨[(1, .p 1 0), (6, .s (List.map encInt e.order)), (7, .v (.int .i64 (e.order.length : Int))), (8, .v (.int .i64 (s : Int)))], [(1, .box [.v (.int .i64 e.segments), .v (.int .i64 e.size), .v (.int .i64 e.key), .s (List.map encEntrant e.entrants), .s (List.map encInt e.gone), .v (.int .i64 e.segment), .s (List.map encInt e.order), .s (List.map encResult e.results)])], 18, []⟩ : St)) (fun s => s ≤ e.order.length ∧ spec_evNext_l1 e (e.order.drop s) s = some r) (fun s => e.order.length - s) 0 ⟨Nat.zero_le _, hH⟩ ?_ ?_
 exact Le.ct 0 0
 rintro k1 ⟨hk, hH⟩
 replace hH : spec_evNext_l1 e (e.order.drop k1) k1 = some r := hH
 show AW _ _ _ (⟨[(1, .p 1 0), (6, .s (List.map encInt e.order)), (7, .v (.int .i64 (e.order.length : Int))), (8, .v (.int .i64 (k1 : Int)))], [(1, .box [.v (.int .i64 e.segments), .v (.int .i64 e.size), .v (.int .i64 e.key), .s (List.map encEntrant e.entrants), .s (List.map encInt e.gone), .v (.int .i64 e.segment), .s (List.map encInt e.order), .s (List.map encResult e.results)])], 18, []⟩ : St)
 refine AW.boundM (t := 6) (l := e.order) rfl (fun hb5 => ?_)
 rcases hd4 : e.order.drop k1 with _ | ⟨y2, ys3⟩
 rw [hd4, spec_evNext_l1] at hH
 have hlt6 := drop_ge hd4
 refine AW.seq (AW.region ?_)
 refine AO.pure T rfl rfl rfl ?_
 refine AO.nil (AW.seq ?_)
 refine AW.condF' (b := decide ((k1 : Int) < (e.order.length : Int))) rfl (rngF hlt6) ?_
 refine AW.exit ?_
 refine AW.seq (AW.region ?_)
 refine AO.pure T rfl rfl rfl ?_
 refine AO.nil (AW.ret ?_)
 cases someE hH
 exact ⟨trivial, _, [], rfl, .c (.c .v), by decide⟩
 rw [hd4, spec_evNext_l1] at hH
 have hlt6 := drop_lt hd4
 refine AW.seq (AW.region ?_)
 refine AO.pure T rfl rfl rfl ?_
 refine AO.nil (AW.seq ?_)
 refine AW.condT' (b := decide ((k1 : Int) < (e.order.length : Int))) rfl (rngT hlt6) ?_
 refine AW.skip ?_
 refine AW.seq ?_
 refine AW.block ?_
 refine AW.seq (AW.region ?_)
 refine AO.val rfl rfl (ix_map_ok T rfl rfl rfl rfl rfl (getI_drop hd4) rfl) ?_
 iterate 2 refine AO.pure T rfl rfl rfl ?_
 refine AO.nil (AW.seq ?_)
 obtain ⟨x12, hx13, hH⟩ := bindE hH
 refine AW.region ?_
 refine AO.pure T (d := .g [.v (.int .i64 e.segments), .v (.int .i64 e.size), .v (.int .i64 e.key), .s (List.map encEntrant e.entrants), .s (List.map encInt e.gone), .v (.int .i64 e.segment), .s (List.map encInt e.order), .s (List.map encResult e.results)]) rfl rfl rfl ?_
 refine AO.pure T rfl rfl rfl ?_
 refine AO.val rfl rfl (callV_ok rfl rfl rfl rfl (spec_evHas_ok _ _ _ (hx13)) rfl) ?_
 refine AO.pure T rfl rfl rfl ?_
 refine AO.nil ?_
 refine AW.cond (b := (!x12)) rfl (fun hc => ?_) (fun hc => ?_)
 replace hH := condT hc hH
 refine AW.seq (AW.region ?_)
 iterate 2 refine AO.pure T rfl rfl rfl ?_
 refine AO.nil (AW.ret ?_)
 cases someE hH
 exact ⟨trivial, _, [], rfl, .c (.c .v), by decide⟩
 replace hH := condF hc hH
 refine AW.skip ?_
 refine AW.region ?_
 refine AO.val rfl rfl (ar_ok rfl rfl rfl rfl (inI_succ hlt6 hb5)) ?_
 refine AO.pure T rfl rfl rfl ?_
 refine AO.nil ?_
 refine ⟨k1 + 1, ⟨Nat.succ_le_of_lt hlt6, (by rw [drop_succ_of hd4]; exact hH)⟩, (by have := hlt6; dsimp only; omega), ?_⟩
 exact Le.ct 0 0

def spec_evScore_l1 (e : Event) (score : Int) (x1 : Int) (x5 : Event) : Nat → List Result → List Result → Int → Option ((Event × Bool))
  | 0, _, _, _ => none
  | k7 + 1, v19, v20, v21 =>
    cond (decide (v21 < (x5.results.length : Int)))
      ((getI v20 v21).bind fun x23 =>
      cond (x23.skater == x1)
        ((getI x23.scores e.segment).bind fun x25 =>
        spec_evScore_l1 e score x1 x5 k7 (v20.set v21.toNat (Result.mk x23.skater (x23.scores.set e.segment.toNat score))) (v20.set v21.toNat (Result.mk x23.skater (x23.scores.set e.segment.toNat score))) (w64 (v21 + 1)))
        (spec_evScore_l1 e score x1 x5 k7 (v20.set v21.toNat x23) (v20.set v21.toNat x23) (w64 (v21 + 1))))
      ((spec_evEnd_p (Event.mk x5.segments x5.size x5.key x5.entrants x5.gone x5.segment x5.order v20)).bind fun x27 =>
      some (x27, true))
def spec_evScore_p (fuel : Nat) (e : Event) (score : Int) : Option (Event × Bool) :=
  (spec_evNext_p e).bind fun x1 =>
  (opt (!(x1 == 0)) default (spec_l1In_p score 0 100000)).bind fun x3 =>
  cond ((x1 == 0) || (!x3))
    (some ((Event.mk 0 0 0 [] [] 0 [] []), false))
    ((spec_evOwn_p e).bind fun x5 =>
    spec_evScore_l1 e score x1 x5 fuel x5.results x5.results 0)
theorem spec_evScore_ok (fuel : Nat) (e : Event) (score : Int) (r : (Event × Bool)) (hH : spec_evScore_p fuel e score = some r) : SpecR Tryz.prog 130 [.g (encEvent e), .v (.int .i64 score)] (.t [.g (encEvent r.1), .v (.bool r.2)]) := by
 refine fn_ok T Tryz.func130 rfl (by decide) rfl ?_
 refine AW.seq (AW.region ?_)
 refine AO.step rfl (box_ok T rfl 1 rfl rfl rfl rfl) ?_
 refine AO.step rfl (alloc_ok T rfl 2 rfl rfl rfl rfl rfl) ?_
 refine AO.pure T rfl rfl rfl ?_
 refine AO.nil (AW.seq ?_)
 obtain ⟨x1, hx2, hH⟩ := bindE hH
 refine AW.region ?_
 refine AO.pure T (d := .g [.v (.int .i64 e.segments), .v (.int .i64 e.size), .v (.int .i64 e.key), .s (List.map encEntrant e.entrants), .s (List.map encInt e.gone), .v (.int .i64 e.segment), .s (List.map encInt e.order), .s (List.map encResult e.results)]) rfl rfl rfl ?_
 refine AO.val rfl rfl (callV_ok rfl rfl rfl rfl (spec_evNext_ok _ _ (hx2)) rfl) ?_
 refine AO.pure T rfl rfl rfl ?_
 refine AO.nil ?_
 iterate 2 refine AW.seq ?_
 obtain ⟨x3, hx4, hH⟩ := bindE hH
 refine AW.region ?_
 iterate 3 refine AO.pure T rfl rfl rfl ?_
 refine AO.pureG T [] rfl trivial rfl rfl ?_
 refine AO.guard [15] rfl ⟨fun h => h, trivial⟩ (fun hg => callV_ok rfl rfl rfl rfl (spec_l1In_ok _ _ _ _ (optT hx4 hg)) rfl) rfl ?_
 refine AO.pureG T [16] rfl ⟨fun h => h, trivial⟩ rfl rfl ?_
 refine AO.val rfl rfl (pick_or rfl rfl rfl rfl) ?_
 refine AO.nil ?_
 refine AW.cond (b := ((x1 == 0) || (!x3))) rfl (fun hc => ?_) (fun hc => ?_)
 replace hH := condT hc hH
 refine AW.seq (AW.region ?_)
 refine AO.pure T (d := .g [.v (.int .i64 0), .v (.int .i64 0), .v (.int .i64 0), .w 0 [], .w 0 [], .v (.int .i64 0), .w 0 [], .w 0 []]) rfl rfl rfl ?_
 refine AO.step rfl (store_okE T rfl rfl rfl rfl rfl rfl rfl rfl rfl (ds' := [.v (.int .i64 0), .v (.int .i64 0), .v (.int .i64 0), .w 0 [], .w 0 [], .v (.int .i64 0), .w 0 [], .w 0 []]) rfl) ?_
 refine AO.pure T rfl rfl rfl ?_
 refine AO.nil (AW.ret ?_)
 cases someE hH
 exact ⟨trivial, _, [], rfl, .t (expLG_cons (.g (expLC_cons .v (expLC_cons .v (expLC_cons .v (expLC_cons .nilS (expLC_cons .nilS (expLC_cons .v (expLC_cons .nilS (expLC_cons .nilS (expLC_nil)))))))))) (expLG_cons (.c .v) (expLG_nil))), by decide⟩
 replace hH := condF hc hH
 refine AW.skip ?_
 refine AW.seq ?_
 obtain ⟨x5, hx6, hH⟩ := bindE hH
 refine AW.region ?_
 refine AO.pure T (d := .g [.v (.int .i64 e.segments), .v (.int .i64 e.size), .v (.int .i64 e.key), .s (List.map encEntrant e.entrants), .s (List.map encInt e.gone), .v (.int .i64 e.segment), .s (List.map encInt e.order), .s (List.map encResult e.results)]) rfl rfl rfl ?_
 refine AO.step rfl (call_ok rfl 3 rfl rfl rfl (spec_evOwn_ok _ _ (hx6)) rfl rfl rfl) ?_
 refine AO.step rfl (alloc_ok T rfl 7 rfl rfl rfl rfl rfl) ?_
 refine AO.step rfl (store_okE T rfl rfl rfl rfl rfl rfl rfl rfl rfl (ds' := [.v (.int .i64 x5.segments), .v (.int .i64 x5.size), .v (.int .i64 x5.key), .R 3, .R 4, .v (.int .i64 x5.segment), .R 5, .R 6]) rfl) ?_
 refine AO.nil ?_
 iterate 2 refine AW.seq ?_
 refine AW.region ?_
 iterate 2 refine AO.pure T rfl rfl rfl ?_
 refine AO.val rfl rfl (len_row_ok T rfl rfl rfl rfl) ?_
 refine AO.pure T rfl rfl rfl ?_
 refine AO.nil ?_
 refine AW.block ?_
 refine AW.loopS (fun s : Nat × (List Result) × (List Result) × Int => (⟨[(1, .v (.int .i64 score)), (2, .p 1 0), (4, .p 2 0), (6, .v (.int .i64 x1)), (7, .p 7 0), (23, .R 6), (24, .v (.int .i64 (x5.results.length : Int))), (25, .v (.int .i64 s.2.2.2))], [(1, .box [.v (.int .i64 e.segments), .v (.int .i64 e.size), .v (.int .i64 e.key), .s (List.map encEntrant e.entrants), .s (List.map encInt e.gone), .v (.int .i64 e.segment), .s (List.map encInt e.order), .s (List.map encResult e.results)]), (2, .box [.v (.int .i64 0), .v (.int .i64 0), .v (.int .i64 0), .w 0 [], .w 0 [], .v (.int .i64 0), .w 0 [], .w 0 []]), (3, .row 2 (List.map encEntrant x5.entrants)), (4, .row 1 (List.map encInt x5.gone)), (5, .row 1 (List.map encInt x5.order)), (6, .row 2 (List.map encResultO s.2.2.1)), (7, .box [.v (.int .i64 x5.segments), .v (.int .i64 x5.size), .v (.int .i64 x5.key), .R 3, .R 4, .v (.int .i64 x5.segment), .R 5, .R 6])], 42, []⟩ : St)) (fun s => spec_evScore_l1 e score x1 x5 s.1 s.2.1 s.2.2.1 s.2.2.2 = some r) (fun s => s.1) (fuel, x5.results, x5.results, 0) hH ?_ ?_
 exact Le.ct 0 0
 rintro ⟨k7, v19, v20, v21⟩ hH
 replace hH : spec_evScore_l1 e score x1 x5 k7 v19 v20 v21 = some r := hH
 show AW _ _ _ (⟨[(1, .v (.int .i64 score)), (2, .p 1 0), (4, .p 2 0), (6, .v (.int .i64 x1)), (7, .p 7 0), (23, .R 6), (24, .v (.int .i64 (x5.results.length : Int))), (25, .v (.int .i64 v21))], [(1, .box [.v (.int .i64 e.segments), .v (.int .i64 e.size), .v (.int .i64 e.key), .s (List.map encEntrant e.entrants), .s (List.map encInt e.gone), .v (.int .i64 e.segment), .s (List.map encInt e.order), .s (List.map encResult e.results)]), (2, .box [.v (.int .i64 0), .v (.int .i64 0), .v (.int .i64 0), .w 0 [], .w 0 [], .v (.int .i64 0), .w 0 [], .w 0 []]), (3, .row 2 (List.map encEntrant x5.entrants)), (4, .row 1 (List.map encInt x5.gone)), (5, .row 1 (List.map encInt x5.order)), (6, .row 2 (List.map encResultO v20)), (7, .box [.v (.int .i64 x5.segments), .v (.int .i64 x5.size), .v (.int .i64 x5.key), .R 3, .R 4, .v (.int .i64 x5.segment), .R 5, .R 6])], 42, []⟩ : St)
 rcases k7 with _ | k7
 cases (show none = some _ from hH)
 rw [spec_evScore_l1] at hH
 refine AW.seq (AW.region ?_)
 refine AO.pure T rfl rfl rfl ?_
 refine AO.nil (AW.seq ?_)
 refine AW.cond (b := decide (v21 < (x5.results.length : Int))) rfl (fun hc => ?_) (fun hc => ?_)
 replace hH := condT hc hH
 refine AW.skip ?_
 refine AW.seq ?_
 refine AW.block ?_
 refine AW.seq ?_
 obtain ⟨x23, hx24, hH⟩ := bindE hH
 refine AW.le (Le.openM 6 v21.toNat 1 12 rfl (getI_get (hx24)) rfl rfl) ?_
 refine AW.region ?_
 refine AO.val rfl rfl (ix_lent_ok T rfl rfl rfl rfl rfl rfl (hx24)) ?_
 refine AO.val rfl rfl (load_lentS_ok T rfl rfl rfl rfl rfl (getI_get (hx24)) rfl rfl rfl) ?_
 refine AO.step rfl (alloc_ok T rfl 13 rfl rfl rfl rfl rfl) ?_
 refine AO.step rfl (store_okE T rfl rfl rfl rfl rfl rfl rfl rfl rfl (ds' := [.v (.int .i64 x23.skater), .R 12]) rfl) ?_
 refine AO.nil (AW.seq ?_)
 refine AW.region ?_
 iterate 4 refine AO.pure T rfl rfl rfl ?_
 refine AO.nil ?_
 refine AW.cond (b := (x23.skater == x1)) rfl (fun hc => ?_) (fun hc => ?_)
 replace hH := condT hc hH
 obtain ⟨x25, hx26, hH⟩ := bindE hH
 refine AW.region ?_
 iterate 5 refine AO.pure T rfl rfl rfl ?_
 refine AO.val rfl rfl (ix_row_ok T rfl rfl rfl rfl rfl rfl (hx26)) ?_
 refine AO.step rfl (store_row_ok T rfl rfl rfl rfl rfl (getI_get (hx26)) rfl rfl rfl rfl (u' := score) rfl rfl) ?_
 refine AO.le (Le.closeM 6 v21.toNat 1 12 rfl rfl (getI_get (hx24)) rfl (u' := (Result.mk x23.skater (x23.scores.set e.segment.toNat score))) rfl) ?_
 refine AO.nil ?_
 refine AW.region ?_
 refine AO.val rfl rfl (arw_ok rfl rfl rfl rfl) ?_
 refine AO.pure T rfl rfl rfl ?_
 refine AO.nil ?_
 refine ⟨(k7, (v20.set v21.toNat (Result.mk x23.skater (x23.scores.set e.segment.toNat score))), (v20.set v21.toNat (Result.mk x23.skater (x23.scores.set e.segment.toNat score))), w64 (v21 + 1)), hH, Nat.lt_succ_self _, ?_⟩
 exact Le.ct 0 0
 replace hH := condF hc hH
 refine AW.skip ?_
 refine AW.region ?_
 refine AO.val rfl rfl (arw_ok rfl rfl rfl rfl) ?_
 refine AO.pure T rfl rfl rfl ?_
 refine AO.le (Le.closeM 6 v21.toNat 1 12 rfl rfl (getI_get (hx24)) rfl (u' := x23) rfl) ?_
 refine AO.nil ?_
 refine ⟨(k7, (v20.set v21.toNat x23), (v20.set v21.toNat x23), w64 (v21 + 1)), hH, Nat.lt_succ_self _, ?_⟩
 exact Le.ct 0 0
 replace hH := condF hc hH
 refine AW.exit ?_
 refine AW.seq ?_
 obtain ⟨x27, hx28, hH⟩ := bindE hH
 refine AW.le (Le.freezeM 3 (g := encEntrant) rfl (fun y => .vs rfl)) ?_
 refine AW.le (Le.freezeM 4 (g := encInt) rfl (fun y => .vs rfl)) ?_
 refine AW.le (Le.freezeM 5 (g := encInt) rfl (fun y => .vs rfl)) ?_
 refine AW.le (Le.freezeM 6 (g := encResult) rfl (fun y => frzResult y)) ?_
 refine AW.region ?_
 refine AO.pure T (d := .g [.v (.int .i64 x5.segments), .v (.int .i64 x5.size), .v (.int .i64 x5.key), .s (List.map encEntrant x5.entrants), .s (List.map encInt x5.gone), .v (.int .i64 x5.segment), .s (List.map encInt x5.order), .s (List.map encResult v20)]) rfl rfl rfl ?_
 refine AO.val rfl rfl (callV_ok rfl rfl rfl rfl (spec_evEnd_ok _ _ (hx28)) rfl) ?_
 refine AO.step rfl (store_okE T rfl rfl rfl rfl rfl rfl rfl rfl rfl (ds' := [.v (.int .i64 x27.segments), .v (.int .i64 x27.size), .v (.int .i64 x27.key), .s (List.map encEntrant x27.entrants), .s (List.map encInt x27.gone), .v (.int .i64 x27.segment), .s (List.map encInt x27.order), .s (List.map encResult x27.results)]) rfl) ?_
 refine AO.pure T rfl rfl rfl ?_
 refine AO.nil (AW.ret ?_)
 cases someE hH
 exact ⟨trivial, _, [], rfl, .t (expLG_cons (.g (expLC_cons .v (expLC_cons .v (expLC_cons .v (expLC_cons .s (expLC_cons .s (expLC_cons .v (expLC_cons .s (expLC_cons .s (expLC_nil)))))))))) (expLG_cons (.c .v) (expLG_nil))), by decide⟩

def spec_evStep_p (fuel : Nat) (e : Event) (sA : Step) : Option (Event × Bool) :=
  cond (e.segment == e.segments)
    (some ((Event.mk 0 0 0 [] [] 0 [] []), false))
    (cond (sA.kind == 1)
      ((spec_evEnter_p fuel e (Entrant.mk sA.skater sA.number)).bind fun x1 =>
      some ((Event.mk x1.1.segments x1.1.size x1.1.key x1.1.entrants x1.1.gone x1.1.segment x1.1.order x1.1.results), x1.2))
      (cond (sA.kind == 2)
        ((spec_evLeave_p fuel e sA.skater).bind fun x3 =>
        some ((Event.mk x3.1.segments x3.1.size x3.1.key x3.1.entrants x3.1.gone x3.1.segment x3.1.order x3.1.results), x3.2))
        (cond (sA.kind == 3)
          ((spec_evDraw_p fuel e).bind fun x5 =>
          some ((Event.mk x5.1.segments x5.1.size x5.1.key x5.1.entrants x5.1.gone x5.1.segment x5.1.order x5.1.results), x5.2))
          (cond (sA.kind == 4)
            ((spec_evScore_p fuel e sA.number).bind fun x7 =>
            some ((Event.mk x7.1.segments x7.1.size x7.1.key x7.1.entrants x7.1.gone x7.1.segment x7.1.order x7.1.results), x7.2))
            (some ((Event.mk 0 0 0 [] [] 0 [] []), false))))))
theorem spec_evStep_ok (fuel : Nat) (e : Event) (sA : Step) (r : (Event × Bool)) (hH : spec_evStep_p fuel e sA = some r) : SpecR Tryz.prog 75 [.g (encEvent e), .g (encStep sA)] (.t [.g (encEvent r.1), .v (.bool r.2)]) := by
 refine fn_ok T Tryz.func75 rfl (by decide) rfl ?_
 refine AW.seq (AW.region ?_)
 refine AO.step rfl (box_ok T rfl 1 rfl rfl rfl rfl) ?_
 refine AO.step rfl (box_ok T rfl 2 rfl rfl rfl rfl) ?_
 refine AO.step rfl (alloc_ok T rfl 3 rfl rfl rfl rfl rfl) ?_
 refine AO.pure T rfl rfl rfl ?_
 refine AO.nil ?_
 iterate 2 refine AW.seq ?_
 refine AW.region ?_
 iterate 5 refine AO.pure T rfl rfl rfl ?_
 refine AO.nil ?_
 refine AW.cond (b := (e.segment == e.segments)) rfl (fun hc => ?_) (fun hc => ?_)
 replace hH := condT hc hH
 refine AW.seq (AW.region ?_)
 refine AO.pure T (d := .g [.v (.int .i64 0), .v (.int .i64 0), .v (.int .i64 0), .w 0 [], .w 0 [], .v (.int .i64 0), .w 0 [], .w 0 []]) rfl rfl rfl ?_
 refine AO.step rfl (store_okE T rfl rfl rfl rfl rfl rfl rfl rfl rfl (ds' := [.v (.int .i64 0), .v (.int .i64 0), .v (.int .i64 0), .w 0 [], .w 0 [], .v (.int .i64 0), .w 0 [], .w 0 []]) rfl) ?_
 refine AO.pure T rfl rfl rfl ?_
 refine AO.nil (AW.ret ?_)
 cases someE hH
 exact ⟨trivial, _, [], rfl, .t (expLG_cons (.g (expLC_cons .v (expLC_cons .v (expLC_cons .v (expLC_cons .nilS (expLC_cons .nilS (expLC_cons .v (expLC_cons .nilS (expLC_cons .nilS (expLC_nil)))))))))) (expLG_cons (.c .v) (expLG_nil))), by decide⟩
 replace hH := condF hc hH
 refine AW.skip ?_
 iterate 2 refine AW.seq ?_
 refine AW.region ?_
 iterate 2 refine AO.pure T rfl rfl rfl ?_
 refine AO.nil ?_
 refine AW.block ?_
 refine AW.seq (AW.region ?_)
 iterate 2 refine AO.pure T rfl rfl rfl ?_
 refine AO.nil ?_
 refine AW.cond (b := (sA.kind == 1)) rfl (fun hc => ?_) (fun hc => ?_)
 replace hH := condT hc hH
 refine AW.seq ?_
 obtain ⟨x1, hx2, hH⟩ := bindE hH
 refine AW.region ?_
 refine AO.pure T (d := .g [.v (.int .i64 e.segments), .v (.int .i64 e.size), .v (.int .i64 e.key), .s (List.map encEntrant e.entrants), .s (List.map encInt e.gone), .v (.int .i64 e.segment), .s (List.map encInt e.order), .s (List.map encResult e.results)]) rfl rfl rfl ?_
 iterate 4 refine AO.pure T rfl rfl rfl ?_
 refine AO.pure T (d := .g [.v (.int .i64 sA.skater), .v (.int .i64 sA.number)]) rfl rfl rfl ?_
 refine AO.step rfl (call_ok rfl 4 rfl rfl rfl (spec_evEnter_ok fuel _ _ _ (hx2)) rfl rfl rfl) ?_
 refine AO.pure T (d := .g [.v (.int .i64 x1.1.segments), .v (.int .i64 x1.1.size), .v (.int .i64 x1.1.key), .R 4, .R 5, .v (.int .i64 x1.1.segment), .R 6, .R 7]) rfl rfl rfl ?_
 refine AO.pure T rfl rfl rfl ?_
 refine AO.step rfl (store_okE T rfl rfl rfl rfl rfl rfl rfl rfl rfl (ds' := [.v (.int .i64 x1.1.segments), .v (.int .i64 x1.1.size), .v (.int .i64 x1.1.key), .R 4, .R 5, .v (.int .i64 x1.1.segment), .R 6, .R 7]) rfl) ?_
 refine AO.pure T rfl rfl rfl ?_
 refine AO.nil ?_
 refine AW.le (Le.ct 0 0 (σ' := (⟨[(4, .p 3 0), (5, .v (.bool x1.2))], [(3, .box [.v (.int .i64 x1.1.segments), .v (.int .i64 x1.1.size), .v (.int .i64 x1.1.key), .R 4, .R 5, .v (.int .i64 x1.1.segment), .R 6, .R 7]), (4, .row 2 (List.map encEntrant x1.1.entrants)), (5, .row 1 (List.map encInt x1.1.gone)), (6, .row 1 (List.map encInt x1.1.order)), (7, .row 2 (List.map encResultO x1.1.results))], 48, []⟩ : St))) ?_
 refine AW.le (Le.freezeM 7 (g := encResult) rfl (fun y => frzResult y)) ?_
 refine AW.le (Le.freezeM 6 (g := encInt) rfl (fun y => .vs rfl)) ?_
 refine AW.le (Le.freezeM 5 (g := encInt) rfl (fun y => .vs rfl)) ?_
 refine AW.le (Le.freezeM 4 (g := encEntrant) rfl (fun y => .vs rfl)) ?_
 refine AW.ret ?_
 cases someE hH
 exact ⟨trivial, _, [], rfl, .t (expLG_cons (.g (expLC_cons .v (expLC_cons .v (expLC_cons .v (expLC_cons .s (expLC_cons .s (expLC_cons .v (expLC_cons .s (expLC_cons .s (expLC_nil)))))))))) (expLG_cons (.c .v) (expLG_nil))), by decide⟩
 replace hH := condF hc hH
 refine AW.seq (AW.region ?_)
 iterate 2 refine AO.pure T rfl rfl rfl ?_
 refine AO.nil ?_
 refine AW.cond (b := (sA.kind == 2)) rfl (fun hc => ?_) (fun hc => ?_)
 replace hH := condT hc hH
 refine AW.seq ?_
 obtain ⟨x3, hx4, hH⟩ := bindE hH
 refine AW.region ?_
 refine AO.pure T (d := .g [.v (.int .i64 e.segments), .v (.int .i64 e.size), .v (.int .i64 e.key), .s (List.map encEntrant e.entrants), .s (List.map encInt e.gone), .v (.int .i64 e.segment), .s (List.map encInt e.order), .s (List.map encResult e.results)]) rfl rfl rfl ?_
 iterate 2 refine AO.pure T rfl rfl rfl ?_
 refine AO.val rfl rfl (callV_ok rfl rfl rfl rfl (spec_evLeave_ok fuel _ _ _ (hx4)) rfl) ?_
 refine AO.pure T (d := .g [.v (.int .i64 x3.1.segments), .v (.int .i64 x3.1.size), .v (.int .i64 x3.1.key), .s (List.map encEntrant x3.1.entrants), .s (List.map encInt x3.1.gone), .v (.int .i64 x3.1.segment), .s (List.map encInt x3.1.order), .s (List.map encResult x3.1.results)]) rfl rfl rfl ?_
 refine AO.pure T rfl rfl rfl ?_
 refine AO.step rfl (store_okE T rfl rfl rfl rfl rfl rfl rfl rfl rfl (ds' := [.v (.int .i64 x3.1.segments), .v (.int .i64 x3.1.size), .v (.int .i64 x3.1.key), .s (List.map encEntrant x3.1.entrants), .s (List.map encInt x3.1.gone), .v (.int .i64 x3.1.segment), .s (List.map encInt x3.1.order), .s (List.map encResult x3.1.results)]) rfl) ?_
 refine AO.pure T rfl rfl rfl ?_
 refine AO.nil (AW.ret ?_)
 cases someE hH
 exact ⟨trivial, _, [], rfl, .t (expLG_cons (.g (expLC_cons .v (expLC_cons .v (expLC_cons .v (expLC_cons .s (expLC_cons .s (expLC_cons .v (expLC_cons .s (expLC_cons .s (expLC_nil)))))))))) (expLG_cons (.c .v) (expLG_nil))), by decide⟩
 replace hH := condF hc hH
 refine AW.seq (AW.region ?_)
 iterate 2 refine AO.pure T rfl rfl rfl ?_
 refine AO.nil ?_
 refine AW.cond (b := (sA.kind == 3)) rfl (fun hc => ?_) (fun hc => ?_)
 replace hH := condT hc hH
 refine AW.seq ?_
 obtain ⟨x5, hx6, hH⟩ := bindE hH
 refine AW.region ?_
 refine AO.pure T (d := .g [.v (.int .i64 e.segments), .v (.int .i64 e.size), .v (.int .i64 e.key), .s (List.map encEntrant e.entrants), .s (List.map encInt e.gone), .v (.int .i64 e.segment), .s (List.map encInt e.order), .s (List.map encResult e.results)]) rfl rfl rfl ?_
 refine AO.val rfl rfl (callV_ok rfl rfl rfl rfl (spec_evDraw_ok fuel _ _ (hx6)) rfl) ?_
 refine AO.pure T (d := .g [.v (.int .i64 x5.1.segments), .v (.int .i64 x5.1.size), .v (.int .i64 x5.1.key), .s (List.map encEntrant x5.1.entrants), .s (List.map encInt x5.1.gone), .v (.int .i64 x5.1.segment), .s (List.map encInt x5.1.order), .s (List.map encResult x5.1.results)]) rfl rfl rfl ?_
 refine AO.pure T rfl rfl rfl ?_
 refine AO.step rfl (store_okE T rfl rfl rfl rfl rfl rfl rfl rfl rfl (ds' := [.v (.int .i64 x5.1.segments), .v (.int .i64 x5.1.size), .v (.int .i64 x5.1.key), .s (List.map encEntrant x5.1.entrants), .s (List.map encInt x5.1.gone), .v (.int .i64 x5.1.segment), .s (List.map encInt x5.1.order), .s (List.map encResult x5.1.results)]) rfl) ?_
 refine AO.pure T rfl rfl rfl ?_
 refine AO.nil (AW.ret ?_)
 cases someE hH
 exact ⟨trivial, _, [], rfl, .t (expLG_cons (.g (expLC_cons .v (expLC_cons .v (expLC_cons .v (expLC_cons .s (expLC_cons .s (expLC_cons .v (expLC_cons .s (expLC_cons .s (expLC_nil)))))))))) (expLG_cons (.c .v) (expLG_nil))), by decide⟩
 replace hH := condF hc hH
 refine AW.seq (AW.region ?_)
 iterate 2 refine AO.pure T rfl rfl rfl ?_
 refine AO.nil ?_
 refine AW.cond (b := (sA.kind == 4)) rfl (fun hc => ?_) (fun hc => ?_)
 replace hH := condT hc hH
 refine AW.seq ?_
 obtain ⟨x7, hx8, hH⟩ := bindE hH
 refine AW.region ?_
 refine AO.pure T (d := .g [.v (.int .i64 e.segments), .v (.int .i64 e.size), .v (.int .i64 e.key), .s (List.map encEntrant e.entrants), .s (List.map encInt e.gone), .v (.int .i64 e.segment), .s (List.map encInt e.order), .s (List.map encResult e.results)]) rfl rfl rfl ?_
 iterate 2 refine AO.pure T rfl rfl rfl ?_
 refine AO.val rfl rfl (callV_ok rfl rfl rfl rfl (spec_evScore_ok fuel _ _ _ (hx8)) rfl) ?_
 refine AO.pure T (d := .g [.v (.int .i64 x7.1.segments), .v (.int .i64 x7.1.size), .v (.int .i64 x7.1.key), .s (List.map encEntrant x7.1.entrants), .s (List.map encInt x7.1.gone), .v (.int .i64 x7.1.segment), .s (List.map encInt x7.1.order), .s (List.map encResult x7.1.results)]) rfl rfl rfl ?_
 refine AO.pure T rfl rfl rfl ?_
 refine AO.step rfl (store_okE T rfl rfl rfl rfl rfl rfl rfl rfl rfl (ds' := [.v (.int .i64 x7.1.segments), .v (.int .i64 x7.1.size), .v (.int .i64 x7.1.key), .s (List.map encEntrant x7.1.entrants), .s (List.map encInt x7.1.gone), .v (.int .i64 x7.1.segment), .s (List.map encInt x7.1.order), .s (List.map encResult x7.1.results)]) rfl) ?_
 refine AO.pure T rfl rfl rfl ?_
 refine AO.nil ?_
 refine AW.le (Le.ct 0 0 (σ' := (⟨[(4, .p 3 0), (5, .v (.bool x7.2))], [(3, .box [.v (.int .i64 x7.1.segments), .v (.int .i64 x7.1.size), .v (.int .i64 x7.1.key), .s (List.map encEntrant x7.1.entrants), .s (List.map encInt x7.1.gone), .v (.int .i64 x7.1.segment), .s (List.map encInt x7.1.order), .s (List.map encResult x7.1.results)])], 48, []⟩ : St))) ?_
 refine AW.ret ?_
 cases someE hH
 exact ⟨trivial, _, [], rfl, .t (expLG_cons (.g (expLC_cons .v (expLC_cons .v (expLC_cons .v (expLC_cons .s (expLC_cons .s (expLC_cons .v (expLC_cons .s (expLC_cons .s (expLC_nil)))))))))) (expLG_cons (.c .v) (expLG_nil))), by decide⟩
 replace hH := condF hc hH
 refine AW.skip ?_
 refine AW.seq (AW.region ?_)
 refine AO.pure T (d := .g [.v (.int .i64 0), .v (.int .i64 0), .v (.int .i64 0), .w 0 [], .w 0 [], .v (.int .i64 0), .w 0 [], .w 0 []]) rfl rfl rfl ?_
 refine AO.step rfl (store_okE T rfl rfl rfl rfl rfl rfl rfl rfl rfl (ds' := [.v (.int .i64 0), .v (.int .i64 0), .v (.int .i64 0), .w 0 [], .w 0 [], .v (.int .i64 0), .w 0 [], .w 0 []]) rfl) ?_
 refine AO.pure T rfl rfl rfl ?_
 refine AO.nil (AW.ret ?_)
 cases someE hH
 exact ⟨trivial, _, [], rfl, .t (expLG_cons (.g (expLC_cons .v (expLC_cons .v (expLC_cons .v (expLC_cons .nilS (expLC_cons .nilS (expLC_cons .v (expLC_cons .nilS (expLC_cons .nilS (expLC_nil)))))))))) (expLG_cons (.c .v) (expLG_nil))), by decide⟩

def spec_evAsked_p (fuel : Nat) (e : Event) (sA : Step) : Option (Event × Bool) :=
  (spec_evGood_p fuel e).bind fun x1 =>
  cond (!x1)
    (some ((Event.mk 0 0 0 [] [] 0 [] []), false))
    ((spec_evStep_p fuel e sA).bind fun x3 =>
    some ((Event.mk x3.1.segments x3.1.size x3.1.key x3.1.entrants x3.1.gone x3.1.segment x3.1.order x3.1.results), x3.2))
theorem spec_evAsked_ok (fuel : Nat) (e : Event) (sA : Step) (r : (Event × Bool)) (hH : spec_evAsked_p fuel e sA = some r) : SpecR Tryz.prog 69 [.g (encEvent e), .g (encStep sA)] (.t [.g (encEvent r.1), .v (.bool r.2)]) := by
 refine fn_ok T Tryz.func69 rfl (by decide) rfl ?_
 refine AW.seq (AW.region ?_)
 refine AO.step rfl (box_ok T rfl 1 rfl rfl rfl rfl) ?_
 refine AO.step rfl (box_ok T rfl 2 rfl rfl rfl rfl) ?_
 refine AO.step rfl (alloc_ok T rfl 3 rfl rfl rfl rfl rfl) ?_
 refine AO.pure T rfl rfl rfl ?_
 refine AO.nil ?_
 iterate 2 refine AW.seq ?_
 obtain ⟨x1, hx2, hH⟩ := bindE hH
 refine AW.region ?_
 refine AO.pure T (d := .g [.v (.int .i64 e.segments), .v (.int .i64 e.size), .v (.int .i64 e.key), .s (List.map encEntrant e.entrants), .s (List.map encInt e.gone), .v (.int .i64 e.segment), .s (List.map encInt e.order), .s (List.map encResult e.results)]) rfl rfl rfl ?_
 refine AO.val rfl rfl (callV_ok rfl rfl rfl rfl (spec_evGood_ok fuel _ _ (hx2)) rfl) ?_
 refine AO.pure T rfl rfl rfl ?_
 refine AO.nil ?_
 refine AW.cond (b := (!x1)) rfl (fun hc => ?_) (fun hc => ?_)
 replace hH := condT hc hH
 refine AW.seq (AW.region ?_)
 refine AO.pure T (d := .g [.v (.int .i64 0), .v (.int .i64 0), .v (.int .i64 0), .w 0 [], .w 0 [], .v (.int .i64 0), .w 0 [], .w 0 []]) rfl rfl rfl ?_
 refine AO.step rfl (store_okE T rfl rfl rfl rfl rfl rfl rfl rfl rfl (ds' := [.v (.int .i64 0), .v (.int .i64 0), .v (.int .i64 0), .w 0 [], .w 0 [], .v (.int .i64 0), .w 0 [], .w 0 []]) rfl) ?_
 refine AO.pure T rfl rfl rfl ?_
 refine AO.nil (AW.ret ?_)
 cases someE hH
 exact ⟨trivial, _, [], rfl, .t (expLG_cons (.g (expLC_cons .v (expLC_cons .v (expLC_cons .v (expLC_cons .nilS (expLC_cons .nilS (expLC_cons .v (expLC_cons .nilS (expLC_cons .nilS (expLC_nil)))))))))) (expLG_cons (.c .v) (expLG_nil))), by decide⟩
 replace hH := condF hc hH
 refine AW.skip ?_
 refine AW.seq ?_
 obtain ⟨x3, hx4, hH⟩ := bindE hH
 refine AW.region ?_
 refine AO.pure T (d := .g [.v (.int .i64 e.segments), .v (.int .i64 e.size), .v (.int .i64 e.key), .s (List.map encEntrant e.entrants), .s (List.map encInt e.gone), .v (.int .i64 e.segment), .s (List.map encInt e.order), .s (List.map encResult e.results)]) rfl rfl rfl ?_
 refine AO.pure T (d := .g [.v (.int .i64 sA.kind), .v (.int .i64 sA.skater), .v (.int .i64 sA.number)]) rfl rfl rfl ?_
 refine AO.val rfl rfl (callV_ok rfl rfl rfl rfl (spec_evStep_ok fuel _ _ _ (hx4)) rfl) ?_
 refine AO.pure T (d := .g [.v (.int .i64 x3.1.segments), .v (.int .i64 x3.1.size), .v (.int .i64 x3.1.key), .s (List.map encEntrant x3.1.entrants), .s (List.map encInt x3.1.gone), .v (.int .i64 x3.1.segment), .s (List.map encInt x3.1.order), .s (List.map encResult x3.1.results)]) rfl rfl rfl ?_
 refine AO.pure T rfl rfl rfl ?_
 refine AO.step rfl (store_okE T rfl rfl rfl rfl rfl rfl rfl rfl rfl (ds' := [.v (.int .i64 x3.1.segments), .v (.int .i64 x3.1.size), .v (.int .i64 x3.1.key), .s (List.map encEntrant x3.1.entrants), .s (List.map encInt x3.1.gone), .v (.int .i64 x3.1.segment), .s (List.map encInt x3.1.order), .s (List.map encResult x3.1.results)]) rfl) ?_
 refine AO.pure T rfl rfl rfl ?_
 refine AO.nil (AW.ret ?_)
 cases someE hH
 exact ⟨trivial, _, [], rfl, .t (expLG_cons (.g (expLC_cons .v (expLC_cons .v (expLC_cons .v (expLC_cons .s (expLC_cons .s (expLC_cons .v (expLC_cons .s (expLC_cons .s (expLC_nil)))))))))) (expLG_cons (.c .v) (expLG_nil))), by decide⟩

def spec_BeginSegment_p (fuel : Nat) (e : Event) : Option (Event × Bool) :=
  (spec_evAsked_p fuel e (Step.mk 3 0 0)).bind fun x1 =>
  some ((Event.mk x1.1.segments x1.1.size x1.1.key x1.1.entrants x1.1.gone x1.1.segment x1.1.order x1.1.results), x1.2)
theorem spec_BeginSegment_ok (fuel : Nat) (e : Event) (r : (Event × Bool)) (hH : spec_BeginSegment_p fuel e = some r) : SpecR Tryz.prog 17 [.g (encEvent e)] (.t [.g (encEvent r.1), .v (.bool r.2)]) := by
 refine fn_ok T Tryz.func17 rfl (by decide) rfl ?_
 refine AW.seq (AW.region ?_)
 refine AO.step rfl (box_ok T rfl 1 rfl rfl rfl rfl) ?_
 refine AO.step rfl (alloc_ok T rfl 2 rfl rfl rfl rfl rfl) ?_
 refine AO.pure T rfl rfl rfl ?_
 refine AO.nil (AW.seq ?_)
 obtain ⟨x1, hx2, hH⟩ := bindE hH
 refine AW.region ?_
 refine AO.pure T (d := .g [.v (.int .i64 e.segments), .v (.int .i64 e.size), .v (.int .i64 e.key), .s (List.map encEntrant e.entrants), .s (List.map encInt e.gone), .v (.int .i64 e.segment), .s (List.map encInt e.order), .s (List.map encResult e.results)]) rfl rfl rfl ?_
 refine AO.pure T (d := .g [.v (.int .i64 3), .v (.int .i64 0), .v (.int .i64 0)]) rfl rfl rfl ?_
 refine AO.val rfl rfl (callV_ok rfl rfl rfl rfl (spec_evAsked_ok fuel _ _ _ (hx2)) rfl) ?_
 refine AO.pure T (d := .g [.v (.int .i64 x1.1.segments), .v (.int .i64 x1.1.size), .v (.int .i64 x1.1.key), .s (List.map encEntrant x1.1.entrants), .s (List.map encInt x1.1.gone), .v (.int .i64 x1.1.segment), .s (List.map encInt x1.1.order), .s (List.map encResult x1.1.results)]) rfl rfl rfl ?_
 refine AO.pure T rfl rfl rfl ?_
 refine AO.step rfl (store_okE T rfl rfl rfl rfl rfl rfl rfl rfl rfl (ds' := [.v (.int .i64 x1.1.segments), .v (.int .i64 x1.1.size), .v (.int .i64 x1.1.key), .s (List.map encEntrant x1.1.entrants), .s (List.map encInt x1.1.gone), .v (.int .i64 x1.1.segment), .s (List.map encInt x1.1.order), .s (List.map encResult x1.1.results)]) rfl) ?_
 refine AO.pure T rfl rfl rfl ?_
 refine AO.nil (AW.ret ?_)
 cases someE hH
 exact ⟨trivial, _, [], rfl, .t (expLG_cons (.g (expLC_cons .v (expLC_cons .v (expLC_cons .v (expLC_cons .s (expLC_cons .s (expLC_cons .v (expLC_cons .s (expLC_cons .s (expLC_nil)))))))))) (expLG_cons (.c .v) (expLG_nil))), by decide⟩

end Go.Proofs.YtbclgnikhophlaaGreat

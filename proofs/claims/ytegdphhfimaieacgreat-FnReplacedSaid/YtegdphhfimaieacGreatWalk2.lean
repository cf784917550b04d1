/- The walk, part 2: what each function reached by the law FnReplaced computes. No condition. -/
import Derived.Test.YtegdphhfimaieacGreatWalk1
set_option maxRecDepth 4000
set_option maxHeartbeats 1000000
set_option linter.unusedVariables false
set_option linter.unusedSimpArgs false
set_option linter.unusedSectionVars false

namespace Go.Proofs.YtegdphhfimaieacGreat
open Go.AM

def slices_Max_int_l1 (x : List Int) : Nat → Int → Int → Option Int
  | 0, _, _ => none
  | k3 + 1, v10, v11 =>
    cond (decide (v11 < (x.length : Int)))
      ((getI x v11).bind fun x13 =>
      slices_Max_int_l1 x k3 (max v10 x13) (w64 (v11 + 1)))
      (some v10)
def slices_Max_int_p (fuel : Nat) (x : List Int) : Option Int :=
  cond (decide ((x.length : Int) < 1))
    (none)
    ((getI x 0).bind fun x1 =>
    slices_Max_int_l1 x fuel x1 1)
theorem slices_Max_int_ok (fuel : Nat) (x : List Int) (r : Int) (hH : slices_Max_int_p fuel x = some r) : SpecR Tryz.prog 69 [.s (List.map encInt x)] (.v (.int .i64 r)) := by
 refine fn_ok T Tryz.func69 rfl (by decide) rfl ?_
 refine AW.seq (AW.region ?_)
 refine AO.pu T ?_
 refine AO.nil ?_
 iterate 2 refine AW.seq ?_
 refine AW.region ?_
 refine AO.pu T ?_
 refine AO.val rfl rfl (len_map_ok T rfl rfl rfl) ?_
 refine AO.pu T ?_
 refine AO.nil ?_
 refine AW.cond (b := decide ((x.length : Int) < 1)) rfl (fun hc => ?_) (fun hc => ?_)
 replace hH := condT hc hH
 cases hH
 replace hH := condF hc hH
 refine AW.skip ?_
 refine AW.seq ?_
 obtain ⟨x1, hx2, hH⟩ := bindE hH
 refine AW.region ?_
 refine AO.pu T ?_
 refine AO.val rfl rfl (ix_map_ok T rfl rfl rfl rfl rfl (hx2) rfl) ?_
 iterate 2 refine AO.pu T ?_
 refine AO.nil ?_
 iterate 2 refine AW.seq ?_
 refine AW.region ?_
 refine AO.pu T ?_
 refine AO.nil ?_
 refine AW.block ?_
 refine AW.loopS (fun s : Nat × Int × Int => (⟨[(0, .s (List.map encInt x)), (3, s.2.1), (4, s.2.2)], [], 25, []⟩ : St)) (fun s => slices_Max_int_l1 x s.1 s.2.1 s.2.2 = some r) (fun s => s.1) (fuel, x1, 1) hH ?_ ?_
 exact Le.ct 0 0
 rintro ⟨k3, v10, v11⟩ hH
 replace hH : slices_Max_int_l1 x k3 v10 v11 = some r := hH
 try dsimp only
 rcases k3 with _ | k3
 cases (show none = some _ from hH)
 rw [slices_Max_int_l1] at hH
 iterate 2 refine AW.seq ?_
 refine AW.region ?_
 iterate 2 refine AO.pu T ?_
 refine AO.val rfl rfl (len_map_ok T rfl rfl rfl) ?_
 refine AO.pu T ?_
 refine AO.nil ?_
 refine AW.cond (b := decide (v11 < (x.length : Int))) rfl (fun hc => ?_) (fun hc => ?_)
 replace hH := condT hc hH
 refine AW.skip ?_
 refine AW.seq ?_
 refine AW.block ?_
 obtain ⟨x13, hx14, hH⟩ := bindE hH
 refine AW.region ?_
 iterate 3 refine AO.pu T ?_
 refine AO.val rfl rfl (ix_map_ok T rfl rfl rfl rfl rfl (hx14) rfl) ?_
 refine AO.pu T ?_
 refine AO.val rfl rfl (max_ok rfl rfl rfl) ?_
 refine AO.pu T ?_
 refine AO.nil ?_
 refine AW.region ?_
 refine AO.pu T ?_
 refine AO.val rfl rfl (arw_ok rfl rfl rfl rfl) ?_
 refine AO.pu T ?_
 refine AO.nil ?_
 refine ⟨(k3, (max v10 x13), w64 (v11 + 1)), hH, Nat.lt_succ_self _, ?_⟩
 exact Le.ct 0 0
 replace hH := condF hc hH
 refine AW.exit ?_
 refine AW.seq (AW.region ?_)
 iterate 2 refine AO.pu T ?_
 refine AO.nil (AW.ret ?_)
 have hR := someE hH; subst hR
 exact retQ.i [] rfl (.c (.c .v))

def impl_isPanel_l1 (l : List Official) (most : Int) (panel : List Int) (fuel : Nat) (x5 : (List Int)) : List Int → Nat → Option Bool
  | [], k7 =>
    (impl_clubSizes_p l panel).bind fun x18 =>
    (slices_Max_int_p fuel x18).bind fun x20 =>
    some (decide (x20 ≤ most))
  | y8 :: ys9, k7 =>
    (slices_Contains_int_p x5 y8).bind fun x22 =>
    cond (!x22)
      (some false)
      (impl_isPanel_l1 l most panel fuel x5 ys9 (k7 + 1))
def impl_isPanel_p (fuel : Nat) (l : List Official) (clubs : List Int) (level : Int) (most : Int) (panel : List Int) : Option Bool :=
  (impl_within_p (panel.length : Int) 1 9).bind fun x1 =>
  (opt (!(!x1)) default (impl_isIncreasing_p panel 1000)).bind fun x3 =>
  cond ((!x1) || (!x3))
    (some false)
    ((impl_eligible_p l clubs level).bind fun x5 =>
    impl_isPanel_l1 l most panel fuel x5 panel 0)
theorem impl_isPanel_ok (fuel : Nat) (l : List Official) (clubs : List Int) (level : Int) (most : Int) (panel : List Int) (r : Bool) (hH : impl_isPanel_p fuel l clubs level most panel = some r) : SpecR Tryz.prog 30 [.s (List.map encOfficial l), .s (List.map encInt clubs), level, most, .s (List.map encInt panel)] (.v (.bool r)) := by
 refine fn_ok T Tryz.func30 rfl (by decide) rfl ?_
 refine AW.seq (AW.region ?_)
 refine AO.pu T ?_
 refine AO.nil ?_
 iterate 2 refine AW.seq ?_
 obtain ⟨x1, hx2, hH⟩ := bindE hH
 obtain ⟨x3, hx4, hH⟩ := bindE hH
 refine AW.region ?_
 refine AO.pu T ?_
 refine AO.val rfl rfl (len_map_ok T rfl rfl rfl) ?_
 refine AO.val rfl rfl (callV_ok rfl rfl rfl rfl (impl_within_ok _ _ _ _ (hx2)) rfl) ?_
 iterate 2 refine AO.pu T ?_
 refine AO.pureG T [] rfl trivial rfl rfl ?_
 refine AO.guard [19] rfl ⟨fun h => h, trivial⟩ (fun hg => callV_ok rfl rfl rfl rfl (impl_isIncreasing_ok _ _ _ (optT hx4 hg)) rfl) rfl ?_
 refine AO.pureG T [20] rfl ⟨fun h => h, trivial⟩ rfl rfl ?_
 refine AO.val rfl rfl (pick_or rfl rfl rfl rfl) ?_
 refine AO.nil ?_
 refine AW.cond (b := ((!x1) || (!x3))) rfl (fun hc => ?_) (fun hc => ?_)
 replace hH := condT hc hH
 refine AW.seq (AW.region ?_)
 refine AO.pu T ?_
 refine AO.nil (AW.ret ?_)
 have hR := someE hH; subst hR
 exact retQ.i [] rfl (.c (.c .v))
 replace hH := condF hc hH
 refine AW.skip ?_
 refine AW.seq ?_
 obtain ⟨x5, hx6, hH⟩ := bindE hH
 refine AW.region ?_
 iterate 3 refine AO.pu T ?_
 refine AO.step rfl (call_ok rfl 1 rfl rfl rfl (impl_eligible_ok _ _ _ _ (hx6)) rfl rfl rfl) ?_
 refine AO.pu T ?_
 refine AO.nil ?_
 iterate 2 refine AW.seq ?_
 refine AW.region ?_
 refine AO.pu T ?_
 refine AO.val rfl rfl (len_map_ok T rfl rfl rfl) ?_
 refine AO.pu T ?_
 refine AO.nil ?_
 refine AW.block ?_
 refine AW.loopS (fun s : Nat => (⟨[(0, .s (List.map encOfficial l)), (3, most), (4, .s (List.map encInt panel)), (11, .R 1), (27, .s (List.map encInt panel)), (28, (panel.length : Int)), (29, (s : Int))], [(1, .row 1 (List.map encInt x5))], 44, []⟩ : St)) (fun s => s ≤ panel.length ∧ impl_isPanel_l1 l most panel fuel x5 (panel.drop s) s = some r) (fun s => panel.length - s) 0 ⟨Nat.zero_le _, hH⟩ ?_ ?_
 exact Le.ct 0 0
 rintro k7 ⟨hk, hH⟩
 replace hH : impl_isPanel_l1 l most panel fuel x5 (panel.drop k7) k7 = some r := hH
 try dsimp only
 refine AW.boundM (t := 4) (l := panel) rfl (fun hb11 => ?_)
 rcases hd10 : panel.drop k7 with _ | ⟨y8, ys9⟩
 rw [hd10, impl_isPanel_l1] at hH
 have hlt12 := drop_ge hd10
 refine AW.seq (AW.region ?_)
 refine AO.pu T ?_
 refine AO.nil (AW.seq ?_)
 refine AW.condF' (b := decide ((k7 : Int) < (panel.length : Int))) rfl (rngF hlt12) ?_
 refine AW.exit ?_
 refine AW.seq ?_
 obtain ⟨x18, hx19, hH⟩ := bindE hH
 obtain ⟨x20, hx21, hH⟩ := bindE hH
 refine AW.region ?_
 iterate 2 refine AO.pu T ?_
 refine AO.step rfl (call_ok rfl 2 rfl rfl rfl (impl_clubSizes_ok _ _ _ (hx19)) rfl rfl rfl) ?_
 refine AO.val rfl rfl (callLV_ok rfl rfl rfl (es := [.s (List.map encInt x18)]) ⟨(.rowR rfl (.map fun y => .vs rfl)), trivial⟩ (slices_Max_int_ok fuel _ _ (hx21)) (zfree_v _) rfl) ?_
 iterate 3 refine AO.pu T ?_
 refine AO.nil (AW.ret ?_)
 have hR := someE hH; subst hR
 exact retQ.i [] rfl (.c (.c .v))
 rw [hd10, impl_isPanel_l1] at hH
 have hlt12 := drop_lt hd10
 refine AW.seq (AW.region ?_)
 refine AO.pu T ?_
 refine AO.nil (AW.seq ?_)
 refine AW.condT' (b := decide ((k7 : Int) < (panel.length : Int))) rfl (rngT hlt12) ?_
 refine AW.skip ?_
 refine AW.seq ?_
 refine AW.block ?_
 refine AW.seq (AW.region ?_)
 refine AO.val rfl rfl (ix_map_ok T rfl rfl rfl rfl rfl (getI_drop hd10) rfl) ?_
 iterate 2 refine AO.pu T ?_
 refine AO.nil (AW.seq ?_)
 obtain ⟨x22, hx23, hH⟩ := bindE hH
 refine AW.region ?_
 iterate 2 refine AO.pu T ?_
 refine AO.val rfl rfl (callLV_ok rfl rfl rfl (es := [.s (List.map encInt x5), y8]) ⟨(.rowR rfl (.map fun y => .vs rfl)), .free rfl, trivial⟩ (slices_Contains_int_ok _ _ _ (hx23)) (zfree_v _) rfl) ?_
 refine AO.pu T ?_
 refine AO.nil ?_
 refine AW.cond (b := (!x22)) rfl (fun hc => ?_) (fun hc => ?_)
 replace hH := condT hc hH
 refine AW.seq (AW.region ?_)
 refine AO.pu T ?_
 refine AO.nil (AW.ret ?_)
 have hR := someE hH; subst hR
 exact retQ.i [] rfl (.c (.c .v))
 replace hH := condF hc hH
 refine AW.skip ?_
 refine AW.region ?_
 refine AO.val rfl rfl (ar_ok rfl rfl rfl rfl (inI_succ hlt12 hb11)) ?_
 refine AO.pu T ?_
 refine AO.nil ?_
 refine ⟨k7 + 1, ⟨Nat.succ_le_of_lt hlt12, (by rw [drop_succ_of hd10]; exact hH)⟩, (by have := hlt12; dsimp only; omega), ?_⟩
 exact Le.ct 0 0

def impl_copyInts_p (l : List Int) : Option (List Int) :=
  (need (fitsB 8 l.length)).bind fun u1 =>
  some l
theorem impl_copyInts_ok (l : List Int) (r : (List Int)) (hH : impl_copyInts_p l = some r) : SpecR Tryz.prog 78 [.s (List.map encInt l)] (.w 1 (r.map encInt)) := by
 refine fn_ok T Tryz.func78 rfl (by decide) rfl ?_
 refine AW.seq (AW.region ?_)
 refine AO.pu T ?_
 refine AO.nil (AW.seq ?_)
 obtain ⟨u1, hx2, hH⟩ := bindE hH
 refine AW.region ?_
 refine AO.step rfl (mk0_ok T rfl rfl rfl rfl) ?_
 refine AO.pu T ?_
 refine AO.step rfl (app_ws_map T rfl 1 rfl rfl rfl rfl rfl (by decide) (by decide) rfl rfl (fun _ => rfl) (needT (hx2)) rfl rfl) ?_
 refine AO.pu T ?_
 refine AO.nil (AW.ret ?_)
 have hR := someE hH; subst hR
 exact retQ.i [1] rfl (.c (.c (.rowR rfl)))

def impl_withKeys_p (keys : List Int) (more : List Int) : Option (List Int) :=
  (impl_copyInts_p keys).bind fun x1 =>
  (need (fitsB 8 (x1.length + more.length))).bind fun u3 =>
  some (x1 ++ more)
theorem impl_withKeys_ok (keys : List Int) (more : List Int) (r : (List Int)) (hH : impl_withKeys_p keys more = some r) : SpecR Tryz.prog 81 [.s (List.map encInt keys), .s (List.map encInt more)] (.w 1 (r.map encInt)) := by
 refine fn_ok T Tryz.func81 rfl (by decide) rfl ?_
 refine AW.seq (AW.region ?_)
 refine AO.pu T ?_
 refine AO.nil (AW.seq ?_)
 obtain ⟨x1, hx2, hH⟩ := bindE hH
 obtain ⟨u3, hx4, hH⟩ := bindE hH
 refine AW.region ?_
 refine AO.pu T ?_
 refine AO.step rfl (call_ok rfl 1 rfl rfl rfl (impl_copyInts_ok _ _ (hx2)) rfl rfl rfl) ?_
 refine AO.pu T ?_
 refine AO.step rfl (app_rs_map T rfl 2 rfl rfl rfl rfl rfl (by decide) (by decide) rfl rfl rfl (fun _ => rfl) (needT (hx4)) rfl rfl) ?_
 refine AO.pu T ?_
 refine AO.nil (AW.ret ?_)
 have hR := someE hH; subst hR
 exact retQ.i [2] rfl (.c (.c (.rowR rfl)))

def impl_keyMix_l1 (x1 : (List Int)) : Nat → Int → Int → Option Int
  | 0, _, _ => none
  | k5 + 1, v20, v21 =>
    cond (decide (v21 < (((x1 ++ ([4, 1] : List Int))).length : Int)))
      ((getI (x1 ++ ([4, 1] : List Int)) v21).bind fun x23 =>
      (need (1000003 != 0)).bind fun u25 =>
      (need (16 != 0)).bind fun u27 =>
      impl_keyMix_l1 x1 k5 ((w64 (((w64 ((w64 ((w64 (29 * v20)) + x23)) + 13)).tmod 1000003) * (w64 ((w64 (((w64 ((w64 ((w64 (29 * v20)) + x23)) + 13)).tmod 1000003).tdiv 16)) + 5)))).tmod 1000003) (w64 (v21 + 1)))
      (some v20)
def impl_keyMix_p (fuel : Nat) (keys : List Int) : Option Int :=
  (impl_copyInts_p keys).bind fun x1 =>
  (need (fitsB 8 (x1.length + (([4, 1] : List Int)).length))).bind fun u3 =>
  impl_keyMix_l1 x1 fuel (w64 (5231 + (keys.length : Int))) 0
theorem impl_keyMix_ok (fuel : Nat) (keys : List Int) (r : Int) (hH : impl_keyMix_p fuel keys = some r) : SpecR Tryz.prog 96 [.s (List.map encInt keys)] (.v (.int .i64 r)) := by
 refine fn_ok T Tryz.func96 rfl (by decide) rfl ?_
 refine AW.seq (AW.region ?_)
 refine AO.pu T ?_
 refine AO.nil (AW.seq ?_)
 refine AW.region ?_
 refine AO.pu T ?_
 refine AO.val rfl rfl (len_map_ok T rfl rfl rfl) ?_
 refine AO.val rfl rfl (arw_ok rfl rfl rfl rfl) ?_
 refine AO.pu T ?_
 refine AO.nil ?_
 iterate 2 refine AW.seq ?_
 obtain ⟨x1, hx2, hH⟩ := bindE hH
 obtain ⟨u3, hx4, hH⟩ := bindE hH
 refine AW.region ?_
 refine AO.pu T ?_
 refine AO.step rfl (call_ok rfl 1 rfl rfl rfl (impl_copyInts_ok _ _ (hx2)) rfl rfl rfl) ?_
 refine AO.step rfl (mk_map_ok T rfl 2 rfl rfl rfl rfl rfl (f := encInt) (l := ([4, 1] : List Int)) rfl rfl (fun _ => rfl) rfl rfl rfl rfl rfl) ?_
 refine AO.step rfl (app_rv_map T rfl 3 rfl rfl rfl rfl rfl (by decide) rfl rfl rfl rfl (fun _ => rfl) (needT (hx4)) rfl rfl) ?_
 refine AO.val rfl rfl (len_row_ok T rfl rfl rfl rfl) ?_
 refine AO.pu T ?_
 refine AO.nil ?_
 refine AW.block ?_
 refine AW.loopS (fun s : Nat × Int × Int => (⟨[(3, s.2.1), (12, .R 3), (13, (((x1 ++ ([4, 1] : List Int))).length : Int)), (14, s.2.2)], [(3, .row 1 (List.map encInt (x1 ++ ([4, 1] : List Int))))], 32, []⟩ : St)) (fun s => impl_keyMix_l1 x1 s.1 s.2.1 s.2.2 = some r) (fun s => s.1) (fuel, w64 (5231 + (keys.length : Int)), 0) hH ?_ ?_
 exact Le.ct 0 0
 rintro ⟨k5, v20, v21⟩ hH
 replace hH : impl_keyMix_l1 x1 k5 v20 v21 = some r := hH
 try dsimp only
 rcases k5 with _ | k5
 cases (show none = some _ from hH)
 rw [impl_keyMix_l1] at hH
 refine AW.seq (AW.region ?_)
 refine AO.pu T ?_
 refine AO.nil (AW.seq ?_)
 refine AW.cond (b := decide (v21 < (((x1 ++ ([4, 1] : List Int))).length : Int))) rfl (fun hc => ?_) (fun hc => ?_)
 replace hH := condT hc hH
 refine AW.skip ?_
 refine AW.seq ?_
 refine AW.block ?_
 refine AW.seq ?_
 obtain ⟨x23, hx24, hH⟩ := bindE hH
 refine AW.region ?_
 refine AO.val rfl rfl (ix_row_ok T rfl rfl rfl rfl rfl rfl (hx24)) ?_
 refine AO.val rfl rfl (load_row_ok T rfl rfl rfl rfl (getI_get (hx24)) rfl rfl rfl) ?_
 refine AO.pu T ?_
 refine AO.nil (AW.seq ?_)
 obtain ⟨u25, hx26, hH⟩ := bindE hH
 refine AW.region ?_
 refine AO.pu T ?_
 refine AO.val rfl rfl (arw_ok rfl rfl rfl rfl) ?_
 refine AO.pu T ?_
 iterate 2 refine AO.val rfl rfl (arw_ok rfl rfl rfl rfl) ?_
 refine AO.val rfl rfl (rem_ok rfl rfl rfl (neZ (needT (hx26)))) ?_
 refine AO.pu T ?_
 refine AO.nil ?_
 obtain ⟨u27, hx28, hH⟩ := bindE hH
 refine AW.region ?_
 iterate 2 refine AO.pu T ?_
 refine AO.val rfl rfl (quow_ok rfl rfl rfl (neZ (needT (hx28)))) ?_
 iterate 2 refine AO.val rfl rfl (arw_ok rfl rfl rfl rfl) ?_
 refine AO.val rfl rfl (rem_ok rfl rfl rfl (neZ (needT (hx26)))) ?_
 refine AO.pu T ?_
 refine AO.nil ?_
 refine AW.region ?_
 refine AO.val rfl rfl (arw_ok rfl rfl rfl rfl) ?_
 refine AO.pu T ?_
 refine AO.nil ?_
 refine ⟨(k5, ((w64 (((w64 ((w64 ((w64 (29 * v20)) + x23)) + 13)).tmod 1000003) * (w64 ((w64 (((w64 ((w64 ((w64 (29 * v20)) + x23)) + 13)).tmod 1000003).tdiv 16)) + 5)))).tmod 1000003), w64 (v21 + 1)), hH, Nat.lt_succ_self _, ?_⟩
 exact Le.ct 0 0
 replace hH := condF hc hH
 refine AW.exit ?_
 refine AW.seq (AW.region ?_)
 iterate 2 refine AO.pu T ?_
 refine AO.nil (AW.ret ?_)
 have hR := someE hH; subst hR
 exact retQ.i [] rfl (.c (.c .v))

def impl_keyBelow_p (fuel : Nat) (keys : List Int) (n : Int) : Option Int :=
  (impl_withKeys_p keys [n]).bind fun x1 =>
  (impl_keyMix_p fuel x1).bind fun x3 =>
  (need (n != 0)).bind fun u5 =>
  some (x3.tmod n)
theorem impl_keyBelow_ok (fuel : Nat) (keys : List Int) (n : Int) (r : Int) (hH : impl_keyBelow_p fuel keys n = some r) : SpecR Tryz.prog 80 [.s (List.map encInt keys), n] (.v (.int .i64 r)) := by
 refine fn_ok T Tryz.func80 rfl (by decide) rfl ?_
 refine AW.seq (AW.region ?_)
 refine AO.pu T ?_
 refine AO.nil (AW.seq ?_)
 obtain ⟨x1, hx2, hH⟩ := bindE hH
 obtain ⟨x3, hx4, hH⟩ := bindE hH
 obtain ⟨u5, hx6, hH⟩ := bindE hH
 refine AW.region ?_
 iterate 2 refine AO.pu T ?_
 refine AO.step rfl (mk_map_ok T rfl 1 rfl rfl rfl rfl rfl (f := encInt) (l := [n]) rfl rfl (fun _ => rfl) rfl rfl rfl rfl rfl) ?_
 refine AO.step rfl (callL_ok rfl 2 rfl rfl (es := [.s (List.map encInt keys), .s (List.map encInt [n])]) (by exact ⟨.free rfl, (.rowR rfl (.map fun y => .vs rfl)), trivial⟩) (impl_withKeys_ok _ _ _ (hx2)) (zfree_map (fun y => (.cons (zfree_v _) .nil))) rfl rfl rfl) ?_
 refine AO.val rfl rfl (callLV_ok rfl rfl rfl (es := [.s (List.map encInt x1)]) ⟨(.rowR rfl (.map fun y => .vs rfl)), trivial⟩ (impl_keyMix_ok fuel _ _ (hx4)) (zfree_v _) rfl) ?_
 refine AO.pu T ?_
 refine AO.val rfl rfl (rem_ok rfl rfl rfl (neZ (needT (hx6)))) ?_
 refine AO.pu T ?_
 refine AO.nil (AW.ret ?_)
 have hR := someE hH; subst hR
 exact retQ.i [] rfl (.c (.c .v))

def impl_shuffleOf_l2 (keys : List Int) (fuel : Nat) : Nat → List Int → Int → Option ((List Int))
  | 0, _, _ => none
  | k13 + 1, v36, v37 =>
    cond (decide (v37 ≥ 1))
      ((impl_withKeys_p keys [v37]).bind fun x39 =>
      (impl_keyBelow_p fuel x39 (w64 (v37 + 1))).bind fun x41 =>
      (getI v36 x41).bind fun x43 =>
      (getI v36 v37).bind fun x45 =>
      (getI (v36.set v37.toNat x43) x41).bind fun x47 =>
      impl_shuffleOf_l2 keys fuel k13 ((v36.set v37.toNat x43).set x41.toNat x45) (w64 (v37 - 1)))
      (some v36)
def impl_shuffleOf_l1 (keys : List Int) (n : Int) (fuel : Nat) : Nat → List Int → Int → Option ((List Int))
  | 0, _, _ => none
  | k1 + 1, v8, v9 =>
    cond (decide (v9 < n))
      ((need (fitsB 8 (v8.length + ([v9]).length))).bind fun u11 =>
      impl_shuffleOf_l1 keys n fuel k1 (v8 ++ [v9]) (w64 (v9 + 1)))
      (impl_shuffleOf_l2 keys fuel fuel v8 (w64 (n - 1)))
def impl_shuffleOf_p (fuel : Nat) (keys : List Int) (n : Int) : Option (List Int) :=
  impl_shuffleOf_l1 keys n fuel fuel [] 0
theorem impl_shuffleOf_ok (fuel : Nat) (keys : List Int) (n : Int) (r : (List Int)) (hH : impl_shuffleOf_p fuel keys n = some r) : SpecR Tryz.prog 71 [.s (List.map encInt keys), n] (.w 1 (r.map encInt)) := by
 refine fn_ok T Tryz.func71 rfl (by decide) rfl ?_
 refine AW.seq (AW.region ?_)
 refine AO.pu T ?_
 refine AO.nil (AW.seq ?_)
 refine AW.region ?_
 refine AO.step rfl (mk0_ok T rfl rfl rfl rfl) ?_
 refine AO.pu T ?_
 refine AO.nil ?_
 iterate 2 refine AW.seq ?_
 refine AW.region ?_
 iterate 2 refine AO.pu T ?_
 refine AO.nil ?_
 refine AW.block ?_
 refine AW.loopS (fun s : Nat × (List Int) × Int => (⟨[(0, .s (List.map encInt keys)), (1, n), (5, .R 4), (10, n), (11, s.2.2)], [(4, .row 1 (List.map encInt s.2.1))], 47, []⟩ : St)) (fun s => impl_shuffleOf_l1 keys n fuel s.1 s.2.1 s.2.2 = some r) (fun s => s.1) (fuel, [], 0) hH ?_ ?_
 refine Le.trans (Le.void 5 4 1 rfl rfl) ?_
 exact Le.ct 0 0
 rintro ⟨k1, v8, v9⟩ hH
 replace hH : impl_shuffleOf_l1 keys n fuel k1 v8 v9 = some r := hH
 try dsimp only
 rcases k1 with _ | k1
 cases (show none = some _ from hH)
 rw [impl_shuffleOf_l1] at hH
 refine AW.seq (AW.region ?_)
 refine AO.pu T ?_
 refine AO.nil (AW.seq ?_)
 refine AW.cond (b := decide (v9 < n)) rfl (fun hc => ?_) (fun hc => ?_)
 replace hH := condT hc hH
 refine AW.skip ?_
 refine AW.seq ?_
 refine AW.block ?_
 refine AW.seq (AW.region ?_)
 iterate 2 refine AO.pu T ?_
 refine AO.nil ?_
 obtain ⟨u11, hx12, hH⟩ := bindE hH
 refine AW.region ?_
 iterate 2 refine AO.pu T ?_
 refine AO.step rfl (mk_map_ok T rfl 5 rfl rfl rfl rfl rfl (f := encInt) (l := [v9]) rfl rfl (fun _ => rfl) rfl rfl rfl rfl rfl) ?_
 refine AO.step rfl (app_rv_map T rfl 6 rfl rfl rfl rfl rfl (by decide) rfl rfl rfl rfl (fun _ => rfl) (needT (hx12)) rfl rfl) ?_
 refine AO.pu T ?_
 refine AO.nil ?_
 refine AW.region ?_
 refine AO.val rfl rfl (arw_ok rfl rfl rfl rfl) ?_
 refine AO.pu T ?_
 refine AO.nil ?_
 refine ⟨(k1, (v8 ++ [v9]), w64 (v9 + 1)), hH, Nat.lt_succ_self _, ?_⟩
 exact Le.ct 6 4
 replace hH := condF hc hH
 refine AW.exit ?_
 iterate 2 refine AW.seq ?_
 refine AW.region ?_
 refine AO.pu T ?_
 refine AO.val rfl rfl (arw_ok rfl rfl rfl rfl) ?_
 refine AO.pu T ?_
 refine AO.nil ?_
 refine AW.block ?_
 refine AW.loopS (fun s : Nat × (List Int) × Int => (⟨[(0, .s (List.map encInt keys)), (5, .R 4), (7, s.2.2)], [(4, .row 1 (List.map encInt s.2.1))], 47, []⟩ : St)) (fun s => impl_shuffleOf_l2 keys fuel s.1 s.2.1 s.2.2 = some r) (fun s => s.1) (fuel, v8, w64 (n - 1)) hH ?_ ?_
 exact Le.ct 0 0
 rintro ⟨k13, v36, v37⟩ hH
 replace hH : impl_shuffleOf_l2 keys fuel k13 v36 v37 = some r := hH
 try dsimp only
 rcases k13 with _ | k13
 cases (show none = some _ from hH)
 rw [impl_shuffleOf_l2] at hH
 iterate 2 refine AW.seq ?_
 refine AW.region ?_
 iterate 2 refine AO.pu T ?_
 refine AO.nil ?_
 refine AW.cond (b := decide (v37 ≥ 1)) rfl (fun hc => ?_) (fun hc => ?_)
 replace hH := condT hc hH
 refine AW.skip ?_
 refine AW.seq ?_
 refine AW.block ?_
 refine AW.seq ?_
 obtain ⟨x39, hx40, hH⟩ := bindE hH
 obtain ⟨x41, hx42, hH⟩ := bindE hH
 refine AW.region ?_
 iterate 2 refine AO.pu T ?_
 refine AO.step rfl (mk_map_ok T rfl 11 rfl rfl rfl rfl rfl (f := encInt) (l := [v37]) rfl rfl (fun _ => rfl) rfl rfl rfl rfl rfl) ?_
 refine AO.step rfl (callL_ok rfl 12 rfl rfl (es := [.s (List.map encInt keys), .s (List.map encInt [v37])]) (by exact ⟨.free rfl, (.rowR rfl (.map fun y => .vs rfl)), trivial⟩) (impl_withKeys_ok _ _ _ (hx40)) (zfree_map (fun y => (.cons (zfree_v _) .nil))) rfl rfl rfl) ?_
 refine AO.pu T ?_
 refine AO.val rfl rfl (arw_ok rfl rfl rfl rfl) ?_
 refine AO.val rfl rfl (callLV_ok rfl rfl rfl (es := [.s (List.map encInt x39), w64 (v37 + 1)]) ⟨(.rowR rfl (.map fun y => .vs rfl)), .free rfl, trivial⟩ (impl_keyBelow_ok fuel _ _ _ (hx42)) (zfree_v _) rfl) ?_
 refine AO.pu T ?_
 refine AO.nil ?_
 obtain ⟨x43, hx44, hH⟩ := bindE hH
 obtain ⟨x45, hx46, hH⟩ := bindE hH
 obtain ⟨x47, hx48, hH⟩ := bindE hH
 refine AW.drawn 14 13 [4] mix (by kernel_rfl) rfl ?_
 iterate 6 refine AD.pure T rfl rfl rfl ?_
 refine AD.vald rfl rfl rfl (ix_row_ok T rfl rfl rfl rfl rfl rfl (hx44)) ?_
 refine AD.vald rfl rfl rfl (load_row_ok T rfl rfl rfl rfl (getI_get (hx44)) rfl rfl rfl) ?_
 iterate 2 refine AD.pure T rfl rfl rfl ?_
 refine AD.vald rfl rfl rfl (ix_row_ok T rfl rfl rfl rfl rfl rfl (hx46)) ?_
 refine AD.vald rfl rfl rfl (load_row_ok T rfl rfl rfl rfl (getI_get (hx46)) rfl rfl rfl) ?_
 refine AD.vald rfl rfl rfl (ix_row_ok T rfl rfl rfl rfl rfl rfl (hx46)) ?_
 refine AD.k rfl rfl (FStep.store_row T rfl rfl rfl rfl rfl rfl (getI_get (hx46)) rfl rfl rfl rfl (u' := x43) rfl rfl rfl) rfl rfl rfl ?_
 refine AD.nil ?_
 refine AO.val rfl rfl (ix_row_ok T rfl rfl rfl rfl rfl rfl (hx48)) ?_
 refine AO.step rfl (store_row_ok T rfl rfl rfl rfl rfl (getI_get (hx48)) rfl rfl rfl rfl (u' := x45) rfl rfl) ?_
 refine AO.nil ?_
 refine AW.le (Le.ct 0 0 (σ' := (⟨[(0, .s (List.map encInt keys)), (5, .R 4), (7, v37)], [(4, .row 1 (List.map encInt ((v36.set v37.toNat x43).set x41.toNat x45)))], 47, []⟩ : St))) ?_
 refine AW.region ?_
 refine AO.pu T ?_
 refine AO.val rfl rfl (arw_ok rfl rfl rfl rfl) ?_
 refine AO.pu T ?_
 refine AO.nil ?_
 refine ⟨(k13, ((v36.set v37.toNat x43).set x41.toNat x45), w64 (v37 - 1)), hH, Nat.lt_succ_self _, ?_⟩
 exact Le.ct 0 0
 replace hH := condF hc hH
 refine AW.exit ?_
 refine AW.seq (AW.region ?_)
 iterate 2 refine AO.pu T ?_
 refine AO.nil (AW.ret ?_)
 have hR := someE hH; subst hR
 exact retQ.i [4] rfl (.c (.c (.rowR rfl)))

def impl_shuffledNumbers_l1 (l : List Int) : List Int → Nat → List Int → Option ((List Int))
  | [], k3, v18 =>
    some v18
  | y4 :: ys5, k3, v18 =>
    (getI l y4).bind fun x20 =>
    (need (fitsB 8 (v18.length + ([x20]).length))).bind fun u22 =>
    impl_shuffledNumbers_l1 l ys5 (k3 + 1) (v18 ++ [x20])
def impl_shuffledNumbers_p (fuel : Nat) (keys : List Int) (l : List Int) : Option (List Int) :=
  (impl_shuffleOf_p fuel keys (l.length : Int)).bind fun x1 =>
  impl_shuffledNumbers_l1 l x1 0 []
theorem impl_shuffledNumbers_ok (fuel : Nat) (keys : List Int) (l : List Int) (r : (List Int)) (hH : impl_shuffledNumbers_p fuel keys l = some r) : SpecR Tryz.prog 32 [.s (List.map encInt keys), .s (List.map encInt l)] (.w 1 (r.map encInt)) := by
 refine fn_ok T Tryz.func32 rfl (by decide) rfl ?_
 refine AW.seq (AW.region ?_)
 refine AO.pu T ?_
 refine AO.nil (AW.seq ?_)
 refine AW.region ?_
 refine AO.step rfl (mk0_ok T rfl rfl rfl rfl) ?_
 refine AO.pu T ?_
 refine AO.nil ?_
 iterate 2 refine AW.seq ?_
 obtain ⟨x1, hx2, hH⟩ := bindE hH
 refine AW.region ?_
 iterate 2 refine AO.pu T ?_
 refine AO.val rfl rfl (len_map_ok T rfl rfl rfl) ?_
 refine AO.step rfl (call_ok rfl 1 rfl rfl rfl (impl_shuffleOf_ok fuel _ _ _ (hx2)) rfl rfl rfl) ?_
 refine AO.val rfl rfl (len_row_ok T rfl rfl rfl rfl) ?_
 refine AO.pu T ?_
 refine AO.nil ?_
 refine AW.block ?_
 refine AW.loopS (fun s : Nat × (List Int) => (⟨[(1, .s (List.map encInt l)), (5, .R 5), (12, .R 1), (13, (x1.length : Int)), (14, (s.1 : Int))], [(1, .row 1 (List.map encInt x1)), (5, .row 1 (List.map encInt s.2))], 27, []⟩ : St)) (fun s => s.1 ≤ x1.length ∧ impl_shuffledNumbers_l1 l (x1.drop s.1) s.1 s.2 = some r) (fun s => x1.length - s.1) (0, []) ⟨Nat.zero_le _, hH⟩ ?_ ?_
 refine Le.trans (Le.void 5 5 1 rfl rfl) ?_
 exact Le.ct 0 0
 rintro ⟨k3, v18⟩ ⟨hk, hH⟩
 replace hH : impl_shuffledNumbers_l1 l (x1.drop k3) k3 v18 = some r := hH
 try dsimp only
 refine AW.boundR (id := 1) (l := x1) rfl (fun hb7 => ?_)
 rcases hd6 : x1.drop k3 with _ | ⟨y4, ys5⟩
 rw [hd6, impl_shuffledNumbers_l1] at hH
 have hlt8 := drop_ge hd6
 refine AW.seq (AW.region ?_)
 refine AO.pu T ?_
 refine AO.nil (AW.seq ?_)
 refine AW.condF' (b := decide ((k3 : Int) < (x1.length : Int))) rfl (rngF hlt8) ?_
 refine AW.exit ?_
 refine AW.seq (AW.region ?_)
 iterate 2 refine AO.pu T ?_
 refine AO.nil (AW.ret ?_)
 have hR := someE hH; subst hR
 exact retQ.i [5] rfl (.c (.c (.rowR rfl)))
 rw [hd6, impl_shuffledNumbers_l1] at hH
 have hlt8 := drop_lt hd6
 refine AW.seq (AW.region ?_)
 refine AO.pu T ?_
 refine AO.nil (AW.seq ?_)
 refine AW.condT' (b := decide ((k3 : Int) < (x1.length : Int))) rfl (rngT hlt8) ?_
 refine AW.skip ?_
 refine AW.seq ?_
 refine AW.block ?_
 refine AW.seq (AW.region ?_)
 refine AO.val rfl rfl (ix_row_ok T rfl rfl rfl rfl rfl rfl (getI_drop hd6)) ?_
 refine AO.val rfl rfl (load_row_ok T rfl rfl rfl rfl (getI_get (getI_drop hd6)) rfl rfl rfl) ?_
 refine AO.pu T ?_
 refine AO.nil ?_
 obtain ⟨x20, hx21, hH⟩ := bindE hH
 obtain ⟨u22, hx23, hH⟩ := bindE hH
 refine AW.region ?_
 iterate 3 refine AO.pu T ?_
 refine AO.val rfl rfl (ix_map_ok T rfl rfl rfl rfl rfl (hx21) rfl) ?_
 refine AO.pu T ?_
 refine AO.step rfl (mk_map_ok T rfl 6 rfl rfl rfl rfl rfl (f := encInt) (l := [x20]) rfl rfl (fun _ => rfl) rfl rfl rfl rfl rfl) ?_
 refine AO.step rfl (app_rv_map T rfl 7 rfl rfl rfl rfl rfl (by decide) rfl rfl rfl rfl (fun _ => rfl) (needT (hx23)) rfl rfl) ?_
 refine AO.pu T ?_
 refine AO.nil ?_
 refine AW.region ?_
 refine AO.val rfl rfl (ar_ok rfl rfl rfl rfl (inI_succ hlt8 hb7)) ?_
 refine AO.pu T ?_
 refine AO.nil ?_
 refine ⟨(k3 + 1, (v18 ++ [x20])), ⟨Nat.succ_le_of_lt hlt8, (by rw [drop_succ_of hd6]; exact hH)⟩, (by have := hlt8; dsimp only; omega), ?_⟩
 exact Le.ct 7 5

def impl_without_l1 (other : List Int) : List Int → Nat → List Int → Option ((List Int))
  | [], k1, v16 =>
    some v16
  | y2 :: ys3, k1, v16 =>
    (slices_Contains_int_p other y2).bind fun x18 =>
    cond (!x18)
      ((need (fitsB 8 (v16.length + ([y2]).length))).bind fun u20 =>
      impl_without_l1 other ys3 (k1 + 1) (v16 ++ [y2]))
      (impl_without_l1 other ys3 (k1 + 1) v16)
def impl_without_p (l : List Int) (other : List Int) : Option (List Int) :=
  impl_without_l1 other l 0 []
theorem impl_without_ok (l : List Int) (other : List Int) (r : (List Int)) (hH : impl_without_p l other = some r) : SpecR Tryz.prog 34 [.s (List.map encInt l), .s (List.map encInt other)] (.w 1 (r.map encInt)) := by
 refine fn_ok T Tryz.func34 rfl (by decide) rfl ?_
 refine AW.seq (AW.region ?_)
 refine AO.pu T ?_
 refine AO.nil (AW.seq ?_)
 refine AW.region ?_
 refine AO.step rfl (mk0_ok T rfl rfl rfl rfl) ?_
 refine AO.pu T ?_
 refine AO.nil ?_
 iterate 2 refine AW.seq ?_
 refine AW.region ?_
 refine AO.pu T ?_
 refine AO.val rfl rfl (len_map_ok T rfl rfl rfl) ?_
 refine AO.pu T ?_
 refine AO.nil ?_
 refine AW.block ?_
 refine AW.loopS (fun s : Nat × (List Int) => (⟨[(1, .s (List.map encInt other)), (5, .R 4), (9, .s (List.map encInt l)), (10, (l.length : Int)), (11, (s.1 : Int))], [(4, .row 1 (List.map encInt s.2))], 25, []⟩ : St)) (fun s => s.1 ≤ l.length ∧ impl_without_l1 other (l.drop s.1) s.1 s.2 = some r) (fun s => l.length - s.1) (0, []) ⟨Nat.zero_le _, hH⟩ ?_ ?_
 refine Le.trans (Le.void 5 4 1 rfl rfl) ?_
 exact Le.ct 0 0
 rintro ⟨k1, v16⟩ ⟨hk, hH⟩
 replace hH : impl_without_l1 other (l.drop k1) k1 v16 = some r := hH
 try dsimp only
 refine AW.boundM (t := 9) (l := l) rfl (fun hb5 => ?_)
 rcases hd4 : l.drop k1 with _ | ⟨y2, ys3⟩
 rw [hd4, impl_without_l1] at hH
 have hlt6 := drop_ge hd4
 refine AW.seq (AW.region ?_)
 refine AO.pu T ?_
 refine AO.nil (AW.seq ?_)
 refine AW.condF' (b := decide ((k1 : Int) < (l.length : Int))) rfl (rngF hlt6) ?_
 refine AW.exit ?_
 refine AW.seq (AW.region ?_)
 iterate 2 refine AO.pu T ?_
 refine AO.nil (AW.ret ?_)
 have hR := someE hH; subst hR
 exact retQ.i [4] rfl (.c (.c (.rowR rfl)))
 rw [hd4, impl_without_l1] at hH
 have hlt6 := drop_lt hd4
 refine AW.seq (AW.region ?_)
 refine AO.pu T ?_
 refine AO.nil (AW.seq ?_)
 refine AW.condT' (b := decide ((k1 : Int) < (l.length : Int))) rfl (rngT hlt6) ?_
 refine AW.skip ?_
 refine AW.seq ?_
 refine AW.block ?_
 refine AW.seq (AW.region ?_)
 refine AO.val rfl rfl (ix_map_ok T rfl rfl rfl rfl rfl (getI_drop hd4) rfl) ?_
 iterate 2 refine AO.pu T ?_
 refine AO.nil (AW.seq ?_)
 obtain ⟨x18, hx19, hH⟩ := bindE hH
 refine AW.region ?_
 iterate 2 refine AO.pu T ?_
 refine AO.val rfl rfl (callV_ok rfl rfl rfl rfl (slices_Contains_int_ok _ _ _ (hx19)) rfl) ?_
 refine AO.pu T ?_
 refine AO.nil ?_
 refine AW.cond (b := (!x18)) rfl (fun hc => ?_) (fun hc => ?_)
 replace hH := condT hc hH
 obtain ⟨u20, hx21, hH⟩ := bindE hH
 refine AW.region ?_
 iterate 2 refine AO.pu T ?_
 refine AO.step rfl (mk_map_ok T rfl 5 rfl rfl rfl rfl rfl (f := encInt) (l := [y2]) rfl rfl (fun _ => rfl) rfl rfl rfl rfl rfl) ?_
 refine AO.step rfl (app_rv_map T rfl 6 rfl rfl rfl rfl rfl (by decide) rfl rfl rfl rfl (fun _ => rfl) (needT (hx21)) rfl rfl) ?_
 refine AO.pu T ?_
 refine AO.nil ?_
 refine AW.region ?_
 refine AO.val rfl rfl (ar_ok rfl rfl rfl rfl (inI_succ hlt6 hb5)) ?_
 refine AO.pu T ?_
 refine AO.nil ?_
 refine ⟨(k1 + 1, (v16 ++ [y2])), ⟨Nat.succ_le_of_lt hlt6, (by rw [drop_succ_of hd4]; exact hH)⟩, (by have := hlt6; dsimp only; omega), ?_⟩
 exact Le.ct 6 4
 replace hH := condF hc hH
 refine AW.skip ?_
 refine AW.region ?_
 refine AO.val rfl rfl (ar_ok rfl rfl rfl rfl (inI_succ hlt6 hb5)) ?_
 refine AO.pu T ?_
 refine AO.nil ?_
 refine ⟨(k1 + 1, v16), ⟨Nat.succ_le_of_lt hlt6, (by rw [drop_succ_of hd4]; exact hH)⟩, (by have := hlt6; dsimp only; omega), ?_⟩
 exact Le.ct 0 0

def impl_ReplaceJudge_l1 (l : List Official) (clubs : List Int) (level : Int) (most : Int) (panel : List Int) (gone : Int) (fuel : Nat) : List Int → Nat → Option (((List Int) × Bool))
  | [], k13 =>
    some ([], false)
  | y14 :: ys15, k13 =>
    (slices_Contains_int_p panel y14).bind fun x40 =>
    cond x40
      (impl_ReplaceJudge_l1 l clubs level most panel gone fuel ys15 (k13 + 1))
      ((impl_without_p panel [gone]).bind fun x42 =>
      (need (fitsB 8 (x42.length + ([y14]).length))).bind fun u44 =>
      (slices_Sort_int_p (x42 ++ [y14])).bind fun x46 =>
      (impl_isPanel_p fuel l clubs level most x46).bind fun x48 =>
      cond x48
        (some (x46, true))
        (impl_ReplaceJudge_l1 l clubs level most panel gone fuel ys15 (k13 + 1)))
def impl_ReplaceJudge_p (fuel : Nat) (keys : List Int) (l : List Official) (clubs : List Int) (level : Int) (most : Int) (panel : List Int) (gone : Int) : Option ((List Int) × Bool) :=
  (impl_areKeys_p keys 6).bind fun x1 =>
  (opt (!(!x1)) default (impl_canPanel_p l clubs level most)).bind fun x3 =>
  (opt (!((!x1) || (!x3))) default (impl_isPanel_p fuel l clubs level most panel)).bind fun x5 =>
  (opt (!(((!x1) || (!x3)) || (!x5))) default (slices_Contains_int_p panel gone)).bind fun x7 =>
  cond ((((!x1) || (!x3)) || (!x5)) || (!x7))
    (some ([], false))
    ((impl_eligible_p l clubs level).bind fun x9 =>
    (impl_shuffledNumbers_p fuel keys x9).bind fun x11 =>
    impl_ReplaceJudge_l1 l clubs level most panel gone fuel x11 0)
theorem impl_ReplaceJudge_ok (fuel : Nat) (keys : List Int) (l : List Official) (clubs : List Int) (level : Int) (most : Int) (panel : List Int) (gone : Int) (r : ((List Int) × Bool)) (hH : impl_ReplaceJudge_p fuel keys l clubs level most panel gone = some r) : SpecR Tryz.prog 6 [.s (List.map encInt keys), .s (List.map encOfficial l), .s (List.map encInt clubs), level, most, .s (List.map encInt panel), gone] (.t [.w 1 (r.1.map encInt), .v (.bool r.2)]) := by
 refine fn_ok T Tryz.func6 rfl (by decide) rfl ?_
 refine AW.seq (AW.region ?_)
 iterate 2 refine AO.pu T ?_
 refine AO.nil ?_
 iterate 2 refine AW.seq ?_
 obtain ⟨x1, hx2, hH⟩ := bindE hH
 obtain ⟨x3, hx4, hH⟩ := bindE hH
 obtain ⟨x5, hx6, hH⟩ := bindE hH
 obtain ⟨x7, hx8, hH⟩ := bindE hH
 refine AW.region ?_
 refine AO.pu T ?_
 refine AO.val rfl rfl (callV_ok rfl rfl rfl rfl (impl_areKeys_ok _ _ _ (hx2)) rfl) ?_
 iterate 2 refine AO.pu T ?_
 iterate 4 refine AO.pureG T [] rfl trivial rfl rfl ?_
 refine AO.guard [23, 24, 25, 26] rfl ⟨fun h => h, fun h => h, fun h => h, fun h => h, trivial⟩ (fun hg => callV_ok rfl rfl rfl rfl (impl_canPanel_ok _ _ _ _ _ (optT hx4 hg)) rfl) rfl ?_
 refine AO.pureG T [27] rfl ⟨fun h => h, trivial⟩ rfl rfl ?_
 refine AO.val rfl rfl (pick_or rfl rfl rfl rfl) ?_
 refine AO.pu T ?_
 iterate 5 refine AO.pureG T [] rfl trivial rfl rfl ?_
 refine AO.guard [31, 32, 33, 34, 35] rfl ⟨fun h => h, fun h => h, fun h => h, fun h => h, fun h => h, trivial⟩ (fun hg => callV_ok rfl rfl rfl rfl (impl_isPanel_ok fuel _ _ _ _ _ _ (optT hx6 hg)) rfl) rfl ?_
 refine AO.pureG T [36] rfl ⟨fun h => h, trivial⟩ rfl rfl ?_
 refine AO.val rfl rfl (pick_or rfl rfl rfl rfl) ?_
 refine AO.pu T ?_
 iterate 2 refine AO.pureG T [] rfl trivial rfl rfl ?_
 refine AO.guard [40, 41] rfl ⟨fun h => h, fun h => h, trivial⟩ (fun hg => callV_ok rfl rfl rfl rfl (slices_Contains_int_ok _ _ _ (optT hx8 hg)) rfl) rfl ?_
 refine AO.pureG T [42] rfl ⟨fun h => h, trivial⟩ rfl rfl ?_
 refine AO.val rfl rfl (pick_or rfl rfl rfl rfl) ?_
 refine AO.nil ?_
 refine AW.le (Le.ct 0 0 (σ' := (⟨[(0, .s (List.map encInt keys)), (1, .s (List.map encOfficial l)), (2, .s (List.map encInt clubs)), (3, level), (4, most), (5, .s (List.map encInt panel)), (6, gone), (44, .v (.bool ((((!x1) || (!x3)) || (!x5)) || (!x7))))], [], 76, []⟩ : St))) ?_
 refine AW.cond (b := ((((!x1) || (!x3)) || (!x5)) || (!x7))) rfl (fun hc => ?_) (fun hc => ?_)
 replace hH := condT hc hH
 refine AW.seq (AW.region ?_)
 iterate 2 refine AO.pu T ?_
 refine AO.nil (AW.ret ?_)
 have hR := someE hH; subst hR
 exact retQ.i [] rfl (.t (expLG_cons (.c .nil) (expLG_cons (.c .v) (expLG_nil))))
 replace hH := condF hc hH
 refine AW.skip ?_
 iterate 2 refine AW.seq ?_
 obtain ⟨x9, hx10, hH⟩ := bindE hH
 obtain ⟨x11, hx12, hH⟩ := bindE hH
 refine AW.region ?_
 iterate 4 refine AO.pu T ?_
 refine AO.step rfl (call_ok rfl 1 rfl rfl rfl (impl_eligible_ok _ _ _ _ (hx10)) rfl rfl rfl) ?_
 refine AO.step rfl (callL_ok rfl 2 rfl rfl (es := [.s (List.map encInt keys), .s (List.map encInt x9)]) (by exact ⟨.free rfl, (.rowR rfl (.map fun y => .vs rfl)), trivial⟩) (impl_shuffledNumbers_ok fuel _ _ _ (hx12)) (zfree_map (fun y => (.cons (zfree_v _) .nil))) rfl rfl rfl) ?_
 refine AO.val rfl rfl (len_row_ok T rfl rfl rfl rfl) ?_
 refine AO.pu T ?_
 refine AO.nil ?_
 refine AW.block ?_
 refine AW.loopS (fun s : Nat => (⟨[(1, .s (List.map encOfficial l)), (2, .s (List.map encInt clubs)), (3, level), (4, most), (5, .s (List.map encInt panel)), (6, gone), (50, .R 2), (51, (x11.length : Int)), (52, (s : Int))], [(2, .row 1 (List.map encInt x11))], 76, []⟩ : St)) (fun s => s ≤ x11.length ∧ impl_ReplaceJudge_l1 l clubs level most panel gone fuel (x11.drop s) s = some r) (fun s => x11.length - s) 0 ⟨Nat.zero_le _, hH⟩ ?_ ?_
 exact Le.ct 0 0
 rintro k13 ⟨hk, hH⟩
 replace hH : impl_ReplaceJudge_l1 l clubs level most panel gone fuel (x11.drop k13) k13 = some r := hH
 try dsimp only
 refine AW.boundR (id := 2) (l := x11) rfl (fun hb17 => ?_)
 rcases hd16 : x11.drop k13 with _ | ⟨y14, ys15⟩
 rw [hd16, impl_ReplaceJudge_l1] at hH
 have hlt18 := drop_ge hd16
 refine AW.seq (AW.region ?_)
 refine AO.pu T ?_
 refine AO.nil (AW.seq ?_)
 refine AW.condF' (b := decide ((k13 : Int) < (x11.length : Int))) rfl (rngF hlt18) ?_
 refine AW.exit ?_
 refine AW.seq (AW.region ?_)
 iterate 2 refine AO.pu T ?_
 refine AO.nil (AW.ret ?_)
 have hR := someE hH; subst hR
 exact retQ.i [] rfl (.t (expLG_cons (.c .nil) (expLG_cons (.c .v) (expLG_nil))))
 rw [hd16, impl_ReplaceJudge_l1] at hH
 have hlt18 := drop_lt hd16
 refine AW.seq (AW.region ?_)
 refine AO.pu T ?_
 refine AO.nil (AW.seq ?_)
 refine AW.condT' (b := decide ((k13 : Int) < (x11.length : Int))) rfl (rngT hlt18) ?_
 refine AW.skip ?_
 refine AW.seq ?_
 refine AW.block ?_
 refine AW.seq (AW.region ?_)
 refine AO.val rfl rfl (ix_row_ok T rfl rfl rfl rfl rfl rfl (getI_drop hd16)) ?_
 refine AO.val rfl rfl (load_row_ok T rfl rfl rfl rfl (getI_get (getI_drop hd16)) rfl rfl rfl) ?_
 refine AO.pu T ?_
 refine AO.nil ?_
 iterate 2 refine AW.seq ?_
 obtain ⟨x40, hx41, hH⟩ := bindE hH
 refine AW.region ?_
 iterate 2 refine AO.pu T ?_
 refine AO.val rfl rfl (callV_ok rfl rfl rfl rfl (slices_Contains_int_ok _ _ _ (hx41)) rfl) ?_
 refine AO.nil ?_
 refine AW.cond (b := x40) rfl (fun hc => ?_) (fun hc => ?_)
 replace hH := condT hc hH
 refine AW.exit ?_
 refine AW.region ?_
 refine AO.val rfl rfl (ar_ok rfl rfl rfl rfl (inI_succ hlt18 hb17)) ?_
 refine AO.pu T ?_
 refine AO.nil ?_
 refine ⟨k13 + 1, ⟨Nat.succ_le_of_lt hlt18, (by rw [drop_succ_of hd16]; exact hH)⟩, (by have := hlt18; dsimp only; omega), ?_⟩
 exact Le.ct 0 0
 replace hH := condF hc hH
 refine AW.skip ?_
 refine AW.seq ?_
 obtain ⟨x42, hx43, hH⟩ := bindE hH
 obtain ⟨u44, hx45, hH⟩ := bindE hH
 refine AW.region ?_
 iterate 2 refine AO.pu T ?_
 refine AO.step rfl (mk_map_ok T rfl 11 rfl rfl rfl rfl rfl (f := encInt) (l := [gone]) rfl rfl (fun _ => rfl) rfl rfl rfl rfl rfl) ?_
 refine AO.step rfl (callL_ok rfl 12 rfl rfl (es := [.s (List.map encInt panel), .s (List.map encInt [gone])]) (by exact ⟨.free rfl, (.rowR rfl (.map fun y => .vs rfl)), trivial⟩) (impl_without_ok _ _ _ (hx43)) (zfree_map (fun y => (.cons (zfree_v _) .nil))) rfl rfl rfl) ?_
 refine AO.pu T ?_
 refine AO.step rfl (mk_map_ok T rfl 13 rfl rfl rfl rfl rfl (f := encInt) (l := [y14]) rfl rfl (fun _ => rfl) rfl rfl rfl rfl rfl) ?_
 refine AO.step rfl (app_rv_map T rfl 14 rfl rfl rfl rfl rfl (by decide) rfl rfl rfl rfl (fun _ => rfl) (needT (hx45)) rfl rfl) ?_
 refine AO.pu T ?_
 refine AO.nil (AW.seq ?_)
 obtain ⟨x46, hx47, hH⟩ := bindE hH
 refine AW.region ?_
 refine AO.pu T ?_
 refine AO.step rfl (callM_ok rfl 15 rfl rfl (es := [.w 1 ((x42 ++ [y14]).map encInt)]) (outs := [.w 1 (x46.map encInt)]) (ids := [14]) (by exact expLG_cons (.c (.rowR rfl)) (expLG_nil)) (by decide) (.inl (by rfl)) (by rfl) (slices_Sort_int_ok _ _ (hx47)) rfl (by rfl) rfl) ?_
 refine AO.nil (AW.seq ?_)
 obtain ⟨x48, hx49, hH⟩ := bindE hH
 refine AW.region ?_
 iterate 5 refine AO.pu T ?_
 refine AO.val rfl rfl (callLV_ok rfl rfl rfl (es := [.s (List.map encOfficial l), .s (List.map encInt clubs), level, most, .s (List.map encInt x46)]) ⟨.free rfl, .free rfl, .free rfl, .free rfl, (.rowR rfl (.map fun y => .vs rfl)), trivial⟩ (impl_isPanel_ok fuel _ _ _ _ _ _ (hx49)) (zfree_v _) rfl) ?_
 refine AO.nil ?_
 refine AW.cond (b := x48) rfl (fun hc => ?_) (fun hc => ?_)
 replace hH := condT hc hH
 refine AW.seq (AW.region ?_)
 iterate 3 refine AO.pu T ?_
 refine AO.nil ?_
 refine AW.le (Le.ct 0 0 (σ' := (⟨[(14, .R 14), (15, .v (.bool true))], [(14, .row 1 (List.map encInt x46))], 76, []⟩ : St))) ?_
 refine AW.ret ?_
 have hR := someE hH; subst hR
 exact retQ.i [14] rfl (.t (expLG_cons (.c (.rowR rfl)) (expLG_cons (.c .v) (expLG_nil))))
 replace hH := condF hc hH
 refine AW.skip ?_
 refine AW.region ?_
 refine AO.val rfl rfl (ar_ok rfl rfl rfl rfl (inI_succ hlt18 hb17)) ?_
 refine AO.pu T ?_
 refine AO.nil ?_
 refine ⟨k13 + 1, ⟨Nat.succ_le_of_lt hlt18, (by rw [drop_succ_of hd16]; exact hH)⟩, (by have := hlt18; dsimp only; omega), ?_⟩
 exact Le.ct 0 0

def spec_paIs_l1 (l : List Official) (most : Int) (panel : List Int) (x1 : (List Int)) : List Int → Nat → List Int → Option Bool
  | [], k5, v32 =>
    (spec_l1In_p (panel.length : Int) 1 9).bind fun x34 =>
    (opt x34 default (spec_l1Rising_p panel 1 999)).bind fun x36 =>
    some (x34 && x36)
  | y6 :: ys7, k5, v32 =>
    (spec_l1Has_p x1 y6).bind fun x38 =>
    cond (!x38)
      (some false)
      ((spec_paFind_p l y6).bind fun x40 =>
      (getI l x40).bind fun x42 =>
      (getI v32 x42.club).bind fun x44 =>
      (getI (v32.set x42.club.toNat (w64 (x44 + 1))) x42.club).bind fun x46 =>
      cond (decide (x46 > most))
        (some false)
        (spec_paIs_l1 l most panel x1 ys7 (k5 + 1) (v32.set x42.club.toNat (w64 (x44 + 1)))))
def spec_paIs_p (fuel : Nat) (l : List Official) (clubs : List Int) (level : Int) (most : Int) (panel : List Int) : Option Bool :=
  (spec_paEligible_p fuel l clubs level).bind fun x1 =>
  (need (decide (0 ≤ 21) && fitsB 8 (21 : Int).toNat)).bind fun u3 =>
  spec_paIs_l1 l most panel x1 panel 0 (List.replicate (21 : Int).toNat (0 : Int))
theorem spec_paIs_ok (fuel : Nat) (l : List Official) (clubs : List Int) (level : Int) (most : Int) (panel : List Int) (r : Bool) (hH : spec_paIs_p fuel l clubs level most panel = some r) : SpecR Tryz.prog 39 [.s (List.map encOfficial l), .s (List.map encInt clubs), level, most, .s (List.map encInt panel)] (.v (.bool r)) := by
 refine fn_ok T Tryz.func39 rfl (by decide) rfl ?_
 refine AW.seq (AW.region ?_)
 refine AO.pu T ?_
 refine AO.nil (AW.seq ?_)
 obtain ⟨x1, hx2, hH⟩ := bindE hH
 refine AW.region ?_
 iterate 3 refine AO.pu T ?_
 refine AO.step rfl (call_ok rfl 1 rfl rfl rfl (spec_paEligible_ok fuel _ _ _ _ (hx2)) rfl rfl rfl) ?_
 refine AO.pu T ?_
 refine AO.nil (AW.seq ?_)
 obtain ⟨u3, hx4, hH⟩ := bindE hH
 refine AW.region ?_
 refine AO.step rfl (make_map_ok T rfl 2 rfl rfl rfl rfl rfl (f := encInt) (zo := 0) (by repeat constructor) (by decide) rfl rfl (Bool.and_eq_true_iff.1 (needT (hx4))).1 (Bool.and_eq_true_iff.1 (needT (hx4))).2 rfl rfl) ?_
 refine AO.pu T ?_
 refine AO.nil ?_
 iterate 2 refine AW.seq ?_
 refine AW.region ?_
 refine AO.pu T ?_
 refine AO.val rfl rfl (len_map_ok T rfl rfl rfl) ?_
 refine AO.pu T ?_
 refine AO.nil ?_
 refine AW.block ?_
 refine AW.loopS (fun s : Nat × (List Int) => (⟨[(0, .s (List.map encOfficial l)), (3, most), (4, .s (List.map encInt panel)), (11, .R 1), (12, .R 2), (21, .s (List.map encInt panel)), (22, (panel.length : Int)), (23, (s.1 : Int))], [(1, .row 1 (List.map encInt x1)), (2, .row 1 (List.map encInt s.2))], 58, []⟩ : St)) (fun s => s.1 ≤ panel.length ∧ spec_paIs_l1 l most panel x1 (panel.drop s.1) s.1 s.2 = some r) (fun s => panel.length - s.1) (0, (List.replicate (21 : Int).toNat (0 : Int))) ⟨Nat.zero_le _, hH⟩ ?_ ?_
 exact Le.ct 0 0
 rintro ⟨k5, v32⟩ ⟨hk, hH⟩
 replace hH : spec_paIs_l1 l most panel x1 (panel.drop k5) k5 v32 = some r := hH
 try dsimp only
 refine AW.boundM (t := 4) (l := panel) rfl (fun hb9 => ?_)
 rcases hd8 : panel.drop k5 with _ | ⟨y6, ys7⟩
 rw [hd8, spec_paIs_l1] at hH
 have hlt10 := drop_ge hd8
 refine AW.seq (AW.region ?_)
 refine AO.pu T ?_
 refine AO.nil (AW.seq ?_)
 refine AW.condF' (b := decide ((k5 : Int) < (panel.length : Int))) rfl (rngF hlt10) ?_
 refine AW.exit ?_
 refine AW.seq ?_
 obtain ⟨x34, hx35, hH⟩ := bindE hH
 obtain ⟨x36, hx37, hH⟩ := bindE hH
 refine AW.region ?_
 refine AO.pu T ?_
 refine AO.val rfl rfl (len_map_ok T rfl rfl rfl) ?_
 refine AO.val rfl rfl (callV_ok rfl rfl rfl rfl (spec_l1In_ok _ _ _ _ (hx35)) rfl) ?_
 refine AO.pu T ?_
 refine AO.pureG T [] rfl trivial rfl rfl ?_
 refine AO.guard [55] rfl ⟨fun h => h, trivial⟩ (fun hg => callV_ok rfl rfl rfl rfl (spec_l1Rising_ok _ _ _ _ (optT hx37 hg)) rfl) rfl ?_
 refine AO.val rfl rfl (pick_and rfl rfl rfl rfl) ?_
 refine AO.pu T ?_
 refine AO.nil (AW.ret ?_)
 have hR := someE hH; subst hR
 exact retQ.i [] rfl (.c (.c .v))
 rw [hd8, spec_paIs_l1] at hH
 have hlt10 := drop_lt hd8
 refine AW.seq (AW.region ?_)
 refine AO.pu T ?_
 refine AO.nil (AW.seq ?_)
 refine AW.condT' (b := decide ((k5 : Int) < (panel.length : Int))) rfl (rngT hlt10) ?_
 refine AW.skip ?_
 refine AW.seq ?_
 refine AW.block ?_
 refine AW.seq (AW.region ?_)
 refine AO.val rfl rfl (ix_map_ok T rfl rfl rfl rfl rfl (getI_drop hd8) rfl) ?_
 iterate 2 refine AO.pu T ?_
 refine AO.nil ?_
 iterate 2 refine AW.seq ?_
 obtain ⟨x38, hx39, hH⟩ := bindE hH
 refine AW.region ?_
 iterate 2 refine AO.pu T ?_
 refine AO.val rfl rfl (callLV_ok rfl rfl rfl (es := [.s (List.map encInt x1), y6]) ⟨(.rowR rfl (.map fun y => .vs rfl)), .free rfl, trivial⟩ (spec_l1Has_ok _ _ _ (hx39)) (zfree_v _) rfl) ?_
 refine AO.pu T ?_
 refine AO.nil ?_
 refine AW.cond (b := (!x38)) rfl (fun hc => ?_) (fun hc => ?_)
 replace hH := condT hc hH
 refine AW.seq (AW.region ?_)
 refine AO.pu T ?_
 refine AO.nil (AW.ret ?_)
 have hR := someE hH; subst hR
 exact retQ.i [] rfl (.c (.c .v))
 replace hH := condF hc hH
 refine AW.skip ?_
 refine AW.seq ?_
 obtain ⟨x40, hx41, hH⟩ := bindE hH
 obtain ⟨x42, hx43, hH⟩ := bindE hH
 refine AW.region ?_
 iterate 3 refine AO.pu T ?_
 refine AO.val rfl rfl (callV_ok rfl rfl rfl rfl (spec_paFind_ok _ _ _ (hx41)) rfl) ?_
 refine AO.val rfl rfl (ix_map_ok T rfl rfl rfl rfl rfl (hx43) rfl) ?_
 iterate 3 refine AO.pu T ?_
 refine AO.nil (AW.seq ?_)
 obtain ⟨x44, hx45, hH⟩ := bindE hH
 refine AW.region ?_
 iterate 2 refine AO.pu T ?_
 refine AO.val rfl rfl (ix_row_ok T rfl rfl rfl rfl rfl rfl (hx45)) ?_
 refine AO.val rfl rfl (load_row_ok T rfl rfl rfl rfl (getI_get (hx45)) rfl rfl rfl) ?_
 refine AO.val rfl rfl (arw_ok rfl rfl rfl rfl) ?_
 refine AO.val rfl rfl (ix_row_ok T rfl rfl rfl rfl rfl rfl (hx45)) ?_
 refine AO.step rfl (store_row_ok T rfl rfl rfl rfl rfl (getI_get (hx45)) rfl rfl rfl rfl (u' := w64 (x44 + 1)) rfl rfl) ?_
 refine AO.nil (AW.seq ?_)
 obtain ⟨x46, hx47, hH⟩ := bindE hH
 refine AW.region ?_
 iterate 2 refine AO.pu T ?_
 refine AO.val rfl rfl (ix_row_ok T rfl rfl rfl rfl rfl rfl (hx47)) ?_
 refine AO.val rfl rfl (load_row_ok T rfl rfl rfl rfl (getI_get (hx47)) rfl rfl rfl) ?_
 iterate 2 refine AO.pu T ?_
 refine AO.nil ?_
 refine AW.le (Le.ct 0 0 (σ' := (⟨[(0, .s (List.map encOfficial l)), (3, most), (4, .s (List.map encInt panel)), (11, .R 1), (12, .R 2), (21, .s (List.map encInt panel)), (22, (panel.length : Int)), (23, (k5 : Int)), (49, .v (.bool (decide (x46 > most))))], [(1, .row 1 (List.map encInt x1)), (2, .row 1 (List.map encInt (v32.set x42.club.toNat (w64 (x44 + 1)))))], 58, []⟩ : St))) ?_
 refine AW.cond (b := decide (x46 > most)) rfl (fun hc => ?_) (fun hc => ?_)
 replace hH := condT hc hH
 refine AW.seq (AW.region ?_)
 refine AO.pu T ?_
 refine AO.nil (AW.ret ?_)
 have hR := someE hH; subst hR
 exact retQ.i [] rfl (.c (.c .v))
 replace hH := condF hc hH
 refine AW.skip ?_
 refine AW.region ?_
 refine AO.val rfl rfl (ar_ok rfl rfl rfl rfl (inI_succ hlt10 hb9)) ?_
 refine AO.pu T ?_
 refine AO.nil ?_
 refine ⟨(k5 + 1, (v32.set x42.club.toNat (w64 (x44 + 1)))), ⟨Nat.succ_le_of_lt hlt10, (by rw [drop_succ_of hd8]; exact hH)⟩, (by have := hlt10; dsimp only; omega), ?_⟩
 exact Le.ct 0 0

def spec_paWithout_l1 (gone : Int) : List Int → Nat → List Int → Option ((List Int))
  | [], k1, v12 =>
    some v12
  | y2 :: ys3, k1, v12 =>
    cond (y2 != gone)
      ((need (fitsB 8 (v12.length + ([y2]).length))).bind fun u14 =>
      spec_paWithout_l1 gone ys3 (k1 + 1) (v12 ++ [y2]))
      (spec_paWithout_l1 gone ys3 (k1 + 1) v12)
def spec_paWithout_p (l : List Int) (gone : Int) : Option (List Int) :=
  spec_paWithout_l1 gone l 0 []
theorem spec_paWithout_ok (l : List Int) (gone : Int) (r : (List Int)) (hH : spec_paWithout_p l gone = some r) : SpecR Tryz.prog 43 [.s (List.map encInt l), gone] (.w 1 (r.map encInt)) := by
 refine fn_ok T Tryz.func43 rfl (by decide) rfl ?_
 refine AW.seq (AW.region ?_)
 refine AO.pu T ?_
 refine AO.nil (AW.seq ?_)
 refine AW.region ?_
 refine AO.pu T ?_
 refine AO.nil ?_
 iterate 2 refine AW.seq ?_
 refine AW.region ?_
 refine AO.pu T ?_
 refine AO.val rfl rfl (len_map_ok T rfl rfl rfl) ?_
 refine AO.pu T ?_
 refine AO.nil ?_
 refine AW.block ?_
 refine AW.loopS (fun s : Nat × (List Int) => (⟨[(1, gone), (5, .R 4), (8, .s (List.map encInt l)), (9, (l.length : Int)), (10, (s.1 : Int))], [(4, .row 1 (List.map encInt s.2))], 23, []⟩ : St)) (fun s => s.1 ≤ l.length ∧ spec_paWithout_l1 gone (l.drop s.1) s.1 s.2 = some r) (fun s => l.length - s.1) (0, []) ⟨Nat.zero_le _, hH⟩ ?_ ?_
 refine Le.trans (Le.void 5 4 1 rfl rfl) ?_
 exact Le.ct 0 0
 rintro ⟨k1, v12⟩ ⟨hk, hH⟩
 replace hH : spec_paWithout_l1 gone (l.drop k1) k1 v12 = some r := hH
 try dsimp only
 refine AW.boundM (t := 8) (l := l) rfl (fun hb5 => ?_)
 rcases hd4 : l.drop k1 with _ | ⟨y2, ys3⟩
 rw [hd4, spec_paWithout_l1] at hH
 have hlt6 := drop_ge hd4
 refine AW.seq (AW.region ?_)
 refine AO.pu T ?_
 refine AO.nil (AW.seq ?_)
 refine AW.condF' (b := decide ((k1 : Int) < (l.length : Int))) rfl (rngF hlt6) ?_
 refine AW.exit ?_
 refine AW.seq (AW.region ?_)
 iterate 2 refine AO.pu T ?_
 refine AO.nil (AW.ret ?_)
 have hR := someE hH; subst hR
 exact retQ.i [4] rfl (.c (.c (.rowR rfl)))
 rw [hd4, spec_paWithout_l1] at hH
 have hlt6 := drop_lt hd4
 refine AW.seq (AW.region ?_)
 refine AO.pu T ?_
 refine AO.nil (AW.seq ?_)
 refine AW.condT' (b := decide ((k1 : Int) < (l.length : Int))) rfl (rngT hlt6) ?_
 refine AW.skip ?_
 refine AW.seq ?_
 refine AW.block ?_
 refine AW.seq (AW.region ?_)
 refine AO.val rfl rfl (ix_map_ok T rfl rfl rfl rfl rfl (getI_drop hd4) rfl) ?_
 iterate 2 refine AO.pu T ?_
 refine AO.nil (AW.seq ?_)
 refine AW.region ?_
 iterate 3 refine AO.pu T ?_
 refine AO.nil ?_
 refine AW.cond (b := (y2 != gone)) rfl (fun hc => ?_) (fun hc => ?_)
 replace hH := condT hc hH
 obtain ⟨u14, hx15, hH⟩ := bindE hH
 refine AW.region ?_
 iterate 2 refine AO.pu T ?_
 refine AO.step rfl (mk_map_ok T rfl 5 rfl rfl rfl rfl rfl (f := encInt) (l := [y2]) rfl rfl (fun _ => rfl) rfl rfl rfl rfl rfl) ?_
 refine AO.step rfl (app_rv_map T rfl 6 rfl rfl rfl rfl rfl (by decide) rfl rfl rfl rfl (fun _ => rfl) (needT (hx15)) rfl rfl) ?_
 refine AO.pu T ?_
 refine AO.nil ?_
 refine AW.region ?_
 refine AO.val rfl rfl (ar_ok rfl rfl rfl rfl (inI_succ hlt6 hb5)) ?_
 refine AO.pu T ?_
 refine AO.nil ?_
 refine ⟨(k1 + 1, (v12 ++ [y2])), ⟨Nat.succ_le_of_lt hlt6, (by rw [drop_succ_of hd4]; exact hH)⟩, (by have := hlt6; dsimp only; omega), ?_⟩
 exact Le.ct 6 4
 replace hH := condF hc hH
 refine AW.skip ?_
 refine AW.region ?_
 refine AO.val rfl rfl (ar_ok rfl rfl rfl rfl (inI_succ hlt6 hb5)) ?_
 refine AO.pu T ?_
 refine AO.nil ?_
 refine ⟨(k1 + 1, v12), ⟨Nat.succ_le_of_lt hlt6, (by rw [drop_succ_of hd4]; exact hH)⟩, (by have := hlt6; dsimp only; omega), ?_⟩
 exact Le.ct 0 0

def spec_ReplaceJudge_l1 (l : List Official) (clubs : List Int) (level : Int) (most : Int) (panel : List Int) (gone : Int) (fuel : Nat) : List Int → Nat → Option (((List Int) × Bool))
  | [], k13 =>
    some ([], false)
  | y14 :: ys15, k13 =>
    (spec_l1Has_p panel y14).bind fun x36 =>
    cond x36
      (spec_ReplaceJudge_l1 l clubs level most panel gone fuel ys15 (k13 + 1))
      ((spec_paWithout_p panel gone).bind fun x38 =>
      (spec_l1Put_p fuel x38 y14).bind fun x40 =>
      (spec_paIs_p fuel l clubs level most x40).bind fun x42 =>
      cond x42
        (some (x40, true))
        (spec_ReplaceJudge_l1 l clubs level most panel gone fuel ys15 (k13 + 1)))
def spec_ReplaceJudge_p (fuel : Nat) (keys : List Int) (l : List Official) (clubs : List Int) (level : Int) (most : Int) (panel : List Int) (gone : Int) : Option ((List Int) × Bool) :=
  (spec_dwKeys_p keys 6).bind fun x1 =>
  (opt (!(!x1)) default (spec_paAsked_p l clubs level)).bind fun x3 =>
  (opt (!((!x1) || (!x3))) default (spec_paMost_p most)).bind fun x5 =>
  (opt (!(((!x1) || (!x3)) || (!x5))) default (spec_paIs_p fuel l clubs level most panel)).bind fun x7 =>
  (opt (!((((!x1) || (!x3)) || (!x5)) || (!x7))) default (spec_l1Has_p panel gone)).bind fun x9 =>
  cond (((((!x1) || (!x3)) || (!x5)) || (!x7)) || (!x9))
    (some ([], false))
    ((spec_paOrder_p fuel keys l clubs level).bind fun x11 =>
    spec_ReplaceJudge_l1 l clubs level most panel gone fuel x11 0)
theorem spec_ReplaceJudge_ok (fuel : Nat) (keys : List Int) (l : List Official) (clubs : List Int) (level : Int) (most : Int) (panel : List Int) (gone : Int) (r : ((List Int) × Bool)) (hH : spec_ReplaceJudge_p fuel keys l clubs level most panel gone = some r) : SpecR Tryz.prog 7 [.s (List.map encInt keys), .s (List.map encOfficial l), .s (List.map encInt clubs), level, most, .s (List.map encInt panel), gone] (.t [.w 1 (r.1.map encInt), .v (.bool r.2)]) := by
 refine fn_ok T Tryz.func7 rfl (by decide) rfl ?_
 refine AW.seq (AW.region ?_)
 iterate 2 refine AO.pu T ?_
 refine AO.nil ?_
 iterate 2 refine AW.seq ?_
 obtain ⟨x1, hx2, hH⟩ := bindE hH
 obtain ⟨x3, hx4, hH⟩ := bindE hH
 obtain ⟨x5, hx6, hH⟩ := bindE hH
 obtain ⟨x7, hx8, hH⟩ := bindE hH
 obtain ⟨x9, hx10, hH⟩ := bindE hH
 refine AW.region ?_
 refine AO.pu T ?_
 refine AO.val rfl rfl (callV_ok rfl rfl rfl rfl (spec_dwKeys_ok _ _ _ (hx2)) rfl) ?_
 iterate 2 refine AO.pu T ?_
 iterate 3 refine AO.pureG T [] rfl trivial rfl rfl ?_
 refine AO.guard [23, 24, 25] rfl ⟨fun h => h, fun h => h, fun h => h, trivial⟩ (fun hg => callV_ok rfl rfl rfl rfl (spec_paAsked_ok _ _ _ _ (optT hx4 hg)) rfl) rfl ?_
 refine AO.pureG T [26] rfl ⟨fun h => h, trivial⟩ rfl rfl ?_
 refine AO.val rfl rfl (pick_or rfl rfl rfl rfl) ?_
 refine AO.pu T ?_
 refine AO.pureG T [] rfl trivial rfl rfl ?_
 refine AO.guard [30] rfl ⟨fun h => h, trivial⟩ (fun hg => callV_ok rfl rfl rfl rfl (spec_paMost_ok _ _ (optT hx6 hg)) rfl) rfl ?_
 refine AO.pureG T [31] rfl ⟨fun h => h, trivial⟩ rfl rfl ?_
 refine AO.val rfl rfl (pick_or rfl rfl rfl rfl) ?_
 refine AO.pu T ?_
 iterate 5 refine AO.pureG T [] rfl trivial rfl rfl ?_
 refine AO.guard [35, 36, 37, 38, 39] rfl ⟨fun h => h, fun h => h, fun h => h, fun h => h, fun h => h, trivial⟩ (fun hg => callV_ok rfl rfl rfl rfl (spec_paIs_ok fuel _ _ _ _ _ _ (optT hx8 hg)) rfl) rfl ?_
 refine AO.pureG T [40] rfl ⟨fun h => h, trivial⟩ rfl rfl ?_
 refine AO.val rfl rfl (pick_or rfl rfl rfl rfl) ?_
 refine AO.pu T ?_
 iterate 2 refine AO.pureG T [] rfl trivial rfl rfl ?_
 refine AO.guard [44, 45] rfl ⟨fun h => h, fun h => h, trivial⟩ (fun hg => callV_ok rfl rfl rfl rfl (spec_l1Has_ok _ _ _ (optT hx10 hg)) rfl) rfl ?_
 refine AO.pureG T [46] rfl ⟨fun h => h, trivial⟩ rfl rfl ?_
 refine AO.val rfl rfl (pick_or rfl rfl rfl rfl) ?_
 refine AO.nil ?_
 refine AW.le (Le.ct 0 0 (σ' := (⟨[(0, .s (List.map encInt keys)), (1, .s (List.map encOfficial l)), (2, .s (List.map encInt clubs)), (3, level), (4, most), (5, .s (List.map encInt panel)), (6, gone), (48, .v (.bool (((((!x1) || (!x3)) || (!x5)) || (!x7)) || (!x9))))], [], 75, []⟩ : St))) ?_
 refine AW.cond (b := (((((!x1) || (!x3)) || (!x5)) || (!x7)) || (!x9))) rfl (fun hc => ?_) (fun hc => ?_)
 replace hH := condT hc hH
 refine AW.seq (AW.region ?_)
 iterate 2 refine AO.pu T ?_
 refine AO.nil (AW.ret ?_)
 have hR := someE hH; subst hR
 exact retQ.i [] rfl (.t (expLG_cons (.c .nil) (expLG_cons (.c .v) (expLG_nil))))
 replace hH := condF hc hH
 refine AW.skip ?_
 iterate 2 refine AW.seq ?_
 obtain ⟨x11, hx12, hH⟩ := bindE hH
 refine AW.region ?_
 iterate 4 refine AO.pu T ?_
 refine AO.step rfl (call_ok rfl 1 rfl rfl rfl (spec_paOrder_ok fuel _ _ _ _ _ (hx12)) rfl rfl rfl) ?_
 refine AO.val rfl rfl (len_row_ok T rfl rfl rfl rfl) ?_
 refine AO.pu T ?_
 refine AO.nil ?_
 refine AW.block ?_
 refine AW.loopS (fun s : Nat => (⟨[(1, .s (List.map encOfficial l)), (2, .s (List.map encInt clubs)), (3, level), (4, most), (5, .s (List.map encInt panel)), (6, gone), (53, .R 1), (54, (x11.length : Int)), (55, (s : Int))], [(1, .row 1 (List.map encInt x11))], 75, []⟩ : St)) (fun s => s ≤ x11.length ∧ spec_ReplaceJudge_l1 l clubs level most panel gone fuel (x11.drop s) s = some r) (fun s => x11.length - s) 0 ⟨Nat.zero_le _, hH⟩ ?_ ?_
 exact Le.ct 0 0
 rintro k13 ⟨hk, hH⟩
 replace hH : spec_ReplaceJudge_l1 l clubs level most panel gone fuel (x11.drop k13) k13 = some r := hH
 try dsimp only
 refine AW.boundR (id := 1) (l := x11) rfl (fun hb17 => ?_)
 rcases hd16 : x11.drop k13 with _ | ⟨y14, ys15⟩
 rw [hd16, spec_ReplaceJudge_l1] at hH
 have hlt18 := drop_ge hd16
 refine AW.seq (AW.region ?_)
 refine AO.pu T ?_
 refine AO.nil (AW.seq ?_)
 refine AW.condF' (b := decide ((k13 : Int) < (x11.length : Int))) rfl (rngF hlt18) ?_
 refine AW.exit ?_
 refine AW.seq (AW.region ?_)
 iterate 2 refine AO.pu T ?_
 refine AO.nil (AW.ret ?_)
 have hR := someE hH; subst hR
 exact retQ.i [] rfl (.t (expLG_cons (.c .nil) (expLG_cons (.c .v) (expLG_nil))))
 rw [hd16, spec_ReplaceJudge_l1] at hH
 have hlt18 := drop_lt hd16
 refine AW.seq (AW.region ?_)
 refine AO.pu T ?_
 refine AO.nil (AW.seq ?_)
 refine AW.condT' (b := decide ((k13 : Int) < (x11.length : Int))) rfl (rngT hlt18) ?_
 refine AW.skip ?_
 refine AW.seq ?_
 refine AW.block ?_
 refine AW.seq (AW.region ?_)
 refine AO.val rfl rfl (ix_row_ok T rfl rfl rfl rfl rfl rfl (getI_drop hd16)) ?_
 refine AO.val rfl rfl (load_row_ok T rfl rfl rfl rfl (getI_get (getI_drop hd16)) rfl rfl rfl) ?_
 refine AO.pu T ?_
 refine AO.nil ?_
 iterate 2 refine AW.seq ?_
 obtain ⟨x36, hx37, hH⟩ := bindE hH
 refine AW.region ?_
 iterate 2 refine AO.pu T ?_
 refine AO.val rfl rfl (callV_ok rfl rfl rfl rfl (spec_l1Has_ok _ _ _ (hx37)) rfl) ?_
 refine AO.nil ?_
 refine AW.cond (b := x36) rfl (fun hc => ?_) (fun hc => ?_)
 replace hH := condT hc hH
 refine AW.exit ?_
 refine AW.region ?_
 refine AO.val rfl rfl (ar_ok rfl rfl rfl rfl (inI_succ hlt18 hb17)) ?_
 refine AO.pu T ?_
 refine AO.nil ?_
 refine ⟨k13 + 1, ⟨Nat.succ_le_of_lt hlt18, (by rw [drop_succ_of hd16]; exact hH)⟩, (by have := hlt18; dsimp only; omega), ?_⟩
 exact Le.ct 0 0
 replace hH := condF hc hH
 refine AW.skip ?_
 refine AW.seq ?_
 obtain ⟨x38, hx39, hH⟩ := bindE hH
 obtain ⟨x40, hx41, hH⟩ := bindE hH
 refine AW.region ?_
 iterate 2 refine AO.pu T ?_
 refine AO.step rfl (call_ok rfl 6 rfl rfl rfl (spec_paWithout_ok _ _ _ (hx39)) rfl rfl rfl) ?_
 refine AO.pu T ?_
 refine AO.step rfl (callM_ok rfl 7 rfl rfl (es := [.w 1 (x38.map encInt), .v (.int .i64 y14)]) (outs := [.u, .u]) (ids := [6]) (by exact expLG_cons (.c (.rowR rfl)) (expLG_cons (.c .v) (expLG_nil))) (by decide) (.inr (by exact (show ([] : List Nat).Nodup ∧ ∀ i ∈ ([] : List Nat), i ∈ ([6] : List Nat) from by decide))) (by rfl) (spec_l1Put_ok fuel _ _ _ (hx41)) rfl (by rfl) rfl) ?_
 refine AO.pu T ?_
 refine AO.nil (AW.seq ?_)
 obtain ⟨x42, hx43, hH⟩ := bindE hH
 refine AW.region ?_
 iterate 5 refine AO.pu T ?_
 refine AO.val rfl rfl (callLV_ok rfl rfl rfl (es := [.s (List.map encOfficial l), .s (List.map encInt clubs), level, most, .s (List.map encInt x40)]) ⟨.free rfl, .free rfl, .free rfl, .free rfl, (.rowR rfl (.map fun y => .vs rfl)), trivial⟩ (spec_paIs_ok fuel _ _ _ _ _ _ (hx43)) (zfree_v _) rfl) ?_
 refine AO.nil ?_
 refine AW.cond (b := x42) rfl (fun hc => ?_) (fun hc => ?_)
 replace hH := condT hc hH
 refine AW.seq (AW.region ?_)
 iterate 3 refine AO.pu T ?_
 refine AO.nil (AW.ret ?_)
 have hR := someE hH; subst hR
 exact retQ.i [7] rfl (.t (expLG_cons (.c (.rowR rfl)) (expLG_cons (.c .v) (expLG_nil))))
 replace hH := condF hc hH
 refine AW.skip ?_
 refine AW.region ?_
 refine AO.val rfl rfl (ar_ok rfl rfl rfl rfl (inI_succ hlt18 hb17)) ?_
 refine AO.pu T ?_
 refine AO.nil ?_
 refine ⟨k13 + 1, ⟨Nat.succ_le_of_lt hlt18, (by rw [drop_succ_of hd16]; exact hH)⟩, (by have := hlt18; dsimp only; omega), ?_⟩
 exact Le.ct 0 0

def laws_sameInts_l1 (b : List Int) : List Int → Nat → Option Bool
  | [], k1 =>
    some true
  | y2 :: ys3, k1 =>
    (getI b (k1 : Int)).bind fun x12 =>
    cond (y2 != x12)
      (some false)
      (laws_sameInts_l1 b ys3 (k1 + 1))
def laws_sameInts_p (a : List Int) (b : List Int) : Option Bool :=
  cond ((a.length : Int) != (b.length : Int))
    (some false)
    (laws_sameInts_l1 b a 0)
theorem laws_sameInts_ok (a : List Int) (b : List Int) (r : Bool) (hH : laws_sameInts_p a b = some r) : SpecR Tryz.prog 8 [.s (List.map encInt a), .s (List.map encInt b)] (.v (.bool r)) := by
 refine fn_ok T Tryz.func8 rfl (by decide) rfl ?_
 refine AW.seq (AW.region ?_)
 refine AO.pu T ?_
 refine AO.nil ?_
 iterate 2 refine AW.seq ?_
 refine AW.region ?_
 refine AO.pu T ?_
 refine AO.val rfl rfl (len_map_ok T rfl rfl rfl) ?_
 refine AO.pu T ?_
 refine AO.val rfl rfl (len_map_ok T rfl rfl rfl) ?_
 refine AO.pu T ?_
 refine AO.nil ?_
 refine AW.cond (b := ((a.length : Int) != (b.length : Int))) rfl (fun hc => ?_) (fun hc => ?_)
 replace hH := condT hc hH
 refine AW.seq (AW.region ?_)
 refine AO.pu T ?_
 refine AO.nil (AW.ret ?_)
 have hR := someE hH; subst hR
 exact retQ.i [] rfl (.c (.c .v))
 replace hH := condF hc hH
 refine AW.skip ?_
 iterate 2 refine AW.seq ?_
 refine AW.region ?_
 refine AO.pu T ?_
 refine AO.val rfl rfl (len_map_ok T rfl rfl rfl) ?_
 refine AO.pu T ?_
 refine AO.nil ?_
 refine AW.block ?_
 refine AW.loopS (fun s : Nat => (⟨[(0, .s (List.map encInt a)), (1, .s (List.map encInt b)), (12, (a.length : Int)), (13, (s : Int))], [], 26, []⟩ : St)) (fun s => s ≤ a.length ∧ laws_sameInts_l1 b (a.drop s) s = some r) (fun s => a.length - s) 0 ⟨Nat.zero_le _, hH⟩ ?_ ?_
 exact Le.ct 0 0
 rintro k1 ⟨hk, hH⟩
 replace hH : laws_sameInts_l1 b (a.drop k1) k1 = some r := hH
 try dsimp only
 refine AW.boundM (t := 0) (l := a) rfl (fun hb5 => ?_)
 rcases hd4 : a.drop k1 with _ | ⟨y2, ys3⟩
 rw [hd4, laws_sameInts_l1] at hH
 have hlt6 := drop_ge hd4
 refine AW.seq (AW.region ?_)
 refine AO.pu T ?_
 refine AO.nil (AW.seq ?_)
 refine AW.condF' (b := decide ((k1 : Int) < (a.length : Int))) rfl (rngF hlt6) ?_
 refine AW.exit ?_
 refine AW.seq (AW.region ?_)
 refine AO.pu T ?_
 refine AO.nil (AW.ret ?_)
 have hR := someE hH; subst hR
 exact retQ.i [] rfl (.c (.c .v))
 rw [hd4, laws_sameInts_l1] at hH
 have hlt6 := drop_lt hd4
 refine AW.seq (AW.region ?_)
 refine AO.pu T ?_
 refine AO.nil (AW.seq ?_)
 refine AW.condT' (b := decide ((k1 : Int) < (a.length : Int))) rfl (rngT hlt6) ?_
 refine AW.skip ?_
 refine AW.seq ?_
 refine AW.block ?_
 refine AW.seq (AW.region ?_)
 iterate 2 refine AO.pu T ?_
 refine AO.nil (AW.seq ?_)
 obtain ⟨x12, hx13, hH⟩ := bindE hH
 refine AW.drawn 8 1 [] mix (by kernel_rfl) rfl ?_
 iterate 2 refine AD.pure T rfl rfl rfl ?_
 refine AD.val rfl rfl (ix_map_ok T rfl rfl rfl rfl rfl (getI_drop hd4) rfl) ?_
 iterate 3 refine AD.pure T rfl rfl rfl ?_
 refine AD.val rfl rfl (ix_map_ok T rfl rfl rfl rfl rfl (hx13) rfl) ?_
 refine AD.pure T rfl rfl rfl ?_
 refine AD.nil ?_
 refine AO.pu T ?_
 refine AO.nil ?_
 refine AW.cond (b := (y2 != x12)) rfl (fun hc => ?_) (fun hc => ?_)
 replace hH := condT hc hH
 refine AW.seq (AW.region ?_)
 refine AO.pu T ?_
 refine AO.nil (AW.ret ?_)
 have hR := someE hH; subst hR
 exact retQ.i [] rfl (.c (.c .v))
 replace hH := condF hc hH
 refine AW.skip ?_
 refine AW.region ?_
 refine AO.val rfl rfl (ar_ok rfl rfl rfl rfl (inI_succ hlt6 hb5)) ?_
 refine AO.pu T ?_
 refine AO.nil ?_
 refine ⟨k1 + 1, ⟨Nat.succ_le_of_lt hlt6, (by rw [drop_succ_of hd4]; exact hH)⟩, (by have := hlt6; dsimp only; omega), ?_⟩
 exact Le.ct 0 0

def impl_IsPanel_p (fuel : Nat) (l : List Official) (clubs : List Int) (level : Int) (most : Int) (panel : List Int) : Option (Bool × Bool) :=
  (impl_canPanel_p l clubs level most).bind fun x1 =>
  cond (!x1)
    (some (false, false))
    ((impl_isPanel_p fuel l clubs level most panel).bind fun x3 =>
    some (x3, true))
theorem impl_IsPanel_ok (fuel : Nat) (l : List Official) (clubs : List Int) (level : Int) (most : Int) (panel : List Int) (r : (Bool × Bool)) (hH : impl_IsPanel_p fuel l clubs level most panel = some r) : SpecR Tryz.prog 9 [.s (List.map encOfficial l), .s (List.map encInt clubs), level, most, .s (List.map encInt panel)] (.t [.v (.bool r.1), .v (.bool r.2)]) := by
 refine fn_ok T Tryz.func9 rfl (by decide) rfl ?_
 refine AW.seq (AW.region ?_)
 iterate 2 refine AO.pu T ?_
 refine AO.nil ?_
 iterate 2 refine AW.seq ?_
 obtain ⟨x1, hx2, hH⟩ := bindE hH
 refine AW.region ?_
 iterate 4 refine AO.pu T ?_
 refine AO.val rfl rfl (callV_ok rfl rfl rfl rfl (impl_canPanel_ok _ _ _ _ _ (hx2)) rfl) ?_
 refine AO.pu T ?_
 refine AO.nil ?_
 refine AW.cond (b := (!x1)) rfl (fun hc => ?_) (fun hc => ?_)
 replace hH := condT hc hH
 refine AW.seq (AW.region ?_)
 iterate 2 refine AO.pu T ?_
 refine AO.nil (AW.ret ?_)
 have hR := someE hH; subst hR
 exact retQ.i [] rfl (.t (expLG_cons (.c .v) (expLG_cons (.c .v) (expLG_nil))))
 replace hH := condF hc hH
 refine AW.skip ?_
 refine AW.seq ?_
 obtain ⟨x3, hx4, hH⟩ := bindE hH
 refine AW.region ?_
 iterate 5 refine AO.pu T ?_
 refine AO.val rfl rfl (callV_ok rfl rfl rfl rfl (impl_isPanel_ok fuel _ _ _ _ _ _ (hx4)) rfl) ?_
 iterate 2 refine AO.pu T ?_
 refine AO.nil (AW.ret ?_)
 have hR := someE hH; subst hR
 exact retQ.i [] rfl (.t (expLG_cons (.c .v) (expLG_cons (.c .v) (expLG_nil))))

def laws_pIn_l1 (n : Int) : List Int → Nat → Option Bool
  | [], k1 =>
    some false
  | y2 :: ys3, k1 =>
    cond (y2 == n)
      (some true)
      (laws_pIn_l1 n ys3 (k1 + 1))
def laws_pIn_p (l : List Int) (n : Int) : Option Bool :=
  laws_pIn_l1 n l 0
theorem laws_pIn_ok (l : List Int) (n : Int) (r : Bool) (hH : laws_pIn_p l n = some r) : SpecR Tryz.prog 10 [.s (List.map encInt l), n] (.v (.bool r)) := by
 refine fn_ok T Tryz.func10 rfl (by decide) rfl ?_
 refine AW.seq (AW.region ?_)
 refine AO.pu T ?_
 refine AO.nil ?_
 iterate 2 refine AW.seq ?_
 refine AW.region ?_
 refine AO.pu T ?_
 refine AO.val rfl rfl (len_map_ok T rfl rfl rfl) ?_
 refine AO.pu T ?_
 refine AO.nil ?_
 refine AW.block ?_
 refine AW.loopS (fun s : Nat => (⟨[(1, n), (7, .s (List.map encInt l)), (8, (l.length : Int)), (9, (s : Int))], [], 17, []⟩ : St)) (fun s => s ≤ l.length ∧ laws_pIn_l1 n (l.drop s) s = some r) (fun s => l.length - s) 0 ⟨Nat.zero_le _, hH⟩ ?_ ?_
 exact Le.ct 0 0
 rintro k1 ⟨hk, hH⟩
 replace hH : laws_pIn_l1 n (l.drop k1) k1 = some r := hH
 try dsimp only
 refine AW.boundM (t := 7) (l := l) rfl (fun hb5 => ?_)
 rcases hd4 : l.drop k1 with _ | ⟨y2, ys3⟩
 rw [hd4, laws_pIn_l1] at hH
 have hlt6 := drop_ge hd4
 refine AW.seq (AW.region ?_)
 refine AO.pu T ?_
 refine AO.nil (AW.seq ?_)
 refine AW.condF' (b := decide ((k1 : Int) < (l.length : Int))) rfl (rngF hlt6) ?_
 refine AW.exit ?_
 refine AW.seq (AW.region ?_)
 refine AO.pu T ?_
 refine AO.nil (AW.ret ?_)
 have hR := someE hH; subst hR
 exact retQ.i [] rfl (.c (.c .v))
 rw [hd4, laws_pIn_l1] at hH
 have hlt6 := drop_lt hd4
 refine AW.seq (AW.region ?_)
 refine AO.pu T ?_
 refine AO.nil (AW.seq ?_)
 refine AW.condT' (b := decide ((k1 : Int) < (l.length : Int))) rfl (rngT hlt6) ?_
 refine AW.skip ?_
 refine AW.seq ?_
 refine AW.block ?_
 refine AW.seq (AW.region ?_)
 refine AO.val rfl rfl (ix_map_ok T rfl rfl rfl rfl rfl (getI_drop hd4) rfl) ?_
 iterate 2 refine AO.pu T ?_
 refine AO.nil (AW.seq ?_)
 refine AW.region ?_
 iterate 3 refine AO.pu T ?_
 refine AO.nil ?_
 refine AW.cond (b := (y2 == n)) rfl (fun hc => ?_) (fun hc => ?_)
 replace hH := condT hc hH
 refine AW.seq (AW.region ?_)
 refine AO.pu T ?_
 refine AO.nil (AW.ret ?_)
 have hR := someE hH; subst hR
 exact retQ.i [] rfl (.c (.c .v))
 replace hH := condF hc hH
 refine AW.skip ?_
 refine AW.region ?_
 refine AO.val rfl rfl (ar_ok rfl rfl rfl rfl (inI_succ hlt6 hb5)) ?_
 refine AO.pu T ?_
 refine AO.nil ?_
 refine ⟨k1 + 1, ⟨Nat.succ_le_of_lt hlt6, (by rw [drop_succ_of hd4]; exact hH)⟩, (by have := hlt6; dsimp only; omega), ?_⟩
 exact Le.ct 0 0

def spec_DrawSpreadPanels_p (fuel : Nat) (code : List Int) : Option ((List Int) × (List Official) × Int × Int) :=
  (spec_l1Cur_keyList_p fuel (L1Cur.mk code 0 0) 6).bind fun x1 =>
  (spec_l1Cur_officials_p fuel (L1Cur.mk x1.1.code x1.1.at' x1.1.seed)).bind fun x3 =>
  (spec_l1Cur_among_p (L1Cur.mk x3.1.code x3.1.at' x3.1.seed) ([1, 2, 3, 9, 10, 0] : List Int)).bind fun x5 =>
  (spec_l1Cur_pick_p (L1Cur.mk x5.1.code x5.1.at' x5.1.seed) 6).bind fun x7 =>
  some (x1.2, x3.2, x5.2, x7.2)
theorem spec_DrawSpreadPanels_ok (fuel : Nat) (code : List Int) (r : ((List Int) × (List Official) × Int × Int)) (hH : spec_DrawSpreadPanels_p fuel code = some r) : SpecR Tryz.prog 11 [.s (List.map encInt_u8 code)] (.t [.w 1 (r.1.map encInt), .w 3 (r.2.1.map encOfficial), .v (.int .i64 r.2.2.1), .v (.int .i64 r.2.2.2)]) := by
 refine fn_ok T Tryz.func11 rfl (by decide) rfl ?_
 refine AW.seq (AW.region ?_)
 iterate 4 refine AO.pu T ?_
 refine AO.nil (AW.seq ?_)
 refine AW.region ?_
 refine AO.pu T ?_
 refine AO.pu T (d := .g [.s (List.map encInt_u8 code), (0 : Int), .v (.int .u64 0)]) ?_
 refine AO.step rfl (box_ok T rfl 1 rfl rfl rfl rfl) ?_
 refine AO.pu T ?_
 refine AO.nil (AW.seq ?_)
 obtain ⟨x1, hx2, hH⟩ := bindE hH
 obtain ⟨x3, hx4, hH⟩ := bindE hH
 obtain ⟨x5, hx6, hH⟩ := bindE hH
 obtain ⟨x7, hx8, hH⟩ := bindE hH
 refine AW.region ?_
 refine AO.pu T ?_
 refine AO.step rfl (callM_ok rfl 2 rfl rfl (es := [.pw (encL1Cur (L1Cur.mk code 0 0)), .v (.int .i64 6)]) (outs := [.pw (encL1Cur x1.1), .u]) (ids := [1]) (by exact expLG_cons (.c (.box rfl rfl)) (expLG_cons (.c .v) (expLG_nil))) (by decide) (.inl (by rfl)) (by rfl) (spec_l1Cur_keyList_ok fuel _ _ _ (hx2)) rfl (by rfl) rfl) ?_
 refine AO.pu T ?_
 refine AO.step rfl (callM_ok rfl 3 rfl rfl (es := [.pw (encL1Cur (L1Cur.mk x1.1.code x1.1.at' x1.1.seed))]) (outs := [.pw (encL1Cur x3.1)]) (ids := [1]) (by exact expLG_cons (.c (.box rfl rfl)) (expLG_nil)) (by decide) (.inl (by rfl)) (by rfl) (spec_l1Cur_officials_ok fuel _ _ (hx4)) rfl (by rfl) rfl) ?_
 refine AO.pu T ?_
 refine AO.step rfl (mk_map_ok T rfl 4 rfl rfl rfl rfl rfl (f := encInt) (l := ([1, 2, 3, 9, 10, 0] : List Int)) rfl rfl (fun _ => rfl) rfl rfl rfl rfl rfl) ?_
 refine AO.le (Le.freezeM 4 (g := encInt) rfl (fun y => .vs rfl)) ?_
 refine AO.step rfl (callM_ok rfl 5 rfl rfl (es := [.pw (encL1Cur (L1Cur.mk x3.1.code x3.1.at' x3.1.seed)), .s (([1, 2, 3, 9, 10, 0] : List Int).map encInt)]) (outs := [.pw (encL1Cur x5.1), .u]) (ids := [1]) (by exact expLG_cons (.c (.box rfl rfl)) (expLG_cons (.c .s) (expLG_nil))) (by decide) (.inl (by rfl)) (by rfl) (spec_l1Cur_among_ok _ _ _ (hx6)) rfl (by rfl) rfl) ?_
 refine AO.pu T ?_
 refine AO.step rfl (callM_ok rfl 5 rfl rfl (es := [.pw (encL1Cur (L1Cur.mk x5.1.code x5.1.at' x5.1.seed)), .v (.int .i64 6)]) (outs := [.pw (encL1Cur x7.1), .u]) (ids := [1]) (by exact expLG_cons (.c (.box rfl rfl)) (expLG_cons (.c .v) (expLG_nil))) (by decide) (.inl (by rfl)) (by rfl) (spec_l1Cur_pick_ok _ _ _ (hx8)) rfl (by rfl) rfl) ?_
 iterate 4 refine AO.pu T ?_
 refine AO.nil (AW.ret ?_)
 have hR := someE hH; subst hR
 exact retQ.i [2, 3] rfl (.t (expLG_cons (.c (.rowR rfl)) (expLG_cons (.c (.rowR rfl)) (expLG_cons (.c .v) (expLG_cons (.c .v) (expLG_nil))))))

def impl_isPanelSize_p (n : Int) : Option Bool :=
  (impl_within_p n 1 9).bind fun x1 =>
  some x1
theorem impl_isPanelSize_ok (n : Int) (r : Bool) (hH : impl_isPanelSize_p n = some r) : SpecR Tryz.prog 47 [n] (.v (.bool r)) := by
 refine fn_ok T Tryz.func47 rfl (by decide) rfl ?_
 refine AW.seq (AW.region ?_)
 refine AO.pu T ?_
 refine AO.nil (AW.seq ?_)
 obtain ⟨x1, hx2, hH⟩ := bindE hH
 refine AW.region ?_
 refine AO.pu T ?_
 refine AO.val rfl rfl (callV_ok rfl rfl rfl rfl (impl_within_ok _ _ _ _ (hx2)) rfl) ?_
 refine AO.pu T ?_
 refine AO.nil (AW.ret ?_)
 have hR := someE hH; subst hR
 exact retQ.i [] rfl (.c (.c .v))

def impl_sortedInts_p (l : List Int) : Option (List Int) :=
  (impl_copyInts_p l).bind fun x1 =>
  (slices_Sort_int_p x1).bind fun x3 =>
  some x3
theorem impl_sortedInts_ok (l : List Int) (r : (List Int)) (hH : impl_sortedInts_p l = some r) : SpecR Tryz.prog 49 [.s (List.map encInt l)] (.w 1 (r.map encInt)) := by
 refine fn_ok T Tryz.func49 rfl (by decide) rfl ?_
 refine AW.seq (AW.region ?_)
 refine AO.pu T ?_
 refine AO.nil (AW.seq ?_)
 obtain ⟨x1, hx2, hH⟩ := bindE hH
 refine AW.region ?_
 refine AO.pu T ?_
 refine AO.step rfl (call_ok rfl 1 rfl rfl rfl (impl_copyInts_ok _ _ (hx2)) rfl rfl rfl) ?_
 refine AO.pu T ?_
 refine AO.nil (AW.seq ?_)
 obtain ⟨x3, hx4, hH⟩ := bindE hH
 refine AW.region ?_
 refine AO.pu T ?_
 refine AO.step rfl (callM_ok rfl 2 rfl rfl (es := [.w 1 (x1.map encInt)]) (outs := [.w 1 (x3.map encInt)]) (ids := [1]) (by exact expLG_cons (.c (.rowR rfl)) (expLG_nil)) (by decide) (.inl (by rfl)) (by rfl) (slices_Sort_int_ok _ _ (hx4)) rfl (by rfl) rfl) ?_
 refine AO.nil (AW.seq ?_)
 refine AW.region ?_
 iterate 2 refine AO.pu T ?_
 refine AO.nil (AW.ret ?_)
 have hR := someE hH; subst hR
 exact retQ.i [1] rfl (.c (.c (.rowR rfl)))

def impl_SpreadPanels_l2 (n : Int) (panels : Int) : Nat → List Int → List (List Int) → Int → Option (((List (List Int)) × Bool))
  | 0, _, _, _ => none
  | k26 + 1, v42, v43, v44 =>
    cond (decide (v44 < panels))
      ((sliceLH v42 (w64 (v44 * n)) (w64 ((w64 (v44 * n)) + n))).bind fun x46 =>
      (impl_sortedInts_p x46).bind fun x48 =>
      (need (fitsB 24 (v43.length + ([x48]).length))).bind fun u50 =>
      impl_SpreadPanels_l2 n panels k26 v42 (v43 ++ [x48]) (w64 (v44 + 1)))
      (some (v43, true))
def impl_SpreadPanels_l1 (keys : List Int) (n : Int) (panels : Int) (fuel : Nat) : List Official → Nat → List Int → Option (((List (List Int)) × Bool))
  | [], k9, v20 =>
    (slices_Sort_int_p v20).bind fun x22 =>
    (impl_shuffledNumbers_p fuel keys x22).bind fun x24 =>
    impl_SpreadPanels_l2 n panels fuel x24 [] 0
  | y10 :: ys11, k9, v20 =>
    (need (fitsB 8 (v20.length + ([y10.number]).length))).bind fun u52 =>
    impl_SpreadPanels_l1 keys n panels fuel ys11 (k9 + 1) (v20 ++ [y10.number])
def impl_SpreadPanels_p (fuel : Nat) (keys : List Int) (l : List Official) (n : Int) (panels : Int) : Option ((List (List Int)) × Bool) :=
  (impl_areKeys_p keys 6).bind fun x1 =>
  (opt (!(!x1)) default (impl_AreOfficials_p l)).bind fun x3 =>
  (opt (!((!x1) || (!x3))) default (impl_isPanelSize_p n)).bind fun x5 =>
  (opt (!(((!x1) || (!x3)) || (!x5))) default (impl_within_p panels 1 4)).bind fun x7 =>
  cond (((((!x1) || (!x3)) || (!x5)) || (!x7)) || decide ((w64 (n * panels)) > (l.length : Int)))
    (some ([], false))
    (impl_SpreadPanels_l1 keys n panels fuel l 0 [])
theorem impl_SpreadPanels_ok (fuel : Nat) (keys : List Int) (l : List Official) (n : Int) (panels : Int) (r : ((List (List Int)) × Bool)) (hH : impl_SpreadPanels_p fuel keys l n panels = some r) : SpecR Tryz.prog 12 [.s (List.map encInt keys), .s (List.map encOfficial l), n, panels] (.t [.w 1 (r.1.map encLIntO), .v (.bool r.2)]) := by
 refine fn_ok T Tryz.func12 rfl (by decide) rfl ?_
 refine AW.seq (AW.region ?_)
 iterate 2 refine AO.pu T ?_
 refine AO.nil ?_
 iterate 2 refine AW.seq ?_
 obtain ⟨x1, hx2, hH⟩ := bindE hH
 obtain ⟨x3, hx4, hH⟩ := bindE hH
 obtain ⟨x5, hx6, hH⟩ := bindE hH
 obtain ⟨x7, hx8, hH⟩ := bindE hH
 refine AW.region ?_
 refine AO.pu T ?_
 refine AO.val rfl rfl (callV_ok rfl rfl rfl rfl (impl_areKeys_ok _ _ _ (hx2)) rfl) ?_
 iterate 2 refine AO.pu T ?_
 refine AO.pureG T [] rfl trivial rfl rfl ?_
 refine AO.guard [20] rfl ⟨fun h => h, trivial⟩ (fun hg => callV_ok rfl rfl rfl rfl (impl_AreOfficials_ok _ _ (optT hx4 hg)) rfl) rfl ?_
 refine AO.pureG T [21] rfl ⟨fun h => h, trivial⟩ rfl rfl ?_
 refine AO.val rfl rfl (pick_or rfl rfl rfl rfl) ?_
 refine AO.pu T ?_
 refine AO.pureG T [] rfl trivial rfl rfl ?_
 refine AO.guard [25] rfl ⟨fun h => h, trivial⟩ (fun hg => callV_ok rfl rfl rfl rfl (impl_isPanelSize_ok _ _ (optT hx6 hg)) rfl) rfl ?_
 refine AO.pureG T [26] rfl ⟨fun h => h, trivial⟩ rfl rfl ?_
 refine AO.val rfl rfl (pick_or rfl rfl rfl rfl) ?_
 refine AO.pu T ?_
 refine AO.pureG T [] rfl trivial rfl rfl ?_
 refine AO.guard [30] rfl ⟨fun h => h, trivial⟩ (fun hg => callV_ok rfl rfl rfl rfl (impl_within_ok _ _ _ _ (optT hx8 hg)) rfl) rfl ?_
 refine AO.pureG T [31] rfl ⟨fun h => h, trivial⟩ rfl rfl ?_
 refine AO.val rfl rfl (pick_or rfl rfl rfl rfl) ?_
 refine AO.pu T ?_
 iterate 2 refine AO.pureG T [] rfl trivial rfl rfl ?_
 refine AO.guard [35, 36] rfl ⟨fun h => h, fun h => h, trivial⟩ (fun hg => arw_ok rfl rfl rfl rfl) rfl ?_
 refine AO.pureG T [] rfl trivial rfl rfl ?_
 refine AO.guard [38] rfl ⟨fun h => h, trivial⟩ (fun hg => len_map_ok T rfl rfl rfl) rfl ?_
 refine AO.pureG T [37, 39] rfl ⟨fun h => h, fun h => h, trivial⟩ rfl rfl ?_
 refine AO.val rfl rfl (pick_or rfl rfl rfl rfl) ?_
 refine AO.nil ?_
 refine AW.le (Le.ct 0 0 (σ' := (⟨[(0, .s (List.map encInt keys)), (1, .s (List.map encOfficial l)), (2, n), (3, panels), (41, .v (.bool (((((!x1) || (!x3)) || (!x5)) || (!x7)) || decide ((w64 (n * panels)) > (l.length : Int)))))], [], 81, []⟩ : St))) ?_
 refine AW.cond (b := (((((!x1) || (!x3)) || (!x5)) || (!x7)) || decide ((w64 (n * panels)) > (l.length : Int)))) rfl (fun hc => ?_) (fun hc => ?_)
 replace hH := condT hc hH
 refine AW.seq (AW.region ?_)
 iterate 2 refine AO.pu T ?_
 refine AO.nil (AW.ret ?_)
 have hR := someE hH; subst hR
 exact retQ.i [] rfl (.t (expLG_cons (.c .nil) (expLG_cons (.c .v) (expLG_nil))))
 replace hH := condF hc hH
 refine AW.skip ?_
 refine AW.seq (AW.region ?_)
 refine AO.step rfl (mk0_ok T rfl rfl rfl rfl) ?_
 refine AO.pu T ?_
 refine AO.nil ?_
 iterate 2 refine AW.seq ?_
 refine AW.region ?_
 refine AO.pu T ?_
 refine AO.val rfl rfl (len_map_ok T rfl rfl rfl) ?_
 refine AO.pu T ?_
 refine AO.nil ?_
 refine AW.block ?_
 refine AW.loopS (fun s : Nat × (List Int) => (⟨[(0, .s (List.map encInt keys)), (2, n), (3, panels), (10, .R 6), (43, .s (List.map encOfficial l)), (44, (l.length : Int)), (45, (s.1 : Int))], [(6, .row 1 (List.map encInt s.2))], 81, []⟩ : St)) (fun s => s.1 ≤ l.length ∧ impl_SpreadPanels_l1 keys n panels fuel (l.drop s.1) s.1 s.2 = some r) (fun s => l.length - s.1) (0, []) ⟨Nat.zero_le _, hH⟩ ?_ ?_
 refine Le.trans (Le.void 10 6 1 rfl rfl) ?_
 exact Le.ct 0 0
 rintro ⟨k9, v20⟩ ⟨hk, hH⟩
 replace hH : impl_SpreadPanels_l1 keys n panels fuel (l.drop k9) k9 v20 = some r := hH
 try dsimp only
 refine AW.boundM (t := 43) (l := l) rfl (fun hb13 => ?_)
 rcases hd12 : l.drop k9 with _ | ⟨y10, ys11⟩
 rw [hd12, impl_SpreadPanels_l1] at hH
 have hlt14 := drop_ge hd12
 refine AW.seq (AW.region ?_)
 refine AO.pu T ?_
 refine AO.nil (AW.seq ?_)
 refine AW.condF' (b := decide ((k9 : Int) < (l.length : Int))) rfl (rngF hlt14) ?_
 refine AW.exit ?_
 refine AW.seq ?_
 obtain ⟨x22, hx23, hH⟩ := bindE hH
 refine AW.region ?_
 refine AO.pu T ?_
 refine AO.step rfl (callM_ok rfl 7 rfl rfl (es := [.w 1 (v20.map encInt)]) (outs := [.w 1 (x22.map encInt)]) (ids := [6]) (by exact expLG_cons (.c (.rowR rfl)) (expLG_nil)) (by decide) (.inl (by rfl)) (by rfl) (slices_Sort_int_ok _ _ (hx23)) rfl (by rfl) rfl) ?_
 refine AO.nil (AW.seq ?_)
 obtain ⟨x24, hx25, hH⟩ := bindE hH
 refine AW.region ?_
 iterate 2 refine AO.pu T ?_
 refine AO.step rfl (callL_ok rfl 7 rfl rfl (es := [.s (List.map encInt keys), .s (List.map encInt x22)]) (by exact ⟨.free rfl, (.rowR rfl (.map fun y => .vs rfl)), trivial⟩) (impl_shuffledNumbers_ok fuel _ _ _ (hx25)) (zfree_map (fun y => (.cons (zfree_v _) .nil))) rfl rfl rfl) ?_
 refine AO.step rfl (mk0_ok T rfl rfl rfl rfl) ?_
 iterate 2 refine AO.pu T ?_
 refine AO.nil ?_
 iterate 2 refine AW.seq ?_
 refine AW.region ?_
 iterate 2 refine AO.pu T ?_
 refine AO.nil ?_
 refine AW.block ?_
 refine AW.loopS (fun s : Nat × (List Int) × (List (List Int)) × Int => (⟨[(2, n), (13, .s (List.map encInt s.2.1)), (14, .R 13), (61, panels), (62, s.2.2.2)], [(13, .row 1 (List.map encLIntO s.2.2.1))], 81, []⟩ : St)) (fun s => impl_SpreadPanels_l2 n panels s.1 s.2.1 s.2.2.1 s.2.2.2 = some r) (fun s => s.1) (fuel, x24, [], 0) hH ?_ ?_
 refine Le.trans (Le.freezeM 7 (g := encInt) rfl (fun y => .vs rfl)) ?_
 refine Le.trans (Le.void 14 13 1 rfl rfl) ?_
 exact Le.ct 0 0
 rintro ⟨k26, v42, v43, v44⟩ hH
 replace hH : impl_SpreadPanels_l2 n panels k26 v42 v43 v44 = some r := hH
 try dsimp only
 rcases k26 with _ | k26
 cases (show none = some _ from hH)
 rw [impl_SpreadPanels_l2] at hH
 refine AW.seq (AW.region ?_)
 refine AO.pu T ?_
 refine AO.nil (AW.seq ?_)
 refine AW.cond (b := decide (v44 < panels)) rfl (fun hc => ?_) (fun hc => ?_)
 replace hH := condT hc hH
 refine AW.skip ?_
 refine AW.seq ?_
 refine AW.block ?_
 refine AW.seq (AW.region ?_)
 iterate 2 refine AO.pu T ?_
 refine AO.nil ?_
 obtain ⟨x46, hx47, hH⟩ := bindE hH
 obtain ⟨x48, hx49, hH⟩ := bindE hH
 obtain ⟨u50, hx51, hH⟩ := bindE hH
 refine AW.region ?_
 iterate 4 refine AO.pu T ?_
 refine AO.val rfl rfl (arw_ok rfl rfl rfl rfl) ?_
 iterate 2 refine AO.pu T ?_
 refine AO.val rfl rfl (arw_ok rfl rfl rfl rfl) ?_
 refine AO.pu T ?_
 refine AO.val rfl rfl (arw_ok rfl rfl rfl rfl) ?_
 refine AO.val rfl rfl (slice_lh_map_ok T rfl rfl rfl rfl rfl rfl (hx47) (fun _ => rfl)) ?_
 refine AO.step rfl (call_ok rfl 14 rfl rfl rfl (impl_sortedInts_ok _ _ (hx49)) rfl rfl rfl) ?_
 refine AO.step rfl (mk_o_ok T rfl 15 rfl rfl rfl rfl rfl rfl (f := encLIntO) (l := [x48]) (ids := [14]) rfl rfl (fun _ => rfl) (by exact expLC_cons (.rowR rfl) (expLC_nil)) (by decide) rfl rfl rfl rfl rfl) ?_
 refine AO.step rfl (app_rr_map T rfl 16 rfl rfl rfl rfl rfl (by decide) rfl rfl rfl rfl rfl (needT (hx51)) rfl rfl) ?_
 refine AO.pu T ?_
 refine AO.nil ?_
 refine AW.region ?_
 refine AO.val rfl rfl (arw_ok rfl rfl rfl rfl) ?_
 refine AO.pu T ?_
 refine AO.nil ?_
 refine ⟨(k26, v42, (v43 ++ [x48]), w64 (v44 + 1)), hH, Nat.lt_succ_self _, ?_⟩
 exact Le.ct 16 13
 replace hH := condF hc hH
 refine AW.exit ?_
 refine AW.seq (AW.region ?_)
 iterate 3 refine AO.pu T ?_
 refine AO.nil (AW.ret ?_)
 have hR := someE hH; subst hR
 exact retQ.i [13] rfl (.t (expLG_cons (.c (.rowR rfl)) (expLG_cons (.c .v) (expLG_nil))))
 rw [hd12, impl_SpreadPanels_l1] at hH
 have hlt14 := drop_lt hd12
 refine AW.seq (AW.region ?_)
 refine AO.pu T ?_
 refine AO.nil (AW.seq ?_)
 refine AW.condT' (b := decide ((k9 : Int) < (l.length : Int))) rfl (rngT hlt14) ?_
 refine AW.skip ?_
 refine AW.seq ?_
 refine AW.block ?_
 refine AW.seq (AW.region ?_)
 refine AO.val rfl rfl (ix_map_ok T rfl rfl rfl rfl rfl (getI_drop hd12) rfl) ?_
 refine AO.pu T (d := .g [y10.number, y10.club, y10.level]) ?_
 refine AO.step rfl (alloc_ok T rfl 17 rfl rfl rfl rfl rfl) ?_
 refine AO.se T [y10.number, y10.club, y10.level] ?_
 refine AO.nil ?_
 obtain ⟨u52, hx53, hH⟩ := bindE hH
 refine AW.region ?_
 iterate 3 refine AO.pu T ?_
 refine AO.step rfl (mk_map_ok T rfl 18 rfl rfl rfl rfl rfl (f := encInt) (l := [y10.number]) rfl rfl (fun _ => rfl) rfl rfl rfl rfl rfl) ?_
 refine AO.step rfl (app_rv_map T rfl 19 rfl rfl rfl rfl rfl (by decide) rfl rfl rfl rfl (fun _ => rfl) (needT (hx53)) rfl rfl) ?_
 refine AO.pu T ?_
 refine AO.nil ?_
 refine AW.region ?_
 refine AO.val rfl rfl (ar_ok rfl rfl rfl rfl (inI_succ hlt14 hb13)) ?_
 refine AO.pu T ?_
 refine AO.nil ?_
 refine ⟨(k9 + 1, (v20 ++ [y10.number])), ⟨Nat.succ_le_of_lt hlt14, (by rw [drop_succ_of hd12]; exact hH)⟩, (by have := hlt14; dsimp only; omega), ?_⟩
 exact Le.ct 19 6

def spec_SpreadPanels_l3 (n : Int) (fuel : Nat) (v259 : List Int) (v260 : List (List Int)) : List Int → Nat → List Int → Option ((List Int) × (List (List Int)))
  | [], k288, v299 =>
    (need (fitsB 24 (v260.length + ([v299]).length))).bind fun u301 =>
    (sliceLo v259 n).bind fun x303 =>
    some (x303, (v260 ++ [v299]))
  | y289 :: ys290, k288, v299 =>
    (spec_l1Put_p fuel v299 y289).bind fun x305 =>
    spec_SpreadPanels_l3 n fuel v259 v260 ys290 (k288 + 1) x305
def spec_SpreadPanels_l2 (n : Int) (fuel : Nat) : Nat → Int → List Int → List (List Int) → Option (List (List Int))
  | 0, _, _, _ => none
  | k166 + 1, v258, v259, v260 =>
    cond (decide (v258 > 0))
      (((sliceHi v259 n).bind fun x286 =>
      spec_SpreadPanels_l3 n fuel v259 v260 x286 0 []).bind fun (v282, v283) =>
      spec_SpreadPanels_l2 n fuel k166 (w64 (v258 - 1)) v282 v283)
      (some v260)
def spec_SpreadPanels_l1 (keys : List Int) (n : Int) (panels : Int) (fuel : Nat) : List Official → Nat → List Int → Option (((List (List Int)) × Bool))
  | [], k9, v20 =>
    (spec_dwNumbers_p fuel keys v20).bind fun x22 =>
    (spec_SpreadPanels_l2 n fuel fuel panels x22 []).bind fun v163 =>
    some (v163, true)
  | y10 :: ys11, k9, v20 =>
    (spec_l1Put_p fuel v20 y10.number).bind fun x307 =>
    spec_SpreadPanels_l1 keys n panels fuel ys11 (k9 + 1) x307
def spec_SpreadPanels_p (fuel : Nat) (keys : List Int) (l : List Official) (n : Int) (panels : Int) : Option ((List (List Int)) × Bool) :=
  (spec_dwKeys_p keys 6).bind fun x1 =>
  (opt (!(!x1)) default (spec_paOfficials_p l)).bind fun x3 =>
  (opt (!((!x1) || (!x3))) default (spec_paMost_p n)).bind fun x5 =>
  (opt (!(((!x1) || (!x3)) || (!x5))) default (spec_l1In_p panels 1 4)).bind fun x7 =>
  cond (((((!x1) || (!x3)) || (!x5)) || (!x7)) || decide ((w64 (n * panels)) > (l.length : Int)))
    (some ([], false))
    (spec_SpreadPanels_l1 keys n panels fuel l 0 [])
theorem spec_SpreadPanels_ok (fuel : Nat) (keys : List Int) (l : List Official) (n : Int) (panels : Int) (r : ((List (List Int)) × Bool)) (hH : spec_SpreadPanels_p fuel keys l n panels = some r) : SpecR Tryz.prog 13 [.s (List.map encInt keys), .s (List.map encOfficial l), n, panels] (.t [.w 1 (r.1.map encLInt), .v (.bool r.2)]) := by
 refine fn_ok T Tryz.func13 rfl (by decide) rfl ?_
 refine AW.seq (AW.region ?_)
 iterate 2 refine AO.pu T ?_
 refine AO.nil ?_
 iterate 2 refine AW.seq ?_
 obtain ⟨x1, hx2, hH⟩ := bindE hH
 obtain ⟨x3, hx4, hH⟩ := bindE hH
 obtain ⟨x5, hx6, hH⟩ := bindE hH
 obtain ⟨x7, hx8, hH⟩ := bindE hH
 refine AW.region ?_
 refine AO.pu T ?_
 refine AO.val rfl rfl (callV_ok rfl rfl rfl rfl (spec_dwKeys_ok _ _ _ (hx2)) rfl) ?_
 iterate 2 refine AO.pu T ?_
 refine AO.pureG T [] rfl trivial rfl rfl ?_
 refine AO.guard [21] rfl ⟨fun h => h, trivial⟩ (fun hg => callV_ok rfl rfl rfl rfl (spec_paOfficials_ok _ _ (optT hx4 hg)) rfl) rfl ?_
 refine AO.pureG T [22] rfl ⟨fun h => h, trivial⟩ rfl rfl ?_
 refine AO.val rfl rfl (pick_or rfl rfl rfl rfl) ?_
 refine AO.pu T ?_
 refine AO.pureG T [] rfl trivial rfl rfl ?_
 refine AO.guard [26] rfl ⟨fun h => h, trivial⟩ (fun hg => callV_ok rfl rfl rfl rfl (spec_paMost_ok _ _ (optT hx6 hg)) rfl) rfl ?_
 refine AO.pureG T [27] rfl ⟨fun h => h, trivial⟩ rfl rfl ?_
 refine AO.val rfl rfl (pick_or rfl rfl rfl rfl) ?_
 refine AO.pu T ?_
 refine AO.pureG T [] rfl trivial rfl rfl ?_
 refine AO.guard [31] rfl ⟨fun h => h, trivial⟩ (fun hg => callV_ok rfl rfl rfl rfl (spec_l1In_ok _ _ _ _ (optT hx8 hg)) rfl) rfl ?_
 refine AO.pureG T [32] rfl ⟨fun h => h, trivial⟩ rfl rfl ?_
 refine AO.val rfl rfl (pick_or rfl rfl rfl rfl) ?_
 refine AO.pu T ?_
 iterate 2 refine AO.pureG T [] rfl trivial rfl rfl ?_
 refine AO.guard [36, 37] rfl ⟨fun h => h, fun h => h, trivial⟩ (fun hg => arw_ok rfl rfl rfl rfl) rfl ?_
 refine AO.pureG T [] rfl trivial rfl rfl ?_
 refine AO.guard [39] rfl ⟨fun h => h, trivial⟩ (fun hg => len_map_ok T rfl rfl rfl) rfl ?_
 refine AO.pureG T [38, 40] rfl ⟨fun h => h, fun h => h, trivial⟩ rfl rfl ?_
 refine AO.val rfl rfl (pick_or rfl rfl rfl rfl) ?_
 refine AO.nil ?_
 refine AW.le (Le.ct 0 0 (σ' := (⟨[(0, .s (List.map encInt keys)), (1, .s (List.map encOfficial l)), (2, n), (3, panels), (42, .v (.bool (((((!x1) || (!x3)) || (!x5)) || (!x7)) || decide ((w64 (n * panels)) > (l.length : Int)))))], [], 81, []⟩ : St))) ?_
 refine AW.cond (b := (((((!x1) || (!x3)) || (!x5)) || (!x7)) || decide ((w64 (n * panels)) > (l.length : Int)))) rfl (fun hc => ?_) (fun hc => ?_)
 replace hH := condT hc hH
 refine AW.seq (AW.region ?_)
 iterate 2 refine AO.pu T ?_
 refine AO.nil (AW.ret ?_)
 have hR := someE hH; subst hR
 exact retQ.i [] rfl (.t (expLG_cons (.c .nil) (expLG_cons (.c .v) (expLG_nil))))
 replace hH := condF hc hH
 refine AW.skip ?_
 refine AW.seq (AW.region ?_)
 refine AO.pu T ?_
 refine AO.nil ?_
 iterate 2 refine AW.seq ?_
 refine AW.region ?_
 refine AO.pu T ?_
 refine AO.val rfl rfl (len_map_ok T rfl rfl rfl) ?_
 refine AO.pu T ?_
 refine AO.nil ?_
 refine AW.block ?_
 refine AW.loopS (fun s : Nat × (List Int) => (⟨[(0, .s (List.map encInt keys)), (2, n), (3, panels), (10, .R 4), (43, .s (List.map encOfficial l)), (44, (l.length : Int)), (45, (s.1 : Int))], [(4, .row 1 (List.map encInt s.2))], 81, []⟩ : St)) (fun s => s.1 ≤ l.length ∧ spec_SpreadPanels_l1 keys n panels fuel (l.drop s.1) s.1 s.2 = some r) (fun s => l.length - s.1) (0, []) ⟨Nat.zero_le _, hH⟩ ?_ ?_
 refine Le.trans (Le.void 10 4 1 rfl rfl) ?_
 exact Le.ct 0 0
 rintro ⟨k9, v20⟩ ⟨hk, hH⟩
 replace hH : spec_SpreadPanels_l1 keys n panels fuel (l.drop k9) k9 v20 = some r := hH
 try dsimp only
 refine AW.boundM (t := 43) (l := l) rfl (fun hb13 => ?_)
 rcases hd12 : l.drop k9 with _ | ⟨y10, ys11⟩
 rw [hd12, spec_SpreadPanels_l1] at hH
 have hlt14 := drop_ge hd12
 refine AW.seq (AW.region ?_)
 refine AO.pu T ?_
 refine AO.nil (AW.seq ?_)
 refine AW.condF' (b := decide ((k9 : Int) < (l.length : Int))) rfl (rngF hlt14) ?_
 refine AW.exit ?_
 refine AW.seq ?_
 obtain ⟨x22, hx23, hH⟩ := bindE hH
 refine AW.region ?_
 iterate 2 refine AO.pu T ?_
 refine AO.step rfl (callL_ok rfl 5 rfl rfl (es := [.s (List.map encInt keys), .s (List.map encInt v20)]) (by exact ⟨.free rfl, (.rowR rfl (.map fun y => .vs rfl)), trivial⟩) (spec_dwNumbers_ok fuel _ _ _ (hx23)) (zfree_map (fun y => (.cons (zfree_v _) .nil))) rfl rfl rfl) ?_
 refine AO.pu T ?_
 refine AO.nil (AW.seq ?_)
 refine AW.region ?_
 refine AO.pu T ?_
 refine AO.nil ?_
 obtain ⟨o164, hH, hK165⟩ := bindE hH
 refine AW.seqJ (fun s : List (List Int) => (⟨[(13, .R 19)], [(19, .row 1 (List.map encLInt s))], 81, []⟩ : St)) (fun s => s = o164) ?_ ?_
 refine AW.block ?_
 refine AW.loopS (fun s : Nat × Int × (List Int) × (List (List Int)) => (⟨[(2, n), (3, s.2.1), (10, .s (List.map encInt s.2.2.1)), (13, .R 49)], [(49, .row 1 (List.map encLInt s.2.2.2))], 81, []⟩ : St)) (fun s => spec_SpreadPanels_l2 n fuel s.1 s.2.1 s.2.2.1 s.2.2.2 = some o164) (fun s => s.1) (fuel, panels, x22, []) hH ?_ ?_
 refine Le.trans (Le.freezeM 5 (g := encInt) rfl (fun y => .vs rfl)) ?_
 refine Le.trans (Le.void 13 49 1 rfl rfl) ?_
 exact Le.ct 0 0
 rintro ⟨k166, v258, v259, v260⟩ hH
 replace hH : spec_SpreadPanels_l2 n fuel k166 v258 v259 v260 = some o164 := hH
 try dsimp only
 rcases k166 with _ | k166
 cases (show none = some _ from hH)
 rw [spec_SpreadPanels_l2] at hH
 iterate 2 refine AW.seq ?_
 refine AW.region ?_
 iterate 2 refine AO.pu T ?_
 refine AO.nil ?_
 refine AW.cond (b := decide (v258 > 0)) rfl (fun hc => ?_) (fun hc => ?_)
 replace hH := condT hc hH
 refine AW.skip ?_
 obtain ⟨o284, hH, hK285⟩ := bindE hH
 refine AW.seqJ (fun s : (List Int) × (List (List Int)) => (⟨[(2, n), (3, v258), (10, .s (List.map encInt s.1)), (13, .R 59)], [(59, .row 1 (List.map encLInt s.2))], 81, []⟩ : St)) (fun s => s = o284) ?_ ?_
 refine AW.block ?_
 refine AW.seq (AW.region ?_)
 refine AO.pu T ?_
 refine AO.nil ?_
 iterate 2 refine AW.seq ?_
 obtain ⟨x286, hx287, hH⟩ := bindE hH
 refine AW.region ?_
 iterate 2 refine AO.pu T ?_
 refine AO.val rfl rfl (slice_hi_map_ok T rfl rfl rfl rfl rfl (hx287) (fun _ => rfl)) ?_
 refine AO.val rfl rfl (len_map_ok T rfl rfl rfl) ?_
 refine AO.pu T ?_
 refine AO.nil ?_
 refine AW.block ?_
 refine AW.loopS (fun s : Nat × (List Int) => (⟨[(2, n), (3, v258), (10, .s (List.map encInt v259)), (13, .R 49), (14, .R 62), (63, .s (List.map encInt x286)), (64, (x286.length : Int)), (65, (s.1 : Int))], [(49, .row 1 (List.map encLInt v260)), (62, .row 1 (List.map encInt s.2))], 81, []⟩ : St)) (fun s => s.1 ≤ x286.length ∧ spec_SpreadPanels_l3 n fuel v259 v260 (x286.drop s.1) s.1 s.2 = some o284) (fun s => x286.length - s.1) (0, []) ⟨Nat.zero_le _, hH⟩ ?_ ?_
 refine Le.trans (Le.void 14 62 1 rfl rfl) ?_
 exact Le.ct 0 0
 rintro ⟨k288, v299⟩ ⟨hk, hH⟩
 replace hH : spec_SpreadPanels_l3 n fuel v259 v260 (x286.drop k288) k288 v299 = some o284 := hH
 try dsimp only
 refine AW.boundM (t := 63) (l := x286) rfl (fun hb292 => ?_)
 rcases hd291 : x286.drop k288 with _ | ⟨y289, ys290⟩
 rw [hd291, spec_SpreadPanels_l3] at hH
 have hlt293 := drop_ge hd291
 refine AW.seq (AW.region ?_)
 refine AO.pu T ?_
 refine AO.nil (AW.seq ?_)
 refine AW.condF' (b := decide ((k288 : Int) < (x286.length : Int))) rfl (rngF hlt293) ?_
 refine AW.exit ?_
 refine AW.seq ?_
 obtain ⟨u301, hx302, hH⟩ := bindE hH
 refine AW.le (Le.freezeM 62 (g := encInt) rfl (fun y => .vs rfl)) ?_
 refine AW.region ?_
 iterate 2 refine AO.pu T ?_
 refine AO.step rfl (mk_map_ok T rfl 63 rfl rfl rfl rfl rfl (f := encLInt) (l := [v299]) rfl rfl (fun _ => rfl) rfl rfl rfl rfl rfl) ?_
 refine AO.step rfl (app_rv_map T rfl 64 rfl rfl rfl rfl rfl (by decide) rfl rfl rfl rfl (fun _ => rfl) (needT (hx302)) rfl rfl) ?_
 refine AO.pu T ?_
 refine AO.nil ?_
 obtain ⟨x303, hx304, hH⟩ := bindE hH
 refine AW.region ?_
 iterate 2 refine AO.pu T ?_
 refine AO.val rfl rfl (slice_lo_map_ok T rfl rfl rfl rfl rfl (hx304) (fun _ => rfl)) ?_
 refine AO.pu T ?_
 refine AO.nil ?_
 refine ⟨_, someE hH, ?_⟩
 exact Le.ct 64 59
 rw [hd291, spec_SpreadPanels_l3] at hH
 have hlt293 := drop_lt hd291
 refine AW.seq (AW.region ?_)
 refine AO.pu T ?_
 refine AO.nil (AW.seq ?_)
 refine AW.condT' (b := decide ((k288 : Int) < (x286.length : Int))) rfl (rngT hlt293) ?_
 refine AW.skip ?_
 refine AW.seq ?_
 refine AW.block ?_
 refine AW.seq (AW.region ?_)
 refine AO.val rfl rfl (ix_map_ok T rfl rfl rfl rfl rfl (getI_drop hd291) rfl) ?_
 iterate 2 refine AO.pu T ?_
 refine AO.nil ?_
 obtain ⟨x305, hx306, hH⟩ := bindE hH
 refine AW.region ?_
 iterate 2 refine AO.pu T ?_
 refine AO.step rfl (callM_ok rfl 65 rfl rfl (es := [.w 1 (v299.map encInt), .v (.int .i64 y289)]) (outs := [.u, .u]) (ids := [62]) (by exact expLG_cons (.c (.rowR rfl)) (expLG_cons (.c .v) (expLG_nil))) (by decide) (.inr (by exact (show ([] : List Nat).Nodup ∧ ∀ i ∈ ([] : List Nat), i ∈ ([62] : List Nat) from by decide))) (by rfl) (spec_l1Put_ok fuel _ _ _ (hx306)) rfl (by rfl) rfl) ?_
 refine AO.pu T ?_
 refine AO.nil ?_
 refine AW.region ?_
 refine AO.val rfl rfl (ar_ok rfl rfl rfl rfl (inI_succ hlt293 hb292)) ?_
 refine AO.pu T ?_
 refine AO.nil ?_
 refine ⟨(k288 + 1, x305), ⟨Nat.succ_le_of_lt hlt293, (by rw [drop_succ_of hd291]; exact hH)⟩, (by have := hlt293; dsimp only; omega), ?_⟩
 exact Le.ct 65 62
 rintro ⟨v282, v283⟩ hs
 subst hs
 replace hH := hK285
 try dsimp only [flow, flowE] at hH
 try dsimp only
 refine AW.region ?_
 refine AO.pu T ?_
 refine AO.val rfl rfl (arw_ok rfl rfl rfl rfl) ?_
 refine AO.pu T ?_
 refine AO.nil ?_
 refine ⟨(k166, w64 (v258 - 1), v282, v283), hH, Nat.lt_succ_self _, ?_⟩
 exact Le.ct 59 49
 replace hH := condF hc hH
 refine AW.exit ?_
 refine ⟨_, someE hH, ?_⟩
 exact Le.ct 49 19
 rintro v163 hs
 subst hs
 replace hH := hK165
 try dsimp only [flow, flowE] at hH
 try dsimp only
 refine AW.seq (AW.region ?_)
 iterate 3 refine AO.pu T ?_
 refine AO.nil (AW.ret ?_)
 have hR := someE hH; subst hR
 exact retQ.i [19] rfl (.t (expLG_cons (.c (.rowR rfl)) (expLG_cons (.c .v) (expLG_nil))))
 rw [hd12, spec_SpreadPanels_l1] at hH
 have hlt14 := drop_lt hd12
 refine AW.seq (AW.region ?_)
 refine AO.pu T ?_
 refine AO.nil (AW.seq ?_)
 refine AW.condT' (b := decide ((k9 : Int) < (l.length : Int))) rfl (rngT hlt14) ?_
 refine AW.skip ?_
 refine AW.seq ?_
 refine AW.block ?_
 refine AW.seq (AW.region ?_)
 refine AO.val rfl rfl (ix_map_ok T rfl rfl rfl rfl rfl (getI_drop hd12) rfl) ?_
 refine AO.pu T (d := .g [y10.number, y10.club, y10.level]) ?_
 refine AO.step rfl (alloc_ok T rfl 66 rfl rfl rfl rfl rfl) ?_
 refine AO.se T [y10.number, y10.club, y10.level] ?_
 refine AO.nil ?_
 obtain ⟨x307, hx308, hH⟩ := bindE hH
 refine AW.region ?_
 iterate 3 refine AO.pu T ?_
 refine AO.step rfl (callM_ok rfl 67 rfl rfl (es := [.w 1 (v20.map encInt), .v (.int .i64 y10.number)]) (outs := [.u, .u]) (ids := [4]) (by exact expLG_cons (.c (.rowR rfl)) (expLG_cons (.c .v) (expLG_nil))) (by decide) (.inr (by exact (show ([] : List Nat).Nodup ∧ ∀ i ∈ ([] : List Nat), i ∈ ([4] : List Nat) from by decide))) (by rfl) (spec_l1Put_ok fuel _ _ _ (hx308)) rfl (by rfl) rfl) ?_
 refine AO.pu T ?_
 refine AO.nil ?_
 refine AW.region ?_
 refine AO.val rfl rfl (ar_ok rfl rfl rfl rfl (inI_succ hlt14 hb13)) ?_
 refine AO.pu T ?_
 refine AO.nil ?_
 refine ⟨(k9 + 1, x307), ⟨Nat.succ_le_of_lt hlt14, (by rw [drop_succ_of hd12]; exact hH)⟩, (by have := hlt14; dsimp only; omega), ?_⟩
 exact Le.ct 67 4

def laws_sameLists_l1 (b : List (List Int)) : List (List Int) → Nat → Option Bool
  | [], k1 =>
    some true
  | y2 :: ys3, k1 =>
    (getI b (k1 : Int)).bind fun x16 =>
    (laws_sameInts_p y2 x16).bind fun x18 =>
    cond (!x18)
      (some false)
      (laws_sameLists_l1 b ys3 (k1 + 1))
def laws_sameLists_p (a : List (List Int)) (b : List (List Int)) : Option Bool :=
  cond ((a.length : Int) != (b.length : Int))
    (some false)
    (laws_sameLists_l1 b a 0)
theorem laws_sameLists_ok (a : List (List Int)) (b : List (List Int)) (r : Bool) (hH : laws_sameLists_p a b = some r) : SpecR Tryz.prog 14 [.s (List.map encLInt a), .s (List.map encLInt b)] (.v (.bool r)) := by
 refine fn_ok T Tryz.func14 rfl (by decide) rfl ?_
 refine AW.seq (AW.region ?_)
 refine AO.pu T ?_
 refine AO.nil ?_
 iterate 2 refine AW.seq ?_
 refine AW.region ?_
 refine AO.pu T ?_
 refine AO.val rfl rfl (len_map_ok T rfl rfl rfl) ?_
 refine AO.pu T ?_
 refine AO.val rfl rfl (len_map_ok T rfl rfl rfl) ?_
 refine AO.pu T ?_
 refine AO.nil ?_
 refine AW.cond (b := ((a.length : Int) != (b.length : Int))) rfl (fun hc => ?_) (fun hc => ?_)
 replace hH := condT hc hH
 refine AW.seq (AW.region ?_)
 refine AO.pu T ?_
 refine AO.nil (AW.ret ?_)
 have hR := someE hH; subst hR
 exact retQ.i [] rfl (.c (.c .v))
 replace hH := condF hc hH
 refine AW.skip ?_
 iterate 2 refine AW.seq ?_
 refine AW.region ?_
 refine AO.pu T ?_
 refine AO.val rfl rfl (len_map_ok T rfl rfl rfl) ?_
 refine AO.pu T ?_
 refine AO.nil ?_
 refine AW.block ?_
 refine AW.loopS (fun s : Nat => (⟨[(0, .s (List.map encLInt a)), (1, .s (List.map encLInt b)), (12, (a.length : Int)), (13, (s : Int))], [], 27, []⟩ : St)) (fun s => s ≤ a.length ∧ laws_sameLists_l1 b (a.drop s) s = some r) (fun s => a.length - s) 0 ⟨Nat.zero_le _, hH⟩ ?_ ?_
 exact Le.ct 0 0
 rintro k1 ⟨hk, hH⟩
 replace hH : laws_sameLists_l1 b (a.drop k1) k1 = some r := hH
 try dsimp only
 refine AW.boundM (t := 0) (l := a) rfl (fun hb5 => ?_)
 rcases hd4 : a.drop k1 with _ | ⟨y2, ys3⟩
 rw [hd4, laws_sameLists_l1] at hH
 have hlt6 := drop_ge hd4
 refine AW.seq (AW.region ?_)
 refine AO.pu T ?_
 refine AO.nil (AW.seq ?_)
 refine AW.condF' (b := decide ((k1 : Int) < (a.length : Int))) rfl (rngF hlt6) ?_
 refine AW.exit ?_
 refine AW.seq (AW.region ?_)
 refine AO.pu T ?_
 refine AO.nil (AW.ret ?_)
 have hR := someE hH; subst hR
 exact retQ.i [] rfl (.c (.c .v))
 rw [hd4, laws_sameLists_l1] at hH
 have hlt6 := drop_lt hd4
 refine AW.seq (AW.region ?_)
 refine AO.pu T ?_
 refine AO.nil (AW.seq ?_)
 refine AW.condT' (b := decide ((k1 : Int) < (a.length : Int))) rfl (rngT hlt6) ?_
 refine AW.skip ?_
 refine AW.seq ?_
 refine AW.block ?_
 refine AW.seq (AW.region ?_)
 iterate 2 refine AO.pu T ?_
 refine AO.nil (AW.seq ?_)
 obtain ⟨x16, hx17, hH⟩ := bindE hH
 obtain ⟨x18, hx19, hH⟩ := bindE hH
 refine AW.drawn 8 1 [] mix (by kernel_rfl) rfl ?_
 iterate 2 refine AD.pure T rfl rfl rfl ?_
 refine AD.val rfl rfl (ix_map_ok T rfl rfl rfl rfl rfl (getI_drop hd4) rfl) ?_
 iterate 3 refine AD.pure T rfl rfl rfl ?_
 refine AD.val rfl rfl (ix_map_ok T rfl rfl rfl rfl rfl (hx17) rfl) ?_
 refine AD.pure T rfl rfl rfl ?_
 refine AD.nil ?_
 refine AO.val rfl rfl (callV_ok rfl rfl rfl rfl (laws_sameInts_ok _ _ _ (hx19)) rfl) ?_
 refine AO.pu T ?_
 refine AO.nil ?_
 refine AW.cond (b := (!x18)) rfl (fun hc => ?_) (fun hc => ?_)
 replace hH := condT hc hH
 refine AW.seq (AW.region ?_)
 refine AO.pu T ?_
 refine AO.nil (AW.ret ?_)
 have hR := someE hH; subst hR
 exact retQ.i [] rfl (.c (.c .v))
 replace hH := condF hc hH
 refine AW.skip ?_
 refine AW.region ?_
 refine AO.val rfl rfl (ar_ok rfl rfl rfl rfl (inI_succ hlt6 hb5)) ?_
 refine AO.pu T ?_
 refine AO.nil ?_
 refine ⟨k1 + 1, ⟨Nat.succ_le_of_lt hlt6, (by rw [drop_succ_of hd4]; exact hH)⟩, (by have := hlt6; dsimp only; omega), ?_⟩
 exact Le.ct 0 0

def spec_DrawCountPanels_p (fuel : Nat) (code : List Int) : Option ((List Official) × (List Int) × Int × Int × Int) :=
  (spec_l1Cur_officials_p fuel (L1Cur.mk code 0 0)).bind fun x1 =>
  (spec_l1Cur_conflicts_p fuel (L1Cur.mk x1.1.code x1.1.at' x1.1.seed)).bind fun x3 =>
  (spec_l1Cur_grade_p (L1Cur.mk x3.1.code x3.1.at' x3.1.seed)).bind fun x5 =>
  (spec_l1Cur_atMost_p (L1Cur.mk x5.1.code x5.1.at' x5.1.seed)).bind fun x7 =>
  (spec_l1Cur_among_p (L1Cur.mk x7.1.code x7.1.at' x7.1.seed) ([1, 2, 3, 9, 10, 0] : List Int)).bind fun x9 =>
  some (x1.2, x3.2, x5.2, x7.2, x9.2)
theorem spec_DrawCountPanels_ok (fuel : Nat) (code : List Int) (r : ((List Official) × (List Int) × Int × Int × Int)) (hH : spec_DrawCountPanels_p fuel code = some r) : SpecR Tryz.prog 15 [.s (List.map encInt_u8 code)] (.t [.w 3 (r.1.map encOfficial), .w 1 (r.2.1.map encInt), .v (.int .i64 r.2.2.1), .v (.int .i64 r.2.2.2.1), .v (.int .i64 r.2.2.2.2)]) := by
 refine fn_ok T Tryz.func15 rfl (by decide) rfl ?_
 refine AW.seq (AW.region ?_)
 iterate 5 refine AO.pu T ?_
 refine AO.nil (AW.seq ?_)
 refine AW.region ?_
 refine AO.pu T ?_
 refine AO.pu T (d := .g [.s (List.map encInt_u8 code), (0 : Int), .v (.int .u64 0)]) ?_
 refine AO.step rfl (box_ok T rfl 1 rfl rfl rfl rfl) ?_
 refine AO.pu T ?_
 refine AO.nil (AW.seq ?_)
 obtain ⟨x1, hx2, hH⟩ := bindE hH
 obtain ⟨x3, hx4, hH⟩ := bindE hH
 obtain ⟨x5, hx6, hH⟩ := bindE hH
 obtain ⟨x7, hx8, hH⟩ := bindE hH
 obtain ⟨x9, hx10, hH⟩ := bindE hH
 refine AW.region ?_
 refine AO.pu T ?_
 refine AO.step rfl (callM_ok rfl 2 rfl rfl (es := [.pw (encL1Cur (L1Cur.mk code 0 0))]) (outs := [.pw (encL1Cur x1.1)]) (ids := [1]) (by exact expLG_cons (.c (.box rfl rfl)) (expLG_nil)) (by decide) (.inl (by rfl)) (by rfl) (spec_l1Cur_officials_ok fuel _ _ (hx2)) rfl (by rfl) rfl) ?_
 refine AO.pu T ?_
 refine AO.step rfl (callM_ok rfl 3 rfl rfl (es := [.pw (encL1Cur (L1Cur.mk x1.1.code x1.1.at' x1.1.seed))]) (outs := [.pw (encL1Cur x3.1)]) (ids := [1]) (by exact expLG_cons (.c (.box rfl rfl)) (expLG_nil)) (by decide) (.inl (by rfl)) (by rfl) (spec_l1Cur_conflicts_ok fuel _ _ (hx4)) rfl (by rfl) rfl) ?_
 refine AO.pu T ?_
 refine AO.step rfl (callM_ok rfl 4 rfl rfl (es := [.pw (encL1Cur (L1Cur.mk x3.1.code x3.1.at' x3.1.seed))]) (outs := [.pw (encL1Cur x5.1)]) (ids := [1]) (by exact expLG_cons (.c (.box rfl rfl)) (expLG_nil)) (by decide) (.inl (by rfl)) (by rfl) (spec_l1Cur_grade_ok _ _ (hx6)) rfl (by rfl) rfl) ?_
 refine AO.pu T ?_
 refine AO.step rfl (callM_ok rfl 4 rfl rfl (es := [.pw (encL1Cur (L1Cur.mk x5.1.code x5.1.at' x5.1.seed))]) (outs := [.pw (encL1Cur x7.1)]) (ids := [1]) (by exact expLG_cons (.c (.box rfl rfl)) (expLG_nil)) (by decide) (.inl (by rfl)) (by rfl) (spec_l1Cur_atMost_ok _ _ (hx8)) rfl (by rfl) rfl) ?_
 refine AO.pu T ?_
 refine AO.step rfl (mk_map_ok T rfl 4 rfl rfl rfl rfl rfl (f := encInt) (l := ([1, 2, 3, 9, 10, 0] : List Int)) rfl rfl (fun _ => rfl) rfl rfl rfl rfl rfl) ?_
 refine AO.le (Le.freezeM 4 (g := encInt) rfl (fun y => .vs rfl)) ?_
 refine AO.step rfl (callM_ok rfl 5 rfl rfl (es := [.pw (encL1Cur (L1Cur.mk x7.1.code x7.1.at' x7.1.seed)), .s (([1, 2, 3, 9, 10, 0] : List Int).map encInt)]) (outs := [.pw (encL1Cur x9.1), .u]) (ids := [1]) (by exact expLG_cons (.c (.box rfl rfl)) (expLG_cons (.c .s) (expLG_nil))) (by decide) (.inl (by rfl)) (by rfl) (spec_l1Cur_among_ok _ _ _ (hx10)) rfl (by rfl) rfl) ?_
 iterate 5 refine AO.pu T ?_
 refine AO.nil ?_
 refine AW.le (Le.ct 0 0 (σ' := (⟨[(2, .R 2), (3, .R 3), (4, x5.2), (5, x7.2), (6, x9.2)], [(2, .row 3 (List.map encOfficial x1.2)), (3, .row 1 (List.map encInt x3.2))], 22, []⟩ : St))) ?_
 refine AW.ret ?_
 have hR := someE hH; subst hR
 exact retQ.i [2, 3] rfl (.t (expLG_cons (.c (.rowR rfl)) (expLG_cons (.c (.rowR rfl)) (expLG_cons (.c .v) (expLG_cons (.c .v) (expLG_cons (.c .v) (expLG_nil)))))))

def impl_choose_l1 (n : Int) (k : Int) : Nat → Int → Int → Option Int
  | 0, _, _ => none
  | k1 + 1, v8, v9 =>
    cond (decide (v9 < k))
      ((need ((w64 (v9 + 1)) != 0)).bind fun u11 =>
      impl_choose_l1 n k k1 (w64 ((w64 (v8 * (w64 (n - v9)))).tdiv (w64 (v9 + 1)))) (w64 (v9 + 1)))
      (some v8)
def impl_choose_p (fuel : Nat) (n : Int) (k : Int) : Option Int :=
  impl_choose_l1 n k fuel 1 0
theorem impl_choose_ok (fuel : Nat) (n : Int) (k : Int) (r : Int) (hH : impl_choose_p fuel n k = some r) : SpecR Tryz.prog 57 [n, k] (.v (.int .i64 r)) := by
 refine fn_ok T Tryz.func57 rfl (by decide) rfl ?_
 refine AW.seq (AW.region ?_)
 refine AO.pu T ?_
 refine AO.nil (AW.seq ?_)
 refine AW.region ?_
 refine AO.pu T ?_
 refine AO.nil ?_
 iterate 2 refine AW.seq ?_
 refine AW.region ?_
 iterate 2 refine AO.pu T ?_
 refine AO.nil ?_
 refine AW.block ?_
 refine AW.loopS (fun s : Nat × Int × Int => (⟨[(0, n), (5, s.2.1), (7, k), (8, s.2.2)], [], 21, []⟩ : St)) (fun s => impl_choose_l1 n k s.1 s.2.1 s.2.2 = some r) (fun s => s.1) (fuel, 1, 0) hH ?_ ?_
 exact Le.ct 0 0
 rintro ⟨k1, v8, v9⟩ hH
 replace hH : impl_choose_l1 n k k1 v8 v9 = some r := hH
 try dsimp only
 rcases k1 with _ | k1
 cases (show none = some _ from hH)
 rw [impl_choose_l1] at hH
 refine AW.seq (AW.region ?_)
 refine AO.pu T ?_
 refine AO.nil (AW.seq ?_)
 refine AW.cond (b := decide (v9 < k)) rfl (fun hc => ?_) (fun hc => ?_)
 replace hH := condT hc hH
 refine AW.skip ?_
 refine AW.seq ?_
 refine AW.block ?_
 refine AW.seq (AW.region ?_)
 iterate 2 refine AO.pu T ?_
 refine AO.nil ?_
 obtain ⟨u11, hx12, hH⟩ := bindE hH
 refine AW.region ?_
 iterate 3 refine AO.pu T ?_
 iterate 2 refine AO.val rfl rfl (arw_ok rfl rfl rfl rfl) ?_
 refine AO.pu T ?_
 refine AO.val rfl rfl (arw_ok rfl rfl rfl rfl) ?_
 refine AO.val rfl rfl (quow_ok rfl rfl rfl (neZ (needT (hx12)))) ?_
 refine AO.pu T ?_
 refine AO.nil ?_
 refine AW.region ?_
 refine AO.val rfl rfl (arw_ok rfl rfl rfl rfl) ?_
 refine AO.pu T ?_
 refine AO.nil ?_
 refine ⟨(k1, w64 ((w64 (v8 * (w64 (n - v9)))).tdiv (w64 (v9 + 1))), w64 (v9 + 1)), hH, Nat.lt_succ_self _, ?_⟩
 exact Le.ct 0 0
 replace hH := condF hc hH
 refine AW.exit ?_
 refine AW.seq (AW.region ?_)
 iterate 2 refine AO.pu T ?_
 refine AO.nil (AW.ret ?_)
 have hR := someE hH; subst hR
 exact retQ.i [] rfl (.c (.c .v))

def impl_CountPanels_l3 (most : Int) (n : Int) (fuel : Nat) (y14 : Int) (k646 : Nat) (y647 : Int) : Nat → List Int → Int → Option (List Int)
  | 0, _, _ => none
  | k749 + 1, v760, v761 =>
    cond (decide (v761 ≤ (min (min y14 most) (w64 (n - (k646 : Int))))))
      ((getI v760 (w64 ((k646 : Int) + v761))).bind fun x763 =>
      (impl_choose_p fuel y14 v761).bind fun x765 =>
      impl_CountPanels_l3 most n fuel y14 k646 y647 k749 (v760.set ((w64 ((k646 : Int) + v761)).toNat) (w64 (x763 + (w64 (y647 * x765))))) (w64 (v761 + 1)))
      (some v760)
def impl_CountPanels_l2 (most : Int) (n : Int) (fuel : Nat) (y14 : Int) : List Int → Nat → List Int → Option (List Int)
  | [], k646, v727 =>
    some v727
  | y647 :: ys648, k646, v727 =>
    (impl_CountPanels_l3 most n fuel y14 k646 y647 fuel v727 0).bind fun v746 =>
    impl_CountPanels_l2 most n fuel y14 ys648 (k646 + 1) v746
def impl_CountPanels_l1 (most : Int) (n : Int) (fuel : Nat) : List Int → Nat → List Int → Option ((Int × Bool))
  | [], k13, v520 =>
    (getI v520 n).bind fun x522 =>
    some (x522, true)
  | y14 :: ys15, k13, v520 =>
    (impl_CountPanels_l2 most n fuel y14 v520 0 (List.replicate (w64 (n + 1)).toNat (0 : Int))).bind fun v643 =>
    impl_CountPanels_l1 most n fuel ys15 (k13 + 1) v643
def impl_CountPanels_p (fuel : Nat) (l : List Official) (clubs : List Int) (level : Int) (most : Int) (n : Int) : Option (Int × Bool) :=
  (impl_canPanel_p l clubs level most).bind fun x1 =>
  (opt (!((!x1) || decide ((l.length : Int) > 14))) default (impl_isPanelSize_p n)).bind fun x3 =>
  cond (((!x1) || decide ((l.length : Int) > 14)) || (!x3))
    (some (0, false))
    ((need (decide (0 ≤ (w64 (n + 1))) && fitsB 8 (w64 (n + 1)).toNat)).bind fun u5 =>
    (getI (List.replicate (w64 (n + 1)).toNat (0 : Int)) 0).bind fun x7 =>
    (impl_eligible_p l clubs level).bind fun x9 =>
    (impl_clubSizes_p l x9).bind fun x11 =>
    impl_CountPanels_l1 most n fuel x11 0 ((List.replicate (w64 (n + 1)).toNat (0 : Int)).set ((0 : Int).toNat) 1))
theorem impl_CountPanels_ok (fuel : Nat) (l : List Official) (clubs : List Int) (level : Int) (most : Int) (n : Int) (r : (Int × Bool)) (hH : impl_CountPanels_p fuel l clubs level most n = some r) : SpecR Tryz.prog 16 [.s (List.map encOfficial l), .s (List.map encInt clubs), level, most, n] (.t [.v (.int .i64 r.1), .v (.bool r.2)]) := by
 refine fn_ok T Tryz.func16 rfl (by decide) rfl ?_
 refine AW.seq (AW.region ?_)
 iterate 2 refine AO.pu T ?_
 refine AO.nil ?_
 iterate 2 refine AW.seq ?_
 obtain ⟨x1, hx2, hH⟩ := bindE hH
 obtain ⟨x3, hx4, hH⟩ := bindE hH
 refine AW.region ?_
 iterate 4 refine AO.pu T ?_
 refine AO.val rfl rfl (callV_ok rfl rfl rfl rfl (impl_canPanel_ok _ _ _ _ _ (hx2)) rfl) ?_
 iterate 2 refine AO.pu T ?_
 refine AO.pureG T [] rfl trivial rfl rfl ?_
 refine AO.guard [26] rfl ⟨fun h => h, trivial⟩ (fun hg => len_map_ok T rfl rfl rfl) rfl ?_
 refine AO.pureG T [27] rfl ⟨fun h => h, trivial⟩ rfl rfl ?_
 refine AO.val rfl rfl (pick_or rfl rfl rfl rfl) ?_
 refine AO.pu T ?_
 refine AO.pureG T [] rfl trivial rfl rfl ?_
 refine AO.guard [31] rfl ⟨fun h => h, trivial⟩ (fun hg => callV_ok rfl rfl rfl rfl (impl_isPanelSize_ok _ _ (optT hx4 hg)) rfl) rfl ?_
 refine AO.pureG T [32] rfl ⟨fun h => h, trivial⟩ rfl rfl ?_
 refine AO.val rfl rfl (pick_or rfl rfl rfl rfl) ?_
 refine AO.nil ?_
 refine AW.cond (b := (((!x1) || decide ((l.length : Int) > 14)) || (!x3))) rfl (fun hc => ?_) (fun hc => ?_)
 replace hH := condT hc hH
 refine AW.seq (AW.region ?_)
 iterate 2 refine AO.pu T ?_
 refine AO.nil (AW.ret ?_)
 have hR := someE hH; subst hR
 exact retQ.i [] rfl (.t (expLG_cons (.c .v) (expLG_cons (.c .v) (expLG_nil))))
 replace hH := condF hc hH
 refine AW.skip ?_
 refine AW.seq ?_
 obtain ⟨u5, hx6, hH⟩ := bindE hH
 refine AW.region ?_
 refine AO.pu T ?_
 refine AO.val rfl rfl (arw_ok rfl rfl rfl rfl) ?_
 refine AO.step rfl (make_map_ok T rfl 1 rfl rfl rfl rfl rfl (f := encInt) (zo := 0) (by repeat constructor) (by decide) rfl rfl (Bool.and_eq_true_iff.1 (needT (hx6))).1 (Bool.and_eq_true_iff.1 (needT (hx6))).2 rfl rfl) ?_
 refine AO.pu T ?_
 refine AO.nil (AW.seq ?_)
 obtain ⟨x7, hx8, hH⟩ := bindE hH
 refine AW.region ?_
 refine AO.pu T ?_
 refine AO.val rfl rfl (ix_row_ok T rfl rfl rfl rfl rfl rfl (hx8)) ?_
 refine AO.step rfl (store_row_ok T rfl rfl rfl rfl rfl (getI_get (hx8)) rfl rfl rfl rfl (u' := 1) rfl rfl) ?_
 refine AO.nil ?_
 refine AW.le (Le.ct 0 0 (σ' := (⟨[(0, .s (List.map encOfficial l)), (1, .s (List.map encInt clubs)), (2, level), (3, most), (4, n), (12, .R 1)], [(1, .row 1 (List.map encInt ((List.replicate (w64 (n + 1)).toNat (0 : Int)).set ((0 : Int).toNat) 1)))], 91, []⟩ : St))) ?_
 iterate 2 refine AW.seq ?_
 obtain ⟨x9, hx10, hH⟩ := bindE hH
 obtain ⟨x11, hx12, hH⟩ := bindE hH
 refine AW.region ?_
 iterate 4 refine AO.pu T ?_
 refine AO.step rfl (call_ok rfl 2 rfl rfl rfl (impl_eligible_ok _ _ _ _ (hx10)) rfl rfl rfl) ?_
 refine AO.step rfl (callL_ok rfl 3 rfl rfl (es := [.s (List.map encOfficial l), .s (List.map encInt x9)]) (by exact ⟨.free rfl, (.rowR rfl (.map fun y => .vs rfl)), trivial⟩) (impl_clubSizes_ok _ _ _ (hx12)) (zfree_map (fun y => (.cons (zfree_v _) .nil))) rfl rfl rfl) ?_
 refine AO.val rfl rfl (len_row_ok T rfl rfl rfl rfl) ?_
 refine AO.pu T ?_
 refine AO.nil ?_
 refine AW.block ?_
 refine AW.loopS (fun s : Nat × (List Int) => (⟨[(3, most), (4, n), (12, .R 1), (45, .R 3), (46, (x11.length : Int)), (47, (s.1 : Int))], [(1, .row 1 (List.map encInt s.2)), (3, .row 1 (List.map encInt x11))], 91, []⟩ : St)) (fun s => s.1 ≤ x11.length ∧ impl_CountPanels_l1 most n fuel (x11.drop s.1) s.1 s.2 = some r) (fun s => x11.length - s.1) (0, ((List.replicate (w64 (n + 1)).toNat (0 : Int)).set ((0 : Int).toNat) 1)) ⟨Nat.zero_le _, hH⟩ ?_ ?_
 exact Le.ct 0 0
 rintro ⟨k13, v520⟩ ⟨hk, hH⟩
 replace hH : impl_CountPanels_l1 most n fuel (x11.drop k13) k13 v520 = some r := hH
 try dsimp only
 refine AW.boundR (id := 3) (l := x11) rfl (fun hb17 => ?_)
 rcases hd16 : x11.drop k13 with _ | ⟨y14, ys15⟩
 rw [hd16, impl_CountPanels_l1] at hH
 have hlt18 := drop_ge hd16
 refine AW.seq (AW.region ?_)
 refine AO.pu T ?_
 refine AO.nil (AW.seq ?_)
 refine AW.condF' (b := decide ((k13 : Int) < (x11.length : Int))) rfl (rngF hlt18) ?_
 refine AW.exit ?_
 refine AW.seq ?_
 obtain ⟨x522, hx523, hH⟩ := bindE hH
 refine AW.region ?_
 iterate 2 refine AO.pu T ?_
 refine AO.val rfl rfl (ix_row_ok T rfl rfl rfl rfl rfl rfl (hx523)) ?_
 refine AO.val rfl rfl (load_row_ok T rfl rfl rfl rfl (getI_get (hx523)) rfl rfl rfl) ?_
 iterate 2 refine AO.pu T ?_
 refine AO.nil (AW.ret ?_)
 have hR := someE hH; subst hR
 exact retQ.i [] rfl (.t (expLG_cons (.c .v) (expLG_cons (.c .v) (expLG_nil))))
 rw [hd16, impl_CountPanels_l1] at hH
 have hlt18 := drop_lt hd16
 refine AW.seq (AW.region ?_)
 refine AO.pu T ?_
 refine AO.nil (AW.seq ?_)
 refine AW.condT' (b := decide ((k13 : Int) < (x11.length : Int))) rfl (rngT hlt18) ?_
 refine AW.skip ?_
 obtain ⟨o644, hH, hK645⟩ := bindE hH
 refine AW.seqJ (fun s : List Int => (⟨[(3, most), (4, n), (12, .R 8), (45, .R 3), (46, (x11.length : Int)), (47, (k13 : Int))], [(3, .row 1 (List.map encInt x11)), (8, .row 1 (List.map encInt s))], 91, []⟩ : St)) (fun s => s = o644) ?_ ?_
 refine AW.block ?_
 refine AW.seq (AW.region ?_)
 refine AO.val rfl rfl (ix_row_ok T rfl rfl rfl rfl rfl rfl (getI_drop hd16)) ?_
 refine AO.val rfl rfl (load_row_ok T rfl rfl rfl rfl (getI_get (getI_drop hd16)) rfl rfl rfl) ?_
 refine AO.pu T ?_
 refine AO.nil (AW.seq ?_)
 refine AW.region ?_
 refine AO.pu T ?_
 refine AO.val rfl rfl (arw_ok rfl rfl rfl rfl) ?_
 refine AO.step rfl (make_map_ok T rfl 9 rfl rfl rfl rfl rfl (f := encInt) (zo := 0) (by repeat constructor) (by decide) rfl rfl (Bool.and_eq_true_iff.1 (needT (hx6))).1 (Bool.and_eq_true_iff.1 (needT (hx6))).2 rfl rfl) ?_
 refine AO.pu T ?_
 refine AO.nil ?_
 iterate 2 refine AW.seq ?_
 refine AW.region ?_
 refine AO.pu T ?_
 refine AO.val rfl rfl (len_row_ok T rfl rfl rfl rfl) ?_
 refine AO.pu T ?_
 refine AO.nil ?_
 refine AW.block ?_
 refine AW.loopS (fun s : Nat × (List Int) => (⟨[(3, most), (4, n), (14, y14), (15, .R 9), (45, .R 3), (46, (x11.length : Int)), (47, (k13 : Int)), (54, .R 1), (55, (v520.length : Int)), (56, (s.1 : Int))], [(1, .row 1 (List.map encInt v520)), (3, .row 1 (List.map encInt x11)), (9, .row 1 (List.map encInt s.2))], 91, []⟩ : St)) (fun s => s.1 ≤ v520.length ∧ impl_CountPanels_l2 most n fuel y14 (v520.drop s.1) s.1 s.2 = some o644) (fun s => v520.length - s.1) (0, (List.replicate (w64 (n + 1)).toNat (0 : Int))) ⟨Nat.zero_le _, hH⟩ ?_ ?_
 exact Le.ct 0 0
 rintro ⟨k646, v727⟩ ⟨hk, hH⟩
 replace hH : impl_CountPanels_l2 most n fuel y14 (v520.drop k646) k646 v727 = some o644 := hH
 try dsimp only
 refine AW.boundR (id := 1) (l := v520) rfl (fun hb650 => ?_)
 rcases hd649 : v520.drop k646 with _ | ⟨y647, ys648⟩
 rw [hd649, impl_CountPanels_l2] at hH
 have hlt651 := drop_ge hd649
 refine AW.seq (AW.region ?_)
 refine AO.pu T ?_
 refine AO.nil (AW.seq ?_)
 refine AW.condF' (b := decide ((k646 : Int) < (v520.length : Int))) rfl (rngF hlt651) ?_
 refine AW.exit ?_
 refine AW.region ?_
 iterate 2 refine AO.pu T ?_
 refine AO.nil ?_
 refine ⟨_, someE hH, ?_⟩
 exact Le.ct 9 8
 rw [hd649, impl_CountPanels_l2] at hH
 have hlt651 := drop_lt hd649
 refine AW.seq (AW.region ?_)
 refine AO.pu T ?_
 refine AO.nil (AW.seq ?_)
 refine AW.condT' (b := decide ((k646 : Int) < (v520.length : Int))) rfl (rngT hlt651) ?_
 refine AW.skip ?_
 obtain ⟨o747, hH, hK748⟩ := bindE hH
 refine AW.seqJ (fun s : List Int => (⟨[(3, most), (4, n), (14, y14), (15, .R 9), (45, .R 3), (46, (x11.length : Int)), (47, (k13 : Int)), (54, .R 1), (55, (v520.length : Int)), (56, (k646 : Int))], [(1, .row 1 (List.map encInt v520)), (3, .row 1 (List.map encInt x11)), (9, .row 1 (List.map encInt s))], 91, []⟩ : St)) (fun s => s = o747) ?_ ?_
 refine AW.block ?_
 refine AW.seq (AW.region ?_)
 refine AO.pu T ?_
 refine AO.val rfl rfl (ix_row_ok T rfl rfl rfl rfl rfl rfl (getI_drop hd649)) ?_
 refine AO.val rfl rfl (load_row_ok T rfl rfl rfl rfl (getI_get (getI_drop hd649)) rfl rfl rfl) ?_
 iterate 2 refine AO.pu T ?_
 refine AO.nil (AW.seq ?_)
 refine AW.region ?_
 refine AO.pu T ?_
 refine AO.nil ?_
 refine AW.block ?_
 refine AW.loopS (fun s : Nat × (List Int) × Int => (⟨[(3, most), (4, n), (14, y14), (15, .R 9), (16, (k646 : Int)), (17, y647), (18, s.2.2), (45, .R 3), (46, (x11.length : Int)), (47, (k13 : Int)), (54, .R 1), (55, (v520.length : Int)), (56, (k646 : Int))], [(1, .row 1 (List.map encInt v520)), (3, .row 1 (List.map encInt x11)), (9, .row 1 (List.map encInt s.2.1))], 91, []⟩ : St)) (fun s => impl_CountPanels_l3 most n fuel y14 k646 y647 s.1 s.2.1 s.2.2 = some o747) (fun s => s.1) (fuel, v727, 0) hH ?_ ?_
 exact Le.ct 0 0
 rintro ⟨k749, v760, v761⟩ hH
 replace hH : impl_CountPanels_l3 most n fuel y14 k646 y647 k749 v760 v761 = some o747 := hH
 try dsimp only
 rcases k749 with _ | k749
 cases (show none = some _ from hH)
 rw [impl_CountPanels_l3] at hH
 iterate 2 refine AW.seq ?_
 refine AW.region ?_
 iterate 5 refine AO.pu T ?_
 refine AO.val rfl rfl (arw_ok rfl rfl rfl rfl) ?_
 refine AO.val rfl rfl (min3_ok rfl rfl rfl rfl) ?_
 refine AO.pu T ?_
 refine AO.nil ?_
 refine AW.cond (b := decide (v761 ≤ (min (min y14 most) (w64 (n - (k646 : Int)))))) rfl (fun hc => ?_) (fun hc => ?_)
 replace hH := condT hc hH
 refine AW.skip ?_
 refine AW.seq ?_
 refine AW.block ?_
 obtain ⟨x763, hx764, hH⟩ := bindE hH
 obtain ⟨x765, hx766, hH⟩ := bindE hH
 refine AW.drawn 11 10 [] mix (by kernel_rfl) rfl ?_
 iterate 3 refine AD.pure T rfl rfl rfl ?_
 refine AD.val rfl rfl (arw_ok rfl rfl rfl rfl) ?_
 refine AD.val rfl rfl (ix_row_ok T rfl rfl rfl rfl rfl rfl (hx764)) ?_
 refine AD.val rfl rfl (load_row_ok T rfl rfl rfl rfl (getI_get (hx764)) rfl rfl rfl) ?_
 iterate 3 refine AD.pure T rfl rfl rfl ?_
 refine AD.val rfl rfl (callV_ok rfl rfl rfl rfl (impl_choose_ok fuel _ _ _ (hx766)) rfl) ?_
 refine AD.val rfl rfl (arw_ok rfl rfl rfl rfl) ?_
 refine AD.nil ?_
 refine AO.val rfl rfl (arw_ok rfl rfl rfl rfl) ?_
 refine AO.val rfl rfl (ix_row_ok T rfl rfl rfl rfl rfl rfl (hx764)) ?_
 refine AO.step rfl (store_row_ok T rfl rfl rfl rfl rfl (getI_get (hx764)) rfl rfl rfl rfl (u' := w64 (x763 + (w64 (y647 * x765)))) rfl rfl) ?_
 refine AO.nil ?_
 refine AW.region ?_
 refine AO.pu T ?_
 refine AO.val rfl rfl (arw_ok rfl rfl rfl rfl) ?_
 refine AO.pu T ?_
 refine AO.nil ?_
 refine ⟨(k749, (v760.set ((w64 ((k646 : Int) + v761)).toNat) (w64 (x763 + (w64 (y647 * x765))))), w64 (v761 + 1)), hH, Nat.lt_succ_self _, ?_⟩
 exact Le.ct 0 0
 replace hH := condF hc hH
 refine AW.exit ?_
 refine ⟨_, someE hH, ?_⟩
 exact Le.ct 0 0
 rintro v746 hs
 subst hs
 replace hH := hK748
 try dsimp only [flow, flowE] at hH
 try dsimp only
 refine AW.region ?_
 refine AO.val rfl rfl (ar_ok rfl rfl rfl rfl (inI_succ hlt651 hb650)) ?_
 refine AO.pu T ?_
 refine AO.nil ?_
 refine ⟨(k646 + 1, v746), ⟨Nat.succ_le_of_lt hlt651, (by rw [drop_succ_of hd649]; exact hH)⟩, (by have := hlt651; dsimp only; omega), ?_⟩
 exact Le.ct 0 0
 rintro v643 hs
 subst hs
 replace hH := hK645
 try dsimp only [flow, flowE] at hH
 try dsimp only
 refine AW.region ?_
 refine AO.val rfl rfl (ar_ok rfl rfl rfl rfl (inI_succ hlt18 hb17)) ?_
 refine AO.pu T ?_
 refine AO.nil ?_
 refine ⟨(k13 + 1, v643), ⟨Nat.succ_le_of_lt hlt18, (by rw [drop_succ_of hd16]; exact hH)⟩, (by have := hlt18; dsimp only; omega), ?_⟩
 exact Le.ct 8 1

def spec_CountPanels_l2 (l : List Official) (clubs : List Int) (level : Int) (most : Int) (n : Int) (fuel : Nat) (v110 : Int) (v111 : Int) : List Int → Nat → List Int → Option Int
  | [], k140, v155 =>
    (opt ((v155.length : Int) == n) default (spec_paIs_p fuel l clubs level most v155)).bind fun x157 =>
    cond (((v155.length : Int) == n) && x157)
      (some (w64 (v110 + 1)))
      (some v110)
  | y141 :: ys142, k140, v155 =>
    (need (decide (0 ≤ IntKind.wrap .u64 (k140 : Int)))).bind fun u159 =>
    cond ((IntKind.wrap .i64 ((BitVec.ofInt 64 (v111.fdiv (2 ^ (min (IntKind.wrap .u64 (k140 : Int)).toNat 64))) &&& BitVec.ofInt 64 1).toNat : Int)) == 1)
      ((need (fitsB 8 (v155.length + ([y141]).length))).bind fun u161 =>
      spec_CountPanels_l2 l clubs level most n fuel v110 v111 ys142 (k140 + 1) (v155 ++ [y141]))
      (spec_CountPanels_l2 l clubs level most n fuel v110 v111 ys142 (k140 + 1) v155)
def spec_CountPanels_l1 (l : List Official) (clubs : List Int) (level : Int) (most : Int) (n : Int) (fuel : Nat) (x7 : (List Int)) : Nat → Int → Int → Option ((Int × Bool))
  | 0, _, _ => none
  | k9 + 1, v110, v111 =>
    (need (decide (0 ≤ IntKind.wrap .u64 (x7.length : Int)))).bind fun u113 =>
    cond (decide (v111 < (IntKind.wrap .i64 (1 * 2 ^ (min (IntKind.wrap .u64 (x7.length : Int)).toNat 64)))))
      ((spec_CountPanels_l2 l clubs level most n fuel v110 v111 x7 0 []).bind fun v137 =>
      spec_CountPanels_l1 l clubs level most n fuel x7 k9 v137 (w64 (v111 + 1)))
      (some (v110, true))
def spec_CountPanels_p (fuel : Nat) (l : List Official) (clubs : List Int) (level : Int) (most : Int) (n : Int) : Option (Int × Bool) :=
  (spec_paAsked_p l clubs level).bind fun x1 =>
  (opt (!(!x1)) default (spec_paMost_p most)).bind fun x3 =>
  (opt (!((!x1) || (!x3))) default (spec_paMost_p n)).bind fun x5 =>
  cond ((((!x1) || (!x3)) || (!x5)) || decide ((l.length : Int) > 14))
    (some (0, false))
    ((spec_paEligible_p fuel l clubs level).bind fun x7 =>
    spec_CountPanels_l1 l clubs level most n fuel x7 fuel 0 0)
theorem spec_CountPanels_ok (fuel : Nat) (l : List Official) (clubs : List Int) (level : Int) (most : Int) (n : Int) (r : (Int × Bool)) (hH : spec_CountPanels_p fuel l clubs level most n = some r) : SpecR Tryz.prog 17 [.s (List.map encOfficial l), .s (List.map encInt clubs), level, most, n] (.t [.v (.int .i64 r.1), .v (.bool r.2)]) := by
 refine fn_ok T Tryz.func17 rfl (by decide) rfl ?_
 refine AW.seq (AW.region ?_)
 iterate 2 refine AO.pu T ?_
 refine AO.nil ?_
 iterate 2 refine AW.seq ?_
 obtain ⟨x1, hx2, hH⟩ := bindE hH
 obtain ⟨x3, hx4, hH⟩ := bindE hH
 obtain ⟨x5, hx6, hH⟩ := bindE hH
 refine AW.region ?_
 iterate 3 refine AO.pu T ?_
 refine AO.val rfl rfl (callV_ok rfl rfl rfl rfl (spec_paAsked_ok _ _ _ _ (hx2)) rfl) ?_
 iterate 2 refine AO.pu T ?_
 refine AO.pureG T [] rfl trivial rfl rfl ?_
 refine AO.guard [24] rfl ⟨fun h => h, trivial⟩ (fun hg => callV_ok rfl rfl rfl rfl (spec_paMost_ok _ _ (optT hx4 hg)) rfl) rfl ?_
 refine AO.pureG T [25] rfl ⟨fun h => h, trivial⟩ rfl rfl ?_
 refine AO.val rfl rfl (pick_or rfl rfl rfl rfl) ?_
 refine AO.pu T ?_
 refine AO.pureG T [] rfl trivial rfl rfl ?_
 refine AO.guard [29] rfl ⟨fun h => h, trivial⟩ (fun hg => callV_ok rfl rfl rfl rfl (spec_paMost_ok _ _ (optT hx6 hg)) rfl) rfl ?_
 refine AO.pureG T [30] rfl ⟨fun h => h, trivial⟩ rfl rfl ?_
 refine AO.val rfl rfl (pick_or rfl rfl rfl rfl) ?_
 refine AO.pu T ?_
 refine AO.pureG T [] rfl trivial rfl rfl ?_
 refine AO.guard [34] rfl ⟨fun h => h, trivial⟩ (fun hg => len_map_ok T rfl rfl rfl) rfl ?_
 refine AO.pureG T [35] rfl ⟨fun h => h, trivial⟩ rfl rfl ?_
 refine AO.val rfl rfl (pick_or rfl rfl rfl rfl) ?_
 refine AO.nil ?_
 refine AW.cond (b := ((((!x1) || (!x3)) || (!x5)) || decide ((l.length : Int) > 14))) rfl (fun hc => ?_) (fun hc => ?_)
 replace hH := condT hc hH
 refine AW.seq (AW.region ?_)
 iterate 2 refine AO.pu T ?_
 refine AO.nil ?_
 refine AW.le (Le.ct 0 0 (σ' := (⟨[(10, (0 : Int)), (11, .v (.bool false))], [], 83, []⟩ : St))) ?_
 refine AW.ret ?_
 have hR := someE hH; subst hR
 exact retQ.i [] rfl (.t (expLG_cons (.c .v) (expLG_cons (.c .v) (expLG_nil))))
 replace hH := condF hc hH
 refine AW.skip ?_
 refine AW.seq ?_
 obtain ⟨x7, hx8, hH⟩ := bindE hH
 refine AW.region ?_
 iterate 3 refine AO.pu T ?_
 refine AO.step rfl (call_ok rfl 1 rfl rfl rfl (spec_paEligible_ok fuel _ _ _ _ (hx8)) rfl rfl rfl) ?_
 refine AO.pu T ?_
 refine AO.nil ?_
 refine AW.le (Le.ct 0 0 (σ' := (⟨[(0, .s (List.map encOfficial l)), (1, .s (List.map encInt clubs)), (2, level), (3, most), (4, n), (12, .R 1)], [(1, .row 1 (List.map encInt x7))], 83, []⟩ : St))) ?_
 refine AW.seq (AW.region ?_)
 refine AO.pu T ?_
 refine AO.nil ?_
 iterate 2 refine AW.seq ?_
 refine AW.region ?_
 refine AO.pu T ?_
 refine AO.nil ?_
 refine AW.block ?_
 refine AW.loopS (fun s : Nat × Int × Int => (⟨[(0, .s (List.map encOfficial l)), (1, .s (List.map encInt clubs)), (2, level), (3, most), (4, n), (12, .R 1), (13, s.2.1), (14, s.2.2)], [(1, .row 1 (List.map encInt x7))], 83, []⟩ : St)) (fun s => spec_CountPanels_l1 l clubs level most n fuel x7 s.1 s.2.1 s.2.2 = some r) (fun s => s.1) (fuel, 0, 0) hH ?_ ?_
 exact Le.ct 0 0
 rintro ⟨k9, v110, v111⟩ hH
 replace hH : spec_CountPanels_l1 l clubs level most n fuel x7 k9 v110 v111 = some r := hH
 try dsimp only
 rcases k9 with _ | k9
 cases (show none = some _ from hH)
 rw [spec_CountPanels_l1] at hH
 iterate 2 refine AW.seq ?_
 obtain ⟨u113, hx114, hH⟩ := bindE hH
 refine AW.region ?_
 iterate 2 refine AO.pu T ?_
 refine AO.val rfl rfl (len_row_ok T rfl rfl rfl rfl) ?_
 refine AO.val rfl rfl (convw_ok T rfl rfl rfl rfl) ?_
 refine AO.val rfl rfl (shl_ok rfl rfl rfl (needT (hx114))) ?_
 refine AO.pu T ?_
 refine AO.nil ?_
 refine AW.cond (b := decide (v111 < (IntKind.wrap .i64 (1 * 2 ^ (min (IntKind.wrap .u64 (x7.length : Int)).toNat 64))))) rfl (fun hc => ?_) (fun hc => ?_)
 replace hH := condT hc hH
 refine AW.skip ?_
 obtain ⟨o138, hH, hK139⟩ := bindE hH
 refine AW.seqJ (fun s : Int => (⟨[(0, .s (List.map encOfficial l)), (1, .s (List.map encInt clubs)), (2, level), (3, most), (4, n), (12, .R 1), (13, s), (14, v111)], [(1, .row 1 (List.map encInt x7))], 83, []⟩ : St)) (fun s => s = o138) ?_ ?_
 refine AW.block ?_
 refine AW.seq (AW.region ?_)
 refine AO.pu T ?_
 refine AO.nil ?_
 iterate 2 refine AW.seq ?_
 refine AW.region ?_
 refine AO.pu T ?_
 refine AO.val rfl rfl (len_row_ok T rfl rfl rfl rfl) ?_
 refine AO.pu T ?_
 refine AO.nil ?_
 refine AW.block ?_
 refine AW.loopS (fun s : Nat × (List Int) => (⟨[(0, .s (List.map encOfficial l)), (1, .s (List.map encInt clubs)), (2, level), (3, most), (4, n), (12, .R 1), (13, v110), (14, v111), (15, .R 35), (50, .R 1), (51, (x7.length : Int)), (52, (s.1 : Int))], [(1, .row 1 (List.map encInt x7)), (35, .row 1 (List.map encInt s.2))], 83, []⟩ : St)) (fun s => s.1 ≤ x7.length ∧ spec_CountPanels_l2 l clubs level most n fuel v110 v111 (x7.drop s.1) s.1 s.2 = some o138) (fun s => x7.length - s.1) (0, []) ⟨Nat.zero_le _, hH⟩ ?_ ?_
 refine Le.trans (Le.void 15 35 1 rfl rfl) ?_
 exact Le.ct 0 0
 rintro ⟨k140, v155⟩ ⟨hk, hH⟩
 replace hH : spec_CountPanels_l2 l clubs level most n fuel v110 v111 (x7.drop k140) k140 v155 = some o138 := hH
 try dsimp only
 refine AW.boundR (id := 1) (l := x7) rfl (fun hb144 => ?_)
 rcases hd143 : x7.drop k140 with _ | ⟨y141, ys142⟩
 rw [hd143, spec_CountPanels_l2] at hH
 have hlt145 := drop_ge hd143
 refine AW.seq (AW.region ?_)
 refine AO.pu T ?_
 refine AO.nil (AW.seq ?_)
 refine AW.condF' (b := decide ((k140 : Int) < (x7.length : Int))) rfl (rngF hlt145) ?_
 refine AW.exit ?_
 refine AW.seq ?_
 obtain ⟨x157, hx158, hH⟩ := bindE hH
 refine AW.region ?_
 refine AO.pu T ?_
 refine AO.val rfl rfl (len_row_ok T rfl rfl rfl rfl) ?_
 iterate 3 refine AO.pu T ?_
 iterate 5 refine AO.pureG T [] rfl trivial rfl rfl ?_
 refine AO.guard [73, 74, 75, 76, 77] rfl ⟨fun h => h, fun h => h, fun h => h, fun h => h, fun h => h, trivial⟩ (fun hg => callLV_ok rfl rfl rfl (es := [.s (List.map encOfficial l), .s (List.map encInt clubs), level, most, .s (List.map encInt v155)]) ⟨.free rfl, .free rfl, .free rfl, .free rfl, (.rowR rfl (.map fun y => .vs rfl)), trivial⟩ (spec_paIs_ok fuel _ _ _ _ _ _ (optT hx158 hg)) (zfree_v _) rfl) rfl ?_
 refine AO.val rfl rfl (pick_and rfl rfl rfl rfl) ?_
 refine AO.nil ?_
 refine AW.cond (b := (((v155.length : Int) == n) && x157)) rfl (fun hc => ?_) (fun hc => ?_)
 replace hH := condT hc hH
 refine AW.region ?_
 refine AO.pu T ?_
 refine AO.val rfl rfl (arw_ok rfl rfl rfl rfl) ?_
 refine AO.pu T ?_
 refine AO.nil ?_
 refine ⟨_, someE hH, ?_⟩
 exact Le.ct 0 0
 replace hH := condF hc hH
 refine AW.skip ?_
 refine ⟨_, someE hH, ?_⟩
 exact Le.ct 0 0
 rw [hd143, spec_CountPanels_l2] at hH
 have hlt145 := drop_lt hd143
 refine AW.seq (AW.region ?_)
 refine AO.pu T ?_
 refine AO.nil (AW.seq ?_)
 refine AW.condT' (b := decide ((k140 : Int) < (x7.length : Int))) rfl (rngT hlt145) ?_
 refine AW.skip ?_
 refine AW.seq ?_
 refine AW.block ?_
 refine AW.seq (AW.region ?_)
 refine AO.pu T ?_
 refine AO.val rfl rfl (ix_row_ok T rfl rfl rfl rfl rfl rfl (getI_drop hd143)) ?_
 refine AO.val rfl rfl (load_row_ok T rfl rfl rfl rfl (getI_get (getI_drop hd143)) rfl rfl rfl) ?_
 iterate 2 refine AO.pu T ?_
 refine AO.nil (AW.seq ?_)
 obtain ⟨u159, hx160, hH⟩ := bindE hH
 refine AW.region ?_
 iterate 2 refine AO.pu T ?_
 refine AO.val rfl rfl (convw_ok T rfl rfl rfl rfl) ?_
 refine AO.val rfl rfl (shr_ok rfl rfl rfl (needT (hx160)) rfl) ?_
 refine AO.val rfl rfl (and_ok rfl rfl rfl) ?_
 refine AO.pu T ?_
 refine AO.nil ?_
 refine AW.cond (b := ((IntKind.wrap .i64 ((BitVec.ofInt 64 (v111.fdiv (2 ^ (min (IntKind.wrap .u64 (k140 : Int)).toNat 64))) &&& BitVec.ofInt 64 1).toNat : Int)) == 1)) rfl (fun hc => ?_) (fun hc => ?_)
 replace hH := condT hc hH
 obtain ⟨u161, hx162, hH⟩ := bindE hH
 refine AW.region ?_
 iterate 2 refine AO.pu T ?_
 refine AO.step rfl (mk_map_ok T rfl 36 rfl rfl rfl rfl rfl (f := encInt) (l := [y141]) rfl rfl (fun _ => rfl) rfl rfl rfl rfl rfl) ?_
 refine AO.step rfl (app_rv_map T rfl 37 rfl rfl rfl rfl rfl (by decide) rfl rfl rfl rfl (fun _ => rfl) (needT (hx162)) rfl rfl) ?_
 refine AO.pu T ?_
 refine AO.nil ?_
 refine AW.region ?_
 refine AO.val rfl rfl (ar_ok rfl rfl rfl rfl (inI_succ hlt145 hb144)) ?_
 refine AO.pu T ?_
 refine AO.nil ?_
 refine ⟨(k140 + 1, (v155 ++ [y141])), ⟨Nat.succ_le_of_lt hlt145, (by rw [drop_succ_of hd143]; exact hH)⟩, (by have := hlt145; dsimp only; omega), ?_⟩
 exact Le.ct 37 35
 replace hH := condF hc hH
 refine AW.skip ?_
 refine AW.region ?_
 refine AO.val rfl rfl (ar_ok rfl rfl rfl rfl (inI_succ hlt145 hb144)) ?_
 refine AO.pu T ?_
 refine AO.nil ?_
 refine ⟨(k140 + 1, v155), ⟨Nat.succ_le_of_lt hlt145, (by rw [drop_succ_of hd143]; exact hH)⟩, (by have := hlt145; dsimp only; omega), ?_⟩
 exact Le.ct 0 0
 rintro v137 hs
 subst hs
 replace hH := hK139
 try dsimp only [flow, flowE] at hH
 try dsimp only
 refine AW.region ?_
 refine AO.pu T ?_
 refine AO.val rfl rfl (arw_ok rfl rfl rfl rfl) ?_
 refine AO.pu T ?_
 refine AO.nil ?_
 refine ⟨(k9, v137, w64 (v111 + 1)), hH, Nat.lt_succ_self _, ?_⟩
 exact Le.ct 0 0
 replace hH := condF hc hH
 refine AW.exit ?_
 refine AW.seq (AW.region ?_)
 iterate 3 refine AO.pu T ?_
 refine AO.nil (AW.ret ?_)
 have hR := someE hH; subst hR
 exact retQ.i [] rfl (.t (expLG_cons (.c .v) (expLG_cons (.c .v) (expLG_nil))))

def spec_DrawClubsOfPanel_p (fuel : Nat) (code : List Int) : Option ((List Official) × (List Int)) :=
  (spec_DrawIsPanel_p fuel code).bind fun x1 =>
  some (x1.1, x1.2.2.2.2)
theorem spec_DrawClubsOfPanel_ok (fuel : Nat) (code : List Int) (r : ((List Official) × (List Int))) (hH : spec_DrawClubsOfPanel_p fuel code = some r) : SpecR Tryz.prog 18 [.s (List.map encInt_u8 code)] (.t [.w 3 (r.1.map encOfficial), .s (r.2.map encInt)]) := by
 refine fn_ok T Tryz.func18 rfl (by decide) rfl ?_
 refine AW.seq (AW.region ?_)
 iterate 2 refine AO.pu T ?_
 refine AO.nil (AW.seq ?_)
 obtain ⟨x1, hx2, hH⟩ := bindE hH
 refine AW.region ?_
 refine AO.pu T ?_
 refine AO.step rfl (call_ok rfl 1 rfl rfl rfl (spec_DrawIsPanel_ok fuel _ _ (hx2)) rfl rfl rfl) ?_
 iterate 11 refine AO.pu T ?_
 refine AO.nil (AW.seq ?_)
 refine AW.region ?_
 iterate 4 refine AO.pu T ?_
 refine AO.nil (AW.ret ?_)
 have hR := someE hH; subst hR
 exact retQ.i [1] rfl (.t (expLG_cons (.c (.rowR rfl)) (expLG_cons (.c .s) (expLG_nil))))

def slices_Compact_int_l2 (sA : List Int) (v147 : Int) : Nat → List Int → Int → List Int → Int → Option (Except ((List Int)) Unit)
  | 0, _, _, _, _ => none
  | k192 + 1, v207, v208, v209, v210 =>
    cond (decide (v210 < (((sA.length - v147.toNat) : Nat) : Int)))
      ((getP v209 v147.toNat (sA.length - v147.toNat) v210).bind fun x212 =>
      (getP v209 v147.toNat (sA.length - v147.toNat) (w64 (v210 - 1))).bind fun x214 =>
      cond (x212 != x214)
        ((getI v209 v208).bind fun x216 =>
        slices_Compact_int_l2 sA v147 k192 (v209.set v208.toNat x212) (w64 (v208 + 1)) (v209.set v208.toNat x212) (w64 (v210 + 1)))
        (slices_Compact_int_l2 sA v147 k192 v209 v208 v209 (w64 (v210 + 1))))
      ((need (inB v208 v209.length v209.length)).bind fun u218 =>
      (need (inB 0 v208 ((List.take v208.toNat v209 ++ List.replicate (v209.length - v208.toNat) 0 ++ List.drop (v208.toNat + (v209.length - v208.toNat)) v209)).length)).bind fun u220 =>
      some (.error ((List.drop 0 (List.take v208.toNat v209 ++ List.replicate (v209.length - v208.toNat) 0 ++ List.drop (v208.toNat + (v209.length - v208.toNat)) v209)).take v208.toNat)))
def slices_Compact_int_l1 (sA : List Int) (fuel : Nat) : Nat → Int → Option ((List Int))
  | 0, _ => none
  | k1 + 1, v147 =>
    cond (decide (v147 < (sA.length : Int)))
      (((getI sA v147).bind fun x186 =>
      (getI sA (w64 (v147 - 1))).bind fun x188 =>
      cond (x186 == x188)
        ((need (inB v147 sA.length sA.length)).bind fun u190 =>
        slices_Compact_int_l2 sA v147 fuel sA v147 sA 1)
        (some (.ok ()))).bind fun o184 => flow o184 fun _ =>
      slices_Compact_int_l1 sA fuel k1 (w64 (v147 + 1)))
      (some sA)
def slices_Compact_int_p (fuel : Nat) (sA : List Int) : Option (List Int) :=
  cond (decide ((sA.length : Int) < 2))
    (some sA)
    (slices_Compact_int_l1 sA fuel fuel 1)
theorem slices_Compact_int_ok (fuel : Nat) (sA : List Int) (r : (List Int)) (hH : slices_Compact_int_p fuel sA = some r) : SpecM Tryz.prog 61 [.w 1 (sA.map encInt)] [.u] (.w 1 (r.map encInt)) := by
 refine fn_okM T Tryz.func61 rfl (by decide) rfl rfl ?_
 intro L
 show AW _ _ _ (⟨[(0, .R 1)], [(1, .row 1 (List.map encInt sA))], 61, [(1, L 1)]⟩ : St)
 refine AW.seq (AW.region ?_)
 refine AO.pu T ?_
 refine AO.nil ?_
 iterate 2 refine AW.seq ?_
 refine AW.region ?_
 refine AO.pu T ?_
 refine AO.val rfl rfl (len_row_ok T rfl rfl rfl rfl) ?_
 refine AO.pu T ?_
 refine AO.nil ?_
 refine AW.cond (b := decide ((sA.length : Int) < 2)) rfl (fun hc => ?_) (fun hc => ?_)
 replace hH := condT hc hH
 refine AW.seq (AW.region ?_)
 iterate 2 refine AO.pu T ?_
 refine AO.nil (AW.ret ?_)
 have hR := someE hH; subst hR
 exact ⟨trivial, rfl, _, [1], [], rfl, expLG_cons (.c .u) (expLG_nil), .c (.c (.rowR rfl)), by decide⟩
 replace hH := condF hc hH
 refine AW.skip ?_
 iterate 2 refine AW.seq ?_
 refine AW.region ?_
 refine AO.pu T ?_
 refine AO.nil ?_
 refine AW.block ?_
 refine AW.loopS (fun s : Nat × Int => (⟨[(0, .R 1), (3, s.2)], [(1, .row 1 (List.map encInt sA))], 61, [(1, L 1)]⟩ : St)) (fun s => slices_Compact_int_l1 sA fuel s.1 s.2 = some r) (fun s => s.1) (fuel, 1) hH ?_ ?_
 exact Le.ct 0 0 (hpin := ⟨⟨rfl, rfl⟩, trivial⟩)
 rintro ⟨k1, v147⟩ hH
 replace hH : slices_Compact_int_l1 sA fuel k1 v147 = some r := hH
 try dsimp only
 rcases k1 with _ | k1
 cases (show none = some _ from hH)
 rw [slices_Compact_int_l1] at hH
 iterate 2 refine AW.seq ?_
 refine AW.region ?_
 iterate 2 refine AO.pu T ?_
 refine AO.val rfl rfl (len_row_ok T rfl rfl rfl rfl) ?_
 refine AO.pu T ?_
 refine AO.nil ?_
 refine AW.cond (b := decide (v147 < (sA.length : Int))) rfl (fun hc => ?_) (fun hc => ?_)
 replace hH := condT hc hH
 refine AW.skip ?_
 obtain ⟨o184, hH, hK185⟩ := bindE hH
 refine AW.seqJ (fun s : Unit => (⟨[(0, .R 1), (3, v147)], [(1, .row 1 (List.map encInt sA))], 61, [(1, L 1)]⟩ : St)) (fun s => .ok s = o184) ?_ ?_
 refine AW.block ?_
 refine AW.seq ?_
 obtain ⟨x186, hx187, hH⟩ := bindE hH
 obtain ⟨x188, hx189, hH⟩ := bindE hH
 refine AW.drawn 9 2 [] mix (by kernel_rfl) rfl ?_
 iterate 2 refine AD.pure T rfl rfl rfl ?_
 refine AD.val rfl rfl (ix_row_ok T rfl rfl rfl rfl rfl rfl (hx187)) ?_
 refine AD.val rfl rfl (load_row_ok T rfl rfl rfl rfl (getI_get (hx187)) rfl rfl rfl) ?_
 iterate 2 refine AD.pure T rfl rfl rfl ?_
 refine AD.val rfl rfl (arw_ok rfl rfl rfl rfl) ?_
 refine AD.val rfl rfl (ix_row_ok T rfl rfl rfl rfl rfl rfl (hx189)) ?_
 refine AD.val rfl rfl (load_row_ok T rfl rfl rfl rfl (getI_get (hx189)) rfl rfl rfl) ?_
 refine AD.nil ?_
 refine AO.pu T ?_
 refine AO.nil ?_
 refine AW.cond (b := (x186 == x188)) rfl (fun hc => ?_) (fun hc => ?_)
 replace hH := condT hc hH
 refine AW.seq ?_
 obtain ⟨u190, hx191, hH⟩ := bindE hH
 refine AW.region ?_
 iterate 2 refine AO.pu T ?_
 refine AO.val rfl rfl (slice_row_lo T rfl rfl rfl rfl rfl rfl (needT (hx191))) ?_
 refine AO.pu T ?_
 refine AO.nil ?_
 iterate 2 refine AW.seq ?_
 refine AW.region ?_
 refine AO.pu T ?_
 refine AO.nil ?_
 refine AW.block ?_
 refine AW.loopS (fun s : Nat × (List Int) × Int × (List Int) × Int => (⟨[(0, .R 1), (3, s.2.2.1), (4, .r 1 v147.toNat (sA.length - v147.toNat)), (5, s.2.2.2.2)], [(1, .row 1 (List.map encInt s.2.2.2.1))], 61, [(1, L 1)]⟩ : St)) (fun s => slices_Compact_int_l2 sA v147 s.1 s.2.1 s.2.2.1 s.2.2.2.1 s.2.2.2.2 = some o184) (fun s => s.1) (fuel, sA, v147, sA, 1) hH ?_ ?_
 exact Le.ct 0 0 (hpin := ⟨⟨rfl, rfl⟩, trivial⟩)
 rintro ⟨k192, v207, v208, v209, v210⟩ hH
 replace hH : slices_Compact_int_l2 sA v147 k192 v207 v208 v209 v210 = some o184 := hH
 try dsimp only
 rcases k192 with _ | k192
 cases (show none = some _ from hH)
 rw [slices_Compact_int_l2] at hH
 iterate 2 refine AW.seq ?_
 refine AW.region ?_
 iterate 4 refine AO.pu T ?_
 refine AO.nil ?_
 refine AW.cond (b := decide (v210 < (((sA.length - v147.toNat) : Nat) : Int))) rfl (fun hc => ?_) (fun hc => ?_)
 replace hH := condT hc hH
 refine AW.skip ?_
 refine AW.seq ?_
 refine AW.block ?_
 refine AW.seq ?_
 obtain ⟨x212, hx213, hH⟩ := bindE hH
 obtain ⟨x214, hx215, hH⟩ := bindE hH
 refine AW.drawn 9 2 [] mix (by kernel_rfl) rfl ?_
 iterate 2 refine AD.pure T rfl rfl rfl ?_
 refine AD.val rfl rfl (ix_part_ok T rfl rfl rfl rfl rfl rfl (hx213)) ?_
 refine AD.val rfl rfl (load_row_ok T rfl rfl rfl rfl (getP_get (hx213)) rfl rfl rfl) ?_
 iterate 2 refine AD.pure T rfl rfl rfl ?_
 refine AD.val rfl rfl (arw_ok rfl rfl rfl rfl) ?_
 refine AD.val rfl rfl (ix_part_ok T rfl rfl rfl rfl rfl rfl (hx215)) ?_
 refine AD.val rfl rfl (load_row_ok T rfl rfl rfl rfl (getP_get (hx215)) rfl rfl rfl) ?_
 refine AD.nil ?_
 refine AO.pu T ?_
 refine AO.nil ?_
 refine AW.cond (b := (x212 != x214)) rfl (fun hc => ?_) (fun hc => ?_)
 replace hH := condT hc hH
 refine AW.seq ?_
 obtain ⟨x216, hx217, hH⟩ := bindE hH
 refine AW.region ?_
 iterate 4 refine AO.pu T ?_
 refine AO.val rfl rfl (ix_part_ok T rfl rfl rfl rfl rfl rfl (hx213)) ?_
 refine AO.val rfl rfl (load_row_ok T rfl rfl rfl rfl (getP_get (hx213)) rfl rfl rfl) ?_
 refine AO.val rfl rfl (ix_row_ok T rfl rfl rfl rfl rfl rfl (hx217)) ?_
 refine AO.step rfl (store_row_ok T rfl rfl rfl rfl rfl (getI_get (hx217)) rfl rfl rfl rfl (u' := x212) rfl rfl) ?_
 refine AO.nil ?_
 refine AW.region ?_
 refine AO.pu T ?_
 refine AO.val rfl rfl (arw_ok rfl rfl rfl rfl) ?_
 refine AO.pu T ?_
 refine AO.nil ?_
 refine AW.le (Le.ct 0 0 (σ' := (⟨[(0, .R 1), (3, w64 (v208 + 1)), (4, .r 1 v147.toNat (sA.length - v147.toNat)), (5, v210)], [(1, .row 1 (List.map encInt (v209.set v208.toNat x212)))], 61, [(1, L 1)]⟩ : St)) (hpin := ⟨⟨rfl, rfl⟩, trivial⟩)) ?_
 refine AW.region ?_
 refine AO.pu T ?_
 refine AO.val rfl rfl (arw_ok rfl rfl rfl rfl) ?_
 refine AO.pu T ?_
 refine AO.nil ?_
 refine ⟨(k192, (v209.set v208.toNat x212), w64 (v208 + 1), (v209.set v208.toNat x212), w64 (v210 + 1)), hH, Nat.lt_succ_self _, ?_⟩
 exact Le.ct 0 0 (hpin := ⟨⟨rfl, rfl⟩, trivial⟩)
 replace hH := condF hc hH
 refine AW.skip ?_
 refine AW.region ?_
 refine AO.pu T ?_
 refine AO.val rfl rfl (arw_ok rfl rfl rfl rfl) ?_
 refine AO.pu T ?_
 refine AO.nil ?_
 refine ⟨(k192, v209, v208, v209, w64 (v210 + 1)), hH, Nat.lt_succ_self _, ?_⟩
 exact Le.ct 0 0 (hpin := ⟨⟨rfl, rfl⟩, trivial⟩)
 replace hH := condF hc hH
 refine AW.exit ?_
 refine AW.seq ?_
 obtain ⟨u218, hx219, hH⟩ := bindE hH
 refine AW.region ?_
 iterate 2 refine AO.pu T ?_
 refine AO.val rfl rfl (slice_row_lo T rfl rfl rfl rfl rfl rfl (needT (hx219))) ?_
 refine AO.step rfl (clear_r_ok T (f := encInt) (zo := 0) rfl rfl rfl rfl (by decide) rfl (by repeat constructor) rfl rfl (by have := inB_iff (needT (hx219)); omega) rfl) ?_
 refine AO.nil (AW.seq ?_)
 obtain ⟨u220, hx221, hH⟩ := bindE hH
 refine AW.region ?_
 iterate 2 refine AO.pu T ?_
 refine AO.val rfl rfl (slice_row_hi T rfl rfl rfl rfl rfl rfl (needT (hx221))) ?_
 refine AO.pu T ?_
 refine AO.nil (AW.ret ?_)
 obtain rfl := someE hH
 replace hH := hK185
 have hR := someE hH; subst hR
 exact ⟨trivial, rfl, _, [1], [], rfl, expLG_cons (.c .u) (expLG_nil), .c (.c (.partM rfl (by have := inB_iff (needT (hx221)); omega))), by decide⟩
 replace hH := condF hc hH
 refine AW.skip ?_
 refine ⟨_, someE hH, ?_⟩
 exact Le.ct 0 0 (hpin := ⟨⟨rfl, rfl⟩, trivial⟩)
 rintro _ hs
 subst hs
 replace hH := hK185
 try dsimp only [flow, flowE] at hH
 try dsimp only
 refine AW.region ?_
 refine AO.pu T ?_
 refine AO.val rfl rfl (arw_ok rfl rfl rfl rfl) ?_
 refine AO.pu T ?_
 refine AO.nil ?_
 refine ⟨(k1, w64 (v147 + 1)), hH, Nat.lt_succ_self _, ?_⟩
 exact Le.ct 0 0 (hpin := ⟨⟨rfl, rfl⟩, trivial⟩)
 replace hH := condF hc hH
 refine AW.exit ?_
 refine AW.seq (AW.region ?_)
 iterate 2 refine AO.pu T ?_
 refine AO.nil (AW.ret ?_)
 have hR := someE hH; subst hR
 exact ⟨trivial, rfl, _, [1], [], rfl, expLG_cons (.c .u) (expLG_nil), .c (.c (.rowR rfl)), by decide⟩

def impl_ClubsOfPanel_l1 (l : List Official) (fuel : Nat) : List Int → Nat → List Int → Option (((List Int) × Bool))
  | [], k5, v20 =>
    (slices_Sort_int_p v20).bind fun x22 =>
    (slices_Compact_int_p fuel x22).bind fun x24 =>
    some (x24, true)
  | y6 :: ys7, k5, v20 =>
    (impl_clubOf_p l y6).bind fun x26 =>
    cond (x26 == 0)
      (some ([], false))
      ((need (fitsB 8 (v20.length + ([x26]).length))).bind fun u28 =>
      impl_ClubsOfPanel_l1 l fuel ys7 (k5 + 1) (v20 ++ [x26]))
def impl_ClubsOfPanel_p (fuel : Nat) (l : List Official) (panel : List Int) : Option ((List Int) × Bool) :=
  (impl_AreOfficials_p l).bind fun x1 =>
  (opt (!(!x1)) default (impl_isIncreasing_p panel 1000)).bind fun x3 =>
  cond ((!x1) || (!x3))
    (some ([], false))
    (impl_ClubsOfPanel_l1 l fuel panel 0 [])
theorem impl_ClubsOfPanel_ok (fuel : Nat) (l : List Official) (panel : List Int) (r : ((List Int) × Bool)) (hH : impl_ClubsOfPanel_p fuel l panel = some r) : SpecR Tryz.prog 19 [.s (List.map encOfficial l), .s (List.map encInt panel)] (.t [.w 1 (r.1.map encInt), .v (.bool r.2)]) := by
 refine fn_ok T Tryz.func19 rfl (by decide) rfl ?_
 refine AW.seq (AW.region ?_)
 iterate 2 refine AO.pu T ?_
 refine AO.nil ?_
 iterate 2 refine AW.seq ?_
 obtain ⟨x1, hx2, hH⟩ := bindE hH
 obtain ⟨x3, hx4, hH⟩ := bindE hH
 refine AW.region ?_
 refine AO.pu T ?_
 refine AO.val rfl rfl (callV_ok rfl rfl rfl rfl (impl_AreOfficials_ok _ _ (hx2)) rfl) ?_
 iterate 2 refine AO.pu T ?_
 refine AO.pureG T [] rfl trivial rfl rfl ?_
 refine AO.guard [14] rfl ⟨fun h => h, trivial⟩ (fun hg => callV_ok rfl rfl rfl rfl (impl_isIncreasing_ok _ _ _ (optT hx4 hg)) rfl) rfl ?_
 refine AO.pureG T [15] rfl ⟨fun h => h, trivial⟩ rfl rfl ?_
 refine AO.val rfl rfl (pick_or rfl rfl rfl rfl) ?_
 refine AO.nil ?_
 refine AW.cond (b := ((!x1) || (!x3))) rfl (fun hc => ?_) (fun hc => ?_)
 replace hH := condT hc hH
 refine AW.seq (AW.region ?_)
 iterate 2 refine AO.pu T ?_
 refine AO.nil (AW.ret ?_)
 have hR := someE hH; subst hR
 exact retQ.i [] rfl (.t (expLG_cons (.c .nil) (expLG_cons (.c .v) (expLG_nil))))
 replace hH := condF hc hH
 refine AW.skip ?_
 refine AW.seq (AW.region ?_)
 refine AO.step rfl (mk0_ok T rfl rfl rfl rfl) ?_
 refine AO.pu T ?_
 refine AO.nil ?_
 iterate 2 refine AW.seq ?_
 refine AW.region ?_
 refine AO.pu T ?_
 refine AO.val rfl rfl (len_map_ok T rfl rfl rfl) ?_
 refine AO.pu T ?_
 refine AO.nil ?_
 refine AW.block ?_
 refine AW.loopS (fun s : Nat × (List Int) => (⟨[(0, .s (List.map encOfficial l)), (6, .R 4), (19, .s (List.map encInt panel)), (20, (panel.length : Int)), (21, (s.1 : Int))], [(4, .row 1 (List.map encInt s.2))], 39, []⟩ : St)) (fun s => s.1 ≤ panel.length ∧ impl_ClubsOfPanel_l1 l fuel (panel.drop s.1) s.1 s.2 = some r) (fun s => panel.length - s.1) (0, []) ⟨Nat.zero_le _, hH⟩ ?_ ?_
 refine Le.trans (Le.void 6 4 1 rfl rfl) ?_
 exact Le.ct 0 0
 rintro ⟨k5, v20⟩ ⟨hk, hH⟩
 replace hH : impl_ClubsOfPanel_l1 l fuel (panel.drop k5) k5 v20 = some r := hH
 try dsimp only
 refine AW.boundM (t := 19) (l := panel) rfl (fun hb9 => ?_)
 rcases hd8 : panel.drop k5 with _ | ⟨y6, ys7⟩
 rw [hd8, impl_ClubsOfPanel_l1] at hH
 have hlt10 := drop_ge hd8
 refine AW.seq (AW.region ?_)
 refine AO.pu T ?_
 refine AO.nil (AW.seq ?_)
 refine AW.condF' (b := decide ((k5 : Int) < (panel.length : Int))) rfl (rngF hlt10) ?_
 refine AW.exit ?_
 refine AW.seq ?_
 obtain ⟨x22, hx23, hH⟩ := bindE hH
 refine AW.region ?_
 refine AO.pu T ?_
 refine AO.step rfl (callM_ok rfl 5 rfl rfl (es := [.w 1 (v20.map encInt)]) (outs := [.w 1 (x22.map encInt)]) (ids := [4]) (by exact expLG_cons (.c (.rowR rfl)) (expLG_nil)) (by decide) (.inl (by rfl)) (by rfl) (slices_Sort_int_ok _ _ (hx23)) rfl (by rfl) rfl) ?_
 refine AO.nil (AW.seq ?_)
 obtain ⟨x24, hx25, hH⟩ := bindE hH
 refine AW.region ?_
 refine AO.pu T ?_
 refine AO.step rfl (callM_ok rfl 5 rfl rfl (es := [.w 1 (x22.map encInt)]) (outs := [.u]) (ids := [4]) (by exact expLG_cons (.c (.rowR rfl)) (expLG_nil)) (by decide) (.inr (by exact (show ([] : List Nat).Nodup ∧ ∀ i ∈ ([] : List Nat), i ∈ ([4] : List Nat) from by decide))) (by rfl) (slices_Compact_int_ok fuel _ _ (hx25)) rfl (by rfl) rfl) ?_
 iterate 2 refine AO.pu T ?_
 refine AO.nil (AW.ret ?_)
 have hR := someE hH; subst hR
 exact retQ.i [5] rfl (.t (expLG_cons (.c (.rowR rfl)) (expLG_cons (.c .v) (expLG_nil))))
 rw [hd8, impl_ClubsOfPanel_l1] at hH
 have hlt10 := drop_lt hd8
 refine AW.seq (AW.region ?_)
 refine AO.pu T ?_
 refine AO.nil (AW.seq ?_)
 refine AW.condT' (b := decide ((k5 : Int) < (panel.length : Int))) rfl (rngT hlt10) ?_
 refine AW.skip ?_
 refine AW.seq ?_
 refine AW.block ?_
 refine AW.seq (AW.region ?_)
 refine AO.val rfl rfl (ix_map_ok T rfl rfl rfl rfl rfl (getI_drop hd8) rfl) ?_
 iterate 2 refine AO.pu T ?_
 refine AO.nil (AW.seq ?_)
 obtain ⟨x26, hx27, hH⟩ := bindE hH
 refine AW.region ?_
 iterate 2 refine AO.pu T ?_
 refine AO.val rfl rfl (callV_ok rfl rfl rfl rfl (impl_clubOf_ok _ _ _ (hx27)) rfl) ?_
 refine AO.pu T ?_
 refine AO.nil ?_
 iterate 2 refine AW.seq ?_
 refine AW.region ?_
 iterate 2 refine AO.pu T ?_
 refine AO.nil ?_
 refine AW.cond (b := (x26 == 0)) rfl (fun hc => ?_) (fun hc => ?_)
 replace hH := condT hc hH
 refine AW.seq (AW.region ?_)
 iterate 2 refine AO.pu T ?_
 refine AO.nil (AW.ret ?_)
 have hR := someE hH; subst hR
 exact retQ.i [] rfl (.t (expLG_cons (.c .nil) (expLG_cons (.c .v) (expLG_nil))))
 replace hH := condF hc hH
 refine AW.skip ?_
 obtain ⟨u28, hx29, hH⟩ := bindE hH
 refine AW.region ?_
 iterate 2 refine AO.pu T ?_
 refine AO.step rfl (mk_map_ok T rfl 6 rfl rfl rfl rfl rfl (f := encInt) (l := [x26]) rfl rfl (fun _ => rfl) rfl rfl rfl rfl rfl) ?_
 refine AO.step rfl (app_rv_map T rfl 7 rfl rfl rfl rfl rfl (by decide) rfl rfl rfl rfl (fun _ => rfl) (needT (hx29)) rfl rfl) ?_
 refine AO.pu T ?_
 refine AO.nil ?_
 refine AW.region ?_
 refine AO.val rfl rfl (ar_ok rfl rfl rfl rfl (inI_succ hlt10 hb9)) ?_
 refine AO.pu T ?_
 refine AO.nil ?_
 refine ⟨(k5 + 1, (v20 ++ [x26])), ⟨Nat.succ_le_of_lt hlt10, (by rw [drop_succ_of hd8]; exact hH)⟩, (by have := hlt10; dsimp only; omega), ?_⟩
 exact Le.ct 7 4

def spec_ClubsOfPanel_l1 (l : List Official) (fuel : Nat) : List Int → Nat → List Int → Option (((List Int) × Bool))
  | [], k5, v24 =>
    some (v24, true)
  | y6 :: ys7, k5, v24 =>
    (spec_paFind_p l y6).bind fun x26 =>
    cond (decide (x26 < 0))
      (some ([], false))
      ((getI l x26).bind fun x28 =>
      (spec_l1Put_p fuel v24 x28.club).bind fun x30 =>
      spec_ClubsOfPanel_l1 l fuel ys7 (k5 + 1) x30)
def spec_ClubsOfPanel_p (fuel : Nat) (l : List Official) (panel : List Int) : Option ((List Int) × Bool) :=
  (spec_paOfficials_p l).bind fun x1 =>
  (opt (!(!x1)) default (spec_l1Rising_p panel 1 999)).bind fun x3 =>
  cond ((!x1) || (!x3))
    (some ([], false))
    (spec_ClubsOfPanel_l1 l fuel panel 0 [])
theorem spec_ClubsOfPanel_ok (fuel : Nat) (l : List Official) (panel : List Int) (r : ((List Int) × Bool)) (hH : spec_ClubsOfPanel_p fuel l panel = some r) : SpecR Tryz.prog 20 [.s (List.map encOfficial l), .s (List.map encInt panel)] (.t [.w 1 (r.1.map encInt), .v (.bool r.2)]) := by
 refine fn_ok T Tryz.func20 rfl (by decide) rfl ?_
 refine AW.seq (AW.region ?_)
 iterate 2 refine AO.pu T ?_
 refine AO.nil ?_
 iterate 2 refine AW.seq ?_
 obtain ⟨x1, hx2, hH⟩ := bindE hH
 obtain ⟨x3, hx4, hH⟩ := bindE hH
 refine AW.region ?_
 refine AO.pu T ?_
 refine AO.val rfl rfl (callV_ok rfl rfl rfl rfl (spec_paOfficials_ok _ _ (hx2)) rfl) ?_
 iterate 2 refine AO.pu T ?_
 refine AO.pureG T [] rfl trivial rfl rfl ?_
 refine AO.guard [14] rfl ⟨fun h => h, trivial⟩ (fun hg => callV_ok rfl rfl rfl rfl (spec_l1Rising_ok _ _ _ _ (optT hx4 hg)) rfl) rfl ?_
 refine AO.pureG T [15] rfl ⟨fun h => h, trivial⟩ rfl rfl ?_
 refine AO.val rfl rfl (pick_or rfl rfl rfl rfl) ?_
 refine AO.nil ?_
 refine AW.cond (b := ((!x1) || (!x3))) rfl (fun hc => ?_) (fun hc => ?_)
 replace hH := condT hc hH
 refine AW.seq (AW.region ?_)
 iterate 2 refine AO.pu T ?_
 refine AO.nil (AW.ret ?_)
 have hR := someE hH; subst hR
 exact retQ.i [] rfl (.t (expLG_cons (.c .nil) (expLG_cons (.c .v) (expLG_nil))))
 replace hH := condF hc hH
 refine AW.skip ?_
 refine AW.seq (AW.region ?_)
 refine AO.pu T ?_
 refine AO.nil ?_
 iterate 2 refine AW.seq ?_
 refine AW.region ?_
 refine AO.pu T ?_
 refine AO.val rfl rfl (len_map_ok T rfl rfl rfl) ?_
 refine AO.pu T ?_
 refine AO.nil ?_
 refine AW.block ?_
 refine AW.loopS (fun s : Nat × (List Int) => (⟨[(0, .s (List.map encOfficial l)), (6, .R 2), (18, .s (List.map encInt panel)), (19, (panel.length : Int)), (20, (s.1 : Int))], [(2, .row 1 (List.map encInt s.2))], 38, []⟩ : St)) (fun s => s.1 ≤ panel.length ∧ spec_ClubsOfPanel_l1 l fuel (panel.drop s.1) s.1 s.2 = some r) (fun s => panel.length - s.1) (0, []) ⟨Nat.zero_le _, hH⟩ ?_ ?_
 refine Le.trans (Le.void 6 2 1 rfl rfl) ?_
 exact Le.ct 0 0
 rintro ⟨k5, v24⟩ ⟨hk, hH⟩
 replace hH : spec_ClubsOfPanel_l1 l fuel (panel.drop k5) k5 v24 = some r := hH
 try dsimp only
 refine AW.boundM (t := 18) (l := panel) rfl (fun hb9 => ?_)
 rcases hd8 : panel.drop k5 with _ | ⟨y6, ys7⟩
 rw [hd8, spec_ClubsOfPanel_l1] at hH
 have hlt10 := drop_ge hd8
 refine AW.seq (AW.region ?_)
 refine AO.pu T ?_
 refine AO.nil (AW.seq ?_)
 refine AW.condF' (b := decide ((k5 : Int) < (panel.length : Int))) rfl (rngF hlt10) ?_
 refine AW.exit ?_
 refine AW.seq (AW.region ?_)
 iterate 3 refine AO.pu T ?_
 refine AO.nil (AW.ret ?_)
 have hR := someE hH; subst hR
 exact retQ.i [2] rfl (.t (expLG_cons (.c (.rowR rfl)) (expLG_cons (.c .v) (expLG_nil))))
 rw [hd8, spec_ClubsOfPanel_l1] at hH
 have hlt10 := drop_lt hd8
 refine AW.seq (AW.region ?_)
 refine AO.pu T ?_
 refine AO.nil (AW.seq ?_)
 refine AW.condT' (b := decide ((k5 : Int) < (panel.length : Int))) rfl (rngT hlt10) ?_
 refine AW.skip ?_
 refine AW.seq ?_
 refine AW.block ?_
 refine AW.seq (AW.region ?_)
 refine AO.val rfl rfl (ix_map_ok T rfl rfl rfl rfl rfl (getI_drop hd8) rfl) ?_
 iterate 2 refine AO.pu T ?_
 refine AO.nil (AW.seq ?_)
 obtain ⟨x26, hx27, hH⟩ := bindE hH
 refine AW.region ?_
 iterate 2 refine AO.pu T ?_
 refine AO.val rfl rfl (callV_ok rfl rfl rfl rfl (spec_paFind_ok _ _ _ (hx27)) rfl) ?_
 refine AO.pu T ?_
 refine AO.nil ?_
 iterate 2 refine AW.seq ?_
 refine AW.region ?_
 iterate 2 refine AO.pu T ?_
 refine AO.nil ?_
 refine AW.cond (b := decide (x26 < 0)) rfl (fun hc => ?_) (fun hc => ?_)
 replace hH := condT hc hH
 refine AW.seq (AW.region ?_)
 iterate 2 refine AO.pu T ?_
 refine AO.nil (AW.ret ?_)
 have hR := someE hH; subst hR
 exact retQ.i [] rfl (.t (expLG_cons (.c .nil) (expLG_cons (.c .v) (expLG_nil))))
 replace hH := condF hc hH
 refine AW.skip ?_
 obtain ⟨x28, hx29, hH⟩ := bindE hH
 obtain ⟨x30, hx31, hH⟩ := bindE hH
 refine AW.region ?_
 iterate 3 refine AO.pu T ?_
 refine AO.val rfl rfl (ix_map_ok T rfl rfl rfl rfl rfl (hx29) rfl) ?_
 iterate 2 refine AO.pu T ?_
 refine AO.step rfl (callM_ok rfl 3 rfl rfl (es := [.w 1 (v24.map encInt), .v (.int .i64 x28.club)]) (outs := [.u, .u]) (ids := [2]) (by exact expLG_cons (.c (.rowR rfl)) (expLG_cons (.c .v) (expLG_nil))) (by decide) (.inr (by exact (show ([] : List Nat).Nodup ∧ ∀ i ∈ ([] : List Nat), i ∈ ([2] : List Nat) from by decide))) (by rfl) (spec_l1Put_ok fuel _ _ _ (hx31)) rfl (by rfl) rfl) ?_
 refine AO.pu T ?_
 refine AO.nil ?_
 refine AW.region ?_
 refine AO.val rfl rfl (ar_ok rfl rfl rfl rfl (inI_succ hlt10 hb9)) ?_
 refine AO.pu T ?_
 refine AO.nil ?_
 refine ⟨(k5 + 1, x30), ⟨Nat.succ_le_of_lt hlt10, (by rw [drop_succ_of hd8]; exact hH)⟩, (by have := hlt10; dsimp only; omega), ?_⟩
 exact Le.ct 3 2

def spec_DrawLargestPanel_p (fuel : Nat) (code : List Int) : Option ((List Official) × (List Int) × Int × Int) :=
  (spec_l1Cur_officials_p fuel (L1Cur.mk code 0 0)).bind fun x1 =>
  (spec_l1Cur_conflicts_p fuel (L1Cur.mk x1.1.code x1.1.at' x1.1.seed)).bind fun x3 =>
  (spec_l1Cur_grade_p (L1Cur.mk x3.1.code x3.1.at' x3.1.seed)).bind fun x5 =>
  (spec_l1Cur_atMost_p (L1Cur.mk x5.1.code x5.1.at' x5.1.seed)).bind fun x7 =>
  some (x1.2, x3.2, x5.2, x7.2)
theorem spec_DrawLargestPanel_ok (fuel : Nat) (code : List Int) (r : ((List Official) × (List Int) × Int × Int)) (hH : spec_DrawLargestPanel_p fuel code = some r) : SpecR Tryz.prog 21 [.s (List.map encInt_u8 code)] (.t [.w 3 (r.1.map encOfficial), .w 1 (r.2.1.map encInt), .v (.int .i64 r.2.2.1), .v (.int .i64 r.2.2.2)]) := by
 refine fn_ok T Tryz.func21 rfl (by decide) rfl ?_
 refine AW.seq (AW.region ?_)
 iterate 4 refine AO.pu T ?_
 refine AO.nil (AW.seq ?_)
 refine AW.region ?_
 refine AO.pu T ?_
 refine AO.pu T (d := .g [.s (List.map encInt_u8 code), (0 : Int), .v (.int .u64 0)]) ?_
 refine AO.step rfl (box_ok T rfl 1 rfl rfl rfl rfl) ?_
 refine AO.pu T ?_
 refine AO.nil (AW.seq ?_)
 obtain ⟨x1, hx2, hH⟩ := bindE hH
 obtain ⟨x3, hx4, hH⟩ := bindE hH
 obtain ⟨x5, hx6, hH⟩ := bindE hH
 obtain ⟨x7, hx8, hH⟩ := bindE hH
 refine AW.region ?_
 refine AO.pu T ?_
 refine AO.step rfl (callM_ok rfl 2 rfl rfl (es := [.pw (encL1Cur (L1Cur.mk code 0 0))]) (outs := [.pw (encL1Cur x1.1)]) (ids := [1]) (by exact expLG_cons (.c (.box rfl rfl)) (expLG_nil)) (by decide) (.inl (by rfl)) (by rfl) (spec_l1Cur_officials_ok fuel _ _ (hx2)) rfl (by rfl) rfl) ?_
 refine AO.pu T ?_
 refine AO.step rfl (callM_ok rfl 3 rfl rfl (es := [.pw (encL1Cur (L1Cur.mk x1.1.code x1.1.at' x1.1.seed))]) (outs := [.pw (encL1Cur x3.1)]) (ids := [1]) (by exact expLG_cons (.c (.box rfl rfl)) (expLG_nil)) (by decide) (.inl (by rfl)) (by rfl) (spec_l1Cur_conflicts_ok fuel _ _ (hx4)) rfl (by rfl) rfl) ?_
 refine AO.pu T ?_
 refine AO.step rfl (callM_ok rfl 4 rfl rfl (es := [.pw (encL1Cur (L1Cur.mk x3.1.code x3.1.at' x3.1.seed))]) (outs := [.pw (encL1Cur x5.1)]) (ids := [1]) (by exact expLG_cons (.c (.box rfl rfl)) (expLG_nil)) (by decide) (.inl (by rfl)) (by rfl) (spec_l1Cur_grade_ok _ _ (hx6)) rfl (by rfl) rfl) ?_
 refine AO.pu T ?_
 refine AO.step rfl (callM_ok rfl 4 rfl rfl (es := [.pw (encL1Cur (L1Cur.mk x5.1.code x5.1.at' x5.1.seed))]) (outs := [.pw (encL1Cur x7.1)]) (ids := [1]) (by exact expLG_cons (.c (.box rfl rfl)) (expLG_nil)) (by decide) (.inl (by rfl)) (by rfl) (spec_l1Cur_atMost_ok _ _ (hx8)) rfl (by rfl) rfl) ?_
 iterate 4 refine AO.pu T ?_
 refine AO.nil (AW.ret ?_)
 have hR := someE hH; subst hR
 exact retQ.i [2, 3] rfl (.t (expLG_cons (.c (.rowR rfl)) (expLG_cons (.c (.rowR rfl)) (expLG_cons (.c .v) (expLG_cons (.c .v) (expLG_nil))))))

def impl_LargestPanel_l1 (most : Int) : List Int → Nat → Int → Option ((Int × Bool))
  | [], k7, v14 =>
    some (v14, true)
  | y8 :: ys9, k7, v14 =>
    impl_LargestPanel_l1 most ys9 (k7 + 1) (w64 (v14 + (min y8 most)))
def impl_LargestPanel_p (l : List Official) (clubs : List Int) (level : Int) (most : Int) : Option (Int × Bool) :=
  (impl_canPanel_p l clubs level most).bind fun x1 =>
  cond (!x1)
    (some (0, false))
    ((impl_eligible_p l clubs level).bind fun x3 =>
    (impl_clubSizes_p l x3).bind fun x5 =>
    impl_LargestPanel_l1 most x5 0 0)
theorem impl_LargestPanel_ok (l : List Official) (clubs : List Int) (level : Int) (most : Int) (r : (Int × Bool)) (hH : impl_LargestPanel_p l clubs level most = some r) : SpecR Tryz.prog 22 [.s (List.map encOfficial l), .s (List.map encInt clubs), level, most] (.t [.v (.int .i64 r.1), .v (.bool r.2)]) := by
 refine fn_ok T Tryz.func22 rfl (by decide) rfl ?_
 refine AW.seq (AW.region ?_)
 iterate 2 refine AO.pu T ?_
 refine AO.nil ?_
 iterate 2 refine AW.seq ?_
 obtain ⟨x1, hx2, hH⟩ := bindE hH
 refine AW.region ?_
 iterate 4 refine AO.pu T ?_
 refine AO.val rfl rfl (callV_ok rfl rfl rfl rfl (impl_canPanel_ok _ _ _ _ _ (hx2)) rfl) ?_
 refine AO.pu T ?_
 refine AO.nil ?_
 refine AW.cond (b := (!x1)) rfl (fun hc => ?_) (fun hc => ?_)
 replace hH := condT hc hH
 refine AW.seq (AW.region ?_)
 iterate 2 refine AO.pu T ?_
 refine AO.nil (AW.ret ?_)
 have hR := someE hH; subst hR
 exact retQ.i [] rfl (.t (expLG_cons (.c .v) (expLG_cons (.c .v) (expLG_nil))))
 replace hH := condF hc hH
 refine AW.skip ?_
 refine AW.seq (AW.region ?_)
 refine AO.pu T ?_
 refine AO.nil ?_
 iterate 2 refine AW.seq ?_
 obtain ⟨x3, hx4, hH⟩ := bindE hH
 obtain ⟨x5, hx6, hH⟩ := bindE hH
 refine AW.region ?_
 iterate 4 refine AO.pu T ?_
 refine AO.step rfl (call_ok rfl 1 rfl rfl rfl (impl_eligible_ok _ _ _ _ (hx4)) rfl rfl rfl) ?_
 refine AO.step rfl (callL_ok rfl 2 rfl rfl (es := [.s (List.map encOfficial l), .s (List.map encInt x3)]) (by exact ⟨.free rfl, (.rowR rfl (.map fun y => .vs rfl)), trivial⟩) (impl_clubSizes_ok _ _ _ (hx6)) (zfree_map (fun y => (.cons (zfree_v _) .nil))) rfl rfl rfl) ?_
 refine AO.val rfl rfl (len_row_ok T rfl rfl rfl rfl) ?_
 refine AO.pu T ?_
 refine AO.nil ?_
 refine AW.block ?_
 refine AW.loopS (fun s : Nat × Int => (⟨[(3, most), (10, s.2), (24, .R 2), (25, (x5.length : Int)), (26, (s.1 : Int))], [(2, .row 1 (List.map encInt x5))], 37, []⟩ : St)) (fun s => s.1 ≤ x5.length ∧ impl_LargestPanel_l1 most (x5.drop s.1) s.1 s.2 = some r) (fun s => x5.length - s.1) (0, 0) ⟨Nat.zero_le _, hH⟩ ?_ ?_
 exact Le.ct 0 0
 rintro ⟨k7, v14⟩ ⟨hk, hH⟩
 replace hH : impl_LargestPanel_l1 most (x5.drop k7) k7 v14 = some r := hH
 try dsimp only
 refine AW.boundR (id := 2) (l := x5) rfl (fun hb11 => ?_)
 rcases hd10 : x5.drop k7 with _ | ⟨y8, ys9⟩
 rw [hd10, impl_LargestPanel_l1] at hH
 have hlt12 := drop_ge hd10
 refine AW.seq (AW.region ?_)
 refine AO.pu T ?_
 refine AO.nil (AW.seq ?_)
 refine AW.condF' (b := decide ((k7 : Int) < (x5.length : Int))) rfl (rngF hlt12) ?_
 refine AW.exit ?_
 refine AW.seq (AW.region ?_)
 iterate 3 refine AO.pu T ?_
 refine AO.nil (AW.ret ?_)
 have hR := someE hH; subst hR
 exact retQ.i [] rfl (.t (expLG_cons (.c .v) (expLG_cons (.c .v) (expLG_nil))))
 rw [hd10, impl_LargestPanel_l1] at hH
 have hlt12 := drop_lt hd10
 refine AW.seq (AW.region ?_)
 refine AO.pu T ?_
 refine AO.nil (AW.seq ?_)
 refine AW.condT' (b := decide ((k7 : Int) < (x5.length : Int))) rfl (rngT hlt12) ?_
 refine AW.skip ?_
 refine AW.seq ?_
 refine AW.block ?_
 refine AW.seq (AW.region ?_)
 refine AO.val rfl rfl (ix_row_ok T rfl rfl rfl rfl rfl rfl (getI_drop hd10)) ?_
 refine AO.val rfl rfl (load_row_ok T rfl rfl rfl rfl (getI_get (getI_drop hd10)) rfl rfl rfl) ?_
 refine AO.pu T ?_
 refine AO.nil ?_
 refine AW.region ?_
 iterate 3 refine AO.pu T ?_
 refine AO.val rfl rfl (min_ok rfl rfl rfl) ?_
 refine AO.val rfl rfl (arw_ok rfl rfl rfl rfl) ?_
 refine AO.pu T ?_
 refine AO.nil ?_
 refine AW.region ?_
 refine AO.val rfl rfl (ar_ok rfl rfl rfl rfl (inI_succ hlt12 hb11)) ?_
 refine AO.pu T ?_
 refine AO.nil ?_
 refine ⟨(k7 + 1, w64 (v14 + (min y8 most))), ⟨Nat.succ_le_of_lt hlt12, (by rw [drop_succ_of hd10]; exact hH)⟩, (by have := hlt12; dsimp only; omega), ?_⟩
 exact Le.ct 0 0

def spec_l1Least_p (a : Int) (b : Int) : Option Int :=
  cond (decide (a < b))
    (some a)
    (some b)
theorem spec_l1Least_ok (a : Int) (b : Int) (r : Int) (hH : spec_l1Least_p a b = some r) : SpecR Tryz.prog 64 [a, b] (.v (.int .i64 r)) := by
 refine fn_ok T Tryz.func64 rfl (by decide) rfl ?_
 refine AW.seq (AW.region ?_)
 refine AO.pu T ?_
 refine AO.nil ?_
 iterate 2 refine AW.seq ?_
 refine AW.region ?_
 iterate 3 refine AO.pu T ?_
 refine AO.nil ?_
 refine AW.cond (b := decide (a < b)) rfl (fun hc => ?_) (fun hc => ?_)
 replace hH := condT hc hH
 refine AW.seq (AW.region ?_)
 iterate 2 refine AO.pu T ?_
 refine AO.nil (AW.ret ?_)
 have hR := someE hH; subst hR
 exact retQ.i [] rfl (.c (.c .v))
 replace hH := condF hc hH
 refine AW.skip ?_
 refine AW.seq (AW.region ?_)
 iterate 2 refine AO.pu T ?_
 refine AO.nil (AW.ret ?_)
 have hR := someE hH; subst hR
 exact retQ.i [] rfl (.c (.c .v))

def spec_LargestPanel_l2 (most : Int) : List Int → Nat → Int → Option ((Int × Bool))
  | [], k30, v41 =>
    some (v41, true)
  | y31 :: ys32, k30, v41 =>
    (spec_l1Least_p y31 most).bind fun x43 =>
    spec_LargestPanel_l2 most ys32 (k30 + 1) (w64 (v41 + x43))
def spec_LargestPanel_l1 (l : List Official) (most : Int) : List Int → Nat → List Int → Option ((Int × Bool))
  | [], k9, v28 =>
    spec_LargestPanel_l2 most v28 0 0
  | y10 :: ys11, k9, v28 =>
    (spec_paFind_p l y10).bind fun x45 =>
    (getI l x45).bind fun x47 =>
    (getI v28 x47.club).bind fun x49 =>
    spec_LargestPanel_l1 l most ys11 (k9 + 1) (v28.set x47.club.toNat (w64 (x49 + 1)))
def spec_LargestPanel_p (fuel : Nat) (l : List Official) (clubs : List Int) (level : Int) (most : Int) : Option (Int × Bool) :=
  (spec_paAsked_p l clubs level).bind fun x1 =>
  (opt (!(!x1)) default (spec_paMost_p most)).bind fun x3 =>
  cond ((!x1) || (!x3))
    (some (0, false))
    ((need (decide (0 ≤ 21) && fitsB 8 (21 : Int).toNat)).bind fun u5 =>
    (spec_paEligible_p fuel l clubs level).bind fun x7 =>
    spec_LargestPanel_l1 l most x7 0 (List.replicate (21 : Int).toNat (0 : Int)))
theorem spec_LargestPanel_ok (fuel : Nat) (l : List Official) (clubs : List Int) (level : Int) (most : Int) (r : (Int × Bool)) (hH : spec_LargestPanel_p fuel l clubs level most = some r) : SpecR Tryz.prog 23 [.s (List.map encOfficial l), .s (List.map encInt clubs), level, most] (.t [.v (.int .i64 r.1), .v (.bool r.2)]) := by
 refine fn_ok T Tryz.func23 rfl (by decide) rfl ?_
 refine AW.seq (AW.region ?_)
 iterate 2 refine AO.pu T ?_
 refine AO.nil ?_
 iterate 2 refine AW.seq ?_
 obtain ⟨x1, hx2, hH⟩ := bindE hH
 obtain ⟨x3, hx4, hH⟩ := bindE hH
 refine AW.region ?_
 iterate 3 refine AO.pu T ?_
 refine AO.val rfl rfl (callV_ok rfl rfl rfl rfl (spec_paAsked_ok _ _ _ _ (hx2)) rfl) ?_
 iterate 2 refine AO.pu T ?_
 refine AO.pureG T [] rfl trivial rfl rfl ?_
 refine AO.guard [22] rfl ⟨fun h => h, trivial⟩ (fun hg => callV_ok rfl rfl rfl rfl (spec_paMost_ok _ _ (optT hx4 hg)) rfl) rfl ?_
 refine AO.pureG T [23] rfl ⟨fun h => h, trivial⟩ rfl rfl ?_
 refine AO.val rfl rfl (pick_or rfl rfl rfl rfl) ?_
 refine AO.nil ?_
 refine AW.cond (b := ((!x1) || (!x3))) rfl (fun hc => ?_) (fun hc => ?_)
 replace hH := condT hc hH
 refine AW.seq (AW.region ?_)
 iterate 2 refine AO.pu T ?_
 refine AO.nil (AW.ret ?_)
 have hR := someE hH; subst hR
 exact retQ.i [] rfl (.t (expLG_cons (.c .v) (expLG_cons (.c .v) (expLG_nil))))
 replace hH := condF hc hH
 refine AW.skip ?_
 refine AW.seq ?_
 obtain ⟨u5, hx6, hH⟩ := bindE hH
 refine AW.region ?_
 refine AO.step rfl (make_map_ok T rfl 1 rfl rfl rfl rfl rfl (f := encInt) (zo := 0) (by repeat constructor) (by decide) rfl rfl (Bool.and_eq_true_iff.1 (needT (hx6))).1 (Bool.and_eq_true_iff.1 (needT (hx6))).2 rfl rfl) ?_
 refine AO.pu T ?_
 refine AO.nil ?_
 iterate 2 refine AW.seq ?_
 obtain ⟨x7, hx8, hH⟩ := bindE hH
 refine AW.region ?_
 iterate 3 refine AO.pu T ?_
 refine AO.step rfl (call_ok rfl 2 rfl rfl rfl (spec_paEligible_ok fuel _ _ _ _ (hx8)) rfl rfl rfl) ?_
 refine AO.val rfl rfl (len_row_ok T rfl rfl rfl rfl) ?_
 refine AO.pu T ?_
 refine AO.nil ?_
 refine AW.block ?_
 refine AW.loopS (fun s : Nat × (List Int) => (⟨[(0, .s (List.map encOfficial l)), (3, most), (10, .R 1), (30, .R 2), (31, (x7.length : Int)), (32, (s.1 : Int))], [(1, .row 1 (List.map encInt s.2)), (2, .row 1 (List.map encInt x7))], 62, []⟩ : St)) (fun s => s.1 ≤ x7.length ∧ spec_LargestPanel_l1 l most (x7.drop s.1) s.1 s.2 = some r) (fun s => x7.length - s.1) (0, (List.replicate (21 : Int).toNat (0 : Int))) ⟨Nat.zero_le _, hH⟩ ?_ ?_
 exact Le.ct 0 0
 rintro ⟨k9, v28⟩ ⟨hk, hH⟩
 replace hH : spec_LargestPanel_l1 l most (x7.drop k9) k9 v28 = some r := hH
 try dsimp only
 refine AW.boundR (id := 2) (l := x7) rfl (fun hb13 => ?_)
 rcases hd12 : x7.drop k9 with _ | ⟨y10, ys11⟩
 rw [hd12, spec_LargestPanel_l1] at hH
 have hlt14 := drop_ge hd12
 refine AW.seq (AW.region ?_)
 refine AO.pu T ?_
 refine AO.nil (AW.seq ?_)
 refine AW.condF' (b := decide ((k9 : Int) < (x7.length : Int))) rfl (rngF hlt14) ?_
 refine AW.exit ?_
 refine AW.seq (AW.region ?_)
 refine AO.pu T ?_
 refine AO.nil ?_
 iterate 2 refine AW.seq ?_
 refine AW.region ?_
 refine AO.pu T ?_
 refine AO.val rfl rfl (len_row_ok T rfl rfl rfl rfl) ?_
 refine AO.pu T ?_
 refine AO.nil ?_
 refine AW.block ?_
 refine AW.loopS (fun s : Nat × Int => (⟨[(3, most), (13, s.2), (49, .R 1), (50, (v28.length : Int)), (51, (s.1 : Int))], [(1, .row 1 (List.map encInt v28))], 62, []⟩ : St)) (fun s => s.1 ≤ v28.length ∧ spec_LargestPanel_l2 most (v28.drop s.1) s.1 s.2 = some r) (fun s => v28.length - s.1) (0, 0) ⟨Nat.zero_le _, hH⟩ ?_ ?_
 exact Le.ct 0 0
 rintro ⟨k30, v41⟩ ⟨hk, hH⟩
 replace hH : spec_LargestPanel_l2 most (v28.drop k30) k30 v41 = some r := hH
 try dsimp only
 refine AW.boundR (id := 1) (l := v28) rfl (fun hb34 => ?_)
 rcases hd33 : v28.drop k30 with _ | ⟨y31, ys32⟩
 rw [hd33, spec_LargestPanel_l2] at hH
 have hlt35 := drop_ge hd33
 refine AW.seq (AW.region ?_)
 refine AO.pu T ?_
 refine AO.nil (AW.seq ?_)
 refine AW.condF' (b := decide ((k30 : Int) < (v28.length : Int))) rfl (rngF hlt35) ?_
 refine AW.exit ?_
 refine AW.seq (AW.region ?_)
 iterate 3 refine AO.pu T ?_
 refine AO.nil (AW.ret ?_)
 have hR := someE hH; subst hR
 exact retQ.i [] rfl (.t (expLG_cons (.c .v) (expLG_cons (.c .v) (expLG_nil))))
 rw [hd33, spec_LargestPanel_l2] at hH
 have hlt35 := drop_lt hd33
 refine AW.seq (AW.region ?_)
 refine AO.pu T ?_
 refine AO.nil (AW.seq ?_)
 refine AW.condT' (b := decide ((k30 : Int) < (v28.length : Int))) rfl (rngT hlt35) ?_
 refine AW.skip ?_
 refine AW.seq ?_
 refine AW.block ?_
 refine AW.seq (AW.region ?_)
 refine AO.val rfl rfl (ix_row_ok T rfl rfl rfl rfl rfl rfl (getI_drop hd33)) ?_
 refine AO.val rfl rfl (load_row_ok T rfl rfl rfl rfl (getI_get (getI_drop hd33)) rfl rfl rfl) ?_
 refine AO.pu T ?_
 refine AO.nil ?_
 obtain ⟨x43, hx44, hH⟩ := bindE hH
 refine AW.region ?_
 iterate 3 refine AO.pu T ?_
 refine AO.val rfl rfl (callV_ok rfl rfl rfl rfl (spec_l1Least_ok _ _ _ (hx44)) rfl) ?_
 refine AO.val rfl rfl (arw_ok rfl rfl rfl rfl) ?_
 refine AO.pu T ?_
 refine AO.nil ?_
 refine AW.region ?_
 refine AO.val rfl rfl (ar_ok rfl rfl rfl rfl (inI_succ hlt35 hb34)) ?_
 refine AO.pu T ?_
 refine AO.nil ?_
 refine ⟨(k30 + 1, w64 (v41 + x43)), ⟨Nat.succ_le_of_lt hlt35, (by rw [drop_succ_of hd33]; exact hH)⟩, (by have := hlt35; dsimp only; omega), ?_⟩
 exact Le.ct 0 0
 rw [hd12, spec_LargestPanel_l1] at hH
 have hlt14 := drop_lt hd12
 refine AW.seq (AW.region ?_)
 refine AO.pu T ?_
 refine AO.nil (AW.seq ?_)
 refine AW.condT' (b := decide ((k9 : Int) < (x7.length : Int))) rfl (rngT hlt14) ?_
 refine AW.skip ?_
 refine AW.seq ?_
 refine AW.block ?_
 refine AW.seq (AW.region ?_)
 refine AO.val rfl rfl (ix_row_ok T rfl rfl rfl rfl rfl rfl (getI_drop hd12)) ?_
 refine AO.val rfl rfl (load_row_ok T rfl rfl rfl rfl (getI_get (getI_drop hd12)) rfl rfl rfl) ?_
 refine AO.pu T ?_
 refine AO.nil ?_
 obtain ⟨x45, hx46, hH⟩ := bindE hH
 obtain ⟨x47, hx48, hH⟩ := bindE hH
 obtain ⟨x49, hx50, hH⟩ := bindE hH
 refine AW.region ?_
 iterate 4 refine AO.pu T ?_
 refine AO.val rfl rfl (callV_ok rfl rfl rfl rfl (spec_paFind_ok _ _ _ (hx46)) rfl) ?_
 refine AO.val rfl rfl (ix_map_ok T rfl rfl rfl rfl rfl (hx48) rfl) ?_
 iterate 2 refine AO.pu T ?_
 refine AO.val rfl rfl (ix_row_ok T rfl rfl rfl rfl rfl rfl (hx50)) ?_
 refine AO.val rfl rfl (load_row_ok T rfl rfl rfl rfl (getI_get (hx50)) rfl rfl rfl) ?_
 refine AO.val rfl rfl (arw_ok rfl rfl rfl rfl) ?_
 refine AO.val rfl rfl (ix_row_ok T rfl rfl rfl rfl rfl rfl (hx50)) ?_
 refine AO.step rfl (store_row_ok T rfl rfl rfl rfl rfl (getI_get (hx50)) rfl rfl rfl rfl (u' := w64 (x49 + 1)) rfl rfl) ?_
 refine AO.nil ?_
 refine AW.region ?_
 refine AO.val rfl rfl (ar_ok rfl rfl rfl rfl (inI_succ hlt14 hb13)) ?_
 refine AO.pu T ?_
 refine AO.nil ?_
 refine ⟨(k9 + 1, (v28.set x47.club.toNat (w64 (x49 + 1)))), ⟨Nat.succ_le_of_lt hlt14, (by rw [drop_succ_of hd12]; exact hH)⟩, (by have := hlt14; dsimp only; omega), ?_⟩
 exact Le.ct 0 0

def laws_FnReplaced_l3 : List Int → Nat → List Int → Option (Except Bool (List Int))
  | [], k174, v189 =>
    some (.ok v189)
  | y175 :: ys176, k174, v189 =>
    (laws_pIn_p v189 y175).bind fun x191 =>
    cond x191
      (some (.error false))
      ((need (fitsB 8 (v189.length + ([y175]).length))).bind fun u193 =>
      laws_FnReplaced_l3 ys176 (k174 + 1) (v189 ++ [y175]))
def laws_FnReplaced_l2 (more : List Int) (fuel : Nat) (x28 : ((List Int) × (List Official) × Int × Int)) : List (List Int) → Nat → List Int → Option Bool
  | [], k36, v129 =>
    (spec_DrawCountPanels_p fuel more).bind fun x131 =>
    (impl_CountPanels_p fuel x131.1 x131.2.1 x131.2.2.1 x131.2.2.2.1 x131.2.2.2.2).bind fun x133 =>
    (spec_CountPanels_p fuel x131.1 x131.2.1 x131.2.2.1 x131.2.2.2.1 x131.2.2.2.2).bind fun x135 =>
    (spec_DrawClubsOfPanel_p fuel more).bind fun x137 =>
    (impl_ClubsOfPanel_p fuel x137.1 x137.2).bind fun x139 =>
    (spec_ClubsOfPanel_p fuel x137.1 x137.2).bind fun x141 =>
    (spec_DrawLargestPanel_p fuel more).bind fun x143 =>
    (impl_LargestPanel_p x143.1 x143.2.1 x143.2.2.1 x143.2.2.2).bind fun x145 =>
    (spec_LargestPanel_p fuel x143.1 x143.2.1 x143.2.2.1 x143.2.2.2).bind fun x147 =>
    (opt (((x133.2 == x135.2) && (x133.1 == x135.1)) && (x139.2 == x141.2)) default (laws_sameInts_p x139.1 x141.1)).bind fun x149 =>
    some ((((((x133.2 == x135.2) && (x133.1 == x135.1)) && (x139.2 == x141.2)) && x149) && (x145.2 == x147.2)) && (x145.1 == x147.1))
  | y37 :: ys38, k36, v129 =>
    (cond ((y37.length : Int) != x28.2.2.1)
      (some (.error false))
      (laws_FnReplaced_l3 y37 0 v129)).bind fun o172 => flow o172 fun v171 =>
    laws_FnReplaced_l2 more fuel x28 ys38 (k36 + 1) v171
def laws_FnReplaced_l1 (more : List Int) (fuel : Nat) (x3 : ((List Int) × (List Official) × (List Int) × Int × Int × (List Int) × Int)) : List Int → Nat → Int → Option Bool
  | [], k15, v26 =>
    cond (v26 != (w64 ((x3.2.2.2.2.2.1.length : Int) - 1)))
      (some false)
      ((spec_DrawSpreadPanels_p fuel more).bind fun x28 =>
      (impl_SpreadPanels_p fuel x28.1 x28.2.1 x28.2.2.1 x28.2.2.2).bind fun x30 =>
      (spec_SpreadPanels_p fuel x28.1 x28.2.1 x28.2.2.1 x28.2.2.2).bind fun x32 =>
      (opt (!(!(x30.2 == x32.2))) default (laws_sameLists_p x30.1 x32.1)).bind fun x34 =>
      cond ((!(x30.2 == x32.2)) || (!x34))
        (some false)
        (laws_FnReplaced_l2 more fuel x28 x32.1 0 []))
  | y16 :: ys17, k15, v26 =>
    (laws_pIn_p x3.2.2.2.2.2.1 y16).bind fun x195 =>
    cond x195
      (laws_FnReplaced_l1 more fuel x3 ys17 (k15 + 1) (w64 (v26 + 1)))
      (laws_FnReplaced_l1 more fuel x3 ys17 (k15 + 1) v26)
def laws_FnReplaced_l5 : List Int → Nat → List Int → Option (Except Bool (List Int))
  | [], k343, v358 =>
    some (.ok v358)
  | y344 :: ys345, k343, v358 =>
    (laws_pIn_p v358 y344).bind fun x360 =>
    cond x360
      (some (.error false))
      ((need (fitsB 8 (v358.length + ([y344]).length))).bind fun u362 =>
      laws_FnReplaced_l5 ys345 (k343 + 1) (v358 ++ [y344]))
def laws_FnReplaced_l4 (more : List Int) (fuel : Nat) (x197 : ((List Int) × (List Official) × Int × Int)) : List (List Int) → Nat → List Int → Option Bool
  | [], k205, v298 =>
    (spec_DrawCountPanels_p fuel more).bind fun x300 =>
    (impl_CountPanels_p fuel x300.1 x300.2.1 x300.2.2.1 x300.2.2.2.1 x300.2.2.2.2).bind fun x302 =>
    (spec_CountPanels_p fuel x300.1 x300.2.1 x300.2.2.1 x300.2.2.2.1 x300.2.2.2.2).bind fun x304 =>
    (spec_DrawClubsOfPanel_p fuel more).bind fun x306 =>
    (impl_ClubsOfPanel_p fuel x306.1 x306.2).bind fun x308 =>
    (spec_ClubsOfPanel_p fuel x306.1 x306.2).bind fun x310 =>
    (spec_DrawLargestPanel_p fuel more).bind fun x312 =>
    (impl_LargestPanel_p x312.1 x312.2.1 x312.2.2.1 x312.2.2.2).bind fun x314 =>
    (spec_LargestPanel_p fuel x312.1 x312.2.1 x312.2.2.1 x312.2.2.2).bind fun x316 =>
    (opt (((x302.2 == x304.2) && (x302.1 == x304.1)) && (x308.2 == x310.2)) default (laws_sameInts_p x308.1 x310.1)).bind fun x318 =>
    some ((((((x302.2 == x304.2) && (x302.1 == x304.1)) && (x308.2 == x310.2)) && x318) && (x314.2 == x316.2)) && (x314.1 == x316.1))
  | y206 :: ys207, k205, v298 =>
    (cond ((y206.length : Int) != x197.2.2.1)
      (some (.error false))
      (laws_FnReplaced_l5 y206 0 v298)).bind fun o341 => flow o341 fun v340 =>
    laws_FnReplaced_l4 more fuel x197 ys207 (k205 + 1) v340
def laws_FnReplaced_p (fuel : Nat) (code : List Int) (more : List Int) : Option Bool :=
  (laws_big_p code more).bind fun x1 =>
  cond x1
    (some true)
    ((spec_DrawReplaceJudge_p fuel code).bind fun x3 =>
    (impl_ReplaceJudge_p fuel x3.1 x3.2.1 x3.2.2.1 x3.2.2.2.1 x3.2.2.2.2.1 x3.2.2.2.2.2.1 x3.2.2.2.2.2.2).bind fun x5 =>
    (spec_ReplaceJudge_p fuel x3.1 x3.2.1 x3.2.2.1 x3.2.2.2.1 x3.2.2.2.2.1 x3.2.2.2.2.2.1 x3.2.2.2.2.2.2).bind fun x7 =>
    (opt (!(!(x5.2 == x7.2))) default (laws_sameInts_p x5.1 x7.1)).bind fun x9 =>
    cond ((!(x5.2 == x7.2)) || (!x9))
      (some false)
      (cond x5.2
        ((impl_IsPanel_p fuel x3.2.1 x3.2.2.1 x3.2.2.2.1 x3.2.2.2.2.1 x5.1).bind fun x11 =>
        (opt (!(((!x11.2) || (!x11.1)) || ((x7.1.length : Int) != (x3.2.2.2.2.2.1.length : Int)))) default (laws_pIn_p x7.1 x3.2.2.2.2.2.2)).bind fun x13 =>
        cond ((((!x11.2) || (!x11.1)) || ((x7.1.length : Int) != (x3.2.2.2.2.2.1.length : Int))) || x13)
          (some false)
          (laws_FnReplaced_l1 more fuel x3 x7.1 0 0))
        ((spec_DrawSpreadPanels_p fuel more).bind fun x197 =>
        (impl_SpreadPanels_p fuel x197.1 x197.2.1 x197.2.2.1 x197.2.2.2).bind fun x199 =>
        (spec_SpreadPanels_p fuel x197.1 x197.2.1 x197.2.2.1 x197.2.2.2).bind fun x201 =>
        (opt (!(!(x199.2 == x201.2))) default (laws_sameLists_p x199.1 x201.1)).bind fun x203 =>
        cond ((!(x199.2 == x201.2)) || (!x203))
          (some false)
          (laws_FnReplaced_l4 more fuel x197 x201.1 0 []))))
theorem laws_FnReplaced_ok (fuel : Nat) (code : List Int) (more : List Int) (r : Bool) (hH : laws_FnReplaced_p fuel code more = some r) : SpecR Tryz.prog 3 [.s (List.map encInt_u8 code), .s (List.map encInt_u8 more)] (.v (.bool r)) := by
 refine fn_ok T Tryz.func3 rfl (by decide) rfl ?_
 refine AW.seq (AW.region ?_)
 refine AO.pu T ?_
 refine AO.nil ?_
 iterate 2 refine AW.seq ?_
 obtain ⟨x1, hx2, hH⟩ := bindE hH
 refine AW.region ?_
 iterate 2 refine AO.pu T ?_
 refine AO.val rfl rfl (callV_ok rfl rfl rfl rfl (laws_big_ok _ _ _ (hx2)) rfl) ?_
 refine AO.nil ?_
 refine AW.cond (b := x1) rfl (fun hc => ?_) (fun hc => ?_)
 replace hH := condT hc hH
 refine AW.seq (AW.region ?_)
 refine AO.pu T ?_
 refine AO.nil (AW.ret ?_)
 have hR := someE hH; subst hR
 exact retQ.i [] rfl (.c (.c .v))
 replace hH := condF hc hH
 refine AW.skip ?_
 refine AW.seq ?_
 obtain ⟨x3, hx4, hH⟩ := bindE hH
 refine AW.region ?_
 refine AO.pu T ?_
 refine AO.step rfl (call_ok rfl 1 rfl rfl rfl (spec_DrawReplaceJudge_ok fuel _ _ (hx4)) rfl rfl rfl) ?_
 iterate 15 refine AO.pu T ?_
 refine AO.nil (AW.seq ?_)
 obtain ⟨x5, hx6, hH⟩ := bindE hH
 refine AW.region ?_
 iterate 7 refine AO.pu T ?_
 refine AO.step rfl (callL_ok rfl 4 rfl rfl (es := [.s (List.map encInt x3.1), .s (List.map encOfficial x3.2.1), .s (List.map encInt x3.2.2.1), x3.2.2.2.1, x3.2.2.2.2.1, .s (List.map encInt x3.2.2.2.2.2.1), x3.2.2.2.2.2.2]) (by exact ⟨(.rowR rfl (.map fun y => .vs rfl)), (.rowR rfl (.map fun y => .vs rfl)), (.rowR rfl (.map fun y => .vs rfl)), .free rfl, .free rfl, .free rfl, .free rfl, trivial⟩) (impl_ReplaceJudge_ok fuel _ _ _ _ _ _ _ _ (hx6)) (zfree_t (zfl (.cons (zfree_map (fun y => (.cons (zfree_v _) .nil))) (.cons (zfree_v _) .nil)))) rfl rfl rfl) ?_
 iterate 5 refine AO.pu T ?_
 refine AO.nil ?_
 refine AW.le (Le.ct 0 0 (σ' := (⟨[(1, .s (List.map encInt_u8 more)), (5, .R 1), (6, .R 2), (7, .R 3), (8, x3.2.2.2.1), (9, x3.2.2.2.2.1), (10, .s (List.map encInt x3.2.2.2.2.2.1)), (11, x3.2.2.2.2.2.2), (12, .R 4), (13, .v (.bool x5.2))], [(1, .row 1 (List.map encInt x3.1)), (2, .row 3 (List.map encOfficial x3.2.1)), (3, .row 1 (List.map encInt x3.2.2.1)), (4, .row 1 (List.map encInt x5.1))], 297, []⟩ : St))) ?_
 refine AW.seq ?_
 obtain ⟨x7, hx8, hH⟩ := bindE hH
 refine AW.region ?_
 iterate 7 refine AO.pu T ?_
 refine AO.step rfl (callL_ok rfl 5 rfl rfl (es := [.s (List.map encInt x3.1), .s (List.map encOfficial x3.2.1), .s (List.map encInt x3.2.2.1), x3.2.2.2.1, x3.2.2.2.2.1, .s (List.map encInt x3.2.2.2.2.2.1), x3.2.2.2.2.2.2]) (by exact ⟨(.rowR rfl (.map fun y => .vs rfl)), (.rowR rfl (.map fun y => .vs rfl)), (.rowR rfl (.map fun y => .vs rfl)), .free rfl, .free rfl, .free rfl, .free rfl, trivial⟩) (spec_ReplaceJudge_ok fuel _ _ _ _ _ _ _ _ (hx8)) (zfree_t (zfl (.cons (zfree_map (fun y => (.cons (zfree_v _) .nil))) (.cons (zfree_v _) .nil)))) rfl rfl rfl) ?_
 iterate 5 refine AO.pu T ?_
 refine AO.nil ?_
 iterate 2 refine AW.seq ?_
 obtain ⟨x9, hx10, hH⟩ := bindE hH
 refine AW.region ?_
 iterate 4 refine AO.pu T ?_
 iterate 2 refine AO.pureG T [] rfl trivial rfl rfl ?_
 refine AO.guard [96, 97] rfl ⟨fun h => h, fun h => h, trivial⟩ (fun hg => callLV_ok rfl rfl rfl (es := [.s (List.map encInt x5.1), .s (List.map encInt x7.1)]) ⟨(.rowR rfl (.map fun y => .vs rfl)), (.rowR rfl (.map fun y => .vs rfl)), trivial⟩ (laws_sameInts_ok _ _ _ (optT hx10 hg)) (zfree_v _) rfl) rfl ?_
 refine AO.pureG T [98] rfl ⟨fun h => h, trivial⟩ rfl rfl ?_
 refine AO.val rfl rfl (pick_or rfl rfl rfl rfl) ?_
 refine AO.nil ?_
 refine AW.cond (b := ((!(x5.2 == x7.2)) || (!x9))) rfl (fun hc => ?_) (fun hc => ?_)
 replace hH := condT hc hH
 refine AW.seq (AW.region ?_)
 refine AO.pu T ?_
 refine AO.nil (AW.ret ?_)
 have hR := someE hH; subst hR
 exact retQ.i [] rfl (.c (.c .v))
 replace hH := condF hc hH
 refine AW.skip ?_
 iterate 2 refine AW.seq ?_
 refine AW.region ?_
 refine AO.pu T ?_
 refine AO.nil ?_
 refine AW.cond (b := x5.2) rfl (fun hc => ?_) (fun hc => ?_)
 replace hH := condT hc hH
 refine AW.seq ?_
 obtain ⟨x11, hx12, hH⟩ := bindE hH
 refine AW.region ?_
 iterate 5 refine AO.pu T ?_
 refine AO.val rfl rfl (callLV_ok rfl rfl rfl (es := [.s (List.map encOfficial x3.2.1), .s (List.map encInt x3.2.2.1), x3.2.2.2.1, x3.2.2.2.2.1, .s (List.map encInt x5.1)]) ⟨(.rowR rfl (.map fun y => .vs rfl)), (.rowR rfl (.map fun y => .vs rfl)), .free rfl, .free rfl, (.rowR rfl (.map fun y => .vs rfl)), trivial⟩ (impl_IsPanel_ok fuel _ _ _ _ _ _ (hx12)) (zfree_t (zfl (.cons (zfree_v _) (.cons (zfree_v _) .nil)))) rfl) ?_
 iterate 5 refine AO.pu T ?_
 refine AO.nil ?_
 refine AW.le (Le.ct 0 0 (σ' := (⟨[(1, .s (List.map encInt_u8 more)), (10, .s (List.map encInt x3.2.2.2.2.2.1)), (11, x3.2.2.2.2.2.2), (14, .R 5), (16, .v (.bool x11.1)), (17, .v (.bool x11.2))], [(5, .row 1 (List.map encInt x7.1))], 297, []⟩ : St))) ?_
 iterate 2 refine AW.seq ?_
 obtain ⟨x13, hx14, hH⟩ := bindE hH
 refine AW.region ?_
 iterate 3 refine AO.pu T ?_
 refine AO.pureG T [] rfl trivial rfl rfl ?_
 refine AO.pureG T [114] rfl ⟨fun h => h, trivial⟩ rfl rfl ?_
 refine AO.val rfl rfl (pick_or rfl rfl rfl rfl) ?_
 refine AO.pu T ?_
 refine AO.pureG T [] rfl trivial rfl rfl ?_
 refine AO.guard [118] rfl ⟨fun h => h, trivial⟩ (fun hg => len_row_ok T rfl rfl rfl rfl) rfl ?_
 refine AO.pureG T [] rfl trivial rfl rfl ?_
 refine AO.guard [120] rfl ⟨fun h => h, trivial⟩ (fun hg => len_map_ok T rfl rfl rfl) rfl ?_
 refine AO.pureG T [119, 121] rfl ⟨fun h => h, fun h => h, trivial⟩ rfl rfl ?_
 refine AO.val rfl rfl (pick_or rfl rfl rfl rfl) ?_
 refine AO.pu T ?_
 iterate 2 refine AO.pureG T [] rfl trivial rfl rfl ?_
 refine AO.guard [125, 126] rfl ⟨fun h => h, fun h => h, trivial⟩ (fun hg => callLV_ok rfl rfl rfl (es := [.s (List.map encInt x7.1), x3.2.2.2.2.2.2]) ⟨(.rowR rfl (.map fun y => .vs rfl)), .free rfl, trivial⟩ (laws_pIn_ok _ _ _ (optT hx14 hg)) (zfree_v _) rfl) rfl ?_
 refine AO.val rfl rfl (pick_or rfl rfl rfl rfl) ?_
 refine AO.nil ?_
 refine AW.cond (b := ((((!x11.2) || (!x11.1)) || ((x7.1.length : Int) != (x3.2.2.2.2.2.1.length : Int))) || x13)) rfl (fun hc => ?_) (fun hc => ?_)
 replace hH := condT hc hH
 refine AW.seq (AW.region ?_)
 refine AO.pu T ?_
 refine AO.nil (AW.ret ?_)
 have hR := someE hH; subst hR
 exact retQ.i [] rfl (.c (.c .v))
 replace hH := condF hc hH
 refine AW.skip ?_
 refine AW.seq (AW.region ?_)
 refine AO.pu T ?_
 refine AO.nil ?_
 iterate 2 refine AW.seq ?_
 refine AW.region ?_
 refine AO.pu T ?_
 refine AO.val rfl rfl (len_row_ok T rfl rfl rfl rfl) ?_
 refine AO.pu T ?_
 refine AO.nil ?_
 refine AW.block ?_
 refine AW.loopS (fun s : Nat × Int => (⟨[(1, .s (List.map encInt_u8 more)), (10, .s (List.map encInt x3.2.2.2.2.2.1)), (18, s.2), (129, .R 5), (130, (x7.1.length : Int)), (131, (s.1 : Int))], [(5, .row 1 (List.map encInt x7.1))], 297, []⟩ : St)) (fun s => s.1 ≤ x7.1.length ∧ laws_FnReplaced_l1 more fuel x3 (x7.1.drop s.1) s.1 s.2 = some r) (fun s => x7.1.length - s.1) (0, 0) ⟨Nat.zero_le _, hH⟩ ?_ ?_
 exact Le.ct 0 0
 rintro ⟨k15, v26⟩ ⟨hk, hH⟩
 replace hH : laws_FnReplaced_l1 more fuel x3 (x7.1.drop k15) k15 v26 = some r := hH
 try dsimp only
 refine AW.boundR (id := 5) (l := x7.1) rfl (fun hb19 => ?_)
 rcases hd18 : x7.1.drop k15 with _ | ⟨y16, ys17⟩
 rw [hd18, laws_FnReplaced_l1] at hH
 have hlt20 := drop_ge hd18
 refine AW.seq (AW.region ?_)
 refine AO.pu T ?_
 refine AO.nil (AW.seq ?_)
 refine AW.condF' (b := decide ((k15 : Int) < (x7.1.length : Int))) rfl (rngF hlt20) ?_
 refine AW.exit ?_
 refine AW.seq (AW.region ?_)
 iterate 2 refine AO.pu T ?_
 refine AO.val rfl rfl (len_map_ok T rfl rfl rfl) ?_
 refine AO.val rfl rfl (arw_ok rfl rfl rfl rfl) ?_
 refine AO.pu T ?_
 refine AO.nil ?_
 refine AW.cond (b := (v26 != (w64 ((x3.2.2.2.2.2.1.length : Int) - 1)))) rfl (fun hc => ?_) (fun hc => ?_)
 replace hH := condT hc hH
 refine AW.seq (AW.region ?_)
 refine AO.pu T ?_
 refine AO.nil (AW.ret ?_)
 have hR := someE hH; subst hR
 exact retQ.i [] rfl (.c (.c .v))
 replace hH := condF hc hH
 refine AW.skip ?_
 refine AW.seq ?_
 obtain ⟨x28, hx29, hH⟩ := bindE hH
 refine AW.region ?_
 refine AO.pu T ?_
 refine AO.step rfl (call_ok rfl 6 rfl rfl rfl (spec_DrawSpreadPanels_ok fuel _ _ (hx29)) rfl rfl rfl) ?_
 iterate 9 refine AO.pu T ?_
 refine AO.nil (AW.seq ?_)
 obtain ⟨x30, hx31, hH⟩ := bindE hH
 refine AW.region ?_
 iterate 4 refine AO.pu T ?_
 refine AO.step rfl (callL_ok rfl 8 rfl rfl (es := [.s (List.map encInt x28.1), .s (List.map encOfficial x28.2.1), x28.2.2.1, x28.2.2.2]) (by exact ⟨(.rowR rfl (.map fun y => .vs rfl)), (.rowR rfl (.map fun y => .vs rfl)), .free rfl, .free rfl, trivial⟩) (impl_SpreadPanels_ok fuel _ _ _ _ _ (hx31)) (zfree_t (zfl (.cons (zfree_map (fun y => (.cons (zfree_map (fun y => (.cons (zfree_v _) .nil))) .nil))) (.cons (zfree_v _) .nil)))) rfl rfl rfl) ?_
 iterate 5 refine AO.pu T ?_
 refine AO.nil ?_
 refine AW.le (Le.ct 0 0 (σ' := (⟨[(1, .s (List.map encInt_u8 more)), (21, .R 6), (22, .R 7), (23, x28.2.2.1), (24, x28.2.2.2), (25, .R 8), (26, .v (.bool x30.2))], [(6, .row 1 (List.map encInt x28.1)), (7, .row 3 (List.map encOfficial x28.2.1)), (8, .row 1 (List.map encLIntO x30.1))], 297, []⟩ : St))) ?_
 refine AW.seq ?_
 obtain ⟨x32, hx33, hH⟩ := bindE hH
 refine AW.le (Le.freezeM 6 (g := encInt) rfl (fun y => .vs rfl)) ?_
 refine AW.le (Le.freezeM 7 (g := encOfficial) rfl (fun y => .vs rfl)) ?_
 refine AW.region ?_
 iterate 4 refine AO.pu T ?_
 refine AO.step rfl (call_ok rfl 9 rfl rfl rfl (spec_SpreadPanels_ok fuel _ _ _ _ _ (hx33)) rfl rfl rfl) ?_
 iterate 5 refine AO.pu T ?_
 refine AO.nil ?_
 iterate 2 refine AW.seq ?_
 obtain ⟨x34, hx35, hH⟩ := bindE hH
 refine AW.region ?_
 iterate 4 refine AO.pu T ?_
 iterate 2 refine AO.pureG T [] rfl trivial rfl rfl ?_
 refine AO.guard [173, 174] rfl ⟨fun h => h, fun h => h, trivial⟩ (fun hg => callLV_ok rfl rfl rfl (es := [.s (List.map encLInt x30.1), .s (List.map encLInt x32.1)]) ⟨(.rowR rfl (.map fun y => frzLInt y)), (.rowR rfl (.map fun y => .vs rfl)), trivial⟩ (laws_sameLists_ok _ _ _ (optT hx35 hg)) (zfree_v _) rfl) rfl ?_
 refine AO.pureG T [175] rfl ⟨fun h => h, trivial⟩ rfl rfl ?_
 refine AO.val rfl rfl (pick_or rfl rfl rfl rfl) ?_
 refine AO.nil ?_
 refine AW.cond (b := ((!(x30.2 == x32.2)) || (!x34))) rfl (fun hc => ?_) (fun hc => ?_)
 replace hH := condT hc hH
 refine AW.seq (AW.region ?_)
 refine AO.pu T ?_
 refine AO.nil (AW.ret ?_)
 have hR := someE hH; subst hR
 exact retQ.i [] rfl (.c (.c .v))
 replace hH := condF hc hH
 refine AW.skip ?_
 refine AW.seq (AW.region ?_)
 refine AO.pu T ?_
 refine AO.nil ?_
 iterate 2 refine AW.seq ?_
 refine AW.region ?_
 refine AO.pu T ?_
 refine AO.val rfl rfl (len_row_ok T rfl rfl rfl rfl) ?_
 refine AO.pu T ?_
 refine AO.nil ?_
 refine AW.block ?_
 refine AW.loopS (fun s : Nat × (List Int) => (⟨[(1, .s (List.map encInt_u8 more)), (23, x28.2.2.1), (29, .R 13), (178, .R 9), (179, (x32.1.length : Int)), (180, (s.1 : Int))], [(9, .row 1 (List.map encLInt x32.1)), (13, .row 1 (List.map encInt s.2))], 297, []⟩ : St)) (fun s => s.1 ≤ x32.1.length ∧ laws_FnReplaced_l2 more fuel x28 (x32.1.drop s.1) s.1 s.2 = some r) (fun s => x32.1.length - s.1) (0, []) ⟨Nat.zero_le _, hH⟩ ?_ ?_
 refine Le.trans (Le.void 29 13 1 rfl rfl) ?_
 exact Le.ct 0 0
 rintro ⟨k36, v129⟩ ⟨hk, hH⟩
 replace hH : laws_FnReplaced_l2 more fuel x28 (x32.1.drop k36) k36 v129 = some r := hH
 try dsimp only
 refine AW.boundR (id := 9) (l := x32.1) rfl (fun hb40 => ?_)
 rcases hd39 : x32.1.drop k36 with _ | ⟨y37, ys38⟩
 rw [hd39, laws_FnReplaced_l2] at hH
 have hlt41 := drop_ge hd39
 refine AW.seq (AW.region ?_)
 refine AO.pu T ?_
 refine AO.nil (AW.seq ?_)
 refine AW.condF' (b := decide ((k36 : Int) < (x32.1.length : Int))) rfl (rngF hlt41) ?_
 refine AW.exit ?_
 refine AW.seq ?_
 obtain ⟨x131, hx132, hH⟩ := bindE hH
 refine AW.region ?_
 refine AO.pu T ?_
 refine AO.step rfl (call_ok rfl 34 rfl rfl rfl (spec_DrawCountPanels_ok fuel _ _ (hx132)) rfl rfl rfl) ?_
 iterate 11 refine AO.pu T ?_
 refine AO.nil (AW.seq ?_)
 obtain ⟨x133, hx134, hH⟩ := bindE hH
 refine AW.region ?_
 iterate 5 refine AO.pu T ?_
 refine AO.val rfl rfl (callLV_ok rfl rfl rfl (es := [.s (List.map encOfficial x131.1), .s (List.map encInt x131.2.1), x131.2.2.1, x131.2.2.2.1, x131.2.2.2.2]) ⟨(.rowR rfl (.map fun y => .vs rfl)), (.rowR rfl (.map fun y => .vs rfl)), .free rfl, .free rfl, .free rfl, trivial⟩ (impl_CountPanels_ok fuel _ _ _ _ _ _ (hx134)) (zfree_t (zfl (.cons (zfree_v _) (.cons (zfree_v _) .nil)))) rfl) ?_
 iterate 5 refine AO.pu T ?_
 refine AO.nil ?_
 refine AW.le (Le.ct 0 0 (σ' := (⟨[(1, .s (List.map encInt_u8 more)), (34, .R 34), (35, .R 35), (36, x131.2.2.1), (37, x131.2.2.2.1), (38, x131.2.2.2.2), (39, x133.1), (40, .v (.bool x133.2))], [(34, .row 3 (List.map encOfficial x131.1)), (35, .row 1 (List.map encInt x131.2.1))], 297, []⟩ : St))) ?_
 refine AW.seq ?_
 obtain ⟨x135, hx136, hH⟩ := bindE hH
 refine AW.region ?_
 iterate 5 refine AO.pu T ?_
 refine AO.val rfl rfl (callLV_ok rfl rfl rfl (es := [.s (List.map encOfficial x131.1), .s (List.map encInt x131.2.1), x131.2.2.1, x131.2.2.2.1, x131.2.2.2.2]) ⟨(.rowR rfl (.map fun y => .vs rfl)), (.rowR rfl (.map fun y => .vs rfl)), .free rfl, .free rfl, .free rfl, trivial⟩ (spec_CountPanels_ok fuel _ _ _ _ _ _ (hx136)) (zfree_t (zfl (.cons (zfree_v _) (.cons (zfree_v _) .nil)))) rfl) ?_
 iterate 5 refine AO.pu T ?_
 refine AO.nil (AW.seq ?_)
 obtain ⟨x137, hx138, hH⟩ := bindE hH
 refine AW.region ?_
 refine AO.pu T ?_
 refine AO.step rfl (call_ok rfl 36 rfl rfl rfl (spec_DrawClubsOfPanel_ok fuel _ _ (hx138)) rfl rfl rfl) ?_
 iterate 5 refine AO.pu T ?_
 refine AO.nil (AW.seq ?_)
 obtain ⟨x139, hx140, hH⟩ := bindE hH
 refine AW.region ?_
 iterate 2 refine AO.pu T ?_
 refine AO.step rfl (callL_ok rfl 37 rfl rfl (es := [.s (List.map encOfficial x137.1), .s (List.map encInt x137.2)]) (by exact ⟨(.rowR rfl (.map fun y => .vs rfl)), .free rfl, trivial⟩) (impl_ClubsOfPanel_ok fuel _ _ _ (hx140)) (zfree_t (zfl (.cons (zfree_map (fun y => (.cons (zfree_v _) .nil))) (.cons (zfree_v _) .nil)))) rfl rfl rfl) ?_
 iterate 5 refine AO.pu T ?_
 refine AO.nil ?_
 refine AW.le (Le.ct 0 0 (σ' := (⟨[(1, .s (List.map encInt_u8 more)), (39, x133.1), (40, .v (.bool x133.2)), (41, x135.1), (42, .v (.bool x135.2)), (43, .R 36), (44, .s (List.map encInt x137.2)), (45, .R 37), (46, .v (.bool x139.2))], [(36, .row 3 (List.map encOfficial x137.1)), (37, .row 1 (List.map encInt x139.1))], 297, []⟩ : St))) ?_
 refine AW.seq ?_
 obtain ⟨x141, hx142, hH⟩ := bindE hH
 refine AW.region ?_
 iterate 2 refine AO.pu T ?_
 refine AO.step rfl (callL_ok rfl 38 rfl rfl (es := [.s (List.map encOfficial x137.1), .s (List.map encInt x137.2)]) (by exact ⟨(.rowR rfl (.map fun y => .vs rfl)), .free rfl, trivial⟩) (spec_ClubsOfPanel_ok fuel _ _ _ (hx142)) (zfree_t (zfl (.cons (zfree_map (fun y => (.cons (zfree_v _) .nil))) (.cons (zfree_v _) .nil)))) rfl rfl rfl) ?_
 iterate 5 refine AO.pu T ?_
 refine AO.nil (AW.seq ?_)
 obtain ⟨x143, hx144, hH⟩ := bindE hH
 refine AW.region ?_
 refine AO.pu T ?_
 refine AO.step rfl (call_ok rfl 39 rfl rfl rfl (spec_DrawLargestPanel_ok fuel _ _ (hx144)) rfl rfl rfl) ?_
 iterate 9 refine AO.pu T ?_
 refine AO.nil (AW.seq ?_)
 obtain ⟨x145, hx146, hH⟩ := bindE hH
 refine AW.region ?_
 iterate 4 refine AO.pu T ?_
 refine AO.val rfl rfl (callLV_ok rfl rfl rfl (es := [.s (List.map encOfficial x143.1), .s (List.map encInt x143.2.1), x143.2.2.1, x143.2.2.2]) ⟨(.rowR rfl (.map fun y => .vs rfl)), (.rowR rfl (.map fun y => .vs rfl)), .free rfl, .free rfl, trivial⟩ (impl_LargestPanel_ok _ _ _ _ _ (hx146)) (zfree_t (zfl (.cons (zfree_v _) (.cons (zfree_v _) .nil)))) rfl) ?_
 iterate 5 refine AO.pu T ?_
 refine AO.nil ?_
 refine AW.le (Le.ct 0 0 (σ' := (⟨[(39, x133.1), (40, .v (.bool x133.2)), (41, x135.1), (42, .v (.bool x135.2)), (45, .R 37), (46, .v (.bool x139.2)), (47, .R 38), (48, .v (.bool x141.2)), (49, .R 39), (50, .R 40), (51, x143.2.2.1), (52, x143.2.2.2), (53, x145.1), (54, .v (.bool x145.2))], [(37, .row 1 (List.map encInt x139.1)), (38, .row 1 (List.map encInt x141.1)), (39, .row 3 (List.map encOfficial x143.1)), (40, .row 1 (List.map encInt x143.2.1))], 297, []⟩ : St))) ?_
 refine AW.seq ?_
 obtain ⟨x147, hx148, hH⟩ := bindE hH
 refine AW.region ?_
 iterate 4 refine AO.pu T ?_
 refine AO.val rfl rfl (callLV_ok rfl rfl rfl (es := [.s (List.map encOfficial x143.1), .s (List.map encInt x143.2.1), x143.2.2.1, x143.2.2.2]) ⟨(.rowR rfl (.map fun y => .vs rfl)), (.rowR rfl (.map fun y => .vs rfl)), .free rfl, .free rfl, trivial⟩ (spec_LargestPanel_ok fuel _ _ _ _ _ (hx148)) (zfree_t (zfl (.cons (zfree_v _) (.cons (zfree_v _) .nil)))) rfl) ?_
 iterate 5 refine AO.pu T ?_
 refine AO.nil (AW.seq ?_)
 obtain ⟨x149, hx150, hH⟩ := bindE hH
 refine AW.region ?_
 iterate 4 refine AO.pu T ?_
 iterate 2 refine AO.pureG T [] rfl trivial rfl rfl ?_
 refine AO.pureG T [273, 274] rfl ⟨fun h => h, fun h => h, trivial⟩ rfl rfl ?_
 refine AO.val rfl rfl (pick_and rfl rfl rfl rfl) ?_
 refine AO.pu T ?_
 iterate 2 refine AO.pureG T [] rfl trivial rfl rfl ?_
 refine AO.pureG T [278, 279] rfl ⟨fun h => h, fun h => h, trivial⟩ rfl rfl ?_
 refine AO.val rfl rfl (pick_and rfl rfl rfl rfl) ?_
 refine AO.pu T ?_
 iterate 2 refine AO.pureG T [] rfl trivial rfl rfl ?_
 refine AO.guard [283, 284] rfl ⟨fun h => h, fun h => h, trivial⟩ (fun hg => callLV_ok rfl rfl rfl (es := [.s (List.map encInt x139.1), .s (List.map encInt x141.1)]) ⟨(.rowR rfl (.map fun y => .vs rfl)), (.rowR rfl (.map fun y => .vs rfl)), trivial⟩ (laws_sameInts_ok _ _ _ (optT hx150 hg)) (zfree_v _) rfl) rfl ?_
 refine AO.val rfl rfl (pick_and rfl rfl rfl rfl) ?_
 refine AO.pu T ?_
 iterate 2 refine AO.pureG T [] rfl trivial rfl rfl ?_
 refine AO.pureG T [288, 289] rfl ⟨fun h => h, fun h => h, trivial⟩ rfl rfl ?_
 refine AO.val rfl rfl (pick_and rfl rfl rfl rfl) ?_
 refine AO.pu T ?_
 iterate 2 refine AO.pureG T [] rfl trivial rfl rfl ?_
 refine AO.pureG T [293, 294] rfl ⟨fun h => h, fun h => h, trivial⟩ rfl rfl ?_
 refine AO.val rfl rfl (pick_and rfl rfl rfl rfl) ?_
 refine AO.pu T ?_
 refine AO.nil ?_
 refine AW.le (Le.ct 0 0 (σ' := (⟨[(4, .v (.bool ((((((x133.2 == x135.2) && (x133.1 == x135.1)) && (x139.2 == x141.2)) && x149) && (x145.2 == x147.2)) && (x145.1 == x147.1))))], [], 297, []⟩ : St))) ?_
 refine AW.ret ?_
 have hR := someE hH; subst hR
 exact retQ.i [] rfl (.c (.c .v))
 rw [hd39, laws_FnReplaced_l2] at hH
 have hlt41 := drop_lt hd39
 refine AW.seq (AW.region ?_)
 refine AO.pu T ?_
 refine AO.nil (AW.seq ?_)
 refine AW.condT' (b := decide ((k36 : Int) < (x32.1.length : Int))) rfl (rngT hlt41) ?_
 refine AW.skip ?_
 obtain ⟨o172, hH, hK173⟩ := bindE hH
 refine AW.seqJ (fun s : List Int => (⟨[(1, .s (List.map encInt_u8 more)), (23, x28.2.2.1), (29, .R 13), (178, .R 9), (179, (x32.1.length : Int)), (180, (k36 : Int))], [(9, .row 1 (List.map encLInt x32.1)), (13, .row 1 (List.map encInt s))], 297, []⟩ : St)) (fun s => .ok s = o172) ?_ ?_
 refine AW.block ?_
 refine AW.seq (AW.region ?_)
 refine AO.val rfl rfl (ix_row_ok T rfl rfl rfl rfl rfl rfl (getI_drop hd39)) ?_
 refine AO.val rfl rfl (load_row_ok T rfl rfl rfl rfl (getI_get (getI_drop hd39)) rfl rfl rfl) ?_
 refine AO.pu T ?_
 refine AO.nil ?_
 iterate 2 refine AW.seq ?_
 refine AW.region ?_
 refine AO.pu T ?_
 refine AO.val rfl rfl (len_map_ok T rfl rfl rfl) ?_
 iterate 2 refine AO.pu T ?_
 refine AO.nil ?_
 refine AW.cond (b := ((y37.length : Int) != x28.2.2.1)) rfl (fun hc => ?_) (fun hc => ?_)
 replace hH := condT hc hH
 refine AW.seq (AW.region ?_)
 refine AO.pu T ?_
 refine AO.nil (AW.ret ?_)
 obtain rfl := someE hH
 replace hH := hK173
 have hR := someE hH; subst hR
 exact retQ.i [] rfl (.c (.c .v))
 replace hH := condF hc hH
 refine AW.skip ?_
 refine AW.seq (AW.region ?_)
 refine AO.pu T ?_
 refine AO.val rfl rfl (len_map_ok T rfl rfl rfl) ?_
 refine AO.pu T ?_
 refine AO.nil ?_
 refine AW.block ?_
 refine AW.loopS (fun s : Nat × (List Int) => (⟨[(1, .s (List.map encInt_u8 more)), (23, x28.2.2.1), (29, .R 13), (178, .R 9), (179, (x32.1.length : Int)), (180, (k36 : Int)), (188, .s (List.map encInt y37)), (189, (y37.length : Int)), (190, (s.1 : Int))], [(9, .row 1 (List.map encLInt x32.1)), (13, .row 1 (List.map encInt s.2))], 297, []⟩ : St)) (fun s => s.1 ≤ y37.length ∧ laws_FnReplaced_l3 (y37.drop s.1) s.1 s.2 = some o172) (fun s => y37.length - s.1) (0, v129) ⟨Nat.zero_le _, hH⟩ ?_ ?_
 exact Le.ct 0 0
 rintro ⟨k174, v189⟩ ⟨hk, hH⟩
 replace hH : laws_FnReplaced_l3 (y37.drop k174) k174 v189 = some o172 := hH
 try dsimp only
 refine AW.boundM (t := 188) (l := y37) rfl (fun hb178 => ?_)
 rcases hd177 : y37.drop k174 with _ | ⟨y175, ys176⟩
 rw [hd177, laws_FnReplaced_l3] at hH
 have hlt179 := drop_ge hd177
 refine AW.seq (AW.region ?_)
 refine AO.pu T ?_
 refine AO.nil (AW.seq ?_)
 refine AW.condF' (b := decide ((k174 : Int) < (y37.length : Int))) rfl (rngF hlt179) ?_
 refine AW.exit ?_
 refine ⟨_, someE hH, ?_⟩
 exact Le.ct 0 0
 rw [hd177, laws_FnReplaced_l3] at hH
 have hlt179 := drop_lt hd177
 refine AW.seq (AW.region ?_)
 refine AO.pu T ?_
 refine AO.nil (AW.seq ?_)
 refine AW.condT' (b := decide ((k174 : Int) < (y37.length : Int))) rfl (rngT hlt179) ?_
 refine AW.skip ?_
 refine AW.seq ?_
 refine AW.block ?_
 refine AW.seq (AW.region ?_)
 refine AO.val rfl rfl (ix_map_ok T rfl rfl rfl rfl rfl (getI_drop hd177) rfl) ?_
 iterate 2 refine AO.pu T ?_
 refine AO.nil ?_
 iterate 2 refine AW.seq ?_
 obtain ⟨x191, hx192, hH⟩ := bindE hH
 refine AW.region ?_
 iterate 2 refine AO.pu T ?_
 refine AO.val rfl rfl (callLV_ok rfl rfl rfl (es := [.s (List.map encInt v189), y175]) ⟨(.rowR rfl (.map fun y => .vs rfl)), .free rfl, trivial⟩ (laws_pIn_ok _ _ _ (hx192)) (zfree_v _) rfl) ?_
 refine AO.nil ?_
 refine AW.cond (b := x191) rfl (fun hc => ?_) (fun hc => ?_)
 replace hH := condT hc hH
 refine AW.seq (AW.region ?_)
 refine AO.pu T ?_
 refine AO.nil (AW.ret ?_)
 obtain rfl := someE hH
 replace hH := hK173
 have hR := someE hH; subst hR
 exact retQ.i [] rfl (.c (.c .v))
 replace hH := condF hc hH
 refine AW.skip ?_
 obtain ⟨u193, hx194, hH⟩ := bindE hH
 refine AW.region ?_
 iterate 2 refine AO.pu T ?_
 refine AO.step rfl (mk_map_ok T rfl 51 rfl rfl rfl rfl rfl (f := encInt) (l := [y175]) rfl rfl (fun _ => rfl) rfl rfl rfl rfl rfl) ?_
 refine AO.step rfl (app_rv_map T rfl 52 rfl rfl rfl rfl rfl (by decide) rfl rfl rfl rfl (fun _ => rfl) (needT (hx194)) rfl rfl) ?_
 refine AO.pu T ?_
 refine AO.nil ?_
 refine AW.region ?_
 refine AO.val rfl rfl (ar_ok rfl rfl rfl rfl (inI_succ hlt179 hb178)) ?_
 refine AO.pu T ?_
 refine AO.nil ?_
 refine ⟨(k174 + 1, (v189 ++ [y175])), ⟨Nat.succ_le_of_lt hlt179, (by rw [drop_succ_of hd177]; exact hH)⟩, (by have := hlt179; dsimp only; omega), ?_⟩
 exact Le.ct 52 13
 rintro v171 hs
 subst hs
 replace hH := hK173
 try dsimp only [flow, flowE] at hH
 try dsimp only
 refine AW.region ?_
 refine AO.val rfl rfl (ar_ok rfl rfl rfl rfl (inI_succ hlt41 hb40)) ?_
 refine AO.pu T ?_
 refine AO.nil ?_
 refine ⟨(k36 + 1, v171), ⟨Nat.succ_le_of_lt hlt41, (by rw [drop_succ_of hd39]; exact hH)⟩, (by have := hlt41; dsimp only; omega), ?_⟩
 exact Le.ct 0 0
 rw [hd18, laws_FnReplaced_l1] at hH
 have hlt20 := drop_lt hd18
 refine AW.seq (AW.region ?_)
 refine AO.pu T ?_
 refine AO.nil (AW.seq ?_)
 refine AW.condT' (b := decide ((k15 : Int) < (x7.1.length : Int))) rfl (rngT hlt20) ?_
 refine AW.skip ?_
 refine AW.seq ?_
 refine AW.block ?_
 refine AW.seq (AW.region ?_)
 refine AO.val rfl rfl (ix_row_ok T rfl rfl rfl rfl rfl rfl (getI_drop hd18)) ?_
 refine AO.val rfl rfl (load_row_ok T rfl rfl rfl rfl (getI_get (getI_drop hd18)) rfl rfl rfl) ?_
 refine AO.pu T ?_
 refine AO.nil (AW.seq ?_)
 obtain ⟨x195, hx196, hH⟩ := bindE hH
 refine AW.region ?_
 iterate 2 refine AO.pu T ?_
 refine AO.val rfl rfl (callV_ok rfl rfl rfl rfl (laws_pIn_ok _ _ _ (hx196)) rfl) ?_
 refine AO.nil ?_
 refine AW.cond (b := x195) rfl (fun hc => ?_) (fun hc => ?_)
 replace hH := condT hc hH
 refine AW.region ?_
 refine AO.pu T ?_
 refine AO.val rfl rfl (arw_ok rfl rfl rfl rfl) ?_
 refine AO.pu T ?_
 refine AO.nil ?_
 refine AW.region ?_
 refine AO.val rfl rfl (ar_ok rfl rfl rfl rfl (inI_succ hlt20 hb19)) ?_
 refine AO.pu T ?_
 refine AO.nil ?_
 refine ⟨(k15 + 1, w64 (v26 + 1)), ⟨Nat.succ_le_of_lt hlt20, (by rw [drop_succ_of hd18]; exact hH)⟩, (by have := hlt20; dsimp only; omega), ?_⟩
 exact Le.ct 0 0
 replace hH := condF hc hH
 refine AW.skip ?_
 refine AW.region ?_
 refine AO.val rfl rfl (ar_ok rfl rfl rfl rfl (inI_succ hlt20 hb19)) ?_
 refine AO.pu T ?_
 refine AO.nil ?_
 refine ⟨(k15 + 1, v26), ⟨Nat.succ_le_of_lt hlt20, (by rw [drop_succ_of hd18]; exact hH)⟩, (by have := hlt20; dsimp only; omega), ?_⟩
 exact Le.ct 0 0
 replace hH := condF hc hH
 refine AW.skip ?_
 refine AW.seq ?_
 obtain ⟨x197, hx198, hH⟩ := bindE hH
 refine AW.region ?_
 refine AO.pu T ?_
 refine AO.step rfl (call_ok rfl 53 rfl rfl rfl (spec_DrawSpreadPanels_ok fuel _ _ (hx198)) rfl rfl rfl) ?_
 iterate 9 refine AO.pu T ?_
 refine AO.nil ?_
 refine AW.le (Le.ct 0 0 (σ' := (⟨[(1, .s (List.map encInt_u8 more)), (21, .R 53), (22, .R 54), (23, x197.2.2.1), (24, x197.2.2.2)], [(53, .row 1 (List.map encInt x197.1)), (54, .row 3 (List.map encOfficial x197.2.1))], 297, []⟩ : St))) ?_
 refine AW.seq ?_
 obtain ⟨x199, hx200, hH⟩ := bindE hH
 refine AW.region ?_
 iterate 4 refine AO.pu T ?_
 refine AO.step rfl (callL_ok rfl 55 rfl rfl (es := [.s (List.map encInt x197.1), .s (List.map encOfficial x197.2.1), x197.2.2.1, x197.2.2.2]) (by exact ⟨(.rowR rfl (.map fun y => .vs rfl)), (.rowR rfl (.map fun y => .vs rfl)), .free rfl, .free rfl, trivial⟩) (impl_SpreadPanels_ok fuel _ _ _ _ _ (hx200)) (zfree_t (zfl (.cons (zfree_map (fun y => (.cons (zfree_map (fun y => (.cons (zfree_v _) .nil))) .nil))) (.cons (zfree_v _) .nil)))) rfl rfl rfl) ?_
 iterate 5 refine AO.pu T ?_
 refine AO.nil (AW.seq ?_)
 obtain ⟨x201, hx202, hH⟩ := bindE hH
 refine AW.le (Le.freezeM 53 (g := encInt) rfl (fun y => .vs rfl)) ?_
 refine AW.le (Le.freezeM 54 (g := encOfficial) rfl (fun y => .vs rfl)) ?_
 refine AW.region ?_
 iterate 4 refine AO.pu T ?_
 refine AO.step rfl (call_ok rfl 56 rfl rfl rfl (spec_SpreadPanels_ok fuel _ _ _ _ _ (hx202)) rfl rfl rfl) ?_
 iterate 5 refine AO.pu T ?_
 refine AO.nil ?_
 iterate 2 refine AW.seq ?_
 obtain ⟨x203, hx204, hH⟩ := bindE hH
 refine AW.region ?_
 iterate 4 refine AO.pu T ?_
 iterate 2 refine AO.pureG T [] rfl trivial rfl rfl ?_
 refine AO.guard [173, 174] rfl ⟨fun h => h, fun h => h, trivial⟩ (fun hg => callLV_ok rfl rfl rfl (es := [.s (List.map encLInt x199.1), .s (List.map encLInt x201.1)]) ⟨(.rowR rfl (.map fun y => frzLInt y)), (.rowR rfl (.map fun y => .vs rfl)), trivial⟩ (laws_sameLists_ok _ _ _ (optT hx204 hg)) (zfree_v _) rfl) rfl ?_
 refine AO.pureG T [175] rfl ⟨fun h => h, trivial⟩ rfl rfl ?_
 refine AO.val rfl rfl (pick_or rfl rfl rfl rfl) ?_
 refine AO.nil ?_
 refine AW.le (Le.ct 0 0 (σ' := (⟨[(1, .s (List.map encInt_u8 more)), (23, x197.2.2.1), (27, .R 56), (177, .v (.bool ((!(x199.2 == x201.2)) || (!x203))))], [(56, .row 1 (List.map encLInt x201.1))], 297, []⟩ : St))) ?_
 refine AW.cond (b := ((!(x199.2 == x201.2)) || (!x203))) rfl (fun hc => ?_) (fun hc => ?_)
 replace hH := condT hc hH
 refine AW.seq (AW.region ?_)
 refine AO.pu T ?_
 refine AO.nil (AW.ret ?_)
 have hR := someE hH; subst hR
 exact retQ.i [] rfl (.c (.c .v))
 replace hH := condF hc hH
 refine AW.skip ?_
 refine AW.seq (AW.region ?_)
 refine AO.pu T ?_
 refine AO.nil ?_
 iterate 2 refine AW.seq ?_
 refine AW.region ?_
 refine AO.pu T ?_
 refine AO.val rfl rfl (len_row_ok T rfl rfl rfl rfl) ?_
 refine AO.pu T ?_
 refine AO.nil ?_
 refine AW.block ?_
 refine AW.loopS (fun s : Nat × (List Int) => (⟨[(1, .s (List.map encInt_u8 more)), (23, x197.2.2.1), (29, .R 60), (178, .R 56), (179, (x201.1.length : Int)), (180, (s.1 : Int))], [(56, .row 1 (List.map encLInt x201.1)), (60, .row 1 (List.map encInt s.2))], 297, []⟩ : St)) (fun s => s.1 ≤ x201.1.length ∧ laws_FnReplaced_l4 more fuel x197 (x201.1.drop s.1) s.1 s.2 = some r) (fun s => x201.1.length - s.1) (0, []) ⟨Nat.zero_le _, hH⟩ ?_ ?_
 refine Le.trans (Le.void 29 60 1 rfl rfl) ?_
 exact Le.ct 0 0
 rintro ⟨k205, v298⟩ ⟨hk, hH⟩
 replace hH : laws_FnReplaced_l4 more fuel x197 (x201.1.drop k205) k205 v298 = some r := hH
 try dsimp only
 refine AW.boundR (id := 56) (l := x201.1) rfl (fun hb209 => ?_)
 rcases hd208 : x201.1.drop k205 with _ | ⟨y206, ys207⟩
 rw [hd208, laws_FnReplaced_l4] at hH
 have hlt210 := drop_ge hd208
 refine AW.seq (AW.region ?_)
 refine AO.pu T ?_
 refine AO.nil (AW.seq ?_)
 refine AW.condF' (b := decide ((k205 : Int) < (x201.1.length : Int))) rfl (rngF hlt210) ?_
 refine AW.exit ?_
 refine AW.seq ?_
 obtain ⟨x300, hx301, hH⟩ := bindE hH
 refine AW.region ?_
 refine AO.pu T ?_
 refine AO.step rfl (call_ok rfl 81 rfl rfl rfl (spec_DrawCountPanels_ok fuel _ _ (hx301)) rfl rfl rfl) ?_
 iterate 11 refine AO.pu T ?_
 refine AO.nil (AW.seq ?_)
 obtain ⟨x302, hx303, hH⟩ := bindE hH
 refine AW.region ?_
 iterate 5 refine AO.pu T ?_
 refine AO.val rfl rfl (callLV_ok rfl rfl rfl (es := [.s (List.map encOfficial x300.1), .s (List.map encInt x300.2.1), x300.2.2.1, x300.2.2.2.1, x300.2.2.2.2]) ⟨(.rowR rfl (.map fun y => .vs rfl)), (.rowR rfl (.map fun y => .vs rfl)), .free rfl, .free rfl, .free rfl, trivial⟩ (impl_CountPanels_ok fuel _ _ _ _ _ _ (hx303)) (zfree_t (zfl (.cons (zfree_v _) (.cons (zfree_v _) .nil)))) rfl) ?_
 iterate 5 refine AO.pu T ?_
 refine AO.nil ?_
 refine AW.le (Le.ct 0 0 (σ' := (⟨[(1, .s (List.map encInt_u8 more)), (34, .R 81), (35, .R 82), (36, x300.2.2.1), (37, x300.2.2.2.1), (38, x300.2.2.2.2), (39, x302.1), (40, .v (.bool x302.2))], [(81, .row 3 (List.map encOfficial x300.1)), (82, .row 1 (List.map encInt x300.2.1))], 297, []⟩ : St))) ?_
 refine AW.seq ?_
 obtain ⟨x304, hx305, hH⟩ := bindE hH
 refine AW.region ?_
 iterate 5 refine AO.pu T ?_
 refine AO.val rfl rfl (callLV_ok rfl rfl rfl (es := [.s (List.map encOfficial x300.1), .s (List.map encInt x300.2.1), x300.2.2.1, x300.2.2.2.1, x300.2.2.2.2]) ⟨(.rowR rfl (.map fun y => .vs rfl)), (.rowR rfl (.map fun y => .vs rfl)), .free rfl, .free rfl, .free rfl, trivial⟩ (spec_CountPanels_ok fuel _ _ _ _ _ _ (hx305)) (zfree_t (zfl (.cons (zfree_v _) (.cons (zfree_v _) .nil)))) rfl) ?_
 iterate 5 refine AO.pu T ?_
 refine AO.nil (AW.seq ?_)
 obtain ⟨x306, hx307, hH⟩ := bindE hH
 refine AW.region ?_
 refine AO.pu T ?_
 refine AO.step rfl (call_ok rfl 83 rfl rfl rfl (spec_DrawClubsOfPanel_ok fuel _ _ (hx307)) rfl rfl rfl) ?_
 iterate 5 refine AO.pu T ?_
 refine AO.nil (AW.seq ?_)
 obtain ⟨x308, hx309, hH⟩ := bindE hH
 refine AW.region ?_
 iterate 2 refine AO.pu T ?_
 refine AO.step rfl (callL_ok rfl 84 rfl rfl (es := [.s (List.map encOfficial x306.1), .s (List.map encInt x306.2)]) (by exact ⟨(.rowR rfl (.map fun y => .vs rfl)), .free rfl, trivial⟩) (impl_ClubsOfPanel_ok fuel _ _ _ (hx309)) (zfree_t (zfl (.cons (zfree_map (fun y => (.cons (zfree_v _) .nil))) (.cons (zfree_v _) .nil)))) rfl rfl rfl) ?_
 iterate 5 refine AO.pu T ?_
 refine AO.nil ?_
 refine AW.le (Le.ct 0 0 (σ' := (⟨[(1, .s (List.map encInt_u8 more)), (39, x302.1), (40, .v (.bool x302.2)), (41, x304.1), (42, .v (.bool x304.2)), (43, .R 83), (44, .s (List.map encInt x306.2)), (45, .R 84), (46, .v (.bool x308.2))], [(83, .row 3 (List.map encOfficial x306.1)), (84, .row 1 (List.map encInt x308.1))], 297, []⟩ : St))) ?_
 refine AW.seq ?_
 obtain ⟨x310, hx311, hH⟩ := bindE hH
 refine AW.region ?_
 iterate 2 refine AO.pu T ?_
 refine AO.step rfl (callL_ok rfl 85 rfl rfl (es := [.s (List.map encOfficial x306.1), .s (List.map encInt x306.2)]) (by exact ⟨(.rowR rfl (.map fun y => .vs rfl)), .free rfl, trivial⟩) (spec_ClubsOfPanel_ok fuel _ _ _ (hx311)) (zfree_t (zfl (.cons (zfree_map (fun y => (.cons (zfree_v _) .nil))) (.cons (zfree_v _) .nil)))) rfl rfl rfl) ?_
 iterate 5 refine AO.pu T ?_
 refine AO.nil (AW.seq ?_)
 obtain ⟨x312, hx313, hH⟩ := bindE hH
 refine AW.region ?_
 refine AO.pu T ?_
 refine AO.step rfl (call_ok rfl 86 rfl rfl rfl (spec_DrawLargestPanel_ok fuel _ _ (hx313)) rfl rfl rfl) ?_
 iterate 9 refine AO.pu T ?_
 refine AO.nil (AW.seq ?_)
 obtain ⟨x314, hx315, hH⟩ := bindE hH
 refine AW.region ?_
 iterate 4 refine AO.pu T ?_
 refine AO.val rfl rfl (callLV_ok rfl rfl rfl (es := [.s (List.map encOfficial x312.1), .s (List.map encInt x312.2.1), x312.2.2.1, x312.2.2.2]) ⟨(.rowR rfl (.map fun y => .vs rfl)), (.rowR rfl (.map fun y => .vs rfl)), .free rfl, .free rfl, trivial⟩ (impl_LargestPanel_ok _ _ _ _ _ (hx315)) (zfree_t (zfl (.cons (zfree_v _) (.cons (zfree_v _) .nil)))) rfl) ?_
 iterate 5 refine AO.pu T ?_
 refine AO.nil ?_
 refine AW.le (Le.ct 0 0 (σ' := (⟨[(39, x302.1), (40, .v (.bool x302.2)), (41, x304.1), (42, .v (.bool x304.2)), (45, .R 84), (46, .v (.bool x308.2)), (47, .R 85), (48, .v (.bool x310.2)), (49, .R 86), (50, .R 87), (51, x312.2.2.1), (52, x312.2.2.2), (53, x314.1), (54, .v (.bool x314.2))], [(84, .row 1 (List.map encInt x308.1)), (85, .row 1 (List.map encInt x310.1)), (86, .row 3 (List.map encOfficial x312.1)), (87, .row 1 (List.map encInt x312.2.1))], 297, []⟩ : St))) ?_
 refine AW.seq ?_
 obtain ⟨x316, hx317, hH⟩ := bindE hH
 refine AW.region ?_
 iterate 4 refine AO.pu T ?_
 refine AO.val rfl rfl (callLV_ok rfl rfl rfl (es := [.s (List.map encOfficial x312.1), .s (List.map encInt x312.2.1), x312.2.2.1, x312.2.2.2]) ⟨(.rowR rfl (.map fun y => .vs rfl)), (.rowR rfl (.map fun y => .vs rfl)), .free rfl, .free rfl, trivial⟩ (spec_LargestPanel_ok fuel _ _ _ _ _ (hx317)) (zfree_t (zfl (.cons (zfree_v _) (.cons (zfree_v _) .nil)))) rfl) ?_
 iterate 5 refine AO.pu T ?_
 refine AO.nil (AW.seq ?_)
 obtain ⟨x318, hx319, hH⟩ := bindE hH
 refine AW.region ?_
 iterate 4 refine AO.pu T ?_
 iterate 2 refine AO.pureG T [] rfl trivial rfl rfl ?_
 refine AO.pureG T [273, 274] rfl ⟨fun h => h, fun h => h, trivial⟩ rfl rfl ?_
 refine AO.val rfl rfl (pick_and rfl rfl rfl rfl) ?_
 refine AO.pu T ?_
 iterate 2 refine AO.pureG T [] rfl trivial rfl rfl ?_
 refine AO.pureG T [278, 279] rfl ⟨fun h => h, fun h => h, trivial⟩ rfl rfl ?_
 refine AO.val rfl rfl (pick_and rfl rfl rfl rfl) ?_
 refine AO.pu T ?_
 iterate 2 refine AO.pureG T [] rfl trivial rfl rfl ?_
 refine AO.guard [283, 284] rfl ⟨fun h => h, fun h => h, trivial⟩ (fun hg => callLV_ok rfl rfl rfl (es := [.s (List.map encInt x308.1), .s (List.map encInt x310.1)]) ⟨(.rowR rfl (.map fun y => .vs rfl)), (.rowR rfl (.map fun y => .vs rfl)), trivial⟩ (laws_sameInts_ok _ _ _ (optT hx319 hg)) (zfree_v _) rfl) rfl ?_
 refine AO.val rfl rfl (pick_and rfl rfl rfl rfl) ?_
 refine AO.pu T ?_
 iterate 2 refine AO.pureG T [] rfl trivial rfl rfl ?_
 refine AO.pureG T [288, 289] rfl ⟨fun h => h, fun h => h, trivial⟩ rfl rfl ?_
 refine AO.val rfl rfl (pick_and rfl rfl rfl rfl) ?_
 refine AO.pu T ?_
 iterate 2 refine AO.pureG T [] rfl trivial rfl rfl ?_
 refine AO.pureG T [293, 294] rfl ⟨fun h => h, fun h => h, trivial⟩ rfl rfl ?_
 refine AO.val rfl rfl (pick_and rfl rfl rfl rfl) ?_
 refine AO.pu T ?_
 refine AO.nil ?_
 refine AW.le (Le.ct 0 0 (σ' := (⟨[(4, .v (.bool ((((((x302.2 == x304.2) && (x302.1 == x304.1)) && (x308.2 == x310.2)) && x318) && (x314.2 == x316.2)) && (x314.1 == x316.1))))], [], 297, []⟩ : St))) ?_
 refine AW.ret ?_
 have hR := someE hH; subst hR
 exact retQ.i [] rfl (.c (.c .v))
 rw [hd208, laws_FnReplaced_l4] at hH
 have hlt210 := drop_lt hd208
 refine AW.seq (AW.region ?_)
 refine AO.pu T ?_
 refine AO.nil (AW.seq ?_)
 refine AW.condT' (b := decide ((k205 : Int) < (x201.1.length : Int))) rfl (rngT hlt210) ?_
 refine AW.skip ?_
 obtain ⟨o341, hH, hK342⟩ := bindE hH
 refine AW.seqJ (fun s : List Int => (⟨[(1, .s (List.map encInt_u8 more)), (23, x197.2.2.1), (29, .R 60), (178, .R 56), (179, (x201.1.length : Int)), (180, (k205 : Int))], [(56, .row 1 (List.map encLInt x201.1)), (60, .row 1 (List.map encInt s))], 297, []⟩ : St)) (fun s => .ok s = o341) ?_ ?_
 refine AW.block ?_
 refine AW.seq (AW.region ?_)
 refine AO.val rfl rfl (ix_row_ok T rfl rfl rfl rfl rfl rfl (getI_drop hd208)) ?_
 refine AO.val rfl rfl (load_row_ok T rfl rfl rfl rfl (getI_get (getI_drop hd208)) rfl rfl rfl) ?_
 refine AO.pu T ?_
 refine AO.nil ?_
 iterate 2 refine AW.seq ?_
 refine AW.region ?_
 refine AO.pu T ?_
 refine AO.val rfl rfl (len_map_ok T rfl rfl rfl) ?_
 iterate 2 refine AO.pu T ?_
 refine AO.nil ?_
 refine AW.cond (b := ((y206.length : Int) != x197.2.2.1)) rfl (fun hc => ?_) (fun hc => ?_)
 replace hH := condT hc hH
 refine AW.seq (AW.region ?_)
 refine AO.pu T ?_
 refine AO.nil (AW.ret ?_)
 obtain rfl := someE hH
 replace hH := hK342
 have hR := someE hH; subst hR
 exact retQ.i [] rfl (.c (.c .v))
 replace hH := condF hc hH
 refine AW.skip ?_
 refine AW.seq (AW.region ?_)
 refine AO.pu T ?_
 refine AO.val rfl rfl (len_map_ok T rfl rfl rfl) ?_
 refine AO.pu T ?_
 refine AO.nil ?_
 refine AW.block ?_
 refine AW.loopS (fun s : Nat × (List Int) => (⟨[(1, .s (List.map encInt_u8 more)), (23, x197.2.2.1), (29, .R 60), (178, .R 56), (179, (x201.1.length : Int)), (180, (k205 : Int)), (188, .s (List.map encInt y206)), (189, (y206.length : Int)), (190, (s.1 : Int))], [(56, .row 1 (List.map encLInt x201.1)), (60, .row 1 (List.map encInt s.2))], 297, []⟩ : St)) (fun s => s.1 ≤ y206.length ∧ laws_FnReplaced_l5 (y206.drop s.1) s.1 s.2 = some o341) (fun s => y206.length - s.1) (0, v298) ⟨Nat.zero_le _, hH⟩ ?_ ?_
 exact Le.ct 0 0
 rintro ⟨k343, v358⟩ ⟨hk, hH⟩
 replace hH : laws_FnReplaced_l5 (y206.drop k343) k343 v358 = some o341 := hH
 try dsimp only
 refine AW.boundM (t := 188) (l := y206) rfl (fun hb347 => ?_)
 rcases hd346 : y206.drop k343 with _ | ⟨y344, ys345⟩
 rw [hd346, laws_FnReplaced_l5] at hH
 have hlt348 := drop_ge hd346
 refine AW.seq (AW.region ?_)
 refine AO.pu T ?_
 refine AO.nil (AW.seq ?_)
 refine AW.condF' (b := decide ((k343 : Int) < (y206.length : Int))) rfl (rngF hlt348) ?_
 refine AW.exit ?_
 refine ⟨_, someE hH, ?_⟩
 exact Le.ct 0 0
 rw [hd346, laws_FnReplaced_l5] at hH
 have hlt348 := drop_lt hd346
 refine AW.seq (AW.region ?_)
 refine AO.pu T ?_
 refine AO.nil (AW.seq ?_)
 refine AW.condT' (b := decide ((k343 : Int) < (y206.length : Int))) rfl (rngT hlt348) ?_
 refine AW.skip ?_
 refine AW.seq ?_
 refine AW.block ?_
 refine AW.seq (AW.region ?_)
 refine AO.val rfl rfl (ix_map_ok T rfl rfl rfl rfl rfl (getI_drop hd346) rfl) ?_
 iterate 2 refine AO.pu T ?_
 refine AO.nil ?_
 iterate 2 refine AW.seq ?_
 obtain ⟨x360, hx361, hH⟩ := bindE hH
 refine AW.region ?_
 iterate 2 refine AO.pu T ?_
 refine AO.val rfl rfl (callLV_ok rfl rfl rfl (es := [.s (List.map encInt v358), y344]) ⟨(.rowR rfl (.map fun y => .vs rfl)), .free rfl, trivial⟩ (laws_pIn_ok _ _ _ (hx361)) (zfree_v _) rfl) ?_
 refine AO.nil ?_
 refine AW.cond (b := x360) rfl (fun hc => ?_) (fun hc => ?_)
 replace hH := condT hc hH
 refine AW.seq (AW.region ?_)
 refine AO.pu T ?_
 refine AO.nil (AW.ret ?_)
 obtain rfl := someE hH
 replace hH := hK342
 have hR := someE hH; subst hR
 exact retQ.i [] rfl (.c (.c .v))
 replace hH := condF hc hH
 refine AW.skip ?_
 obtain ⟨u362, hx363, hH⟩ := bindE hH
 refine AW.region ?_
 iterate 2 refine AO.pu T ?_
 refine AO.step rfl (mk_map_ok T rfl 98 rfl rfl rfl rfl rfl (f := encInt) (l := [y344]) rfl rfl (fun _ => rfl) rfl rfl rfl rfl rfl) ?_
 refine AO.step rfl (app_rv_map T rfl 99 rfl rfl rfl rfl rfl (by decide) rfl rfl rfl rfl (fun _ => rfl) (needT (hx363)) rfl rfl) ?_
 refine AO.pu T ?_
 refine AO.nil ?_
 refine AW.region ?_
 refine AO.val rfl rfl (ar_ok rfl rfl rfl rfl (inI_succ hlt348 hb347)) ?_
 refine AO.pu T ?_
 refine AO.nil ?_
 refine ⟨(k343 + 1, (v358 ++ [y344])), ⟨Nat.succ_le_of_lt hlt348, (by rw [drop_succ_of hd346]; exact hH)⟩, (by have := hlt348; dsimp only; omega), ?_⟩
 exact Le.ct 99 60
 rintro v340 hs
 subst hs
 replace hH := hK342
 try dsimp only [flow, flowE] at hH
 try dsimp only
 refine AW.region ?_
 refine AO.val rfl rfl (ar_ok rfl rfl rfl rfl (inI_succ hlt210 hb209)) ?_
 refine AO.pu T ?_
 refine AO.nil ?_
 refine ⟨(k205 + 1, v340), ⟨Nat.succ_le_of_lt hlt210, (by rw [drop_succ_of hd208]; exact hH)⟩, (by have := hlt210; dsimp only; omega), ?_⟩
 exact Le.ct 0 0

end Go.Proofs.YtegdphhfimaieacGreat

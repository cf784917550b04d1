/- The walk, part 2: what each function reached by the law FnPanels computes. No condition. -/
import Derived.Test.YtegdphhfimaieacWalk1
set_option maxRecDepth 4000
set_option maxHeartbeats 1000000
set_option linter.unusedVariables false
set_option linter.unusedSimpArgs false
set_option linter.unusedSectionVars false

namespace Go.Proofs.Ytegdphhfimaieac
open Go.AM

def spec_LargestPanel_l2 (most : Int) : List Int → Nat → Int → Option ((Int × Bool))
  | [], k30, v41 =>
    some (v41, true)
  | y31 :: ys32, k30, v41 =>
    (spec_l1Least_p y31 most).bind fun x43 =>
    spec_LargestPanel_l2 most ys32 (k30 + 1) (w64 (v41 + x43))
def spec_LargestPanel_l1 (l : List Official) (most : Int) : List Int → Nat → List Int → Option ((Int × Bool))
  | [], k9, v28 =>
    spec_LargestPanel_l2 most v28 0 0
  | y10 :: ys11, k9, v28 =>
    (spec_paFind_p l y10).bind fun x45 =>
    (getI l x45).bind fun x47 =>
    (getI v28 x47.club).bind fun x49 =>
    spec_LargestPanel_l1 l most ys11 (k9 + 1) (v28.set x47.club.toNat (w64 (x49 + 1)))
def spec_LargestPanel_p (fuel : Nat) (l : List Official) (clubs : List Int) (level : Int) (most : Int) : Option (Int × Bool) :=
  (spec_paAsked_p l clubs level).bind fun x1 =>
  (opt (!(!x1)) default (spec_paMost_p most)).bind fun x3 =>
  cond ((!x1) || (!x3))
    (some (0, false))
    ((need (decide (0 ≤ 21) && fitsB 8 (21 : Int).toNat)).bind fun u5 =>
    (spec_paEligible_p fuel l clubs level).bind fun x7 =>
    spec_LargestPanel_l1 l most x7 0 (List.replicate (21 : Int).toNat (0 : Int)))
theorem spec_LargestPanel_ok (fuel : Nat) (l : List Official) (clubs : List Int) (level : Int) (most : Int) (r : (Int × Bool)) (hH : spec_LargestPanel_p fuel l clubs level most = some r) : SpecR Try.prog 9 [.s (List.map encOfficial l), .s (List.map encInt clubs), level, most] (.t [.v (.int .i64 r.1), .v (.bool r.2)]) := by
 refine fn_ok T Try.func9 rfl (by decide) rfl ?_
 refine AW.seq (AW.region ?_)
 iterate 2 refine AO.pu T ?_
 refine AO.nil ?_
 iterate 2 refine AW.seq ?_
 obtain ⟨x1, hx2, hH⟩ := bindE hH
 obtain ⟨x3, hx4, hH⟩ := bindE hH
 refine AW.region ?_
 iterate 3 refine AO.pu T ?_
 refine AO.val rfl rfl (callV_ok rfl rfl rfl rfl (spec_paAsked_ok _ _ _ _ (hx2)) rfl) ?_
 iterate 2 refine AO.pu T ?_
 refine AO.pureG T [] rfl trivial rfl rfl ?_
 refine AO.guard [22] rfl ⟨fun h => h, trivial⟩ (fun hg => callV_ok rfl rfl rfl rfl (spec_paMost_ok _ _ (optT hx4 hg)) rfl) rfl ?_
 refine AO.pureG T [23] rfl ⟨fun h => h, trivial⟩ rfl rfl ?_
 refine AO.val rfl rfl (pick_or rfl rfl rfl rfl) ?_
 refine AO.nil ?_
 refine AW.cond (b := ((!x1) || (!x3))) rfl (fun hc => ?_) (fun hc => ?_)
 replace hH := condT hc hH
 refine AW.seq (AW.region ?_)
 iterate 2 refine AO.pu T ?_
 refine AO.nil (AW.ret ?_)
 have hR := someE hH; subst hR
 exact retQ.i [] rfl (.t (expLG_cons (.c .v) (expLG_cons (.c .v) (expLG_nil))))
 replace hH := condF hc hH
 refine AW.skip ?_
 refine AW.seq ?_
 obtain ⟨u5, hx6, hH⟩ := bindE hH
 refine AW.region ?_
 refine AO.step rfl (make_map_ok T rfl 1 rfl rfl rfl rfl rfl (f := encInt) (zo := 0) (by repeat constructor) (by decide) rfl rfl (Bool.and_eq_true_iff.1 (needT (hx6))).1 (Bool.and_eq_true_iff.1 (needT (hx6))).2 rfl rfl) ?_
 refine AO.pu T ?_
 refine AO.nil ?_
 iterate 2 refine AW.seq ?_
 obtain ⟨x7, hx8, hH⟩ := bindE hH
 refine AW.region ?_
 iterate 3 refine AO.pu T ?_
 refine AO.step rfl (call_ok rfl 2 rfl rfl rfl (spec_paEligible_ok fuel _ _ _ _ (hx8)) rfl rfl rfl) ?_
 refine AO.val rfl rfl (len_row_ok T rfl rfl rfl rfl) ?_
 refine AO.pu T ?_
 refine AO.nil ?_
 refine AW.block ?_
 refine AW.loopS (fun s : Nat × (List Int) => (⟨[(0, .s (List.map encOfficial l)), (3, most), (10, .R 1), (30, .R 2), (31, (x7.length : Int)), (32, (s.1 : Int))], [(1, .row 1 (List.map encInt s.2)), (2, .row 1 (List.map encInt x7))], 62, []⟩ : St)) (fun s => s.1 ≤ x7.length ∧ spec_LargestPanel_l1 l most (x7.drop s.1) s.1 s.2 = some r) (fun s => x7.length - s.1) (0, (List.replicate (21 : Int).toNat (0 : Int))) ⟨Nat.zero_le _, hH⟩ ?_ ?_
 exact Le.ct 0 0
 rintro ⟨k9, v28⟩ ⟨hk, hH⟩
 replace hH : spec_LargestPanel_l1 l most (x7.drop k9) k9 v28 = some r := hH
 try dsimp only
 refine AW.boundR (id := 2) (l := x7) rfl (fun hb13 => ?_)
 rcases hd12 : x7.drop k9 with _ | ⟨y10, ys11⟩
 rw [hd12, spec_LargestPanel_l1] at hH
 have hlt14 := drop_ge hd12
 refine AW.seq (AW.region ?_)
 refine AO.pu T ?_
 refine AO.nil (AW.seq ?_)
 refine AW.condF' (b := decide ((k9 : Int) < (x7.length : Int))) rfl (rngF hlt14) ?_
 refine AW.exit ?_
 refine AW.seq (AW.region ?_)
 refine AO.pu T ?_
 refine AO.nil ?_
 iterate 2 refine AW.seq ?_
 refine AW.region ?_
 refine AO.pu T ?_
 refine AO.val rfl rfl (len_row_ok T rfl rfl rfl rfl) ?_
 refine AO.pu T ?_
 refine AO.nil ?_
 refine AW.block ?_
 refine AW.loopS (fun s : Nat × Int => (⟨[(3, most), (13, s.2), (49, .R 1), (50, (v28.length : Int)), (51, (s.1 : Int))], [(1, .row 1 (List.map encInt v28))], 62, []⟩ : St)) (fun s => s.1 ≤ v28.length ∧ spec_LargestPanel_l2 most (v28.drop s.1) s.1 s.2 = some r) (fun s => v28.length - s.1) (0, 0) ⟨Nat.zero_le _, hH⟩ ?_ ?_
 exact Le.ct 0 0
 rintro ⟨k30, v41⟩ ⟨hk, hH⟩
 replace hH : spec_LargestPanel_l2 most (v28.drop k30) k30 v41 = some r := hH
 try dsimp only
 refine AW.boundR (id := 1) (l := v28) rfl (fun hb34 => ?_)
 rcases hd33 : v28.drop k30 with _ | ⟨y31, ys32⟩
 rw [hd33, spec_LargestPanel_l2] at hH
 have hlt35 := drop_ge hd33
 refine AW.seq (AW.region ?_)
 refine AO.pu T ?_
 refine AO.nil (AW.seq ?_)
 refine AW.condF' (b := decide ((k30 : Int) < (v28.length : Int))) rfl (rngF hlt35) ?_
 refine AW.exit ?_
 refine AW.seq (AW.region ?_)
 iterate 3 refine AO.pu T ?_
 refine AO.nil (AW.ret ?_)
 have hR := someE hH; subst hR
 exact retQ.i [] rfl (.t (expLG_cons (.c .v) (expLG_cons (.c .v) (expLG_nil))))
 rw [hd33, spec_LargestPanel_l2] at hH
 have hlt35 := drop_lt hd33
 refine AW.seq (AW.region ?_)
 refine AO.pu T ?_
 refine AO.nil (AW.seq ?_)
 refine AW.condT' (b := decide ((k30 : Int) < (v28.length : Int))) rfl (rngT hlt35) ?_
 refine AW.skip ?_
 refine AW.seq ?_
 refine AW.block ?_
 refine AW.seq (AW.region ?_)
 refine AO.val rfl rfl (ix_row_ok T rfl rfl rfl rfl rfl rfl (getI_drop hd33)) ?_
 refine AO.val rfl rfl (load_row_ok T rfl rfl rfl rfl (getI_get (getI_drop hd33)) rfl rfl rfl) ?_
 refine AO.pu T ?_
 refine AO.nil ?_
 obtain ⟨x43, hx44, hH⟩ := bindE hH
 refine AW.region ?_
 iterate 3 refine AO.pu T ?_
 refine AO.val rfl rfl (callV_ok rfl rfl rfl rfl (spec_l1Least_ok _ _ _ (hx44)) rfl) ?_
 refine AO.val rfl rfl (arw_ok rfl rfl rfl rfl) ?_
 refine AO.pu T ?_
 refine AO.nil ?_
 refine AW.region ?_
 refine AO.val rfl rfl (ar_ok rfl rfl rfl rfl (inI_succ hlt35 hb34)) ?_
 refine AO.pu T ?_
 refine AO.nil ?_
 refine ⟨(k30 + 1, w64 (v41 + x43)), ⟨Nat.succ_le_of_lt hlt35, (by rw [drop_succ_of hd33]; exact hH)⟩, (by have := hlt35; dsimp only; omega), ?_⟩
 exact Le.ct 0 0
 rw [hd12, spec_LargestPanel_l1] at hH
 have hlt14 := drop_lt hd12
 refine AW.seq (AW.region ?_)
 refine AO.pu T ?_
 refine AO.nil (AW.seq ?_)
 refine AW.condT' (b := decide ((k9 : Int) < (x7.length : Int))) rfl (rngT hlt14) ?_
 refine AW.skip ?_
 refine AW.seq ?_
 refine AW.block ?_
 refine AW.seq (AW.region ?_)
 refine AO.val rfl rfl (ix_row_ok T rfl rfl rfl rfl rfl rfl (getI_drop hd12)) ?_
 refine AO.val rfl rfl (load_row_ok T rfl rfl rfl rfl (getI_get (getI_drop hd12)) rfl rfl rfl) ?_
 refine AO.pu T ?_
 refine AO.nil ?_
 obtain ⟨x45, hx46, hH⟩ := bindE hH
 obtain ⟨x47, hx48, hH⟩ := bindE hH
 obtain ⟨x49, hx50, hH⟩ := bindE hH
 refine AW.region ?_
 iterate 4 refine AO.pu T ?_
 refine AO.val rfl rfl (callV_ok rfl rfl rfl rfl (spec_paFind_ok _ _ _ (hx46)) rfl) ?_
 refine AO.val rfl rfl (ix_map_ok T rfl rfl rfl rfl rfl (hx48) rfl) ?_
 iterate 2 refine AO.pu T ?_
 refine AO.val rfl rfl (ix_row_ok T rfl rfl rfl rfl rfl rfl (hx50)) ?_
 refine AO.val rfl rfl (load_row_ok T rfl rfl rfl rfl (getI_get (hx50)) rfl rfl rfl) ?_
 refine AO.val rfl rfl (arw_ok rfl rfl rfl rfl) ?_
 refine AO.val rfl rfl (ix_row_ok T rfl rfl rfl rfl rfl rfl (hx50)) ?_
 refine AO.step rfl (store_row_ok T rfl rfl rfl rfl rfl (getI_get (hx50)) rfl rfl rfl rfl (u' := w64 (x49 + 1)) rfl rfl) ?_
 refine AO.nil ?_
 refine AW.region ?_
 refine AO.val rfl rfl (ar_ok rfl rfl rfl rfl (inI_succ hlt14 hb13)) ?_
 refine AO.pu T ?_
 refine AO.nil ?_
 refine ⟨(k9 + 1, (v28.set x47.club.toNat (w64 (x49 + 1)))), ⟨Nat.succ_le_of_lt hlt14, (by rw [drop_succ_of hd12]; exact hH)⟩, (by have := hlt14; dsimp only; omega), ?_⟩
 exact Le.ct 0 0

def laws_sameInts_l1 (b : List Int) : List Int → Nat → Option Bool
  | [], k1 =>
    some true
  | y2 :: ys3, k1 =>
    (getI b (k1 : Int)).bind fun x12 =>
    cond (y2 != x12)
      (some false)
      (laws_sameInts_l1 b ys3 (k1 + 1))
def laws_sameInts_p (a : List Int) (b : List Int) : Option Bool :=
  cond ((a.length : Int) != (b.length : Int))
    (some false)
    (laws_sameInts_l1 b a 0)
theorem laws_sameInts_ok (a : List Int) (b : List Int) (r : Bool) (hH : laws_sameInts_p a b = some r) : SpecR Try.prog 10 [.s (List.map encInt a), .s (List.map encInt b)] (.v (.bool r)) := by
 refine fn_ok T Try.func10 rfl (by decide) rfl ?_
 refine AW.seq (AW.region ?_)
 refine AO.pu T ?_
 refine AO.nil ?_
 iterate 2 refine AW.seq ?_
 refine AW.region ?_
 refine AO.pu T ?_
 refine AO.val rfl rfl (len_map_ok T rfl rfl rfl) ?_
 refine AO.pu T ?_
 refine AO.val rfl rfl (len_map_ok T rfl rfl rfl) ?_
 refine AO.pu T ?_
 refine AO.nil ?_
 refine AW.cond (b := ((a.length : Int) != (b.length : Int))) rfl (fun hc => ?_) (fun hc => ?_)
 replace hH := condT hc hH
 refine AW.seq (AW.region ?_)
 refine AO.pu T ?_
 refine AO.nil (AW.ret ?_)
 have hR := someE hH; subst hR
 exact retQ.i [] rfl (.c (.c .v))
 replace hH := condF hc hH
 refine AW.skip ?_
 iterate 2 refine AW.seq ?_
 refine AW.region ?_
 refine AO.pu T ?_
 refine AO.val rfl rfl (len_map_ok T rfl rfl rfl) ?_
 refine AO.pu T ?_
 refine AO.nil ?_
 refine AW.block ?_
 refine AW.loopS (fun s : Nat => (⟨[(0, .s (List.map encInt a)), (1, .s (List.map encInt b)), (12, (a.length : Int)), (13, (s : Int))], [], 26, []⟩ : St)) (fun s => s ≤ a.length ∧ laws_sameInts_l1 b (a.drop s) s = some r) (fun s => a.length - s) 0 ⟨Nat.zero_le _, hH⟩ ?_ ?_
 exact Le.ct 0 0
 rintro k1 ⟨hk, hH⟩
 replace hH : laws_sameInts_l1 b (a.drop k1) k1 = some r := hH
 try dsimp only
 refine AW.boundM (t := 0) (l := a) rfl (fun hb5 => ?_)
 rcases hd4 : a.drop k1 with _ | ⟨y2, ys3⟩
 rw [hd4, laws_sameInts_l1] at hH
 have hlt6 := drop_ge hd4
 refine AW.seq (AW.region ?_)
 refine AO.pu T ?_
 refine AO.nil (AW.seq ?_)
 refine AW.condF' (b := decide ((k1 : Int) < (a.length : Int))) rfl (rngF hlt6) ?_
 refine AW.exit ?_
 refine AW.seq (AW.region ?_)
 refine AO.pu T ?_
 refine AO.nil (AW.ret ?_)
 have hR := someE hH; subst hR
 exact retQ.i [] rfl (.c (.c .v))
 rw [hd4, laws_sameInts_l1] at hH
 have hlt6 := drop_lt hd4
 refine AW.seq (AW.region ?_)
 refine AO.pu T ?_
 refine AO.nil (AW.seq ?_)
 refine AW.condT' (b := decide ((k1 : Int) < (a.length : Int))) rfl (rngT hlt6) ?_
 refine AW.skip ?_
 refine AW.seq ?_
 refine AW.block ?_
 refine AW.seq (AW.region ?_)
 iterate 2 refine AO.pu T ?_
 refine AO.nil (AW.seq ?_)
 obtain ⟨x12, hx13, hH⟩ := bindE hH
 refine AW.drawn 8 1 [] mix (by kernel_rfl) rfl ?_
 iterate 2 refine AD.pure T rfl rfl rfl ?_
 refine AD.val rfl rfl (ix_map_ok T rfl rfl rfl rfl rfl (getI_drop hd4) rfl) ?_
 iterate 3 refine AD.pure T rfl rfl rfl ?_
 refine AD.val rfl rfl (ix_map_ok T rfl rfl rfl rfl rfl (hx13) rfl) ?_
 refine AD.pure T rfl rfl rfl ?_
 refine AD.nil ?_
 refine AO.pu T ?_
 refine AO.nil ?_
 refine AW.cond (b := (y2 != x12)) rfl (fun hc => ?_) (fun hc => ?_)
 replace hH := condT hc hH
 refine AW.seq (AW.region ?_)
 refine AO.pu T ?_
 refine AO.nil (AW.ret ?_)
 have hR := someE hH; subst hR
 exact retQ.i [] rfl (.c (.c .v))
 replace hH := condF hc hH
 refine AW.skip ?_
 refine AW.region ?_
 refine AO.val rfl rfl (ar_ok rfl rfl rfl rfl (inI_succ hlt6 hb5)) ?_
 refine AO.pu T ?_
 refine AO.nil ?_
 refine ⟨k1 + 1, ⟨Nat.succ_le_of_lt hlt6, (by rw [drop_succ_of hd4]; exact hH)⟩, (by have := hlt6; dsimp only; omega), ?_⟩
 exact Le.ct 0 0

def slices_Max_int_l1 (x : List Int) : Nat → Int → Int → Option Int
  | 0, _, _ => none
  | k3 + 1, v10, v11 =>
    cond (decide (v11 < (x.length : Int)))
      ((getI x v11).bind fun x13 =>
      slices_Max_int_l1 x k3 (max v10 x13) (w64 (v11 + 1)))
      (some v10)
def slices_Max_int_p (fuel : Nat) (x : List Int) : Option Int :=
  cond (decide ((x.length : Int) < 1))
    (none)
    ((getI x 0).bind fun x1 =>
    slices_Max_int_l1 x fuel x1 1)
theorem slices_Max_int_ok (fuel : Nat) (x : List Int) (r : Int) (hH : slices_Max_int_p fuel x = some r) : SpecR Try.prog 69 [.s (List.map encInt x)] (.v (.int .i64 r)) := by
 refine fn_ok T Try.func69 rfl (by decide) rfl ?_
 refine AW.seq (AW.region ?_)
 refine AO.pu T ?_
 refine AO.nil ?_
 iterate 2 refine AW.seq ?_
 refine AW.region ?_
 refine AO.pu T ?_
 refine AO.val rfl rfl (len_map_ok T rfl rfl rfl) ?_
 refine AO.pu T ?_
 refine AO.nil ?_
 refine AW.cond (b := decide ((x.length : Int) < 1)) rfl (fun hc => ?_) (fun hc => ?_)
 replace hH := condT hc hH
 cases hH
 replace hH := condF hc hH
 refine AW.skip ?_
 refine AW.seq ?_
 obtain ⟨x1, hx2, hH⟩ := bindE hH
 refine AW.region ?_
 refine AO.pu T ?_
 refine AO.val rfl rfl (ix_map_ok T rfl rfl rfl rfl rfl (hx2) rfl) ?_
 iterate 2 refine AO.pu T ?_
 refine AO.nil ?_
 iterate 2 refine AW.seq ?_
 refine AW.region ?_
 refine AO.pu T ?_
 refine AO.nil ?_
 refine AW.block ?_
 refine AW.loopS (fun s : Nat × Int × Int => (⟨[(0, .s (List.map encInt x)), (3, s.2.1), (4, s.2.2)], [], 25, []⟩ : St)) (fun s => slices_Max_int_l1 x s.1 s.2.1 s.2.2 = some r) (fun s => s.1) (fuel, x1, 1) hH ?_ ?_
 exact Le.ct 0 0
 rintro ⟨k3, v10, v11⟩ hH
 replace hH : slices_Max_int_l1 x k3 v10 v11 = some r := hH
 try dsimp only
 rcases k3 with _ | k3
 cases (show none = some _ from hH)
 rw [slices_Max_int_l1] at hH
 iterate 2 refine AW.seq ?_
 refine AW.region ?_
 iterate 2 refine AO.pu T ?_
 refine AO.val rfl rfl (len_map_ok T rfl rfl rfl) ?_
 refine AO.pu T ?_
 refine AO.nil ?_
 refine AW.cond (b := decide (v11 < (x.length : Int))) rfl (fun hc => ?_) (fun hc => ?_)
 replace hH := condT hc hH
 refine AW.skip ?_
 refine AW.seq ?_
 refine AW.block ?_
 obtain ⟨x13, hx14, hH⟩ := bindE hH
 refine AW.region ?_
 iterate 3 refine AO.pu T ?_
 refine AO.val rfl rfl (ix_map_ok T rfl rfl rfl rfl rfl (hx14) rfl) ?_
 refine AO.pu T ?_
 refine AO.val rfl rfl (max_ok rfl rfl rfl) ?_
 refine AO.pu T ?_
 refine AO.nil ?_
 refine AW.region ?_
 refine AO.pu T ?_
 refine AO.val rfl rfl (arw_ok rfl rfl rfl rfl) ?_
 refine AO.pu T ?_
 refine AO.nil ?_
 refine ⟨(k3, (max v10 x13), w64 (v11 + 1)), hH, Nat.lt_succ_self _, ?_⟩
 exact Le.ct 0 0
 replace hH := condF hc hH
 refine AW.exit ?_
 refine AW.seq (AW.region ?_)
 iterate 2 refine AO.pu T ?_
 refine AO.nil (AW.ret ?_)
 have hR := someE hH; subst hR
 exact retQ.i [] rfl (.c (.c .v))

def impl_isPanel_l1 (l : List Official) (most : Int) (panel : List Int) (fuel : Nat) (x5 : (List Int)) : List Int → Nat → Option Bool
  | [], k7 =>
    (impl_clubSizes_p l panel).bind fun x18 =>
    (slices_Max_int_p fuel x18).bind fun x20 =>
    some (decide (x20 ≤ most))
  | y8 :: ys9, k7 =>
    (slices_Contains_int_p x5 y8).bind fun x22 =>
    cond (!x22)
      (some false)
      (impl_isPanel_l1 l most panel fuel x5 ys9 (k7 + 1))
def impl_isPanel_p (fuel : Nat) (l : List Official) (clubs : List Int) (level : Int) (most : Int) (panel : List Int) : Option Bool :=
  (impl_within_p (panel.length : Int) 1 9).bind fun x1 =>
  (opt (!(!x1)) default (impl_isIncreasing_p panel 1000)).bind fun x3 =>
  cond ((!x1) || (!x3))
    (some false)
    ((impl_eligible_p l clubs level).bind fun x5 =>
    impl_isPanel_l1 l most panel fuel x5 panel 0)
theorem impl_isPanel_ok (fuel : Nat) (l : List Official) (clubs : List Int) (level : Int) (most : Int) (panel : List Int) (r : Bool) (hH : impl_isPanel_p fuel l clubs level most panel = some r) : SpecR Try.prog 46 [.s (List.map encOfficial l), .s (List.map encInt clubs), level, most, .s (List.map encInt panel)] (.v (.bool r)) := by
 refine fn_ok T Try.func46 rfl (by decide) rfl ?_
 refine AW.seq (AW.region ?_)
 refine AO.pu T ?_
 refine AO.nil ?_
 iterate 2 refine AW.seq ?_
 obtain ⟨x1, hx2, hH⟩ := bindE hH
 obtain ⟨x3, hx4, hH⟩ := bindE hH
 refine AW.region ?_
 refine AO.pu T ?_
 refine AO.val rfl rfl (len_map_ok T rfl rfl rfl) ?_
 refine AO.val rfl rfl (callV_ok rfl rfl rfl rfl (impl_within_ok _ _ _ _ (hx2)) rfl) ?_
 iterate 2 refine AO.pu T ?_
 refine AO.pureG T [] rfl trivial rfl rfl ?_
 refine AO.guard [19] rfl ⟨fun h => h, trivial⟩ (fun hg => callV_ok rfl rfl rfl rfl (impl_isIncreasing_ok _ _ _ (optT hx4 hg)) rfl) rfl ?_
 refine AO.pureG T [20] rfl ⟨fun h => h, trivial⟩ rfl rfl ?_
 refine AO.val rfl rfl (pick_or rfl rfl rfl rfl) ?_
 refine AO.nil ?_
 refine AW.cond (b := ((!x1) || (!x3))) rfl (fun hc => ?_) (fun hc => ?_)
 replace hH := condT hc hH
 refine AW.seq (AW.region ?_)
 refine AO.pu T ?_
 refine AO.nil (AW.ret ?_)
 have hR := someE hH; subst hR
 exact retQ.i [] rfl (.c (.c .v))
 replace hH := condF hc hH
 refine AW.skip ?_
 refine AW.seq ?_
 obtain ⟨x5, hx6, hH⟩ := bindE hH
 refine AW.region ?_
 iterate 3 refine AO.pu T ?_
 refine AO.step rfl (call_ok rfl 1 rfl rfl rfl (impl_eligible_ok _ _ _ _ (hx6)) rfl rfl rfl) ?_
 refine AO.pu T ?_
 refine AO.nil ?_
 iterate 2 refine AW.seq ?_
 refine AW.region ?_
 refine AO.pu T ?_
 refine AO.val rfl rfl (len_map_ok T rfl rfl rfl) ?_
 refine AO.pu T ?_
 refine AO.nil ?_
 refine AW.block ?_
 refine AW.loopS (fun s : Nat => (⟨[(0, .s (List.map encOfficial l)), (3, most), (4, .s (List.map encInt panel)), (11, .R 1), (27, .s (List.map encInt panel)), (28, (panel.length : Int)), (29, (s : Int))], [(1, .row 1 (List.map encInt x5))], 44, []⟩ : St)) (fun s => s ≤ panel.length ∧ impl_isPanel_l1 l most panel fuel x5 (panel.drop s) s = some r) (fun s => panel.length - s) 0 ⟨Nat.zero_le _, hH⟩ ?_ ?_
 exact Le.ct 0 0
 rintro k7 ⟨hk, hH⟩
 replace hH : impl_isPanel_l1 l most panel fuel x5 (panel.drop k7) k7 = some r := hH
 try dsimp only
 refine AW.boundM (t := 4) (l := panel) rfl (fun hb11 => ?_)
 rcases hd10 : panel.drop k7 with _ | ⟨y8, ys9⟩
 rw [hd10, impl_isPanel_l1] at hH
 have hlt12 := drop_ge hd10
 refine AW.seq (AW.region ?_)
 refine AO.pu T ?_
 refine AO.nil (AW.seq ?_)
 refine AW.condF' (b := decide ((k7 : Int) < (panel.length : Int))) rfl (rngF hlt12) ?_
 refine AW.exit ?_
 refine AW.seq ?_
 obtain ⟨x18, hx19, hH⟩ := bindE hH
 obtain ⟨x20, hx21, hH⟩ := bindE hH
 refine AW.region ?_
 iterate 2 refine AO.pu T ?_
 refine AO.step rfl (call_ok rfl 2 rfl rfl rfl (impl_clubSizes_ok _ _ _ (hx19)) rfl rfl rfl) ?_
 refine AO.val rfl rfl (callLV_ok rfl rfl rfl (es := [.s (List.map encInt x18)]) ⟨(.rowR rfl (.map fun y => .vs rfl)), trivial⟩ (slices_Max_int_ok fuel _ _ (hx21)) (zfree_v _) rfl) ?_
 iterate 3 refine AO.pu T ?_
 refine AO.nil (AW.ret ?_)
 have hR := someE hH; subst hR
 exact retQ.i [] rfl (.c (.c .v))
 rw [hd10, impl_isPanel_l1] at hH
 have hlt12 := drop_lt hd10
 refine AW.seq (AW.region ?_)
 refine AO.pu T ?_
 refine AO.nil (AW.seq ?_)
 refine AW.condT' (b := decide ((k7 : Int) < (panel.length : Int))) rfl (rngT hlt12) ?_
 refine AW.skip ?_
 refine AW.seq ?_
 refine AW.block ?_
 refine AW.seq (AW.region ?_)
 refine AO.val rfl rfl (ix_map_ok T rfl rfl rfl rfl rfl (getI_drop hd10) rfl) ?_
 iterate 2 refine AO.pu T ?_
 refine AO.nil (AW.seq ?_)
 obtain ⟨x22, hx23, hH⟩ := bindE hH
 refine AW.region ?_
 iterate 2 refine AO.pu T ?_
 refine AO.val rfl rfl (callLV_ok rfl rfl rfl (es := [.s (List.map encInt x5), y8]) ⟨(.rowR rfl (.map fun y => .vs rfl)), .free rfl, trivial⟩ (slices_Contains_int_ok _ _ _ (hx23)) (zfree_v _) rfl) ?_
 refine AO.pu T ?_
 refine AO.nil ?_
 refine AW.cond (b := (!x22)) rfl (fun hc => ?_) (fun hc => ?_)
 replace hH := condT hc hH
 refine AW.seq (AW.region ?_)
 refine AO.pu T ?_
 refine AO.nil (AW.ret ?_)
 have hR := someE hH; subst hR
 exact retQ.i [] rfl (.c (.c .v))
 replace hH := condF hc hH
 refine AW.skip ?_
 refine AW.region ?_
 refine AO.val rfl rfl (ar_ok rfl rfl rfl rfl (inI_succ hlt12 hb11)) ?_
 refine AO.pu T ?_
 refine AO.nil ?_
 refine ⟨k7 + 1, ⟨Nat.succ_le_of_lt hlt12, (by rw [drop_succ_of hd10]; exact hH)⟩, (by have := hlt12; dsimp only; omega), ?_⟩
 exact Le.ct 0 0

def impl_IsPanel_p (fuel : Nat) (l : List Official) (clubs : List Int) (level : Int) (most : Int) (panel : List Int) : Option (Bool × Bool) :=
  (impl_canPanel_p l clubs level most).bind fun x1 =>
  cond (!x1)
    (some (false, false))
    ((impl_isPanel_p fuel l clubs level most panel).bind fun x3 =>
    some (x3, true))
theorem impl_IsPanel_ok (fuel : Nat) (l : List Official) (clubs : List Int) (level : Int) (most : Int) (panel : List Int) (r : (Bool × Bool)) (hH : impl_IsPanel_p fuel l clubs level most panel = some r) : SpecR Try.prog 11 [.s (List.map encOfficial l), .s (List.map encInt clubs), level, most, .s (List.map encInt panel)] (.t [.v (.bool r.1), .v (.bool r.2)]) := by
 refine fn_ok T Try.func11 rfl (by decide) rfl ?_
 refine AW.seq (AW.region ?_)
 iterate 2 refine AO.pu T ?_
 refine AO.nil ?_
 iterate 2 refine AW.seq ?_
 obtain ⟨x1, hx2, hH⟩ := bindE hH
 refine AW.region ?_
 iterate 4 refine AO.pu T ?_
 refine AO.val rfl rfl (callV_ok rfl rfl rfl rfl (impl_canPanel_ok _ _ _ _ _ (hx2)) rfl) ?_
 refine AO.pu T ?_
 refine AO.nil ?_
 refine AW.cond (b := (!x1)) rfl (fun hc => ?_) (fun hc => ?_)
 replace hH := condT hc hH
 refine AW.seq (AW.region ?_)
 iterate 2 refine AO.pu T ?_
 refine AO.nil (AW.ret ?_)
 have hR := someE hH; subst hR
 exact retQ.i [] rfl (.t (expLG_cons (.c .v) (expLG_cons (.c .v) (expLG_nil))))
 replace hH := condF hc hH
 refine AW.skip ?_
 refine AW.seq ?_
 obtain ⟨x3, hx4, hH⟩ := bindE hH
 refine AW.region ?_
 iterate 5 refine AO.pu T ?_
 refine AO.val rfl rfl (callV_ok rfl rfl rfl rfl (impl_isPanel_ok fuel _ _ _ _ _ _ (hx4)) rfl) ?_
 iterate 2 refine AO.pu T ?_
 refine AO.nil (AW.ret ?_)
 have hR := someE hH; subst hR
 exact retQ.i [] rfl (.t (expLG_cons (.c .v) (expLG_cons (.c .v) (expLG_nil))))

def impl_choose_l1 (n : Int) (k : Int) : Nat → Int → Int → Option Int
  | 0, _, _ => none
  | k1 + 1, v8, v9 =>
    cond (decide (v9 < k))
      ((need ((w64 (v9 + 1)) != 0)).bind fun u11 =>
      impl_choose_l1 n k k1 (w64 ((w64 (v8 * (w64 (n - v9)))).tdiv (w64 (v9 + 1)))) (w64 (v9 + 1)))
      (some v8)
def impl_choose_p (fuel : Nat) (n : Int) (k : Int) : Option Int :=
  impl_choose_l1 n k fuel 1 0
theorem impl_choose_ok (fuel : Nat) (n : Int) (k : Int) (r : Int) (hH : impl_choose_p fuel n k = some r) : SpecR Try.prog 47 [n, k] (.v (.int .i64 r)) := by
 refine fn_ok T Try.func47 rfl (by decide) rfl ?_
 refine AW.seq (AW.region ?_)
 refine AO.pu T ?_
 refine AO.nil (AW.seq ?_)
 refine AW.region ?_
 refine AO.pu T ?_
 refine AO.nil ?_
 iterate 2 refine AW.seq ?_
 refine AW.region ?_
 iterate 2 refine AO.pu T ?_
 refine AO.nil ?_
 refine AW.block ?_
 refine AW.loopS (fun s : Nat × Int × Int => (⟨[(0, n), (5, s.2.1), (7, k), (8, s.2.2)], [], 21, []⟩ : St)) (fun s => impl_choose_l1 n k s.1 s.2.1 s.2.2 = some r) (fun s => s.1) (fuel, 1, 0) hH ?_ ?_
 exact Le.ct 0 0
 rintro ⟨k1, v8, v9⟩ hH
 replace hH : impl_choose_l1 n k k1 v8 v9 = some r := hH
 try dsimp only
 rcases k1 with _ | k1
 cases (show none = some _ from hH)
 rw [impl_choose_l1] at hH
 refine AW.seq (AW.region ?_)
 refine AO.pu T ?_
 refine AO.nil (AW.seq ?_)
 refine AW.cond (b := decide (v9 < k)) rfl (fun hc => ?_) (fun hc => ?_)
 replace hH := condT hc hH
 refine AW.skip ?_
 refine AW.seq ?_
 refine AW.block ?_
 refine AW.seq (AW.region ?_)
 iterate 2 refine AO.pu T ?_
 refine AO.nil ?_
 obtain ⟨u11, hx12, hH⟩ := bindE hH
 refine AW.region ?_
 iterate 3 refine AO.pu T ?_
 iterate 2 refine AO.val rfl rfl (arw_ok rfl rfl rfl rfl) ?_
 refine AO.pu T ?_
 refine AO.val rfl rfl (arw_ok rfl rfl rfl rfl) ?_
 refine AO.val rfl rfl (quow_ok rfl rfl rfl (neZ (needT (hx12)))) ?_
 refine AO.pu T ?_
 refine AO.nil ?_
 refine AW.region ?_
 refine AO.val rfl rfl (arw_ok rfl rfl rfl rfl) ?_
 refine AO.pu T ?_
 refine AO.nil ?_
 refine ⟨(k1, w64 ((w64 (v8 * (w64 (n - v9)))).tdiv (w64 (v9 + 1))), w64 (v9 + 1)), hH, Nat.lt_succ_self _, ?_⟩
 exact Le.ct 0 0
 replace hH := condF hc hH
 refine AW.exit ?_
 refine AW.seq (AW.region ?_)
 iterate 2 refine AO.pu T ?_
 refine AO.nil (AW.ret ?_)
 have hR := someE hH; subst hR
 exact retQ.i [] rfl (.c (.c .v))

def impl_CountPanels_l3 (most : Int) (n : Int) (fuel : Nat) (y14 : Int) (k646 : Nat) (y647 : Int) : Nat → List Int → Int → Option (List Int)
  | 0, _, _ => none
  | k749 + 1, v760, v761 =>
    cond (decide (v761 ≤ (min (min y14 most) (w64 (n - (k646 : Int))))))
      ((getI v760 (w64 ((k646 : Int) + v761))).bind fun x763 =>
      (impl_choose_p fuel y14 v761).bind fun x765 =>
      impl_CountPanels_l3 most n fuel y14 k646 y647 k749 (v760.set ((w64 ((k646 : Int) + v761)).toNat) (w64 (x763 + (w64 (y647 * x765))))) (w64 (v761 + 1)))
      (some v760)
def impl_CountPanels_l2 (most : Int) (n : Int) (fuel : Nat) (y14 : Int) : List Int → Nat → List Int → Option (List Int)
  | [], k646, v727 =>
    some v727
  | y647 :: ys648, k646, v727 =>
    (impl_CountPanels_l3 most n fuel y14 k646 y647 fuel v727 0).bind fun v746 =>
    impl_CountPanels_l2 most n fuel y14 ys648 (k646 + 1) v746
def impl_CountPanels_l1 (most : Int) (n : Int) (fuel : Nat) : List Int → Nat → List Int → Option ((Int × Bool))
  | [], k13, v520 =>
    (getI v520 n).bind fun x522 =>
    some (x522, true)
  | y14 :: ys15, k13, v520 =>
    (impl_CountPanels_l2 most n fuel y14 v520 0 (List.replicate (w64 (n + 1)).toNat (0 : Int))).bind fun v643 =>
    impl_CountPanels_l1 most n fuel ys15 (k13 + 1) v643
def impl_CountPanels_p (fuel : Nat) (l : List Official) (clubs : List Int) (level : Int) (most : Int) (n : Int) : Option (Int × Bool) :=
  (impl_canPanel_p l clubs level most).bind fun x1 =>
  (opt (!((!x1) || decide ((l.length : Int) > 14))) default (impl_isPanelSize_p n)).bind fun x3 =>
  cond (((!x1) || decide ((l.length : Int) > 14)) || (!x3))
    (some (0, false))
    ((need (decide (0 ≤ (w64 (n + 1))) && fitsB 8 (w64 (n + 1)).toNat)).bind fun u5 =>
    (getI (List.replicate (w64 (n + 1)).toNat (0 : Int)) 0).bind fun x7 =>
    (impl_eligible_p l clubs level).bind fun x9 =>
    (impl_clubSizes_p l x9).bind fun x11 =>
    impl_CountPanels_l1 most n fuel x11 0 ((List.replicate (w64 (n + 1)).toNat (0 : Int)).set ((0 : Int).toNat) 1))
theorem impl_CountPanels_ok (fuel : Nat) (l : List Official) (clubs : List Int) (level : Int) (most : Int) (n : Int) (r : (Int × Bool)) (hH : impl_CountPanels_p fuel l clubs level most n = some r) : SpecR Try.prog 12 [.s (List.map encOfficial l), .s (List.map encInt clubs), level, most, n] (.t [.v (.int .i64 r.1), .v (.bool r.2)]) := by
 refine fn_ok T Try.func12 rfl (by decide) rfl ?_
 refine AW.seq (AW.region ?_)
 iterate 2 refine AO.pu T ?_
 refine AO.nil ?_
 iterate 2 refine AW.seq ?_
 obtain ⟨x1, hx2, hH⟩ := bindE hH
 obtain ⟨x3, hx4, hH⟩ := bindE hH
 refine AW.region ?_
 iterate 4 refine AO.pu T ?_
 refine AO.val rfl rfl (callV_ok rfl rfl rfl rfl (impl_canPanel_ok _ _ _ _ _ (hx2)) rfl) ?_
 iterate 2 refine AO.pu T ?_
 refine AO.pureG T [] rfl trivial rfl rfl ?_
 refine AO.guard [26] rfl ⟨fun h => h, trivial⟩ (fun hg => len_map_ok T rfl rfl rfl) rfl ?_
 refine AO.pureG T [27] rfl ⟨fun h => h, trivial⟩ rfl rfl ?_
 refine AO.val rfl rfl (pick_or rfl rfl rfl rfl) ?_
 refine AO.pu T ?_
 refine AO.pureG T [] rfl trivial rfl rfl ?_
 refine AO.guard [31] rfl ⟨fun h => h, trivial⟩ (fun hg => callV_ok rfl rfl rfl rfl (impl_isPanelSize_ok _ _ (optT hx4 hg)) rfl) rfl ?_
 refine AO.pureG T [32] rfl ⟨fun h => h, trivial⟩ rfl rfl ?_
 refine AO.val rfl rfl (pick_or rfl rfl rfl rfl) ?_
 refine AO.nil ?_
 refine AW.cond (b := (((!x1) || decide ((l.length : Int) > 14)) || (!x3))) rfl (fun hc => ?_) (fun hc => ?_)
 replace hH := condT hc hH
 refine AW.seq (AW.region ?_)
 iterate 2 refine AO.pu T ?_
 refine AO.nil (AW.ret ?_)
 have hR := someE hH; subst hR
 exact retQ.i [] rfl (.t (expLG_cons (.c .v) (expLG_cons (.c .v) (expLG_nil))))
 replace hH := condF hc hH
 refine AW.skip ?_
 refine AW.seq ?_
 obtain ⟨u5, hx6, hH⟩ := bindE hH
 refine AW.region ?_
 refine AO.pu T ?_
 refine AO.val rfl rfl (arw_ok rfl rfl rfl rfl) ?_
 refine AO.step rfl (make_map_ok T rfl 1 rfl rfl rfl rfl rfl (f := encInt) (zo := 0) (by repeat constructor) (by decide) rfl rfl (Bool.and_eq_true_iff.1 (needT (hx6))).1 (Bool.and_eq_true_iff.1 (needT (hx6))).2 rfl rfl) ?_
 refine AO.pu T ?_
 refine AO.nil (AW.seq ?_)
 obtain ⟨x7, hx8, hH⟩ := bindE hH
 refine AW.region ?_
 refine AO.pu T ?_
 refine AO.val rfl rfl (ix_row_ok T rfl rfl rfl rfl rfl rfl (hx8)) ?_
 refine AO.step rfl (store_row_ok T rfl rfl rfl rfl rfl (getI_get (hx8)) rfl rfl rfl rfl (u' := 1) rfl rfl) ?_
 refine AO.nil ?_
 refine AW.le (Le.ct 0 0 (σ' := (⟨[(0, .s (List.map encOfficial l)), (1, .s (List.map encInt clubs)), (2, level), (3, most), (4, n), (12, .R 1)], [(1, .row 1 (List.map encInt ((List.replicate (w64 (n + 1)).toNat (0 : Int)).set ((0 : Int).toNat) 1)))], 91, []⟩ : St))) ?_
 iterate 2 refine AW.seq ?_
 obtain ⟨x9, hx10, hH⟩ := bindE hH
 obtain ⟨x11, hx12, hH⟩ := bindE hH
 refine AW.region ?_
 iterate 4 refine AO.pu T ?_
 refine AO.step rfl (call_ok rfl 2 rfl rfl rfl (impl_eligible_ok _ _ _ _ (hx10)) rfl rfl rfl) ?_
 refine AO.step rfl (callL_ok rfl 3 rfl rfl (es := [.s (List.map encOfficial l), .s (List.map encInt x9)]) (by exact ⟨.free rfl, (.rowR rfl (.map fun y => .vs rfl)), trivial⟩) (impl_clubSizes_ok _ _ _ (hx12)) (zfree_map (fun y => (.cons (zfree_v _) .nil))) rfl rfl rfl) ?_
 refine AO.val rfl rfl (len_row_ok T rfl rfl rfl rfl) ?_
 refine AO.pu T ?_
 refine AO.nil ?_
 refine AW.block ?_
 refine AW.loopS (fun s : Nat × (List Int) => (⟨[(3, most), (4, n), (12, .R 1), (45, .R 3), (46, (x11.length : Int)), (47, (s.1 : Int))], [(1, .row 1 (List.map encInt s.2)), (3, .row 1 (List.map encInt x11))], 91, []⟩ : St)) (fun s => s.1 ≤ x11.length ∧ impl_CountPanels_l1 most n fuel (x11.drop s.1) s.1 s.2 = some r) (fun s => x11.length - s.1) (0, ((List.replicate (w64 (n + 1)).toNat (0 : Int)).set ((0 : Int).toNat) 1)) ⟨Nat.zero_le _, hH⟩ ?_ ?_
 exact Le.ct 0 0
 rintro ⟨k13, v520⟩ ⟨hk, hH⟩
 replace hH : impl_CountPanels_l1 most n fuel (x11.drop k13) k13 v520 = some r := hH
 try dsimp only
 refine AW.boundR (id := 3) (l := x11) rfl (fun hb17 => ?_)
 rcases hd16 : x11.drop k13 with _ | ⟨y14, ys15⟩
 rw [hd16, impl_CountPanels_l1] at hH
 have hlt18 := drop_ge hd16
 refine AW.seq (AW.region ?_)
 refine AO.pu T ?_
 refine AO.nil (AW.seq ?_)
 refine AW.condF' (b := decide ((k13 : Int) < (x11.length : Int))) rfl (rngF hlt18) ?_
 refine AW.exit ?_
 refine AW.seq ?_
 obtain ⟨x522, hx523, hH⟩ := bindE hH
 refine AW.region ?_
 iterate 2 refine AO.pu T ?_
 refine AO.val rfl rfl (ix_row_ok T rfl rfl rfl rfl rfl rfl (hx523)) ?_
 refine AO.val rfl rfl (load_row_ok T rfl rfl rfl rfl (getI_get (hx523)) rfl rfl rfl) ?_
 iterate 2 refine AO.pu T ?_
 refine AO.nil (AW.ret ?_)
 have hR := someE hH; subst hR
 exact retQ.i [] rfl (.t (expLG_cons (.c .v) (expLG_cons (.c .v) (expLG_nil))))
 rw [hd16, impl_CountPanels_l1] at hH
 have hlt18 := drop_lt hd16
 refine AW.seq (AW.region ?_)
 refine AO.pu T ?_
 refine AO.nil (AW.seq ?_)
 refine AW.condT' (b := decide ((k13 : Int) < (x11.length : Int))) rfl (rngT hlt18) ?_
 refine AW.skip ?_
 obtain ⟨o644, hH, hK645⟩ := bindE hH
 refine AW.seqJ (fun s : List Int => (⟨[(3, most), (4, n), (12, .R 8), (45, .R 3), (46, (x11.length : Int)), (47, (k13 : Int))], [(3, .row 1 (List.map encInt x11)), (8, .row 1 (List.map encInt s))], 91, []⟩ : St)) (fun s => s = o644) ?_ ?_
 refine AW.block ?_
 refine AW.seq (AW.region ?_)
 refine AO.val rfl rfl (ix_row_ok T rfl rfl rfl rfl rfl rfl (getI_drop hd16)) ?_
 refine AO.val rfl rfl (load_row_ok T rfl rfl rfl rfl (getI_get (getI_drop hd16)) rfl rfl rfl) ?_
 refine AO.pu T ?_
 refine AO.nil (AW.seq ?_)
 refine AW.region ?_
 refine AO.pu T ?_
 refine AO.val rfl rfl (arw_ok rfl rfl rfl rfl) ?_
 refine AO.step rfl (make_map_ok T rfl 9 rfl rfl rfl rfl rfl (f := encInt) (zo := 0) (by repeat constructor) (by decide) rfl rfl (Bool.and_eq_true_iff.1 (needT (hx6))).1 (Bool.and_eq_true_iff.1 (needT (hx6))).2 rfl rfl) ?_
 refine AO.pu T ?_
 refine AO.nil ?_
 iterate 2 refine AW.seq ?_
 refine AW.region ?_
 refine AO.pu T ?_
 refine AO.val rfl rfl (len_row_ok T rfl rfl rfl rfl) ?_
 refine AO.pu T ?_
 refine AO.nil ?_
 refine AW.block ?_
 refine AW.loopS (fun s : Nat × (List Int) => (⟨[(3, most), (4, n), (14, y14), (15, .R 9), (45, .R 3), (46, (x11.length : Int)), (47, (k13 : Int)), (54, .R 1), (55, (v520.length : Int)), (56, (s.1 : Int))], [(1, .row 1 (List.map encInt v520)), (3, .row 1 (List.map encInt x11)), (9, .row 1 (List.map encInt s.2))], 91, []⟩ : St)) (fun s => s.1 ≤ v520.length ∧ impl_CountPanels_l2 most n fuel y14 (v520.drop s.1) s.1 s.2 = some o644) (fun s => v520.length - s.1) (0, (List.replicate (w64 (n + 1)).toNat (0 : Int))) ⟨Nat.zero_le _, hH⟩ ?_ ?_
 exact Le.ct 0 0
 rintro ⟨k646, v727⟩ ⟨hk, hH⟩
 replace hH : impl_CountPanels_l2 most n fuel y14 (v520.drop k646) k646 v727 = some o644 := hH
 try dsimp only
 refine AW.boundR (id := 1) (l := v520) rfl (fun hb650 => ?_)
 rcases hd649 : v520.drop k646 with _ | ⟨y647, ys648⟩
 rw [hd649, impl_CountPanels_l2] at hH
 have hlt651 := drop_ge hd649
 refine AW.seq (AW.region ?_)
 refine AO.pu T ?_
 refine AO.nil (AW.seq ?_)
 refine AW.condF' (b := decide ((k646 : Int) < (v520.length : Int))) rfl (rngF hlt651) ?_
 refine AW.exit ?_
 refine AW.region ?_
 iterate 2 refine AO.pu T ?_
 refine AO.nil ?_
 refine ⟨_, someE hH, ?_⟩
 exact Le.ct 9 8
 rw [hd649, impl_CountPanels_l2] at hH
 have hlt651 := drop_lt hd649
 refine AW.seq (AW.region ?_)
 refine AO.pu T ?_
 refine AO.nil (AW.seq ?_)
 refine AW.condT' (b := decide ((k646 : Int) < (v520.length : Int))) rfl (rngT hlt651) ?_
 refine AW.skip ?_
 obtain ⟨o747, hH, hK748⟩ := bindE hH
 refine AW.seqJ (fun s : List Int => (⟨[(3, most), (4, n), (14, y14), (15, .R 9), (45, .R 3), (46, (x11.length : Int)), (47, (k13 : Int)), (54, .R 1), (55, (v520.length : Int)), (56, (k646 : Int))], [(1, .row 1 (List.map encInt v520)), (3, .row 1 (List.map encInt x11)), (9, .row 1 (List.map encInt s))], 91, []⟩ : St)) (fun s => s = o747) ?_ ?_
 refine AW.block ?_
 refine AW.seq (AW.region ?_)
 refine AO.pu T ?_
 refine AO.val rfl rfl (ix_row_ok T rfl rfl rfl rfl rfl rfl (getI_drop hd649)) ?_
 refine AO.val rfl rfl (load_row_ok T rfl rfl rfl rfl (getI_get (getI_drop hd649)) rfl rfl rfl) ?_
 iterate 2 refine AO.pu T ?_
 refine AO.nil (AW.seq ?_)
 refine AW.region ?_
 refine AO.pu T ?_
 refine AO.nil ?_
 refine AW.block ?_
 refine AW.loopS (fun s : Nat × (List Int) × Int => (⟨[(3, most), (4, n), (14, y14), (15, .R 9), (16, (k646 : Int)), (17, y647), (18, s.2.2), (45, .R 3), (46, (x11.length : Int)), (47, (k13 : Int)), (54, .R 1), (55, (v520.length : Int)), (56, (k646 : Int))], [(1, .row 1 (List.map encInt v520)), (3, .row 1 (List.map encInt x11)), (9, .row 1 (List.map encInt s.2.1))], 91, []⟩ : St)) (fun s => impl_CountPanels_l3 most n fuel y14 k646 y647 s.1 s.2.1 s.2.2 = some o747) (fun s => s.1) (fuel, v727, 0) hH ?_ ?_
 exact Le.ct 0 0
 rintro ⟨k749, v760, v761⟩ hH
 replace hH : impl_CountPanels_l3 most n fuel y14 k646 y647 k749 v760 v761 = some o747 := hH
 try dsimp only
 rcases k749 with _ | k749
 cases (show none = some _ from hH)
 rw [impl_CountPanels_l3] at hH
 iterate 2 refine AW.seq ?_
 refine AW.region ?_
 iterate 5 refine AO.pu T ?_
 refine AO.val rfl rfl (arw_ok rfl rfl rfl rfl) ?_
 refine AO.val rfl rfl (min3_ok rfl rfl rfl rfl) ?_
 refine AO.pu T ?_
 refine AO.nil ?_
 refine AW.cond (b := decide (v761 ≤ (min (min y14 most) (w64 (n - (k646 : Int)))))) rfl (fun hc => ?_) (fun hc => ?_)
 replace hH := condT hc hH
 refine AW.skip ?_
 refine AW.seq ?_
 refine AW.block ?_
 obtain ⟨x763, hx764, hH⟩ := bindE hH
 obtain ⟨x765, hx766, hH⟩ := bindE hH
 refine AW.drawn 11 10 [] mix (by kernel_rfl) rfl ?_
 iterate 3 refine AD.pure T rfl rfl rfl ?_
 refine AD.val rfl rfl (arw_ok rfl rfl rfl rfl) ?_
 refine AD.val rfl rfl (ix_row_ok T rfl rfl rfl rfl rfl rfl (hx764)) ?_
 refine AD.val rfl rfl (load_row_ok T rfl rfl rfl rfl (getI_get (hx764)) rfl rfl rfl) ?_
 iterate 3 refine AD.pure T rfl rfl rfl ?_
 refine AD.val rfl rfl (callV_ok rfl rfl rfl rfl (impl_choose_ok fuel _ _ _ (hx766)) rfl) ?_
 refine AD.val rfl rfl (arw_ok rfl rfl rfl rfl) ?_
 refine AD.nil ?_
 refine AO.val rfl rfl (arw_ok rfl rfl rfl rfl) ?_
 refine AO.val rfl rfl (ix_row_ok T rfl rfl rfl rfl rfl rfl (hx764)) ?_
 refine AO.step rfl (store_row_ok T rfl rfl rfl rfl rfl (getI_get (hx764)) rfl rfl rfl rfl (u' := w64 (x763 + (w64 (y647 * x765)))) rfl rfl) ?_
 refine AO.nil ?_
 refine AW.region ?_
 refine AO.pu T ?_
 refine AO.val rfl rfl (arw_ok rfl rfl rfl rfl) ?_
 refine AO.pu T ?_
 refine AO.nil ?_
 refine ⟨(k749, (v760.set ((w64 ((k646 : Int) + v761)).toNat) (w64 (x763 + (w64 (y647 * x765))))), w64 (v761 + 1)), hH, Nat.lt_succ_self _, ?_⟩
 exact Le.ct 0 0
 replace hH := condF hc hH
 refine AW.exit ?_
 refine ⟨_, someE hH, ?_⟩
 exact Le.ct 0 0
 rintro v746 hs
 subst hs
 replace hH := hK748
 try dsimp only [flow, flowE] at hH
 try dsimp only
 refine AW.region ?_
 refine AO.val rfl rfl (ar_ok rfl rfl rfl rfl (inI_succ hlt651 hb650)) ?_
 refine AO.pu T ?_
 refine AO.nil ?_
 refine ⟨(k646 + 1, v746), ⟨Nat.succ_le_of_lt hlt651, (by rw [drop_succ_of hd649]; exact hH)⟩, (by have := hlt651; dsimp only; omega), ?_⟩
 exact Le.ct 0 0
 rintro v643 hs
 subst hs
 replace hH := hK645
 try dsimp only [flow, flowE] at hH
 try dsimp only
 refine AW.region ?_
 refine AO.val rfl rfl (ar_ok rfl rfl rfl rfl (inI_succ hlt18 hb17)) ?_
 refine AO.pu T ?_
 refine AO.nil ?_
 refine ⟨(k13 + 1, v643), ⟨Nat.succ_le_of_lt hlt18, (by rw [drop_succ_of hd16]; exact hH)⟩, (by have := hlt18; dsimp only; omega), ?_⟩
 exact Le.ct 8 1

def spec_paIs_l1 (l : List Official) (most : Int) (panel : List Int) (x1 : (List Int)) : List Int → Nat → List Int → Option Bool
  | [], k5, v32 =>
    (spec_l1In_p (panel.length : Int) 1 9).bind fun x34 =>
    (opt x34 default (spec_l1Rising_p panel 1 999)).bind fun x36 =>
    some (x34 && x36)
  | y6 :: ys7, k5, v32 =>
    (spec_l1Has_p x1 y6).bind fun x38 =>
    cond (!x38)
      (some false)
      ((spec_paFind_p l y6).bind fun x40 =>
      (getI l x40).bind fun x42 =>
      (getI v32 x42.club).bind fun x44 =>
      (getI (v32.set x42.club.toNat (w64 (x44 + 1))) x42.club).bind fun x46 =>
      cond (decide (x46 > most))
        (some false)
        (spec_paIs_l1 l most panel x1 ys7 (k5 + 1) (v32.set x42.club.toNat (w64 (x44 + 1)))))
def spec_paIs_p (fuel : Nat) (l : List Official) (clubs : List Int) (level : Int) (most : Int) (panel : List Int) : Option Bool :=
  (spec_paEligible_p fuel l clubs level).bind fun x1 =>
  (need (decide (0 ≤ 21) && fitsB 8 (21 : Int).toNat)).bind fun u3 =>
  spec_paIs_l1 l most panel x1 panel 0 (List.replicate (21 : Int).toNat (0 : Int))
theorem spec_paIs_ok (fuel : Nat) (l : List Official) (clubs : List Int) (level : Int) (most : Int) (panel : List Int) (r : Bool) (hH : spec_paIs_p fuel l clubs level most panel = some r) : SpecR Try.prog 48 [.s (List.map encOfficial l), .s (List.map encInt clubs), level, most, .s (List.map encInt panel)] (.v (.bool r)) := by
 refine fn_ok T Try.func48 rfl (by decide) rfl ?_
 refine AW.seq (AW.region ?_)
 refine AO.pu T ?_
 refine AO.nil (AW.seq ?_)
 obtain ⟨x1, hx2, hH⟩ := bindE hH
 refine AW.region ?_
 iterate 3 refine AO.pu T ?_
 refine AO.step rfl (call_ok rfl 1 rfl rfl rfl (spec_paEligible_ok fuel _ _ _ _ (hx2)) rfl rfl rfl) ?_
 refine AO.pu T ?_
 refine AO.nil (AW.seq ?_)
 obtain ⟨u3, hx4, hH⟩ := bindE hH
 refine AW.region ?_
 refine AO.step rfl (make_map_ok T rfl 2 rfl rfl rfl rfl rfl (f := encInt) (zo := 0) (by repeat constructor) (by decide) rfl rfl (Bool.and_eq_true_iff.1 (needT (hx4))).1 (Bool.and_eq_true_iff.1 (needT (hx4))).2 rfl rfl) ?_
 refine AO.pu T ?_
 refine AO.nil ?_
 iterate 2 refine AW.seq ?_
 refine AW.region ?_
 refine AO.pu T ?_
 refine AO.val rfl rfl (len_map_ok T rfl rfl rfl) ?_
 refine AO.pu T ?_
 refine AO.nil ?_
 refine AW.block ?_
 refine AW.loopS (fun s : Nat × (List Int) => (⟨[(0, .s (List.map encOfficial l)), (3, most), (4, .s (List.map encInt panel)), (11, .R 1), (12, .R 2), (21, .s (List.map encInt panel)), (22, (panel.length : Int)), (23, (s.1 : Int))], [(1, .row 1 (List.map encInt x1)), (2, .row 1 (List.map encInt s.2))], 58, []⟩ : St)) (fun s => s.1 ≤ panel.length ∧ spec_paIs_l1 l most panel x1 (panel.drop s.1) s.1 s.2 = some r) (fun s => panel.length - s.1) (0, (List.replicate (21 : Int).toNat (0 : Int))) ⟨Nat.zero_le _, hH⟩ ?_ ?_
 exact Le.ct 0 0
 rintro ⟨k5, v32⟩ ⟨hk, hH⟩
 replace hH : spec_paIs_l1 l most panel x1 (panel.drop k5) k5 v32 = some r := hH
 try dsimp only
 refine AW.boundM (t := 4) (l := panel) rfl (fun hb9 => ?_)
 rcases hd8 : panel.drop k5 with _ | ⟨y6, ys7⟩
 rw [hd8, spec_paIs_l1] at hH
 have hlt10 := drop_ge hd8
 refine AW.seq (AW.region ?_)
 refine AO.pu T ?_
 refine AO.nil (AW.seq ?_)
 refine AW.condF' (b := decide ((k5 : Int) < (panel.length : Int))) rfl (rngF hlt10) ?_
 refine AW.exit ?_
 refine AW.seq ?_
 obtain ⟨x34, hx35, hH⟩ := bindE hH
 obtain ⟨x36, hx37, hH⟩ := bindE hH
 refine AW.region ?_
 refine AO.pu T ?_
 refine AO.val rfl rfl (len_map_ok T rfl rfl rfl) ?_
 refine AO.val rfl rfl (callV_ok rfl rfl rfl rfl (spec_l1In_ok _ _ _ _ (hx35)) rfl) ?_
 refine AO.pu T ?_
 refine AO.pureG T [] rfl trivial rfl rfl ?_
 refine AO.guard [55] rfl ⟨fun h => h, trivial⟩ (fun hg => callV_ok rfl rfl rfl rfl (spec_l1Rising_ok _ _ _ _ (optT hx37 hg)) rfl) rfl ?_
 refine AO.val rfl rfl (pick_and rfl rfl rfl rfl) ?_
 refine AO.pu T ?_
 refine AO.nil (AW.ret ?_)
 have hR := someE hH; subst hR
 exact retQ.i [] rfl (.c (.c .v))
 rw [hd8, spec_paIs_l1] at hH
 have hlt10 := drop_lt hd8
 refine AW.seq (AW.region ?_)
 refine AO.pu T ?_
 refine AO.nil (AW.seq ?_)
 refine AW.condT' (b := decide ((k5 : Int) < (panel.length : Int))) rfl (rngT hlt10) ?_
 refine AW.skip ?_
 refine AW.seq ?_
 refine AW.block ?_
 refine AW.seq (AW.region ?_)
 refine AO.val rfl rfl (ix_map_ok T rfl rfl rfl rfl rfl (getI_drop hd8) rfl) ?_
 iterate 2 refine AO.pu T ?_
 refine AO.nil ?_
 iterate 2 refine AW.seq ?_
 obtain ⟨x38, hx39, hH⟩ := bindE hH
 refine AW.region ?_
 iterate 2 refine AO.pu T ?_
 refine AO.val rfl rfl (callLV_ok rfl rfl rfl (es := [.s (List.map encInt x1), y6]) ⟨(.rowR rfl (.map fun y => .vs rfl)), .free rfl, trivial⟩ (spec_l1Has_ok _ _ _ (hx39)) (zfree_v _) rfl) ?_
 refine AO.pu T ?_
 refine AO.nil ?_
 refine AW.cond (b := (!x38)) rfl (fun hc => ?_) (fun hc => ?_)
 replace hH := condT hc hH
 refine AW.seq (AW.region ?_)
 refine AO.pu T ?_
 refine AO.nil (AW.ret ?_)
 have hR := someE hH; subst hR
 exact retQ.i [] rfl (.c (.c .v))
 replace hH := condF hc hH
 refine AW.skip ?_
 refine AW.seq ?_
 obtain ⟨x40, hx41, hH⟩ := bindE hH
 obtain ⟨x42, hx43, hH⟩ := bindE hH
 refine AW.region ?_
 iterate 3 refine AO.pu T ?_
 refine AO.val rfl rfl (callV_ok rfl rfl rfl rfl (spec_paFind_ok _ _ _ (hx41)) rfl) ?_
 refine AO.val rfl rfl (ix_map_ok T rfl rfl rfl rfl rfl (hx43) rfl) ?_
 iterate 3 refine AO.pu T ?_
 refine AO.nil (AW.seq ?_)
 obtain ⟨x44, hx45, hH⟩ := bindE hH
 refine AW.region ?_
 iterate 2 refine AO.pu T ?_
 refine AO.val rfl rfl (ix_row_ok T rfl rfl rfl rfl rfl rfl (hx45)) ?_
 refine AO.val rfl rfl (load_row_ok T rfl rfl rfl rfl (getI_get (hx45)) rfl rfl rfl) ?_
 refine AO.val rfl rfl (arw_ok rfl rfl rfl rfl) ?_
 refine AO.val rfl rfl (ix_row_ok T rfl rfl rfl rfl rfl rfl (hx45)) ?_
 refine AO.step rfl (store_row_ok T rfl rfl rfl rfl rfl (getI_get (hx45)) rfl rfl rfl rfl (u' := w64 (x44 + 1)) rfl rfl) ?_
 refine AO.nil (AW.seq ?_)
 obtain ⟨x46, hx47, hH⟩ := bindE hH
 refine AW.region ?_
 iterate 2 refine AO.pu T ?_
 refine AO.val rfl rfl (ix_row_ok T rfl rfl rfl rfl rfl rfl (hx47)) ?_
 refine AO.val rfl rfl (load_row_ok T rfl rfl rfl rfl (getI_get (hx47)) rfl rfl rfl) ?_
 iterate 2 refine AO.pu T ?_
 refine AO.nil ?_
 refine AW.le (Le.ct 0 0 (σ' := (⟨[(0, .s (List.map encOfficial l)), (3, most), (4, .s (List.map encInt panel)), (11, .R 1), (12, .R 2), (21, .s (List.map encInt panel)), (22, (panel.length : Int)), (23, (k5 : Int)), (49, .v (.bool (decide (x46 > most))))], [(1, .row 1 (List.map encInt x1)), (2, .row 1 (List.map encInt (v32.set x42.club.toNat (w64 (x44 + 1)))))], 58, []⟩ : St))) ?_
 refine AW.cond (b := decide (x46 > most)) rfl (fun hc => ?_) (fun hc => ?_)
 replace hH := condT hc hH
 refine AW.seq (AW.region ?_)
 refine AO.pu T ?_
 refine AO.nil (AW.ret ?_)
 have hR := someE hH; subst hR
 exact retQ.i [] rfl (.c (.c .v))
 replace hH := condF hc hH
 refine AW.skip ?_
 refine AW.region ?_
 refine AO.val rfl rfl (ar_ok rfl rfl rfl rfl (inI_succ hlt10 hb9)) ?_
 refine AO.pu T ?_
 refine AO.nil ?_
 refine ⟨(k5 + 1, (v32.set x42.club.toNat (w64 (x44 + 1)))), ⟨Nat.succ_le_of_lt hlt10, (by rw [drop_succ_of hd8]; exact hH)⟩, (by have := hlt10; dsimp only; omega), ?_⟩
 exact Le.ct 0 0

def spec_CountPanels_l2 (l : List Official) (clubs : List Int) (level : Int) (most : Int) (n : Int) (fuel : Nat) (v110 : Int) (v111 : Int) : List Int → Nat → List Int → Option Int
  | [], k140, v155 =>
    (opt ((v155.length : Int) == n) default (spec_paIs_p fuel l clubs level most v155)).bind fun x157 =>
    cond (((v155.length : Int) == n) && x157)
      (some (w64 (v110 + 1)))
      (some v110)
  | y141 :: ys142, k140, v155 =>
    (need (decide (0 ≤ IntKind.wrap .u64 (k140 : Int)))).bind fun u159 =>
    cond ((IntKind.wrap .i64 ((BitVec.ofInt 64 (v111.fdiv (2 ^ (min (IntKind.wrap .u64 (k140 : Int)).toNat 64))) &&& BitVec.ofInt 64 1).toNat : Int)) == 1)
      ((need (fitsB 8 (v155.length + ([y141]).length))).bind fun u161 =>
      spec_CountPanels_l2 l clubs level most n fuel v110 v111 ys142 (k140 + 1) (v155 ++ [y141]))
      (spec_CountPanels_l2 l clubs level most n fuel v110 v111 ys142 (k140 + 1) v155)
def spec_CountPanels_l1 (l : List Official) (clubs : List Int) (level : Int) (most : Int) (n : Int) (fuel : Nat) (x7 : (List Int)) : Nat → Int → Int → Option ((Int × Bool))
  | 0, _, _ => none
  | k9 + 1, v110, v111 =>
    (need (decide (0 ≤ IntKind.wrap .u64 (x7.length : Int)))).bind fun u113 =>
    cond (decide (v111 < (IntKind.wrap .i64 (1 * 2 ^ (min (IntKind.wrap .u64 (x7.length : Int)).toNat 64)))))
      ((spec_CountPanels_l2 l clubs level most n fuel v110 v111 x7 0 []).bind fun v137 =>
      spec_CountPanels_l1 l clubs level most n fuel x7 k9 v137 (w64 (v111 + 1)))
      (some (v110, true))
def spec_CountPanels_p (fuel : Nat) (l : List Official) (clubs : List Int) (level : Int) (most : Int) (n : Int) : Option (Int × Bool) :=
  (spec_paAsked_p l clubs level).bind fun x1 =>
  (opt (!(!x1)) default (spec_paMost_p most)).bind fun x3 =>
  (opt (!((!x1) || (!x3))) default (spec_paMost_p n)).bind fun x5 =>
  cond ((((!x1) || (!x3)) || (!x5)) || decide ((l.length : Int) > 14))
    (some (0, false))
    ((spec_paEligible_p fuel l clubs level).bind fun x7 =>
    spec_CountPanels_l1 l clubs level most n fuel x7 fuel 0 0)
theorem spec_CountPanels_ok (fuel : Nat) (l : List Official) (clubs : List Int) (level : Int) (most : Int) (n : Int) (r : (Int × Bool)) (hH : spec_CountPanels_p fuel l clubs level most n = some r) : SpecR Try.prog 13 [.s (List.map encOfficial l), .s (List.map encInt clubs), level, most, n] (.t [.v (.int .i64 r.1), .v (.bool r.2)]) := by
 refine fn_ok T Try.func13 rfl (by decide) rfl ?_
 refine AW.seq (AW.region ?_)
 iterate 2 refine AO.pu T ?_
 refine AO.nil ?_
 iterate 2 refine AW.seq ?_
 obtain ⟨x1, hx2, hH⟩ := bindE hH
 obtain ⟨x3, hx4, hH⟩ := bindE hH
 obtain ⟨x5, hx6, hH⟩ := bindE hH
 refine AW.region ?_
 iterate 3 refine AO.pu T ?_
 refine AO.val rfl rfl (callV_ok rfl rfl rfl rfl (spec_paAsked_ok _ _ _ _ (hx2)) rfl) ?_
 iterate 2 refine AO.pu T ?_
 refine AO.pureG T [] rfl trivial rfl rfl ?_
 refine AO.guard [24] rfl ⟨fun h => h, trivial⟩ (fun hg => callV_ok rfl rfl rfl rfl (spec_paMost_ok _ _ (optT hx4 hg)) rfl) rfl ?_
 refine AO.pureG T [25] rfl ⟨fun h => h, trivial⟩ rfl rfl ?_
 refine AO.val rfl rfl (pick_or rfl rfl rfl rfl) ?_
 refine AO.pu T ?_
 refine AO.pureG T [] rfl trivial rfl rfl ?_
 refine AO.guard [29] rfl ⟨fun h => h, trivial⟩ (fun hg => callV_ok rfl rfl rfl rfl (spec_paMost_ok _ _ (optT hx6 hg)) rfl) rfl ?_
 refine AO.pureG T [30] rfl ⟨fun h => h, trivial⟩ rfl rfl ?_
 refine AO.val rfl rfl (pick_or rfl rfl rfl rfl) ?_
 refine AO.pu T ?_
 refine AO.pureG T [] rfl trivial rfl rfl ?_
 refine AO.guard [34] rfl ⟨fun h => h, trivial⟩ (fun hg => len_map_ok T rfl rfl rfl) rfl ?_
 refine AO.pureG T [35] rfl ⟨fun h => h, trivial⟩ rfl rfl ?_
 refine AO.val rfl rfl (pick_or rfl rfl rfl rfl) ?_
 refine AO.nil ?_
 refine AW.cond (b := ((((!x1) || (!x3)) || (!x5)) || decide ((l.length : Int) > 14))) rfl (fun hc => ?_) (fun hc => ?_)
 replace hH := condT hc hH
 refine AW.seq (AW.region ?_)
 iterate 2 refine AO.pu T ?_
 refine AO.nil ?_
 refine AW.le (Le.ct 0 0 (σ' := (⟨[(10, (0 : Int)), (11, .v (.bool false))], [], 83, []⟩ : St))) ?_
 refine AW.ret ?_
 have hR := someE hH; subst hR
 exact retQ.i [] rfl (.t (expLG_cons (.c .v) (expLG_cons (.c .v) (expLG_nil))))
 replace hH := condF hc hH
 refine AW.skip ?_
 refine AW.seq ?_
 obtain ⟨x7, hx8, hH⟩ := bindE hH
 refine AW.region ?_
 iterate 3 refine AO.pu T ?_
 refine AO.step rfl (call_ok rfl 1 rfl rfl rfl (spec_paEligible_ok fuel _ _ _ _ (hx8)) rfl rfl rfl) ?_
 refine AO.pu T ?_
 refine AO.nil ?_
 refine AW.le (Le.ct 0 0 (σ' := (⟨[(0, .s (List.map encOfficial l)), (1, .s (List.map encInt clubs)), (2, level), (3, most), (4, n), (12, .R 1)], [(1, .row 1 (List.map encInt x7))], 83, []⟩ : St))) ?_
 refine AW.seq (AW.region ?_)
 refine AO.pu T ?_
 refine AO.nil ?_
 iterate 2 refine AW.seq ?_
 refine AW.region ?_
 refine AO.pu T ?_
 refine AO.nil ?_
 refine AW.block ?_
 refine AW.loopS (fun s : Nat × Int × Int => (⟨[(0, .s (List.map encOfficial l)), (1, .s (List.map encInt clubs)), (2, level), (3, most), (4, n), (12, .R 1), (13, s.2.1), (14, s.2.2)], [(1, .row 1 (List.map encInt x7))], 83, []⟩ : St)) (fun s => spec_CountPanels_l1 l clubs level most n fuel x7 s.1 s.2.1 s.2.2 = some r) (fun s => s.1) (fuel, 0, 0) hH ?_ ?_
 exact Le.ct 0 0
 rintro ⟨k9, v110, v111⟩ hH
 replace hH : spec_CountPanels_l1 l clubs level most n fuel x7 k9 v110 v111 = some r := hH
 try dsimp only
 rcases k9 with _ | k9
 cases (show none = some _ from hH)
 rw [spec_CountPanels_l1] at hH
 iterate 2 refine AW.seq ?_
 obtain ⟨u113, hx114, hH⟩ := bindE hH
 refine AW.region ?_
 iterate 2 refine AO.pu T ?_
 refine AO.val rfl rfl (len_row_ok T rfl rfl rfl rfl) ?_
 refine AO.val rfl rfl (convw_ok T rfl rfl rfl rfl) ?_
 refine AO.val rfl rfl (shl_ok rfl rfl rfl (needT (hx114))) ?_
 refine AO.pu T ?_
 refine AO.nil ?_
 refine AW.cond (b := decide (v111 < (IntKind.wrap .i64 (1 * 2 ^ (min (IntKind.wrap .u64 (x7.length : Int)).toNat 64))))) rfl (fun hc => ?_) (fun hc => ?_)
 replace hH := condT hc hH
 refine AW.skip ?_
 obtain ⟨o138, hH, hK139⟩ := bindE hH
 refine AW.seqJ (fun s : Int => (⟨[(0, .s (List.map encOfficial l)), (1, .s (List.map encInt clubs)), (2, level), (3, most), (4, n), (12, .R 1), (13, s), (14, v111)], [(1, .row 1 (List.map encInt x7))], 83, []⟩ : St)) (fun s => s = o138) ?_ ?_
 refine AW.block ?_
 refine AW.seq (AW.region ?_)
 refine AO.pu T ?_
 refine AO.nil ?_
 iterate 2 refine AW.seq ?_
 refine AW.region ?_
 refine AO.pu T ?_
 refine AO.val rfl rfl (len_row_ok T rfl rfl rfl rfl) ?_
 refine AO.pu T ?_
 refine AO.nil ?_
 refine AW.block ?_
 refine AW.loopS (fun s : Nat × (List Int) => (⟨[(0, .s (List.map encOfficial l)), (1, .s (List.map encInt clubs)), (2, level), (3, most), (4, n), (12, .R 1), (13, v110), (14, v111), (15, .R 35), (50, .R 1), (51, (x7.length : Int)), (52, (s.1 : Int))], [(1, .row 1 (List.map encInt x7)), (35, .row 1 (List.map encInt s.2))], 83, []⟩ : St)) (fun s => s.1 ≤ x7.length ∧ spec_CountPanels_l2 l clubs level most n fuel v110 v111 (x7.drop s.1) s.1 s.2 = some o138) (fun s => x7.length - s.1) (0, []) ⟨Nat.zero_le _, hH⟩ ?_ ?_
 refine Le.trans (Le.void 15 35 1 rfl rfl) ?_
 exact Le.ct 0 0
 rintro ⟨k140, v155⟩ ⟨hk, hH⟩
 replace hH : spec_CountPanels_l2 l clubs level most n fuel v110 v111 (x7.drop k140) k140 v155 = some o138 := hH
 try dsimp only
 refine AW.boundR (id := 1) (l := x7) rfl (fun hb144 => ?_)
 rcases hd143 : x7.drop k140 with _ | ⟨y141, ys142⟩
 rw [hd143, spec_CountPanels_l2] at hH
 have hlt145 := drop_ge hd143
 refine AW.seq (AW.region ?_)
 refine AO.pu T ?_
 refine AO.nil (AW.seq ?_)
 refine AW.condF' (b := decide ((k140 : Int) < (x7.length : Int))) rfl (rngF hlt145) ?_
 refine AW.exit ?_
 refine AW.seq ?_
 obtain ⟨x157, hx158, hH⟩ := bindE hH
 refine AW.region ?_
 refine AO.pu T ?_
 refine AO.val rfl rfl (len_row_ok T rfl rfl rfl rfl) ?_
 iterate 3 refine AO.pu T ?_
 iterate 5 refine AO.pureG T [] rfl trivial rfl rfl ?_
 refine AO.guard [73, 74, 75, 76, 77] rfl ⟨fun h => h, fun h => h, fun h => h, fun h => h, fun h => h, trivial⟩ (fun hg => callLV_ok rfl rfl rfl (es := [.s (List.map encOfficial l), .s (List.map encInt clubs), level, most, .s (List.map encInt v155)]) ⟨.free rfl, .free rfl, .free rfl, .free rfl, (.rowR rfl (.map fun y => .vs rfl)), trivial⟩ (spec_paIs_ok fuel _ _ _ _ _ _ (optT hx158 hg)) (zfree_v _) rfl) rfl ?_
 refine AO.val rfl rfl (pick_and rfl rfl rfl rfl) ?_
 refine AO.nil ?_
 refine AW.cond (b := (((v155.length : Int) == n) && x157)) rfl (fun hc => ?_) (fun hc => ?_)
 replace hH := condT hc hH
 refine AW.region ?_
 refine AO.pu T ?_
 refine AO.val rfl rfl (arw_ok rfl rfl rfl rfl) ?_
 refine AO.pu T ?_
 refine AO.nil ?_
 refine ⟨_, someE hH, ?_⟩
 exact Le.ct 0 0
 replace hH := condF hc hH
 refine AW.skip ?_
 refine ⟨_, someE hH, ?_⟩
 exact Le.ct 0 0
 rw [hd143, spec_CountPanels_l2] at hH
 have hlt145 := drop_lt hd143
 refine AW.seq (AW.region ?_)
 refine AO.pu T ?_
 refine AO.nil (AW.seq ?_)
 refine AW.condT' (b := decide ((k140 : Int) < (x7.length : Int))) rfl (rngT hlt145) ?_
 refine AW.skip ?_
 refine AW.seq ?_
 refine AW.block ?_
 refine AW.seq (AW.region ?_)
 refine AO.pu T ?_
 refine AO.val rfl rfl (ix_row_ok T rfl rfl rfl rfl rfl rfl (getI_drop hd143)) ?_
 refine AO.val rfl rfl (load_row_ok T rfl rfl rfl rfl (getI_get (getI_drop hd143)) rfl rfl rfl) ?_
 iterate 2 refine AO.pu T ?_
 refine AO.nil (AW.seq ?_)
 obtain ⟨u159, hx160, hH⟩ := bindE hH
 refine AW.region ?_
 iterate 2 refine AO.pu T ?_
 refine AO.val rfl rfl (convw_ok T rfl rfl rfl rfl) ?_
 refine AO.val rfl rfl (shr_ok rfl rfl rfl (needT (hx160)) rfl) ?_
 refine AO.val rfl rfl (and_ok rfl rfl rfl) ?_
 refine AO.pu T ?_
 refine AO.nil ?_
 refine AW.cond (b := ((IntKind.wrap .i64 ((BitVec.ofInt 64 (v111.fdiv (2 ^ (min (IntKind.wrap .u64 (k140 : Int)).toNat 64))) &&& BitVec.ofInt 64 1).toNat : Int)) == 1)) rfl (fun hc => ?_) (fun hc => ?_)
 replace hH := condT hc hH
 obtain ⟨u161, hx162, hH⟩ := bindE hH
 refine AW.region ?_
 iterate 2 refine AO.pu T ?_
 refine AO.step rfl (mk_map_ok T rfl 36 rfl rfl rfl rfl rfl (f := encInt) (l := [y141]) rfl rfl (fun _ => rfl) rfl rfl rfl rfl rfl) ?_
 refine AO.step rfl (app_rv_map T rfl 37 rfl rfl rfl rfl rfl (by decide) rfl rfl rfl rfl (fun _ => rfl) (needT (hx162)) rfl rfl) ?_
 refine AO.pu T ?_
 refine AO.nil ?_
 refine AW.region ?_
 refine AO.val rfl rfl (ar_ok rfl rfl rfl rfl (inI_succ hlt145 hb144)) ?_
 refine AO.pu T ?_
 refine AO.nil ?_
 refine ⟨(k140 + 1, (v155 ++ [y141])), ⟨Nat.succ_le_of_lt hlt145, (by rw [drop_succ_of hd143]; exact hH)⟩, (by have := hlt145; dsimp only; omega), ?_⟩
 exact Le.ct 37 35
 replace hH := condF hc hH
 refine AW.skip ?_
 refine AW.region ?_
 refine AO.val rfl rfl (ar_ok rfl rfl rfl rfl (inI_succ hlt145 hb144)) ?_
 refine AO.pu T ?_
 refine AO.nil ?_
 refine ⟨(k140 + 1, v155), ⟨Nat.succ_le_of_lt hlt145, (by rw [drop_succ_of hd143]; exact hH)⟩, (by have := hlt145; dsimp only; omega), ?_⟩
 exact Le.ct 0 0
 rintro v137 hs
 subst hs
 replace hH := hK139
 try dsimp only [flow, flowE] at hH
 try dsimp only
 refine AW.region ?_
 refine AO.pu T ?_
 refine AO.val rfl rfl (arw_ok rfl rfl rfl rfl) ?_
 refine AO.pu T ?_
 refine AO.nil ?_
 refine ⟨(k9, v137, w64 (v111 + 1)), hH, Nat.lt_succ_self _, ?_⟩
 exact Le.ct 0 0
 replace hH := condF hc hH
 refine AW.exit ?_
 refine AW.seq (AW.region ?_)
 iterate 3 refine AO.pu T ?_
 refine AO.nil (AW.ret ?_)
 have hR := someE hH; subst hR
 exact retQ.i [] rfl (.t (expLG_cons (.c .v) (expLG_cons (.c .v) (expLG_nil))))

def spec_DrawEligibleFor_p (fuel : Nat) (code : List Int) : Option ((List Official) × (List Int) × Int) :=
  (spec_l1Cur_officials_p fuel (L1Cur.mk code 0 0)).bind fun x1 =>
  (spec_l1Cur_conflicts_p fuel (L1Cur.mk x1.1.code x1.1.at' x1.1.seed)).bind fun x3 =>
  (spec_l1Cur_grade_p (L1Cur.mk x3.1.code x3.1.at' x3.1.seed)).bind fun x5 =>
  some (x1.2, x3.2, x5.2)
theorem spec_DrawEligibleFor_ok (fuel : Nat) (code : List Int) (r : ((List Official) × (List Int) × Int)) (hH : spec_DrawEligibleFor_p fuel code = some r) : SpecR Try.prog 14 [.s (List.map encInt_u8 code)] (.t [.w 3 (r.1.map encOfficial), .w 1 (r.2.1.map encInt), .v (.int .i64 r.2.2)]) := by
 refine fn_ok T Try.func14 rfl (by decide) rfl ?_
 refine AW.seq (AW.region ?_)
 iterate 3 refine AO.pu T ?_
 refine AO.nil (AW.seq ?_)
 refine AW.region ?_
 refine AO.pu T ?_
 refine AO.pu T (d := .g [.s (List.map encInt_u8 code), (0 : Int), .v (.int .u64 0)]) ?_
 refine AO.step rfl (box_ok T rfl 1 rfl rfl rfl rfl) ?_
 refine AO.pu T ?_
 refine AO.nil (AW.seq ?_)
 obtain ⟨x1, hx2, hH⟩ := bindE hH
 obtain ⟨x3, hx4, hH⟩ := bindE hH
 obtain ⟨x5, hx6, hH⟩ := bindE hH
 refine AW.region ?_
 refine AO.pu T ?_
 refine AO.step rfl (callM_ok rfl 2 rfl rfl (es := [.pw (encL1Cur (L1Cur.mk code 0 0))]) (outs := [.pw (encL1Cur x1.1)]) (ids := [1]) (by exact expLG_cons (.c (.box rfl rfl)) (expLG_nil)) (by decide) (.inl (by rfl)) (by rfl) (spec_l1Cur_officials_ok fuel _ _ (hx2)) rfl (by rfl) rfl) ?_
 refine AO.pu T ?_
 refine AO.step rfl (callM_ok rfl 3 rfl rfl (es := [.pw (encL1Cur (L1Cur.mk x1.1.code x1.1.at' x1.1.seed))]) (outs := [.pw (encL1Cur x3.1)]) (ids := [1]) (by exact expLG_cons (.c (.box rfl rfl)) (expLG_nil)) (by decide) (.inl (by rfl)) (by rfl) (spec_l1Cur_conflicts_ok fuel _ _ (hx4)) rfl (by rfl) rfl) ?_
 refine AO.pu T ?_
 refine AO.step rfl (callM_ok rfl 4 rfl rfl (es := [.pw (encL1Cur (L1Cur.mk x3.1.code x3.1.at' x3.1.seed))]) (outs := [.pw (encL1Cur x5.1)]) (ids := [1]) (by exact expLG_cons (.c (.box rfl rfl)) (expLG_nil)) (by decide) (.inl (by rfl)) (by rfl) (spec_l1Cur_grade_ok _ _ (hx6)) rfl (by rfl) rfl) ?_
 iterate 3 refine AO.pu T ?_
 refine AO.nil (AW.ret ?_)
 have hR := someE hH; subst hR
 exact retQ.i [2, 3] rfl (.t (expLG_cons (.c (.rowR rfl)) (expLG_cons (.c (.rowR rfl)) (expLG_cons (.c .v) (expLG_nil)))))

def impl_EligibleFor_p (l : List Official) (clubs : List Int) (level : Int) : Option ((List Int) × Bool) :=
  (impl_canPanel_p l clubs level 1).bind fun x1 =>
  cond (!x1)
    (some ([], false))
    ((impl_eligible_p l clubs level).bind fun x3 =>
    some (x3, true))
theorem impl_EligibleFor_ok (l : List Official) (clubs : List Int) (level : Int) (r : ((List Int) × Bool)) (hH : impl_EligibleFor_p l clubs level = some r) : SpecR Try.prog 15 [.s (List.map encOfficial l), .s (List.map encInt clubs), level] (.t [.w 1 (r.1.map encInt), .v (.bool r.2)]) := by
 refine fn_ok T Try.func15 rfl (by decide) rfl ?_
 refine AW.seq (AW.region ?_)
 iterate 2 refine AO.pu T ?_
 refine AO.nil ?_
 iterate 2 refine AW.seq ?_
 obtain ⟨x1, hx2, hH⟩ := bindE hH
 refine AW.region ?_
 iterate 3 refine AO.pu T ?_
 refine AO.val rfl rfl (callV_ok rfl rfl rfl rfl (impl_canPanel_ok _ _ _ _ _ (hx2)) rfl) ?_
 refine AO.pu T ?_
 refine AO.nil ?_
 refine AW.cond (b := (!x1)) rfl (fun hc => ?_) (fun hc => ?_)
 replace hH := condT hc hH
 refine AW.seq (AW.region ?_)
 iterate 2 refine AO.pu T ?_
 refine AO.nil (AW.ret ?_)
 have hR := someE hH; subst hR
 exact retQ.i [] rfl (.t (expLG_cons (.c .nil) (expLG_cons (.c .v) (expLG_nil))))
 replace hH := condF hc hH
 refine AW.skip ?_
 refine AW.seq ?_
 obtain ⟨x3, hx4, hH⟩ := bindE hH
 refine AW.region ?_
 iterate 3 refine AO.pu T ?_
 refine AO.step rfl (call_ok rfl 1 rfl rfl rfl (impl_eligible_ok _ _ _ _ (hx4)) rfl rfl rfl) ?_
 iterate 2 refine AO.pu T ?_
 refine AO.nil (AW.ret ?_)
 have hR := someE hH; subst hR
 exact retQ.i [1] rfl (.t (expLG_cons (.c (.rowR rfl)) (expLG_cons (.c .v) (expLG_nil))))

def spec_EligibleFor_p (fuel : Nat) (l : List Official) (clubs : List Int) (level : Int) : Option ((List Int) × Bool) :=
  (spec_paAsked_p l clubs level).bind fun x1 =>
  cond (!x1)
    (some ([], false))
    ((spec_paEligible_p fuel l clubs level).bind fun x3 =>
    some (x3, true))
theorem spec_EligibleFor_ok (fuel : Nat) (l : List Official) (clubs : List Int) (level : Int) (r : ((List Int) × Bool)) (hH : spec_EligibleFor_p fuel l clubs level = some r) : SpecR Try.prog 16 [.s (List.map encOfficial l), .s (List.map encInt clubs), level] (.t [.w 1 (r.1.map encInt), .v (.bool r.2)]) := by
 refine fn_ok T Try.func16 rfl (by decide) rfl ?_
 refine AW.seq (AW.region ?_)
 iterate 2 refine AO.pu T ?_
 refine AO.nil ?_
 iterate 2 refine AW.seq ?_
 obtain ⟨x1, hx2, hH⟩ := bindE hH
 refine AW.region ?_
 iterate 3 refine AO.pu T ?_
 refine AO.val rfl rfl (callV_ok rfl rfl rfl rfl (spec_paAsked_ok _ _ _ _ (hx2)) rfl) ?_
 refine AO.pu T ?_
 refine AO.nil ?_
 refine AW.cond (b := (!x1)) rfl (fun hc => ?_) (fun hc => ?_)
 replace hH := condT hc hH
 refine AW.seq (AW.region ?_)
 iterate 2 refine AO.pu T ?_
 refine AO.nil (AW.ret ?_)
 have hR := someE hH; subst hR
 exact retQ.i [] rfl (.t (expLG_cons (.c .nil) (expLG_cons (.c .v) (expLG_nil))))
 replace hH := condF hc hH
 refine AW.skip ?_
 refine AW.seq ?_
 obtain ⟨x3, hx4, hH⟩ := bindE hH
 refine AW.region ?_
 iterate 3 refine AO.pu T ?_
 refine AO.step rfl (call_ok rfl 1 rfl rfl rfl (spec_paEligible_ok fuel _ _ _ _ (hx4)) rfl rfl rfl) ?_
 iterate 2 refine AO.pu T ?_
 refine AO.nil (AW.ret ?_)
 have hR := someE hH; subst hR
 exact retQ.i [1] rfl (.t (expLG_cons (.c (.rowR rfl)) (expLG_cons (.c .v) (expLG_nil))))

def spec_AreOfficials_p (l : List Official) : Option Bool :=
  (spec_paOfficials_p l).bind fun x1 =>
  some x1
theorem spec_AreOfficials_ok (l : List Official) (r : Bool) (hH : spec_AreOfficials_p l = some r) : SpecR Try.prog 18 [.s (List.map encOfficial l)] (.v (.bool r)) := by
 refine fn_ok T Try.func18 rfl (by decide) rfl ?_
 refine AW.seq (AW.region ?_)
 refine AO.pu T ?_
 refine AO.nil (AW.seq ?_)
 obtain ⟨x1, hx2, hH⟩ := bindE hH
 refine AW.region ?_
 refine AO.pu T ?_
 refine AO.val rfl rfl (callV_ok rfl rfl rfl rfl (spec_paOfficials_ok _ _ (hx2)) rfl) ?_
 refine AO.pu T ?_
 refine AO.nil (AW.ret ?_)
 have hR := someE hH; subst hR
 exact retQ.i [] rfl (.c (.c .v))

def slices_Compact_int_l2 (sA : List Int) (v147 : Int) : Nat → List Int → Int → List Int → Int → Option (Except ((List Int)) Unit)
  | 0, _, _, _, _ => none
  | k192 + 1, v207, v208, v209, v210 =>
    cond (decide (v210 < (((sA.length - v147.toNat) : Nat) : Int)))
      ((getP v209 v147.toNat (sA.length - v147.toNat) v210).bind fun x212 =>
      (getP v209 v147.toNat (sA.length - v147.toNat) (w64 (v210 - 1))).bind fun x214 =>
      cond (x212 != x214)
        ((getI v209 v208).bind fun x216 =>
        slices_Compact_int_l2 sA v147 k192 (v209.set v208.toNat x212) (w64 (v208 + 1)) (v209.set v208.toNat x212) (w64 (v210 + 1)))
        (slices_Compact_int_l2 sA v147 k192 v209 v208 v209 (w64 (v210 + 1))))
      ((need (inB v208 v209.length v209.length)).bind fun u218 =>
      (need (inB 0 v208 ((List.take v208.toNat v209 ++ List.replicate (v209.length - v208.toNat) 0 ++ List.drop (v208.toNat + (v209.length - v208.toNat)) v209)).length)).bind fun u220 =>
      some (.error ((List.drop 0 (List.take v208.toNat v209 ++ List.replicate (v209.length - v208.toNat) 0 ++ List.drop (v208.toNat + (v209.length - v208.toNat)) v209)).take v208.toNat)))
def slices_Compact_int_l1 (sA : List Int) (fuel : Nat) : Nat → Int → Option ((List Int))
  | 0, _ => none
  | k1 + 1, v147 =>
    cond (decide (v147 < (sA.length : Int)))
      (((getI sA v147).bind fun x186 =>
      (getI sA (w64 (v147 - 1))).bind fun x188 =>
      cond (x186 == x188)
        ((need (inB v147 sA.length sA.length)).bind fun u190 =>
        slices_Compact_int_l2 sA v147 fuel sA v147 sA 1)
        (some (.ok ()))).bind fun o184 => flow o184 fun _ =>
      slices_Compact_int_l1 sA fuel k1 (w64 (v147 + 1)))
      (some sA)
def slices_Compact_int_p (fuel : Nat) (sA : List Int) : Option (List Int) :=
  cond (decide ((sA.length : Int) < 2))
    (some sA)
    (slices_Compact_int_l1 sA fuel fuel 1)
theorem slices_Compact_int_ok (fuel : Nat) (sA : List Int) (r : (List Int)) (hH : slices_Compact_int_p fuel sA = some r) : SpecM Try.prog 55 [.w 1 (sA.map encInt)] [.u] (.w 1 (r.map encInt)) := by
 refine fn_okM T Try.func55 rfl (by decide) rfl rfl ?_
 intro L
 show AW _ _ _ (⟨[(0, .R 1)], [(1, .row 1 (List.map encInt sA))], 61, [(1, L 1)]⟩ : St)
 refine AW.seq (AW.region ?_)
 refine AO.pu T ?_
 refine AO.nil ?_
 iterate 2 refine AW.seq ?_
 refine AW.region ?_
 refine AO.pu T ?_
 refine AO.val rfl rfl (len_row_ok T rfl rfl rfl rfl) ?_
 refine AO.pu T ?_
 refine AO.nil ?_
 refine AW.cond (b := decide ((sA.length : Int) < 2)) rfl (fun hc => ?_) (fun hc => ?_)
 replace hH := condT hc hH
 refine AW.seq (AW.region ?_)
 iterate 2 refine AO.pu T ?_
 refine AO.nil (AW.ret ?_)
 have hR := someE hH; subst hR
 exact ⟨trivial, rfl, _, [1], [], rfl, expLG_cons (.c .u) (expLG_nil), .c (.c (.rowR rfl)), by decide⟩
 replace hH := condF hc hH
 refine AW.skip ?_
 iterate 2 refine AW.seq ?_
 refine AW.region ?_
 refine AO.pu T ?_
 refine AO.nil ?_
 refine AW.block ?_
 refine AW.loopS (fun s : Nat × Int => (⟨[(0, .R 1), (3, s.2)], [(1, .row 1 (List.map encInt sA))], 61, [(1, L 1)]⟩ : St)) (fun s => slices_Compact_int_l1 sA fuel s.1 s.2 = some r) (fun s => s.1) (fuel, 1) hH ?_ ?_
 exact Le.ct 0 0 (hpin := ⟨⟨rfl, rfl⟩, trivial⟩)
 rintro ⟨k1, v147⟩ hH
 replace hH : slices_Compact_int_l1 sA fuel k1 v147 = some r := hH
 try dsimp only
 rcases k1 with _ | k1
 cases (show none = some _ from hH)
 rw [slices_Compact_int_l1] at hH
 iterate 2 refine AW.seq ?_
 refine AW.region ?_
 iterate 2 refine AO.pu T ?_
 refine AO.val rfl rfl (len_row_ok T rfl rfl rfl rfl) ?_
 refine AO.pu T ?_
 refine AO.nil ?_
 refine AW.cond (b := decide (v147 < (sA.length : Int))) rfl (fun hc => ?_) (fun hc => ?_)
 replace hH := condT hc hH
 refine AW.skip ?_
 obtain ⟨o184, hH, hK185⟩ := bindE hH
 refine AW.seqJ (fun s : Unit => (⟨[(0, .R 1), (3, v147)], [(1, .row 1 (List.map encInt sA))], 61, [(1, L 1)]⟩ : St)) (fun s => .ok s = o184) ?_ ?_
 refine AW.block ?_
 refine AW.seq ?_
 obtain ⟨x186, hx187, hH⟩ := bindE hH
 obtain ⟨x188, hx189, hH⟩ := bindE hH
 refine AW.drawn 9 2 [] mix (by kernel_rfl) rfl ?_
 iterate 2 refine AD.pure T rfl rfl rfl ?_
 refine AD.val rfl rfl (ix_row_ok T rfl rfl rfl rfl rfl rfl (hx187)) ?_
 refine AD.val rfl rfl (load_row_ok T rfl rfl rfl rfl (getI_get (hx187)) rfl rfl rfl) ?_
 iterate 2 refine AD.pure T rfl rfl rfl ?_
 refine AD.val rfl rfl (arw_ok rfl rfl rfl rfl) ?_
 refine AD.val rfl rfl (ix_row_ok T rfl rfl rfl rfl rfl rfl (hx189)) ?_
 refine AD.val rfl rfl (load_row_ok T rfl rfl rfl rfl (getI_get (hx189)) rfl rfl rfl) ?_
 refine AD.nil ?_
 refine AO.pu T ?_
 refine AO.nil ?_
 refine AW.cond (b := (x186 == x188)) rfl (fun hc => ?_) (fun hc => ?_)
 replace hH := condT hc hH
 refine AW.seq ?_
 obtain ⟨u190, hx191, hH⟩ := bindE hH
 refine AW.region ?_
 iterate 2 refine AO.pu T ?_
 refine AO.val rfl rfl (slice_row_lo T rfl rfl rfl rfl rfl rfl (needT (hx191))) ?_
 refine AO.pu T ?_
 refine AO.nil ?_
 iterate 2 refine AW.seq ?_
 refine AW.region ?_
 refine AO.pu T ?_
 refine AO.nil ?_
 refine AW.block ?_
 refine AW.loopS (fun s : Nat × (List Int) × Int × (List Int) × Int => (⟨[(0, .R 1), (3, s.2.2.1), (4, .r 1 v147.toNat (sA.length - v147.toNat)), (5, s.2.2.2.2)], [(1, .row 1 (List.map encInt s.2.2.2.1))], 61, [(1, L 1)]⟩ : St)) (fun s => slices_Compact_int_l2 sA v147 s.1 s.2.1 s.2.2.1 s.2.2.2.1 s.2.2.2.2 = some o184) (fun s => s.1) (fuel, sA, v147, sA, 1) hH ?_ ?_
 exact Le.ct 0 0 (hpin := ⟨⟨rfl, rfl⟩, trivial⟩)
 rintro ⟨k192, v207, v208, v209, v210⟩ hH
 replace hH : slices_Compact_int_l2 sA v147 k192 v207 v208 v209 v210 = some o184 := hH
 try dsimp only
 rcases k192 with _ | k192
 cases (show none = some _ from hH)
 rw [slices_Compact_int_l2] at hH
 iterate 2 refine AW.seq ?_
 refine AW.region ?_
 iterate 4 refine AO.pu T ?_
 refine AO.nil ?_
 refine AW.cond (b := decide (v210 < (((sA.length - v147.toNat) : Nat) : Int))) rfl (fun hc => ?_) (fun hc => ?_)
 replace hH := condT hc hH
 refine AW.skip ?_
 refine AW.seq ?_
 refine AW.block ?_
 refine AW.seq ?_
 obtain ⟨x212, hx213, hH⟩ := bindE hH
 obtain ⟨x214, hx215, hH⟩ := bindE hH
 refine AW.drawn 9 2 [] mix (by kernel_rfl) rfl ?_
 iterate 2 refine AD.pure T rfl rfl rfl ?_
 refine AD.val rfl rfl (ix_part_ok T rfl rfl rfl rfl rfl rfl (hx213)) ?_
 refine AD.val rfl rfl (load_row_ok T rfl rfl rfl rfl (getP_get (hx213)) rfl rfl rfl) ?_
 iterate 2 refine AD.pure T rfl rfl rfl ?_
 refine AD.val rfl rfl (arw_ok rfl rfl rfl rfl) ?_
 refine AD.val rfl rfl (ix_part_ok T rfl rfl rfl rfl rfl rfl (hx215)) ?_
 refine AD.val rfl rfl (load_row_ok T rfl rfl rfl rfl (getP_get (hx215)) rfl rfl rfl) ?_
 refine AD.nil ?_
 refine AO.pu T ?_
 refine AO.nil ?_
 refine AW.cond (b := (x212 != x214)) rfl (fun hc => ?_) (fun hc => ?_)
 replace hH := condT hc hH
 refine AW.seq ?_
 obtain ⟨x216, hx217, hH⟩ := bindE hH
 refine AW.region ?_
 iterate 4 refine AO.pu T ?_
 refine AO.val rfl rfl (ix_part_ok T rfl rfl rfl rfl rfl rfl (hx213)) ?_
 refine AO.val rfl rfl (load_row_ok T rfl rfl rfl rfl (getP_get (hx213)) rfl rfl rfl) ?_
 refine AO.val rfl rfl (ix_row_ok T rfl rfl rfl rfl rfl rfl (hx217)) ?_
 refine AO.step rfl (store_row_ok T rfl rfl rfl rfl rfl (getI_get (hx217)) rfl rfl rfl rfl (u' := x212) rfl rfl) ?_
 refine AO.nil ?_
 refine AW.region ?_
 refine AO.pu T ?_
 refine AO.val rfl rfl (arw_ok rfl rfl rfl rfl) ?_
 refine AO.pu T ?_
 refine AO.nil ?_
 refine AW.le (Le.ct 0 0 (σ' := (⟨[(0, .R 1), (3, w64 (v208 + 1)), (4, .r 1 v147.toNat (sA.length - v147.toNat)), (5, v210)], [(1, .row 1 (List.map encInt (v209.set v208.toNat x212)))], 61, [(1, L 1)]⟩ : St)) (hpin := ⟨⟨rfl, rfl⟩, trivial⟩)) ?_
 refine AW.region ?_
 refine AO.pu T ?_
 refine AO.val rfl rfl (arw_ok rfl rfl rfl rfl) ?_
 refine AO.pu T ?_
 refine AO.nil ?_
 refine ⟨(k192, (v209.set v208.toNat x212), w64 (v208 + 1), (v209.set v208.toNat x212), w64 (v210 + 1)), hH, Nat.lt_succ_self _, ?_⟩
 exact Le.ct 0 0 (hpin := ⟨⟨rfl, rfl⟩, trivial⟩)
 replace hH := condF hc hH
 refine AW.skip ?_
 refine AW.region ?_
 refine AO.pu T ?_
 refine AO.val rfl rfl (arw_ok rfl rfl rfl rfl) ?_
 refine AO.pu T ?_
 refine AO.nil ?_
 refine ⟨(k192, v209, v208, v209, w64 (v210 + 1)), hH, Nat.lt_succ_self _, ?_⟩
 exact Le.ct 0 0 (hpin := ⟨⟨rfl, rfl⟩, trivial⟩)
 replace hH := condF hc hH
 refine AW.exit ?_
 refine AW.seq ?_
 obtain ⟨u218, hx219, hH⟩ := bindE hH
 refine AW.region ?_
 iterate 2 refine AO.pu T ?_
 refine AO.val rfl rfl (slice_row_lo T rfl rfl rfl rfl rfl rfl (needT (hx219))) ?_
 refine AO.step rfl (clear_r_ok T (f := encInt) (zo := 0) rfl rfl rfl rfl (by decide) rfl (by repeat constructor) rfl rfl (by have := inB_iff (needT (hx219)); omega) rfl) ?_
 refine AO.nil (AW.seq ?_)
 obtain ⟨u220, hx221, hH⟩ := bindE hH
 refine AW.region ?_
 iterate 2 refine AO.pu T ?_
 refine AO.val rfl rfl (slice_row_hi T rfl rfl rfl rfl rfl rfl (needT (hx221))) ?_
 refine AO.pu T ?_
 refine AO.nil (AW.ret ?_)
 obtain rfl := someE hH
 replace hH := hK185
 have hR := someE hH; subst hR
 exact ⟨trivial, rfl, _, [1], [], rfl, expLG_cons (.c .u) (expLG_nil), .c (.c (.partM rfl (by have := inB_iff (needT (hx221)); omega))), by decide⟩
 replace hH := condF hc hH
 refine AW.skip ?_
 refine ⟨_, someE hH, ?_⟩
 exact Le.ct 0 0 (hpin := ⟨⟨rfl, rfl⟩, trivial⟩)
 rintro _ hs
 subst hs
 replace hH := hK185
 try dsimp only [flow, flowE] at hH
 try dsimp only
 refine AW.region ?_
 refine AO.pu T ?_
 refine AO.val rfl rfl (arw_ok rfl rfl rfl rfl) ?_
 refine AO.pu T ?_
 refine AO.nil ?_
 refine ⟨(k1, w64 (v147 + 1)), hH, Nat.lt_succ_self _, ?_⟩
 exact Le.ct 0 0 (hpin := ⟨⟨rfl, rfl⟩, trivial⟩)
 replace hH := condF hc hH
 refine AW.exit ?_
 refine AW.seq (AW.region ?_)
 iterate 2 refine AO.pu T ?_
 refine AO.nil (AW.ret ?_)
 have hR := someE hH; subst hR
 exact ⟨trivial, rfl, _, [1], [], rfl, expLG_cons (.c .u) (expLG_nil), .c (.c (.rowR rfl)), by decide⟩

def impl_ClubsOfPanel_l1 (l : List Official) (fuel : Nat) : List Int → Nat → List Int → Option (((List Int) × Bool))
  | [], k5, v20 =>
    (slices_Sort_int_p v20).bind fun x22 =>
    (slices_Compact_int_p fuel x22).bind fun x24 =>
    some (x24, true)
  | y6 :: ys7, k5, v20 =>
    (impl_clubOf_p l y6).bind fun x26 =>
    cond (x26 == 0)
      (some ([], false))
      ((need (fitsB 8 (v20.length + ([x26]).length))).bind fun u28 =>
      impl_ClubsOfPanel_l1 l fuel ys7 (k5 + 1) (v20 ++ [x26]))
def impl_ClubsOfPanel_p (fuel : Nat) (l : List Official) (panel : List Int) : Option ((List Int) × Bool) :=
  (impl_AreOfficials_p l).bind fun x1 =>
  (opt (!(!x1)) default (impl_isIncreasing_p panel 1000)).bind fun x3 =>
  cond ((!x1) || (!x3))
    (some ([], false))
    (impl_ClubsOfPanel_l1 l fuel panel 0 [])
theorem impl_ClubsOfPanel_ok (fuel : Nat) (l : List Official) (panel : List Int) (r : ((List Int) × Bool)) (hH : impl_ClubsOfPanel_p fuel l panel = some r) : SpecR Try.prog 19 [.s (List.map encOfficial l), .s (List.map encInt panel)] (.t [.w 1 (r.1.map encInt), .v (.bool r.2)]) := by
 refine fn_ok T Try.func19 rfl (by decide) rfl ?_
 refine AW.seq (AW.region ?_)
 iterate 2 refine AO.pu T ?_
 refine AO.nil ?_
 iterate 2 refine AW.seq ?_
 obtain ⟨x1, hx2, hH⟩ := bindE hH
 obtain ⟨x3, hx4, hH⟩ := bindE hH
 refine AW.region ?_
 refine AO.pu T ?_
 refine AO.val rfl rfl (callV_ok rfl rfl rfl rfl (impl_AreOfficials_ok _ _ (hx2)) rfl) ?_
 iterate 2 refine AO.pu T ?_
 refine AO.pureG T [] rfl trivial rfl rfl ?_
 refine AO.guard [14] rfl ⟨fun h => h, trivial⟩ (fun hg => callV_ok rfl rfl rfl rfl (impl_isIncreasing_ok _ _ _ (optT hx4 hg)) rfl) rfl ?_
 refine AO.pureG T [15] rfl ⟨fun h => h, trivial⟩ rfl rfl ?_
 refine AO.val rfl rfl (pick_or rfl rfl rfl rfl) ?_
 refine AO.nil ?_
 refine AW.cond (b := ((!x1) || (!x3))) rfl (fun hc => ?_) (fun hc => ?_)
 replace hH := condT hc hH
 refine AW.seq (AW.region ?_)
 iterate 2 refine AO.pu T ?_
 refine AO.nil (AW.ret ?_)
 have hR := someE hH; subst hR
 exact retQ.i [] rfl (.t (expLG_cons (.c .nil) (expLG_cons (.c .v) (expLG_nil))))
 replace hH := condF hc hH
 refine AW.skip ?_
 refine AW.seq (AW.region ?_)
 refine AO.step rfl (mk0_ok T rfl rfl rfl rfl) ?_
 refine AO.pu T ?_
 refine AO.nil ?_
 iterate 2 refine AW.seq ?_
 refine AW.region ?_
 refine AO.pu T ?_
 refine AO.val rfl rfl (len_map_ok T rfl rfl rfl) ?_
 refine AO.pu T ?_
 refine AO.nil ?_
 refine AW.block ?_
 refine AW.loopS (fun s : Nat × (List Int) => (⟨[(0, .s (List.map encOfficial l)), (6, .R 4), (19, .s (List.map encInt panel)), (20, (panel.length : Int)), (21, (s.1 : Int))], [(4, .row 1 (List.map encInt s.2))], 39, []⟩ : St)) (fun s => s.1 ≤ panel.length ∧ impl_ClubsOfPanel_l1 l fuel (panel.drop s.1) s.1 s.2 = some r) (fun s => panel.length - s.1) (0, []) ⟨Nat.zero_le _, hH⟩ ?_ ?_
 refine Le.trans (Le.void 6 4 1 rfl rfl) ?_
 exact Le.ct 0 0
 rintro ⟨k5, v20⟩ ⟨hk, hH⟩
 replace hH : impl_ClubsOfPanel_l1 l fuel (panel.drop k5) k5 v20 = some r := hH
 try dsimp only
 refine AW.boundM (t := 19) (l := panel) rfl (fun hb9 => ?_)
 rcases hd8 : panel.drop k5 with _ | ⟨y6, ys7⟩
 rw [hd8, impl_ClubsOfPanel_l1] at hH
 have hlt10 := drop_ge hd8
 refine AW.seq (AW.region ?_)
 refine AO.pu T ?_
 refine AO.nil (AW.seq ?_)
 refine AW.condF' (b := decide ((k5 : Int) < (panel.length : Int))) rfl (rngF hlt10) ?_
 refine AW.exit ?_
 refine AW.seq ?_
 obtain ⟨x22, hx23, hH⟩ := bindE hH
 refine AW.region ?_
 refine AO.pu T ?_
 refine AO.step rfl (callM_ok rfl 5 rfl rfl (es := [.w 1 (v20.map encInt)]) (outs := [.w 1 (x22.map encInt)]) (ids := [4]) (by exact expLG_cons (.c (.rowR rfl)) (expLG_nil)) (by decide) (.inl (by rfl)) (by rfl) (slices_Sort_int_ok _ _ (hx23)) rfl (by rfl) rfl) ?_
 refine AO.nil (AW.seq ?_)
 obtain ⟨x24, hx25, hH⟩ := bindE hH
 refine AW.region ?_
 refine AO.pu T ?_
 refine AO.step rfl (callM_ok rfl 5 rfl rfl (es := [.w 1 (x22.map encInt)]) (outs := [.u]) (ids := [4]) (by exact expLG_cons (.c (.rowR rfl)) (expLG_nil)) (by decide) (.inr (by exact (show ([] : List Nat).Nodup ∧ ∀ i ∈ ([] : List Nat), i ∈ ([4] : List Nat) from by decide))) (by rfl) (slices_Compact_int_ok fuel _ _ (hx25)) rfl (by rfl) rfl) ?_
 iterate 2 refine AO.pu T ?_
 refine AO.nil (AW.ret ?_)
 have hR := someE hH; subst hR
 exact retQ.i [5] rfl (.t (expLG_cons (.c (.rowR rfl)) (expLG_cons (.c .v) (expLG_nil))))
 rw [hd8, impl_ClubsOfPanel_l1] at hH
 have hlt10 := drop_lt hd8
 refine AW.seq (AW.region ?_)
 refine AO.pu T ?_
 refine AO.nil (AW.seq ?_)
 refine AW.condT' (b := decide ((k5 : Int) < (panel.length : Int))) rfl (rngT hlt10) ?_
 refine AW.skip ?_
 refine AW.seq ?_
 refine AW.block ?_
 refine AW.seq (AW.region ?_)
 refine AO.val rfl rfl (ix_map_ok T rfl rfl rfl rfl rfl (getI_drop hd8) rfl) ?_
 iterate 2 refine AO.pu T ?_
 refine AO.nil (AW.seq ?_)
 obtain ⟨x26, hx27, hH⟩ := bindE hH
 refine AW.region ?_
 iterate 2 refine AO.pu T ?_
 refine AO.val rfl rfl (callV_ok rfl rfl rfl rfl (impl_clubOf_ok _ _ _ (hx27)) rfl) ?_
 refine AO.pu T ?_
 refine AO.nil ?_
 iterate 2 refine AW.seq ?_
 refine AW.region ?_
 iterate 2 refine AO.pu T ?_
 refine AO.nil ?_
 refine AW.cond (b := (x26 == 0)) rfl (fun hc => ?_) (fun hc => ?_)
 replace hH := condT hc hH
 refine AW.seq (AW.region ?_)
 iterate 2 refine AO.pu T ?_
 refine AO.nil (AW.ret ?_)
 have hR := someE hH; subst hR
 exact retQ.i [] rfl (.t (expLG_cons (.c .nil) (expLG_cons (.c .v) (expLG_nil))))
 replace hH := condF hc hH
 refine AW.skip ?_
 obtain ⟨u28, hx29, hH⟩ := bindE hH
 refine AW.region ?_
 iterate 2 refine AO.pu T ?_
 refine AO.step rfl (mk_map_ok T rfl 6 rfl rfl rfl rfl rfl (f := encInt) (l := [x26]) rfl rfl (fun _ => rfl) rfl rfl rfl rfl rfl) ?_
 refine AO.step rfl (app_rv_map T rfl 7 rfl rfl rfl rfl rfl (by decide) rfl rfl rfl rfl (fun _ => rfl) (needT (hx29)) rfl rfl) ?_
 refine AO.pu T ?_
 refine AO.nil ?_
 refine AW.region ?_
 refine AO.val rfl rfl (ar_ok rfl rfl rfl rfl (inI_succ hlt10 hb9)) ?_
 refine AO.pu T ?_
 refine AO.nil ?_
 refine ⟨(k5 + 1, (v20 ++ [x26])), ⟨Nat.succ_le_of_lt hlt10, (by rw [drop_succ_of hd8]; exact hH)⟩, (by have := hlt10; dsimp only; omega), ?_⟩
 exact Le.ct 7 4

def spec_ClubsOfPanel_l1 (l : List Official) (fuel : Nat) : List Int → Nat → List Int → Option (((List Int) × Bool))
  | [], k5, v24 =>
    some (v24, true)
  | y6 :: ys7, k5, v24 =>
    (spec_paFind_p l y6).bind fun x26 =>
    cond (decide (x26 < 0))
      (some ([], false))
      ((getI l x26).bind fun x28 =>
      (spec_l1Put_p fuel v24 x28.club).bind fun x30 =>
      spec_ClubsOfPanel_l1 l fuel ys7 (k5 + 1) x30)
def spec_ClubsOfPanel_p (fuel : Nat) (l : List Official) (panel : List Int) : Option ((List Int) × Bool) :=
  (spec_paOfficials_p l).bind fun x1 =>
  (opt (!(!x1)) default (spec_l1Rising_p panel 1 999)).bind fun x3 =>
  cond ((!x1) || (!x3))
    (some ([], false))
    (spec_ClubsOfPanel_l1 l fuel panel 0 [])
theorem spec_ClubsOfPanel_ok (fuel : Nat) (l : List Official) (panel : List Int) (r : ((List Int) × Bool)) (hH : spec_ClubsOfPanel_p fuel l panel = some r) : SpecR Try.prog 20 [.s (List.map encOfficial l), .s (List.map encInt panel)] (.t [.w 1 (r.1.map encInt), .v (.bool r.2)]) := by
 refine fn_ok T Try.func20 rfl (by decide) rfl ?_
 refine AW.seq (AW.region ?_)
 iterate 2 refine AO.pu T ?_
 refine AO.nil ?_
 iterate 2 refine AW.seq ?_
 obtain ⟨x1, hx2, hH⟩ := bindE hH
 obtain ⟨x3, hx4, hH⟩ := bindE hH
 refine AW.region ?_
 refine AO.pu T ?_
 refine AO.val rfl rfl (callV_ok rfl rfl rfl rfl (spec_paOfficials_ok _ _ (hx2)) rfl) ?_
 iterate 2 refine AO.pu T ?_
 refine AO.pureG T [] rfl trivial rfl rfl ?_
 refine AO.guard [14] rfl ⟨fun h => h, trivial⟩ (fun hg => callV_ok rfl rfl rfl rfl (spec_l1Rising_ok _ _ _ _ (optT hx4 hg)) rfl) rfl ?_
 refine AO.pureG T [15] rfl ⟨fun h => h, trivial⟩ rfl rfl ?_
 refine AO.val rfl rfl (pick_or rfl rfl rfl rfl) ?_
 refine AO.nil ?_
 refine AW.cond (b := ((!x1) || (!x3))) rfl (fun hc => ?_) (fun hc => ?_)
 replace hH := condT hc hH
 refine AW.seq (AW.region ?_)
 iterate 2 refine AO.pu T ?_
 refine AO.nil (AW.ret ?_)
 have hR := someE hH; subst hR
 exact retQ.i [] rfl (.t (expLG_cons (.c .nil) (expLG_cons (.c .v) (expLG_nil))))
 replace hH := condF hc hH
 refine AW.skip ?_
 refine AW.seq (AW.region ?_)
 refine AO.pu T ?_
 refine AO.nil ?_
 iterate 2 refine AW.seq ?_
 refine AW.region ?_
 refine AO.pu T ?_
 refine AO.val rfl rfl (len_map_ok T rfl rfl rfl) ?_
 refine AO.pu T ?_
 refine AO.nil ?_
 refine AW.block ?_
 refine AW.loopS (fun s : Nat × (List Int) => (⟨[(0, .s (List.map encOfficial l)), (6, .R 2), (18, .s (List.map encInt panel)), (19, (panel.length : Int)), (20, (s.1 : Int))], [(2, .row 1 (List.map encInt s.2))], 38, []⟩ : St)) (fun s => s.1 ≤ panel.length ∧ spec_ClubsOfPanel_l1 l fuel (panel.drop s.1) s.1 s.2 = some r) (fun s => panel.length - s.1) (0, []) ⟨Nat.zero_le _, hH⟩ ?_ ?_
 refine Le.trans (Le.void 6 2 1 rfl rfl) ?_
 exact Le.ct 0 0
 rintro ⟨k5, v24⟩ ⟨hk, hH⟩
 replace hH : spec_ClubsOfPanel_l1 l fuel (panel.drop k5) k5 v24 = some r := hH
 try dsimp only
 refine AW.boundM (t := 18) (l := panel) rfl (fun hb9 => ?_)
 rcases hd8 : panel.drop k5 with _ | ⟨y6, ys7⟩
 rw [hd8, spec_ClubsOfPanel_l1] at hH
 have hlt10 := drop_ge hd8
 refine AW.seq (AW.region ?_)
 refine AO.pu T ?_
 refine AO.nil (AW.seq ?_)
 refine AW.condF' (b := decide ((k5 : Int) < (panel.length : Int))) rfl (rngF hlt10) ?_
 refine AW.exit ?_
 refine AW.seq (AW.region ?_)
 iterate 3 refine AO.pu T ?_
 refine AO.nil (AW.ret ?_)
 have hR := someE hH; subst hR
 exact retQ.i [2] rfl (.t (expLG_cons (.c (.rowR rfl)) (expLG_cons (.c .v) (expLG_nil))))
 rw [hd8, spec_ClubsOfPanel_l1] at hH
 have hlt10 := drop_lt hd8
 refine AW.seq (AW.region ?_)
 refine AO.pu T ?_
 refine AO.nil (AW.seq ?_)
 refine AW.condT' (b := decide ((k5 : Int) < (panel.length : Int))) rfl (rngT hlt10) ?_
 refine AW.skip ?_
 refine AW.seq ?_
 refine AW.block ?_
 refine AW.seq (AW.region ?_)
 refine AO.val rfl rfl (ix_map_ok T rfl rfl rfl rfl rfl (getI_drop hd8) rfl) ?_
 iterate 2 refine AO.pu T ?_
 refine AO.nil (AW.seq ?_)
 obtain ⟨x26, hx27, hH⟩ := bindE hH
 refine AW.region ?_
 iterate 2 refine AO.pu T ?_
 refine AO.val rfl rfl (callV_ok rfl rfl rfl rfl (spec_paFind_ok _ _ _ (hx27)) rfl) ?_
 refine AO.pu T ?_
 refine AO.nil ?_
 iterate 2 refine AW.seq ?_
 refine AW.region ?_
 iterate 2 refine AO.pu T ?_
 refine AO.nil ?_
 refine AW.cond (b := decide (x26 < 0)) rfl (fun hc => ?_) (fun hc => ?_)
 replace hH := condT hc hH
 refine AW.seq (AW.region ?_)
 iterate 2 refine AO.pu T ?_
 refine AO.nil (AW.ret ?_)
 have hR := someE hH; subst hR
 exact retQ.i [] rfl (.t (expLG_cons (.c .nil) (expLG_cons (.c .v) (expLG_nil))))
 replace hH := condF hc hH
 refine AW.skip ?_
 obtain ⟨x28, hx29, hH⟩ := bindE hH
 obtain ⟨x30, hx31, hH⟩ := bindE hH
 refine AW.region ?_
 iterate 3 refine AO.pu T ?_
 refine AO.val rfl rfl (ix_map_ok T rfl rfl rfl rfl rfl (hx29) rfl) ?_
 iterate 2 refine AO.pu T ?_
 refine AO.step rfl (callM_ok rfl 3 rfl rfl (es := [.w 1 (v24.map encInt), .v (.int .i64 x28.club)]) (outs := [.u, .u]) (ids := [2]) (by exact expLG_cons (.c (.rowR rfl)) (expLG_cons (.c .v) (expLG_nil))) (by decide) (.inr (by exact (show ([] : List Nat).Nodup ∧ ∀ i ∈ ([] : List Nat), i ∈ ([2] : List Nat) from by decide))) (by rfl) (spec_l1Put_ok fuel _ _ _ (hx31)) rfl (by rfl) rfl) ?_
 refine AO.pu T ?_
 refine AO.nil ?_
 refine AW.region ?_
 refine AO.val rfl rfl (ar_ok rfl rfl rfl rfl (inI_succ hlt10 hb9)) ?_
 refine AO.pu T ?_
 refine AO.nil ?_
 refine ⟨(k5 + 1, x30), ⟨Nat.succ_le_of_lt hlt10, (by rw [drop_succ_of hd8]; exact hH)⟩, (by have := hlt10; dsimp only; omega), ?_⟩
 exact Le.ct 3 2

def laws_pIn_l1 (n : Int) : List Int → Nat → Option Bool
  | [], k1 =>
    some false
  | y2 :: ys3, k1 =>
    cond (y2 == n)
      (some true)
      (laws_pIn_l1 n ys3 (k1 + 1))
def laws_pIn_p (l : List Int) (n : Int) : Option Bool :=
  laws_pIn_l1 n l 0
theorem laws_pIn_ok (l : List Int) (n : Int) (r : Bool) (hH : laws_pIn_p l n = some r) : SpecR Try.prog 21 [.s (List.map encInt l), n] (.v (.bool r)) := by
 refine fn_ok T Try.func21 rfl (by decide) rfl ?_
 refine AW.seq (AW.region ?_)
 refine AO.pu T ?_
 refine AO.nil ?_
 iterate 2 refine AW.seq ?_
 refine AW.region ?_
 refine AO.pu T ?_
 refine AO.val rfl rfl (len_map_ok T rfl rfl rfl) ?_
 refine AO.pu T ?_
 refine AO.nil ?_
 refine AW.block ?_
 refine AW.loopS (fun s : Nat => (⟨[(1, n), (7, .s (List.map encInt l)), (8, (l.length : Int)), (9, (s : Int))], [], 17, []⟩ : St)) (fun s => s ≤ l.length ∧ laws_pIn_l1 n (l.drop s) s = some r) (fun s => l.length - s) 0 ⟨Nat.zero_le _, hH⟩ ?_ ?_
 exact Le.ct 0 0
 rintro k1 ⟨hk, hH⟩
 replace hH : laws_pIn_l1 n (l.drop k1) k1 = some r := hH
 try dsimp only
 refine AW.boundM (t := 7) (l := l) rfl (fun hb5 => ?_)
 rcases hd4 : l.drop k1 with _ | ⟨y2, ys3⟩
 rw [hd4, laws_pIn_l1] at hH
 have hlt6 := drop_ge hd4
 refine AW.seq (AW.region ?_)
 refine AO.pu T ?_
 refine AO.nil (AW.seq ?_)
 refine AW.condF' (b := decide ((k1 : Int) < (l.length : Int))) rfl (rngF hlt6) ?_
 refine AW.exit ?_
 refine AW.seq (AW.region ?_)
 refine AO.pu T ?_
 refine AO.nil (AW.ret ?_)
 have hR := someE hH; subst hR
 exact retQ.i [] rfl (.c (.c .v))
 rw [hd4, laws_pIn_l1] at hH
 have hlt6 := drop_lt hd4
 refine AW.seq (AW.region ?_)
 refine AO.pu T ?_
 refine AO.nil (AW.seq ?_)
 refine AW.condT' (b := decide ((k1 : Int) < (l.length : Int))) rfl (rngT hlt6) ?_
 refine AW.skip ?_
 refine AW.seq ?_
 refine AW.block ?_
 refine AW.seq (AW.region ?_)
 refine AO.val rfl rfl (ix_map_ok T rfl rfl rfl rfl rfl (getI_drop hd4) rfl) ?_
 iterate 2 refine AO.pu T ?_
 refine AO.nil (AW.seq ?_)
 refine AW.region ?_
 iterate 3 refine AO.pu T ?_
 refine AO.nil ?_
 refine AW.cond (b := (y2 == n)) rfl (fun hc => ?_) (fun hc => ?_)
 replace hH := condT hc hH
 refine AW.seq (AW.region ?_)
 refine AO.pu T ?_
 refine AO.nil (AW.ret ?_)
 have hR := someE hH; subst hR
 exact retQ.i [] rfl (.c (.c .v))
 replace hH := condF hc hH
 refine AW.skip ?_
 refine AW.region ?_
 refine AO.val rfl rfl (ar_ok rfl rfl rfl rfl (inI_succ hlt6 hb5)) ?_
 refine AO.pu T ?_
 refine AO.nil ?_
 refine ⟨k1 + 1, ⟨Nat.succ_le_of_lt hlt6, (by rw [drop_succ_of hd4]; exact hH)⟩, (by have := hlt6; dsimp only; omega), ?_⟩
 exact Le.ct 0 0

def spec_DrawIsPanel_l1 (fuel : Nat) (x1 : (L1Cur × (List Official))) (x3 : (L1Cur × (List Int))) (x5 : (L1Cur × Int)) (x7 : (L1Cur × Int)) : List Official → Nat → List Int → Option (((List Official) × (List Int) × Int × Int × (List Int)))
  | [], k35, v46 =>
    some (x1.2, x3.2, x5.2, x7.2, v46)
  | y36 :: ys37, k35, v46 =>
    cond (decide ((v46.length : Int) < 10))
      ((spec_l1Put_p fuel v46 y36.number).bind fun x48 =>
      spec_DrawIsPanel_l1 fuel x1 x3 x5 x7 ys37 (k35 + 1) x48)
      (spec_DrawIsPanel_l1 fuel x1 x3 x5 x7 ys37 (k35 + 1) v46)
def spec_DrawIsPanel_l2 (fuel : Nat) (x1 : (L1Cur × (List Official))) (x3 : (L1Cur × (List Int))) (x5 : (L1Cur × Int)) (x7 : (L1Cur × Int)) : List Official → Nat → List Int → Option (((List Official) × (List Int) × Int × Int × (List Int)))
  | [], k68, v79 =>
    some (x1.2, x3.2, x5.2, x7.2, v79)
  | y69 :: ys70, k68, v79 =>
    cond (decide ((v79.length : Int) < 10))
      ((spec_l1Put_p fuel v79 y69.number).bind fun x81 =>
      spec_DrawIsPanel_l2 fuel x1 x3 x5 x7 ys70 (k68 + 1) x81)
      (spec_DrawIsPanel_l2 fuel x1 x3 x5 x7 ys70 (k68 + 1) v79)
def spec_DrawIsPanel_p (fuel : Nat) (code : List Int) : Option ((List Official) × (List Int) × Int × Int × (List Int)) :=
  (spec_l1Cur_officials_p fuel (L1Cur.mk code 0 0)).bind fun x1 =>
  (spec_l1Cur_conflicts_p fuel (L1Cur.mk x1.1.code x1.1.at' x1.1.seed)).bind fun x3 =>
  (spec_l1Cur_grade_p (L1Cur.mk x3.1.code x3.1.at' x3.1.seed)).bind fun x5 =>
  (spec_l1Cur_atMost_p (L1Cur.mk x5.1.code x5.1.at' x5.1.seed)).bind fun x7 =>
  (spec_l1Cur_pick_p (L1Cur.mk x7.1.code x7.1.at' x7.1.seed) 99).bind fun x9 =>
  (spec_l1Cur_pick_p (L1Cur.mk x9.1.code x9.1.at' x9.1.seed) 4).bind fun x11 =>
  (spec_PanelOf_p fuel [x9.2] x1.2 x3.2 x5.2 x7.2 (w64 (1 + x11.2))).bind fun x13 =>
  cond (!x13.2)
    ((spec_l1Cur_pick_p (L1Cur.mk x11.1.code x11.1.at' x11.1.seed) 99).bind fun x15 =>
    (spec_l1Cur_pick_p (L1Cur.mk x15.1.code x15.1.at' x15.1.seed) 6).bind fun x17 =>
    cond (x17.2 == 0)
      ((getI [x15.2] 0).bind fun x19 =>
      (spec_l1Cur_among_p (L1Cur.mk x17.1.code x17.1.at' x17.1.seed) [999, 1, x19]).bind fun x21 =>
      (need (fitsB 8 (([x15.2]).length + ([x21.2]).length))).bind fun u23 =>
      some (x1.2, x3.2, x5.2, x7.2, ([x15.2] ++ [x21.2])))
      (cond (x17.2 == 1)
        ((sliceLo [x15.2] 1).bind fun x25 =>
        some (x1.2, x3.2, x5.2, x7.2, x25))
        (cond (x17.2 == 2)
          (cond (decide ((x1.2.length : Int) > 0))
            ((spec_l1Cur_pick_p (L1Cur.mk x17.1.code x17.1.at' x17.1.seed) (x1.2.length : Int)).bind fun x27 =>
            (getI x1.2 x27.2).bind fun x29 =>
            (spec_l1Put_p fuel [x15.2] x29.number).bind fun x31 =>
            some (x1.2, x3.2, x5.2, x7.2, x31))
            (some (x1.2, x3.2, x5.2, x7.2, [x15.2])))
          (cond (x17.2 == 3)
            ((spec_l1Cur_one_p (L1Cur.mk x17.1.code x17.1.at' x17.1.seed) 3).bind fun x33 =>
            cond x33.2
              (spec_DrawIsPanel_l1 fuel x1 x3 x5 x7 x1.2 0 [])
              (some (x1.2, x3.2, x5.2, x7.2, [x15.2])))
            (some (x1.2, x3.2, x5.2, x7.2, [x15.2]))))))
    ((spec_l1Cur_pick_p (L1Cur.mk x11.1.code x11.1.at' x11.1.seed) 6).bind fun x50 =>
    cond (x50.2 == 0)
      ((getI x13.1 0).bind fun x52 =>
      (spec_l1Cur_among_p (L1Cur.mk x50.1.code x50.1.at' x50.1.seed) [999, 1, x52]).bind fun x54 =>
      (need (fitsB 8 (x13.1.length + ([x54.2]).length))).bind fun u56 =>
      some (x1.2, x3.2, x5.2, x7.2, (x13.1 ++ [x54.2])))
      (cond (x50.2 == 1)
        ((sliceLo x13.1 1).bind fun x58 =>
        some (x1.2, x3.2, x5.2, x7.2, x58))
        (cond (x50.2 == 2)
          (cond (decide ((x1.2.length : Int) > 0))
            ((spec_l1Cur_pick_p (L1Cur.mk x50.1.code x50.1.at' x50.1.seed) (x1.2.length : Int)).bind fun x60 =>
            (getI x1.2 x60.2).bind fun x62 =>
            (spec_l1Put_p fuel x13.1 x62.number).bind fun x64 =>
            some (x1.2, x3.2, x5.2, x7.2, x64))
            (some (x1.2, x3.2, x5.2, x7.2, x13.1)))
          (cond (x50.2 == 3)
            ((spec_l1Cur_one_p (L1Cur.mk x50.1.code x50.1.at' x50.1.seed) 3).bind fun x66 =>
            cond x66.2
              (spec_DrawIsPanel_l2 fuel x1 x3 x5 x7 x1.2 0 [])
              (some (x1.2, x3.2, x5.2, x7.2, x13.1)))
            (some (x1.2, x3.2, x5.2, x7.2, x13.1))))))
theorem spec_DrawIsPanel_ok (fuel : Nat) (code : List Int) (r : ((List Official) × (List Int) × Int × Int × (List Int))) (hH : spec_DrawIsPanel_p fuel code = some r) : SpecR Try.prog 22 [.s (List.map encInt_u8 code)] (.t [.w 3 (r.1.map encOfficial), .w 1 (r.2.1.map encInt), .v (.int .i64 r.2.2.1), .v (.int .i64 r.2.2.2.1), .s (r.2.2.2.2.map encInt)]) := by
 refine fn_ok T Try.func22 rfl (by decide) rfl ?_
 refine AW.seq (AW.region ?_)
 iterate 5 refine AO.pu T ?_
 refine AO.nil (AW.seq ?_)
 refine AW.region ?_
 refine AO.pu T ?_
 refine AO.pu T (d := .g [.s (List.map encInt_u8 code), (0 : Int), .v (.int .u64 0)]) ?_
 refine AO.step rfl (box_ok T rfl 1 rfl rfl rfl rfl) ?_
 refine AO.pu T ?_
 refine AO.nil (AW.seq ?_)
 obtain ⟨x1, hx2, hH⟩ := bindE hH
 obtain ⟨x3, hx4, hH⟩ := bindE hH
 obtain ⟨x5, hx6, hH⟩ := bindE hH
 obtain ⟨x7, hx8, hH⟩ := bindE hH
 refine AW.region ?_
 refine AO.pu T ?_
 refine AO.step rfl (callM_ok rfl 2 rfl rfl (es := [.pw (encL1Cur (L1Cur.mk code 0 0))]) (outs := [.pw (encL1Cur x1.1)]) (ids := [1]) (by exact expLG_cons (.c (.box rfl rfl)) (expLG_nil)) (by decide) (.inl (by rfl)) (by rfl) (spec_l1Cur_officials_ok fuel _ _ (hx2)) rfl (by rfl) rfl) ?_
 refine AO.pu T ?_
 refine AO.step rfl (callM_ok rfl 3 rfl rfl (es := [.pw (encL1Cur (L1Cur.mk x1.1.code x1.1.at' x1.1.seed))]) (outs := [.pw (encL1Cur x3.1)]) (ids := [1]) (by exact expLG_cons (.c (.box rfl rfl)) (expLG_nil)) (by decide) (.inl (by rfl)) (by rfl) (spec_l1Cur_conflicts_ok fuel _ _ (hx4)) rfl (by rfl) rfl) ?_
 refine AO.pu T ?_
 refine AO.step rfl (callM_ok rfl 4 rfl rfl (es := [.pw (encL1Cur (L1Cur.mk x3.1.code x3.1.at' x3.1.seed))]) (outs := [.pw (encL1Cur x5.1)]) (ids := [1]) (by exact expLG_cons (.c (.box rfl rfl)) (expLG_nil)) (by decide) (.inl (by rfl)) (by rfl) (spec_l1Cur_grade_ok _ _ (hx6)) rfl (by rfl) rfl) ?_
 refine AO.pu T ?_
 refine AO.step rfl (callM_ok rfl 4 rfl rfl (es := [.pw (encL1Cur (L1Cur.mk x5.1.code x5.1.at' x5.1.seed))]) (outs := [.pw (encL1Cur x7.1)]) (ids := [1]) (by exact expLG_cons (.c (.box rfl rfl)) (expLG_nil)) (by decide) (.inl (by rfl)) (by rfl) (spec_l1Cur_atMost_ok _ _ (hx8)) rfl (by rfl) rfl) ?_
 iterate 4 refine AO.pu T ?_
 refine AO.nil (AW.seq ?_)
 obtain ⟨x9, hx10, hH⟩ := bindE hH
 obtain ⟨x11, hx12, hH⟩ := bindE hH
 obtain ⟨x13, hx14, hH⟩ := bindE hH
 refine AW.region ?_
 refine AO.pu T ?_
 refine AO.step rfl (callM_ok rfl 4 rfl rfl (es := [.pw (encL1Cur (L1Cur.mk x7.1.code x7.1.at' x7.1.seed)), .v (.int .i64 99)]) (outs := [.pw (encL1Cur x9.1), .u]) (ids := [1]) (by exact expLG_cons (.c (.box rfl rfl)) (expLG_cons (.c .v) (expLG_nil))) (by decide) (.inl (by rfl)) (by rfl) (spec_l1Cur_pick_ok _ _ _ (hx10)) rfl (by rfl) rfl) ?_
 refine AO.step rfl (mk_map_ok T rfl 4 rfl rfl rfl rfl rfl (f := encInt) (l := [x9.2]) rfl rfl (fun _ => rfl) rfl rfl rfl rfl rfl) ?_
 iterate 5 refine AO.pu T ?_
 refine AO.step rfl (callM_ok rfl 5 rfl rfl (es := [.pw (encL1Cur (L1Cur.mk x9.1.code x9.1.at' x9.1.seed)), .v (.int .i64 4)]) (outs := [.pw (encL1Cur x11.1), .u]) (ids := [1]) (by exact expLG_cons (.c (.box rfl rfl)) (expLG_cons (.c .v) (expLG_nil))) (by decide) (.inl (by rfl)) (by rfl) (spec_l1Cur_pick_ok _ _ _ (hx12)) rfl (by rfl) rfl) ?_
 refine AO.val rfl rfl (arw_ok rfl rfl rfl rfl) ?_
 refine AO.step rfl (callL_ok rfl 5 rfl rfl (es := [.s (List.map encInt [x9.2]), .s (List.map encOfficial x1.2), .s (List.map encInt x3.2), x5.2, x7.2, w64 (1 + x11.2)]) (by exact ⟨(.rowR rfl (.map fun y => .vs rfl)), (.rowR rfl (.map fun y => .vs rfl)), (.rowR rfl (.map fun y => .vs rfl)), .free rfl, .free rfl, .free rfl, trivial⟩) (spec_PanelOf_ok fuel _ _ _ _ _ _ _ (hx14)) (zfree_t (zfl (.cons (zfree_map (fun y => (.cons (zfree_v _) .nil))) (.cons (zfree_v _) .nil)))) rfl rfl rfl) ?_
 iterate 5 refine AO.pu T ?_
 refine AO.nil ?_
 refine AW.le (Le.ct 0 0 (σ' := (⟨[(7, .p 1 0), (8, .R 2), (9, .R 3), (10, x5.2), (11, x7.2), (12, .R 5), (13, .v (.bool x13.2))], [(1, .box [.s (List.map encInt_u8 x11.1.code), x11.1.at', .v (.int .u64 x11.1.seed)]), (2, .row 3 (List.map encOfficial x1.2)), (3, .row 1 (List.map encInt x3.2)), (5, .row 1 (List.map encInt x13.1))], 101, []⟩ : St))) ?_
 iterate 2 refine AW.seq ?_
 refine AW.region ?_
 iterate 2 refine AO.pu T ?_
 refine AO.nil ?_
 refine AW.cond (b := (!x13.2)) rfl (fun hc => ?_) (fun hc => ?_)
 replace hH := condT hc hH
 obtain ⟨x15, hx16, hH⟩ := bindE hH
 refine AW.region ?_
 refine AO.pu T ?_
 refine AO.step rfl (callM_ok rfl 6 rfl rfl (es := [.pw (encL1Cur (L1Cur.mk x11.1.code x11.1.at' x11.1.seed)), .v (.int .i64 99)]) (outs := [.pw (encL1Cur x15.1), .u]) (ids := [1]) (by exact expLG_cons (.c (.box rfl rfl)) (expLG_cons (.c .v) (expLG_nil))) (by decide) (.inl (by rfl)) (by rfl) (spec_l1Cur_pick_ok _ _ _ (hx16)) rfl (by rfl) rfl) ?_
 refine AO.step rfl (mk_map_ok T rfl 6 rfl rfl rfl rfl rfl (f := encInt) (l := [x15.2]) rfl rfl (fun _ => rfl) rfl rfl rfl rfl rfl) ?_
 refine AO.pu T ?_
 refine AO.nil ?_
 iterate 2 refine AW.seq ?_
 obtain ⟨x17, hx18, hH⟩ := bindE hH
 refine AW.region ?_
 refine AO.pu T ?_
 refine AO.step rfl (callM_ok rfl 7 rfl rfl (es := [.pw (encL1Cur (L1Cur.mk x15.1.code x15.1.at' x15.1.seed)), .v (.int .i64 6)]) (outs := [.pw (encL1Cur x17.1), .u]) (ids := [1]) (by exact expLG_cons (.c (.box rfl rfl)) (expLG_cons (.c .v) (expLG_nil))) (by decide) (.inl (by rfl)) (by rfl) (spec_l1Cur_pick_ok _ _ _ (hx18)) rfl (by rfl) rfl) ?_
 refine AO.nil ?_
 refine AW.block ?_
 refine AW.seq (AW.region ?_)
 iterate 2 refine AO.pu T ?_
 refine AO.nil ?_
 refine AW.cond (b := (x17.2 == 0)) rfl (fun hc => ?_) (fun hc => ?_)
 replace hH := condT hc hH
 obtain ⟨x19, hx20, hH⟩ := bindE hH
 obtain ⟨x21, hx22, hH⟩ := bindE hH
 obtain ⟨u23, hx24, hH⟩ := bindE hH
 refine AW.region ?_
 iterate 3 refine AO.pu T ?_
 refine AO.val rfl rfl (ix_row_ok T rfl rfl rfl rfl rfl rfl (hx20)) ?_
 refine AO.val rfl rfl (load_row_ok T rfl rfl rfl rfl (getI_get (hx20)) rfl rfl rfl) ?_
 refine AO.step rfl (mk_map_ok T rfl 7 rfl rfl rfl rfl rfl (f := encInt) (l := [999, 1, x19]) rfl rfl (fun _ => rfl) rfl rfl rfl rfl rfl) ?_
 refine AO.le (Le.freezeM 7 (g := encInt) rfl (fun y => .vs rfl)) ?_
 refine AO.step rfl (callM_ok rfl 8 rfl rfl (es := [.pw (encL1Cur (L1Cur.mk x17.1.code x17.1.at' x17.1.seed)), .s ([999, 1, x19].map encInt)]) (outs := [.pw (encL1Cur x21.1), .u]) (ids := [1]) (by exact expLG_cons (.c (.box rfl rfl)) (expLG_cons (.c .s) (expLG_nil))) (by decide) (.inl (by rfl)) (by rfl) (spec_l1Cur_among_ok _ _ _ (hx22)) rfl (by rfl) rfl) ?_
 refine AO.step rfl (mk_map_ok T rfl 8 rfl rfl rfl rfl rfl (f := encInt) (l := [x21.2]) rfl rfl (fun _ => rfl) rfl rfl rfl rfl rfl) ?_
 refine AO.step rfl (app_rv_map T rfl 9 rfl rfl rfl rfl rfl (by decide) rfl rfl rfl rfl (fun _ => rfl) (needT (hx24)) rfl rfl) ?_
 refine AO.pu T ?_
 refine AO.nil (AW.seq ?_)
 refine AW.region ?_
 iterate 10 refine AO.pu T ?_
 refine AO.nil ?_
 refine AW.le (Le.ct 0 0 (σ' := (⟨[(2, .R 2), (3, .R 3), (4, x5.2), (5, x7.2), (6, .R 9)], [(2, .row 3 (List.map encOfficial x1.2)), (3, .row 1 (List.map encInt x3.2)), (9, .row 1 (List.map encInt ([x15.2] ++ [x21.2])))], 101, []⟩ : St))) ?_
 refine AW.le (Le.freezeM 9 (g := encInt) rfl (fun y => .vs rfl)) ?_
 refine AW.ret ?_
 have hR := someE hH; subst hR
 exact retQ.i [2, 3] rfl (.t (expLG_cons (.c (.rowR rfl)) (expLG_cons (.c (.rowR rfl)) (expLG_cons (.c .v) (expLG_cons (.c .v) (expLG_cons (.c .s) (expLG_nil)))))))
 replace hH := condF hc hH
 refine AW.seq (AW.region ?_)
 iterate 2 refine AO.pu T ?_
 refine AO.nil ?_
 refine AW.cond (b := (x17.2 == 1)) rfl (fun hc => ?_) (fun hc => ?_)
 replace hH := condT hc hH
 obtain ⟨x25, hx26, hH⟩ := bindE hH
 refine AW.le (Le.freezeM 6 (g := encInt) rfl (fun y => .vs rfl)) ?_
 refine AW.region ?_
 refine AO.pu T ?_
 refine AO.val rfl rfl (slice_lo_map_ok T rfl rfl rfl rfl rfl (hx26) (fun _ => rfl)) ?_
 refine AO.pu T ?_
 refine AO.nil (AW.seq ?_)
 refine AW.region ?_
 iterate 10 refine AO.pu T ?_
 refine AO.nil ?_
 refine AW.le (Le.ct 0 0 (σ' := (⟨[(2, .R 2), (3, .R 3), (4, x5.2), (5, x7.2), (6, .s (List.map encInt x25))], [(2, .row 3 (List.map encOfficial x1.2)), (3, .row 1 (List.map encInt x3.2))], 101, []⟩ : St))) ?_
 refine AW.ret ?_
 have hR := someE hH; subst hR
 exact retQ.i [2, 3] rfl (.t (expLG_cons (.c (.rowR rfl)) (expLG_cons (.c (.rowR rfl)) (expLG_cons (.c .v) (expLG_cons (.c .v) (expLG_cons (.c .s) (expLG_nil)))))))
 replace hH := condF hc hH
 refine AW.seq (AW.region ?_)
 iterate 2 refine AO.pu T ?_
 refine AO.nil ?_
 refine AW.cond (b := (x17.2 == 2)) rfl (fun hc => ?_) (fun hc => ?_)
 replace hH := condT hc hH
 refine AW.seq (AW.region ?_)
 refine AO.pu T ?_
 refine AO.val rfl rfl (len_row_ok T rfl rfl rfl rfl) ?_
 refine AO.pu T ?_
 refine AO.nil ?_
 refine AW.cond (b := decide ((x1.2.length : Int) > 0)) rfl (fun hc => ?_) (fun hc => ?_)
 replace hH := condT hc hH
 obtain ⟨x27, hx28, hH⟩ := bindE hH
 obtain ⟨x29, hx30, hH⟩ := bindE hH
 obtain ⟨x31, hx32, hH⟩ := bindE hH
 refine AW.region ?_
 iterate 4 refine AO.pu T ?_
 refine AO.val rfl rfl (len_row_ok T rfl rfl rfl rfl) ?_
 refine AO.step rfl (callM_ok rfl 10 rfl rfl (es := [.pw (encL1Cur (L1Cur.mk x17.1.code x17.1.at' x17.1.seed)), .v (.int .i64 (x1.2.length : Int))]) (outs := [.pw (encL1Cur x27.1), .u]) (ids := [1]) (by exact expLG_cons (.c (.box rfl rfl)) (expLG_cons (.c .v) (expLG_nil))) (by decide) (.inl (by rfl)) (by rfl) (spec_l1Cur_pick_ok _ _ _ (hx28)) rfl (by rfl) rfl) ?_
 refine AO.val rfl rfl (ix_row_ok T rfl rfl rfl rfl rfl rfl (hx30)) ?_
 refine AO.pu T ?_
 refine AO.val rfl rfl (load_row_ok T rfl rfl rfl rfl (getI_get (hx30)) rfl rfl rfl) ?_
 refine AO.step rfl (callM_ok rfl 10 rfl rfl (es := [.w 1 ([x15.2].map encInt), .v (.int .i64 x29.number)]) (outs := [.u, .u]) (ids := [6]) (by exact expLG_cons (.c (.rowR rfl)) (expLG_cons (.c .v) (expLG_nil))) (by decide) (.inr (by exact (show ([] : List Nat).Nodup ∧ ∀ i ∈ ([] : List Nat), i ∈ ([6] : List Nat) from by decide))) (by rfl) (spec_l1Put_ok fuel _ _ _ (hx32)) rfl (by rfl) rfl) ?_
 refine AO.pu T ?_
 refine AO.nil ?_
 refine AW.le (Le.ct 0 0 (σ' := (⟨[(8, .R 2), (9, .R 3), (10, x5.2), (11, x7.2), (12, .R 10)], [(2, .row 3 (List.map encOfficial x1.2)), (3, .row 1 (List.map encInt x3.2)), (10, .row 1 (List.map encInt x31))], 101, []⟩ : St))) ?_
 refine AW.seq (AW.region ?_)
 iterate 10 refine AO.pu T ?_
 refine AO.nil ?_
 refine AW.le (Le.freezeM 10 (g := encInt) rfl (fun y => .vs rfl)) ?_
 refine AW.ret ?_
 have hR := someE hH; subst hR
 exact retQ.i [2, 3] rfl (.t (expLG_cons (.c (.rowR rfl)) (expLG_cons (.c (.rowR rfl)) (expLG_cons (.c .v) (expLG_cons (.c .v) (expLG_cons (.c .s) (expLG_nil)))))))
 replace hH := condF hc hH
 refine AW.skip ?_
 refine AW.seq (AW.region ?_)
 iterate 10 refine AO.pu T ?_
 refine AO.nil ?_
 refine AW.le (Le.ct 0 0 (σ' := (⟨[(2, .R 2), (3, .R 3), (4, x5.2), (5, x7.2), (6, .R 6)], [(2, .row 3 (List.map encOfficial x1.2)), (3, .row 1 (List.map encInt x3.2)), (6, .row 1 (List.map encInt [x15.2]))], 101, []⟩ : St))) ?_
 refine AW.le (Le.freezeM 6 (g := encInt) rfl (fun y => .vs rfl)) ?_
 refine AW.ret ?_
 have hR := someE hH; subst hR
 exact retQ.i [2, 3] rfl (.t (expLG_cons (.c (.rowR rfl)) (expLG_cons (.c (.rowR rfl)) (expLG_cons (.c .v) (expLG_cons (.c .v) (expLG_cons (.c .s) (expLG_nil)))))))
 replace hH := condF hc hH
 refine AW.seq (AW.region ?_)
 iterate 2 refine AO.pu T ?_
 refine AO.nil ?_
 refine AW.cond (b := (x17.2 == 3)) rfl (fun hc => ?_) (fun hc => ?_)
 replace hH := condT hc hH
 refine AW.seq ?_
 obtain ⟨x33, hx34, hH⟩ := bindE hH
 refine AW.region ?_
 refine AO.pu T ?_
 refine AO.step rfl (callM_ok rfl 11 rfl rfl (es := [.pw (encL1Cur (L1Cur.mk x17.1.code x17.1.at' x17.1.seed)), .v (.int .i64 3)]) (outs := [.pw (encL1Cur x33.1), .u]) (ids := [1]) (by exact expLG_cons (.c (.box rfl rfl)) (expLG_cons (.c .v) (expLG_nil))) (by decide) (.inl (by rfl)) (by rfl) (spec_l1Cur_one_ok _ _ _ (hx34)) rfl (by rfl) rfl) ?_
 refine AO.nil ?_
 refine AW.cond (b := x33.2) rfl (fun hc => ?_) (fun hc => ?_)
 replace hH := condT hc hH
 refine AW.seq (AW.region ?_)
 refine AO.pu T ?_
 refine AO.nil (AW.seq ?_)
 refine AW.region ?_
 refine AO.pu T ?_
 refine AO.val rfl rfl (len_row_ok T rfl rfl rfl rfl) ?_
 refine AO.pu T ?_
 refine AO.nil ?_
 refine AW.block ?_
 refine AW.loopS (fun s : Nat × (List Int) => (⟨[(8, .R 2), (9, .R 3), (10, x5.2), (11, x7.2), (12, .R 14), (82, .R 2), (83, (x1.2.length : Int)), (84, (s.1 : Int))], [(2, .row 3 (List.map encOfficial x1.2)), (3, .row 1 (List.map encInt x3.2)), (14, .row 1 (List.map encInt s.2))], 101, []⟩ : St)) (fun s => s.1 ≤ x1.2.length ∧ spec_DrawIsPanel_l1 fuel x1 x3 x5 x7 (x1.2.drop s.1) s.1 s.2 = some r) (fun s => x1.2.length - s.1) (0, []) ⟨Nat.zero_le _, hH⟩ ?_ ?_
 refine Le.trans (Le.void 12 14 1 rfl rfl) ?_
 exact Le.ct 0 0
 rintro ⟨k35, v46⟩ ⟨hk, hH⟩
 replace hH : spec_DrawIsPanel_l1 fuel x1 x3 x5 x7 (x1.2.drop k35) k35 v46 = some r := hH
 try dsimp only
 refine AW.boundR (id := 2) (l := x1.2) rfl (fun hb39 => ?_)
 rcases hd38 : x1.2.drop k35 with _ | ⟨y36, ys37⟩
 rw [hd38, spec_DrawIsPanel_l1] at hH
 have hlt40 := drop_ge hd38
 refine AW.seq (AW.region ?_)
 refine AO.pu T ?_
 refine AO.nil (AW.seq ?_)
 refine AW.condF' (b := decide ((k35 : Int) < (x1.2.length : Int))) rfl (rngF hlt40) ?_
 refine AW.exit ?_
 refine AW.seq (AW.region ?_)
 iterate 10 refine AO.pu T ?_
 refine AO.nil ?_
 refine AW.le (Le.freezeM 14 (g := encInt) rfl (fun y => .vs rfl)) ?_
 refine AW.ret ?_
 have hR := someE hH; subst hR
 exact retQ.i [2, 3] rfl (.t (expLG_cons (.c (.rowR rfl)) (expLG_cons (.c (.rowR rfl)) (expLG_cons (.c .v) (expLG_cons (.c .v) (expLG_cons (.c .s) (expLG_nil)))))))
 rw [hd38, spec_DrawIsPanel_l1] at hH
 have hlt40 := drop_lt hd38
 refine AW.seq (AW.region ?_)
 refine AO.pu T ?_
 refine AO.nil (AW.seq ?_)
 refine AW.condT' (b := decide ((k35 : Int) < (x1.2.length : Int))) rfl (rngT hlt40) ?_
 refine AW.skip ?_
 refine AW.seq ?_
 refine AW.block ?_
 refine AW.seq (AW.region ?_)
 refine AO.val rfl rfl (ix_row_ok T rfl rfl rfl rfl rfl rfl (getI_drop hd38)) ?_
 refine AO.val rfl rfl (load_row_ok T rfl rfl rfl rfl (getI_get (getI_drop hd38)) rfl rfl rfl) ?_
 refine AO.step rfl (alloc_ok T rfl 15 rfl rfl rfl rfl rfl) ?_
 refine AO.se T [y36.number, y36.club, y36.level] ?_
 refine AO.nil (AW.seq ?_)
 refine AW.region ?_
 refine AO.pu T ?_
 refine AO.val rfl rfl (len_row_ok T rfl rfl rfl rfl) ?_
 refine AO.pu T ?_
 refine AO.nil ?_
 refine AW.cond (b := decide ((v46.length : Int) < 10)) rfl (fun hc => ?_) (fun hc => ?_)
 replace hH := condT hc hH
 obtain ⟨x48, hx49, hH⟩ := bindE hH
 refine AW.region ?_
 iterate 3 refine AO.pu T ?_
 refine AO.step rfl (callM_ok rfl 16 rfl rfl (es := [.w 1 (v46.map encInt), .v (.int .i64 y36.number)]) (outs := [.u, .u]) (ids := [14]) (by exact expLG_cons (.c (.rowR rfl)) (expLG_cons (.c .v) (expLG_nil))) (by decide) (.inr (by exact (show ([] : List Nat).Nodup ∧ ∀ i ∈ ([] : List Nat), i ∈ ([14] : List Nat) from by decide))) (by rfl) (spec_l1Put_ok fuel _ _ _ (hx49)) rfl (by rfl) rfl) ?_
 refine AO.pu T ?_
 refine AO.nil ?_
 refine AW.region ?_
 refine AO.val rfl rfl (ar_ok rfl rfl rfl rfl (inI_succ hlt40 hb39)) ?_
 refine AO.pu T ?_
 refine AO.nil ?_
 refine ⟨(k35 + 1, x48), ⟨Nat.succ_le_of_lt hlt40, (by rw [drop_succ_of hd38]; exact hH)⟩, (by have := hlt40; dsimp only; omega), ?_⟩
 exact Le.ct 16 14
 replace hH := condF hc hH
 refine AW.skip ?_
 refine AW.region ?_
 refine AO.val rfl rfl (ar_ok rfl rfl rfl rfl (inI_succ hlt40 hb39)) ?_
 refine AO.pu T ?_
 refine AO.nil ?_
 refine ⟨(k35 + 1, v46), ⟨Nat.succ_le_of_lt hlt40, (by rw [drop_succ_of hd38]; exact hH)⟩, (by have := hlt40; dsimp only; omega), ?_⟩
 exact Le.ct 0 0
 replace hH := condF hc hH
 refine AW.skip ?_
 refine AW.seq (AW.region ?_)
 iterate 10 refine AO.pu T ?_
 refine AO.nil ?_
 refine AW.le (Le.ct 0 0 (σ' := (⟨[(2, .R 2), (3, .R 3), (4, x5.2), (5, x7.2), (6, .R 6)], [(2, .row 3 (List.map encOfficial x1.2)), (3, .row 1 (List.map encInt x3.2)), (6, .row 1 (List.map encInt [x15.2]))], 101, []⟩ : St))) ?_
 refine AW.le (Le.freezeM 6 (g := encInt) rfl (fun y => .vs rfl)) ?_
 refine AW.ret ?_
 have hR := someE hH; subst hR
 exact retQ.i [2, 3] rfl (.t (expLG_cons (.c (.rowR rfl)) (expLG_cons (.c (.rowR rfl)) (expLG_cons (.c .v) (expLG_cons (.c .v) (expLG_cons (.c .s) (expLG_nil)))))))
 replace hH := condF hc hH
 refine AW.skip ?_
 refine AW.seq (AW.region ?_)
 iterate 10 refine AO.pu T ?_
 refine AO.nil ?_
 refine AW.le (Le.ct 0 0 (σ' := (⟨[(2, .R 2), (3, .R 3), (4, x5.2), (5, x7.2), (6, .R 6)], [(2, .row 3 (List.map encOfficial x1.2)), (3, .row 1 (List.map encInt x3.2)), (6, .row 1 (List.map encInt [x15.2]))], 101, []⟩ : St))) ?_
 refine AW.le (Le.freezeM 6 (g := encInt) rfl (fun y => .vs rfl)) ?_
 refine AW.ret ?_
 have hR := someE hH; subst hR
 exact retQ.i [2, 3] rfl (.t (expLG_cons (.c (.rowR rfl)) (expLG_cons (.c (.rowR rfl)) (expLG_cons (.c .v) (expLG_cons (.c .v) (expLG_cons (.c .s) (expLG_nil)))))))
 replace hH := condF hc hH
 refine AW.skip ?_
 iterate 2 refine AW.seq ?_
 obtain ⟨x50, hx51, hH⟩ := bindE hH
 refine AW.region ?_
 refine AO.pu T ?_
 refine AO.step rfl (callM_ok rfl 17 rfl rfl (es := [.pw (encL1Cur (L1Cur.mk x11.1.code x11.1.at' x11.1.seed)), .v (.int .i64 6)]) (outs := [.pw (encL1Cur x50.1), .u]) (ids := [1]) (by exact expLG_cons (.c (.box rfl rfl)) (expLG_cons (.c .v) (expLG_nil))) (by decide) (.inl (by rfl)) (by rfl) (spec_l1Cur_pick_ok _ _ _ (hx51)) rfl (by rfl) rfl) ?_
 refine AO.nil ?_
 refine AW.block ?_
 refine AW.seq (AW.region ?_)
 iterate 2 refine AO.pu T ?_
 refine AO.nil ?_
 refine AW.cond (b := (x50.2 == 0)) rfl (fun hc => ?_) (fun hc => ?_)
 replace hH := condT hc hH
 obtain ⟨x52, hx53, hH⟩ := bindE hH
 obtain ⟨x54, hx55, hH⟩ := bindE hH
 obtain ⟨u56, hx57, hH⟩ := bindE hH
 refine AW.region ?_
 iterate 3 refine AO.pu T ?_
 refine AO.val rfl rfl (ix_row_ok T rfl rfl rfl rfl rfl rfl (hx53)) ?_
 refine AO.val rfl rfl (load_row_ok T rfl rfl rfl rfl (getI_get (hx53)) rfl rfl rfl) ?_
 refine AO.step rfl (mk_map_ok T rfl 17 rfl rfl rfl rfl rfl (f := encInt) (l := [999, 1, x52]) rfl rfl (fun _ => rfl) rfl rfl rfl rfl rfl) ?_
 refine AO.le (Le.freezeM 17 (g := encInt) rfl (fun y => .vs rfl)) ?_
 refine AO.step rfl (callM_ok rfl 18 rfl rfl (es := [.pw (encL1Cur (L1Cur.mk x50.1.code x50.1.at' x50.1.seed)), .s ([999, 1, x52].map encInt)]) (outs := [.pw (encL1Cur x54.1), .u]) (ids := [1]) (by exact expLG_cons (.c (.box rfl rfl)) (expLG_cons (.c .s) (expLG_nil))) (by decide) (.inl (by rfl)) (by rfl) (spec_l1Cur_among_ok _ _ _ (hx55)) rfl (by rfl) rfl) ?_
 refine AO.step rfl (mk_map_ok T rfl 18 rfl rfl rfl rfl rfl (f := encInt) (l := [x54.2]) rfl rfl (fun _ => rfl) rfl rfl rfl rfl rfl) ?_
 refine AO.step rfl (app_rv_map T rfl 19 rfl rfl rfl rfl rfl (by decide) rfl rfl rfl rfl (fun _ => rfl) (needT (hx57)) rfl rfl) ?_
 refine AO.pu T ?_
 refine AO.nil (AW.seq ?_)
 refine AW.region ?_
 iterate 10 refine AO.pu T ?_
 refine AO.nil ?_
 refine AW.le (Le.ct 0 0 (σ' := (⟨[(2, .R 2), (3, .R 3), (4, x5.2), (5, x7.2), (6, .R 19)], [(2, .row 3 (List.map encOfficial x1.2)), (3, .row 1 (List.map encInt x3.2)), (19, .row 1 (List.map encInt (x13.1 ++ [x54.2])))], 101, []⟩ : St))) ?_
 refine AW.le (Le.freezeM 19 (g := encInt) rfl (fun y => .vs rfl)) ?_
 refine AW.ret ?_
 have hR := someE hH; subst hR
 exact retQ.i [2, 3] rfl (.t (expLG_cons (.c (.rowR rfl)) (expLG_cons (.c (.rowR rfl)) (expLG_cons (.c .v) (expLG_cons (.c .v) (expLG_cons (.c .s) (expLG_nil)))))))
 replace hH := condF hc hH
 refine AW.seq (AW.region ?_)
 iterate 2 refine AO.pu T ?_
 refine AO.nil ?_
 refine AW.cond (b := (x50.2 == 1)) rfl (fun hc => ?_) (fun hc => ?_)
 replace hH := condT hc hH
 obtain ⟨x58, hx59, hH⟩ := bindE hH
 refine AW.le (Le.freezeM 5 (g := encInt) rfl (fun y => .vs rfl)) ?_
 refine AW.region ?_
 refine AO.pu T ?_
 refine AO.val rfl rfl (slice_lo_map_ok T rfl rfl rfl rfl rfl (hx59) (fun _ => rfl)) ?_
 refine AO.pu T ?_
 refine AO.nil (AW.seq ?_)
 refine AW.region ?_
 iterate 10 refine AO.pu T ?_
 refine AO.nil (AW.ret ?_)
 have hR := someE hH; subst hR
 exact retQ.i [2, 3] rfl (.t (expLG_cons (.c (.rowR rfl)) (expLG_cons (.c (.rowR rfl)) (expLG_cons (.c .v) (expLG_cons (.c .v) (expLG_cons (.c .s) (expLG_nil)))))))
 replace hH := condF hc hH
 refine AW.seq (AW.region ?_)
 iterate 2 refine AO.pu T ?_
 refine AO.nil ?_
 refine AW.cond (b := (x50.2 == 2)) rfl (fun hc => ?_) (fun hc => ?_)
 replace hH := condT hc hH
 refine AW.seq (AW.region ?_)
 refine AO.pu T ?_
 refine AO.val rfl rfl (len_row_ok T rfl rfl rfl rfl) ?_
 refine AO.pu T ?_
 refine AO.nil ?_
 refine AW.cond (b := decide ((x1.2.length : Int) > 0)) rfl (fun hc => ?_) (fun hc => ?_)
 replace hH := condT hc hH
 obtain ⟨x60, hx61, hH⟩ := bindE hH
 obtain ⟨x62, hx63, hH⟩ := bindE hH
 obtain ⟨x64, hx65, hH⟩ := bindE hH
 refine AW.region ?_
 iterate 4 refine AO.pu T ?_
 refine AO.val rfl rfl (len_row_ok T rfl rfl rfl rfl) ?_
 refine AO.step rfl (callM_ok rfl 20 rfl rfl (es := [.pw (encL1Cur (L1Cur.mk x50.1.code x50.1.at' x50.1.seed)), .v (.int .i64 (x1.2.length : Int))]) (outs := [.pw (encL1Cur x60.1), .u]) (ids := [1]) (by exact expLG_cons (.c (.box rfl rfl)) (expLG_cons (.c .v) (expLG_nil))) (by decide) (.inl (by rfl)) (by rfl) (spec_l1Cur_pick_ok _ _ _ (hx61)) rfl (by rfl) rfl) ?_
 refine AO.val rfl rfl (ix_row_ok T rfl rfl rfl rfl rfl rfl (hx63)) ?_
 refine AO.pu T ?_
 refine AO.val rfl rfl (load_row_ok T rfl rfl rfl rfl (getI_get (hx63)) rfl rfl rfl) ?_
 refine AO.step rfl (callM_ok rfl 20 rfl rfl (es := [.w 1 (x13.1.map encInt), .v (.int .i64 x62.number)]) (outs := [.u, .u]) (ids := [5]) (by exact expLG_cons (.c (.rowR rfl)) (expLG_cons (.c .v) (expLG_nil))) (by decide) (.inr (by exact (show ([] : List Nat).Nodup ∧ ∀ i ∈ ([] : List Nat), i ∈ ([5] : List Nat) from by decide))) (by rfl) (spec_l1Put_ok fuel _ _ _ (hx65)) rfl (by rfl) rfl) ?_
 refine AO.pu T ?_
 refine AO.nil ?_
 refine AW.le (Le.ct 0 0 (σ' := (⟨[(8, .R 2), (9, .R 3), (10, x5.2), (11, x7.2), (12, .R 20)], [(2, .row 3 (List.map encOfficial x1.2)), (3, .row 1 (List.map encInt x3.2)), (20, .row 1 (List.map encInt x64))], 101, []⟩ : St))) ?_
 refine AW.seq (AW.region ?_)
 iterate 10 refine AO.pu T ?_
 refine AO.nil ?_
 refine AW.le (Le.freezeM 20 (g := encInt) rfl (fun y => .vs rfl)) ?_
 refine AW.ret ?_
 have hR := someE hH; subst hR
 exact retQ.i [2, 3] rfl (.t (expLG_cons (.c (.rowR rfl)) (expLG_cons (.c (.rowR rfl)) (expLG_cons (.c .v) (expLG_cons (.c .v) (expLG_cons (.c .s) (expLG_nil)))))))
 replace hH := condF hc hH
 refine AW.skip ?_
 refine AW.seq (AW.region ?_)
 iterate 10 refine AO.pu T ?_
 refine AO.nil ?_
 refine AW.le (Le.freezeM 5 (g := encInt) rfl (fun y => .vs rfl)) ?_
 refine AW.ret ?_
 have hR := someE hH; subst hR
 exact retQ.i [2, 3] rfl (.t (expLG_cons (.c (.rowR rfl)) (expLG_cons (.c (.rowR rfl)) (expLG_cons (.c .v) (expLG_cons (.c .v) (expLG_cons (.c .s) (expLG_nil)))))))
 replace hH := condF hc hH
 refine AW.seq (AW.region ?_)
 iterate 2 refine AO.pu T ?_
 refine AO.nil ?_
 refine AW.cond (b := (x50.2 == 3)) rfl (fun hc => ?_) (fun hc => ?_)
 replace hH := condT hc hH
 refine AW.seq ?_
 obtain ⟨x66, hx67, hH⟩ := bindE hH
 refine AW.region ?_
 refine AO.pu T ?_
 refine AO.step rfl (callM_ok rfl 21 rfl rfl (es := [.pw (encL1Cur (L1Cur.mk x50.1.code x50.1.at' x50.1.seed)), .v (.int .i64 3)]) (outs := [.pw (encL1Cur x66.1), .u]) (ids := [1]) (by exact expLG_cons (.c (.box rfl rfl)) (expLG_cons (.c .v) (expLG_nil))) (by decide) (.inl (by rfl)) (by rfl) (spec_l1Cur_one_ok _ _ _ (hx67)) rfl (by rfl) rfl) ?_
 refine AO.nil ?_
 refine AW.cond (b := x66.2) rfl (fun hc => ?_) (fun hc => ?_)
 replace hH := condT hc hH
 refine AW.seq (AW.region ?_)
 refine AO.pu T ?_
 refine AO.nil (AW.seq ?_)
 refine AW.region ?_
 refine AO.pu T ?_
 refine AO.val rfl rfl (len_row_ok T rfl rfl rfl rfl) ?_
 refine AO.pu T ?_
 refine AO.nil ?_
 refine AW.block ?_
 refine AW.loopS (fun s : Nat × (List Int) => (⟨[(8, .R 2), (9, .R 3), (10, x5.2), (11, x7.2), (12, .R 24), (82, .R 2), (83, (x1.2.length : Int)), (84, (s.1 : Int))], [(2, .row 3 (List.map encOfficial x1.2)), (3, .row 1 (List.map encInt x3.2)), (24, .row 1 (List.map encInt s.2))], 101, []⟩ : St)) (fun s => s.1 ≤ x1.2.length ∧ spec_DrawIsPanel_l2 fuel x1 x3 x5 x7 (x1.2.drop s.1) s.1 s.2 = some r) (fun s => x1.2.length - s.1) (0, []) ⟨Nat.zero_le _, hH⟩ ?_ ?_
 refine Le.trans (Le.void 12 24 1 rfl rfl) ?_
 exact Le.ct 0 0
 rintro ⟨k68, v79⟩ ⟨hk, hH⟩
 replace hH : spec_DrawIsPanel_l2 fuel x1 x3 x5 x7 (x1.2.drop k68) k68 v79 = some r := hH
 try dsimp only
 refine AW.boundR (id := 2) (l := x1.2) rfl (fun hb72 => ?_)
 rcases hd71 : x1.2.drop k68 with _ | ⟨y69, ys70⟩
 rw [hd71, spec_DrawIsPanel_l2] at hH
 have hlt73 := drop_ge hd71
 refine AW.seq (AW.region ?_)
 refine AO.pu T ?_
 refine AO.nil (AW.seq ?_)
 refine AW.condF' (b := decide ((k68 : Int) < (x1.2.length : Int))) rfl (rngF hlt73) ?_
 refine AW.exit ?_
 refine AW.seq (AW.region ?_)
 iterate 10 refine AO.pu T ?_
 refine AO.nil ?_
 refine AW.le (Le.freezeM 24 (g := encInt) rfl (fun y => .vs rfl)) ?_
 refine AW.ret ?_
 have hR := someE hH; subst hR
 exact retQ.i [2, 3] rfl (.t (expLG_cons (.c (.rowR rfl)) (expLG_cons (.c (.rowR rfl)) (expLG_cons (.c .v) (expLG_cons (.c .v) (expLG_cons (.c .s) (expLG_nil)))))))
 rw [hd71, spec_DrawIsPanel_l2] at hH
 have hlt73 := drop_lt hd71
 refine AW.seq (AW.region ?_)
 refine AO.pu T ?_
 refine AO.nil (AW.seq ?_)
 refine AW.condT' (b := decide ((k68 : Int) < (x1.2.length : Int))) rfl (rngT hlt73) ?_
 refine AW.skip ?_
 refine AW.seq ?_
 refine AW.block ?_
 refine AW.seq (AW.region ?_)
 refine AO.val rfl rfl (ix_row_ok T rfl rfl rfl rfl rfl rfl (getI_drop hd71)) ?_
 refine AO.val rfl rfl (load_row_ok T rfl rfl rfl rfl (getI_get (getI_drop hd71)) rfl rfl rfl) ?_
 refine AO.step rfl (alloc_ok T rfl 25 rfl rfl rfl rfl rfl) ?_
 refine AO.se T [y69.number, y69.club, y69.level] ?_
 refine AO.nil (AW.seq ?_)
 refine AW.region ?_
 refine AO.pu T ?_
 refine AO.val rfl rfl (len_row_ok T rfl rfl rfl rfl) ?_
 refine AO.pu T ?_
 refine AO.nil ?_
 refine AW.cond (b := decide ((v79.length : Int) < 10)) rfl (fun hc => ?_) (fun hc => ?_)
 replace hH := condT hc hH
 obtain ⟨x81, hx82, hH⟩ := bindE hH
 refine AW.region ?_
 iterate 3 refine AO.pu T ?_
 refine AO.step rfl (callM_ok rfl 26 rfl rfl (es := [.w 1 (v79.map encInt), .v (.int .i64 y69.number)]) (outs := [.u, .u]) (ids := [24]) (by exact expLG_cons (.c (.rowR rfl)) (expLG_cons (.c .v) (expLG_nil))) (by decide) (.inr (by exact (show ([] : List Nat).Nodup ∧ ∀ i ∈ ([] : List Nat), i ∈ ([24] : List Nat) from by decide))) (by rfl) (spec_l1Put_ok fuel _ _ _ (hx82)) rfl (by rfl) rfl) ?_
 refine AO.pu T ?_
 refine AO.nil ?_
 refine AW.region ?_
 refine AO.val rfl rfl (ar_ok rfl rfl rfl rfl (inI_succ hlt73 hb72)) ?_
 refine AO.pu T ?_
 refine AO.nil ?_
 refine ⟨(k68 + 1, x81), ⟨Nat.succ_le_of_lt hlt73, (by rw [drop_succ_of hd71]; exact hH)⟩, (by have := hlt73; dsimp only; omega), ?_⟩
 exact Le.ct 26 24
 replace hH := condF hc hH
 refine AW.skip ?_
 refine AW.region ?_
 refine AO.val rfl rfl (ar_ok rfl rfl rfl rfl (inI_succ hlt73 hb72)) ?_
 refine AO.pu T ?_
 refine AO.nil ?_
 refine ⟨(k68 + 1, v79), ⟨Nat.succ_le_of_lt hlt73, (by rw [drop_succ_of hd71]; exact hH)⟩, (by have := hlt73; dsimp only; omega), ?_⟩
 exact Le.ct 0 0
 replace hH := condF hc hH
 refine AW.skip ?_
 refine AW.seq (AW.region ?_)
 iterate 10 refine AO.pu T ?_
 refine AO.nil ?_
 refine AW.le (Le.ct 0 0 (σ' := (⟨[(2, .R 2), (3, .R 3), (4, x5.2), (5, x7.2), (6, .R 5)], [(2, .row 3 (List.map encOfficial x1.2)), (3, .row 1 (List.map encInt x3.2)), (5, .row 1 (List.map encInt x13.1))], 101, []⟩ : St))) ?_
 refine AW.le (Le.freezeM 5 (g := encInt) rfl (fun y => .vs rfl)) ?_
 refine AW.ret ?_
 have hR := someE hH; subst hR
 exact retQ.i [2, 3] rfl (.t (expLG_cons (.c (.rowR rfl)) (expLG_cons (.c (.rowR rfl)) (expLG_cons (.c .v) (expLG_cons (.c .v) (expLG_cons (.c .s) (expLG_nil)))))))
 replace hH := condF hc hH
 refine AW.skip ?_
 refine AW.seq (AW.region ?_)
 iterate 10 refine AO.pu T ?_
 refine AO.nil ?_
 refine AW.le (Le.freezeM 5 (g := encInt) rfl (fun y => .vs rfl)) ?_
 refine AW.ret ?_
 have hR := someE hH; subst hR
 exact retQ.i [2, 3] rfl (.t (expLG_cons (.c (.rowR rfl)) (expLG_cons (.c (.rowR rfl)) (expLG_cons (.c .v) (expLG_cons (.c .v) (expLG_cons (.c .s) (expLG_nil)))))))

def spec_IsPanel_p (fuel : Nat) (l : List Official) (clubs : List Int) (level : Int) (most : Int) (panel : List Int) : Option (Bool × Bool) :=
  (spec_paAsked_p l clubs level).bind fun x1 =>
  (opt (!(!x1)) default (spec_paMost_p most)).bind fun x3 =>
  cond ((!x1) || (!x3))
    (some (false, false))
    ((spec_paIs_p fuel l clubs level most panel).bind fun x5 =>
    some (x5, true))
theorem spec_IsPanel_ok (fuel : Nat) (l : List Official) (clubs : List Int) (level : Int) (most : Int) (panel : List Int) (r : (Bool × Bool)) (hH : spec_IsPanel_p fuel l clubs level most panel = some r) : SpecR Try.prog 23 [.s (List.map encOfficial l), .s (List.map encInt clubs), level, most, .s (List.map encInt panel)] (.t [.v (.bool r.1), .v (.bool r.2)]) := by
 refine fn_ok T Try.func23 rfl (by decide) rfl ?_
 refine AW.seq (AW.region ?_)
 iterate 2 refine AO.pu T ?_
 refine AO.nil ?_
 iterate 2 refine AW.seq ?_
 obtain ⟨x1, hx2, hH⟩ := bindE hH
 obtain ⟨x3, hx4, hH⟩ := bindE hH
 refine AW.region ?_
 iterate 3 refine AO.pu T ?_
 refine AO.val rfl rfl (callV_ok rfl rfl rfl rfl (spec_paAsked_ok _ _ _ _ (hx2)) rfl) ?_
 iterate 2 refine AO.pu T ?_
 refine AO.pureG T [] rfl trivial rfl rfl ?_
 refine AO.guard [18] rfl ⟨fun h => h, trivial⟩ (fun hg => callV_ok rfl rfl rfl rfl (spec_paMost_ok _ _ (optT hx4 hg)) rfl) rfl ?_
 refine AO.pureG T [19] rfl ⟨fun h => h, trivial⟩ rfl rfl ?_
 refine AO.val rfl rfl (pick_or rfl rfl rfl rfl) ?_
 refine AO.nil ?_
 refine AW.cond (b := ((!x1) || (!x3))) rfl (fun hc => ?_) (fun hc => ?_)
 replace hH := condT hc hH
 refine AW.seq (AW.region ?_)
 iterate 2 refine AO.pu T ?_
 refine AO.nil (AW.ret ?_)
 have hR := someE hH; subst hR
 exact retQ.i [] rfl (.t (expLG_cons (.c .v) (expLG_cons (.c .v) (expLG_nil))))
 replace hH := condF hc hH
 refine AW.skip ?_
 refine AW.seq ?_
 obtain ⟨x5, hx6, hH⟩ := bindE hH
 refine AW.region ?_
 iterate 5 refine AO.pu T ?_
 refine AO.val rfl rfl (callV_ok rfl rfl rfl rfl (spec_paIs_ok fuel _ _ _ _ _ _ (hx6)) rfl) ?_
 iterate 2 refine AO.pu T ?_
 refine AO.nil (AW.ret ?_)
 have hR := someE hH; subst hR
 exact retQ.i [] rfl (.t (expLG_cons (.c .v) (expLG_cons (.c .v) (expLG_nil))))

def laws_FnPanels_l1 (more : List Int) (fuel : Nat) (x21 : ((List Official) × (List Int) × Int)) : List Int → Nat → Option Bool
  | [], k39 =>
    (spec_DrawIsPanel_p fuel more).bind fun x50 =>
    (impl_IsPanel_p fuel x50.1 x50.2.1 x50.2.2.1 x50.2.2.2.1 x50.2.2.2.2).bind fun x52 =>
    (spec_IsPanel_p fuel x50.1 x50.2.1 x50.2.2.1 x50.2.2.2.1 x50.2.2.2.2).bind fun x54 =>
    some ((x52.2 == x54.2) && (x52.1 == x54.1))
  | y40 :: ys41, k39 =>
    (laws_pIn_p x21.2.1 y40).bind fun x56 =>
    cond x56
      (some false)
      (laws_FnPanels_l1 more fuel x21 ys41 (k39 + 1))
def laws_FnPanels_l2 (more : List Int) (fuel : Nat) (x64 : ((List Official) × (List Int) × Int)) : List Int → Nat → Option Bool
  | [], k82 =>
    (spec_DrawIsPanel_p fuel more).bind fun x93 =>
    (impl_IsPanel_p fuel x93.1 x93.2.1 x93.2.2.1 x93.2.2.2.1 x93.2.2.2.2).bind fun x95 =>
    (spec_IsPanel_p fuel x93.1 x93.2.1 x93.2.2.1 x93.2.2.2.1 x93.2.2.2.2).bind fun x97 =>
    some ((x95.2 == x97.2) && (x95.1 == x97.1))
  | y83 :: ys84, k82 =>
    (laws_pIn_p x64.2.1 y83).bind fun x99 =>
    cond x99
      (some false)
      (laws_FnPanels_l2 more fuel x64 ys84 (k82 + 1))
def laws_FnPanels_l3 (more : List Int) (fuel : Nat) (x111 : ((List Official) × (List Int) × Int)) : List Int → Nat → Option Bool
  | [], k129 =>
    (spec_DrawIsPanel_p fuel more).bind fun x140 =>
    (impl_IsPanel_p fuel x140.1 x140.2.1 x140.2.2.1 x140.2.2.2.1 x140.2.2.2.2).bind fun x142 =>
    (spec_IsPanel_p fuel x140.1 x140.2.1 x140.2.2.1 x140.2.2.2.1 x140.2.2.2.2).bind fun x144 =>
    some ((x142.2 == x144.2) && (x142.1 == x144.1))
  | y130 :: ys131, k129 =>
    (laws_pIn_p x111.2.1 y130).bind fun x146 =>
    cond x146
      (some false)
      (laws_FnPanels_l3 more fuel x111 ys131 (k129 + 1))
def laws_FnPanels_l4 (more : List Int) (fuel : Nat) (x154 : ((List Official) × (List Int) × Int)) : List Int → Nat → Option Bool
  | [], k172 =>
    (spec_DrawIsPanel_p fuel more).bind fun x183 =>
    (impl_IsPanel_p fuel x183.1 x183.2.1 x183.2.2.1 x183.2.2.2.1 x183.2.2.2.2).bind fun x185 =>
    (spec_IsPanel_p fuel x183.1 x183.2.1 x183.2.2.1 x183.2.2.2.1 x183.2.2.2.2).bind fun x187 =>
    some ((x185.2 == x187.2) && (x185.1 == x187.1))
  | y173 :: ys174, k172 =>
    (laws_pIn_p x154.2.1 y173).bind fun x189 =>
    cond x189
      (some false)
      (laws_FnPanels_l4 more fuel x154 ys174 (k172 + 1))
def laws_FnPanels_p (fuel : Nat) (code : List Int) (more : List Int) : Option Bool :=
  (laws_big_p code more).bind fun x1 =>
  cond x1
    (some true)
    ((spec_DrawPanelOf_p fuel code).bind fun x3 =>
    (impl_PanelOf_p fuel x3.1 x3.2.1 x3.2.2.1 x3.2.2.2.1 x3.2.2.2.2.1 x3.2.2.2.2.2).bind fun x5 =>
    (spec_PanelOf_p fuel x3.1 x3.2.1 x3.2.2.1 x3.2.2.2.1 x3.2.2.2.2.1 x3.2.2.2.2.2).bind fun x7 =>
    (impl_LargestPanel_p x3.2.1 x3.2.2.1 x3.2.2.2.1 x3.2.2.2.2.1).bind fun x9 =>
    (spec_LargestPanel_p fuel x3.2.1 x3.2.2.1 x3.2.2.2.1 x3.2.2.2.2.1).bind fun x11 =>
    (opt (!(!(x5.2 == x7.2))) default (laws_sameInts_p x5.1 x7.1)).bind fun x13 =>
    cond (((((!(x5.2 == x7.2)) || (!x13)) || (!(x9.2 == x11.2))) || (x9.1 != x11.1)) || (x5.2 && (!x9.2)))
      (some false)
      (cond x5.2
        ((impl_IsPanel_p fuel x3.2.1 x3.2.2.1 x3.2.2.2.1 x3.2.2.2.2.1 x5.1).bind fun x15 =>
        cond ((((!x15.2) || (!x15.1)) || ((x7.1.length : Int) != x3.2.2.2.2.2)) || decide (x3.2.2.2.2.2 > x11.1))
          (some false)
          (cond (((x9.2 && decide (x3.2.2.2.2.2 ≥ 1)) && decide (x3.2.2.2.2.2 ≤ 9)) && decide ((x3.2.1.length : Int) ≤ 14))
            ((impl_CountPanels_p fuel x3.2.1 x3.2.2.1 x3.2.2.2.1 x3.2.2.2.2.1 x3.2.2.2.2.2).bind fun x17 =>
            (spec_CountPanels_p fuel x3.2.1 x3.2.2.1 x3.2.2.2.1 x3.2.2.2.2.1 x3.2.2.2.2.2).bind fun x19 =>
            cond ((((!x17.2) || (!x19.2)) || (x17.1 != x19.1)) || (!(decide (x19.1 > 0) == decide (x3.2.2.2.2.2 ≤ x11.1))))
              (some false)
              ((spec_DrawEligibleFor_p fuel more).bind fun x21 =>
              (impl_EligibleFor_p x21.1 x21.2.1 x21.2.2).bind fun x23 =>
              (spec_EligibleFor_p fuel x21.1 x21.2.1 x21.2.2).bind fun x25 =>
              (opt (!(!(x23.2 == x25.2))) default (laws_sameInts_p x23.1 x25.1)).bind fun x27 =>
              (opt (!((!(x23.2 == x25.2)) || (!x27))) default (impl_AreOfficials_p x21.1)).bind fun x29 =>
              (opt (!((!(x23.2 == x25.2)) || (!x27))) default (spec_AreOfficials_p x21.1)).bind fun x31 =>
              cond (((!(x23.2 == x25.2)) || (!x27)) || (!(x29 == x31)))
                (some false)
                (cond x23.2
                  ((impl_ClubsOfPanel_p fuel x21.1 x23.1).bind fun x33 =>
                  (spec_ClubsOfPanel_p fuel x21.1 x25.1).bind fun x35 =>
                  (opt (!((!x33.2) || (!x35.2))) default (laws_sameInts_p x33.1 x35.1)).bind fun x37 =>
                  cond (((!x33.2) || (!x35.2)) || (!x37))
                    (some false)
                    (laws_FnPanels_l1 more fuel x21 x35.1 0))
                  ((spec_DrawIsPanel_p fuel more).bind fun x58 =>
                  (impl_IsPanel_p fuel x58.1 x58.2.1 x58.2.2.1 x58.2.2.2.1 x58.2.2.2.2).bind fun x60 =>
                  (spec_IsPanel_p fuel x58.1 x58.2.1 x58.2.2.1 x58.2.2.2.1 x58.2.2.2.2).bind fun x62 =>
                  some ((x60.2 == x62.2) && (x60.1 == x62.1))))))
            ((spec_DrawEligibleFor_p fuel more).bind fun x64 =>
            (impl_EligibleFor_p x64.1 x64.2.1 x64.2.2).bind fun x66 =>
            (spec_EligibleFor_p fuel x64.1 x64.2.1 x64.2.2).bind fun x68 =>
            (opt (!(!(x66.2 == x68.2))) default (laws_sameInts_p x66.1 x68.1)).bind fun x70 =>
            (opt (!((!(x66.2 == x68.2)) || (!x70))) default (impl_AreOfficials_p x64.1)).bind fun x72 =>
            (opt (!((!(x66.2 == x68.2)) || (!x70))) default (spec_AreOfficials_p x64.1)).bind fun x74 =>
            cond (((!(x66.2 == x68.2)) || (!x70)) || (!(x72 == x74)))
              (some false)
              (cond x66.2
                ((impl_ClubsOfPanel_p fuel x64.1 x66.1).bind fun x76 =>
                (spec_ClubsOfPanel_p fuel x64.1 x68.1).bind fun x78 =>
                (opt (!((!x76.2) || (!x78.2))) default (laws_sameInts_p x76.1 x78.1)).bind fun x80 =>
                cond (((!x76.2) || (!x78.2)) || (!x80))
                  (some false)
                  (laws_FnPanels_l2 more fuel x64 x78.1 0))
                ((spec_DrawIsPanel_p fuel more).bind fun x101 =>
                (impl_IsPanel_p fuel x101.1 x101.2.1 x101.2.2.1 x101.2.2.2.1 x101.2.2.2.2).bind fun x103 =>
                (spec_IsPanel_p fuel x101.1 x101.2.1 x101.2.2.1 x101.2.2.2.1 x101.2.2.2.2).bind fun x105 =>
                some ((x103.2 == x105.2) && (x103.1 == x105.1)))))))
        (cond (((x9.2 && decide (x3.2.2.2.2.2 ≥ 1)) && decide (x3.2.2.2.2.2 ≤ 9)) && decide ((x3.2.1.length : Int) ≤ 14))
          ((impl_CountPanels_p fuel x3.2.1 x3.2.2.1 x3.2.2.2.1 x3.2.2.2.2.1 x3.2.2.2.2.2).bind fun x107 =>
          (spec_CountPanels_p fuel x3.2.1 x3.2.2.1 x3.2.2.2.1 x3.2.2.2.2.1 x3.2.2.2.2.2).bind fun x109 =>
          cond ((((!x107.2) || (!x109.2)) || (x107.1 != x109.1)) || (!(decide (x109.1 > 0) == decide (x3.2.2.2.2.2 ≤ x11.1))))
            (some false)
            ((spec_DrawEligibleFor_p fuel more).bind fun x111 =>
            (impl_EligibleFor_p x111.1 x111.2.1 x111.2.2).bind fun x113 =>
            (spec_EligibleFor_p fuel x111.1 x111.2.1 x111.2.2).bind fun x115 =>
            (opt (!(!(x113.2 == x115.2))) default (laws_sameInts_p x113.1 x115.1)).bind fun x117 =>
            (opt (!((!(x113.2 == x115.2)) || (!x117))) default (impl_AreOfficials_p x111.1)).bind fun x119 =>
            (opt (!((!(x113.2 == x115.2)) || (!x117))) default (spec_AreOfficials_p x111.1)).bind fun x121 =>
            cond (((!(x113.2 == x115.2)) || (!x117)) || (!(x119 == x121)))
              (some false)
              (cond x113.2
                ((impl_ClubsOfPanel_p fuel x111.1 x113.1).bind fun x123 =>
                (spec_ClubsOfPanel_p fuel x111.1 x115.1).bind fun x125 =>
                (opt (!((!x123.2) || (!x125.2))) default (laws_sameInts_p x123.1 x125.1)).bind fun x127 =>
                cond (((!x123.2) || (!x125.2)) || (!x127))
                  (some false)
                  (laws_FnPanels_l3 more fuel x111 x125.1 0))
                ((spec_DrawIsPanel_p fuel more).bind fun x148 =>
                (impl_IsPanel_p fuel x148.1 x148.2.1 x148.2.2.1 x148.2.2.2.1 x148.2.2.2.2).bind fun x150 =>
                (spec_IsPanel_p fuel x148.1 x148.2.1 x148.2.2.1 x148.2.2.2.1 x148.2.2.2.2).bind fun x152 =>
                some ((x150.2 == x152.2) && (x150.1 == x152.1))))))
          ((spec_DrawEligibleFor_p fuel more).bind fun x154 =>
          (impl_EligibleFor_p x154.1 x154.2.1 x154.2.2).bind fun x156 =>
          (spec_EligibleFor_p fuel x154.1 x154.2.1 x154.2.2).bind fun x158 =>
          (opt (!(!(x156.2 == x158.2))) default (laws_sameInts_p x156.1 x158.1)).bind fun x160 =>
          (opt (!((!(x156.2 == x158.2)) || (!x160))) default (impl_AreOfficials_p x154.1)).bind fun x162 =>
          (opt (!((!(x156.2 == x158.2)) || (!x160))) default (spec_AreOfficials_p x154.1)).bind fun x164 =>
          cond (((!(x156.2 == x158.2)) || (!x160)) || (!(x162 == x164)))
            (some false)
            (cond x156.2
              ((impl_ClubsOfPanel_p fuel x154.1 x156.1).bind fun x166 =>
              (spec_ClubsOfPanel_p fuel x154.1 x158.1).bind fun x168 =>
              (opt (!((!x166.2) || (!x168.2))) default (laws_sameInts_p x166.1 x168.1)).bind fun x170 =>
              cond (((!x166.2) || (!x168.2)) || (!x170))
                (some false)
                (laws_FnPanels_l4 more fuel x154 x168.1 0))
              ((spec_DrawIsPanel_p fuel more).bind fun x191 =>
              (impl_IsPanel_p fuel x191.1 x191.2.1 x191.2.2.1 x191.2.2.2.1 x191.2.2.2.2).bind fun x193 =>
              (spec_IsPanel_p fuel x191.1 x191.2.1 x191.2.2.1 x191.2.2.2.1 x191.2.2.2.2).bind fun x195 =>
              some ((x193.2 == x195.2) && (x193.1 == x195.1))))))))
theorem laws_FnPanels_ok (fuel : Nat) (code : List Int) (more : List Int) (r : Bool) (hH : laws_FnPanels_p fuel code more = some r) : SpecR Try.prog 3 [.s (List.map encInt_u8 code), .s (List.map encInt_u8 more)] (.v (.bool r)) := by
 refine fn_ok T Try.func3 rfl (by decide) rfl ?_
 refine AW.seq (AW.region ?_)
 refine AO.pu T ?_
 refine AO.nil ?_
 iterate 2 refine AW.seq ?_
 obtain ⟨x1, hx2, hH⟩ := bindE hH
 refine AW.region ?_
 iterate 2 refine AO.pu T ?_
 refine AO.val rfl rfl (callV_ok rfl rfl rfl rfl (laws_big_ok _ _ _ (hx2)) rfl) ?_
 refine AO.nil ?_
 refine AW.cond (b := x1) rfl (fun hc => ?_) (fun hc => ?_)
 replace hH := condT hc hH
 refine AW.seq (AW.region ?_)
 refine AO.pu T ?_
 refine AO.nil (AW.ret ?_)
 have hR := someE hH; subst hR
 exact retQ.i [] rfl (.c (.c .v))
 replace hH := condF hc hH
 refine AW.skip ?_
 refine AW.seq ?_
 obtain ⟨x3, hx4, hH⟩ := bindE hH
 refine AW.region ?_
 refine AO.pu T ?_
 refine AO.step rfl (call_ok rfl 1 rfl rfl rfl (spec_DrawPanelOf_ok fuel _ _ (hx4)) rfl rfl rfl) ?_
 iterate 13 refine AO.pu T ?_
 refine AO.nil (AW.seq ?_)
 obtain ⟨x5, hx6, hH⟩ := bindE hH
 refine AW.region ?_
 iterate 6 refine AO.pu T ?_
 refine AO.step rfl (callL_ok rfl 4 rfl rfl (es := [.s (List.map encInt x3.1), .s (List.map encOfficial x3.2.1), .s (List.map encInt x3.2.2.1), x3.2.2.2.1, x3.2.2.2.2.1, x3.2.2.2.2.2]) (by exact ⟨(.rowR rfl (.map fun y => .vs rfl)), (.rowR rfl (.map fun y => .vs rfl)), (.rowR rfl (.map fun y => .vs rfl)), .free rfl, .free rfl, .free rfl, trivial⟩) (impl_PanelOf_ok fuel _ _ _ _ _ _ _ (hx6)) (zfree_t (zfl (.cons (zfree_map (fun y => (.cons (zfree_v _) .nil))) (.cons (zfree_v _) .nil)))) rfl rfl rfl) ?_
 iterate 5 refine AO.pu T ?_
 refine AO.nil ?_
 refine AW.le (Le.ct 0 0 (σ' := (⟨[(1, .s (List.map encInt_u8 more)), (5, .R 1), (6, .R 2), (7, .R 3), (8, x3.2.2.2.1), (9, x3.2.2.2.2.1), (10, x3.2.2.2.2.2), (11, .R 4), (12, .v (.bool x5.2))], [(1, .row 1 (List.map encInt x3.1)), (2, .row 3 (List.map encOfficial x3.2.1)), (3, .row 1 (List.map encInt x3.2.2.1)), (4, .row 1 (List.map encInt x5.1))], 304, []⟩ : St))) ?_
 refine AW.seq ?_
 obtain ⟨x7, hx8, hH⟩ := bindE hH
 refine AW.region ?_
 iterate 6 refine AO.pu T ?_
 refine AO.step rfl (callL_ok rfl 5 rfl rfl (es := [.s (List.map encInt x3.1), .s (List.map encOfficial x3.2.1), .s (List.map encInt x3.2.2.1), x3.2.2.2.1, x3.2.2.2.2.1, x3.2.2.2.2.2]) (by exact ⟨(.rowR rfl (.map fun y => .vs rfl)), (.rowR rfl (.map fun y => .vs rfl)), (.rowR rfl (.map fun y => .vs rfl)), .free rfl, .free rfl, .free rfl, trivial⟩) (spec_PanelOf_ok fuel _ _ _ _ _ _ _ (hx8)) (zfree_t (zfl (.cons (zfree_map (fun y => (.cons (zfree_v _) .nil))) (.cons (zfree_v _) .nil)))) rfl rfl rfl) ?_
 iterate 5 refine AO.pu T ?_
 refine AO.nil (AW.seq ?_)
 obtain ⟨x9, hx10, hH⟩ := bindE hH
 refine AW.region ?_
 iterate 4 refine AO.pu T ?_
 refine AO.val rfl rfl (callLV_ok rfl rfl rfl (es := [.s (List.map encOfficial x3.2.1), .s (List.map encInt x3.2.2.1), x3.2.2.2.1, x3.2.2.2.2.1]) ⟨(.rowR rfl (.map fun y => .vs rfl)), (.rowR rfl (.map fun y => .vs rfl)), .free rfl, .free rfl, trivial⟩ (impl_LargestPanel_ok _ _ _ _ _ (hx10)) (zfree_t (zfl (.cons (zfree_v _) (.cons (zfree_v _) .nil)))) rfl) ?_
 iterate 5 refine AO.pu T ?_
 refine AO.nil (AW.seq ?_)
 obtain ⟨x11, hx12, hH⟩ := bindE hH
 refine AW.region ?_
 iterate 4 refine AO.pu T ?_
 refine AO.val rfl rfl (callLV_ok rfl rfl rfl (es := [.s (List.map encOfficial x3.2.1), .s (List.map encInt x3.2.2.1), x3.2.2.2.1, x3.2.2.2.2.1]) ⟨(.rowR rfl (.map fun y => .vs rfl)), (.rowR rfl (.map fun y => .vs rfl)), .free rfl, .free rfl, trivial⟩ (spec_LargestPanel_ok fuel _ _ _ _ _ (hx12)) (zfree_t (zfl (.cons (zfree_v _) (.cons (zfree_v _) .nil)))) rfl) ?_
 iterate 5 refine AO.pu T ?_
 refine AO.nil ?_
 refine AW.le (Le.ct 0 0 (σ' := (⟨[(1, .s (List.map encInt_u8 more)), (6, .R 2), (7, .R 3), (8, x3.2.2.2.1), (9, x3.2.2.2.2.1), (10, x3.2.2.2.2.2), (11, .R 4), (12, .v (.bool x5.2)), (13, .R 5), (14, .v (.bool x7.2)), (15, x9.1), (16, .v (.bool x9.2)), (17, x11.1), (18, .v (.bool x11.2))], [(2, .row 3 (List.map encOfficial x3.2.1)), (3, .row 1 (List.map encInt x3.2.2.1)), (4, .row 1 (List.map encInt x5.1)), (5, .row 1 (List.map encInt x7.1))], 304, []⟩ : St))) ?_
 iterate 2 refine AW.seq ?_
 obtain ⟨x13, hx14, hH⟩ := bindE hH
 refine AW.region ?_
 iterate 4 refine AO.pu T ?_
 iterate 2 refine AO.pureG T [] rfl trivial rfl rfl ?_
 refine AO.guard [99, 100] rfl ⟨fun h => h, fun h => h, trivial⟩ (fun hg => callLV_ok rfl rfl rfl (es := [.s (List.map encInt x5.1), .s (List.map encInt x7.1)]) ⟨(.rowR rfl (.map fun y => .vs rfl)), (.rowR rfl (.map fun y => .vs rfl)), trivial⟩ (laws_sameInts_ok _ _ _ (optT hx14 hg)) (zfree_v _) rfl) rfl ?_
 refine AO.pureG T [101] rfl ⟨fun h => h, trivial⟩ rfl rfl ?_
 refine AO.val rfl rfl (pick_or rfl rfl rfl rfl) ?_
 refine AO.pu T ?_
 iterate 2 refine AO.pureG T [] rfl trivial rfl rfl ?_
 refine AO.pureG T [105, 106] rfl ⟨fun h => h, fun h => h, trivial⟩ rfl rfl ?_
 refine AO.val rfl rfl (pick_or rfl rfl rfl rfl) ?_
 refine AO.pu T ?_
 iterate 2 refine AO.pureG T [] rfl trivial rfl rfl ?_
 refine AO.pureG T [110, 111] rfl ⟨fun h => h, fun h => h, trivial⟩ rfl rfl ?_
 refine AO.val rfl rfl (pick_or rfl rfl rfl rfl) ?_
 refine AO.pu T ?_
 refine AO.pureG T [] rfl trivial rfl rfl ?_
 refine AO.pureG T [115] rfl ⟨fun h => h, trivial⟩ rfl rfl ?_
 refine AO.pureG T [] rfl trivial rfl rfl ?_
 refine AO.pureG T [117] rfl ⟨fun h => h, trivial⟩ rfl rfl ?_
 refine AO.guard [116] rfl ⟨fun h => h, trivial⟩ (fun hg => pick_and rfl rfl rfl (by rw [hg]; exact Bool.true_and _)) rfl ?_
 refine AO.val rfl rfl (pick_or rfl rfl rfl rfl) ?_
 refine AO.nil ?_
 refine AW.le (Le.ct 0 0 (σ' := (⟨[(1, .s (List.map encInt_u8 more)), (6, .R 2), (7, .R 3), (8, x3.2.2.2.1), (9, x3.2.2.2.2.1), (10, x3.2.2.2.2.2), (11, .R 4), (12, .v (.bool x5.2)), (13, .R 5), (16, .v (.bool x9.2)), (17, x11.1), (120, .v (.bool (((((!(x5.2 == x7.2)) || (!x13)) || (!(x9.2 == x11.2))) || (x9.1 != x11.1)) || (x5.2 && (!x9.2)))))], [(2, .row 3 (List.map encOfficial x3.2.1)), (3, .row 1 (List.map encInt x3.2.2.1)), (4, .row 1 (List.map encInt x5.1)), (5, .row 1 (List.map encInt x7.1))], 304, []⟩ : St))) ?_
 refine AW.cond (b := (((((!(x5.2 == x7.2)) || (!x13)) || (!(x9.2 == x11.2))) || (x9.1 != x11.1)) || (x5.2 && (!x9.2)))) rfl (fun hc => ?_) (fun hc => ?_)
 replace hH := condT hc hH
 refine AW.seq (AW.region ?_)
 refine AO.pu T ?_
 refine AO.nil (AW.ret ?_)
 have hR := someE hH; subst hR
 exact retQ.i [] rfl (.c (.c .v))
 replace hH := condF hc hH
 refine AW.skip ?_
 iterate 2 refine AW.seq ?_
 refine AW.region ?_
 refine AO.pu T ?_
 refine AO.nil ?_
 refine AW.cond (b := x5.2) rfl (fun hc => ?_) (fun hc => ?_)
 replace hH := condT hc hH
 refine AW.seq ?_
 obtain ⟨x15, hx16, hH⟩ := bindE hH
 refine AW.region ?_
 iterate 5 refine AO.pu T ?_
 refine AO.val rfl rfl (callLV_ok rfl rfl rfl (es := [.s (List.map encOfficial x3.2.1), .s (List.map encInt x3.2.2.1), x3.2.2.2.1, x3.2.2.2.2.1, .s (List.map encInt x5.1)]) ⟨(.rowR rfl (.map fun y => .vs rfl)), (.rowR rfl (.map fun y => .vs rfl)), .free rfl, .free rfl, (.rowR rfl (.map fun y => .vs rfl)), trivial⟩ (impl_IsPanel_ok fuel _ _ _ _ _ _ (hx16)) (zfree_t (zfl (.cons (zfree_v _) (.cons (zfree_v _) .nil)))) rfl) ?_
 iterate 5 refine AO.pu T ?_
 refine AO.nil (AW.seq ?_)
 refine AW.region ?_
 iterate 3 refine AO.pu T ?_
 refine AO.pureG T [] rfl trivial rfl rfl ?_
 refine AO.pureG T [134] rfl ⟨fun h => h, trivial⟩ rfl rfl ?_
 refine AO.val rfl rfl (pick_or rfl rfl rfl rfl) ?_
 refine AO.pu T ?_
 refine AO.pureG T [] rfl trivial rfl rfl ?_
 refine AO.guard [138] rfl ⟨fun h => h, trivial⟩ (fun hg => len_row_ok T rfl rfl rfl rfl) rfl ?_
 refine AO.pureG T [] rfl trivial rfl rfl ?_
 refine AO.pureG T [139, 140] rfl ⟨fun h => h, fun h => h, trivial⟩ rfl rfl ?_
 refine AO.val rfl rfl (pick_or rfl rfl rfl rfl) ?_
 refine AO.pu T ?_
 iterate 2 refine AO.pureG T [] rfl trivial rfl rfl ?_
 refine AO.pureG T [144, 145] rfl ⟨fun h => h, fun h => h, trivial⟩ rfl rfl ?_
 refine AO.val rfl rfl (pick_or rfl rfl rfl rfl) ?_
 refine AO.nil ?_
 refine AW.le (Le.ct 0 0 (σ' := (⟨[(1, .s (List.map encInt_u8 more)), (6, .R 2), (7, .R 3), (8, x3.2.2.2.1), (9, x3.2.2.2.2.1), (10, x3.2.2.2.2.2), (16, .v (.bool x9.2)), (17, x11.1), (147, .v (.bool ((((!x15.2) || (!x15.1)) || ((x7.1.length : Int) != x3.2.2.2.2.2)) || decide (x3.2.2.2.2.2 > x11.1))))], [(2, .row 3 (List.map encOfficial x3.2.1)), (3, .row 1 (List.map encInt x3.2.2.1))], 304, []⟩ : St))) ?_
 refine AW.cond (b := ((((!x15.2) || (!x15.1)) || ((x7.1.length : Int) != x3.2.2.2.2.2)) || decide (x3.2.2.2.2.2 > x11.1))) rfl (fun hc => ?_) (fun hc => ?_)
 replace hH := condT hc hH
 refine AW.seq (AW.region ?_)
 refine AO.pu T ?_
 refine AO.nil (AW.ret ?_)
 have hR := someE hH; subst hR
 exact retQ.i [] rfl (.c (.c .v))
 replace hH := condF hc hH
 refine AW.skip ?_
 iterate 2 refine AW.seq ?_
 refine AW.region ?_
 iterate 2 refine AO.pu T ?_
 refine AO.pureG T [] rfl trivial rfl rfl ?_
 refine AO.pureG T [150] rfl ⟨fun h => h, trivial⟩ rfl rfl ?_
 refine AO.val rfl rfl (pick_and rfl rfl rfl rfl) ?_
 refine AO.pu T ?_
 refine AO.pureG T [] rfl trivial rfl rfl ?_
 refine AO.pureG T [154] rfl ⟨fun h => h, trivial⟩ rfl rfl ?_
 refine AO.val rfl rfl (pick_and rfl rfl rfl rfl) ?_
 refine AO.pu T ?_
 refine AO.pureG T [] rfl trivial rfl rfl ?_
 refine AO.guard [158] rfl ⟨fun h => h, trivial⟩ (fun hg => len_row_ok T rfl rfl rfl rfl) rfl ?_
 refine AO.pureG T [159] rfl ⟨fun h => h, trivial⟩ rfl rfl ?_
 refine AO.val rfl rfl (pick_and rfl rfl rfl rfl) ?_
 refine AO.nil ?_
 refine AW.cond (b := (((x9.2 && decide (x3.2.2.2.2.2 ≥ 1)) && decide (x3.2.2.2.2.2 ≤ 9)) && decide ((x3.2.1.length : Int) ≤ 14))) rfl (fun hc => ?_) (fun hc => ?_)
 replace hH := condT hc hH
 refine AW.seq ?_
 obtain ⟨x17, hx18, hH⟩ := bindE hH
 refine AW.region ?_
 iterate 5 refine AO.pu T ?_
 refine AO.val rfl rfl (callLV_ok rfl rfl rfl (es := [.s (List.map encOfficial x3.2.1), .s (List.map encInt x3.2.2.1), x3.2.2.2.1, x3.2.2.2.2.1, x3.2.2.2.2.2]) ⟨(.rowR rfl (.map fun y => .vs rfl)), (.rowR rfl (.map fun y => .vs rfl)), .free rfl, .free rfl, .free rfl, trivial⟩ (impl_CountPanels_ok fuel _ _ _ _ _ _ (hx18)) (zfree_t (zfl (.cons (zfree_v _) (.cons (zfree_v _) .nil)))) rfl) ?_
 iterate 5 refine AO.pu T ?_
 refine AO.nil ?_
 refine AW.le (Le.ct 0 0 (σ' := (⟨[(1, .s (List.map encInt_u8 more)), (6, .R 2), (7, .R 3), (8, x3.2.2.2.1), (9, x3.2.2.2.2.1), (10, x3.2.2.2.2.2), (17, x11.1), (21, x17.1), (22, .v (.bool x17.2))], [(2, .row 3 (List.map encOfficial x3.2.1)), (3, .row 1 (List.map encInt x3.2.2.1))], 304, []⟩ : St))) ?_
 refine AW.seq ?_
 obtain ⟨x19, hx20, hH⟩ := bindE hH
 refine AW.region ?_
 iterate 5 refine AO.pu T ?_
 refine AO.val rfl rfl (callLV_ok rfl rfl rfl (es := [.s (List.map encOfficial x3.2.1), .s (List.map encInt x3.2.2.1), x3.2.2.2.1, x3.2.2.2.2.1, x3.2.2.2.2.2]) ⟨(.rowR rfl (.map fun y => .vs rfl)), (.rowR rfl (.map fun y => .vs rfl)), .free rfl, .free rfl, .free rfl, trivial⟩ (spec_CountPanels_ok fuel _ _ _ _ _ _ (hx20)) (zfree_t (zfl (.cons (zfree_v _) (.cons (zfree_v _) .nil)))) rfl) ?_
 iterate 5 refine AO.pu T ?_
 refine AO.nil (AW.seq ?_)
 refine AW.region ?_
 iterate 3 refine AO.pu T ?_
 refine AO.pureG T [] rfl trivial rfl rfl ?_
 refine AO.pureG T [183] rfl ⟨fun h => h, trivial⟩ rfl rfl ?_
 refine AO.val rfl rfl (pick_or rfl rfl rfl rfl) ?_
 refine AO.pu T ?_
 iterate 2 refine AO.pureG T [] rfl trivial rfl rfl ?_
 refine AO.pureG T [187, 188] rfl ⟨fun h => h, fun h => h, trivial⟩ rfl rfl ?_
 refine AO.val rfl rfl (pick_or rfl rfl rfl rfl) ?_
 refine AO.pu T ?_
 refine AO.pureG T [] rfl trivial rfl rfl ?_
 refine AO.pureG T [192] rfl ⟨fun h => h, trivial⟩ rfl rfl ?_
 iterate 2 refine AO.pureG T [] rfl trivial rfl rfl ?_
 refine AO.pureG T [194, 195] rfl ⟨fun h => h, fun h => h, trivial⟩ rfl rfl ?_
 refine AO.pureG T [193, 196] rfl ⟨fun h => h, fun h => h, trivial⟩ rfl rfl ?_
 refine AO.val rfl rfl (pick_or rfl rfl rfl rfl) ?_
 refine AO.nil ?_
 refine AW.le (Le.ct 0 0 (σ' := (⟨[(1, .s (List.map encInt_u8 more)), (198, .v (.bool ((((!x17.2) || (!x19.2)) || (x17.1 != x19.1)) || (!(decide (x19.1 > 0) == decide (x3.2.2.2.2.2 ≤ x11.1))))))], [], 304, []⟩ : St))) ?_
 refine AW.cond (b := ((((!x17.2) || (!x19.2)) || (x17.1 != x19.1)) || (!(decide (x19.1 > 0) == decide (x3.2.2.2.2.2 ≤ x11.1))))) rfl (fun hc => ?_) (fun hc => ?_)
 replace hH := condT hc hH
 refine AW.seq (AW.region ?_)
 refine AO.pu T ?_
 refine AO.nil (AW.ret ?_)
 have hR := someE hH; subst hR
 exact retQ.i [] rfl (.c (.c .v))
 replace hH := condF hc hH
 refine AW.skip ?_
 refine AW.seq ?_
 obtain ⟨x21, hx22, hH⟩ := bindE hH
 refine AW.region ?_
 refine AO.pu T ?_
 refine AO.step rfl (call_ok rfl 6 rfl rfl rfl (spec_DrawEligibleFor_ok fuel _ _ (hx22)) rfl rfl rfl) ?_
 iterate 7 refine AO.pu T ?_
 refine AO.nil (AW.seq ?_)
 obtain ⟨x23, hx24, hH⟩ := bindE hH
 refine AW.region ?_
 iterate 3 refine AO.pu T ?_
 refine AO.step rfl (callL_ok rfl 8 rfl rfl (es := [.s (List.map encOfficial x21.1), .s (List.map encInt x21.2.1), x21.2.2]) (by exact ⟨(.rowR rfl (.map fun y => .vs rfl)), (.rowR rfl (.map fun y => .vs rfl)), .free rfl, trivial⟩) (impl_EligibleFor_ok _ _ _ _ (hx24)) (zfree_t (zfl (.cons (zfree_map (fun y => (.cons (zfree_v _) .nil))) (.cons (zfree_v _) .nil)))) rfl rfl rfl) ?_
 iterate 5 refine AO.pu T ?_
 refine AO.nil (AW.seq ?_)
 obtain ⟨x25, hx26, hH⟩ := bindE hH
 refine AW.region ?_
 iterate 3 refine AO.pu T ?_
 refine AO.step rfl (callL_ok rfl 9 rfl rfl (es := [.s (List.map encOfficial x21.1), .s (List.map encInt x21.2.1), x21.2.2]) (by exact ⟨(.rowR rfl (.map fun y => .vs rfl)), (.rowR rfl (.map fun y => .vs rfl)), .free rfl, trivial⟩) (spec_EligibleFor_ok fuel _ _ _ _ (hx26)) (zfree_t (zfl (.cons (zfree_map (fun y => (.cons (zfree_v _) .nil))) (.cons (zfree_v _) .nil)))) rfl rfl rfl) ?_
 iterate 5 refine AO.pu T ?_
 refine AO.nil ?_
 refine AW.le (Le.ct 0 0 (σ' := (⟨[(1, .s (List.map encInt_u8 more)), (25, .R 6), (26, .R 7), (28, .R 8), (29, .v (.bool x23.2)), (30, .R 9), (31, .v (.bool x25.2))], [(6, .row 3 (List.map encOfficial x21.1)), (7, .row 1 (List.map encInt x21.2.1)), (8, .row 1 (List.map encInt x23.1)), (9, .row 1 (List.map encInt x25.1))], 304, []⟩ : St))) ?_
 iterate 2 refine AW.seq ?_
 obtain ⟨x27, hx28, hH⟩ := bindE hH
 obtain ⟨x29, hx30, hH⟩ := bindE hH
 obtain ⟨x31, hx32, hH⟩ := bindE hH
 refine AW.region ?_
 iterate 4 refine AO.pu T ?_
 iterate 2 refine AO.pureG T [] rfl trivial rfl rfl ?_
 refine AO.guard [223, 224] rfl ⟨fun h => h, fun h => h, trivial⟩ (fun hg => callLV_ok rfl rfl rfl (es := [.s (List.map encInt x23.1), .s (List.map encInt x25.1)]) ⟨(.rowR rfl (.map fun y => .vs rfl)), (.rowR rfl (.map fun y => .vs rfl)), trivial⟩ (laws_sameInts_ok _ _ _ (optT hx28 hg)) (zfree_v _) rfl) rfl ?_
 refine AO.pureG T [225] rfl ⟨fun h => h, trivial⟩ rfl rfl ?_
 refine AO.val rfl rfl (pick_or rfl rfl rfl rfl) ?_
 refine AO.pu T ?_
 refine AO.pureG T [] rfl trivial rfl rfl ?_
 refine AO.guard [229] rfl ⟨fun h => h, trivial⟩ (fun hg => callLV_ok rfl rfl rfl (es := [.s (List.map encOfficial x21.1)]) ⟨(.rowR rfl (.map fun y => .vs rfl)), trivial⟩ (impl_AreOfficials_ok _ _ (optT hx30 hg)) (zfree_v _) rfl) rfl ?_
 refine AO.pureG T [] rfl trivial rfl rfl ?_
 refine AO.guard [231] rfl ⟨fun h => h, trivial⟩ (fun hg => callLV_ok rfl rfl rfl (es := [.s (List.map encOfficial x21.1)]) ⟨(.rowR rfl (.map fun y => .vs rfl)), trivial⟩ (spec_AreOfficials_ok _ _ (optT hx32 hg)) (zfree_v _) rfl) rfl ?_
 refine AO.pureG T [230, 232] rfl ⟨fun h => h, fun h => h, trivial⟩ rfl rfl ?_
 refine AO.val rfl rfl (pick_or rfl rfl rfl rfl) ?_
 refine AO.nil ?_
 refine AW.cond (b := (((!(x23.2 == x25.2)) || (!x27)) || (!(x29 == x31)))) rfl (fun hc => ?_) (fun hc => ?_)
 replace hH := condT hc hH
 refine AW.seq (AW.region ?_)
 refine AO.pu T ?_
 refine AO.nil (AW.ret ?_)
 have hR := someE hH; subst hR
 exact retQ.i [] rfl (.c (.c .v))
 replace hH := condF hc hH
 refine AW.skip ?_
 iterate 2 refine AW.seq ?_
 refine AW.region ?_
 refine AO.pu T ?_
 refine AO.nil ?_
 refine AW.cond (b := x23.2) rfl (fun hc => ?_) (fun hc => ?_)
 replace hH := condT hc hH
 refine AW.seq ?_
 obtain ⟨x33, hx34, hH⟩ := bindE hH
 refine AW.region ?_
 iterate 2 refine AO.pu T ?_
 refine AO.step rfl (callL_ok rfl 10 rfl rfl (es := [.s (List.map encOfficial x21.1), .s (List.map encInt x23.1)]) (by exact ⟨(.rowR rfl (.map fun y => .vs rfl)), (.rowR rfl (.map fun y => .vs rfl)), trivial⟩) (impl_ClubsOfPanel_ok fuel _ _ _ (hx34)) (zfree_t (zfl (.cons (zfree_map (fun y => (.cons (zfree_v _) .nil))) (.cons (zfree_v _) .nil)))) rfl rfl rfl) ?_
 iterate 5 refine AO.pu T ?_
 refine AO.nil ?_
 refine AW.le (Le.ct 0 0 (σ' := (⟨[(1, .s (List.map encInt_u8 more)), (25, .R 6), (26, .R 7), (30, .R 9), (32, .R 10), (33, .v (.bool x33.2))], [(6, .row 3 (List.map encOfficial x21.1)), (7, .row 1 (List.map encInt x21.2.1)), (9, .row 1 (List.map encInt x25.1)), (10, .row 1 (List.map encInt x33.1))], 304, []⟩ : St))) ?_
 refine AW.seq ?_
 obtain ⟨x35, hx36, hH⟩ := bindE hH
 refine AW.region ?_
 iterate 2 refine AO.pu T ?_
 refine AO.step rfl (callL_ok rfl 11 rfl rfl (es := [.s (List.map encOfficial x21.1), .s (List.map encInt x25.1)]) (by exact ⟨(.rowR rfl (.map fun y => .vs rfl)), (.rowR rfl (.map fun y => .vs rfl)), trivial⟩) (spec_ClubsOfPanel_ok fuel _ _ _ (hx36)) (zfree_t (zfl (.cons (zfree_map (fun y => (.cons (zfree_v _) .nil))) (.cons (zfree_v _) .nil)))) rfl rfl rfl) ?_
 iterate 5 refine AO.pu T ?_
 refine AO.nil ?_
 iterate 2 refine AW.seq ?_
 obtain ⟨x37, hx38, hH⟩ := bindE hH
 refine AW.region ?_
 iterate 3 refine AO.pu T ?_
 refine AO.pureG T [] rfl trivial rfl rfl ?_
 refine AO.pureG T [251] rfl ⟨fun h => h, trivial⟩ rfl rfl ?_
 refine AO.val rfl rfl (pick_or rfl rfl rfl rfl) ?_
 refine AO.pu T ?_
 iterate 2 refine AO.pureG T [] rfl trivial rfl rfl ?_
 refine AO.guard [255, 256] rfl ⟨fun h => h, fun h => h, trivial⟩ (fun hg => callLV_ok rfl rfl rfl (es := [.s (List.map encInt x33.1), .s (List.map encInt x35.1)]) ⟨(.rowR rfl (.map fun y => .vs rfl)), (.rowR rfl (.map fun y => .vs rfl)), trivial⟩ (laws_sameInts_ok _ _ _ (optT hx38 hg)) (zfree_v _) rfl) rfl ?_
 refine AO.pureG T [257] rfl ⟨fun h => h, trivial⟩ rfl rfl ?_
 refine AO.val rfl rfl (pick_or rfl rfl rfl rfl) ?_
 refine AO.nil ?_
 refine AW.cond (b := (((!x33.2) || (!x35.2)) || (!x37))) rfl (fun hc => ?_) (fun hc => ?_)
 replace hH := condT hc hH
 refine AW.seq (AW.region ?_)
 refine AO.pu T ?_
 refine AO.nil (AW.ret ?_)
 have hR := someE hH; subst hR
 exact retQ.i [] rfl (.c (.c .v))
 replace hH := condF hc hH
 refine AW.skip ?_
 refine AW.seq (AW.region ?_)
 refine AO.pu T ?_
 refine AO.val rfl rfl (len_row_ok T rfl rfl rfl rfl) ?_
 refine AO.pu T ?_
 refine AO.nil ?_
 refine AW.block ?_
 refine AW.loopS (fun s : Nat => (⟨[(1, .s (List.map encInt_u8 more)), (26, .R 7), (260, .R 11), (261, (x35.1.length : Int)), (262, (s : Int))], [(7, .row 1 (List.map encInt x21.2.1)), (11, .row 1 (List.map encInt x35.1))], 304, []⟩ : St)) (fun s => s ≤ x35.1.length ∧ laws_FnPanels_l1 more fuel x21 (x35.1.drop s) s = some r) (fun s => x35.1.length - s) 0 ⟨Nat.zero_le _, hH⟩ ?_ ?_
 exact Le.ct 0 0
 rintro k39 ⟨hk, hH⟩
 replace hH : laws_FnPanels_l1 more fuel x21 (x35.1.drop k39) k39 = some r := hH
 try dsimp only
 refine AW.boundR (id := 11) (l := x35.1) rfl (fun hb43 => ?_)
 rcases hd42 : x35.1.drop k39 with _ | ⟨y40, ys41⟩
 rw [hd42, laws_FnPanels_l1] at hH
 have hlt44 := drop_ge hd42
 refine AW.seq (AW.region ?_)
 refine AO.pu T ?_
 refine AO.nil (AW.seq ?_)
 refine AW.condF' (b := decide ((k39 : Int) < (x35.1.length : Int))) rfl (rngF hlt44) ?_
 refine AW.exit ?_
 refine AW.seq ?_
 obtain ⟨x50, hx51, hH⟩ := bindE hH
 refine AW.region ?_
 refine AO.pu T ?_
 refine AO.step rfl (call_ok rfl 12 rfl rfl rfl (spec_DrawIsPanel_ok fuel _ _ (hx51)) rfl rfl rfl) ?_
 iterate 11 refine AO.pu T ?_
 refine AO.nil (AW.seq ?_)
 obtain ⟨x52, hx53, hH⟩ := bindE hH
 refine AW.region ?_
 iterate 5 refine AO.pu T ?_
 refine AO.val rfl rfl (callLV_ok rfl rfl rfl (es := [.s (List.map encOfficial x50.1), .s (List.map encInt x50.2.1), x50.2.2.1, x50.2.2.2.1, .s (List.map encInt x50.2.2.2.2)]) ⟨(.rowR rfl (.map fun y => .vs rfl)), (.rowR rfl (.map fun y => .vs rfl)), .free rfl, .free rfl, .free rfl, trivial⟩ (impl_IsPanel_ok fuel _ _ _ _ _ _ (hx53)) (zfree_t (zfl (.cons (zfree_v _) (.cons (zfree_v _) .nil)))) rfl) ?_
 iterate 5 refine AO.pu T ?_
 refine AO.nil ?_
 refine AW.le (Le.ct 0 0 (σ' := (⟨[(38, .R 12), (39, .R 13), (40, x50.2.2.1), (41, x50.2.2.2.1), (42, .s (List.map encInt x50.2.2.2.2)), (43, .v (.bool x52.1)), (44, .v (.bool x52.2))], [(12, .row 3 (List.map encOfficial x50.1)), (13, .row 1 (List.map encInt x50.2.1))], 304, []⟩ : St))) ?_
 refine AW.seq ?_
 obtain ⟨x54, hx55, hH⟩ := bindE hH
 refine AW.region ?_
 iterate 5 refine AO.pu T ?_
 refine AO.val rfl rfl (callLV_ok rfl rfl rfl (es := [.s (List.map encOfficial x50.1), .s (List.map encInt x50.2.1), x50.2.2.1, x50.2.2.2.1, .s (List.map encInt x50.2.2.2.2)]) ⟨(.rowR rfl (.map fun y => .vs rfl)), (.rowR rfl (.map fun y => .vs rfl)), .free rfl, .free rfl, .free rfl, trivial⟩ (spec_IsPanel_ok fuel _ _ _ _ _ _ (hx55)) (zfree_t (zfl (.cons (zfree_v _) (.cons (zfree_v _) .nil)))) rfl) ?_
 iterate 5 refine AO.pu T ?_
 refine AO.nil (AW.seq ?_)
 refine AW.region ?_
 iterate 4 refine AO.pu T ?_
 iterate 2 refine AO.pureG T [] rfl trivial rfl rfl ?_
 refine AO.pureG T [300, 301] rfl ⟨fun h => h, fun h => h, trivial⟩ rfl rfl ?_
 refine AO.val rfl rfl (pick_and rfl rfl rfl rfl) ?_
 refine AO.pu T ?_
 refine AO.nil (AW.ret ?_)
 have hR := someE hH; subst hR
 exact retQ.i [] rfl (.c (.c .v))
 rw [hd42, laws_FnPanels_l1] at hH
 have hlt44 := drop_lt hd42
 refine AW.seq (AW.region ?_)
 refine AO.pu T ?_
 refine AO.nil (AW.seq ?_)
 refine AW.condT' (b := decide ((k39 : Int) < (x35.1.length : Int))) rfl (rngT hlt44) ?_
 refine AW.skip ?_
 refine AW.seq ?_
 refine AW.block ?_
 refine AW.seq (AW.region ?_)
 refine AO.val rfl rfl (ix_row_ok T rfl rfl rfl rfl rfl rfl (getI_drop hd42)) ?_
 refine AO.val rfl rfl (load_row_ok T rfl rfl rfl rfl (getI_get (getI_drop hd42)) rfl rfl rfl) ?_
 refine AO.pu T ?_
 refine AO.nil (AW.seq ?_)
 obtain ⟨x56, hx57, hH⟩ := bindE hH
 refine AW.region ?_
 iterate 2 refine AO.pu T ?_
 refine AO.val rfl rfl (callLV_ok rfl rfl rfl (es := [.s (List.map encInt x21.2.1), y40]) ⟨(.rowR rfl (.map fun y => .vs rfl)), .free rfl, trivial⟩ (laws_pIn_ok _ _ _ (hx57)) (zfree_v _) rfl) ?_
 refine AO.nil ?_
 refine AW.cond (b := x56) rfl (fun hc => ?_) (fun hc => ?_)
 replace hH := condT hc hH
 refine AW.seq (AW.region ?_)
 refine AO.pu T ?_
 refine AO.nil (AW.ret ?_)
 have hR := someE hH; subst hR
 exact retQ.i [] rfl (.c (.c .v))
 replace hH := condF hc hH
 refine AW.skip ?_
 refine AW.region ?_
 refine AO.val rfl rfl (ar_ok rfl rfl rfl rfl (inI_succ hlt44 hb43)) ?_
 refine AO.pu T ?_
 refine AO.nil ?_
 refine ⟨k39 + 1, ⟨Nat.succ_le_of_lt hlt44, (by rw [drop_succ_of hd42]; exact hH)⟩, (by have := hlt44; dsimp only; omega), ?_⟩
 exact Le.ct 0 0
 replace hH := condF hc hH
 refine AW.skip ?_
 refine AW.seq ?_
 obtain ⟨x58, hx59, hH⟩ := bindE hH
 refine AW.region ?_
 refine AO.pu T ?_
 refine AO.step rfl (call_ok rfl 14 rfl rfl rfl (spec_DrawIsPanel_ok fuel _ _ (hx59)) rfl rfl rfl) ?_
 iterate 11 refine AO.pu T ?_
 refine AO.nil ?_
 refine AW.le (Le.ct 0 0 (σ' := (⟨[(38, .R 14), (39, .R 15), (40, x58.2.2.1), (41, x58.2.2.2.1), (42, .s (List.map encInt x58.2.2.2.2))], [(14, .row 3 (List.map encOfficial x58.1)), (15, .row 1 (List.map encInt x58.2.1))], 304, []⟩ : St))) ?_
 refine AW.seq ?_
 obtain ⟨x60, hx61, hH⟩ := bindE hH
 refine AW.region ?_
 iterate 5 refine AO.pu T ?_
 refine AO.val rfl rfl (callLV_ok rfl rfl rfl (es := [.s (List.map encOfficial x58.1), .s (List.map encInt x58.2.1), x58.2.2.1, x58.2.2.2.1, .s (List.map encInt x58.2.2.2.2)]) ⟨(.rowR rfl (.map fun y => .vs rfl)), (.rowR rfl (.map fun y => .vs rfl)), .free rfl, .free rfl, .free rfl, trivial⟩ (impl_IsPanel_ok fuel _ _ _ _ _ _ (hx61)) (zfree_t (zfl (.cons (zfree_v _) (.cons (zfree_v _) .nil)))) rfl) ?_
 iterate 5 refine AO.pu T ?_
 refine AO.nil (AW.seq ?_)
 obtain ⟨x62, hx63, hH⟩ := bindE hH
 refine AW.region ?_
 iterate 5 refine AO.pu T ?_
 refine AO.val rfl rfl (callLV_ok rfl rfl rfl (es := [.s (List.map encOfficial x58.1), .s (List.map encInt x58.2.1), x58.2.2.1, x58.2.2.2.1, .s (List.map encInt x58.2.2.2.2)]) ⟨(.rowR rfl (.map fun y => .vs rfl)), (.rowR rfl (.map fun y => .vs rfl)), .free rfl, .free rfl, .free rfl, trivial⟩ (spec_IsPanel_ok fuel _ _ _ _ _ _ (hx63)) (zfree_t (zfl (.cons (zfree_v _) (.cons (zfree_v _) .nil)))) rfl) ?_
 iterate 5 refine AO.pu T ?_
 refine AO.nil (AW.seq ?_)
 refine AW.region ?_
 iterate 4 refine AO.pu T ?_
 iterate 2 refine AO.pureG T [] rfl trivial rfl rfl ?_
 refine AO.pureG T [300, 301] rfl ⟨fun h => h, fun h => h, trivial⟩ rfl rfl ?_
 refine AO.val rfl rfl (pick_and rfl rfl rfl rfl) ?_
 refine AO.pu T ?_
 refine AO.nil ?_
 refine AW.le (Le.ct 0 0 (σ' := (⟨[(4, .v (.bool ((x60.2 == x62.2) && (x60.1 == x62.1))))], [], 304, []⟩ : St))) ?_
 refine AW.ret ?_
 have hR := someE hH; subst hR
 exact retQ.i [] rfl (.c (.c .v))
 replace hH := condF hc hH
 refine AW.skip ?_
 refine AW.seq ?_
 obtain ⟨x64, hx65, hH⟩ := bindE hH
 refine AW.region ?_
 refine AO.pu T ?_
 refine AO.step rfl (call_ok rfl 16 rfl rfl rfl (spec_DrawEligibleFor_ok fuel _ _ (hx65)) rfl rfl rfl) ?_
 iterate 7 refine AO.pu T ?_
 refine AO.nil (AW.seq ?_)
 obtain ⟨x66, hx67, hH⟩ := bindE hH
 refine AW.region ?_
 iterate 3 refine AO.pu T ?_
 refine AO.step rfl (callL_ok rfl 18 rfl rfl (es := [.s (List.map encOfficial x64.1), .s (List.map encInt x64.2.1), x64.2.2]) (by exact ⟨(.rowR rfl (.map fun y => .vs rfl)), (.rowR rfl (.map fun y => .vs rfl)), .free rfl, trivial⟩) (impl_EligibleFor_ok _ _ _ _ (hx67)) (zfree_t (zfl (.cons (zfree_map (fun y => (.cons (zfree_v _) .nil))) (.cons (zfree_v _) .nil)))) rfl rfl rfl) ?_
 iterate 5 refine AO.pu T ?_
 refine AO.nil ?_
 refine AW.le (Le.ct 0 0 (σ' := (⟨[(1, .s (List.map encInt_u8 more)), (25, .R 16), (26, .R 17), (27, x64.2.2), (28, .R 18), (29, .v (.bool x66.2))], [(16, .row 3 (List.map encOfficial x64.1)), (17, .row 1 (List.map encInt x64.2.1)), (18, .row 1 (List.map encInt x66.1))], 304, []⟩ : St))) ?_
 refine AW.seq ?_
 obtain ⟨x68, hx69, hH⟩ := bindE hH
 refine AW.region ?_
 iterate 3 refine AO.pu T ?_
 refine AO.step rfl (callL_ok rfl 19 rfl rfl (es := [.s (List.map encOfficial x64.1), .s (List.map encInt x64.2.1), x64.2.2]) (by exact ⟨(.rowR rfl (.map fun y => .vs rfl)), (.rowR rfl (.map fun y => .vs rfl)), .free rfl, trivial⟩) (spec_EligibleFor_ok fuel _ _ _ _ (hx69)) (zfree_t (zfl (.cons (zfree_map (fun y => (.cons (zfree_v _) .nil))) (.cons (zfree_v _) .nil)))) rfl rfl rfl) ?_
 iterate 5 refine AO.pu T ?_
 refine AO.nil ?_
 iterate 2 refine AW.seq ?_
 obtain ⟨x70, hx71, hH⟩ := bindE hH
 obtain ⟨x72, hx73, hH⟩ := bindE hH
 obtain ⟨x74, hx75, hH⟩ := bindE hH
 refine AW.region ?_
 iterate 4 refine AO.pu T ?_
 iterate 2 refine AO.pureG T [] rfl trivial rfl rfl ?_
 refine AO.guard [223, 224] rfl ⟨fun h => h, fun h => h, trivial⟩ (fun hg => callLV_ok rfl rfl rfl (es := [.s (List.map encInt x66.1), .s (List.map encInt x68.1)]) ⟨(.rowR rfl (.map fun y => .vs rfl)), (.rowR rfl (.map fun y => .vs rfl)), trivial⟩ (laws_sameInts_ok _ _ _ (optT hx71 hg)) (zfree_v _) rfl) rfl ?_
 refine AO.pureG T [225] rfl ⟨fun h => h, trivial⟩ rfl rfl ?_
 refine AO.val rfl rfl (pick_or rfl rfl rfl rfl) ?_
 refine AO.pu T ?_
 refine AO.pureG T [] rfl trivial rfl rfl ?_
 refine AO.guard [229] rfl ⟨fun h => h, trivial⟩ (fun hg => callLV_ok rfl rfl rfl (es := [.s (List.map encOfficial x64.1)]) ⟨(.rowR rfl (.map fun y => .vs rfl)), trivial⟩ (impl_AreOfficials_ok _ _ (optT hx73 hg)) (zfree_v _) rfl) rfl ?_
 refine AO.pureG T [] rfl trivial rfl rfl ?_
 refine AO.guard [231] rfl ⟨fun h => h, trivial⟩ (fun hg => callLV_ok rfl rfl rfl (es := [.s (List.map encOfficial x64.1)]) ⟨(.rowR rfl (.map fun y => .vs rfl)), trivial⟩ (spec_AreOfficials_ok _ _ (optT hx75 hg)) (zfree_v _) rfl) rfl ?_
 refine AO.pureG T [230, 232] rfl ⟨fun h => h, fun h => h, trivial⟩ rfl rfl ?_
 refine AO.val rfl rfl (pick_or rfl rfl rfl rfl) ?_
 refine AO.nil ?_
 refine AW.le (Le.ct 0 0 (σ' := (⟨[(1, .s (List.map encInt_u8 more)), (25, .R 16), (26, .R 17), (28, .R 18), (29, .v (.bool x66.2)), (30, .R 19), (234, .v (.bool (((!(x66.2 == x68.2)) || (!x70)) || (!(x72 == x74)))))], [(16, .row 3 (List.map encOfficial x64.1)), (17, .row 1 (List.map encInt x64.2.1)), (18, .row 1 (List.map encInt x66.1)), (19, .row 1 (List.map encInt x68.1))], 304, []⟩ : St))) ?_
 refine AW.cond (b := (((!(x66.2 == x68.2)) || (!x70)) || (!(x72 == x74)))) rfl (fun hc => ?_) (fun hc => ?_)
 replace hH := condT hc hH
 refine AW.seq (AW.region ?_)
 refine AO.pu T ?_
 refine AO.nil (AW.ret ?_)
 have hR := someE hH; subst hR
 exact retQ.i [] rfl (.c (.c .v))
 replace hH := condF hc hH
 refine AW.skip ?_
 iterate 2 refine AW.seq ?_
 refine AW.region ?_
 refine AO.pu T ?_
 refine AO.nil ?_
 refine AW.cond (b := x66.2) rfl (fun hc => ?_) (fun hc => ?_)
 replace hH := condT hc hH
 refine AW.seq ?_
 obtain ⟨x76, hx77, hH⟩ := bindE hH
 refine AW.region ?_
 iterate 2 refine AO.pu T ?_
 refine AO.step rfl (callL_ok rfl 20 rfl rfl (es := [.s (List.map encOfficial x64.1), .s (List.map encInt x66.1)]) (by exact ⟨(.rowR rfl (.map fun y => .vs rfl)), (.rowR rfl (.map fun y => .vs rfl)), trivial⟩) (impl_ClubsOfPanel_ok fuel _ _ _ (hx77)) (zfree_t (zfl (.cons (zfree_map (fun y => (.cons (zfree_v _) .nil))) (.cons (zfree_v _) .nil)))) rfl rfl rfl) ?_
 iterate 5 refine AO.pu T ?_
 refine AO.nil (AW.seq ?_)
 obtain ⟨x78, hx79, hH⟩ := bindE hH
 refine AW.region ?_
 iterate 2 refine AO.pu T ?_
 refine AO.step rfl (callL_ok rfl 21 rfl rfl (es := [.s (List.map encOfficial x64.1), .s (List.map encInt x68.1)]) (by exact ⟨(.rowR rfl (.map fun y => .vs rfl)), (.rowR rfl (.map fun y => .vs rfl)), trivial⟩) (spec_ClubsOfPanel_ok fuel _ _ _ (hx79)) (zfree_t (zfl (.cons (zfree_map (fun y => (.cons (zfree_v _) .nil))) (.cons (zfree_v _) .nil)))) rfl rfl rfl) ?_
 iterate 5 refine AO.pu T ?_
 refine AO.nil ?_
 iterate 2 refine AW.seq ?_
 obtain ⟨x80, hx81, hH⟩ := bindE hH
 refine AW.region ?_
 iterate 3 refine AO.pu T ?_
 refine AO.pureG T [] rfl trivial rfl rfl ?_
 refine AO.pureG T [251] rfl ⟨fun h => h, trivial⟩ rfl rfl ?_
 refine AO.val rfl rfl (pick_or rfl rfl rfl rfl) ?_
 refine AO.pu T ?_
 iterate 2 refine AO.pureG T [] rfl trivial rfl rfl ?_
 refine AO.guard [255, 256] rfl ⟨fun h => h, fun h => h, trivial⟩ (fun hg => callLV_ok rfl rfl rfl (es := [.s (List.map encInt x76.1), .s (List.map encInt x78.1)]) ⟨(.rowR rfl (.map fun y => .vs rfl)), (.rowR rfl (.map fun y => .vs rfl)), trivial⟩ (laws_sameInts_ok _ _ _ (optT hx81 hg)) (zfree_v _) rfl) rfl ?_
 refine AO.pureG T [257] rfl ⟨fun h => h, trivial⟩ rfl rfl ?_
 refine AO.val rfl rfl (pick_or rfl rfl rfl rfl) ?_
 refine AO.nil ?_
 refine AW.le (Le.ct 0 0 (σ' := (⟨[(1, .s (List.map encInt_u8 more)), (26, .R 17), (34, .R 21), (259, .v (.bool (((!x76.2) || (!x78.2)) || (!x80))))], [(17, .row 1 (List.map encInt x64.2.1)), (21, .row 1 (List.map encInt x78.1))], 304, []⟩ : St))) ?_
 refine AW.cond (b := (((!x76.2) || (!x78.2)) || (!x80))) rfl (fun hc => ?_) (fun hc => ?_)
 replace hH := condT hc hH
 refine AW.seq (AW.region ?_)
 refine AO.pu T ?_
 refine AO.nil (AW.ret ?_)
 have hR := someE hH; subst hR
 exact retQ.i [] rfl (.c (.c .v))
 replace hH := condF hc hH
 refine AW.skip ?_
 refine AW.seq (AW.region ?_)
 refine AO.pu T ?_
 refine AO.val rfl rfl (len_row_ok T rfl rfl rfl rfl) ?_
 refine AO.pu T ?_
 refine AO.nil ?_
 refine AW.block ?_
 refine AW.loopS (fun s : Nat => (⟨[(1, .s (List.map encInt_u8 more)), (26, .R 17), (260, .R 21), (261, (x78.1.length : Int)), (262, (s : Int))], [(17, .row 1 (List.map encInt x64.2.1)), (21, .row 1 (List.map encInt x78.1))], 304, []⟩ : St)) (fun s => s ≤ x78.1.length ∧ laws_FnPanels_l2 more fuel x64 (x78.1.drop s) s = some r) (fun s => x78.1.length - s) 0 ⟨Nat.zero_le _, hH⟩ ?_ ?_
 exact Le.ct 0 0
 rintro k82 ⟨hk, hH⟩
 replace hH : laws_FnPanels_l2 more fuel x64 (x78.1.drop k82) k82 = some r := hH
 try dsimp only
 refine AW.boundR (id := 21) (l := x78.1) rfl (fun hb86 => ?_)
 rcases hd85 : x78.1.drop k82 with _ | ⟨y83, ys84⟩
 rw [hd85, laws_FnPanels_l2] at hH
 have hlt87 := drop_ge hd85
 refine AW.seq (AW.region ?_)
 refine AO.pu T ?_
 refine AO.nil (AW.seq ?_)
 refine AW.condF' (b := decide ((k82 : Int) < (x78.1.length : Int))) rfl (rngF hlt87) ?_
 refine AW.exit ?_
 refine AW.seq ?_
 obtain ⟨x93, hx94, hH⟩ := bindE hH
 refine AW.region ?_
 refine AO.pu T ?_
 refine AO.step rfl (call_ok rfl 22 rfl rfl rfl (spec_DrawIsPanel_ok fuel _ _ (hx94)) rfl rfl rfl) ?_
 iterate 11 refine AO.pu T ?_
 refine AO.nil (AW.seq ?_)
 obtain ⟨x95, hx96, hH⟩ := bindE hH
 refine AW.region ?_
 iterate 5 refine AO.pu T ?_
 refine AO.val rfl rfl (callLV_ok rfl rfl rfl (es := [.s (List.map encOfficial x93.1), .s (List.map encInt x93.2.1), x93.2.2.1, x93.2.2.2.1, .s (List.map encInt x93.2.2.2.2)]) ⟨(.rowR rfl (.map fun y => .vs rfl)), (.rowR rfl (.map fun y => .vs rfl)), .free rfl, .free rfl, .free rfl, trivial⟩ (impl_IsPanel_ok fuel _ _ _ _ _ _ (hx96)) (zfree_t (zfl (.cons (zfree_v _) (.cons (zfree_v _) .nil)))) rfl) ?_
 iterate 5 refine AO.pu T ?_
 refine AO.nil ?_
 refine AW.le (Le.ct 0 0 (σ' := (⟨[(38, .R 22), (39, .R 23), (40, x93.2.2.1), (41, x93.2.2.2.1), (42, .s (List.map encInt x93.2.2.2.2)), (43, .v (.bool x95.1)), (44, .v (.bool x95.2))], [(22, .row 3 (List.map encOfficial x93.1)), (23, .row 1 (List.map encInt x93.2.1))], 304, []⟩ : St))) ?_
 refine AW.seq ?_
 obtain ⟨x97, hx98, hH⟩ := bindE hH
 refine AW.region ?_
 iterate 5 refine AO.pu T ?_
 refine AO.val rfl rfl (callLV_ok rfl rfl rfl (es := [.s (List.map encOfficial x93.1), .s (List.map encInt x93.2.1), x93.2.2.1, x93.2.2.2.1, .s (List.map encInt x93.2.2.2.2)]) ⟨(.rowR rfl (.map fun y => .vs rfl)), (.rowR rfl (.map fun y => .vs rfl)), .free rfl, .free rfl, .free rfl, trivial⟩ (spec_IsPanel_ok fuel _ _ _ _ _ _ (hx98)) (zfree_t (zfl (.cons (zfree_v _) (.cons (zfree_v _) .nil)))) rfl) ?_
 iterate 5 refine AO.pu T ?_
 refine AO.nil (AW.seq ?_)
 refine AW.region ?_
 iterate 4 refine AO.pu T ?_
 iterate 2 refine AO.pureG T [] rfl trivial rfl rfl ?_
 refine AO.pureG T [300, 301] rfl ⟨fun h => h, fun h => h, trivial⟩ rfl rfl ?_
 refine AO.val rfl rfl (pick_and rfl rfl rfl rfl) ?_
 refine AO.pu T ?_
 refine AO.nil (AW.ret ?_)
 have hR := someE hH; subst hR
 exact retQ.i [] rfl (.c (.c .v))
 rw [hd85, laws_FnPanels_l2] at hH
 have hlt87 := drop_lt hd85
 refine AW.seq (AW.region ?_)
 refine AO.pu T ?_
 refine AO.nil (AW.seq ?_)
 refine AW.condT' (b := decide ((k82 : Int) < (x78.1.length : Int))) rfl (rngT hlt87) ?_
 refine AW.skip ?_
 refine AW.seq ?_
 refine AW.block ?_
 refine AW.seq (AW.region ?_)
 refine AO.val rfl rfl (ix_row_ok T rfl rfl rfl rfl rfl rfl (getI_drop hd85)) ?_
 refine AO.val rfl rfl (load_row_ok T rfl rfl rfl rfl (getI_get (getI_drop hd85)) rfl rfl rfl) ?_
 refine AO.pu T ?_
 refine AO.nil (AW.seq ?_)
 obtain ⟨x99, hx100, hH⟩ := bindE hH
 refine AW.region ?_
 iterate 2 refine AO.pu T ?_
 refine AO.val rfl rfl (callLV_ok rfl rfl rfl (es := [.s (List.map encInt x64.2.1), y83]) ⟨(.rowR rfl (.map fun y => .vs rfl)), .free rfl, trivial⟩ (laws_pIn_ok _ _ _ (hx100)) (zfree_v _) rfl) ?_
 refine AO.nil ?_
 refine AW.cond (b := x99) rfl (fun hc => ?_) (fun hc => ?_)
 replace hH := condT hc hH
 refine AW.seq (AW.region ?_)
 refine AO.pu T ?_
 refine AO.nil (AW.ret ?_)
 have hR := someE hH; subst hR
 exact retQ.i [] rfl (.c (.c .v))
 replace hH := condF hc hH
 refine AW.skip ?_
 refine AW.region ?_
 refine AO.val rfl rfl (ar_ok rfl rfl rfl rfl (inI_succ hlt87 hb86)) ?_
 refine AO.pu T ?_
 refine AO.nil ?_
 refine ⟨k82 + 1, ⟨Nat.succ_le_of_lt hlt87, (by rw [drop_succ_of hd85]; exact hH)⟩, (by have := hlt87; dsimp only; omega), ?_⟩
 exact Le.ct 0 0
 replace hH := condF hc hH
 refine AW.skip ?_
 refine AW.seq ?_
 obtain ⟨x101, hx102, hH⟩ := bindE hH
 refine AW.region ?_
 refine AO.pu T ?_
 refine AO.step rfl (call_ok rfl 24 rfl rfl rfl (spec_DrawIsPanel_ok fuel _ _ (hx102)) rfl rfl rfl) ?_
 iterate 11 refine AO.pu T ?_
 refine AO.nil (AW.seq ?_)
 obtain ⟨x103, hx104, hH⟩ := bindE hH
 refine AW.region ?_
 iterate 5 refine AO.pu T ?_
 refine AO.val rfl rfl (callLV_ok rfl rfl rfl (es := [.s (List.map encOfficial x101.1), .s (List.map encInt x101.2.1), x101.2.2.1, x101.2.2.2.1, .s (List.map encInt x101.2.2.2.2)]) ⟨(.rowR rfl (.map fun y => .vs rfl)), (.rowR rfl (.map fun y => .vs rfl)), .free rfl, .free rfl, .free rfl, trivial⟩ (impl_IsPanel_ok fuel _ _ _ _ _ _ (hx104)) (zfree_t (zfl (.cons (zfree_v _) (.cons (zfree_v _) .nil)))) rfl) ?_
 iterate 5 refine AO.pu T ?_
 refine AO.nil ?_
 refine AW.le (Le.ct 0 0 (σ' := (⟨[(38, .R 24), (39, .R 25), (40, x101.2.2.1), (41, x101.2.2.2.1), (42, .s (List.map encInt x101.2.2.2.2)), (43, .v (.bool x103.1)), (44, .v (.bool x103.2))], [(24, .row 3 (List.map encOfficial x101.1)), (25, .row 1 (List.map encInt x101.2.1))], 304, []⟩ : St))) ?_
 refine AW.seq ?_
 obtain ⟨x105, hx106, hH⟩ := bindE hH
 refine AW.region ?_
 iterate 5 refine AO.pu T ?_
 refine AO.val rfl rfl (callLV_ok rfl rfl rfl (es := [.s (List.map encOfficial x101.1), .s (List.map encInt x101.2.1), x101.2.2.1, x101.2.2.2.1, .s (List.map encInt x101.2.2.2.2)]) ⟨(.rowR rfl (.map fun y => .vs rfl)), (.rowR rfl (.map fun y => .vs rfl)), .free rfl, .free rfl, .free rfl, trivial⟩ (spec_IsPanel_ok fuel _ _ _ _ _ _ (hx106)) (zfree_t (zfl (.cons (zfree_v _) (.cons (zfree_v _) .nil)))) rfl) ?_
 iterate 5 refine AO.pu T ?_
 refine AO.nil (AW.seq ?_)
 refine AW.region ?_
 iterate 4 refine AO.pu T ?_
 iterate 2 refine AO.pureG T [] rfl trivial rfl rfl ?_
 refine AO.pureG T [300, 301] rfl ⟨fun h => h, fun h => h, trivial⟩ rfl rfl ?_
 refine AO.val rfl rfl (pick_and rfl rfl rfl rfl) ?_
 refine AO.pu T ?_
 refine AO.nil (AW.ret ?_)
 have hR := someE hH; subst hR
 exact retQ.i [] rfl (.c (.c .v))
 replace hH := condF hc hH
 refine AW.skip ?_
 iterate 2 refine AW.seq ?_
 refine AW.region ?_
 iterate 2 refine AO.pu T ?_
 refine AO.pureG T [] rfl trivial rfl rfl ?_
 refine AO.pureG T [150] rfl ⟨fun h => h, trivial⟩ rfl rfl ?_
 refine AO.val rfl rfl (pick_and rfl rfl rfl rfl) ?_
 refine AO.pu T ?_
 refine AO.pureG T [] rfl trivial rfl rfl ?_
 refine AO.pureG T [154] rfl ⟨fun h => h, trivial⟩ rfl rfl ?_
 refine AO.val rfl rfl (pick_and rfl rfl rfl rfl) ?_
 refine AO.pu T ?_
 refine AO.pureG T [] rfl trivial rfl rfl ?_
 refine AO.guard [158] rfl ⟨fun h => h, trivial⟩ (fun hg => len_row_ok T rfl rfl rfl rfl) rfl ?_
 refine AO.pureG T [159] rfl ⟨fun h => h, trivial⟩ rfl rfl ?_
 refine AO.val rfl rfl (pick_and rfl rfl rfl rfl) ?_
 refine AO.nil ?_
 refine AW.cond (b := (((x9.2 && decide (x3.2.2.2.2.2 ≥ 1)) && decide (x3.2.2.2.2.2 ≤ 9)) && decide ((x3.2.1.length : Int) ≤ 14))) rfl (fun hc => ?_) (fun hc => ?_)
 replace hH := condT hc hH
 refine AW.seq ?_
 obtain ⟨x107, hx108, hH⟩ := bindE hH
 refine AW.region ?_
 iterate 5 refine AO.pu T ?_
 refine AO.val rfl rfl (callLV_ok rfl rfl rfl (es := [.s (List.map encOfficial x3.2.1), .s (List.map encInt x3.2.2.1), x3.2.2.2.1, x3.2.2.2.2.1, x3.2.2.2.2.2]) ⟨(.rowR rfl (.map fun y => .vs rfl)), (.rowR rfl (.map fun y => .vs rfl)), .free rfl, .free rfl, .free rfl, trivial⟩ (impl_CountPanels_ok fuel _ _ _ _ _ _ (hx108)) (zfree_t (zfl (.cons (zfree_v _) (.cons (zfree_v _) .nil)))) rfl) ?_
 iterate 5 refine AO.pu T ?_
 refine AO.nil ?_
 refine AW.le (Le.ct 0 0 (σ' := (⟨[(1, .s (List.map encInt_u8 more)), (6, .R 2), (7, .R 3), (8, x3.2.2.2.1), (9, x3.2.2.2.2.1), (10, x3.2.2.2.2.2), (17, x11.1), (21, x107.1), (22, .v (.bool x107.2))], [(2, .row 3 (List.map encOfficial x3.2.1)), (3, .row 1 (List.map encInt x3.2.2.1))], 304, []⟩ : St))) ?_
 refine AW.seq ?_
 obtain ⟨x109, hx110, hH⟩ := bindE hH
 refine AW.region ?_
 iterate 5 refine AO.pu T ?_
 refine AO.val rfl rfl (callLV_ok rfl rfl rfl (es := [.s (List.map encOfficial x3.2.1), .s (List.map encInt x3.2.2.1), x3.2.2.2.1, x3.2.2.2.2.1, x3.2.2.2.2.2]) ⟨(.rowR rfl (.map fun y => .vs rfl)), (.rowR rfl (.map fun y => .vs rfl)), .free rfl, .free rfl, .free rfl, trivial⟩ (spec_CountPanels_ok fuel _ _ _ _ _ _ (hx110)) (zfree_t (zfl (.cons (zfree_v _) (.cons (zfree_v _) .nil)))) rfl) ?_
 iterate 5 refine AO.pu T ?_
 refine AO.nil (AW.seq ?_)
 refine AW.region ?_
 iterate 3 refine AO.pu T ?_
 refine AO.pureG T [] rfl trivial rfl rfl ?_
 refine AO.pureG T [183] rfl ⟨fun h => h, trivial⟩ rfl rfl ?_
 refine AO.val rfl rfl (pick_or rfl rfl rfl rfl) ?_
 refine AO.pu T ?_
 iterate 2 refine AO.pureG T [] rfl trivial rfl rfl ?_
 refine AO.pureG T [187, 188] rfl ⟨fun h => h, fun h => h, trivial⟩ rfl rfl ?_
 refine AO.val rfl rfl (pick_or rfl rfl rfl rfl) ?_
 refine AO.pu T ?_
 refine AO.pureG T [] rfl trivial rfl rfl ?_
 refine AO.pureG T [192] rfl ⟨fun h => h, trivial⟩ rfl rfl ?_
 iterate 2 refine AO.pureG T [] rfl trivial rfl rfl ?_
 refine AO.pureG T [194, 195] rfl ⟨fun h => h, fun h => h, trivial⟩ rfl rfl ?_
 refine AO.pureG T [193, 196] rfl ⟨fun h => h, fun h => h, trivial⟩ rfl rfl ?_
 refine AO.val rfl rfl (pick_or rfl rfl rfl rfl) ?_
 refine AO.nil ?_
 refine AW.le (Le.ct 0 0 (σ' := (⟨[(1, .s (List.map encInt_u8 more)), (198, .v (.bool ((((!x107.2) || (!x109.2)) || (x107.1 != x109.1)) || (!(decide (x109.1 > 0) == decide (x3.2.2.2.2.2 ≤ x11.1))))))], [], 304, []⟩ : St))) ?_
 refine AW.cond (b := ((((!x107.2) || (!x109.2)) || (x107.1 != x109.1)) || (!(decide (x109.1 > 0) == decide (x3.2.2.2.2.2 ≤ x11.1))))) rfl (fun hc => ?_) (fun hc => ?_)
 replace hH := condT hc hH
 refine AW.seq (AW.region ?_)
 refine AO.pu T ?_
 refine AO.nil (AW.ret ?_)
 have hR := someE hH; subst hR
 exact retQ.i [] rfl (.c (.c .v))
 replace hH := condF hc hH
 refine AW.skip ?_
 refine AW.seq ?_
 obtain ⟨x111, hx112, hH⟩ := bindE hH
 refine AW.region ?_
 refine AO.pu T ?_
 refine AO.step rfl (call_ok rfl 26 rfl rfl rfl (spec_DrawEligibleFor_ok fuel _ _ (hx112)) rfl rfl rfl) ?_
 iterate 7 refine AO.pu T ?_
 refine AO.nil (AW.seq ?_)
 obtain ⟨x113, hx114, hH⟩ := bindE hH
 refine AW.region ?_
 iterate 3 refine AO.pu T ?_
 refine AO.step rfl (callL_ok rfl 28 rfl rfl (es := [.s (List.map encOfficial x111.1), .s (List.map encInt x111.2.1), x111.2.2]) (by exact ⟨(.rowR rfl (.map fun y => .vs rfl)), (.rowR rfl (.map fun y => .vs rfl)), .free rfl, trivial⟩) (impl_EligibleFor_ok _ _ _ _ (hx114)) (zfree_t (zfl (.cons (zfree_map (fun y => (.cons (zfree_v _) .nil))) (.cons (zfree_v _) .nil)))) rfl rfl rfl) ?_
 iterate 5 refine AO.pu T ?_
 refine AO.nil (AW.seq ?_)
 obtain ⟨x115, hx116, hH⟩ := bindE hH
 refine AW.region ?_
 iterate 3 refine AO.pu T ?_
 refine AO.step rfl (callL_ok rfl 29 rfl rfl (es := [.s (List.map encOfficial x111.1), .s (List.map encInt x111.2.1), x111.2.2]) (by exact ⟨(.rowR rfl (.map fun y => .vs rfl)), (.rowR rfl (.map fun y => .vs rfl)), .free rfl, trivial⟩) (spec_EligibleFor_ok fuel _ _ _ _ (hx116)) (zfree_t (zfl (.cons (zfree_map (fun y => (.cons (zfree_v _) .nil))) (.cons (zfree_v _) .nil)))) rfl rfl rfl) ?_
 iterate 5 refine AO.pu T ?_
 refine AO.nil ?_
 refine AW.le (Le.ct 0 0 (σ' := (⟨[(1, .s (List.map encInt_u8 more)), (25, .R 26), (26, .R 27), (28, .R 28), (29, .v (.bool x113.2)), (30, .R 29), (31, .v (.bool x115.2))], [(26, .row 3 (List.map encOfficial x111.1)), (27, .row 1 (List.map encInt x111.2.1)), (28, .row 1 (List.map encInt x113.1)), (29, .row 1 (List.map encInt x115.1))], 304, []⟩ : St))) ?_
 iterate 2 refine AW.seq ?_
 obtain ⟨x117, hx118, hH⟩ := bindE hH
 obtain ⟨x119, hx120, hH⟩ := bindE hH
 obtain ⟨x121, hx122, hH⟩ := bindE hH
 refine AW.region ?_
 iterate 4 refine AO.pu T ?_
 iterate 2 refine AO.pureG T [] rfl trivial rfl rfl ?_
 refine AO.guard [223, 224] rfl ⟨fun h => h, fun h => h, trivial⟩ (fun hg => callLV_ok rfl rfl rfl (es := [.s (List.map encInt x113.1), .s (List.map encInt x115.1)]) ⟨(.rowR rfl (.map fun y => .vs rfl)), (.rowR rfl (.map fun y => .vs rfl)), trivial⟩ (laws_sameInts_ok _ _ _ (optT hx118 hg)) (zfree_v _) rfl) rfl ?_
 refine AO.pureG T [225] rfl ⟨fun h => h, trivial⟩ rfl rfl ?_
 refine AO.val rfl rfl (pick_or rfl rfl rfl rfl) ?_
 refine AO.pu T ?_
 refine AO.pureG T [] rfl trivial rfl rfl ?_
 refine AO.guard [229] rfl ⟨fun h => h, trivial⟩ (fun hg => callLV_ok rfl rfl rfl (es := [.s (List.map encOfficial x111.1)]) ⟨(.rowR rfl (.map fun y => .vs rfl)), trivial⟩ (impl_AreOfficials_ok _ _ (optT hx120 hg)) (zfree_v _) rfl) rfl ?_
 refine AO.pureG T [] rfl trivial rfl rfl ?_
 refine AO.guard [231] rfl ⟨fun h => h, trivial⟩ (fun hg => callLV_ok rfl rfl rfl (es := [.s (List.map encOfficial x111.1)]) ⟨(.rowR rfl (.map fun y => .vs rfl)), trivial⟩ (spec_AreOfficials_ok _ _ (optT hx122 hg)) (zfree_v _) rfl) rfl ?_
 refine AO.pureG T [230, 232] rfl ⟨fun h => h, fun h => h, trivial⟩ rfl rfl ?_
 refine AO.val rfl rfl (pick_or rfl rfl rfl rfl) ?_
 refine AO.nil ?_
 refine AW.cond (b := (((!(x113.2 == x115.2)) || (!x117)) || (!(x119 == x121)))) rfl (fun hc => ?_) (fun hc => ?_)
 replace hH := condT hc hH
 refine AW.seq (AW.region ?_)
 refine AO.pu T ?_
 refine AO.nil (AW.ret ?_)
 have hR := someE hH; subst hR
 exact retQ.i [] rfl (.c (.c .v))
 replace hH := condF hc hH
 refine AW.skip ?_
 iterate 2 refine AW.seq ?_
 refine AW.region ?_
 refine AO.pu T ?_
 refine AO.nil ?_
 refine AW.cond (b := x113.2) rfl (fun hc => ?_) (fun hc => ?_)
 replace hH := condT hc hH
 refine AW.seq ?_
 obtain ⟨x123, hx124, hH⟩ := bindE hH
 refine AW.region ?_
 iterate 2 refine AO.pu T ?_
 refine AO.step rfl (callL_ok rfl 30 rfl rfl (es := [.s (List.map encOfficial x111.1), .s (List.map encInt x113.1)]) (by exact ⟨(.rowR rfl (.map fun y => .vs rfl)), (.rowR rfl (.map fun y => .vs rfl)), trivial⟩) (impl_ClubsOfPanel_ok fuel _ _ _ (hx124)) (zfree_t (zfl (.cons (zfree_map (fun y => (.cons (zfree_v _) .nil))) (.cons (zfree_v _) .nil)))) rfl rfl rfl) ?_
 iterate 5 refine AO.pu T ?_
 refine AO.nil ?_
 refine AW.le (Le.ct 0 0 (σ' := (⟨[(1, .s (List.map encInt_u8 more)), (25, .R 26), (26, .R 27), (30, .R 29), (32, .R 30), (33, .v (.bool x123.2))], [(26, .row 3 (List.map encOfficial x111.1)), (27, .row 1 (List.map encInt x111.2.1)), (29, .row 1 (List.map encInt x115.1)), (30, .row 1 (List.map encInt x123.1))], 304, []⟩ : St))) ?_
 refine AW.seq ?_
 obtain ⟨x125, hx126, hH⟩ := bindE hH
 refine AW.region ?_
 iterate 2 refine AO.pu T ?_
 refine AO.step rfl (callL_ok rfl 31 rfl rfl (es := [.s (List.map encOfficial x111.1), .s (List.map encInt x115.1)]) (by exact ⟨(.rowR rfl (.map fun y => .vs rfl)), (.rowR rfl (.map fun y => .vs rfl)), trivial⟩) (spec_ClubsOfPanel_ok fuel _ _ _ (hx126)) (zfree_t (zfl (.cons (zfree_map (fun y => (.cons (zfree_v _) .nil))) (.cons (zfree_v _) .nil)))) rfl rfl rfl) ?_
 iterate 5 refine AO.pu T ?_
 refine AO.nil ?_
 iterate 2 refine AW.seq ?_
 obtain ⟨x127, hx128, hH⟩ := bindE hH
 refine AW.region ?_
 iterate 3 refine AO.pu T ?_
 refine AO.pureG T [] rfl trivial rfl rfl ?_
 refine AO.pureG T [251] rfl ⟨fun h => h, trivial⟩ rfl rfl ?_
 refine AO.val rfl rfl (pick_or rfl rfl rfl rfl) ?_
 refine AO.pu T ?_
 iterate 2 refine AO.pureG T [] rfl trivial rfl rfl ?_
 refine AO.guard [255, 256] rfl ⟨fun h => h, fun h => h, trivial⟩ (fun hg => callLV_ok rfl rfl rfl (es := [.s (List.map encInt x123.1), .s (List.map encInt x125.1)]) ⟨(.rowR rfl (.map fun y => .vs rfl)), (.rowR rfl (.map fun y => .vs rfl)), trivial⟩ (laws_sameInts_ok _ _ _ (optT hx128 hg)) (zfree_v _) rfl) rfl ?_
 refine AO.pureG T [257] rfl ⟨fun h => h, trivial⟩ rfl rfl ?_
 refine AO.val rfl rfl (pick_or rfl rfl rfl rfl) ?_
 refine AO.nil ?_
 refine AW.cond (b := (((!x123.2) || (!x125.2)) || (!x127))) rfl (fun hc => ?_) (fun hc => ?_)
 replace hH := condT hc hH
 refine AW.seq (AW.region ?_)
 refine AO.pu T ?_
 refine AO.nil (AW.ret ?_)
 have hR := someE hH; subst hR
 exact retQ.i [] rfl (.c (.c .v))
 replace hH := condF hc hH
 refine AW.skip ?_
 refine AW.seq (AW.region ?_)
 refine AO.pu T ?_
 refine AO.val rfl rfl (len_row_ok T rfl rfl rfl rfl) ?_
 refine AO.pu T ?_
 refine AO.nil ?_
 refine AW.block ?_
 refine AW.loopS (fun s : Nat => (⟨[(1, .s (List.map encInt_u8 more)), (26, .R 27), (260, .R 31), (261, (x125.1.length : Int)), (262, (s : Int))], [(27, .row 1 (List.map encInt x111.2.1)), (31, .row 1 (List.map encInt x125.1))], 304, []⟩ : St)) (fun s => s ≤ x125.1.length ∧ laws_FnPanels_l3 more fuel x111 (x125.1.drop s) s = some r) (fun s => x125.1.length - s) 0 ⟨Nat.zero_le _, hH⟩ ?_ ?_
 exact Le.ct 0 0
 rintro k129 ⟨hk, hH⟩
 replace hH : laws_FnPanels_l3 more fuel x111 (x125.1.drop k129) k129 = some r := hH
 try dsimp only
 refine AW.boundR (id := 31) (l := x125.1) rfl (fun hb133 => ?_)
 rcases hd132 : x125.1.drop k129 with _ | ⟨y130, ys131⟩
 rw [hd132, laws_FnPanels_l3] at hH
 have hlt134 := drop_ge hd132
 refine AW.seq (AW.region ?_)
 refine AO.pu T ?_
 refine AO.nil (AW.seq ?_)
 refine AW.condF' (b := decide ((k129 : Int) < (x125.1.length : Int))) rfl (rngF hlt134) ?_
 refine AW.exit ?_
 refine AW.seq ?_
 obtain ⟨x140, hx141, hH⟩ := bindE hH
 refine AW.region ?_
 refine AO.pu T ?_
 refine AO.step rfl (call_ok rfl 32 rfl rfl rfl (spec_DrawIsPanel_ok fuel _ _ (hx141)) rfl rfl rfl) ?_
 iterate 11 refine AO.pu T ?_
 refine AO.nil (AW.seq ?_)
 obtain ⟨x142, hx143, hH⟩ := bindE hH
 refine AW.region ?_
 iterate 5 refine AO.pu T ?_
 refine AO.val rfl rfl (callLV_ok rfl rfl rfl (es := [.s (List.map encOfficial x140.1), .s (List.map encInt x140.2.1), x140.2.2.1, x140.2.2.2.1, .s (List.map encInt x140.2.2.2.2)]) ⟨(.rowR rfl (.map fun y => .vs rfl)), (.rowR rfl (.map fun y => .vs rfl)), .free rfl, .free rfl, .free rfl, trivial⟩ (impl_IsPanel_ok fuel _ _ _ _ _ _ (hx143)) (zfree_t (zfl (.cons (zfree_v _) (.cons (zfree_v _) .nil)))) rfl) ?_
 iterate 5 refine AO.pu T ?_
 refine AO.nil ?_
 refine AW.le (Le.ct 0 0 (σ' := (⟨[(38, .R 32), (39, .R 33), (40, x140.2.2.1), (41, x140.2.2.2.1), (42, .s (List.map encInt x140.2.2.2.2)), (43, .v (.bool x142.1)), (44, .v (.bool x142.2))], [(32, .row 3 (List.map encOfficial x140.1)), (33, .row 1 (List.map encInt x140.2.1))], 304, []⟩ : St))) ?_
 refine AW.seq ?_
 obtain ⟨x144, hx145, hH⟩ := bindE hH
 refine AW.region ?_
 iterate 5 refine AO.pu T ?_
 refine AO.val rfl rfl (callLV_ok rfl rfl rfl (es := [.s (List.map encOfficial x140.1), .s (List.map encInt x140.2.1), x140.2.2.1, x140.2.2.2.1, .s (List.map encInt x140.2.2.2.2)]) ⟨(.rowR rfl (.map fun y => .vs rfl)), (.rowR rfl (.map fun y => .vs rfl)), .free rfl, .free rfl, .free rfl, trivial⟩ (spec_IsPanel_ok fuel _ _ _ _ _ _ (hx145)) (zfree_t (zfl (.cons (zfree_v _) (.cons (zfree_v _) .nil)))) rfl) ?_
 iterate 5 refine AO.pu T ?_
 refine AO.nil (AW.seq ?_)
 refine AW.region ?_
 iterate 4 refine AO.pu T ?_
 iterate 2 refine AO.pureG T [] rfl trivial rfl rfl ?_
 refine AO.pureG T [300, 301] rfl ⟨fun h => h, fun h => h, trivial⟩ rfl rfl ?_
 refine AO.val rfl rfl (pick_and rfl rfl rfl rfl) ?_
 refine AO.pu T ?_
 refine AO.nil (AW.ret ?_)
 have hR := someE hH; subst hR
 exact retQ.i [] rfl (.c (.c .v))
 rw [hd132, laws_FnPanels_l3] at hH
 have hlt134 := drop_lt hd132
 refine AW.seq (AW.region ?_)
 refine AO.pu T ?_
 refine AO.nil (AW.seq ?_)
 refine AW.condT' (b := decide ((k129 : Int) < (x125.1.length : Int))) rfl (rngT hlt134) ?_
 refine AW.skip ?_
 refine AW.seq ?_
 refine AW.block ?_
 refine AW.seq (AW.region ?_)
 refine AO.val rfl rfl (ix_row_ok T rfl rfl rfl rfl rfl rfl (getI_drop hd132)) ?_
 refine AO.val rfl rfl (load_row_ok T rfl rfl rfl rfl (getI_get (getI_drop hd132)) rfl rfl rfl) ?_
 refine AO.pu T ?_
 refine AO.nil (AW.seq ?_)
 obtain ⟨x146, hx147, hH⟩ := bindE hH
 refine AW.region ?_
 iterate 2 refine AO.pu T ?_
 refine AO.val rfl rfl (callLV_ok rfl rfl rfl (es := [.s (List.map encInt x111.2.1), y130]) ⟨(.rowR rfl (.map fun y => .vs rfl)), .free rfl, trivial⟩ (laws_pIn_ok _ _ _ (hx147)) (zfree_v _) rfl) ?_
 refine AO.nil ?_
 refine AW.cond (b := x146) rfl (fun hc => ?_) (fun hc => ?_)
 replace hH := condT hc hH
 refine AW.seq (AW.region ?_)
 refine AO.pu T ?_
 refine AO.nil (AW.ret ?_)
 have hR := someE hH; subst hR
 exact retQ.i [] rfl (.c (.c .v))
 replace hH := condF hc hH
 refine AW.skip ?_
 refine AW.region ?_
 refine AO.val rfl rfl (ar_ok rfl rfl rfl rfl (inI_succ hlt134 hb133)) ?_
 refine AO.pu T ?_
 refine AO.nil ?_
 refine ⟨k129 + 1, ⟨Nat.succ_le_of_lt hlt134, (by rw [drop_succ_of hd132]; exact hH)⟩, (by have := hlt134; dsimp only; omega), ?_⟩
 exact Le.ct 0 0
 replace hH := condF hc hH
 refine AW.skip ?_
 refine AW.seq ?_
 obtain ⟨x148, hx149, hH⟩ := bindE hH
 refine AW.region ?_
 refine AO.pu T ?_
 refine AO.step rfl (call_ok rfl 34 rfl rfl rfl (spec_DrawIsPanel_ok fuel _ _ (hx149)) rfl rfl rfl) ?_
 iterate 11 refine AO.pu T ?_
 refine AO.nil ?_
 refine AW.le (Le.ct 0 0 (σ' := (⟨[(38, .R 34), (39, .R 35), (40, x148.2.2.1), (41, x148.2.2.2.1), (42, .s (List.map encInt x148.2.2.2.2))], [(34, .row 3 (List.map encOfficial x148.1)), (35, .row 1 (List.map encInt x148.2.1))], 304, []⟩ : St))) ?_
 refine AW.seq ?_
 obtain ⟨x150, hx151, hH⟩ := bindE hH
 refine AW.region ?_
 iterate 5 refine AO.pu T ?_
 refine AO.val rfl rfl (callLV_ok rfl rfl rfl (es := [.s (List.map encOfficial x148.1), .s (List.map encInt x148.2.1), x148.2.2.1, x148.2.2.2.1, .s (List.map encInt x148.2.2.2.2)]) ⟨(.rowR rfl (.map fun y => .vs rfl)), (.rowR rfl (.map fun y => .vs rfl)), .free rfl, .free rfl, .free rfl, trivial⟩ (impl_IsPanel_ok fuel _ _ _ _ _ _ (hx151)) (zfree_t (zfl (.cons (zfree_v _) (.cons (zfree_v _) .nil)))) rfl) ?_
 iterate 5 refine AO.pu T ?_
 refine AO.nil (AW.seq ?_)
 obtain ⟨x152, hx153, hH⟩ := bindE hH
 refine AW.region ?_
 iterate 5 refine AO.pu T ?_
 refine AO.val rfl rfl (callLV_ok rfl rfl rfl (es := [.s (List.map encOfficial x148.1), .s (List.map encInt x148.2.1), x148.2.2.1, x148.2.2.2.1, .s (List.map encInt x148.2.2.2.2)]) ⟨(.rowR rfl (.map fun y => .vs rfl)), (.rowR rfl (.map fun y => .vs rfl)), .free rfl, .free rfl, .free rfl, trivial⟩ (spec_IsPanel_ok fuel _ _ _ _ _ _ (hx153)) (zfree_t (zfl (.cons (zfree_v _) (.cons (zfree_v _) .nil)))) rfl) ?_
 iterate 5 refine AO.pu T ?_
 refine AO.nil (AW.seq ?_)
 refine AW.region ?_
 iterate 4 refine AO.pu T ?_
 iterate 2 refine AO.pureG T [] rfl trivial rfl rfl ?_
 refine AO.pureG T [300, 301] rfl ⟨fun h => h, fun h => h, trivial⟩ rfl rfl ?_
 refine AO.val rfl rfl (pick_and rfl rfl rfl rfl) ?_
 refine AO.pu T ?_
 refine AO.nil ?_
 refine AW.le (Le.ct 0 0 (σ' := (⟨[(4, .v (.bool ((x150.2 == x152.2) && (x150.1 == x152.1))))], [], 304, []⟩ : St))) ?_
 refine AW.ret ?_
 have hR := someE hH; subst hR
 exact retQ.i [] rfl (.c (.c .v))
 replace hH := condF hc hH
 refine AW.skip ?_
 refine AW.seq ?_
 obtain ⟨x154, hx155, hH⟩ := bindE hH
 refine AW.region ?_
 refine AO.pu T ?_
 refine AO.step rfl (call_ok rfl 36 rfl rfl rfl (spec_DrawEligibleFor_ok fuel _ _ (hx155)) rfl rfl rfl) ?_
 iterate 7 refine AO.pu T ?_
 refine AO.nil ?_
 refine AW.le (Le.ct 0 0 (σ' := (⟨[(1, .s (List.map encInt_u8 more)), (25, .R 36), (26, .R 37), (27, x154.2.2)], [(36, .row 3 (List.map encOfficial x154.1)), (37, .row 1 (List.map encInt x154.2.1))], 304, []⟩ : St))) ?_
 refine AW.seq ?_
 obtain ⟨x156, hx157, hH⟩ := bindE hH
 refine AW.region ?_
 iterate 3 refine AO.pu T ?_
 refine AO.step rfl (callL_ok rfl 38 rfl rfl (es := [.s (List.map encOfficial x154.1), .s (List.map encInt x154.2.1), x154.2.2]) (by exact ⟨(.rowR rfl (.map fun y => .vs rfl)), (.rowR rfl (.map fun y => .vs rfl)), .free rfl, trivial⟩) (impl_EligibleFor_ok _ _ _ _ (hx157)) (zfree_t (zfl (.cons (zfree_map (fun y => (.cons (zfree_v _) .nil))) (.cons (zfree_v _) .nil)))) rfl rfl rfl) ?_
 iterate 5 refine AO.pu T ?_
 refine AO.nil (AW.seq ?_)
 obtain ⟨x158, hx159, hH⟩ := bindE hH
 refine AW.region ?_
 iterate 3 refine AO.pu T ?_
 refine AO.step rfl (callL_ok rfl 39 rfl rfl (es := [.s (List.map encOfficial x154.1), .s (List.map encInt x154.2.1), x154.2.2]) (by exact ⟨(.rowR rfl (.map fun y => .vs rfl)), (.rowR rfl (.map fun y => .vs rfl)), .free rfl, trivial⟩) (spec_EligibleFor_ok fuel _ _ _ _ (hx159)) (zfree_t (zfl (.cons (zfree_map (fun y => (.cons (zfree_v _) .nil))) (.cons (zfree_v _) .nil)))) rfl rfl rfl) ?_
 iterate 5 refine AO.pu T ?_
 refine AO.nil ?_
 iterate 2 refine AW.seq ?_
 obtain ⟨x160, hx161, hH⟩ := bindE hH
 obtain ⟨x162, hx163, hH⟩ := bindE hH
 obtain ⟨x164, hx165, hH⟩ := bindE hH
 refine AW.region ?_
 iterate 4 refine AO.pu T ?_
 iterate 2 refine AO.pureG T [] rfl trivial rfl rfl ?_
 refine AO.guard [223, 224] rfl ⟨fun h => h, fun h => h, trivial⟩ (fun hg => callLV_ok rfl rfl rfl (es := [.s (List.map encInt x156.1), .s (List.map encInt x158.1)]) ⟨(.rowR rfl (.map fun y => .vs rfl)), (.rowR rfl (.map fun y => .vs rfl)), trivial⟩ (laws_sameInts_ok _ _ _ (optT hx161 hg)) (zfree_v _) rfl) rfl ?_
 refine AO.pureG T [225] rfl ⟨fun h => h, trivial⟩ rfl rfl ?_
 refine AO.val rfl rfl (pick_or rfl rfl rfl rfl) ?_
 refine AO.pu T ?_
 refine AO.pureG T [] rfl trivial rfl rfl ?_
 refine AO.guard [229] rfl ⟨fun h => h, trivial⟩ (fun hg => callLV_ok rfl rfl rfl (es := [.s (List.map encOfficial x154.1)]) ⟨(.rowR rfl (.map fun y => .vs rfl)), trivial⟩ (impl_AreOfficials_ok _ _ (optT hx163 hg)) (zfree_v _) rfl) rfl ?_
 refine AO.pureG T [] rfl trivial rfl rfl ?_
 refine AO.guard [231] rfl ⟨fun h => h, trivial⟩ (fun hg => callLV_ok rfl rfl rfl (es := [.s (List.map encOfficial x154.1)]) ⟨(.rowR rfl (.map fun y => .vs rfl)), trivial⟩ (spec_AreOfficials_ok _ _ (optT hx165 hg)) (zfree_v _) rfl) rfl ?_
 refine AO.pureG T [230, 232] rfl ⟨fun h => h, fun h => h, trivial⟩ rfl rfl ?_
 refine AO.val rfl rfl (pick_or rfl rfl rfl rfl) ?_
 refine AO.nil ?_
 refine AW.le (Le.ct 0 0 (σ' := (⟨[(1, .s (List.map encInt_u8 more)), (25, .R 36), (26, .R 37), (28, .R 38), (29, .v (.bool x156.2)), (30, .R 39), (234, .v (.bool (((!(x156.2 == x158.2)) || (!x160)) || (!(x162 == x164)))))], [(36, .row 3 (List.map encOfficial x154.1)), (37, .row 1 (List.map encInt x154.2.1)), (38, .row 1 (List.map encInt x156.1)), (39, .row 1 (List.map encInt x158.1))], 304, []⟩ : St))) ?_
 refine AW.cond (b := (((!(x156.2 == x158.2)) || (!x160)) || (!(x162 == x164)))) rfl (fun hc => ?_) (fun hc => ?_)
 replace hH := condT hc hH
 refine AW.seq (AW.region ?_)
 refine AO.pu T ?_
 refine AO.nil (AW.ret ?_)
 have hR := someE hH; subst hR
 exact retQ.i [] rfl (.c (.c .v))
 replace hH := condF hc hH
 refine AW.skip ?_
 iterate 2 refine AW.seq ?_
 refine AW.region ?_
 refine AO.pu T ?_
 refine AO.nil ?_
 refine AW.cond (b := x156.2) rfl (fun hc => ?_) (fun hc => ?_)
 replace hH := condT hc hH
 refine AW.seq ?_
 obtain ⟨x166, hx167, hH⟩ := bindE hH
 refine AW.region ?_
 iterate 2 refine AO.pu T ?_
 refine AO.step rfl (callL_ok rfl 40 rfl rfl (es := [.s (List.map encOfficial x154.1), .s (List.map encInt x156.1)]) (by exact ⟨(.rowR rfl (.map fun y => .vs rfl)), (.rowR rfl (.map fun y => .vs rfl)), trivial⟩) (impl_ClubsOfPanel_ok fuel _ _ _ (hx167)) (zfree_t (zfl (.cons (zfree_map (fun y => (.cons (zfree_v _) .nil))) (.cons (zfree_v _) .nil)))) rfl rfl rfl) ?_
 iterate 5 refine AO.pu T ?_
 refine AO.nil (AW.seq ?_)
 obtain ⟨x168, hx169, hH⟩ := bindE hH
 refine AW.region ?_
 iterate 2 refine AO.pu T ?_
 refine AO.step rfl (callL_ok rfl 41 rfl rfl (es := [.s (List.map encOfficial x154.1), .s (List.map encInt x158.1)]) (by exact ⟨(.rowR rfl (.map fun y => .vs rfl)), (.rowR rfl (.map fun y => .vs rfl)), trivial⟩) (spec_ClubsOfPanel_ok fuel _ _ _ (hx169)) (zfree_t (zfl (.cons (zfree_map (fun y => (.cons (zfree_v _) .nil))) (.cons (zfree_v _) .nil)))) rfl rfl rfl) ?_
 iterate 5 refine AO.pu T ?_
 refine AO.nil ?_
 iterate 2 refine AW.seq ?_
 obtain ⟨x170, hx171, hH⟩ := bindE hH
 refine AW.region ?_
 iterate 3 refine AO.pu T ?_
 refine AO.pureG T [] rfl trivial rfl rfl ?_
 refine AO.pureG T [251] rfl ⟨fun h => h, trivial⟩ rfl rfl ?_
 refine AO.val rfl rfl (pick_or rfl rfl rfl rfl) ?_
 refine AO.pu T ?_
 iterate 2 refine AO.pureG T [] rfl trivial rfl rfl ?_
 refine AO.guard [255, 256] rfl ⟨fun h => h, fun h => h, trivial⟩ (fun hg => callLV_ok rfl rfl rfl (es := [.s (List.map encInt x166.1), .s (List.map encInt x168.1)]) ⟨(.rowR rfl (.map fun y => .vs rfl)), (.rowR rfl (.map fun y => .vs rfl)), trivial⟩ (laws_sameInts_ok _ _ _ (optT hx171 hg)) (zfree_v _) rfl) rfl ?_
 refine AO.pureG T [257] rfl ⟨fun h => h, trivial⟩ rfl rfl ?_
 refine AO.val rfl rfl (pick_or rfl rfl rfl rfl) ?_
 refine AO.nil ?_
 refine AW.le (Le.ct 0 0 (σ' := (⟨[(1, .s (List.map encInt_u8 more)), (26, .R 37), (34, .R 41), (259, .v (.bool (((!x166.2) || (!x168.2)) || (!x170))))], [(37, .row 1 (List.map encInt x154.2.1)), (41, .row 1 (List.map encInt x168.1))], 304, []⟩ : St))) ?_
 refine AW.cond (b := (((!x166.2) || (!x168.2)) || (!x170))) rfl (fun hc => ?_) (fun hc => ?_)
 replace hH := condT hc hH
 refine AW.seq (AW.region ?_)
 refine AO.pu T ?_
 refine AO.nil (AW.ret ?_)
 have hR := someE hH; subst hR
 exact retQ.i [] rfl (.c (.c .v))
 replace hH := condF hc hH
 refine AW.skip ?_
 refine AW.seq (AW.region ?_)
 refine AO.pu T ?_
 refine AO.val rfl rfl (len_row_ok T rfl rfl rfl rfl) ?_
 refine AO.pu T ?_
 refine AO.nil ?_
 refine AW.block ?_
 refine AW.loopS (fun s : Nat => (⟨[(1, .s (List.map encInt_u8 more)), (26, .R 37), (260, .R 41), (261, (x168.1.length : Int)), (262, (s : Int))], [(37, .row 1 (List.map encInt x154.2.1)), (41, .row 1 (List.map encInt x168.1))], 304, []⟩ : St)) (fun s => s ≤ x168.1.length ∧ laws_FnPanels_l4 more fuel x154 (x168.1.drop s) s = some r) (fun s => x168.1.length - s) 0 ⟨Nat.zero_le _, hH⟩ ?_ ?_
 exact Le.ct 0 0
 rintro k172 ⟨hk, hH⟩
 replace hH : laws_FnPanels_l4 more fuel x154 (x168.1.drop k172) k172 = some r := hH
 try dsimp only
 refine AW.boundR (id := 41) (l := x168.1) rfl (fun hb176 => ?_)
 rcases hd175 : x168.1.drop k172 with _ | ⟨y173, ys174⟩
 rw [hd175, laws_FnPanels_l4] at hH
 have hlt177 := drop_ge hd175
 refine AW.seq (AW.region ?_)
 refine AO.pu T ?_
 refine AO.nil (AW.seq ?_)
 refine AW.condF' (b := decide ((k172 : Int) < (x168.1.length : Int))) rfl (rngF hlt177) ?_
 refine AW.exit ?_
 refine AW.seq ?_
 obtain ⟨x183, hx184, hH⟩ := bindE hH
 refine AW.region ?_
 refine AO.pu T ?_
 refine AO.step rfl (call_ok rfl 42 rfl rfl rfl (spec_DrawIsPanel_ok fuel _ _ (hx184)) rfl rfl rfl) ?_
 iterate 11 refine AO.pu T ?_
 refine AO.nil (AW.seq ?_)
 obtain ⟨x185, hx186, hH⟩ := bindE hH
 refine AW.region ?_
 iterate 5 refine AO.pu T ?_
 refine AO.val rfl rfl (callLV_ok rfl rfl rfl (es := [.s (List.map encOfficial x183.1), .s (List.map encInt x183.2.1), x183.2.2.1, x183.2.2.2.1, .s (List.map encInt x183.2.2.2.2)]) ⟨(.rowR rfl (.map fun y => .vs rfl)), (.rowR rfl (.map fun y => .vs rfl)), .free rfl, .free rfl, .free rfl, trivial⟩ (impl_IsPanel_ok fuel _ _ _ _ _ _ (hx186)) (zfree_t (zfl (.cons (zfree_v _) (.cons (zfree_v _) .nil)))) rfl) ?_
 iterate 5 refine AO.pu T ?_
 refine AO.nil ?_
 refine AW.le (Le.ct 0 0 (σ' := (⟨[(38, .R 42), (39, .R 43), (40, x183.2.2.1), (41, x183.2.2.2.1), (42, .s (List.map encInt x183.2.2.2.2)), (43, .v (.bool x185.1)), (44, .v (.bool x185.2))], [(42, .row 3 (List.map encOfficial x183.1)), (43, .row 1 (List.map encInt x183.2.1))], 304, []⟩ : St))) ?_
 refine AW.seq ?_
 obtain ⟨x187, hx188, hH⟩ := bindE hH
 refine AW.region ?_
 iterate 5 refine AO.pu T ?_
 refine AO.val rfl rfl (callLV_ok rfl rfl rfl (es := [.s (List.map encOfficial x183.1), .s (List.map encInt x183.2.1), x183.2.2.1, x183.2.2.2.1, .s (List.map encInt x183.2.2.2.2)]) ⟨(.rowR rfl (.map fun y => .vs rfl)), (.rowR rfl (.map fun y => .vs rfl)), .free rfl, .free rfl, .free rfl, trivial⟩ (spec_IsPanel_ok fuel _ _ _ _ _ _ (hx188)) (zfree_t (zfl (.cons (zfree_v _) (.cons (zfree_v _) .nil)))) rfl) ?_
 iterate 5 refine AO.pu T ?_
 refine AO.nil (AW.seq ?_)
 refine AW.region ?_
 iterate 4 refine AO.pu T ?_
 iterate 2 refine AO.pureG T [] rfl trivial rfl rfl ?_
 refine AO.pureG T [300, 301] rfl ⟨fun h => h, fun h => h, trivial⟩ rfl rfl ?_
 refine AO.val rfl rfl (pick_and rfl rfl rfl rfl) ?_
 refine AO.pu T ?_
 refine AO.nil (AW.ret ?_)
 have hR := someE hH; subst hR
 exact retQ.i [] rfl (.c (.c .v))
 rw [hd175, laws_FnPanels_l4] at hH
 have hlt177 := drop_lt hd175
 refine AW.seq (AW.region ?_)
 refine AO.pu T ?_
 refine AO.nil (AW.seq ?_)
 refine AW.condT' (b := decide ((k172 : Int) < (x168.1.length : Int))) rfl (rngT hlt177) ?_
 refine AW.skip ?_
 refine AW.seq ?_
 refine AW.block ?_
 refine AW.seq (AW.region ?_)
 refine AO.val rfl rfl (ix_row_ok T rfl rfl rfl rfl rfl rfl (getI_drop hd175)) ?_
 refine AO.val rfl rfl (load_row_ok T rfl rfl rfl rfl (getI_get (getI_drop hd175)) rfl rfl rfl) ?_
 refine AO.pu T ?_
 refine AO.nil (AW.seq ?_)
 obtain ⟨x189, hx190, hH⟩ := bindE hH
 refine AW.region ?_
 iterate 2 refine AO.pu T ?_
 refine AO.val rfl rfl (callLV_ok rfl rfl rfl (es := [.s (List.map encInt x154.2.1), y173]) ⟨(.rowR rfl (.map fun y => .vs rfl)), .free rfl, trivial⟩ (laws_pIn_ok _ _ _ (hx190)) (zfree_v _) rfl) ?_
 refine AO.nil ?_
 refine AW.cond (b := x189) rfl (fun hc => ?_) (fun hc => ?_)
 replace hH := condT hc hH
 refine AW.seq (AW.region ?_)
 refine AO.pu T ?_
 refine AO.nil (AW.ret ?_)
 have hR := someE hH; subst hR
 exact retQ.i [] rfl (.c (.c .v))
 replace hH := condF hc hH
 refine AW.skip ?_
 refine AW.region ?_
 refine AO.val rfl rfl (ar_ok rfl rfl rfl rfl (inI_succ hlt177 hb176)) ?_
 refine AO.pu T ?_
 refine AO.nil ?_
 refine ⟨k172 + 1, ⟨Nat.succ_le_of_lt hlt177, (by rw [drop_succ_of hd175]; exact hH)⟩, (by have := hlt177; dsimp only; omega), ?_⟩
 exact Le.ct 0 0
 replace hH := condF hc hH
 refine AW.skip ?_
 refine AW.seq ?_
 obtain ⟨x191, hx192, hH⟩ := bindE hH
 refine AW.region ?_
 refine AO.pu T ?_
 refine AO.step rfl (call_ok rfl 44 rfl rfl rfl (spec_DrawIsPanel_ok fuel _ _ (hx192)) rfl rfl rfl) ?_
 iterate 11 refine AO.pu T ?_
 refine AO.nil (AW.seq ?_)
 obtain ⟨x193, hx194, hH⟩ := bindE hH
 refine AW.region ?_
 iterate 5 refine AO.pu T ?_
 refine AO.val rfl rfl (callLV_ok rfl rfl rfl (es := [.s (List.map encOfficial x191.1), .s (List.map encInt x191.2.1), x191.2.2.1, x191.2.2.2.1, .s (List.map encInt x191.2.2.2.2)]) ⟨(.rowR rfl (.map fun y => .vs rfl)), (.rowR rfl (.map fun y => .vs rfl)), .free rfl, .free rfl, .free rfl, trivial⟩ (impl_IsPanel_ok fuel _ _ _ _ _ _ (hx194)) (zfree_t (zfl (.cons (zfree_v _) (.cons (zfree_v _) .nil)))) rfl) ?_
 iterate 5 refine AO.pu T ?_
 refine AO.nil ?_
 refine AW.le (Le.ct 0 0 (σ' := (⟨[(38, .R 44), (39, .R 45), (40, x191.2.2.1), (41, x191.2.2.2.1), (42, .s (List.map encInt x191.2.2.2.2)), (43, .v (.bool x193.1)), (44, .v (.bool x193.2))], [(44, .row 3 (List.map encOfficial x191.1)), (45, .row 1 (List.map encInt x191.2.1))], 304, []⟩ : St))) ?_
 refine AW.seq ?_
 obtain ⟨x195, hx196, hH⟩ := bindE hH
 refine AW.region ?_
 iterate 5 refine AO.pu T ?_
 refine AO.val rfl rfl (callLV_ok rfl rfl rfl (es := [.s (List.map encOfficial x191.1), .s (List.map encInt x191.2.1), x191.2.2.1, x191.2.2.2.1, .s (List.map encInt x191.2.2.2.2)]) ⟨(.rowR rfl (.map fun y => .vs rfl)), (.rowR rfl (.map fun y => .vs rfl)), .free rfl, .free rfl, .free rfl, trivial⟩ (spec_IsPanel_ok fuel _ _ _ _ _ _ (hx196)) (zfree_t (zfl (.cons (zfree_v _) (.cons (zfree_v _) .nil)))) rfl) ?_
 iterate 5 refine AO.pu T ?_
 refine AO.nil (AW.seq ?_)
 refine AW.region ?_
 iterate 4 refine AO.pu T ?_
 iterate 2 refine AO.pureG T [] rfl trivial rfl rfl ?_
 refine AO.pureG T [300, 301] rfl ⟨fun h => h, fun h => h, trivial⟩ rfl rfl ?_
 refine AO.val rfl rfl (pick_and rfl rfl rfl rfl) ?_
 refine AO.pu T ?_
 refine AO.nil (AW.ret ?_)
 have hR := someE hH; subst hR
 exact retQ.i [] rfl (.c (.c .v))

end Go.Proofs.Ytegdphhfimaieac

/- The walk, part 3: what each function reached by the law FnExactRunSteps computes. No condition. -/
import Derived.Test.YtbclgnikhophlaaGreatWalk2
set_option maxRecDepth 4000
set_option maxHeartbeats 1000000
set_option linter.unusedVariables false
set_option linter.unusedSimpArgs false
set_option linter.unusedSectionVars false

namespace Go.Proofs.YtbclgnikhophlaaGreat
open Go.AM

def impl_cutInto_l1 : List Int → Nat → List Int → List (List Int) → Option ((List (List Int)))
  | [], k1, v25, v26 =>
    some v26
  | y2 :: ys3, k1, v25, v26 =>
    (sliceHi v25 y2).bind fun x28 =>
    (impl_copyInts_p x28).bind fun x30 =>
    (need (fitsB 24 (v26.length + ([x30]).length))).bind fun u32 =>
    (sliceLo v25 y2).bind fun x34 =>
    impl_cutInto_l1 ys3 (k1 + 1) x34 (v26 ++ [x30])
def impl_cutInto_p (l : List Int) (sizes : List Int) : Option (List (List Int)) :=
  impl_cutInto_l1 sizes 0 l []
theorem impl_cutInto_ok (l : List Int) (sizes : List Int) (r : (List (List Int))) (hH : impl_cutInto_p l sizes = some r) : SpecR Tryz.prog 167 [.s (List.map encInt l), .s (List.map encInt sizes)] (.w 1 (r.map encLIntO)) := by
 refine fn_ok T Tryz.func167 rfl (by decide) rfl ?_
 refine AW.seq (AW.region ?_)
 refine AO.pu T ?_
 refine AO.nil (AW.seq ?_)
 refine AW.region ?_
 refine AO.step rfl (mk0_ok T rfl rfl rfl rfl) ?_
 refine AO.pu T ?_
 refine AO.nil ?_
 iterate 2 refine AW.seq ?_
 refine AW.region ?_
 refine AO.pu T ?_
 refine AO.val rfl rfl (len_map_ok T rfl rfl rfl) ?_
 refine AO.pu T ?_
 refine AO.nil ?_
 refine AW.block ?_
 refine AW.loopS (fun s : Nat × (List Int) × (List (List Int)) => (⟨[(0, .s (List.map encInt s.2.1)), (5, .R 6), (9, .s (List.map encInt sizes)), (10, (sizes.length : Int)), (11, (s.1 : Int))], [(6, .row 1 (List.map encLIntO s.2.2))], 27, []⟩ : St)) (fun s => s.1 ≤ sizes.length ∧ impl_cutInto_l1 (sizes.drop s.1) s.1 s.2.1 s.2.2 = some r) (fun s => sizes.length - s.1) (0, l, []) ⟨Nat.zero_le _, hH⟩ ?_ ?_
 refine Le.trans (Le.void 5 6 1 rfl rfl) ?_
 exact Le.ct 0 0
 rintro ⟨k1, v25, v26⟩ ⟨hk, hH⟩
 replace hH : impl_cutInto_l1 (sizes.drop k1) k1 v25 v26 = some r := hH
 try dsimp only
 refine AW.boundM (t := 9) (l := sizes) rfl (fun hb5 => ?_)
 rcases hd4 : sizes.drop k1 with _ | ⟨y2, ys3⟩
 rw [hd4, impl_cutInto_l1] at hH
 have hlt6 := drop_ge hd4
 refine AW.seq (AW.region ?_)
 refine AO.pu T ?_
 refine AO.nil (AW.seq ?_)
 refine AW.condF' (b := decide ((k1 : Int) < (sizes.length : Int))) rfl (rngF hlt6) ?_
 refine AW.exit ?_
 refine AW.seq (AW.region ?_)
 iterate 2 refine AO.pu T ?_
 refine AO.nil (AW.ret ?_)
 cases someE hH
 exact retQ.i [6] rfl (.c (.c (.rowR rfl)))
 rw [hd4, impl_cutInto_l1] at hH
 have hlt6 := drop_lt hd4
 refine AW.seq (AW.region ?_)
 refine AO.pu T ?_
 refine AO.nil (AW.seq ?_)
 refine AW.condT' (b := decide ((k1 : Int) < (sizes.length : Int))) rfl (rngT hlt6) ?_
 refine AW.skip ?_
 refine AW.seq ?_
 refine AW.block ?_
 refine AW.seq (AW.region ?_)
 refine AO.val rfl rfl (ix_map_ok T rfl rfl rfl rfl rfl (getI_drop hd4) rfl) ?_
 iterate 2 refine AO.pu T ?_
 refine AO.nil (AW.seq ?_)
 obtain ⟨x28, hx29, hH⟩ := bindE hH
 obtain ⟨x30, hx31, hH⟩ := bindE hH
 obtain ⟨u32, hx33, hH⟩ := bindE hH
 refine AW.region ?_
 iterate 3 refine AO.pu T ?_
 refine AO.val rfl rfl (slice_hi_map_ok T rfl rfl rfl rfl rfl (hx29) (fun _ => rfl)) ?_
 refine AO.step rfl (call_ok rfl 7 rfl rfl rfl (impl_copyInts_ok _ _ (hx31)) rfl rfl rfl) ?_
 refine AO.step rfl (mk_o_ok T rfl 8 rfl rfl rfl rfl rfl rfl (f := encLIntO) (l := [x30]) (ids := [7]) rfl rfl (fun _ => rfl) (by exact expLC_cons (.rowR rfl) (expLC_nil)) (by decide) rfl rfl rfl rfl rfl) ?_
 refine AO.step rfl (app_rr_map T rfl 9 rfl rfl rfl rfl rfl (by decide) rfl rfl rfl rfl rfl (needT (hx33)) rfl rfl) ?_
 refine AO.pu T ?_
 refine AO.nil ?_
 obtain ⟨x34, hx35, hH⟩ := bindE hH
 refine AW.region ?_
 iterate 2 refine AO.pu T ?_
 refine AO.val rfl rfl (slice_lo_map_ok T rfl rfl rfl rfl rfl (hx35) (fun _ => rfl)) ?_
 refine AO.pu T ?_
 refine AO.nil ?_
 refine AW.region ?_
 refine AO.val rfl rfl (ar_ok rfl rfl rfl rfl (inI_succ hlt6 hb5)) ?_
 refine AO.pu T ?_
 refine AO.nil ?_
 refine ⟨(k1 + 1, x34, (v26 ++ [x30])), ⟨Nat.succ_le_of_lt hlt6, (by rw [drop_succ_of hd4]; exact hH)⟩, (by have := hlt6; dsimp only; omega), ?_⟩
 exact Le.ct 9 6

def impl_rankGroups_l2 (x22 : (List (List Int))) : Nat → List (List Int) → List (List Int) → Int → Option (((List (List Int)) × Bool))
  | 0, _, _, _ => none
  | k24 + 1, v36, v37, v38 =>
    cond (decide (v38 < (x22.length : Int)))
      ((getI v37 v38).bind fun x40 =>
      (slices_Sort_int_p x40).bind fun x42 =>
      impl_rankGroups_l2 x22 k24 (v37.set v38.toNat x42) (v37.set v38.toNat x42) (w64 (v38 + 1)))
      (some (v37, true))
def impl_rankGroups_l1 (l : List Entrant) (size : Int) (fuel : Nat) : List Entrant → Nat → List Int → Option (((List (List Int)) × Bool))
  | [], k7, v18 =>
    (impl_evenSizes_p fuel (l.length : Int) (w64 ((w64 ((w64 ((l.length : Int) + size)) - 1)).tdiv size))).bind fun x20 =>
    (impl_cutInto_p v18 x20).bind fun x22 =>
    impl_rankGroups_l2 x22 fuel x22 x22 0
  | y8 :: ys9, k7, v18 =>
    (need (fitsB 8 (v18.length + ([y8.skater]).length))).bind fun u44 =>
    impl_rankGroups_l1 l size fuel ys9 (k7 + 1) (v18 ++ [y8.skater])
def impl_rankGroups_p (fuel : Nat) (l : List Entrant) (size : Int) : Option ((List (List Int)) × Bool) :=
  (need (size != 0)).bind fun u1 =>
  cond (decide ((w64 ((w64 ((w64 ((l.length : Int) + size)) - 1)).tdiv size)) > 8))
    (some ([], false))
    ((need (fitsB 16 l.length)).bind fun u3 =>
    (slices_SortFunc_Entrant_p l (fun a0 a1 => impl_compareBehind_p a0 a1)).bind fun x5 =>
    impl_rankGroups_l1 l size fuel x5 0 [])
theorem impl_rankGroups_ok (fuel : Nat) (l : List Entrant) (size : Int) (r : ((List (List Int)) × Bool)) (hH : impl_rankGroups_p fuel l size = some r) : SpecR Tryz.prog 190 [.s (List.map encEntrant l), size] (.t [.w 1 (r.1.map encLIntO), .v (.bool r.2)]) := by
 refine fn_ok T Tryz.func190 rfl (by decide) rfl ?_
 refine AW.seq (AW.region ?_)
 iterate 2 refine AO.pu T ?_
 refine AO.nil (AW.seq ?_)
 obtain ⟨u1, hx2, hH⟩ := bindE hH
 refine AW.region ?_
 refine AO.pu T ?_
 refine AO.val rfl rfl (len_map_ok T rfl rfl rfl) ?_
 refine AO.pu T ?_
 iterate 2 refine AO.val rfl rfl (arw_ok rfl rfl rfl rfl) ?_
 refine AO.pu T ?_
 refine AO.val rfl rfl (quow_ok rfl rfl rfl (neZ (needT (hx2)))) ?_
 refine AO.pu T ?_
 refine AO.nil ?_
 iterate 2 refine AW.seq ?_
 refine AW.region ?_
 iterate 2 refine AO.pu T ?_
 refine AO.nil ?_
 refine AW.cond (b := decide ((w64 ((w64 ((w64 ((l.length : Int) + size)) - 1)).tdiv size)) > 8)) rfl (fun hc => ?_) (fun hc => ?_)
 replace hH := condT hc hH
 refine AW.seq (AW.region ?_)
 iterate 2 refine AO.pu T ?_
 refine AO.nil (AW.ret ?_)
 cases someE hH
 exact retQ.i [] rfl (.t (expLG_cons (.c .nil) (expLG_cons (.c .v) (expLG_nil))))
 replace hH := condF hc hH
 refine AW.skip ?_
 refine AW.seq ?_
 obtain ⟨u3, hx4, hH⟩ := bindE hH
 refine AW.region ?_
 refine AO.step rfl (mk0_ok T rfl rfl rfl rfl) ?_
 refine AO.pu T ?_
 refine AO.step rfl (app_ws_map T rfl 1 rfl rfl rfl rfl rfl (by decide) (by decide) rfl rfl (fun _ => rfl) (needT (hx4)) rfl rfl) ?_
 refine AO.step rfl (mk0_ok T rfl rfl rfl rfl) ?_
 iterate 2 refine AO.pu T ?_
 refine AO.nil (AW.seq ?_)
 obtain ⟨x5, hx6, hH⟩ := bindE hH
 refine AW.region ?_
 refine AO.pu T ?_
 refine AO.step rfl (callM_ok rfl 2 rfl rfl (es := [.w 2 (l.map encEntrant), .f 209 []]) (outs := [.w 2 (x5.map encEntrant), .u]) (ids := [1]) (by exact expLG_cons (.c (.rowR rfl)) (expLG_cons (.c (.f rfl)) (expLG_nil))) (by decide) (.inl (by rfl)) (by rfl) (slices_SortFunc_Entrant_ok _ 209 [] rfl (fun a0 a1 => impl_compareBehind_p a0 a1) (fun a0 a1 q h => impl_compareBehind_ok a0 a1  q h) _ (hx6)) rfl (by rfl) rfl) ?_
 refine AO.nil ?_
 iterate 2 refine AW.seq ?_
 refine AW.region ?_
 refine AO.pu T ?_
 refine AO.val rfl rfl (len_row_ok T rfl rfl rfl rfl) ?_
 refine AO.pu T ?_
 refine AO.nil ?_
 refine AW.block ?_
 refine AW.loopS (fun s : Nat × (List Int) => (⟨[(0, .s (List.map encEntrant l)), (6, w64 ((w64 ((w64 ((l.length : Int) + size)) - 1)).tdiv size)), (8, .R 7), (29, .R 1), (30, (x5.length : Int)), (31, (s.1 : Int))], [(1, .row 2 (List.map encEntrant x5)), (7, .row 1 (List.map encInt s.2))], 57, []⟩ : St)) (fun s => s.1 ≤ x5.length ∧ impl_rankGroups_l1 l size fuel (x5.drop s.1) s.1 s.2 = some r) (fun s => x5.length - s.1) (0, []) ⟨Nat.zero_le _, hH⟩ ?_ ?_
 refine Le.trans (Le.void 8 7 1 rfl rfl) ?_
 exact Le.ct 0 0
 rintro ⟨k7, v18⟩ ⟨hk, hH⟩
 replace hH : impl_rankGroups_l1 l size fuel (x5.drop k7) k7 v18 = some r := hH
 try dsimp only
 refine AW.boundR (id := 1) (l := x5) rfl (fun hb11 => ?_)
 rcases hd10 : x5.drop k7 with _ | ⟨y8, ys9⟩
 rw [hd10, impl_rankGroups_l1] at hH
 have hlt12 := drop_ge hd10
 refine AW.seq (AW.region ?_)
 refine AO.pu T ?_
 refine AO.nil (AW.seq ?_)
 refine AW.condF' (b := decide ((k7 : Int) < (x5.length : Int))) rfl (rngF hlt12) ?_
 refine AW.exit ?_
 refine AW.seq ?_
 obtain ⟨x20, hx21, hH⟩ := bindE hH
 obtain ⟨x22, hx23, hH⟩ := bindE hH
 refine AW.region ?_
 iterate 2 refine AO.pu T ?_
 refine AO.val rfl rfl (len_map_ok T rfl rfl rfl) ?_
 refine AO.pu T ?_
 refine AO.step rfl (call_ok rfl 8 rfl rfl rfl (impl_evenSizes_ok fuel _ _ _ (hx21)) rfl rfl rfl) ?_
 refine AO.step rfl (callL_ok rfl 9 rfl rfl (es := [.s (List.map encInt v18), .s (List.map encInt x20)]) (by exact ⟨(.rowR rfl (.map fun y => .vs rfl)), (.rowR rfl (.map fun y => .vs rfl)), trivial⟩) (impl_cutInto_ok _ _ _ (hx23)) (zfree_map (fun y => (.cons (zfree_map (fun y => (.cons (zfree_v _) .nil))) .nil))) rfl rfl rfl) ?_
 refine AO.pu T ?_
 refine AO.nil ?_
 iterate 2 refine AW.seq ?_
 refine AW.region ?_
 refine AO.pu T ?_
 refine AO.val rfl rfl (len_row_ok T rfl rfl rfl rfl) ?_
 refine AO.pu T ?_
 refine AO.nil ?_
 refine AW.block ?_
 refine AW.loopS (fun s : Nat × (List (List Int)) × (List (List Int)) × Int => (⟨[(11, .R 9), (47, .R 9), (48, (x22.length : Int)), (49, s.2.2.2)], [(9, .row 1 (List.map encLIntO s.2.2.1))], 57, []⟩ : St)) (fun s => impl_rankGroups_l2 x22 s.1 s.2.1 s.2.2.1 s.2.2.2 = some r) (fun s => s.1) (fuel, x22, x22, 0) hH ?_ ?_
 exact Le.ct 0 0
 rintro ⟨k24, v36, v37, v38⟩ hH
 replace hH : impl_rankGroups_l2 x22 k24 v36 v37 v38 = some r := hH
 try dsimp only
 rcases k24 with _ | k24
 cases (show none = some _ from hH)
 rw [impl_rankGroups_l2] at hH
 refine AW.seq (AW.region ?_)
 refine AO.pu T ?_
 refine AO.nil (AW.seq ?_)
 refine AW.cond (b := decide (v38 < (x22.length : Int))) rfl (fun hc => ?_) (fun hc => ?_)
 replace hH := condT hc hH
 refine AW.skip ?_
 refine AW.seq ?_
 refine AW.block ?_
 refine AW.seq ?_
 obtain ⟨x40, hx41, hH⟩ := bindE hH
 refine AW.le (Le.openM 9 v38.toNat 0 12 rfl (getI_get (hx41)) rfl rfl) ?_
 refine AW.region ?_
 refine AO.val rfl rfl (ix_lent_ok T rfl rfl rfl rfl rfl rfl (hx41)) ?_
 refine AO.val rfl rfl (load_lent_ok T rfl rfl rfl rfl rfl) ?_
 refine AO.pu T ?_
 refine AO.nil ?_
 obtain ⟨x42, hx43, hH⟩ := bindE hH
 refine AW.region ?_
 refine AO.pu T ?_
 refine AO.step rfl (callM_ok rfl 13 rfl rfl (es := [.w 1 (x40.map encInt)]) (outs := [.w 1 (x42.map encInt)]) (ids := [12]) (by exact expLG_cons (.c (.rowR rfl)) (expLG_nil)) (by decide) (.inl (by rfl)) (by rfl) (slices_Sort_int_ok _ _ (hx43)) rfl (by rfl) rfl) ?_
 refine AO.le (Le.closeM 9 v38.toNat 0 12 rfl rfl (getI_get (hx41)) rfl (u' := x42) rfl) ?_
 refine AO.nil ?_
 refine AW.region ?_
 refine AO.val rfl rfl (arw_ok rfl rfl rfl rfl) ?_
 refine AO.pu T ?_
 refine AO.nil ?_
 refine ⟨(k24, (v37.set v38.toNat x42), (v37.set v38.toNat x42), w64 (v38 + 1)), hH, Nat.lt_succ_self _, ?_⟩
 exact Le.ct 0 0
 replace hH := condF hc hH
 refine AW.exit ?_
 refine AW.seq (AW.region ?_)
 iterate 3 refine AO.pu T ?_
 refine AO.nil (AW.ret ?_)
 cases someE hH
 exact retQ.i [9] rfl (.t (expLG_cons (.c (.rowR rfl)) (expLG_cons (.c .v) (expLG_nil))))
 rw [hd10, impl_rankGroups_l1] at hH
 have hlt12 := drop_lt hd10
 refine AW.seq (AW.region ?_)
 refine AO.pu T ?_
 refine AO.nil (AW.seq ?_)
 refine AW.condT' (b := decide ((k7 : Int) < (x5.length : Int))) rfl (rngT hlt12) ?_
 refine AW.skip ?_
 refine AW.seq ?_
 refine AW.block ?_
 refine AW.seq (AW.region ?_)
 refine AO.val rfl rfl (ix_row_ok T rfl rfl rfl rfl rfl rfl (getI_drop hd10)) ?_
 refine AO.val rfl rfl (load_row_ok T rfl rfl rfl rfl (getI_get (getI_drop hd10)) rfl rfl rfl) ?_
 refine AO.step rfl (alloc_ok T rfl 13 rfl rfl rfl rfl rfl) ?_
 refine AO.se T [y8.skater, y8.rank] ?_
 refine AO.nil ?_
 obtain ⟨u44, hx45, hH⟩ := bindE hH
 refine AW.region ?_
 iterate 3 refine AO.pu T ?_
 refine AO.step rfl (mk_map_ok T rfl 14 rfl rfl rfl rfl rfl (f := encInt) (l := [y8.skater]) rfl rfl (fun _ => rfl) rfl rfl rfl rfl rfl) ?_
 refine AO.step rfl (app_rv_map T rfl 15 rfl rfl rfl rfl rfl (by decide) rfl rfl rfl rfl (fun _ => rfl) (needT (hx45)) rfl rfl) ?_
 refine AO.pu T ?_
 refine AO.nil ?_
 refine AW.region ?_
 refine AO.val rfl rfl (ar_ok rfl rfl rfl rfl (inI_succ hlt12 hb11)) ?_
 refine AO.pu T ?_
 refine AO.nil ?_
 refine ⟨(k7 + 1, (v18 ++ [y8.skater])), ⟨Nat.succ_le_of_lt hlt12, (by rw [drop_succ_of hd10]; exact hH)⟩, (by have := hlt12; dsimp only; omega), ?_⟩
 exact Le.ct 15 7

def impl_RankGroups_p (fuel : Nat) (l : List Entrant) (size : Int) : Option ((List (List Int)) × Bool) :=
  (impl_AreEntrants_p l).bind fun x1 =>
  (opt (!(!x1)) default (impl_isGroupSize_p size)).bind fun x3 =>
  cond ((!x1) || (!x3))
    (some ([], false))
    ((impl_rankGroups_p fuel l size).bind fun x5 =>
    some (x5.1, x5.2))
theorem impl_RankGroups_ok (fuel : Nat) (l : List Entrant) (size : Int) (r : ((List (List Int)) × Bool)) (hH : impl_RankGroups_p fuel l size = some r) : SpecR Tryz.prog 163 [.s (List.map encEntrant l), size] (.t [.w 1 (r.1.map encLIntO), .v (.bool r.2)]) := by
 refine fn_ok T Tryz.func163 rfl (by decide) rfl ?_
 refine AW.seq (AW.region ?_)
 iterate 2 refine AO.pu T ?_
 refine AO.nil ?_
 iterate 2 refine AW.seq ?_
 obtain ⟨x1, hx2, hH⟩ := bindE hH
 obtain ⟨x3, hx4, hH⟩ := bindE hH
 refine AW.region ?_
 refine AO.pu T ?_
 refine AO.val rfl rfl (callV_ok rfl rfl rfl rfl (impl_AreEntrants_ok _ _ (hx2)) rfl) ?_
 iterate 2 refine AO.pu T ?_
 refine AO.pureG T [] rfl trivial rfl rfl ?_
 refine AO.guard [10] rfl ⟨fun h => h, trivial⟩ (fun hg => callV_ok rfl rfl rfl rfl (impl_isGroupSize_ok _ _ (optT hx4 hg)) rfl) rfl ?_
 refine AO.pureG T [11] rfl ⟨fun h => h, trivial⟩ rfl rfl ?_
 refine AO.val rfl rfl (pick_or rfl rfl rfl rfl) ?_
 refine AO.nil ?_
 refine AW.cond (b := ((!x1) || (!x3))) rfl (fun hc => ?_) (fun hc => ?_)
 replace hH := condT hc hH
 refine AW.seq (AW.region ?_)
 iterate 2 refine AO.pu T ?_
 refine AO.nil (AW.ret ?_)
 cases someE hH
 exact retQ.i [] rfl (.t (expLG_cons (.c .nil) (expLG_cons (.c .v) (expLG_nil))))
 replace hH := condF hc hH
 refine AW.skip ?_
 refine AW.seq ?_
 obtain ⟨x5, hx6, hH⟩ := bindE hH
 refine AW.region ?_
 iterate 2 refine AO.pu T ?_
 refine AO.step rfl (call_ok rfl 1 rfl rfl rfl (impl_rankGroups_ok fuel _ _ _ (hx6)) rfl rfl rfl) ?_
 iterate 4 refine AO.pu T ?_
 refine AO.nil (AW.ret ?_)
 cases someE hH
 exact retQ.i [1] rfl (.t (expLG_cons (.c (.rowR rfl)) (expLG_cons (.c .v) (expLG_nil))))

def impl_withKeys_p (keys : List Int) (more : List Int) : Option (List Int) :=
  (impl_copyInts_p keys).bind fun x1 =>
  (need (fitsB 8 (x1.length + more.length))).bind fun u3 =>
  some (x1 ++ more)
theorem impl_withKeys_ok (keys : List Int) (more : List Int) (r : (List Int)) (hH : impl_withKeys_p keys more = some r) : SpecR Tryz.prog 165 [.s (List.map encInt keys), .s (List.map encInt more)] (.w 1 (r.map encInt)) := by
 refine fn_ok T Tryz.func165 rfl (by decide) rfl ?_
 refine AW.seq (AW.region ?_)
 refine AO.pu T ?_
 refine AO.nil (AW.seq ?_)
 obtain ⟨x1, hx2, hH⟩ := bindE hH
 obtain ⟨u3, hx4, hH⟩ := bindE hH
 refine AW.region ?_
 refine AO.pu T ?_
 refine AO.step rfl (call_ok rfl 1 rfl rfl rfl (impl_copyInts_ok _ _ (hx2)) rfl rfl rfl) ?_
 refine AO.pu T ?_
 refine AO.step rfl (app_rs_map T rfl 2 rfl rfl rfl rfl rfl (by decide) (by decide) rfl rfl rfl (fun _ => rfl) (needT (hx4)) rfl rfl) ?_
 refine AO.pu T ?_
 refine AO.nil (AW.ret ?_)
 cases someE hH
 exact retQ.i [2] rfl (.c (.c (.rowR rfl)))

def impl_keyMix_l1 (x1 : (List Int)) : Nat → Int → Int → Option Int
  | 0, _, _ => none
  | k5 + 1, v20, v21 =>
    cond (decide (v21 < (((x1 ++ [4, 1])).length : Int)))
      ((getI (x1 ++ [4, 1]) v21).bind fun x23 =>
      (need (1000003 != 0)).bind fun u25 =>
      (need (16 != 0)).bind fun u27 =>
      impl_keyMix_l1 x1 k5 ((w64 (((w64 ((w64 ((w64 (29 * v20)) + x23)) + 13)).tmod 1000003) * (w64 ((w64 (((w64 ((w64 ((w64 (29 * v20)) + x23)) + 13)).tmod 1000003).tdiv 16)) + 5)))).tmod 1000003) (w64 (v21 + 1)))
      (some v20)
def impl_keyMix_p (fuel : Nat) (keys : List Int) : Option Int :=
  (impl_copyInts_p keys).bind fun x1 =>
  (need (fitsB 8 (x1.length + ([4, 1]).length))).bind fun u3 =>
  impl_keyMix_l1 x1 fuel (w64 (5231 + (keys.length : Int))) 0
theorem impl_keyMix_ok (fuel : Nat) (keys : List Int) (r : Int) (hH : impl_keyMix_p fuel keys = some r) : SpecR Tryz.prog 218 [.s (List.map encInt keys)] (.v (.int .i64 r)) := by
 refine fn_ok T Tryz.func218 rfl (by decide) rfl ?_
 refine AW.seq (AW.region ?_)
 refine AO.pu T ?_
 refine AO.nil (AW.seq ?_)
 refine AW.region ?_
 refine AO.pu T ?_
 refine AO.val rfl rfl (len_map_ok T rfl rfl rfl) ?_
 refine AO.val rfl rfl (arw_ok rfl rfl rfl rfl) ?_
 refine AO.pu T ?_
 refine AO.nil ?_
 iterate 2 refine AW.seq ?_
 obtain ⟨x1, hx2, hH⟩ := bindE hH
 obtain ⟨u3, hx4, hH⟩ := bindE hH
 refine AW.region ?_
 refine AO.pu T ?_
 refine AO.step rfl (call_ok rfl 1 rfl rfl rfl (impl_copyInts_ok _ _ (hx2)) rfl rfl rfl) ?_
 refine AO.step rfl (mk_map_ok T rfl 2 rfl rfl rfl rfl rfl (f := encInt) (l := [4, 1]) rfl rfl (fun _ => rfl) rfl rfl rfl rfl rfl) ?_
 refine AO.step rfl (app_rv_map T rfl 3 rfl rfl rfl rfl rfl (by decide) rfl rfl rfl rfl (fun _ => rfl) (needT (hx4)) rfl rfl) ?_
 refine AO.val rfl rfl (len_row_ok T rfl rfl rfl rfl) ?_
 refine AO.pu T ?_
 refine AO.nil ?_
 refine AW.block ?_
 refine AW.loopS (fun s : Nat × Int × Int => (⟨[(3, s.2.1), (12, .R 3), (13, (((x1 ++ [4, 1])).length : Int)), (14, s.2.2)], [(3, .row 1 (List.map encInt (x1 ++ [4, 1])))], 32, []⟩ : St)) (fun s => impl_keyMix_l1 x1 s.1 s.2.1 s.2.2 = some r) (fun s => s.1) (fuel, w64 (5231 + (keys.length : Int)), 0) hH ?_ ?_
 exact Le.ct 0 0
 rintro ⟨k5, v20, v21⟩ hH
 replace hH : impl_keyMix_l1 x1 k5 v20 v21 = some r := hH
 try dsimp only
 rcases k5 with _ | k5
 cases (show none = some _ from hH)
 rw [impl_keyMix_l1] at hH
 refine AW.seq (AW.region ?_)
 refine AO.pu T ?_
 refine AO.nil (AW.seq ?_)
 refine AW.cond (b := decide (v21 < (((x1 ++ [4, 1])).length : Int))) rfl (fun hc => ?_) (fun hc => ?_)
 replace hH := condT hc hH
 refine AW.skip ?_
 refine AW.seq ?_
 refine AW.block ?_
 refine AW.seq ?_
 obtain ⟨x23, hx24, hH⟩ := bindE hH
 refine AW.region ?_
 refine AO.val rfl rfl (ix_row_ok T rfl rfl rfl rfl rfl rfl (hx24)) ?_
 refine AO.val rfl rfl (load_row_ok T rfl rfl rfl rfl (getI_get (hx24)) rfl rfl rfl) ?_
 refine AO.pu T ?_
 refine AO.nil (AW.seq ?_)
 obtain ⟨u25, hx26, hH⟩ := bindE hH
 refine AW.region ?_
 refine AO.pu T ?_
 refine AO.val rfl rfl (arw_ok rfl rfl rfl rfl) ?_
 refine AO.pu T ?_
 iterate 2 refine AO.val rfl rfl (arw_ok rfl rfl rfl rfl) ?_
 refine AO.val rfl rfl (rem_ok rfl rfl rfl (neZ (needT (hx26)))) ?_
 refine AO.pu T ?_
 refine AO.nil ?_
 obtain ⟨u27, hx28, hH⟩ := bindE hH
 refine AW.region ?_
 iterate 2 refine AO.pu T ?_
 refine AO.val rfl rfl (quow_ok rfl rfl rfl (neZ (needT (hx28)))) ?_
 iterate 2 refine AO.val rfl rfl (arw_ok rfl rfl rfl rfl) ?_
 refine AO.val rfl rfl (rem_ok rfl rfl rfl (neZ (needT (hx26)))) ?_
 refine AO.pu T ?_
 refine AO.nil ?_
 refine AW.region ?_
 refine AO.val rfl rfl (arw_ok rfl rfl rfl rfl) ?_
 refine AO.pu T ?_
 refine AO.nil ?_
 refine ⟨(k5, ((w64 (((w64 ((w64 ((w64 (29 * v20)) + x23)) + 13)).tmod 1000003) * (w64 ((w64 (((w64 ((w64 ((w64 (29 * v20)) + x23)) + 13)).tmod 1000003).tdiv 16)) + 5)))).tmod 1000003), w64 (v21 + 1)), hH, Nat.lt_succ_self _, ?_⟩
 exact Le.ct 0 0
 replace hH := condF hc hH
 refine AW.exit ?_
 refine AW.seq (AW.region ?_)
 iterate 2 refine AO.pu T ?_
 refine AO.nil (AW.ret ?_)
 cases someE hH
 exact retQ.i [] rfl (.c (.c .v))

def impl_keyBelow_p (fuel : Nat) (keys : List Int) (n : Int) : Option Int :=
  (impl_withKeys_p keys [n]).bind fun x1 =>
  (impl_keyMix_p fuel x1).bind fun x3 =>
  (need (n != 0)).bind fun u5 =>
  some (x3.tmod n)
theorem impl_keyBelow_ok (fuel : Nat) (keys : List Int) (n : Int) (r : Int) (hH : impl_keyBelow_p fuel keys n = some r) : SpecR Tryz.prog 211 [.s (List.map encInt keys), n] (.v (.int .i64 r)) := by
 refine fn_ok T Tryz.func211 rfl (by decide) rfl ?_
 refine AW.seq (AW.region ?_)
 refine AO.pu T ?_
 refine AO.nil (AW.seq ?_)
 obtain ⟨x1, hx2, hH⟩ := bindE hH
 obtain ⟨x3, hx4, hH⟩ := bindE hH
 obtain ⟨u5, hx6, hH⟩ := bindE hH
 refine AW.region ?_
 iterate 2 refine AO.pu T ?_
 refine AO.step rfl (mk_map_ok T rfl 1 rfl rfl rfl rfl rfl (f := encInt) (l := [n]) rfl rfl (fun _ => rfl) rfl rfl rfl rfl rfl) ?_
 refine AO.step rfl (callL_ok rfl 2 rfl rfl (es := [.s (List.map encInt keys), .s (List.map encInt [n])]) (by exact ⟨.free rfl, (.rowR rfl (.map fun y => .vs rfl)), trivial⟩) (impl_withKeys_ok _ _ _ (hx2)) (zfree_map (fun y => (.cons (zfree_v _) .nil))) rfl rfl rfl) ?_
 refine AO.val rfl rfl (callLV_ok rfl rfl rfl (es := [.s (List.map encInt x1)]) ⟨(.rowR rfl (.map fun y => .vs rfl)), trivial⟩ (impl_keyMix_ok fuel _ _ (hx4)) (zfree_v _) rfl) ?_
 refine AO.pu T ?_
 refine AO.val rfl rfl (rem_ok rfl rfl rfl (neZ (needT (hx6)))) ?_
 refine AO.pu T ?_
 refine AO.nil (AW.ret ?_)
 cases someE hH
 exact retQ.i [] rfl (.c (.c .v))

def impl_shuffleOf_l2 (keys : List Int) (fuel : Nat) : Nat → List Int → Int → Option ((List Int))
  | 0, _, _ => none
  | k13 + 1, v36, v37 =>
    cond (decide (v37 ≥ 1))
      ((impl_withKeys_p keys [v37]).bind fun x39 =>
      (impl_keyBelow_p fuel x39 (w64 (v37 + 1))).bind fun x41 =>
      (getI v36 x41).bind fun x43 =>
      (getI v36 v37).bind fun x45 =>
      (getI (v36.set v37.toNat x43) x41).bind fun x47 =>
      impl_shuffleOf_l2 keys fuel k13 ((v36.set v37.toNat x43).set x41.toNat x45) (w64 (v37 - 1)))
      (some v36)
def impl_shuffleOf_l1 (keys : List Int) (n : Int) (fuel : Nat) : Nat → List Int → Int → Option ((List Int))
  | 0, _, _ => none
  | k1 + 1, v8, v9 =>
    cond (decide (v9 < n))
      ((need (fitsB 8 (v8.length + ([v9]).length))).bind fun u11 =>
      impl_shuffleOf_l1 keys n fuel k1 (v8 ++ [v9]) (w64 (v9 + 1)))
      (impl_shuffleOf_l2 keys fuel fuel v8 (w64 (n - 1)))
def impl_shuffleOf_p (fuel : Nat) (keys : List Int) (n : Int) : Option (List Int) :=
  impl_shuffleOf_l1 keys n fuel fuel [] 0
theorem impl_shuffleOf_ok (fuel : Nat) (keys : List Int) (n : Int) (r : (List Int)) (hH : impl_shuffleOf_p fuel keys n = some r) : SpecR Tryz.prog 191 [.s (List.map encInt keys), n] (.w 1 (r.map encInt)) := by
 refine fn_ok T Tryz.func191 rfl (by decide) rfl ?_
 refine AW.seq (AW.region ?_)
 refine AO.pu T ?_
 refine AO.nil (AW.seq ?_)
 refine AW.region ?_
 refine AO.step rfl (mk0_ok T rfl rfl rfl rfl) ?_
 refine AO.pu T ?_
 refine AO.nil ?_
 iterate 2 refine AW.seq ?_
 refine AW.region ?_
 iterate 2 refine AO.pu T ?_
 refine AO.nil ?_
 refine AW.block ?_
 refine AW.loopS (fun s : Nat × (List Int) × Int => (⟨[(0, .s (List.map encInt keys)), (1, n), (5, .R 4), (10, n), (11, s.2.2)], [(4, .row 1 (List.map encInt s.2.1))], 47, []⟩ : St)) (fun s => impl_shuffleOf_l1 keys n fuel s.1 s.2.1 s.2.2 = some r) (fun s => s.1) (fuel, [], 0) hH ?_ ?_
 refine Le.trans (Le.void 5 4 1 rfl rfl) ?_
 exact Le.ct 0 0
 rintro ⟨k1, v8, v9⟩ hH
 replace hH : impl_shuffleOf_l1 keys n fuel k1 v8 v9 = some r := hH
 try dsimp only
 rcases k1 with _ | k1
 cases (show none = some _ from hH)
 rw [impl_shuffleOf_l1] at hH
 refine AW.seq (AW.region ?_)
 refine AO.pu T ?_
 refine AO.nil (AW.seq ?_)
 refine AW.cond (b := decide (v9 < n)) rfl (fun hc => ?_) (fun hc => ?_)
 replace hH := condT hc hH
 refine AW.skip ?_
 refine AW.seq ?_
 refine AW.block ?_
 refine AW.seq (AW.region ?_)
 iterate 2 refine AO.pu T ?_
 refine AO.nil ?_
 obtain ⟨u11, hx12, hH⟩ := bindE hH
 refine AW.region ?_
 iterate 2 refine AO.pu T ?_
 refine AO.step rfl (mk_map_ok T rfl 5 rfl rfl rfl rfl rfl (f := encInt) (l := [v9]) rfl rfl (fun _ => rfl) rfl rfl rfl rfl rfl) ?_
 refine AO.step rfl (app_rv_map T rfl 6 rfl rfl rfl rfl rfl (by decide) rfl rfl rfl rfl (fun _ => rfl) (needT (hx12)) rfl rfl) ?_
 refine AO.pu T ?_
 refine AO.nil ?_
 refine AW.region ?_
 refine AO.val rfl rfl (arw_ok rfl rfl rfl rfl) ?_
 refine AO.pu T ?_
 refine AO.nil ?_
 refine ⟨(k1, (v8 ++ [v9]), w64 (v9 + 1)), hH, Nat.lt_succ_self _, ?_⟩
 exact Le.ct 6 4
 replace hH := condF hc hH
 refine AW.exit ?_
 iterate 2 refine AW.seq ?_
 refine AW.region ?_
 refine AO.pu T ?_
 refine AO.val rfl rfl (arw_ok rfl rfl rfl rfl) ?_
 refine AO.pu T ?_
 refine AO.nil ?_
 refine AW.block ?_
 refine AW.loopS (fun s : Nat × (List Int) × Int => (⟨[(0, .s (List.map encInt keys)), (5, .R 4), (7, s.2.2)], [(4, .row 1 (List.map encInt s.2.1))], 47, []⟩ : St)) (fun s => impl_shuffleOf_l2 keys fuel s.1 s.2.1 s.2.2 = some r) (fun s => s.1) (fuel, v8, w64 (n - 1)) hH ?_ ?_
 exact Le.ct 0 0
 rintro ⟨k13, v36, v37⟩ hH
 replace hH : impl_shuffleOf_l2 keys fuel k13 v36 v37 = some r := hH
 try dsimp only
 rcases k13 with _ | k13
 cases (show none = some _ from hH)
 rw [impl_shuffleOf_l2] at hH
 iterate 2 refine AW.seq ?_
 refine AW.region ?_
 iterate 2 refine AO.pu T ?_
 refine AO.nil ?_
 refine AW.cond (b := decide (v37 ≥ 1)) rfl (fun hc => ?_) (fun hc => ?_)
 replace hH := condT hc hH
 refine AW.skip ?_
 refine AW.seq ?_
 refine AW.block ?_
 refine AW.seq ?_
 obtain ⟨x39, hx40, hH⟩ := bindE hH
 obtain ⟨x41, hx42, hH⟩ := bindE hH
 refine AW.region ?_
 iterate 2 refine AO.pu T ?_
 refine AO.step rfl (mk_map_ok T rfl 11 rfl rfl rfl rfl rfl (f := encInt) (l := [v37]) rfl rfl (fun _ => rfl) rfl rfl rfl rfl rfl) ?_
 refine AO.step rfl (callL_ok rfl 12 rfl rfl (es := [.s (List.map encInt keys), .s (List.map encInt [v37])]) (by exact ⟨.free rfl, (.rowR rfl (.map fun y => .vs rfl)), trivial⟩) (impl_withKeys_ok _ _ _ (hx40)) (zfree_map (fun y => (.cons (zfree_v _) .nil))) rfl rfl rfl) ?_
 refine AO.pu T ?_
 refine AO.val rfl rfl (arw_ok rfl rfl rfl rfl) ?_
 refine AO.val rfl rfl (callLV_ok rfl rfl rfl (es := [.s (List.map encInt x39), w64 (v37 + 1)]) ⟨(.rowR rfl (.map fun y => .vs rfl)), .free rfl, trivial⟩ (impl_keyBelow_ok fuel _ _ _ (hx42)) (zfree_v _) rfl) ?_
 refine AO.pu T ?_
 refine AO.nil ?_
 obtain ⟨x43, hx44, hH⟩ := bindE hH
 obtain ⟨x45, hx46, hH⟩ := bindE hH
 obtain ⟨x47, hx48, hH⟩ := bindE hH
 refine AW.drawn 14 13 [4] mix (by kernel_rfl) rfl ?_
 iterate 6 refine AD.pure T rfl rfl rfl ?_
 refine AD.vald rfl rfl rfl (ix_row_ok T rfl rfl rfl rfl rfl rfl (hx44)) ?_
 refine AD.vald rfl rfl rfl (load_row_ok T rfl rfl rfl rfl (getI_get (hx44)) rfl rfl rfl) ?_
 iterate 2 refine AD.pure T rfl rfl rfl ?_
 refine AD.vald rfl rfl rfl (ix_row_ok T rfl rfl rfl rfl rfl rfl (hx46)) ?_
 refine AD.vald rfl rfl rfl (load_row_ok T rfl rfl rfl rfl (getI_get (hx46)) rfl rfl rfl) ?_
 refine AD.vald rfl rfl rfl (ix_row_ok T rfl rfl rfl rfl rfl rfl (hx46)) ?_
 refine AD.k rfl rfl (FStep.store_row T rfl rfl rfl rfl rfl rfl (getI_get (hx46)) rfl rfl rfl rfl (u' := x43) rfl rfl rfl) rfl rfl rfl ?_
 refine AD.nil ?_
 refine AO.val rfl rfl (ix_row_ok T rfl rfl rfl rfl rfl rfl (hx48)) ?_
 refine AO.step rfl (store_row_ok T rfl rfl rfl rfl rfl (getI_get (hx48)) rfl rfl rfl rfl (u' := x45) rfl rfl) ?_
 refine AO.nil ?_
 refine AW.le (Le.ct 0 0 (σ' := (⟨[(0, .s (List.map encInt keys)), (5, .R 4), (7, v37)], [(4, .row 1 (List.map encInt ((v36.set v37.toNat x43).set x41.toNat x45)))], 47, []⟩ : St))) ?_
 refine AW.region ?_
 refine AO.pu T ?_
 refine AO.val rfl rfl (arw_ok rfl rfl rfl rfl) ?_
 refine AO.pu T ?_
 refine AO.nil ?_
 refine ⟨(k13, ((v36.set v37.toNat x43).set x41.toNat x45), w64 (v37 - 1)), hH, Nat.lt_succ_self _, ?_⟩
 exact Le.ct 0 0
 replace hH := condF hc hH
 refine AW.exit ?_
 refine AW.seq (AW.region ?_)
 iterate 2 refine AO.pu T ?_
 refine AO.nil (AW.ret ?_)
 cases someE hH
 exact retQ.i [4] rfl (.c (.c (.rowR rfl)))

def impl_shuffledNumbers_l1 (l : List Int) : List Int → Nat → List Int → Option ((List Int))
  | [], k3, v18 =>
    some v18
  | y4 :: ys5, k3, v18 =>
    (getI l y4).bind fun x20 =>
    (need (fitsB 8 (v18.length + ([x20]).length))).bind fun u22 =>
    impl_shuffledNumbers_l1 l ys5 (k3 + 1) (v18 ++ [x20])
def impl_shuffledNumbers_p (fuel : Nat) (keys : List Int) (l : List Int) : Option (List Int) :=
  (impl_shuffleOf_p fuel keys (l.length : Int)).bind fun x1 =>
  impl_shuffledNumbers_l1 l x1 0 []
theorem impl_shuffledNumbers_ok (fuel : Nat) (keys : List Int) (l : List Int) (r : (List Int)) (hH : impl_shuffledNumbers_p fuel keys l = some r) : SpecR Tryz.prog 164 [.s (List.map encInt keys), .s (List.map encInt l)] (.w 1 (r.map encInt)) := by
 refine fn_ok T Tryz.func164 rfl (by decide) rfl ?_
 refine AW.seq (AW.region ?_)
 refine AO.pu T ?_
 refine AO.nil (AW.seq ?_)
 refine AW.region ?_
 refine AO.step rfl (mk0_ok T rfl rfl rfl rfl) ?_
 refine AO.pu T ?_
 refine AO.nil ?_
 iterate 2 refine AW.seq ?_
 obtain ⟨x1, hx2, hH⟩ := bindE hH
 refine AW.region ?_
 iterate 2 refine AO.pu T ?_
 refine AO.val rfl rfl (len_map_ok T rfl rfl rfl) ?_
 refine AO.step rfl (call_ok rfl 1 rfl rfl rfl (impl_shuffleOf_ok fuel _ _ _ (hx2)) rfl rfl rfl) ?_
 refine AO.val rfl rfl (len_row_ok T rfl rfl rfl rfl) ?_
 refine AO.pu T ?_
 refine AO.nil ?_
 refine AW.block ?_
 refine AW.loopS (fun s : Nat × (List Int) => (⟨[(1, .s (List.map encInt l)), (5, .R 5), (12, .R 1), (13, (x1.length : Int)), (14, (s.1 : Int))], [(1, .row 1 (List.map encInt x1)), (5, .row 1 (List.map encInt s.2))], 27, []⟩ : St)) (fun s => s.1 ≤ x1.length ∧ impl_shuffledNumbers_l1 l (x1.drop s.1) s.1 s.2 = some r) (fun s => x1.length - s.1) (0, []) ⟨Nat.zero_le _, hH⟩ ?_ ?_
 refine Le.trans (Le.void 5 5 1 rfl rfl) ?_
 exact Le.ct 0 0
 rintro ⟨k3, v18⟩ ⟨hk, hH⟩
 replace hH : impl_shuffledNumbers_l1 l (x1.drop k3) k3 v18 = some r := hH
 try dsimp only
 refine AW.boundR (id := 1) (l := x1) rfl (fun hb7 => ?_)
 rcases hd6 : x1.drop k3 with _ | ⟨y4, ys5⟩
 rw [hd6, impl_shuffledNumbers_l1] at hH
 have hlt8 := drop_ge hd6
 refine AW.seq (AW.region ?_)
 refine AO.pu T ?_
 refine AO.nil (AW.seq ?_)
 refine AW.condF' (b := decide ((k3 : Int) < (x1.length : Int))) rfl (rngF hlt8) ?_
 refine AW.exit ?_
 refine AW.seq (AW.region ?_)
 iterate 2 refine AO.pu T ?_
 refine AO.nil (AW.ret ?_)
 cases someE hH
 exact retQ.i [5] rfl (.c (.c (.rowR rfl)))
 rw [hd6, impl_shuffledNumbers_l1] at hH
 have hlt8 := drop_lt hd6
 refine AW.seq (AW.region ?_)
 refine AO.pu T ?_
 refine AO.nil (AW.seq ?_)
 refine AW.condT' (b := decide ((k3 : Int) < (x1.length : Int))) rfl (rngT hlt8) ?_
 refine AW.skip ?_
 refine AW.seq ?_
 refine AW.block ?_
 refine AW.seq (AW.region ?_)
 refine AO.val rfl rfl (ix_row_ok T rfl rfl rfl rfl rfl rfl (getI_drop hd6)) ?_
 refine AO.val rfl rfl (load_row_ok T rfl rfl rfl rfl (getI_get (getI_drop hd6)) rfl rfl rfl) ?_
 refine AO.pu T ?_
 refine AO.nil ?_
 obtain ⟨x20, hx21, hH⟩ := bindE hH
 obtain ⟨u22, hx23, hH⟩ := bindE hH
 refine AW.region ?_
 iterate 3 refine AO.pu T ?_
 refine AO.val rfl rfl (ix_map_ok T rfl rfl rfl rfl rfl (hx21) rfl) ?_
 refine AO.pu T ?_
 refine AO.step rfl (mk_map_ok T rfl 6 rfl rfl rfl rfl rfl (f := encInt) (l := [x20]) rfl rfl (fun _ => rfl) rfl rfl rfl rfl rfl) ?_
 refine AO.step rfl (app_rv_map T rfl 7 rfl rfl rfl rfl rfl (by decide) rfl rfl rfl rfl (fun _ => rfl) (needT (hx23)) rfl rfl) ?_
 refine AO.pu T ?_
 refine AO.nil ?_
 refine AW.region ?_
 refine AO.val rfl rfl (ar_ok rfl rfl rfl rfl (inI_succ hlt8 hb7)) ?_
 refine AO.pu T ?_
 refine AO.nil ?_
 refine ⟨(k3 + 1, (v18 ++ [x20])), ⟨Nat.succ_le_of_lt hlt8, (by rw [drop_succ_of hd6]; exact hH)⟩, (by have := hlt8; dsimp only; omega), ?_⟩
 exact Le.ct 7 5

def impl_StartOrder_l1 (keys : List Int) (fuel : Nat) (x1 : ((List (List Int)) × Bool)) : Nat → List Int → List (List Int) → Int → Option (((List Int) × Bool))
  | 0, _, _, _ => none
  | k5 + 1, v25, v26, v27 =>
    cond (decide (v27 < (x1.1.length : Int)))
      ((getI v26 v27).bind fun x29 =>
      (impl_withKeys_p keys [v27]).bind fun x31 =>
      (impl_shuffledNumbers_p fuel x31 x29).bind fun x33 =>
      (need (fitsB 8 (v25.length + x33.length))).bind fun u35 =>
      impl_StartOrder_l1 keys fuel x1 k5 (v25 ++ x33) (v26.set v27.toNat x29) (w64 (v27 + 1)))
      (some (v25, true))
def impl_StartOrder_p (fuel : Nat) (keys : List Int) (l : List Entrant) (size : Int) : Option ((List Int) × Bool) :=
  (impl_RankGroups_p fuel l size).bind fun x1 =>
  (opt (!(!x1.2)) default (impl_areKeys_p keys 4)).bind fun x3 =>
  cond ((!x1.2) || (!x3))
    (some ([], false))
    (impl_StartOrder_l1 keys fuel x1 fuel [] x1.1 0)
theorem impl_StartOrder_ok (fuel : Nat) (keys : List Int) (l : List Entrant) (size : Int) (r : ((List Int) × Bool)) (hH : impl_StartOrder_p fuel keys l size = some r) : SpecR Tryz.prog 125 [.s (List.map encInt keys), .s (List.map encEntrant l), size] (.t [.w 1 (r.1.map encInt), .v (.bool r.2)]) := by
 refine fn_ok T Tryz.func125 rfl (by decide) rfl ?_
 refine AW.seq (AW.region ?_)
 iterate 2 refine AO.pu T ?_
 refine AO.nil (AW.seq ?_)
 obtain ⟨x1, hx2, hH⟩ := bindE hH
 refine AW.region ?_
 iterate 2 refine AO.pu T ?_
 refine AO.step rfl (call_ok rfl 1 rfl rfl rfl (impl_RankGroups_ok fuel _ _ _ (hx2)) rfl rfl rfl) ?_
 iterate 5 refine AO.pu T ?_
 refine AO.nil ?_
 iterate 2 refine AW.seq ?_
 obtain ⟨x3, hx4, hH⟩ := bindE hH
 refine AW.region ?_
 iterate 3 refine AO.pu T ?_
 refine AO.pureG T [] rfl trivial rfl rfl ?_
 refine AO.guard [22] rfl ⟨fun h => h, trivial⟩ (fun hg => callV_ok rfl rfl rfl rfl (impl_areKeys_ok _ _ _ (optT hx4 hg)) rfl) rfl ?_
 refine AO.pureG T [23] rfl ⟨fun h => h, trivial⟩ rfl rfl ?_
 refine AO.val rfl rfl (pick_or rfl rfl rfl rfl) ?_
 refine AO.nil ?_
 refine AW.cond (b := ((!x1.2) || (!x3))) rfl (fun hc => ?_) (fun hc => ?_)
 replace hH := condT hc hH
 refine AW.seq (AW.region ?_)
 iterate 2 refine AO.pu T ?_
 refine AO.nil (AW.ret ?_)
 cases someE hH
 exact retQ.i [] rfl (.t (expLG_cons (.c .nil) (expLG_cons (.c .v) (expLG_nil))))
 replace hH := condF hc hH
 refine AW.skip ?_
 refine AW.seq (AW.region ?_)
 refine AO.step rfl (mk0_ok T rfl rfl rfl rfl) ?_
 refine AO.pu T ?_
 refine AO.nil ?_
 iterate 2 refine AW.seq ?_
 refine AW.region ?_
 refine AO.pu T ?_
 refine AO.val rfl rfl (len_row_ok T rfl rfl rfl rfl) ?_
 refine AO.pu T ?_
 refine AO.nil ?_
 refine AW.block ?_
 refine AW.loopS (fun s : Nat × (List Int) × (List (List Int)) × Int => (⟨[(0, .s (List.map encInt keys)), (10, .R 11), (27, .R 1), (28, (x1.1.length : Int)), (29, s.2.2.2)], [(1, .row 1 (List.map encLIntO s.2.2.1)), (11, .row 1 (List.map encInt s.2.1))], 44, []⟩ : St)) (fun s => impl_StartOrder_l1 keys fuel x1 s.1 s.2.1 s.2.2.1 s.2.2.2 = some r) (fun s => s.1) (fuel, [], x1.1, 0) hH ?_ ?_
 refine Le.trans (Le.void 10 11 1 rfl rfl) ?_
 exact Le.ct 0 0
 rintro ⟨k5, v25, v26, v27⟩ hH
 replace hH : impl_StartOrder_l1 keys fuel x1 k5 v25 v26 v27 = some r := hH
 try dsimp only
 rcases k5 with _ | k5
 cases (show none = some _ from hH)
 rw [impl_StartOrder_l1] at hH
 refine AW.seq (AW.region ?_)
 refine AO.pu T ?_
 refine AO.nil (AW.seq ?_)
 refine AW.cond (b := decide (v27 < (x1.1.length : Int))) rfl (fun hc => ?_) (fun hc => ?_)
 replace hH := condT hc hH
 refine AW.skip ?_
 refine AW.seq ?_
 refine AW.block ?_
 refine AW.seq ?_
 obtain ⟨x29, hx30, hH⟩ := bindE hH
 refine AW.le (Le.openM 1 v27.toNat 0 12 rfl (getI_get (hx30)) rfl rfl) ?_
 refine AW.region ?_
 refine AO.pu T ?_
 refine AO.val rfl rfl (ix_lent_ok T rfl rfl rfl rfl rfl rfl (hx30)) ?_
 refine AO.val rfl rfl (load_lent_ok T rfl rfl rfl rfl rfl) ?_
 iterate 2 refine AO.pu T ?_
 refine AO.nil ?_
 obtain ⟨x31, hx32, hH⟩ := bindE hH
 obtain ⟨x33, hx34, hH⟩ := bindE hH
 obtain ⟨u35, hx36, hH⟩ := bindE hH
 refine AW.region ?_
 iterate 3 refine AO.pu T ?_
 refine AO.step rfl (mk_map_ok T rfl 13 rfl rfl rfl rfl rfl (f := encInt) (l := [v27]) rfl rfl (fun _ => rfl) rfl rfl rfl rfl rfl) ?_
 refine AO.step rfl (callL_ok rfl 14 rfl rfl (es := [.s (List.map encInt keys), .s (List.map encInt [v27])]) (by exact ⟨.free rfl, (.rowR rfl (.map fun y => .vs rfl)), trivial⟩) (impl_withKeys_ok _ _ _ (hx32)) (zfree_map (fun y => (.cons (zfree_v _) .nil))) rfl rfl rfl) ?_
 refine AO.pu T ?_
 refine AO.step rfl (callL_ok rfl 15 rfl rfl (es := [.s (List.map encInt x31), .s (List.map encInt x29)]) (by exact ⟨(.rowR rfl (.map fun y => .vs rfl)), (.rowR rfl (.map fun y => .vs rfl)), trivial⟩) (impl_shuffledNumbers_ok fuel _ _ _ (hx34)) (zfree_map (fun y => (.cons (zfree_v _) .nil))) rfl rfl rfl) ?_
 refine AO.step rfl (app_rv_map T rfl 16 rfl rfl rfl rfl rfl (by decide) rfl rfl rfl rfl (fun _ => rfl) (needT (hx36)) rfl rfl) ?_
 refine AO.pu T ?_
 refine AO.le (Le.closeM 1 v27.toNat 0 12 rfl rfl (getI_get (hx30)) rfl (u' := x29) rfl) ?_
 refine AO.nil ?_
 refine AW.region ?_
 refine AO.val rfl rfl (arw_ok rfl rfl rfl rfl) ?_
 refine AO.pu T ?_
 refine AO.nil ?_
 refine ⟨(k5, (v25 ++ x33), (v26.set v27.toNat x29), w64 (v27 + 1)), hH, Nat.lt_succ_self _, ?_⟩
 exact Le.ct 16 11
 replace hH := condF hc hH
 refine AW.exit ?_
 refine AW.seq (AW.region ?_)
 iterate 3 refine AO.pu T ?_
 refine AO.nil (AW.ret ?_)
 cases someE hH
 exact retQ.i [11] rfl (.t (expLG_cons (.c (.rowR rfl)) (expLG_cons (.c .v) (expLG_nil))))

def impl_OrderByPlaces_l2 (keys : List Int) (places : List Int) (fuel : Nat) (v122 : List Int) (v123 : Int) : List Int → Nat → List Int → Option (List Int)
  | [], k154, v169 =>
    (impl_withKeys_p keys [90, v123]).bind fun x171 =>
    (impl_shuffledNumbers_p fuel x171 v169).bind fun x173 =>
    (need (fitsB 8 (v122.length + x173.length))).bind fun u175 =>
    some (v122 ++ x173)
  | y155 :: ys156, k154, v169 =>
    (getI places (k154 : Int)).bind fun x177 =>
    cond (x177 == v123)
      ((need (fitsB 8 (v169.length + ([y155]).length))).bind fun u179 =>
      impl_OrderByPlaces_l2 keys places fuel v122 v123 ys156 (k154 + 1) (v169 ++ [y155]))
      (impl_OrderByPlaces_l2 keys places fuel v122 v123 ys156 (k154 + 1) v169)
def impl_OrderByPlaces_l4 (keys : List Int) (fuel : Nat) (x197 : (List (List Int))) : Nat → List Int → List (List Int) → Int → Option (((List Int) × Bool))
  | 0, _, _, _ => none
  | k199 + 1, v219, v220, v221 =>
    cond (decide (v221 < (x197.length : Int)))
      ((getI v220 v221).bind fun x223 =>
      (impl_withKeys_p keys [v221]).bind fun x225 =>
      (impl_shuffledNumbers_p fuel x225 x223).bind fun x227 =>
      (need (fitsB 8 (v219.length + x227.length))).bind fun u229 =>
      impl_OrderByPlaces_l4 keys fuel x197 k199 (v219 ++ x227) (v220.set v221.toNat x223) (w64 (v221 + 1)))
      (some (v219, true))
def impl_OrderByPlaces_l3 (keys : List Int) (size : Int) (fuel : Nat) (v122 : List Int) : Nat → List Int → Int → Option (((List Int) × Bool))
  | 0, _, _ => none
  | k185 + 1, v192, v193 =>
    cond (decide (v193 < (w64 ((v122.length : Int).tdiv size))))
      ((need (fitsB 8 (v192.length + ([size]).length))).bind fun u195 =>
      impl_OrderByPlaces_l3 keys size fuel v122 k185 (v192 ++ [size]) (w64 (v193 + 1)))
      ((impl_cutInto_p v122 v192).bind fun x197 =>
      impl_OrderByPlaces_l4 keys fuel x197 fuel [] x197 0)
def impl_OrderByPlaces_l6 (keys : List Int) (fuel : Nat) (x243 : (List (List Int))) : Nat → List Int → List (List Int) → Int → Option (((List Int) × Bool))
  | 0, _, _, _ => none
  | k245 + 1, v265, v266, v267 =>
    cond (decide (v267 < (x243.length : Int)))
      ((getI v266 v267).bind fun x269 =>
      (impl_withKeys_p keys [v267]).bind fun x271 =>
      (impl_shuffledNumbers_p fuel x271 x269).bind fun x273 =>
      (need (fitsB 8 (v265.length + x273.length))).bind fun u275 =>
      impl_OrderByPlaces_l6 keys fuel x243 k245 (v265 ++ x273) (v266.set v267.toNat x269) (w64 (v267 + 1)))
      (some (v265, true))
def impl_OrderByPlaces_l5 (keys : List Int) (size : Int) (fuel : Nat) (v122 : List Int) : Nat → List Int → Int → Option (((List Int) × Bool))
  | 0, _, _ => none
  | k231 + 1, v238, v239 =>
    cond (decide (v239 < (w64 ((v122.length : Int).tdiv size))))
      ((need (fitsB 8 (v238.length + ([size]).length))).bind fun u241 =>
      impl_OrderByPlaces_l5 keys size fuel v122 k231 (v238 ++ [size]) (w64 (v239 + 1)))
      ((impl_cutInto_p v122 v238).bind fun x243 =>
      impl_OrderByPlaces_l6 keys fuel x243 fuel [] x243 0)
def impl_OrderByPlaces_l1 (keys : List Int) (skaters : List Int) (places : List Int) (size : Int) (fuel : Nat) : Nat → List Int → Int → Option (((List Int) × Bool))
  | 0, _, _ => none
  | k9 + 1, v122, v123 =>
    cond (decide (v123 ≥ 1))
      ((impl_OrderByPlaces_l2 keys places fuel v122 v123 skaters 0 []).bind fun v151 =>
      impl_OrderByPlaces_l1 keys skaters places size fuel k9 v151 (w64 (v123 - 1)))
      ((need (size != 0)).bind fun u181 =>
      cond (decide (((v122.length : Int).tmod size) > 0))
        ((need (fitsB 8 (([((v122.length : Int).tmod size)]).length))).bind fun u183 =>
        impl_OrderByPlaces_l3 keys size fuel v122 fuel [((v122.length : Int).tmod size)] 0)
        (impl_OrderByPlaces_l5 keys size fuel v122 fuel [] 0))
def impl_OrderByPlaces_p (fuel : Nat) (keys : List Int) (skaters : List Int) (places : List Int) (size : Int) : Option ((List Int) × Bool) :=
  (impl_areKeys_p keys 4).bind fun x1 =>
  (opt (!(!x1)) default (impl_isOrder_p skaters)).bind fun x3 =>
  (opt (!(((!x1) || (!x3)) || ((places.length : Int) != (skaters.length : Int)))) default (impl_allWithin_p places 1 99)).bind fun x5 =>
  (opt (!((((!x1) || (!x3)) || ((places.length : Int) != (skaters.length : Int))) || (!x5))) default (impl_isGroupSize_p size)).bind fun x7 =>
  cond (((((!x1) || (!x3)) || ((places.length : Int) != (skaters.length : Int))) || (!x5)) || (!x7))
    (some ([], false))
    (impl_OrderByPlaces_l1 keys skaters places size fuel fuel [] 99)
theorem impl_OrderByPlaces_ok (fuel : Nat) (keys : List Int) (skaters : List Int) (places : List Int) (size : Int) (r : ((List Int) × Bool)) (hH : impl_OrderByPlaces_p fuel keys skaters places size = some r) : SpecR Tryz.prog 126 [.s (List.map encInt keys), .s (List.map encInt skaters), .s (List.map encInt places), size] (.t [.w 1 (r.1.map encInt), .v (.bool r.2)]) := by
 refine fn_ok T Tryz.func126 rfl (by decide) rfl ?_
 refine AW.seq (AW.region ?_)
 iterate 2 refine AO.pu T ?_
 refine AO.nil ?_
 iterate 2 refine AW.seq ?_
 obtain ⟨x1, hx2, hH⟩ := bindE hH
 obtain ⟨x3, hx4, hH⟩ := bindE hH
 obtain ⟨x5, hx6, hH⟩ := bindE hH
 obtain ⟨x7, hx8, hH⟩ := bindE hH
 refine AW.region ?_
 refine AO.pu T ?_
 refine AO.val rfl rfl (callV_ok rfl rfl rfl rfl (impl_areKeys_ok _ _ _ (hx2)) rfl) ?_
 iterate 2 refine AO.pu T ?_
 refine AO.pureG T [] rfl trivial rfl rfl ?_
 refine AO.guard [24] rfl ⟨fun h => h, trivial⟩ (fun hg => callV_ok rfl rfl rfl rfl (impl_isOrder_ok _ _ (optT hx4 hg)) rfl) rfl ?_
 refine AO.pureG T [25] rfl ⟨fun h => h, trivial⟩ rfl rfl ?_
 refine AO.val rfl rfl (pick_or rfl rfl rfl rfl) ?_
 refine AO.pu T ?_
 refine AO.pureG T [] rfl trivial rfl rfl ?_
 refine AO.guard [29] rfl ⟨fun h => h, trivial⟩ (fun hg => len_map_ok T rfl rfl rfl) rfl ?_
 refine AO.pureG T [] rfl trivial rfl rfl ?_
 refine AO.guard [31] rfl ⟨fun h => h, trivial⟩ (fun hg => len_map_ok T rfl rfl rfl) rfl ?_
 refine AO.pureG T [30, 32] rfl ⟨fun h => h, fun h => h, trivial⟩ rfl rfl ?_
 refine AO.val rfl rfl (pick_or rfl rfl rfl rfl) ?_
 refine AO.pu T ?_
 refine AO.pureG T [] rfl trivial rfl rfl ?_
 refine AO.guard [36] rfl ⟨fun h => h, trivial⟩ (fun hg => callV_ok rfl rfl rfl rfl (impl_allWithin_ok _ _ _ _ (optT hx6 hg)) rfl) rfl ?_
 refine AO.pureG T [37] rfl ⟨fun h => h, trivial⟩ rfl rfl ?_
 refine AO.val rfl rfl (pick_or rfl rfl rfl rfl) ?_
 refine AO.pu T ?_
 refine AO.pureG T [] rfl trivial rfl rfl ?_
 refine AO.guard [41] rfl ⟨fun h => h, trivial⟩ (fun hg => callV_ok rfl rfl rfl rfl (impl_isGroupSize_ok _ _ (optT hx8 hg)) rfl) rfl ?_
 refine AO.pureG T [42] rfl ⟨fun h => h, trivial⟩ rfl rfl ?_
 refine AO.val rfl rfl (pick_or rfl rfl rfl rfl) ?_
 refine AO.nil ?_
 refine AW.le (Le.ct 0 0 (σ' := (⟨[(0, .s (List.map encInt keys)), (1, .s (List.map encInt skaters)), (2, .s (List.map encInt places)), (3, size), (44, .v (.bool (((((!x1) || (!x3)) || ((places.length : Int) != (skaters.length : Int))) || (!x5)) || (!x7))))], [], 119, []⟩ : St))) ?_
 refine AW.cond (b := (((((!x1) || (!x3)) || ((places.length : Int) != (skaters.length : Int))) || (!x5)) || (!x7))) rfl (fun hc => ?_) (fun hc => ?_)
 replace hH := condT hc hH
 refine AW.seq (AW.region ?_)
 iterate 2 refine AO.pu T ?_
 refine AO.nil (AW.ret ?_)
 cases someE hH
 exact retQ.i [] rfl (.t (expLG_cons (.c .nil) (expLG_cons (.c .v) (expLG_nil))))
 replace hH := condF hc hH
 refine AW.skip ?_
 refine AW.seq (AW.region ?_)
 refine AO.step rfl (mk0_ok T rfl rfl rfl rfl) ?_
 refine AO.pu T ?_
 refine AO.nil ?_
 iterate 2 refine AW.seq ?_
 refine AW.region ?_
 refine AO.pu T ?_
 refine AO.nil ?_
 refine AW.block ?_
 refine AW.loopS (fun s : Nat × (List Int) × Int => (⟨[(0, .s (List.map encInt keys)), (1, .s (List.map encInt skaters)), (2, .s (List.map encInt places)), (3, size), (10, .R 28), (11, s.2.2)], [(28, .row 1 (List.map encInt s.2.1))], 119, []⟩ : St)) (fun s => impl_OrderByPlaces_l1 keys skaters places size fuel s.1 s.2.1 s.2.2 = some r) (fun s => s.1) (fuel, [], 99) hH ?_ ?_
 refine Le.trans (Le.void 10 28 1 rfl rfl) ?_
 exact Le.ct 0 0
 rintro ⟨k9, v122, v123⟩ hH
 replace hH : impl_OrderByPlaces_l1 keys skaters places size fuel k9 v122 v123 = some r := hH
 try dsimp only
 rcases k9 with _ | k9
 cases (show none = some _ from hH)
 rw [impl_OrderByPlaces_l1] at hH
 iterate 2 refine AW.seq ?_
 refine AW.region ?_
 iterate 2 refine AO.pu T ?_
 refine AO.nil ?_
 refine AW.cond (b := decide (v123 ≥ 1)) rfl (fun hc => ?_) (fun hc => ?_)
 replace hH := condT hc hH
 refine AW.skip ?_
 obtain ⟨o152, hH, hK153⟩ := bindE hH
 refine AW.seqJ (fun s : List Int => (⟨[(0, .s (List.map encInt keys)), (1, .s (List.map encInt skaters)), (2, .s (List.map encInt places)), (3, size), (10, .R 48), (11, v123)], [(48, .row 1 (List.map encInt s))], 119, []⟩ : St)) (fun s => s = o152) ?_ ?_
 refine AW.block ?_
 refine AW.seq (AW.region ?_)
 refine AO.step rfl (mk0_ok T rfl rfl rfl rfl) ?_
 refine AO.pu T ?_
 refine AO.nil ?_
 iterate 2 refine AW.seq ?_
 refine AW.region ?_
 refine AO.pu T ?_
 refine AO.val rfl rfl (len_map_ok T rfl rfl rfl) ?_
 refine AO.pu T ?_
 refine AO.nil ?_
 refine AW.block ?_
 refine AW.loopS (fun s : Nat × (List Int) => (⟨[(0, .s (List.map encInt keys)), (1, .s (List.map encInt skaters)), (2, .s (List.map encInt places)), (3, size), (10, .R 28), (11, v123), (12, .R 54), (51, .s (List.map encInt skaters)), (52, (skaters.length : Int)), (53, (s.1 : Int))], [(28, .row 1 (List.map encInt v122)), (54, .row 1 (List.map encInt s.2))], 119, []⟩ : St)) (fun s => s.1 ≤ skaters.length ∧ impl_OrderByPlaces_l2 keys places fuel v122 v123 (skaters.drop s.1) s.1 s.2 = some o152) (fun s => skaters.length - s.1) (0, []) ⟨Nat.zero_le _, hH⟩ ?_ ?_
 refine Le.trans (Le.void 12 54 1 rfl rfl) ?_
 exact Le.ct 0 0
 rintro ⟨k154, v169⟩ ⟨hk, hH⟩
 replace hH : impl_OrderByPlaces_l2 keys places fuel v122 v123 (skaters.drop k154) k154 v169 = some o152 := hH
 try dsimp only
 refine AW.boundM (t := 1) (l := skaters) rfl (fun hb158 => ?_)
 rcases hd157 : skaters.drop k154 with _ | ⟨y155, ys156⟩
 rw [hd157, impl_OrderByPlaces_l2] at hH
 have hlt159 := drop_ge hd157
 refine AW.seq (AW.region ?_)
 refine AO.pu T ?_
 refine AO.nil (AW.seq ?_)
 refine AW.condF' (b := decide ((k154 : Int) < (skaters.length : Int))) rfl (rngF hlt159) ?_
 refine AW.exit ?_
 obtain ⟨x171, hx172, hH⟩ := bindE hH
 obtain ⟨x173, hx174, hH⟩ := bindE hH
 obtain ⟨u175, hx176, hH⟩ := bindE hH
 refine AW.region ?_
 iterate 3 refine AO.pu T ?_
 refine AO.step rfl (mk_map_ok T rfl 55 rfl rfl rfl rfl rfl (f := encInt) (l := [90, v123]) rfl rfl (fun _ => rfl) rfl rfl rfl rfl rfl) ?_
 refine AO.step rfl (callL_ok rfl 56 rfl rfl (es := [.s (List.map encInt keys), .s (List.map encInt [90, v123])]) (by exact ⟨.free rfl, (.rowR rfl (.map fun y => .vs rfl)), trivial⟩) (impl_withKeys_ok _ _ _ (hx172)) (zfree_map (fun y => (.cons (zfree_v _) .nil))) rfl rfl rfl) ?_
 refine AO.pu T ?_
 refine AO.step rfl (callL_ok rfl 57 rfl rfl (es := [.s (List.map encInt x171), .s (List.map encInt v169)]) (by exact ⟨(.rowR rfl (.map fun y => .vs rfl)), (.rowR rfl (.map fun y => .vs rfl)), trivial⟩) (impl_shuffledNumbers_ok fuel _ _ _ (hx174)) (zfree_map (fun y => (.cons (zfree_v _) .nil))) rfl rfl rfl) ?_
 refine AO.step rfl (app_rv_map T rfl 58 rfl rfl rfl rfl rfl (by decide) rfl rfl rfl rfl (fun _ => rfl) (needT (hx176)) rfl rfl) ?_
 refine AO.pu T ?_
 refine AO.nil ?_
 refine ⟨_, someE hH, ?_⟩
 exact Le.ct 58 48
 rw [hd157, impl_OrderByPlaces_l2] at hH
 have hlt159 := drop_lt hd157
 refine AW.seq (AW.region ?_)
 refine AO.pu T ?_
 refine AO.nil (AW.seq ?_)
 refine AW.condT' (b := decide ((k154 : Int) < (skaters.length : Int))) rfl (rngT hlt159) ?_
 refine AW.skip ?_
 refine AW.seq ?_
 refine AW.block ?_
 refine AW.seq (AW.region ?_)
 refine AO.pu T ?_
 refine AO.val rfl rfl (ix_map_ok T rfl rfl rfl rfl rfl (getI_drop hd157) rfl) ?_
 iterate 3 refine AO.pu T ?_
 refine AO.nil (AW.seq ?_)
 obtain ⟨x177, hx178, hH⟩ := bindE hH
 refine AW.region ?_
 iterate 2 refine AO.pu T ?_
 refine AO.val rfl rfl (ix_map_ok T rfl rfl rfl rfl rfl (hx178) rfl) ?_
 iterate 3 refine AO.pu T ?_
 refine AO.nil ?_
 refine AW.cond (b := (x177 == v123)) rfl (fun hc => ?_) (fun hc => ?_)
 replace hH := condT hc hH
 obtain ⟨u179, hx180, hH⟩ := bindE hH
 refine AW.region ?_
 iterate 2 refine AO.pu T ?_
 refine AO.step rfl (mk_map_ok T rfl 59 rfl rfl rfl rfl rfl (f := encInt) (l := [y155]) rfl rfl (fun _ => rfl) rfl rfl rfl rfl rfl) ?_
 refine AO.step rfl (app_rv_map T rfl 60 rfl rfl rfl rfl rfl (by decide) rfl rfl rfl rfl (fun _ => rfl) (needT (hx180)) rfl rfl) ?_
 refine AO.pu T ?_
 refine AO.nil ?_
 refine AW.region ?_
 refine AO.val rfl rfl (ar_ok rfl rfl rfl rfl (inI_succ hlt159 hb158)) ?_
 refine AO.pu T ?_
 refine AO.nil ?_
 refine ⟨(k154 + 1, (v169 ++ [y155])), ⟨Nat.succ_le_of_lt hlt159, (by rw [drop_succ_of hd157]; exact hH)⟩, (by have := hlt159; dsimp only; omega), ?_⟩
 exact Le.ct 60 54
 replace hH := condF hc hH
 refine AW.skip ?_
 refine AW.region ?_
 refine AO.val rfl rfl (ar_ok rfl rfl rfl rfl (inI_succ hlt159 hb158)) ?_
 refine AO.pu T ?_
 refine AO.nil ?_
 refine ⟨(k154 + 1, v169), ⟨Nat.succ_le_of_lt hlt159, (by rw [drop_succ_of hd157]; exact hH)⟩, (by have := hlt159; dsimp only; omega), ?_⟩
 exact Le.ct 0 0
 rintro v151 hs
 subst hs
 replace hH := hK153
 try dsimp only [flow, flowE] at hH
 try dsimp only
 refine AW.region ?_
 refine AO.pu T ?_
 refine AO.val rfl rfl (arw_ok rfl rfl rfl rfl) ?_
 refine AO.pu T ?_
 refine AO.nil ?_
 refine ⟨(k9, v151, w64 (v123 - 1)), hH, Nat.lt_succ_self _, ?_⟩
 exact Le.ct 48 28
 replace hH := condF hc hH
 refine AW.exit ?_
 refine AW.seq (AW.region ?_)
 refine AO.step rfl (mk0_ok T rfl rfl rfl rfl) ?_
 refine AO.pu T ?_
 refine AO.nil ?_
 iterate 2 refine AW.seq ?_
 obtain ⟨u181, hx182, hH⟩ := bindE hH
 refine AW.region ?_
 refine AO.pu T ?_
 refine AO.val rfl rfl (len_row_ok T rfl rfl rfl rfl) ?_
 refine AO.pu T ?_
 refine AO.val rfl rfl (rem_ok rfl rfl rfl (neZ (needT (hx182)))) ?_
 refine AO.pu T ?_
 refine AO.nil (AW.seq ?_)
 refine AW.region ?_
 iterate 2 refine AO.pu T ?_
 refine AO.nil ?_
 refine AW.cond (b := decide (((v122.length : Int).tmod size) > 0)) rfl (fun hc => ?_) (fun hc => ?_)
 replace hH := condT hc hH
 obtain ⟨u183, hx184, hH⟩ := bindE hH
 refine AW.region ?_
 iterate 2 refine AO.pu T ?_
 refine AO.step rfl (mk_map_ok T rfl 61 rfl rfl rfl rfl rfl (f := encInt) (l := [((v122.length : Int).tmod size)]) rfl rfl (fun _ => rfl) rfl rfl rfl rfl rfl) ?_
 refine AO.step rfl (app_wv_map T rfl 62 rfl rfl rfl rfl rfl (by decide) rfl rfl rfl (fun _ => rfl) (needT (hx184)) rfl rfl) ?_
 refine AO.pu T ?_
 refine AO.nil ?_
 iterate 2 refine AW.seq ?_
 refine AW.region ?_
 refine AO.pu T ?_
 refine AO.val rfl rfl (len_row_ok T rfl rfl rfl rfl) ?_
 refine AO.pu T ?_
 refine AO.val rfl rfl (quow_ok rfl rfl rfl (neZ (needT (hx182)))) ?_
 refine AO.pu T ?_
 refine AO.nil ?_
 refine AW.block ?_
 refine AW.loopS (fun s : Nat × (List Int) × Int => (⟨[(0, .s (List.map encInt keys)), (3, size), (10, .R 28), (15, .R 62), (91, w64 ((v122.length : Int).tdiv size)), (92, s.2.2)], [(28, .row 1 (List.map encInt v122)), (62, .row 1 (List.map encInt s.2.1))], 119, []⟩ : St)) (fun s => impl_OrderByPlaces_l3 keys size fuel v122 s.1 s.2.1 s.2.2 = some r) (fun s => s.1) (fuel, [((v122.length : Int).tmod size)], 0) hH ?_ ?_
 exact Le.ct 0 0
 rintro ⟨k185, v192, v193⟩ hH
 replace hH : impl_OrderByPlaces_l3 keys size fuel v122 k185 v192 v193 = some r := hH
 try dsimp only
 rcases k185 with _ | k185
 cases (show none = some _ from hH)
 rw [impl_OrderByPlaces_l3] at hH
 refine AW.seq (AW.region ?_)
 refine AO.pu T ?_
 refine AO.nil (AW.seq ?_)
 refine AW.cond (b := decide (v193 < (w64 ((v122.length : Int).tdiv size)))) rfl (fun hc => ?_) (fun hc => ?_)
 replace hH := condT hc hH
 refine AW.skip ?_
 refine AW.seq ?_
 refine AW.block ?_
 obtain ⟨u195, hx196, hH⟩ := bindE hH
 refine AW.region ?_
 iterate 2 refine AO.pu T ?_
 refine AO.step rfl (mk_map_ok T rfl 67 rfl rfl rfl rfl rfl (f := encInt) (l := [size]) rfl rfl (fun _ => rfl) rfl rfl rfl rfl rfl) ?_
 refine AO.step rfl (app_rv_map T rfl 68 rfl rfl rfl rfl rfl (by decide) rfl rfl rfl rfl (fun _ => rfl) (needT (hx196)) rfl rfl) ?_
 refine AO.pu T ?_
 refine AO.nil ?_
 refine AW.region ?_
 refine AO.val rfl rfl (arw_ok rfl rfl rfl rfl) ?_
 refine AO.pu T ?_
 refine AO.nil ?_
 refine ⟨(k185, (v192 ++ [size]), w64 (v193 + 1)), hH, Nat.lt_succ_self _, ?_⟩
 exact Le.ct 68 62
 replace hH := condF hc hH
 refine AW.exit ?_
 refine AW.seq (AW.region ?_)
 refine AO.step rfl (mk0_ok T rfl rfl rfl rfl) ?_
 refine AO.pu T ?_
 refine AO.nil ?_
 iterate 2 refine AW.seq ?_
 obtain ⟨x197, hx198, hH⟩ := bindE hH
 refine AW.region ?_
 iterate 2 refine AO.pu T ?_
 refine AO.step rfl (callL_ok rfl 69 rfl rfl (es := [.s (List.map encInt v122), .s (List.map encInt v192)]) (by exact ⟨(.rowR rfl (.map fun y => .vs rfl)), (.rowR rfl (.map fun y => .vs rfl)), trivial⟩) (impl_cutInto_ok _ _ _ (hx198)) (zfree_map (fun y => (.cons (zfree_map (fun y => (.cons (zfree_v _) .nil))) .nil))) rfl rfl rfl) ?_
 refine AO.val rfl rfl (len_row_ok T rfl rfl rfl rfl) ?_
 refine AO.pu T ?_
 refine AO.nil ?_
 refine AW.block ?_
 refine AW.loopS (fun s : Nat × (List Int) × (List (List Int)) × Int => (⟨[(0, .s (List.map encInt keys)), (17, .R 79), (102, .R 69), (103, (x197.length : Int)), (104, s.2.2.2)], [(69, .row 1 (List.map encLIntO s.2.2.1)), (79, .row 1 (List.map encInt s.2.1))], 119, []⟩ : St)) (fun s => impl_OrderByPlaces_l4 keys fuel x197 s.1 s.2.1 s.2.2.1 s.2.2.2 = some r) (fun s => s.1) (fuel, [], x197, 0) hH ?_ ?_
 refine Le.trans (Le.void 17 79 1 rfl rfl) ?_
 exact Le.ct 0 0
 rintro ⟨k199, v219, v220, v221⟩ hH
 replace hH : impl_OrderByPlaces_l4 keys fuel x197 k199 v219 v220 v221 = some r := hH
 try dsimp only
 rcases k199 with _ | k199
 cases (show none = some _ from hH)
 rw [impl_OrderByPlaces_l4] at hH
 refine AW.seq (AW.region ?_)
 refine AO.pu T ?_
 refine AO.nil (AW.seq ?_)
 refine AW.cond (b := decide (v221 < (x197.length : Int))) rfl (fun hc => ?_) (fun hc => ?_)
 replace hH := condT hc hH
 refine AW.skip ?_
 refine AW.seq ?_
 refine AW.block ?_
 refine AW.seq ?_
 obtain ⟨x223, hx224, hH⟩ := bindE hH
 refine AW.le (Le.openM 69 v221.toNat 0 80 rfl (getI_get (hx224)) rfl rfl) ?_
 refine AW.region ?_
 refine AO.pu T ?_
 refine AO.val rfl rfl (ix_lent_ok T rfl rfl rfl rfl rfl rfl (hx224)) ?_
 refine AO.val rfl rfl (load_lent_ok T rfl rfl rfl rfl rfl) ?_
 iterate 2 refine AO.pu T ?_
 refine AO.nil ?_
 obtain ⟨x225, hx226, hH⟩ := bindE hH
 obtain ⟨x227, hx228, hH⟩ := bindE hH
 obtain ⟨u229, hx230, hH⟩ := bindE hH
 refine AW.region ?_
 iterate 3 refine AO.pu T ?_
 refine AO.step rfl (mk_map_ok T rfl 81 rfl rfl rfl rfl rfl (f := encInt) (l := [v221]) rfl rfl (fun _ => rfl) rfl rfl rfl rfl rfl) ?_
 refine AO.step rfl (callL_ok rfl 82 rfl rfl (es := [.s (List.map encInt keys), .s (List.map encInt [v221])]) (by exact ⟨.free rfl, (.rowR rfl (.map fun y => .vs rfl)), trivial⟩) (impl_withKeys_ok _ _ _ (hx226)) (zfree_map (fun y => (.cons (zfree_v _) .nil))) rfl rfl rfl) ?_
 refine AO.pu T ?_
 refine AO.step rfl (callL_ok rfl 83 rfl rfl (es := [.s (List.map encInt x225), .s (List.map encInt x223)]) (by exact ⟨(.rowR rfl (.map fun y => .vs rfl)), (.rowR rfl (.map fun y => .vs rfl)), trivial⟩) (impl_shuffledNumbers_ok fuel _ _ _ (hx228)) (zfree_map (fun y => (.cons (zfree_v _) .nil))) rfl rfl rfl) ?_
 refine AO.step rfl (app_rv_map T rfl 84 rfl rfl rfl rfl rfl (by decide) rfl rfl rfl rfl (fun _ => rfl) (needT (hx230)) rfl rfl) ?_
 refine AO.pu T ?_
 refine AO.le (Le.closeM 69 v221.toNat 0 80 rfl rfl (getI_get (hx224)) rfl (u' := x223) rfl) ?_
 refine AO.nil ?_
 refine AW.region ?_
 refine AO.val rfl rfl (arw_ok rfl rfl rfl rfl) ?_
 refine AO.pu T ?_
 refine AO.nil ?_
 refine ⟨(k199, (v219 ++ x227), (v220.set v221.toNat x223), w64 (v221 + 1)), hH, Nat.lt_succ_self _, ?_⟩
 exact Le.ct 84 79
 replace hH := condF hc hH
 refine AW.exit ?_
 refine AW.seq (AW.region ?_)
 iterate 3 refine AO.pu T ?_
 refine AO.nil (AW.ret ?_)
 cases someE hH
 exact retQ.i [79] rfl (.t (expLG_cons (.c (.rowR rfl)) (expLG_cons (.c .v) (expLG_nil))))
 replace hH := condF hc hH
 refine AW.skip ?_
 iterate 2 refine AW.seq ?_
 refine AW.region ?_
 refine AO.pu T ?_
 refine AO.val rfl rfl (len_row_ok T rfl rfl rfl rfl) ?_
 refine AO.pu T ?_
 refine AO.val rfl rfl (quow_ok rfl rfl rfl (neZ (needT (hx182)))) ?_
 refine AO.pu T ?_
 refine AO.nil ?_
 refine AW.block ?_
 refine AW.loopS (fun s : Nat × (List Int) × Int => (⟨[(0, .s (List.map encInt keys)), (3, size), (10, .R 28), (15, .R 88), (91, w64 ((v122.length : Int).tdiv size)), (92, s.2.2)], [(28, .row 1 (List.map encInt v122)), (88, .row 1 (List.map encInt s.2.1))], 119, []⟩ : St)) (fun s => impl_OrderByPlaces_l5 keys size fuel v122 s.1 s.2.1 s.2.2 = some r) (fun s => s.1) (fuel, [], 0) hH ?_ ?_
 refine Le.trans (Le.void 15 88 1 rfl rfl) ?_
 exact Le.ct 0 0
 rintro ⟨k231, v238, v239⟩ hH
 replace hH : impl_OrderByPlaces_l5 keys size fuel v122 k231 v238 v239 = some r := hH
 try dsimp only
 rcases k231 with _ | k231
 cases (show none = some _ from hH)
 rw [impl_OrderByPlaces_l5] at hH
 refine AW.seq (AW.region ?_)
 refine AO.pu T ?_
 refine AO.nil (AW.seq ?_)
 refine AW.cond (b := decide (v239 < (w64 ((v122.length : Int).tdiv size)))) rfl (fun hc => ?_) (fun hc => ?_)
 replace hH := condT hc hH
 refine AW.skip ?_
 refine AW.seq ?_
 refine AW.block ?_
 obtain ⟨u241, hx242, hH⟩ := bindE hH
 refine AW.region ?_
 iterate 2 refine AO.pu T ?_
 refine AO.step rfl (mk_map_ok T rfl 89 rfl rfl rfl rfl rfl (f := encInt) (l := [size]) rfl rfl (fun _ => rfl) rfl rfl rfl rfl rfl) ?_
 refine AO.step rfl (app_rv_map T rfl 90 rfl rfl rfl rfl rfl (by decide) rfl rfl rfl rfl (fun _ => rfl) (needT (hx242)) rfl rfl) ?_
 refine AO.pu T ?_
 refine AO.nil ?_
 refine AW.region ?_
 refine AO.val rfl rfl (arw_ok rfl rfl rfl rfl) ?_
 refine AO.pu T ?_
 refine AO.nil ?_
 refine ⟨(k231, (v238 ++ [size]), w64 (v239 + 1)), hH, Nat.lt_succ_self _, ?_⟩
 exact Le.ct 90 88
 replace hH := condF hc hH
 refine AW.exit ?_
 refine AW.seq (AW.region ?_)
 refine AO.step rfl (mk0_ok T rfl rfl rfl rfl) ?_
 refine AO.pu T ?_
 refine AO.nil ?_
 iterate 2 refine AW.seq ?_
 obtain ⟨x243, hx244, hH⟩ := bindE hH
 refine AW.region ?_
 iterate 2 refine AO.pu T ?_
 refine AO.step rfl (callL_ok rfl 91 rfl rfl (es := [.s (List.map encInt v122), .s (List.map encInt v238)]) (by exact ⟨(.rowR rfl (.map fun y => .vs rfl)), (.rowR rfl (.map fun y => .vs rfl)), trivial⟩) (impl_cutInto_ok _ _ _ (hx244)) (zfree_map (fun y => (.cons (zfree_map (fun y => (.cons (zfree_v _) .nil))) .nil))) rfl rfl rfl) ?_
 refine AO.val rfl rfl (len_row_ok T rfl rfl rfl rfl) ?_
 refine AO.pu T ?_
 refine AO.nil ?_
 refine AW.block ?_
 refine AW.loopS (fun s : Nat × (List Int) × (List (List Int)) × Int => (⟨[(0, .s (List.map encInt keys)), (17, .R 101), (102, .R 91), (103, (x243.length : Int)), (104, s.2.2.2)], [(91, .row 1 (List.map encLIntO s.2.2.1)), (101, .row 1 (List.map encInt s.2.1))], 119, []⟩ : St)) (fun s => impl_OrderByPlaces_l6 keys fuel x243 s.1 s.2.1 s.2.2.1 s.2.2.2 = some r) (fun s => s.1) (fuel, [], x243, 0) hH ?_ ?_
 refine Le.trans (Le.void 17 101 1 rfl rfl) ?_
 exact Le.ct 0 0
 rintro ⟨k245, v265, v266, v267⟩ hH
 replace hH : impl_OrderByPlaces_l6 keys fuel x243 k245 v265 v266 v267 = some r := hH
 try dsimp only
 rcases k245 with _ | k245
 cases (show none = some _ from hH)
 rw [impl_OrderByPlaces_l6] at hH
 refine AW.seq (AW.region ?_)
 refine AO.pu T ?_
 refine AO.nil (AW.seq ?_)
 refine AW.cond (b := decide (v267 < (x243.length : Int))) rfl (fun hc => ?_) (fun hc => ?_)
 replace hH := condT hc hH
 refine AW.skip ?_
 refine AW.seq ?_
 refine AW.block ?_
 refine AW.seq ?_
 obtain ⟨x269, hx270, hH⟩ := bindE hH
 refine AW.le (Le.openM 91 v267.toNat 0 102 rfl (getI_get (hx270)) rfl rfl) ?_
 refine AW.region ?_
 refine AO.pu T ?_
 refine AO.val rfl rfl (ix_lent_ok T rfl rfl rfl rfl rfl rfl (hx270)) ?_
 refine AO.val rfl rfl (load_lent_ok T rfl rfl rfl rfl rfl) ?_
 iterate 2 refine AO.pu T ?_
 refine AO.nil ?_
 obtain ⟨x271, hx272, hH⟩ := bindE hH
 obtain ⟨x273, hx274, hH⟩ := bindE hH
 obtain ⟨u275, hx276, hH⟩ := bindE hH
 refine AW.region ?_
 iterate 3 refine AO.pu T ?_
 refine AO.step rfl (mk_map_ok T rfl 103 rfl rfl rfl rfl rfl (f := encInt) (l := [v267]) rfl rfl (fun _ => rfl) rfl rfl rfl rfl rfl) ?_
 refine AO.step rfl (callL_ok rfl 104 rfl rfl (es := [.s (List.map encInt keys), .s (List.map encInt [v267])]) (by exact ⟨.free rfl, (.rowR rfl (.map fun y => .vs rfl)), trivial⟩) (impl_withKeys_ok _ _ _ (hx272)) (zfree_map (fun y => (.cons (zfree_v _) .nil))) rfl rfl rfl) ?_
 refine AO.pu T ?_
 refine AO.step rfl (callL_ok rfl 105 rfl rfl (es := [.s (List.map encInt x271), .s (List.map encInt x269)]) (by exact ⟨(.rowR rfl (.map fun y => .vs rfl)), (.rowR rfl (.map fun y => .vs rfl)), trivial⟩) (impl_shuffledNumbers_ok fuel _ _ _ (hx274)) (zfree_map (fun y => (.cons (zfree_v _) .nil))) rfl rfl rfl) ?_
 refine AO.step rfl (app_rv_map T rfl 106 rfl rfl rfl rfl rfl (by decide) rfl rfl rfl rfl (fun _ => rfl) (needT (hx276)) rfl rfl) ?_
 refine AO.pu T ?_
 refine AO.le (Le.closeM 91 v267.toNat 0 102 rfl rfl (getI_get (hx270)) rfl (u' := x269) rfl) ?_
 refine AO.nil ?_
 refine AW.region ?_
 refine AO.val rfl rfl (arw_ok rfl rfl rfl rfl) ?_
 refine AO.pu T ?_
 refine AO.nil ?_
 refine ⟨(k245, (v265 ++ x273), (v266.set v267.toNat x269), w64 (v267 + 1)), hH, Nat.lt_succ_self _, ?_⟩
 exact Le.ct 106 101
 replace hH := condF hc hH
 refine AW.exit ?_
 refine AW.seq (AW.region ?_)
 iterate 3 refine AO.pu T ?_
 refine AO.nil (AW.ret ?_)
 cases someE hH
 exact retQ.i [101] rfl (.t (expLG_cons (.c (.rowR rfl)) (expLG_cons (.c .v) (expLG_nil))))

def impl_drawOf_l1 (e : Event) (fuel : Nat) : List Entrant → Nat → List Entrant → List Int → List Int → Option (((List Int) × Bool))
  | [], k1, v30, v31, v32 =>
    cond ((v30.length : Int) == 0)
      (some ([], false))
      (cond (e.segment == 0)
        ((impl_StartOrder_p fuel [e.key, 0] v30 e.size).bind fun x34 =>
        some (x34.1, x34.2))
        ((impl_OrderByPlaces_p fuel [e.key, e.segment] v31 v32 e.size).bind fun x36 =>
        some (x36.1, x36.2)))
  | y2 :: ys3, k1, v30, v31, v32 =>
    (impl_isThere_p e y2.skater).bind fun x38 =>
    cond x38
      ((need (fitsB 16 (v30.length + ([y2]).length))).bind fun u40 =>
      (need (fitsB 8 (v31.length + ([y2.skater]).length))).bind fun u42 =>
      (impl_placeOf_p fuel e.results (k1 : Int)).bind fun x44 =>
      (need (fitsB 8 (v32.length + ([x44]).length))).bind fun u46 =>
      impl_drawOf_l1 e fuel ys3 (k1 + 1) (v30 ++ [y2]) (v31 ++ [y2.skater]) (v32 ++ [x44]))
      (impl_drawOf_l1 e fuel ys3 (k1 + 1) v30 v31 v32)
def impl_drawOf_p (fuel : Nat) (e : Event) : Option ((List Int) × Bool) :=
  impl_drawOf_l1 e fuel e.entrants 0 [] [] []
theorem impl_drawOf_ok (fuel : Nat) (e : Event) (r : ((List Int) × Bool)) (hH : impl_drawOf_p fuel e = some r) : SpecR Tryz.prog 70 [.g (encEvent e)] (.t [.w 1 (r.1.map encInt), .v (.bool r.2)]) := by
 refine fn_ok T Tryz.func70 rfl (by decide) rfl ?_
 refine AW.seq (AW.region ?_)
 refine AO.step rfl (box_ok T rfl 1 rfl rfl rfl rfl) ?_
 iterate 2 refine AO.pu T ?_
 refine AO.nil (AW.seq ?_)
 refine AW.region ?_
 iterate 3 refine AO.step rfl (mk0_ok T rfl rfl rfl rfl) ?_
 iterate 3 refine AO.pu T ?_
 refine AO.nil ?_
 iterate 2 refine AW.seq ?_
 refine AW.region ?_
 iterate 2 refine AO.pu T ?_
 refine AO.val rfl rfl (len_map_ok T rfl rfl rfl) ?_
 refine AO.pu T ?_
 refine AO.nil ?_
 refine AW.block ?_
 refine AW.loopS (fun s : Nat × (List Entrant) × (List Int) × (List Int) => (⟨[(1, .p 1 0), (4, .R 11), (5, .R 13), (6, .R 15), (13, .s (List.map encEntrant e.entrants)), (14, (e.entrants.length : Int)), (15, (s.1 : Int))], [(1, .box [e.segments, e.size, e.key, .s (List.map encEntrant e.entrants), .s (List.map encInt e.gone), e.segment, .s (List.map encInt e.order), .s (List.map encResult e.results)]), (11, .row 2 (List.map encEntrant s.2.1)), (13, .row 1 (List.map encInt s.2.2.1)), (15, .row 1 (List.map encInt s.2.2.2))], 68, []⟩ : St)) (fun s => s.1 ≤ e.entrants.length ∧ impl_drawOf_l1 e fuel (e.entrants.drop s.1) s.1 s.2.1 s.2.2.1 s.2.2.2 = some r) (fun s => e.entrants.length - s.1) (0, [], [], []) ⟨Nat.zero_le _, hH⟩ ?_ ?_
 refine Le.trans (Le.void 4 11 2 rfl rfl) ?_
 refine Le.trans (Le.void 5 13 1 rfl rfl) ?_
 refine Le.trans (Le.void 6 15 1 rfl rfl) ?_
 exact Le.ct 0 0
 rintro ⟨k1, v30, v31, v32⟩ ⟨hk, hH⟩
 replace hH : impl_drawOf_l1 e fuel (e.entrants.drop k1) k1 v30 v31 v32 = some r := hH
 try dsimp only
 refine AW.boundM (t := 13) (l := e.entrants) rfl (fun hb5 => ?_)
 rcases hd4 : e.entrants.drop k1 with _ | ⟨y2, ys3⟩
 rw [hd4, impl_drawOf_l1] at hH
 have hlt6 := drop_ge hd4
 refine AW.seq (AW.region ?_)
 refine AO.pu T ?_
 refine AO.nil (AW.seq ?_)
 refine AW.condF' (b := decide ((k1 : Int) < (e.entrants.length : Int))) rfl (rngF hlt6) ?_
 refine AW.exit ?_
 iterate 2 refine AW.seq ?_
 refine AW.region ?_
 refine AO.pu T ?_
 refine AO.val rfl rfl (len_row_ok T rfl rfl rfl rfl) ?_
 refine AO.pu T ?_
 refine AO.nil ?_
 refine AW.cond (b := ((v30.length : Int) == 0)) rfl (fun hc => ?_) (fun hc => ?_)
 replace hH := condT hc hH
 refine AW.seq (AW.region ?_)
 iterate 2 refine AO.pu T ?_
 refine AO.nil (AW.ret ?_)
 cases someE hH
 exact retQ.i [] rfl (.t (expLG_cons (.c .nil) (expLG_cons (.c .v) (expLG_nil))))
 replace hH := condF hc hH
 refine AW.skip ?_
 iterate 2 refine AW.seq ?_
 refine AW.region ?_
 iterate 3 refine AO.pu T ?_
 refine AO.nil ?_
 refine AW.cond (b := (e.segment == 0)) rfl (fun hc => ?_) (fun hc => ?_)
 replace hH := condT hc hH
 refine AW.seq ?_
 obtain ⟨x34, hx35, hH⟩ := bindE hH
 refine AW.region ?_
 iterate 2 refine AO.pu T ?_
 refine AO.step rfl (mk_map_ok T rfl 16 rfl rfl rfl rfl rfl (f := encInt) (l := [e.key, 0]) rfl rfl (fun _ => rfl) rfl rfl rfl rfl rfl) ?_
 iterate 3 refine AO.pu T ?_
 refine AO.step rfl (callL_ok rfl 17 rfl rfl (es := [.s (List.map encInt [e.key, 0]), .s (List.map encEntrant v30), e.size]) (by exact ⟨(.rowR rfl (.map fun y => .vs rfl)), (.rowR rfl (.map fun y => .vs rfl)), .free rfl, trivial⟩) (impl_StartOrder_ok fuel _ _ _ _ (hx35)) (zfree_t (zfl (.cons (zfree_map (fun y => (.cons (zfree_v _) .nil))) (.cons (zfree_v _) .nil)))) rfl rfl rfl) ?_
 iterate 4 refine AO.pu T ?_
 refine AO.nil (AW.ret ?_)
 cases someE hH
 exact retQ.i [17] rfl (.t (expLG_cons (.c (.rowR rfl)) (expLG_cons (.c .v) (expLG_nil))))
 replace hH := condF hc hH
 refine AW.skip ?_
 refine AW.seq ?_
 obtain ⟨x36, hx37, hH⟩ := bindE hH
 refine AW.region ?_
 iterate 4 refine AO.pu T ?_
 refine AO.step rfl (mk_map_ok T rfl 18 rfl rfl rfl rfl rfl (f := encInt) (l := [e.key, e.segment]) rfl rfl (fun _ => rfl) rfl rfl rfl rfl rfl) ?_
 iterate 4 refine AO.pu T ?_
 refine AO.step rfl (callL_ok rfl 19 rfl rfl (es := [.s (List.map encInt [e.key, e.segment]), .s (List.map encInt v31), .s (List.map encInt v32), e.size]) (by exact ⟨(.rowR rfl (.map fun y => .vs rfl)), (.rowR rfl (.map fun y => .vs rfl)), (.rowR rfl (.map fun y => .vs rfl)), .free rfl, trivial⟩) (impl_OrderByPlaces_ok fuel _ _ _ _ _ (hx37)) (zfree_t (zfl (.cons (zfree_map (fun y => (.cons (zfree_v _) .nil))) (.cons (zfree_v _) .nil)))) rfl rfl rfl) ?_
 iterate 4 refine AO.pu T ?_
 refine AO.nil (AW.ret ?_)
 cases someE hH
 exact retQ.i [19] rfl (.t (expLG_cons (.c (.rowR rfl)) (expLG_cons (.c .v) (expLG_nil))))
 rw [hd4, impl_drawOf_l1] at hH
 have hlt6 := drop_lt hd4
 refine AW.seq (AW.region ?_)
 refine AO.pu T ?_
 refine AO.nil (AW.seq ?_)
 refine AW.condT' (b := decide ((k1 : Int) < (e.entrants.length : Int))) rfl (rngT hlt6) ?_
 refine AW.skip ?_
 refine AW.seq ?_
 refine AW.block ?_
 refine AW.seq (AW.region ?_)
 refine AO.pu T ?_
 refine AO.val rfl rfl (ix_map_ok T rfl rfl rfl rfl rfl (getI_drop hd4) rfl) ?_
 refine AO.pu T (d := .g [y2.skater, y2.rank]) ?_
 refine AO.step rfl (alloc_ok T rfl 20 rfl rfl rfl rfl rfl) ?_
 refine AO.pu T ?_
 refine AO.se T [y2.skater, y2.rank] ?_
 refine AO.nil (AW.seq ?_)
 obtain ⟨x38, hx39, hH⟩ := bindE hH
 refine AW.region ?_
 refine AO.pu T (d := .g [e.segments, e.size, e.key, .s (List.map encEntrant e.entrants), .s (List.map encInt e.gone), e.segment, .s (List.map encInt e.order), .s (List.map encResult e.results)]) ?_
 iterate 2 refine AO.pu T ?_
 refine AO.val rfl rfl (callV_ok rfl rfl rfl rfl (impl_isThere_ok _ _ _ (hx39)) rfl) ?_
 refine AO.nil ?_
 refine AW.cond (b := x38) rfl (fun hc => ?_) (fun hc => ?_)
 replace hH := condT hc hH
 refine AW.seq ?_
 obtain ⟨u40, hx41, hH⟩ := bindE hH
 refine AW.region ?_
 refine AO.pu T ?_
 refine AO.pu T (d := .g [y2.skater, y2.rank]) ?_
 refine AO.step rfl (mk_map_ok T rfl 21 rfl rfl rfl rfl rfl (f := encEntrant) (l := [y2]) rfl rfl (fun _ => rfl) rfl rfl rfl rfl rfl) ?_
 refine AO.step rfl (app_rv_map T rfl 22 rfl rfl rfl rfl rfl (by decide) rfl rfl rfl rfl (fun _ => rfl) (needT (hx41)) rfl rfl) ?_
 refine AO.pu T ?_
 refine AO.nil (AW.seq ?_)
 obtain ⟨u42, hx43, hH⟩ := bindE hH
 refine AW.region ?_
 iterate 3 refine AO.pu T ?_
 refine AO.step rfl (mk_map_ok T rfl 23 rfl rfl rfl rfl rfl (f := encInt) (l := [y2.skater]) rfl rfl (fun _ => rfl) rfl rfl rfl rfl rfl) ?_
 refine AO.step rfl (app_rv_map T rfl 24 rfl rfl rfl rfl rfl (by decide) rfl rfl rfl rfl (fun _ => rfl) (needT (hx43)) rfl rfl) ?_
 refine AO.pu T ?_
 refine AO.nil ?_
 obtain ⟨x44, hx45, hH⟩ := bindE hH
 obtain ⟨u46, hx47, hH⟩ := bindE hH
 refine AW.region ?_
 iterate 4 refine AO.pu T ?_
 refine AO.val rfl rfl (callV_ok rfl rfl rfl rfl (impl_placeOf_ok fuel _ _ _ (hx45)) rfl) ?_
 refine AO.step rfl (mk_map_ok T rfl 25 rfl rfl rfl rfl rfl (f := encInt) (l := [x44]) rfl rfl (fun _ => rfl) rfl rfl rfl rfl rfl) ?_
 refine AO.step rfl (app_rv_map T rfl 26 rfl rfl rfl rfl rfl (by decide) rfl rfl rfl rfl (fun _ => rfl) (needT (hx47)) rfl rfl) ?_
 refine AO.pu T ?_
 refine AO.nil ?_
 refine AW.le (Le.ct 0 0 (σ' := (⟨[(1, .p 1 0), (4, .R 22), (5, .R 24), (6, .R 26), (13, .s (List.map encEntrant e.entrants)), (14, (e.entrants.length : Int)), (15, (k1 : Int))], [(1, .box [e.segments, e.size, e.key, .s (List.map encEntrant e.entrants), .s (List.map encInt e.gone), e.segment, .s (List.map encInt e.order), .s (List.map encResult e.results)]), (22, .row 2 (List.map encEntrant (v30 ++ [y2]))), (24, .row 1 (List.map encInt (v31 ++ [y2.skater]))), (26, .row 1 (List.map encInt (v32 ++ [x44])))], 68, []⟩ : St))) ?_
 refine AW.region ?_
 refine AO.val rfl rfl (ar_ok rfl rfl rfl rfl (inI_succ hlt6 hb5)) ?_
 refine AO.pu T ?_
 refine AO.nil ?_
 refine ⟨(k1 + 1, (v30 ++ [y2]), (v31 ++ [y2.skater]), (v32 ++ [x44])), ⟨Nat.succ_le_of_lt hlt6, (by rw [drop_succ_of hd4]; exact hH)⟩, (by have := hlt6; dsimp only; omega), ?_⟩
 refine Le.trans (Le.ct 22 11 (σ' := (⟨[(1, .p 1 0), (4, .R 11), (5, .R 24), (6, .R 26), (13, .s (List.map encEntrant e.entrants)), (14, (e.entrants.length : Int)), (15, ((k1 + 1 : Nat) : Int))], [(1, .box [e.segments, e.size, e.key, .s (List.map encEntrant e.entrants), .s (List.map encInt e.gone), e.segment, .s (List.map encInt e.order), .s (List.map encResult e.results)]), (11, .row 2 (List.map encEntrant (v30 ++ [y2]))), (24, .row 1 (List.map encInt (v31 ++ [y2.skater]))), (26, .row 1 (List.map encInt (v32 ++ [x44])))], 68, []⟩ : St))) ?_
 refine Le.trans (Le.ct 24 13 (σ' := (⟨[(1, .p 1 0), (4, .R 11), (5, .R 13), (6, .R 26), (13, .s (List.map encEntrant e.entrants)), (14, (e.entrants.length : Int)), (15, ((k1 + 1 : Nat) : Int))], [(1, .box [e.segments, e.size, e.key, .s (List.map encEntrant e.entrants), .s (List.map encInt e.gone), e.segment, .s (List.map encInt e.order), .s (List.map encResult e.results)]), (11, .row 2 (List.map encEntrant (v30 ++ [y2]))), (13, .row 1 (List.map encInt (v31 ++ [y2.skater]))), (26, .row 1 (List.map encInt (v32 ++ [x44])))], 68, []⟩ : St))) ?_
 exact Le.ct 26 15
 replace hH := condF hc hH
 refine AW.skip ?_
 refine AW.region ?_
 refine AO.val rfl rfl (ar_ok rfl rfl rfl rfl (inI_succ hlt6 hb5)) ?_
 refine AO.pu T ?_
 refine AO.nil ?_
 refine ⟨(k1 + 1, v30, v31, v32), ⟨Nat.succ_le_of_lt hlt6, (by rw [drop_succ_of hd4]; exact hH)⟩, (by have := hlt6; dsimp only; omega), ?_⟩
 exact Le.ct 0 0

def impl_BeginSegment_p (fuel : Nat) (e : Event) : Option (Event × Bool) :=
  (impl_isRunning_p e).bind fun x1 =>
  cond ((!x1) || decide ((e.order.length : Int) > 0))
    (some ((Event.mk 0 0 0 [] [] 0 [] []), false))
    ((impl_drawOf_p fuel e).bind fun x3 =>
    cond (!x3.2)
      (some ((Event.mk 0 0 0 [] [] 0 [] []), false))
      ((impl_copyEvent_p e).bind fun x5 =>
      some ((Event.mk x5.segments x5.size x5.key x5.entrants x5.gone x5.segment x3.1 x5.results), true)))
theorem impl_BeginSegment_ok (fuel : Nat) (e : Event) (r : (Event × Bool)) (hH : impl_BeginSegment_p fuel e = some r) : SpecR Tryz.prog 18 [.g (encEvent e)] (.t [.g (encEventO r.1), .v (.bool r.2)]) := by
 refine fn_ok T Tryz.func18 rfl (by decide) rfl ?_
 refine AW.seq (AW.region ?_)
 refine AO.step rfl (box_ok T rfl 1 rfl rfl rfl rfl) ?_
 refine AO.step rfl (alloc_ok T rfl 2 rfl rfl rfl rfl rfl) ?_
 refine AO.pu T ?_
 refine AO.nil ?_
 iterate 2 refine AW.seq ?_
 obtain ⟨x1, hx2, hH⟩ := bindE hH
 refine AW.region ?_
 refine AO.pu T (d := .g [e.segments, e.size, e.key, .s (List.map encEntrant e.entrants), .s (List.map encInt e.gone), e.segment, .s (List.map encInt e.order), .s (List.map encResult e.results)]) ?_
 refine AO.val rfl rfl (callV_ok rfl rfl rfl rfl (impl_isRunning_ok _ _ (hx2)) rfl) ?_
 iterate 2 refine AO.pu T ?_
 refine AO.pureG T [] rfl trivial rfl rfl ?_
 refine AO.pureG T [11] rfl ⟨fun h => h, trivial⟩ rfl rfl ?_
 refine AO.guard [12] rfl ⟨fun h => h, trivial⟩ (fun hg => len_map_ok T rfl rfl rfl) rfl ?_
 refine AO.pureG T [13] rfl ⟨fun h => h, trivial⟩ rfl rfl ?_
 refine AO.val rfl rfl (pick_or rfl rfl rfl rfl) ?_
 refine AO.nil ?_
 refine AW.cond (b := ((!x1) || decide ((e.order.length : Int) > 0))) rfl (fun hc => ?_) (fun hc => ?_)
 replace hH := condT hc hH
 refine AW.seq (AW.region ?_)
 refine AO.pu T (d := .g [(0 : Int), (0 : Int), (0 : Int), .w 0 [], .w 0 [], (0 : Int), .w 0 [], .w 0 []]) ?_
 refine AO.se T [(0 : Int), (0 : Int), (0 : Int), .w 0 [], .w 0 [], (0 : Int), .w 0 [], .w 0 []] ?_
 refine AO.pu T ?_
 refine AO.nil (AW.ret ?_)
 cases someE hH
 exact retQ.i [] rfl (.t (expLG_cons (.g (expLC_cons .v (expLC_cons .v (expLC_cons .v (expLC_cons .nil (expLC_cons .nil (expLC_cons .v (expLC_cons .nil (expLC_cons .nil (expLC_nil)))))))))) (expLG_cons (.c .v) (expLG_nil))))
 replace hH := condF hc hH
 refine AW.skip ?_
 refine AW.seq ?_
 obtain ⟨x3, hx4, hH⟩ := bindE hH
 refine AW.region ?_
 refine AO.pu T (d := .g [e.segments, e.size, e.key, .s (List.map encEntrant e.entrants), .s (List.map encInt e.gone), e.segment, .s (List.map encInt e.order), .s (List.map encResult e.results)]) ?_
 refine AO.step rfl (call_ok rfl 3 rfl rfl rfl (impl_drawOf_ok fuel _ _ (hx4)) rfl rfl rfl) ?_
 iterate 5 refine AO.pu T ?_
 refine AO.nil ?_
 iterate 2 refine AW.seq ?_
 refine AW.region ?_
 iterate 2 refine AO.pu T ?_
 refine AO.nil ?_
 refine AW.cond (b := (!x3.2)) rfl (fun hc => ?_) (fun hc => ?_)
 replace hH := condT hc hH
 refine AW.seq (AW.region ?_)
 refine AO.pu T (d := .g [(0 : Int), (0 : Int), (0 : Int), .w 0 [], .w 0 [], (0 : Int), .w 0 [], .w 0 []]) ?_
 refine AO.se T [(0 : Int), (0 : Int), (0 : Int), .w 0 [], .w 0 [], (0 : Int), .w 0 [], .w 0 []] ?_
 refine AO.pu T ?_
 refine AO.nil ?_
 refine AW.le (Le.ct 0 0 (σ' := (⟨[(2, .p 2 0), (3, .v (.bool false))], [(2, .box [(0 : Int), (0 : Int), (0 : Int), .w 0 [], .w 0 [], (0 : Int), .w 0 [], .w 0 []])], 30, []⟩ : St))) ?_
 refine AW.ret ?_
 cases someE hH
 exact retQ.i [] rfl (.t (expLG_cons (.g (expLC_cons .v (expLC_cons .v (expLC_cons .v (expLC_cons .nil (expLC_cons .nil (expLC_cons .v (expLC_cons .nil (expLC_cons .nil (expLC_nil)))))))))) (expLG_cons (.c .v) (expLG_nil))))
 replace hH := condF hc hH
 refine AW.skip ?_
 refine AW.seq ?_
 obtain ⟨x5, hx6, hH⟩ := bindE hH
 refine AW.region ?_
 refine AO.pu T (d := .g [e.segments, e.size, e.key, .s (List.map encEntrant e.entrants), .s (List.map encInt e.gone), e.segment, .s (List.map encInt e.order), .s (List.map encResult e.results)]) ?_
 refine AO.step rfl (call_ok rfl 4 rfl rfl rfl (impl_copyEvent_ok _ _ (hx6)) rfl rfl rfl) ?_
 refine AO.step rfl (alloc_ok T rfl 8 rfl rfl rfl rfl rfl) ?_
 refine AO.se T [x5.segments, x5.size, x5.key, .R 4, .R 5, x5.segment, .R 6, .R 7] ?_
 refine AO.nil ?_
 refine AW.le (Le.ct 0 0 (σ' := (⟨[(2, .p 2 0), (4, .R 3), (6, .p 8 0)], [(2, .box [(0 : Int), (0 : Int), (0 : Int), .w 0 [], .w 0 [], (0 : Int), .w 0 [], .w 0 []]), (3, .row 1 (List.map encInt x3.1)), (4, .row 2 (List.map encEntrant x5.entrants)), (5, .row 1 (List.map encInt x5.gone)), (6, .row 1 (List.map encInt x5.order)), (7, .row 2 (List.map encResultO x5.results)), (8, .box [x5.segments, x5.size, x5.key, .R 4, .R 5, x5.segment, .R 6, .R 7])], 30, []⟩ : St))) ?_
 refine AW.seq (AW.region ?_)
 iterate 2 refine AO.pu T ?_
 refine AO.se T [x5.segments, x5.size, x5.key, .R 4, .R 5, x5.segment, .R 3, .R 7] ?_
 refine AO.nil (AW.seq ?_)
 refine AW.region ?_
 refine AO.pu T (d := .g [x5.segments, x5.size, x5.key, .R 4, .R 5, x5.segment, .R 3, .R 7]) ?_
 refine AO.se T [x5.segments, x5.size, x5.key, .R 4, .R 5, x5.segment, .R 3, .R 7] ?_
 refine AO.pu T ?_
 refine AO.nil (AW.ret ?_)
 cases someE hH
 exact retQ.i [4, 5, 3, 7] rfl (.t (expLG_cons (.g (expLC_cons .v (expLC_cons .v (expLC_cons .v (expLC_cons (.rowR rfl) (expLC_cons (.rowR rfl) (expLC_cons .v (expLC_cons (.rowR rfl) (expLC_cons (.rowR rfl) (expLC_nil)))))))))) (expLG_cons (.c .v) (expLG_nil))))

def impl_nextSkater_l1 (e : Event) : List Int → Nat → Option Int
  | [], k1 =>
    some 0
  | y2 :: ys3, k1 =>
    (impl_isScored_p e y2).bind fun x12 =>
    cond (!x12)
      (some y2)
      (impl_nextSkater_l1 e ys3 (k1 + 1))
def impl_nextSkater_p (e : Event) : Option Int :=
  impl_nextSkater_l1 e e.order 0
theorem impl_nextSkater_ok (e : Event) (r : Int) (hH : impl_nextSkater_p e = some r) : SpecR Tryz.prog 80 [.g (encEvent e)] (.v (.int .i64 r)) := by
 refine fn_ok T Tryz.func80 rfl (by decide) rfl ?_
 refine AW.seq (AW.region ?_)
 refine AO.step rfl (box_ok T rfl 1 rfl rfl rfl rfl) ?_
 refine AO.pu T ?_
 refine AO.nil ?_
 iterate 2 refine AW.seq ?_
 refine AW.region ?_
 iterate 2 refine AO.pu T ?_
 refine AO.val rfl rfl (len_map_ok T rfl rfl rfl) ?_
 refine AO.pu T ?_
 refine AO.nil ?_
 refine AW.block ?_
 refine AW.loopS (fun s : Nat => (⟨[(1, .p 1 0), (6, .s (List.map encInt e.order)), (7, (e.order.length : Int)), (8, (s : Int))], [(1, .box [e.segments, e.size, e.key, .s (List.map encEntrant e.entrants), .s (List.map encInt e.gone), e.segment, .s (List.map encInt e.order), .s (List.map encResult e.results)])], 18, []⟩ : St)) (fun s => s ≤ e.order.length ∧ impl_nextSkater_l1 e (e.order.drop s) s = some r) (fun s => e.order.length - s) 0 ⟨Nat.zero_le _, hH⟩ ?_ ?_
 exact Le.ct 0 0
 rintro k1 ⟨hk, hH⟩
 replace hH : impl_nextSkater_l1 e (e.order.drop k1) k1 = some r := hH
 try dsimp only
 refine AW.boundM (t := 6) (l := e.order) rfl (fun hb5 => ?_)
 rcases hd4 : e.order.drop k1 with _ | ⟨y2, ys3⟩
 rw [hd4, impl_nextSkater_l1] at hH
 have hlt6 := drop_ge hd4
 refine AW.seq (AW.region ?_)
 refine AO.pu T ?_
 refine AO.nil (AW.seq ?_)
 refine AW.condF' (b := decide ((k1 : Int) < (e.order.length : Int))) rfl (rngF hlt6) ?_
 refine AW.exit ?_
 refine AW.seq (AW.region ?_)
 refine AO.pu T ?_
 refine AO.nil (AW.ret ?_)
 cases someE hH
 exact retQ.i [] rfl (.c (.c .v))
 rw [hd4, impl_nextSkater_l1] at hH
 have hlt6 := drop_lt hd4
 refine AW.seq (AW.region ?_)
 refine AO.pu T ?_
 refine AO.nil (AW.seq ?_)
 refine AW.condT' (b := decide ((k1 : Int) < (e.order.length : Int))) rfl (rngT hlt6) ?_
 refine AW.skip ?_
 refine AW.seq ?_
 refine AW.block ?_
 refine AW.seq (AW.region ?_)
 refine AO.val rfl rfl (ix_map_ok T rfl rfl rfl rfl rfl (getI_drop hd4) rfl) ?_
 iterate 2 refine AO.pu T ?_
 refine AO.nil (AW.seq ?_)
 obtain ⟨x12, hx13, hH⟩ := bindE hH
 refine AW.region ?_
 refine AO.pu T (d := .g [e.segments, e.size, e.key, .s (List.map encEntrant e.entrants), .s (List.map encInt e.gone), e.segment, .s (List.map encInt e.order), .s (List.map encResult e.results)]) ?_
 refine AO.pu T ?_
 refine AO.val rfl rfl (callV_ok rfl rfl rfl rfl (impl_isScored_ok _ _ _ (hx13)) rfl) ?_
 refine AO.pu T ?_
 refine AO.nil ?_
 refine AW.cond (b := (!x12)) rfl (fun hc => ?_) (fun hc => ?_)
 replace hH := condT hc hH
 refine AW.seq (AW.region ?_)
 iterate 2 refine AO.pu T ?_
 refine AO.nil (AW.ret ?_)
 cases someE hH
 exact retQ.i [] rfl (.c (.c .v))
 replace hH := condF hc hH
 refine AW.skip ?_
 refine AW.region ?_
 refine AO.val rfl rfl (ar_ok rfl rfl rfl rfl (inI_succ hlt6 hb5)) ?_
 refine AO.pu T ?_
 refine AO.nil ?_
 refine ⟨k1 + 1, ⟨Nat.succ_le_of_lt hlt6, (by rw [drop_succ_of hd4]; exact hH)⟩, (by have := hlt6; dsimp only; omega), ?_⟩
 exact Le.ct 0 0

def impl_GiveScore_l1 (e : Event) (score : Int) (x5 : Event) (x7 : Int) : Nat → List Result → List Result → Int → Option ((Event × Bool))
  | 0, _, _, _ => none
  | k9 + 1, v25, v26, v27 =>
    cond (decide (v27 < (x5.results.length : Int)))
      ((getI v26 v27).bind fun x29 =>
      cond (x29.skater == x7)
        ((getI (v26.set v27.toNat x29) v27).bind fun x31 =>
        (getI x31.scores e.segment).bind fun x33 =>
        impl_GiveScore_l1 e score x5 x7 k9 ((v26.set v27.toNat x29).set v27.toNat (Result.mk x31.skater (x31.scores.set e.segment.toNat score))) ((v26.set v27.toNat x29).set v27.toNat (Result.mk x31.skater (x31.scores.set e.segment.toNat score))) (w64 (v27 + 1)))
        (impl_GiveScore_l1 e score x5 x7 k9 (v26.set v27.toNat x29) (v26.set v27.toNat x29) (w64 (v27 + 1))))
      ((impl_behindStep_p (Event.mk x5.segments x5.size x5.key x5.entrants x5.gone x5.segment x5.order v26)).bind fun x35 =>
      some (x35, true))
def impl_GiveScore_p (fuel : Nat) (e : Event) (score : Int) : Option (Event × Bool) :=
  (impl_isRunning_p e).bind fun x1 =>
  (opt (!((!x1) || ((e.order.length : Int) == 0))) default (impl_within_p score 0 100000)).bind fun x3 =>
  cond (((!x1) || ((e.order.length : Int) == 0)) || (!x3))
    (some ((Event.mk 0 0 0 [] [] 0 [] []), false))
    ((impl_copyEvent_p e).bind fun x5 =>
    (impl_nextSkater_p e).bind fun x7 =>
    impl_GiveScore_l1 e score x5 x7 fuel x5.results x5.results 0)
theorem impl_GiveScore_ok (fuel : Nat) (e : Event) (score : Int) (r : (Event × Bool)) (hH : impl_GiveScore_p fuel e score = some r) : SpecR Tryz.prog 35 [.g (encEvent e), score] (.t [.g (encEventO r.1), .v (.bool r.2)]) := by
 refine fn_ok T Tryz.func35 rfl (by decide) rfl ?_
 refine AW.seq (AW.region ?_)
 refine AO.step rfl (box_ok T rfl 1 rfl rfl rfl rfl) ?_
 refine AO.step rfl (alloc_ok T rfl 2 rfl rfl rfl rfl rfl) ?_
 refine AO.pu T ?_
 refine AO.nil ?_
 iterate 2 refine AW.seq ?_
 obtain ⟨x1, hx2, hH⟩ := bindE hH
 obtain ⟨x3, hx4, hH⟩ := bindE hH
 refine AW.region ?_
 refine AO.pu T (d := .g [e.segments, e.size, e.key, .s (List.map encEntrant e.entrants), .s (List.map encInt e.gone), e.segment, .s (List.map encInt e.order), .s (List.map encResult e.results)]) ?_
 refine AO.val rfl rfl (callV_ok rfl rfl rfl rfl (impl_isRunning_ok _ _ (hx2)) rfl) ?_
 iterate 2 refine AO.pu T ?_
 refine AO.pureG T [] rfl trivial rfl rfl ?_
 refine AO.pureG T [14] rfl ⟨fun h => h, trivial⟩ rfl rfl ?_
 refine AO.guard [15] rfl ⟨fun h => h, trivial⟩ (fun hg => len_map_ok T rfl rfl rfl) rfl ?_
 refine AO.pureG T [16] rfl ⟨fun h => h, trivial⟩ rfl rfl ?_
 refine AO.val rfl rfl (pick_or rfl rfl rfl rfl) ?_
 refine AO.pu T ?_
 refine AO.pureG T [] rfl trivial rfl rfl ?_
 refine AO.guard [20] rfl ⟨fun h => h, trivial⟩ (fun hg => callV_ok rfl rfl rfl rfl (impl_within_ok _ _ _ _ (optT hx4 hg)) rfl) rfl ?_
 refine AO.pureG T [21] rfl ⟨fun h => h, trivial⟩ rfl rfl ?_
 refine AO.val rfl rfl (pick_or rfl rfl rfl rfl) ?_
 refine AO.nil ?_
 refine AW.cond (b := (((!x1) || ((e.order.length : Int) == 0)) || (!x3))) rfl (fun hc => ?_) (fun hc => ?_)
 replace hH := condT hc hH
 refine AW.seq (AW.region ?_)
 refine AO.pu T (d := .g [(0 : Int), (0 : Int), (0 : Int), .w 0 [], .w 0 [], (0 : Int), .w 0 [], .w 0 []]) ?_
 refine AO.se T [(0 : Int), (0 : Int), (0 : Int), .w 0 [], .w 0 [], (0 : Int), .w 0 [], .w 0 []] ?_
 refine AO.pu T ?_
 refine AO.nil (AW.ret ?_)
 cases someE hH
 exact retQ.i [] rfl (.t (expLG_cons (.g (expLC_cons .v (expLC_cons .v (expLC_cons .v (expLC_cons .nil (expLC_cons .nil (expLC_cons .v (expLC_cons .nil (expLC_cons .nil (expLC_nil)))))))))) (expLG_cons (.c .v) (expLG_nil))))
 replace hH := condF hc hH
 refine AW.skip ?_
 refine AW.seq ?_
 obtain ⟨x5, hx6, hH⟩ := bindE hH
 obtain ⟨x7, hx8, hH⟩ := bindE hH
 refine AW.drawn 5 3 [] mix (by kernel_rfl) rfl ?_
 refine AD.pure T (d := .g [e.segments, e.size, e.key, .s (List.map encEntrant e.entrants), .s (List.map encInt e.gone), e.segment, .s (List.map encInt e.order), .s (List.map encResult e.results)]) rfl rfl rfl ?_
 refine AD.q (FStep.call rfl rfl rfl rfl rfl (impl_copyEvent_ok _ _ (hx6)) rfl rfl) (impT_names _ _) (impT_le _ _) rfl ?_
 refine AD.pure T (d := .g [e.segments, e.size, e.key, .s (List.map encEntrant e.entrants), .s (List.map encInt e.gone), e.segment, .s (List.map encInt e.order), .s (List.map encResult e.results)]) rfl rfl rfl ?_
 refine AD.val rfl rfl (callV_ok rfl rfl rfl rfl (impl_nextSkater_ok _ _ (hx8)) rfl) ?_
 refine AD.q (FStep.alloc T rfl rfl rfl rfl rfl rfl) (by simp [namesIn]) (Nat.le_succ _) rfl ?_
 refine AD.nil ?_
 refine AO.se T [x5.segments, x5.size, x5.key, .R 3, .R 4, x5.segment, .R 5, .R 6] ?_
 refine AO.pu T ?_
 refine AO.nil ?_
 refine AW.le (Le.ct 0 0 (σ' := (⟨[(1, score), (2, .p 1 0), (4, .p 2 0), (6, .p 7 0), (7, x7)], [(1, .box [e.segments, e.size, e.key, .s (List.map encEntrant e.entrants), .s (List.map encInt e.gone), e.segment, .s (List.map encInt e.order), .s (List.map encResult e.results)]), (2, .box [(0 : Int), (0 : Int), (0 : Int), .w 0 [], .w 0 [], (0 : Int), .w 0 [], .w 0 []]), (3, .row 2 (List.map encEntrant x5.entrants)), (4, .row 1 (List.map encInt x5.gone)), (5, .row 1 (List.map encInt x5.order)), (6, .row 2 (List.map encResultO x5.results)), (7, .box [x5.segments, x5.size, x5.key, .R 3, .R 4, x5.segment, .R 5, .R 6])], 54, []⟩ : St))) ?_
 iterate 2 refine AW.seq ?_
 refine AW.region ?_
 iterate 2 refine AO.pu T ?_
 refine AO.val rfl rfl (len_row_ok T rfl rfl rfl rfl) ?_
 refine AO.pu T ?_
 refine AO.nil ?_
 refine AW.block ?_
 refine AW.loopS (fun s : Nat × (List Result) × (List Result) × Int => (⟨[(1, score), (2, .p 1 0), (4, .p 2 0), (6, .p 7 0), (7, x7), (30, .R 6), (31, (x5.results.length : Int)), (32, s.2.2.2)], [(1, .box [e.segments, e.size, e.key, .s (List.map encEntrant e.entrants), .s (List.map encInt e.gone), e.segment, .s (List.map encInt e.order), .s (List.map encResult e.results)]), (2, .box [(0 : Int), (0 : Int), (0 : Int), .w 0 [], .w 0 [], (0 : Int), .w 0 [], .w 0 []]), (3, .row 2 (List.map encEntrant x5.entrants)), (4, .row 1 (List.map encInt x5.gone)), (5, .row 1 (List.map encInt x5.order)), (6, .row 2 (List.map encResultO s.2.2.1)), (7, .box [x5.segments, x5.size, x5.key, .R 3, .R 4, x5.segment, .R 5, .R 6])], 54, []⟩ : St)) (fun s => impl_GiveScore_l1 e score x5 x7 s.1 s.2.1 s.2.2.1 s.2.2.2 = some r) (fun s => s.1) (fuel, x5.results, x5.results, 0) hH ?_ ?_
 exact Le.ct 0 0
 rintro ⟨k9, v25, v26, v27⟩ hH
 replace hH : impl_GiveScore_l1 e score x5 x7 k9 v25 v26 v27 = some r := hH
 try dsimp only
 rcases k9 with _ | k9
 cases (show none = some _ from hH)
 rw [impl_GiveScore_l1] at hH
 refine AW.seq (AW.region ?_)
 refine AO.pu T ?_
 refine AO.nil (AW.seq ?_)
 refine AW.cond (b := decide (v27 < (x5.results.length : Int))) rfl (fun hc => ?_) (fun hc => ?_)
 replace hH := condT hc hH
 refine AW.skip ?_
 refine AW.seq ?_
 refine AW.block ?_
 refine AW.seq ?_
 obtain ⟨x29, hx30, hH⟩ := bindE hH
 refine AW.le (Le.openM 6 v27.toNat 1 14 rfl (getI_get (hx30)) rfl rfl) ?_
 refine AW.region ?_
 refine AO.pu T ?_
 refine AO.val rfl rfl (ix_lent_ok T rfl rfl rfl rfl rfl rfl (hx30)) ?_
 refine AO.val rfl rfl (load_lentS_ok T rfl rfl rfl rfl rfl (getI_get (hx30)) rfl rfl rfl) ?_
 refine AO.step rfl (alloc_ok T rfl 15 rfl rfl rfl rfl rfl) ?_
 refine AO.pu T ?_
 refine AO.se T [x29.skater, .R 14] ?_
 refine AO.nil (AW.seq ?_)
 refine AW.region ?_
 iterate 4 refine AO.pu T ?_
 refine AO.le (Le.closeM 6 v27.toNat 1 14 rfl rfl (getI_get (hx30)) rfl (u' := x29) rfl) ?_
 refine AO.nil ?_
 refine AW.cond (b := (x29.skater == x7)) rfl (fun hc => ?_) (fun hc => ?_)
 replace hH := condT hc hH
 obtain ⟨x31, hx32, hH⟩ := bindE hH
 obtain ⟨x33, hx34, hH⟩ := bindE hH
 refine AW.le (Le.openM 6 v27.toNat 1 16 rfl (getI_get (hx32)) rfl rfl) ?_
 refine AW.drawn 9 17 [] mix (by kernel_rfl) rfl ?_
 iterate 3 refine AD.pure T rfl rfl rfl ?_
 refine AD.val rfl rfl (ix_lent_ok T rfl rfl rfl rfl rfl rfl (hx32)) ?_
 refine AD.pure T rfl rfl rfl ?_
 refine AD.val rfl rfl (load_lent_ok T rfl rfl rfl rfl rfl) ?_
 iterate 3 refine AD.pure T rfl rfl rfl ?_
 refine AD.nil ?_
 refine AO.val rfl rfl (ix_row_ok T rfl rfl rfl rfl rfl rfl (hx34)) ?_
 refine AO.step rfl (store_row_ok T rfl rfl rfl rfl rfl (getI_get (hx34)) rfl rfl rfl rfl (u' := score) rfl rfl) ?_
 refine AO.le (Le.closeM 6 v27.toNat 1 16 rfl rfl (getI_get (hx32)) rfl (u' := (Result.mk x31.skater (x31.scores.set e.segment.toNat score))) rfl) ?_
 refine AO.nil ?_
 refine AW.region ?_
 refine AO.val rfl rfl (arw_ok rfl rfl rfl rfl) ?_
 refine AO.pu T ?_
 refine AO.nil ?_
 refine ⟨(k9, ((v26.set v27.toNat x29).set v27.toNat (Result.mk x31.skater (x31.scores.set e.segment.toNat score))), ((v26.set v27.toNat x29).set v27.toNat (Result.mk x31.skater (x31.scores.set e.segment.toNat score))), w64 (v27 + 1)), hH, Nat.lt_succ_self _, ?_⟩
 exact Le.ct 0 0
 replace hH := condF hc hH
 refine AW.skip ?_
 refine AW.region ?_
 refine AO.val rfl rfl (arw_ok rfl rfl rfl rfl) ?_
 refine AO.pu T ?_
 refine AO.nil ?_
 refine ⟨(k9, (v26.set v27.toNat x29), (v26.set v27.toNat x29), w64 (v27 + 1)), hH, Nat.lt_succ_self _, ?_⟩
 exact Le.ct 0 0
 replace hH := condF hc hH
 refine AW.exit ?_
 refine AW.seq ?_
 obtain ⟨x35, hx36, hH⟩ := bindE hH
 refine AW.region ?_
 refine AO.pu T (d := .g [x5.segments, x5.size, x5.key, .R 3, .R 4, x5.segment, .R 5, .R 6]) ?_
 refine AO.step rfl (callM_ok rfl 17 rfl rfl (es := [.g (encEventO (Event.mk x5.segments x5.size x5.key x5.entrants x5.gone x5.segment x5.order v26))]) (outs := [.u]) (ids := [3, 4, 5, 6]) (by exact expLG_cons (.g (expLC_cons .v (expLC_cons .v (expLC_cons .v (expLC_cons (.rowR rfl) (expLC_cons (.rowR rfl) (expLC_cons .v (expLC_cons (.rowR rfl) (expLC_cons (.rowR rfl) (expLC_nil)))))))))) (expLG_nil)) (by decide) (.inr (by exact (show ([] : List Nat).Nodup ∧ ∀ i ∈ ([] : List Nat), i ∈ ([3, 4, 5, 6] : List Nat) from by decide))) (by rfl) (impl_behindStep_ok _ _ (hx36)) rfl (by rfl) rfl) ?_
 refine AO.se T [x35.segments, x35.size, x35.key, .R 17, .R 18, x35.segment, .R 19, .R 20] ?_
 refine AO.pu T ?_
 refine AO.nil (AW.ret ?_)
 cases someE hH
 exact retQ.i [17, 18, 19, 20] rfl (.t (expLG_cons (.g (expLC_cons .v (expLC_cons .v (expLC_cons .v (expLC_cons (.rowR rfl) (expLC_cons (.rowR rfl) (expLC_cons .v (expLC_cons (.rowR rfl) (expLC_cons (.rowR rfl) (expLC_nil)))))))))) (expLG_cons (.c .v) (expLG_nil))))

def impl_doStep_p (fuel : Nat) (e : Event) (x : Step) : Option (Event × Bool) :=
  cond (x.kind == 1)
    ((impl_EnterSkater_p fuel e (Entrant.mk x.skater x.number)).bind fun x1 =>
    some ((Event.mk x1.1.segments x1.1.size x1.1.key x1.1.entrants x1.1.gone x1.1.segment x1.1.order x1.1.results), x1.2))
    (cond (x.kind == 2)
      ((impl_LeaveEvent_p e x.skater).bind fun x3 =>
      some ((Event.mk x3.1.segments x3.1.size x3.1.key x3.1.entrants x3.1.gone x3.1.segment x3.1.order x3.1.results), x3.2))
      (cond (x.kind == 3)
        ((impl_BeginSegment_p fuel e).bind fun x5 =>
        some ((Event.mk x5.1.segments x5.1.size x5.1.key x5.1.entrants x5.1.gone x5.1.segment x5.1.order x5.1.results), x5.2))
        (cond (x.kind == 4)
          ((impl_GiveScore_p fuel e x.number).bind fun x7 =>
          some ((Event.mk x7.1.segments x7.1.size x7.1.key x7.1.entrants x7.1.gone x7.1.segment x7.1.order x7.1.results), x7.2))
          (some ((Event.mk 0 0 0 [] [] 0 [] []), false)))))
theorem impl_doStep_ok (fuel : Nat) (e : Event) (x : Step) (r : (Event × Bool)) (hH : impl_doStep_p fuel e x = some r) : SpecR Tryz.prog 77 [.g (encEvent e), .g (encStep x)] (.t [.g (encEventO r.1), .v (.bool r.2)]) := by
 refine fn_ok T Tryz.func77 rfl (by decide) rfl ?_
 refine AW.seq (AW.region ?_)
 refine AO.step rfl (box_ok T rfl 1 rfl rfl rfl rfl) ?_
 refine AO.step rfl (box_ok T rfl 2 rfl rfl rfl rfl) ?_
 refine AO.step rfl (alloc_ok T rfl 3 rfl rfl rfl rfl rfl) ?_
 refine AO.pu T ?_
 refine AO.nil ?_
 iterate 2 refine AW.seq ?_
 refine AW.region ?_
 iterate 2 refine AO.pu T ?_
 refine AO.nil ?_
 refine AW.block ?_
 refine AW.seq (AW.region ?_)
 iterate 2 refine AO.pu T ?_
 refine AO.nil ?_
 refine AW.cond (b := (x.kind == 1)) rfl (fun hc => ?_) (fun hc => ?_)
 replace hH := condT hc hH
 refine AW.seq ?_
 obtain ⟨x1, hx2, hH⟩ := bindE hH
 refine AW.region ?_
 refine AO.pu T (d := .g [e.segments, e.size, e.key, .s (List.map encEntrant e.entrants), .s (List.map encInt e.gone), e.segment, .s (List.map encInt e.order), .s (List.map encResult e.results)]) ?_
 iterate 4 refine AO.pu T ?_
 refine AO.pu T (d := .g [x.skater, x.number]) ?_
 refine AO.step rfl (call_ok rfl 4 rfl rfl rfl (impl_EnterSkater_ok fuel _ _ _ (hx2)) rfl rfl rfl) ?_
 refine AO.pu T (d := .g [x1.1.segments, x1.1.size, x1.1.key, .R 4, .R 5, x1.1.segment, .R 6, .R 7]) ?_
 refine AO.pu T ?_
 refine AO.se T [x1.1.segments, x1.1.size, x1.1.key, .R 4, .R 5, x1.1.segment, .R 6, .R 7] ?_
 refine AO.pu T ?_
 refine AO.nil (AW.ret ?_)
 cases someE hH
 exact retQ.i [4, 5, 6, 7] rfl (.t (expLG_cons (.g (expLC_cons .v (expLC_cons .v (expLC_cons .v (expLC_cons (.rowR rfl) (expLC_cons (.rowR rfl) (expLC_cons .v (expLC_cons (.rowR rfl) (expLC_cons (.rowR rfl) (expLC_nil)))))))))) (expLG_cons (.c .v) (expLG_nil))))
 replace hH := condF hc hH
 refine AW.seq (AW.region ?_)
 iterate 2 refine AO.pu T ?_
 refine AO.nil ?_
 refine AW.cond (b := (x.kind == 2)) rfl (fun hc => ?_) (fun hc => ?_)
 replace hH := condT hc hH
 refine AW.seq ?_
 obtain ⟨x3, hx4, hH⟩ := bindE hH
 refine AW.region ?_
 refine AO.pu T (d := .g [e.segments, e.size, e.key, .s (List.map encEntrant e.entrants), .s (List.map encInt e.gone), e.segment, .s (List.map encInt e.order), .s (List.map encResult e.results)]) ?_
 iterate 2 refine AO.pu T ?_
 refine AO.step rfl (call_ok rfl 8 rfl rfl rfl (impl_LeaveEvent_ok _ _ _ (hx4)) rfl rfl rfl) ?_
 refine AO.pu T (d := .g [x3.1.segments, x3.1.size, x3.1.key, .R 8, .R 9, x3.1.segment, .R 10, .R 11]) ?_
 refine AO.pu T ?_
 refine AO.se T [x3.1.segments, x3.1.size, x3.1.key, .R 8, .R 9, x3.1.segment, .R 10, .R 11] ?_
 refine AO.pu T ?_
 refine AO.nil (AW.ret ?_)
 cases someE hH
 exact retQ.i [8, 9, 10, 11] rfl (.t (expLG_cons (.g (expLC_cons .v (expLC_cons .v (expLC_cons .v (expLC_cons (.rowR rfl) (expLC_cons (.rowR rfl) (expLC_cons .v (expLC_cons (.rowR rfl) (expLC_cons (.rowR rfl) (expLC_nil)))))))))) (expLG_cons (.c .v) (expLG_nil))))
 replace hH := condF hc hH
 refine AW.seq (AW.region ?_)
 iterate 2 refine AO.pu T ?_
 refine AO.nil ?_
 refine AW.cond (b := (x.kind == 3)) rfl (fun hc => ?_) (fun hc => ?_)
 replace hH := condT hc hH
 refine AW.seq ?_
 obtain ⟨x5, hx6, hH⟩ := bindE hH
 refine AW.region ?_
 refine AO.pu T (d := .g [e.segments, e.size, e.key, .s (List.map encEntrant e.entrants), .s (List.map encInt e.gone), e.segment, .s (List.map encInt e.order), .s (List.map encResult e.results)]) ?_
 refine AO.step rfl (call_ok rfl 12 rfl rfl rfl (impl_BeginSegment_ok fuel _ _ (hx6)) rfl rfl rfl) ?_
 refine AO.pu T (d := .g [x5.1.segments, x5.1.size, x5.1.key, .R 12, .R 13, x5.1.segment, .R 14, .R 15]) ?_
 refine AO.pu T ?_
 refine AO.se T [x5.1.segments, x5.1.size, x5.1.key, .R 12, .R 13, x5.1.segment, .R 14, .R 15] ?_
 refine AO.pu T ?_
 refine AO.nil (AW.ret ?_)
 cases someE hH
 exact retQ.i [12, 13, 14, 15] rfl (.t (expLG_cons (.g (expLC_cons .v (expLC_cons .v (expLC_cons .v (expLC_cons (.rowR rfl) (expLC_cons (.rowR rfl) (expLC_cons .v (expLC_cons (.rowR rfl) (expLC_cons (.rowR rfl) (expLC_nil)))))))))) (expLG_cons (.c .v) (expLG_nil))))
 replace hH := condF hc hH
 refine AW.seq (AW.region ?_)
 iterate 2 refine AO.pu T ?_
 refine AO.nil ?_
 refine AW.cond (b := (x.kind == 4)) rfl (fun hc => ?_) (fun hc => ?_)
 replace hH := condT hc hH
 refine AW.seq ?_
 obtain ⟨x7, hx8, hH⟩ := bindE hH
 refine AW.region ?_
 refine AO.pu T (d := .g [e.segments, e.size, e.key, .s (List.map encEntrant e.entrants), .s (List.map encInt e.gone), e.segment, .s (List.map encInt e.order), .s (List.map encResult e.results)]) ?_
 iterate 2 refine AO.pu T ?_
 refine AO.step rfl (call_ok rfl 16 rfl rfl rfl (impl_GiveScore_ok fuel _ _ _ (hx8)) rfl rfl rfl) ?_
 refine AO.pu T (d := .g [x7.1.segments, x7.1.size, x7.1.key, .R 16, .R 17, x7.1.segment, .R 18, .R 19]) ?_
 refine AO.pu T ?_
 refine AO.se T [x7.1.segments, x7.1.size, x7.1.key, .R 16, .R 17, x7.1.segment, .R 18, .R 19] ?_
 refine AO.pu T ?_
 refine AO.nil (AW.ret ?_)
 cases someE hH
 exact retQ.i [16, 17, 18, 19] rfl (.t (expLG_cons (.g (expLC_cons .v (expLC_cons .v (expLC_cons .v (expLC_cons (.rowR rfl) (expLC_cons (.rowR rfl) (expLC_cons .v (expLC_cons (.rowR rfl) (expLC_cons (.rowR rfl) (expLC_nil)))))))))) (expLG_cons (.c .v) (expLG_nil))))
 replace hH := condF hc hH
 refine AW.skip ?_
 refine AW.seq (AW.region ?_)
 refine AO.pu T (d := .g [(0 : Int), (0 : Int), (0 : Int), .w 0 [], .w 0 [], (0 : Int), .w 0 [], .w 0 []]) ?_
 refine AO.se T [(0 : Int), (0 : Int), (0 : Int), .w 0 [], .w 0 [], (0 : Int), .w 0 [], .w 0 []] ?_
 refine AO.pu T ?_
 refine AO.nil (AW.ret ?_)
 cases someE hH
 exact retQ.i [] rfl (.t (expLG_cons (.g (expLC_cons .v (expLC_cons .v (expLC_cons .v (expLC_cons .nil (expLC_cons .nil (expLC_cons .v (expLC_cons .nil (expLC_cons .nil (expLC_nil)))))))))) (expLG_cons (.c .v) (expLG_nil))))

def impl_RunSteps_l1 (l : List Step) (fuel : Nat) : List Step → Nat → Int → Int → Int → List Entrant → List Int → Int → List Int → List Result → Option ((Event × Int × Bool))
  | [], k5, v23, v24, v25, v26, v27, v28, v29, v30 =>
    some ((Event.mk v23 v24 v25 v26 v27 v28 v29 v30), (l.length : Int), true)
  | y6 :: ys7, k5, v23, v24, v25, v26, v27, v28, v29, v30 =>
    (impl_doStep_p fuel (Event.mk v23 v24 v25 v26 v27 v28 v29 v30) y6).bind fun x32 =>
    cond (!x32.2)
      (some ((Event.mk v23 v24 v25 v26 v27 v28 v29 v30), (k5 : Int), true))
      (impl_RunSteps_l1 l fuel ys7 (k5 + 1) x32.1.segments x32.1.size x32.1.key x32.1.entrants x32.1.gone x32.1.segment x32.1.order x32.1.results)
def impl_RunSteps_p (fuel : Nat) (e : Event) (l : List Step) : Option (Event × Int × Bool) :=
  (impl_IsEvent_p e).bind fun x1 =>
  cond ((!x1) || decide ((l.length : Int) > 120))
    (some ((Event.mk 0 0 0 [] [] 0 [] []), 0, false))
    ((impl_copyEvent_p e).bind fun x3 =>
    impl_RunSteps_l1 l fuel l 0 x3.segments x3.size x3.key x3.entrants x3.gone x3.segment x3.order x3.results)
theorem impl_RunSteps_ok (fuel : Nat) (e : Event) (l : List Step) (r : (Event × Int × Bool)) (hH : impl_RunSteps_p fuel e l = some r) : SpecR Tryz.prog 23 [.g (encEvent e), .s (List.map encStep l)] (.t [.g (encEventO r.1), .v (.int .i64 r.2.1), .v (.bool r.2.2)]) := by
 refine fn_ok T Tryz.func23 rfl (by decide) rfl ?_
 refine AW.seq (AW.region ?_)
 refine AO.step rfl (box_ok T rfl 1 rfl rfl rfl rfl) ?_
 refine AO.step rfl (alloc_ok T rfl 2 rfl rfl rfl rfl rfl) ?_
 iterate 2 refine AO.pu T ?_
 refine AO.nil ?_
 iterate 2 refine AW.seq ?_
 obtain ⟨x1, hx2, hH⟩ := bindE hH
 refine AW.region ?_
 refine AO.pu T (d := .g [e.segments, e.size, e.key, .s (List.map encEntrant e.entrants), .s (List.map encInt e.gone), e.segment, .s (List.map encInt e.order), .s (List.map encResult e.results)]) ?_
 refine AO.val rfl rfl (callV_ok rfl rfl rfl rfl (impl_IsEvent_ok _ _ (hx2)) rfl) ?_
 iterate 2 refine AO.pu T ?_
 refine AO.pureG T [] rfl trivial rfl rfl ?_
 refine AO.guard [16] rfl ⟨fun h => h, trivial⟩ (fun hg => len_map_ok T rfl rfl rfl) rfl ?_
 refine AO.pureG T [17] rfl ⟨fun h => h, trivial⟩ rfl rfl ?_
 refine AO.val rfl rfl (pick_or rfl rfl rfl rfl) ?_
 refine AO.nil ?_
 refine AW.cond (b := ((!x1) || decide ((l.length : Int) > 120))) rfl (fun hc => ?_) (fun hc => ?_)
 replace hH := condT hc hH
 refine AW.seq (AW.region ?_)
 refine AO.pu T (d := .g [(0 : Int), (0 : Int), (0 : Int), .w 0 [], .w 0 [], (0 : Int), .w 0 [], .w 0 []]) ?_
 refine AO.se T [(0 : Int), (0 : Int), (0 : Int), .w 0 [], .w 0 [], (0 : Int), .w 0 [], .w 0 []] ?_
 iterate 2 refine AO.pu T ?_
 refine AO.nil (AW.ret ?_)
 cases someE hH
 exact retQ.i [] rfl (.t (expLG_cons (.g (expLC_cons .v (expLC_cons .v (expLC_cons .v (expLC_cons .nil (expLC_cons .nil (expLC_cons .v (expLC_cons .nil (expLC_cons .nil (expLC_nil)))))))))) (expLG_cons (.c .v) (expLG_cons (.c .v) (expLG_nil)))))
 replace hH := condF hc hH
 refine AW.skip ?_
 refine AW.seq ?_
 obtain ⟨x3, hx4, hH⟩ := bindE hH
 refine AW.region ?_
 refine AO.pu T (d := .g [e.segments, e.size, e.key, .s (List.map encEntrant e.entrants), .s (List.map encInt e.gone), e.segment, .s (List.map encInt e.order), .s (List.map encResult e.results)]) ?_
 refine AO.step rfl (call_ok rfl 3 rfl rfl rfl (impl_copyEvent_ok _ _ (hx4)) rfl rfl rfl) ?_
 refine AO.step rfl (alloc_ok T rfl 7 rfl rfl rfl rfl rfl) ?_
 refine AO.se T [x3.segments, x3.size, x3.key, .R 3, .R 4, x3.segment, .R 5, .R 6] ?_
 refine AO.nil ?_
 iterate 2 refine AW.seq ?_
 refine AW.region ?_
 refine AO.pu T ?_
 refine AO.val rfl rfl (len_map_ok T rfl rfl rfl) ?_
 refine AO.pu T ?_
 refine AO.nil ?_
 refine AW.block ?_
 refine AW.loopS (fun s : Nat × Int × Int × Int × (List Entrant) × (List Int) × Int × (List Int) × (List Result) => (⟨[(1, .s (List.map encStep l)), (4, .p 2 0), (7, .p 7 0), (23, .s (List.map encStep l)), (24, (l.length : Int)), (25, (s.1 : Int))], [(2, .box [(0 : Int), (0 : Int), (0 : Int), .w 0 [], .w 0 [], (0 : Int), .w 0 [], .w 0 []]), (3, .row 2 (List.map encEntrant s.2.2.2.2.1)), (4, .row 1 (List.map encInt s.2.2.2.2.2.1)), (5, .row 1 (List.map encInt s.2.2.2.2.2.2.2.1)), (6, .row 2 (List.map encResultO s.2.2.2.2.2.2.2.2)), (7, .box [s.2.1, s.2.2.1, s.2.2.2.1, .R 3, .R 4, s.2.2.2.2.2.2.1, .R 5, .R 6])], 45, []⟩ : St)) (fun s => s.1 ≤ l.length ∧ impl_RunSteps_l1 l fuel (l.drop s.1) s.1 s.2.1 s.2.2.1 s.2.2.2.1 s.2.2.2.2.1 s.2.2.2.2.2.1 s.2.2.2.2.2.2.1 s.2.2.2.2.2.2.2.1 s.2.2.2.2.2.2.2.2 = some r) (fun s => l.length - s.1) (0, x3.segments, x3.size, x3.key, x3.entrants, x3.gone, x3.segment, x3.order, x3.results) ⟨Nat.zero_le _, hH⟩ ?_ ?_
 exact Le.ct 0 0
 rintro ⟨k5, v23, v24, v25, v26, v27, v28, v29, v30⟩ ⟨hk, hH⟩
 replace hH : impl_RunSteps_l1 l fuel (l.drop k5) k5 v23 v24 v25 v26 v27 v28 v29 v30 = some r := hH
 try dsimp only
 refine AW.boundM (t := 1) (l := l) rfl (fun hb9 => ?_)
 rcases hd8 : l.drop k5 with _ | ⟨y6, ys7⟩
 rw [hd8, impl_RunSteps_l1] at hH
 have hlt10 := drop_ge hd8
 refine AW.seq (AW.region ?_)
 refine AO.pu T ?_
 refine AO.nil (AW.seq ?_)
 refine AW.condF' (b := decide ((k5 : Int) < (l.length : Int))) rfl (rngF hlt10) ?_
 refine AW.exit ?_
 refine AW.seq (AW.region ?_)
 refine AO.pu T (d := .g [v23, v24, v25, .R 3, .R 4, v28, .R 5, .R 6]) ?_
 refine AO.pu T ?_
 refine AO.val rfl rfl (len_map_ok T rfl rfl rfl) ?_
 refine AO.se T [v23, v24, v25, .R 3, .R 4, v28, .R 5, .R 6] ?_
 iterate 2 refine AO.pu T ?_
 refine AO.nil (AW.ret ?_)
 cases someE hH
 exact retQ.i [3, 4, 5, 6] rfl (.t (expLG_cons (.g (expLC_cons .v (expLC_cons .v (expLC_cons .v (expLC_cons (.rowR rfl) (expLC_cons (.rowR rfl) (expLC_cons .v (expLC_cons (.rowR rfl) (expLC_cons (.rowR rfl) (expLC_nil)))))))))) (expLG_cons (.c .v) (expLG_cons (.c .v) (expLG_nil)))))
 rw [hd8, impl_RunSteps_l1] at hH
 have hlt10 := drop_lt hd8
 refine AW.seq (AW.region ?_)
 refine AO.pu T ?_
 refine AO.nil (AW.seq ?_)
 refine AW.condT' (b := decide ((k5 : Int) < (l.length : Int))) rfl (rngT hlt10) ?_
 refine AW.skip ?_
 refine AW.seq ?_
 refine AW.block ?_
 refine AW.seq (AW.region ?_)
 refine AO.pu T ?_
 refine AO.val rfl rfl (ix_map_ok T rfl rfl rfl rfl rfl (getI_drop hd8) rfl) ?_
 refine AO.pu T (d := .g [y6.kind, y6.skater, y6.number]) ?_
 refine AO.step rfl (alloc_ok T rfl 20 rfl rfl rfl rfl rfl) ?_
 refine AO.pu T ?_
 refine AO.se T [y6.kind, y6.skater, y6.number] ?_
 refine AO.nil (AW.seq ?_)
 obtain ⟨x32, hx33, hH⟩ := bindE hH
 refine AW.region ?_
 refine AO.pu T (d := .g [v23, v24, v25, .R 3, .R 4, v28, .R 5, .R 6]) ?_
 refine AO.pu T (d := .g [y6.kind, y6.skater, y6.number]) ?_
 refine AO.step rfl (callL_ok rfl 21 rfl rfl (es := [.g (encEvent (Event.mk v23 v24 v25 v26 v27 v28 v29 v30)), .g (encStep y6)]) (by exact ⟨lend_g (LendL.cons (.free rfl) (LendL.cons (.free rfl) (LendL.cons (.free rfl) (LendL.cons ((.rowR rfl (.map fun y => .vs rfl))) (LendL.cons ((.rowR rfl (.map fun y => .vs rfl))) (LendL.cons (.free rfl) (LendL.cons ((.rowR rfl (.map fun y => .vs rfl))) (LendL.cons ((.rowR rfl (.map fun y => frzResult y))) LendL.nil)))))))), .free rfl, trivial⟩) (impl_doStep_ok fuel _ _ _ (hx33)) (zfree_t (zfl (.cons (zfree_g (zfl (.cons (zfree_v _) (.cons (zfree_v _) (.cons (zfree_v _) (.cons (zfree_map (fun y => (.cons (zfree_v _) (.cons (zfree_v _) .nil)))) (.cons (zfree_map (fun y => (.cons (zfree_v _) .nil))) (.cons (zfree_v _) (.cons (zfree_map (fun y => (.cons (zfree_v _) .nil))) (.cons (zfree_map (fun y => (.cons (zfree_v _) (.cons (zfree_map (fun y => (.cons (zfree_v _) .nil))) .nil)))) .nil)))))))))) (.cons (zfree_v _) .nil)))) rfl rfl rfl) ?_
 refine AO.pu T ?_
 refine AO.pu T (d := .g [x32.1.segments, x32.1.size, x32.1.key, .R 21, .R 22, x32.1.segment, .R 23, .R 24]) ?_
 refine AO.pu T ?_
 refine AO.step rfl (alloc_ok T rfl 25 rfl rfl rfl rfl rfl) ?_
 refine AO.se T [x32.1.segments, x32.1.size, x32.1.key, .R 21, .R 22, x32.1.segment, .R 23, .R 24] ?_
 refine AO.pu T ?_
 refine AO.nil ?_
 iterate 2 refine AW.seq ?_
 refine AW.region ?_
 iterate 2 refine AO.pu T ?_
 refine AO.nil ?_
 refine AW.cond (b := (!x32.2)) rfl (fun hc => ?_) (fun hc => ?_)
 replace hH := condT hc hH
 refine AW.seq (AW.region ?_)
 refine AO.pu T (d := .g [v23, v24, v25, .R 3, .R 4, v28, .R 5, .R 6]) ?_
 refine AO.pu T ?_
 refine AO.se T [v23, v24, v25, .R 3, .R 4, v28, .R 5, .R 6] ?_
 iterate 2 refine AO.pu T ?_
 refine AO.nil (AW.ret ?_)
 cases someE hH
 exact retQ.i [3, 4, 5, 6] rfl (.t (expLG_cons (.g (expLC_cons .v (expLC_cons .v (expLC_cons .v (expLC_cons (.rowR rfl) (expLC_cons (.rowR rfl) (expLC_cons .v (expLC_cons (.rowR rfl) (expLC_cons (.rowR rfl) (expLC_nil)))))))))) (expLG_cons (.c .v) (expLG_cons (.c .v) (expLG_nil)))))
 replace hH := condF hc hH
 refine AW.skip ?_
 refine AW.region ?_
 refine AO.pu T (d := .g [x32.1.segments, x32.1.size, x32.1.key, .R 21, .R 22, x32.1.segment, .R 23, .R 24]) ?_
 refine AO.se T [x32.1.segments, x32.1.size, x32.1.key, .R 21, .R 22, x32.1.segment, .R 23, .R 24] ?_
 refine AO.nil ?_
 refine AW.region ?_
 refine AO.val rfl rfl (ar_ok rfl rfl rfl rfl (inI_succ hlt10 hb9)) ?_
 refine AO.pu T ?_
 refine AO.nil ?_
 refine ⟨(k5 + 1, x32.1.segments, x32.1.size, x32.1.key, x32.1.entrants, x32.1.gone, x32.1.segment, x32.1.order, x32.1.results), ⟨Nat.succ_le_of_lt hlt10, (by rw [drop_succ_of hd8]; exact hH)⟩, (by have := hlt10; dsimp only; omega), ?_⟩
 refine Le.trans (Le.ct 21 3 (σ' := (⟨[(1, .s (List.map encStep l)), (4, .p 2 0), (7, .p 7 0), (23, .s (List.map encStep l)), (24, (l.length : Int)), (25, ((k5 + 1 : Nat) : Int))], [(2, .box [(0 : Int), (0 : Int), (0 : Int), .w 0 [], .w 0 [], (0 : Int), .w 0 [], .w 0 []]), (3, .row 2 (List.map encEntrant x32.1.entrants)), (7, .box [x32.1.segments, x32.1.size, x32.1.key, .R 3, .R 22, x32.1.segment, .R 23, .R 24]), (22, .row 1 (List.map encInt x32.1.gone)), (23, .row 1 (List.map encInt x32.1.order)), (24, .row 2 (List.map encResultO x32.1.results))], 45, []⟩ : St))) ?_
 refine Le.trans (Le.ct 22 4 (σ' := (⟨[(1, .s (List.map encStep l)), (4, .p 2 0), (7, .p 7 0), (23, .s (List.map encStep l)), (24, (l.length : Int)), (25, ((k5 + 1 : Nat) : Int))], [(2, .box [(0 : Int), (0 : Int), (0 : Int), .w 0 [], .w 0 [], (0 : Int), .w 0 [], .w 0 []]), (3, .row 2 (List.map encEntrant x32.1.entrants)), (4, .row 1 (List.map encInt x32.1.gone)), (7, .box [x32.1.segments, x32.1.size, x32.1.key, .R 3, .R 4, x32.1.segment, .R 23, .R 24]), (23, .row 1 (List.map encInt x32.1.order)), (24, .row 2 (List.map encResultO x32.1.results))], 45, []⟩ : St))) ?_
 refine Le.trans (Le.ct 23 5 (σ' := (⟨[(1, .s (List.map encStep l)), (4, .p 2 0), (7, .p 7 0), (23, .s (List.map encStep l)), (24, (l.length : Int)), (25, ((k5 + 1 : Nat) : Int))], [(2, .box [(0 : Int), (0 : Int), (0 : Int), .w 0 [], .w 0 [], (0 : Int), .w 0 [], .w 0 []]), (3, .row 2 (List.map encEntrant x32.1.entrants)), (4, .row 1 (List.map encInt x32.1.gone)), (5, .row 1 (List.map encInt x32.1.order)), (7, .box [x32.1.segments, x32.1.size, x32.1.key, .R 3, .R 4, x32.1.segment, .R 5, .R 24]), (24, .row 2 (List.map encResultO x32.1.results))], 45, []⟩ : St))) ?_
 exact Le.ct 24 6

def laws_eqEntrant_p (a : Entrant) (b : Entrant) : Option Bool :=
  cond (a.skater != b.skater)
    (some false)
    (cond (a.rank != b.rank)
      (some false)
      (some true))
theorem laws_eqEntrant_ok (a : Entrant) (b : Entrant) (r : Bool) (hH : laws_eqEntrant_p a b = some r) : SpecR Tryz.prog 123 [.g (encEntrant a), .g (encEntrant b)] (.v (.bool r)) := by
 refine fn_ok T Tryz.func123 rfl (by decide) rfl ?_
 refine AW.seq (AW.region ?_)
 refine AO.step rfl (box_ok T rfl 1 rfl rfl rfl rfl) ?_
 refine AO.step rfl (box_ok T rfl 2 rfl rfl rfl rfl) ?_
 refine AO.pu T ?_
 refine AO.nil ?_
 iterate 2 refine AW.seq ?_
 refine AW.region ?_
 iterate 5 refine AO.pu T ?_
 refine AO.nil ?_
 refine AW.cond (b := (a.skater != b.skater)) rfl (fun hc => ?_) (fun hc => ?_)
 replace hH := condT hc hH
 refine AW.seq (AW.region ?_)
 refine AO.pu T ?_
 refine AO.nil (AW.ret ?_)
 cases someE hH
 exact retQ.i [] rfl (.c (.c .v))
 replace hH := condF hc hH
 refine AW.skip ?_
 iterate 2 refine AW.seq ?_
 refine AW.region ?_
 iterate 5 refine AO.pu T ?_
 refine AO.nil ?_
 refine AW.cond (b := (a.rank != b.rank)) rfl (fun hc => ?_) (fun hc => ?_)
 replace hH := condT hc hH
 refine AW.seq (AW.region ?_)
 refine AO.pu T ?_
 refine AO.nil (AW.ret ?_)
 cases someE hH
 exact retQ.i [] rfl (.c (.c .v))
 replace hH := condF hc hH
 refine AW.skip ?_
 refine AW.seq (AW.region ?_)
 refine AO.pu T ?_
 refine AO.nil (AW.ret ?_)
 cases someE hH
 exact retQ.i [] rfl (.c (.c .v))

def laws_eqEntrantS_l1 (b : List Entrant) : List Entrant → Nat → Option Bool
  | [], k1 =>
    some true
  | y2 :: ys3, k1 =>
    (getI b (k1 : Int)).bind fun x16 =>
    (laws_eqEntrant_p y2 x16).bind fun x18 =>
    cond (!x18)
      (some false)
      (laws_eqEntrantS_l1 b ys3 (k1 + 1))
def laws_eqEntrantS_p (a : List Entrant) (b : List Entrant) : Option Bool :=
  cond ((a.length : Int) != (b.length : Int))
    (some false)
    (laws_eqEntrantS_l1 b a 0)
theorem laws_eqEntrantS_ok (a : List Entrant) (b : List Entrant) (r : Bool) (hH : laws_eqEntrantS_p a b = some r) : SpecR Tryz.prog 65 [.s (List.map encEntrant a), .s (List.map encEntrant b)] (.v (.bool r)) := by
 refine fn_ok T Tryz.func65 rfl (by decide) rfl ?_
 refine AW.seq (AW.region ?_)
 refine AO.pu T ?_
 refine AO.nil ?_
 iterate 2 refine AW.seq ?_
 refine AW.region ?_
 refine AO.pu T ?_
 refine AO.val rfl rfl (len_map_ok T rfl rfl rfl) ?_
 refine AO.pu T ?_
 refine AO.val rfl rfl (len_map_ok T rfl rfl rfl) ?_
 refine AO.pu T ?_
 refine AO.nil ?_
 refine AW.cond (b := ((a.length : Int) != (b.length : Int))) rfl (fun hc => ?_) (fun hc => ?_)
 replace hH := condT hc hH
 refine AW.seq (AW.region ?_)
 refine AO.pu T ?_
 refine AO.nil (AW.ret ?_)
 cases someE hH
 exact retQ.i [] rfl (.c (.c .v))
 replace hH := condF hc hH
 refine AW.skip ?_
 iterate 2 refine AW.seq ?_
 refine AW.region ?_
 refine AO.pu T ?_
 refine AO.nil ?_
 refine AW.block ?_
 refine AW.loopS (fun s : Nat => (⟨[(0, .s (List.map encEntrant a)), (1, .s (List.map encEntrant b)), (5, (s : Int))], [], 27, []⟩ : St)) (fun s => s ≤ a.length ∧ laws_eqEntrantS_l1 b (a.drop s) s = some r) (fun s => a.length - s) 0 ⟨Nat.zero_le _, hH⟩ ?_ ?_
 exact Le.ct 0 0
 rintro k1 ⟨hk, hH⟩
 replace hH : laws_eqEntrantS_l1 b (a.drop k1) k1 = some r := hH
 try dsimp only
 refine AW.boundM (t := 0) (l := a) rfl (fun hb5 => ?_)
 rcases hd4 : a.drop k1 with _ | ⟨y2, ys3⟩
 rw [hd4, laws_eqEntrantS_l1] at hH
 have hlt6 := drop_ge hd4
 iterate 2 refine AW.seq ?_
 refine AW.region ?_
 iterate 2 refine AO.pu T ?_
 refine AO.val rfl rfl (len_map_ok T rfl rfl rfl) ?_
 refine AO.pu T ?_
 refine AO.nil ?_
 refine AW.condF' (b := decide ((k1 : Int) < (a.length : Int))) rfl (rngF hlt6) ?_
 refine AW.exit ?_
 refine AW.seq (AW.region ?_)
 refine AO.pu T ?_
 refine AO.nil (AW.ret ?_)
 cases someE hH
 exact retQ.i [] rfl (.c (.c .v))
 rw [hd4, laws_eqEntrantS_l1] at hH
 have hlt6 := drop_lt hd4
 iterate 2 refine AW.seq ?_
 refine AW.region ?_
 iterate 2 refine AO.pu T ?_
 refine AO.val rfl rfl (len_map_ok T rfl rfl rfl) ?_
 refine AO.pu T ?_
 refine AO.nil ?_
 refine AW.condT' (b := decide ((k1 : Int) < (a.length : Int))) rfl (rngT hlt6) ?_
 refine AW.skip ?_
 refine AW.seq ?_
 refine AW.block ?_
 refine AW.seq ?_
 obtain ⟨x16, hx17, hH⟩ := bindE hH
 obtain ⟨x18, hx19, hH⟩ := bindE hH
 refine AW.drawn 8 1 [] mix (by kernel_rfl) rfl ?_
 iterate 2 refine AD.pure T rfl rfl rfl ?_
 refine AD.val rfl rfl (ix_map_ok T rfl rfl rfl rfl rfl (getI_drop hd4) rfl) ?_
 refine AD.pure T (d := .g [y2.skater, y2.rank]) rfl rfl rfl ?_
 iterate 2 refine AD.pure T rfl rfl rfl ?_
 refine AD.val rfl rfl (ix_map_ok T rfl rfl rfl rfl rfl (hx17) rfl) ?_
 refine AD.pure T (d := .g [x16.skater, x16.rank]) rfl rfl rfl ?_
 refine AD.nil ?_
 refine AO.val rfl rfl (callV_ok rfl rfl rfl rfl (laws_eqEntrant_ok _ _ _ (hx19)) rfl) ?_
 refine AO.pu T ?_
 refine AO.nil ?_
 refine AW.cond (b := (!x18)) rfl (fun hc => ?_) (fun hc => ?_)
 replace hH := condT hc hH
 refine AW.seq (AW.region ?_)
 refine AO.pu T ?_
 refine AO.nil (AW.ret ?_)
 cases someE hH
 exact retQ.i [] rfl (.c (.c .v))
 replace hH := condF hc hH
 refine AW.skip ?_
 refine AW.region ?_
 refine AO.pu T ?_
 refine AO.val rfl rfl (ar_ok rfl rfl rfl rfl (inI_succ hlt6 hb5)) ?_
 refine AO.pu T ?_
 refine AO.nil ?_
 refine ⟨k1 + 1, ⟨Nat.succ_le_of_lt hlt6, (by rw [drop_succ_of hd4]; exact hH)⟩, (by have := hlt6; dsimp only; omega), ?_⟩
 exact Le.ct 0 0

def laws_eqIntS_l1 (b : List Int) : List Int → Nat → Option Bool
  | [], k1 =>
    some true
  | y2 :: ys3, k1 =>
    (getI b (k1 : Int)).bind fun x12 =>
    cond (y2 != x12)
      (some false)
      (laws_eqIntS_l1 b ys3 (k1 + 1))
def laws_eqIntS_p (a : List Int) (b : List Int) : Option Bool :=
  cond ((a.length : Int) != (b.length : Int))
    (some false)
    (laws_eqIntS_l1 b a 0)
theorem laws_eqIntS_ok (a : List Int) (b : List Int) (r : Bool) (hH : laws_eqIntS_p a b = some r) : SpecR Tryz.prog 12 [.s (List.map encInt a), .s (List.map encInt b)] (.v (.bool r)) := by
 refine fn_ok T Tryz.func12 rfl (by decide) rfl ?_
 refine AW.seq (AW.region ?_)
 refine AO.pu T ?_
 refine AO.nil ?_
 iterate 2 refine AW.seq ?_
 refine AW.region ?_
 refine AO.pu T ?_
 refine AO.val rfl rfl (len_map_ok T rfl rfl rfl) ?_
 refine AO.pu T ?_
 refine AO.val rfl rfl (len_map_ok T rfl rfl rfl) ?_
 refine AO.pu T ?_
 refine AO.nil ?_
 refine AW.cond (b := ((a.length : Int) != (b.length : Int))) rfl (fun hc => ?_) (fun hc => ?_)
 replace hH := condT hc hH
 refine AW.seq (AW.region ?_)
 refine AO.pu T ?_
 refine AO.nil (AW.ret ?_)
 cases someE hH
 exact retQ.i [] rfl (.c (.c .v))
 replace hH := condF hc hH
 refine AW.skip ?_
 iterate 2 refine AW.seq ?_
 refine AW.region ?_
 refine AO.pu T ?_
 refine AO.nil ?_
 refine AW.block ?_
 refine AW.loopS (fun s : Nat => (⟨[(0, .s (List.map encInt a)), (1, .s (List.map encInt b)), (5, (s : Int))], [], 26, []⟩ : St)) (fun s => s ≤ a.length ∧ laws_eqIntS_l1 b (a.drop s) s = some r) (fun s => a.length - s) 0 ⟨Nat.zero_le _, hH⟩ ?_ ?_
 exact Le.ct 0 0
 rintro k1 ⟨hk, hH⟩
 replace hH : laws_eqIntS_l1 b (a.drop k1) k1 = some r := hH
 try dsimp only
 refine AW.boundM (t := 0) (l := a) rfl (fun hb5 => ?_)
 rcases hd4 : a.drop k1 with _ | ⟨y2, ys3⟩
 rw [hd4, laws_eqIntS_l1] at hH
 have hlt6 := drop_ge hd4
 iterate 2 refine AW.seq ?_
 refine AW.region ?_
 iterate 2 refine AO.pu T ?_
 refine AO.val rfl rfl (len_map_ok T rfl rfl rfl) ?_
 refine AO.pu T ?_
 refine AO.nil ?_
 refine AW.condF' (b := decide ((k1 : Int) < (a.length : Int))) rfl (rngF hlt6) ?_
 refine AW.exit ?_
 refine AW.seq (AW.region ?_)
 refine AO.pu T ?_
 refine AO.nil (AW.ret ?_)
 cases someE hH
 exact retQ.i [] rfl (.c (.c .v))
 rw [hd4, laws_eqIntS_l1] at hH
 have hlt6 := drop_lt hd4
 iterate 2 refine AW.seq ?_
 refine AW.region ?_
 iterate 2 refine AO.pu T ?_
 refine AO.val rfl rfl (len_map_ok T rfl rfl rfl) ?_
 refine AO.pu T ?_
 refine AO.nil ?_
 refine AW.condT' (b := decide ((k1 : Int) < (a.length : Int))) rfl (rngT hlt6) ?_
 refine AW.skip ?_
 refine AW.seq ?_
 refine AW.block ?_
 refine AW.seq ?_
 obtain ⟨x12, hx13, hH⟩ := bindE hH
 refine AW.drawn 8 1 [] mix (by kernel_rfl) rfl ?_
 iterate 2 refine AD.pure T rfl rfl rfl ?_
 refine AD.val rfl rfl (ix_map_ok T rfl rfl rfl rfl rfl (getI_drop hd4) rfl) ?_
 iterate 3 refine AD.pure T rfl rfl rfl ?_
 refine AD.val rfl rfl (ix_map_ok T rfl rfl rfl rfl rfl (hx13) rfl) ?_
 refine AD.pure T rfl rfl rfl ?_
 refine AD.nil ?_
 refine AO.pu T ?_
 refine AO.nil ?_
 refine AW.cond (b := (y2 != x12)) rfl (fun hc => ?_) (fun hc => ?_)
 replace hH := condT hc hH
 refine AW.seq (AW.region ?_)
 refine AO.pu T ?_
 refine AO.nil (AW.ret ?_)
 cases someE hH
 exact retQ.i [] rfl (.c (.c .v))
 replace hH := condF hc hH
 refine AW.skip ?_
 refine AW.region ?_
 refine AO.pu T ?_
 refine AO.val rfl rfl (ar_ok rfl rfl rfl rfl (inI_succ hlt6 hb5)) ?_
 refine AO.pu T ?_
 refine AO.nil ?_
 refine ⟨k1 + 1, ⟨Nat.succ_le_of_lt hlt6, (by rw [drop_succ_of hd4]; exact hH)⟩, (by have := hlt6; dsimp only; omega), ?_⟩
 exact Le.ct 0 0

def laws_eqResult_p (a : Result) (b : Result) : Option Bool :=
  cond (a.skater != b.skater)
    (some false)
    ((laws_eqIntS_p a.scores b.scores).bind fun x1 =>
    cond (!x1)
      (some false)
      (some true))
theorem laws_eqResult_ok (a : Result) (b : Result) (r : Bool) (hH : laws_eqResult_p a b = some r) : SpecR Tryz.prog 124 [.g (encResult a), .g (encResult b)] (.v (.bool r)) := by
 refine fn_ok T Tryz.func124 rfl (by decide) rfl ?_
 refine AW.seq (AW.region ?_)
 refine AO.step rfl (box_ok T rfl 1 rfl rfl rfl rfl) ?_
 refine AO.step rfl (box_ok T rfl 2 rfl rfl rfl rfl) ?_
 refine AO.pu T ?_
 refine AO.nil ?_
 iterate 2 refine AW.seq ?_
 refine AW.region ?_
 iterate 5 refine AO.pu T ?_
 refine AO.nil ?_
 refine AW.cond (b := (a.skater != b.skater)) rfl (fun hc => ?_) (fun hc => ?_)
 replace hH := condT hc hH
 refine AW.seq (AW.region ?_)
 refine AO.pu T ?_
 refine AO.nil (AW.ret ?_)
 cases someE hH
 exact retQ.i [] rfl (.c (.c .v))
 replace hH := condF hc hH
 refine AW.skip ?_
 iterate 2 refine AW.seq ?_
 obtain ⟨x1, hx2, hH⟩ := bindE hH
 refine AW.region ?_
 iterate 4 refine AO.pu T ?_
 refine AO.val rfl rfl (callV_ok rfl rfl rfl rfl (laws_eqIntS_ok _ _ _ (hx2)) rfl) ?_
 refine AO.pu T ?_
 refine AO.nil ?_
 refine AW.cond (b := (!x1)) rfl (fun hc => ?_) (fun hc => ?_)
 replace hH := condT hc hH
 refine AW.seq (AW.region ?_)
 refine AO.pu T ?_
 refine AO.nil (AW.ret ?_)
 cases someE hH
 exact retQ.i [] rfl (.c (.c .v))
 replace hH := condF hc hH
 refine AW.skip ?_
 refine AW.seq (AW.region ?_)
 refine AO.pu T ?_
 refine AO.nil (AW.ret ?_)
 cases someE hH
 exact retQ.i [] rfl (.c (.c .v))

def laws_eqResultS_l1 (b : List Result) : List Result → Nat → Option Bool
  | [], k1 =>
    some true
  | y2 :: ys3, k1 =>
    (getI b (k1 : Int)).bind fun x16 =>
    (laws_eqResult_p y2 x16).bind fun x18 =>
    cond (!x18)
      (some false)
      (laws_eqResultS_l1 b ys3 (k1 + 1))
def laws_eqResultS_p (a : List Result) (b : List Result) : Option Bool :=
  cond ((a.length : Int) != (b.length : Int))
    (some false)
    (laws_eqResultS_l1 b a 0)
theorem laws_eqResultS_ok (a : List Result) (b : List Result) (r : Bool) (hH : laws_eqResultS_p a b = some r) : SpecR Tryz.prog 66 [.s (List.map encResult a), .s (List.map encResult b)] (.v (.bool r)) := by
 refine fn_ok T Tryz.func66 rfl (by decide) rfl ?_
 refine AW.seq (AW.region ?_)
 refine AO.pu T ?_
 refine AO.nil ?_
 iterate 2 refine AW.seq ?_
 refine AW.region ?_
 refine AO.pu T ?_
 refine AO.val rfl rfl (len_map_ok T rfl rfl rfl) ?_
 refine AO.pu T ?_
 refine AO.val rfl rfl (len_map_ok T rfl rfl rfl) ?_
 refine AO.pu T ?_
 refine AO.nil ?_
 refine AW.cond (b := ((a.length : Int) != (b.length : Int))) rfl (fun hc => ?_) (fun hc => ?_)
 replace hH := condT hc hH
 refine AW.seq (AW.region ?_)
 refine AO.pu T ?_
 refine AO.nil (AW.ret ?_)
 cases someE hH
 exact retQ.i [] rfl (.c (.c .v))
 replace hH := condF hc hH
 refine AW.skip ?_
 iterate 2 refine AW.seq ?_
 refine AW.region ?_
 refine AO.pu T ?_
 refine AO.nil ?_
 refine AW.block ?_
 refine AW.loopS (fun s : Nat => (⟨[(0, .s (List.map encResult a)), (1, .s (List.map encResult b)), (5, (s : Int))], [], 27, []⟩ : St)) (fun s => s ≤ a.length ∧ laws_eqResultS_l1 b (a.drop s) s = some r) (fun s => a.length - s) 0 ⟨Nat.zero_le _, hH⟩ ?_ ?_
 exact Le.ct 0 0
 rintro k1 ⟨hk, hH⟩
 replace hH : laws_eqResultS_l1 b (a.drop k1) k1 = some r := hH
 try dsimp only
 refine AW.boundM (t := 0) (l := a) rfl (fun hb5 => ?_)
 rcases hd4 : a.drop k1 with _ | ⟨y2, ys3⟩
 rw [hd4, laws_eqResultS_l1] at hH
 have hlt6 := drop_ge hd4
 iterate 2 refine AW.seq ?_
 refine AW.region ?_
 iterate 2 refine AO.pu T ?_
 refine AO.val rfl rfl (len_map_ok T rfl rfl rfl) ?_
 refine AO.pu T ?_
 refine AO.nil ?_
 refine AW.condF' (b := decide ((k1 : Int) < (a.length : Int))) rfl (rngF hlt6) ?_
 refine AW.exit ?_
 refine AW.seq (AW.region ?_)
 refine AO.pu T ?_
 refine AO.nil (AW.ret ?_)
 cases someE hH
 exact retQ.i [] rfl (.c (.c .v))
 rw [hd4, laws_eqResultS_l1] at hH
 have hlt6 := drop_lt hd4
 iterate 2 refine AW.seq ?_
 refine AW.region ?_
 iterate 2 refine AO.pu T ?_
 refine AO.val rfl rfl (len_map_ok T rfl rfl rfl) ?_
 refine AO.pu T ?_
 refine AO.nil ?_
 refine AW.condT' (b := decide ((k1 : Int) < (a.length : Int))) rfl (rngT hlt6) ?_
 refine AW.skip ?_
 refine AW.seq ?_
 refine AW.block ?_
 refine AW.seq ?_
 obtain ⟨x16, hx17, hH⟩ := bindE hH
 obtain ⟨x18, hx19, hH⟩ := bindE hH
 refine AW.drawn 8 1 [] mix (by kernel_rfl) rfl ?_
 iterate 2 refine AD.pure T rfl rfl rfl ?_
 refine AD.val rfl rfl (ix_map_ok T rfl rfl rfl rfl rfl (getI_drop hd4) rfl) ?_
 refine AD.pure T (d := .g [y2.skater, .s (List.map encInt y2.scores)]) rfl rfl rfl ?_
 iterate 2 refine AD.pure T rfl rfl rfl ?_
 refine AD.val rfl rfl (ix_map_ok T rfl rfl rfl rfl rfl (hx17) rfl) ?_
 refine AD.pure T (d := .g [x16.skater, .s (List.map encInt x16.scores)]) rfl rfl rfl ?_
 refine AD.nil ?_
 refine AO.val rfl rfl (callV_ok rfl rfl rfl rfl (laws_eqResult_ok _ _ _ (hx19)) rfl) ?_
 refine AO.pu T ?_
 refine AO.nil ?_
 refine AW.cond (b := (!x18)) rfl (fun hc => ?_) (fun hc => ?_)
 replace hH := condT hc hH
 refine AW.seq (AW.region ?_)
 refine AO.pu T ?_
 refine AO.nil (AW.ret ?_)
 cases someE hH
 exact retQ.i [] rfl (.c (.c .v))
 replace hH := condF hc hH
 refine AW.skip ?_
 refine AW.region ?_
 refine AO.pu T ?_
 refine AO.val rfl rfl (ar_ok rfl rfl rfl rfl (inI_succ hlt6 hb5)) ?_
 refine AO.pu T ?_
 refine AO.nil ?_
 refine ⟨k1 + 1, ⟨Nat.succ_le_of_lt hlt6, (by rw [drop_succ_of hd4]; exact hH)⟩, (by have := hlt6; dsimp only; omega), ?_⟩
 exact Le.ct 0 0

def laws_eqEvent_p (a : Event) (b : Event) : Option Bool :=
  cond (a.segments != b.segments)
    (some false)
    (cond (a.size != b.size)
      (some false)
      (cond (a.key != b.key)
        (some false)
        ((laws_eqEntrantS_p a.entrants b.entrants).bind fun x1 =>
        cond (!x1)
          (some false)
          ((laws_eqIntS_p a.gone b.gone).bind fun x3 =>
          cond (!x3)
            (some false)
            (cond (a.segment != b.segment)
              (some false)
              ((laws_eqIntS_p a.order b.order).bind fun x5 =>
              cond (!x5)
                (some false)
                ((laws_eqResultS_p a.results b.results).bind fun x7 =>
                cond (!x7)
                  (some false)
                  (some true))))))))
theorem laws_eqEvent_ok (a : Event) (b : Event) (r : Bool) (hH : laws_eqEvent_p a b = some r) : SpecR Tryz.prog 13 [.g (encEvent a), .g (encEvent b)] (.v (.bool r)) := by
 refine fn_ok T Tryz.func13 rfl (by decide) rfl ?_
 refine AW.seq (AW.region ?_)
 refine AO.step rfl (box_ok T rfl 1 rfl rfl rfl rfl) ?_
 refine AO.step rfl (box_ok T rfl 2 rfl rfl rfl rfl) ?_
 refine AO.pu T ?_
 refine AO.nil ?_
 iterate 2 refine AW.seq ?_
 refine AW.region ?_
 iterate 5 refine AO.pu T ?_
 refine AO.nil ?_
 refine AW.cond (b := (a.segments != b.segments)) rfl (fun hc => ?_) (fun hc => ?_)
 replace hH := condT hc hH
 refine AW.seq (AW.region ?_)
 refine AO.pu T ?_
 refine AO.nil (AW.ret ?_)
 cases someE hH
 exact retQ.i [] rfl (.c (.c .v))
 replace hH := condF hc hH
 refine AW.skip ?_
 iterate 2 refine AW.seq ?_
 refine AW.region ?_
 iterate 5 refine AO.pu T ?_
 refine AO.nil ?_
 refine AW.cond (b := (a.size != b.size)) rfl (fun hc => ?_) (fun hc => ?_)
 replace hH := condT hc hH
 refine AW.seq (AW.region ?_)
 refine AO.pu T ?_
 refine AO.nil (AW.ret ?_)
 cases someE hH
 exact retQ.i [] rfl (.c (.c .v))
 replace hH := condF hc hH
 refine AW.skip ?_
 iterate 2 refine AW.seq ?_
 refine AW.region ?_
 iterate 5 refine AO.pu T ?_
 refine AO.nil ?_
 refine AW.cond (b := (a.key != b.key)) rfl (fun hc => ?_) (fun hc => ?_)
 replace hH := condT hc hH
 refine AW.seq (AW.region ?_)
 refine AO.pu T ?_
 refine AO.nil (AW.ret ?_)
 cases someE hH
 exact retQ.i [] rfl (.c (.c .v))
 replace hH := condF hc hH
 refine AW.skip ?_
 iterate 2 refine AW.seq ?_
 obtain ⟨x1, hx2, hH⟩ := bindE hH
 refine AW.region ?_
 iterate 4 refine AO.pu T ?_
 refine AO.val rfl rfl (callV_ok rfl rfl rfl rfl (laws_eqEntrantS_ok _ _ _ (hx2)) rfl) ?_
 refine AO.pu T ?_
 refine AO.nil ?_
 refine AW.le (Le.ct 0 0 (σ' := (⟨[(2, .p 1 0), (3, .p 2 0), (25, .v (.bool (!x1)))], [(1, .box [a.segments, a.size, a.key, .s (List.map encEntrant a.entrants), .s (List.map encInt a.gone), a.segment, .s (List.map encInt a.order), .s (List.map encResult a.results)]), (2, .box [b.segments, b.size, b.key, .s (List.map encEntrant b.entrants), .s (List.map encInt b.gone), b.segment, .s (List.map encInt b.order), .s (List.map encResult b.results)])], 49, []⟩ : St))) ?_
 refine AW.cond (b := (!x1)) rfl (fun hc => ?_) (fun hc => ?_)
 replace hH := condT hc hH
 refine AW.seq (AW.region ?_)
 refine AO.pu T ?_
 refine AO.nil (AW.ret ?_)
 cases someE hH
 exact retQ.i [] rfl (.c (.c .v))
 replace hH := condF hc hH
 refine AW.skip ?_
 iterate 2 refine AW.seq ?_
 obtain ⟨x3, hx4, hH⟩ := bindE hH
 refine AW.region ?_
 iterate 4 refine AO.pu T ?_
 refine AO.val rfl rfl (callV_ok rfl rfl rfl rfl (laws_eqIntS_ok _ _ _ (hx4)) rfl) ?_
 refine AO.pu T ?_
 refine AO.nil ?_
 refine AW.cond (b := (!x3)) rfl (fun hc => ?_) (fun hc => ?_)
 replace hH := condT hc hH
 refine AW.seq (AW.region ?_)
 refine AO.pu T ?_
 refine AO.nil (AW.ret ?_)
 cases someE hH
 exact retQ.i [] rfl (.c (.c .v))
 replace hH := condF hc hH
 refine AW.skip ?_
 iterate 2 refine AW.seq ?_
 refine AW.region ?_
 iterate 5 refine AO.pu T ?_
 refine AO.nil ?_
 refine AW.cond (b := (a.segment != b.segment)) rfl (fun hc => ?_) (fun hc => ?_)
 replace hH := condT hc hH
 refine AW.seq (AW.region ?_)
 refine AO.pu T ?_
 refine AO.nil (AW.ret ?_)
 cases someE hH
 exact retQ.i [] rfl (.c (.c .v))
 replace hH := condF hc hH
 refine AW.skip ?_
 iterate 2 refine AW.seq ?_
 obtain ⟨x5, hx6, hH⟩ := bindE hH
 refine AW.region ?_
 iterate 4 refine AO.pu T ?_
 refine AO.val rfl rfl (callV_ok rfl rfl rfl rfl (laws_eqIntS_ok _ _ _ (hx6)) rfl) ?_
 refine AO.pu T ?_
 refine AO.nil ?_
 refine AW.cond (b := (!x5)) rfl (fun hc => ?_) (fun hc => ?_)
 replace hH := condT hc hH
 refine AW.seq (AW.region ?_)
 refine AO.pu T ?_
 refine AO.nil (AW.ret ?_)
 cases someE hH
 exact retQ.i [] rfl (.c (.c .v))
 replace hH := condF hc hH
 refine AW.skip ?_
 iterate 2 refine AW.seq ?_
 obtain ⟨x7, hx8, hH⟩ := bindE hH
 refine AW.region ?_
 iterate 4 refine AO.pu T ?_
 refine AO.val rfl rfl (callV_ok rfl rfl rfl rfl (laws_eqResultS_ok _ _ _ (hx8)) rfl) ?_
 refine AO.pu T ?_
 refine AO.nil ?_
 refine AW.cond (b := (!x7)) rfl (fun hc => ?_) (fun hc => ?_)
 replace hH := condT hc hH
 refine AW.seq (AW.region ?_)
 refine AO.pu T ?_
 refine AO.nil ?_
 refine AW.le (Le.ct 0 0 (σ' := (⟨[(4, .v (.bool false))], [], 49, []⟩ : St))) ?_
 refine AW.ret ?_
 cases someE hH
 exact retQ.i [] rfl (.c (.c .v))
 replace hH := condF hc hH
 refine AW.skip ?_
 refine AW.seq (AW.region ?_)
 refine AO.pu T ?_
 refine AO.nil ?_
 refine AW.le (Le.ct 0 0 (σ' := (⟨[(4, .v (.bool true))], [], 49, []⟩ : St))) ?_
 refine AW.ret ?_
 cases someE hH
 exact retQ.i [] rfl (.c (.c .v))

def laws_eqStep_p (a : Step) (b : Step) : Option Bool :=
  cond (a.kind != b.kind)
    (some false)
    (cond (a.skater != b.skater)
      (some false)
      (cond (a.number != b.number)
        (some false)
        (some true)))
theorem laws_eqStep_ok (a : Step) (b : Step) (r : Bool) (hH : laws_eqStep_p a b = some r) : SpecR Tryz.prog 78 [.g (encStep a), .g (encStep b)] (.v (.bool r)) := by
 refine fn_ok T Tryz.func78 rfl (by decide) rfl ?_
 refine AW.seq (AW.region ?_)
 refine AO.step rfl (box_ok T rfl 1 rfl rfl rfl rfl) ?_
 refine AO.step rfl (box_ok T rfl 2 rfl rfl rfl rfl) ?_
 refine AO.pu T ?_
 refine AO.nil ?_
 iterate 2 refine AW.seq ?_
 refine AW.region ?_
 iterate 5 refine AO.pu T ?_
 refine AO.nil ?_
 refine AW.cond (b := (a.kind != b.kind)) rfl (fun hc => ?_) (fun hc => ?_)
 replace hH := condT hc hH
 refine AW.seq (AW.region ?_)
 refine AO.pu T ?_
 refine AO.nil (AW.ret ?_)
 cases someE hH
 exact retQ.i [] rfl (.c (.c .v))
 replace hH := condF hc hH
 refine AW.skip ?_
 iterate 2 refine AW.seq ?_
 refine AW.region ?_
 iterate 5 refine AO.pu T ?_
 refine AO.nil ?_
 refine AW.cond (b := (a.skater != b.skater)) rfl (fun hc => ?_) (fun hc => ?_)
 replace hH := condT hc hH
 refine AW.seq (AW.region ?_)
 refine AO.pu T ?_
 refine AO.nil (AW.ret ?_)
 cases someE hH
 exact retQ.i [] rfl (.c (.c .v))
 replace hH := condF hc hH
 refine AW.skip ?_
 iterate 2 refine AW.seq ?_
 refine AW.region ?_
 iterate 5 refine AO.pu T ?_
 refine AO.nil ?_
 refine AW.cond (b := (a.number != b.number)) rfl (fun hc => ?_) (fun hc => ?_)
 replace hH := condT hc hH
 refine AW.seq (AW.region ?_)
 refine AO.pu T ?_
 refine AO.nil (AW.ret ?_)
 cases someE hH
 exact retQ.i [] rfl (.c (.c .v))
 replace hH := condF hc hH
 refine AW.skip ?_
 refine AW.seq (AW.region ?_)
 refine AO.pu T ?_
 refine AO.nil (AW.ret ?_)
 cases someE hH
 exact retQ.i [] rfl (.c (.c .v))

def laws_eqStepS_l1 (b : List Step) : List Step → Nat → Option Bool
  | [], k1 =>
    some true
  | y2 :: ys3, k1 =>
    (getI b (k1 : Int)).bind fun x16 =>
    (laws_eqStep_p y2 x16).bind fun x18 =>
    cond (!x18)
      (some false)
      (laws_eqStepS_l1 b ys3 (k1 + 1))
def laws_eqStepS_p (a : List Step) (b : List Step) : Option Bool :=
  cond ((a.length : Int) != (b.length : Int))
    (some false)
    (laws_eqStepS_l1 b a 0)
theorem laws_eqStepS_ok (a : List Step) (b : List Step) (r : Bool) (hH : laws_eqStepS_p a b = some r) : SpecR Tryz.prog 24 [.s (List.map encStep a), .s (List.map encStep b)] (.v (.bool r)) := by
 refine fn_ok T Tryz.func24 rfl (by decide) rfl ?_
 refine AW.seq (AW.region ?_)
 refine AO.pu T ?_
 refine AO.nil ?_
 iterate 2 refine AW.seq ?_
 refine AW.region ?_
 refine AO.pu T ?_
 refine AO.val rfl rfl (len_map_ok T rfl rfl rfl) ?_
 refine AO.pu T ?_
 refine AO.val rfl rfl (len_map_ok T rfl rfl rfl) ?_
 refine AO.pu T ?_
 refine AO.nil ?_
 refine AW.cond (b := ((a.length : Int) != (b.length : Int))) rfl (fun hc => ?_) (fun hc => ?_)
 replace hH := condT hc hH
 refine AW.seq (AW.region ?_)
 refine AO.pu T ?_
 refine AO.nil (AW.ret ?_)
 cases someE hH
 exact retQ.i [] rfl (.c (.c .v))
 replace hH := condF hc hH
 refine AW.skip ?_
 iterate 2 refine AW.seq ?_
 refine AW.region ?_
 refine AO.pu T ?_
 refine AO.nil ?_
 refine AW.block ?_
 refine AW.loopS (fun s : Nat => (⟨[(0, .s (List.map encStep a)), (1, .s (List.map encStep b)), (5, (s : Int))], [], 27, []⟩ : St)) (fun s => s ≤ a.length ∧ laws_eqStepS_l1 b (a.drop s) s = some r) (fun s => a.length - s) 0 ⟨Nat.zero_le _, hH⟩ ?_ ?_
 exact Le.ct 0 0
 rintro k1 ⟨hk, hH⟩
 replace hH : laws_eqStepS_l1 b (a.drop k1) k1 = some r := hH
 try dsimp only
 refine AW.boundM (t := 0) (l := a) rfl (fun hb5 => ?_)
 rcases hd4 : a.drop k1 with _ | ⟨y2, ys3⟩
 rw [hd4, laws_eqStepS_l1] at hH
 have hlt6 := drop_ge hd4
 iterate 2 refine AW.seq ?_
 refine AW.region ?_
 iterate 2 refine AO.pu T ?_
 refine AO.val rfl rfl (len_map_ok T rfl rfl rfl) ?_
 refine AO.pu T ?_
 refine AO.nil ?_
 refine AW.condF' (b := decide ((k1 : Int) < (a.length : Int))) rfl (rngF hlt6) ?_
 refine AW.exit ?_
 refine AW.seq (AW.region ?_)
 refine AO.pu T ?_
 refine AO.nil (AW.ret ?_)
 cases someE hH
 exact retQ.i [] rfl (.c (.c .v))
 rw [hd4, laws_eqStepS_l1] at hH
 have hlt6 := drop_lt hd4
 iterate 2 refine AW.seq ?_
 refine AW.region ?_
 iterate 2 refine AO.pu T ?_
 refine AO.val rfl rfl (len_map_ok T rfl rfl rfl) ?_
 refine AO.pu T ?_
 refine AO.nil ?_
 refine AW.condT' (b := decide ((k1 : Int) < (a.length : Int))) rfl (rngT hlt6) ?_
 refine AW.skip ?_
 refine AW.seq ?_
 refine AW.block ?_
 refine AW.seq ?_
 obtain ⟨x16, hx17, hH⟩ := bindE hH
 obtain ⟨x18, hx19, hH⟩ := bindE hH
 refine AW.drawn 8 1 [] mix (by kernel_rfl) rfl ?_
 iterate 2 refine AD.pure T rfl rfl rfl ?_
 refine AD.val rfl rfl (ix_map_ok T rfl rfl rfl rfl rfl (getI_drop hd4) rfl) ?_
 refine AD.pure T (d := .g [y2.kind, y2.skater, y2.number]) rfl rfl rfl ?_
 iterate 2 refine AD.pure T rfl rfl rfl ?_
 refine AD.val rfl rfl (ix_map_ok T rfl rfl rfl rfl rfl (hx17) rfl) ?_
 refine AD.pure T (d := .g [x16.kind, x16.skater, x16.number]) rfl rfl rfl ?_
 refine AD.nil ?_
 refine AO.val rfl rfl (callV_ok rfl rfl rfl rfl (laws_eqStep_ok _ _ _ (hx19)) rfl) ?_
 refine AO.pu T ?_
 refine AO.nil ?_
 refine AW.cond (b := (!x18)) rfl (fun hc => ?_) (fun hc => ?_)
 replace hH := condT hc hH
 refine AW.seq (AW.region ?_)
 refine AO.pu T ?_
 refine AO.nil (AW.ret ?_)
 cases someE hH
 exact retQ.i [] rfl (.c (.c .v))
 replace hH := condF hc hH
 refine AW.skip ?_
 refine AW.region ?_
 refine AO.pu T ?_
 refine AO.val rfl rfl (ar_ok rfl rfl rfl rfl (inI_succ hlt6 hb5)) ?_
 refine AO.pu T ?_
 refine AO.nil ?_
 refine ⟨k1 + 1, ⟨Nat.succ_le_of_lt hlt6, (by rw [drop_succ_of hd4]; exact hH)⟩, (by have := hlt6; dsimp only; omega), ?_⟩
 exact Le.ct 0 0

def laws_markEntrantS_l1 : Nat → List Entrant → Int → Int → Option (((List Entrant) × Int))
  | 0, _, _, _ => none
  | k1 + 1, v13, v14, v15 =>
    cond (decide (v15 < (v13.length : Int)))
      ((getI v13 v15).bind fun x17 =>
      (getI (v13.set v15.toNat (Entrant.mk v14 x17.rank)) v15).bind fun x19 =>
      laws_markEntrantS_l1 k1 ((v13.set v15.toNat (Entrant.mk v14 x17.rank)).set v15.toNat (Entrant.mk x19.skater (w64 (v14 + 1)))) (w64 ((w64 (v14 + 1)) + 1)) (w64 (v15 + 1)))
      (some (v13, v14))
def laws_markEntrantS_p (fuel : Nat) (a : List Entrant) (k : Int) : Option ((List Entrant) × Int) :=
  laws_markEntrantS_l1 fuel a k 0
theorem laws_markEntrantS_ok (fuel : Nat) (a : List Entrant) (k : Int) (r : ((List Entrant) × Int)) (hH : laws_markEntrantS_p fuel a k = some r) : SpecM Tryz.prog 67 [.w 2 (a.map encEntrant), k] [.w 2 (r.1.map encEntrant), .u] (.v (.int .i64 r.2)) := by
 refine fn_okM T Tryz.func67 rfl (by decide) rfl rfl ?_
 intro L
 show AW _ _ _ (⟨[(0, .R 1), (1, k)], [(1, .row 2 (List.map encEntrant a))], 27, [(1, L 1)]⟩ : St)
 refine AW.seq (AW.region ?_)
 refine AO.pu T ?_
 refine AO.nil ?_
 iterate 2 refine AW.seq ?_
 refine AW.region ?_
 refine AO.pu T ?_
 refine AO.nil ?_
 refine AW.block ?_
 refine AW.loopS (fun s : Nat × (List Entrant) × Int × Int => (⟨[(0, .R 1), (1, s.2.2.1), (5, s.2.2.2)], [(1, .row 2 (List.map encEntrant s.2.1))], 27, [(1, L 1)]⟩ : St)) (fun s => laws_markEntrantS_l1 s.1 s.2.1 s.2.2.1 s.2.2.2 = some r) (fun s => s.1) (fuel, a, k, 0) hH ?_ ?_
 exact Le.ct 0 0 (hpin := ⟨⟨rfl, rfl⟩, trivial⟩)
 rintro ⟨k1, v13, v14, v15⟩ hH
 replace hH : laws_markEntrantS_l1 k1 v13 v14 v15 = some r := hH
 try dsimp only
 rcases k1 with _ | k1
 cases (show none = some _ from hH)
 rw [laws_markEntrantS_l1] at hH
 iterate 2 refine AW.seq ?_
 refine AW.region ?_
 iterate 2 refine AO.pu T ?_
 refine AO.val rfl rfl (len_row_ok T rfl rfl rfl rfl) ?_
 refine AO.pu T ?_
 refine AO.nil ?_
 refine AW.cond (b := decide (v15 < (v13.length : Int))) rfl (fun hc => ?_) (fun hc => ?_)
 replace hH := condT hc hH
 refine AW.skip ?_
 refine AW.seq ?_
 refine AW.block ?_
 refine AW.seq ?_
 obtain ⟨x17, hx18, hH⟩ := bindE hH
 refine AW.region ?_
 iterate 3 refine AO.pu T ?_
 refine AO.val rfl rfl (ix_row_ok T rfl rfl rfl rfl rfl rfl (hx18)) ?_
 refine AO.pu T ?_
 refine AO.step rfl (store_row_ok T rfl rfl rfl rfl rfl (getI_get (hx18)) rfl rfl rfl rfl (u' := (Entrant.mk v14 x17.rank)) rfl rfl) ?_
 refine AO.nil (AW.seq ?_)
 refine AW.region ?_
 refine AO.pu T ?_
 refine AO.val rfl rfl (arw_ok rfl rfl rfl rfl) ?_
 refine AO.pu T ?_
 refine AO.nil (AW.seq ?_)
 obtain ⟨x19, hx20, hH⟩ := bindE hH
 refine AW.region ?_
 iterate 3 refine AO.pu T ?_
 refine AO.val rfl rfl (ix_row_ok T rfl rfl rfl rfl rfl rfl (hx20)) ?_
 refine AO.pu T ?_
 refine AO.step rfl (store_row_ok T rfl rfl rfl rfl rfl (getI_get (hx20)) rfl rfl rfl rfl (u' := (Entrant.mk x19.skater (w64 (v14 + 1)))) rfl rfl) ?_
 refine AO.nil ?_
 refine AW.region ?_
 refine AO.pu T ?_
 refine AO.val rfl rfl (arw_ok rfl rfl rfl rfl) ?_
 refine AO.pu T ?_
 refine AO.nil ?_
 refine AW.region ?_
 refine AO.pu T ?_
 refine AO.val rfl rfl (arw_ok rfl rfl rfl rfl) ?_
 refine AO.pu T ?_
 refine AO.nil ?_
 refine ⟨(k1, ((v13.set v15.toNat (Entrant.mk v14 x17.rank)).set v15.toNat (Entrant.mk x19.skater (w64 (v14 + 1)))), w64 ((w64 (v14 + 1)) + 1), w64 (v15 + 1)), hH, Nat.lt_succ_self _, ?_⟩
 exact Le.ct 0 0 (hpin := ⟨⟨rfl, rfl⟩, trivial⟩)
 replace hH := condF hc hH
 refine AW.exit ?_
 refine AW.seq (AW.region ?_)
 iterate 2 refine AO.pu T ?_
 refine AO.nil (AW.ret ?_)
 cases someE hH
 exact ⟨trivial, rfl, _, [], [1], rfl, expLG_cons (.c (.rowR rfl)) (expLG_cons (.c .u) (expLG_nil)), .c (.c .v), by decide⟩

def laws_markIntS_l1 : Nat → List Int → Int → Int → Option (((List Int) × Int))
  | 0, _, _, _ => none
  | k1 + 1, v9, v10, v11 =>
    cond (decide (v11 < (v9.length : Int)))
      ((getI v9 v11).bind fun x13 =>
      laws_markIntS_l1 k1 (v9.set v11.toNat v10) (w64 (v10 + 1)) (w64 (v11 + 1)))
      (some (v9, v10))
def laws_markIntS_p (fuel : Nat) (a : List Int) (k : Int) : Option ((List Int) × Int) :=
  laws_markIntS_l1 fuel a k 0
theorem laws_markIntS_ok (fuel : Nat) (a : List Int) (k : Int) (r : ((List Int) × Int)) (hH : laws_markIntS_p fuel a k = some r) : SpecM Tryz.prog 15 [.w 1 (a.map encInt), k] [.w 1 (r.1.map encInt), .u] (.v (.int .i64 r.2)) := by
 refine fn_okM T Tryz.func15 rfl (by decide) rfl rfl ?_
 intro L
 show AW _ _ _ (⟨[(0, .R 1), (1, k)], [(1, .row 1 (List.map encInt a))], 19, [(1, L 1)]⟩ : St)
 refine AW.seq (AW.region ?_)
 refine AO.pu T ?_
 refine AO.nil ?_
 iterate 2 refine AW.seq ?_
 refine AW.region ?_
 refine AO.pu T ?_
 refine AO.nil ?_
 refine AW.block ?_
 refine AW.loopS (fun s : Nat × (List Int) × Int × Int => (⟨[(0, .R 1), (1, s.2.2.1), (5, s.2.2.2)], [(1, .row 1 (List.map encInt s.2.1))], 19, [(1, L 1)]⟩ : St)) (fun s => laws_markIntS_l1 s.1 s.2.1 s.2.2.1 s.2.2.2 = some r) (fun s => s.1) (fuel, a, k, 0) hH ?_ ?_
 exact Le.ct 0 0 (hpin := ⟨⟨rfl, rfl⟩, trivial⟩)
 rintro ⟨k1, v9, v10, v11⟩ hH
 replace hH : laws_markIntS_l1 k1 v9 v10 v11 = some r := hH
 try dsimp only
 rcases k1 with _ | k1
 cases (show none = some _ from hH)
 rw [laws_markIntS_l1] at hH
 iterate 2 refine AW.seq ?_
 refine AW.region ?_
 iterate 2 refine AO.pu T ?_
 refine AO.val rfl rfl (len_row_ok T rfl rfl rfl rfl) ?_
 refine AO.pu T ?_
 refine AO.nil ?_
 refine AW.cond (b := decide (v11 < (v9.length : Int))) rfl (fun hc => ?_) (fun hc => ?_)
 replace hH := condT hc hH
 refine AW.skip ?_
 refine AW.seq ?_
 refine AW.block ?_
 refine AW.seq ?_
 obtain ⟨x13, hx14, hH⟩ := bindE hH
 refine AW.region ?_
 iterate 3 refine AO.pu T ?_
 refine AO.val rfl rfl (ix_row_ok T rfl rfl rfl rfl rfl rfl (hx14)) ?_
 refine AO.step rfl (store_row_ok T rfl rfl rfl rfl rfl (getI_get (hx14)) rfl rfl rfl rfl (u' := v10) rfl rfl) ?_
 refine AO.nil ?_
 refine AW.region ?_
 refine AO.pu T ?_
 refine AO.val rfl rfl (arw_ok rfl rfl rfl rfl) ?_
 refine AO.pu T ?_
 refine AO.nil ?_
 refine AW.region ?_
 refine AO.pu T ?_
 refine AO.val rfl rfl (arw_ok rfl rfl rfl rfl) ?_
 refine AO.pu T ?_
 refine AO.nil ?_
 refine ⟨(k1, (v9.set v11.toNat v10), w64 (v10 + 1), w64 (v11 + 1)), hH, Nat.lt_succ_self _, ?_⟩
 exact Le.ct 0 0 (hpin := ⟨⟨rfl, rfl⟩, trivial⟩)
 replace hH := condF hc hH
 refine AW.exit ?_
 refine AW.seq (AW.region ?_)
 iterate 2 refine AO.pu T ?_
 refine AO.nil (AW.ret ?_)
 cases someE hH
 exact ⟨trivial, rfl, _, [], [1], rfl, expLG_cons (.c (.rowR rfl)) (expLG_cons (.c .u) (expLG_nil)), .c (.c .v), by decide⟩

def laws_markResultS_l1 (fuel : Nat) : Nat → List Result → Int → Int → Option (((List Result) × Int))
  | 0, _, _, _ => none
  | k1 + 1, v17, v18, v19 =>
    cond (decide (v19 < (v17.length : Int)))
      ((getI v17 v19).bind fun x21 =>
      (getI (v17.set v19.toNat (Result.mk v18 x21.scores)) v19).bind fun x23 =>
      (laws_markIntS_p fuel x23.scores (w64 (v18 + 1))).bind fun x25 =>
      laws_markResultS_l1 fuel k1 ((v17.set v19.toNat (Result.mk v18 x21.scores)).set v19.toNat (Result.mk x23.skater x25.1)) x25.2 (w64 (v19 + 1)))
      (some (v17, v18))
def laws_markResultS_p (fuel : Nat) (a : List Result) (k : Int) : Option ((List Result) × Int) :=
  laws_markResultS_l1 fuel fuel a k 0
theorem laws_markResultS_ok (fuel : Nat) (a : List Result) (k : Int) (r : ((List Result) × Int)) (hH : laws_markResultS_p fuel a k = some r) : SpecM Tryz.prog 68 [.w 2 (a.map encResultO), k] [.w 2 (r.1.map encResultO), .u] (.v (.int .i64 r.2)) := by
 refine fn_okM T Tryz.func68 rfl (by decide) rfl rfl ?_
 intro L
 show AW _ _ _ (⟨[(0, .R 1), (1, k)], [(1, .row 2 (List.map encResultO a))], 27, [(1, L 1)]⟩ : St)
 refine AW.seq (AW.region ?_)
 refine AO.pu T ?_
 refine AO.nil ?_
 iterate 2 refine AW.seq ?_
 refine AW.region ?_
 refine AO.pu T ?_
 refine AO.nil ?_
 refine AW.block ?_
 refine AW.loopS (fun s : Nat × (List Result) × Int × Int => (⟨[(0, .R 1), (1, s.2.2.1), (5, s.2.2.2)], [(1, .row 2 (List.map encResultO s.2.1))], 27, [(1, L 1)]⟩ : St)) (fun s => laws_markResultS_l1 fuel s.1 s.2.1 s.2.2.1 s.2.2.2 = some r) (fun s => s.1) (fuel, a, k, 0) hH ?_ ?_
 exact Le.ct 0 0 (hpin := ⟨⟨rfl, rfl⟩, trivial⟩)
 rintro ⟨k1, v17, v18, v19⟩ hH
 replace hH : laws_markResultS_l1 fuel k1 v17 v18 v19 = some r := hH
 try dsimp only
 rcases k1 with _ | k1
 cases (show none = some _ from hH)
 rw [laws_markResultS_l1] at hH
 iterate 2 refine AW.seq ?_
 refine AW.region ?_
 iterate 2 refine AO.pu T ?_
 refine AO.val rfl rfl (len_row_ok T rfl rfl rfl rfl) ?_
 refine AO.pu T ?_
 refine AO.nil ?_
 refine AW.cond (b := decide (v19 < (v17.length : Int))) rfl (fun hc => ?_) (fun hc => ?_)
 replace hH := condT hc hH
 refine AW.skip ?_
 refine AW.seq ?_
 refine AW.block ?_
 refine AW.seq ?_
 obtain ⟨x21, hx22, hH⟩ := bindE hH
 refine AW.region ?_
 iterate 3 refine AO.pu T ?_
 refine AO.val rfl rfl (ix_row_ok T rfl rfl rfl rfl rfl rfl (hx22)) ?_
 refine AO.pu T ?_
 refine AO.step rfl (store_row_ok T rfl rfl rfl rfl rfl (getI_get (hx22)) rfl rfl rfl rfl (u' := (Result.mk v18 x21.scores)) rfl rfl) ?_
 refine AO.nil (AW.seq ?_)
 refine AW.region ?_
 refine AO.pu T ?_
 refine AO.val rfl rfl (arw_ok rfl rfl rfl rfl) ?_
 refine AO.pu T ?_
 refine AO.nil ?_
 obtain ⟨x23, hx24, hH⟩ := bindE hH
 obtain ⟨x25, hx26, hH⟩ := bindE hH
 refine AW.le (Le.openM 1 v19.toNat 1 4 rfl (getI_get (hx24)) rfl rfl) ?_
 refine AW.region ?_
 iterate 2 refine AO.pu T ?_
 refine AO.val rfl rfl (ix_lent_ok T rfl rfl rfl rfl rfl rfl (hx24)) ?_
 refine AO.pu T ?_
 refine AO.val rfl rfl (load_lent_ok T rfl rfl rfl rfl rfl) ?_
 refine AO.pu T ?_
 refine AO.step rfl (callM_ok rfl 5 rfl rfl (es := [.w 1 (x23.scores.map encInt), .v (.int .i64 (w64 (v18 + 1)))]) (outs := [.w 1 (x25.1.map encInt), .u]) (ids := [4]) (by exact expLG_cons (.c (.rowR rfl)) (expLG_cons (.c .v) (expLG_nil))) (by decide) (.inl (by rfl)) (by rfl) (laws_markIntS_ok fuel _ _ _ (hx26)) rfl (by rfl) rfl) ?_
 refine AO.pu T ?_
 refine AO.le (Le.closeM 1 v19.toNat 1 4 rfl rfl (getI_get (hx24)) rfl (u' := (Result.mk x23.skater x25.1)) rfl) ?_
 refine AO.nil ?_
 refine AW.region ?_
 refine AO.pu T ?_
 refine AO.val rfl rfl (arw_ok rfl rfl rfl rfl) ?_
 refine AO.pu T ?_
 refine AO.nil ?_
 refine ⟨(k1, ((v17.set v19.toNat (Result.mk v18 x21.scores)).set v19.toNat (Result.mk x23.skater x25.1)), x25.2, w64 (v19 + 1)), hH, Nat.lt_succ_self _, ?_⟩
 exact Le.ct 0 0 (hpin := ⟨⟨rfl, rfl⟩, trivial⟩)
 replace hH := condF hc hH
 refine AW.exit ?_
 refine AW.seq (AW.region ?_)
 iterate 2 refine AO.pu T ?_
 refine AO.nil (AW.ret ?_)
 cases someE hH
 exact ⟨trivial, rfl, _, [], [1], rfl, expLG_cons (.c (.rowR rfl)) (expLG_cons (.c .u) (expLG_nil)), .c (.c .v), by decide⟩

def laws_markEvent_p (fuel : Nat) (a : Event) (k : Int) : Option (Event × Int) :=
  (laws_markEntrantS_p fuel a.entrants k).bind fun x1 =>
  (laws_markIntS_p fuel a.gone x1.2).bind fun x3 =>
  (laws_markIntS_p fuel a.order x3.2).bind fun x5 =>
  (laws_markResultS_p fuel a.results x5.2).bind fun x7 =>
  some ((Event.mk a.segments a.size a.key x1.1 x3.1 a.segment x5.1 x7.1), x7.2)
theorem laws_markEvent_ok (fuel : Nat) (a : Event) (k : Int) (r : (Event × Int)) (hH : laws_markEvent_p fuel a k = some r) : SpecM Tryz.prog 14 [.g (encEventO a), k] [.g [.u, .u, .u, .w 2 (r.1.entrants.map encEntrant), .w 1 (r.1.gone.map encInt), .u, .w 1 (r.1.order.map encInt), .w 2 (r.1.results.map encResultO)], .u] (.v (.int .i64 r.2)) := by
 refine fn_okM T Tryz.func14 rfl (by decide) rfl rfl ?_
 intro L
 show AW _ _ _ (⟨[(0, .g [a.segments, a.size, a.key, .R 1, .R 2, a.segment, .R 3, .R 4]), (1, k)], [(4, .row 2 (List.map encResultO a.results)), (3, .row 1 (List.map encInt a.order)), (2, .row 1 (List.map encInt a.gone)), (1, .row 2 (List.map encEntrant a.entrants))], 22, [(4, L 4), (3, L 3), (2, L 2), (1, L 1)]⟩ : St)
 refine AW.seq (AW.region ?_)
 refine AO.step rfl (box_ok T rfl 5 rfl rfl rfl rfl) ?_
 refine AO.pu T ?_
 refine AO.nil (AW.seq ?_)
 obtain ⟨x1, hx2, hH⟩ := bindE hH
 refine AW.region ?_
 iterate 3 refine AO.pu T ?_
 refine AO.step rfl (callM_ok rfl 6 rfl rfl (es := [.w 2 (a.entrants.map encEntrant), .v (.int .i64 k)]) (outs := [.w 2 (x1.1.map encEntrant), .u]) (ids := [1]) (by exact expLG_cons (.c (.rowR rfl)) (expLG_cons (.c .v) (expLG_nil))) (by decide) (.inl (by rfl)) (by rfl) (laws_markEntrantS_ok fuel _ _ _ (hx2)) rfl (by rfl) rfl) ?_
 refine AO.pu T ?_
 refine AO.nil (AW.seq ?_)
 obtain ⟨x3, hx4, hH⟩ := bindE hH
 refine AW.region ?_
 iterate 3 refine AO.pu T ?_
 refine AO.step rfl (callM_ok rfl 6 rfl rfl (es := [.w 1 (a.gone.map encInt), .v (.int .i64 x1.2)]) (outs := [.w 1 (x3.1.map encInt), .u]) (ids := [2]) (by exact expLG_cons (.c (.rowR rfl)) (expLG_cons (.c .v) (expLG_nil))) (by decide) (.inl (by rfl)) (by rfl) (laws_markIntS_ok fuel _ _ _ (hx4)) rfl (by rfl) rfl) ?_
 refine AO.pu T ?_
 refine AO.nil (AW.seq ?_)
 obtain ⟨x5, hx6, hH⟩ := bindE hH
 refine AW.region ?_
 iterate 3 refine AO.pu T ?_
 refine AO.step rfl (callM_ok rfl 6 rfl rfl (es := [.w 1 (a.order.map encInt), .v (.int .i64 x3.2)]) (outs := [.w 1 (x5.1.map encInt), .u]) (ids := [3]) (by exact expLG_cons (.c (.rowR rfl)) (expLG_cons (.c .v) (expLG_nil))) (by decide) (.inl (by rfl)) (by rfl) (laws_markIntS_ok fuel _ _ _ (hx6)) rfl (by rfl) rfl) ?_
 refine AO.pu T ?_
 refine AO.nil (AW.seq ?_)
 obtain ⟨x7, hx8, hH⟩ := bindE hH
 refine AW.region ?_
 iterate 3 refine AO.pu T ?_
 refine AO.step rfl (callM_ok rfl 6 rfl rfl (es := [.w 2 (a.results.map encResultO), .v (.int .i64 x5.2)]) (outs := [.w 2 (x7.1.map encResultO), .u]) (ids := [4]) (by exact expLG_cons (.c (.rowR rfl)) (expLG_cons (.c .v) (expLG_nil))) (by decide) (.inl (by rfl)) (by rfl) (laws_markResultS_ok fuel _ _ _ (hx8)) rfl (by rfl) rfl) ?_
 refine AO.pu T ?_
 refine AO.nil (AW.seq ?_)
 refine AW.region ?_
 iterate 2 refine AO.pu T ?_
 refine AO.nil ?_
 refine AW.le (Le.ct 0 0 (σ' := (⟨[(4, x7.2)], [(1, .row 2 (List.map encEntrant x1.1)), (2, .row 1 (List.map encInt x3.1)), (3, .row 1 (List.map encInt x5.1)), (4, .row 2 (List.map encResultO x7.1))], 22, [(4, L 4), (3, L 3), (2, L 2), (1, L 1)]⟩ : St)) (hpin := ⟨⟨rfl, rfl⟩, ⟨rfl, rfl⟩, ⟨rfl, rfl⟩, ⟨rfl, rfl⟩, trivial⟩)) ?_
 refine AW.ret ?_
 cases someE hH
 exact ⟨trivial, rfl, _, [], [1, 2, 3, 4], rfl, expLG_cons (.g (expLC_cons .u (expLC_cons .u (expLC_cons .u (expLC_cons (.rowR rfl) (expLC_cons (.rowR rfl) (expLC_cons .u (expLC_cons (.rowR rfl) (expLC_cons (.rowR rfl) (expLC_nil)))))))))) (expLG_cons (.c .u) (expLG_nil)), .c (.c .v), by decide⟩

def laws_markStepS_l1 : Nat → List Step → Int → Int → Option (((List Step) × Int))
  | 0, _, _, _ => none
  | k1 + 1, v17, v18, v19 =>
    cond (decide (v19 < (v17.length : Int)))
      ((getI v17 v19).bind fun x21 =>
      (getI (v17.set v19.toNat (Step.mk v18 x21.skater x21.number)) v19).bind fun x23 =>
      (getI ((v17.set v19.toNat (Step.mk v18 x21.skater x21.number)).set v19.toNat (Step.mk x23.kind (w64 (v18 + 1)) x23.number)) v19).bind fun x25 =>
      laws_markStepS_l1 k1 (((v17.set v19.toNat (Step.mk v18 x21.skater x21.number)).set v19.toNat (Step.mk x23.kind (w64 (v18 + 1)) x23.number)).set v19.toNat (Step.mk x25.kind x25.skater (w64 ((w64 (v18 + 1)) + 1)))) (w64 ((w64 ((w64 (v18 + 1)) + 1)) + 1)) (w64 (v19 + 1)))
      (some (v17, v18))
def laws_markStepS_p (fuel : Nat) (a : List Step) (k : Int) : Option ((List Step) × Int) :=
  laws_markStepS_l1 fuel a k 0
theorem laws_markStepS_ok (fuel : Nat) (a : List Step) (k : Int) (r : ((List Step) × Int)) (hH : laws_markStepS_p fuel a k = some r) : SpecM Tryz.prog 25 [.w 3 (a.map encStep), k] [.w 3 (r.1.map encStep), .u] (.v (.int .i64 r.2)) := by
 refine fn_okM T Tryz.func25 rfl (by decide) rfl rfl ?_
 intro L
 show AW _ _ _ (⟨[(0, .R 1), (1, k)], [(1, .row 3 (List.map encStep a))], 34, [(1, L 1)]⟩ : St)
 refine AW.seq (AW.region ?_)
 refine AO.pu T ?_
 refine AO.nil ?_
 iterate 2 refine AW.seq ?_
 refine AW.region ?_
 refine AO.pu T ?_
 refine AO.nil ?_
 refine AW.block ?_
 refine AW.loopS (fun s : Nat × (List Step) × Int × Int => (⟨[(0, .R 1), (1, s.2.2.1), (5, s.2.2.2)], [(1, .row 3 (List.map encStep s.2.1))], 34, [(1, L 1)]⟩ : St)) (fun s => laws_markStepS_l1 s.1 s.2.1 s.2.2.1 s.2.2.2 = some r) (fun s => s.1) (fuel, a, k, 0) hH ?_ ?_
 exact Le.ct 0 0 (hpin := ⟨⟨rfl, rfl⟩, trivial⟩)
 rintro ⟨k1, v17, v18, v19⟩ hH
 replace hH : laws_markStepS_l1 k1 v17 v18 v19 = some r := hH
 try dsimp only
 rcases k1 with _ | k1
 cases (show none = some _ from hH)
 rw [laws_markStepS_l1] at hH
 iterate 2 refine AW.seq ?_
 refine AW.region ?_
 iterate 2 refine AO.pu T ?_
 refine AO.val rfl rfl (len_row_ok T rfl rfl rfl rfl) ?_
 refine AO.pu T ?_
 refine AO.nil ?_
 refine AW.cond (b := decide (v19 < (v17.length : Int))) rfl (fun hc => ?_) (fun hc => ?_)
 replace hH := condT hc hH
 refine AW.skip ?_
 refine AW.seq ?_
 refine AW.block ?_
 refine AW.seq ?_
 obtain ⟨x21, hx22, hH⟩ := bindE hH
 refine AW.region ?_
 iterate 3 refine AO.pu T ?_
 refine AO.val rfl rfl (ix_row_ok T rfl rfl rfl rfl rfl rfl (hx22)) ?_
 refine AO.pu T ?_
 refine AO.step rfl (store_row_ok T rfl rfl rfl rfl rfl (getI_get (hx22)) rfl rfl rfl rfl (u' := (Step.mk v18 x21.skater x21.number)) rfl rfl) ?_
 refine AO.nil (AW.seq ?_)
 refine AW.region ?_
 refine AO.pu T ?_
 refine AO.val rfl rfl (arw_ok rfl rfl rfl rfl) ?_
 refine AO.pu T ?_
 refine AO.nil (AW.seq ?_)
 obtain ⟨x23, hx24, hH⟩ := bindE hH
 refine AW.region ?_
 iterate 3 refine AO.pu T ?_
 refine AO.val rfl rfl (ix_row_ok T rfl rfl rfl rfl rfl rfl (hx24)) ?_
 refine AO.pu T ?_
 refine AO.step rfl (store_row_ok T rfl rfl rfl rfl rfl (getI_get (hx24)) rfl rfl rfl rfl (u' := (Step.mk x23.kind (w64 (v18 + 1)) x23.number)) rfl rfl) ?_
 refine AO.nil (AW.seq ?_)
 refine AW.region ?_
 refine AO.pu T ?_
 refine AO.val rfl rfl (arw_ok rfl rfl rfl rfl) ?_
 refine AO.pu T ?_
 refine AO.nil (AW.seq ?_)
 obtain ⟨x25, hx26, hH⟩ := bindE hH
 refine AW.region ?_
 iterate 3 refine AO.pu T ?_
 refine AO.val rfl rfl (ix_row_ok T rfl rfl rfl rfl rfl rfl (hx26)) ?_
 refine AO.pu T ?_
 refine AO.step rfl (store_row_ok T rfl rfl rfl rfl rfl (getI_get (hx26)) rfl rfl rfl rfl (u' := (Step.mk x25.kind x25.skater (w64 ((w64 (v18 + 1)) + 1)))) rfl rfl) ?_
 refine AO.nil ?_
 refine AW.le (Le.ct 0 0 (σ' := (⟨[(0, .R 1), (1, w64 ((w64 (v18 + 1)) + 1)), (5, v19)], [(1, .row 3 (List.map encStep (((v17.set v19.toNat (Step.mk v18 x21.skater x21.number)).set v19.toNat (Step.mk x23.kind (w64 (v18 + 1)) x23.number)).set v19.toNat (Step.mk x25.kind x25.skater (w64 ((w64 (v18 + 1)) + 1))))))], 34, [(1, L 1)]⟩ : St)) (hpin := ⟨⟨rfl, rfl⟩, trivial⟩)) ?_
 refine AW.region ?_
 refine AO.pu T ?_
 refine AO.val rfl rfl (arw_ok rfl rfl rfl rfl) ?_
 refine AO.pu T ?_
 refine AO.nil ?_
 refine AW.region ?_
 refine AO.pu T ?_
 refine AO.val rfl rfl (arw_ok rfl rfl rfl rfl) ?_
 refine AO.pu T ?_
 refine AO.nil ?_
 refine ⟨(k1, (((v17.set v19.toNat (Step.mk v18 x21.skater x21.number)).set v19.toNat (Step.mk x23.kind (w64 (v18 + 1)) x23.number)).set v19.toNat (Step.mk x25.kind x25.skater (w64 ((w64 (v18 + 1)) + 1)))), w64 ((w64 ((w64 (v18 + 1)) + 1)) + 1), w64 (v19 + 1)), hH, Nat.lt_succ_self _, ?_⟩
 exact Le.ct 0 0 (hpin := ⟨⟨rfl, rfl⟩, trivial⟩)
 replace hH := condF hc hH
 refine AW.exit ?_
 refine AW.seq (AW.region ?_)
 iterate 2 refine AO.pu T ?_
 refine AO.nil (AW.ret ?_)
 cases someE hH
 exact ⟨trivial, rfl, _, [], [1], rfl, expLG_cons (.c (.rowR rfl)) (expLG_cons (.c .u) (expLG_nil)), .c (.c .v), by decide⟩

def laws_heldEntrantS_l1 : List Entrant → Nat → Int → Option Int
  | [], k1, v8 =>
    some v8
  | y2 :: ys3, k1, v8 =>
    cond (y2.skater != v8)
      (some (-1))
      (cond (y2.rank != (w64 (v8 + 1)))
        (some (-1))
        (laws_heldEntrantS_l1 ys3 (k1 + 1) (w64 ((w64 (v8 + 1)) + 1))))
def laws_heldEntrantS_p (a : List Entrant) (k : Int) : Option Int :=
  laws_heldEntrantS_l1 a 0 k
theorem laws_heldEntrantS_ok (a : List Entrant) (k : Int) (r : Int) (hH : laws_heldEntrantS_p a k = some r) : SpecR Tryz.prog 72 [.s (List.map encEntrant a), k] (.v (.int .i64 r)) := by
 refine fn_ok T Tryz.func72 rfl (by decide) rfl ?_
 refine AW.seq (AW.region ?_)
 refine AO.pu T ?_
 refine AO.nil ?_
 iterate 2 refine AW.seq ?_
 refine AW.region ?_
 refine AO.pu T ?_
 refine AO.nil ?_
 refine AW.block ?_
 refine AW.loopS (fun s : Nat × Int => (⟨[(0, .s (List.map encEntrant a)), (1, s.2), (5, (s.1 : Int))], [], 31, []⟩ : St)) (fun s => s.1 ≤ a.length ∧ laws_heldEntrantS_l1 (a.drop s.1) s.1 s.2 = some r) (fun s => a.length - s.1) (0, k) ⟨Nat.zero_le _, hH⟩ ?_ ?_
 exact Le.ct 0 0
 rintro ⟨k1, v8⟩ ⟨hk, hH⟩
 replace hH : laws_heldEntrantS_l1 (a.drop k1) k1 v8 = some r := hH
 try dsimp only
 refine AW.boundM (t := 0) (l := a) rfl (fun hb5 => ?_)
 rcases hd4 : a.drop k1 with _ | ⟨y2, ys3⟩
 rw [hd4, laws_heldEntrantS_l1] at hH
 have hlt6 := drop_ge hd4
 iterate 2 refine AW.seq ?_
 refine AW.region ?_
 iterate 2 refine AO.pu T ?_
 refine AO.val rfl rfl (len_map_ok T rfl rfl rfl) ?_
 refine AO.pu T ?_
 refine AO.nil ?_
 refine AW.condF' (b := decide ((k1 : Int) < (a.length : Int))) rfl (rngF hlt6) ?_
 refine AW.exit ?_
 refine AW.seq (AW.region ?_)
 iterate 2 refine AO.pu T ?_
 refine AO.nil (AW.ret ?_)
 cases someE hH
 exact retQ.i [] rfl (.c (.c .v))
 rw [hd4, laws_heldEntrantS_l1] at hH
 have hlt6 := drop_lt hd4
 iterate 2 refine AW.seq ?_
 refine AW.region ?_
 iterate 2 refine AO.pu T ?_
 refine AO.val rfl rfl (len_map_ok T rfl rfl rfl) ?_
 refine AO.pu T ?_
 refine AO.nil ?_
 refine AW.condT' (b := decide ((k1 : Int) < (a.length : Int))) rfl (rngT hlt6) ?_
 refine AW.skip ?_
 refine AW.seq ?_
 refine AW.block ?_
 iterate 2 refine AW.seq ?_
 refine AW.region ?_
 iterate 2 refine AO.pu T ?_
 refine AO.val rfl rfl (ix_map_ok T rfl rfl rfl rfl rfl (getI_drop hd4) rfl) ?_
 iterate 4 refine AO.pu T ?_
 refine AO.nil ?_
 refine AW.cond (b := (y2.skater != v8)) rfl (fun hc => ?_) (fun hc => ?_)
 replace hH := condT hc hH
 refine AW.seq (AW.region ?_)
 refine AO.pu T ?_
 refine AO.nil (AW.ret ?_)
 cases someE hH
 exact retQ.i [] rfl (.c (.c .v))
 replace hH := condF hc hH
 refine AW.skip ?_
 refine AW.seq (AW.region ?_)
 refine AO.pu T ?_
 refine AO.val rfl rfl (arw_ok rfl rfl rfl rfl) ?_
 refine AO.pu T ?_
 refine AO.nil ?_
 iterate 2 refine AW.seq ?_
 refine AW.region ?_
 iterate 2 refine AO.pu T ?_
 refine AO.val rfl rfl (ix_map_ok T rfl rfl rfl rfl rfl (getI_drop hd4) rfl) ?_
 iterate 4 refine AO.pu T ?_
 refine AO.nil ?_
 refine AW.cond (b := (y2.rank != (w64 (v8 + 1)))) rfl (fun hc => ?_) (fun hc => ?_)
 replace hH := condT hc hH
 refine AW.seq (AW.region ?_)
 refine AO.pu T ?_
 refine AO.nil (AW.ret ?_)
 cases someE hH
 exact retQ.i [] rfl (.c (.c .v))
 replace hH := condF hc hH
 refine AW.skip ?_
 refine AW.region ?_
 refine AO.pu T ?_
 refine AO.val rfl rfl (arw_ok rfl rfl rfl rfl) ?_
 refine AO.pu T ?_
 refine AO.nil ?_
 refine AW.le (Le.ct 0 0 (σ' := (⟨[(0, .s (List.map encEntrant a)), (1, w64 ((w64 (v8 + 1)) + 1)), (5, (k1 : Int))], [], 31, []⟩ : St))) ?_
 refine AW.region ?_
 refine AO.pu T ?_
 refine AO.val rfl rfl (ar_ok rfl rfl rfl rfl (inI_succ hlt6 hb5)) ?_
 refine AO.pu T ?_
 refine AO.nil ?_
 refine ⟨(k1 + 1, w64 ((w64 (v8 + 1)) + 1)), ⟨Nat.succ_le_of_lt hlt6, (by rw [drop_succ_of hd4]; exact hH)⟩, (by have := hlt6; dsimp only; omega), ?_⟩
 exact Le.ct 0 0

def laws_heldIntS_l1 : List Int → Nat → Int → Option Int
  | [], k1, v8 =>
    some v8
  | y2 :: ys3, k1, v8 =>
    cond (y2 != v8)
      (some (-1))
      (laws_heldIntS_l1 ys3 (k1 + 1) (w64 (v8 + 1)))
def laws_heldIntS_p (a : List Int) (k : Int) : Option Int :=
  laws_heldIntS_l1 a 0 k
theorem laws_heldIntS_ok (a : List Int) (k : Int) (r : Int) (hH : laws_heldIntS_p a k = some r) : SpecR Tryz.prog 16 [.s (List.map encInt a), k] (.v (.int .i64 r)) := by
 refine fn_ok T Tryz.func16 rfl (by decide) rfl ?_
 refine AW.seq (AW.region ?_)
 refine AO.pu T ?_
 refine AO.nil ?_
 iterate 2 refine AW.seq ?_
 refine AW.region ?_
 refine AO.pu T ?_
 refine AO.nil ?_
 refine AW.block ?_
 refine AW.loopS (fun s : Nat × Int => (⟨[(0, .s (List.map encInt a)), (1, s.2), (5, (s.1 : Int))], [], 21, []⟩ : St)) (fun s => s.1 ≤ a.length ∧ laws_heldIntS_l1 (a.drop s.1) s.1 s.2 = some r) (fun s => a.length - s.1) (0, k) ⟨Nat.zero_le _, hH⟩ ?_ ?_
 exact Le.ct 0 0
 rintro ⟨k1, v8⟩ ⟨hk, hH⟩
 replace hH : laws_heldIntS_l1 (a.drop k1) k1 v8 = some r := hH
 try dsimp only
 refine AW.boundM (t := 0) (l := a) rfl (fun hb5 => ?_)
 rcases hd4 : a.drop k1 with _ | ⟨y2, ys3⟩
 rw [hd4, laws_heldIntS_l1] at hH
 have hlt6 := drop_ge hd4
 iterate 2 refine AW.seq ?_
 refine AW.region ?_
 iterate 2 refine AO.pu T ?_
 refine AO.val rfl rfl (len_map_ok T rfl rfl rfl) ?_
 refine AO.pu T ?_
 refine AO.nil ?_
 refine AW.condF' (b := decide ((k1 : Int) < (a.length : Int))) rfl (rngF hlt6) ?_
 refine AW.exit ?_
 refine AW.seq (AW.region ?_)
 iterate 2 refine AO.pu T ?_
 refine AO.nil (AW.ret ?_)
 cases someE hH
 exact retQ.i [] rfl (.c (.c .v))
 rw [hd4, laws_heldIntS_l1] at hH
 have hlt6 := drop_lt hd4
 iterate 2 refine AW.seq ?_
 refine AW.region ?_
 iterate 2 refine AO.pu T ?_
 refine AO.val rfl rfl (len_map_ok T rfl rfl rfl) ?_
 refine AO.pu T ?_
 refine AO.nil ?_
 refine AW.condT' (b := decide ((k1 : Int) < (a.length : Int))) rfl (rngT hlt6) ?_
 refine AW.skip ?_
 refine AW.seq ?_
 refine AW.block ?_
 iterate 2 refine AW.seq ?_
 refine AW.region ?_
 iterate 2 refine AO.pu T ?_
 refine AO.val rfl rfl (ix_map_ok T rfl rfl rfl rfl rfl (getI_drop hd4) rfl) ?_
 iterate 3 refine AO.pu T ?_
 refine AO.nil ?_
 refine AW.cond (b := (y2 != v8)) rfl (fun hc => ?_) (fun hc => ?_)
 replace hH := condT hc hH
 refine AW.seq (AW.region ?_)
 refine AO.pu T ?_
 refine AO.nil (AW.ret ?_)
 cases someE hH
 exact retQ.i [] rfl (.c (.c .v))
 replace hH := condF hc hH
 refine AW.skip ?_
 refine AW.region ?_
 refine AO.pu T ?_
 refine AO.val rfl rfl (arw_ok rfl rfl rfl rfl) ?_
 refine AO.pu T ?_
 refine AO.nil ?_
 refine AW.region ?_
 refine AO.pu T ?_
 refine AO.val rfl rfl (ar_ok rfl rfl rfl rfl (inI_succ hlt6 hb5)) ?_
 refine AO.pu T ?_
 refine AO.nil ?_
 refine ⟨(k1 + 1, w64 (v8 + 1)), ⟨Nat.succ_le_of_lt hlt6, (by rw [drop_succ_of hd4]; exact hH)⟩, (by have := hlt6; dsimp only; omega), ?_⟩
 exact Le.ct 0 0

def laws_heldResultS_l1 : List Result → Nat → Int → Option Int
  | [], k1, v12 =>
    some v12
  | y2 :: ys3, k1, v12 =>
    cond (y2.skater != v12)
      (some (-1))
      ((laws_heldIntS_p y2.scores (w64 (v12 + 1))).bind fun x14 =>
      cond (decide (x14 < 0))
        (some (-1))
        (laws_heldResultS_l1 ys3 (k1 + 1) x14))
def laws_heldResultS_p (a : List Result) (k : Int) : Option Int :=
  laws_heldResultS_l1 a 0 k
theorem laws_heldResultS_ok (a : List Result) (k : Int) (r : Int) (hH : laws_heldResultS_p a k = some r) : SpecR Tryz.prog 73 [.s (List.map encResult a), k] (.v (.int .i64 r)) := by
 refine fn_ok T Tryz.func73 rfl (by decide) rfl ?_
 refine AW.seq (AW.region ?_)
 refine AO.pu T ?_
 refine AO.nil ?_
 iterate 2 refine AW.seq ?_
 refine AW.region ?_
 refine AO.pu T ?_
 refine AO.nil ?_
 refine AW.block ?_
 refine AW.loopS (fun s : Nat × Int => (⟨[(0, .s (List.map encResult a)), (1, s.2), (5, (s.1 : Int))], [], 31, []⟩ : St)) (fun s => s.1 ≤ a.length ∧ laws_heldResultS_l1 (a.drop s.1) s.1 s.2 = some r) (fun s => a.length - s.1) (0, k) ⟨Nat.zero_le _, hH⟩ ?_ ?_
 exact Le.ct 0 0
 rintro ⟨k1, v12⟩ ⟨hk, hH⟩
 replace hH : laws_heldResultS_l1 (a.drop k1) k1 v12 = some r := hH
 try dsimp only
 refine AW.boundM (t := 0) (l := a) rfl (fun hb5 => ?_)
 rcases hd4 : a.drop k1 with _ | ⟨y2, ys3⟩
 rw [hd4, laws_heldResultS_l1] at hH
 have hlt6 := drop_ge hd4
 iterate 2 refine AW.seq ?_
 refine AW.region ?_
 iterate 2 refine AO.pu T ?_
 refine AO.val rfl rfl (len_map_ok T rfl rfl rfl) ?_
 refine AO.pu T ?_
 refine AO.nil ?_
 refine AW.condF' (b := decide ((k1 : Int) < (a.length : Int))) rfl (rngF hlt6) ?_
 refine AW.exit ?_
 refine AW.seq (AW.region ?_)
 iterate 2 refine AO.pu T ?_
 refine AO.nil (AW.ret ?_)
 cases someE hH
 exact retQ.i [] rfl (.c (.c .v))
 rw [hd4, laws_heldResultS_l1] at hH
 have hlt6 := drop_lt hd4
 iterate 2 refine AW.seq ?_
 refine AW.region ?_
 iterate 2 refine AO.pu T ?_
 refine AO.val rfl rfl (len_map_ok T rfl rfl rfl) ?_
 refine AO.pu T ?_
 refine AO.nil ?_
 refine AW.condT' (b := decide ((k1 : Int) < (a.length : Int))) rfl (rngT hlt6) ?_
 refine AW.skip ?_
 refine AW.seq ?_
 refine AW.block ?_
 iterate 2 refine AW.seq ?_
 refine AW.region ?_
 iterate 2 refine AO.pu T ?_
 refine AO.val rfl rfl (ix_map_ok T rfl rfl rfl rfl rfl (getI_drop hd4) rfl) ?_
 iterate 4 refine AO.pu T ?_
 refine AO.nil ?_
 refine AW.cond (b := (y2.skater != v12)) rfl (fun hc => ?_) (fun hc => ?_)
 replace hH := condT hc hH
 refine AW.seq (AW.region ?_)
 refine AO.pu T ?_
 refine AO.nil (AW.ret ?_)
 cases someE hH
 exact retQ.i [] rfl (.c (.c .v))
 replace hH := condF hc hH
 refine AW.skip ?_
 refine AW.seq (AW.region ?_)
 refine AO.pu T ?_
 refine AO.val rfl rfl (arw_ok rfl rfl rfl rfl) ?_
 refine AO.pu T ?_
 refine AO.nil (AW.seq ?_)
 obtain ⟨x14, hx15, hH⟩ := bindE hH
 refine AW.region ?_
 iterate 2 refine AO.pu T ?_
 refine AO.val rfl rfl (ix_map_ok T rfl rfl rfl rfl rfl (getI_drop hd4) rfl) ?_
 iterate 3 refine AO.pu T ?_
 refine AO.val rfl rfl (callV_ok rfl rfl rfl rfl (laws_heldIntS_ok _ _ _ (hx15)) rfl) ?_
 refine AO.pu T ?_
 refine AO.nil (AW.seq ?_)
 refine AW.region ?_
 iterate 2 refine AO.pu T ?_
 refine AO.nil ?_
 refine AW.le (Le.ct 0 0 (σ' := (⟨[(0, .s (List.map encResult a)), (1, x14), (5, (k1 : Int)), (29, .v (.bool (decide (x14 < 0))))], [], 31, []⟩ : St))) ?_
 refine AW.cond (b := decide (x14 < 0)) rfl (fun hc => ?_) (fun hc => ?_)
 replace hH := condT hc hH
 refine AW.seq (AW.region ?_)
 refine AO.pu T ?_
 refine AO.nil (AW.ret ?_)
 cases someE hH
 exact retQ.i [] rfl (.c (.c .v))
 replace hH := condF hc hH
 refine AW.skip ?_
 refine AW.region ?_
 refine AO.pu T ?_
 refine AO.val rfl rfl (ar_ok rfl rfl rfl rfl (inI_succ hlt6 hb5)) ?_
 refine AO.pu T ?_
 refine AO.nil ?_
 refine ⟨(k1 + 1, x14), ⟨Nat.succ_le_of_lt hlt6, (by rw [drop_succ_of hd4]; exact hH)⟩, (by have := hlt6; dsimp only; omega), ?_⟩
 exact Le.ct 0 0

def laws_heldEvent_p (a : Event) (k : Int) : Option Int :=
  (laws_heldEntrantS_p a.entrants k).bind fun x1 =>
  cond (decide (x1 < 0))
    (some (-1))
    ((laws_heldIntS_p a.gone x1).bind fun x3 =>
    cond (decide (x3 < 0))
      (some (-1))
      ((laws_heldIntS_p a.order x3).bind fun x5 =>
      cond (decide (x5 < 0))
        (some (-1))
        ((laws_heldResultS_p a.results x5).bind fun x7 =>
        cond (decide (x7 < 0))
          (some (-1))
          (some x7))))
theorem laws_heldEvent_ok (a : Event) (k : Int) (r : Int) (hH : laws_heldEvent_p a k = some r) : SpecR Tryz.prog 19 [.g (encEvent a), k] (.v (.int .i64 r)) := by
 refine fn_ok T Tryz.func19 rfl (by decide) rfl ?_
 refine AW.seq (AW.region ?_)
 refine AO.step rfl (box_ok T rfl 1 rfl rfl rfl rfl) ?_
 refine AO.pu T ?_
 refine AO.nil (AW.seq ?_)
 obtain ⟨x1, hx2, hH⟩ := bindE hH
 refine AW.region ?_
 iterate 3 refine AO.pu T ?_
 refine AO.val rfl rfl (callV_ok rfl rfl rfl rfl (laws_heldEntrantS_ok _ _ _ (hx2)) rfl) ?_
 refine AO.pu T ?_
 refine AO.nil ?_
 iterate 2 refine AW.seq ?_
 refine AW.region ?_
 iterate 2 refine AO.pu T ?_
 refine AO.nil ?_
 refine AW.cond (b := decide (x1 < 0)) rfl (fun hc => ?_) (fun hc => ?_)
 replace hH := condT hc hH
 refine AW.seq (AW.region ?_)
 refine AO.pu T ?_
 refine AO.nil (AW.ret ?_)
 cases someE hH
 exact retQ.i [] rfl (.c (.c .v))
 replace hH := condF hc hH
 refine AW.skip ?_
 refine AW.seq ?_
 obtain ⟨x3, hx4, hH⟩ := bindE hH
 refine AW.region ?_
 iterate 3 refine AO.pu T ?_
 refine AO.val rfl rfl (callV_ok rfl rfl rfl rfl (laws_heldIntS_ok _ _ _ (hx4)) rfl) ?_
 refine AO.pu T ?_
 refine AO.nil ?_
 iterate 2 refine AW.seq ?_
 refine AW.region ?_
 iterate 2 refine AO.pu T ?_
 refine AO.nil ?_
 refine AW.cond (b := decide (x3 < 0)) rfl (fun hc => ?_) (fun hc => ?_)
 replace hH := condT hc hH
 refine AW.seq (AW.region ?_)
 refine AO.pu T ?_
 refine AO.nil (AW.ret ?_)
 cases someE hH
 exact retQ.i [] rfl (.c (.c .v))
 replace hH := condF hc hH
 refine AW.skip ?_
 refine AW.seq ?_
 obtain ⟨x5, hx6, hH⟩ := bindE hH
 refine AW.region ?_
 iterate 3 refine AO.pu T ?_
 refine AO.val rfl rfl (callV_ok rfl rfl rfl rfl (laws_heldIntS_ok _ _ _ (hx6)) rfl) ?_
 refine AO.pu T ?_
 refine AO.nil ?_
 iterate 2 refine AW.seq ?_
 refine AW.region ?_
 iterate 2 refine AO.pu T ?_
 refine AO.nil ?_
 refine AW.cond (b := decide (x5 < 0)) rfl (fun hc => ?_) (fun hc => ?_)
 replace hH := condT hc hH
 refine AW.seq (AW.region ?_)
 refine AO.pu T ?_
 refine AO.nil ?_
 refine AW.le (Le.ct 0 0 (σ' := (⟨[(4, (-1 : Int))], [], 30, []⟩ : St))) ?_
 refine AW.ret ?_
 cases someE hH
 exact retQ.i [] rfl (.c (.c .v))
 replace hH := condF hc hH
 refine AW.skip ?_
 refine AW.seq ?_
 obtain ⟨x7, hx8, hH⟩ := bindE hH
 refine AW.region ?_
 iterate 3 refine AO.pu T ?_
 refine AO.val rfl rfl (callV_ok rfl rfl rfl rfl (laws_heldResultS_ok _ _ _ (hx8)) rfl) ?_
 refine AO.pu T ?_
 refine AO.nil ?_
 refine AW.le (Le.ct 0 0 (σ' := (⟨[(1, x7)], [], 30, []⟩ : St))) ?_
 iterate 2 refine AW.seq ?_
 refine AW.region ?_
 iterate 2 refine AO.pu T ?_
 refine AO.nil ?_
 refine AW.cond (b := decide (x7 < 0)) rfl (fun hc => ?_) (fun hc => ?_)
 replace hH := condT hc hH
 refine AW.seq (AW.region ?_)
 refine AO.pu T ?_
 refine AO.nil (AW.ret ?_)
 cases someE hH
 exact retQ.i [] rfl (.c (.c .v))
 replace hH := condF hc hH
 refine AW.skip ?_
 refine AW.seq (AW.region ?_)
 iterate 2 refine AO.pu T ?_
 refine AO.nil (AW.ret ?_)
 cases someE hH
 exact retQ.i [] rfl (.c (.c .v))

def laws_FnExactRunSteps_p (fuel : Nat) (aE : Event) (aL : List Step) : Option Bool :=
  (laws_szEvent_p aE 1048576).bind fun x1 =>
  cond (decide (x1 < 0))
    (some true)
    ((laws_szStepS_p aL x1).bind fun x3 =>
    cond (decide (x3 < 0))
      (some true)
      ((laws_toEvent_p aE).bind fun x5 =>
      (laws_toStepS_p aL).bind fun x7 =>
      (spec_RunSteps_p fuel x5 x7).bind fun x9 =>
      (impl_RunSteps_p fuel x5 x7).bind fun x11 =>
      (laws_eqEvent_p (Event.mk x11.1.segments x11.1.size x11.1.key x11.1.entrants x11.1.gone x11.1.segment x11.1.order x11.1.results) (Event.mk x9.1.segments x9.1.size x9.1.key x9.1.entrants x9.1.gone x9.1.segment x9.1.order x9.1.results)).bind fun x13 =>
      cond (((!x13) || (x11.2.1 != x9.2.1)) || (!(x11.2.2 == x9.2.2)))
        (some false)
        ((laws_eqEvent_p x5 x5).bind fun x15 =>
        cond (!x15)
          (some false)
          ((laws_eqStepS_p x7 x7).bind fun x17 =>
          cond (!x17)
            (some false)
            ((laws_markEvent_p fuel x5 1).bind fun x19 =>
            (laws_markStepS_p fuel x7 x19.2).bind fun x21 =>
            cond (((decide (x21.2 < 0) || (!x13)) || (x11.2.1 != x9.2.1)) || (!(x11.2.2 == x9.2.2)))
              (some false)
              ((laws_markEvent_p fuel (Event.mk x11.1.segments x11.1.size x11.1.key x11.1.entrants x11.1.gone x11.1.segment x11.1.order x11.1.results) 1).bind fun x23 =>
              (laws_heldEvent_p (Event.mk x11.1.segments x11.1.size x11.1.key x23.1.entrants x23.1.gone x11.1.segment x23.1.order x23.1.results) 1).bind fun x25 =>
              cond (decide (x25 < 0))
                (some false)
                (cond (x25 != x23.2)
                  (some false)
                  (cond (((!x13) || (x11.2.1 != x9.2.1)) || (!(x11.2.2 == x9.2.2)))
                    (some false)
                    (cond (decide (x25 < 0))
                      (some false)
                      (cond (x25 != x23.2)
                        (some false)
                        (some true)))))))))))
theorem laws_FnExactRunSteps_ok (fuel : Nat) (aE : Event) (aL : List Step) (r : Bool) (hH : laws_FnExactRunSteps_p fuel aE aL = some r) : SpecR Tryz.prog 5 [.g (encEvent aE), .s (List.map encStep aL)] (.v (.bool r)) := by
 refine fn_ok T Tryz.func5 rfl (by decide) rfl ?_
 refine AW.seq (AW.region ?_)
 refine AO.step rfl (box_ok T rfl 1 rfl rfl rfl rfl) ?_
 refine AO.pu T ?_
 refine AO.nil (AW.seq ?_)
 refine AW.region ?_
 refine AO.pu T ?_
 refine AO.nil (AW.seq ?_)
 obtain ⟨x1, hx2, hH⟩ := bindE hH
 refine AW.region ?_
 refine AO.pu T (d := .g [aE.segments, aE.size, aE.key, .s (List.map encEntrant aE.entrants), .s (List.map encInt aE.gone), aE.segment, .s (List.map encInt aE.order), .s (List.map encResult aE.results)]) ?_
 refine AO.pu T ?_
 refine AO.val rfl rfl (callV_ok rfl rfl rfl rfl (laws_szEvent_ok _ _ _ (hx2)) rfl) ?_
 refine AO.pu T ?_
 refine AO.nil ?_
 iterate 2 refine AW.seq ?_
 refine AW.region ?_
 iterate 2 refine AO.pu T ?_
 refine AO.nil ?_
 refine AW.cond (b := decide (x1 < 0)) rfl (fun hc => ?_) (fun hc => ?_)
 replace hH := condT hc hH
 refine AW.seq (AW.region ?_)
 refine AO.pu T ?_
 refine AO.nil (AW.ret ?_)
 cases someE hH
 exact retQ.i [] rfl (.c (.c .v))
 replace hH := condF hc hH
 refine AW.skip ?_
 refine AW.seq ?_
 obtain ⟨x3, hx4, hH⟩ := bindE hH
 refine AW.region ?_
 iterate 2 refine AO.pu T ?_
 refine AO.val rfl rfl (callV_ok rfl rfl rfl rfl (laws_szStepS_ok _ _ _ (hx4)) rfl) ?_
 refine AO.pu T ?_
 refine AO.nil ?_
 iterate 2 refine AW.seq ?_
 refine AW.region ?_
 iterate 2 refine AO.pu T ?_
 refine AO.nil ?_
 refine AW.cond (b := decide (x3 < 0)) rfl (fun hc => ?_) (fun hc => ?_)
 replace hH := condT hc hH
 refine AW.seq (AW.region ?_)
 refine AO.pu T ?_
 refine AO.nil (AW.ret ?_)
 cases someE hH
 exact retQ.i [] rfl (.c (.c .v))
 replace hH := condF hc hH
 refine AW.skip ?_
 refine AW.seq ?_
 obtain ⟨x5, hx6, hH⟩ := bindE hH
 obtain ⟨x7, hx8, hH⟩ := bindE hH
 obtain ⟨x9, hx10, hH⟩ := bindE hH
 refine AW.region ?_
 refine AO.pu T (d := .g [aE.segments, aE.size, aE.key, .s (List.map encEntrant aE.entrants), .s (List.map encInt aE.gone), aE.segment, .s (List.map encInt aE.order), .s (List.map encResult aE.results)]) ?_
 refine AO.val rfl rfl (callF_ok rfl rfl rfl rfl (laws_toEvent_ok _ _ (hx6)) (.c (.g (frzEvent _)))) ?_
 refine AO.pu T ?_
 refine AO.val rfl rfl (callF_ok rfl rfl rfl rfl (laws_toStepS_ok _ _ (hx8)) (.c (.c (.map fun y => .vs rfl)))) ?_
 refine AO.val rfl rfl (callV_ok rfl rfl rfl rfl (spec_RunSteps_ok fuel _ _ _ (hx10)) rfl) ?_
 refine AO.pu T ?_
 refine AO.pu T (d := .g [x9.1.segments, x9.1.size, x9.1.key, .s (List.map encEntrant x9.1.entrants), .s (List.map encInt x9.1.gone), x9.1.segment, .s (List.map encInt x9.1.order), .s (List.map encResult x9.1.results)]) ?_
 iterate 2 refine AO.pu T ?_
 refine AO.step rfl (alloc_ok T rfl 2 rfl rfl rfl rfl rfl) ?_
 refine AO.se T [x9.1.segments, x9.1.size, x9.1.key, .s (List.map encEntrant x9.1.entrants), .s (List.map encInt x9.1.gone), x9.1.segment, .s (List.map encInt x9.1.order), .s (List.map encResult x9.1.results)] ?_
 iterate 2 refine AO.pu T ?_
 refine AO.nil ?_
 refine AW.le (Le.ct 0 0 (σ' := (⟨[(1, .s (List.map encStep aL)), (2, .p 1 0), (6, .p 2 0), (7, x9.2.1), (8, .v (.bool x9.2.2))], [(1, .box [aE.segments, aE.size, aE.key, .s (List.map encEntrant aE.entrants), .s (List.map encInt aE.gone), aE.segment, .s (List.map encInt aE.order), .s (List.map encResult aE.results)]), (2, .box [x9.1.segments, x9.1.size, x9.1.key, .s (List.map encEntrant x9.1.entrants), .s (List.map encInt x9.1.gone), x9.1.segment, .s (List.map encInt x9.1.order), .s (List.map encResult x9.1.results)])], 140, []⟩ : St))) ?_
 refine AW.seq (AW.region ?_)
 refine AO.pu T (d := .g [aE.segments, aE.size, aE.key, .s (List.map encEntrant aE.entrants), .s (List.map encInt aE.gone), aE.segment, .s (List.map encInt aE.order), .s (List.map encResult aE.results)]) ?_
 refine AO.step rfl (call_ok rfl 3 rfl rfl rfl (laws_toEvent_ok _ _ (hx6)) rfl rfl rfl) ?_
 refine AO.step rfl (alloc_ok T rfl 7 rfl rfl rfl rfl rfl) ?_
 refine AO.se T [x5.segments, x5.size, x5.key, .R 3, .R 4, x5.segment, .R 5, .R 6] ?_
 refine AO.nil (AW.seq ?_)
 refine AW.region ?_
 refine AO.pu T ?_
 refine AO.step rfl (call_ok rfl 8 rfl rfl rfl (laws_toStepS_ok _ _ (hx8)) rfl rfl rfl) ?_
 refine AO.pu T ?_
 refine AO.nil (AW.seq ?_)
 obtain ⟨x11, hx12, hH⟩ := bindE hH
 refine AW.region ?_
 refine AO.pu T (d := .g [x5.segments, x5.size, x5.key, .R 3, .R 4, x5.segment, .R 5, .R 6]) ?_
 refine AO.pu T ?_
 refine AO.step rfl (callL_ok rfl 9 rfl rfl (es := [.g (encEvent x5), .s (List.map encStep x7)]) (by exact ⟨lend_g (LendL.cons (.free rfl) (LendL.cons (.free rfl) (LendL.cons (.free rfl) (LendL.cons ((.rowR rfl (.map fun y => .vs rfl))) (LendL.cons ((.rowR rfl (.map fun y => .vs rfl))) (LendL.cons (.free rfl) (LendL.cons ((.rowR rfl (.map fun y => .vs rfl))) (LendL.cons ((.rowR rfl (.map fun y => frzResult y))) LendL.nil)))))))), (.rowR rfl (.map fun y => .vs rfl)), trivial⟩) (impl_RunSteps_ok fuel _ _ _ (hx12)) (zfree_t (zfl (.cons (zfree_g (zfl (.cons (zfree_v _) (.cons (zfree_v _) (.cons (zfree_v _) (.cons (zfree_map (fun y => (.cons (zfree_v _) (.cons (zfree_v _) .nil)))) (.cons (zfree_map (fun y => (.cons (zfree_v _) .nil))) (.cons (zfree_v _) (.cons (zfree_map (fun y => (.cons (zfree_v _) .nil))) (.cons (zfree_map (fun y => (.cons (zfree_v _) (.cons (zfree_map (fun y => (.cons (zfree_v _) .nil))) .nil)))) .nil)))))))))) (.cons (zfree_v _) (.cons (zfree_v _) .nil))))) rfl rfl rfl) ?_
 refine AO.pu T ?_
 refine AO.pu T (d := .g [x11.1.segments, x11.1.size, x11.1.key, .R 9, .R 10, x11.1.segment, .R 11, .R 12]) ?_
 iterate 2 refine AO.pu T ?_
 refine AO.step rfl (alloc_ok T rfl 13 rfl rfl rfl rfl rfl) ?_
 refine AO.se T [x11.1.segments, x11.1.size, x11.1.key, .R 9, .R 10, x11.1.segment, .R 11, .R 12] ?_
 iterate 2 refine AO.pu T ?_
 refine AO.nil ?_
 iterate 2 refine AW.seq ?_
 obtain ⟨x13, hx14, hH⟩ := bindE hH
 refine AW.region ?_
 refine AO.pu T (d := .g [x11.1.segments, x11.1.size, x11.1.key, .R 9, .R 10, x11.1.segment, .R 11, .R 12]) ?_
 refine AO.pu T (d := .g [x9.1.segments, x9.1.size, x9.1.key, .s (List.map encEntrant x9.1.entrants), .s (List.map encInt x9.1.gone), x9.1.segment, .s (List.map encInt x9.1.order), .s (List.map encResult x9.1.results)]) ?_
 refine AO.val rfl rfl (callLV_ok rfl rfl rfl (es := [.g (encEvent (Event.mk x11.1.segments x11.1.size x11.1.key x11.1.entrants x11.1.gone x11.1.segment x11.1.order x11.1.results)), .g (encEvent (Event.mk x9.1.segments x9.1.size x9.1.key x9.1.entrants x9.1.gone x9.1.segment x9.1.order x9.1.results))]) ⟨lend_g (LendL.cons (.free rfl) (LendL.cons (.free rfl) (LendL.cons (.free rfl) (LendL.cons ((.rowR rfl (.map fun y => .vs rfl))) (LendL.cons ((.rowR rfl (.map fun y => .vs rfl))) (LendL.cons (.free rfl) (LendL.cons ((.rowR rfl (.map fun y => .vs rfl))) (LendL.cons ((.rowR rfl (.map fun y => frzResult y))) LendL.nil)))))))), .free rfl, trivial⟩ (laws_eqEvent_ok _ _ _ (hx14)) (zfree_v _) rfl) ?_
 iterate 2 refine AO.pu T ?_
 iterate 2 refine AO.pureG T [] rfl trivial rfl rfl ?_
 refine AO.pureG T [55, 56] rfl ⟨fun h => h, fun h => h, trivial⟩ rfl rfl ?_
 refine AO.val rfl rfl (pick_or rfl rfl rfl rfl) ?_
 refine AO.pu T ?_
 iterate 2 refine AO.pureG T [] rfl trivial rfl rfl ?_
 refine AO.pureG T [60, 61] rfl ⟨fun h => h, fun h => h, trivial⟩ rfl rfl ?_
 refine AO.val rfl rfl (pick_or rfl rfl rfl rfl) ?_
 refine AO.nil ?_
 refine AW.le (Le.ct 0 0 (σ' := (⟨[(1, .s (List.map encStep aL)), (2, .p 1 0), (6, .p 2 0), (7, x9.2.1), (8, .v (.bool x9.2.2)), (9, .p 7 0), (10, .R 8), (11, .p 13 0), (12, x11.2.1), (13, .v (.bool x11.2.2)), (63, .v (.bool (((!x13) || (x11.2.1 != x9.2.1)) || (!(x11.2.2 == x9.2.2)))))], [(1, .box [aE.segments, aE.size, aE.key, .s (List.map encEntrant aE.entrants), .s (List.map encInt aE.gone), aE.segment, .s (List.map encInt aE.order), .s (List.map encResult aE.results)]), (2, .box [x9.1.segments, x9.1.size, x9.1.key, .s (List.map encEntrant x9.1.entrants), .s (List.map encInt x9.1.gone), x9.1.segment, .s (List.map encInt x9.1.order), .s (List.map encResult x9.1.results)]), (3, .row 2 (List.map encEntrant x5.entrants)), (4, .row 1 (List.map encInt x5.gone)), (5, .row 1 (List.map encInt x5.order)), (6, .row 2 (List.map encResultO x5.results)), (7, .box [x5.segments, x5.size, x5.key, .R 3, .R 4, x5.segment, .R 5, .R 6]), (8, .row 3 (List.map encStep x7)), (9, .row 2 (List.map encEntrant x11.1.entrants)), (10, .row 1 (List.map encInt x11.1.gone)), (11, .row 1 (List.map encInt x11.1.order)), (12, .row 2 (List.map encResultO x11.1.results)), (13, .box [x11.1.segments, x11.1.size, x11.1.key, .R 9, .R 10, x11.1.segment, .R 11, .R 12])], 140, []⟩ : St))) ?_
 refine AW.cond (b := (((!x13) || (x11.2.1 != x9.2.1)) || (!(x11.2.2 == x9.2.2)))) rfl (fun hc => ?_) (fun hc => ?_)
 replace hH := condT hc hH
 refine AW.seq (AW.region ?_)
 refine AO.pu T ?_
 refine AO.nil (AW.ret ?_)
 cases someE hH
 exact retQ.i [] rfl (.c (.c .v))
 replace hH := condF hc hH
 refine AW.skip ?_
 iterate 2 refine AW.seq ?_
 obtain ⟨x15, hx16, hH⟩ := bindE hH
 refine AW.drawn 3 14 [] mix (by kernel_rfl) rfl ?_
 refine AD.pure T (d := .g [x5.segments, x5.size, x5.key, .R 3, .R 4, x5.segment, .R 5, .R 6]) rfl rfl rfl ?_
 refine AD.pure T (d := .g [aE.segments, aE.size, aE.key, .s (List.map encEntrant aE.entrants), .s (List.map encInt aE.gone), aE.segment, .s (List.map encInt aE.order), .s (List.map encResult aE.results)]) rfl rfl rfl ?_
 refine AD.q (FStep.call rfl rfl rfl rfl rfl (laws_toEvent_ok _ _ (hx6)) rfl rfl) (impT_names _ _) (impT_le _ _) rfl ?_
 refine AD.nil ?_
 refine AO.val rfl rfl (callLV_ok rfl rfl rfl (es := [.g (encEvent x5), .g (encEvent x5)]) ⟨lend_g (LendL.cons (.free rfl) (LendL.cons (.free rfl) (LendL.cons (.free rfl) (LendL.cons ((.rowR rfl (.map fun y => .vs rfl))) (LendL.cons ((.rowR rfl (.map fun y => .vs rfl))) (LendL.cons (.free rfl) (LendL.cons ((.rowR rfl (.map fun y => .vs rfl))) (LendL.cons ((.rowR rfl (.map fun y => frzResult y))) LendL.nil)))))))), lend_g (LendL.cons (.free rfl) (LendL.cons (.free rfl) (LendL.cons (.free rfl) (LendL.cons ((.rowR rfl (.map fun y => .vs rfl))) (LendL.cons ((.rowR rfl (.map fun y => .vs rfl))) (LendL.cons (.free rfl) (LendL.cons ((.rowR rfl (.map fun y => .vs rfl))) (LendL.cons ((.rowR rfl (.map fun y => frzResult y))) LendL.nil)))))))), trivial⟩ (laws_eqEvent_ok _ _ _ (hx16)) (zfree_v _) rfl) ?_
 refine AO.pu T ?_
 refine AO.nil ?_
 refine AW.cond (b := (!x15)) rfl (fun hc => ?_) (fun hc => ?_)
 replace hH := condT hc hH
 refine AW.seq (AW.region ?_)
 refine AO.pu T ?_
 refine AO.nil (AW.ret ?_)
 cases someE hH
 exact retQ.i [] rfl (.c (.c .v))
 replace hH := condF hc hH
 refine AW.skip ?_
 iterate 2 refine AW.seq ?_
 obtain ⟨x17, hx18, hH⟩ := bindE hH
 refine AW.region ?_
 iterate 2 refine AO.pu T ?_
 refine AO.step rfl (call_ok rfl 18 rfl rfl rfl (laws_toStepS_ok _ _ (hx8)) rfl rfl rfl) ?_
 refine AO.val rfl rfl (callLV_ok rfl rfl rfl (es := [.s (List.map encStep x7), .s (List.map encStep x7)]) ⟨(.rowR rfl (.map fun y => .vs rfl)), (.rowR rfl (.map fun y => .vs rfl)), trivial⟩ (laws_eqStepS_ok _ _ _ (hx18)) (zfree_v _) rfl) ?_
 refine AO.pu T ?_
 refine AO.nil ?_
 refine AW.cond (b := (!x17)) rfl (fun hc => ?_) (fun hc => ?_)
 replace hH := condT hc hH
 refine AW.seq (AW.region ?_)
 refine AO.pu T ?_
 refine AO.nil (AW.ret ?_)
 cases someE hH
 exact retQ.i [] rfl (.c (.c .v))
 replace hH := condF hc hH
 refine AW.skip ?_
 refine AW.seq (AW.region ?_)
 refine AO.pu T ?_
 refine AO.nil (AW.seq ?_)
 obtain ⟨x19, hx20, hH⟩ := bindE hH
 refine AW.region ?_
 refine AO.pu T (d := .g [x5.segments, x5.size, x5.key, .R 3, .R 4, x5.segment, .R 5, .R 6]) ?_
 refine AO.pu T ?_
 refine AO.step rfl (callM_ok rfl 19 rfl rfl (es := [.g (encEventO x5), .v (.int .i64 1)]) (outs := [.g [.u, .u, .u, .w 2 (x19.1.entrants.map encEntrant), .w 1 (x19.1.gone.map encInt), .u, .w 1 (x19.1.order.map encInt), .w 2 (x19.1.results.map encResultO)], .u]) (ids := [3, 4, 5, 6]) (by exact expLG_cons (.g (expLC_cons .v (expLC_cons .v (expLC_cons .v (expLC_cons (.rowR rfl) (expLC_cons (.rowR rfl) (expLC_cons .v (expLC_cons (.rowR rfl) (expLC_cons (.rowR rfl) (expLC_nil)))))))))) (expLG_cons (.c .v) (expLG_nil))) (by decide) (.inl (by rfl)) (by rfl) (laws_markEvent_ok fuel _ _ _ (hx20)) rfl (by rfl) rfl) ?_
 refine AO.pu T ?_
 refine AO.nil (AW.seq ?_)
 obtain ⟨x21, hx22, hH⟩ := bindE hH
 refine AW.region ?_
 iterate 2 refine AO.pu T ?_
 refine AO.step rfl (callM_ok rfl 19 rfl rfl (es := [.w 3 (x7.map encStep), .v (.int .i64 x19.2)]) (outs := [.w 3 (x21.1.map encStep), .u]) (ids := [8]) (by exact expLG_cons (.c (.rowR rfl)) (expLG_cons (.c .v) (expLG_nil))) (by decide) (.inl (by rfl)) (by rfl) (laws_markStepS_ok fuel _ _ _ (hx22)) rfl (by rfl) rfl) ?_
 refine AO.pu T ?_
 refine AO.nil ?_
 iterate 2 refine AW.seq ?_
 refine AW.region ?_
 iterate 3 refine AO.pu T ?_
 refine AO.pureG T (d := .g [x11.1.segments, x11.1.size, x11.1.key, .R 9, .R 10, x11.1.segment, .R 11, .R 12]) [] rfl trivial rfl rfl ?_
 refine AO.pureG T (d := .g [x9.1.segments, x9.1.size, x9.1.key, .s (List.map encEntrant x9.1.entrants), .s (List.map encInt x9.1.gone), x9.1.segment, .s (List.map encInt x9.1.order), .s (List.map encResult x9.1.results)]) [] rfl trivial rfl rfl ?_
 refine AO.guard [83, 84] rfl ⟨fun h => h, fun h => h, trivial⟩ (fun hg => callLV_ok rfl rfl rfl (es := [.g (encEvent (Event.mk x11.1.segments x11.1.size x11.1.key x11.1.entrants x11.1.gone x11.1.segment x11.1.order x11.1.results)), .g (encEvent (Event.mk x9.1.segments x9.1.size x9.1.key x9.1.entrants x9.1.gone x9.1.segment x9.1.order x9.1.results))]) ⟨lend_g (LendL.cons (.free rfl) (LendL.cons (.free rfl) (LendL.cons (.free rfl) (LendL.cons ((.rowR rfl (.map fun y => .vs rfl))) (LendL.cons ((.rowR rfl (.map fun y => .vs rfl))) (LendL.cons (.free rfl) (LendL.cons ((.rowR rfl (.map fun y => .vs rfl))) (LendL.cons ((.rowR rfl (.map fun y => frzResult y))) LendL.nil)))))))), .free rfl, trivial⟩ (laws_eqEvent_ok _ _ _ (hx14)) (zfree_v _) rfl) rfl ?_
 refine AO.pureG T [85] rfl ⟨fun h => h, trivial⟩ rfl rfl ?_
 refine AO.val rfl rfl (pick_or rfl rfl rfl rfl) ?_
 refine AO.pu T ?_
 iterate 2 refine AO.pureG T [] rfl trivial rfl rfl ?_
 refine AO.pureG T [89, 90] rfl ⟨fun h => h, fun h => h, trivial⟩ rfl rfl ?_
 refine AO.val rfl rfl (pick_or rfl rfl rfl rfl) ?_
 refine AO.pu T ?_
 iterate 2 refine AO.pureG T [] rfl trivial rfl rfl ?_
 refine AO.pureG T [94, 95] rfl ⟨fun h => h, fun h => h, trivial⟩ rfl rfl ?_
 refine AO.val rfl rfl (pick_or rfl rfl rfl rfl) ?_
 refine AO.nil ?_
 refine AW.le (Le.ct 0 0 (σ' := (⟨[(1, .s (List.map encStep aL)), (2, .p 1 0), (6, .p 2 0), (7, x9.2.1), (8, .v (.bool x9.2.2)), (11, .p 13 0), (97, .v (.bool (((decide (x21.2 < 0) || (!x13)) || (x11.2.1 != x9.2.1)) || (!(x11.2.2 == x9.2.2)))))], [(1, .box [aE.segments, aE.size, aE.key, .s (List.map encEntrant aE.entrants), .s (List.map encInt aE.gone), aE.segment, .s (List.map encInt aE.order), .s (List.map encResult aE.results)]), (2, .box [x9.1.segments, x9.1.size, x9.1.key, .s (List.map encEntrant x9.1.entrants), .s (List.map encInt x9.1.gone), x9.1.segment, .s (List.map encInt x9.1.order), .s (List.map encResult x9.1.results)]), (9, .row 2 (List.map encEntrant x11.1.entrants)), (10, .row 1 (List.map encInt x11.1.gone)), (11, .row 1 (List.map encInt x11.1.order)), (12, .row 2 (List.map encResultO x11.1.results)), (13, .box [x11.1.segments, x11.1.size, x11.1.key, .R 9, .R 10, x11.1.segment, .R 11, .R 12])], 140, []⟩ : St))) ?_
 refine AW.cond (b := (((decide (x21.2 < 0) || (!x13)) || (x11.2.1 != x9.2.1)) || (!(x11.2.2 == x9.2.2)))) rfl (fun hc => ?_) (fun hc => ?_)
 replace hH := condT hc hH
 refine AW.seq (AW.region ?_)
 refine AO.pu T ?_
 refine AO.nil (AW.ret ?_)
 cases someE hH
 exact retQ.i [] rfl (.c (.c .v))
 replace hH := condF hc hH
 refine AW.skip ?_
 refine AW.seq (AW.region ?_)
 refine AO.pu T ?_
 refine AO.nil (AW.seq ?_)
 obtain ⟨x23, hx24, hH⟩ := bindE hH
 refine AW.region ?_
 refine AO.pu T (d := .g [x11.1.segments, x11.1.size, x11.1.key, .R 9, .R 10, x11.1.segment, .R 11, .R 12]) ?_
 refine AO.pu T ?_
 refine AO.step rfl (callM_ok rfl 19 rfl rfl (es := [.g (encEventO (Event.mk x11.1.segments x11.1.size x11.1.key x11.1.entrants x11.1.gone x11.1.segment x11.1.order x11.1.results)), .v (.int .i64 1)]) (outs := [.g [.u, .u, .u, .w 2 (x23.1.entrants.map encEntrant), .w 1 (x23.1.gone.map encInt), .u, .w 1 (x23.1.order.map encInt), .w 2 (x23.1.results.map encResultO)], .u]) (ids := [9, 10, 11, 12]) (by exact expLG_cons (.g (expLC_cons .v (expLC_cons .v (expLC_cons .v (expLC_cons (.rowR rfl) (expLC_cons (.rowR rfl) (expLC_cons .v (expLC_cons (.rowR rfl) (expLC_cons (.rowR rfl) (expLC_nil)))))))))) (expLG_cons (.c .v) (expLG_nil))) (by decide) (.inl (by rfl)) (by rfl) (laws_markEvent_ok fuel _ _ _ (hx24)) rfl (by rfl) rfl) ?_
 refine AO.pu T ?_
 refine AO.nil (AW.seq ?_)
 refine AW.region ?_
 refine AO.pu T ?_
 refine AO.nil (AW.seq ?_)
 obtain ⟨x25, hx26, hH⟩ := bindE hH
 refine AW.region ?_
 refine AO.pu T (d := .g [x11.1.segments, x11.1.size, x11.1.key, .R 9, .R 10, x11.1.segment, .R 11, .R 12]) ?_
 refine AO.pu T ?_
 refine AO.val rfl rfl (callLV_ok rfl rfl rfl (es := [.g (encEvent (Event.mk x11.1.segments x11.1.size x11.1.key x23.1.entrants x23.1.gone x11.1.segment x23.1.order x23.1.results)), (1 : Int)]) ⟨lend_g (LendL.cons (.free rfl) (LendL.cons (.free rfl) (LendL.cons (.free rfl) (LendL.cons ((.rowR rfl (.map fun y => .vs rfl))) (LendL.cons ((.rowR rfl (.map fun y => .vs rfl))) (LendL.cons (.free rfl) (LendL.cons ((.rowR rfl (.map fun y => .vs rfl))) (LendL.cons ((.rowR rfl (.map fun y => frzResult y))) LendL.nil)))))))), .free rfl, trivial⟩ (laws_heldEvent_ok _ _ _ (hx26)) (zfree_v _) rfl) ?_
 refine AO.pu T ?_
 refine AO.nil ?_
 iterate 2 refine AW.seq ?_
 refine AW.region ?_
 iterate 2 refine AO.pu T ?_
 refine AO.nil ?_
 refine AW.cond (b := decide (x25 < 0)) rfl (fun hc => ?_) (fun hc => ?_)
 replace hH := condT hc hH
 refine AW.seq (AW.region ?_)
 refine AO.pu T ?_
 refine AO.nil (AW.ret ?_)
 cases someE hH
 exact retQ.i [] rfl (.c (.c .v))
 replace hH := condF hc hH
 refine AW.skip ?_
 iterate 2 refine AW.seq ?_
 refine AW.region ?_
 iterate 3 refine AO.pu T ?_
 refine AO.nil ?_
 refine AW.cond (b := (x25 != x23.2)) rfl (fun hc => ?_) (fun hc => ?_)
 replace hH := condT hc hH
 refine AW.seq (AW.region ?_)
 refine AO.pu T ?_
 refine AO.nil (AW.ret ?_)
 cases someE hH
 exact retQ.i [] rfl (.c (.c .v))
 replace hH := condF hc hH
 refine AW.skip ?_
 refine AW.seq (AW.region ?_)
 refine AO.pu T (d := .g [aE.segments, aE.size, aE.key, .s (List.map encEntrant aE.entrants), .s (List.map encInt aE.gone), aE.segment, .s (List.map encInt aE.order), .s (List.map encResult aE.results)]) ?_
 refine AO.step rfl (call_ok rfl 19 rfl rfl rfl (laws_toEvent_ok _ _ (hx6)) rfl rfl rfl) ?_
 refine AO.pu T ?_
 refine AO.step rfl (call_ok rfl 23 rfl rfl rfl (laws_toStepS_ok _ _ (hx8)) rfl rfl rfl) ?_
 refine AO.step rfl (callL_ok rfl 24 rfl rfl (es := [.g (encEvent x5), .s (List.map encStep x7)]) (by exact ⟨lend_g (LendL.cons (.free rfl) (LendL.cons (.free rfl) (LendL.cons (.free rfl) (LendL.cons ((.rowR rfl (.map fun y => .vs rfl))) (LendL.cons ((.rowR rfl (.map fun y => .vs rfl))) (LendL.cons (.free rfl) (LendL.cons ((.rowR rfl (.map fun y => .vs rfl))) (LendL.cons ((.rowR rfl (.map fun y => frzResult y))) LendL.nil)))))))), (.rowR rfl (.map fun y => .vs rfl)), trivial⟩) (impl_RunSteps_ok fuel _ _ _ (hx12)) (zfree_t (zfl (.cons (zfree_g (zfl (.cons (zfree_v _) (.cons (zfree_v _) (.cons (zfree_v _) (.cons (zfree_map (fun y => (.cons (zfree_v _) (.cons (zfree_v _) .nil)))) (.cons (zfree_map (fun y => (.cons (zfree_v _) .nil))) (.cons (zfree_v _) (.cons (zfree_map (fun y => (.cons (zfree_v _) .nil))) (.cons (zfree_map (fun y => (.cons (zfree_v _) (.cons (zfree_map (fun y => (.cons (zfree_v _) .nil))) .nil)))) .nil)))))))))) (.cons (zfree_v _) (.cons (zfree_v _) .nil))))) rfl rfl rfl) ?_
 refine AO.pu T ?_
 refine AO.pu T (d := .g [x11.1.segments, x11.1.size, x11.1.key, .R 24, .R 25, x11.1.segment, .R 26, .R 27]) ?_
 iterate 2 refine AO.pu T ?_
 refine AO.step rfl (alloc_ok T rfl 28 rfl rfl rfl rfl rfl) ?_
 refine AO.se T [x11.1.segments, x11.1.size, x11.1.key, .R 24, .R 25, x11.1.segment, .R 26, .R 27] ?_
 iterate 2 refine AO.pu T ?_
 refine AO.nil ?_
 refine AW.le (Le.ct 0 0 (σ' := (⟨[(6, .p 2 0), (7, x9.2.1), (8, .v (.bool x9.2.2)), (11, .p 13 0), (15, x23.2), (17, .p 28 0), (18, x11.2.1), (19, .v (.bool x11.2.2))], [(2, .box [x9.1.segments, x9.1.size, x9.1.key, .s (List.map encEntrant x9.1.entrants), .s (List.map encInt x9.1.gone), x9.1.segment, .s (List.map encInt x9.1.order), .s (List.map encResult x9.1.results)]), (9, .row 2 (List.map encEntrant x23.1.entrants)), (10, .row 1 (List.map encInt x23.1.gone)), (11, .row 1 (List.map encInt x23.1.order)), (12, .row 2 (List.map encResultO x23.1.results)), (13, .box [x11.1.segments, x11.1.size, x11.1.key, .R 9, .R 10, x11.1.segment, .R 11, .R 12]), (24, .row 2 (List.map encEntrant x11.1.entrants)), (25, .row 1 (List.map encInt x11.1.gone)), (26, .row 1 (List.map encInt x11.1.order)), (27, .row 2 (List.map encResultO x11.1.results)), (28, .box [x11.1.segments, x11.1.size, x11.1.key, .R 24, .R 25, x11.1.segment, .R 26, .R 27])], 140, []⟩ : St))) ?_
 iterate 2 refine AW.seq ?_
 refine AW.region ?_
 refine AO.pu T (d := .g [x11.1.segments, x11.1.size, x11.1.key, .R 24, .R 25, x11.1.segment, .R 26, .R 27]) ?_
 refine AO.pu T (d := .g [x9.1.segments, x9.1.size, x9.1.key, .s (List.map encEntrant x9.1.entrants), .s (List.map encInt x9.1.gone), x9.1.segment, .s (List.map encInt x9.1.order), .s (List.map encResult x9.1.results)]) ?_
 refine AO.val rfl rfl (callLV_ok rfl rfl rfl (es := [.g (encEvent (Event.mk x11.1.segments x11.1.size x11.1.key x11.1.entrants x11.1.gone x11.1.segment x11.1.order x11.1.results)), .g (encEvent (Event.mk x9.1.segments x9.1.size x9.1.key x9.1.entrants x9.1.gone x9.1.segment x9.1.order x9.1.results))]) ⟨lend_g (LendL.cons (.free rfl) (LendL.cons (.free rfl) (LendL.cons (.free rfl) (LendL.cons ((.rowR rfl (.map fun y => .vs rfl))) (LendL.cons ((.rowR rfl (.map fun y => .vs rfl))) (LendL.cons (.free rfl) (LendL.cons ((.rowR rfl (.map fun y => .vs rfl))) (LendL.cons ((.rowR rfl (.map fun y => frzResult y))) LendL.nil)))))))), .free rfl, trivial⟩ (laws_eqEvent_ok _ _ _ (hx14)) (zfree_v _) rfl) ?_
 iterate 2 refine AO.pu T ?_
 iterate 2 refine AO.pureG T [] rfl trivial rfl rfl ?_
 refine AO.pureG T [123, 124] rfl ⟨fun h => h, fun h => h, trivial⟩ rfl rfl ?_
 refine AO.val rfl rfl (pick_or rfl rfl rfl rfl) ?_
 refine AO.pu T ?_
 iterate 2 refine AO.pureG T [] rfl trivial rfl rfl ?_
 refine AO.pureG T [128, 129] rfl ⟨fun h => h, fun h => h, trivial⟩ rfl rfl ?_
 refine AO.val rfl rfl (pick_or rfl rfl rfl rfl) ?_
 refine AO.nil ?_
 refine AW.cond (b := (((!x13) || (x11.2.1 != x9.2.1)) || (!(x11.2.2 == x9.2.2)))) rfl (fun hc => ?_) (fun hc => ?_)
 replace hH := condT hc hH
 refine AW.seq (AW.region ?_)
 refine AO.pu T ?_
 refine AO.nil (AW.ret ?_)
 cases someE hH
 exact retQ.i [] rfl (.c (.c .v))
 replace hH := condF hc hH
 refine AW.skip ?_
 refine AW.seq (AW.region ?_)
 refine AO.pu T ?_
 refine AO.nil (AW.seq ?_)
 refine AW.region ?_
 refine AO.pu T (d := .g [x11.1.segments, x11.1.size, x11.1.key, .R 9, .R 10, x11.1.segment, .R 11, .R 12]) ?_
 refine AO.pu T ?_
 refine AO.val rfl rfl (callLV_ok rfl rfl rfl (es := [.g (encEvent (Event.mk x11.1.segments x11.1.size x11.1.key x23.1.entrants x23.1.gone x11.1.segment x23.1.order x23.1.results)), (1 : Int)]) ⟨lend_g (LendL.cons (.free rfl) (LendL.cons (.free rfl) (LendL.cons (.free rfl) (LendL.cons ((.rowR rfl (.map fun y => .vs rfl))) (LendL.cons ((.rowR rfl (.map fun y => .vs rfl))) (LendL.cons (.free rfl) (LendL.cons ((.rowR rfl (.map fun y => .vs rfl))) (LendL.cons ((.rowR rfl (.map fun y => frzResult y))) LendL.nil)))))))), .free rfl, trivial⟩ (laws_heldEvent_ok _ _ _ (hx26)) (zfree_v _) rfl) ?_
 refine AO.pu T ?_
 refine AO.nil ?_
 iterate 2 refine AW.seq ?_
 refine AW.region ?_
 iterate 2 refine AO.pu T ?_
 refine AO.nil ?_
 refine AW.cond (b := decide (x25 < 0)) rfl (fun hc => ?_) (fun hc => ?_)
 replace hH := condT hc hH
 refine AW.seq (AW.region ?_)
 refine AO.pu T ?_
 refine AO.nil (AW.ret ?_)
 cases someE hH
 exact retQ.i [] rfl (.c (.c .v))
 replace hH := condF hc hH
 refine AW.skip ?_
 iterate 2 refine AW.seq ?_
 refine AW.region ?_
 iterate 3 refine AO.pu T ?_
 refine AO.nil ?_
 refine AW.le (Le.ct 0 0 (σ' := (⟨[(139, .v (.bool (x25 != x23.2)))], [], 140, []⟩ : St))) ?_
 refine AW.cond (b := (x25 != x23.2)) rfl (fun hc => ?_) (fun hc => ?_)
 replace hH := condT hc hH
 refine AW.seq (AW.region ?_)
 refine AO.pu T ?_
 refine AO.nil (AW.ret ?_)
 cases someE hH
 exact retQ.i [] rfl (.c (.c .v))
 replace hH := condF hc hH
 refine AW.skip ?_
 refine AW.seq (AW.region ?_)
 refine AO.pu T ?_
 refine AO.nil (AW.ret ?_)
 cases someE hH
 exact retQ.i [] rfl (.c (.c .v))

def spec_evAsked_p (fuel : Nat) (e : Event) (sA : Step) : Option (Event × Bool) :=
  (spec_evGood_p fuel e).bind fun x1 =>
  cond (!x1)
    (some ((Event.mk 0 0 0 [] [] 0 [] []), false))
    ((spec_evStep_p fuel e sA).bind fun x3 =>
    some ((Event.mk x3.1.segments x3.1.size x3.1.key x3.1.entrants x3.1.gone x3.1.segment x3.1.order x3.1.results), x3.2))
theorem spec_evAsked_ok (fuel : Nat) (e : Event) (sA : Step) (r : (Event × Bool)) (hH : spec_evAsked_p fuel e sA = some r) : SpecR Tryz.prog 69 [.g (encEvent e), .g (encStep sA)] (.t [.g (encEvent r.1), .v (.bool r.2)]) := by
 refine fn_ok T Tryz.func69 rfl (by decide) rfl ?_
 refine AW.seq (AW.region ?_)
 refine AO.step rfl (box_ok T rfl 1 rfl rfl rfl rfl) ?_
 refine AO.step rfl (box_ok T rfl 2 rfl rfl rfl rfl) ?_
 refine AO.step rfl (alloc_ok T rfl 3 rfl rfl rfl rfl rfl) ?_
 refine AO.pu T ?_
 refine AO.nil ?_
 iterate 2 refine AW.seq ?_
 obtain ⟨x1, hx2, hH⟩ := bindE hH
 refine AW.region ?_
 refine AO.pu T (d := .g [e.segments, e.size, e.key, .s (List.map encEntrant e.entrants), .s (List.map encInt e.gone), e.segment, .s (List.map encInt e.order), .s (List.map encResult e.results)]) ?_
 refine AO.val rfl rfl (callV_ok rfl rfl rfl rfl (spec_evGood_ok fuel _ _ (hx2)) rfl) ?_
 refine AO.pu T ?_
 refine AO.nil ?_
 refine AW.cond (b := (!x1)) rfl (fun hc => ?_) (fun hc => ?_)
 replace hH := condT hc hH
 refine AW.seq (AW.region ?_)
 refine AO.pu T (d := .g [(0 : Int), (0 : Int), (0 : Int), .w 0 [], .w 0 [], (0 : Int), .w 0 [], .w 0 []]) ?_
 refine AO.se T [(0 : Int), (0 : Int), (0 : Int), .w 0 [], .w 0 [], (0 : Int), .w 0 [], .w 0 []] ?_
 refine AO.pu T ?_
 refine AO.nil (AW.ret ?_)
 cases someE hH
 exact retQ.i [] rfl (.t (expLG_cons (.g (expLC_cons .v (expLC_cons .v (expLC_cons .v (expLC_cons .nilS (expLC_cons .nilS (expLC_cons .v (expLC_cons .nilS (expLC_cons .nilS (expLC_nil)))))))))) (expLG_cons (.c .v) (expLG_nil))))
 replace hH := condF hc hH
 refine AW.skip ?_
 refine AW.seq ?_
 obtain ⟨x3, hx4, hH⟩ := bindE hH
 refine AW.region ?_
 refine AO.pu T (d := .g [e.segments, e.size, e.key, .s (List.map encEntrant e.entrants), .s (List.map encInt e.gone), e.segment, .s (List.map encInt e.order), .s (List.map encResult e.results)]) ?_
 refine AO.pu T (d := .g [sA.kind, sA.skater, sA.number]) ?_
 refine AO.val rfl rfl (callV_ok rfl rfl rfl rfl (spec_evStep_ok fuel _ _ _ (hx4)) rfl) ?_
 refine AO.pu T (d := .g [x3.1.segments, x3.1.size, x3.1.key, .s (List.map encEntrant x3.1.entrants), .s (List.map encInt x3.1.gone), x3.1.segment, .s (List.map encInt x3.1.order), .s (List.map encResult x3.1.results)]) ?_
 refine AO.pu T ?_
 refine AO.se T [x3.1.segments, x3.1.size, x3.1.key, .s (List.map encEntrant x3.1.entrants), .s (List.map encInt x3.1.gone), x3.1.segment, .s (List.map encInt x3.1.order), .s (List.map encResult x3.1.results)] ?_
 refine AO.pu T ?_
 refine AO.nil (AW.ret ?_)
 cases someE hH
 exact retQ.i [] rfl (.t (expLG_cons (.g (expLC_cons .v (expLC_cons .v (expLC_cons .v (expLC_cons .s (expLC_cons .s (expLC_cons .v (expLC_cons .s (expLC_cons .s (expLC_nil)))))))))) (expLG_cons (.c .v) (expLG_nil))))

def spec_BeginSegment_p (fuel : Nat) (e : Event) : Option (Event × Bool) :=
  (spec_evAsked_p fuel e (Step.mk 3 0 0)).bind fun x1 =>
  some ((Event.mk x1.1.segments x1.1.size x1.1.key x1.1.entrants x1.1.gone x1.1.segment x1.1.order x1.1.results), x1.2)
theorem spec_BeginSegment_ok (fuel : Nat) (e : Event) (r : (Event × Bool)) (hH : spec_BeginSegment_p fuel e = some r) : SpecR Tryz.prog 17 [.g (encEvent e)] (.t [.g (encEvent r.1), .v (.bool r.2)]) := by
 refine fn_ok T Tryz.func17 rfl (by decide) rfl ?_
 refine AW.seq (AW.region ?_)
 refine AO.step rfl (box_ok T rfl 1 rfl rfl rfl rfl) ?_
 refine AO.step rfl (alloc_ok T rfl 2 rfl rfl rfl rfl rfl) ?_
 refine AO.pu T ?_
 refine AO.nil (AW.seq ?_)
 obtain ⟨x1, hx2, hH⟩ := bindE hH
 refine AW.region ?_
 refine AO.pu T (d := .g [e.segments, e.size, e.key, .s (List.map encEntrant e.entrants), .s (List.map encInt e.gone), e.segment, .s (List.map encInt e.order), .s (List.map encResult e.results)]) ?_
 refine AO.pu T (d := .g [(3 : Int), (0 : Int), (0 : Int)]) ?_
 refine AO.val rfl rfl (callV_ok rfl rfl rfl rfl (spec_evAsked_ok fuel _ _ _ (hx2)) rfl) ?_
 refine AO.pu T (d := .g [x1.1.segments, x1.1.size, x1.1.key, .s (List.map encEntrant x1.1.entrants), .s (List.map encInt x1.1.gone), x1.1.segment, .s (List.map encInt x1.1.order), .s (List.map encResult x1.1.results)]) ?_
 refine AO.pu T ?_
 refine AO.se T [x1.1.segments, x1.1.size, x1.1.key, .s (List.map encEntrant x1.1.entrants), .s (List.map encInt x1.1.gone), x1.1.segment, .s (List.map encInt x1.1.order), .s (List.map encResult x1.1.results)] ?_
 refine AO.pu T ?_
 refine AO.nil (AW.ret ?_)
 cases someE hH
 exact retQ.i [] rfl (.t (expLG_cons (.g (expLC_cons .v (expLC_cons .v (expLC_cons .v (expLC_cons .s (expLC_cons .s (expLC_cons .v (expLC_cons .s (expLC_cons .s (expLC_nil)))))))))) (expLG_cons (.c .v) (expLG_nil))))

def spec_EnterSkater_p (fuel : Nat) (e : Event) (x : Entrant) : Option (Event × Bool) :=
  (spec_evAsked_p fuel e (Step.mk 1 x.skater x.rank)).bind fun x1 =>
  some ((Event.mk x1.1.segments x1.1.size x1.1.key x1.1.entrants x1.1.gone x1.1.segment x1.1.order x1.1.results), x1.2)
theorem spec_EnterSkater_ok (fuel : Nat) (e : Event) (x : Entrant) (r : (Event × Bool)) (hH : spec_EnterSkater_p fuel e x = some r) : SpecR Tryz.prog 39 [.g (encEvent e), .g (encEntrant x)] (.t [.g (encEvent r.1), .v (.bool r.2)]) := by
 refine fn_ok T Tryz.func39 rfl (by decide) rfl ?_
 refine AW.seq (AW.region ?_)
 refine AO.step rfl (box_ok T rfl 1 rfl rfl rfl rfl) ?_
 refine AO.step rfl (box_ok T rfl 2 rfl rfl rfl rfl) ?_
 refine AO.step rfl (alloc_ok T rfl 3 rfl rfl rfl rfl rfl) ?_
 refine AO.pu T ?_
 refine AO.nil (AW.seq ?_)
 obtain ⟨x1, hx2, hH⟩ := bindE hH
 refine AW.region ?_
 refine AO.pu T (d := .g [e.segments, e.size, e.key, .s (List.map encEntrant e.entrants), .s (List.map encInt e.gone), e.segment, .s (List.map encInt e.order), .s (List.map encResult e.results)]) ?_
 iterate 4 refine AO.pu T ?_
 refine AO.pu T (d := .g [(1 : Int), x.skater, x.rank]) ?_
 refine AO.val rfl rfl (callV_ok rfl rfl rfl rfl (spec_evAsked_ok fuel _ _ _ (hx2)) rfl) ?_
 refine AO.pu T (d := .g [x1.1.segments, x1.1.size, x1.1.key, .s (List.map encEntrant x1.1.entrants), .s (List.map encInt x1.1.gone), x1.1.segment, .s (List.map encInt x1.1.order), .s (List.map encResult x1.1.results)]) ?_
 refine AO.pu T ?_
 refine AO.se T [x1.1.segments, x1.1.size, x1.1.key, .s (List.map encEntrant x1.1.entrants), .s (List.map encInt x1.1.gone), x1.1.segment, .s (List.map encInt x1.1.order), .s (List.map encResult x1.1.results)] ?_
 refine AO.pu T ?_
 refine AO.nil (AW.ret ?_)
 cases someE hH
 exact retQ.i [] rfl (.t (expLG_cons (.g (expLC_cons .v (expLC_cons .v (expLC_cons .v (expLC_cons .s (expLC_cons .s (expLC_cons .v (expLC_cons .s (expLC_cons .s (expLC_nil)))))))))) (expLG_cons (.c .v) (expLG_nil))))

def spec_GiveScore_p (fuel : Nat) (e : Event) (score : Int) : Option (Event × Bool) :=
  (spec_evAsked_p fuel e (Step.mk 4 0 score)).bind fun x1 =>
  some ((Event.mk x1.1.segments x1.1.size x1.1.key x1.1.entrants x1.1.gone x1.1.segment x1.1.order x1.1.results), x1.2)
theorem spec_GiveScore_ok (fuel : Nat) (e : Event) (score : Int) (r : (Event × Bool)) (hH : spec_GiveScore_p fuel e score = some r) : SpecR Tryz.prog 36 [.g (encEvent e), score] (.t [.g (encEvent r.1), .v (.bool r.2)]) := by
 refine fn_ok T Tryz.func36 rfl (by decide) rfl ?_
 refine AW.seq (AW.region ?_)
 refine AO.step rfl (box_ok T rfl 1 rfl rfl rfl rfl) ?_
 refine AO.step rfl (alloc_ok T rfl 2 rfl rfl rfl rfl rfl) ?_
 refine AO.pu T ?_
 refine AO.nil (AW.seq ?_)
 obtain ⟨x1, hx2, hH⟩ := bindE hH
 refine AW.region ?_
 refine AO.pu T (d := .g [e.segments, e.size, e.key, .s (List.map encEntrant e.entrants), .s (List.map encInt e.gone), e.segment, .s (List.map encInt e.order), .s (List.map encResult e.results)]) ?_
 refine AO.pu T ?_
 refine AO.pu T (d := .g [(4 : Int), (0 : Int), score]) ?_
 refine AO.val rfl rfl (callV_ok rfl rfl rfl rfl (spec_evAsked_ok fuel _ _ _ (hx2)) rfl) ?_
 refine AO.pu T (d := .g [x1.1.segments, x1.1.size, x1.1.key, .s (List.map encEntrant x1.1.entrants), .s (List.map encInt x1.1.gone), x1.1.segment, .s (List.map encInt x1.1.order), .s (List.map encResult x1.1.results)]) ?_
 refine AO.pu T ?_
 refine AO.se T [x1.1.segments, x1.1.size, x1.1.key, .s (List.map encEntrant x1.1.entrants), .s (List.map encInt x1.1.gone), x1.1.segment, .s (List.map encInt x1.1.order), .s (List.map encResult x1.1.results)] ?_
 refine AO.pu T ?_
 refine AO.nil (AW.ret ?_)
 cases someE hH
 exact retQ.i [] rfl (.t (expLG_cons (.g (expLC_cons .v (expLC_cons .v (expLC_cons .v (expLC_cons .s (expLC_cons .s (expLC_cons .v (expLC_cons .s (expLC_cons .s (expLC_nil)))))))))) (expLG_cons (.c .v) (expLG_nil))))

def spec_LeaveEvent_p (fuel : Nat) (e : Event) (skater : Int) : Option (Event × Bool) :=
  (spec_evAsked_p fuel e (Step.mk 2 skater 0)).bind fun x1 =>
  some ((Event.mk x1.1.segments x1.1.size x1.1.key x1.1.entrants x1.1.gone x1.1.segment x1.1.order x1.1.results), x1.2)
theorem spec_LeaveEvent_ok (fuel : Nat) (e : Event) (skater : Int) (r : (Event × Bool)) (hH : spec_LeaveEvent_p fuel e skater = some r) : SpecR Tryz.prog 42 [.g (encEvent e), skater] (.t [.g (encEvent r.1), .v (.bool r.2)]) := by
 refine fn_ok T Tryz.func42 rfl (by decide) rfl ?_
 refine AW.seq (AW.region ?_)
 refine AO.step rfl (box_ok T rfl 1 rfl rfl rfl rfl) ?_
 refine AO.step rfl (alloc_ok T rfl 2 rfl rfl rfl rfl rfl) ?_
 refine AO.pu T ?_
 refine AO.nil (AW.seq ?_)
 obtain ⟨x1, hx2, hH⟩ := bindE hH
 refine AW.region ?_
 refine AO.pu T (d := .g [e.segments, e.size, e.key, .s (List.map encEntrant e.entrants), .s (List.map encInt e.gone), e.segment, .s (List.map encInt e.order), .s (List.map encResult e.results)]) ?_
 refine AO.pu T ?_
 refine AO.pu T (d := .g [(2 : Int), skater, (0 : Int)]) ?_
 refine AO.val rfl rfl (callV_ok rfl rfl rfl rfl (spec_evAsked_ok fuel _ _ _ (hx2)) rfl) ?_
 refine AO.pu T (d := .g [x1.1.segments, x1.1.size, x1.1.key, .s (List.map encEntrant x1.1.entrants), .s (List.map encInt x1.1.gone), x1.1.segment, .s (List.map encInt x1.1.order), .s (List.map encResult x1.1.results)]) ?_
 refine AO.pu T ?_
 refine AO.se T [x1.1.segments, x1.1.size, x1.1.key, .s (List.map encEntrant x1.1.entrants), .s (List.map encInt x1.1.gone), x1.1.segment, .s (List.map encInt x1.1.order), .s (List.map encResult x1.1.results)] ?_
 refine AO.pu T ?_
 refine AO.nil (AW.ret ?_)
 cases someE hH
 exact retQ.i [] rfl (.t (expLG_cons (.g (expLC_cons .v (expLC_cons .v (expLC_cons .v (expLC_cons .s (expLC_cons .s (expLC_cons .v (expLC_cons .s (expLC_cons .s (expLC_nil)))))))))) (expLG_cons (.c .v) (expLG_nil))))

end Go.Proofs.YtbclgnikhophlaaGreat

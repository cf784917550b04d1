/- The walk, part 2: what each function reached by the law FnSeasons computes. No condition. -/
import Derived.Test.YtgcnndkbpmnmgaaWalk1
set_option maxRecDepth 4000
set_option maxHeartbeats 1000000
set_option linter.unusedVariables false
set_option linter.unusedSimpArgs false
set_option linter.unusedSectionVars false

namespace Go.Proofs.Ytgcnndkbpmnmgaa
open Go.AM

def spec_AddEntry_p (fuel : Nat) (sA : Season) (e : Entry) : Option (Season × Bool) :=
  (spec_seGood_p sA).bind fun x1 =>
  (opt (!(!x1)) default (spec_seEntry_p e)).bind fun x3 =>
  cond ((!x1) || (!x3))
    (some ((Season.mk 0 []), false))
    ((spec_seHas_p fuel sA e.skater).bind fun x5 =>
    (opt (decide (x5 ≥ 0)) default (getI sA.lines x5)).bind fun x7 =>
    (opt (decide (x5 ≥ 0)) default (spec_l1Has_p x7.events e.event)).bind fun x9 =>
    cond (decide (x5 ≥ 0) && x9)
      (some ((Season.mk 0 []), false))
      ((spec_seAdd_p fuel sA e).bind fun x11 =>
      (spec_seGood_p x11).bind fun x13 =>
      cond (!x13)
        (some ((Season.mk 0 []), false))
        (some (x11, true))))
theorem spec_AddEntry_ok (fuel : Nat) (sA : Season) (e : Entry) (r : (Season × Bool)) (hH : spec_AddEntry_p fuel sA e = some r) : SpecR Try.prog 20 [.g (encSeason sA), .g (encEntry e)] (.t [.g (encSeasonO r.1), .v (.bool r.2)]) := by
 refine fn_ok T Try.func20 rfl (by decide) rfl ?_
 refine AW.seq (AW.region ?_)
 refine AO.step rfl (box_ok T rfl 1 rfl rfl rfl rfl) ?_
 refine AO.step rfl (box_ok T rfl 2 rfl rfl rfl rfl) ?_
 refine AO.step rfl (alloc_ok T rfl 3 rfl rfl rfl rfl rfl) ?_
 refine AO.pu T ?_
 refine AO.nil ?_
 iterate 2 refine AW.seq ?_
 obtain ⟨x1, hx2, hH⟩ := bindE hH
 obtain ⟨x3, hx4, hH⟩ := bindE hH
 refine AW.region ?_
 refine AO.pu T (d := .g [sA.best, .s (List.map encLine sA.lines)]) ?_
 refine AO.val rfl rfl (callV_ok rfl rfl rfl rfl (spec_seGood_ok _ _ (hx2)) rfl) ?_
 iterate 2 refine AO.pu T ?_
 refine AO.pureG T (d := .g [e.event, e.skater, e.points]) [] rfl trivial rfl rfl ?_
 refine AO.guard [12] rfl ⟨fun h => h, trivial⟩ (fun hg => callV_ok rfl rfl rfl rfl (spec_seEntry_ok _ _ (optT hx4 hg)) rfl) rfl ?_
 refine AO.pureG T [13] rfl ⟨fun h => h, trivial⟩ rfl rfl ?_
 refine AO.val rfl rfl (pick_or rfl rfl rfl rfl) ?_
 refine AO.nil ?_
 refine AW.cond (b := ((!x1) || (!x3))) rfl (fun hc => ?_) (fun hc => ?_)
 replace hH := condT hc hH
 refine AW.seq (AW.region ?_)
 refine AO.pu T (d := .g [(0 : Int), .w 0 []]) ?_
 refine AO.se T [(0 : Int), .w 0 []] ?_
 refine AO.pu T ?_
 refine AO.nil (AW.ret ?_)
 have hR := someE hH; subst hR
 exact retQ.i [] rfl (.t (expLG_cons (.g (expLC_cons .v (expLC_cons .nil (expLC_nil)))) (expLG_cons (.c .v) (expLG_nil))))
 replace hH := condF hc hH
 refine AW.skip ?_
 iterate 2 refine AW.seq ?_
 obtain ⟨x5, hx6, hH⟩ := bindE hH
 refine AW.region ?_
 refine AO.pu T (d := .g [sA.best, .s (List.map encLine sA.lines)]) ?_
 iterate 2 refine AO.pu T ?_
 refine AO.val rfl rfl (callV_ok rfl rfl rfl rfl (spec_seHas_ok fuel _ _ _ (hx6)) rfl) ?_
 refine AO.pu T ?_
 refine AO.nil (AW.seq ?_)
 obtain ⟨x7, hx8, hH⟩ := bindE hH
 obtain ⟨x9, hx10, hH⟩ := bindE hH
 refine AW.drawn 11 4 [] mix (by kernel_rfl) rfl ?_
 iterate 3 refine AD.pure T rfl rfl rfl ?_
 refine AD.pureG T [] rfl trivial rfl rfl ?_
 refine AD.pureG T [24] rfl ⟨fun h => h, trivial⟩ rfl rfl ?_
 refine AD.pureG T [] rfl trivial rfl rfl ?_
 refine AD.guard [25, 26] rfl ⟨fun h => h, fun h => h, trivial⟩ (fun hg => ix_map_ok T rfl rfl rfl rfl rfl (optT hx8 hg) rfl) rfl ?_
 refine AD.pureG T [27] rfl ⟨fun h => h, trivial⟩ rfl rfl ?_
 refine AD.pureG T [28] rfl ⟨fun h => h, trivial⟩ rfl rfl ?_
 refine AD.pureG T [] rfl trivial rfl rfl ?_
 refine AD.pureG T [30] rfl ⟨fun h => h, trivial⟩ rfl rfl ?_
 refine AD.nil ?_
 refine AO.guard [29, 31] rfl ⟨fun h => h, fun h => h, trivial⟩ (fun hg => callV_ok rfl rfl rfl rfl (spec_l1Has_ok _ _ _ (optT hx10 hg)) rfl) rfl ?_
 refine AO.val rfl rfl (pick_and rfl rfl rfl rfl) ?_
 refine AO.nil ?_
 refine AW.le (Le.ct 0 0 (σ' := (⟨[(2, .p 1 0), (3, .p 2 0), (4, .p 3 0), (33, .v (.bool (decide (x5 ≥ 0) && x9)))], [(1, .box [sA.best, .s (List.map encLine sA.lines)]), (2, .box [e.event, e.skater, e.points]), (3, .box [(0 : Int), .w 0 []])], 43, []⟩ : St))) ?_
 refine AW.cond (b := (decide (x5 ≥ 0) && x9)) rfl (fun hc => ?_) (fun hc => ?_)
 replace hH := condT hc hH
 refine AW.seq (AW.region ?_)
 refine AO.pu T (d := .g [(0 : Int), .w 0 []]) ?_
 refine AO.se T [(0 : Int), .w 0 []] ?_
 refine AO.pu T ?_
 refine AO.nil (AW.ret ?_)
 have hR := someE hH; subst hR
 exact retQ.i [] rfl (.t (expLG_cons (.g (expLC_cons .v (expLC_cons .nil (expLC_nil)))) (expLG_cons (.c .v) (expLG_nil))))
 replace hH := condF hc hH
 refine AW.skip ?_
 refine AW.seq ?_
 obtain ⟨x11, hx12, hH⟩ := bindE hH
 refine AW.region ?_
 refine AO.pu T (d := .g [sA.best, .s (List.map encLine sA.lines)]) ?_
 refine AO.pu T (d := .g [e.event, e.skater, e.points]) ?_
 refine AO.step rfl (call_ok rfl 4 rfl rfl rfl (spec_seAdd_ok fuel _ _ _ (hx12)) rfl rfl rfl) ?_
 refine AO.step rfl (alloc_ok T rfl 5 rfl rfl rfl rfl rfl) ?_
 refine AO.se T [x11.best, .R 4] ?_
 refine AO.nil ?_
 iterate 2 refine AW.seq ?_
 obtain ⟨x13, hx14, hH⟩ := bindE hH
 refine AW.region ?_
 refine AO.pu T (d := .g [x11.best, .R 4]) ?_
 refine AO.val rfl rfl (callLV_ok rfl rfl rfl (es := [.g (encSeason x11)]) ⟨lend_g (LendL.cons (.free rfl) (LendL.cons ((.rowR rfl (.map fun y => frzLine y))) LendL.nil)), trivial⟩ (spec_seGood_ok _ _ (hx14)) (zfree_v _) rfl) ?_
 refine AO.pu T ?_
 refine AO.nil ?_
 refine AW.cond (b := (!x13)) rfl (fun hc => ?_) (fun hc => ?_)
 replace hH := condT hc hH
 refine AW.seq (AW.region ?_)
 refine AO.pu T (d := .g [(0 : Int), .w 0 []]) ?_
 refine AO.se T [(0 : Int), .w 0 []] ?_
 refine AO.pu T ?_
 refine AO.nil (AW.ret ?_)
 have hR := someE hH; subst hR
 exact retQ.i [] rfl (.t (expLG_cons (.g (expLC_cons .v (expLC_cons .nil (expLC_nil)))) (expLG_cons (.c .v) (expLG_nil))))
 replace hH := condF hc hH
 refine AW.skip ?_
 refine AW.seq (AW.region ?_)
 refine AO.pu T (d := .g [x11.best, .R 4]) ?_
 refine AO.se T [x11.best, .R 4] ?_
 refine AO.pu T ?_
 refine AO.nil (AW.ret ?_)
 have hR := someE hH; subst hR
 exact retQ.i [4] rfl (.t (expLG_cons (.g (expLC_cons .v (expLC_cons (.rowR rfl) (expLC_nil)))) (expLG_cons (.c .v) (expLG_nil))))

def spec_DrawDropEntry_p (fuel : Nat) (code : List Int) : Option (Season × Int × Int) :=
  (spec_l1Cur_season_p fuel (L1Cur.mk code 0 0)).bind fun x1 =>
  (spec_l1Cur_pick_p (L1Cur.mk x1.1.code x1.1.at' x1.1.seed) 7).bind fun x3 =>
  (spec_l1Cur_pick_p (L1Cur.mk x3.1.code x3.1.at' x3.1.seed) 6).bind fun x5 =>
  some ((Season.mk x1.2.best x1.2.lines), w64 (1 + x3.2), w64 (1 + x5.2))
theorem spec_DrawDropEntry_ok (fuel : Nat) (code : List Int) (r : (Season × Int × Int)) (hH : spec_DrawDropEntry_p fuel code = some r) : SpecR Try.prog 21 [.s (List.map encInt_u8 code)] (.t [.g (encSeasonO r.1), .v (.int .i64 r.2.1), .v (.int .i64 r.2.2)]) := by
 refine fn_ok T Try.func21 rfl (by decide) rfl ?_
 refine AW.seq (AW.region ?_)
 refine AO.step rfl (alloc_ok T rfl 1 rfl rfl rfl rfl rfl) ?_
 iterate 2 refine AO.pu T ?_
 refine AO.nil (AW.seq ?_)
 refine AW.region ?_
 refine AO.pu T ?_
 refine AO.pu T (d := .g [.s (List.map encInt_u8 code), (0 : Int), .v (.int .u64 0)]) ?_
 refine AO.step rfl (box_ok T rfl 2 rfl rfl rfl rfl) ?_
 refine AO.pu T ?_
 refine AO.nil (AW.seq ?_)
 obtain ⟨x1, hx2, hH⟩ := bindE hH
 obtain ⟨x3, hx4, hH⟩ := bindE hH
 obtain ⟨x5, hx6, hH⟩ := bindE hH
 refine AW.region ?_
 refine AO.pu T ?_
 refine AO.step rfl (callM_ok rfl 3 rfl rfl (es := [.pw (encL1Cur (L1Cur.mk code 0 0))]) (outs := [.pw (encL1Cur x1.1)]) (ids := [2]) (by exact expLG_cons (.c (.box rfl rfl)) (expLG_nil)) (by decide) (.inl (by rfl)) (by rfl) (spec_l1Cur_season_ok fuel _ _ (hx2)) rfl (by rfl) rfl) ?_
 refine AO.pu T ?_
 refine AO.step rfl (callM_ok rfl 4 rfl rfl (es := [.pw (encL1Cur (L1Cur.mk x1.1.code x1.1.at' x1.1.seed)), .v (.int .i64 7)]) (outs := [.pw (encL1Cur x3.1), .u]) (ids := [2]) (by exact expLG_cons (.c (.box rfl rfl)) (expLG_cons (.c .v) (expLG_nil))) (by decide) (.inl (by rfl)) (by rfl) (spec_l1Cur_pick_ok _ _ _ (hx4)) rfl (by rfl) rfl) ?_
 refine AO.val rfl rfl (arw_ok rfl rfl rfl rfl) ?_
 refine AO.pu T ?_
 refine AO.step rfl (callM_ok rfl 4 rfl rfl (es := [.pw (encL1Cur (L1Cur.mk x3.1.code x3.1.at' x3.1.seed)), .v (.int .i64 6)]) (outs := [.pw (encL1Cur x5.1), .u]) (ids := [2]) (by exact expLG_cons (.c (.box rfl rfl)) (expLG_cons (.c .v) (expLG_nil))) (by decide) (.inl (by rfl)) (by rfl) (spec_l1Cur_pick_ok _ _ _ (hx6)) rfl (by rfl) rfl) ?_
 refine AO.val rfl rfl (arw_ok rfl rfl rfl rfl) ?_
 refine AO.se T [x1.2.best, .R 3] ?_
 iterate 2 refine AO.pu T ?_
 refine AO.nil (AW.ret ?_)
 have hR := someE hH; subst hR
 exact retQ.i [3] rfl (.t (expLG_cons (.g (expLC_cons .v (expLC_cons (.rowR rfl) (expLC_nil)))) (expLG_cons (.c .v) (expLG_cons (.c .v) (expLG_nil)))))

def impl_DropEntry_c1_p (e : Entry) (a : Int) (aB : Int) : Option Bool :=
  some ((e.event == a) && (e.skater == aB))
theorem impl_DropEntry_c1_ok (e : Entry) (a : Int) (aB : Int) (r : Bool) (hH : impl_DropEntry_c1_p e a aB = some r) : SpecR Try.prog 63 [.g (encEntry e), .q [a], .q [aB]] (.v (.bool r)) := by
 refine fn_ok T Try.func63 rfl (by decide) rfl ?_
 refine AW.seq (AW.region ?_)
 refine AO.step rfl (box_ok T rfl 1 rfl rfl rfl rfl) ?_
 refine AO.pu T ?_
 refine AO.nil (AW.seq ?_)
 refine AW.region ?_
 iterate 5 refine AO.pu T ?_
 refine AO.pureG T [] rfl trivial rfl rfl ?_
 refine AO.pureG T [10] rfl ⟨fun h => h, trivial⟩ rfl rfl ?_
 refine AO.pureG T [] rfl trivial rfl rfl ?_
 refine AO.pureG T [11, 12] rfl ⟨fun h => h, fun h => h, trivial⟩ rfl rfl ?_
 refine AO.val rfl rfl (pick_and rfl rfl rfl rfl) ?_
 refine AO.pu T ?_
 refine AO.nil (AW.ret ?_)
 have hR := someE hH; subst hR
 exact retQ.i [] rfl (.c (.c .v))

def slices_DeleteFunc_Entry_l1 (del : Entry → Option Bool) : Nat → List Entry → Int → Int → Option ((List Entry))
  | 0, _, _, _ => none
  | k3 + 1, v19, v20, v21 =>
    cond (decide (v21 < (v19.length : Int)))
      ((getI v19 v21).bind fun x23 =>
      (del x23).bind fun x25 =>
      cond (!x25)
        ((getI v19 v20).bind fun x27 =>
        slices_DeleteFunc_Entry_l1 del k3 (v19.set v20.toNat x23) (w64 (v20 + 1)) (w64 (v21 + 1)))
        (slices_DeleteFunc_Entry_l1 del k3 v19 v20 (w64 (v21 + 1))))
      ((need (inB v20 v19.length v19.length)).bind fun u29 =>
      (need (inB 0 v20 ((List.take v20.toNat v19 ++ List.replicate (v19.length - v20.toNat) (Entry.mk 0 0 0) ++ List.drop (v20.toNat + (v19.length - v20.toNat)) v19)).length)).bind fun u31 =>
      some ((List.drop 0 (List.take v20.toNat v19 ++ List.replicate (v19.length - v20.toNat) (Entry.mk 0 0 0) ++ List.drop (v20.toNat + (v19.length - v20.toNat)) v19)).take v20.toNat))
def slices_DeleteFunc_Entry_p (fuel : Nat) (sA : List Entry) (del : Entry → Option Bool) : Option (List Entry) :=
  (slices_IndexFunc_Entry_p sA del).bind fun x1 =>
  cond (x1 == (-1))
    (some sA)
    (slices_DeleteFunc_Entry_l1 del fuel sA x1 (w64 (x1 + 1)))
theorem slices_DeleteFunc_Entry_ok (fuel : Nat) (sA : List Entry) (del_f : Nat) (del_c : List D) (del_k : del_c.all D.capOk = true) (del : Entry → Option Bool) (del_h : ∀ (a0 : Entry) (q : Bool), del a0 = some q → SpecR Try.prog del_f ([.g (encEntry a0)] ++ del_c) (.v (.bool q))) (r : (List Entry)) (hH : slices_DeleteFunc_Entry_p fuel sA del = some r) : SpecM Try.prog 83 [.w 3 (sA.map encEntry), .f del_f del_c] [.u, .u] (.w 3 (r.map encEntry)) := by
 have del_r := cap_cfree del_k
 refine fn_okM T Try.func83 rfl (by decide) rfl (by simp [D.gOk, D.cellOk, del_k]) ?_
 intro L
 show AW _ _ _ (⟨[(0, .R 1), (1, .f del_f del_c)], [(1, .row 3 (List.map encEntry sA))], 42, [(1, L 1)]⟩ : St)
 refine AW.seq (AW.region ?_)
 refine AO.pu T ?_
 refine AO.nil (AW.seq ?_)
 obtain ⟨x1, hx2, hH⟩ := bindE hH
 refine AW.region ?_
 iterate 2 refine AO.pu T ?_
 refine AO.val rfl rfl (callLV_ok rfl rfl rfl (es := [.s (List.map encEntry sA), .f del_f del_c]) ⟨(.rowR rfl (.map fun y => .vs rfl)), lend_free del_r, trivial⟩ (slices_IndexFunc_Entry_ok _ del_f del_c del_k del del_h _ (hx2)) (zfree_v _) rfl) ?_
 refine AO.pu T ?_
 refine AO.nil ?_
 iterate 2 refine AW.seq ?_
 refine AW.region ?_
 iterate 2 refine AO.pu T ?_
 refine AO.nil ?_
 refine AW.cond (b := (x1 == (-1))) rfl (fun hc => ?_) (fun hc => ?_)
 replace hH := condT hc hH
 refine AW.seq (AW.region ?_)
 iterate 2 refine AO.pu T ?_
 refine AO.nil (AW.ret ?_)
 have hR := someE hH; subst hR
 exact ⟨trivial, rfl, _, [1], [], rfl, expLG_cons (.c .u) (expLG_cons (.c .u) (expLG_nil)), .c (.c (.rowR rfl)), by decide⟩
 replace hH := condF hc hH
 refine AW.skip ?_
 iterate 2 refine AW.seq ?_
 refine AW.region ?_
 refine AO.pu T ?_
 refine AO.val rfl rfl (arw_ok rfl rfl rfl rfl) ?_
 refine AO.pu T ?_
 refine AO.nil ?_
 refine AW.block ?_
 refine AW.loopS (fun s : Nat × (List Entry) × Int × Int => (⟨[(0, .R 1), (1, .f del_f del_c), (5, s.2.2.1), (6, s.2.2.2)], [(1, .row 3 (List.map encEntry s.2.1))], 42, [(1, L 1)]⟩ : St)) (fun s => slices_DeleteFunc_Entry_l1 del s.1 s.2.1 s.2.2.1 s.2.2.2 = some r) (fun s => s.1) (fuel, sA, x1, w64 (x1 + 1)) hH ?_ ?_
 exact Le.cut 0 0 rfl ⟨⟨_, rfl, rfl⟩, ⟨_, rfl, ren_fF del_r⟩, ⟨_, rfl, rfl⟩, ⟨_, rfl, rfl⟩, trivial⟩ (by repeat' (first | exact trivial | refine ⟨⟨_, rfl, rfl⟩, ?_⟩)) (andT (allC rfl (allC (known_fF del_r) (allC rfl (allC rfl allN)))) rfl) ⟨⟨rfl, rfl⟩, trivial⟩
 rintro ⟨k3, v19, v20, v21⟩ hH
 replace hH : slices_DeleteFunc_Entry_l1 del k3 v19 v20 v21 = some r := hH
 try dsimp only
 rcases k3 with _ | k3
 cases (show none = some _ from hH)
 rw [slices_DeleteFunc_Entry_l1] at hH
 iterate 2 refine AW.seq ?_
 refine AW.region ?_
 iterate 2 refine AO.pu T ?_
 refine AO.val rfl rfl (len_row_ok T rfl rfl rfl rfl) ?_
 refine AO.pu T ?_
 refine AO.nil ?_
 refine AW.cond (b := decide (v21 < (v19.length : Int))) rfl (fun hc => ?_) (fun hc => ?_)
 replace hH := condT hc hH
 refine AW.skip ?_
 refine AW.seq ?_
 refine AW.block ?_
 refine AW.seq ?_
 obtain ⟨x23, hx24, hH⟩ := bindE hH
 refine AW.region ?_
 iterate 2 refine AO.pu T ?_
 refine AO.val rfl rfl (ix_row_ok T rfl rfl rfl rfl rfl rfl (hx24)) ?_
 refine AO.val rfl rfl (load_row_ok T rfl rfl rfl rfl (getI_get (hx24)) rfl rfl rfl) ?_
 refine AO.step rfl (alloc_ok T rfl 4 rfl rfl rfl rfl rfl) ?_
 refine AO.se T [x23.event, x23.skater, x23.points] ?_
 refine AO.nil (AW.seq ?_)
 obtain ⟨x25, hx26, hH⟩ := bindE hH
 refine AW.region ?_
 refine AO.pu T ?_
 refine AO.pu T (d := .g [x23.event, x23.skater, x23.points]) ?_
 refine AO.val rfl rfl (callV_ok rfl rfl rfl (andT rfl (free_cfree del_r)) (del_h _ _ (hx26)) rfl) ?_
 refine AO.pu T ?_
 refine AO.nil ?_
 refine AW.cond (b := (!x25)) rfl (fun hc => ?_) (fun hc => ?_)
 replace hH := condT hc hH
 refine AW.seq ?_
 obtain ⟨x27, hx28, hH⟩ := bindE hH
 refine AW.region ?_
 iterate 2 refine AO.pu T ?_
 refine AO.pu T (d := .g [x23.event, x23.skater, x23.points]) ?_
 refine AO.val rfl rfl (ix_row_ok T rfl rfl rfl rfl rfl rfl (hx28)) ?_
 refine AO.step rfl (store_row_ok T rfl rfl rfl rfl rfl (getI_get (hx28)) rfl rfl rfl rfl (u' := x23) rfl rfl) ?_
 refine AO.nil ?_
 refine AW.region ?_
 refine AO.pu T ?_
 refine AO.val rfl rfl (arw_ok rfl rfl rfl rfl) ?_
 refine AO.pu T ?_
 refine AO.nil ?_
 refine AW.region ?_
 refine AO.pu T ?_
 refine AO.val rfl rfl (arw_ok rfl rfl rfl rfl) ?_
 refine AO.pu T ?_
 refine AO.nil ?_
 refine ⟨(k3, (v19.set v20.toNat x23), w64 (v20 + 1), w64 (v21 + 1)), hH, Nat.lt_succ_self _, ?_⟩
 exact Le.cut 0 0 rfl ⟨⟨_, rfl, rfl⟩, ⟨_, rfl, ren_fF del_r⟩, ⟨_, rfl, rfl⟩, ⟨_, rfl, rfl⟩, trivial⟩ (by repeat' (first | exact trivial | refine ⟨⟨_, rfl, rfl⟩, ?_⟩)) (andT (allC rfl (allC (known_fF del_r) (allC rfl (allC rfl allN)))) rfl) ⟨⟨rfl, rfl⟩, trivial⟩
 replace hH := condF hc hH
 refine AW.skip ?_
 refine AW.region ?_
 refine AO.pu T ?_
 refine AO.val rfl rfl (arw_ok rfl rfl rfl rfl) ?_
 refine AO.pu T ?_
 refine AO.nil ?_
 refine ⟨(k3, v19, v20, w64 (v21 + 1)), hH, Nat.lt_succ_self _, ?_⟩
 exact Le.cut 0 0 rfl ⟨⟨_, rfl, rfl⟩, ⟨_, rfl, ren_fF del_r⟩, ⟨_, rfl, rfl⟩, ⟨_, rfl, rfl⟩, trivial⟩ (by repeat' (first | exact trivial | refine ⟨⟨_, rfl, rfl⟩, ?_⟩)) (andT (allC rfl (allC (known_fF del_r) (allC rfl (allC rfl allN)))) rfl) ⟨⟨rfl, rfl⟩, trivial⟩
 replace hH := condF hc hH
 refine AW.exit ?_
 refine AW.seq ?_
 obtain ⟨u29, hx30, hH⟩ := bindE hH
 refine AW.region ?_
 iterate 2 refine AO.pu T ?_
 refine AO.val rfl rfl (slice_row_lo T rfl rfl rfl rfl rfl rfl (needT (hx30))) ?_
 refine AO.step rfl (clear_r_ok T (f := encEntry) (zo := (Entry.mk 0 0 0)) rfl rfl rfl rfl (by decide) rfl (by repeat constructor) rfl rfl (by have := inB_iff (needT (hx30)); omega) rfl) ?_
 refine AO.nil (AW.seq ?_)
 obtain ⟨u31, hx32, hH⟩ := bindE hH
 refine AW.region ?_
 iterate 2 refine AO.pu T ?_
 refine AO.val rfl rfl (slice_row_hi T rfl rfl rfl rfl rfl rfl (needT (hx32))) ?_
 refine AO.pu T ?_
 refine AO.nil (AW.ret ?_)
 have hR := someE hH; subst hR
 exact ⟨trivial, rfl, _, [1], [], rfl, expLG_cons (.c .u) (expLG_cons (.c .u) (expLG_nil)), .c (.c (.partM rfl (by have := inB_iff (needT (hx32)); omega))), by decide⟩

def impl_dropEntries_p (fuel : Nat) (sA : Season) (chosen : Entry → Option Bool) : Option Season :=
  (impl_entriesOf_p sA).bind fun x1 =>
  (slices_DeleteFunc_Entry_p fuel x1 chosen).bind fun x3 =>
  (impl_freshSeason_p sA.best x3).bind fun x5 =>
  some x5
theorem impl_dropEntries_ok (fuel : Nat) (sA : Season) (chosen_f : Nat) (chosen_c : List D) (chosen_k : chosen_c.all D.capOk = true) (chosen : Entry → Option Bool) (chosen_h : ∀ (a0 : Entry) (q : Bool), chosen a0 = some q → SpecR Try.prog chosen_f ([.g (encEntry a0)] ++ chosen_c) (.v (.bool q))) (r : Season) (hH : impl_dropEntries_p fuel sA chosen = some r) : SpecR Try.prog 65 [.g (encSeason sA), .f chosen_f chosen_c] (.g (encSeasonO r)) := by
 have chosen_r := cap_cfree chosen_k
 refine fn_ok T Try.func65 rfl (by decide) rfl ?_
 refine AW.seq (AW.region ?_)
 refine AO.step rfl (box_ok T rfl 1 rfl rfl rfl rfl) ?_
 refine AO.step rfl (alloc_ok T rfl 2 rfl rfl rfl rfl rfl) ?_
 refine AO.nil (AW.seq ?_)
 obtain ⟨x1, hx2, hH⟩ := bindE hH
 obtain ⟨x3, hx4, hH⟩ := bindE hH
 obtain ⟨x5, hx6, hH⟩ := bindE hH
 refine AW.drawn 6 3 [] mix (by kernel_rfl) rfl ?_
 iterate 2 refine AD.pure T rfl rfl rfl ?_
 refine AD.pure T (d := .g [sA.best, .s (List.map encLine sA.lines)]) rfl rfl rfl ?_
 refine AD.q (FStep.call rfl rfl rfl rfl rfl (impl_entriesOf_ok _ _ (hx2)) rfl rfl) (impT_names _ _) (impT_le _ _) rfl ?_
 refine AD.pure T rfl rfl rfl ?_
 refine AD.k rfl rfl (FStep.callM rfl rfl rfl rfl (es := [.w 3 (x1.map encEntry), .f chosen_f chosen_c]) (outs := [.u, .u]) (ids := [3]) (by exact expLG_cons (.c (.rowR rfl)) (expLG_cons (.c (.f chosen_r)) (expLG_nil))) (by decide) (.inr (by exact (show ([] : List Nat).Nodup ∧ ∀ i ∈ ([] : List Nat), i ∈ ([3] : List Nat) from by decide))) (by rfl) (slices_DeleteFunc_Entry_ok fuel _ chosen_f chosen_c chosen_k chosen chosen_h _ (hx4)) rfl (by rfl) rfl) rfl rfl rfl ?_
 refine AD.nil ?_
 refine AO.step rfl (callL_ok rfl 5 rfl rfl (es := [sA.best, .s (List.map encEntry x3)]) (by exact ⟨.free rfl, (.rowR rfl (.map fun y => .vs rfl)), trivial⟩) (impl_freshSeason_ok _ _ _ (hx6)) (zfree_g (zfl (.cons (zfree_v _) (.cons (zfree_map (fun y => (.cons (zfree_v _) (.cons (zfree_map (fun y => (.cons (zfree_v _) .nil))) (.cons (zfree_map (fun y => (.cons (zfree_v _) .nil))) .nil))))) .nil)))) rfl rfl rfl) ?_
 refine AO.se T [x5.best, .R 5] ?_
 refine AO.nil (AW.ret ?_)
 have hR := someE hH; subst hR
 exact retQ.i [5] rfl (.c (.g (expLC_cons .v (expLC_cons (.rowR rfl) (expLC_nil)))))

def impl_DropEntry_p (fuel : Nat) (sA : Season) (event : Int) (skater : Int) : Option (Season × Bool) :=
  (impl_IsSeason_p fuel sA).bind fun x1 =>
  cond (!x1)
    (some ((Season.mk 0 []), false))
    ((impl_entriesOf_p sA).bind fun x3 =>
    (slices_ContainsFunc_Entry_p x3 (fun a0 => impl_DropEntry_c1_p a0 event skater)).bind fun x5 =>
    cond (!x5)
      (some ((Season.mk 0 []), false))
      ((impl_dropEntries_p fuel sA (fun a0 => impl_DropEntry_c1_p a0 event skater)).bind fun x7 =>
      some (x7, true)))
theorem impl_DropEntry_ok (fuel : Nat) (sA : Season) (event : Int) (skater : Int) (r : (Season × Bool)) (hH : impl_DropEntry_p fuel sA event skater = some r) : SpecR Try.prog 22 [.g (encSeason sA), event, skater] (.t [.g (encSeasonO r.1), .v (.bool r.2)]) := by
 refine fn_ok T Try.func22 rfl (by decide) rfl ?_
 refine AW.seq (AW.region ?_)
 refine AO.step rfl (box_ok T rfl 1 rfl rfl rfl rfl) ?_
 refine AO.step rfl (box_ok T rfl 2 rfl rfl rfl rfl) ?_
 refine AO.step rfl (box_ok T rfl 3 rfl rfl rfl rfl) ?_
 refine AO.step rfl (alloc_ok T rfl 4 rfl rfl rfl rfl rfl) ?_
 refine AO.pu T ?_
 refine AO.nil ?_
 iterate 2 refine AW.seq ?_
 obtain ⟨x1, hx2, hH⟩ := bindE hH
 refine AW.region ?_
 refine AO.pu T (d := .g [sA.best, .s (List.map encLine sA.lines)]) ?_
 refine AO.val rfl rfl (callV_ok rfl rfl rfl rfl (impl_IsSeason_ok fuel _ _ (hx2)) rfl) ?_
 refine AO.pu T ?_
 refine AO.nil ?_
 refine AW.cond (b := (!x1)) rfl (fun hc => ?_) (fun hc => ?_)
 replace hH := condT hc hH
 refine AW.seq (AW.region ?_)
 refine AO.pu T (d := .g [(0 : Int), .w 0 []]) ?_
 refine AO.se T [(0 : Int), .w 0 []] ?_
 refine AO.pu T ?_
 refine AO.nil (AW.ret ?_)
 have hR := someE hH; subst hR
 exact retQ.i [] rfl (.t (expLG_cons (.g (expLC_cons .v (expLC_cons .nil (expLC_nil)))) (expLG_cons (.c .v) (expLG_nil))))
 replace hH := condF hc hH
 refine AW.skip ?_
 refine AW.seq (AW.region ?_)
 iterate 2 refine AO.pu T ?_
 refine AO.nil ?_
 iterate 2 refine AW.seq ?_
 obtain ⟨x3, hx4, hH⟩ := bindE hH
 obtain ⟨x5, hx6, hH⟩ := bindE hH
 refine AW.region ?_
 refine AO.pu T (d := .g [sA.best, .s (List.map encLine sA.lines)]) ?_
 refine AO.step rfl (call_ok rfl 5 rfl rfl rfl (impl_entriesOf_ok _ _ (hx4)) rfl rfl rfl) ?_
 refine AO.pu T ?_
 refine AO.val rfl rfl (callLV_ok rfl rfl rfl (es := [.s (List.map encEntry x3), .f 63 [.q [event], .q [skater]]]) ⟨(.rowR rfl (.map fun y => .vs rfl)), lend_f (LendL.cons (Lend.boxF rfl rfl) (LendL.cons (Lend.boxF rfl rfl) LendL.nil)), trivial⟩ (slices_ContainsFunc_Entry_ok _ 63 [.q [event], .q [skater]] rfl (fun a0 => impl_DropEntry_c1_p a0 event skater) (fun a0 q h => impl_DropEntry_c1_ok a0 event skater q h) _ (hx6)) (zfree_v _) rfl) ?_
 refine AO.pu T ?_
 refine AO.nil ?_
 refine AW.cond (b := (!x5)) rfl (fun hc => ?_) (fun hc => ?_)
 replace hH := condT hc hH
 refine AW.seq (AW.region ?_)
 refine AO.pu T (d := .g [(0 : Int), .w 0 []]) ?_
 refine AO.se T [(0 : Int), .w 0 []] ?_
 refine AO.pu T ?_
 refine AO.nil (AW.ret ?_)
 have hR := someE hH; subst hR
 exact retQ.i [] rfl (.t (expLG_cons (.g (expLC_cons .v (expLC_cons .nil (expLC_nil)))) (expLG_cons (.c .v) (expLG_nil))))
 replace hH := condF hc hH
 refine AW.skip ?_
 refine AW.seq ?_
 obtain ⟨x7, hx8, hH⟩ := bindE hH
 refine AW.region ?_
 refine AO.pu T (d := .g [sA.best, .s (List.map encLine sA.lines)]) ?_
 refine AO.pu T ?_
 refine AO.step rfl (callL_ok rfl 6 rfl rfl (es := [.g (encSeason sA), .f 63 [.q [event], .q [skater]]]) (by exact ⟨.free rfl, lend_f (LendL.cons (Lend.boxF rfl rfl) (LendL.cons (Lend.boxF rfl rfl) LendL.nil)), trivial⟩) (impl_dropEntries_ok fuel _ 63 [.q [event], .q [skater]] rfl (fun a0 => impl_DropEntry_c1_p a0 event skater) (fun a0 q h => impl_DropEntry_c1_ok a0 event skater q h) _ (hx8)) (zfree_g (zfl (.cons (zfree_v _) (.cons (zfree_map (fun y => (.cons (zfree_v _) (.cons (zfree_map (fun y => (.cons (zfree_v _) .nil))) (.cons (zfree_map (fun y => (.cons (zfree_v _) .nil))) .nil))))) .nil)))) rfl rfl rfl) ?_
 refine AO.se T [x7.best, .R 6] ?_
 refine AO.pu T ?_
 refine AO.nil (AW.ret ?_)
 have hR := someE hH; subst hR
 exact retQ.i [6] rfl (.t (expLG_cons (.g (expLC_cons .v (expLC_cons (.rowR rfl) (expLC_nil)))) (expLG_cons (.c .v) (expLG_nil))))

def spec_seAll_l2 (y2 : Line) : List Int → Nat → List Entry → Option (List Entry)
  | [], k119, v134 =>
    some v134
  | y120 :: ys121, k119, v134 =>
    (getI y2.points (k119 : Int)).bind fun x136 =>
    (need (fitsB 24 (v134.length + ([(Entry.mk y120 y2.skater x136)]).length))).bind fun u138 =>
    spec_seAll_l2 y2 ys121 (k119 + 1) (v134 ++ [(Entry.mk y120 y2.skater x136)])
def spec_seAll_l1 : List Line → Nat → List Entry → Option ((List Entry))
  | [], k1, v94 =>
    some v94
  | y2 :: ys3, k1, v94 =>
    (spec_seAll_l2 y2 y2.events 0 v94).bind fun v116 =>
    spec_seAll_l1 ys3 (k1 + 1) v116
def spec_seAll_p (sA : Season) : Option (List Entry) :=
  spec_seAll_l1 sA.lines 0 []
theorem spec_seAll_ok (sA : Season) (r : (List Entry)) (hH : spec_seAll_p sA = some r) : SpecR Try.prog 66 [.g (encSeason sA)] (.w 3 (r.map encEntry)) := by
 refine fn_ok T Try.func66 rfl (by decide) rfl ?_
 refine AW.seq (AW.region ?_)
 refine AO.step rfl (box_ok T rfl 1 rfl rfl rfl rfl) ?_
 refine AO.pu T ?_
 refine AO.nil (AW.seq ?_)
 refine AW.region ?_
 refine AO.pu T ?_
 refine AO.nil ?_
 iterate 2 refine AW.seq ?_
 refine AW.region ?_
 iterate 2 refine AO.pu T ?_
 refine AO.val rfl rfl (len_map_ok T rfl rfl rfl) ?_
 refine AO.pu T ?_
 refine AO.nil ?_
 refine AW.block ?_
 refine AW.loopS (fun s : Nat × (List Entry) => (⟨[(3, .R 6), (9, .s (List.map encLine sA.lines)), (10, (sA.lines.length : Int)), (11, (s.1 : Int))], [(6, .row 3 (List.map encEntry s.2))], 38, []⟩ : St)) (fun s => s.1 ≤ sA.lines.length ∧ spec_seAll_l1 (sA.lines.drop s.1) s.1 s.2 = some r) (fun s => sA.lines.length - s.1) (0, []) ⟨Nat.zero_le _, hH⟩ ?_ ?_
 refine Le.trans (Le.void 3 6 3 rfl rfl) ?_
 exact Le.ct 0 0
 rintro ⟨k1, v94⟩ ⟨hk, hH⟩
 replace hH : spec_seAll_l1 (sA.lines.drop k1) k1 v94 = some r := hH
 try dsimp only
 refine AW.boundM (t := 9) (l := sA.lines) rfl (fun hb5 => ?_)
 rcases hd4 : sA.lines.drop k1 with _ | ⟨y2, ys3⟩
 rw [hd4, spec_seAll_l1] at hH
 have hlt6 := drop_ge hd4
 refine AW.seq (AW.region ?_)
 refine AO.pu T ?_
 refine AO.nil (AW.seq ?_)
 refine AW.condF' (b := decide ((k1 : Int) < (sA.lines.length : Int))) rfl (rngF hlt6) ?_
 refine AW.exit ?_
 refine AW.seq (AW.region ?_)
 iterate 2 refine AO.pu T ?_
 refine AO.nil (AW.ret ?_)
 have hR := someE hH; subst hR
 exact retQ.i [6] rfl (.c (.c (.rowR rfl)))
 rw [hd4, spec_seAll_l1] at hH
 have hlt6 := drop_lt hd4
 refine AW.seq (AW.region ?_)
 refine AO.pu T ?_
 refine AO.nil (AW.seq ?_)
 refine AW.condT' (b := decide ((k1 : Int) < (sA.lines.length : Int))) rfl (rngT hlt6) ?_
 refine AW.skip ?_
 obtain ⟨o117, hH, hK118⟩ := bindE hH
 refine AW.seqJ (fun s : List Entry => (⟨[(3, .R 6), (9, .s (List.map encLine sA.lines)), (10, (sA.lines.length : Int)), (11, (k1 : Int))], [(6, .row 3 (List.map encEntry s))], 38, []⟩ : St)) (fun s => s = o117) ?_ ?_
 refine AW.block ?_
 refine AW.seq (AW.region ?_)
 refine AO.val rfl rfl (ix_map_ok T rfl rfl rfl rfl rfl (getI_drop hd4) rfl) ?_
 refine AO.pu T (d := .g [y2.skater, .s (List.map encInt y2.events), .s (List.map encInt y2.points)]) ?_
 refine AO.step rfl (alloc_ok T rfl 37 rfl rfl rfl rfl rfl) ?_
 refine AO.se T [y2.skater, .s (List.map encInt y2.events), .s (List.map encInt y2.points)] ?_
 refine AO.nil (AW.seq ?_)
 refine AW.region ?_
 iterate 2 refine AO.pu T ?_
 refine AO.val rfl rfl (len_map_ok T rfl rfl rfl) ?_
 refine AO.pu T ?_
 refine AO.nil ?_
 refine AW.block ?_
 refine AW.loopS (fun s : Nat × (List Entry) => (⟨[(3, .R 6), (5, .p 37 0), (9, .s (List.map encLine sA.lines)), (10, (sA.lines.length : Int)), (11, (k1 : Int)), (16, .s (List.map encInt y2.events)), (17, (y2.events.length : Int)), (18, (s.1 : Int))], [(6, .row 3 (List.map encEntry s.2)), (37, .box [y2.skater, .s (List.map encInt y2.events), .s (List.map encInt y2.points)])], 38, []⟩ : St)) (fun s => s.1 ≤ y2.events.length ∧ spec_seAll_l2 y2 (y2.events.drop s.1) s.1 s.2 = some o117) (fun s => y2.events.length - s.1) (0, v94) ⟨Nat.zero_le _, hH⟩ ?_ ?_
 exact Le.ct 0 0
 rintro ⟨k119, v134⟩ ⟨hk, hH⟩
 replace hH : spec_seAll_l2 y2 (y2.events.drop k119) k119 v134 = some o117 := hH
 try dsimp only
 refine AW.boundM (t := 16) (l := y2.events) rfl (fun hb123 => ?_)
 rcases hd122 : y2.events.drop k119 with _ | ⟨y120, ys121⟩
 rw [hd122, spec_seAll_l2] at hH
 have hlt124 := drop_ge hd122
 refine AW.seq (AW.region ?_)
 refine AO.pu T ?_
 refine AO.nil (AW.seq ?_)
 refine AW.condF' (b := decide ((k119 : Int) < (y2.events.length : Int))) rfl (rngF hlt124) ?_
 refine AW.exit ?_
 refine ⟨_, someE hH, ?_⟩
 exact Le.ct 0 0
 rw [hd122, spec_seAll_l2] at hH
 have hlt124 := drop_lt hd122
 refine AW.seq (AW.region ?_)
 refine AO.pu T ?_
 refine AO.nil (AW.seq ?_)
 refine AW.condT' (b := decide ((k119 : Int) < (y2.events.length : Int))) rfl (rngT hlt124) ?_
 refine AW.skip ?_
 refine AW.seq ?_
 refine AW.block ?_
 refine AW.seq (AW.region ?_)
 refine AO.pu T ?_
 refine AO.val rfl rfl (ix_map_ok T rfl rfl rfl rfl rfl (getI_drop hd122) rfl) ?_
 iterate 3 refine AO.pu T ?_
 refine AO.nil ?_
 obtain ⟨x136, hx137, hH⟩ := bindE hH
 obtain ⟨u138, hx139, hH⟩ := bindE hH
 refine AW.drawn 11 42 [] mix (by kernel_rfl) rfl ?_
 iterate 7 refine AD.pure T rfl rfl rfl ?_
 refine AD.val rfl rfl (ix_map_ok T rfl rfl rfl rfl rfl (hx137) rfl) ?_
 refine AD.pure T rfl rfl rfl ?_
 refine AD.pure T (d := .g [y120, y2.skater, x136]) rfl rfl rfl ?_
 refine AD.q (FStep.mk T (f := encEntry) (l := [(Entry.mk y120 y2.skater x136)]) rfl rfl rfl rfl rfl rfl rfl rfl rfl (fun _ => rfl) rfl rfl rfl rfl) (by simp [namesIn]) (Nat.le_succ _) rfl ?_
 refine AD.nil ?_
 refine AO.step rfl (app_rv_map T rfl 43 rfl rfl rfl rfl rfl (by decide) rfl rfl rfl rfl (fun _ => rfl) (needT (hx139)) rfl rfl) ?_
 refine AO.pu T ?_
 refine AO.nil ?_
 refine AW.region ?_
 refine AO.val rfl rfl (ar_ok rfl rfl rfl rfl (inI_succ hlt124 hb123)) ?_
 refine AO.pu T ?_
 refine AO.nil ?_
 refine ⟨(k119 + 1, (v134 ++ [(Entry.mk y120 y2.skater x136)])), ⟨Nat.succ_le_of_lt hlt124, (by rw [drop_succ_of hd122]; exact hH)⟩, (by have := hlt124; dsimp only; omega), ?_⟩
 exact Le.ct 43 6
 rintro v116 hs
 subst hs
 replace hH := hK118
 try dsimp only [flow, flowE] at hH
 try dsimp only
 refine AW.region ?_
 refine AO.val rfl rfl (ar_ok rfl rfl rfl rfl (inI_succ hlt6 hb5)) ?_
 refine AO.pu T ?_
 refine AO.nil ?_
 refine ⟨(k1 + 1, v116), ⟨Nat.succ_le_of_lt hlt6, (by rw [drop_succ_of hd4]; exact hH)⟩, (by have := hlt6; dsimp only; omega), ?_⟩
 exact Le.ct 0 0

def spec_DropEntry_l1 (sA : Season) (event : Int) (skater : Int) (fuel : Nat) (x3 : (List Entry)) : List Entry → Nat → List Entry → Option ((Season × Bool))
  | [], k5, v16 =>
    cond ((v16.length : Int) == (x3.length : Int))
      (some ((Season.mk 0 []), false))
      ((spec_seOf_p fuel sA.best v16).bind fun x18 =>
      some (x18, true))
  | y6 :: ys7, k5, v16 =>
    cond ((y6.event != event) || (y6.skater != skater))
      ((need (fitsB 24 (v16.length + ([y6]).length))).bind fun u20 =>
      spec_DropEntry_l1 sA event skater fuel x3 ys7 (k5 + 1) (v16 ++ [y6]))
      (spec_DropEntry_l1 sA event skater fuel x3 ys7 (k5 + 1) v16)
def spec_DropEntry_p (fuel : Nat) (sA : Season) (event : Int) (skater : Int) : Option (Season × Bool) :=
  (spec_seGood_p sA).bind fun x1 =>
  cond (!x1)
    (some ((Season.mk 0 []), false))
    ((spec_seAll_p sA).bind fun x3 =>
    spec_DropEntry_l1 sA event skater fuel x3 x3 0 [])
theorem spec_DropEntry_ok (fuel : Nat) (sA : Season) (event : Int) (skater : Int) (r : (Season × Bool)) (hH : spec_DropEntry_p fuel sA event skater = some r) : SpecR Try.prog 23 [.g (encSeason sA), event, skater] (.t [.g (encSeasonO r.1), .v (.bool r.2)]) := by
 refine fn_ok T Try.func23 rfl (by decide) rfl ?_
 refine AW.seq (AW.region ?_)
 refine AO.step rfl (box_ok T rfl 1 rfl rfl rfl rfl) ?_
 refine AO.step rfl (alloc_ok T rfl 2 rfl rfl rfl rfl rfl) ?_
 refine AO.pu T ?_
 refine AO.nil ?_
 iterate 2 refine AW.seq ?_
 obtain ⟨x1, hx2, hH⟩ := bindE hH
 refine AW.region ?_
 refine AO.pu T (d := .g [sA.best, .s (List.map encLine sA.lines)]) ?_
 refine AO.val rfl rfl (callV_ok rfl rfl rfl rfl (spec_seGood_ok _ _ (hx2)) rfl) ?_
 refine AO.pu T ?_
 refine AO.nil ?_
 refine AW.cond (b := (!x1)) rfl (fun hc => ?_) (fun hc => ?_)
 replace hH := condT hc hH
 refine AW.seq (AW.region ?_)
 refine AO.pu T (d := .g [(0 : Int), .w 0 []]) ?_
 refine AO.se T [(0 : Int), .w 0 []] ?_
 refine AO.pu T ?_
 refine AO.nil (AW.ret ?_)
 have hR := someE hH; subst hR
 exact retQ.i [] rfl (.t (expLG_cons (.g (expLC_cons .v (expLC_cons .nil (expLC_nil)))) (expLG_cons (.c .v) (expLG_nil))))
 replace hH := condF hc hH
 refine AW.skip ?_
 refine AW.seq (AW.region ?_)
 refine AO.pu T ?_
 refine AO.nil ?_
 iterate 2 refine AW.seq ?_
 obtain ⟨x3, hx4, hH⟩ := bindE hH
 refine AW.region ?_
 refine AO.pu T (d := .g [sA.best, .s (List.map encLine sA.lines)]) ?_
 refine AO.step rfl (call_ok rfl 3 rfl rfl rfl (spec_seAll_ok _ _ (hx4)) rfl rfl rfl) ?_
 refine AO.val rfl rfl (len_row_ok T rfl rfl rfl rfl) ?_
 refine AO.pu T ?_
 refine AO.nil ?_
 refine AW.block ?_
 refine AW.loopS (fun s : Nat × (List Entry) => (⟨[(1, event), (2, skater), (3, .p 1 0), (6, .p 2 0), (8, .R 9), (16, .R 3), (17, (x3.length : Int)), (18, (s.1 : Int))], [(1, .box [sA.best, .s (List.map encLine sA.lines)]), (2, .box [(0 : Int), .w 0 []]), (3, .row 3 (List.map encEntry x3)), (9, .row 3 (List.map encEntry s.2))], 48, []⟩ : St)) (fun s => s.1 ≤ x3.length ∧ spec_DropEntry_l1 sA event skater fuel x3 (x3.drop s.1) s.1 s.2 = some r) (fun s => x3.length - s.1) (0, []) ⟨Nat.zero_le _, hH⟩ ?_ ?_
 refine Le.trans (Le.void 8 9 3 rfl rfl) ?_
 exact Le.ct 0 0
 rintro ⟨k5, v16⟩ ⟨hk, hH⟩
 replace hH : spec_DropEntry_l1 sA event skater fuel x3 (x3.drop k5) k5 v16 = some r := hH
 try dsimp only
 refine AW.boundR (id := 3) (l := x3) rfl (fun hb9 => ?_)
 rcases hd8 : x3.drop k5 with _ | ⟨y6, ys7⟩
 rw [hd8, spec_DropEntry_l1] at hH
 have hlt10 := drop_ge hd8
 refine AW.seq (AW.region ?_)
 refine AO.pu T ?_
 refine AO.nil (AW.seq ?_)
 refine AW.condF' (b := decide ((k5 : Int) < (x3.length : Int))) rfl (rngF hlt10) ?_
 refine AW.exit ?_
 iterate 2 refine AW.seq ?_
 refine AW.region ?_
 refine AO.pu T ?_
 refine AO.val rfl rfl (len_row_ok T rfl rfl rfl rfl) ?_
 refine AO.pu T (d := .g [sA.best, .s (List.map encLine sA.lines)]) ?_
 refine AO.step rfl (call_ok rfl 10 rfl rfl rfl (spec_seAll_ok _ _ (hx4)) rfl rfl rfl) ?_
 refine AO.val rfl rfl (len_row_ok T rfl rfl rfl rfl) ?_
 refine AO.pu T ?_
 refine AO.nil ?_
 refine AW.cond (b := ((v16.length : Int) == (x3.length : Int))) rfl (fun hc => ?_) (fun hc => ?_)
 replace hH := condT hc hH
 refine AW.seq (AW.region ?_)
 refine AO.pu T (d := .g [(0 : Int), .w 0 []]) ?_
 refine AO.se T [(0 : Int), .w 0 []] ?_
 refine AO.pu T ?_
 refine AO.nil (AW.ret ?_)
 have hR := someE hH; subst hR
 exact retQ.i [] rfl (.t (expLG_cons (.g (expLC_cons .v (expLC_cons .nil (expLC_nil)))) (expLG_cons (.c .v) (expLG_nil))))
 replace hH := condF hc hH
 refine AW.skip ?_
 refine AW.seq ?_
 obtain ⟨x18, hx19, hH⟩ := bindE hH
 refine AW.region ?_
 iterate 3 refine AO.pu T ?_
 refine AO.step rfl (callL_ok rfl 11 rfl rfl (es := [sA.best, .s (List.map encEntry v16)]) (by exact ⟨.free rfl, (.rowR rfl (.map fun y => .vs rfl)), trivial⟩) (spec_seOf_ok fuel _ _ _ (hx19)) (zfree_g (zfl (.cons (zfree_v _) (.cons (zfree_map (fun y => (.cons (zfree_v _) (.cons (zfree_map (fun y => (.cons (zfree_v _) .nil))) (.cons (zfree_map (fun y => (.cons (zfree_v _) .nil))) .nil))))) .nil)))) rfl rfl rfl) ?_
 refine AO.se T [x18.best, .R 11] ?_
 refine AO.pu T ?_
 refine AO.nil (AW.ret ?_)
 have hR := someE hH; subst hR
 exact retQ.i [11] rfl (.t (expLG_cons (.g (expLC_cons .v (expLC_cons (.rowR rfl) (expLC_nil)))) (expLG_cons (.c .v) (expLG_nil))))
 rw [hd8, spec_DropEntry_l1] at hH
 have hlt10 := drop_lt hd8
 refine AW.seq (AW.region ?_)
 refine AO.pu T ?_
 refine AO.nil (AW.seq ?_)
 refine AW.condT' (b := decide ((k5 : Int) < (x3.length : Int))) rfl (rngT hlt10) ?_
 refine AW.skip ?_
 refine AW.seq ?_
 refine AW.block ?_
 refine AW.seq (AW.region ?_)
 refine AO.val rfl rfl (ix_row_ok T rfl rfl rfl rfl rfl rfl (getI_drop hd8)) ?_
 refine AO.val rfl rfl (load_row_ok T rfl rfl rfl rfl (getI_get (getI_drop hd8)) rfl rfl rfl) ?_
 refine AO.step rfl (alloc_ok T rfl 12 rfl rfl rfl rfl rfl) ?_
 refine AO.se T [y6.event, y6.skater, y6.points] ?_
 refine AO.nil (AW.seq ?_)
 refine AW.region ?_
 iterate 5 refine AO.pu T ?_
 refine AO.pureG T [] rfl trivial rfl rfl ?_
 refine AO.pureG T [27] rfl ⟨fun h => h, trivial⟩ rfl rfl ?_
 refine AO.pureG T [] rfl trivial rfl rfl ?_
 refine AO.pureG T [28, 29] rfl ⟨fun h => h, fun h => h, trivial⟩ rfl rfl ?_
 refine AO.val rfl rfl (pick_or rfl rfl rfl rfl) ?_
 refine AO.nil ?_
 refine AW.cond (b := ((y6.event != event) || (y6.skater != skater))) rfl (fun hc => ?_) (fun hc => ?_)
 replace hH := condT hc hH
 obtain ⟨u20, hx21, hH⟩ := bindE hH
 refine AW.region ?_
 refine AO.pu T ?_
 refine AO.pu T (d := .g [y6.event, y6.skater, y6.points]) ?_
 refine AO.step rfl (mk_map_ok T rfl 13 rfl rfl rfl rfl rfl (f := encEntry) (l := [y6]) rfl rfl (fun _ => rfl) rfl rfl rfl rfl rfl) ?_
 refine AO.step rfl (app_rv_map T rfl 14 rfl rfl rfl rfl rfl (by decide) rfl rfl rfl rfl (fun _ => rfl) (needT (hx21)) rfl rfl) ?_
 refine AO.pu T ?_
 refine AO.nil ?_
 refine AW.region ?_
 refine AO.val rfl rfl (ar_ok rfl rfl rfl rfl (inI_succ hlt10 hb9)) ?_
 refine AO.pu T ?_
 refine AO.nil ?_
 refine ⟨(k5 + 1, (v16 ++ [y6])), ⟨Nat.succ_le_of_lt hlt10, (by rw [drop_succ_of hd8]; exact hH)⟩, (by have := hlt10; dsimp only; omega), ?_⟩
 exact Le.ct 14 9
 replace hH := condF hc hH
 refine AW.skip ?_
 refine AW.region ?_
 refine AO.val rfl rfl (ar_ok rfl rfl rfl rfl (inI_succ hlt10 hb9)) ?_
 refine AO.pu T ?_
 refine AO.nil ?_
 refine ⟨(k5 + 1, v16), ⟨Nat.succ_le_of_lt hlt10, (by rw [drop_succ_of hd8]; exact hH)⟩, (by have := hlt10; dsimp only; omega), ?_⟩
 exact Le.ct 0 0

def spec_DrawDropEvent_p (fuel : Nat) (code : List Int) : Option (Season × Int) :=
  (spec_l1Cur_season_p fuel (L1Cur.mk code 0 0)).bind fun x1 =>
  (spec_l1Cur_among_p (L1Cur.mk x1.1.code x1.1.at' x1.1.seed) ([0, 1, 2, 3, 4, 99, 100] : List Int)).bind fun x3 =>
  some ((Season.mk x1.2.best x1.2.lines), x3.2)
theorem spec_DrawDropEvent_ok (fuel : Nat) (code : List Int) (r : (Season × Int)) (hH : spec_DrawDropEvent_p fuel code = some r) : SpecR Try.prog 24 [.s (List.map encInt_u8 code)] (.t [.g (encSeasonO r.1), .v (.int .i64 r.2)]) := by
 refine fn_ok T Try.func24 rfl (by decide) rfl ?_
 refine AW.seq (AW.region ?_)
 refine AO.step rfl (alloc_ok T rfl 1 rfl rfl rfl rfl rfl) ?_
 refine AO.pu T ?_
 refine AO.nil (AW.seq ?_)
 refine AW.region ?_
 refine AO.pu T ?_
 refine AO.pu T (d := .g [.s (List.map encInt_u8 code), (0 : Int), .v (.int .u64 0)]) ?_
 refine AO.step rfl (box_ok T rfl 2 rfl rfl rfl rfl) ?_
 refine AO.pu T ?_
 refine AO.nil (AW.seq ?_)
 obtain ⟨x1, hx2, hH⟩ := bindE hH
 obtain ⟨x3, hx4, hH⟩ := bindE hH
 refine AW.region ?_
 refine AO.pu T ?_
 refine AO.step rfl (callM_ok rfl 3 rfl rfl (es := [.pw (encL1Cur (L1Cur.mk code 0 0))]) (outs := [.pw (encL1Cur x1.1)]) (ids := [2]) (by exact expLG_cons (.c (.box rfl rfl)) (expLG_nil)) (by decide) (.inl (by rfl)) (by rfl) (spec_l1Cur_season_ok fuel _ _ (hx2)) rfl (by rfl) rfl) ?_
 refine AO.pu T ?_
 refine AO.step rfl (mk_map_ok T rfl 4 rfl rfl rfl rfl rfl (f := encInt) (l := ([0, 1, 2, 3, 4, 99, 100] : List Int)) rfl rfl (fun _ => rfl) rfl rfl rfl rfl rfl) ?_
 refine AO.le (Le.freezeM 4 (g := encInt) rfl (fun y => .vs rfl)) ?_
 refine AO.step rfl (callM_ok rfl 5 rfl rfl (es := [.pw (encL1Cur (L1Cur.mk x1.1.code x1.1.at' x1.1.seed)), .s (([0, 1, 2, 3, 4, 99, 100] : List Int).map encInt)]) (outs := [.pw (encL1Cur x3.1), .u]) (ids := [2]) (by exact expLG_cons (.c (.box rfl rfl)) (expLG_cons (.c .s) (expLG_nil))) (by decide) (.inl (by rfl)) (by rfl) (spec_l1Cur_among_ok _ _ _ (hx4)) rfl (by rfl) rfl) ?_
 refine AO.se T [x1.2.best, .R 3] ?_
 refine AO.pu T ?_
 refine AO.nil (AW.ret ?_)
 have hR := someE hH; subst hR
 exact retQ.i [3] rfl (.t (expLG_cons (.g (expLC_cons .v (expLC_cons (.rowR rfl) (expLC_nil)))) (expLG_cons (.c .v) (expLG_nil))))

def impl_DropEvent_c1_p (e : Entry) (a : Int) : Option Bool :=
  some (e.event == a)
theorem impl_DropEvent_c1_ok (e : Entry) (a : Int) (r : Bool) (hH : impl_DropEvent_c1_p e a = some r) : SpecR Try.prog 69 [.g (encEntry e), .q [a]] (.v (.bool r)) := by
 refine fn_ok T Try.func69 rfl (by decide) rfl ?_
 refine AW.seq (AW.region ?_)
 refine AO.step rfl (box_ok T rfl 1 rfl rfl rfl rfl) ?_
 refine AO.pu T ?_
 refine AO.nil (AW.seq ?_)
 refine AW.region ?_
 iterate 5 refine AO.pu T ?_
 refine AO.nil (AW.ret ?_)
 have hR := someE hH; subst hR
 exact retQ.i [] rfl (.c (.c .v))

def impl_DropEvent_p (fuel : Nat) (sA : Season) (event : Int) : Option (Season × Bool) :=
  (impl_IsSeason_p fuel sA).bind fun x1 =>
  (opt (!(!x1)) default (impl_isEvent_p event)).bind fun x3 =>
  cond ((!x1) || (!x3))
    (some ((Season.mk 0 []), false))
    ((impl_dropEntries_p fuel sA (fun a0 => impl_DropEvent_c1_p a0 event)).bind fun x5 =>
    some (x5, true))
theorem impl_DropEvent_ok (fuel : Nat) (sA : Season) (event : Int) (r : (Season × Bool)) (hH : impl_DropEvent_p fuel sA event = some r) : SpecR Try.prog 25 [.g (encSeason sA), event] (.t [.g (encSeasonO r.1), .v (.bool r.2)]) := by
 refine fn_ok T Try.func25 rfl (by decide) rfl ?_
 refine AW.seq (AW.region ?_)
 refine AO.step rfl (box_ok T rfl 1 rfl rfl rfl rfl) ?_
 refine AO.step rfl (box_ok T rfl 2 rfl rfl rfl rfl) ?_
 refine AO.step rfl (alloc_ok T rfl 3 rfl rfl rfl rfl rfl) ?_
 refine AO.pu T ?_
 refine AO.nil ?_
 iterate 2 refine AW.seq ?_
 obtain ⟨x1, hx2, hH⟩ := bindE hH
 obtain ⟨x3, hx4, hH⟩ := bindE hH
 refine AW.region ?_
 refine AO.pu T (d := .g [sA.best, .s (List.map encLine sA.lines)]) ?_
 refine AO.val rfl rfl (callV_ok rfl rfl rfl rfl (impl_IsSeason_ok fuel _ _ (hx2)) rfl) ?_
 iterate 2 refine AO.pu T ?_
 refine AO.pureG T [] rfl trivial rfl rfl ?_
 refine AO.guard [10] rfl ⟨fun h => h, trivial⟩ (fun hg => callV_ok rfl rfl rfl rfl (impl_isEvent_ok _ _ (optT hx4 hg)) rfl) rfl ?_
 refine AO.pureG T [11] rfl ⟨fun h => h, trivial⟩ rfl rfl ?_
 refine AO.val rfl rfl (pick_or rfl rfl rfl rfl) ?_
 refine AO.nil ?_
 refine AW.cond (b := ((!x1) || (!x3))) rfl (fun hc => ?_) (fun hc => ?_)
 replace hH := condT hc hH
 refine AW.seq (AW.region ?_)
 refine AO.pu T (d := .g [(0 : Int), .w 0 []]) ?_
 refine AO.se T [(0 : Int), .w 0 []] ?_
 refine AO.pu T ?_
 refine AO.nil (AW.ret ?_)
 have hR := someE hH; subst hR
 exact retQ.i [] rfl (.t (expLG_cons (.g (expLC_cons .v (expLC_cons .nil (expLC_nil)))) (expLG_cons (.c .v) (expLG_nil))))
 replace hH := condF hc hH
 refine AW.skip ?_
 refine AW.seq ?_
 obtain ⟨x5, hx6, hH⟩ := bindE hH
 refine AW.region ?_
 refine AO.pu T (d := .g [sA.best, .s (List.map encLine sA.lines)]) ?_
 refine AO.pu T ?_
 refine AO.step rfl (callL_ok rfl 4 rfl rfl (es := [.g (encSeason sA), .f 69 [.q [event]]]) (by exact ⟨.free rfl, lend_f (LendL.cons (Lend.boxF rfl rfl) LendL.nil), trivial⟩) (impl_dropEntries_ok fuel _ 69 [.q [event]] rfl (fun a0 => impl_DropEvent_c1_p a0 event) (fun a0 q h => impl_DropEvent_c1_ok a0 event q h) _ (hx6)) (zfree_g (zfl (.cons (zfree_v _) (.cons (zfree_map (fun y => (.cons (zfree_v _) (.cons (zfree_map (fun y => (.cons (zfree_v _) .nil))) (.cons (zfree_map (fun y => (.cons (zfree_v _) .nil))) .nil))))) .nil)))) rfl rfl rfl) ?_
 refine AO.se T [x5.best, .R 4] ?_
 refine AO.pu T ?_
 refine AO.nil (AW.ret ?_)
 have hR := someE hH; subst hR
 exact retQ.i [4] rfl (.t (expLG_cons (.g (expLC_cons .v (expLC_cons (.rowR rfl) (expLC_nil)))) (expLG_cons (.c .v) (expLG_nil))))

def spec_DropEvent_l1 (sA : Season) (event : Int) (fuel : Nat) : List Entry → Nat → List Entry → Option ((Season × Bool))
  | [], k7, v18 =>
    (spec_seOf_p fuel sA.best v18).bind fun x20 =>
    some (x20, true)
  | y8 :: ys9, k7, v18 =>
    cond (y8.event != event)
      ((need (fitsB 24 (v18.length + ([y8]).length))).bind fun u22 =>
      spec_DropEvent_l1 sA event fuel ys9 (k7 + 1) (v18 ++ [y8]))
      (spec_DropEvent_l1 sA event fuel ys9 (k7 + 1) v18)
def spec_DropEvent_p (fuel : Nat) (sA : Season) (event : Int) : Option (Season × Bool) :=
  (spec_seGood_p sA).bind fun x1 =>
  (opt (!(!x1)) default (spec_l1In_p event 1 99)).bind fun x3 =>
  cond ((!x1) || (!x3))
    (some ((Season.mk 0 []), false))
    ((spec_seAll_p sA).bind fun x5 =>
    spec_DropEvent_l1 sA event fuel x5 0 [])
theorem spec_DropEvent_ok (fuel : Nat) (sA : Season) (event : Int) (r : (Season × Bool)) (hH : spec_DropEvent_p fuel sA event = some r) : SpecR Try.prog 26 [.g (encSeason sA), event] (.t [.g (encSeasonO r.1), .v (.bool r.2)]) := by
 refine fn_ok T Try.func26 rfl (by decide) rfl ?_
 refine AW.seq (AW.region ?_)
 refine AO.step rfl (box_ok T rfl 1 rfl rfl rfl rfl) ?_
 refine AO.step rfl (alloc_ok T rfl 2 rfl rfl rfl rfl rfl) ?_
 refine AO.pu T ?_
 refine AO.nil ?_
 iterate 2 refine AW.seq ?_
 obtain ⟨x1, hx2, hH⟩ := bindE hH
 obtain ⟨x3, hx4, hH⟩ := bindE hH
 refine AW.region ?_
 refine AO.pu T (d := .g [sA.best, .s (List.map encLine sA.lines)]) ?_
 refine AO.val rfl rfl (callV_ok rfl rfl rfl rfl (spec_seGood_ok _ _ (hx2)) rfl) ?_
 iterate 2 refine AO.pu T ?_
 refine AO.pureG T [] rfl trivial rfl rfl ?_
 refine AO.guard [13] rfl ⟨fun h => h, trivial⟩ (fun hg => callV_ok rfl rfl rfl rfl (spec_l1In_ok _ _ _ _ (optT hx4 hg)) rfl) rfl ?_
 refine AO.pureG T [14] rfl ⟨fun h => h, trivial⟩ rfl rfl ?_
 refine AO.val rfl rfl (pick_or rfl rfl rfl rfl) ?_
 refine AO.nil ?_
 refine AW.cond (b := ((!x1) || (!x3))) rfl (fun hc => ?_) (fun hc => ?_)
 replace hH := condT hc hH
 refine AW.seq (AW.region ?_)
 refine AO.pu T (d := .g [(0 : Int), .w 0 []]) ?_
 refine AO.se T [(0 : Int), .w 0 []] ?_
 refine AO.pu T ?_
 refine AO.nil (AW.ret ?_)
 have hR := someE hH; subst hR
 exact retQ.i [] rfl (.t (expLG_cons (.g (expLC_cons .v (expLC_cons .nil (expLC_nil)))) (expLG_cons (.c .v) (expLG_nil))))
 replace hH := condF hc hH
 refine AW.skip ?_
 refine AW.seq (AW.region ?_)
 refine AO.pu T ?_
 refine AO.nil ?_
 iterate 2 refine AW.seq ?_
 obtain ⟨x5, hx6, hH⟩ := bindE hH
 refine AW.region ?_
 refine AO.pu T (d := .g [sA.best, .s (List.map encLine sA.lines)]) ?_
 refine AO.step rfl (call_ok rfl 3 rfl rfl rfl (spec_seAll_ok _ _ (hx6)) rfl rfl rfl) ?_
 refine AO.val rfl rfl (len_row_ok T rfl rfl rfl rfl) ?_
 refine AO.pu T ?_
 refine AO.nil ?_
 refine AW.block ?_
 refine AW.loopS (fun s : Nat × (List Entry) => (⟨[(1, event), (2, .p 1 0), (4, .p 2 0), (6, .R 9), (19, .R 3), (20, (x5.length : Int)), (21, (s.1 : Int))], [(1, .box [sA.best, .s (List.map encLine sA.lines)]), (2, .box [(0 : Int), .w 0 []]), (3, .row 3 (List.map encEntry x5)), (9, .row 3 (List.map encEntry s.2))], 38, []⟩ : St)) (fun s => s.1 ≤ x5.length ∧ spec_DropEvent_l1 sA event fuel (x5.drop s.1) s.1 s.2 = some r) (fun s => x5.length - s.1) (0, []) ⟨Nat.zero_le _, hH⟩ ?_ ?_
 refine Le.trans (Le.void 6 9 3 rfl rfl) ?_
 exact Le.ct 0 0
 rintro ⟨k7, v18⟩ ⟨hk, hH⟩
 replace hH : spec_DropEvent_l1 sA event fuel (x5.drop k7) k7 v18 = some r := hH
 try dsimp only
 refine AW.boundR (id := 3) (l := x5) rfl (fun hb11 => ?_)
 rcases hd10 : x5.drop k7 with _ | ⟨y8, ys9⟩
 rw [hd10, spec_DropEvent_l1] at hH
 have hlt12 := drop_ge hd10
 refine AW.seq (AW.region ?_)
 refine AO.pu T ?_
 refine AO.nil (AW.seq ?_)
 refine AW.condF' (b := decide ((k7 : Int) < (x5.length : Int))) rfl (rngF hlt12) ?_
 refine AW.exit ?_
 refine AW.seq ?_
 obtain ⟨x20, hx21, hH⟩ := bindE hH
 refine AW.region ?_
 iterate 3 refine AO.pu T ?_
 refine AO.step rfl (callL_ok rfl 10 rfl rfl (es := [sA.best, .s (List.map encEntry v18)]) (by exact ⟨.free rfl, (.rowR rfl (.map fun y => .vs rfl)), trivial⟩) (spec_seOf_ok fuel _ _ _ (hx21)) (zfree_g (zfl (.cons (zfree_v _) (.cons (zfree_map (fun y => (.cons (zfree_v _) (.cons (zfree_map (fun y => (.cons (zfree_v _) .nil))) (.cons (zfree_map (fun y => (.cons (zfree_v _) .nil))) .nil))))) .nil)))) rfl rfl rfl) ?_
 refine AO.se T [x20.best, .R 10] ?_
 refine AO.pu T ?_
 refine AO.nil (AW.ret ?_)
 have hR := someE hH; subst hR
 exact retQ.i [10] rfl (.t (expLG_cons (.g (expLC_cons .v (expLC_cons (.rowR rfl) (expLC_nil)))) (expLG_cons (.c .v) (expLG_nil))))
 rw [hd10, spec_DropEvent_l1] at hH
 have hlt12 := drop_lt hd10
 refine AW.seq (AW.region ?_)
 refine AO.pu T ?_
 refine AO.nil (AW.seq ?_)
 refine AW.condT' (b := decide ((k7 : Int) < (x5.length : Int))) rfl (rngT hlt12) ?_
 refine AW.skip ?_
 refine AW.seq ?_
 refine AW.block ?_
 refine AW.seq (AW.region ?_)
 refine AO.val rfl rfl (ix_row_ok T rfl rfl rfl rfl rfl rfl (getI_drop hd10)) ?_
 refine AO.val rfl rfl (load_row_ok T rfl rfl rfl rfl (getI_get (getI_drop hd10)) rfl rfl rfl) ?_
 refine AO.step rfl (alloc_ok T rfl 11 rfl rfl rfl rfl rfl) ?_
 refine AO.se T [y8.event, y8.skater, y8.points] ?_
 refine AO.nil (AW.seq ?_)
 refine AW.region ?_
 iterate 4 refine AO.pu T ?_
 refine AO.nil ?_
 refine AW.cond (b := (y8.event != event)) rfl (fun hc => ?_) (fun hc => ?_)
 replace hH := condT hc hH
 obtain ⟨u22, hx23, hH⟩ := bindE hH
 refine AW.region ?_
 refine AO.pu T ?_
 refine AO.pu T (d := .g [y8.event, y8.skater, y8.points]) ?_
 refine AO.step rfl (mk_map_ok T rfl 12 rfl rfl rfl rfl rfl (f := encEntry) (l := [y8]) rfl rfl (fun _ => rfl) rfl rfl rfl rfl rfl) ?_
 refine AO.step rfl (app_rv_map T rfl 13 rfl rfl rfl rfl rfl (by decide) rfl rfl rfl rfl (fun _ => rfl) (needT (hx23)) rfl rfl) ?_
 refine AO.pu T ?_
 refine AO.nil ?_
 refine AW.region ?_
 refine AO.val rfl rfl (ar_ok rfl rfl rfl rfl (inI_succ hlt12 hb11)) ?_
 refine AO.pu T ?_
 refine AO.nil ?_
 refine ⟨(k7 + 1, (v18 ++ [y8])), ⟨Nat.succ_le_of_lt hlt12, (by rw [drop_succ_of hd10]; exact hH)⟩, (by have := hlt12; dsimp only; omega), ?_⟩
 exact Le.ct 13 9
 replace hH := condF hc hH
 refine AW.skip ?_
 refine AW.region ?_
 refine AO.val rfl rfl (ar_ok rfl rfl rfl rfl (inI_succ hlt12 hb11)) ?_
 refine AO.pu T ?_
 refine AO.nil ?_
 refine ⟨(k7 + 1, v18), ⟨Nat.succ_le_of_lt hlt12, (by rw [drop_succ_of hd10]; exact hH)⟩, (by have := hlt12; dsimp only; omega), ?_⟩
 exact Le.ct 0 0

def spec_DrawIsSeason_p (fuel : Nat) (code : List Int) : Option Season :=
  (spec_l1Cur_season_p fuel (L1Cur.mk code 0 0)).bind fun x1 =>
  some (Season.mk x1.2.best x1.2.lines)
theorem spec_DrawIsSeason_ok (fuel : Nat) (code : List Int) (r : Season) (hH : spec_DrawIsSeason_p fuel code = some r) : SpecR Try.prog 35 [.s (List.map encInt_u8 code)] (.g (encSeasonO r)) := by
 refine fn_ok T Try.func35 rfl (by decide) rfl ?_
 refine AW.seq (AW.region ?_)
 refine AO.step rfl (alloc_ok T rfl 1 rfl rfl rfl rfl rfl) ?_
 refine AO.nil (AW.seq ?_)
 refine AW.region ?_
 refine AO.pu T ?_
 refine AO.pu T (d := .g [.s (List.map encInt_u8 code), (0 : Int), .v (.int .u64 0)]) ?_
 refine AO.step rfl (box_ok T rfl 2 rfl rfl rfl rfl) ?_
 refine AO.pu T ?_
 refine AO.nil (AW.seq ?_)
 obtain ⟨x1, hx2, hH⟩ := bindE hH
 refine AW.region ?_
 refine AO.pu T ?_
 refine AO.step rfl (callM_ok rfl 3 rfl rfl (es := [.pw (encL1Cur (L1Cur.mk code 0 0))]) (outs := [.pw (encL1Cur x1.1)]) (ids := [2]) (by exact expLG_cons (.c (.box rfl rfl)) (expLG_nil)) (by decide) (.inl (by rfl)) (by rfl) (spec_l1Cur_season_ok fuel _ _ (hx2)) rfl (by rfl) rfl) ?_
 refine AO.se T [x1.2.best, .R 3] ?_
 refine AO.nil (AW.ret ?_)
 have hR := someE hH; subst hR
 exact retQ.i [3] rfl (.c (.g (expLC_cons .v (expLC_cons (.rowR rfl) (expLC_nil)))))

def spec_DrawEntriesOf_p (fuel : Nat) (code : List Int) : Option Season :=
  (spec_DrawIsSeason_p fuel code).bind fun x1 =>
  some x1
theorem spec_DrawEntriesOf_ok (fuel : Nat) (code : List Int) (r : Season) (hH : spec_DrawEntriesOf_p fuel code = some r) : SpecR Try.prog 27 [.s (List.map encInt_u8 code)] (.g (encSeasonO r)) := by
 refine fn_ok T Try.func27 rfl (by decide) rfl ?_
 refine AW.seq (AW.region ?_)
 refine AO.step rfl (alloc_ok T rfl 1 rfl rfl rfl rfl rfl) ?_
 refine AO.nil (AW.seq ?_)
 obtain ⟨x1, hx2, hH⟩ := bindE hH
 refine AW.region ?_
 refine AO.pu T ?_
 refine AO.step rfl (call_ok rfl 2 rfl rfl rfl (spec_DrawIsSeason_ok fuel _ _ (hx2)) rfl rfl rfl) ?_
 refine AO.se T [x1.best, .R 2] ?_
 refine AO.nil (AW.ret ?_)
 have hR := someE hH; subst hR
 exact retQ.i [2] rfl (.c (.g (expLC_cons .v (expLC_cons (.rowR rfl) (expLC_nil)))))

def impl_EntriesOf_p (fuel : Nat) (sA : Season) : Option ((List Entry) × Bool) :=
  (impl_IsSeason_p fuel sA).bind fun x1 =>
  cond (!x1)
    (some ([], false))
    ((impl_entriesOf_p sA).bind fun x3 =>
    some (x3, true))
theorem impl_EntriesOf_ok (fuel : Nat) (sA : Season) (r : ((List Entry) × Bool)) (hH : impl_EntriesOf_p fuel sA = some r) : SpecR Try.prog 28 [.g (encSeason sA)] (.t [.w 3 (r.1.map encEntry), .v (.bool r.2)]) := by
 refine fn_ok T Try.func28 rfl (by decide) rfl ?_
 refine AW.seq (AW.region ?_)
 refine AO.step rfl (box_ok T rfl 1 rfl rfl rfl rfl) ?_
 iterate 2 refine AO.pu T ?_
 refine AO.nil ?_
 iterate 2 refine AW.seq ?_
 obtain ⟨x1, hx2, hH⟩ := bindE hH
 refine AW.region ?_
 refine AO.pu T (d := .g [sA.best, .s (List.map encLine sA.lines)]) ?_
 refine AO.val rfl rfl (callV_ok rfl rfl rfl rfl (impl_IsSeason_ok fuel _ _ (hx2)) rfl) ?_
 refine AO.pu T ?_
 refine AO.nil ?_
 refine AW.cond (b := (!x1)) rfl (fun hc => ?_) (fun hc => ?_)
 replace hH := condT hc hH
 refine AW.seq (AW.region ?_)
 iterate 2 refine AO.pu T ?_
 refine AO.nil (AW.ret ?_)
 have hR := someE hH; subst hR
 exact retQ.i [] rfl (.t (expLG_cons (.c .nil) (expLG_cons (.c .v) (expLG_nil))))
 replace hH := condF hc hH
 refine AW.skip ?_
 refine AW.seq ?_
 obtain ⟨x3, hx4, hH⟩ := bindE hH
 refine AW.region ?_
 refine AO.pu T (d := .g [sA.best, .s (List.map encLine sA.lines)]) ?_
 refine AO.step rfl (call_ok rfl 2 rfl rfl rfl (impl_entriesOf_ok _ _ (hx4)) rfl rfl rfl) ?_
 iterate 2 refine AO.pu T ?_
 refine AO.nil (AW.ret ?_)
 have hR := someE hH; subst hR
 exact retQ.i [2] rfl (.t (expLG_cons (.c (.rowR rfl)) (expLG_cons (.c .v) (expLG_nil))))

def spec_EntriesOf_p (sA : Season) : Option ((List Entry) × Bool) :=
  (spec_seGood_p sA).bind fun x1 =>
  cond (!x1)
    (some ([], false))
    ((spec_seAll_p sA).bind fun x3 =>
    some (x3, true))
theorem spec_EntriesOf_ok (sA : Season) (r : ((List Entry) × Bool)) (hH : spec_EntriesOf_p sA = some r) : SpecR Try.prog 29 [.g (encSeason sA)] (.t [.w 3 (r.1.map encEntry), .v (.bool r.2)]) := by
 refine fn_ok T Try.func29 rfl (by decide) rfl ?_
 refine AW.seq (AW.region ?_)
 refine AO.step rfl (box_ok T rfl 1 rfl rfl rfl rfl) ?_
 iterate 2 refine AO.pu T ?_
 refine AO.nil ?_
 iterate 2 refine AW.seq ?_
 obtain ⟨x1, hx2, hH⟩ := bindE hH
 refine AW.region ?_
 refine AO.pu T (d := .g [sA.best, .s (List.map encLine sA.lines)]) ?_
 refine AO.val rfl rfl (callV_ok rfl rfl rfl rfl (spec_seGood_ok _ _ (hx2)) rfl) ?_
 refine AO.pu T ?_
 refine AO.nil ?_
 refine AW.cond (b := (!x1)) rfl (fun hc => ?_) (fun hc => ?_)
 replace hH := condT hc hH
 refine AW.seq (AW.region ?_)
 iterate 2 refine AO.pu T ?_
 refine AO.nil (AW.ret ?_)
 have hR := someE hH; subst hR
 exact retQ.i [] rfl (.t (expLG_cons (.c .nil) (expLG_cons (.c .v) (expLG_nil))))
 replace hH := condF hc hH
 refine AW.skip ?_
 refine AW.seq ?_
 obtain ⟨x3, hx4, hH⟩ := bindE hH
 refine AW.region ?_
 refine AO.pu T (d := .g [sA.best, .s (List.map encLine sA.lines)]) ?_
 refine AO.step rfl (call_ok rfl 2 rfl rfl rfl (spec_seAll_ok _ _ (hx4)) rfl rfl rfl) ?_
 iterate 2 refine AO.pu T ?_
 refine AO.nil (AW.ret ?_)
 have hR := someE hH; subst hR
 exact retQ.i [2] rfl (.t (expLG_cons (.c (.rowR rfl)) (expLG_cons (.c .v) (expLG_nil))))

def laws_qInts_l1 (b : List Int) : List Int → Nat → Option Bool
  | [], k1 =>
    some true
  | y2 :: ys3, k1 =>
    (getI b (k1 : Int)).bind fun x12 =>
    cond (y2 != x12)
      (some false)
      (laws_qInts_l1 b ys3 (k1 + 1))
def laws_qInts_p (a : List Int) (b : List Int) : Option Bool :=
  cond ((a.length : Int) != (b.length : Int))
    (some false)
    (laws_qInts_l1 b a 0)
theorem laws_qInts_ok (a : List Int) (b : List Int) (r : Bool) (hH : laws_qInts_p a b = some r) : SpecR Try.prog 14 [.s (List.map encInt a), .s (List.map encInt b)] (.v (.bool r)) := by
 refine fn_ok T Try.func14 rfl (by decide) rfl ?_
 refine AW.seq (AW.region ?_)
 refine AO.pu T ?_
 refine AO.nil ?_
 iterate 2 refine AW.seq ?_
 refine AW.region ?_
 refine AO.pu T ?_
 refine AO.val rfl rfl (len_map_ok T rfl rfl rfl) ?_
 refine AO.pu T ?_
 refine AO.val rfl rfl (len_map_ok T rfl rfl rfl) ?_
 refine AO.pu T ?_
 refine AO.nil ?_
 refine AW.cond (b := ((a.length : Int) != (b.length : Int))) rfl (fun hc => ?_) (fun hc => ?_)
 replace hH := condT hc hH
 refine AW.seq (AW.region ?_)
 refine AO.pu T ?_
 refine AO.nil (AW.ret ?_)
 have hR := someE hH; subst hR
 exact retQ.i [] rfl (.c (.c .v))
 replace hH := condF hc hH
 refine AW.skip ?_
 iterate 2 refine AW.seq ?_
 refine AW.region ?_
 refine AO.pu T ?_
 refine AO.val rfl rfl (len_map_ok T rfl rfl rfl) ?_
 refine AO.pu T ?_
 refine AO.nil ?_
 refine AW.block ?_
 refine AW.loopS (fun s : Nat => (⟨[(0, .s (List.map encInt a)), (1, .s (List.map encInt b)), (12, (a.length : Int)), (13, (s : Int))], [], 26, []⟩ : St)) (fun s => s ≤ a.length ∧ laws_qInts_l1 b (a.drop s) s = some r) (fun s => a.length - s) 0 ⟨Nat.zero_le _, hH⟩ ?_ ?_
 exact Le.ct 0 0
 rintro k1 ⟨hk, hH⟩
 replace hH : laws_qInts_l1 b (a.drop k1) k1 = some r := hH
 try dsimp only
 refine AW.boundM (t := 0) (l := a) rfl (fun hb5 => ?_)
 rcases hd4 : a.drop k1 with _ | ⟨y2, ys3⟩
 rw [hd4, laws_qInts_l1] at hH
 have hlt6 := drop_ge hd4
 refine AW.seq (AW.region ?_)
 refine AO.pu T ?_
 refine AO.nil (AW.seq ?_)
 refine AW.condF' (b := decide ((k1 : Int) < (a.length : Int))) rfl (rngF hlt6) ?_
 refine AW.exit ?_
 refine AW.seq (AW.region ?_)
 refine AO.pu T ?_
 refine AO.nil (AW.ret ?_)
 have hR := someE hH; subst hR
 exact retQ.i [] rfl (.c (.c .v))
 rw [hd4, laws_qInts_l1] at hH
 have hlt6 := drop_lt hd4
 refine AW.seq (AW.region ?_)
 refine AO.pu T ?_
 refine AO.nil (AW.seq ?_)
 refine AW.condT' (b := decide ((k1 : Int) < (a.length : Int))) rfl (rngT hlt6) ?_
 refine AW.skip ?_
 refine AW.seq ?_
 refine AW.block ?_
 refine AW.seq (AW.region ?_)
 iterate 2 refine AO.pu T ?_
 refine AO.nil (AW.seq ?_)
 obtain ⟨x12, hx13, hH⟩ := bindE hH
 refine AW.drawn 8 1 [] mix (by kernel_rfl) rfl ?_
 iterate 2 refine AD.pure T rfl rfl rfl ?_
 refine AD.val rfl rfl (ix_map_ok T rfl rfl rfl rfl rfl (getI_drop hd4) rfl) ?_
 iterate 3 refine AD.pure T rfl rfl rfl ?_
 refine AD.val rfl rfl (ix_map_ok T rfl rfl rfl rfl rfl (hx13) rfl) ?_
 refine AD.pure T rfl rfl rfl ?_
 refine AD.nil ?_
 refine AO.pu T ?_
 refine AO.nil ?_
 refine AW.cond (b := (y2 != x12)) rfl (fun hc => ?_) (fun hc => ?_)
 replace hH := condT hc hH
 refine AW.seq (AW.region ?_)
 refine AO.pu T ?_
 refine AO.nil (AW.ret ?_)
 have hR := someE hH; subst hR
 exact retQ.i [] rfl (.c (.c .v))
 replace hH := condF hc hH
 refine AW.skip ?_
 refine AW.region ?_
 refine AO.val rfl rfl (ar_ok rfl rfl rfl rfl (inI_succ hlt6 hb5)) ?_
 refine AO.pu T ?_
 refine AO.nil ?_
 refine ⟨k1 + 1, ⟨Nat.succ_le_of_lt hlt6, (by rw [drop_succ_of hd4]; exact hH)⟩, (by have := hlt6; dsimp only; omega), ?_⟩
 exact Le.ct 0 0

def laws_qSeason_l1 (b : Season) : List Line → Nat → Option Bool
  | [], k1 =>
    some true
  | y2 :: ys3, k1 =>
    (getI b.lines (k1 : Int)).bind fun x20 =>
    (opt (!(y2.skater != x20.skater)) default (laws_qInts_p y2.events x20.events)).bind fun x22 =>
    (opt (!((y2.skater != x20.skater) || (!x22))) default (laws_qInts_p y2.points x20.points)).bind fun x24 =>
    cond (((y2.skater != x20.skater) || (!x22)) || (!x24))
      (some false)
      (laws_qSeason_l1 b ys3 (k1 + 1))
def laws_qSeason_p (a : Season) (b : Season) : Option Bool :=
  cond ((a.best != b.best) || ((a.lines.length : Int) != (b.lines.length : Int)))
    (some false)
    (laws_qSeason_l1 b a.lines 0)
theorem laws_qSeason_ok (a : Season) (b : Season) (r : Bool) (hH : laws_qSeason_p a b = some r) : SpecR Try.prog 30 [.g (encSeason a), .g (encSeason b)] (.v (.bool r)) := by
 refine fn_ok T Try.func30 rfl (by decide) rfl ?_
 refine AW.seq (AW.region ?_)
 refine AO.step rfl (box_ok T rfl 1 rfl rfl rfl rfl) ?_
 refine AO.step rfl (box_ok T rfl 2 rfl rfl rfl rfl) ?_
 refine AO.pu T ?_
 refine AO.nil ?_
 iterate 2 refine AW.seq ?_
 refine AW.region ?_
 iterate 6 refine AO.pu T ?_
 refine AO.pureG T [] rfl trivial rfl rfl ?_
 refine AO.pureG T [12] rfl ⟨fun h => h, trivial⟩ rfl rfl ?_
 refine AO.guard [13] rfl ⟨fun h => h, trivial⟩ (fun hg => len_map_ok T rfl rfl rfl) rfl ?_
 refine AO.pureG T [] rfl trivial rfl rfl ?_
 refine AO.pureG T [15] rfl ⟨fun h => h, trivial⟩ rfl rfl ?_
 refine AO.guard [16] rfl ⟨fun h => h, trivial⟩ (fun hg => len_map_ok T rfl rfl rfl) rfl ?_
 refine AO.pureG T [14, 17] rfl ⟨fun h => h, fun h => h, trivial⟩ rfl rfl ?_
 refine AO.val rfl rfl (pick_or rfl rfl rfl rfl) ?_
 refine AO.nil ?_
 refine AW.cond (b := ((a.best != b.best) || ((a.lines.length : Int) != (b.lines.length : Int)))) rfl (fun hc => ?_) (fun hc => ?_)
 replace hH := condT hc hH
 refine AW.seq (AW.region ?_)
 refine AO.pu T ?_
 refine AO.nil (AW.ret ?_)
 have hR := someE hH; subst hR
 exact retQ.i [] rfl (.c (.c .v))
 replace hH := condF hc hH
 refine AW.skip ?_
 iterate 2 refine AW.seq ?_
 refine AW.region ?_
 iterate 2 refine AO.pu T ?_
 refine AO.val rfl rfl (len_map_ok T rfl rfl rfl) ?_
 refine AO.pu T ?_
 refine AO.nil ?_
 refine AW.block ?_
 refine AW.loopS (fun s : Nat => (⟨[(2, .p 1 0), (3, .p 2 0), (22, (a.lines.length : Int)), (23, (s : Int))], [(1, .box [a.best, .s (List.map encLine a.lines)]), (2, .box [b.best, .s (List.map encLine b.lines)])], 72, []⟩ : St)) (fun s => s ≤ a.lines.length ∧ laws_qSeason_l1 b (a.lines.drop s) s = some r) (fun s => a.lines.length - s) 0 ⟨Nat.zero_le _, hH⟩ ?_ ?_
 exact Le.ct 0 0
 rintro k1 ⟨hk, hH⟩
 replace hH : laws_qSeason_l1 b (a.lines.drop k1) k1 = some r := hH
 try dsimp only
 refine AW.boundBox (id := 1) (j := 1) (l := a.lines) rfl rfl (fun hb5 => ?_)
 rcases hd4 : a.lines.drop k1 with _ | ⟨y2, ys3⟩
 rw [hd4, laws_qSeason_l1] at hH
 have hlt6 := drop_ge hd4
 refine AW.seq (AW.region ?_)
 refine AO.pu T ?_
 refine AO.nil (AW.seq ?_)
 refine AW.condF' (b := decide ((k1 : Int) < (a.lines.length : Int))) rfl (rngF hlt6) ?_
 refine AW.exit ?_
 refine AW.seq (AW.region ?_)
 refine AO.pu T ?_
 refine AO.nil (AW.ret ?_)
 have hR := someE hH; subst hR
 exact retQ.i [] rfl (.c (.c .v))
 rw [hd4, laws_qSeason_l1] at hH
 have hlt6 := drop_lt hd4
 refine AW.seq (AW.region ?_)
 refine AO.pu T ?_
 refine AO.nil (AW.seq ?_)
 refine AW.condT' (b := decide ((k1 : Int) < (a.lines.length : Int))) rfl (rngT hlt6) ?_
 refine AW.skip ?_
 refine AW.seq ?_
 refine AW.block ?_
 refine AW.seq (AW.region ?_)
 iterate 2 refine AO.pu T ?_
 refine AO.nil (AW.seq ?_)
 obtain ⟨x20, hx21, hH⟩ := bindE hH
 obtain ⟨x22, hx23, hH⟩ := bindE hH
 obtain ⟨x24, hx25, hH⟩ := bindE hH
 refine AW.drawn 42 3 [] mix (by kernel_rfl) rfl ?_
 iterate 3 refine AD.pure T rfl rfl rfl ?_
 refine AD.val rfl rfl (ix_map_ok T rfl rfl rfl rfl rfl (getI_drop hd4) rfl) ?_
 iterate 5 refine AD.pure T rfl rfl rfl ?_
 refine AD.val rfl rfl (ix_map_ok T rfl rfl rfl rfl rfl (hx21) rfl) ?_
 iterate 4 refine AD.pure T rfl rfl rfl ?_
 refine AD.pureG T [] rfl trivial rfl rfl ?_
 refine AD.pureG T [40] rfl ⟨fun h => h, trivial⟩ rfl rfl ?_
 refine AD.pureG T [] rfl trivial rfl rfl ?_
 refine AD.guard [41, 42] rfl ⟨fun h => h, fun h => h, trivial⟩ (fun hg => ix_map_ok T rfl rfl rfl rfl rfl (getI_drop hd4) rfl) rfl ?_
 refine AD.pureG T [43] rfl ⟨fun h => h, trivial⟩ rfl rfl ?_
 refine AD.pureG T [44] rfl ⟨fun h => h, trivial⟩ rfl rfl ?_
 refine AD.pureG T [] rfl trivial rfl rfl ?_
 refine AD.pureG T [46] rfl ⟨fun h => h, trivial⟩ rfl rfl ?_
 refine AD.pureG T [] rfl trivial rfl rfl ?_
 refine AD.guard [47, 48] rfl ⟨fun h => h, fun h => h, trivial⟩ (fun hg => ix_map_ok T rfl rfl rfl rfl rfl (hx21) rfl) rfl ?_
 refine AD.pureG T [49] rfl ⟨fun h => h, trivial⟩ rfl rfl ?_
 refine AD.pureG T [50] rfl ⟨fun h => h, trivial⟩ rfl rfl ?_
 refine AD.guard [45, 51] rfl ⟨fun h => h, fun h => h, trivial⟩ (fun hg => callV_ok rfl rfl rfl rfl (laws_qInts_ok _ _ _ (optT hx23 hg)) rfl) rfl ?_
 refine AD.pureG T [52] rfl ⟨fun h => h, trivial⟩ rfl rfl ?_
 refine AD.val rfl rfl (pick_or rfl rfl rfl rfl) ?_
 refine AD.pure T rfl rfl rfl ?_
 refine AD.pureG T [] rfl trivial rfl rfl ?_
 refine AD.pureG T [56] rfl ⟨fun h => h, trivial⟩ rfl rfl ?_
 refine AD.pureG T [] rfl trivial rfl rfl ?_
 refine AD.guard [57, 58] rfl ⟨fun h => h, fun h => h, trivial⟩ (fun hg => ix_map_ok T rfl rfl rfl rfl rfl (getI_drop hd4) rfl) rfl ?_
 refine AD.pureG T [59] rfl ⟨fun h => h, trivial⟩ rfl rfl ?_
 refine AD.pureG T [60] rfl ⟨fun h => h, trivial⟩ rfl rfl ?_
 refine AD.pureG T [] rfl trivial rfl rfl ?_
 refine AD.pureG T [62] rfl ⟨fun h => h, trivial⟩ rfl rfl ?_
 refine AD.pureG T [] rfl trivial rfl rfl ?_
 refine AD.guard [63, 64] rfl ⟨fun h => h, fun h => h, trivial⟩ (fun hg => ix_map_ok T rfl rfl rfl rfl rfl (hx21) rfl) rfl ?_
 refine AD.pureG T [65] rfl ⟨fun h => h, trivial⟩ rfl rfl ?_
 refine AD.pureG T [66] rfl ⟨fun h => h, trivial⟩ rfl rfl ?_
 refine AD.nil ?_
 refine AO.guard [61, 67] rfl ⟨fun h => h, fun h => h, trivial⟩ (fun hg => callV_ok rfl rfl rfl rfl (laws_qInts_ok _ _ _ (optT hx25 hg)) rfl) rfl ?_
 refine AO.pureG T [68] rfl ⟨fun h => h, trivial⟩ rfl rfl ?_
 refine AO.val rfl rfl (pick_or rfl rfl rfl rfl) ?_
 refine AO.nil ?_
 refine AW.le (Le.ct 0 0 (σ' := (⟨[(2, .p 1 0), (3, .p 2 0), (22, (a.lines.length : Int)), (23, (k1 : Int)), (70, .v (.bool (((y2.skater != x20.skater) || (!x22)) || (!x24))))], [(1, .box [a.best, .s (List.map encLine a.lines)]), (2, .box [b.best, .s (List.map encLine b.lines)])], 72, []⟩ : St))) ?_
 refine AW.cond (b := (((y2.skater != x20.skater) || (!x22)) || (!x24))) rfl (fun hc => ?_) (fun hc => ?_)
 replace hH := condT hc hH
 refine AW.seq (AW.region ?_)
 refine AO.pu T ?_
 refine AO.nil (AW.ret ?_)
 have hR := someE hH; subst hR
 exact retQ.i [] rfl (.c (.c .v))
 replace hH := condF hc hH
 refine AW.skip ?_
 refine AW.region ?_
 refine AO.val rfl rfl (ar_ok rfl rfl rfl rfl (inI_succ hlt6 hb5)) ?_
 refine AO.pu T ?_
 refine AO.nil ?_
 refine ⟨k1 + 1, ⟨Nat.succ_le_of_lt hlt6, (by rw [drop_succ_of hd4]; exact hH)⟩, (by have := hlt6; dsimp only; omega), ?_⟩
 exact Le.ct 0 0

def laws_qEntries_l1 (b : List Entry) : List Entry → Nat → Option Bool
  | [], k1 =>
    some true
  | y2 :: ys3, k1 =>
    (getI b (k1 : Int)).bind fun x12 =>
    cond (!decide (y2 = x12))
      (some false)
      (laws_qEntries_l1 b ys3 (k1 + 1))
def laws_qEntries_p (a : List Entry) (b : List Entry) : Option Bool :=
  cond ((a.length : Int) != (b.length : Int))
    (some false)
    (laws_qEntries_l1 b a 0)
theorem laws_qEntries_ok (a : List Entry) (b : List Entry) (r : Bool) (hH : laws_qEntries_p a b = some r) : SpecR Try.prog 31 [.s (List.map encEntry a), .s (List.map encEntry b)] (.v (.bool r)) := by
 refine fn_ok T Try.func31 rfl (by decide) rfl ?_
 refine AW.seq (AW.region ?_)
 refine AO.pu T ?_
 refine AO.nil ?_
 iterate 2 refine AW.seq ?_
 refine AW.region ?_
 refine AO.pu T ?_
 refine AO.val rfl rfl (len_map_ok T rfl rfl rfl) ?_
 refine AO.pu T ?_
 refine AO.val rfl rfl (len_map_ok T rfl rfl rfl) ?_
 refine AO.pu T ?_
 refine AO.nil ?_
 refine AW.cond (b := ((a.length : Int) != (b.length : Int))) rfl (fun hc => ?_) (fun hc => ?_)
 replace hH := condT hc hH
 refine AW.seq (AW.region ?_)
 refine AO.pu T ?_
 refine AO.nil (AW.ret ?_)
 have hR := someE hH; subst hR
 exact retQ.i [] rfl (.c (.c .v))
 replace hH := condF hc hH
 refine AW.skip ?_
 iterate 2 refine AW.seq ?_
 refine AW.region ?_
 refine AO.pu T ?_
 refine AO.val rfl rfl (len_map_ok T rfl rfl rfl) ?_
 refine AO.pu T ?_
 refine AO.nil ?_
 refine AW.block ?_
 refine AW.loopS (fun s : Nat => (⟨[(0, .s (List.map encEntry a)), (1, .s (List.map encEntry b)), (12, (a.length : Int)), (13, (s : Int))], [], 26, []⟩ : St)) (fun s => s ≤ a.length ∧ laws_qEntries_l1 b (a.drop s) s = some r) (fun s => a.length - s) 0 ⟨Nat.zero_le _, hH⟩ ?_ ?_
 exact Le.ct 0 0
 rintro k1 ⟨hk, hH⟩
 replace hH : laws_qEntries_l1 b (a.drop k1) k1 = some r := hH
 try dsimp only
 refine AW.boundM (t := 0) (l := a) rfl (fun hb5 => ?_)
 rcases hd4 : a.drop k1 with _ | ⟨y2, ys3⟩
 rw [hd4, laws_qEntries_l1] at hH
 have hlt6 := drop_ge hd4
 refine AW.seq (AW.region ?_)
 refine AO.pu T ?_
 refine AO.nil (AW.seq ?_)
 refine AW.condF' (b := decide ((k1 : Int) < (a.length : Int))) rfl (rngF hlt6) ?_
 refine AW.exit ?_
 refine AW.seq (AW.region ?_)
 refine AO.pu T ?_
 refine AO.nil (AW.ret ?_)
 have hR := someE hH; subst hR
 exact retQ.i [] rfl (.c (.c .v))
 rw [hd4, laws_qEntries_l1] at hH
 have hlt6 := drop_lt hd4
 refine AW.seq (AW.region ?_)
 refine AO.pu T ?_
 refine AO.nil (AW.seq ?_)
 refine AW.condT' (b := decide ((k1 : Int) < (a.length : Int))) rfl (rngT hlt6) ?_
 refine AW.skip ?_
 refine AW.seq ?_
 refine AW.block ?_
 refine AW.seq (AW.region ?_)
 iterate 2 refine AO.pu T ?_
 refine AO.nil (AW.seq ?_)
 obtain ⟨x12, hx13, hH⟩ := bindE hH
 refine AW.drawn 8 1 [] mix (by kernel_rfl) rfl ?_
 iterate 2 refine AD.pure T rfl rfl rfl ?_
 refine AD.val rfl rfl (ix_map_ok T rfl rfl rfl rfl rfl (getI_drop hd4) rfl) ?_
 refine AD.pure T (d := .g [y2.event, y2.skater, y2.points]) rfl rfl rfl ?_
 iterate 2 refine AD.pure T rfl rfl rfl ?_
 refine AD.val rfl rfl (ix_map_ok T rfl rfl rfl rfl rfl (hx13) rfl) ?_
 refine AD.pure T (d := .g [x12.event, x12.skater, x12.points]) rfl rfl rfl ?_
 refine AD.nil ?_
 refine AO.val rfl rfl (neqg_ok rfl ekTEntry rfl rfl rfl rfl (eqVEntry _ _)) ?_
 refine AO.nil ?_
 refine AW.cond (b := (!decide (y2 = x12))) rfl (fun hc => ?_) (fun hc => ?_)
 replace hH := condT hc hH
 refine AW.seq (AW.region ?_)
 refine AO.pu T ?_
 refine AO.nil (AW.ret ?_)
 have hR := someE hH; subst hR
 exact retQ.i [] rfl (.c (.c .v))
 replace hH := condF hc hH
 refine AW.skip ?_
 refine AW.region ?_
 refine AO.val rfl rfl (ar_ok rfl rfl rfl rfl (inI_succ hlt6 hb5)) ?_
 refine AO.pu T ?_
 refine AO.nil ?_
 refine ⟨k1 + 1, ⟨Nat.succ_le_of_lt hlt6, (by rw [drop_succ_of hd4]; exact hH)⟩, (by have := hlt6; dsimp only; omega), ?_⟩
 exact Le.ct 0 0

def spec_AreEntries_p (l : List Entry) : Option Bool :=
  (spec_seEntries_p l).bind fun x1 =>
  some x1
theorem spec_AreEntries_ok (l : List Entry) (r : Bool) (hH : spec_AreEntries_p l = some r) : SpecR Try.prog 33 [.s (List.map encEntry l)] (.v (.bool r)) := by
 refine fn_ok T Try.func33 rfl (by decide) rfl ?_
 refine AW.seq (AW.region ?_)
 refine AO.pu T ?_
 refine AO.nil (AW.seq ?_)
 obtain ⟨x1, hx2, hH⟩ := bindE hH
 refine AW.region ?_
 refine AO.pu T ?_
 refine AO.val rfl rfl (callV_ok rfl rfl rfl rfl (spec_seEntries_ok _ _ (hx2)) rfl) ?_
 refine AO.pu T ?_
 refine AO.nil (AW.ret ?_)
 have hR := someE hH; subst hR
 exact retQ.i [] rfl (.c (.c .v))

def laws_FnSeasons_l3 (x1 : (Int × (List Entry))) (x5 : (Season × Bool)) (v78 : Int) (v79 : List Line) : List Entry → Nat → List Entry → Option Bool
  | [], k81, v96 =>
    (impl_FreshSeason_p x1.1 v96).bind fun x98 =>
    (laws_qSeason_p (Season.mk v78 v79) (Season.mk x5.1.best x5.1.lines)).bind fun x100 =>
    (opt (x100 && x98.2) default (laws_qSeason_p (Season.mk x98.1.best x98.1.lines) (Season.mk x5.1.best x5.1.lines))).bind fun x102 =>
    some ((x100 && x98.2) && x102)
  | y82 :: ys83, k81, v96 =>
    (getI x1.2 (w64 ((w64 ((x1.2.length : Int) - 1)) - (k81 : Int)))).bind fun x104 =>
    (need (fitsB 24 (v96.length + ([x104]).length))).bind fun u106 =>
    laws_FnSeasons_l3 x1 x5 v78 v79 ys83 (k81 + 1) (v96 ++ [x104])
def laws_FnSeasons_l2 (fuel : Nat) (x1 : (Int × (List Entry))) (x5 : (Season × Bool)) : List Entry → Nat → Int → List Line → Option Bool
  | [], k66, v78, v79 =>
    laws_FnSeasons_l3 x1 x5 v78 v79 x1.2 0 []
  | y67 :: ys68, k66, v78, v79 =>
    (impl_AddEntry_p fuel (Season.mk v78 v79) y67).bind fun x108 =>
    cond (!x108.2)
      (some false)
      (laws_FnSeasons_l2 fuel x1 x5 ys68 (k66 + 1) x108.1.best x108.1.lines)
def laws_FnSeasons_l1 (fuel : Nat) (x1 : (Int × (List Entry))) (x3 : (Season × Bool)) (x5 : (Season × Bool)) (x19 : (Season × Int)) : List Entry → Nat → Option Bool
  | [], k59 =>
    cond (!x3.2)
      (some true)
      (laws_FnSeasons_l2 fuel x1 x5 x1.2 0 x1.1 [])
  | y60 :: ys61, k59 =>
    cond (y60.event == x19.2)
      (some false)
      (laws_FnSeasons_l1 fuel x1 x3 x5 x19 ys61 (k59 + 1))
def laws_FnSeasons_l5 (x1 : (Int × (List Entry))) (x5 : (Season × Bool)) (v122 : Int) (v123 : List Line) : List Entry → Nat → List Entry → Option Bool
  | [], k125, v140 =>
    (impl_FreshSeason_p x1.1 v140).bind fun x142 =>
    (laws_qSeason_p (Season.mk v122 v123) (Season.mk x5.1.best x5.1.lines)).bind fun x144 =>
    (opt (x144 && x142.2) default (laws_qSeason_p (Season.mk x142.1.best x142.1.lines) (Season.mk x5.1.best x5.1.lines))).bind fun x146 =>
    some ((x144 && x142.2) && x146)
  | y126 :: ys127, k125, v140 =>
    (getI x1.2 (w64 ((w64 ((x1.2.length : Int) - 1)) - (k125 : Int)))).bind fun x148 =>
    (need (fitsB 24 (v140.length + ([x148]).length))).bind fun u150 =>
    laws_FnSeasons_l5 x1 x5 v122 v123 ys127 (k125 + 1) (v140 ++ [x148])
def laws_FnSeasons_l4 (fuel : Nat) (x1 : (Int × (List Entry))) (x5 : (Season × Bool)) : List Entry → Nat → Int → List Line → Option Bool
  | [], k110, v122, v123 =>
    laws_FnSeasons_l5 x1 x5 v122 v123 x1.2 0 []
  | y111 :: ys112, k110, v122, v123 =>
    (impl_AddEntry_p fuel (Season.mk v122 v123) y111).bind fun x152 =>
    cond (!x152.2)
      (some false)
      (laws_FnSeasons_l4 fuel x1 x5 ys112 (k110 + 1) x152.1.best x152.1.lines)
def laws_FnSeasons_l8 (x1 : (Int × (List Entry))) (x5 : (Season × Bool)) (v175 : Int) (v176 : List Line) : List Entry → Nat → List Entry → Option Bool
  | [], k178, v193 =>
    (impl_FreshSeason_p x1.1 v193).bind fun x195 =>
    (laws_qSeason_p (Season.mk v175 v176) (Season.mk x5.1.best x5.1.lines)).bind fun x197 =>
    (opt (x197 && x195.2) default (laws_qSeason_p (Season.mk x195.1.best x195.1.lines) (Season.mk x5.1.best x5.1.lines))).bind fun x199 =>
    some ((x197 && x195.2) && x199)
  | y179 :: ys180, k178, v193 =>
    (getI x1.2 (w64 ((w64 ((x1.2.length : Int) - 1)) - (k178 : Int)))).bind fun x201 =>
    (need (fitsB 24 (v193.length + ([x201]).length))).bind fun u203 =>
    laws_FnSeasons_l8 x1 x5 v175 v176 ys180 (k178 + 1) (v193 ++ [x201])
def laws_FnSeasons_l7 (fuel : Nat) (x1 : (Int × (List Entry))) (x5 : (Season × Bool)) : List Entry → Nat → Int → List Line → Option Bool
  | [], k163, v175, v176 =>
    laws_FnSeasons_l8 x1 x5 v175 v176 x1.2 0 []
  | y164 :: ys165, k163, v175, v176 =>
    (impl_AddEntry_p fuel (Season.mk v175 v176) y164).bind fun x205 =>
    cond (!x205.2)
      (some false)
      (laws_FnSeasons_l7 fuel x1 x5 ys165 (k163 + 1) x205.1.best x205.1.lines)
def laws_FnSeasons_l6 (fuel : Nat) (x1 : (Int × (List Entry))) (x3 : (Season × Bool)) (x5 : (Season × Bool)) (x19 : (Season × Int)) : List Entry → Nat → Option Bool
  | [], k156 =>
    cond (!x3.2)
      (some true)
      (laws_FnSeasons_l7 fuel x1 x5 x1.2 0 x1.1 [])
  | y157 :: ys158, k156 =>
    cond (y157.event == x19.2)
      (some false)
      (laws_FnSeasons_l6 fuel x1 x3 x5 x19 ys158 (k156 + 1))
def laws_FnSeasons_l10 (x1 : (Int × (List Entry))) (x5 : (Season × Bool)) (v219 : Int) (v220 : List Line) : List Entry → Nat → List Entry → Option Bool
  | [], k222, v237 =>
    (impl_FreshSeason_p x1.1 v237).bind fun x239 =>
    (laws_qSeason_p (Season.mk v219 v220) (Season.mk x5.1.best x5.1.lines)).bind fun x241 =>
    (opt (x241 && x239.2) default (laws_qSeason_p (Season.mk x239.1.best x239.1.lines) (Season.mk x5.1.best x5.1.lines))).bind fun x243 =>
    some ((x241 && x239.2) && x243)
  | y223 :: ys224, k222, v237 =>
    (getI x1.2 (w64 ((w64 ((x1.2.length : Int) - 1)) - (k222 : Int)))).bind fun x245 =>
    (need (fitsB 24 (v237.length + ([x245]).length))).bind fun u247 =>
    laws_FnSeasons_l10 x1 x5 v219 v220 ys224 (k222 + 1) (v237 ++ [x245])
def laws_FnSeasons_l9 (fuel : Nat) (x1 : (Int × (List Entry))) (x5 : (Season × Bool)) : List Entry → Nat → Int → List Line → Option Bool
  | [], k207, v219, v220 =>
    laws_FnSeasons_l10 x1 x5 v219 v220 x1.2 0 []
  | y208 :: ys209, k207, v219, v220 =>
    (impl_AddEntry_p fuel (Season.mk v219 v220) y208).bind fun x249 =>
    cond (!x249.2)
      (some false)
      (laws_FnSeasons_l9 fuel x1 x5 ys209 (k207 + 1) x249.1.best x249.1.lines)
def laws_FnSeasons_l13 (x1 : (Int × (List Entry))) (x5 : (Season × Bool)) (v276 : Int) (v277 : List Line) : List Entry → Nat → List Entry → Option Bool
  | [], k279, v294 =>
    (impl_FreshSeason_p x1.1 v294).bind fun x296 =>
    (laws_qSeason_p (Season.mk v276 v277) (Season.mk x5.1.best x5.1.lines)).bind fun x298 =>
    (opt (x298 && x296.2) default (laws_qSeason_p (Season.mk x296.1.best x296.1.lines) (Season.mk x5.1.best x5.1.lines))).bind fun x300 =>
    some ((x298 && x296.2) && x300)
  | y280 :: ys281, k279, v294 =>
    (getI x1.2 (w64 ((w64 ((x1.2.length : Int) - 1)) - (k279 : Int)))).bind fun x302 =>
    (need (fitsB 24 (v294.length + ([x302]).length))).bind fun u304 =>
    laws_FnSeasons_l13 x1 x5 v276 v277 ys281 (k279 + 1) (v294 ++ [x302])
def laws_FnSeasons_l12 (fuel : Nat) (x1 : (Int × (List Entry))) (x5 : (Season × Bool)) : List Entry → Nat → Int → List Line → Option Bool
  | [], k264, v276, v277 =>
    laws_FnSeasons_l13 x1 x5 v276 v277 x1.2 0 []
  | y265 :: ys266, k264, v276, v277 =>
    (impl_AddEntry_p fuel (Season.mk v276 v277) y265).bind fun x306 =>
    cond (!x306.2)
      (some false)
      (laws_FnSeasons_l12 fuel x1 x5 ys266 (k264 + 1) x306.1.best x306.1.lines)
def laws_FnSeasons_l11 (fuel : Nat) (x1 : (Int × (List Entry))) (x3 : (Season × Bool)) (x5 : (Season × Bool)) (x19 : (Season × Int)) : List Entry → Nat → Option Bool
  | [], k257 =>
    cond (!x3.2)
      (some true)
      (laws_FnSeasons_l12 fuel x1 x5 x1.2 0 x1.1 [])
  | y258 :: ys259, k257 =>
    cond (y258.event == x19.2)
      (some false)
      (laws_FnSeasons_l11 fuel x1 x3 x5 x19 ys259 (k257 + 1))
def laws_FnSeasons_l15 (x1 : (Int × (List Entry))) (x5 : (Season × Bool)) (v320 : Int) (v321 : List Line) : List Entry → Nat → List Entry → Option Bool
  | [], k323, v338 =>
    (impl_FreshSeason_p x1.1 v338).bind fun x340 =>
    (laws_qSeason_p (Season.mk v320 v321) (Season.mk x5.1.best x5.1.lines)).bind fun x342 =>
    (opt (x342 && x340.2) default (laws_qSeason_p (Season.mk x340.1.best x340.1.lines) (Season.mk x5.1.best x5.1.lines))).bind fun x344 =>
    some ((x342 && x340.2) && x344)
  | y324 :: ys325, k323, v338 =>
    (getI x1.2 (w64 ((w64 ((x1.2.length : Int) - 1)) - (k323 : Int)))).bind fun x346 =>
    (need (fitsB 24 (v338.length + ([x346]).length))).bind fun u348 =>
    laws_FnSeasons_l15 x1 x5 v320 v321 ys325 (k323 + 1) (v338 ++ [x346])
def laws_FnSeasons_l14 (fuel : Nat) (x1 : (Int × (List Entry))) (x5 : (Season × Bool)) : List Entry → Nat → Int → List Line → Option Bool
  | [], k308, v320, v321 =>
    laws_FnSeasons_l15 x1 x5 v320 v321 x1.2 0 []
  | y309 :: ys310, k308, v320, v321 =>
    (impl_AddEntry_p fuel (Season.mk v320 v321) y309).bind fun x350 =>
    cond (!x350.2)
      (some false)
      (laws_FnSeasons_l14 fuel x1 x5 ys310 (k308 + 1) x350.1.best x350.1.lines)
def laws_FnSeasons_l18 (x1 : (Int × (List Entry))) (x5 : (Season × Bool)) (v373 : Int) (v374 : List Line) : List Entry → Nat → List Entry → Option Bool
  | [], k376, v391 =>
    (impl_FreshSeason_p x1.1 v391).bind fun x393 =>
    (laws_qSeason_p (Season.mk v373 v374) (Season.mk x5.1.best x5.1.lines)).bind fun x395 =>
    (opt (x395 && x393.2) default (laws_qSeason_p (Season.mk x393.1.best x393.1.lines) (Season.mk x5.1.best x5.1.lines))).bind fun x397 =>
    some ((x395 && x393.2) && x397)
  | y377 :: ys378, k376, v391 =>
    (getI x1.2 (w64 ((w64 ((x1.2.length : Int) - 1)) - (k376 : Int)))).bind fun x399 =>
    (need (fitsB 24 (v391.length + ([x399]).length))).bind fun u401 =>
    laws_FnSeasons_l18 x1 x5 v373 v374 ys378 (k376 + 1) (v391 ++ [x399])
def laws_FnSeasons_l17 (fuel : Nat) (x1 : (Int × (List Entry))) (x5 : (Season × Bool)) : List Entry → Nat → Int → List Line → Option Bool
  | [], k361, v373, v374 =>
    laws_FnSeasons_l18 x1 x5 v373 v374 x1.2 0 []
  | y362 :: ys363, k361, v373, v374 =>
    (impl_AddEntry_p fuel (Season.mk v373 v374) y362).bind fun x403 =>
    cond (!x403.2)
      (some false)
      (laws_FnSeasons_l17 fuel x1 x5 ys363 (k361 + 1) x403.1.best x403.1.lines)
def laws_FnSeasons_l16 (fuel : Nat) (x1 : (Int × (List Entry))) (x3 : (Season × Bool)) (x5 : (Season × Bool)) (x19 : (Season × Int)) : List Entry → Nat → Option Bool
  | [], k354 =>
    cond (!x3.2)
      (some true)
      (laws_FnSeasons_l17 fuel x1 x5 x1.2 0 x1.1 [])
  | y355 :: ys356, k354 =>
    cond (y355.event == x19.2)
      (some false)
      (laws_FnSeasons_l16 fuel x1 x3 x5 x19 ys356 (k354 + 1))
def laws_FnSeasons_l20 (x1 : (Int × (List Entry))) (x5 : (Season × Bool)) (v417 : Int) (v418 : List Line) : List Entry → Nat → List Entry → Option Bool
  | [], k420, v435 =>
    (impl_FreshSeason_p x1.1 v435).bind fun x437 =>
    (laws_qSeason_p (Season.mk v417 v418) (Season.mk x5.1.best x5.1.lines)).bind fun x439 =>
    (opt (x439 && x437.2) default (laws_qSeason_p (Season.mk x437.1.best x437.1.lines) (Season.mk x5.1.best x5.1.lines))).bind fun x441 =>
    some ((x439 && x437.2) && x441)
  | y421 :: ys422, k420, v435 =>
    (getI x1.2 (w64 ((w64 ((x1.2.length : Int) - 1)) - (k420 : Int)))).bind fun x443 =>
    (need (fitsB 24 (v435.length + ([x443]).length))).bind fun u445 =>
    laws_FnSeasons_l20 x1 x5 v417 v418 ys422 (k420 + 1) (v435 ++ [x443])
def laws_FnSeasons_l19 (fuel : Nat) (x1 : (Int × (List Entry))) (x5 : (Season × Bool)) : List Entry → Nat → Int → List Line → Option Bool
  | [], k405, v417, v418 =>
    laws_FnSeasons_l20 x1 x5 v417 v418 x1.2 0 []
  | y406 :: ys407, k405, v417, v418 =>
    (impl_AddEntry_p fuel (Season.mk v417 v418) y406).bind fun x447 =>
    cond (!x447.2)
      (some false)
      (laws_FnSeasons_l19 fuel x1 x5 ys407 (k405 + 1) x447.1.best x447.1.lines)
def laws_FnSeasons_p (fuel : Nat) (code : List Int) (more : List Int) : Option Bool :=
  cond (decide ((w64 ((code.length : Int) + (more.length : Int))) > 1048576))
    (some true)
    ((spec_DrawFreshSeason_p fuel code).bind fun x1 =>
    (impl_FreshSeason_p x1.1 x1.2).bind fun x3 =>
    (spec_FreshSeason_p fuel x1.1 x1.2).bind fun x5 =>
    (spec_DrawAddEntry_p fuel more).bind fun x7 =>
    (impl_AddEntry_p fuel (Season.mk x7.1.best x7.1.lines) (Entry.mk x7.2.event x7.2.skater x7.2.points)).bind fun x9 =>
    (spec_AddEntry_p fuel (Season.mk x7.1.best x7.1.lines) (Entry.mk x7.2.event x7.2.skater x7.2.points)).bind fun x11 =>
    (spec_DrawDropEntry_p fuel more).bind fun x13 =>
    (impl_DropEntry_p fuel (Season.mk x13.1.best x13.1.lines) x13.2.1 x13.2.2).bind fun x15 =>
    (spec_DropEntry_p fuel (Season.mk x13.1.best x13.1.lines) x13.2.1 x13.2.2).bind fun x17 =>
    (spec_DrawDropEvent_p fuel more).bind fun x19 =>
    (impl_DropEvent_p fuel (Season.mk x19.1.best x19.1.lines) x19.2).bind fun x21 =>
    (spec_DropEvent_p fuel (Season.mk x19.1.best x19.1.lines) x19.2).bind fun x23 =>
    (spec_DrawEntriesOf_p fuel more).bind fun x25 =>
    (impl_EntriesOf_p fuel x25).bind fun x27 =>
    (spec_EntriesOf_p x25).bind fun x29 =>
    (opt (!(!(x3.2 == x5.2))) default (laws_qSeason_p (Season.mk x3.1.best x3.1.lines) (Season.mk x5.1.best x5.1.lines))).bind fun x31 =>
    (opt (!(((!(x3.2 == x5.2)) || (!x31)) || (!(x9.2 == x11.2)))) default (laws_qSeason_p (Season.mk x9.1.best x9.1.lines) (Season.mk x11.1.best x11.1.lines))).bind fun x33 =>
    (opt (!(((((!(x3.2 == x5.2)) || (!x31)) || (!(x9.2 == x11.2))) || (!x33)) || (!(x15.2 == x17.2)))) default (laws_qSeason_p (Season.mk x15.1.best x15.1.lines) (Season.mk x17.1.best x17.1.lines))).bind fun x35 =>
    (opt (!(((((((!(x3.2 == x5.2)) || (!x31)) || (!(x9.2 == x11.2))) || (!x33)) || (!(x15.2 == x17.2))) || (!x35)) || (!(x21.2 == x23.2)))) default (laws_qSeason_p (Season.mk x21.1.best x21.1.lines) (Season.mk x23.1.best x23.1.lines))).bind fun x37 =>
    (opt (!(((((((((!(x3.2 == x5.2)) || (!x31)) || (!(x9.2 == x11.2))) || (!x33)) || (!(x15.2 == x17.2))) || (!x35)) || (!(x21.2 == x23.2))) || (!x37)) || (!(x27.2 == x29.2)))) default (laws_qEntries_p x27.1 x29.1)).bind fun x39 =>
    (opt (!((((((((((!(x3.2 == x5.2)) || (!x31)) || (!(x9.2 == x11.2))) || (!x33)) || (!(x15.2 == x17.2))) || (!x35)) || (!(x21.2 == x23.2))) || (!x37)) || (!(x27.2 == x29.2))) || (!x39))) default (impl_AreEntries_p x1.2)).bind fun x41 =>
    (opt (!((((((((((!(x3.2 == x5.2)) || (!x31)) || (!(x9.2 == x11.2))) || (!x33)) || (!(x15.2 == x17.2))) || (!x35)) || (!(x21.2 == x23.2))) || (!x37)) || (!(x27.2 == x29.2))) || (!x39))) default (spec_AreEntries_p x1.2)).bind fun x43 =>
    (opt (!(((((((((((!(x3.2 == x5.2)) || (!x31)) || (!(x9.2 == x11.2))) || (!x33)) || (!(x15.2 == x17.2))) || (!x35)) || (!(x21.2 == x23.2))) || (!x37)) || (!(x27.2 == x29.2))) || (!x39)) || (!(x41 == x43)))) default (impl_IsSeason_p fuel x25)).bind fun x45 =>
    cond ((((((((((((!(x3.2 == x5.2)) || (!x31)) || (!(x9.2 == x11.2))) || (!x33)) || (!(x15.2 == x17.2))) || (!x35)) || (!(x21.2 == x23.2))) || (!x37)) || (!(x27.2 == x29.2))) || (!x39)) || (!(x41 == x43))) || (!(x45 == x27.2)))
      (some false)
      (cond x9.2
        ((impl_DropEntry_p fuel (Season.mk x9.1.best x9.1.lines) x7.2.event x7.2.skater).bind fun x47 =>
        (opt (!(!x47.2)) default (laws_qSeason_p (Season.mk x47.1.best x47.1.lines) (Season.mk x7.1.best x7.1.lines))).bind fun x49 =>
        (opt (!((!x47.2) || (!x49))) default (impl_IsSeason_p fuel (Season.mk x9.1.best x9.1.lines))).bind fun x51 =>
        cond (((!x47.2) || (!x49)) || (!x51))
          (some false)
          (cond x27.2
            ((impl_FreshSeason_p x25.best x27.1).bind fun x53 =>
            (opt (!(!x53.2)) default (laws_qSeason_p (Season.mk x53.1.best x53.1.lines) x25)).bind fun x55 =>
            cond ((!x53.2) || (!x55))
              (some false)
              (cond x21.2
                ((impl_EntriesOf_p fuel (Season.mk x21.1.best x21.1.lines)).bind fun x57 =>
                cond (!x57.2)
                  (some false)
                  (laws_FnSeasons_l1 fuel x1 x3 x5 x19 x57.1 0))
                (cond (!x3.2)
                  (some true)
                  (laws_FnSeasons_l4 fuel x1 x5 x1.2 0 x1.1 []))))
            (cond x21.2
              ((impl_EntriesOf_p fuel (Season.mk x21.1.best x21.1.lines)).bind fun x154 =>
              cond (!x154.2)
                (some false)
                (laws_FnSeasons_l6 fuel x1 x3 x5 x19 x154.1 0))
              (cond (!x3.2)
                (some true)
                (laws_FnSeasons_l9 fuel x1 x5 x1.2 0 x1.1 [])))))
        (cond x27.2
          ((impl_FreshSeason_p x25.best x27.1).bind fun x251 =>
          (opt (!(!x251.2)) default (laws_qSeason_p (Season.mk x251.1.best x251.1.lines) x25)).bind fun x253 =>
          cond ((!x251.2) || (!x253))
            (some false)
            (cond x21.2
              ((impl_EntriesOf_p fuel (Season.mk x21.1.best x21.1.lines)).bind fun x255 =>
              cond (!x255.2)
                (some false)
                (laws_FnSeasons_l11 fuel x1 x3 x5 x19 x255.1 0))
              (cond (!x3.2)
                (some true)
                (laws_FnSeasons_l14 fuel x1 x5 x1.2 0 x1.1 []))))
          (cond x21.2
            ((impl_EntriesOf_p fuel (Season.mk x21.1.best x21.1.lines)).bind fun x352 =>
            cond (!x352.2)
              (some false)
              (laws_FnSeasons_l16 fuel x1 x3 x5 x19 x352.1 0))
            (cond (!x3.2)
              (some true)
              (laws_FnSeasons_l19 fuel x1 x5 x1.2 0 x1.1 []))))))
theorem laws_FnSeasons_ok (fuel : Nat) (code : List Int) (more : List Int) (r : Bool) (hH : laws_FnSeasons_p fuel code more = some r) : SpecR Try.prog 4 [.s (List.map encInt_u8 code), .s (List.map encInt_u8 more)] (.v (.bool r)) := by
 refine fn_ok T Try.func4 rfl (by decide) rfl ?_
 refine AW.seq (AW.region ?_)
 refine AO.pu T ?_
 refine AO.nil ?_
 iterate 2 refine AW.seq ?_
 refine AW.region ?_
 refine AO.pu T ?_
 refine AO.val rfl rfl (len_map_ok T rfl rfl rfl) ?_
 refine AO.pu T ?_
 refine AO.val rfl rfl (len_map_ok T rfl rfl rfl) ?_
 refine AO.val rfl rfl (arw_ok rfl rfl rfl rfl) ?_
 refine AO.pu T ?_
 refine AO.nil ?_
 refine AW.cond (b := decide ((w64 ((code.length : Int) + (more.length : Int))) > 1048576)) rfl (fun hc => ?_) (fun hc => ?_)
 replace hH := condT hc hH
 refine AW.seq (AW.region ?_)
 refine AO.pu T ?_
 refine AO.nil (AW.ret ?_)
 have hR := someE hH; subst hR
 exact retQ.i [] rfl (.c (.c .v))
 replace hH := condF hc hH
 refine AW.skip ?_
 refine AW.seq ?_
 obtain ⟨x1, hx2, hH⟩ := bindE hH
 refine AW.region ?_
 refine AO.pu T ?_
 refine AO.step rfl (call_ok rfl 1 rfl rfl rfl (spec_DrawFreshSeason_ok fuel _ _ (hx2)) rfl rfl rfl) ?_
 iterate 5 refine AO.pu T ?_
 refine AO.nil (AW.seq ?_)
 obtain ⟨x3, hx4, hH⟩ := bindE hH
 refine AW.region ?_
 iterate 2 refine AO.pu T ?_
 refine AO.step rfl (callL_ok rfl 2 rfl rfl (es := [x1.1, .s (List.map encEntry x1.2)]) (by exact ⟨.free rfl, (.rowR rfl (.map fun y => .vs rfl)), trivial⟩) (impl_FreshSeason_ok _ _ _ (hx4)) (zfree_t (zfl (.cons (zfree_g (zfl (.cons (zfree_v _) (.cons (zfree_map (fun y => (.cons (zfree_v _) (.cons (zfree_map (fun y => (.cons (zfree_v _) .nil))) (.cons (zfree_map (fun y => (.cons (zfree_v _) .nil))) .nil))))) .nil)))) (.cons (zfree_v _) .nil)))) rfl rfl rfl) ?_
 refine AO.pu T ?_
 refine AO.pu T (d := .g [x3.1.best, .R 2]) ?_
 refine AO.pu T ?_
 refine AO.step rfl (alloc_ok T rfl 3 rfl rfl rfl rfl rfl) ?_
 refine AO.se T [x3.1.best, .R 2] ?_
 refine AO.pu T ?_
 refine AO.nil (AW.seq ?_)
 obtain ⟨x5, hx6, hH⟩ := bindE hH
 refine AW.region ?_
 iterate 2 refine AO.pu T ?_
 refine AO.step rfl (callL_ok rfl 4 rfl rfl (es := [x1.1, .s (List.map encEntry x1.2)]) (by exact ⟨.free rfl, (.rowR rfl (.map fun y => .vs rfl)), trivial⟩) (spec_FreshSeason_ok fuel _ _ _ (hx6)) (zfree_t (zfl (.cons (zfree_g (zfl (.cons (zfree_v _) (.cons (zfree_map (fun y => (.cons (zfree_v _) (.cons (zfree_map (fun y => (.cons (zfree_v _) .nil))) (.cons (zfree_map (fun y => (.cons (zfree_v _) .nil))) .nil))))) .nil)))) (.cons (zfree_v _) .nil)))) rfl rfl rfl) ?_
 refine AO.pu T ?_
 refine AO.pu T (d := .g [x5.1.best, .R 4]) ?_
 refine AO.pu T ?_
 refine AO.step rfl (alloc_ok T rfl 5 rfl rfl rfl rfl rfl) ?_
 refine AO.se T [x5.1.best, .R 4] ?_
 refine AO.pu T ?_
 refine AO.nil ?_
 refine AW.le (Le.ct 0 0 (σ' := (⟨[(1, .s (List.map encInt_u8 more)), (5, x1.1), (6, .R 1), (7, .p 3 0), (8, .v (.bool x3.2)), (9, .p 5 0), (10, .v (.bool x5.2))], [(1, .row 3 (List.map encEntry x1.2)), (2, .row 3 (List.map encLineO x3.1.lines)), (3, .box [x3.1.best, .R 2]), (4, .row 3 (List.map encLineO x5.1.lines)), (5, .box [x5.1.best, .R 4])], 319, []⟩ : St))) ?_
 refine AW.seq ?_
 obtain ⟨x7, hx8, hH⟩ := bindE hH
 refine AW.region ?_
 refine AO.pu T ?_
 refine AO.step rfl (call_ok rfl 6 rfl rfl rfl (spec_DrawAddEntry_ok fuel _ _ (hx8)) rfl rfl rfl) ?_
 refine AO.pu T ?_
 refine AO.pu T (d := .g [x7.1.best, .R 6]) ?_
 refine AO.pu T (d := .g [x7.2.event, x7.2.skater, x7.2.points]) ?_
 refine AO.step rfl (alloc_ok T rfl 7 rfl rfl rfl rfl rfl) ?_
 refine AO.step rfl (alloc_ok T rfl 8 rfl rfl rfl rfl rfl) ?_
 refine AO.se T [x7.1.best, .R 6] ?_
 refine AO.se T [x7.2.event, x7.2.skater, x7.2.points] ?_
 refine AO.nil (AW.seq ?_)
 obtain ⟨x9, hx10, hH⟩ := bindE hH
 refine AW.region ?_
 refine AO.pu T (d := .g [x7.1.best, .R 6]) ?_
 refine AO.pu T (d := .g [x7.2.event, x7.2.skater, x7.2.points]) ?_
 refine AO.step rfl (callL_ok rfl 9 rfl rfl (es := [.g (encSeason (Season.mk x7.1.best x7.1.lines)), .g (encEntry (Entry.mk x7.2.event x7.2.skater x7.2.points))]) (by exact ⟨lend_g (LendL.cons (.free rfl) (LendL.cons ((.rowR rfl (.map fun y => frzLine y))) LendL.nil)), .free rfl, trivial⟩) (impl_AddEntry_ok fuel _ _ _ (hx10)) (zfree_t (zfl (.cons (zfree_g (zfl (.cons (zfree_v _) (.cons (zfree_map (fun y => (.cons (zfree_v _) (.cons (zfree_map (fun y => (.cons (zfree_v _) .nil))) (.cons (zfree_map (fun y => (.cons (zfree_v _) .nil))) .nil))))) .nil)))) (.cons (zfree_v _) .nil)))) rfl rfl rfl) ?_
 refine AO.pu T ?_
 refine AO.pu T (d := .g [x9.1.best, .R 9]) ?_
 refine AO.pu T ?_
 refine AO.step rfl (alloc_ok T rfl 10 rfl rfl rfl rfl rfl) ?_
 refine AO.se T [x9.1.best, .R 9] ?_
 refine AO.pu T ?_
 refine AO.nil (AW.seq ?_)
 obtain ⟨x11, hx12, hH⟩ := bindE hH
 refine AW.region ?_
 refine AO.pu T (d := .g [x7.1.best, .R 6]) ?_
 refine AO.pu T (d := .g [x7.2.event, x7.2.skater, x7.2.points]) ?_
 refine AO.step rfl (callL_ok rfl 11 rfl rfl (es := [.g (encSeason (Season.mk x7.1.best x7.1.lines)), .g (encEntry (Entry.mk x7.2.event x7.2.skater x7.2.points))]) (by exact ⟨lend_g (LendL.cons (.free rfl) (LendL.cons ((.rowR rfl (.map fun y => frzLine y))) LendL.nil)), .free rfl, trivial⟩) (spec_AddEntry_ok fuel _ _ _ (hx12)) (zfree_t (zfl (.cons (zfree_g (zfl (.cons (zfree_v _) (.cons (zfree_map (fun y => (.cons (zfree_v _) (.cons (zfree_map (fun y => (.cons (zfree_v _) .nil))) (.cons (zfree_map (fun y => (.cons (zfree_v _) .nil))) .nil))))) .nil)))) (.cons (zfree_v _) .nil)))) rfl rfl rfl) ?_
 refine AO.pu T ?_
 refine AO.pu T (d := .g [x11.1.best, .R 11]) ?_
 refine AO.pu T ?_
 refine AO.step rfl (alloc_ok T rfl 12 rfl rfl rfl rfl rfl) ?_
 refine AO.se T [x11.1.best, .R 11] ?_
 refine AO.pu T ?_
 refine AO.nil ?_
 refine AW.le (Le.ct 0 0 (σ' := (⟨[(1, .s (List.map encInt_u8 more)), (5, x1.1), (6, .R 1), (7, .p 3 0), (8, .v (.bool x3.2)), (9, .p 5 0), (10, .v (.bool x5.2)), (11, .p 7 0), (12, .p 8 0), (13, .p 10 0), (14, .v (.bool x9.2)), (15, .p 12 0), (16, .v (.bool x11.2))], [(1, .row 3 (List.map encEntry x1.2)), (2, .row 3 (List.map encLineO x3.1.lines)), (3, .box [x3.1.best, .R 2]), (4, .row 3 (List.map encLineO x5.1.lines)), (5, .box [x5.1.best, .R 4]), (6, .row 3 (List.map encLineO x7.1.lines)), (7, .box [x7.1.best, .R 6]), (8, .box [x7.2.event, x7.2.skater, x7.2.points]), (9, .row 3 (List.map encLineO x9.1.lines)), (10, .box [x9.1.best, .R 9]), (11, .row 3 (List.map encLineO x11.1.lines)), (12, .box [x11.1.best, .R 11])], 319, []⟩ : St))) ?_
 refine AW.seq ?_
 obtain ⟨x13, hx14, hH⟩ := bindE hH
 refine AW.region ?_
 refine AO.pu T ?_
 refine AO.step rfl (call_ok rfl 13 rfl rfl rfl (spec_DrawDropEntry_ok fuel _ _ (hx14)) rfl rfl rfl) ?_
 refine AO.pu T ?_
 refine AO.pu T (d := .g [x13.1.best, .R 13]) ?_
 iterate 2 refine AO.pu T ?_
 refine AO.step rfl (alloc_ok T rfl 14 rfl rfl rfl rfl rfl) ?_
 refine AO.se T [x13.1.best, .R 13] ?_
 iterate 2 refine AO.pu T ?_
 refine AO.nil (AW.seq ?_)
 obtain ⟨x15, hx16, hH⟩ := bindE hH
 refine AW.region ?_
 refine AO.pu T (d := .g [x13.1.best, .R 13]) ?_
 iterate 2 refine AO.pu T ?_
 refine AO.step rfl (callL_ok rfl 15 rfl rfl (es := [.g (encSeason (Season.mk x13.1.best x13.1.lines)), x13.2.1, x13.2.2]) (by exact ⟨lend_g (LendL.cons (.free rfl) (LendL.cons ((.rowR rfl (.map fun y => frzLine y))) LendL.nil)), .free rfl, .free rfl, trivial⟩) (impl_DropEntry_ok fuel _ _ _ _ (hx16)) (zfree_t (zfl (.cons (zfree_g (zfl (.cons (zfree_v _) (.cons (zfree_map (fun y => (.cons (zfree_v _) (.cons (zfree_map (fun y => (.cons (zfree_v _) .nil))) (.cons (zfree_map (fun y => (.cons (zfree_v _) .nil))) .nil))))) .nil)))) (.cons (zfree_v _) .nil)))) rfl rfl rfl) ?_
 refine AO.pu T ?_
 refine AO.pu T (d := .g [x15.1.best, .R 15]) ?_
 refine AO.pu T ?_
 refine AO.step rfl (alloc_ok T rfl 16 rfl rfl rfl rfl rfl) ?_
 refine AO.se T [x15.1.best, .R 15] ?_
 refine AO.pu T ?_
 refine AO.nil (AW.seq ?_)
 obtain ⟨x17, hx18, hH⟩ := bindE hH
 refine AW.region ?_
 refine AO.pu T (d := .g [x13.1.best, .R 13]) ?_
 iterate 2 refine AO.pu T ?_
 refine AO.step rfl (callL_ok rfl 17 rfl rfl (es := [.g (encSeason (Season.mk x13.1.best x13.1.lines)), x13.2.1, x13.2.2]) (by exact ⟨lend_g (LendL.cons (.free rfl) (LendL.cons ((.rowR rfl (.map fun y => frzLine y))) LendL.nil)), .free rfl, .free rfl, trivial⟩) (spec_DropEntry_ok fuel _ _ _ _ (hx18)) (zfree_t (zfl (.cons (zfree_g (zfl (.cons (zfree_v _) (.cons (zfree_map (fun y => (.cons (zfree_v _) (.cons (zfree_map (fun y => (.cons (zfree_v _) .nil))) (.cons (zfree_map (fun y => (.cons (zfree_v _) .nil))) .nil))))) .nil)))) (.cons (zfree_v _) .nil)))) rfl rfl rfl) ?_
 refine AO.pu T ?_
 refine AO.pu T (d := .g [x17.1.best, .R 17]) ?_
 refine AO.pu T ?_
 refine AO.step rfl (alloc_ok T rfl 18 rfl rfl rfl rfl rfl) ?_
 refine AO.se T [x17.1.best, .R 17] ?_
 refine AO.pu T ?_
 refine AO.nil ?_
 refine AW.le (Le.ct 0 0 (σ' := (⟨[(1, .s (List.map encInt_u8 more)), (5, x1.1), (6, .R 1), (7, .p 3 0), (8, .v (.bool x3.2)), (9, .p 5 0), (10, .v (.bool x5.2)), (11, .p 7 0), (12, .p 8 0), (13, .p 10 0), (14, .v (.bool x9.2)), (15, .p 12 0), (16, .v (.bool x11.2)), (20, .p 16 0), (21, .v (.bool x15.2)), (22, .p 18 0), (23, .v (.bool x17.2))], [(1, .row 3 (List.map encEntry x1.2)), (2, .row 3 (List.map encLineO x3.1.lines)), (3, .box [x3.1.best, .R 2]), (4, .row 3 (List.map encLineO x5.1.lines)), (5, .box [x5.1.best, .R 4]), (6, .row 3 (List.map encLineO x7.1.lines)), (7, .box [x7.1.best, .R 6]), (8, .box [x7.2.event, x7.2.skater, x7.2.points]), (9, .row 3 (List.map encLineO x9.1.lines)), (10, .box [x9.1.best, .R 9]), (11, .row 3 (List.map encLineO x11.1.lines)), (12, .box [x11.1.best, .R 11]), (15, .row 3 (List.map encLineO x15.1.lines)), (16, .box [x15.1.best, .R 15]), (17, .row 3 (List.map encLineO x17.1.lines)), (18, .box [x17.1.best, .R 17])], 319, []⟩ : St))) ?_
 refine AW.seq ?_
 obtain ⟨x19, hx20, hH⟩ := bindE hH
 refine AW.region ?_
 refine AO.pu T ?_
 refine AO.step rfl (call_ok rfl 19 rfl rfl rfl (spec_DrawDropEvent_ok fuel _ _ (hx20)) rfl rfl rfl) ?_
 refine AO.pu T ?_
 refine AO.pu T (d := .g [x19.1.best, .R 19]) ?_
 refine AO.pu T ?_
 refine AO.step rfl (alloc_ok T rfl 20 rfl rfl rfl rfl rfl) ?_
 refine AO.se T [x19.1.best, .R 19] ?_
 refine AO.pu T ?_
 refine AO.nil (AW.seq ?_)
 obtain ⟨x21, hx22, hH⟩ := bindE hH
 refine AW.region ?_
 refine AO.pu T (d := .g [x19.1.best, .R 19]) ?_
 refine AO.pu T ?_
 refine AO.step rfl (callL_ok rfl 21 rfl rfl (es := [.g (encSeason (Season.mk x19.1.best x19.1.lines)), x19.2]) (by exact ⟨lend_g (LendL.cons (.free rfl) (LendL.cons ((.rowR rfl (.map fun y => frzLine y))) LendL.nil)), .free rfl, trivial⟩) (impl_DropEvent_ok fuel _ _ _ (hx22)) (zfree_t (zfl (.cons (zfree_g (zfl (.cons (zfree_v _) (.cons (zfree_map (fun y => (.cons (zfree_v _) (.cons (zfree_map (fun y => (.cons (zfree_v _) .nil))) (.cons (zfree_map (fun y => (.cons (zfree_v _) .nil))) .nil))))) .nil)))) (.cons (zfree_v _) .nil)))) rfl rfl rfl) ?_
 refine AO.pu T ?_
 refine AO.pu T (d := .g [x21.1.best, .R 21]) ?_
 refine AO.pu T ?_
 refine AO.step rfl (alloc_ok T rfl 22 rfl rfl rfl rfl rfl) ?_
 refine AO.se T [x21.1.best, .R 21] ?_
 refine AO.pu T ?_
 refine AO.nil (AW.seq ?_)
 obtain ⟨x23, hx24, hH⟩ := bindE hH
 refine AW.region ?_
 refine AO.pu T (d := .g [x19.1.best, .R 19]) ?_
 refine AO.pu T ?_
 refine AO.step rfl (callL_ok rfl 23 rfl rfl (es := [.g (encSeason (Season.mk x19.1.best x19.1.lines)), x19.2]) (by exact ⟨lend_g (LendL.cons (.free rfl) (LendL.cons ((.rowR rfl (.map fun y => frzLine y))) LendL.nil)), .free rfl, trivial⟩) (spec_DropEvent_ok fuel _ _ _ (hx24)) (zfree_t (zfl (.cons (zfree_g (zfl (.cons (zfree_v _) (.cons (zfree_map (fun y => (.cons (zfree_v _) (.cons (zfree_map (fun y => (.cons (zfree_v _) .nil))) (.cons (zfree_map (fun y => (.cons (zfree_v _) .nil))) .nil))))) .nil)))) (.cons (zfree_v _) .nil)))) rfl rfl rfl) ?_
 refine AO.pu T ?_
 refine AO.pu T (d := .g [x23.1.best, .R 23]) ?_
 refine AO.pu T ?_
 refine AO.step rfl (alloc_ok T rfl 24 rfl rfl rfl rfl rfl) ?_
 refine AO.se T [x23.1.best, .R 23] ?_
 refine AO.pu T ?_
 refine AO.nil ?_
 refine AW.le (Le.ct 0 0 (σ' := (⟨[(1, .s (List.map encInt_u8 more)), (5, x1.1), (6, .R 1), (7, .p 3 0), (8, .v (.bool x3.2)), (9, .p 5 0), (10, .v (.bool x5.2)), (11, .p 7 0), (12, .p 8 0), (13, .p 10 0), (14, .v (.bool x9.2)), (15, .p 12 0), (16, .v (.bool x11.2)), (20, .p 16 0), (21, .v (.bool x15.2)), (22, .p 18 0), (23, .v (.bool x17.2)), (25, x19.2), (26, .p 22 0), (27, .v (.bool x21.2)), (28, .p 24 0), (29, .v (.bool x23.2))], [(1, .row 3 (List.map encEntry x1.2)), (2, .row 3 (List.map encLineO x3.1.lines)), (3, .box [x3.1.best, .R 2]), (4, .row 3 (List.map encLineO x5.1.lines)), (5, .box [x5.1.best, .R 4]), (6, .row 3 (List.map encLineO x7.1.lines)), (7, .box [x7.1.best, .R 6]), (8, .box [x7.2.event, x7.2.skater, x7.2.points]), (9, .row 3 (List.map encLineO x9.1.lines)), (10, .box [x9.1.best, .R 9]), (11, .row 3 (List.map encLineO x11.1.lines)), (12, .box [x11.1.best, .R 11]), (15, .row 3 (List.map encLineO x15.1.lines)), (16, .box [x15.1.best, .R 15]), (17, .row 3 (List.map encLineO x17.1.lines)), (18, .box [x17.1.best, .R 17]), (21, .row 3 (List.map encLineO x21.1.lines)), (22, .box [x21.1.best, .R 21]), (23, .row 3 (List.map encLineO x23.1.lines)), (24, .box [x23.1.best, .R 23])], 319, []⟩ : St))) ?_
 refine AW.seq ?_
 obtain ⟨x25, hx26, hH⟩ := bindE hH
 refine AW.region ?_
 refine AO.pu T ?_
 refine AO.step rfl (call_ok rfl 25 rfl rfl rfl (spec_DrawEntriesOf_ok fuel _ _ (hx26)) rfl rfl rfl) ?_
 refine AO.step rfl (alloc_ok T rfl 26 rfl rfl rfl rfl rfl) ?_
 refine AO.se T [x25.best, .R 25] ?_
 refine AO.nil (AW.seq ?_)
 obtain ⟨x27, hx28, hH⟩ := bindE hH
 refine AW.region ?_
 refine AO.pu T (d := .g [x25.best, .R 25]) ?_
 refine AO.step rfl (callL_ok rfl 27 rfl rfl (es := [.g (encSeason x25)]) (by exact ⟨lend_g (LendL.cons (.free rfl) (LendL.cons ((.rowR rfl (.map fun y => frzLine y))) LendL.nil)), trivial⟩) (impl_EntriesOf_ok fuel _ _ (hx28)) (zfree_t (zfl (.cons (zfree_map (fun y => (.cons (zfree_v _) (.cons (zfree_v _) (.cons (zfree_v _) .nil))))) (.cons (zfree_v _) .nil)))) rfl rfl rfl) ?_
 iterate 5 refine AO.pu T ?_
 refine AO.nil (AW.seq ?_)
 obtain ⟨x29, hx30, hH⟩ := bindE hH
 refine AW.region ?_
 refine AO.pu T (d := .g [x25.best, .R 25]) ?_
 refine AO.step rfl (callL_ok rfl 28 rfl rfl (es := [.g (encSeason x25)]) (by exact ⟨lend_g (LendL.cons (.free rfl) (LendL.cons ((.rowR rfl (.map fun y => frzLine y))) LendL.nil)), trivial⟩) (spec_EntriesOf_ok _ _ (hx30)) (zfree_t (zfl (.cons (zfree_map (fun y => (.cons (zfree_v _) (.cons (zfree_v _) (.cons (zfree_v _) .nil))))) (.cons (zfree_v _) .nil)))) rfl rfl rfl) ?_
 iterate 5 refine AO.pu T ?_
 refine AO.nil ?_
 iterate 2 refine AW.seq ?_
 obtain ⟨x31, hx32, hH⟩ := bindE hH
 obtain ⟨x33, hx34, hH⟩ := bindE hH
 obtain ⟨x35, hx36, hH⟩ := bindE hH
 obtain ⟨x37, hx38, hH⟩ := bindE hH
 obtain ⟨x39, hx40, hH⟩ := bindE hH
 obtain ⟨x41, hx42, hH⟩ := bindE hH
 obtain ⟨x43, hx44, hH⟩ := bindE hH
 obtain ⟨x45, hx46, hH⟩ := bindE hH
 refine AW.region ?_
 iterate 4 refine AO.pu T ?_
 refine AO.pureG T (d := .g [x3.1.best, .R 2]) [] rfl trivial rfl rfl ?_
 refine AO.pureG T (d := .g [x5.1.best, .R 4]) [] rfl trivial rfl rfl ?_
 refine AO.guard [145, 146] rfl ⟨fun h => h, fun h => h, trivial⟩ (fun hg => callLV_ok rfl rfl rfl (es := [.g (encSeason (Season.mk x3.1.best x3.1.lines)), .g (encSeason (Season.mk x5.1.best x5.1.lines))]) ⟨lend_g (LendL.cons (.free rfl) (LendL.cons ((.rowR rfl (.map fun y => frzLine y))) LendL.nil)), lend_g (LendL.cons (.free rfl) (LendL.cons ((.rowR rfl (.map fun y => frzLine y))) LendL.nil)), trivial⟩ (laws_qSeason_ok _ _ _ (optT hx32 hg)) (zfree_v _) rfl) rfl ?_
 refine AO.pureG T [147] rfl ⟨fun h => h, trivial⟩ rfl rfl ?_
 refine AO.val rfl rfl (pick_or rfl rfl rfl rfl) ?_
 refine AO.pu T ?_
 iterate 2 refine AO.pureG T [] rfl trivial rfl rfl ?_
 refine AO.pureG T [151, 152] rfl ⟨fun h => h, fun h => h, trivial⟩ rfl rfl ?_
 refine AO.val rfl rfl (pick_or rfl rfl rfl rfl) ?_
 refine AO.pu T ?_
 refine AO.pureG T (d := .g [x9.1.best, .R 9]) [] rfl trivial rfl rfl ?_
 refine AO.pureG T (d := .g [x11.1.best, .R 11]) [] rfl trivial rfl rfl ?_
 refine AO.guard [156, 157] rfl ⟨fun h => h, fun h => h, trivial⟩ (fun hg => callLV_ok rfl rfl rfl (es := [.g (encSeason (Season.mk x9.1.best x9.1.lines)), .g (encSeason (Season.mk x11.1.best x11.1.lines))]) ⟨lend_g (LendL.cons (.free rfl) (LendL.cons ((.rowR rfl (.map fun y => frzLine y))) LendL.nil)), lend_g (LendL.cons (.free rfl) (LendL.cons ((.rowR rfl (.map fun y => frzLine y))) LendL.nil)), trivial⟩ (laws_qSeason_ok _ _ _ (optT hx34 hg)) (zfree_v _) rfl) rfl ?_
 refine AO.pureG T [158] rfl ⟨fun h => h, trivial⟩ rfl rfl ?_
 refine AO.val rfl rfl (pick_or rfl rfl rfl rfl) ?_
 refine AO.pu T ?_
 iterate 2 refine AO.pureG T [] rfl trivial rfl rfl ?_
 refine AO.pureG T [162, 163] rfl ⟨fun h => h, fun h => h, trivial⟩ rfl rfl ?_
 refine AO.val rfl rfl (pick_or rfl rfl rfl rfl) ?_
 refine AO.pu T ?_
 refine AO.pureG T (d := .g [x15.1.best, .R 15]) [] rfl trivial rfl rfl ?_
 refine AO.pureG T (d := .g [x17.1.best, .R 17]) [] rfl trivial rfl rfl ?_
 refine AO.guard [167, 168] rfl ⟨fun h => h, fun h => h, trivial⟩ (fun hg => callLV_ok rfl rfl rfl (es := [.g (encSeason (Season.mk x15.1.best x15.1.lines)), .g (encSeason (Season.mk x17.1.best x17.1.lines))]) ⟨lend_g (LendL.cons (.free rfl) (LendL.cons ((.rowR rfl (.map fun y => frzLine y))) LendL.nil)), lend_g (LendL.cons (.free rfl) (LendL.cons ((.rowR rfl (.map fun y => frzLine y))) LendL.nil)), trivial⟩ (laws_qSeason_ok _ _ _ (optT hx36 hg)) (zfree_v _) rfl) rfl ?_
 refine AO.pureG T [169] rfl ⟨fun h => h, trivial⟩ rfl rfl ?_
 refine AO.val rfl rfl (pick_or rfl rfl rfl rfl) ?_
 refine AO.pu T ?_
 iterate 2 refine AO.pureG T [] rfl trivial rfl rfl ?_
 refine AO.pureG T [173, 174] rfl ⟨fun h => h, fun h => h, trivial⟩ rfl rfl ?_
 refine AO.val rfl rfl (pick_or rfl rfl rfl rfl) ?_
 refine AO.pu T ?_
 refine AO.pureG T (d := .g [x21.1.best, .R 21]) [] rfl trivial rfl rfl ?_
 refine AO.pureG T (d := .g [x23.1.best, .R 23]) [] rfl trivial rfl rfl ?_
 refine AO.guard [178, 179] rfl ⟨fun h => h, fun h => h, trivial⟩ (fun hg => callLV_ok rfl rfl rfl (es := [.g (encSeason (Season.mk x21.1.best x21.1.lines)), .g (encSeason (Season.mk x23.1.best x23.1.lines))]) ⟨lend_g (LendL.cons (.free rfl) (LendL.cons ((.rowR rfl (.map fun y => frzLine y))) LendL.nil)), lend_g (LendL.cons (.free rfl) (LendL.cons ((.rowR rfl (.map fun y => frzLine y))) LendL.nil)), trivial⟩ (laws_qSeason_ok _ _ _ (optT hx38 hg)) (zfree_v _) rfl) rfl ?_
 refine AO.pureG T [180] rfl ⟨fun h => h, trivial⟩ rfl rfl ?_
 refine AO.val rfl rfl (pick_or rfl rfl rfl rfl) ?_
 refine AO.pu T ?_
 iterate 2 refine AO.pureG T [] rfl trivial rfl rfl ?_
 refine AO.pureG T [184, 185] rfl ⟨fun h => h, fun h => h, trivial⟩ rfl rfl ?_
 refine AO.val rfl rfl (pick_or rfl rfl rfl rfl) ?_
 refine AO.pu T ?_
 iterate 2 refine AO.pureG T [] rfl trivial rfl rfl ?_
 refine AO.guard [189, 190] rfl ⟨fun h => h, fun h => h, trivial⟩ (fun hg => callLV_ok rfl rfl rfl (es := [.s (List.map encEntry x27.1), .s (List.map encEntry x29.1)]) ⟨(.rowR rfl (.map fun y => .vs rfl)), (.rowR rfl (.map fun y => .vs rfl)), trivial⟩ (laws_qEntries_ok _ _ _ (optT hx40 hg)) (zfree_v _) rfl) rfl ?_
 refine AO.pureG T [191] rfl ⟨fun h => h, trivial⟩ rfl rfl ?_
 refine AO.val rfl rfl (pick_or rfl rfl rfl rfl) ?_
 refine AO.pu T ?_
 refine AO.pureG T [] rfl trivial rfl rfl ?_
 refine AO.guard [195] rfl ⟨fun h => h, trivial⟩ (fun hg => callLV_ok rfl rfl rfl (es := [.s (List.map encEntry x1.2)]) ⟨(.rowR rfl (.map fun y => .vs rfl)), trivial⟩ (impl_AreEntries_ok _ _ (optT hx42 hg)) (zfree_v _) rfl) rfl ?_
 refine AO.pureG T [] rfl trivial rfl rfl ?_
 refine AO.guard [197] rfl ⟨fun h => h, trivial⟩ (fun hg => callLV_ok rfl rfl rfl (es := [.s (List.map encEntry x1.2)]) ⟨(.rowR rfl (.map fun y => .vs rfl)), trivial⟩ (spec_AreEntries_ok _ _ (optT hx44 hg)) (zfree_v _) rfl) rfl ?_
 refine AO.pureG T [196, 198] rfl ⟨fun h => h, fun h => h, trivial⟩ rfl rfl ?_
 refine AO.val rfl rfl (pick_or rfl rfl rfl rfl) ?_
 refine AO.pu T ?_
 refine AO.pureG T (d := .g [x25.best, .R 25]) [] rfl trivial rfl rfl ?_
 refine AO.guard [202] rfl ⟨fun h => h, trivial⟩ (fun hg => callLV_ok rfl rfl rfl (es := [.g (encSeason x25)]) ⟨lend_g (LendL.cons (.free rfl) (LendL.cons ((.rowR rfl (.map fun y => frzLine y))) LendL.nil)), trivial⟩ (impl_IsSeason_ok fuel _ _ (optT hx46 hg)) (zfree_v _) rfl) rfl ?_
 refine AO.pureG T [] rfl trivial rfl rfl ?_
 refine AO.pureG T [203, 204] rfl ⟨fun h => h, fun h => h, trivial⟩ rfl rfl ?_
 refine AO.val rfl rfl (pick_or rfl rfl rfl rfl) ?_
 refine AO.nil ?_
 refine AW.le (Le.ct 0 0 (σ' := (⟨[(5, x1.1), (6, .R 1), (8, .v (.bool x3.2)), (9, .p 5 0), (11, .p 7 0), (12, .p 8 0), (13, .p 10 0), (14, .v (.bool x9.2)), (25, x19.2), (26, .p 22 0), (27, .v (.bool x21.2)), (30, .p 26 0), (31, .R 27), (32, .v (.bool x27.2)), (206, .v (.bool ((((((((((((!(x3.2 == x5.2)) || (!x31)) || (!(x9.2 == x11.2))) || (!x33)) || (!(x15.2 == x17.2))) || (!x35)) || (!(x21.2 == x23.2))) || (!x37)) || (!(x27.2 == x29.2))) || (!x39)) || (!(x41 == x43))) || (!(x45 == x27.2)))))], [(1, .row 3 (List.map encEntry x1.2)), (4, .row 3 (List.map encLineO x5.1.lines)), (5, .box [x5.1.best, .R 4]), (6, .row 3 (List.map encLineO x7.1.lines)), (7, .box [x7.1.best, .R 6]), (8, .box [x7.2.event, x7.2.skater, x7.2.points]), (9, .row 3 (List.map encLineO x9.1.lines)), (10, .box [x9.1.best, .R 9]), (21, .row 3 (List.map encLineO x21.1.lines)), (22, .box [x21.1.best, .R 21]), (25, .row 3 (List.map encLineO x25.lines)), (26, .box [x25.best, .R 25]), (27, .row 3 (List.map encEntry x27.1))], 319, []⟩ : St))) ?_
 refine AW.cond (b := ((((((((((((!(x3.2 == x5.2)) || (!x31)) || (!(x9.2 == x11.2))) || (!x33)) || (!(x15.2 == x17.2))) || (!x35)) || (!(x21.2 == x23.2))) || (!x37)) || (!(x27.2 == x29.2))) || (!x39)) || (!(x41 == x43))) || (!(x45 == x27.2)))) rfl (fun hc => ?_) (fun hc => ?_)
 replace hH := condT hc hH
 refine AW.seq (AW.region ?_)
 refine AO.pu T ?_
 refine AO.nil (AW.ret ?_)
 have hR := someE hH; subst hR
 exact retQ.i [] rfl (.c (.c .v))
 replace hH := condF hc hH
 refine AW.skip ?_
 iterate 2 refine AW.seq ?_
 refine AW.region ?_
 refine AO.pu T ?_
 refine AO.nil ?_
 refine AW.cond (b := x9.2) rfl (fun hc => ?_) (fun hc => ?_)
 replace hH := condT hc hH
 refine AW.seq ?_
 obtain ⟨x47, hx48, hH⟩ := bindE hH
 refine AW.region ?_
 refine AO.pu T (d := .g [x9.1.best, .R 9]) ?_
 iterate 4 refine AO.pu T ?_
 refine AO.step rfl (callL_ok rfl 29 rfl rfl (es := [.g (encSeason (Season.mk x9.1.best x9.1.lines)), x7.2.event, x7.2.skater]) (by exact ⟨lend_g (LendL.cons (.free rfl) (LendL.cons ((.rowR rfl (.map fun y => frzLine y))) LendL.nil)), .free rfl, .free rfl, trivial⟩) (impl_DropEntry_ok fuel _ _ _ _ (hx48)) (zfree_t (zfl (.cons (zfree_g (zfl (.cons (zfree_v _) (.cons (zfree_map (fun y => (.cons (zfree_v _) (.cons (zfree_map (fun y => (.cons (zfree_v _) .nil))) (.cons (zfree_map (fun y => (.cons (zfree_v _) .nil))) .nil))))) .nil)))) (.cons (zfree_v _) .nil)))) rfl rfl rfl) ?_
 refine AO.pu T ?_
 refine AO.pu T (d := .g [x47.1.best, .R 29]) ?_
 refine AO.pu T ?_
 refine AO.step rfl (alloc_ok T rfl 30 rfl rfl rfl rfl rfl) ?_
 refine AO.se T [x47.1.best, .R 29] ?_
 refine AO.pu T ?_
 refine AO.nil (AW.seq ?_)
 obtain ⟨x49, hx50, hH⟩ := bindE hH
 obtain ⟨x51, hx52, hH⟩ := bindE hH
 refine AW.region ?_
 iterate 3 refine AO.pu T ?_
 refine AO.pureG T (d := .g [x47.1.best, .R 29]) [] rfl trivial rfl rfl ?_
 refine AO.pureG T (d := .g [x7.1.best, .R 6]) [] rfl trivial rfl rfl ?_
 refine AO.guard [220, 221] rfl ⟨fun h => h, fun h => h, trivial⟩ (fun hg => callLV_ok rfl rfl rfl (es := [.g (encSeason (Season.mk x47.1.best x47.1.lines)), .g (encSeason (Season.mk x7.1.best x7.1.lines))]) ⟨lend_g (LendL.cons (.free rfl) (LendL.cons ((.rowR rfl (.map fun y => frzLine y))) LendL.nil)), lend_g (LendL.cons (.free rfl) (LendL.cons ((.rowR rfl (.map fun y => frzLine y))) LendL.nil)), trivial⟩ (laws_qSeason_ok _ _ _ (optT hx50 hg)) (zfree_v _) rfl) rfl ?_
 refine AO.pureG T [222] rfl ⟨fun h => h, trivial⟩ rfl rfl ?_
 refine AO.val rfl rfl (pick_or rfl rfl rfl rfl) ?_
 refine AO.pu T ?_
 refine AO.pureG T (d := .g [x9.1.best, .R 9]) [] rfl trivial rfl rfl ?_
 refine AO.guard [226] rfl ⟨fun h => h, trivial⟩ (fun hg => callLV_ok rfl rfl rfl (es := [.g (encSeason (Season.mk x9.1.best x9.1.lines))]) ⟨lend_g (LendL.cons (.free rfl) (LendL.cons ((.rowR rfl (.map fun y => frzLine y))) LendL.nil)), trivial⟩ (impl_IsSeason_ok fuel _ _ (optT hx52 hg)) (zfree_v _) rfl) rfl ?_
 refine AO.pureG T [227] rfl ⟨fun h => h, trivial⟩ rfl rfl ?_
 refine AO.val rfl rfl (pick_or rfl rfl rfl rfl) ?_
 refine AO.nil ?_
 refine AW.le (Le.ct 0 0 (σ' := (⟨[(5, x1.1), (6, .R 1), (8, .v (.bool x3.2)), (9, .p 5 0), (25, x19.2), (26, .p 22 0), (27, .v (.bool x21.2)), (30, .p 26 0), (31, .R 27), (32, .v (.bool x27.2)), (229, .v (.bool (((!x47.2) || (!x49)) || (!x51))))], [(1, .row 3 (List.map encEntry x1.2)), (4, .row 3 (List.map encLineO x5.1.lines)), (5, .box [x5.1.best, .R 4]), (21, .row 3 (List.map encLineO x21.1.lines)), (22, .box [x21.1.best, .R 21]), (25, .row 3 (List.map encLineO x25.lines)), (26, .box [x25.best, .R 25]), (27, .row 3 (List.map encEntry x27.1))], 319, []⟩ : St))) ?_
 refine AW.cond (b := (((!x47.2) || (!x49)) || (!x51))) rfl (fun hc => ?_) (fun hc => ?_)
 replace hH := condT hc hH
 refine AW.seq (AW.region ?_)
 refine AO.pu T ?_
 refine AO.nil (AW.ret ?_)
 have hR := someE hH; subst hR
 exact retQ.i [] rfl (.c (.c .v))
 replace hH := condF hc hH
 refine AW.skip ?_
 iterate 2 refine AW.seq ?_
 refine AW.region ?_
 refine AO.pu T ?_
 refine AO.nil ?_
 refine AW.cond (b := x27.2) rfl (fun hc => ?_) (fun hc => ?_)
 replace hH := condT hc hH
 refine AW.seq ?_
 obtain ⟨x53, hx54, hH⟩ := bindE hH
 refine AW.region ?_
 iterate 3 refine AO.pu T ?_
 refine AO.step rfl (callL_ok rfl 31 rfl rfl (es := [x25.best, .s (List.map encEntry x27.1)]) (by exact ⟨.free rfl, (.rowR rfl (.map fun y => .vs rfl)), trivial⟩) (impl_FreshSeason_ok _ _ _ (hx54)) (zfree_t (zfl (.cons (zfree_g (zfl (.cons (zfree_v _) (.cons (zfree_map (fun y => (.cons (zfree_v _) (.cons (zfree_map (fun y => (.cons (zfree_v _) .nil))) (.cons (zfree_map (fun y => (.cons (zfree_v _) .nil))) .nil))))) .nil)))) (.cons (zfree_v _) .nil)))) rfl rfl rfl) ?_
 refine AO.pu T ?_
 refine AO.pu T (d := .g [x53.1.best, .R 31]) ?_
 refine AO.pu T ?_
 refine AO.step rfl (alloc_ok T rfl 32 rfl rfl rfl rfl rfl) ?_
 refine AO.se T [x53.1.best, .R 31] ?_
 refine AO.pu T ?_
 refine AO.nil (AW.seq ?_)
 obtain ⟨x55, hx56, hH⟩ := bindE hH
 refine AW.region ?_
 iterate 3 refine AO.pu T ?_
 refine AO.pureG T (d := .g [x53.1.best, .R 31]) [] rfl trivial rfl rfl ?_
 refine AO.pureG T (d := .g [x25.best, .R 25]) [] rfl trivial rfl rfl ?_
 refine AO.guard [241, 242] rfl ⟨fun h => h, fun h => h, trivial⟩ (fun hg => callLV_ok rfl rfl rfl (es := [.g (encSeason (Season.mk x53.1.best x53.1.lines)), .g (encSeason x25)]) ⟨lend_g (LendL.cons (.free rfl) (LendL.cons ((.rowR rfl (.map fun y => frzLine y))) LendL.nil)), lend_g (LendL.cons (.free rfl) (LendL.cons ((.rowR rfl (.map fun y => frzLine y))) LendL.nil)), trivial⟩ (laws_qSeason_ok _ _ _ (optT hx56 hg)) (zfree_v _) rfl) rfl ?_
 refine AO.pureG T [243] rfl ⟨fun h => h, trivial⟩ rfl rfl ?_
 refine AO.val rfl rfl (pick_or rfl rfl rfl rfl) ?_
 refine AO.nil ?_
 refine AW.cond (b := ((!x53.2) || (!x55))) rfl (fun hc => ?_) (fun hc => ?_)
 replace hH := condT hc hH
 refine AW.seq (AW.region ?_)
 refine AO.pu T ?_
 refine AO.nil (AW.ret ?_)
 have hR := someE hH; subst hR
 exact retQ.i [] rfl (.c (.c .v))
 replace hH := condF hc hH
 refine AW.skip ?_
 iterate 2 refine AW.seq ?_
 refine AW.region ?_
 refine AO.pu T ?_
 refine AO.nil ?_
 refine AW.cond (b := x21.2) rfl (fun hc => ?_) (fun hc => ?_)
 replace hH := condT hc hH
 refine AW.seq ?_
 obtain ⟨x57, hx58, hH⟩ := bindE hH
 refine AW.region ?_
 refine AO.pu T (d := .g [x21.1.best, .R 21]) ?_
 refine AO.step rfl (callL_ok rfl 33 rfl rfl (es := [.g (encSeason (Season.mk x21.1.best x21.1.lines))]) (by exact ⟨lend_g (LendL.cons (.free rfl) (LendL.cons ((.rowR rfl (.map fun y => frzLine y))) LendL.nil)), trivial⟩) (impl_EntriesOf_ok fuel _ _ (hx58)) (zfree_t (zfl (.cons (zfree_map (fun y => (.cons (zfree_v _) (.cons (zfree_v _) (.cons (zfree_v _) .nil))))) (.cons (zfree_v _) .nil)))) rfl rfl rfl) ?_
 iterate 5 refine AO.pu T ?_
 refine AO.nil ?_
 refine AW.le (Le.ct 0 0 (σ' := (⟨[(5, x1.1), (6, .R 1), (8, .v (.bool x3.2)), (9, .p 5 0), (25, x19.2), (39, .R 33), (40, .v (.bool x57.2))], [(1, .row 3 (List.map encEntry x1.2)), (4, .row 3 (List.map encLineO x5.1.lines)), (5, .box [x5.1.best, .R 4]), (33, .row 3 (List.map encEntry x57.1))], 319, []⟩ : St))) ?_
 iterate 2 refine AW.seq ?_
 refine AW.region ?_
 iterate 2 refine AO.pu T ?_
 refine AO.nil ?_
 refine AW.cond (b := (!x57.2)) rfl (fun hc => ?_) (fun hc => ?_)
 replace hH := condT hc hH
 refine AW.seq (AW.region ?_)
 refine AO.pu T ?_
 refine AO.nil (AW.ret ?_)
 have hR := someE hH; subst hR
 exact retQ.i [] rfl (.c (.c .v))
 replace hH := condF hc hH
 refine AW.skip ?_
 refine AW.seq (AW.region ?_)
 refine AO.pu T ?_
 refine AO.val rfl rfl (len_row_ok T rfl rfl rfl rfl) ?_
 refine AO.pu T ?_
 refine AO.nil ?_
 refine AW.block ?_
 refine AW.loopS (fun s : Nat => (⟨[(5, x1.1), (6, .R 1), (8, .v (.bool x3.2)), (9, .p 5 0), (25, x19.2), (254, .R 33), (255, (x57.1.length : Int)), (256, (s : Int))], [(1, .row 3 (List.map encEntry x1.2)), (4, .row 3 (List.map encLineO x5.1.lines)), (5, .box [x5.1.best, .R 4]), (33, .row 3 (List.map encEntry x57.1))], 319, []⟩ : St)) (fun s => s ≤ x57.1.length ∧ laws_FnSeasons_l1 fuel x1 x3 x5 x19 (x57.1.drop s) s = some r) (fun s => x57.1.length - s) 0 ⟨Nat.zero_le _, hH⟩ ?_ ?_
 exact Le.ct 0 0
 rintro k59 ⟨hk, hH⟩
 replace hH : laws_FnSeasons_l1 fuel x1 x3 x5 x19 (x57.1.drop k59) k59 = some r := hH
 try dsimp only
 refine AW.boundR (id := 33) (l := x57.1) rfl (fun hb63 => ?_)
 rcases hd62 : x57.1.drop k59 with _ | ⟨y60, ys61⟩
 rw [hd62, laws_FnSeasons_l1] at hH
 have hlt64 := drop_ge hd62
 refine AW.seq (AW.region ?_)
 refine AO.pu T ?_
 refine AO.nil (AW.seq ?_)
 refine AW.condF' (b := decide ((k59 : Int) < (x57.1.length : Int))) rfl (rngF hlt64) ?_
 refine AW.exit ?_
 iterate 2 refine AW.seq ?_
 refine AW.region ?_
 iterate 2 refine AO.pu T ?_
 refine AO.nil ?_
 refine AW.cond (b := (!x3.2)) rfl (fun hc => ?_) (fun hc => ?_)
 replace hH := condT hc hH
 refine AW.seq (AW.region ?_)
 refine AO.pu T ?_
 refine AO.nil (AW.ret ?_)
 have hR := someE hH; subst hR
 exact retQ.i [] rfl (.c (.c .v))
 replace hH := condF hc hH
 refine AW.skip ?_
 refine AW.seq (AW.region ?_)
 refine AO.pu T ?_
 refine AO.pu T (d := .g [x1.1, .w 0 []]) ?_
 refine AO.step rfl (alloc_ok T rfl 36 rfl rfl rfl rfl rfl) ?_
 refine AO.se T [x1.1, .w 0 []] ?_
 refine AO.nil ?_
 iterate 2 refine AW.seq ?_
 refine AW.region ?_
 refine AO.pu T ?_
 refine AO.val rfl rfl (len_row_ok T rfl rfl rfl rfl) ?_
 refine AO.pu T ?_
 refine AO.nil ?_
 refine AW.block ?_
 refine AW.loopS (fun s : Nat × Int × (List Line) => (⟨[(5, x1.1), (6, .R 1), (9, .p 5 0), (43, .p 36 0), (269, .R 1), (270, (x1.2.length : Int)), (271, (s.1 : Int))], [(1, .row 3 (List.map encEntry x1.2)), (4, .row 3 (List.map encLineO x5.1.lines)), (5, .box [x5.1.best, .R 4]), (36, .box [s.2.1, .R 41]), (41, .row 3 (List.map encLineO s.2.2))], 319, []⟩ : St)) (fun s => s.1 ≤ x1.2.length ∧ laws_FnSeasons_l2 fuel x1 x5 (x1.2.drop s.1) s.1 s.2.1 s.2.2 = some r) (fun s => x1.2.length - s.1) (0, x1.1, []) ⟨Nat.zero_le _, hH⟩ ?_ ?_
 refine Le.trans (Le.voidBox 36 1 41 3 rfl rfl rfl rfl) ?_
 exact Le.ct 0 0
 rintro ⟨k66, v78, v79⟩ ⟨hk, hH⟩
 replace hH : laws_FnSeasons_l2 fuel x1 x5 (x1.2.drop k66) k66 v78 v79 = some r := hH
 try dsimp only
 refine AW.boundR (id := 1) (l := x1.2) rfl (fun hb70 => ?_)
 rcases hd69 : x1.2.drop k66 with _ | ⟨y67, ys68⟩
 rw [hd69, laws_FnSeasons_l2] at hH
 have hlt71 := drop_ge hd69
 refine AW.seq (AW.region ?_)
 refine AO.pu T ?_
 refine AO.nil (AW.seq ?_)
 refine AW.condF' (b := decide ((k66 : Int) < (x1.2.length : Int))) rfl (rngF hlt71) ?_
 refine AW.exit ?_
 refine AW.seq (AW.region ?_)
 refine AO.pu T ?_
 refine AO.nil ?_
 iterate 2 refine AW.seq ?_
 refine AW.region ?_
 refine AO.pu T ?_
 refine AO.val rfl rfl (len_row_ok T rfl rfl rfl rfl) ?_
 refine AO.pu T ?_
 refine AO.nil ?_
 refine AW.block ?_
 refine AW.loopS (fun s : Nat × (List Entry) => (⟨[(5, x1.1), (6, .R 1), (9, .p 5 0), (43, .p 36 0), (48, .R 46), (286, (x1.2.length : Int)), (287, (s.1 : Int))], [(1, .row 3 (List.map encEntry x1.2)), (4, .row 3 (List.map encLineO x5.1.lines)), (5, .box [x5.1.best, .R 4]), (36, .box [v78, .R 41]), (41, .row 3 (List.map encLineO v79)), (46, .row 3 (List.map encEntry s.2))], 319, []⟩ : St)) (fun s => s.1 ≤ x1.2.length ∧ laws_FnSeasons_l3 x1 x5 v78 v79 (x1.2.drop s.1) s.1 s.2 = some r) (fun s => x1.2.length - s.1) (0, []) ⟨Nat.zero_le _, hH⟩ ?_ ?_
 refine Le.trans (Le.void 48 46 3 rfl rfl) ?_
 exact Le.ct 0 0
 rintro ⟨k81, v96⟩ ⟨hk, hH⟩
 replace hH : laws_FnSeasons_l3 x1 x5 v78 v79 (x1.2.drop k81) k81 v96 = some r := hH
 try dsimp only
 refine AW.boundR (id := 1) (l := x1.2) rfl (fun hb85 => ?_)
 rcases hd84 : x1.2.drop k81 with _ | ⟨y82, ys83⟩
 rw [hd84, laws_FnSeasons_l3] at hH
 have hlt86 := drop_ge hd84
 refine AW.seq (AW.region ?_)
 refine AO.pu T ?_
 refine AO.nil (AW.seq ?_)
 refine AW.condF' (b := decide ((k81 : Int) < (x1.2.length : Int))) rfl (rngF hlt86) ?_
 refine AW.exit ?_
 refine AW.seq ?_
 obtain ⟨x98, hx99, hH⟩ := bindE hH
 refine AW.region ?_
 iterate 2 refine AO.pu T ?_
 refine AO.step rfl (callL_ok rfl 47 rfl rfl (es := [x1.1, .s (List.map encEntry v96)]) (by exact ⟨.free rfl, (.rowR rfl (.map fun y => .vs rfl)), trivial⟩) (impl_FreshSeason_ok _ _ _ (hx99)) (zfree_t (zfl (.cons (zfree_g (zfl (.cons (zfree_v _) (.cons (zfree_map (fun y => (.cons (zfree_v _) (.cons (zfree_map (fun y => (.cons (zfree_v _) .nil))) (.cons (zfree_map (fun y => (.cons (zfree_v _) .nil))) .nil))))) .nil)))) (.cons (zfree_v _) .nil)))) rfl rfl rfl) ?_
 refine AO.pu T ?_
 refine AO.pu T (d := .g [x98.1.best, .R 47]) ?_
 refine AO.pu T ?_
 refine AO.step rfl (alloc_ok T rfl 48 rfl rfl rfl rfl rfl) ?_
 refine AO.se T [x98.1.best, .R 47] ?_
 refine AO.pu T ?_
 refine AO.nil (AW.seq ?_)
 obtain ⟨x100, hx101, hH⟩ := bindE hH
 obtain ⟨x102, hx103, hH⟩ := bindE hH
 refine AW.region ?_
 refine AO.pu T (d := .g [v78, .R 41]) ?_
 refine AO.pu T (d := .g [x5.1.best, .R 4]) ?_
 refine AO.val rfl rfl (callLV_ok rfl rfl rfl (es := [.g (encSeason (Season.mk v78 v79)), .g (encSeason (Season.mk x5.1.best x5.1.lines))]) ⟨lend_g (LendL.cons (.free rfl) (LendL.cons ((.rowR rfl (.map fun y => frzLine y))) LendL.nil)), lend_g (LendL.cons (.free rfl) (LendL.cons ((.rowR rfl (.map fun y => frzLine y))) LendL.nil)), trivial⟩ (laws_qSeason_ok _ _ _ (hx101)) (zfree_v _) rfl) ?_
 refine AO.pu T ?_
 refine AO.pureG T [] rfl trivial rfl rfl ?_
 refine AO.val rfl rfl (pick_and rfl rfl rfl rfl) ?_
 refine AO.pu T ?_
 refine AO.pureG T (d := .g [x98.1.best, .R 47]) [] rfl trivial rfl rfl ?_
 refine AO.pureG T (d := .g [x5.1.best, .R 4]) [] rfl trivial rfl rfl ?_
 refine AO.guard [315, 316] rfl ⟨fun h => h, fun h => h, trivial⟩ (fun hg => callLV_ok rfl rfl rfl (es := [.g (encSeason (Season.mk x98.1.best x98.1.lines)), .g (encSeason (Season.mk x5.1.best x5.1.lines))]) ⟨lend_g (LendL.cons (.free rfl) (LendL.cons ((.rowR rfl (.map fun y => frzLine y))) LendL.nil)), lend_g (LendL.cons (.free rfl) (LendL.cons ((.rowR rfl (.map fun y => frzLine y))) LendL.nil)), trivial⟩ (laws_qSeason_ok _ _ _ (optT hx103 hg)) (zfree_v _) rfl) rfl ?_
 refine AO.val rfl rfl (pick_and rfl rfl rfl rfl) ?_
 refine AO.pu T ?_
 refine AO.nil (AW.ret ?_)
 have hR := someE hH; subst hR
 exact retQ.i [] rfl (.c (.c .v))
 rw [hd84, laws_FnSeasons_l3] at hH
 have hlt86 := drop_lt hd84
 refine AW.seq (AW.region ?_)
 refine AO.pu T ?_
 refine AO.nil (AW.seq ?_)
 refine AW.condT' (b := decide ((k81 : Int) < (x1.2.length : Int))) rfl (rngT hlt86) ?_
 refine AW.skip ?_
 refine AW.seq ?_
 refine AW.block ?_
 refine AW.seq (AW.region ?_)
 iterate 2 refine AO.pu T ?_
 refine AO.nil ?_
 obtain ⟨x104, hx105, hH⟩ := bindE hH
 obtain ⟨u106, hx107, hH⟩ := bindE hH
 refine AW.region ?_
 iterate 3 refine AO.pu T ?_
 refine AO.val rfl rfl (len_row_ok T rfl rfl rfl rfl) ?_
 refine AO.val rfl rfl (arw_ok rfl rfl rfl rfl) ?_
 refine AO.pu T ?_
 refine AO.val rfl rfl (arw_ok rfl rfl rfl rfl) ?_
 refine AO.val rfl rfl (ix_row_ok T rfl rfl rfl rfl rfl rfl (hx105)) ?_
 refine AO.val rfl rfl (load_row_ok T rfl rfl rfl rfl (getI_get (hx105)) rfl rfl rfl) ?_
 refine AO.step rfl (mk_map_ok T rfl 49 rfl rfl rfl rfl rfl (f := encEntry) (l := [x104]) rfl rfl (fun _ => rfl) rfl rfl rfl rfl rfl) ?_
 refine AO.step rfl (app_rv_map T rfl 50 rfl rfl rfl rfl rfl (by decide) rfl rfl rfl rfl (fun _ => rfl) (needT (hx107)) rfl rfl) ?_
 refine AO.pu T ?_
 refine AO.nil ?_
 refine AW.region ?_
 refine AO.val rfl rfl (ar_ok rfl rfl rfl rfl (inI_succ hlt86 hb85)) ?_
 refine AO.pu T ?_
 refine AO.nil ?_
 refine ⟨(k81 + 1, (v96 ++ [x104])), ⟨Nat.succ_le_of_lt hlt86, (by rw [drop_succ_of hd84]; exact hH)⟩, (by have := hlt86; dsimp only; omega), ?_⟩
 exact Le.ct 50 46
 rw [hd69, laws_FnSeasons_l2] at hH
 have hlt71 := drop_lt hd69
 refine AW.seq (AW.region ?_)
 refine AO.pu T ?_
 refine AO.nil (AW.seq ?_)
 refine AW.condT' (b := decide ((k66 : Int) < (x1.2.length : Int))) rfl (rngT hlt71) ?_
 refine AW.skip ?_
 refine AW.seq ?_
 refine AW.block ?_
 refine AW.seq (AW.region ?_)
 refine AO.val rfl rfl (ix_row_ok T rfl rfl rfl rfl rfl rfl (getI_drop hd69)) ?_
 refine AO.val rfl rfl (load_row_ok T rfl rfl rfl rfl (getI_get (getI_drop hd69)) rfl rfl rfl) ?_
 refine AO.step rfl (alloc_ok T rfl 51 rfl rfl rfl rfl rfl) ?_
 refine AO.se T [y67.event, y67.skater, y67.points] ?_
 refine AO.nil (AW.seq ?_)
 obtain ⟨x108, hx109, hH⟩ := bindE hH
 refine AW.region ?_
 refine AO.pu T (d := .g [v78, .R 41]) ?_
 refine AO.pu T (d := .g [y67.event, y67.skater, y67.points]) ?_
 refine AO.step rfl (callL_ok rfl 52 rfl rfl (es := [.g (encSeason (Season.mk v78 v79)), .g (encEntry y67)]) (by exact ⟨lend_g (LendL.cons (.free rfl) (LendL.cons ((.rowR rfl (.map fun y => frzLine y))) LendL.nil)), .free rfl, trivial⟩) (impl_AddEntry_ok fuel _ _ _ (hx109)) (zfree_t (zfl (.cons (zfree_g (zfl (.cons (zfree_v _) (.cons (zfree_map (fun y => (.cons (zfree_v _) (.cons (zfree_map (fun y => (.cons (zfree_v _) .nil))) (.cons (zfree_map (fun y => (.cons (zfree_v _) .nil))) .nil))))) .nil)))) (.cons (zfree_v _) .nil)))) rfl rfl rfl) ?_
 refine AO.pu T ?_
 refine AO.pu T (d := .g [x108.1.best, .R 52]) ?_
 refine AO.pu T ?_
 refine AO.step rfl (alloc_ok T rfl 53 rfl rfl rfl rfl rfl) ?_
 refine AO.se T [x108.1.best, .R 52] ?_
 refine AO.pu T ?_
 refine AO.nil ?_
 iterate 2 refine AW.seq ?_
 refine AW.region ?_
 iterate 2 refine AO.pu T ?_
 refine AO.nil ?_
 refine AW.cond (b := (!x108.2)) rfl (fun hc => ?_) (fun hc => ?_)
 replace hH := condT hc hH
 refine AW.seq (AW.region ?_)
 refine AO.pu T ?_
 refine AO.nil (AW.ret ?_)
 have hR := someE hH; subst hR
 exact retQ.i [] rfl (.c (.c .v))
 replace hH := condF hc hH
 refine AW.skip ?_
 refine AW.region ?_
 refine AO.pu T (d := .g [x108.1.best, .R 52]) ?_
 refine AO.se T [x108.1.best, .R 52] ?_
 refine AO.nil ?_
 refine AW.region ?_
 refine AO.val rfl rfl (ar_ok rfl rfl rfl rfl (inI_succ hlt71 hb70)) ?_
 refine AO.pu T ?_
 refine AO.nil ?_
 refine ⟨(k66 + 1, x108.1.best, x108.1.lines), ⟨Nat.succ_le_of_lt hlt71, (by rw [drop_succ_of hd69]; exact hH)⟩, (by have := hlt71; dsimp only; omega), ?_⟩
 exact Le.ct 52 41
 rw [hd62, laws_FnSeasons_l1] at hH
 have hlt64 := drop_lt hd62
 refine AW.seq (AW.region ?_)
 refine AO.pu T ?_
 refine AO.nil (AW.seq ?_)
 refine AW.condT' (b := decide ((k59 : Int) < (x57.1.length : Int))) rfl (rngT hlt64) ?_
 refine AW.skip ?_
 refine AW.seq ?_
 refine AW.block ?_
 refine AW.seq (AW.region ?_)
 refine AO.val rfl rfl (ix_row_ok T rfl rfl rfl rfl rfl rfl (getI_drop hd62)) ?_
 refine AO.val rfl rfl (load_row_ok T rfl rfl rfl rfl (getI_get (getI_drop hd62)) rfl rfl rfl) ?_
 refine AO.step rfl (alloc_ok T rfl 54 rfl rfl rfl rfl rfl) ?_
 refine AO.se T [y60.event, y60.skater, y60.points] ?_
 refine AO.nil (AW.seq ?_)
 refine AW.region ?_
 iterate 4 refine AO.pu T ?_
 refine AO.nil ?_
 refine AW.cond (b := (y60.event == x19.2)) rfl (fun hc => ?_) (fun hc => ?_)
 replace hH := condT hc hH
 refine AW.seq (AW.region ?_)
 refine AO.pu T ?_
 refine AO.nil (AW.ret ?_)
 have hR := someE hH; subst hR
 exact retQ.i [] rfl (.c (.c .v))
 replace hH := condF hc hH
 refine AW.skip ?_
 refine AW.region ?_
 refine AO.val rfl rfl (ar_ok rfl rfl rfl rfl (inI_succ hlt64 hb63)) ?_
 refine AO.pu T ?_
 refine AO.nil ?_
 refine ⟨k59 + 1, ⟨Nat.succ_le_of_lt hlt64, (by rw [drop_succ_of hd62]; exact hH)⟩, (by have := hlt64; dsimp only; omega), ?_⟩
 exact Le.ct 0 0
 replace hH := condF hc hH
 refine AW.skip ?_
 iterate 2 refine AW.seq ?_
 refine AW.region ?_
 iterate 2 refine AO.pu T ?_
 refine AO.nil ?_
 refine AW.cond (b := (!x3.2)) rfl (fun hc => ?_) (fun hc => ?_)
 replace hH := condT hc hH
 refine AW.seq (AW.region ?_)
 refine AO.pu T ?_
 refine AO.nil (AW.ret ?_)
 have hR := someE hH; subst hR
 exact retQ.i [] rfl (.c (.c .v))
 replace hH := condF hc hH
 refine AW.skip ?_
 refine AW.seq (AW.region ?_)
 refine AO.pu T ?_
 refine AO.pu T (d := .g [x1.1, .w 0 []]) ?_
 refine AO.step rfl (alloc_ok T rfl 55 rfl rfl rfl rfl rfl) ?_
 refine AO.se T [x1.1, .w 0 []] ?_
 refine AO.nil ?_
 refine AW.le (Le.ct 0 0 (σ' := (⟨[(5, x1.1), (6, .R 1), (9, .p 5 0), (43, .p 55 0)], [(1, .row 3 (List.map encEntry x1.2)), (4, .row 3 (List.map encLineO x5.1.lines)), (5, .box [x5.1.best, .R 4]), (55, .box [x1.1, .w 0 []])], 319, []⟩ : St))) ?_
 iterate 2 refine AW.seq ?_
 refine AW.region ?_
 refine AO.pu T ?_
 refine AO.val rfl rfl (len_row_ok T rfl rfl rfl rfl) ?_
 refine AO.pu T ?_
 refine AO.nil ?_
 refine AW.block ?_
 refine AW.loopS (fun s : Nat × Int × (List Line) => (⟨[(5, x1.1), (6, .R 1), (9, .p 5 0), (43, .p 55 0), (269, .R 1), (270, (x1.2.length : Int)), (271, (s.1 : Int))], [(1, .row 3 (List.map encEntry x1.2)), (4, .row 3 (List.map encLineO x5.1.lines)), (5, .box [x5.1.best, .R 4]), (55, .box [s.2.1, .R 60]), (60, .row 3 (List.map encLineO s.2.2))], 319, []⟩ : St)) (fun s => s.1 ≤ x1.2.length ∧ laws_FnSeasons_l4 fuel x1 x5 (x1.2.drop s.1) s.1 s.2.1 s.2.2 = some r) (fun s => x1.2.length - s.1) (0, x1.1, []) ⟨Nat.zero_le _, hH⟩ ?_ ?_
 refine Le.trans (Le.voidBox 55 1 60 3 rfl rfl rfl rfl) ?_
 exact Le.ct 0 0
 rintro ⟨k110, v122, v123⟩ ⟨hk, hH⟩
 replace hH : laws_FnSeasons_l4 fuel x1 x5 (x1.2.drop k110) k110 v122 v123 = some r := hH
 try dsimp only
 refine AW.boundR (id := 1) (l := x1.2) rfl (fun hb114 => ?_)
 rcases hd113 : x1.2.drop k110 with _ | ⟨y111, ys112⟩
 rw [hd113, laws_FnSeasons_l4] at hH
 have hlt115 := drop_ge hd113
 refine AW.seq (AW.region ?_)
 refine AO.pu T ?_
 refine AO.nil (AW.seq ?_)
 refine AW.condF' (b := decide ((k110 : Int) < (x1.2.length : Int))) rfl (rngF hlt115) ?_
 refine AW.exit ?_
 refine AW.seq (AW.region ?_)
 refine AO.pu T ?_
 refine AO.nil ?_
 iterate 2 refine AW.seq ?_
 refine AW.region ?_
 refine AO.pu T ?_
 refine AO.val rfl rfl (len_row_ok T rfl rfl rfl rfl) ?_
 refine AO.pu T ?_
 refine AO.nil ?_
 refine AW.block ?_
 refine AW.loopS (fun s : Nat × (List Entry) => (⟨[(5, x1.1), (6, .R 1), (9, .p 5 0), (43, .p 55 0), (48, .R 65), (286, (x1.2.length : Int)), (287, (s.1 : Int))], [(1, .row 3 (List.map encEntry x1.2)), (4, .row 3 (List.map encLineO x5.1.lines)), (5, .box [x5.1.best, .R 4]), (55, .box [v122, .R 60]), (60, .row 3 (List.map encLineO v123)), (65, .row 3 (List.map encEntry s.2))], 319, []⟩ : St)) (fun s => s.1 ≤ x1.2.length ∧ laws_FnSeasons_l5 x1 x5 v122 v123 (x1.2.drop s.1) s.1 s.2 = some r) (fun s => x1.2.length - s.1) (0, []) ⟨Nat.zero_le _, hH⟩ ?_ ?_
 refine Le.trans (Le.void 48 65 3 rfl rfl) ?_
 exact Le.ct 0 0
 rintro ⟨k125, v140⟩ ⟨hk, hH⟩
 replace hH : laws_FnSeasons_l5 x1 x5 v122 v123 (x1.2.drop k125) k125 v140 = some r := hH
 try dsimp only
 refine AW.boundR (id := 1) (l := x1.2) rfl (fun hb129 => ?_)
 rcases hd128 : x1.2.drop k125 with _ | ⟨y126, ys127⟩
 rw [hd128, laws_FnSeasons_l5] at hH
 have hlt130 := drop_ge hd128
 refine AW.seq (AW.region ?_)
 refine AO.pu T ?_
 refine AO.nil (AW.seq ?_)
 refine AW.condF' (b := decide ((k125 : Int) < (x1.2.length : Int))) rfl (rngF hlt130) ?_
 refine AW.exit ?_
 refine AW.seq ?_
 obtain ⟨x142, hx143, hH⟩ := bindE hH
 refine AW.region ?_
 iterate 2 refine AO.pu T ?_
 refine AO.step rfl (callL_ok rfl 66 rfl rfl (es := [x1.1, .s (List.map encEntry v140)]) (by exact ⟨.free rfl, (.rowR rfl (.map fun y => .vs rfl)), trivial⟩) (impl_FreshSeason_ok _ _ _ (hx143)) (zfree_t (zfl (.cons (zfree_g (zfl (.cons (zfree_v _) (.cons (zfree_map (fun y => (.cons (zfree_v _) (.cons (zfree_map (fun y => (.cons (zfree_v _) .nil))) (.cons (zfree_map (fun y => (.cons (zfree_v _) .nil))) .nil))))) .nil)))) (.cons (zfree_v _) .nil)))) rfl rfl rfl) ?_
 refine AO.pu T ?_
 refine AO.pu T (d := .g [x142.1.best, .R 66]) ?_
 refine AO.pu T ?_
 refine AO.step rfl (alloc_ok T rfl 67 rfl rfl rfl rfl rfl) ?_
 refine AO.se T [x142.1.best, .R 66] ?_
 refine AO.pu T ?_
 refine AO.nil (AW.seq ?_)
 obtain ⟨x144, hx145, hH⟩ := bindE hH
 obtain ⟨x146, hx147, hH⟩ := bindE hH
 refine AW.region ?_
 refine AO.pu T (d := .g [v122, .R 60]) ?_
 refine AO.pu T (d := .g [x5.1.best, .R 4]) ?_
 refine AO.val rfl rfl (callLV_ok rfl rfl rfl (es := [.g (encSeason (Season.mk v122 v123)), .g (encSeason (Season.mk x5.1.best x5.1.lines))]) ⟨lend_g (LendL.cons (.free rfl) (LendL.cons ((.rowR rfl (.map fun y => frzLine y))) LendL.nil)), lend_g (LendL.cons (.free rfl) (LendL.cons ((.rowR rfl (.map fun y => frzLine y))) LendL.nil)), trivial⟩ (laws_qSeason_ok _ _ _ (hx145)) (zfree_v _) rfl) ?_
 refine AO.pu T ?_
 refine AO.pureG T [] rfl trivial rfl rfl ?_
 refine AO.val rfl rfl (pick_and rfl rfl rfl rfl) ?_
 refine AO.pu T ?_
 refine AO.pureG T (d := .g [x142.1.best, .R 66]) [] rfl trivial rfl rfl ?_
 refine AO.pureG T (d := .g [x5.1.best, .R 4]) [] rfl trivial rfl rfl ?_
 refine AO.guard [315, 316] rfl ⟨fun h => h, fun h => h, trivial⟩ (fun hg => callLV_ok rfl rfl rfl (es := [.g (encSeason (Season.mk x142.1.best x142.1.lines)), .g (encSeason (Season.mk x5.1.best x5.1.lines))]) ⟨lend_g (LendL.cons (.free rfl) (LendL.cons ((.rowR rfl (.map fun y => frzLine y))) LendL.nil)), lend_g (LendL.cons (.free rfl) (LendL.cons ((.rowR rfl (.map fun y => frzLine y))) LendL.nil)), trivial⟩ (laws_qSeason_ok _ _ _ (optT hx147 hg)) (zfree_v _) rfl) rfl ?_
 refine AO.val rfl rfl (pick_and rfl rfl rfl rfl) ?_
 refine AO.pu T ?_
 refine AO.nil (AW.ret ?_)
 have hR := someE hH; subst hR
 exact retQ.i [] rfl (.c (.c .v))
 rw [hd128, laws_FnSeasons_l5] at hH
 have hlt130 := drop_lt hd128
 refine AW.seq (AW.region ?_)
 refine AO.pu T ?_
 refine AO.nil (AW.seq ?_)
 refine AW.condT' (b := decide ((k125 : Int) < (x1.2.length : Int))) rfl (rngT hlt130) ?_
 refine AW.skip ?_
 refine AW.seq ?_
 refine AW.block ?_
 refine AW.seq (AW.region ?_)
 iterate 2 refine AO.pu T ?_
 refine AO.nil ?_
 obtain ⟨x148, hx149, hH⟩ := bindE hH
 obtain ⟨u150, hx151, hH⟩ := bindE hH
 refine AW.region ?_
 iterate 3 refine AO.pu T ?_
 refine AO.val rfl rfl (len_row_ok T rfl rfl rfl rfl) ?_
 refine AO.val rfl rfl (arw_ok rfl rfl rfl rfl) ?_
 refine AO.pu T ?_
 refine AO.val rfl rfl (arw_ok rfl rfl rfl rfl) ?_
 refine AO.val rfl rfl (ix_row_ok T rfl rfl rfl rfl rfl rfl (hx149)) ?_
 refine AO.val rfl rfl (load_row_ok T rfl rfl rfl rfl (getI_get (hx149)) rfl rfl rfl) ?_
 refine AO.step rfl (mk_map_ok T rfl 68 rfl rfl rfl rfl rfl (f := encEntry) (l := [x148]) rfl rfl (fun _ => rfl) rfl rfl rfl rfl rfl) ?_
 refine AO.step rfl (app_rv_map T rfl 69 rfl rfl rfl rfl rfl (by decide) rfl rfl rfl rfl (fun _ => rfl) (needT (hx151)) rfl rfl) ?_
 refine AO.pu T ?_
 refine AO.nil ?_
 refine AW.region ?_
 refine AO.val rfl rfl (ar_ok rfl rfl rfl rfl (inI_succ hlt130 hb129)) ?_
 refine AO.pu T ?_
 refine AO.nil ?_
 refine ⟨(k125 + 1, (v140 ++ [x148])), ⟨Nat.succ_le_of_lt hlt130, (by rw [drop_succ_of hd128]; exact hH)⟩, (by have := hlt130; dsimp only; omega), ?_⟩
 exact Le.ct 69 65
 rw [hd113, laws_FnSeasons_l4] at hH
 have hlt115 := drop_lt hd113
 refine AW.seq (AW.region ?_)
 refine AO.pu T ?_
 refine AO.nil (AW.seq ?_)
 refine AW.condT' (b := decide ((k110 : Int) < (x1.2.length : Int))) rfl (rngT hlt115) ?_
 refine AW.skip ?_
 refine AW.seq ?_
 refine AW.block ?_
 refine AW.seq (AW.region ?_)
 refine AO.val rfl rfl (ix_row_ok T rfl rfl rfl rfl rfl rfl (getI_drop hd113)) ?_
 refine AO.val rfl rfl (load_row_ok T rfl rfl rfl rfl (getI_get (getI_drop hd113)) rfl rfl rfl) ?_
 refine AO.step rfl (alloc_ok T rfl 70 rfl rfl rfl rfl rfl) ?_
 refine AO.se T [y111.event, y111.skater, y111.points] ?_
 refine AO.nil (AW.seq ?_)
 obtain ⟨x152, hx153, hH⟩ := bindE hH
 refine AW.region ?_
 refine AO.pu T (d := .g [v122, .R 60]) ?_
 refine AO.pu T (d := .g [y111.event, y111.skater, y111.points]) ?_
 refine AO.step rfl (callL_ok rfl 71 rfl rfl (es := [.g (encSeason (Season.mk v122 v123)), .g (encEntry y111)]) (by exact ⟨lend_g (LendL.cons (.free rfl) (LendL.cons ((.rowR rfl (.map fun y => frzLine y))) LendL.nil)), .free rfl, trivial⟩) (impl_AddEntry_ok fuel _ _ _ (hx153)) (zfree_t (zfl (.cons (zfree_g (zfl (.cons (zfree_v _) (.cons (zfree_map (fun y => (.cons (zfree_v _) (.cons (zfree_map (fun y => (.cons (zfree_v _) .nil))) (.cons (zfree_map (fun y => (.cons (zfree_v _) .nil))) .nil))))) .nil)))) (.cons (zfree_v _) .nil)))) rfl rfl rfl) ?_
 refine AO.pu T ?_
 refine AO.pu T (d := .g [x152.1.best, .R 71]) ?_
 refine AO.pu T ?_
 refine AO.step rfl (alloc_ok T rfl 72 rfl rfl rfl rfl rfl) ?_
 refine AO.se T [x152.1.best, .R 71] ?_
 refine AO.pu T ?_
 refine AO.nil ?_
 iterate 2 refine AW.seq ?_
 refine AW.region ?_
 iterate 2 refine AO.pu T ?_
 refine AO.nil ?_
 refine AW.cond (b := (!x152.2)) rfl (fun hc => ?_) (fun hc => ?_)
 replace hH := condT hc hH
 refine AW.seq (AW.region ?_)
 refine AO.pu T ?_
 refine AO.nil (AW.ret ?_)
 have hR := someE hH; subst hR
 exact retQ.i [] rfl (.c (.c .v))
 replace hH := condF hc hH
 refine AW.skip ?_
 refine AW.region ?_
 refine AO.pu T (d := .g [x152.1.best, .R 71]) ?_
 refine AO.se T [x152.1.best, .R 71] ?_
 refine AO.nil ?_
 refine AW.region ?_
 refine AO.val rfl rfl (ar_ok rfl rfl rfl rfl (inI_succ hlt115 hb114)) ?_
 refine AO.pu T ?_
 refine AO.nil ?_
 refine ⟨(k110 + 1, x152.1.best, x152.1.lines), ⟨Nat.succ_le_of_lt hlt115, (by rw [drop_succ_of hd113]; exact hH)⟩, (by have := hlt115; dsimp only; omega), ?_⟩
 exact Le.ct 71 60
 replace hH := condF hc hH
 refine AW.skip ?_
 iterate 2 refine AW.seq ?_
 refine AW.region ?_
 refine AO.pu T ?_
 refine AO.nil ?_
 refine AW.cond (b := x21.2) rfl (fun hc => ?_) (fun hc => ?_)
 replace hH := condT hc hH
 refine AW.seq ?_
 obtain ⟨x154, hx155, hH⟩ := bindE hH
 refine AW.region ?_
 refine AO.pu T (d := .g [x21.1.best, .R 21]) ?_
 refine AO.step rfl (callL_ok rfl 73 rfl rfl (es := [.g (encSeason (Season.mk x21.1.best x21.1.lines))]) (by exact ⟨lend_g (LendL.cons (.free rfl) (LendL.cons ((.rowR rfl (.map fun y => frzLine y))) LendL.nil)), trivial⟩) (impl_EntriesOf_ok fuel _ _ (hx155)) (zfree_t (zfl (.cons (zfree_map (fun y => (.cons (zfree_v _) (.cons (zfree_v _) (.cons (zfree_v _) .nil))))) (.cons (zfree_v _) .nil)))) rfl rfl rfl) ?_
 iterate 5 refine AO.pu T ?_
 refine AO.nil ?_
 iterate 2 refine AW.seq ?_
 refine AW.region ?_
 iterate 2 refine AO.pu T ?_
 refine AO.nil ?_
 refine AW.cond (b := (!x154.2)) rfl (fun hc => ?_) (fun hc => ?_)
 replace hH := condT hc hH
 refine AW.seq (AW.region ?_)
 refine AO.pu T ?_
 refine AO.nil (AW.ret ?_)
 have hR := someE hH; subst hR
 exact retQ.i [] rfl (.c (.c .v))
 replace hH := condF hc hH
 refine AW.skip ?_
 refine AW.seq (AW.region ?_)
 refine AO.pu T ?_
 refine AO.val rfl rfl (len_row_ok T rfl rfl rfl rfl) ?_
 refine AO.pu T ?_
 refine AO.nil ?_
 refine AW.block ?_
 refine AW.loopS (fun s : Nat => (⟨[(5, x1.1), (6, .R 1), (8, .v (.bool x3.2)), (9, .p 5 0), (25, x19.2), (254, .R 73), (255, (x154.1.length : Int)), (256, (s : Int))], [(1, .row 3 (List.map encEntry x1.2)), (4, .row 3 (List.map encLineO x5.1.lines)), (5, .box [x5.1.best, .R 4]), (73, .row 3 (List.map encEntry x154.1))], 319, []⟩ : St)) (fun s => s ≤ x154.1.length ∧ laws_FnSeasons_l6 fuel x1 x3 x5 x19 (x154.1.drop s) s = some r) (fun s => x154.1.length - s) 0 ⟨Nat.zero_le _, hH⟩ ?_ ?_
 exact Le.ct 0 0
 rintro k156 ⟨hk, hH⟩
 replace hH : laws_FnSeasons_l6 fuel x1 x3 x5 x19 (x154.1.drop k156) k156 = some r := hH
 try dsimp only
 refine AW.boundR (id := 73) (l := x154.1) rfl (fun hb160 => ?_)
 rcases hd159 : x154.1.drop k156 with _ | ⟨y157, ys158⟩
 rw [hd159, laws_FnSeasons_l6] at hH
 have hlt161 := drop_ge hd159
 refine AW.seq (AW.region ?_)
 refine AO.pu T ?_
 refine AO.nil (AW.seq ?_)
 refine AW.condF' (b := decide ((k156 : Int) < (x154.1.length : Int))) rfl (rngF hlt161) ?_
 refine AW.exit ?_
 iterate 2 refine AW.seq ?_
 refine AW.region ?_
 iterate 2 refine AO.pu T ?_
 refine AO.nil ?_
 refine AW.cond (b := (!x3.2)) rfl (fun hc => ?_) (fun hc => ?_)
 replace hH := condT hc hH
 refine AW.seq (AW.region ?_)
 refine AO.pu T ?_
 refine AO.nil (AW.ret ?_)
 have hR := someE hH; subst hR
 exact retQ.i [] rfl (.c (.c .v))
 replace hH := condF hc hH
 refine AW.skip ?_
 refine AW.seq (AW.region ?_)
 refine AO.pu T ?_
 refine AO.pu T (d := .g [x1.1, .w 0 []]) ?_
 refine AO.step rfl (alloc_ok T rfl 76 rfl rfl rfl rfl rfl) ?_
 refine AO.se T [x1.1, .w 0 []] ?_
 refine AO.nil ?_
 iterate 2 refine AW.seq ?_
 refine AW.region ?_
 refine AO.pu T ?_
 refine AO.val rfl rfl (len_row_ok T rfl rfl rfl rfl) ?_
 refine AO.pu T ?_
 refine AO.nil ?_
 refine AW.block ?_
 refine AW.loopS (fun s : Nat × Int × (List Line) => (⟨[(5, x1.1), (6, .R 1), (9, .p 5 0), (43, .p 76 0), (269, .R 1), (270, (x1.2.length : Int)), (271, (s.1 : Int))], [(1, .row 3 (List.map encEntry x1.2)), (4, .row 3 (List.map encLineO x5.1.lines)), (5, .box [x5.1.best, .R 4]), (76, .box [s.2.1, .R 81]), (81, .row 3 (List.map encLineO s.2.2))], 319, []⟩ : St)) (fun s => s.1 ≤ x1.2.length ∧ laws_FnSeasons_l7 fuel x1 x5 (x1.2.drop s.1) s.1 s.2.1 s.2.2 = some r) (fun s => x1.2.length - s.1) (0, x1.1, []) ⟨Nat.zero_le _, hH⟩ ?_ ?_
 refine Le.trans (Le.voidBox 76 1 81 3 rfl rfl rfl rfl) ?_
 exact Le.ct 0 0
 rintro ⟨k163, v175, v176⟩ ⟨hk, hH⟩
 replace hH : laws_FnSeasons_l7 fuel x1 x5 (x1.2.drop k163) k163 v175 v176 = some r := hH
 try dsimp only
 refine AW.boundR (id := 1) (l := x1.2) rfl (fun hb167 => ?_)
 rcases hd166 : x1.2.drop k163 with _ | ⟨y164, ys165⟩
 rw [hd166, laws_FnSeasons_l7] at hH
 have hlt168 := drop_ge hd166
 refine AW.seq (AW.region ?_)
 refine AO.pu T ?_
 refine AO.nil (AW.seq ?_)
 refine AW.condF' (b := decide ((k163 : Int) < (x1.2.length : Int))) rfl (rngF hlt168) ?_
 refine AW.exit ?_
 refine AW.seq (AW.region ?_)
 refine AO.pu T ?_
 refine AO.nil ?_
 iterate 2 refine AW.seq ?_
 refine AW.region ?_
 refine AO.pu T ?_
 refine AO.val rfl rfl (len_row_ok T rfl rfl rfl rfl) ?_
 refine AO.pu T ?_
 refine AO.nil ?_
 refine AW.block ?_
 refine AW.loopS (fun s : Nat × (List Entry) => (⟨[(5, x1.1), (6, .R 1), (9, .p 5 0), (43, .p 76 0), (48, .R 86), (286, (x1.2.length : Int)), (287, (s.1 : Int))], [(1, .row 3 (List.map encEntry x1.2)), (4, .row 3 (List.map encLineO x5.1.lines)), (5, .box [x5.1.best, .R 4]), (76, .box [v175, .R 81]), (81, .row 3 (List.map encLineO v176)), (86, .row 3 (List.map encEntry s.2))], 319, []⟩ : St)) (fun s => s.1 ≤ x1.2.length ∧ laws_FnSeasons_l8 x1 x5 v175 v176 (x1.2.drop s.1) s.1 s.2 = some r) (fun s => x1.2.length - s.1) (0, []) ⟨Nat.zero_le _, hH⟩ ?_ ?_
 refine Le.trans (Le.void 48 86 3 rfl rfl) ?_
 exact Le.ct 0 0
 rintro ⟨k178, v193⟩ ⟨hk, hH⟩
 replace hH : laws_FnSeasons_l8 x1 x5 v175 v176 (x1.2.drop k178) k178 v193 = some r := hH
 try dsimp only
 refine AW.boundR (id := 1) (l := x1.2) rfl (fun hb182 => ?_)
 rcases hd181 : x1.2.drop k178 with _ | ⟨y179, ys180⟩
 rw [hd181, laws_FnSeasons_l8] at hH
 have hlt183 := drop_ge hd181
 refine AW.seq (AW.region ?_)
 refine AO.pu T ?_
 refine AO.nil (AW.seq ?_)
 refine AW.condF' (b := decide ((k178 : Int) < (x1.2.length : Int))) rfl (rngF hlt183) ?_
 refine AW.exit ?_
 refine AW.seq ?_
 obtain ⟨x195, hx196, hH⟩ := bindE hH
 refine AW.region ?_
 iterate 2 refine AO.pu T ?_
 refine AO.step rfl (callL_ok rfl 87 rfl rfl (es := [x1.1, .s (List.map encEntry v193)]) (by exact ⟨.free rfl, (.rowR rfl (.map fun y => .vs rfl)), trivial⟩) (impl_FreshSeason_ok _ _ _ (hx196)) (zfree_t (zfl (.cons (zfree_g (zfl (.cons (zfree_v _) (.cons (zfree_map (fun y => (.cons (zfree_v _) (.cons (zfree_map (fun y => (.cons (zfree_v _) .nil))) (.cons (zfree_map (fun y => (.cons (zfree_v _) .nil))) .nil))))) .nil)))) (.cons (zfree_v _) .nil)))) rfl rfl rfl) ?_
 refine AO.pu T ?_
 refine AO.pu T (d := .g [x195.1.best, .R 87]) ?_
 refine AO.pu T ?_
 refine AO.step rfl (alloc_ok T rfl 88 rfl rfl rfl rfl rfl) ?_
 refine AO.se T [x195.1.best, .R 87] ?_
 refine AO.pu T ?_
 refine AO.nil (AW.seq ?_)
 obtain ⟨x197, hx198, hH⟩ := bindE hH
 obtain ⟨x199, hx200, hH⟩ := bindE hH
 refine AW.region ?_
 refine AO.pu T (d := .g [v175, .R 81]) ?_
 refine AO.pu T (d := .g [x5.1.best, .R 4]) ?_
 refine AO.val rfl rfl (callLV_ok rfl rfl rfl (es := [.g (encSeason (Season.mk v175 v176)), .g (encSeason (Season.mk x5.1.best x5.1.lines))]) ⟨lend_g (LendL.cons (.free rfl) (LendL.cons ((.rowR rfl (.map fun y => frzLine y))) LendL.nil)), lend_g (LendL.cons (.free rfl) (LendL.cons ((.rowR rfl (.map fun y => frzLine y))) LendL.nil)), trivial⟩ (laws_qSeason_ok _ _ _ (hx198)) (zfree_v _) rfl) ?_
 refine AO.pu T ?_
 refine AO.pureG T [] rfl trivial rfl rfl ?_
 refine AO.val rfl rfl (pick_and rfl rfl rfl rfl) ?_
 refine AO.pu T ?_
 refine AO.pureG T (d := .g [x195.1.best, .R 87]) [] rfl trivial rfl rfl ?_
 refine AO.pureG T (d := .g [x5.1.best, .R 4]) [] rfl trivial rfl rfl ?_
 refine AO.guard [315, 316] rfl ⟨fun h => h, fun h => h, trivial⟩ (fun hg => callLV_ok rfl rfl rfl (es := [.g (encSeason (Season.mk x195.1.best x195.1.lines)), .g (encSeason (Season.mk x5.1.best x5.1.lines))]) ⟨lend_g (LendL.cons (.free rfl) (LendL.cons ((.rowR rfl (.map fun y => frzLine y))) LendL.nil)), lend_g (LendL.cons (.free rfl) (LendL.cons ((.rowR rfl (.map fun y => frzLine y))) LendL.nil)), trivial⟩ (laws_qSeason_ok _ _ _ (optT hx200 hg)) (zfree_v _) rfl) rfl ?_
 refine AO.val rfl rfl (pick_and rfl rfl rfl rfl) ?_
 refine AO.pu T ?_
 refine AO.nil (AW.ret ?_)
 have hR := someE hH; subst hR
 exact retQ.i [] rfl (.c (.c .v))
 rw [hd181, laws_FnSeasons_l8] at hH
 have hlt183 := drop_lt hd181
 refine AW.seq (AW.region ?_)
 refine AO.pu T ?_
 refine AO.nil (AW.seq ?_)
 refine AW.condT' (b := decide ((k178 : Int) < (x1.2.length : Int))) rfl (rngT hlt183) ?_
 refine AW.skip ?_
 refine AW.seq ?_
 refine AW.block ?_
 refine AW.seq (AW.region ?_)
 iterate 2 refine AO.pu T ?_
 refine AO.nil ?_
 obtain ⟨x201, hx202, hH⟩ := bindE hH
 obtain ⟨u203, hx204, hH⟩ := bindE hH
 refine AW.region ?_
 iterate 3 refine AO.pu T ?_
 refine AO.val rfl rfl (len_row_ok T rfl rfl rfl rfl) ?_
 refine AO.val rfl rfl (arw_ok rfl rfl rfl rfl) ?_
 refine AO.pu T ?_
 refine AO.val rfl rfl (arw_ok rfl rfl rfl rfl) ?_
 refine AO.val rfl rfl (ix_row_ok T rfl rfl rfl rfl rfl rfl (hx202)) ?_
 refine AO.val rfl rfl (load_row_ok T rfl rfl rfl rfl (getI_get (hx202)) rfl rfl rfl) ?_
 refine AO.step rfl (mk_map_ok T rfl 89 rfl rfl rfl rfl rfl (f := encEntry) (l := [x201]) rfl rfl (fun _ => rfl) rfl rfl rfl rfl rfl) ?_
 refine AO.step rfl (app_rv_map T rfl 90 rfl rfl rfl rfl rfl (by decide) rfl rfl rfl rfl (fun _ => rfl) (needT (hx204)) rfl rfl) ?_
 refine AO.pu T ?_
 refine AO.nil ?_
 refine AW.region ?_
 refine AO.val rfl rfl (ar_ok rfl rfl rfl rfl (inI_succ hlt183 hb182)) ?_
 refine AO.pu T ?_
 refine AO.nil ?_
 refine ⟨(k178 + 1, (v193 ++ [x201])), ⟨Nat.succ_le_of_lt hlt183, (by rw [drop_succ_of hd181]; exact hH)⟩, (by have := hlt183; dsimp only; omega), ?_⟩
 exact Le.ct 90 86
 rw [hd166, laws_FnSeasons_l7] at hH
 have hlt168 := drop_lt hd166
 refine AW.seq (AW.region ?_)
 refine AO.pu T ?_
 refine AO.nil (AW.seq ?_)
 refine AW.condT' (b := decide ((k163 : Int) < (x1.2.length : Int))) rfl (rngT hlt168) ?_
 refine AW.skip ?_
 refine AW.seq ?_
 refine AW.block ?_
 refine AW.seq (AW.region ?_)
 refine AO.val rfl rfl (ix_row_ok T rfl rfl rfl rfl rfl rfl (getI_drop hd166)) ?_
 refine AO.val rfl rfl (load_row_ok T rfl rfl rfl rfl (getI_get (getI_drop hd166)) rfl rfl rfl) ?_
 refine AO.step rfl (alloc_ok T rfl 91 rfl rfl rfl rfl rfl) ?_
 refine AO.se T [y164.event, y164.skater, y164.points] ?_
 refine AO.nil (AW.seq ?_)
 obtain ⟨x205, hx206, hH⟩ := bindE hH
 refine AW.region ?_
 refine AO.pu T (d := .g [v175, .R 81]) ?_
 refine AO.pu T (d := .g [y164.event, y164.skater, y164.points]) ?_
 refine AO.step rfl (callL_ok rfl 92 rfl rfl (es := [.g (encSeason (Season.mk v175 v176)), .g (encEntry y164)]) (by exact ⟨lend_g (LendL.cons (.free rfl) (LendL.cons ((.rowR rfl (.map fun y => frzLine y))) LendL.nil)), .free rfl, trivial⟩) (impl_AddEntry_ok fuel _ _ _ (hx206)) (zfree_t (zfl (.cons (zfree_g (zfl (.cons (zfree_v _) (.cons (zfree_map (fun y => (.cons (zfree_v _) (.cons (zfree_map (fun y => (.cons (zfree_v _) .nil))) (.cons (zfree_map (fun y => (.cons (zfree_v _) .nil))) .nil))))) .nil)))) (.cons (zfree_v _) .nil)))) rfl rfl rfl) ?_
 refine AO.pu T ?_
 refine AO.pu T (d := .g [x205.1.best, .R 92]) ?_
 refine AO.pu T ?_
 refine AO.step rfl (alloc_ok T rfl 93 rfl rfl rfl rfl rfl) ?_
 refine AO.se T [x205.1.best, .R 92] ?_
 refine AO.pu T ?_
 refine AO.nil ?_
 iterate 2 refine AW.seq ?_
 refine AW.region ?_
 iterate 2 refine AO.pu T ?_
 refine AO.nil ?_
 refine AW.cond (b := (!x205.2)) rfl (fun hc => ?_) (fun hc => ?_)
 replace hH := condT hc hH
 refine AW.seq (AW.region ?_)
 refine AO.pu T ?_
 refine AO.nil (AW.ret ?_)
 have hR := someE hH; subst hR
 exact retQ.i [] rfl (.c (.c .v))
 replace hH := condF hc hH
 refine AW.skip ?_
 refine AW.region ?_
 refine AO.pu T (d := .g [x205.1.best, .R 92]) ?_
 refine AO.se T [x205.1.best, .R 92] ?_
 refine AO.nil ?_
 refine AW.region ?_
 refine AO.val rfl rfl (ar_ok rfl rfl rfl rfl (inI_succ hlt168 hb167)) ?_
 refine AO.pu T ?_
 refine AO.nil ?_
 refine ⟨(k163 + 1, x205.1.best, x205.1.lines), ⟨Nat.succ_le_of_lt hlt168, (by rw [drop_succ_of hd166]; exact hH)⟩, (by have := hlt168; dsimp only; omega), ?_⟩
 exact Le.ct 92 81
 rw [hd159, laws_FnSeasons_l6] at hH
 have hlt161 := drop_lt hd159
 refine AW.seq (AW.region ?_)
 refine AO.pu T ?_
 refine AO.nil (AW.seq ?_)
 refine AW.condT' (b := decide ((k156 : Int) < (x154.1.length : Int))) rfl (rngT hlt161) ?_
 refine AW.skip ?_
 refine AW.seq ?_
 refine AW.block ?_
 refine AW.seq (AW.region ?_)
 refine AO.val rfl rfl (ix_row_ok T rfl rfl rfl rfl rfl rfl (getI_drop hd159)) ?_
 refine AO.val rfl rfl (load_row_ok T rfl rfl rfl rfl (getI_get (getI_drop hd159)) rfl rfl rfl) ?_
 refine AO.step rfl (alloc_ok T rfl 94 rfl rfl rfl rfl rfl) ?_
 refine AO.se T [y157.event, y157.skater, y157.points] ?_
 refine AO.nil (AW.seq ?_)
 refine AW.region ?_
 iterate 4 refine AO.pu T ?_
 refine AO.nil ?_
 refine AW.cond (b := (y157.event == x19.2)) rfl (fun hc => ?_) (fun hc => ?_)
 replace hH := condT hc hH
 refine AW.seq (AW.region ?_)
 refine AO.pu T ?_
 refine AO.nil (AW.ret ?_)
 have hR := someE hH; subst hR
 exact retQ.i [] rfl (.c (.c .v))
 replace hH := condF hc hH
 refine AW.skip ?_
 refine AW.region ?_
 refine AO.val rfl rfl (ar_ok rfl rfl rfl rfl (inI_succ hlt161 hb160)) ?_
 refine AO.pu T ?_
 refine AO.nil ?_
 refine ⟨k156 + 1, ⟨Nat.succ_le_of_lt hlt161, (by rw [drop_succ_of hd159]; exact hH)⟩, (by have := hlt161; dsimp only; omega), ?_⟩
 exact Le.ct 0 0
 replace hH := condF hc hH
 refine AW.skip ?_
 iterate 2 refine AW.seq ?_
 refine AW.region ?_
 iterate 2 refine AO.pu T ?_
 refine AO.nil ?_
 refine AW.cond (b := (!x3.2)) rfl (fun hc => ?_) (fun hc => ?_)
 replace hH := condT hc hH
 refine AW.seq (AW.region ?_)
 refine AO.pu T ?_
 refine AO.nil (AW.ret ?_)
 have hR := someE hH; subst hR
 exact retQ.i [] rfl (.c (.c .v))
 replace hH := condF hc hH
 refine AW.skip ?_
 refine AW.seq (AW.region ?_)
 refine AO.pu T ?_
 refine AO.pu T (d := .g [x1.1, .w 0 []]) ?_
 refine AO.step rfl (alloc_ok T rfl 95 rfl rfl rfl rfl rfl) ?_
 refine AO.se T [x1.1, .w 0 []] ?_
 refine AO.nil ?_
 iterate 2 refine AW.seq ?_
 refine AW.region ?_
 refine AO.pu T ?_
 refine AO.val rfl rfl (len_row_ok T rfl rfl rfl rfl) ?_
 refine AO.pu T ?_
 refine AO.nil ?_
 refine AW.block ?_
 refine AW.loopS (fun s : Nat × Int × (List Line) => (⟨[(5, x1.1), (6, .R 1), (9, .p 5 0), (43, .p 95 0), (269, .R 1), (270, (x1.2.length : Int)), (271, (s.1 : Int))], [(1, .row 3 (List.map encEntry x1.2)), (4, .row 3 (List.map encLineO x5.1.lines)), (5, .box [x5.1.best, .R 4]), (95, .box [s.2.1, .R 100]), (100, .row 3 (List.map encLineO s.2.2))], 319, []⟩ : St)) (fun s => s.1 ≤ x1.2.length ∧ laws_FnSeasons_l9 fuel x1 x5 (x1.2.drop s.1) s.1 s.2.1 s.2.2 = some r) (fun s => x1.2.length - s.1) (0, x1.1, []) ⟨Nat.zero_le _, hH⟩ ?_ ?_
 refine Le.trans (Le.voidBox 95 1 100 3 rfl rfl rfl rfl) ?_
 exact Le.ct 0 0
 rintro ⟨k207, v219, v220⟩ ⟨hk, hH⟩
 replace hH : laws_FnSeasons_l9 fuel x1 x5 (x1.2.drop k207) k207 v219 v220 = some r := hH
 try dsimp only
 refine AW.boundR (id := 1) (l := x1.2) rfl (fun hb211 => ?_)
 rcases hd210 : x1.2.drop k207 with _ | ⟨y208, ys209⟩
 rw [hd210, laws_FnSeasons_l9] at hH
 have hlt212 := drop_ge hd210
 refine AW.seq (AW.region ?_)
 refine AO.pu T ?_
 refine AO.nil (AW.seq ?_)
 refine AW.condF' (b := decide ((k207 : Int) < (x1.2.length : Int))) rfl (rngF hlt212) ?_
 refine AW.exit ?_
 refine AW.seq (AW.region ?_)
 refine AO.pu T ?_
 refine AO.nil ?_
 iterate 2 refine AW.seq ?_
 refine AW.region ?_
 refine AO.pu T ?_
 refine AO.val rfl rfl (len_row_ok T rfl rfl rfl rfl) ?_
 refine AO.pu T ?_
 refine AO.nil ?_
 refine AW.block ?_
 refine AW.loopS (fun s : Nat × (List Entry) => (⟨[(5, x1.1), (6, .R 1), (9, .p 5 0), (43, .p 95 0), (48, .R 105), (286, (x1.2.length : Int)), (287, (s.1 : Int))], [(1, .row 3 (List.map encEntry x1.2)), (4, .row 3 (List.map encLineO x5.1.lines)), (5, .box [x5.1.best, .R 4]), (95, .box [v219, .R 100]), (100, .row 3 (List.map encLineO v220)), (105, .row 3 (List.map encEntry s.2))], 319, []⟩ : St)) (fun s => s.1 ≤ x1.2.length ∧ laws_FnSeasons_l10 x1 x5 v219 v220 (x1.2.drop s.1) s.1 s.2 = some r) (fun s => x1.2.length - s.1) (0, []) ⟨Nat.zero_le _, hH⟩ ?_ ?_
 refine Le.trans (Le.void 48 105 3 rfl rfl) ?_
 exact Le.ct 0 0
 rintro ⟨k222, v237⟩ ⟨hk, hH⟩
 replace hH : laws_FnSeasons_l10 x1 x5 v219 v220 (x1.2.drop k222) k222 v237 = some r := hH
 try dsimp only
 refine AW.boundR (id := 1) (l := x1.2) rfl (fun hb226 => ?_)
 rcases hd225 : x1.2.drop k222 with _ | ⟨y223, ys224⟩
 rw [hd225, laws_FnSeasons_l10] at hH
 have hlt227 := drop_ge hd225
 refine AW.seq (AW.region ?_)
 refine AO.pu T ?_
 refine AO.nil (AW.seq ?_)
 refine AW.condF' (b := decide ((k222 : Int) < (x1.2.length : Int))) rfl (rngF hlt227) ?_
 refine AW.exit ?_
 refine AW.seq ?_
 obtain ⟨x239, hx240, hH⟩ := bindE hH
 refine AW.region ?_
 iterate 2 refine AO.pu T ?_
 refine AO.step rfl (callL_ok rfl 106 rfl rfl (es := [x1.1, .s (List.map encEntry v237)]) (by exact ⟨.free rfl, (.rowR rfl (.map fun y => .vs rfl)), trivial⟩) (impl_FreshSeason_ok _ _ _ (hx240)) (zfree_t (zfl (.cons (zfree_g (zfl (.cons (zfree_v _) (.cons (zfree_map (fun y => (.cons (zfree_v _) (.cons (zfree_map (fun y => (.cons (zfree_v _) .nil))) (.cons (zfree_map (fun y => (.cons (zfree_v _) .nil))) .nil))))) .nil)))) (.cons (zfree_v _) .nil)))) rfl rfl rfl) ?_
 refine AO.pu T ?_
 refine AO.pu T (d := .g [x239.1.best, .R 106]) ?_
 refine AO.pu T ?_
 refine AO.step rfl (alloc_ok T rfl 107 rfl rfl rfl rfl rfl) ?_
 refine AO.se T [x239.1.best, .R 106] ?_
 refine AO.pu T ?_
 refine AO.nil (AW.seq ?_)
 obtain ⟨x241, hx242, hH⟩ := bindE hH
 obtain ⟨x243, hx244, hH⟩ := bindE hH
 refine AW.region ?_
 refine AO.pu T (d := .g [v219, .R 100]) ?_
 refine AO.pu T (d := .g [x5.1.best, .R 4]) ?_
 refine AO.val rfl rfl (callLV_ok rfl rfl rfl (es := [.g (encSeason (Season.mk v219 v220)), .g (encSeason (Season.mk x5.1.best x5.1.lines))]) ⟨lend_g (LendL.cons (.free rfl) (LendL.cons ((.rowR rfl (.map fun y => frzLine y))) LendL.nil)), lend_g (LendL.cons (.free rfl) (LendL.cons ((.rowR rfl (.map fun y => frzLine y))) LendL.nil)), trivial⟩ (laws_qSeason_ok _ _ _ (hx242)) (zfree_v _) rfl) ?_
 refine AO.pu T ?_
 refine AO.pureG T [] rfl trivial rfl rfl ?_
 refine AO.val rfl rfl (pick_and rfl rfl rfl rfl) ?_
 refine AO.pu T ?_
 refine AO.pureG T (d := .g [x239.1.best, .R 106]) [] rfl trivial rfl rfl ?_
 refine AO.pureG T (d := .g [x5.1.best, .R 4]) [] rfl trivial rfl rfl ?_
 refine AO.guard [315, 316] rfl ⟨fun h => h, fun h => h, trivial⟩ (fun hg => callLV_ok rfl rfl rfl (es := [.g (encSeason (Season.mk x239.1.best x239.1.lines)), .g (encSeason (Season.mk x5.1.best x5.1.lines))]) ⟨lend_g (LendL.cons (.free rfl) (LendL.cons ((.rowR rfl (.map fun y => frzLine y))) LendL.nil)), lend_g (LendL.cons (.free rfl) (LendL.cons ((.rowR rfl (.map fun y => frzLine y))) LendL.nil)), trivial⟩ (laws_qSeason_ok _ _ _ (optT hx244 hg)) (zfree_v _) rfl) rfl ?_
 refine AO.val rfl rfl (pick_and rfl rfl rfl rfl) ?_
 refine AO.pu T ?_
 refine AO.nil (AW.ret ?_)
 have hR := someE hH; subst hR
 exact retQ.i [] rfl (.c (.c .v))
 rw [hd225, laws_FnSeasons_l10] at hH
 have hlt227 := drop_lt hd225
 refine AW.seq (AW.region ?_)
 refine AO.pu T ?_
 refine AO.nil (AW.seq ?_)
 refine AW.condT' (b := decide ((k222 : Int) < (x1.2.length : Int))) rfl (rngT hlt227) ?_
 refine AW.skip ?_
 refine AW.seq ?_
 refine AW.block ?_
 refine AW.seq (AW.region ?_)
 iterate 2 refine AO.pu T ?_
 refine AO.nil ?_
 obtain ⟨x245, hx246, hH⟩ := bindE hH
 obtain ⟨u247, hx248, hH⟩ := bindE hH
 refine AW.region ?_
 iterate 3 refine AO.pu T ?_
 refine AO.val rfl rfl (len_row_ok T rfl rfl rfl rfl) ?_
 refine AO.val rfl rfl (arw_ok rfl rfl rfl rfl) ?_
 refine AO.pu T ?_
 refine AO.val rfl rfl (arw_ok rfl rfl rfl rfl) ?_
 refine AO.val rfl rfl (ix_row_ok T rfl rfl rfl rfl rfl rfl (hx246)) ?_
 refine AO.val rfl rfl (load_row_ok T rfl rfl rfl rfl (getI_get (hx246)) rfl rfl rfl) ?_
 refine AO.step rfl (mk_map_ok T rfl 108 rfl rfl rfl rfl rfl (f := encEntry) (l := [x245]) rfl rfl (fun _ => rfl) rfl rfl rfl rfl rfl) ?_
 refine AO.step rfl (app_rv_map T rfl 109 rfl rfl rfl rfl rfl (by decide) rfl rfl rfl rfl (fun _ => rfl) (needT (hx248)) rfl rfl) ?_
 refine AO.pu T ?_
 refine AO.nil ?_
 refine AW.region ?_
 refine AO.val rfl rfl (ar_ok rfl rfl rfl rfl (inI_succ hlt227 hb226)) ?_
 refine AO.pu T ?_
 refine AO.nil ?_
 refine ⟨(k222 + 1, (v237 ++ [x245])), ⟨Nat.succ_le_of_lt hlt227, (by rw [drop_succ_of hd225]; exact hH)⟩, (by have := hlt227; dsimp only; omega), ?_⟩
 exact Le.ct 109 105
 rw [hd210, laws_FnSeasons_l9] at hH
 have hlt212 := drop_lt hd210
 refine AW.seq (AW.region ?_)
 refine AO.pu T ?_
 refine AO.nil (AW.seq ?_)
 refine AW.condT' (b := decide ((k207 : Int) < (x1.2.length : Int))) rfl (rngT hlt212) ?_
 refine AW.skip ?_
 refine AW.seq ?_
 refine AW.block ?_
 refine AW.seq (AW.region ?_)
 refine AO.val rfl rfl (ix_row_ok T rfl rfl rfl rfl rfl rfl (getI_drop hd210)) ?_
 refine AO.val rfl rfl (load_row_ok T rfl rfl rfl rfl (getI_get (getI_drop hd210)) rfl rfl rfl) ?_
 refine AO.step rfl (alloc_ok T rfl 110 rfl rfl rfl rfl rfl) ?_
 refine AO.se T [y208.event, y208.skater, y208.points] ?_
 refine AO.nil (AW.seq ?_)
 obtain ⟨x249, hx250, hH⟩ := bindE hH
 refine AW.region ?_
 refine AO.pu T (d := .g [v219, .R 100]) ?_
 refine AO.pu T (d := .g [y208.event, y208.skater, y208.points]) ?_
 refine AO.step rfl (callL_ok rfl 111 rfl rfl (es := [.g (encSeason (Season.mk v219 v220)), .g (encEntry y208)]) (by exact ⟨lend_g (LendL.cons (.free rfl) (LendL.cons ((.rowR rfl (.map fun y => frzLine y))) LendL.nil)), .free rfl, trivial⟩) (impl_AddEntry_ok fuel _ _ _ (hx250)) (zfree_t (zfl (.cons (zfree_g (zfl (.cons (zfree_v _) (.cons (zfree_map (fun y => (.cons (zfree_v _) (.cons (zfree_map (fun y => (.cons (zfree_v _) .nil))) (.cons (zfree_map (fun y => (.cons (zfree_v _) .nil))) .nil))))) .nil)))) (.cons (zfree_v _) .nil)))) rfl rfl rfl) ?_
 refine AO.pu T ?_
 refine AO.pu T (d := .g [x249.1.best, .R 111]) ?_
 refine AO.pu T ?_
 refine AO.step rfl (alloc_ok T rfl 112 rfl rfl rfl rfl rfl) ?_
 refine AO.se T [x249.1.best, .R 111] ?_
 refine AO.pu T ?_
 refine AO.nil ?_
 iterate 2 refine AW.seq ?_
 refine AW.region ?_
 iterate 2 refine AO.pu T ?_
 refine AO.nil ?_
 refine AW.cond (b := (!x249.2)) rfl (fun hc => ?_) (fun hc => ?_)
 replace hH := condT hc hH
 refine AW.seq (AW.region ?_)
 refine AO.pu T ?_
 refine AO.nil (AW.ret ?_)
 have hR := someE hH; subst hR
 exact retQ.i [] rfl (.c (.c .v))
 replace hH := condF hc hH
 refine AW.skip ?_
 refine AW.region ?_
 refine AO.pu T (d := .g [x249.1.best, .R 111]) ?_
 refine AO.se T [x249.1.best, .R 111] ?_
 refine AO.nil ?_
 refine AW.region ?_
 refine AO.val rfl rfl (ar_ok rfl rfl rfl rfl (inI_succ hlt212 hb211)) ?_
 refine AO.pu T ?_
 refine AO.nil ?_
 refine ⟨(k207 + 1, x249.1.best, x249.1.lines), ⟨Nat.succ_le_of_lt hlt212, (by rw [drop_succ_of hd210]; exact hH)⟩, (by have := hlt212; dsimp only; omega), ?_⟩
 exact Le.ct 111 100
 replace hH := condF hc hH
 refine AW.skip ?_
 iterate 2 refine AW.seq ?_
 refine AW.region ?_
 refine AO.pu T ?_
 refine AO.nil ?_
 refine AW.cond (b := x27.2) rfl (fun hc => ?_) (fun hc => ?_)
 replace hH := condT hc hH
 refine AW.seq ?_
 obtain ⟨x251, hx252, hH⟩ := bindE hH
 refine AW.region ?_
 iterate 3 refine AO.pu T ?_
 refine AO.step rfl (callL_ok rfl 113 rfl rfl (es := [x25.best, .s (List.map encEntry x27.1)]) (by exact ⟨.free rfl, (.rowR rfl (.map fun y => .vs rfl)), trivial⟩) (impl_FreshSeason_ok _ _ _ (hx252)) (zfree_t (zfl (.cons (zfree_g (zfl (.cons (zfree_v _) (.cons (zfree_map (fun y => (.cons (zfree_v _) (.cons (zfree_map (fun y => (.cons (zfree_v _) .nil))) (.cons (zfree_map (fun y => (.cons (zfree_v _) .nil))) .nil))))) .nil)))) (.cons (zfree_v _) .nil)))) rfl rfl rfl) ?_
 refine AO.pu T ?_
 refine AO.pu T (d := .g [x251.1.best, .R 113]) ?_
 refine AO.pu T ?_
 refine AO.step rfl (alloc_ok T rfl 114 rfl rfl rfl rfl rfl) ?_
 refine AO.se T [x251.1.best, .R 113] ?_
 refine AO.pu T ?_
 refine AO.nil (AW.seq ?_)
 obtain ⟨x253, hx254, hH⟩ := bindE hH
 refine AW.region ?_
 iterate 3 refine AO.pu T ?_
 refine AO.pureG T (d := .g [x251.1.best, .R 113]) [] rfl trivial rfl rfl ?_
 refine AO.pureG T (d := .g [x25.best, .R 25]) [] rfl trivial rfl rfl ?_
 refine AO.guard [241, 242] rfl ⟨fun h => h, fun h => h, trivial⟩ (fun hg => callLV_ok rfl rfl rfl (es := [.g (encSeason (Season.mk x251.1.best x251.1.lines)), .g (encSeason x25)]) ⟨lend_g (LendL.cons (.free rfl) (LendL.cons ((.rowR rfl (.map fun y => frzLine y))) LendL.nil)), lend_g (LendL.cons (.free rfl) (LendL.cons ((.rowR rfl (.map fun y => frzLine y))) LendL.nil)), trivial⟩ (laws_qSeason_ok _ _ _ (optT hx254 hg)) (zfree_v _) rfl) rfl ?_
 refine AO.pureG T [243] rfl ⟨fun h => h, trivial⟩ rfl rfl ?_
 refine AO.val rfl rfl (pick_or rfl rfl rfl rfl) ?_
 refine AO.nil ?_
 refine AW.cond (b := ((!x251.2) || (!x253))) rfl (fun hc => ?_) (fun hc => ?_)
 replace hH := condT hc hH
 refine AW.seq (AW.region ?_)
 refine AO.pu T ?_
 refine AO.nil (AW.ret ?_)
 have hR := someE hH; subst hR
 exact retQ.i [] rfl (.c (.c .v))
 replace hH := condF hc hH
 refine AW.skip ?_
 iterate 2 refine AW.seq ?_
 refine AW.region ?_
 refine AO.pu T ?_
 refine AO.nil ?_
 refine AW.cond (b := x21.2) rfl (fun hc => ?_) (fun hc => ?_)
 replace hH := condT hc hH
 refine AW.seq ?_
 obtain ⟨x255, hx256, hH⟩ := bindE hH
 refine AW.region ?_
 refine AO.pu T (d := .g [x21.1.best, .R 21]) ?_
 refine AO.step rfl (callL_ok rfl 115 rfl rfl (es := [.g (encSeason (Season.mk x21.1.best x21.1.lines))]) (by exact ⟨lend_g (LendL.cons (.free rfl) (LendL.cons ((.rowR rfl (.map fun y => frzLine y))) LendL.nil)), trivial⟩) (impl_EntriesOf_ok fuel _ _ (hx256)) (zfree_t (zfl (.cons (zfree_map (fun y => (.cons (zfree_v _) (.cons (zfree_v _) (.cons (zfree_v _) .nil))))) (.cons (zfree_v _) .nil)))) rfl rfl rfl) ?_
 iterate 5 refine AO.pu T ?_
 refine AO.nil ?_
 refine AW.le (Le.ct 0 0 (σ' := (⟨[(5, x1.1), (6, .R 1), (8, .v (.bool x3.2)), (9, .p 5 0), (25, x19.2), (39, .R 115), (40, .v (.bool x255.2))], [(1, .row 3 (List.map encEntry x1.2)), (4, .row 3 (List.map encLineO x5.1.lines)), (5, .box [x5.1.best, .R 4]), (115, .row 3 (List.map encEntry x255.1))], 319, []⟩ : St))) ?_
 iterate 2 refine AW.seq ?_
 refine AW.region ?_
 iterate 2 refine AO.pu T ?_
 refine AO.nil ?_
 refine AW.cond (b := (!x255.2)) rfl (fun hc => ?_) (fun hc => ?_)
 replace hH := condT hc hH
 refine AW.seq (AW.region ?_)
 refine AO.pu T ?_
 refine AO.nil (AW.ret ?_)
 have hR := someE hH; subst hR
 exact retQ.i [] rfl (.c (.c .v))
 replace hH := condF hc hH
 refine AW.skip ?_
 refine AW.seq (AW.region ?_)
 refine AO.pu T ?_
 refine AO.val rfl rfl (len_row_ok T rfl rfl rfl rfl) ?_
 refine AO.pu T ?_
 refine AO.nil ?_
 refine AW.block ?_
 refine AW.loopS (fun s : Nat => (⟨[(5, x1.1), (6, .R 1), (8, .v (.bool x3.2)), (9, .p 5 0), (25, x19.2), (254, .R 115), (255, (x255.1.length : Int)), (256, (s : Int))], [(1, .row 3 (List.map encEntry x1.2)), (4, .row 3 (List.map encLineO x5.1.lines)), (5, .box [x5.1.best, .R 4]), (115, .row 3 (List.map encEntry x255.1))], 319, []⟩ : St)) (fun s => s ≤ x255.1.length ∧ laws_FnSeasons_l11 fuel x1 x3 x5 x19 (x255.1.drop s) s = some r) (fun s => x255.1.length - s) 0 ⟨Nat.zero_le _, hH⟩ ?_ ?_
 exact Le.ct 0 0
 rintro k257 ⟨hk, hH⟩
 replace hH : laws_FnSeasons_l11 fuel x1 x3 x5 x19 (x255.1.drop k257) k257 = some r := hH
 try dsimp only
 refine AW.boundR (id := 115) (l := x255.1) rfl (fun hb261 => ?_)
 rcases hd260 : x255.1.drop k257 with _ | ⟨y258, ys259⟩
 rw [hd260, laws_FnSeasons_l11] at hH
 have hlt262 := drop_ge hd260
 refine AW.seq (AW.region ?_)
 refine AO.pu T ?_
 refine AO.nil (AW.seq ?_)
 refine AW.condF' (b := decide ((k257 : Int) < (x255.1.length : Int))) rfl (rngF hlt262) ?_
 refine AW.exit ?_
 iterate 2 refine AW.seq ?_
 refine AW.region ?_
 iterate 2 refine AO.pu T ?_
 refine AO.nil ?_
 refine AW.cond (b := (!x3.2)) rfl (fun hc => ?_) (fun hc => ?_)
 replace hH := condT hc hH
 refine AW.seq (AW.region ?_)
 refine AO.pu T ?_
 refine AO.nil (AW.ret ?_)
 have hR := someE hH; subst hR
 exact retQ.i [] rfl (.c (.c .v))
 replace hH := condF hc hH
 refine AW.skip ?_
 refine AW.seq (AW.region ?_)
 refine AO.pu T ?_
 refine AO.pu T (d := .g [x1.1, .w 0 []]) ?_
 refine AO.step rfl (alloc_ok T rfl 118 rfl rfl rfl rfl rfl) ?_
 refine AO.se T [x1.1, .w 0 []] ?_
 refine AO.nil ?_
 iterate 2 refine AW.seq ?_
 refine AW.region ?_
 refine AO.pu T ?_
 refine AO.val rfl rfl (len_row_ok T rfl rfl rfl rfl) ?_
 refine AO.pu T ?_
 refine AO.nil ?_
 refine AW.block ?_
 refine AW.loopS (fun s : Nat × Int × (List Line) => (⟨[(5, x1.1), (6, .R 1), (9, .p 5 0), (43, .p 118 0), (269, .R 1), (270, (x1.2.length : Int)), (271, (s.1 : Int))], [(1, .row 3 (List.map encEntry x1.2)), (4, .row 3 (List.map encLineO x5.1.lines)), (5, .box [x5.1.best, .R 4]), (118, .box [s.2.1, .R 123]), (123, .row 3 (List.map encLineO s.2.2))], 319, []⟩ : St)) (fun s => s.1 ≤ x1.2.length ∧ laws_FnSeasons_l12 fuel x1 x5 (x1.2.drop s.1) s.1 s.2.1 s.2.2 = some r) (fun s => x1.2.length - s.1) (0, x1.1, []) ⟨Nat.zero_le _, hH⟩ ?_ ?_
 refine Le.trans (Le.voidBox 118 1 123 3 rfl rfl rfl rfl) ?_
 exact Le.ct 0 0
 rintro ⟨k264, v276, v277⟩ ⟨hk, hH⟩
 replace hH : laws_FnSeasons_l12 fuel x1 x5 (x1.2.drop k264) k264 v276 v277 = some r := hH
 try dsimp only
 refine AW.boundR (id := 1) (l := x1.2) rfl (fun hb268 => ?_)
 rcases hd267 : x1.2.drop k264 with _ | ⟨y265, ys266⟩
 rw [hd267, laws_FnSeasons_l12] at hH
 have hlt269 := drop_ge hd267
 refine AW.seq (AW.region ?_)
 refine AO.pu T ?_
 refine AO.nil (AW.seq ?_)
 refine AW.condF' (b := decide ((k264 : Int) < (x1.2.length : Int))) rfl (rngF hlt269) ?_
 refine AW.exit ?_
 refine AW.seq (AW.region ?_)
 refine AO.pu T ?_
 refine AO.nil ?_
 iterate 2 refine AW.seq ?_
 refine AW.region ?_
 refine AO.pu T ?_
 refine AO.val rfl rfl (len_row_ok T rfl rfl rfl rfl) ?_
 refine AO.pu T ?_
 refine AO.nil ?_
 refine AW.block ?_
 refine AW.loopS (fun s : Nat × (List Entry) => (⟨[(5, x1.1), (6, .R 1), (9, .p 5 0), (43, .p 118 0), (48, .R 128), (286, (x1.2.length : Int)), (287, (s.1 : Int))], [(1, .row 3 (List.map encEntry x1.2)), (4, .row 3 (List.map encLineO x5.1.lines)), (5, .box [x5.1.best, .R 4]), (118, .box [v276, .R 123]), (123, .row 3 (List.map encLineO v277)), (128, .row 3 (List.map encEntry s.2))], 319, []⟩ : St)) (fun s => s.1 ≤ x1.2.length ∧ laws_FnSeasons_l13 x1 x5 v276 v277 (x1.2.drop s.1) s.1 s.2 = some r) (fun s => x1.2.length - s.1) (0, []) ⟨Nat.zero_le _, hH⟩ ?_ ?_
 refine Le.trans (Le.void 48 128 3 rfl rfl) ?_
 exact Le.ct 0 0
 rintro ⟨k279, v294⟩ ⟨hk, hH⟩
 replace hH : laws_FnSeasons_l13 x1 x5 v276 v277 (x1.2.drop k279) k279 v294 = some r := hH
 try dsimp only
 refine AW.boundR (id := 1) (l := x1.2) rfl (fun hb283 => ?_)
 rcases hd282 : x1.2.drop k279 with _ | ⟨y280, ys281⟩
 rw [hd282, laws_FnSeasons_l13] at hH
 have hlt284 := drop_ge hd282
 refine AW.seq (AW.region ?_)
 refine AO.pu T ?_
 refine AO.nil (AW.seq ?_)
 refine AW.condF' (b := decide ((k279 : Int) < (x1.2.length : Int))) rfl (rngF hlt284) ?_
 refine AW.exit ?_
 refine AW.seq ?_
 obtain ⟨x296, hx297, hH⟩ := bindE hH
 refine AW.region ?_
 iterate 2 refine AO.pu T ?_
 refine AO.step rfl (callL_ok rfl 129 rfl rfl (es := [x1.1, .s (List.map encEntry v294)]) (by exact ⟨.free rfl, (.rowR rfl (.map fun y => .vs rfl)), trivial⟩) (impl_FreshSeason_ok _ _ _ (hx297)) (zfree_t (zfl (.cons (zfree_g (zfl (.cons (zfree_v _) (.cons (zfree_map (fun y => (.cons (zfree_v _) (.cons (zfree_map (fun y => (.cons (zfree_v _) .nil))) (.cons (zfree_map (fun y => (.cons (zfree_v _) .nil))) .nil))))) .nil)))) (.cons (zfree_v _) .nil)))) rfl rfl rfl) ?_
 refine AO.pu T ?_
 refine AO.pu T (d := .g [x296.1.best, .R 129]) ?_
 refine AO.pu T ?_
 refine AO.step rfl (alloc_ok T rfl 130 rfl rfl rfl rfl rfl) ?_
 refine AO.se T [x296.1.best, .R 129] ?_
 refine AO.pu T ?_
 refine AO.nil (AW.seq ?_)
 obtain ⟨x298, hx299, hH⟩ := bindE hH
 obtain ⟨x300, hx301, hH⟩ := bindE hH
 refine AW.region ?_
 refine AO.pu T (d := .g [v276, .R 123]) ?_
 refine AO.pu T (d := .g [x5.1.best, .R 4]) ?_
 refine AO.val rfl rfl (callLV_ok rfl rfl rfl (es := [.g (encSeason (Season.mk v276 v277)), .g (encSeason (Season.mk x5.1.best x5.1.lines))]) ⟨lend_g (LendL.cons (.free rfl) (LendL.cons ((.rowR rfl (.map fun y => frzLine y))) LendL.nil)), lend_g (LendL.cons (.free rfl) (LendL.cons ((.rowR rfl (.map fun y => frzLine y))) LendL.nil)), trivial⟩ (laws_qSeason_ok _ _ _ (hx299)) (zfree_v _) rfl) ?_
 refine AO.pu T ?_
 refine AO.pureG T [] rfl trivial rfl rfl ?_
 refine AO.val rfl rfl (pick_and rfl rfl rfl rfl) ?_
 refine AO.pu T ?_
 refine AO.pureG T (d := .g [x296.1.best, .R 129]) [] rfl trivial rfl rfl ?_
 refine AO.pureG T (d := .g [x5.1.best, .R 4]) [] rfl trivial rfl rfl ?_
 refine AO.guard [315, 316] rfl ⟨fun h => h, fun h => h, trivial⟩ (fun hg => callLV_ok rfl rfl rfl (es := [.g (encSeason (Season.mk x296.1.best x296.1.lines)), .g (encSeason (Season.mk x5.1.best x5.1.lines))]) ⟨lend_g (LendL.cons (.free rfl) (LendL.cons ((.rowR rfl (.map fun y => frzLine y))) LendL.nil)), lend_g (LendL.cons (.free rfl) (LendL.cons ((.rowR rfl (.map fun y => frzLine y))) LendL.nil)), trivial⟩ (laws_qSeason_ok _ _ _ (optT hx301 hg)) (zfree_v _) rfl) rfl ?_
 refine AO.val rfl rfl (pick_and rfl rfl rfl rfl) ?_
 refine AO.pu T ?_
 refine AO.nil (AW.ret ?_)
 have hR := someE hH; subst hR
 exact retQ.i [] rfl (.c (.c .v))
 rw [hd282, laws_FnSeasons_l13] at hH
 have hlt284 := drop_lt hd282
 refine AW.seq (AW.region ?_)
 refine AO.pu T ?_
 refine AO.nil (AW.seq ?_)
 refine AW.condT' (b := decide ((k279 : Int) < (x1.2.length : Int))) rfl (rngT hlt284) ?_
 refine AW.skip ?_
 refine AW.seq ?_
 refine AW.block ?_
 refine AW.seq (AW.region ?_)
 iterate 2 refine AO.pu T ?_
 refine AO.nil ?_
 obtain ⟨x302, hx303, hH⟩ := bindE hH
 obtain ⟨u304, hx305, hH⟩ := bindE hH
 refine AW.region ?_
 iterate 3 refine AO.pu T ?_
 refine AO.val rfl rfl (len_row_ok T rfl rfl rfl rfl) ?_
 refine AO.val rfl rfl (arw_ok rfl rfl rfl rfl) ?_
 refine AO.pu T ?_
 refine AO.val rfl rfl (arw_ok rfl rfl rfl rfl) ?_
 refine AO.val rfl rfl (ix_row_ok T rfl rfl rfl rfl rfl rfl (hx303)) ?_
 refine AO.val rfl rfl (load_row_ok T rfl rfl rfl rfl (getI_get (hx303)) rfl rfl rfl) ?_
 refine AO.step rfl (mk_map_ok T rfl 131 rfl rfl rfl rfl rfl (f := encEntry) (l := [x302]) rfl rfl (fun _ => rfl) rfl rfl rfl rfl rfl) ?_
 refine AO.step rfl (app_rv_map T rfl 132 rfl rfl rfl rfl rfl (by decide) rfl rfl rfl rfl (fun _ => rfl) (needT (hx305)) rfl rfl) ?_
 refine AO.pu T ?_
 refine AO.nil ?_
 refine AW.region ?_
 refine AO.val rfl rfl (ar_ok rfl rfl rfl rfl (inI_succ hlt284 hb283)) ?_
 refine AO.pu T ?_
 refine AO.nil ?_
 refine ⟨(k279 + 1, (v294 ++ [x302])), ⟨Nat.succ_le_of_lt hlt284, (by rw [drop_succ_of hd282]; exact hH)⟩, (by have := hlt284; dsimp only; omega), ?_⟩
 exact Le.ct 132 128
 rw [hd267, laws_FnSeasons_l12] at hH
 have hlt269 := drop_lt hd267
 refine AW.seq (AW.region ?_)
 refine AO.pu T ?_
 refine AO.nil (AW.seq ?_)
 refine AW.condT' (b := decide ((k264 : Int) < (x1.2.length : Int))) rfl (rngT hlt269) ?_
 refine AW.skip ?_
 refine AW.seq ?_
 refine AW.block ?_
 refine AW.seq (AW.region ?_)
 refine AO.val rfl rfl (ix_row_ok T rfl rfl rfl rfl rfl rfl (getI_drop hd267)) ?_
 refine AO.val rfl rfl (load_row_ok T rfl rfl rfl rfl (getI_get (getI_drop hd267)) rfl rfl rfl) ?_
 refine AO.step rfl (alloc_ok T rfl 133 rfl rfl rfl rfl rfl) ?_
 refine AO.se T [y265.event, y265.skater, y265.points] ?_
 refine AO.nil (AW.seq ?_)
 obtain ⟨x306, hx307, hH⟩ := bindE hH
 refine AW.region ?_
 refine AO.pu T (d := .g [v276, .R 123]) ?_
 refine AO.pu T (d := .g [y265.event, y265.skater, y265.points]) ?_
 refine AO.step rfl (callL_ok rfl 134 rfl rfl (es := [.g (encSeason (Season.mk v276 v277)), .g (encEntry y265)]) (by exact ⟨lend_g (LendL.cons (.free rfl) (LendL.cons ((.rowR rfl (.map fun y => frzLine y))) LendL.nil)), .free rfl, trivial⟩) (impl_AddEntry_ok fuel _ _ _ (hx307)) (zfree_t (zfl (.cons (zfree_g (zfl (.cons (zfree_v _) (.cons (zfree_map (fun y => (.cons (zfree_v _) (.cons (zfree_map (fun y => (.cons (zfree_v _) .nil))) (.cons (zfree_map (fun y => (.cons (zfree_v _) .nil))) .nil))))) .nil)))) (.cons (zfree_v _) .nil)))) rfl rfl rfl) ?_
 refine AO.pu T ?_
 refine AO.pu T (d := .g [x306.1.best, .R 134]) ?_
 refine AO.pu T ?_
 refine AO.step rfl (alloc_ok T rfl 135 rfl rfl rfl rfl rfl) ?_
 refine AO.se T [x306.1.best, .R 134] ?_
 refine AO.pu T ?_
 refine AO.nil ?_
 iterate 2 refine AW.seq ?_
 refine AW.region ?_
 iterate 2 refine AO.pu T ?_
 refine AO.nil ?_
 refine AW.cond (b := (!x306.2)) rfl (fun hc => ?_) (fun hc => ?_)
 replace hH := condT hc hH
 refine AW.seq (AW.region ?_)
 refine AO.pu T ?_
 refine AO.nil (AW.ret ?_)
 have hR := someE hH; subst hR
 exact retQ.i [] rfl (.c (.c .v))
 replace hH := condF hc hH
 refine AW.skip ?_
 refine AW.region ?_
 refine AO.pu T (d := .g [x306.1.best, .R 134]) ?_
 refine AO.se T [x306.1.best, .R 134] ?_
 refine AO.nil ?_
 refine AW.region ?_
 refine AO.val rfl rfl (ar_ok rfl rfl rfl rfl (inI_succ hlt269 hb268)) ?_
 refine AO.pu T ?_
 refine AO.nil ?_
 refine ⟨(k264 + 1, x306.1.best, x306.1.lines), ⟨Nat.succ_le_of_lt hlt269, (by rw [drop_succ_of hd267]; exact hH)⟩, (by have := hlt269; dsimp only; omega), ?_⟩
 exact Le.ct 134 123
 rw [hd260, laws_FnSeasons_l11] at hH
 have hlt262 := drop_lt hd260
 refine AW.seq (AW.region ?_)
 refine AO.pu T ?_
 refine AO.nil (AW.seq ?_)
 refine AW.condT' (b := decide ((k257 : Int) < (x255.1.length : Int))) rfl (rngT hlt262) ?_
 refine AW.skip ?_
 refine AW.seq ?_
 refine AW.block ?_
 refine AW.seq (AW.region ?_)
 refine AO.val rfl rfl (ix_row_ok T rfl rfl rfl rfl rfl rfl (getI_drop hd260)) ?_
 refine AO.val rfl rfl (load_row_ok T rfl rfl rfl rfl (getI_get (getI_drop hd260)) rfl rfl rfl) ?_
 refine AO.step rfl (alloc_ok T rfl 136 rfl rfl rfl rfl rfl) ?_
 refine AO.se T [y258.event, y258.skater, y258.points] ?_
 refine AO.nil (AW.seq ?_)
 refine AW.region ?_
 iterate 4 refine AO.pu T ?_
 refine AO.nil ?_
 refine AW.cond (b := (y258.event == x19.2)) rfl (fun hc => ?_) (fun hc => ?_)
 replace hH := condT hc hH
 refine AW.seq (AW.region ?_)
 refine AO.pu T ?_
 refine AO.nil (AW.ret ?_)
 have hR := someE hH; subst hR
 exact retQ.i [] rfl (.c (.c .v))
 replace hH := condF hc hH
 refine AW.skip ?_
 refine AW.region ?_
 refine AO.val rfl rfl (ar_ok rfl rfl rfl rfl (inI_succ hlt262 hb261)) ?_
 refine AO.pu T ?_
 refine AO.nil ?_
 refine ⟨k257 + 1, ⟨Nat.succ_le_of_lt hlt262, (by rw [drop_succ_of hd260]; exact hH)⟩, (by have := hlt262; dsimp only; omega), ?_⟩
 exact Le.ct 0 0
 replace hH := condF hc hH
 refine AW.skip ?_
 iterate 2 refine AW.seq ?_
 refine AW.region ?_
 iterate 2 refine AO.pu T ?_
 refine AO.nil ?_
 refine AW.cond (b := (!x3.2)) rfl (fun hc => ?_) (fun hc => ?_)
 replace hH := condT hc hH
 refine AW.seq (AW.region ?_)
 refine AO.pu T ?_
 refine AO.nil ?_
 refine AW.le (Le.ct 0 0 (σ' := (⟨[(4, .v (.bool true))], [], 319, []⟩ : St))) ?_
 refine AW.ret ?_
 have hR := someE hH; subst hR
 exact retQ.i [] rfl (.c (.c .v))
 replace hH := condF hc hH
 refine AW.skip ?_
 refine AW.seq (AW.region ?_)
 refine AO.pu T ?_
 refine AO.pu T (d := .g [x1.1, .w 0 []]) ?_
 refine AO.step rfl (alloc_ok T rfl 137 rfl rfl rfl rfl rfl) ?_
 refine AO.se T [x1.1, .w 0 []] ?_
 refine AO.nil ?_
 refine AW.le (Le.ct 0 0 (σ' := (⟨[(5, x1.1), (6, .R 1), (9, .p 5 0), (43, .p 137 0)], [(1, .row 3 (List.map encEntry x1.2)), (4, .row 3 (List.map encLineO x5.1.lines)), (5, .box [x5.1.best, .R 4]), (137, .box [x1.1, .w 0 []])], 319, []⟩ : St))) ?_
 iterate 2 refine AW.seq ?_
 refine AW.region ?_
 refine AO.pu T ?_
 refine AO.val rfl rfl (len_row_ok T rfl rfl rfl rfl) ?_
 refine AO.pu T ?_
 refine AO.nil ?_
 refine AW.block ?_
 refine AW.loopS (fun s : Nat × Int × (List Line) => (⟨[(5, x1.1), (6, .R 1), (9, .p 5 0), (43, .p 137 0), (269, .R 1), (270, (x1.2.length : Int)), (271, (s.1 : Int))], [(1, .row 3 (List.map encEntry x1.2)), (4, .row 3 (List.map encLineO x5.1.lines)), (5, .box [x5.1.best, .R 4]), (137, .box [s.2.1, .R 142]), (142, .row 3 (List.map encLineO s.2.2))], 319, []⟩ : St)) (fun s => s.1 ≤ x1.2.length ∧ laws_FnSeasons_l14 fuel x1 x5 (x1.2.drop s.1) s.1 s.2.1 s.2.2 = some r) (fun s => x1.2.length - s.1) (0, x1.1, []) ⟨Nat.zero_le _, hH⟩ ?_ ?_
 refine Le.trans (Le.voidBox 137 1 142 3 rfl rfl rfl rfl) ?_
 exact Le.ct 0 0
 rintro ⟨k308, v320, v321⟩ ⟨hk, hH⟩
 replace hH : laws_FnSeasons_l14 fuel x1 x5 (x1.2.drop k308) k308 v320 v321 = some r := hH
 try dsimp only
 refine AW.boundR (id := 1) (l := x1.2) rfl (fun hb312 => ?_)
 rcases hd311 : x1.2.drop k308 with _ | ⟨y309, ys310⟩
 rw [hd311, laws_FnSeasons_l14] at hH
 have hlt313 := drop_ge hd311
 refine AW.seq (AW.region ?_)
 refine AO.pu T ?_
 refine AO.nil (AW.seq ?_)
 refine AW.condF' (b := decide ((k308 : Int) < (x1.2.length : Int))) rfl (rngF hlt313) ?_
 refine AW.exit ?_
 refine AW.seq (AW.region ?_)
 refine AO.pu T ?_
 refine AO.nil ?_
 iterate 2 refine AW.seq ?_
 refine AW.region ?_
 refine AO.pu T ?_
 refine AO.val rfl rfl (len_row_ok T rfl rfl rfl rfl) ?_
 refine AO.pu T ?_
 refine AO.nil ?_
 refine AW.block ?_
 refine AW.loopS (fun s : Nat × (List Entry) => (⟨[(5, x1.1), (6, .R 1), (9, .p 5 0), (43, .p 137 0), (48, .R 147), (286, (x1.2.length : Int)), (287, (s.1 : Int))], [(1, .row 3 (List.map encEntry x1.2)), (4, .row 3 (List.map encLineO x5.1.lines)), (5, .box [x5.1.best, .R 4]), (137, .box [v320, .R 142]), (142, .row 3 (List.map encLineO v321)), (147, .row 3 (List.map encEntry s.2))], 319, []⟩ : St)) (fun s => s.1 ≤ x1.2.length ∧ laws_FnSeasons_l15 x1 x5 v320 v321 (x1.2.drop s.1) s.1 s.2 = some r) (fun s => x1.2.length - s.1) (0, []) ⟨Nat.zero_le _, hH⟩ ?_ ?_
 refine Le.trans (Le.void 48 147 3 rfl rfl) ?_
 exact Le.ct 0 0
 rintro ⟨k323, v338⟩ ⟨hk, hH⟩
 replace hH : laws_FnSeasons_l15 x1 x5 v320 v321 (x1.2.drop k323) k323 v338 = some r := hH
 try dsimp only
 refine AW.boundR (id := 1) (l := x1.2) rfl (fun hb327 => ?_)
 rcases hd326 : x1.2.drop k323 with _ | ⟨y324, ys325⟩
 rw [hd326, laws_FnSeasons_l15] at hH
 have hlt328 := drop_ge hd326
 refine AW.seq (AW.region ?_)
 refine AO.pu T ?_
 refine AO.nil (AW.seq ?_)
 refine AW.condF' (b := decide ((k323 : Int) < (x1.2.length : Int))) rfl (rngF hlt328) ?_
 refine AW.exit ?_
 refine AW.seq ?_
 obtain ⟨x340, hx341, hH⟩ := bindE hH
 refine AW.region ?_
 iterate 2 refine AO.pu T ?_
 refine AO.step rfl (callL_ok rfl 148 rfl rfl (es := [x1.1, .s (List.map encEntry v338)]) (by exact ⟨.free rfl, (.rowR rfl (.map fun y => .vs rfl)), trivial⟩) (impl_FreshSeason_ok _ _ _ (hx341)) (zfree_t (zfl (.cons (zfree_g (zfl (.cons (zfree_v _) (.cons (zfree_map (fun y => (.cons (zfree_v _) (.cons (zfree_map (fun y => (.cons (zfree_v _) .nil))) (.cons (zfree_map (fun y => (.cons (zfree_v _) .nil))) .nil))))) .nil)))) (.cons (zfree_v _) .nil)))) rfl rfl rfl) ?_
 refine AO.pu T ?_
 refine AO.pu T (d := .g [x340.1.best, .R 148]) ?_
 refine AO.pu T ?_
 refine AO.step rfl (alloc_ok T rfl 149 rfl rfl rfl rfl rfl) ?_
 refine AO.se T [x340.1.best, .R 148] ?_
 refine AO.pu T ?_
 refine AO.nil (AW.seq ?_)
 obtain ⟨x342, hx343, hH⟩ := bindE hH
 obtain ⟨x344, hx345, hH⟩ := bindE hH
 refine AW.region ?_
 refine AO.pu T (d := .g [v320, .R 142]) ?_
 refine AO.pu T (d := .g [x5.1.best, .R 4]) ?_
 refine AO.val rfl rfl (callLV_ok rfl rfl rfl (es := [.g (encSeason (Season.mk v320 v321)), .g (encSeason (Season.mk x5.1.best x5.1.lines))]) ⟨lend_g (LendL.cons (.free rfl) (LendL.cons ((.rowR rfl (.map fun y => frzLine y))) LendL.nil)), lend_g (LendL.cons (.free rfl) (LendL.cons ((.rowR rfl (.map fun y => frzLine y))) LendL.nil)), trivial⟩ (laws_qSeason_ok _ _ _ (hx343)) (zfree_v _) rfl) ?_
 refine AO.pu T ?_
 refine AO.pureG T [] rfl trivial rfl rfl ?_
 refine AO.val rfl rfl (pick_and rfl rfl rfl rfl) ?_
 refine AO.pu T ?_
 refine AO.pureG T (d := .g [x340.1.best, .R 148]) [] rfl trivial rfl rfl ?_
 refine AO.pureG T (d := .g [x5.1.best, .R 4]) [] rfl trivial rfl rfl ?_
 refine AO.guard [315, 316] rfl ⟨fun h => h, fun h => h, trivial⟩ (fun hg => callLV_ok rfl rfl rfl (es := [.g (encSeason (Season.mk x340.1.best x340.1.lines)), .g (encSeason (Season.mk x5.1.best x5.1.lines))]) ⟨lend_g (LendL.cons (.free rfl) (LendL.cons ((.rowR rfl (.map fun y => frzLine y))) LendL.nil)), lend_g (LendL.cons (.free rfl) (LendL.cons ((.rowR rfl (.map fun y => frzLine y))) LendL.nil)), trivial⟩ (laws_qSeason_ok _ _ _ (optT hx345 hg)) (zfree_v _) rfl) rfl ?_
 refine AO.val rfl rfl (pick_and rfl rfl rfl rfl) ?_
 refine AO.pu T ?_
 refine AO.nil (AW.ret ?_)
 have hR := someE hH; subst hR
 exact retQ.i [] rfl (.c (.c .v))
 rw [hd326, laws_FnSeasons_l15] at hH
 have hlt328 := drop_lt hd326
 refine AW.seq (AW.region ?_)
 refine AO.pu T ?_
 refine AO.nil (AW.seq ?_)
 refine AW.condT' (b := decide ((k323 : Int) < (x1.2.length : Int))) rfl (rngT hlt328) ?_
 refine AW.skip ?_
 refine AW.seq ?_
 refine AW.block ?_
 refine AW.seq (AW.region ?_)
 iterate 2 refine AO.pu T ?_
 refine AO.nil ?_
 obtain ⟨x346, hx347, hH⟩ := bindE hH
 obtain ⟨u348, hx349, hH⟩ := bindE hH
 refine AW.region ?_
 iterate 3 refine AO.pu T ?_
 refine AO.val rfl rfl (len_row_ok T rfl rfl rfl rfl) ?_
 refine AO.val rfl rfl (arw_ok rfl rfl rfl rfl) ?_
 refine AO.pu T ?_
 refine AO.val rfl rfl (arw_ok rfl rfl rfl rfl) ?_
 refine AO.val rfl rfl (ix_row_ok T rfl rfl rfl rfl rfl rfl (hx347)) ?_
 refine AO.val rfl rfl (load_row_ok T rfl rfl rfl rfl (getI_get (hx347)) rfl rfl rfl) ?_
 refine AO.step rfl (mk_map_ok T rfl 150 rfl rfl rfl rfl rfl (f := encEntry) (l := [x346]) rfl rfl (fun _ => rfl) rfl rfl rfl rfl rfl) ?_
 refine AO.step rfl (app_rv_map T rfl 151 rfl rfl rfl rfl rfl (by decide) rfl rfl rfl rfl (fun _ => rfl) (needT (hx349)) rfl rfl) ?_
 refine AO.pu T ?_
 refine AO.nil ?_
 refine AW.region ?_
 refine AO.val rfl rfl (ar_ok rfl rfl rfl rfl (inI_succ hlt328 hb327)) ?_
 refine AO.pu T ?_
 refine AO.nil ?_
 refine ⟨(k323 + 1, (v338 ++ [x346])), ⟨Nat.succ_le_of_lt hlt328, (by rw [drop_succ_of hd326]; exact hH)⟩, (by have := hlt328; dsimp only; omega), ?_⟩
 exact Le.ct 151 147
 rw [hd311, laws_FnSeasons_l14] at hH
 have hlt313 := drop_lt hd311
 refine AW.seq (AW.region ?_)
 refine AO.pu T ?_
 refine AO.nil (AW.seq ?_)
 refine AW.condT' (b := decide ((k308 : Int) < (x1.2.length : Int))) rfl (rngT hlt313) ?_
 refine AW.skip ?_
 refine AW.seq ?_
 refine AW.block ?_
 refine AW.seq (AW.region ?_)
 refine AO.val rfl rfl (ix_row_ok T rfl rfl rfl rfl rfl rfl (getI_drop hd311)) ?_
 refine AO.val rfl rfl (load_row_ok T rfl rfl rfl rfl (getI_get (getI_drop hd311)) rfl rfl rfl) ?_
 refine AO.step rfl (alloc_ok T rfl 152 rfl rfl rfl rfl rfl) ?_
 refine AO.se T [y309.event, y309.skater, y309.points] ?_
 refine AO.nil (AW.seq ?_)
 obtain ⟨x350, hx351, hH⟩ := bindE hH
 refine AW.region ?_
 refine AO.pu T (d := .g [v320, .R 142]) ?_
 refine AO.pu T (d := .g [y309.event, y309.skater, y309.points]) ?_
 refine AO.step rfl (callL_ok rfl 153 rfl rfl (es := [.g (encSeason (Season.mk v320 v321)), .g (encEntry y309)]) (by exact ⟨lend_g (LendL.cons (.free rfl) (LendL.cons ((.rowR rfl (.map fun y => frzLine y))) LendL.nil)), .free rfl, trivial⟩) (impl_AddEntry_ok fuel _ _ _ (hx351)) (zfree_t (zfl (.cons (zfree_g (zfl (.cons (zfree_v _) (.cons (zfree_map (fun y => (.cons (zfree_v _) (.cons (zfree_map (fun y => (.cons (zfree_v _) .nil))) (.cons (zfree_map (fun y => (.cons (zfree_v _) .nil))) .nil))))) .nil)))) (.cons (zfree_v _) .nil)))) rfl rfl rfl) ?_
 refine AO.pu T ?_
 refine AO.pu T (d := .g [x350.1.best, .R 153]) ?_
 refine AO.pu T ?_
 refine AO.step rfl (alloc_ok T rfl 154 rfl rfl rfl rfl rfl) ?_
 refine AO.se T [x350.1.best, .R 153] ?_
 refine AO.pu T ?_
 refine AO.nil ?_
 iterate 2 refine AW.seq ?_
 refine AW.region ?_
 iterate 2 refine AO.pu T ?_
 refine AO.nil ?_
 refine AW.cond (b := (!x350.2)) rfl (fun hc => ?_) (fun hc => ?_)
 replace hH := condT hc hH
 refine AW.seq (AW.region ?_)
 refine AO.pu T ?_
 refine AO.nil (AW.ret ?_)
 have hR := someE hH; subst hR
 exact retQ.i [] rfl (.c (.c .v))
 replace hH := condF hc hH
 refine AW.skip ?_
 refine AW.region ?_
 refine AO.pu T (d := .g [x350.1.best, .R 153]) ?_
 refine AO.se T [x350.1.best, .R 153] ?_
 refine AO.nil ?_
 refine AW.region ?_
 refine AO.val rfl rfl (ar_ok rfl rfl rfl rfl (inI_succ hlt313 hb312)) ?_
 refine AO.pu T ?_
 refine AO.nil ?_
 refine ⟨(k308 + 1, x350.1.best, x350.1.lines), ⟨Nat.succ_le_of_lt hlt313, (by rw [drop_succ_of hd311]; exact hH)⟩, (by have := hlt313; dsimp only; omega), ?_⟩
 exact Le.ct 153 142
 replace hH := condF hc hH
 refine AW.skip ?_
 iterate 2 refine AW.seq ?_
 refine AW.region ?_
 refine AO.pu T ?_
 refine AO.nil ?_
 refine AW.cond (b := x21.2) rfl (fun hc => ?_) (fun hc => ?_)
 replace hH := condT hc hH
 refine AW.seq ?_
 obtain ⟨x352, hx353, hH⟩ := bindE hH
 refine AW.region ?_
 refine AO.pu T (d := .g [x21.1.best, .R 21]) ?_
 refine AO.step rfl (callL_ok rfl 155 rfl rfl (es := [.g (encSeason (Season.mk x21.1.best x21.1.lines))]) (by exact ⟨lend_g (LendL.cons (.free rfl) (LendL.cons ((.rowR rfl (.map fun y => frzLine y))) LendL.nil)), trivial⟩) (impl_EntriesOf_ok fuel _ _ (hx353)) (zfree_t (zfl (.cons (zfree_map (fun y => (.cons (zfree_v _) (.cons (zfree_v _) (.cons (zfree_v _) .nil))))) (.cons (zfree_v _) .nil)))) rfl rfl rfl) ?_
 iterate 5 refine AO.pu T ?_
 refine AO.nil ?_
 iterate 2 refine AW.seq ?_
 refine AW.region ?_
 iterate 2 refine AO.pu T ?_
 refine AO.nil ?_
 refine AW.cond (b := (!x352.2)) rfl (fun hc => ?_) (fun hc => ?_)
 replace hH := condT hc hH
 refine AW.seq (AW.region ?_)
 refine AO.pu T ?_
 refine AO.nil (AW.ret ?_)
 have hR := someE hH; subst hR
 exact retQ.i [] rfl (.c (.c .v))
 replace hH := condF hc hH
 refine AW.skip ?_
 refine AW.seq (AW.region ?_)
 refine AO.pu T ?_
 refine AO.val rfl rfl (len_row_ok T rfl rfl rfl rfl) ?_
 refine AO.pu T ?_
 refine AO.nil ?_
 refine AW.block ?_
 refine AW.loopS (fun s : Nat => (⟨[(5, x1.1), (6, .R 1), (8, .v (.bool x3.2)), (9, .p 5 0), (25, x19.2), (254, .R 155), (255, (x352.1.length : Int)), (256, (s : Int))], [(1, .row 3 (List.map encEntry x1.2)), (4, .row 3 (List.map encLineO x5.1.lines)), (5, .box [x5.1.best, .R 4]), (155, .row 3 (List.map encEntry x352.1))], 319, []⟩ : St)) (fun s => s ≤ x352.1.length ∧ laws_FnSeasons_l16 fuel x1 x3 x5 x19 (x352.1.drop s) s = some r) (fun s => x352.1.length - s) 0 ⟨Nat.zero_le _, hH⟩ ?_ ?_
 exact Le.ct 0 0
 rintro k354 ⟨hk, hH⟩
 replace hH : laws_FnSeasons_l16 fuel x1 x3 x5 x19 (x352.1.drop k354) k354 = some r := hH
 try dsimp only
 refine AW.boundR (id := 155) (l := x352.1) rfl (fun hb358 => ?_)
 rcases hd357 : x352.1.drop k354 with _ | ⟨y355, ys356⟩
 rw [hd357, laws_FnSeasons_l16] at hH
 have hlt359 := drop_ge hd357
 refine AW.seq (AW.region ?_)
 refine AO.pu T ?_
 refine AO.nil (AW.seq ?_)
 refine AW.condF' (b := decide ((k354 : Int) < (x352.1.length : Int))) rfl (rngF hlt359) ?_
 refine AW.exit ?_
 iterate 2 refine AW.seq ?_
 refine AW.region ?_
 iterate 2 refine AO.pu T ?_
 refine AO.nil ?_
 refine AW.cond (b := (!x3.2)) rfl (fun hc => ?_) (fun hc => ?_)
 replace hH := condT hc hH
 refine AW.seq (AW.region ?_)
 refine AO.pu T ?_
 refine AO.nil (AW.ret ?_)
 have hR := someE hH; subst hR
 exact retQ.i [] rfl (.c (.c .v))
 replace hH := condF hc hH
 refine AW.skip ?_
 refine AW.seq (AW.region ?_)
 refine AO.pu T ?_
 refine AO.pu T (d := .g [x1.1, .w 0 []]) ?_
 refine AO.step rfl (alloc_ok T rfl 158 rfl rfl rfl rfl rfl) ?_
 refine AO.se T [x1.1, .w 0 []] ?_
 refine AO.nil ?_
 iterate 2 refine AW.seq ?_
 refine AW.region ?_
 refine AO.pu T ?_
 refine AO.val rfl rfl (len_row_ok T rfl rfl rfl rfl) ?_
 refine AO.pu T ?_
 refine AO.nil ?_
 refine AW.block ?_
 refine AW.loopS (fun s : Nat × Int × (List Line) => (⟨[(5, x1.1), (6, .R 1), (9, .p 5 0), (43, .p 158 0), (269, .R 1), (270, (x1.2.length : Int)), (271, (s.1 : Int))], [(1, .row 3 (List.map encEntry x1.2)), (4, .row 3 (List.map encLineO x5.1.lines)), (5, .box [x5.1.best, .R 4]), (158, .box [s.2.1, .R 163]), (163, .row 3 (List.map encLineO s.2.2))], 319, []⟩ : St)) (fun s => s.1 ≤ x1.2.length ∧ laws_FnSeasons_l17 fuel x1 x5 (x1.2.drop s.1) s.1 s.2.1 s.2.2 = some r) (fun s => x1.2.length - s.1) (0, x1.1, []) ⟨Nat.zero_le _, hH⟩ ?_ ?_
 refine Le.trans (Le.voidBox 158 1 163 3 rfl rfl rfl rfl) ?_
 exact Le.ct 0 0
 rintro ⟨k361, v373, v374⟩ ⟨hk, hH⟩
 replace hH : laws_FnSeasons_l17 fuel x1 x5 (x1.2.drop k361) k361 v373 v374 = some r := hH
 try dsimp only
 refine AW.boundR (id := 1) (l := x1.2) rfl (fun hb365 => ?_)
 rcases hd364 : x1.2.drop k361 with _ | ⟨y362, ys363⟩
 rw [hd364, laws_FnSeasons_l17] at hH
 have hlt366 := drop_ge hd364
 refine AW.seq (AW.region ?_)
 refine AO.pu T ?_
 refine AO.nil (AW.seq ?_)
 refine AW.condF' (b := decide ((k361 : Int) < (x1.2.length : Int))) rfl (rngF hlt366) ?_
 refine AW.exit ?_
 refine AW.seq (AW.region ?_)
 refine AO.pu T ?_
 refine AO.nil ?_
 iterate 2 refine AW.seq ?_
 refine AW.region ?_
 refine AO.pu T ?_
 refine AO.val rfl rfl (len_row_ok T rfl rfl rfl rfl) ?_
 refine AO.pu T ?_
 refine AO.nil ?_
 refine AW.block ?_
 refine AW.loopS (fun s : Nat × (List Entry) => (⟨[(5, x1.1), (6, .R 1), (9, .p 5 0), (43, .p 158 0), (48, .R 168), (286, (x1.2.length : Int)), (287, (s.1 : Int))], [(1, .row 3 (List.map encEntry x1.2)), (4, .row 3 (List.map encLineO x5.1.lines)), (5, .box [x5.1.best, .R 4]), (158, .box [v373, .R 163]), (163, .row 3 (List.map encLineO v374)), (168, .row 3 (List.map encEntry s.2))], 319, []⟩ : St)) (fun s => s.1 ≤ x1.2.length ∧ laws_FnSeasons_l18 x1 x5 v373 v374 (x1.2.drop s.1) s.1 s.2 = some r) (fun s => x1.2.length - s.1) (0, []) ⟨Nat.zero_le _, hH⟩ ?_ ?_
 refine Le.trans (Le.void 48 168 3 rfl rfl) ?_
 exact Le.ct 0 0
 rintro ⟨k376, v391⟩ ⟨hk, hH⟩
 replace hH : laws_FnSeasons_l18 x1 x5 v373 v374 (x1.2.drop k376) k376 v391 = some r := hH
 try dsimp only
 refine AW.boundR (id := 1) (l := x1.2) rfl (fun hb380 => ?_)
 rcases hd379 : x1.2.drop k376 with _ | ⟨y377, ys378⟩
 rw [hd379, laws_FnSeasons_l18] at hH
 have hlt381 := drop_ge hd379
 refine AW.seq (AW.region ?_)
 refine AO.pu T ?_
 refine AO.nil (AW.seq ?_)
 refine AW.condF' (b := decide ((k376 : Int) < (x1.2.length : Int))) rfl (rngF hlt381) ?_
 refine AW.exit ?_
 refine AW.seq ?_
 obtain ⟨x393, hx394, hH⟩ := bindE hH
 refine AW.region ?_
 iterate 2 refine AO.pu T ?_
 refine AO.step rfl (callL_ok rfl 169 rfl rfl (es := [x1.1, .s (List.map encEntry v391)]) (by exact ⟨.free rfl, (.rowR rfl (.map fun y => .vs rfl)), trivial⟩) (impl_FreshSeason_ok _ _ _ (hx394)) (zfree_t (zfl (.cons (zfree_g (zfl (.cons (zfree_v _) (.cons (zfree_map (fun y => (.cons (zfree_v _) (.cons (zfree_map (fun y => (.cons (zfree_v _) .nil))) (.cons (zfree_map (fun y => (.cons (zfree_v _) .nil))) .nil))))) .nil)))) (.cons (zfree_v _) .nil)))) rfl rfl rfl) ?_
 refine AO.pu T ?_
 refine AO.pu T (d := .g [x393.1.best, .R 169]) ?_
 refine AO.pu T ?_
 refine AO.step rfl (alloc_ok T rfl 170 rfl rfl rfl rfl rfl) ?_
 refine AO.se T [x393.1.best, .R 169] ?_
 refine AO.pu T ?_
 refine AO.nil (AW.seq ?_)
 obtain ⟨x395, hx396, hH⟩ := bindE hH
 obtain ⟨x397, hx398, hH⟩ := bindE hH
 refine AW.region ?_
 refine AO.pu T (d := .g [v373, .R 163]) ?_
 refine AO.pu T (d := .g [x5.1.best, .R 4]) ?_
 refine AO.val rfl rfl (callLV_ok rfl rfl rfl (es := [.g (encSeason (Season.mk v373 v374)), .g (encSeason (Season.mk x5.1.best x5.1.lines))]) ⟨lend_g (LendL.cons (.free rfl) (LendL.cons ((.rowR rfl (.map fun y => frzLine y))) LendL.nil)), lend_g (LendL.cons (.free rfl) (LendL.cons ((.rowR rfl (.map fun y => frzLine y))) LendL.nil)), trivial⟩ (laws_qSeason_ok _ _ _ (hx396)) (zfree_v _) rfl) ?_
 refine AO.pu T ?_
 refine AO.pureG T [] rfl trivial rfl rfl ?_
 refine AO.val rfl rfl (pick_and rfl rfl rfl rfl) ?_
 refine AO.pu T ?_
 refine AO.pureG T (d := .g [x393.1.best, .R 169]) [] rfl trivial rfl rfl ?_
 refine AO.pureG T (d := .g [x5.1.best, .R 4]) [] rfl trivial rfl rfl ?_
 refine AO.guard [315, 316] rfl ⟨fun h => h, fun h => h, trivial⟩ (fun hg => callLV_ok rfl rfl rfl (es := [.g (encSeason (Season.mk x393.1.best x393.1.lines)), .g (encSeason (Season.mk x5.1.best x5.1.lines))]) ⟨lend_g (LendL.cons (.free rfl) (LendL.cons ((.rowR rfl (.map fun y => frzLine y))) LendL.nil)), lend_g (LendL.cons (.free rfl) (LendL.cons ((.rowR rfl (.map fun y => frzLine y))) LendL.nil)), trivial⟩ (laws_qSeason_ok _ _ _ (optT hx398 hg)) (zfree_v _) rfl) rfl ?_
 refine AO.val rfl rfl (pick_and rfl rfl rfl rfl) ?_
 refine AO.pu T ?_
 refine AO.nil (AW.ret ?_)
 have hR := someE hH; subst hR
 exact retQ.i [] rfl (.c (.c .v))
 rw [hd379, laws_FnSeasons_l18] at hH
 have hlt381 := drop_lt hd379
 refine AW.seq (AW.region ?_)
 refine AO.pu T ?_
 refine AO.nil (AW.seq ?_)
 refine AW.condT' (b := decide ((k376 : Int) < (x1.2.length : Int))) rfl (rngT hlt381) ?_
 refine AW.skip ?_
 refine AW.seq ?_
 refine AW.block ?_
 refine AW.seq (AW.region ?_)
 iterate 2 refine AO.pu T ?_
 refine AO.nil ?_
 obtain ⟨x399, hx400, hH⟩ := bindE hH
 obtain ⟨u401, hx402, hH⟩ := bindE hH
 refine AW.region ?_
 iterate 3 refine AO.pu T ?_
 refine AO.val rfl rfl (len_row_ok T rfl rfl rfl rfl) ?_
 refine AO.val rfl rfl (arw_ok rfl rfl rfl rfl) ?_
 refine AO.pu T ?_
 refine AO.val rfl rfl (arw_ok rfl rfl rfl rfl) ?_
 refine AO.val rfl rfl (ix_row_ok T rfl rfl rfl rfl rfl rfl (hx400)) ?_
 refine AO.val rfl rfl (load_row_ok T rfl rfl rfl rfl (getI_get (hx400)) rfl rfl rfl) ?_
 refine AO.step rfl (mk_map_ok T rfl 171 rfl rfl rfl rfl rfl (f := encEntry) (l := [x399]) rfl rfl (fun _ => rfl) rfl rfl rfl rfl rfl) ?_
 refine AO.step rfl (app_rv_map T rfl 172 rfl rfl rfl rfl rfl (by decide) rfl rfl rfl rfl (fun _ => rfl) (needT (hx402)) rfl rfl) ?_
 refine AO.pu T ?_
 refine AO.nil ?_
 refine AW.region ?_
 refine AO.val rfl rfl (ar_ok rfl rfl rfl rfl (inI_succ hlt381 hb380)) ?_
 refine AO.pu T ?_
 refine AO.nil ?_
 refine ⟨(k376 + 1, (v391 ++ [x399])), ⟨Nat.succ_le_of_lt hlt381, (by rw [drop_succ_of hd379]; exact hH)⟩, (by have := hlt381; dsimp only; omega), ?_⟩
 exact Le.ct 172 168
 rw [hd364, laws_FnSeasons_l17] at hH
 have hlt366 := drop_lt hd364
 refine AW.seq (AW.region ?_)
 refine AO.pu T ?_
 refine AO.nil (AW.seq ?_)
 refine AW.condT' (b := decide ((k361 : Int) < (x1.2.length : Int))) rfl (rngT hlt366) ?_
 refine AW.skip ?_
 refine AW.seq ?_
 refine AW.block ?_
 refine AW.seq (AW.region ?_)
 refine AO.val rfl rfl (ix_row_ok T rfl rfl rfl rfl rfl rfl (getI_drop hd364)) ?_
 refine AO.val rfl rfl (load_row_ok T rfl rfl rfl rfl (getI_get (getI_drop hd364)) rfl rfl rfl) ?_
 refine AO.step rfl (alloc_ok T rfl 173 rfl rfl rfl rfl rfl) ?_
 refine AO.se T [y362.event, y362.skater, y362.points] ?_
 refine AO.nil (AW.seq ?_)
 obtain ⟨x403, hx404, hH⟩ := bindE hH
 refine AW.region ?_
 refine AO.pu T (d := .g [v373, .R 163]) ?_
 refine AO.pu T (d := .g [y362.event, y362.skater, y362.points]) ?_
 refine AO.step rfl (callL_ok rfl 174 rfl rfl (es := [.g (encSeason (Season.mk v373 v374)), .g (encEntry y362)]) (by exact ⟨lend_g (LendL.cons (.free rfl) (LendL.cons ((.rowR rfl (.map fun y => frzLine y))) LendL.nil)), .free rfl, trivial⟩) (impl_AddEntry_ok fuel _ _ _ (hx404)) (zfree_t (zfl (.cons (zfree_g (zfl (.cons (zfree_v _) (.cons (zfree_map (fun y => (.cons (zfree_v _) (.cons (zfree_map (fun y => (.cons (zfree_v _) .nil))) (.cons (zfree_map (fun y => (.cons (zfree_v _) .nil))) .nil))))) .nil)))) (.cons (zfree_v _) .nil)))) rfl rfl rfl) ?_
 refine AO.pu T ?_
 refine AO.pu T (d := .g [x403.1.best, .R 174]) ?_
 refine AO.pu T ?_
 refine AO.step rfl (alloc_ok T rfl 175 rfl rfl rfl rfl rfl) ?_
 refine AO.se T [x403.1.best, .R 174] ?_
 refine AO.pu T ?_
 refine AO.nil ?_
 iterate 2 refine AW.seq ?_
 refine AW.region ?_
 iterate 2 refine AO.pu T ?_
 refine AO.nil ?_
 refine AW.cond (b := (!x403.2)) rfl (fun hc => ?_) (fun hc => ?_)
 replace hH := condT hc hH
 refine AW.seq (AW.region ?_)
 refine AO.pu T ?_
 refine AO.nil (AW.ret ?_)
 have hR := someE hH; subst hR
 exact retQ.i [] rfl (.c (.c .v))
 replace hH := condF hc hH
 refine AW.skip ?_
 refine AW.region ?_
 refine AO.pu T (d := .g [x403.1.best, .R 174]) ?_
 refine AO.se T [x403.1.best, .R 174] ?_
 refine AO.nil ?_
 refine AW.region ?_
 refine AO.val rfl rfl (ar_ok rfl rfl rfl rfl (inI_succ hlt366 hb365)) ?_
 refine AO.pu T ?_
 refine AO.nil ?_
 refine ⟨(k361 + 1, x403.1.best, x403.1.lines), ⟨Nat.succ_le_of_lt hlt366, (by rw [drop_succ_of hd364]; exact hH)⟩, (by have := hlt366; dsimp only; omega), ?_⟩
 exact Le.ct 174 163
 rw [hd357, laws_FnSeasons_l16] at hH
 have hlt359 := drop_lt hd357
 refine AW.seq (AW.region ?_)
 refine AO.pu T ?_
 refine AO.nil (AW.seq ?_)
 refine AW.condT' (b := decide ((k354 : Int) < (x352.1.length : Int))) rfl (rngT hlt359) ?_
 refine AW.skip ?_
 refine AW.seq ?_
 refine AW.block ?_
 refine AW.seq (AW.region ?_)
 refine AO.val rfl rfl (ix_row_ok T rfl rfl rfl rfl rfl rfl (getI_drop hd357)) ?_
 refine AO.val rfl rfl (load_row_ok T rfl rfl rfl rfl (getI_get (getI_drop hd357)) rfl rfl rfl) ?_
 refine AO.step rfl (alloc_ok T rfl 176 rfl rfl rfl rfl rfl) ?_
 refine AO.se T [y355.event, y355.skater, y355.points] ?_
 refine AO.nil (AW.seq ?_)
 refine AW.region ?_
 iterate 4 refine AO.pu T ?_
 refine AO.nil ?_
 refine AW.cond (b := (y355.event == x19.2)) rfl (fun hc => ?_) (fun hc => ?_)
 replace hH := condT hc hH
 refine AW.seq (AW.region ?_)
 refine AO.pu T ?_
 refine AO.nil (AW.ret ?_)
 have hR := someE hH; subst hR
 exact retQ.i [] rfl (.c (.c .v))
 replace hH := condF hc hH
 refine AW.skip ?_
 refine AW.region ?_
 refine AO.val rfl rfl (ar_ok rfl rfl rfl rfl (inI_succ hlt359 hb358)) ?_
 refine AO.pu T ?_
 refine AO.nil ?_
 refine ⟨k354 + 1, ⟨Nat.succ_le_of_lt hlt359, (by rw [drop_succ_of hd357]; exact hH)⟩, (by have := hlt359; dsimp only; omega), ?_⟩
 exact Le.ct 0 0
 replace hH := condF hc hH
 refine AW.skip ?_
 iterate 2 refine AW.seq ?_
 refine AW.region ?_
 iterate 2 refine AO.pu T ?_
 refine AO.nil ?_
 refine AW.cond (b := (!x3.2)) rfl (fun hc => ?_) (fun hc => ?_)
 replace hH := condT hc hH
 refine AW.seq (AW.region ?_)
 refine AO.pu T ?_
 refine AO.nil (AW.ret ?_)
 have hR := someE hH; subst hR
 exact retQ.i [] rfl (.c (.c .v))
 replace hH := condF hc hH
 refine AW.skip ?_
 refine AW.seq (AW.region ?_)
 refine AO.pu T ?_
 refine AO.pu T (d := .g [x1.1, .w 0 []]) ?_
 refine AO.step rfl (alloc_ok T rfl 177 rfl rfl rfl rfl rfl) ?_
 refine AO.se T [x1.1, .w 0 []] ?_
 refine AO.nil ?_
 iterate 2 refine AW.seq ?_
 refine AW.region ?_
 refine AO.pu T ?_
 refine AO.val rfl rfl (len_row_ok T rfl rfl rfl rfl) ?_
 refine AO.pu T ?_
 refine AO.nil ?_
 refine AW.block ?_
 refine AW.loopS (fun s : Nat × Int × (List Line) => (⟨[(5, x1.1), (6, .R 1), (9, .p 5 0), (43, .p 177 0), (269, .R 1), (270, (x1.2.length : Int)), (271, (s.1 : Int))], [(1, .row 3 (List.map encEntry x1.2)), (4, .row 3 (List.map encLineO x5.1.lines)), (5, .box [x5.1.best, .R 4]), (177, .box [s.2.1, .R 182]), (182, .row 3 (List.map encLineO s.2.2))], 319, []⟩ : St)) (fun s => s.1 ≤ x1.2.length ∧ laws_FnSeasons_l19 fuel x1 x5 (x1.2.drop s.1) s.1 s.2.1 s.2.2 = some r) (fun s => x1.2.length - s.1) (0, x1.1, []) ⟨Nat.zero_le _, hH⟩ ?_ ?_
 refine Le.trans (Le.voidBox 177 1 182 3 rfl rfl rfl rfl) ?_
 exact Le.ct 0 0
 rintro ⟨k405, v417, v418⟩ ⟨hk, hH⟩
 replace hH : laws_FnSeasons_l19 fuel x1 x5 (x1.2.drop k405) k405 v417 v418 = some r := hH
 try dsimp only
 refine AW.boundR (id := 1) (l := x1.2) rfl (fun hb409 => ?_)
 rcases hd408 : x1.2.drop k405 with _ | ⟨y406, ys407⟩
 rw [hd408, laws_FnSeasons_l19] at hH
 have hlt410 := drop_ge hd408
 refine AW.seq (AW.region ?_)
 refine AO.pu T ?_
 refine AO.nil (AW.seq ?_)
 refine AW.condF' (b := decide ((k405 : Int) < (x1.2.length : Int))) rfl (rngF hlt410) ?_
 refine AW.exit ?_
 refine AW.seq (AW.region ?_)
 refine AO.pu T ?_
 refine AO.nil ?_
 iterate 2 refine AW.seq ?_
 refine AW.region ?_
 refine AO.pu T ?_
 refine AO.val rfl rfl (len_row_ok T rfl rfl rfl rfl) ?_
 refine AO.pu T ?_
 refine AO.nil ?_
 refine AW.block ?_
 refine AW.loopS (fun s : Nat × (List Entry) => (⟨[(5, x1.1), (6, .R 1), (9, .p 5 0), (43, .p 177 0), (48, .R 187), (286, (x1.2.length : Int)), (287, (s.1 : Int))], [(1, .row 3 (List.map encEntry x1.2)), (4, .row 3 (List.map encLineO x5.1.lines)), (5, .box [x5.1.best, .R 4]), (177, .box [v417, .R 182]), (182, .row 3 (List.map encLineO v418)), (187, .row 3 (List.map encEntry s.2))], 319, []⟩ : St)) (fun s => s.1 ≤ x1.2.length ∧ laws_FnSeasons_l20 x1 x5 v417 v418 (x1.2.drop s.1) s.1 s.2 = some r) (fun s => x1.2.length - s.1) (0, []) ⟨Nat.zero_le _, hH⟩ ?_ ?_
 refine Le.trans (Le.void 48 187 3 rfl rfl) ?_
 exact Le.ct 0 0
 rintro ⟨k420, v435⟩ ⟨hk, hH⟩
 replace hH : laws_FnSeasons_l20 x1 x5 v417 v418 (x1.2.drop k420) k420 v435 = some r := hH
 try dsimp only
 refine AW.boundR (id := 1) (l := x1.2) rfl (fun hb424 => ?_)
 rcases hd423 : x1.2.drop k420 with _ | ⟨y421, ys422⟩
 rw [hd423, laws_FnSeasons_l20] at hH
 have hlt425 := drop_ge hd423
 refine AW.seq (AW.region ?_)
 refine AO.pu T ?_
 refine AO.nil (AW.seq ?_)
 refine AW.condF' (b := decide ((k420 : Int) < (x1.2.length : Int))) rfl (rngF hlt425) ?_
 refine AW.exit ?_
 refine AW.seq ?_
 obtain ⟨x437, hx438, hH⟩ := bindE hH
 refine AW.region ?_
 iterate 2 refine AO.pu T ?_
 refine AO.step rfl (callL_ok rfl 188 rfl rfl (es := [x1.1, .s (List.map encEntry v435)]) (by exact ⟨.free rfl, (.rowR rfl (.map fun y => .vs rfl)), trivial⟩) (impl_FreshSeason_ok _ _ _ (hx438)) (zfree_t (zfl (.cons (zfree_g (zfl (.cons (zfree_v _) (.cons (zfree_map (fun y => (.cons (zfree_v _) (.cons (zfree_map (fun y => (.cons (zfree_v _) .nil))) (.cons (zfree_map (fun y => (.cons (zfree_v _) .nil))) .nil))))) .nil)))) (.cons (zfree_v _) .nil)))) rfl rfl rfl) ?_
 refine AO.pu T ?_
 refine AO.pu T (d := .g [x437.1.best, .R 188]) ?_
 refine AO.pu T ?_
 refine AO.step rfl (alloc_ok T rfl 189 rfl rfl rfl rfl rfl) ?_
 refine AO.se T [x437.1.best, .R 188] ?_
 refine AO.pu T ?_
 refine AO.nil (AW.seq ?_)
 obtain ⟨x439, hx440, hH⟩ := bindE hH
 obtain ⟨x441, hx442, hH⟩ := bindE hH
 refine AW.region ?_
 refine AO.pu T (d := .g [v417, .R 182]) ?_
 refine AO.pu T (d := .g [x5.1.best, .R 4]) ?_
 refine AO.val rfl rfl (callLV_ok rfl rfl rfl (es := [.g (encSeason (Season.mk v417 v418)), .g (encSeason (Season.mk x5.1.best x5.1.lines))]) ⟨lend_g (LendL.cons (.free rfl) (LendL.cons ((.rowR rfl (.map fun y => frzLine y))) LendL.nil)), lend_g (LendL.cons (.free rfl) (LendL.cons ((.rowR rfl (.map fun y => frzLine y))) LendL.nil)), trivial⟩ (laws_qSeason_ok _ _ _ (hx440)) (zfree_v _) rfl) ?_
 refine AO.pu T ?_
 refine AO.pureG T [] rfl trivial rfl rfl ?_
 refine AO.val rfl rfl (pick_and rfl rfl rfl rfl) ?_
 refine AO.pu T ?_
 refine AO.pureG T (d := .g [x437.1.best, .R 188]) [] rfl trivial rfl rfl ?_
 refine AO.pureG T (d := .g [x5.1.best, .R 4]) [] rfl trivial rfl rfl ?_
 refine AO.guard [315, 316] rfl ⟨fun h => h, fun h => h, trivial⟩ (fun hg => callLV_ok rfl rfl rfl (es := [.g (encSeason (Season.mk x437.1.best x437.1.lines)), .g (encSeason (Season.mk x5.1.best x5.1.lines))]) ⟨lend_g (LendL.cons (.free rfl) (LendL.cons ((.rowR rfl (.map fun y => frzLine y))) LendL.nil)), lend_g (LendL.cons (.free rfl) (LendL.cons ((.rowR rfl (.map fun y => frzLine y))) LendL.nil)), trivial⟩ (laws_qSeason_ok _ _ _ (optT hx442 hg)) (zfree_v _) rfl) rfl ?_
 refine AO.val rfl rfl (pick_and rfl rfl rfl rfl) ?_
 refine AO.pu T ?_
 refine AO.nil (AW.ret ?_)
 have hR := someE hH; subst hR
 exact retQ.i [] rfl (.c (.c .v))
 rw [hd423, laws_FnSeasons_l20] at hH
 have hlt425 := drop_lt hd423
 refine AW.seq (AW.region ?_)
 refine AO.pu T ?_
 refine AO.nil (AW.seq ?_)
 refine AW.condT' (b := decide ((k420 : Int) < (x1.2.length : Int))) rfl (rngT hlt425) ?_
 refine AW.skip ?_
 refine AW.seq ?_
 refine AW.block ?_
 refine AW.seq (AW.region ?_)
 iterate 2 refine AO.pu T ?_
 refine AO.nil ?_
 obtain ⟨x443, hx444, hH⟩ := bindE hH
 obtain ⟨u445, hx446, hH⟩ := bindE hH
 refine AW.region ?_
 iterate 3 refine AO.pu T ?_
 refine AO.val rfl rfl (len_row_ok T rfl rfl rfl rfl) ?_
 refine AO.val rfl rfl (arw_ok rfl rfl rfl rfl) ?_
 refine AO.pu T ?_
 refine AO.val rfl rfl (arw_ok rfl rfl rfl rfl) ?_
 refine AO.val rfl rfl (ix_row_ok T rfl rfl rfl rfl rfl rfl (hx444)) ?_
 refine AO.val rfl rfl (load_row_ok T rfl rfl rfl rfl (getI_get (hx444)) rfl rfl rfl) ?_
 refine AO.step rfl (mk_map_ok T rfl 190 rfl rfl rfl rfl rfl (f := encEntry) (l := [x443]) rfl rfl (fun _ => rfl) rfl rfl rfl rfl rfl) ?_
 refine AO.step rfl (app_rv_map T rfl 191 rfl rfl rfl rfl rfl (by decide) rfl rfl rfl rfl (fun _ => rfl) (needT (hx446)) rfl rfl) ?_
 refine AO.pu T ?_
 refine AO.nil ?_
 refine AW.region ?_
 refine AO.val rfl rfl (ar_ok rfl rfl rfl rfl (inI_succ hlt425 hb424)) ?_
 refine AO.pu T ?_
 refine AO.nil ?_
 refine ⟨(k420 + 1, (v435 ++ [x443])), ⟨Nat.succ_le_of_lt hlt425, (by rw [drop_succ_of hd423]; exact hH)⟩, (by have := hlt425; dsimp only; omega), ?_⟩
 exact Le.ct 191 187
 rw [hd408, laws_FnSeasons_l19] at hH
 have hlt410 := drop_lt hd408
 refine AW.seq (AW.region ?_)
 refine AO.pu T ?_
 refine AO.nil (AW.seq ?_)
 refine AW.condT' (b := decide ((k405 : Int) < (x1.2.length : Int))) rfl (rngT hlt410) ?_
 refine AW.skip ?_
 refine AW.seq ?_
 refine AW.block ?_
 refine AW.seq (AW.region ?_)
 refine AO.val rfl rfl (ix_row_ok T rfl rfl rfl rfl rfl rfl (getI_drop hd408)) ?_
 refine AO.val rfl rfl (load_row_ok T rfl rfl rfl rfl (getI_get (getI_drop hd408)) rfl rfl rfl) ?_
 refine AO.step rfl (alloc_ok T rfl 192 rfl rfl rfl rfl rfl) ?_
 refine AO.se T [y406.event, y406.skater, y406.points] ?_
 refine AO.nil (AW.seq ?_)
 obtain ⟨x447, hx448, hH⟩ := bindE hH
 refine AW.region ?_
 refine AO.pu T (d := .g [v417, .R 182]) ?_
 refine AO.pu T (d := .g [y406.event, y406.skater, y406.points]) ?_
 refine AO.step rfl (callL_ok rfl 193 rfl rfl (es := [.g (encSeason (Season.mk v417 v418)), .g (encEntry y406)]) (by exact ⟨lend_g (LendL.cons (.free rfl) (LendL.cons ((.rowR rfl (.map fun y => frzLine y))) LendL.nil)), .free rfl, trivial⟩) (impl_AddEntry_ok fuel _ _ _ (hx448)) (zfree_t (zfl (.cons (zfree_g (zfl (.cons (zfree_v _) (.cons (zfree_map (fun y => (.cons (zfree_v _) (.cons (zfree_map (fun y => (.cons (zfree_v _) .nil))) (.cons (zfree_map (fun y => (.cons (zfree_v _) .nil))) .nil))))) .nil)))) (.cons (zfree_v _) .nil)))) rfl rfl rfl) ?_
 refine AO.pu T ?_
 refine AO.pu T (d := .g [x447.1.best, .R 193]) ?_
 refine AO.pu T ?_
 refine AO.step rfl (alloc_ok T rfl 194 rfl rfl rfl rfl rfl) ?_
 refine AO.se T [x447.1.best, .R 193] ?_
 refine AO.pu T ?_
 refine AO.nil ?_
 iterate 2 refine AW.seq ?_
 refine AW.region ?_
 iterate 2 refine AO.pu T ?_
 refine AO.nil ?_
 refine AW.cond (b := (!x447.2)) rfl (fun hc => ?_) (fun hc => ?_)
 replace hH := condT hc hH
 refine AW.seq (AW.region ?_)
 refine AO.pu T ?_
 refine AO.nil (AW.ret ?_)
 have hR := someE hH; subst hR
 exact retQ.i [] rfl (.c (.c .v))
 replace hH := condF hc hH
 refine AW.skip ?_
 refine AW.region ?_
 refine AO.pu T (d := .g [x447.1.best, .R 193]) ?_
 refine AO.se T [x447.1.best, .R 193] ?_
 refine AO.nil ?_
 refine AW.region ?_
 refine AO.val rfl rfl (ar_ok rfl rfl rfl rfl (inI_succ hlt410 hb409)) ?_
 refine AO.pu T ?_
 refine AO.nil ?_
 refine ⟨(k405 + 1, x447.1.best, x447.1.lines), ⟨Nat.succ_le_of_lt hlt410, (by rw [drop_succ_of hd408]; exact hH)⟩, (by have := hlt410; dsimp only; omega), ?_⟩
 exact Le.ct 193 182

end Go.Proofs.Ytgcnndkbpmnmgaa

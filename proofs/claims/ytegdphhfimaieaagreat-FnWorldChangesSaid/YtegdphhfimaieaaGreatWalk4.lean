/- The walk, part 4: what each function reached by the law FnWorldChanges computes. No condition. -/
import Derived.Test.YtegdphhfimaieaaGreatWalk3
set_option maxRecDepth 4000
set_option maxHeartbeats 1000000
set_option linter.unusedVariables false
set_option linter.unusedSimpArgs false
set_option linter.unusedSectionVars false

namespace Go.Proofs.YtegdphhfimaieaaGreat
open Go.AM

def spec_DrawRankChanges_p (fuel:Nat) (code:List Int):Option (World × World) :=
  (spec_l1Cur_world_p fuel (L1Cur.mk code 0 0)).bind fun x1 =>
  (spec_l1Cur_pick_p (L1Cur.mk x1.1.code x1.1.at' x1.1.seed) 8).bind fun x3 =>
  (spec_l1Cur_pick_p (L1Cur.mk x3.1.code x3.1.at' x3.1.seed) 7).bind fun x5 =>
  (spec_l1Cur_pick_p (L1Cur.mk x5.1.code x5.1.at' x5.1.seed) 1200).bind fun x7 =>
  (spec_AddToWorld_p fuel (World.mk x1.2.seasons x1.2.weights) (Entry.mk (w64 (1+x3.2)) (w64 (1+x5.2)) x7.2)).bind fun x9 =>
  (opt x9.2 ((L1Cur.mk x7.1.code x7.1.at' x7.1.seed),default) (spec_l1Cur_one_p (L1Cur.mk x7.1.code x7.1.at' x7.1.seed) 3)).bind fun x11 =>
  cond (x9.2 && (!x11.2))
    (some ((World.mk x1.2.seasons x1.2.weights),(World.mk x9.1.seasons x9.1.weights)))
    ((spec_l1Cur_world_p fuel (L1Cur.mk x11.1.code x11.1.at' x11.1.seed)).bind fun x13 =>
    some ((World.mk x1.2.seasons x1.2.weights),(World.mk x13.2.seasons x13.2.weights)))
theorem spec_DrawRankChanges_ok (fuel:Nat) (code:List Int) (r:(World × World)) (hH:spec_DrawRankChanges_p fuel code=some r):SpecR Tryz.prog 38 [.s (List.map encInt_u8 code)] (.t [.g (encWorld r.1),.g (encWorld r.2)]):=by
 refine fn_ok T Tryz.func38 rfl (by decide) rfl ?_
 refine AW.seq (AW.region (AO.step rfl (alloc_ok T rfl 1 rfl rfl rfl rfl rfl) ?_))
 refine AO.step rfl (alloc_ok T rfl 2 rfl rfl rfl rfl rfl) ?_
 refine AO.nil (AW.seq (AW.region ?_))
 refine AO.pu T ?_
 refine AO.pu T (d:=.g [.s (List.map encInt_u8 code),(0:Int),.v (.int .u64 0)]) ?_
 refine AO.step rfl (box_ok T rfl 3 rfl rfl rfl rfl) ?_
 refine AO.pu T ?_
 refine AO.nil (AW.seq ?_)
 obtain ⟨x1,hx2,hH⟩:=bindE hH
 refine AW.region (AO.pu T ?_)
 refine AO.step rfl (callM_ok rfl 4 rfl rfl (es:=[.pw (encL1Cur (L1Cur.mk code 0 0))]) (outs:=[.pw (encL1Cur x1.1)]) (ids:=[3]) (by exact expLG_cons (.c (.box rfl rfl)) (expLG_nil)) (by decide) (.inl (by rfl)) (by rfl) (spec_l1Cur_world_ok fuel _ _ (hx2)) rfl (by rfl) rfl) ?_
 refine AO.step rfl (alloc_ok T rfl 4 rfl rfl rfl rfl rfl) ?_
 refine AO.se T [.s (List.map encSeason x1.2.seasons),.s (List.map encInt x1.2.weights)] ?_
 refine AO.nil ?_
 iterate 2 refine AW.seq ?_
 obtain ⟨x3,hx4,hH⟩:=bindE hH
 obtain ⟨x5,hx6,hH⟩:=bindE hH
 obtain ⟨x7,hx8,hH⟩:=bindE hH
 obtain ⟨x9,hx10,hH⟩:=bindE hH
 refine AW.drawn 16 5 [3] mix (by kernel_rfl) rfl ?_
 refine AD.pure T (d:=.g [.s (List.map encSeason x1.2.seasons),.s (List.map encInt x1.2.weights)]) rfl rfl rfl ?_
 refine AD.pure T rfl rfl rfl ?_
 refine AD.k rfl rfl (FStep.callM rfl rfl rfl rfl (es:=[.pw (encL1Cur (L1Cur.mk x1.1.code x1.1.at' x1.1.seed)),.v (.int .i64 8)]) (outs:=[.pw (encL1Cur x3.1),.u]) (ids:=[3]) (by exact expLG_cons (.c (.box rfl rfl)) (expLG_cons (.c .v) (expLG_nil))) (by decide) (.inl (by rfl)) (by rfl) (spec_l1Cur_pick_ok _ _ _ (hx4)) rfl (by rfl) rfl) rfl rfl rfl ?_
 refine AD.val rfl rfl (arw_ok rfl rfl rfl rfl) ?_
 refine AD.pure T rfl rfl rfl ?_
 refine AD.k rfl rfl (FStep.callM rfl rfl rfl rfl (es:=[.pw (encL1Cur (L1Cur.mk x3.1.code x3.1.at' x3.1.seed)),.v (.int .i64 7)]) (outs:=[.pw (encL1Cur x5.1),.u]) (ids:=[3]) (by exact expLG_cons (.c (.box rfl rfl)) (expLG_cons (.c .v) (expLG_nil))) (by decide) (.inl (by rfl)) (by rfl) (spec_l1Cur_pick_ok _ _ _ (hx6)) rfl (by rfl) rfl) rfl rfl rfl ?_
 refine AD.val rfl rfl (arw_ok rfl rfl rfl rfl) ?_
 refine AD.pure T rfl rfl rfl ?_
 refine AD.k rfl rfl (FStep.callM rfl rfl rfl rfl (es:=[.pw (encL1Cur (L1Cur.mk x5.1.code x5.1.at' x5.1.seed)),.v (.int .i64 1200)]) (outs:=[.pw (encL1Cur x7.1),.u]) (ids:=[3]) (by exact expLG_cons (.c (.box rfl rfl)) (expLG_cons (.c .v) (expLG_nil))) (by decide) (.inl (by rfl)) (by rfl) (spec_l1Cur_pick_ok _ _ _ (hx8)) rfl (by rfl) rfl) rfl rfl rfl ?_
 refine AD.pure T (d:=.g [w64 (1+x3.2),w64 (1+x5.2),x7.2]) rfl rfl rfl ?_
 refine AD.q (FStep.call rfl rfl rfl rfl rfl (spec_AddToWorld_ok fuel _ _ _ (hx10)) rfl rfl) (impT_names _ _) (impT_le _ _) rfl ?_
 refine AD.pure T rfl rfl rfl ?_
 refine AD.pure T (d:=.g [.R 5,.R 6]) rfl rfl rfl ?_
 refine AD.pure T rfl rfl rfl ?_
 refine AD.q (FStep.alloc T rfl rfl rfl rfl rfl rfl) (by simp [namesIn]) (Nat.le_succ _) rfl ?_
 refine AD.k rfl rfl (FStep.store_p T rfl rfl rfl rfl rfl rfl rfl rfl rfl rfl rfl) rfl rfl rfl ?_
 refine AD.nil (AO.pu T ?_)
 refine AO.nil (AW.le (Le.ct 0 0 (σ':=(⟨[(2,.p 1 0),(3,.p 2 0),(4,.p 3 0),(5,.p 4 0),(6,.p 7 0),(7,.v (.bool x9.2))],[(1,.box [.w 0 [],.w 0 []]),(2,.box [.w 0 [],.w 0 []]),(3,.box [.s (List.map encInt_u8 x7.1.code),x7.1.at',.v (.int .u64 x7.1.seed)]),(4,.box [.s (List.map encSeason x1.2.seasons),.s (List.map encInt x1.2.weights)]),(5,.row 2 (List.map encSeason x9.1.seasons)),(6,.row 1 (List.map encInt x9.1.weights)),(7,.box [.R 5,.R 6])],38,[]⟩:St))) ?_)
 refine AW.seq ?_
 obtain ⟨x11,hx12,hH⟩:=bindE hH
 refine AW.region ?_
 iterate 2 refine AO.pu T ?_
 refine AO.pureG T [] rfl trivial rfl rfl ?_
 refine AO.guardP (id:=3) (cs':=[.s (List.map encInt_u8 x11.1.code),x11.1.at',.v (.int .u64 x11.1.seed)]) (r:=.v (.bool x11.2)) [29] rfl ⟨fun h=>h,trivial⟩ (fun hg=>callM_ok rfl 8 rfl rfl (es:=[.pw (encL1Cur (L1Cur.mk x7.1.code x7.1.at' x7.1.seed)),.v (.int .i64 3)]) (outs:=[.pw (encL1Cur x11.1),.u]) (ids:=[3]) (by exact expLG_cons (.c (.box rfl rfl)) (expLG_cons (.c .v) (expLG_nil))) (by decide) (.inl (by rfl)) (by rfl) (spec_l1Cur_one_ok _ _ _ (optT hx12 hg)) rfl (by rfl) rfl) rfl (fun hg=>by have q:=optF hx12 hg;subst q;rfl) rfl ?_
 refine AO.pureG T [30] rfl ⟨fun h=>h,trivial⟩ rfl rfl ?_
 refine AO.val rfl rfl (pick_and rfl rfl rfl rfl) ?_
 refine AO.nil (AW.cond (b:=(x9.2 && (!x11.2))) rfl (fun hc=>?_) (fun hc=>?_))
 replace hH:=condT hc hH
 refine AW.seq (AW.drawn 3 8 [1] mix (by kernel_rfl) rfl ?_)
 refine AD.pure T (d:=.g [.s (List.map encSeason x1.2.seasons),.s (List.map encInt x1.2.weights)]) rfl rfl rfl ?_
 refine AD.pure T (d:=.g [.R 5,.R 6]) rfl rfl rfl ?_
 refine AD.k rfl rfl (FStep.store_p T rfl rfl rfl rfl rfl rfl rfl rfl rfl rfl rfl) rfl rfl rfl ?_
 refine AD.nil (AO.se T [.R 5,.R 6] ?_)
 refine AO.nil (AW.le (Le.freezeM 6 (g:=encInt) rfl (fun y=>.vs rfl)) ?_)
 refine AW.le (Le.freezeM 5 (g:=encSeason) rfl (fun y=>.vs rfl)) ?_
 refine AW.ret ?_
 have hR:=someE hH;subst hR
 exact retQ.i [] rfl (.t (expLG_cons (.g (expLC_cons .s (expLC_cons .s (expLC_nil)))) (expLG_cons (.g (expLC_cons .s (expLC_cons .s (expLC_nil)))) (expLG_nil))))
 replace hH:=condF hc hH
 refine AW.skip (AW.seq ?_)
 obtain ⟨x13,hx14,hH⟩:=bindE hH
 refine AW.drawn 3 8 [3] mix (by kernel_rfl) rfl ?_
 refine AD.pure T (d:=.g [.s (List.map encSeason x1.2.seasons),.s (List.map encInt x1.2.weights)]) rfl rfl rfl ?_
 refine AD.pure T rfl rfl rfl ?_
 refine AD.k rfl rfl (FStep.callM rfl rfl rfl rfl (es:=[.pw (encL1Cur (L1Cur.mk x11.1.code x11.1.at' x11.1.seed))]) (outs:=[.pw (encL1Cur x13.1)]) (ids:=[3]) (by exact expLG_cons (.c (.box rfl rfl)) (expLG_nil)) (by decide) (.inl (by rfl)) (by rfl) (spec_l1Cur_world_ok fuel _ _ (hx14)) rfl (by rfl) rfl) rfl rfl rfl ?_
 refine AD.nil (AO.se T [.s (List.map encSeason x1.2.seasons),.s (List.map encInt x1.2.weights)] ?_)
 refine AO.se T [.s (List.map encSeason x13.2.seasons),.s (List.map encInt x13.2.weights)] ?_
 refine AO.nil (AW.ret ?_)
 have hR:=someE hH;subst hR
 exact retQ.i [] rfl (.t (expLG_cons (.g (expLC_cons .s (expLC_cons .s (expLC_nil)))) (expLG_cons (.g (expLC_cons .s (expLC_cons .s (expLC_nil)))) (expLG_nil))))

def laws_FnWorldChanges_l1 (more:List Int) (fuel:Nat) (x3:(World × Entry)):List (List Int)→Nat→Option Bool
  | [],k25 =>
    (spec_DrawNewSeason_p fuel more).bind fun x44 =>
    (impl_NewSeason_p fuel (World.mk x44.1.seasons x44.1.weights) x44.2).bind fun x46 =>
    (spec_NewSeason_p (World.mk x44.1.seasons x44.1.weights) x44.2).bind fun x48 =>
    (opt (!(!(x46.2 == x48.2))) default (laws_pSameWorld_p (World.mk x46.1.seasons x46.1.weights) (World.mk x48.1.seasons x48.1.weights))).bind fun x50 =>
    (opt ((!((!(x46.2 == x48.2)) || (!x50))) && x46.2) default (impl_IsWorld_p fuel (World.mk x46.1.seasons x46.1.weights))).bind fun x52 =>
    (opt (((!((!(x46.2 == x48.2)) || (!x50))) && x46.2) && (!((!x52) || decide ((x48.1.seasons.length:Int) < (x44.1.seasons.length:Int))))) default (getI x48.1.seasons 0)).bind fun x54 =>
    cond (((!(x46.2 == x48.2)) || (!x50)) || (x46.2 && (((!x52) || decide ((x48.1.seasons.length:Int) < (x44.1.seasons.length:Int))) || (x54.best != x44.2))))
      (some false)
      ((spec_DrawSeedsFor_p fuel more).bind fun x56 =>
      (impl_SeedsFor_p fuel (World.mk x56.1.seasons x56.1.weights) x56.2).bind fun x58 =>
      (spec_SeedsFor_p fuel (World.mk x56.1.seasons x56.1.weights) x56.2).bind fun x60 =>
      (opt (!(!(x58.2 == x60.2))) default (laws_pSameEntrants_p x58.1 x60.1)).bind fun x62 =>
      (opt ((!((!(x58.2 == x60.2)) || (!x62))) && x58.2) default (impl_AreEntrants_p x58.1)).bind fun x64 =>
      cond (((!(x58.2 == x60.2)) || (!x62)) || (x58.2 && ((!x64) || ((x60.1.length:Int) != (x56.2.length:Int)))))
        (some false)
        ((spec_DrawRankChanges_p fuel more).bind fun x66 =>
        (impl_RankChanges_p fuel (World.mk x66.1.seasons x66.1.weights) (World.mk x66.2.seasons x66.2.weights)).bind fun x68 =>
        (spec_RankChanges_p fuel (World.mk x66.1.seasons x66.1.weights) (World.mk x66.2.seasons x66.2.weights)).bind fun x70 =>
        (impl_RankChanges_p fuel (World.mk x66.1.seasons x66.1.weights) (World.mk x66.1.seasons x66.1.weights)).bind fun x72 =>
        (opt (x68.2 == x70.2) default (laws_sameLists_p x68.1 x70.1)).bind fun x74 =>
        some ((((x68.2 == x70.2) && x74) && ((!x72.2) || ((x72.1.length:Int) == 0))) && (x72.2 || (!x68.2)))))
  | y26::ys27,k25 =>
    (getI y26 0).bind fun x76 =>
    (opt (x76 == x3.2.skater) default (getI y26 2)).bind fun x78 =>
    (opt (x76 == x3.2.skater) default (getI y26 1)).bind fun x80 =>
    cond ((x76 == x3.2.skater) && decide (x78 > x80))
      (some false)
      (laws_FnWorldChanges_l1 more fuel x3 ys27 (k25+1))
def laws_FnWorldChanges_p (fuel:Nat) (code:List Int) (more:List Int):Option Bool :=
  (laws_big_p code more).bind fun x1 =>
  cond x1
    (some true)
    ((spec_DrawAddToWorld_p fuel code).bind fun x3 =>
    (impl_AddToWorld_p fuel (World.mk x3.1.seasons x3.1.weights) (Entry.mk x3.2.event x3.2.skater x3.2.points)).bind fun x5 =>
    (spec_AddToWorld_p fuel (World.mk x3.1.seasons x3.1.weights) (Entry.mk x3.2.event x3.2.skater x3.2.points)).bind fun x7 =>
    (opt (!(!(x5.2 == x7.2))) default (laws_pSameWorld_p (World.mk x5.1.seasons x5.1.weights) (World.mk x7.1.seasons x7.1.weights))).bind fun x9 =>
    cond ((!(x5.2 == x7.2)) || (!x9))
      (some false)
      (cond x5.2
        ((impl_WorldTotal_p fuel (World.mk x5.1.seasons x5.1.weights) x3.2.skater).bind fun x11 =>
        (spec_WorldTotal_p fuel (World.mk x7.1.seasons x7.1.weights) x3.2.skater).bind fun x13 =>
        (spec_WorldTotal_p fuel (World.mk x3.1.seasons x3.1.weights) x3.2.skater).bind fun x15 =>
        (impl_IsWorld_p fuel (World.mk x5.1.seasons x5.1.weights)).bind fun x17 =>
        cond (((((!x17) || (!x11.2)) || (!x13.2)) || (x11.1 != x13.1)) || (x15.2 && decide (x13.1 < x15.1)))
          (some false)
          ((impl_RankChanges_p fuel (World.mk x3.1.seasons x3.1.weights) (World.mk x5.1.seasons x5.1.weights)).bind fun x19 =>
          (spec_RankChanges_p fuel (World.mk x3.1.seasons x3.1.weights) (World.mk x7.1.seasons x7.1.weights)).bind fun x21 =>
          (opt (!((!x19.2) || (!x21.2))) default (laws_sameLists_p x19.1 x21.1)).bind fun x23 =>
          cond (((!x19.2) || (!x21.2)) || (!x23))
            (some false)
            (laws_FnWorldChanges_l1 more fuel x3 x21.1 0)))
        ((spec_DrawNewSeason_p fuel more).bind fun x82 =>
        (impl_NewSeason_p fuel (World.mk x82.1.seasons x82.1.weights) x82.2).bind fun x84 =>
        (spec_NewSeason_p (World.mk x82.1.seasons x82.1.weights) x82.2).bind fun x86 =>
        (opt (!(!(x84.2 == x86.2))) default (laws_pSameWorld_p (World.mk x84.1.seasons x84.1.weights) (World.mk x86.1.seasons x86.1.weights))).bind fun x88 =>
        (opt ((!((!(x84.2 == x86.2)) || (!x88))) && x84.2) default (impl_IsWorld_p fuel (World.mk x84.1.seasons x84.1.weights))).bind fun x90 =>
        (opt (((!((!(x84.2 == x86.2)) || (!x88))) && x84.2) && (!((!x90) || decide ((x86.1.seasons.length:Int) < (x82.1.seasons.length:Int))))) default (getI x86.1.seasons 0)).bind fun x92 =>
        cond (((!(x84.2 == x86.2)) || (!x88)) || (x84.2 && (((!x90) || decide ((x86.1.seasons.length:Int) < (x82.1.seasons.length:Int))) || (x92.best != x82.2))))
          (some false)
          ((spec_DrawSeedsFor_p fuel more).bind fun x94 =>
          (impl_SeedsFor_p fuel (World.mk x94.1.seasons x94.1.weights) x94.2).bind fun x96 =>
          (spec_SeedsFor_p fuel (World.mk x94.1.seasons x94.1.weights) x94.2).bind fun x98 =>
          (opt (!(!(x96.2 == x98.2))) default (laws_pSameEntrants_p x96.1 x98.1)).bind fun x100 =>
          (opt ((!((!(x96.2 == x98.2)) || (!x100))) && x96.2) default (impl_AreEntrants_p x96.1)).bind fun x102 =>
          cond (((!(x96.2 == x98.2)) || (!x100)) || (x96.2 && ((!x102) || ((x98.1.length:Int) != (x94.2.length:Int)))))
            (some false)
            ((spec_DrawRankChanges_p fuel more).bind fun x104 =>
            (impl_RankChanges_p fuel (World.mk x104.1.seasons x104.1.weights) (World.mk x104.2.seasons x104.2.weights)).bind fun x106 =>
            (spec_RankChanges_p fuel (World.mk x104.1.seasons x104.1.weights) (World.mk x104.2.seasons x104.2.weights)).bind fun x108 =>
            (impl_RankChanges_p fuel (World.mk x104.1.seasons x104.1.weights) (World.mk x104.1.seasons x104.1.weights)).bind fun x110 =>
            (opt (x106.2 == x108.2) default (laws_sameLists_p x106.1 x108.1)).bind fun x112 =>
            some ((((x106.2 == x108.2) && x112) && ((!x110.2) || ((x110.1.length:Int) == 0))) && (x110.2 || (!x106.2))))))))
theorem laws_FnWorldChanges_ok (fuel:Nat) (code:List Int) (more:List Int) (r:Bool) (hH:laws_FnWorldChanges_p fuel code more=some r):SpecR Tryz.prog 4 [.s (List.map encInt_u8 code),.s (List.map encInt_u8 more)] (.v (.bool r)):=by
 refine fn_ok T Tryz.func4 rfl (by decide) rfl ?_
 refine AW.seq (AW.region (AO.pu T ?_))
 refine AO.nil ?_
 iterate 2 refine AW.seq ?_
 obtain ⟨x1,hx2,hH⟩:=bindE hH
 refine AW.region ?_
 iterate 2 refine AO.pu T ?_
 refine AO.val rfl rfl (callV_ok rfl rfl rfl rfl (laws_big_ok _ _ _ (hx2)) rfl) ?_
 refine AO.nil (AW.cond (b:=x1) rfl (fun hc=>?_) (fun hc=>?_))
 replace hH:=condT hc hH
 refine AW.seq (AW.region (AO.pu T ?_))
 refine AO.nil (AW.ret ?_)
 have hR:=someE hH;subst hR
 exact retQ.i [] rfl (.c (.c .v))
 replace hH:=condF hc hH
 refine AW.skip (AW.seq ?_)
 obtain ⟨x3,hx4,hH⟩:=bindE hH
 refine AW.region (AO.pu T ?_)
 refine AO.val rfl rfl (callV_ok rfl rfl rfl rfl (spec_DrawAddToWorld_ok fuel _ _ (hx4)) rfl) ?_
 refine AO.pu T ?_
 refine AO.pu T (d:=.g [.s (List.map encSeason x3.1.seasons),.s (List.map encInt x3.1.weights)]) ?_
 refine AO.pu T (d:=.g [x3.2.event,x3.2.skater,x3.2.points]) ?_
 refine AO.step rfl (alloc_ok T rfl 1 rfl rfl rfl rfl rfl) ?_
 refine AO.step rfl (alloc_ok T rfl 2 rfl rfl rfl rfl rfl) ?_
 refine AO.se T [.s (List.map encSeason x3.1.seasons),.s (List.map encInt x3.1.weights)] ?_
 refine AO.se T [x3.2.event,x3.2.skater,x3.2.points] ?_
 refine AO.nil (AW.seq ?_)
 obtain ⟨x5,hx6,hH⟩:=bindE hH
 refine AW.region (AO.pu T (d:=.g [.s (List.map encSeason x3.1.seasons),.s (List.map encInt x3.1.weights)]) ?_)
 refine AO.pu T (d:=.g [x3.2.event,x3.2.skater,x3.2.points]) ?_
 refine AO.step rfl (call_ok rfl 3 rfl rfl rfl (impl_AddToWorld_ok fuel _ _ _ (hx6)) rfl rfl rfl) ?_
 refine AO.pu T ?_
 refine AO.pu T (d:=.g [.R 3,.R 4]) ?_
 refine AO.pu T ?_
 refine AO.step rfl (alloc_ok T rfl 5 rfl rfl rfl rfl rfl) ?_
 refine AO.se T [.R 3,.R 4] ?_
 refine AO.pu T ?_
 refine AO.nil (AW.seq ?_)
 obtain ⟨x7,hx8,hH⟩:=bindE hH
 refine AW.region (AO.pu T (d:=.g [.s (List.map encSeason x3.1.seasons),.s (List.map encInt x3.1.weights)]) ?_)
 refine AO.pu T (d:=.g [x3.2.event,x3.2.skater,x3.2.points]) ?_
 refine AO.step rfl (call_ok rfl 6 rfl rfl rfl (spec_AddToWorld_ok fuel _ _ _ (hx8)) rfl rfl rfl) ?_
 refine AO.pu T ?_
 refine AO.pu T (d:=.g [.R 6,.R 7]) ?_
 refine AO.pu T ?_
 refine AO.step rfl (alloc_ok T rfl 8 rfl rfl rfl rfl rfl) ?_
 refine AO.se T [.R 6,.R 7] ?_
 refine AO.pu T ?_
 refine AO.nil (AW.le (Le.ct 0 0 (σ':=(⟨[(1,.s (List.map encInt_u8 more)),(5,.p 1 0),(6,.p 2 0),(7,.p 5 0),(8,.v (.bool x5.2)),(9,.p 8 0),(10,.v (.bool x7.2))],[(1,.box [.s (List.map encSeason x3.1.seasons),.s (List.map encInt x3.1.weights)]),(2,.box [x3.2.event,x3.2.skater,x3.2.points]),(3,.row 2 (List.map encSeasonO x5.1.seasons)),(4,.row 1 (List.map encInt x5.1.weights)),(5,.box [.R 3,.R 4]),(6,.row 2 (List.map encSeason x7.1.seasons)),(7,.row 1 (List.map encInt x7.1.weights)),(8,.box [.R 6,.R 7])],304,[]⟩:St))) ?_)
 iterate 2 refine AW.seq ?_
 obtain ⟨x9,hx10,hH⟩:=bindE hH
 refine AW.region ?_
 iterate 4 refine AO.pu T ?_
 refine AO.pureG T (d:=.g [.R 3,.R 4]) [] rfl trivial rfl rfl ?_
 refine AO.pureG T (d:=.g [.R 6,.R 7]) [] rfl trivial rfl rfl ?_
 refine AO.guard [67,68] rfl ⟨fun h=>h,fun h=>h,trivial⟩ (fun hg=>callLV_ok rfl rfl rfl (es:=[.g (encWorld (World.mk x5.1.seasons x5.1.weights)),.g (encWorld (World.mk x7.1.seasons x7.1.weights))]) ⟨lend_g (LendL.cons ((.rowR rfl (.map fun y=>frzSeason y))) (LendL.cons ((.rowR rfl (.map fun y=>.vs rfl))) LendL.nil)),lend_g (LendL.cons ((.rowR rfl (.map fun y=>.vs rfl))) (LendL.cons ((.rowR rfl (.map fun y=>.vs rfl))) LendL.nil)),trivial⟩ (laws_pSameWorld_ok _ _ _ (optT hx10 hg)) (zfree_v _) rfl) rfl ?_
 refine AO.pureG T [69] rfl ⟨fun h=>h,trivial⟩ rfl rfl ?_
 refine AO.val rfl rfl (pick_or rfl rfl rfl rfl) ?_
 refine AO.nil (AW.cond (b:=((!(x5.2 == x7.2)) || (!x9))) rfl (fun hc=>?_) (fun hc=>?_))
 replace hH:=condT hc hH
 refine AW.seq (AW.region (AO.pu T ?_))
 refine AO.nil (AW.ret ?_)
 have hR:=someE hH;subst hR
 exact retQ.i [] rfl (.c (.c .v))
 replace hH:=condF hc hH
 refine AW.skip ?_
 iterate 2 refine AW.seq ?_
 refine AW.region (AO.pu T ?_)
 refine AO.nil (AW.cond (b:=x5.2) rfl (fun hc=>?_) (fun hc=>?_))
 replace hH:=condT hc hH
 refine AW.seq ?_
 obtain ⟨x11,hx12,hH⟩:=bindE hH
 refine AW.region (AO.pu T (d:=.g [.R 3,.R 4]) ?_)
 iterate 2 refine AO.pu T ?_
 refine AO.val rfl rfl (callLV_ok rfl rfl rfl (es:=[.g (encWorld (World.mk x5.1.seasons x5.1.weights)),x3.2.skater]) ⟨lend_g (LendL.cons ((.rowR rfl (.map fun y=>frzSeason y))) (LendL.cons ((.rowR rfl (.map fun y=>.vs rfl))) LendL.nil)),.free rfl,trivial⟩ (impl_WorldTotal_ok fuel _ _ _ (hx12)) (zfree_t (zfl (.cons (zfree_v _) (.cons (zfree_v _) .nil)))) rfl) ?_
 iterate 5 refine AO.pu T ?_
 refine AO.nil (AW.seq ?_)
 obtain ⟨x13,hx14,hH⟩:=bindE hH
 refine AW.region (AO.pu T (d:=.g [.R 6,.R 7]) ?_)
 iterate 2 refine AO.pu T ?_
 refine AO.val rfl rfl (callLV_ok rfl rfl rfl (es:=[.g (encWorld (World.mk x7.1.seasons x7.1.weights)),x3.2.skater]) ⟨lend_g (LendL.cons ((.rowR rfl (.map fun y=>.vs rfl))) (LendL.cons ((.rowR rfl (.map fun y=>.vs rfl))) LendL.nil)),.free rfl,trivial⟩ (spec_WorldTotal_ok fuel _ _ _ (hx14)) (zfree_t (zfl (.cons (zfree_v _) (.cons (zfree_v _) .nil)))) rfl) ?_
 iterate 5 refine AO.pu T ?_
 refine AO.nil (AW.le (Le.ct 0 0 (σ':=(⟨[(1,.s (List.map encInt_u8 more)),(5,.p 1 0),(6,.p 2 0),(7,.p 5 0),(9,.p 8 0),(11,x11.1),(12,.v (.bool x11.2)),(13,x13.1),(14,.v (.bool x13.2))],[(1,.box [.s (List.map encSeason x3.1.seasons),.s (List.map encInt x3.1.weights)]),(2,.box [x3.2.event,x3.2.skater,x3.2.points]),(3,.row 2 (List.map encSeasonO x5.1.seasons)),(4,.row 1 (List.map encInt x5.1.weights)),(5,.box [.R 3,.R 4]),(6,.row 2 (List.map encSeason x7.1.seasons)),(7,.row 1 (List.map encInt x7.1.weights)),(8,.box [.R 6,.R 7])],304,[]⟩:St))) ?_)
 refine AW.seq ?_
 obtain ⟨x15,hx16,hH⟩:=bindE hH
 refine AW.region (AO.pu T (d:=.g [.s (List.map encSeason x3.1.seasons),.s (List.map encInt x3.1.weights)]) ?_)
 iterate 2 refine AO.pu T ?_
 refine AO.val rfl rfl (callV_ok rfl rfl rfl rfl (spec_WorldTotal_ok fuel _ _ _ (hx16)) rfl) ?_
 iterate 5 refine AO.pu T ?_
 refine AO.nil ?_
 iterate 2 refine AW.seq ?_
 obtain ⟨x17,hx18,hH⟩:=bindE hH
 refine AW.region (AO.pu T (d:=.g [.R 3,.R 4]) ?_)
 refine AO.val rfl rfl (callLV_ok rfl rfl rfl (es:=[.g (encWorld (World.mk x5.1.seasons x5.1.weights))]) ⟨lend_g (LendL.cons ((.rowR rfl (.map fun y=>frzSeason y))) (LendL.cons ((.rowR rfl (.map fun y=>.vs rfl))) LendL.nil)),trivial⟩ (impl_IsWorld_ok fuel _ _ (hx18)) (zfree_v _) rfl) ?_
 iterate 2 refine AO.pu T ?_
 refine AO.pureG T [] rfl trivial rfl rfl ?_
 refine AO.pureG T [98] rfl ⟨fun h=>h,trivial⟩ rfl rfl ?_
 refine AO.val rfl rfl (pick_or rfl rfl rfl rfl) ?_
 refine AO.pu T ?_
 refine AO.pureG T [] rfl trivial rfl rfl ?_
 refine AO.pureG T [102] rfl ⟨fun h=>h,trivial⟩ rfl rfl ?_
 refine AO.val rfl rfl (pick_or rfl rfl rfl rfl) ?_
 refine AO.pu T ?_
 iterate 2 refine AO.pureG T [] rfl trivial rfl rfl ?_
 refine AO.pureG T [106,107] rfl ⟨fun h=>h,fun h=>h,trivial⟩ rfl rfl ?_
 refine AO.val rfl rfl (pick_or rfl rfl rfl rfl) ?_
 refine AO.pu T ?_
 refine AO.pureG T [] rfl trivial rfl rfl ?_
 refine AO.pureG T [111] rfl ⟨fun h=>h,trivial⟩ rfl rfl ?_
 iterate 2 refine AO.pureG T [] rfl trivial rfl rfl ?_
 refine AO.pureG T [113,114] rfl ⟨fun h=>h,fun h=>h,trivial⟩ rfl rfl ?_
 refine AO.guard [112] rfl ⟨fun h=>h,trivial⟩ (fun hg=>pick_and rfl rfl rfl (by rw [hg];exact Bool.true_and _)) rfl ?_
 refine AO.val rfl rfl (pick_or rfl rfl rfl rfl) ?_
 refine AO.nil (AW.le (Le.ct 0 0 (σ':=(⟨[(1,.s (List.map encInt_u8 more)),(5,.p 1 0),(6,.p 2 0),(7,.p 5 0),(9,.p 8 0),(117,.v (.bool (((((!x17) || (!x11.2)) || (!x13.2)) || (x11.1 != x13.1)) || (x15.2 && decide (x13.1 < x15.1)))))],[(1,.box [.s (List.map encSeason x3.1.seasons),.s (List.map encInt x3.1.weights)]),(2,.box [x3.2.event,x3.2.skater,x3.2.points]),(3,.row 2 (List.map encSeasonO x5.1.seasons)),(4,.row 1 (List.map encInt x5.1.weights)),(5,.box [.R 3,.R 4]),(6,.row 2 (List.map encSeason x7.1.seasons)),(7,.row 1 (List.map encInt x7.1.weights)),(8,.box [.R 6,.R 7])],304,[]⟩:St))) ?_)
 refine AW.cond (b:=(((((!x17) || (!x11.2)) || (!x13.2)) || (x11.1 != x13.1)) || (x15.2 && decide (x13.1 < x15.1)))) rfl (fun hc=>?_) (fun hc=>?_)
 replace hH:=condT hc hH
 refine AW.seq (AW.region (AO.pu T ?_))
 refine AO.nil (AW.ret ?_)
 have hR:=someE hH;subst hR
 exact retQ.i [] rfl (.c (.c .v))
 replace hH:=condF hc hH
 refine AW.skip (AW.seq ?_)
 obtain ⟨x19,hx20,hH⟩:=bindE hH
 refine AW.region (AO.pu T (d:=.g [.s (List.map encSeason x3.1.seasons),.s (List.map encInt x3.1.weights)]) ?_)
 refine AO.pu T (d:=.g [.R 3,.R 4]) ?_
 refine AO.step rfl (callL_ok rfl 9 rfl rfl (es:=[.g (encWorld (World.mk x3.1.seasons x3.1.weights)),.g (encWorld (World.mk x5.1.seasons x5.1.weights))]) (by exact ⟨.free rfl,lend_g (LendL.cons ((.rowR rfl (.map fun y=>frzSeason y))) (LendL.cons ((.rowR rfl (.map fun y=>.vs rfl))) LendL.nil)),trivial⟩) (impl_RankChanges_ok fuel _ _ _ (hx20)) (zfree_t (zfl (.cons (zfree_map (fun y=>(.cons (zfree_map (fun y=>(.cons (zfree_v _) .nil))) .nil))) (.cons (zfree_v _) .nil)))) rfl rfl rfl) ?_
 iterate 5 refine AO.pu T ?_
 refine AO.nil (AW.seq ?_)
 obtain ⟨x21,hx22,hH⟩:=bindE hH
 refine AW.le (Le.freezeM 6 (g:=encSeason) rfl (fun y=>.vs rfl)) ?_
 refine AW.le (Le.freezeM 7 (g:=encInt) rfl (fun y=>.vs rfl)) ?_
 refine AW.region (AO.pu T (d:=.g [.s (List.map encSeason x3.1.seasons),.s (List.map encInt x3.1.weights)]) ?_)
 refine AO.pu T (d:=.g [.s (List.map encSeason x7.1.seasons),.s (List.map encInt x7.1.weights)]) ?_
 refine AO.step rfl (call_ok rfl 10 rfl rfl rfl (spec_RankChanges_ok fuel _ _ _ (hx22)) rfl rfl rfl) ?_
 iterate 5 refine AO.pu T ?_
 refine AO.nil ?_
 iterate 2 refine AW.seq ?_
 obtain ⟨x23,hx24,hH⟩:=bindE hH
 refine AW.region ?_
 iterate 3 refine AO.pu T ?_
 refine AO.pureG T [] rfl trivial rfl rfl ?_
 refine AO.pureG T [133] rfl ⟨fun h=>h,trivial⟩ rfl rfl ?_
 refine AO.val rfl rfl (pick_or rfl rfl rfl rfl) ?_
 refine AO.pu T ?_
 iterate 2 refine AO.pureG T [] rfl trivial rfl rfl ?_
 refine AO.guard [137,138] rfl ⟨fun h=>h,fun h=>h,trivial⟩ (fun hg=>callLV_ok rfl rfl rfl (es:=[.s (List.map encLInt x19.1),.s (List.map encLInt x21.1)]) ⟨(.rowR rfl (.map fun y=>frzLInt y)),(.rowR rfl (.map fun y=>.vs rfl)),trivial⟩ (laws_sameLists_ok _ _ _ (optT hx24 hg)) (zfree_v _) rfl) rfl ?_
 refine AO.pureG T [139] rfl ⟨fun h=>h,trivial⟩ rfl rfl ?_
 refine AO.val rfl rfl (pick_or rfl rfl rfl rfl) ?_
 refine AO.nil (AW.le (Le.ct 0 0 (σ':=(⟨[(1,.s (List.map encInt_u8 more)),(6,.p 2 0),(19,.R 10),(141,.v (.bool (((!x19.2) || (!x21.2)) || (!x23))))],[(2,.box [x3.2.event,x3.2.skater,x3.2.points]),(10,.row 1 (List.map encLInt x21.1))],304,[]⟩:St))) ?_)
 refine AW.cond (b:=(((!x19.2) || (!x21.2)) || (!x23))) rfl (fun hc=>?_) (fun hc=>?_)
 replace hH:=condT hc hH
 refine AW.seq (AW.region (AO.pu T ?_))
 refine AO.nil (AW.ret ?_)
 have hR:=someE hH;subst hR
 exact retQ.i [] rfl (.c (.c .v))
 replace hH:=condF hc hH
 refine AW.skip (AW.seq (AW.region ?_))
 refine AO.pu T ?_
 refine AO.val rfl rfl (len_row_ok T rfl rfl rfl rfl) ?_
 refine AO.pu T ?_
 refine AO.nil (AW.block ?_)
 refine AW.loopS (fun s:Nat=>(⟨[(1,.s (List.map encInt_u8 more)),(6,.p 2 0),(142,.R 10),(143,(x21.1.length:Int)),(144,(s:Int))],[(2,.box [x3.2.event,x3.2.skater,x3.2.points]),(10,.row 1 (List.map encLInt x21.1))],304,[]⟩:St)) (fun s=>s ≤ x21.1.length∧laws_FnWorldChanges_l1 more fuel x3 (x21.1.drop s) s=some r) (fun s=>x21.1.length - s) 0 ⟨Nat.zero_le _,hH⟩ ?_ ?_
 exact Le.ct 0 0
 rintro k25 ⟨hk,hH⟩
 replace hH:laws_FnWorldChanges_l1 more fuel x3 (x21.1.drop k25) k25=some r:=hH
 try dsimp only
 refine AW.boundR (id:=10) (l:=x21.1) rfl (fun hb29=>?_)
 rcases hd28:x21.1.drop k25 with _ | ⟨y26,ys27⟩
 rw [hd28,laws_FnWorldChanges_l1] at hH
 have hlt30:=drop_ge hd28
 refine AW.seq (AW.region (AO.pu T ?_))
 refine AO.nil (AW.seq (AW.condF' (b:=decide ((k25:Int) < (x21.1.length:Int))) rfl (rngF hlt30) ?_))
 refine AW.exit (AW.seq ?_)
 obtain ⟨x44,hx45,hH⟩:=bindE hH
 refine AW.region (AO.pu T ?_)
 refine AO.val rfl rfl (callV_ok rfl rfl rfl rfl (spec_DrawNewSeason_ok fuel _ _ (hx45)) rfl) ?_
 refine AO.pu T ?_
 refine AO.pu T (d:=.g [.s (List.map encSeason x44.1.seasons),.s (List.map encInt x44.1.weights)]) ?_
 refine AO.pu T ?_
 refine AO.step rfl (alloc_ok T rfl 11 rfl rfl rfl rfl rfl) ?_
 refine AO.se T [.s (List.map encSeason x44.1.seasons),.s (List.map encInt x44.1.weights)] ?_
 refine AO.pu T ?_
 refine AO.nil (AW.seq ?_)
 obtain ⟨x46,hx47,hH⟩:=bindE hH
 refine AW.region (AO.pu T (d:=.g [.s (List.map encSeason x44.1.seasons),.s (List.map encInt x44.1.weights)]) ?_)
 refine AO.pu T ?_
 refine AO.step rfl (call_ok rfl 12 rfl rfl rfl (impl_NewSeason_ok fuel _ _ _ (hx47)) rfl rfl rfl) ?_
 refine AO.pu T ?_
 refine AO.pu T (d:=.g [.R 12,.R 13]) ?_
 refine AO.pu T ?_
 refine AO.step rfl (alloc_ok T rfl 14 rfl rfl rfl rfl rfl) ?_
 refine AO.se T [.R 12,.R 13] ?_
 refine AO.pu T ?_
 refine AO.nil (AW.seq ?_)
 obtain ⟨x48,hx49,hH⟩:=bindE hH
 refine AW.region (AO.pu T (d:=.g [.s (List.map encSeason x44.1.seasons),.s (List.map encInt x44.1.weights)]) ?_)
 refine AO.pu T ?_
 refine AO.step rfl (call_ok rfl 15 rfl rfl rfl (spec_NewSeason_ok _ _ _ (hx49)) rfl rfl rfl) ?_
 refine AO.pu T ?_
 refine AO.pu T (d:=.g [.R 15,.R 16]) ?_
 refine AO.pu T ?_
 refine AO.step rfl (alloc_ok T rfl 17 rfl rfl rfl rfl rfl) ?_
 refine AO.se T [.R 15,.R 16] ?_
 refine AO.pu T ?_
 refine AO.nil (AW.le (Le.ct 0 0 (σ':=(⟨[(1,.s (List.map encInt_u8 more)),(23,.p 11 0),(24,x44.2),(25,.p 14 0),(26,.v (.bool x46.2)),(27,.p 17 0),(28,.v (.bool x48.2))],[(11,.box [.s (List.map encSeason x44.1.seasons),.s (List.map encInt x44.1.weights)]),(12,.row 2 (List.map encSeasonO x46.1.seasons)),(13,.row 1 (List.map encInt x46.1.weights)),(14,.box [.R 12,.R 13]),(15,.row 2 (List.map encSeason x48.1.seasons)),(16,.row 1 (List.map encInt x48.1.weights)),(17,.box [.R 15,.R 16])],304,[]⟩:St))) ?_)
 iterate 2 refine AW.seq ?_
 obtain ⟨x50,hx51,hH⟩:=bindE hH
 obtain ⟨x52,hx53,hH⟩:=bindE hH
 obtain ⟨x54,hx55,hH⟩:=bindE hH
 refine AW.region ?_
 iterate 4 refine AO.pu T ?_
 refine AO.pureG T (d:=.g [.R 12,.R 13]) [] rfl trivial rfl rfl ?_
 refine AO.pureG T (d:=.g [.R 15,.R 16]) [] rfl trivial rfl rfl ?_
 refine AO.guard [185,186] rfl ⟨fun h=>h,fun h=>h,trivial⟩ (fun hg=>callLV_ok rfl rfl rfl (es:=[.g (encWorld (World.mk x46.1.seasons x46.1.weights)),.g (encWorld (World.mk x48.1.seasons x48.1.weights))]) ⟨lend_g (LendL.cons ((.rowR rfl (.map fun y=>frzSeason y))) (LendL.cons ((.rowR rfl (.map fun y=>.vs rfl))) LendL.nil)),lend_g (LendL.cons ((.rowR rfl (.map fun y=>.vs rfl))) (LendL.cons ((.rowR rfl (.map fun y=>.vs rfl))) LendL.nil)),trivial⟩ (laws_pSameWorld_ok _ _ _ (optT hx51 hg)) (zfree_v _) rfl) rfl ?_
 refine AO.pureG T [187] rfl ⟨fun h=>h,trivial⟩ rfl rfl ?_
 refine AO.val rfl rfl (pick_or rfl rfl rfl rfl) ?_
 refine AO.pu T ?_
 refine AO.pureG T [] rfl trivial rfl rfl ?_
 refine AO.pureG T [191] rfl ⟨fun h=>h,trivial⟩ rfl rfl ?_
 refine AO.pureG T (d:=.g [.R 12,.R 13]) [] rfl trivial rfl rfl ?_
 refine AO.guard [193] rfl ⟨fun h=>h,trivial⟩ (fun hg=>callLV_ok rfl rfl rfl (es:=[.g (encWorld (World.mk x46.1.seasons x46.1.weights))]) ⟨lend_g (LendL.cons ((.rowR rfl (.map fun y=>frzSeason y))) (LendL.cons ((.rowR rfl (.map fun y=>.vs rfl))) LendL.nil)),trivial⟩ (impl_IsWorld_ok fuel _ _ (optT hx53 hg)) (zfree_v _) rfl) rfl ?_
 refine AO.pureG T [194] rfl ⟨fun h=>h,trivial⟩ rfl rfl ?_
 refine AO.pureG T [195] rfl ⟨fun h=>h,trivial⟩ rfl rfl ?_
 refine AO.pureG T [] rfl trivial rfl rfl ?_
 refine AO.pureG T [197] rfl ⟨fun h=>h,trivial⟩ rfl rfl ?_
 refine AO.guard [198] rfl ⟨fun h=>h,trivial⟩ (fun hg=>len_row_ok T rfl rfl rfl rfl) rfl ?_
 refine AO.pureG T [] rfl trivial rfl rfl ?_
 refine AO.pureG T [200] rfl ⟨fun h=>h,trivial⟩ rfl rfl ?_
 refine AO.guard [201] rfl ⟨fun h=>h,trivial⟩ (fun hg=>len_map_ok T rfl rfl rfl) rfl ?_
 refine AO.pureG T [199,202] rfl ⟨fun h=>h,fun h=>h,trivial⟩ rfl rfl ?_
 refine AO.guard [196] rfl ⟨fun h=>h,trivial⟩ (fun hg=>pick_or rfl rfl rfl (by rw [hg];exact Bool.true_and _)) rfl ?_
 refine AO.pureG T [204] rfl ⟨fun h=>h,trivial⟩ rfl rfl ?_
 refine AO.pureG T [] rfl trivial rfl rfl ?_
 refine AO.pureG T [206] rfl ⟨fun h=>h,trivial⟩ rfl rfl ?_
 refine AO.guard [207] rfl ⟨fun h=>h,trivial⟩ (fun hg=>ix_row_ok T rfl rfl rfl rfl rfl rfl (optT hx55 hg)) rfl ?_
 refine AO.pureG T [208] rfl ⟨fun h=>h,trivial⟩ rfl rfl ?_
 refine AO.guard [209] rfl ⟨fun h=>h,trivial⟩ (fun hg=>load_row_ok T rfl rfl rfl rfl (getI_get (optT hx55 hg)) rfl rfl rfl) rfl ?_
 refine AO.pureG T [] rfl trivial rfl rfl ?_
 refine AO.pureG T [210,211] rfl ⟨fun h=>h,fun h=>h,trivial⟩ rfl rfl ?_
 refine AO.guard [205] rfl ⟨fun h=>h,trivial⟩ (fun hg=>pick_or rfl rfl rfl (by rw [hg];exact Bool.true_and _)) rfl ?_
 refine AO.guard [192] rfl ⟨fun h=>h,trivial⟩ (fun hg=>pick_and rfl rfl rfl (by rw [hg];exact Bool.true_and _)) rfl ?_
 refine AO.val rfl rfl (pick_or rfl rfl rfl rfl) ?_
 refine AO.nil (AW.le (Le.ct 0 0 (σ':=(⟨[(1,.s (List.map encInt_u8 more)),(215,.v (.bool (((!(x46.2 == x48.2)) || (!x50)) || (x46.2 && (((!x52) || decide ((x48.1.seasons.length:Int) < (x44.1.seasons.length:Int))) || (x54.best != x44.2))))))],[],304,[]⟩:St))) ?_)
 refine AW.cond (b:=(((!(x46.2 == x48.2)) || (!x50)) || (x46.2 && (((!x52) || decide ((x48.1.seasons.length:Int) < (x44.1.seasons.length:Int))) || (x54.best != x44.2))))) rfl (fun hc=>?_) (fun hc=>?_)
 replace hH:=condT hc hH
 refine AW.seq (AW.region (AO.pu T ?_))
 refine AO.nil (AW.ret ?_)
 have hR:=someE hH;subst hR
 exact retQ.i [] rfl (.c (.c .v))
 replace hH:=condF hc hH
 refine AW.skip (AW.seq ?_)
 obtain ⟨x56,hx57,hH⟩:=bindE hH
 refine AW.region (AO.pu T ?_)
 refine AO.step rfl (call_ok rfl 18 rfl rfl rfl (spec_DrawSeedsFor_ok fuel _ _ (hx57)) rfl rfl rfl) ?_
 refine AO.pu T ?_
 refine AO.pu T (d:=.g [.s (List.map encSeason x56.1.seasons),.s (List.map encInt x56.1.weights)]) ?_
 refine AO.pu T ?_
 refine AO.step rfl (alloc_ok T rfl 19 rfl rfl rfl rfl rfl) ?_
 refine AO.se T [.s (List.map encSeason x56.1.seasons),.s (List.map encInt x56.1.weights)] ?_
 refine AO.pu T ?_
 refine AO.nil (AW.seq ?_)
 obtain ⟨x58,hx59,hH⟩:=bindE hH
 refine AW.region (AO.pu T (d:=.g [.s (List.map encSeason x56.1.seasons),.s (List.map encInt x56.1.weights)]) ?_)
 refine AO.pu T ?_
 refine AO.step rfl (callL_ok rfl 20 rfl rfl (es:=[.g (encWorld (World.mk x56.1.seasons x56.1.weights)),.s (List.map encInt x56.2)]) (by exact ⟨.free rfl,(.rowR rfl (.map fun y=>.vs rfl)),trivial⟩) (impl_SeedsFor_ok fuel _ _ _ (hx59)) (zfree_t (zfl (.cons (zfree_map (fun y=>(.cons (zfree_v _) (.cons (zfree_v _) .nil)))) (.cons (zfree_v _) .nil)))) rfl rfl rfl) ?_
 iterate 5 refine AO.pu T ?_
 refine AO.nil (AW.seq ?_)
 obtain ⟨x60,hx61,hH⟩:=bindE hH
 refine AW.region (AO.pu T (d:=.g [.s (List.map encSeason x56.1.seasons),.s (List.map encInt x56.1.weights)]) ?_)
 refine AO.pu T ?_
 refine AO.step rfl (callL_ok rfl 21 rfl rfl (es:=[.g (encWorld (World.mk x56.1.seasons x56.1.weights)),.s (List.map encInt x56.2)]) (by exact ⟨.free rfl,(.rowR rfl (.map fun y=>.vs rfl)),trivial⟩) (spec_SeedsFor_ok fuel _ _ _ (hx61)) (zfree_t (zfl (.cons (zfree_map (fun y=>(.cons (zfree_v _) (.cons (zfree_v _) .nil)))) (.cons (zfree_v _) .nil)))) rfl rfl rfl) ?_
 iterate 5 refine AO.pu T ?_
 refine AO.nil (AW.le (Le.ct 0 0 (σ':=(⟨[(1,.s (List.map encInt_u8 more)),(30,.R 18),(31,.R 20),(32,.v (.bool x58.2)),(33,.R 21),(34,.v (.bool x60.2))],[(18,.row 1 (List.map encInt x56.2)),(20,.row 2 (List.map encEntrant x58.1)),(21,.row 2 (List.map encEntrant x60.1))],304,[]⟩:St))) ?_)
 iterate 2 refine AW.seq ?_
 obtain ⟨x62,hx63,hH⟩:=bindE hH
 obtain ⟨x64,hx65,hH⟩:=bindE hH
 refine AW.region ?_
 iterate 4 refine AO.pu T ?_
 iterate 2 refine AO.pureG T [] rfl trivial rfl rfl ?_
 refine AO.guard [237,238] rfl ⟨fun h=>h,fun h=>h,trivial⟩ (fun hg=>callLV_ok rfl rfl rfl (es:=[.s (List.map encEntrant x58.1),.s (List.map encEntrant x60.1)]) ⟨(.rowR rfl (.map fun y=>.vs rfl)),(.rowR rfl (.map fun y=>.vs rfl)),trivial⟩ (laws_pSameEntrants_ok _ _ _ (optT hx63 hg)) (zfree_v _) rfl) rfl ?_
 refine AO.pureG T [239] rfl ⟨fun h=>h,trivial⟩ rfl rfl ?_
 refine AO.val rfl rfl (pick_or rfl rfl rfl rfl) ?_
 refine AO.pu T ?_
 refine AO.pureG T [] rfl trivial rfl rfl ?_
 refine AO.pureG T [243] rfl ⟨fun h=>h,trivial⟩ rfl rfl ?_
 refine AO.pureG T [] rfl trivial rfl rfl ?_
 refine AO.guard [245] rfl ⟨fun h=>h,trivial⟩ (fun hg=>callLV_ok rfl rfl rfl (es:=[.s (List.map encEntrant x58.1)]) ⟨(.rowR rfl (.map fun y=>.vs rfl)),trivial⟩ (impl_AreEntrants_ok _ _ (optT hx65 hg)) (zfree_v _) rfl) rfl ?_
 refine AO.pureG T [246] rfl ⟨fun h=>h,trivial⟩ rfl rfl ?_
 refine AO.pureG T [247] rfl ⟨fun h=>h,trivial⟩ rfl rfl ?_
 refine AO.pureG T [] rfl trivial rfl rfl ?_
 refine AO.guard [249] rfl ⟨fun h=>h,trivial⟩ (fun hg=>len_row_ok T rfl rfl rfl rfl) rfl ?_
 refine AO.pureG T [] rfl trivial rfl rfl ?_
 refine AO.guard [251] rfl ⟨fun h=>h,trivial⟩ (fun hg=>len_row_ok T rfl rfl rfl rfl) rfl ?_
 refine AO.pureG T [250,252] rfl ⟨fun h=>h,fun h=>h,trivial⟩ rfl rfl ?_
 refine AO.guard [248] rfl ⟨fun h=>h,trivial⟩ (fun hg=>pick_or rfl rfl rfl (by rw [hg];exact Bool.true_and _)) rfl ?_
 refine AO.guard [244] rfl ⟨fun h=>h,trivial⟩ (fun hg=>pick_and rfl rfl rfl (by rw [hg];exact Bool.true_and _)) rfl ?_
 refine AO.val rfl rfl (pick_or rfl rfl rfl rfl) ?_
 refine AO.nil (AW.le (Le.ct 0 0 (σ':=(⟨[(1,.s (List.map encInt_u8 more)),(256,.v (.bool (((!(x58.2 == x60.2)) || (!x62)) || (x58.2 && ((!x64) || ((x60.1.length:Int) != (x56.2.length:Int)))))))],[],304,[]⟩:St))) ?_)
 refine AW.cond (b:=(((!(x58.2 == x60.2)) || (!x62)) || (x58.2 && ((!x64) || ((x60.1.length:Int) != (x56.2.length:Int)))))) rfl (fun hc=>?_) (fun hc=>?_)
 replace hH:=condT hc hH
 refine AW.seq (AW.region (AO.pu T ?_))
 refine AO.nil (AW.ret ?_)
 have hR:=someE hH;subst hR
 exact retQ.i [] rfl (.c (.c .v))
 replace hH:=condF hc hH
 refine AW.skip (AW.seq ?_)
 obtain ⟨x66,hx67,hH⟩:=bindE hH
 refine AW.region (AO.pu T ?_)
 refine AO.val rfl rfl (callV_ok rfl rfl rfl rfl (spec_DrawRankChanges_ok fuel _ _ (hx67)) rfl) ?_
 refine AO.pu T ?_
 refine AO.pu T (d:=.g [.s (List.map encSeason x66.1.seasons),.s (List.map encInt x66.1.weights)]) ?_
 refine AO.pu T (d:=.g [.s (List.map encSeason x66.2.seasons),.s (List.map encInt x66.2.weights)]) ?_
 refine AO.step rfl (alloc_ok T rfl 22 rfl rfl rfl rfl rfl) ?_
 refine AO.step rfl (alloc_ok T rfl 23 rfl rfl rfl rfl rfl) ?_
 refine AO.se T [.s (List.map encSeason x66.1.seasons),.s (List.map encInt x66.1.weights)] ?_
 refine AO.se T [.s (List.map encSeason x66.2.seasons),.s (List.map encInt x66.2.weights)] ?_
 refine AO.nil (AW.seq ?_)
 obtain ⟨x68,hx69,hH⟩:=bindE hH
 refine AW.region (AO.pu T (d:=.g [.s (List.map encSeason x66.1.seasons),.s (List.map encInt x66.1.weights)]) ?_)
 refine AO.pu T (d:=.g [.s (List.map encSeason x66.2.seasons),.s (List.map encInt x66.2.weights)]) ?_
 refine AO.step rfl (call_ok rfl 24 rfl rfl rfl (impl_RankChanges_ok fuel _ _ _ (hx69)) rfl rfl rfl) ?_
 iterate 5 refine AO.pu T ?_
 refine AO.nil (AW.seq ?_)
 obtain ⟨x70,hx71,hH⟩:=bindE hH
 refine AW.region (AO.pu T (d:=.g [.s (List.map encSeason x66.1.seasons),.s (List.map encInt x66.1.weights)]) ?_)
 refine AO.pu T (d:=.g [.s (List.map encSeason x66.2.seasons),.s (List.map encInt x66.2.weights)]) ?_
 refine AO.step rfl (call_ok rfl 25 rfl rfl rfl (spec_RankChanges_ok fuel _ _ _ (hx71)) rfl rfl rfl) ?_
 iterate 5 refine AO.pu T ?_
 refine AO.nil (AW.le (Le.ct 0 0 (σ':=(⟨[(35,.p 22 0),(37,.R 24),(38,.v (.bool x68.2)),(39,.R 25),(40,.v (.bool x70.2))],[(22,.box [.s (List.map encSeason x66.1.seasons),.s (List.map encInt x66.1.weights)]),(24,.row 1 (List.map encLIntO x68.1)),(25,.row 1 (List.map encLInt x70.1))],304,[]⟩:St))) ?_)
 refine AW.seq ?_
 obtain ⟨x72,hx73,hH⟩:=bindE hH
 refine AW.region ?_
 iterate 2 refine AO.pu T (d:=.g [.s (List.map encSeason x66.1.seasons),.s (List.map encInt x66.1.weights)]) ?_
 refine AO.step rfl (call_ok rfl 26 rfl rfl rfl (impl_RankChanges_ok fuel _ _ _ (hx73)) rfl rfl rfl) ?_
 iterate 5 refine AO.pu T ?_
 refine AO.nil (AW.seq ?_)
 obtain ⟨x74,hx75,hH⟩:=bindE hH
 refine AW.region ?_
 iterate 4 refine AO.pu T ?_
 iterate 2 refine AO.pureG T [] rfl trivial rfl rfl ?_
 refine AO.guard [284,285] rfl ⟨fun h=>h,fun h=>h,trivial⟩ (fun hg=>callLV_ok rfl rfl rfl (es:=[.s (List.map encLInt x68.1),.s (List.map encLInt x70.1)]) ⟨(.rowR rfl (.map fun y=>frzLInt y)),(.rowR rfl (.map fun y=>.vs rfl)),trivial⟩ (laws_sameLists_ok _ _ _ (optT hx75 hg)) (zfree_v _) rfl) rfl ?_
 refine AO.val rfl rfl (pick_and rfl rfl rfl rfl) ?_
 refine AO.pu T ?_
 refine AO.pureG T [] rfl trivial rfl rfl ?_
 refine AO.pureG T [289] rfl ⟨fun h=>h,trivial⟩ rfl rfl ?_
 refine AO.pureG T [290] rfl ⟨fun h=>h,trivial⟩ rfl rfl ?_
 refine AO.pureG T [] rfl trivial rfl rfl ?_
 refine AO.guard [292] rfl ⟨fun h=>h,trivial⟩ (fun hg=>len_row_ok T rfl rfl rfl rfl) rfl ?_
 refine AO.pureG T [293] rfl ⟨fun h=>h,trivial⟩ rfl rfl ?_
 refine AO.guard [291] rfl ⟨fun h=>h,trivial⟩ (fun hg=>pick_or rfl rfl rfl (by rw [hg];exact Bool.true_and _)) rfl ?_
 refine AO.val rfl rfl (pick_and rfl rfl rfl rfl) ?_
 refine AO.pu T ?_
 refine AO.pureG T [] rfl trivial rfl rfl ?_
 refine AO.pureG T [298] rfl ⟨fun h=>h,trivial⟩ rfl rfl ?_
 refine AO.pureG T [] rfl trivial rfl rfl ?_
 refine AO.pureG T [300] rfl ⟨fun h=>h,trivial⟩ rfl rfl ?_
 refine AO.guard [299] rfl ⟨fun h=>h,trivial⟩ (fun hg=>pick_or rfl rfl rfl (by rw [hg];exact Bool.true_and _)) rfl ?_
 refine AO.val rfl rfl (pick_and rfl rfl rfl rfl) ?_
 refine AO.pu T ?_
 refine AO.nil (AW.le (Le.ct 0 0 (σ':=(⟨[(4,.v (.bool ((((x68.2 == x70.2) && x74) && ((!x72.2) || ((x72.1.length:Int) == 0))) && (x72.2 || (!x68.2)))))],[],304,[]⟩:St))) ?_)
 refine AW.ret ?_
 have hR:=someE hH;subst hR
 exact retQ.i [] rfl (.c (.c .v))
 rw [hd28,laws_FnWorldChanges_l1] at hH
 have hlt30:=drop_lt hd28
 refine AW.seq (AW.region (AO.pu T ?_))
 refine AO.nil (AW.seq (AW.condT' (b:=decide ((k25:Int) < (x21.1.length:Int))) rfl (rngT hlt30) ?_))
 refine AW.skip (AW.seq ?_)
 refine AW.block (AW.seq (AW.region ?_))
 refine AO.val rfl rfl (ix_row_ok T rfl rfl rfl rfl rfl rfl (getI_drop hd28)) ?_
 refine AO.val rfl rfl (load_row_ok T rfl rfl rfl rfl (getI_get (getI_drop hd28)) rfl rfl rfl) ?_
 refine AO.pu T ?_
 refine AO.nil (AW.seq ?_)
 obtain ⟨x76,hx77,hH⟩:=bindE hH
 obtain ⟨x78,hx79,hH⟩:=bindE hH
 obtain ⟨x80,hx81,hH⟩:=bindE hH
 refine AW.drawn 13 27 [] mix (by kernel_rfl) rfl ?_
 refine AD.pure T rfl rfl rfl ?_
 refine AD.val rfl rfl (ix_map_ok T rfl rfl rfl rfl rfl (hx77) rfl) ?_
 iterate 5 refine AD.pure T rfl rfl rfl ?_
 refine AD.pureG T [] rfl trivial rfl rfl ?_
 refine AD.guard [155] rfl ⟨fun h=>h,trivial⟩ (fun hg=>ix_map_ok T rfl rfl rfl rfl rfl (optT hx79 hg) rfl) rfl ?_
 refine AD.pureG T [156] rfl ⟨fun h=>h,trivial⟩ rfl rfl ?_
 refine AD.pureG T [] rfl trivial rfl rfl ?_
 refine AD.guard [158] rfl ⟨fun h=>h,trivial⟩ (fun hg=>ix_map_ok T rfl rfl rfl rfl rfl (optT hx81 hg) rfl) rfl ?_
 refine AD.pureG T [159] rfl ⟨fun h=>h,trivial⟩ rfl rfl ?_
 refine AD.nil (AO.pureG T [157,160] rfl ⟨fun h=>h,fun h=>h,trivial⟩ rfl rfl ?_)
 refine AO.val rfl rfl (pick_and rfl rfl rfl rfl) ?_
 refine AO.nil (AW.cond (b:=((x76 == x3.2.skater) && decide (x78 > x80))) rfl (fun hc=>?_) (fun hc=>?_))
 replace hH:=condT hc hH
 refine AW.seq (AW.region (AO.pu T ?_))
 refine AO.nil (AW.ret ?_)
 have hR:=someE hH;subst hR
 exact retQ.i [] rfl (.c (.c .v))
 replace hH:=condF hc hH
 refine AW.skip (AW.region ?_)
 refine AO.val rfl rfl (ar_ok rfl rfl rfl rfl (inI_succ hlt30 hb29)) ?_
 refine AO.pu T ?_
 refine AO.nil ?_
 refine ⟨k25+1,⟨Nat.succ_le_of_lt hlt30,(by rw [drop_succ_of hd28];exact hH)⟩,(by have:=hlt30;dsimp only;omega),?_⟩
 exact Le.ct 0 0
 replace hH:=condF hc hH
 refine AW.skip (AW.seq ?_)
 obtain ⟨x82,hx83,hH⟩:=bindE hH
 refine AW.region (AO.pu T ?_)
 refine AO.val rfl rfl (callV_ok rfl rfl rfl rfl (spec_DrawNewSeason_ok fuel _ _ (hx83)) rfl) ?_
 refine AO.pu T ?_
 refine AO.pu T (d:=.g [.s (List.map encSeason x82.1.seasons),.s (List.map encInt x82.1.weights)]) ?_
 refine AO.pu T ?_
 refine AO.step rfl (alloc_ok T rfl 27 rfl rfl rfl rfl rfl) ?_
 refine AO.se T [.s (List.map encSeason x82.1.seasons),.s (List.map encInt x82.1.weights)] ?_
 refine AO.pu T ?_
 refine AO.nil (AW.seq ?_)
 obtain ⟨x84,hx85,hH⟩:=bindE hH
 refine AW.region (AO.pu T (d:=.g [.s (List.map encSeason x82.1.seasons),.s (List.map encInt x82.1.weights)]) ?_)
 refine AO.pu T ?_
 refine AO.step rfl (call_ok rfl 28 rfl rfl rfl (impl_NewSeason_ok fuel _ _ _ (hx85)) rfl rfl rfl) ?_
 refine AO.pu T ?_
 refine AO.pu T (d:=.g [.R 28,.R 29]) ?_
 refine AO.pu T ?_
 refine AO.step rfl (alloc_ok T rfl 30 rfl rfl rfl rfl rfl) ?_
 refine AO.se T [.R 28,.R 29] ?_
 refine AO.pu T ?_
 refine AO.nil (AW.le (Le.ct 0 0 (σ':=(⟨[(1,.s (List.map encInt_u8 more)),(23,.p 27 0),(24,x82.2),(25,.p 30 0),(26,.v (.bool x84.2))],[(27,.box [.s (List.map encSeason x82.1.seasons),.s (List.map encInt x82.1.weights)]),(28,.row 2 (List.map encSeasonO x84.1.seasons)),(29,.row 1 (List.map encInt x84.1.weights)),(30,.box [.R 28,.R 29])],304,[]⟩:St))) ?_)
 refine AW.seq ?_
 obtain ⟨x86,hx87,hH⟩:=bindE hH
 refine AW.region (AO.pu T (d:=.g [.s (List.map encSeason x82.1.seasons),.s (List.map encInt x82.1.weights)]) ?_)
 refine AO.pu T ?_
 refine AO.step rfl (call_ok rfl 31 rfl rfl rfl (spec_NewSeason_ok _ _ _ (hx87)) rfl rfl rfl) ?_
 refine AO.pu T ?_
 refine AO.pu T (d:=.g [.R 31,.R 32]) ?_
 refine AO.pu T ?_
 refine AO.step rfl (alloc_ok T rfl 33 rfl rfl rfl rfl rfl) ?_
 refine AO.se T [.R 31,.R 32] ?_
 refine AO.pu T ?_
 refine AO.nil ?_
 iterate 2 refine AW.seq ?_
 obtain ⟨x88,hx89,hH⟩:=bindE hH
 obtain ⟨x90,hx91,hH⟩:=bindE hH
 obtain ⟨x92,hx93,hH⟩:=bindE hH
 refine AW.region ?_
 iterate 4 refine AO.pu T ?_
 refine AO.pureG T (d:=.g [.R 28,.R 29]) [] rfl trivial rfl rfl ?_
 refine AO.pureG T (d:=.g [.R 31,.R 32]) [] rfl trivial rfl rfl ?_
 refine AO.guard [185,186] rfl ⟨fun h=>h,fun h=>h,trivial⟩ (fun hg=>callLV_ok rfl rfl rfl (es:=[.g (encWorld (World.mk x84.1.seasons x84.1.weights)),.g (encWorld (World.mk x86.1.seasons x86.1.weights))]) ⟨lend_g (LendL.cons ((.rowR rfl (.map fun y=>frzSeason y))) (LendL.cons ((.rowR rfl (.map fun y=>.vs rfl))) LendL.nil)),lend_g (LendL.cons ((.rowR rfl (.map fun y=>.vs rfl))) (LendL.cons ((.rowR rfl (.map fun y=>.vs rfl))) LendL.nil)),trivial⟩ (laws_pSameWorld_ok _ _ _ (optT hx89 hg)) (zfree_v _) rfl) rfl ?_
 refine AO.pureG T [187] rfl ⟨fun h=>h,trivial⟩ rfl rfl ?_
 refine AO.val rfl rfl (pick_or rfl rfl rfl rfl) ?_
 refine AO.pu T ?_
 refine AO.pureG T [] rfl trivial rfl rfl ?_
 refine AO.pureG T [191] rfl ⟨fun h=>h,trivial⟩ rfl rfl ?_
 refine AO.pureG T (d:=.g [.R 28,.R 29]) [] rfl trivial rfl rfl ?_
 refine AO.guard [193] rfl ⟨fun h=>h,trivial⟩ (fun hg=>callLV_ok rfl rfl rfl (es:=[.g (encWorld (World.mk x84.1.seasons x84.1.weights))]) ⟨lend_g (LendL.cons ((.rowR rfl (.map fun y=>frzSeason y))) (LendL.cons ((.rowR rfl (.map fun y=>.vs rfl))) LendL.nil)),trivial⟩ (impl_IsWorld_ok fuel _ _ (optT hx91 hg)) (zfree_v _) rfl) rfl ?_
 refine AO.pureG T [194] rfl ⟨fun h=>h,trivial⟩ rfl rfl ?_
 refine AO.pureG T [195] rfl ⟨fun h=>h,trivial⟩ rfl rfl ?_
 refine AO.pureG T [] rfl trivial rfl rfl ?_
 refine AO.pureG T [197] rfl ⟨fun h=>h,trivial⟩ rfl rfl ?_
 refine AO.guard [198] rfl ⟨fun h=>h,trivial⟩ (fun hg=>len_row_ok T rfl rfl rfl rfl) rfl ?_
 refine AO.pureG T [] rfl trivial rfl rfl ?_
 refine AO.pureG T [200] rfl ⟨fun h=>h,trivial⟩ rfl rfl ?_
 refine AO.guard [201] rfl ⟨fun h=>h,trivial⟩ (fun hg=>len_map_ok T rfl rfl rfl) rfl ?_
 refine AO.pureG T [199,202] rfl ⟨fun h=>h,fun h=>h,trivial⟩ rfl rfl ?_
 refine AO.guard [196] rfl ⟨fun h=>h,trivial⟩ (fun hg=>pick_or rfl rfl rfl (by rw [hg];exact Bool.true_and _)) rfl ?_
 refine AO.pureG T [204] rfl ⟨fun h=>h,trivial⟩ rfl rfl ?_
 refine AO.pureG T [] rfl trivial rfl rfl ?_
 refine AO.pureG T [206] rfl ⟨fun h=>h,trivial⟩ rfl rfl ?_
 refine AO.guard [207] rfl ⟨fun h=>h,trivial⟩ (fun hg=>ix_row_ok T rfl rfl rfl rfl rfl rfl (optT hx93 hg)) rfl ?_
 refine AO.pureG T [208] rfl ⟨fun h=>h,trivial⟩ rfl rfl ?_
 refine AO.guard [209] rfl ⟨fun h=>h,trivial⟩ (fun hg=>load_row_ok T rfl rfl rfl rfl (getI_get (optT hx93 hg)) rfl rfl rfl) rfl ?_
 refine AO.pureG T [] rfl trivial rfl rfl ?_
 refine AO.pureG T [210,211] rfl ⟨fun h=>h,fun h=>h,trivial⟩ rfl rfl ?_
 refine AO.guard [205] rfl ⟨fun h=>h,trivial⟩ (fun hg=>pick_or rfl rfl rfl (by rw [hg];exact Bool.true_and _)) rfl ?_
 refine AO.guard [192] rfl ⟨fun h=>h,trivial⟩ (fun hg=>pick_and rfl rfl rfl (by rw [hg];exact Bool.true_and _)) rfl ?_
 refine AO.val rfl rfl (pick_or rfl rfl rfl rfl) ?_
 refine AO.nil (AW.le (Le.ct 0 0 (σ':=(⟨[(1,.s (List.map encInt_u8 more)),(215,.v (.bool (((!(x84.2 == x86.2)) || (!x88)) || (x84.2 && (((!x90) || decide ((x86.1.seasons.length:Int) < (x82.1.seasons.length:Int))) || (x92.best != x82.2))))))],[],304,[]⟩:St))) ?_)
 refine AW.cond (b:=(((!(x84.2 == x86.2)) || (!x88)) || (x84.2 && (((!x90) || decide ((x86.1.seasons.length:Int) < (x82.1.seasons.length:Int))) || (x92.best != x82.2))))) rfl (fun hc=>?_) (fun hc=>?_)
 replace hH:=condT hc hH
 refine AW.seq (AW.region (AO.pu T ?_))
 refine AO.nil (AW.ret ?_)
 have hR:=someE hH;subst hR
 exact retQ.i [] rfl (.c (.c .v))
 replace hH:=condF hc hH
 refine AW.skip (AW.seq ?_)
 obtain ⟨x94,hx95,hH⟩:=bindE hH
 refine AW.region (AO.pu T ?_)
 refine AO.step rfl (call_ok rfl 34 rfl rfl rfl (spec_DrawSeedsFor_ok fuel _ _ (hx95)) rfl rfl rfl) ?_
 refine AO.pu T ?_
 refine AO.pu T (d:=.g [.s (List.map encSeason x94.1.seasons),.s (List.map encInt x94.1.weights)]) ?_
 refine AO.pu T ?_
 refine AO.step rfl (alloc_ok T rfl 35 rfl rfl rfl rfl rfl) ?_
 refine AO.se T [.s (List.map encSeason x94.1.seasons),.s (List.map encInt x94.1.weights)] ?_
 refine AO.pu T ?_
 refine AO.nil (AW.seq ?_)
 obtain ⟨x96,hx97,hH⟩:=bindE hH
 refine AW.region (AO.pu T (d:=.g [.s (List.map encSeason x94.1.seasons),.s (List.map encInt x94.1.weights)]) ?_)
 refine AO.pu T ?_
 refine AO.step rfl (callL_ok rfl 36 rfl rfl (es:=[.g (encWorld (World.mk x94.1.seasons x94.1.weights)),.s (List.map encInt x94.2)]) (by exact ⟨.free rfl,(.rowR rfl (.map fun y=>.vs rfl)),trivial⟩) (impl_SeedsFor_ok fuel _ _ _ (hx97)) (zfree_t (zfl (.cons (zfree_map (fun y=>(.cons (zfree_v _) (.cons (zfree_v _) .nil)))) (.cons (zfree_v _) .nil)))) rfl rfl rfl) ?_
 iterate 5 refine AO.pu T ?_
 refine AO.nil (AW.seq ?_)
 obtain ⟨x98,hx99,hH⟩:=bindE hH
 refine AW.region (AO.pu T (d:=.g [.s (List.map encSeason x94.1.seasons),.s (List.map encInt x94.1.weights)]) ?_)
 refine AO.pu T ?_
 refine AO.step rfl (callL_ok rfl 37 rfl rfl (es:=[.g (encWorld (World.mk x94.1.seasons x94.1.weights)),.s (List.map encInt x94.2)]) (by exact ⟨.free rfl,(.rowR rfl (.map fun y=>.vs rfl)),trivial⟩) (spec_SeedsFor_ok fuel _ _ _ (hx99)) (zfree_t (zfl (.cons (zfree_map (fun y=>(.cons (zfree_v _) (.cons (zfree_v _) .nil)))) (.cons (zfree_v _) .nil)))) rfl rfl rfl) ?_
 iterate 5 refine AO.pu T ?_
 refine AO.nil (AW.le (Le.ct 0 0 (σ':=(⟨[(1,.s (List.map encInt_u8 more)),(30,.R 34),(31,.R 36),(32,.v (.bool x96.2)),(33,.R 37),(34,.v (.bool x98.2))],[(34,.row 1 (List.map encInt x94.2)),(36,.row 2 (List.map encEntrant x96.1)),(37,.row 2 (List.map encEntrant x98.1))],304,[]⟩:St))) ?_)
 iterate 2 refine AW.seq ?_
 obtain ⟨x100,hx101,hH⟩:=bindE hH
 obtain ⟨x102,hx103,hH⟩:=bindE hH
 refine AW.region ?_
 iterate 4 refine AO.pu T ?_
 iterate 2 refine AO.pureG T [] rfl trivial rfl rfl ?_
 refine AO.guard [237,238] rfl ⟨fun h=>h,fun h=>h,trivial⟩ (fun hg=>callLV_ok rfl rfl rfl (es:=[.s (List.map encEntrant x96.1),.s (List.map encEntrant x98.1)]) ⟨(.rowR rfl (.map fun y=>.vs rfl)),(.rowR rfl (.map fun y=>.vs rfl)),trivial⟩ (laws_pSameEntrants_ok _ _ _ (optT hx101 hg)) (zfree_v _) rfl) rfl ?_
 refine AO.pureG T [239] rfl ⟨fun h=>h,trivial⟩ rfl rfl ?_
 refine AO.val rfl rfl (pick_or rfl rfl rfl rfl) ?_
 refine AO.pu T ?_
 refine AO.pureG T [] rfl trivial rfl rfl ?_
 refine AO.pureG T [243] rfl ⟨fun h=>h,trivial⟩ rfl rfl ?_
 refine AO.pureG T [] rfl trivial rfl rfl ?_
 refine AO.guard [245] rfl ⟨fun h=>h,trivial⟩ (fun hg=>callLV_ok rfl rfl rfl (es:=[.s (List.map encEntrant x96.1)]) ⟨(.rowR rfl (.map fun y=>.vs rfl)),trivial⟩ (impl_AreEntrants_ok _ _ (optT hx103 hg)) (zfree_v _) rfl) rfl ?_
 refine AO.pureG T [246] rfl ⟨fun h=>h,trivial⟩ rfl rfl ?_
 refine AO.pureG T [247] rfl ⟨fun h=>h,trivial⟩ rfl rfl ?_
 refine AO.pureG T [] rfl trivial rfl rfl ?_
 refine AO.guard [249] rfl ⟨fun h=>h,trivial⟩ (fun hg=>len_row_ok T rfl rfl rfl rfl) rfl ?_
 refine AO.pureG T [] rfl trivial rfl rfl ?_
 refine AO.guard [251] rfl ⟨fun h=>h,trivial⟩ (fun hg=>len_row_ok T rfl rfl rfl rfl) rfl ?_
 refine AO.pureG T [250,252] rfl ⟨fun h=>h,fun h=>h,trivial⟩ rfl rfl ?_
 refine AO.guard [248] rfl ⟨fun h=>h,trivial⟩ (fun hg=>pick_or rfl rfl rfl (by rw [hg];exact Bool.true_and _)) rfl ?_
 refine AO.guard [244] rfl ⟨fun h=>h,trivial⟩ (fun hg=>pick_and rfl rfl rfl (by rw [hg];exact Bool.true_and _)) rfl ?_
 refine AO.val rfl rfl (pick_or rfl rfl rfl rfl) ?_
 refine AO.nil (AW.le (Le.ct 0 0 (σ':=(⟨[(1,.s (List.map encInt_u8 more)),(256,.v (.bool (((!(x96.2 == x98.2)) || (!x100)) || (x96.2 && ((!x102) || ((x98.1.length:Int) != (x94.2.length:Int)))))))],[],304,[]⟩:St))) ?_)
 refine AW.cond (b:=(((!(x96.2 == x98.2)) || (!x100)) || (x96.2 && ((!x102) || ((x98.1.length:Int) != (x94.2.length:Int)))))) rfl (fun hc=>?_) (fun hc=>?_)
 replace hH:=condT hc hH
 refine AW.seq (AW.region (AO.pu T ?_))
 refine AO.nil (AW.ret ?_)
 have hR:=someE hH;subst hR
 exact retQ.i [] rfl (.c (.c .v))
 replace hH:=condF hc hH
 refine AW.skip (AW.seq ?_)
 obtain ⟨x104,hx105,hH⟩:=bindE hH
 refine AW.region (AO.pu T ?_)
 refine AO.val rfl rfl (callV_ok rfl rfl rfl rfl (spec_DrawRankChanges_ok fuel _ _ (hx105)) rfl) ?_
 refine AO.pu T ?_
 refine AO.pu T (d:=.g [.s (List.map encSeason x104.1.seasons),.s (List.map encInt x104.1.weights)]) ?_
 refine AO.pu T (d:=.g [.s (List.map encSeason x104.2.seasons),.s (List.map encInt x104.2.weights)]) ?_
 refine AO.step rfl (alloc_ok T rfl 38 rfl rfl rfl rfl rfl) ?_
 refine AO.step rfl (alloc_ok T rfl 39 rfl rfl rfl rfl rfl) ?_
 refine AO.se T [.s (List.map encSeason x104.1.seasons),.s (List.map encInt x104.1.weights)] ?_
 refine AO.se T [.s (List.map encSeason x104.2.seasons),.s (List.map encInt x104.2.weights)] ?_
 refine AO.nil (AW.seq ?_)
 obtain ⟨x106,hx107,hH⟩:=bindE hH
 refine AW.region (AO.pu T (d:=.g [.s (List.map encSeason x104.1.seasons),.s (List.map encInt x104.1.weights)]) ?_)
 refine AO.pu T (d:=.g [.s (List.map encSeason x104.2.seasons),.s (List.map encInt x104.2.weights)]) ?_
 refine AO.step rfl (call_ok rfl 40 rfl rfl rfl (impl_RankChanges_ok fuel _ _ _ (hx107)) rfl rfl rfl) ?_
 iterate 5 refine AO.pu T ?_
 refine AO.nil (AW.seq ?_)
 obtain ⟨x108,hx109,hH⟩:=bindE hH
 refine AW.region (AO.pu T (d:=.g [.s (List.map encSeason x104.1.seasons),.s (List.map encInt x104.1.weights)]) ?_)
 refine AO.pu T (d:=.g [.s (List.map encSeason x104.2.seasons),.s (List.map encInt x104.2.weights)]) ?_
 refine AO.step rfl (call_ok rfl 41 rfl rfl rfl (spec_RankChanges_ok fuel _ _ _ (hx109)) rfl rfl rfl) ?_
 iterate 5 refine AO.pu T ?_
 refine AO.nil (AW.le (Le.ct 0 0 (σ':=(⟨[(35,.p 38 0),(37,.R 40),(38,.v (.bool x106.2)),(39,.R 41),(40,.v (.bool x108.2))],[(38,.box [.s (List.map encSeason x104.1.seasons),.s (List.map encInt x104.1.weights)]),(40,.row 1 (List.map encLIntO x106.1)),(41,.row 1 (List.map encLInt x108.1))],304,[]⟩:St))) ?_)
 refine AW.seq ?_
 obtain ⟨x110,hx111,hH⟩:=bindE hH
 refine AW.region ?_
 iterate 2 refine AO.pu T (d:=.g [.s (List.map encSeason x104.1.seasons),.s (List.map encInt x104.1.weights)]) ?_
 refine AO.step rfl (call_ok rfl 42 rfl rfl rfl (impl_RankChanges_ok fuel _ _ _ (hx111)) rfl rfl rfl) ?_
 iterate 5 refine AO.pu T ?_
 refine AO.nil (AW.seq ?_)
 obtain ⟨x112,hx113,hH⟩:=bindE hH
 refine AW.region ?_
 iterate 4 refine AO.pu T ?_
 iterate 2 refine AO.pureG T [] rfl trivial rfl rfl ?_
 refine AO.guard [284,285] rfl ⟨fun h=>h,fun h=>h,trivial⟩ (fun hg=>callLV_ok rfl rfl rfl (es:=[.s (List.map encLInt x106.1),.s (List.map encLInt x108.1)]) ⟨(.rowR rfl (.map fun y=>frzLInt y)),(.rowR rfl (.map fun y=>.vs rfl)),trivial⟩ (laws_sameLists_ok _ _ _ (optT hx113 hg)) (zfree_v _) rfl) rfl ?_
 refine AO.val rfl rfl (pick_and rfl rfl rfl rfl) ?_
 refine AO.pu T ?_
 refine AO.pureG T [] rfl trivial rfl rfl ?_
 refine AO.pureG T [289] rfl ⟨fun h=>h,trivial⟩ rfl rfl ?_
 refine AO.pureG T [290] rfl ⟨fun h=>h,trivial⟩ rfl rfl ?_
 refine AO.pureG T [] rfl trivial rfl rfl ?_
 refine AO.guard [292] rfl ⟨fun h=>h,trivial⟩ (fun hg=>len_row_ok T rfl rfl rfl rfl) rfl ?_
 refine AO.pureG T [293] rfl ⟨fun h=>h,trivial⟩ rfl rfl ?_
 refine AO.guard [291] rfl ⟨fun h=>h,trivial⟩ (fun hg=>pick_or rfl rfl rfl (by rw [hg];exact Bool.true_and _)) rfl ?_
 refine AO.val rfl rfl (pick_and rfl rfl rfl rfl) ?_
 refine AO.pu T ?_
 refine AO.pureG T [] rfl trivial rfl rfl ?_
 refine AO.pureG T [298] rfl ⟨fun h=>h,trivial⟩ rfl rfl ?_
 refine AO.pureG T [] rfl trivial rfl rfl ?_
 refine AO.pureG T [300] rfl ⟨fun h=>h,trivial⟩ rfl rfl ?_
 refine AO.guard [299] rfl ⟨fun h=>h,trivial⟩ (fun hg=>pick_or rfl rfl rfl (by rw [hg];exact Bool.true_and _)) rfl ?_
 refine AO.val rfl rfl (pick_and rfl rfl rfl rfl) ?_
 refine AO.pu T ?_
 refine AO.nil (AW.le (Le.ct 0 0 (σ':=(⟨[(4,.v (.bool ((((x106.2 == x108.2) && x112) && ((!x110.2) || ((x110.1.length:Int) == 0))) && (x110.2 || (!x106.2)))))],[],304,[]⟩:St))) ?_)
 refine AW.ret ?_
 have hR:=someE hH;subst hR
 exact retQ.i [] rfl (.c (.c .v))

end Go.Proofs.YtegdphhfimaieaaGreat

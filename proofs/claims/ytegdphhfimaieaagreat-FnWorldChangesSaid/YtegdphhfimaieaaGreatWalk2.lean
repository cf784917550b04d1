/- The walk, part 2: what each function reached by the law FnWorldChanges computes. No condition. -/
import Derived.Test.YtegdphhfimaieaaGreatWalk1
set_option maxRecDepth 4000
set_option maxHeartbeats 1000000
set_option linter.unusedVariables false
set_option linter.unusedSimpArgs false
set_option linter.unusedSectionVars false

namespace Go.Proofs.YtegdphhfimaieaaGreat
open Go.AM

def impl_AddToWorld_l1 (x7:(List Int)):List Season→Nat→List Season→Option ((World × Bool))
  | [],k11,v26 =>
    some ((World.mk v26 x7),true)
  | y12::ys13,k11,v26 =>
    (impl_copySeason_p y12).bind fun x28 =>
    (need (fitsB 32 (v26.length+([x28]).length))).bind fun u30 =>
    impl_AddToWorld_l1 x7 ys13 (k11+1) (v26++[x28])
def impl_AddToWorld_p (fuel:Nat) (w:World) (e:Entry):Option (World × Bool) :=
  (impl_IsWorld_p fuel w).bind fun x1 =>
  cond (!x1)
    (some ((World.mk [] []),false))
    ((getI w.seasons 0).bind fun x3 =>
    (impl_AddEntry_p fuel x3 e).bind fun x5 =>
    cond (!x5.2)
      (some ((World.mk [] []),false))
      ((impl_copyInts_p w.weights).bind fun x7 =>
      (sliceLo w.seasons 1).bind fun x9 =>
      impl_AddToWorld_l1 x7 x9 0 [(Season.mk x5.1.best x5.1.lines)]))
theorem impl_AddToWorld_ok (fuel:Nat) (w:World) (e:Entry) (r:(World × Bool)) (hH:impl_AddToWorld_p fuel w e=some r):SpecR Tryz.prog 24 [.g (encWorld w),.g (encEntry e)] (.t [.g (encWorldO r.1),.v (.bool r.2)]):=by
 refine fn_ok T Tryz.func24 rfl (by decide) rfl ?_
 refine AW.seq (AW.region (AO.step rfl (box_ok T rfl 1 rfl rfl rfl rfl) ?_))
 refine AO.step rfl (box_ok T rfl 2 rfl rfl rfl rfl) ?_
 refine AO.step rfl (alloc_ok T rfl 3 rfl rfl rfl rfl rfl) ?_
 refine AO.pu T ?_
 refine AO.nil ?_
 iterate 2 refine AW.seq ?_
 obtain ⟨x1,hx2,hH⟩:=bindE hH
 refine AW.region (AO.pu T (d:=.g [.s (List.map encSeason w.seasons),.s (List.map encInt w.weights)]) ?_)
 refine AO.val rfl rfl (callV_ok rfl rfl rfl rfl (impl_IsWorld_ok fuel _ _ (hx2)) rfl) ?_
 refine AO.pu T ?_
 refine AO.nil (AW.cond (b:=(!x1)) rfl (fun hc=>?_) (fun hc=>?_))
 replace hH:=condT hc hH
 refine AW.seq (AW.region (AO.pu T (d:=.g [.w 0 [],.w 0 []]) ?_))
 refine AO.se T [.w 0 [],.w 0 []] ?_
 refine AO.pu T ?_
 refine AO.nil (AW.ret ?_)
 have hR:=someE hH;subst hR
 exact retQ.i [] rfl (.t (expLG_cons (.g (expLC_cons .nil (expLC_cons .nil (expLC_nil)))) (expLG_cons (.c .v) (expLG_nil))))
 replace hH:=condF hc hH
 refine AW.skip (AW.seq ?_)
 obtain ⟨x3,hx4,hH⟩:=bindE hH
 obtain ⟨x5,hx6,hH⟩:=bindE hH
 refine AW.drawn 11 4 [] mix (by kernel_rfl) rfl ?_
 iterate 2 refine AD.pure T rfl rfl rfl ?_
 refine AD.val rfl rfl (ix_map_ok T rfl rfl rfl rfl rfl (hx4) rfl) ?_
 refine AD.pure T (d:=.g [x3.best,.s (List.map encLine x3.lines)]) rfl rfl rfl ?_
 refine AD.pure T (d:=.g [e.event,e.skater,e.points]) rfl rfl rfl ?_
 refine AD.q (FStep.call rfl rfl rfl rfl rfl (impl_AddEntry_ok fuel _ _ _ (hx6)) rfl rfl) (impT_names _ _) (impT_le _ _) rfl ?_
 refine AD.pure T rfl rfl rfl ?_
 refine AD.pure T (d:=.g [x5.1.best,.R 4]) rfl rfl rfl ?_
 refine AD.pure T rfl rfl rfl ?_
 refine AD.q (FStep.alloc T rfl rfl rfl rfl rfl rfl) (by simp [namesIn]) (Nat.le_succ _) rfl ?_
 refine AD.k rfl rfl (FStep.store_p T rfl rfl rfl rfl rfl rfl rfl rfl rfl rfl rfl) rfl rfl rfl ?_
 refine AD.nil (AO.pu T ?_)
 refine AO.nil ?_
 iterate 2 refine AW.seq ?_
 refine AW.region ?_
 iterate 2 refine AO.pu T ?_
 refine AO.nil (AW.cond (b:=(!x5.2)) rfl (fun hc=>?_) (fun hc=>?_))
 replace hH:=condT hc hH
 refine AW.seq (AW.region (AO.pu T (d:=.g [.w 0 [],.w 0 []]) ?_))
 refine AO.se T [.w 0 [],.w 0 []] ?_
 refine AO.pu T ?_
 refine AO.nil (AW.le (Le.ct 0 0 (σ':=(⟨[(4,.p 3 0),(5,.v (.bool false))],[(3,.box [.w 0 [],.w 0 []])],50,[]⟩:St))) ?_)
 refine AW.ret ?_
 have hR:=someE hH;subst hR
 exact retQ.i [] rfl (.t (expLG_cons (.g (expLC_cons .nil (expLC_cons .nil (expLC_nil)))) (expLG_cons (.c .v) (expLG_nil))))
 replace hH:=condF hc hH
 refine AW.skip (AW.seq ?_)
 obtain ⟨x7,hx8,hH⟩:=bindE hH
 refine AW.drawn 7 6 [4] mix (by kernel_rfl) rfl ?_
 refine AD.pure T (d:=.g [x5.1.best,.R 4]) rfl rfl rfl ?_
 refine AD.k rfl rfl (FStep.mk_o T rfl rfl rfl rfl rfl rfl rfl rfl (f:=encSeasonO) (l:=[(Season.mk x5.1.best x5.1.lines)]) (ids:=[4]) rfl rfl (fun _=>rfl) (by exact expLC_cons .v (expLC_cons (.rowR rfl) (expLC_nil))) (by decide) rfl rfl rfl rfl) rfl rfl rfl ?_
 iterate 2 refine AD.pure T rfl rfl rfl ?_
 refine AD.q (FStep.call rfl rfl rfl rfl rfl (impl_copyInts_ok _ _ (hx8)) rfl rfl) (impT_names _ _) (impT_le _ _) rfl ?_
 refine AD.pured T (d:=.g [.R 6,.R 7]) rfl rfl rfl rfl ?_
 refine AD.q (FStep.alloc T rfl rfl rfl rfl rfl rfl) (by simp [namesIn]) (Nat.le_succ _) rfl ?_
 refine AD.nil (AO.se T [.R 6,.R 7] ?_)
 refine AO.nil (AW.le (Le.ct 0 0 (σ':=(⟨[(2,.p 1 0),(4,.p 3 0),(8,.p 8 0)],[(1,.box [.s (List.map encSeason w.seasons),.s (List.map encInt w.weights)]),(3,.box [.w 0 [],.w 0 []]),(6,.row 2 (List.map encSeasonO [(Season.mk x5.1.best x5.1.lines)])),(7,.row 1 (List.map encInt x7)),(8,.box [.R 6,.R 7])],50,[]⟩:St))) ?_)
 iterate 2 refine AW.seq ?_
 obtain ⟨x9,hx10,hH⟩:=bindE hH
 refine AW.region ?_
 iterate 2 refine AO.pu T ?_
 refine AO.val rfl rfl (slice_lo_map_ok T rfl rfl rfl rfl rfl (hx10) (fun _=>rfl)) ?_
 refine AO.val rfl rfl (len_map_ok T rfl rfl rfl) ?_
 refine AO.pu T ?_
 refine AO.nil (AW.block ?_)
 refine AW.loopS (fun s:Nat × (List Season)=>(⟨[(4,.p 3 0),(8,.p 8 0),(35,.s (List.map encSeason x9)),(36,(x9.length:Int)),(37,(s.1:Int))],[(3,.box [.w 0 [],.w 0 []]),(6,.row 2 (List.map encSeasonO s.2)),(7,.row 1 (List.map encInt x7)),(8,.box [.R 6,.R 7])],50,[]⟩:St)) (fun s=>s.1 ≤ x9.length∧impl_AddToWorld_l1 x7 (x9.drop s.1) s.1 s.2=some r) (fun s=>x9.length - s.1) (0,[(Season.mk x5.1.best x5.1.lines)]) ⟨Nat.zero_le _,hH⟩ ?_ ?_
 exact Le.ct 0 0
 rintro ⟨k11,v26⟩ ⟨hk,hH⟩
 replace hH:impl_AddToWorld_l1 x7 (x9.drop k11) k11 v26=some r:=hH
 try dsimp only
 refine AW.boundM (t:=35) (l:=x9) rfl (fun hb15=>?_)
 rcases hd14:x9.drop k11 with _ | ⟨y12,ys13⟩
 rw [hd14,impl_AddToWorld_l1] at hH
 have hlt16:=drop_ge hd14
 refine AW.seq (AW.region (AO.pu T ?_))
 refine AO.nil (AW.seq (AW.condF' (b:=decide ((k11:Int) < (x9.length:Int))) rfl (rngF hlt16) ?_))
 refine AW.exit (AW.seq (AW.region ?_))
 refine AO.pu T (d:=.g [.R 6,.R 7]) ?_
 refine AO.se T [.R 6,.R 7] ?_
 refine AO.pu T ?_
 refine AO.nil (AW.ret ?_)
 have hR:=someE hH;subst hR
 exact retQ.i [6,7] rfl (.t (expLG_cons (.g (expLC_cons (.rowR rfl) (expLC_cons (.rowR rfl) (expLC_nil)))) (expLG_cons (.c .v) (expLG_nil))))
 rw [hd14,impl_AddToWorld_l1] at hH
 have hlt16:=drop_lt hd14
 refine AW.seq (AW.region (AO.pu T ?_))
 refine AO.nil (AW.seq (AW.condT' (b:=decide ((k11:Int) < (x9.length:Int))) rfl (rngT hlt16) ?_))
 refine AW.skip (AW.seq ?_)
 refine AW.block (AW.seq (AW.region ?_))
 refine AO.val rfl rfl (ix_map_ok T rfl rfl rfl rfl rfl (getI_drop hd14) rfl) ?_
 refine AO.pu T (d:=.g [y12.best,.s (List.map encLine y12.lines)]) ?_
 refine AO.step rfl (alloc_ok T rfl 17 rfl rfl rfl rfl rfl) ?_
 refine AO.se T [y12.best,.s (List.map encLine y12.lines)] ?_
 refine AO.nil ?_
 obtain ⟨x28,hx29,hH⟩:=bindE hH
 obtain ⟨u30,hx31,hH⟩:=bindE hH
 refine AW.drawn 5 18 [] mix (by kernel_rfl) rfl ?_
 iterate 2 refine AD.pure T rfl rfl rfl ?_
 refine AD.pure T (d:=.g [y12.best,.s (List.map encLine y12.lines)]) rfl rfl rfl ?_
 refine AD.q (FStep.call rfl rfl rfl rfl rfl (impl_copySeason_ok _ _ (hx29)) rfl rfl) (impT_names _ _) (impT_le _ _) rfl ?_
 refine AD.k rfl rfl (FStep.mk_o T rfl rfl rfl rfl rfl rfl rfl rfl (f:=encSeasonO) (l:=[x28]) (ids:=[18]) rfl rfl (fun _=>rfl) (by exact expLC_cons .v (expLC_cons (.rowR rfl) (expLC_nil))) (by decide) rfl rfl rfl rfl) rfl rfl rfl ?_
 refine AD.nil (AO.step rfl (app_rr_map T rfl 20 rfl rfl rfl rfl rfl (by decide) rfl rfl rfl rfl rfl (needT (hx31)) rfl rfl) ?_)
 refine AO.pu T ?_
 refine AO.se T [.R 20,.R 7] ?_
 refine AO.nil (AW.region ?_)
 refine AO.val rfl rfl (ar_ok rfl rfl rfl rfl (inI_succ hlt16 hb15)) ?_
 refine AO.pu T ?_
 refine AO.nil ?_
 refine ⟨(k11+1,(v26++[x28])),⟨Nat.succ_le_of_lt hlt16,(by rw [drop_succ_of hd14];exact hH)⟩,(by have:=hlt16;dsimp only;omega),?_⟩
 exact Le.ct 20 6

def spec_l1Has_l1 (n:Int):List Int→Nat→Option Bool
  | [],k1 =>
    some false
  | y2::ys3,k1 =>
    cond (y2 == n)
      (some true)
      (spec_l1Has_l1 n ys3 (k1+1))
def spec_l1Has_p (l:List Int) (n:Int):Option Bool :=
  spec_l1Has_l1 n l 0
theorem spec_l1Has_ok (l:List Int) (n:Int) (r:Bool) (hH:spec_l1Has_p l n=some r):SpecR Tryz.prog 71 [.s (List.map encInt l),n] (.v (.bool r)):=by
 refine fn_ok T Tryz.func71 rfl (by decide) rfl ?_
 refine AW.seq (AW.region (AO.pu T ?_))
 refine AO.nil ?_
 iterate 2 refine AW.seq ?_
 refine AW.region (AO.pu T ?_)
 refine AO.val rfl rfl (len_map_ok T rfl rfl rfl) ?_
 refine AO.pu T ?_
 refine AO.nil (AW.block ?_)
 refine AW.loopS (fun s:Nat=>(⟨[(1,n),(7,.s (List.map encInt l)),(8,(l.length:Int)),(9,(s:Int))],[],17,[]⟩:St)) (fun s=>s ≤ l.length∧spec_l1Has_l1 n (l.drop s) s=some r) (fun s=>l.length - s) 0 ⟨Nat.zero_le _,hH⟩ ?_ ?_
 exact Le.ct 0 0
 rintro k1 ⟨hk,hH⟩
 replace hH:spec_l1Has_l1 n (l.drop k1) k1=some r:=hH
 try dsimp only
 refine AW.boundM (t:=7) (l:=l) rfl (fun hb5=>?_)
 rcases hd4:l.drop k1 with _ | ⟨y2,ys3⟩
 rw [hd4,spec_l1Has_l1] at hH
 have hlt6:=drop_ge hd4
 refine AW.seq (AW.region (AO.pu T ?_))
 refine AO.nil (AW.seq (AW.condF' (b:=decide ((k1:Int) < (l.length:Int))) rfl (rngF hlt6) ?_))
 refine AW.exit (AW.seq (AW.region ?_))
 refine AO.pu T ?_
 refine AO.nil (AW.ret ?_)
 have hR:=someE hH;subst hR
 exact retQ.i [] rfl (.c (.c .v))
 rw [hd4,spec_l1Has_l1] at hH
 have hlt6:=drop_lt hd4
 refine AW.seq (AW.region (AO.pu T ?_))
 refine AO.nil (AW.seq (AW.condT' (b:=decide ((k1:Int) < (l.length:Int))) rfl (rngT hlt6) ?_))
 refine AW.skip (AW.seq ?_)
 refine AW.block (AW.seq (AW.region ?_))
 refine AO.val rfl rfl (ix_map_ok T rfl rfl rfl rfl rfl (getI_drop hd4) rfl) ?_
 iterate 2 refine AO.pu T ?_
 refine AO.nil (AW.seq (AW.region ?_))
 iterate 3 refine AO.pu T ?_
 refine AO.nil (AW.cond (b:=(y2 == n)) rfl (fun hc=>?_) (fun hc=>?_))
 replace hH:=condT hc hH
 refine AW.seq (AW.region (AO.pu T ?_))
 refine AO.nil (AW.ret ?_)
 have hR:=someE hH;subst hR
 exact retQ.i [] rfl (.c (.c .v))
 replace hH:=condF hc hH
 refine AW.skip (AW.region ?_)
 refine AO.val rfl rfl (ar_ok rfl rfl rfl rfl (inI_succ hlt6 hb5)) ?_
 refine AO.pu T ?_
 refine AO.nil ?_
 refine ⟨k1+1,⟨Nat.succ_le_of_lt hlt6,(by rw [drop_succ_of hd4];exact hH)⟩,(by have:=hlt6;dsimp only;omega),?_⟩
 exact Le.ct 0 0

def spec_seLine_l1 (x:Line):List Int→Nat→Option Bool
  | [],k1 =>
    some (decide ((x.events.length:Int) > 0))
  | y2::ys3,k1 =>
    (opt (!((x.points.length:Int) != (x.events.length:Int))) default (getI x.points (k1:Int))).bind fun x36 =>
    (opt (!((x.points.length:Int) != (x.events.length:Int))) default (spec_seEntry_p (Entry.mk y2 x.skater x36))).bind fun x38 =>
    cond (((x.points.length:Int) != (x.events.length:Int)) || (!x38))
      (some false)
      ((opt (decide ((k1:Int) > 0)) default (getI x.points (w64 ((k1:Int) - 1)))).bind fun x40 =>
      (opt (decide ((k1:Int) > 0)) default (getI x.points (k1:Int))).bind fun x42 =>
      (opt ((decide ((k1:Int) > 0) && (!(decide (x40 < x42)))) && (x40 == x42)) default (getI x.events (w64 ((k1:Int) - 1)))).bind fun x44 =>
      cond (decide ((k1:Int) > 0) && (decide (x40 < x42) || ((x40 == x42) && decide (x44 ≥ y2))))
        (some false)
        ((sliceHi x.events (k1:Int)).bind fun x46 =>
        (spec_l1Has_p x46 y2).bind fun x48 =>
        cond x48
          (some false)
          (spec_seLine_l1 x ys3 (k1+1))))
def spec_seLine_p (x:Line):Option Bool :=
  spec_seLine_l1 x x.events 0
theorem spec_seLine_ok (x:Line) (r:Bool) (hH:spec_seLine_p x=some r):SpecR Tryz.prog 97 [.g (encLine x)] (.v (.bool r)):=by
 refine fn_ok T Tryz.func97 rfl (by decide) rfl ?_
 refine AW.seq (AW.region (AO.step rfl (box_ok T rfl 1 rfl rfl rfl rfl) ?_))
 refine AO.pu T ?_
 refine AO.nil ?_
 iterate 2 refine AW.seq ?_
 refine AW.region ?_
 iterate 2 refine AO.pu T ?_
 refine AO.val rfl rfl (len_map_ok T rfl rfl rfl) ?_
 refine AO.pu T ?_
 refine AO.nil (AW.block ?_)
 refine AW.loopS (fun s:Nat=>(⟨[(1,.p 1 0),(6,(x.events.length:Int)),(7,(s:Int))],[(1,.box [x.skater,.s (List.map encInt x.events),.s (List.map encInt x.points)])],93,[]⟩:St)) (fun s=>s ≤ x.events.length∧spec_seLine_l1 x (x.events.drop s) s=some r) (fun s=>x.events.length - s) 0 ⟨Nat.zero_le _,hH⟩ ?_ ?_
 exact Le.ct 0 0
 rintro k1 ⟨hk,hH⟩
 replace hH:spec_seLine_l1 x (x.events.drop k1) k1=some r:=hH
 try dsimp only
 refine AW.boundBox (id:=1) (j:=1) (l:=x.events) rfl rfl (fun hb5=>?_)
 rcases hd4:x.events.drop k1 with _ | ⟨y2,ys3⟩
 rw [hd4,spec_seLine_l1] at hH
 have hlt6:=drop_ge hd4
 refine AW.seq (AW.region (AO.pu T ?_))
 refine AO.nil (AW.seq (AW.condF' (b:=decide ((k1:Int) < (x.events.length:Int))) rfl (rngF hlt6) ?_))
 refine AW.exit (AW.seq (AW.region ?_))
 iterate 2 refine AO.pu T ?_
 refine AO.val rfl rfl (len_map_ok T rfl rfl rfl) ?_
 iterate 2 refine AO.pu T ?_
 refine AO.nil (AW.ret ?_)
 have hR:=someE hH;subst hR
 exact retQ.i [] rfl (.c (.c .v))
 rw [hd4,spec_seLine_l1] at hH
 have hlt6:=drop_lt hd4
 refine AW.seq (AW.region (AO.pu T ?_))
 refine AO.nil (AW.seq (AW.condT' (b:=decide ((k1:Int) < (x.events.length:Int))) rfl (rngT hlt6) ?_))
 refine AW.skip (AW.seq ?_)
 refine AW.block (AW.seq (AW.region ?_))
 iterate 2 refine AO.pu T ?_
 refine AO.nil ?_
 iterate 2 refine AW.seq ?_
 obtain ⟨x36,hx37,hH⟩:=bindE hH
 obtain ⟨x38,hx39,hH⟩:=bindE hH
 refine AW.drawn 20 2 [] mix (by kernel_rfl) rfl ?_
 iterate 2 refine AD.pure T rfl rfl rfl ?_
 refine AD.val rfl rfl (len_map_ok T rfl rfl rfl) ?_
 iterate 2 refine AD.pure T rfl rfl rfl ?_
 refine AD.val rfl rfl (len_map_ok T rfl rfl rfl) ?_
 iterate 2 refine AD.pure T rfl rfl rfl ?_
 refine AD.pureG T [] rfl trivial rfl rfl ?_
 refine AD.pureG T [18] rfl ⟨fun h=>h,trivial⟩ rfl rfl ?_
 refine AD.pureG T [] rfl trivial rfl rfl ?_
 refine AD.guard [19,20] rfl ⟨fun h=>h,fun h=>h,trivial⟩ (fun hg=>ix_map_ok T rfl rfl rfl rfl rfl (getI_drop hd4) rfl) rfl ?_
 refine AD.pureG T [21] rfl ⟨fun h=>h,trivial⟩ rfl rfl ?_
 refine AD.pureG T [] rfl trivial rfl rfl ?_
 refine AD.pureG T [23] rfl ⟨fun h=>h,trivial⟩ rfl rfl ?_
 refine AD.pureG T [] rfl trivial rfl rfl ?_
 refine AD.pureG T [25] rfl ⟨fun h=>h,trivial⟩ rfl rfl ?_
 refine AD.pureG T [] rfl trivial rfl rfl ?_
 refine AD.guard [26,27] rfl ⟨fun h=>h,fun h=>h,trivial⟩ (fun hg=>ix_map_ok T rfl rfl rfl rfl rfl (optT hx37 hg) rfl) rfl ?_
 refine AD.pureG T [28] rfl ⟨fun h=>h,trivial⟩ rfl rfl ?_
 refine AD.nil (AO.pureG T (d:=.g [y2,x.skater,x36]) [22,24,29] rfl ⟨fun h=>h,fun h=>h,fun h=>h,trivial⟩ rfl rfl ?_)
 refine AO.guard [30] rfl ⟨fun h=>h,trivial⟩ (fun hg=>callV_ok rfl rfl rfl rfl (spec_seEntry_ok _ _ (optT hx39 hg)) rfl) rfl ?_
 refine AO.pureG T [31] rfl ⟨fun h=>h,trivial⟩ rfl rfl ?_
 refine AO.val rfl rfl (pick_or rfl rfl rfl rfl) ?_
 refine AO.nil (AW.le (Le.ct 0 0 (σ':=(⟨[(1,.p 1 0),(3,(k1:Int)),(6,(x.events.length:Int)),(7,(k1:Int)),(33,.v (.bool (((x.points.length:Int) != (x.events.length:Int)) || (!x38))))],[(1,.box [x.skater,.s (List.map encInt x.events),.s (List.map encInt x.points)])],93,[]⟩:St))) ?_)
 refine AW.cond (b:=(((x.points.length:Int) != (x.events.length:Int)) || (!x38))) rfl (fun hc=>?_) (fun hc=>?_)
 replace hH:=condT hc hH
 refine AW.seq (AW.region (AO.pu T ?_))
 refine AO.nil (AW.ret ?_)
 have hR:=someE hH;subst hR
 exact retQ.i [] rfl (.c (.c .v))
 replace hH:=condF hc hH
 refine AW.skip ?_
 iterate 2 refine AW.seq ?_
 obtain ⟨x40,hx41,hH⟩:=bindE hH
 obtain ⟨x42,hx43,hH⟩:=bindE hH
 obtain ⟨x44,hx45,hH⟩:=bindE hH
 refine AW.drawn 40 2 [] mix (by kernel_rfl) rfl ?_
 iterate 3 refine AD.pure T rfl rfl rfl ?_
 refine AD.pureG T [] rfl trivial rfl rfl ?_
 refine AD.pureG T [37] rfl ⟨fun h=>h,trivial⟩ rfl rfl ?_
 refine AD.pureG T [] rfl trivial rfl rfl ?_
 refine AD.guard [39] rfl ⟨fun h=>h,trivial⟩ (fun hg=>arw_ok rfl rfl rfl rfl) rfl ?_
 refine AD.guard [38,40] rfl ⟨fun h=>h,fun h=>h,trivial⟩ (fun hg=>ix_map_ok T rfl rfl rfl rfl rfl (optT hx41 hg) rfl) rfl ?_
 refine AD.pureG T [41] rfl ⟨fun h=>h,trivial⟩ rfl rfl ?_
 refine AD.pureG T [] rfl trivial rfl rfl ?_
 refine AD.pureG T [43] rfl ⟨fun h=>h,trivial⟩ rfl rfl ?_
 refine AD.pureG T [] rfl trivial rfl rfl ?_
 refine AD.guard [44,45] rfl ⟨fun h=>h,fun h=>h,trivial⟩ (fun hg=>ix_map_ok T rfl rfl rfl rfl rfl (optT hx43 hg) rfl) rfl ?_
 refine AD.pureG T [46] rfl ⟨fun h=>h,trivial⟩ rfl rfl ?_
 refine AD.pureG T [42,47] rfl ⟨fun h=>h,fun h=>h,trivial⟩ rfl rfl ?_
 refine AD.pureG T [48] rfl ⟨fun h=>h,trivial⟩ rfl rfl ?_
 refine AD.pureG T [] rfl trivial rfl rfl ?_
 refine AD.pureG T [50] rfl ⟨fun h=>h,trivial⟩ rfl rfl ?_
 refine AD.pureG T [] rfl trivial rfl rfl ?_
 refine AD.guard [52] rfl ⟨fun h=>h,trivial⟩ (fun hg=>arw_ok rfl rfl rfl rfl) rfl ?_
 refine AD.guard [51,53] rfl ⟨fun h=>h,fun h=>h,trivial⟩ (fun hg=>ix_map_ok T rfl rfl rfl rfl rfl (optT hx41 ((fun h=>(fun h=>h) (Bool.and_eq_true_iff.1 h).1) hg)) rfl) rfl ?_
 refine AD.pureG T [54] rfl ⟨fun h=>h,trivial⟩ rfl rfl ?_
 refine AD.pureG T [] rfl trivial rfl rfl ?_
 refine AD.pureG T [56] rfl ⟨fun h=>h,trivial⟩ rfl rfl ?_
 refine AD.pureG T [] rfl trivial rfl rfl ?_
 refine AD.guard [57,58] rfl ⟨fun h=>h,fun h=>h,trivial⟩ (fun hg=>ix_map_ok T rfl rfl rfl rfl rfl (optT hx43 ((fun h=>(fun h=>h) (Bool.and_eq_true_iff.1 h).1) hg)) rfl) rfl ?_
 refine AD.pureG T [59] rfl ⟨fun h=>h,trivial⟩ rfl rfl ?_
 refine AD.pureG T [55,60] rfl ⟨fun h=>h,fun h=>h,trivial⟩ rfl rfl ?_
 refine AD.pureG T [61] rfl ⟨fun h=>h,trivial⟩ rfl rfl ?_
 refine AD.pureG T [] rfl trivial rfl rfl ?_
 refine AD.pureG T [63] rfl ⟨fun h=>h,trivial⟩ rfl rfl ?_
 refine AD.pureG T [] rfl trivial rfl rfl ?_
 refine AD.guard [65] rfl ⟨fun h=>h,trivial⟩ (fun hg=>arw_ok rfl rfl rfl rfl) rfl ?_
 refine AD.guard [64,66] rfl ⟨fun h=>h,fun h=>h,trivial⟩ (fun hg=>ix_map_ok T rfl rfl rfl rfl rfl (optT hx45 hg) rfl) rfl ?_
 refine AD.pureG T [67] rfl ⟨fun h=>h,trivial⟩ rfl rfl ?_
 refine AD.pureG T [] rfl trivial rfl rfl ?_
 refine AD.pureG T [69] rfl ⟨fun h=>h,trivial⟩ rfl rfl ?_
 refine AD.pureG T [] rfl trivial rfl rfl ?_
 refine AD.guard [70,71] rfl ⟨fun h=>h,fun h=>h,trivial⟩ (fun hg=>ix_map_ok T rfl rfl rfl rfl rfl (getI_drop hd4) rfl) rfl ?_
 refine AD.pureG T [72] rfl ⟨fun h=>h,trivial⟩ rfl rfl ?_
 refine AD.nil (AO.pureG T [68,73] rfl ⟨fun h=>h,fun h=>h,trivial⟩ rfl rfl ?_)
 refine AO.guard [62] rfl ⟨fun h=>h,trivial⟩ (fun hg=>pick_and rfl rfl rfl (by rw [hg];exact Bool.true_and _)) rfl ?_
 refine AO.guard [49] rfl ⟨fun h=>h,trivial⟩ (fun hg=>pick_or rfl rfl rfl (by rw [hg];exact Bool.true_and _)) rfl ?_
 refine AO.val rfl rfl (pick_and rfl rfl rfl rfl) ?_
 refine AO.nil (AW.le (Le.ct 0 0 (σ':=(⟨[(1,.p 1 0),(3,(k1:Int)),(6,(x.events.length:Int)),(7,(k1:Int)),(77,.v (.bool (decide ((k1:Int) > 0) && (decide (x40 < x42) || ((x40 == x42) && decide (x44 ≥ y2))))))],[(1,.box [x.skater,.s (List.map encInt x.events),.s (List.map encInt x.points)])],93,[]⟩:St))) ?_)
 refine AW.cond (b:=(decide ((k1:Int) > 0) && (decide (x40 < x42) || ((x40 == x42) && decide (x44 ≥ y2))))) rfl (fun hc=>?_) (fun hc=>?_)
 replace hH:=condT hc hH
 refine AW.seq (AW.region (AO.pu T ?_))
 refine AO.nil (AW.ret ?_)
 have hR:=someE hH;subst hR
 exact retQ.i [] rfl (.c (.c .v))
 replace hH:=condF hc hH
 refine AW.skip (AW.seq ?_)
 obtain ⟨x46,hx47,hH⟩:=bindE hH
 obtain ⟨x48,hx49,hH⟩:=bindE hH
 refine AW.drawn 9 2 [] mix (by kernel_rfl) rfl ?_
 iterate 3 refine AD.pure T rfl rfl rfl ?_
 refine AD.val rfl rfl (slice_hi_map_ok T rfl rfl rfl rfl rfl (hx47) (fun _=>rfl)) ?_
 iterate 3 refine AD.pure T rfl rfl rfl ?_
 refine AD.val rfl rfl (ix_map_ok T rfl rfl rfl rfl rfl (getI_drop hd4) rfl) ?_
 refine AD.pure T rfl rfl rfl ?_
 refine AD.nil (AO.val rfl rfl (callV_ok rfl rfl rfl rfl (spec_l1Has_ok _ _ _ (hx49)) rfl) ?_)
 refine AO.nil (AW.cond (b:=x48) rfl (fun hc=>?_) (fun hc=>?_))
 replace hH:=condT hc hH
 refine AW.seq (AW.region (AO.pu T ?_))
 refine AO.nil (AW.ret ?_)
 have hR:=someE hH;subst hR
 exact retQ.i [] rfl (.c (.c .v))
 replace hH:=condF hc hH
 refine AW.skip (AW.region ?_)
 refine AO.val rfl rfl (ar_ok rfl rfl rfl rfl (inI_succ hlt6 hb5)) ?_
 refine AO.pu T ?_
 refine AO.nil ?_
 refine ⟨k1+1,⟨Nat.succ_le_of_lt hlt6,(by rw [drop_succ_of hd4];exact hH)⟩,(by have:=hlt6;dsimp only;omega),?_⟩
 exact Le.ct 0 0

def spec_seGood_l1 (sA:Season):List Line→Nat→Int→Option Bool
  | [],k1,v16 =>
    (spec_l1In_p sA.best 1 9).bind fun x18 =>
    some (x18 && decide (v16 ≤ 80))
  | y2::ys3,k1,v16 =>
    (spec_seLine_p y2).bind fun x20 =>
    (opt ((!(!x20)) && decide ((k1:Int) > 0)) default (getI sA.lines (w64 ((k1:Int) - 1)))).bind fun x22 =>
    cond ((!x20) || (decide ((k1:Int) > 0) && decide (x22.skater ≥ y2.skater)))
      (some false)
      (spec_seGood_l1 sA ys3 (k1+1) (w64 (v16+(y2.events.length:Int))))
def spec_seGood_p (sA:Season):Option Bool :=
  spec_seGood_l1 sA sA.lines 0 0
theorem spec_seGood_ok (sA:Season) (r:Bool) (hH:spec_seGood_p sA=some r):SpecR Tryz.prog 77 [.g (encSeason sA)] (.v (.bool r)):=by
 refine fn_ok T Tryz.func77 rfl (by decide) rfl ?_
 refine AW.seq (AW.region (AO.step rfl (box_ok T rfl 1 rfl rfl rfl rfl) ?_))
 refine AO.pu T ?_
 refine AO.nil (AW.seq (AW.region ?_))
 refine AO.pu T ?_
 refine AO.nil ?_
 iterate 2 refine AW.seq ?_
 refine AW.region ?_
 iterate 2 refine AO.pu T ?_
 refine AO.val rfl rfl (len_map_ok T rfl rfl rfl) ?_
 refine AO.pu T ?_
 refine AO.nil (AW.block ?_)
 refine AW.loopS (fun s:Nat × Int=>(⟨[(1,.p 1 0),(3,s.2),(7,.s (List.map encLine sA.lines)),(8,(sA.lines.length:Int)),(9,(s.1:Int))],[(1,.box [sA.best,.s (List.map encLine sA.lines)])],46,[]⟩:St)) (fun s=>s.1 ≤ sA.lines.length∧spec_seGood_l1 sA (sA.lines.drop s.1) s.1 s.2=some r) (fun s=>sA.lines.length - s.1) (0,0) ⟨Nat.zero_le _,hH⟩ ?_ ?_
 exact Le.ct 0 0
 rintro ⟨k1,v16⟩ ⟨hk,hH⟩
 replace hH:spec_seGood_l1 sA (sA.lines.drop k1) k1 v16=some r:=hH
 try dsimp only
 refine AW.boundM (t:=7) (l:=sA.lines) rfl (fun hb5=>?_)
 rcases hd4:sA.lines.drop k1 with _ | ⟨y2,ys3⟩
 rw [hd4,spec_seGood_l1] at hH
 have hlt6:=drop_ge hd4
 refine AW.seq (AW.region (AO.pu T ?_))
 refine AO.nil (AW.seq (AW.condF' (b:=decide ((k1:Int) < (sA.lines.length:Int))) rfl (rngF hlt6) ?_))
 refine AW.exit (AW.seq ?_)
 obtain ⟨x18,hx19,hH⟩:=bindE hH
 refine AW.region ?_
 iterate 2 refine AO.pu T ?_
 refine AO.val rfl rfl (callV_ok rfl rfl rfl rfl (spec_l1In_ok _ _ _ _ (hx19)) rfl) ?_
 refine AO.pu T ?_
 refine AO.pureG T [] rfl trivial rfl rfl ?_
 refine AO.pureG T [43] rfl ⟨fun h=>h,trivial⟩ rfl rfl ?_
 refine AO.val rfl rfl (pick_and rfl rfl rfl rfl) ?_
 refine AO.pu T ?_
 refine AO.nil (AW.ret ?_)
 have hR:=someE hH;subst hR
 exact retQ.i [] rfl (.c (.c .v))
 rw [hd4,spec_seGood_l1] at hH
 have hlt6:=drop_lt hd4
 refine AW.seq (AW.region (AO.pu T ?_))
 refine AO.nil (AW.seq (AW.condT' (b:=decide ((k1:Int) < (sA.lines.length:Int))) rfl (rngT hlt6) ?_))
 refine AW.skip (AW.seq ?_)
 refine AW.block (AW.seq (AW.region ?_))
 refine AO.pu T ?_
 refine AO.val rfl rfl (ix_map_ok T rfl rfl rfl rfl rfl (getI_drop hd4) rfl) ?_
 refine AO.pu T (d:=.g [y2.skater,.s (List.map encInt y2.events),.s (List.map encInt y2.points)]) ?_
 refine AO.step rfl (alloc_ok T rfl 4 rfl rfl rfl rfl rfl) ?_
 refine AO.pu T ?_
 refine AO.se T [y2.skater,.s (List.map encInt y2.events),.s (List.map encInt y2.points)] ?_
 refine AO.nil ?_
 iterate 2 refine AW.seq ?_
 obtain ⟨x20,hx21,hH⟩:=bindE hH
 obtain ⟨x22,hx23,hH⟩:=bindE hH
 refine AW.drawn 16 5 [] mix (by kernel_rfl) rfl ?_
 refine AD.pure T (d:=.g [y2.skater,.s (List.map encInt y2.events),.s (List.map encInt y2.points)]) rfl rfl rfl ?_
 refine AD.val rfl rfl (callV_ok rfl rfl rfl rfl (spec_seLine_ok _ _ (hx21)) rfl) ?_
 iterate 2 refine AD.pure T rfl rfl rfl ?_
 refine AD.pureG T [] rfl trivial rfl rfl ?_
 refine AD.pureG T [18] rfl ⟨fun h=>h,trivial⟩ rfl rfl ?_
 refine AD.pureG T [19] rfl ⟨fun h=>h,trivial⟩ rfl rfl ?_
 refine AD.pureG T [] rfl trivial rfl rfl ?_
 refine AD.pureG T [21] rfl ⟨fun h=>h,trivial⟩ rfl rfl ?_
 refine AD.pureG T [] rfl trivial rfl rfl ?_
 refine AD.guard [23] rfl ⟨fun h=>h,trivial⟩ (fun hg=>arw_ok rfl rfl rfl rfl) rfl ?_
 refine AD.guard [22,24] rfl ⟨fun h=>h,fun h=>h,trivial⟩ (fun hg=>ix_map_ok T rfl rfl rfl rfl rfl (optT hx23 hg) rfl) rfl ?_
 refine AD.pureG T [25] rfl ⟨fun h=>h,trivial⟩ rfl rfl ?_
 refine AD.pureG T [26] rfl ⟨fun h=>h,trivial⟩ rfl rfl ?_
 refine AD.pureG T [] rfl trivial rfl rfl ?_
 refine AD.pureG T [28] rfl ⟨fun h=>h,trivial⟩ rfl rfl ?_
 refine AD.nil (AO.pureG T [27,29] rfl ⟨fun h=>h,fun h=>h,trivial⟩ rfl rfl ?_)
 refine AO.guard [20] rfl ⟨fun h=>h,trivial⟩ (fun hg=>pick_and rfl rfl rfl (by rw [hg];exact Bool.true_and _)) rfl ?_
 refine AO.val rfl rfl (pick_or rfl rfl rfl rfl) ?_
 refine AO.nil (AW.le (Le.ct 0 0 (σ':=(⟨[(1,.p 1 0),(3,v16),(5,.p 4 0),(7,.s (List.map encLine sA.lines)),(8,(sA.lines.length:Int)),(9,(k1:Int)),(32,.v (.bool ((!x20) || (decide ((k1:Int) > 0) && decide (x22.skater ≥ y2.skater)))))],[(1,.box [sA.best,.s (List.map encLine sA.lines)]),(4,.box [y2.skater,.s (List.map encInt y2.events),.s (List.map encInt y2.points)])],46,[]⟩:St))) ?_)
 refine AW.cond (b:=((!x20) || (decide ((k1:Int) > 0) && decide (x22.skater ≥ y2.skater)))) rfl (fun hc=>?_) (fun hc=>?_)
 replace hH:=condT hc hH
 refine AW.seq (AW.region (AO.pu T ?_))
 refine AO.nil (AW.ret ?_)
 have hR:=someE hH;subst hR
 exact retQ.i [] rfl (.c (.c .v))
 replace hH:=condF hc hH
 refine AW.skip (AW.region ?_)
 iterate 3 refine AO.pu T ?_
 refine AO.val rfl rfl (len_map_ok T rfl rfl rfl) ?_
 refine AO.val rfl rfl (arw_ok rfl rfl rfl rfl) ?_
 refine AO.pu T ?_
 refine AO.nil (AW.region ?_)
 refine AO.val rfl rfl (ar_ok rfl rfl rfl rfl (inI_succ hlt6 hb5)) ?_
 refine AO.pu T ?_
 refine AO.nil ?_
 refine ⟨(k1+1,w64 (v16+(y2.events.length:Int))),⟨Nat.succ_le_of_lt hlt6,(by rw [drop_succ_of hd4];exact hH)⟩,(by have:=hlt6;dsimp only;omega),?_⟩
 exact Le.ct 0 0

def spec_wlGood_l2 (w:World):List Int→Nat→Option Bool
  | [],k12 =>
    (spec_l1In_p (w.seasons.length:Int) 1 3).bind fun x27 =>
    some (x27 && ((w.weights.length:Int) == (w.seasons.length:Int)))
  | y13::ys14,k12 =>
    (spec_l1In_p y13 0 100).bind fun x29 =>
    (opt ((!(!x29)) && decide ((k12:Int) > 0)) default (getI w.weights (w64 ((k12:Int) - 1)))).bind fun x31 =>
    cond ((!x29) || (decide ((k12:Int) > 0) && decide (x31 < y13)))
      (some false)
      (spec_wlGood_l2 w ys14 (k12+1))
def spec_wlGood_l1 (w:World):List Season→Nat→Option Bool
  | [],k1 =>
    spec_wlGood_l2 w w.weights 0
  | y2::ys3,k1 =>
    (spec_seGood_p y2).bind fun x33 =>
    cond (!x33)
      (some false)
      (spec_wlGood_l1 w ys3 (k1+1))
def spec_wlGood_p (w:World):Option Bool :=
  spec_wlGood_l1 w w.seasons 0
theorem spec_wlGood_ok (w:World) (r:Bool) (hH:spec_wlGood_p w=some r):SpecR Tryz.prog 41 [.g (encWorld w)] (.v (.bool r)):=by
 refine fn_ok T Tryz.func41 rfl (by decide) rfl ?_
 refine AW.seq (AW.region (AO.step rfl (box_ok T rfl 1 rfl rfl rfl rfl) ?_))
 refine AO.pu T ?_
 refine AO.nil ?_
 iterate 2 refine AW.seq ?_
 refine AW.region ?_
 iterate 2 refine AO.pu T ?_
 refine AO.val rfl rfl (len_map_ok T rfl rfl rfl) ?_
 refine AO.pu T ?_
 refine AO.nil (AW.block ?_)
 refine AW.loopS (fun s:Nat=>(⟨[(1,.p 1 0),(8,.s (List.map encSeason w.seasons)),(9,(w.seasons.length:Int)),(10,(s:Int))],[(1,.box [.s (List.map encSeason w.seasons),.s (List.map encInt w.weights)])],57,[]⟩:St)) (fun s=>s ≤ w.seasons.length∧spec_wlGood_l1 w (w.seasons.drop s) s=some r) (fun s=>w.seasons.length - s) 0 ⟨Nat.zero_le _,hH⟩ ?_ ?_
 exact Le.ct 0 0
 rintro k1 ⟨hk,hH⟩
 replace hH:spec_wlGood_l1 w (w.seasons.drop k1) k1=some r:=hH
 try dsimp only
 refine AW.boundM (t:=8) (l:=w.seasons) rfl (fun hb5=>?_)
 rcases hd4:w.seasons.drop k1 with _ | ⟨y2,ys3⟩
 rw [hd4,spec_wlGood_l1] at hH
 have hlt6:=drop_ge hd4
 refine AW.seq (AW.region (AO.pu T ?_))
 refine AO.nil (AW.seq (AW.condF' (b:=decide ((k1:Int) < (w.seasons.length:Int))) rfl (rngF hlt6) ?_))
 refine AW.exit ?_
 iterate 2 refine AW.seq ?_
 refine AW.region ?_
 iterate 2 refine AO.pu T ?_
 refine AO.val rfl rfl (len_map_ok T rfl rfl rfl) ?_
 refine AO.pu T ?_
 refine AO.nil (AW.block ?_)
 refine AW.loopS (fun s:Nat=>(⟨[(1,.p 1 0),(19,.s (List.map encInt w.weights)),(20,(w.weights.length:Int)),(21,(s:Int))],[(1,.box [.s (List.map encSeason w.seasons),.s (List.map encInt w.weights)])],57,[]⟩:St)) (fun s=>s ≤ w.weights.length∧spec_wlGood_l2 w (w.weights.drop s) s=some r) (fun s=>w.weights.length - s) 0 ⟨Nat.zero_le _,hH⟩ ?_ ?_
 exact Le.ct 0 0
 rintro k12 ⟨hk,hH⟩
 replace hH:spec_wlGood_l2 w (w.weights.drop k12) k12=some r:=hH
 try dsimp only
 refine AW.boundM (t:=19) (l:=w.weights) rfl (fun hb16=>?_)
 rcases hd15:w.weights.drop k12 with _ | ⟨y13,ys14⟩
 rw [hd15,spec_wlGood_l2] at hH
 have hlt17:=drop_ge hd15
 refine AW.seq (AW.region (AO.pu T ?_))
 refine AO.nil (AW.seq (AW.condF' (b:=decide ((k12:Int) < (w.weights.length:Int))) rfl (rngF hlt17) ?_))
 refine AW.exit (AW.seq ?_)
 obtain ⟨x27,hx28,hH⟩:=bindE hH
 refine AW.region ?_
 iterate 2 refine AO.pu T ?_
 refine AO.val rfl rfl (len_map_ok T rfl rfl rfl) ?_
 refine AO.val rfl rfl (callV_ok rfl rfl rfl rfl (spec_l1In_ok _ _ _ _ (hx28)) rfl) ?_
 refine AO.pu T ?_
 refine AO.pureG T [] rfl trivial rfl rfl ?_
 refine AO.pureG T [49] rfl ⟨fun h=>h,trivial⟩ rfl rfl ?_
 refine AO.guard [50] rfl ⟨fun h=>h,trivial⟩ (fun hg=>len_map_ok T rfl rfl rfl) rfl ?_
 refine AO.pureG T [] rfl trivial rfl rfl ?_
 refine AO.pureG T [52] rfl ⟨fun h=>h,trivial⟩ rfl rfl ?_
 refine AO.guard [53] rfl ⟨fun h=>h,trivial⟩ (fun hg=>len_map_ok T rfl rfl rfl) rfl ?_
 refine AO.pureG T [51,54] rfl ⟨fun h=>h,fun h=>h,trivial⟩ rfl rfl ?_
 refine AO.val rfl rfl (pick_and rfl rfl rfl rfl) ?_
 refine AO.pu T ?_
 refine AO.nil (AW.ret ?_)
 have hR:=someE hH;subst hR
 exact retQ.i [] rfl (.c (.c .v))
 rw [hd15,spec_wlGood_l2] at hH
 have hlt17:=drop_lt hd15
 refine AW.seq (AW.region (AO.pu T ?_))
 refine AO.nil (AW.seq (AW.condT' (b:=decide ((k12:Int) < (w.weights.length:Int))) rfl (rngT hlt17) ?_))
 refine AW.skip (AW.seq ?_)
 refine AW.block (AW.seq (AW.region ?_))
 refine AO.pu T ?_
 refine AO.val rfl rfl (ix_map_ok T rfl rfl rfl rfl rfl (getI_drop hd15) rfl) ?_
 iterate 3 refine AO.pu T ?_
 refine AO.nil (AW.seq ?_)
 obtain ⟨x29,hx30,hH⟩:=bindE hH
 obtain ⟨x31,hx32,hH⟩:=bindE hH
 refine AW.region (AO.pu T ?_)
 refine AO.val rfl rfl (callV_ok rfl rfl rfl rfl (spec_l1In_ok _ _ _ _ (hx30)) rfl) ?_
 iterate 2 refine AO.pu T ?_
 refine AO.pureG T [] rfl trivial rfl rfl ?_
 refine AO.pureG T [30] rfl ⟨fun h=>h,trivial⟩ rfl rfl ?_
 refine AO.pureG T [31] rfl ⟨fun h=>h,trivial⟩ rfl rfl ?_
 refine AO.pureG T [] rfl trivial rfl rfl ?_
 refine AO.pureG T [33] rfl ⟨fun h=>h,trivial⟩ rfl rfl ?_
 refine AO.pureG T [] rfl trivial rfl rfl ?_
 refine AO.guard [35] rfl ⟨fun h=>h,trivial⟩ (fun hg=>arw_ok rfl rfl rfl rfl) rfl ?_
 refine AO.guard [34,36] rfl ⟨fun h=>h,fun h=>h,trivial⟩ (fun hg=>ix_map_ok T rfl rfl rfl rfl rfl (optT hx32 hg) rfl) rfl ?_
 refine AO.pureG T [37] rfl ⟨fun h=>h,trivial⟩ rfl rfl ?_
 refine AO.pureG T [] rfl trivial rfl rfl ?_
 refine AO.pureG T [38,39] rfl ⟨fun h=>h,fun h=>h,trivial⟩ rfl rfl ?_
 refine AO.guard [32] rfl ⟨fun h=>h,trivial⟩ (fun hg=>pick_and rfl rfl rfl (by rw [hg];exact Bool.true_and _)) rfl ?_
 refine AO.val rfl rfl (pick_or rfl rfl rfl rfl) ?_
 refine AO.nil (AW.cond (b:=((!x29) || (decide ((k12:Int) > 0) && decide (x31 < y13)))) rfl (fun hc=>?_) (fun hc=>?_))
 replace hH:=condT hc hH
 refine AW.seq (AW.region (AO.pu T ?_))
 refine AO.nil (AW.le (Le.ct 0 0 (σ':=(⟨[(2,.v (.bool false))],[],57,[]⟩:St))) ?_)
 refine AW.ret ?_
 have hR:=someE hH;subst hR
 exact retQ.i [] rfl (.c (.c .v))
 replace hH:=condF hc hH
 refine AW.skip (AW.region ?_)
 refine AO.val rfl rfl (ar_ok rfl rfl rfl rfl (inI_succ hlt17 hb16)) ?_
 refine AO.pu T ?_
 refine AO.nil ?_
 refine ⟨k12+1,⟨Nat.succ_le_of_lt hlt17,(by rw [drop_succ_of hd15];exact hH)⟩,(by have:=hlt17;dsimp only;omega),?_⟩
 exact Le.ct 0 0
 rw [hd4,spec_wlGood_l1] at hH
 have hlt6:=drop_lt hd4
 refine AW.seq (AW.region (AO.pu T ?_))
 refine AO.nil (AW.seq (AW.condT' (b:=decide ((k1:Int) < (w.seasons.length:Int))) rfl (rngT hlt6) ?_))
 refine AW.skip (AW.seq ?_)
 refine AW.block (AW.seq (AW.region ?_))
 refine AO.val rfl rfl (ix_map_ok T rfl rfl rfl rfl rfl (getI_drop hd4) rfl) ?_
 refine AO.pu T (d:=.g [y2.best,.s (List.map encLine y2.lines)]) ?_
 refine AO.step rfl (alloc_ok T rfl 4 rfl rfl rfl rfl rfl) ?_
 refine AO.se T [y2.best,.s (List.map encLine y2.lines)] ?_
 refine AO.nil (AW.seq ?_)
 obtain ⟨x33,hx34,hH⟩:=bindE hH
 refine AW.region (AO.pu T (d:=.g [y2.best,.s (List.map encLine y2.lines)]) ?_)
 refine AO.val rfl rfl (callV_ok rfl rfl rfl rfl (spec_seGood_ok _ _ (hx34)) rfl) ?_
 refine AO.pu T ?_
 refine AO.nil (AW.cond (b:=(!x33)) rfl (fun hc=>?_) (fun hc=>?_))
 replace hH:=condT hc hH
 refine AW.seq (AW.region (AO.pu T ?_))
 refine AO.nil (AW.ret ?_)
 have hR:=someE hH;subst hR
 exact retQ.i [] rfl (.c (.c .v))
 replace hH:=condF hc hH
 refine AW.skip (AW.region ?_)
 refine AO.val rfl rfl (ar_ok rfl rfl rfl rfl (inI_succ hlt6 hb5)) ?_
 refine AO.pu T ?_
 refine AO.nil ?_
 refine ⟨k1+1,⟨Nat.succ_le_of_lt hlt6,(by rw [drop_succ_of hd4];exact hH)⟩,(by have:=hlt6;dsimp only;omega),?_⟩
 exact Le.ct 0 0

def spec_AddEntry_p (fuel:Nat) (sA:Season) (e:Entry):Option (Season × Bool) :=
  (spec_seGood_p sA).bind fun x1 =>
  (opt (!(!x1)) default (spec_seEntry_p e)).bind fun x3 =>
  cond ((!x1) || (!x3))
    (some ((Season.mk 0 []),false))
    ((spec_seHas_p fuel sA e.skater).bind fun x5 =>
    (opt (decide (x5 ≥ 0)) default (getI sA.lines x5)).bind fun x7 =>
    (opt (decide (x5 ≥ 0)) default (spec_l1Has_p x7.events e.event)).bind fun x9 =>
    cond (decide (x5 ≥ 0) && x9)
      (some ((Season.mk 0 []),false))
      ((spec_seAdd_p fuel sA e).bind fun x11 =>
      (spec_seGood_p x11).bind fun x13 =>
      cond (!x13)
        (some ((Season.mk 0 []),false))
        (some (x11,true))))
theorem spec_AddEntry_ok (fuel:Nat) (sA:Season) (e:Entry) (r:(Season × Bool)) (hH:spec_AddEntry_p fuel sA e=some r):SpecR Tryz.prog 62 [.g (encSeason sA),.g (encEntry e)] (.t [.g (encSeasonO r.1),.v (.bool r.2)]):=by
 refine fn_ok T Tryz.func62 rfl (by decide) rfl ?_
 refine AW.seq (AW.region (AO.step rfl (box_ok T rfl 1 rfl rfl rfl rfl) ?_))
 refine AO.step rfl (box_ok T rfl 2 rfl rfl rfl rfl) ?_
 refine AO.step rfl (alloc_ok T rfl 3 rfl rfl rfl rfl rfl) ?_
 refine AO.pu T ?_
 refine AO.nil ?_
 iterate 2 refine AW.seq ?_
 obtain ⟨x1,hx2,hH⟩:=bindE hH
 obtain ⟨x3,hx4,hH⟩:=bindE hH
 refine AW.region (AO.pu T (d:=.g [sA.best,.s (List.map encLine sA.lines)]) ?_)
 refine AO.val rfl rfl (callV_ok rfl rfl rfl rfl (spec_seGood_ok _ _ (hx2)) rfl) ?_
 iterate 2 refine AO.pu T ?_
 refine AO.pureG T (d:=.g [e.event,e.skater,e.points]) [] rfl trivial rfl rfl ?_
 refine AO.guard [12] rfl ⟨fun h=>h,trivial⟩ (fun hg=>callV_ok rfl rfl rfl rfl (spec_seEntry_ok _ _ (optT hx4 hg)) rfl) rfl ?_
 refine AO.pureG T [13] rfl ⟨fun h=>h,trivial⟩ rfl rfl ?_
 refine AO.val rfl rfl (pick_or rfl rfl rfl rfl) ?_
 refine AO.nil (AW.cond (b:=((!x1) || (!x3))) rfl (fun hc=>?_) (fun hc=>?_))
 replace hH:=condT hc hH
 refine AW.seq (AW.region (AO.pu T (d:=.g [(0:Int),.w 0 []]) ?_))
 refine AO.se T [(0:Int),.w 0 []] ?_
 refine AO.pu T ?_
 refine AO.nil (AW.ret ?_)
 have hR:=someE hH;subst hR
 exact retQ.i [] rfl (.t (expLG_cons (.g (expLC_cons .v (expLC_cons .nil (expLC_nil)))) (expLG_cons (.c .v) (expLG_nil))))
 replace hH:=condF hc hH
 refine AW.skip ?_
 iterate 2 refine AW.seq ?_
 obtain ⟨x5,hx6,hH⟩:=bindE hH
 refine AW.region (AO.pu T (d:=.g [sA.best,.s (List.map encLine sA.lines)]) ?_)
 iterate 2 refine AO.pu T ?_
 refine AO.val rfl rfl (callV_ok rfl rfl rfl rfl (spec_seHas_ok fuel _ _ _ (hx6)) rfl) ?_
 refine AO.pu T ?_
 refine AO.nil (AW.seq ?_)
 obtain ⟨x7,hx8,hH⟩:=bindE hH
 obtain ⟨x9,hx10,hH⟩:=bindE hH
 refine AW.drawn 11 4 [] mix (by kernel_rfl) rfl ?_
 iterate 3 refine AD.pure T rfl rfl rfl ?_
 refine AD.pureG T [] rfl trivial rfl rfl ?_
 refine AD.pureG T [24] rfl ⟨fun h=>h,trivial⟩ rfl rfl ?_
 refine AD.pureG T [] rfl trivial rfl rfl ?_
 refine AD.guard [25,26] rfl ⟨fun h=>h,fun h=>h,trivial⟩ (fun hg=>ix_map_ok T rfl rfl rfl rfl rfl (optT hx8 hg) rfl) rfl ?_
 refine AD.pureG T [27] rfl ⟨fun h=>h,trivial⟩ rfl rfl ?_
 refine AD.pureG T [28] rfl ⟨fun h=>h,trivial⟩ rfl rfl ?_
 refine AD.pureG T [] rfl trivial rfl rfl ?_
 refine AD.pureG T [30] rfl ⟨fun h=>h,trivial⟩ rfl rfl ?_
 refine AD.nil (AO.guard [29,31] rfl ⟨fun h=>h,fun h=>h,trivial⟩ (fun hg=>callV_ok rfl rfl rfl rfl (spec_l1Has_ok _ _ _ (optT hx10 hg)) rfl) rfl ?_)
 refine AO.val rfl rfl (pick_and rfl rfl rfl rfl) ?_
 refine AO.nil (AW.le (Le.ct 0 0 (σ':=(⟨[(2,.p 1 0),(3,.p 2 0),(4,.p 3 0),(33,.v (.bool (decide (x5 ≥ 0) && x9)))],[(1,.box [sA.best,.s (List.map encLine sA.lines)]),(2,.box [e.event,e.skater,e.points]),(3,.box [(0:Int),.w 0 []])],43,[]⟩:St))) ?_)
 refine AW.cond (b:=(decide (x5 ≥ 0) && x9)) rfl (fun hc=>?_) (fun hc=>?_)
 replace hH:=condT hc hH
 refine AW.seq (AW.region (AO.pu T (d:=.g [(0:Int),.w 0 []]) ?_))
 refine AO.se T [(0:Int),.w 0 []] ?_
 refine AO.pu T ?_
 refine AO.nil (AW.ret ?_)
 have hR:=someE hH;subst hR
 exact retQ.i [] rfl (.t (expLG_cons (.g (expLC_cons .v (expLC_cons .nil (expLC_nil)))) (expLG_cons (.c .v) (expLG_nil))))
 replace hH:=condF hc hH
 refine AW.skip (AW.seq ?_)
 obtain ⟨x11,hx12,hH⟩:=bindE hH
 refine AW.region (AO.pu T (d:=.g [sA.best,.s (List.map encLine sA.lines)]) ?_)
 refine AO.pu T (d:=.g [e.event,e.skater,e.points]) ?_
 refine AO.step rfl (call_ok rfl 4 rfl rfl rfl (spec_seAdd_ok fuel _ _ _ (hx12)) rfl rfl rfl) ?_
 refine AO.step rfl (alloc_ok T rfl 5 rfl rfl rfl rfl rfl) ?_
 refine AO.se T [x11.best,.R 4] ?_
 refine AO.nil ?_
 iterate 2 refine AW.seq ?_
 obtain ⟨x13,hx14,hH⟩:=bindE hH
 refine AW.region (AO.pu T (d:=.g [x11.best,.R 4]) ?_)
 refine AO.val rfl rfl (callLV_ok rfl rfl rfl (es:=[.g (encSeason x11)]) ⟨lend_g (LendL.cons (.free rfl) (LendL.cons ((.rowR rfl (.map fun y=>frzLine y))) LendL.nil)),trivial⟩ (spec_seGood_ok _ _ (hx14)) (zfree_v _) rfl) ?_
 refine AO.pu T ?_
 refine AO.nil (AW.cond (b:=(!x13)) rfl (fun hc=>?_) (fun hc=>?_))
 replace hH:=condT hc hH
 refine AW.seq (AW.region (AO.pu T (d:=.g [(0:Int),.w 0 []]) ?_))
 refine AO.se T [(0:Int),.w 0 []] ?_
 refine AO.pu T ?_
 refine AO.nil (AW.ret ?_)
 have hR:=someE hH;subst hR
 exact retQ.i [] rfl (.t (expLG_cons (.g (expLC_cons .v (expLC_cons .nil (expLC_nil)))) (expLG_cons (.c .v) (expLG_nil))))
 replace hH:=condF hc hH
 refine AW.skip (AW.seq (AW.region ?_))
 refine AO.pu T (d:=.g [x11.best,.R 4]) ?_
 refine AO.se T [x11.best,.R 4] ?_
 refine AO.pu T ?_
 refine AO.nil (AW.ret ?_)
 have hR:=someE hH;subst hR
 exact retQ.i [4] rfl (.t (expLG_cons (.g (expLC_cons .v (expLC_cons (.rowR rfl) (expLC_nil)))) (expLG_cons (.c .v) (expLG_nil))))

def spec_wlWith_l1 (x1:(List Int)):List Season→Nat→List Season→Option World
  | [],k3,v18 =>
    some (World.mk v18 x1)
  | y4::ys5,k3,v18 =>
    (spec_seOwn_p y4).bind fun x20 =>
    (need (fitsB 32 (v18.length+([x20]).length))).bind fun u22 =>
    spec_wlWith_l1 x1 ys5 (k3+1) (v18++[x20])
def spec_wlWith_p (seasons:List Season) (weights:List Int):Option World :=
  (spec_l1Own_p weights).bind fun x1 =>
  spec_wlWith_l1 x1 seasons 0 []
theorem spec_wlWith_ok (seasons:List Season) (weights:List Int) (r:World) (hH:spec_wlWith_p seasons weights=some r):SpecR Tryz.prog 63 [.s (List.map encSeason seasons),.s (List.map encInt weights)] (.g (encWorldH r)):=by
 refine fn_ok T Tryz.func63 rfl (by decide) rfl ?_
 refine AW.seq (AW.region (AO.step rfl (alloc_ok T rfl 1 rfl rfl rfl rfl rfl) ?_))
 refine AO.nil (AW.seq ?_)
 obtain ⟨x1,hx2,hH⟩:=bindE hH
 refine AW.region (AO.pu T ?_)
 refine AO.step rfl (call_ok rfl 2 rfl rfl rfl (spec_l1Own_ok _ _ (hx2)) rfl rfl rfl) ?_
 refine AO.pu T (d:=.g [.w 0 [],.R 2]) ?_
 refine AO.step rfl (alloc_ok T rfl 3 rfl rfl rfl rfl rfl) ?_
 refine AO.se T [.w 0 [],.R 2] ?_
 refine AO.nil ?_
 iterate 2 refine AW.seq ?_
 refine AW.region (AO.pu T ?_)
 refine AO.val rfl rfl (len_map_ok T rfl rfl rfl) ?_
 refine AO.pu T ?_
 refine AO.nil (AW.block ?_)
 refine AW.loopS (fun s:Nat × (List Season)=>(⟨[(4,.p 1 0),(5,.p 3 0),(11,.s (List.map encSeason seasons)),(12,(seasons.length:Int)),(13,(s.1:Int))],[(1,.box [.w 0 [],.w 0 []]),(2,.row 1 (List.map encInt x1)),(3,.box [.R 9,.R 2]),(9,.row 2 (List.map encSeason s.2))],26,[]⟩:St)) (fun s=>s.1 ≤ seasons.length∧spec_wlWith_l1 x1 (seasons.drop s.1) s.1 s.2=some r) (fun s=>seasons.length - s.1) (0,[]) ⟨Nat.zero_le _,hH⟩ ?_ ?_
 refine Le.trans (Le.voidBox 3 0 9 2 rfl rfl rfl rfl) ?_
 exact Le.ct 0 0
 rintro ⟨k3,v18⟩ ⟨hk,hH⟩
 replace hH:spec_wlWith_l1 x1 (seasons.drop k3) k3 v18=some r:=hH
 try dsimp only
 refine AW.boundM (t:=11) (l:=seasons) rfl (fun hb7=>?_)
 rcases hd6:seasons.drop k3 with _ | ⟨y4,ys5⟩
 rw [hd6,spec_wlWith_l1] at hH
 have hlt8:=drop_ge hd6
 refine AW.seq (AW.region (AO.pu T ?_))
 refine AO.nil (AW.seq (AW.condF' (b:=decide ((k3:Int) < (seasons.length:Int))) rfl (rngF hlt8) ?_))
 refine AW.exit (AW.seq (AW.region ?_))
 refine AO.pu T (d:=.g [.R 9,.R 2]) ?_
 refine AO.se T [.R 9,.R 2] ?_
 refine AO.nil (AW.ret ?_)
 have hR:=someE hH;subst hR
 exact retQ.i [9,2] rfl (.c (.g (expLC_cons (.rowR rfl) (expLC_cons (.rowR rfl) (expLC_nil)))))
 rw [hd6,spec_wlWith_l1] at hH
 have hlt8:=drop_lt hd6
 refine AW.seq (AW.region (AO.pu T ?_))
 refine AO.nil (AW.seq (AW.condT' (b:=decide ((k3:Int) < (seasons.length:Int))) rfl (rngT hlt8) ?_))
 refine AW.skip (AW.seq ?_)
 refine AW.block (AW.seq (AW.region ?_))
 refine AO.val rfl rfl (ix_map_ok T rfl rfl rfl rfl rfl (getI_drop hd6) rfl) ?_
 refine AO.pu T (d:=.g [y4.best,.s (List.map encLine y4.lines)]) ?_
 refine AO.step rfl (alloc_ok T rfl 10 rfl rfl rfl rfl rfl) ?_
 refine AO.se T [y4.best,.s (List.map encLine y4.lines)] ?_
 refine AO.nil ?_
 obtain ⟨x20,hx21,hH⟩:=bindE hH
 obtain ⟨u22,hx23,hH⟩:=bindE hH
 refine AW.drawn 5 11 [] mix (by kernel_rfl) rfl ?_
 iterate 2 refine AD.pure T rfl rfl rfl ?_
 refine AD.pure T (d:=.g [y4.best,.s (List.map encLine y4.lines)]) rfl rfl rfl ?_
 refine AD.val rfl rfl (callF_ok rfl rfl rfl rfl (spec_seOwn_ok _ _ (hx21)) (.c (.g (frzSeason _)))) ?_
 refine AD.q (FStep.mk T (f:=encSeason) (l:=[x20]) rfl rfl rfl rfl rfl rfl rfl rfl rfl (fun _=>rfl) rfl rfl rfl rfl) (by simp [namesIn]) (Nat.le_succ _) rfl ?_
 refine AD.nil (AO.step rfl (app_rv_map T rfl 12 rfl rfl rfl rfl rfl (by decide) rfl rfl rfl rfl (fun _=>rfl) (needT (hx23)) rfl rfl) ?_)
 refine AO.pu T ?_
 refine AO.se T [.R 12,.R 2] ?_
 refine AO.nil (AW.region ?_)
 refine AO.val rfl rfl (ar_ok rfl rfl rfl rfl (inI_succ hlt8 hb7)) ?_
 refine AO.pu T ?_
 refine AO.nil ?_
 refine ⟨(k3+1,(v18++[x20])),⟨Nat.succ_le_of_lt hlt8,(by rw [drop_succ_of hd6];exact hH)⟩,(by have:=hlt8;dsimp only;omega),?_⟩
 exact Le.ct 12 9

def spec_AddToWorld_p (fuel:Nat) (w:World) (e:Entry):Option (World × Bool) :=
  (spec_wlGood_p w).bind fun x1 =>
  cond (!x1)
    (some ((World.mk [] []),false))
    ((getI w.seasons 0).bind fun x3 =>
    (spec_AddEntry_p fuel x3 e).bind fun x5 =>
    cond (!x5.2)
      (some ((World.mk [] []),false))
      ((spec_wlWith_p w.seasons w.weights).bind fun x7 =>
      (getI x7.seasons 0).bind fun x9 =>
      some ((World.mk (x7.seasons.set ((0:Int).toNat) (Season.mk x5.1.best x5.1.lines)) x7.weights),true)))
theorem spec_AddToWorld_ok (fuel:Nat) (w:World) (e:Entry) (r:(World × Bool)) (hH:spec_AddToWorld_p fuel w e=some r):SpecR Tryz.prog 25 [.g (encWorld w),.g (encEntry e)] (.t [.g (encWorldH r.1),.v (.bool r.2)]):=by
 refine fn_ok T Tryz.func25 rfl (by decide) rfl ?_
 refine AW.seq (AW.region (AO.step rfl (box_ok T rfl 1 rfl rfl rfl rfl) ?_))
 refine AO.step rfl (box_ok T rfl 2 rfl rfl rfl rfl) ?_
 refine AO.step rfl (alloc_ok T rfl 3 rfl rfl rfl rfl rfl) ?_
 refine AO.pu T ?_
 refine AO.nil ?_
 iterate 2 refine AW.seq ?_
 obtain ⟨x1,hx2,hH⟩:=bindE hH
 refine AW.region (AO.pu T (d:=.g [.s (List.map encSeason w.seasons),.s (List.map encInt w.weights)]) ?_)
 refine AO.val rfl rfl (callV_ok rfl rfl rfl rfl (spec_wlGood_ok _ _ (hx2)) rfl) ?_
 refine AO.pu T ?_
 refine AO.nil (AW.cond (b:=(!x1)) rfl (fun hc=>?_) (fun hc=>?_))
 replace hH:=condT hc hH
 refine AW.seq (AW.region (AO.pu T (d:=.g [.w 0 [],.w 0 []]) ?_))
 refine AO.se T [.w 0 [],.w 0 []] ?_
 refine AO.pu T ?_
 refine AO.nil (AW.ret ?_)
 have hR:=someE hH;subst hR
 exact retQ.i [] rfl (.t (expLG_cons (.g (expLC_cons .nil (expLC_cons .nil (expLC_nil)))) (expLG_cons (.c .v) (expLG_nil))))
 replace hH:=condF hc hH
 refine AW.skip (AW.seq ?_)
 obtain ⟨x3,hx4,hH⟩:=bindE hH
 obtain ⟨x5,hx6,hH⟩:=bindE hH
 refine AW.drawn 11 4 [] mix (by kernel_rfl) rfl ?_
 iterate 2 refine AD.pure T rfl rfl rfl ?_
 refine AD.val rfl rfl (ix_map_ok T rfl rfl rfl rfl rfl (hx4) rfl) ?_
 refine AD.pure T (d:=.g [x3.best,.s (List.map encLine x3.lines)]) rfl rfl rfl ?_
 refine AD.pure T (d:=.g [e.event,e.skater,e.points]) rfl rfl rfl ?_
 refine AD.q (FStep.call rfl rfl rfl rfl rfl (spec_AddEntry_ok fuel _ _ _ (hx6)) rfl rfl) (impT_names _ _) (impT_le _ _) rfl ?_
 refine AD.pure T rfl rfl rfl ?_
 refine AD.pure T (d:=.g [x5.1.best,.R 4]) rfl rfl rfl ?_
 refine AD.pure T rfl rfl rfl ?_
 refine AD.q (FStep.alloc T rfl rfl rfl rfl rfl rfl) (by simp [namesIn]) (Nat.le_succ _) rfl ?_
 refine AD.k rfl rfl (FStep.store_p T rfl rfl rfl rfl rfl rfl rfl rfl rfl rfl rfl) rfl rfl rfl ?_
 refine AD.nil (AO.pu T ?_)
 refine AO.nil ?_
 iterate 2 refine AW.seq ?_
 refine AW.region ?_
 iterate 2 refine AO.pu T ?_
 refine AO.nil (AW.cond (b:=(!x5.2)) rfl (fun hc=>?_) (fun hc=>?_))
 replace hH:=condT hc hH
 refine AW.seq (AW.region (AO.pu T (d:=.g [.w 0 [],.w 0 []]) ?_))
 refine AO.se T [.w 0 [],.w 0 []] ?_
 refine AO.pu T ?_
 refine AO.nil (AW.le (Le.ct 0 0 (σ':=(⟨[(4,.p 3 0),(5,.v (.bool false))],[(3,.box [.w 0 [],.w 0 []])],35,[]⟩:St))) ?_)
 refine AW.ret ?_
 have hR:=someE hH;subst hR
 exact retQ.i [] rfl (.t (expLG_cons (.g (expLC_cons .nil (expLC_cons .nil (expLC_nil)))) (expLG_cons (.c .v) (expLG_nil))))
 replace hH:=condF hc hH
 refine AW.skip (AW.seq ?_)
 obtain ⟨x7,hx8,hH⟩:=bindE hH
 refine AW.region ?_
 iterate 4 refine AO.pu T ?_
 refine AO.step rfl (call_ok rfl 6 rfl rfl rfl (spec_wlWith_ok _ _ _ (hx8)) rfl rfl rfl) ?_
 refine AO.step rfl (alloc_ok T rfl 8 rfl rfl rfl rfl rfl) ?_
 refine AO.se T [.R 6,.R 7] ?_
 refine AO.nil (AW.le (Le.ct 0 0 (σ':=(⟨[(4,.p 3 0),(6,.p 5 0),(8,.p 8 0)],[(3,.box [.w 0 [],.w 0 []]),(4,.row 3 (List.map encLineO x5.1.lines)),(5,.box [x5.1.best,.R 4]),(6,.row 2 (List.map encSeason x7.seasons)),(7,.row 1 (List.map encInt x7.weights)),(8,.box [.R 6,.R 7])],35,[]⟩:St))) ?_)
 refine AW.seq ?_
 obtain ⟨x9,hx10,hH⟩:=bindE hH
 refine AW.le (Le.freezeM 4 (g:=encLine) rfl (fun y=>frzLine y)) ?_
 refine AW.region ?_
 iterate 2 refine AO.pu T ?_
 refine AO.pu T (d:=.g [x5.1.best,.s (List.map encLine x5.1.lines)]) ?_
 refine AO.val rfl rfl (ix_row_ok T rfl rfl rfl rfl rfl rfl (hx10)) ?_
 refine AO.step rfl (store_row_ok T rfl rfl rfl rfl rfl (getI_get (hx10)) rfl rfl rfl rfl (u':=(Season.mk x5.1.best x5.1.lines)) rfl rfl) ?_
 refine AO.nil (AW.seq (AW.region ?_))
 refine AO.pu T (d:=.g [.R 6,.R 7]) ?_
 refine AO.se T [.R 6,.R 7] ?_
 refine AO.pu T ?_
 refine AO.nil (AW.ret ?_)
 have hR:=someE hH;subst hR
 exact retQ.i [6,7] rfl (.t (expLG_cons (.g (expLC_cons (.rowR rfl) (expLC_cons (.rowR rfl) (expLC_nil)))) (expLG_cons (.c .v) (expLG_nil))))

def laws_sameInts_l1 (b:List Int):List Int→Nat→Option Bool
  | [],k1 =>
    some true
  | y2::ys3,k1 =>
    (getI b (k1:Int)).bind fun x12 =>
    cond (y2 != x12)
      (some false)
      (laws_sameInts_l1 b ys3 (k1+1))
def laws_sameInts_p (a:List Int) (b:List Int):Option Bool :=
  cond ((a.length:Int) != (b.length:Int))
    (some false)
    (laws_sameInts_l1 b a 0)
theorem laws_sameInts_ok (a:List Int) (b:List Int) (r:Bool) (hH:laws_sameInts_p a b=some r):SpecR Tryz.prog 15 [.s (List.map encInt a),.s (List.map encInt b)] (.v (.bool r)):=by
 refine fn_ok T Tryz.func15 rfl (by decide) rfl ?_
 refine AW.seq (AW.region (AO.pu T ?_))
 refine AO.nil ?_
 iterate 2 refine AW.seq ?_
 refine AW.region (AO.pu T ?_)
 refine AO.val rfl rfl (len_map_ok T rfl rfl rfl) ?_
 refine AO.pu T ?_
 refine AO.val rfl rfl (len_map_ok T rfl rfl rfl) ?_
 refine AO.pu T ?_
 refine AO.nil (AW.cond (b:=((a.length:Int) != (b.length:Int))) rfl (fun hc=>?_) (fun hc=>?_))
 replace hH:=condT hc hH
 refine AW.seq (AW.region (AO.pu T ?_))
 refine AO.nil (AW.ret ?_)
 have hR:=someE hH;subst hR
 exact retQ.i [] rfl (.c (.c .v))
 replace hH:=condF hc hH
 refine AW.skip ?_
 iterate 2 refine AW.seq ?_
 refine AW.region (AO.pu T ?_)
 refine AO.val rfl rfl (len_map_ok T rfl rfl rfl) ?_
 refine AO.pu T ?_
 refine AO.nil (AW.block ?_)
 refine AW.loopS (fun s:Nat=>(⟨[(0,.s (List.map encInt a)),(1,.s (List.map encInt b)),(12,(a.length:Int)),(13,(s:Int))],[],26,[]⟩:St)) (fun s=>s ≤ a.length∧laws_sameInts_l1 b (a.drop s) s=some r) (fun s=>a.length - s) 0 ⟨Nat.zero_le _,hH⟩ ?_ ?_
 exact Le.ct 0 0
 rintro k1 ⟨hk,hH⟩
 replace hH:laws_sameInts_l1 b (a.drop k1) k1=some r:=hH
 try dsimp only
 refine AW.boundM (t:=0) (l:=a) rfl (fun hb5=>?_)
 rcases hd4:a.drop k1 with _ | ⟨y2,ys3⟩
 rw [hd4,laws_sameInts_l1] at hH
 have hlt6:=drop_ge hd4
 refine AW.seq (AW.region (AO.pu T ?_))
 refine AO.nil (AW.seq (AW.condF' (b:=decide ((k1:Int) < (a.length:Int))) rfl (rngF hlt6) ?_))
 refine AW.exit (AW.seq (AW.region ?_))
 refine AO.pu T ?_
 refine AO.nil (AW.ret ?_)
 have hR:=someE hH;subst hR
 exact retQ.i [] rfl (.c (.c .v))
 rw [hd4,laws_sameInts_l1] at hH
 have hlt6:=drop_lt hd4
 refine AW.seq (AW.region (AO.pu T ?_))
 refine AO.nil (AW.seq (AW.condT' (b:=decide ((k1:Int) < (a.length:Int))) rfl (rngT hlt6) ?_))
 refine AW.skip (AW.seq ?_)
 refine AW.block (AW.seq (AW.region ?_))
 iterate 2 refine AO.pu T ?_
 refine AO.nil (AW.seq ?_)
 obtain ⟨x12,hx13,hH⟩:=bindE hH
 refine AW.drawn 8 1 [] mix (by kernel_rfl) rfl ?_
 iterate 2 refine AD.pure T rfl rfl rfl ?_
 refine AD.val rfl rfl (ix_map_ok T rfl rfl rfl rfl rfl (getI_drop hd4) rfl) ?_
 iterate 3 refine AD.pure T rfl rfl rfl ?_
 refine AD.val rfl rfl (ix_map_ok T rfl rfl rfl rfl rfl (hx13) rfl) ?_
 refine AD.pure T rfl rfl rfl ?_
 refine AD.nil (AO.pu T ?_)
 refine AO.nil (AW.cond (b:=(y2 != x12)) rfl (fun hc=>?_) (fun hc=>?_))
 replace hH:=condT hc hH
 refine AW.seq (AW.region (AO.pu T ?_))
 refine AO.nil (AW.ret ?_)
 have hR:=someE hH;subst hR
 exact retQ.i [] rfl (.c (.c .v))
 replace hH:=condF hc hH
 refine AW.skip (AW.region ?_)
 refine AO.val rfl rfl (ar_ok rfl rfl rfl rfl (inI_succ hlt6 hb5)) ?_
 refine AO.pu T ?_
 refine AO.nil ?_
 refine ⟨k1+1,⟨Nat.succ_le_of_lt hlt6,(by rw [drop_succ_of hd4];exact hH)⟩,(by have:=hlt6;dsimp only;omega),?_⟩
 exact Le.ct 0 0

def laws_pSameWorld_l2 (x146:Season):List Line→Nat→Option (Except Bool Unit)
  | [],k148 =>
    some (.ok ())
  | y149::ys150,k148 =>
    (getI x146.lines (k148:Int)).bind fun x167 =>
    (opt (!(y149.skater != x167.skater)) default (laws_sameInts_p y149.events x167.events)).bind fun x169 =>
    (opt (!((y149.skater != x167.skater) || (!x169))) default (laws_sameInts_p y149.points x167.points)).bind fun x171 =>
    cond (((y149.skater != x167.skater) || (!x169)) || (!x171))
      (some (.error false))
      (laws_pSameWorld_l2 x146 ys150 (k148+1))
def laws_pSameWorld_l1 (b:World):List Season→Nat→Option Bool
  | [],k3 =>
    some true
  | y4::ys5,k3 =>
    ((getI b.seasons (k3:Int)).bind fun x146 =>
    cond ((y4.best != x146.best) || ((y4.lines.length:Int) != (x146.lines.length:Int)))
      (some (.error false))
      (laws_pSameWorld_l2 x146 y4.lines 0)).bind fun o144=>flow o144 fun _ =>
    laws_pSameWorld_l1 b ys5 (k3+1)
def laws_pSameWorld_p (a:World) (b:World):Option Bool :=
  (laws_sameInts_p a.weights b.weights).bind fun x1 =>
  cond ((!x1) || ((a.seasons.length:Int) != (b.seasons.length:Int)))
    (some false)
    (laws_pSameWorld_l1 b a.seasons 0)
theorem laws_pSameWorld_ok (a:World) (b:World) (r:Bool) (hH:laws_pSameWorld_p a b=some r):SpecR Tryz.prog 26 [.g (encWorld a),.g (encWorld b)] (.v (.bool r)):=by
 refine fn_ok T Tryz.func26 rfl (by decide) rfl ?_
 refine AW.seq (AW.region (AO.step rfl (box_ok T rfl 1 rfl rfl rfl rfl) ?_))
 refine AO.step rfl (box_ok T rfl 2 rfl rfl rfl rfl) ?_
 refine AO.pu T ?_
 refine AO.nil ?_
 iterate 2 refine AW.seq ?_
 obtain ⟨x1,hx2,hH⟩:=bindE hH
 refine AW.region ?_
 iterate 4 refine AO.pu T ?_
 refine AO.val rfl rfl (callV_ok rfl rfl rfl rfl (laws_sameInts_ok _ _ _ (hx2)) rfl) ?_
 iterate 2 refine AO.pu T ?_
 refine AO.pureG T [] rfl trivial rfl rfl ?_
 refine AO.pureG T [16] rfl ⟨fun h=>h,trivial⟩ rfl rfl ?_
 refine AO.guard [17] rfl ⟨fun h=>h,trivial⟩ (fun hg=>len_map_ok T rfl rfl rfl) rfl ?_
 refine AO.pureG T [] rfl trivial rfl rfl ?_
 refine AO.pureG T [19] rfl ⟨fun h=>h,trivial⟩ rfl rfl ?_
 refine AO.guard [20] rfl ⟨fun h=>h,trivial⟩ (fun hg=>len_map_ok T rfl rfl rfl) rfl ?_
 refine AO.pureG T [18,21] rfl ⟨fun h=>h,fun h=>h,trivial⟩ rfl rfl ?_
 refine AO.val rfl rfl (pick_or rfl rfl rfl rfl) ?_
 refine AO.nil (AW.cond (b:=((!x1) || ((a.seasons.length:Int) != (b.seasons.length:Int)))) rfl (fun hc=>?_) (fun hc=>?_))
 replace hH:=condT hc hH
 refine AW.seq (AW.region (AO.pu T ?_))
 refine AO.nil (AW.ret ?_)
 have hR:=someE hH;subst hR
 exact retQ.i [] rfl (.c (.c .v))
 replace hH:=condF hc hH
 refine AW.skip ?_
 iterate 2 refine AW.seq ?_
 refine AW.region ?_
 iterate 2 refine AO.pu T ?_
 refine AO.val rfl rfl (len_map_ok T rfl rfl rfl) ?_
 refine AO.pu T ?_
 refine AO.nil (AW.block ?_)
 refine AW.loopS (fun s:Nat=>(⟨[(2,.p 1 0),(3,.p 2 0),(26,(a.seasons.length:Int)),(27,(s:Int))],[(1,.box [.s (List.map encSeason a.seasons),.s (List.map encInt a.weights)]),(2,.box [.s (List.map encSeason b.seasons),.s (List.map encInt b.weights)])],107,[]⟩:St)) (fun s=>s ≤ a.seasons.length∧laws_pSameWorld_l1 b (a.seasons.drop s) s=some r) (fun s=>a.seasons.length - s) 0 ⟨Nat.zero_le _,hH⟩ ?_ ?_
 exact Le.ct 0 0
 rintro k3 ⟨hk,hH⟩
 replace hH:laws_pSameWorld_l1 b (a.seasons.drop k3) k3=some r:=hH
 try dsimp only
 refine AW.boundBox (id:=1) (j:=0) (l:=a.seasons) rfl rfl (fun hb7=>?_)
 rcases hd6:a.seasons.drop k3 with _ | ⟨y4,ys5⟩
 rw [hd6,laws_pSameWorld_l1] at hH
 have hlt8:=drop_ge hd6
 refine AW.seq (AW.region (AO.pu T ?_))
 refine AO.nil (AW.seq (AW.condF' (b:=decide ((k3:Int) < (a.seasons.length:Int))) rfl (rngF hlt8) ?_))
 refine AW.exit (AW.seq (AW.region ?_))
 refine AO.pu T ?_
 refine AO.nil (AW.ret ?_)
 have hR:=someE hH;subst hR
 exact retQ.i [] rfl (.c (.c .v))
 rw [hd6,laws_pSameWorld_l1] at hH
 have hlt8:=drop_lt hd6
 refine AW.seq (AW.region (AO.pu T ?_))
 refine AO.nil (AW.seq (AW.condT' (b:=decide ((k3:Int) < (a.seasons.length:Int))) rfl (rngT hlt8) ?_))
 refine AW.skip ?_
 obtain ⟨o144,hH,hK145⟩:=bindE hH
 refine AW.seqJ (fun s:Unit=>(⟨[(2,.p 1 0),(3,.p 2 0),(26,(a.seasons.length:Int)),(27,(k3:Int))],[(1,.box [.s (List.map encSeason a.seasons),.s (List.map encInt a.weights)]),(2,.box [.s (List.map encSeason b.seasons),.s (List.map encInt b.weights)])],107,[]⟩:St)) (fun s=>.ok s=o144) ?_ ?_
 refine AW.block (AW.seq (AW.region ?_))
 iterate 2 refine AO.pu T ?_
 refine AO.nil (AW.seq ?_)
 obtain ⟨x146,hx147,hH⟩:=bindE hH
 refine AW.drawn 13 13 [] mix (by kernel_rfl) rfl ?_
 iterate 3 refine AD.pure T rfl rfl rfl ?_
 refine AD.val rfl rfl (ix_map_ok T rfl rfl rfl rfl rfl (getI_drop hd6) rfl) ?_
 refine AD.pure T (d:=.g [y4.best,.s (List.map encLine y4.lines)]) rfl rfl rfl ?_
 iterate 3 refine AD.pure T rfl rfl rfl ?_
 refine AD.val rfl rfl (ix_map_ok T rfl rfl rfl rfl rfl (hx147) rfl) ?_
 refine AD.pure T (d:=.g [x146.best,.s (List.map encLine x146.lines)]) rfl rfl rfl ?_
 iterate 2 refine AD.q (FStep.alloc T rfl rfl rfl rfl rfl rfl) (by simp [namesIn]) (Nat.le_succ _) rfl ?_
 refine AD.k rfl rfl (FStep.store_p T rfl rfl rfl rfl rfl rfl rfl rfl rfl rfl rfl) rfl rfl rfl ?_
 refine AD.nil (AO.se T [x146.best,.s (List.map encLine x146.lines)] ?_)
 refine AO.nil ?_
 iterate 2 refine AW.seq ?_
 refine AW.region ?_
 iterate 6 refine AO.pu T ?_
 refine AO.pureG T [] rfl trivial rfl rfl ?_
 refine AO.pureG T [46] rfl ⟨fun h=>h,trivial⟩ rfl rfl ?_
 refine AO.guard [47] rfl ⟨fun h=>h,trivial⟩ (fun hg=>len_map_ok T rfl rfl rfl) rfl ?_
 refine AO.pureG T [] rfl trivial rfl rfl ?_
 refine AO.pureG T [49] rfl ⟨fun h=>h,trivial⟩ rfl rfl ?_
 refine AO.guard [50] rfl ⟨fun h=>h,trivial⟩ (fun hg=>len_map_ok T rfl rfl rfl) rfl ?_
 refine AO.pureG T [48,51] rfl ⟨fun h=>h,fun h=>h,trivial⟩ rfl rfl ?_
 refine AO.val rfl rfl (pick_or rfl rfl rfl rfl) ?_
 refine AO.nil (AW.le (Le.ct 0 0 (σ':=(⟨[(2,.p 1 0),(3,.p 2 0),(6,.p 13 0),(7,.p 14 0),(26,(a.seasons.length:Int)),(27,(k3:Int)),(53,.v (.bool ((y4.best != x146.best) || ((y4.lines.length:Int) != (x146.lines.length:Int)))))],[(1,.box [.s (List.map encSeason a.seasons),.s (List.map encInt a.weights)]),(2,.box [.s (List.map encSeason b.seasons),.s (List.map encInt b.weights)]),(13,.box [y4.best,.s (List.map encLine y4.lines)]),(14,.box [x146.best,.s (List.map encLine x146.lines)])],107,[]⟩:St))) ?_)
 refine AW.cond (b:=((y4.best != x146.best) || ((y4.lines.length:Int) != (x146.lines.length:Int)))) rfl (fun hc=>?_) (fun hc=>?_)
 replace hH:=condT hc hH
 refine AW.seq (AW.region (AO.pu T ?_))
 refine AO.nil (AW.ret ?_)
 obtain rfl:=someE hH
 replace hH:=hK145
 have hR:=someE hH;subst hR
 exact retQ.i [] rfl (.c (.c .v))
 replace hH:=condF hc hH
 refine AW.skip (AW.seq (AW.region ?_))
 iterate 2 refine AO.pu T ?_
 refine AO.val rfl rfl (len_map_ok T rfl rfl rfl) ?_
 refine AO.pu T ?_
 refine AO.nil (AW.block ?_)
 refine AW.loopS (fun s:Nat=>(⟨[(2,.p 1 0),(3,.p 2 0),(6,.p 13 0),(7,.p 14 0),(26,(a.seasons.length:Int)),(27,(k3:Int)),(56,(y4.lines.length:Int)),(57,(s:Int))],[(1,.box [.s (List.map encSeason a.seasons),.s (List.map encInt a.weights)]),(2,.box [.s (List.map encSeason b.seasons),.s (List.map encInt b.weights)]),(13,.box [y4.best,.s (List.map encLine y4.lines)]),(14,.box [x146.best,.s (List.map encLine x146.lines)])],107,[]⟩:St)) (fun s=>s ≤ y4.lines.length∧laws_pSameWorld_l2 x146 (y4.lines.drop s) s=some o144) (fun s=>y4.lines.length - s) 0 ⟨Nat.zero_le _,hH⟩ ?_ ?_
 exact Le.ct 0 0
 rintro k148 ⟨hk,hH⟩
 replace hH:laws_pSameWorld_l2 x146 (y4.lines.drop k148) k148=some o144:=hH
 try dsimp only
 refine AW.boundBox (id:=13) (j:=1) (l:=y4.lines) rfl rfl (fun hb152=>?_)
 rcases hd151:y4.lines.drop k148 with _ | ⟨y149,ys150⟩
 rw [hd151,laws_pSameWorld_l2] at hH
 have hlt153:=drop_ge hd151
 refine AW.seq (AW.region (AO.pu T ?_))
 refine AO.nil (AW.seq (AW.condF' (b:=decide ((k148:Int) < (y4.lines.length:Int))) rfl (rngF hlt153) ?_))
 refine AW.exit ?_
 refine ⟨_,someE hH,?_⟩
 exact Le.ct 0 0
 rw [hd151,laws_pSameWorld_l2] at hH
 have hlt153:=drop_lt hd151
 refine AW.seq (AW.region (AO.pu T ?_))
 refine AO.nil (AW.seq (AW.condT' (b:=decide ((k148:Int) < (y4.lines.length:Int))) rfl (rngT hlt153) ?_))
 refine AW.skip (AW.seq ?_)
 refine AW.block (AW.seq (AW.region ?_))
 iterate 2 refine AO.pu T ?_
 refine AO.nil (AW.seq ?_)
 obtain ⟨x167,hx168,hH⟩:=bindE hH
 obtain ⟨x169,hx170,hH⟩:=bindE hH
 obtain ⟨x171,hx172,hH⟩:=bindE hH
 refine AW.drawn 42 15 [] mix (by kernel_rfl) rfl ?_
 iterate 3 refine AD.pure T rfl rfl rfl ?_
 refine AD.val rfl rfl (ix_map_ok T rfl rfl rfl rfl rfl (getI_drop hd151) rfl) ?_
 iterate 5 refine AD.pure T rfl rfl rfl ?_
 refine AD.val rfl rfl (ix_map_ok T rfl rfl rfl rfl rfl (hx168) rfl) ?_
 iterate 4 refine AD.pure T rfl rfl rfl ?_
 refine AD.pureG T [] rfl trivial rfl rfl ?_
 refine AD.pureG T [74] rfl ⟨fun h=>h,trivial⟩ rfl rfl ?_
 refine AD.pureG T [] rfl trivial rfl rfl ?_
 refine AD.guard [75,76] rfl ⟨fun h=>h,fun h=>h,trivial⟩ (fun hg=>ix_map_ok T rfl rfl rfl rfl rfl (getI_drop hd151) rfl) rfl ?_
 refine AD.pureG T [77] rfl ⟨fun h=>h,trivial⟩ rfl rfl ?_
 refine AD.pureG T [78] rfl ⟨fun h=>h,trivial⟩ rfl rfl ?_
 refine AD.pureG T [] rfl trivial rfl rfl ?_
 refine AD.pureG T [80] rfl ⟨fun h=>h,trivial⟩ rfl rfl ?_
 refine AD.pureG T [] rfl trivial rfl rfl ?_
 refine AD.guard [81,82] rfl ⟨fun h=>h,fun h=>h,trivial⟩ (fun hg=>ix_map_ok T rfl rfl rfl rfl rfl (hx168) rfl) rfl ?_
 refine AD.pureG T [83] rfl ⟨fun h=>h,trivial⟩ rfl rfl ?_
 refine AD.pureG T [84] rfl ⟨fun h=>h,trivial⟩ rfl rfl ?_
 refine AD.guard [79,85] rfl ⟨fun h=>h,fun h=>h,trivial⟩ (fun hg=>callV_ok rfl rfl rfl rfl (laws_sameInts_ok _ _ _ (optT hx170 hg)) rfl) rfl ?_
 refine AD.pureG T [86] rfl ⟨fun h=>h,trivial⟩ rfl rfl ?_
 refine AD.val rfl rfl (pick_or rfl rfl rfl rfl) ?_
 refine AD.pure T rfl rfl rfl ?_
 refine AD.pureG T [] rfl trivial rfl rfl ?_
 refine AD.pureG T [90] rfl ⟨fun h=>h,trivial⟩ rfl rfl ?_
 refine AD.pureG T [] rfl trivial rfl rfl ?_
 refine AD.guard [91,92] rfl ⟨fun h=>h,fun h=>h,trivial⟩ (fun hg=>ix_map_ok T rfl rfl rfl rfl rfl (getI_drop hd151) rfl) rfl ?_
 refine AD.pureG T [93] rfl ⟨fun h=>h,trivial⟩ rfl rfl ?_
 refine AD.pureG T [94] rfl ⟨fun h=>h,trivial⟩ rfl rfl ?_
 refine AD.pureG T [] rfl trivial rfl rfl ?_
 refine AD.pureG T [96] rfl ⟨fun h=>h,trivial⟩ rfl rfl ?_
 refine AD.pureG T [] rfl trivial rfl rfl ?_
 refine AD.guard [97,98] rfl ⟨fun h=>h,fun h=>h,trivial⟩ (fun hg=>ix_map_ok T rfl rfl rfl rfl rfl (hx168) rfl) rfl ?_
 refine AD.pureG T [99] rfl ⟨fun h=>h,trivial⟩ rfl rfl ?_
 refine AD.pureG T [100] rfl ⟨fun h=>h,trivial⟩ rfl rfl ?_
 refine AD.nil (AO.guard [95,101] rfl ⟨fun h=>h,fun h=>h,trivial⟩ (fun hg=>callV_ok rfl rfl rfl rfl (laws_sameInts_ok _ _ _ (optT hx172 hg)) rfl) rfl ?_)
 refine AO.pureG T [102] rfl ⟨fun h=>h,trivial⟩ rfl rfl ?_
 refine AO.val rfl rfl (pick_or rfl rfl rfl rfl) ?_
 refine AO.nil (AW.le (Le.ct 0 0 (σ':=(⟨[(2,.p 1 0),(3,.p 2 0),(6,.p 13 0),(7,.p 14 0),(26,(a.seasons.length:Int)),(27,(k3:Int)),(56,(y4.lines.length:Int)),(57,(k148:Int)),(104,.v (.bool (((y149.skater != x167.skater) || (!x169)) || (!x171))))],[(1,.box [.s (List.map encSeason a.seasons),.s (List.map encInt a.weights)]),(2,.box [.s (List.map encSeason b.seasons),.s (List.map encInt b.weights)]),(13,.box [y4.best,.s (List.map encLine y4.lines)]),(14,.box [x146.best,.s (List.map encLine x146.lines)])],107,[]⟩:St))) ?_)
 refine AW.cond (b:=(((y149.skater != x167.skater) || (!x169)) || (!x171))) rfl (fun hc=>?_) (fun hc=>?_)
 replace hH:=condT hc hH
 refine AW.seq (AW.region (AO.pu T ?_))
 refine AO.nil (AW.ret ?_)
 obtain rfl:=someE hH
 replace hH:=hK145
 have hR:=someE hH;subst hR
 exact retQ.i [] rfl (.c (.c .v))
 replace hH:=condF hc hH
 refine AW.skip (AW.region ?_)
 refine AO.val rfl rfl (ar_ok rfl rfl rfl rfl (inI_succ hlt153 hb152)) ?_
 refine AO.pu T ?_
 refine AO.nil ?_
 refine ⟨k148+1,⟨Nat.succ_le_of_lt hlt153,(by rw [drop_succ_of hd151];exact hH)⟩,(by have:=hlt153;dsimp only;omega),?_⟩
 exact Le.ct 0 0
 rintro _ hs
 subst hs
 replace hH:=hK145
 try dsimp only [flow,flowE] at hH
 try dsimp only
 refine AW.region (AO.val rfl rfl (ar_ok rfl rfl rfl rfl (inI_succ hlt8 hb7)) ?_)
 refine AO.pu T ?_
 refine AO.nil ?_
 refine ⟨k3+1,⟨Nat.succ_le_of_lt hlt8,(by rw [drop_succ_of hd6];exact hH)⟩,(by have:=hlt8;dsimp only;omega),?_⟩
 exact Le.ct 0 0

def slices_Sort_int_p (x:List Int):Option (List Int):=(need (Nat.blt x.length 4611686018427387904)).bind fun _=>some (sortI x)
theorem slices_Sort_int_ok (x:List Int) (r:List Int) (hH:slices_Sort_int_p x=some r):SpecM Tryz.prog 88 [.w 1 (x.map encInt)] [.w 1 (r.map encInt)] (.t []):=by
  obtain ⟨u,hu,hr⟩:=bindE hH
  cases someE hr
  exact spec_sortI ⟨_,Tryz.func88,rfl,by decide⟩ Tryz.slices_Sort_int Tryz.slices_Sort_int_none x (Nat.le_of_ble_eq_true (needT hu))

def slices_Compact_int_l2 (sA:List Int) (v147:Int):Nat→List Int→Int→List Int→Int→Option (Except ((List Int)) Unit)
  | 0,_,_,_,_=>none
  | k192+1,v207,v208,v209,v210 =>
    cond (decide (v210 < (((sA.length - v147.toNat):Nat):Int)))
      ((getP v209 v147.toNat (sA.length - v147.toNat) v210).bind fun x212 =>
      (getP v209 v147.toNat (sA.length - v147.toNat) (w64 (v210 - 1))).bind fun x214 =>
      cond (x212 != x214)
        ((getI v209 v208).bind fun x216 =>
        slices_Compact_int_l2 sA v147 k192 (v209.set v208.toNat x212) (w64 (v208+1)) (v209.set v208.toNat x212) (w64 (v210+1)))
        (slices_Compact_int_l2 sA v147 k192 v209 v208 v209 (w64 (v210+1))))
      ((need (inB v208 v209.length v209.length)).bind fun u218 =>
      (need (inB 0 v208 ((List.take v208.toNat v209++List.replicate (v209.length - v208.toNat) 0++List.drop (v208.toNat+(v209.length - v208.toNat)) v209)).length)).bind fun u220 =>
      some (.error ((List.drop 0 (List.take v208.toNat v209++List.replicate (v209.length - v208.toNat) 0++List.drop (v208.toNat+(v209.length - v208.toNat)) v209)).take v208.toNat)))
def slices_Compact_int_l1 (sA:List Int) (fuel:Nat):Nat→Int→Option ((List Int))
  | 0,_=>none
  | k1+1,v147 =>
    cond (decide (v147 < (sA.length:Int)))
      (((getI sA v147).bind fun x186 =>
      (getI sA (w64 (v147 - 1))).bind fun x188 =>
      cond (x186 == x188)
        ((need (inB v147 sA.length sA.length)).bind fun u190 =>
        slices_Compact_int_l2 sA v147 fuel sA v147 sA 1)
        (some (.ok ()))).bind fun o184=>flow o184 fun _ =>
      slices_Compact_int_l1 sA fuel k1 (w64 (v147+1)))
      (some sA)
def slices_Compact_int_p (fuel:Nat) (sA:List Int):Option (List Int) :=
  cond (decide ((sA.length:Int) < 2))
    (some sA)
    (slices_Compact_int_l1 sA fuel fuel 1)
theorem slices_Compact_int_ok (fuel:Nat) (sA:List Int) (r:(List Int)) (hH:slices_Compact_int_p fuel sA=some r):SpecM Tryz.prog 89 [.w 1 (sA.map encInt)] [.u] (.w 1 (r.map encInt)):=by
 refine fn_okM T Tryz.func89 rfl (by decide) rfl rfl ?_
 intro L
 show AW _ _ _ (⟨[(0,.R 1)],[(1,.row 1 (List.map encInt sA))],61,[(1,L 1)]⟩:St)
 refine AW.seq (AW.region (AO.pu T ?_))
 refine AO.nil ?_
 iterate 2 refine AW.seq ?_
 refine AW.region (AO.pu T ?_)
 refine AO.val rfl rfl (len_row_ok T rfl rfl rfl rfl) ?_
 refine AO.pu T ?_
 refine AO.nil (AW.cond (b:=decide ((sA.length:Int) < 2)) rfl (fun hc=>?_) (fun hc=>?_))
 replace hH:=condT hc hH
 refine AW.seq (AW.region ?_)
 iterate 2 refine AO.pu T ?_
 refine AO.nil (AW.ret ?_)
 have hR:=someE hH;subst hR
 exact ⟨trivial,rfl,_,[1],[],rfl,expLG_cons (.c .u) (expLG_nil),.c (.c (.rowR rfl)),by decide⟩
 replace hH:=condF hc hH
 refine AW.skip ?_
 iterate 2 refine AW.seq ?_
 refine AW.region (AO.pu T ?_)
 refine AO.nil (AW.block ?_)
 refine AW.loopS (fun s:Nat × Int=>(⟨[(0,.R 1),(3,s.2)],[(1,.row 1 (List.map encInt sA))],61,[(1,L 1)]⟩:St)) (fun s=>slices_Compact_int_l1 sA fuel s.1 s.2=some r) (fun s=>s.1) (fuel,1) hH ?_ ?_
 exact Le.ct 0 0 (hpin:=⟨⟨rfl,rfl⟩,trivial⟩)
 rintro ⟨k1,v147⟩ hH
 replace hH:slices_Compact_int_l1 sA fuel k1 v147=some r:=hH
 try dsimp only
 rcases k1 with _ | k1
 cases (show none=some _ from hH)
 rw [slices_Compact_int_l1] at hH
 iterate 2 refine AW.seq ?_
 refine AW.region ?_
 iterate 2 refine AO.pu T ?_
 refine AO.val rfl rfl (len_row_ok T rfl rfl rfl rfl) ?_
 refine AO.pu T ?_
 refine AO.nil (AW.cond (b:=decide (v147 < (sA.length:Int))) rfl (fun hc=>?_) (fun hc=>?_))
 replace hH:=condT hc hH
 refine AW.skip ?_
 obtain ⟨o184,hH,hK185⟩:=bindE hH
 refine AW.seqJ (fun s:Unit=>(⟨[(0,.R 1),(3,v147)],[(1,.row 1 (List.map encInt sA))],61,[(1,L 1)]⟩:St)) (fun s=>.ok s=o184) ?_ ?_
 refine AW.block (AW.seq ?_)
 obtain ⟨x186,hx187,hH⟩:=bindE hH
 obtain ⟨x188,hx189,hH⟩:=bindE hH
 refine AW.drawn 9 2 [] mix (by kernel_rfl) rfl ?_
 iterate 2 refine AD.pure T rfl rfl rfl ?_
 refine AD.val rfl rfl (ix_row_ok T rfl rfl rfl rfl rfl rfl (hx187)) ?_
 refine AD.val rfl rfl (load_row_ok T rfl rfl rfl rfl (getI_get (hx187)) rfl rfl rfl) ?_
 iterate 2 refine AD.pure T rfl rfl rfl ?_
 refine AD.val rfl rfl (arw_ok rfl rfl rfl rfl) ?_
 refine AD.val rfl rfl (ix_row_ok T rfl rfl rfl rfl rfl rfl (hx189)) ?_
 refine AD.val rfl rfl (load_row_ok T rfl rfl rfl rfl (getI_get (hx189)) rfl rfl rfl) ?_
 refine AD.nil (AO.pu T ?_)
 refine AO.nil (AW.cond (b:=(x186 == x188)) rfl (fun hc=>?_) (fun hc=>?_))
 replace hH:=condT hc hH
 refine AW.seq ?_
 obtain ⟨u190,hx191,hH⟩:=bindE hH
 refine AW.region ?_
 iterate 2 refine AO.pu T ?_
 refine AO.val rfl rfl (slice_row_lo T rfl rfl rfl rfl rfl rfl (needT (hx191))) ?_
 refine AO.pu T ?_
 refine AO.nil ?_
 iterate 2 refine AW.seq ?_
 refine AW.region (AO.pu T ?_)
 refine AO.nil (AW.block ?_)
 refine AW.loopS (fun s:Nat × (List Int) × Int × (List Int) × Int=>(⟨[(0,.R 1),(3,s.2.2.1),(4,.r 1 v147.toNat (sA.length - v147.toNat)),(5,s.2.2.2.2)],[(1,.row 1 (List.map encInt s.2.2.2.1))],61,[(1,L 1)]⟩:St)) (fun s=>slices_Compact_int_l2 sA v147 s.1 s.2.1 s.2.2.1 s.2.2.2.1 s.2.2.2.2=some o184) (fun s=>s.1) (fuel,sA,v147,sA,1) hH ?_ ?_
 exact Le.ct 0 0 (hpin:=⟨⟨rfl,rfl⟩,trivial⟩)
 rintro ⟨k192,v207,v208,v209,v210⟩ hH
 replace hH:slices_Compact_int_l2 sA v147 k192 v207 v208 v209 v210=some o184:=hH
 try dsimp only
 rcases k192 with _ | k192
 cases (show none=some _ from hH)
 rw [slices_Compact_int_l2] at hH
 iterate 2 refine AW.seq ?_
 refine AW.region ?_
 iterate 4 refine AO.pu T ?_
 refine AO.nil (AW.cond (b:=decide (v210 < (((sA.length - v147.toNat):Nat):Int))) rfl (fun hc=>?_) (fun hc=>?_))
 replace hH:=condT hc hH
 refine AW.skip (AW.seq ?_)
 refine AW.block (AW.seq ?_)
 obtain ⟨x212,hx213,hH⟩:=bindE hH
 obtain ⟨x214,hx215,hH⟩:=bindE hH
 refine AW.drawn 9 2 [] mix (by kernel_rfl) rfl ?_
 iterate 2 refine AD.pure T rfl rfl rfl ?_
 refine AD.val rfl rfl (ix_part_ok T rfl rfl rfl rfl rfl rfl (hx213)) ?_
 refine AD.val rfl rfl (load_row_ok T rfl rfl rfl rfl (getP_get (hx213)) rfl rfl rfl) ?_
 iterate 2 refine AD.pure T rfl rfl rfl ?_
 refine AD.val rfl rfl (arw_ok rfl rfl rfl rfl) ?_
 refine AD.val rfl rfl (ix_part_ok T rfl rfl rfl rfl rfl rfl (hx215)) ?_
 refine AD.val rfl rfl (load_row_ok T rfl rfl rfl rfl (getP_get (hx215)) rfl rfl rfl) ?_
 refine AD.nil (AO.pu T ?_)
 refine AO.nil (AW.cond (b:=(x212 != x214)) rfl (fun hc=>?_) (fun hc=>?_))
 replace hH:=condT hc hH
 refine AW.seq ?_
 obtain ⟨x216,hx217,hH⟩:=bindE hH
 refine AW.region ?_
 iterate 4 refine AO.pu T ?_
 refine AO.val rfl rfl (ix_part_ok T rfl rfl rfl rfl rfl rfl (hx213)) ?_
 refine AO.val rfl rfl (load_row_ok T rfl rfl rfl rfl (getP_get (hx213)) rfl rfl rfl) ?_
 refine AO.val rfl rfl (ix_row_ok T rfl rfl rfl rfl rfl rfl (hx217)) ?_
 refine AO.step rfl (store_row_ok T rfl rfl rfl rfl rfl (getI_get (hx217)) rfl rfl rfl rfl (u':=x212) rfl rfl) ?_
 refine AO.nil (AW.region ?_)
 refine AO.pu T ?_
 refine AO.val rfl rfl (arw_ok rfl rfl rfl rfl) ?_
 refine AO.pu T ?_
 refine AO.nil (AW.le (Le.ct 0 0 (σ':=(⟨[(0,.R 1),(3,w64 (v208+1)),(4,.r 1 v147.toNat (sA.length - v147.toNat)),(5,v210)],[(1,.row 1 (List.map encInt (v209.set v208.toNat x212)))],61,[(1,L 1)]⟩:St)) (hpin:=⟨⟨rfl,rfl⟩,trivial⟩)) ?_)
 refine AW.region (AO.pu T ?_)
 refine AO.val rfl rfl (arw_ok rfl rfl rfl rfl) ?_
 refine AO.pu T ?_
 refine AO.nil ?_
 refine ⟨(k192,(v209.set v208.toNat x212),w64 (v208+1),(v209.set v208.toNat x212),w64 (v210+1)),hH,Nat.lt_succ_self _,?_⟩
 exact Le.ct 0 0 (hpin:=⟨⟨rfl,rfl⟩,trivial⟩)
 replace hH:=condF hc hH
 refine AW.skip (AW.region ?_)
 refine AO.pu T ?_
 refine AO.val rfl rfl (arw_ok rfl rfl rfl rfl) ?_
 refine AO.pu T ?_
 refine AO.nil ?_
 refine ⟨(k192,v209,v208,v209,w64 (v210+1)),hH,Nat.lt_succ_self _,?_⟩
 exact Le.ct 0 0 (hpin:=⟨⟨rfl,rfl⟩,trivial⟩)
 replace hH:=condF hc hH
 refine AW.exit (AW.seq ?_)
 obtain ⟨u218,hx219,hH⟩:=bindE hH
 refine AW.region ?_
 iterate 2 refine AO.pu T ?_
 refine AO.val rfl rfl (slice_row_lo T rfl rfl rfl rfl rfl rfl (needT (hx219))) ?_
 refine AO.step rfl (clear_r_ok T (f:=encInt) (zo:=0) rfl rfl rfl rfl (by decide) rfl (by repeat constructor) rfl rfl (by have:=inB_iff (needT (hx219));omega) rfl) ?_
 refine AO.nil (AW.seq ?_)
 obtain ⟨u220,hx221,hH⟩:=bindE hH
 refine AW.region ?_
 iterate 2 refine AO.pu T ?_
 refine AO.val rfl rfl (slice_row_hi T rfl rfl rfl rfl rfl rfl (needT (hx221))) ?_
 refine AO.pu T ?_
 refine AO.nil (AW.ret ?_)
 obtain rfl:=someE hH
 replace hH:=hK185
 have hR:=someE hH;subst hR
 exact ⟨trivial,rfl,_,[1],[],rfl,expLG_cons (.c .u) (expLG_nil),.c (.c (.partM rfl (by have:=inB_iff (needT (hx221));omega))),by decide⟩
 replace hH:=condF hc hH
 refine AW.skip ?_
 refine ⟨_,someE hH,?_⟩
 exact Le.ct 0 0 (hpin:=⟨⟨rfl,rfl⟩,trivial⟩)
 rintro _ hs
 subst hs
 replace hH:=hK185
 try dsimp only [flow,flowE] at hH
 try dsimp only
 refine AW.region (AO.pu T ?_)
 refine AO.val rfl rfl (arw_ok rfl rfl rfl rfl) ?_
 refine AO.pu T ?_
 refine AO.nil ?_
 refine ⟨(k1,w64 (v147+1)),hH,Nat.lt_succ_self _,?_⟩
 exact Le.ct 0 0 (hpin:=⟨⟨rfl,rfl⟩,trivial⟩)
 replace hH:=condF hc hH
 refine AW.exit (AW.seq (AW.region ?_))
 iterate 2 refine AO.pu T ?_
 refine AO.nil (AW.ret ?_)
 have hR:=someE hH;subst hR
 exact ⟨trivial,rfl,_,[1],[],rfl,expLG_cons (.c .u) (expLG_nil),.c (.c (.rowR rfl)),by decide⟩

def impl_worldSkaters_l2:List Line→Nat→List Int→Option (List Int)
  | [],k93,v104 =>
    some v104
  | y94::ys95,k93,v104 =>
    (need (fitsB 8 (v104.length+([y94.skater]).length))).bind fun u106 =>
    impl_worldSkaters_l2 ys95 (k93+1) (v104++[y94.skater])
def impl_worldSkaters_l1 (fuel:Nat):List Season→Nat→List Int→Option ((List Int))
  | [],k1,v70 =>
    (slices_Sort_int_p v70).bind fun x72 =>
    (slices_Compact_int_p fuel x72).bind fun x74 =>
    some x74
  | y2::ys3,k1,v70 =>
    (impl_worldSkaters_l2 y2.lines 0 v70).bind fun v90 =>
    impl_worldSkaters_l1 fuel ys3 (k1+1) v90
def impl_worldSkaters_p (fuel:Nat) (w:World):Option (List Int) :=
  impl_worldSkaters_l1 fuel w.seasons 0 []
theorem impl_worldSkaters_ok (fuel:Nat) (w:World) (r:(List Int)) (hH:impl_worldSkaters_p fuel w=some r):SpecR Tryz.prog 51 [.g (encWorld w)] (.w 1 (r.map encInt)):=by
 refine fn_ok T Tryz.func51 rfl (by decide) rfl ?_
 refine AW.seq (AW.region (AO.step rfl (box_ok T rfl 1 rfl rfl rfl rfl) ?_))
 refine AO.pu T ?_
 refine AO.nil (AW.seq (AW.region ?_))
 refine AO.step rfl (mk0_ok T rfl rfl rfl rfl) ?_
 refine AO.pu T ?_
 refine AO.nil ?_
 iterate 2 refine AW.seq ?_
 refine AW.region ?_
 iterate 2 refine AO.pu T ?_
 refine AO.val rfl rfl (len_map_ok T rfl rfl rfl) ?_
 refine AO.pu T ?_
 refine AO.nil (AW.block ?_)
 refine AW.loopS (fun s:Nat × (List Int)=>(⟨[(3,.R 8),(10,.s (List.map encSeason w.seasons)),(11,(w.seasons.length:Int)),(12,(s.1:Int))],[(8,.row 1 (List.map encInt s.2))],34,[]⟩:St)) (fun s=>s.1 ≤ w.seasons.length∧impl_worldSkaters_l1 fuel (w.seasons.drop s.1) s.1 s.2=some r) (fun s=>w.seasons.length - s.1) (0,[]) ⟨Nat.zero_le _,hH⟩ ?_ ?_
 refine Le.trans (Le.void 3 8 1 rfl rfl) ?_
 exact Le.ct 0 0
 rintro ⟨k1,v70⟩ ⟨hk,hH⟩
 replace hH:impl_worldSkaters_l1 fuel (w.seasons.drop k1) k1 v70=some r:=hH
 try dsimp only
 refine AW.boundM (t:=10) (l:=w.seasons) rfl (fun hb5=>?_)
 rcases hd4:w.seasons.drop k1 with _ | ⟨y2,ys3⟩
 rw [hd4,impl_worldSkaters_l1] at hH
 have hlt6:=drop_ge hd4
 refine AW.seq (AW.region (AO.pu T ?_))
 refine AO.nil (AW.seq (AW.condF' (b:=decide ((k1:Int) < (w.seasons.length:Int))) rfl (rngF hlt6) ?_))
 refine AW.exit (AW.seq ?_)
 obtain ⟨x72,hx73,hH⟩:=bindE hH
 refine AW.region (AO.pu T ?_)
 refine AO.step rfl (callM_ok rfl 42 rfl rfl (es:=[.w 1 (v70.map encInt)]) (outs:=[.w 1 (x72.map encInt)]) (ids:=[8]) (by exact expLG_cons (.c (.rowR rfl)) (expLG_nil)) (by decide) (.inl (by rfl)) (by rfl) (slices_Sort_int_ok _ _ (hx73)) rfl (by rfl) rfl) ?_
 refine AO.nil (AW.seq ?_)
 obtain ⟨x74,hx75,hH⟩:=bindE hH
 refine AW.region (AO.pu T ?_)
 refine AO.step rfl (callM_ok rfl 42 rfl rfl (es:=[.w 1 (x72.map encInt)]) (outs:=[.u]) (ids:=[8]) (by exact expLG_cons (.c (.rowR rfl)) (expLG_nil)) (by decide) (.inr (by exact (show ([]:List Nat).Nodup∧∀ i ∈ ([]:List Nat),i ∈ ([8]:List Nat) from by decide))) (by rfl) (slices_Compact_int_ok fuel _ _ (hx75)) rfl (by rfl) rfl) ?_
 refine AO.pu T ?_
 refine AO.nil (AW.ret ?_)
 have hR:=someE hH;subst hR
 exact retQ.i [42] rfl (.c (.c (.rowR rfl)))
 rw [hd4,impl_worldSkaters_l1] at hH
 have hlt6:=drop_lt hd4
 refine AW.seq (AW.region (AO.pu T ?_))
 refine AO.nil (AW.seq (AW.condT' (b:=decide ((k1:Int) < (w.seasons.length:Int))) rfl (rngT hlt6) ?_))
 refine AW.skip ?_
 obtain ⟨o91,hH,hK92⟩:=bindE hH
 refine AW.seqJ (fun s:List Int=>(⟨[(3,.R 8),(10,.s (List.map encSeason w.seasons)),(11,(w.seasons.length:Int)),(12,(k1:Int))],[(8,.row 1 (List.map encInt s))],34,[]⟩:St)) (fun s=>s=o91) ?_ ?_
 refine AW.block (AW.seq (AW.region ?_))
 refine AO.val rfl rfl (ix_map_ok T rfl rfl rfl rfl rfl (getI_drop hd4) rfl) ?_
 refine AO.pu T (d:=.g [y2.best,.s (List.map encLine y2.lines)]) ?_
 refine AO.step rfl (alloc_ok T rfl 53 rfl rfl rfl rfl rfl) ?_
 refine AO.se T [y2.best,.s (List.map encLine y2.lines)] ?_
 refine AO.nil (AW.seq (AW.region ?_))
 iterate 2 refine AO.pu T ?_
 refine AO.val rfl rfl (len_map_ok T rfl rfl rfl) ?_
 refine AO.pu T ?_
 refine AO.nil (AW.block ?_)
 refine AW.loopS (fun s:Nat × (List Int)=>(⟨[(3,.R 8),(10,.s (List.map encSeason w.seasons)),(11,(w.seasons.length:Int)),(12,(k1:Int)),(17,.s (List.map encLine y2.lines)),(18,(y2.lines.length:Int)),(19,(s.1:Int))],[(8,.row 1 (List.map encInt s.2))],34,[]⟩:St)) (fun s=>s.1 ≤ y2.lines.length∧impl_worldSkaters_l2 (y2.lines.drop s.1) s.1 s.2=some o91) (fun s=>y2.lines.length - s.1) (0,v70) ⟨Nat.zero_le _,hH⟩ ?_ ?_
 exact Le.ct 0 0
 rintro ⟨k93,v104⟩ ⟨hk,hH⟩
 replace hH:impl_worldSkaters_l2 (y2.lines.drop k93) k93 v104=some o91:=hH
 try dsimp only
 refine AW.boundM (t:=17) (l:=y2.lines) rfl (fun hb97=>?_)
 rcases hd96:y2.lines.drop k93 with _ | ⟨y94,ys95⟩
 rw [hd96,impl_worldSkaters_l2] at hH
 have hlt98:=drop_ge hd96
 refine AW.seq (AW.region (AO.pu T ?_))
 refine AO.nil (AW.seq (AW.condF' (b:=decide ((k93:Int) < (y2.lines.length:Int))) rfl (rngF hlt98) ?_))
 refine AW.exit ?_
 refine ⟨_,someE hH,?_⟩
 exact Le.ct 0 0
 rw [hd96,impl_worldSkaters_l2] at hH
 have hlt98:=drop_lt hd96
 refine AW.seq (AW.region (AO.pu T ?_))
 refine AO.nil (AW.seq (AW.condT' (b:=decide ((k93:Int) < (y2.lines.length:Int))) rfl (rngT hlt98) ?_))
 refine AW.skip (AW.seq ?_)
 refine AW.block (AW.seq (AW.region ?_))
 refine AO.val rfl rfl (ix_map_ok T rfl rfl rfl rfl rfl (getI_drop hd96) rfl) ?_
 refine AO.pu T (d:=.g [y94.skater,.s (List.map encInt y94.events),.s (List.map encInt y94.points)]) ?_
 refine AO.step rfl (alloc_ok T rfl 60 rfl rfl rfl rfl rfl) ?_
 refine AO.se T [y94.skater,.s (List.map encInt y94.events),.s (List.map encInt y94.points)] ?_
 refine AO.nil ?_
 obtain ⟨u106,hx107,hH⟩:=bindE hH
 refine AW.region ?_
 iterate 3 refine AO.pu T ?_
 refine AO.step rfl (mk_map_ok T rfl 61 rfl rfl rfl rfl rfl (f:=encInt) (l:=[y94.skater]) rfl rfl (fun _=>rfl) rfl rfl rfl rfl rfl) ?_
 refine AO.step rfl (app_rv_map T rfl 62 rfl rfl rfl rfl rfl (by decide) rfl rfl rfl rfl (fun _=>rfl) (needT (hx107)) rfl rfl) ?_
 refine AO.pu T ?_
 refine AO.nil (AW.region ?_)
 refine AO.val rfl rfl (ar_ok rfl rfl rfl rfl (inI_succ hlt98 hb97)) ?_
 refine AO.pu T ?_
 refine AO.nil ?_
 refine ⟨(k93+1,(v104++[y94.skater])),⟨Nat.succ_le_of_lt hlt98,(by rw [drop_succ_of hd96];exact hH)⟩,(by have:=hlt98;dsimp only;omega),?_⟩
 exact Le.ct 62 8
 rintro v90 hs
 subst hs
 replace hH:=hK92
 try dsimp only [flow,flowE] at hH
 try dsimp only
 refine AW.region (AO.val rfl rfl (ar_ok rfl rfl rfl rfl (inI_succ hlt6 hb5)) ?_)
 refine AO.pu T ?_
 refine AO.nil ?_
 refine ⟨(k1+1,v90),⟨Nat.succ_le_of_lt hlt6,(by rw [drop_succ_of hd4];exact hH)⟩,(by have:=hlt6;dsimp only;omega),?_⟩
 exact Le.ct 0 0

def slices_Index_int_l1 (v:Int):List Int→Nat→Option Int
  | [],k1 =>
    some (-1)
  | y2::ys3,k1 =>
    cond (v == y2)
      (some (k1:Int))
      (slices_Index_int_l1 v ys3 (k1+1))
def slices_Index_int_p (sA:List Int) (v:Int):Option Int :=
  slices_Index_int_l1 v sA 0
theorem slices_Index_int_ok (sA:List Int) (v:Int) (r:Int) (hH:slices_Index_int_p sA v=some r):SpecR Tryz.prog 69 [.s (List.map encInt sA),v] (.v (.int .i64 r)):=by
 refine fn_ok T Tryz.func69 rfl (by decide) rfl ?_
 refine AW.seq (AW.region (AO.pu T ?_))
 refine AO.nil ?_
 iterate 2 refine AW.seq ?_
 refine AW.region (AO.pu T ?_)
 refine AO.val rfl rfl (len_map_ok T rfl rfl rfl) ?_
 refine AO.pu T ?_
 refine AO.nil (AW.block ?_)
 refine AW.loopS (fun s:Nat=>(⟨[(0,.s (List.map encInt sA)),(1,v),(7,(sA.length:Int)),(8,(s:Int))],[],19,[]⟩:St)) (fun s=>s ≤ sA.length∧slices_Index_int_l1 v (sA.drop s) s=some r) (fun s=>sA.length - s) 0 ⟨Nat.zero_le _,hH⟩ ?_ ?_
 exact Le.ct 0 0
 rintro k1 ⟨hk,hH⟩
 replace hH:slices_Index_int_l1 v (sA.drop k1) k1=some r:=hH
 try dsimp only
 refine AW.boundM (t:=0) (l:=sA) rfl (fun hb5=>?_)
 rcases hd4:sA.drop k1 with _ | ⟨y2,ys3⟩
 rw [hd4,slices_Index_int_l1] at hH
 have hlt6:=drop_ge hd4
 refine AW.seq (AW.region (AO.pu T ?_))
 refine AO.nil (AW.seq (AW.condF' (b:=decide ((k1:Int) < (sA.length:Int))) rfl (rngF hlt6) ?_))
 refine AW.exit (AW.seq (AW.region ?_))
 refine AO.pu T ?_
 refine AO.nil (AW.ret ?_)
 have hR:=someE hH;subst hR
 exact retQ.i [] rfl (.c (.c .v))
 rw [hd4,slices_Index_int_l1] at hH
 have hlt6:=drop_lt hd4
 refine AW.seq (AW.region (AO.pu T ?_))
 refine AO.nil (AW.seq (AW.condT' (b:=decide ((k1:Int) < (sA.length:Int))) rfl (rngT hlt6) ?_))
 refine AW.skip (AW.seq ?_)
 refine AW.block (AW.seq (AW.region ?_))
 iterate 2 refine AO.pu T ?_
 refine AO.nil (AW.seq (AW.region ?_))
 iterate 3 refine AO.pu T ?_
 refine AO.val rfl rfl (ix_map_ok T rfl rfl rfl rfl rfl (getI_drop hd4) rfl) ?_
 iterate 2 refine AO.pu T ?_
 refine AO.nil (AW.cond (b:=(v == y2)) rfl (fun hc=>?_) (fun hc=>?_))
 replace hH:=condT hc hH
 refine AW.seq (AW.region ?_)
 iterate 2 refine AO.pu T ?_
 refine AO.nil (AW.ret ?_)
 have hR:=someE hH;subst hR
 exact retQ.i [] rfl (.c (.c .v))
 replace hH:=condF hc hH
 refine AW.skip (AW.region ?_)
 refine AO.val rfl rfl (ar_ok rfl rfl rfl rfl (inI_succ hlt6 hb5)) ?_
 refine AO.pu T ?_
 refine AO.nil ?_
 refine ⟨k1+1,⟨Nat.succ_le_of_lt hlt6,(by rw [drop_succ_of hd4];exact hH)⟩,(by have:=hlt6;dsimp only;omega),?_⟩
 exact Le.ct 0 0

def slices_Contains_int_p (sA:List Int) (v:Int):Option Bool :=
  (slices_Index_int_p sA v).bind fun x1 =>
  some (decide (x1 ≥ 0))
theorem slices_Contains_int_ok (sA:List Int) (v:Int) (r:Bool) (hH:slices_Contains_int_p sA v=some r):SpecR Tryz.prog 50 [.s (List.map encInt sA),v] (.v (.bool r)):=by
 refine fn_ok T Tryz.func50 rfl (by decide) rfl ?_
 refine AW.seq (AW.region (AO.pu T ?_))
 refine AO.nil (AW.seq ?_)
 obtain ⟨x1,hx2,hH⟩:=bindE hH
 refine AW.region ?_
 iterate 2 refine AO.pu T ?_
 refine AO.val rfl rfl (callV_ok rfl rfl rfl rfl (slices_Index_int_ok _ _ _ (hx2)) rfl) ?_
 iterate 2 refine AO.pu T ?_
 refine AO.nil (AW.ret ?_)
 have hR:=someE hH;subst hR
 exact retQ.i [] rfl (.c (.c .v))

def impl_lineOf_l1 (skater:Int):List Line→Nat→Option Line
  | [],k1 =>
    some (Line.mk skater [] [])
  | y2::ys3,k1 =>
    cond (y2.skater == skater)
      (some y2)
      (impl_lineOf_l1 skater ys3 (k1+1))
def impl_lineOf_p (sA:Season) (skater:Int):Option Line :=
  impl_lineOf_l1 skater sA.lines 0
theorem impl_lineOf_ok (sA:Season) (skater:Int) (r:Line) (hH:impl_lineOf_p sA skater=some r):SpecR Tryz.prog 83 [.g (encSeason sA),skater] (.g (encLine r)):=by
 refine fn_ok T Tryz.func83 rfl (by decide) rfl ?_
 refine AW.seq (AW.region (AO.step rfl (box_ok T rfl 1 rfl rfl rfl rfl) ?_))
 refine AO.step rfl (alloc_ok T rfl 2 rfl rfl rfl rfl rfl) ?_
 refine AO.nil ?_
 iterate 2 refine AW.seq ?_
 refine AW.region ?_
 iterate 2 refine AO.pu T ?_
 refine AO.val rfl rfl (len_map_ok T rfl rfl rfl) ?_
 refine AO.pu T ?_
 refine AO.nil (AW.block ?_)
 refine AW.loopS (fun s:Nat=>(⟨[(1,skater),(4,.p 2 0),(8,.s (List.map encLine sA.lines)),(9,(sA.lines.length:Int)),(10,(s:Int))],[(2,.box [(0:Int),.w 0 [],.w 0 []])],22,[]⟩:St)) (fun s=>s ≤ sA.lines.length∧impl_lineOf_l1 skater (sA.lines.drop s) s=some r) (fun s=>sA.lines.length - s) 0 ⟨Nat.zero_le _,hH⟩ ?_ ?_
 exact Le.ct 0 0
 rintro k1 ⟨hk,hH⟩
 replace hH:impl_lineOf_l1 skater (sA.lines.drop k1) k1=some r:=hH
 try dsimp only
 refine AW.boundM (t:=8) (l:=sA.lines) rfl (fun hb5=>?_)
 rcases hd4:sA.lines.drop k1 with _ | ⟨y2,ys3⟩
 rw [hd4,impl_lineOf_l1] at hH
 have hlt6:=drop_ge hd4
 refine AW.seq (AW.region (AO.pu T ?_))
 refine AO.nil (AW.seq (AW.condF' (b:=decide ((k1:Int) < (sA.lines.length:Int))) rfl (rngF hlt6) ?_))
 refine AW.exit (AW.seq (AW.region ?_))
 refine AO.pu T ?_
 refine AO.pu T (d:=.g [skater,.w 0 [],.w 0 []]) ?_
 refine AO.se T [skater,.w 0 [],.w 0 []] ?_
 refine AO.nil (AW.ret ?_)
 have hR:=someE hH;subst hR
 exact retQ.i [] rfl (.c (.g (expLC_cons .v (expLC_cons .nilS (expLC_cons .nilS (expLC_nil))))))
 rw [hd4,impl_lineOf_l1] at hH
 have hlt6:=drop_lt hd4
 refine AW.seq (AW.region (AO.pu T ?_))
 refine AO.nil (AW.seq (AW.condT' (b:=decide ((k1:Int) < (sA.lines.length:Int))) rfl (rngT hlt6) ?_))
 refine AW.skip (AW.seq ?_)
 refine AW.block (AW.seq (AW.region ?_))
 refine AO.val rfl rfl (ix_map_ok T rfl rfl rfl rfl rfl (getI_drop hd4) rfl) ?_
 refine AO.pu T (d:=.g [y2.skater,.s (List.map encInt y2.events),.s (List.map encInt y2.points)]) ?_
 refine AO.step rfl (alloc_ok T rfl 5 rfl rfl rfl rfl rfl) ?_
 refine AO.se T [y2.skater,.s (List.map encInt y2.events),.s (List.map encInt y2.points)] ?_
 refine AO.nil (AW.seq (AW.region ?_))
 iterate 4 refine AO.pu T ?_
 refine AO.nil (AW.cond (b:=(y2.skater == skater)) rfl (fun hc=>?_) (fun hc=>?_))
 replace hH:=condT hc hH
 refine AW.seq (AW.region (AO.pu T (d:=.g [y2.skater,.s (List.map encInt y2.events),.s (List.map encInt y2.points)]) ?_))
 refine AO.se T [y2.skater,.s (List.map encInt y2.events),.s (List.map encInt y2.points)] ?_
 refine AO.nil (AW.ret ?_)
 have hR:=someE hH;subst hR
 exact retQ.i [] rfl (.c (.g (expLC_cons .v (expLC_cons .s (expLC_cons .s (expLC_nil))))))
 replace hH:=condF hc hH
 refine AW.skip (AW.region ?_)
 refine AO.val rfl rfl (ar_ok rfl rfl rfl rfl (inI_succ hlt6 hb5)) ?_
 refine AO.pu T ?_
 refine AO.nil ?_
 refine ⟨k1+1,⟨Nat.succ_le_of_lt hlt6,(by rw [drop_succ_of hd4];exact hH)⟩,(by have:=hlt6;dsimp only;omega),?_⟩
 exact Le.ct 0 0

def impl_counting_p (line:Line) (best:Int):Option (List Int) :=
  (sliceHi line.points (min best (line.points.length:Int))).bind fun x1 =>
  some x1
theorem impl_counting_ok (line:Line) (best:Int) (r:(List Int)) (hH:impl_counting_p line best=some r):SpecR Tryz.prog 82 [.g (encLine line),best] (.s (r.map encInt)):=by
 refine fn_ok T Tryz.func82 rfl (by decide) rfl ?_
 refine AW.seq (AW.region (AO.step rfl (box_ok T rfl 1 rfl rfl rfl rfl) ?_))
 refine AO.pu T ?_
 refine AO.nil (AW.seq ?_)
 obtain ⟨x1,hx2,hH⟩:=bindE hH
 refine AW.region ?_
 iterate 5 refine AO.pu T ?_
 refine AO.val rfl rfl (len_map_ok T rfl rfl rfl) ?_
 refine AO.val rfl rfl (min_ok rfl rfl rfl) ?_
 refine AO.val rfl rfl (slice_hi_map_ok T rfl rfl rfl rfl rfl (hx2) (fun _=>rfl)) ?_
 refine AO.pu T ?_
 refine AO.nil (AW.ret ?_)
 have hR:=someE hH;subst hR
 exact retQ.i [] rfl (.c (.c .s))

def impl_sumInts_l1:List Int→Nat→Int→Option Int
  | [],k1,v8 =>
    some v8
  | y2::ys3,k1,v8 =>
    impl_sumInts_l1 ys3 (k1+1) (w64 (v8+y2))
def impl_sumInts_p (l:List Int):Option Int :=
  impl_sumInts_l1 l 0 0
theorem impl_sumInts_ok (l:List Int) (r:Int) (hH:impl_sumInts_p l=some r):SpecR Tryz.prog 52 [.s (List.map encInt l)] (.v (.int .i64 r)):=by
 refine fn_ok T Tryz.func52 rfl (by decide) rfl ?_
 refine AW.seq (AW.region (AO.pu T ?_))
 refine AO.nil (AW.seq (AW.region ?_))
 refine AO.pu T ?_
 refine AO.nil ?_
 iterate 2 refine AW.seq ?_
 refine AW.region (AO.pu T ?_)
 refine AO.val rfl rfl (len_map_ok T rfl rfl rfl) ?_
 refine AO.pu T ?_
 refine AO.nil (AW.block ?_)
 refine AW.loopS (fun s:Nat × Int=>(⟨[(3,s.2),(6,.s (List.map encInt l)),(7,(l.length:Int)),(8,(s.1:Int))],[],17,[]⟩:St)) (fun s=>s.1 ≤ l.length∧impl_sumInts_l1 (l.drop s.1) s.1 s.2=some r) (fun s=>l.length - s.1) (0,0) ⟨Nat.zero_le _,hH⟩ ?_ ?_
 exact Le.ct 0 0
 rintro ⟨k1,v8⟩ ⟨hk,hH⟩
 replace hH:impl_sumInts_l1 (l.drop k1) k1 v8=some r:=hH
 try dsimp only
 refine AW.boundM (t:=6) (l:=l) rfl (fun hb5=>?_)
 rcases hd4:l.drop k1 with _ | ⟨y2,ys3⟩
 rw [hd4,impl_sumInts_l1] at hH
 have hlt6:=drop_ge hd4
 refine AW.seq (AW.region (AO.pu T ?_))
 refine AO.nil (AW.seq (AW.condF' (b:=decide ((k1:Int) < (l.length:Int))) rfl (rngF hlt6) ?_))
 refine AW.exit (AW.seq (AW.region ?_))
 iterate 2 refine AO.pu T ?_
 refine AO.nil (AW.ret ?_)
 have hR:=someE hH;subst hR
 exact retQ.i [] rfl (.c (.c .v))
 rw [hd4,impl_sumInts_l1] at hH
 have hlt6:=drop_lt hd4
 refine AW.seq (AW.region (AO.pu T ?_))
 refine AO.nil (AW.seq (AW.condT' (b:=decide ((k1:Int) < (l.length:Int))) rfl (rngT hlt6) ?_))
 refine AW.skip (AW.seq ?_)
 refine AW.block (AW.seq (AW.region ?_))
 refine AO.val rfl rfl (ix_map_ok T rfl rfl rfl rfl rfl (getI_drop hd4) rfl) ?_
 iterate 2 refine AO.pu T ?_
 refine AO.nil (AW.region ?_)
 iterate 2 refine AO.pu T ?_
 refine AO.val rfl rfl (arw_ok rfl rfl rfl rfl) ?_
 refine AO.pu T ?_
 refine AO.nil (AW.region ?_)
 refine AO.val rfl rfl (ar_ok rfl rfl rfl rfl (inI_succ hlt6 hb5)) ?_
 refine AO.pu T ?_
 refine AO.nil ?_
 refine ⟨(k1+1,w64 (v8+y2)),⟨Nat.succ_le_of_lt hlt6,(by rw [drop_succ_of hd4];exact hH)⟩,(by have:=hlt6;dsimp only;omega),?_⟩
 exact Le.ct 0 0

def impl_floorDiv_p (a:Int) (b:Int):Option Int :=
  (need (b != 0)).bind fun u1 =>
  cond (decide ((a.tmod b) < 0))
    (some (w64 ((w64 (a.tdiv b)) - 1)))
    (some (w64 (a.tdiv b)))
theorem impl_floorDiv_ok (a:Int) (b:Int) (r:Int) (hH:impl_floorDiv_p a b=some r):SpecR Tryz.prog 101 [a,b] (.v (.int .i64 r)):=by
 refine fn_ok T Tryz.func101 rfl (by decide) rfl ?_
 refine AW.seq (AW.region (AO.pu T ?_))
 refine AO.nil (AW.seq ?_)
 obtain ⟨u1,hx2,hH⟩:=bindE hH
 refine AW.region ?_
 iterate 2 refine AO.pu T ?_
 refine AO.val rfl rfl (quow_ok rfl rfl rfl (neZ (needT (hx2)))) ?_
 refine AO.pu T ?_
 refine AO.nil ?_
 iterate 2 refine AW.seq ?_
 refine AW.region ?_
 iterate 2 refine AO.pu T ?_
 refine AO.val rfl rfl (rem_ok rfl rfl rfl (neZ (needT (hx2)))) ?_
 refine AO.pu T ?_
 refine AO.nil (AW.cond (b:=decide ((a.tmod b) < 0)) rfl (fun hc=>?_) (fun hc=>?_))
 replace hH:=condT hc hH
 refine AW.region (AO.pu T ?_)
 refine AO.val rfl rfl (arw_ok rfl rfl rfl rfl) ?_
 refine AO.pu T ?_
 refine AO.nil (AW.seq (AW.region ?_))
 iterate 2 refine AO.pu T ?_
 refine AO.nil (AW.ret ?_)
 have hR:=someE hH;subst hR
 exact retQ.i [] rfl (.c (.c .v))
 replace hH:=condF hc hH
 refine AW.skip (AW.seq (AW.region ?_))
 iterate 2 refine AO.pu T ?_
 refine AO.nil (AW.ret ?_)
 have hR:=someE hH;subst hR
 exact retQ.i [] rfl (.c (.c .v))

def impl_roundDiv_p (a:Int) (b:Int):Option Int :=
  (impl_floorDiv_p (w64 ((w64 (2 * a))+b)) (w64 (2 * b))).bind fun x1 =>
  some x1
theorem impl_roundDiv_ok (a:Int) (b:Int) (r:Int) (hH:impl_roundDiv_p a b=some r):SpecR Tryz.prog 84 [a,b] (.v (.int .i64 r)):=by
 refine fn_ok T Tryz.func84 rfl (by decide) rfl ?_
 refine AW.seq (AW.region (AO.pu T ?_))
 refine AO.nil (AW.seq ?_)
 obtain ⟨x1,hx2,hH⟩:=bindE hH
 refine AW.region (AO.pu T ?_)
 refine AO.val rfl rfl (arw_ok rfl rfl rfl rfl) ?_
 refine AO.pu T ?_
 refine AO.val rfl rfl (arw_ok rfl rfl rfl rfl) ?_
 refine AO.pu T ?_
 refine AO.val rfl rfl (arw_ok rfl rfl rfl rfl) ?_
 refine AO.val rfl rfl (callV_ok rfl rfl rfl rfl (impl_floorDiv_ok _ _ _ (hx2)) rfl) ?_
 refine AO.pu T ?_
 refine AO.nil (AW.ret ?_)
 have hR:=someE hH;subst hR
 exact retQ.i [] rfl (.c (.c .v))

def impl_seasonParts_l1 (w:World) (skater:Int):List Season→Nat→List Int→Option ((List Int))
  | [],k1,v32 =>
    some v32
  | y2::ys3,k1,v32 =>
    (impl_lineOf_p y2 skater).bind fun x34 =>
    (impl_counting_p x34 y2.best).bind fun x36 =>
    (impl_sumInts_p x36).bind fun x38 =>
    (getI w.weights (k1:Int)).bind fun x40 =>
    (impl_roundDiv_p (w64 (x38 * x40)) 100).bind fun x42 =>
    (need (fitsB 8 (v32.length+([x42]).length))).bind fun u44 =>
    impl_seasonParts_l1 w skater ys3 (k1+1) (v32++[x42])
def impl_seasonParts_p (w:World) (skater:Int):Option (List Int) :=
  impl_seasonParts_l1 w skater w.seasons 0 []
theorem impl_seasonParts_ok (w:World) (skater:Int) (r:(List Int)) (hH:impl_seasonParts_p w skater=some r):SpecR Tryz.prog 47 [.g (encWorld w),skater] (.w 1 (r.map encInt)):=by
 refine fn_ok T Tryz.func47 rfl (by decide) rfl ?_
 refine AW.seq (AW.region (AO.step rfl (box_ok T rfl 1 rfl rfl rfl rfl) ?_))
 refine AO.pu T ?_
 refine AO.nil (AW.seq (AW.region ?_))
 refine AO.step rfl (mk0_ok T rfl rfl rfl rfl) ?_
 refine AO.pu T ?_
 refine AO.nil ?_
 iterate 2 refine AW.seq ?_
 refine AW.region ?_
 iterate 2 refine AO.pu T ?_
 refine AO.val rfl rfl (len_map_ok T rfl rfl rfl) ?_
 refine AO.pu T ?_
 refine AO.nil (AW.block ?_)
 refine AW.loopS (fun s:Nat × (List Int)=>(⟨[(1,skater),(2,.p 1 0),(5,.R 7),(11,.s (List.map encSeason w.seasons)),(12,(w.seasons.length:Int)),(13,(s.1:Int))],[(1,.box [.s (List.map encSeason w.seasons),.s (List.map encInt w.weights)]),(7,.row 1 (List.map encInt s.2))],38,[]⟩:St)) (fun s=>s.1 ≤ w.seasons.length∧impl_seasonParts_l1 w skater (w.seasons.drop s.1) s.1 s.2=some r) (fun s=>w.seasons.length - s.1) (0,[]) ⟨Nat.zero_le _,hH⟩ ?_ ?_
 refine Le.trans (Le.void 5 7 1 rfl rfl) ?_
 exact Le.ct 0 0
 rintro ⟨k1,v32⟩ ⟨hk,hH⟩
 replace hH:impl_seasonParts_l1 w skater (w.seasons.drop k1) k1 v32=some r:=hH
 try dsimp only
 refine AW.boundM (t:=11) (l:=w.seasons) rfl (fun hb5=>?_)
 rcases hd4:w.seasons.drop k1 with _ | ⟨y2,ys3⟩
 rw [hd4,impl_seasonParts_l1] at hH
 have hlt6:=drop_ge hd4
 refine AW.seq (AW.region (AO.pu T ?_))
 refine AO.nil (AW.seq (AW.condF' (b:=decide ((k1:Int) < (w.seasons.length:Int))) rfl (rngF hlt6) ?_))
 refine AW.exit (AW.seq (AW.region ?_))
 iterate 2 refine AO.pu T ?_
 refine AO.nil (AW.ret ?_)
 have hR:=someE hH;subst hR
 exact retQ.i [7] rfl (.c (.c (.rowR rfl)))
 rw [hd4,impl_seasonParts_l1] at hH
 have hlt6:=drop_lt hd4
 refine AW.seq (AW.region (AO.pu T ?_))
 refine AO.nil (AW.seq (AW.condT' (b:=decide ((k1:Int) < (w.seasons.length:Int))) rfl (rngT hlt6) ?_))
 refine AW.skip (AW.seq ?_)
 refine AW.block (AW.seq (AW.region ?_))
 refine AO.pu T ?_
 refine AO.val rfl rfl (ix_map_ok T rfl rfl rfl rfl rfl (getI_drop hd4) rfl) ?_
 refine AO.pu T (d:=.g [y2.best,.s (List.map encLine y2.lines)]) ?_
 refine AO.step rfl (alloc_ok T rfl 8 rfl rfl rfl rfl rfl) ?_
 refine AO.pu T ?_
 refine AO.se T [y2.best,.s (List.map encLine y2.lines)] ?_
 refine AO.nil (AW.seq ?_)
 obtain ⟨x34,hx35,hH⟩:=bindE hH
 obtain ⟨x36,hx37,hH⟩:=bindE hH
 obtain ⟨x38,hx39,hH⟩:=bindE hH
 refine AW.drawn 5 9 [] mix (by kernel_rfl) rfl ?_
 refine AD.pure T (d:=.g [y2.best,.s (List.map encLine y2.lines)]) rfl rfl rfl ?_
 refine AD.pure T rfl rfl rfl ?_
 refine AD.val rfl rfl (callV_ok rfl rfl rfl rfl (impl_lineOf_ok _ _ _ (hx35)) rfl) ?_
 iterate 2 refine AD.pure T rfl rfl rfl ?_
 refine AD.nil (AO.val rfl rfl (callV_ok rfl rfl rfl rfl (impl_counting_ok _ _ _ (hx37)) rfl) ?_)
 refine AO.val rfl rfl (callV_ok rfl rfl rfl rfl (impl_sumInts_ok _ _ (hx39)) rfl) ?_
 refine AO.pu T ?_
 refine AO.nil ?_
 obtain ⟨x40,hx41,hH⟩:=bindE hH
 obtain ⟨x42,hx43,hH⟩:=bindE hH
 obtain ⟨u44,hx45,hH⟩:=bindE hH
 refine AW.region ?_
 iterate 5 refine AO.pu T ?_
 refine AO.val rfl rfl (ix_map_ok T rfl rfl rfl rfl rfl (hx41) rfl) ?_
 refine AO.pu T ?_
 refine AO.val rfl rfl (arw_ok rfl rfl rfl rfl) ?_
 refine AO.val rfl rfl (callV_ok rfl rfl rfl rfl (impl_roundDiv_ok _ _ _ (hx43)) rfl) ?_
 refine AO.step rfl (mk_map_ok T rfl 9 rfl rfl rfl rfl rfl (f:=encInt) (l:=[x42]) rfl rfl (fun _=>rfl) rfl rfl rfl rfl rfl) ?_
 refine AO.step rfl (app_rv_map T rfl 10 rfl rfl rfl rfl rfl (by decide) rfl rfl rfl rfl (fun _=>rfl) (needT (hx45)) rfl rfl) ?_
 refine AO.pu T ?_
 refine AO.nil (AW.le (Le.ct 0 0 (σ':=(⟨[(1,skater),(2,.p 1 0),(5,.R 10),(11,.s (List.map encSeason w.seasons)),(12,(w.seasons.length:Int)),(13,(k1:Int))],[(1,.box [.s (List.map encSeason w.seasons),.s (List.map encInt w.weights)]),(10,.row 1 (List.map encInt (v32++[x42])))],38,[]⟩:St))) ?_)
 refine AW.region (AO.val rfl rfl (ar_ok rfl rfl rfl rfl (inI_succ hlt6 hb5)) ?_)
 refine AO.pu T ?_
 refine AO.nil ?_
 refine ⟨(k1+1,(v32++[x42])),⟨Nat.succ_le_of_lt hlt6,(by rw [drop_succ_of hd4];exact hH)⟩,(by have:=hlt6;dsimp only;omega),?_⟩
 exact Le.ct 10 7

def impl_WorldTotal_p (fuel:Nat) (w:World) (skater:Int):Option (Int × Bool) :=
  (impl_IsWorld_p fuel w).bind fun x1 =>
  (opt (!(!x1)) default (impl_worldSkaters_p fuel w)).bind fun x3 =>
  (opt (!(!x1)) default (slices_Contains_int_p x3 skater)).bind fun x5 =>
  cond ((!x1) || (!x5))
    (some (0,false))
    ((impl_seasonParts_p w skater).bind fun x7 =>
    (impl_sumInts_p x7).bind fun x9 =>
    some (x9,true))
theorem impl_WorldTotal_ok (fuel:Nat) (w:World) (skater:Int) (r:(Int × Bool)) (hH:impl_WorldTotal_p fuel w skater=some r):SpecR Tryz.prog 13 [.g (encWorld w),skater] (.t [.v (.int .i64 r.1),.v (.bool r.2)]):=by
 refine fn_ok T Tryz.func13 rfl (by decide) rfl ?_
 refine AW.seq (AW.region (AO.step rfl (box_ok T rfl 1 rfl rfl rfl rfl) ?_))
 iterate 2 refine AO.pu T ?_
 refine AO.nil ?_
 iterate 2 refine AW.seq ?_
 obtain ⟨x1,hx2,hH⟩:=bindE hH
 obtain ⟨x3,hx4,hH⟩:=bindE hH
 obtain ⟨x5,hx6,hH⟩:=bindE hH
 refine AW.region (AO.pu T (d:=.g [.s (List.map encSeason w.seasons),.s (List.map encInt w.weights)]) ?_)
 refine AO.val rfl rfl (callV_ok rfl rfl rfl rfl (impl_IsWorld_ok fuel _ _ (hx2)) rfl) ?_
 iterate 2 refine AO.pu T ?_
 refine AO.pureG T (d:=.g [.s (List.map encSeason w.seasons),.s (List.map encInt w.weights)]) [] rfl trivial rfl rfl ?_
 refine AO.guard [10] rfl ⟨fun h=>h,trivial⟩ (fun hg=>callF_ok rfl rfl rfl rfl (impl_worldSkaters_ok fuel _ _ (optT hx4 hg)) (.c (.c (.map fun y=>.vs rfl)))) rfl ?_
 refine AO.pureG T [] rfl trivial rfl rfl ?_
 refine AO.guard [11,12] rfl ⟨fun h=>h,fun h=>h,trivial⟩ (fun hg=>callV_ok rfl rfl rfl rfl (slices_Contains_int_ok _ _ _ (optT hx6 hg)) rfl) rfl ?_
 refine AO.pureG T [13] rfl ⟨fun h=>h,trivial⟩ rfl rfl ?_
 refine AO.val rfl rfl (pick_or rfl rfl rfl rfl) ?_
 refine AO.nil (AW.cond (b:=((!x1) || (!x5))) rfl (fun hc=>?_) (fun hc=>?_))
 replace hH:=condT hc hH
 refine AW.seq (AW.region ?_)
 iterate 2 refine AO.pu T ?_
 refine AO.nil (AW.ret ?_)
 have hR:=someE hH;subst hR
 exact retQ.i [] rfl (.t (expLG_cons (.c .v) (expLG_cons (.c .v) (expLG_nil))))
 replace hH:=condF hc hH
 refine AW.skip (AW.seq ?_)
 obtain ⟨x7,hx8,hH⟩:=bindE hH
 obtain ⟨x9,hx10,hH⟩:=bindE hH
 refine AW.region (AO.pu T (d:=.g [.s (List.map encSeason w.seasons),.s (List.map encInt w.weights)]) ?_)
 refine AO.pu T ?_
 refine AO.step rfl (call_ok rfl 2 rfl rfl rfl (impl_seasonParts_ok _ _ _ (hx8)) rfl rfl rfl) ?_
 refine AO.val rfl rfl (callLV_ok rfl rfl rfl (es:=[.s (List.map encInt x7)]) ⟨(.rowR rfl (.map fun y=>.vs rfl)),trivial⟩ (impl_sumInts_ok _ _ (hx10)) (zfree_v _) rfl) ?_
 iterate 2 refine AO.pu T ?_
 refine AO.nil (AW.ret ?_)
 have hR:=someE hH;subst hR
 exact retQ.i [] rfl (.t (expLG_cons (.c .v) (expLG_cons (.c .v) (expLG_nil))))

def spec_l1Least_p (a:Int) (b:Int):Option Int :=
  cond (decide (a < b))
    (some a)
    (some b)
theorem spec_l1Least_ok (a:Int) (b:Int) (r:Int) (hH:spec_l1Least_p a b=some r):SpecR Tryz.prog 115 [a,b] (.v (.int .i64 r)):=by
 refine fn_ok T Tryz.func115 rfl (by decide) rfl ?_
 refine AW.seq (AW.region (AO.pu T ?_))
 refine AO.nil ?_
 iterate 2 refine AW.seq ?_
 refine AW.region ?_
 iterate 3 refine AO.pu T ?_
 refine AO.nil (AW.cond (b:=decide (a < b)) rfl (fun hc=>?_) (fun hc=>?_))
 replace hH:=condT hc hH
 refine AW.seq (AW.region ?_)
 iterate 2 refine AO.pu T ?_
 refine AO.nil (AW.ret ?_)
 have hR:=someE hH;subst hR
 exact retQ.i [] rfl (.c (.c .v))
 replace hH:=condF hc hH
 refine AW.skip (AW.seq (AW.region ?_))
 iterate 2 refine AO.pu T ?_
 refine AO.nil (AW.ret ?_)
 have hR:=someE hH;subst hR
 exact retQ.i [] rfl (.c (.c .v))

def spec_seCounted_p (sA:Season) (k:Int):Option (List Int) :=
  (getI sA.lines k).bind fun x1 =>
  (spec_l1Least_p (x1.points.length:Int) sA.best).bind fun x3 =>
  (sliceHi x1.points x3).bind fun x5 =>
  some x5
theorem spec_seCounted_ok (sA:Season) (k:Int) (r:(List Int)) (hH:spec_seCounted_p sA k=some r):SpecR Tryz.prog 104 [.g (encSeason sA),k] (.s (r.map encInt)):=by
 refine fn_ok T Tryz.func104 rfl (by decide) rfl ?_
 refine AW.seq (AW.region (AO.step rfl (box_ok T rfl 1 rfl rfl rfl rfl) ?_))
 refine AO.pu T ?_
 refine AO.nil (AW.seq ?_)
 obtain ⟨x1,hx2,hH⟩:=bindE hH
 refine AW.region ?_
 iterate 3 refine AO.pu T ?_
 refine AO.val rfl rfl (ix_map_ok T rfl rfl rfl rfl rfl (hx2) rfl) ?_
 iterate 3 refine AO.pu T ?_
 refine AO.nil (AW.seq ?_)
 obtain ⟨x3,hx4,hH⟩:=bindE hH
 obtain ⟨x5,hx6,hH⟩:=bindE hH
 refine AW.region ?_
 iterate 2 refine AO.pu T ?_
 refine AO.val rfl rfl (len_map_ok T rfl rfl rfl) ?_
 iterate 2 refine AO.pu T ?_
 refine AO.val rfl rfl (callV_ok rfl rfl rfl rfl (spec_l1Least_ok _ _ _ (hx4)) rfl) ?_
 refine AO.val rfl rfl (slice_hi_map_ok T rfl rfl rfl rfl rfl (hx6) (fun _=>rfl)) ?_
 refine AO.pu T ?_
 refine AO.nil (AW.ret ?_)
 have hR:=someE hH;subst hR
 exact retQ.i [] rfl (.c (.c .s))

def spec_seTotal_l1:List Int→Nat→Int→Option Int
  | [],k3,v10 =>
    some v10
  | y4::ys5,k3,v10 =>
    spec_seTotal_l1 ys5 (k3+1) (w64 (v10+y4))
def spec_seTotal_p (sA:Season) (k:Int):Option Int :=
  (spec_seCounted_p sA k).bind fun x1 =>
  spec_seTotal_l1 x1 0 0
theorem spec_seTotal_ok (sA:Season) (k:Int) (r:Int) (hH:spec_seTotal_p sA k=some r):SpecR Tryz.prog 87 [.g (encSeason sA),k] (.v (.int .i64 r)):=by
 refine fn_ok T Tryz.func87 rfl (by decide) rfl ?_
 refine AW.seq (AW.region (AO.step rfl (box_ok T rfl 1 rfl rfl rfl rfl) ?_))
 refine AO.pu T ?_
 refine AO.nil (AW.seq (AW.region ?_))
 refine AO.pu T ?_
 refine AO.nil ?_
 iterate 2 refine AW.seq ?_
 obtain ⟨x1,hx2,hH⟩:=bindE hH
 refine AW.region (AO.pu T (d:=.g [sA.best,.s (List.map encLine sA.lines)]) ?_)
 refine AO.pu T ?_
 refine AO.val rfl rfl (callV_ok rfl rfl rfl rfl (spec_seCounted_ok _ _ _ (hx2)) rfl) ?_
 refine AO.val rfl rfl (len_map_ok T rfl rfl rfl) ?_
 refine AO.pu T ?_
 refine AO.nil (AW.block ?_)
 refine AW.loopS (fun s:Nat × Int=>(⟨[(5,s.2),(10,.s (List.map encInt x1)),(11,(x1.length:Int)),(12,(s.1:Int))],[],21,[]⟩:St)) (fun s=>s.1 ≤ x1.length∧spec_seTotal_l1 (x1.drop s.1) s.1 s.2=some r) (fun s=>x1.length - s.1) (0,0) ⟨Nat.zero_le _,hH⟩ ?_ ?_
 exact Le.ct 0 0
 rintro ⟨k3,v10⟩ ⟨hk,hH⟩
 replace hH:spec_seTotal_l1 (x1.drop k3) k3 v10=some r:=hH
 try dsimp only
 refine AW.boundM (t:=10) (l:=x1) rfl (fun hb7=>?_)
 rcases hd6:x1.drop k3 with _ | ⟨y4,ys5⟩
 rw [hd6,spec_seTotal_l1] at hH
 have hlt8:=drop_ge hd6
 refine AW.seq (AW.region (AO.pu T ?_))
 refine AO.nil (AW.seq (AW.condF' (b:=decide ((k3:Int) < (x1.length:Int))) rfl (rngF hlt8) ?_))
 refine AW.exit (AW.seq (AW.region ?_))
 iterate 2 refine AO.pu T ?_
 refine AO.nil (AW.ret ?_)
 have hR:=someE hH;subst hR
 exact retQ.i [] rfl (.c (.c .v))
 rw [hd6,spec_seTotal_l1] at hH
 have hlt8:=drop_lt hd6
 refine AW.seq (AW.region (AO.pu T ?_))
 refine AO.nil (AW.seq (AW.condT' (b:=decide ((k3:Int) < (x1.length:Int))) rfl (rngT hlt8) ?_))
 refine AW.skip (AW.seq ?_)
 refine AW.block (AW.seq (AW.region ?_))
 refine AO.val rfl rfl (ix_map_ok T rfl rfl rfl rfl rfl (getI_drop hd6) rfl) ?_
 iterate 2 refine AO.pu T ?_
 refine AO.nil (AW.region ?_)
 iterate 2 refine AO.pu T ?_
 refine AO.val rfl rfl (arw_ok rfl rfl rfl rfl) ?_
 refine AO.pu T ?_
 refine AO.nil (AW.region ?_)
 refine AO.val rfl rfl (ar_ok rfl rfl rfl rfl (inI_succ hlt8 hb7)) ?_
 refine AO.pu T ?_
 refine AO.nil ?_
 refine ⟨(k3+1,w64 (v10+y4)),⟨Nat.succ_le_of_lt hlt8,(by rw [drop_succ_of hd6];exact hH)⟩,(by have:=hlt8;dsimp only;omega),?_⟩
 exact Le.ct 0 0

def spec_poDown_p (a:Int) (b:Int):Option Int :=
  (need (b != 0)).bind fun u1 =>
  cond (decide ((a.tmod b) < 0))
    (some (w64 ((w64 (a.tdiv b)) - 1)))
    (some (w64 (a.tdiv b)))
theorem spec_poDown_ok (a:Int) (b:Int) (r:Int) (hH:spec_poDown_p a b=some r):SpecR Tryz.prog 103 [a,b] (.v (.int .i64 r)):=by
 refine fn_ok T Tryz.func103 rfl (by decide) rfl ?_
 refine AW.seq (AW.region (AO.pu T ?_))
 refine AO.nil (AW.seq ?_)
 obtain ⟨u1,hx2,hH⟩:=bindE hH
 refine AW.region ?_
 iterate 2 refine AO.pu T ?_
 refine AO.val rfl rfl (quow_ok rfl rfl rfl (neZ (needT (hx2)))) ?_
 refine AO.pu T ?_
 refine AO.nil ?_
 iterate 2 refine AW.seq ?_
 refine AW.region ?_
 iterate 2 refine AO.pu T ?_
 refine AO.val rfl rfl (rem_ok rfl rfl rfl (neZ (needT (hx2)))) ?_
 refine AO.pu T ?_
 refine AO.nil (AW.cond (b:=decide ((a.tmod b) < 0)) rfl (fun hc=>?_) (fun hc=>?_))
 replace hH:=condT hc hH
 refine AW.region (AO.pu T ?_)
 refine AO.val rfl rfl (arw_ok rfl rfl rfl rfl) ?_
 refine AO.pu T ?_
 refine AO.nil (AW.seq (AW.region ?_))
 iterate 2 refine AO.pu T ?_
 refine AO.nil (AW.ret ?_)
 have hR:=someE hH;subst hR
 exact retQ.i [] rfl (.c (.c .v))
 replace hH:=condF hc hH
 refine AW.skip (AW.seq (AW.region ?_))
 iterate 2 refine AO.pu T ?_
 refine AO.nil (AW.ret ?_)
 have hR:=someE hH;subst hR
 exact retQ.i [] rfl (.c (.c .v))

def spec_poRound_p (a:Int) (b:Int):Option Int :=
  (spec_poDown_p (w64 ((w64 (2 * a))+b)) (w64 (2 * b))).bind fun x1 =>
  some x1
theorem spec_poRound_ok (a:Int) (b:Int) (r:Int) (hH:spec_poRound_p a b=some r):SpecR Tryz.prog 86 [a,b] (.v (.int .i64 r)):=by
 refine fn_ok T Tryz.func86 rfl (by decide) rfl ?_
 refine AW.seq (AW.region (AO.pu T ?_))
 refine AO.nil (AW.seq ?_)
 obtain ⟨x1,hx2,hH⟩:=bindE hH
 refine AW.region (AO.pu T ?_)
 refine AO.val rfl rfl (arw_ok rfl rfl rfl rfl) ?_
 refine AO.pu T ?_
 refine AO.val rfl rfl (arw_ok rfl rfl rfl rfl) ?_
 refine AO.pu T ?_
 refine AO.val rfl rfl (arw_ok rfl rfl rfl rfl) ?_
 refine AO.val rfl rfl (callV_ok rfl rfl rfl rfl (spec_poDown_ok _ _ _ (hx2)) rfl) ?_
 refine AO.pu T ?_
 refine AO.nil (AW.ret ?_)
 have hR:=someE hH;subst hR
 exact retQ.i [] rfl (.c (.c .v))

def spec_wlParts_l1 (w:World) (skater:Int) (fuel:Nat):List Season→Nat→List Int→Bool→Option (((List Int) × Bool))
  | [],k1,v33,v34 =>
    some (v33,v34)
  | y2::ys3,k1,v33,v34 =>
    (spec_seHas_p fuel y2 skater).bind fun x36 =>
    cond (decide (x36 ≥ 0))
      ((spec_seTotal_p y2 x36).bind fun x38 =>
      (getI w.weights (k1:Int)).bind fun x40 =>
      (spec_poRound_p (w64 (x38 * x40)) 100).bind fun x42 =>
      (need (fitsB 8 (v33.length+([x42]).length))).bind fun u44 =>
      spec_wlParts_l1 w skater fuel ys3 (k1+1) (v33++[x42]) true)
      ((need (fitsB 8 (v33.length+(([0]:List Int)).length))).bind fun u46 =>
      spec_wlParts_l1 w skater fuel ys3 (k1+1) (v33++([0]:List Int)) v34)
def spec_wlParts_p (fuel:Nat) (w:World) (skater:Int):Option ((List Int) × Bool) :=
  spec_wlParts_l1 w skater fuel w.seasons 0 [] false
theorem spec_wlParts_ok (fuel:Nat) (w:World) (skater:Int) (r:((List Int) × Bool)) (hH:spec_wlParts_p fuel w skater=some r):SpecR Tryz.prog 49 [.g (encWorld w),skater] (.t [.w 1 (r.1.map encInt),.v (.bool r.2)]):=by
 refine fn_ok T Tryz.func49 rfl (by decide) rfl ?_
 refine AW.seq (AW.region (AO.step rfl (box_ok T rfl 1 rfl rfl rfl rfl) ?_))
 iterate 2 refine AO.pu T ?_
 refine AO.nil (AW.seq (AW.region ?_))
 refine AO.pu T ?_
 refine AO.nil (AW.seq (AW.region ?_))
 refine AO.pu T ?_
 refine AO.nil ?_
 iterate 2 refine AW.seq ?_
 refine AW.region ?_
 iterate 2 refine AO.pu T ?_
 refine AO.val rfl rfl (len_map_ok T rfl rfl rfl) ?_
 refine AO.pu T ?_
 refine AO.nil (AW.block ?_)
 refine AW.loopS (fun s:Nat × (List Int) × Bool=>(⟨[(1,skater),(2,.p 1 0),(6,.R 9),(7,.v (.bool s.2.2)),(13,.s (List.map encSeason w.seasons)),(14,(w.seasons.length:Int)),(15,(s.1:Int))],[(1,.box [.s (List.map encSeason w.seasons),.s (List.map encInt w.weights)]),(9,.row 1 (List.map encInt s.2.1))],42,[]⟩:St)) (fun s=>s.1 ≤ w.seasons.length∧spec_wlParts_l1 w skater fuel (w.seasons.drop s.1) s.1 s.2.1 s.2.2=some r) (fun s=>w.seasons.length - s.1) (0,[],false) ⟨Nat.zero_le _,hH⟩ ?_ ?_
 refine Le.trans (Le.void 6 9 1 rfl rfl) ?_
 exact Le.ct 0 0
 rintro ⟨k1,v33,v34⟩ ⟨hk,hH⟩
 replace hH:spec_wlParts_l1 w skater fuel (w.seasons.drop k1) k1 v33 v34=some r:=hH
 try dsimp only
 refine AW.boundM (t:=13) (l:=w.seasons) rfl (fun hb5=>?_)
 rcases hd4:w.seasons.drop k1 with _ | ⟨y2,ys3⟩
 rw [hd4,spec_wlParts_l1] at hH
 have hlt6:=drop_ge hd4
 refine AW.seq (AW.region (AO.pu T ?_))
 refine AO.nil (AW.seq (AW.condF' (b:=decide ((k1:Int) < (w.seasons.length:Int))) rfl (rngF hlt6) ?_))
 refine AW.exit (AW.seq (AW.region ?_))
 iterate 4 refine AO.pu T ?_
 refine AO.nil (AW.ret ?_)
 have hR:=someE hH;subst hR
 exact retQ.i [9] rfl (.t (expLG_cons (.c (.rowR rfl)) (expLG_cons (.c .v) (expLG_nil))))
 rw [hd4,spec_wlParts_l1] at hH
 have hlt6:=drop_lt hd4
 refine AW.seq (AW.region (AO.pu T ?_))
 refine AO.nil (AW.seq (AW.condT' (b:=decide ((k1:Int) < (w.seasons.length:Int))) rfl (rngT hlt6) ?_))
 refine AW.skip (AW.seq ?_)
 refine AW.block (AW.seq (AW.region ?_))
 refine AO.pu T ?_
 refine AO.val rfl rfl (ix_map_ok T rfl rfl rfl rfl rfl (getI_drop hd4) rfl) ?_
 refine AO.pu T (d:=.g [y2.best,.s (List.map encLine y2.lines)]) ?_
 refine AO.step rfl (alloc_ok T rfl 12 rfl rfl rfl rfl rfl) ?_
 refine AO.pu T ?_
 refine AO.se T [y2.best,.s (List.map encLine y2.lines)] ?_
 refine AO.nil (AW.seq (AW.region ?_))
 refine AO.pu T ?_
 refine AO.nil ?_
 iterate 2 refine AW.seq ?_
 obtain ⟨x36,hx37,hH⟩:=bindE hH
 refine AW.region (AO.pu T (d:=.g [y2.best,.s (List.map encLine y2.lines)]) ?_)
 refine AO.pu T ?_
 refine AO.val rfl rfl (callV_ok rfl rfl rfl rfl (spec_seHas_ok fuel _ _ _ (hx37)) rfl) ?_
 refine AO.pu T ?_
 refine AO.nil (AW.seq (AW.region ?_))
 iterate 2 refine AO.pu T ?_
 refine AO.nil (AW.cond (b:=decide (x36 ≥ 0)) rfl (fun hc=>?_) (fun hc=>?_))
 replace hH:=condT hc hH
 refine AW.seq ?_
 obtain ⟨x38,hx39,hH⟩:=bindE hH
 obtain ⟨x40,hx41,hH⟩:=bindE hH
 obtain ⟨x42,hx43,hH⟩:=bindE hH
 refine AW.drawn 8 13 [] mix (by kernel_rfl) rfl ?_
 refine AD.pure T (d:=.g [y2.best,.s (List.map encLine y2.lines)]) rfl rfl rfl ?_
 refine AD.pure T rfl rfl rfl ?_
 refine AD.val rfl rfl (callV_ok rfl rfl rfl rfl (spec_seTotal_ok _ _ _ (hx39)) rfl) ?_
 iterate 3 refine AD.pure T rfl rfl rfl ?_
 refine AD.val rfl rfl (ix_map_ok T rfl rfl rfl rfl rfl (hx41) rfl) ?_
 refine AD.pure T rfl rfl rfl ?_
 refine AD.nil (AO.val rfl rfl (arw_ok rfl rfl rfl rfl) ?_)
 refine AO.val rfl rfl (callV_ok rfl rfl rfl rfl (spec_poRound_ok _ _ _ (hx43)) rfl) ?_
 refine AO.pu T ?_
 refine AO.nil (AW.le (Le.ct 0 0 (σ':=(⟨[(1,skater),(2,.p 1 0),(6,.R 9),(10,x42),(13,.s (List.map encSeason w.seasons)),(14,(w.seasons.length:Int)),(15,(k1:Int))],[(1,.box [.s (List.map encSeason w.seasons),.s (List.map encInt w.weights)]),(9,.row 1 (List.map encInt v33))],42,[]⟩:St))) ?_)
 refine AW.region (AO.pu T ?_)
 refine AO.nil ?_
 obtain ⟨u44,hx45,hH⟩:=bindE hH
 refine AW.region ?_
 iterate 2 refine AO.pu T ?_
 refine AO.step rfl (mk_map_ok T rfl 13 rfl rfl rfl rfl rfl (f:=encInt) (l:=[x42]) rfl rfl (fun _=>rfl) rfl rfl rfl rfl rfl) ?_
 refine AO.step rfl (app_rv_map T rfl 14 rfl rfl rfl rfl rfl (by decide) rfl rfl rfl rfl (fun _=>rfl) (needT (hx45)) rfl rfl) ?_
 refine AO.pu T ?_
 refine AO.nil (AW.region ?_)
 refine AO.val rfl rfl (ar_ok rfl rfl rfl rfl (inI_succ hlt6 hb5)) ?_
 refine AO.pu T ?_
 refine AO.nil ?_
 refine ⟨(k1+1,(v33++[x42]),true),⟨Nat.succ_le_of_lt hlt6,(by rw [drop_succ_of hd4];exact hH)⟩,(by have:=hlt6;dsimp only;omega),?_⟩
 exact Le.ct 14 9
 replace hH:=condF hc hH
 refine AW.skip ?_
 obtain ⟨u46,hx47,hH⟩:=bindE hH
 refine AW.region ?_
 iterate 2 refine AO.pu T ?_
 refine AO.step rfl (mk_map_ok T rfl 15 rfl rfl rfl rfl rfl (f:=encInt) (l:=([0]:List Int)) rfl rfl (fun _=>rfl) rfl rfl rfl rfl rfl) ?_
 refine AO.step rfl (app_rv_map T rfl 16 rfl rfl rfl rfl rfl (by decide) rfl rfl rfl rfl (fun _=>rfl) (needT (hx47)) rfl rfl) ?_
 refine AO.pu T ?_
 refine AO.nil (AW.region ?_)
 refine AO.val rfl rfl (ar_ok rfl rfl rfl rfl (inI_succ hlt6 hb5)) ?_
 refine AO.pu T ?_
 refine AO.nil ?_
 refine ⟨(k1+1,(v33++([0]:List Int)),v34),⟨Nat.succ_le_of_lt hlt6,(by rw [drop_succ_of hd4];exact hH)⟩,(by have:=hlt6;dsimp only;omega),?_⟩
 exact Le.ct 16 9

def spec_poSum_l1:List Int→Nat→Int→Option Int
  | [],k1,v8 =>
    some v8
  | y2::ys3,k1,v8 =>
    spec_poSum_l1 ys3 (k1+1) (w64 (v8+y2))
def spec_poSum_p (l:List Int):Option Int :=
  spec_poSum_l1 l 0 0
theorem spec_poSum_ok (l:List Int) (r:Int) (hH:spec_poSum_p l=some r):SpecR Tryz.prog 56 [.s (List.map encInt l)] (.v (.int .i64 r)):=by
 refine fn_ok T Tryz.func56 rfl (by decide) rfl ?_
 refine AW.seq (AW.region (AO.pu T ?_))
 refine AO.nil (AW.seq (AW.region ?_))
 refine AO.pu T ?_
 refine AO.nil ?_
 iterate 2 refine AW.seq ?_
 refine AW.region (AO.pu T ?_)
 refine AO.val rfl rfl (len_map_ok T rfl rfl rfl) ?_
 refine AO.pu T ?_
 refine AO.nil (AW.block ?_)
 refine AW.loopS (fun s:Nat × Int=>(⟨[(3,s.2),(6,.s (List.map encInt l)),(7,(l.length:Int)),(8,(s.1:Int))],[],17,[]⟩:St)) (fun s=>s.1 ≤ l.length∧spec_poSum_l1 (l.drop s.1) s.1 s.2=some r) (fun s=>l.length - s.1) (0,0) ⟨Nat.zero_le _,hH⟩ ?_ ?_
 exact Le.ct 0 0
 rintro ⟨k1,v8⟩ ⟨hk,hH⟩
 replace hH:spec_poSum_l1 (l.drop k1) k1 v8=some r:=hH
 try dsimp only
 refine AW.boundM (t:=6) (l:=l) rfl (fun hb5=>?_)
 rcases hd4:l.drop k1 with _ | ⟨y2,ys3⟩
 rw [hd4,spec_poSum_l1] at hH
 have hlt6:=drop_ge hd4
 refine AW.seq (AW.region (AO.pu T ?_))
 refine AO.nil (AW.seq (AW.condF' (b:=decide ((k1:Int) < (l.length:Int))) rfl (rngF hlt6) ?_))
 refine AW.exit (AW.seq (AW.region ?_))
 iterate 2 refine AO.pu T ?_
 refine AO.nil (AW.ret ?_)
 have hR:=someE hH;subst hR
 exact retQ.i [] rfl (.c (.c .v))
 rw [hd4,spec_poSum_l1] at hH
 have hlt6:=drop_lt hd4
 refine AW.seq (AW.region (AO.pu T ?_))
 refine AO.nil (AW.seq (AW.condT' (b:=decide ((k1:Int) < (l.length:Int))) rfl (rngT hlt6) ?_))
 refine AW.skip (AW.seq ?_)
 refine AW.block (AW.seq (AW.region ?_))
 refine AO.val rfl rfl (ix_map_ok T rfl rfl rfl rfl rfl (getI_drop hd4) rfl) ?_
 iterate 2 refine AO.pu T ?_
 refine AO.nil (AW.region ?_)
 iterate 2 refine AO.pu T ?_
 refine AO.val rfl rfl (arw_ok rfl rfl rfl rfl) ?_
 refine AO.pu T ?_
 refine AO.nil (AW.region ?_)
 refine AO.val rfl rfl (ar_ok rfl rfl rfl rfl (inI_succ hlt6 hb5)) ?_
 refine AO.pu T ?_
 refine AO.nil ?_
 refine ⟨(k1+1,w64 (v8+y2)),⟨Nat.succ_le_of_lt hlt6,(by rw [drop_succ_of hd4];exact hH)⟩,(by have:=hlt6;dsimp only;omega),?_⟩
 exact Le.ct 0 0

def spec_WorldTotal_p (fuel:Nat) (w:World) (skater:Int):Option (Int × Bool) :=
  (spec_wlGood_p w).bind fun x1 =>
  cond (!x1)
    (some (0,false))
    ((spec_wlParts_p fuel w skater).bind fun x3 =>
    cond (!x3.2)
      (some (0,false))
      ((spec_poSum_p x3.1).bind fun x5 =>
      some (x5,true)))
theorem spec_WorldTotal_ok (fuel:Nat) (w:World) (skater:Int) (r:(Int × Bool)) (hH:spec_WorldTotal_p fuel w skater=some r):SpecR Tryz.prog 21 [.g (encWorld w),skater] (.t [.v (.int .i64 r.1),.v (.bool r.2)]):=by
 refine fn_ok T Tryz.func21 rfl (by decide) rfl ?_
 refine AW.seq (AW.region (AO.step rfl (box_ok T rfl 1 rfl rfl rfl rfl) ?_))
 iterate 2 refine AO.pu T ?_
 refine AO.nil ?_
 iterate 2 refine AW.seq ?_
 obtain ⟨x1,hx2,hH⟩:=bindE hH
 refine AW.region (AO.pu T (d:=.g [.s (List.map encSeason w.seasons),.s (List.map encInt w.weights)]) ?_)
 refine AO.val rfl rfl (callV_ok rfl rfl rfl rfl (spec_wlGood_ok _ _ (hx2)) rfl) ?_
 refine AO.pu T ?_
 refine AO.nil (AW.cond (b:=(!x1)) rfl (fun hc=>?_) (fun hc=>?_))
 replace hH:=condT hc hH
 refine AW.seq (AW.region ?_)
 iterate 2 refine AO.pu T ?_
 refine AO.nil (AW.ret ?_)
 have hR:=someE hH;subst hR
 exact retQ.i [] rfl (.t (expLG_cons (.c .v) (expLG_cons (.c .v) (expLG_nil))))
 replace hH:=condF hc hH
 refine AW.skip (AW.seq ?_)
 obtain ⟨x3,hx4,hH⟩:=bindE hH
 refine AW.region (AO.pu T (d:=.g [.s (List.map encSeason w.seasons),.s (List.map encInt w.weights)]) ?_)
 refine AO.pu T ?_
 refine AO.step rfl (call_ok rfl 2 rfl rfl rfl (spec_wlParts_ok fuel _ _ _ (hx4)) rfl rfl rfl) ?_
 iterate 5 refine AO.pu T ?_
 refine AO.nil ?_
 iterate 2 refine AW.seq ?_
 refine AW.region ?_
 iterate 2 refine AO.pu T ?_
 refine AO.nil (AW.cond (b:=(!x3.2)) rfl (fun hc=>?_) (fun hc=>?_))
 replace hH:=condT hc hH
 refine AW.seq (AW.region ?_)
 iterate 2 refine AO.pu T ?_
 refine AO.nil (AW.ret ?_)
 have hR:=someE hH;subst hR
 exact retQ.i [] rfl (.t (expLG_cons (.c .v) (expLG_cons (.c .v) (expLG_nil))))
 replace hH:=condF hc hH
 refine AW.skip (AW.seq ?_)
 obtain ⟨x5,hx6,hH⟩:=bindE hH
 refine AW.region (AO.pu T ?_)
 refine AO.val rfl rfl (callLV_ok rfl rfl rfl (es:=[.s (List.map encInt x3.1)]) ⟨(.rowR rfl (.map fun y=>.vs rfl)),trivial⟩ (spec_poSum_ok _ _ (hx6)) (zfree_v _) rfl) ?_
 iterate 2 refine AO.pu T ?_
 refine AO.nil (AW.ret ?_)
 have hR:=someE hH;subst hR
 exact retQ.i [] rfl (.t (expLG_cons (.c .v) (expLG_cons (.c .v) (expLG_nil))))

def impl_placesOf_l2 (y2:Int) (v54:List Int):List Int→Nat→Int→Option (List Int)
  | [],k69,v76 =>
    (need (fitsB 8 (v54.length+([v76]).length))).bind fun u78 =>
    some (v54++[v76])
  | y70::ys71,k69,v76 =>
    cond (decide (y70 > y2))
      (impl_placesOf_l2 y2 v54 ys71 (k69+1) (w64 (v76+1)))
      (impl_placesOf_l2 y2 v54 ys71 (k69+1) v76)
def impl_placesOf_l1 (l:List Int):List Int→Nat→List Int→Option ((List Int))
  | [],k1,v54 =>
    some v54
  | y2::ys3,k1,v54 =>
    (impl_placesOf_l2 y2 v54 l 0 1).bind fun v66 =>
    impl_placesOf_l1 l ys3 (k1+1) v66
def impl_placesOf_p (l:List Int):Option (List Int) :=
  impl_placesOf_l1 l l 0 []
theorem impl_placesOf_ok (l:List Int) (r:(List Int)) (hH:impl_placesOf_p l=some r):SpecR Tryz.prog 74 [.s (List.map encInt l)] (.w 1 (r.map encInt)):=by
 refine fn_ok T Tryz.func74 rfl (by decide) rfl ?_
 refine AW.seq (AW.region (AO.pu T ?_))
 refine AO.nil (AW.seq (AW.region ?_))
 refine AO.step rfl (mk0_ok T rfl rfl rfl rfl) ?_
 refine AO.pu T ?_
 refine AO.nil ?_
 iterate 2 refine AW.seq ?_
 refine AW.region (AO.pu T ?_)
 refine AO.val rfl rfl (len_map_ok T rfl rfl rfl) ?_
 refine AO.pu T ?_
 refine AO.nil (AW.block ?_)
 refine AW.loopS (fun s:Nat × (List Int)=>(⟨[(0,.s (List.map encInt l)),(3,.R 6),(10,.s (List.map encInt l)),(11,(l.length:Int)),(12,(s.1:Int))],[(6,.row 1 (List.map encInt s.2))],34,[]⟩:St)) (fun s=>s.1 ≤ l.length∧impl_placesOf_l1 l (l.drop s.1) s.1 s.2=some r) (fun s=>l.length - s.1) (0,[]) ⟨Nat.zero_le _,hH⟩ ?_ ?_
 refine Le.trans (Le.void 3 6 1 rfl rfl) ?_
 exact Le.ct 0 0
 rintro ⟨k1,v54⟩ ⟨hk,hH⟩
 replace hH:impl_placesOf_l1 l (l.drop k1) k1 v54=some r:=hH
 try dsimp only
 refine AW.boundM (t:=0) (l:=l) rfl (fun hb5=>?_)
 rcases hd4:l.drop k1 with _ | ⟨y2,ys3⟩
 rw [hd4,impl_placesOf_l1] at hH
 have hlt6:=drop_ge hd4
 refine AW.seq (AW.region (AO.pu T ?_))
 refine AO.nil (AW.seq (AW.condF' (b:=decide ((k1:Int) < (l.length:Int))) rfl (rngF hlt6) ?_))
 refine AW.exit (AW.seq (AW.region ?_))
 iterate 2 refine AO.pu T ?_
 refine AO.nil (AW.ret ?_)
 have hR:=someE hH;subst hR
 exact retQ.i [6] rfl (.c (.c (.rowR rfl)))
 rw [hd4,impl_placesOf_l1] at hH
 have hlt6:=drop_lt hd4
 refine AW.seq (AW.region (AO.pu T ?_))
 refine AO.nil (AW.seq (AW.condT' (b:=decide ((k1:Int) < (l.length:Int))) rfl (rngT hlt6) ?_))
 refine AW.skip ?_
 obtain ⟨o67,hH,hK68⟩:=bindE hH
 refine AW.seqJ (fun s:List Int=>(⟨[(0,.s (List.map encInt l)),(3,.R 10),(10,.s (List.map encInt l)),(11,(l.length:Int)),(12,(k1:Int))],[(10,.row 1 (List.map encInt s))],34,[]⟩:St)) (fun s=>s=o67) ?_ ?_
 refine AW.block (AW.seq (AW.region ?_))
 refine AO.val rfl rfl (ix_map_ok T rfl rfl rfl rfl rfl (getI_drop hd4) rfl) ?_
 iterate 2 refine AO.pu T ?_
 refine AO.nil (AW.seq (AW.region ?_))
 refine AO.pu T ?_
 refine AO.nil ?_
 iterate 2 refine AW.seq ?_
 refine AW.region (AO.pu T ?_)
 refine AO.val rfl rfl (len_map_ok T rfl rfl rfl) ?_
 refine AO.pu T ?_
 refine AO.nil (AW.block ?_)
 refine AW.loopS (fun s:Nat × Int=>(⟨[(0,.s (List.map encInt l)),(3,.R 6),(5,y2),(6,s.2),(10,.s (List.map encInt l)),(11,(l.length:Int)),(12,(k1:Int)),(16,.s (List.map encInt l)),(17,(l.length:Int)),(18,(s.1:Int))],[(6,.row 1 (List.map encInt v54))],34,[]⟩:St)) (fun s=>s.1 ≤ l.length∧impl_placesOf_l2 y2 v54 (l.drop s.1) s.1 s.2=some o67) (fun s=>l.length - s.1) (0,1) ⟨Nat.zero_le _,hH⟩ ?_ ?_
 exact Le.ct 0 0
 rintro ⟨k69,v76⟩ ⟨hk,hH⟩
 replace hH:impl_placesOf_l2 y2 v54 (l.drop k69) k69 v76=some o67:=hH
 try dsimp only
 refine AW.boundM (t:=0) (l:=l) rfl (fun hb73=>?_)
 rcases hd72:l.drop k69 with _ | ⟨y70,ys71⟩
 rw [hd72,impl_placesOf_l2] at hH
 have hlt74:=drop_ge hd72
 refine AW.seq (AW.region (AO.pu T ?_))
 refine AO.nil (AW.seq (AW.condF' (b:=decide ((k69:Int) < (l.length:Int))) rfl (rngF hlt74) ?_))
 refine AW.exit ?_
 obtain ⟨u78,hx79,hH⟩:=bindE hH
 refine AW.region ?_
 iterate 2 refine AO.pu T ?_
 refine AO.step rfl (mk_map_ok T rfl 11 rfl rfl rfl rfl rfl (f:=encInt) (l:=[v76]) rfl rfl (fun _=>rfl) rfl rfl rfl rfl rfl) ?_
 refine AO.step rfl (app_rv_map T rfl 12 rfl rfl rfl rfl rfl (by decide) rfl rfl rfl rfl (fun _=>rfl) (needT (hx79)) rfl rfl) ?_
 refine AO.pu T ?_
 refine AO.nil ?_
 refine ⟨_,someE hH,?_⟩
 exact Le.ct 12 10
 rw [hd72,impl_placesOf_l2] at hH
 have hlt74:=drop_lt hd72
 refine AW.seq (AW.region (AO.pu T ?_))
 refine AO.nil (AW.seq (AW.condT' (b:=decide ((k69:Int) < (l.length:Int))) rfl (rngT hlt74) ?_))
 refine AW.skip (AW.seq ?_)
 refine AW.block (AW.seq (AW.region ?_))
 refine AO.val rfl rfl (ix_map_ok T rfl rfl rfl rfl rfl (getI_drop hd72) rfl) ?_
 iterate 2 refine AO.pu T ?_
 refine AO.nil (AW.seq (AW.region ?_))
 iterate 3 refine AO.pu T ?_
 refine AO.nil (AW.cond (b:=decide (y70 > y2)) rfl (fun hc=>?_) (fun hc=>?_))
 replace hH:=condT hc hH
 refine AW.region (AO.pu T ?_)
 refine AO.val rfl rfl (arw_ok rfl rfl rfl rfl) ?_
 refine AO.pu T ?_
 refine AO.nil (AW.region ?_)
 refine AO.val rfl rfl (ar_ok rfl rfl rfl rfl (inI_succ hlt74 hb73)) ?_
 refine AO.pu T ?_
 refine AO.nil ?_
 refine ⟨(k69+1,w64 (v76+1)),⟨Nat.succ_le_of_lt hlt74,(by rw [drop_succ_of hd72];exact hH)⟩,(by have:=hlt74;dsimp only;omega),?_⟩
 exact Le.ct 0 0
 replace hH:=condF hc hH
 refine AW.skip (AW.region ?_)
 refine AO.val rfl rfl (ar_ok rfl rfl rfl rfl (inI_succ hlt74 hb73)) ?_
 refine AO.pu T ?_
 refine AO.nil ?_
 refine ⟨(k69+1,v76),⟨Nat.succ_le_of_lt hlt74,(by rw [drop_succ_of hd72];exact hH)⟩,(by have:=hlt74;dsimp only;omega),?_⟩
 exact Le.ct 0 0
 rintro v66 hs
 subst hs
 replace hH:=hK68
 try dsimp only [flow,flowE] at hH
 try dsimp only
 refine AW.region (AO.val rfl rfl (ar_ok rfl rfl rfl rfl (inI_succ hlt6 hb5)) ?_)
 refine AO.pu T ?_
 refine AO.nil ?_
 refine ⟨(k1+1,v66),⟨Nat.succ_le_of_lt hlt6,(by rw [drop_succ_of hd4];exact hH)⟩,(by have:=hlt6;dsimp only;omega),?_⟩
 exact Le.ct 10 6

def slices_insertionSortCmpFunc_Rank_l2 (a:Int) (cmp:Rank→Rank→Option Int):Nat→List Rank→Int→Option (List Rank)
  | 0,_,_=>none
  | k221+1,v248,v249 =>
    (opt (decide (v249 > a)) default (getI v248 v249)).bind fun x251 =>
    (opt (decide (v249 > a)) default (getI v248 (w64 (v249 - 1)))).bind fun x253 =>
    (opt (decide (v249 > a)) default (cmp x251 x253)).bind fun x255 =>
    cond (decide (v249 > a) && decide (x255 < 0))
      ((getI v248 (w64 (v249 - 1))).bind fun x257 =>
      (getI v248 v249).bind fun x259 =>
      (getI (v248.set v249.toNat x257) (w64 (v249 - 1))).bind fun x261 =>
      slices_insertionSortCmpFunc_Rank_l2 a cmp k221 ((v248.set v249.toNat x257).set ((w64 (v249 - 1)).toNat) x259) (w64 (v249 - 1)))
      (some v248)
def slices_insertionSortCmpFunc_Rank_l1 (a:Int) (b:Int) (cmp:Rank→Rank→Option Int) (fuel:Nat):Nat→List Rank→Int→Option ((List Rank))
  | 0,_,_=>none
  | k1+1,v174,v175 =>
    cond (decide (v175 < b))
      ((slices_insertionSortCmpFunc_Rank_l2 a cmp fuel v174 v175).bind fun v218 =>
      slices_insertionSortCmpFunc_Rank_l1 a b cmp fuel k1 v218 (w64 (v175+1)))
      (some v174)
def slices_insertionSortCmpFunc_Rank_p (fuel:Nat) (data:List Rank) (a:Int) (b:Int) (cmp:Rank→Rank→Option Int):Option (List Rank) :=
  slices_insertionSortCmpFunc_Rank_l1 a b cmp fuel fuel data (w64 (a+1))
theorem slices_insertionSortCmpFunc_Rank_ok (fuel:Nat) (data:List Rank) (a:Int) (b:Int) (cmp_f:Nat) (cmp_c:List D) (cmp_k:cmp_c.all D.capOk=true) (cmp:Rank→Rank→Option Int) (cmp_h:∀ (a0:Rank) (a1:Rank) (q:Int),cmp a0 a1=some q→SpecR Tryz.prog cmp_f ([.g (encRank a0),.g (encRank a1)]++cmp_c) (.v (.int .i64 q))) (r:(List Rank)) (hH:slices_insertionSortCmpFunc_Rank_p fuel data a b cmp=some r):SpecM Tryz.prog 112 [.w 3 (data.map encRank),a,b,.f cmp_f cmp_c] [.w 3 (r.map encRank),.u,.u,.u] (.t []):=by
 have cmp_r:=cap_cfree cmp_k
 refine fn_okM T Tryz.func112 rfl (by decide) rfl (by simp [D.gOk,D.cellOk,cmp_k]) ?_
 intro L
 show AW _ _ _ (⟨[(0,.R 1),(1,a),(2,b),(3,.f cmp_f cmp_c)],[(1,.row 3 (List.map encRank data))],53,[(1,L 1)]⟩:St)
 refine AW.seq (AW.region (AO.pu T ?_))
 refine AO.val rfl rfl (arw_ok rfl rfl rfl rfl) ?_
 refine AO.pu T ?_
 refine AO.nil (AW.block ?_)
 refine AW.loopS (fun s:Nat × (List Rank) × Int=>(⟨[(0,.R 1),(1,a),(2,b),(3,.f cmp_f cmp_c),(8,s.2.2)],[(1,.row 3 (List.map encRank s.2.1))],53,[(1,L 1)]⟩:St)) (fun s=>slices_insertionSortCmpFunc_Rank_l1 a b cmp fuel s.1 s.2.1 s.2.2=some r) (fun s=>s.1) (fuel,data,w64 (a+1)) hH ?_ ?_
 exact Le.cut 0 0 rfl ⟨⟨_,rfl,rfl⟩,⟨_,rfl,rfl⟩,⟨_,rfl,rfl⟩,⟨_,rfl,ren_fF cmp_r⟩,⟨_,rfl,rfl⟩,trivial⟩ (by repeat' (first | exact trivial | refine ⟨⟨_,rfl,rfl⟩,?_⟩)) (andT (allC rfl (allC rfl (allC rfl (allC (known_fF cmp_r) (allC rfl allN))))) rfl) ⟨⟨rfl,rfl⟩,trivial⟩
 rintro ⟨k1,v174,v175⟩ hH
 replace hH:slices_insertionSortCmpFunc_Rank_l1 a b cmp fuel k1 v174 v175=some r:=hH
 try dsimp only
 rcases k1 with _ | k1
 cases (show none=some _ from hH)
 rw [slices_insertionSortCmpFunc_Rank_l1] at hH
 iterate 2 refine AW.seq ?_
 refine AW.region ?_
 iterate 3 refine AO.pu T ?_
 refine AO.nil (AW.cond (b:=decide (v175 < b)) rfl (fun hc=>?_) (fun hc=>?_))
 replace hH:=condT hc hH
 refine AW.skip ?_
 obtain ⟨o219,hH,hK220⟩:=bindE hH
 refine AW.seqJ (fun s:List Rank=>(⟨[(0,.R 1),(1,a),(2,b),(3,.f cmp_f cmp_c),(8,v175)],[(1,.row 3 (List.map encRank s))],53,[(1,L 1)]⟩:St)) (fun s=>s=o219) ?_ ?_
 refine AW.block (AW.seq (AW.region ?_))
 iterate 2 refine AO.pu T ?_
 refine AO.nil (AW.block ?_)
 refine AW.loopS (fun s:Nat × (List Rank) × Int=>(⟨[(0,.R 1),(1,a),(2,b),(3,.f cmp_f cmp_c),(8,v175),(9,s.2.2)],[(1,.row 3 (List.map encRank s.2.1))],53,[(1,L 1)]⟩:St)) (fun s=>slices_insertionSortCmpFunc_Rank_l2 a cmp s.1 s.2.1 s.2.2=some o219) (fun s=>s.1) (fuel,v174,v175) hH ?_ ?_
 exact Le.cut 0 0 rfl ⟨⟨_,rfl,rfl⟩,⟨_,rfl,rfl⟩,⟨_,rfl,rfl⟩,⟨_,rfl,ren_fF cmp_r⟩,⟨_,rfl,rfl⟩,⟨_,rfl,rfl⟩,trivial⟩ (by repeat' (first | exact trivial | refine ⟨⟨_,rfl,rfl⟩,?_⟩)) (andT (allC rfl (allC rfl (allC rfl (allC (known_fF cmp_r) (allC rfl (allC rfl allN)))))) rfl) ⟨⟨rfl,rfl⟩,trivial⟩
 rintro ⟨k221,v248,v249⟩ hH
 replace hH:slices_insertionSortCmpFunc_Rank_l2 a cmp k221 v248 v249=some o219:=hH
 try dsimp only
 rcases k221 with _ | k221
 cases (show none=some _ from hH)
 rw [slices_insertionSortCmpFunc_Rank_l2] at hH
 iterate 2 refine AW.seq ?_
 obtain ⟨x251,hx252,hH⟩:=bindE hH
 obtain ⟨x253,hx254,hH⟩:=bindE hH
 obtain ⟨x255,hx256,hH⟩:=bindE hH
 refine AW.drawn 14 2 [] mix (by kernel_rfl) rfl ?_
 iterate 4 refine AD.pure T rfl rfl rfl ?_
 iterate 3 refine AD.pureG T [] rfl trivial rfl rfl ?_
 refine AD.guard [23,24] rfl ⟨fun h=>h,fun h=>h,trivial⟩ (fun hg=>ix_row_ok T rfl rfl rfl rfl rfl rfl (optT hx252 hg)) rfl ?_
 refine AD.guard [25] rfl ⟨fun h=>h,trivial⟩ (fun hg=>load_row_ok T rfl rfl rfl rfl (getI_get (optT hx252 hg)) rfl rfl rfl) rfl ?_
 iterate 2 refine AD.pureG T [] rfl trivial rfl rfl ?_
 refine AD.guard [28] rfl ⟨fun h=>h,trivial⟩ (fun hg=>arw_ok rfl rfl rfl rfl) rfl ?_
 refine AD.guard [27,29] rfl ⟨fun h=>h,fun h=>h,trivial⟩ (fun hg=>ix_row_ok T rfl rfl rfl rfl rfl rfl (optT hx254 hg)) rfl ?_
 refine AD.guard [30] rfl ⟨fun h=>h,trivial⟩ (fun hg=>load_row_ok T rfl rfl rfl rfl (getI_get (optT hx254 hg)) rfl rfl rfl) rfl ?_
 refine AD.nil (AO.guard [22,26,31] rfl ⟨fun h=>h,fun h=>h,fun h=>h,trivial⟩ (fun hg=>callV_ok rfl rfl rfl (andT rfl (free_cfree cmp_r)) (cmp_h _ _ _ (optT hx256 hg)) rfl) rfl ?_)
 refine AO.pureG T [32] rfl ⟨fun h=>h,trivial⟩ rfl rfl ?_
 refine AO.val rfl rfl (pick_and rfl rfl rfl rfl) ?_
 refine AO.nil (AW.cond (b:=(decide (v249 > a) && decide (x255 < 0))) rfl (fun hc=>?_) (fun hc=>?_))
 replace hH:=condT hc hH
 refine AW.skip (AW.seq ?_)
 refine AW.block ?_
 obtain ⟨x257,hx258,hH⟩:=bindE hH
 obtain ⟨x259,hx260,hH⟩:=bindE hH
 obtain ⟨x261,hx262,hH⟩:=bindE hH
 refine AW.drawn 16 2 [1] mix (by kernel_rfl) rfl ?_
 iterate 4 refine AD.pure T rfl rfl rfl ?_
 refine AD.val rfl rfl (arw_ok rfl rfl rfl rfl) ?_
 iterate 2 refine AD.pure T rfl rfl rfl ?_
 refine AD.val rfl rfl (arw_ok rfl rfl rfl rfl) ?_
 refine AD.vald rfl rfl rfl (ix_row_ok T rfl rfl rfl rfl rfl rfl (hx258)) ?_
 refine AD.vald rfl rfl rfl (load_row_ok T rfl rfl rfl rfl (getI_get (hx258)) rfl rfl rfl) ?_
 iterate 2 refine AD.pure T rfl rfl rfl ?_
 refine AD.vald rfl rfl rfl (ix_row_ok T rfl rfl rfl rfl rfl rfl (hx260)) ?_
 refine AD.vald rfl rfl rfl (load_row_ok T rfl rfl rfl rfl (getI_get (hx260)) rfl rfl rfl) ?_
 refine AD.vald rfl rfl rfl (ix_row_ok T rfl rfl rfl rfl rfl rfl (hx260)) ?_
 refine AD.k rfl rfl (FStep.store_row T rfl rfl rfl rfl rfl rfl (getI_get (hx260)) rfl rfl rfl rfl (u':=x257) rfl rfl rfl) rfl rfl rfl ?_
 refine AD.nil (AO.val rfl rfl (ix_row_ok T rfl rfl rfl rfl rfl rfl (hx262)) ?_)
 refine AO.step rfl (store_row_ok T rfl rfl rfl rfl rfl (getI_get (hx262)) rfl rfl rfl rfl (u':=x259) rfl rfl) ?_
 refine AO.nil (AW.le (Le.cut 0 0 (σ':=(⟨[(0,.R 1),(1,a),(2,b),(3,.f cmp_f cmp_c),(8,v175),(9,v249)],[(1,.row 3 (List.map encRank ((v248.set v249.toNat x257).set ((w64 (v249 - 1)).toNat) x259)))],53,[(1,L 1)]⟩:St)) rfl ⟨⟨_,rfl,rfl⟩,⟨_,rfl,rfl⟩,⟨_,rfl,rfl⟩,⟨_,rfl,ren_fF cmp_r⟩,⟨_,rfl,rfl⟩,⟨_,rfl,rfl⟩,trivial⟩ (by repeat' (first | exact trivial | refine ⟨⟨_,rfl,rfl⟩,?_⟩)) (andT (allC rfl (allC rfl (allC rfl (allC (known_fF cmp_r) (allC rfl (allC rfl allN)))))) rfl) ⟨⟨rfl,rfl⟩,trivial⟩) ?_)
 refine AW.region (AO.pu T ?_)
 refine AO.val rfl rfl (arw_ok rfl rfl rfl rfl) ?_
 refine AO.pu T ?_
 refine AO.nil ?_
 refine ⟨(k221,((v248.set v249.toNat x257).set ((w64 (v249 - 1)).toNat) x259),w64 (v249 - 1)),hH,Nat.lt_succ_self _,?_⟩
 exact Le.cut 0 0 rfl ⟨⟨_,rfl,rfl⟩,⟨_,rfl,rfl⟩,⟨_,rfl,rfl⟩,⟨_,rfl,ren_fF cmp_r⟩,⟨_,rfl,rfl⟩,⟨_,rfl,rfl⟩,trivial⟩ (by repeat' (first | exact trivial | refine ⟨⟨_,rfl,rfl⟩,?_⟩)) (andT (allC rfl (allC rfl (allC rfl (allC (known_fF cmp_r) (allC rfl (allC rfl allN)))))) rfl) ⟨⟨rfl,rfl⟩,trivial⟩
 replace hH:=condF hc hH
 refine AW.exit ?_
 refine ⟨_,someE hH,?_⟩
 exact Le.cut 0 0 rfl ⟨⟨_,rfl,rfl⟩,⟨_,rfl,rfl⟩,⟨_,rfl,rfl⟩,⟨_,rfl,ren_fF cmp_r⟩,⟨_,rfl,rfl⟩,trivial⟩ (by repeat' (first | exact trivial | refine ⟨⟨_,rfl,rfl⟩,?_⟩)) (andT (allC rfl (allC rfl (allC rfl (allC (known_fF cmp_r) (allC rfl allN))))) rfl) ⟨⟨rfl,rfl⟩,trivial⟩
 rintro v218 hs
 subst hs
 replace hH:=hK220
 try dsimp only [flow,flowE] at hH
 try dsimp only
 refine AW.region (AO.pu T ?_)
 refine AO.val rfl rfl (arw_ok rfl rfl rfl rfl) ?_
 refine AO.pu T ?_
 refine AO.nil ?_
 refine ⟨(k1,v218,w64 (v175+1)),hH,Nat.lt_succ_self _,?_⟩
 exact Le.cut 0 0 rfl ⟨⟨_,rfl,rfl⟩,⟨_,rfl,rfl⟩,⟨_,rfl,rfl⟩,⟨_,rfl,ren_fF cmp_r⟩,⟨_,rfl,rfl⟩,trivial⟩ (by repeat' (first | exact trivial | refine ⟨⟨_,rfl,rfl⟩,?_⟩)) (andT (allC rfl (allC rfl (allC rfl (allC (known_fF cmp_r) (allC rfl allN))))) rfl) ⟨⟨rfl,rfl⟩,trivial⟩
 replace hH:=condF hc hH
 refine AW.exit ?_
 have hR:=someE hH;subst hR
 exact ⟨trivial,rfl,_,[],[1],rfl,expLG_cons (.c (.rowR rfl)) (expLG_cons (.c .u) (expLG_cons (.c .u) (expLG_cons (.c .u) (expLG_nil)))),.t expLG_nil,by decide⟩

def slices_swapRangeCmpFunc_Rank_l1 (a:Int) (b:Int) (n:Int):Nat→List Rank→Int→Option ((List Rank))
  | 0,_,_=>none
  | k1+1,v16,v17 =>
    cond (decide (v17 < n))
      ((getI v16 (w64 (b+v17))).bind fun x19 =>
      (getI v16 (w64 (a+v17))).bind fun x21 =>
      (getI (v16.set ((w64 (a+v17)).toNat) x19) (w64 (b+v17))).bind fun x23 =>
      slices_swapRangeCmpFunc_Rank_l1 a b n k1 ((v16.set ((w64 (a+v17)).toNat) x19).set ((w64 (b+v17)).toNat) x21) (w64 (v17+1)))
      (some v16)
def slices_swapRangeCmpFunc_Rank_p (fuel:Nat) (data:List Rank) (a:Int) (b:Int) (n:Int) (cmp:Rank→Rank→Option Int):Option (List Rank) :=
  slices_swapRangeCmpFunc_Rank_l1 a b n fuel data 0
theorem slices_swapRangeCmpFunc_Rank_ok (fuel:Nat) (data:List Rank) (a:Int) (b:Int) (n:Int) (cmp_f:Nat) (cmp_c:List D) (cmp_k:cmp_c.all D.capOk=true) (cmp:Rank→Rank→Option Int) (cmp_h:∀ (a0:Rank) (a1:Rank) (q:Int),cmp a0 a1=some q→SpecR Tryz.prog cmp_f ([.g (encRank a0),.g (encRank a1)]++cmp_c) (.v (.int .i64 q))) (r:(List Rank)) (hH:slices_swapRangeCmpFunc_Rank_p fuel data a b n cmp=some r):SpecM Tryz.prog 143 [.w 3 (data.map encRank),a,b,n,.f cmp_f cmp_c] [.w 3 (r.map encRank),.u,.u,.u,.u] (.t []):=by
 have cmp_r:=cap_cfree cmp_k
 refine fn_okM T Tryz.func143 rfl (by decide) rfl (by simp [D.gOk,D.cellOk,cmp_k]) ?_
 intro L
 show AW _ _ _ (⟨[(0,.R 1),(1,a),(2,b),(3,n),(4,.f cmp_f cmp_c)],[(1,.row 3 (List.map encRank data))],38,[(1,L 1)]⟩:St)
 refine AW.seq (AW.region (AO.pu T ?_))
 refine AO.nil (AW.block ?_)
 refine AW.loopS (fun s:Nat × (List Rank) × Int=>(⟨[(0,.R 1),(1,a),(2,b),(3,n),(10,s.2.2)],[(1,.row 3 (List.map encRank s.2.1))],38,[(1,L 1)]⟩:St)) (fun s=>slices_swapRangeCmpFunc_Rank_l1 a b n s.1 s.2.1 s.2.2=some r) (fun s=>s.1) (fuel,data,0) hH ?_ ?_
 exact Le.ct 0 0 (hpin:=⟨⟨rfl,rfl⟩,trivial⟩)
 rintro ⟨k1,v16,v17⟩ hH
 replace hH:slices_swapRangeCmpFunc_Rank_l1 a b n k1 v16 v17=some r:=hH
 try dsimp only
 rcases k1 with _ | k1
 cases (show none=some _ from hH)
 rw [slices_swapRangeCmpFunc_Rank_l1] at hH
 iterate 2 refine AW.seq ?_
 refine AW.region ?_
 iterate 3 refine AO.pu T ?_
 refine AO.nil (AW.cond (b:=decide (v17 < n)) rfl (fun hc=>?_) (fun hc=>?_))
 replace hH:=condT hc hH
 refine AW.skip (AW.seq ?_)
 refine AW.block ?_
 obtain ⟨x19,hx20,hH⟩:=bindE hH
 obtain ⟨x21,hx22,hH⟩:=bindE hH
 obtain ⟨x23,hx24,hH⟩:=bindE hH
 refine AW.drawn 22 2 [1] mix (by kernel_rfl) rfl ?_
 iterate 3 refine AD.pure T rfl rfl rfl ?_
 refine AD.val rfl rfl (arw_ok rfl rfl rfl rfl) ?_
 iterate 3 refine AD.pure T rfl rfl rfl ?_
 refine AD.val rfl rfl (arw_ok rfl rfl rfl rfl) ?_
 iterate 3 refine AD.pure T rfl rfl rfl ?_
 refine AD.val rfl rfl (arw_ok rfl rfl rfl rfl) ?_
 refine AD.vald rfl rfl rfl (ix_row_ok T rfl rfl rfl rfl rfl rfl (hx20)) ?_
 refine AD.vald rfl rfl rfl (load_row_ok T rfl rfl rfl rfl (getI_get (hx20)) rfl rfl rfl) ?_
 iterate 3 refine AD.pure T rfl rfl rfl ?_
 refine AD.val rfl rfl (arw_ok rfl rfl rfl rfl) ?_
 refine AD.vald rfl rfl rfl (ix_row_ok T rfl rfl rfl rfl rfl rfl (hx22)) ?_
 refine AD.vald rfl rfl rfl (load_row_ok T rfl rfl rfl rfl (getI_get (hx22)) rfl rfl rfl) ?_
 refine AD.vald rfl rfl rfl (ix_row_ok T rfl rfl rfl rfl rfl rfl (hx22)) ?_
 refine AD.k rfl rfl (FStep.store_row T rfl rfl rfl rfl rfl rfl (getI_get (hx22)) rfl rfl rfl rfl (u':=x19) rfl rfl rfl) rfl rfl rfl ?_
 refine AD.nil (AO.val rfl rfl (ix_row_ok T rfl rfl rfl rfl rfl rfl (hx24)) ?_)
 refine AO.step rfl (store_row_ok T rfl rfl rfl rfl rfl (getI_get (hx24)) rfl rfl rfl rfl (u':=x21) rfl rfl) ?_
 refine AO.nil (AW.le (Le.ct 0 0 (σ':=(⟨[(0,.R 1),(1,a),(2,b),(3,n),(10,v17)],[(1,.row 3 (List.map encRank ((v16.set ((w64 (a+v17)).toNat) x19).set ((w64 (b+v17)).toNat) x21)))],38,[(1,L 1)]⟩:St)) (hpin:=⟨⟨rfl,rfl⟩,trivial⟩)) ?_)
 refine AW.region (AO.pu T ?_)
 refine AO.val rfl rfl (arw_ok rfl rfl rfl rfl) ?_
 refine AO.pu T ?_
 refine AO.nil ?_
 refine ⟨(k1,((v16.set ((w64 (a+v17)).toNat) x19).set ((w64 (b+v17)).toNat) x21),w64 (v17+1)),hH,Nat.lt_succ_self _,?_⟩
 exact Le.ct 0 0 (hpin:=⟨⟨rfl,rfl⟩,trivial⟩)
 replace hH:=condF hc hH
 refine AW.exit ?_
 have hR:=someE hH;subst hR
 exact ⟨trivial,rfl,_,[],[1],rfl,expLG_cons (.c (.rowR rfl)) (expLG_cons (.c .u) (expLG_cons (.c .u) (expLG_cons (.c .u) (expLG_cons (.c .u) (expLG_nil))))),.t expLG_nil,by decide⟩

def slices_rotateCmpFunc_Rank_l1 (m:Int) (cmp:Rank→Rank→Option Int) (fuel:Nat):Nat→List Rank→Int→Int→Option ((List Rank) × Int)
  | 0,_,_,_=>none
  | k24+1,v36,v37,v38 =>
    cond (v37 != v38)
      (cond (decide (v37 > v38))
        ((slices_swapRangeCmpFunc_Rank_p fuel v36 (w64 (m - v37)) m v38 cmp).bind fun x40 =>
        slices_rotateCmpFunc_Rank_l1 m cmp fuel k24 x40 (w64 (v37 - v38)) v38)
        ((slices_swapRangeCmpFunc_Rank_p fuel v36 (w64 (m - v37)) (w64 ((w64 (m+v38)) - v37)) v37 cmp).bind fun x42 =>
        slices_rotateCmpFunc_Rank_l1 m cmp fuel k24 x42 v37 (w64 (v38 - v37))))
      (some (v36,v37))
def slices_rotateCmpFunc_Rank_p (fuel:Nat) (data:List Rank) (a:Int) (m:Int) (b:Int) (cmp:Rank→Rank→Option Int):Option (List Rank) :=
  (slices_rotateCmpFunc_Rank_l1 m cmp fuel fuel data (w64 (m - a)) (w64 (b - m))).bind fun (v20,v21) =>
  (slices_swapRangeCmpFunc_Rank_p fuel v20 (w64 (m - v21)) m v21 cmp).bind fun x44 =>
  some x44
theorem slices_rotateCmpFunc_Rank_ok (fuel:Nat) (data:List Rank) (a:Int) (m:Int) (b:Int) (cmp_f:Nat) (cmp_c:List D) (cmp_k:cmp_c.all D.capOk=true) (cmp:Rank→Rank→Option Int) (cmp_h:∀ (a0:Rank) (a1:Rank) (q:Int),cmp a0 a1=some q→SpecR Tryz.prog cmp_f ([.g (encRank a0),.g (encRank a1)]++cmp_c) (.v (.int .i64 q))) (r:(List Rank)) (hH:slices_rotateCmpFunc_Rank_p fuel data a m b cmp=some r):SpecM Tryz.prog 128 [.w 3 (data.map encRank),a,m,b,.f cmp_f cmp_c] [.w 3 (r.map encRank),.u,.u,.u,.u] (.t []):=by
 have cmp_r:=cap_cfree cmp_k
 refine fn_okM T Tryz.func128 rfl (by decide) rfl (by simp [D.gOk,D.cellOk,cmp_k]) ?_
 intro L
 show AW _ _ _ (⟨[(0,.R 1),(1,a),(2,m),(3,b),(4,.f cmp_f cmp_c)],[(1,.row 3 (List.map encRank data))],58,[(1,L 1)]⟩:St)
 refine AW.seq (AW.region ?_)
 iterate 2 refine AO.pu T ?_
 refine AO.val rfl rfl (arw_ok rfl rfl rfl rfl) ?_
 refine AO.pu T ?_
 refine AO.nil (AW.seq (AW.region ?_))
 iterate 2 refine AO.pu T ?_
 refine AO.val rfl rfl (arw_ok rfl rfl rfl rfl) ?_
 refine AO.pu T ?_
 refine AO.nil ?_
 obtain ⟨o22,hH,hK23⟩:=bindE hH
 refine AW.seqJ (fun s:(List Rank) × Int=>(⟨[(0,.R 1),(2,m),(4,.f cmp_f cmp_c),(10,s.2)],[(1,.row 3 (List.map encRank s.1))],58,[(1,L 1)]⟩:St)) (fun s=>s=o22) ?_ ?_
 refine AW.block (AW.loopS (fun s:Nat × (List Rank) × Int × Int=>(⟨[(0,.R 1),(2,m),(4,.f cmp_f cmp_c),(10,s.2.2.1),(11,s.2.2.2)],[(1,.row 3 (List.map encRank s.2.1))],58,[(1,L 1)]⟩:St)) (fun s=>slices_rotateCmpFunc_Rank_l1 m cmp fuel s.1 s.2.1 s.2.2.1 s.2.2.2=some o22) (fun s=>s.1) (fuel,data,w64 (m - a),w64 (b - m)) hH ?_ ?_)
 exact Le.cut 0 0 rfl ⟨⟨_,rfl,rfl⟩,⟨_,rfl,rfl⟩,⟨_,rfl,ren_fF cmp_r⟩,⟨_,rfl,rfl⟩,⟨_,rfl,rfl⟩,trivial⟩ (by repeat' (first | exact trivial | refine ⟨⟨_,rfl,rfl⟩,?_⟩)) (andT (allC rfl (allC rfl (allC (known_fF cmp_r) (allC rfl (allC rfl allN))))) rfl) ⟨⟨rfl,rfl⟩,trivial⟩
 rintro ⟨k24,v36,v37,v38⟩ hH
 replace hH:slices_rotateCmpFunc_Rank_l1 m cmp fuel k24 v36 v37 v38=some o22:=hH
 try dsimp only
 rcases k24 with _ | k24
 cases (show none=some _ from hH)
 rw [slices_rotateCmpFunc_Rank_l1] at hH
 iterate 2 refine AW.seq ?_
 refine AW.region ?_
 iterate 3 refine AO.pu T ?_
 refine AO.nil (AW.cond (b:=(v37 != v38)) rfl (fun hc=>?_) (fun hc=>?_))
 replace hH:=condT hc hH
 refine AW.skip (AW.block ?_)
 refine AW.seq (AW.region ?_)
 iterate 3 refine AO.pu T ?_
 refine AO.nil (AW.cond (b:=decide (v37 > v38)) rfl (fun hc=>?_) (fun hc=>?_))
 replace hH:=condT hc hH
 refine AW.seq ?_
 obtain ⟨x40,hx41,hH⟩:=bindE hH
 refine AW.region ?_
 iterate 3 refine AO.pu T ?_
 refine AO.val rfl rfl (arw_ok rfl rfl rfl rfl) ?_
 iterate 3 refine AO.pu T ?_
 refine AO.step rfl (callM_ok rfl 2 rfl rfl (es:=[.w 3 (v36.map encRank),.v (.int .i64 (w64 (m - v37))),.v (.int .i64 m),.v (.int .i64 v38),.f cmp_f cmp_c]) (outs:=[.w 3 (x40.map encRank),.u,.u,.u,.u]) (ids:=[1]) (by exact expLG_cons (.c (.rowR rfl)) (expLG_cons (.c .v) (expLG_cons (.c .v) (expLG_cons (.c .v) (expLG_cons (.c (.f cmp_r)) (expLG_nil)))))) (by decide) (.inl (by rfl)) (by rfl) (slices_swapRangeCmpFunc_Rank_ok fuel _ _ _ _ cmp_f cmp_c cmp_k cmp cmp_h _ (hx41)) rfl (by rfl) rfl) ?_
 refine AO.nil (AW.region ?_)
 iterate 2 refine AO.pu T ?_
 refine AO.val rfl rfl (arw_ok rfl rfl rfl rfl) ?_
 refine AO.pu T ?_
 refine AO.nil ?_
 refine ⟨(k24,x40,w64 (v37 - v38),v38),hH,Nat.lt_succ_self _,?_⟩
 exact Le.cut 0 0 rfl ⟨⟨_,rfl,rfl⟩,⟨_,rfl,rfl⟩,⟨_,rfl,ren_fF cmp_r⟩,⟨_,rfl,rfl⟩,⟨_,rfl,rfl⟩,trivial⟩ (by repeat' (first | exact trivial | refine ⟨⟨_,rfl,rfl⟩,?_⟩)) (andT (allC rfl (allC rfl (allC (known_fF cmp_r) (allC rfl (allC rfl allN))))) rfl) ⟨⟨rfl,rfl⟩,trivial⟩
 replace hH:=condF hc hH
 refine AW.seq ?_
 obtain ⟨x42,hx43,hH⟩:=bindE hH
 refine AW.region ?_
 iterate 3 refine AO.pu T ?_
 refine AO.val rfl rfl (arw_ok rfl rfl rfl rfl) ?_
 iterate 2 refine AO.pu T ?_
 refine AO.val rfl rfl (arw_ok rfl rfl rfl rfl) ?_
 refine AO.pu T ?_
 refine AO.val rfl rfl (arw_ok rfl rfl rfl rfl) ?_
 iterate 2 refine AO.pu T ?_
 refine AO.step rfl (callM_ok rfl 2 rfl rfl (es:=[.w 3 (v36.map encRank),.v (.int .i64 (w64 (m - v37))),.v (.int .i64 (w64 ((w64 (m+v38)) - v37))),.v (.int .i64 v37),.f cmp_f cmp_c]) (outs:=[.w 3 (x42.map encRank),.u,.u,.u,.u]) (ids:=[1]) (by exact expLG_cons (.c (.rowR rfl)) (expLG_cons (.c .v) (expLG_cons (.c .v) (expLG_cons (.c .v) (expLG_cons (.c (.f cmp_r)) (expLG_nil)))))) (by decide) (.inl (by rfl)) (by rfl) (slices_swapRangeCmpFunc_Rank_ok fuel _ _ _ _ cmp_f cmp_c cmp_k cmp cmp_h _ (hx43)) rfl (by rfl) rfl) ?_
 refine AO.nil (AW.region ?_)
 iterate 2 refine AO.pu T ?_
 refine AO.val rfl rfl (arw_ok rfl rfl rfl rfl) ?_
 refine AO.pu T ?_
 refine AO.nil ?_
 refine ⟨(k24,x42,v37,w64 (v38 - v37)),hH,Nat.lt_succ_self _,?_⟩
 exact Le.cut 0 0 rfl ⟨⟨_,rfl,rfl⟩,⟨_,rfl,rfl⟩,⟨_,rfl,ren_fF cmp_r⟩,⟨_,rfl,rfl⟩,⟨_,rfl,rfl⟩,trivial⟩ (by repeat' (first | exact trivial | refine ⟨⟨_,rfl,rfl⟩,?_⟩)) (andT (allC rfl (allC rfl (allC (known_fF cmp_r) (allC rfl (allC rfl allN))))) rfl) ⟨⟨rfl,rfl⟩,trivial⟩
 replace hH:=condF hc hH
 refine AW.exit ?_
 refine ⟨_,someE hH,?_⟩
 exact Le.cut 0 0 rfl ⟨⟨_,rfl,rfl⟩,⟨_,rfl,rfl⟩,⟨_,rfl,ren_fF cmp_r⟩,⟨_,rfl,rfl⟩,trivial⟩ (by repeat' (first | exact trivial | refine ⟨⟨_,rfl,rfl⟩,?_⟩)) (andT (allC rfl (allC rfl (allC (known_fF cmp_r) (allC rfl allN)))) rfl) ⟨⟨rfl,rfl⟩,trivial⟩
 rintro ⟨v20,v21⟩ hs
 subst hs
 replace hH:=hK23
 try dsimp only [flow,flowE] at hH
 try dsimp only
 obtain ⟨x44,hx45,hH⟩:=bindE hH
 refine AW.region ?_
 iterate 3 refine AO.pu T ?_
 refine AO.val rfl rfl (arw_ok rfl rfl rfl rfl) ?_
 iterate 3 refine AO.pu T ?_
 refine AO.step rfl (callM_ok rfl 2 rfl rfl (es:=[.w 3 (v20.map encRank),.v (.int .i64 (w64 (m - v21))),.v (.int .i64 m),.v (.int .i64 v21),.f cmp_f cmp_c]) (outs:=[.w 3 (x44.map encRank),.u,.u,.u,.u]) (ids:=[1]) (by exact expLG_cons (.c (.rowR rfl)) (expLG_cons (.c .v) (expLG_cons (.c .v) (expLG_cons (.c .v) (expLG_cons (.c (.f cmp_r)) (expLG_nil)))))) (by decide) (.inl (by rfl)) (by rfl) (slices_swapRangeCmpFunc_Rank_ok fuel _ _ _ _ cmp_f cmp_c cmp_k cmp cmp_h _ (hx45)) rfl (by rfl) rfl) ?_
 refine AO.nil ?_
 have hR:=someE hH;subst hR
 exact ⟨trivial,rfl,_,[],[1],rfl,expLG_cons (.c (.rowR rfl)) (expLG_cons (.c .u) (expLG_cons (.c .u) (expLG_cons (.c .u) (expLG_cons (.c .u) (expLG_nil))))),.t expLG_nil,by decide⟩

end Go.Proofs.YtegdphhfimaieaaGreat

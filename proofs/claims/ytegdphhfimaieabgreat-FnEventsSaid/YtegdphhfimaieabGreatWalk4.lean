/- The walk, part 4: what each function reached by the law FnEvents computes. No condition. -/
import Derived.Test.YtegdphhfimaieabGreatWalk3
set_option maxRecDepth 4000
set_option maxHeartbeats 1000000
set_option linter.unusedVariables false
set_option linter.unusedSimpArgs false
set_option linter.unusedSectionVars false

namespace Go.Proofs.YtegdphhfimaieabGreat
open Go.AM

def spec_rkOrder_l2 (l:List Result) (fuel:Nat) (y2:Result) (v144:List Int):Nat→Int→Option Int
 | 0,_=>none
 | k228+1,v242 =>
  cond (decide (v242 > 0))
   ((getI v144 (w64 (v242 - 1))).bind fun x244 =>
   (getI l x244).bind fun x246 =>
   (spec_rkCompare_p fuel y2 x246).bind fun x248 =>
   cond (decide (x248 < 0) || ((x248 == 0) && decide (y2.skater > x246.skater)))
    (some v242)
    (spec_rkOrder_l2 l fuel y2 v144 k228 (w64 (v242 - 1))))
   (some v242)
def spec_rkOrder_l1 (l:List Result) (fuel:Nat):List Result→Nat→List Int→Option ((List Int))
 | [],k1,v144 =>
  some v144
 | y2::ys3,k1,v144 =>
  ((spec_rkOrder_l2 l fuel y2 v144 fuel (v144.length:Int)).bind fun v225 =>
  (sliceHi v144 v225).bind fun x250 =>
  (spec_l1Own_p x250).bind fun x252 =>
  (need (fitsB 8 (x252.length+([(k1:Int)]).length))).bind fun u254 =>
  (sliceLo v144 v225).bind fun x256 =>
  (need (fitsB 8 (((x252++[(k1:Int)])).length+x256.length))).bind fun u258 =>
  some ((x252++[(k1:Int)])++x256)).bind fun v201 =>
  spec_rkOrder_l1 l fuel ys3 (k1+1) v201
def spec_rkOrder_p (fuel:Nat) (l:List Result):Option (List Int) :=
 spec_rkOrder_l1 l fuel l 0 []
theorem spec_rkOrder_ok (fuel:Nat) (l:List Result) (r:(List Int)) (hH:spec_rkOrder_p fuel l=some r):SpecR Tryz.prog 75 [.s (List.map ze2 l)] (.w 1 (r.map ze0)):=by
 refine zFn T Tryz.func75 rfl (by decide) rfl ?_
 refine AW.q (AW.r (AO.pu T ?_))
 refine AO.n (AW.q (AW.r ?_))
 refine AO.pu T ?_
 refine AO.n ?_
 iterate 2 refine AW.q ?_
 refine AW.r (AO.pu T ?_)
 refine AO.v rfl rfl (zL T rfl rfl rfl) ?_
 refine AO.pu T ?_
 refine AO.n (AW.b ?_)
 refine AW.loopS (fun s:Nat × (List Int)=>(⟨[(0,.s (List.map ze2 l)),(3,.R 15),(8,.s (List.map ze2 l)),(9,(l.length:Int)),(10,(s.1:Int))],[(15,.row 1 (List.map ze0 s.2))],64,[]⟩:St)) (fun s=>s.1 ≤ l.length∧spec_rkOrder_l1 l fuel (l.drop s.1) s.1 s.2=some r) (fun s=>l.length - s.1) (0,[]) ⟨Nat.zero_le _,hH⟩ ?_ ?_
 refine Le.trans (Le.void 3 15 1 rfl rfl) ?_
 exact Le.ct 0 0
 rintro ⟨k1,v144⟩ ⟨hk,hH⟩
 replace hH:spec_rkOrder_l1 l fuel (l.drop k1) k1 v144=some r:=hH
 try dsimp only
 refine AW.boundM (t:=0) (l:=l) rfl (fun hb5=>?_)
 rcases hd4:l.drop k1 with _ | ⟨y2,ys3⟩
 rw [hd4,spec_rkOrder_l1] at hH
 have hlt6:=drop_ge hd4
 refine AW.q (AW.r (AO.pu T ?_))
 refine AO.n (AW.q (AW.condF' (b:=decide ((k1:Int) < (l.length:Int))) rfl (rngF hlt6) ?_))
 refine AW.exit (AW.q (AW.r ?_))
 iterate 2 refine AO.pu T ?_
 refine AO.n (AW.t ?_)
 have hR:=zS hH;subst hR
 exact retQ.i [15] rfl (.c (.c (.rowR rfl)))
 rw [hd4,spec_rkOrder_l1] at hH
 have hlt6:=drop_lt hd4
 refine AW.q (AW.r (AO.pu T ?_))
 refine AO.n (AW.q (AW.condT' (b:=decide ((k1:Int) < (l.length:Int))) rfl (rngT hlt6) ?_))
 refine AW.k ?_
 obtain ⟨o202,hH,hK203⟩:=zB hH
 refine AW.seqJ (fun s:List Int=>(⟨[(0,.s (List.map ze2 l)),(3,.R 25),(8,.s (List.map ze2 l)),(9,(l.length:Int)),(10,(k1:Int))],[(25,.row 1 (List.map ze0 s))],64,[]⟩:St)) (fun s=>s=o202) ?_ ?_
 refine AW.b (AW.q (AW.r ?_))
 refine AO.pu T ?_
 refine AO.v rfl rfl (zX T rfl rfl rfl rfl rfl (zgD hd4) rfl) ?_
 refine AO.pu T (d:=.g [y2.skater,.s (List.map ze0 y2.scores)]) ?_
 refine AO.s rfl (zA T rfl 26 rfl rfl rfl rfl rfl) ?_
 refine AO.pu T ?_
 refine AO.se T [y2.skater,.s (List.map ze0 y2.scores)] ?_
 refine AO.n (AW.q (AW.r ?_))
 refine AO.pu T ?_
 refine AO.v rfl rfl (len_row_ok T rfl rfl rfl rfl) ?_
 refine AO.pu T ?_
 refine AO.n ?_
 obtain ⟨o226,hH,hK227⟩:=zB hH
 refine AW.seqJ (fun s:Int=>(⟨[(0,.s (List.map ze2 l)),(3,.R 15),(4,(k1:Int)),(6,s),(8,.s (List.map ze2 l)),(9,(l.length:Int)),(10,(k1:Int))],[(15,.row 1 (List.map ze0 v144))],64,[]⟩:St)) (fun s=>s=o226) ?_ ?_
 refine AW.b (AW.loopS (fun s:Nat × Int=>(⟨[(0,.s (List.map ze2 l)),(3,.R 15),(4,(k1:Int)),(5,.p 26 0),(6,s.2),(8,.s (List.map ze2 l)),(9,(l.length:Int)),(10,(k1:Int))],[(15,.row 1 (List.map ze0 v144)),(26,.box [y2.skater,.s (List.map ze0 y2.scores)])],64,[]⟩:St)) (fun s=>spec_rkOrder_l2 l fuel y2 v144 s.1 s.2=some o226) (fun s=>s.1) (fuel,(v144.length:Int)) hH ?_ ?_)
 exact Le.ct 0 0
 rintro ⟨k228,v242⟩ hH
 replace hH:spec_rkOrder_l2 l fuel y2 v144 k228 v242=some o226:=hH
 try dsimp only
 rcases k228 with _ | k228
 cases (show none=some _ from hH)
 rw [spec_rkOrder_l2] at hH
 iterate 2 refine AW.q ?_
 refine AW.r ?_
 iterate 2 refine AO.pu T ?_
 refine AO.n (AW.c (b:=decide (v242 > 0)) rfl (fun hc=>?_) (fun hc=>?_))
 replace hH:=condT hc hH
 refine AW.k (AW.b ?_)
 refine AW.q ?_
 obtain ⟨x244,hx245,hH⟩:=zB hH
 obtain ⟨x246,hx247,hH⟩:=zB hH
 obtain ⟨x248,hx249,hH⟩:=zB hH
 refine AW.drawn 9 27 [] mix (by kernel_rfl) rfl ?_
 refine AD.p T (d:=.g [y2.skater,.s (List.map ze0 y2.scores)]) rfl rfl rfl ?_
 iterate 3 refine AD.p T rfl rfl rfl ?_
 refine AD.w rfl rfl (zW rfl rfl rfl rfl) ?_
 refine AD.w rfl rfl (zXr T rfl rfl rfl rfl rfl rfl (hx245)) ?_
 refine AD.w rfl rfl (zLr T rfl rfl rfl rfl (zgG (hx245)) rfl rfl rfl) ?_
 refine AD.w rfl rfl (zX T rfl rfl rfl rfl rfl (hx247) rfl) ?_
 refine AD.p T (d:=.g [x246.skater,.s (List.map ze0 x246.scores)]) rfl rfl rfl ?_
 refine AD.nil (AO.v rfl rfl (zV rfl rfl rfl rfl (spec_rkCompare_ok fuel _ _ _ (hx249)) rfl) ?_)
 refine AO.pu T ?_
 refine AO.n ?_
 iterate 2 refine AW.q ?_
 refine AW.drawn 17 27 [] mix (by kernel_rfl) rfl ?_
 iterate 3 refine AD.p T rfl rfl rfl ?_
 refine AD.pureG T [] rfl trivial rfl rfl ?_
 refine AD.pureG T [32] rfl ⟨fun h=>h,trivial⟩ rfl rfl ?_
 refine AD.pureG T [33] rfl ⟨fun h=>h,trivial⟩ rfl rfl ?_
 refine AD.pureG T [] rfl trivial rfl rfl ?_
 refine AD.pureG T [35] rfl ⟨fun h=>h,trivial⟩ rfl rfl ?_
 iterate 3 refine AD.pureG T [] rfl trivial rfl rfl ?_
 refine AD.guard [39] rfl ⟨fun h=>h,trivial⟩ (fun hg=>zW rfl rfl rfl rfl) rfl ?_
 refine AD.guard [38,40] rfl ⟨fun h=>h,fun h=>h,trivial⟩ (fun hg=>zXr T rfl rfl rfl rfl rfl rfl (hx245)) rfl ?_
 refine AD.guard [41] rfl ⟨fun h=>h,trivial⟩ (fun hg=>zLr T rfl rfl rfl rfl (zgG (hx245)) rfl rfl rfl) rfl ?_
 refine AD.guard [37,42] rfl ⟨fun h=>h,fun h=>h,trivial⟩ (fun hg=>zX T rfl rfl rfl rfl rfl (hx247) rfl) rfl ?_
 refine AD.pureG T [43] rfl ⟨fun h=>h,trivial⟩ rfl rfl ?_
 refine AD.pureG T [44] rfl ⟨fun h=>h,trivial⟩ rfl rfl ?_
 refine AD.nil (AO.g T [36,45] rfl ⟨fun h=>h,fun h=>h,trivial⟩ rfl rfl ?_)
 refine AO.d [34] rfl ⟨fun h=>h,trivial⟩ (fun hg=>zN rfl rfl rfl (by rw [hg];exact Bool.true_and _)) rfl ?_
 refine AO.v rfl rfl (zO rfl rfl rfl rfl) ?_
 refine AO.n (AW.le (Le.ct 0 0 (σ':=(⟨[(0,.s (List.map ze2 l)),(3,.R 15),(4,(k1:Int)),(5,.p 26 0),(6,v242),(8,.s (List.map ze2 l)),(9,(l.length:Int)),(10,(k1:Int)),(48,.v (.bool (decide (x248 < 0) || ((x248 == 0) && decide (y2.skater > x246.skater)))))],[(15,.row 1 (List.map ze0 v144)),(26,.box [y2.skater,.s (List.map ze0 y2.scores)])],64,[]⟩:St))) ?_)
 refine AW.c (b:=(decide (x248 < 0) || ((x248 == 0) && decide (y2.skater > x246.skater)))) rfl (fun hc=>?_) (fun hc=>?_)
 replace hH:=condT hc hH
 refine AW.exit ?_
 refine ⟨_,zS hH,?_⟩
 exact Le.ct 0 0
 replace hH:=condF hc hH
 refine AW.k (AW.r ?_)
 refine AO.pu T ?_
 refine AO.v rfl rfl (zW rfl rfl rfl rfl) ?_
 refine AO.pu T ?_
 refine AO.n ?_
 refine ⟨(k228,w64 (v242 - 1)),hH,Nat.lt_succ_self _,?_⟩
 exact Le.ct 0 0
 replace hH:=condF hc hH
 refine AW.exit ?_
 refine ⟨_,zS hH,?_⟩
 exact Le.ct 0 0
 rintro v225 hs
 subst hs
 replace hH:=hK227
 try dsimp only [flow,flowE] at hH
 try dsimp only
 obtain ⟨x250,hx251,hH⟩:=zB hH
 obtain ⟨x252,hx253,hH⟩:=zB hH
 obtain ⟨u254,hx255,hH⟩:=zB hH
 obtain ⟨x256,hx257,hH⟩:=zB hH
 obtain ⟨u258,hx259,hH⟩:=zB hH
 refine AW.le (Le.fM 15 (g:=ze0) rfl (fun y=>.vs rfl)) ?_
 refine AW.drawn 10 27 [] mix (by kernel_rfl) rfl ?_
 iterate 2 refine AD.p T rfl rfl rfl ?_
 refine AD.w rfl rfl (slice_hi_map_ok T rfl rfl rfl rfl rfl (hx251) (fun _=>rfl)) ?_
 refine AD.q (FStep.call rfl rfl rfl rfl rfl (spec_l1Own_ok _ _ (hx253)) rfl rfl) (impT_names _ _) (impT_le _ _) rfl ?_
 refine AD.p T rfl rfl rfl ?_
 refine AD.q (FStep.mk T (f:=ze0) (l:=[(k1:Int)]) rfl rfl rfl rfl rfl rfl rfl rfl rfl (fun _=>rfl) rfl rfl rfl rfl) (by simp [namesIn]) (Nat.le_succ _) rfl ?_
 refine AD.k rfl rfl (FStep.app_rv T rfl rfl rfl rfl rfl rfl rfl (by decide) rfl rfl rfl rfl (fun _=>rfl) (needT (hx255)) rfl) rfl rfl rfl ?_
 iterate 2 refine AD.p T rfl rfl rfl ?_
 refine AD.w rfl rfl (slice_lo_map_ok T rfl rfl rfl rfl rfl (hx257) (fun _=>rfl)) ?_
 refine AD.nil (AO.s rfl (app_rs_map T rfl 30 rfl rfl rfl rfl rfl (by decide) (by decide) rfl rfl rfl (fun _=>rfl) (needT (hx259)) rfl rfl) ?_)
 refine AO.pu T ?_
 refine AO.n ?_
 refine ⟨_,zS hH,?_⟩
 exact Le.ct 30 25
 rintro v201 hs
 subst hs
 replace hH:=hK203
 try dsimp only [flow,flowE] at hH
 try dsimp only
 refine AW.r (AO.v rfl rfl (zR rfl rfl rfl rfl (zK hlt6 hb5)) ?_)
 refine AO.pu T ?_
 refine AO.n ?_
 refine ⟨(k1+1,v201),⟨Nat.succ_le_of_lt hlt6,(by rw [zds hd4];exact hH)⟩,(by have:=hlt6;dsimp only;omega),?_⟩
 exact Le.ct 25 15

def spec_StandingsOf_l1 (e:Event) (fuel:Nat):List Int→Nat→List Int→List Int→Option (((List Int) × (List Int) × Bool))
 | [],k5,v29,v30 =>
  some (v29,v30,true)
 | y6::ys7,k5,v29,v30 =>
  (getI e.results y6).bind fun x32 =>
  (need (fitsB 8 (v29.length+([x32.skater]).length))).bind fun u34 =>
  (spec_rkPlace_p fuel e.results y6).bind fun x36 =>
  (need (fitsB 8 (v30.length+([x36]).length))).bind fun u38 =>
  spec_StandingsOf_l1 e fuel ys7 (k5+1) (v29++[x32.skater]) (v30++[x36])
def spec_StandingsOf_p (fuel:Nat) (e:Event):Option ((List Int) × (List Int) × Bool) :=
 (spec_evGood_p fuel e).bind fun x1 =>
 cond (!x1)
  (some ([],[],false))
  ((spec_rkOrder_p fuel e.results).bind fun x3 =>
  spec_StandingsOf_l1 e fuel x3 0 [] [])
theorem spec_StandingsOf_ok (fuel:Nat) (e:Event) (r:((List Int) × (List Int) × Bool)) (hH:spec_StandingsOf_p fuel e=some r):SpecR Tryz.prog 31 [.g (ze4 e)] (.t [.w 1 (r.1.map ze0),.w 1 (r.2.1.map ze0),.v (.bool r.2.2)]):=by
 refine zFn T Tryz.func31 rfl (by decide) rfl ?_
 refine AW.q (AW.r (AO.s rfl (zBx T rfl 1 rfl rfl rfl rfl) ?_))
 iterate 3 refine AO.pu T ?_
 refine AO.n ?_
 iterate 2 refine AW.q ?_
 obtain ⟨x1,hx2,hH⟩:=zB hH
 refine AW.r (AO.pu T (d:=.g [e.segments,e.size,e.key,.s (List.map ze1 e.entrants),.s (List.map ze0 e.gone),e.segment,.s (List.map ze0 e.order),.s (List.map ze2 e.results)]) ?_)
 refine AO.v rfl rfl (zV rfl rfl rfl rfl (spec_evGood_ok fuel _ _ (hx2)) rfl) ?_
 refine AO.pu T ?_
 refine AO.n (AW.c (b:=(!x1)) rfl (fun hc=>?_) (fun hc=>?_))
 replace hH:=condT hc hH
 refine AW.q (AW.r ?_)
 iterate 3 refine AO.pu T ?_
 refine AO.n (AW.t ?_)
 have hR:=zS hH;subst hR
 exact retQ.i [] rfl (.t (zG (.c .nil) (zG (.c .nil) (zG (.c .v) (zGn)))))
 replace hH:=condF hc hH
 refine AW.k (AW.q (AW.r ?_))
 iterate 2 refine AO.pu T ?_
 refine AO.n ?_
 iterate 2 refine AW.q ?_
 obtain ⟨x3,hx4,hH⟩:=zB hH
 refine AW.r ?_
 iterate 2 refine AO.pu T ?_
 refine AO.s rfl (call_ok rfl 2 rfl rfl rfl (spec_rkOrder_ok fuel _ _ (hx4)) rfl rfl rfl) ?_
 refine AO.v rfl rfl (len_row_ok T rfl rfl rfl rfl) ?_
 refine AO.pu T ?_
 refine AO.n (AW.b ?_)
 refine AW.loopS (fun s:Nat × (List Int) × (List Int)=>(⟨[(1,.p 1 0),(5,.R 8),(6,.R 10),(14,.R 2),(15,(x3.length:Int)),(16,(s.1:Int))],[(1,.box [e.segments,e.size,e.key,.s (List.map ze1 e.entrants),.s (List.map ze0 e.gone),e.segment,.s (List.map ze0 e.order),.s (List.map ze2 e.results)]),(2,.row 1 (List.map ze0 x3)),(8,.row 1 (List.map ze0 s.2.1)),(10,.row 1 (List.map ze0 s.2.2))],39,[]⟩:St)) (fun s=>s.1 ≤ x3.length∧spec_StandingsOf_l1 e fuel (x3.drop s.1) s.1 s.2.1 s.2.2=some r) (fun s=>x3.length - s.1) (0,[],[]) ⟨Nat.zero_le _,hH⟩ ?_ ?_
 refine Le.trans (Le.void 5 8 1 rfl rfl) ?_
 refine Le.trans (Le.void 6 10 1 rfl rfl) ?_
 exact Le.ct 0 0
 rintro ⟨k5,v29,v30⟩ ⟨hk,hH⟩
 replace hH:spec_StandingsOf_l1 e fuel (x3.drop k5) k5 v29 v30=some r:=hH
 try dsimp only
 refine AW.boundR (id:=2) (l:=x3) rfl (fun hb9=>?_)
 rcases hd8:x3.drop k5 with _ | ⟨y6,ys7⟩
 rw [hd8,spec_StandingsOf_l1] at hH
 have hlt10:=drop_ge hd8
 refine AW.q (AW.r (AO.pu T ?_))
 refine AO.n (AW.q (AW.condF' (b:=decide ((k5:Int) < (x3.length:Int))) rfl (rngF hlt10) ?_))
 refine AW.exit (AW.q (AW.r ?_))
 iterate 5 refine AO.pu T ?_
 refine AO.n (AW.t ?_)
 have hR:=zS hH;subst hR
 exact retQ.i [8,10] rfl (.t (zG (.c (.rowR rfl)) (zG (.c (.rowR rfl)) (zG (.c .v) (zGn)))))
 rw [hd8,spec_StandingsOf_l1] at hH
 have hlt10:=drop_lt hd8
 refine AW.q (AW.r (AO.pu T ?_))
 refine AO.n (AW.q (AW.condT' (b:=decide ((k5:Int) < (x3.length:Int))) rfl (rngT hlt10) ?_))
 refine AW.k (AW.q ?_)
 refine AW.b (AW.q (AW.r ?_))
 refine AO.v rfl rfl (zXr T rfl rfl rfl rfl rfl rfl (zgD hd8)) ?_
 refine AO.v rfl rfl (zLr T rfl rfl rfl rfl (zgG (zgD hd8)) rfl rfl rfl) ?_
 refine AO.pu T ?_
 refine AO.n (AW.q ?_)
 obtain ⟨x32,hx33,hH⟩:=zB hH
 obtain ⟨u34,hx35,hH⟩:=zB hH
 refine AW.r ?_
 iterate 4 refine AO.pu T ?_
 refine AO.v rfl rfl (zX T rfl rfl rfl rfl rfl (hx33) rfl) ?_
 iterate 2 refine AO.pu T ?_
 refine AO.s rfl (mk_map_ok T rfl 11 rfl rfl rfl rfl rfl (f:=ze0) (l:=[x32.skater]) rfl rfl (fun _=>rfl) rfl rfl rfl rfl rfl) ?_
 refine AO.s rfl (zAr T rfl 12 rfl rfl rfl rfl rfl (by decide) rfl rfl rfl rfl (fun _=>rfl) (needT (hx35)) rfl rfl) ?_
 refine AO.pu T ?_
 refine AO.n ?_
 obtain ⟨x36,hx37,hH⟩:=zB hH
 obtain ⟨u38,hx39,hH⟩:=zB hH
 refine AW.r ?_
 iterate 4 refine AO.pu T ?_
 refine AO.v rfl rfl (zV rfl rfl rfl rfl (spec_rkPlace_ok fuel _ _ _ (hx37)) rfl) ?_
 refine AO.s rfl (mk_map_ok T rfl 13 rfl rfl rfl rfl rfl (f:=ze0) (l:=[x36]) rfl rfl (fun _=>rfl) rfl rfl rfl rfl rfl) ?_
 refine AO.s rfl (zAr T rfl 14 rfl rfl rfl rfl rfl (by decide) rfl rfl rfl rfl (fun _=>rfl) (needT (hx39)) rfl rfl) ?_
 refine AO.pu T ?_
 refine AO.n (AW.r ?_)
 refine AO.v rfl rfl (zR rfl rfl rfl rfl (zK hlt10 hb9)) ?_
 refine AO.pu T ?_
 refine AO.n ?_
 refine ⟨(k5+1,(v29++[x32.skater]),(v30++[x36])),⟨Nat.succ_le_of_lt hlt10,(by rw [zds hd8];exact hH)⟩,(by have:=hlt10;dsimp only;omega),?_⟩
 refine Le.trans (Le.ct 12 8 (σ':=(⟨[(1,.p 1 0),(5,.R 8),(6,.R 14),(14,.R 2),(15,(x3.length:Int)),(16,((k5+1:Nat):Int))],[(1,.box [e.segments,e.size,e.key,.s (List.map ze1 e.entrants),.s (List.map ze0 e.gone),e.segment,.s (List.map ze0 e.order),.s (List.map ze2 e.results)]),(2,.row 1 (List.map ze0 x3)),(8,.row 1 (List.map ze0 (v29++[x32.skater]))),(14,.row 1 (List.map ze0 (v30++[x36])))],39,[]⟩:St))) ?_
 exact Le.ct 14 10

def impl_OrderOfResults_p (fuel:Nat) (l:List Result):Option ((List Int) × Bool) :=
 (impl_AreResults_p l).bind fun x1 =>
 cond (!x1)
  (some ([],false))
  ((impl_orderOf_p fuel l).bind fun x3 =>
  some (x3,true))
theorem impl_OrderOfResults_ok (fuel:Nat) (l:List Result) (r:((List Int) × Bool)) (hH:impl_OrderOfResults_p fuel l=some r):SpecR Tryz.prog 32 [.s (List.map ze2 l)] (.t [.w 1 (r.1.map ze0),.v (.bool r.2)]):=by
 refine zFn T Tryz.func32 rfl (by decide) rfl ?_
 refine AW.q (AW.r ?_)
 iterate 2 refine AO.pu T ?_
 refine AO.n ?_
 iterate 2 refine AW.q ?_
 obtain ⟨x1,hx2,hH⟩:=zB hH
 refine AW.r (AO.pu T ?_)
 refine AO.v rfl rfl (zV rfl rfl rfl rfl (impl_AreResults_ok _ _ (hx2)) rfl) ?_
 refine AO.pu T ?_
 refine AO.n (AW.c (b:=(!x1)) rfl (fun hc=>?_) (fun hc=>?_))
 replace hH:=condT hc hH
 refine AW.q (AW.r ?_)
 iterate 2 refine AO.pu T ?_
 refine AO.n (AW.t ?_)
 have hR:=zS hH;subst hR
 exact retQ.i [] rfl (.t (zG (.c .nil) (zG (.c .v) (zGn))))
 replace hH:=condF hc hH
 refine AW.k (AW.q ?_)
 obtain ⟨x3,hx4,hH⟩:=zB hH
 refine AW.r (AO.pu T ?_)
 refine AO.s rfl (call_ok rfl 1 rfl rfl rfl (impl_orderOf_ok fuel _ _ (hx4)) rfl rfl rfl) ?_
 iterate 2 refine AO.pu T ?_
 refine AO.n (AW.t ?_)
 have hR:=zS hH;subst hR
 exact retQ.i [1] rfl (.t (zG (.c (.rowR rfl)) (zG (.c .v) (zGn))))

def spec_OrderOfResults_p (fuel:Nat) (l:List Result):Option ((List Int) × Bool) :=
 (spec_rkGood_p l).bind fun x1 =>
 cond (!x1)
  (some ([],false))
  ((spec_rkOrder_p fuel l).bind fun x3 =>
  some (x3,true))
theorem spec_OrderOfResults_ok (fuel:Nat) (l:List Result) (r:((List Int) × Bool)) (hH:spec_OrderOfResults_p fuel l=some r):SpecR Tryz.prog 33 [.s (List.map ze2 l)] (.t [.w 1 (r.1.map ze0),.v (.bool r.2)]):=by
 refine zFn T Tryz.func33 rfl (by decide) rfl ?_
 refine AW.q (AW.r ?_)
 iterate 2 refine AO.pu T ?_
 refine AO.n ?_
 iterate 2 refine AW.q ?_
 obtain ⟨x1,hx2,hH⟩:=zB hH
 refine AW.r (AO.pu T ?_)
 refine AO.v rfl rfl (zV rfl rfl rfl rfl (spec_rkGood_ok _ _ (hx2)) rfl) ?_
 refine AO.pu T ?_
 refine AO.n (AW.c (b:=(!x1)) rfl (fun hc=>?_) (fun hc=>?_))
 replace hH:=condT hc hH
 refine AW.q (AW.r ?_)
 iterate 2 refine AO.pu T ?_
 refine AO.n (AW.t ?_)
 have hR:=zS hH;subst hR
 exact retQ.i [] rfl (.t (zG (.c .nil) (zG (.c .v) (zGn))))
 replace hH:=condF hc hH
 refine AW.k (AW.q ?_)
 obtain ⟨x3,hx4,hH⟩:=zB hH
 refine AW.r (AO.pu T ?_)
 refine AO.s rfl (call_ok rfl 1 rfl rfl rfl (spec_rkOrder_ok fuel _ _ (hx4)) rfl rfl rfl) ?_
 iterate 2 refine AO.pu T ?_
 refine AO.n (AW.t ?_)
 have hR:=zS hH;subst hR
 exact retQ.i [1] rfl (.t (zG (.c (.rowR rfl)) (zG (.c .v) (zGn))))

def spec_l1Cur_key_p (c:L1Cur):Option (L1Cur × Int) :=
 (spec_l1Cur_pick_p c 60000).bind fun x1 =>
 (spec_l1Cur_pick_p (L1Cur.mk x1.1.code x1.1.at' x1.1.seed) 60000).bind fun x3 =>
 (spec_l1Cur_pick_p (L1Cur.mk x3.1.code x3.1.at' x3.1.seed) 60000).bind fun x5 =>
 (spec_l1Cur_among_p (L1Cur.mk x5.1.code x5.1.at' x5.1.seed) ([1000000000,1000000001,(-1)]:List Int)).bind fun x7 =>
 (spec_l1Cur_among_p (L1Cur.mk x7.1.code x7.1.at' x7.1.seed) [0,1,x1.2,x3.2,x5.2,x7.2]).bind fun x9 =>
 some ((L1Cur.mk x9.1.code x9.1.at' x9.1.seed),x9.2)
theorem spec_l1Cur_key_ok (c:L1Cur) (r:(L1Cur × Int)) (hH:spec_l1Cur_key_p c=some r):SpecM Tryz.prog 79 [.pw (ze3 c)] [.pw (ze3 r.1)] (.v (.int .i64 r.2)):=by
 refine fn_okM T Tryz.func79 rfl (by decide) rfl rfl ?_
 intro L
 show AW _ _ _ (⟨[(0,.p 1 0)],[(1,.box [.s (List.map ze5 c.code),c.at',.v (.int .u64 c.seed)])],15,[(1,L 1)]⟩:St)
 refine AW.q (AW.r (AO.pu T ?_))
 refine AO.n (AW.q ?_)
 obtain ⟨x1,hx2,hH⟩:=zB hH
 obtain ⟨x3,hx4,hH⟩:=zB hH
 obtain ⟨x5,hx6,hH⟩:=zB hH
 obtain ⟨x7,hx8,hH⟩:=zB hH
 obtain ⟨x9,hx10,hH⟩:=zB hH
 refine AW.r ?_
 iterate 2 refine AO.pu T ?_
 refine AO.s rfl (zM rfl 2 rfl rfl (es:=[.pw (ze3 c),.v (.int .i64 60000)]) (outs:=[.pw (ze3 x1.1),.u]) (ids:=[1]) (by exact zG (.c (.box rfl rfl)) (zG (.c .v) (zGn))) (by decide) (.inl (by rfl)) (by rfl) (spec_l1Cur_pick_ok _ _ _ (hx2)) rfl (by rfl) rfl) ?_
 refine AO.pu T ?_
 refine AO.s rfl (zM rfl 2 rfl rfl (es:=[.pw (ze3 (L1Cur.mk x1.1.code x1.1.at' x1.1.seed)),.v (.int .i64 60000)]) (outs:=[.pw (ze3 x3.1),.u]) (ids:=[1]) (by exact zG (.c (.box rfl rfl)) (zG (.c .v) (zGn))) (by decide) (.inl (by rfl)) (by rfl) (spec_l1Cur_pick_ok _ _ _ (hx4)) rfl (by rfl) rfl) ?_
 refine AO.pu T ?_
 refine AO.s rfl (zM rfl 2 rfl rfl (es:=[.pw (ze3 (L1Cur.mk x3.1.code x3.1.at' x3.1.seed)),.v (.int .i64 60000)]) (outs:=[.pw (ze3 x5.1),.u]) (ids:=[1]) (by exact zG (.c (.box rfl rfl)) (zG (.c .v) (zGn))) (by decide) (.inl (by rfl)) (by rfl) (spec_l1Cur_pick_ok _ _ _ (hx6)) rfl (by rfl) rfl) ?_
 refine AO.pu T ?_
 refine AO.s rfl (mk_map_ok T rfl 2 rfl rfl rfl rfl rfl (f:=ze0) (l:=([1000000000,1000000001,(-1)]:List Int)) rfl rfl (fun _=>rfl) rfl rfl rfl rfl rfl) ?_
 refine AO.le (Le.fM 2 (g:=ze0) rfl (fun y=>.vs rfl)) ?_
 refine AO.s rfl (zM rfl 3 rfl rfl (es:=[.pw (ze3 (L1Cur.mk x5.1.code x5.1.at' x5.1.seed)),.s (([1000000000,1000000001,(-1)]:List Int).map ze0)]) (outs:=[.pw (ze3 x7.1),.u]) (ids:=[1]) (by exact zG (.c (.box rfl rfl)) (zG (.c .s) (zGn))) (by decide) (.inl (by rfl)) (by rfl) (spec_l1Cur_among_ok _ _ _ (hx8)) rfl (by rfl) rfl) ?_
 refine AO.s rfl (mk_map_ok T rfl 3 rfl rfl rfl rfl rfl (f:=ze0) (l:=[0,1,x1.2,x3.2,x5.2,x7.2]) rfl rfl (fun _=>rfl) rfl rfl rfl rfl rfl) ?_
 refine AO.le (Le.fM 3 (g:=ze0) rfl (fun y=>.vs rfl)) ?_
 refine AO.s rfl (zM rfl 4 rfl rfl (es:=[.pw (ze3 (L1Cur.mk x7.1.code x7.1.at' x7.1.seed)),.s ([0,1,x1.2,x3.2,x5.2,x7.2].map ze0)]) (outs:=[.pw (ze3 x9.1),.u]) (ids:=[1]) (by exact zG (.c (.box rfl rfl)) (zG (.c .s) (zGn))) (by decide) (.inl (by rfl)) (by rfl) (spec_l1Cur_among_ok _ _ _ (hx10)) rfl (by rfl) rfl) ?_
 refine AO.pu T ?_
 refine AO.n (AW.t ?_)
 have hR:=zS hH;subst hR
 exact ⟨trivial,rfl,_,[],[1],rfl,zG (.c (.box rfl rfl)) (zGn),.c (.c .v),by decide⟩

def spec_DrawNewEvent_p (code:List Int):Option (Int × Int × Int) :=
 (spec_l1Cur_pick_p (L1Cur.mk code 0 0) 5).bind fun x1 =>
 (spec_l1Cur_pick_p (L1Cur.mk x1.1.code x1.1.at' x1.1.seed) 10).bind fun x3 =>
 (spec_l1Cur_key_p (L1Cur.mk x3.1.code x3.1.at' x3.1.seed)).bind fun x5 =>
 some (x1.2,x3.2,x5.2)
theorem spec_DrawNewEvent_ok (code:List Int) (r:(Int × Int × Int)) (hH:spec_DrawNewEvent_p code=some r):SpecR Tryz.prog 34 [.s (List.map ze5 code)] (.t [.v (.int .i64 r.1),.v (.int .i64 r.2.1),.v (.int .i64 r.2.2)]):=by
 refine zFn T Tryz.func34 rfl (by decide) rfl ?_
 refine AW.q (AW.r ?_)
 iterate 3 refine AO.pu T ?_
 refine AO.n (AW.q (AW.r ?_))
 refine AO.pu T ?_
 refine AO.pu T (d:=.g [.s (List.map ze5 code),(0:Int),.v (.int .u64 0)]) ?_
 refine AO.s rfl (zBx T rfl 1 rfl rfl rfl rfl) ?_
 refine AO.pu T ?_
 refine AO.n (AW.q ?_)
 obtain ⟨x1,hx2,hH⟩:=zB hH
 obtain ⟨x3,hx4,hH⟩:=zB hH
 obtain ⟨x5,hx6,hH⟩:=zB hH
 refine AW.r (AO.pu T ?_)
 refine AO.s rfl (zM rfl 2 rfl rfl (es:=[.pw (ze3 (L1Cur.mk code 0 0)),.v (.int .i64 5)]) (outs:=[.pw (ze3 x1.1),.u]) (ids:=[1]) (by exact zG (.c (.box rfl rfl)) (zG (.c .v) (zGn))) (by decide) (.inl (by rfl)) (by rfl) (spec_l1Cur_pick_ok _ _ _ (hx2)) rfl (by rfl) rfl) ?_
 refine AO.pu T ?_
 refine AO.s rfl (zM rfl 2 rfl rfl (es:=[.pw (ze3 (L1Cur.mk x1.1.code x1.1.at' x1.1.seed)),.v (.int .i64 10)]) (outs:=[.pw (ze3 x3.1),.u]) (ids:=[1]) (by exact zG (.c (.box rfl rfl)) (zG (.c .v) (zGn))) (by decide) (.inl (by rfl)) (by rfl) (spec_l1Cur_pick_ok _ _ _ (hx4)) rfl (by rfl) rfl) ?_
 refine AO.pu T ?_
 refine AO.s rfl (zM rfl 2 rfl rfl (es:=[.pw (ze3 (L1Cur.mk x3.1.code x3.1.at' x3.1.seed))]) (outs:=[.pw (ze3 x5.1)]) (ids:=[1]) (by exact zG (.c (.box rfl rfl)) (zGn)) (by decide) (.inl (by rfl)) (by rfl) (spec_l1Cur_key_ok _ _ (hx6)) rfl (by rfl) rfl) ?_
 iterate 3 refine AO.pu T ?_
 refine AO.n (AW.t ?_)
 have hR:=zS hH;subst hR
 exact retQ.i [] rfl (.t (zG (.c .v) (zG (.c .v) (zG (.c .v) (zGn)))))

def impl_NewEvent_p (segments:Int) (size:Int) (key:Int):Option (Event × Bool) :=
 (impl_within_p segments 1 3).bind fun x1 =>
 (opt (!(!x1)) default (impl_isGroupSize_p size)).bind fun x3 =>
 (opt (!((!x1) || (!x3))) default (impl_isKey_p key)).bind fun x5 =>
 cond (((!x1) || (!x3)) || (!x5))
  (some ((Event.mk 0 0 0 [] [] 0 [] []),false))
  (some ((Event.mk segments size key [] [] 0 [] []),true))
theorem impl_NewEvent_ok (segments:Int) (size:Int) (key:Int) (r:(Event × Bool)) (hH:impl_NewEvent_p segments size key=some r):SpecR Tryz.prog 35 [segments,size,key] (.t [.g (ze10 r.1),.v (.bool r.2)]):=by
 refine zFn T Tryz.func35 rfl (by decide) rfl ?_
 refine AW.q (AW.r (AO.s rfl (zA T rfl 1 rfl rfl rfl rfl rfl) ?_))
 refine AO.pu T ?_
 refine AO.n ?_
 iterate 2 refine AW.q ?_
 obtain ⟨x1,hx2,hH⟩:=zB hH
 obtain ⟨x3,hx4,hH⟩:=zB hH
 obtain ⟨x5,hx6,hH⟩:=zB hH
 refine AW.r (AO.pu T ?_)
 refine AO.v rfl rfl (zV rfl rfl rfl rfl (impl_within_ok _ _ _ _ (hx2)) rfl) ?_
 iterate 2 refine AO.pu T ?_
 refine AO.g T [] rfl trivial rfl rfl ?_
 refine AO.d [12] rfl ⟨fun h=>h,trivial⟩ (fun hg=>zV rfl rfl rfl rfl (impl_isGroupSize_ok _ _ (optT hx4 hg)) rfl) rfl ?_
 refine AO.g T [13] rfl ⟨fun h=>h,trivial⟩ rfl rfl ?_
 refine AO.v rfl rfl (zO rfl rfl rfl rfl) ?_
 refine AO.pu T ?_
 refine AO.g T [] rfl trivial rfl rfl ?_
 refine AO.d [17] rfl ⟨fun h=>h,trivial⟩ (fun hg=>zV rfl rfl rfl rfl (impl_isKey_ok _ _ (optT hx6 hg)) rfl) rfl ?_
 refine AO.g T [18] rfl ⟨fun h=>h,trivial⟩ rfl rfl ?_
 refine AO.v rfl rfl (zO rfl rfl rfl rfl) ?_
 refine AO.n (AW.c (b:=(((!x1) || (!x3)) || (!x5))) rfl (fun hc=>?_) (fun hc=>?_))
 replace hH:=condT hc hH
 refine AW.q (AW.r (AO.pu T (d:=.g [(0:Int),(0:Int),(0:Int),.w 0 [],.w 0 [],(0:Int),.w 0 [],.w 0 []]) ?_))
 refine AO.se T [(0:Int),(0:Int),(0:Int),.w 0 [],.w 0 [],(0:Int),.w 0 [],.w 0 []] ?_
 refine AO.pu T ?_
 refine AO.n (AW.t ?_)
 have hR:=zS hH;subst hR
 exact retQ.i [] rfl (.t (zG (.g (zC .v (zC .v (zC .v (zC .nil (zC .nil (zC .v (zC .nil (zC .nil (zCn)))))))))) (zG (.c .v) (zGn))))
 replace hH:=condF hc hH
 refine AW.k (AW.q (AW.r ?_))
 iterate 3 refine AO.pu T ?_
 iterate 4 refine AO.s rfl (mk0_ok T rfl rfl rfl rfl) ?_
 refine AO.pu T (d:=.g [segments,size,key,.w 2 [],.w 1 [],(0:Int),.w 1 [],.w 2 []]) ?_
 refine AO.se T [segments,size,key,.w 2 [],.w 1 [],(0:Int),.w 1 [],.w 2 []] ?_
 refine AO.pu T ?_
 refine AO.n (AW.le (Le.ct 0 0 (σ':=(⟨[(6,.p 1 0),(7,.v (.bool true))],[(1,.box [segments,size,key,.w 2 [],.w 1 [],(0:Int),.w 1 [],.w 2 []])],30,[]⟩:St))) ?_)
 refine AW.t ?_
 have hR:=zS hH;subst hR
 exact retQ.i [] rfl (.t (zG (.g (zC .v (zC .v (zC .v (zC .nil (zC .nil (zC .v (zC .nil (zC .nil (zCn)))))))))) (zG (.c .v) (zGn))))

def spec_NewEvent_p (fuel:Nat) (segments:Int) (size:Int) (key:Int):Option (Event × Bool) :=
 (spec_evGood_p fuel (Event.mk segments size key [] [] 0 [] [])).bind fun x1 =>
 cond (!x1)
  (some ((Event.mk 0 0 0 [] [] 0 [] []),false))
  (some ((Event.mk segments size key [] [] 0 [] []),true))
theorem spec_NewEvent_ok (fuel:Nat) (segments:Int) (size:Int) (key:Int) (r:(Event × Bool)) (hH:spec_NewEvent_p fuel segments size key=some r):SpecR Tryz.prog 36 [segments,size,key] (.t [.g (encEventH r.1),.v (.bool r.2)]):=by
 refine zFn T Tryz.func36 rfl (by decide) rfl ?_
 refine AW.q (AW.r (AO.s rfl (zA T rfl 1 rfl rfl rfl rfl rfl) ?_))
 refine AO.pu T ?_
 refine AO.n (AW.q (AW.r ?_))
 iterate 3 refine AO.pu T ?_
 refine AO.pu T (d:=.g [segments,size,key,.w 0 [],.w 0 [],(0:Int),.w 0 [],.w 0 []]) ?_
 refine AO.s rfl (zA T rfl 2 rfl rfl rfl rfl rfl) ?_
 refine AO.se T [segments,size,key,.w 0 [],.w 0 [],(0:Int),.w 0 [],.w 0 []] ?_
 refine AO.n ?_
 iterate 2 refine AW.q ?_
 obtain ⟨x1,hx2,hH⟩:=zB hH
 refine AW.r (AO.pu T (d:=.g [segments,size,key,.w 0 [],.w 0 [],(0:Int),.w 0 [],.w 0 []]) ?_)
 refine AO.v rfl rfl (callXV_ok rfl rfl rfl (es:=[.g (ze4 (Event.mk segments size key [] [] 0 [] []))]) (by exact PlainL.cons (.g (.cons (.free rfl) (.cons (.free rfl) (.cons (.free rfl) (.cons .nil (.cons .nil (.cons (.free rfl) (.cons .nil (.cons .nil (.nil)))))))))) (PlainL.nil)) (spec_evGood_ok fuel _ _ (hx2)) rfl) ?_
 refine AO.pu T ?_
 refine AO.n (AW.c (b:=(!x1)) rfl (fun hc=>?_) (fun hc=>?_))
 replace hH:=condT hc hH
 refine AW.q (AW.r (AO.pu T (d:=.g [(0:Int),(0:Int),(0:Int),.w 0 [],.w 0 [],(0:Int),.w 0 [],.w 0 []]) ?_))
 refine AO.se T [(0:Int),(0:Int),(0:Int),.w 0 [],.w 0 [],(0:Int),.w 0 [],.w 0 []] ?_
 refine AO.pu T ?_
 refine AO.n (AW.t ?_)
 have hR:=zS hH;subst hR
 exact retQ.i [] rfl (.t (zG (.g (zC .v (zC .v (zC .v (zC .nil (zC .nil (zC .v (zC .nil (zC .nil (zCn)))))))))) (zG (.c .v) (zGn))))
 replace hH:=condF hc hH
 refine AW.k (AW.q (AW.r ?_))
 refine AO.pu T (d:=.g [segments,size,key,.w 0 [],.w 0 [],(0:Int),.w 0 [],.w 0 []]) ?_
 refine AO.se T [segments,size,key,.w 0 [],.w 0 [],(0:Int),.w 0 [],.w 0 []] ?_
 refine AO.pu T ?_
 refine AO.n (AW.t ?_)
 have hR:=zS hH;subst hR
 exact retQ.i [] rfl (.t (zG (.g (zC .v (zC .v (zC .v (zC .nil (zC .nil (zC .v (zC .nil (zC .nil (zCn)))))))))) (zG (.c .v) (zGn))))

def laws_FnEvents_l1 (more:List Int) (fuel:Nat) (x29:Event) (x33:((List Int) × (List Int) × Bool)):List Int→Nat→Option Bool
 | [],k45 =>
  (spec_DrawNewEvent_p more).bind fun x68 =>
  (impl_NewEvent_p x68.1 x68.2.1 x68.2.2).bind fun x70 =>
  (spec_NewEvent_p fuel x68.1 x68.2.1 x68.2.2).bind fun x72 =>
  (opt (x70.2 == x72.2) default (laws_pSameEvent_p (Event.mk x70.1.segments x70.1.size x70.1.key x70.1.entrants x70.1.gone x70.1.segment x70.1.order x70.1.results) (Event.mk x72.1.segments x72.1.size x72.1.key x72.1.entrants x72.1.gone x72.1.segment x72.1.order x72.1.results))).bind fun x74 =>
  (opt (((x70.2 == x72.2) && x74) && (!(!x70.2))) default (impl_IsEvent_p (Event.mk x70.1.segments x70.1.size x70.1.key x70.1.entrants x70.1.gone x70.1.segment x70.1.order x70.1.results))).bind fun x76 =>
  some (((x70.2 == x72.2) && x74) && ((!x70.2) || x76))
 | y46::ys47,k45 =>
  (getI x29.results y46).bind fun x78 =>
  (getI x33.1 (k45:Int)).bind fun x80 =>
  (opt ((!(x78.skater != x80)) && decide ((k45:Int) > 0)) default (getI x33.2.1 (k45:Int))).bind fun x82 =>
  (opt ((!(x78.skater != x80)) && decide ((k45:Int) > 0)) default (getI x33.2.1 (w64 ((k45:Int) - 1)))).bind fun x84 =>
  cond ((x78.skater != x80) || (decide ((k45:Int) > 0) && decide (x82 < x84)))
   (some false)
   (laws_FnEvents_l1 more fuel x29 x33 ys47 (k45+1))
def laws_FnEvents_l2 (more:List Int) (fuel:Nat) (x96:Event) (x100:((List Int) × (List Int) × Bool)):List Int→Nat→Option Bool
 | [],k112 =>
  (spec_DrawNewEvent_p more).bind fun x135 =>
  (impl_NewEvent_p x135.1 x135.2.1 x135.2.2).bind fun x137 =>
  (spec_NewEvent_p fuel x135.1 x135.2.1 x135.2.2).bind fun x139 =>
  (opt (x137.2 == x139.2) default (laws_pSameEvent_p (Event.mk x137.1.segments x137.1.size x137.1.key x137.1.entrants x137.1.gone x137.1.segment x137.1.order x137.1.results) (Event.mk x139.1.segments x139.1.size x139.1.key x139.1.entrants x139.1.gone x139.1.segment x139.1.order x139.1.results))).bind fun x141 =>
  (opt (((x137.2 == x139.2) && x141) && (!(!x137.2))) default (impl_IsEvent_p (Event.mk x137.1.segments x137.1.size x137.1.key x137.1.entrants x137.1.gone x137.1.segment x137.1.order x137.1.results))).bind fun x143 =>
  some (((x137.2 == x139.2) && x141) && ((!x137.2) || x143))
 | y113::ys114,k112 =>
  (getI x96.results y113).bind fun x145 =>
  (getI x100.1 (k112:Int)).bind fun x147 =>
  (opt ((!(x145.skater != x147)) && decide ((k112:Int) > 0)) default (getI x100.2.1 (k112:Int))).bind fun x149 =>
  (opt ((!(x145.skater != x147)) && decide ((k112:Int) > 0)) default (getI x100.2.1 (w64 ((k112:Int) - 1)))).bind fun x151 =>
  cond ((x145.skater != x147) || (decide ((k112:Int) > 0) && decide (x149 < x151)))
   (some false)
   (laws_FnEvents_l2 more fuel x96 x100 ys114 (k112+1))
def laws_FnEvents_l3 (more:List Int) (fuel:Nat) (x163:Event) (x167:((List Int) × (List Int) × Bool)):List Int→Nat→Option Bool
 | [],k179 =>
  (spec_DrawNewEvent_p more).bind fun x202 =>
  (impl_NewEvent_p x202.1 x202.2.1 x202.2.2).bind fun x204 =>
  (spec_NewEvent_p fuel x202.1 x202.2.1 x202.2.2).bind fun x206 =>
  (opt (x204.2 == x206.2) default (laws_pSameEvent_p (Event.mk x204.1.segments x204.1.size x204.1.key x204.1.entrants x204.1.gone x204.1.segment x204.1.order x204.1.results) (Event.mk x206.1.segments x206.1.size x206.1.key x206.1.entrants x206.1.gone x206.1.segment x206.1.order x206.1.results))).bind fun x208 =>
  (opt (((x204.2 == x206.2) && x208) && (!(!x204.2))) default (impl_IsEvent_p (Event.mk x204.1.segments x204.1.size x204.1.key x204.1.entrants x204.1.gone x204.1.segment x204.1.order x204.1.results))).bind fun x210 =>
  some (((x204.2 == x206.2) && x208) && ((!x204.2) || x210))
 | y180::ys181,k179 =>
  (getI x163.results y180).bind fun x212 =>
  (getI x167.1 (k179:Int)).bind fun x214 =>
  (opt ((!(x212.skater != x214)) && decide ((k179:Int) > 0)) default (getI x167.2.1 (k179:Int))).bind fun x216 =>
  (opt ((!(x212.skater != x214)) && decide ((k179:Int) > 0)) default (getI x167.2.1 (w64 ((k179:Int) - 1)))).bind fun x218 =>
  cond ((x212.skater != x214) || (decide ((k179:Int) > 0) && decide (x216 < x218)))
   (some false)
   (laws_FnEvents_l3 more fuel x163 x167 ys181 (k179+1))
def laws_FnEvents_p (fuel:Nat) (code:List Int) (more:List Int):Option Bool :=
 (laws_big_p code more).bind fun x1 =>
 cond x1
  (some true)
  ((spec_DrawRunSteps_p fuel code).bind fun x3 =>
  (impl_RunSteps_p fuel (Event.mk x3.1.segments x3.1.size x3.1.key x3.1.entrants x3.1.gone x3.1.segment x3.1.order x3.1.results) x3.2).bind fun x5 =>
  (spec_RunSteps_p fuel (Event.mk x3.1.segments x3.1.size x3.1.key x3.1.entrants x3.1.gone x3.1.segment x3.1.order x3.1.results) x3.2).bind fun x7 =>
  (opt (!(!(x5.2.2 == x7.2.2))) default (laws_pSameEvent_p (Event.mk x5.1.segments x5.1.size x5.1.key x5.1.entrants x5.1.gone x5.1.segment x5.1.order x5.1.results) (Event.mk x7.1.segments x7.1.size x7.1.key x7.1.entrants x7.1.gone x7.1.segment x7.1.order x7.1.results))).bind fun x9 =>
  cond (((!(x5.2.2 == x7.2.2)) || (!x9)) || (x5.2.1 != x7.2.1))
   (some false)
   (cond x5.2.2
    ((need (2 != 0)).bind fun u11 =>
    (sliceHi x3.2 (w64 (x7.2.1.tdiv 2))).bind fun x13 =>
    (impl_RunSteps_p fuel (Event.mk x3.1.segments x3.1.size x3.1.key x3.1.entrants x3.1.gone x3.1.segment x3.1.order x3.1.results) x13).bind fun x15 =>
    (sliceLH x3.2 (w64 (x7.2.1.tdiv 2)) x7.2.1).bind fun x17 =>
    (impl_RunSteps_p fuel (Event.mk x15.1.segments x15.1.size x15.1.key x15.1.entrants x15.1.gone x15.1.segment x15.1.order x15.1.results) x17).bind fun x19 =>
    (impl_IsEvent_p (Event.mk x5.1.segments x5.1.size x5.1.key x5.1.entrants x5.1.gone x5.1.segment x5.1.order x5.1.results)).bind fun x21 =>
    (opt (!(((((!x21) || (!x15.2.2)) || (x15.2.1 != (w64 (x7.2.1.tdiv 2)))) || (!x19.2.2)) || (x19.2.1 != (w64 (x7.2.1 - (w64 (x7.2.1.tdiv 2))))))) default (laws_pSameEvent_p (Event.mk x19.1.segments x19.1.size x19.1.key x19.1.entrants x19.1.gone x19.1.segment x19.1.order x19.1.results) (Event.mk x7.1.segments x7.1.size x7.1.key x7.1.entrants x7.1.gone x7.1.segment x7.1.order x7.1.results))).bind fun x23 =>
    cond ((((((!x21) || (!x15.2.2)) || (x15.2.1 != (w64 (x7.2.1.tdiv 2)))) || (!x19.2.2)) || (x19.2.1 != (w64 (x7.2.1 - (w64 (x7.2.1.tdiv 2)))))) || (!x23))
     (some false)
     (cond (decide (x7.2.1 < (x3.2.length:Int)))
      ((sliceLH x3.2 x7.2.1 (w64 (x7.2.1+1))).bind fun x25 =>
      (impl_RunSteps_p fuel (Event.mk x5.1.segments x5.1.size x5.1.key x5.1.entrants x5.1.gone x5.1.segment x5.1.order x5.1.results) x25).bind fun x27 =>
      cond ((!x27.2.2) || (x27.2.1 != 0))
       (some false)
       ((spec_DrawStandingsOf_p fuel more).bind fun x29 =>
       (impl_StandingsOf_p fuel x29).bind fun x31 =>
       (spec_StandingsOf_p fuel x29).bind fun x33 =>
       (opt (!(!(x31.2.2 == x33.2.2))) default (laws_sameInts_p x31.1 x33.1)).bind fun x35 =>
       (opt (!((!(x31.2.2 == x33.2.2)) || (!x35))) default (laws_sameInts_p x31.2.1 x33.2.1)).bind fun x37 =>
       cond (((!(x31.2.2 == x33.2.2)) || (!x35)) || (!x37))
        (some false)
        (cond x31.2.2
         ((impl_OrderOfResults_p fuel x29.results).bind fun x39 =>
         (spec_OrderOfResults_p fuel x29.results).bind fun x41 =>
         (opt (!((!x39.2) || (!x41.2))) default (laws_sameInts_p x39.1 x41.1)).bind fun x43 =>
         cond (((((!x39.2) || (!x41.2)) || (!x43)) || ((x41.1.length:Int) != (x33.1.length:Int))) || ((x33.2.1.length:Int) != (x33.1.length:Int)))
          (some false)
          (laws_FnEvents_l1 more fuel x29 x33 x41.1 0))
         ((spec_DrawNewEvent_p more).bind fun x86 =>
         (impl_NewEvent_p x86.1 x86.2.1 x86.2.2).bind fun x88 =>
         (spec_NewEvent_p fuel x86.1 x86.2.1 x86.2.2).bind fun x90 =>
         (opt (x88.2 == x90.2) default (laws_pSameEvent_p (Event.mk x88.1.segments x88.1.size x88.1.key x88.1.entrants x88.1.gone x88.1.segment x88.1.order x88.1.results) (Event.mk x90.1.segments x90.1.size x90.1.key x90.1.entrants x90.1.gone x90.1.segment x90.1.order x90.1.results))).bind fun x92 =>
         (opt (((x88.2 == x90.2) && x92) && (!(!x88.2))) default (impl_IsEvent_p (Event.mk x88.1.segments x88.1.size x88.1.key x88.1.entrants x88.1.gone x88.1.segment x88.1.order x88.1.results))).bind fun x94 =>
         some (((x88.2 == x90.2) && x92) && ((!x88.2) || x94))))))
      ((spec_DrawStandingsOf_p fuel more).bind fun x96 =>
      (impl_StandingsOf_p fuel x96).bind fun x98 =>
      (spec_StandingsOf_p fuel x96).bind fun x100 =>
      (opt (!(!(x98.2.2 == x100.2.2))) default (laws_sameInts_p x98.1 x100.1)).bind fun x102 =>
      (opt (!((!(x98.2.2 == x100.2.2)) || (!x102))) default (laws_sameInts_p x98.2.1 x100.2.1)).bind fun x104 =>
      cond (((!(x98.2.2 == x100.2.2)) || (!x102)) || (!x104))
       (some false)
       (cond x98.2.2
        ((impl_OrderOfResults_p fuel x96.results).bind fun x106 =>
        (spec_OrderOfResults_p fuel x96.results).bind fun x108 =>
        (opt (!((!x106.2) || (!x108.2))) default (laws_sameInts_p x106.1 x108.1)).bind fun x110 =>
        cond (((((!x106.2) || (!x108.2)) || (!x110)) || ((x108.1.length:Int) != (x100.1.length:Int))) || ((x100.2.1.length:Int) != (x100.1.length:Int)))
         (some false)
         (laws_FnEvents_l2 more fuel x96 x100 x108.1 0))
        ((spec_DrawNewEvent_p more).bind fun x153 =>
        (impl_NewEvent_p x153.1 x153.2.1 x153.2.2).bind fun x155 =>
        (spec_NewEvent_p fuel x153.1 x153.2.1 x153.2.2).bind fun x157 =>
        (opt (x155.2 == x157.2) default (laws_pSameEvent_p (Event.mk x155.1.segments x155.1.size x155.1.key x155.1.entrants x155.1.gone x155.1.segment x155.1.order x155.1.results) (Event.mk x157.1.segments x157.1.size x157.1.key x157.1.entrants x157.1.gone x157.1.segment x157.1.order x157.1.results))).bind fun x159 =>
        (opt (((x155.2 == x157.2) && x159) && (!(!x155.2))) default (impl_IsEvent_p (Event.mk x155.1.segments x155.1.size x155.1.key x155.1.entrants x155.1.gone x155.1.segment x155.1.order x155.1.results))).bind fun x161 =>
        some (((x155.2 == x157.2) && x159) && ((!x155.2) || x161)))))))
    ((spec_DrawStandingsOf_p fuel more).bind fun x163 =>
    (impl_StandingsOf_p fuel x163).bind fun x165 =>
    (spec_StandingsOf_p fuel x163).bind fun x167 =>
    (opt (!(!(x165.2.2 == x167.2.2))) default (laws_sameInts_p x165.1 x167.1)).bind fun x169 =>
    (opt (!((!(x165.2.2 == x167.2.2)) || (!x169))) default (laws_sameInts_p x165.2.1 x167.2.1)).bind fun x171 =>
    cond (((!(x165.2.2 == x167.2.2)) || (!x169)) || (!x171))
     (some false)
     (cond x165.2.2
      ((impl_OrderOfResults_p fuel x163.results).bind fun x173 =>
      (spec_OrderOfResults_p fuel x163.results).bind fun x175 =>
      (opt (!((!x173.2) || (!x175.2))) default (laws_sameInts_p x173.1 x175.1)).bind fun x177 =>
      cond (((((!x173.2) || (!x175.2)) || (!x177)) || ((x175.1.length:Int) != (x167.1.length:Int))) || ((x167.2.1.length:Int) != (x167.1.length:Int)))
       (some false)
       (laws_FnEvents_l3 more fuel x163 x167 x175.1 0))
      ((spec_DrawNewEvent_p more).bind fun x220 =>
      (impl_NewEvent_p x220.1 x220.2.1 x220.2.2).bind fun x222 =>
      (spec_NewEvent_p fuel x220.1 x220.2.1 x220.2.2).bind fun x224 =>
      (opt (x222.2 == x224.2) default (laws_pSameEvent_p (Event.mk x222.1.segments x222.1.size x222.1.key x222.1.entrants x222.1.gone x222.1.segment x222.1.order x222.1.results) (Event.mk x224.1.segments x224.1.size x224.1.key x224.1.entrants x224.1.gone x224.1.segment x224.1.order x224.1.results))).bind fun x226 =>
      (opt (((x222.2 == x224.2) && x226) && (!(!x222.2))) default (impl_IsEvent_p (Event.mk x222.1.segments x222.1.size x222.1.key x222.1.entrants x222.1.gone x222.1.segment x222.1.order x222.1.results))).bind fun x228 =>
      some (((x222.2 == x224.2) && x226) && ((!x222.2) || x228)))))))
theorem laws_FnEvents_ok (fuel:Nat) (code:List Int) (more:List Int) (r:Bool) (hH:laws_FnEvents_p fuel code more=some r):SpecR Tryz.prog 4 [.s (List.map ze5 code),.s (List.map ze5 more)] (.v (.bool r)):=by
 refine zFn T Tryz.func4 rfl (by decide) rfl ?_
 refine AW.q (AW.r (AO.pu T ?_))
 refine AO.n ?_
 iterate 2 refine AW.q ?_
 obtain ⟨x1,hx2,hH⟩:=zB hH
 refine AW.r ?_
 iterate 2 refine AO.pu T ?_
 refine AO.v rfl rfl (zV rfl rfl rfl rfl (laws_big_ok _ _ _ (hx2)) rfl) ?_
 refine AO.n (AW.c (b:=x1) rfl (fun hc=>?_) (fun hc=>?_))
 replace hH:=condT hc hH
 refine AW.q (AW.r (AO.pu T ?_))
 refine AO.n (AW.t ?_)
 have hR:=zS hH;subst hR
 exact retQ.i [] rfl (.c (.c .v))
 replace hH:=condF hc hH
 refine AW.k (AW.q ?_)
 obtain ⟨x3,hx4,hH⟩:=zB hH
 refine AW.r (AO.pu T ?_)
 refine AO.s rfl (call_ok rfl 1 rfl rfl rfl (spec_DrawRunSteps_ok fuel _ _ (hx4)) rfl rfl rfl) ?_
 refine AO.pu T ?_
 refine AO.pu T (d:=.g [x3.1.segments,x3.1.size,x3.1.key,.s (List.map ze1 x3.1.entrants),.s (List.map ze0 x3.1.gone),x3.1.segment,.s (List.map ze0 x3.1.order),.s (List.map ze2 x3.1.results)]) ?_
 refine AO.pu T ?_
 refine AO.s rfl (zA T rfl 2 rfl rfl rfl rfl rfl) ?_
 refine AO.se T [x3.1.segments,x3.1.size,x3.1.key,.s (List.map ze1 x3.1.entrants),.s (List.map ze0 x3.1.gone),x3.1.segment,.s (List.map ze0 x3.1.order),.s (List.map ze2 x3.1.results)] ?_
 refine AO.pu T ?_
 refine AO.n (AW.q ?_)
 obtain ⟨x5,hx6,hH⟩:=zB hH
 refine AW.r (AO.pu T (d:=.g [x3.1.segments,x3.1.size,x3.1.key,.s (List.map ze1 x3.1.entrants),.s (List.map ze0 x3.1.gone),x3.1.segment,.s (List.map ze0 x3.1.order),.s (List.map ze2 x3.1.results)]) ?_)
 refine AO.pu T ?_
 refine AO.s rfl (callL_ok rfl 3 rfl rfl (es:=[.g (ze4 (Event.mk x3.1.segments x3.1.size x3.1.key x3.1.entrants x3.1.gone x3.1.segment x3.1.order x3.1.results)),.s (List.map ze7 x3.2)]) (by exact ⟨.free rfl,(.rowR rfl (.map fun y=>.vs rfl)),trivial⟩) (impl_RunSteps_ok fuel _ _ _ (hx6)) (zfree_t (zfl (.cons (zfree_g (zfl (.cons (zfree_v _) (.cons (zfree_v _) (.cons (zfree_v _) (.cons (zfree_map (fun y=>(.cons (zfree_v _) (.cons (zfree_v _) .nil)))) (.cons (zfree_map (fun y=>(.cons (zfree_v _) .nil))) (.cons (zfree_v _) (.cons (zfree_map (fun y=>(.cons (zfree_v _) .nil))) (.cons (zfree_map (fun y=>(.cons (zfree_v _) (.cons (zfree_map (fun y=>(.cons (zfree_v _) .nil))) .nil)))) .nil)))))))))) (.cons (zfree_v _) (.cons (zfree_v _) .nil))))) rfl rfl rfl) ?_
 refine AO.pu T ?_
 refine AO.pu T (d:=.g [x5.1.segments,x5.1.size,x5.1.key,.R 3,.R 4,x5.1.segment,.R 5,.R 6]) ?_
 iterate 2 refine AO.pu T ?_
 refine AO.s rfl (zA T rfl 7 rfl rfl rfl rfl rfl) ?_
 refine AO.se T [x5.1.segments,x5.1.size,x5.1.key,.R 3,.R 4,x5.1.segment,.R 5,.R 6] ?_
 iterate 2 refine AO.pu T ?_
 refine AO.n (AW.q ?_)
 obtain ⟨x7,hx8,hH⟩:=zB hH
 refine AW.le (Le.fM 1 (g:=ze7) rfl (fun y=>.vs rfl)) ?_
 refine AW.r (AO.pu T (d:=.g [x3.1.segments,x3.1.size,x3.1.key,.s (List.map ze1 x3.1.entrants),.s (List.map ze0 x3.1.gone),x3.1.segment,.s (List.map ze0 x3.1.order),.s (List.map ze2 x3.1.results)]) ?_)
 refine AO.pu T ?_
 refine AO.v rfl rfl (zV rfl rfl rfl rfl (spec_RunSteps_ok fuel _ _ _ (hx8)) rfl) ?_
 refine AO.pu T ?_
 refine AO.pu T (d:=.g [x7.1.segments,x7.1.size,x7.1.key,.s (List.map ze1 x7.1.entrants),.s (List.map ze0 x7.1.gone),x7.1.segment,.s (List.map ze0 x7.1.order),.s (List.map ze2 x7.1.results)]) ?_
 iterate 2 refine AO.pu T ?_
 refine AO.s rfl (zA T rfl 8 rfl rfl rfl rfl rfl) ?_
 refine AO.se T [x7.1.segments,x7.1.size,x7.1.key,.s (List.map ze1 x7.1.entrants),.s (List.map ze0 x7.1.gone),x7.1.segment,.s (List.map ze0 x7.1.order),.s (List.map ze2 x7.1.results)] ?_
 iterate 2 refine AO.pu T ?_
 refine AO.n (AW.le (Le.ct 0 0 (σ':=(⟨[(1,.s (List.map ze5 more)),(5,.p 2 0),(6,.s (List.map ze7 x3.2)),(7,.p 7 0),(8,x5.2.1),(9,.v (.bool x5.2.2)),(10,.p 8 0),(11,x7.2.1),(12,.v (.bool x7.2.2))],[(2,.box [x3.1.segments,x3.1.size,x3.1.key,.s (List.map ze1 x3.1.entrants),.s (List.map ze0 x3.1.gone),x3.1.segment,.s (List.map ze0 x3.1.order),.s (List.map ze2 x3.1.results)]),(3,.row 2 (List.map ze1 x5.1.entrants)),(4,.row 1 (List.map ze0 x5.1.gone)),(5,.row 1 (List.map ze0 x5.1.order)),(6,.row 2 (List.map ze6 x5.1.results)),(7,.box [x5.1.segments,x5.1.size,x5.1.key,.R 3,.R 4,x5.1.segment,.R 5,.R 6]),(8,.box [x7.1.segments,x7.1.size,x7.1.key,.s (List.map ze1 x7.1.entrants),.s (List.map ze0 x7.1.gone),x7.1.segment,.s (List.map ze0 x7.1.order),.s (List.map ze2 x7.1.results)])],291,[]⟩:St))) ?_)
 iterate 2 refine AW.q ?_
 obtain ⟨x9,hx10,hH⟩:=zB hH
 refine AW.r ?_
 iterate 4 refine AO.pu T ?_
 refine AO.g T (d:=.g [x5.1.segments,x5.1.size,x5.1.key,.R 3,.R 4,x5.1.segment,.R 5,.R 6]) [] rfl trivial rfl rfl ?_
 refine AO.g T (d:=.g [x7.1.segments,x7.1.size,x7.1.key,.s (List.map ze1 x7.1.entrants),.s (List.map ze0 x7.1.gone),x7.1.segment,.s (List.map ze0 x7.1.order),.s (List.map ze2 x7.1.results)]) [] rfl trivial rfl rfl ?_
 refine AO.d [68,69] rfl ⟨fun h=>h,fun h=>h,trivial⟩ (fun hg=>zLV rfl rfl rfl (es:=[.g (ze4 (Event.mk x5.1.segments x5.1.size x5.1.key x5.1.entrants x5.1.gone x5.1.segment x5.1.order x5.1.results)),.g (ze4 (Event.mk x7.1.segments x7.1.size x7.1.key x7.1.entrants x7.1.gone x7.1.segment x7.1.order x7.1.results))]) ⟨lend_g (LendL.cons (.free rfl) (LendL.cons (.free rfl) (LendL.cons (.free rfl) (LendL.cons ((.rowR rfl (.map fun y=>.vs rfl))) (LendL.cons ((.rowR rfl (.map fun y=>.vs rfl))) (LendL.cons (.free rfl) (LendL.cons ((.rowR rfl (.map fun y=>.vs rfl))) (LendL.cons ((.rowR rfl (.map fun y=>frzResult y))) LendL.nil)))))))),.free rfl,trivial⟩ (laws_pSameEvent_ok _ _ _ (optT hx10 hg)) (zfree_v _) rfl) rfl ?_
 refine AO.g T [70] rfl ⟨fun h=>h,trivial⟩ rfl rfl ?_
 refine AO.v rfl rfl (zO rfl rfl rfl rfl) ?_
 refine AO.pu T ?_
 iterate 2 refine AO.g T [] rfl trivial rfl rfl ?_
 refine AO.g T [74,75] rfl ⟨fun h=>h,fun h=>h,trivial⟩ rfl rfl ?_
 refine AO.v rfl rfl (zO rfl rfl rfl rfl) ?_
 refine AO.n (AW.c (b:=(((!(x5.2.2 == x7.2.2)) || (!x9)) || (x5.2.1 != x7.2.1))) rfl (fun hc=>?_) (fun hc=>?_))
 replace hH:=condT hc hH
 refine AW.q (AW.r (AO.pu T ?_))
 refine AO.n (AW.t ?_)
 have hR:=zS hH;subst hR
 exact retQ.i [] rfl (.c (.c .v))
 replace hH:=condF hc hH
 refine AW.k ?_
 iterate 2 refine AW.q ?_
 refine AW.r (AO.pu T ?_)
 refine AO.n (AW.c (b:=x5.2.2) rfl (fun hc=>?_) (fun hc=>?_))
 replace hH:=condT hc hH
 refine AW.q ?_
 obtain ⟨u11,hx12,hH⟩:=zB hH
 obtain ⟨x13,hx14,hH⟩:=zB hH
 obtain ⟨x15,hx16,hH⟩:=zB hH
 refine AW.drawn 13 9 [] mix (by kernel_rfl) rfl ?_
 refine AD.p T (d:=.g [x3.1.segments,x3.1.size,x3.1.key,.s (List.map ze1 x3.1.entrants),.s (List.map ze0 x3.1.gone),x3.1.segment,.s (List.map ze0 x3.1.order),.s (List.map ze2 x3.1.results)]) rfl rfl rfl ?_
 iterate 2 refine AD.p T rfl rfl rfl ?_
 refine AD.w rfl rfl (quow_ok rfl rfl rfl (neZ (needT (hx12)))) ?_
 refine AD.w rfl rfl (slice_hi_map_ok T rfl rfl rfl rfl rfl (hx14) (fun _=>rfl)) ?_
 refine AD.q (FStep.call rfl rfl rfl rfl rfl (impl_RunSteps_ok fuel _ _ _ (hx16)) rfl rfl) (impT_names _ _) (impT_le _ _) rfl ?_
 refine AD.p T rfl rfl rfl ?_
 refine AD.p T (d:=.g [x15.1.segments,x15.1.size,x15.1.key,.R 9,.R 10,x15.1.segment,.R 11,.R 12]) rfl rfl rfl ?_
 iterate 2 refine AD.p T rfl rfl rfl ?_
 refine AD.q (FStep.alloc T rfl rfl rfl rfl rfl rfl) (by simp [namesIn]) (Nat.le_succ _) rfl ?_
 refine AD.k rfl rfl (FStep.store_p T rfl rfl rfl rfl rfl rfl rfl rfl rfl rfl rfl) rfl rfl rfl ?_
 refine AD.p T rfl rfl rfl ?_
 refine AD.nil (AO.pu T ?_)
 refine AO.n (AW.le (Le.ct 0 0 (σ':=(⟨[(1,.s (List.map ze5 more)),(6,.s (List.map ze7 x3.2)),(7,.p 7 0),(10,.p 8 0),(11,x7.2.1),(13,.p 13 0),(14,x15.2.1),(15,.v (.bool x15.2.2))],[(3,.row 2 (List.map ze1 x5.1.entrants)),(4,.row 1 (List.map ze0 x5.1.gone)),(5,.row 1 (List.map ze0 x5.1.order)),(6,.row 2 (List.map ze6 x5.1.results)),(7,.box [x5.1.segments,x5.1.size,x5.1.key,.R 3,.R 4,x5.1.segment,.R 5,.R 6]),(8,.box [x7.1.segments,x7.1.size,x7.1.key,.s (List.map ze1 x7.1.entrants),.s (List.map ze0 x7.1.gone),x7.1.segment,.s (List.map ze0 x7.1.order),.s (List.map ze2 x7.1.results)]),(9,.row 2 (List.map ze1 x15.1.entrants)),(10,.row 1 (List.map ze0 x15.1.gone)),(11,.row 1 (List.map ze0 x15.1.order)),(12,.row 2 (List.map ze6 x15.1.results)),(13,.box [x15.1.segments,x15.1.size,x15.1.key,.R 9,.R 10,x15.1.segment,.R 11,.R 12])],291,[]⟩:St))) ?_)
 refine AW.q ?_
 obtain ⟨x17,hx18,hH⟩:=zB hH
 obtain ⟨x19,hx20,hH⟩:=zB hH
 refine AW.drawn 14 14 [] mix (by kernel_rfl) rfl ?_
 refine AD.p T (d:=.g [x15.1.segments,x15.1.size,x15.1.key,.R 9,.R 10,x15.1.segment,.R 11,.R 12]) rfl rfl rfl ?_
 iterate 2 refine AD.p T rfl rfl rfl ?_
 refine AD.w rfl rfl (quow_ok rfl rfl rfl (neZ (needT (hx12)))) ?_
 refine AD.p T rfl rfl rfl ?_
 refine AD.w rfl rfl (slice_lh_map_ok T rfl rfl rfl rfl rfl rfl (hx18) (fun _=>rfl)) ?_
 refine AD.q (FStep.callL rfl rfl rfl rfl (es:=[.g (ze4 (Event.mk x15.1.segments x15.1.size x15.1.key x15.1.entrants x15.1.gone x15.1.segment x15.1.order x15.1.results)),.s (List.map ze7 x17)]) ⟨lend_g (LendL.cons (.free rfl) (LendL.cons (.free rfl) (LendL.cons (.free rfl) (LendL.cons ((.rowR rfl (.map fun y=>.vs rfl))) (LendL.cons ((.rowR rfl (.map fun y=>.vs rfl))) (LendL.cons (.free rfl) (LendL.cons ((.rowR rfl (.map fun y=>.vs rfl))) (LendL.cons ((.rowR rfl (.map fun y=>frzResult y))) LendL.nil)))))))),.free rfl,trivial⟩ (impl_RunSteps_ok fuel _ _ _ (hx20)) (zfree_t (zfl (.cons (zfree_g (zfl (.cons (zfree_v _) (.cons (zfree_v _) (.cons (zfree_v _) (.cons (zfree_map (fun y=>(.cons (zfree_v _) (.cons (zfree_v _) .nil)))) (.cons (zfree_map (fun y=>(.cons (zfree_v _) .nil))) (.cons (zfree_v _) (.cons (zfree_map (fun y=>(.cons (zfree_v _) .nil))) (.cons (zfree_map (fun y=>(.cons (zfree_v _) (.cons (zfree_map (fun y=>(.cons (zfree_v _) .nil))) .nil)))) .nil)))))))))) (.cons (zfree_v _) (.cons (zfree_v _) .nil))))) rfl rfl) (impT_names _ _) (impT_le _ _) rfl ?_
 refine AD.p T rfl rfl rfl ?_
 refine AD.p T (d:=.g [x19.1.segments,x19.1.size,x19.1.key,.R 14,.R 15,x19.1.segment,.R 16,.R 17]) rfl rfl rfl ?_
 iterate 2 refine AD.p T rfl rfl rfl ?_
 refine AD.q (FStep.alloc T rfl rfl rfl rfl rfl rfl) (by simp [namesIn]) (Nat.le_succ _) rfl ?_
 refine AD.k rfl rfl (FStep.store_p T rfl rfl rfl rfl rfl rfl rfl rfl rfl rfl rfl) rfl rfl rfl ?_
 refine AD.p T rfl rfl rfl ?_
 refine AD.nil (AO.pu T ?_)
 refine AO.n ?_
 iterate 2 refine AW.q ?_
 obtain ⟨x21,hx22,hH⟩:=zB hH
 obtain ⟨x23,hx24,hH⟩:=zB hH
 refine AW.r (AO.pu T (d:=.g [x5.1.segments,x5.1.size,x5.1.key,.R 3,.R 4,x5.1.segment,.R 5,.R 6]) ?_)
 refine AO.v rfl rfl (zLV rfl rfl rfl (es:=[.g (ze4 (Event.mk x5.1.segments x5.1.size x5.1.key x5.1.entrants x5.1.gone x5.1.segment x5.1.order x5.1.results))]) ⟨lend_g (LendL.cons (.free rfl) (LendL.cons (.free rfl) (LendL.cons (.free rfl) (LendL.cons ((.rowR rfl (.map fun y=>.vs rfl))) (LendL.cons ((.rowR rfl (.map fun y=>.vs rfl))) (LendL.cons (.free rfl) (LendL.cons ((.rowR rfl (.map fun y=>.vs rfl))) (LendL.cons ((.rowR rfl (.map fun y=>frzResult y))) LendL.nil)))))))),trivial⟩ (impl_IsEvent_ok _ _ (hx22)) (zfree_v _) rfl) ?_
 iterate 2 refine AO.pu T ?_
 refine AO.g T [] rfl trivial rfl rfl ?_
 refine AO.g T [104] rfl ⟨fun h=>h,trivial⟩ rfl rfl ?_
 refine AO.v rfl rfl (zO rfl rfl rfl rfl) ?_
 refine AO.pu T ?_
 iterate 2 refine AO.g T [] rfl trivial rfl rfl ?_
 refine AO.d [109] rfl ⟨fun h=>h,trivial⟩ (fun hg=>quow_ok rfl rfl rfl (neZ (needT (hx12)))) rfl ?_
 refine AO.g T [108,110] rfl ⟨fun h=>h,fun h=>h,trivial⟩ rfl rfl ?_
 refine AO.v rfl rfl (zO rfl rfl rfl rfl) ?_
 refine AO.pu T ?_
 refine AO.g T [] rfl trivial rfl rfl ?_
 refine AO.g T [114] rfl ⟨fun h=>h,trivial⟩ rfl rfl ?_
 refine AO.v rfl rfl (zO rfl rfl rfl rfl) ?_
 refine AO.pu T ?_
 iterate 3 refine AO.g T [] rfl trivial rfl rfl ?_
 refine AO.d [120] rfl ⟨fun h=>h,trivial⟩ (fun hg=>quow_ok rfl rfl rfl (neZ (needT (hx12)))) rfl ?_
 refine AO.d [119,121] rfl ⟨fun h=>h,fun h=>h,trivial⟩ (fun hg=>zW rfl rfl rfl rfl) rfl ?_
 refine AO.g T [118,122] rfl ⟨fun h=>h,fun h=>h,trivial⟩ rfl rfl ?_
 refine AO.v rfl rfl (zO rfl rfl rfl rfl) ?_
 refine AO.pu T ?_
 refine AO.g T (d:=.g [x19.1.segments,x19.1.size,x19.1.key,.R 14,.R 15,x19.1.segment,.R 16,.R 17]) [] rfl trivial rfl rfl ?_
 refine AO.g T (d:=.g [x7.1.segments,x7.1.size,x7.1.key,.s (List.map ze1 x7.1.entrants),.s (List.map ze0 x7.1.gone),x7.1.segment,.s (List.map ze0 x7.1.order),.s (List.map ze2 x7.1.results)]) [] rfl trivial rfl rfl ?_
 refine AO.d [126,127] rfl ⟨fun h=>h,fun h=>h,trivial⟩ (fun hg=>zLV rfl rfl rfl (es:=[.g (ze4 (Event.mk x19.1.segments x19.1.size x19.1.key x19.1.entrants x19.1.gone x19.1.segment x19.1.order x19.1.results)),.g (ze4 (Event.mk x7.1.segments x7.1.size x7.1.key x7.1.entrants x7.1.gone x7.1.segment x7.1.order x7.1.results))]) ⟨lend_g (LendL.cons (.free rfl) (LendL.cons (.free rfl) (LendL.cons (.free rfl) (LendL.cons ((.rowR rfl (.map fun y=>.vs rfl))) (LendL.cons ((.rowR rfl (.map fun y=>.vs rfl))) (LendL.cons (.free rfl) (LendL.cons ((.rowR rfl (.map fun y=>.vs rfl))) (LendL.cons ((.rowR rfl (.map fun y=>frzResult y))) LendL.nil)))))))),.free rfl,trivial⟩ (laws_pSameEvent_ok _ _ _ (optT hx24 hg)) (zfree_v _) rfl) rfl ?_
 refine AO.g T [128] rfl ⟨fun h=>h,trivial⟩ rfl rfl ?_
 refine AO.v rfl rfl (zO rfl rfl rfl rfl) ?_
 refine AO.n (AW.le (Le.ct 0 0 (σ':=(⟨[(1,.s (List.map ze5 more)),(6,.s (List.map ze7 x3.2)),(7,.p 7 0),(11,x7.2.1),(130,.v (.bool ((((((!x21) || (!x15.2.2)) || (x15.2.1 != (w64 (x7.2.1.tdiv 2)))) || (!x19.2.2)) || (x19.2.1 != (w64 (x7.2.1 - (w64 (x7.2.1.tdiv 2)))))) || (!x23))))],[(3,.row 2 (List.map ze1 x5.1.entrants)),(4,.row 1 (List.map ze0 x5.1.gone)),(5,.row 1 (List.map ze0 x5.1.order)),(6,.row 2 (List.map ze6 x5.1.results)),(7,.box [x5.1.segments,x5.1.size,x5.1.key,.R 3,.R 4,x5.1.segment,.R 5,.R 6])],291,[]⟩:St))) ?_)
 refine AW.c (b:=((((((!x21) || (!x15.2.2)) || (x15.2.1 != (w64 (x7.2.1.tdiv 2)))) || (!x19.2.2)) || (x19.2.1 != (w64 (x7.2.1 - (w64 (x7.2.1.tdiv 2)))))) || (!x23))) rfl (fun hc=>?_) (fun hc=>?_)
 replace hH:=condT hc hH
 refine AW.q (AW.r (AO.pu T ?_))
 refine AO.n (AW.t ?_)
 have hR:=zS hH;subst hR
 exact retQ.i [] rfl (.c (.c .v))
 replace hH:=condF hc hH
 refine AW.k (AW.q (AW.r ?_))
 iterate 2 refine AO.pu T ?_
 refine AO.v rfl rfl (zL T rfl rfl rfl) ?_
 refine AO.pu T ?_
 refine AO.n (AW.c (b:=decide (x7.2.1 < (x3.2.length:Int))) rfl (fun hc=>?_) (fun hc=>?_))
 replace hH:=condT hc hH
 refine AW.q ?_
 obtain ⟨x25,hx26,hH⟩:=zB hH
 obtain ⟨x27,hx28,hH⟩:=zB hH
 refine AW.drawn 14 19 [] mix (by kernel_rfl) rfl ?_
 refine AD.p T (d:=.g [x5.1.segments,x5.1.size,x5.1.key,.R 3,.R 4,x5.1.segment,.R 5,.R 6]) rfl rfl rfl ?_
 iterate 3 refine AD.p T rfl rfl rfl ?_
 refine AD.w rfl rfl (zW rfl rfl rfl rfl) ?_
 refine AD.w rfl rfl (slice_lh_map_ok T rfl rfl rfl rfl rfl rfl (hx26) (fun _=>rfl)) ?_
 refine AD.q (FStep.callL rfl rfl rfl rfl (es:=[.g (ze4 (Event.mk x5.1.segments x5.1.size x5.1.key x5.1.entrants x5.1.gone x5.1.segment x5.1.order x5.1.results)),.s (List.map ze7 x25)]) ⟨lend_g (LendL.cons (.free rfl) (LendL.cons (.free rfl) (LendL.cons (.free rfl) (LendL.cons ((.rowR rfl (.map fun y=>.vs rfl))) (LendL.cons ((.rowR rfl (.map fun y=>.vs rfl))) (LendL.cons (.free rfl) (LendL.cons ((.rowR rfl (.map fun y=>.vs rfl))) (LendL.cons ((.rowR rfl (.map fun y=>frzResult y))) LendL.nil)))))))),.free rfl,trivial⟩ (impl_RunSteps_ok fuel _ _ _ (hx28)) (zfree_t (zfl (.cons (zfree_g (zfl (.cons (zfree_v _) (.cons (zfree_v _) (.cons (zfree_v _) (.cons (zfree_map (fun y=>(.cons (zfree_v _) (.cons (zfree_v _) .nil)))) (.cons (zfree_map (fun y=>(.cons (zfree_v _) .nil))) (.cons (zfree_v _) (.cons (zfree_map (fun y=>(.cons (zfree_v _) .nil))) (.cons (zfree_map (fun y=>(.cons (zfree_v _) (.cons (zfree_map (fun y=>(.cons (zfree_v _) .nil))) .nil)))) .nil)))))))))) (.cons (zfree_v _) (.cons (zfree_v _) .nil))))) rfl rfl) (impT_names _ _) (impT_le _ _) rfl ?_
 refine AD.p T rfl rfl rfl ?_
 refine AD.p T (d:=.g [x27.1.segments,x27.1.size,x27.1.key,.R 19,.R 20,x27.1.segment,.R 21,.R 22]) rfl rfl rfl ?_
 iterate 2 refine AD.p T rfl rfl rfl ?_
 refine AD.q (FStep.alloc T rfl rfl rfl rfl rfl rfl) (by simp [namesIn]) (Nat.le_succ _) rfl ?_
 refine AD.k rfl rfl (FStep.store_p T rfl rfl rfl rfl rfl rfl rfl rfl rfl rfl rfl) rfl rfl rfl ?_
 refine AD.p T rfl rfl rfl ?_
 refine AD.nil (AO.pu T ?_)
 refine AO.n (AW.q (AW.r ?_))
 iterate 3 refine AO.pu T ?_
 refine AO.g T [] rfl trivial rfl rfl ?_
 refine AO.g T [149] rfl ⟨fun h=>h,trivial⟩ rfl rfl ?_
 refine AO.v rfl rfl (zO rfl rfl rfl rfl) ?_
 refine AO.n (AW.le (Le.ct 0 0 (σ':=(⟨[(1,.s (List.map ze5 more)),(151,.v (.bool ((!x27.2.2) || (x27.2.1 != 0))))],[],291,[]⟩:St))) ?_)
 refine AW.c (b:=((!x27.2.2) || (x27.2.1 != 0))) rfl (fun hc=>?_) (fun hc=>?_)
 replace hH:=condT hc hH
 refine AW.q (AW.r (AO.pu T ?_))
 refine AO.n (AW.t ?_)
 have hR:=zS hH;subst hR
 exact retQ.i [] rfl (.c (.c .v))
 replace hH:=condF hc hH
 refine AW.k (AW.q ?_)
 obtain ⟨x29,hx30,hH⟩:=zB hH
 refine AW.r (AO.pu T ?_)
 refine AO.v rfl rfl (zV rfl rfl rfl rfl (spec_DrawStandingsOf_ok fuel _ _ (hx30)) rfl) ?_
 refine AO.s rfl (zA T rfl 24 rfl rfl rfl rfl rfl) ?_
 refine AO.se T [x29.segments,x29.size,x29.key,.s (List.map ze1 x29.entrants),.s (List.map ze0 x29.gone),x29.segment,.s (List.map ze0 x29.order),.s (List.map ze2 x29.results)] ?_
 refine AO.n (AW.q ?_)
 obtain ⟨x31,hx32,hH⟩:=zB hH
 refine AW.r (AO.pu T (d:=.g [x29.segments,x29.size,x29.key,.s (List.map ze1 x29.entrants),.s (List.map ze0 x29.gone),x29.segment,.s (List.map ze0 x29.order),.s (List.map ze2 x29.results)]) ?_)
 refine AO.s rfl (call_ok rfl 25 rfl rfl rfl (impl_StandingsOf_ok fuel _ _ (hx32)) rfl rfl rfl) ?_
 iterate 7 refine AO.pu T ?_
 refine AO.n (AW.q ?_)
 obtain ⟨x33,hx34,hH⟩:=zB hH
 refine AW.r (AO.pu T (d:=.g [x29.segments,x29.size,x29.key,.s (List.map ze1 x29.entrants),.s (List.map ze0 x29.gone),x29.segment,.s (List.map ze0 x29.order),.s (List.map ze2 x29.results)]) ?_)
 refine AO.s rfl (call_ok rfl 27 rfl rfl rfl (spec_StandingsOf_ok fuel _ _ (hx34)) rfl rfl rfl) ?_
 iterate 7 refine AO.pu T ?_
 refine AO.n ?_
 iterate 2 refine AW.q ?_
 obtain ⟨x35,hx36,hH⟩:=zB hH
 obtain ⟨x37,hx38,hH⟩:=zB hH
 refine AW.r ?_
 iterate 4 refine AO.pu T ?_
 iterate 2 refine AO.g T [] rfl trivial rfl rfl ?_
 refine AO.d [170,171] rfl ⟨fun h=>h,fun h=>h,trivial⟩ (fun hg=>zLV rfl rfl rfl (es:=[.s (List.map ze0 x31.1),.s (List.map ze0 x33.1)]) ⟨(.rowR rfl (.map fun y=>.vs rfl)),(.rowR rfl (.map fun y=>.vs rfl)),trivial⟩ (laws_sameInts_ok _ _ _ (optT hx36 hg)) (zfree_v _) rfl) rfl ?_
 refine AO.g T [172] rfl ⟨fun h=>h,trivial⟩ rfl rfl ?_
 refine AO.v rfl rfl (zO rfl rfl rfl rfl) ?_
 refine AO.pu T ?_
 iterate 2 refine AO.g T [] rfl trivial rfl rfl ?_
 refine AO.d [176,177] rfl ⟨fun h=>h,fun h=>h,trivial⟩ (fun hg=>zLV rfl rfl rfl (es:=[.s (List.map ze0 x31.2.1),.s (List.map ze0 x33.2.1)]) ⟨(.rowR rfl (.map fun y=>.vs rfl)),(.rowR rfl (.map fun y=>.vs rfl)),trivial⟩ (laws_sameInts_ok _ _ _ (optT hx38 hg)) (zfree_v _) rfl) rfl ?_
 refine AO.g T [178] rfl ⟨fun h=>h,trivial⟩ rfl rfl ?_
 refine AO.v rfl rfl (zO rfl rfl rfl rfl) ?_
 refine AO.n (AW.le (Le.ct 0 0 (σ':=(⟨[(1,.s (List.map ze5 more)),(22,.p 24 0),(25,.v (.bool x31.2.2)),(26,.R 27),(27,.R 28),(180,.v (.bool (((!(x31.2.2 == x33.2.2)) || (!x35)) || (!x37))))],[(24,.box [x29.segments,x29.size,x29.key,.s (List.map ze1 x29.entrants),.s (List.map ze0 x29.gone),x29.segment,.s (List.map ze0 x29.order),.s (List.map ze2 x29.results)]),(27,.row 1 (List.map ze0 x33.1)),(28,.row 1 (List.map ze0 x33.2.1))],291,[]⟩:St))) ?_)
 refine AW.c (b:=(((!(x31.2.2 == x33.2.2)) || (!x35)) || (!x37))) rfl (fun hc=>?_) (fun hc=>?_)
 replace hH:=condT hc hH
 refine AW.q (AW.r (AO.pu T ?_))
 refine AO.n (AW.t ?_)
 have hR:=zS hH;subst hR
 exact retQ.i [] rfl (.c (.c .v))
 replace hH:=condF hc hH
 refine AW.k ?_
 iterate 2 refine AW.q ?_
 refine AW.r (AO.pu T ?_)
 refine AO.n (AW.c (b:=x31.2.2) rfl (fun hc=>?_) (fun hc=>?_))
 replace hH:=condT hc hH
 refine AW.q ?_
 obtain ⟨x39,hx40,hH⟩:=zB hH
 refine AW.r ?_
 iterate 2 refine AO.pu T ?_
 refine AO.s rfl (call_ok rfl 29 rfl rfl rfl (impl_OrderOfResults_ok fuel _ _ (hx40)) rfl rfl rfl) ?_
 iterate 5 refine AO.pu T ?_
 refine AO.n (AW.q ?_)
 obtain ⟨x41,hx42,hH⟩:=zB hH
 refine AW.r ?_
 iterate 2 refine AO.pu T ?_
 refine AO.s rfl (call_ok rfl 30 rfl rfl rfl (spec_OrderOfResults_ok fuel _ _ (hx42)) rfl rfl rfl) ?_
 iterate 5 refine AO.pu T ?_
 refine AO.n ?_
 iterate 2 refine AW.q ?_
 obtain ⟨x43,hx44,hH⟩:=zB hH
 refine AW.r ?_
 iterate 3 refine AO.pu T ?_
 refine AO.g T [] rfl trivial rfl rfl ?_
 refine AO.g T [197] rfl ⟨fun h=>h,trivial⟩ rfl rfl ?_
 refine AO.v rfl rfl (zO rfl rfl rfl rfl) ?_
 refine AO.pu T ?_
 iterate 2 refine AO.g T [] rfl trivial rfl rfl ?_
 refine AO.d [201,202] rfl ⟨fun h=>h,fun h=>h,trivial⟩ (fun hg=>zLV rfl rfl rfl (es:=[.s (List.map ze0 x39.1),.s (List.map ze0 x41.1)]) ⟨(.rowR rfl (.map fun y=>.vs rfl)),(.rowR rfl (.map fun y=>.vs rfl)),trivial⟩ (laws_sameInts_ok _ _ _ (optT hx44 hg)) (zfree_v _) rfl) rfl ?_
 refine AO.g T [203] rfl ⟨fun h=>h,trivial⟩ rfl rfl ?_
 refine AO.v rfl rfl (zO rfl rfl rfl rfl) ?_
 refine AO.pu T ?_
 refine AO.g T [] rfl trivial rfl rfl ?_
 refine AO.d [207] rfl ⟨fun h=>h,trivial⟩ (fun hg=>len_row_ok T rfl rfl rfl rfl) rfl ?_
 refine AO.g T [] rfl trivial rfl rfl ?_
 refine AO.d [209] rfl ⟨fun h=>h,trivial⟩ (fun hg=>len_row_ok T rfl rfl rfl rfl) rfl ?_
 refine AO.g T [208,210] rfl ⟨fun h=>h,fun h=>h,trivial⟩ rfl rfl ?_
 refine AO.v rfl rfl (zO rfl rfl rfl rfl) ?_
 refine AO.pu T ?_
 refine AO.g T [] rfl trivial rfl rfl ?_
 refine AO.d [214] rfl ⟨fun h=>h,trivial⟩ (fun hg=>len_row_ok T rfl rfl rfl rfl) rfl ?_
 refine AO.g T [] rfl trivial rfl rfl ?_
 refine AO.d [216] rfl ⟨fun h=>h,trivial⟩ (fun hg=>len_row_ok T rfl rfl rfl rfl) rfl ?_
 refine AO.g T [215,217] rfl ⟨fun h=>h,fun h=>h,trivial⟩ rfl rfl ?_
 refine AO.v rfl rfl (zO rfl rfl rfl rfl) ?_
 refine AO.n (AW.le (Le.ct 0 0 (σ':=(⟨[(1,.s (List.map ze5 more)),(22,.p 24 0),(26,.R 27),(27,.R 28),(31,.R 30),(219,.v (.bool (((((!x39.2) || (!x41.2)) || (!x43)) || ((x41.1.length:Int) != (x33.1.length:Int))) || ((x33.2.1.length:Int) != (x33.1.length:Int)))))],[(24,.box [x29.segments,x29.size,x29.key,.s (List.map ze1 x29.entrants),.s (List.map ze0 x29.gone),x29.segment,.s (List.map ze0 x29.order),.s (List.map ze2 x29.results)]),(27,.row 1 (List.map ze0 x33.1)),(28,.row 1 (List.map ze0 x33.2.1)),(30,.row 1 (List.map ze0 x41.1))],291,[]⟩:St))) ?_)
 refine AW.c (b:=(((((!x39.2) || (!x41.2)) || (!x43)) || ((x41.1.length:Int) != (x33.1.length:Int))) || ((x33.2.1.length:Int) != (x33.1.length:Int)))) rfl (fun hc=>?_) (fun hc=>?_)
 replace hH:=condT hc hH
 refine AW.q (AW.r (AO.pu T ?_))
 refine AO.n (AW.t ?_)
 have hR:=zS hH;subst hR
 exact retQ.i [] rfl (.c (.c .v))
 replace hH:=condF hc hH
 refine AW.k (AW.q (AW.r ?_))
 refine AO.pu T ?_
 refine AO.v rfl rfl (len_row_ok T rfl rfl rfl rfl) ?_
 refine AO.pu T ?_
 refine AO.n (AW.b ?_)
 refine AW.loopS (fun s:Nat=>(⟨[(1,.s (List.map ze5 more)),(22,.p 24 0),(26,.R 27),(27,.R 28),(220,.R 30),(221,(x41.1.length:Int)),(222,(s:Int))],[(24,.box [x29.segments,x29.size,x29.key,.s (List.map ze1 x29.entrants),.s (List.map ze0 x29.gone),x29.segment,.s (List.map ze0 x29.order),.s (List.map ze2 x29.results)]),(27,.row 1 (List.map ze0 x33.1)),(28,.row 1 (List.map ze0 x33.2.1)),(30,.row 1 (List.map ze0 x41.1))],291,[]⟩:St)) (fun s=>s ≤ x41.1.length∧laws_FnEvents_l1 more fuel x29 x33 (x41.1.drop s) s=some r) (fun s=>x41.1.length - s) 0 ⟨Nat.zero_le _,hH⟩ ?_ ?_
 exact Le.ct 0 0
 rintro k45 ⟨hk,hH⟩
 replace hH:laws_FnEvents_l1 more fuel x29 x33 (x41.1.drop k45) k45=some r:=hH
 try dsimp only
 refine AW.boundR (id:=30) (l:=x41.1) rfl (fun hb49=>?_)
 rcases hd48:x41.1.drop k45 with _ | ⟨y46,ys47⟩
 rw [hd48,laws_FnEvents_l1] at hH
 have hlt50:=drop_ge hd48
 refine AW.q (AW.r (AO.pu T ?_))
 refine AO.n (AW.q (AW.condF' (b:=decide ((k45:Int) < (x41.1.length:Int))) rfl (rngF hlt50) ?_))
 refine AW.exit (AW.q ?_)
 obtain ⟨x68,hx69,hH⟩:=zB hH
 refine AW.r (AO.pu T ?_)
 refine AO.v rfl rfl (zV rfl rfl rfl rfl (spec_DrawNewEvent_ok _ _ (hx69)) rfl) ?_
 iterate 7 refine AO.pu T ?_
 refine AO.n (AW.q ?_)
 obtain ⟨x70,hx71,hH⟩:=zB hH
 refine AW.r ?_
 iterate 3 refine AO.pu T ?_
 refine AO.s rfl (call_ok rfl 31 rfl rfl rfl (impl_NewEvent_ok _ _ _ _ (hx71)) rfl rfl rfl) ?_
 refine AO.pu T ?_
 refine AO.pu T (d:=.g [x70.1.segments,x70.1.size,x70.1.key,.R 31,.R 32,x70.1.segment,.R 33,.R 34]) ?_
 refine AO.pu T ?_
 refine AO.s rfl (zA T rfl 35 rfl rfl rfl rfl rfl) ?_
 refine AO.se T [x70.1.segments,x70.1.size,x70.1.key,.R 31,.R 32,x70.1.segment,.R 33,.R 34] ?_
 refine AO.pu T ?_
 refine AO.n (AW.q ?_)
 obtain ⟨x72,hx73,hH⟩:=zB hH
 refine AW.r ?_
 iterate 3 refine AO.pu T ?_
 refine AO.s rfl (call_ok rfl 36 rfl rfl rfl (spec_NewEvent_ok fuel _ _ _ _ (hx73)) rfl rfl rfl) ?_
 refine AO.pu T ?_
 refine AO.pu T (d:=.g [x72.1.segments,x72.1.size,x72.1.key,.R 36,.R 37,x72.1.segment,.R 38,.R 39]) ?_
 refine AO.pu T ?_
 refine AO.s rfl (zA T rfl 40 rfl rfl rfl rfl rfl) ?_
 refine AO.se T [x72.1.segments,x72.1.size,x72.1.key,.R 36,.R 37,x72.1.segment,.R 38,.R 39] ?_
 refine AO.pu T ?_
 refine AO.n (AW.le (Le.ct 0 0 (σ':=(⟨[(38,.p 35 0),(39,.v (.bool x70.2)),(40,.p 40 0),(41,.v (.bool x72.2))],[(31,.row 2 (List.map ze1 x70.1.entrants)),(32,.row 1 (List.map ze0 x70.1.gone)),(33,.row 1 (List.map ze0 x70.1.order)),(34,.row 2 (List.map ze6 x70.1.results)),(35,.box [x70.1.segments,x70.1.size,x70.1.key,.R 31,.R 32,x70.1.segment,.R 33,.R 34]),(36,.row 2 (List.map ze1 x72.1.entrants)),(37,.row 1 (List.map ze0 x72.1.gone)),(38,.row 1 (List.map ze0 x72.1.order)),(39,.row 2 (List.map ze2 x72.1.results)),(40,.box [x72.1.segments,x72.1.size,x72.1.key,.R 36,.R 37,x72.1.segment,.R 38,.R 39])],291,[]⟩:St))) ?_)
 refine AW.q ?_
 obtain ⟨x74,hx75,hH⟩:=zB hH
 obtain ⟨x76,hx77,hH⟩:=zB hH
 refine AW.r ?_
 iterate 4 refine AO.pu T ?_
 refine AO.g T (d:=.g [x70.1.segments,x70.1.size,x70.1.key,.R 31,.R 32,x70.1.segment,.R 33,.R 34]) [] rfl trivial rfl rfl ?_
 refine AO.g T (d:=.g [x72.1.segments,x72.1.size,x72.1.key,.R 36,.R 37,x72.1.segment,.R 38,.R 39]) [] rfl trivial rfl rfl ?_
 refine AO.d [279,280] rfl ⟨fun h=>h,fun h=>h,trivial⟩ (fun hg=>zLV rfl rfl rfl (es:=[.g (ze4 (Event.mk x70.1.segments x70.1.size x70.1.key x70.1.entrants x70.1.gone x70.1.segment x70.1.order x70.1.results)),.g (ze4 (Event.mk x72.1.segments x72.1.size x72.1.key x72.1.entrants x72.1.gone x72.1.segment x72.1.order x72.1.results))]) ⟨lend_g (LendL.cons (.free rfl) (LendL.cons (.free rfl) (LendL.cons (.free rfl) (LendL.cons ((.rowR rfl (.map fun y=>.vs rfl))) (LendL.cons ((.rowR rfl (.map fun y=>.vs rfl))) (LendL.cons (.free rfl) (LendL.cons ((.rowR rfl (.map fun y=>.vs rfl))) (LendL.cons ((.rowR rfl (.map fun y=>frzResult y))) LendL.nil)))))))),lend_g (LendL.cons (.free rfl) (LendL.cons (.free rfl) (LendL.cons (.free rfl) (LendL.cons ((.rowR rfl (.map fun y=>.vs rfl))) (LendL.cons ((.rowR rfl (.map fun y=>.vs rfl))) (LendL.cons (.free rfl) (LendL.cons ((.rowR rfl (.map fun y=>.vs rfl))) (LendL.cons ((.rowR rfl (.map fun y=>.vs rfl))) LendL.nil)))))))),trivial⟩ (laws_pSameEvent_ok _ _ _ (optT hx75 hg)) (zfree_v _) rfl) rfl ?_
 refine AO.v rfl rfl (zN rfl rfl rfl rfl) ?_
 refine AO.pu T ?_
 refine AO.g T [] rfl trivial rfl rfl ?_
 refine AO.g T [284] rfl ⟨fun h=>h,trivial⟩ rfl rfl ?_
 refine AO.g T [285] rfl ⟨fun h=>h,trivial⟩ rfl rfl ?_
 refine AO.g T (d:=.g [x70.1.segments,x70.1.size,x70.1.key,.R 31,.R 32,x70.1.segment,.R 33,.R 34]) [] rfl trivial rfl rfl ?_
 refine AO.d [287] rfl ⟨fun h=>h,trivial⟩ (fun hg=>zLV rfl rfl rfl (es:=[.g (ze4 (Event.mk x70.1.segments x70.1.size x70.1.key x70.1.entrants x70.1.gone x70.1.segment x70.1.order x70.1.results))]) ⟨lend_g (LendL.cons (.free rfl) (LendL.cons (.free rfl) (LendL.cons (.free rfl) (LendL.cons ((.rowR rfl (.map fun y=>.vs rfl))) (LendL.cons ((.rowR rfl (.map fun y=>.vs rfl))) (LendL.cons (.free rfl) (LendL.cons ((.rowR rfl (.map fun y=>.vs rfl))) (LendL.cons ((.rowR rfl (.map fun y=>frzResult y))) LendL.nil)))))))),trivial⟩ (impl_IsEvent_ok _ _ (optT hx77 hg)) (zfree_v _) rfl) rfl ?_
 refine AO.d [286] rfl ⟨fun h=>h,trivial⟩ (fun hg=>zO rfl rfl rfl (by rw [hg];exact Bool.true_and _)) rfl ?_
 refine AO.v rfl rfl (zN rfl rfl rfl rfl) ?_
 refine AO.pu T ?_
 refine AO.n (AW.t ?_)
 have hR:=zS hH;subst hR
 exact retQ.i [] rfl (.c (.c .v))
 rw [hd48,laws_FnEvents_l1] at hH
 have hlt50:=drop_lt hd48
 refine AW.q (AW.r (AO.pu T ?_))
 refine AO.n (AW.q (AW.condT' (b:=decide ((k45:Int) < (x41.1.length:Int))) rfl (rngT hlt50) ?_))
 refine AW.k (AW.q ?_)
 refine AW.b (AW.q (AW.r ?_))
 refine AO.pu T ?_
 refine AO.v rfl rfl (zXr T rfl rfl rfl rfl rfl rfl (zgD hd48)) ?_
 refine AO.v rfl rfl (zLr T rfl rfl rfl rfl (zgG (zgD hd48)) rfl rfl rfl) ?_
 iterate 2 refine AO.pu T ?_
 refine AO.n (AW.q ?_)
 obtain ⟨x78,hx79,hH⟩:=zB hH
 obtain ⟨x80,hx81,hH⟩:=zB hH
 obtain ⟨x82,hx83,hH⟩:=zB hH
 obtain ⟨x84,hx85,hH⟩:=zB hH
 refine AW.drawn 24 41 [] mix (by kernel_rfl) rfl ?_
 iterate 3 refine AD.p T rfl rfl rfl ?_
 refine AD.w rfl rfl (zX T rfl rfl rfl rfl rfl (hx79) rfl) ?_
 iterate 4 refine AD.p T rfl rfl rfl ?_
 refine AD.w rfl rfl (zXr T rfl rfl rfl rfl rfl rfl (hx81)) ?_
 refine AD.w rfl rfl (zLr T rfl rfl rfl rfl (zgG (hx81)) rfl rfl rfl) ?_
 iterate 2 refine AD.p T rfl rfl rfl ?_
 refine AD.pureG T [] rfl trivial rfl rfl ?_
 refine AD.pureG T [239] rfl ⟨fun h=>h,trivial⟩ rfl rfl ?_
 refine AD.pureG T [240] rfl ⟨fun h=>h,trivial⟩ rfl rfl ?_
 iterate 2 refine AD.pureG T [] rfl trivial rfl rfl ?_
 refine AD.guard [242,243] rfl ⟨fun h=>h,fun h=>h,trivial⟩ (fun hg=>zXr T rfl rfl rfl rfl rfl rfl (optT hx83 hg)) rfl ?_
 refine AD.guard [244] rfl ⟨fun h=>h,trivial⟩ (fun hg=>zLr T rfl rfl rfl rfl (zgG (optT hx83 hg)) rfl rfl rfl) rfl ?_
 iterate 2 refine AD.pureG T [] rfl trivial rfl rfl ?_
 refine AD.guard [247] rfl ⟨fun h=>h,trivial⟩ (fun hg=>zW rfl rfl rfl rfl) rfl ?_
 refine AD.guard [246,248] rfl ⟨fun h=>h,fun h=>h,trivial⟩ (fun hg=>zXr T rfl rfl rfl rfl rfl rfl (optT hx85 hg)) rfl ?_
 refine AD.guard [249] rfl ⟨fun h=>h,trivial⟩ (fun hg=>zLr T rfl rfl rfl rfl (zgG (optT hx85 hg)) rfl rfl rfl) rfl ?_
 refine AD.nil (AO.g T [245,250] rfl ⟨fun h=>h,fun h=>h,trivial⟩ rfl rfl ?_)
 refine AO.d [241] rfl ⟨fun h=>h,trivial⟩ (fun hg=>zN rfl rfl rfl (by rw [hg];exact Bool.true_and _)) rfl ?_
 refine AO.v rfl rfl (zO rfl rfl rfl rfl) ?_
 refine AO.n (AW.le (Le.ct 0 0 (σ':=(⟨[(1,.s (List.map ze5 more)),(22,.p 24 0),(26,.R 27),(27,.R 28),(220,.R 30),(221,(x41.1.length:Int)),(222,(k45:Int)),(253,.v (.bool ((x78.skater != x80) || (decide ((k45:Int) > 0) && decide (x82 < x84)))))],[(24,.box [x29.segments,x29.size,x29.key,.s (List.map ze1 x29.entrants),.s (List.map ze0 x29.gone),x29.segment,.s (List.map ze0 x29.order),.s (List.map ze2 x29.results)]),(27,.row 1 (List.map ze0 x33.1)),(28,.row 1 (List.map ze0 x33.2.1)),(30,.row 1 (List.map ze0 x41.1))],291,[]⟩:St))) ?_)
 refine AW.c (b:=((x78.skater != x80) || (decide ((k45:Int) > 0) && decide (x82 < x84)))) rfl (fun hc=>?_) (fun hc=>?_)
 replace hH:=condT hc hH
 refine AW.q (AW.r (AO.pu T ?_))
 refine AO.n (AW.t ?_)
 have hR:=zS hH;subst hR
 exact retQ.i [] rfl (.c (.c .v))
 replace hH:=condF hc hH
 refine AW.k (AW.r ?_)
 refine AO.v rfl rfl (zR rfl rfl rfl rfl (zK hlt50 hb49)) ?_
 refine AO.pu T ?_
 refine AO.n ?_
 refine ⟨k45+1,⟨Nat.succ_le_of_lt hlt50,(by rw [zds hd48];exact hH)⟩,(by have:=hlt50;dsimp only;omega),?_⟩
 exact Le.ct 0 0
 replace hH:=condF hc hH
 refine AW.k (AW.q ?_)
 obtain ⟨x86,hx87,hH⟩:=zB hH
 refine AW.r (AO.pu T ?_)
 refine AO.v rfl rfl (zV rfl rfl rfl rfl (spec_DrawNewEvent_ok _ _ (hx87)) rfl) ?_
 iterate 7 refine AO.pu T ?_
 refine AO.n (AW.q ?_)
 obtain ⟨x88,hx89,hH⟩:=zB hH
 refine AW.r ?_
 iterate 3 refine AO.pu T ?_
 refine AO.s rfl (call_ok rfl 41 rfl rfl rfl (impl_NewEvent_ok _ _ _ _ (hx89)) rfl rfl rfl) ?_
 refine AO.pu T ?_
 refine AO.pu T (d:=.g [x88.1.segments,x88.1.size,x88.1.key,.R 41,.R 42,x88.1.segment,.R 43,.R 44]) ?_
 refine AO.pu T ?_
 refine AO.s rfl (zA T rfl 45 rfl rfl rfl rfl rfl) ?_
 refine AO.se T [x88.1.segments,x88.1.size,x88.1.key,.R 41,.R 42,x88.1.segment,.R 43,.R 44] ?_
 refine AO.pu T ?_
 refine AO.n (AW.q ?_)
 obtain ⟨x90,hx91,hH⟩:=zB hH
 refine AW.r ?_
 iterate 3 refine AO.pu T ?_
 refine AO.s rfl (call_ok rfl 46 rfl rfl rfl (spec_NewEvent_ok fuel _ _ _ _ (hx91)) rfl rfl rfl) ?_
 refine AO.pu T ?_
 refine AO.pu T (d:=.g [x90.1.segments,x90.1.size,x90.1.key,.R 46,.R 47,x90.1.segment,.R 48,.R 49]) ?_
 refine AO.pu T ?_
 refine AO.s rfl (zA T rfl 50 rfl rfl rfl rfl rfl) ?_
 refine AO.se T [x90.1.segments,x90.1.size,x90.1.key,.R 46,.R 47,x90.1.segment,.R 48,.R 49] ?_
 refine AO.pu T ?_
 refine AO.n (AW.le (Le.ct 0 0 (σ':=(⟨[(38,.p 45 0),(39,.v (.bool x88.2)),(40,.p 50 0),(41,.v (.bool x90.2))],[(41,.row 2 (List.map ze1 x88.1.entrants)),(42,.row 1 (List.map ze0 x88.1.gone)),(43,.row 1 (List.map ze0 x88.1.order)),(44,.row 2 (List.map ze6 x88.1.results)),(45,.box [x88.1.segments,x88.1.size,x88.1.key,.R 41,.R 42,x88.1.segment,.R 43,.R 44]),(46,.row 2 (List.map ze1 x90.1.entrants)),(47,.row 1 (List.map ze0 x90.1.gone)),(48,.row 1 (List.map ze0 x90.1.order)),(49,.row 2 (List.map ze2 x90.1.results)),(50,.box [x90.1.segments,x90.1.size,x90.1.key,.R 46,.R 47,x90.1.segment,.R 48,.R 49])],291,[]⟩:St))) ?_)
 refine AW.q ?_
 obtain ⟨x92,hx93,hH⟩:=zB hH
 obtain ⟨x94,hx95,hH⟩:=zB hH
 refine AW.r ?_
 iterate 4 refine AO.pu T ?_
 refine AO.g T (d:=.g [x88.1.segments,x88.1.size,x88.1.key,.R 41,.R 42,x88.1.segment,.R 43,.R 44]) [] rfl trivial rfl rfl ?_
 refine AO.g T (d:=.g [x90.1.segments,x90.1.size,x90.1.key,.R 46,.R 47,x90.1.segment,.R 48,.R 49]) [] rfl trivial rfl rfl ?_
 refine AO.d [279,280] rfl ⟨fun h=>h,fun h=>h,trivial⟩ (fun hg=>zLV rfl rfl rfl (es:=[.g (ze4 (Event.mk x88.1.segments x88.1.size x88.1.key x88.1.entrants x88.1.gone x88.1.segment x88.1.order x88.1.results)),.g (ze4 (Event.mk x90.1.segments x90.1.size x90.1.key x90.1.entrants x90.1.gone x90.1.segment x90.1.order x90.1.results))]) ⟨lend_g (LendL.cons (.free rfl) (LendL.cons (.free rfl) (LendL.cons (.free rfl) (LendL.cons ((.rowR rfl (.map fun y=>.vs rfl))) (LendL.cons ((.rowR rfl (.map fun y=>.vs rfl))) (LendL.cons (.free rfl) (LendL.cons ((.rowR rfl (.map fun y=>.vs rfl))) (LendL.cons ((.rowR rfl (.map fun y=>frzResult y))) LendL.nil)))))))),lend_g (LendL.cons (.free rfl) (LendL.cons (.free rfl) (LendL.cons (.free rfl) (LendL.cons ((.rowR rfl (.map fun y=>.vs rfl))) (LendL.cons ((.rowR rfl (.map fun y=>.vs rfl))) (LendL.cons (.free rfl) (LendL.cons ((.rowR rfl (.map fun y=>.vs rfl))) (LendL.cons ((.rowR rfl (.map fun y=>.vs rfl))) LendL.nil)))))))),trivial⟩ (laws_pSameEvent_ok _ _ _ (optT hx93 hg)) (zfree_v _) rfl) rfl ?_
 refine AO.v rfl rfl (zN rfl rfl rfl rfl) ?_
 refine AO.pu T ?_
 refine AO.g T [] rfl trivial rfl rfl ?_
 refine AO.g T [284] rfl ⟨fun h=>h,trivial⟩ rfl rfl ?_
 refine AO.g T [285] rfl ⟨fun h=>h,trivial⟩ rfl rfl ?_
 refine AO.g T (d:=.g [x88.1.segments,x88.1.size,x88.1.key,.R 41,.R 42,x88.1.segment,.R 43,.R 44]) [] rfl trivial rfl rfl ?_
 refine AO.d [287] rfl ⟨fun h=>h,trivial⟩ (fun hg=>zLV rfl rfl rfl (es:=[.g (ze4 (Event.mk x88.1.segments x88.1.size x88.1.key x88.1.entrants x88.1.gone x88.1.segment x88.1.order x88.1.results))]) ⟨lend_g (LendL.cons (.free rfl) (LendL.cons (.free rfl) (LendL.cons (.free rfl) (LendL.cons ((.rowR rfl (.map fun y=>.vs rfl))) (LendL.cons ((.rowR rfl (.map fun y=>.vs rfl))) (LendL.cons (.free rfl) (LendL.cons ((.rowR rfl (.map fun y=>.vs rfl))) (LendL.cons ((.rowR rfl (.map fun y=>frzResult y))) LendL.nil)))))))),trivial⟩ (impl_IsEvent_ok _ _ (optT hx95 hg)) (zfree_v _) rfl) rfl ?_
 refine AO.d [286] rfl ⟨fun h=>h,trivial⟩ (fun hg=>zO rfl rfl rfl (by rw [hg];exact Bool.true_and _)) rfl ?_
 refine AO.v rfl rfl (zN rfl rfl rfl rfl) ?_
 refine AO.pu T ?_
 refine AO.n (AW.t ?_)
 have hR:=zS hH;subst hR
 exact retQ.i [] rfl (.c (.c .v))
 replace hH:=condF hc hH
 refine AW.k (AW.q ?_)
 obtain ⟨x96,hx97,hH⟩:=zB hH
 refine AW.r (AO.pu T ?_)
 refine AO.v rfl rfl (zV rfl rfl rfl rfl (spec_DrawStandingsOf_ok fuel _ _ (hx97)) rfl) ?_
 refine AO.s rfl (zA T rfl 51 rfl rfl rfl rfl rfl) ?_
 refine AO.se T [x96.segments,x96.size,x96.key,.s (List.map ze1 x96.entrants),.s (List.map ze0 x96.gone),x96.segment,.s (List.map ze0 x96.order),.s (List.map ze2 x96.results)] ?_
 refine AO.n (AW.q ?_)
 obtain ⟨x98,hx99,hH⟩:=zB hH
 refine AW.r (AO.pu T (d:=.g [x96.segments,x96.size,x96.key,.s (List.map ze1 x96.entrants),.s (List.map ze0 x96.gone),x96.segment,.s (List.map ze0 x96.order),.s (List.map ze2 x96.results)]) ?_)
 refine AO.s rfl (call_ok rfl 52 rfl rfl rfl (impl_StandingsOf_ok fuel _ _ (hx99)) rfl rfl rfl) ?_
 iterate 7 refine AO.pu T ?_
 refine AO.n (AW.q ?_)
 obtain ⟨x100,hx101,hH⟩:=zB hH
 refine AW.r (AO.pu T (d:=.g [x96.segments,x96.size,x96.key,.s (List.map ze1 x96.entrants),.s (List.map ze0 x96.gone),x96.segment,.s (List.map ze0 x96.order),.s (List.map ze2 x96.results)]) ?_)
 refine AO.s rfl (call_ok rfl 54 rfl rfl rfl (spec_StandingsOf_ok fuel _ _ (hx101)) rfl rfl rfl) ?_
 iterate 7 refine AO.pu T ?_
 refine AO.n (AW.le (Le.ct 0 0 (σ':=(⟨[(1,.s (List.map ze5 more)),(22,.p 51 0),(23,.R 52),(24,.R 53),(25,.v (.bool x98.2.2)),(26,.R 54),(27,.R 55),(28,.v (.bool x100.2.2))],[(51,.box [x96.segments,x96.size,x96.key,.s (List.map ze1 x96.entrants),.s (List.map ze0 x96.gone),x96.segment,.s (List.map ze0 x96.order),.s (List.map ze2 x96.results)]),(52,.row 1 (List.map ze0 x98.1)),(53,.row 1 (List.map ze0 x98.2.1)),(54,.row 1 (List.map ze0 x100.1)),(55,.row 1 (List.map ze0 x100.2.1))],291,[]⟩:St))) ?_)
 iterate 2 refine AW.q ?_
 obtain ⟨x102,hx103,hH⟩:=zB hH
 obtain ⟨x104,hx105,hH⟩:=zB hH
 refine AW.r ?_
 iterate 4 refine AO.pu T ?_
 iterate 2 refine AO.g T [] rfl trivial rfl rfl ?_
 refine AO.d [170,171] rfl ⟨fun h=>h,fun h=>h,trivial⟩ (fun hg=>zLV rfl rfl rfl (es:=[.s (List.map ze0 x98.1),.s (List.map ze0 x100.1)]) ⟨(.rowR rfl (.map fun y=>.vs rfl)),(.rowR rfl (.map fun y=>.vs rfl)),trivial⟩ (laws_sameInts_ok _ _ _ (optT hx103 hg)) (zfree_v _) rfl) rfl ?_
 refine AO.g T [172] rfl ⟨fun h=>h,trivial⟩ rfl rfl ?_
 refine AO.v rfl rfl (zO rfl rfl rfl rfl) ?_
 refine AO.pu T ?_
 iterate 2 refine AO.g T [] rfl trivial rfl rfl ?_
 refine AO.d [176,177] rfl ⟨fun h=>h,fun h=>h,trivial⟩ (fun hg=>zLV rfl rfl rfl (es:=[.s (List.map ze0 x98.2.1),.s (List.map ze0 x100.2.1)]) ⟨(.rowR rfl (.map fun y=>.vs rfl)),(.rowR rfl (.map fun y=>.vs rfl)),trivial⟩ (laws_sameInts_ok _ _ _ (optT hx105 hg)) (zfree_v _) rfl) rfl ?_
 refine AO.g T [178] rfl ⟨fun h=>h,trivial⟩ rfl rfl ?_
 refine AO.v rfl rfl (zO rfl rfl rfl rfl) ?_
 refine AO.n (AW.c (b:=(((!(x98.2.2 == x100.2.2)) || (!x102)) || (!x104))) rfl (fun hc=>?_) (fun hc=>?_))
 replace hH:=condT hc hH
 refine AW.q (AW.r (AO.pu T ?_))
 refine AO.n (AW.t ?_)
 have hR:=zS hH;subst hR
 exact retQ.i [] rfl (.c (.c .v))
 replace hH:=condF hc hH
 refine AW.k ?_
 iterate 2 refine AW.q ?_
 refine AW.r (AO.pu T ?_)
 refine AO.n (AW.c (b:=x98.2.2) rfl (fun hc=>?_) (fun hc=>?_))
 replace hH:=condT hc hH
 refine AW.q ?_
 obtain ⟨x106,hx107,hH⟩:=zB hH
 refine AW.r ?_
 iterate 2 refine AO.pu T ?_
 refine AO.s rfl (call_ok rfl 56 rfl rfl rfl (impl_OrderOfResults_ok fuel _ _ (hx107)) rfl rfl rfl) ?_
 iterate 5 refine AO.pu T ?_
 refine AO.n (AW.le (Le.ct 0 0 (σ':=(⟨[(1,.s (List.map ze5 more)),(22,.p 51 0),(26,.R 54),(27,.R 55),(29,.R 56),(30,.v (.bool x106.2))],[(51,.box [x96.segments,x96.size,x96.key,.s (List.map ze1 x96.entrants),.s (List.map ze0 x96.gone),x96.segment,.s (List.map ze0 x96.order),.s (List.map ze2 x96.results)]),(54,.row 1 (List.map ze0 x100.1)),(55,.row 1 (List.map ze0 x100.2.1)),(56,.row 1 (List.map ze0 x106.1))],291,[]⟩:St))) ?_)
 refine AW.q ?_
 obtain ⟨x108,hx109,hH⟩:=zB hH
 refine AW.r ?_
 iterate 2 refine AO.pu T ?_
 refine AO.s rfl (call_ok rfl 57 rfl rfl rfl (spec_OrderOfResults_ok fuel _ _ (hx109)) rfl rfl rfl) ?_
 iterate 5 refine AO.pu T ?_
 refine AO.n ?_
 iterate 2 refine AW.q ?_
 obtain ⟨x110,hx111,hH⟩:=zB hH
 refine AW.r ?_
 iterate 3 refine AO.pu T ?_
 refine AO.g T [] rfl trivial rfl rfl ?_
 refine AO.g T [197] rfl ⟨fun h=>h,trivial⟩ rfl rfl ?_
 refine AO.v rfl rfl (zO rfl rfl rfl rfl) ?_
 refine AO.pu T ?_
 iterate 2 refine AO.g T [] rfl trivial rfl rfl ?_
 refine AO.d [201,202] rfl ⟨fun h=>h,fun h=>h,trivial⟩ (fun hg=>zLV rfl rfl rfl (es:=[.s (List.map ze0 x106.1),.s (List.map ze0 x108.1)]) ⟨(.rowR rfl (.map fun y=>.vs rfl)),(.rowR rfl (.map fun y=>.vs rfl)),trivial⟩ (laws_sameInts_ok _ _ _ (optT hx111 hg)) (zfree_v _) rfl) rfl ?_
 refine AO.g T [203] rfl ⟨fun h=>h,trivial⟩ rfl rfl ?_
 refine AO.v rfl rfl (zO rfl rfl rfl rfl) ?_
 refine AO.pu T ?_
 refine AO.g T [] rfl trivial rfl rfl ?_
 refine AO.d [207] rfl ⟨fun h=>h,trivial⟩ (fun hg=>len_row_ok T rfl rfl rfl rfl) rfl ?_
 refine AO.g T [] rfl trivial rfl rfl ?_
 refine AO.d [209] rfl ⟨fun h=>h,trivial⟩ (fun hg=>len_row_ok T rfl rfl rfl rfl) rfl ?_
 refine AO.g T [208,210] rfl ⟨fun h=>h,fun h=>h,trivial⟩ rfl rfl ?_
 refine AO.v rfl rfl (zO rfl rfl rfl rfl) ?_
 refine AO.pu T ?_
 refine AO.g T [] rfl trivial rfl rfl ?_
 refine AO.d [214] rfl ⟨fun h=>h,trivial⟩ (fun hg=>len_row_ok T rfl rfl rfl rfl) rfl ?_
 refine AO.g T [] rfl trivial rfl rfl ?_
 refine AO.d [216] rfl ⟨fun h=>h,trivial⟩ (fun hg=>len_row_ok T rfl rfl rfl rfl) rfl ?_
 refine AO.g T [215,217] rfl ⟨fun h=>h,fun h=>h,trivial⟩ rfl rfl ?_
 refine AO.v rfl rfl (zO rfl rfl rfl rfl) ?_
 refine AO.n (AW.le (Le.ct 0 0 (σ':=(⟨[(1,.s (List.map ze5 more)),(22,.p 51 0),(26,.R 54),(27,.R 55),(31,.R 57),(219,.v (.bool (((((!x106.2) || (!x108.2)) || (!x110)) || ((x108.1.length:Int) != (x100.1.length:Int))) || ((x100.2.1.length:Int) != (x100.1.length:Int)))))],[(51,.box [x96.segments,x96.size,x96.key,.s (List.map ze1 x96.entrants),.s (List.map ze0 x96.gone),x96.segment,.s (List.map ze0 x96.order),.s (List.map ze2 x96.results)]),(54,.row 1 (List.map ze0 x100.1)),(55,.row 1 (List.map ze0 x100.2.1)),(57,.row 1 (List.map ze0 x108.1))],291,[]⟩:St))) ?_)
 refine AW.c (b:=(((((!x106.2) || (!x108.2)) || (!x110)) || ((x108.1.length:Int) != (x100.1.length:Int))) || ((x100.2.1.length:Int) != (x100.1.length:Int)))) rfl (fun hc=>?_) (fun hc=>?_)
 replace hH:=condT hc hH
 refine AW.q (AW.r (AO.pu T ?_))
 refine AO.n (AW.t ?_)
 have hR:=zS hH;subst hR
 exact retQ.i [] rfl (.c (.c .v))
 replace hH:=condF hc hH
 refine AW.k (AW.q (AW.r ?_))
 refine AO.pu T ?_
 refine AO.v rfl rfl (len_row_ok T rfl rfl rfl rfl) ?_
 refine AO.pu T ?_
 refine AO.n (AW.b ?_)
 refine AW.loopS (fun s:Nat=>(⟨[(1,.s (List.map ze5 more)),(22,.p 51 0),(26,.R 54),(27,.R 55),(220,.R 57),(221,(x108.1.length:Int)),(222,(s:Int))],[(51,.box [x96.segments,x96.size,x96.key,.s (List.map ze1 x96.entrants),.s (List.map ze0 x96.gone),x96.segment,.s (List.map ze0 x96.order),.s (List.map ze2 x96.results)]),(54,.row 1 (List.map ze0 x100.1)),(55,.row 1 (List.map ze0 x100.2.1)),(57,.row 1 (List.map ze0 x108.1))],291,[]⟩:St)) (fun s=>s ≤ x108.1.length∧laws_FnEvents_l2 more fuel x96 x100 (x108.1.drop s) s=some r) (fun s=>x108.1.length - s) 0 ⟨Nat.zero_le _,hH⟩ ?_ ?_
 exact Le.ct 0 0
 rintro k112 ⟨hk,hH⟩
 replace hH:laws_FnEvents_l2 more fuel x96 x100 (x108.1.drop k112) k112=some r:=hH
 try dsimp only
 refine AW.boundR (id:=57) (l:=x108.1) rfl (fun hb116=>?_)
 rcases hd115:x108.1.drop k112 with _ | ⟨y113,ys114⟩
 rw [hd115,laws_FnEvents_l2] at hH
 have hlt117:=drop_ge hd115
 refine AW.q (AW.r (AO.pu T ?_))
 refine AO.n (AW.q (AW.condF' (b:=decide ((k112:Int) < (x108.1.length:Int))) rfl (rngF hlt117) ?_))
 refine AW.exit (AW.q ?_)
 obtain ⟨x135,hx136,hH⟩:=zB hH
 refine AW.r (AO.pu T ?_)
 refine AO.v rfl rfl (zV rfl rfl rfl rfl (spec_DrawNewEvent_ok _ _ (hx136)) rfl) ?_
 iterate 7 refine AO.pu T ?_
 refine AO.n (AW.q ?_)
 obtain ⟨x137,hx138,hH⟩:=zB hH
 refine AW.r ?_
 iterate 3 refine AO.pu T ?_
 refine AO.s rfl (call_ok rfl 58 rfl rfl rfl (impl_NewEvent_ok _ _ _ _ (hx138)) rfl rfl rfl) ?_
 refine AO.pu T ?_
 refine AO.pu T (d:=.g [x137.1.segments,x137.1.size,x137.1.key,.R 58,.R 59,x137.1.segment,.R 60,.R 61]) ?_
 refine AO.pu T ?_
 refine AO.s rfl (zA T rfl 62 rfl rfl rfl rfl rfl) ?_
 refine AO.se T [x137.1.segments,x137.1.size,x137.1.key,.R 58,.R 59,x137.1.segment,.R 60,.R 61] ?_
 refine AO.pu T ?_
 refine AO.n (AW.q ?_)
 obtain ⟨x139,hx140,hH⟩:=zB hH
 refine AW.r ?_
 iterate 3 refine AO.pu T ?_
 refine AO.s rfl (call_ok rfl 63 rfl rfl rfl (spec_NewEvent_ok fuel _ _ _ _ (hx140)) rfl rfl rfl) ?_
 refine AO.pu T ?_
 refine AO.pu T (d:=.g [x139.1.segments,x139.1.size,x139.1.key,.R 63,.R 64,x139.1.segment,.R 65,.R 66]) ?_
 refine AO.pu T ?_
 refine AO.s rfl (zA T rfl 67 rfl rfl rfl rfl rfl) ?_
 refine AO.se T [x139.1.segments,x139.1.size,x139.1.key,.R 63,.R 64,x139.1.segment,.R 65,.R 66] ?_
 refine AO.pu T ?_
 refine AO.n (AW.le (Le.ct 0 0 (σ':=(⟨[(38,.p 62 0),(39,.v (.bool x137.2)),(40,.p 67 0),(41,.v (.bool x139.2))],[(58,.row 2 (List.map ze1 x137.1.entrants)),(59,.row 1 (List.map ze0 x137.1.gone)),(60,.row 1 (List.map ze0 x137.1.order)),(61,.row 2 (List.map ze6 x137.1.results)),(62,.box [x137.1.segments,x137.1.size,x137.1.key,.R 58,.R 59,x137.1.segment,.R 60,.R 61]),(63,.row 2 (List.map ze1 x139.1.entrants)),(64,.row 1 (List.map ze0 x139.1.gone)),(65,.row 1 (List.map ze0 x139.1.order)),(66,.row 2 (List.map ze2 x139.1.results)),(67,.box [x139.1.segments,x139.1.size,x139.1.key,.R 63,.R 64,x139.1.segment,.R 65,.R 66])],291,[]⟩:St))) ?_)
 refine AW.q ?_
 obtain ⟨x141,hx142,hH⟩:=zB hH
 obtain ⟨x143,hx144,hH⟩:=zB hH
 refine AW.r ?_
 iterate 4 refine AO.pu T ?_
 refine AO.g T (d:=.g [x137.1.segments,x137.1.size,x137.1.key,.R 58,.R 59,x137.1.segment,.R 60,.R 61]) [] rfl trivial rfl rfl ?_
 refine AO.g T (d:=.g [x139.1.segments,x139.1.size,x139.1.key,.R 63,.R 64,x139.1.segment,.R 65,.R 66]) [] rfl trivial rfl rfl ?_
 refine AO.d [279,280] rfl ⟨fun h=>h,fun h=>h,trivial⟩ (fun hg=>zLV rfl rfl rfl (es:=[.g (ze4 (Event.mk x137.1.segments x137.1.size x137.1.key x137.1.entrants x137.1.gone x137.1.segment x137.1.order x137.1.results)),.g (ze4 (Event.mk x139.1.segments x139.1.size x139.1.key x139.1.entrants x139.1.gone x139.1.segment x139.1.order x139.1.results))]) ⟨lend_g (LendL.cons (.free rfl) (LendL.cons (.free rfl) (LendL.cons (.free rfl) (LendL.cons ((.rowR rfl (.map fun y=>.vs rfl))) (LendL.cons ((.rowR rfl (.map fun y=>.vs rfl))) (LendL.cons (.free rfl) (LendL.cons ((.rowR rfl (.map fun y=>.vs rfl))) (LendL.cons ((.rowR rfl (.map fun y=>frzResult y))) LendL.nil)))))))),lend_g (LendL.cons (.free rfl) (LendL.cons (.free rfl) (LendL.cons (.free rfl) (LendL.cons ((.rowR rfl (.map fun y=>.vs rfl))) (LendL.cons ((.rowR rfl (.map fun y=>.vs rfl))) (LendL.cons (.free rfl) (LendL.cons ((.rowR rfl (.map fun y=>.vs rfl))) (LendL.cons ((.rowR rfl (.map fun y=>.vs rfl))) LendL.nil)))))))),trivial⟩ (laws_pSameEvent_ok _ _ _ (optT hx142 hg)) (zfree_v _) rfl) rfl ?_
 refine AO.v rfl rfl (zN rfl rfl rfl rfl) ?_
 refine AO.pu T ?_
 refine AO.g T [] rfl trivial rfl rfl ?_
 refine AO.g T [284] rfl ⟨fun h=>h,trivial⟩ rfl rfl ?_
 refine AO.g T [285] rfl ⟨fun h=>h,trivial⟩ rfl rfl ?_
 refine AO.g T (d:=.g [x137.1.segments,x137.1.size,x137.1.key,.R 58,.R 59,x137.1.segment,.R 60,.R 61]) [] rfl trivial rfl rfl ?_
 refine AO.d [287] rfl ⟨fun h=>h,trivial⟩ (fun hg=>zLV rfl rfl rfl (es:=[.g (ze4 (Event.mk x137.1.segments x137.1.size x137.1.key x137.1.entrants x137.1.gone x137.1.segment x137.1.order x137.1.results))]) ⟨lend_g (LendL.cons (.free rfl) (LendL.cons (.free rfl) (LendL.cons (.free rfl) (LendL.cons ((.rowR rfl (.map fun y=>.vs rfl))) (LendL.cons ((.rowR rfl (.map fun y=>.vs rfl))) (LendL.cons (.free rfl) (LendL.cons ((.rowR rfl (.map fun y=>.vs rfl))) (LendL.cons ((.rowR rfl (.map fun y=>frzResult y))) LendL.nil)))))))),trivial⟩ (impl_IsEvent_ok _ _ (optT hx144 hg)) (zfree_v _) rfl) rfl ?_
 refine AO.d [286] rfl ⟨fun h=>h,trivial⟩ (fun hg=>zO rfl rfl rfl (by rw [hg];exact Bool.true_and _)) rfl ?_
 refine AO.v rfl rfl (zN rfl rfl rfl rfl) ?_
 refine AO.pu T ?_
 refine AO.n (AW.t ?_)
 have hR:=zS hH;subst hR
 exact retQ.i [] rfl (.c (.c .v))
 rw [hd115,laws_FnEvents_l2] at hH
 have hlt117:=drop_lt hd115
 refine AW.q (AW.r (AO.pu T ?_))
 refine AO.n (AW.q (AW.condT' (b:=decide ((k112:Int) < (x108.1.length:Int))) rfl (rngT hlt117) ?_))
 refine AW.k (AW.q ?_)
 refine AW.b (AW.q (AW.r ?_))
 refine AO.pu T ?_
 refine AO.v rfl rfl (zXr T rfl rfl rfl rfl rfl rfl (zgD hd115)) ?_
 refine AO.v rfl rfl (zLr T rfl rfl rfl rfl (zgG (zgD hd115)) rfl rfl rfl) ?_
 iterate 2 refine AO.pu T ?_
 refine AO.n (AW.q ?_)
 obtain ⟨x145,hx146,hH⟩:=zB hH
 obtain ⟨x147,hx148,hH⟩:=zB hH
 obtain ⟨x149,hx150,hH⟩:=zB hH
 obtain ⟨x151,hx152,hH⟩:=zB hH
 refine AW.drawn 24 68 [] mix (by kernel_rfl) rfl ?_
 iterate 3 refine AD.p T rfl rfl rfl ?_
 refine AD.w rfl rfl (zX T rfl rfl rfl rfl rfl (hx146) rfl) ?_
 iterate 4 refine AD.p T rfl rfl rfl ?_
 refine AD.w rfl rfl (zXr T rfl rfl rfl rfl rfl rfl (hx148)) ?_
 refine AD.w rfl rfl (zLr T rfl rfl rfl rfl (zgG (hx148)) rfl rfl rfl) ?_
 iterate 2 refine AD.p T rfl rfl rfl ?_
 refine AD.pureG T [] rfl trivial rfl rfl ?_
 refine AD.pureG T [239] rfl ⟨fun h=>h,trivial⟩ rfl rfl ?_
 refine AD.pureG T [240] rfl ⟨fun h=>h,trivial⟩ rfl rfl ?_
 iterate 2 refine AD.pureG T [] rfl trivial rfl rfl ?_
 refine AD.guard [242,243] rfl ⟨fun h=>h,fun h=>h,trivial⟩ (fun hg=>zXr T rfl rfl rfl rfl rfl rfl (optT hx150 hg)) rfl ?_
 refine AD.guard [244] rfl ⟨fun h=>h,trivial⟩ (fun hg=>zLr T rfl rfl rfl rfl (zgG (optT hx150 hg)) rfl rfl rfl) rfl ?_
 iterate 2 refine AD.pureG T [] rfl trivial rfl rfl ?_
 refine AD.guard [247] rfl ⟨fun h=>h,trivial⟩ (fun hg=>zW rfl rfl rfl rfl) rfl ?_
 refine AD.guard [246,248] rfl ⟨fun h=>h,fun h=>h,trivial⟩ (fun hg=>zXr T rfl rfl rfl rfl rfl rfl (optT hx152 hg)) rfl ?_
 refine AD.guard [249] rfl ⟨fun h=>h,trivial⟩ (fun hg=>zLr T rfl rfl rfl rfl (zgG (optT hx152 hg)) rfl rfl rfl) rfl ?_
 refine AD.nil (AO.g T [245,250] rfl ⟨fun h=>h,fun h=>h,trivial⟩ rfl rfl ?_)
 refine AO.d [241] rfl ⟨fun h=>h,trivial⟩ (fun hg=>zN rfl rfl rfl (by rw [hg];exact Bool.true_and _)) rfl ?_
 refine AO.v rfl rfl (zO rfl rfl rfl rfl) ?_
 refine AO.n (AW.le (Le.ct 0 0 (σ':=(⟨[(1,.s (List.map ze5 more)),(22,.p 51 0),(26,.R 54),(27,.R 55),(220,.R 57),(221,(x108.1.length:Int)),(222,(k112:Int)),(253,.v (.bool ((x145.skater != x147) || (decide ((k112:Int) > 0) && decide (x149 < x151)))))],[(51,.box [x96.segments,x96.size,x96.key,.s (List.map ze1 x96.entrants),.s (List.map ze0 x96.gone),x96.segment,.s (List.map ze0 x96.order),.s (List.map ze2 x96.results)]),(54,.row 1 (List.map ze0 x100.1)),(55,.row 1 (List.map ze0 x100.2.1)),(57,.row 1 (List.map ze0 x108.1))],291,[]⟩:St))) ?_)
 refine AW.c (b:=((x145.skater != x147) || (decide ((k112:Int) > 0) && decide (x149 < x151)))) rfl (fun hc=>?_) (fun hc=>?_)
 replace hH:=condT hc hH
 refine AW.q (AW.r (AO.pu T ?_))
 refine AO.n (AW.t ?_)
 have hR:=zS hH;subst hR
 exact retQ.i [] rfl (.c (.c .v))
 replace hH:=condF hc hH
 refine AW.k (AW.r ?_)
 refine AO.v rfl rfl (zR rfl rfl rfl rfl (zK hlt117 hb116)) ?_
 refine AO.pu T ?_
 refine AO.n ?_
 refine ⟨k112+1,⟨Nat.succ_le_of_lt hlt117,(by rw [zds hd115];exact hH)⟩,(by have:=hlt117;dsimp only;omega),?_⟩
 exact Le.ct 0 0
 replace hH:=condF hc hH
 refine AW.k (AW.q ?_)
 obtain ⟨x153,hx154,hH⟩:=zB hH
 refine AW.r (AO.pu T ?_)
 refine AO.v rfl rfl (zV rfl rfl rfl rfl (spec_DrawNewEvent_ok _ _ (hx154)) rfl) ?_
 iterate 7 refine AO.pu T ?_
 refine AO.n (AW.le (Le.ct 0 0 (σ':=(⟨[(35,x153.1),(36,x153.2.1),(37,x153.2.2)],[],291,[]⟩:St))) ?_)
 refine AW.q ?_
 obtain ⟨x155,hx156,hH⟩:=zB hH
 refine AW.r ?_
 iterate 3 refine AO.pu T ?_
 refine AO.s rfl (call_ok rfl 68 rfl rfl rfl (impl_NewEvent_ok _ _ _ _ (hx156)) rfl rfl rfl) ?_
 refine AO.pu T ?_
 refine AO.pu T (d:=.g [x155.1.segments,x155.1.size,x155.1.key,.R 68,.R 69,x155.1.segment,.R 70,.R 71]) ?_
 refine AO.pu T ?_
 refine AO.s rfl (zA T rfl 72 rfl rfl rfl rfl rfl) ?_
 refine AO.se T [x155.1.segments,x155.1.size,x155.1.key,.R 68,.R 69,x155.1.segment,.R 70,.R 71] ?_
 refine AO.pu T ?_
 refine AO.n (AW.q ?_)
 obtain ⟨x157,hx158,hH⟩:=zB hH
 refine AW.r ?_
 iterate 3 refine AO.pu T ?_
 refine AO.s rfl (call_ok rfl 73 rfl rfl rfl (spec_NewEvent_ok fuel _ _ _ _ (hx158)) rfl rfl rfl) ?_
 refine AO.pu T ?_
 refine AO.pu T (d:=.g [x157.1.segments,x157.1.size,x157.1.key,.R 73,.R 74,x157.1.segment,.R 75,.R 76]) ?_
 refine AO.pu T ?_
 refine AO.s rfl (zA T rfl 77 rfl rfl rfl rfl rfl) ?_
 refine AO.se T [x157.1.segments,x157.1.size,x157.1.key,.R 73,.R 74,x157.1.segment,.R 75,.R 76] ?_
 refine AO.pu T ?_
 refine AO.n (AW.q ?_)
 obtain ⟨x159,hx160,hH⟩:=zB hH
 obtain ⟨x161,hx162,hH⟩:=zB hH
 refine AW.r ?_
 iterate 4 refine AO.pu T ?_
 refine AO.g T (d:=.g [x155.1.segments,x155.1.size,x155.1.key,.R 68,.R 69,x155.1.segment,.R 70,.R 71]) [] rfl trivial rfl rfl ?_
 refine AO.g T (d:=.g [x157.1.segments,x157.1.size,x157.1.key,.R 73,.R 74,x157.1.segment,.R 75,.R 76]) [] rfl trivial rfl rfl ?_
 refine AO.d [279,280] rfl ⟨fun h=>h,fun h=>h,trivial⟩ (fun hg=>zLV rfl rfl rfl (es:=[.g (ze4 (Event.mk x155.1.segments x155.1.size x155.1.key x155.1.entrants x155.1.gone x155.1.segment x155.1.order x155.1.results)),.g (ze4 (Event.mk x157.1.segments x157.1.size x157.1.key x157.1.entrants x157.1.gone x157.1.segment x157.1.order x157.1.results))]) ⟨lend_g (LendL.cons (.free rfl) (LendL.cons (.free rfl) (LendL.cons (.free rfl) (LendL.cons ((.rowR rfl (.map fun y=>.vs rfl))) (LendL.cons ((.rowR rfl (.map fun y=>.vs rfl))) (LendL.cons (.free rfl) (LendL.cons ((.rowR rfl (.map fun y=>.vs rfl))) (LendL.cons ((.rowR rfl (.map fun y=>frzResult y))) LendL.nil)))))))),lend_g (LendL.cons (.free rfl) (LendL.cons (.free rfl) (LendL.cons (.free rfl) (LendL.cons ((.rowR rfl (.map fun y=>.vs rfl))) (LendL.cons ((.rowR rfl (.map fun y=>.vs rfl))) (LendL.cons (.free rfl) (LendL.cons ((.rowR rfl (.map fun y=>.vs rfl))) (LendL.cons ((.rowR rfl (.map fun y=>.vs rfl))) LendL.nil)))))))),trivial⟩ (laws_pSameEvent_ok _ _ _ (optT hx160 hg)) (zfree_v _) rfl) rfl ?_
 refine AO.v rfl rfl (zN rfl rfl rfl rfl) ?_
 refine AO.pu T ?_
 refine AO.g T [] rfl trivial rfl rfl ?_
 refine AO.g T [284] rfl ⟨fun h=>h,trivial⟩ rfl rfl ?_
 refine AO.g T [285] rfl ⟨fun h=>h,trivial⟩ rfl rfl ?_
 refine AO.g T (d:=.g [x155.1.segments,x155.1.size,x155.1.key,.R 68,.R 69,x155.1.segment,.R 70,.R 71]) [] rfl trivial rfl rfl ?_
 refine AO.d [287] rfl ⟨fun h=>h,trivial⟩ (fun hg=>zLV rfl rfl rfl (es:=[.g (ze4 (Event.mk x155.1.segments x155.1.size x155.1.key x155.1.entrants x155.1.gone x155.1.segment x155.1.order x155.1.results))]) ⟨lend_g (LendL.cons (.free rfl) (LendL.cons (.free rfl) (LendL.cons (.free rfl) (LendL.cons ((.rowR rfl (.map fun y=>.vs rfl))) (LendL.cons ((.rowR rfl (.map fun y=>.vs rfl))) (LendL.cons (.free rfl) (LendL.cons ((.rowR rfl (.map fun y=>.vs rfl))) (LendL.cons ((.rowR rfl (.map fun y=>frzResult y))) LendL.nil)))))))),trivial⟩ (impl_IsEvent_ok _ _ (optT hx162 hg)) (zfree_v _) rfl) rfl ?_
 refine AO.d [286] rfl ⟨fun h=>h,trivial⟩ (fun hg=>zO rfl rfl rfl (by rw [hg];exact Bool.true_and _)) rfl ?_
 refine AO.v rfl rfl (zN rfl rfl rfl rfl) ?_
 refine AO.pu T ?_
 refine AO.n (AW.le (Le.ct 0 0 (σ':=(⟨[(4,.v (.bool (((x155.2 == x157.2) && x159) && ((!x155.2) || x161))))],[],291,[]⟩:St))) ?_)
 refine AW.t ?_
 have hR:=zS hH;subst hR
 exact retQ.i [] rfl (.c (.c .v))
 replace hH:=condF hc hH
 refine AW.k (AW.q ?_)
 obtain ⟨x163,hx164,hH⟩:=zB hH
 refine AW.r (AO.pu T ?_)
 refine AO.v rfl rfl (zV rfl rfl rfl rfl (spec_DrawStandingsOf_ok fuel _ _ (hx164)) rfl) ?_
 refine AO.s rfl (zA T rfl 78 rfl rfl rfl rfl rfl) ?_
 refine AO.se T [x163.segments,x163.size,x163.key,.s (List.map ze1 x163.entrants),.s (List.map ze0 x163.gone),x163.segment,.s (List.map ze0 x163.order),.s (List.map ze2 x163.results)] ?_
 refine AO.n (AW.q ?_)
 obtain ⟨x165,hx166,hH⟩:=zB hH
 refine AW.r (AO.pu T (d:=.g [x163.segments,x163.size,x163.key,.s (List.map ze1 x163.entrants),.s (List.map ze0 x163.gone),x163.segment,.s (List.map ze0 x163.order),.s (List.map ze2 x163.results)]) ?_)
 refine AO.s rfl (call_ok rfl 79 rfl rfl rfl (impl_StandingsOf_ok fuel _ _ (hx166)) rfl rfl rfl) ?_
 iterate 7 refine AO.pu T ?_
 refine AO.n (AW.le (Le.ct 0 0 (σ':=(⟨[(1,.s (List.map ze5 more)),(22,.p 78 0),(23,.R 79),(24,.R 80),(25,.v (.bool x165.2.2))],[(78,.box [x163.segments,x163.size,x163.key,.s (List.map ze1 x163.entrants),.s (List.map ze0 x163.gone),x163.segment,.s (List.map ze0 x163.order),.s (List.map ze2 x163.results)]),(79,.row 1 (List.map ze0 x165.1)),(80,.row 1 (List.map ze0 x165.2.1))],291,[]⟩:St))) ?_)
 refine AW.q ?_
 obtain ⟨x167,hx168,hH⟩:=zB hH
 refine AW.r (AO.pu T (d:=.g [x163.segments,x163.size,x163.key,.s (List.map ze1 x163.entrants),.s (List.map ze0 x163.gone),x163.segment,.s (List.map ze0 x163.order),.s (List.map ze2 x163.results)]) ?_)
 refine AO.s rfl (call_ok rfl 81 rfl rfl rfl (spec_StandingsOf_ok fuel _ _ (hx168)) rfl rfl rfl) ?_
 iterate 7 refine AO.pu T ?_
 refine AO.n ?_
 iterate 2 refine AW.q ?_
 obtain ⟨x169,hx170,hH⟩:=zB hH
 obtain ⟨x171,hx172,hH⟩:=zB hH
 refine AW.r ?_
 iterate 4 refine AO.pu T ?_
 iterate 2 refine AO.g T [] rfl trivial rfl rfl ?_
 refine AO.d [170,171] rfl ⟨fun h=>h,fun h=>h,trivial⟩ (fun hg=>zLV rfl rfl rfl (es:=[.s (List.map ze0 x165.1),.s (List.map ze0 x167.1)]) ⟨(.rowR rfl (.map fun y=>.vs rfl)),(.rowR rfl (.map fun y=>.vs rfl)),trivial⟩ (laws_sameInts_ok _ _ _ (optT hx170 hg)) (zfree_v _) rfl) rfl ?_
 refine AO.g T [172] rfl ⟨fun h=>h,trivial⟩ rfl rfl ?_
 refine AO.v rfl rfl (zO rfl rfl rfl rfl) ?_
 refine AO.pu T ?_
 iterate 2 refine AO.g T [] rfl trivial rfl rfl ?_
 refine AO.d [176,177] rfl ⟨fun h=>h,fun h=>h,trivial⟩ (fun hg=>zLV rfl rfl rfl (es:=[.s (List.map ze0 x165.2.1),.s (List.map ze0 x167.2.1)]) ⟨(.rowR rfl (.map fun y=>.vs rfl)),(.rowR rfl (.map fun y=>.vs rfl)),trivial⟩ (laws_sameInts_ok _ _ _ (optT hx172 hg)) (zfree_v _) rfl) rfl ?_
 refine AO.g T [178] rfl ⟨fun h=>h,trivial⟩ rfl rfl ?_
 refine AO.v rfl rfl (zO rfl rfl rfl rfl) ?_
 refine AO.n (AW.le (Le.ct 0 0 (σ':=(⟨[(1,.s (List.map ze5 more)),(22,.p 78 0),(25,.v (.bool x165.2.2)),(26,.R 81),(27,.R 82),(180,.v (.bool (((!(x165.2.2 == x167.2.2)) || (!x169)) || (!x171))))],[(78,.box [x163.segments,x163.size,x163.key,.s (List.map ze1 x163.entrants),.s (List.map ze0 x163.gone),x163.segment,.s (List.map ze0 x163.order),.s (List.map ze2 x163.results)]),(81,.row 1 (List.map ze0 x167.1)),(82,.row 1 (List.map ze0 x167.2.1))],291,[]⟩:St))) ?_)
 refine AW.c (b:=(((!(x165.2.2 == x167.2.2)) || (!x169)) || (!x171))) rfl (fun hc=>?_) (fun hc=>?_)
 replace hH:=condT hc hH
 refine AW.q (AW.r (AO.pu T ?_))
 refine AO.n (AW.t ?_)
 have hR:=zS hH;subst hR
 exact retQ.i [] rfl (.c (.c .v))
 replace hH:=condF hc hH
 refine AW.k ?_
 iterate 2 refine AW.q ?_
 refine AW.r (AO.pu T ?_)
 refine AO.n (AW.c (b:=x165.2.2) rfl (fun hc=>?_) (fun hc=>?_))
 replace hH:=condT hc hH
 refine AW.q ?_
 obtain ⟨x173,hx174,hH⟩:=zB hH
 refine AW.r ?_
 iterate 2 refine AO.pu T ?_
 refine AO.s rfl (call_ok rfl 83 rfl rfl rfl (impl_OrderOfResults_ok fuel _ _ (hx174)) rfl rfl rfl) ?_
 iterate 5 refine AO.pu T ?_
 refine AO.n (AW.q ?_)
 obtain ⟨x175,hx176,hH⟩:=zB hH
 refine AW.r ?_
 iterate 2 refine AO.pu T ?_
 refine AO.s rfl (call_ok rfl 84 rfl rfl rfl (spec_OrderOfResults_ok fuel _ _ (hx176)) rfl rfl rfl) ?_
 iterate 5 refine AO.pu T ?_
 refine AO.n ?_
 iterate 2 refine AW.q ?_
 obtain ⟨x177,hx178,hH⟩:=zB hH
 refine AW.r ?_
 iterate 3 refine AO.pu T ?_
 refine AO.g T [] rfl trivial rfl rfl ?_
 refine AO.g T [197] rfl ⟨fun h=>h,trivial⟩ rfl rfl ?_
 refine AO.v rfl rfl (zO rfl rfl rfl rfl) ?_
 refine AO.pu T ?_
 iterate 2 refine AO.g T [] rfl trivial rfl rfl ?_
 refine AO.d [201,202] rfl ⟨fun h=>h,fun h=>h,trivial⟩ (fun hg=>zLV rfl rfl rfl (es:=[.s (List.map ze0 x173.1),.s (List.map ze0 x175.1)]) ⟨(.rowR rfl (.map fun y=>.vs rfl)),(.rowR rfl (.map fun y=>.vs rfl)),trivial⟩ (laws_sameInts_ok _ _ _ (optT hx178 hg)) (zfree_v _) rfl) rfl ?_
 refine AO.g T [203] rfl ⟨fun h=>h,trivial⟩ rfl rfl ?_
 refine AO.v rfl rfl (zO rfl rfl rfl rfl) ?_
 refine AO.pu T ?_
 refine AO.g T [] rfl trivial rfl rfl ?_
 refine AO.d [207] rfl ⟨fun h=>h,trivial⟩ (fun hg=>len_row_ok T rfl rfl rfl rfl) rfl ?_
 refine AO.g T [] rfl trivial rfl rfl ?_
 refine AO.d [209] rfl ⟨fun h=>h,trivial⟩ (fun hg=>len_row_ok T rfl rfl rfl rfl) rfl ?_
 refine AO.g T [208,210] rfl ⟨fun h=>h,fun h=>h,trivial⟩ rfl rfl ?_
 refine AO.v rfl rfl (zO rfl rfl rfl rfl) ?_
 refine AO.pu T ?_
 refine AO.g T [] rfl trivial rfl rfl ?_
 refine AO.d [214] rfl ⟨fun h=>h,trivial⟩ (fun hg=>len_row_ok T rfl rfl rfl rfl) rfl ?_
 refine AO.g T [] rfl trivial rfl rfl ?_
 refine AO.d [216] rfl ⟨fun h=>h,trivial⟩ (fun hg=>len_row_ok T rfl rfl rfl rfl) rfl ?_
 refine AO.g T [215,217] rfl ⟨fun h=>h,fun h=>h,trivial⟩ rfl rfl ?_
 refine AO.v rfl rfl (zO rfl rfl rfl rfl) ?_
 refine AO.n (AW.le (Le.ct 0 0 (σ':=(⟨[(1,.s (List.map ze5 more)),(22,.p 78 0),(26,.R 81),(27,.R 82),(31,.R 84),(219,.v (.bool (((((!x173.2) || (!x175.2)) || (!x177)) || ((x175.1.length:Int) != (x167.1.length:Int))) || ((x167.2.1.length:Int) != (x167.1.length:Int)))))],[(78,.box [x163.segments,x163.size,x163.key,.s (List.map ze1 x163.entrants),.s (List.map ze0 x163.gone),x163.segment,.s (List.map ze0 x163.order),.s (List.map ze2 x163.results)]),(81,.row 1 (List.map ze0 x167.1)),(82,.row 1 (List.map ze0 x167.2.1)),(84,.row 1 (List.map ze0 x175.1))],291,[]⟩:St))) ?_)
 refine AW.c (b:=(((((!x173.2) || (!x175.2)) || (!x177)) || ((x175.1.length:Int) != (x167.1.length:Int))) || ((x167.2.1.length:Int) != (x167.1.length:Int)))) rfl (fun hc=>?_) (fun hc=>?_)
 replace hH:=condT hc hH
 refine AW.q (AW.r (AO.pu T ?_))
 refine AO.n (AW.t ?_)
 have hR:=zS hH;subst hR
 exact retQ.i [] rfl (.c (.c .v))
 replace hH:=condF hc hH
 refine AW.k (AW.q (AW.r ?_))
 refine AO.pu T ?_
 refine AO.v rfl rfl (len_row_ok T rfl rfl rfl rfl) ?_
 refine AO.pu T ?_
 refine AO.n (AW.b ?_)
 refine AW.loopS (fun s:Nat=>(⟨[(1,.s (List.map ze5 more)),(22,.p 78 0),(26,.R 81),(27,.R 82),(220,.R 84),(221,(x175.1.length:Int)),(222,(s:Int))],[(78,.box [x163.segments,x163.size,x163.key,.s (List.map ze1 x163.entrants),.s (List.map ze0 x163.gone),x163.segment,.s (List.map ze0 x163.order),.s (List.map ze2 x163.results)]),(81,.row 1 (List.map ze0 x167.1)),(82,.row 1 (List.map ze0 x167.2.1)),(84,.row 1 (List.map ze0 x175.1))],291,[]⟩:St)) (fun s=>s ≤ x175.1.length∧laws_FnEvents_l3 more fuel x163 x167 (x175.1.drop s) s=some r) (fun s=>x175.1.length - s) 0 ⟨Nat.zero_le _,hH⟩ ?_ ?_
 exact Le.ct 0 0
 rintro k179 ⟨hk,hH⟩
 replace hH:laws_FnEvents_l3 more fuel x163 x167 (x175.1.drop k179) k179=some r:=hH
 try dsimp only
 refine AW.boundR (id:=84) (l:=x175.1) rfl (fun hb183=>?_)
 rcases hd182:x175.1.drop k179 with _ | ⟨y180,ys181⟩
 rw [hd182,laws_FnEvents_l3] at hH
 have hlt184:=drop_ge hd182
 refine AW.q (AW.r (AO.pu T ?_))
 refine AO.n (AW.q (AW.condF' (b:=decide ((k179:Int) < (x175.1.length:Int))) rfl (rngF hlt184) ?_))
 refine AW.exit (AW.q ?_)
 obtain ⟨x202,hx203,hH⟩:=zB hH
 refine AW.r (AO.pu T ?_)
 refine AO.v rfl rfl (zV rfl rfl rfl rfl (spec_DrawNewEvent_ok _ _ (hx203)) rfl) ?_
 iterate 7 refine AO.pu T ?_
 refine AO.n (AW.q ?_)
 obtain ⟨x204,hx205,hH⟩:=zB hH
 refine AW.r ?_
 iterate 3 refine AO.pu T ?_
 refine AO.s rfl (call_ok rfl 85 rfl rfl rfl (impl_NewEvent_ok _ _ _ _ (hx205)) rfl rfl rfl) ?_
 refine AO.pu T ?_
 refine AO.pu T (d:=.g [x204.1.segments,x204.1.size,x204.1.key,.R 85,.R 86,x204.1.segment,.R 87,.R 88]) ?_
 refine AO.pu T ?_
 refine AO.s rfl (zA T rfl 89 rfl rfl rfl rfl rfl) ?_
 refine AO.se T [x204.1.segments,x204.1.size,x204.1.key,.R 85,.R 86,x204.1.segment,.R 87,.R 88] ?_
 refine AO.pu T ?_
 refine AO.n (AW.q ?_)
 obtain ⟨x206,hx207,hH⟩:=zB hH
 refine AW.r ?_
 iterate 3 refine AO.pu T ?_
 refine AO.s rfl (call_ok rfl 90 rfl rfl rfl (spec_NewEvent_ok fuel _ _ _ _ (hx207)) rfl rfl rfl) ?_
 refine AO.pu T ?_
 refine AO.pu T (d:=.g [x206.1.segments,x206.1.size,x206.1.key,.R 90,.R 91,x206.1.segment,.R 92,.R 93]) ?_
 refine AO.pu T ?_
 refine AO.s rfl (zA T rfl 94 rfl rfl rfl rfl rfl) ?_
 refine AO.se T [x206.1.segments,x206.1.size,x206.1.key,.R 90,.R 91,x206.1.segment,.R 92,.R 93] ?_
 refine AO.pu T ?_
 refine AO.n (AW.le (Le.ct 0 0 (σ':=(⟨[(38,.p 89 0),(39,.v (.bool x204.2)),(40,.p 94 0),(41,.v (.bool x206.2))],[(85,.row 2 (List.map ze1 x204.1.entrants)),(86,.row 1 (List.map ze0 x204.1.gone)),(87,.row 1 (List.map ze0 x204.1.order)),(88,.row 2 (List.map ze6 x204.1.results)),(89,.box [x204.1.segments,x204.1.size,x204.1.key,.R 85,.R 86,x204.1.segment,.R 87,.R 88]),(90,.row 2 (List.map ze1 x206.1.entrants)),(91,.row 1 (List.map ze0 x206.1.gone)),(92,.row 1 (List.map ze0 x206.1.order)),(93,.row 2 (List.map ze2 x206.1.results)),(94,.box [x206.1.segments,x206.1.size,x206.1.key,.R 90,.R 91,x206.1.segment,.R 92,.R 93])],291,[]⟩:St))) ?_)
 refine AW.q ?_
 obtain ⟨x208,hx209,hH⟩:=zB hH
 obtain ⟨x210,hx211,hH⟩:=zB hH
 refine AW.r ?_
 iterate 4 refine AO.pu T ?_
 refine AO.g T (d:=.g [x204.1.segments,x204.1.size,x204.1.key,.R 85,.R 86,x204.1.segment,.R 87,.R 88]) [] rfl trivial rfl rfl ?_
 refine AO.g T (d:=.g [x206.1.segments,x206.1.size,x206.1.key,.R 90,.R 91,x206.1.segment,.R 92,.R 93]) [] rfl trivial rfl rfl ?_
 refine AO.d [279,280] rfl ⟨fun h=>h,fun h=>h,trivial⟩ (fun hg=>zLV rfl rfl rfl (es:=[.g (ze4 (Event.mk x204.1.segments x204.1.size x204.1.key x204.1.entrants x204.1.gone x204.1.segment x204.1.order x204.1.results)),.g (ze4 (Event.mk x206.1.segments x206.1.size x206.1.key x206.1.entrants x206.1.gone x206.1.segment x206.1.order x206.1.results))]) ⟨lend_g (LendL.cons (.free rfl) (LendL.cons (.free rfl) (LendL.cons (.free rfl) (LendL.cons ((.rowR rfl (.map fun y=>.vs rfl))) (LendL.cons ((.rowR rfl (.map fun y=>.vs rfl))) (LendL.cons (.free rfl) (LendL.cons ((.rowR rfl (.map fun y=>.vs rfl))) (LendL.cons ((.rowR rfl (.map fun y=>frzResult y))) LendL.nil)))))))),lend_g (LendL.cons (.free rfl) (LendL.cons (.free rfl) (LendL.cons (.free rfl) (LendL.cons ((.rowR rfl (.map fun y=>.vs rfl))) (LendL.cons ((.rowR rfl (.map fun y=>.vs rfl))) (LendL.cons (.free rfl) (LendL.cons ((.rowR rfl (.map fun y=>.vs rfl))) (LendL.cons ((.rowR rfl (.map fun y=>.vs rfl))) LendL.nil)))))))),trivial⟩ (laws_pSameEvent_ok _ _ _ (optT hx209 hg)) (zfree_v _) rfl) rfl ?_
 refine AO.v rfl rfl (zN rfl rfl rfl rfl) ?_
 refine AO.pu T ?_
 refine AO.g T [] rfl trivial rfl rfl ?_
 refine AO.g T [284] rfl ⟨fun h=>h,trivial⟩ rfl rfl ?_
 refine AO.g T [285] rfl ⟨fun h=>h,trivial⟩ rfl rfl ?_
 refine AO.g T (d:=.g [x204.1.segments,x204.1.size,x204.1.key,.R 85,.R 86,x204.1.segment,.R 87,.R 88]) [] rfl trivial rfl rfl ?_
 refine AO.d [287] rfl ⟨fun h=>h,trivial⟩ (fun hg=>zLV rfl rfl rfl (es:=[.g (ze4 (Event.mk x204.1.segments x204.1.size x204.1.key x204.1.entrants x204.1.gone x204.1.segment x204.1.order x204.1.results))]) ⟨lend_g (LendL.cons (.free rfl) (LendL.cons (.free rfl) (LendL.cons (.free rfl) (LendL.cons ((.rowR rfl (.map fun y=>.vs rfl))) (LendL.cons ((.rowR rfl (.map fun y=>.vs rfl))) (LendL.cons (.free rfl) (LendL.cons ((.rowR rfl (.map fun y=>.vs rfl))) (LendL.cons ((.rowR rfl (.map fun y=>frzResult y))) LendL.nil)))))))),trivial⟩ (impl_IsEvent_ok _ _ (optT hx211 hg)) (zfree_v _) rfl) rfl ?_
 refine AO.d [286] rfl ⟨fun h=>h,trivial⟩ (fun hg=>zO rfl rfl rfl (by rw [hg];exact Bool.true_and _)) rfl ?_
 refine AO.v rfl rfl (zN rfl rfl rfl rfl) ?_
 refine AO.pu T ?_
 refine AO.n (AW.t ?_)
 have hR:=zS hH;subst hR
 exact retQ.i [] rfl (.c (.c .v))
 rw [hd182,laws_FnEvents_l3] at hH
 have hlt184:=drop_lt hd182
 refine AW.q (AW.r (AO.pu T ?_))
 refine AO.n (AW.q (AW.condT' (b:=decide ((k179:Int) < (x175.1.length:Int))) rfl (rngT hlt184) ?_))
 refine AW.k (AW.q ?_)
 refine AW.b (AW.q (AW.r ?_))
 refine AO.pu T ?_
 refine AO.v rfl rfl (zXr T rfl rfl rfl rfl rfl rfl (zgD hd182)) ?_
 refine AO.v rfl rfl (zLr T rfl rfl rfl rfl (zgG (zgD hd182)) rfl rfl rfl) ?_
 iterate 2 refine AO.pu T ?_
 refine AO.n (AW.q ?_)
 obtain ⟨x212,hx213,hH⟩:=zB hH
 obtain ⟨x214,hx215,hH⟩:=zB hH
 obtain ⟨x216,hx217,hH⟩:=zB hH
 obtain ⟨x218,hx219,hH⟩:=zB hH
 refine AW.drawn 24 95 [] mix (by kernel_rfl) rfl ?_
 iterate 3 refine AD.p T rfl rfl rfl ?_
 refine AD.w rfl rfl (zX T rfl rfl rfl rfl rfl (hx213) rfl) ?_
 iterate 4 refine AD.p T rfl rfl rfl ?_
 refine AD.w rfl rfl (zXr T rfl rfl rfl rfl rfl rfl (hx215)) ?_
 refine AD.w rfl rfl (zLr T rfl rfl rfl rfl (zgG (hx215)) rfl rfl rfl) ?_
 iterate 2 refine AD.p T rfl rfl rfl ?_
 refine AD.pureG T [] rfl trivial rfl rfl ?_
 refine AD.pureG T [239] rfl ⟨fun h=>h,trivial⟩ rfl rfl ?_
 refine AD.pureG T [240] rfl ⟨fun h=>h,trivial⟩ rfl rfl ?_
 iterate 2 refine AD.pureG T [] rfl trivial rfl rfl ?_
 refine AD.guard [242,243] rfl ⟨fun h=>h,fun h=>h,trivial⟩ (fun hg=>zXr T rfl rfl rfl rfl rfl rfl (optT hx217 hg)) rfl ?_
 refine AD.guard [244] rfl ⟨fun h=>h,trivial⟩ (fun hg=>zLr T rfl rfl rfl rfl (zgG (optT hx217 hg)) rfl rfl rfl) rfl ?_
 iterate 2 refine AD.pureG T [] rfl trivial rfl rfl ?_
 refine AD.guard [247] rfl ⟨fun h=>h,trivial⟩ (fun hg=>zW rfl rfl rfl rfl) rfl ?_
 refine AD.guard [246,248] rfl ⟨fun h=>h,fun h=>h,trivial⟩ (fun hg=>zXr T rfl rfl rfl rfl rfl rfl (optT hx219 hg)) rfl ?_
 refine AD.guard [249] rfl ⟨fun h=>h,trivial⟩ (fun hg=>zLr T rfl rfl rfl rfl (zgG (optT hx219 hg)) rfl rfl rfl) rfl ?_
 refine AD.nil (AO.g T [245,250] rfl ⟨fun h=>h,fun h=>h,trivial⟩ rfl rfl ?_)
 refine AO.d [241] rfl ⟨fun h=>h,trivial⟩ (fun hg=>zN rfl rfl rfl (by rw [hg];exact Bool.true_and _)) rfl ?_
 refine AO.v rfl rfl (zO rfl rfl rfl rfl) ?_
 refine AO.n (AW.le (Le.ct 0 0 (σ':=(⟨[(1,.s (List.map ze5 more)),(22,.p 78 0),(26,.R 81),(27,.R 82),(220,.R 84),(221,(x175.1.length:Int)),(222,(k179:Int)),(253,.v (.bool ((x212.skater != x214) || (decide ((k179:Int) > 0) && decide (x216 < x218)))))],[(78,.box [x163.segments,x163.size,x163.key,.s (List.map ze1 x163.entrants),.s (List.map ze0 x163.gone),x163.segment,.s (List.map ze0 x163.order),.s (List.map ze2 x163.results)]),(81,.row 1 (List.map ze0 x167.1)),(82,.row 1 (List.map ze0 x167.2.1)),(84,.row 1 (List.map ze0 x175.1))],291,[]⟩:St))) ?_)
 refine AW.c (b:=((x212.skater != x214) || (decide ((k179:Int) > 0) && decide (x216 < x218)))) rfl (fun hc=>?_) (fun hc=>?_)
 replace hH:=condT hc hH
 refine AW.q (AW.r (AO.pu T ?_))
 refine AO.n (AW.t ?_)
 have hR:=zS hH;subst hR
 exact retQ.i [] rfl (.c (.c .v))
 replace hH:=condF hc hH
 refine AW.k (AW.r ?_)
 refine AO.v rfl rfl (zR rfl rfl rfl rfl (zK hlt184 hb183)) ?_
 refine AO.pu T ?_
 refine AO.n ?_
 refine ⟨k179+1,⟨Nat.succ_le_of_lt hlt184,(by rw [zds hd182];exact hH)⟩,(by have:=hlt184;dsimp only;omega),?_⟩
 exact Le.ct 0 0
 replace hH:=condF hc hH
 refine AW.k (AW.q ?_)
 obtain ⟨x220,hx221,hH⟩:=zB hH
 refine AW.r (AO.pu T ?_)
 refine AO.v rfl rfl (zV rfl rfl rfl rfl (spec_DrawNewEvent_ok _ _ (hx221)) rfl) ?_
 iterate 7 refine AO.pu T ?_
 refine AO.n (AW.q ?_)
 obtain ⟨x222,hx223,hH⟩:=zB hH
 refine AW.r ?_
 iterate 3 refine AO.pu T ?_
 refine AO.s rfl (call_ok rfl 95 rfl rfl rfl (impl_NewEvent_ok _ _ _ _ (hx223)) rfl rfl rfl) ?_
 refine AO.pu T ?_
 refine AO.pu T (d:=.g [x222.1.segments,x222.1.size,x222.1.key,.R 95,.R 96,x222.1.segment,.R 97,.R 98]) ?_
 refine AO.pu T ?_
 refine AO.s rfl (zA T rfl 99 rfl rfl rfl rfl rfl) ?_
 refine AO.se T [x222.1.segments,x222.1.size,x222.1.key,.R 95,.R 96,x222.1.segment,.R 97,.R 98] ?_
 refine AO.pu T ?_
 refine AO.n (AW.q ?_)
 obtain ⟨x224,hx225,hH⟩:=zB hH
 refine AW.r ?_
 iterate 3 refine AO.pu T ?_
 refine AO.s rfl (call_ok rfl 100 rfl rfl rfl (spec_NewEvent_ok fuel _ _ _ _ (hx225)) rfl rfl rfl) ?_
 refine AO.pu T ?_
 refine AO.pu T (d:=.g [x224.1.segments,x224.1.size,x224.1.key,.R 100,.R 101,x224.1.segment,.R 102,.R 103]) ?_
 refine AO.pu T ?_
 refine AO.s rfl (zA T rfl 104 rfl rfl rfl rfl rfl) ?_
 refine AO.se T [x224.1.segments,x224.1.size,x224.1.key,.R 100,.R 101,x224.1.segment,.R 102,.R 103] ?_
 refine AO.pu T ?_
 refine AO.n (AW.le (Le.ct 0 0 (σ':=(⟨[(38,.p 99 0),(39,.v (.bool x222.2)),(40,.p 104 0),(41,.v (.bool x224.2))],[(95,.row 2 (List.map ze1 x222.1.entrants)),(96,.row 1 (List.map ze0 x222.1.gone)),(97,.row 1 (List.map ze0 x222.1.order)),(98,.row 2 (List.map ze6 x222.1.results)),(99,.box [x222.1.segments,x222.1.size,x222.1.key,.R 95,.R 96,x222.1.segment,.R 97,.R 98]),(100,.row 2 (List.map ze1 x224.1.entrants)),(101,.row 1 (List.map ze0 x224.1.gone)),(102,.row 1 (List.map ze0 x224.1.order)),(103,.row 2 (List.map ze2 x224.1.results)),(104,.box [x224.1.segments,x224.1.size,x224.1.key,.R 100,.R 101,x224.1.segment,.R 102,.R 103])],291,[]⟩:St))) ?_)
 refine AW.q ?_
 obtain ⟨x226,hx227,hH⟩:=zB hH
 obtain ⟨x228,hx229,hH⟩:=zB hH
 refine AW.r ?_
 iterate 4 refine AO.pu T ?_
 refine AO.g T (d:=.g [x222.1.segments,x222.1.size,x222.1.key,.R 95,.R 96,x222.1.segment,.R 97,.R 98]) [] rfl trivial rfl rfl ?_
 refine AO.g T (d:=.g [x224.1.segments,x224.1.size,x224.1.key,.R 100,.R 101,x224.1.segment,.R 102,.R 103]) [] rfl trivial rfl rfl ?_
 refine AO.d [279,280] rfl ⟨fun h=>h,fun h=>h,trivial⟩ (fun hg=>zLV rfl rfl rfl (es:=[.g (ze4 (Event.mk x222.1.segments x222.1.size x222.1.key x222.1.entrants x222.1.gone x222.1.segment x222.1.order x222.1.results)),.g (ze4 (Event.mk x224.1.segments x224.1.size x224.1.key x224.1.entrants x224.1.gone x224.1.segment x224.1.order x224.1.results))]) ⟨lend_g (LendL.cons (.free rfl) (LendL.cons (.free rfl) (LendL.cons (.free rfl) (LendL.cons ((.rowR rfl (.map fun y=>.vs rfl))) (LendL.cons ((.rowR rfl (.map fun y=>.vs rfl))) (LendL.cons (.free rfl) (LendL.cons ((.rowR rfl (.map fun y=>.vs rfl))) (LendL.cons ((.rowR rfl (.map fun y=>frzResult y))) LendL.nil)))))))),lend_g (LendL.cons (.free rfl) (LendL.cons (.free rfl) (LendL.cons (.free rfl) (LendL.cons ((.rowR rfl (.map fun y=>.vs rfl))) (LendL.cons ((.rowR rfl (.map fun y=>.vs rfl))) (LendL.cons (.free rfl) (LendL.cons ((.rowR rfl (.map fun y=>.vs rfl))) (LendL.cons ((.rowR rfl (.map fun y=>.vs rfl))) LendL.nil)))))))),trivial⟩ (laws_pSameEvent_ok _ _ _ (optT hx227 hg)) (zfree_v _) rfl) rfl ?_
 refine AO.v rfl rfl (zN rfl rfl rfl rfl) ?_
 refine AO.pu T ?_
 refine AO.g T [] rfl trivial rfl rfl ?_
 refine AO.g T [284] rfl ⟨fun h=>h,trivial⟩ rfl rfl ?_
 refine AO.g T [285] rfl ⟨fun h=>h,trivial⟩ rfl rfl ?_
 refine AO.g T (d:=.g [x222.1.segments,x222.1.size,x222.1.key,.R 95,.R 96,x222.1.segment,.R 97,.R 98]) [] rfl trivial rfl rfl ?_
 refine AO.d [287] rfl ⟨fun h=>h,trivial⟩ (fun hg=>zLV rfl rfl rfl (es:=[.g (ze4 (Event.mk x222.1.segments x222.1.size x222.1.key x222.1.entrants x222.1.gone x222.1.segment x222.1.order x222.1.results))]) ⟨lend_g (LendL.cons (.free rfl) (LendL.cons (.free rfl) (LendL.cons (.free rfl) (LendL.cons ((.rowR rfl (.map fun y=>.vs rfl))) (LendL.cons ((.rowR rfl (.map fun y=>.vs rfl))) (LendL.cons (.free rfl) (LendL.cons ((.rowR rfl (.map fun y=>.vs rfl))) (LendL.cons ((.rowR rfl (.map fun y=>frzResult y))) LendL.nil)))))))),trivial⟩ (impl_IsEvent_ok _ _ (optT hx229 hg)) (zfree_v _) rfl) rfl ?_
 refine AO.d [286] rfl ⟨fun h=>h,trivial⟩ (fun hg=>zO rfl rfl rfl (by rw [hg];exact Bool.true_and _)) rfl ?_
 refine AO.v rfl rfl (zN rfl rfl rfl rfl) ?_
 refine AO.pu T ?_
 refine AO.n (AW.t ?_)
 have hR:=zS hH;subst hR
 exact retQ.i [] rfl (.c (.c .v))

def spec_evAsked_p (fuel:Nat) (e:Event) (sA:Step):Option (Event × Bool) :=
 (spec_evGood_p fuel e).bind fun x1 =>
 cond (!x1)
  (some ((Event.mk 0 0 0 [] [] 0 [] []),false))
  ((spec_evStep_p fuel e sA).bind fun x3 =>
  some ((Event.mk x3.1.segments x3.1.size x3.1.key x3.1.entrants x3.1.gone x3.1.segment x3.1.order x3.1.results),x3.2))
theorem spec_evAsked_ok (fuel:Nat) (e:Event) (sA:Step) (r:(Event × Bool)) (hH:spec_evAsked_p fuel e sA=some r):SpecR Tryz.prog 49 [.g (ze4 e),.g (ze7 sA)] (.t [.g (ze4 r.1),.v (.bool r.2)]):=by
 refine zFn T Tryz.func49 rfl (by decide) rfl ?_
 refine AW.q (AW.r (AO.s rfl (zBx T rfl 1 rfl rfl rfl rfl) ?_))
 refine AO.s rfl (zBx T rfl 2 rfl rfl rfl rfl) ?_
 refine AO.s rfl (zA T rfl 3 rfl rfl rfl rfl rfl) ?_
 refine AO.pu T ?_
 refine AO.n ?_
 iterate 2 refine AW.q ?_
 obtain ⟨x1,hx2,hH⟩:=zB hH
 refine AW.r (AO.pu T (d:=.g [e.segments,e.size,e.key,.s (List.map ze1 e.entrants),.s (List.map ze0 e.gone),e.segment,.s (List.map ze0 e.order),.s (List.map ze2 e.results)]) ?_)
 refine AO.v rfl rfl (zV rfl rfl rfl rfl (spec_evGood_ok fuel _ _ (hx2)) rfl) ?_
 refine AO.pu T ?_
 refine AO.n (AW.c (b:=(!x1)) rfl (fun hc=>?_) (fun hc=>?_))
 replace hH:=condT hc hH
 refine AW.q (AW.r (AO.pu T (d:=.g [(0:Int),(0:Int),(0:Int),.w 0 [],.w 0 [],(0:Int),.w 0 [],.w 0 []]) ?_))
 refine AO.se T [(0:Int),(0:Int),(0:Int),.w 0 [],.w 0 [],(0:Int),.w 0 [],.w 0 []] ?_
 refine AO.pu T ?_
 refine AO.n (AW.t ?_)
 have hR:=zS hH;subst hR
 exact retQ.i [] rfl (.t (zG (.g (zC .v (zC .v (zC .v (zC .nilS (zC .nilS (zC .v (zC .nilS (zC .nilS (zCn)))))))))) (zG (.c .v) (zGn))))
 replace hH:=condF hc hH
 refine AW.k (AW.q ?_)
 obtain ⟨x3,hx4,hH⟩:=zB hH
 refine AW.r (AO.pu T (d:=.g [e.segments,e.size,e.key,.s (List.map ze1 e.entrants),.s (List.map ze0 e.gone),e.segment,.s (List.map ze0 e.order),.s (List.map ze2 e.results)]) ?_)
 refine AO.pu T (d:=.g [sA.kind,sA.skater,sA.number]) ?_
 refine AO.v rfl rfl (zV rfl rfl rfl rfl (spec_evStep_ok fuel _ _ _ (hx4)) rfl) ?_
 refine AO.pu T (d:=.g [x3.1.segments,x3.1.size,x3.1.key,.s (List.map ze1 x3.1.entrants),.s (List.map ze0 x3.1.gone),x3.1.segment,.s (List.map ze0 x3.1.order),.s (List.map ze2 x3.1.results)]) ?_
 refine AO.pu T ?_
 refine AO.se T [x3.1.segments,x3.1.size,x3.1.key,.s (List.map ze1 x3.1.entrants),.s (List.map ze0 x3.1.gone),x3.1.segment,.s (List.map ze0 x3.1.order),.s (List.map ze2 x3.1.results)] ?_
 refine AO.pu T ?_
 refine AO.n (AW.t ?_)
 have hR:=zS hH;subst hR
 exact retQ.i [] rfl (.t (zG (.g (zC .v (zC .v (zC .v (zC .s (zC .s (zC .v (zC .s (zC .s (zCn)))))))))) (zG (.c .v) (zGn))))

def spec_BeginSegment_p (fuel:Nat) (e:Event):Option (Event × Bool) :=
 (spec_evAsked_p fuel e (Step.mk 3 0 0)).bind fun x1 =>
 some ((Event.mk x1.1.segments x1.1.size x1.1.key x1.1.entrants x1.1.gone x1.1.segment x1.1.order x1.1.results),x1.2)
theorem spec_BeginSegment_ok (fuel:Nat) (e:Event) (r:(Event × Bool)) (hH:spec_BeginSegment_p fuel e=some r):SpecR Tryz.prog 12 [.g (ze4 e)] (.t [.g (ze4 r.1),.v (.bool r.2)]):=by
 refine zFn T Tryz.func12 rfl (by decide) rfl ?_
 refine AW.q (AW.r (AO.s rfl (zBx T rfl 1 rfl rfl rfl rfl) ?_))
 refine AO.s rfl (zA T rfl 2 rfl rfl rfl rfl rfl) ?_
 refine AO.pu T ?_
 refine AO.n (AW.q ?_)
 obtain ⟨x1,hx2,hH⟩:=zB hH
 refine AW.r (AO.pu T (d:=.g [e.segments,e.size,e.key,.s (List.map ze1 e.entrants),.s (List.map ze0 e.gone),e.segment,.s (List.map ze0 e.order),.s (List.map ze2 e.results)]) ?_)
 refine AO.pu T (d:=.g [(3:Int),(0:Int),(0:Int)]) ?_
 refine AO.v rfl rfl (zV rfl rfl rfl rfl (spec_evAsked_ok fuel _ _ _ (hx2)) rfl) ?_
 refine AO.pu T (d:=.g [x1.1.segments,x1.1.size,x1.1.key,.s (List.map ze1 x1.1.entrants),.s (List.map ze0 x1.1.gone),x1.1.segment,.s (List.map ze0 x1.1.order),.s (List.map ze2 x1.1.results)]) ?_
 refine AO.pu T ?_
 refine AO.se T [x1.1.segments,x1.1.size,x1.1.key,.s (List.map ze1 x1.1.entrants),.s (List.map ze0 x1.1.gone),x1.1.segment,.s (List.map ze0 x1.1.order),.s (List.map ze2 x1.1.results)] ?_
 refine AO.pu T ?_
 refine AO.n (AW.t ?_)
 have hR:=zS hH;subst hR
 exact retQ.i [] rfl (.t (zG (.g (zC .v (zC .v (zC .v (zC .s (zC .s (zC .v (zC .s (zC .s (zCn)))))))))) (zG (.c .v) (zGn))))

def spec_EnterSkater_p (fuel:Nat) (e:Event) (x:Entrant):Option (Event × Bool) :=
 (spec_evAsked_p fuel e (Step.mk 1 x.skater x.rank)).bind fun x1 =>
 some ((Event.mk x1.1.segments x1.1.size x1.1.key x1.1.entrants x1.1.gone x1.1.segment x1.1.order x1.1.results),x1.2)
theorem spec_EnterSkater_ok (fuel:Nat) (e:Event) (x:Entrant) (r:(Event × Bool)) (hH:spec_EnterSkater_p fuel e x=some r):SpecR Tryz.prog 22 [.g (ze4 e),.g (ze1 x)] (.t [.g (ze4 r.1),.v (.bool r.2)]):=by
 refine zFn T Tryz.func22 rfl (by decide) rfl ?_
 refine AW.q (AW.r (AO.s rfl (zBx T rfl 1 rfl rfl rfl rfl) ?_))
 refine AO.s rfl (zBx T rfl 2 rfl rfl rfl rfl) ?_
 refine AO.s rfl (zA T rfl 3 rfl rfl rfl rfl rfl) ?_
 refine AO.pu T ?_
 refine AO.n (AW.q ?_)
 obtain ⟨x1,hx2,hH⟩:=zB hH
 refine AW.r (AO.pu T (d:=.g [e.segments,e.size,e.key,.s (List.map ze1 e.entrants),.s (List.map ze0 e.gone),e.segment,.s (List.map ze0 e.order),.s (List.map ze2 e.results)]) ?_)
 iterate 4 refine AO.pu T ?_
 refine AO.pu T (d:=.g [(1:Int),x.skater,x.rank]) ?_
 refine AO.v rfl rfl (zV rfl rfl rfl rfl (spec_evAsked_ok fuel _ _ _ (hx2)) rfl) ?_
 refine AO.pu T (d:=.g [x1.1.segments,x1.1.size,x1.1.key,.s (List.map ze1 x1.1.entrants),.s (List.map ze0 x1.1.gone),x1.1.segment,.s (List.map ze0 x1.1.order),.s (List.map ze2 x1.1.results)]) ?_
 refine AO.pu T ?_
 refine AO.se T [x1.1.segments,x1.1.size,x1.1.key,.s (List.map ze1 x1.1.entrants),.s (List.map ze0 x1.1.gone),x1.1.segment,.s (List.map ze0 x1.1.order),.s (List.map ze2 x1.1.results)] ?_
 refine AO.pu T ?_
 refine AO.n (AW.t ?_)
 have hR:=zS hH;subst hR
 exact retQ.i [] rfl (.t (zG (.g (zC .v (zC .v (zC .v (zC .s (zC .s (zC .v (zC .s (zC .s (zCn)))))))))) (zG (.c .v) (zGn))))

def spec_GiveScore_p (fuel:Nat) (e:Event) (score:Int):Option (Event × Bool) :=
 (spec_evAsked_p fuel e (Step.mk 4 0 score)).bind fun x1 =>
 some ((Event.mk x1.1.segments x1.1.size x1.1.key x1.1.entrants x1.1.gone x1.1.segment x1.1.order x1.1.results),x1.2)
theorem spec_GiveScore_ok (fuel:Nat) (e:Event) (score:Int) (r:(Event × Bool)) (hH:spec_GiveScore_p fuel e score=some r):SpecR Tryz.prog 19 [.g (ze4 e),score] (.t [.g (ze4 r.1),.v (.bool r.2)]):=by
 refine zFn T Tryz.func19 rfl (by decide) rfl ?_
 refine AW.q (AW.r (AO.s rfl (zBx T rfl 1 rfl rfl rfl rfl) ?_))
 refine AO.s rfl (zA T rfl 2 rfl rfl rfl rfl rfl) ?_
 refine AO.pu T ?_
 refine AO.n (AW.q ?_)
 obtain ⟨x1,hx2,hH⟩:=zB hH
 refine AW.r (AO.pu T (d:=.g [e.segments,e.size,e.key,.s (List.map ze1 e.entrants),.s (List.map ze0 e.gone),e.segment,.s (List.map ze0 e.order),.s (List.map ze2 e.results)]) ?_)
 refine AO.pu T ?_
 refine AO.pu T (d:=.g [(4:Int),(0:Int),score]) ?_
 refine AO.v rfl rfl (zV rfl rfl rfl rfl (spec_evAsked_ok fuel _ _ _ (hx2)) rfl) ?_
 refine AO.pu T (d:=.g [x1.1.segments,x1.1.size,x1.1.key,.s (List.map ze1 x1.1.entrants),.s (List.map ze0 x1.1.gone),x1.1.segment,.s (List.map ze0 x1.1.order),.s (List.map ze2 x1.1.results)]) ?_
 refine AO.pu T ?_
 refine AO.se T [x1.1.segments,x1.1.size,x1.1.key,.s (List.map ze1 x1.1.entrants),.s (List.map ze0 x1.1.gone),x1.1.segment,.s (List.map ze0 x1.1.order),.s (List.map ze2 x1.1.results)] ?_
 refine AO.pu T ?_
 refine AO.n (AW.t ?_)
 have hR:=zS hH;subst hR
 exact retQ.i [] rfl (.t (zG (.g (zC .v (zC .v (zC .v (zC .s (zC .s (zC .v (zC .s (zC .s (zCn)))))))))) (zG (.c .v) (zGn))))

def spec_LeaveEvent_p (fuel:Nat) (e:Event) (skater:Int):Option (Event × Bool) :=
 (spec_evAsked_p fuel e (Step.mk 2 skater 0)).bind fun x1 =>
 some ((Event.mk x1.1.segments x1.1.size x1.1.key x1.1.entrants x1.1.gone x1.1.segment x1.1.order x1.1.results),x1.2)
theorem spec_LeaveEvent_ok (fuel:Nat) (e:Event) (skater:Int) (r:(Event × Bool)) (hH:spec_LeaveEvent_p fuel e skater=some r):SpecR Tryz.prog 25 [.g (ze4 e),skater] (.t [.g (ze4 r.1),.v (.bool r.2)]):=by
 refine zFn T Tryz.func25 rfl (by decide) rfl ?_
 refine AW.q (AW.r (AO.s rfl (zBx T rfl 1 rfl rfl rfl rfl) ?_))
 refine AO.s rfl (zA T rfl 2 rfl rfl rfl rfl rfl) ?_
 refine AO.pu T ?_
 refine AO.n (AW.q ?_)
 obtain ⟨x1,hx2,hH⟩:=zB hH
 refine AW.r (AO.pu T (d:=.g [e.segments,e.size,e.key,.s (List.map ze1 e.entrants),.s (List.map ze0 e.gone),e.segment,.s (List.map ze0 e.order),.s (List.map ze2 e.results)]) ?_)
 refine AO.pu T ?_
 refine AO.pu T (d:=.g [(2:Int),skater,(0:Int)]) ?_
 refine AO.v rfl rfl (zV rfl rfl rfl rfl (spec_evAsked_ok fuel _ _ _ (hx2)) rfl) ?_
 refine AO.pu T (d:=.g [x1.1.segments,x1.1.size,x1.1.key,.s (List.map ze1 x1.1.entrants),.s (List.map ze0 x1.1.gone),x1.1.segment,.s (List.map ze0 x1.1.order),.s (List.map ze2 x1.1.results)]) ?_
 refine AO.pu T ?_
 refine AO.se T [x1.1.segments,x1.1.size,x1.1.key,.s (List.map ze1 x1.1.entrants),.s (List.map ze0 x1.1.gone),x1.1.segment,.s (List.map ze0 x1.1.order),.s (List.map ze2 x1.1.results)] ?_
 refine AO.pu T ?_
 refine AO.n (AW.t ?_)
 have hR:=zS hH;subst hR
 exact retQ.i [] rfl (.t (zG (.g (zC .v (zC .v (zC .v (zC .s (zC .s (zC .v (zC .s (zC .s (zCn)))))))))) (zG (.c .v) (zGn))))

end Go.Proofs.YtegdphhfimaieabGreat

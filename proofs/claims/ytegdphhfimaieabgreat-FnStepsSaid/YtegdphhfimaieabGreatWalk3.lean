/- The walk, part 3: what each function reached by the law FnSteps computes. No condition. -/
import Derived.Test.YtegdphhfimaieabGreatWalk2
set_option maxRecDepth 4000
set_option maxHeartbeats 1000000
set_option linter.unusedVariables false
set_option linter.unusedSimpArgs false
set_option linter.unusedSectionVars false

namespace Go.Proofs.YtegdphhfimaieabGreat
open Go.AM

def impl_OrderByPlaces_l2 (keys:List Int) (places:List Int) (fuel:Nat) (v122:List Int) (v123:Int):List Int→Nat→List Int→Option (List Int)
  | [],k154,v169 =>
    (impl_withKeys_p keys [90,v123]).bind fun x171 =>
    (impl_shuffledNumbers_p fuel x171 v169).bind fun x173 =>
    (need (fitsB 8 (v122.length+x173.length))).bind fun u175 =>
    some (v122++x173)
  | y155::ys156,k154,v169 =>
    (getI places (k154:Int)).bind fun x177 =>
    cond (x177 == v123)
      ((need (fitsB 8 (v169.length+([y155]).length))).bind fun u179 =>
      impl_OrderByPlaces_l2 keys places fuel v122 v123 ys156 (k154+1) (v169++[y155]))
      (impl_OrderByPlaces_l2 keys places fuel v122 v123 ys156 (k154+1) v169)
def impl_OrderByPlaces_l4 (keys:List Int) (fuel:Nat) (x197:(List (List Int))):Nat→List Int→List (List Int)→Int→Option (((List Int) × Bool))
  | 0,_,_,_=>none
  | k199+1,v219,v220,v221 =>
    cond (decide (v221 < (x197.length:Int)))
      ((getI v220 v221).bind fun x223 =>
      (impl_withKeys_p keys [v221]).bind fun x225 =>
      (impl_shuffledNumbers_p fuel x225 x223).bind fun x227 =>
      (need (fitsB 8 (v219.length+x227.length))).bind fun u229 =>
      impl_OrderByPlaces_l4 keys fuel x197 k199 (v219++x227) (v220.set v221.toNat x223) (w64 (v221+1)))
      (some (v219,true))
def impl_OrderByPlaces_l3 (keys:List Int) (size:Int) (fuel:Nat) (v122:List Int):Nat→List Int→Int→Option (((List Int) × Bool))
  | 0,_,_=>none
  | k185+1,v192,v193 =>
    cond (decide (v193 < (w64 ((v122.length:Int).tdiv size))))
      ((need (fitsB 8 (v192.length+([size]).length))).bind fun u195 =>
      impl_OrderByPlaces_l3 keys size fuel v122 k185 (v192++[size]) (w64 (v193+1)))
      ((impl_cutInto_p v122 v192).bind fun x197 =>
      impl_OrderByPlaces_l4 keys fuel x197 fuel [] x197 0)
def impl_OrderByPlaces_l6 (keys:List Int) (fuel:Nat) (x243:(List (List Int))):Nat→List Int→List (List Int)→Int→Option (((List Int) × Bool))
  | 0,_,_,_=>none
  | k245+1,v265,v266,v267 =>
    cond (decide (v267 < (x243.length:Int)))
      ((getI v266 v267).bind fun x269 =>
      (impl_withKeys_p keys [v267]).bind fun x271 =>
      (impl_shuffledNumbers_p fuel x271 x269).bind fun x273 =>
      (need (fitsB 8 (v265.length+x273.length))).bind fun u275 =>
      impl_OrderByPlaces_l6 keys fuel x243 k245 (v265++x273) (v266.set v267.toNat x269) (w64 (v267+1)))
      (some (v265,true))
def impl_OrderByPlaces_l5 (keys:List Int) (size:Int) (fuel:Nat) (v122:List Int):Nat→List Int→Int→Option (((List Int) × Bool))
  | 0,_,_=>none
  | k231+1,v238,v239 =>
    cond (decide (v239 < (w64 ((v122.length:Int).tdiv size))))
      ((need (fitsB 8 (v238.length+([size]).length))).bind fun u241 =>
      impl_OrderByPlaces_l5 keys size fuel v122 k231 (v238++[size]) (w64 (v239+1)))
      ((impl_cutInto_p v122 v238).bind fun x243 =>
      impl_OrderByPlaces_l6 keys fuel x243 fuel [] x243 0)
def impl_OrderByPlaces_l1 (keys:List Int) (skaters:List Int) (places:List Int) (size:Int) (fuel:Nat):Nat→List Int→Int→Option (((List Int) × Bool))
  | 0,_,_=>none
  | k9+1,v122,v123 =>
    cond (decide (v123 ≥ 1))
      ((impl_OrderByPlaces_l2 keys places fuel v122 v123 skaters 0 []).bind fun v151 =>
      impl_OrderByPlaces_l1 keys skaters places size fuel k9 v151 (w64 (v123 - 1)))
      ((need (size != 0)).bind fun u181 =>
      cond (decide (((v122.length:Int).tmod size) > 0))
        ((need (fitsB 8 (([((v122.length:Int).tmod size)]).length))).bind fun u183 =>
        impl_OrderByPlaces_l3 keys size fuel v122 fuel [((v122.length:Int).tmod size)] 0)
        (impl_OrderByPlaces_l5 keys size fuel v122 fuel [] 0))
def impl_OrderByPlaces_p (fuel:Nat) (keys:List Int) (skaters:List Int) (places:List Int) (size:Int):Option ((List Int) × Bool) :=
  (impl_areKeys_p keys 4).bind fun x1 =>
  (opt (!(!x1)) default (impl_isOrder_p skaters)).bind fun x3 =>
  (opt (!(((!x1) || (!x3)) || ((places.length:Int) != (skaters.length:Int)))) default (impl_allWithin_p places 1 99)).bind fun x5 =>
  (opt (!((((!x1) || (!x3)) || ((places.length:Int) != (skaters.length:Int))) || (!x5))) default (impl_isGroupSize_p size)).bind fun x7 =>
  cond (((((!x1) || (!x3)) || ((places.length:Int) != (skaters.length:Int))) || (!x5)) || (!x7))
    (some ([],false))
    (impl_OrderByPlaces_l1 keys skaters places size fuel fuel [] 99)
theorem impl_OrderByPlaces_ok (fuel:Nat) (keys:List Int) (skaters:List Int) (places:List Int) (size:Int) (r:((List Int) × Bool)) (hH:impl_OrderByPlaces_p fuel keys skaters places size=some r):SpecR Tryz.prog 92 [.s (List.map encInt keys),.s (List.map encInt skaters),.s (List.map encInt places),size] (.t [.w 1 (r.1.map encInt),.v (.bool r.2)]):=by
 refine fn_ok T Tryz.func92 rfl (by decide) rfl ?_
 refine AW.seq (AW.region ?_)
 iterate 2 refine AO.pu T ?_
 refine AO.nil ?_
 iterate 2 refine AW.seq ?_
 obtain ⟨x1,hx2,hH⟩:=bindE hH
 obtain ⟨x3,hx4,hH⟩:=bindE hH
 obtain ⟨x5,hx6,hH⟩:=bindE hH
 obtain ⟨x7,hx8,hH⟩:=bindE hH
 refine AW.region (AO.pu T ?_)
 refine AO.val rfl rfl (callV_ok rfl rfl rfl rfl (impl_areKeys_ok _ _ _ (hx2)) rfl) ?_
 iterate 2 refine AO.pu T ?_
 refine AO.pureG T [] rfl trivial rfl rfl ?_
 refine AO.guard [24] rfl ⟨fun h=>h,trivial⟩ (fun hg=>callV_ok rfl rfl rfl rfl (impl_isOrder_ok _ _ (optT hx4 hg)) rfl) rfl ?_
 refine AO.pureG T [25] rfl ⟨fun h=>h,trivial⟩ rfl rfl ?_
 refine AO.val rfl rfl (pick_or rfl rfl rfl rfl) ?_
 refine AO.pu T ?_
 refine AO.pureG T [] rfl trivial rfl rfl ?_
 refine AO.guard [29] rfl ⟨fun h=>h,trivial⟩ (fun hg=>len_map_ok T rfl rfl rfl) rfl ?_
 refine AO.pureG T [] rfl trivial rfl rfl ?_
 refine AO.guard [31] rfl ⟨fun h=>h,trivial⟩ (fun hg=>len_map_ok T rfl rfl rfl) rfl ?_
 refine AO.pureG T [30,32] rfl ⟨fun h=>h,fun h=>h,trivial⟩ rfl rfl ?_
 refine AO.val rfl rfl (pick_or rfl rfl rfl rfl) ?_
 refine AO.pu T ?_
 refine AO.pureG T [] rfl trivial rfl rfl ?_
 refine AO.guard [36] rfl ⟨fun h=>h,trivial⟩ (fun hg=>callV_ok rfl rfl rfl rfl (impl_allWithin_ok _ _ _ _ (optT hx6 hg)) rfl) rfl ?_
 refine AO.pureG T [37] rfl ⟨fun h=>h,trivial⟩ rfl rfl ?_
 refine AO.val rfl rfl (pick_or rfl rfl rfl rfl) ?_
 refine AO.pu T ?_
 refine AO.pureG T [] rfl trivial rfl rfl ?_
 refine AO.guard [41] rfl ⟨fun h=>h,trivial⟩ (fun hg=>callV_ok rfl rfl rfl rfl (impl_isGroupSize_ok _ _ (optT hx8 hg)) rfl) rfl ?_
 refine AO.pureG T [42] rfl ⟨fun h=>h,trivial⟩ rfl rfl ?_
 refine AO.val rfl rfl (pick_or rfl rfl rfl rfl) ?_
 refine AO.nil (AW.le (Le.ct 0 0 (σ':=(⟨[(0,.s (List.map encInt keys)),(1,.s (List.map encInt skaters)),(2,.s (List.map encInt places)),(3,size),(44,.v (.bool (((((!x1) || (!x3)) || ((places.length:Int) != (skaters.length:Int))) || (!x5)) || (!x7))))],[],119,[]⟩:St))) ?_)
 refine AW.cond (b:=(((((!x1) || (!x3)) || ((places.length:Int) != (skaters.length:Int))) || (!x5)) || (!x7))) rfl (fun hc=>?_) (fun hc=>?_)
 replace hH:=condT hc hH
 refine AW.seq (AW.region ?_)
 iterate 2 refine AO.pu T ?_
 refine AO.nil (AW.ret ?_)
 have hR:=someE hH;subst hR
 exact retQ.i [] rfl (.t (expLG_cons (.c .nil) (expLG_cons (.c .v) (expLG_nil))))
 replace hH:=condF hc hH
 refine AW.skip (AW.seq (AW.region ?_))
 refine AO.step rfl (mk0_ok T rfl rfl rfl rfl) ?_
 refine AO.pu T ?_
 refine AO.nil ?_
 iterate 2 refine AW.seq ?_
 refine AW.region (AO.pu T ?_)
 refine AO.nil (AW.block ?_)
 refine AW.loopS (fun s:Nat × (List Int) × Int=>(⟨[(0,.s (List.map encInt keys)),(1,.s (List.map encInt skaters)),(2,.s (List.map encInt places)),(3,size),(10,.R 28),(11,s.2.2)],[(28,.row 1 (List.map encInt s.2.1))],119,[]⟩:St)) (fun s=>impl_OrderByPlaces_l1 keys skaters places size fuel s.1 s.2.1 s.2.2=some r) (fun s=>s.1) (fuel,[],99) hH ?_ ?_
 refine Le.trans (Le.void 10 28 1 rfl rfl) ?_
 exact Le.ct 0 0
 rintro ⟨k9,v122,v123⟩ hH
 replace hH:impl_OrderByPlaces_l1 keys skaters places size fuel k9 v122 v123=some r:=hH
 try dsimp only
 rcases k9 with _ | k9
 cases (show none=some _ from hH)
 rw [impl_OrderByPlaces_l1] at hH
 iterate 2 refine AW.seq ?_
 refine AW.region ?_
 iterate 2 refine AO.pu T ?_
 refine AO.nil (AW.cond (b:=decide (v123 ≥ 1)) rfl (fun hc=>?_) (fun hc=>?_))
 replace hH:=condT hc hH
 refine AW.skip ?_
 obtain ⟨o152,hH,hK153⟩:=bindE hH
 refine AW.seqJ (fun s:List Int=>(⟨[(0,.s (List.map encInt keys)),(1,.s (List.map encInt skaters)),(2,.s (List.map encInt places)),(3,size),(10,.R 48),(11,v123)],[(48,.row 1 (List.map encInt s))],119,[]⟩:St)) (fun s=>s=o152) ?_ ?_
 refine AW.block (AW.seq (AW.region ?_))
 refine AO.step rfl (mk0_ok T rfl rfl rfl rfl) ?_
 refine AO.pu T ?_
 refine AO.nil ?_
 iterate 2 refine AW.seq ?_
 refine AW.region (AO.pu T ?_)
 refine AO.val rfl rfl (len_map_ok T rfl rfl rfl) ?_
 refine AO.pu T ?_
 refine AO.nil (AW.block ?_)
 refine AW.loopS (fun s:Nat × (List Int)=>(⟨[(0,.s (List.map encInt keys)),(1,.s (List.map encInt skaters)),(2,.s (List.map encInt places)),(3,size),(10,.R 28),(11,v123),(12,.R 54),(51,.s (List.map encInt skaters)),(52,(skaters.length:Int)),(53,(s.1:Int))],[(28,.row 1 (List.map encInt v122)),(54,.row 1 (List.map encInt s.2))],119,[]⟩:St)) (fun s=>s.1 ≤ skaters.length∧impl_OrderByPlaces_l2 keys places fuel v122 v123 (skaters.drop s.1) s.1 s.2=some o152) (fun s=>skaters.length - s.1) (0,[]) ⟨Nat.zero_le _,hH⟩ ?_ ?_
 refine Le.trans (Le.void 12 54 1 rfl rfl) ?_
 exact Le.ct 0 0
 rintro ⟨k154,v169⟩ ⟨hk,hH⟩
 replace hH:impl_OrderByPlaces_l2 keys places fuel v122 v123 (skaters.drop k154) k154 v169=some o152:=hH
 try dsimp only
 refine AW.boundM (t:=1) (l:=skaters) rfl (fun hb158=>?_)
 rcases hd157:skaters.drop k154 with _ | ⟨y155,ys156⟩
 rw [hd157,impl_OrderByPlaces_l2] at hH
 have hlt159:=drop_ge hd157
 refine AW.seq (AW.region (AO.pu T ?_))
 refine AO.nil (AW.seq (AW.condF' (b:=decide ((k154:Int) < (skaters.length:Int))) rfl (rngF hlt159) ?_))
 refine AW.exit ?_
 obtain ⟨x171,hx172,hH⟩:=bindE hH
 obtain ⟨x173,hx174,hH⟩:=bindE hH
 obtain ⟨u175,hx176,hH⟩:=bindE hH
 refine AW.region ?_
 iterate 3 refine AO.pu T ?_
 refine AO.step rfl (mk_map_ok T rfl 55 rfl rfl rfl rfl rfl (f:=encInt) (l:=[90,v123]) rfl rfl (fun _=>rfl) rfl rfl rfl rfl rfl) ?_
 refine AO.step rfl (callL_ok rfl 56 rfl rfl (es:=[.s (List.map encInt keys),.s (List.map encInt [90,v123])]) (by exact ⟨.free rfl,(.rowR rfl (.map fun y=>.vs rfl)),trivial⟩) (impl_withKeys_ok _ _ _ (hx172)) (zfree_map (fun y=>(.cons (zfree_v _) .nil))) rfl rfl rfl) ?_
 refine AO.pu T ?_
 refine AO.step rfl (callL_ok rfl 57 rfl rfl (es:=[.s (List.map encInt x171),.s (List.map encInt v169)]) (by exact ⟨(.rowR rfl (.map fun y=>.vs rfl)),(.rowR rfl (.map fun y=>.vs rfl)),trivial⟩) (impl_shuffledNumbers_ok fuel _ _ _ (hx174)) (zfree_map (fun y=>(.cons (zfree_v _) .nil))) rfl rfl rfl) ?_
 refine AO.step rfl (app_rv_map T rfl 58 rfl rfl rfl rfl rfl (by decide) rfl rfl rfl rfl (fun _=>rfl) (needT (hx176)) rfl rfl) ?_
 refine AO.pu T ?_
 refine AO.nil ?_
 refine ⟨_,someE hH,?_⟩
 exact Le.ct 58 48
 rw [hd157,impl_OrderByPlaces_l2] at hH
 have hlt159:=drop_lt hd157
 refine AW.seq (AW.region (AO.pu T ?_))
 refine AO.nil (AW.seq (AW.condT' (b:=decide ((k154:Int) < (skaters.length:Int))) rfl (rngT hlt159) ?_))
 refine AW.skip (AW.seq ?_)
 refine AW.block (AW.seq (AW.region ?_))
 refine AO.pu T ?_
 refine AO.val rfl rfl (ix_map_ok T rfl rfl rfl rfl rfl (getI_drop hd157) rfl) ?_
 iterate 3 refine AO.pu T ?_
 refine AO.nil (AW.seq ?_)
 obtain ⟨x177,hx178,hH⟩:=bindE hH
 refine AW.region ?_
 iterate 2 refine AO.pu T ?_
 refine AO.val rfl rfl (ix_map_ok T rfl rfl rfl rfl rfl (hx178) rfl) ?_
 iterate 3 refine AO.pu T ?_
 refine AO.nil (AW.cond (b:=(x177 == v123)) rfl (fun hc=>?_) (fun hc=>?_))
 replace hH:=condT hc hH
 obtain ⟨u179,hx180,hH⟩:=bindE hH
 refine AW.region ?_
 iterate 2 refine AO.pu T ?_
 refine AO.step rfl (mk_map_ok T rfl 59 rfl rfl rfl rfl rfl (f:=encInt) (l:=[y155]) rfl rfl (fun _=>rfl) rfl rfl rfl rfl rfl) ?_
 refine AO.step rfl (app_rv_map T rfl 60 rfl rfl rfl rfl rfl (by decide) rfl rfl rfl rfl (fun _=>rfl) (needT (hx180)) rfl rfl) ?_
 refine AO.pu T ?_
 refine AO.nil (AW.region ?_)
 refine AO.val rfl rfl (ar_ok rfl rfl rfl rfl (inI_succ hlt159 hb158)) ?_
 refine AO.pu T ?_
 refine AO.nil ?_
 refine ⟨(k154+1,(v169++[y155])),⟨Nat.succ_le_of_lt hlt159,(by rw [drop_succ_of hd157];exact hH)⟩,(by have:=hlt159;dsimp only;omega),?_⟩
 exact Le.ct 60 54
 replace hH:=condF hc hH
 refine AW.skip (AW.region ?_)
 refine AO.val rfl rfl (ar_ok rfl rfl rfl rfl (inI_succ hlt159 hb158)) ?_
 refine AO.pu T ?_
 refine AO.nil ?_
 refine ⟨(k154+1,v169),⟨Nat.succ_le_of_lt hlt159,(by rw [drop_succ_of hd157];exact hH)⟩,(by have:=hlt159;dsimp only;omega),?_⟩
 exact Le.ct 0 0
 rintro v151 hs
 subst hs
 replace hH:=hK153
 try dsimp only [flow,flowE] at hH
 try dsimp only
 refine AW.region (AO.pu T ?_)
 refine AO.val rfl rfl (arw_ok rfl rfl rfl rfl) ?_
 refine AO.pu T ?_
 refine AO.nil ?_
 refine ⟨(k9,v151,w64 (v123 - 1)),hH,Nat.lt_succ_self _,?_⟩
 exact Le.ct 48 28
 replace hH:=condF hc hH
 refine AW.exit (AW.seq (AW.region ?_))
 refine AO.step rfl (mk0_ok T rfl rfl rfl rfl) ?_
 refine AO.pu T ?_
 refine AO.nil ?_
 iterate 2 refine AW.seq ?_
 obtain ⟨u181,hx182,hH⟩:=bindE hH
 refine AW.region (AO.pu T ?_)
 refine AO.val rfl rfl (len_row_ok T rfl rfl rfl rfl) ?_
 refine AO.pu T ?_
 refine AO.val rfl rfl (rem_ok rfl rfl rfl (neZ (needT (hx182)))) ?_
 refine AO.pu T ?_
 refine AO.nil (AW.seq (AW.region ?_))
 iterate 2 refine AO.pu T ?_
 refine AO.nil (AW.cond (b:=decide (((v122.length:Int).tmod size) > 0)) rfl (fun hc=>?_) (fun hc=>?_))
 replace hH:=condT hc hH
 obtain ⟨u183,hx184,hH⟩:=bindE hH
 refine AW.region ?_
 iterate 2 refine AO.pu T ?_
 refine AO.step rfl (mk_map_ok T rfl 61 rfl rfl rfl rfl rfl (f:=encInt) (l:=[((v122.length:Int).tmod size)]) rfl rfl (fun _=>rfl) rfl rfl rfl rfl rfl) ?_
 refine AO.step rfl (app_wv_map T rfl 62 rfl rfl rfl rfl rfl (by decide) rfl rfl rfl (fun _=>rfl) (needT (hx184)) rfl rfl) ?_
 refine AO.pu T ?_
 refine AO.nil ?_
 iterate 2 refine AW.seq ?_
 refine AW.region (AO.pu T ?_)
 refine AO.val rfl rfl (len_row_ok T rfl rfl rfl rfl) ?_
 refine AO.pu T ?_
 refine AO.val rfl rfl (quow_ok rfl rfl rfl (neZ (needT (hx182)))) ?_
 refine AO.pu T ?_
 refine AO.nil (AW.block ?_)
 refine AW.loopS (fun s:Nat × (List Int) × Int=>(⟨[(0,.s (List.map encInt keys)),(3,size),(10,.R 28),(15,.R 62),(91,w64 ((v122.length:Int).tdiv size)),(92,s.2.2)],[(28,.row 1 (List.map encInt v122)),(62,.row 1 (List.map encInt s.2.1))],119,[]⟩:St)) (fun s=>impl_OrderByPlaces_l3 keys size fuel v122 s.1 s.2.1 s.2.2=some r) (fun s=>s.1) (fuel,[((v122.length:Int).tmod size)],0) hH ?_ ?_
 exact Le.ct 0 0
 rintro ⟨k185,v192,v193⟩ hH
 replace hH:impl_OrderByPlaces_l3 keys size fuel v122 k185 v192 v193=some r:=hH
 try dsimp only
 rcases k185 with _ | k185
 cases (show none=some _ from hH)
 rw [impl_OrderByPlaces_l3] at hH
 refine AW.seq (AW.region (AO.pu T ?_))
 refine AO.nil (AW.seq (AW.cond (b:=decide (v193 < (w64 ((v122.length:Int).tdiv size)))) rfl (fun hc=>?_) (fun hc=>?_)))
 replace hH:=condT hc hH
 refine AW.skip (AW.seq ?_)
 refine AW.block ?_
 obtain ⟨u195,hx196,hH⟩:=bindE hH
 refine AW.region ?_
 iterate 2 refine AO.pu T ?_
 refine AO.step rfl (mk_map_ok T rfl 67 rfl rfl rfl rfl rfl (f:=encInt) (l:=[size]) rfl rfl (fun _=>rfl) rfl rfl rfl rfl rfl) ?_
 refine AO.step rfl (app_rv_map T rfl 68 rfl rfl rfl rfl rfl (by decide) rfl rfl rfl rfl (fun _=>rfl) (needT (hx196)) rfl rfl) ?_
 refine AO.pu T ?_
 refine AO.nil (AW.region ?_)
 refine AO.val rfl rfl (arw_ok rfl rfl rfl rfl) ?_
 refine AO.pu T ?_
 refine AO.nil ?_
 refine ⟨(k185,(v192++[size]),w64 (v193+1)),hH,Nat.lt_succ_self _,?_⟩
 exact Le.ct 68 62
 replace hH:=condF hc hH
 refine AW.exit (AW.seq (AW.region ?_))
 refine AO.step rfl (mk0_ok T rfl rfl rfl rfl) ?_
 refine AO.pu T ?_
 refine AO.nil ?_
 iterate 2 refine AW.seq ?_
 obtain ⟨x197,hx198,hH⟩:=bindE hH
 refine AW.region ?_
 iterate 2 refine AO.pu T ?_
 refine AO.step rfl (callL_ok rfl 69 rfl rfl (es:=[.s (List.map encInt v122),.s (List.map encInt v192)]) (by exact ⟨(.rowR rfl (.map fun y=>.vs rfl)),(.rowR rfl (.map fun y=>.vs rfl)),trivial⟩) (impl_cutInto_ok _ _ _ (hx198)) (zfree_map (fun y=>(.cons (zfree_map (fun y=>(.cons (zfree_v _) .nil))) .nil))) rfl rfl rfl) ?_
 refine AO.val rfl rfl (len_row_ok T rfl rfl rfl rfl) ?_
 refine AO.pu T ?_
 refine AO.nil (AW.block ?_)
 refine AW.loopS (fun s:Nat × (List Int) × (List (List Int)) × Int=>(⟨[(0,.s (List.map encInt keys)),(17,.R 79),(102,.R 69),(103,(x197.length:Int)),(104,s.2.2.2)],[(69,.row 1 (List.map encLIntO s.2.2.1)),(79,.row 1 (List.map encInt s.2.1))],119,[]⟩:St)) (fun s=>impl_OrderByPlaces_l4 keys fuel x197 s.1 s.2.1 s.2.2.1 s.2.2.2=some r) (fun s=>s.1) (fuel,[],x197,0) hH ?_ ?_
 refine Le.trans (Le.void 17 79 1 rfl rfl) ?_
 exact Le.ct 0 0
 rintro ⟨k199,v219,v220,v221⟩ hH
 replace hH:impl_OrderByPlaces_l4 keys fuel x197 k199 v219 v220 v221=some r:=hH
 try dsimp only
 rcases k199 with _ | k199
 cases (show none=some _ from hH)
 rw [impl_OrderByPlaces_l4] at hH
 refine AW.seq (AW.region (AO.pu T ?_))
 refine AO.nil (AW.seq (AW.cond (b:=decide (v221 < (x197.length:Int))) rfl (fun hc=>?_) (fun hc=>?_)))
 replace hH:=condT hc hH
 refine AW.skip (AW.seq ?_)
 refine AW.block (AW.seq ?_)
 obtain ⟨x223,hx224,hH⟩:=bindE hH
 refine AW.le (Le.openM 69 v221.toNat 0 80 rfl (getI_get (hx224)) rfl rfl) ?_
 refine AW.region (AO.pu T ?_)
 refine AO.val rfl rfl (ix_lent_ok T rfl rfl rfl rfl rfl rfl (hx224)) ?_
 refine AO.val rfl rfl (load_lent_ok T rfl rfl rfl rfl rfl) ?_
 iterate 2 refine AO.pu T ?_
 refine AO.nil ?_
 obtain ⟨x225,hx226,hH⟩:=bindE hH
 obtain ⟨x227,hx228,hH⟩:=bindE hH
 obtain ⟨u229,hx230,hH⟩:=bindE hH
 refine AW.region ?_
 iterate 3 refine AO.pu T ?_
 refine AO.step rfl (mk_map_ok T rfl 81 rfl rfl rfl rfl rfl (f:=encInt) (l:=[v221]) rfl rfl (fun _=>rfl) rfl rfl rfl rfl rfl) ?_
 refine AO.step rfl (callL_ok rfl 82 rfl rfl (es:=[.s (List.map encInt keys),.s (List.map encInt [v221])]) (by exact ⟨.free rfl,(.rowR rfl (.map fun y=>.vs rfl)),trivial⟩) (impl_withKeys_ok _ _ _ (hx226)) (zfree_map (fun y=>(.cons (zfree_v _) .nil))) rfl rfl rfl) ?_
 refine AO.pu T ?_
 refine AO.step rfl (callL_ok rfl 83 rfl rfl (es:=[.s (List.map encInt x225),.s (List.map encInt x223)]) (by exact ⟨(.rowR rfl (.map fun y=>.vs rfl)),(.rowR rfl (.map fun y=>.vs rfl)),trivial⟩) (impl_shuffledNumbers_ok fuel _ _ _ (hx228)) (zfree_map (fun y=>(.cons (zfree_v _) .nil))) rfl rfl rfl) ?_
 refine AO.step rfl (app_rv_map T rfl 84 rfl rfl rfl rfl rfl (by decide) rfl rfl rfl rfl (fun _=>rfl) (needT (hx230)) rfl rfl) ?_
 refine AO.pu T ?_
 refine AO.le (Le.closeM 69 v221.toNat 0 80 rfl rfl (getI_get (hx224)) rfl (u':=x223) rfl) ?_
 refine AO.nil (AW.region ?_)
 refine AO.val rfl rfl (arw_ok rfl rfl rfl rfl) ?_
 refine AO.pu T ?_
 refine AO.nil ?_
 refine ⟨(k199,(v219++x227),(v220.set v221.toNat x223),w64 (v221+1)),hH,Nat.lt_succ_self _,?_⟩
 exact Le.ct 84 79
 replace hH:=condF hc hH
 refine AW.exit (AW.seq (AW.region ?_))
 iterate 3 refine AO.pu T ?_
 refine AO.nil (AW.ret ?_)
 have hR:=someE hH;subst hR
 exact retQ.i [79] rfl (.t (expLG_cons (.c (.rowR rfl)) (expLG_cons (.c .v) (expLG_nil))))
 replace hH:=condF hc hH
 refine AW.skip ?_
 iterate 2 refine AW.seq ?_
 refine AW.region (AO.pu T ?_)
 refine AO.val rfl rfl (len_row_ok T rfl rfl rfl rfl) ?_
 refine AO.pu T ?_
 refine AO.val rfl rfl (quow_ok rfl rfl rfl (neZ (needT (hx182)))) ?_
 refine AO.pu T ?_
 refine AO.nil (AW.block ?_)
 refine AW.loopS (fun s:Nat × (List Int) × Int=>(⟨[(0,.s (List.map encInt keys)),(3,size),(10,.R 28),(15,.R 88),(91,w64 ((v122.length:Int).tdiv size)),(92,s.2.2)],[(28,.row 1 (List.map encInt v122)),(88,.row 1 (List.map encInt s.2.1))],119,[]⟩:St)) (fun s=>impl_OrderByPlaces_l5 keys size fuel v122 s.1 s.2.1 s.2.2=some r) (fun s=>s.1) (fuel,[],0) hH ?_ ?_
 refine Le.trans (Le.void 15 88 1 rfl rfl) ?_
 exact Le.ct 0 0
 rintro ⟨k231,v238,v239⟩ hH
 replace hH:impl_OrderByPlaces_l5 keys size fuel v122 k231 v238 v239=some r:=hH
 try dsimp only
 rcases k231 with _ | k231
 cases (show none=some _ from hH)
 rw [impl_OrderByPlaces_l5] at hH
 refine AW.seq (AW.region (AO.pu T ?_))
 refine AO.nil (AW.seq (AW.cond (b:=decide (v239 < (w64 ((v122.length:Int).tdiv size)))) rfl (fun hc=>?_) (fun hc=>?_)))
 replace hH:=condT hc hH
 refine AW.skip (AW.seq ?_)
 refine AW.block ?_
 obtain ⟨u241,hx242,hH⟩:=bindE hH
 refine AW.region ?_
 iterate 2 refine AO.pu T ?_
 refine AO.step rfl (mk_map_ok T rfl 89 rfl rfl rfl rfl rfl (f:=encInt) (l:=[size]) rfl rfl (fun _=>rfl) rfl rfl rfl rfl rfl) ?_
 refine AO.step rfl (app_rv_map T rfl 90 rfl rfl rfl rfl rfl (by decide) rfl rfl rfl rfl (fun _=>rfl) (needT (hx242)) rfl rfl) ?_
 refine AO.pu T ?_
 refine AO.nil (AW.region ?_)
 refine AO.val rfl rfl (arw_ok rfl rfl rfl rfl) ?_
 refine AO.pu T ?_
 refine AO.nil ?_
 refine ⟨(k231,(v238++[size]),w64 (v239+1)),hH,Nat.lt_succ_self _,?_⟩
 exact Le.ct 90 88
 replace hH:=condF hc hH
 refine AW.exit (AW.seq (AW.region ?_))
 refine AO.step rfl (mk0_ok T rfl rfl rfl rfl) ?_
 refine AO.pu T ?_
 refine AO.nil ?_
 iterate 2 refine AW.seq ?_
 obtain ⟨x243,hx244,hH⟩:=bindE hH
 refine AW.region ?_
 iterate 2 refine AO.pu T ?_
 refine AO.step rfl (callL_ok rfl 91 rfl rfl (es:=[.s (List.map encInt v122),.s (List.map encInt v238)]) (by exact ⟨(.rowR rfl (.map fun y=>.vs rfl)),(.rowR rfl (.map fun y=>.vs rfl)),trivial⟩) (impl_cutInto_ok _ _ _ (hx244)) (zfree_map (fun y=>(.cons (zfree_map (fun y=>(.cons (zfree_v _) .nil))) .nil))) rfl rfl rfl) ?_
 refine AO.val rfl rfl (len_row_ok T rfl rfl rfl rfl) ?_
 refine AO.pu T ?_
 refine AO.nil (AW.block ?_)
 refine AW.loopS (fun s:Nat × (List Int) × (List (List Int)) × Int=>(⟨[(0,.s (List.map encInt keys)),(17,.R 101),(102,.R 91),(103,(x243.length:Int)),(104,s.2.2.2)],[(91,.row 1 (List.map encLIntO s.2.2.1)),(101,.row 1 (List.map encInt s.2.1))],119,[]⟩:St)) (fun s=>impl_OrderByPlaces_l6 keys fuel x243 s.1 s.2.1 s.2.2.1 s.2.2.2=some r) (fun s=>s.1) (fuel,[],x243,0) hH ?_ ?_
 refine Le.trans (Le.void 17 101 1 rfl rfl) ?_
 exact Le.ct 0 0
 rintro ⟨k245,v265,v266,v267⟩ hH
 replace hH:impl_OrderByPlaces_l6 keys fuel x243 k245 v265 v266 v267=some r:=hH
 try dsimp only
 rcases k245 with _ | k245
 cases (show none=some _ from hH)
 rw [impl_OrderByPlaces_l6] at hH
 refine AW.seq (AW.region (AO.pu T ?_))
 refine AO.nil (AW.seq (AW.cond (b:=decide (v267 < (x243.length:Int))) rfl (fun hc=>?_) (fun hc=>?_)))
 replace hH:=condT hc hH
 refine AW.skip (AW.seq ?_)
 refine AW.block (AW.seq ?_)
 obtain ⟨x269,hx270,hH⟩:=bindE hH
 refine AW.le (Le.openM 91 v267.toNat 0 102 rfl (getI_get (hx270)) rfl rfl) ?_
 refine AW.region (AO.pu T ?_)
 refine AO.val rfl rfl (ix_lent_ok T rfl rfl rfl rfl rfl rfl (hx270)) ?_
 refine AO.val rfl rfl (load_lent_ok T rfl rfl rfl rfl rfl) ?_
 iterate 2 refine AO.pu T ?_
 refine AO.nil ?_
 obtain ⟨x271,hx272,hH⟩:=bindE hH
 obtain ⟨x273,hx274,hH⟩:=bindE hH
 obtain ⟨u275,hx276,hH⟩:=bindE hH
 refine AW.region ?_
 iterate 3 refine AO.pu T ?_
 refine AO.step rfl (mk_map_ok T rfl 103 rfl rfl rfl rfl rfl (f:=encInt) (l:=[v267]) rfl rfl (fun _=>rfl) rfl rfl rfl rfl rfl) ?_
 refine AO.step rfl (callL_ok rfl 104 rfl rfl (es:=[.s (List.map encInt keys),.s (List.map encInt [v267])]) (by exact ⟨.free rfl,(.rowR rfl (.map fun y=>.vs rfl)),trivial⟩) (impl_withKeys_ok _ _ _ (hx272)) (zfree_map (fun y=>(.cons (zfree_v _) .nil))) rfl rfl rfl) ?_
 refine AO.pu T ?_
 refine AO.step rfl (callL_ok rfl 105 rfl rfl (es:=[.s (List.map encInt x271),.s (List.map encInt x269)]) (by exact ⟨(.rowR rfl (.map fun y=>.vs rfl)),(.rowR rfl (.map fun y=>.vs rfl)),trivial⟩) (impl_shuffledNumbers_ok fuel _ _ _ (hx274)) (zfree_map (fun y=>(.cons (zfree_v _) .nil))) rfl rfl rfl) ?_
 refine AO.step rfl (app_rv_map T rfl 106 rfl rfl rfl rfl rfl (by decide) rfl rfl rfl rfl (fun _=>rfl) (needT (hx276)) rfl rfl) ?_
 refine AO.pu T ?_
 refine AO.le (Le.closeM 91 v267.toNat 0 102 rfl rfl (getI_get (hx270)) rfl (u':=x269) rfl) ?_
 refine AO.nil (AW.region ?_)
 refine AO.val rfl rfl (arw_ok rfl rfl rfl rfl) ?_
 refine AO.pu T ?_
 refine AO.nil ?_
 refine ⟨(k245,(v265++x273),(v266.set v267.toNat x269),w64 (v267+1)),hH,Nat.lt_succ_self _,?_⟩
 exact Le.ct 106 101
 replace hH:=condF hc hH
 refine AW.exit (AW.seq (AW.region ?_))
 iterate 3 refine AO.pu T ?_
 refine AO.nil (AW.ret ?_)
 have hR:=someE hH;subst hR
 exact retQ.i [101] rfl (.t (expLG_cons (.c (.rowR rfl)) (expLG_cons (.c .v) (expLG_nil))))

def impl_drawOf_l1 (e:Event) (fuel:Nat):List Entrant→Nat→List Entrant→List Int→List Int→Option (((List Int) × Bool))
  | [],k1,v30,v31,v32 =>
    cond ((v30.length:Int) == 0)
      (some ([],false))
      (cond (e.segment == 0)
        ((impl_StartOrder_p fuel [e.key,0] v30 e.size).bind fun x34 =>
        some (x34.1,x34.2))
        ((impl_OrderByPlaces_p fuel [e.key,e.segment] v31 v32 e.size).bind fun x36 =>
        some (x36.1,x36.2)))
  | y2::ys3,k1,v30,v31,v32 =>
    (impl_isThere_p e y2.skater).bind fun x38 =>
    cond x38
      ((need (fitsB 16 (v30.length+([y2]).length))).bind fun u40 =>
      (need (fitsB 8 (v31.length+([y2.skater]).length))).bind fun u42 =>
      (impl_placeOf_p fuel e.results (k1:Int)).bind fun x44 =>
      (need (fitsB 8 (v32.length+([x44]).length))).bind fun u46 =>
      impl_drawOf_l1 e fuel ys3 (k1+1) (v30++[y2]) (v31++[y2.skater]) (v32++[x44]))
      (impl_drawOf_l1 e fuel ys3 (k1+1) v30 v31 v32)
def impl_drawOf_p (fuel:Nat) (e:Event):Option ((List Int) × Bool) :=
  impl_drawOf_l1 e fuel e.entrants 0 [] [] []
theorem impl_drawOf_ok (fuel:Nat) (e:Event) (r:((List Int) × Bool)) (hH:impl_drawOf_p fuel e=some r):SpecR Tryz.prog 47 [.g (encEvent e)] (.t [.w 1 (r.1.map encInt),.v (.bool r.2)]):=by
 refine fn_ok T Tryz.func47 rfl (by decide) rfl ?_
 refine AW.seq (AW.region (AO.step rfl (box_ok T rfl 1 rfl rfl rfl rfl) ?_))
 iterate 2 refine AO.pu T ?_
 refine AO.nil (AW.seq (AW.region ?_))
 iterate 3 refine AO.step rfl (mk0_ok T rfl rfl rfl rfl) ?_
 iterate 3 refine AO.pu T ?_
 refine AO.nil ?_
 iterate 2 refine AW.seq ?_
 refine AW.region ?_
 iterate 2 refine AO.pu T ?_
 refine AO.val rfl rfl (len_map_ok T rfl rfl rfl) ?_
 refine AO.pu T ?_
 refine AO.nil (AW.block ?_)
 refine AW.loopS (fun s:Nat × (List Entrant) × (List Int) × (List Int)=>(⟨[(1,.p 1 0),(4,.R 11),(5,.R 13),(6,.R 15),(13,.s (List.map encEntrant e.entrants)),(14,(e.entrants.length:Int)),(15,(s.1:Int))],[(1,.box [e.segments,e.size,e.key,.s (List.map encEntrant e.entrants),.s (List.map encInt e.gone),e.segment,.s (List.map encInt e.order),.s (List.map encResult e.results)]),(11,.row 2 (List.map encEntrant s.2.1)),(13,.row 1 (List.map encInt s.2.2.1)),(15,.row 1 (List.map encInt s.2.2.2))],68,[]⟩:St)) (fun s=>s.1 ≤ e.entrants.length∧impl_drawOf_l1 e fuel (e.entrants.drop s.1) s.1 s.2.1 s.2.2.1 s.2.2.2=some r) (fun s=>e.entrants.length - s.1) (0,[],[],[]) ⟨Nat.zero_le _,hH⟩ ?_ ?_
 refine Le.trans (Le.void 4 11 2 rfl rfl) ?_
 refine Le.trans (Le.void 5 13 1 rfl rfl) ?_
 refine Le.trans (Le.void 6 15 1 rfl rfl) ?_
 exact Le.ct 0 0
 rintro ⟨k1,v30,v31,v32⟩ ⟨hk,hH⟩
 replace hH:impl_drawOf_l1 e fuel (e.entrants.drop k1) k1 v30 v31 v32=some r:=hH
 try dsimp only
 refine AW.boundM (t:=13) (l:=e.entrants) rfl (fun hb5=>?_)
 rcases hd4:e.entrants.drop k1 with _ | ⟨y2,ys3⟩
 rw [hd4,impl_drawOf_l1] at hH
 have hlt6:=drop_ge hd4
 refine AW.seq (AW.region (AO.pu T ?_))
 refine AO.nil (AW.seq (AW.condF' (b:=decide ((k1:Int) < (e.entrants.length:Int))) rfl (rngF hlt6) ?_))
 refine AW.exit ?_
 iterate 2 refine AW.seq ?_
 refine AW.region (AO.pu T ?_)
 refine AO.val rfl rfl (len_row_ok T rfl rfl rfl rfl) ?_
 refine AO.pu T ?_
 refine AO.nil (AW.cond (b:=((v30.length:Int) == 0)) rfl (fun hc=>?_) (fun hc=>?_))
 replace hH:=condT hc hH
 refine AW.seq (AW.region ?_)
 iterate 2 refine AO.pu T ?_
 refine AO.nil (AW.ret ?_)
 have hR:=someE hH;subst hR
 exact retQ.i [] rfl (.t (expLG_cons (.c .nil) (expLG_cons (.c .v) (expLG_nil))))
 replace hH:=condF hc hH
 refine AW.skip ?_
 iterate 2 refine AW.seq ?_
 refine AW.region ?_
 iterate 3 refine AO.pu T ?_
 refine AO.nil (AW.cond (b:=(e.segment == 0)) rfl (fun hc=>?_) (fun hc=>?_))
 replace hH:=condT hc hH
 refine AW.seq ?_
 obtain ⟨x34,hx35,hH⟩:=bindE hH
 refine AW.region ?_
 iterate 2 refine AO.pu T ?_
 refine AO.step rfl (mk_map_ok T rfl 16 rfl rfl rfl rfl rfl (f:=encInt) (l:=[e.key,0]) rfl rfl (fun _=>rfl) rfl rfl rfl rfl rfl) ?_
 iterate 3 refine AO.pu T ?_
 refine AO.step rfl (callL_ok rfl 17 rfl rfl (es:=[.s (List.map encInt [e.key,0]),.s (List.map encEntrant v30),e.size]) (by exact ⟨(.rowR rfl (.map fun y=>.vs rfl)),(.rowR rfl (.map fun y=>.vs rfl)),.free rfl,trivial⟩) (impl_StartOrder_ok fuel _ _ _ _ (hx35)) (zfree_t (zfl (.cons (zfree_map (fun y=>(.cons (zfree_v _) .nil))) (.cons (zfree_v _) .nil)))) rfl rfl rfl) ?_
 iterate 4 refine AO.pu T ?_
 refine AO.nil (AW.ret ?_)
 have hR:=someE hH;subst hR
 exact retQ.i [17] rfl (.t (expLG_cons (.c (.rowR rfl)) (expLG_cons (.c .v) (expLG_nil))))
 replace hH:=condF hc hH
 refine AW.skip (AW.seq ?_)
 obtain ⟨x36,hx37,hH⟩:=bindE hH
 refine AW.region ?_
 iterate 4 refine AO.pu T ?_
 refine AO.step rfl (mk_map_ok T rfl 18 rfl rfl rfl rfl rfl (f:=encInt) (l:=[e.key,e.segment]) rfl rfl (fun _=>rfl) rfl rfl rfl rfl rfl) ?_
 iterate 4 refine AO.pu T ?_
 refine AO.step rfl (callL_ok rfl 19 rfl rfl (es:=[.s (List.map encInt [e.key,e.segment]),.s (List.map encInt v31),.s (List.map encInt v32),e.size]) (by exact ⟨(.rowR rfl (.map fun y=>.vs rfl)),(.rowR rfl (.map fun y=>.vs rfl)),(.rowR rfl (.map fun y=>.vs rfl)),.free rfl,trivial⟩) (impl_OrderByPlaces_ok fuel _ _ _ _ _ (hx37)) (zfree_t (zfl (.cons (zfree_map (fun y=>(.cons (zfree_v _) .nil))) (.cons (zfree_v _) .nil)))) rfl rfl rfl) ?_
 iterate 4 refine AO.pu T ?_
 refine AO.nil (AW.ret ?_)
 have hR:=someE hH;subst hR
 exact retQ.i [19] rfl (.t (expLG_cons (.c (.rowR rfl)) (expLG_cons (.c .v) (expLG_nil))))
 rw [hd4,impl_drawOf_l1] at hH
 have hlt6:=drop_lt hd4
 refine AW.seq (AW.region (AO.pu T ?_))
 refine AO.nil (AW.seq (AW.condT' (b:=decide ((k1:Int) < (e.entrants.length:Int))) rfl (rngT hlt6) ?_))
 refine AW.skip (AW.seq ?_)
 refine AW.block (AW.seq (AW.region ?_))
 refine AO.pu T ?_
 refine AO.val rfl rfl (ix_map_ok T rfl rfl rfl rfl rfl (getI_drop hd4) rfl) ?_
 refine AO.pu T (d:=.g [y2.skater,y2.rank]) ?_
 refine AO.step rfl (alloc_ok T rfl 20 rfl rfl rfl rfl rfl) ?_
 refine AO.pu T ?_
 refine AO.se T [y2.skater,y2.rank] ?_
 refine AO.nil (AW.seq ?_)
 obtain ⟨x38,hx39,hH⟩:=bindE hH
 refine AW.region (AO.pu T (d:=.g [e.segments,e.size,e.key,.s (List.map encEntrant e.entrants),.s (List.map encInt e.gone),e.segment,.s (List.map encInt e.order),.s (List.map encResult e.results)]) ?_)
 iterate 2 refine AO.pu T ?_
 refine AO.val rfl rfl (callV_ok rfl rfl rfl rfl (impl_isThere_ok _ _ _ (hx39)) rfl) ?_
 refine AO.nil (AW.cond (b:=x38) rfl (fun hc=>?_) (fun hc=>?_))
 replace hH:=condT hc hH
 refine AW.seq ?_
 obtain ⟨u40,hx41,hH⟩:=bindE hH
 refine AW.region (AO.pu T ?_)
 refine AO.pu T (d:=.g [y2.skater,y2.rank]) ?_
 refine AO.step rfl (mk_map_ok T rfl 21 rfl rfl rfl rfl rfl (f:=encEntrant) (l:=[y2]) rfl rfl (fun _=>rfl) rfl rfl rfl rfl rfl) ?_
 refine AO.step rfl (app_rv_map T rfl 22 rfl rfl rfl rfl rfl (by decide) rfl rfl rfl rfl (fun _=>rfl) (needT (hx41)) rfl rfl) ?_
 refine AO.pu T ?_
 refine AO.nil (AW.seq ?_)
 obtain ⟨u42,hx43,hH⟩:=bindE hH
 refine AW.region ?_
 iterate 3 refine AO.pu T ?_
 refine AO.step rfl (mk_map_ok T rfl 23 rfl rfl rfl rfl rfl (f:=encInt) (l:=[y2.skater]) rfl rfl (fun _=>rfl) rfl rfl rfl rfl rfl) ?_
 refine AO.step rfl (app_rv_map T rfl 24 rfl rfl rfl rfl rfl (by decide) rfl rfl rfl rfl (fun _=>rfl) (needT (hx43)) rfl rfl) ?_
 refine AO.pu T ?_
 refine AO.nil ?_
 obtain ⟨x44,hx45,hH⟩:=bindE hH
 obtain ⟨u46,hx47,hH⟩:=bindE hH
 refine AW.region ?_
 iterate 4 refine AO.pu T ?_
 refine AO.val rfl rfl (callV_ok rfl rfl rfl rfl (impl_placeOf_ok fuel _ _ _ (hx45)) rfl) ?_
 refine AO.step rfl (mk_map_ok T rfl 25 rfl rfl rfl rfl rfl (f:=encInt) (l:=[x44]) rfl rfl (fun _=>rfl) rfl rfl rfl rfl rfl) ?_
 refine AO.step rfl (app_rv_map T rfl 26 rfl rfl rfl rfl rfl (by decide) rfl rfl rfl rfl (fun _=>rfl) (needT (hx47)) rfl rfl) ?_
 refine AO.pu T ?_
 refine AO.nil (AW.le (Le.ct 0 0 (σ':=(⟨[(1,.p 1 0),(4,.R 22),(5,.R 24),(6,.R 26),(13,.s (List.map encEntrant e.entrants)),(14,(e.entrants.length:Int)),(15,(k1:Int))],[(1,.box [e.segments,e.size,e.key,.s (List.map encEntrant e.entrants),.s (List.map encInt e.gone),e.segment,.s (List.map encInt e.order),.s (List.map encResult e.results)]),(22,.row 2 (List.map encEntrant (v30++[y2]))),(24,.row 1 (List.map encInt (v31++[y2.skater]))),(26,.row 1 (List.map encInt (v32++[x44])))],68,[]⟩:St))) ?_)
 refine AW.region (AO.val rfl rfl (ar_ok rfl rfl rfl rfl (inI_succ hlt6 hb5)) ?_)
 refine AO.pu T ?_
 refine AO.nil ?_
 refine ⟨(k1+1,(v30++[y2]),(v31++[y2.skater]),(v32++[x44])),⟨Nat.succ_le_of_lt hlt6,(by rw [drop_succ_of hd4];exact hH)⟩,(by have:=hlt6;dsimp only;omega),?_⟩
 refine Le.trans (Le.ct 22 11 (σ':=(⟨[(1,.p 1 0),(4,.R 11),(5,.R 24),(6,.R 26),(13,.s (List.map encEntrant e.entrants)),(14,(e.entrants.length:Int)),(15,((k1+1:Nat):Int))],[(1,.box [e.segments,e.size,e.key,.s (List.map encEntrant e.entrants),.s (List.map encInt e.gone),e.segment,.s (List.map encInt e.order),.s (List.map encResult e.results)]),(11,.row 2 (List.map encEntrant (v30++[y2]))),(24,.row 1 (List.map encInt (v31++[y2.skater]))),(26,.row 1 (List.map encInt (v32++[x44])))],68,[]⟩:St))) ?_
 refine Le.trans (Le.ct 24 13 (σ':=(⟨[(1,.p 1 0),(4,.R 11),(5,.R 13),(6,.R 26),(13,.s (List.map encEntrant e.entrants)),(14,(e.entrants.length:Int)),(15,((k1+1:Nat):Int))],[(1,.box [e.segments,e.size,e.key,.s (List.map encEntrant e.entrants),.s (List.map encInt e.gone),e.segment,.s (List.map encInt e.order),.s (List.map encResult e.results)]),(11,.row 2 (List.map encEntrant (v30++[y2]))),(13,.row 1 (List.map encInt (v31++[y2.skater]))),(26,.row 1 (List.map encInt (v32++[x44])))],68,[]⟩:St))) ?_
 exact Le.ct 26 15
 replace hH:=condF hc hH
 refine AW.skip (AW.region ?_)
 refine AO.val rfl rfl (ar_ok rfl rfl rfl rfl (inI_succ hlt6 hb5)) ?_
 refine AO.pu T ?_
 refine AO.nil ?_
 refine ⟨(k1+1,v30,v31,v32),⟨Nat.succ_le_of_lt hlt6,(by rw [drop_succ_of hd4];exact hH)⟩,(by have:=hlt6;dsimp only;omega),?_⟩
 exact Le.ct 0 0

def impl_copyEvent_l1 (e:Event):List Result→Nat→List Result→Option Event
  | [],k1,v16 =>
    (need (fitsB 16 e.entrants.length)).bind fun u18 =>
    (impl_copyInts_p e.gone).bind fun x20 =>
    (impl_copyInts_p e.order).bind fun x22 =>
    some (Event.mk e.segments e.size e.key e.entrants x20 e.segment x22 v16)
  | y2::ys3,k1,v16 =>
    (impl_copyInts_p y2.scores).bind fun x24 =>
    (need (fitsB 32 (v16.length+([(Result.mk y2.skater x24)]).length))).bind fun u26 =>
    impl_copyEvent_l1 e ys3 (k1+1) (v16++[(Result.mk y2.skater x24)])
def impl_copyEvent_p (e:Event):Option Event :=
  impl_copyEvent_l1 e e.results 0 []
theorem impl_copyEvent_ok (e:Event) (r:Event) (hH:impl_copyEvent_p e=some r):SpecR Tryz.prog 48 [.g (encEvent e)] (.g (encEventO r)):=by
 refine fn_ok T Tryz.func48 rfl (by decide) rfl ?_
 refine AW.seq (AW.region (AO.step rfl (box_ok T rfl 1 rfl rfl rfl rfl) ?_))
 refine AO.step rfl (alloc_ok T rfl 2 rfl rfl rfl rfl rfl) ?_
 refine AO.nil (AW.seq (AW.region ?_))
 refine AO.step rfl (mk0_ok T rfl rfl rfl rfl) ?_
 refine AO.pu T ?_
 refine AO.nil ?_
 iterate 2 refine AW.seq ?_
 refine AW.region ?_
 iterate 2 refine AO.pu T ?_
 refine AO.val rfl rfl (len_map_ok T rfl rfl rfl) ?_
 refine AO.pu T ?_
 refine AO.nil (AW.block ?_)
 refine AW.loopS (fun s:Nat × (List Result)=>(⟨[(1,.p 1 0),(2,.p 2 0),(3,.R 10),(8,.s (List.map encResult e.results)),(9,(e.results.length:Int)),(10,(s.1:Int))],[(1,.box [e.segments,e.size,e.key,.s (List.map encEntrant e.entrants),.s (List.map encInt e.gone),e.segment,.s (List.map encInt e.order),.s (List.map encResult e.results)]),(2,.box [(0:Int),(0:Int),(0:Int),.w 0 [],.w 0 [],(0:Int),.w 0 [],.w 0 []]),(10,.row 2 (List.map encResultO s.2))],40,[]⟩:St)) (fun s=>s.1 ≤ e.results.length∧impl_copyEvent_l1 e (e.results.drop s.1) s.1 s.2=some r) (fun s=>e.results.length - s.1) (0,[]) ⟨Nat.zero_le _,hH⟩ ?_ ?_
 refine Le.trans (Le.void 3 10 2 rfl rfl) ?_
 exact Le.ct 0 0
 rintro ⟨k1,v16⟩ ⟨hk,hH⟩
 replace hH:impl_copyEvent_l1 e (e.results.drop k1) k1 v16=some r:=hH
 try dsimp only
 refine AW.boundM (t:=8) (l:=e.results) rfl (fun hb5=>?_)
 rcases hd4:e.results.drop k1 with _ | ⟨y2,ys3⟩
 rw [hd4,impl_copyEvent_l1] at hH
 have hlt6:=drop_ge hd4
 refine AW.seq (AW.region (AO.pu T ?_))
 refine AO.nil (AW.seq (AW.condF' (b:=decide ((k1:Int) < (e.results.length:Int))) rfl (rngF hlt6) ?_))
 refine AW.exit (AW.seq ?_)
 obtain ⟨u18,hx19,hH⟩:=bindE hH
 refine AW.region (AO.step rfl (mk0_ok T rfl rfl rfl rfl) ?_)
 iterate 2 refine AO.pu T ?_
 refine AO.step rfl (app_ws_map T rfl 11 rfl rfl rfl rfl rfl (by decide) (by decide) rfl rfl (fun _=>rfl) (needT (hx19)) rfl rfl) ?_
 iterate 2 refine AO.pu T ?_
 refine AO.se T [e.segments,e.size,e.key,.R 11,.s (List.map encInt e.gone),e.segment,.s (List.map encInt e.order),.s (List.map encResult e.results)] ?_
 refine AO.pu T ?_
 refine AO.se T [e.segments,e.size,e.key,.R 11,.s (List.map encInt e.gone),e.segment,.s (List.map encInt e.order),.R 10] ?_
 refine AO.nil (AW.seq ?_)
 obtain ⟨x20,hx21,hH⟩:=bindE hH
 obtain ⟨x22,hx23,hH⟩:=bindE hH
 refine AW.drawn 7 12 [] mix (by kernel_rfl) rfl ?_
 iterate 2 refine AD.pure T rfl rfl rfl ?_
 refine AD.q (FStep.call rfl rfl rfl rfl rfl (impl_copyInts_ok _ _ (hx21)) rfl rfl) (impT_names _ _) (impT_le _ _) rfl ?_
 iterate 2 refine AD.pure T rfl rfl rfl ?_
 refine AD.q (FStep.call rfl rfl rfl rfl rfl (impl_copyInts_ok _ _ (hx23)) rfl rfl) (impT_names _ _) (impT_le _ _) rfl ?_
 refine AD.pure T rfl rfl rfl ?_
 refine AD.nil (AO.se T [e.segments,e.size,e.key,.R 11,.R 12,e.segment,.s (List.map encInt e.order),.R 10] ?_)
 refine AO.pu T ?_
 refine AO.se T [e.segments,e.size,e.key,.R 11,.R 12,e.segment,.R 13,.R 10] ?_
 refine AO.nil (AW.seq (AW.region ?_))
 refine AO.pu T (d:=.g [e.segments,e.size,e.key,.R 11,.R 12,e.segment,.R 13,.R 10]) ?_
 refine AO.se T [e.segments,e.size,e.key,.R 11,.R 12,e.segment,.R 13,.R 10] ?_
 refine AO.nil (AW.ret ?_)
 have hR:=someE hH;subst hR
 exact retQ.i [11,12,13,10] rfl (.c (.g (expLC_cons .v (expLC_cons .v (expLC_cons .v (expLC_cons (.rowR rfl) (expLC_cons (.rowR rfl) (expLC_cons .v (expLC_cons (.rowR rfl) (expLC_cons (.rowR rfl) (expLC_nil)))))))))))
 rw [hd4,impl_copyEvent_l1] at hH
 have hlt6:=drop_lt hd4
 refine AW.seq (AW.region (AO.pu T ?_))
 refine AO.nil (AW.seq (AW.condT' (b:=decide ((k1:Int) < (e.results.length:Int))) rfl (rngT hlt6) ?_))
 refine AW.skip (AW.seq ?_)
 refine AW.block (AW.seq (AW.region ?_))
 refine AO.val rfl rfl (ix_map_ok T rfl rfl rfl rfl rfl (getI_drop hd4) rfl) ?_
 refine AO.pu T (d:=.g [y2.skater,.s (List.map encInt y2.scores)]) ?_
 refine AO.step rfl (alloc_ok T rfl 14 rfl rfl rfl rfl rfl) ?_
 refine AO.se T [y2.skater,.s (List.map encInt y2.scores)] ?_
 refine AO.nil ?_
 obtain ⟨x24,hx25,hH⟩:=bindE hH
 obtain ⟨u26,hx27,hH⟩:=bindE hH
 refine AW.drawn 8 15 [] mix (by kernel_rfl) rfl ?_
 iterate 5 refine AD.pure T rfl rfl rfl ?_
 refine AD.q (FStep.call rfl rfl rfl rfl rfl (impl_copyInts_ok _ _ (hx25)) rfl rfl) (impT_names _ _) (impT_le _ _) rfl ?_
 refine AD.pured T (d:=.g [y2.skater,.R 15]) rfl rfl rfl rfl ?_
 refine AD.k rfl rfl (FStep.mk_o T rfl rfl rfl rfl rfl rfl rfl rfl (f:=encResultO) (l:=[(Result.mk y2.skater x24)]) (ids:=[15]) rfl rfl (fun _=>rfl) (by exact expLC_cons .v (expLC_cons (.rowR rfl) (expLC_nil))) (by decide) rfl rfl rfl rfl) rfl rfl rfl ?_
 refine AD.nil (AO.step rfl (app_rr_map T rfl 17 rfl rfl rfl rfl rfl (by decide) rfl rfl rfl rfl rfl (needT (hx27)) rfl rfl) ?_)
 refine AO.pu T ?_
 refine AO.nil (AW.region ?_)
 refine AO.val rfl rfl (ar_ok rfl rfl rfl rfl (inI_succ hlt6 hb5)) ?_
 refine AO.pu T ?_
 refine AO.nil ?_
 refine ⟨(k1+1,(v16++[(Result.mk y2.skater x24)])),⟨Nat.succ_le_of_lt hlt6,(by rw [drop_succ_of hd4];exact hH)⟩,(by have:=hlt6;dsimp only;omega),?_⟩
 exact Le.ct 17 10

def impl_BeginSegment_p (fuel:Nat) (e:Event):Option (Event × Bool) :=
  (impl_isRunning_p e).bind fun x1 =>
  cond ((!x1) || decide ((e.order.length:Int) > 0))
    (some ((Event.mk 0 0 0 [] [] 0 [] []),false))
    ((impl_drawOf_p fuel e).bind fun x3 =>
    cond (!x3.2)
      (some ((Event.mk 0 0 0 [] [] 0 [] []),false))
      ((impl_copyEvent_p e).bind fun x5 =>
      some ((Event.mk x5.segments x5.size x5.key x5.entrants x5.gone x5.segment x3.1 x5.results),true)))
theorem impl_BeginSegment_ok (fuel:Nat) (e:Event) (r:(Event × Bool)) (hH:impl_BeginSegment_p fuel e=some r):SpecR Tryz.prog 11 [.g (encEvent e)] (.t [.g (encEventO r.1),.v (.bool r.2)]):=by
 refine fn_ok T Tryz.func11 rfl (by decide) rfl ?_
 refine AW.seq (AW.region (AO.step rfl (box_ok T rfl 1 rfl rfl rfl rfl) ?_))
 refine AO.step rfl (alloc_ok T rfl 2 rfl rfl rfl rfl rfl) ?_
 refine AO.pu T ?_
 refine AO.nil ?_
 iterate 2 refine AW.seq ?_
 obtain ⟨x1,hx2,hH⟩:=bindE hH
 refine AW.region (AO.pu T (d:=.g [e.segments,e.size,e.key,.s (List.map encEntrant e.entrants),.s (List.map encInt e.gone),e.segment,.s (List.map encInt e.order),.s (List.map encResult e.results)]) ?_)
 refine AO.val rfl rfl (callV_ok rfl rfl rfl rfl (impl_isRunning_ok _ _ (hx2)) rfl) ?_
 iterate 2 refine AO.pu T ?_
 refine AO.pureG T [] rfl trivial rfl rfl ?_
 refine AO.pureG T [11] rfl ⟨fun h=>h,trivial⟩ rfl rfl ?_
 refine AO.guard [12] rfl ⟨fun h=>h,trivial⟩ (fun hg=>len_map_ok T rfl rfl rfl) rfl ?_
 refine AO.pureG T [13] rfl ⟨fun h=>h,trivial⟩ rfl rfl ?_
 refine AO.val rfl rfl (pick_or rfl rfl rfl rfl) ?_
 refine AO.nil (AW.cond (b:=((!x1) || decide ((e.order.length:Int) > 0))) rfl (fun hc=>?_) (fun hc=>?_))
 replace hH:=condT hc hH
 refine AW.seq (AW.region (AO.pu T (d:=.g [(0:Int),(0:Int),(0:Int),.w 0 [],.w 0 [],(0:Int),.w 0 [],.w 0 []]) ?_))
 refine AO.se T [(0:Int),(0:Int),(0:Int),.w 0 [],.w 0 [],(0:Int),.w 0 [],.w 0 []] ?_
 refine AO.pu T ?_
 refine AO.nil (AW.ret ?_)
 have hR:=someE hH;subst hR
 exact retQ.i [] rfl (.t (expLG_cons (.g (expLC_cons .v (expLC_cons .v (expLC_cons .v (expLC_cons .nil (expLC_cons .nil (expLC_cons .v (expLC_cons .nil (expLC_cons .nil (expLC_nil)))))))))) (expLG_cons (.c .v) (expLG_nil))))
 replace hH:=condF hc hH
 refine AW.skip (AW.seq ?_)
 obtain ⟨x3,hx4,hH⟩:=bindE hH
 refine AW.region (AO.pu T (d:=.g [e.segments,e.size,e.key,.s (List.map encEntrant e.entrants),.s (List.map encInt e.gone),e.segment,.s (List.map encInt e.order),.s (List.map encResult e.results)]) ?_)
 refine AO.step rfl (call_ok rfl 3 rfl rfl rfl (impl_drawOf_ok fuel _ _ (hx4)) rfl rfl rfl) ?_
 iterate 5 refine AO.pu T ?_
 refine AO.nil ?_
 iterate 2 refine AW.seq ?_
 refine AW.region ?_
 iterate 2 refine AO.pu T ?_
 refine AO.nil (AW.cond (b:=(!x3.2)) rfl (fun hc=>?_) (fun hc=>?_))
 replace hH:=condT hc hH
 refine AW.seq (AW.region (AO.pu T (d:=.g [(0:Int),(0:Int),(0:Int),.w 0 [],.w 0 [],(0:Int),.w 0 [],.w 0 []]) ?_))
 refine AO.se T [(0:Int),(0:Int),(0:Int),.w 0 [],.w 0 [],(0:Int),.w 0 [],.w 0 []] ?_
 refine AO.pu T ?_
 refine AO.nil (AW.le (Le.ct 0 0 (σ':=(⟨[(2,.p 2 0),(3,.v (.bool false))],[(2,.box [(0:Int),(0:Int),(0:Int),.w 0 [],.w 0 [],(0:Int),.w 0 [],.w 0 []])],30,[]⟩:St))) ?_)
 refine AW.ret ?_
 have hR:=someE hH;subst hR
 exact retQ.i [] rfl (.t (expLG_cons (.g (expLC_cons .v (expLC_cons .v (expLC_cons .v (expLC_cons .nil (expLC_cons .nil (expLC_cons .v (expLC_cons .nil (expLC_cons .nil (expLC_nil)))))))))) (expLG_cons (.c .v) (expLG_nil))))
 replace hH:=condF hc hH
 refine AW.skip (AW.seq ?_)
 obtain ⟨x5,hx6,hH⟩:=bindE hH
 refine AW.region (AO.pu T (d:=.g [e.segments,e.size,e.key,.s (List.map encEntrant e.entrants),.s (List.map encInt e.gone),e.segment,.s (List.map encInt e.order),.s (List.map encResult e.results)]) ?_)
 refine AO.step rfl (call_ok rfl 4 rfl rfl rfl (impl_copyEvent_ok _ _ (hx6)) rfl rfl rfl) ?_
 refine AO.step rfl (alloc_ok T rfl 8 rfl rfl rfl rfl rfl) ?_
 refine AO.se T [x5.segments,x5.size,x5.key,.R 4,.R 5,x5.segment,.R 6,.R 7] ?_
 refine AO.nil (AW.le (Le.ct 0 0 (σ':=(⟨[(2,.p 2 0),(4,.R 3),(6,.p 8 0)],[(2,.box [(0:Int),(0:Int),(0:Int),.w 0 [],.w 0 [],(0:Int),.w 0 [],.w 0 []]),(3,.row 1 (List.map encInt x3.1)),(4,.row 2 (List.map encEntrant x5.entrants)),(5,.row 1 (List.map encInt x5.gone)),(6,.row 1 (List.map encInt x5.order)),(7,.row 2 (List.map encResultO x5.results)),(8,.box [x5.segments,x5.size,x5.key,.R 4,.R 5,x5.segment,.R 6,.R 7])],30,[]⟩:St))) ?_)
 refine AW.seq (AW.region ?_)
 iterate 2 refine AO.pu T ?_
 refine AO.se T [x5.segments,x5.size,x5.key,.R 4,.R 5,x5.segment,.R 3,.R 7] ?_
 refine AO.nil (AW.seq (AW.region ?_))
 refine AO.pu T (d:=.g [x5.segments,x5.size,x5.key,.R 4,.R 5,x5.segment,.R 3,.R 7]) ?_
 refine AO.se T [x5.segments,x5.size,x5.key,.R 4,.R 5,x5.segment,.R 3,.R 7] ?_
 refine AO.pu T ?_
 refine AO.nil (AW.ret ?_)
 have hR:=someE hH;subst hR
 exact retQ.i [4,5,3,7] rfl (.t (expLG_cons (.g (expLC_cons .v (expLC_cons .v (expLC_cons .v (expLC_cons (.rowR rfl) (expLC_cons (.rowR rfl) (expLC_cons .v (expLC_cons (.rowR rfl) (expLC_cons (.rowR rfl) (expLC_nil)))))))))) (expLG_cons (.c .v) (expLG_nil))))

def impl_AllowedSteps_p (fuel:Nat) (e:Event):Option ((List Int) × Bool) :=
  (impl_IsEvent_p e).bind fun x1 =>
  cond (!x1)
    (some ([],false))
    ((impl_isRunning_p e).bind fun x3 =>
    cond (!x3)
      (some ([],true))
      ((slices_ContainsFunc_Entrant_p e.entrants (fun a0=>impl_AllowedSteps_c1_p a0 e)).bind fun x5 =>
      cond x5
        ((need (fitsB 8 ((([2]:List Int)).length))).bind fun u7 =>
        (impl_BeginSegment_p fuel e).bind fun x9 =>
        cond x9.2
          ((need (fitsB 8 ((([2]:List Int)).length+(([3]:List Int)).length))).bind fun u11 =>
          cond (decide ((e.order.length:Int) > 0))
            ((need (fitsB 8 (((([2]:List Int)++([3]:List Int))).length+(([4]:List Int)).length))).bind fun u13 =>
            some (((([2]:List Int)++([3]:List Int))++([4]:List Int)),true))
            (some ((([2]:List Int)++([3]:List Int)),true)))
          (cond (decide ((e.order.length:Int) > 0))
            ((need (fitsB 8 ((([2]:List Int)).length+(([4]:List Int)).length))).bind fun u15 =>
            some ((([2]:List Int)++([4]:List Int)),true))
            (some (([2]:List Int),true))))
        ((impl_BeginSegment_p fuel e).bind fun x17 =>
        cond x17.2
          ((need (fitsB 8 ((([3]:List Int)).length))).bind fun u19 =>
          cond (decide ((e.order.length:Int) > 0))
            ((need (fitsB 8 ((([3]:List Int)).length+(([4]:List Int)).length))).bind fun u21 =>
            some ((([3]:List Int)++([4]:List Int)),true))
            (some (([3]:List Int),true)))
          (cond (decide ((e.order.length:Int) > 0))
            ((need (fitsB 8 ((([4]:List Int)).length))).bind fun u23 =>
            some (([4]:List Int),true))
            (some ([],true))))))
theorem impl_AllowedSteps_ok (fuel:Nat) (e:Event) (r:((List Int) × Bool)) (hH:impl_AllowedSteps_p fuel e=some r):SpecR Tryz.prog 7 [.g (encEvent e)] (.t [.w 1 (r.1.map encInt),.v (.bool r.2)]):=by
 refine fn_ok T Tryz.func7 rfl (by decide) rfl ?_
 refine AW.seq (AW.region (AO.step rfl (box_ok T rfl 1 rfl rfl rfl rfl) ?_))
 iterate 2 refine AO.pu T ?_
 refine AO.nil ?_
 iterate 2 refine AW.seq ?_
 obtain ⟨x1,hx2,hH⟩:=bindE hH
 refine AW.region (AO.pu T (d:=.g [e.segments,e.size,e.key,.s (List.map encEntrant e.entrants),.s (List.map encInt e.gone),e.segment,.s (List.map encInt e.order),.s (List.map encResult e.results)]) ?_)
 refine AO.val rfl rfl (callV_ok rfl rfl rfl rfl (impl_IsEvent_ok _ _ (hx2)) rfl) ?_
 refine AO.pu T ?_
 refine AO.nil (AW.cond (b:=(!x1)) rfl (fun hc=>?_) (fun hc=>?_))
 replace hH:=condT hc hH
 refine AW.seq (AW.region ?_)
 iterate 2 refine AO.pu T ?_
 refine AO.nil (AW.ret ?_)
 have hR:=someE hH;subst hR
 exact retQ.i [] rfl (.t (expLG_cons (.c .nil) (expLG_cons (.c .v) (expLG_nil))))
 replace hH:=condF hc hH
 refine AW.skip (AW.seq (AW.region ?_))
 refine AO.step rfl (mk0_ok T rfl rfl rfl rfl) ?_
 refine AO.pu T ?_
 refine AO.nil ?_
 iterate 2 refine AW.seq ?_
 obtain ⟨x3,hx4,hH⟩:=bindE hH
 refine AW.region (AO.pu T (d:=.g [e.segments,e.size,e.key,.s (List.map encEntrant e.entrants),.s (List.map encInt e.gone),e.segment,.s (List.map encInt e.order),.s (List.map encResult e.results)]) ?_)
 refine AO.val rfl rfl (callV_ok rfl rfl rfl rfl (impl_isRunning_ok _ _ (hx4)) rfl) ?_
 refine AO.pu T ?_
 refine AO.nil (AW.cond (b:=(!x3)) rfl (fun hc=>?_) (fun hc=>?_))
 replace hH:=condT hc hH
 refine AW.seq (AW.region ?_)
 iterate 3 refine AO.pu T ?_
 refine AO.nil (AW.ret ?_)
 have hR:=someE hH;subst hR
 exact retQ.i [] rfl (.t (expLG_cons (.c .nil) (expLG_cons (.c .v) (expLG_nil))))
 replace hH:=condF hc hH
 refine AW.skip ?_
 iterate 2 refine AW.seq ?_
 obtain ⟨x5,hx6,hH⟩:=bindE hH
 refine AW.region ?_
 iterate 3 refine AO.pu T ?_
 refine AO.val rfl rfl (callLV_ok rfl rfl rfl (es:=[.s (List.map encEntrant e.entrants),.f 40 [.q [e.segments,e.size,e.key,.s (List.map encEntrant e.entrants),.s (List.map encInt e.gone),e.segment,.s (List.map encInt e.order),.s (List.map encResult e.results)]]]) ⟨.free rfl,lend_f (LendL.cons (Lend.boxF rfl rfl) LendL.nil),trivial⟩ (slices_ContainsFunc_Entrant_ok _ 40 [.q [e.segments,e.size,e.key,.s (List.map encEntrant e.entrants),.s (List.map encInt e.gone),e.segment,.s (List.map encInt e.order),.s (List.map encResult e.results)]] rfl (fun a0=>impl_AllowedSteps_c1_p a0 e) (fun a0 q h=>impl_AllowedSteps_c1_ok a0 e q h) _ (hx6)) (zfree_v _) rfl) ?_
 refine AO.nil (AW.cond (b:=x5) rfl (fun hc=>?_) (fun hc=>?_))
 replace hH:=condT hc hH
 obtain ⟨u7,hx8,hH⟩:=bindE hH
 refine AW.region (AO.pu T ?_)
 refine AO.step rfl (mk_map_ok T rfl 2 rfl rfl rfl rfl rfl (f:=encInt) (l:=([2]:List Int)) rfl rfl (fun _=>rfl) rfl rfl rfl rfl rfl) ?_
 refine AO.step rfl (app_wv_map T rfl 3 rfl rfl rfl rfl rfl (by decide) rfl rfl rfl (fun _=>rfl) (needT (hx8)) rfl rfl) ?_
 refine AO.pu T ?_
 refine AO.nil ?_
 iterate 2 refine AW.seq ?_
 obtain ⟨x9,hx10,hH⟩:=bindE hH
 refine AW.region (AO.pu T (d:=.g [e.segments,e.size,e.key,.s (List.map encEntrant e.entrants),.s (List.map encInt e.gone),e.segment,.s (List.map encInt e.order),.s (List.map encResult e.results)]) ?_)
 refine AO.step rfl (call_ok rfl 4 rfl rfl rfl (impl_BeginSegment_ok fuel _ _ (hx10)) rfl rfl rfl) ?_
 refine AO.pu T ?_
 refine AO.pu T (d:=.g [x9.1.segments,x9.1.size,x9.1.key,.R 4,.R 5,x9.1.segment,.R 6,.R 7]) ?_
 refine AO.pu T ?_
 refine AO.step rfl (alloc_ok T rfl 8 rfl rfl rfl rfl rfl) ?_
 refine AO.se T [x9.1.segments,x9.1.size,x9.1.key,.R 4,.R 5,x9.1.segment,.R 6,.R 7] ?_
 refine AO.pu T ?_
 refine AO.nil (AW.le (Le.ct 0 0 (σ':=(⟨[(1,.p 1 0),(4,.R 3),(6,.v (.bool x9.2))],[(1,.box [e.segments,e.size,e.key,.s (List.map encEntrant e.entrants),.s (List.map encInt e.gone),e.segment,.s (List.map encInt e.order),.s (List.map encResult e.results)]),(3,.row 1 (List.map encInt ([2]:List Int)))],39,[]⟩:St))) ?_)
 refine AW.seq (AW.region (AO.pu T ?_))
 refine AO.nil (AW.cond (b:=x9.2) rfl (fun hc=>?_) (fun hc=>?_))
 replace hH:=condT hc hH
 obtain ⟨u11,hx12,hH⟩:=bindE hH
 refine AW.region (AO.pu T ?_)
 refine AO.step rfl (mk_map_ok T rfl 9 rfl rfl rfl rfl rfl (f:=encInt) (l:=([3]:List Int)) rfl rfl (fun _=>rfl) rfl rfl rfl rfl rfl) ?_
 refine AO.step rfl (app_rv_map T rfl 10 rfl rfl rfl rfl rfl (by decide) rfl rfl rfl rfl (fun _=>rfl) (needT (hx12)) rfl rfl) ?_
 refine AO.pu T ?_
 refine AO.nil ?_
 iterate 2 refine AW.seq ?_
 refine AW.region ?_
 iterate 2 refine AO.pu T ?_
 refine AO.val rfl rfl (len_map_ok T rfl rfl rfl) ?_
 refine AO.pu T ?_
 refine AO.nil (AW.cond (b:=decide ((e.order.length:Int) > 0)) rfl (fun hc=>?_) (fun hc=>?_))
 replace hH:=condT hc hH
 obtain ⟨u13,hx14,hH⟩:=bindE hH
 refine AW.region (AO.pu T ?_)
 refine AO.step rfl (mk_map_ok T rfl 11 rfl rfl rfl rfl rfl (f:=encInt) (l:=([4]:List Int)) rfl rfl (fun _=>rfl) rfl rfl rfl rfl rfl) ?_
 refine AO.step rfl (app_rv_map T rfl 12 rfl rfl rfl rfl rfl (by decide) rfl rfl rfl rfl (fun _=>rfl) (needT (hx14)) rfl rfl) ?_
 refine AO.pu T ?_
 refine AO.nil (AW.seq (AW.region ?_))
 iterate 3 refine AO.pu T ?_
 refine AO.nil (AW.ret ?_)
 have hR:=someE hH;subst hR
 exact retQ.i [12] rfl (.t (expLG_cons (.c (.rowR rfl)) (expLG_cons (.c .v) (expLG_nil))))
 replace hH:=condF hc hH
 refine AW.skip (AW.seq (AW.region ?_))
 iterate 3 refine AO.pu T ?_
 refine AO.nil (AW.ret ?_)
 have hR:=someE hH;subst hR
 exact retQ.i [10] rfl (.t (expLG_cons (.c (.rowR rfl)) (expLG_cons (.c .v) (expLG_nil))))
 replace hH:=condF hc hH
 refine AW.skip ?_
 iterate 2 refine AW.seq ?_
 refine AW.region ?_
 iterate 2 refine AO.pu T ?_
 refine AO.val rfl rfl (len_map_ok T rfl rfl rfl) ?_
 refine AO.pu T ?_
 refine AO.nil (AW.cond (b:=decide ((e.order.length:Int) > 0)) rfl (fun hc=>?_) (fun hc=>?_))
 replace hH:=condT hc hH
 obtain ⟨u15,hx16,hH⟩:=bindE hH
 refine AW.region (AO.pu T ?_)
 refine AO.step rfl (mk_map_ok T rfl 13 rfl rfl rfl rfl rfl (f:=encInt) (l:=([4]:List Int)) rfl rfl (fun _=>rfl) rfl rfl rfl rfl rfl) ?_
 refine AO.step rfl (app_rv_map T rfl 14 rfl rfl rfl rfl rfl (by decide) rfl rfl rfl rfl (fun _=>rfl) (needT (hx16)) rfl rfl) ?_
 refine AO.pu T ?_
 refine AO.nil (AW.seq (AW.region ?_))
 iterate 3 refine AO.pu T ?_
 refine AO.nil (AW.ret ?_)
 have hR:=someE hH;subst hR
 exact retQ.i [14] rfl (.t (expLG_cons (.c (.rowR rfl)) (expLG_cons (.c .v) (expLG_nil))))
 replace hH:=condF hc hH
 refine AW.skip (AW.seq (AW.region ?_))
 iterate 3 refine AO.pu T ?_
 refine AO.nil (AW.ret ?_)
 have hR:=someE hH;subst hR
 exact retQ.i [3] rfl (.t (expLG_cons (.c (.rowR rfl)) (expLG_cons (.c .v) (expLG_nil))))
 replace hH:=condF hc hH
 refine AW.skip ?_
 iterate 2 refine AW.seq ?_
 obtain ⟨x17,hx18,hH⟩:=bindE hH
 refine AW.region (AO.pu T (d:=.g [e.segments,e.size,e.key,.s (List.map encEntrant e.entrants),.s (List.map encInt e.gone),e.segment,.s (List.map encInt e.order),.s (List.map encResult e.results)]) ?_)
 refine AO.step rfl (call_ok rfl 15 rfl rfl rfl (impl_BeginSegment_ok fuel _ _ (hx18)) rfl rfl rfl) ?_
 refine AO.pu T ?_
 refine AO.pu T (d:=.g [x17.1.segments,x17.1.size,x17.1.key,.R 15,.R 16,x17.1.segment,.R 17,.R 18]) ?_
 refine AO.pu T ?_
 refine AO.step rfl (alloc_ok T rfl 19 rfl rfl rfl rfl rfl) ?_
 refine AO.se T [x17.1.segments,x17.1.size,x17.1.key,.R 15,.R 16,x17.1.segment,.R 17,.R 18] ?_
 refine AO.pu T ?_
 refine AO.nil (AW.seq (AW.region ?_))
 refine AO.pu T ?_
 refine AO.nil (AW.le (Le.ct 0 0 (σ':=(⟨[(1,.p 1 0),(4,.w 1 []),(27,.v (.bool x17.2))],[(1,.box [e.segments,e.size,e.key,.s (List.map encEntrant e.entrants),.s (List.map encInt e.gone),e.segment,.s (List.map encInt e.order),.s (List.map encResult e.results)])],39,[]⟩:St))) ?_)
 refine AW.cond (b:=x17.2) rfl (fun hc=>?_) (fun hc=>?_)
 replace hH:=condT hc hH
 obtain ⟨u19,hx20,hH⟩:=bindE hH
 refine AW.region (AO.pu T ?_)
 refine AO.step rfl (mk_map_ok T rfl 20 rfl rfl rfl rfl rfl (f:=encInt) (l:=([3]:List Int)) rfl rfl (fun _=>rfl) rfl rfl rfl rfl rfl) ?_
 refine AO.step rfl (app_wv_map T rfl 21 rfl rfl rfl rfl rfl (by decide) rfl rfl rfl (fun _=>rfl) (needT (hx20)) rfl rfl) ?_
 refine AO.pu T ?_
 refine AO.nil ?_
 iterate 2 refine AW.seq ?_
 refine AW.region ?_
 iterate 2 refine AO.pu T ?_
 refine AO.val rfl rfl (len_map_ok T rfl rfl rfl) ?_
 refine AO.pu T ?_
 refine AO.nil (AW.cond (b:=decide ((e.order.length:Int) > 0)) rfl (fun hc=>?_) (fun hc=>?_))
 replace hH:=condT hc hH
 obtain ⟨u21,hx22,hH⟩:=bindE hH
 refine AW.region (AO.pu T ?_)
 refine AO.step rfl (mk_map_ok T rfl 22 rfl rfl rfl rfl rfl (f:=encInt) (l:=([4]:List Int)) rfl rfl (fun _=>rfl) rfl rfl rfl rfl rfl) ?_
 refine AO.step rfl (app_rv_map T rfl 23 rfl rfl rfl rfl rfl (by decide) rfl rfl rfl rfl (fun _=>rfl) (needT (hx22)) rfl rfl) ?_
 refine AO.pu T ?_
 refine AO.nil (AW.seq (AW.region ?_))
 iterate 3 refine AO.pu T ?_
 refine AO.nil (AW.ret ?_)
 have hR:=someE hH;subst hR
 exact retQ.i [23] rfl (.t (expLG_cons (.c (.rowR rfl)) (expLG_cons (.c .v) (expLG_nil))))
 replace hH:=condF hc hH
 refine AW.skip (AW.seq (AW.region ?_))
 iterate 3 refine AO.pu T ?_
 refine AO.nil (AW.ret ?_)
 have hR:=someE hH;subst hR
 exact retQ.i [21] rfl (.t (expLG_cons (.c (.rowR rfl)) (expLG_cons (.c .v) (expLG_nil))))
 replace hH:=condF hc hH
 refine AW.skip ?_
 iterate 2 refine AW.seq ?_
 refine AW.region ?_
 iterate 2 refine AO.pu T ?_
 refine AO.val rfl rfl (len_map_ok T rfl rfl rfl) ?_
 refine AO.pu T ?_
 refine AO.nil (AW.cond (b:=decide ((e.order.length:Int) > 0)) rfl (fun hc=>?_) (fun hc=>?_))
 replace hH:=condT hc hH
 obtain ⟨u23,hx24,hH⟩:=bindE hH
 refine AW.region (AO.pu T ?_)
 refine AO.step rfl (mk_map_ok T rfl 24 rfl rfl rfl rfl rfl (f:=encInt) (l:=([4]:List Int)) rfl rfl (fun _=>rfl) rfl rfl rfl rfl rfl) ?_
 refine AO.step rfl (app_wv_map T rfl 25 rfl rfl rfl rfl rfl (by decide) rfl rfl rfl (fun _=>rfl) (needT (hx24)) rfl rfl) ?_
 refine AO.pu T ?_
 refine AO.nil (AW.seq (AW.region ?_))
 iterate 3 refine AO.pu T ?_
 refine AO.nil (AW.ret ?_)
 have hR:=someE hH;subst hR
 exact retQ.i [25] rfl (.t (expLG_cons (.c (.rowR rfl)) (expLG_cons (.c .v) (expLG_nil))))
 replace hH:=condF hc hH
 refine AW.skip (AW.seq (AW.region ?_))
 iterate 3 refine AO.pu T ?_
 refine AO.nil (AW.ret ?_)
 have hR:=someE hH;subst hR
 exact retQ.i [] rfl (.t (expLG_cons (.c .nil) (expLG_cons (.c .v) (expLG_nil))))

def spec_l1Rising_l1 (l:List Int) (lo:Int) (hi:Int):List Int→Nat→Option Bool
  | [],k1 =>
    some true
  | y2::ys3,k1 =>
    (spec_l1In_p y2 lo hi).bind fun x16 =>
    (opt ((!(!x16)) && decide ((k1:Int) > 0)) default (getI l (w64 ((k1:Int) - 1)))).bind fun x18 =>
    cond ((!x16) || (decide ((k1:Int) > 0) && decide (x18 ≥ y2)))
      (some false)
      (spec_l1Rising_l1 l lo hi ys3 (k1+1))
def spec_l1Rising_p (l:List Int) (lo:Int) (hi:Int):Option Bool :=
  spec_l1Rising_l1 l lo hi l 0
theorem spec_l1Rising_ok (l:List Int) (lo:Int) (hi:Int) (r:Bool) (hH:spec_l1Rising_p l lo hi=some r):SpecR Tryz.prog 121 [.s (List.map encInt l),lo,hi] (.v (.bool r)):=by
 refine fn_ok T Tryz.func121 rfl (by decide) rfl ?_
 refine AW.seq (AW.region (AO.pu T ?_))
 refine AO.nil ?_
 iterate 2 refine AW.seq ?_
 refine AW.region (AO.pu T ?_)
 refine AO.val rfl rfl (len_map_ok T rfl rfl rfl) ?_
 refine AO.pu T ?_
 refine AO.nil (AW.block ?_)
 refine AW.loopS (fun s:Nat=>(⟨[(0,.s (List.map encInt l)),(1,lo),(2,hi),(9,.s (List.map encInt l)),(10,(l.length:Int)),(11,(s:Int))],[],35,[]⟩:St)) (fun s=>s ≤ l.length∧spec_l1Rising_l1 l lo hi (l.drop s) s=some r) (fun s=>l.length - s) 0 ⟨Nat.zero_le _,hH⟩ ?_ ?_
 exact Le.ct 0 0
 rintro k1 ⟨hk,hH⟩
 replace hH:spec_l1Rising_l1 l lo hi (l.drop k1) k1=some r:=hH
 try dsimp only
 refine AW.boundM (t:=0) (l:=l) rfl (fun hb5=>?_)
 rcases hd4:l.drop k1 with _ | ⟨y2,ys3⟩
 rw [hd4,spec_l1Rising_l1] at hH
 have hlt6:=drop_ge hd4
 refine AW.seq (AW.region (AO.pu T ?_))
 refine AO.nil (AW.seq (AW.condF' (b:=decide ((k1:Int) < (l.length:Int))) rfl (rngF hlt6) ?_))
 refine AW.exit (AW.seq (AW.region ?_))
 refine AO.pu T ?_
 refine AO.nil (AW.ret ?_)
 have hR:=someE hH;subst hR
 exact retQ.i [] rfl (.c (.c .v))
 rw [hd4,spec_l1Rising_l1] at hH
 have hlt6:=drop_lt hd4
 refine AW.seq (AW.region (AO.pu T ?_))
 refine AO.nil (AW.seq (AW.condT' (b:=decide ((k1:Int) < (l.length:Int))) rfl (rngT hlt6) ?_))
 refine AW.skip (AW.seq ?_)
 refine AW.block (AW.seq (AW.region ?_))
 refine AO.pu T ?_
 refine AO.val rfl rfl (ix_map_ok T rfl rfl rfl rfl rfl (getI_drop hd4) rfl) ?_
 iterate 3 refine AO.pu T ?_
 refine AO.nil (AW.seq ?_)
 obtain ⟨x16,hx17,hH⟩:=bindE hH
 obtain ⟨x18,hx19,hH⟩:=bindE hH
 refine AW.region ?_
 iterate 3 refine AO.pu T ?_
 refine AO.val rfl rfl (callV_ok rfl rfl rfl rfl (spec_l1In_ok _ _ _ _ (hx17)) rfl) ?_
 iterate 2 refine AO.pu T ?_
 refine AO.pureG T [] rfl trivial rfl rfl ?_
 refine AO.pureG T [22] rfl ⟨fun h=>h,trivial⟩ rfl rfl ?_
 refine AO.pureG T [23] rfl ⟨fun h=>h,trivial⟩ rfl rfl ?_
 iterate 2 refine AO.pureG T [] rfl trivial rfl rfl ?_
 refine AO.guard [26] rfl ⟨fun h=>h,trivial⟩ (fun hg=>arw_ok rfl rfl rfl rfl) rfl ?_
 refine AO.guard [25,27] rfl ⟨fun h=>h,fun h=>h,trivial⟩ (fun hg=>ix_map_ok T rfl rfl rfl rfl rfl (optT hx19 hg) rfl) rfl ?_
 refine AO.pureG T [28] rfl ⟨fun h=>h,trivial⟩ rfl rfl ?_
 refine AO.pureG T [] rfl trivial rfl rfl ?_
 refine AO.pureG T [29,30] rfl ⟨fun h=>h,fun h=>h,trivial⟩ rfl rfl ?_
 refine AO.guard [24] rfl ⟨fun h=>h,trivial⟩ (fun hg=>pick_and rfl rfl rfl (by rw [hg];exact Bool.true_and _)) rfl ?_
 refine AO.val rfl rfl (pick_or rfl rfl rfl rfl) ?_
 refine AO.nil (AW.le (Le.ct 0 0 (σ':=(⟨[(0,.s (List.map encInt l)),(1,lo),(2,hi),(9,.s (List.map encInt l)),(10,(l.length:Int)),(11,(k1:Int)),(33,.v (.bool ((!x16) || (decide ((k1:Int) > 0) && decide (x18 ≥ y2)))))],[],35,[]⟩:St))) ?_)
 refine AW.cond (b:=((!x16) || (decide ((k1:Int) > 0) && decide (x18 ≥ y2)))) rfl (fun hc=>?_) (fun hc=>?_)
 replace hH:=condT hc hH
 refine AW.seq (AW.region (AO.pu T ?_))
 refine AO.nil (AW.ret ?_)
 have hR:=someE hH;subst hR
 exact retQ.i [] rfl (.c (.c .v))
 replace hH:=condF hc hH
 refine AW.skip (AW.region ?_)
 refine AO.val rfl rfl (ar_ok rfl rfl rfl rfl (inI_succ hlt6 hb5)) ?_
 refine AO.pu T ?_
 refine AO.nil ?_
 refine ⟨k1+1,⟨Nat.succ_le_of_lt hlt6,(by rw [drop_succ_of hd4];exact hH)⟩,(by have:=hlt6;dsimp only;omega),?_⟩
 exact Le.ct 0 0

def spec_rkResult_l1 (rA:Result):List Int→Nat→Bool→Option Bool
  | [],k1,v12 =>
    (spec_l1In_p rA.skater 1 999).bind fun x14 =>
    (opt x14 default (spec_l1In_p (rA.scores.length:Int) 1 3)).bind fun x16 =>
    some (x14 && x16)
  | y2::ys3,k1,v12 =>
    (spec_l1In_p y2 (-1) 100000).bind fun x18 =>
    cond ((!x18) || (v12 && decide (y2 ≥ 0)))
      (some false)
      (spec_rkResult_l1 rA ys3 (k1+1) (decide (y2 < 0)))
def spec_rkResult_p (rA:Result):Option Bool :=
  spec_rkResult_l1 rA rA.scores 0 false
theorem spec_rkResult_ok (rA:Result) (r:Bool) (hH:spec_rkResult_p rA=some r):SpecR Tryz.prog 117 [.g (encResult rA)] (.v (.bool r)):=by
 refine fn_ok T Tryz.func117 rfl (by decide) rfl ?_
 refine AW.seq (AW.region (AO.step rfl (box_ok T rfl 1 rfl rfl rfl rfl) ?_))
 refine AO.pu T ?_
 refine AO.nil (AW.seq (AW.region ?_))
 refine AO.pu T ?_
 refine AO.nil ?_
 iterate 2 refine AW.seq ?_
 refine AW.region ?_
 iterate 2 refine AO.pu T ?_
 refine AO.val rfl rfl (len_map_ok T rfl rfl rfl) ?_
 refine AO.pu T ?_
 refine AO.nil (AW.block ?_)
 refine AW.loopS (fun s:Nat × Bool=>(⟨[(1,.p 1 0),(3,.v (.bool s.2)),(7,.s (List.map encInt rA.scores)),(8,(rA.scores.length:Int)),(9,(s.1:Int))],[(1,.box [rA.skater,.s (List.map encInt rA.scores)])],35,[]⟩:St)) (fun s=>s.1 ≤ rA.scores.length∧spec_rkResult_l1 rA (rA.scores.drop s.1) s.1 s.2=some r) (fun s=>rA.scores.length - s.1) (0,false) ⟨Nat.zero_le _,hH⟩ ?_ ?_
 exact Le.ct 0 0
 rintro ⟨k1,v12⟩ ⟨hk,hH⟩
 replace hH:spec_rkResult_l1 rA (rA.scores.drop k1) k1 v12=some r:=hH
 try dsimp only
 refine AW.boundM (t:=7) (l:=rA.scores) rfl (fun hb5=>?_)
 rcases hd4:rA.scores.drop k1 with _ | ⟨y2,ys3⟩
 rw [hd4,spec_rkResult_l1] at hH
 have hlt6:=drop_ge hd4
 refine AW.seq (AW.region (AO.pu T ?_))
 refine AO.nil (AW.seq (AW.condF' (b:=decide ((k1:Int) < (rA.scores.length:Int))) rfl (rngF hlt6) ?_))
 refine AW.exit (AW.seq ?_)
 obtain ⟨x14,hx15,hH⟩:=bindE hH
 obtain ⟨x16,hx17,hH⟩:=bindE hH
 refine AW.region ?_
 iterate 2 refine AO.pu T ?_
 refine AO.val rfl rfl (callV_ok rfl rfl rfl rfl (spec_l1In_ok _ _ _ _ (hx15)) rfl) ?_
 refine AO.pu T ?_
 refine AO.pureG T [] rfl trivial rfl rfl ?_
 refine AO.pureG T [30] rfl ⟨fun h=>h,trivial⟩ rfl rfl ?_
 refine AO.guard [31] rfl ⟨fun h=>h,trivial⟩ (fun hg=>len_map_ok T rfl rfl rfl) rfl ?_
 refine AO.guard [32] rfl ⟨fun h=>h,trivial⟩ (fun hg=>callV_ok rfl rfl rfl rfl (spec_l1In_ok _ _ _ _ (optT hx17 hg)) rfl) rfl ?_
 refine AO.val rfl rfl (pick_and rfl rfl rfl rfl) ?_
 refine AO.pu T ?_
 refine AO.nil (AW.ret ?_)
 have hR:=someE hH;subst hR
 exact retQ.i [] rfl (.c (.c .v))
 rw [hd4,spec_rkResult_l1] at hH
 have hlt6:=drop_lt hd4
 refine AW.seq (AW.region (AO.pu T ?_))
 refine AO.nil (AW.seq (AW.condT' (b:=decide ((k1:Int) < (rA.scores.length:Int))) rfl (rngT hlt6) ?_))
 refine AW.skip (AW.seq ?_)
 refine AW.block (AW.seq (AW.region ?_))
 refine AO.val rfl rfl (ix_map_ok T rfl rfl rfl rfl rfl (getI_drop hd4) rfl) ?_
 iterate 2 refine AO.pu T ?_
 refine AO.nil ?_
 iterate 2 refine AW.seq ?_
 obtain ⟨x18,hx19,hH⟩:=bindE hH
 refine AW.region (AO.pu T ?_)
 refine AO.val rfl rfl (callV_ok rfl rfl rfl rfl (spec_l1In_ok _ _ _ _ (hx19)) rfl) ?_
 iterate 2 refine AO.pu T ?_
 refine AO.pureG T [] rfl trivial rfl rfl ?_
 refine AO.pureG T [17] rfl ⟨fun h=>h,trivial⟩ rfl rfl ?_
 refine AO.pureG T [] rfl trivial rfl rfl ?_
 refine AO.pureG T [19] rfl ⟨fun h=>h,trivial⟩ rfl rfl ?_
 refine AO.guard [18] rfl ⟨fun h=>h,trivial⟩ (fun hg=>pick_and rfl rfl rfl (by rw [hg];exact Bool.true_and _)) rfl ?_
 refine AO.val rfl rfl (pick_or rfl rfl rfl rfl) ?_
 refine AO.nil (AW.cond (b:=((!x18) || (v12 && decide (y2 ≥ 0)))) rfl (fun hc=>?_) (fun hc=>?_))
 replace hH:=condT hc hH
 refine AW.seq (AW.region (AO.pu T ?_))
 refine AO.nil (AW.ret ?_)
 have hR:=someE hH;subst hR
 exact retQ.i [] rfl (.c (.c .v))
 replace hH:=condF hc hH
 refine AW.skip (AW.region ?_)
 iterate 3 refine AO.pu T ?_
 refine AO.nil (AW.region ?_)
 refine AO.val rfl rfl (ar_ok rfl rfl rfl rfl (inI_succ hlt6 hb5)) ?_
 refine AO.pu T ?_
 refine AO.nil ?_
 refine ⟨(k1+1,decide (y2 < 0)),⟨Nat.succ_le_of_lt hlt6,(by rw [drop_succ_of hd4];exact hH)⟩,(by have:=hlt6;dsimp only;omega),?_⟩
 exact Le.ct 0 0

def spec_rkGood_l1 (l:List Result):List Result→Nat→List Int→Option Bool
  | [],k1,v24 =>
    some (decide ((l.length:Int) ≤ 40))
  | y2::ys3,k1,v24 =>
    (spec_rkResult_p y2).bind fun x26 =>
    (opt (!(!x26)) default (spec_l1Has_p v24 y2.skater)).bind fun x28 =>
    (opt (!((!x26) || x28)) default (getI l 0)).bind fun x30 =>
    cond (((!x26) || x28) || ((y2.scores.length:Int) != (x30.scores.length:Int)))
      (some false)
      ((need (fitsB 8 (v24.length+([y2.skater]).length))).bind fun u32 =>
      spec_rkGood_l1 l ys3 (k1+1) (v24++[y2.skater]))
def spec_rkGood_p (l:List Result):Option Bool :=
  spec_rkGood_l1 l l 0 []
theorem spec_rkGood_ok (l:List Result) (r:Bool) (hH:spec_rkGood_p l=some r):SpecR Tryz.prog 78 [.s (List.map encResult l)] (.v (.bool r)):=by
 refine fn_ok T Tryz.func78 rfl (by decide) rfl ?_
 refine AW.seq (AW.region (AO.pu T ?_))
 refine AO.nil (AW.seq (AW.region ?_))
 refine AO.pu T ?_
 refine AO.nil ?_
 iterate 2 refine AW.seq ?_
 refine AW.region (AO.pu T ?_)
 refine AO.val rfl rfl (len_map_ok T rfl rfl rfl) ?_
 refine AO.pu T ?_
 refine AO.nil (AW.block ?_)
 refine AW.loopS (fun s:Nat × (List Int)=>(⟨[(0,.s (List.map encResult l)),(3,.R 6),(6,.s (List.map encResult l)),(7,(l.length:Int)),(8,(s.1:Int))],[(6,.row 1 (List.map encInt s.2))],41,[]⟩:St)) (fun s=>s.1 ≤ l.length∧spec_rkGood_l1 l (l.drop s.1) s.1 s.2=some r) (fun s=>l.length - s.1) (0,[]) ⟨Nat.zero_le _,hH⟩ ?_ ?_
 refine Le.trans (Le.void 3 6 1 rfl rfl) ?_
 exact Le.ct 0 0
 rintro ⟨k1,v24⟩ ⟨hk,hH⟩
 replace hH:spec_rkGood_l1 l (l.drop k1) k1 v24=some r:=hH
 try dsimp only
 refine AW.boundM (t:=0) (l:=l) rfl (fun hb5=>?_)
 rcases hd4:l.drop k1 with _ | ⟨y2,ys3⟩
 rw [hd4,spec_rkGood_l1] at hH
 have hlt6:=drop_ge hd4
 refine AW.seq (AW.region (AO.pu T ?_))
 refine AO.nil (AW.seq (AW.condF' (b:=decide ((k1:Int) < (l.length:Int))) rfl (rngF hlt6) ?_))
 refine AW.exit (AW.seq (AW.region ?_))
 refine AO.pu T ?_
 refine AO.val rfl rfl (len_map_ok T rfl rfl rfl) ?_
 iterate 2 refine AO.pu T ?_
 refine AO.nil (AW.ret ?_)
 have hR:=someE hH;subst hR
 exact retQ.i [] rfl (.c (.c .v))
 rw [hd4,spec_rkGood_l1] at hH
 have hlt6:=drop_lt hd4
 refine AW.seq (AW.region (AO.pu T ?_))
 refine AO.nil (AW.seq (AW.condT' (b:=decide ((k1:Int) < (l.length:Int))) rfl (rngT hlt6) ?_))
 refine AW.skip (AW.seq ?_)
 refine AW.block (AW.seq (AW.region ?_))
 refine AO.val rfl rfl (ix_map_ok T rfl rfl rfl rfl rfl (getI_drop hd4) rfl) ?_
 refine AO.pu T (d:=.g [y2.skater,.s (List.map encInt y2.scores)]) ?_
 refine AO.step rfl (alloc_ok T rfl 7 rfl rfl rfl rfl rfl) ?_
 refine AO.se T [y2.skater,.s (List.map encInt y2.scores)] ?_
 refine AO.nil ?_
 iterate 2 refine AW.seq ?_
 obtain ⟨x26,hx27,hH⟩:=bindE hH
 obtain ⟨x28,hx29,hH⟩:=bindE hH
 obtain ⟨x30,hx31,hH⟩:=bindE hH
 refine AW.drawn 18 8 [] mix (by kernel_rfl) rfl ?_
 refine AD.pure T (d:=.g [y2.skater,.s (List.map encInt y2.scores)]) rfl rfl rfl ?_
 refine AD.val rfl rfl (callV_ok rfl rfl rfl rfl (spec_rkResult_ok _ _ (hx27)) rfl) ?_
 iterate 2 refine AD.pure T rfl rfl rfl ?_
 iterate 2 refine AD.pureG T [] rfl trivial rfl rfl ?_
 refine AD.pureG T [17] rfl ⟨fun h=>h,trivial⟩ rfl rfl ?_
 refine AD.guard [16,18] rfl ⟨fun h=>h,fun h=>h,trivial⟩ (fun hg=>callLV_ok rfl rfl rfl (es:=[.s (List.map encInt v24),y2.skater]) ⟨(.rowR rfl (.map fun y=>.vs rfl)),.free rfl,trivial⟩ (spec_l1Has_ok _ _ _ (optT hx29 hg)) (zfree_v _) rfl) rfl ?_
 refine AD.val rfl rfl (pick_or rfl rfl rfl rfl) ?_
 refine AD.pure T rfl rfl rfl ?_
 refine AD.pureG T [] rfl trivial rfl rfl ?_
 refine AD.pureG T [22] rfl ⟨fun h=>h,trivial⟩ rfl rfl ?_
 refine AD.guard [23] rfl ⟨fun h=>h,trivial⟩ (fun hg=>len_map_ok T rfl rfl rfl) rfl ?_
 refine AD.pureG T [] rfl trivial rfl rfl ?_
 refine AD.guard [25] rfl ⟨fun h=>h,trivial⟩ (fun hg=>ix_map_ok T rfl rfl rfl rfl rfl (optT hx31 hg) rfl) rfl ?_
 refine AD.pureG T [26] rfl ⟨fun h=>h,trivial⟩ rfl rfl ?_
 refine AD.pureG T [27] rfl ⟨fun h=>h,trivial⟩ rfl rfl ?_
 refine AD.guard [28] rfl ⟨fun h=>h,trivial⟩ (fun hg=>len_map_ok T rfl rfl rfl) rfl ?_
 refine AD.nil (AO.pureG T [24,29] rfl ⟨fun h=>h,fun h=>h,trivial⟩ rfl rfl ?_)
 refine AO.val rfl rfl (pick_or rfl rfl rfl rfl) ?_
 refine AO.nil (AW.le (Le.ct 0 0 (σ':=(⟨[(0,.s (List.map encResult l)),(3,.R 6),(5,.p 7 0),(6,.s (List.map encResult l)),(7,(l.length:Int)),(8,(k1:Int)),(31,.v (.bool (((!x26) || x28) || ((y2.scores.length:Int) != (x30.scores.length:Int)))))],[(6,.row 1 (List.map encInt v24)),(7,.box [y2.skater,.s (List.map encInt y2.scores)])],41,[]⟩:St))) ?_)
 refine AW.cond (b:=(((!x26) || x28) || ((y2.scores.length:Int) != (x30.scores.length:Int)))) rfl (fun hc=>?_) (fun hc=>?_)
 replace hH:=condT hc hH
 refine AW.seq (AW.region (AO.pu T ?_))
 refine AO.nil (AW.ret ?_)
 have hR:=someE hH;subst hR
 exact retQ.i [] rfl (.c (.c .v))
 replace hH:=condF hc hH
 refine AW.skip ?_
 obtain ⟨u32,hx33,hH⟩:=bindE hH
 refine AW.region ?_
 iterate 3 refine AO.pu T ?_
 refine AO.step rfl (mk_map_ok T rfl 8 rfl rfl rfl rfl rfl (f:=encInt) (l:=[y2.skater]) rfl rfl (fun _=>rfl) rfl rfl rfl rfl rfl) ?_
 refine AO.step rfl (app_rv_map T rfl 9 rfl rfl rfl rfl rfl (by decide) rfl rfl rfl rfl (fun _=>rfl) (needT (hx33)) rfl rfl) ?_
 refine AO.pu T ?_
 refine AO.nil (AW.region ?_)
 refine AO.val rfl rfl (ar_ok rfl rfl rfl rfl (inI_succ hlt6 hb5)) ?_
 refine AO.pu T ?_
 refine AO.nil ?_
 refine ⟨(k1+1,(v24++[y2.skater])),⟨Nat.succ_le_of_lt hlt6,(by rw [drop_succ_of hd4];exact hH)⟩,(by have:=hlt6;dsimp only;omega),?_⟩
 exact Le.ct 9 6

def spec_evHead_l2 (e:Event) (v32:List Int) (x34:(List Int)):Nat→Int→Option Bool
  | 0,_=>none
  | k38+1,v48 =>
    cond (decide (v48 < (((x34++e.order)).length:Int)))
      ((getI (x34++e.order) v48).bind fun x50 =>
      (spec_l1Has_p v32 x50).bind fun x52 =>
      cond (!x52)
        (some false)
        (spec_evHead_l2 e v32 x34 k38 (w64 (v48+1))))
      (some true)
def spec_evHead_l1 (e:Event) (fuel:Nat):List Entrant→Nat→List Int→Option Bool
  | [],k17,v32 =>
    (spec_l1Own_p e.gone).bind fun x34 =>
    (need (fitsB 8 (x34.length+e.order.length))).bind fun u36 =>
    spec_evHead_l2 e v32 x34 fuel 0
  | y18::ys19,k17,v32 =>
    (getI e.results (k17:Int)).bind fun x54 =>
    cond ((x54.skater != y18.skater) || ((x54.scores.length:Int) != e.segments))
      (some false)
      ((need (fitsB 8 (v32.length+([y18.skater]).length))).bind fun u56 =>
      spec_evHead_l1 e fuel ys19 (k17+1) (v32++[y18.skater]))
def spec_evHead_p (fuel:Nat) (e:Event):Option Bool :=
  (spec_l1In_p e.segments 1 3).bind fun x1 =>
  (opt (!(!x1)) default (spec_soSize_p e.size)).bind fun x3 =>
  (opt (!((!x1) || (!x3))) default (spec_l1In_p e.key 0 1000000000)).bind fun x5 =>
  (opt (!(((!x1) || (!x3)) || (!x5))) default (spec_soEntrants_p e.entrants)).bind fun x7 =>
  (opt (!((((!x1) || (!x3)) || (!x5)) || (!x7))) default (spec_l1Rising_p e.gone 1 999)).bind fun x9 =>
  (opt (!(((((!x1) || (!x3)) || (!x5)) || (!x7)) || (!x9))) default (spec_l1In_p e.segment 0 e.segments)).bind fun x11 =>
  (opt (!((((((!x1) || (!x3)) || (!x5)) || (!x7)) || (!x9)) || (!x11))) default (spec_soOrder_p e.order)).bind fun x13 =>
  (opt (!(((((((!x1) || (!x3)) || (!x5)) || (!x7)) || (!x9)) || (!x11)) || (!x13))) default (spec_rkGood_p e.results)).bind fun x15 =>
  cond (((((((((!x1) || (!x3)) || (!x5)) || (!x7)) || (!x9)) || (!x11)) || (!x13)) || (!x15)) || ((e.results.length:Int) != (e.entrants.length:Int)))
    (some false)
    (spec_evHead_l1 e fuel e.entrants 0 [])
theorem spec_evHead_ok (fuel:Nat) (e:Event) (r:Bool) (hH:spec_evHead_p fuel e=some r):SpecR Tryz.prog 83 [.g (encEvent e)] (.v (.bool r)):=by
 refine fn_ok T Tryz.func83 rfl (by decide) rfl ?_
 refine AW.seq (AW.region (AO.step rfl (box_ok T rfl 1 rfl rfl rfl rfl) ?_))
 refine AO.pu T ?_
 refine AO.nil ?_
 iterate 2 refine AW.seq ?_
 obtain ⟨x1,hx2,hH⟩:=bindE hH
 obtain ⟨x3,hx4,hH⟩:=bindE hH
 obtain ⟨x5,hx6,hH⟩:=bindE hH
 obtain ⟨x7,hx8,hH⟩:=bindE hH
 obtain ⟨x9,hx10,hH⟩:=bindE hH
 obtain ⟨x11,hx12,hH⟩:=bindE hH
 obtain ⟨x13,hx14,hH⟩:=bindE hH
 obtain ⟨x15,hx16,hH⟩:=bindE hH
 refine AW.region ?_
 iterate 2 refine AO.pu T ?_
 refine AO.val rfl rfl (callV_ok rfl rfl rfl rfl (spec_l1In_ok _ _ _ _ (hx2)) rfl) ?_
 iterate 2 refine AO.pu T ?_
 refine AO.pureG T [] rfl trivial rfl rfl ?_
 refine AO.pureG T [13] rfl ⟨fun h=>h,trivial⟩ rfl rfl ?_
 refine AO.guard [14] rfl ⟨fun h=>h,trivial⟩ (fun hg=>callV_ok rfl rfl rfl rfl (spec_soSize_ok _ _ (optT hx4 hg)) rfl) rfl ?_
 refine AO.pureG T [15] rfl ⟨fun h=>h,trivial⟩ rfl rfl ?_
 refine AO.val rfl rfl (pick_or rfl rfl rfl rfl) ?_
 refine AO.pu T ?_
 refine AO.pureG T [] rfl trivial rfl rfl ?_
 refine AO.pureG T [19] rfl ⟨fun h=>h,trivial⟩ rfl rfl ?_
 refine AO.guard [20] rfl ⟨fun h=>h,trivial⟩ (fun hg=>callV_ok rfl rfl rfl rfl (spec_l1In_ok _ _ _ _ (optT hx6 hg)) rfl) rfl ?_
 refine AO.pureG T [21] rfl ⟨fun h=>h,trivial⟩ rfl rfl ?_
 refine AO.val rfl rfl (pick_or rfl rfl rfl rfl) ?_
 refine AO.pu T ?_
 refine AO.pureG T [] rfl trivial rfl rfl ?_
 refine AO.pureG T [25] rfl ⟨fun h=>h,trivial⟩ rfl rfl ?_
 refine AO.guard [26] rfl ⟨fun h=>h,trivial⟩ (fun hg=>callV_ok rfl rfl rfl rfl (spec_soEntrants_ok _ _ (optT hx8 hg)) rfl) rfl ?_
 refine AO.pureG T [27] rfl ⟨fun h=>h,trivial⟩ rfl rfl ?_
 refine AO.val rfl rfl (pick_or rfl rfl rfl rfl) ?_
 refine AO.pu T ?_
 refine AO.pureG T [] rfl trivial rfl rfl ?_
 refine AO.pureG T [31] rfl ⟨fun h=>h,trivial⟩ rfl rfl ?_
 refine AO.guard [32] rfl ⟨fun h=>h,trivial⟩ (fun hg=>callV_ok rfl rfl rfl rfl (spec_l1Rising_ok _ _ _ _ (optT hx10 hg)) rfl) rfl ?_
 refine AO.pureG T [33] rfl ⟨fun h=>h,trivial⟩ rfl rfl ?_
 refine AO.val rfl rfl (pick_or rfl rfl rfl rfl) ?_
 refine AO.pu T ?_
 refine AO.pureG T [] rfl trivial rfl rfl ?_
 refine AO.pureG T [37] rfl ⟨fun h=>h,trivial⟩ rfl rfl ?_
 refine AO.pureG T [] rfl trivial rfl rfl ?_
 refine AO.pureG T [39] rfl ⟨fun h=>h,trivial⟩ rfl rfl ?_
 refine AO.guard [38,40] rfl ⟨fun h=>h,fun h=>h,trivial⟩ (fun hg=>callV_ok rfl rfl rfl rfl (spec_l1In_ok _ _ _ _ (optT hx12 hg)) rfl) rfl ?_
 refine AO.pureG T [41] rfl ⟨fun h=>h,trivial⟩ rfl rfl ?_
 refine AO.val rfl rfl (pick_or rfl rfl rfl rfl) ?_
 refine AO.pu T ?_
 refine AO.pureG T [] rfl trivial rfl rfl ?_
 refine AO.pureG T [45] rfl ⟨fun h=>h,trivial⟩ rfl rfl ?_
 refine AO.guard [46] rfl ⟨fun h=>h,trivial⟩ (fun hg=>callV_ok rfl rfl rfl rfl (spec_soOrder_ok _ _ (optT hx14 hg)) rfl) rfl ?_
 refine AO.pureG T [47] rfl ⟨fun h=>h,trivial⟩ rfl rfl ?_
 refine AO.val rfl rfl (pick_or rfl rfl rfl rfl) ?_
 refine AO.pu T ?_
 refine AO.pureG T [] rfl trivial rfl rfl ?_
 refine AO.pureG T [51] rfl ⟨fun h=>h,trivial⟩ rfl rfl ?_
 refine AO.guard [52] rfl ⟨fun h=>h,trivial⟩ (fun hg=>callV_ok rfl rfl rfl rfl (spec_rkGood_ok _ _ (optT hx16 hg)) rfl) rfl ?_
 refine AO.pureG T [53] rfl ⟨fun h=>h,trivial⟩ rfl rfl ?_
 refine AO.val rfl rfl (pick_or rfl rfl rfl rfl) ?_
 refine AO.pu T ?_
 refine AO.pureG T [] rfl trivial rfl rfl ?_
 refine AO.pureG T [57] rfl ⟨fun h=>h,trivial⟩ rfl rfl ?_
 refine AO.guard [58] rfl ⟨fun h=>h,trivial⟩ (fun hg=>len_map_ok T rfl rfl rfl) rfl ?_
 refine AO.pureG T [] rfl trivial rfl rfl ?_
 refine AO.pureG T [60] rfl ⟨fun h=>h,trivial⟩ rfl rfl ?_
 refine AO.guard [61] rfl ⟨fun h=>h,trivial⟩ (fun hg=>len_map_ok T rfl rfl rfl) rfl ?_
 refine AO.pureG T [59,62] rfl ⟨fun h=>h,fun h=>h,trivial⟩ rfl rfl ?_
 refine AO.val rfl rfl (pick_or rfl rfl rfl rfl) ?_
 refine AO.nil (AW.le (Le.ct 0 0 (σ':=(⟨[(1,.p 1 0),(64,.v (.bool (((((((((!x1) || (!x3)) || (!x5)) || (!x7)) || (!x9)) || (!x11)) || (!x13)) || (!x15)) || ((e.results.length:Int) != (e.entrants.length:Int)))))],[(1,.box [e.segments,e.size,e.key,.s (List.map encEntrant e.entrants),.s (List.map encInt e.gone),e.segment,.s (List.map encInt e.order),.s (List.map encResult e.results)])],116,[]⟩:St))) ?_)
 refine AW.cond (b:=(((((((((!x1) || (!x3)) || (!x5)) || (!x7)) || (!x9)) || (!x11)) || (!x13)) || (!x15)) || ((e.results.length:Int) != (e.entrants.length:Int)))) rfl (fun hc=>?_) (fun hc=>?_)
 replace hH:=condT hc hH
 refine AW.seq (AW.region (AO.pu T ?_))
 refine AO.nil (AW.ret ?_)
 have hR:=someE hH;subst hR
 exact retQ.i [] rfl (.c (.c .v))
 replace hH:=condF hc hH
 refine AW.skip (AW.seq (AW.region ?_))
 refine AO.pu T ?_
 refine AO.nil ?_
 iterate 2 refine AW.seq ?_
 refine AW.region ?_
 iterate 2 refine AO.pu T ?_
 refine AO.val rfl rfl (len_map_ok T rfl rfl rfl) ?_
 refine AO.pu T ?_
 refine AO.nil (AW.block ?_)
 refine AW.loopS (fun s:Nat × (List Int)=>(⟨[(1,.p 1 0),(3,.R 7),(66,.s (List.map encEntrant e.entrants)),(67,(e.entrants.length:Int)),(68,(s.1:Int))],[(1,.box [e.segments,e.size,e.key,.s (List.map encEntrant e.entrants),.s (List.map encInt e.gone),e.segment,.s (List.map encInt e.order),.s (List.map encResult e.results)]),(7,.row 1 (List.map encInt s.2))],116,[]⟩:St)) (fun s=>s.1 ≤ e.entrants.length∧spec_evHead_l1 e fuel (e.entrants.drop s.1) s.1 s.2=some r) (fun s=>e.entrants.length - s.1) (0,[]) ⟨Nat.zero_le _,hH⟩ ?_ ?_
 refine Le.trans (Le.void 3 7 1 rfl rfl) ?_
 exact Le.ct 0 0
 rintro ⟨k17,v32⟩ ⟨hk,hH⟩
 replace hH:spec_evHead_l1 e fuel (e.entrants.drop k17) k17 v32=some r:=hH
 try dsimp only
 refine AW.boundM (t:=66) (l:=e.entrants) rfl (fun hb21=>?_)
 rcases hd20:e.entrants.drop k17 with _ | ⟨y18,ys19⟩
 rw [hd20,spec_evHead_l1] at hH
 have hlt22:=drop_ge hd20
 refine AW.seq (AW.region (AO.pu T ?_))
 refine AO.nil (AW.seq (AW.condF' (b:=decide ((k17:Int) < (e.entrants.length:Int))) rfl (rngF hlt22) ?_))
 refine AW.exit ?_
 iterate 2 refine AW.seq ?_
 obtain ⟨x34,hx35,hH⟩:=bindE hH
 obtain ⟨u36,hx37,hH⟩:=bindE hH
 refine AW.drawn 8 8 [] mix (by kernel_rfl) rfl ?_
 iterate 2 refine AD.pure T rfl rfl rfl ?_
 refine AD.q (FStep.call rfl rfl rfl rfl rfl (spec_l1Own_ok _ _ (hx35)) rfl rfl) (impT_names _ _) (impT_le _ _) rfl ?_
 iterate 2 refine AD.pure T rfl rfl rfl ?_
 refine AD.k rfl rfl (FStep.app_rs T rfl rfl rfl rfl rfl rfl rfl (by decide) (by decide) rfl rfl rfl (fun _=>rfl) (needT (hx37)) rfl) rfl rfl rfl ?_
 refine AD.vald rfl rfl rfl (len_row_ok T rfl rfl rfl rfl) ?_
 refine AD.pure T rfl rfl rfl ?_
 refine AD.nil (AO.nil ?_)
 refine AW.block (AW.loopS (fun s:Nat × Int=>(⟨[(3,.R 7),(105,.R 9),(106,(((x34++e.order)).length:Int)),(107,s.2)],[(7,.row 1 (List.map encInt v32)),(9,.row 1 (List.map encInt (x34++e.order)))],116,[]⟩:St)) (fun s=>spec_evHead_l2 e v32 x34 s.1 s.2=some r) (fun s=>s.1) (fuel,0) hH ?_ ?_)
 exact Le.ct 0 0
 rintro ⟨k38,v48⟩ hH
 replace hH:spec_evHead_l2 e v32 x34 k38 v48=some r:=hH
 try dsimp only
 rcases k38 with _ | k38
 cases (show none=some _ from hH)
 rw [spec_evHead_l2] at hH
 refine AW.seq (AW.region (AO.pu T ?_))
 refine AO.nil (AW.seq (AW.cond (b:=decide (v48 < (((x34++e.order)).length:Int))) rfl (fun hc=>?_) (fun hc=>?_)))
 replace hH:=condT hc hH
 refine AW.skip (AW.seq ?_)
 refine AW.block (AW.seq ?_)
 obtain ⟨x50,hx51,hH⟩:=bindE hH
 refine AW.region (AO.val rfl rfl (ix_row_ok T rfl rfl rfl rfl rfl rfl (hx51)) ?_)
 refine AO.val rfl rfl (load_row_ok T rfl rfl rfl rfl (getI_get (hx51)) rfl rfl rfl) ?_
 refine AO.pu T ?_
 refine AO.nil (AW.seq ?_)
 obtain ⟨x52,hx53,hH⟩:=bindE hH
 refine AW.region ?_
 iterate 2 refine AO.pu T ?_
 refine AO.val rfl rfl (callLV_ok rfl rfl rfl (es:=[.s (List.map encInt v32),x50]) ⟨(.rowR rfl (.map fun y=>.vs rfl)),.free rfl,trivial⟩ (spec_l1Has_ok _ _ _ (hx53)) (zfree_v _) rfl) ?_
 refine AO.pu T ?_
 refine AO.nil (AW.cond (b:=(!x52)) rfl (fun hc=>?_) (fun hc=>?_))
 replace hH:=condT hc hH
 refine AW.seq (AW.region (AO.pu T ?_))
 refine AO.nil (AW.ret ?_)
 have hR:=someE hH;subst hR
 exact retQ.i [] rfl (.c (.c .v))
 replace hH:=condF hc hH
 refine AW.skip (AW.region ?_)
 refine AO.val rfl rfl (arw_ok rfl rfl rfl rfl) ?_
 refine AO.pu T ?_
 refine AO.nil ?_
 refine ⟨(k38,w64 (v48+1)),hH,Nat.lt_succ_self _,?_⟩
 exact Le.ct 0 0
 replace hH:=condF hc hH
 refine AW.exit (AW.seq (AW.region ?_))
 refine AO.pu T ?_
 refine AO.nil (AW.ret ?_)
 have hR:=someE hH;subst hR
 exact retQ.i [] rfl (.c (.c .v))
 rw [hd20,spec_evHead_l1] at hH
 have hlt22:=drop_lt hd20
 refine AW.seq (AW.region (AO.pu T ?_))
 refine AO.nil (AW.seq (AW.condT' (b:=decide ((k17:Int) < (e.entrants.length:Int))) rfl (rngT hlt22) ?_))
 refine AW.skip (AW.seq ?_)
 refine AW.block (AW.seq (AW.region ?_))
 refine AO.pu T ?_
 refine AO.val rfl rfl (ix_map_ok T rfl rfl rfl rfl rfl (getI_drop hd20) rfl) ?_
 refine AO.pu T (d:=.g [y18.skater,y18.rank]) ?_
 refine AO.step rfl (alloc_ok T rfl 10 rfl rfl rfl rfl rfl) ?_
 refine AO.pu T ?_
 refine AO.se T [y18.skater,y18.rank] ?_
 refine AO.nil ?_
 iterate 2 refine AW.seq ?_
 obtain ⟨x54,hx55,hH⟩:=bindE hH
 refine AW.drawn 19 11 [] mix (by kernel_rfl) rfl ?_
 iterate 3 refine AD.pure T rfl rfl rfl ?_
 refine AD.val rfl rfl (ix_map_ok T rfl rfl rfl rfl rfl (hx55) rfl) ?_
 iterate 6 refine AD.pure T rfl rfl rfl ?_
 refine AD.pureG T [] rfl trivial rfl rfl ?_
 refine AD.pureG T [83] rfl ⟨fun h=>h,trivial⟩ rfl rfl ?_
 refine AD.pureG T [] rfl trivial rfl rfl ?_
 refine AD.guard [84,85] rfl ⟨fun h=>h,fun h=>h,trivial⟩ (fun hg=>ix_map_ok T rfl rfl rfl rfl rfl (hx55) rfl) rfl ?_
 refine AD.pureG T [86] rfl ⟨fun h=>h,trivial⟩ rfl rfl ?_
 refine AD.pureG T [87] rfl ⟨fun h=>h,trivial⟩ rfl rfl ?_
 refine AD.guard [88] rfl ⟨fun h=>h,trivial⟩ (fun hg=>len_map_ok T rfl rfl rfl) rfl ?_
 refine AD.pureG T [] rfl trivial rfl rfl ?_
 refine AD.pureG T [90] rfl ⟨fun h=>h,trivial⟩ rfl rfl ?_
 refine AD.nil (AO.pureG T [89,91] rfl ⟨fun h=>h,fun h=>h,trivial⟩ rfl rfl ?_)
 refine AO.val rfl rfl (pick_or rfl rfl rfl rfl) ?_
 refine AO.nil (AW.le (Le.ct 0 0 (σ':=(⟨[(1,.p 1 0),(3,.R 7),(5,.p 10 0),(66,.s (List.map encEntrant e.entrants)),(67,(e.entrants.length:Int)),(68,(k17:Int)),(93,.v (.bool ((x54.skater != y18.skater) || ((x54.scores.length:Int) != e.segments))))],[(1,.box [e.segments,e.size,e.key,.s (List.map encEntrant e.entrants),.s (List.map encInt e.gone),e.segment,.s (List.map encInt e.order),.s (List.map encResult e.results)]),(7,.row 1 (List.map encInt v32)),(10,.box [y18.skater,y18.rank])],116,[]⟩:St))) ?_)
 refine AW.cond (b:=((x54.skater != y18.skater) || ((x54.scores.length:Int) != e.segments))) rfl (fun hc=>?_) (fun hc=>?_)
 replace hH:=condT hc hH
 refine AW.seq (AW.region (AO.pu T ?_))
 refine AO.nil (AW.ret ?_)
 have hR:=someE hH;subst hR
 exact retQ.i [] rfl (.c (.c .v))
 replace hH:=condF hc hH
 refine AW.skip ?_
 obtain ⟨u56,hx57,hH⟩:=bindE hH
 refine AW.region ?_
 iterate 3 refine AO.pu T ?_
 refine AO.step rfl (mk_map_ok T rfl 11 rfl rfl rfl rfl rfl (f:=encInt) (l:=[y18.skater]) rfl rfl (fun _=>rfl) rfl rfl rfl rfl rfl) ?_
 refine AO.step rfl (app_rv_map T rfl 12 rfl rfl rfl rfl rfl (by decide) rfl rfl rfl rfl (fun _=>rfl) (needT (hx57)) rfl rfl) ?_
 refine AO.pu T ?_
 refine AO.nil (AW.region ?_)
 refine AO.val rfl rfl (ar_ok rfl rfl rfl rfl (inI_succ hlt22 hb21)) ?_
 refine AO.pu T ?_
 refine AO.nil ?_
 refine ⟨(k17+1,(v32++[y18.skater])),⟨Nat.succ_le_of_lt hlt22,(by rw [drop_succ_of hd20];exact hH)⟩,(by have:=hlt22;dsimp only;omega),?_⟩
 exact Le.ct 12 7

def spec_evResult_p (e:Event) (rA:Result):Option Bool :=
  (spec_evScores_p rA).bind fun x1 =>
  (opt (decide (x1 > e.segment)) default (spec_l1Has_p e.order rA.skater)).bind fun x3 =>
  cond (decide (x1 > e.segment) && (!x3))
    (some false)
    ((spec_l1Has_p e.gone rA.skater).bind fun x5 =>
    cond x5
      ((opt (decide (x1 ≤ (w64 (e.segment+1))) && (!(decide (x1 > e.segment)))) default (spec_l1Has_p e.order rA.skater)).bind fun x7 =>
      some (decide (x1 ≤ (w64 (e.segment+1))) && (decide (x1 > e.segment) || (!x7))))
      ((spec_l1In_p x1 e.segment (w64 (e.segment+1))).bind fun x9 =>
      (opt (x9 && (!((e.order.length:Int) == 0))) default (spec_l1Has_p e.order rA.skater)).bind fun x11 =>
      some (x9 && (((e.order.length:Int) == 0) || x11))))
theorem spec_evResult_ok (e:Event) (rA:Result) (r:Bool) (hH:spec_evResult_p e rA=some r):SpecR Tryz.prog 84 [.g (encEvent e),.g (encResult rA)] (.v (.bool r)):=by
 refine fn_ok T Tryz.func84 rfl (by decide) rfl ?_
 refine AW.seq (AW.region (AO.step rfl (box_ok T rfl 1 rfl rfl rfl rfl) ?_))
 refine AO.step rfl (box_ok T rfl 2 rfl rfl rfl rfl) ?_
 refine AO.pu T ?_
 refine AO.nil (AW.seq ?_)
 obtain ⟨x1,hx2,hH⟩:=bindE hH
 refine AW.region (AO.pu T (d:=.g [rA.skater,.s (List.map encInt rA.scores)]) ?_)
 refine AO.val rfl rfl (callV_ok rfl rfl rfl rfl (spec_evScores_ok _ _ (hx2)) rfl) ?_
 refine AO.pu T ?_
 refine AO.nil ?_
 iterate 2 refine AW.seq ?_
 obtain ⟨x3,hx4,hH⟩:=bindE hH
 refine AW.region ?_
 iterate 5 refine AO.pu T ?_
 refine AO.pureG T [] rfl trivial rfl rfl ?_
 refine AO.pureG T [13] rfl ⟨fun h=>h,trivial⟩ rfl rfl ?_
 refine AO.pureG T [] rfl trivial rfl rfl ?_
 refine AO.pureG T [15] rfl ⟨fun h=>h,trivial⟩ rfl rfl ?_
 refine AO.guard [14,16] rfl ⟨fun h=>h,fun h=>h,trivial⟩ (fun hg=>callV_ok rfl rfl rfl rfl (spec_l1Has_ok _ _ _ (optT hx4 hg)) rfl) rfl ?_
 refine AO.pureG T [17] rfl ⟨fun h=>h,trivial⟩ rfl rfl ?_
 refine AO.val rfl rfl (pick_and rfl rfl rfl rfl) ?_
 refine AO.nil (AW.cond (b:=(decide (x1 > e.segment) && (!x3))) rfl (fun hc=>?_) (fun hc=>?_))
 replace hH:=condT hc hH
 refine AW.seq (AW.region (AO.pu T ?_))
 refine AO.nil (AW.ret ?_)
 have hR:=someE hH;subst hR
 exact retQ.i [] rfl (.c (.c .v))
 replace hH:=condF hc hH
 refine AW.skip ?_
 iterate 2 refine AW.seq ?_
 obtain ⟨x5,hx6,hH⟩:=bindE hH
 refine AW.region ?_
 iterate 4 refine AO.pu T ?_
 refine AO.val rfl rfl (callV_ok rfl rfl rfl rfl (spec_l1Has_ok _ _ _ (hx6)) rfl) ?_
 refine AO.nil (AW.cond (b:=x5) rfl (fun hc=>?_) (fun hc=>?_))
 replace hH:=condT hc hH
 refine AW.seq ?_
 obtain ⟨x7,hx8,hH⟩:=bindE hH
 refine AW.region ?_
 iterate 3 refine AO.pu T ?_
 refine AO.val rfl rfl (arw_ok rfl rfl rfl rfl) ?_
 iterate 2 refine AO.pu T ?_
 iterate 2 refine AO.pureG T [] rfl trivial rfl rfl ?_
 refine AO.pureG T [32] rfl ⟨fun h=>h,trivial⟩ rfl rfl ?_
 refine AO.pureG T [31,33] rfl ⟨fun h=>h,fun h=>h,trivial⟩ rfl rfl ?_
 refine AO.pureG T [34] rfl ⟨fun h=>h,trivial⟩ rfl rfl ?_
 refine AO.pureG T [] rfl trivial rfl rfl ?_
 refine AO.pureG T [36] rfl ⟨fun h=>h,trivial⟩ rfl rfl ?_
 refine AO.pureG T [] rfl trivial rfl rfl ?_
 refine AO.pureG T [38] rfl ⟨fun h=>h,trivial⟩ rfl rfl ?_
 refine AO.guard [37,39] rfl ⟨fun h=>h,fun h=>h,trivial⟩ (fun hg=>callV_ok rfl rfl rfl rfl (spec_l1Has_ok _ _ _ (optT hx8 hg)) rfl) rfl ?_
 refine AO.pureG T [40] rfl ⟨fun h=>h,trivial⟩ rfl rfl ?_
 refine AO.guard [35] rfl ⟨fun h=>h,trivial⟩ (fun hg=>pick_or rfl rfl rfl (by rw [hg];exact Bool.true_and _)) rfl ?_
 refine AO.val rfl rfl (pick_and rfl rfl rfl rfl) ?_
 refine AO.pu T ?_
 refine AO.nil (AW.le (Le.ct 0 0 (σ':=(⟨[(4,.v (.bool (decide (x1 ≤ (w64 (e.segment+1))) && (decide (x1 > e.segment) || (!x7)))))],[],64,[]⟩:St))) ?_)
 refine AW.ret ?_
 have hR:=someE hH;subst hR
 exact retQ.i [] rfl (.c (.c .v))
 replace hH:=condF hc hH
 refine AW.skip (AW.seq ?_)
 obtain ⟨x9,hx10,hH⟩:=bindE hH
 obtain ⟨x11,hx12,hH⟩:=bindE hH
 refine AW.region ?_
 iterate 5 refine AO.pu T ?_
 refine AO.val rfl rfl (arw_ok rfl rfl rfl rfl) ?_
 refine AO.val rfl rfl (callV_ok rfl rfl rfl rfl (spec_l1In_ok _ _ _ _ (hx10)) rfl) ?_
 refine AO.pu T ?_
 refine AO.pureG T [] rfl trivial rfl rfl ?_
 refine AO.pureG T [52] rfl ⟨fun h=>h,trivial⟩ rfl rfl ?_
 refine AO.guard [53] rfl ⟨fun h=>h,trivial⟩ (fun hg=>len_map_ok T rfl rfl rfl) rfl ?_
 refine AO.pureG T [54] rfl ⟨fun h=>h,trivial⟩ rfl rfl ?_
 refine AO.pureG T [55] rfl ⟨fun h=>h,trivial⟩ rfl rfl ?_
 refine AO.pureG T [] rfl trivial rfl rfl ?_
 refine AO.pureG T [57] rfl ⟨fun h=>h,trivial⟩ rfl rfl ?_
 refine AO.pureG T [] rfl trivial rfl rfl ?_
 refine AO.pureG T [59] rfl ⟨fun h=>h,trivial⟩ rfl rfl ?_
 refine AO.guard [58,60] rfl ⟨fun h=>h,fun h=>h,trivial⟩ (fun hg=>callV_ok rfl rfl rfl rfl (spec_l1Has_ok _ _ _ (optT hx12 hg)) rfl) rfl ?_
 refine AO.guard [56] rfl ⟨fun h=>h,trivial⟩ (fun hg=>pick_or rfl rfl rfl (by rw [hg];exact Bool.true_and _)) rfl ?_
 refine AO.val rfl rfl (pick_and rfl rfl rfl rfl) ?_
 refine AO.pu T ?_
 refine AO.nil (AW.le (Le.ct 0 0 (σ':=(⟨[(4,.v (.bool (x9 && (((e.order.length:Int) == 0) || x11))))],[],64,[]⟩:St))) ?_)
 refine AW.ret ?_
 have hR:=someE hH;subst hR
 exact retQ.i [] rfl (.c (.c .v))

def spec_evGood_l2 (e:Event):Nat→Int→Option Bool
  | 0,_=>none
  | k14+1,v32 =>
    cond (decide (v32 < (e.order.length:Int)))
      ((getI e.order v32).bind fun x34 =>
      (spec_evHas_p e x34).bind fun x36 =>
      (opt x36 default (getI e.order (w64 (v32 - 1)))).bind fun x38 =>
      (opt x36 default (spec_evHas_p e x38)).bind fun x40 =>
      cond (x36 && (!x40))
        (some false)
        (spec_evGood_l2 e k14 (w64 (v32+1))))
      ((opt (!((e.order.length:Int) == 0)) default (getI e.order (w64 ((e.order.length:Int) - 1)))).bind fun x42 =>
      (opt (!((e.order.length:Int) == 0)) default (spec_evHas_p e x42)).bind fun x44 =>
      some (((e.order.length:Int) == 0) || (!x44)))
def spec_evGood_l1 (e:Event) (fuel:Nat):List Result→Nat→Option Bool
  | [],k3 =>
    spec_evGood_l2 e fuel 1
  | y4::ys5,k3 =>
    (spec_evResult_p e y4).bind fun x46 =>
    cond (!x46)
      (some false)
      (spec_evGood_l1 e fuel ys5 (k3+1))
def spec_evGood_p (fuel:Nat) (e:Event):Option Bool :=
  (spec_evHead_p fuel e).bind fun x1 =>
  cond ((!x1) || ((e.segment == e.segments) && decide ((e.order.length:Int) > 0)))
    (some false)
    (spec_evGood_l1 e fuel e.results 0)
theorem spec_evGood_ok (fuel:Nat) (e:Event) (r:Bool) (hH:spec_evGood_p fuel e=some r):SpecR Tryz.prog 42 [.g (encEvent e)] (.v (.bool r)):=by
 refine fn_ok T Tryz.func42 rfl (by decide) rfl ?_
 refine AW.seq (AW.region (AO.step rfl (box_ok T rfl 1 rfl rfl rfl rfl) ?_))
 refine AO.pu T ?_
 refine AO.nil ?_
 iterate 2 refine AW.seq ?_
 obtain ⟨x1,hx2,hH⟩:=bindE hH
 refine AW.region (AO.pu T (d:=.g [e.segments,e.size,e.key,.s (List.map encEntrant e.entrants),.s (List.map encInt e.gone),e.segment,.s (List.map encInt e.order),.s (List.map encResult e.results)]) ?_)
 refine AO.val rfl rfl (callV_ok rfl rfl rfl rfl (spec_evHead_ok fuel _ _ (hx2)) rfl) ?_
 iterate 2 refine AO.pu T ?_
 refine AO.pureG T [] rfl trivial rfl rfl ?_
 refine AO.pureG T [10] rfl ⟨fun h=>h,trivial⟩ rfl rfl ?_
 refine AO.pureG T [] rfl trivial rfl rfl ?_
 refine AO.pureG T [12] rfl ⟨fun h=>h,trivial⟩ rfl rfl ?_
 refine AO.pureG T [11,13] rfl ⟨fun h=>h,fun h=>h,trivial⟩ rfl rfl ?_
 refine AO.pureG T [14] rfl ⟨fun h=>h,trivial⟩ rfl rfl ?_
 refine AO.pureG T [] rfl trivial rfl rfl ?_
 refine AO.pureG T [16] rfl ⟨fun h=>h,trivial⟩ rfl rfl ?_
 refine AO.guard [17] rfl ⟨fun h=>h,trivial⟩ (fun hg=>len_map_ok T rfl rfl rfl) rfl ?_
 refine AO.pureG T [18] rfl ⟨fun h=>h,trivial⟩ rfl rfl ?_
 refine AO.guard [15] rfl ⟨fun h=>h,trivial⟩ (fun hg=>pick_and rfl rfl rfl (by rw [hg];exact Bool.true_and _)) rfl ?_
 refine AO.val rfl rfl (pick_or rfl rfl rfl rfl) ?_
 refine AO.nil (AW.cond (b:=((!x1) || ((e.segment == e.segments) && decide ((e.order.length:Int) > 0)))) rfl (fun hc=>?_) (fun hc=>?_))
 replace hH:=condT hc hH
 refine AW.seq (AW.region (AO.pu T ?_))
 refine AO.nil (AW.ret ?_)
 have hR:=someE hH;subst hR
 exact retQ.i [] rfl (.c (.c .v))
 replace hH:=condF hc hH
 refine AW.skip ?_
 iterate 2 refine AW.seq ?_
 refine AW.region ?_
 iterate 2 refine AO.pu T ?_
 refine AO.val rfl rfl (len_map_ok T rfl rfl rfl) ?_
 refine AO.pu T ?_
 refine AO.nil (AW.block ?_)
 refine AW.loopS (fun s:Nat=>(⟨[(1,.p 1 0),(23,.s (List.map encResult e.results)),(24,(e.results.length:Int)),(25,(s:Int))],[(1,.box [e.segments,e.size,e.key,.s (List.map encEntrant e.entrants),.s (List.map encInt e.gone),e.segment,.s (List.map encInt e.order),.s (List.map encResult e.results)])],76,[]⟩:St)) (fun s=>s ≤ e.results.length∧spec_evGood_l1 e fuel (e.results.drop s) s=some r) (fun s=>e.results.length - s) 0 ⟨Nat.zero_le _,hH⟩ ?_ ?_
 exact Le.ct 0 0
 rintro k3 ⟨hk,hH⟩
 replace hH:spec_evGood_l1 e fuel (e.results.drop k3) k3=some r:=hH
 try dsimp only
 refine AW.boundM (t:=23) (l:=e.results) rfl (fun hb7=>?_)
 rcases hd6:e.results.drop k3 with _ | ⟨y4,ys5⟩
 rw [hd6,spec_evGood_l1] at hH
 have hlt8:=drop_ge hd6
 refine AW.seq (AW.region (AO.pu T ?_))
 refine AO.nil (AW.seq (AW.condF' (b:=decide ((k3:Int) < (e.results.length:Int))) rfl (rngF hlt8) ?_))
 refine AW.exit ?_
 iterate 2 refine AW.seq ?_
 refine AW.region (AO.pu T ?_)
 refine AO.nil (AW.block ?_)
 refine AW.loopS (fun s:Nat × Int=>(⟨[(1,.p 1 0),(5,s.2)],[(1,.box [e.segments,e.size,e.key,.s (List.map encEntrant e.entrants),.s (List.map encInt e.gone),e.segment,.s (List.map encInt e.order),.s (List.map encResult e.results)])],76,[]⟩:St)) (fun s=>spec_evGood_l2 e s.1 s.2=some r) (fun s=>s.1) (fuel,1) hH ?_ ?_
 exact Le.ct 0 0
 rintro ⟨k14,v32⟩ hH
 replace hH:spec_evGood_l2 e k14 v32=some r:=hH
 try dsimp only
 rcases k14 with _ | k14
 cases (show none=some _ from hH)
 rw [spec_evGood_l2] at hH
 iterate 2 refine AW.seq ?_
 refine AW.region ?_
 iterate 3 refine AO.pu T ?_
 refine AO.val rfl rfl (len_map_ok T rfl rfl rfl) ?_
 refine AO.pu T ?_
 refine AO.nil (AW.cond (b:=decide (v32 < (e.order.length:Int))) rfl (fun hc=>?_) (fun hc=>?_))
 replace hH:=condT hc hH
 refine AW.skip (AW.seq ?_)
 refine AW.block (AW.seq ?_)
 obtain ⟨x34,hx35,hH⟩:=bindE hH
 obtain ⟨x36,hx37,hH⟩:=bindE hH
 obtain ⟨x38,hx39,hH⟩:=bindE hH
 obtain ⟨x40,hx41,hH⟩:=bindE hH
 refine AW.drawn 15 4 [] mix (by kernel_rfl) rfl ?_
 refine AD.pure T (d:=.g [e.segments,e.size,e.key,.s (List.map encEntrant e.entrants),.s (List.map encInt e.gone),e.segment,.s (List.map encInt e.order),.s (List.map encResult e.results)]) rfl rfl rfl ?_
 iterate 3 refine AD.pure T rfl rfl rfl ?_
 refine AD.val rfl rfl (ix_map_ok T rfl rfl rfl rfl rfl (hx35) rfl) ?_
 refine AD.pure T rfl rfl rfl ?_
 refine AD.val rfl rfl (callV_ok rfl rfl rfl rfl (spec_evHas_ok _ _ _ (hx37)) rfl) ?_
 refine AD.pure T rfl rfl rfl ?_
 refine AD.pureG T (d:=.g [e.segments,e.size,e.key,.s (List.map encEntrant e.entrants),.s (List.map encInt e.gone),e.segment,.s (List.map encInt e.order),.s (List.map encResult e.results)]) [] rfl trivial rfl rfl ?_
 refine AD.pureG T [] rfl trivial rfl rfl ?_
 refine AD.pureG T [50] rfl ⟨fun h=>h,trivial⟩ rfl rfl ?_
 refine AD.pureG T [] rfl trivial rfl rfl ?_
 refine AD.guard [52] rfl ⟨fun h=>h,trivial⟩ (fun hg=>arw_ok rfl rfl rfl rfl) rfl ?_
 refine AD.guard [51,53] rfl ⟨fun h=>h,fun h=>h,trivial⟩ (fun hg=>ix_map_ok T rfl rfl rfl rfl rfl (optT hx39 hg) rfl) rfl ?_
 refine AD.pureG T [54] rfl ⟨fun h=>h,trivial⟩ rfl rfl ?_
 refine AD.nil (AO.guard [49,55] rfl ⟨fun h=>h,fun h=>h,trivial⟩ (fun hg=>callV_ok rfl rfl rfl rfl (spec_evHas_ok _ _ _ (optT hx41 hg)) rfl) rfl ?_)
 refine AO.pureG T [56] rfl ⟨fun h=>h,trivial⟩ rfl rfl ?_
 refine AO.val rfl rfl (pick_and rfl rfl rfl rfl) ?_
 refine AO.nil (AW.cond (b:=(x36 && (!x40))) rfl (fun hc=>?_) (fun hc=>?_))
 replace hH:=condT hc hH
 refine AW.seq (AW.region (AO.pu T ?_))
 refine AO.nil (AW.le (Le.ct 0 0 (σ':=(⟨[(2,.v (.bool false))],[],76,[]⟩:St))) ?_)
 refine AW.ret ?_
 have hR:=someE hH;subst hR
 exact retQ.i [] rfl (.c (.c .v))
 replace hH:=condF hc hH
 refine AW.skip (AW.region ?_)
 refine AO.pu T ?_
 refine AO.val rfl rfl (arw_ok rfl rfl rfl rfl) ?_
 refine AO.pu T ?_
 refine AO.nil ?_
 refine ⟨(k14,w64 (v32+1)),hH,Nat.lt_succ_self _,?_⟩
 exact Le.ct 0 0
 replace hH:=condF hc hH
 refine AW.exit (AW.seq ?_)
 obtain ⟨x42,hx43,hH⟩:=bindE hH
 obtain ⟨x44,hx45,hH⟩:=bindE hH
 refine AW.drawn 14 4 [] mix (by kernel_rfl) rfl ?_
 iterate 2 refine AD.pure T rfl rfl rfl ?_
 refine AD.val rfl rfl (len_map_ok T rfl rfl rfl) ?_
 iterate 2 refine AD.pure T rfl rfl rfl ?_
 refine AD.pureG T (d:=.g [e.segments,e.size,e.key,.s (List.map encEntrant e.entrants),.s (List.map encInt e.gone),e.segment,.s (List.map encInt e.order),.s (List.map encResult e.results)]) [] rfl trivial rfl rfl ?_
 refine AD.pureG T [] rfl trivial rfl rfl ?_
 refine AD.pureG T [65] rfl ⟨fun h=>h,trivial⟩ rfl rfl ?_
 refine AD.pureG T [] rfl trivial rfl rfl ?_
 refine AD.pureG T [67] rfl ⟨fun h=>h,trivial⟩ rfl rfl ?_
 refine AD.guard [68] rfl ⟨fun h=>h,trivial⟩ (fun hg=>len_map_ok T rfl rfl rfl) rfl ?_
 refine AD.guard [69] rfl ⟨fun h=>h,trivial⟩ (fun hg=>arw_ok rfl rfl rfl rfl) rfl ?_
 refine AD.guard [66,70] rfl ⟨fun h=>h,fun h=>h,trivial⟩ (fun hg=>ix_map_ok T rfl rfl rfl rfl rfl (optT hx43 hg) rfl) rfl ?_
 refine AD.pureG T [71] rfl ⟨fun h=>h,trivial⟩ rfl rfl ?_
 refine AD.nil (AO.guard [64,72] rfl ⟨fun h=>h,fun h=>h,trivial⟩ (fun hg=>callV_ok rfl rfl rfl rfl (spec_evHas_ok _ _ _ (optT hx45 hg)) rfl) rfl ?_)
 refine AO.pureG T [73] rfl ⟨fun h=>h,trivial⟩ rfl rfl ?_
 refine AO.val rfl rfl (pick_or rfl rfl rfl rfl) ?_
 refine AO.pu T ?_
 refine AO.nil (AW.ret ?_)
 have hR:=someE hH;subst hR
 exact retQ.i [] rfl (.c (.c .v))
 rw [hd6,spec_evGood_l1] at hH
 have hlt8:=drop_lt hd6
 refine AW.seq (AW.region (AO.pu T ?_))
 refine AO.nil (AW.seq (AW.condT' (b:=decide ((k3:Int) < (e.results.length:Int))) rfl (rngT hlt8) ?_))
 refine AW.skip (AW.seq ?_)
 refine AW.block (AW.seq (AW.region ?_))
 refine AO.val rfl rfl (ix_map_ok T rfl rfl rfl rfl rfl (getI_drop hd6) rfl) ?_
 refine AO.pu T (d:=.g [y4.skater,.s (List.map encInt y4.scores)]) ?_
 refine AO.step rfl (alloc_ok T rfl 4 rfl rfl rfl rfl rfl) ?_
 refine AO.se T [y4.skater,.s (List.map encInt y4.scores)] ?_
 refine AO.nil (AW.seq ?_)
 obtain ⟨x46,hx47,hH⟩:=bindE hH
 refine AW.region (AO.pu T (d:=.g [e.segments,e.size,e.key,.s (List.map encEntrant e.entrants),.s (List.map encInt e.gone),e.segment,.s (List.map encInt e.order),.s (List.map encResult e.results)]) ?_)
 refine AO.pu T (d:=.g [y4.skater,.s (List.map encInt y4.scores)]) ?_
 refine AO.val rfl rfl (callV_ok rfl rfl rfl rfl (spec_evResult_ok _ _ _ (hx47)) rfl) ?_
 refine AO.pu T ?_
 refine AO.nil (AW.cond (b:=(!x46)) rfl (fun hc=>?_) (fun hc=>?_))
 replace hH:=condT hc hH
 refine AW.seq (AW.region (AO.pu T ?_))
 refine AO.nil (AW.ret ?_)
 have hR:=someE hH;subst hR
 exact retQ.i [] rfl (.c (.c .v))
 replace hH:=condF hc hH
 refine AW.skip (AW.region ?_)
 refine AO.val rfl rfl (ar_ok rfl rfl rfl rfl (inI_succ hlt8 hb7)) ?_
 refine AO.pu T ?_
 refine AO.nil ?_
 refine ⟨k3+1,⟨Nat.succ_le_of_lt hlt8,(by rw [drop_succ_of hd6];exact hH)⟩,(by have:=hlt8;dsimp only;omega),?_⟩
 exact Le.ct 0 0

def spec_AllowedSteps_p (fuel:Nat) (e:Event):Option ((List Int) × Bool) :=
  (spec_evGood_p fuel e).bind fun x1 =>
  cond (!x1)
    (some ([],false))
    (cond (e.segment == e.segments)
      (some ([],true))
      ((spec_evThere_p e).bind fun x3 =>
      cond (decide ((x3.length:Int) > 0))
        ((need (fitsB 8 ((([2]:List Int)).length))).bind fun u5 =>
        (spec_evDraw_p fuel e).bind fun x7 =>
        cond x7.2
          ((need (fitsB 8 ((([2]:List Int)).length+(([3]:List Int)).length))).bind fun u9 =>
          cond (decide ((e.order.length:Int) > 0))
            ((need (fitsB 8 (((([2]:List Int)++([3]:List Int))).length+(([4]:List Int)).length))).bind fun u11 =>
            some (((([2]:List Int)++([3]:List Int))++([4]:List Int)),true))
            (some ((([2]:List Int)++([3]:List Int)),true)))
          (cond (decide ((e.order.length:Int) > 0))
            ((need (fitsB 8 ((([2]:List Int)).length+(([4]:List Int)).length))).bind fun u13 =>
            some ((([2]:List Int)++([4]:List Int)),true))
            (some (([2]:List Int),true))))
        ((spec_evDraw_p fuel e).bind fun x15 =>
        cond x15.2
          ((need (fitsB 8 ((([3]:List Int)).length))).bind fun u17 =>
          cond (decide ((e.order.length:Int) > 0))
            ((need (fitsB 8 ((([3]:List Int)).length+(([4]:List Int)).length))).bind fun u19 =>
            some ((([3]:List Int)++([4]:List Int)),true))
            (some (([3]:List Int),true)))
          (cond (decide ((e.order.length:Int) > 0))
            ((need (fitsB 8 ((([4]:List Int)).length))).bind fun u21 =>
            some (([4]:List Int),true))
            (some ([],true))))))
theorem spec_AllowedSteps_ok (fuel:Nat) (e:Event) (r:((List Int) × Bool)) (hH:spec_AllowedSteps_p fuel e=some r):SpecR Tryz.prog 8 [.g (encEvent e)] (.t [.w 1 (r.1.map encInt),.v (.bool r.2)]):=by
 refine fn_ok T Tryz.func8 rfl (by decide) rfl ?_
 refine AW.seq (AW.region (AO.step rfl (box_ok T rfl 1 rfl rfl rfl rfl) ?_))
 iterate 2 refine AO.pu T ?_
 refine AO.nil ?_
 iterate 2 refine AW.seq ?_
 obtain ⟨x1,hx2,hH⟩:=bindE hH
 refine AW.region (AO.pu T (d:=.g [e.segments,e.size,e.key,.s (List.map encEntrant e.entrants),.s (List.map encInt e.gone),e.segment,.s (List.map encInt e.order),.s (List.map encResult e.results)]) ?_)
 refine AO.val rfl rfl (callV_ok rfl rfl rfl rfl (spec_evGood_ok fuel _ _ (hx2)) rfl) ?_
 refine AO.pu T ?_
 refine AO.nil (AW.cond (b:=(!x1)) rfl (fun hc=>?_) (fun hc=>?_))
 replace hH:=condT hc hH
 refine AW.seq (AW.region ?_)
 iterate 2 refine AO.pu T ?_
 refine AO.nil (AW.ret ?_)
 have hR:=someE hH;subst hR
 exact retQ.i [] rfl (.t (expLG_cons (.c .nil) (expLG_cons (.c .v) (expLG_nil))))
 replace hH:=condF hc hH
 refine AW.skip (AW.seq (AW.region ?_))
 refine AO.pu T ?_
 refine AO.nil ?_
 iterate 2 refine AW.seq ?_
 refine AW.region ?_
 iterate 5 refine AO.pu T ?_
 refine AO.nil (AW.cond (b:=(e.segment == e.segments)) rfl (fun hc=>?_) (fun hc=>?_))
 replace hH:=condT hc hH
 refine AW.seq (AW.region ?_)
 iterate 2 refine AO.pu T ?_
 refine AO.nil (AW.ret ?_)
 have hR:=someE hH;subst hR
 exact retQ.i [] rfl (.t (expLG_cons (.c .nil) (expLG_cons (.c .v) (expLG_nil))))
 replace hH:=condF hc hH
 refine AW.skip ?_
 iterate 2 refine AW.seq ?_
 obtain ⟨x3,hx4,hH⟩:=bindE hH
 refine AW.region (AO.pu T (d:=.g [e.segments,e.size,e.key,.s (List.map encEntrant e.entrants),.s (List.map encInt e.gone),e.segment,.s (List.map encInt e.order),.s (List.map encResult e.results)]) ?_)
 refine AO.step rfl (call_ok rfl 2 rfl rfl rfl (spec_evThere_ok _ _ (hx4)) rfl rfl rfl) ?_
 refine AO.val rfl rfl (len_row_ok T rfl rfl rfl rfl) ?_
 refine AO.pu T ?_
 refine AO.nil (AW.cond (b:=decide ((x3.length:Int) > 0)) rfl (fun hc=>?_) (fun hc=>?_))
 replace hH:=condT hc hH
 obtain ⟨u5,hx6,hH⟩:=bindE hH
 refine AW.region (AO.pu T ?_)
 refine AO.step rfl (mk_map_ok T rfl 3 rfl rfl rfl rfl rfl (f:=encInt) (l:=([2]:List Int)) rfl rfl (fun _=>rfl) rfl rfl rfl rfl rfl) ?_
 refine AO.step rfl (app_wv_map T rfl 4 rfl rfl rfl rfl rfl (by decide) rfl rfl rfl (fun _=>rfl) (needT (hx6)) rfl rfl) ?_
 refine AO.pu T ?_
 refine AO.nil ?_
 iterate 2 refine AW.seq ?_
 obtain ⟨x7,hx8,hH⟩:=bindE hH
 refine AW.region (AO.pu T (d:=.g [e.segments,e.size,e.key,.s (List.map encEntrant e.entrants),.s (List.map encInt e.gone),e.segment,.s (List.map encInt e.order),.s (List.map encResult e.results)]) ?_)
 refine AO.val rfl rfl (callV_ok rfl rfl rfl rfl (spec_evDraw_ok fuel _ _ (hx8)) rfl) ?_
 refine AO.pu T ?_
 refine AO.pu T (d:=.g [x7.1.segments,x7.1.size,x7.1.key,.s (List.map encEntrant x7.1.entrants),.s (List.map encInt x7.1.gone),x7.1.segment,.s (List.map encInt x7.1.order),.s (List.map encResult x7.1.results)]) ?_
 refine AO.pu T ?_
 refine AO.step rfl (alloc_ok T rfl 5 rfl rfl rfl rfl rfl) ?_
 refine AO.se T [x7.1.segments,x7.1.size,x7.1.key,.s (List.map encEntrant x7.1.entrants),.s (List.map encInt x7.1.gone),x7.1.segment,.s (List.map encInt x7.1.order),.s (List.map encResult x7.1.results)] ?_
 refine AO.pu T ?_
 refine AO.nil (AW.le (Le.ct 0 0 (σ':=(⟨[(1,.p 1 0),(4,.R 4),(6,.v (.bool x7.2))],[(1,.box [e.segments,e.size,e.key,.s (List.map encEntrant e.entrants),.s (List.map encInt e.gone),e.segment,.s (List.map encInt e.order),.s (List.map encResult e.results)]),(4,.row 1 (List.map encInt ([2]:List Int)))],39,[]⟩:St))) ?_)
 refine AW.seq (AW.region (AO.pu T ?_))
 refine AO.nil (AW.cond (b:=x7.2) rfl (fun hc=>?_) (fun hc=>?_))
 replace hH:=condT hc hH
 obtain ⟨u9,hx10,hH⟩:=bindE hH
 refine AW.region (AO.pu T ?_)
 refine AO.step rfl (mk_map_ok T rfl 6 rfl rfl rfl rfl rfl (f:=encInt) (l:=([3]:List Int)) rfl rfl (fun _=>rfl) rfl rfl rfl rfl rfl) ?_
 refine AO.step rfl (app_rv_map T rfl 7 rfl rfl rfl rfl rfl (by decide) rfl rfl rfl rfl (fun _=>rfl) (needT (hx10)) rfl rfl) ?_
 refine AO.pu T ?_
 refine AO.nil ?_
 iterate 2 refine AW.seq ?_
 refine AW.region ?_
 iterate 2 refine AO.pu T ?_
 refine AO.val rfl rfl (len_map_ok T rfl rfl rfl) ?_
 refine AO.pu T ?_
 refine AO.nil (AW.cond (b:=decide ((e.order.length:Int) > 0)) rfl (fun hc=>?_) (fun hc=>?_))
 replace hH:=condT hc hH
 obtain ⟨u11,hx12,hH⟩:=bindE hH
 refine AW.region (AO.pu T ?_)
 refine AO.step rfl (mk_map_ok T rfl 8 rfl rfl rfl rfl rfl (f:=encInt) (l:=([4]:List Int)) rfl rfl (fun _=>rfl) rfl rfl rfl rfl rfl) ?_
 refine AO.step rfl (app_rv_map T rfl 9 rfl rfl rfl rfl rfl (by decide) rfl rfl rfl rfl (fun _=>rfl) (needT (hx12)) rfl rfl) ?_
 refine AO.pu T ?_
 refine AO.nil (AW.seq (AW.region ?_))
 iterate 3 refine AO.pu T ?_
 refine AO.nil (AW.ret ?_)
 have hR:=someE hH;subst hR
 exact retQ.i [9] rfl (.t (expLG_cons (.c (.rowR rfl)) (expLG_cons (.c .v) (expLG_nil))))
 replace hH:=condF hc hH
 refine AW.skip (AW.seq (AW.region ?_))
 iterate 3 refine AO.pu T ?_
 refine AO.nil (AW.ret ?_)
 have hR:=someE hH;subst hR
 exact retQ.i [7] rfl (.t (expLG_cons (.c (.rowR rfl)) (expLG_cons (.c .v) (expLG_nil))))
 replace hH:=condF hc hH
 refine AW.skip ?_
 iterate 2 refine AW.seq ?_
 refine AW.region ?_
 iterate 2 refine AO.pu T ?_
 refine AO.val rfl rfl (len_map_ok T rfl rfl rfl) ?_
 refine AO.pu T ?_
 refine AO.nil (AW.cond (b:=decide ((e.order.length:Int) > 0)) rfl (fun hc=>?_) (fun hc=>?_))
 replace hH:=condT hc hH
 obtain ⟨u13,hx14,hH⟩:=bindE hH
 refine AW.region (AO.pu T ?_)
 refine AO.step rfl (mk_map_ok T rfl 10 rfl rfl rfl rfl rfl (f:=encInt) (l:=([4]:List Int)) rfl rfl (fun _=>rfl) rfl rfl rfl rfl rfl) ?_
 refine AO.step rfl (app_rv_map T rfl 11 rfl rfl rfl rfl rfl (by decide) rfl rfl rfl rfl (fun _=>rfl) (needT (hx14)) rfl rfl) ?_
 refine AO.pu T ?_
 refine AO.nil (AW.seq (AW.region ?_))
 iterate 3 refine AO.pu T ?_
 refine AO.nil (AW.ret ?_)
 have hR:=someE hH;subst hR
 exact retQ.i [11] rfl (.t (expLG_cons (.c (.rowR rfl)) (expLG_cons (.c .v) (expLG_nil))))
 replace hH:=condF hc hH
 refine AW.skip (AW.seq (AW.region ?_))
 iterate 3 refine AO.pu T ?_
 refine AO.nil (AW.ret ?_)
 have hR:=someE hH;subst hR
 exact retQ.i [4] rfl (.t (expLG_cons (.c (.rowR rfl)) (expLG_cons (.c .v) (expLG_nil))))
 replace hH:=condF hc hH
 refine AW.skip ?_
 iterate 2 refine AW.seq ?_
 obtain ⟨x15,hx16,hH⟩:=bindE hH
 refine AW.region (AO.pu T (d:=.g [e.segments,e.size,e.key,.s (List.map encEntrant e.entrants),.s (List.map encInt e.gone),e.segment,.s (List.map encInt e.order),.s (List.map encResult e.results)]) ?_)
 refine AO.val rfl rfl (callV_ok rfl rfl rfl rfl (spec_evDraw_ok fuel _ _ (hx16)) rfl) ?_
 refine AO.pu T ?_
 refine AO.pu T (d:=.g [x15.1.segments,x15.1.size,x15.1.key,.s (List.map encEntrant x15.1.entrants),.s (List.map encInt x15.1.gone),x15.1.segment,.s (List.map encInt x15.1.order),.s (List.map encResult x15.1.results)]) ?_
 refine AO.pu T ?_
 refine AO.step rfl (alloc_ok T rfl 12 rfl rfl rfl rfl rfl) ?_
 refine AO.se T [x15.1.segments,x15.1.size,x15.1.key,.s (List.map encEntrant x15.1.entrants),.s (List.map encInt x15.1.gone),x15.1.segment,.s (List.map encInt x15.1.order),.s (List.map encResult x15.1.results)] ?_
 refine AO.pu T ?_
 refine AO.nil (AW.le (Le.ct 0 0 (σ':=(⟨[(1,.p 1 0),(4,.w 0 []),(6,.v (.bool x15.2))],[(1,.box [e.segments,e.size,e.key,.s (List.map encEntrant e.entrants),.s (List.map encInt e.gone),e.segment,.s (List.map encInt e.order),.s (List.map encResult e.results)])],39,[]⟩:St))) ?_)
 refine AW.seq (AW.region (AO.pu T ?_))
 refine AO.nil (AW.cond (b:=x15.2) rfl (fun hc=>?_) (fun hc=>?_))
 replace hH:=condT hc hH
 obtain ⟨u17,hx18,hH⟩:=bindE hH
 refine AW.region (AO.pu T ?_)
 refine AO.step rfl (mk_map_ok T rfl 13 rfl rfl rfl rfl rfl (f:=encInt) (l:=([3]:List Int)) rfl rfl (fun _=>rfl) rfl rfl rfl rfl rfl) ?_
 refine AO.step rfl (app_wv_map T rfl 14 rfl rfl rfl rfl rfl (by decide) rfl rfl rfl (fun _=>rfl) (needT (hx18)) rfl rfl) ?_
 refine AO.pu T ?_
 refine AO.nil ?_
 iterate 2 refine AW.seq ?_
 refine AW.region ?_
 iterate 2 refine AO.pu T ?_
 refine AO.val rfl rfl (len_map_ok T rfl rfl rfl) ?_
 refine AO.pu T ?_
 refine AO.nil (AW.cond (b:=decide ((e.order.length:Int) > 0)) rfl (fun hc=>?_) (fun hc=>?_))
 replace hH:=condT hc hH
 obtain ⟨u19,hx20,hH⟩:=bindE hH
 refine AW.region (AO.pu T ?_)
 refine AO.step rfl (mk_map_ok T rfl 15 rfl rfl rfl rfl rfl (f:=encInt) (l:=([4]:List Int)) rfl rfl (fun _=>rfl) rfl rfl rfl rfl rfl) ?_
 refine AO.step rfl (app_rv_map T rfl 16 rfl rfl rfl rfl rfl (by decide) rfl rfl rfl rfl (fun _=>rfl) (needT (hx20)) rfl rfl) ?_
 refine AO.pu T ?_
 refine AO.nil (AW.seq (AW.region ?_))
 iterate 3 refine AO.pu T ?_
 refine AO.nil (AW.ret ?_)
 have hR:=someE hH;subst hR
 exact retQ.i [16] rfl (.t (expLG_cons (.c (.rowR rfl)) (expLG_cons (.c .v) (expLG_nil))))
 replace hH:=condF hc hH
 refine AW.skip (AW.seq (AW.region ?_))
 iterate 3 refine AO.pu T ?_
 refine AO.nil (AW.ret ?_)
 have hR:=someE hH;subst hR
 exact retQ.i [14] rfl (.t (expLG_cons (.c (.rowR rfl)) (expLG_cons (.c .v) (expLG_nil))))
 replace hH:=condF hc hH
 refine AW.skip ?_
 iterate 2 refine AW.seq ?_
 refine AW.region ?_
 iterate 2 refine AO.pu T ?_
 refine AO.val rfl rfl (len_map_ok T rfl rfl rfl) ?_
 refine AO.pu T ?_
 refine AO.nil (AW.cond (b:=decide ((e.order.length:Int) > 0)) rfl (fun hc=>?_) (fun hc=>?_))
 replace hH:=condT hc hH
 obtain ⟨u21,hx22,hH⟩:=bindE hH
 refine AW.region (AO.pu T ?_)
 refine AO.step rfl (mk_map_ok T rfl 17 rfl rfl rfl rfl rfl (f:=encInt) (l:=([4]:List Int)) rfl rfl (fun _=>rfl) rfl rfl rfl rfl rfl) ?_
 refine AO.step rfl (app_wv_map T rfl 18 rfl rfl rfl rfl rfl (by decide) rfl rfl rfl (fun _=>rfl) (needT (hx22)) rfl rfl) ?_
 refine AO.pu T ?_
 refine AO.nil (AW.seq (AW.region ?_))
 iterate 3 refine AO.pu T ?_
 refine AO.nil (AW.ret ?_)
 have hR:=someE hH;subst hR
 exact retQ.i [18] rfl (.t (expLG_cons (.c (.rowR rfl)) (expLG_cons (.c .v) (expLG_nil))))
 replace hH:=condF hc hH
 refine AW.skip (AW.seq (AW.region ?_))
 iterate 3 refine AO.pu T ?_
 refine AO.nil (AW.ret ?_)
 have hR:=someE hH;subst hR
 exact retQ.i [] rfl (.t (expLG_cons (.c .nil) (expLG_cons (.c .v) (expLG_nil))))

def impl_nextSkater_l1 (e:Event):List Int→Nat→Option Int
  | [],k1 =>
    some 0
  | y2::ys3,k1 =>
    (impl_isScored_p e y2).bind fun x12 =>
    cond (!x12)
      (some y2)
      (impl_nextSkater_l1 e ys3 (k1+1))
def impl_nextSkater_p (e:Event):Option Int :=
  impl_nextSkater_l1 e e.order 0
theorem impl_nextSkater_ok (e:Event) (r:Int) (hH:impl_nextSkater_p e=some r):SpecR Tryz.prog 45 [.g (encEvent e)] (.v (.int .i64 r)):=by
 refine fn_ok T Tryz.func45 rfl (by decide) rfl ?_
 refine AW.seq (AW.region (AO.step rfl (box_ok T rfl 1 rfl rfl rfl rfl) ?_))
 refine AO.pu T ?_
 refine AO.nil ?_
 iterate 2 refine AW.seq ?_
 refine AW.region ?_
 iterate 2 refine AO.pu T ?_
 refine AO.val rfl rfl (len_map_ok T rfl rfl rfl) ?_
 refine AO.pu T ?_
 refine AO.nil (AW.block ?_)
 refine AW.loopS (fun s:Nat=>(⟨[(1,.p 1 0),(6,.s (List.map encInt e.order)),(7,(e.order.length:Int)),(8,(s:Int))],[(1,.box [e.segments,e.size,e.key,.s (List.map encEntrant e.entrants),.s (List.map encInt e.gone),e.segment,.s (List.map encInt e.order),.s (List.map encResult e.results)])],18,[]⟩:St)) (fun s=>s ≤ e.order.length∧impl_nextSkater_l1 e (e.order.drop s) s=some r) (fun s=>e.order.length - s) 0 ⟨Nat.zero_le _,hH⟩ ?_ ?_
 exact Le.ct 0 0
 rintro k1 ⟨hk,hH⟩
 replace hH:impl_nextSkater_l1 e (e.order.drop k1) k1=some r:=hH
 try dsimp only
 refine AW.boundM (t:=6) (l:=e.order) rfl (fun hb5=>?_)
 rcases hd4:e.order.drop k1 with _ | ⟨y2,ys3⟩
 rw [hd4,impl_nextSkater_l1] at hH
 have hlt6:=drop_ge hd4
 refine AW.seq (AW.region (AO.pu T ?_))
 refine AO.nil (AW.seq (AW.condF' (b:=decide ((k1:Int) < (e.order.length:Int))) rfl (rngF hlt6) ?_))
 refine AW.exit (AW.seq (AW.region ?_))
 refine AO.pu T ?_
 refine AO.nil (AW.ret ?_)
 have hR:=someE hH;subst hR
 exact retQ.i [] rfl (.c (.c .v))
 rw [hd4,impl_nextSkater_l1] at hH
 have hlt6:=drop_lt hd4
 refine AW.seq (AW.region (AO.pu T ?_))
 refine AO.nil (AW.seq (AW.condT' (b:=decide ((k1:Int) < (e.order.length:Int))) rfl (rngT hlt6) ?_))
 refine AW.skip (AW.seq ?_)
 refine AW.block (AW.seq (AW.region ?_))
 refine AO.val rfl rfl (ix_map_ok T rfl rfl rfl rfl rfl (getI_drop hd4) rfl) ?_
 iterate 2 refine AO.pu T ?_
 refine AO.nil (AW.seq ?_)
 obtain ⟨x12,hx13,hH⟩:=bindE hH
 refine AW.region (AO.pu T (d:=.g [e.segments,e.size,e.key,.s (List.map encEntrant e.entrants),.s (List.map encInt e.gone),e.segment,.s (List.map encInt e.order),.s (List.map encResult e.results)]) ?_)
 refine AO.pu T ?_
 refine AO.val rfl rfl (callV_ok rfl rfl rfl rfl (impl_isScored_ok _ _ _ (hx13)) rfl) ?_
 refine AO.pu T ?_
 refine AO.nil (AW.cond (b:=(!x12)) rfl (fun hc=>?_) (fun hc=>?_))
 replace hH:=condT hc hH
 refine AW.seq (AW.region ?_)
 iterate 2 refine AO.pu T ?_
 refine AO.nil (AW.ret ?_)
 have hR:=someE hH;subst hR
 exact retQ.i [] rfl (.c (.c .v))
 replace hH:=condF hc hH
 refine AW.skip (AW.region ?_)
 refine AO.val rfl rfl (ar_ok rfl rfl rfl rfl (inI_succ hlt6 hb5)) ?_
 refine AO.pu T ?_
 refine AO.nil ?_
 refine ⟨k1+1,⟨Nat.succ_le_of_lt hlt6,(by rw [drop_succ_of hd4];exact hH)⟩,(by have:=hlt6;dsimp only;omega),?_⟩
 exact Le.ct 0 0

def impl_NextSkater_p (e:Event):Option (Int × Bool) :=
  (impl_IsEvent_p e).bind fun x1 =>
  cond ((!x1) || ((e.order.length:Int) == 0))
    (some (0,false))
    ((impl_nextSkater_p e).bind fun x3 =>
    some (x3,true))
theorem impl_NextSkater_ok (e:Event) (r:(Int × Bool)) (hH:impl_NextSkater_p e=some r):SpecR Tryz.prog 9 [.g (encEvent e)] (.t [.v (.int .i64 r.1),.v (.bool r.2)]):=by
 refine fn_ok T Tryz.func9 rfl (by decide) rfl ?_
 refine AW.seq (AW.region (AO.step rfl (box_ok T rfl 1 rfl rfl rfl rfl) ?_))
 iterate 2 refine AO.pu T ?_
 refine AO.nil ?_
 iterate 2 refine AW.seq ?_
 obtain ⟨x1,hx2,hH⟩:=bindE hH
 refine AW.region (AO.pu T (d:=.g [e.segments,e.size,e.key,.s (List.map encEntrant e.entrants),.s (List.map encInt e.gone),e.segment,.s (List.map encInt e.order),.s (List.map encResult e.results)]) ?_)
 refine AO.val rfl rfl (callV_ok rfl rfl rfl rfl (impl_IsEvent_ok _ _ (hx2)) rfl) ?_
 iterate 2 refine AO.pu T ?_
 refine AO.pureG T [] rfl trivial rfl rfl ?_
 refine AO.pureG T [8] rfl ⟨fun h=>h,trivial⟩ rfl rfl ?_
 refine AO.guard [9] rfl ⟨fun h=>h,trivial⟩ (fun hg=>len_map_ok T rfl rfl rfl) rfl ?_
 refine AO.pureG T [10] rfl ⟨fun h=>h,trivial⟩ rfl rfl ?_
 refine AO.val rfl rfl (pick_or rfl rfl rfl rfl) ?_
 refine AO.nil (AW.cond (b:=((!x1) || ((e.order.length:Int) == 0))) rfl (fun hc=>?_) (fun hc=>?_))
 replace hH:=condT hc hH
 refine AW.seq (AW.region ?_)
 iterate 2 refine AO.pu T ?_
 refine AO.nil (AW.ret ?_)
 have hR:=someE hH;subst hR
 exact retQ.i [] rfl (.t (expLG_cons (.c .v) (expLG_cons (.c .v) (expLG_nil))))
 replace hH:=condF hc hH
 refine AW.skip (AW.seq ?_)
 obtain ⟨x3,hx4,hH⟩:=bindE hH
 refine AW.region (AO.pu T (d:=.g [e.segments,e.size,e.key,.s (List.map encEntrant e.entrants),.s (List.map encInt e.gone),e.segment,.s (List.map encInt e.order),.s (List.map encResult e.results)]) ?_)
 refine AO.val rfl rfl (callV_ok rfl rfl rfl rfl (impl_nextSkater_ok _ _ (hx4)) rfl) ?_
 iterate 2 refine AO.pu T ?_
 refine AO.nil (AW.ret ?_)
 have hR:=someE hH;subst hR
 exact retQ.i [] rfl (.t (expLG_cons (.c .v) (expLG_cons (.c .v) (expLG_nil))))

def spec_NextSkater_p (fuel:Nat) (e:Event):Option (Int × Bool) :=
  (spec_evGood_p fuel e).bind fun x1 =>
  cond ((!x1) || ((e.order.length:Int) == 0))
    (some (0,false))
    ((spec_evNext_p e).bind fun x3 =>
    some (x3,true))
theorem spec_NextSkater_ok (fuel:Nat) (e:Event) (r:(Int × Bool)) (hH:spec_NextSkater_p fuel e=some r):SpecR Tryz.prog 10 [.g (encEvent e)] (.t [.v (.int .i64 r.1),.v (.bool r.2)]):=by
 refine fn_ok T Tryz.func10 rfl (by decide) rfl ?_
 refine AW.seq (AW.region (AO.step rfl (box_ok T rfl 1 rfl rfl rfl rfl) ?_))
 iterate 2 refine AO.pu T ?_
 refine AO.nil ?_
 iterate 2 refine AW.seq ?_
 obtain ⟨x1,hx2,hH⟩:=bindE hH
 refine AW.region (AO.pu T (d:=.g [e.segments,e.size,e.key,.s (List.map encEntrant e.entrants),.s (List.map encInt e.gone),e.segment,.s (List.map encInt e.order),.s (List.map encResult e.results)]) ?_)
 refine AO.val rfl rfl (callV_ok rfl rfl rfl rfl (spec_evGood_ok fuel _ _ (hx2)) rfl) ?_
 iterate 2 refine AO.pu T ?_
 refine AO.pureG T [] rfl trivial rfl rfl ?_
 refine AO.pureG T [8] rfl ⟨fun h=>h,trivial⟩ rfl rfl ?_
 refine AO.guard [9] rfl ⟨fun h=>h,trivial⟩ (fun hg=>len_map_ok T rfl rfl rfl) rfl ?_
 refine AO.pureG T [10] rfl ⟨fun h=>h,trivial⟩ rfl rfl ?_
 refine AO.val rfl rfl (pick_or rfl rfl rfl rfl) ?_
 refine AO.nil (AW.cond (b:=((!x1) || ((e.order.length:Int) == 0))) rfl (fun hc=>?_) (fun hc=>?_))
 replace hH:=condT hc hH
 refine AW.seq (AW.region ?_)
 iterate 2 refine AO.pu T ?_
 refine AO.nil (AW.ret ?_)
 have hR:=someE hH;subst hR
 exact retQ.i [] rfl (.t (expLG_cons (.c .v) (expLG_cons (.c .v) (expLG_nil))))
 replace hH:=condF hc hH
 refine AW.skip (AW.seq ?_)
 obtain ⟨x3,hx4,hH⟩:=bindE hH
 refine AW.region (AO.pu T (d:=.g [e.segments,e.size,e.key,.s (List.map encEntrant e.entrants),.s (List.map encInt e.gone),e.segment,.s (List.map encInt e.order),.s (List.map encResult e.results)]) ?_)
 refine AO.val rfl rfl (callV_ok rfl rfl rfl rfl (spec_evNext_ok _ _ (hx4)) rfl) ?_
 iterate 2 refine AO.pu T ?_
 refine AO.nil (AW.ret ?_)
 have hR:=someE hH;subst hR
 exact retQ.i [] rfl (.t (expLG_cons (.c .v) (expLG_cons (.c .v) (expLG_nil))))

def spec_evAsked_p (fuel:Nat) (e:Event) (sA:Step):Option (Event × Bool) :=
  (spec_evGood_p fuel e).bind fun x1 =>
  cond (!x1)
    (some ((Event.mk 0 0 0 [] [] 0 [] []),false))
    ((spec_evStep_p fuel e sA).bind fun x3 =>
    some ((Event.mk x3.1.segments x3.1.size x3.1.key x3.1.entrants x3.1.gone x3.1.segment x3.1.order x3.1.results),x3.2))
theorem spec_evAsked_ok (fuel:Nat) (e:Event) (sA:Step) (r:(Event × Bool)) (hH:spec_evAsked_p fuel e sA=some r):SpecR Tryz.prog 49 [.g (encEvent e),.g (encStep sA)] (.t [.g (encEvent r.1),.v (.bool r.2)]):=by
 refine fn_ok T Tryz.func49 rfl (by decide) rfl ?_
 refine AW.seq (AW.region (AO.step rfl (box_ok T rfl 1 rfl rfl rfl rfl) ?_))
 refine AO.step rfl (box_ok T rfl 2 rfl rfl rfl rfl) ?_
 refine AO.step rfl (alloc_ok T rfl 3 rfl rfl rfl rfl rfl) ?_
 refine AO.pu T ?_
 refine AO.nil ?_
 iterate 2 refine AW.seq ?_
 obtain ⟨x1,hx2,hH⟩:=bindE hH
 refine AW.region (AO.pu T (d:=.g [e.segments,e.size,e.key,.s (List.map encEntrant e.entrants),.s (List.map encInt e.gone),e.segment,.s (List.map encInt e.order),.s (List.map encResult e.results)]) ?_)
 refine AO.val rfl rfl (callV_ok rfl rfl rfl rfl (spec_evGood_ok fuel _ _ (hx2)) rfl) ?_
 refine AO.pu T ?_
 refine AO.nil (AW.cond (b:=(!x1)) rfl (fun hc=>?_) (fun hc=>?_))
 replace hH:=condT hc hH
 refine AW.seq (AW.region (AO.pu T (d:=.g [(0:Int),(0:Int),(0:Int),.w 0 [],.w 0 [],(0:Int),.w 0 [],.w 0 []]) ?_))
 refine AO.se T [(0:Int),(0:Int),(0:Int),.w 0 [],.w 0 [],(0:Int),.w 0 [],.w 0 []] ?_
 refine AO.pu T ?_
 refine AO.nil (AW.ret ?_)
 have hR:=someE hH;subst hR
 exact retQ.i [] rfl (.t (expLG_cons (.g (expLC_cons .v (expLC_cons .v (expLC_cons .v (expLC_cons .nilS (expLC_cons .nilS (expLC_cons .v (expLC_cons .nilS (expLC_cons .nilS (expLC_nil)))))))))) (expLG_cons (.c .v) (expLG_nil))))
 replace hH:=condF hc hH
 refine AW.skip (AW.seq ?_)
 obtain ⟨x3,hx4,hH⟩:=bindE hH
 refine AW.region (AO.pu T (d:=.g [e.segments,e.size,e.key,.s (List.map encEntrant e.entrants),.s (List.map encInt e.gone),e.segment,.s (List.map encInt e.order),.s (List.map encResult e.results)]) ?_)
 refine AO.pu T (d:=.g [sA.kind,sA.skater,sA.number]) ?_
 refine AO.val rfl rfl (callV_ok rfl rfl rfl rfl (spec_evStep_ok fuel _ _ _ (hx4)) rfl) ?_
 refine AO.pu T (d:=.g [x3.1.segments,x3.1.size,x3.1.key,.s (List.map encEntrant x3.1.entrants),.s (List.map encInt x3.1.gone),x3.1.segment,.s (List.map encInt x3.1.order),.s (List.map encResult x3.1.results)]) ?_
 refine AO.pu T ?_
 refine AO.se T [x3.1.segments,x3.1.size,x3.1.key,.s (List.map encEntrant x3.1.entrants),.s (List.map encInt x3.1.gone),x3.1.segment,.s (List.map encInt x3.1.order),.s (List.map encResult x3.1.results)] ?_
 refine AO.pu T ?_
 refine AO.nil (AW.ret ?_)
 have hR:=someE hH;subst hR
 exact retQ.i [] rfl (.t (expLG_cons (.g (expLC_cons .v (expLC_cons .v (expLC_cons .v (expLC_cons .s (expLC_cons .s (expLC_cons .v (expLC_cons .s (expLC_cons .s (expLC_nil)))))))))) (expLG_cons (.c .v) (expLG_nil))))

def spec_BeginSegment_p (fuel:Nat) (e:Event):Option (Event × Bool) :=
  (spec_evAsked_p fuel e (Step.mk 3 0 0)).bind fun x1 =>
  some ((Event.mk x1.1.segments x1.1.size x1.1.key x1.1.entrants x1.1.gone x1.1.segment x1.1.order x1.1.results),x1.2)
theorem spec_BeginSegment_ok (fuel:Nat) (e:Event) (r:(Event × Bool)) (hH:spec_BeginSegment_p fuel e=some r):SpecR Tryz.prog 12 [.g (encEvent e)] (.t [.g (encEvent r.1),.v (.bool r.2)]):=by
 refine fn_ok T Tryz.func12 rfl (by decide) rfl ?_
 refine AW.seq (AW.region (AO.step rfl (box_ok T rfl 1 rfl rfl rfl rfl) ?_))
 refine AO.step rfl (alloc_ok T rfl 2 rfl rfl rfl rfl rfl) ?_
 refine AO.pu T ?_
 refine AO.nil (AW.seq ?_)
 obtain ⟨x1,hx2,hH⟩:=bindE hH
 refine AW.region (AO.pu T (d:=.g [e.segments,e.size,e.key,.s (List.map encEntrant e.entrants),.s (List.map encInt e.gone),e.segment,.s (List.map encInt e.order),.s (List.map encResult e.results)]) ?_)
 refine AO.pu T (d:=.g [(3:Int),(0:Int),(0:Int)]) ?_
 refine AO.val rfl rfl (callV_ok rfl rfl rfl rfl (spec_evAsked_ok fuel _ _ _ (hx2)) rfl) ?_
 refine AO.pu T (d:=.g [x1.1.segments,x1.1.size,x1.1.key,.s (List.map encEntrant x1.1.entrants),.s (List.map encInt x1.1.gone),x1.1.segment,.s (List.map encInt x1.1.order),.s (List.map encResult x1.1.results)]) ?_
 refine AO.pu T ?_
 refine AO.se T [x1.1.segments,x1.1.size,x1.1.key,.s (List.map encEntrant x1.1.entrants),.s (List.map encInt x1.1.gone),x1.1.segment,.s (List.map encInt x1.1.order),.s (List.map encResult x1.1.results)] ?_
 refine AO.pu T ?_
 refine AO.nil (AW.ret ?_)
 have hR:=someE hH;subst hR
 exact retQ.i [] rfl (.t (expLG_cons (.g (expLC_cons .v (expLC_cons .v (expLC_cons .v (expLC_cons .s (expLC_cons .s (expLC_cons .v (expLC_cons .s (expLC_cons .s (expLC_nil)))))))))) (expLG_cons (.c .v) (expLG_nil))))

def laws_sameInts_l1 (b:List Int):List Int→Nat→Option Bool
  | [],k1 =>
    some true
  | y2::ys3,k1 =>
    (getI b (k1:Int)).bind fun x12 =>
    cond (y2 != x12)
      (some false)
      (laws_sameInts_l1 b ys3 (k1+1))
def laws_sameInts_p (a:List Int) (b:List Int):Option Bool :=
  cond ((a.length:Int) != (b.length:Int))
    (some false)
    (laws_sameInts_l1 b a 0)
theorem laws_sameInts_ok (a:List Int) (b:List Int) (r:Bool) (hH:laws_sameInts_p a b=some r):SpecR Tryz.prog 13 [.s (List.map encInt a),.s (List.map encInt b)] (.v (.bool r)):=by
 refine fn_ok T Tryz.func13 rfl (by decide) rfl ?_
 refine AW.seq (AW.region (AO.pu T ?_))
 refine AO.nil ?_
 iterate 2 refine AW.seq ?_
 refine AW.region (AO.pu T ?_)
 refine AO.val rfl rfl (len_map_ok T rfl rfl rfl) ?_
 refine AO.pu T ?_
 refine AO.val rfl rfl (len_map_ok T rfl rfl rfl) ?_
 refine AO.pu T ?_
 refine AO.nil (AW.cond (b:=((a.length:Int) != (b.length:Int))) rfl (fun hc=>?_) (fun hc=>?_))
 replace hH:=condT hc hH
 refine AW.seq (AW.region (AO.pu T ?_))
 refine AO.nil (AW.ret ?_)
 have hR:=someE hH;subst hR
 exact retQ.i [] rfl (.c (.c .v))
 replace hH:=condF hc hH
 refine AW.skip ?_
 iterate 2 refine AW.seq ?_
 refine AW.region (AO.pu T ?_)
 refine AO.val rfl rfl (len_map_ok T rfl rfl rfl) ?_
 refine AO.pu T ?_
 refine AO.nil (AW.block ?_)
 refine AW.loopS (fun s:Nat=>(⟨[(0,.s (List.map encInt a)),(1,.s (List.map encInt b)),(12,(a.length:Int)),(13,(s:Int))],[],26,[]⟩:St)) (fun s=>s ≤ a.length∧laws_sameInts_l1 b (a.drop s) s=some r) (fun s=>a.length - s) 0 ⟨Nat.zero_le _,hH⟩ ?_ ?_
 exact Le.ct 0 0
 rintro k1 ⟨hk,hH⟩
 replace hH:laws_sameInts_l1 b (a.drop k1) k1=some r:=hH
 try dsimp only
 refine AW.boundM (t:=0) (l:=a) rfl (fun hb5=>?_)
 rcases hd4:a.drop k1 with _ | ⟨y2,ys3⟩
 rw [hd4,laws_sameInts_l1] at hH
 have hlt6:=drop_ge hd4
 refine AW.seq (AW.region (AO.pu T ?_))
 refine AO.nil (AW.seq (AW.condF' (b:=decide ((k1:Int) < (a.length:Int))) rfl (rngF hlt6) ?_))
 refine AW.exit (AW.seq (AW.region ?_))
 refine AO.pu T ?_
 refine AO.nil (AW.ret ?_)
 have hR:=someE hH;subst hR
 exact retQ.i [] rfl (.c (.c .v))
 rw [hd4,laws_sameInts_l1] at hH
 have hlt6:=drop_lt hd4
 refine AW.seq (AW.region (AO.pu T ?_))
 refine AO.nil (AW.seq (AW.condT' (b:=decide ((k1:Int) < (a.length:Int))) rfl (rngT hlt6) ?_))
 refine AW.skip (AW.seq ?_)
 refine AW.block (AW.seq (AW.region ?_))
 iterate 2 refine AO.pu T ?_
 refine AO.nil (AW.seq ?_)
 obtain ⟨x12,hx13,hH⟩:=bindE hH
 refine AW.drawn 8 1 [] mix (by kernel_rfl) rfl ?_
 iterate 2 refine AD.pure T rfl rfl rfl ?_
 refine AD.val rfl rfl (ix_map_ok T rfl rfl rfl rfl rfl (getI_drop hd4) rfl) ?_
 iterate 3 refine AD.pure T rfl rfl rfl ?_
 refine AD.val rfl rfl (ix_map_ok T rfl rfl rfl rfl rfl (hx13) rfl) ?_
 refine AD.pure T rfl rfl rfl ?_
 refine AD.nil (AO.pu T ?_)
 refine AO.nil (AW.cond (b:=(y2 != x12)) rfl (fun hc=>?_) (fun hc=>?_))
 replace hH:=condT hc hH
 refine AW.seq (AW.region (AO.pu T ?_))
 refine AO.nil (AW.ret ?_)
 have hR:=someE hH;subst hR
 exact retQ.i [] rfl (.c (.c .v))
 replace hH:=condF hc hH
 refine AW.skip (AW.region ?_)
 refine AO.val rfl rfl (ar_ok rfl rfl rfl rfl (inI_succ hlt6 hb5)) ?_
 refine AO.pu T ?_
 refine AO.nil ?_
 refine ⟨k1+1,⟨Nat.succ_le_of_lt hlt6,(by rw [drop_succ_of hd4];exact hH)⟩,(by have:=hlt6;dsimp only;omega),?_⟩
 exact Le.ct 0 0

def laws_pSameEntrants_l1 (b:List Entrant):List Entrant→Nat→Option Bool
  | [],k1 =>
    some true
  | y2::ys3,k1 =>
    (getI b (k1:Int)).bind fun x12 =>
    cond (!decide (y2=x12))
      (some false)
      (laws_pSameEntrants_l1 b ys3 (k1+1))
def laws_pSameEntrants_p (a:List Entrant) (b:List Entrant):Option Bool :=
  cond ((a.length:Int) != (b.length:Int))
    (some false)
    (laws_pSameEntrants_l1 b a 0)
theorem laws_pSameEntrants_ok (a:List Entrant) (b:List Entrant) (r:Bool) (hH:laws_pSameEntrants_p a b=some r):SpecR Tryz.prog 50 [.s (List.map encEntrant a),.s (List.map encEntrant b)] (.v (.bool r)):=by
 refine fn_ok T Tryz.func50 rfl (by decide) rfl ?_
 refine AW.seq (AW.region (AO.pu T ?_))
 refine AO.nil ?_
 iterate 2 refine AW.seq ?_
 refine AW.region (AO.pu T ?_)
 refine AO.val rfl rfl (len_map_ok T rfl rfl rfl) ?_
 refine AO.pu T ?_
 refine AO.val rfl rfl (len_map_ok T rfl rfl rfl) ?_
 refine AO.pu T ?_
 refine AO.nil (AW.cond (b:=((a.length:Int) != (b.length:Int))) rfl (fun hc=>?_) (fun hc=>?_))
 replace hH:=condT hc hH
 refine AW.seq (AW.region (AO.pu T ?_))
 refine AO.nil (AW.ret ?_)
 have hR:=someE hH;subst hR
 exact retQ.i [] rfl (.c (.c .v))
 replace hH:=condF hc hH
 refine AW.skip ?_
 iterate 2 refine AW.seq ?_
 refine AW.region (AO.pu T ?_)
 refine AO.val rfl rfl (len_map_ok T rfl rfl rfl) ?_
 refine AO.pu T ?_
 refine AO.nil (AW.block ?_)
 refine AW.loopS (fun s:Nat=>(⟨[(0,.s (List.map encEntrant a)),(1,.s (List.map encEntrant b)),(12,(a.length:Int)),(13,(s:Int))],[],26,[]⟩:St)) (fun s=>s ≤ a.length∧laws_pSameEntrants_l1 b (a.drop s) s=some r) (fun s=>a.length - s) 0 ⟨Nat.zero_le _,hH⟩ ?_ ?_
 exact Le.ct 0 0
 rintro k1 ⟨hk,hH⟩
 replace hH:laws_pSameEntrants_l1 b (a.drop k1) k1=some r:=hH
 try dsimp only
 refine AW.boundM (t:=0) (l:=a) rfl (fun hb5=>?_)
 rcases hd4:a.drop k1 with _ | ⟨y2,ys3⟩
 rw [hd4,laws_pSameEntrants_l1] at hH
 have hlt6:=drop_ge hd4
 refine AW.seq (AW.region (AO.pu T ?_))
 refine AO.nil (AW.seq (AW.condF' (b:=decide ((k1:Int) < (a.length:Int))) rfl (rngF hlt6) ?_))
 refine AW.exit (AW.seq (AW.region ?_))
 refine AO.pu T ?_
 refine AO.nil (AW.ret ?_)
 have hR:=someE hH;subst hR
 exact retQ.i [] rfl (.c (.c .v))
 rw [hd4,laws_pSameEntrants_l1] at hH
 have hlt6:=drop_lt hd4
 refine AW.seq (AW.region (AO.pu T ?_))
 refine AO.nil (AW.seq (AW.condT' (b:=decide ((k1:Int) < (a.length:Int))) rfl (rngT hlt6) ?_))
 refine AW.skip (AW.seq ?_)
 refine AW.block (AW.seq (AW.region ?_))
 iterate 2 refine AO.pu T ?_
 refine AO.nil (AW.seq ?_)
 obtain ⟨x12,hx13,hH⟩:=bindE hH
 refine AW.drawn 8 1 [] mix (by kernel_rfl) rfl ?_
 iterate 2 refine AD.pure T rfl rfl rfl ?_
 refine AD.val rfl rfl (ix_map_ok T rfl rfl rfl rfl rfl (getI_drop hd4) rfl) ?_
 refine AD.pure T (d:=.g [y2.skater,y2.rank]) rfl rfl rfl ?_
 iterate 2 refine AD.pure T rfl rfl rfl ?_
 refine AD.val rfl rfl (ix_map_ok T rfl rfl rfl rfl rfl (hx13) rfl) ?_
 refine AD.pure T (d:=.g [x12.skater,x12.rank]) rfl rfl rfl ?_
 refine AD.nil (AO.val rfl rfl (neqg_ok rfl ekTEntrant rfl rfl rfl rfl (eqVEntrant _ _)) ?_)
 refine AO.nil (AW.cond (b:=(!decide (y2=x12))) rfl (fun hc=>?_) (fun hc=>?_))
 replace hH:=condT hc hH
 refine AW.seq (AW.region (AO.pu T ?_))
 refine AO.nil (AW.ret ?_)
 have hR:=someE hH;subst hR
 exact retQ.i [] rfl (.c (.c .v))
 replace hH:=condF hc hH
 refine AW.skip (AW.region ?_)
 refine AO.val rfl rfl (ar_ok rfl rfl rfl rfl (inI_succ hlt6 hb5)) ?_
 refine AO.pu T ?_
 refine AO.nil ?_
 refine ⟨k1+1,⟨Nat.succ_le_of_lt hlt6,(by rw [drop_succ_of hd4];exact hH)⟩,(by have:=hlt6;dsimp only;omega),?_⟩
 exact Le.ct 0 0

def laws_pSameResults_l1 (b:List Result):List Result→Nat→Option Bool
  | [],k1 =>
    some true
  | y2::ys3,k1 =>
    (getI b (k1:Int)).bind fun x16 =>
    (opt (!(y2.skater != x16.skater)) default (laws_sameInts_p y2.scores x16.scores)).bind fun x18 =>
    cond ((y2.skater != x16.skater) || (!x18))
      (some false)
      (laws_pSameResults_l1 b ys3 (k1+1))
def laws_pSameResults_p (a:List Result) (b:List Result):Option Bool :=
  cond ((a.length:Int) != (b.length:Int))
    (some false)
    (laws_pSameResults_l1 b a 0)
theorem laws_pSameResults_ok (a:List Result) (b:List Result) (r:Bool) (hH:laws_pSameResults_p a b=some r):SpecR Tryz.prog 51 [.s (List.map encResult a),.s (List.map encResult b)] (.v (.bool r)):=by
 refine fn_ok T Tryz.func51 rfl (by decide) rfl ?_
 refine AW.seq (AW.region (AO.pu T ?_))
 refine AO.nil ?_
 iterate 2 refine AW.seq ?_
 refine AW.region (AO.pu T ?_)
 refine AO.val rfl rfl (len_map_ok T rfl rfl rfl) ?_
 refine AO.pu T ?_
 refine AO.val rfl rfl (len_map_ok T rfl rfl rfl) ?_
 refine AO.pu T ?_
 refine AO.nil (AW.cond (b:=((a.length:Int) != (b.length:Int))) rfl (fun hc=>?_) (fun hc=>?_))
 replace hH:=condT hc hH
 refine AW.seq (AW.region (AO.pu T ?_))
 refine AO.nil (AW.ret ?_)
 have hR:=someE hH;subst hR
 exact retQ.i [] rfl (.c (.c .v))
 replace hH:=condF hc hH
 refine AW.skip ?_
 iterate 2 refine AW.seq ?_
 refine AW.region (AO.pu T ?_)
 refine AO.val rfl rfl (len_map_ok T rfl rfl rfl) ?_
 refine AO.pu T ?_
 refine AO.nil (AW.block ?_)
 refine AW.loopS (fun s:Nat=>(⟨[(0,.s (List.map encResult a)),(1,.s (List.map encResult b)),(12,(a.length:Int)),(13,(s:Int))],[],42,[]⟩:St)) (fun s=>s ≤ a.length∧laws_pSameResults_l1 b (a.drop s) s=some r) (fun s=>a.length - s) 0 ⟨Nat.zero_le _,hH⟩ ?_ ?_
 exact Le.ct 0 0
 rintro k1 ⟨hk,hH⟩
 replace hH:laws_pSameResults_l1 b (a.drop k1) k1=some r:=hH
 try dsimp only
 refine AW.boundM (t:=0) (l:=a) rfl (fun hb5=>?_)
 rcases hd4:a.drop k1 with _ | ⟨y2,ys3⟩
 rw [hd4,laws_pSameResults_l1] at hH
 have hlt6:=drop_ge hd4
 refine AW.seq (AW.region (AO.pu T ?_))
 refine AO.nil (AW.seq (AW.condF' (b:=decide ((k1:Int) < (a.length:Int))) rfl (rngF hlt6) ?_))
 refine AW.exit (AW.seq (AW.region ?_))
 refine AO.pu T ?_
 refine AO.nil (AW.ret ?_)
 have hR:=someE hH;subst hR
 exact retQ.i [] rfl (.c (.c .v))
 rw [hd4,laws_pSameResults_l1] at hH
 have hlt6:=drop_lt hd4
 refine AW.seq (AW.region (AO.pu T ?_))
 refine AO.nil (AW.seq (AW.condT' (b:=decide ((k1:Int) < (a.length:Int))) rfl (rngT hlt6) ?_))
 refine AW.skip (AW.seq ?_)
 refine AW.block (AW.seq (AW.region ?_))
 iterate 2 refine AO.pu T ?_
 refine AO.nil (AW.seq ?_)
 obtain ⟨x16,hx17,hH⟩:=bindE hH
 obtain ⟨x18,hx19,hH⟩:=bindE hH
 refine AW.drawn 22 1 [] mix (by kernel_rfl) rfl ?_
 iterate 2 refine AD.pure T rfl rfl rfl ?_
 refine AD.val rfl rfl (ix_map_ok T rfl rfl rfl rfl rfl (getI_drop hd4) rfl) ?_
 iterate 4 refine AD.pure T rfl rfl rfl ?_
 refine AD.val rfl rfl (ix_map_ok T rfl rfl rfl rfl rfl (hx17) rfl) ?_
 iterate 4 refine AD.pure T rfl rfl rfl ?_
 iterate 2 refine AD.pureG T [] rfl trivial rfl rfl ?_
 refine AD.guard [28,29] rfl ⟨fun h=>h,fun h=>h,trivial⟩ (fun hg=>ix_map_ok T rfl rfl rfl rfl rfl (getI_drop hd4) rfl) rfl ?_
 refine AD.pureG T [30] rfl ⟨fun h=>h,trivial⟩ rfl rfl ?_
 refine AD.pureG T [31] rfl ⟨fun h=>h,trivial⟩ rfl rfl ?_
 iterate 2 refine AD.pureG T [] rfl trivial rfl rfl ?_
 refine AD.guard [33,34] rfl ⟨fun h=>h,fun h=>h,trivial⟩ (fun hg=>ix_map_ok T rfl rfl rfl rfl rfl (hx17) rfl) rfl ?_
 refine AD.pureG T [35] rfl ⟨fun h=>h,trivial⟩ rfl rfl ?_
 refine AD.pureG T [36] rfl ⟨fun h=>h,trivial⟩ rfl rfl ?_
 refine AD.nil (AO.guard [32,37] rfl ⟨fun h=>h,fun h=>h,trivial⟩ (fun hg=>callV_ok rfl rfl rfl rfl (laws_sameInts_ok _ _ _ (optT hx19 hg)) rfl) rfl ?_)
 refine AO.pureG T [38] rfl ⟨fun h=>h,trivial⟩ rfl rfl ?_
 refine AO.val rfl rfl (pick_or rfl rfl rfl rfl) ?_
 refine AO.nil (AW.le (Le.ct 0 0 (σ':=(⟨[(0,.s (List.map encResult a)),(1,.s (List.map encResult b)),(12,(a.length:Int)),(13,(k1:Int)),(40,.v (.bool ((y2.skater != x16.skater) || (!x18))))],[],42,[]⟩:St))) ?_)
 refine AW.cond (b:=((y2.skater != x16.skater) || (!x18))) rfl (fun hc=>?_) (fun hc=>?_)
 replace hH:=condT hc hH
 refine AW.seq (AW.region (AO.pu T ?_))
 refine AO.nil (AW.ret ?_)
 have hR:=someE hH;subst hR
 exact retQ.i [] rfl (.c (.c .v))
 replace hH:=condF hc hH
 refine AW.skip (AW.region ?_)
 refine AO.val rfl rfl (ar_ok rfl rfl rfl rfl (inI_succ hlt6 hb5)) ?_
 refine AO.pu T ?_
 refine AO.nil ?_
 refine ⟨k1+1,⟨Nat.succ_le_of_lt hlt6,(by rw [drop_succ_of hd4];exact hH)⟩,(by have:=hlt6;dsimp only;omega),?_⟩
 exact Le.ct 0 0

def laws_pSameEvent_p (a:Event) (b:Event):Option Bool :=
  (opt (((a.segments == b.segments) && (a.size == b.size)) && (a.key == b.key)) default (laws_pSameEntrants_p a.entrants b.entrants)).bind fun x1 =>
  (opt ((((a.segments == b.segments) && (a.size == b.size)) && (a.key == b.key)) && x1) default (laws_sameInts_p a.gone b.gone)).bind fun x3 =>
  (opt ((((((a.segments == b.segments) && (a.size == b.size)) && (a.key == b.key)) && x1) && x3) && (a.segment == b.segment)) default (laws_sameInts_p a.order b.order)).bind fun x5 =>
  (opt (((((((a.segments == b.segments) && (a.size == b.size)) && (a.key == b.key)) && x1) && x3) && (a.segment == b.segment)) && x5) default (laws_pSameResults_p a.results b.results)).bind fun x7 =>
  some ((((((((a.segments == b.segments) && (a.size == b.size)) && (a.key == b.key)) && x1) && x3) && (a.segment == b.segment)) && x5) && x7)
theorem laws_pSameEvent_ok (a:Event) (b:Event) (r:Bool) (hH:laws_pSameEvent_p a b=some r):SpecR Tryz.prog 14 [.g (encEvent a),.g (encEvent b)] (.v (.bool r)):=by
 refine fn_ok T Tryz.func14 rfl (by decide) rfl ?_
 refine AW.seq (AW.region (AO.step rfl (box_ok T rfl 1 rfl rfl rfl rfl) ?_))
 refine AO.step rfl (box_ok T rfl 2 rfl rfl rfl rfl) ?_
 refine AO.pu T ?_
 refine AO.nil (AW.seq ?_)
 obtain ⟨x1,hx2,hH⟩:=bindE hH
 obtain ⟨x3,hx4,hH⟩:=bindE hH
 obtain ⟨x5,hx6,hH⟩:=bindE hH
 obtain ⟨x7,hx8,hH⟩:=bindE hH
 refine AW.region ?_
 iterate 6 refine AO.pu T ?_
 refine AO.pureG T [] rfl trivial rfl rfl ?_
 refine AO.pureG T [11] rfl ⟨fun h=>h,trivial⟩ rfl rfl ?_
 refine AO.pureG T [] rfl trivial rfl rfl ?_
 refine AO.pureG T [13] rfl ⟨fun h=>h,trivial⟩ rfl rfl ?_
 refine AO.pureG T [12,14] rfl ⟨fun h=>h,fun h=>h,trivial⟩ rfl rfl ?_
 refine AO.val rfl rfl (pick_and rfl rfl rfl rfl) ?_
 refine AO.pu T ?_
 refine AO.pureG T [] rfl trivial rfl rfl ?_
 refine AO.pureG T [18] rfl ⟨fun h=>h,trivial⟩ rfl rfl ?_
 refine AO.pureG T [] rfl trivial rfl rfl ?_
 refine AO.pureG T [20] rfl ⟨fun h=>h,trivial⟩ rfl rfl ?_
 refine AO.pureG T [19,21] rfl ⟨fun h=>h,fun h=>h,trivial⟩ rfl rfl ?_
 refine AO.val rfl rfl (pick_and rfl rfl rfl rfl) ?_
 refine AO.pu T ?_
 refine AO.pureG T [] rfl trivial rfl rfl ?_
 refine AO.pureG T [25] rfl ⟨fun h=>h,trivial⟩ rfl rfl ?_
 refine AO.pureG T [] rfl trivial rfl rfl ?_
 refine AO.pureG T [27] rfl ⟨fun h=>h,trivial⟩ rfl rfl ?_
 refine AO.guard [26,28] rfl ⟨fun h=>h,fun h=>h,trivial⟩ (fun hg=>callV_ok rfl rfl rfl rfl (laws_pSameEntrants_ok _ _ _ (optT hx2 hg)) rfl) rfl ?_
 refine AO.val rfl rfl (pick_and rfl rfl rfl rfl) ?_
 refine AO.pu T ?_
 refine AO.pureG T [] rfl trivial rfl rfl ?_
 refine AO.pureG T [32] rfl ⟨fun h=>h,trivial⟩ rfl rfl ?_
 refine AO.pureG T [] rfl trivial rfl rfl ?_
 refine AO.pureG T [34] rfl ⟨fun h=>h,trivial⟩ rfl rfl ?_
 refine AO.guard [33,35] rfl ⟨fun h=>h,fun h=>h,trivial⟩ (fun hg=>callV_ok rfl rfl rfl rfl (laws_sameInts_ok _ _ _ (optT hx4 hg)) rfl) rfl ?_
 refine AO.val rfl rfl (pick_and rfl rfl rfl rfl) ?_
 refine AO.pu T ?_
 refine AO.pureG T [] rfl trivial rfl rfl ?_
 refine AO.pureG T [39] rfl ⟨fun h=>h,trivial⟩ rfl rfl ?_
 refine AO.pureG T [] rfl trivial rfl rfl ?_
 refine AO.pureG T [41] rfl ⟨fun h=>h,trivial⟩ rfl rfl ?_
 refine AO.pureG T [40,42] rfl ⟨fun h=>h,fun h=>h,trivial⟩ rfl rfl ?_
 refine AO.val rfl rfl (pick_and rfl rfl rfl rfl) ?_
 refine AO.pu T ?_
 refine AO.pureG T [] rfl trivial rfl rfl ?_
 refine AO.pureG T [46] rfl ⟨fun h=>h,trivial⟩ rfl rfl ?_
 refine AO.pureG T [] rfl trivial rfl rfl ?_
 refine AO.pureG T [48] rfl ⟨fun h=>h,trivial⟩ rfl rfl ?_
 refine AO.guard [47,49] rfl ⟨fun h=>h,fun h=>h,trivial⟩ (fun hg=>callV_ok rfl rfl rfl rfl (laws_sameInts_ok _ _ _ (optT hx6 hg)) rfl) rfl ?_
 refine AO.val rfl rfl (pick_and rfl rfl rfl rfl) ?_
 refine AO.pu T ?_
 refine AO.pureG T [] rfl trivial rfl rfl ?_
 refine AO.pureG T [53] rfl ⟨fun h=>h,trivial⟩ rfl rfl ?_
 refine AO.pureG T [] rfl trivial rfl rfl ?_
 refine AO.pureG T [55] rfl ⟨fun h=>h,trivial⟩ rfl rfl ?_
 refine AO.guard [54,56] rfl ⟨fun h=>h,fun h=>h,trivial⟩ (fun hg=>callV_ok rfl rfl rfl rfl (laws_pSameResults_ok _ _ _ (optT hx8 hg)) rfl) rfl ?_
 refine AO.val rfl rfl (pick_and rfl rfl rfl rfl) ?_
 refine AO.pu T ?_
 refine AO.nil (AW.le (Le.ct 0 0 (σ':=(⟨[(4,.v (.bool ((((((((a.segments == b.segments) && (a.size == b.size)) && (a.key == b.key)) && x1) && x3) && (a.segment == b.segment)) && x5) && x7)))],[],59,[]⟩:St))) ?_)
 refine AW.ret ?_
 have hR:=someE hH;subst hR
 exact retQ.i [] rfl (.c (.c .v))

def laws_pIn_l1 (n:Int):List Int→Nat→Option Bool
  | [],k1 =>
    some false
  | y2::ys3,k1 =>
    cond (y2 == n)
      (some true)
      (laws_pIn_l1 n ys3 (k1+1))
def laws_pIn_p (l:List Int) (n:Int):Option Bool :=
  laws_pIn_l1 n l 0
theorem laws_pIn_ok (l:List Int) (n:Int) (r:Bool) (hH:laws_pIn_p l n=some r):SpecR Tryz.prog 16 [.s (List.map encInt l),n] (.v (.bool r)):=by
 refine fn_ok T Tryz.func16 rfl (by decide) rfl ?_
 refine AW.seq (AW.region (AO.pu T ?_))
 refine AO.nil ?_
 iterate 2 refine AW.seq ?_
 refine AW.region (AO.pu T ?_)
 refine AO.val rfl rfl (len_map_ok T rfl rfl rfl) ?_
 refine AO.pu T ?_
 refine AO.nil (AW.block ?_)
 refine AW.loopS (fun s:Nat=>(⟨[(1,n),(7,.s (List.map encInt l)),(8,(l.length:Int)),(9,(s:Int))],[],17,[]⟩:St)) (fun s=>s ≤ l.length∧laws_pIn_l1 n (l.drop s) s=some r) (fun s=>l.length - s) 0 ⟨Nat.zero_le _,hH⟩ ?_ ?_
 exact Le.ct 0 0
 rintro k1 ⟨hk,hH⟩
 replace hH:laws_pIn_l1 n (l.drop k1) k1=some r:=hH
 try dsimp only
 refine AW.boundM (t:=7) (l:=l) rfl (fun hb5=>?_)
 rcases hd4:l.drop k1 with _ | ⟨y2,ys3⟩
 rw [hd4,laws_pIn_l1] at hH
 have hlt6:=drop_ge hd4
 refine AW.seq (AW.region (AO.pu T ?_))
 refine AO.nil (AW.seq (AW.condF' (b:=decide ((k1:Int) < (l.length:Int))) rfl (rngF hlt6) ?_))
 refine AW.exit (AW.seq (AW.region ?_))
 refine AO.pu T ?_
 refine AO.nil (AW.ret ?_)
 have hR:=someE hH;subst hR
 exact retQ.i [] rfl (.c (.c .v))
 rw [hd4,laws_pIn_l1] at hH
 have hlt6:=drop_lt hd4
 refine AW.seq (AW.region (AO.pu T ?_))
 refine AO.nil (AW.seq (AW.condT' (b:=decide ((k1:Int) < (l.length:Int))) rfl (rngT hlt6) ?_))
 refine AW.skip (AW.seq ?_)
 refine AW.block (AW.seq (AW.region ?_))
 refine AO.val rfl rfl (ix_map_ok T rfl rfl rfl rfl rfl (getI_drop hd4) rfl) ?_
 iterate 2 refine AO.pu T ?_
 refine AO.nil (AW.seq (AW.region ?_))
 iterate 3 refine AO.pu T ?_
 refine AO.nil (AW.cond (b:=(y2 == n)) rfl (fun hc=>?_) (fun hc=>?_))
 replace hH:=condT hc hH
 refine AW.seq (AW.region (AO.pu T ?_))
 refine AO.nil (AW.ret ?_)
 have hR:=someE hH;subst hR
 exact retQ.i [] rfl (.c (.c .v))
 replace hH:=condF hc hH
 refine AW.skip (AW.region ?_)
 refine AO.val rfl rfl (ar_ok rfl rfl rfl rfl (inI_succ hlt6 hb5)) ?_
 refine AO.pu T ?_
 refine AO.nil ?_
 refine ⟨k1+1,⟨Nat.succ_le_of_lt hlt6,(by rw [drop_succ_of hd4];exact hH)⟩,(by have:=hlt6;dsimp only;omega),?_⟩
 exact Le.ct 0 0

def spec_DrawGiveScore_p (fuel:Nat) (code:List Int):Option (Event × Int) :=
  (spec_l1Cur_event_p fuel (L1Cur.mk code 0 0)).bind fun x1 =>
  (spec_l1Cur_among_p (L1Cur.mk x1.1.code x1.1.at' x1.1.seed) ([0,5000,100000,100001,(-1)]:List Int)).bind fun x3 =>
  some ((Event.mk x1.2.segments x1.2.size x1.2.key x1.2.entrants x1.2.gone x1.2.segment x1.2.order x1.2.results),x3.2)
theorem spec_DrawGiveScore_ok (fuel:Nat) (code:List Int) (r:(Event × Int)) (hH:spec_DrawGiveScore_p fuel code=some r):SpecR Tryz.prog 17 [.s (List.map encInt_u8 code)] (.t [.g (encEvent r.1),.v (.int .i64 r.2)]):=by
 refine fn_ok T Tryz.func17 rfl (by decide) rfl ?_
 refine AW.seq (AW.region (AO.step rfl (alloc_ok T rfl 1 rfl rfl rfl rfl rfl) ?_))
 refine AO.pu T ?_
 refine AO.nil (AW.seq (AW.region ?_))
 refine AO.pu T ?_
 refine AO.pu T (d:=.g [.s (List.map encInt_u8 code),(0:Int),.v (.int .u64 0)]) ?_
 refine AO.step rfl (box_ok T rfl 2 rfl rfl rfl rfl) ?_
 refine AO.pu T ?_
 refine AO.nil (AW.seq ?_)
 obtain ⟨x1,hx2,hH⟩:=bindE hH
 obtain ⟨x3,hx4,hH⟩:=bindE hH
 refine AW.region (AO.pu T ?_)
 refine AO.step rfl (callM_ok rfl 3 rfl rfl (es:=[.pw (encL1Cur (L1Cur.mk code 0 0))]) (outs:=[.pw (encL1Cur x1.1)]) (ids:=[2]) (by exact expLG_cons (.c (.box rfl rfl)) (expLG_nil)) (by decide) (.inl (by rfl)) (by rfl) (spec_l1Cur_event_ok fuel _ _ (hx2)) rfl (by rfl) rfl) ?_
 refine AO.pu T ?_
 refine AO.step rfl (mk_map_ok T rfl 3 rfl rfl rfl rfl rfl (f:=encInt) (l:=([0,5000,100000,100001,(-1)]:List Int)) rfl rfl (fun _=>rfl) rfl rfl rfl rfl rfl) ?_
 refine AO.le (Le.freezeM 3 (g:=encInt) rfl (fun y=>.vs rfl)) ?_
 refine AO.step rfl (callM_ok rfl 4 rfl rfl (es:=[.pw (encL1Cur (L1Cur.mk x1.1.code x1.1.at' x1.1.seed)),.s (([0,5000,100000,100001,(-1)]:List Int).map encInt)]) (outs:=[.pw (encL1Cur x3.1),.u]) (ids:=[2]) (by exact expLG_cons (.c (.box rfl rfl)) (expLG_cons (.c .s) (expLG_nil))) (by decide) (.inl (by rfl)) (by rfl) (spec_l1Cur_among_ok _ _ _ (hx4)) rfl (by rfl) rfl) ?_
 refine AO.se T [x1.2.segments,x1.2.size,x1.2.key,.s (List.map encEntrant x1.2.entrants),.s (List.map encInt x1.2.gone),x1.2.segment,.s (List.map encInt x1.2.order),.s (List.map encResult x1.2.results)] ?_
 refine AO.pu T ?_
 refine AO.nil (AW.ret ?_)
 have hR:=someE hH;subst hR
 exact retQ.i [] rfl (.t (expLG_cons (.g (expLC_cons .v (expLC_cons .v (expLC_cons .v (expLC_cons .s (expLC_cons .s (expLC_cons .v (expLC_cons .s (expLC_cons .s (expLC_nil)))))))))) (expLG_cons (.c .v) (expLG_nil))))

def slices_IndexFunc_int_l1 (f:Int→Option Bool):List Int→Nat→Option Int
  | [],k1 =>
    some (-1)
  | y2::ys3,k1 =>
    (f y2).bind fun x12 =>
    cond x12
      (some (k1:Int))
      (slices_IndexFunc_int_l1 f ys3 (k1+1))
def slices_IndexFunc_int_p (sA:List Int) (f:Int→Option Bool):Option Int :=
  slices_IndexFunc_int_l1 f sA 0
theorem slices_IndexFunc_int_ok (sA:List Int) (f_f:Nat) (f_c:List D) (f_k:f_c.all D.capOk=true) (f:Int→Option Bool) (f_h:∀ (a0:Int) (q:Bool),f a0=some q→SpecR Tryz.prog f_f ([.v (.int .i64 a0)]++f_c) (.v (.bool q))) (r:Int) (hH:slices_IndexFunc_int_p sA f=some r):SpecR Tryz.prog 135 [.s (List.map encInt sA),.f f_f f_c] (.v (.int .i64 r)):=by
 have f_r:=cap_cfree f_k
 refine fn_ok T Tryz.func135 rfl (by decide) rfl ?_
 refine AW.seq (AW.region (AO.pu T ?_))
 refine AO.nil ?_
 iterate 2 refine AW.seq ?_
 refine AW.region (AO.pu T ?_)
 refine AO.val rfl rfl (len_map_ok T rfl rfl rfl) ?_
 refine AO.pu T ?_
 refine AO.nil (AW.block ?_)
 refine AW.loopS (fun s:Nat=>(⟨[(0,.s (List.map encInt sA)),(1,.f f_f f_c),(7,(sA.length:Int)),(8,(s:Int))],[],19,[]⟩:St)) (fun s=>s ≤ sA.length∧slices_IndexFunc_int_l1 f (sA.drop s) s=some r) (fun s=>sA.length - s) 0 ⟨Nat.zero_le _,hH⟩ ?_ ?_
 exact Le.cut 0 0 rfl ⟨⟨_,rfl,rfl⟩,⟨_,rfl,ren_fF f_r⟩,⟨_,rfl,rfl⟩,⟨_,rfl,rfl⟩,trivial⟩ (by repeat' (first | exact trivial | refine ⟨⟨_,rfl,rfl⟩,?_⟩)) (andT (allC rfl (allC (known_fF f_r) (allC rfl (allC rfl allN)))) rfl)
 rintro k1 ⟨hk,hH⟩
 replace hH:slices_IndexFunc_int_l1 f (sA.drop k1) k1=some r:=hH
 try dsimp only
 refine AW.boundM (t:=0) (l:=sA) rfl (fun hb5=>?_)
 rcases hd4:sA.drop k1 with _ | ⟨y2,ys3⟩
 rw [hd4,slices_IndexFunc_int_l1] at hH
 have hlt6:=drop_ge hd4
 refine AW.seq (AW.region (AO.pu T ?_))
 refine AO.nil (AW.seq (AW.condF' (b:=decide ((k1:Int) < (sA.length:Int))) rfl (rngF hlt6) ?_))
 refine AW.exit (AW.seq (AW.region ?_))
 refine AO.pu T ?_
 refine AO.nil (AW.ret ?_)
 have hR:=someE hH;subst hR
 exact retQ.i [] rfl (.c (.c .v))
 rw [hd4,slices_IndexFunc_int_l1] at hH
 have hlt6:=drop_lt hd4
 refine AW.seq (AW.region (AO.pu T ?_))
 refine AO.nil (AW.seq (AW.condT' (b:=decide ((k1:Int) < (sA.length:Int))) rfl (rngT hlt6) ?_))
 refine AW.skip (AW.seq ?_)
 refine AW.block (AW.seq (AW.region ?_))
 iterate 2 refine AO.pu T ?_
 refine AO.nil (AW.seq ?_)
 obtain ⟨x12,hx13,hH⟩:=bindE hH
 refine AW.region ?_
 iterate 3 refine AO.pu T ?_
 refine AO.val rfl rfl (ix_map_ok T rfl rfl rfl rfl rfl (getI_drop hd4) rfl) ?_
 refine AO.pu T ?_
 refine AO.val rfl rfl (callV_ok rfl rfl rfl (andT rfl (free_cfree f_r)) (f_h _ _ (hx13)) rfl) ?_
 refine AO.nil (AW.cond (b:=x12) rfl (fun hc=>?_) (fun hc=>?_))
 replace hH:=condT hc hH
 refine AW.seq (AW.region ?_)
 iterate 2 refine AO.pu T ?_
 refine AO.nil (AW.ret ?_)
 have hR:=someE hH;subst hR
 exact retQ.i [] rfl (.c (.c .v))
 replace hH:=condF hc hH
 refine AW.skip (AW.region ?_)
 refine AO.val rfl rfl (ar_ok rfl rfl rfl rfl (inI_succ hlt6 hb5)) ?_
 refine AO.pu T ?_
 refine AO.nil ?_
 refine ⟨k1+1,⟨Nat.succ_le_of_lt hlt6,(by rw [drop_succ_of hd4];exact hH)⟩,(by have:=hlt6;dsimp only;omega),?_⟩
 exact Le.cut 0 0 rfl ⟨⟨_,rfl,rfl⟩,⟨_,rfl,ren_fF f_r⟩,⟨_,rfl,rfl⟩,⟨_,rfl,rfl⟩,trivial⟩ (by repeat' (first | exact trivial | refine ⟨⟨_,rfl,rfl⟩,?_⟩)) (andT (allC rfl (allC (known_fF f_r) (allC rfl (allC rfl allN)))) rfl)

def slices_ContainsFunc_int_p (sA:List Int) (f:Int→Option Bool):Option Bool :=
  (slices_IndexFunc_int_p sA f).bind fun x1 =>
  some (decide (x1 ≥ 0))
theorem slices_ContainsFunc_int_ok (sA:List Int) (f_f:Nat) (f_c:List D) (f_k:f_c.all D.capOk=true) (f:Int→Option Bool) (f_h:∀ (a0:Int) (q:Bool),f a0=some q→SpecR Tryz.prog f_f ([.v (.int .i64 a0)]++f_c) (.v (.bool q))) (r:Bool) (hH:slices_ContainsFunc_int_p sA f=some r):SpecR Tryz.prog 101 [.s (List.map encInt sA),.f f_f f_c] (.v (.bool r)):=by
 have f_r:=cap_cfree f_k
 refine fn_ok T Tryz.func101 rfl (by decide) rfl ?_
 refine AW.seq (AW.region (AO.pu T ?_))
 refine AO.nil (AW.seq ?_)
 obtain ⟨x1,hx2,hH⟩:=bindE hH
 refine AW.region ?_
 iterate 2 refine AO.pu T ?_
 refine AO.val rfl rfl (callV_ok rfl rfl rfl (andT (allC rfl (allC f_r allN)) rfl) (slices_IndexFunc_int_ok _ f_f f_c f_k f f_h _ (hx2)) rfl) ?_
 iterate 2 refine AO.pu T ?_
 refine AO.nil (AW.ret ?_)
 have hR:=someE hH;subst hR
 exact retQ.i [] rfl (.c (.c .v))

def impl_behindStep_c1_p (skater:Int) (a:Event):Option Bool :=
  (impl_isScored_p a skater).bind fun x1 =>
  some (!x1)
theorem impl_behindStep_c1_ok (skater:Int) (a:Event) (r:Bool) (hH:impl_behindStep_c1_p skater a=some r):SpecR Tryz.prog 102 [skater,.q (encEvent a)] (.v (.bool r)):=by
 refine fn_ok T Tryz.func102 rfl (by decide) rfl ?_
 refine AW.seq (AW.region (AO.pu T ?_))
 refine AO.nil (AW.seq ?_)
 obtain ⟨x1,hx2,hH⟩:=bindE hH
 refine AW.region (AO.pu T (d:=.g [a.segments,a.size,a.key,.s (List.map encEntrant a.entrants),.s (List.map encInt a.gone),a.segment,.s (List.map encInt a.order),.s (List.map encResult a.results)]) ?_)
 refine AO.pu T ?_
 refine AO.val rfl rfl (callV_ok rfl rfl rfl rfl (impl_isScored_ok _ _ _ (hx2)) rfl) ?_
 iterate 2 refine AO.pu T ?_
 refine AO.nil (AW.ret ?_)
 have hR:=someE hH;subst hR
 exact retQ.i [] rfl (.c (.c .v))

def impl_behindStep_p (e:Event):Option Event :=
  (opt (decide ((e.order.length:Int) > 0)) default (slices_ContainsFunc_int_p e.order (fun a0=>impl_behindStep_c1_p a0 e))).bind fun x1 =>
  cond (decide ((e.order.length:Int) > 0) && (!x1))
    (some (Event.mk e.segments e.size e.key e.entrants e.gone (w64 (e.segment+1)) [] e.results))
    (some e)
theorem impl_behindStep_ok (e:Event) (r:Event) (hH:impl_behindStep_p e=some r):SpecM Tryz.prog 60 [.g (encEventO e)] [.u] (.g (encEventO r)):=by
 refine fn_okM T Tryz.func60 rfl (by decide) rfl rfl ?_
 intro L
 show AW _ _ _ (⟨[(0,.g [e.segments,e.size,e.key,.R 1,.R 2,e.segment,.R 3,.R 4])],[(4,.row 2 (List.map encResultO e.results)),(3,.row 1 (List.map encInt e.order)),(2,.row 1 (List.map encInt e.gone)),(1,.row 2 (List.map encEntrant e.entrants))],21,[(4,L 4),(3,L 3),(2,L 2),(1,L 1)]⟩:St)
 refine AW.seq (AW.region (AO.step rfl (box_ok T rfl 5 rfl rfl rfl rfl) ?_))
 refine AO.step rfl (alloc_ok T rfl 6 rfl rfl rfl rfl rfl) ?_
 refine AO.nil ?_
 iterate 2 refine AW.seq ?_
 obtain ⟨x1,hx2,hH⟩:=bindE hH
 refine AW.region ?_
 iterate 2 refine AO.pu T ?_
 refine AO.val rfl rfl (len_row_ok T rfl rfl rfl rfl) ?_
 iterate 2 refine AO.pu T ?_
 refine AO.pureG T [] rfl trivial rfl rfl ?_
 refine AO.pureG T [8] rfl ⟨fun h=>h,trivial⟩ rfl rfl ?_
 refine AO.pureG T [] rfl trivial rfl rfl ?_
 refine AO.guard [9,10] rfl ⟨fun h=>h,fun h=>h,trivial⟩ (fun hg=>callLV_ok rfl rfl rfl (es:=[.s (List.map encInt e.order),.f 102 [.q [e.segments,e.size,e.key,.s (List.map encEntrant e.entrants),.s (List.map encInt e.gone),e.segment,.s (List.map encInt e.order),.s (List.map encResult e.results)]]]) ⟨(.rowR rfl (.map fun y=>.vs rfl)),lend_f (LendL.cons (lend_p rfl (LendL.cons (.free rfl) (LendL.cons (.free rfl) (LendL.cons (.free rfl) (LendL.cons ((.rowR rfl (.map fun y=>.vs rfl))) (LendL.cons ((.rowR rfl (.map fun y=>.vs rfl))) (LendL.cons (.free rfl) (LendL.cons ((.rowR rfl (.map fun y=>.vs rfl))) (LendL.cons ((.rowR rfl (.map fun y=>frzResult y))) LendL.nil))))))))) LendL.nil),trivial⟩ (slices_ContainsFunc_int_ok _ 102 [.q [e.segments,e.size,e.key,.s (List.map encEntrant e.entrants),.s (List.map encInt e.gone),e.segment,.s (List.map encInt e.order),.s (List.map encResult e.results)]] rfl (fun a0=>impl_behindStep_c1_p a0 e) (fun a0 q h=>impl_behindStep_c1_ok a0 e q h) _ (optT hx2 hg)) (zfree_v _) rfl) rfl ?_
 refine AO.pureG T [11] rfl ⟨fun h=>h,trivial⟩ rfl rfl ?_
 refine AO.val rfl rfl (pick_and rfl rfl rfl rfl) ?_
 refine AO.nil (AW.cond (b:=(decide ((e.order.length:Int) > 0) && (!x1))) rfl (fun hc=>?_) (fun hc=>?_))
 replace hH:=condT hc hH
 refine AW.seq (AW.region ?_)
 iterate 2 refine AO.pu T ?_
 refine AO.val rfl rfl (arw_ok rfl rfl rfl rfl) ?_
 refine AO.pu T ?_
 refine AO.se T [e.segments,e.size,e.key,.R 1,.R 2,w64 (e.segment+1),.R 3,.R 4] ?_
 refine AO.nil (AW.region ?_)
 refine AO.step rfl (mk0_ok T rfl rfl rfl rfl) ?_
 refine AO.pu T ?_
 refine AO.se T [e.segments,e.size,e.key,.R 1,.R 2,w64 (e.segment+1),.w 1 [],.R 4] ?_
 refine AO.nil (AW.seq (AW.region ?_))
 refine AO.pu T (d:=.g [e.segments,e.size,e.key,.R 1,.R 2,w64 (e.segment+1),.w 1 [],.R 4]) ?_
 refine AO.se T [e.segments,e.size,e.key,.R 1,.R 2,w64 (e.segment+1),.w 1 [],.R 4] ?_
 refine AO.nil (AW.ret ?_)
 have hR:=someE hH;subst hR
 exact ⟨trivial,rfl,_,[1,2,4],[],rfl,expLG_cons (.c .u) (expLG_nil),.c (.g (expLC_cons .v (expLC_cons .v (expLC_cons .v (expLC_cons (.rowR rfl) (expLC_cons (.rowR rfl) (expLC_cons .v (expLC_cons .nil (expLC_cons (.rowR rfl) (expLC_nil)))))))))),by decide⟩
 replace hH:=condF hc hH
 refine AW.skip (AW.seq (AW.region ?_))
 refine AO.pu T (d:=.g [e.segments,e.size,e.key,.R 1,.R 2,e.segment,.R 3,.R 4]) ?_
 refine AO.se T [e.segments,e.size,e.key,.R 1,.R 2,e.segment,.R 3,.R 4] ?_
 refine AO.nil (AW.ret ?_)
 have hR:=someE hH;subst hR
 exact ⟨trivial,rfl,_,[1,2,3,4],[],rfl,expLG_cons (.c .u) (expLG_nil),.c (.g (expLC_cons .v (expLC_cons .v (expLC_cons .v (expLC_cons (.rowR rfl) (expLC_cons (.rowR rfl) (expLC_cons .v (expLC_cons (.rowR rfl) (expLC_cons (.rowR rfl) (expLC_nil)))))))))),by decide⟩

def impl_GiveScore_l1 (e:Event) (score:Int) (x5:Event) (x7:Int):Nat→List Result→List Result→Int→Option ((Event × Bool))
  | 0,_,_,_=>none
  | k9+1,v25,v26,v27 =>
    cond (decide (v27 < (x5.results.length:Int)))
      ((getI v26 v27).bind fun x29 =>
      cond (x29.skater == x7)
        ((getI (v26.set v27.toNat x29) v27).bind fun x31 =>
        (getI x31.scores e.segment).bind fun x33 =>
        impl_GiveScore_l1 e score x5 x7 k9 ((v26.set v27.toNat x29).set v27.toNat (Result.mk x31.skater (x31.scores.set e.segment.toNat score))) ((v26.set v27.toNat x29).set v27.toNat (Result.mk x31.skater (x31.scores.set e.segment.toNat score))) (w64 (v27+1)))
        (impl_GiveScore_l1 e score x5 x7 k9 (v26.set v27.toNat x29) (v26.set v27.toNat x29) (w64 (v27+1))))
      ((impl_behindStep_p (Event.mk x5.segments x5.size x5.key x5.entrants x5.gone x5.segment x5.order v26)).bind fun x35 =>
      some (x35,true))
def impl_GiveScore_p (fuel:Nat) (e:Event) (score:Int):Option (Event × Bool) :=
  (impl_isRunning_p e).bind fun x1 =>
  (opt (!((!x1) || ((e.order.length:Int) == 0))) default (impl_within_p score 0 100000)).bind fun x3 =>
  cond (((!x1) || ((e.order.length:Int) == 0)) || (!x3))
    (some ((Event.mk 0 0 0 [] [] 0 [] []),false))
    ((impl_copyEvent_p e).bind fun x5 =>
    (impl_nextSkater_p e).bind fun x7 =>
    impl_GiveScore_l1 e score x5 x7 fuel x5.results x5.results 0)
theorem impl_GiveScore_ok (fuel:Nat) (e:Event) (score:Int) (r:(Event × Bool)) (hH:impl_GiveScore_p fuel e score=some r):SpecR Tryz.prog 18 [.g (encEvent e),score] (.t [.g (encEventO r.1),.v (.bool r.2)]):=by
 refine fn_ok T Tryz.func18 rfl (by decide) rfl ?_
 refine AW.seq (AW.region (AO.step rfl (box_ok T rfl 1 rfl rfl rfl rfl) ?_))
 refine AO.step rfl (alloc_ok T rfl 2 rfl rfl rfl rfl rfl) ?_
 refine AO.pu T ?_
 refine AO.nil ?_
 iterate 2 refine AW.seq ?_
 obtain ⟨x1,hx2,hH⟩:=bindE hH
 obtain ⟨x3,hx4,hH⟩:=bindE hH
 refine AW.region (AO.pu T (d:=.g [e.segments,e.size,e.key,.s (List.map encEntrant e.entrants),.s (List.map encInt e.gone),e.segment,.s (List.map encInt e.order),.s (List.map encResult e.results)]) ?_)
 refine AO.val rfl rfl (callV_ok rfl rfl rfl rfl (impl_isRunning_ok _ _ (hx2)) rfl) ?_
 iterate 2 refine AO.pu T ?_
 refine AO.pureG T [] rfl trivial rfl rfl ?_
 refine AO.pureG T [14] rfl ⟨fun h=>h,trivial⟩ rfl rfl ?_
 refine AO.guard [15] rfl ⟨fun h=>h,trivial⟩ (fun hg=>len_map_ok T rfl rfl rfl) rfl ?_
 refine AO.pureG T [16] rfl ⟨fun h=>h,trivial⟩ rfl rfl ?_
 refine AO.val rfl rfl (pick_or rfl rfl rfl rfl) ?_
 refine AO.pu T ?_
 refine AO.pureG T [] rfl trivial rfl rfl ?_
 refine AO.guard [20] rfl ⟨fun h=>h,trivial⟩ (fun hg=>callV_ok rfl rfl rfl rfl (impl_within_ok _ _ _ _ (optT hx4 hg)) rfl) rfl ?_
 refine AO.pureG T [21] rfl ⟨fun h=>h,trivial⟩ rfl rfl ?_
 refine AO.val rfl rfl (pick_or rfl rfl rfl rfl) ?_
 refine AO.nil (AW.cond (b:=(((!x1) || ((e.order.length:Int) == 0)) || (!x3))) rfl (fun hc=>?_) (fun hc=>?_))
 replace hH:=condT hc hH
 refine AW.seq (AW.region (AO.pu T (d:=.g [(0:Int),(0:Int),(0:Int),.w 0 [],.w 0 [],(0:Int),.w 0 [],.w 0 []]) ?_))
 refine AO.se T [(0:Int),(0:Int),(0:Int),.w 0 [],.w 0 [],(0:Int),.w 0 [],.w 0 []] ?_
 refine AO.pu T ?_
 refine AO.nil (AW.ret ?_)
 have hR:=someE hH;subst hR
 exact retQ.i [] rfl (.t (expLG_cons (.g (expLC_cons .v (expLC_cons .v (expLC_cons .v (expLC_cons .nil (expLC_cons .nil (expLC_cons .v (expLC_cons .nil (expLC_cons .nil (expLC_nil)))))))))) (expLG_cons (.c .v) (expLG_nil))))
 replace hH:=condF hc hH
 refine AW.skip (AW.seq ?_)
 obtain ⟨x5,hx6,hH⟩:=bindE hH
 obtain ⟨x7,hx8,hH⟩:=bindE hH
 refine AW.drawn 5 3 [] mix (by kernel_rfl) rfl ?_
 refine AD.pure T (d:=.g [e.segments,e.size,e.key,.s (List.map encEntrant e.entrants),.s (List.map encInt e.gone),e.segment,.s (List.map encInt e.order),.s (List.map encResult e.results)]) rfl rfl rfl ?_
 refine AD.q (FStep.call rfl rfl rfl rfl rfl (impl_copyEvent_ok _ _ (hx6)) rfl rfl) (impT_names _ _) (impT_le _ _) rfl ?_
 refine AD.pure T (d:=.g [e.segments,e.size,e.key,.s (List.map encEntrant e.entrants),.s (List.map encInt e.gone),e.segment,.s (List.map encInt e.order),.s (List.map encResult e.results)]) rfl rfl rfl ?_
 refine AD.val rfl rfl (callV_ok rfl rfl rfl rfl (impl_nextSkater_ok _ _ (hx8)) rfl) ?_
 refine AD.q (FStep.alloc T rfl rfl rfl rfl rfl rfl) (by simp [namesIn]) (Nat.le_succ _) rfl ?_
 refine AD.nil (AO.se T [x5.segments,x5.size,x5.key,.R 3,.R 4,x5.segment,.R 5,.R 6] ?_)
 refine AO.pu T ?_
 refine AO.nil (AW.le (Le.ct 0 0 (σ':=(⟨[(1,score),(2,.p 1 0),(4,.p 2 0),(6,.p 7 0),(7,x7)],[(1,.box [e.segments,e.size,e.key,.s (List.map encEntrant e.entrants),.s (List.map encInt e.gone),e.segment,.s (List.map encInt e.order),.s (List.map encResult e.results)]),(2,.box [(0:Int),(0:Int),(0:Int),.w 0 [],.w 0 [],(0:Int),.w 0 [],.w 0 []]),(3,.row 2 (List.map encEntrant x5.entrants)),(4,.row 1 (List.map encInt x5.gone)),(5,.row 1 (List.map encInt x5.order)),(6,.row 2 (List.map encResultO x5.results)),(7,.box [x5.segments,x5.size,x5.key,.R 3,.R 4,x5.segment,.R 5,.R 6])],54,[]⟩:St))) ?_)
 iterate 2 refine AW.seq ?_
 refine AW.region ?_
 iterate 2 refine AO.pu T ?_
 refine AO.val rfl rfl (len_row_ok T rfl rfl rfl rfl) ?_
 refine AO.pu T ?_
 refine AO.nil (AW.block ?_)
 refine AW.loopS (fun s:Nat × (List Result) × (List Result) × Int=>(⟨[(1,score),(2,.p 1 0),(4,.p 2 0),(6,.p 7 0),(7,x7),(30,.R 6),(31,(x5.results.length:Int)),(32,s.2.2.2)],[(1,.box [e.segments,e.size,e.key,.s (List.map encEntrant e.entrants),.s (List.map encInt e.gone),e.segment,.s (List.map encInt e.order),.s (List.map encResult e.results)]),(2,.box [(0:Int),(0:Int),(0:Int),.w 0 [],.w 0 [],(0:Int),.w 0 [],.w 0 []]),(3,.row 2 (List.map encEntrant x5.entrants)),(4,.row 1 (List.map encInt x5.gone)),(5,.row 1 (List.map encInt x5.order)),(6,.row 2 (List.map encResultO s.2.2.1)),(7,.box [x5.segments,x5.size,x5.key,.R 3,.R 4,x5.segment,.R 5,.R 6])],54,[]⟩:St)) (fun s=>impl_GiveScore_l1 e score x5 x7 s.1 s.2.1 s.2.2.1 s.2.2.2=some r) (fun s=>s.1) (fuel,x5.results,x5.results,0) hH ?_ ?_
 exact Le.ct 0 0
 rintro ⟨k9,v25,v26,v27⟩ hH
 replace hH:impl_GiveScore_l1 e score x5 x7 k9 v25 v26 v27=some r:=hH
 try dsimp only
 rcases k9 with _ | k9
 cases (show none=some _ from hH)
 rw [impl_GiveScore_l1] at hH
 refine AW.seq (AW.region (AO.pu T ?_))
 refine AO.nil (AW.seq (AW.cond (b:=decide (v27 < (x5.results.length:Int))) rfl (fun hc=>?_) (fun hc=>?_)))
 replace hH:=condT hc hH
 refine AW.skip (AW.seq ?_)
 refine AW.block (AW.seq ?_)
 obtain ⟨x29,hx30,hH⟩:=bindE hH
 refine AW.le (Le.openM 6 v27.toNat 1 14 rfl (getI_get (hx30)) rfl rfl) ?_
 refine AW.region (AO.pu T ?_)
 refine AO.val rfl rfl (ix_lent_ok T rfl rfl rfl rfl rfl rfl (hx30)) ?_
 refine AO.val rfl rfl (load_lentS_ok T rfl rfl rfl rfl rfl (getI_get (hx30)) rfl rfl rfl) ?_
 refine AO.step rfl (alloc_ok T rfl 15 rfl rfl rfl rfl rfl) ?_
 refine AO.pu T ?_
 refine AO.se T [x29.skater,.R 14] ?_
 refine AO.nil (AW.seq (AW.region ?_))
 iterate 4 refine AO.pu T ?_
 refine AO.le (Le.closeM 6 v27.toNat 1 14 rfl rfl (getI_get (hx30)) rfl (u':=x29) rfl) ?_
 refine AO.nil (AW.cond (b:=(x29.skater == x7)) rfl (fun hc=>?_) (fun hc=>?_))
 replace hH:=condT hc hH
 obtain ⟨x31,hx32,hH⟩:=bindE hH
 obtain ⟨x33,hx34,hH⟩:=bindE hH
 refine AW.le (Le.openM 6 v27.toNat 1 16 rfl (getI_get (hx32)) rfl rfl) ?_
 refine AW.drawn 9 17 [] mix (by kernel_rfl) rfl ?_
 iterate 3 refine AD.pure T rfl rfl rfl ?_
 refine AD.val rfl rfl (ix_lent_ok T rfl rfl rfl rfl rfl rfl (hx32)) ?_
 refine AD.pure T rfl rfl rfl ?_
 refine AD.val rfl rfl (load_lent_ok T rfl rfl rfl rfl rfl) ?_
 iterate 3 refine AD.pure T rfl rfl rfl ?_
 refine AD.nil (AO.val rfl rfl (ix_row_ok T rfl rfl rfl rfl rfl rfl (hx34)) ?_)
 refine AO.step rfl (store_row_ok T rfl rfl rfl rfl rfl (getI_get (hx34)) rfl rfl rfl rfl (u':=score) rfl rfl) ?_
 refine AO.le (Le.closeM 6 v27.toNat 1 16 rfl rfl (getI_get (hx32)) rfl (u':=(Result.mk x31.skater (x31.scores.set e.segment.toNat score))) rfl) ?_
 refine AO.nil (AW.region ?_)
 refine AO.val rfl rfl (arw_ok rfl rfl rfl rfl) ?_
 refine AO.pu T ?_
 refine AO.nil ?_
 refine ⟨(k9,((v26.set v27.toNat x29).set v27.toNat (Result.mk x31.skater (x31.scores.set e.segment.toNat score))),((v26.set v27.toNat x29).set v27.toNat (Result.mk x31.skater (x31.scores.set e.segment.toNat score))),w64 (v27+1)),hH,Nat.lt_succ_self _,?_⟩
 exact Le.ct 0 0
 replace hH:=condF hc hH
 refine AW.skip (AW.region ?_)
 refine AO.val rfl rfl (arw_ok rfl rfl rfl rfl) ?_
 refine AO.pu T ?_
 refine AO.nil ?_
 refine ⟨(k9,(v26.set v27.toNat x29),(v26.set v27.toNat x29),w64 (v27+1)),hH,Nat.lt_succ_self _,?_⟩
 exact Le.ct 0 0
 replace hH:=condF hc hH
 refine AW.exit (AW.seq ?_)
 obtain ⟨x35,hx36,hH⟩:=bindE hH
 refine AW.region (AO.pu T (d:=.g [x5.segments,x5.size,x5.key,.R 3,.R 4,x5.segment,.R 5,.R 6]) ?_)
 refine AO.step rfl (callM_ok rfl 17 rfl rfl (es:=[.g (encEventO (Event.mk x5.segments x5.size x5.key x5.entrants x5.gone x5.segment x5.order v26))]) (outs:=[.u]) (ids:=[3,4,5,6]) (by exact expLG_cons (.g (expLC_cons .v (expLC_cons .v (expLC_cons .v (expLC_cons (.rowR rfl) (expLC_cons (.rowR rfl) (expLC_cons .v (expLC_cons (.rowR rfl) (expLC_cons (.rowR rfl) (expLC_nil)))))))))) (expLG_nil)) (by decide) (.inr (by exact (show ([]:List Nat).Nodup∧∀ i ∈ ([]:List Nat),i ∈ ([3,4,5,6]:List Nat) from by decide))) (by rfl) (impl_behindStep_ok _ _ (hx36)) rfl (by rfl) rfl) ?_
 refine AO.se T [x35.segments,x35.size,x35.key,.R 17,.R 18,x35.segment,.R 19,.R 20] ?_
 refine AO.pu T ?_
 refine AO.nil (AW.ret ?_)
 have hR:=someE hH;subst hR
 exact retQ.i [17,18,19,20] rfl (.t (expLG_cons (.g (expLC_cons .v (expLC_cons .v (expLC_cons .v (expLC_cons (.rowR rfl) (expLC_cons (.rowR rfl) (expLC_cons .v (expLC_cons (.rowR rfl) (expLC_cons (.rowR rfl) (expLC_nil)))))))))) (expLG_cons (.c .v) (expLG_nil))))

def spec_GiveScore_p (fuel:Nat) (e:Event) (score:Int):Option (Event × Bool) :=
  (spec_evAsked_p fuel e (Step.mk 4 0 score)).bind fun x1 =>
  some ((Event.mk x1.1.segments x1.1.size x1.1.key x1.1.entrants x1.1.gone x1.1.segment x1.1.order x1.1.results),x1.2)
theorem spec_GiveScore_ok (fuel:Nat) (e:Event) (score:Int) (r:(Event × Bool)) (hH:spec_GiveScore_p fuel e score=some r):SpecR Tryz.prog 19 [.g (encEvent e),score] (.t [.g (encEvent r.1),.v (.bool r.2)]):=by
 refine fn_ok T Tryz.func19 rfl (by decide) rfl ?_
 refine AW.seq (AW.region (AO.step rfl (box_ok T rfl 1 rfl rfl rfl rfl) ?_))
 refine AO.step rfl (alloc_ok T rfl 2 rfl rfl rfl rfl rfl) ?_
 refine AO.pu T ?_
 refine AO.nil (AW.seq ?_)
 obtain ⟨x1,hx2,hH⟩:=bindE hH
 refine AW.region (AO.pu T (d:=.g [e.segments,e.size,e.key,.s (List.map encEntrant e.entrants),.s (List.map encInt e.gone),e.segment,.s (List.map encInt e.order),.s (List.map encResult e.results)]) ?_)
 refine AO.pu T ?_
 refine AO.pu T (d:=.g [(4:Int),(0:Int),score]) ?_
 refine AO.val rfl rfl (callV_ok rfl rfl rfl rfl (spec_evAsked_ok fuel _ _ _ (hx2)) rfl) ?_
 refine AO.pu T (d:=.g [x1.1.segments,x1.1.size,x1.1.key,.s (List.map encEntrant x1.1.entrants),.s (List.map encInt x1.1.gone),x1.1.segment,.s (List.map encInt x1.1.order),.s (List.map encResult x1.1.results)]) ?_
 refine AO.pu T ?_
 refine AO.se T [x1.1.segments,x1.1.size,x1.1.key,.s (List.map encEntrant x1.1.entrants),.s (List.map encInt x1.1.gone),x1.1.segment,.s (List.map encInt x1.1.order),.s (List.map encResult x1.1.results)] ?_
 refine AO.pu T ?_
 refine AO.nil (AW.ret ?_)
 have hR:=someE hH;subst hR
 exact retQ.i [] rfl (.t (expLG_cons (.g (expLC_cons .v (expLC_cons .v (expLC_cons .v (expLC_cons .s (expLC_cons .s (expLC_cons .v (expLC_cons .s (expLC_cons .s (expLC_nil)))))))))) (expLG_cons (.c .v) (expLG_nil))))

def spec_DrawEnterSkater_l1 (fuel:Nat) (x9:(L1Cur × Int)):Nat→Int→Int→Int→List Entrant→List Int→Int→List Int→List Result→Int→Option ((Event × Entrant))
  | 0,_,_,_,_,_,_,_,_,_=>none
  | k11+1,v25,v26,v27,v28,v29,v30,v31,v32,v33 =>
    cond (decide (v33 < (w64 (39+x9.2))))
      ((spec_evEnter_p fuel (Event.mk v25 v26 v27 v28 v29 v30 v31 v32) (Entrant.mk (w64 (10+v33)) 0)).bind fun x35 =>
      spec_DrawEnterSkater_l1 fuel x9 k11 x35.1.segments x35.1.size x35.1.key x35.1.entrants x35.1.gone x35.1.segment x35.1.order x35.1.results (w64 (v33+1)))
      ((spec_l1Cur_among_p (L1Cur.mk x9.1.code x9.1.at' x9.1.seed) ([1,5,11,999,0,1000]:List Int)).bind fun x37 =>
      (spec_l1Cur_among_p (L1Cur.mk x37.1.code x37.1.at' x37.1.seed) ([0,1,999,1000,(-1)]:List Int)).bind fun x39 =>
      some ((Event.mk v25 v26 v27 v28 v29 v30 v31 v32),(Entrant.mk x37.2 x39.2)))
def spec_DrawEnterSkater_l2 (fuel:Nat) (x5:(L1Cur × Int)) (x7:(L1Cur × Bool)):Nat→Int→Int→Int→List Entrant→List Int→Int→List Int→List Result→Int→Option ((Event × Entrant))
  | 0,_,_,_,_,_,_,_,_,_=>none
  | k41+1,v55,v56,v57,v58,v59,v60,v61,v62,v63 =>
    cond (decide (v63 < x5.2))
      ((spec_evEnter_p fuel (Event.mk v55 v56 v57 v58 v59 v60 v61 v62) (Entrant.mk (w64 (10+v63)) 0)).bind fun x65 =>
      spec_DrawEnterSkater_l2 fuel x5 x7 k41 x65.1.segments x65.1.size x65.1.key x65.1.entrants x65.1.gone x65.1.segment x65.1.order x65.1.results (w64 (v63+1)))
      ((spec_l1Cur_among_p (L1Cur.mk x7.1.code x7.1.at' x7.1.seed) ([1,5,11,999,0,1000]:List Int)).bind fun x67 =>
      (spec_l1Cur_among_p (L1Cur.mk x67.1.code x67.1.at' x67.1.seed) ([0,1,999,1000,(-1)]:List Int)).bind fun x69 =>
      some ((Event.mk v55 v56 v57 v58 v59 v60 v61 v62),(Entrant.mk x67.2 x69.2)))
def spec_DrawEnterSkater_p (fuel:Nat) (code:List Int):Option (Event × Entrant) :=
  (spec_l1Cur_event_p fuel (L1Cur.mk code 0 0)).bind fun x1 =>
  (spec_l1Cur_one_p (L1Cur.mk x1.1.code x1.1.at' x1.1.seed) 3).bind fun x3 =>
  cond x3.2
    ((spec_l1Cur_pick_p (L1Cur.mk x3.1.code x3.1.at' x3.1.seed) 5).bind fun x5 =>
    (spec_l1Cur_one_p (L1Cur.mk x5.1.code x5.1.at' x5.1.seed) 4).bind fun x7 =>
    cond x7.2
      ((spec_l1Cur_pick_p (L1Cur.mk x7.1.code x7.1.at' x7.1.seed) 2).bind fun x9 =>
      spec_DrawEnterSkater_l1 fuel x9 fuel 2 3 0 [] [] 0 [] [] 0)
      (spec_DrawEnterSkater_l2 fuel x5 x7 fuel 2 3 0 [] [] 0 [] [] 0))
    ((spec_l1Cur_among_p (L1Cur.mk x3.1.code x3.1.at' x3.1.seed) ([1,5,11,999,0,1000]:List Int)).bind fun x71 =>
    (spec_l1Cur_among_p (L1Cur.mk x71.1.code x71.1.at' x71.1.seed) ([0,1,999,1000,(-1)]:List Int)).bind fun x73 =>
    some ((Event.mk x1.2.segments x1.2.size x1.2.key x1.2.entrants x1.2.gone x1.2.segment x1.2.order x1.2.results),(Entrant.mk x71.2 x73.2)))
theorem spec_DrawEnterSkater_ok (fuel:Nat) (code:List Int) (r:(Event × Entrant)) (hH:spec_DrawEnterSkater_p fuel code=some r):SpecR Tryz.prog 20 [.s (List.map encInt_u8 code)] (.t [.g (encEvent r.1),.g (encEntrant r.2)]):=by
 refine fn_ok T Tryz.func20 rfl (by decide) rfl ?_
 refine AW.seq (AW.region (AO.step rfl (alloc_ok T rfl 1 rfl rfl rfl rfl rfl) ?_))
 refine AO.step rfl (alloc_ok T rfl 2 rfl rfl rfl rfl rfl) ?_
 refine AO.nil (AW.seq (AW.region ?_))
 refine AO.pu T ?_
 refine AO.pu T (d:=.g [.s (List.map encInt_u8 code),(0:Int),.v (.int .u64 0)]) ?_
 refine AO.step rfl (box_ok T rfl 3 rfl rfl rfl rfl) ?_
 refine AO.pu T ?_
 refine AO.nil (AW.seq ?_)
 obtain ⟨x1,hx2,hH⟩:=bindE hH
 refine AW.region (AO.pu T ?_)
 refine AO.step rfl (callM_ok rfl 4 rfl rfl (es:=[.pw (encL1Cur (L1Cur.mk code 0 0))]) (outs:=[.pw (encL1Cur x1.1)]) (ids:=[3]) (by exact expLG_cons (.c (.box rfl rfl)) (expLG_nil)) (by decide) (.inl (by rfl)) (by rfl) (spec_l1Cur_event_ok fuel _ _ (hx2)) rfl (by rfl) rfl) ?_
 refine AO.step rfl (alloc_ok T rfl 4 rfl rfl rfl rfl rfl) ?_
 refine AO.se T [x1.2.segments,x1.2.size,x1.2.key,.s (List.map encEntrant x1.2.entrants),.s (List.map encInt x1.2.gone),x1.2.segment,.s (List.map encInt x1.2.order),.s (List.map encResult x1.2.results)] ?_
 refine AO.nil ?_
 iterate 2 refine AW.seq ?_
 obtain ⟨x3,hx4,hH⟩:=bindE hH
 refine AW.region (AO.pu T ?_)
 refine AO.step rfl (callM_ok rfl 5 rfl rfl (es:=[.pw (encL1Cur (L1Cur.mk x1.1.code x1.1.at' x1.1.seed)),.v (.int .i64 3)]) (outs:=[.pw (encL1Cur x3.1),.u]) (ids:=[3]) (by exact expLG_cons (.c (.box rfl rfl)) (expLG_cons (.c .v) (expLG_nil))) (by decide) (.inl (by rfl)) (by rfl) (spec_l1Cur_one_ok _ _ _ (hx4)) rfl (by rfl) rfl) ?_
 refine AO.nil (AW.cond (b:=x3.2) rfl (fun hc=>?_) (fun hc=>?_))
 replace hH:=condT hc hH
 refine AW.seq (AW.region (AO.pu T (d:=.g [(2:Int),(3:Int),(0:Int),.w 0 [],.w 0 [],(0:Int),.w 0 [],.w 0 []]) ?_))
 refine AO.se T [(2:Int),(3:Int),(0:Int),.w 0 [],.w 0 [],(0:Int),.w 0 [],.w 0 []] ?_
 refine AO.nil (AW.seq ?_)
 obtain ⟨x5,hx6,hH⟩:=bindE hH
 refine AW.region (AO.pu T ?_)
 refine AO.step rfl (callM_ok rfl 5 rfl rfl (es:=[.pw (encL1Cur (L1Cur.mk x3.1.code x3.1.at' x3.1.seed)),.v (.int .i64 5)]) (outs:=[.pw (encL1Cur x5.1),.u]) (ids:=[3]) (by exact expLG_cons (.c (.box rfl rfl)) (expLG_cons (.c .v) (expLG_nil))) (by decide) (.inl (by rfl)) (by rfl) (spec_l1Cur_pick_ok _ _ _ (hx6)) rfl (by rfl) rfl) ?_
 refine AO.pu T ?_
 refine AO.nil ?_
 iterate 2 refine AW.seq ?_
 obtain ⟨x7,hx8,hH⟩:=bindE hH
 refine AW.region (AO.pu T ?_)
 refine AO.step rfl (callM_ok rfl 5 rfl rfl (es:=[.pw (encL1Cur (L1Cur.mk x5.1.code x5.1.at' x5.1.seed)),.v (.int .i64 4)]) (outs:=[.pw (encL1Cur x7.1),.u]) (ids:=[3]) (by exact expLG_cons (.c (.box rfl rfl)) (expLG_cons (.c .v) (expLG_nil))) (by decide) (.inl (by rfl)) (by rfl) (spec_l1Cur_one_ok _ _ _ (hx8)) rfl (by rfl) rfl) ?_
 refine AO.nil (AW.cond (b:=x7.2) rfl (fun hc=>?_) (fun hc=>?_))
 replace hH:=condT hc hH
 obtain ⟨x9,hx10,hH⟩:=bindE hH
 refine AW.region (AO.pu T ?_)
 refine AO.step rfl (callM_ok rfl 5 rfl rfl (es:=[.pw (encL1Cur (L1Cur.mk x7.1.code x7.1.at' x7.1.seed)),.v (.int .i64 2)]) (outs:=[.pw (encL1Cur x9.1),.u]) (ids:=[3]) (by exact expLG_cons (.c (.box rfl rfl)) (expLG_cons (.c .v) (expLG_nil))) (by decide) (.inl (by rfl)) (by rfl) (spec_l1Cur_pick_ok _ _ _ (hx10)) rfl (by rfl) rfl) ?_
 refine AO.val rfl rfl (arw_ok rfl rfl rfl rfl) ?_
 refine AO.pu T ?_
 refine AO.nil (AW.seq (AW.region ?_))
 refine AO.pu T ?_
 refine AO.nil (AW.le (Le.ct 0 0 (σ':=(⟨[(2,.p 1 0),(3,.p 2 0),(4,.p 3 0),(5,.p 4 0),(6,w64 (39+x9.2)),(7,(0:Int))],[(1,.box [(0:Int),(0:Int),(0:Int),.w 0 [],.w 0 [],(0:Int),.w 0 [],.w 0 []]),(2,.box [(0:Int),(0:Int)]),(3,.box [.s (List.map encInt_u8 x9.1.code),x9.1.at',.v (.int .u64 x9.1.seed)]),(4,.box [(2:Int),(3:Int),(0:Int),.w 0 [],.w 0 [],(0:Int),.w 0 [],.w 0 []])],44,[]⟩:St))) ?_)
 refine AW.block (AW.loopS (fun s:Nat × Int × Int × Int × (List Entrant) × (List Int) × Int × (List Int) × (List Result) × Int=>(⟨[(2,.p 1 0),(3,.p 2 0),(4,.p 3 0),(5,.p 4 0),(6,w64 (39+x9.2)),(7,s.2.2.2.2.2.2.2.2.2)],[(1,.box [(0:Int),(0:Int),(0:Int),.w 0 [],.w 0 [],(0:Int),.w 0 [],.w 0 []]),(2,.box [(0:Int),(0:Int)]),(3,.box [.s (List.map encInt_u8 x9.1.code),x9.1.at',.v (.int .u64 x9.1.seed)]),(4,.box [s.2.1,s.2.2.1,s.2.2.2.1,.R 9,.R 10,s.2.2.2.2.2.2.1,.R 11,.R 12]),(9,.row 2 (List.map encEntrant s.2.2.2.2.1)),(10,.row 1 (List.map encInt s.2.2.2.2.2.1)),(11,.row 1 (List.map encInt s.2.2.2.2.2.2.2.1)),(12,.row 2 (List.map encResultO s.2.2.2.2.2.2.2.2.1))],44,[]⟩:St)) (fun s=>spec_DrawEnterSkater_l1 fuel x9 s.1 s.2.1 s.2.2.1 s.2.2.2.1 s.2.2.2.2.1 s.2.2.2.2.2.1 s.2.2.2.2.2.2.1 s.2.2.2.2.2.2.2.1 s.2.2.2.2.2.2.2.2.1 s.2.2.2.2.2.2.2.2.2=some r) (fun s=>s.1) (fuel,2,3,0,[],[],0,[],[],0) hH ?_ ?_)
 refine Le.trans (Le.voidBox 4 3 9 2 rfl rfl rfl rfl) ?_
 refine Le.trans (Le.voidBox 4 4 10 1 rfl rfl rfl rfl) ?_
 refine Le.trans (Le.voidBox 4 6 11 1 rfl rfl rfl rfl) ?_
 refine Le.trans (Le.voidBox 4 7 12 2 rfl rfl rfl rfl) ?_
 exact Le.ct 0 0
 rintro ⟨k11,v25,v26,v27,v28,v29,v30,v31,v32,v33⟩ hH
 replace hH:spec_DrawEnterSkater_l1 fuel x9 k11 v25 v26 v27 v28 v29 v30 v31 v32 v33=some r:=hH
 try dsimp only
 rcases k11 with _ | k11
 cases (show none=some _ from hH)
 rw [spec_DrawEnterSkater_l1] at hH
 iterate 2 refine AW.seq ?_
 refine AW.region ?_
 iterate 3 refine AO.pu T ?_
 refine AO.nil (AW.cond (b:=decide (v33 < (w64 (39+x9.2)))) rfl (fun hc=>?_) (fun hc=>?_))
 replace hH:=condT hc hH
 refine AW.skip (AW.seq ?_)
 refine AW.block ?_
 obtain ⟨x35,hx36,hH⟩:=bindE hH
 refine AW.region (AO.pu T (d:=.g [v25,v26,v27,.R 9,.R 10,v30,.R 11,.R 12]) ?_)
 refine AO.pu T ?_
 refine AO.val rfl rfl (arw_ok rfl rfl rfl rfl) ?_
 refine AO.pu T (d:=.g [w64 (10+v33),(0:Int)]) ?_
 refine AO.step rfl (callL_ok rfl 13 rfl rfl (es:=[.g (encEvent (Event.mk v25 v26 v27 v28 v29 v30 v31 v32)),.g (encEntrant (Entrant.mk (w64 (10+v33)) 0))]) (by exact ⟨lend_g (LendL.cons (.free rfl) (LendL.cons (.free rfl) (LendL.cons (.free rfl) (LendL.cons ((.rowR rfl (.map fun y=>.vs rfl))) (LendL.cons ((.rowR rfl (.map fun y=>.vs rfl))) (LendL.cons (.free rfl) (LendL.cons ((.rowR rfl (.map fun y=>.vs rfl))) (LendL.cons ((.rowR rfl (.map fun y=>frzResult y))) LendL.nil)))))))),.free rfl,trivial⟩) (spec_evEnter_ok fuel _ _ _ (hx36)) (zfree_t (zfl (.cons (zfree_g (zfl (.cons (zfree_v _) (.cons (zfree_v _) (.cons (zfree_v _) (.cons (zfree_map (fun y=>(.cons (zfree_v _) (.cons (zfree_v _) .nil)))) (.cons (zfree_map (fun y=>(.cons (zfree_v _) .nil))) (.cons (zfree_v _) (.cons (zfree_map (fun y=>(.cons (zfree_v _) .nil))) (.cons (zfree_map (fun y=>(.cons (zfree_v _) (.cons (zfree_map (fun y=>(.cons (zfree_v _) .nil))) .nil)))) .nil)))))))))) (.cons (zfree_v _) .nil)))) rfl rfl rfl) ?_
 refine AO.pu T ?_
 refine AO.pu T (d:=.g [x35.1.segments,x35.1.size,x35.1.key,.R 13,.R 14,x35.1.segment,.R 15,.R 16]) ?_
 refine AO.pu T ?_
 refine AO.se T [x35.1.segments,x35.1.size,x35.1.key,.R 13,.R 14,x35.1.segment,.R 15,.R 16] ?_
 refine AO.nil (AW.region ?_)
 refine AO.pu T ?_
 refine AO.val rfl rfl (arw_ok rfl rfl rfl rfl) ?_
 refine AO.pu T ?_
 refine AO.nil ?_
 refine ⟨(k11,x35.1.segments,x35.1.size,x35.1.key,x35.1.entrants,x35.1.gone,x35.1.segment,x35.1.order,x35.1.results,w64 (v33+1)),hH,Nat.lt_succ_self _,?_⟩
 refine Le.trans (Le.ct 13 9 (σ':=(⟨[(2,.p 1 0),(3,.p 2 0),(4,.p 3 0),(5,.p 4 0),(6,w64 (39+x9.2)),(7,w64 (v33+1))],[(1,.box [(0:Int),(0:Int),(0:Int),.w 0 [],.w 0 [],(0:Int),.w 0 [],.w 0 []]),(2,.box [(0:Int),(0:Int)]),(3,.box [.s (List.map encInt_u8 x9.1.code),x9.1.at',.v (.int .u64 x9.1.seed)]),(4,.box [x35.1.segments,x35.1.size,x35.1.key,.R 9,.R 14,x35.1.segment,.R 15,.R 16]),(9,.row 2 (List.map encEntrant x35.1.entrants)),(14,.row 1 (List.map encInt x35.1.gone)),(15,.row 1 (List.map encInt x35.1.order)),(16,.row 2 (List.map encResultO x35.1.results))],44,[]⟩:St))) ?_
 refine Le.trans (Le.ct 14 10 (σ':=(⟨[(2,.p 1 0),(3,.p 2 0),(4,.p 3 0),(5,.p 4 0),(6,w64 (39+x9.2)),(7,w64 (v33+1))],[(1,.box [(0:Int),(0:Int),(0:Int),.w 0 [],.w 0 [],(0:Int),.w 0 [],.w 0 []]),(2,.box [(0:Int),(0:Int)]),(3,.box [.s (List.map encInt_u8 x9.1.code),x9.1.at',.v (.int .u64 x9.1.seed)]),(4,.box [x35.1.segments,x35.1.size,x35.1.key,.R 9,.R 10,x35.1.segment,.R 15,.R 16]),(9,.row 2 (List.map encEntrant x35.1.entrants)),(10,.row 1 (List.map encInt x35.1.gone)),(15,.row 1 (List.map encInt x35.1.order)),(16,.row 2 (List.map encResultO x35.1.results))],44,[]⟩:St))) ?_
 refine Le.trans (Le.ct 15 11 (σ':=(⟨[(2,.p 1 0),(3,.p 2 0),(4,.p 3 0),(5,.p 4 0),(6,w64 (39+x9.2)),(7,w64 (v33+1))],[(1,.box [(0:Int),(0:Int),(0:Int),.w 0 [],.w 0 [],(0:Int),.w 0 [],.w 0 []]),(2,.box [(0:Int),(0:Int)]),(3,.box [.s (List.map encInt_u8 x9.1.code),x9.1.at',.v (.int .u64 x9.1.seed)]),(4,.box [x35.1.segments,x35.1.size,x35.1.key,.R 9,.R 10,x35.1.segment,.R 11,.R 16]),(9,.row 2 (List.map encEntrant x35.1.entrants)),(10,.row 1 (List.map encInt x35.1.gone)),(11,.row 1 (List.map encInt x35.1.order)),(16,.row 2 (List.map encResultO x35.1.results))],44,[]⟩:St))) ?_
 exact Le.ct 16 12
 replace hH:=condF hc hH
 refine AW.exit (AW.seq ?_)
 obtain ⟨x37,hx38,hH⟩:=bindE hH
 obtain ⟨x39,hx40,hH⟩:=bindE hH
 refine AW.drawn 9 17 [3,1] mix (by kernel_rfl) rfl ?_
 refine AD.pure T (d:=.g [v25,v26,v27,.R 9,.R 10,v30,.R 11,.R 12]) rfl rfl rfl ?_
 refine AD.pure T rfl rfl rfl ?_
 refine AD.val rfl rfl (mkF_ok T rfl rfl rfl rfl rfl rfl (f:=encInt) (l:=([1,5,11,999,0,1000]:List Int)) rfl rfl (fun _=>rfl) rfl rfl rfl) ?_
 refine AD.k rfl rfl (FStep.callM rfl rfl rfl rfl (es:=[.pw (encL1Cur (L1Cur.mk x9.1.code x9.1.at' x9.1.seed)),.s (([1,5,11,999,0,1000]:List Int).map encInt)]) (outs:=[.pw (encL1Cur x37.1),.u]) (ids:=[3]) (by exact expLG_cons (.c (.box rfl rfl)) (expLG_cons (.c .s) (expLG_nil))) (by decide) (.inl (by rfl)) (by rfl) (spec_l1Cur_among_ok _ _ _ (hx38)) rfl (by rfl) rfl) rfl rfl rfl ?_
 refine AD.pure T rfl rfl rfl ?_
 refine AD.val rfl rfl (mkF_ok T rfl rfl rfl rfl rfl rfl (f:=encInt) (l:=([0,1,999,1000,(-1)]:List Int)) rfl rfl (fun _=>rfl) rfl rfl rfl) ?_
 refine AD.k rfl rfl (FStep.callM rfl rfl rfl rfl (es:=[.pw (encL1Cur (L1Cur.mk x37.1.code x37.1.at' x37.1.seed)),.s (([0,1,999,1000,(-1)]:List Int).map encInt)]) (outs:=[.pw (encL1Cur x39.1),.u]) (ids:=[3]) (by exact expLG_cons (.c (.box rfl rfl)) (expLG_cons (.c .s) (expLG_nil))) (by decide) (.inl (by rfl)) (by rfl) (spec_l1Cur_among_ok _ _ _ (hx40)) rfl (by rfl) rfl) rfl rfl rfl ?_
 refine AD.pure T (d:=.g [x37.2,x39.2]) rfl rfl rfl ?_
 refine AD.k rfl rfl (FStep.store_p T rfl rfl rfl rfl rfl rfl rfl rfl rfl rfl rfl) rfl rfl rfl ?_
 refine AD.nil (AO.se T [x37.2,x39.2] ?_)
 refine AO.nil (AW.le (Le.freezeM 12 (g:=encResult) rfl (fun y=>frzResult y)) ?_)
 refine AW.le (Le.freezeM 11 (g:=encInt) rfl (fun y=>.vs rfl)) ?_
 refine AW.le (Le.freezeM 10 (g:=encInt) rfl (fun y=>.vs rfl)) ?_
 refine AW.le (Le.freezeM 9 (g:=encEntrant) rfl (fun y=>.vs rfl)) ?_
 refine AW.ret ?_
 have hR:=someE hH;subst hR
 exact retQ.i [] rfl (.t (expLG_cons (.g (expLC_cons .v (expLC_cons .v (expLC_cons .v (expLC_cons .s (expLC_cons .s (expLC_cons .v (expLC_cons .s (expLC_cons .s (expLC_nil)))))))))) (expLG_cons (.g (expLC_cons .v (expLC_cons .v (expLC_nil)))) (expLG_nil))))
 replace hH:=condF hc hH
 refine AW.skip (AW.seq (AW.region ?_))
 refine AO.pu T ?_
 refine AO.nil (AW.block ?_)
 refine AW.loopS (fun s:Nat × Int × Int × Int × (List Entrant) × (List Int) × Int × (List Int) × (List Result) × Int=>(⟨[(2,.p 1 0),(3,.p 2 0),(4,.p 3 0),(5,.p 4 0),(6,x5.2),(7,s.2.2.2.2.2.2.2.2.2)],[(1,.box [(0:Int),(0:Int),(0:Int),.w 0 [],.w 0 [],(0:Int),.w 0 [],.w 0 []]),(2,.box [(0:Int),(0:Int)]),(3,.box [.s (List.map encInt_u8 x7.1.code),x7.1.at',.v (.int .u64 x7.1.seed)]),(4,.box [s.2.1,s.2.2.1,s.2.2.2.1,.R 21,.R 22,s.2.2.2.2.2.2.1,.R 23,.R 24]),(21,.row 2 (List.map encEntrant s.2.2.2.2.1)),(22,.row 1 (List.map encInt s.2.2.2.2.2.1)),(23,.row 1 (List.map encInt s.2.2.2.2.2.2.2.1)),(24,.row 2 (List.map encResultO s.2.2.2.2.2.2.2.2.1))],44,[]⟩:St)) (fun s=>spec_DrawEnterSkater_l2 fuel x5 x7 s.1 s.2.1 s.2.2.1 s.2.2.2.1 s.2.2.2.2.1 s.2.2.2.2.2.1 s.2.2.2.2.2.2.1 s.2.2.2.2.2.2.2.1 s.2.2.2.2.2.2.2.2.1 s.2.2.2.2.2.2.2.2.2=some r) (fun s=>s.1) (fuel,2,3,0,[],[],0,[],[],0) hH ?_ ?_
 refine Le.trans (Le.voidBox 4 3 21 2 rfl rfl rfl rfl) ?_
 refine Le.trans (Le.voidBox 4 4 22 1 rfl rfl rfl rfl) ?_
 refine Le.trans (Le.voidBox 4 6 23 1 rfl rfl rfl rfl) ?_
 refine Le.trans (Le.voidBox 4 7 24 2 rfl rfl rfl rfl) ?_
 exact Le.ct 0 0
 rintro ⟨k41,v55,v56,v57,v58,v59,v60,v61,v62,v63⟩ hH
 replace hH:spec_DrawEnterSkater_l2 fuel x5 x7 k41 v55 v56 v57 v58 v59 v60 v61 v62 v63=some r:=hH
 try dsimp only
 rcases k41 with _ | k41
 cases (show none=some _ from hH)
 rw [spec_DrawEnterSkater_l2] at hH
 iterate 2 refine AW.seq ?_
 refine AW.region ?_
 iterate 3 refine AO.pu T ?_
 refine AO.nil (AW.cond (b:=decide (v63 < x5.2)) rfl (fun hc=>?_) (fun hc=>?_))
 replace hH:=condT hc hH
 refine AW.skip (AW.seq ?_)
 refine AW.block ?_
 obtain ⟨x65,hx66,hH⟩:=bindE hH
 refine AW.region (AO.pu T (d:=.g [v55,v56,v57,.R 21,.R 22,v60,.R 23,.R 24]) ?_)
 refine AO.pu T ?_
 refine AO.val rfl rfl (arw_ok rfl rfl rfl rfl) ?_
 refine AO.pu T (d:=.g [w64 (10+v63),(0:Int)]) ?_
 refine AO.step rfl (callL_ok rfl 25 rfl rfl (es:=[.g (encEvent (Event.mk v55 v56 v57 v58 v59 v60 v61 v62)),.g (encEntrant (Entrant.mk (w64 (10+v63)) 0))]) (by exact ⟨lend_g (LendL.cons (.free rfl) (LendL.cons (.free rfl) (LendL.cons (.free rfl) (LendL.cons ((.rowR rfl (.map fun y=>.vs rfl))) (LendL.cons ((.rowR rfl (.map fun y=>.vs rfl))) (LendL.cons (.free rfl) (LendL.cons ((.rowR rfl (.map fun y=>.vs rfl))) (LendL.cons ((.rowR rfl (.map fun y=>frzResult y))) LendL.nil)))))))),.free rfl,trivial⟩) (spec_evEnter_ok fuel _ _ _ (hx66)) (zfree_t (zfl (.cons (zfree_g (zfl (.cons (zfree_v _) (.cons (zfree_v _) (.cons (zfree_v _) (.cons (zfree_map (fun y=>(.cons (zfree_v _) (.cons (zfree_v _) .nil)))) (.cons (zfree_map (fun y=>(.cons (zfree_v _) .nil))) (.cons (zfree_v _) (.cons (zfree_map (fun y=>(.cons (zfree_v _) .nil))) (.cons (zfree_map (fun y=>(.cons (zfree_v _) (.cons (zfree_map (fun y=>(.cons (zfree_v _) .nil))) .nil)))) .nil)))))))))) (.cons (zfree_v _) .nil)))) rfl rfl rfl) ?_
 refine AO.pu T ?_
 refine AO.pu T (d:=.g [x65.1.segments,x65.1.size,x65.1.key,.R 25,.R 26,x65.1.segment,.R 27,.R 28]) ?_
 refine AO.pu T ?_
 refine AO.se T [x65.1.segments,x65.1.size,x65.1.key,.R 25,.R 26,x65.1.segment,.R 27,.R 28] ?_
 refine AO.nil (AW.region ?_)
 refine AO.pu T ?_
 refine AO.val rfl rfl (arw_ok rfl rfl rfl rfl) ?_
 refine AO.pu T ?_
 refine AO.nil ?_
 refine ⟨(k41,x65.1.segments,x65.1.size,x65.1.key,x65.1.entrants,x65.1.gone,x65.1.segment,x65.1.order,x65.1.results,w64 (v63+1)),hH,Nat.lt_succ_self _,?_⟩
 refine Le.trans (Le.ct 25 21 (σ':=(⟨[(2,.p 1 0),(3,.p 2 0),(4,.p 3 0),(5,.p 4 0),(6,x5.2),(7,w64 (v63+1))],[(1,.box [(0:Int),(0:Int),(0:Int),.w 0 [],.w 0 [],(0:Int),.w 0 [],.w 0 []]),(2,.box [(0:Int),(0:Int)]),(3,.box [.s (List.map encInt_u8 x7.1.code),x7.1.at',.v (.int .u64 x7.1.seed)]),(4,.box [x65.1.segments,x65.1.size,x65.1.key,.R 21,.R 26,x65.1.segment,.R 27,.R 28]),(21,.row 2 (List.map encEntrant x65.1.entrants)),(26,.row 1 (List.map encInt x65.1.gone)),(27,.row 1 (List.map encInt x65.1.order)),(28,.row 2 (List.map encResultO x65.1.results))],44,[]⟩:St))) ?_
 refine Le.trans (Le.ct 26 22 (σ':=(⟨[(2,.p 1 0),(3,.p 2 0),(4,.p 3 0),(5,.p 4 0),(6,x5.2),(7,w64 (v63+1))],[(1,.box [(0:Int),(0:Int),(0:Int),.w 0 [],.w 0 [],(0:Int),.w 0 [],.w 0 []]),(2,.box [(0:Int),(0:Int)]),(3,.box [.s (List.map encInt_u8 x7.1.code),x7.1.at',.v (.int .u64 x7.1.seed)]),(4,.box [x65.1.segments,x65.1.size,x65.1.key,.R 21,.R 22,x65.1.segment,.R 27,.R 28]),(21,.row 2 (List.map encEntrant x65.1.entrants)),(22,.row 1 (List.map encInt x65.1.gone)),(27,.row 1 (List.map encInt x65.1.order)),(28,.row 2 (List.map encResultO x65.1.results))],44,[]⟩:St))) ?_
 refine Le.trans (Le.ct 27 23 (σ':=(⟨[(2,.p 1 0),(3,.p 2 0),(4,.p 3 0),(5,.p 4 0),(6,x5.2),(7,w64 (v63+1))],[(1,.box [(0:Int),(0:Int),(0:Int),.w 0 [],.w 0 [],(0:Int),.w 0 [],.w 0 []]),(2,.box [(0:Int),(0:Int)]),(3,.box [.s (List.map encInt_u8 x7.1.code),x7.1.at',.v (.int .u64 x7.1.seed)]),(4,.box [x65.1.segments,x65.1.size,x65.1.key,.R 21,.R 22,x65.1.segment,.R 23,.R 28]),(21,.row 2 (List.map encEntrant x65.1.entrants)),(22,.row 1 (List.map encInt x65.1.gone)),(23,.row 1 (List.map encInt x65.1.order)),(28,.row 2 (List.map encResultO x65.1.results))],44,[]⟩:St))) ?_
 exact Le.ct 28 24
 replace hH:=condF hc hH
 refine AW.exit (AW.seq ?_)
 obtain ⟨x67,hx68,hH⟩:=bindE hH
 obtain ⟨x69,hx70,hH⟩:=bindE hH
 refine AW.drawn 9 29 [3,1] mix (by kernel_rfl) rfl ?_
 refine AD.pure T (d:=.g [v55,v56,v57,.R 21,.R 22,v60,.R 23,.R 24]) rfl rfl rfl ?_
 refine AD.pure T rfl rfl rfl ?_
 refine AD.val rfl rfl (mkF_ok T rfl rfl rfl rfl rfl rfl (f:=encInt) (l:=([1,5,11,999,0,1000]:List Int)) rfl rfl (fun _=>rfl) rfl rfl rfl) ?_
 refine AD.k rfl rfl (FStep.callM rfl rfl rfl rfl (es:=[.pw (encL1Cur (L1Cur.mk x7.1.code x7.1.at' x7.1.seed)),.s (([1,5,11,999,0,1000]:List Int).map encInt)]) (outs:=[.pw (encL1Cur x67.1),.u]) (ids:=[3]) (by exact expLG_cons (.c (.box rfl rfl)) (expLG_cons (.c .s) (expLG_nil))) (by decide) (.inl (by rfl)) (by rfl) (spec_l1Cur_among_ok _ _ _ (hx68)) rfl (by rfl) rfl) rfl rfl rfl ?_
 refine AD.pure T rfl rfl rfl ?_
 refine AD.val rfl rfl (mkF_ok T rfl rfl rfl rfl rfl rfl (f:=encInt) (l:=([0,1,999,1000,(-1)]:List Int)) rfl rfl (fun _=>rfl) rfl rfl rfl) ?_
 refine AD.k rfl rfl (FStep.callM rfl rfl rfl rfl (es:=[.pw (encL1Cur (L1Cur.mk x67.1.code x67.1.at' x67.1.seed)),.s (([0,1,999,1000,(-1)]:List Int).map encInt)]) (outs:=[.pw (encL1Cur x69.1),.u]) (ids:=[3]) (by exact expLG_cons (.c (.box rfl rfl)) (expLG_cons (.c .s) (expLG_nil))) (by decide) (.inl (by rfl)) (by rfl) (spec_l1Cur_among_ok _ _ _ (hx70)) rfl (by rfl) rfl) rfl rfl rfl ?_
 refine AD.pure T (d:=.g [x67.2,x69.2]) rfl rfl rfl ?_
 refine AD.k rfl rfl (FStep.store_p T rfl rfl rfl rfl rfl rfl rfl rfl rfl rfl rfl) rfl rfl rfl ?_
 refine AD.nil (AO.se T [x67.2,x69.2] ?_)
 refine AO.nil (AW.le (Le.freezeM 24 (g:=encResult) rfl (fun y=>frzResult y)) ?_)
 refine AW.le (Le.freezeM 23 (g:=encInt) rfl (fun y=>.vs rfl)) ?_
 refine AW.le (Le.freezeM 22 (g:=encInt) rfl (fun y=>.vs rfl)) ?_
 refine AW.le (Le.freezeM 21 (g:=encEntrant) rfl (fun y=>.vs rfl)) ?_
 refine AW.ret ?_
 have hR:=someE hH;subst hR
 exact retQ.i [] rfl (.t (expLG_cons (.g (expLC_cons .v (expLC_cons .v (expLC_cons .v (expLC_cons .s (expLC_cons .s (expLC_cons .v (expLC_cons .s (expLC_cons .s (expLC_nil)))))))))) (expLG_cons (.g (expLC_cons .v (expLC_cons .v (expLC_nil)))) (expLG_nil))))
 replace hH:=condF hc hH
 refine AW.skip (AW.seq ?_)
 obtain ⟨x71,hx72,hH⟩:=bindE hH
 obtain ⟨x73,hx74,hH⟩:=bindE hH
 refine AW.drawn 9 29 [3,1] mix (by kernel_rfl) rfl ?_
 refine AD.pure T (d:=.g [x1.2.segments,x1.2.size,x1.2.key,.s (List.map encEntrant x1.2.entrants),.s (List.map encInt x1.2.gone),x1.2.segment,.s (List.map encInt x1.2.order),.s (List.map encResult x1.2.results)]) rfl rfl rfl ?_
 refine AD.pure T rfl rfl rfl ?_
 refine AD.val rfl rfl (mkF_ok T rfl rfl rfl rfl rfl rfl (f:=encInt) (l:=([1,5,11,999,0,1000]:List Int)) rfl rfl (fun _=>rfl) rfl rfl rfl) ?_
 refine AD.k rfl rfl (FStep.callM rfl rfl rfl rfl (es:=[.pw (encL1Cur (L1Cur.mk x3.1.code x3.1.at' x3.1.seed)),.s (([1,5,11,999,0,1000]:List Int).map encInt)]) (outs:=[.pw (encL1Cur x71.1),.u]) (ids:=[3]) (by exact expLG_cons (.c (.box rfl rfl)) (expLG_cons (.c .s) (expLG_nil))) (by decide) (.inl (by rfl)) (by rfl) (spec_l1Cur_among_ok _ _ _ (hx72)) rfl (by rfl) rfl) rfl rfl rfl ?_
 refine AD.pure T rfl rfl rfl ?_
 refine AD.val rfl rfl (mkF_ok T rfl rfl rfl rfl rfl rfl (f:=encInt) (l:=([0,1,999,1000,(-1)]:List Int)) rfl rfl (fun _=>rfl) rfl rfl rfl) ?_
 refine AD.k rfl rfl (FStep.callM rfl rfl rfl rfl (es:=[.pw (encL1Cur (L1Cur.mk x71.1.code x71.1.at' x71.1.seed)),.s (([0,1,999,1000,(-1)]:List Int).map encInt)]) (outs:=[.pw (encL1Cur x73.1),.u]) (ids:=[3]) (by exact expLG_cons (.c (.box rfl rfl)) (expLG_cons (.c .s) (expLG_nil))) (by decide) (.inl (by rfl)) (by rfl) (spec_l1Cur_among_ok _ _ _ (hx74)) rfl (by rfl) rfl) rfl rfl rfl ?_
 refine AD.pure T (d:=.g [x71.2,x73.2]) rfl rfl rfl ?_
 refine AD.k rfl rfl (FStep.store_p T rfl rfl rfl rfl rfl rfl rfl rfl rfl rfl rfl) rfl rfl rfl ?_
 refine AD.nil (AO.se T [x71.2,x73.2] ?_)
 refine AO.nil (AW.ret ?_)
 have hR:=someE hH;subst hR
 exact retQ.i [] rfl (.t (expLG_cons (.g (expLC_cons .v (expLC_cons .v (expLC_cons .v (expLC_cons .s (expLC_cons .s (expLC_cons .v (expLC_cons .s (expLC_cons .s (expLC_nil)))))))))) (expLG_cons (.g (expLC_cons .v (expLC_cons .v (expLC_nil)))) (expLG_nil))))

def impl_EnterSkater_l1 (e:Event) (x:Entrant) (x3:Event):Nat→List Int→Int→Option ((Event × Bool))
  | 0,_,_=>none
  | k9+1,v16,v17 =>
    cond (decide (v17 < e.segments))
      ((need (fitsB 8 (v16.length+(([(-1)]:List Int)).length))).bind fun u19 =>
      impl_EnterSkater_l1 e x x3 k9 (v16++([(-1)]:List Int)) (w64 (v17+1)))
      ((need (fitsB 32 (x3.results.length+([(Result.mk x.skater v16)]).length))).bind fun u21 =>
      some ((Event.mk x3.segments x3.size x3.key (x3.entrants++[x]) x3.gone x3.segment x3.order (x3.results++[(Result.mk x.skater v16)])),true))
def impl_EnterSkater_p (fuel:Nat) (e:Event) (x:Entrant):Option (Event × Bool) :=
  (impl_isRunning_p e).bind fun x1 =>
  cond (((!x1) || decide (e.segment > 0)) || decide ((e.order.length:Int) > 0))
    (some ((Event.mk 0 0 0 [] [] 0 [] []),false))
    ((impl_copyEvent_p e).bind fun x3 =>
    (need (fitsB 16 (x3.entrants.length+([x]).length))).bind fun u5 =>
    (impl_AreEntrants_p (x3.entrants++[x])).bind fun x7 =>
    cond (!x7)
      (some ((Event.mk 0 0 0 [] [] 0 [] []),false))
      (impl_EnterSkater_l1 e x x3 fuel [] 0))
theorem impl_EnterSkater_ok (fuel:Nat) (e:Event) (x:Entrant) (r:(Event × Bool)) (hH:impl_EnterSkater_p fuel e x=some r):SpecR Tryz.prog 21 [.g (encEvent e),.g (encEntrant x)] (.t [.g (encEventO r.1),.v (.bool r.2)]):=by
 refine fn_ok T Tryz.func21 rfl (by decide) rfl ?_
 refine AW.seq (AW.region (AO.step rfl (box_ok T rfl 1 rfl rfl rfl rfl) ?_))
 refine AO.step rfl (box_ok T rfl 2 rfl rfl rfl rfl) ?_
 refine AO.step rfl (alloc_ok T rfl 3 rfl rfl rfl rfl rfl) ?_
 refine AO.pu T ?_
 refine AO.nil ?_
 iterate 2 refine AW.seq ?_
 obtain ⟨x1,hx2,hH⟩:=bindE hH
 refine AW.region (AO.pu T (d:=.g [e.segments,e.size,e.key,.s (List.map encEntrant e.entrants),.s (List.map encInt e.gone),e.segment,.s (List.map encInt e.order),.s (List.map encResult e.results)]) ?_)
 refine AO.val rfl rfl (callV_ok rfl rfl rfl rfl (impl_isRunning_ok _ _ (hx2)) rfl) ?_
 iterate 2 refine AO.pu T ?_
 refine AO.pureG T [] rfl trivial rfl rfl ?_
 refine AO.pureG T [12] rfl ⟨fun h=>h,trivial⟩ rfl rfl ?_
 refine AO.pureG T [13] rfl ⟨fun h=>h,trivial⟩ rfl rfl ?_
 refine AO.val rfl rfl (pick_or rfl rfl rfl rfl) ?_
 refine AO.pu T ?_
 refine AO.pureG T [] rfl trivial rfl rfl ?_
 refine AO.pureG T [17] rfl ⟨fun h=>h,trivial⟩ rfl rfl ?_
 refine AO.guard [18] rfl ⟨fun h=>h,trivial⟩ (fun hg=>len_map_ok T rfl rfl rfl) rfl ?_
 refine AO.pureG T [19] rfl ⟨fun h=>h,trivial⟩ rfl rfl ?_
 refine AO.val rfl rfl (pick_or rfl rfl rfl rfl) ?_
 refine AO.nil (AW.cond (b:=(((!x1) || decide (e.segment > 0)) || decide ((e.order.length:Int) > 0))) rfl (fun hc=>?_) (fun hc=>?_))
 replace hH:=condT hc hH
 refine AW.seq (AW.region (AO.pu T (d:=.g [(0:Int),(0:Int),(0:Int),.w 0 [],.w 0 [],(0:Int),.w 0 [],.w 0 []]) ?_))
 refine AO.se T [(0:Int),(0:Int),(0:Int),.w 0 [],.w 0 [],(0:Int),.w 0 [],.w 0 []] ?_
 refine AO.pu T ?_
 refine AO.nil (AW.ret ?_)
 have hR:=someE hH;subst hR
 exact retQ.i [] rfl (.t (expLG_cons (.g (expLC_cons .v (expLC_cons .v (expLC_cons .v (expLC_cons .nil (expLC_cons .nil (expLC_cons .v (expLC_cons .nil (expLC_cons .nil (expLC_nil)))))))))) (expLG_cons (.c .v) (expLG_nil))))
 replace hH:=condF hc hH
 refine AW.skip (AW.seq ?_)
 obtain ⟨x3,hx4,hH⟩:=bindE hH
 refine AW.region (AO.pu T (d:=.g [e.segments,e.size,e.key,.s (List.map encEntrant e.entrants),.s (List.map encInt e.gone),e.segment,.s (List.map encInt e.order),.s (List.map encResult e.results)]) ?_)
 refine AO.step rfl (call_ok rfl 4 rfl rfl rfl (impl_copyEvent_ok _ _ (hx4)) rfl rfl rfl) ?_
 refine AO.step rfl (alloc_ok T rfl 8 rfl rfl rfl rfl rfl) ?_
 refine AO.se T [x3.segments,x3.size,x3.key,.R 4,.R 5,x3.segment,.R 6,.R 7] ?_
 refine AO.nil (AW.seq ?_)
 obtain ⟨u5,hx6,hH⟩:=bindE hH
 refine AW.region ?_
 iterate 2 refine AO.pu T ?_
 refine AO.pu T (d:=.g [x.skater,x.rank]) ?_
 refine AO.step rfl (mk_map_ok T rfl 9 rfl rfl rfl rfl rfl (f:=encEntrant) (l:=[x]) rfl rfl (fun _=>rfl) rfl rfl rfl rfl rfl) ?_
 refine AO.step rfl (app_rv_map T rfl 10 rfl rfl rfl rfl rfl (by decide) rfl rfl rfl rfl (fun _=>rfl) (needT (hx6)) rfl rfl) ?_
 refine AO.pu T ?_
 refine AO.se T [x3.segments,x3.size,x3.key,.R 10,.R 5,x3.segment,.R 6,.R 7] ?_
 refine AO.nil (AW.le (Le.ct 0 0 (σ':=(⟨[(2,.p 1 0),(3,.p 2 0),(4,.p 3 0),(6,.p 8 0)],[(1,.box [e.segments,e.size,e.key,.s (List.map encEntrant e.entrants),.s (List.map encInt e.gone),e.segment,.s (List.map encInt e.order),.s (List.map encResult e.results)]),(2,.box [x.skater,x.rank]),(3,.box [(0:Int),(0:Int),(0:Int),.w 0 [],.w 0 [],(0:Int),.w 0 [],.w 0 []]),(5,.row 1 (List.map encInt x3.gone)),(6,.row 1 (List.map encInt x3.order)),(7,.row 2 (List.map encResultO x3.results)),(8,.box [x3.segments,x3.size,x3.key,.R 10,.R 5,x3.segment,.R 6,.R 7]),(10,.row 2 (List.map encEntrant (x3.entrants++[x])))],55,[]⟩:St))) ?_)
 iterate 2 refine AW.seq ?_
 obtain ⟨x7,hx8,hH⟩:=bindE hH
 refine AW.region ?_
 iterate 2 refine AO.pu T ?_
 refine AO.val rfl rfl (callLV_ok rfl rfl rfl (es:=[.s (List.map encEntrant (x3.entrants++[x]))]) ⟨(.rowR rfl (.map fun y=>.vs rfl)),trivial⟩ (impl_AreEntrants_ok _ _ (hx8)) (zfree_v _) rfl) ?_
 refine AO.pu T ?_
 refine AO.nil (AW.cond (b:=(!x7)) rfl (fun hc=>?_) (fun hc=>?_))
 replace hH:=condT hc hH
 refine AW.seq (AW.region (AO.pu T (d:=.g [(0:Int),(0:Int),(0:Int),.w 0 [],.w 0 [],(0:Int),.w 0 [],.w 0 []]) ?_))
 refine AO.se T [(0:Int),(0:Int),(0:Int),.w 0 [],.w 0 [],(0:Int),.w 0 [],.w 0 []] ?_
 refine AO.pu T ?_
 refine AO.nil (AW.ret ?_)
 have hR:=someE hH;subst hR
 exact retQ.i [] rfl (.t (expLG_cons (.g (expLC_cons .v (expLC_cons .v (expLC_cons .v (expLC_cons .nil (expLC_cons .nil (expLC_cons .v (expLC_cons .nil (expLC_cons .nil (expLC_nil)))))))))) (expLG_cons (.c .v) (expLG_nil))))
 replace hH:=condF hc hH
 refine AW.skip (AW.seq (AW.region ?_))
 refine AO.step rfl (mk0_ok T rfl rfl rfl rfl) ?_
 refine AO.pu T ?_
 refine AO.nil ?_
 iterate 2 refine AW.seq ?_
 refine AW.region ?_
 iterate 3 refine AO.pu T ?_
 refine AO.nil (AW.block ?_)
 refine AW.loopS (fun s:Nat × (List Int) × Int=>(⟨[(3,.p 2 0),(4,.p 3 0),(6,.p 8 0),(7,.R 14),(38,e.segments),(39,s.2.2)],[(2,.box [x.skater,x.rank]),(3,.box [(0:Int),(0:Int),(0:Int),.w 0 [],.w 0 [],(0:Int),.w 0 [],.w 0 []]),(5,.row 1 (List.map encInt x3.gone)),(6,.row 1 (List.map encInt x3.order)),(7,.row 2 (List.map encResultO x3.results)),(8,.box [x3.segments,x3.size,x3.key,.R 10,.R 5,x3.segment,.R 6,.R 7]),(10,.row 2 (List.map encEntrant (x3.entrants++[x]))),(14,.row 1 (List.map encInt s.2.1))],55,[]⟩:St)) (fun s=>impl_EnterSkater_l1 e x x3 s.1 s.2.1 s.2.2=some r) (fun s=>s.1) (fuel,[],0) hH ?_ ?_
 refine Le.trans (Le.void 7 14 1 rfl rfl) ?_
 exact Le.ct 0 0
 rintro ⟨k9,v16,v17⟩ hH
 replace hH:impl_EnterSkater_l1 e x x3 k9 v16 v17=some r:=hH
 try dsimp only
 rcases k9 with _ | k9
 cases (show none=some _ from hH)
 rw [impl_EnterSkater_l1] at hH
 refine AW.seq (AW.region (AO.pu T ?_))
 refine AO.nil (AW.seq (AW.cond (b:=decide (v17 < e.segments)) rfl (fun hc=>?_) (fun hc=>?_)))
 replace hH:=condT hc hH
 refine AW.skip (AW.seq ?_)
 refine AW.block ?_
 obtain ⟨u19,hx20,hH⟩:=bindE hH
 refine AW.region (AO.pu T ?_)
 refine AO.step rfl (mk_map_ok T rfl 15 rfl rfl rfl rfl rfl (f:=encInt) (l:=([(-1)]:List Int)) rfl rfl (fun _=>rfl) rfl rfl rfl rfl rfl) ?_
 refine AO.step rfl (app_rv_map T rfl 16 rfl rfl rfl rfl rfl (by decide) rfl rfl rfl rfl (fun _=>rfl) (needT (hx20)) rfl rfl) ?_
 refine AO.pu T ?_
 refine AO.nil (AW.region ?_)
 refine AO.val rfl rfl (arw_ok rfl rfl rfl rfl) ?_
 refine AO.pu T ?_
 refine AO.nil ?_
 refine ⟨(k9,(v16++([(-1)]:List Int)),w64 (v17+1)),hH,Nat.lt_succ_self _,?_⟩
 exact Le.ct 16 14
 replace hH:=condF hc hH
 refine AW.exit (AW.seq ?_)
 obtain ⟨u21,hx22,hH⟩:=bindE hH
 refine AW.region ?_
 iterate 5 refine AO.pu T ?_
 refine AO.pu T (d:=.g [x.skater,.R 14]) ?_
 refine AO.step rfl (mk_o_ok T rfl 17 rfl rfl rfl rfl rfl rfl (f:=encResultO) (l:=[(Result.mk x.skater v16)]) (ids:=[14]) rfl rfl (fun _=>rfl) (by exact expLC_cons .v (expLC_cons (.rowR rfl) (expLC_nil))) (by decide) rfl rfl rfl rfl rfl) ?_
 refine AO.step rfl (app_rr_map T rfl 18 rfl rfl rfl rfl rfl (by decide) rfl rfl rfl rfl rfl (needT (hx22)) rfl rfl) ?_
 refine AO.pu T ?_
 refine AO.se T [x3.segments,x3.size,x3.key,.R 10,.R 5,x3.segment,.R 6,.R 18] ?_
 refine AO.nil (AW.seq (AW.region ?_))
 refine AO.pu T (d:=.g [x3.segments,x3.size,x3.key,.R 10,.R 5,x3.segment,.R 6,.R 18]) ?_
 refine AO.se T [x3.segments,x3.size,x3.key,.R 10,.R 5,x3.segment,.R 6,.R 18] ?_
 refine AO.pu T ?_
 refine AO.nil (AW.ret ?_)
 have hR:=someE hH;subst hR
 exact retQ.i [10,5,6,18] rfl (.t (expLG_cons (.g (expLC_cons .v (expLC_cons .v (expLC_cons .v (expLC_cons (.rowR rfl) (expLC_cons (.rowR rfl) (expLC_cons .v (expLC_cons (.rowR rfl) (expLC_cons (.rowR rfl) (expLC_nil)))))))))) (expLG_cons (.c .v) (expLG_nil))))

def spec_EnterSkater_p (fuel:Nat) (e:Event) (x:Entrant):Option (Event × Bool) :=
  (spec_evAsked_p fuel e (Step.mk 1 x.skater x.rank)).bind fun x1 =>
  some ((Event.mk x1.1.segments x1.1.size x1.1.key x1.1.entrants x1.1.gone x1.1.segment x1.1.order x1.1.results),x1.2)
theorem spec_EnterSkater_ok (fuel:Nat) (e:Event) (x:Entrant) (r:(Event × Bool)) (hH:spec_EnterSkater_p fuel e x=some r):SpecR Tryz.prog 22 [.g (encEvent e),.g (encEntrant x)] (.t [.g (encEvent r.1),.v (.bool r.2)]):=by
 refine fn_ok T Tryz.func22 rfl (by decide) rfl ?_
 refine AW.seq (AW.region (AO.step rfl (box_ok T rfl 1 rfl rfl rfl rfl) ?_))
 refine AO.step rfl (box_ok T rfl 2 rfl rfl rfl rfl) ?_
 refine AO.step rfl (alloc_ok T rfl 3 rfl rfl rfl rfl rfl) ?_
 refine AO.pu T ?_
 refine AO.nil (AW.seq ?_)
 obtain ⟨x1,hx2,hH⟩:=bindE hH
 refine AW.region (AO.pu T (d:=.g [e.segments,e.size,e.key,.s (List.map encEntrant e.entrants),.s (List.map encInt e.gone),e.segment,.s (List.map encInt e.order),.s (List.map encResult e.results)]) ?_)
 iterate 4 refine AO.pu T ?_
 refine AO.pu T (d:=.g [(1:Int),x.skater,x.rank]) ?_
 refine AO.val rfl rfl (callV_ok rfl rfl rfl rfl (spec_evAsked_ok fuel _ _ _ (hx2)) rfl) ?_
 refine AO.pu T (d:=.g [x1.1.segments,x1.1.size,x1.1.key,.s (List.map encEntrant x1.1.entrants),.s (List.map encInt x1.1.gone),x1.1.segment,.s (List.map encInt x1.1.order),.s (List.map encResult x1.1.results)]) ?_
 refine AO.pu T ?_
 refine AO.se T [x1.1.segments,x1.1.size,x1.1.key,.s (List.map encEntrant x1.1.entrants),.s (List.map encInt x1.1.gone),x1.1.segment,.s (List.map encInt x1.1.order),.s (List.map encResult x1.1.results)] ?_
 refine AO.pu T ?_
 refine AO.nil (AW.ret ?_)
 have hR:=someE hH;subst hR
 exact retQ.i [] rfl (.t (expLG_cons (.g (expLC_cons .v (expLC_cons .v (expLC_cons .v (expLC_cons .s (expLC_cons .s (expLC_cons .v (expLC_cons .s (expLC_cons .s (expLC_nil)))))))))) (expLG_cons (.c .v) (expLG_nil))))

end Go.Proofs.YtegdphhfimaieabGreat

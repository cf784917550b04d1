/- The walk, part 4: what each function reached by the law FnSteps computes. No condition. -/
import Derived.Test.YtegdphhfimaieabGreatWalk3
set_option maxRecDepth 4000
set_option maxHeartbeats 1000000
set_option linter.unusedVariables false
set_option linter.unusedSimpArgs false
set_option linter.unusedSectionVars false

namespace Go.Proofs.YtegdphhfimaieabGreat
open Go.AM

def spec_DrawLeaveEvent_p (fuel:Nat) (code:List Int):Option (Event × Int) :=
  (spec_l1Cur_event_p fuel (L1Cur.mk code 0 0)).bind fun x1 =>
  (opt (decide ((x1.2.entrants.length:Int) > 0)) ((L1Cur.mk x1.1.code x1.1.at' x1.1.seed),default) (spec_l1Cur_one_p (L1Cur.mk x1.1.code x1.1.at' x1.1.seed) 6)).bind fun x3 =>
  cond (decide ((x1.2.entrants.length:Int) > 0) && (!x3.2))
    ((spec_l1Cur_pick_p (L1Cur.mk x3.1.code x3.1.at' x3.1.seed) (x1.2.entrants.length:Int)).bind fun x5 =>
    (getI x1.2.entrants x5.2).bind fun x7 =>
    some ((Event.mk x1.2.segments x1.2.size x1.2.key x1.2.entrants x1.2.gone x1.2.segment x1.2.order x1.2.results),x7.skater))
    ((spec_l1Cur_pick_p (L1Cur.mk x3.1.code x3.1.at' x3.1.seed) 30).bind fun x9 =>
    some ((Event.mk x1.2.segments x1.2.size x1.2.key x1.2.entrants x1.2.gone x1.2.segment x1.2.order x1.2.results),x9.2))
theorem spec_DrawLeaveEvent_ok (fuel:Nat) (code:List Int) (r:(Event × Int)) (hH:spec_DrawLeaveEvent_p fuel code=some r):SpecR Tryz.prog 23 [.s (List.map encInt_u8 code)] (.t [.g (encEvent r.1),.v (.int .i64 r.2)]):=by
 refine fn_ok T Tryz.func23 rfl (by decide) rfl ?_
 refine AW.seq (AW.region (AO.step rfl (alloc_ok T rfl 1 rfl rfl rfl rfl rfl) ?_))
 refine AO.pu T ?_
 refine AO.nil (AW.seq (AW.region ?_))
 refine AO.pu T ?_
 refine AO.pu T (d:=.g [.s (List.map encInt_u8 code),(0:Int),.v (.int .u64 0)]) ?_
 refine AO.step rfl (box_ok T rfl 2 rfl rfl rfl rfl) ?_
 refine AO.pu T ?_
 refine AO.nil (AW.seq ?_)
 obtain ⟨x1,hx2,hH⟩:=bindE hH
 refine AW.region (AO.pu T ?_)
 refine AO.step rfl (callM_ok rfl 3 rfl rfl (es:=[.pw (encL1Cur (L1Cur.mk code 0 0))]) (outs:=[.pw (encL1Cur x1.1)]) (ids:=[2]) (by exact expLG_cons (.c (.box rfl rfl)) (expLG_nil)) (by decide) (.inl (by rfl)) (by rfl) (spec_l1Cur_event_ok fuel _ _ (hx2)) rfl (by rfl) rfl) ?_
 refine AO.step rfl (alloc_ok T rfl 3 rfl rfl rfl rfl rfl) ?_
 refine AO.se T [x1.2.segments,x1.2.size,x1.2.key,.s (List.map encEntrant x1.2.entrants),.s (List.map encInt x1.2.gone),x1.2.segment,.s (List.map encInt x1.2.order),.s (List.map encResult x1.2.results)] ?_
 refine AO.nil ?_
 iterate 2 refine AW.seq ?_
 refine AW.region ?_
 iterate 2 refine AO.pu T ?_
 refine AO.val rfl rfl (len_map_ok T rfl rfl rfl) ?_
 refine AO.pu T ?_
 refine AO.nil (AW.seq ?_)
 obtain ⟨x3,hx4,hH⟩:=bindE hH
 refine AW.region ?_
 iterate 3 refine AO.pu T ?_
 refine AO.pureG T [] rfl trivial rfl rfl ?_
 refine AO.guardP (id:=2) (cs':=[.s (List.map encInt_u8 x3.1.code),x3.1.at',.v (.int .u64 x3.1.seed)]) (r:=.v (.bool x3.2)) [18] rfl ⟨fun h=>h,trivial⟩ (fun hg=>callM_ok rfl 4 rfl rfl (es:=[.pw (encL1Cur (L1Cur.mk x1.1.code x1.1.at' x1.1.seed)),.v (.int .i64 6)]) (outs:=[.pw (encL1Cur x3.1),.u]) (ids:=[2]) (by exact expLG_cons (.c (.box rfl rfl)) (expLG_cons (.c .v) (expLG_nil))) (by decide) (.inl (by rfl)) (by rfl) (spec_l1Cur_one_ok _ _ _ (optT hx4 hg)) rfl (by rfl) rfl) rfl (fun hg=>by have q:=optF hx4 hg;subst q;rfl) rfl ?_
 refine AO.pureG T [19] rfl ⟨fun h=>h,trivial⟩ rfl rfl ?_
 refine AO.val rfl rfl (pick_and rfl rfl rfl rfl) ?_
 refine AO.nil (AW.cond (b:=(decide ((x1.2.entrants.length:Int) > 0) && (!x3.2))) rfl (fun hc=>?_) (fun hc=>?_))
 replace hH:=condT hc hH
 refine AW.seq ?_
 obtain ⟨x5,hx6,hH⟩:=bindE hH
 obtain ⟨x7,hx8,hH⟩:=bindE hH
 refine AW.drawn 10 4 [2,1] mix (by kernel_rfl) rfl ?_
 refine AD.pure T (d:=.g [x1.2.segments,x1.2.size,x1.2.key,.s (List.map encEntrant x1.2.entrants),.s (List.map encInt x1.2.gone),x1.2.segment,.s (List.map encInt x1.2.order),.s (List.map encResult x1.2.results)]) rfl rfl rfl ?_
 iterate 4 refine AD.pure T rfl rfl rfl ?_
 refine AD.k rfl rfl (FStep.callM rfl rfl rfl rfl (es:=[.pw (encL1Cur (L1Cur.mk x3.1.code x3.1.at' x3.1.seed)),.v (.int .i64 (x1.2.entrants.length:Int))]) (outs:=[.pw (encL1Cur x5.1),.u]) (ids:=[2]) (by exact expLG_cons (.c (.box rfl rfl)) (expLG_cons (.c .v) (expLG_nil))) (by decide) (.inl (by rfl)) (by rfl) (spec_l1Cur_pick_ok _ _ _ (hx6)) rfl (by rfl) rfl) rfl rfl rfl ?_
 refine AD.val rfl rfl (ix_map_ok T rfl rfl rfl rfl rfl (hx8) rfl) ?_
 iterate 2 refine AD.pure T rfl rfl rfl ?_
 refine AD.k rfl rfl (FStep.store_p T rfl rfl rfl rfl rfl rfl rfl rfl rfl rfl rfl) rfl rfl rfl ?_
 refine AD.nil (AO.pu T ?_)
 refine AO.nil (AW.le (Le.ct 0 0 (σ':=(⟨[(2,.p 1 0),(3,x7.skater)],[(1,.box [x1.2.segments,x1.2.size,x1.2.key,.s (List.map encEntrant x1.2.entrants),.s (List.map encInt x1.2.gone),x1.2.segment,.s (List.map encInt x1.2.order),.s (List.map encResult x1.2.results)])],34,[]⟩:St))) ?_)
 refine AW.ret ?_
 have hR:=someE hH;subst hR
 exact retQ.i [] rfl (.t (expLG_cons (.g (expLC_cons .v (expLC_cons .v (expLC_cons .v (expLC_cons .s (expLC_cons .s (expLC_cons .v (expLC_cons .s (expLC_cons .s (expLC_nil)))))))))) (expLG_cons (.c .v) (expLG_nil))))
 replace hH:=condF hc hH
 refine AW.skip (AW.seq ?_)
 obtain ⟨x9,hx10,hH⟩:=bindE hH
 refine AW.drawn 3 4 [2] mix (by kernel_rfl) rfl ?_
 refine AD.pure T (d:=.g [x1.2.segments,x1.2.size,x1.2.key,.s (List.map encEntrant x1.2.entrants),.s (List.map encInt x1.2.gone),x1.2.segment,.s (List.map encInt x1.2.order),.s (List.map encResult x1.2.results)]) rfl rfl rfl ?_
 refine AD.pure T rfl rfl rfl ?_
 refine AD.k rfl rfl (FStep.callM rfl rfl rfl rfl (es:=[.pw (encL1Cur (L1Cur.mk x3.1.code x3.1.at' x3.1.seed)),.v (.int .i64 30)]) (outs:=[.pw (encL1Cur x9.1),.u]) (ids:=[2]) (by exact expLG_cons (.c (.box rfl rfl)) (expLG_cons (.c .v) (expLG_nil))) (by decide) (.inl (by rfl)) (by rfl) (spec_l1Cur_pick_ok _ _ _ (hx10)) rfl (by rfl) rfl) rfl rfl rfl ?_
 refine AD.nil (AO.se T [x1.2.segments,x1.2.size,x1.2.key,.s (List.map encEntrant x1.2.entrants),.s (List.map encInt x1.2.gone),x1.2.segment,.s (List.map encInt x1.2.order),.s (List.map encResult x1.2.results)] ?_)
 refine AO.pu T ?_
 refine AO.nil (AW.le (Le.ct 0 0 (σ':=(⟨[(2,.p 1 0),(3,x9.2)],[(1,.box [x1.2.segments,x1.2.size,x1.2.key,.s (List.map encEntrant x1.2.entrants),.s (List.map encInt x1.2.gone),x1.2.segment,.s (List.map encInt x1.2.order),.s (List.map encResult x1.2.results)])],34,[]⟩:St))) ?_)
 refine AW.ret ?_
 have hR:=someE hH;subst hR
 exact retQ.i [] rfl (.t (expLG_cons (.g (expLC_cons .v (expLC_cons .v (expLC_cons .v (expLC_cons .s (expLC_cons .s (expLC_cons .v (expLC_cons .s (expLC_cons .s (expLC_nil)))))))))) (expLG_cons (.c .v) (expLG_nil))))

def impl_LeaveEvent_p (e:Event) (skater:Int):Option (Event × Bool) :=
  (impl_isRunning_p e).bind fun x1 =>
  (opt (!(!x1)) default (impl_isThere_p e skater)).bind fun x3 =>
  cond ((!x1) || (!x3))
    (some ((Event.mk 0 0 0 [] [] 0 [] []),false))
    ((impl_copyEvent_p e).bind fun x5 =>
    (need (fitsB 8 (x5.gone.length+([skater]).length))).bind fun u7 =>
    (slices_Sort_int_p (x5.gone++[skater])).bind fun x9 =>
    (impl_isScored_p (Event.mk x5.segments x5.size x5.key x5.entrants x9 x5.segment x5.order x5.results) skater).bind fun x11 =>
    cond (!x11)
      ((impl_without_p x5.order [skater]).bind fun x13 =>
      (impl_behindStep_p (Event.mk x5.segments x5.size x5.key x5.entrants x9 x5.segment x13 x5.results)).bind fun x15 =>
      some (x15,true))
      ((impl_behindStep_p (Event.mk x5.segments x5.size x5.key x5.entrants x9 x5.segment x5.order x5.results)).bind fun x17 =>
      some (x17,true)))
theorem impl_LeaveEvent_ok (e:Event) (skater:Int) (r:(Event × Bool)) (hH:impl_LeaveEvent_p e skater=some r):SpecR Tryz.prog 24 [.g (encEvent e),skater] (.t [.g (encEventO r.1),.v (.bool r.2)]):=by
 refine fn_ok T Tryz.func24 rfl (by decide) rfl ?_
 refine AW.seq (AW.region (AO.step rfl (box_ok T rfl 1 rfl rfl rfl rfl) ?_))
 refine AO.step rfl (alloc_ok T rfl 2 rfl rfl rfl rfl rfl) ?_
 refine AO.pu T ?_
 refine AO.nil ?_
 iterate 2 refine AW.seq ?_
 obtain ⟨x1,hx2,hH⟩:=bindE hH
 obtain ⟨x3,hx4,hH⟩:=bindE hH
 refine AW.region (AO.pu T (d:=.g [e.segments,e.size,e.key,.s (List.map encEntrant e.entrants),.s (List.map encInt e.gone),e.segment,.s (List.map encInt e.order),.s (List.map encResult e.results)]) ?_)
 refine AO.val rfl rfl (callV_ok rfl rfl rfl rfl (impl_isRunning_ok _ _ (hx2)) rfl) ?_
 iterate 2 refine AO.pu T ?_
 refine AO.pureG T (d:=.g [e.segments,e.size,e.key,.s (List.map encEntrant e.entrants),.s (List.map encInt e.gone),e.segment,.s (List.map encInt e.order),.s (List.map encResult e.results)]) [] rfl trivial rfl rfl ?_
 refine AO.pureG T [] rfl trivial rfl rfl ?_
 refine AO.guard [11,12] rfl ⟨fun h=>h,fun h=>h,trivial⟩ (fun hg=>callV_ok rfl rfl rfl rfl (impl_isThere_ok _ _ _ (optT hx4 hg)) rfl) rfl ?_
 refine AO.pureG T [13] rfl ⟨fun h=>h,trivial⟩ rfl rfl ?_
 refine AO.val rfl rfl (pick_or rfl rfl rfl rfl) ?_
 refine AO.nil (AW.cond (b:=((!x1) || (!x3))) rfl (fun hc=>?_) (fun hc=>?_))
 replace hH:=condT hc hH
 refine AW.seq (AW.region (AO.pu T (d:=.g [(0:Int),(0:Int),(0:Int),.w 0 [],.w 0 [],(0:Int),.w 0 [],.w 0 []]) ?_))
 refine AO.se T [(0:Int),(0:Int),(0:Int),.w 0 [],.w 0 [],(0:Int),.w 0 [],.w 0 []] ?_
 refine AO.pu T ?_
 refine AO.nil (AW.ret ?_)
 have hR:=someE hH;subst hR
 exact retQ.i [] rfl (.t (expLG_cons (.g (expLC_cons .v (expLC_cons .v (expLC_cons .v (expLC_cons .nil (expLC_cons .nil (expLC_cons .v (expLC_cons .nil (expLC_cons .nil (expLC_nil)))))))))) (expLG_cons (.c .v) (expLG_nil))))
 replace hH:=condF hc hH
 refine AW.skip (AW.seq ?_)
 obtain ⟨x5,hx6,hH⟩:=bindE hH
 refine AW.region (AO.pu T (d:=.g [e.segments,e.size,e.key,.s (List.map encEntrant e.entrants),.s (List.map encInt e.gone),e.segment,.s (List.map encInt e.order),.s (List.map encResult e.results)]) ?_)
 refine AO.step rfl (call_ok rfl 3 rfl rfl rfl (impl_copyEvent_ok _ _ (hx6)) rfl rfl rfl) ?_
 refine AO.step rfl (alloc_ok T rfl 7 rfl rfl rfl rfl rfl) ?_
 refine AO.se T [x5.segments,x5.size,x5.key,.R 3,.R 4,x5.segment,.R 5,.R 6] ?_
 refine AO.nil (AW.seq ?_)
 obtain ⟨u7,hx8,hH⟩:=bindE hH
 refine AW.region ?_
 iterate 3 refine AO.pu T ?_
 refine AO.step rfl (mk_map_ok T rfl 8 rfl rfl rfl rfl rfl (f:=encInt) (l:=[skater]) rfl rfl (fun _=>rfl) rfl rfl rfl rfl rfl) ?_
 refine AO.step rfl (app_rv_map T rfl 9 rfl rfl rfl rfl rfl (by decide) rfl rfl rfl rfl (fun _=>rfl) (needT (hx8)) rfl rfl) ?_
 refine AO.pu T ?_
 refine AO.se T [x5.segments,x5.size,x5.key,.R 3,.R 9,x5.segment,.R 5,.R 6] ?_
 refine AO.nil (AW.seq ?_)
 obtain ⟨x9,hx10,hH⟩:=bindE hH
 refine AW.region ?_
 iterate 2 refine AO.pu T ?_
 refine AO.step rfl (callM_ok rfl 10 rfl rfl (es:=[.w 1 ((x5.gone++[skater]).map encInt)]) (outs:=[.w 1 (x9.map encInt)]) (ids:=[9]) (by exact expLG_cons (.c (.rowR rfl)) (expLG_nil)) (by decide) (.inl (by rfl)) (by rfl) (slices_Sort_int_ok _ _ (hx10)) rfl (by rfl) rfl) ?_
 refine AO.nil (AW.le (Le.ct 0 0 (σ':=(⟨[(1,skater),(4,.p 2 0),(6,.p 7 0)],[(2,.box [(0:Int),(0:Int),(0:Int),.w 0 [],.w 0 [],(0:Int),.w 0 [],.w 0 []]),(3,.row 2 (List.map encEntrant x5.entrants)),(5,.row 1 (List.map encInt x5.order)),(6,.row 2 (List.map encResultO x5.results)),(7,.box [x5.segments,x5.size,x5.key,.R 3,.R 9,x5.segment,.R 5,.R 6]),(9,.row 1 (List.map encInt x9))],40,[]⟩:St))) ?_)
 iterate 2 refine AW.seq ?_
 obtain ⟨x11,hx12,hH⟩:=bindE hH
 refine AW.region (AO.pu T (d:=.g [x5.segments,x5.size,x5.key,.R 3,.R 9,x5.segment,.R 5,.R 6]) ?_)
 refine AO.pu T ?_
 refine AO.val rfl rfl (callLV_ok rfl rfl rfl (es:=[.g (encEvent (Event.mk x5.segments x5.size x5.key x5.entrants x9 x5.segment x5.order x5.results)),skater]) ⟨lend_g (LendL.cons (.free rfl) (LendL.cons (.free rfl) (LendL.cons (.free rfl) (LendL.cons ((.rowR rfl (.map fun y=>.vs rfl))) (LendL.cons ((.rowR rfl (.map fun y=>.vs rfl))) (LendL.cons (.free rfl) (LendL.cons ((.rowR rfl (.map fun y=>.vs rfl))) (LendL.cons ((.rowR rfl (.map fun y=>frzResult y))) LendL.nil)))))))),.free rfl,trivial⟩ (impl_isScored_ok _ _ _ (hx12)) (zfree_v _) rfl) ?_
 refine AO.pu T ?_
 refine AO.nil (AW.cond (b:=(!x11)) rfl (fun hc=>?_) (fun hc=>?_))
 replace hH:=condT hc hH
 obtain ⟨x13,hx14,hH⟩:=bindE hH
 refine AW.region ?_
 iterate 3 refine AO.pu T ?_
 refine AO.step rfl (mk_map_ok T rfl 10 rfl rfl rfl rfl rfl (f:=encInt) (l:=[skater]) rfl rfl (fun _=>rfl) rfl rfl rfl rfl rfl) ?_
 refine AO.step rfl (callL_ok rfl 11 rfl rfl (es:=[.s (List.map encInt x5.order),.s (List.map encInt [skater])]) (by exact ⟨(.rowR rfl (.map fun y=>.vs rfl)),(.rowR rfl (.map fun y=>.vs rfl)),trivial⟩) (impl_without_ok _ _ _ (hx14)) (zfree_map (fun y=>(.cons (zfree_v _) .nil))) rfl rfl rfl) ?_
 refine AO.pu T ?_
 refine AO.se T [x5.segments,x5.size,x5.key,.R 3,.R 9,x5.segment,.R 11,.R 6] ?_
 refine AO.nil (AW.seq ?_)
 obtain ⟨x15,hx16,hH⟩:=bindE hH
 refine AW.region (AO.pu T (d:=.g [x5.segments,x5.size,x5.key,.R 3,.R 9,x5.segment,.R 11,.R 6]) ?_)
 refine AO.step rfl (callM_ok rfl 12 rfl rfl (es:=[.g (encEventO (Event.mk x5.segments x5.size x5.key x5.entrants x9 x5.segment x13 x5.results))]) (outs:=[.u]) (ids:=[3,9,11,6]) (by exact expLG_cons (.g (expLC_cons .v (expLC_cons .v (expLC_cons .v (expLC_cons (.rowR rfl) (expLC_cons (.rowR rfl) (expLC_cons .v (expLC_cons (.rowR rfl) (expLC_cons (.rowR rfl) (expLC_nil)))))))))) (expLG_nil)) (by decide) (.inr (by exact (show ([]:List Nat).Nodup∧∀ i ∈ ([]:List Nat),i ∈ ([3,9,11,6]:List Nat) from by decide))) (by rfl) (impl_behindStep_ok _ _ (hx16)) rfl (by rfl) rfl) ?_
 refine AO.se T [x15.segments,x15.size,x15.key,.R 12,.R 13,x15.segment,.R 14,.R 15] ?_
 refine AO.pu T ?_
 refine AO.nil (AW.ret ?_)
 have hR:=someE hH;subst hR
 exact retQ.i [12,13,14,15] rfl (.t (expLG_cons (.g (expLC_cons .v (expLC_cons .v (expLC_cons .v (expLC_cons (.rowR rfl) (expLC_cons (.rowR rfl) (expLC_cons .v (expLC_cons (.rowR rfl) (expLC_cons (.rowR rfl) (expLC_nil)))))))))) (expLG_cons (.c .v) (expLG_nil))))
 replace hH:=condF hc hH
 refine AW.skip (AW.seq ?_)
 obtain ⟨x17,hx18,hH⟩:=bindE hH
 refine AW.region (AO.pu T (d:=.g [x5.segments,x5.size,x5.key,.R 3,.R 9,x5.segment,.R 5,.R 6]) ?_)
 refine AO.step rfl (callM_ok rfl 16 rfl rfl (es:=[.g (encEventO (Event.mk x5.segments x5.size x5.key x5.entrants x9 x5.segment x5.order x5.results))]) (outs:=[.u]) (ids:=[3,9,5,6]) (by exact expLG_cons (.g (expLC_cons .v (expLC_cons .v (expLC_cons .v (expLC_cons (.rowR rfl) (expLC_cons (.rowR rfl) (expLC_cons .v (expLC_cons (.rowR rfl) (expLC_cons (.rowR rfl) (expLC_nil)))))))))) (expLG_nil)) (by decide) (.inr (by exact (show ([]:List Nat).Nodup∧∀ i ∈ ([]:List Nat),i ∈ ([3,9,5,6]:List Nat) from by decide))) (by rfl) (impl_behindStep_ok _ _ (hx18)) rfl (by rfl) rfl) ?_
 refine AO.se T [x17.segments,x17.size,x17.key,.R 16,.R 17,x17.segment,.R 18,.R 19] ?_
 refine AO.pu T ?_
 refine AO.nil (AW.ret ?_)
 have hR:=someE hH;subst hR
 exact retQ.i [16,17,18,19] rfl (.t (expLG_cons (.g (expLC_cons .v (expLC_cons .v (expLC_cons .v (expLC_cons (.rowR rfl) (expLC_cons (.rowR rfl) (expLC_cons .v (expLC_cons (.rowR rfl) (expLC_cons (.rowR rfl) (expLC_nil)))))))))) (expLG_cons (.c .v) (expLG_nil))))

def spec_LeaveEvent_p (fuel:Nat) (e:Event) (skater:Int):Option (Event × Bool) :=
  (spec_evAsked_p fuel e (Step.mk 2 skater 0)).bind fun x1 =>
  some ((Event.mk x1.1.segments x1.1.size x1.1.key x1.1.entrants x1.1.gone x1.1.segment x1.1.order x1.1.results),x1.2)
theorem spec_LeaveEvent_ok (fuel:Nat) (e:Event) (skater:Int) (r:(Event × Bool)) (hH:spec_LeaveEvent_p fuel e skater=some r):SpecR Tryz.prog 25 [.g (encEvent e),skater] (.t [.g (encEvent r.1),.v (.bool r.2)]):=by
 refine fn_ok T Tryz.func25 rfl (by decide) rfl ?_
 refine AW.seq (AW.region (AO.step rfl (box_ok T rfl 1 rfl rfl rfl rfl) ?_))
 refine AO.step rfl (alloc_ok T rfl 2 rfl rfl rfl rfl rfl) ?_
 refine AO.pu T ?_
 refine AO.nil (AW.seq ?_)
 obtain ⟨x1,hx2,hH⟩:=bindE hH
 refine AW.region (AO.pu T (d:=.g [e.segments,e.size,e.key,.s (List.map encEntrant e.entrants),.s (List.map encInt e.gone),e.segment,.s (List.map encInt e.order),.s (List.map encResult e.results)]) ?_)
 refine AO.pu T ?_
 refine AO.pu T (d:=.g [(2:Int),skater,(0:Int)]) ?_
 refine AO.val rfl rfl (callV_ok rfl rfl rfl rfl (spec_evAsked_ok fuel _ _ _ (hx2)) rfl) ?_
 refine AO.pu T (d:=.g [x1.1.segments,x1.1.size,x1.1.key,.s (List.map encEntrant x1.1.entrants),.s (List.map encInt x1.1.gone),x1.1.segment,.s (List.map encInt x1.1.order),.s (List.map encResult x1.1.results)]) ?_
 refine AO.pu T ?_
 refine AO.se T [x1.1.segments,x1.1.size,x1.1.key,.s (List.map encEntrant x1.1.entrants),.s (List.map encInt x1.1.gone),x1.1.segment,.s (List.map encInt x1.1.order),.s (List.map encResult x1.1.results)] ?_
 refine AO.pu T ?_
 refine AO.nil (AW.ret ?_)
 have hR:=someE hH;subst hR
 exact retQ.i [] rfl (.t (expLG_cons (.g (expLC_cons .v (expLC_cons .v (expLC_cons .v (expLC_cons .s (expLC_cons .s (expLC_cons .v (expLC_cons .s (expLC_cons .s (expLC_nil)))))))))) (expLG_cons (.c .v) (expLG_nil))))

def laws_FnSteps_l1 (more:List Int) (fuel:Nat) (x29:(Event × Int)) (x39:(Int × Bool)):List Result→Nat→Option Bool
  | [],k43 =>
    (spec_DrawEnterSkater_p fuel more).bind fun x62 =>
    (impl_EnterSkater_p fuel (Event.mk x62.1.segments x62.1.size x62.1.key x62.1.entrants x62.1.gone x62.1.segment x62.1.order x62.1.results) (Entrant.mk x62.2.skater x62.2.rank)).bind fun x64 =>
    (spec_EnterSkater_p fuel (Event.mk x62.1.segments x62.1.size x62.1.key x62.1.entrants x62.1.gone x62.1.segment x62.1.order x62.1.results) (Entrant.mk x62.2.skater x62.2.rank)).bind fun x66 =>
    (spec_DrawLeaveEvent_p fuel more).bind fun x68 =>
    (impl_LeaveEvent_p (Event.mk x68.1.segments x68.1.size x68.1.key x68.1.entrants x68.1.gone x68.1.segment x68.1.order x68.1.results) x68.2).bind fun x70 =>
    (spec_LeaveEvent_p fuel (Event.mk x68.1.segments x68.1.size x68.1.key x68.1.entrants x68.1.gone x68.1.segment x68.1.order x68.1.results) x68.2).bind fun x72 =>
    (opt (x64.2 == x66.2) default (laws_pSameEvent_p (Event.mk x64.1.segments x64.1.size x64.1.key x64.1.entrants x64.1.gone x64.1.segment x64.1.order x64.1.results) (Event.mk x66.1.segments x66.1.size x66.1.key x66.1.entrants x66.1.gone x66.1.segment x66.1.order x66.1.results))).bind fun x74 =>
    (opt (((x64.2 == x66.2) && x74) && (!(!x64.2))) default (impl_IsEvent_p (Event.mk x64.1.segments x64.1.size x64.1.key x64.1.entrants x64.1.gone x64.1.segment x64.1.order x64.1.results))).bind fun x76 =>
    (opt ((((x64.2 == x66.2) && x74) && ((!x64.2) || x76)) && (x70.2 == x72.2)) default (laws_pSameEvent_p (Event.mk x70.1.segments x70.1.size x70.1.key x70.1.entrants x70.1.gone x70.1.segment x70.1.order x70.1.results) (Event.mk x72.1.segments x72.1.size x72.1.key x72.1.entrants x72.1.gone x72.1.segment x72.1.order x72.1.results))).bind fun x78 =>
    (opt ((((((x64.2 == x66.2) && x74) && ((!x64.2) || x76)) && (x70.2 == x72.2)) && x78) && (!(!x70.2))) default (impl_IsEvent_p (Event.mk x70.1.segments x70.1.size x70.1.key x70.1.entrants x70.1.gone x70.1.segment x70.1.order x70.1.results))).bind fun x80 =>
    (opt (((((((x64.2 == x66.2) && x74) && ((!x64.2) || x76)) && (x70.2 == x72.2)) && x78) && (!(!x70.2))) && x80) default (laws_pIn_p x72.1.gone x68.2)).bind fun x82 =>
    (opt (((((((x64.2 == x66.2) && x74) && ((!x64.2) || x76)) && (x70.2 == x72.2)) && x78) && (!(!x70.2))) && (x80 && x82)) default (laws_pIn_p x68.1.gone x68.2)).bind fun x84 =>
    some ((((((x64.2 == x66.2) && x74) && ((!x64.2) || x76)) && (x70.2 == x72.2)) && x78) && ((!x70.2) || ((x80 && x82) && (!x84))))
  | y44::ys45,k43 =>
    (getI x29.1.results (k43:Int)).bind fun x86 =>
    (laws_sameInts_p y44.scores x86.scores).bind fun x88 =>
    (opt ((!(!((!x88) == (y44.skater == x39.1)))) && (!x88)) default (getI y44.scores x29.1.segment)).bind fun x90 =>
    cond ((!((!x88) == (y44.skater == x39.1))) || ((!x88) && (x90 != x29.2)))
      (some false)
      (laws_FnSteps_l1 more fuel x29 x39 ys45 (k43+1))
def laws_FnSteps_p (fuel:Nat) (code:List Int) (more:List Int):Option Bool :=
  (laws_big_p code more).bind fun x1 =>
  cond x1
    (some true)
    ((spec_DrawAllowedSteps_p fuel code).bind fun x3 =>
    (impl_AllowedSteps_p fuel x3).bind fun x5 =>
    (spec_AllowedSteps_p fuel x3).bind fun x7 =>
    (impl_NextSkater_p x3).bind fun x9 =>
    (spec_NextSkater_p fuel x3).bind fun x11 =>
    (impl_BeginSegment_p fuel x3).bind fun x13 =>
    (spec_BeginSegment_p fuel x3).bind fun x15 =>
    (opt (!(!(x5.2 == x7.2))) default (laws_sameInts_p x5.1 x7.1)).bind fun x17 =>
    (opt (!(((((!(x5.2 == x7.2)) || (!x17)) || (!(x9.2 == x11.2))) || (x9.1 != x11.1)) || (!(x13.2 == x15.2)))) default (laws_pSameEvent_p (Event.mk x13.1.segments x13.1.size x13.1.key x13.1.entrants x13.1.gone x13.1.segment x13.1.order x13.1.results) (Event.mk x15.1.segments x15.1.size x15.1.key x15.1.entrants x15.1.gone x15.1.segment x15.1.order x15.1.results))).bind fun x19 =>
    (opt (!((((((!(x5.2 == x7.2)) || (!x17)) || (!(x9.2 == x11.2))) || (x9.1 != x11.1)) || (!(x13.2 == x15.2))) || (!x19))) default (impl_IsEvent_p x3)).bind fun x21 =>
    cond (((((((!(x5.2 == x7.2)) || (!x17)) || (!(x9.2 == x11.2))) || (x9.1 != x11.1)) || (!(x13.2 == x15.2))) || (!x19)) || (!(x21 == x5.2)))
      (some false)
      ((opt x5.2 default (laws_pIn_p x7.1 3)).bind fun x23 =>
      (opt (x5.2 && (!(!(x23 == x13.2)))) default (laws_pIn_p x7.1 4)).bind fun x25 =>
      cond (x5.2 && ((!(x23 == x13.2)) || (!(x25 == x9.2))))
        (some false)
        ((opt x13.2 default (impl_IsEvent_p (Event.mk x13.1.segments x13.1.size x13.1.key x13.1.entrants x13.1.gone x13.1.segment x13.1.order x13.1.results))).bind fun x27 =>
        cond (x13.2 && (((!x27) || ((x15.1.order.length:Int) == 0)) || (x15.1.segment != x3.segment)))
          (some false)
          ((spec_DrawGiveScore_p fuel more).bind fun x29 =>
          (impl_GiveScore_p fuel (Event.mk x29.1.segments x29.1.size x29.1.key x29.1.entrants x29.1.gone x29.1.segment x29.1.order x29.1.results) x29.2).bind fun x31 =>
          (spec_GiveScore_p fuel (Event.mk x29.1.segments x29.1.size x29.1.key x29.1.entrants x29.1.gone x29.1.segment x29.1.order x29.1.results) x29.2).bind fun x33 =>
          (opt (!(!(x31.2 == x33.2))) default (laws_pSameEvent_p (Event.mk x31.1.segments x31.1.size x31.1.key x31.1.entrants x31.1.gone x31.1.segment x31.1.order x31.1.results) (Event.mk x33.1.segments x33.1.size x33.1.key x33.1.entrants x33.1.gone x33.1.segment x33.1.order x33.1.results))).bind fun x35 =>
          cond ((!(x31.2 == x33.2)) || (!x35))
            (some false)
            (cond x31.2
              ((impl_NextSkater_p (Event.mk x29.1.segments x29.1.size x29.1.key x29.1.entrants x29.1.gone x29.1.segment x29.1.order x29.1.results)).bind fun x37 =>
              (spec_NextSkater_p fuel (Event.mk x29.1.segments x29.1.size x29.1.key x29.1.entrants x29.1.gone x29.1.segment x29.1.order x29.1.results)).bind fun x39 =>
              (impl_IsEvent_p (Event.mk x31.1.segments x31.1.size x31.1.key x31.1.entrants x31.1.gone x31.1.segment x31.1.order x31.1.results)).bind fun x41 =>
              cond ((((!x41) || (!x37.2)) || (!x39.2)) || (x37.1 != x39.1))
                (some false)
                (laws_FnSteps_l1 more fuel x29 x39 x33.1.results 0))
              ((spec_DrawEnterSkater_p fuel more).bind fun x92 =>
              (impl_EnterSkater_p fuel (Event.mk x92.1.segments x92.1.size x92.1.key x92.1.entrants x92.1.gone x92.1.segment x92.1.order x92.1.results) (Entrant.mk x92.2.skater x92.2.rank)).bind fun x94 =>
              (spec_EnterSkater_p fuel (Event.mk x92.1.segments x92.1.size x92.1.key x92.1.entrants x92.1.gone x92.1.segment x92.1.order x92.1.results) (Entrant.mk x92.2.skater x92.2.rank)).bind fun x96 =>
              (spec_DrawLeaveEvent_p fuel more).bind fun x98 =>
              (impl_LeaveEvent_p (Event.mk x98.1.segments x98.1.size x98.1.key x98.1.entrants x98.1.gone x98.1.segment x98.1.order x98.1.results) x98.2).bind fun x100 =>
              (spec_LeaveEvent_p fuel (Event.mk x98.1.segments x98.1.size x98.1.key x98.1.entrants x98.1.gone x98.1.segment x98.1.order x98.1.results) x98.2).bind fun x102 =>
              (opt (x94.2 == x96.2) default (laws_pSameEvent_p (Event.mk x94.1.segments x94.1.size x94.1.key x94.1.entrants x94.1.gone x94.1.segment x94.1.order x94.1.results) (Event.mk x96.1.segments x96.1.size x96.1.key x96.1.entrants x96.1.gone x96.1.segment x96.1.order x96.1.results))).bind fun x104 =>
              (opt (((x94.2 == x96.2) && x104) && (!(!x94.2))) default (impl_IsEvent_p (Event.mk x94.1.segments x94.1.size x94.1.key x94.1.entrants x94.1.gone x94.1.segment x94.1.order x94.1.results))).bind fun x106 =>
              (opt ((((x94.2 == x96.2) && x104) && ((!x94.2) || x106)) && (x100.2 == x102.2)) default (laws_pSameEvent_p (Event.mk x100.1.segments x100.1.size x100.1.key x100.1.entrants x100.1.gone x100.1.segment x100.1.order x100.1.results) (Event.mk x102.1.segments x102.1.size x102.1.key x102.1.entrants x102.1.gone x102.1.segment x102.1.order x102.1.results))).bind fun x108 =>
              (opt ((((((x94.2 == x96.2) && x104) && ((!x94.2) || x106)) && (x100.2 == x102.2)) && x108) && (!(!x100.2))) default (impl_IsEvent_p (Event.mk x100.1.segments x100.1.size x100.1.key x100.1.entrants x100.1.gone x100.1.segment x100.1.order x100.1.results))).bind fun x110 =>
              (opt (((((((x94.2 == x96.2) && x104) && ((!x94.2) || x106)) && (x100.2 == x102.2)) && x108) && (!(!x100.2))) && x110) default (laws_pIn_p x102.1.gone x98.2)).bind fun x112 =>
              (opt (((((((x94.2 == x96.2) && x104) && ((!x94.2) || x106)) && (x100.2 == x102.2)) && x108) && (!(!x100.2))) && (x110 && x112)) default (laws_pIn_p x98.1.gone x98.2)).bind fun x114 =>
              some ((((((x94.2 == x96.2) && x104) && ((!x94.2) || x106)) && (x100.2 == x102.2)) && x108) && ((!x100.2) || ((x110 && x112) && (!x114))))))))))
theorem laws_FnSteps_ok (fuel:Nat) (code:List Int) (more:List Int) (r:Bool) (hH:laws_FnSteps_p fuel code more=some r):SpecR Tryz.prog 3 [.s (List.map encInt_u8 code),.s (List.map encInt_u8 more)] (.v (.bool r)):=by
 refine fn_ok T Tryz.func3 rfl (by decide) rfl ?_
 refine AW.seq (AW.region (AO.pu T ?_))
 refine AO.nil ?_
 iterate 2 refine AW.seq ?_
 obtain ⟨x1,hx2,hH⟩:=bindE hH
 refine AW.region ?_
 iterate 2 refine AO.pu T ?_
 refine AO.val rfl rfl (callV_ok rfl rfl rfl rfl (laws_big_ok _ _ _ (hx2)) rfl) ?_
 refine AO.nil (AW.cond (b:=x1) rfl (fun hc=>?_) (fun hc=>?_))
 replace hH:=condT hc hH
 refine AW.seq (AW.region (AO.pu T ?_))
 refine AO.nil (AW.ret ?_)
 have hR:=someE hH;subst hR
 exact retQ.i [] rfl (.c (.c .v))
 replace hH:=condF hc hH
 refine AW.skip (AW.seq ?_)
 obtain ⟨x3,hx4,hH⟩:=bindE hH
 refine AW.region (AO.pu T ?_)
 refine AO.val rfl rfl (callV_ok rfl rfl rfl rfl (spec_DrawAllowedSteps_ok fuel _ _ (hx4)) rfl) ?_
 refine AO.step rfl (alloc_ok T rfl 1 rfl rfl rfl rfl rfl) ?_
 refine AO.se T [x3.segments,x3.size,x3.key,.s (List.map encEntrant x3.entrants),.s (List.map encInt x3.gone),x3.segment,.s (List.map encInt x3.order),.s (List.map encResult x3.results)] ?_
 refine AO.nil (AW.seq ?_)
 obtain ⟨x5,hx6,hH⟩:=bindE hH
 refine AW.region (AO.pu T (d:=.g [x3.segments,x3.size,x3.key,.s (List.map encEntrant x3.entrants),.s (List.map encInt x3.gone),x3.segment,.s (List.map encInt x3.order),.s (List.map encResult x3.results)]) ?_)
 refine AO.step rfl (call_ok rfl 2 rfl rfl rfl (impl_AllowedSteps_ok fuel _ _ (hx6)) rfl rfl rfl) ?_
 iterate 5 refine AO.pu T ?_
 refine AO.nil (AW.seq ?_)
 obtain ⟨x7,hx8,hH⟩:=bindE hH
 refine AW.region (AO.pu T (d:=.g [x3.segments,x3.size,x3.key,.s (List.map encEntrant x3.entrants),.s (List.map encInt x3.gone),x3.segment,.s (List.map encInt x3.order),.s (List.map encResult x3.results)]) ?_)
 refine AO.step rfl (call_ok rfl 3 rfl rfl rfl (spec_AllowedSteps_ok fuel _ _ (hx8)) rfl rfl rfl) ?_
 iterate 5 refine AO.pu T ?_
 refine AO.nil (AW.seq ?_)
 obtain ⟨x9,hx10,hH⟩:=bindE hH
 refine AW.region (AO.pu T (d:=.g [x3.segments,x3.size,x3.key,.s (List.map encEntrant x3.entrants),.s (List.map encInt x3.gone),x3.segment,.s (List.map encInt x3.order),.s (List.map encResult x3.results)]) ?_)
 refine AO.val rfl rfl (callV_ok rfl rfl rfl rfl (impl_NextSkater_ok _ _ (hx10)) rfl) ?_
 iterate 5 refine AO.pu T ?_
 refine AO.nil (AW.le (Le.ct 0 0 (σ':=(⟨[(1,.s (List.map encInt_u8 more)),(5,.p 1 0),(6,.R 2),(7,.v (.bool x5.2)),(8,.R 3),(9,.v (.bool x7.2)),(10,x9.1),(11,.v (.bool x9.2))],[(1,.box [x3.segments,x3.size,x3.key,.s (List.map encEntrant x3.entrants),.s (List.map encInt x3.gone),x3.segment,.s (List.map encInt x3.order),.s (List.map encResult x3.results)]),(2,.row 1 (List.map encInt x5.1)),(3,.row 1 (List.map encInt x7.1))],318,[]⟩:St))) ?_)
 refine AW.seq ?_
 obtain ⟨x11,hx12,hH⟩:=bindE hH
 refine AW.region (AO.pu T (d:=.g [x3.segments,x3.size,x3.key,.s (List.map encEntrant x3.entrants),.s (List.map encInt x3.gone),x3.segment,.s (List.map encInt x3.order),.s (List.map encResult x3.results)]) ?_)
 refine AO.val rfl rfl (callV_ok rfl rfl rfl rfl (spec_NextSkater_ok fuel _ _ (hx12)) rfl) ?_
 iterate 5 refine AO.pu T ?_
 refine AO.nil (AW.seq ?_)
 obtain ⟨x13,hx14,hH⟩:=bindE hH
 refine AW.region (AO.pu T (d:=.g [x3.segments,x3.size,x3.key,.s (List.map encEntrant x3.entrants),.s (List.map encInt x3.gone),x3.segment,.s (List.map encInt x3.order),.s (List.map encResult x3.results)]) ?_)
 refine AO.step rfl (call_ok rfl 4 rfl rfl rfl (impl_BeginSegment_ok fuel _ _ (hx14)) rfl rfl rfl) ?_
 refine AO.pu T ?_
 refine AO.pu T (d:=.g [x13.1.segments,x13.1.size,x13.1.key,.R 4,.R 5,x13.1.segment,.R 6,.R 7]) ?_
 refine AO.pu T ?_
 refine AO.step rfl (alloc_ok T rfl 8 rfl rfl rfl rfl rfl) ?_
 refine AO.se T [x13.1.segments,x13.1.size,x13.1.key,.R 4,.R 5,x13.1.segment,.R 6,.R 7] ?_
 refine AO.pu T ?_
 refine AO.nil (AW.seq ?_)
 obtain ⟨x15,hx16,hH⟩:=bindE hH
 refine AW.region (AO.pu T (d:=.g [x3.segments,x3.size,x3.key,.s (List.map encEntrant x3.entrants),.s (List.map encInt x3.gone),x3.segment,.s (List.map encInt x3.order),.s (List.map encResult x3.results)]) ?_)
 refine AO.val rfl rfl (callV_ok rfl rfl rfl rfl (spec_BeginSegment_ok fuel _ _ (hx16)) rfl) ?_
 refine AO.pu T ?_
 refine AO.pu T (d:=.g [x15.1.segments,x15.1.size,x15.1.key,.s (List.map encEntrant x15.1.entrants),.s (List.map encInt x15.1.gone),x15.1.segment,.s (List.map encInt x15.1.order),.s (List.map encResult x15.1.results)]) ?_
 refine AO.pu T ?_
 refine AO.step rfl (alloc_ok T rfl 9 rfl rfl rfl rfl rfl) ?_
 refine AO.se T [x15.1.segments,x15.1.size,x15.1.key,.s (List.map encEntrant x15.1.entrants),.s (List.map encInt x15.1.gone),x15.1.segment,.s (List.map encInt x15.1.order),.s (List.map encResult x15.1.results)] ?_
 refine AO.pu T ?_
 refine AO.nil ?_
 iterate 2 refine AW.seq ?_
 obtain ⟨x17,hx18,hH⟩:=bindE hH
 obtain ⟨x19,hx20,hH⟩:=bindE hH
 obtain ⟨x21,hx22,hH⟩:=bindE hH
 refine AW.region ?_
 iterate 4 refine AO.pu T ?_
 iterate 2 refine AO.pureG T [] rfl trivial rfl rfl ?_
 refine AO.guard [82,83] rfl ⟨fun h=>h,fun h=>h,trivial⟩ (fun hg=>callLV_ok rfl rfl rfl (es:=[.s (List.map encInt x5.1),.s (List.map encInt x7.1)]) ⟨(.rowR rfl (.map fun y=>.vs rfl)),(.rowR rfl (.map fun y=>.vs rfl)),trivial⟩ (laws_sameInts_ok _ _ _ (optT hx18 hg)) (zfree_v _) rfl) rfl ?_
 refine AO.pureG T [84] rfl ⟨fun h=>h,trivial⟩ rfl rfl ?_
 refine AO.val rfl rfl (pick_or rfl rfl rfl rfl) ?_
 refine AO.pu T ?_
 iterate 2 refine AO.pureG T [] rfl trivial rfl rfl ?_
 refine AO.pureG T [88,89] rfl ⟨fun h=>h,fun h=>h,trivial⟩ rfl rfl ?_
 refine AO.val rfl rfl (pick_or rfl rfl rfl rfl) ?_
 refine AO.pu T ?_
 iterate 2 refine AO.pureG T [] rfl trivial rfl rfl ?_
 refine AO.pureG T [93,94] rfl ⟨fun h=>h,fun h=>h,trivial⟩ rfl rfl ?_
 refine AO.val rfl rfl (pick_or rfl rfl rfl rfl) ?_
 refine AO.pu T ?_
 iterate 2 refine AO.pureG T [] rfl trivial rfl rfl ?_
 refine AO.pureG T [98,99] rfl ⟨fun h=>h,fun h=>h,trivial⟩ rfl rfl ?_
 refine AO.val rfl rfl (pick_or rfl rfl rfl rfl) ?_
 refine AO.pu T ?_
 refine AO.pureG T (d:=.g [x13.1.segments,x13.1.size,x13.1.key,.R 4,.R 5,x13.1.segment,.R 6,.R 7]) [] rfl trivial rfl rfl ?_
 refine AO.pureG T (d:=.g [x15.1.segments,x15.1.size,x15.1.key,.s (List.map encEntrant x15.1.entrants),.s (List.map encInt x15.1.gone),x15.1.segment,.s (List.map encInt x15.1.order),.s (List.map encResult x15.1.results)]) [] rfl trivial rfl rfl ?_
 refine AO.guard [103,104] rfl ⟨fun h=>h,fun h=>h,trivial⟩ (fun hg=>callLV_ok rfl rfl rfl (es:=[.g (encEvent (Event.mk x13.1.segments x13.1.size x13.1.key x13.1.entrants x13.1.gone x13.1.segment x13.1.order x13.1.results)),.g (encEvent (Event.mk x15.1.segments x15.1.size x15.1.key x15.1.entrants x15.1.gone x15.1.segment x15.1.order x15.1.results))]) ⟨lend_g (LendL.cons (.free rfl) (LendL.cons (.free rfl) (LendL.cons (.free rfl) (LendL.cons ((.rowR rfl (.map fun y=>.vs rfl))) (LendL.cons ((.rowR rfl (.map fun y=>.vs rfl))) (LendL.cons (.free rfl) (LendL.cons ((.rowR rfl (.map fun y=>.vs rfl))) (LendL.cons ((.rowR rfl (.map fun y=>frzResult y))) LendL.nil)))))))),.free rfl,trivial⟩ (laws_pSameEvent_ok _ _ _ (optT hx20 hg)) (zfree_v _) rfl) rfl ?_
 refine AO.pureG T [105] rfl ⟨fun h=>h,trivial⟩ rfl rfl ?_
 refine AO.val rfl rfl (pick_or rfl rfl rfl rfl) ?_
 refine AO.pu T ?_
 refine AO.pureG T (d:=.g [x3.segments,x3.size,x3.key,.s (List.map encEntrant x3.entrants),.s (List.map encInt x3.gone),x3.segment,.s (List.map encInt x3.order),.s (List.map encResult x3.results)]) [] rfl trivial rfl rfl ?_
 refine AO.guard [109] rfl ⟨fun h=>h,trivial⟩ (fun hg=>callV_ok rfl rfl rfl rfl (impl_IsEvent_ok _ _ (optT hx22 hg)) rfl) rfl ?_
 refine AO.pureG T [] rfl trivial rfl rfl ?_
 refine AO.pureG T [110,111] rfl ⟨fun h=>h,fun h=>h,trivial⟩ rfl rfl ?_
 refine AO.val rfl rfl (pick_or rfl rfl rfl rfl) ?_
 refine AO.nil (AW.le (Le.ct 0 0 (σ':=(⟨[(1,.s (List.map encInt_u8 more)),(5,.p 1 0),(7,.v (.bool x5.2)),(8,.R 3),(11,.v (.bool x9.2)),(14,.p 8 0),(15,.v (.bool x13.2)),(16,.p 9 0),(113,.v (.bool (((((((!(x5.2 == x7.2)) || (!x17)) || (!(x9.2 == x11.2))) || (x9.1 != x11.1)) || (!(x13.2 == x15.2))) || (!x19)) || (!(x21 == x5.2)))))],[(1,.box [x3.segments,x3.size,x3.key,.s (List.map encEntrant x3.entrants),.s (List.map encInt x3.gone),x3.segment,.s (List.map encInt x3.order),.s (List.map encResult x3.results)]),(3,.row 1 (List.map encInt x7.1)),(4,.row 2 (List.map encEntrant x13.1.entrants)),(5,.row 1 (List.map encInt x13.1.gone)),(6,.row 1 (List.map encInt x13.1.order)),(7,.row 2 (List.map encResultO x13.1.results)),(8,.box [x13.1.segments,x13.1.size,x13.1.key,.R 4,.R 5,x13.1.segment,.R 6,.R 7]),(9,.box [x15.1.segments,x15.1.size,x15.1.key,.s (List.map encEntrant x15.1.entrants),.s (List.map encInt x15.1.gone),x15.1.segment,.s (List.map encInt x15.1.order),.s (List.map encResult x15.1.results)])],318,[]⟩:St))) ?_)
 refine AW.cond (b:=(((((((!(x5.2 == x7.2)) || (!x17)) || (!(x9.2 == x11.2))) || (x9.1 != x11.1)) || (!(x13.2 == x15.2))) || (!x19)) || (!(x21 == x5.2)))) rfl (fun hc=>?_) (fun hc=>?_)
 replace hH:=condT hc hH
 refine AW.seq (AW.region (AO.pu T ?_))
 refine AO.nil (AW.ret ?_)
 have hR:=someE hH;subst hR
 exact retQ.i [] rfl (.c (.c .v))
 replace hH:=condF hc hH
 refine AW.skip ?_
 iterate 2 refine AW.seq ?_
 obtain ⟨x23,hx24,hH⟩:=bindE hH
 obtain ⟨x25,hx26,hH⟩:=bindE hH
 refine AW.region ?_
 iterate 2 refine AO.pu T ?_
 refine AO.pureG T [] rfl trivial rfl rfl ?_
 refine AO.guard [116] rfl ⟨fun h=>h,trivial⟩ (fun hg=>callLV_ok rfl rfl rfl (es:=[.s (List.map encInt x7.1),(3:Int)]) ⟨(.rowR rfl (.map fun y=>.vs rfl)),.free rfl,trivial⟩ (laws_pIn_ok _ _ _ (optT hx24 hg)) (zfree_v _) rfl) rfl ?_
 refine AO.pureG T [] rfl trivial rfl rfl ?_
 refine AO.pureG T [117,118] rfl ⟨fun h=>h,fun h=>h,trivial⟩ rfl rfl ?_
 refine AO.pureG T [119] rfl ⟨fun h=>h,trivial⟩ rfl rfl ?_
 refine AO.pureG T [] rfl trivial rfl rfl ?_
 refine AO.guard [121] rfl ⟨fun h=>h,trivial⟩ (fun hg=>callLV_ok rfl rfl rfl (es:=[.s (List.map encInt x7.1),(4:Int)]) ⟨(.rowR rfl (.map fun y=>.vs rfl)),.free rfl,trivial⟩ (laws_pIn_ok _ _ _ (optT hx26 hg)) (zfree_v _) rfl) rfl ?_
 refine AO.pureG T [] rfl trivial rfl rfl ?_
 refine AO.pureG T [122,123] rfl ⟨fun h=>h,fun h=>h,trivial⟩ rfl rfl ?_
 refine AO.guard [120] rfl ⟨fun h=>h,trivial⟩ (fun hg=>pick_or rfl rfl rfl (by rw [hg];exact Bool.true_and _)) rfl ?_
 refine AO.val rfl rfl (pick_and rfl rfl rfl rfl) ?_
 refine AO.nil (AW.cond (b:=(x5.2 && ((!(x23 == x13.2)) || (!(x25 == x9.2))))) rfl (fun hc=>?_) (fun hc=>?_))
 replace hH:=condT hc hH
 refine AW.seq (AW.region (AO.pu T ?_))
 refine AO.nil (AW.ret ?_)
 have hR:=someE hH;subst hR
 exact retQ.i [] rfl (.c (.c .v))
 replace hH:=condF hc hH
 refine AW.skip ?_
 iterate 2 refine AW.seq ?_
 obtain ⟨x27,hx28,hH⟩:=bindE hH
 refine AW.region ?_
 iterate 2 refine AO.pu T ?_
 refine AO.pureG T (d:=.g [x13.1.segments,x13.1.size,x13.1.key,.R 4,.R 5,x13.1.segment,.R 6,.R 7]) [] rfl trivial rfl rfl ?_
 refine AO.guard [129] rfl ⟨fun h=>h,trivial⟩ (fun hg=>callLV_ok rfl rfl rfl (es:=[.g (encEvent (Event.mk x13.1.segments x13.1.size x13.1.key x13.1.entrants x13.1.gone x13.1.segment x13.1.order x13.1.results))]) ⟨lend_g (LendL.cons (.free rfl) (LendL.cons (.free rfl) (LendL.cons (.free rfl) (LendL.cons ((.rowR rfl (.map fun y=>.vs rfl))) (LendL.cons ((.rowR rfl (.map fun y=>.vs rfl))) (LendL.cons (.free rfl) (LendL.cons ((.rowR rfl (.map fun y=>.vs rfl))) (LendL.cons ((.rowR rfl (.map fun y=>frzResult y))) LendL.nil)))))))),trivial⟩ (impl_IsEvent_ok _ _ (optT hx28 hg)) (zfree_v _) rfl) rfl ?_
 refine AO.pureG T [130] rfl ⟨fun h=>h,trivial⟩ rfl rfl ?_
 refine AO.pureG T [131] rfl ⟨fun h=>h,trivial⟩ rfl rfl ?_
 refine AO.pureG T [] rfl trivial rfl rfl ?_
 refine AO.pureG T [133] rfl ⟨fun h=>h,trivial⟩ rfl rfl ?_
 refine AO.guard [134] rfl ⟨fun h=>h,trivial⟩ (fun hg=>len_map_ok T rfl rfl rfl) rfl ?_
 refine AO.pureG T [135] rfl ⟨fun h=>h,trivial⟩ rfl rfl ?_
 refine AO.guard [132] rfl ⟨fun h=>h,trivial⟩ (fun hg=>pick_or rfl rfl rfl (by rw [hg];exact Bool.true_and _)) rfl ?_
 refine AO.pureG T [137] rfl ⟨fun h=>h,trivial⟩ rfl rfl ?_
 refine AO.pureG T [] rfl trivial rfl rfl ?_
 refine AO.pureG T [139] rfl ⟨fun h=>h,trivial⟩ rfl rfl ?_
 refine AO.pureG T [] rfl trivial rfl rfl ?_
 refine AO.pureG T [141] rfl ⟨fun h=>h,trivial⟩ rfl rfl ?_
 refine AO.pureG T [140,142] rfl ⟨fun h=>h,fun h=>h,trivial⟩ rfl rfl ?_
 refine AO.guard [138] rfl ⟨fun h=>h,trivial⟩ (fun hg=>pick_or rfl rfl rfl (by rw [hg];exact Bool.true_and _)) rfl ?_
 refine AO.val rfl rfl (pick_and rfl rfl rfl rfl) ?_
 refine AO.nil (AW.le (Le.ct 0 0 (σ':=(⟨[(1,.s (List.map encInt_u8 more)),(145,.v (.bool (x13.2 && (((!x27) || ((x15.1.order.length:Int) == 0)) || (x15.1.segment != x3.segment)))))],[],318,[]⟩:St))) ?_)
 refine AW.cond (b:=(x13.2 && (((!x27) || ((x15.1.order.length:Int) == 0)) || (x15.1.segment != x3.segment)))) rfl (fun hc=>?_) (fun hc=>?_)
 replace hH:=condT hc hH
 refine AW.seq (AW.region (AO.pu T ?_))
 refine AO.nil (AW.ret ?_)
 have hR:=someE hH;subst hR
 exact retQ.i [] rfl (.c (.c .v))
 replace hH:=condF hc hH
 refine AW.skip (AW.seq ?_)
 obtain ⟨x29,hx30,hH⟩:=bindE hH
 refine AW.region (AO.pu T ?_)
 refine AO.val rfl rfl (callV_ok rfl rfl rfl rfl (spec_DrawGiveScore_ok fuel _ _ (hx30)) rfl) ?_
 refine AO.pu T ?_
 refine AO.pu T (d:=.g [x29.1.segments,x29.1.size,x29.1.key,.s (List.map encEntrant x29.1.entrants),.s (List.map encInt x29.1.gone),x29.1.segment,.s (List.map encInt x29.1.order),.s (List.map encResult x29.1.results)]) ?_
 refine AO.pu T ?_
 refine AO.step rfl (alloc_ok T rfl 10 rfl rfl rfl rfl rfl) ?_
 refine AO.se T [x29.1.segments,x29.1.size,x29.1.key,.s (List.map encEntrant x29.1.entrants),.s (List.map encInt x29.1.gone),x29.1.segment,.s (List.map encInt x29.1.order),.s (List.map encResult x29.1.results)] ?_
 refine AO.pu T ?_
 refine AO.nil (AW.seq ?_)
 obtain ⟨x31,hx32,hH⟩:=bindE hH
 refine AW.region (AO.pu T (d:=.g [x29.1.segments,x29.1.size,x29.1.key,.s (List.map encEntrant x29.1.entrants),.s (List.map encInt x29.1.gone),x29.1.segment,.s (List.map encInt x29.1.order),.s (List.map encResult x29.1.results)]) ?_)
 refine AO.pu T ?_
 refine AO.step rfl (call_ok rfl 11 rfl rfl rfl (impl_GiveScore_ok fuel _ _ _ (hx32)) rfl rfl rfl) ?_
 refine AO.pu T ?_
 refine AO.pu T (d:=.g [x31.1.segments,x31.1.size,x31.1.key,.R 11,.R 12,x31.1.segment,.R 13,.R 14]) ?_
 refine AO.pu T ?_
 refine AO.step rfl (alloc_ok T rfl 15 rfl rfl rfl rfl rfl) ?_
 refine AO.se T [x31.1.segments,x31.1.size,x31.1.key,.R 11,.R 12,x31.1.segment,.R 13,.R 14] ?_
 refine AO.pu T ?_
 refine AO.nil (AW.seq ?_)
 obtain ⟨x33,hx34,hH⟩:=bindE hH
 refine AW.region (AO.pu T (d:=.g [x29.1.segments,x29.1.size,x29.1.key,.s (List.map encEntrant x29.1.entrants),.s (List.map encInt x29.1.gone),x29.1.segment,.s (List.map encInt x29.1.order),.s (List.map encResult x29.1.results)]) ?_)
 refine AO.pu T ?_
 refine AO.val rfl rfl (callV_ok rfl rfl rfl rfl (spec_GiveScore_ok fuel _ _ _ (hx34)) rfl) ?_
 refine AO.pu T ?_
 refine AO.pu T (d:=.g [x33.1.segments,x33.1.size,x33.1.key,.s (List.map encEntrant x33.1.entrants),.s (List.map encInt x33.1.gone),x33.1.segment,.s (List.map encInt x33.1.order),.s (List.map encResult x33.1.results)]) ?_
 refine AO.pu T ?_
 refine AO.step rfl (alloc_ok T rfl 16 rfl rfl rfl rfl rfl) ?_
 refine AO.se T [x33.1.segments,x33.1.size,x33.1.key,.s (List.map encEntrant x33.1.entrants),.s (List.map encInt x33.1.gone),x33.1.segment,.s (List.map encInt x33.1.order),.s (List.map encResult x33.1.results)] ?_
 refine AO.pu T ?_
 refine AO.nil (AW.le (Le.ct 0 0 (σ':=(⟨[(1,.s (List.map encInt_u8 more)),(18,.p 10 0),(19,x29.2),(20,.p 15 0),(21,.v (.bool x31.2)),(22,.p 16 0),(23,.v (.bool x33.2))],[(10,.box [x29.1.segments,x29.1.size,x29.1.key,.s (List.map encEntrant x29.1.entrants),.s (List.map encInt x29.1.gone),x29.1.segment,.s (List.map encInt x29.1.order),.s (List.map encResult x29.1.results)]),(11,.row 2 (List.map encEntrant x31.1.entrants)),(12,.row 1 (List.map encInt x31.1.gone)),(13,.row 1 (List.map encInt x31.1.order)),(14,.row 2 (List.map encResultO x31.1.results)),(15,.box [x31.1.segments,x31.1.size,x31.1.key,.R 11,.R 12,x31.1.segment,.R 13,.R 14]),(16,.box [x33.1.segments,x33.1.size,x33.1.key,.s (List.map encEntrant x33.1.entrants),.s (List.map encInt x33.1.gone),x33.1.segment,.s (List.map encInt x33.1.order),.s (List.map encResult x33.1.results)])],318,[]⟩:St))) ?_)
 iterate 2 refine AW.seq ?_
 obtain ⟨x35,hx36,hH⟩:=bindE hH
 refine AW.region ?_
 iterate 4 refine AO.pu T ?_
 refine AO.pureG T (d:=.g [x31.1.segments,x31.1.size,x31.1.key,.R 11,.R 12,x31.1.segment,.R 13,.R 14]) [] rfl trivial rfl rfl ?_
 refine AO.pureG T (d:=.g [x33.1.segments,x33.1.size,x33.1.key,.s (List.map encEntrant x33.1.entrants),.s (List.map encInt x33.1.gone),x33.1.segment,.s (List.map encInt x33.1.order),.s (List.map encResult x33.1.results)]) [] rfl trivial rfl rfl ?_
 refine AO.guard [167,168] rfl ⟨fun h=>h,fun h=>h,trivial⟩ (fun hg=>callLV_ok rfl rfl rfl (es:=[.g (encEvent (Event.mk x31.1.segments x31.1.size x31.1.key x31.1.entrants x31.1.gone x31.1.segment x31.1.order x31.1.results)),.g (encEvent (Event.mk x33.1.segments x33.1.size x33.1.key x33.1.entrants x33.1.gone x33.1.segment x33.1.order x33.1.results))]) ⟨lend_g (LendL.cons (.free rfl) (LendL.cons (.free rfl) (LendL.cons (.free rfl) (LendL.cons ((.rowR rfl (.map fun y=>.vs rfl))) (LendL.cons ((.rowR rfl (.map fun y=>.vs rfl))) (LendL.cons (.free rfl) (LendL.cons ((.rowR rfl (.map fun y=>.vs rfl))) (LendL.cons ((.rowR rfl (.map fun y=>frzResult y))) LendL.nil)))))))),.free rfl,trivial⟩ (laws_pSameEvent_ok _ _ _ (optT hx36 hg)) (zfree_v _) rfl) rfl ?_
 refine AO.pureG T [169] rfl ⟨fun h=>h,trivial⟩ rfl rfl ?_
 refine AO.val rfl rfl (pick_or rfl rfl rfl rfl) ?_
 refine AO.nil (AW.cond (b:=((!(x31.2 == x33.2)) || (!x35))) rfl (fun hc=>?_) (fun hc=>?_))
 replace hH:=condT hc hH
 refine AW.seq (AW.region (AO.pu T ?_))
 refine AO.nil (AW.ret ?_)
 have hR:=someE hH;subst hR
 exact retQ.i [] rfl (.c (.c .v))
 replace hH:=condF hc hH
 refine AW.skip ?_
 iterate 2 refine AW.seq ?_
 refine AW.region (AO.pu T ?_)
 refine AO.nil (AW.cond (b:=x31.2) rfl (fun hc=>?_) (fun hc=>?_))
 replace hH:=condT hc hH
 refine AW.seq ?_
 obtain ⟨x37,hx38,hH⟩:=bindE hH
 refine AW.region (AO.pu T (d:=.g [x29.1.segments,x29.1.size,x29.1.key,.s (List.map encEntrant x29.1.entrants),.s (List.map encInt x29.1.gone),x29.1.segment,.s (List.map encInt x29.1.order),.s (List.map encResult x29.1.results)]) ?_)
 refine AO.val rfl rfl (callV_ok rfl rfl rfl rfl (impl_NextSkater_ok _ _ (hx38)) rfl) ?_
 iterate 5 refine AO.pu T ?_
 refine AO.nil (AW.seq ?_)
 obtain ⟨x39,hx40,hH⟩:=bindE hH
 refine AW.region (AO.pu T (d:=.g [x29.1.segments,x29.1.size,x29.1.key,.s (List.map encEntrant x29.1.entrants),.s (List.map encInt x29.1.gone),x29.1.segment,.s (List.map encInt x29.1.order),.s (List.map encResult x29.1.results)]) ?_)
 refine AO.val rfl rfl (callV_ok rfl rfl rfl rfl (spec_NextSkater_ok fuel _ _ (hx40)) rfl) ?_
 iterate 5 refine AO.pu T ?_
 refine AO.nil (AW.le (Le.ct 0 0 (σ':=(⟨[(1,.s (List.map encInt_u8 more)),(18,.p 10 0),(19,x29.2),(20,.p 15 0),(22,.p 16 0),(24,x37.1),(25,.v (.bool x37.2)),(26,x39.1),(27,.v (.bool x39.2))],[(10,.box [x29.1.segments,x29.1.size,x29.1.key,.s (List.map encEntrant x29.1.entrants),.s (List.map encInt x29.1.gone),x29.1.segment,.s (List.map encInt x29.1.order),.s (List.map encResult x29.1.results)]),(11,.row 2 (List.map encEntrant x31.1.entrants)),(12,.row 1 (List.map encInt x31.1.gone)),(13,.row 1 (List.map encInt x31.1.order)),(14,.row 2 (List.map encResultO x31.1.results)),(15,.box [x31.1.segments,x31.1.size,x31.1.key,.R 11,.R 12,x31.1.segment,.R 13,.R 14]),(16,.box [x33.1.segments,x33.1.size,x33.1.key,.s (List.map encEntrant x33.1.entrants),.s (List.map encInt x33.1.gone),x33.1.segment,.s (List.map encInt x33.1.order),.s (List.map encResult x33.1.results)])],318,[]⟩:St))) ?_)
 iterate 2 refine AW.seq ?_
 obtain ⟨x41,hx42,hH⟩:=bindE hH
 refine AW.region (AO.pu T (d:=.g [x31.1.segments,x31.1.size,x31.1.key,.R 11,.R 12,x31.1.segment,.R 13,.R 14]) ?_)
 refine AO.val rfl rfl (callLV_ok rfl rfl rfl (es:=[.g (encEvent (Event.mk x31.1.segments x31.1.size x31.1.key x31.1.entrants x31.1.gone x31.1.segment x31.1.order x31.1.results))]) ⟨lend_g (LendL.cons (.free rfl) (LendL.cons (.free rfl) (LendL.cons (.free rfl) (LendL.cons ((.rowR rfl (.map fun y=>.vs rfl))) (LendL.cons ((.rowR rfl (.map fun y=>.vs rfl))) (LendL.cons (.free rfl) (LendL.cons ((.rowR rfl (.map fun y=>.vs rfl))) (LendL.cons ((.rowR rfl (.map fun y=>frzResult y))) LendL.nil)))))))),trivial⟩ (impl_IsEvent_ok _ _ (hx42)) (zfree_v _) rfl) ?_
 iterate 2 refine AO.pu T ?_
 refine AO.pureG T [] rfl trivial rfl rfl ?_
 refine AO.pureG T [187] rfl ⟨fun h=>h,trivial⟩ rfl rfl ?_
 refine AO.val rfl rfl (pick_or rfl rfl rfl rfl) ?_
 refine AO.pu T ?_
 refine AO.pureG T [] rfl trivial rfl rfl ?_
 refine AO.pureG T [191] rfl ⟨fun h=>h,trivial⟩ rfl rfl ?_
 refine AO.val rfl rfl (pick_or rfl rfl rfl rfl) ?_
 refine AO.pu T ?_
 iterate 2 refine AO.pureG T [] rfl trivial rfl rfl ?_
 refine AO.pureG T [195,196] rfl ⟨fun h=>h,fun h=>h,trivial⟩ rfl rfl ?_
 refine AO.val rfl rfl (pick_or rfl rfl rfl rfl) ?_
 refine AO.nil (AW.cond (b:=((((!x41) || (!x37.2)) || (!x39.2)) || (x37.1 != x39.1))) rfl (fun hc=>?_) (fun hc=>?_))
 replace hH:=condT hc hH
 refine AW.seq (AW.region (AO.pu T ?_))
 refine AO.nil (AW.ret ?_)
 have hR:=someE hH;subst hR
 exact retQ.i [] rfl (.c (.c .v))
 replace hH:=condF hc hH
 refine AW.skip (AW.seq (AW.region ?_))
 iterate 2 refine AO.pu T ?_
 refine AO.val rfl rfl (len_map_ok T rfl rfl rfl) ?_
 refine AO.pu T ?_
 refine AO.nil (AW.block ?_)
 refine AW.loopS (fun s:Nat=>(⟨[(1,.s (List.map encInt_u8 more)),(18,.p 10 0),(19,x29.2),(26,x39.1),(200,.s (List.map encResult x33.1.results)),(201,(x33.1.results.length:Int)),(202,(s:Int))],[(10,.box [x29.1.segments,x29.1.size,x29.1.key,.s (List.map encEntrant x29.1.entrants),.s (List.map encInt x29.1.gone),x29.1.segment,.s (List.map encInt x29.1.order),.s (List.map encResult x29.1.results)])],318,[]⟩:St)) (fun s=>s ≤ x33.1.results.length∧laws_FnSteps_l1 more fuel x29 x39 (x33.1.results.drop s) s=some r) (fun s=>x33.1.results.length - s) 0 ⟨Nat.zero_le _,hH⟩ ?_ ?_
 exact Le.ct 0 0
 rintro k43 ⟨hk,hH⟩
 replace hH:laws_FnSteps_l1 more fuel x29 x39 (x33.1.results.drop k43) k43=some r:=hH
 try dsimp only
 refine AW.boundM (t:=200) (l:=x33.1.results) rfl (fun hb47=>?_)
 rcases hd46:x33.1.results.drop k43 with _ | ⟨y44,ys45⟩
 rw [hd46,laws_FnSteps_l1] at hH
 have hlt48:=drop_ge hd46
 refine AW.seq (AW.region (AO.pu T ?_))
 refine AO.nil (AW.seq (AW.condF' (b:=decide ((k43:Int) < (x33.1.results.length:Int))) rfl (rngF hlt48) ?_))
 refine AW.exit (AW.seq ?_)
 obtain ⟨x62,hx63,hH⟩:=bindE hH
 refine AW.region (AO.pu T ?_)
 refine AO.val rfl rfl (callV_ok rfl rfl rfl rfl (spec_DrawEnterSkater_ok fuel _ _ (hx63)) rfl) ?_
 refine AO.pu T ?_
 refine AO.pu T (d:=.g [x62.1.segments,x62.1.size,x62.1.key,.s (List.map encEntrant x62.1.entrants),.s (List.map encInt x62.1.gone),x62.1.segment,.s (List.map encInt x62.1.order),.s (List.map encResult x62.1.results)]) ?_
 refine AO.pu T (d:=.g [x62.2.skater,x62.2.rank]) ?_
 refine AO.step rfl (alloc_ok T rfl 19 rfl rfl rfl rfl rfl) ?_
 refine AO.step rfl (alloc_ok T rfl 20 rfl rfl rfl rfl rfl) ?_
 refine AO.se T [x62.1.segments,x62.1.size,x62.1.key,.s (List.map encEntrant x62.1.entrants),.s (List.map encInt x62.1.gone),x62.1.segment,.s (List.map encInt x62.1.order),.s (List.map encResult x62.1.results)] ?_
 refine AO.se T [x62.2.skater,x62.2.rank] ?_
 refine AO.nil (AW.seq ?_)
 obtain ⟨x64,hx65,hH⟩:=bindE hH
 refine AW.region (AO.pu T (d:=.g [x62.1.segments,x62.1.size,x62.1.key,.s (List.map encEntrant x62.1.entrants),.s (List.map encInt x62.1.gone),x62.1.segment,.s (List.map encInt x62.1.order),.s (List.map encResult x62.1.results)]) ?_)
 refine AO.pu T (d:=.g [x62.2.skater,x62.2.rank]) ?_
 refine AO.step rfl (call_ok rfl 21 rfl rfl rfl (impl_EnterSkater_ok fuel _ _ _ (hx65)) rfl rfl rfl) ?_
 refine AO.pu T ?_
 refine AO.pu T (d:=.g [x64.1.segments,x64.1.size,x64.1.key,.R 21,.R 22,x64.1.segment,.R 23,.R 24]) ?_
 refine AO.pu T ?_
 refine AO.step rfl (alloc_ok T rfl 25 rfl rfl rfl rfl rfl) ?_
 refine AO.se T [x64.1.segments,x64.1.size,x64.1.key,.R 21,.R 22,x64.1.segment,.R 23,.R 24] ?_
 refine AO.pu T ?_
 refine AO.nil (AW.seq ?_)
 obtain ⟨x66,hx67,hH⟩:=bindE hH
 refine AW.region (AO.pu T (d:=.g [x62.1.segments,x62.1.size,x62.1.key,.s (List.map encEntrant x62.1.entrants),.s (List.map encInt x62.1.gone),x62.1.segment,.s (List.map encInt x62.1.order),.s (List.map encResult x62.1.results)]) ?_)
 refine AO.pu T (d:=.g [x62.2.skater,x62.2.rank]) ?_
 refine AO.val rfl rfl (callV_ok rfl rfl rfl rfl (spec_EnterSkater_ok fuel _ _ _ (hx67)) rfl) ?_
 refine AO.pu T ?_
 refine AO.pu T (d:=.g [x66.1.segments,x66.1.size,x66.1.key,.s (List.map encEntrant x66.1.entrants),.s (List.map encInt x66.1.gone),x66.1.segment,.s (List.map encInt x66.1.order),.s (List.map encResult x66.1.results)]) ?_
 refine AO.pu T ?_
 refine AO.step rfl (alloc_ok T rfl 26 rfl rfl rfl rfl rfl) ?_
 refine AO.se T [x66.1.segments,x66.1.size,x66.1.key,.s (List.map encEntrant x66.1.entrants),.s (List.map encInt x66.1.gone),x66.1.segment,.s (List.map encInt x66.1.order),.s (List.map encResult x66.1.results)] ?_
 refine AO.pu T ?_
 refine AO.nil (AW.le (Le.ct 0 0 (σ':=(⟨[(1,.s (List.map encInt_u8 more)),(33,.p 25 0),(34,.v (.bool x64.2)),(35,.p 26 0),(36,.v (.bool x66.2))],[(21,.row 2 (List.map encEntrant x64.1.entrants)),(22,.row 1 (List.map encInt x64.1.gone)),(23,.row 1 (List.map encInt x64.1.order)),(24,.row 2 (List.map encResultO x64.1.results)),(25,.box [x64.1.segments,x64.1.size,x64.1.key,.R 21,.R 22,x64.1.segment,.R 23,.R 24]),(26,.box [x66.1.segments,x66.1.size,x66.1.key,.s (List.map encEntrant x66.1.entrants),.s (List.map encInt x66.1.gone),x66.1.segment,.s (List.map encInt x66.1.order),.s (List.map encResult x66.1.results)])],318,[]⟩:St))) ?_)
 refine AW.seq ?_
 obtain ⟨x68,hx69,hH⟩:=bindE hH
 refine AW.region (AO.pu T ?_)
 refine AO.val rfl rfl (callV_ok rfl rfl rfl rfl (spec_DrawLeaveEvent_ok fuel _ _ (hx69)) rfl) ?_
 refine AO.pu T ?_
 refine AO.pu T (d:=.g [x68.1.segments,x68.1.size,x68.1.key,.s (List.map encEntrant x68.1.entrants),.s (List.map encInt x68.1.gone),x68.1.segment,.s (List.map encInt x68.1.order),.s (List.map encResult x68.1.results)]) ?_
 refine AO.pu T ?_
 refine AO.step rfl (alloc_ok T rfl 27 rfl rfl rfl rfl rfl) ?_
 refine AO.se T [x68.1.segments,x68.1.size,x68.1.key,.s (List.map encEntrant x68.1.entrants),.s (List.map encInt x68.1.gone),x68.1.segment,.s (List.map encInt x68.1.order),.s (List.map encResult x68.1.results)] ?_
 refine AO.pu T ?_
 refine AO.nil (AW.seq ?_)
 obtain ⟨x70,hx71,hH⟩:=bindE hH
 refine AW.region (AO.pu T (d:=.g [x68.1.segments,x68.1.size,x68.1.key,.s (List.map encEntrant x68.1.entrants),.s (List.map encInt x68.1.gone),x68.1.segment,.s (List.map encInt x68.1.order),.s (List.map encResult x68.1.results)]) ?_)
 refine AO.pu T ?_
 refine AO.step rfl (call_ok rfl 28 rfl rfl rfl (impl_LeaveEvent_ok _ _ _ (hx71)) rfl rfl rfl) ?_
 refine AO.pu T ?_
 refine AO.pu T (d:=.g [x70.1.segments,x70.1.size,x70.1.key,.R 28,.R 29,x70.1.segment,.R 30,.R 31]) ?_
 refine AO.pu T ?_
 refine AO.step rfl (alloc_ok T rfl 32 rfl rfl rfl rfl rfl) ?_
 refine AO.se T [x70.1.segments,x70.1.size,x70.1.key,.R 28,.R 29,x70.1.segment,.R 30,.R 31] ?_
 refine AO.pu T ?_
 refine AO.nil (AW.seq ?_)
 obtain ⟨x72,hx73,hH⟩:=bindE hH
 refine AW.region (AO.pu T (d:=.g [x68.1.segments,x68.1.size,x68.1.key,.s (List.map encEntrant x68.1.entrants),.s (List.map encInt x68.1.gone),x68.1.segment,.s (List.map encInt x68.1.order),.s (List.map encResult x68.1.results)]) ?_)
 refine AO.pu T ?_
 refine AO.val rfl rfl (callV_ok rfl rfl rfl rfl (spec_LeaveEvent_ok fuel _ _ _ (hx73)) rfl) ?_
 refine AO.pu T ?_
 refine AO.pu T (d:=.g [x72.1.segments,x72.1.size,x72.1.key,.s (List.map encEntrant x72.1.entrants),.s (List.map encInt x72.1.gone),x72.1.segment,.s (List.map encInt x72.1.order),.s (List.map encResult x72.1.results)]) ?_
 refine AO.pu T ?_
 refine AO.step rfl (alloc_ok T rfl 33 rfl rfl rfl rfl rfl) ?_
 refine AO.se T [x72.1.segments,x72.1.size,x72.1.key,.s (List.map encEntrant x72.1.entrants),.s (List.map encInt x72.1.gone),x72.1.segment,.s (List.map encInt x72.1.order),.s (List.map encResult x72.1.results)] ?_
 refine AO.pu T ?_
 refine AO.nil (AW.le (Le.ct 0 0 (σ':=(⟨[(33,.p 25 0),(34,.v (.bool x64.2)),(35,.p 26 0),(36,.v (.bool x66.2)),(37,.p 27 0),(38,x68.2),(39,.p 32 0),(40,.v (.bool x70.2)),(41,.p 33 0),(42,.v (.bool x72.2))],[(21,.row 2 (List.map encEntrant x64.1.entrants)),(22,.row 1 (List.map encInt x64.1.gone)),(23,.row 1 (List.map encInt x64.1.order)),(24,.row 2 (List.map encResultO x64.1.results)),(25,.box [x64.1.segments,x64.1.size,x64.1.key,.R 21,.R 22,x64.1.segment,.R 23,.R 24]),(26,.box [x66.1.segments,x66.1.size,x66.1.key,.s (List.map encEntrant x66.1.entrants),.s (List.map encInt x66.1.gone),x66.1.segment,.s (List.map encInt x66.1.order),.s (List.map encResult x66.1.results)]),(27,.box [x68.1.segments,x68.1.size,x68.1.key,.s (List.map encEntrant x68.1.entrants),.s (List.map encInt x68.1.gone),x68.1.segment,.s (List.map encInt x68.1.order),.s (List.map encResult x68.1.results)]),(28,.row 2 (List.map encEntrant x70.1.entrants)),(29,.row 1 (List.map encInt x70.1.gone)),(30,.row 1 (List.map encInt x70.1.order)),(31,.row 2 (List.map encResultO x70.1.results)),(32,.box [x70.1.segments,x70.1.size,x70.1.key,.R 28,.R 29,x70.1.segment,.R 30,.R 31]),(33,.box [x72.1.segments,x72.1.size,x72.1.key,.s (List.map encEntrant x72.1.entrants),.s (List.map encInt x72.1.gone),x72.1.segment,.s (List.map encInt x72.1.order),.s (List.map encResult x72.1.results)])],318,[]⟩:St))) ?_)
 refine AW.seq ?_
 obtain ⟨x74,hx75,hH⟩:=bindE hH
 obtain ⟨x76,hx77,hH⟩:=bindE hH
 obtain ⟨x78,hx79,hH⟩:=bindE hH
 obtain ⟨x80,hx81,hH⟩:=bindE hH
 obtain ⟨x82,hx83,hH⟩:=bindE hH
 obtain ⟨x84,hx85,hH⟩:=bindE hH
 refine AW.region ?_
 iterate 4 refine AO.pu T ?_
 refine AO.pureG T (d:=.g [x64.1.segments,x64.1.size,x64.1.key,.R 21,.R 22,x64.1.segment,.R 23,.R 24]) [] rfl trivial rfl rfl ?_
 refine AO.pureG T (d:=.g [x66.1.segments,x66.1.size,x66.1.key,.s (List.map encEntrant x66.1.entrants),.s (List.map encInt x66.1.gone),x66.1.segment,.s (List.map encInt x66.1.order),.s (List.map encResult x66.1.results)]) [] rfl trivial rfl rfl ?_
 refine AO.guard [275,276] rfl ⟨fun h=>h,fun h=>h,trivial⟩ (fun hg=>callLV_ok rfl rfl rfl (es:=[.g (encEvent (Event.mk x64.1.segments x64.1.size x64.1.key x64.1.entrants x64.1.gone x64.1.segment x64.1.order x64.1.results)),.g (encEvent (Event.mk x66.1.segments x66.1.size x66.1.key x66.1.entrants x66.1.gone x66.1.segment x66.1.order x66.1.results))]) ⟨lend_g (LendL.cons (.free rfl) (LendL.cons (.free rfl) (LendL.cons (.free rfl) (LendL.cons ((.rowR rfl (.map fun y=>.vs rfl))) (LendL.cons ((.rowR rfl (.map fun y=>.vs rfl))) (LendL.cons (.free rfl) (LendL.cons ((.rowR rfl (.map fun y=>.vs rfl))) (LendL.cons ((.rowR rfl (.map fun y=>frzResult y))) LendL.nil)))))))),.free rfl,trivial⟩ (laws_pSameEvent_ok _ _ _ (optT hx75 hg)) (zfree_v _) rfl) rfl ?_
 refine AO.val rfl rfl (pick_and rfl rfl rfl rfl) ?_
 refine AO.pu T ?_
 refine AO.pureG T [] rfl trivial rfl rfl ?_
 refine AO.pureG T [280] rfl ⟨fun h=>h,trivial⟩ rfl rfl ?_
 refine AO.pureG T [281] rfl ⟨fun h=>h,trivial⟩ rfl rfl ?_
 refine AO.pureG T (d:=.g [x64.1.segments,x64.1.size,x64.1.key,.R 21,.R 22,x64.1.segment,.R 23,.R 24]) [] rfl trivial rfl rfl ?_
 refine AO.guard [283] rfl ⟨fun h=>h,trivial⟩ (fun hg=>callLV_ok rfl rfl rfl (es:=[.g (encEvent (Event.mk x64.1.segments x64.1.size x64.1.key x64.1.entrants x64.1.gone x64.1.segment x64.1.order x64.1.results))]) ⟨lend_g (LendL.cons (.free rfl) (LendL.cons (.free rfl) (LendL.cons (.free rfl) (LendL.cons ((.rowR rfl (.map fun y=>.vs rfl))) (LendL.cons ((.rowR rfl (.map fun y=>.vs rfl))) (LendL.cons (.free rfl) (LendL.cons ((.rowR rfl (.map fun y=>.vs rfl))) (LendL.cons ((.rowR rfl (.map fun y=>frzResult y))) LendL.nil)))))))),trivial⟩ (impl_IsEvent_ok _ _ (optT hx77 hg)) (zfree_v _) rfl) rfl ?_
 refine AO.guard [282] rfl ⟨fun h=>h,trivial⟩ (fun hg=>pick_or rfl rfl rfl (by rw [hg];exact Bool.true_and _)) rfl ?_
 refine AO.val rfl rfl (pick_and rfl rfl rfl rfl) ?_
 refine AO.pu T ?_
 iterate 2 refine AO.pureG T [] rfl trivial rfl rfl ?_
 refine AO.pureG T [288,289] rfl ⟨fun h=>h,fun h=>h,trivial⟩ rfl rfl ?_
 refine AO.val rfl rfl (pick_and rfl rfl rfl rfl) ?_
 refine AO.pu T ?_
 refine AO.pureG T (d:=.g [x70.1.segments,x70.1.size,x70.1.key,.R 28,.R 29,x70.1.segment,.R 30,.R 31]) [] rfl trivial rfl rfl ?_
 refine AO.pureG T (d:=.g [x72.1.segments,x72.1.size,x72.1.key,.s (List.map encEntrant x72.1.entrants),.s (List.map encInt x72.1.gone),x72.1.segment,.s (List.map encInt x72.1.order),.s (List.map encResult x72.1.results)]) [] rfl trivial rfl rfl ?_
 refine AO.guard [293,294] rfl ⟨fun h=>h,fun h=>h,trivial⟩ (fun hg=>callLV_ok rfl rfl rfl (es:=[.g (encEvent (Event.mk x70.1.segments x70.1.size x70.1.key x70.1.entrants x70.1.gone x70.1.segment x70.1.order x70.1.results)),.g (encEvent (Event.mk x72.1.segments x72.1.size x72.1.key x72.1.entrants x72.1.gone x72.1.segment x72.1.order x72.1.results))]) ⟨lend_g (LendL.cons (.free rfl) (LendL.cons (.free rfl) (LendL.cons (.free rfl) (LendL.cons ((.rowR rfl (.map fun y=>.vs rfl))) (LendL.cons ((.rowR rfl (.map fun y=>.vs rfl))) (LendL.cons (.free rfl) (LendL.cons ((.rowR rfl (.map fun y=>.vs rfl))) (LendL.cons ((.rowR rfl (.map fun y=>frzResult y))) LendL.nil)))))))),.free rfl,trivial⟩ (laws_pSameEvent_ok _ _ _ (optT hx79 hg)) (zfree_v _) rfl) rfl ?_
 refine AO.val rfl rfl (pick_and rfl rfl rfl rfl) ?_
 refine AO.pu T ?_
 refine AO.pureG T [] rfl trivial rfl rfl ?_
 refine AO.pureG T [298] rfl ⟨fun h=>h,trivial⟩ rfl rfl ?_
 refine AO.pureG T [299] rfl ⟨fun h=>h,trivial⟩ rfl rfl ?_
 refine AO.pureG T (d:=.g [x70.1.segments,x70.1.size,x70.1.key,.R 28,.R 29,x70.1.segment,.R 30,.R 31]) [] rfl trivial rfl rfl ?_
 refine AO.guard [301] rfl ⟨fun h=>h,trivial⟩ (fun hg=>callLV_ok rfl rfl rfl (es:=[.g (encEvent (Event.mk x70.1.segments x70.1.size x70.1.key x70.1.entrants x70.1.gone x70.1.segment x70.1.order x70.1.results))]) ⟨lend_g (LendL.cons (.free rfl) (LendL.cons (.free rfl) (LendL.cons (.free rfl) (LendL.cons ((.rowR rfl (.map fun y=>.vs rfl))) (LendL.cons ((.rowR rfl (.map fun y=>.vs rfl))) (LendL.cons (.free rfl) (LendL.cons ((.rowR rfl (.map fun y=>.vs rfl))) (LendL.cons ((.rowR rfl (.map fun y=>frzResult y))) LendL.nil)))))))),trivial⟩ (impl_IsEvent_ok _ _ (optT hx81 hg)) (zfree_v _) rfl) rfl ?_
 refine AO.pureG T [302] rfl ⟨fun h=>h,trivial⟩ rfl rfl ?_
 refine AO.pureG T [] rfl trivial rfl rfl ?_
 refine AO.pureG T [304] rfl ⟨fun h=>h,trivial⟩ rfl rfl ?_
 refine AO.pureG T [] rfl trivial rfl rfl ?_
 refine AO.guard [305,306] rfl ⟨fun h=>h,fun h=>h,trivial⟩ (fun hg=>callV_ok rfl rfl rfl rfl (laws_pIn_ok _ _ _ (optT hx83 hg)) rfl) rfl ?_
 refine AO.guard [303] rfl ⟨fun h=>h,trivial⟩ (fun hg=>pick_and rfl rfl rfl (by rw [hg];exact Bool.true_and _)) rfl ?_
 refine AO.pureG T [308] rfl ⟨fun h=>h,trivial⟩ rfl rfl ?_
 refine AO.pureG T [] rfl trivial rfl rfl ?_
 refine AO.pureG T [310] rfl ⟨fun h=>h,trivial⟩ rfl rfl ?_
 refine AO.pureG T [] rfl trivial rfl rfl ?_
 refine AO.guard [311,312] rfl ⟨fun h=>h,fun h=>h,trivial⟩ (fun hg=>callV_ok rfl rfl rfl rfl (laws_pIn_ok _ _ _ (optT hx85 hg)) rfl) rfl ?_
 refine AO.pureG T [313] rfl ⟨fun h=>h,trivial⟩ rfl rfl ?_
 refine AO.guard [309] rfl ⟨fun h=>h,trivial⟩ (fun hg=>pick_and rfl rfl rfl (by rw [hg];exact Bool.true_and _)) rfl ?_
 refine AO.guard [300] rfl ⟨fun h=>h,trivial⟩ (fun hg=>pick_or rfl rfl rfl (by rw [hg];exact Bool.true_and _)) rfl ?_
 refine AO.val rfl rfl (pick_and rfl rfl rfl rfl) ?_
 refine AO.pu T ?_
 refine AO.nil (AW.le (Le.ct 0 0 (σ':=(⟨[(4,.v (.bool ((((((x64.2 == x66.2) && x74) && ((!x64.2) || x76)) && (x70.2 == x72.2)) && x78) && ((!x70.2) || ((x80 && x82) && (!x84))))))],[],318,[]⟩:St))) ?_)
 refine AW.ret ?_
 have hR:=someE hH;subst hR
 exact retQ.i [] rfl (.c (.c .v))
 rw [hd46,laws_FnSteps_l1] at hH
 have hlt48:=drop_lt hd46
 refine AW.seq (AW.region (AO.pu T ?_))
 refine AO.nil (AW.seq (AW.condT' (b:=decide ((k43:Int) < (x33.1.results.length:Int))) rfl (rngT hlt48) ?_))
 refine AW.skip (AW.seq ?_)
 refine AW.block (AW.seq (AW.region ?_))
 refine AO.pu T ?_
 refine AO.val rfl rfl (ix_map_ok T rfl rfl rfl rfl rfl (getI_drop hd46) rfl) ?_
 refine AO.pu T (d:=.g [y44.skater,.s (List.map encInt y44.scores)]) ?_
 refine AO.step rfl (alloc_ok T rfl 34 rfl rfl rfl rfl rfl) ?_
 refine AO.pu T ?_
 refine AO.se T [y44.skater,.s (List.map encInt y44.scores)] ?_
 refine AO.nil (AW.seq ?_)
 obtain ⟨x86,hx87,hH⟩:=bindE hH
 obtain ⟨x88,hx89,hH⟩:=bindE hH
 refine AW.drawn 8 35 [] mix (by kernel_rfl) rfl ?_
 iterate 5 refine AD.pure T rfl rfl rfl ?_
 refine AD.val rfl rfl (ix_map_ok T rfl rfl rfl rfl rfl (hx87) rfl) ?_
 iterate 2 refine AD.pure T rfl rfl rfl ?_
 refine AD.nil (AO.val rfl rfl (callV_ok rfl rfl rfl rfl (laws_sameInts_ok _ _ _ (hx89)) rfl) ?_)
 iterate 2 refine AO.pu T ?_
 refine AO.nil (AW.seq ?_)
 obtain ⟨x90,hx91,hH⟩:=bindE hH
 refine AW.region ?_
 iterate 7 refine AO.pu T ?_
 refine AO.pureG T [] rfl trivial rfl rfl ?_
 refine AO.pureG T [224] rfl ⟨fun h=>h,trivial⟩ rfl rfl ?_
 refine AO.pureG T [] rfl trivial rfl rfl ?_
 refine AO.pureG T [226] rfl ⟨fun h=>h,trivial⟩ rfl rfl ?_
 refine AO.pureG T [] rfl trivial rfl rfl ?_
 refine AO.pureG T [228] rfl ⟨fun h=>h,trivial⟩ rfl rfl ?_
 refine AO.guard [227,229] rfl ⟨fun h=>h,fun h=>h,trivial⟩ (fun hg=>ix_map_ok T rfl rfl rfl rfl rfl (optT hx91 hg) rfl) rfl ?_
 refine AO.pureG T [230] rfl ⟨fun h=>h,trivial⟩ rfl rfl ?_
 refine AO.pureG T [] rfl trivial rfl rfl ?_
 refine AO.pureG T [231,232] rfl ⟨fun h=>h,fun h=>h,trivial⟩ rfl rfl ?_
 refine AO.guard [225] rfl ⟨fun h=>h,trivial⟩ (fun hg=>pick_and rfl rfl rfl (by rw [hg];exact Bool.true_and _)) rfl ?_
 refine AO.val rfl rfl (pick_or rfl rfl rfl rfl) ?_
 refine AO.nil (AW.le (Le.ct 0 0 (σ':=(⟨[(1,.s (List.map encInt_u8 more)),(18,.p 10 0),(19,x29.2),(26,x39.1),(200,.s (List.map encResult x33.1.results)),(201,(x33.1.results.length:Int)),(202,(k43:Int)),(235,.v (.bool ((!((!x88) == (y44.skater == x39.1))) || ((!x88) && (x90 != x29.2)))))],[(10,.box [x29.1.segments,x29.1.size,x29.1.key,.s (List.map encEntrant x29.1.entrants),.s (List.map encInt x29.1.gone),x29.1.segment,.s (List.map encInt x29.1.order),.s (List.map encResult x29.1.results)])],318,[]⟩:St))) ?_)
 refine AW.cond (b:=((!((!x88) == (y44.skater == x39.1))) || ((!x88) && (x90 != x29.2)))) rfl (fun hc=>?_) (fun hc=>?_)
 replace hH:=condT hc hH
 refine AW.seq (AW.region (AO.pu T ?_))
 refine AO.nil (AW.ret ?_)
 have hR:=someE hH;subst hR
 exact retQ.i [] rfl (.c (.c .v))
 replace hH:=condF hc hH
 refine AW.skip (AW.region ?_)
 refine AO.val rfl rfl (ar_ok rfl rfl rfl rfl (inI_succ hlt48 hb47)) ?_
 refine AO.pu T ?_
 refine AO.nil ?_
 refine ⟨k43+1,⟨Nat.succ_le_of_lt hlt48,(by rw [drop_succ_of hd46];exact hH)⟩,(by have:=hlt48;dsimp only;omega),?_⟩
 exact Le.ct 0 0
 replace hH:=condF hc hH
 refine AW.skip (AW.seq ?_)
 obtain ⟨x92,hx93,hH⟩:=bindE hH
 refine AW.region (AO.pu T ?_)
 refine AO.val rfl rfl (callV_ok rfl rfl rfl rfl (spec_DrawEnterSkater_ok fuel _ _ (hx93)) rfl) ?_
 refine AO.pu T ?_
 refine AO.pu T (d:=.g [x92.1.segments,x92.1.size,x92.1.key,.s (List.map encEntrant x92.1.entrants),.s (List.map encInt x92.1.gone),x92.1.segment,.s (List.map encInt x92.1.order),.s (List.map encResult x92.1.results)]) ?_
 refine AO.pu T (d:=.g [x92.2.skater,x92.2.rank]) ?_
 refine AO.step rfl (alloc_ok T rfl 35 rfl rfl rfl rfl rfl) ?_
 refine AO.step rfl (alloc_ok T rfl 36 rfl rfl rfl rfl rfl) ?_
 refine AO.se T [x92.1.segments,x92.1.size,x92.1.key,.s (List.map encEntrant x92.1.entrants),.s (List.map encInt x92.1.gone),x92.1.segment,.s (List.map encInt x92.1.order),.s (List.map encResult x92.1.results)] ?_
 refine AO.se T [x92.2.skater,x92.2.rank] ?_
 refine AO.nil (AW.seq ?_)
 obtain ⟨x94,hx95,hH⟩:=bindE hH
 refine AW.region (AO.pu T (d:=.g [x92.1.segments,x92.1.size,x92.1.key,.s (List.map encEntrant x92.1.entrants),.s (List.map encInt x92.1.gone),x92.1.segment,.s (List.map encInt x92.1.order),.s (List.map encResult x92.1.results)]) ?_)
 refine AO.pu T (d:=.g [x92.2.skater,x92.2.rank]) ?_
 refine AO.step rfl (call_ok rfl 37 rfl rfl rfl (impl_EnterSkater_ok fuel _ _ _ (hx95)) rfl rfl rfl) ?_
 refine AO.pu T ?_
 refine AO.pu T (d:=.g [x94.1.segments,x94.1.size,x94.1.key,.R 37,.R 38,x94.1.segment,.R 39,.R 40]) ?_
 refine AO.pu T ?_
 refine AO.step rfl (alloc_ok T rfl 41 rfl rfl rfl rfl rfl) ?_
 refine AO.se T [x94.1.segments,x94.1.size,x94.1.key,.R 37,.R 38,x94.1.segment,.R 39,.R 40] ?_
 refine AO.pu T ?_
 refine AO.nil (AW.le (Le.ct 0 0 (σ':=(⟨[(1,.s (List.map encInt_u8 more)),(31,.p 35 0),(32,.p 36 0),(33,.p 41 0),(34,.v (.bool x94.2))],[(35,.box [x92.1.segments,x92.1.size,x92.1.key,.s (List.map encEntrant x92.1.entrants),.s (List.map encInt x92.1.gone),x92.1.segment,.s (List.map encInt x92.1.order),.s (List.map encResult x92.1.results)]),(36,.box [x92.2.skater,x92.2.rank]),(37,.row 2 (List.map encEntrant x94.1.entrants)),(38,.row 1 (List.map encInt x94.1.gone)),(39,.row 1 (List.map encInt x94.1.order)),(40,.row 2 (List.map encResultO x94.1.results)),(41,.box [x94.1.segments,x94.1.size,x94.1.key,.R 37,.R 38,x94.1.segment,.R 39,.R 40])],318,[]⟩:St))) ?_)
 refine AW.seq ?_
 obtain ⟨x96,hx97,hH⟩:=bindE hH
 refine AW.region (AO.pu T (d:=.g [x92.1.segments,x92.1.size,x92.1.key,.s (List.map encEntrant x92.1.entrants),.s (List.map encInt x92.1.gone),x92.1.segment,.s (List.map encInt x92.1.order),.s (List.map encResult x92.1.results)]) ?_)
 refine AO.pu T (d:=.g [x92.2.skater,x92.2.rank]) ?_
 refine AO.val rfl rfl (callV_ok rfl rfl rfl rfl (spec_EnterSkater_ok fuel _ _ _ (hx97)) rfl) ?_
 refine AO.pu T ?_
 refine AO.pu T (d:=.g [x96.1.segments,x96.1.size,x96.1.key,.s (List.map encEntrant x96.1.entrants),.s (List.map encInt x96.1.gone),x96.1.segment,.s (List.map encInt x96.1.order),.s (List.map encResult x96.1.results)]) ?_
 refine AO.pu T ?_
 refine AO.step rfl (alloc_ok T rfl 42 rfl rfl rfl rfl rfl) ?_
 refine AO.se T [x96.1.segments,x96.1.size,x96.1.key,.s (List.map encEntrant x96.1.entrants),.s (List.map encInt x96.1.gone),x96.1.segment,.s (List.map encInt x96.1.order),.s (List.map encResult x96.1.results)] ?_
 refine AO.pu T ?_
 refine AO.nil (AW.seq ?_)
 obtain ⟨x98,hx99,hH⟩:=bindE hH
 refine AW.region (AO.pu T ?_)
 refine AO.val rfl rfl (callV_ok rfl rfl rfl rfl (spec_DrawLeaveEvent_ok fuel _ _ (hx99)) rfl) ?_
 refine AO.pu T ?_
 refine AO.pu T (d:=.g [x98.1.segments,x98.1.size,x98.1.key,.s (List.map encEntrant x98.1.entrants),.s (List.map encInt x98.1.gone),x98.1.segment,.s (List.map encInt x98.1.order),.s (List.map encResult x98.1.results)]) ?_
 refine AO.pu T ?_
 refine AO.step rfl (alloc_ok T rfl 43 rfl rfl rfl rfl rfl) ?_
 refine AO.se T [x98.1.segments,x98.1.size,x98.1.key,.s (List.map encEntrant x98.1.entrants),.s (List.map encInt x98.1.gone),x98.1.segment,.s (List.map encInt x98.1.order),.s (List.map encResult x98.1.results)] ?_
 refine AO.pu T ?_
 refine AO.nil (AW.seq ?_)
 obtain ⟨x100,hx101,hH⟩:=bindE hH
 refine AW.region (AO.pu T (d:=.g [x98.1.segments,x98.1.size,x98.1.key,.s (List.map encEntrant x98.1.entrants),.s (List.map encInt x98.1.gone),x98.1.segment,.s (List.map encInt x98.1.order),.s (List.map encResult x98.1.results)]) ?_)
 refine AO.pu T ?_
 refine AO.step rfl (call_ok rfl 44 rfl rfl rfl (impl_LeaveEvent_ok _ _ _ (hx101)) rfl rfl rfl) ?_
 refine AO.pu T ?_
 refine AO.pu T (d:=.g [x100.1.segments,x100.1.size,x100.1.key,.R 44,.R 45,x100.1.segment,.R 46,.R 47]) ?_
 refine AO.pu T ?_
 refine AO.step rfl (alloc_ok T rfl 48 rfl rfl rfl rfl rfl) ?_
 refine AO.se T [x100.1.segments,x100.1.size,x100.1.key,.R 44,.R 45,x100.1.segment,.R 46,.R 47] ?_
 refine AO.pu T ?_
 refine AO.nil (AW.le (Le.ct 0 0 (σ':=(⟨[(33,.p 41 0),(34,.v (.bool x94.2)),(35,.p 42 0),(36,.v (.bool x96.2)),(37,.p 43 0),(38,x98.2),(39,.p 48 0),(40,.v (.bool x100.2))],[(37,.row 2 (List.map encEntrant x94.1.entrants)),(38,.row 1 (List.map encInt x94.1.gone)),(39,.row 1 (List.map encInt x94.1.order)),(40,.row 2 (List.map encResultO x94.1.results)),(41,.box [x94.1.segments,x94.1.size,x94.1.key,.R 37,.R 38,x94.1.segment,.R 39,.R 40]),(42,.box [x96.1.segments,x96.1.size,x96.1.key,.s (List.map encEntrant x96.1.entrants),.s (List.map encInt x96.1.gone),x96.1.segment,.s (List.map encInt x96.1.order),.s (List.map encResult x96.1.results)]),(43,.box [x98.1.segments,x98.1.size,x98.1.key,.s (List.map encEntrant x98.1.entrants),.s (List.map encInt x98.1.gone),x98.1.segment,.s (List.map encInt x98.1.order),.s (List.map encResult x98.1.results)]),(44,.row 2 (List.map encEntrant x100.1.entrants)),(45,.row 1 (List.map encInt x100.1.gone)),(46,.row 1 (List.map encInt x100.1.order)),(47,.row 2 (List.map encResultO x100.1.results)),(48,.box [x100.1.segments,x100.1.size,x100.1.key,.R 44,.R 45,x100.1.segment,.R 46,.R 47])],318,[]⟩:St))) ?_)
 refine AW.seq ?_
 obtain ⟨x102,hx103,hH⟩:=bindE hH
 refine AW.region (AO.pu T (d:=.g [x98.1.segments,x98.1.size,x98.1.key,.s (List.map encEntrant x98.1.entrants),.s (List.map encInt x98.1.gone),x98.1.segment,.s (List.map encInt x98.1.order),.s (List.map encResult x98.1.results)]) ?_)
 refine AO.pu T ?_
 refine AO.val rfl rfl (callV_ok rfl rfl rfl rfl (spec_LeaveEvent_ok fuel _ _ _ (hx103)) rfl) ?_
 refine AO.pu T ?_
 refine AO.pu T (d:=.g [x102.1.segments,x102.1.size,x102.1.key,.s (List.map encEntrant x102.1.entrants),.s (List.map encInt x102.1.gone),x102.1.segment,.s (List.map encInt x102.1.order),.s (List.map encResult x102.1.results)]) ?_
 refine AO.pu T ?_
 refine AO.step rfl (alloc_ok T rfl 49 rfl rfl rfl rfl rfl) ?_
 refine AO.se T [x102.1.segments,x102.1.size,x102.1.key,.s (List.map encEntrant x102.1.entrants),.s (List.map encInt x102.1.gone),x102.1.segment,.s (List.map encInt x102.1.order),.s (List.map encResult x102.1.results)] ?_
 refine AO.pu T ?_
 refine AO.nil (AW.seq ?_)
 obtain ⟨x104,hx105,hH⟩:=bindE hH
 obtain ⟨x106,hx107,hH⟩:=bindE hH
 obtain ⟨x108,hx109,hH⟩:=bindE hH
 obtain ⟨x110,hx111,hH⟩:=bindE hH
 obtain ⟨x112,hx113,hH⟩:=bindE hH
 obtain ⟨x114,hx115,hH⟩:=bindE hH
 refine AW.region ?_
 iterate 4 refine AO.pu T ?_
 refine AO.pureG T (d:=.g [x94.1.segments,x94.1.size,x94.1.key,.R 37,.R 38,x94.1.segment,.R 39,.R 40]) [] rfl trivial rfl rfl ?_
 refine AO.pureG T (d:=.g [x96.1.segments,x96.1.size,x96.1.key,.s (List.map encEntrant x96.1.entrants),.s (List.map encInt x96.1.gone),x96.1.segment,.s (List.map encInt x96.1.order),.s (List.map encResult x96.1.results)]) [] rfl trivial rfl rfl ?_
 refine AO.guard [275,276] rfl ⟨fun h=>h,fun h=>h,trivial⟩ (fun hg=>callLV_ok rfl rfl rfl (es:=[.g (encEvent (Event.mk x94.1.segments x94.1.size x94.1.key x94.1.entrants x94.1.gone x94.1.segment x94.1.order x94.1.results)),.g (encEvent (Event.mk x96.1.segments x96.1.size x96.1.key x96.1.entrants x96.1.gone x96.1.segment x96.1.order x96.1.results))]) ⟨lend_g (LendL.cons (.free rfl) (LendL.cons (.free rfl) (LendL.cons (.free rfl) (LendL.cons ((.rowR rfl (.map fun y=>.vs rfl))) (LendL.cons ((.rowR rfl (.map fun y=>.vs rfl))) (LendL.cons (.free rfl) (LendL.cons ((.rowR rfl (.map fun y=>.vs rfl))) (LendL.cons ((.rowR rfl (.map fun y=>frzResult y))) LendL.nil)))))))),.free rfl,trivial⟩ (laws_pSameEvent_ok _ _ _ (optT hx105 hg)) (zfree_v _) rfl) rfl ?_
 refine AO.val rfl rfl (pick_and rfl rfl rfl rfl) ?_
 refine AO.pu T ?_
 refine AO.pureG T [] rfl trivial rfl rfl ?_
 refine AO.pureG T [280] rfl ⟨fun h=>h,trivial⟩ rfl rfl ?_
 refine AO.pureG T [281] rfl ⟨fun h=>h,trivial⟩ rfl rfl ?_
 refine AO.pureG T (d:=.g [x94.1.segments,x94.1.size,x94.1.key,.R 37,.R 38,x94.1.segment,.R 39,.R 40]) [] rfl trivial rfl rfl ?_
 refine AO.guard [283] rfl ⟨fun h=>h,trivial⟩ (fun hg=>callLV_ok rfl rfl rfl (es:=[.g (encEvent (Event.mk x94.1.segments x94.1.size x94.1.key x94.1.entrants x94.1.gone x94.1.segment x94.1.order x94.1.results))]) ⟨lend_g (LendL.cons (.free rfl) (LendL.cons (.free rfl) (LendL.cons (.free rfl) (LendL.cons ((.rowR rfl (.map fun y=>.vs rfl))) (LendL.cons ((.rowR rfl (.map fun y=>.vs rfl))) (LendL.cons (.free rfl) (LendL.cons ((.rowR rfl (.map fun y=>.vs rfl))) (LendL.cons ((.rowR rfl (.map fun y=>frzResult y))) LendL.nil)))))))),trivial⟩ (impl_IsEvent_ok _ _ (optT hx107 hg)) (zfree_v _) rfl) rfl ?_
 refine AO.guard [282] rfl ⟨fun h=>h,trivial⟩ (fun hg=>pick_or rfl rfl rfl (by rw [hg];exact Bool.true_and _)) rfl ?_
 refine AO.val rfl rfl (pick_and rfl rfl rfl rfl) ?_
 refine AO.pu T ?_
 iterate 2 refine AO.pureG T [] rfl trivial rfl rfl ?_
 refine AO.pureG T [288,289] rfl ⟨fun h=>h,fun h=>h,trivial⟩ rfl rfl ?_
 refine AO.val rfl rfl (pick_and rfl rfl rfl rfl) ?_
 refine AO.pu T ?_
 refine AO.pureG T (d:=.g [x100.1.segments,x100.1.size,x100.1.key,.R 44,.R 45,x100.1.segment,.R 46,.R 47]) [] rfl trivial rfl rfl ?_
 refine AO.pureG T (d:=.g [x102.1.segments,x102.1.size,x102.1.key,.s (List.map encEntrant x102.1.entrants),.s (List.map encInt x102.1.gone),x102.1.segment,.s (List.map encInt x102.1.order),.s (List.map encResult x102.1.results)]) [] rfl trivial rfl rfl ?_
 refine AO.guard [293,294] rfl ⟨fun h=>h,fun h=>h,trivial⟩ (fun hg=>callLV_ok rfl rfl rfl (es:=[.g (encEvent (Event.mk x100.1.segments x100.1.size x100.1.key x100.1.entrants x100.1.gone x100.1.segment x100.1.order x100.1.results)),.g (encEvent (Event.mk x102.1.segments x102.1.size x102.1.key x102.1.entrants x102.1.gone x102.1.segment x102.1.order x102.1.results))]) ⟨lend_g (LendL.cons (.free rfl) (LendL.cons (.free rfl) (LendL.cons (.free rfl) (LendL.cons ((.rowR rfl (.map fun y=>.vs rfl))) (LendL.cons ((.rowR rfl (.map fun y=>.vs rfl))) (LendL.cons (.free rfl) (LendL.cons ((.rowR rfl (.map fun y=>.vs rfl))) (LendL.cons ((.rowR rfl (.map fun y=>frzResult y))) LendL.nil)))))))),.free rfl,trivial⟩ (laws_pSameEvent_ok _ _ _ (optT hx109 hg)) (zfree_v _) rfl) rfl ?_
 refine AO.val rfl rfl (pick_and rfl rfl rfl rfl) ?_
 refine AO.pu T ?_
 refine AO.pureG T [] rfl trivial rfl rfl ?_
 refine AO.pureG T [298] rfl ⟨fun h=>h,trivial⟩ rfl rfl ?_
 refine AO.pureG T [299] rfl ⟨fun h=>h,trivial⟩ rfl rfl ?_
 refine AO.pureG T (d:=.g [x100.1.segments,x100.1.size,x100.1.key,.R 44,.R 45,x100.1.segment,.R 46,.R 47]) [] rfl trivial rfl rfl ?_
 refine AO.guard [301] rfl ⟨fun h=>h,trivial⟩ (fun hg=>callLV_ok rfl rfl rfl (es:=[.g (encEvent (Event.mk x100.1.segments x100.1.size x100.1.key x100.1.entrants x100.1.gone x100.1.segment x100.1.order x100.1.results))]) ⟨lend_g (LendL.cons (.free rfl) (LendL.cons (.free rfl) (LendL.cons (.free rfl) (LendL.cons ((.rowR rfl (.map fun y=>.vs rfl))) (LendL.cons ((.rowR rfl (.map fun y=>.vs rfl))) (LendL.cons (.free rfl) (LendL.cons ((.rowR rfl (.map fun y=>.vs rfl))) (LendL.cons ((.rowR rfl (.map fun y=>frzResult y))) LendL.nil)))))))),trivial⟩ (impl_IsEvent_ok _ _ (optT hx111 hg)) (zfree_v _) rfl) rfl ?_
 refine AO.pureG T [302] rfl ⟨fun h=>h,trivial⟩ rfl rfl ?_
 refine AO.pureG T [] rfl trivial rfl rfl ?_
 refine AO.pureG T [304] rfl ⟨fun h=>h,trivial⟩ rfl rfl ?_
 refine AO.pureG T [] rfl trivial rfl rfl ?_
 refine AO.guard [305,306] rfl ⟨fun h=>h,fun h=>h,trivial⟩ (fun hg=>callV_ok rfl rfl rfl rfl (laws_pIn_ok _ _ _ (optT hx113 hg)) rfl) rfl ?_
 refine AO.guard [303] rfl ⟨fun h=>h,trivial⟩ (fun hg=>pick_and rfl rfl rfl (by rw [hg];exact Bool.true_and _)) rfl ?_
 refine AO.pureG T [308] rfl ⟨fun h=>h,trivial⟩ rfl rfl ?_
 refine AO.pureG T [] rfl trivial rfl rfl ?_
 refine AO.pureG T [310] rfl ⟨fun h=>h,trivial⟩ rfl rfl ?_
 refine AO.pureG T [] rfl trivial rfl rfl ?_
 refine AO.guard [311,312] rfl ⟨fun h=>h,fun h=>h,trivial⟩ (fun hg=>callV_ok rfl rfl rfl rfl (laws_pIn_ok _ _ _ (optT hx115 hg)) rfl) rfl ?_
 refine AO.pureG T [313] rfl ⟨fun h=>h,trivial⟩ rfl rfl ?_
 refine AO.guard [309] rfl ⟨fun h=>h,trivial⟩ (fun hg=>pick_and rfl rfl rfl (by rw [hg];exact Bool.true_and _)) rfl ?_
 refine AO.guard [300] rfl ⟨fun h=>h,trivial⟩ (fun hg=>pick_or rfl rfl rfl (by rw [hg];exact Bool.true_and _)) rfl ?_
 refine AO.val rfl rfl (pick_and rfl rfl rfl rfl) ?_
 refine AO.pu T ?_
 refine AO.nil (AW.le (Le.ct 0 0 (σ':=(⟨[(4,.v (.bool ((((((x94.2 == x96.2) && x104) && ((!x94.2) || x106)) && (x100.2 == x102.2)) && x108) && ((!x100.2) || ((x110 && x112) && (!x114))))))],[],318,[]⟩:St))) ?_)
 refine AW.ret ?_
 have hR:=someE hH;subst hR
 exact retQ.i [] rfl (.c (.c .v))

def impl_doStep_p (fuel:Nat) (e:Event) (x:Step):Option (Event × Bool) :=
  cond (x.kind == 1)
    ((impl_EnterSkater_p fuel e (Entrant.mk x.skater x.number)).bind fun x1 =>
    some ((Event.mk x1.1.segments x1.1.size x1.1.key x1.1.entrants x1.1.gone x1.1.segment x1.1.order x1.1.results),x1.2))
    (cond (x.kind == 2)
      ((impl_LeaveEvent_p e x.skater).bind fun x3 =>
      some ((Event.mk x3.1.segments x3.1.size x3.1.key x3.1.entrants x3.1.gone x3.1.segment x3.1.order x3.1.results),x3.2))
      (cond (x.kind == 3)
        ((impl_BeginSegment_p fuel e).bind fun x5 =>
        some ((Event.mk x5.1.segments x5.1.size x5.1.key x5.1.entrants x5.1.gone x5.1.segment x5.1.order x5.1.results),x5.2))
        (cond (x.kind == 4)
          ((impl_GiveScore_p fuel e x.number).bind fun x7 =>
          some ((Event.mk x7.1.segments x7.1.size x7.1.key x7.1.entrants x7.1.gone x7.1.segment x7.1.order x7.1.results),x7.2))
          (some ((Event.mk 0 0 0 [] [] 0 [] []),false)))))
theorem impl_doStep_ok (fuel:Nat) (e:Event) (x:Step) (r:(Event × Bool)) (hH:impl_doStep_p fuel e x=some r):SpecR Tryz.prog 69 [.g (encEvent e),.g (encStep x)] (.t [.g (encEventO r.1),.v (.bool r.2)]):=by
 refine fn_ok T Tryz.func69 rfl (by decide) rfl ?_
 refine AW.seq (AW.region (AO.step rfl (box_ok T rfl 1 rfl rfl rfl rfl) ?_))
 refine AO.step rfl (box_ok T rfl 2 rfl rfl rfl rfl) ?_
 refine AO.step rfl (alloc_ok T rfl 3 rfl rfl rfl rfl rfl) ?_
 refine AO.pu T ?_
 refine AO.nil ?_
 iterate 2 refine AW.seq ?_
 refine AW.region ?_
 iterate 2 refine AO.pu T ?_
 refine AO.nil (AW.block ?_)
 refine AW.seq (AW.region ?_)
 iterate 2 refine AO.pu T ?_
 refine AO.nil (AW.cond (b:=(x.kind == 1)) rfl (fun hc=>?_) (fun hc=>?_))
 replace hH:=condT hc hH
 refine AW.seq ?_
 obtain ⟨x1,hx2,hH⟩:=bindE hH
 refine AW.region (AO.pu T (d:=.g [e.segments,e.size,e.key,.s (List.map encEntrant e.entrants),.s (List.map encInt e.gone),e.segment,.s (List.map encInt e.order),.s (List.map encResult e.results)]) ?_)
 iterate 4 refine AO.pu T ?_
 refine AO.pu T (d:=.g [x.skater,x.number]) ?_
 refine AO.step rfl (call_ok rfl 4 rfl rfl rfl (impl_EnterSkater_ok fuel _ _ _ (hx2)) rfl rfl rfl) ?_
 refine AO.pu T (d:=.g [x1.1.segments,x1.1.size,x1.1.key,.R 4,.R 5,x1.1.segment,.R 6,.R 7]) ?_
 refine AO.pu T ?_
 refine AO.se T [x1.1.segments,x1.1.size,x1.1.key,.R 4,.R 5,x1.1.segment,.R 6,.R 7] ?_
 refine AO.pu T ?_
 refine AO.nil (AW.ret ?_)
 have hR:=someE hH;subst hR
 exact retQ.i [4,5,6,7] rfl (.t (expLG_cons (.g (expLC_cons .v (expLC_cons .v (expLC_cons .v (expLC_cons (.rowR rfl) (expLC_cons (.rowR rfl) (expLC_cons .v (expLC_cons (.rowR rfl) (expLC_cons (.rowR rfl) (expLC_nil)))))))))) (expLG_cons (.c .v) (expLG_nil))))
 replace hH:=condF hc hH
 refine AW.seq (AW.region ?_)
 iterate 2 refine AO.pu T ?_
 refine AO.nil (AW.cond (b:=(x.kind == 2)) rfl (fun hc=>?_) (fun hc=>?_))
 replace hH:=condT hc hH
 refine AW.seq ?_
 obtain ⟨x3,hx4,hH⟩:=bindE hH
 refine AW.region (AO.pu T (d:=.g [e.segments,e.size,e.key,.s (List.map encEntrant e.entrants),.s (List.map encInt e.gone),e.segment,.s (List.map encInt e.order),.s (List.map encResult e.results)]) ?_)
 iterate 2 refine AO.pu T ?_
 refine AO.step rfl (call_ok rfl 8 rfl rfl rfl (impl_LeaveEvent_ok _ _ _ (hx4)) rfl rfl rfl) ?_
 refine AO.pu T (d:=.g [x3.1.segments,x3.1.size,x3.1.key,.R 8,.R 9,x3.1.segment,.R 10,.R 11]) ?_
 refine AO.pu T ?_
 refine AO.se T [x3.1.segments,x3.1.size,x3.1.key,.R 8,.R 9,x3.1.segment,.R 10,.R 11] ?_
 refine AO.pu T ?_
 refine AO.nil (AW.ret ?_)
 have hR:=someE hH;subst hR
 exact retQ.i [8,9,10,11] rfl (.t (expLG_cons (.g (expLC_cons .v (expLC_cons .v (expLC_cons .v (expLC_cons (.rowR rfl) (expLC_cons (.rowR rfl) (expLC_cons .v (expLC_cons (.rowR rfl) (expLC_cons (.rowR rfl) (expLC_nil)))))))))) (expLG_cons (.c .v) (expLG_nil))))
 replace hH:=condF hc hH
 refine AW.seq (AW.region ?_)
 iterate 2 refine AO.pu T ?_
 refine AO.nil (AW.cond (b:=(x.kind == 3)) rfl (fun hc=>?_) (fun hc=>?_))
 replace hH:=condT hc hH
 refine AW.seq ?_
 obtain ⟨x5,hx6,hH⟩:=bindE hH
 refine AW.region (AO.pu T (d:=.g [e.segments,e.size,e.key,.s (List.map encEntrant e.entrants),.s (List.map encInt e.gone),e.segment,.s (List.map encInt e.order),.s (List.map encResult e.results)]) ?_)
 refine AO.step rfl (call_ok rfl 12 rfl rfl rfl (impl_BeginSegment_ok fuel _ _ (hx6)) rfl rfl rfl) ?_
 refine AO.pu T (d:=.g [x5.1.segments,x5.1.size,x5.1.key,.R 12,.R 13,x5.1.segment,.R 14,.R 15]) ?_
 refine AO.pu T ?_
 refine AO.se T [x5.1.segments,x5.1.size,x5.1.key,.R 12,.R 13,x5.1.segment,.R 14,.R 15] ?_
 refine AO.pu T ?_
 refine AO.nil (AW.ret ?_)
 have hR:=someE hH;subst hR
 exact retQ.i [12,13,14,15] rfl (.t (expLG_cons (.g (expLC_cons .v (expLC_cons .v (expLC_cons .v (expLC_cons (.rowR rfl) (expLC_cons (.rowR rfl) (expLC_cons .v (expLC_cons (.rowR rfl) (expLC_cons (.rowR rfl) (expLC_nil)))))))))) (expLG_cons (.c .v) (expLG_nil))))
 replace hH:=condF hc hH
 refine AW.seq (AW.region ?_)
 iterate 2 refine AO.pu T ?_
 refine AO.nil (AW.cond (b:=(x.kind == 4)) rfl (fun hc=>?_) (fun hc=>?_))
 replace hH:=condT hc hH
 refine AW.seq ?_
 obtain ⟨x7,hx8,hH⟩:=bindE hH
 refine AW.region (AO.pu T (d:=.g [e.segments,e.size,e.key,.s (List.map encEntrant e.entrants),.s (List.map encInt e.gone),e.segment,.s (List.map encInt e.order),.s (List.map encResult e.results)]) ?_)
 iterate 2 refine AO.pu T ?_
 refine AO.step rfl (call_ok rfl 16 rfl rfl rfl (impl_GiveScore_ok fuel _ _ _ (hx8)) rfl rfl rfl) ?_
 refine AO.pu T (d:=.g [x7.1.segments,x7.1.size,x7.1.key,.R 16,.R 17,x7.1.segment,.R 18,.R 19]) ?_
 refine AO.pu T ?_
 refine AO.se T [x7.1.segments,x7.1.size,x7.1.key,.R 16,.R 17,x7.1.segment,.R 18,.R 19] ?_
 refine AO.pu T ?_
 refine AO.nil (AW.ret ?_)
 have hR:=someE hH;subst hR
 exact retQ.i [16,17,18,19] rfl (.t (expLG_cons (.g (expLC_cons .v (expLC_cons .v (expLC_cons .v (expLC_cons (.rowR rfl) (expLC_cons (.rowR rfl) (expLC_cons .v (expLC_cons (.rowR rfl) (expLC_cons (.rowR rfl) (expLC_nil)))))))))) (expLG_cons (.c .v) (expLG_nil))))
 replace hH:=condF hc hH
 refine AW.skip (AW.seq (AW.region ?_))
 refine AO.pu T (d:=.g [(0:Int),(0:Int),(0:Int),.w 0 [],.w 0 [],(0:Int),.w 0 [],.w 0 []]) ?_
 refine AO.se T [(0:Int),(0:Int),(0:Int),.w 0 [],.w 0 [],(0:Int),.w 0 [],.w 0 []] ?_
 refine AO.pu T ?_
 refine AO.nil (AW.ret ?_)
 have hR:=someE hH;subst hR
 exact retQ.i [] rfl (.t (expLG_cons (.g (expLC_cons .v (expLC_cons .v (expLC_cons .v (expLC_cons .nil (expLC_cons .nil (expLC_cons .v (expLC_cons .nil (expLC_cons .nil (expLC_nil)))))))))) (expLG_cons (.c .v) (expLG_nil))))

end Go.Proofs.YtegdphhfimaieabGreat

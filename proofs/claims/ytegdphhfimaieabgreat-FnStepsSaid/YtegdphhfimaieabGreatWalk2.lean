/- The walk, part 2: what each function reached by the law FnSteps computes. No condition. -/
import Derived.Test.YtegdphhfimaieabGreatWalk1
set_option maxRecDepth 4000
set_option maxHeartbeats 1000000
set_option linter.unusedVariables false
set_option linter.unusedSimpArgs false
set_option linter.unusedSectionVars false

namespace Go.Proofs.YtegdphhfimaieabGreat
open Go.AM

def spec_evNext_l1 (e:Event):List Int→Nat→Option Int
  | [],k1 =>
    some 0
  | y2::ys3,k1 =>
    (spec_evHas_p e y2).bind fun x12 =>
    cond (!x12)
      (some y2)
      (spec_evNext_l1 e ys3 (k1+1))
def spec_evNext_p (e:Event):Option Int :=
  spec_evNext_l1 e e.order 0
theorem spec_evNext_ok (e:Event) (r:Int) (hH:spec_evNext_p e=some r):SpecR Tryz.prog 46 [.g (encEvent e)] (.v (.int .i64 r)):=by
 refine fn_ok T Tryz.func46 rfl (by decide) rfl ?_
 refine AW.seq (AW.region (AO.step rfl (box_ok T rfl 1 rfl rfl rfl rfl) ?_))
 refine AO.pu T ?_
 refine AO.nil ?_
 iterate 2 refine AW.seq ?_
 refine AW.region ?_
 iterate 2 refine AO.pu T ?_
 refine AO.val rfl rfl (len_map_ok T rfl rfl rfl) ?_
 refine AO.pu T ?_
 refine AO.nil (AW.block ?_)
 refine AW.loopS (fun s:Nat=>(⟨[(1,.p 1 0),(6,.s (List.map encInt e.order)),(7,(e.order.length:Int)),(8,(s:Int))],[(1,.box [e.segments,e.size,e.key,.s (List.map encEntrant e.entrants),.s (List.map encInt e.gone),e.segment,.s (List.map encInt e.order),.s (List.map encResult e.results)])],18,[]⟩:St)) (fun s=>s ≤ e.order.length∧spec_evNext_l1 e (e.order.drop s) s=some r) (fun s=>e.order.length - s) 0 ⟨Nat.zero_le _,hH⟩ ?_ ?_
 exact Le.ct 0 0
 rintro k1 ⟨hk,hH⟩
 replace hH:spec_evNext_l1 e (e.order.drop k1) k1=some r:=hH
 try dsimp only
 refine AW.boundM (t:=6) (l:=e.order) rfl (fun hb5=>?_)
 rcases hd4:e.order.drop k1 with _ | ⟨y2,ys3⟩
 rw [hd4,spec_evNext_l1] at hH
 have hlt6:=drop_ge hd4
 refine AW.seq (AW.region (AO.pu T ?_))
 refine AO.nil (AW.seq (AW.condF' (b:=decide ((k1:Int) < (e.order.length:Int))) rfl (rngF hlt6) ?_))
 refine AW.exit (AW.seq (AW.region ?_))
 refine AO.pu T ?_
 refine AO.nil (AW.ret ?_)
 have hR:=someE hH;subst hR
 exact retQ.i [] rfl (.c (.c .v))
 rw [hd4,spec_evNext_l1] at hH
 have hlt6:=drop_lt hd4
 refine AW.seq (AW.region (AO.pu T ?_))
 refine AO.nil (AW.seq (AW.condT' (b:=decide ((k1:Int) < (e.order.length:Int))) rfl (rngT hlt6) ?_))
 refine AW.skip (AW.seq ?_)
 refine AW.block (AW.seq (AW.region ?_))
 refine AO.val rfl rfl (ix_map_ok T rfl rfl rfl rfl rfl (getI_drop hd4) rfl) ?_
 iterate 2 refine AO.pu T ?_
 refine AO.nil (AW.seq ?_)
 obtain ⟨x12,hx13,hH⟩:=bindE hH
 refine AW.region (AO.pu T (d:=.g [e.segments,e.size,e.key,.s (List.map encEntrant e.entrants),.s (List.map encInt e.gone),e.segment,.s (List.map encInt e.order),.s (List.map encResult e.results)]) ?_)
 refine AO.pu T ?_
 refine AO.val rfl rfl (callV_ok rfl rfl rfl rfl (spec_evHas_ok _ _ _ (hx13)) rfl) ?_
 refine AO.pu T ?_
 refine AO.nil (AW.cond (b:=(!x12)) rfl (fun hc=>?_) (fun hc=>?_))
 replace hH:=condT hc hH
 refine AW.seq (AW.region ?_)
 iterate 2 refine AO.pu T ?_
 refine AO.nil (AW.ret ?_)
 have hR:=someE hH;subst hR
 exact retQ.i [] rfl (.c (.c .v))
 replace hH:=condF hc hH
 refine AW.skip (AW.region ?_)
 refine AO.val rfl rfl (ar_ok rfl rfl rfl rfl (inI_succ hlt6 hb5)) ?_
 refine AO.pu T ?_
 refine AO.nil ?_
 refine ⟨k1+1,⟨Nat.succ_le_of_lt hlt6,(by rw [drop_succ_of hd4];exact hH)⟩,(by have:=hlt6;dsimp only;omega),?_⟩
 exact Le.ct 0 0

def spec_evScore_l1 (e:Event) (score:Int) (x1:Int) (x5:Event):Nat→List Result→List Result→Int→Option ((Event × Bool))
  | 0,_,_,_=>none
  | k7+1,v19,v20,v21 =>
    cond (decide (v21 < (x5.results.length:Int)))
      ((getI v20 v21).bind fun x23 =>
      cond (x23.skater == x1)
        ((getI x23.scores e.segment).bind fun x25 =>
        spec_evScore_l1 e score x1 x5 k7 (v20.set v21.toNat (Result.mk x23.skater (x23.scores.set e.segment.toNat score))) (v20.set v21.toNat (Result.mk x23.skater (x23.scores.set e.segment.toNat score))) (w64 (v21+1)))
        (spec_evScore_l1 e score x1 x5 k7 (v20.set v21.toNat x23) (v20.set v21.toNat x23) (w64 (v21+1))))
      ((spec_evEnd_p (Event.mk x5.segments x5.size x5.key x5.entrants x5.gone x5.segment x5.order v20)).bind fun x27 =>
      some (x27,true))
def spec_evScore_p (fuel:Nat) (e:Event) (score:Int):Option (Event × Bool) :=
  (spec_evNext_p e).bind fun x1 =>
  (opt (!(x1 == 0)) default (spec_l1In_p score 0 100000)).bind fun x3 =>
  cond ((x1 == 0) || (!x3))
    (some ((Event.mk 0 0 0 [] [] 0 [] []),false))
    ((spec_evOwn_p e).bind fun x5 =>
    spec_evScore_l1 e score x1 x5 fuel x5.results x5.results 0)
theorem spec_evScore_ok (fuel:Nat) (e:Event) (score:Int) (r:(Event × Bool)) (hH:spec_evScore_p fuel e score=some r):SpecR Tryz.prog 109 [.g (encEvent e),score] (.t [.g (encEvent r.1),.v (.bool r.2)]):=by
 refine fn_ok T Tryz.func109 rfl (by decide) rfl ?_
 refine AW.seq (AW.region (AO.step rfl (box_ok T rfl 1 rfl rfl rfl rfl) ?_))
 refine AO.step rfl (alloc_ok T rfl 2 rfl rfl rfl rfl rfl) ?_
 refine AO.pu T ?_
 refine AO.nil (AW.seq ?_)
 obtain ⟨x1,hx2,hH⟩:=bindE hH
 refine AW.region (AO.pu T (d:=.g [e.segments,e.size,e.key,.s (List.map encEntrant e.entrants),.s (List.map encInt e.gone),e.segment,.s (List.map encInt e.order),.s (List.map encResult e.results)]) ?_)
 refine AO.val rfl rfl (callV_ok rfl rfl rfl rfl (spec_evNext_ok _ _ (hx2)) rfl) ?_
 refine AO.pu T ?_
 refine AO.nil ?_
 iterate 2 refine AW.seq ?_
 obtain ⟨x3,hx4,hH⟩:=bindE hH
 refine AW.region ?_
 iterate 3 refine AO.pu T ?_
 refine AO.pureG T [] rfl trivial rfl rfl ?_
 refine AO.guard [15] rfl ⟨fun h=>h,trivial⟩ (fun hg=>callV_ok rfl rfl rfl rfl (spec_l1In_ok _ _ _ _ (optT hx4 hg)) rfl) rfl ?_
 refine AO.pureG T [16] rfl ⟨fun h=>h,trivial⟩ rfl rfl ?_
 refine AO.val rfl rfl (pick_or rfl rfl rfl rfl) ?_
 refine AO.nil (AW.cond (b:=((x1 == 0) || (!x3))) rfl (fun hc=>?_) (fun hc=>?_))
 replace hH:=condT hc hH
 refine AW.seq (AW.region (AO.pu T (d:=.g [(0:Int),(0:Int),(0:Int),.w 0 [],.w 0 [],(0:Int),.w 0 [],.w 0 []]) ?_))
 refine AO.se T [(0:Int),(0:Int),(0:Int),.w 0 [],.w 0 [],(0:Int),.w 0 [],.w 0 []] ?_
 refine AO.pu T ?_
 refine AO.nil (AW.ret ?_)
 have hR:=someE hH;subst hR
 exact retQ.i [] rfl (.t (expLG_cons (.g (expLC_cons .v (expLC_cons .v (expLC_cons .v (expLC_cons .nilS (expLC_cons .nilS (expLC_cons .v (expLC_cons .nilS (expLC_cons .nilS (expLC_nil)))))))))) (expLG_cons (.c .v) (expLG_nil))))
 replace hH:=condF hc hH
 refine AW.skip (AW.seq ?_)
 obtain ⟨x5,hx6,hH⟩:=bindE hH
 refine AW.region (AO.pu T (d:=.g [e.segments,e.size,e.key,.s (List.map encEntrant e.entrants),.s (List.map encInt e.gone),e.segment,.s (List.map encInt e.order),.s (List.map encResult e.results)]) ?_)
 refine AO.step rfl (call_ok rfl 3 rfl rfl rfl (spec_evOwn_ok _ _ (hx6)) rfl rfl rfl) ?_
 refine AO.step rfl (alloc_ok T rfl 7 rfl rfl rfl rfl rfl) ?_
 refine AO.se T [x5.segments,x5.size,x5.key,.R 3,.R 4,x5.segment,.R 5,.R 6] ?_
 refine AO.nil ?_
 iterate 2 refine AW.seq ?_
 refine AW.region ?_
 iterate 2 refine AO.pu T ?_
 refine AO.val rfl rfl (len_row_ok T rfl rfl rfl rfl) ?_
 refine AO.pu T ?_
 refine AO.nil (AW.block ?_)
 refine AW.loopS (fun s:Nat × (List Result) × (List Result) × Int=>(⟨[(1,score),(2,.p 1 0),(4,.p 2 0),(6,x1),(7,.p 7 0),(23,.R 6),(24,(x5.results.length:Int)),(25,s.2.2.2)],[(1,.box [e.segments,e.size,e.key,.s (List.map encEntrant e.entrants),.s (List.map encInt e.gone),e.segment,.s (List.map encInt e.order),.s (List.map encResult e.results)]),(2,.box [(0:Int),(0:Int),(0:Int),.w 0 [],.w 0 [],(0:Int),.w 0 [],.w 0 []]),(3,.row 2 (List.map encEntrant x5.entrants)),(4,.row 1 (List.map encInt x5.gone)),(5,.row 1 (List.map encInt x5.order)),(6,.row 2 (List.map encResultO s.2.2.1)),(7,.box [x5.segments,x5.size,x5.key,.R 3,.R 4,x5.segment,.R 5,.R 6])],42,[]⟩:St)) (fun s=>spec_evScore_l1 e score x1 x5 s.1 s.2.1 s.2.2.1 s.2.2.2=some r) (fun s=>s.1) (fuel,x5.results,x5.results,0) hH ?_ ?_
 exact Le.ct 0 0
 rintro ⟨k7,v19,v20,v21⟩ hH
 replace hH:spec_evScore_l1 e score x1 x5 k7 v19 v20 v21=some r:=hH
 try dsimp only
 rcases k7 with _ | k7
 cases (show none=some _ from hH)
 rw [spec_evScore_l1] at hH
 refine AW.seq (AW.region (AO.pu T ?_))
 refine AO.nil (AW.seq (AW.cond (b:=decide (v21 < (x5.results.length:Int))) rfl (fun hc=>?_) (fun hc=>?_)))
 replace hH:=condT hc hH
 refine AW.skip (AW.seq ?_)
 refine AW.block (AW.seq ?_)
 obtain ⟨x23,hx24,hH⟩:=bindE hH
 refine AW.le (Le.openM 6 v21.toNat 1 12 rfl (getI_get (hx24)) rfl rfl) ?_
 refine AW.region (AO.val rfl rfl (ix_lent_ok T rfl rfl rfl rfl rfl rfl (hx24)) ?_)
 refine AO.val rfl rfl (load_lentS_ok T rfl rfl rfl rfl rfl (getI_get (hx24)) rfl rfl rfl) ?_
 refine AO.step rfl (alloc_ok T rfl 13 rfl rfl rfl rfl rfl) ?_
 refine AO.se T [x23.skater,.R 12] ?_
 refine AO.nil (AW.seq (AW.region ?_))
 iterate 4 refine AO.pu T ?_
 refine AO.nil (AW.cond (b:=(x23.skater == x1)) rfl (fun hc=>?_) (fun hc=>?_))
 replace hH:=condT hc hH
 obtain ⟨x25,hx26,hH⟩:=bindE hH
 refine AW.region ?_
 iterate 5 refine AO.pu T ?_
 refine AO.val rfl rfl (ix_row_ok T rfl rfl rfl rfl rfl rfl (hx26)) ?_
 refine AO.step rfl (store_row_ok T rfl rfl rfl rfl rfl (getI_get (hx26)) rfl rfl rfl rfl (u':=score) rfl rfl) ?_
 refine AO.le (Le.closeM 6 v21.toNat 1 12 rfl rfl (getI_get (hx24)) rfl (u':=(Result.mk x23.skater (x23.scores.set e.segment.toNat score))) rfl) ?_
 refine AO.nil (AW.region ?_)
 refine AO.val rfl rfl (arw_ok rfl rfl rfl rfl) ?_
 refine AO.pu T ?_
 refine AO.nil ?_
 refine ⟨(k7,(v20.set v21.toNat (Result.mk x23.skater (x23.scores.set e.segment.toNat score))),(v20.set v21.toNat (Result.mk x23.skater (x23.scores.set e.segment.toNat score))),w64 (v21+1)),hH,Nat.lt_succ_self _,?_⟩
 exact Le.ct 0 0
 replace hH:=condF hc hH
 refine AW.skip (AW.region ?_)
 refine AO.val rfl rfl (arw_ok rfl rfl rfl rfl) ?_
 refine AO.pu T ?_
 refine AO.le (Le.closeM 6 v21.toNat 1 12 rfl rfl (getI_get (hx24)) rfl (u':=x23) rfl) ?_
 refine AO.nil ?_
 refine ⟨(k7,(v20.set v21.toNat x23),(v20.set v21.toNat x23),w64 (v21+1)),hH,Nat.lt_succ_self _,?_⟩
 exact Le.ct 0 0
 replace hH:=condF hc hH
 refine AW.exit (AW.seq ?_)
 obtain ⟨x27,hx28,hH⟩:=bindE hH
 refine AW.le (Le.freezeM 3 (g:=encEntrant) rfl (fun y=>.vs rfl)) ?_
 refine AW.le (Le.freezeM 4 (g:=encInt) rfl (fun y=>.vs rfl)) ?_
 refine AW.le (Le.freezeM 5 (g:=encInt) rfl (fun y=>.vs rfl)) ?_
 refine AW.le (Le.freezeM 6 (g:=encResult) rfl (fun y=>frzResult y)) ?_
 refine AW.region (AO.pu T (d:=.g [x5.segments,x5.size,x5.key,.s (List.map encEntrant x5.entrants),.s (List.map encInt x5.gone),x5.segment,.s (List.map encInt x5.order),.s (List.map encResult v20)]) ?_)
 refine AO.val rfl rfl (callV_ok rfl rfl rfl rfl (spec_evEnd_ok _ _ (hx28)) rfl) ?_
 refine AO.se T [x27.segments,x27.size,x27.key,.s (List.map encEntrant x27.entrants),.s (List.map encInt x27.gone),x27.segment,.s (List.map encInt x27.order),.s (List.map encResult x27.results)] ?_
 refine AO.pu T ?_
 refine AO.nil (AW.ret ?_)
 have hR:=someE hH;subst hR
 exact retQ.i [] rfl (.t (expLG_cons (.g (expLC_cons .v (expLC_cons .v (expLC_cons .v (expLC_cons .s (expLC_cons .s (expLC_cons .v (expLC_cons .s (expLC_cons .s (expLC_nil)))))))))) (expLG_cons (.c .v) (expLG_nil))))

def spec_evStep_p (fuel:Nat) (e:Event) (sA:Step):Option (Event × Bool) :=
  cond (e.segment == e.segments)
    (some ((Event.mk 0 0 0 [] [] 0 [] []),false))
    (cond (sA.kind == 1)
      ((spec_evEnter_p fuel e (Entrant.mk sA.skater sA.number)).bind fun x1 =>
      some ((Event.mk x1.1.segments x1.1.size x1.1.key x1.1.entrants x1.1.gone x1.1.segment x1.1.order x1.1.results),x1.2))
      (cond (sA.kind == 2)
        ((spec_evLeave_p fuel e sA.skater).bind fun x3 =>
        some ((Event.mk x3.1.segments x3.1.size x3.1.key x3.1.entrants x3.1.gone x3.1.segment x3.1.order x3.1.results),x3.2))
        (cond (sA.kind == 3)
          ((spec_evDraw_p fuel e).bind fun x5 =>
          some ((Event.mk x5.1.segments x5.1.size x5.1.key x5.1.entrants x5.1.gone x5.1.segment x5.1.order x5.1.results),x5.2))
          (cond (sA.kind == 4)
            ((spec_evScore_p fuel e sA.number).bind fun x7 =>
            some ((Event.mk x7.1.segments x7.1.size x7.1.key x7.1.entrants x7.1.gone x7.1.segment x7.1.order x7.1.results),x7.2))
            (some ((Event.mk 0 0 0 [] [] 0 [] []),false))))))
theorem spec_evStep_ok (fuel:Nat) (e:Event) (sA:Step) (r:(Event × Bool)) (hH:spec_evStep_p fuel e sA=some r):SpecR Tryz.prog 71 [.g (encEvent e),.g (encStep sA)] (.t [.g (encEvent r.1),.v (.bool r.2)]):=by
 refine fn_ok T Tryz.func71 rfl (by decide) rfl ?_
 refine AW.seq (AW.region (AO.step rfl (box_ok T rfl 1 rfl rfl rfl rfl) ?_))
 refine AO.step rfl (box_ok T rfl 2 rfl rfl rfl rfl) ?_
 refine AO.step rfl (alloc_ok T rfl 3 rfl rfl rfl rfl rfl) ?_
 refine AO.pu T ?_
 refine AO.nil ?_
 iterate 2 refine AW.seq ?_
 refine AW.region ?_
 iterate 5 refine AO.pu T ?_
 refine AO.nil (AW.cond (b:=(e.segment == e.segments)) rfl (fun hc=>?_) (fun hc=>?_))
 replace hH:=condT hc hH
 refine AW.seq (AW.region (AO.pu T (d:=.g [(0:Int),(0:Int),(0:Int),.w 0 [],.w 0 [],(0:Int),.w 0 [],.w 0 []]) ?_))
 refine AO.se T [(0:Int),(0:Int),(0:Int),.w 0 [],.w 0 [],(0:Int),.w 0 [],.w 0 []] ?_
 refine AO.pu T ?_
 refine AO.nil (AW.ret ?_)
 have hR:=someE hH;subst hR
 exact retQ.i [] rfl (.t (expLG_cons (.g (expLC_cons .v (expLC_cons .v (expLC_cons .v (expLC_cons .nilS (expLC_cons .nilS (expLC_cons .v (expLC_cons .nilS (expLC_cons .nilS (expLC_nil)))))))))) (expLG_cons (.c .v) (expLG_nil))))
 replace hH:=condF hc hH
 refine AW.skip ?_
 iterate 2 refine AW.seq ?_
 refine AW.region ?_
 iterate 2 refine AO.pu T ?_
 refine AO.nil (AW.block ?_)
 refine AW.seq (AW.region ?_)
 iterate 2 refine AO.pu T ?_
 refine AO.nil (AW.cond (b:=(sA.kind == 1)) rfl (fun hc=>?_) (fun hc=>?_))
 replace hH:=condT hc hH
 refine AW.seq ?_
 obtain ⟨x1,hx2,hH⟩:=bindE hH
 refine AW.region (AO.pu T (d:=.g [e.segments,e.size,e.key,.s (List.map encEntrant e.entrants),.s (List.map encInt e.gone),e.segment,.s (List.map encInt e.order),.s (List.map encResult e.results)]) ?_)
 iterate 4 refine AO.pu T ?_
 refine AO.pu T (d:=.g [sA.skater,sA.number]) ?_
 refine AO.step rfl (call_ok rfl 4 rfl rfl rfl (spec_evEnter_ok fuel _ _ _ (hx2)) rfl rfl rfl) ?_
 refine AO.pu T (d:=.g [x1.1.segments,x1.1.size,x1.1.key,.R 4,.R 5,x1.1.segment,.R 6,.R 7]) ?_
 refine AO.pu T ?_
 refine AO.se T [x1.1.segments,x1.1.size,x1.1.key,.R 4,.R 5,x1.1.segment,.R 6,.R 7] ?_
 refine AO.pu T ?_
 refine AO.nil (AW.le (Le.ct 0 0 (σ':=(⟨[(4,.p 3 0),(5,.v (.bool x1.2))],[(3,.box [x1.1.segments,x1.1.size,x1.1.key,.R 4,.R 5,x1.1.segment,.R 6,.R 7]),(4,.row 2 (List.map encEntrant x1.1.entrants)),(5,.row 1 (List.map encInt x1.1.gone)),(6,.row 1 (List.map encInt x1.1.order)),(7,.row 2 (List.map encResultO x1.1.results))],48,[]⟩:St))) ?_)
 refine AW.le (Le.freezeM 7 (g:=encResult) rfl (fun y=>frzResult y)) ?_
 refine AW.le (Le.freezeM 6 (g:=encInt) rfl (fun y=>.vs rfl)) ?_
 refine AW.le (Le.freezeM 5 (g:=encInt) rfl (fun y=>.vs rfl)) ?_
 refine AW.le (Le.freezeM 4 (g:=encEntrant) rfl (fun y=>.vs rfl)) ?_
 refine AW.ret ?_
 have hR:=someE hH;subst hR
 exact retQ.i [] rfl (.t (expLG_cons (.g (expLC_cons .v (expLC_cons .v (expLC_cons .v (expLC_cons .s (expLC_cons .s (expLC_cons .v (expLC_cons .s (expLC_cons .s (expLC_nil)))))))))) (expLG_cons (.c .v) (expLG_nil))))
 replace hH:=condF hc hH
 refine AW.seq (AW.region ?_)
 iterate 2 refine AO.pu T ?_
 refine AO.nil (AW.cond (b:=(sA.kind == 2)) rfl (fun hc=>?_) (fun hc=>?_))
 replace hH:=condT hc hH
 refine AW.seq ?_
 obtain ⟨x3,hx4,hH⟩:=bindE hH
 refine AW.region (AO.pu T (d:=.g [e.segments,e.size,e.key,.s (List.map encEntrant e.entrants),.s (List.map encInt e.gone),e.segment,.s (List.map encInt e.order),.s (List.map encResult e.results)]) ?_)
 iterate 2 refine AO.pu T ?_
 refine AO.val rfl rfl (callV_ok rfl rfl rfl rfl (spec_evLeave_ok fuel _ _ _ (hx4)) rfl) ?_
 refine AO.pu T (d:=.g [x3.1.segments,x3.1.size,x3.1.key,.s (List.map encEntrant x3.1.entrants),.s (List.map encInt x3.1.gone),x3.1.segment,.s (List.map encInt x3.1.order),.s (List.map encResult x3.1.results)]) ?_
 refine AO.pu T ?_
 refine AO.se T [x3.1.segments,x3.1.size,x3.1.key,.s (List.map encEntrant x3.1.entrants),.s (List.map encInt x3.1.gone),x3.1.segment,.s (List.map encInt x3.1.order),.s (List.map encResult x3.1.results)] ?_
 refine AO.pu T ?_
 refine AO.nil (AW.ret ?_)
 have hR:=someE hH;subst hR
 exact retQ.i [] rfl (.t (expLG_cons (.g (expLC_cons .v (expLC_cons .v (expLC_cons .v (expLC_cons .s (expLC_cons .s (expLC_cons .v (expLC_cons .s (expLC_cons .s (expLC_nil)))))))))) (expLG_cons (.c .v) (expLG_nil))))
 replace hH:=condF hc hH
 refine AW.seq (AW.region ?_)
 iterate 2 refine AO.pu T ?_
 refine AO.nil (AW.cond (b:=(sA.kind == 3)) rfl (fun hc=>?_) (fun hc=>?_))
 replace hH:=condT hc hH
 refine AW.seq ?_
 obtain ⟨x5,hx6,hH⟩:=bindE hH
 refine AW.region (AO.pu T (d:=.g [e.segments,e.size,e.key,.s (List.map encEntrant e.entrants),.s (List.map encInt e.gone),e.segment,.s (List.map encInt e.order),.s (List.map encResult e.results)]) ?_)
 refine AO.val rfl rfl (callV_ok rfl rfl rfl rfl (spec_evDraw_ok fuel _ _ (hx6)) rfl) ?_
 refine AO.pu T (d:=.g [x5.1.segments,x5.1.size,x5.1.key,.s (List.map encEntrant x5.1.entrants),.s (List.map encInt x5.1.gone),x5.1.segment,.s (List.map encInt x5.1.order),.s (List.map encResult x5.1.results)]) ?_
 refine AO.pu T ?_
 refine AO.se T [x5.1.segments,x5.1.size,x5.1.key,.s (List.map encEntrant x5.1.entrants),.s (List.map encInt x5.1.gone),x5.1.segment,.s (List.map encInt x5.1.order),.s (List.map encResult x5.1.results)] ?_
 refine AO.pu T ?_
 refine AO.nil (AW.ret ?_)
 have hR:=someE hH;subst hR
 exact retQ.i [] rfl (.t (expLG_cons (.g (expLC_cons .v (expLC_cons .v (expLC_cons .v (expLC_cons .s (expLC_cons .s (expLC_cons .v (expLC_cons .s (expLC_cons .s (expLC_nil)))))))))) (expLG_cons (.c .v) (expLG_nil))))
 replace hH:=condF hc hH
 refine AW.seq (AW.region ?_)
 iterate 2 refine AO.pu T ?_
 refine AO.nil (AW.cond (b:=(sA.kind == 4)) rfl (fun hc=>?_) (fun hc=>?_))
 replace hH:=condT hc hH
 refine AW.seq ?_
 obtain ⟨x7,hx8,hH⟩:=bindE hH
 refine AW.region (AO.pu T (d:=.g [e.segments,e.size,e.key,.s (List.map encEntrant e.entrants),.s (List.map encInt e.gone),e.segment,.s (List.map encInt e.order),.s (List.map encResult e.results)]) ?_)
 iterate 2 refine AO.pu T ?_
 refine AO.val rfl rfl (callV_ok rfl rfl rfl rfl (spec_evScore_ok fuel _ _ _ (hx8)) rfl) ?_
 refine AO.pu T (d:=.g [x7.1.segments,x7.1.size,x7.1.key,.s (List.map encEntrant x7.1.entrants),.s (List.map encInt x7.1.gone),x7.1.segment,.s (List.map encInt x7.1.order),.s (List.map encResult x7.1.results)]) ?_
 refine AO.pu T ?_
 refine AO.se T [x7.1.segments,x7.1.size,x7.1.key,.s (List.map encEntrant x7.1.entrants),.s (List.map encInt x7.1.gone),x7.1.segment,.s (List.map encInt x7.1.order),.s (List.map encResult x7.1.results)] ?_
 refine AO.pu T ?_
 refine AO.nil (AW.le (Le.ct 0 0 (σ':=(⟨[(4,.p 3 0),(5,.v (.bool x7.2))],[(3,.box [x7.1.segments,x7.1.size,x7.1.key,.s (List.map encEntrant x7.1.entrants),.s (List.map encInt x7.1.gone),x7.1.segment,.s (List.map encInt x7.1.order),.s (List.map encResult x7.1.results)])],48,[]⟩:St))) ?_)
 refine AW.ret ?_
 have hR:=someE hH;subst hR
 exact retQ.i [] rfl (.t (expLG_cons (.g (expLC_cons .v (expLC_cons .v (expLC_cons .v (expLC_cons .s (expLC_cons .s (expLC_cons .v (expLC_cons .s (expLC_cons .s (expLC_nil)))))))))) (expLG_cons (.c .v) (expLG_nil))))
 replace hH:=condF hc hH
 refine AW.skip (AW.seq (AW.region ?_))
 refine AO.pu T (d:=.g [(0:Int),(0:Int),(0:Int),.w 0 [],.w 0 [],(0:Int),.w 0 [],.w 0 []]) ?_
 refine AO.se T [(0:Int),(0:Int),(0:Int),.w 0 [],.w 0 [],(0:Int),.w 0 [],.w 0 []] ?_
 refine AO.pu T ?_
 refine AO.nil (AW.ret ?_)
 have hR:=someE hH;subst hR
 exact retQ.i [] rfl (.t (expLG_cons (.g (expLC_cons .v (expLC_cons .v (expLC_cons .v (expLC_cons .nilS (expLC_cons .nilS (expLC_cons .v (expLC_cons .nilS (expLC_cons .nilS (expLC_nil)))))))))) (expLG_cons (.c .v) (expLG_nil))))

def spec_l1Cur_event_l1 (fuel:Nat) (x7:(L1Cur × (List Step))):List Step→Nat→Int→Int→Int→List Entrant→List Int→Int→List Int→List Result→Option ((L1Cur × Event))
  | [],k9,v27,v28,v29,v30,v31,v32,v33,v34 =>
    (spec_evOwn_p (Event.mk v27 v28 v29 v30 v31 v32 v33 v34)).bind fun x36 =>
    (spec_l1Cur_pick_p (L1Cur.mk x7.1.code x7.1.at' x7.1.seed) 40).bind fun x38 =>
    cond (x38.2 == 0)
      ((spec_l1Cur_among_p (L1Cur.mk x38.1.code x38.1.at' x38.1.seed) ([0,1,3,4]:List Int)).bind fun x40 =>
      some ((L1Cur.mk x40.1.code x40.1.at' x40.1.seed),(Event.mk x40.2 x36.size x36.key x36.entrants x36.gone x36.segment x36.order x36.results)))
      (cond (x38.2 == 1)
        ((spec_l1Cur_among_p (L1Cur.mk x38.1.code x38.1.at' x38.1.seed) ([0,8,9]:List Int)).bind fun x42 =>
        some ((L1Cur.mk x42.1.code x42.1.at' x42.1.seed),(Event.mk x36.segments x42.2 x36.key x36.entrants x36.gone x36.segment x36.order x36.results)))
        (cond (x38.2 == 2)
          ((spec_l1Cur_among_p (L1Cur.mk x38.1.code x38.1.at' x38.1.seed) ([(-1),1000000000,1000000001]:List Int)).bind fun x44 =>
          some ((L1Cur.mk x44.1.code x44.1.at' x44.1.seed),(Event.mk x36.segments x36.size x44.2 x36.entrants x36.gone x36.segment x36.order x36.results)))
          (cond (x38.2 == 3)
            ((spec_l1Cur_pick_p (L1Cur.mk x38.1.code x38.1.at' x38.1.seed) 3).bind fun x46 =>
            some ((L1Cur.mk x46.1.code x46.1.at' x46.1.seed),(Event.mk x36.segments x36.size x36.key x36.entrants x36.gone (w64 (x36.segment+(w64 (x46.2 - 1)))) x36.order x36.results)))
            (cond (x38.2 == 4)
              (cond (decide ((x36.entrants.length:Int) > 0))
                ((spec_l1Cur_pick_p (L1Cur.mk x38.1.code x38.1.at' x38.1.seed) (x36.entrants.length:Int)).bind fun x48 =>
                (getI x36.entrants x48.2).bind fun x50 =>
                (spec_l1Put_p fuel x36.gone x50.skater).bind fun x52 =>
                some ((L1Cur.mk x48.1.code x48.1.at' x48.1.seed),(Event.mk x36.segments x36.size x36.key x36.entrants x52 x36.segment x36.order x36.results)))
                (some ((L1Cur.mk x38.1.code x38.1.at' x38.1.seed),x36)))
              (cond (x38.2 == 5)
                (cond (decide ((x36.order.length:Int) > 0))
                  ((sliceLo x36.order 1).bind fun x54 =>
                  some ((L1Cur.mk x38.1.code x38.1.at' x38.1.seed),(Event.mk x36.segments x36.size x36.key x36.entrants x36.gone x36.segment x54 x36.results)))
                  (some ((L1Cur.mk x38.1.code x38.1.at' x38.1.seed),x36)))
                (cond (x38.2 == 6)
                  (cond (decide ((x36.entrants.length:Int) > 0))
                    ((spec_l1Cur_pick_p (L1Cur.mk x38.1.code x38.1.at' x38.1.seed) (x36.entrants.length:Int)).bind fun x56 =>
                    (getI x36.results x56.2).bind fun x58 =>
                    (spec_l1Cur_among_p (L1Cur.mk x56.1.code x56.1.at' x56.1.seed) ([(-1),5,100000,100001]:List Int)).bind fun x60 =>
                    (getI x58.scores 0).bind fun x62 =>
                    some ((L1Cur.mk x60.1.code x60.1.at' x60.1.seed),(Event.mk x36.segments x36.size x36.key x36.entrants x36.gone x36.segment x36.order (x36.results.set x56.2.toNat (Result.mk x58.skater (x58.scores.set ((0:Int).toNat) x60.2))))))
                    (some ((L1Cur.mk x38.1.code x38.1.at' x38.1.seed),x36)))
                  (cond (x38.2 == 7)
                    (cond (decide ((x36.entrants.length:Int) > 0))
                      ((sliceLo x36.results 1).bind fun x64 =>
                      some ((L1Cur.mk x38.1.code x38.1.at' x38.1.seed),(Event.mk x36.segments x36.size x36.key x36.entrants x36.gone x36.segment x36.order x64)))
                      (some ((L1Cur.mk x38.1.code x38.1.at' x38.1.seed),x36)))
                    (cond (x38.2 == 8)
                      ((spec_l1Cur_among_p (L1Cur.mk x38.1.code x38.1.at' x38.1.seed) ([0,5,7]:List Int)).bind fun x66 =>
                      (need (fitsB 8 (x36.order.length+([x66.2]).length))).bind fun u68 =>
                      some ((L1Cur.mk x66.1.code x66.1.at' x66.1.seed),(Event.mk x36.segments x36.size x36.key x36.entrants x36.gone x36.segment (x36.order++[x66.2]) x36.results)))
                      (some ((L1Cur.mk x38.1.code x38.1.at' x38.1.seed),x36))))))))))
  | y10::ys11,k9,v27,v28,v29,v30,v31,v32,v33,v34 =>
    (spec_evStep_p fuel (Event.mk v27 v28 v29 v30 v31 v32 v33 v34) y10).bind fun x70 =>
    cond x70.2
      (spec_l1Cur_event_l1 fuel x7 ys11 (k9+1) x70.1.segments x70.1.size x70.1.key x70.1.entrants x70.1.gone x70.1.segment x70.1.order x70.1.results)
      (spec_l1Cur_event_l1 fuel x7 ys11 (k9+1) v27 v28 v29 v30 v31 v32 v33 v34)
def spec_l1Cur_event_p (fuel:Nat) (c:L1Cur):Option (L1Cur × Event) :=
  (spec_l1Cur_pick_p c 3).bind fun x1 =>
  (spec_l1Cur_among_p (L1Cur.mk x1.1.code x1.1.at' x1.1.seed) ([1,2,3,8]:List Int)).bind fun x3 =>
  (spec_l1Cur_pick_p (L1Cur.mk x3.1.code x3.1.at' x3.1.seed) 60000).bind fun x5 =>
  (spec_l1Cur_steps_p fuel (L1Cur.mk x5.1.code x5.1.at' x5.1.seed)).bind fun x7 =>
  spec_l1Cur_event_l1 fuel x7 x7.2 0 (w64 (1+x1.2)) x3.2 x5.2 [] [] 0 [] []
theorem spec_l1Cur_event_ok (fuel:Nat) (c:L1Cur) (r:(L1Cur × Event)) (hH:spec_l1Cur_event_p fuel c=some r):SpecM Tryz.prog 58 [.pw (encL1Cur c)] [.pw (encL1Cur r.1)] (.g (encEvent r.2)):=by
 refine fn_okM T Tryz.func58 rfl (by decide) rfl rfl ?_
 intro L
 show AW _ _ _ (⟨[(0,.p 1 0)],[(1,.box [.s (List.map encInt_u8 c.code),c.at',.v (.int .u64 c.seed)])],129,[(1,L 1)]⟩:St)
 refine AW.seq (AW.region (AO.step rfl (alloc_ok T rfl 2 rfl rfl rfl rfl rfl) ?_))
 refine AO.nil (AW.seq ?_)
 obtain ⟨x1,hx2,hH⟩:=bindE hH
 obtain ⟨x3,hx4,hH⟩:=bindE hH
 obtain ⟨x5,hx6,hH⟩:=bindE hH
 refine AW.region (AO.pu T ?_)
 refine AO.step rfl (callM_ok rfl 3 rfl rfl (es:=[.pw (encL1Cur c),.v (.int .i64 3)]) (outs:=[.pw (encL1Cur x1.1),.u]) (ids:=[1]) (by exact expLG_cons (.c (.box rfl rfl)) (expLG_cons (.c .v) (expLG_nil))) (by decide) (.inl (by rfl)) (by rfl) (spec_l1Cur_pick_ok _ _ _ (hx2)) rfl (by rfl) rfl) ?_
 refine AO.val rfl rfl (arw_ok rfl rfl rfl rfl) ?_
 refine AO.pu T ?_
 refine AO.step rfl (mk_map_ok T rfl 3 rfl rfl rfl rfl rfl (f:=encInt) (l:=([1,2,3,8]:List Int)) rfl rfl (fun _=>rfl) rfl rfl rfl rfl rfl) ?_
 refine AO.le (Le.freezeM 3 (g:=encInt) rfl (fun y=>.vs rfl)) ?_
 refine AO.step rfl (callM_ok rfl 4 rfl rfl (es:=[.pw (encL1Cur (L1Cur.mk x1.1.code x1.1.at' x1.1.seed)),.s (([1,2,3,8]:List Int).map encInt)]) (outs:=[.pw (encL1Cur x3.1),.u]) (ids:=[1]) (by exact expLG_cons (.c (.box rfl rfl)) (expLG_cons (.c .s) (expLG_nil))) (by decide) (.inl (by rfl)) (by rfl) (spec_l1Cur_among_ok _ _ _ (hx4)) rfl (by rfl) rfl) ?_
 refine AO.pu T ?_
 refine AO.step rfl (callM_ok rfl 4 rfl rfl (es:=[.pw (encL1Cur (L1Cur.mk x3.1.code x3.1.at' x3.1.seed)),.v (.int .i64 60000)]) (outs:=[.pw (encL1Cur x5.1),.u]) (ids:=[1]) (by exact expLG_cons (.c (.box rfl rfl)) (expLG_cons (.c .v) (expLG_nil))) (by decide) (.inl (by rfl)) (by rfl) (spec_l1Cur_pick_ok _ _ _ (hx6)) rfl (by rfl) rfl) ?_
 refine AO.pu T (d:=.g [w64 (1+x1.2),x3.2,x5.2,.w 0 [],.w 0 [],(0:Int),.w 0 [],.w 0 []]) ?_
 refine AO.step rfl (alloc_ok T rfl 4 rfl rfl rfl rfl rfl) ?_
 refine AO.se T [w64 (1+x1.2),x3.2,x5.2,.w 0 [],.w 0 [],(0:Int),.w 0 [],.w 0 []] ?_
 refine AO.nil ?_
 iterate 2 refine AW.seq ?_
 obtain ⟨x7,hx8,hH⟩:=bindE hH
 refine AW.region (AO.pu T ?_)
 refine AO.step rfl (callM_ok rfl 5 rfl rfl (es:=[.pw (encL1Cur (L1Cur.mk x5.1.code x5.1.at' x5.1.seed))]) (outs:=[.pw (encL1Cur x7.1)]) (ids:=[1]) (by exact expLG_cons (.c (.box rfl rfl)) (expLG_nil)) (by decide) (.inl (by rfl)) (by rfl) (spec_l1Cur_steps_ok fuel _ _ (hx8)) rfl (by rfl) rfl) ?_
 refine AO.val rfl rfl (len_row_ok T rfl rfl rfl rfl) ?_
 refine AO.pu T ?_
 refine AO.nil (AW.block ?_)
 refine AW.loopS (fun s:Nat × Int × Int × Int × (List Entrant) × (List Int) × Int × (List Int) × (List Result)=>(⟨[(0,.p 1 0),(2,.p 2 0),(3,.p 4 0),(19,.R 5),(20,(x7.2.length:Int)),(21,(s.1:Int))],[(1,.box [.s (List.map encInt_u8 x7.1.code),x7.1.at',.v (.int .u64 x7.1.seed)]),(2,.box [(0:Int),(0:Int),(0:Int),.w 0 [],.w 0 [],(0:Int),.w 0 [],.w 0 []]),(4,.box [s.2.1,s.2.2.1,s.2.2.2.1,.s (List.map encEntrant s.2.2.2.2.1),.s (List.map encInt s.2.2.2.2.2.1),s.2.2.2.2.2.2.1,.s (List.map encInt s.2.2.2.2.2.2.2.1),.s (List.map encResult s.2.2.2.2.2.2.2.2)]),(5,.row 3 (List.map encStep x7.2))],129,[(1,L 1)]⟩:St)) (fun s=>s.1 ≤ x7.2.length∧spec_l1Cur_event_l1 fuel x7 (x7.2.drop s.1) s.1 s.2.1 s.2.2.1 s.2.2.2.1 s.2.2.2.2.1 s.2.2.2.2.2.1 s.2.2.2.2.2.2.1 s.2.2.2.2.2.2.2.1 s.2.2.2.2.2.2.2.2=some r) (fun s=>x7.2.length - s.1) (0,w64 (1+x1.2),x3.2,x5.2,[],[],0,[],[]) ⟨Nat.zero_le _,hH⟩ ?_ ?_
 refine Le.trans (Le.nilSBox 4 3 rfl rfl) ?_
 refine Le.trans (Le.nilSBox 4 4 rfl rfl) ?_
 refine Le.trans (Le.nilSBox 4 6 rfl rfl) ?_
 refine Le.trans (Le.nilSBox 4 7 rfl rfl) ?_
 exact Le.ct 0 0 (hpin:=⟨⟨rfl,rfl⟩,trivial⟩)
 rintro ⟨k9,v27,v28,v29,v30,v31,v32,v33,v34⟩ ⟨hk,hH⟩
 replace hH:spec_l1Cur_event_l1 fuel x7 (x7.2.drop k9) k9 v27 v28 v29 v30 v31 v32 v33 v34=some r:=hH
 try dsimp only
 refine AW.boundR (id:=5) (l:=x7.2) rfl (fun hb13=>?_)
 rcases hd12:x7.2.drop k9 with _ | ⟨y10,ys11⟩
 rw [hd12,spec_l1Cur_event_l1] at hH
 have hlt14:=drop_ge hd12
 refine AW.seq (AW.region (AO.pu T ?_))
 refine AO.nil (AW.seq (AW.condF' (b:=decide ((k9:Int) < (x7.2.length:Int))) rfl (rngF hlt14) ?_))
 refine AW.exit (AW.seq ?_)
 obtain ⟨x36,hx37,hH⟩:=bindE hH
 refine AW.region (AO.pu T (d:=.g [v27,v28,v29,.s (List.map encEntrant v30),.s (List.map encInt v31),v32,.s (List.map encInt v33),.s (List.map encResult v34)]) ?_)
 refine AO.step rfl (call_ok rfl 10 rfl rfl rfl (spec_evOwn_ok _ _ (hx37)) rfl rfl rfl) ?_
 refine AO.se T [x36.segments,x36.size,x36.key,.R 10,.R 11,x36.segment,.R 12,.R 13] ?_
 refine AO.nil (AW.seq (AW.region ?_))
 iterate 2 refine AO.pu T ?_
 refine AO.val rfl rfl (len_row_ok T rfl rfl rfl rfl) ?_
 refine AO.pu T ?_
 refine AO.nil ?_
 iterate 2 refine AW.seq ?_
 obtain ⟨x38,hx39,hH⟩:=bindE hH
 refine AW.region (AO.pu T ?_)
 refine AO.step rfl (callM_ok rfl 14 rfl rfl (es:=[.pw (encL1Cur (L1Cur.mk x7.1.code x7.1.at' x7.1.seed)),.v (.int .i64 40)]) (outs:=[.pw (encL1Cur x38.1),.u]) (ids:=[1]) (by exact expLG_cons (.c (.box rfl rfl)) (expLG_cons (.c .v) (expLG_nil))) (by decide) (.inl (by rfl)) (by rfl) (spec_l1Cur_pick_ok _ _ _ (hx39)) rfl (by rfl) rfl) ?_
 refine AO.nil (AW.block ?_)
 refine AW.seq (AW.region ?_)
 iterate 2 refine AO.pu T ?_
 refine AO.nil (AW.cond (b:=(x38.2 == 0)) rfl (fun hc=>?_) (fun hc=>?_))
 replace hH:=condT hc hH
 obtain ⟨x40,hx41,hH⟩:=bindE hH
 refine AW.region (AO.pu T ?_)
 refine AO.step rfl (mk_map_ok T rfl 14 rfl rfl rfl rfl rfl (f:=encInt) (l:=([0,1,3,4]:List Int)) rfl rfl (fun _=>rfl) rfl rfl rfl rfl rfl) ?_
 refine AO.le (Le.freezeM 14 (g:=encInt) rfl (fun y=>.vs rfl)) ?_
 refine AO.step rfl (callM_ok rfl 15 rfl rfl (es:=[.pw (encL1Cur (L1Cur.mk x38.1.code x38.1.at' x38.1.seed)),.s (([0,1,3,4]:List Int).map encInt)]) (outs:=[.pw (encL1Cur x40.1),.u]) (ids:=[1]) (by exact expLG_cons (.c (.box rfl rfl)) (expLG_cons (.c .s) (expLG_nil))) (by decide) (.inl (by rfl)) (by rfl) (spec_l1Cur_among_ok _ _ _ (hx41)) rfl (by rfl) rfl) ?_
 refine AO.pu T ?_
 refine AO.se T [x40.2,x36.size,x36.key,.R 10,.R 11,x36.segment,.R 12,.R 13] ?_
 refine AO.nil (AW.seq (AW.region ?_))
 refine AO.pu T (d:=.g [x40.2,x36.size,x36.key,.R 10,.R 11,x36.segment,.R 12,.R 13]) ?_
 refine AO.se T [x40.2,x36.size,x36.key,.R 10,.R 11,x36.segment,.R 12,.R 13] ?_
 refine AO.nil (AW.le (Le.freezeM 13 (g:=encResult) rfl (fun y=>frzResult y)) ?_)
 refine AW.le (Le.freezeM 12 (g:=encInt) rfl (fun y=>.vs rfl)) ?_
 refine AW.le (Le.freezeM 11 (g:=encInt) rfl (fun y=>.vs rfl)) ?_
 refine AW.le (Le.freezeM 10 (g:=encEntrant) rfl (fun y=>.vs rfl)) ?_
 refine AW.ret ?_
 have hR:=someE hH;subst hR
 exact ⟨trivial,rfl,_,[],[1],rfl,expLG_cons (.c (.box rfl rfl)) (expLG_nil),.c (.g (expLC_cons .v (expLC_cons .v (expLC_cons .v (expLC_cons .s (expLC_cons .s (expLC_cons .v (expLC_cons .s (expLC_cons .s (expLC_nil)))))))))),by decide⟩
 replace hH:=condF hc hH
 refine AW.seq (AW.region ?_)
 iterate 2 refine AO.pu T ?_
 refine AO.nil (AW.cond (b:=(x38.2 == 1)) rfl (fun hc=>?_) (fun hc=>?_))
 replace hH:=condT hc hH
 obtain ⟨x42,hx43,hH⟩:=bindE hH
 refine AW.region (AO.pu T ?_)
 refine AO.step rfl (mk_map_ok T rfl 15 rfl rfl rfl rfl rfl (f:=encInt) (l:=([0,8,9]:List Int)) rfl rfl (fun _=>rfl) rfl rfl rfl rfl rfl) ?_
 refine AO.le (Le.freezeM 15 (g:=encInt) rfl (fun y=>.vs rfl)) ?_
 refine AO.step rfl (callM_ok rfl 16 rfl rfl (es:=[.pw (encL1Cur (L1Cur.mk x38.1.code x38.1.at' x38.1.seed)),.s (([0,8,9]:List Int).map encInt)]) (outs:=[.pw (encL1Cur x42.1),.u]) (ids:=[1]) (by exact expLG_cons (.c (.box rfl rfl)) (expLG_cons (.c .s) (expLG_nil))) (by decide) (.inl (by rfl)) (by rfl) (spec_l1Cur_among_ok _ _ _ (hx43)) rfl (by rfl) rfl) ?_
 refine AO.pu T ?_
 refine AO.se T [x36.segments,x42.2,x36.key,.R 10,.R 11,x36.segment,.R 12,.R 13] ?_
 refine AO.nil (AW.seq (AW.region ?_))
 refine AO.pu T (d:=.g [x36.segments,x42.2,x36.key,.R 10,.R 11,x36.segment,.R 12,.R 13]) ?_
 refine AO.se T [x36.segments,x42.2,x36.key,.R 10,.R 11,x36.segment,.R 12,.R 13] ?_
 refine AO.nil (AW.le (Le.freezeM 13 (g:=encResult) rfl (fun y=>frzResult y)) ?_)
 refine AW.le (Le.freezeM 12 (g:=encInt) rfl (fun y=>.vs rfl)) ?_
 refine AW.le (Le.freezeM 11 (g:=encInt) rfl (fun y=>.vs rfl)) ?_
 refine AW.le (Le.freezeM 10 (g:=encEntrant) rfl (fun y=>.vs rfl)) ?_
 refine AW.ret ?_
 have hR:=someE hH;subst hR
 exact ⟨trivial,rfl,_,[],[1],rfl,expLG_cons (.c (.box rfl rfl)) (expLG_nil),.c (.g (expLC_cons .v (expLC_cons .v (expLC_cons .v (expLC_cons .s (expLC_cons .s (expLC_cons .v (expLC_cons .s (expLC_cons .s (expLC_nil)))))))))),by decide⟩
 replace hH:=condF hc hH
 refine AW.seq (AW.region ?_)
 iterate 2 refine AO.pu T ?_
 refine AO.nil (AW.cond (b:=(x38.2 == 2)) rfl (fun hc=>?_) (fun hc=>?_))
 replace hH:=condT hc hH
 obtain ⟨x44,hx45,hH⟩:=bindE hH
 refine AW.region (AO.pu T ?_)
 refine AO.step rfl (mk_map_ok T rfl 16 rfl rfl rfl rfl rfl (f:=encInt) (l:=([(-1),1000000000,1000000001]:List Int)) rfl rfl (fun _=>rfl) rfl rfl rfl rfl rfl) ?_
 refine AO.le (Le.freezeM 16 (g:=encInt) rfl (fun y=>.vs rfl)) ?_
 refine AO.step rfl (callM_ok rfl 17 rfl rfl (es:=[.pw (encL1Cur (L1Cur.mk x38.1.code x38.1.at' x38.1.seed)),.s (([(-1),1000000000,1000000001]:List Int).map encInt)]) (outs:=[.pw (encL1Cur x44.1),.u]) (ids:=[1]) (by exact expLG_cons (.c (.box rfl rfl)) (expLG_cons (.c .s) (expLG_nil))) (by decide) (.inl (by rfl)) (by rfl) (spec_l1Cur_among_ok _ _ _ (hx45)) rfl (by rfl) rfl) ?_
 refine AO.pu T ?_
 refine AO.se T [x36.segments,x36.size,x44.2,.R 10,.R 11,x36.segment,.R 12,.R 13] ?_
 refine AO.nil (AW.seq (AW.region ?_))
 refine AO.pu T (d:=.g [x36.segments,x36.size,x44.2,.R 10,.R 11,x36.segment,.R 12,.R 13]) ?_
 refine AO.se T [x36.segments,x36.size,x44.2,.R 10,.R 11,x36.segment,.R 12,.R 13] ?_
 refine AO.nil (AW.le (Le.freezeM 13 (g:=encResult) rfl (fun y=>frzResult y)) ?_)
 refine AW.le (Le.freezeM 12 (g:=encInt) rfl (fun y=>.vs rfl)) ?_
 refine AW.le (Le.freezeM 11 (g:=encInt) rfl (fun y=>.vs rfl)) ?_
 refine AW.le (Le.freezeM 10 (g:=encEntrant) rfl (fun y=>.vs rfl)) ?_
 refine AW.ret ?_
 have hR:=someE hH;subst hR
 exact ⟨trivial,rfl,_,[],[1],rfl,expLG_cons (.c (.box rfl rfl)) (expLG_nil),.c (.g (expLC_cons .v (expLC_cons .v (expLC_cons .v (expLC_cons .s (expLC_cons .s (expLC_cons .v (expLC_cons .s (expLC_cons .s (expLC_nil)))))))))),by decide⟩
 replace hH:=condF hc hH
 refine AW.seq (AW.region ?_)
 iterate 2 refine AO.pu T ?_
 refine AO.nil (AW.cond (b:=(x38.2 == 3)) rfl (fun hc=>?_) (fun hc=>?_))
 replace hH:=condT hc hH
 obtain ⟨x46,hx47,hH⟩:=bindE hH
 refine AW.drawn 5 17 [1] mix (by kernel_rfl) rfl ?_
 iterate 3 refine AD.pure T rfl rfl rfl ?_
 refine AD.k rfl rfl (FStep.callM rfl rfl rfl rfl (es:=[.pw (encL1Cur (L1Cur.mk x38.1.code x38.1.at' x38.1.seed)),.v (.int .i64 3)]) (outs:=[.pw (encL1Cur x46.1),.u]) (ids:=[1]) (by exact expLG_cons (.c (.box rfl rfl)) (expLG_cons (.c .v) (expLG_nil))) (by decide) (.inl (by rfl)) (by rfl) (spec_l1Cur_pick_ok _ _ _ (hx47)) rfl (by rfl) rfl) rfl rfl rfl ?_
 refine AD.val rfl rfl (arw_ok rfl rfl rfl rfl) ?_
 refine AD.nil (AO.val rfl rfl (arw_ok rfl rfl rfl rfl) ?_)
 refine AO.pu T ?_
 refine AO.se T [x36.segments,x36.size,x36.key,.R 10,.R 11,w64 (x36.segment+(w64 (x46.2 - 1))),.R 12,.R 13] ?_
 refine AO.nil (AW.le (Le.ct 0 0 (σ':=(⟨[(2,.p 2 0),(3,.p 4 0)],[(1,.box [.s (List.map encInt_u8 x46.1.code),x46.1.at',.v (.int .u64 x46.1.seed)]),(2,.box [(0:Int),(0:Int),(0:Int),.w 0 [],.w 0 [],(0:Int),.w 0 [],.w 0 []]),(4,.box [x36.segments,x36.size,x36.key,.R 10,.R 11,w64 (x36.segment+(w64 (x46.2 - 1))),.R 12,.R 13]),(10,.row 2 (List.map encEntrant x36.entrants)),(11,.row 1 (List.map encInt x36.gone)),(12,.row 1 (List.map encInt x36.order)),(13,.row 2 (List.map encResultO x36.results))],129,[(1,L 1)]⟩:St)) (hpin:=⟨⟨rfl,rfl⟩,trivial⟩)) ?_)
 refine AW.seq (AW.region (AO.pu T (d:=.g [x36.segments,x36.size,x36.key,.R 10,.R 11,w64 (x36.segment+(w64 (x46.2 - 1))),.R 12,.R 13]) ?_))
 refine AO.se T [x36.segments,x36.size,x36.key,.R 10,.R 11,w64 (x36.segment+(w64 (x46.2 - 1))),.R 12,.R 13] ?_
 refine AO.nil (AW.le (Le.freezeM 13 (g:=encResult) rfl (fun y=>frzResult y)) ?_)
 refine AW.le (Le.freezeM 12 (g:=encInt) rfl (fun y=>.vs rfl)) ?_
 refine AW.le (Le.freezeM 11 (g:=encInt) rfl (fun y=>.vs rfl)) ?_
 refine AW.le (Le.freezeM 10 (g:=encEntrant) rfl (fun y=>.vs rfl)) ?_
 refine AW.ret ?_
 have hR:=someE hH;subst hR
 exact ⟨trivial,rfl,_,[],[1],rfl,expLG_cons (.c (.box rfl rfl)) (expLG_nil),.c (.g (expLC_cons .v (expLC_cons .v (expLC_cons .v (expLC_cons .s (expLC_cons .s (expLC_cons .v (expLC_cons .s (expLC_cons .s (expLC_nil)))))))))),by decide⟩
 replace hH:=condF hc hH
 refine AW.seq (AW.region ?_)
 iterate 2 refine AO.pu T ?_
 refine AO.nil (AW.cond (b:=(x38.2 == 4)) rfl (fun hc=>?_) (fun hc=>?_))
 replace hH:=condT hc hH
 refine AW.seq (AW.region ?_)
 iterate 2 refine AO.pu T ?_
 refine AO.nil (AW.cond (b:=decide ((x36.entrants.length:Int) > 0)) rfl (fun hc=>?_) (fun hc=>?_))
 replace hH:=condT hc hH
 obtain ⟨x48,hx49,hH⟩:=bindE hH
 obtain ⟨x50,hx51,hH⟩:=bindE hH
 obtain ⟨x52,hx53,hH⟩:=bindE hH
 refine AW.le (Le.freezeM 11 (g:=encInt) rfl (fun y=>.vs rfl)) ?_
 refine AW.drawn 10 17 [1] mix (by kernel_rfl) rfl ?_
 iterate 6 refine AD.pure T rfl rfl rfl ?_
 refine AD.k rfl rfl (FStep.callM rfl rfl rfl rfl (es:=[.pw (encL1Cur (L1Cur.mk x38.1.code x38.1.at' x38.1.seed)),.v (.int .i64 (x36.entrants.length:Int))]) (outs:=[.pw (encL1Cur x48.1),.u]) (ids:=[1]) (by exact expLG_cons (.c (.box rfl rfl)) (expLG_cons (.c .v) (expLG_nil))) (by decide) (.inl (by rfl)) (by rfl) (spec_l1Cur_pick_ok _ _ _ (hx49)) rfl (by rfl) rfl) rfl rfl rfl ?_
 refine AD.val rfl rfl (ix_row_ok T rfl rfl rfl rfl rfl rfl (hx51)) ?_
 refine AD.pure T rfl rfl rfl ?_
 refine AD.val rfl rfl (load_row_ok T rfl rfl rfl rfl (getI_get (hx51)) rfl rfl rfl) ?_
 refine AD.nil (AO.val rfl rfl (callV_ok rfl rfl rfl rfl (spec_l1Put_ok fuel _ _ _ (hx53)) rfl) ?_)
 refine AO.pu T ?_
 refine AO.se T [x36.segments,x36.size,x36.key,.R 10,.s (List.map encInt x52),x36.segment,.R 12,.R 13] ?_
 refine AO.nil (AW.le (Le.ct 0 0 (σ':=(⟨[(2,.p 2 0),(3,.p 4 0)],[(1,.box [.s (List.map encInt_u8 x48.1.code),x48.1.at',.v (.int .u64 x48.1.seed)]),(2,.box [(0:Int),(0:Int),(0:Int),.w 0 [],.w 0 [],(0:Int),.w 0 [],.w 0 []]),(4,.box [x36.segments,x36.size,x36.key,.R 10,.s (List.map encInt x52),x36.segment,.R 12,.R 13]),(10,.row 2 (List.map encEntrant x36.entrants)),(12,.row 1 (List.map encInt x36.order)),(13,.row 2 (List.map encResultO x36.results))],129,[(1,L 1)]⟩:St)) (hpin:=⟨⟨rfl,rfl⟩,trivial⟩)) ?_)
 refine AW.seq (AW.region (AO.pu T (d:=.g [x36.segments,x36.size,x36.key,.R 10,.s (List.map encInt x52),x36.segment,.R 12,.R 13]) ?_))
 refine AO.se T [x36.segments,x36.size,x36.key,.R 10,.s (List.map encInt x52),x36.segment,.R 12,.R 13] ?_
 refine AO.nil (AW.le (Le.freezeM 13 (g:=encResult) rfl (fun y=>frzResult y)) ?_)
 refine AW.le (Le.freezeM 12 (g:=encInt) rfl (fun y=>.vs rfl)) ?_
 refine AW.le (Le.freezeM 10 (g:=encEntrant) rfl (fun y=>.vs rfl)) ?_
 refine AW.ret ?_
 have hR:=someE hH;subst hR
 exact ⟨trivial,rfl,_,[],[1],rfl,expLG_cons (.c (.box rfl rfl)) (expLG_nil),.c (.g (expLC_cons .v (expLC_cons .v (expLC_cons .v (expLC_cons .s (expLC_cons .s (expLC_cons .v (expLC_cons .s (expLC_cons .s (expLC_nil)))))))))),by decide⟩
 replace hH:=condF hc hH
 refine AW.skip (AW.seq (AW.region ?_))
 refine AO.pu T (d:=.g [x36.segments,x36.size,x36.key,.R 10,.R 11,x36.segment,.R 12,.R 13]) ?_
 refine AO.se T [x36.segments,x36.size,x36.key,.R 10,.R 11,x36.segment,.R 12,.R 13] ?_
 refine AO.nil (AW.le (Le.ct 0 0 (σ':=(⟨[(2,.p 2 0)],[(1,.box [.s (List.map encInt_u8 x38.1.code),x38.1.at',.v (.int .u64 x38.1.seed)]),(2,.box [x36.segments,x36.size,x36.key,.R 10,.R 11,x36.segment,.R 12,.R 13]),(10,.row 2 (List.map encEntrant x36.entrants)),(11,.row 1 (List.map encInt x36.gone)),(12,.row 1 (List.map encInt x36.order)),(13,.row 2 (List.map encResultO x36.results))],129,[(1,L 1)]⟩:St)) (hpin:=⟨⟨rfl,rfl⟩,trivial⟩)) ?_)
 refine AW.le (Le.freezeM 13 (g:=encResult) rfl (fun y=>frzResult y)) ?_
 refine AW.le (Le.freezeM 12 (g:=encInt) rfl (fun y=>.vs rfl)) ?_
 refine AW.le (Le.freezeM 11 (g:=encInt) rfl (fun y=>.vs rfl)) ?_
 refine AW.le (Le.freezeM 10 (g:=encEntrant) rfl (fun y=>.vs rfl)) ?_
 refine AW.ret ?_
 have hR:=someE hH;subst hR
 exact ⟨trivial,rfl,_,[],[1],rfl,expLG_cons (.c (.box rfl rfl)) (expLG_nil),.c (.g (expLC_cons .v (expLC_cons .v (expLC_cons .v (expLC_cons .s (expLC_cons .s (expLC_cons .v (expLC_cons .s (expLC_cons .s (expLC_nil)))))))))),by decide⟩
 replace hH:=condF hc hH
 refine AW.seq (AW.region ?_)
 iterate 2 refine AO.pu T ?_
 refine AO.nil (AW.cond (b:=(x38.2 == 5)) rfl (fun hc=>?_) (fun hc=>?_))
 replace hH:=condT hc hH
 refine AW.seq (AW.region ?_)
 iterate 2 refine AO.pu T ?_
 refine AO.val rfl rfl (len_row_ok T rfl rfl rfl rfl) ?_
 refine AO.pu T ?_
 refine AO.nil (AW.le (Le.ct 0 0 (σ':=(⟨[(2,.p 2 0),(3,.p 4 0),(89,.v (.bool (decide ((x36.order.length:Int) > 0))))],[(1,.box [.s (List.map encInt_u8 x38.1.code),x38.1.at',.v (.int .u64 x38.1.seed)]),(2,.box [(0:Int),(0:Int),(0:Int),.w 0 [],.w 0 [],(0:Int),.w 0 [],.w 0 []]),(4,.box [x36.segments,x36.size,x36.key,.R 10,.R 11,x36.segment,.R 12,.R 13]),(10,.row 2 (List.map encEntrant x36.entrants)),(11,.row 1 (List.map encInt x36.gone)),(12,.row 1 (List.map encInt x36.order)),(13,.row 2 (List.map encResultO x36.results))],129,[(1,L 1)]⟩:St)) (hpin:=⟨⟨rfl,rfl⟩,trivial⟩)) ?_)
 refine AW.cond (b:=decide ((x36.order.length:Int) > 0)) rfl (fun hc=>?_) (fun hc=>?_)
 replace hH:=condT hc hH
 obtain ⟨x54,hx55,hH⟩:=bindE hH
 refine AW.le (Le.freezeM 12 (g:=encInt) rfl (fun y=>.vs rfl)) ?_
 refine AW.region ?_
 iterate 2 refine AO.pu T ?_
 refine AO.val rfl rfl (slice_lo_map_ok T rfl rfl rfl rfl rfl (hx55) (fun _=>rfl)) ?_
 refine AO.pu T ?_
 refine AO.se T [x36.segments,x36.size,x36.key,.R 10,.R 11,x36.segment,.s (List.map encInt x54),.R 13] ?_
 refine AO.nil (AW.seq (AW.region ?_))
 refine AO.pu T (d:=.g [x36.segments,x36.size,x36.key,.R 10,.R 11,x36.segment,.s (List.map encInt x54),.R 13]) ?_
 refine AO.se T [x36.segments,x36.size,x36.key,.R 10,.R 11,x36.segment,.s (List.map encInt x54),.R 13] ?_
 refine AO.nil (AW.le (Le.freezeM 13 (g:=encResult) rfl (fun y=>frzResult y)) ?_)
 refine AW.le (Le.freezeM 11 (g:=encInt) rfl (fun y=>.vs rfl)) ?_
 refine AW.le (Le.freezeM 10 (g:=encEntrant) rfl (fun y=>.vs rfl)) ?_
 refine AW.ret ?_
 have hR:=someE hH;subst hR
 exact ⟨trivial,rfl,_,[],[1],rfl,expLG_cons (.c (.box rfl rfl)) (expLG_nil),.c (.g (expLC_cons .v (expLC_cons .v (expLC_cons .v (expLC_cons .s (expLC_cons .s (expLC_cons .v (expLC_cons .s (expLC_cons .s (expLC_nil)))))))))),by decide⟩
 replace hH:=condF hc hH
 refine AW.skip (AW.seq (AW.region ?_))
 refine AO.pu T (d:=.g [x36.segments,x36.size,x36.key,.R 10,.R 11,x36.segment,.R 12,.R 13]) ?_
 refine AO.se T [x36.segments,x36.size,x36.key,.R 10,.R 11,x36.segment,.R 12,.R 13] ?_
 refine AO.nil (AW.le (Le.freezeM 13 (g:=encResult) rfl (fun y=>frzResult y)) ?_)
 refine AW.le (Le.freezeM 12 (g:=encInt) rfl (fun y=>.vs rfl)) ?_
 refine AW.le (Le.freezeM 11 (g:=encInt) rfl (fun y=>.vs rfl)) ?_
 refine AW.le (Le.freezeM 10 (g:=encEntrant) rfl (fun y=>.vs rfl)) ?_
 refine AW.ret ?_
 have hR:=someE hH;subst hR
 exact ⟨trivial,rfl,_,[],[1],rfl,expLG_cons (.c (.box rfl rfl)) (expLG_nil),.c (.g (expLC_cons .v (expLC_cons .v (expLC_cons .v (expLC_cons .s (expLC_cons .s (expLC_cons .v (expLC_cons .s (expLC_cons .s (expLC_nil)))))))))),by decide⟩
 replace hH:=condF hc hH
 refine AW.seq (AW.region ?_)
 iterate 2 refine AO.pu T ?_
 refine AO.nil (AW.le (Le.ct 0 0 (σ':=(⟨[(0,.p 1 0),(2,.p 2 0),(3,.p 4 0),(8,(x36.entrants.length:Int)),(40,x38.2),(94,.v (.bool (x38.2 == 6)))],[(1,.box [.s (List.map encInt_u8 x38.1.code),x38.1.at',.v (.int .u64 x38.1.seed)]),(2,.box [(0:Int),(0:Int),(0:Int),.w 0 [],.w 0 [],(0:Int),.w 0 [],.w 0 []]),(4,.box [x36.segments,x36.size,x36.key,.R 10,.R 11,x36.segment,.R 12,.R 13]),(10,.row 2 (List.map encEntrant x36.entrants)),(11,.row 1 (List.map encInt x36.gone)),(12,.row 1 (List.map encInt x36.order)),(13,.row 2 (List.map encResultO x36.results))],129,[(1,L 1)]⟩:St)) (hpin:=⟨⟨rfl,rfl⟩,trivial⟩)) ?_)
 refine AW.cond (b:=(x38.2 == 6)) rfl (fun hc=>?_) (fun hc=>?_)
 replace hH:=condT hc hH
 refine AW.seq (AW.region ?_)
 iterate 2 refine AO.pu T ?_
 refine AO.nil (AW.cond (b:=decide ((x36.entrants.length:Int) > 0)) rfl (fun hc=>?_) (fun hc=>?_))
 replace hH:=condT hc hH
 obtain ⟨x56,hx57,hH⟩:=bindE hH
 obtain ⟨x58,hx59,hH⟩:=bindE hH
 obtain ⟨x60,hx61,hH⟩:=bindE hH
 obtain ⟨x62,hx63,hH⟩:=bindE hH
 refine AW.le (Le.openM 13 x56.2.toNat 1 17 rfl (getI_get (hx59)) rfl rfl) ?_
 refine AW.drawn 11 18 [1] mix (by kernel_rfl) rfl ?_
 iterate 4 refine AD.pure T rfl rfl rfl ?_
 refine AD.k rfl rfl (FStep.callM rfl rfl rfl rfl (es:=[.pw (encL1Cur (L1Cur.mk x38.1.code x38.1.at' x38.1.seed)),.v (.int .i64 (x36.entrants.length:Int))]) (outs:=[.pw (encL1Cur x56.1),.u]) (ids:=[1]) (by exact expLG_cons (.c (.box rfl rfl)) (expLG_cons (.c .v) (expLG_nil))) (by decide) (.inl (by rfl)) (by rfl) (spec_l1Cur_pick_ok _ _ _ (hx57)) rfl (by rfl) rfl) rfl rfl rfl ?_
 refine AD.val rfl rfl (ix_lent_ok T rfl rfl rfl rfl rfl rfl (hx59)) ?_
 refine AD.pure T rfl rfl rfl ?_
 refine AD.val rfl rfl (load_lent_ok T rfl rfl rfl rfl rfl) ?_
 refine AD.pure T rfl rfl rfl ?_
 refine AD.val rfl rfl (mkF_ok T rfl rfl rfl rfl rfl rfl (f:=encInt) (l:=([(-1),5,100000,100001]:List Int)) rfl rfl (fun _=>rfl) rfl rfl rfl) ?_
 refine AD.k rfl rfl (FStep.callM rfl rfl rfl rfl (es:=[.pw (encL1Cur (L1Cur.mk x56.1.code x56.1.at' x56.1.seed)),.s (([(-1),5,100000,100001]:List Int).map encInt)]) (outs:=[.pw (encL1Cur x60.1),.u]) (ids:=[1]) (by exact expLG_cons (.c (.box rfl rfl)) (expLG_cons (.c .s) (expLG_nil))) (by decide) (.inl (by rfl)) (by rfl) (spec_l1Cur_among_ok _ _ _ (hx61)) rfl (by rfl) rfl) rfl rfl rfl ?_
 refine AD.nil (AO.val rfl rfl (ix_row_ok T rfl rfl rfl rfl rfl rfl (hx63)) ?_)
 refine AO.step rfl (store_row_ok T rfl rfl rfl rfl rfl (getI_get (hx63)) rfl rfl rfl rfl (u':=x60.2) rfl rfl) ?_
 refine AO.le (Le.closeM 13 x56.2.toNat 1 17 rfl rfl (getI_get (hx59)) rfl (u':=(Result.mk x58.skater (x58.scores.set ((0:Int).toNat) x60.2))) rfl) ?_
 refine AO.nil (AW.seq (AW.region ?_))
 refine AO.pu T (d:=.g [x36.segments,x36.size,x36.key,.R 10,.R 11,x36.segment,.R 12,.R 13]) ?_
 refine AO.se T [x36.segments,x36.size,x36.key,.R 10,.R 11,x36.segment,.R 12,.R 13] ?_
 refine AO.nil (AW.le (Le.freezeM 13 (g:=encResult) rfl (fun y=>frzResult y)) ?_)
 refine AW.le (Le.freezeM 12 (g:=encInt) rfl (fun y=>.vs rfl)) ?_
 refine AW.le (Le.freezeM 11 (g:=encInt) rfl (fun y=>.vs rfl)) ?_
 refine AW.le (Le.freezeM 10 (g:=encEntrant) rfl (fun y=>.vs rfl)) ?_
 refine AW.ret ?_
 have hR:=someE hH;subst hR
 exact ⟨trivial,rfl,_,[],[1],rfl,expLG_cons (.c (.box rfl rfl)) (expLG_nil),.c (.g (expLC_cons .v (expLC_cons .v (expLC_cons .v (expLC_cons .s (expLC_cons .s (expLC_cons .v (expLC_cons .s (expLC_cons .s (expLC_nil)))))))))),by decide⟩
 replace hH:=condF hc hH
 refine AW.skip (AW.seq (AW.region ?_))
 refine AO.pu T (d:=.g [x36.segments,x36.size,x36.key,.R 10,.R 11,x36.segment,.R 12,.R 13]) ?_
 refine AO.se T [x36.segments,x36.size,x36.key,.R 10,.R 11,x36.segment,.R 12,.R 13] ?_
 refine AO.nil (AW.le (Le.freezeM 13 (g:=encResult) rfl (fun y=>frzResult y)) ?_)
 refine AW.le (Le.freezeM 12 (g:=encInt) rfl (fun y=>.vs rfl)) ?_
 refine AW.le (Le.freezeM 11 (g:=encInt) rfl (fun y=>.vs rfl)) ?_
 refine AW.le (Le.freezeM 10 (g:=encEntrant) rfl (fun y=>.vs rfl)) ?_
 refine AW.ret ?_
 have hR:=someE hH;subst hR
 exact ⟨trivial,rfl,_,[],[1],rfl,expLG_cons (.c (.box rfl rfl)) (expLG_nil),.c (.g (expLC_cons .v (expLC_cons .v (expLC_cons .v (expLC_cons .s (expLC_cons .s (expLC_cons .v (expLC_cons .s (expLC_cons .s (expLC_nil)))))))))),by decide⟩
 replace hH:=condF hc hH
 refine AW.seq (AW.region ?_)
 iterate 2 refine AO.pu T ?_
 refine AO.nil (AW.cond (b:=(x38.2 == 7)) rfl (fun hc=>?_) (fun hc=>?_))
 replace hH:=condT hc hH
 refine AW.seq (AW.region ?_)
 iterate 2 refine AO.pu T ?_
 refine AO.nil (AW.cond (b:=decide ((x36.entrants.length:Int) > 0)) rfl (fun hc=>?_) (fun hc=>?_))
 replace hH:=condT hc hH
 obtain ⟨x64,hx65,hH⟩:=bindE hH
 refine AW.le (Le.freezeM 13 (g:=encResult) rfl (fun y=>frzResult y)) ?_
 refine AW.region ?_
 iterate 2 refine AO.pu T ?_
 refine AO.val rfl rfl (slice_lo_map_ok T rfl rfl rfl rfl rfl (hx65) (fun _=>rfl)) ?_
 refine AO.pu T ?_
 refine AO.se T [x36.segments,x36.size,x36.key,.R 10,.R 11,x36.segment,.R 12,.s (List.map encResult x64)] ?_
 refine AO.nil (AW.seq (AW.region ?_))
 refine AO.pu T (d:=.g [x36.segments,x36.size,x36.key,.R 10,.R 11,x36.segment,.R 12,.s (List.map encResult x64)]) ?_
 refine AO.se T [x36.segments,x36.size,x36.key,.R 10,.R 11,x36.segment,.R 12,.s (List.map encResult x64)] ?_
 refine AO.nil (AW.le (Le.freezeM 12 (g:=encInt) rfl (fun y=>.vs rfl)) ?_)
 refine AW.le (Le.freezeM 11 (g:=encInt) rfl (fun y=>.vs rfl)) ?_
 refine AW.le (Le.freezeM 10 (g:=encEntrant) rfl (fun y=>.vs rfl)) ?_
 refine AW.ret ?_
 have hR:=someE hH;subst hR
 exact ⟨trivial,rfl,_,[],[1],rfl,expLG_cons (.c (.box rfl rfl)) (expLG_nil),.c (.g (expLC_cons .v (expLC_cons .v (expLC_cons .v (expLC_cons .s (expLC_cons .s (expLC_cons .v (expLC_cons .s (expLC_cons .s (expLC_nil)))))))))),by decide⟩
 replace hH:=condF hc hH
 refine AW.skip (AW.seq (AW.region ?_))
 refine AO.pu T (d:=.g [x36.segments,x36.size,x36.key,.R 10,.R 11,x36.segment,.R 12,.R 13]) ?_
 refine AO.se T [x36.segments,x36.size,x36.key,.R 10,.R 11,x36.segment,.R 12,.R 13] ?_
 refine AO.nil (AW.le (Le.freezeM 13 (g:=encResult) rfl (fun y=>frzResult y)) ?_)
 refine AW.le (Le.freezeM 12 (g:=encInt) rfl (fun y=>.vs rfl)) ?_
 refine AW.le (Le.freezeM 11 (g:=encInt) rfl (fun y=>.vs rfl)) ?_
 refine AW.le (Le.freezeM 10 (g:=encEntrant) rfl (fun y=>.vs rfl)) ?_
 refine AW.ret ?_
 have hR:=someE hH;subst hR
 exact ⟨trivial,rfl,_,[],[1],rfl,expLG_cons (.c (.box rfl rfl)) (expLG_nil),.c (.g (expLC_cons .v (expLC_cons .v (expLC_cons .v (expLC_cons .s (expLC_cons .s (expLC_cons .v (expLC_cons .s (expLC_cons .s (expLC_nil)))))))))),by decide⟩
 replace hH:=condF hc hH
 refine AW.seq (AW.region ?_)
 iterate 2 refine AO.pu T ?_
 refine AO.nil (AW.cond (b:=(x38.2 == 8)) rfl (fun hc=>?_) (fun hc=>?_))
 replace hH:=condT hc hH
 obtain ⟨x66,hx67,hH⟩:=bindE hH
 obtain ⟨u68,hx69,hH⟩:=bindE hH
 refine AW.drawn 6 18 [1] mix (by kernel_rfl) rfl ?_
 iterate 3 refine AD.pure T rfl rfl rfl ?_
 refine AD.val rfl rfl (mkF_ok T rfl rfl rfl rfl rfl rfl (f:=encInt) (l:=([0,5,7]:List Int)) rfl rfl (fun _=>rfl) rfl rfl rfl) ?_
 refine AD.k rfl rfl (FStep.callM rfl rfl rfl rfl (es:=[.pw (encL1Cur (L1Cur.mk x38.1.code x38.1.at' x38.1.seed)),.s (([0,5,7]:List Int).map encInt)]) (outs:=[.pw (encL1Cur x66.1),.u]) (ids:=[1]) (by exact expLG_cons (.c (.box rfl rfl)) (expLG_cons (.c .s) (expLG_nil))) (by decide) (.inl (by rfl)) (by rfl) (spec_l1Cur_among_ok _ _ _ (hx67)) rfl (by rfl) rfl) rfl rfl rfl ?_
 refine AD.q (FStep.mk T (f:=encInt) (l:=[x66.2]) rfl rfl rfl rfl rfl rfl rfl rfl rfl (fun _=>rfl) rfl rfl rfl rfl) (by simp [namesIn]) (Nat.le_succ _) rfl ?_
 refine AD.nil (AO.step rfl (app_rv_map T rfl 19 rfl rfl rfl rfl rfl (by decide) rfl rfl rfl rfl (fun _=>rfl) (needT (hx69)) rfl rfl) ?_)
 refine AO.pu T ?_
 refine AO.se T [x36.segments,x36.size,x36.key,.R 10,.R 11,x36.segment,.R 19,.R 13] ?_
 refine AO.nil (AW.seq (AW.region ?_))
 refine AO.pu T (d:=.g [x36.segments,x36.size,x36.key,.R 10,.R 11,x36.segment,.R 19,.R 13]) ?_
 refine AO.se T [x36.segments,x36.size,x36.key,.R 10,.R 11,x36.segment,.R 19,.R 13] ?_
 refine AO.nil (AW.le (Le.freezeM 13 (g:=encResult) rfl (fun y=>frzResult y)) ?_)
 refine AW.le (Le.freezeM 19 (g:=encInt) rfl (fun y=>.vs rfl)) ?_
 refine AW.le (Le.freezeM 11 (g:=encInt) rfl (fun y=>.vs rfl)) ?_
 refine AW.le (Le.freezeM 10 (g:=encEntrant) rfl (fun y=>.vs rfl)) ?_
 refine AW.ret ?_
 have hR:=someE hH;subst hR
 exact ⟨trivial,rfl,_,[],[1],rfl,expLG_cons (.c (.box rfl rfl)) (expLG_nil),.c (.g (expLC_cons .v (expLC_cons .v (expLC_cons .v (expLC_cons .s (expLC_cons .s (expLC_cons .v (expLC_cons .s (expLC_cons .s (expLC_nil)))))))))),by decide⟩
 replace hH:=condF hc hH
 refine AW.skip (AW.seq (AW.region ?_))
 refine AO.pu T (d:=.g [x36.segments,x36.size,x36.key,.R 10,.R 11,x36.segment,.R 12,.R 13]) ?_
 refine AO.se T [x36.segments,x36.size,x36.key,.R 10,.R 11,x36.segment,.R 12,.R 13] ?_
 refine AO.nil (AW.le (Le.freezeM 13 (g:=encResult) rfl (fun y=>frzResult y)) ?_)
 refine AW.le (Le.freezeM 12 (g:=encInt) rfl (fun y=>.vs rfl)) ?_
 refine AW.le (Le.freezeM 11 (g:=encInt) rfl (fun y=>.vs rfl)) ?_
 refine AW.le (Le.freezeM 10 (g:=encEntrant) rfl (fun y=>.vs rfl)) ?_
 refine AW.ret ?_
 have hR:=someE hH;subst hR
 exact ⟨trivial,rfl,_,[],[1],rfl,expLG_cons (.c (.box rfl rfl)) (expLG_nil),.c (.g (expLC_cons .v (expLC_cons .v (expLC_cons .v (expLC_cons .s (expLC_cons .s (expLC_cons .v (expLC_cons .s (expLC_cons .s (expLC_nil)))))))))),by decide⟩
 rw [hd12,spec_l1Cur_event_l1] at hH
 have hlt14:=drop_lt hd12
 refine AW.seq (AW.region (AO.pu T ?_))
 refine AO.nil (AW.seq (AW.condT' (b:=decide ((k9:Int) < (x7.2.length:Int))) rfl (rngT hlt14) ?_))
 refine AW.skip (AW.seq ?_)
 refine AW.block (AW.seq (AW.region ?_))
 refine AO.val rfl rfl (ix_row_ok T rfl rfl rfl rfl rfl rfl (getI_drop hd12)) ?_
 refine AO.val rfl rfl (load_row_ok T rfl rfl rfl rfl (getI_get (getI_drop hd12)) rfl rfl rfl) ?_
 refine AO.step rfl (alloc_ok T rfl 20 rfl rfl rfl rfl rfl) ?_
 refine AO.se T [y10.kind,y10.skater,y10.number] ?_
 refine AO.nil (AW.seq ?_)
 obtain ⟨x70,hx71,hH⟩:=bindE hH
 refine AW.region (AO.pu T (d:=.g [v27,v28,v29,.s (List.map encEntrant v30),.s (List.map encInt v31),v32,.s (List.map encInt v33),.s (List.map encResult v34)]) ?_)
 refine AO.pu T (d:=.g [y10.kind,y10.skater,y10.number]) ?_
 refine AO.val rfl rfl (callV_ok rfl rfl rfl rfl (spec_evStep_ok fuel _ _ _ (hx71)) rfl) ?_
 refine AO.pu T ?_
 refine AO.pu T (d:=.g [x70.1.segments,x70.1.size,x70.1.key,.s (List.map encEntrant x70.1.entrants),.s (List.map encInt x70.1.gone),x70.1.segment,.s (List.map encInt x70.1.order),.s (List.map encResult x70.1.results)]) ?_
 refine AO.pu T ?_
 refine AO.step rfl (alloc_ok T rfl 21 rfl rfl rfl rfl rfl) ?_
 refine AO.se T [x70.1.segments,x70.1.size,x70.1.key,.s (List.map encEntrant x70.1.entrants),.s (List.map encInt x70.1.gone),x70.1.segment,.s (List.map encInt x70.1.order),.s (List.map encResult x70.1.results)] ?_
 refine AO.pu T ?_
 refine AO.nil (AW.seq (AW.region ?_))
 refine AO.pu T ?_
 refine AO.nil (AW.cond (b:=x70.2) rfl (fun hc=>?_) (fun hc=>?_))
 replace hH:=condT hc hH
 refine AW.region (AO.pu T (d:=.g [x70.1.segments,x70.1.size,x70.1.key,.s (List.map encEntrant x70.1.entrants),.s (List.map encInt x70.1.gone),x70.1.segment,.s (List.map encInt x70.1.order),.s (List.map encResult x70.1.results)]) ?_)
 refine AO.se T [x70.1.segments,x70.1.size,x70.1.key,.s (List.map encEntrant x70.1.entrants),.s (List.map encInt x70.1.gone),x70.1.segment,.s (List.map encInt x70.1.order),.s (List.map encResult x70.1.results)] ?_
 refine AO.nil (AW.region ?_)
 refine AO.val rfl rfl (ar_ok rfl rfl rfl rfl (inI_succ hlt14 hb13)) ?_
 refine AO.pu T ?_
 refine AO.nil ?_
 refine ⟨(k9+1,x70.1.segments,x70.1.size,x70.1.key,x70.1.entrants,x70.1.gone,x70.1.segment,x70.1.order,x70.1.results),⟨Nat.succ_le_of_lt hlt14,(by rw [drop_succ_of hd12];exact hH)⟩,(by have:=hlt14;dsimp only;omega),?_⟩
 exact Le.ct 0 0 (hpin:=⟨⟨rfl,rfl⟩,trivial⟩)
 replace hH:=condF hc hH
 refine AW.skip (AW.region ?_)
 refine AO.val rfl rfl (ar_ok rfl rfl rfl rfl (inI_succ hlt14 hb13)) ?_
 refine AO.pu T ?_
 refine AO.nil ?_
 refine ⟨(k9+1,v27,v28,v29,v30,v31,v32,v33,v34),⟨Nat.succ_le_of_lt hlt14,(by rw [drop_succ_of hd12];exact hH)⟩,(by have:=hlt14;dsimp only;omega),?_⟩
 exact Le.ct 0 0 (hpin:=⟨⟨rfl,rfl⟩,trivial⟩)

def spec_DrawIsEvent_p (fuel:Nat) (code:List Int):Option Event :=
  (spec_l1Cur_event_p fuel (L1Cur.mk code 0 0)).bind fun x1 =>
  some (Event.mk x1.2.segments x1.2.size x1.2.key x1.2.entrants x1.2.gone x1.2.segment x1.2.order x1.2.results)
theorem spec_DrawIsEvent_ok (fuel:Nat) (code:List Int) (r:Event) (hH:spec_DrawIsEvent_p fuel code=some r):SpecR Tryz.prog 37 [.s (List.map encInt_u8 code)] (.g (encEvent r)):=by
 refine fn_ok T Tryz.func37 rfl (by decide) rfl ?_
 refine AW.seq (AW.region (AO.step rfl (alloc_ok T rfl 1 rfl rfl rfl rfl rfl) ?_))
 refine AO.nil (AW.seq (AW.region ?_))
 refine AO.pu T ?_
 refine AO.pu T (d:=.g [.s (List.map encInt_u8 code),(0:Int),.v (.int .u64 0)]) ?_
 refine AO.step rfl (box_ok T rfl 2 rfl rfl rfl rfl) ?_
 refine AO.pu T ?_
 refine AO.nil (AW.seq ?_)
 obtain ⟨x1,hx2,hH⟩:=bindE hH
 refine AW.region (AO.pu T ?_)
 refine AO.step rfl (callM_ok rfl 3 rfl rfl (es:=[.pw (encL1Cur (L1Cur.mk code 0 0))]) (outs:=[.pw (encL1Cur x1.1)]) (ids:=[2]) (by exact expLG_cons (.c (.box rfl rfl)) (expLG_nil)) (by decide) (.inl (by rfl)) (by rfl) (spec_l1Cur_event_ok fuel _ _ (hx2)) rfl (by rfl) rfl) ?_
 refine AO.se T [x1.2.segments,x1.2.size,x1.2.key,.s (List.map encEntrant x1.2.entrants),.s (List.map encInt x1.2.gone),x1.2.segment,.s (List.map encInt x1.2.order),.s (List.map encResult x1.2.results)] ?_
 refine AO.nil (AW.ret ?_)
 have hR:=someE hH;subst hR
 exact retQ.i [] rfl (.c (.g (expLC_cons .v (expLC_cons .v (expLC_cons .v (expLC_cons .s (expLC_cons .s (expLC_cons .v (expLC_cons .s (expLC_cons .s (expLC_nil)))))))))))

def spec_DrawAllowedSteps_p (fuel:Nat) (code:List Int):Option Event :=
  (spec_DrawIsEvent_p fuel code).bind fun x1 =>
  some x1
theorem spec_DrawAllowedSteps_ok (fuel:Nat) (code:List Int) (r:Event) (hH:spec_DrawAllowedSteps_p fuel code=some r):SpecR Tryz.prog 6 [.s (List.map encInt_u8 code)] (.g (encEvent r)):=by
 refine fn_ok T Tryz.func6 rfl (by decide) rfl ?_
 refine AW.seq (AW.region (AO.step rfl (alloc_ok T rfl 1 rfl rfl rfl rfl rfl) ?_))
 refine AO.nil (AW.seq ?_)
 obtain ⟨x1,hx2,hH⟩:=bindE hH
 refine AW.region (AO.pu T ?_)
 refine AO.val rfl rfl (callV_ok rfl rfl rfl rfl (spec_DrawIsEvent_ok fuel _ _ (hx2)) rfl) ?_
 refine AO.se T [x1.segments,x1.size,x1.key,.s (List.map encEntrant x1.entrants),.s (List.map encInt x1.gone),x1.segment,.s (List.map encInt x1.order),.s (List.map encResult x1.results)] ?_
 refine AO.nil (AW.ret ?_)
 have hR:=someE hH;subst hR
 exact retQ.i [] rfl (.c (.g (expLC_cons .v (expLC_cons .v (expLC_cons .v (expLC_cons .s (expLC_cons .s (expLC_cons .v (expLC_cons .s (expLC_cons .s (expLC_nil)))))))))))

def impl_within_p (n:Int) (low:Int) (high:Int):Option Bool :=
  some (decide (n ≥ low) && decide (n ≤ high))
theorem impl_within_ok (n:Int) (low:Int) (high:Int) (r:Bool) (hH:impl_within_p n low high=some r):SpecR Tryz.prog 52 [n,low,high] (.v (.bool r)):=by
 refine fn_ok T Tryz.func52 rfl (by decide) rfl ?_
 refine AW.seq (AW.region (AO.pu T ?_))
 refine AO.nil (AW.seq (AW.region ?_))
 iterate 4 refine AO.pu T ?_
 iterate 2 refine AO.pureG T [] rfl trivial rfl rfl ?_
 refine AO.pureG T [11,12] rfl ⟨fun h=>h,fun h=>h,trivial⟩ rfl rfl ?_
 refine AO.val rfl rfl (pick_and rfl rfl rfl rfl) ?_
 refine AO.pu T ?_
 refine AO.nil (AW.ret ?_)
 have hR:=someE hH;subst hR
 exact retQ.i [] rfl (.c (.c .v))

def impl_isGroupSize_p (size:Int):Option Bool :=
  (impl_within_p size 1 8).bind fun x1 =>
  some x1
theorem impl_isGroupSize_ok (size:Int) (r:Bool) (hH:impl_isGroupSize_p size=some r):SpecR Tryz.prog 53 [size] (.v (.bool r)):=by
 refine fn_ok T Tryz.func53 rfl (by decide) rfl ?_
 refine AW.seq (AW.region (AO.pu T ?_))
 refine AO.nil (AW.seq ?_)
 obtain ⟨x1,hx2,hH⟩:=bindE hH
 refine AW.region (AO.pu T ?_)
 refine AO.val rfl rfl (callV_ok rfl rfl rfl rfl (impl_within_ok _ _ _ _ (hx2)) rfl) ?_
 refine AO.pu T ?_
 refine AO.nil (AW.ret ?_)
 have hR:=someE hH;subst hR
 exact retQ.i [] rfl (.c (.c .v))

def impl_allWithin_l1 (low:Int) (high:Int):List Int→Nat→Option Bool
  | [],k1 =>
    some true
  | y2::ys3,k1 =>
    (impl_within_p y2 low high).bind fun x12 =>
    cond (!x12)
      (some false)
      (impl_allWithin_l1 low high ys3 (k1+1))
def impl_allWithin_p (l:List Int) (low:Int) (high:Int):Option Bool :=
  impl_allWithin_l1 low high l 0
theorem impl_allWithin_ok (l:List Int) (low:Int) (high:Int) (r:Bool) (hH:impl_allWithin_p l low high=some r):SpecR Tryz.prog 132 [.s (List.map encInt l),low,high] (.v (.bool r)):=by
 refine fn_ok T Tryz.func132 rfl (by decide) rfl ?_
 refine AW.seq (AW.region (AO.pu T ?_))
 refine AO.nil ?_
 iterate 2 refine AW.seq ?_
 refine AW.region (AO.pu T ?_)
 refine AO.val rfl rfl (len_map_ok T rfl rfl rfl) ?_
 refine AO.pu T ?_
 refine AO.nil (AW.block ?_)
 refine AW.loopS (fun s:Nat=>(⟨[(1,low),(2,high),(9,.s (List.map encInt l)),(10,(l.length:Int)),(11,(s:Int))],[],21,[]⟩:St)) (fun s=>s ≤ l.length∧impl_allWithin_l1 low high (l.drop s) s=some r) (fun s=>l.length - s) 0 ⟨Nat.zero_le _,hH⟩ ?_ ?_
 exact Le.ct 0 0
 rintro k1 ⟨hk,hH⟩
 replace hH:impl_allWithin_l1 low high (l.drop k1) k1=some r:=hH
 try dsimp only
 refine AW.boundM (t:=9) (l:=l) rfl (fun hb5=>?_)
 rcases hd4:l.drop k1 with _ | ⟨y2,ys3⟩
 rw [hd4,impl_allWithin_l1] at hH
 have hlt6:=drop_ge hd4
 refine AW.seq (AW.region (AO.pu T ?_))
 refine AO.nil (AW.seq (AW.condF' (b:=decide ((k1:Int) < (l.length:Int))) rfl (rngF hlt6) ?_))
 refine AW.exit (AW.seq (AW.region ?_))
 refine AO.pu T ?_
 refine AO.nil (AW.ret ?_)
 have hR:=someE hH;subst hR
 exact retQ.i [] rfl (.c (.c .v))
 rw [hd4,impl_allWithin_l1] at hH
 have hlt6:=drop_lt hd4
 refine AW.seq (AW.region (AO.pu T ?_))
 refine AO.nil (AW.seq (AW.condT' (b:=decide ((k1:Int) < (l.length:Int))) rfl (rngT hlt6) ?_))
 refine AW.skip (AW.seq ?_)
 refine AW.block (AW.seq (AW.region ?_))
 refine AO.val rfl rfl (ix_map_ok T rfl rfl rfl rfl rfl (getI_drop hd4) rfl) ?_
 iterate 2 refine AO.pu T ?_
 refine AO.nil (AW.seq ?_)
 obtain ⟨x12,hx13,hH⟩:=bindE hH
 refine AW.region ?_
 iterate 3 refine AO.pu T ?_
 refine AO.val rfl rfl (callV_ok rfl rfl rfl rfl (impl_within_ok _ _ _ _ (hx13)) rfl) ?_
 refine AO.pu T ?_
 refine AO.nil (AW.cond (b:=(!x12)) rfl (fun hc=>?_) (fun hc=>?_))
 replace hH:=condT hc hH
 refine AW.seq (AW.region (AO.pu T ?_))
 refine AO.nil (AW.ret ?_)
 have hR:=someE hH;subst hR
 exact retQ.i [] rfl (.c (.c .v))
 replace hH:=condF hc hH
 refine AW.skip (AW.region ?_)
 refine AO.val rfl rfl (ar_ok rfl rfl rfl rfl (inI_succ hlt6 hb5)) ?_
 refine AO.pu T ?_
 refine AO.nil ?_
 refine ⟨k1+1,⟨Nat.succ_le_of_lt hlt6,(by rw [drop_succ_of hd4];exact hH)⟩,(by have:=hlt6;dsimp only;omega),?_⟩
 exact Le.ct 0 0

def impl_areKeys_p (keys:List Int) (most:Int):Option Bool :=
  (opt (decide ((keys.length:Int) ≤ most)) default (impl_allWithin_p keys 0 1000000000)).bind fun x1 =>
  some (decide ((keys.length:Int) ≤ most) && x1)
theorem impl_areKeys_ok (keys:List Int) (most:Int) (r:Bool) (hH:impl_areKeys_p keys most=some r):SpecR Tryz.prog 94 [.s (List.map encInt keys),most] (.v (.bool r)):=by
 refine fn_ok T Tryz.func94 rfl (by decide) rfl ?_
 refine AW.seq (AW.region (AO.pu T ?_))
 refine AO.nil (AW.seq ?_)
 obtain ⟨x1,hx2,hH⟩:=bindE hH
 refine AW.region (AO.pu T ?_)
 refine AO.val rfl rfl (len_map_ok T rfl rfl rfl) ?_
 iterate 3 refine AO.pu T ?_
 refine AO.pureG T [] rfl trivial rfl rfl ?_
 refine AO.guard [10] rfl ⟨fun h=>h,trivial⟩ (fun hg=>callV_ok rfl rfl rfl rfl (impl_allWithin_ok _ _ _ _ (optT hx2 hg)) rfl) rfl ?_
 refine AO.val rfl rfl (pick_and rfl rfl rfl rfl) ?_
 refine AO.pu T ?_
 refine AO.nil (AW.ret ?_)
 have hR:=someE hH;subst hR
 exact retQ.i [] rfl (.c (.c .v))

def impl_isKey_p (key:Int):Option Bool :=
  (impl_areKeys_p [key] 1).bind fun x1 =>
  some x1
theorem impl_isKey_ok (key:Int) (r:Bool) (hH:impl_isKey_p key=some r):SpecR Tryz.prog 54 [key] (.v (.bool r)):=by
 refine fn_ok T Tryz.func54 rfl (by decide) rfl ?_
 refine AW.seq (AW.region (AO.pu T ?_))
 refine AO.nil (AW.seq ?_)
 obtain ⟨x1,hx2,hH⟩:=bindE hH
 refine AW.region (AO.pu T ?_)
 refine AO.step rfl (mk_map_ok T rfl 1 rfl rfl rfl rfl rfl (f:=encInt) (l:=[key]) rfl rfl (fun _=>rfl) rfl rfl rfl rfl rfl) ?_
 refine AO.val rfl rfl (callLV_ok rfl rfl rfl (es:=[.s (List.map encInt [key]),(1:Int)]) ⟨(.rowR rfl (.map fun y=>.vs rfl)),.free rfl,trivial⟩ (impl_areKeys_ok _ _ _ (hx2)) (zfree_v _) rfl) ?_
 refine AO.pu T ?_
 refine AO.nil (AW.ret ?_)
 have hR:=someE hH;subst hR
 exact retQ.i [] rfl (.c (.c .v))

def impl_isSkater_p (skater:Int):Option Bool :=
  (impl_within_p skater 1 999).bind fun x1 =>
  some x1
theorem impl_isSkater_ok (skater:Int) (r:Bool) (hH:impl_isSkater_p skater=some r):SpecR Tryz.prog 95 [skater] (.v (.bool r)):=by
 refine fn_ok T Tryz.func95 rfl (by decide) rfl ?_
 refine AW.seq (AW.region (AO.pu T ?_))
 refine AO.nil (AW.seq ?_)
 obtain ⟨x1,hx2,hH⟩:=bindE hH
 refine AW.region (AO.pu T ?_)
 refine AO.val rfl rfl (callV_ok rfl rfl rfl rfl (impl_within_ok _ _ _ _ (hx2)) rfl) ?_
 refine AO.pu T ?_
 refine AO.nil (AW.ret ?_)
 have hR:=someE hH;subst hR
 exact retQ.i [] rfl (.c (.c .v))

def slices_Index_int_l1 (v:Int):List Int→Nat→Option Int
  | [],k1 =>
    some (-1)
  | y2::ys3,k1 =>
    cond (v == y2)
      (some (k1:Int))
      (slices_Index_int_l1 v ys3 (k1+1))
def slices_Index_int_p (sA:List Int) (v:Int):Option Int :=
  slices_Index_int_l1 v sA 0
theorem slices_Index_int_ok (sA:List Int) (v:Int) (r:Int) (hH:slices_Index_int_p sA v=some r):SpecR Tryz.prog 118 [.s (List.map encInt sA),v] (.v (.int .i64 r)):=by
 refine fn_ok T Tryz.func118 rfl (by decide) rfl ?_
 refine AW.seq (AW.region (AO.pu T ?_))
 refine AO.nil ?_
 iterate 2 refine AW.seq ?_
 refine AW.region (AO.pu T ?_)
 refine AO.val rfl rfl (len_map_ok T rfl rfl rfl) ?_
 refine AO.pu T ?_
 refine AO.nil (AW.block ?_)
 refine AW.loopS (fun s:Nat=>(⟨[(0,.s (List.map encInt sA)),(1,v),(7,(sA.length:Int)),(8,(s:Int))],[],19,[]⟩:St)) (fun s=>s ≤ sA.length∧slices_Index_int_l1 v (sA.drop s) s=some r) (fun s=>sA.length - s) 0 ⟨Nat.zero_le _,hH⟩ ?_ ?_
 exact Le.ct 0 0
 rintro k1 ⟨hk,hH⟩
 replace hH:slices_Index_int_l1 v (sA.drop k1) k1=some r:=hH
 try dsimp only
 refine AW.boundM (t:=0) (l:=sA) rfl (fun hb5=>?_)
 rcases hd4:sA.drop k1 with _ | ⟨y2,ys3⟩
 rw [hd4,slices_Index_int_l1] at hH
 have hlt6:=drop_ge hd4
 refine AW.seq (AW.region (AO.pu T ?_))
 refine AO.nil (AW.seq (AW.condF' (b:=decide ((k1:Int) < (sA.length:Int))) rfl (rngF hlt6) ?_))
 refine AW.exit (AW.seq (AW.region ?_))
 refine AO.pu T ?_
 refine AO.nil (AW.ret ?_)
 have hR:=someE hH;subst hR
 exact retQ.i [] rfl (.c (.c .v))
 rw [hd4,slices_Index_int_l1] at hH
 have hlt6:=drop_lt hd4
 refine AW.seq (AW.region (AO.pu T ?_))
 refine AO.nil (AW.seq (AW.condT' (b:=decide ((k1:Int) < (sA.length:Int))) rfl (rngT hlt6) ?_))
 refine AW.skip (AW.seq ?_)
 refine AW.block (AW.seq (AW.region ?_))
 iterate 2 refine AO.pu T ?_
 refine AO.nil (AW.seq (AW.region ?_))
 iterate 3 refine AO.pu T ?_
 refine AO.val rfl rfl (ix_map_ok T rfl rfl rfl rfl rfl (getI_drop hd4) rfl) ?_
 iterate 2 refine AO.pu T ?_
 refine AO.nil (AW.cond (b:=(v == y2)) rfl (fun hc=>?_) (fun hc=>?_))
 replace hH:=condT hc hH
 refine AW.seq (AW.region ?_)
 iterate 2 refine AO.pu T ?_
 refine AO.nil (AW.ret ?_)
 have hR:=someE hH;subst hR
 exact retQ.i [] rfl (.c (.c .v))
 replace hH:=condF hc hH
 refine AW.skip (AW.region ?_)
 refine AO.val rfl rfl (ar_ok rfl rfl rfl rfl (inI_succ hlt6 hb5)) ?_
 refine AO.pu T ?_
 refine AO.nil ?_
 refine ⟨k1+1,⟨Nat.succ_le_of_lt hlt6,(by rw [drop_succ_of hd4];exact hH)⟩,(by have:=hlt6;dsimp only;omega),?_⟩
 exact Le.ct 0 0

def slices_Contains_int_p (sA:List Int) (v:Int):Option Bool :=
  (slices_Index_int_p sA v).bind fun x1 =>
  some (decide (x1 ≥ 0))
theorem slices_Contains_int_ok (sA:List Int) (v:Int) (r:Bool) (hH:slices_Contains_int_p sA v=some r):SpecR Tryz.prog 82 [.s (List.map encInt sA),v] (.v (.bool r)):=by
 refine fn_ok T Tryz.func82 rfl (by decide) rfl ?_
 refine AW.seq (AW.region (AO.pu T ?_))
 refine AO.nil (AW.seq ?_)
 obtain ⟨x1,hx2,hH⟩:=bindE hH
 refine AW.region ?_
 iterate 2 refine AO.pu T ?_
 refine AO.val rfl rfl (callV_ok rfl rfl rfl rfl (slices_Index_int_ok _ _ _ (hx2)) rfl) ?_
 iterate 2 refine AO.pu T ?_
 refine AO.nil (AW.ret ?_)
 have hR:=someE hH;subst hR
 exact retQ.i [] rfl (.c (.c .v))

def impl_isOrder_l1 (order:List Int):List Int→Nat→Option Bool
  | [],k1 =>
    some (decide ((order.length:Int) ≤ 40))
  | y2::ys3,k1 =>
    (impl_isSkater_p y2).bind fun x20 =>
    (opt (!(!x20)) default (sliceHi order (k1:Int))).bind fun x22 =>
    (opt (!(!x20)) default (slices_Contains_int_p x22 y2)).bind fun x24 =>
    cond ((!x20) || x24)
      (some false)
      (impl_isOrder_l1 order ys3 (k1+1))
def impl_isOrder_p (order:List Int):Option Bool :=
  impl_isOrder_l1 order order 0
theorem impl_isOrder_ok (order:List Int) (r:Bool) (hH:impl_isOrder_p order=some r):SpecR Tryz.prog 55 [.s (List.map encInt order)] (.v (.bool r)):=by
 refine fn_ok T Tryz.func55 rfl (by decide) rfl ?_
 refine AW.seq (AW.region (AO.pu T ?_))
 refine AO.nil ?_
 iterate 2 refine AW.seq ?_
 refine AW.region (AO.pu T ?_)
 refine AO.val rfl rfl (len_map_ok T rfl rfl rfl) ?_
 refine AO.pu T ?_
 refine AO.nil (AW.block ?_)
 refine AW.loopS (fun s:Nat=>(⟨[(0,.s (List.map encInt order)),(5,.s (List.map encInt order)),(6,(order.length:Int)),(7,(s:Int))],[],26,[]⟩:St)) (fun s=>s ≤ order.length∧impl_isOrder_l1 order (order.drop s) s=some r) (fun s=>order.length - s) 0 ⟨Nat.zero_le _,hH⟩ ?_ ?_
 exact Le.ct 0 0
 rintro k1 ⟨hk,hH⟩
 replace hH:impl_isOrder_l1 order (order.drop k1) k1=some r:=hH
 try dsimp only
 refine AW.boundM (t:=0) (l:=order) rfl (fun hb5=>?_)
 rcases hd4:order.drop k1 with _ | ⟨y2,ys3⟩
 rw [hd4,impl_isOrder_l1] at hH
 have hlt6:=drop_ge hd4
 refine AW.seq (AW.region (AO.pu T ?_))
 refine AO.nil (AW.seq (AW.condF' (b:=decide ((k1:Int) < (order.length:Int))) rfl (rngF hlt6) ?_))
 refine AW.exit (AW.seq (AW.region ?_))
 refine AO.pu T ?_
 refine AO.val rfl rfl (len_map_ok T rfl rfl rfl) ?_
 iterate 2 refine AO.pu T ?_
 refine AO.nil (AW.ret ?_)
 have hR:=someE hH;subst hR
 exact retQ.i [] rfl (.c (.c .v))
 rw [hd4,impl_isOrder_l1] at hH
 have hlt6:=drop_lt hd4
 refine AW.seq (AW.region (AO.pu T ?_))
 refine AO.nil (AW.seq (AW.condT' (b:=decide ((k1:Int) < (order.length:Int))) rfl (rngT hlt6) ?_))
 refine AW.skip (AW.seq ?_)
 refine AW.block (AW.seq (AW.region ?_))
 refine AO.pu T ?_
 refine AO.val rfl rfl (ix_map_ok T rfl rfl rfl rfl rfl (getI_drop hd4) rfl) ?_
 iterate 3 refine AO.pu T ?_
 refine AO.nil (AW.seq ?_)
 obtain ⟨x20,hx21,hH⟩:=bindE hH
 obtain ⟨x22,hx23,hH⟩:=bindE hH
 obtain ⟨x24,hx25,hH⟩:=bindE hH
 refine AW.region (AO.pu T ?_)
 refine AO.val rfl rfl (callV_ok rfl rfl rfl rfl (impl_isSkater_ok _ _ (hx21)) rfl) ?_
 iterate 2 refine AO.pu T ?_
 iterate 2 refine AO.pureG T [] rfl trivial rfl rfl ?_
 refine AO.guard [16,17] rfl ⟨fun h=>h,fun h=>h,trivial⟩ (fun hg=>slice_hi_map_ok T rfl rfl rfl rfl rfl (optT hx23 hg) (fun _=>rfl)) rfl ?_
 refine AO.pureG T [] rfl trivial rfl rfl ?_
 refine AO.guard [18,19] rfl ⟨fun h=>h,fun h=>h,trivial⟩ (fun hg=>callV_ok rfl rfl rfl rfl (slices_Contains_int_ok _ _ _ (optT hx25 hg)) rfl) rfl ?_
 refine AO.val rfl rfl (pick_or rfl rfl rfl rfl) ?_
 refine AO.nil (AW.cond (b:=((!x20) || x24)) rfl (fun hc=>?_) (fun hc=>?_))
 replace hH:=condT hc hH
 refine AW.seq (AW.region (AO.pu T ?_))
 refine AO.nil (AW.ret ?_)
 have hR:=someE hH;subst hR
 exact retQ.i [] rfl (.c (.c .v))
 replace hH:=condF hc hH
 refine AW.skip (AW.region ?_)
 refine AO.val rfl rfl (ar_ok rfl rfl rfl rfl (inI_succ hlt6 hb5)) ?_
 refine AO.pu T ?_
 refine AO.nil ?_
 refine ⟨k1+1,⟨Nat.succ_le_of_lt hlt6,(by rw [drop_succ_of hd4];exact hH)⟩,(by have:=hlt6;dsimp only;omega),?_⟩
 exact Le.ct 0 0

def impl_AreEntrants_l2 (y2:Entrant):List Entrant→Nat→Option (Except Bool Unit)
  | [],k80 =>
    some (.ok ())
  | y81::ys82,k80 =>
    cond ((y81.skater == y2.skater) || ((y81.rank == y2.rank) && decide (y2.rank > 0)))
      (some (.error false))
      (impl_AreEntrants_l2 y2 ys82 (k80+1))
def impl_AreEntrants_l1 (l:List Entrant):List Entrant→Nat→Option Bool
  | [],k1 =>
    some (decide ((l.length:Int) ≤ 40))
  | y2::ys3,k1 =>
    ((impl_isSkater_p y2.skater).bind fun x74 =>
    (opt (!(!x74)) default (impl_within_p y2.rank 0 999)).bind fun x76 =>
    cond ((!x74) || (!x76))
      (some (.error false))
      ((sliceHi l (k1:Int)).bind fun x78 =>
      impl_AreEntrants_l2 y2 x78 0)).bind fun o72=>flow o72 fun _ =>
    impl_AreEntrants_l1 l ys3 (k1+1)
def impl_AreEntrants_p (l:List Entrant):Option Bool :=
  impl_AreEntrants_l1 l l 0
theorem impl_AreEntrants_ok (l:List Entrant) (r:Bool) (hH:impl_AreEntrants_p l=some r):SpecR Tryz.prog 64 [.s (List.map encEntrant l)] (.v (.bool r)):=by
 refine fn_ok T Tryz.func64 rfl (by decide) rfl ?_
 refine AW.seq (AW.region (AO.pu T ?_))
 refine AO.nil ?_
 iterate 2 refine AW.seq ?_
 refine AW.region (AO.pu T ?_)
 refine AO.val rfl rfl (len_map_ok T rfl rfl rfl) ?_
 refine AO.pu T ?_
 refine AO.nil (AW.block ?_)
 refine AW.loopS (fun s:Nat=>(⟨[(0,.s (List.map encEntrant l)),(7,.s (List.map encEntrant l)),(8,(l.length:Int)),(9,(s:Int))],[],54,[]⟩:St)) (fun s=>s ≤ l.length∧impl_AreEntrants_l1 l (l.drop s) s=some r) (fun s=>l.length - s) 0 ⟨Nat.zero_le _,hH⟩ ?_ ?_
 exact Le.ct 0 0
 rintro k1 ⟨hk,hH⟩
 replace hH:impl_AreEntrants_l1 l (l.drop k1) k1=some r:=hH
 try dsimp only
 refine AW.boundM (t:=0) (l:=l) rfl (fun hb5=>?_)
 rcases hd4:l.drop k1 with _ | ⟨y2,ys3⟩
 rw [hd4,impl_AreEntrants_l1] at hH
 have hlt6:=drop_ge hd4
 refine AW.seq (AW.region (AO.pu T ?_))
 refine AO.nil (AW.seq (AW.condF' (b:=decide ((k1:Int) < (l.length:Int))) rfl (rngF hlt6) ?_))
 refine AW.exit (AW.seq (AW.region ?_))
 refine AO.pu T ?_
 refine AO.val rfl rfl (len_map_ok T rfl rfl rfl) ?_
 iterate 2 refine AO.pu T ?_
 refine AO.nil (AW.ret ?_)
 have hR:=someE hH;subst hR
 exact retQ.i [] rfl (.c (.c .v))
 rw [hd4,impl_AreEntrants_l1] at hH
 have hlt6:=drop_lt hd4
 refine AW.seq (AW.region (AO.pu T ?_))
 refine AO.nil (AW.seq (AW.condT' (b:=decide ((k1:Int) < (l.length:Int))) rfl (rngT hlt6) ?_))
 refine AW.skip ?_
 obtain ⟨o72,hH,hK73⟩:=bindE hH
 refine AW.seqJ (fun s:Unit=>(⟨[(0,.s (List.map encEntrant l)),(7,.s (List.map encEntrant l)),(8,(l.length:Int)),(9,(k1:Int))],[],54,[]⟩:St)) (fun s=>.ok s=o72) ?_ ?_
 refine AW.block (AW.seq (AW.region ?_))
 refine AO.pu T ?_
 refine AO.val rfl rfl (ix_map_ok T rfl rfl rfl rfl rfl (getI_drop hd4) rfl) ?_
 refine AO.pu T (d:=.g [y2.skater,y2.rank]) ?_
 refine AO.step rfl (alloc_ok T rfl 21 rfl rfl rfl rfl rfl) ?_
 refine AO.pu T ?_
 refine AO.se T [y2.skater,y2.rank] ?_
 refine AO.nil ?_
 iterate 2 refine AW.seq ?_
 obtain ⟨x74,hx75,hH⟩:=bindE hH
 obtain ⟨x76,hx77,hH⟩:=bindE hH
 refine AW.region ?_
 iterate 2 refine AO.pu T ?_
 refine AO.val rfl rfl (callV_ok rfl rfl rfl rfl (impl_isSkater_ok _ _ (hx75)) rfl) ?_
 iterate 2 refine AO.pu T ?_
 refine AO.pureG T [] rfl trivial rfl rfl ?_
 refine AO.pureG T [19] rfl ⟨fun h=>h,trivial⟩ rfl rfl ?_
 refine AO.guard [20] rfl ⟨fun h=>h,trivial⟩ (fun hg=>callV_ok rfl rfl rfl rfl (impl_within_ok _ _ _ _ (optT hx77 hg)) rfl) rfl ?_
 refine AO.pureG T [21] rfl ⟨fun h=>h,trivial⟩ rfl rfl ?_
 refine AO.val rfl rfl (pick_or rfl rfl rfl rfl) ?_
 refine AO.nil (AW.cond (b:=((!x74) || (!x76))) rfl (fun hc=>?_) (fun hc=>?_))
 replace hH:=condT hc hH
 refine AW.seq (AW.region (AO.pu T ?_))
 refine AO.nil (AW.ret ?_)
 obtain rfl:=someE hH
 replace hH:=hK73
 have hR:=someE hH;subst hR
 exact retQ.i [] rfl (.c (.c .v))
 replace hH:=condF hc hH
 refine AW.skip (AW.seq ?_)
 obtain ⟨x78,hx79,hH⟩:=bindE hH
 refine AW.region ?_
 iterate 2 refine AO.pu T ?_
 refine AO.val rfl rfl (slice_hi_map_ok T rfl rfl rfl rfl rfl (hx79) (fun _=>rfl)) ?_
 refine AO.val rfl rfl (len_map_ok T rfl rfl rfl) ?_
 refine AO.pu T ?_
 refine AO.nil (AW.block ?_)
 refine AW.loopS (fun s:Nat=>(⟨[(0,.s (List.map encEntrant l)),(4,.p 21 0),(7,.s (List.map encEntrant l)),(8,(l.length:Int)),(9,(k1:Int)),(26,.s (List.map encEntrant x78)),(27,(x78.length:Int)),(28,(s:Int))],[(21,.box [y2.skater,y2.rank])],54,[]⟩:St)) (fun s=>s ≤ x78.length∧impl_AreEntrants_l2 y2 (x78.drop s) s=some o72) (fun s=>x78.length - s) 0 ⟨Nat.zero_le _,hH⟩ ?_ ?_
 exact Le.ct 0 0
 rintro k80 ⟨hk,hH⟩
 replace hH:impl_AreEntrants_l2 y2 (x78.drop k80) k80=some o72:=hH
 try dsimp only
 refine AW.boundM (t:=26) (l:=x78) rfl (fun hb84=>?_)
 rcases hd83:x78.drop k80 with _ | ⟨y81,ys82⟩
 rw [hd83,impl_AreEntrants_l2] at hH
 have hlt85:=drop_ge hd83
 refine AW.seq (AW.region (AO.pu T ?_))
 refine AO.nil (AW.seq (AW.condF' (b:=decide ((k80:Int) < (x78.length:Int))) rfl (rngF hlt85) ?_))
 refine AW.exit ?_
 refine ⟨_,someE hH,?_⟩
 exact Le.ct 0 0
 rw [hd83,impl_AreEntrants_l2] at hH
 have hlt85:=drop_lt hd83
 refine AW.seq (AW.region (AO.pu T ?_))
 refine AO.nil (AW.seq (AW.condT' (b:=decide ((k80:Int) < (x78.length:Int))) rfl (rngT hlt85) ?_))
 refine AW.skip (AW.seq ?_)
 refine AW.block (AW.seq (AW.region ?_))
 refine AO.val rfl rfl (ix_map_ok T rfl rfl rfl rfl rfl (getI_drop hd83) rfl) ?_
 refine AO.pu T (d:=.g [y81.skater,y81.rank]) ?_
 refine AO.step rfl (alloc_ok T rfl 24 rfl rfl rfl rfl rfl) ?_
 refine AO.se T [y81.skater,y81.rank] ?_
 refine AO.nil (AW.seq (AW.region ?_))
 iterate 6 refine AO.pu T ?_
 refine AO.pureG T [] rfl trivial rfl rfl ?_
 refine AO.pureG T [38] rfl ⟨fun h=>h,trivial⟩ rfl rfl ?_
 refine AO.pureG T [] rfl trivial rfl rfl ?_
 refine AO.pureG T [40] rfl ⟨fun h=>h,trivial⟩ rfl rfl ?_
 refine AO.pureG T [39,41] rfl ⟨fun h=>h,fun h=>h,trivial⟩ rfl rfl ?_
 refine AO.pureG T [42] rfl ⟨fun h=>h,trivial⟩ rfl rfl ?_
 refine AO.pureG T [] rfl trivial rfl rfl ?_
 refine AO.pureG T [44] rfl ⟨fun h=>h,trivial⟩ rfl rfl ?_
 refine AO.pureG T [45] rfl ⟨fun h=>h,trivial⟩ rfl rfl ?_
 refine AO.guard [43] rfl ⟨fun h=>h,trivial⟩ (fun hg=>pick_and rfl rfl rfl (by rw [hg];exact Bool.true_and _)) rfl ?_
 refine AO.val rfl rfl (pick_or rfl rfl rfl rfl) ?_
 refine AO.nil (AW.cond (b:=((y81.skater == y2.skater) || ((y81.rank == y2.rank) && decide (y2.rank > 0)))) rfl (fun hc=>?_) (fun hc=>?_))
 replace hH:=condT hc hH
 refine AW.seq (AW.region (AO.pu T ?_))
 refine AO.nil (AW.ret ?_)
 obtain rfl:=someE hH
 replace hH:=hK73
 have hR:=someE hH;subst hR
 exact retQ.i [] rfl (.c (.c .v))
 replace hH:=condF hc hH
 refine AW.skip (AW.region ?_)
 refine AO.val rfl rfl (ar_ok rfl rfl rfl rfl (inI_succ hlt85 hb84)) ?_
 refine AO.pu T ?_
 refine AO.nil ?_
 refine ⟨k80+1,⟨Nat.succ_le_of_lt hlt85,(by rw [drop_succ_of hd83];exact hH)⟩,(by have:=hlt85;dsimp only;omega),?_⟩
 exact Le.ct 0 0
 rintro _ hs
 subst hs
 replace hH:=hK73
 try dsimp only [flow,flowE] at hH
 try dsimp only
 refine AW.region (AO.val rfl rfl (ar_ok rfl rfl rfl rfl (inI_succ hlt6 hb5)) ?_)
 refine AO.pu T ?_
 refine AO.nil ?_
 refine ⟨k1+1,⟨Nat.succ_le_of_lt hlt6,(by rw [drop_succ_of hd4];exact hH)⟩,(by have:=hlt6;dsimp only;omega),?_⟩
 exact Le.ct 0 0

def impl_isIncreasing_l1 (l:List Int) (n:Int):List Int→Nat→Option Bool
  | [],k1 =>
    some true
  | y2::ys3,k1 =>
    (impl_within_p y2 0 (w64 (n - 1))).bind fun x16 =>
    (opt ((!(!x16)) && decide ((k1:Int) > 0)) default (getI l (w64 ((k1:Int) - 1)))).bind fun x18 =>
    cond ((!x16) || (decide ((k1:Int) > 0) && decide (x18 ≥ y2)))
      (some false)
      (impl_isIncreasing_l1 l n ys3 (k1+1))
def impl_isIncreasing_p (l:List Int) (n:Int):Option Bool :=
  impl_isIncreasing_l1 l n l 0
theorem impl_isIncreasing_ok (l:List Int) (n:Int) (r:Bool) (hH:impl_isIncreasing_p l n=some r):SpecR Tryz.prog 96 [.s (List.map encInt l),n] (.v (.bool r)):=by
 refine fn_ok T Tryz.func96 rfl (by decide) rfl ?_
 refine AW.seq (AW.region (AO.pu T ?_))
 refine AO.nil ?_
 iterate 2 refine AW.seq ?_
 refine AW.region (AO.pu T ?_)
 refine AO.val rfl rfl (len_map_ok T rfl rfl rfl) ?_
 refine AO.pu T ?_
 refine AO.nil (AW.block ?_)
 refine AW.loopS (fun s:Nat=>(⟨[(0,.s (List.map encInt l)),(1,n),(7,.s (List.map encInt l)),(8,(l.length:Int)),(9,(s:Int))],[],33,[]⟩:St)) (fun s=>s ≤ l.length∧impl_isIncreasing_l1 l n (l.drop s) s=some r) (fun s=>l.length - s) 0 ⟨Nat.zero_le _,hH⟩ ?_ ?_
 exact Le.ct 0 0
 rintro k1 ⟨hk,hH⟩
 replace hH:impl_isIncreasing_l1 l n (l.drop k1) k1=some r:=hH
 try dsimp only
 refine AW.boundM (t:=0) (l:=l) rfl (fun hb5=>?_)
 rcases hd4:l.drop k1 with _ | ⟨y2,ys3⟩
 rw [hd4,impl_isIncreasing_l1] at hH
 have hlt6:=drop_ge hd4
 refine AW.seq (AW.region (AO.pu T ?_))
 refine AO.nil (AW.seq (AW.condF' (b:=decide ((k1:Int) < (l.length:Int))) rfl (rngF hlt6) ?_))
 refine AW.exit (AW.seq (AW.region ?_))
 refine AO.pu T ?_
 refine AO.nil (AW.ret ?_)
 have hR:=someE hH;subst hR
 exact retQ.i [] rfl (.c (.c .v))
 rw [hd4,impl_isIncreasing_l1] at hH
 have hlt6:=drop_lt hd4
 refine AW.seq (AW.region (AO.pu T ?_))
 refine AO.nil (AW.seq (AW.condT' (b:=decide ((k1:Int) < (l.length:Int))) rfl (rngT hlt6) ?_))
 refine AW.skip (AW.seq ?_)
 refine AW.block (AW.seq (AW.region ?_))
 refine AO.pu T ?_
 refine AO.val rfl rfl (ix_map_ok T rfl rfl rfl rfl rfl (getI_drop hd4) rfl) ?_
 iterate 3 refine AO.pu T ?_
 refine AO.nil (AW.seq ?_)
 obtain ⟨x16,hx17,hH⟩:=bindE hH
 obtain ⟨x18,hx19,hH⟩:=bindE hH
 refine AW.region ?_
 iterate 2 refine AO.pu T ?_
 refine AO.val rfl rfl (arw_ok rfl rfl rfl rfl) ?_
 refine AO.val rfl rfl (callV_ok rfl rfl rfl rfl (impl_within_ok _ _ _ _ (hx17)) rfl) ?_
 iterate 2 refine AO.pu T ?_
 refine AO.pureG T [] rfl trivial rfl rfl ?_
 refine AO.pureG T [20] rfl ⟨fun h=>h,trivial⟩ rfl rfl ?_
 refine AO.pureG T [21] rfl ⟨fun h=>h,trivial⟩ rfl rfl ?_
 iterate 2 refine AO.pureG T [] rfl trivial rfl rfl ?_
 refine AO.guard [24] rfl ⟨fun h=>h,trivial⟩ (fun hg=>arw_ok rfl rfl rfl rfl) rfl ?_
 refine AO.guard [23,25] rfl ⟨fun h=>h,fun h=>h,trivial⟩ (fun hg=>ix_map_ok T rfl rfl rfl rfl rfl (optT hx19 hg) rfl) rfl ?_
 refine AO.pureG T [26] rfl ⟨fun h=>h,trivial⟩ rfl rfl ?_
 refine AO.pureG T [] rfl trivial rfl rfl ?_
 refine AO.pureG T [27,28] rfl ⟨fun h=>h,fun h=>h,trivial⟩ rfl rfl ?_
 refine AO.guard [22] rfl ⟨fun h=>h,trivial⟩ (fun hg=>pick_and rfl rfl rfl (by rw [hg];exact Bool.true_and _)) rfl ?_
 refine AO.val rfl rfl (pick_or rfl rfl rfl rfl) ?_
 refine AO.nil (AW.le (Le.ct 0 0 (σ':=(⟨[(0,.s (List.map encInt l)),(1,n),(7,.s (List.map encInt l)),(8,(l.length:Int)),(9,(k1:Int)),(31,.v (.bool ((!x16) || (decide ((k1:Int) > 0) && decide (x18 ≥ y2)))))],[],33,[]⟩:St))) ?_)
 refine AW.cond (b:=((!x16) || (decide ((k1:Int) > 0) && decide (x18 ≥ y2)))) rfl (fun hc=>?_) (fun hc=>?_)
 replace hH:=condT hc hH
 refine AW.seq (AW.region (AO.pu T ?_))
 refine AO.nil (AW.ret ?_)
 have hR:=someE hH;subst hR
 exact retQ.i [] rfl (.c (.c .v))
 replace hH:=condF hc hH
 refine AW.skip (AW.region ?_)
 refine AO.val rfl rfl (ar_ok rfl rfl rfl rfl (inI_succ hlt6 hb5)) ?_
 refine AO.pu T ?_
 refine AO.nil ?_
 refine ⟨k1+1,⟨Nat.succ_le_of_lt hlt6,(by rw [drop_succ_of hd4];exact hH)⟩,(by have:=hlt6;dsimp only;omega),?_⟩
 exact Le.ct 0 0

def impl_isResult_l1 (rA:Result):List Int→Nat→Option Bool
  | [],k1 =>
    (impl_isSkater_p rA.skater).bind fun x16 =>
    (opt x16 default (impl_within_p (rA.scores.length:Int) 1 3)).bind fun x18 =>
    some (x16 && x18)
  | y2::ys3,k1 =>
    (impl_within_p y2 (-1) 100000).bind fun x20 =>
    (opt ((!(!x20)) && decide ((k1:Int) > 0)) default (getI rA.scores (w64 ((k1:Int) - 1)))).bind fun x22 =>
    cond ((!x20) || ((decide ((k1:Int) > 0) && decide (x22 < 0)) && decide (y2 ≥ 0)))
      (some false)
      (impl_isResult_l1 rA ys3 (k1+1))
def impl_isResult_p (rA:Result):Option Bool :=
  impl_isResult_l1 rA rA.scores 0
theorem impl_isResult_ok (rA:Result) (r:Bool) (hH:impl_isResult_p rA=some r):SpecR Tryz.prog 116 [.g (encResult rA)] (.v (.bool r)):=by
 refine fn_ok T Tryz.func116 rfl (by decide) rfl ?_
 refine AW.seq (AW.region (AO.step rfl (box_ok T rfl 1 rfl rfl rfl rfl) ?_))
 refine AO.pu T ?_
 refine AO.nil ?_
 iterate 2 refine AW.seq ?_
 refine AW.region ?_
 iterate 2 refine AO.pu T ?_
 refine AO.val rfl rfl (len_map_ok T rfl rfl rfl) ?_
 refine AO.pu T ?_
 refine AO.nil (AW.block ?_)
 refine AW.loopS (fun s:Nat=>(⟨[(1,.p 1 0),(6,.s (List.map encInt rA.scores)),(7,(rA.scores.length:Int)),(8,(s:Int))],[(1,.box [rA.skater,.s (List.map encInt rA.scores)])],43,[]⟩:St)) (fun s=>s ≤ rA.scores.length∧impl_isResult_l1 rA (rA.scores.drop s) s=some r) (fun s=>rA.scores.length - s) 0 ⟨Nat.zero_le _,hH⟩ ?_ ?_
 exact Le.ct 0 0
 rintro k1 ⟨hk,hH⟩
 replace hH:impl_isResult_l1 rA (rA.scores.drop k1) k1=some r:=hH
 try dsimp only
 refine AW.boundM (t:=6) (l:=rA.scores) rfl (fun hb5=>?_)
 rcases hd4:rA.scores.drop k1 with _ | ⟨y2,ys3⟩
 rw [hd4,impl_isResult_l1] at hH
 have hlt6:=drop_ge hd4
 refine AW.seq (AW.region (AO.pu T ?_))
 refine AO.nil (AW.seq (AW.condF' (b:=decide ((k1:Int) < (rA.scores.length:Int))) rfl (rngF hlt6) ?_))
 refine AW.exit (AW.seq ?_)
 obtain ⟨x16,hx17,hH⟩:=bindE hH
 obtain ⟨x18,hx19,hH⟩:=bindE hH
 refine AW.region ?_
 iterate 2 refine AO.pu T ?_
 refine AO.val rfl rfl (callV_ok rfl rfl rfl rfl (impl_isSkater_ok _ _ (hx17)) rfl) ?_
 refine AO.pu T ?_
 refine AO.pureG T [] rfl trivial rfl rfl ?_
 refine AO.pureG T [38] rfl ⟨fun h=>h,trivial⟩ rfl rfl ?_
 refine AO.guard [39] rfl ⟨fun h=>h,trivial⟩ (fun hg=>len_map_ok T rfl rfl rfl) rfl ?_
 refine AO.guard [40] rfl ⟨fun h=>h,trivial⟩ (fun hg=>callV_ok rfl rfl rfl rfl (impl_within_ok _ _ _ _ (optT hx19 hg)) rfl) rfl ?_
 refine AO.val rfl rfl (pick_and rfl rfl rfl rfl) ?_
 refine AO.pu T ?_
 refine AO.nil (AW.ret ?_)
 have hR:=someE hH;subst hR
 exact retQ.i [] rfl (.c (.c .v))
 rw [hd4,impl_isResult_l1] at hH
 have hlt6:=drop_lt hd4
 refine AW.seq (AW.region (AO.pu T ?_))
 refine AO.nil (AW.seq (AW.condT' (b:=decide ((k1:Int) < (rA.scores.length:Int))) rfl (rngT hlt6) ?_))
 refine AW.skip (AW.seq ?_)
 refine AW.block (AW.seq (AW.region ?_))
 refine AO.pu T ?_
 refine AO.val rfl rfl (ix_map_ok T rfl rfl rfl rfl rfl (getI_drop hd4) rfl) ?_
 iterate 3 refine AO.pu T ?_
 refine AO.nil (AW.seq ?_)
 obtain ⟨x20,hx21,hH⟩:=bindE hH
 obtain ⟨x22,hx23,hH⟩:=bindE hH
 refine AW.region (AO.pu T ?_)
 refine AO.val rfl rfl (callV_ok rfl rfl rfl rfl (impl_within_ok _ _ _ _ (hx21)) rfl) ?_
 iterate 2 refine AO.pu T ?_
 refine AO.pureG T [] rfl trivial rfl rfl ?_
 refine AO.pureG T [17] rfl ⟨fun h=>h,trivial⟩ rfl rfl ?_
 refine AO.pureG T [18] rfl ⟨fun h=>h,trivial⟩ rfl rfl ?_
 refine AO.pureG T [] rfl trivial rfl rfl ?_
 refine AO.pureG T [20] rfl ⟨fun h=>h,trivial⟩ rfl rfl ?_
 refine AO.pureG T [] rfl trivial rfl rfl ?_
 refine AO.guard [22] rfl ⟨fun h=>h,trivial⟩ (fun hg=>arw_ok rfl rfl rfl rfl) rfl ?_
 refine AO.guard [21,23] rfl ⟨fun h=>h,fun h=>h,trivial⟩ (fun hg=>ix_map_ok T rfl rfl rfl rfl rfl (optT hx23 hg) rfl) rfl ?_
 refine AO.pureG T [24] rfl ⟨fun h=>h,trivial⟩ rfl rfl ?_
 refine AO.pureG T [25] rfl ⟨fun h=>h,trivial⟩ rfl rfl ?_
 refine AO.guard [19] rfl ⟨fun h=>h,trivial⟩ (fun hg=>pick_and rfl rfl rfl (by rw [hg];exact Bool.true_and _)) rfl ?_
 refine AO.pureG T [27] rfl ⟨fun h=>h,trivial⟩ rfl rfl ?_
 refine AO.pureG T [] rfl trivial rfl rfl ?_
 refine AO.pureG T [29] rfl ⟨fun h=>h,trivial⟩ rfl rfl ?_
 refine AO.guard [28] rfl ⟨fun h=>h,trivial⟩ (fun hg=>pick_and rfl rfl rfl (by rw [hg];exact Bool.true_and _)) rfl ?_
 refine AO.val rfl rfl (pick_or rfl rfl rfl rfl) ?_
 refine AO.nil (AW.le (Le.ct 0 0 (σ':=(⟨[(1,.p 1 0),(6,.s (List.map encInt rA.scores)),(7,(rA.scores.length:Int)),(8,(k1:Int)),(32,.v (.bool ((!x20) || ((decide ((k1:Int) > 0) && decide (x22 < 0)) && decide (y2 ≥ 0)))))],[(1,.box [rA.skater,.s (List.map encInt rA.scores)])],43,[]⟩:St))) ?_)
 refine AW.cond (b:=((!x20) || ((decide ((k1:Int) > 0) && decide (x22 < 0)) && decide (y2 ≥ 0)))) rfl (fun hc=>?_) (fun hc=>?_)
 replace hH:=condT hc hH
 refine AW.seq (AW.region (AO.pu T ?_))
 refine AO.nil (AW.ret ?_)
 have hR:=someE hH;subst hR
 exact retQ.i [] rfl (.c (.c .v))
 replace hH:=condF hc hH
 refine AW.skip (AW.region ?_)
 refine AO.val rfl rfl (ar_ok rfl rfl rfl rfl (inI_succ hlt6 hb5)) ?_
 refine AO.pu T ?_
 refine AO.nil ?_
 refine ⟨k1+1,⟨Nat.succ_le_of_lt hlt6,(by rw [drop_succ_of hd4];exact hH)⟩,(by have:=hlt6;dsimp only;omega),?_⟩
 exact Le.ct 0 0

def impl_AreResults_l2 (y2:Result):List Result→Nat→Option (Except Bool Unit)
  | [],k80 =>
    some (.ok ())
  | y81::ys82,k80 =>
    cond (y81.skater == y2.skater)
      (some (.error false))
      (impl_AreResults_l2 y2 ys82 (k80+1))
def impl_AreResults_l1 (l:List Result):List Result→Nat→Option Bool
  | [],k1 =>
    some (decide ((l.length:Int) ≤ 40))
  | y2::ys3,k1 =>
    ((impl_isResult_p y2).bind fun x74 =>
    (opt (!(!x74)) default (getI l 0)).bind fun x76 =>
    cond ((!x74) || ((y2.scores.length:Int) != (x76.scores.length:Int)))
      (some (.error false))
      ((sliceHi l (k1:Int)).bind fun x78 =>
      impl_AreResults_l2 y2 x78 0)).bind fun o72=>flow o72 fun _ =>
    impl_AreResults_l1 l ys3 (k1+1)
def impl_AreResults_p (l:List Result):Option Bool :=
  impl_AreResults_l1 l l 0
theorem impl_AreResults_ok (l:List Result) (r:Bool) (hH:impl_AreResults_p l=some r):SpecR Tryz.prog 77 [.s (List.map encResult l)] (.v (.bool r)):=by
 refine fn_ok T Tryz.func77 rfl (by decide) rfl ?_
 refine AW.seq (AW.region (AO.pu T ?_))
 refine AO.nil ?_
 iterate 2 refine AW.seq ?_
 refine AW.region (AO.pu T ?_)
 refine AO.val rfl rfl (len_map_ok T rfl rfl rfl) ?_
 refine AO.pu T ?_
 refine AO.nil (AW.block ?_)
 refine AW.loopS (fun s:Nat=>(⟨[(0,.s (List.map encResult l)),(7,.s (List.map encResult l)),(8,(l.length:Int)),(9,(s:Int))],[],46,[]⟩:St)) (fun s=>s ≤ l.length∧impl_AreResults_l1 l (l.drop s) s=some r) (fun s=>l.length - s) 0 ⟨Nat.zero_le _,hH⟩ ?_ ?_
 exact Le.ct 0 0
 rintro k1 ⟨hk,hH⟩
 replace hH:impl_AreResults_l1 l (l.drop k1) k1=some r:=hH
 try dsimp only
 refine AW.boundM (t:=0) (l:=l) rfl (fun hb5=>?_)
 rcases hd4:l.drop k1 with _ | ⟨y2,ys3⟩
 rw [hd4,impl_AreResults_l1] at hH
 have hlt6:=drop_ge hd4
 refine AW.seq (AW.region (AO.pu T ?_))
 refine AO.nil (AW.seq (AW.condF' (b:=decide ((k1:Int) < (l.length:Int))) rfl (rngF hlt6) ?_))
 refine AW.exit (AW.seq (AW.region ?_))
 refine AO.pu T ?_
 refine AO.val rfl rfl (len_map_ok T rfl rfl rfl) ?_
 iterate 2 refine AO.pu T ?_
 refine AO.nil (AW.ret ?_)
 have hR:=someE hH;subst hR
 exact retQ.i [] rfl (.c (.c .v))
 rw [hd4,impl_AreResults_l1] at hH
 have hlt6:=drop_lt hd4
 refine AW.seq (AW.region (AO.pu T ?_))
 refine AO.nil (AW.seq (AW.condT' (b:=decide ((k1:Int) < (l.length:Int))) rfl (rngT hlt6) ?_))
 refine AW.skip ?_
 obtain ⟨o72,hH,hK73⟩:=bindE hH
 refine AW.seqJ (fun s:Unit=>(⟨[(0,.s (List.map encResult l)),(7,.s (List.map encResult l)),(8,(l.length:Int)),(9,(k1:Int))],[],46,[]⟩:St)) (fun s=>.ok s=o72) ?_ ?_
 refine AW.block (AW.seq (AW.region ?_))
 refine AO.pu T ?_
 refine AO.val rfl rfl (ix_map_ok T rfl rfl rfl rfl rfl (getI_drop hd4) rfl) ?_
 refine AO.pu T (d:=.g [y2.skater,.s (List.map encInt y2.scores)]) ?_
 refine AO.step rfl (alloc_ok T rfl 21 rfl rfl rfl rfl rfl) ?_
 refine AO.pu T ?_
 refine AO.se T [y2.skater,.s (List.map encInt y2.scores)] ?_
 refine AO.nil ?_
 iterate 2 refine AW.seq ?_
 obtain ⟨x74,hx75,hH⟩:=bindE hH
 obtain ⟨x76,hx77,hH⟩:=bindE hH
 refine AW.drawn 12 22 [] mix (by kernel_rfl) rfl ?_
 refine AD.pure T (d:=.g [y2.skater,.s (List.map encInt y2.scores)]) rfl rfl rfl ?_
 refine AD.val rfl rfl (callV_ok rfl rfl rfl rfl (impl_isResult_ok _ _ (hx75)) rfl) ?_
 iterate 2 refine AD.pure T rfl rfl rfl ?_
 refine AD.pureG T [] rfl trivial rfl rfl ?_
 refine AD.pureG T [18] rfl ⟨fun h=>h,trivial⟩ rfl rfl ?_
 refine AD.guard [19] rfl ⟨fun h=>h,trivial⟩ (fun hg=>len_map_ok T rfl rfl rfl) rfl ?_
 refine AD.pureG T [] rfl trivial rfl rfl ?_
 refine AD.guard [21] rfl ⟨fun h=>h,trivial⟩ (fun hg=>ix_map_ok T rfl rfl rfl rfl rfl (optT hx77 hg) rfl) rfl ?_
 refine AD.pureG T [22] rfl ⟨fun h=>h,trivial⟩ rfl rfl ?_
 refine AD.pureG T [23] rfl ⟨fun h=>h,trivial⟩ rfl rfl ?_
 refine AD.guard [24] rfl ⟨fun h=>h,trivial⟩ (fun hg=>len_map_ok T rfl rfl rfl) rfl ?_
 refine AD.nil (AO.pureG T [20,25] rfl ⟨fun h=>h,fun h=>h,trivial⟩ rfl rfl ?_)
 refine AO.val rfl rfl (pick_or rfl rfl rfl rfl) ?_
 refine AO.nil (AW.cond (b:=((!x74) || ((y2.scores.length:Int) != (x76.scores.length:Int)))) rfl (fun hc=>?_) (fun hc=>?_))
 replace hH:=condT hc hH
 refine AW.seq (AW.region (AO.pu T ?_))
 refine AO.nil (AW.ret ?_)
 obtain rfl:=someE hH
 replace hH:=hK73
 have hR:=someE hH;subst hR
 exact retQ.i [] rfl (.c (.c .v))
 replace hH:=condF hc hH
 refine AW.skip (AW.seq ?_)
 obtain ⟨x78,hx79,hH⟩:=bindE hH
 refine AW.region ?_
 iterate 2 refine AO.pu T ?_
 refine AO.val rfl rfl (slice_hi_map_ok T rfl rfl rfl rfl rfl (hx79) (fun _=>rfl)) ?_
 refine AO.val rfl rfl (len_map_ok T rfl rfl rfl) ?_
 refine AO.pu T ?_
 refine AO.nil (AW.le (Le.ct 0 0 (σ':=(⟨[(0,.s (List.map encResult l)),(4,.p 21 0),(7,.s (List.map encResult l)),(8,(l.length:Int)),(9,(k1:Int)),(30,.s (List.map encResult x78)),(31,(x78.length:Int)),(32,(0:Int))],[(21,.box [y2.skater,.s (List.map encInt y2.scores)])],46,[]⟩:St))) ?_)
 refine AW.block (AW.loopS (fun s:Nat=>(⟨[(0,.s (List.map encResult l)),(4,.p 21 0),(7,.s (List.map encResult l)),(8,(l.length:Int)),(9,(k1:Int)),(30,.s (List.map encResult x78)),(31,(x78.length:Int)),(32,(s:Int))],[(21,.box [y2.skater,.s (List.map encInt y2.scores)])],46,[]⟩:St)) (fun s=>s ≤ x78.length∧impl_AreResults_l2 y2 (x78.drop s) s=some o72) (fun s=>x78.length - s) 0 ⟨Nat.zero_le _,hH⟩ ?_ ?_)
 exact Le.ct 0 0
 rintro k80 ⟨hk,hH⟩
 replace hH:impl_AreResults_l2 y2 (x78.drop k80) k80=some o72:=hH
 try dsimp only
 refine AW.boundM (t:=30) (l:=x78) rfl (fun hb84=>?_)
 rcases hd83:x78.drop k80 with _ | ⟨y81,ys82⟩
 rw [hd83,impl_AreResults_l2] at hH
 have hlt85:=drop_ge hd83
 refine AW.seq (AW.region (AO.pu T ?_))
 refine AO.nil (AW.seq (AW.condF' (b:=decide ((k80:Int) < (x78.length:Int))) rfl (rngF hlt85) ?_))
 refine AW.exit ?_
 refine ⟨_,someE hH,?_⟩
 exact Le.ct 0 0
 rw [hd83,impl_AreResults_l2] at hH
 have hlt85:=drop_lt hd83
 refine AW.seq (AW.region (AO.pu T ?_))
 refine AO.nil (AW.seq (AW.condT' (b:=decide ((k80:Int) < (x78.length:Int))) rfl (rngT hlt85) ?_))
 refine AW.skip (AW.seq ?_)
 refine AW.block (AW.seq (AW.region ?_))
 refine AO.val rfl rfl (ix_map_ok T rfl rfl rfl rfl rfl (getI_drop hd83) rfl) ?_
 refine AO.pu T (d:=.g [y81.skater,.s (List.map encInt y81.scores)]) ?_
 refine AO.step rfl (alloc_ok T rfl 24 rfl rfl rfl rfl rfl) ?_
 refine AO.se T [y81.skater,.s (List.map encInt y81.scores)] ?_
 refine AO.nil (AW.seq (AW.region ?_))
 iterate 5 refine AO.pu T ?_
 refine AO.nil (AW.cond (b:=(y81.skater == y2.skater)) rfl (fun hc=>?_) (fun hc=>?_))
 replace hH:=condT hc hH
 refine AW.seq (AW.region (AO.pu T ?_))
 refine AO.nil (AW.ret ?_)
 obtain rfl:=someE hH
 replace hH:=hK73
 have hR:=someE hH;subst hR
 exact retQ.i [] rfl (.c (.c .v))
 replace hH:=condF hc hH
 refine AW.skip (AW.region ?_)
 refine AO.val rfl rfl (ar_ok rfl rfl rfl rfl (inI_succ hlt85 hb84)) ?_
 refine AO.pu T ?_
 refine AO.nil ?_
 refine ⟨k80+1,⟨Nat.succ_le_of_lt hlt85,(by rw [drop_succ_of hd83];exact hH)⟩,(by have:=hlt85;dsimp only;omega),?_⟩
 exact Le.ct 0 0
 rintro _ hs
 subst hs
 replace hH:=hK73
 try dsimp only [flow,flowE] at hH
 try dsimp only
 refine AW.region (AO.val rfl rfl (ar_ok rfl rfl rfl rfl (inI_succ hlt6 hb5)) ?_)
 refine AO.pu T ?_
 refine AO.nil ?_
 refine ⟨k1+1,⟨Nat.succ_le_of_lt hlt6,(by rw [drop_succ_of hd4];exact hH)⟩,(by have:=hlt6;dsimp only;omega),?_⟩
 exact Le.ct 0 0

def impl_without_l1 (other:List Int):List Int→Nat→List Int→Option ((List Int))
  | [],k1,v16 =>
    some v16
  | y2::ys3,k1,v16 =>
    (slices_Contains_int_p other y2).bind fun x18 =>
    cond (!x18)
      ((need (fitsB 8 (v16.length+([y2]).length))).bind fun u20 =>
      impl_without_l1 other ys3 (k1+1) (v16++[y2]))
      (impl_without_l1 other ys3 (k1+1) v16)
def impl_without_p (l:List Int) (other:List Int):Option (List Int) :=
  impl_without_l1 other l 0 []
theorem impl_without_ok (l:List Int) (other:List Int) (r:(List Int)) (hH:impl_without_p l other=some r):SpecR Tryz.prog 67 [.s (List.map encInt l),.s (List.map encInt other)] (.w 1 (r.map encInt)):=by
 refine fn_ok T Tryz.func67 rfl (by decide) rfl ?_
 refine AW.seq (AW.region (AO.pu T ?_))
 refine AO.nil (AW.seq (AW.region ?_))
 refine AO.step rfl (mk0_ok T rfl rfl rfl rfl) ?_
 refine AO.pu T ?_
 refine AO.nil ?_
 iterate 2 refine AW.seq ?_
 refine AW.region (AO.pu T ?_)
 refine AO.val rfl rfl (len_map_ok T rfl rfl rfl) ?_
 refine AO.pu T ?_
 refine AO.nil (AW.block ?_)
 refine AW.loopS (fun s:Nat × (List Int)=>(⟨[(1,.s (List.map encInt other)),(5,.R 4),(9,.s (List.map encInt l)),(10,(l.length:Int)),(11,(s.1:Int))],[(4,.row 1 (List.map encInt s.2))],25,[]⟩:St)) (fun s=>s.1 ≤ l.length∧impl_without_l1 other (l.drop s.1) s.1 s.2=some r) (fun s=>l.length - s.1) (0,[]) ⟨Nat.zero_le _,hH⟩ ?_ ?_
 refine Le.trans (Le.void 5 4 1 rfl rfl) ?_
 exact Le.ct 0 0
 rintro ⟨k1,v16⟩ ⟨hk,hH⟩
 replace hH:impl_without_l1 other (l.drop k1) k1 v16=some r:=hH
 try dsimp only
 refine AW.boundM (t:=9) (l:=l) rfl (fun hb5=>?_)
 rcases hd4:l.drop k1 with _ | ⟨y2,ys3⟩
 rw [hd4,impl_without_l1] at hH
 have hlt6:=drop_ge hd4
 refine AW.seq (AW.region (AO.pu T ?_))
 refine AO.nil (AW.seq (AW.condF' (b:=decide ((k1:Int) < (l.length:Int))) rfl (rngF hlt6) ?_))
 refine AW.exit (AW.seq (AW.region ?_))
 iterate 2 refine AO.pu T ?_
 refine AO.nil (AW.ret ?_)
 have hR:=someE hH;subst hR
 exact retQ.i [4] rfl (.c (.c (.rowR rfl)))
 rw [hd4,impl_without_l1] at hH
 have hlt6:=drop_lt hd4
 refine AW.seq (AW.region (AO.pu T ?_))
 refine AO.nil (AW.seq (AW.condT' (b:=decide ((k1:Int) < (l.length:Int))) rfl (rngT hlt6) ?_))
 refine AW.skip (AW.seq ?_)
 refine AW.block (AW.seq (AW.region ?_))
 refine AO.val rfl rfl (ix_map_ok T rfl rfl rfl rfl rfl (getI_drop hd4) rfl) ?_
 iterate 2 refine AO.pu T ?_
 refine AO.nil (AW.seq ?_)
 obtain ⟨x18,hx19,hH⟩:=bindE hH
 refine AW.region ?_
 iterate 2 refine AO.pu T ?_
 refine AO.val rfl rfl (callV_ok rfl rfl rfl rfl (slices_Contains_int_ok _ _ _ (hx19)) rfl) ?_
 refine AO.pu T ?_
 refine AO.nil (AW.cond (b:=(!x18)) rfl (fun hc=>?_) (fun hc=>?_))
 replace hH:=condT hc hH
 obtain ⟨u20,hx21,hH⟩:=bindE hH
 refine AW.region ?_
 iterate 2 refine AO.pu T ?_
 refine AO.step rfl (mk_map_ok T rfl 5 rfl rfl rfl rfl rfl (f:=encInt) (l:=[y2]) rfl rfl (fun _=>rfl) rfl rfl rfl rfl rfl) ?_
 refine AO.step rfl (app_rv_map T rfl 6 rfl rfl rfl rfl rfl (by decide) rfl rfl rfl rfl (fun _=>rfl) (needT (hx21)) rfl rfl) ?_
 refine AO.pu T ?_
 refine AO.nil (AW.region ?_)
 refine AO.val rfl rfl (ar_ok rfl rfl rfl rfl (inI_succ hlt6 hb5)) ?_
 refine AO.pu T ?_
 refine AO.nil ?_
 refine ⟨(k1+1,(v16++[y2])),⟨Nat.succ_le_of_lt hlt6,(by rw [drop_succ_of hd4];exact hH)⟩,(by have:=hlt6;dsimp only;omega),?_⟩
 exact Le.ct 6 4
 replace hH:=condF hc hH
 refine AW.skip (AW.region ?_)
 refine AO.val rfl rfl (ar_ok rfl rfl rfl rfl (inI_succ hlt6 hb5)) ?_
 refine AO.pu T ?_
 refine AO.nil ?_
 refine ⟨(k1+1,v16),⟨Nat.succ_le_of_lt hlt6,(by rw [drop_succ_of hd4];exact hH)⟩,(by have:=hlt6;dsimp only;omega),?_⟩
 exact Le.ct 0 0

def impl_hasEntrants_l1 (e:Event):List Entrant→Nat→List Int→Option Bool
  | [],k7,v22 =>
    (impl_without_p e.gone v22).bind fun x24 =>
    some ((x24.length:Int) == 0)
  | y8::ys9,k7,v22 =>
    (need (fitsB 8 (v22.length+([y8.skater]).length))).bind fun u26 =>
    (getI e.results (k7:Int)).bind fun x28 =>
    cond ((x28.skater != y8.skater) || ((x28.scores.length:Int) != e.segments))
      (some false)
      (impl_hasEntrants_l1 e ys9 (k7+1) (v22++[y8.skater]))
def impl_hasEntrants_p (e:Event):Option Bool :=
  (impl_AreEntrants_p e.entrants).bind fun x1 =>
  (opt (!(!x1)) default (impl_isIncreasing_p e.gone 1000)).bind fun x3 =>
  (opt (!((!x1) || (!x3))) default (impl_AreResults_p e.results)).bind fun x5 =>
  cond ((((!x1) || (!x3)) || (!x5)) || ((e.results.length:Int) != (e.entrants.length:Int)))
    (some false)
    (impl_hasEntrants_l1 e e.entrants 0 [])
theorem impl_hasEntrants_ok (e:Event) (r:Bool) (hH:impl_hasEntrants_p e=some r):SpecR Tryz.prog 56 [.g (encEvent e)] (.v (.bool r)):=by
 refine fn_ok T Tryz.func56 rfl (by decide) rfl ?_
 refine AW.seq (AW.region (AO.step rfl (box_ok T rfl 1 rfl rfl rfl rfl) ?_))
 refine AO.pu T ?_
 refine AO.nil ?_
 iterate 2 refine AW.seq ?_
 obtain ⟨x1,hx2,hH⟩:=bindE hH
 obtain ⟨x3,hx4,hH⟩:=bindE hH
 obtain ⟨x5,hx6,hH⟩:=bindE hH
 refine AW.region ?_
 iterate 2 refine AO.pu T ?_
 refine AO.val rfl rfl (callV_ok rfl rfl rfl rfl (impl_AreEntrants_ok _ _ (hx2)) rfl) ?_
 iterate 2 refine AO.pu T ?_
 refine AO.pureG T [] rfl trivial rfl rfl ?_
 refine AO.pureG T [12] rfl ⟨fun h=>h,trivial⟩ rfl rfl ?_
 refine AO.guard [13] rfl ⟨fun h=>h,trivial⟩ (fun hg=>callV_ok rfl rfl rfl rfl (impl_isIncreasing_ok _ _ _ (optT hx4 hg)) rfl) rfl ?_
 refine AO.pureG T [14] rfl ⟨fun h=>h,trivial⟩ rfl rfl ?_
 refine AO.val rfl rfl (pick_or rfl rfl rfl rfl) ?_
 refine AO.pu T ?_
 refine AO.pureG T [] rfl trivial rfl rfl ?_
 refine AO.pureG T [18] rfl ⟨fun h=>h,trivial⟩ rfl rfl ?_
 refine AO.guard [19] rfl ⟨fun h=>h,trivial⟩ (fun hg=>callV_ok rfl rfl rfl rfl (impl_AreResults_ok _ _ (optT hx6 hg)) rfl) rfl ?_
 refine AO.pureG T [20] rfl ⟨fun h=>h,trivial⟩ rfl rfl ?_
 refine AO.val rfl rfl (pick_or rfl rfl rfl rfl) ?_
 refine AO.pu T ?_
 refine AO.pureG T [] rfl trivial rfl rfl ?_
 refine AO.pureG T [24] rfl ⟨fun h=>h,trivial⟩ rfl rfl ?_
 refine AO.guard [25] rfl ⟨fun h=>h,trivial⟩ (fun hg=>len_map_ok T rfl rfl rfl) rfl ?_
 refine AO.pureG T [] rfl trivial rfl rfl ?_
 refine AO.pureG T [27] rfl ⟨fun h=>h,trivial⟩ rfl rfl ?_
 refine AO.guard [28] rfl ⟨fun h=>h,trivial⟩ (fun hg=>len_map_ok T rfl rfl rfl) rfl ?_
 refine AO.pureG T [26,29] rfl ⟨fun h=>h,fun h=>h,trivial⟩ rfl rfl ?_
 refine AO.val rfl rfl (pick_or rfl rfl rfl rfl) ?_
 refine AO.nil (AW.le (Le.ct 0 0 (σ':=(⟨[(1,.p 1 0),(31,.v (.bool ((((!x1) || (!x3)) || (!x5)) || ((e.results.length:Int) != (e.entrants.length:Int)))))],[(1,.box [e.segments,e.size,e.key,.s (List.map encEntrant e.entrants),.s (List.map encInt e.gone),e.segment,.s (List.map encInt e.order),.s (List.map encResult e.results)])],71,[]⟩:St))) ?_)
 refine AW.cond (b:=((((!x1) || (!x3)) || (!x5)) || ((e.results.length:Int) != (e.entrants.length:Int)))) rfl (fun hc=>?_) (fun hc=>?_)
 replace hH:=condT hc hH
 refine AW.seq (AW.region (AO.pu T ?_))
 refine AO.nil (AW.ret ?_)
 have hR:=someE hH;subst hR
 exact retQ.i [] rfl (.c (.c .v))
 replace hH:=condF hc hH
 refine AW.skip (AW.seq (AW.region ?_))
 refine AO.step rfl (mk0_ok T rfl rfl rfl rfl) ?_
 refine AO.pu T ?_
 refine AO.nil ?_
 iterate 2 refine AW.seq ?_
 refine AW.region ?_
 iterate 2 refine AO.pu T ?_
 refine AO.val rfl rfl (len_map_ok T rfl rfl rfl) ?_
 refine AO.pu T ?_
 refine AO.nil (AW.block ?_)
 refine AW.loopS (fun s:Nat × (List Int)=>(⟨[(1,.p 1 0),(3,.R 8),(34,.s (List.map encEntrant e.entrants)),(35,(e.entrants.length:Int)),(36,(s.1:Int))],[(1,.box [e.segments,e.size,e.key,.s (List.map encEntrant e.entrants),.s (List.map encInt e.gone),e.segment,.s (List.map encInt e.order),.s (List.map encResult e.results)]),(8,.row 1 (List.map encInt s.2))],71,[]⟩:St)) (fun s=>s.1 ≤ e.entrants.length∧impl_hasEntrants_l1 e (e.entrants.drop s.1) s.1 s.2=some r) (fun s=>e.entrants.length - s.1) (0,[]) ⟨Nat.zero_le _,hH⟩ ?_ ?_
 refine Le.trans (Le.void 3 8 1 rfl rfl) ?_
 exact Le.ct 0 0
 rintro ⟨k7,v22⟩ ⟨hk,hH⟩
 replace hH:impl_hasEntrants_l1 e (e.entrants.drop k7) k7 v22=some r:=hH
 try dsimp only
 refine AW.boundM (t:=34) (l:=e.entrants) rfl (fun hb11=>?_)
 rcases hd10:e.entrants.drop k7 with _ | ⟨y8,ys9⟩
 rw [hd10,impl_hasEntrants_l1] at hH
 have hlt12:=drop_ge hd10
 refine AW.seq (AW.region (AO.pu T ?_))
 refine AO.nil (AW.seq (AW.condF' (b:=decide ((k7:Int) < (e.entrants.length:Int))) rfl (rngF hlt12) ?_))
 refine AW.exit (AW.seq ?_)
 obtain ⟨x24,hx25,hH⟩:=bindE hH
 refine AW.region ?_
 iterate 3 refine AO.pu T ?_
 refine AO.step rfl (callL_ok rfl 10 rfl rfl (es:=[.s (List.map encInt e.gone),.s (List.map encInt v22)]) (by exact ⟨.free rfl,(.rowR rfl (.map fun y=>.vs rfl)),trivial⟩) (impl_without_ok _ _ _ (hx25)) (zfree_map (fun y=>(.cons (zfree_v _) .nil))) rfl rfl rfl) ?_
 refine AO.val rfl rfl (len_row_ok T rfl rfl rfl rfl) ?_
 iterate 2 refine AO.pu T ?_
 refine AO.nil (AW.ret ?_)
 have hR:=someE hH;subst hR
 exact retQ.i [] rfl (.c (.c .v))
 rw [hd10,impl_hasEntrants_l1] at hH
 have hlt12:=drop_lt hd10
 refine AW.seq (AW.region (AO.pu T ?_))
 refine AO.nil (AW.seq (AW.condT' (b:=decide ((k7:Int) < (e.entrants.length:Int))) rfl (rngT hlt12) ?_))
 refine AW.skip (AW.seq ?_)
 refine AW.block (AW.seq (AW.region ?_))
 refine AO.pu T ?_
 refine AO.val rfl rfl (ix_map_ok T rfl rfl rfl rfl rfl (getI_drop hd10) rfl) ?_
 refine AO.pu T (d:=.g [y8.skater,y8.rank]) ?_
 refine AO.step rfl (alloc_ok T rfl 11 rfl rfl rfl rfl rfl) ?_
 refine AO.pu T ?_
 refine AO.se T [y8.skater,y8.rank] ?_
 refine AO.nil (AW.seq ?_)
 obtain ⟨u26,hx27,hH⟩:=bindE hH
 refine AW.region ?_
 iterate 3 refine AO.pu T ?_
 refine AO.step rfl (mk_map_ok T rfl 12 rfl rfl rfl rfl rfl (f:=encInt) (l:=[y8.skater]) rfl rfl (fun _=>rfl) rfl rfl rfl rfl rfl) ?_
 refine AO.step rfl (app_rv_map T rfl 13 rfl rfl rfl rfl rfl (by decide) rfl rfl rfl rfl (fun _=>rfl) (needT (hx27)) rfl rfl) ?_
 refine AO.pu T ?_
 refine AO.nil (AW.seq ?_)
 obtain ⟨x28,hx29,hH⟩:=bindE hH
 refine AW.region ?_
 iterate 3 refine AO.pu T ?_
 refine AO.val rfl rfl (ix_map_ok T rfl rfl rfl rfl rfl (hx29) rfl) ?_
 refine AO.pu T (d:=.g [x28.skater,.s (List.map encInt x28.scores)]) ?_
 refine AO.step rfl (alloc_ok T rfl 14 rfl rfl rfl rfl rfl) ?_
 refine AO.se T [x28.skater,.s (List.map encInt x28.scores)] ?_
 refine AO.nil (AW.seq (AW.region ?_))
 iterate 6 refine AO.pu T ?_
 refine AO.pureG T [] rfl trivial rfl rfl ?_
 refine AO.pureG T [57] rfl ⟨fun h=>h,trivial⟩ rfl rfl ?_
 refine AO.guard [58] rfl ⟨fun h=>h,trivial⟩ (fun hg=>len_map_ok T rfl rfl rfl) rfl ?_
 refine AO.pureG T [] rfl trivial rfl rfl ?_
 refine AO.pureG T [60] rfl ⟨fun h=>h,trivial⟩ rfl rfl ?_
 refine AO.pureG T [59,61] rfl ⟨fun h=>h,fun h=>h,trivial⟩ rfl rfl ?_
 refine AO.val rfl rfl (pick_or rfl rfl rfl rfl) ?_
 refine AO.nil (AW.le (Le.ct 0 0 (σ':=(⟨[(1,.p 1 0),(3,.R 13),(34,.s (List.map encEntrant e.entrants)),(35,(e.entrants.length:Int)),(36,(k7:Int)),(63,.v (.bool ((x28.skater != y8.skater) || ((x28.scores.length:Int) != e.segments))))],[(1,.box [e.segments,e.size,e.key,.s (List.map encEntrant e.entrants),.s (List.map encInt e.gone),e.segment,.s (List.map encInt e.order),.s (List.map encResult e.results)]),(13,.row 1 (List.map encInt (v22++[y8.skater])))],71,[]⟩:St))) ?_)
 refine AW.cond (b:=((x28.skater != y8.skater) || ((x28.scores.length:Int) != e.segments))) rfl (fun hc=>?_) (fun hc=>?_)
 replace hH:=condT hc hH
 refine AW.seq (AW.region (AO.pu T ?_))
 refine AO.nil (AW.ret ?_)
 have hR:=someE hH;subst hR
 exact retQ.i [] rfl (.c (.c .v))
 replace hH:=condF hc hH
 refine AW.skip (AW.region ?_)
 refine AO.val rfl rfl (ar_ok rfl rfl rfl rfl (inI_succ hlt12 hb11)) ?_
 refine AO.pu T ?_
 refine AO.nil ?_
 refine ⟨(k7+1,(v22++[y8.skater])),⟨Nat.succ_le_of_lt hlt12,(by rw [drop_succ_of hd10];exact hH)⟩,(by have:=hlt12;dsimp only;omega),?_⟩
 exact Le.ct 13 8

def impl_totalOf_l1:List Int→Nat→Int→Int→Option ((Int × Int))
  | [],k1,v9,v10 =>
    some (v9,v10)
  | y2::ys3,k1,v9,v10 =>
    cond (decide (y2 ≥ 0))
      (impl_totalOf_l1 ys3 (k1+1) (w64 (v9+y2)) (w64 (v10+1)))
      (impl_totalOf_l1 ys3 (k1+1) v9 v10)
def impl_totalOf_p (rA:Result):Option (Int × Int) :=
  impl_totalOf_l1 rA.scores 0 0 0
theorem impl_totalOf_ok (rA:Result) (r:(Int × Int)) (hH:impl_totalOf_p rA=some r):SpecR Tryz.prog 134 [.g (encResult rA)] (.t [.v (.int .i64 r.1),.v (.int .i64 r.2)]):=by
 refine fn_ok T Tryz.func134 rfl (by decide) rfl ?_
 refine AW.seq (AW.region (AO.step rfl (box_ok T rfl 1 rfl rfl rfl rfl) ?_))
 iterate 2 refine AO.pu T ?_
 refine AO.nil (AW.seq (AW.region ?_))
 iterate 2 refine AO.pu T ?_
 refine AO.nil ?_
 iterate 2 refine AW.seq ?_
 refine AW.region ?_
 iterate 2 refine AO.pu T ?_
 refine AO.val rfl rfl (len_map_ok T rfl rfl rfl) ?_
 refine AO.pu T ?_
 refine AO.nil (AW.block ?_)
 refine AW.loopS (fun s:Nat × Int × Int=>(⟨[(4,s.2.1),(5,s.2.2),(9,.s (List.map encInt rA.scores)),(10,(rA.scores.length:Int)),(11,(s.1:Int))],[],25,[]⟩:St)) (fun s=>s.1 ≤ rA.scores.length∧impl_totalOf_l1 (rA.scores.drop s.1) s.1 s.2.1 s.2.2=some r) (fun s=>rA.scores.length - s.1) (0,0,0) ⟨Nat.zero_le _,hH⟩ ?_ ?_
 exact Le.ct 0 0
 rintro ⟨k1,v9,v10⟩ ⟨hk,hH⟩
 replace hH:impl_totalOf_l1 (rA.scores.drop k1) k1 v9 v10=some r:=hH
 try dsimp only
 refine AW.boundM (t:=9) (l:=rA.scores) rfl (fun hb5=>?_)
 rcases hd4:rA.scores.drop k1 with _ | ⟨y2,ys3⟩
 rw [hd4,impl_totalOf_l1] at hH
 have hlt6:=drop_ge hd4
 refine AW.seq (AW.region (AO.pu T ?_))
 refine AO.nil (AW.seq (AW.condF' (b:=decide ((k1:Int) < (rA.scores.length:Int))) rfl (rngF hlt6) ?_))
 refine AW.exit (AW.seq (AW.region ?_))
 iterate 4 refine AO.pu T ?_
 refine AO.nil (AW.ret ?_)
 have hR:=someE hH;subst hR
 exact retQ.i [] rfl (.t (expLG_cons (.c .v) (expLG_cons (.c .v) (expLG_nil))))
 rw [hd4,impl_totalOf_l1] at hH
 have hlt6:=drop_lt hd4
 refine AW.seq (AW.region (AO.pu T ?_))
 refine AO.nil (AW.seq (AW.condT' (b:=decide ((k1:Int) < (rA.scores.length:Int))) rfl (rngT hlt6) ?_))
 refine AW.skip (AW.seq ?_)
 refine AW.block (AW.seq (AW.region ?_))
 refine AO.val rfl rfl (ix_map_ok T rfl rfl rfl rfl rfl (getI_drop hd4) rfl) ?_
 iterate 2 refine AO.pu T ?_
 refine AO.nil (AW.seq (AW.region ?_))
 iterate 2 refine AO.pu T ?_
 refine AO.nil (AW.cond (b:=decide (y2 ≥ 0)) rfl (fun hc=>?_) (fun hc=>?_))
 replace hH:=condT hc hH
 refine AW.seq (AW.region ?_)
 iterate 2 refine AO.pu T ?_
 refine AO.val rfl rfl (arw_ok rfl rfl rfl rfl) ?_
 refine AO.pu T ?_
 refine AO.nil (AW.region ?_)
 refine AO.pu T ?_
 refine AO.val rfl rfl (arw_ok rfl rfl rfl rfl) ?_
 refine AO.pu T ?_
 refine AO.nil (AW.region ?_)
 refine AO.val rfl rfl (ar_ok rfl rfl rfl rfl (inI_succ hlt6 hb5)) ?_
 refine AO.pu T ?_
 refine AO.nil ?_
 refine ⟨(k1+1,w64 (v9+y2),w64 (v10+1)),⟨Nat.succ_le_of_lt hlt6,(by rw [drop_succ_of hd4];exact hH)⟩,(by have:=hlt6;dsimp only;omega),?_⟩
 exact Le.ct 0 0
 replace hH:=condF hc hH
 refine AW.skip (AW.region ?_)
 refine AO.val rfl rfl (ar_ok rfl rfl rfl rfl (inI_succ hlt6 hb5)) ?_
 refine AO.pu T ?_
 refine AO.nil ?_
 refine ⟨(k1+1,v9,v10),⟨Nat.succ_le_of_lt hlt6,(by rw [drop_succ_of hd4];exact hH)⟩,(by have:=hlt6;dsimp only;omega),?_⟩
 exact Le.ct 0 0

def impl_scoredIn_l1 (skater:Int):List Result→Nat→Option Int
  | [],k1 =>
    some 0
  | y2::ys3,k1 =>
    cond (y2.skater == skater)
      ((impl_totalOf_p y2).bind fun x12 =>
      some x12.2)
      (impl_scoredIn_l1 skater ys3 (k1+1))
def impl_scoredIn_p (e:Event) (skater:Int):Option Int :=
  impl_scoredIn_l1 skater e.results 0
theorem impl_scoredIn_ok (e:Event) (skater:Int) (r:Int) (hH:impl_scoredIn_p e skater=some r):SpecR Tryz.prog 97 [.g (encEvent e),skater] (.v (.int .i64 r)):=by
 refine fn_ok T Tryz.func97 rfl (by decide) rfl ?_
 refine AW.seq (AW.region (AO.step rfl (box_ok T rfl 1 rfl rfl rfl rfl) ?_))
 refine AO.pu T ?_
 refine AO.nil ?_
 iterate 2 refine AW.seq ?_
 refine AW.region ?_
 iterate 2 refine AO.pu T ?_
 refine AO.val rfl rfl (len_map_ok T rfl rfl rfl) ?_
 refine AO.pu T ?_
 refine AO.nil (AW.block ?_)
 refine AW.loopS (fun s:Nat=>(⟨[(1,skater),(10,.s (List.map encResult e.results)),(11,(e.results.length:Int)),(12,(s:Int))],[],27,[]⟩:St)) (fun s=>s ≤ e.results.length∧impl_scoredIn_l1 skater (e.results.drop s) s=some r) (fun s=>e.results.length - s) 0 ⟨Nat.zero_le _,hH⟩ ?_ ?_
 exact Le.ct 0 0
 rintro k1 ⟨hk,hH⟩
 replace hH:impl_scoredIn_l1 skater (e.results.drop k1) k1=some r:=hH
 try dsimp only
 refine AW.boundM (t:=10) (l:=e.results) rfl (fun hb5=>?_)
 rcases hd4:e.results.drop k1 with _ | ⟨y2,ys3⟩
 rw [hd4,impl_scoredIn_l1] at hH
 have hlt6:=drop_ge hd4
 refine AW.seq (AW.region (AO.pu T ?_))
 refine AO.nil (AW.seq (AW.condF' (b:=decide ((k1:Int) < (e.results.length:Int))) rfl (rngF hlt6) ?_))
 refine AW.exit (AW.seq (AW.region ?_))
 refine AO.pu T ?_
 refine AO.nil (AW.ret ?_)
 have hR:=someE hH;subst hR
 exact retQ.i [] rfl (.c (.c .v))
 rw [hd4,impl_scoredIn_l1] at hH
 have hlt6:=drop_lt hd4
 refine AW.seq (AW.region (AO.pu T ?_))
 refine AO.nil (AW.seq (AW.condT' (b:=decide ((k1:Int) < (e.results.length:Int))) rfl (rngT hlt6) ?_))
 refine AW.skip (AW.seq ?_)
 refine AW.block (AW.seq (AW.region ?_))
 refine AO.val rfl rfl (ix_map_ok T rfl rfl rfl rfl rfl (getI_drop hd4) rfl) ?_
 refine AO.pu T (d:=.g [y2.skater,.s (List.map encInt y2.scores)]) ?_
 refine AO.step rfl (alloc_ok T rfl 4 rfl rfl rfl rfl rfl) ?_
 refine AO.se T [y2.skater,.s (List.map encInt y2.scores)] ?_
 refine AO.nil (AW.seq (AW.region ?_))
 iterate 4 refine AO.pu T ?_
 refine AO.nil (AW.cond (b:=(y2.skater == skater)) rfl (fun hc=>?_) (fun hc=>?_))
 replace hH:=condT hc hH
 refine AW.seq ?_
 obtain ⟨x12,hx13,hH⟩:=bindE hH
 refine AW.region (AO.pu T (d:=.g [y2.skater,.s (List.map encInt y2.scores)]) ?_)
 refine AO.val rfl rfl (callV_ok rfl rfl rfl rfl (impl_totalOf_ok _ _ (hx13)) rfl) ?_
 iterate 5 refine AO.pu T ?_
 refine AO.nil (AW.seq (AW.region ?_))
 iterate 2 refine AO.pu T ?_
 refine AO.nil (AW.ret ?_)
 have hR:=someE hH;subst hR
 exact retQ.i [] rfl (.c (.c .v))
 replace hH:=condF hc hH
 refine AW.skip (AW.region ?_)
 refine AO.val rfl rfl (ar_ok rfl rfl rfl rfl (inI_succ hlt6 hb5)) ?_
 refine AO.pu T ?_
 refine AO.nil ?_
 refine ⟨k1+1,⟨Nat.succ_le_of_lt hlt6,(by rw [drop_succ_of hd4];exact hH)⟩,(by have:=hlt6;dsimp only;omega),?_⟩
 exact Le.ct 0 0

def slices_IndexFunc_Entrant_l1 (f:Entrant→Option Bool):List Entrant→Nat→Option Int
  | [],k1 =>
    some (-1)
  | y2::ys3,k1 =>
    (f y2).bind fun x12 =>
    cond x12
      (some (k1:Int))
      (slices_IndexFunc_Entrant_l1 f ys3 (k1+1))
def slices_IndexFunc_Entrant_p (sA:List Entrant) (f:Entrant→Option Bool):Option Int :=
  slices_IndexFunc_Entrant_l1 f sA 0
theorem slices_IndexFunc_Entrant_ok (sA:List Entrant) (f_f:Nat) (f_c:List D) (f_k:f_c.all D.capOk=true) (f:Entrant→Option Bool) (f_h:∀ (a0:Entrant) (q:Bool),f a0=some q→SpecR Tryz.prog f_f ([.g (encEntrant a0)]++f_c) (.v (.bool q))) (r:Int) (hH:slices_IndexFunc_Entrant_p sA f=some r):SpecR Tryz.prog 80 [.s (List.map encEntrant sA),.f f_f f_c] (.v (.int .i64 r)):=by
 have f_r:=cap_cfree f_k
 refine fn_ok T Tryz.func80 rfl (by decide) rfl ?_
 refine AW.seq (AW.region (AO.pu T ?_))
 refine AO.nil ?_
 iterate 2 refine AW.seq ?_
 refine AW.region (AO.pu T ?_)
 refine AO.val rfl rfl (len_map_ok T rfl rfl rfl) ?_
 refine AO.pu T ?_
 refine AO.nil (AW.block ?_)
 refine AW.loopS (fun s:Nat=>(⟨[(0,.s (List.map encEntrant sA)),(1,.f f_f f_c),(7,(sA.length:Int)),(8,(s:Int))],[],19,[]⟩:St)) (fun s=>s ≤ sA.length∧slices_IndexFunc_Entrant_l1 f (sA.drop s) s=some r) (fun s=>sA.length - s) 0 ⟨Nat.zero_le _,hH⟩ ?_ ?_
 exact Le.cut 0 0 rfl ⟨⟨_,rfl,rfl⟩,⟨_,rfl,ren_fF f_r⟩,⟨_,rfl,rfl⟩,⟨_,rfl,rfl⟩,trivial⟩ (by repeat' (first | exact trivial | refine ⟨⟨_,rfl,rfl⟩,?_⟩)) (andT (allC rfl (allC (known_fF f_r) (allC rfl (allC rfl allN)))) rfl)
 rintro k1 ⟨hk,hH⟩
 replace hH:slices_IndexFunc_Entrant_l1 f (sA.drop k1) k1=some r:=hH
 try dsimp only
 refine AW.boundM (t:=0) (l:=sA) rfl (fun hb5=>?_)
 rcases hd4:sA.drop k1 with _ | ⟨y2,ys3⟩
 rw [hd4,slices_IndexFunc_Entrant_l1] at hH
 have hlt6:=drop_ge hd4
 refine AW.seq (AW.region (AO.pu T ?_))
 refine AO.nil (AW.seq (AW.condF' (b:=decide ((k1:Int) < (sA.length:Int))) rfl (rngF hlt6) ?_))
 refine AW.exit (AW.seq (AW.region ?_))
 refine AO.pu T ?_
 refine AO.nil (AW.ret ?_)
 have hR:=someE hH;subst hR
 exact retQ.i [] rfl (.c (.c .v))
 rw [hd4,slices_IndexFunc_Entrant_l1] at hH
 have hlt6:=drop_lt hd4
 refine AW.seq (AW.region (AO.pu T ?_))
 refine AO.nil (AW.seq (AW.condT' (b:=decide ((k1:Int) < (sA.length:Int))) rfl (rngT hlt6) ?_))
 refine AW.skip (AW.seq ?_)
 refine AW.block (AW.seq (AW.region ?_))
 iterate 2 refine AO.pu T ?_
 refine AO.nil (AW.seq ?_)
 obtain ⟨x12,hx13,hH⟩:=bindE hH
 refine AW.region ?_
 iterate 3 refine AO.pu T ?_
 refine AO.val rfl rfl (ix_map_ok T rfl rfl rfl rfl rfl (getI_drop hd4) rfl) ?_
 refine AO.pu T (d:=.g [y2.skater,y2.rank]) ?_
 refine AO.val rfl rfl (callV_ok rfl rfl rfl (andT rfl (free_cfree f_r)) (f_h _ _ (hx13)) rfl) ?_
 refine AO.nil (AW.cond (b:=x12) rfl (fun hc=>?_) (fun hc=>?_))
 replace hH:=condT hc hH
 refine AW.seq (AW.region ?_)
 iterate 2 refine AO.pu T ?_
 refine AO.nil (AW.ret ?_)
 have hR:=someE hH;subst hR
 exact retQ.i [] rfl (.c (.c .v))
 replace hH:=condF hc hH
 refine AW.skip (AW.region ?_)
 refine AO.val rfl rfl (ar_ok rfl rfl rfl rfl (inI_succ hlt6 hb5)) ?_
 refine AO.pu T ?_
 refine AO.nil ?_
 refine ⟨k1+1,⟨Nat.succ_le_of_lt hlt6,(by rw [drop_succ_of hd4];exact hH)⟩,(by have:=hlt6;dsimp only;omega),?_⟩
 exact Le.cut 0 0 rfl ⟨⟨_,rfl,rfl⟩,⟨_,rfl,ren_fF f_r⟩,⟨_,rfl,rfl⟩,⟨_,rfl,rfl⟩,trivial⟩ (by repeat' (first | exact trivial | refine ⟨⟨_,rfl,rfl⟩,?_⟩)) (andT (allC rfl (allC (known_fF f_r) (allC rfl (allC rfl allN)))) rfl)

def slices_ContainsFunc_Entrant_p (sA:List Entrant) (f:Entrant→Option Bool):Option Bool :=
  (slices_IndexFunc_Entrant_p sA f).bind fun x1 =>
  some (decide (x1 ≥ 0))
theorem slices_ContainsFunc_Entrant_ok (sA:List Entrant) (f_f:Nat) (f_c:List D) (f_k:f_c.all D.capOk=true) (f:Entrant→Option Bool) (f_h:∀ (a0:Entrant) (q:Bool),f a0=some q→SpecR Tryz.prog f_f ([.g (encEntrant a0)]++f_c) (.v (.bool q))) (r:Bool) (hH:slices_ContainsFunc_Entrant_p sA f=some r):SpecR Tryz.prog 39 [.s (List.map encEntrant sA),.f f_f f_c] (.v (.bool r)):=by
 have f_r:=cap_cfree f_k
 refine fn_ok T Tryz.func39 rfl (by decide) rfl ?_
 refine AW.seq (AW.region (AO.pu T ?_))
 refine AO.nil (AW.seq ?_)
 obtain ⟨x1,hx2,hH⟩:=bindE hH
 refine AW.region ?_
 iterate 2 refine AO.pu T ?_
 refine AO.val rfl rfl (callV_ok rfl rfl rfl (andT (allC rfl (allC f_r allN)) rfl) (slices_IndexFunc_Entrant_ok _ f_f f_c f_k f f_h _ (hx2)) rfl) ?_
 iterate 2 refine AO.pu T ?_
 refine AO.nil (AW.ret ?_)
 have hR:=someE hH;subst hR
 exact retQ.i [] rfl (.c (.c .v))

def impl_isThere_c1_p (x:Entrant) (a:Int):Option Bool :=
  some (x.skater == a)
theorem impl_isThere_c1_ok (x:Entrant) (a:Int) (r:Bool) (hH:impl_isThere_c1_p x a=some r):SpecR Tryz.prog 81 [.g (encEntrant x),.q [a]] (.v (.bool r)):=by
 refine fn_ok T Tryz.func81 rfl (by decide) rfl ?_
 refine AW.seq (AW.region (AO.step rfl (box_ok T rfl 1 rfl rfl rfl rfl) ?_))
 refine AO.pu T ?_
 refine AO.nil (AW.seq (AW.region ?_))
 iterate 5 refine AO.pu T ?_
 refine AO.nil (AW.ret ?_)
 have hR:=someE hH;subst hR
 exact retQ.i [] rfl (.c (.c .v))

def impl_isThere_p (e:Event) (skater:Int):Option Bool :=
  (slices_ContainsFunc_Entrant_p e.entrants (fun a0=>impl_isThere_c1_p a0 skater)).bind fun x1 =>
  (opt x1 default (slices_Contains_int_p e.gone skater)).bind fun x3 =>
  some (x1 && (!x3))
theorem impl_isThere_ok (e:Event) (skater:Int) (r:Bool) (hH:impl_isThere_p e skater=some r):SpecR Tryz.prog 41 [.g (encEvent e),skater] (.v (.bool r)):=by
 refine fn_ok T Tryz.func41 rfl (by decide) rfl ?_
 refine AW.seq (AW.region (AO.step rfl (box_ok T rfl 1 rfl rfl rfl rfl) ?_))
 refine AO.step rfl (box_ok T rfl 2 rfl rfl rfl rfl) ?_
 refine AO.pu T ?_
 refine AO.nil (AW.seq ?_)
 obtain ⟨x1,hx2,hH⟩:=bindE hH
 obtain ⟨x3,hx4,hH⟩:=bindE hH
 refine AW.region ?_
 iterate 3 refine AO.pu T ?_
 refine AO.val rfl rfl (callLV_ok rfl rfl rfl (es:=[.s (List.map encEntrant e.entrants),.f 81 [.q [skater]]]) ⟨.free rfl,lend_f (LendL.cons (Lend.boxF rfl rfl) LendL.nil),trivial⟩ (slices_ContainsFunc_Entrant_ok _ 81 [.q [skater]] rfl (fun a0=>impl_isThere_c1_p a0 skater) (fun a0 q h=>impl_isThere_c1_ok a0 skater q h) _ (hx2)) (zfree_v _) rfl) ?_
 refine AO.pu T ?_
 refine AO.pureG T [] rfl trivial rfl rfl ?_
 refine AO.pureG T [10] rfl ⟨fun h=>h,trivial⟩ rfl rfl ?_
 refine AO.pureG T [] rfl trivial rfl rfl ?_
 refine AO.guard [11,12] rfl ⟨fun h=>h,fun h=>h,trivial⟩ (fun hg=>callV_ok rfl rfl rfl rfl (slices_Contains_int_ok _ _ _ (optT hx4 hg)) rfl) rfl ?_
 refine AO.pureG T [13] rfl ⟨fun h=>h,trivial⟩ rfl rfl ?_
 refine AO.val rfl rfl (pick_and rfl rfl rfl rfl) ?_
 refine AO.pu T ?_
 refine AO.nil (AW.ret ?_)
 have hR:=someE hH;subst hR
 exact retQ.i [] rfl (.c (.c .v))

def impl_copyInts_p (l:List Int):Option (List Int) :=
  (need (fitsB 8 l.length)).bind fun u1 =>
  some l
theorem impl_copyInts_ok (l:List Int) (r:(List Int)) (hH:impl_copyInts_p l=some r):SpecR Tryz.prog 93 [.s (List.map encInt l)] (.w 1 (r.map encInt)):=by
 refine fn_ok T Tryz.func93 rfl (by decide) rfl ?_
 refine AW.seq (AW.region (AO.pu T ?_))
 refine AO.nil (AW.seq ?_)
 obtain ⟨u1,hx2,hH⟩:=bindE hH
 refine AW.region (AO.step rfl (mk0_ok T rfl rfl rfl rfl) ?_)
 refine AO.pu T ?_
 refine AO.step rfl (app_ws_map T rfl 1 rfl rfl rfl rfl rfl (by decide) (by decide) rfl rfl (fun _=>rfl) (needT (hx2)) rfl rfl) ?_
 refine AO.pu T ?_
 refine AO.nil (AW.ret ?_)
 have hR:=someE hH;subst hR
 exact retQ.i [1] rfl (.c (.c (.rowR rfl)))

def slices_Sort_int_p (x:List Int):Option (List Int):=(need (Nat.blt x.length 4611686018427387904)).bind fun _=>some (sortI x)
theorem slices_Sort_int_ok (x:List Int) (r:List Int) (hH:slices_Sort_int_p x=some r):SpecM Tryz.prog 65 [.w 1 (x.map encInt)] [.w 1 (r.map encInt)] (.t []):=by
  obtain ⟨u,hu,hr⟩:=bindE hH
  cases someE hr
  exact spec_sortI ⟨_,Tryz.func65,rfl,by decide⟩ Tryz.slices_Sort_int Tryz.slices_Sort_int_none x (Nat.le_of_ble_eq_true (needT hu))

def impl_sortedInts_p (l:List Int):Option (List Int) :=
  (impl_copyInts_p l).bind fun x1 =>
  (slices_Sort_int_p x1).bind fun x3 =>
  some x3
theorem impl_sortedInts_ok (l:List Int) (r:(List Int)) (hH:impl_sortedInts_p l=some r):SpecR Tryz.prog 99 [.s (List.map encInt l)] (.w 1 (r.map encInt)):=by
 refine fn_ok T Tryz.func99 rfl (by decide) rfl ?_
 refine AW.seq (AW.region (AO.pu T ?_))
 refine AO.nil (AW.seq ?_)
 obtain ⟨x1,hx2,hH⟩:=bindE hH
 refine AW.region (AO.pu T ?_)
 refine AO.step rfl (call_ok rfl 1 rfl rfl rfl (impl_copyInts_ok _ _ (hx2)) rfl rfl rfl) ?_
 refine AO.pu T ?_
 refine AO.nil (AW.seq ?_)
 obtain ⟨x3,hx4,hH⟩:=bindE hH
 refine AW.region (AO.pu T ?_)
 refine AO.step rfl (callM_ok rfl 2 rfl rfl (es:=[.w 1 (x1.map encInt)]) (outs:=[.w 1 (x3.map encInt)]) (ids:=[1]) (by exact expLG_cons (.c (.rowR rfl)) (expLG_nil)) (by decide) (.inl (by rfl)) (by rfl) (slices_Sort_int_ok _ _ (hx4)) rfl (by rfl) rfl) ?_
 refine AO.nil (AW.seq (AW.region ?_))
 iterate 2 refine AO.pu T ?_
 refine AO.nil (AW.ret ?_)
 have hR:=someE hH;subst hR
 exact retQ.i [1] rfl (.c (.c (.rowR rfl)))

def slices_Equal_int_l1 (s2A:List Int):List Int→Nat→Option Bool
  | [],k1 =>
    some true
  | y2::ys3,k1 =>
    (getI s2A (k1:Int)).bind fun x12 =>
    cond (y2 != x12)
      (some false)
      (slices_Equal_int_l1 s2A ys3 (k1+1))
def slices_Equal_int_p (s1A:List Int) (s2A:List Int):Option Bool :=
  cond ((s1A.length:Int) != (s2A.length:Int))
    (some false)
    (slices_Equal_int_l1 s2A s1A 0)
theorem slices_Equal_int_ok (s1A:List Int) (s2A:List Int) (r:Bool) (hH:slices_Equal_int_p s1A s2A=some r):SpecR Tryz.prog 98 [.s (List.map encInt s1A),.s (List.map encInt s2A)] (.v (.bool r)):=by
 refine fn_ok T Tryz.func98 rfl (by decide) rfl ?_
 refine AW.seq (AW.region (AO.pu T ?_))
 refine AO.nil ?_
 iterate 2 refine AW.seq ?_
 refine AW.region (AO.pu T ?_)
 refine AO.val rfl rfl (len_map_ok T rfl rfl rfl) ?_
 refine AO.pu T ?_
 refine AO.val rfl rfl (len_map_ok T rfl rfl rfl) ?_
 refine AO.pu T ?_
 refine AO.nil (AW.cond (b:=((s1A.length:Int) != (s2A.length:Int))) rfl (fun hc=>?_) (fun hc=>?_))
 replace hH:=condT hc hH
 refine AW.seq (AW.region (AO.pu T ?_))
 refine AO.nil (AW.ret ?_)
 have hR:=someE hH;subst hR
 exact retQ.i [] rfl (.c (.c .v))
 replace hH:=condF hc hH
 refine AW.skip ?_
 iterate 2 refine AW.seq ?_
 refine AW.region (AO.pu T ?_)
 refine AO.val rfl rfl (len_map_ok T rfl rfl rfl) ?_
 refine AO.pu T ?_
 refine AO.nil (AW.block ?_)
 refine AW.loopS (fun s:Nat=>(⟨[(0,.s (List.map encInt s1A)),(1,.s (List.map encInt s2A)),(12,(s1A.length:Int)),(13,(s:Int))],[],26,[]⟩:St)) (fun s=>s ≤ s1A.length∧slices_Equal_int_l1 s2A (s1A.drop s) s=some r) (fun s=>s1A.length - s) 0 ⟨Nat.zero_le _,hH⟩ ?_ ?_
 exact Le.ct 0 0
 rintro k1 ⟨hk,hH⟩
 replace hH:slices_Equal_int_l1 s2A (s1A.drop k1) k1=some r:=hH
 try dsimp only
 refine AW.boundM (t:=0) (l:=s1A) rfl (fun hb5=>?_)
 rcases hd4:s1A.drop k1 with _ | ⟨y2,ys3⟩
 rw [hd4,slices_Equal_int_l1] at hH
 have hlt6:=drop_ge hd4
 refine AW.seq (AW.region (AO.pu T ?_))
 refine AO.nil (AW.seq (AW.condF' (b:=decide ((k1:Int) < (s1A.length:Int))) rfl (rngF hlt6) ?_))
 refine AW.exit (AW.seq (AW.region ?_))
 refine AO.pu T ?_
 refine AO.nil (AW.ret ?_)
 have hR:=someE hH;subst hR
 exact retQ.i [] rfl (.c (.c .v))
 rw [hd4,slices_Equal_int_l1] at hH
 have hlt6:=drop_lt hd4
 refine AW.seq (AW.region (AO.pu T ?_))
 refine AO.nil (AW.seq (AW.condT' (b:=decide ((k1:Int) < (s1A.length:Int))) rfl (rngT hlt6) ?_))
 refine AW.skip (AW.seq ?_)
 refine AW.block (AW.seq (AW.region ?_))
 iterate 2 refine AO.pu T ?_
 refine AO.nil (AW.seq ?_)
 obtain ⟨x12,hx13,hH⟩:=bindE hH
 refine AW.drawn 8 1 [] mix (by kernel_rfl) rfl ?_
 iterate 2 refine AD.pure T rfl rfl rfl ?_
 refine AD.val rfl rfl (ix_map_ok T rfl rfl rfl rfl rfl (getI_drop hd4) rfl) ?_
 iterate 3 refine AD.pure T rfl rfl rfl ?_
 refine AD.val rfl rfl (ix_map_ok T rfl rfl rfl rfl rfl (hx13) rfl) ?_
 refine AD.pure T rfl rfl rfl ?_
 refine AD.nil (AO.pu T ?_)
 refine AO.nil (AW.cond (b:=(y2 != x12)) rfl (fun hc=>?_) (fun hc=>?_))
 replace hH:=condT hc hH
 refine AW.seq (AW.region (AO.pu T ?_))
 refine AO.nil (AW.ret ?_)
 have hR:=someE hH;subst hR
 exact retQ.i [] rfl (.c (.c .v))
 replace hH:=condF hc hH
 refine AW.skip (AW.region ?_)
 refine AO.val rfl rfl (ar_ok rfl rfl rfl rfl (inI_succ hlt6 hb5)) ?_
 refine AO.pu T ?_
 refine AO.nil ?_
 refine ⟨k1+1,⟨Nat.succ_le_of_lt hlt6,(by rw [drop_succ_of hd4];exact hH)⟩,(by have:=hlt6;dsimp only;omega),?_⟩
 exact Le.ct 0 0

def impl_isScored_p (e:Event) (skater:Int):Option Bool :=
  (impl_scoredIn_p e skater).bind fun x1 =>
  some (decide (x1 > e.segment))
theorem impl_isScored_ok (e:Event) (skater:Int) (r:Bool) (hH:impl_isScored_p e skater=some r):SpecR Tryz.prog 66 [.g (encEvent e),skater] (.v (.bool r)):=by
 refine fn_ok T Tryz.func66 rfl (by decide) rfl ?_
 refine AW.seq (AW.region (AO.step rfl (box_ok T rfl 1 rfl rfl rfl rfl) ?_))
 refine AO.pu T ?_
 refine AO.nil (AW.seq ?_)
 obtain ⟨x1,hx2,hH⟩:=bindE hH
 refine AW.drawn 5 2 [] mix (by kernel_rfl) rfl ?_
 refine AD.pure T (d:=.g [e.segments,e.size,e.key,.s (List.map encEntrant e.entrants),.s (List.map encInt e.gone),e.segment,.s (List.map encInt e.order),.s (List.map encResult e.results)]) rfl rfl rfl ?_
 refine AD.pure T rfl rfl rfl ?_
 refine AD.val rfl rfl (callV_ok rfl rfl rfl rfl (impl_scoredIn_ok _ _ _ (hx2)) rfl) ?_
 iterate 2 refine AD.pure T rfl rfl rfl ?_
 refine AD.nil ?_
 iterate 2 refine AO.pu T ?_
 refine AO.nil (AW.ret ?_)
 have hR:=someE hH;subst hR
 exact retQ.i [] rfl (.c (.c .v))

def impl_isEventOrder_l2 (e:Event) (v34:Int):List Int→Nat→Option Bool
  | [],k42 =>
    some true
  | y43::ys44,k42 =>
    (impl_isScored_p e y43).bind fun x53 =>
    cond (!(x53 == decide ((k42:Int) < v34)))
      (some false)
      (impl_isEventOrder_l2 e v34 ys44 (k42+1))
def impl_isEventOrder_l1 (e:Event):List Entrant→Nat→List Int→Int→Option Bool
  | [],k1,v33,v34 =>
    cond ((e.order.length:Int) == 0)
      (some (v34 == 0))
      ((opt (!((e.segment == e.segments) || (v34 == (e.order.length:Int)))) default (impl_sortedInts_p e.order)).bind fun x36 =>
      (opt (!((e.segment == e.segments) || (v34 == (e.order.length:Int)))) default (impl_sortedInts_p v33)).bind fun x38 =>
      (opt (!((e.segment == e.segments) || (v34 == (e.order.length:Int)))) default (slices_Equal_int_p x36 x38)).bind fun x40 =>
      cond (((e.segment == e.segments) || (v34 == (e.order.length:Int))) || (!x40))
        (some false)
        (impl_isEventOrder_l2 e v34 e.order 0))
  | y2::ys3,k1,v33,v34 =>
    (impl_scoredIn_p e y2.skater).bind fun x55 =>
    (opt (!(decide (x55 > (w64 (e.segment+1))))) default (impl_isThere_p e y2.skater)).bind fun x57 =>
    cond (decide (x55 > (w64 (e.segment+1))) || (x57 && decide (x55 < e.segment)))
      (some false)
      (cond (decide (x55 > e.segment))
        ((opt (!(decide (x55 > e.segment))) default (impl_isThere_p e y2.skater)).bind fun x59 =>
        cond (decide (x55 > e.segment) || x59)
          ((need (fitsB 8 (v33.length+([y2.skater]).length))).bind fun u61 =>
          impl_isEventOrder_l1 e ys3 (k1+1) (v33++[y2.skater]) (w64 (v34+1)))
          (impl_isEventOrder_l1 e ys3 (k1+1) v33 (w64 (v34+1))))
        ((opt (!(decide (x55 > e.segment))) default (impl_isThere_p e y2.skater)).bind fun x63 =>
        cond (decide (x55 > e.segment) || x63)
          ((need (fitsB 8 (v33.length+([y2.skater]).length))).bind fun u65 =>
          impl_isEventOrder_l1 e ys3 (k1+1) (v33++[y2.skater]) v34)
          (impl_isEventOrder_l1 e ys3 (k1+1) v33 v34)))
def impl_isEventOrder_p (e:Event):Option Bool :=
  impl_isEventOrder_l1 e e.entrants 0 [] 0
theorem impl_isEventOrder_ok (e:Event) (r:Bool) (hH:impl_isEventOrder_p e=some r):SpecR Tryz.prog 57 [.g (encEvent e)] (.v (.bool r)):=by
 refine fn_ok T Tryz.func57 rfl (by decide) rfl ?_
 refine AW.seq (AW.region (AO.step rfl (box_ok T rfl 1 rfl rfl rfl rfl) ?_))
 refine AO.pu T ?_
 refine AO.nil (AW.seq (AW.region ?_))
 refine AO.step rfl (mk0_ok T rfl rfl rfl rfl) ?_
 iterate 2 refine AO.pu T ?_
 refine AO.nil ?_
 iterate 2 refine AW.seq ?_
 refine AW.region ?_
 iterate 2 refine AO.pu T ?_
 refine AO.val rfl rfl (len_map_ok T rfl rfl rfl) ?_
 refine AO.pu T ?_
 refine AO.nil (AW.block ?_)
 refine AW.loopS (fun s:Nat × (List Int) × Int=>(⟨[(1,.p 1 0),(3,.R 9),(4,s.2.2),(12,.s (List.map encEntrant e.entrants)),(13,(e.entrants.length:Int)),(14,(s.1:Int))],[(1,.box [e.segments,e.size,e.key,.s (List.map encEntrant e.entrants),.s (List.map encInt e.gone),e.segment,.s (List.map encInt e.order),.s (List.map encResult e.results)]),(9,.row 1 (List.map encInt s.2.1))],104,[]⟩:St)) (fun s=>s.1 ≤ e.entrants.length∧impl_isEventOrder_l1 e (e.entrants.drop s.1) s.1 s.2.1 s.2.2=some r) (fun s=>e.entrants.length - s.1) (0,[],0) ⟨Nat.zero_le _,hH⟩ ?_ ?_
 refine Le.trans (Le.void 3 9 1 rfl rfl) ?_
 exact Le.ct 0 0
 rintro ⟨k1,v33,v34⟩ ⟨hk,hH⟩
 replace hH:impl_isEventOrder_l1 e (e.entrants.drop k1) k1 v33 v34=some r:=hH
 try dsimp only
 refine AW.boundM (t:=12) (l:=e.entrants) rfl (fun hb5=>?_)
 rcases hd4:e.entrants.drop k1 with _ | ⟨y2,ys3⟩
 rw [hd4,impl_isEventOrder_l1] at hH
 have hlt6:=drop_ge hd4
 refine AW.seq (AW.region (AO.pu T ?_))
 refine AO.nil (AW.seq (AW.condF' (b:=decide ((k1:Int) < (e.entrants.length:Int))) rfl (rngF hlt6) ?_))
 refine AW.exit ?_
 iterate 2 refine AW.seq ?_
 refine AW.region ?_
 iterate 2 refine AO.pu T ?_
 refine AO.val rfl rfl (len_map_ok T rfl rfl rfl) ?_
 refine AO.pu T ?_
 refine AO.nil (AW.cond (b:=((e.order.length:Int) == 0)) rfl (fun hc=>?_) (fun hc=>?_))
 replace hH:=condT hc hH
 refine AW.seq (AW.region ?_)
 iterate 3 refine AO.pu T ?_
 refine AO.nil (AW.ret ?_)
 have hR:=someE hH;subst hR
 exact retQ.i [] rfl (.c (.c .v))
 replace hH:=condF hc hH
 refine AW.skip ?_
 iterate 2 refine AW.seq ?_
 obtain ⟨x36,hx37,hH⟩:=bindE hH
 obtain ⟨x38,hx39,hH⟩:=bindE hH
 obtain ⟨x40,hx41,hH⟩:=bindE hH
 refine AW.region ?_
 iterate 6 refine AO.pu T ?_
 iterate 2 refine AO.pureG T [] rfl trivial rfl rfl ?_
 refine AO.pureG T [74] rfl ⟨fun h=>h,trivial⟩ rfl rfl ?_
 refine AO.guard [75] rfl ⟨fun h=>h,trivial⟩ (fun hg=>len_map_ok T rfl rfl rfl) rfl ?_
 refine AO.pureG T [73,76] rfl ⟨fun h=>h,fun h=>h,trivial⟩ rfl rfl ?_
 refine AO.val rfl rfl (pick_or rfl rfl rfl rfl) ?_
 refine AO.pu T ?_
 refine AO.pureG T [] rfl trivial rfl rfl ?_
 refine AO.pureG T [80] rfl ⟨fun h=>h,trivial⟩ rfl rfl ?_
 refine AO.guard [81] rfl ⟨fun h=>h,trivial⟩ (fun hg=>callF_ok rfl rfl rfl rfl (impl_sortedInts_ok _ _ (optT hx37 hg)) (.c (.c (.map fun y=>.vs rfl)))) rfl ?_
 refine AO.pureG T [] rfl trivial rfl rfl ?_
 refine AO.guard [83] rfl ⟨fun h=>h,trivial⟩ (fun hg=>callLF_ok rfl rfl rfl (es:=[.s (List.map encInt v33)]) ⟨(.rowR rfl (.map fun y=>.vs rfl)),trivial⟩ (impl_sortedInts_ok _ _ (optT hx39 hg)) (zfree_map (fun y=>(.cons (zfree_v _) .nil))) (.c (.c (.map fun y=>.vs rfl)))) rfl ?_
 refine AO.guard [82,84] rfl ⟨fun h=>h,fun h=>h,trivial⟩ (fun hg=>callV_ok rfl rfl rfl rfl (slices_Equal_int_ok _ _ _ (optT hx41 hg)) rfl) rfl ?_
 refine AO.pureG T [85] rfl ⟨fun h=>h,trivial⟩ rfl rfl ?_
 refine AO.val rfl rfl (pick_or rfl rfl rfl rfl) ?_
 refine AO.nil (AW.le (Le.ct 0 0 (σ':=(⟨[(1,.p 1 0),(4,v34),(87,.v (.bool (((e.segment == e.segments) || (v34 == (e.order.length:Int))) || (!x40))))],[(1,.box [e.segments,e.size,e.key,.s (List.map encEntrant e.entrants),.s (List.map encInt e.gone),e.segment,.s (List.map encInt e.order),.s (List.map encResult e.results)])],104,[]⟩:St))) ?_)
 refine AW.cond (b:=(((e.segment == e.segments) || (v34 == (e.order.length:Int))) || (!x40))) rfl (fun hc=>?_) (fun hc=>?_)
 replace hH:=condT hc hH
 refine AW.seq (AW.region (AO.pu T ?_))
 refine AO.nil (AW.ret ?_)
 have hR:=someE hH;subst hR
 exact retQ.i [] rfl (.c (.c .v))
 replace hH:=condF hc hH
 refine AW.skip ?_
 iterate 2 refine AW.seq ?_
 refine AW.region ?_
 iterate 2 refine AO.pu T ?_
 refine AO.val rfl rfl (len_map_ok T rfl rfl rfl) ?_
 refine AO.pu T ?_
 refine AO.nil (AW.block ?_)
 refine AW.loopS (fun s:Nat=>(⟨[(1,.p 1 0),(4,v34),(89,.s (List.map encInt e.order)),(90,(e.order.length:Int)),(91,(s:Int))],[(1,.box [e.segments,e.size,e.key,.s (List.map encEntrant e.entrants),.s (List.map encInt e.gone),e.segment,.s (List.map encInt e.order),.s (List.map encResult e.results)])],104,[]⟩:St)) (fun s=>s ≤ e.order.length∧impl_isEventOrder_l2 e v34 (e.order.drop s) s=some r) (fun s=>e.order.length - s) 0 ⟨Nat.zero_le _,hH⟩ ?_ ?_
 exact Le.ct 0 0
 rintro k42 ⟨hk,hH⟩
 replace hH:impl_isEventOrder_l2 e v34 (e.order.drop k42) k42=some r:=hH
 try dsimp only
 refine AW.boundM (t:=89) (l:=e.order) rfl (fun hb46=>?_)
 rcases hd45:e.order.drop k42 with _ | ⟨y43,ys44⟩
 rw [hd45,impl_isEventOrder_l2] at hH
 have hlt47:=drop_ge hd45
 refine AW.seq (AW.region (AO.pu T ?_))
 refine AO.nil (AW.seq (AW.condF' (b:=decide ((k42:Int) < (e.order.length:Int))) rfl (rngF hlt47) ?_))
 refine AW.exit (AW.seq (AW.region ?_))
 refine AO.pu T ?_
 refine AO.nil (AW.ret ?_)
 have hR:=someE hH;subst hR
 exact retQ.i [] rfl (.c (.c .v))
 rw [hd45,impl_isEventOrder_l2] at hH
 have hlt47:=drop_lt hd45
 refine AW.seq (AW.region (AO.pu T ?_))
 refine AO.nil (AW.seq (AW.condT' (b:=decide ((k42:Int) < (e.order.length:Int))) rfl (rngT hlt47) ?_))
 refine AW.skip (AW.seq ?_)
 refine AW.block (AW.seq (AW.region ?_))
 refine AO.pu T ?_
 refine AO.val rfl rfl (ix_map_ok T rfl rfl rfl rfl rfl (getI_drop hd45) rfl) ?_
 iterate 3 refine AO.pu T ?_
 refine AO.nil (AW.seq ?_)
 obtain ⟨x53,hx54,hH⟩:=bindE hH
 refine AW.region (AO.pu T (d:=.g [e.segments,e.size,e.key,.s (List.map encEntrant e.entrants),.s (List.map encInt e.gone),e.segment,.s (List.map encInt e.order),.s (List.map encResult e.results)]) ?_)
 refine AO.pu T ?_
 refine AO.val rfl rfl (callV_ok rfl rfl rfl rfl (impl_isScored_ok _ _ _ (hx54)) rfl) ?_
 iterate 4 refine AO.pu T ?_
 refine AO.nil (AW.cond (b:=(!(x53 == decide ((k42:Int) < v34)))) rfl (fun hc=>?_) (fun hc=>?_))
 replace hH:=condT hc hH
 refine AW.seq (AW.region (AO.pu T ?_))
 refine AO.nil (AW.ret ?_)
 have hR:=someE hH;subst hR
 exact retQ.i [] rfl (.c (.c .v))
 replace hH:=condF hc hH
 refine AW.skip (AW.region ?_)
 refine AO.val rfl rfl (ar_ok rfl rfl rfl rfl (inI_succ hlt47 hb46)) ?_
 refine AO.pu T ?_
 refine AO.nil ?_
 refine ⟨k42+1,⟨Nat.succ_le_of_lt hlt47,(by rw [drop_succ_of hd45];exact hH)⟩,(by have:=hlt47;dsimp only;omega),?_⟩
 exact Le.ct 0 0
 rw [hd4,impl_isEventOrder_l1] at hH
 have hlt6:=drop_lt hd4
 refine AW.seq (AW.region (AO.pu T ?_))
 refine AO.nil (AW.seq (AW.condT' (b:=decide ((k1:Int) < (e.entrants.length:Int))) rfl (rngT hlt6) ?_))
 refine AW.skip (AW.seq ?_)
 refine AW.block (AW.seq (AW.region ?_))
 refine AO.val rfl rfl (ix_map_ok T rfl rfl rfl rfl rfl (getI_drop hd4) rfl) ?_
 refine AO.pu T (d:=.g [y2.skater,y2.rank]) ?_
 refine AO.step rfl (alloc_ok T rfl 12 rfl rfl rfl rfl rfl) ?_
 refine AO.se T [y2.skater,y2.rank] ?_
 refine AO.nil (AW.seq ?_)
 obtain ⟨x55,hx56,hH⟩:=bindE hH
 refine AW.region (AO.pu T (d:=.g [e.segments,e.size,e.key,.s (List.map encEntrant e.entrants),.s (List.map encInt e.gone),e.segment,.s (List.map encInt e.order),.s (List.map encResult e.results)]) ?_)
 iterate 2 refine AO.pu T ?_
 refine AO.val rfl rfl (callV_ok rfl rfl rfl rfl (impl_scoredIn_ok _ _ _ (hx56)) rfl) ?_
 refine AO.pu T ?_
 refine AO.nil ?_
 iterate 2 refine AW.seq ?_
 obtain ⟨x57,hx58,hH⟩:=bindE hH
 refine AW.region ?_
 iterate 3 refine AO.pu T ?_
 refine AO.val rfl rfl (arw_ok rfl rfl rfl rfl) ?_
 iterate 2 refine AO.pu T ?_
 refine AO.pureG T (d:=.g [e.segments,e.size,e.key,.s (List.map encEntrant e.entrants),.s (List.map encInt e.gone),e.segment,.s (List.map encInt e.order),.s (List.map encResult e.results)]) [] rfl trivial rfl rfl ?_
 refine AO.pureG T [] rfl trivial rfl rfl ?_
 refine AO.pureG T [29] rfl ⟨fun h=>h,trivial⟩ rfl rfl ?_
 refine AO.guard [28,30] rfl ⟨fun h=>h,fun h=>h,trivial⟩ (fun hg=>callV_ok rfl rfl rfl rfl (impl_isThere_ok _ _ _ (optT hx58 hg)) rfl) rfl ?_
 refine AO.pureG T [31] rfl ⟨fun h=>h,trivial⟩ rfl rfl ?_
 iterate 2 refine AO.pureG T [] rfl trivial rfl rfl ?_
 refine AO.pureG T [34] rfl ⟨fun h=>h,trivial⟩ rfl rfl ?_
 refine AO.pureG T [33,35] rfl ⟨fun h=>h,fun h=>h,trivial⟩ rfl rfl ?_
 refine AO.guard [32] rfl ⟨fun h=>h,trivial⟩ (fun hg=>pick_and rfl rfl rfl (by rw [hg];exact Bool.true_and _)) rfl ?_
 refine AO.val rfl rfl (pick_or rfl rfl rfl rfl) ?_
 refine AO.nil (AW.le (Le.ct 0 0 (σ':=(⟨[(1,.p 1 0),(3,.R 9),(4,v34),(6,.p 12 0),(7,x55),(12,.s (List.map encEntrant e.entrants)),(13,(e.entrants.length:Int)),(14,(k1:Int)),(38,.v (.bool (decide (x55 > (w64 (e.segment+1))) || (x57 && decide (x55 < e.segment)))))],[(1,.box [e.segments,e.size,e.key,.s (List.map encEntrant e.entrants),.s (List.map encInt e.gone),e.segment,.s (List.map encInt e.order),.s (List.map encResult e.results)]),(9,.row 1 (List.map encInt v33)),(12,.box [y2.skater,y2.rank])],104,[]⟩:St))) ?_)
 refine AW.cond (b:=(decide (x55 > (w64 (e.segment+1))) || (x57 && decide (x55 < e.segment)))) rfl (fun hc=>?_) (fun hc=>?_)
 replace hH:=condT hc hH
 refine AW.seq (AW.region (AO.pu T ?_))
 refine AO.nil (AW.ret ?_)
 have hR:=someE hH;subst hR
 exact retQ.i [] rfl (.c (.c .v))
 replace hH:=condF hc hH
 refine AW.skip ?_
 iterate 2 refine AW.seq ?_
 refine AW.region ?_
 iterate 4 refine AO.pu T ?_
 refine AO.nil (AW.cond (b:=decide (x55 > e.segment)) rfl (fun hc=>?_) (fun hc=>?_))
 replace hH:=condT hc hH
 refine AW.region (AO.pu T ?_)
 refine AO.val rfl rfl (arw_ok rfl rfl rfl rfl) ?_
 refine AO.pu T ?_
 refine AO.nil (AW.seq ?_)
 obtain ⟨x59,hx60,hH⟩:=bindE hH
 refine AW.region ?_
 iterate 5 refine AO.pu T ?_
 refine AO.pureG T (d:=.g [e.segments,e.size,e.key,.s (List.map encEntrant e.entrants),.s (List.map encInt e.gone),e.segment,.s (List.map encInt e.order),.s (List.map encResult e.results)]) [] rfl trivial rfl rfl ?_
 refine AO.pureG T [] rfl trivial rfl rfl ?_
 refine AO.pureG T [51] rfl ⟨fun h=>h,trivial⟩ rfl rfl ?_
 refine AO.guard [50,52] rfl ⟨fun h=>h,fun h=>h,trivial⟩ (fun hg=>callV_ok rfl rfl rfl rfl (impl_isThere_ok _ _ _ (optT hx60 hg)) rfl) rfl ?_
 refine AO.val rfl rfl (pick_or rfl rfl rfl rfl) ?_
 refine AO.nil (AW.cond (b:=(decide (x55 > e.segment) || x59)) rfl (fun hc=>?_) (fun hc=>?_))
 replace hH:=condT hc hH
 obtain ⟨u61,hx62,hH⟩:=bindE hH
 refine AW.region ?_
 iterate 3 refine AO.pu T ?_
 refine AO.step rfl (mk_map_ok T rfl 13 rfl rfl rfl rfl rfl (f:=encInt) (l:=[y2.skater]) rfl rfl (fun _=>rfl) rfl rfl rfl rfl rfl) ?_
 refine AO.step rfl (app_rv_map T rfl 14 rfl rfl rfl rfl rfl (by decide) rfl rfl rfl rfl (fun _=>rfl) (needT (hx62)) rfl rfl) ?_
 refine AO.pu T ?_
 refine AO.nil (AW.region ?_)
 refine AO.val rfl rfl (ar_ok rfl rfl rfl rfl (inI_succ hlt6 hb5)) ?_
 refine AO.pu T ?_
 refine AO.nil ?_
 refine ⟨(k1+1,(v33++[y2.skater]),w64 (v34+1)),⟨Nat.succ_le_of_lt hlt6,(by rw [drop_succ_of hd4];exact hH)⟩,(by have:=hlt6;dsimp only;omega),?_⟩
 exact Le.ct 14 9
 replace hH:=condF hc hH
 refine AW.skip (AW.region ?_)
 refine AO.val rfl rfl (ar_ok rfl rfl rfl rfl (inI_succ hlt6 hb5)) ?_
 refine AO.pu T ?_
 refine AO.nil ?_
 refine ⟨(k1+1,v33,w64 (v34+1)),⟨Nat.succ_le_of_lt hlt6,(by rw [drop_succ_of hd4];exact hH)⟩,(by have:=hlt6;dsimp only;omega),?_⟩
 exact Le.ct 0 0
 replace hH:=condF hc hH
 refine AW.skip (AW.seq ?_)
 obtain ⟨x63,hx64,hH⟩:=bindE hH
 refine AW.region ?_
 iterate 5 refine AO.pu T ?_
 refine AO.pureG T (d:=.g [e.segments,e.size,e.key,.s (List.map encEntrant e.entrants),.s (List.map encInt e.gone),e.segment,.s (List.map encInt e.order),.s (List.map encResult e.results)]) [] rfl trivial rfl rfl ?_
 refine AO.pureG T [] rfl trivial rfl rfl ?_
 refine AO.pureG T [51] rfl ⟨fun h=>h,trivial⟩ rfl rfl ?_
 refine AO.guard [50,52] rfl ⟨fun h=>h,fun h=>h,trivial⟩ (fun hg=>callV_ok rfl rfl rfl rfl (impl_isThere_ok _ _ _ (optT hx64 hg)) rfl) rfl ?_
 refine AO.val rfl rfl (pick_or rfl rfl rfl rfl) ?_
 refine AO.nil (AW.cond (b:=(decide (x55 > e.segment) || x63)) rfl (fun hc=>?_) (fun hc=>?_))
 replace hH:=condT hc hH
 obtain ⟨u65,hx66,hH⟩:=bindE hH
 refine AW.region ?_
 iterate 3 refine AO.pu T ?_
 refine AO.step rfl (mk_map_ok T rfl 15 rfl rfl rfl rfl rfl (f:=encInt) (l:=[y2.skater]) rfl rfl (fun _=>rfl) rfl rfl rfl rfl rfl) ?_
 refine AO.step rfl (app_rv_map T rfl 16 rfl rfl rfl rfl rfl (by decide) rfl rfl rfl rfl (fun _=>rfl) (needT (hx66)) rfl rfl) ?_
 refine AO.pu T ?_
 refine AO.nil (AW.region ?_)
 refine AO.val rfl rfl (ar_ok rfl rfl rfl rfl (inI_succ hlt6 hb5)) ?_
 refine AO.pu T ?_
 refine AO.nil ?_
 refine ⟨(k1+1,(v33++[y2.skater]),v34),⟨Nat.succ_le_of_lt hlt6,(by rw [drop_succ_of hd4];exact hH)⟩,(by have:=hlt6;dsimp only;omega),?_⟩
 exact Le.ct 16 9
 replace hH:=condF hc hH
 refine AW.skip (AW.region ?_)
 refine AO.val rfl rfl (ar_ok rfl rfl rfl rfl (inI_succ hlt6 hb5)) ?_
 refine AO.pu T ?_
 refine AO.nil ?_
 refine ⟨(k1+1,v33,v34),⟨Nat.succ_le_of_lt hlt6,(by rw [drop_succ_of hd4];exact hH)⟩,(by have:=hlt6;dsimp only;omega),?_⟩
 exact Le.ct 0 0

def impl_IsEvent_p (e:Event):Option Bool :=
  (impl_within_p e.segments 1 3).bind fun x1 =>
  (opt x1 default (impl_isGroupSize_p e.size)).bind fun x3 =>
  (opt (x1 && x3) default (impl_isKey_p e.key)).bind fun x5 =>
  (opt ((x1 && x3) && x5) default (impl_within_p e.segment 0 e.segments)).bind fun x7 =>
  (opt (((x1 && x3) && x5) && x7) default (impl_isOrder_p e.order)).bind fun x9 =>
  (opt ((((x1 && x3) && x5) && x7) && x9) default (impl_hasEntrants_p e)).bind fun x11 =>
  (opt (((((x1 && x3) && x5) && x7) && x9) && x11) default (impl_isEventOrder_p e)).bind fun x13 =>
  some ((((((x1 && x3) && x5) && x7) && x9) && x11) && x13)
theorem impl_IsEvent_ok (e:Event) (r:Bool) (hH:impl_IsEvent_p e=some r):SpecR Tryz.prog 15 [.g (encEvent e)] (.v (.bool r)):=by
 refine fn_ok T Tryz.func15 rfl (by decide) rfl ?_
 refine AW.seq (AW.region (AO.step rfl (box_ok T rfl 1 rfl rfl rfl rfl) ?_))
 refine AO.pu T ?_
 refine AO.nil (AW.seq ?_)
 obtain ⟨x1,hx2,hH⟩:=bindE hH
 obtain ⟨x3,hx4,hH⟩:=bindE hH
 obtain ⟨x5,hx6,hH⟩:=bindE hH
 obtain ⟨x7,hx8,hH⟩:=bindE hH
 obtain ⟨x9,hx10,hH⟩:=bindE hH
 obtain ⟨x11,hx12,hH⟩:=bindE hH
 obtain ⟨x13,hx14,hH⟩:=bindE hH
 refine AW.region ?_
 iterate 2 refine AO.pu T ?_
 refine AO.val rfl rfl (callV_ok rfl rfl rfl rfl (impl_within_ok _ _ _ _ (hx2)) rfl) ?_
 refine AO.pu T ?_
 refine AO.pureG T [] rfl trivial rfl rfl ?_
 refine AO.pureG T [7] rfl ⟨fun h=>h,trivial⟩ rfl rfl ?_
 refine AO.guard [8] rfl ⟨fun h=>h,trivial⟩ (fun hg=>callV_ok rfl rfl rfl rfl (impl_isGroupSize_ok _ _ (optT hx4 hg)) rfl) rfl ?_
 refine AO.val rfl rfl (pick_and rfl rfl rfl rfl) ?_
 refine AO.pu T ?_
 refine AO.pureG T [] rfl trivial rfl rfl ?_
 refine AO.pureG T [12] rfl ⟨fun h=>h,trivial⟩ rfl rfl ?_
 refine AO.guard [13] rfl ⟨fun h=>h,trivial⟩ (fun hg=>callV_ok rfl rfl rfl rfl (impl_isKey_ok _ _ (optT hx6 hg)) rfl) rfl ?_
 refine AO.val rfl rfl (pick_and rfl rfl rfl rfl) ?_
 refine AO.pu T ?_
 refine AO.pureG T [] rfl trivial rfl rfl ?_
 refine AO.pureG T [17] rfl ⟨fun h=>h,trivial⟩ rfl rfl ?_
 refine AO.pureG T [] rfl trivial rfl rfl ?_
 refine AO.pureG T [19] rfl ⟨fun h=>h,trivial⟩ rfl rfl ?_
 refine AO.guard [18,20] rfl ⟨fun h=>h,fun h=>h,trivial⟩ (fun hg=>callV_ok rfl rfl rfl rfl (impl_within_ok _ _ _ _ (optT hx8 hg)) rfl) rfl ?_
 refine AO.val rfl rfl (pick_and rfl rfl rfl rfl) ?_
 refine AO.pu T ?_
 refine AO.pureG T [] rfl trivial rfl rfl ?_
 refine AO.pureG T [24] rfl ⟨fun h=>h,trivial⟩ rfl rfl ?_
 refine AO.guard [25] rfl ⟨fun h=>h,trivial⟩ (fun hg=>callV_ok rfl rfl rfl rfl (impl_isOrder_ok _ _ (optT hx10 hg)) rfl) rfl ?_
 refine AO.val rfl rfl (pick_and rfl rfl rfl rfl) ?_
 refine AO.pu T ?_
 refine AO.pureG T (d:=.g [e.segments,e.size,e.key,.s (List.map encEntrant e.entrants),.s (List.map encInt e.gone),e.segment,.s (List.map encInt e.order),.s (List.map encResult e.results)]) [] rfl trivial rfl rfl ?_
 refine AO.guard [29] rfl ⟨fun h=>h,trivial⟩ (fun hg=>callV_ok rfl rfl rfl rfl (impl_hasEntrants_ok _ _ (optT hx12 hg)) rfl) rfl ?_
 refine AO.val rfl rfl (pick_and rfl rfl rfl rfl) ?_
 refine AO.pu T ?_
 refine AO.pureG T (d:=.g [e.segments,e.size,e.key,.s (List.map encEntrant e.entrants),.s (List.map encInt e.gone),e.segment,.s (List.map encInt e.order),.s (List.map encResult e.results)]) [] rfl trivial rfl rfl ?_
 refine AO.guard [33] rfl ⟨fun h=>h,trivial⟩ (fun hg=>callV_ok rfl rfl rfl rfl (impl_isEventOrder_ok _ _ (optT hx14 hg)) rfl) rfl ?_
 refine AO.val rfl rfl (pick_and rfl rfl rfl rfl) ?_
 refine AO.pu T ?_
 refine AO.nil (AW.le (Le.ct 0 0 (σ':=(⟨[(2,.v (.bool ((((((x1 && x3) && x5) && x7) && x9) && x11) && x13)))],[],36,[]⟩:St))) ?_)
 refine AW.ret ?_
 have hR:=someE hH;subst hR
 exact retQ.i [] rfl (.c (.c .v))

def impl_isRunning_p (e:Event):Option Bool :=
  (impl_IsEvent_p e).bind fun x1 =>
  some (x1 && decide (e.segment < e.segments))
theorem impl_isRunning_ok (e:Event) (r:Bool) (hH:impl_isRunning_p e=some r):SpecR Tryz.prog 38 [.g (encEvent e)] (.v (.bool r)):=by
 refine fn_ok T Tryz.func38 rfl (by decide) rfl ?_
 refine AW.seq (AW.region (AO.step rfl (box_ok T rfl 1 rfl rfl rfl rfl) ?_))
 refine AO.pu T ?_
 refine AO.nil (AW.seq ?_)
 obtain ⟨x1,hx2,hH⟩:=bindE hH
 refine AW.region (AO.pu T (d:=.g [e.segments,e.size,e.key,.s (List.map encEntrant e.entrants),.s (List.map encInt e.gone),e.segment,.s (List.map encInt e.order),.s (List.map encResult e.results)]) ?_)
 refine AO.val rfl rfl (callV_ok rfl rfl rfl rfl (impl_IsEvent_ok _ _ (hx2)) rfl) ?_
 refine AO.pu T ?_
 refine AO.pureG T [] rfl trivial rfl rfl ?_
 refine AO.pureG T [6] rfl ⟨fun h=>h,trivial⟩ rfl rfl ?_
 refine AO.pureG T [] rfl trivial rfl rfl ?_
 refine AO.pureG T [8] rfl ⟨fun h=>h,trivial⟩ rfl rfl ?_
 refine AO.pureG T [7,9] rfl ⟨fun h=>h,fun h=>h,trivial⟩ rfl rfl ?_
 refine AO.val rfl rfl (pick_and rfl rfl rfl rfl) ?_
 refine AO.pu T ?_
 refine AO.nil (AW.ret ?_)
 have hR:=someE hH;subst hR
 exact retQ.i [] rfl (.c (.c .v))

def impl_AllowedSteps_c1_p (x:Entrant) (a:Event):Option Bool :=
  (impl_isThere_p a x.skater).bind fun x1 =>
  some x1
theorem impl_AllowedSteps_c1_ok (x:Entrant) (a:Event) (r:Bool) (hH:impl_AllowedSteps_c1_p x a=some r):SpecR Tryz.prog 40 [.g (encEntrant x),.q (encEvent a)] (.v (.bool r)):=by
 refine fn_ok T Tryz.func40 rfl (by decide) rfl ?_
 refine AW.seq (AW.region (AO.step rfl (box_ok T rfl 1 rfl rfl rfl rfl) ?_))
 refine AO.pu T ?_
 refine AO.nil (AW.seq ?_)
 obtain ⟨x1,hx2,hH⟩:=bindE hH
 refine AW.region (AO.pu T (d:=.g [a.segments,a.size,a.key,.s (List.map encEntrant a.entrants),.s (List.map encInt a.gone),a.segment,.s (List.map encInt a.order),.s (List.map encResult a.results)]) ?_)
 iterate 2 refine AO.pu T ?_
 refine AO.val rfl rfl (callV_ok rfl rfl rfl rfl (impl_isThere_ok _ _ _ (hx2)) rfl) ?_
 refine AO.pu T ?_
 refine AO.nil (AW.ret ?_)
 have hR:=someE hH;subst hR
 exact retQ.i [] rfl (.c (.c .v))

def impl_signOf_p (n:Int):Option Int :=
  cond (decide (n > 0))
    (some 1)
    (cond (decide (n < 0))
      (some (-1))
      (some 0))
theorem impl_signOf_ok (n:Int) (r:Int) (hH:impl_signOf_p n=some r):SpecR Tryz.prog 150 [n] (.v (.int .i64 r)):=by
 refine fn_ok T Tryz.func150 rfl (by decide) rfl ?_
 refine AW.seq (AW.region (AO.pu T ?_))
 refine AO.nil (AW.seq (AW.block ?_))
 refine AW.seq (AW.region ?_)
 iterate 3 refine AO.pu T ?_
 refine AO.nil (AW.cond (b:=decide (n > 0)) rfl (fun hc=>?_) (fun hc=>?_))
 replace hH:=condT hc hH
 refine AW.seq (AW.region (AO.pu T ?_))
 refine AO.nil (AW.ret ?_)
 have hR:=someE hH;subst hR
 exact retQ.i [] rfl (.c (.c .v))
 replace hH:=condF hc hH
 refine AW.seq (AW.region ?_)
 iterate 3 refine AO.pu T ?_
 refine AO.nil (AW.cond (b:=decide (n < 0)) rfl (fun hc=>?_) (fun hc=>?_))
 replace hH:=condT hc hH
 refine AW.seq (AW.region (AO.pu T ?_))
 refine AO.nil (AW.ret ?_)
 have hR:=someE hH;subst hR
 exact retQ.i [] rfl (.c (.c .v))
 replace hH:=condF hc hH
 refine AW.skip (AW.seq (AW.region ?_))
 refine AO.pu T ?_
 refine AO.nil (AW.ret ?_)
 have hR:=someE hH;subst hR
 exact retQ.i [] rfl (.c (.c .v))

def impl_compareResults_l1 (a:Result) (b:Result):Nat→Int→Option Int
  | 0,_=>none
  | k9+1,v23 =>
    cond (decide (v23 ≥ 0))
      ((getI a.scores v23).bind fun x25 =>
      (getI b.scores v23).bind fun x27 =>
      cond (x25 != x27)
        ((impl_signOf_p (w64 (x25 - x27))).bind fun x29 =>
        some x29)
        (impl_compareResults_l1 a b k9 (w64 (v23 - 1))))
      (some 0)
def impl_compareResults_p (fuel:Nat) (a:Result) (b:Result):Option Int :=
  (impl_totalOf_p a).bind fun x1 =>
  (impl_totalOf_p b).bind fun x3 =>
  cond (x1.2 != x3.2)
    ((impl_signOf_p (w64 (x1.2 - x3.2))).bind fun x5 =>
    some x5)
    (cond (x1.1 != x3.1)
      ((impl_signOf_p (w64 (x1.1 - x3.1))).bind fun x7 =>
      some x7)
      (impl_compareResults_l1 a b fuel (w64 ((a.scores.length:Int) - 1))))
theorem impl_compareResults_ok (fuel:Nat) (a:Result) (b:Result) (r:Int) (hH:impl_compareResults_p fuel a b=some r):SpecR Tryz.prog 114 [.g (encResult a),.g (encResult b)] (.v (.int .i64 r)):=by
 refine fn_ok T Tryz.func114 rfl (by decide) rfl ?_
 refine AW.seq (AW.region (AO.step rfl (box_ok T rfl 1 rfl rfl rfl rfl) ?_))
 refine AO.step rfl (box_ok T rfl 2 rfl rfl rfl rfl) ?_
 refine AO.pu T ?_
 refine AO.nil (AW.seq ?_)
 obtain ⟨x1,hx2,hH⟩:=bindE hH
 refine AW.region (AO.pu T (d:=.g [a.skater,.s (List.map encInt a.scores)]) ?_)
 refine AO.val rfl rfl (callV_ok rfl rfl rfl rfl (impl_totalOf_ok _ _ (hx2)) rfl) ?_
 iterate 5 refine AO.pu T ?_
 refine AO.nil (AW.seq ?_)
 obtain ⟨x3,hx4,hH⟩:=bindE hH
 refine AW.region (AO.pu T (d:=.g [b.skater,.s (List.map encInt b.scores)]) ?_)
 refine AO.val rfl rfl (callV_ok rfl rfl rfl rfl (impl_totalOf_ok _ _ (hx4)) rfl) ?_
 iterate 5 refine AO.pu T ?_
 refine AO.nil ?_
 iterate 2 refine AW.seq ?_
 refine AW.region ?_
 iterate 3 refine AO.pu T ?_
 refine AO.nil (AW.cond (b:=(x1.2 != x3.2)) rfl (fun hc=>?_) (fun hc=>?_))
 replace hH:=condT hc hH
 refine AW.seq ?_
 obtain ⟨x5,hx6,hH⟩:=bindE hH
 refine AW.region ?_
 iterate 2 refine AO.pu T ?_
 refine AO.val rfl rfl (arw_ok rfl rfl rfl rfl) ?_
 refine AO.val rfl rfl (callV_ok rfl rfl rfl rfl (impl_signOf_ok _ _ (hx6)) rfl) ?_
 refine AO.pu T ?_
 refine AO.nil (AW.le (Le.ct 0 0 (σ':=(⟨[(4,x5)],[],65,[]⟩:St))) ?_)
 refine AW.ret ?_
 have hR:=someE hH;subst hR
 exact retQ.i [] rfl (.c (.c .v))
 replace hH:=condF hc hH
 refine AW.skip ?_
 iterate 2 refine AW.seq ?_
 refine AW.region ?_
 iterate 3 refine AO.pu T ?_
 refine AO.nil (AW.cond (b:=(x1.1 != x3.1)) rfl (fun hc=>?_) (fun hc=>?_))
 replace hH:=condT hc hH
 refine AW.seq ?_
 obtain ⟨x7,hx8,hH⟩:=bindE hH
 refine AW.region ?_
 iterate 2 refine AO.pu T ?_
 refine AO.val rfl rfl (arw_ok rfl rfl rfl rfl) ?_
 refine AO.val rfl rfl (callV_ok rfl rfl rfl rfl (impl_signOf_ok _ _ (hx8)) rfl) ?_
 refine AO.pu T ?_
 refine AO.nil (AW.le (Le.ct 0 0 (σ':=(⟨[(4,x7)],[],65,[]⟩:St))) ?_)
 refine AW.ret ?_
 have hR:=someE hH;subst hR
 exact retQ.i [] rfl (.c (.c .v))
 replace hH:=condF hc hH
 refine AW.skip ?_
 iterate 2 refine AW.seq ?_
 refine AW.region ?_
 iterate 2 refine AO.pu T ?_
 refine AO.val rfl rfl (len_map_ok T rfl rfl rfl) ?_
 refine AO.val rfl rfl (arw_ok rfl rfl rfl rfl) ?_
 refine AO.pu T ?_
 refine AO.nil (AW.le (Le.ct 0 0 (σ':=(⟨[(2,.p 1 0),(3,.p 2 0),(9,w64 ((a.scores.length:Int) - 1))],[(1,.box [a.skater,.s (List.map encInt a.scores)]),(2,.box [b.skater,.s (List.map encInt b.scores)])],65,[]⟩:St))) ?_)
 refine AW.block (AW.loopS (fun s:Nat × Int=>(⟨[(2,.p 1 0),(3,.p 2 0),(9,s.2)],[(1,.box [a.skater,.s (List.map encInt a.scores)]),(2,.box [b.skater,.s (List.map encInt b.scores)])],65,[]⟩:St)) (fun s=>impl_compareResults_l1 a b s.1 s.2=some r) (fun s=>s.1) (fuel,w64 ((a.scores.length:Int) - 1)) hH ?_ ?_)
 exact Le.ct 0 0
 rintro ⟨k9,v23⟩ hH
 replace hH:impl_compareResults_l1 a b k9 v23=some r:=hH
 try dsimp only
 rcases k9 with _ | k9
 cases (show none=some _ from hH)
 rw [impl_compareResults_l1] at hH
 iterate 2 refine AW.seq ?_
 refine AW.region ?_
 iterate 2 refine AO.pu T ?_
 refine AO.nil (AW.cond (b:=decide (v23 ≥ 0)) rfl (fun hc=>?_) (fun hc=>?_))
 replace hH:=condT hc hH
 refine AW.skip (AW.seq ?_)
 refine AW.block (AW.seq ?_)
 obtain ⟨x25,hx26,hH⟩:=bindE hH
 obtain ⟨x27,hx28,hH⟩:=bindE hH
 refine AW.drawn 10 3 [] mix (by kernel_rfl) rfl ?_
 iterate 3 refine AD.pure T rfl rfl rfl ?_
 refine AD.val rfl rfl (ix_map_ok T rfl rfl rfl rfl rfl (hx26) rfl) ?_
 iterate 4 refine AD.pure T rfl rfl rfl ?_
 refine AD.val rfl rfl (ix_map_ok T rfl rfl rfl rfl rfl (hx28) rfl) ?_
 refine AD.pure T rfl rfl rfl ?_
 refine AD.nil (AO.pu T ?_)
 refine AO.nil (AW.cond (b:=(x25 != x27)) rfl (fun hc=>?_) (fun hc=>?_))
 replace hH:=condT hc hH
 refine AW.seq ?_
 obtain ⟨x29,hx30,hH⟩:=bindE hH
 refine AW.drawn 10 3 [] mix (by kernel_rfl) rfl ?_
 iterate 3 refine AD.pure T rfl rfl rfl ?_
 refine AD.val rfl rfl (ix_map_ok T rfl rfl rfl rfl rfl (hx26) rfl) ?_
 iterate 4 refine AD.pure T rfl rfl rfl ?_
 refine AD.val rfl rfl (ix_map_ok T rfl rfl rfl rfl rfl (hx28) rfl) ?_
 refine AD.pure T rfl rfl rfl ?_
 refine AD.nil (AO.val rfl rfl (arw_ok rfl rfl rfl rfl) ?_)
 refine AO.val rfl rfl (callV_ok rfl rfl rfl rfl (impl_signOf_ok _ _ (hx30)) rfl) ?_
 refine AO.pu T ?_
 refine AO.nil (AW.le (Le.ct 0 0 (σ':=(⟨[(4,x29)],[],65,[]⟩:St))) ?_)
 refine AW.ret ?_
 have hR:=someE hH;subst hR
 exact retQ.i [] rfl (.c (.c .v))
 replace hH:=condF hc hH
 refine AW.skip (AW.region ?_)
 refine AO.pu T ?_
 refine AO.val rfl rfl (arw_ok rfl rfl rfl rfl) ?_
 refine AO.pu T ?_
 refine AO.nil ?_
 refine ⟨(k9,w64 (v23 - 1)),hH,Nat.lt_succ_self _,?_⟩
 exact Le.ct 0 0
 replace hH:=condF hc hH
 refine AW.exit (AW.seq (AW.region ?_))
 refine AO.pu T ?_
 refine AO.nil (AW.ret ?_)
 have hR:=someE hH;subst hR
 exact retQ.i [] rfl (.c (.c .v))

def impl_placeOf_l1 (l:List Result) (i:Int) (fuel:Nat):List Result→Nat→Int→Option Int
  | [],k1,v16 =>
    some v16
  | y2::ys3,k1,v16 =>
    (getI l i).bind fun x18 =>
    (impl_compareResults_p fuel y2 x18).bind fun x20 =>
    cond (decide (x20 > 0))
      (impl_placeOf_l1 l i fuel ys3 (k1+1) (w64 (v16+1)))
      (impl_placeOf_l1 l i fuel ys3 (k1+1) v16)
def impl_placeOf_p (fuel:Nat) (l:List Result) (i:Int):Option Int :=
  impl_placeOf_l1 l i fuel l 0 1
theorem impl_placeOf_ok (fuel:Nat) (l:List Result) (i:Int) (r:Int) (hH:impl_placeOf_p fuel l i=some r):SpecR Tryz.prog 73 [.s (List.map encResult l),i] (.v (.int .i64 r)):=by
 refine fn_ok T Tryz.func73 rfl (by decide) rfl ?_
 refine AW.seq (AW.region (AO.pu T ?_))
 refine AO.nil (AW.seq (AW.region ?_))
 refine AO.pu T ?_
 refine AO.nil ?_
 iterate 2 refine AW.seq ?_
 refine AW.region (AO.pu T ?_)
 refine AO.val rfl rfl (len_map_ok T rfl rfl rfl) ?_
 refine AO.pu T ?_
 refine AO.nil (AW.block ?_)
 refine AW.loopS (fun s:Nat × Int=>(⟨[(0,.s (List.map encResult l)),(1,i),(5,s.2),(8,.s (List.map encResult l)),(9,(l.length:Int)),(10,(s.1:Int))],[],25,[]⟩:St)) (fun s=>s.1 ≤ l.length∧impl_placeOf_l1 l i fuel (l.drop s.1) s.1 s.2=some r) (fun s=>l.length - s.1) (0,1) ⟨Nat.zero_le _,hH⟩ ?_ ?_
 exact Le.ct 0 0
 rintro ⟨k1,v16⟩ ⟨hk,hH⟩
 replace hH:impl_placeOf_l1 l i fuel (l.drop k1) k1 v16=some r:=hH
 try dsimp only
 refine AW.boundM (t:=0) (l:=l) rfl (fun hb5=>?_)
 rcases hd4:l.drop k1 with _ | ⟨y2,ys3⟩
 rw [hd4,impl_placeOf_l1] at hH
 have hlt6:=drop_ge hd4
 refine AW.seq (AW.region (AO.pu T ?_))
 refine AO.nil (AW.seq (AW.condF' (b:=decide ((k1:Int) < (l.length:Int))) rfl (rngF hlt6) ?_))
 refine AW.exit (AW.seq (AW.region ?_))
 iterate 2 refine AO.pu T ?_
 refine AO.nil (AW.ret ?_)
 have hR:=someE hH;subst hR
 exact retQ.i [] rfl (.c (.c .v))
 rw [hd4,impl_placeOf_l1] at hH
 have hlt6:=drop_lt hd4
 refine AW.seq (AW.region (AO.pu T ?_))
 refine AO.nil (AW.seq (AW.condT' (b:=decide ((k1:Int) < (l.length:Int))) rfl (rngT hlt6) ?_))
 refine AW.skip (AW.seq ?_)
 refine AW.block (AW.seq (AW.region ?_))
 refine AO.val rfl rfl (ix_map_ok T rfl rfl rfl rfl rfl (getI_drop hd4) rfl) ?_
 refine AO.pu T (d:=.g [y2.skater,.s (List.map encInt y2.scores)]) ?_
 refine AO.step rfl (alloc_ok T rfl 3 rfl rfl rfl rfl rfl) ?_
 refine AO.se T [y2.skater,.s (List.map encInt y2.scores)] ?_
 refine AO.nil (AW.seq ?_)
 obtain ⟨x18,hx19,hH⟩:=bindE hH
 obtain ⟨x20,hx21,hH⟩:=bindE hH
 refine AW.drawn 5 4 [] mix (by kernel_rfl) rfl ?_
 refine AD.pure T (d:=.g [y2.skater,.s (List.map encInt y2.scores)]) rfl rfl rfl ?_
 iterate 2 refine AD.pure T rfl rfl rfl ?_
 refine AD.val rfl rfl (ix_map_ok T rfl rfl rfl rfl rfl (hx19) rfl) ?_
 refine AD.pure T (d:=.g [x18.skater,.s (List.map encInt x18.scores)]) rfl rfl rfl ?_
 refine AD.nil (AO.val rfl rfl (callV_ok rfl rfl rfl rfl (impl_compareResults_ok fuel _ _ _ (hx21)) rfl) ?_)
 refine AO.pu T ?_
 refine AO.nil (AW.cond (b:=decide (x20 > 0)) rfl (fun hc=>?_) (fun hc=>?_))
 replace hH:=condT hc hH
 refine AW.region (AO.pu T ?_)
 refine AO.val rfl rfl (arw_ok rfl rfl rfl rfl) ?_
 refine AO.pu T ?_
 refine AO.nil (AW.region ?_)
 refine AO.val rfl rfl (ar_ok rfl rfl rfl rfl (inI_succ hlt6 hb5)) ?_
 refine AO.pu T ?_
 refine AO.nil ?_
 refine ⟨(k1+1,w64 (v16+1)),⟨Nat.succ_le_of_lt hlt6,(by rw [drop_succ_of hd4];exact hH)⟩,(by have:=hlt6;dsimp only;omega),?_⟩
 exact Le.ct 0 0
 replace hH:=condF hc hH
 refine AW.skip (AW.region ?_)
 refine AO.val rfl rfl (ar_ok rfl rfl rfl rfl (inI_succ hlt6 hb5)) ?_
 refine AO.pu T ?_
 refine AO.nil ?_
 refine ⟨(k1+1,v16),⟨Nat.succ_le_of_lt hlt6,(by rw [drop_succ_of hd4];exact hH)⟩,(by have:=hlt6;dsimp only;omega),?_⟩
 exact Le.ct 0 0

def slices_SortFunc_Entrant_p (x:List Entrant) (cmp:Entrant→Entrant→Option Int):Option (List Entrant):=sortF cmp x
theorem slices_SortFunc_Entrant_ok (x:List Entrant) (cmp_f:Nat) (cmp_c:List D) (cmp_k:cmp_c.all D.capOk=true) (cmp:Entrant→Entrant→Option Int) (cmp_h:∀ (a0 a1:Entrant) (q:Int),cmp a0 a1=some q→SpecR Tryz.prog cmp_f ([.g (encEntrant a0),.g (encEntrant a1)]++cmp_c) (.v (.int .i64 q))) (r:List Entrant) (hH:slices_SortFunc_Entrant_p x cmp=some r):SpecM Tryz.prog 174 [.w 2 (x.map encEntrant),.f cmp_f cmp_c] [.w 2 (r.map encEntrant),.u] (.t []) :=
  spec_sortF ⟨_,Tryz.func174,rfl,by decide⟩ (fun enc hk h1 cf hO cb blk off cap d w eg=>AnyQ.slices_SortFunc Tryz.sortF174 2 Tryz.isAgg46 Tryz.sizeOf46 enc hk h1 cf hO cmp_f cb blk off cap d w eg) (fun p cap cb w=>AnyF.slices_SortFunc_none Tryz.sortF174 p cap _ w) encEntrant (fun _=>rfl) (fun _=>rfl) cmp_c (cap_sc cmp_k) cmp x r cmp_h hH

def impl_compareBehind_p (x:Entrant) (y:Entrant):Option Int :=
  cond ((x.rank == 0) && (y.rank == 0))
    (some (w64 (y.skater - x.skater)))
    (cond (x.rank == 0)
      (some (-1))
      (cond (y.rank == 0)
        (some 1)
        (some (w64 (y.rank - x.rank)))))
theorem impl_compareBehind_ok (x:Entrant) (y:Entrant) (r:Int) (hH:impl_compareBehind_p x y=some r):SpecR Tryz.prog 175 [.g (encEntrant x),.g (encEntrant y)] (.v (.int .i64 r)):=by
 refine fn_ok T Tryz.func175 rfl (by decide) rfl ?_
 refine AW.seq (AW.region (AO.step rfl (box_ok T rfl 1 rfl rfl rfl rfl) ?_))
 refine AO.step rfl (box_ok T rfl 2 rfl rfl rfl rfl) ?_
 refine AO.pu T ?_
 refine AO.nil (AW.seq (AW.block ?_))
 refine AW.seq (AW.region ?_)
 iterate 4 refine AO.pu T ?_
 refine AO.pureG T [] rfl trivial rfl rfl ?_
 refine AO.pureG T [10] rfl ⟨fun h=>h,trivial⟩ rfl rfl ?_
 refine AO.pureG T [11] rfl ⟨fun h=>h,trivial⟩ rfl rfl ?_
 refine AO.val rfl rfl (pick_and rfl rfl rfl rfl) ?_
 refine AO.pu T ?_
 refine AO.nil (AW.cond (b:=((x.rank == 0) && (y.rank == 0))) rfl (fun hc=>?_) (fun hc=>?_))
 replace hH:=condT hc hH
 refine AW.seq (AW.region ?_)
 iterate 4 refine AO.pu T ?_
 refine AO.val rfl rfl (arw_ok rfl rfl rfl rfl) ?_
 refine AO.pu T ?_
 refine AO.nil (AW.ret ?_)
 have hR:=someE hH;subst hR
 exact retQ.i [] rfl (.c (.c .v))
 replace hH:=condF hc hH
 refine AW.seq (AW.region ?_)
 iterate 4 refine AO.pu T ?_
 refine AO.nil (AW.cond (b:=(x.rank == 0)) rfl (fun hc=>?_) (fun hc=>?_))
 replace hH:=condT hc hH
 refine AW.seq (AW.region (AO.pu T ?_))
 refine AO.nil (AW.ret ?_)
 have hR:=someE hH;subst hR
 exact retQ.i [] rfl (.c (.c .v))
 replace hH:=condF hc hH
 refine AW.seq (AW.region ?_)
 iterate 4 refine AO.pu T ?_
 refine AO.nil (AW.cond (b:=(y.rank == 0)) rfl (fun hc=>?_) (fun hc=>?_))
 replace hH:=condT hc hH
 refine AW.seq (AW.region (AO.pu T ?_))
 refine AO.nil (AW.ret ?_)
 have hR:=someE hH;subst hR
 exact retQ.i [] rfl (.c (.c .v))
 replace hH:=condF hc hH
 refine AW.skip (AW.seq (AW.region ?_))
 iterate 4 refine AO.pu T ?_
 refine AO.val rfl rfl (arw_ok rfl rfl rfl rfl) ?_
 refine AO.pu T ?_
 refine AO.nil (AW.le (Le.ct 0 0 (σ':=(⟨[(4,w64 (y.rank - x.rank))],[],32,[]⟩:St))) ?_)
 refine AW.ret ?_
 have hR:=someE hH;subst hR
 exact retQ.i [] rfl (.c (.c .v))

def impl_evenSizes_l1 (n:Int) (groups:Int):Nat→List Int→Int→Option ((List Int))
  | 0,_,_=>none
  | k1+1,v16,v17 =>
    cond (decide (v17 < groups))
      ((need (groups != 0)).bind fun u19 =>
      cond (decide (v17 < (n.tmod groups)))
        ((need (fitsB 8 (v16.length+([w64 ((w64 (n.tdiv groups))+1)]).length))).bind fun u21 =>
        impl_evenSizes_l1 n groups k1 (v16++[w64 ((w64 (n.tdiv groups))+1)]) (w64 (v17+1)))
        ((need (fitsB 8 (v16.length+([w64 (n.tdiv groups)]).length))).bind fun u23 =>
        impl_evenSizes_l1 n groups k1 (v16++[w64 (n.tdiv groups)]) (w64 (v17+1))))
      (some v16)
def impl_evenSizes_p (fuel:Nat) (n:Int) (groups:Int):Option (List Int) :=
  impl_evenSizes_l1 n groups fuel [] 0
theorem impl_evenSizes_ok (fuel:Nat) (n:Int) (groups:Int) (r:(List Int)) (hH:impl_evenSizes_p fuel n groups=some r):SpecR Tryz.prog 176 [n,groups] (.w 1 (r.map encInt)):=by
 refine fn_ok T Tryz.func176 rfl (by decide) rfl ?_
 refine AW.seq (AW.region (AO.pu T ?_))
 refine AO.nil (AW.seq (AW.region ?_))
 refine AO.step rfl (mk0_ok T rfl rfl rfl rfl) ?_
 refine AO.pu T ?_
 refine AO.nil ?_
 iterate 2 refine AW.seq ?_
 refine AW.region ?_
 iterate 2 refine AO.pu T ?_
 refine AO.nil (AW.block ?_)
 refine AW.loopS (fun s:Nat × (List Int) × Int=>(⟨[(0,n),(1,groups),(5,.R 6),(9,groups),(10,s.2.2)],[(6,.row 1 (List.map encInt s.2.1))],29,[]⟩:St)) (fun s=>impl_evenSizes_l1 n groups s.1 s.2.1 s.2.2=some r) (fun s=>s.1) (fuel,[],0) hH ?_ ?_
 refine Le.trans (Le.void 5 6 1 rfl rfl) ?_
 exact Le.ct 0 0
 rintro ⟨k1,v16,v17⟩ hH
 replace hH:impl_evenSizes_l1 n groups k1 v16 v17=some r:=hH
 try dsimp only
 rcases k1 with _ | k1
 cases (show none=some _ from hH)
 rw [impl_evenSizes_l1] at hH
 refine AW.seq (AW.region (AO.pu T ?_))
 refine AO.nil (AW.seq (AW.cond (b:=decide (v17 < groups)) rfl (fun hc=>?_) (fun hc=>?_)))
 replace hH:=condT hc hH
 refine AW.skip (AW.seq ?_)
 refine AW.block (AW.seq (AW.region ?_))
 iterate 2 refine AO.pu T ?_
 refine AO.nil (AW.seq ?_)
 obtain ⟨u19,hx20,hH⟩:=bindE hH
 refine AW.region ?_
 iterate 2 refine AO.pu T ?_
 refine AO.val rfl rfl (quow_ok rfl rfl rfl (neZ (needT (hx20)))) ?_
 refine AO.pu T ?_
 refine AO.nil ?_
 iterate 2 refine AW.seq ?_
 refine AW.region ?_
 iterate 3 refine AO.pu T ?_
 refine AO.val rfl rfl (rem_ok rfl rfl rfl (neZ (needT (hx20)))) ?_
 refine AO.pu T ?_
 refine AO.nil (AW.cond (b:=decide (v17 < (n.tmod groups))) rfl (fun hc=>?_) (fun hc=>?_))
 replace hH:=condT hc hH
 refine AW.region (AO.pu T ?_)
 refine AO.val rfl rfl (arw_ok rfl rfl rfl rfl) ?_
 refine AO.pu T ?_
 refine AO.nil ?_
 obtain ⟨u21,hx22,hH⟩:=bindE hH
 refine AW.region ?_
 iterate 2 refine AO.pu T ?_
 refine AO.step rfl (mk_map_ok T rfl 9 rfl rfl rfl rfl rfl (f:=encInt) (l:=[w64 ((w64 (n.tdiv groups))+1)]) rfl rfl (fun _=>rfl) rfl rfl rfl rfl rfl) ?_
 refine AO.step rfl (app_rv_map T rfl 10 rfl rfl rfl rfl rfl (by decide) rfl rfl rfl rfl (fun _=>rfl) (needT (hx22)) rfl rfl) ?_
 refine AO.pu T ?_
 refine AO.nil (AW.region ?_)
 refine AO.val rfl rfl (arw_ok rfl rfl rfl rfl) ?_
 refine AO.pu T ?_
 refine AO.nil ?_
 refine ⟨(k1,(v16++[w64 ((w64 (n.tdiv groups))+1)]),w64 (v17+1)),hH,Nat.lt_succ_self _,?_⟩
 exact Le.ct 10 6
 replace hH:=condF hc hH
 refine AW.skip ?_
 obtain ⟨u23,hx24,hH⟩:=bindE hH
 refine AW.region ?_
 iterate 2 refine AO.pu T ?_
 refine AO.step rfl (mk_map_ok T rfl 11 rfl rfl rfl rfl rfl (f:=encInt) (l:=[w64 (n.tdiv groups)]) rfl rfl (fun _=>rfl) rfl rfl rfl rfl rfl) ?_
 refine AO.step rfl (app_rv_map T rfl 12 rfl rfl rfl rfl rfl (by decide) rfl rfl rfl rfl (fun _=>rfl) (needT (hx24)) rfl rfl) ?_
 refine AO.pu T ?_
 refine AO.nil (AW.region ?_)
 refine AO.val rfl rfl (arw_ok rfl rfl rfl rfl) ?_
 refine AO.pu T ?_
 refine AO.nil ?_
 refine ⟨(k1,(v16++[w64 (n.tdiv groups)]),w64 (v17+1)),hH,Nat.lt_succ_self _,?_⟩
 exact Le.ct 12 6
 replace hH:=condF hc hH
 refine AW.exit (AW.seq (AW.region ?_))
 iterate 2 refine AO.pu T ?_
 refine AO.nil (AW.ret ?_)
 have hR:=someE hH;subst hR
 exact retQ.i [6] rfl (.c (.c (.rowR rfl)))

def impl_cutInto_l1:List Int→Nat→List Int→List (List Int)→Option ((List (List Int)))
  | [],k1,v25,v26 =>
    some v26
  | y2::ys3,k1,v25,v26 =>
    (sliceHi v25 y2).bind fun x28 =>
    (impl_copyInts_p x28).bind fun x30 =>
    (need (fitsB 24 (v26.length+([x30]).length))).bind fun u32 =>
    (sliceLo v25 y2).bind fun x34 =>
    impl_cutInto_l1 ys3 (k1+1) x34 (v26++[x30])
def impl_cutInto_p (l:List Int) (sizes:List Int):Option (List (List Int)) :=
  impl_cutInto_l1 sizes 0 l []
theorem impl_cutInto_ok (l:List Int) (sizes:List Int) (r:(List (List Int))) (hH:impl_cutInto_p l sizes=some r):SpecR Tryz.prog 133 [.s (List.map encInt l),.s (List.map encInt sizes)] (.w 1 (r.map encLIntO)):=by
 refine fn_ok T Tryz.func133 rfl (by decide) rfl ?_
 refine AW.seq (AW.region (AO.pu T ?_))
 refine AO.nil (AW.seq (AW.region ?_))
 refine AO.step rfl (mk0_ok T rfl rfl rfl rfl) ?_
 refine AO.pu T ?_
 refine AO.nil ?_
 iterate 2 refine AW.seq ?_
 refine AW.region (AO.pu T ?_)
 refine AO.val rfl rfl (len_map_ok T rfl rfl rfl) ?_
 refine AO.pu T ?_
 refine AO.nil (AW.block ?_)
 refine AW.loopS (fun s:Nat × (List Int) × (List (List Int))=>(⟨[(0,.s (List.map encInt s.2.1)),(5,.R 6),(9,.s (List.map encInt sizes)),(10,(sizes.length:Int)),(11,(s.1:Int))],[(6,.row 1 (List.map encLIntO s.2.2))],27,[]⟩:St)) (fun s=>s.1 ≤ sizes.length∧impl_cutInto_l1 (sizes.drop s.1) s.1 s.2.1 s.2.2=some r) (fun s=>sizes.length - s.1) (0,l,[]) ⟨Nat.zero_le _,hH⟩ ?_ ?_
 refine Le.trans (Le.void 5 6 1 rfl rfl) ?_
 exact Le.ct 0 0
 rintro ⟨k1,v25,v26⟩ ⟨hk,hH⟩
 replace hH:impl_cutInto_l1 (sizes.drop k1) k1 v25 v26=some r:=hH
 try dsimp only
 refine AW.boundM (t:=9) (l:=sizes) rfl (fun hb5=>?_)
 rcases hd4:sizes.drop k1 with _ | ⟨y2,ys3⟩
 rw [hd4,impl_cutInto_l1] at hH
 have hlt6:=drop_ge hd4
 refine AW.seq (AW.region (AO.pu T ?_))
 refine AO.nil (AW.seq (AW.condF' (b:=decide ((k1:Int) < (sizes.length:Int))) rfl (rngF hlt6) ?_))
 refine AW.exit (AW.seq (AW.region ?_))
 iterate 2 refine AO.pu T ?_
 refine AO.nil (AW.ret ?_)
 have hR:=someE hH;subst hR
 exact retQ.i [6] rfl (.c (.c (.rowR rfl)))
 rw [hd4,impl_cutInto_l1] at hH
 have hlt6:=drop_lt hd4
 refine AW.seq (AW.region (AO.pu T ?_))
 refine AO.nil (AW.seq (AW.condT' (b:=decide ((k1:Int) < (sizes.length:Int))) rfl (rngT hlt6) ?_))
 refine AW.skip (AW.seq ?_)
 refine AW.block (AW.seq (AW.region ?_))
 refine AO.val rfl rfl (ix_map_ok T rfl rfl rfl rfl rfl (getI_drop hd4) rfl) ?_
 iterate 2 refine AO.pu T ?_
 refine AO.nil (AW.seq ?_)
 obtain ⟨x28,hx29,hH⟩:=bindE hH
 obtain ⟨x30,hx31,hH⟩:=bindE hH
 obtain ⟨u32,hx33,hH⟩:=bindE hH
 refine AW.region ?_
 iterate 3 refine AO.pu T ?_
 refine AO.val rfl rfl (slice_hi_map_ok T rfl rfl rfl rfl rfl (hx29) (fun _=>rfl)) ?_
 refine AO.step rfl (call_ok rfl 7 rfl rfl rfl (impl_copyInts_ok _ _ (hx31)) rfl rfl rfl) ?_
 refine AO.step rfl (mk_o_ok T rfl 8 rfl rfl rfl rfl rfl rfl (f:=encLIntO) (l:=[x30]) (ids:=[7]) rfl rfl (fun _=>rfl) (by exact expLC_cons (.rowR rfl) (expLC_nil)) (by decide) rfl rfl rfl rfl rfl) ?_
 refine AO.step rfl (app_rr_map T rfl 9 rfl rfl rfl rfl rfl (by decide) rfl rfl rfl rfl rfl (needT (hx33)) rfl rfl) ?_
 refine AO.pu T ?_
 refine AO.nil ?_
 obtain ⟨x34,hx35,hH⟩:=bindE hH
 refine AW.region ?_
 iterate 2 refine AO.pu T ?_
 refine AO.val rfl rfl (slice_lo_map_ok T rfl rfl rfl rfl rfl (hx35) (fun _=>rfl)) ?_
 refine AO.pu T ?_
 refine AO.nil (AW.region ?_)
 refine AO.val rfl rfl (ar_ok rfl rfl rfl rfl (inI_succ hlt6 hb5)) ?_
 refine AO.pu T ?_
 refine AO.nil ?_
 refine ⟨(k1+1,x34,(v26++[x30])),⟨Nat.succ_le_of_lt hlt6,(by rw [drop_succ_of hd4];exact hH)⟩,(by have:=hlt6;dsimp only;omega),?_⟩
 exact Le.ct 9 6

def impl_rankGroups_l2 (x22:(List (List Int))):Nat→List (List Int)→List (List Int)→Int→Option (((List (List Int)) × Bool))
  | 0,_,_,_=>none
  | k24+1,v36,v37,v38 =>
    cond (decide (v38 < (x22.length:Int)))
      ((getI v37 v38).bind fun x40 =>
      (slices_Sort_int_p x40).bind fun x42 =>
      impl_rankGroups_l2 x22 k24 (v37.set v38.toNat x42) (v37.set v38.toNat x42) (w64 (v38+1)))
      (some (v37,true))
def impl_rankGroups_l1 (l:List Entrant) (size:Int) (fuel:Nat):List Entrant→Nat→List Int→Option (((List (List Int)) × Bool))
  | [],k7,v18 =>
    (impl_evenSizes_p fuel (l.length:Int) (w64 ((w64 ((w64 ((l.length:Int)+size)) - 1)).tdiv size))).bind fun x20 =>
    (impl_cutInto_p v18 x20).bind fun x22 =>
    impl_rankGroups_l2 x22 fuel x22 x22 0
  | y8::ys9,k7,v18 =>
    (need (fitsB 8 (v18.length+([y8.skater]).length))).bind fun u44 =>
    impl_rankGroups_l1 l size fuel ys9 (k7+1) (v18++[y8.skater])
def impl_rankGroups_p (fuel:Nat) (l:List Entrant) (size:Int):Option ((List (List Int)) × Bool) :=
  (need (size != 0)).bind fun u1 =>
  cond (decide ((w64 ((w64 ((w64 ((l.length:Int)+size)) - 1)).tdiv size)) > 8))
    (some ([],false))
    ((need (fitsB 16 l.length)).bind fun u3 =>
    (slices_SortFunc_Entrant_p l (fun a0 a1=>impl_compareBehind_p a0 a1)).bind fun x5 =>
    impl_rankGroups_l1 l size fuel x5 0 [])
theorem impl_rankGroups_ok (fuel:Nat) (l:List Entrant) (size:Int) (r:((List (List Int)) × Bool)) (hH:impl_rankGroups_p fuel l size=some r):SpecR Tryz.prog 156 [.s (List.map encEntrant l),size] (.t [.w 1 (r.1.map encLIntO),.v (.bool r.2)]):=by
 refine fn_ok T Tryz.func156 rfl (by decide) rfl ?_
 refine AW.seq (AW.region ?_)
 iterate 2 refine AO.pu T ?_
 refine AO.nil (AW.seq ?_)
 obtain ⟨u1,hx2,hH⟩:=bindE hH
 refine AW.region (AO.pu T ?_)
 refine AO.val rfl rfl (len_map_ok T rfl rfl rfl) ?_
 refine AO.pu T ?_
 iterate 2 refine AO.val rfl rfl (arw_ok rfl rfl rfl rfl) ?_
 refine AO.pu T ?_
 refine AO.val rfl rfl (quow_ok rfl rfl rfl (neZ (needT (hx2)))) ?_
 refine AO.pu T ?_
 refine AO.nil ?_
 iterate 2 refine AW.seq ?_
 refine AW.region ?_
 iterate 2 refine AO.pu T ?_
 refine AO.nil (AW.cond (b:=decide ((w64 ((w64 ((w64 ((l.length:Int)+size)) - 1)).tdiv size)) > 8)) rfl (fun hc=>?_) (fun hc=>?_))
 replace hH:=condT hc hH
 refine AW.seq (AW.region ?_)
 iterate 2 refine AO.pu T ?_
 refine AO.nil (AW.ret ?_)
 have hR:=someE hH;subst hR
 exact retQ.i [] rfl (.t (expLG_cons (.c .nil) (expLG_cons (.c .v) (expLG_nil))))
 replace hH:=condF hc hH
 refine AW.skip (AW.seq ?_)
 obtain ⟨u3,hx4,hH⟩:=bindE hH
 refine AW.region (AO.step rfl (mk0_ok T rfl rfl rfl rfl) ?_)
 refine AO.pu T ?_
 refine AO.step rfl (app_ws_map T rfl 1 rfl rfl rfl rfl rfl (by decide) (by decide) rfl rfl (fun _=>rfl) (needT (hx4)) rfl rfl) ?_
 refine AO.step rfl (mk0_ok T rfl rfl rfl rfl) ?_
 iterate 2 refine AO.pu T ?_
 refine AO.nil (AW.seq ?_)
 obtain ⟨x5,hx6,hH⟩:=bindE hH
 refine AW.region (AO.pu T ?_)
 refine AO.step rfl (callM_ok rfl 2 rfl rfl (es:=[.w 2 (l.map encEntrant),.f 175 []]) (outs:=[.w 2 (x5.map encEntrant),.u]) (ids:=[1]) (by exact expLG_cons (.c (.rowR rfl)) (expLG_cons (.c (.f rfl)) (expLG_nil))) (by decide) (.inl (by rfl)) (by rfl) (slices_SortFunc_Entrant_ok _ 175 [] rfl (fun a0 a1=>impl_compareBehind_p a0 a1) (fun a0 a1 q h=>impl_compareBehind_ok a0 a1  q h) _ (hx6)) rfl (by rfl) rfl) ?_
 refine AO.nil ?_
 iterate 2 refine AW.seq ?_
 refine AW.region (AO.pu T ?_)
 refine AO.val rfl rfl (len_row_ok T rfl rfl rfl rfl) ?_
 refine AO.pu T ?_
 refine AO.nil (AW.block ?_)
 refine AW.loopS (fun s:Nat × (List Int)=>(⟨[(0,.s (List.map encEntrant l)),(6,w64 ((w64 ((w64 ((l.length:Int)+size)) - 1)).tdiv size)),(8,.R 7),(29,.R 1),(30,(x5.length:Int)),(31,(s.1:Int))],[(1,.row 2 (List.map encEntrant x5)),(7,.row 1 (List.map encInt s.2))],57,[]⟩:St)) (fun s=>s.1 ≤ x5.length∧impl_rankGroups_l1 l size fuel (x5.drop s.1) s.1 s.2=some r) (fun s=>x5.length - s.1) (0,[]) ⟨Nat.zero_le _,hH⟩ ?_ ?_
 refine Le.trans (Le.void 8 7 1 rfl rfl) ?_
 exact Le.ct 0 0
 rintro ⟨k7,v18⟩ ⟨hk,hH⟩
 replace hH:impl_rankGroups_l1 l size fuel (x5.drop k7) k7 v18=some r:=hH
 try dsimp only
 refine AW.boundR (id:=1) (l:=x5) rfl (fun hb11=>?_)
 rcases hd10:x5.drop k7 with _ | ⟨y8,ys9⟩
 rw [hd10,impl_rankGroups_l1] at hH
 have hlt12:=drop_ge hd10
 refine AW.seq (AW.region (AO.pu T ?_))
 refine AO.nil (AW.seq (AW.condF' (b:=decide ((k7:Int) < (x5.length:Int))) rfl (rngF hlt12) ?_))
 refine AW.exit (AW.seq ?_)
 obtain ⟨x20,hx21,hH⟩:=bindE hH
 obtain ⟨x22,hx23,hH⟩:=bindE hH
 refine AW.region ?_
 iterate 2 refine AO.pu T ?_
 refine AO.val rfl rfl (len_map_ok T rfl rfl rfl) ?_
 refine AO.pu T ?_
 refine AO.step rfl (call_ok rfl 8 rfl rfl rfl (impl_evenSizes_ok fuel _ _ _ (hx21)) rfl rfl rfl) ?_
 refine AO.step rfl (callL_ok rfl 9 rfl rfl (es:=[.s (List.map encInt v18),.s (List.map encInt x20)]) (by exact ⟨(.rowR rfl (.map fun y=>.vs rfl)),(.rowR rfl (.map fun y=>.vs rfl)),trivial⟩) (impl_cutInto_ok _ _ _ (hx23)) (zfree_map (fun y=>(.cons (zfree_map (fun y=>(.cons (zfree_v _) .nil))) .nil))) rfl rfl rfl) ?_
 refine AO.pu T ?_
 refine AO.nil ?_
 iterate 2 refine AW.seq ?_
 refine AW.region (AO.pu T ?_)
 refine AO.val rfl rfl (len_row_ok T rfl rfl rfl rfl) ?_
 refine AO.pu T ?_
 refine AO.nil (AW.block ?_)
 refine AW.loopS (fun s:Nat × (List (List Int)) × (List (List Int)) × Int=>(⟨[(11,.R 9),(47,.R 9),(48,(x22.length:Int)),(49,s.2.2.2)],[(9,.row 1 (List.map encLIntO s.2.2.1))],57,[]⟩:St)) (fun s=>impl_rankGroups_l2 x22 s.1 s.2.1 s.2.2.1 s.2.2.2=some r) (fun s=>s.1) (fuel,x22,x22,0) hH ?_ ?_
 exact Le.ct 0 0
 rintro ⟨k24,v36,v37,v38⟩ hH
 replace hH:impl_rankGroups_l2 x22 k24 v36 v37 v38=some r:=hH
 try dsimp only
 rcases k24 with _ | k24
 cases (show none=some _ from hH)
 rw [impl_rankGroups_l2] at hH
 refine AW.seq (AW.region (AO.pu T ?_))
 refine AO.nil (AW.seq (AW.cond (b:=decide (v38 < (x22.length:Int))) rfl (fun hc=>?_) (fun hc=>?_)))
 replace hH:=condT hc hH
 refine AW.skip (AW.seq ?_)
 refine AW.block (AW.seq ?_)
 obtain ⟨x40,hx41,hH⟩:=bindE hH
 refine AW.le (Le.openM 9 v38.toNat 0 12 rfl (getI_get (hx41)) rfl rfl) ?_
 refine AW.region (AO.val rfl rfl (ix_lent_ok T rfl rfl rfl rfl rfl rfl (hx41)) ?_)
 refine AO.val rfl rfl (load_lent_ok T rfl rfl rfl rfl rfl) ?_
 refine AO.pu T ?_
 refine AO.nil ?_
 obtain ⟨x42,hx43,hH⟩:=bindE hH
 refine AW.region (AO.pu T ?_)
 refine AO.step rfl (callM_ok rfl 13 rfl rfl (es:=[.w 1 (x40.map encInt)]) (outs:=[.w 1 (x42.map encInt)]) (ids:=[12]) (by exact expLG_cons (.c (.rowR rfl)) (expLG_nil)) (by decide) (.inl (by rfl)) (by rfl) (slices_Sort_int_ok _ _ (hx43)) rfl (by rfl) rfl) ?_
 refine AO.le (Le.closeM 9 v38.toNat 0 12 rfl rfl (getI_get (hx41)) rfl (u':=x42) rfl) ?_
 refine AO.nil (AW.region ?_)
 refine AO.val rfl rfl (arw_ok rfl rfl rfl rfl) ?_
 refine AO.pu T ?_
 refine AO.nil ?_
 refine ⟨(k24,(v37.set v38.toNat x42),(v37.set v38.toNat x42),w64 (v38+1)),hH,Nat.lt_succ_self _,?_⟩
 exact Le.ct 0 0
 replace hH:=condF hc hH
 refine AW.exit (AW.seq (AW.region ?_))
 iterate 3 refine AO.pu T ?_
 refine AO.nil (AW.ret ?_)
 have hR:=someE hH;subst hR
 exact retQ.i [9] rfl (.t (expLG_cons (.c (.rowR rfl)) (expLG_cons (.c .v) (expLG_nil))))
 rw [hd10,impl_rankGroups_l1] at hH
 have hlt12:=drop_lt hd10
 refine AW.seq (AW.region (AO.pu T ?_))
 refine AO.nil (AW.seq (AW.condT' (b:=decide ((k7:Int) < (x5.length:Int))) rfl (rngT hlt12) ?_))
 refine AW.skip (AW.seq ?_)
 refine AW.block (AW.seq (AW.region ?_))
 refine AO.val rfl rfl (ix_row_ok T rfl rfl rfl rfl rfl rfl (getI_drop hd10)) ?_
 refine AO.val rfl rfl (load_row_ok T rfl rfl rfl rfl (getI_get (getI_drop hd10)) rfl rfl rfl) ?_
 refine AO.step rfl (alloc_ok T rfl 13 rfl rfl rfl rfl rfl) ?_
 refine AO.se T [y8.skater,y8.rank] ?_
 refine AO.nil ?_
 obtain ⟨u44,hx45,hH⟩:=bindE hH
 refine AW.region ?_
 iterate 3 refine AO.pu T ?_
 refine AO.step rfl (mk_map_ok T rfl 14 rfl rfl rfl rfl rfl (f:=encInt) (l:=[y8.skater]) rfl rfl (fun _=>rfl) rfl rfl rfl rfl rfl) ?_
 refine AO.step rfl (app_rv_map T rfl 15 rfl rfl rfl rfl rfl (by decide) rfl rfl rfl rfl (fun _=>rfl) (needT (hx45)) rfl rfl) ?_
 refine AO.pu T ?_
 refine AO.nil (AW.region ?_)
 refine AO.val rfl rfl (ar_ok rfl rfl rfl rfl (inI_succ hlt12 hb11)) ?_
 refine AO.pu T ?_
 refine AO.nil ?_
 refine ⟨(k7+1,(v18++[y8.skater])),⟨Nat.succ_le_of_lt hlt12,(by rw [drop_succ_of hd10];exact hH)⟩,(by have:=hlt12;dsimp only;omega),?_⟩
 exact Le.ct 15 7

def impl_RankGroups_p (fuel:Nat) (l:List Entrant) (size:Int):Option ((List (List Int)) × Bool) :=
  (impl_AreEntrants_p l).bind fun x1 =>
  (opt (!(!x1)) default (impl_isGroupSize_p size)).bind fun x3 =>
  cond ((!x1) || (!x3))
    (some ([],false))
    ((impl_rankGroups_p fuel l size).bind fun x5 =>
    some (x5.1,x5.2))
theorem impl_RankGroups_ok (fuel:Nat) (l:List Entrant) (size:Int) (r:((List (List Int)) × Bool)) (hH:impl_RankGroups_p fuel l size=some r):SpecR Tryz.prog 129 [.s (List.map encEntrant l),size] (.t [.w 1 (r.1.map encLIntO),.v (.bool r.2)]):=by
 refine fn_ok T Tryz.func129 rfl (by decide) rfl ?_
 refine AW.seq (AW.region ?_)
 iterate 2 refine AO.pu T ?_
 refine AO.nil ?_
 iterate 2 refine AW.seq ?_
 obtain ⟨x1,hx2,hH⟩:=bindE hH
 obtain ⟨x3,hx4,hH⟩:=bindE hH
 refine AW.region (AO.pu T ?_)
 refine AO.val rfl rfl (callV_ok rfl rfl rfl rfl (impl_AreEntrants_ok _ _ (hx2)) rfl) ?_
 iterate 2 refine AO.pu T ?_
 refine AO.pureG T [] rfl trivial rfl rfl ?_
 refine AO.guard [10] rfl ⟨fun h=>h,trivial⟩ (fun hg=>callV_ok rfl rfl rfl rfl (impl_isGroupSize_ok _ _ (optT hx4 hg)) rfl) rfl ?_
 refine AO.pureG T [11] rfl ⟨fun h=>h,trivial⟩ rfl rfl ?_
 refine AO.val rfl rfl (pick_or rfl rfl rfl rfl) ?_
 refine AO.nil (AW.cond (b:=((!x1) || (!x3))) rfl (fun hc=>?_) (fun hc=>?_))
 replace hH:=condT hc hH
 refine AW.seq (AW.region ?_)
 iterate 2 refine AO.pu T ?_
 refine AO.nil (AW.ret ?_)
 have hR:=someE hH;subst hR
 exact retQ.i [] rfl (.t (expLG_cons (.c .nil) (expLG_cons (.c .v) (expLG_nil))))
 replace hH:=condF hc hH
 refine AW.skip (AW.seq ?_)
 obtain ⟨x5,hx6,hH⟩:=bindE hH
 refine AW.region ?_
 iterate 2 refine AO.pu T ?_
 refine AO.step rfl (call_ok rfl 1 rfl rfl rfl (impl_rankGroups_ok fuel _ _ _ (hx6)) rfl rfl rfl) ?_
 iterate 4 refine AO.pu T ?_
 refine AO.nil (AW.ret ?_)
 have hR:=someE hH;subst hR
 exact retQ.i [1] rfl (.t (expLG_cons (.c (.rowR rfl)) (expLG_cons (.c .v) (expLG_nil))))

def impl_withKeys_p (keys:List Int) (more:List Int):Option (List Int) :=
  (impl_copyInts_p keys).bind fun x1 =>
  (need (fitsB 8 (x1.length+more.length))).bind fun u3 =>
  some (x1++more)
theorem impl_withKeys_ok (keys:List Int) (more:List Int) (r:(List Int)) (hH:impl_withKeys_p keys more=some r):SpecR Tryz.prog 131 [.s (List.map encInt keys),.s (List.map encInt more)] (.w 1 (r.map encInt)):=by
 refine fn_ok T Tryz.func131 rfl (by decide) rfl ?_
 refine AW.seq (AW.region (AO.pu T ?_))
 refine AO.nil (AW.seq ?_)
 obtain ⟨x1,hx2,hH⟩:=bindE hH
 obtain ⟨u3,hx4,hH⟩:=bindE hH
 refine AW.region (AO.pu T ?_)
 refine AO.step rfl (call_ok rfl 1 rfl rfl rfl (impl_copyInts_ok _ _ (hx2)) rfl rfl rfl) ?_
 refine AO.pu T ?_
 refine AO.step rfl (app_rs_map T rfl 2 rfl rfl rfl rfl rfl (by decide) (by decide) rfl rfl rfl (fun _=>rfl) (needT (hx4)) rfl rfl) ?_
 refine AO.pu T ?_
 refine AO.nil (AW.ret ?_)
 have hR:=someE hH;subst hR
 exact retQ.i [2] rfl (.c (.c (.rowR rfl)))

def impl_keyMix_l1 (x1:(List Int)):Nat→Int→Int→Option Int
  | 0,_,_=>none
  | k5+1,v20,v21 =>
    cond (decide (v21 < (((x1++([4,1]:List Int))).length:Int)))
      ((getI (x1++([4,1]:List Int)) v21).bind fun x23 =>
      (need (1000003 != 0)).bind fun u25 =>
      (need (16 != 0)).bind fun u27 =>
      impl_keyMix_l1 x1 k5 ((w64 (((w64 ((w64 ((w64 (29 * v20))+x23))+13)).tmod 1000003) * (w64 ((w64 (((w64 ((w64 ((w64 (29 * v20))+x23))+13)).tmod 1000003).tdiv 16))+5)))).tmod 1000003) (w64 (v21+1)))
      (some v20)
def impl_keyMix_p (fuel:Nat) (keys:List Int):Option Int :=
  (impl_copyInts_p keys).bind fun x1 =>
  (need (fitsB 8 (x1.length+(([4,1]:List Int)).length))).bind fun u3 =>
  impl_keyMix_l1 x1 fuel (w64 (5231+(keys.length:Int))) 0
theorem impl_keyMix_ok (fuel:Nat) (keys:List Int) (r:Int) (hH:impl_keyMix_p fuel keys=some r):SpecR Tryz.prog 184 [.s (List.map encInt keys)] (.v (.int .i64 r)):=by
 refine fn_ok T Tryz.func184 rfl (by decide) rfl ?_
 refine AW.seq (AW.region (AO.pu T ?_))
 refine AO.nil (AW.seq (AW.region ?_))
 refine AO.pu T ?_
 refine AO.val rfl rfl (len_map_ok T rfl rfl rfl) ?_
 refine AO.val rfl rfl (arw_ok rfl rfl rfl rfl) ?_
 refine AO.pu T ?_
 refine AO.nil ?_
 iterate 2 refine AW.seq ?_
 obtain ⟨x1,hx2,hH⟩:=bindE hH
 obtain ⟨u3,hx4,hH⟩:=bindE hH
 refine AW.region (AO.pu T ?_)
 refine AO.step rfl (call_ok rfl 1 rfl rfl rfl (impl_copyInts_ok _ _ (hx2)) rfl rfl rfl) ?_
 refine AO.step rfl (mk_map_ok T rfl 2 rfl rfl rfl rfl rfl (f:=encInt) (l:=([4,1]:List Int)) rfl rfl (fun _=>rfl) rfl rfl rfl rfl rfl) ?_
 refine AO.step rfl (app_rv_map T rfl 3 rfl rfl rfl rfl rfl (by decide) rfl rfl rfl rfl (fun _=>rfl) (needT (hx4)) rfl rfl) ?_
 refine AO.val rfl rfl (len_row_ok T rfl rfl rfl rfl) ?_
 refine AO.pu T ?_
 refine AO.nil (AW.block ?_)
 refine AW.loopS (fun s:Nat × Int × Int=>(⟨[(3,s.2.1),(12,.R 3),(13,(((x1++([4,1]:List Int))).length:Int)),(14,s.2.2)],[(3,.row 1 (List.map encInt (x1++([4,1]:List Int))))],32,[]⟩:St)) (fun s=>impl_keyMix_l1 x1 s.1 s.2.1 s.2.2=some r) (fun s=>s.1) (fuel,w64 (5231+(keys.length:Int)),0) hH ?_ ?_
 exact Le.ct 0 0
 rintro ⟨k5,v20,v21⟩ hH
 replace hH:impl_keyMix_l1 x1 k5 v20 v21=some r:=hH
 try dsimp only
 rcases k5 with _ | k5
 cases (show none=some _ from hH)
 rw [impl_keyMix_l1] at hH
 refine AW.seq (AW.region (AO.pu T ?_))
 refine AO.nil (AW.seq (AW.cond (b:=decide (v21 < (((x1++([4,1]:List Int))).length:Int))) rfl (fun hc=>?_) (fun hc=>?_)))
 replace hH:=condT hc hH
 refine AW.skip (AW.seq ?_)
 refine AW.block (AW.seq ?_)
 obtain ⟨x23,hx24,hH⟩:=bindE hH
 refine AW.region (AO.val rfl rfl (ix_row_ok T rfl rfl rfl rfl rfl rfl (hx24)) ?_)
 refine AO.val rfl rfl (load_row_ok T rfl rfl rfl rfl (getI_get (hx24)) rfl rfl rfl) ?_
 refine AO.pu T ?_
 refine AO.nil (AW.seq ?_)
 obtain ⟨u25,hx26,hH⟩:=bindE hH
 refine AW.region (AO.pu T ?_)
 refine AO.val rfl rfl (arw_ok rfl rfl rfl rfl) ?_
 refine AO.pu T ?_
 iterate 2 refine AO.val rfl rfl (arw_ok rfl rfl rfl rfl) ?_
 refine AO.val rfl rfl (rem_ok rfl rfl rfl (neZ (needT (hx26)))) ?_
 refine AO.pu T ?_
 refine AO.nil ?_
 obtain ⟨u27,hx28,hH⟩:=bindE hH
 refine AW.region ?_
 iterate 2 refine AO.pu T ?_
 refine AO.val rfl rfl (quow_ok rfl rfl rfl (neZ (needT (hx28)))) ?_
 iterate 2 refine AO.val rfl rfl (arw_ok rfl rfl rfl rfl) ?_
 refine AO.val rfl rfl (rem_ok rfl rfl rfl (neZ (needT (hx26)))) ?_
 refine AO.pu T ?_
 refine AO.nil (AW.region ?_)
 refine AO.val rfl rfl (arw_ok rfl rfl rfl rfl) ?_
 refine AO.pu T ?_
 refine AO.nil ?_
 refine ⟨(k5,((w64 (((w64 ((w64 ((w64 (29 * v20))+x23))+13)).tmod 1000003) * (w64 ((w64 (((w64 ((w64 ((w64 (29 * v20))+x23))+13)).tmod 1000003).tdiv 16))+5)))).tmod 1000003),w64 (v21+1)),hH,Nat.lt_succ_self _,?_⟩
 exact Le.ct 0 0
 replace hH:=condF hc hH
 refine AW.exit (AW.seq (AW.region ?_))
 iterate 2 refine AO.pu T ?_
 refine AO.nil (AW.ret ?_)
 have hR:=someE hH;subst hR
 exact retQ.i [] rfl (.c (.c .v))

def impl_keyBelow_p (fuel:Nat) (keys:List Int) (n:Int):Option Int :=
  (impl_withKeys_p keys [n]).bind fun x1 =>
  (impl_keyMix_p fuel x1).bind fun x3 =>
  (need (n != 0)).bind fun u5 =>
  some (x3.tmod n)
theorem impl_keyBelow_ok (fuel:Nat) (keys:List Int) (n:Int) (r:Int) (hH:impl_keyBelow_p fuel keys n=some r):SpecR Tryz.prog 177 [.s (List.map encInt keys),n] (.v (.int .i64 r)):=by
 refine fn_ok T Tryz.func177 rfl (by decide) rfl ?_
 refine AW.seq (AW.region (AO.pu T ?_))
 refine AO.nil (AW.seq ?_)
 obtain ⟨x1,hx2,hH⟩:=bindE hH
 obtain ⟨x3,hx4,hH⟩:=bindE hH
 obtain ⟨u5,hx6,hH⟩:=bindE hH
 refine AW.region ?_
 iterate 2 refine AO.pu T ?_
 refine AO.step rfl (mk_map_ok T rfl 1 rfl rfl rfl rfl rfl (f:=encInt) (l:=[n]) rfl rfl (fun _=>rfl) rfl rfl rfl rfl rfl) ?_
 refine AO.step rfl (callL_ok rfl 2 rfl rfl (es:=[.s (List.map encInt keys),.s (List.map encInt [n])]) (by exact ⟨.free rfl,(.rowR rfl (.map fun y=>.vs rfl)),trivial⟩) (impl_withKeys_ok _ _ _ (hx2)) (zfree_map (fun y=>(.cons (zfree_v _) .nil))) rfl rfl rfl) ?_
 refine AO.val rfl rfl (callLV_ok rfl rfl rfl (es:=[.s (List.map encInt x1)]) ⟨(.rowR rfl (.map fun y=>.vs rfl)),trivial⟩ (impl_keyMix_ok fuel _ _ (hx4)) (zfree_v _) rfl) ?_
 refine AO.pu T ?_
 refine AO.val rfl rfl (rem_ok rfl rfl rfl (neZ (needT (hx6)))) ?_
 refine AO.pu T ?_
 refine AO.nil (AW.ret ?_)
 have hR:=someE hH;subst hR
 exact retQ.i [] rfl (.c (.c .v))

def impl_shuffleOf_l2 (keys:List Int) (fuel:Nat):Nat→List Int→Int→Option ((List Int))
  | 0,_,_=>none
  | k13+1,v36,v37 =>
    cond (decide (v37 ≥ 1))
      ((impl_withKeys_p keys [v37]).bind fun x39 =>
      (impl_keyBelow_p fuel x39 (w64 (v37+1))).bind fun x41 =>
      (getI v36 x41).bind fun x43 =>
      (getI v36 v37).bind fun x45 =>
      (getI (v36.set v37.toNat x43) x41).bind fun x47 =>
      impl_shuffleOf_l2 keys fuel k13 ((v36.set v37.toNat x43).set x41.toNat x45) (w64 (v37 - 1)))
      (some v36)
def impl_shuffleOf_l1 (keys:List Int) (n:Int) (fuel:Nat):Nat→List Int→Int→Option ((List Int))
  | 0,_,_=>none
  | k1+1,v8,v9 =>
    cond (decide (v9 < n))
      ((need (fitsB 8 (v8.length+([v9]).length))).bind fun u11 =>
      impl_shuffleOf_l1 keys n fuel k1 (v8++[v9]) (w64 (v9+1)))
      (impl_shuffleOf_l2 keys fuel fuel v8 (w64 (n - 1)))
def impl_shuffleOf_p (fuel:Nat) (keys:List Int) (n:Int):Option (List Int) :=
  impl_shuffleOf_l1 keys n fuel fuel [] 0
theorem impl_shuffleOf_ok (fuel:Nat) (keys:List Int) (n:Int) (r:(List Int)) (hH:impl_shuffleOf_p fuel keys n=some r):SpecR Tryz.prog 157 [.s (List.map encInt keys),n] (.w 1 (r.map encInt)):=by
 refine fn_ok T Tryz.func157 rfl (by decide) rfl ?_
 refine AW.seq (AW.region (AO.pu T ?_))
 refine AO.nil (AW.seq (AW.region ?_))
 refine AO.step rfl (mk0_ok T rfl rfl rfl rfl) ?_
 refine AO.pu T ?_
 refine AO.nil ?_
 iterate 2 refine AW.seq ?_
 refine AW.region ?_
 iterate 2 refine AO.pu T ?_
 refine AO.nil (AW.block ?_)
 refine AW.loopS (fun s:Nat × (List Int) × Int=>(⟨[(0,.s (List.map encInt keys)),(1,n),(5,.R 4),(10,n),(11,s.2.2)],[(4,.row 1 (List.map encInt s.2.1))],47,[]⟩:St)) (fun s=>impl_shuffleOf_l1 keys n fuel s.1 s.2.1 s.2.2=some r) (fun s=>s.1) (fuel,[],0) hH ?_ ?_
 refine Le.trans (Le.void 5 4 1 rfl rfl) ?_
 exact Le.ct 0 0
 rintro ⟨k1,v8,v9⟩ hH
 replace hH:impl_shuffleOf_l1 keys n fuel k1 v8 v9=some r:=hH
 try dsimp only
 rcases k1 with _ | k1
 cases (show none=some _ from hH)
 rw [impl_shuffleOf_l1] at hH
 refine AW.seq (AW.region (AO.pu T ?_))
 refine AO.nil (AW.seq (AW.cond (b:=decide (v9 < n)) rfl (fun hc=>?_) (fun hc=>?_)))
 replace hH:=condT hc hH
 refine AW.skip (AW.seq ?_)
 refine AW.block (AW.seq (AW.region ?_))
 iterate 2 refine AO.pu T ?_
 refine AO.nil ?_
 obtain ⟨u11,hx12,hH⟩:=bindE hH
 refine AW.region ?_
 iterate 2 refine AO.pu T ?_
 refine AO.step rfl (mk_map_ok T rfl 5 rfl rfl rfl rfl rfl (f:=encInt) (l:=[v9]) rfl rfl (fun _=>rfl) rfl rfl rfl rfl rfl) ?_
 refine AO.step rfl (app_rv_map T rfl 6 rfl rfl rfl rfl rfl (by decide) rfl rfl rfl rfl (fun _=>rfl) (needT (hx12)) rfl rfl) ?_
 refine AO.pu T ?_
 refine AO.nil (AW.region ?_)
 refine AO.val rfl rfl (arw_ok rfl rfl rfl rfl) ?_
 refine AO.pu T ?_
 refine AO.nil ?_
 refine ⟨(k1,(v8++[v9]),w64 (v9+1)),hH,Nat.lt_succ_self _,?_⟩
 exact Le.ct 6 4
 replace hH:=condF hc hH
 refine AW.exit ?_
 iterate 2 refine AW.seq ?_
 refine AW.region (AO.pu T ?_)
 refine AO.val rfl rfl (arw_ok rfl rfl rfl rfl) ?_
 refine AO.pu T ?_
 refine AO.nil (AW.block ?_)
 refine AW.loopS (fun s:Nat × (List Int) × Int=>(⟨[(0,.s (List.map encInt keys)),(5,.R 4),(7,s.2.2)],[(4,.row 1 (List.map encInt s.2.1))],47,[]⟩:St)) (fun s=>impl_shuffleOf_l2 keys fuel s.1 s.2.1 s.2.2=some r) (fun s=>s.1) (fuel,v8,w64 (n - 1)) hH ?_ ?_
 exact Le.ct 0 0
 rintro ⟨k13,v36,v37⟩ hH
 replace hH:impl_shuffleOf_l2 keys fuel k13 v36 v37=some r:=hH
 try dsimp only
 rcases k13 with _ | k13
 cases (show none=some _ from hH)
 rw [impl_shuffleOf_l2] at hH
 iterate 2 refine AW.seq ?_
 refine AW.region ?_
 iterate 2 refine AO.pu T ?_
 refine AO.nil (AW.cond (b:=decide (v37 ≥ 1)) rfl (fun hc=>?_) (fun hc=>?_))
 replace hH:=condT hc hH
 refine AW.skip (AW.seq ?_)
 refine AW.block (AW.seq ?_)
 obtain ⟨x39,hx40,hH⟩:=bindE hH
 obtain ⟨x41,hx42,hH⟩:=bindE hH
 refine AW.region ?_
 iterate 2 refine AO.pu T ?_
 refine AO.step rfl (mk_map_ok T rfl 11 rfl rfl rfl rfl rfl (f:=encInt) (l:=[v37]) rfl rfl (fun _=>rfl) rfl rfl rfl rfl rfl) ?_
 refine AO.step rfl (callL_ok rfl 12 rfl rfl (es:=[.s (List.map encInt keys),.s (List.map encInt [v37])]) (by exact ⟨.free rfl,(.rowR rfl (.map fun y=>.vs rfl)),trivial⟩) (impl_withKeys_ok _ _ _ (hx40)) (zfree_map (fun y=>(.cons (zfree_v _) .nil))) rfl rfl rfl) ?_
 refine AO.pu T ?_
 refine AO.val rfl rfl (arw_ok rfl rfl rfl rfl) ?_
 refine AO.val rfl rfl (callLV_ok rfl rfl rfl (es:=[.s (List.map encInt x39),w64 (v37+1)]) ⟨(.rowR rfl (.map fun y=>.vs rfl)),.free rfl,trivial⟩ (impl_keyBelow_ok fuel _ _ _ (hx42)) (zfree_v _) rfl) ?_
 refine AO.pu T ?_
 refine AO.nil ?_
 obtain ⟨x43,hx44,hH⟩:=bindE hH
 obtain ⟨x45,hx46,hH⟩:=bindE hH
 obtain ⟨x47,hx48,hH⟩:=bindE hH
 refine AW.drawn 14 13 [4] mix (by kernel_rfl) rfl ?_
 iterate 6 refine AD.pure T rfl rfl rfl ?_
 refine AD.vald rfl rfl rfl (ix_row_ok T rfl rfl rfl rfl rfl rfl (hx44)) ?_
 refine AD.vald rfl rfl rfl (load_row_ok T rfl rfl rfl rfl (getI_get (hx44)) rfl rfl rfl) ?_
 iterate 2 refine AD.pure T rfl rfl rfl ?_
 refine AD.vald rfl rfl rfl (ix_row_ok T rfl rfl rfl rfl rfl rfl (hx46)) ?_
 refine AD.vald rfl rfl rfl (load_row_ok T rfl rfl rfl rfl (getI_get (hx46)) rfl rfl rfl) ?_
 refine AD.vald rfl rfl rfl (ix_row_ok T rfl rfl rfl rfl rfl rfl (hx46)) ?_
 refine AD.k rfl rfl (FStep.store_row T rfl rfl rfl rfl rfl rfl (getI_get (hx46)) rfl rfl rfl rfl (u':=x43) rfl rfl rfl) rfl rfl rfl ?_
 refine AD.nil (AO.val rfl rfl (ix_row_ok T rfl rfl rfl rfl rfl rfl (hx48)) ?_)
 refine AO.step rfl (store_row_ok T rfl rfl rfl rfl rfl (getI_get (hx48)) rfl rfl rfl rfl (u':=x45) rfl rfl) ?_
 refine AO.nil (AW.le (Le.ct 0 0 (σ':=(⟨[(0,.s (List.map encInt keys)),(5,.R 4),(7,v37)],[(4,.row 1 (List.map encInt ((v36.set v37.toNat x43).set x41.toNat x45)))],47,[]⟩:St))) ?_)
 refine AW.region (AO.pu T ?_)
 refine AO.val rfl rfl (arw_ok rfl rfl rfl rfl) ?_
 refine AO.pu T ?_
 refine AO.nil ?_
 refine ⟨(k13,((v36.set v37.toNat x43).set x41.toNat x45),w64 (v37 - 1)),hH,Nat.lt_succ_self _,?_⟩
 exact Le.ct 0 0
 replace hH:=condF hc hH
 refine AW.exit (AW.seq (AW.region ?_))
 iterate 2 refine AO.pu T ?_
 refine AO.nil (AW.ret ?_)
 have hR:=someE hH;subst hR
 exact retQ.i [4] rfl (.c (.c (.rowR rfl)))

def impl_shuffledNumbers_l1 (l:List Int):List Int→Nat→List Int→Option ((List Int))
  | [],k3,v18 =>
    some v18
  | y4::ys5,k3,v18 =>
    (getI l y4).bind fun x20 =>
    (need (fitsB 8 (v18.length+([x20]).length))).bind fun u22 =>
    impl_shuffledNumbers_l1 l ys5 (k3+1) (v18++[x20])
def impl_shuffledNumbers_p (fuel:Nat) (keys:List Int) (l:List Int):Option (List Int) :=
  (impl_shuffleOf_p fuel keys (l.length:Int)).bind fun x1 =>
  impl_shuffledNumbers_l1 l x1 0 []
theorem impl_shuffledNumbers_ok (fuel:Nat) (keys:List Int) (l:List Int) (r:(List Int)) (hH:impl_shuffledNumbers_p fuel keys l=some r):SpecR Tryz.prog 130 [.s (List.map encInt keys),.s (List.map encInt l)] (.w 1 (r.map encInt)):=by
 refine fn_ok T Tryz.func130 rfl (by decide) rfl ?_
 refine AW.seq (AW.region (AO.pu T ?_))
 refine AO.nil (AW.seq (AW.region ?_))
 refine AO.step rfl (mk0_ok T rfl rfl rfl rfl) ?_
 refine AO.pu T ?_
 refine AO.nil ?_
 iterate 2 refine AW.seq ?_
 obtain ⟨x1,hx2,hH⟩:=bindE hH
 refine AW.region ?_
 iterate 2 refine AO.pu T ?_
 refine AO.val rfl rfl (len_map_ok T rfl rfl rfl) ?_
 refine AO.step rfl (call_ok rfl 1 rfl rfl rfl (impl_shuffleOf_ok fuel _ _ _ (hx2)) rfl rfl rfl) ?_
 refine AO.val rfl rfl (len_row_ok T rfl rfl rfl rfl) ?_
 refine AO.pu T ?_
 refine AO.nil (AW.block ?_)
 refine AW.loopS (fun s:Nat × (List Int)=>(⟨[(1,.s (List.map encInt l)),(5,.R 5),(12,.R 1),(13,(x1.length:Int)),(14,(s.1:Int))],[(1,.row 1 (List.map encInt x1)),(5,.row 1 (List.map encInt s.2))],27,[]⟩:St)) (fun s=>s.1 ≤ x1.length∧impl_shuffledNumbers_l1 l (x1.drop s.1) s.1 s.2=some r) (fun s=>x1.length - s.1) (0,[]) ⟨Nat.zero_le _,hH⟩ ?_ ?_
 refine Le.trans (Le.void 5 5 1 rfl rfl) ?_
 exact Le.ct 0 0
 rintro ⟨k3,v18⟩ ⟨hk,hH⟩
 replace hH:impl_shuffledNumbers_l1 l (x1.drop k3) k3 v18=some r:=hH
 try dsimp only
 refine AW.boundR (id:=1) (l:=x1) rfl (fun hb7=>?_)
 rcases hd6:x1.drop k3 with _ | ⟨y4,ys5⟩
 rw [hd6,impl_shuffledNumbers_l1] at hH
 have hlt8:=drop_ge hd6
 refine AW.seq (AW.region (AO.pu T ?_))
 refine AO.nil (AW.seq (AW.condF' (b:=decide ((k3:Int) < (x1.length:Int))) rfl (rngF hlt8) ?_))
 refine AW.exit (AW.seq (AW.region ?_))
 iterate 2 refine AO.pu T ?_
 refine AO.nil (AW.ret ?_)
 have hR:=someE hH;subst hR
 exact retQ.i [5] rfl (.c (.c (.rowR rfl)))
 rw [hd6,impl_shuffledNumbers_l1] at hH
 have hlt8:=drop_lt hd6
 refine AW.seq (AW.region (AO.pu T ?_))
 refine AO.nil (AW.seq (AW.condT' (b:=decide ((k3:Int) < (x1.length:Int))) rfl (rngT hlt8) ?_))
 refine AW.skip (AW.seq ?_)
 refine AW.block (AW.seq (AW.region ?_))
 refine AO.val rfl rfl (ix_row_ok T rfl rfl rfl rfl rfl rfl (getI_drop hd6)) ?_
 refine AO.val rfl rfl (load_row_ok T rfl rfl rfl rfl (getI_get (getI_drop hd6)) rfl rfl rfl) ?_
 refine AO.pu T ?_
 refine AO.nil ?_
 obtain ⟨x20,hx21,hH⟩:=bindE hH
 obtain ⟨u22,hx23,hH⟩:=bindE hH
 refine AW.region ?_
 iterate 3 refine AO.pu T ?_
 refine AO.val rfl rfl (ix_map_ok T rfl rfl rfl rfl rfl (hx21) rfl) ?_
 refine AO.pu T ?_
 refine AO.step rfl (mk_map_ok T rfl 6 rfl rfl rfl rfl rfl (f:=encInt) (l:=[x20]) rfl rfl (fun _=>rfl) rfl rfl rfl rfl rfl) ?_
 refine AO.step rfl (app_rv_map T rfl 7 rfl rfl rfl rfl rfl (by decide) rfl rfl rfl rfl (fun _=>rfl) (needT (hx23)) rfl rfl) ?_
 refine AO.pu T ?_
 refine AO.nil (AW.region ?_)
 refine AO.val rfl rfl (ar_ok rfl rfl rfl rfl (inI_succ hlt8 hb7)) ?_
 refine AO.pu T ?_
 refine AO.nil ?_
 refine ⟨(k3+1,(v18++[x20])),⟨Nat.succ_le_of_lt hlt8,(by rw [drop_succ_of hd6];exact hH)⟩,(by have:=hlt8;dsimp only;omega),?_⟩
 exact Le.ct 7 5

def impl_StartOrder_l1 (keys:List Int) (fuel:Nat) (x1:((List (List Int)) × Bool)):Nat→List Int→List (List Int)→Int→Option (((List Int) × Bool))
  | 0,_,_,_=>none
  | k5+1,v25,v26,v27 =>
    cond (decide (v27 < (x1.1.length:Int)))
      ((getI v26 v27).bind fun x29 =>
      (impl_withKeys_p keys [v27]).bind fun x31 =>
      (impl_shuffledNumbers_p fuel x31 x29).bind fun x33 =>
      (need (fitsB 8 (v25.length+x33.length))).bind fun u35 =>
      impl_StartOrder_l1 keys fuel x1 k5 (v25++x33) (v26.set v27.toNat x29) (w64 (v27+1)))
      (some (v25,true))
def impl_StartOrder_p (fuel:Nat) (keys:List Int) (l:List Entrant) (size:Int):Option ((List Int) × Bool) :=
  (impl_RankGroups_p fuel l size).bind fun x1 =>
  (opt (!(!x1.2)) default (impl_areKeys_p keys 4)).bind fun x3 =>
  cond ((!x1.2) || (!x3))
    (some ([],false))
    (impl_StartOrder_l1 keys fuel x1 fuel [] x1.1 0)
theorem impl_StartOrder_ok (fuel:Nat) (keys:List Int) (l:List Entrant) (size:Int) (r:((List Int) × Bool)) (hH:impl_StartOrder_p fuel keys l size=some r):SpecR Tryz.prog 91 [.s (List.map encInt keys),.s (List.map encEntrant l),size] (.t [.w 1 (r.1.map encInt),.v (.bool r.2)]):=by
 refine fn_ok T Tryz.func91 rfl (by decide) rfl ?_
 refine AW.seq (AW.region ?_)
 iterate 2 refine AO.pu T ?_
 refine AO.nil (AW.seq ?_)
 obtain ⟨x1,hx2,hH⟩:=bindE hH
 refine AW.region ?_
 iterate 2 refine AO.pu T ?_
 refine AO.step rfl (call_ok rfl 1 rfl rfl rfl (impl_RankGroups_ok fuel _ _ _ (hx2)) rfl rfl rfl) ?_
 iterate 5 refine AO.pu T ?_
 refine AO.nil ?_
 iterate 2 refine AW.seq ?_
 obtain ⟨x3,hx4,hH⟩:=bindE hH
 refine AW.region ?_
 iterate 3 refine AO.pu T ?_
 refine AO.pureG T [] rfl trivial rfl rfl ?_
 refine AO.guard [22] rfl ⟨fun h=>h,trivial⟩ (fun hg=>callV_ok rfl rfl rfl rfl (impl_areKeys_ok _ _ _ (optT hx4 hg)) rfl) rfl ?_
 refine AO.pureG T [23] rfl ⟨fun h=>h,trivial⟩ rfl rfl ?_
 refine AO.val rfl rfl (pick_or rfl rfl rfl rfl) ?_
 refine AO.nil (AW.cond (b:=((!x1.2) || (!x3))) rfl (fun hc=>?_) (fun hc=>?_))
 replace hH:=condT hc hH
 refine AW.seq (AW.region ?_)
 iterate 2 refine AO.pu T ?_
 refine AO.nil (AW.ret ?_)
 have hR:=someE hH;subst hR
 exact retQ.i [] rfl (.t (expLG_cons (.c .nil) (expLG_cons (.c .v) (expLG_nil))))
 replace hH:=condF hc hH
 refine AW.skip (AW.seq (AW.region ?_))
 refine AO.step rfl (mk0_ok T rfl rfl rfl rfl) ?_
 refine AO.pu T ?_
 refine AO.nil ?_
 iterate 2 refine AW.seq ?_
 refine AW.region (AO.pu T ?_)
 refine AO.val rfl rfl (len_row_ok T rfl rfl rfl rfl) ?_
 refine AO.pu T ?_
 refine AO.nil (AW.block ?_)
 refine AW.loopS (fun s:Nat × (List Int) × (List (List Int)) × Int=>(⟨[(0,.s (List.map encInt keys)),(10,.R 11),(27,.R 1),(28,(x1.1.length:Int)),(29,s.2.2.2)],[(1,.row 1 (List.map encLIntO s.2.2.1)),(11,.row 1 (List.map encInt s.2.1))],44,[]⟩:St)) (fun s=>impl_StartOrder_l1 keys fuel x1 s.1 s.2.1 s.2.2.1 s.2.2.2=some r) (fun s=>s.1) (fuel,[],x1.1,0) hH ?_ ?_
 refine Le.trans (Le.void 10 11 1 rfl rfl) ?_
 exact Le.ct 0 0
 rintro ⟨k5,v25,v26,v27⟩ hH
 replace hH:impl_StartOrder_l1 keys fuel x1 k5 v25 v26 v27=some r:=hH
 try dsimp only
 rcases k5 with _ | k5
 cases (show none=some _ from hH)
 rw [impl_StartOrder_l1] at hH
 refine AW.seq (AW.region (AO.pu T ?_))
 refine AO.nil (AW.seq (AW.cond (b:=decide (v27 < (x1.1.length:Int))) rfl (fun hc=>?_) (fun hc=>?_)))
 replace hH:=condT hc hH
 refine AW.skip (AW.seq ?_)
 refine AW.block (AW.seq ?_)
 obtain ⟨x29,hx30,hH⟩:=bindE hH
 refine AW.le (Le.openM 1 v27.toNat 0 12 rfl (getI_get (hx30)) rfl rfl) ?_
 refine AW.region (AO.pu T ?_)
 refine AO.val rfl rfl (ix_lent_ok T rfl rfl rfl rfl rfl rfl (hx30)) ?_
 refine AO.val rfl rfl (load_lent_ok T rfl rfl rfl rfl rfl) ?_
 iterate 2 refine AO.pu T ?_
 refine AO.nil ?_
 obtain ⟨x31,hx32,hH⟩:=bindE hH
 obtain ⟨x33,hx34,hH⟩:=bindE hH
 obtain ⟨u35,hx36,hH⟩:=bindE hH
 refine AW.region ?_
 iterate 3 refine AO.pu T ?_
 refine AO.step rfl (mk_map_ok T rfl 13 rfl rfl rfl rfl rfl (f:=encInt) (l:=[v27]) rfl rfl (fun _=>rfl) rfl rfl rfl rfl rfl) ?_
 refine AO.step rfl (callL_ok rfl 14 rfl rfl (es:=[.s (List.map encInt keys),.s (List.map encInt [v27])]) (by exact ⟨.free rfl,(.rowR rfl (.map fun y=>.vs rfl)),trivial⟩) (impl_withKeys_ok _ _ _ (hx32)) (zfree_map (fun y=>(.cons (zfree_v _) .nil))) rfl rfl rfl) ?_
 refine AO.pu T ?_
 refine AO.step rfl (callL_ok rfl 15 rfl rfl (es:=[.s (List.map encInt x31),.s (List.map encInt x29)]) (by exact ⟨(.rowR rfl (.map fun y=>.vs rfl)),(.rowR rfl (.map fun y=>.vs rfl)),trivial⟩) (impl_shuffledNumbers_ok fuel _ _ _ (hx34)) (zfree_map (fun y=>(.cons (zfree_v _) .nil))) rfl rfl rfl) ?_
 refine AO.step rfl (app_rv_map T rfl 16 rfl rfl rfl rfl rfl (by decide) rfl rfl rfl rfl (fun _=>rfl) (needT (hx36)) rfl rfl) ?_
 refine AO.pu T ?_
 refine AO.le (Le.closeM 1 v27.toNat 0 12 rfl rfl (getI_get (hx30)) rfl (u':=x29) rfl) ?_
 refine AO.nil (AW.region ?_)
 refine AO.val rfl rfl (arw_ok rfl rfl rfl rfl) ?_
 refine AO.pu T ?_
 refine AO.nil ?_
 refine ⟨(k5,(v25++x33),(v26.set v27.toNat x29),w64 (v27+1)),hH,Nat.lt_succ_self _,?_⟩
 exact Le.ct 16 11
 replace hH:=condF hc hH
 refine AW.exit (AW.seq (AW.region ?_))
 iterate 3 refine AO.pu T ?_
 refine AO.nil (AW.ret ?_)
 have hR:=someE hH;subst hR
 exact retQ.i [11] rfl (.t (expLG_cons (.c (.rowR rfl)) (expLG_cons (.c .v) (expLG_nil))))

end Go.Proofs.YtegdphhfimaieabGreat

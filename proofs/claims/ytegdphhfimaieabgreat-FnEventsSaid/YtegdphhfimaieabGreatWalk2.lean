/- The walk, part 2: what each function reached by the law FnEvents computes. No condition. -/
import Derived.Test.YtegdphhfimaieabGreatWalk1
set_option maxRecDepth 4000
set_option maxHeartbeats 1000000
set_option linter.unusedVariables false
set_option linter.unusedSimpArgs false
set_option linter.unusedSectionVars false

namespace Go.Proofs.YtegdphhfimaieabGreat
open Go.AM

def spec_evNext_l1 (e:Event):List Int→Nat→Option Int
 | [],k1 =>
  some 0
 | y2::ys3,k1 =>
  (spec_evHas_p e y2).bind fun x12 =>
  cond (!x12)
   (some y2)
   (spec_evNext_l1 e ys3 (k1+1))
def spec_evNext_p (e:Event):Option Int :=
 spec_evNext_l1 e e.order 0
theorem spec_evNext_ok (e:Event) (r:Int) (hH:spec_evNext_p e=some r):SpecR Tryz.prog 46 [.g (ze4 e)] (.v (.int .i64 r)):=by
 refine zFn T Tryz.func46 rfl (by decide) rfl ?_
 refine AW.q (AW.r (AO.s rfl (zBx T rfl 1 rfl rfl rfl rfl) ?_))
 refine AO.pu T ?_
 refine AO.n ?_
 iterate 2 refine AW.q ?_
 refine AW.r ?_
 iterate 2 refine AO.pu T ?_
 refine AO.v rfl rfl (zL T rfl rfl rfl) ?_
 refine AO.pu T ?_
 refine AO.n (AW.b ?_)
 refine AW.loopS (fun s:Nat=>(⟨[(1,.p 1 0),(6,.s (List.map ze0 e.order)),(7,(e.order.length:Int)),(8,(s:Int))],[(1,.box [e.segments,e.size,e.key,.s (List.map ze1 e.entrants),.s (List.map ze0 e.gone),e.segment,.s (List.map ze0 e.order),.s (List.map ze2 e.results)])],18,[]⟩:St)) (fun s=>s ≤ e.order.length∧spec_evNext_l1 e (e.order.drop s) s=some r) (fun s=>e.order.length - s) 0 ⟨Nat.zero_le _,hH⟩ ?_ ?_
 exact Le.ct 0 0
 rintro k1 ⟨hk,hH⟩
 replace hH:spec_evNext_l1 e (e.order.drop k1) k1=some r:=hH
 try dsimp only
 refine AW.boundM (t:=6) (l:=e.order) rfl (fun hb5=>?_)
 rcases hd4:e.order.drop k1 with _ | ⟨y2,ys3⟩
 rw [hd4,spec_evNext_l1] at hH
 have hlt6:=drop_ge hd4
 refine AW.q (AW.r (AO.pu T ?_))
 refine AO.n (AW.q (AW.condF' (b:=decide ((k1:Int) < (e.order.length:Int))) rfl (rngF hlt6) ?_))
 refine AW.exit (AW.q (AW.r ?_))
 refine AO.pu T ?_
 refine AO.n (AW.t ?_)
 have hR:=zS hH;subst hR
 exact retQ.i [] rfl (.c (.c .v))
 rw [hd4,spec_evNext_l1] at hH
 have hlt6:=drop_lt hd4
 refine AW.q (AW.r (AO.pu T ?_))
 refine AO.n (AW.q (AW.condT' (b:=decide ((k1:Int) < (e.order.length:Int))) rfl (rngT hlt6) ?_))
 refine AW.k (AW.q ?_)
 refine AW.b (AW.q (AW.r ?_))
 refine AO.v rfl rfl (zX T rfl rfl rfl rfl rfl (zgD hd4) rfl) ?_
 iterate 2 refine AO.pu T ?_
 refine AO.n (AW.q ?_)
 obtain ⟨x12,hx13,hH⟩:=zB hH
 refine AW.r (AO.pu T (d:=.g [e.segments,e.size,e.key,.s (List.map ze1 e.entrants),.s (List.map ze0 e.gone),e.segment,.s (List.map ze0 e.order),.s (List.map ze2 e.results)]) ?_)
 refine AO.pu T ?_
 refine AO.v rfl rfl (zV rfl rfl rfl rfl (spec_evHas_ok _ _ _ (hx13)) rfl) ?_
 refine AO.pu T ?_
 refine AO.n (AW.c (b:=(!x12)) rfl (fun hc=>?_) (fun hc=>?_))
 replace hH:=condT hc hH
 refine AW.q (AW.r ?_)
 iterate 2 refine AO.pu T ?_
 refine AO.n (AW.t ?_)
 have hR:=zS hH;subst hR
 exact retQ.i [] rfl (.c (.c .v))
 replace hH:=condF hc hH
 refine AW.k (AW.r ?_)
 refine AO.v rfl rfl (zR rfl rfl rfl rfl (zK hlt6 hb5)) ?_
 refine AO.pu T ?_
 refine AO.n ?_
 refine ⟨k1+1,⟨Nat.succ_le_of_lt hlt6,(by rw [zds hd4];exact hH)⟩,(by have:=hlt6;dsimp only;omega),?_⟩
 exact Le.ct 0 0

def spec_evScore_l1 (e:Event) (score:Int) (x1:Int) (x5:Event):Nat→List Result→List Result→Int→Option ((Event × Bool))
 | 0,_,_,_=>none
 | k7+1,v19,v20,v21 =>
  cond (decide (v21 < (x5.results.length:Int)))
   ((getI v20 v21).bind fun x23 =>
   cond (x23.skater == x1)
    ((getI x23.scores e.segment).bind fun x25 =>
    spec_evScore_l1 e score x1 x5 k7 (v20.set v21.toNat (Result.mk x23.skater (x23.scores.set e.segment.toNat score))) (v20.set v21.toNat (Result.mk x23.skater (x23.scores.set e.segment.toNat score))) (w64 (v21+1)))
    (spec_evScore_l1 e score x1 x5 k7 (v20.set v21.toNat x23) (v20.set v21.toNat x23) (w64 (v21+1))))
   ((spec_evEnd_p (Event.mk x5.segments x5.size x5.key x5.entrants x5.gone x5.segment x5.order v20)).bind fun x27 =>
   some (x27,true))
def spec_evScore_p (fuel:Nat) (e:Event) (score:Int):Option (Event × Bool) :=
 (spec_evNext_p e).bind fun x1 =>
 (opt (!(x1 == 0)) default (spec_l1In_p score 0 100000)).bind fun x3 =>
 cond ((x1 == 0) || (!x3))
  (some ((Event.mk 0 0 0 [] [] 0 [] []),false))
  ((spec_evOwn_p e).bind fun x5 =>
  spec_evScore_l1 e score x1 x5 fuel x5.results x5.results 0)
theorem spec_evScore_ok (fuel:Nat) (e:Event) (score:Int) (r:(Event × Bool)) (hH:spec_evScore_p fuel e score=some r):SpecR Tryz.prog 109 [.g (ze4 e),score] (.t [.g (ze4 r.1),.v (.bool r.2)]):=by
 refine zFn T Tryz.func109 rfl (by decide) rfl ?_
 refine AW.q (AW.r (AO.s rfl (zBx T rfl 1 rfl rfl rfl rfl) ?_))
 refine AO.s rfl (zA T rfl 2 rfl rfl rfl rfl rfl) ?_
 refine AO.pu T ?_
 refine AO.n (AW.q ?_)
 obtain ⟨x1,hx2,hH⟩:=zB hH
 refine AW.r (AO.pu T (d:=.g [e.segments,e.size,e.key,.s (List.map ze1 e.entrants),.s (List.map ze0 e.gone),e.segment,.s (List.map ze0 e.order),.s (List.map ze2 e.results)]) ?_)
 refine AO.v rfl rfl (zV rfl rfl rfl rfl (spec_evNext_ok _ _ (hx2)) rfl) ?_
 refine AO.pu T ?_
 refine AO.n ?_
 iterate 2 refine AW.q ?_
 obtain ⟨x3,hx4,hH⟩:=zB hH
 refine AW.r ?_
 iterate 3 refine AO.pu T ?_
 refine AO.g T [] rfl trivial rfl rfl ?_
 refine AO.d [15] rfl ⟨fun h=>h,trivial⟩ (fun hg=>zV rfl rfl rfl rfl (spec_l1In_ok _ _ _ _ (optT hx4 hg)) rfl) rfl ?_
 refine AO.g T [16] rfl ⟨fun h=>h,trivial⟩ rfl rfl ?_
 refine AO.v rfl rfl (zO rfl rfl rfl rfl) ?_
 refine AO.n (AW.c (b:=((x1 == 0) || (!x3))) rfl (fun hc=>?_) (fun hc=>?_))
 replace hH:=condT hc hH
 refine AW.q (AW.r (AO.pu T (d:=.g [(0:Int),(0:Int),(0:Int),.w 0 [],.w 0 [],(0:Int),.w 0 [],.w 0 []]) ?_))
 refine AO.se T [(0:Int),(0:Int),(0:Int),.w 0 [],.w 0 [],(0:Int),.w 0 [],.w 0 []] ?_
 refine AO.pu T ?_
 refine AO.n (AW.t ?_)
 have hR:=zS hH;subst hR
 exact retQ.i [] rfl (.t (zG (.g (zC .v (zC .v (zC .v (zC .nilS (zC .nilS (zC .v (zC .nilS (zC .nilS (zCn)))))))))) (zG (.c .v) (zGn))))
 replace hH:=condF hc hH
 refine AW.k (AW.q ?_)
 obtain ⟨x5,hx6,hH⟩:=zB hH
 refine AW.r (AO.pu T (d:=.g [e.segments,e.size,e.key,.s (List.map ze1 e.entrants),.s (List.map ze0 e.gone),e.segment,.s (List.map ze0 e.order),.s (List.map ze2 e.results)]) ?_)
 refine AO.s rfl (call_ok rfl 3 rfl rfl rfl (spec_evOwn_ok _ _ (hx6)) rfl rfl rfl) ?_
 refine AO.s rfl (zA T rfl 7 rfl rfl rfl rfl rfl) ?_
 refine AO.se T [x5.segments,x5.size,x5.key,.R 3,.R 4,x5.segment,.R 5,.R 6] ?_
 refine AO.n ?_
 iterate 2 refine AW.q ?_
 refine AW.r ?_
 iterate 2 refine AO.pu T ?_
 refine AO.v rfl rfl (len_row_ok T rfl rfl rfl rfl) ?_
 refine AO.pu T ?_
 refine AO.n (AW.b ?_)
 refine AW.loopS (fun s:Nat × (List Result) × (List Result) × Int=>(⟨[(1,score),(2,.p 1 0),(4,.p 2 0),(6,x1),(7,.p 7 0),(23,.R 6),(24,(x5.results.length:Int)),(25,s.2.2.2)],[(1,.box [e.segments,e.size,e.key,.s (List.map ze1 e.entrants),.s (List.map ze0 e.gone),e.segment,.s (List.map ze0 e.order),.s (List.map ze2 e.results)]),(2,.box [(0:Int),(0:Int),(0:Int),.w 0 [],.w 0 [],(0:Int),.w 0 [],.w 0 []]),(3,.row 2 (List.map ze1 x5.entrants)),(4,.row 1 (List.map ze0 x5.gone)),(5,.row 1 (List.map ze0 x5.order)),(6,.row 2 (List.map ze6 s.2.2.1)),(7,.box [x5.segments,x5.size,x5.key,.R 3,.R 4,x5.segment,.R 5,.R 6])],42,[]⟩:St)) (fun s=>spec_evScore_l1 e score x1 x5 s.1 s.2.1 s.2.2.1 s.2.2.2=some r) (fun s=>s.1) (fuel,x5.results,x5.results,0) hH ?_ ?_
 exact Le.ct 0 0
 rintro ⟨k7,v19,v20,v21⟩ hH
 replace hH:spec_evScore_l1 e score x1 x5 k7 v19 v20 v21=some r:=hH
 try dsimp only
 rcases k7 with _ | k7
 cases (show none=some _ from hH)
 rw [spec_evScore_l1] at hH
 refine AW.q (AW.r (AO.pu T ?_))
 refine AO.n (AW.q (AW.c (b:=decide (v21 < (x5.results.length:Int))) rfl (fun hc=>?_) (fun hc=>?_)))
 replace hH:=condT hc hH
 refine AW.k (AW.q ?_)
 refine AW.b (AW.q ?_)
 obtain ⟨x23,hx24,hH⟩:=zB hH
 refine AW.le (Le.openM 6 v21.toNat 1 12 rfl (zgG (hx24)) rfl rfl) ?_
 refine AW.r (AO.v rfl rfl (ix_lent_ok T rfl rfl rfl rfl rfl rfl (hx24)) ?_)
 refine AO.v rfl rfl (load_lentS_ok T rfl rfl rfl rfl rfl (zgG (hx24)) rfl rfl rfl) ?_
 refine AO.s rfl (zA T rfl 13 rfl rfl rfl rfl rfl) ?_
 refine AO.se T [x23.skater,.R 12] ?_
 refine AO.n (AW.q (AW.r ?_))
 iterate 4 refine AO.pu T ?_
 refine AO.n (AW.c (b:=(x23.skater == x1)) rfl (fun hc=>?_) (fun hc=>?_))
 replace hH:=condT hc hH
 obtain ⟨x25,hx26,hH⟩:=zB hH
 refine AW.r ?_
 iterate 5 refine AO.pu T ?_
 refine AO.v rfl rfl (zXr T rfl rfl rfl rfl rfl rfl (hx26)) ?_
 refine AO.s rfl (zSr T rfl rfl rfl rfl rfl (zgG (hx26)) rfl rfl rfl rfl (u':=score) rfl rfl) ?_
 refine AO.le (Le.closeM 6 v21.toNat 1 12 rfl rfl (zgG (hx24)) rfl (u':=(Result.mk x23.skater (x23.scores.set e.segment.toNat score))) rfl) ?_
 refine AO.n (AW.r ?_)
 refine AO.v rfl rfl (zW rfl rfl rfl rfl) ?_
 refine AO.pu T ?_
 refine AO.n ?_
 refine ⟨(k7,(v20.set v21.toNat (Result.mk x23.skater (x23.scores.set e.segment.toNat score))),(v20.set v21.toNat (Result.mk x23.skater (x23.scores.set e.segment.toNat score))),w64 (v21+1)),hH,Nat.lt_succ_self _,?_⟩
 exact Le.ct 0 0
 replace hH:=condF hc hH
 refine AW.k (AW.r ?_)
 refine AO.v rfl rfl (zW rfl rfl rfl rfl) ?_
 refine AO.pu T ?_
 refine AO.le (Le.closeM 6 v21.toNat 1 12 rfl rfl (zgG (hx24)) rfl (u':=x23) rfl) ?_
 refine AO.n ?_
 refine ⟨(k7,(v20.set v21.toNat x23),(v20.set v21.toNat x23),w64 (v21+1)),hH,Nat.lt_succ_self _,?_⟩
 exact Le.ct 0 0
 replace hH:=condF hc hH
 refine AW.exit (AW.q ?_)
 obtain ⟨x27,hx28,hH⟩:=zB hH
 refine AW.le (Le.fM 3 (g:=ze1) rfl (fun y=>.vs rfl)) ?_
 refine AW.le (Le.fM 4 (g:=ze0) rfl (fun y=>.vs rfl)) ?_
 refine AW.le (Le.fM 5 (g:=ze0) rfl (fun y=>.vs rfl)) ?_
 refine AW.le (Le.fM 6 (g:=ze2) rfl (fun y=>frzResult y)) ?_
 refine AW.r (AO.pu T (d:=.g [x5.segments,x5.size,x5.key,.s (List.map ze1 x5.entrants),.s (List.map ze0 x5.gone),x5.segment,.s (List.map ze0 x5.order),.s (List.map ze2 v20)]) ?_)
 refine AO.v rfl rfl (zV rfl rfl rfl rfl (spec_evEnd_ok _ _ (hx28)) rfl) ?_
 refine AO.se T [x27.segments,x27.size,x27.key,.s (List.map ze1 x27.entrants),.s (List.map ze0 x27.gone),x27.segment,.s (List.map ze0 x27.order),.s (List.map ze2 x27.results)] ?_
 refine AO.pu T ?_
 refine AO.n (AW.t ?_)
 have hR:=zS hH;subst hR
 exact retQ.i [] rfl (.t (zG (.g (zC .v (zC .v (zC .v (zC .s (zC .s (zC .v (zC .s (zC .s (zCn)))))))))) (zG (.c .v) (zGn))))

def spec_evStep_p (fuel:Nat) (e:Event) (sA:Step):Option (Event × Bool) :=
 cond (e.segment == e.segments)
  (some ((Event.mk 0 0 0 [] [] 0 [] []),false))
  (cond (sA.kind == 1)
   ((spec_evEnter_p fuel e (Entrant.mk sA.skater sA.number)).bind fun x1 =>
   some ((Event.mk x1.1.segments x1.1.size x1.1.key x1.1.entrants x1.1.gone x1.1.segment x1.1.order x1.1.results),x1.2))
   (cond (sA.kind == 2)
    ((spec_evLeave_p fuel e sA.skater).bind fun x3 =>
    some ((Event.mk x3.1.segments x3.1.size x3.1.key x3.1.entrants x3.1.gone x3.1.segment x3.1.order x3.1.results),x3.2))
    (cond (sA.kind == 3)
     ((spec_evDraw_p fuel e).bind fun x5 =>
     some ((Event.mk x5.1.segments x5.1.size x5.1.key x5.1.entrants x5.1.gone x5.1.segment x5.1.order x5.1.results),x5.2))
     (cond (sA.kind == 4)
      ((spec_evScore_p fuel e sA.number).bind fun x7 =>
      some ((Event.mk x7.1.segments x7.1.size x7.1.key x7.1.entrants x7.1.gone x7.1.segment x7.1.order x7.1.results),x7.2))
      (some ((Event.mk 0 0 0 [] [] 0 [] []),false))))))
theorem spec_evStep_ok (fuel:Nat) (e:Event) (sA:Step) (r:(Event × Bool)) (hH:spec_evStep_p fuel e sA=some r):SpecR Tryz.prog 71 [.g (ze4 e),.g (ze7 sA)] (.t [.g (ze4 r.1),.v (.bool r.2)]):=by
 refine zFn T Tryz.func71 rfl (by decide) rfl ?_
 refine AW.q (AW.r (AO.s rfl (zBx T rfl 1 rfl rfl rfl rfl) ?_))
 refine AO.s rfl (zBx T rfl 2 rfl rfl rfl rfl) ?_
 refine AO.s rfl (zA T rfl 3 rfl rfl rfl rfl rfl) ?_
 refine AO.pu T ?_
 refine AO.n ?_
 iterate 2 refine AW.q ?_
 refine AW.r ?_
 iterate 5 refine AO.pu T ?_
 refine AO.n (AW.c (b:=(e.segment == e.segments)) rfl (fun hc=>?_) (fun hc=>?_))
 replace hH:=condT hc hH
 refine AW.q (AW.r (AO.pu T (d:=.g [(0:Int),(0:Int),(0:Int),.w 0 [],.w 0 [],(0:Int),.w 0 [],.w 0 []]) ?_))
 refine AO.se T [(0:Int),(0:Int),(0:Int),.w 0 [],.w 0 [],(0:Int),.w 0 [],.w 0 []] ?_
 refine AO.pu T ?_
 refine AO.n (AW.t ?_)
 have hR:=zS hH;subst hR
 exact retQ.i [] rfl (.t (zG (.g (zC .v (zC .v (zC .v (zC .nilS (zC .nilS (zC .v (zC .nilS (zC .nilS (zCn)))))))))) (zG (.c .v) (zGn))))
 replace hH:=condF hc hH
 refine AW.k ?_
 iterate 2 refine AW.q ?_
 refine AW.r ?_
 iterate 2 refine AO.pu T ?_
 refine AO.n (AW.b ?_)
 refine AW.q (AW.r ?_)
 iterate 2 refine AO.pu T ?_
 refine AO.n (AW.c (b:=(sA.kind == 1)) rfl (fun hc=>?_) (fun hc=>?_))
 replace hH:=condT hc hH
 refine AW.q ?_
 obtain ⟨x1,hx2,hH⟩:=zB hH
 refine AW.r (AO.pu T (d:=.g [e.segments,e.size,e.key,.s (List.map ze1 e.entrants),.s (List.map ze0 e.gone),e.segment,.s (List.map ze0 e.order),.s (List.map ze2 e.results)]) ?_)
 iterate 4 refine AO.pu T ?_
 refine AO.pu T (d:=.g [sA.skater,sA.number]) ?_
 refine AO.s rfl (call_ok rfl 4 rfl rfl rfl (spec_evEnter_ok fuel _ _ _ (hx2)) rfl rfl rfl) ?_
 refine AO.pu T (d:=.g [x1.1.segments,x1.1.size,x1.1.key,.R 4,.R 5,x1.1.segment,.R 6,.R 7]) ?_
 refine AO.pu T ?_
 refine AO.se T [x1.1.segments,x1.1.size,x1.1.key,.R 4,.R 5,x1.1.segment,.R 6,.R 7] ?_
 refine AO.pu T ?_
 refine AO.n (AW.le (Le.ct 0 0 (σ':=(⟨[(4,.p 3 0),(5,.v (.bool x1.2))],[(3,.box [x1.1.segments,x1.1.size,x1.1.key,.R 4,.R 5,x1.1.segment,.R 6,.R 7]),(4,.row 2 (List.map ze1 x1.1.entrants)),(5,.row 1 (List.map ze0 x1.1.gone)),(6,.row 1 (List.map ze0 x1.1.order)),(7,.row 2 (List.map ze6 x1.1.results))],48,[]⟩:St))) ?_)
 refine AW.le (Le.fM 7 (g:=ze2) rfl (fun y=>frzResult y)) ?_
 refine AW.le (Le.fM 6 (g:=ze0) rfl (fun y=>.vs rfl)) ?_
 refine AW.le (Le.fM 5 (g:=ze0) rfl (fun y=>.vs rfl)) ?_
 refine AW.le (Le.fM 4 (g:=ze1) rfl (fun y=>.vs rfl)) ?_
 refine AW.t ?_
 have hR:=zS hH;subst hR
 exact retQ.i [] rfl (.t (zG (.g (zC .v (zC .v (zC .v (zC .s (zC .s (zC .v (zC .s (zC .s (zCn)))))))))) (zG (.c .v) (zGn))))
 replace hH:=condF hc hH
 refine AW.q (AW.r ?_)
 iterate 2 refine AO.pu T ?_
 refine AO.n (AW.c (b:=(sA.kind == 2)) rfl (fun hc=>?_) (fun hc=>?_))
 replace hH:=condT hc hH
 refine AW.q ?_
 obtain ⟨x3,hx4,hH⟩:=zB hH
 refine AW.r (AO.pu T (d:=.g [e.segments,e.size,e.key,.s (List.map ze1 e.entrants),.s (List.map ze0 e.gone),e.segment,.s (List.map ze0 e.order),.s (List.map ze2 e.results)]) ?_)
 iterate 2 refine AO.pu T ?_
 refine AO.v rfl rfl (zV rfl rfl rfl rfl (spec_evLeave_ok fuel _ _ _ (hx4)) rfl) ?_
 refine AO.pu T (d:=.g [x3.1.segments,x3.1.size,x3.1.key,.s (List.map ze1 x3.1.entrants),.s (List.map ze0 x3.1.gone),x3.1.segment,.s (List.map ze0 x3.1.order),.s (List.map ze2 x3.1.results)]) ?_
 refine AO.pu T ?_
 refine AO.se T [x3.1.segments,x3.1.size,x3.1.key,.s (List.map ze1 x3.1.entrants),.s (List.map ze0 x3.1.gone),x3.1.segment,.s (List.map ze0 x3.1.order),.s (List.map ze2 x3.1.results)] ?_
 refine AO.pu T ?_
 refine AO.n (AW.t ?_)
 have hR:=zS hH;subst hR
 exact retQ.i [] rfl (.t (zG (.g (zC .v (zC .v (zC .v (zC .s (zC .s (zC .v (zC .s (zC .s (zCn)))))))))) (zG (.c .v) (zGn))))
 replace hH:=condF hc hH
 refine AW.q (AW.r ?_)
 iterate 2 refine AO.pu T ?_
 refine AO.n (AW.c (b:=(sA.kind == 3)) rfl (fun hc=>?_) (fun hc=>?_))
 replace hH:=condT hc hH
 refine AW.q ?_
 obtain ⟨x5,hx6,hH⟩:=zB hH
 refine AW.r (AO.pu T (d:=.g [e.segments,e.size,e.key,.s (List.map ze1 e.entrants),.s (List.map ze0 e.gone),e.segment,.s (List.map ze0 e.order),.s (List.map ze2 e.results)]) ?_)
 refine AO.v rfl rfl (zV rfl rfl rfl rfl (spec_evDraw_ok fuel _ _ (hx6)) rfl) ?_
 refine AO.pu T (d:=.g [x5.1.segments,x5.1.size,x5.1.key,.s (List.map ze1 x5.1.entrants),.s (List.map ze0 x5.1.gone),x5.1.segment,.s (List.map ze0 x5.1.order),.s (List.map ze2 x5.1.results)]) ?_
 refine AO.pu T ?_
 refine AO.se T [x5.1.segments,x5.1.size,x5.1.key,.s (List.map ze1 x5.1.entrants),.s (List.map ze0 x5.1.gone),x5.1.segment,.s (List.map ze0 x5.1.order),.s (List.map ze2 x5.1.results)] ?_
 refine AO.pu T ?_
 refine AO.n (AW.t ?_)
 have hR:=zS hH;subst hR
 exact retQ.i [] rfl (.t (zG (.g (zC .v (zC .v (zC .v (zC .s (zC .s (zC .v (zC .s (zC .s (zCn)))))))))) (zG (.c .v) (zGn))))
 replace hH:=condF hc hH
 refine AW.q (AW.r ?_)
 iterate 2 refine AO.pu T ?_
 refine AO.n (AW.c (b:=(sA.kind == 4)) rfl (fun hc=>?_) (fun hc=>?_))
 replace hH:=condT hc hH
 refine AW.q ?_
 obtain ⟨x7,hx8,hH⟩:=zB hH
 refine AW.r (AO.pu T (d:=.g [e.segments,e.size,e.key,.s (List.map ze1 e.entrants),.s (List.map ze0 e.gone),e.segment,.s (List.map ze0 e.order),.s (List.map ze2 e.results)]) ?_)
 iterate 2 refine AO.pu T ?_
 refine AO.v rfl rfl (zV rfl rfl rfl rfl (spec_evScore_ok fuel _ _ _ (hx8)) rfl) ?_
 refine AO.pu T (d:=.g [x7.1.segments,x7.1.size,x7.1.key,.s (List.map ze1 x7.1.entrants),.s (List.map ze0 x7.1.gone),x7.1.segment,.s (List.map ze0 x7.1.order),.s (List.map ze2 x7.1.results)]) ?_
 refine AO.pu T ?_
 refine AO.se T [x7.1.segments,x7.1.size,x7.1.key,.s (List.map ze1 x7.1.entrants),.s (List.map ze0 x7.1.gone),x7.1.segment,.s (List.map ze0 x7.1.order),.s (List.map ze2 x7.1.results)] ?_
 refine AO.pu T ?_
 refine AO.n (AW.le (Le.ct 0 0 (σ':=(⟨[(4,.p 3 0),(5,.v (.bool x7.2))],[(3,.box [x7.1.segments,x7.1.size,x7.1.key,.s (List.map ze1 x7.1.entrants),.s (List.map ze0 x7.1.gone),x7.1.segment,.s (List.map ze0 x7.1.order),.s (List.map ze2 x7.1.results)])],48,[]⟩:St))) ?_)
 refine AW.t ?_
 have hR:=zS hH;subst hR
 exact retQ.i [] rfl (.t (zG (.g (zC .v (zC .v (zC .v (zC .s (zC .s (zC .v (zC .s (zC .s (zCn)))))))))) (zG (.c .v) (zGn))))
 replace hH:=condF hc hH
 refine AW.k (AW.q (AW.r ?_))
 refine AO.pu T (d:=.g [(0:Int),(0:Int),(0:Int),.w 0 [],.w 0 [],(0:Int),.w 0 [],.w 0 []]) ?_
 refine AO.se T [(0:Int),(0:Int),(0:Int),.w 0 [],.w 0 [],(0:Int),.w 0 [],.w 0 []] ?_
 refine AO.pu T ?_
 refine AO.n (AW.t ?_)
 have hR:=zS hH;subst hR
 exact retQ.i [] rfl (.t (zG (.g (zC .v (zC .v (zC .v (zC .nilS (zC .nilS (zC .v (zC .nilS (zC .nilS (zCn)))))))))) (zG (.c .v) (zGn))))

def spec_l1Cur_event_l1 (fuel:Nat) (x7:(L1Cur × (List Step))):List Step→Nat→Int→Int→Int→List Entrant→List Int→Int→List Int→List Result→Option ((L1Cur × Event))
 | [],k9,v27,v28,v29,v30,v31,v32,v33,v34 =>
  (spec_evOwn_p (Event.mk v27 v28 v29 v30 v31 v32 v33 v34)).bind fun x36 =>
  (spec_l1Cur_pick_p (L1Cur.mk x7.1.code x7.1.at' x7.1.seed) 40).bind fun x38 =>
  cond (x38.2 == 0)
   ((spec_l1Cur_among_p (L1Cur.mk x38.1.code x38.1.at' x38.1.seed) ([0,1,3,4]:List Int)).bind fun x40 =>
   some ((L1Cur.mk x40.1.code x40.1.at' x40.1.seed),(Event.mk x40.2 x36.size x36.key x36.entrants x36.gone x36.segment x36.order x36.results)))
   (cond (x38.2 == 1)
    ((spec_l1Cur_among_p (L1Cur.mk x38.1.code x38.1.at' x38.1.seed) ([0,8,9]:List Int)).bind fun x42 =>
    some ((L1Cur.mk x42.1.code x42.1.at' x42.1.seed),(Event.mk x36.segments x42.2 x36.key x36.entrants x36.gone x36.segment x36.order x36.results)))
    (cond (x38.2 == 2)
     ((spec_l1Cur_among_p (L1Cur.mk x38.1.code x38.1.at' x38.1.seed) ([(-1),1000000000,1000000001]:List Int)).bind fun x44 =>
     some ((L1Cur.mk x44.1.code x44.1.at' x44.1.seed),(Event.mk x36.segments x36.size x44.2 x36.entrants x36.gone x36.segment x36.order x36.results)))
     (cond (x38.2 == 3)
      ((spec_l1Cur_pick_p (L1Cur.mk x38.1.code x38.1.at' x38.1.seed) 3).bind fun x46 =>
      some ((L1Cur.mk x46.1.code x46.1.at' x46.1.seed),(Event.mk x36.segments x36.size x36.key x36.entrants x36.gone (w64 (x36.segment+(w64 (x46.2 - 1)))) x36.order x36.results)))
      (cond (x38.2 == 4)
       (cond (decide ((x36.entrants.length:Int) > 0))
        ((spec_l1Cur_pick_p (L1Cur.mk x38.1.code x38.1.at' x38.1.seed) (x36.entrants.length:Int)).bind fun x48 =>
        (getI x36.entrants x48.2).bind fun x50 =>
        (spec_l1Put_p fuel x36.gone x50.skater).bind fun x52 =>
        some ((L1Cur.mk x48.1.code x48.1.at' x48.1.seed),(Event.mk x36.segments x36.size x36.key x36.entrants x52 x36.segment x36.order x36.results)))
        (some ((L1Cur.mk x38.1.code x38.1.at' x38.1.seed),x36)))
       (cond (x38.2 == 5)
        (cond (decide ((x36.order.length:Int) > 0))
         ((sliceLo x36.order 1).bind fun x54 =>
         some ((L1Cur.mk x38.1.code x38.1.at' x38.1.seed),(Event.mk x36.segments x36.size x36.key x36.entrants x36.gone x36.segment x54 x36.results)))
         (some ((L1Cur.mk x38.1.code x38.1.at' x38.1.seed),x36)))
        (cond (x38.2 == 6)
         (cond (decide ((x36.entrants.length:Int) > 0))
          ((spec_l1Cur_pick_p (L1Cur.mk x38.1.code x38.1.at' x38.1.seed) (x36.entrants.length:Int)).bind fun x56 =>
          (getI x36.results x56.2).bind fun x58 =>
          (spec_l1Cur_among_p (L1Cur.mk x56.1.code x56.1.at' x56.1.seed) ([(-1),5,100000,100001]:List Int)).bind fun x60 =>
          (getI x58.scores 0).bind fun x62 =>
          some ((L1Cur.mk x60.1.code x60.1.at' x60.1.seed),(Event.mk x36.segments x36.size x36.key x36.entrants x36.gone x36.segment x36.order (x36.results.set x56.2.toNat (Result.mk x58.skater (x58.scores.set ((0:Int).toNat) x60.2))))))
          (some ((L1Cur.mk x38.1.code x38.1.at' x38.1.seed),x36)))
         (cond (x38.2 == 7)
          (cond (decide ((x36.entrants.length:Int) > 0))
           ((sliceLo x36.results 1).bind fun x64 =>
           some ((L1Cur.mk x38.1.code x38.1.at' x38.1.seed),(Event.mk x36.segments x36.size x36.key x36.entrants x36.gone x36.segment x36.order x64)))
           (some ((L1Cur.mk x38.1.code x38.1.at' x38.1.seed),x36)))
          (cond (x38.2 == 8)
           ((spec_l1Cur_among_p (L1Cur.mk x38.1.code x38.1.at' x38.1.seed) ([0,5,7]:List Int)).bind fun x66 =>
           (need (fitsB 8 (x36.order.length+([x66.2]).length))).bind fun u68 =>
           some ((L1Cur.mk x66.1.code x66.1.at' x66.1.seed),(Event.mk x36.segments x36.size x36.key x36.entrants x36.gone x36.segment (x36.order++[x66.2]) x36.results)))
           (some ((L1Cur.mk x38.1.code x38.1.at' x38.1.seed),x36))))))))))
 | y10::ys11,k9,v27,v28,v29,v30,v31,v32,v33,v34 =>
  (spec_evStep_p fuel (Event.mk v27 v28 v29 v30 v31 v32 v33 v34) y10).bind fun x70 =>
  cond x70.2
   (spec_l1Cur_event_l1 fuel x7 ys11 (k9+1) x70.1.segments x70.1.size x70.1.key x70.1.entrants x70.1.gone x70.1.segment x70.1.order x70.1.results)
   (spec_l1Cur_event_l1 fuel x7 ys11 (k9+1) v27 v28 v29 v30 v31 v32 v33 v34)
def spec_l1Cur_event_p (fuel:Nat) (c:L1Cur):Option (L1Cur × Event) :=
 (spec_l1Cur_pick_p c 3).bind fun x1 =>
 (spec_l1Cur_among_p (L1Cur.mk x1.1.code x1.1.at' x1.1.seed) ([1,2,3,8]:List Int)).bind fun x3 =>
 (spec_l1Cur_pick_p (L1Cur.mk x3.1.code x3.1.at' x3.1.seed) 60000).bind fun x5 =>
 (spec_l1Cur_steps_p fuel (L1Cur.mk x5.1.code x5.1.at' x5.1.seed)).bind fun x7 =>
 spec_l1Cur_event_l1 fuel x7 x7.2 0 (w64 (1+x1.2)) x3.2 x5.2 [] [] 0 [] []
theorem spec_l1Cur_event_ok (fuel:Nat) (c:L1Cur) (r:(L1Cur × Event)) (hH:spec_l1Cur_event_p fuel c=some r):SpecM Tryz.prog 58 [.pw (ze3 c)] [.pw (ze3 r.1)] (.g (ze4 r.2)):=by
 refine fn_okM T Tryz.func58 rfl (by decide) rfl rfl ?_
 intro L
 show AW _ _ _ (⟨[(0,.p 1 0)],[(1,.box [.s (List.map ze5 c.code),c.at',.v (.int .u64 c.seed)])],129,[(1,L 1)]⟩:St)
 refine AW.q (AW.r (AO.s rfl (zA T rfl 2 rfl rfl rfl rfl rfl) ?_))
 refine AO.n (AW.q ?_)
 obtain ⟨x1,hx2,hH⟩:=zB hH
 obtain ⟨x3,hx4,hH⟩:=zB hH
 obtain ⟨x5,hx6,hH⟩:=zB hH
 refine AW.r (AO.pu T ?_)
 refine AO.s rfl (zM rfl 3 rfl rfl (es:=[.pw (ze3 c),.v (.int .i64 3)]) (outs:=[.pw (ze3 x1.1),.u]) (ids:=[1]) (by exact zG (.c (.box rfl rfl)) (zG (.c .v) (zGn))) (by decide) (.inl (by rfl)) (by rfl) (spec_l1Cur_pick_ok _ _ _ (hx2)) rfl (by rfl) rfl) ?_
 refine AO.v rfl rfl (zW rfl rfl rfl rfl) ?_
 refine AO.pu T ?_
 refine AO.s rfl (mk_map_ok T rfl 3 rfl rfl rfl rfl rfl (f:=ze0) (l:=([1,2,3,8]:List Int)) rfl rfl (fun _=>rfl) rfl rfl rfl rfl rfl) ?_
 refine AO.le (Le.fM 3 (g:=ze0) rfl (fun y=>.vs rfl)) ?_
 refine AO.s rfl (zM rfl 4 rfl rfl (es:=[.pw (ze3 (L1Cur.mk x1.1.code x1.1.at' x1.1.seed)),.s (([1,2,3,8]:List Int).map ze0)]) (outs:=[.pw (ze3 x3.1),.u]) (ids:=[1]) (by exact zG (.c (.box rfl rfl)) (zG (.c .s) (zGn))) (by decide) (.inl (by rfl)) (by rfl) (spec_l1Cur_among_ok _ _ _ (hx4)) rfl (by rfl) rfl) ?_
 refine AO.pu T ?_
 refine AO.s rfl (zM rfl 4 rfl rfl (es:=[.pw (ze3 (L1Cur.mk x3.1.code x3.1.at' x3.1.seed)),.v (.int .i64 60000)]) (outs:=[.pw (ze3 x5.1),.u]) (ids:=[1]) (by exact zG (.c (.box rfl rfl)) (zG (.c .v) (zGn))) (by decide) (.inl (by rfl)) (by rfl) (spec_l1Cur_pick_ok _ _ _ (hx6)) rfl (by rfl) rfl) ?_
 refine AO.pu T (d:=.g [w64 (1+x1.2),x3.2,x5.2,.w 0 [],.w 0 [],(0:Int),.w 0 [],.w 0 []]) ?_
 refine AO.s rfl (zA T rfl 4 rfl rfl rfl rfl rfl) ?_
 refine AO.se T [w64 (1+x1.2),x3.2,x5.2,.w 0 [],.w 0 [],(0:Int),.w 0 [],.w 0 []] ?_
 refine AO.n ?_
 iterate 2 refine AW.q ?_
 obtain ⟨x7,hx8,hH⟩:=zB hH
 refine AW.r (AO.pu T ?_)
 refine AO.s rfl (zM rfl 5 rfl rfl (es:=[.pw (ze3 (L1Cur.mk x5.1.code x5.1.at' x5.1.seed))]) (outs:=[.pw (ze3 x7.1)]) (ids:=[1]) (by exact zG (.c (.box rfl rfl)) (zGn)) (by decide) (.inl (by rfl)) (by rfl) (spec_l1Cur_steps_ok fuel _ _ (hx8)) rfl (by rfl) rfl) ?_
 refine AO.v rfl rfl (len_row_ok T rfl rfl rfl rfl) ?_
 refine AO.pu T ?_
 refine AO.n (AW.b ?_)
 refine AW.loopS (fun s:Nat × Int × Int × Int × (List Entrant) × (List Int) × Int × (List Int) × (List Result)=>(⟨[(0,.p 1 0),(2,.p 2 0),(3,.p 4 0),(19,.R 5),(20,(x7.2.length:Int)),(21,(s.1:Int))],[(1,.box [.s (List.map ze5 x7.1.code),x7.1.at',.v (.int .u64 x7.1.seed)]),(2,.box [(0:Int),(0:Int),(0:Int),.w 0 [],.w 0 [],(0:Int),.w 0 [],.w 0 []]),(4,.box [s.2.1,s.2.2.1,s.2.2.2.1,.s (List.map ze1 s.2.2.2.2.1),.s (List.map ze0 s.2.2.2.2.2.1),s.2.2.2.2.2.2.1,.s (List.map ze0 s.2.2.2.2.2.2.2.1),.s (List.map ze2 s.2.2.2.2.2.2.2.2)]),(5,.row 3 (List.map ze7 x7.2))],129,[(1,L 1)]⟩:St)) (fun s=>s.1 ≤ x7.2.length∧spec_l1Cur_event_l1 fuel x7 (x7.2.drop s.1) s.1 s.2.1 s.2.2.1 s.2.2.2.1 s.2.2.2.2.1 s.2.2.2.2.2.1 s.2.2.2.2.2.2.1 s.2.2.2.2.2.2.2.1 s.2.2.2.2.2.2.2.2=some r) (fun s=>x7.2.length - s.1) (0,w64 (1+x1.2),x3.2,x5.2,[],[],0,[],[]) ⟨Nat.zero_le _,hH⟩ ?_ ?_
 refine Le.trans (Le.nilSBox 4 3 rfl rfl) ?_
 refine Le.trans (Le.nilSBox 4 4 rfl rfl) ?_
 refine Le.trans (Le.nilSBox 4 6 rfl rfl) ?_
 refine Le.trans (Le.nilSBox 4 7 rfl rfl) ?_
 exact Le.ct 0 0 (hpin:=⟨⟨rfl,rfl⟩,trivial⟩)
 rintro ⟨k9,v27,v28,v29,v30,v31,v32,v33,v34⟩ ⟨hk,hH⟩
 replace hH:spec_l1Cur_event_l1 fuel x7 (x7.2.drop k9) k9 v27 v28 v29 v30 v31 v32 v33 v34=some r:=hH
 try dsimp only
 refine AW.boundR (id:=5) (l:=x7.2) rfl (fun hb13=>?_)
 rcases hd12:x7.2.drop k9 with _ | ⟨y10,ys11⟩
 rw [hd12,spec_l1Cur_event_l1] at hH
 have hlt14:=drop_ge hd12
 refine AW.q (AW.r (AO.pu T ?_))
 refine AO.n (AW.q (AW.condF' (b:=decide ((k9:Int) < (x7.2.length:Int))) rfl (rngF hlt14) ?_))
 refine AW.exit (AW.q ?_)
 obtain ⟨x36,hx37,hH⟩:=zB hH
 refine AW.r (AO.pu T (d:=.g [v27,v28,v29,.s (List.map ze1 v30),.s (List.map ze0 v31),v32,.s (List.map ze0 v33),.s (List.map ze2 v34)]) ?_)
 refine AO.s rfl (call_ok rfl 10 rfl rfl rfl (spec_evOwn_ok _ _ (hx37)) rfl rfl rfl) ?_
 refine AO.se T [x36.segments,x36.size,x36.key,.R 10,.R 11,x36.segment,.R 12,.R 13] ?_
 refine AO.n (AW.q (AW.r ?_))
 iterate 2 refine AO.pu T ?_
 refine AO.v rfl rfl (len_row_ok T rfl rfl rfl rfl) ?_
 refine AO.pu T ?_
 refine AO.n ?_
 iterate 2 refine AW.q ?_
 obtain ⟨x38,hx39,hH⟩:=zB hH
 refine AW.r (AO.pu T ?_)
 refine AO.s rfl (zM rfl 14 rfl rfl (es:=[.pw (ze3 (L1Cur.mk x7.1.code x7.1.at' x7.1.seed)),.v (.int .i64 40)]) (outs:=[.pw (ze3 x38.1),.u]) (ids:=[1]) (by exact zG (.c (.box rfl rfl)) (zG (.c .v) (zGn))) (by decide) (.inl (by rfl)) (by rfl) (spec_l1Cur_pick_ok _ _ _ (hx39)) rfl (by rfl) rfl) ?_
 refine AO.n (AW.b ?_)
 refine AW.q (AW.r ?_)
 iterate 2 refine AO.pu T ?_
 refine AO.n (AW.c (b:=(x38.2 == 0)) rfl (fun hc=>?_) (fun hc=>?_))
 replace hH:=condT hc hH
 obtain ⟨x40,hx41,hH⟩:=zB hH
 refine AW.r (AO.pu T ?_)
 refine AO.s rfl (mk_map_ok T rfl 14 rfl rfl rfl rfl rfl (f:=ze0) (l:=([0,1,3,4]:List Int)) rfl rfl (fun _=>rfl) rfl rfl rfl rfl rfl) ?_
 refine AO.le (Le.fM 14 (g:=ze0) rfl (fun y=>.vs rfl)) ?_
 refine AO.s rfl (zM rfl 15 rfl rfl (es:=[.pw (ze3 (L1Cur.mk x38.1.code x38.1.at' x38.1.seed)),.s (([0,1,3,4]:List Int).map ze0)]) (outs:=[.pw (ze3 x40.1),.u]) (ids:=[1]) (by exact zG (.c (.box rfl rfl)) (zG (.c .s) (zGn))) (by decide) (.inl (by rfl)) (by rfl) (spec_l1Cur_among_ok _ _ _ (hx41)) rfl (by rfl) rfl) ?_
 refine AO.pu T ?_
 refine AO.se T [x40.2,x36.size,x36.key,.R 10,.R 11,x36.segment,.R 12,.R 13] ?_
 refine AO.n (AW.q (AW.r ?_))
 refine AO.pu T (d:=.g [x40.2,x36.size,x36.key,.R 10,.R 11,x36.segment,.R 12,.R 13]) ?_
 refine AO.se T [x40.2,x36.size,x36.key,.R 10,.R 11,x36.segment,.R 12,.R 13] ?_
 refine AO.n (AW.le (Le.fM 13 (g:=ze2) rfl (fun y=>frzResult y)) ?_)
 refine AW.le (Le.fM 12 (g:=ze0) rfl (fun y=>.vs rfl)) ?_
 refine AW.le (Le.fM 11 (g:=ze0) rfl (fun y=>.vs rfl)) ?_
 refine AW.le (Le.fM 10 (g:=ze1) rfl (fun y=>.vs rfl)) ?_
 refine AW.t ?_
 have hR:=zS hH;subst hR
 exact ⟨trivial,rfl,_,[],[1],rfl,zG (.c (.box rfl rfl)) (zGn),.c (.g (zC .v (zC .v (zC .v (zC .s (zC .s (zC .v (zC .s (zC .s (zCn)))))))))),by decide⟩
 replace hH:=condF hc hH
 refine AW.q (AW.r ?_)
 iterate 2 refine AO.pu T ?_
 refine AO.n (AW.c (b:=(x38.2 == 1)) rfl (fun hc=>?_) (fun hc=>?_))
 replace hH:=condT hc hH
 obtain ⟨x42,hx43,hH⟩:=zB hH
 refine AW.r (AO.pu T ?_)
 refine AO.s rfl (mk_map_ok T rfl 15 rfl rfl rfl rfl rfl (f:=ze0) (l:=([0,8,9]:List Int)) rfl rfl (fun _=>rfl) rfl rfl rfl rfl rfl) ?_
 refine AO.le (Le.fM 15 (g:=ze0) rfl (fun y=>.vs rfl)) ?_
 refine AO.s rfl (zM rfl 16 rfl rfl (es:=[.pw (ze3 (L1Cur.mk x38.1.code x38.1.at' x38.1.seed)),.s (([0,8,9]:List Int).map ze0)]) (outs:=[.pw (ze3 x42.1),.u]) (ids:=[1]) (by exact zG (.c (.box rfl rfl)) (zG (.c .s) (zGn))) (by decide) (.inl (by rfl)) (by rfl) (spec_l1Cur_among_ok _ _ _ (hx43)) rfl (by rfl) rfl) ?_
 refine AO.pu T ?_
 refine AO.se T [x36.segments,x42.2,x36.key,.R 10,.R 11,x36.segment,.R 12,.R 13] ?_
 refine AO.n (AW.q (AW.r ?_))
 refine AO.pu T (d:=.g [x36.segments,x42.2,x36.key,.R 10,.R 11,x36.segment,.R 12,.R 13]) ?_
 refine AO.se T [x36.segments,x42.2,x36.key,.R 10,.R 11,x36.segment,.R 12,.R 13] ?_
 refine AO.n (AW.le (Le.fM 13 (g:=ze2) rfl (fun y=>frzResult y)) ?_)
 refine AW.le (Le.fM 12 (g:=ze0) rfl (fun y=>.vs rfl)) ?_
 refine AW.le (Le.fM 11 (g:=ze0) rfl (fun y=>.vs rfl)) ?_
 refine AW.le (Le.fM 10 (g:=ze1) rfl (fun y=>.vs rfl)) ?_
 refine AW.t ?_
 have hR:=zS hH;subst hR
 exact ⟨trivial,rfl,_,[],[1],rfl,zG (.c (.box rfl rfl)) (zGn),.c (.g (zC .v (zC .v (zC .v (zC .s (zC .s (zC .v (zC .s (zC .s (zCn)))))))))),by decide⟩
 replace hH:=condF hc hH
 refine AW.q (AW.r ?_)
 iterate 2 refine AO.pu T ?_
 refine AO.n (AW.c (b:=(x38.2 == 2)) rfl (fun hc=>?_) (fun hc=>?_))
 replace hH:=condT hc hH
 obtain ⟨x44,hx45,hH⟩:=zB hH
 refine AW.r (AO.pu T ?_)
 refine AO.s rfl (mk_map_ok T rfl 16 rfl rfl rfl rfl rfl (f:=ze0) (l:=([(-1),1000000000,1000000001]:List Int)) rfl rfl (fun _=>rfl) rfl rfl rfl rfl rfl) ?_
 refine AO.le (Le.fM 16 (g:=ze0) rfl (fun y=>.vs rfl)) ?_
 refine AO.s rfl (zM rfl 17 rfl rfl (es:=[.pw (ze3 (L1Cur.mk x38.1.code x38.1.at' x38.1.seed)),.s (([(-1),1000000000,1000000001]:List Int).map ze0)]) (outs:=[.pw (ze3 x44.1),.u]) (ids:=[1]) (by exact zG (.c (.box rfl rfl)) (zG (.c .s) (zGn))) (by decide) (.inl (by rfl)) (by rfl) (spec_l1Cur_among_ok _ _ _ (hx45)) rfl (by rfl) rfl) ?_
 refine AO.pu T ?_
 refine AO.se T [x36.segments,x36.size,x44.2,.R 10,.R 11,x36.segment,.R 12,.R 13] ?_
 refine AO.n (AW.q (AW.r ?_))
 refine AO.pu T (d:=.g [x36.segments,x36.size,x44.2,.R 10,.R 11,x36.segment,.R 12,.R 13]) ?_
 refine AO.se T [x36.segments,x36.size,x44.2,.R 10,.R 11,x36.segment,.R 12,.R 13] ?_
 refine AO.n (AW.le (Le.fM 13 (g:=ze2) rfl (fun y=>frzResult y)) ?_)
 refine AW.le (Le.fM 12 (g:=ze0) rfl (fun y=>.vs rfl)) ?_
 refine AW.le (Le.fM 11 (g:=ze0) rfl (fun y=>.vs rfl)) ?_
 refine AW.le (Le.fM 10 (g:=ze1) rfl (fun y=>.vs rfl)) ?_
 refine AW.t ?_
 have hR:=zS hH;subst hR
 exact ⟨trivial,rfl,_,[],[1],rfl,zG (.c (.box rfl rfl)) (zGn),.c (.g (zC .v (zC .v (zC .v (zC .s (zC .s (zC .v (zC .s (zC .s (zCn)))))))))),by decide⟩
 replace hH:=condF hc hH
 refine AW.q (AW.r ?_)
 iterate 2 refine AO.pu T ?_
 refine AO.n (AW.c (b:=(x38.2 == 3)) rfl (fun hc=>?_) (fun hc=>?_))
 replace hH:=condT hc hH
 obtain ⟨x46,hx47,hH⟩:=zB hH
 refine AW.drawn 5 17 [1] mix (by kernel_rfl) rfl ?_
 iterate 3 refine AD.p T rfl rfl rfl ?_
 refine AD.k rfl rfl (FStep.callM rfl rfl rfl rfl (es:=[.pw (ze3 (L1Cur.mk x38.1.code x38.1.at' x38.1.seed)),.v (.int .i64 3)]) (outs:=[.pw (ze3 x46.1),.u]) (ids:=[1]) (by exact zG (.c (.box rfl rfl)) (zG (.c .v) (zGn))) (by decide) (.inl (by rfl)) (by rfl) (spec_l1Cur_pick_ok _ _ _ (hx47)) rfl (by rfl) rfl) rfl rfl rfl ?_
 refine AD.w rfl rfl (zW rfl rfl rfl rfl) ?_
 refine AD.nil (AO.v rfl rfl (zW rfl rfl rfl rfl) ?_)
 refine AO.pu T ?_
 refine AO.se T [x36.segments,x36.size,x36.key,.R 10,.R 11,w64 (x36.segment+(w64 (x46.2 - 1))),.R 12,.R 13] ?_
 refine AO.n (AW.le (Le.ct 0 0 (σ':=(⟨[(2,.p 2 0),(3,.p 4 0)],[(1,.box [.s (List.map ze5 x46.1.code),x46.1.at',.v (.int .u64 x46.1.seed)]),(2,.box [(0:Int),(0:Int),(0:Int),.w 0 [],.w 0 [],(0:Int),.w 0 [],.w 0 []]),(4,.box [x36.segments,x36.size,x36.key,.R 10,.R 11,w64 (x36.segment+(w64 (x46.2 - 1))),.R 12,.R 13]),(10,.row 2 (List.map ze1 x36.entrants)),(11,.row 1 (List.map ze0 x36.gone)),(12,.row 1 (List.map ze0 x36.order)),(13,.row 2 (List.map ze6 x36.results))],129,[(1,L 1)]⟩:St)) (hpin:=⟨⟨rfl,rfl⟩,trivial⟩)) ?_)
 refine AW.q (AW.r (AO.pu T (d:=.g [x36.segments,x36.size,x36.key,.R 10,.R 11,w64 (x36.segment+(w64 (x46.2 - 1))),.R 12,.R 13]) ?_))
 refine AO.se T [x36.segments,x36.size,x36.key,.R 10,.R 11,w64 (x36.segment+(w64 (x46.2 - 1))),.R 12,.R 13] ?_
 refine AO.n (AW.le (Le.fM 13 (g:=ze2) rfl (fun y=>frzResult y)) ?_)
 refine AW.le (Le.fM 12 (g:=ze0) rfl (fun y=>.vs rfl)) ?_
 refine AW.le (Le.fM 11 (g:=ze0) rfl (fun y=>.vs rfl)) ?_
 refine AW.le (Le.fM 10 (g:=ze1) rfl (fun y=>.vs rfl)) ?_
 refine AW.t ?_
 have hR:=zS hH;subst hR
 exact ⟨trivial,rfl,_,[],[1],rfl,zG (.c (.box rfl rfl)) (zGn),.c (.g (zC .v (zC .v (zC .v (zC .s (zC .s (zC .v (zC .s (zC .s (zCn)))))))))),by decide⟩
 replace hH:=condF hc hH
 refine AW.q (AW.r ?_)
 iterate 2 refine AO.pu T ?_
 refine AO.n (AW.c (b:=(x38.2 == 4)) rfl (fun hc=>?_) (fun hc=>?_))
 replace hH:=condT hc hH
 refine AW.q (AW.r ?_)
 iterate 2 refine AO.pu T ?_
 refine AO.n (AW.c (b:=decide ((x36.entrants.length:Int) > 0)) rfl (fun hc=>?_) (fun hc=>?_))
 replace hH:=condT hc hH
 obtain ⟨x48,hx49,hH⟩:=zB hH
 obtain ⟨x50,hx51,hH⟩:=zB hH
 obtain ⟨x52,hx53,hH⟩:=zB hH
 refine AW.le (Le.fM 11 (g:=ze0) rfl (fun y=>.vs rfl)) ?_
 refine AW.drawn 10 17 [1] mix (by kernel_rfl) rfl ?_
 iterate 6 refine AD.p T rfl rfl rfl ?_
 refine AD.k rfl rfl (FStep.callM rfl rfl rfl rfl (es:=[.pw (ze3 (L1Cur.mk x38.1.code x38.1.at' x38.1.seed)),.v (.int .i64 (x36.entrants.length:Int))]) (outs:=[.pw (ze3 x48.1),.u]) (ids:=[1]) (by exact zG (.c (.box rfl rfl)) (zG (.c .v) (zGn))) (by decide) (.inl (by rfl)) (by rfl) (spec_l1Cur_pick_ok _ _ _ (hx49)) rfl (by rfl) rfl) rfl rfl rfl ?_
 refine AD.w rfl rfl (zXr T rfl rfl rfl rfl rfl rfl (hx51)) ?_
 refine AD.p T rfl rfl rfl ?_
 refine AD.w rfl rfl (zLr T rfl rfl rfl rfl (zgG (hx51)) rfl rfl rfl) ?_
 refine AD.nil (AO.v rfl rfl (zV rfl rfl rfl rfl (spec_l1Put_ok fuel _ _ _ (hx53)) rfl) ?_)
 refine AO.pu T ?_
 refine AO.se T [x36.segments,x36.size,x36.key,.R 10,.s (List.map ze0 x52),x36.segment,.R 12,.R 13] ?_
 refine AO.n (AW.le (Le.ct 0 0 (σ':=(⟨[(2,.p 2 0),(3,.p 4 0)],[(1,.box [.s (List.map ze5 x48.1.code),x48.1.at',.v (.int .u64 x48.1.seed)]),(2,.box [(0:Int),(0:Int),(0:Int),.w 0 [],.w 0 [],(0:Int),.w 0 [],.w 0 []]),(4,.box [x36.segments,x36.size,x36.key,.R 10,.s (List.map ze0 x52),x36.segment,.R 12,.R 13]),(10,.row 2 (List.map ze1 x36.entrants)),(12,.row 1 (List.map ze0 x36.order)),(13,.row 2 (List.map ze6 x36.results))],129,[(1,L 1)]⟩:St)) (hpin:=⟨⟨rfl,rfl⟩,trivial⟩)) ?_)
 refine AW.q (AW.r (AO.pu T (d:=.g [x36.segments,x36.size,x36.key,.R 10,.s (List.map ze0 x52),x36.segment,.R 12,.R 13]) ?_))
 refine AO.se T [x36.segments,x36.size,x36.key,.R 10,.s (List.map ze0 x52),x36.segment,.R 12,.R 13] ?_
 refine AO.n (AW.le (Le.fM 13 (g:=ze2) rfl (fun y=>frzResult y)) ?_)
 refine AW.le (Le.fM 12 (g:=ze0) rfl (fun y=>.vs rfl)) ?_
 refine AW.le (Le.fM 10 (g:=ze1) rfl (fun y=>.vs rfl)) ?_
 refine AW.t ?_
 have hR:=zS hH;subst hR
 exact ⟨trivial,rfl,_,[],[1],rfl,zG (.c (.box rfl rfl)) (zGn),.c (.g (zC .v (zC .v (zC .v (zC .s (zC .s (zC .v (zC .s (zC .s (zCn)))))))))),by decide⟩
 replace hH:=condF hc hH
 refine AW.k (AW.q (AW.r ?_))
 refine AO.pu T (d:=.g [x36.segments,x36.size,x36.key,.R 10,.R 11,x36.segment,.R 12,.R 13]) ?_
 refine AO.se T [x36.segments,x36.size,x36.key,.R 10,.R 11,x36.segment,.R 12,.R 13] ?_
 refine AO.n (AW.le (Le.ct 0 0 (σ':=(⟨[(2,.p 2 0)],[(1,.box [.s (List.map ze5 x38.1.code),x38.1.at',.v (.int .u64 x38.1.seed)]),(2,.box [x36.segments,x36.size,x36.key,.R 10,.R 11,x36.segment,.R 12,.R 13]),(10,.row 2 (List.map ze1 x36.entrants)),(11,.row 1 (List.map ze0 x36.gone)),(12,.row 1 (List.map ze0 x36.order)),(13,.row 2 (List.map ze6 x36.results))],129,[(1,L 1)]⟩:St)) (hpin:=⟨⟨rfl,rfl⟩,trivial⟩)) ?_)
 refine AW.le (Le.fM 13 (g:=ze2) rfl (fun y=>frzResult y)) ?_
 refine AW.le (Le.fM 12 (g:=ze0) rfl (fun y=>.vs rfl)) ?_
 refine AW.le (Le.fM 11 (g:=ze0) rfl (fun y=>.vs rfl)) ?_
 refine AW.le (Le.fM 10 (g:=ze1) rfl (fun y=>.vs rfl)) ?_
 refine AW.t ?_
 have hR:=zS hH;subst hR
 exact ⟨trivial,rfl,_,[],[1],rfl,zG (.c (.box rfl rfl)) (zGn),.c (.g (zC .v (zC .v (zC .v (zC .s (zC .s (zC .v (zC .s (zC .s (zCn)))))))))),by decide⟩
 replace hH:=condF hc hH
 refine AW.q (AW.r ?_)
 iterate 2 refine AO.pu T ?_
 refine AO.n (AW.c (b:=(x38.2 == 5)) rfl (fun hc=>?_) (fun hc=>?_))
 replace hH:=condT hc hH
 refine AW.q (AW.r ?_)
 iterate 2 refine AO.pu T ?_
 refine AO.v rfl rfl (len_row_ok T rfl rfl rfl rfl) ?_
 refine AO.pu T ?_
 refine AO.n (AW.le (Le.ct 0 0 (σ':=(⟨[(2,.p 2 0),(3,.p 4 0),(89,.v (.bool (decide ((x36.order.length:Int) > 0))))],[(1,.box [.s (List.map ze5 x38.1.code),x38.1.at',.v (.int .u64 x38.1.seed)]),(2,.box [(0:Int),(0:Int),(0:Int),.w 0 [],.w 0 [],(0:Int),.w 0 [],.w 0 []]),(4,.box [x36.segments,x36.size,x36.key,.R 10,.R 11,x36.segment,.R 12,.R 13]),(10,.row 2 (List.map ze1 x36.entrants)),(11,.row 1 (List.map ze0 x36.gone)),(12,.row 1 (List.map ze0 x36.order)),(13,.row 2 (List.map ze6 x36.results))],129,[(1,L 1)]⟩:St)) (hpin:=⟨⟨rfl,rfl⟩,trivial⟩)) ?_)
 refine AW.c (b:=decide ((x36.order.length:Int) > 0)) rfl (fun hc=>?_) (fun hc=>?_)
 replace hH:=condT hc hH
 obtain ⟨x54,hx55,hH⟩:=zB hH
 refine AW.le (Le.fM 12 (g:=ze0) rfl (fun y=>.vs rfl)) ?_
 refine AW.r ?_
 iterate 2 refine AO.pu T ?_
 refine AO.v rfl rfl (slice_lo_map_ok T rfl rfl rfl rfl rfl (hx55) (fun _=>rfl)) ?_
 refine AO.pu T ?_
 refine AO.se T [x36.segments,x36.size,x36.key,.R 10,.R 11,x36.segment,.s (List.map ze0 x54),.R 13] ?_
 refine AO.n (AW.q (AW.r ?_))
 refine AO.pu T (d:=.g [x36.segments,x36.size,x36.key,.R 10,.R 11,x36.segment,.s (List.map ze0 x54),.R 13]) ?_
 refine AO.se T [x36.segments,x36.size,x36.key,.R 10,.R 11,x36.segment,.s (List.map ze0 x54),.R 13] ?_
 refine AO.n (AW.le (Le.fM 13 (g:=ze2) rfl (fun y=>frzResult y)) ?_)
 refine AW.le (Le.fM 11 (g:=ze0) rfl (fun y=>.vs rfl)) ?_
 refine AW.le (Le.fM 10 (g:=ze1) rfl (fun y=>.vs rfl)) ?_
 refine AW.t ?_
 have hR:=zS hH;subst hR
 exact ⟨trivial,rfl,_,[],[1],rfl,zG (.c (.box rfl rfl)) (zGn),.c (.g (zC .v (zC .v (zC .v (zC .s (zC .s (zC .v (zC .s (zC .s (zCn)))))))))),by decide⟩
 replace hH:=condF hc hH
 refine AW.k (AW.q (AW.r ?_))
 refine AO.pu T (d:=.g [x36.segments,x36.size,x36.key,.R 10,.R 11,x36.segment,.R 12,.R 13]) ?_
 refine AO.se T [x36.segments,x36.size,x36.key,.R 10,.R 11,x36.segment,.R 12,.R 13] ?_
 refine AO.n (AW.le (Le.fM 13 (g:=ze2) rfl (fun y=>frzResult y)) ?_)
 refine AW.le (Le.fM 12 (g:=ze0) rfl (fun y=>.vs rfl)) ?_
 refine AW.le (Le.fM 11 (g:=ze0) rfl (fun y=>.vs rfl)) ?_
 refine AW.le (Le.fM 10 (g:=ze1) rfl (fun y=>.vs rfl)) ?_
 refine AW.t ?_
 have hR:=zS hH;subst hR
 exact ⟨trivial,rfl,_,[],[1],rfl,zG (.c (.box rfl rfl)) (zGn),.c (.g (zC .v (zC .v (zC .v (zC .s (zC .s (zC .v (zC .s (zC .s (zCn)))))))))),by decide⟩
 replace hH:=condF hc hH
 refine AW.q (AW.r ?_)
 iterate 2 refine AO.pu T ?_
 refine AO.n (AW.le (Le.ct 0 0 (σ':=(⟨[(0,.p 1 0),(2,.p 2 0),(3,.p 4 0),(8,(x36.entrants.length:Int)),(40,x38.2),(94,.v (.bool (x38.2 == 6)))],[(1,.box [.s (List.map ze5 x38.1.code),x38.1.at',.v (.int .u64 x38.1.seed)]),(2,.box [(0:Int),(0:Int),(0:Int),.w 0 [],.w 0 [],(0:Int),.w 0 [],.w 0 []]),(4,.box [x36.segments,x36.size,x36.key,.R 10,.R 11,x36.segment,.R 12,.R 13]),(10,.row 2 (List.map ze1 x36.entrants)),(11,.row 1 (List.map ze0 x36.gone)),(12,.row 1 (List.map ze0 x36.order)),(13,.row 2 (List.map ze6 x36.results))],129,[(1,L 1)]⟩:St)) (hpin:=⟨⟨rfl,rfl⟩,trivial⟩)) ?_)
 refine AW.c (b:=(x38.2 == 6)) rfl (fun hc=>?_) (fun hc=>?_)
 replace hH:=condT hc hH
 refine AW.q (AW.r ?_)
 iterate 2 refine AO.pu T ?_
 refine AO.n (AW.c (b:=decide ((x36.entrants.length:Int) > 0)) rfl (fun hc=>?_) (fun hc=>?_))
 replace hH:=condT hc hH
 obtain ⟨x56,hx57,hH⟩:=zB hH
 obtain ⟨x58,hx59,hH⟩:=zB hH
 obtain ⟨x60,hx61,hH⟩:=zB hH
 obtain ⟨x62,hx63,hH⟩:=zB hH
 refine AW.le (Le.openM 13 x56.2.toNat 1 17 rfl (zgG (hx59)) rfl rfl) ?_
 refine AW.drawn 11 18 [1] mix (by kernel_rfl) rfl ?_
 iterate 4 refine AD.p T rfl rfl rfl ?_
 refine AD.k rfl rfl (FStep.callM rfl rfl rfl rfl (es:=[.pw (ze3 (L1Cur.mk x38.1.code x38.1.at' x38.1.seed)),.v (.int .i64 (x36.entrants.length:Int))]) (outs:=[.pw (ze3 x56.1),.u]) (ids:=[1]) (by exact zG (.c (.box rfl rfl)) (zG (.c .v) (zGn))) (by decide) (.inl (by rfl)) (by rfl) (spec_l1Cur_pick_ok _ _ _ (hx57)) rfl (by rfl) rfl) rfl rfl rfl ?_
 refine AD.w rfl rfl (ix_lent_ok T rfl rfl rfl rfl rfl rfl (hx59)) ?_
 refine AD.p T rfl rfl rfl ?_
 refine AD.w rfl rfl (load_lent_ok T rfl rfl rfl rfl rfl) ?_
 refine AD.p T rfl rfl rfl ?_
 refine AD.w rfl rfl (mkF_ok T rfl rfl rfl rfl rfl rfl (f:=ze0) (l:=([(-1),5,100000,100001]:List Int)) rfl rfl (fun _=>rfl) rfl rfl rfl) ?_
 refine AD.k rfl rfl (FStep.callM rfl rfl rfl rfl (es:=[.pw (ze3 (L1Cur.mk x56.1.code x56.1.at' x56.1.seed)),.s (([(-1),5,100000,100001]:List Int).map ze0)]) (outs:=[.pw (ze3 x60.1),.u]) (ids:=[1]) (by exact zG (.c (.box rfl rfl)) (zG (.c .s) (zGn))) (by decide) (.inl (by rfl)) (by rfl) (spec_l1Cur_among_ok _ _ _ (hx61)) rfl (by rfl) rfl) rfl rfl rfl ?_
 refine AD.nil (AO.v rfl rfl (zXr T rfl rfl rfl rfl rfl rfl (hx63)) ?_)
 refine AO.s rfl (zSr T rfl rfl rfl rfl rfl (zgG (hx63)) rfl rfl rfl rfl (u':=x60.2) rfl rfl) ?_
 refine AO.le (Le.closeM 13 x56.2.toNat 1 17 rfl rfl (zgG (hx59)) rfl (u':=(Result.mk x58.skater (x58.scores.set ((0:Int).toNat) x60.2))) rfl) ?_
 refine AO.n (AW.q (AW.r ?_))
 refine AO.pu T (d:=.g [x36.segments,x36.size,x36.key,.R 10,.R 11,x36.segment,.R 12,.R 13]) ?_
 refine AO.se T [x36.segments,x36.size,x36.key,.R 10,.R 11,x36.segment,.R 12,.R 13] ?_
 refine AO.n (AW.le (Le.fM 13 (g:=ze2) rfl (fun y=>frzResult y)) ?_)
 refine AW.le (Le.fM 12 (g:=ze0) rfl (fun y=>.vs rfl)) ?_
 refine AW.le (Le.fM 11 (g:=ze0) rfl (fun y=>.vs rfl)) ?_
 refine AW.le (Le.fM 10 (g:=ze1) rfl (fun y=>.vs rfl)) ?_
 refine AW.t ?_
 have hR:=zS hH;subst hR
 exact ⟨trivial,rfl,_,[],[1],rfl,zG (.c (.box rfl rfl)) (zGn),.c (.g (zC .v (zC .v (zC .v (zC .s (zC .s (zC .v (zC .s (zC .s (zCn)))))))))),by decide⟩
 replace hH:=condF hc hH
 refine AW.k (AW.q (AW.r ?_))
 refine AO.pu T (d:=.g [x36.segments,x36.size,x36.key,.R 10,.R 11,x36.segment,.R 12,.R 13]) ?_
 refine AO.se T [x36.segments,x36.size,x36.key,.R 10,.R 11,x36.segment,.R 12,.R 13] ?_
 refine AO.n (AW.le (Le.fM 13 (g:=ze2) rfl (fun y=>frzResult y)) ?_)
 refine AW.le (Le.fM 12 (g:=ze0) rfl (fun y=>.vs rfl)) ?_
 refine AW.le (Le.fM 11 (g:=ze0) rfl (fun y=>.vs rfl)) ?_
 refine AW.le (Le.fM 10 (g:=ze1) rfl (fun y=>.vs rfl)) ?_
 refine AW.t ?_
 have hR:=zS hH;subst hR
 exact ⟨trivial,rfl,_,[],[1],rfl,zG (.c (.box rfl rfl)) (zGn),.c (.g (zC .v (zC .v (zC .v (zC .s (zC .s (zC .v (zC .s (zC .s (zCn)))))))))),by decide⟩
 replace hH:=condF hc hH
 refine AW.q (AW.r ?_)
 iterate 2 refine AO.pu T ?_
 refine AO.n (AW.c (b:=(x38.2 == 7)) rfl (fun hc=>?_) (fun hc=>?_))
 replace hH:=condT hc hH
 refine AW.q (AW.r ?_)
 iterate 2 refine AO.pu T ?_
 refine AO.n (AW.c (b:=decide ((x36.entrants.length:Int) > 0)) rfl (fun hc=>?_) (fun hc=>?_))
 replace hH:=condT hc hH
 obtain ⟨x64,hx65,hH⟩:=zB hH
 refine AW.le (Le.fM 13 (g:=ze2) rfl (fun y=>frzResult y)) ?_
 refine AW.r ?_
 iterate 2 refine AO.pu T ?_
 refine AO.v rfl rfl (slice_lo_map_ok T rfl rfl rfl rfl rfl (hx65) (fun _=>rfl)) ?_
 refine AO.pu T ?_
 refine AO.se T [x36.segments,x36.size,x36.key,.R 10,.R 11,x36.segment,.R 12,.s (List.map ze2 x64)] ?_
 refine AO.n (AW.q (AW.r ?_))
 refine AO.pu T (d:=.g [x36.segments,x36.size,x36.key,.R 10,.R 11,x36.segment,.R 12,.s (List.map ze2 x64)]) ?_
 refine AO.se T [x36.segments,x36.size,x36.key,.R 10,.R 11,x36.segment,.R 12,.s (List.map ze2 x64)] ?_
 refine AO.n (AW.le (Le.fM 12 (g:=ze0) rfl (fun y=>.vs rfl)) ?_)
 refine AW.le (Le.fM 11 (g:=ze0) rfl (fun y=>.vs rfl)) ?_
 refine AW.le (Le.fM 10 (g:=ze1) rfl (fun y=>.vs rfl)) ?_
 refine AW.t ?_
 have hR:=zS hH;subst hR
 exact ⟨trivial,rfl,_,[],[1],rfl,zG (.c (.box rfl rfl)) (zGn),.c (.g (zC .v (zC .v (zC .v (zC .s (zC .s (zC .v (zC .s (zC .s (zCn)))))))))),by decide⟩
 replace hH:=condF hc hH
 refine AW.k (AW.q (AW.r ?_))
 refine AO.pu T (d:=.g [x36.segments,x36.size,x36.key,.R 10,.R 11,x36.segment,.R 12,.R 13]) ?_
 refine AO.se T [x36.segments,x36.size,x36.key,.R 10,.R 11,x36.segment,.R 12,.R 13] ?_
 refine AO.n (AW.le (Le.fM 13 (g:=ze2) rfl (fun y=>frzResult y)) ?_)
 refine AW.le (Le.fM 12 (g:=ze0) rfl (fun y=>.vs rfl)) ?_
 refine AW.le (Le.fM 11 (g:=ze0) rfl (fun y=>.vs rfl)) ?_
 refine AW.le (Le.fM 10 (g:=ze1) rfl (fun y=>.vs rfl)) ?_
 refine AW.t ?_
 have hR:=zS hH;subst hR
 exact ⟨trivial,rfl,_,[],[1],rfl,zG (.c (.box rfl rfl)) (zGn),.c (.g (zC .v (zC .v (zC .v (zC .s (zC .s (zC .v (zC .s (zC .s (zCn)))))))))),by decide⟩
 replace hH:=condF hc hH
 refine AW.q (AW.r ?_)
 iterate 2 refine AO.pu T ?_
 refine AO.n (AW.c (b:=(x38.2 == 8)) rfl (fun hc=>?_) (fun hc=>?_))
 replace hH:=condT hc hH
 obtain ⟨x66,hx67,hH⟩:=zB hH
 obtain ⟨u68,hx69,hH⟩:=zB hH
 refine AW.drawn 6 18 [1] mix (by kernel_rfl) rfl ?_
 iterate 3 refine AD.p T rfl rfl rfl ?_
 refine AD.w rfl rfl (mkF_ok T rfl rfl rfl rfl rfl rfl (f:=ze0) (l:=([0,5,7]:List Int)) rfl rfl (fun _=>rfl) rfl rfl rfl) ?_
 refine AD.k rfl rfl (FStep.callM rfl rfl rfl rfl (es:=[.pw (ze3 (L1Cur.mk x38.1.code x38.1.at' x38.1.seed)),.s (([0,5,7]:List Int).map ze0)]) (outs:=[.pw (ze3 x66.1),.u]) (ids:=[1]) (by exact zG (.c (.box rfl rfl)) (zG (.c .s) (zGn))) (by decide) (.inl (by rfl)) (by rfl) (spec_l1Cur_among_ok _ _ _ (hx67)) rfl (by rfl) rfl) rfl rfl rfl ?_
 refine AD.q (FStep.mk T (f:=ze0) (l:=[x66.2]) rfl rfl rfl rfl rfl rfl rfl rfl rfl (fun _=>rfl) rfl rfl rfl rfl) (by simp [namesIn]) (Nat.le_succ _) rfl ?_
 refine AD.nil (AO.s rfl (zAr T rfl 19 rfl rfl rfl rfl rfl (by decide) rfl rfl rfl rfl (fun _=>rfl) (needT (hx69)) rfl rfl) ?_)
 refine AO.pu T ?_
 refine AO.se T [x36.segments,x36.size,x36.key,.R 10,.R 11,x36.segment,.R 19,.R 13] ?_
 refine AO.n (AW.q (AW.r ?_))
 refine AO.pu T (d:=.g [x36.segments,x36.size,x36.key,.R 10,.R 11,x36.segment,.R 19,.R 13]) ?_
 refine AO.se T [x36.segments,x36.size,x36.key,.R 10,.R 11,x36.segment,.R 19,.R 13] ?_
 refine AO.n (AW.le (Le.fM 13 (g:=ze2) rfl (fun y=>frzResult y)) ?_)
 refine AW.le (Le.fM 19 (g:=ze0) rfl (fun y=>.vs rfl)) ?_
 refine AW.le (Le.fM 11 (g:=ze0) rfl (fun y=>.vs rfl)) ?_
 refine AW.le (Le.fM 10 (g:=ze1) rfl (fun y=>.vs rfl)) ?_
 refine AW.t ?_
 have hR:=zS hH;subst hR
 exact ⟨trivial,rfl,_,[],[1],rfl,zG (.c (.box rfl rfl)) (zGn),.c (.g (zC .v (zC .v (zC .v (zC .s (zC .s (zC .v (zC .s (zC .s (zCn)))))))))),by decide⟩
 replace hH:=condF hc hH
 refine AW.k (AW.q (AW.r ?_))
 refine AO.pu T (d:=.g [x36.segments,x36.size,x36.key,.R 10,.R 11,x36.segment,.R 12,.R 13]) ?_
 refine AO.se T [x36.segments,x36.size,x36.key,.R 10,.R 11,x36.segment,.R 12,.R 13] ?_
 refine AO.n (AW.le (Le.fM 13 (g:=ze2) rfl (fun y=>frzResult y)) ?_)
 refine AW.le (Le.fM 12 (g:=ze0) rfl (fun y=>.vs rfl)) ?_
 refine AW.le (Le.fM 11 (g:=ze0) rfl (fun y=>.vs rfl)) ?_
 refine AW.le (Le.fM 10 (g:=ze1) rfl (fun y=>.vs rfl)) ?_
 refine AW.t ?_
 have hR:=zS hH;subst hR
 exact ⟨trivial,rfl,_,[],[1],rfl,zG (.c (.box rfl rfl)) (zGn),.c (.g (zC .v (zC .v (zC .v (zC .s (zC .s (zC .v (zC .s (zC .s (zCn)))))))))),by decide⟩
 rw [hd12,spec_l1Cur_event_l1] at hH
 have hlt14:=drop_lt hd12
 refine AW.q (AW.r (AO.pu T ?_))
 refine AO.n (AW.q (AW.condT' (b:=decide ((k9:Int) < (x7.2.length:Int))) rfl (rngT hlt14) ?_))
 refine AW.k (AW.q ?_)
 refine AW.b (AW.q (AW.r ?_))
 refine AO.v rfl rfl (zXr T rfl rfl rfl rfl rfl rfl (zgD hd12)) ?_
 refine AO.v rfl rfl (zLr T rfl rfl rfl rfl (zgG (zgD hd12)) rfl rfl rfl) ?_
 refine AO.s rfl (zA T rfl 20 rfl rfl rfl rfl rfl) ?_
 refine AO.se T [y10.kind,y10.skater,y10.number] ?_
 refine AO.n (AW.q ?_)
 obtain ⟨x70,hx71,hH⟩:=zB hH
 refine AW.r (AO.pu T (d:=.g [v27,v28,v29,.s (List.map ze1 v30),.s (List.map ze0 v31),v32,.s (List.map ze0 v33),.s (List.map ze2 v34)]) ?_)
 refine AO.pu T (d:=.g [y10.kind,y10.skater,y10.number]) ?_
 refine AO.v rfl rfl (zV rfl rfl rfl rfl (spec_evStep_ok fuel _ _ _ (hx71)) rfl) ?_
 refine AO.pu T ?_
 refine AO.pu T (d:=.g [x70.1.segments,x70.1.size,x70.1.key,.s (List.map ze1 x70.1.entrants),.s (List.map ze0 x70.1.gone),x70.1.segment,.s (List.map ze0 x70.1.order),.s (List.map ze2 x70.1.results)]) ?_
 refine AO.pu T ?_
 refine AO.s rfl (zA T rfl 21 rfl rfl rfl rfl rfl) ?_
 refine AO.se T [x70.1.segments,x70.1.size,x70.1.key,.s (List.map ze1 x70.1.entrants),.s (List.map ze0 x70.1.gone),x70.1.segment,.s (List.map ze0 x70.1.order),.s (List.map ze2 x70.1.results)] ?_
 refine AO.pu T ?_
 refine AO.n (AW.q (AW.r ?_))
 refine AO.pu T ?_
 refine AO.n (AW.c (b:=x70.2) rfl (fun hc=>?_) (fun hc=>?_))
 replace hH:=condT hc hH
 refine AW.r (AO.pu T (d:=.g [x70.1.segments,x70.1.size,x70.1.key,.s (List.map ze1 x70.1.entrants),.s (List.map ze0 x70.1.gone),x70.1.segment,.s (List.map ze0 x70.1.order),.s (List.map ze2 x70.1.results)]) ?_)
 refine AO.se T [x70.1.segments,x70.1.size,x70.1.key,.s (List.map ze1 x70.1.entrants),.s (List.map ze0 x70.1.gone),x70.1.segment,.s (List.map ze0 x70.1.order),.s (List.map ze2 x70.1.results)] ?_
 refine AO.n (AW.r ?_)
 refine AO.v rfl rfl (zR rfl rfl rfl rfl (zK hlt14 hb13)) ?_
 refine AO.pu T ?_
 refine AO.n ?_
 refine ⟨(k9+1,x70.1.segments,x70.1.size,x70.1.key,x70.1.entrants,x70.1.gone,x70.1.segment,x70.1.order,x70.1.results),⟨Nat.succ_le_of_lt hlt14,(by rw [zds hd12];exact hH)⟩,(by have:=hlt14;dsimp only;omega),?_⟩
 exact Le.ct 0 0 (hpin:=⟨⟨rfl,rfl⟩,trivial⟩)
 replace hH:=condF hc hH
 refine AW.k (AW.r ?_)
 refine AO.v rfl rfl (zR rfl rfl rfl rfl (zK hlt14 hb13)) ?_
 refine AO.pu T ?_
 refine AO.n ?_
 refine ⟨(k9+1,v27,v28,v29,v30,v31,v32,v33,v34),⟨Nat.succ_le_of_lt hlt14,(by rw [zds hd12];exact hH)⟩,(by have:=hlt14;dsimp only;omega),?_⟩
 exact Le.ct 0 0 (hpin:=⟨⟨rfl,rfl⟩,trivial⟩)

def spec_DrawRunSteps_l1 (x5:(L1Cur × Int)) (x7:(L1Cur × Int)) (x9:(L1Cur × Int)) (x15:(L1Cur × Int)):Nat→List Step→Option ((Event × (List Step)))
 | 0,_=>none
 | k17+1,v23 =>
  cond (decide ((v23.length:Int) < (w64 (120+x15.2))))
   ((need (fitsB 24 (v23.length+([(Step.mk 4 0 5)]).length))).bind fun u25 =>
   spec_DrawRunSteps_l1 x5 x7 x9 x15 k17 (v23++[(Step.mk 4 0 5)]))
   (some ((Event.mk (w64 (1+x5.2)) (w64 (1+x7.2)) x9.2 [] [] 0 [] []),v23))
def spec_DrawRunSteps_l2 (x1:(L1Cur × Event)) (x31:(L1Cur × Int)):Nat→List Step→Option ((Event × (List Step)))
 | 0,_=>none
 | k33+1,v39 =>
  cond (decide ((v39.length:Int) < (w64 (120+x31.2))))
   ((need (fitsB 24 (v39.length+([(Step.mk 4 0 5)]).length))).bind fun u41 =>
   spec_DrawRunSteps_l2 x1 x31 k33 (v39++[(Step.mk 4 0 5)]))
   (some ((Event.mk x1.2.segments x1.2.size x1.2.key x1.2.entrants x1.2.gone x1.2.segment x1.2.order x1.2.results),v39))
def spec_DrawRunSteps_p (fuel:Nat) (code:List Int):Option (Event × (List Step)) :=
 (spec_l1Cur_event_p fuel (L1Cur.mk code 0 0)).bind fun x1 =>
 (spec_l1Cur_one_p (L1Cur.mk x1.1.code x1.1.at' x1.1.seed) 2).bind fun x3 =>
 cond x3.2
  ((spec_l1Cur_pick_p (L1Cur.mk x3.1.code x3.1.at' x3.1.seed) 3).bind fun x5 =>
  (spec_l1Cur_pick_p (L1Cur.mk x5.1.code x5.1.at' x5.1.seed) 8).bind fun x7 =>
  (spec_l1Cur_pick_p (L1Cur.mk x7.1.code x7.1.at' x7.1.seed) 99).bind fun x9 =>
  (spec_l1Cur_steps_p fuel (L1Cur.mk x9.1.code x9.1.at' x9.1.seed)).bind fun x11 =>
  (spec_l1Cur_one_p (L1Cur.mk x11.1.code x11.1.at' x11.1.seed) 24).bind fun x13 =>
  cond x13.2
   ((spec_l1Cur_pick_p (L1Cur.mk x13.1.code x13.1.at' x13.1.seed) 2).bind fun x15 =>
   spec_DrawRunSteps_l1 x5 x7 x9 x15 fuel x11.2)
   (some ((Event.mk (w64 (1+x5.2)) (w64 (1+x7.2)) x9.2 [] [] 0 [] []),x11.2)))
  ((spec_l1Cur_steps_p fuel (L1Cur.mk x3.1.code x3.1.at' x3.1.seed)).bind fun x27 =>
  (spec_l1Cur_one_p (L1Cur.mk x27.1.code x27.1.at' x27.1.seed) 24).bind fun x29 =>
  cond x29.2
   ((spec_l1Cur_pick_p (L1Cur.mk x29.1.code x29.1.at' x29.1.seed) 2).bind fun x31 =>
   spec_DrawRunSteps_l2 x1 x31 fuel x27.2)
   (some ((Event.mk x1.2.segments x1.2.size x1.2.key x1.2.entrants x1.2.gone x1.2.segment x1.2.order x1.2.results),x27.2)))
theorem spec_DrawRunSteps_ok (fuel:Nat) (code:List Int) (r:(Event × (List Step))) (hH:spec_DrawRunSteps_p fuel code=some r):SpecR Tryz.prog 26 [.s (List.map ze5 code)] (.t [.g (ze4 r.1),.w 3 (r.2.map ze7)]):=by
 refine zFn T Tryz.func26 rfl (by decide) rfl ?_
 refine AW.q (AW.r (AO.s rfl (zA T rfl 1 rfl rfl rfl rfl rfl) ?_))
 refine AO.pu T ?_
 refine AO.n (AW.q (AW.r ?_))
 refine AO.pu T ?_
 refine AO.pu T (d:=.g [.s (List.map ze5 code),(0:Int),.v (.int .u64 0)]) ?_
 refine AO.s rfl (zBx T rfl 2 rfl rfl rfl rfl) ?_
 refine AO.pu T ?_
 refine AO.n (AW.q ?_)
 obtain ⟨x1,hx2,hH⟩:=zB hH
 refine AW.r (AO.pu T ?_)
 refine AO.s rfl (zM rfl 3 rfl rfl (es:=[.pw (ze3 (L1Cur.mk code 0 0))]) (outs:=[.pw (ze3 x1.1)]) (ids:=[2]) (by exact zG (.c (.box rfl rfl)) (zGn)) (by decide) (.inl (by rfl)) (by rfl) (spec_l1Cur_event_ok fuel _ _ (hx2)) rfl (by rfl) rfl) ?_
 refine AO.s rfl (zA T rfl 3 rfl rfl rfl rfl rfl) ?_
 refine AO.se T [x1.2.segments,x1.2.size,x1.2.key,.s (List.map ze1 x1.2.entrants),.s (List.map ze0 x1.2.gone),x1.2.segment,.s (List.map ze0 x1.2.order),.s (List.map ze2 x1.2.results)] ?_
 refine AO.n ?_
 iterate 2 refine AW.q ?_
 obtain ⟨x3,hx4,hH⟩:=zB hH
 refine AW.r (AO.pu T ?_)
 refine AO.s rfl (zM rfl 4 rfl rfl (es:=[.pw (ze3 (L1Cur.mk x1.1.code x1.1.at' x1.1.seed)),.v (.int .i64 2)]) (outs:=[.pw (ze3 x3.1),.u]) (ids:=[2]) (by exact zG (.c (.box rfl rfl)) (zG (.c .v) (zGn))) (by decide) (.inl (by rfl)) (by rfl) (spec_l1Cur_one_ok _ _ _ (hx4)) rfl (by rfl) rfl) ?_
 refine AO.n (AW.c (b:=x3.2) rfl (fun hc=>?_) (fun hc=>?_))
 replace hH:=condT hc hH
 obtain ⟨x5,hx6,hH⟩:=zB hH
 obtain ⟨x7,hx8,hH⟩:=zB hH
 obtain ⟨x9,hx10,hH⟩:=zB hH
 refine AW.r (AO.pu T ?_)
 refine AO.s rfl (zM rfl 4 rfl rfl (es:=[.pw (ze3 (L1Cur.mk x3.1.code x3.1.at' x3.1.seed)),.v (.int .i64 3)]) (outs:=[.pw (ze3 x5.1),.u]) (ids:=[2]) (by exact zG (.c (.box rfl rfl)) (zG (.c .v) (zGn))) (by decide) (.inl (by rfl)) (by rfl) (spec_l1Cur_pick_ok _ _ _ (hx6)) rfl (by rfl) rfl) ?_
 refine AO.v rfl rfl (zW rfl rfl rfl rfl) ?_
 refine AO.pu T ?_
 refine AO.s rfl (zM rfl 4 rfl rfl (es:=[.pw (ze3 (L1Cur.mk x5.1.code x5.1.at' x5.1.seed)),.v (.int .i64 8)]) (outs:=[.pw (ze3 x7.1),.u]) (ids:=[2]) (by exact zG (.c (.box rfl rfl)) (zG (.c .v) (zGn))) (by decide) (.inl (by rfl)) (by rfl) (spec_l1Cur_pick_ok _ _ _ (hx8)) rfl (by rfl) rfl) ?_
 refine AO.v rfl rfl (zW rfl rfl rfl rfl) ?_
 refine AO.pu T ?_
 refine AO.s rfl (zM rfl 4 rfl rfl (es:=[.pw (ze3 (L1Cur.mk x7.1.code x7.1.at' x7.1.seed)),.v (.int .i64 99)]) (outs:=[.pw (ze3 x9.1),.u]) (ids:=[2]) (by exact zG (.c (.box rfl rfl)) (zG (.c .v) (zGn))) (by decide) (.inl (by rfl)) (by rfl) (spec_l1Cur_pick_ok _ _ _ (hx10)) rfl (by rfl) rfl) ?_
 refine AO.pu T (d:=.g [w64 (1+x5.2),w64 (1+x7.2),x9.2,.w 0 [],.w 0 [],(0:Int),.w 0 [],.w 0 []]) ?_
 refine AO.se T [w64 (1+x5.2),w64 (1+x7.2),x9.2,.w 0 [],.w 0 [],(0:Int),.w 0 [],.w 0 []] ?_
 refine AO.n (AW.q ?_)
 obtain ⟨x11,hx12,hH⟩:=zB hH
 refine AW.r (AO.pu T ?_)
 refine AO.s rfl (zM rfl 4 rfl rfl (es:=[.pw (ze3 (L1Cur.mk x9.1.code x9.1.at' x9.1.seed))]) (outs:=[.pw (ze3 x11.1)]) (ids:=[2]) (by exact zG (.c (.box rfl rfl)) (zGn)) (by decide) (.inl (by rfl)) (by rfl) (spec_l1Cur_steps_ok fuel _ _ (hx12)) rfl (by rfl) rfl) ?_
 refine AO.pu T ?_
 refine AO.n (AW.le (Le.ct 0 0 (σ':=(⟨[(2,.p 1 0),(4,.p 2 0),(5,.p 3 0),(6,.R 4)],[(1,.box [(0:Int),(0:Int),(0:Int),.w 0 [],.w 0 [],(0:Int),.w 0 [],.w 0 []]),(2,.box [.s (List.map ze5 x11.1.code),x11.1.at',.v (.int .u64 x11.1.seed)]),(3,.box [w64 (1+x5.2),w64 (1+x7.2),x9.2,.w 0 [],.w 0 [],(0:Int),.w 0 [],.w 0 []]),(4,.row 3 (List.map ze7 x11.2))],41,[]⟩:St))) ?_)
 iterate 2 refine AW.q ?_
 obtain ⟨x13,hx14,hH⟩:=zB hH
 refine AW.r (AO.pu T ?_)
 refine AO.s rfl (zM rfl 5 rfl rfl (es:=[.pw (ze3 (L1Cur.mk x11.1.code x11.1.at' x11.1.seed)),.v (.int .i64 24)]) (outs:=[.pw (ze3 x13.1),.u]) (ids:=[2]) (by exact zG (.c (.box rfl rfl)) (zG (.c .v) (zGn))) (by decide) (.inl (by rfl)) (by rfl) (spec_l1Cur_one_ok _ _ _ (hx14)) rfl (by rfl) rfl) ?_
 refine AO.n (AW.c (b:=x13.2) rfl (fun hc=>?_) (fun hc=>?_))
 replace hH:=condT hc hH
 refine AW.q ?_
 obtain ⟨x15,hx16,hH⟩:=zB hH
 refine AW.r (AO.pu T ?_)
 refine AO.s rfl (zM rfl 5 rfl rfl (es:=[.pw (ze3 (L1Cur.mk x13.1.code x13.1.at' x13.1.seed)),.v (.int .i64 2)]) (outs:=[.pw (ze3 x15.1),.u]) (ids:=[2]) (by exact zG (.c (.box rfl rfl)) (zG (.c .v) (zGn))) (by decide) (.inl (by rfl)) (by rfl) (spec_l1Cur_pick_ok _ _ _ (hx16)) rfl (by rfl) rfl) ?_
 refine AO.v rfl rfl (zW rfl rfl rfl rfl) ?_
 refine AO.pu T ?_
 refine AO.n (AW.b ?_)
 refine AW.loopS (fun s:Nat × (List Step)=>(⟨[(2,.p 1 0),(5,.p 3 0),(6,.R 4),(7,w64 (120+x15.2))],[(1,.box [(0:Int),(0:Int),(0:Int),.w 0 [],.w 0 [],(0:Int),.w 0 [],.w 0 []]),(3,.box [w64 (1+x5.2),w64 (1+x7.2),x9.2,.w 0 [],.w 0 [],(0:Int),.w 0 [],.w 0 []]),(4,.row 3 (List.map ze7 s.2))],41,[]⟩:St)) (fun s=>spec_DrawRunSteps_l1 x5 x7 x9 x15 s.1 s.2=some r) (fun s=>s.1) (fuel,x11.2) hH ?_ ?_
 exact Le.ct 0 0
 rintro ⟨k17,v23⟩ hH
 replace hH:spec_DrawRunSteps_l1 x5 x7 x9 x15 k17 v23=some r:=hH
 try dsimp only
 rcases k17 with _ | k17
 cases (show none=some _ from hH)
 rw [spec_DrawRunSteps_l1] at hH
 iterate 2 refine AW.q ?_
 refine AW.r (AO.pu T ?_)
 refine AO.v rfl rfl (len_row_ok T rfl rfl rfl rfl) ?_
 iterate 2 refine AO.pu T ?_
 refine AO.n (AW.c (b:=decide ((v23.length:Int) < (w64 (120+x15.2)))) rfl (fun hc=>?_) (fun hc=>?_))
 replace hH:=condT hc hH
 refine AW.k (AW.b ?_)
 obtain ⟨u25,hx26,hH⟩:=zB hH
 refine AW.r (AO.pu T ?_)
 refine AO.pu T (d:=.g [(4:Int),(0:Int),(5:Int)]) ?_
 refine AO.s rfl (mk_map_ok T rfl 9 rfl rfl rfl rfl rfl (f:=ze7) (l:=[(Step.mk 4 0 5)]) rfl rfl (fun _=>rfl) rfl rfl rfl rfl rfl) ?_
 refine AO.s rfl (zAr T rfl 10 rfl rfl rfl rfl rfl (by decide) rfl rfl rfl rfl (fun _=>rfl) (needT (hx26)) rfl rfl) ?_
 refine AO.pu T ?_
 refine AO.n ?_
 refine ⟨(k17,(v23++[(Step.mk 4 0 5)])),hH,Nat.lt_succ_self _,?_⟩
 exact Le.ct 10 4
 replace hH:=condF hc hH
 refine AW.exit (AW.q (AW.r ?_))
 refine AO.pu T (d:=.g [w64 (1+x5.2),w64 (1+x7.2),x9.2,.w 0 [],.w 0 [],(0:Int),.w 0 [],.w 0 []]) ?_
 refine AO.pu T ?_
 refine AO.se T [w64 (1+x5.2),w64 (1+x7.2),x9.2,.w 0 [],.w 0 [],(0:Int),.w 0 [],.w 0 []] ?_
 refine AO.pu T ?_
 refine AO.n (AW.t ?_)
 have hR:=zS hH;subst hR
 exact retQ.i [4] rfl (.t (zG (.g (zC .v (zC .v (zC .v (zC .nilS (zC .nilS (zC .v (zC .nilS (zC .nilS (zCn)))))))))) (zG (.c (.rowR rfl)) (zGn))))
 replace hH:=condF hc hH
 refine AW.k (AW.q (AW.r ?_))
 refine AO.pu T (d:=.g [w64 (1+x5.2),w64 (1+x7.2),x9.2,.w 0 [],.w 0 [],(0:Int),.w 0 [],.w 0 []]) ?_
 refine AO.pu T ?_
 refine AO.se T [w64 (1+x5.2),w64 (1+x7.2),x9.2,.w 0 [],.w 0 [],(0:Int),.w 0 [],.w 0 []] ?_
 refine AO.pu T ?_
 refine AO.n (AW.t ?_)
 have hR:=zS hH;subst hR
 exact retQ.i [4] rfl (.t (zG (.g (zC .v (zC .v (zC .v (zC .nilS (zC .nilS (zC .v (zC .nilS (zC .nilS (zCn)))))))))) (zG (.c (.rowR rfl)) (zGn))))
 replace hH:=condF hc hH
 refine AW.k (AW.q ?_)
 obtain ⟨x27,hx28,hH⟩:=zB hH
 refine AW.r (AO.pu T ?_)
 refine AO.s rfl (zM rfl 11 rfl rfl (es:=[.pw (ze3 (L1Cur.mk x3.1.code x3.1.at' x3.1.seed))]) (outs:=[.pw (ze3 x27.1)]) (ids:=[2]) (by exact zG (.c (.box rfl rfl)) (zGn)) (by decide) (.inl (by rfl)) (by rfl) (spec_l1Cur_steps_ok fuel _ _ (hx28)) rfl (by rfl) rfl) ?_
 refine AO.pu T ?_
 refine AO.n ?_
 iterate 2 refine AW.q ?_
 obtain ⟨x29,hx30,hH⟩:=zB hH
 refine AW.r (AO.pu T ?_)
 refine AO.s rfl (zM rfl 12 rfl rfl (es:=[.pw (ze3 (L1Cur.mk x27.1.code x27.1.at' x27.1.seed)),.v (.int .i64 24)]) (outs:=[.pw (ze3 x29.1),.u]) (ids:=[2]) (by exact zG (.c (.box rfl rfl)) (zG (.c .v) (zGn))) (by decide) (.inl (by rfl)) (by rfl) (spec_l1Cur_one_ok _ _ _ (hx30)) rfl (by rfl) rfl) ?_
 refine AO.n (AW.c (b:=x29.2) rfl (fun hc=>?_) (fun hc=>?_))
 replace hH:=condT hc hH
 refine AW.q ?_
 obtain ⟨x31,hx32,hH⟩:=zB hH
 refine AW.r (AO.pu T ?_)
 refine AO.s rfl (zM rfl 12 rfl rfl (es:=[.pw (ze3 (L1Cur.mk x29.1.code x29.1.at' x29.1.seed)),.v (.int .i64 2)]) (outs:=[.pw (ze3 x31.1),.u]) (ids:=[2]) (by exact zG (.c (.box rfl rfl)) (zG (.c .v) (zGn))) (by decide) (.inl (by rfl)) (by rfl) (spec_l1Cur_pick_ok _ _ _ (hx32)) rfl (by rfl) rfl) ?_
 refine AO.v rfl rfl (zW rfl rfl rfl rfl) ?_
 refine AO.pu T ?_
 refine AO.n (AW.b ?_)
 refine AW.loopS (fun s:Nat × (List Step)=>(⟨[(2,.p 1 0),(5,.p 3 0),(6,.R 11),(7,w64 (120+x31.2))],[(1,.box [(0:Int),(0:Int),(0:Int),.w 0 [],.w 0 [],(0:Int),.w 0 [],.w 0 []]),(3,.box [x1.2.segments,x1.2.size,x1.2.key,.s (List.map ze1 x1.2.entrants),.s (List.map ze0 x1.2.gone),x1.2.segment,.s (List.map ze0 x1.2.order),.s (List.map ze2 x1.2.results)]),(11,.row 3 (List.map ze7 s.2))],41,[]⟩:St)) (fun s=>spec_DrawRunSteps_l2 x1 x31 s.1 s.2=some r) (fun s=>s.1) (fuel,x27.2) hH ?_ ?_
 exact Le.ct 0 0
 rintro ⟨k33,v39⟩ hH
 replace hH:spec_DrawRunSteps_l2 x1 x31 k33 v39=some r:=hH
 try dsimp only
 rcases k33 with _ | k33
 cases (show none=some _ from hH)
 rw [spec_DrawRunSteps_l2] at hH
 iterate 2 refine AW.q ?_
 refine AW.r (AO.pu T ?_)
 refine AO.v rfl rfl (len_row_ok T rfl rfl rfl rfl) ?_
 iterate 2 refine AO.pu T ?_
 refine AO.n (AW.c (b:=decide ((v39.length:Int) < (w64 (120+x31.2)))) rfl (fun hc=>?_) (fun hc=>?_))
 replace hH:=condT hc hH
 refine AW.k (AW.b ?_)
 obtain ⟨u41,hx42,hH⟩:=zB hH
 refine AW.r (AO.pu T ?_)
 refine AO.pu T (d:=.g [(4:Int),(0:Int),(5:Int)]) ?_
 refine AO.s rfl (mk_map_ok T rfl 16 rfl rfl rfl rfl rfl (f:=ze7) (l:=[(Step.mk 4 0 5)]) rfl rfl (fun _=>rfl) rfl rfl rfl rfl rfl) ?_
 refine AO.s rfl (zAr T rfl 17 rfl rfl rfl rfl rfl (by decide) rfl rfl rfl rfl (fun _=>rfl) (needT (hx42)) rfl rfl) ?_
 refine AO.pu T ?_
 refine AO.n ?_
 refine ⟨(k33,(v39++[(Step.mk 4 0 5)])),hH,Nat.lt_succ_self _,?_⟩
 exact Le.ct 17 11
 replace hH:=condF hc hH
 refine AW.exit (AW.q (AW.r ?_))
 refine AO.pu T (d:=.g [x1.2.segments,x1.2.size,x1.2.key,.s (List.map ze1 x1.2.entrants),.s (List.map ze0 x1.2.gone),x1.2.segment,.s (List.map ze0 x1.2.order),.s (List.map ze2 x1.2.results)]) ?_
 refine AO.pu T ?_
 refine AO.se T [x1.2.segments,x1.2.size,x1.2.key,.s (List.map ze1 x1.2.entrants),.s (List.map ze0 x1.2.gone),x1.2.segment,.s (List.map ze0 x1.2.order),.s (List.map ze2 x1.2.results)] ?_
 refine AO.pu T ?_
 refine AO.n (AW.t ?_)
 have hR:=zS hH;subst hR
 exact retQ.i [11] rfl (.t (zG (.g (zC .v (zC .v (zC .v (zC .s (zC .s (zC .v (zC .s (zC .s (zCn)))))))))) (zG (.c (.rowR rfl)) (zGn))))
 replace hH:=condF hc hH
 refine AW.k (AW.q (AW.r ?_))
 refine AO.pu T (d:=.g [x1.2.segments,x1.2.size,x1.2.key,.s (List.map ze1 x1.2.entrants),.s (List.map ze0 x1.2.gone),x1.2.segment,.s (List.map ze0 x1.2.order),.s (List.map ze2 x1.2.results)]) ?_
 refine AO.pu T ?_
 refine AO.se T [x1.2.segments,x1.2.size,x1.2.key,.s (List.map ze1 x1.2.entrants),.s (List.map ze0 x1.2.gone),x1.2.segment,.s (List.map ze0 x1.2.order),.s (List.map ze2 x1.2.results)] ?_
 refine AO.pu T ?_
 refine AO.n (AW.t ?_)
 have hR:=zS hH;subst hR
 exact retQ.i [11] rfl (.t (zG (.g (zC .v (zC .v (zC .v (zC .s (zC .s (zC .v (zC .s (zC .s (zCn)))))))))) (zG (.c (.rowR rfl)) (zGn))))

def impl_within_p (n:Int) (low:Int) (high:Int):Option Bool :=
 some (decide (n ≥ low) && decide (n ≤ high))
theorem impl_within_ok (n:Int) (low:Int) (high:Int) (r:Bool) (hH:impl_within_p n low high=some r):SpecR Tryz.prog 52 [n,low,high] (.v (.bool r)):=by
 refine zFn T Tryz.func52 rfl (by decide) rfl ?_
 refine AW.q (AW.r (AO.pu T ?_))
 refine AO.n (AW.q (AW.r ?_))
 iterate 4 refine AO.pu T ?_
 iterate 2 refine AO.g T [] rfl trivial rfl rfl ?_
 refine AO.g T [11,12] rfl ⟨fun h=>h,fun h=>h,trivial⟩ rfl rfl ?_
 refine AO.v rfl rfl (zN rfl rfl rfl rfl) ?_
 refine AO.pu T ?_
 refine AO.n (AW.t ?_)
 have hR:=zS hH;subst hR
 exact retQ.i [] rfl (.c (.c .v))

def impl_isGroupSize_p (size:Int):Option Bool :=
 (impl_within_p size 1 8).bind fun x1 =>
 some x1
theorem impl_isGroupSize_ok (size:Int) (r:Bool) (hH:impl_isGroupSize_p size=some r):SpecR Tryz.prog 53 [size] (.v (.bool r)):=by
 refine zFn T Tryz.func53 rfl (by decide) rfl ?_
 refine AW.q (AW.r (AO.pu T ?_))
 refine AO.n (AW.q ?_)
 obtain ⟨x1,hx2,hH⟩:=zB hH
 refine AW.r (AO.pu T ?_)
 refine AO.v rfl rfl (zV rfl rfl rfl rfl (impl_within_ok _ _ _ _ (hx2)) rfl) ?_
 refine AO.pu T ?_
 refine AO.n (AW.t ?_)
 have hR:=zS hH;subst hR
 exact retQ.i [] rfl (.c (.c .v))

def impl_allWithin_l1 (low:Int) (high:Int):List Int→Nat→Option Bool
 | [],k1 =>
  some true
 | y2::ys3,k1 =>
  (impl_within_p y2 low high).bind fun x12 =>
  cond (!x12)
   (some false)
   (impl_allWithin_l1 low high ys3 (k1+1))
def impl_allWithin_p (l:List Int) (low:Int) (high:Int):Option Bool :=
 impl_allWithin_l1 low high l 0
theorem impl_allWithin_ok (l:List Int) (low:Int) (high:Int) (r:Bool) (hH:impl_allWithin_p l low high=some r):SpecR Tryz.prog 132 [.s (List.map ze0 l),low,high] (.v (.bool r)):=by
 refine zFn T Tryz.func132 rfl (by decide) rfl ?_
 refine AW.q (AW.r (AO.pu T ?_))
 refine AO.n ?_
 iterate 2 refine AW.q ?_
 refine AW.r (AO.pu T ?_)
 refine AO.v rfl rfl (zL T rfl rfl rfl) ?_
 refine AO.pu T ?_
 refine AO.n (AW.b ?_)
 refine AW.loopS (fun s:Nat=>(⟨[(1,low),(2,high),(9,.s (List.map ze0 l)),(10,(l.length:Int)),(11,(s:Int))],[],21,[]⟩:St)) (fun s=>s ≤ l.length∧impl_allWithin_l1 low high (l.drop s) s=some r) (fun s=>l.length - s) 0 ⟨Nat.zero_le _,hH⟩ ?_ ?_
 exact Le.ct 0 0
 rintro k1 ⟨hk,hH⟩
 replace hH:impl_allWithin_l1 low high (l.drop k1) k1=some r:=hH
 try dsimp only
 refine AW.boundM (t:=9) (l:=l) rfl (fun hb5=>?_)
 rcases hd4:l.drop k1 with _ | ⟨y2,ys3⟩
 rw [hd4,impl_allWithin_l1] at hH
 have hlt6:=drop_ge hd4
 refine AW.q (AW.r (AO.pu T ?_))
 refine AO.n (AW.q (AW.condF' (b:=decide ((k1:Int) < (l.length:Int))) rfl (rngF hlt6) ?_))
 refine AW.exit (AW.q (AW.r ?_))
 refine AO.pu T ?_
 refine AO.n (AW.t ?_)
 have hR:=zS hH;subst hR
 exact retQ.i [] rfl (.c (.c .v))
 rw [hd4,impl_allWithin_l1] at hH
 have hlt6:=drop_lt hd4
 refine AW.q (AW.r (AO.pu T ?_))
 refine AO.n (AW.q (AW.condT' (b:=decide ((k1:Int) < (l.length:Int))) rfl (rngT hlt6) ?_))
 refine AW.k (AW.q ?_)
 refine AW.b (AW.q (AW.r ?_))
 refine AO.v rfl rfl (zX T rfl rfl rfl rfl rfl (zgD hd4) rfl) ?_
 iterate 2 refine AO.pu T ?_
 refine AO.n (AW.q ?_)
 obtain ⟨x12,hx13,hH⟩:=zB hH
 refine AW.r ?_
 iterate 3 refine AO.pu T ?_
 refine AO.v rfl rfl (zV rfl rfl rfl rfl (impl_within_ok _ _ _ _ (hx13)) rfl) ?_
 refine AO.pu T ?_
 refine AO.n (AW.c (b:=(!x12)) rfl (fun hc=>?_) (fun hc=>?_))
 replace hH:=condT hc hH
 refine AW.q (AW.r (AO.pu T ?_))
 refine AO.n (AW.t ?_)
 have hR:=zS hH;subst hR
 exact retQ.i [] rfl (.c (.c .v))
 replace hH:=condF hc hH
 refine AW.k (AW.r ?_)
 refine AO.v rfl rfl (zR rfl rfl rfl rfl (zK hlt6 hb5)) ?_
 refine AO.pu T ?_
 refine AO.n ?_
 refine ⟨k1+1,⟨Nat.succ_le_of_lt hlt6,(by rw [zds hd4];exact hH)⟩,(by have:=hlt6;dsimp only;omega),?_⟩
 exact Le.ct 0 0

def impl_areKeys_p (keys:List Int) (most:Int):Option Bool :=
 (opt (decide ((keys.length:Int) ≤ most)) default (impl_allWithin_p keys 0 1000000000)).bind fun x1 =>
 some (decide ((keys.length:Int) ≤ most) && x1)
theorem impl_areKeys_ok (keys:List Int) (most:Int) (r:Bool) (hH:impl_areKeys_p keys most=some r):SpecR Tryz.prog 94 [.s (List.map ze0 keys),most] (.v (.bool r)):=by
 refine zFn T Tryz.func94 rfl (by decide) rfl ?_
 refine AW.q (AW.r (AO.pu T ?_))
 refine AO.n (AW.q ?_)
 obtain ⟨x1,hx2,hH⟩:=zB hH
 refine AW.r (AO.pu T ?_)
 refine AO.v rfl rfl (zL T rfl rfl rfl) ?_
 iterate 3 refine AO.pu T ?_
 refine AO.g T [] rfl trivial rfl rfl ?_
 refine AO.d [10] rfl ⟨fun h=>h,trivial⟩ (fun hg=>zV rfl rfl rfl rfl (impl_allWithin_ok _ _ _ _ (optT hx2 hg)) rfl) rfl ?_
 refine AO.v rfl rfl (zN rfl rfl rfl rfl) ?_
 refine AO.pu T ?_
 refine AO.n (AW.t ?_)
 have hR:=zS hH;subst hR
 exact retQ.i [] rfl (.c (.c .v))

def impl_isKey_p (key:Int):Option Bool :=
 (impl_areKeys_p [key] 1).bind fun x1 =>
 some x1
theorem impl_isKey_ok (key:Int) (r:Bool) (hH:impl_isKey_p key=some r):SpecR Tryz.prog 54 [key] (.v (.bool r)):=by
 refine zFn T Tryz.func54 rfl (by decide) rfl ?_
 refine AW.q (AW.r (AO.pu T ?_))
 refine AO.n (AW.q ?_)
 obtain ⟨x1,hx2,hH⟩:=zB hH
 refine AW.r (AO.pu T ?_)
 refine AO.s rfl (mk_map_ok T rfl 1 rfl rfl rfl rfl rfl (f:=ze0) (l:=[key]) rfl rfl (fun _=>rfl) rfl rfl rfl rfl rfl) ?_
 refine AO.v rfl rfl (zLV rfl rfl rfl (es:=[.s (List.map ze0 [key]),(1:Int)]) ⟨(.rowR rfl (.map fun y=>.vs rfl)),.free rfl,trivial⟩ (impl_areKeys_ok _ _ _ (hx2)) (zfree_v _) rfl) ?_
 refine AO.pu T ?_
 refine AO.n (AW.t ?_)
 have hR:=zS hH;subst hR
 exact retQ.i [] rfl (.c (.c .v))

def impl_isSkater_p (skater:Int):Option Bool :=
 (impl_within_p skater 1 999).bind fun x1 =>
 some x1
theorem impl_isSkater_ok (skater:Int) (r:Bool) (hH:impl_isSkater_p skater=some r):SpecR Tryz.prog 95 [skater] (.v (.bool r)):=by
 refine zFn T Tryz.func95 rfl (by decide) rfl ?_
 refine AW.q (AW.r (AO.pu T ?_))
 refine AO.n (AW.q ?_)
 obtain ⟨x1,hx2,hH⟩:=zB hH
 refine AW.r (AO.pu T ?_)
 refine AO.v rfl rfl (zV rfl rfl rfl rfl (impl_within_ok _ _ _ _ (hx2)) rfl) ?_
 refine AO.pu T ?_
 refine AO.n (AW.t ?_)
 have hR:=zS hH;subst hR
 exact retQ.i [] rfl (.c (.c .v))

def slices_Index_int_l1 (v:Int):List Int→Nat→Option Int
 | [],k1 =>
  some (-1)
 | y2::ys3,k1 =>
  cond (v == y2)
   (some (k1:Int))
   (slices_Index_int_l1 v ys3 (k1+1))
def slices_Index_int_p (sA:List Int) (v:Int):Option Int :=
 slices_Index_int_l1 v sA 0
theorem slices_Index_int_ok (sA:List Int) (v:Int) (r:Int) (hH:slices_Index_int_p sA v=some r):SpecR Tryz.prog 118 [.s (List.map ze0 sA),v] (.v (.int .i64 r)):=by
 refine zFn T Tryz.func118 rfl (by decide) rfl ?_
 refine AW.q (AW.r (AO.pu T ?_))
 refine AO.n ?_
 iterate 2 refine AW.q ?_
 refine AW.r (AO.pu T ?_)
 refine AO.v rfl rfl (zL T rfl rfl rfl) ?_
 refine AO.pu T ?_
 refine AO.n (AW.b ?_)
 refine AW.loopS (fun s:Nat=>(⟨[(0,.s (List.map ze0 sA)),(1,v),(7,(sA.length:Int)),(8,(s:Int))],[],19,[]⟩:St)) (fun s=>s ≤ sA.length∧slices_Index_int_l1 v (sA.drop s) s=some r) (fun s=>sA.length - s) 0 ⟨Nat.zero_le _,hH⟩ ?_ ?_
 exact Le.ct 0 0
 rintro k1 ⟨hk,hH⟩
 replace hH:slices_Index_int_l1 v (sA.drop k1) k1=some r:=hH
 try dsimp only
 refine AW.boundM (t:=0) (l:=sA) rfl (fun hb5=>?_)
 rcases hd4:sA.drop k1 with _ | ⟨y2,ys3⟩
 rw [hd4,slices_Index_int_l1] at hH
 have hlt6:=drop_ge hd4
 refine AW.q (AW.r (AO.pu T ?_))
 refine AO.n (AW.q (AW.condF' (b:=decide ((k1:Int) < (sA.length:Int))) rfl (rngF hlt6) ?_))
 refine AW.exit (AW.q (AW.r ?_))
 refine AO.pu T ?_
 refine AO.n (AW.t ?_)
 have hR:=zS hH;subst hR
 exact retQ.i [] rfl (.c (.c .v))
 rw [hd4,slices_Index_int_l1] at hH
 have hlt6:=drop_lt hd4
 refine AW.q (AW.r (AO.pu T ?_))
 refine AO.n (AW.q (AW.condT' (b:=decide ((k1:Int) < (sA.length:Int))) rfl (rngT hlt6) ?_))
 refine AW.k (AW.q ?_)
 refine AW.b (AW.q (AW.r ?_))
 iterate 2 refine AO.pu T ?_
 refine AO.n (AW.q (AW.r ?_))
 iterate 3 refine AO.pu T ?_
 refine AO.v rfl rfl (zX T rfl rfl rfl rfl rfl (zgD hd4) rfl) ?_
 iterate 2 refine AO.pu T ?_
 refine AO.n (AW.c (b:=(v == y2)) rfl (fun hc=>?_) (fun hc=>?_))
 replace hH:=condT hc hH
 refine AW.q (AW.r ?_)
 iterate 2 refine AO.pu T ?_
 refine AO.n (AW.t ?_)
 have hR:=zS hH;subst hR
 exact retQ.i [] rfl (.c (.c .v))
 replace hH:=condF hc hH
 refine AW.k (AW.r ?_)
 refine AO.v rfl rfl (zR rfl rfl rfl rfl (zK hlt6 hb5)) ?_
 refine AO.pu T ?_
 refine AO.n ?_
 refine ⟨k1+1,⟨Nat.succ_le_of_lt hlt6,(by rw [zds hd4];exact hH)⟩,(by have:=hlt6;dsimp only;omega),?_⟩
 exact Le.ct 0 0

def slices_Contains_int_p (sA:List Int) (v:Int):Option Bool :=
 (slices_Index_int_p sA v).bind fun x1 =>
 some (decide (x1 ≥ 0))
theorem slices_Contains_int_ok (sA:List Int) (v:Int) (r:Bool) (hH:slices_Contains_int_p sA v=some r):SpecR Tryz.prog 82 [.s (List.map ze0 sA),v] (.v (.bool r)):=by
 refine zFn T Tryz.func82 rfl (by decide) rfl ?_
 refine AW.q (AW.r (AO.pu T ?_))
 refine AO.n (AW.q ?_)
 obtain ⟨x1,hx2,hH⟩:=zB hH
 refine AW.r ?_
 iterate 2 refine AO.pu T ?_
 refine AO.v rfl rfl (zV rfl rfl rfl rfl (slices_Index_int_ok _ _ _ (hx2)) rfl) ?_
 iterate 2 refine AO.pu T ?_
 refine AO.n (AW.t ?_)
 have hR:=zS hH;subst hR
 exact retQ.i [] rfl (.c (.c .v))

def impl_isOrder_l1 (order:List Int):List Int→Nat→Option Bool
 | [],k1 =>
  some (decide ((order.length:Int) ≤ 40))
 | y2::ys3,k1 =>
  (impl_isSkater_p y2).bind fun x20 =>
  (opt (!(!x20)) default (sliceHi order (k1:Int))).bind fun x22 =>
  (opt (!(!x20)) default (slices_Contains_int_p x22 y2)).bind fun x24 =>
  cond ((!x20) || x24)
   (some false)
   (impl_isOrder_l1 order ys3 (k1+1))
def impl_isOrder_p (order:List Int):Option Bool :=
 impl_isOrder_l1 order order 0
theorem impl_isOrder_ok (order:List Int) (r:Bool) (hH:impl_isOrder_p order=some r):SpecR Tryz.prog 55 [.s (List.map ze0 order)] (.v (.bool r)):=by
 refine zFn T Tryz.func55 rfl (by decide) rfl ?_
 refine AW.q (AW.r (AO.pu T ?_))
 refine AO.n ?_
 iterate 2 refine AW.q ?_
 refine AW.r (AO.pu T ?_)
 refine AO.v rfl rfl (zL T rfl rfl rfl) ?_
 refine AO.pu T ?_
 refine AO.n (AW.b ?_)
 refine AW.loopS (fun s:Nat=>(⟨[(0,.s (List.map ze0 order)),(5,.s (List.map ze0 order)),(6,(order.length:Int)),(7,(s:Int))],[],26,[]⟩:St)) (fun s=>s ≤ order.length∧impl_isOrder_l1 order (order.drop s) s=some r) (fun s=>order.length - s) 0 ⟨Nat.zero_le _,hH⟩ ?_ ?_
 exact Le.ct 0 0
 rintro k1 ⟨hk,hH⟩
 replace hH:impl_isOrder_l1 order (order.drop k1) k1=some r:=hH
 try dsimp only
 refine AW.boundM (t:=0) (l:=order) rfl (fun hb5=>?_)
 rcases hd4:order.drop k1 with _ | ⟨y2,ys3⟩
 rw [hd4,impl_isOrder_l1] at hH
 have hlt6:=drop_ge hd4
 refine AW.q (AW.r (AO.pu T ?_))
 refine AO.n (AW.q (AW.condF' (b:=decide ((k1:Int) < (order.length:Int))) rfl (rngF hlt6) ?_))
 refine AW.exit (AW.q (AW.r ?_))
 refine AO.pu T ?_
 refine AO.v rfl rfl (zL T rfl rfl rfl) ?_
 iterate 2 refine AO.pu T ?_
 refine AO.n (AW.t ?_)
 have hR:=zS hH;subst hR
 exact retQ.i [] rfl (.c (.c .v))
 rw [hd4,impl_isOrder_l1] at hH
 have hlt6:=drop_lt hd4
 refine AW.q (AW.r (AO.pu T ?_))
 refine AO.n (AW.q (AW.condT' (b:=decide ((k1:Int) < (order.length:Int))) rfl (rngT hlt6) ?_))
 refine AW.k (AW.q ?_)
 refine AW.b (AW.q (AW.r ?_))
 refine AO.pu T ?_
 refine AO.v rfl rfl (zX T rfl rfl rfl rfl rfl (zgD hd4) rfl) ?_
 iterate 3 refine AO.pu T ?_
 refine AO.n (AW.q ?_)
 obtain ⟨x20,hx21,hH⟩:=zB hH
 obtain ⟨x22,hx23,hH⟩:=zB hH
 obtain ⟨x24,hx25,hH⟩:=zB hH
 refine AW.r (AO.pu T ?_)
 refine AO.v rfl rfl (zV rfl rfl rfl rfl (impl_isSkater_ok _ _ (hx21)) rfl) ?_
 iterate 2 refine AO.pu T ?_
 iterate 2 refine AO.g T [] rfl trivial rfl rfl ?_
 refine AO.d [16,17] rfl ⟨fun h=>h,fun h=>h,trivial⟩ (fun hg=>slice_hi_map_ok T rfl rfl rfl rfl rfl (optT hx23 hg) (fun _=>rfl)) rfl ?_
 refine AO.g T [] rfl trivial rfl rfl ?_
 refine AO.d [18,19] rfl ⟨fun h=>h,fun h=>h,trivial⟩ (fun hg=>zV rfl rfl rfl rfl (slices_Contains_int_ok _ _ _ (optT hx25 hg)) rfl) rfl ?_
 refine AO.v rfl rfl (zO rfl rfl rfl rfl) ?_
 refine AO.n (AW.c (b:=((!x20) || x24)) rfl (fun hc=>?_) (fun hc=>?_))
 replace hH:=condT hc hH
 refine AW.q (AW.r (AO.pu T ?_))
 refine AO.n (AW.t ?_)
 have hR:=zS hH;subst hR
 exact retQ.i [] rfl (.c (.c .v))
 replace hH:=condF hc hH
 refine AW.k (AW.r ?_)
 refine AO.v rfl rfl (zR rfl rfl rfl rfl (zK hlt6 hb5)) ?_
 refine AO.pu T ?_
 refine AO.n ?_
 refine ⟨k1+1,⟨Nat.succ_le_of_lt hlt6,(by rw [zds hd4];exact hH)⟩,(by have:=hlt6;dsimp only;omega),?_⟩
 exact Le.ct 0 0

def impl_AreEntrants_l2 (y2:Entrant):List Entrant→Nat→Option (Except Bool Unit)
 | [],k80 =>
  some (.ok ())
 | y81::ys82,k80 =>
  cond ((y81.skater == y2.skater) || ((y81.rank == y2.rank) && decide (y2.rank > 0)))
   (some (.error false))
   (impl_AreEntrants_l2 y2 ys82 (k80+1))
def impl_AreEntrants_l1 (l:List Entrant):List Entrant→Nat→Option Bool
 | [],k1 =>
  some (decide ((l.length:Int) ≤ 40))
 | y2::ys3,k1 =>
  ((impl_isSkater_p y2.skater).bind fun x74 =>
  (opt (!(!x74)) default (impl_within_p y2.rank 0 999)).bind fun x76 =>
  cond ((!x74) || (!x76))
   (some (.error false))
   ((sliceHi l (k1:Int)).bind fun x78 =>
   impl_AreEntrants_l2 y2 x78 0)).bind fun o72=>flow o72 fun _ =>
  impl_AreEntrants_l1 l ys3 (k1+1)
def impl_AreEntrants_p (l:List Entrant):Option Bool :=
 impl_AreEntrants_l1 l l 0
theorem impl_AreEntrants_ok (l:List Entrant) (r:Bool) (hH:impl_AreEntrants_p l=some r):SpecR Tryz.prog 64 [.s (List.map ze1 l)] (.v (.bool r)):=by
 refine zFn T Tryz.func64 rfl (by decide) rfl ?_
 refine AW.q (AW.r (AO.pu T ?_))
 refine AO.n ?_
 iterate 2 refine AW.q ?_
 refine AW.r (AO.pu T ?_)
 refine AO.v rfl rfl (zL T rfl rfl rfl) ?_
 refine AO.pu T ?_
 refine AO.n (AW.b ?_)
 refine AW.loopS (fun s:Nat=>(⟨[(0,.s (List.map ze1 l)),(7,.s (List.map ze1 l)),(8,(l.length:Int)),(9,(s:Int))],[],54,[]⟩:St)) (fun s=>s ≤ l.length∧impl_AreEntrants_l1 l (l.drop s) s=some r) (fun s=>l.length - s) 0 ⟨Nat.zero_le _,hH⟩ ?_ ?_
 exact Le.ct 0 0
 rintro k1 ⟨hk,hH⟩
 replace hH:impl_AreEntrants_l1 l (l.drop k1) k1=some r:=hH
 try dsimp only
 refine AW.boundM (t:=0) (l:=l) rfl (fun hb5=>?_)
 rcases hd4:l.drop k1 with _ | ⟨y2,ys3⟩
 rw [hd4,impl_AreEntrants_l1] at hH
 have hlt6:=drop_ge hd4
 refine AW.q (AW.r (AO.pu T ?_))
 refine AO.n (AW.q (AW.condF' (b:=decide ((k1:Int) < (l.length:Int))) rfl (rngF hlt6) ?_))
 refine AW.exit (AW.q (AW.r ?_))
 refine AO.pu T ?_
 refine AO.v rfl rfl (zL T rfl rfl rfl) ?_
 iterate 2 refine AO.pu T ?_
 refine AO.n (AW.t ?_)
 have hR:=zS hH;subst hR
 exact retQ.i [] rfl (.c (.c .v))
 rw [hd4,impl_AreEntrants_l1] at hH
 have hlt6:=drop_lt hd4
 refine AW.q (AW.r (AO.pu T ?_))
 refine AO.n (AW.q (AW.condT' (b:=decide ((k1:Int) < (l.length:Int))) rfl (rngT hlt6) ?_))
 refine AW.k ?_
 obtain ⟨o72,hH,hK73⟩:=zB hH
 refine AW.seqJ (fun s:Unit=>(⟨[(0,.s (List.map ze1 l)),(7,.s (List.map ze1 l)),(8,(l.length:Int)),(9,(k1:Int))],[],54,[]⟩:St)) (fun s=>.ok s=o72) ?_ ?_
 refine AW.b (AW.q (AW.r ?_))
 refine AO.pu T ?_
 refine AO.v rfl rfl (zX T rfl rfl rfl rfl rfl (zgD hd4) rfl) ?_
 refine AO.pu T (d:=.g [y2.skater,y2.rank]) ?_
 refine AO.s rfl (zA T rfl 21 rfl rfl rfl rfl rfl) ?_
 refine AO.pu T ?_
 refine AO.se T [y2.skater,y2.rank] ?_
 refine AO.n ?_
 iterate 2 refine AW.q ?_
 obtain ⟨x74,hx75,hH⟩:=zB hH
 obtain ⟨x76,hx77,hH⟩:=zB hH
 refine AW.r ?_
 iterate 2 refine AO.pu T ?_
 refine AO.v rfl rfl (zV rfl rfl rfl rfl (impl_isSkater_ok _ _ (hx75)) rfl) ?_
 iterate 2 refine AO.pu T ?_
 refine AO.g T [] rfl trivial rfl rfl ?_
 refine AO.g T [19] rfl ⟨fun h=>h,trivial⟩ rfl rfl ?_
 refine AO.d [20] rfl ⟨fun h=>h,trivial⟩ (fun hg=>zV rfl rfl rfl rfl (impl_within_ok _ _ _ _ (optT hx77 hg)) rfl) rfl ?_
 refine AO.g T [21] rfl ⟨fun h=>h,trivial⟩ rfl rfl ?_
 refine AO.v rfl rfl (zO rfl rfl rfl rfl) ?_
 refine AO.n (AW.c (b:=((!x74) || (!x76))) rfl (fun hc=>?_) (fun hc=>?_))
 replace hH:=condT hc hH
 refine AW.q (AW.r (AO.pu T ?_))
 refine AO.n (AW.t ?_)
 obtain rfl:=zS hH
 replace hH:=hK73
 have hR:=zS hH;subst hR
 exact retQ.i [] rfl (.c (.c .v))
 replace hH:=condF hc hH
 refine AW.k (AW.q ?_)
 obtain ⟨x78,hx79,hH⟩:=zB hH
 refine AW.r ?_
 iterate 2 refine AO.pu T ?_
 refine AO.v rfl rfl (slice_hi_map_ok T rfl rfl rfl rfl rfl (hx79) (fun _=>rfl)) ?_
 refine AO.v rfl rfl (zL T rfl rfl rfl) ?_
 refine AO.pu T ?_
 refine AO.n (AW.b ?_)
 refine AW.loopS (fun s:Nat=>(⟨[(0,.s (List.map ze1 l)),(4,.p 21 0),(7,.s (List.map ze1 l)),(8,(l.length:Int)),(9,(k1:Int)),(26,.s (List.map ze1 x78)),(27,(x78.length:Int)),(28,(s:Int))],[(21,.box [y2.skater,y2.rank])],54,[]⟩:St)) (fun s=>s ≤ x78.length∧impl_AreEntrants_l2 y2 (x78.drop s) s=some o72) (fun s=>x78.length - s) 0 ⟨Nat.zero_le _,hH⟩ ?_ ?_
 exact Le.ct 0 0
 rintro k80 ⟨hk,hH⟩
 replace hH:impl_AreEntrants_l2 y2 (x78.drop k80) k80=some o72:=hH
 try dsimp only
 refine AW.boundM (t:=26) (l:=x78) rfl (fun hb84=>?_)
 rcases hd83:x78.drop k80 with _ | ⟨y81,ys82⟩
 rw [hd83,impl_AreEntrants_l2] at hH
 have hlt85:=drop_ge hd83
 refine AW.q (AW.r (AO.pu T ?_))
 refine AO.n (AW.q (AW.condF' (b:=decide ((k80:Int) < (x78.length:Int))) rfl (rngF hlt85) ?_))
 refine AW.exit ?_
 refine ⟨_,zS hH,?_⟩
 exact Le.ct 0 0
 rw [hd83,impl_AreEntrants_l2] at hH
 have hlt85:=drop_lt hd83
 refine AW.q (AW.r (AO.pu T ?_))
 refine AO.n (AW.q (AW.condT' (b:=decide ((k80:Int) < (x78.length:Int))) rfl (rngT hlt85) ?_))
 refine AW.k (AW.q ?_)
 refine AW.b (AW.q (AW.r ?_))
 refine AO.v rfl rfl (zX T rfl rfl rfl rfl rfl (zgD hd83) rfl) ?_
 refine AO.pu T (d:=.g [y81.skater,y81.rank]) ?_
 refine AO.s rfl (zA T rfl 24 rfl rfl rfl rfl rfl) ?_
 refine AO.se T [y81.skater,y81.rank] ?_
 refine AO.n (AW.q (AW.r ?_))
 iterate 6 refine AO.pu T ?_
 refine AO.g T [] rfl trivial rfl rfl ?_
 refine AO.g T [38] rfl ⟨fun h=>h,trivial⟩ rfl rfl ?_
 refine AO.g T [] rfl trivial rfl rfl ?_
 refine AO.g T [40] rfl ⟨fun h=>h,trivial⟩ rfl rfl ?_
 refine AO.g T [39,41] rfl ⟨fun h=>h,fun h=>h,trivial⟩ rfl rfl ?_
 refine AO.g T [42] rfl ⟨fun h=>h,trivial⟩ rfl rfl ?_
 refine AO.g T [] rfl trivial rfl rfl ?_
 refine AO.g T [44] rfl ⟨fun h=>h,trivial⟩ rfl rfl ?_
 refine AO.g T [45] rfl ⟨fun h=>h,trivial⟩ rfl rfl ?_
 refine AO.d [43] rfl ⟨fun h=>h,trivial⟩ (fun hg=>zN rfl rfl rfl (by rw [hg];exact Bool.true_and _)) rfl ?_
 refine AO.v rfl rfl (zO rfl rfl rfl rfl) ?_
 refine AO.n (AW.c (b:=((y81.skater == y2.skater) || ((y81.rank == y2.rank) && decide (y2.rank > 0)))) rfl (fun hc=>?_) (fun hc=>?_))
 replace hH:=condT hc hH
 refine AW.q (AW.r (AO.pu T ?_))
 refine AO.n (AW.t ?_)
 obtain rfl:=zS hH
 replace hH:=hK73
 have hR:=zS hH;subst hR
 exact retQ.i [] rfl (.c (.c .v))
 replace hH:=condF hc hH
 refine AW.k (AW.r ?_)
 refine AO.v rfl rfl (zR rfl rfl rfl rfl (zK hlt85 hb84)) ?_
 refine AO.pu T ?_
 refine AO.n ?_
 refine ⟨k80+1,⟨Nat.succ_le_of_lt hlt85,(by rw [zds hd83];exact hH)⟩,(by have:=hlt85;dsimp only;omega),?_⟩
 exact Le.ct 0 0
 rintro _ hs
 subst hs
 replace hH:=hK73
 try dsimp only [flow,flowE] at hH
 try dsimp only
 refine AW.r (AO.v rfl rfl (zR rfl rfl rfl rfl (zK hlt6 hb5)) ?_)
 refine AO.pu T ?_
 refine AO.n ?_
 refine ⟨k1+1,⟨Nat.succ_le_of_lt hlt6,(by rw [zds hd4];exact hH)⟩,(by have:=hlt6;dsimp only;omega),?_⟩
 exact Le.ct 0 0

def impl_isIncreasing_l1 (l:List Int) (n:Int):List Int→Nat→Option Bool
 | [],k1 =>
  some true
 | y2::ys3,k1 =>
  (impl_within_p y2 0 (w64 (n - 1))).bind fun x16 =>
  (opt ((!(!x16)) && decide ((k1:Int) > 0)) default (getI l (w64 ((k1:Int) - 1)))).bind fun x18 =>
  cond ((!x16) || (decide ((k1:Int) > 0) && decide (x18 ≥ y2)))
   (some false)
   (impl_isIncreasing_l1 l n ys3 (k1+1))
def impl_isIncreasing_p (l:List Int) (n:Int):Option Bool :=
 impl_isIncreasing_l1 l n l 0
theorem impl_isIncreasing_ok (l:List Int) (n:Int) (r:Bool) (hH:impl_isIncreasing_p l n=some r):SpecR Tryz.prog 96 [.s (List.map ze0 l),n] (.v (.bool r)):=by
 refine zFn T Tryz.func96 rfl (by decide) rfl ?_
 refine AW.q (AW.r (AO.pu T ?_))
 refine AO.n ?_
 iterate 2 refine AW.q ?_
 refine AW.r (AO.pu T ?_)
 refine AO.v rfl rfl (zL T rfl rfl rfl) ?_
 refine AO.pu T ?_
 refine AO.n (AW.b ?_)
 refine AW.loopS (fun s:Nat=>(⟨[(0,.s (List.map ze0 l)),(1,n),(7,.s (List.map ze0 l)),(8,(l.length:Int)),(9,(s:Int))],[],33,[]⟩:St)) (fun s=>s ≤ l.length∧impl_isIncreasing_l1 l n (l.drop s) s=some r) (fun s=>l.length - s) 0 ⟨Nat.zero_le _,hH⟩ ?_ ?_
 exact Le.ct 0 0
 rintro k1 ⟨hk,hH⟩
 replace hH:impl_isIncreasing_l1 l n (l.drop k1) k1=some r:=hH
 try dsimp only
 refine AW.boundM (t:=0) (l:=l) rfl (fun hb5=>?_)
 rcases hd4:l.drop k1 with _ | ⟨y2,ys3⟩
 rw [hd4,impl_isIncreasing_l1] at hH
 have hlt6:=drop_ge hd4
 refine AW.q (AW.r (AO.pu T ?_))
 refine AO.n (AW.q (AW.condF' (b:=decide ((k1:Int) < (l.length:Int))) rfl (rngF hlt6) ?_))
 refine AW.exit (AW.q (AW.r ?_))
 refine AO.pu T ?_
 refine AO.n (AW.t ?_)
 have hR:=zS hH;subst hR
 exact retQ.i [] rfl (.c (.c .v))
 rw [hd4,impl_isIncreasing_l1] at hH
 have hlt6:=drop_lt hd4
 refine AW.q (AW.r (AO.pu T ?_))
 refine AO.n (AW.q (AW.condT' (b:=decide ((k1:Int) < (l.length:Int))) rfl (rngT hlt6) ?_))
 refine AW.k (AW.q ?_)
 refine AW.b (AW.q (AW.r ?_))
 refine AO.pu T ?_
 refine AO.v rfl rfl (zX T rfl rfl rfl rfl rfl (zgD hd4) rfl) ?_
 iterate 3 refine AO.pu T ?_
 refine AO.n (AW.q ?_)
 obtain ⟨x16,hx17,hH⟩:=zB hH
 obtain ⟨x18,hx19,hH⟩:=zB hH
 refine AW.r ?_
 iterate 2 refine AO.pu T ?_
 refine AO.v rfl rfl (zW rfl rfl rfl rfl) ?_
 refine AO.v rfl rfl (zV rfl rfl rfl rfl (impl_within_ok _ _ _ _ (hx17)) rfl) ?_
 iterate 2 refine AO.pu T ?_
 refine AO.g T [] rfl trivial rfl rfl ?_
 refine AO.g T [20] rfl ⟨fun h=>h,trivial⟩ rfl rfl ?_
 refine AO.g T [21] rfl ⟨fun h=>h,trivial⟩ rfl rfl ?_
 iterate 2 refine AO.g T [] rfl trivial rfl rfl ?_
 refine AO.d [24] rfl ⟨fun h=>h,trivial⟩ (fun hg=>zW rfl rfl rfl rfl) rfl ?_
 refine AO.d [23,25] rfl ⟨fun h=>h,fun h=>h,trivial⟩ (fun hg=>zX T rfl rfl rfl rfl rfl (optT hx19 hg) rfl) rfl ?_
 refine AO.g T [26] rfl ⟨fun h=>h,trivial⟩ rfl rfl ?_
 refine AO.g T [] rfl trivial rfl rfl ?_
 refine AO.g T [27,28] rfl ⟨fun h=>h,fun h=>h,trivial⟩ rfl rfl ?_
 refine AO.d [22] rfl ⟨fun h=>h,trivial⟩ (fun hg=>zN rfl rfl rfl (by rw [hg];exact Bool.true_and _)) rfl ?_
 refine AO.v rfl rfl (zO rfl rfl rfl rfl) ?_
 refine AO.n (AW.le (Le.ct 0 0 (σ':=(⟨[(0,.s (List.map ze0 l)),(1,n),(7,.s (List.map ze0 l)),(8,(l.length:Int)),(9,(k1:Int)),(31,.v (.bool ((!x16) || (decide ((k1:Int) > 0) && decide (x18 ≥ y2)))))],[],33,[]⟩:St))) ?_)
 refine AW.c (b:=((!x16) || (decide ((k1:Int) > 0) && decide (x18 ≥ y2)))) rfl (fun hc=>?_) (fun hc=>?_)
 replace hH:=condT hc hH
 refine AW.q (AW.r (AO.pu T ?_))
 refine AO.n (AW.t ?_)
 have hR:=zS hH;subst hR
 exact retQ.i [] rfl (.c (.c .v))
 replace hH:=condF hc hH
 refine AW.k (AW.r ?_)
 refine AO.v rfl rfl (zR rfl rfl rfl rfl (zK hlt6 hb5)) ?_
 refine AO.pu T ?_
 refine AO.n ?_
 refine ⟨k1+1,⟨Nat.succ_le_of_lt hlt6,(by rw [zds hd4];exact hH)⟩,(by have:=hlt6;dsimp only;omega),?_⟩
 exact Le.ct 0 0

def impl_isResult_l1 (rA:Result):List Int→Nat→Option Bool
 | [],k1 =>
  (impl_isSkater_p rA.skater).bind fun x16 =>
  (opt x16 default (impl_within_p (rA.scores.length:Int) 1 3)).bind fun x18 =>
  some (x16 && x18)
 | y2::ys3,k1 =>
  (impl_within_p y2 (-1) 100000).bind fun x20 =>
  (opt ((!(!x20)) && decide ((k1:Int) > 0)) default (getI rA.scores (w64 ((k1:Int) - 1)))).bind fun x22 =>
  cond ((!x20) || ((decide ((k1:Int) > 0) && decide (x22 < 0)) && decide (y2 ≥ 0)))
   (some false)
   (impl_isResult_l1 rA ys3 (k1+1))
def impl_isResult_p (rA:Result):Option Bool :=
 impl_isResult_l1 rA rA.scores 0
theorem impl_isResult_ok (rA:Result) (r:Bool) (hH:impl_isResult_p rA=some r):SpecR Tryz.prog 116 [.g (ze2 rA)] (.v (.bool r)):=by
 refine zFn T Tryz.func116 rfl (by decide) rfl ?_
 refine AW.q (AW.r (AO.s rfl (zBx T rfl 1 rfl rfl rfl rfl) ?_))
 refine AO.pu T ?_
 refine AO.n ?_
 iterate 2 refine AW.q ?_
 refine AW.r ?_
 iterate 2 refine AO.pu T ?_
 refine AO.v rfl rfl (zL T rfl rfl rfl) ?_
 refine AO.pu T ?_
 refine AO.n (AW.b ?_)
 refine AW.loopS (fun s:Nat=>(⟨[(1,.p 1 0),(6,.s (List.map ze0 rA.scores)),(7,(rA.scores.length:Int)),(8,(s:Int))],[(1,.box [rA.skater,.s (List.map ze0 rA.scores)])],43,[]⟩:St)) (fun s=>s ≤ rA.scores.length∧impl_isResult_l1 rA (rA.scores.drop s) s=some r) (fun s=>rA.scores.length - s) 0 ⟨Nat.zero_le _,hH⟩ ?_ ?_
 exact Le.ct 0 0
 rintro k1 ⟨hk,hH⟩
 replace hH:impl_isResult_l1 rA (rA.scores.drop k1) k1=some r:=hH
 try dsimp only
 refine AW.boundM (t:=6) (l:=rA.scores) rfl (fun hb5=>?_)
 rcases hd4:rA.scores.drop k1 with _ | ⟨y2,ys3⟩
 rw [hd4,impl_isResult_l1] at hH
 have hlt6:=drop_ge hd4
 refine AW.q (AW.r (AO.pu T ?_))
 refine AO.n (AW.q (AW.condF' (b:=decide ((k1:Int) < (rA.scores.length:Int))) rfl (rngF hlt6) ?_))
 refine AW.exit (AW.q ?_)
 obtain ⟨x16,hx17,hH⟩:=zB hH
 obtain ⟨x18,hx19,hH⟩:=zB hH
 refine AW.r ?_
 iterate 2 refine AO.pu T ?_
 refine AO.v rfl rfl (zV rfl rfl rfl rfl (impl_isSkater_ok _ _ (hx17)) rfl) ?_
 refine AO.pu T ?_
 refine AO.g T [] rfl trivial rfl rfl ?_
 refine AO.g T [38] rfl ⟨fun h=>h,trivial⟩ rfl rfl ?_
 refine AO.d [39] rfl ⟨fun h=>h,trivial⟩ (fun hg=>zL T rfl rfl rfl) rfl ?_
 refine AO.d [40] rfl ⟨fun h=>h,trivial⟩ (fun hg=>zV rfl rfl rfl rfl (impl_within_ok _ _ _ _ (optT hx19 hg)) rfl) rfl ?_
 refine AO.v rfl rfl (zN rfl rfl rfl rfl) ?_
 refine AO.pu T ?_
 refine AO.n (AW.t ?_)
 have hR:=zS hH;subst hR
 exact retQ.i [] rfl (.c (.c .v))
 rw [hd4,impl_isResult_l1] at hH
 have hlt6:=drop_lt hd4
 refine AW.q (AW.r (AO.pu T ?_))
 refine AO.n (AW.q (AW.condT' (b:=decide ((k1:Int) < (rA.scores.length:Int))) rfl (rngT hlt6) ?_))
 refine AW.k (AW.q ?_)
 refine AW.b (AW.q (AW.r ?_))
 refine AO.pu T ?_
 refine AO.v rfl rfl (zX T rfl rfl rfl rfl rfl (zgD hd4) rfl) ?_
 iterate 3 refine AO.pu T ?_
 refine AO.n (AW.q ?_)
 obtain ⟨x20,hx21,hH⟩:=zB hH
 obtain ⟨x22,hx23,hH⟩:=zB hH
 refine AW.r (AO.pu T ?_)
 refine AO.v rfl rfl (zV rfl rfl rfl rfl (impl_within_ok _ _ _ _ (hx21)) rfl) ?_
 iterate 2 refine AO.pu T ?_
 refine AO.g T [] rfl trivial rfl rfl ?_
 refine AO.g T [17] rfl ⟨fun h=>h,trivial⟩ rfl rfl ?_
 refine AO.g T [18] rfl ⟨fun h=>h,trivial⟩ rfl rfl ?_
 refine AO.g T [] rfl trivial rfl rfl ?_
 refine AO.g T [20] rfl ⟨fun h=>h,trivial⟩ rfl rfl ?_
 refine AO.g T [] rfl trivial rfl rfl ?_
 refine AO.d [22] rfl ⟨fun h=>h,trivial⟩ (fun hg=>zW rfl rfl rfl rfl) rfl ?_
 refine AO.d [21,23] rfl ⟨fun h=>h,fun h=>h,trivial⟩ (fun hg=>zX T rfl rfl rfl rfl rfl (optT hx23 hg) rfl) rfl ?_
 refine AO.g T [24] rfl ⟨fun h=>h,trivial⟩ rfl rfl ?_
 refine AO.g T [25] rfl ⟨fun h=>h,trivial⟩ rfl rfl ?_
 refine AO.d [19] rfl ⟨fun h=>h,trivial⟩ (fun hg=>zN rfl rfl rfl (by rw [hg];exact Bool.true_and _)) rfl ?_
 refine AO.g T [27] rfl ⟨fun h=>h,trivial⟩ rfl rfl ?_
 refine AO.g T [] rfl trivial rfl rfl ?_
 refine AO.g T [29] rfl ⟨fun h=>h,trivial⟩ rfl rfl ?_
 refine AO.d [28] rfl ⟨fun h=>h,trivial⟩ (fun hg=>zN rfl rfl rfl (by rw [hg];exact Bool.true_and _)) rfl ?_
 refine AO.v rfl rfl (zO rfl rfl rfl rfl) ?_
 refine AO.n (AW.le (Le.ct 0 0 (σ':=(⟨[(1,.p 1 0),(6,.s (List.map ze0 rA.scores)),(7,(rA.scores.length:Int)),(8,(k1:Int)),(32,.v (.bool ((!x20) || ((decide ((k1:Int) > 0) && decide (x22 < 0)) && decide (y2 ≥ 0)))))],[(1,.box [rA.skater,.s (List.map ze0 rA.scores)])],43,[]⟩:St))) ?_)
 refine AW.c (b:=((!x20) || ((decide ((k1:Int) > 0) && decide (x22 < 0)) && decide (y2 ≥ 0)))) rfl (fun hc=>?_) (fun hc=>?_)
 replace hH:=condT hc hH
 refine AW.q (AW.r (AO.pu T ?_))
 refine AO.n (AW.t ?_)
 have hR:=zS hH;subst hR
 exact retQ.i [] rfl (.c (.c .v))
 replace hH:=condF hc hH
 refine AW.k (AW.r ?_)
 refine AO.v rfl rfl (zR rfl rfl rfl rfl (zK hlt6 hb5)) ?_
 refine AO.pu T ?_
 refine AO.n ?_
 refine ⟨k1+1,⟨Nat.succ_le_of_lt hlt6,(by rw [zds hd4];exact hH)⟩,(by have:=hlt6;dsimp only;omega),?_⟩
 exact Le.ct 0 0

def impl_AreResults_l2 (y2:Result):List Result→Nat→Option (Except Bool Unit)
 | [],k80 =>
  some (.ok ())
 | y81::ys82,k80 =>
  cond (y81.skater == y2.skater)
   (some (.error false))
   (impl_AreResults_l2 y2 ys82 (k80+1))
def impl_AreResults_l1 (l:List Result):List Result→Nat→Option Bool
 | [],k1 =>
  some (decide ((l.length:Int) ≤ 40))
 | y2::ys3,k1 =>
  ((impl_isResult_p y2).bind fun x74 =>
  (opt (!(!x74)) default (getI l 0)).bind fun x76 =>
  cond ((!x74) || ((y2.scores.length:Int) != (x76.scores.length:Int)))
   (some (.error false))
   ((sliceHi l (k1:Int)).bind fun x78 =>
   impl_AreResults_l2 y2 x78 0)).bind fun o72=>flow o72 fun _ =>
  impl_AreResults_l1 l ys3 (k1+1)
def impl_AreResults_p (l:List Result):Option Bool :=
 impl_AreResults_l1 l l 0
theorem impl_AreResults_ok (l:List Result) (r:Bool) (hH:impl_AreResults_p l=some r):SpecR Tryz.prog 77 [.s (List.map ze2 l)] (.v (.bool r)):=by
 refine zFn T Tryz.func77 rfl (by decide) rfl ?_
 refine AW.q (AW.r (AO.pu T ?_))
 refine AO.n ?_
 iterate 2 refine AW.q ?_
 refine AW.r (AO.pu T ?_)
 refine AO.v rfl rfl (zL T rfl rfl rfl) ?_
 refine AO.pu T ?_
 refine AO.n (AW.b ?_)
 refine AW.loopS (fun s:Nat=>(⟨[(0,.s (List.map ze2 l)),(7,.s (List.map ze2 l)),(8,(l.length:Int)),(9,(s:Int))],[],46,[]⟩:St)) (fun s=>s ≤ l.length∧impl_AreResults_l1 l (l.drop s) s=some r) (fun s=>l.length - s) 0 ⟨Nat.zero_le _,hH⟩ ?_ ?_
 exact Le.ct 0 0
 rintro k1 ⟨hk,hH⟩
 replace hH:impl_AreResults_l1 l (l.drop k1) k1=some r:=hH
 try dsimp only
 refine AW.boundM (t:=0) (l:=l) rfl (fun hb5=>?_)
 rcases hd4:l.drop k1 with _ | ⟨y2,ys3⟩
 rw [hd4,impl_AreResults_l1] at hH
 have hlt6:=drop_ge hd4
 refine AW.q (AW.r (AO.pu T ?_))
 refine AO.n (AW.q (AW.condF' (b:=decide ((k1:Int) < (l.length:Int))) rfl (rngF hlt6) ?_))
 refine AW.exit (AW.q (AW.r ?_))
 refine AO.pu T ?_
 refine AO.v rfl rfl (zL T rfl rfl rfl) ?_
 iterate 2 refine AO.pu T ?_
 refine AO.n (AW.t ?_)
 have hR:=zS hH;subst hR
 exact retQ.i [] rfl (.c (.c .v))
 rw [hd4,impl_AreResults_l1] at hH
 have hlt6:=drop_lt hd4
 refine AW.q (AW.r (AO.pu T ?_))
 refine AO.n (AW.q (AW.condT' (b:=decide ((k1:Int) < (l.length:Int))) rfl (rngT hlt6) ?_))
 refine AW.k ?_
 obtain ⟨o72,hH,hK73⟩:=zB hH
 refine AW.seqJ (fun s:Unit=>(⟨[(0,.s (List.map ze2 l)),(7,.s (List.map ze2 l)),(8,(l.length:Int)),(9,(k1:Int))],[],46,[]⟩:St)) (fun s=>.ok s=o72) ?_ ?_
 refine AW.b (AW.q (AW.r ?_))
 refine AO.pu T ?_
 refine AO.v rfl rfl (zX T rfl rfl rfl rfl rfl (zgD hd4) rfl) ?_
 refine AO.pu T (d:=.g [y2.skater,.s (List.map ze0 y2.scores)]) ?_
 refine AO.s rfl (zA T rfl 21 rfl rfl rfl rfl rfl) ?_
 refine AO.pu T ?_
 refine AO.se T [y2.skater,.s (List.map ze0 y2.scores)] ?_
 refine AO.n ?_
 iterate 2 refine AW.q ?_
 obtain ⟨x74,hx75,hH⟩:=zB hH
 obtain ⟨x76,hx77,hH⟩:=zB hH
 refine AW.drawn 12 22 [] mix (by kernel_rfl) rfl ?_
 refine AD.p T (d:=.g [y2.skater,.s (List.map ze0 y2.scores)]) rfl rfl rfl ?_
 refine AD.w rfl rfl (zV rfl rfl rfl rfl (impl_isResult_ok _ _ (hx75)) rfl) ?_
 iterate 2 refine AD.p T rfl rfl rfl ?_
 refine AD.pureG T [] rfl trivial rfl rfl ?_
 refine AD.pureG T [18] rfl ⟨fun h=>h,trivial⟩ rfl rfl ?_
 refine AD.guard [19] rfl ⟨fun h=>h,trivial⟩ (fun hg=>zL T rfl rfl rfl) rfl ?_
 refine AD.pureG T [] rfl trivial rfl rfl ?_
 refine AD.guard [21] rfl ⟨fun h=>h,trivial⟩ (fun hg=>zX T rfl rfl rfl rfl rfl (optT hx77 hg) rfl) rfl ?_
 refine AD.pureG T [22] rfl ⟨fun h=>h,trivial⟩ rfl rfl ?_
 refine AD.pureG T [23] rfl ⟨fun h=>h,trivial⟩ rfl rfl ?_
 refine AD.guard [24] rfl ⟨fun h=>h,trivial⟩ (fun hg=>zL T rfl rfl rfl) rfl ?_
 refine AD.nil (AO.g T [20,25] rfl ⟨fun h=>h,fun h=>h,trivial⟩ rfl rfl ?_)
 refine AO.v rfl rfl (zO rfl rfl rfl rfl) ?_
 refine AO.n (AW.c (b:=((!x74) || ((y2.scores.length:Int) != (x76.scores.length:Int)))) rfl (fun hc=>?_) (fun hc=>?_))
 replace hH:=condT hc hH
 refine AW.q (AW.r (AO.pu T ?_))
 refine AO.n (AW.t ?_)
 obtain rfl:=zS hH
 replace hH:=hK73
 have hR:=zS hH;subst hR
 exact retQ.i [] rfl (.c (.c .v))
 replace hH:=condF hc hH
 refine AW.k (AW.q ?_)
 obtain ⟨x78,hx79,hH⟩:=zB hH
 refine AW.r ?_
 iterate 2 refine AO.pu T ?_
 refine AO.v rfl rfl (slice_hi_map_ok T rfl rfl rfl rfl rfl (hx79) (fun _=>rfl)) ?_
 refine AO.v rfl rfl (zL T rfl rfl rfl) ?_
 refine AO.pu T ?_
 refine AO.n (AW.le (Le.ct 0 0 (σ':=(⟨[(0,.s (List.map ze2 l)),(4,.p 21 0),(7,.s (List.map ze2 l)),(8,(l.length:Int)),(9,(k1:Int)),(30,.s (List.map ze2 x78)),(31,(x78.length:Int)),(32,(0:Int))],[(21,.box [y2.skater,.s (List.map ze0 y2.scores)])],46,[]⟩:St))) ?_)
 refine AW.b (AW.loopS (fun s:Nat=>(⟨[(0,.s (List.map ze2 l)),(4,.p 21 0),(7,.s (List.map ze2 l)),(8,(l.length:Int)),(9,(k1:Int)),(30,.s (List.map ze2 x78)),(31,(x78.length:Int)),(32,(s:Int))],[(21,.box [y2.skater,.s (List.map ze0 y2.scores)])],46,[]⟩:St)) (fun s=>s ≤ x78.length∧impl_AreResults_l2 y2 (x78.drop s) s=some o72) (fun s=>x78.length - s) 0 ⟨Nat.zero_le _,hH⟩ ?_ ?_)
 exact Le.ct 0 0
 rintro k80 ⟨hk,hH⟩
 replace hH:impl_AreResults_l2 y2 (x78.drop k80) k80=some o72:=hH
 try dsimp only
 refine AW.boundM (t:=30) (l:=x78) rfl (fun hb84=>?_)
 rcases hd83:x78.drop k80 with _ | ⟨y81,ys82⟩
 rw [hd83,impl_AreResults_l2] at hH
 have hlt85:=drop_ge hd83
 refine AW.q (AW.r (AO.pu T ?_))
 refine AO.n (AW.q (AW.condF' (b:=decide ((k80:Int) < (x78.length:Int))) rfl (rngF hlt85) ?_))
 refine AW.exit ?_
 refine ⟨_,zS hH,?_⟩
 exact Le.ct 0 0
 rw [hd83,impl_AreResults_l2] at hH
 have hlt85:=drop_lt hd83
 refine AW.q (AW.r (AO.pu T ?_))
 refine AO.n (AW.q (AW.condT' (b:=decide ((k80:Int) < (x78.length:Int))) rfl (rngT hlt85) ?_))
 refine AW.k (AW.q ?_)
 refine AW.b (AW.q (AW.r ?_))
 refine AO.v rfl rfl (zX T rfl rfl rfl rfl rfl (zgD hd83) rfl) ?_
 refine AO.pu T (d:=.g [y81.skater,.s (List.map ze0 y81.scores)]) ?_
 refine AO.s rfl (zA T rfl 24 rfl rfl rfl rfl rfl) ?_
 refine AO.se T [y81.skater,.s (List.map ze0 y81.scores)] ?_
 refine AO.n (AW.q (AW.r ?_))
 iterate 5 refine AO.pu T ?_
 refine AO.n (AW.c (b:=(y81.skater == y2.skater)) rfl (fun hc=>?_) (fun hc=>?_))
 replace hH:=condT hc hH
 refine AW.q (AW.r (AO.pu T ?_))
 refine AO.n (AW.t ?_)
 obtain rfl:=zS hH
 replace hH:=hK73
 have hR:=zS hH;subst hR
 exact retQ.i [] rfl (.c (.c .v))
 replace hH:=condF hc hH
 refine AW.k (AW.r ?_)
 refine AO.v rfl rfl (zR rfl rfl rfl rfl (zK hlt85 hb84)) ?_
 refine AO.pu T ?_
 refine AO.n ?_
 refine ⟨k80+1,⟨Nat.succ_le_of_lt hlt85,(by rw [zds hd83];exact hH)⟩,(by have:=hlt85;dsimp only;omega),?_⟩
 exact Le.ct 0 0
 rintro _ hs
 subst hs
 replace hH:=hK73
 try dsimp only [flow,flowE] at hH
 try dsimp only
 refine AW.r (AO.v rfl rfl (zR rfl rfl rfl rfl (zK hlt6 hb5)) ?_)
 refine AO.pu T ?_
 refine AO.n ?_
 refine ⟨k1+1,⟨Nat.succ_le_of_lt hlt6,(by rw [zds hd4];exact hH)⟩,(by have:=hlt6;dsimp only;omega),?_⟩
 exact Le.ct 0 0

def impl_without_l1 (other:List Int):List Int→Nat→List Int→Option ((List Int))
 | [],k1,v16 =>
  some v16
 | y2::ys3,k1,v16 =>
  (slices_Contains_int_p other y2).bind fun x18 =>
  cond (!x18)
   ((need (fitsB 8 (v16.length+([y2]).length))).bind fun u20 =>
   impl_without_l1 other ys3 (k1+1) (v16++[y2]))
   (impl_without_l1 other ys3 (k1+1) v16)
def impl_without_p (l:List Int) (other:List Int):Option (List Int) :=
 impl_without_l1 other l 0 []
theorem impl_without_ok (l:List Int) (other:List Int) (r:(List Int)) (hH:impl_without_p l other=some r):SpecR Tryz.prog 67 [.s (List.map ze0 l),.s (List.map ze0 other)] (.w 1 (r.map ze0)):=by
 refine zFn T Tryz.func67 rfl (by decide) rfl ?_
 refine AW.q (AW.r (AO.pu T ?_))
 refine AO.n (AW.q (AW.r ?_))
 refine AO.s rfl (mk0_ok T rfl rfl rfl rfl) ?_
 refine AO.pu T ?_
 refine AO.n ?_
 iterate 2 refine AW.q ?_
 refine AW.r (AO.pu T ?_)
 refine AO.v rfl rfl (zL T rfl rfl rfl) ?_
 refine AO.pu T ?_
 refine AO.n (AW.b ?_)
 refine AW.loopS (fun s:Nat × (List Int)=>(⟨[(1,.s (List.map ze0 other)),(5,.R 4),(9,.s (List.map ze0 l)),(10,(l.length:Int)),(11,(s.1:Int))],[(4,.row 1 (List.map ze0 s.2))],25,[]⟩:St)) (fun s=>s.1 ≤ l.length∧impl_without_l1 other (l.drop s.1) s.1 s.2=some r) (fun s=>l.length - s.1) (0,[]) ⟨Nat.zero_le _,hH⟩ ?_ ?_
 refine Le.trans (Le.void 5 4 1 rfl rfl) ?_
 exact Le.ct 0 0
 rintro ⟨k1,v16⟩ ⟨hk,hH⟩
 replace hH:impl_without_l1 other (l.drop k1) k1 v16=some r:=hH
 try dsimp only
 refine AW.boundM (t:=9) (l:=l) rfl (fun hb5=>?_)
 rcases hd4:l.drop k1 with _ | ⟨y2,ys3⟩
 rw [hd4,impl_without_l1] at hH
 have hlt6:=drop_ge hd4
 refine AW.q (AW.r (AO.pu T ?_))
 refine AO.n (AW.q (AW.condF' (b:=decide ((k1:Int) < (l.length:Int))) rfl (rngF hlt6) ?_))
 refine AW.exit (AW.q (AW.r ?_))
 iterate 2 refine AO.pu T ?_
 refine AO.n (AW.t ?_)
 have hR:=zS hH;subst hR
 exact retQ.i [4] rfl (.c (.c (.rowR rfl)))
 rw [hd4,impl_without_l1] at hH
 have hlt6:=drop_lt hd4
 refine AW.q (AW.r (AO.pu T ?_))
 refine AO.n (AW.q (AW.condT' (b:=decide ((k1:Int) < (l.length:Int))) rfl (rngT hlt6) ?_))
 refine AW.k (AW.q ?_)
 refine AW.b (AW.q (AW.r ?_))
 refine AO.v rfl rfl (zX T rfl rfl rfl rfl rfl (zgD hd4) rfl) ?_
 iterate 2 refine AO.pu T ?_
 refine AO.n (AW.q ?_)
 obtain ⟨x18,hx19,hH⟩:=zB hH
 refine AW.r ?_
 iterate 2 refine AO.pu T ?_
 refine AO.v rfl rfl (zV rfl rfl rfl rfl (slices_Contains_int_ok _ _ _ (hx19)) rfl) ?_
 refine AO.pu T ?_
 refine AO.n (AW.c (b:=(!x18)) rfl (fun hc=>?_) (fun hc=>?_))
 replace hH:=condT hc hH
 obtain ⟨u20,hx21,hH⟩:=zB hH
 refine AW.r ?_
 iterate 2 refine AO.pu T ?_
 refine AO.s rfl (mk_map_ok T rfl 5 rfl rfl rfl rfl rfl (f:=ze0) (l:=[y2]) rfl rfl (fun _=>rfl) rfl rfl rfl rfl rfl) ?_
 refine AO.s rfl (zAr T rfl 6 rfl rfl rfl rfl rfl (by decide) rfl rfl rfl rfl (fun _=>rfl) (needT (hx21)) rfl rfl) ?_
 refine AO.pu T ?_
 refine AO.n (AW.r ?_)
 refine AO.v rfl rfl (zR rfl rfl rfl rfl (zK hlt6 hb5)) ?_
 refine AO.pu T ?_
 refine AO.n ?_
 refine ⟨(k1+1,(v16++[y2])),⟨Nat.succ_le_of_lt hlt6,(by rw [zds hd4];exact hH)⟩,(by have:=hlt6;dsimp only;omega),?_⟩
 exact Le.ct 6 4
 replace hH:=condF hc hH
 refine AW.k (AW.r ?_)
 refine AO.v rfl rfl (zR rfl rfl rfl rfl (zK hlt6 hb5)) ?_
 refine AO.pu T ?_
 refine AO.n ?_
 refine ⟨(k1+1,v16),⟨Nat.succ_le_of_lt hlt6,(by rw [zds hd4];exact hH)⟩,(by have:=hlt6;dsimp only;omega),?_⟩
 exact Le.ct 0 0

def impl_hasEntrants_l1 (e:Event):List Entrant→Nat→List Int→Option Bool
 | [],k7,v22 =>
  (impl_without_p e.gone v22).bind fun x24 =>
  some ((x24.length:Int) == 0)
 | y8::ys9,k7,v22 =>
  (need (fitsB 8 (v22.length+([y8.skater]).length))).bind fun u26 =>
  (getI e.results (k7:Int)).bind fun x28 =>
  cond ((x28.skater != y8.skater) || ((x28.scores.length:Int) != e.segments))
   (some false)
   (impl_hasEntrants_l1 e ys9 (k7+1) (v22++[y8.skater]))
def impl_hasEntrants_p (e:Event):Option Bool :=
 (impl_AreEntrants_p e.entrants).bind fun x1 =>
 (opt (!(!x1)) default (impl_isIncreasing_p e.gone 1000)).bind fun x3 =>
 (opt (!((!x1) || (!x3))) default (impl_AreResults_p e.results)).bind fun x5 =>
 cond ((((!x1) || (!x3)) || (!x5)) || ((e.results.length:Int) != (e.entrants.length:Int)))
  (some false)
  (impl_hasEntrants_l1 e e.entrants 0 [])
theorem impl_hasEntrants_ok (e:Event) (r:Bool) (hH:impl_hasEntrants_p e=some r):SpecR Tryz.prog 56 [.g (ze4 e)] (.v (.bool r)):=by
 refine zFn T Tryz.func56 rfl (by decide) rfl ?_
 refine AW.q (AW.r (AO.s rfl (zBx T rfl 1 rfl rfl rfl rfl) ?_))
 refine AO.pu T ?_
 refine AO.n ?_
 iterate 2 refine AW.q ?_
 obtain ⟨x1,hx2,hH⟩:=zB hH
 obtain ⟨x3,hx4,hH⟩:=zB hH
 obtain ⟨x5,hx6,hH⟩:=zB hH
 refine AW.r ?_
 iterate 2 refine AO.pu T ?_
 refine AO.v rfl rfl (zV rfl rfl rfl rfl (impl_AreEntrants_ok _ _ (hx2)) rfl) ?_
 iterate 2 refine AO.pu T ?_
 refine AO.g T [] rfl trivial rfl rfl ?_
 refine AO.g T [12] rfl ⟨fun h=>h,trivial⟩ rfl rfl ?_
 refine AO.d [13] rfl ⟨fun h=>h,trivial⟩ (fun hg=>zV rfl rfl rfl rfl (impl_isIncreasing_ok _ _ _ (optT hx4 hg)) rfl) rfl ?_
 refine AO.g T [14] rfl ⟨fun h=>h,trivial⟩ rfl rfl ?_
 refine AO.v rfl rfl (zO rfl rfl rfl rfl) ?_
 refine AO.pu T ?_
 refine AO.g T [] rfl trivial rfl rfl ?_
 refine AO.g T [18] rfl ⟨fun h=>h,trivial⟩ rfl rfl ?_
 refine AO.d [19] rfl ⟨fun h=>h,trivial⟩ (fun hg=>zV rfl rfl rfl rfl (impl_AreResults_ok _ _ (optT hx6 hg)) rfl) rfl ?_
 refine AO.g T [20] rfl ⟨fun h=>h,trivial⟩ rfl rfl ?_
 refine AO.v rfl rfl (zO rfl rfl rfl rfl) ?_
 refine AO.pu T ?_
 refine AO.g T [] rfl trivial rfl rfl ?_
 refine AO.g T [24] rfl ⟨fun h=>h,trivial⟩ rfl rfl ?_
 refine AO.d [25] rfl ⟨fun h=>h,trivial⟩ (fun hg=>zL T rfl rfl rfl) rfl ?_
 refine AO.g T [] rfl trivial rfl rfl ?_
 refine AO.g T [27] rfl ⟨fun h=>h,trivial⟩ rfl rfl ?_
 refine AO.d [28] rfl ⟨fun h=>h,trivial⟩ (fun hg=>zL T rfl rfl rfl) rfl ?_
 refine AO.g T [26,29] rfl ⟨fun h=>h,fun h=>h,trivial⟩ rfl rfl ?_
 refine AO.v rfl rfl (zO rfl rfl rfl rfl) ?_
 refine AO.n (AW.le (Le.ct 0 0 (σ':=(⟨[(1,.p 1 0),(31,.v (.bool ((((!x1) || (!x3)) || (!x5)) || ((e.results.length:Int) != (e.entrants.length:Int)))))],[(1,.box [e.segments,e.size,e.key,.s (List.map ze1 e.entrants),.s (List.map ze0 e.gone),e.segment,.s (List.map ze0 e.order),.s (List.map ze2 e.results)])],71,[]⟩:St))) ?_)
 refine AW.c (b:=((((!x1) || (!x3)) || (!x5)) || ((e.results.length:Int) != (e.entrants.length:Int)))) rfl (fun hc=>?_) (fun hc=>?_)
 replace hH:=condT hc hH
 refine AW.q (AW.r (AO.pu T ?_))
 refine AO.n (AW.t ?_)
 have hR:=zS hH;subst hR
 exact retQ.i [] rfl (.c (.c .v))
 replace hH:=condF hc hH
 refine AW.k (AW.q (AW.r ?_))
 refine AO.s rfl (mk0_ok T rfl rfl rfl rfl) ?_
 refine AO.pu T ?_
 refine AO.n ?_
 iterate 2 refine AW.q ?_
 refine AW.r ?_
 iterate 2 refine AO.pu T ?_
 refine AO.v rfl rfl (zL T rfl rfl rfl) ?_
 refine AO.pu T ?_
 refine AO.n (AW.b ?_)
 refine AW.loopS (fun s:Nat × (List Int)=>(⟨[(1,.p 1 0),(3,.R 8),(34,.s (List.map ze1 e.entrants)),(35,(e.entrants.length:Int)),(36,(s.1:Int))],[(1,.box [e.segments,e.size,e.key,.s (List.map ze1 e.entrants),.s (List.map ze0 e.gone),e.segment,.s (List.map ze0 e.order),.s (List.map ze2 e.results)]),(8,.row 1 (List.map ze0 s.2))],71,[]⟩:St)) (fun s=>s.1 ≤ e.entrants.length∧impl_hasEntrants_l1 e (e.entrants.drop s.1) s.1 s.2=some r) (fun s=>e.entrants.length - s.1) (0,[]) ⟨Nat.zero_le _,hH⟩ ?_ ?_
 refine Le.trans (Le.void 3 8 1 rfl rfl) ?_
 exact Le.ct 0 0
 rintro ⟨k7,v22⟩ ⟨hk,hH⟩
 replace hH:impl_hasEntrants_l1 e (e.entrants.drop k7) k7 v22=some r:=hH
 try dsimp only
 refine AW.boundM (t:=34) (l:=e.entrants) rfl (fun hb11=>?_)
 rcases hd10:e.entrants.drop k7 with _ | ⟨y8,ys9⟩
 rw [hd10,impl_hasEntrants_l1] at hH
 have hlt12:=drop_ge hd10
 refine AW.q (AW.r (AO.pu T ?_))
 refine AO.n (AW.q (AW.condF' (b:=decide ((k7:Int) < (e.entrants.length:Int))) rfl (rngF hlt12) ?_))
 refine AW.exit (AW.q ?_)
 obtain ⟨x24,hx25,hH⟩:=zB hH
 refine AW.r ?_
 iterate 3 refine AO.pu T ?_
 refine AO.s rfl (callL_ok rfl 10 rfl rfl (es:=[.s (List.map ze0 e.gone),.s (List.map ze0 v22)]) (by exact ⟨.free rfl,(.rowR rfl (.map fun y=>.vs rfl)),trivial⟩) (impl_without_ok _ _ _ (hx25)) (zfree_map (fun y=>(.cons (zfree_v _) .nil))) rfl rfl rfl) ?_
 refine AO.v rfl rfl (len_row_ok T rfl rfl rfl rfl) ?_
 iterate 2 refine AO.pu T ?_
 refine AO.n (AW.t ?_)
 have hR:=zS hH;subst hR
 exact retQ.i [] rfl (.c (.c .v))
 rw [hd10,impl_hasEntrants_l1] at hH
 have hlt12:=drop_lt hd10
 refine AW.q (AW.r (AO.pu T ?_))
 refine AO.n (AW.q (AW.condT' (b:=decide ((k7:Int) < (e.entrants.length:Int))) rfl (rngT hlt12) ?_))
 refine AW.k (AW.q ?_)
 refine AW.b (AW.q (AW.r ?_))
 refine AO.pu T ?_
 refine AO.v rfl rfl (zX T rfl rfl rfl rfl rfl (zgD hd10) rfl) ?_
 refine AO.pu T (d:=.g [y8.skater,y8.rank]) ?_
 refine AO.s rfl (zA T rfl 11 rfl rfl rfl rfl rfl) ?_
 refine AO.pu T ?_
 refine AO.se T [y8.skater,y8.rank] ?_
 refine AO.n (AW.q ?_)
 obtain ⟨u26,hx27,hH⟩:=zB hH
 refine AW.r ?_
 iterate 3 refine AO.pu T ?_
 refine AO.s rfl (mk_map_ok T rfl 12 rfl rfl rfl rfl rfl (f:=ze0) (l:=[y8.skater]) rfl rfl (fun _=>rfl) rfl rfl rfl rfl rfl) ?_
 refine AO.s rfl (zAr T rfl 13 rfl rfl rfl rfl rfl (by decide) rfl rfl rfl rfl (fun _=>rfl) (needT (hx27)) rfl rfl) ?_
 refine AO.pu T ?_
 refine AO.n (AW.q ?_)
 obtain ⟨x28,hx29,hH⟩:=zB hH
 refine AW.r ?_
 iterate 3 refine AO.pu T ?_
 refine AO.v rfl rfl (zX T rfl rfl rfl rfl rfl (hx29) rfl) ?_
 refine AO.pu T (d:=.g [x28.skater,.s (List.map ze0 x28.scores)]) ?_
 refine AO.s rfl (zA T rfl 14 rfl rfl rfl rfl rfl) ?_
 refine AO.se T [x28.skater,.s (List.map ze0 x28.scores)] ?_
 refine AO.n (AW.q (AW.r ?_))
 iterate 6 refine AO.pu T ?_
 refine AO.g T [] rfl trivial rfl rfl ?_
 refine AO.g T [57] rfl ⟨fun h=>h,trivial⟩ rfl rfl ?_
 refine AO.d [58] rfl ⟨fun h=>h,trivial⟩ (fun hg=>zL T rfl rfl rfl) rfl ?_
 refine AO.g T [] rfl trivial rfl rfl ?_
 refine AO.g T [60] rfl ⟨fun h=>h,trivial⟩ rfl rfl ?_
 refine AO.g T [59,61] rfl ⟨fun h=>h,fun h=>h,trivial⟩ rfl rfl ?_
 refine AO.v rfl rfl (zO rfl rfl rfl rfl) ?_
 refine AO.n (AW.le (Le.ct 0 0 (σ':=(⟨[(1,.p 1 0),(3,.R 13),(34,.s (List.map ze1 e.entrants)),(35,(e.entrants.length:Int)),(36,(k7:Int)),(63,.v (.bool ((x28.skater != y8.skater) || ((x28.scores.length:Int) != e.segments))))],[(1,.box [e.segments,e.size,e.key,.s (List.map ze1 e.entrants),.s (List.map ze0 e.gone),e.segment,.s (List.map ze0 e.order),.s (List.map ze2 e.results)]),(13,.row 1 (List.map ze0 (v22++[y8.skater])))],71,[]⟩:St))) ?_)
 refine AW.c (b:=((x28.skater != y8.skater) || ((x28.scores.length:Int) != e.segments))) rfl (fun hc=>?_) (fun hc=>?_)
 replace hH:=condT hc hH
 refine AW.q (AW.r (AO.pu T ?_))
 refine AO.n (AW.t ?_)
 have hR:=zS hH;subst hR
 exact retQ.i [] rfl (.c (.c .v))
 replace hH:=condF hc hH
 refine AW.k (AW.r ?_)
 refine AO.v rfl rfl (zR rfl rfl rfl rfl (zK hlt12 hb11)) ?_
 refine AO.pu T ?_
 refine AO.n ?_
 refine ⟨(k7+1,(v22++[y8.skater])),⟨Nat.succ_le_of_lt hlt12,(by rw [zds hd10];exact hH)⟩,(by have:=hlt12;dsimp only;omega),?_⟩
 exact Le.ct 13 8

def impl_totalOf_l1:List Int→Nat→Int→Int→Option ((Int × Int))
 | [],k1,v9,v10 =>
  some (v9,v10)
 | y2::ys3,k1,v9,v10 =>
  cond (decide (y2 ≥ 0))
   (impl_totalOf_l1 ys3 (k1+1) (w64 (v9+y2)) (w64 (v10+1)))
   (impl_totalOf_l1 ys3 (k1+1) v9 v10)
def impl_totalOf_p (rA:Result):Option (Int × Int) :=
 impl_totalOf_l1 rA.scores 0 0 0
theorem impl_totalOf_ok (rA:Result) (r:(Int × Int)) (hH:impl_totalOf_p rA=some r):SpecR Tryz.prog 134 [.g (ze2 rA)] (.t [.v (.int .i64 r.1),.v (.int .i64 r.2)]):=by
 refine zFn T Tryz.func134 rfl (by decide) rfl ?_
 refine AW.q (AW.r (AO.s rfl (zBx T rfl 1 rfl rfl rfl rfl) ?_))
 iterate 2 refine AO.pu T ?_
 refine AO.n (AW.q (AW.r ?_))
 iterate 2 refine AO.pu T ?_
 refine AO.n ?_
 iterate 2 refine AW.q ?_
 refine AW.r ?_
 iterate 2 refine AO.pu T ?_
 refine AO.v rfl rfl (zL T rfl rfl rfl) ?_
 refine AO.pu T ?_
 refine AO.n (AW.b ?_)
 refine AW.loopS (fun s:Nat × Int × Int=>(⟨[(4,s.2.1),(5,s.2.2),(9,.s (List.map ze0 rA.scores)),(10,(rA.scores.length:Int)),(11,(s.1:Int))],[],25,[]⟩:St)) (fun s=>s.1 ≤ rA.scores.length∧impl_totalOf_l1 (rA.scores.drop s.1) s.1 s.2.1 s.2.2=some r) (fun s=>rA.scores.length - s.1) (0,0,0) ⟨Nat.zero_le _,hH⟩ ?_ ?_
 exact Le.ct 0 0
 rintro ⟨k1,v9,v10⟩ ⟨hk,hH⟩
 replace hH:impl_totalOf_l1 (rA.scores.drop k1) k1 v9 v10=some r:=hH
 try dsimp only
 refine AW.boundM (t:=9) (l:=rA.scores) rfl (fun hb5=>?_)
 rcases hd4:rA.scores.drop k1 with _ | ⟨y2,ys3⟩
 rw [hd4,impl_totalOf_l1] at hH
 have hlt6:=drop_ge hd4
 refine AW.q (AW.r (AO.pu T ?_))
 refine AO.n (AW.q (AW.condF' (b:=decide ((k1:Int) < (rA.scores.length:Int))) rfl (rngF hlt6) ?_))
 refine AW.exit (AW.q (AW.r ?_))
 iterate 4 refine AO.pu T ?_
 refine AO.n (AW.t ?_)
 have hR:=zS hH;subst hR
 exact retQ.i [] rfl (.t (zG (.c .v) (zG (.c .v) (zGn))))
 rw [hd4,impl_totalOf_l1] at hH
 have hlt6:=drop_lt hd4
 refine AW.q (AW.r (AO.pu T ?_))
 refine AO.n (AW.q (AW.condT' (b:=decide ((k1:Int) < (rA.scores.length:Int))) rfl (rngT hlt6) ?_))
 refine AW.k (AW.q ?_)
 refine AW.b (AW.q (AW.r ?_))
 refine AO.v rfl rfl (zX T rfl rfl rfl rfl rfl (zgD hd4) rfl) ?_
 iterate 2 refine AO.pu T ?_
 refine AO.n (AW.q (AW.r ?_))
 iterate 2 refine AO.pu T ?_
 refine AO.n (AW.c (b:=decide (y2 ≥ 0)) rfl (fun hc=>?_) (fun hc=>?_))
 replace hH:=condT hc hH
 refine AW.q (AW.r ?_)
 iterate 2 refine AO.pu T ?_
 refine AO.v rfl rfl (zW rfl rfl rfl rfl) ?_
 refine AO.pu T ?_
 refine AO.n (AW.r ?_)
 refine AO.pu T ?_
 refine AO.v rfl rfl (zW rfl rfl rfl rfl) ?_
 refine AO.pu T ?_
 refine AO.n (AW.r ?_)
 refine AO.v rfl rfl (zR rfl rfl rfl rfl (zK hlt6 hb5)) ?_
 refine AO.pu T ?_
 refine AO.n ?_
 refine ⟨(k1+1,w64 (v9+y2),w64 (v10+1)),⟨Nat.succ_le_of_lt hlt6,(by rw [zds hd4];exact hH)⟩,(by have:=hlt6;dsimp only;omega),?_⟩
 exact Le.ct 0 0
 replace hH:=condF hc hH
 refine AW.k (AW.r ?_)
 refine AO.v rfl rfl (zR rfl rfl rfl rfl (zK hlt6 hb5)) ?_
 refine AO.pu T ?_
 refine AO.n ?_
 refine ⟨(k1+1,v9,v10),⟨Nat.succ_le_of_lt hlt6,(by rw [zds hd4];exact hH)⟩,(by have:=hlt6;dsimp only;omega),?_⟩
 exact Le.ct 0 0

def impl_scoredIn_l1 (skater:Int):List Result→Nat→Option Int
 | [],k1 =>
  some 0
 | y2::ys3,k1 =>
  cond (y2.skater == skater)
   ((impl_totalOf_p y2).bind fun x12 =>
   some x12.2)
   (impl_scoredIn_l1 skater ys3 (k1+1))
def impl_scoredIn_p (e:Event) (skater:Int):Option Int :=
 impl_scoredIn_l1 skater e.results 0
theorem impl_scoredIn_ok (e:Event) (skater:Int) (r:Int) (hH:impl_scoredIn_p e skater=some r):SpecR Tryz.prog 97 [.g (ze4 e),skater] (.v (.int .i64 r)):=by
 refine zFn T Tryz.func97 rfl (by decide) rfl ?_
 refine AW.q (AW.r (AO.s rfl (zBx T rfl 1 rfl rfl rfl rfl) ?_))
 refine AO.pu T ?_
 refine AO.n ?_
 iterate 2 refine AW.q ?_
 refine AW.r ?_
 iterate 2 refine AO.pu T ?_
 refine AO.v rfl rfl (zL T rfl rfl rfl) ?_
 refine AO.pu T ?_
 refine AO.n (AW.b ?_)
 refine AW.loopS (fun s:Nat=>(⟨[(1,skater),(10,.s (List.map ze2 e.results)),(11,(e.results.length:Int)),(12,(s:Int))],[],27,[]⟩:St)) (fun s=>s ≤ e.results.length∧impl_scoredIn_l1 skater (e.results.drop s) s=some r) (fun s=>e.results.length - s) 0 ⟨Nat.zero_le _,hH⟩ ?_ ?_
 exact Le.ct 0 0
 rintro k1 ⟨hk,hH⟩
 replace hH:impl_scoredIn_l1 skater (e.results.drop k1) k1=some r:=hH
 try dsimp only
 refine AW.boundM (t:=10) (l:=e.results) rfl (fun hb5=>?_)
 rcases hd4:e.results.drop k1 with _ | ⟨y2,ys3⟩
 rw [hd4,impl_scoredIn_l1] at hH
 have hlt6:=drop_ge hd4
 refine AW.q (AW.r (AO.pu T ?_))
 refine AO.n (AW.q (AW.condF' (b:=decide ((k1:Int) < (e.results.length:Int))) rfl (rngF hlt6) ?_))
 refine AW.exit (AW.q (AW.r ?_))
 refine AO.pu T ?_
 refine AO.n (AW.t ?_)
 have hR:=zS hH;subst hR
 exact retQ.i [] rfl (.c (.c .v))
 rw [hd4,impl_scoredIn_l1] at hH
 have hlt6:=drop_lt hd4
 refine AW.q (AW.r (AO.pu T ?_))
 refine AO.n (AW.q (AW.condT' (b:=decide ((k1:Int) < (e.results.length:Int))) rfl (rngT hlt6) ?_))
 refine AW.k (AW.q ?_)
 refine AW.b (AW.q (AW.r ?_))
 refine AO.v rfl rfl (zX T rfl rfl rfl rfl rfl (zgD hd4) rfl) ?_
 refine AO.pu T (d:=.g [y2.skater,.s (List.map ze0 y2.scores)]) ?_
 refine AO.s rfl (zA T rfl 4 rfl rfl rfl rfl rfl) ?_
 refine AO.se T [y2.skater,.s (List.map ze0 y2.scores)] ?_
 refine AO.n (AW.q (AW.r ?_))
 iterate 4 refine AO.pu T ?_
 refine AO.n (AW.c (b:=(y2.skater == skater)) rfl (fun hc=>?_) (fun hc=>?_))
 replace hH:=condT hc hH
 refine AW.q ?_
 obtain ⟨x12,hx13,hH⟩:=zB hH
 refine AW.r (AO.pu T (d:=.g [y2.skater,.s (List.map ze0 y2.scores)]) ?_)
 refine AO.v rfl rfl (zV rfl rfl rfl rfl (impl_totalOf_ok _ _ (hx13)) rfl) ?_
 iterate 5 refine AO.pu T ?_
 refine AO.n (AW.q (AW.r ?_))
 iterate 2 refine AO.pu T ?_
 refine AO.n (AW.t ?_)
 have hR:=zS hH;subst hR
 exact retQ.i [] rfl (.c (.c .v))
 replace hH:=condF hc hH
 refine AW.k (AW.r ?_)
 refine AO.v rfl rfl (zR rfl rfl rfl rfl (zK hlt6 hb5)) ?_
 refine AO.pu T ?_
 refine AO.n ?_
 refine ⟨k1+1,⟨Nat.succ_le_of_lt hlt6,(by rw [zds hd4];exact hH)⟩,(by have:=hlt6;dsimp only;omega),?_⟩
 exact Le.ct 0 0

def slices_IndexFunc_Entrant_l1 (f:Entrant→Option Bool):List Entrant→Nat→Option Int
 | [],k1 =>
  some (-1)
 | y2::ys3,k1 =>
  (f y2).bind fun x12 =>
  cond x12
   (some (k1:Int))
   (slices_IndexFunc_Entrant_l1 f ys3 (k1+1))
def slices_IndexFunc_Entrant_p (sA:List Entrant) (f:Entrant→Option Bool):Option Int :=
 slices_IndexFunc_Entrant_l1 f sA 0
theorem slices_IndexFunc_Entrant_ok (sA:List Entrant) (f_f:Nat) (f_c:List D) (f_k:f_c.all D.capOk=true) (f:Entrant→Option Bool) (f_h:∀ (a0:Entrant) (q:Bool),f a0=some q→SpecR Tryz.prog f_f ([.g (ze1 a0)]++f_c) (.v (.bool q))) (r:Int) (hH:slices_IndexFunc_Entrant_p sA f=some r):SpecR Tryz.prog 80 [.s (List.map ze1 sA),.f f_f f_c] (.v (.int .i64 r)):=by
 have f_r:=cap_cfree f_k
 refine zFn T Tryz.func80 rfl (by decide) rfl ?_
 refine AW.q (AW.r (AO.pu T ?_))
 refine AO.n ?_
 iterate 2 refine AW.q ?_
 refine AW.r (AO.pu T ?_)
 refine AO.v rfl rfl (zL T rfl rfl rfl) ?_
 refine AO.pu T ?_
 refine AO.n (AW.b ?_)
 refine AW.loopS (fun s:Nat=>(⟨[(0,.s (List.map ze1 sA)),(1,.f f_f f_c),(7,(sA.length:Int)),(8,(s:Int))],[],19,[]⟩:St)) (fun s=>s ≤ sA.length∧slices_IndexFunc_Entrant_l1 f (sA.drop s) s=some r) (fun s=>sA.length - s) 0 ⟨Nat.zero_le _,hH⟩ ?_ ?_
 exact Le.cut 0 0 rfl ⟨⟨_,rfl,rfl⟩,⟨_,rfl,ren_fF f_r⟩,⟨_,rfl,rfl⟩,⟨_,rfl,rfl⟩,trivial⟩ (by repeat' (first | exact trivial | refine ⟨⟨_,rfl,rfl⟩,?_⟩)) (andT (allC rfl (allC (known_fF f_r) (allC rfl (allC rfl allN)))) rfl)
 rintro k1 ⟨hk,hH⟩
 replace hH:slices_IndexFunc_Entrant_l1 f (sA.drop k1) k1=some r:=hH
 try dsimp only
 refine AW.boundM (t:=0) (l:=sA) rfl (fun hb5=>?_)
 rcases hd4:sA.drop k1 with _ | ⟨y2,ys3⟩
 rw [hd4,slices_IndexFunc_Entrant_l1] at hH
 have hlt6:=drop_ge hd4
 refine AW.q (AW.r (AO.pu T ?_))
 refine AO.n (AW.q (AW.condF' (b:=decide ((k1:Int) < (sA.length:Int))) rfl (rngF hlt6) ?_))
 refine AW.exit (AW.q (AW.r ?_))
 refine AO.pu T ?_
 refine AO.n (AW.t ?_)
 have hR:=zS hH;subst hR
 exact retQ.i [] rfl (.c (.c .v))
 rw [hd4,slices_IndexFunc_Entrant_l1] at hH
 have hlt6:=drop_lt hd4
 refine AW.q (AW.r (AO.pu T ?_))
 refine AO.n (AW.q (AW.condT' (b:=decide ((k1:Int) < (sA.length:Int))) rfl (rngT hlt6) ?_))
 refine AW.k (AW.q ?_)
 refine AW.b (AW.q (AW.r ?_))
 iterate 2 refine AO.pu T ?_
 refine AO.n (AW.q ?_)
 obtain ⟨x12,hx13,hH⟩:=zB hH
 refine AW.r ?_
 iterate 3 refine AO.pu T ?_
 refine AO.v rfl rfl (zX T rfl rfl rfl rfl rfl (zgD hd4) rfl) ?_
 refine AO.pu T (d:=.g [y2.skater,y2.rank]) ?_
 refine AO.v rfl rfl (zV rfl rfl rfl (andT rfl (free_cfree f_r)) (f_h _ _ (hx13)) rfl) ?_
 refine AO.n (AW.c (b:=x12) rfl (fun hc=>?_) (fun hc=>?_))
 replace hH:=condT hc hH
 refine AW.q (AW.r ?_)
 iterate 2 refine AO.pu T ?_
 refine AO.n (AW.t ?_)
 have hR:=zS hH;subst hR
 exact retQ.i [] rfl (.c (.c .v))
 replace hH:=condF hc hH
 refine AW.k (AW.r ?_)
 refine AO.v rfl rfl (zR rfl rfl rfl rfl (zK hlt6 hb5)) ?_
 refine AO.pu T ?_
 refine AO.n ?_
 refine ⟨k1+1,⟨Nat.succ_le_of_lt hlt6,(by rw [zds hd4];exact hH)⟩,(by have:=hlt6;dsimp only;omega),?_⟩
 exact Le.cut 0 0 rfl ⟨⟨_,rfl,rfl⟩,⟨_,rfl,ren_fF f_r⟩,⟨_,rfl,rfl⟩,⟨_,rfl,rfl⟩,trivial⟩ (by repeat' (first | exact trivial | refine ⟨⟨_,rfl,rfl⟩,?_⟩)) (andT (allC rfl (allC (known_fF f_r) (allC rfl (allC rfl allN)))) rfl)

def slices_ContainsFunc_Entrant_p (sA:List Entrant) (f:Entrant→Option Bool):Option Bool :=
 (slices_IndexFunc_Entrant_p sA f).bind fun x1 =>
 some (decide (x1 ≥ 0))
theorem slices_ContainsFunc_Entrant_ok (sA:List Entrant) (f_f:Nat) (f_c:List D) (f_k:f_c.all D.capOk=true) (f:Entrant→Option Bool) (f_h:∀ (a0:Entrant) (q:Bool),f a0=some q→SpecR Tryz.prog f_f ([.g (ze1 a0)]++f_c) (.v (.bool q))) (r:Bool) (hH:slices_ContainsFunc_Entrant_p sA f=some r):SpecR Tryz.prog 39 [.s (List.map ze1 sA),.f f_f f_c] (.v (.bool r)):=by
 have f_r:=cap_cfree f_k
 refine zFn T Tryz.func39 rfl (by decide) rfl ?_
 refine AW.q (AW.r (AO.pu T ?_))
 refine AO.n (AW.q ?_)
 obtain ⟨x1,hx2,hH⟩:=zB hH
 refine AW.r ?_
 iterate 2 refine AO.pu T ?_
 refine AO.v rfl rfl (zV rfl rfl rfl (andT (allC rfl (allC f_r allN)) rfl) (slices_IndexFunc_Entrant_ok _ f_f f_c f_k f f_h _ (hx2)) rfl) ?_
 iterate 2 refine AO.pu T ?_
 refine AO.n (AW.t ?_)
 have hR:=zS hH;subst hR
 exact retQ.i [] rfl (.c (.c .v))

def impl_isThere_c1_p (x:Entrant) (a:Int):Option Bool :=
 some (x.skater == a)
theorem impl_isThere_c1_ok (x:Entrant) (a:Int) (r:Bool) (hH:impl_isThere_c1_p x a=some r):SpecR Tryz.prog 81 [.g (ze1 x),.q [a]] (.v (.bool r)):=by
 refine zFn T Tryz.func81 rfl (by decide) rfl ?_
 refine AW.q (AW.r (AO.s rfl (zBx T rfl 1 rfl rfl rfl rfl) ?_))
 refine AO.pu T ?_
 refine AO.n (AW.q (AW.r ?_))
 iterate 5 refine AO.pu T ?_
 refine AO.n (AW.t ?_)
 have hR:=zS hH;subst hR
 exact retQ.i [] rfl (.c (.c .v))

def impl_isThere_p (e:Event) (skater:Int):Option Bool :=
 (slices_ContainsFunc_Entrant_p e.entrants (fun a0=>impl_isThere_c1_p a0 skater)).bind fun x1 =>
 (opt x1 default (slices_Contains_int_p e.gone skater)).bind fun x3 =>
 some (x1 && (!x3))
theorem impl_isThere_ok (e:Event) (skater:Int) (r:Bool) (hH:impl_isThere_p e skater=some r):SpecR Tryz.prog 41 [.g (ze4 e),skater] (.v (.bool r)):=by
 refine zFn T Tryz.func41 rfl (by decide) rfl ?_
 refine AW.q (AW.r (AO.s rfl (zBx T rfl 1 rfl rfl rfl rfl) ?_))
 refine AO.s rfl (zBx T rfl 2 rfl rfl rfl rfl) ?_
 refine AO.pu T ?_
 refine AO.n (AW.q ?_)
 obtain ⟨x1,hx2,hH⟩:=zB hH
 obtain ⟨x3,hx4,hH⟩:=zB hH
 refine AW.r ?_
 iterate 3 refine AO.pu T ?_
 refine AO.v rfl rfl (zLV rfl rfl rfl (es:=[.s (List.map ze1 e.entrants),.f 81 [.q [skater]]]) ⟨.free rfl,lend_f (LendL.cons (Lend.boxF rfl rfl) LendL.nil),trivial⟩ (slices_ContainsFunc_Entrant_ok _ 81 [.q [skater]] rfl (fun a0=>impl_isThere_c1_p a0 skater) (fun a0 q h=>impl_isThere_c1_ok a0 skater q h) _ (hx2)) (zfree_v _) rfl) ?_
 refine AO.pu T ?_
 refine AO.g T [] rfl trivial rfl rfl ?_
 refine AO.g T [10] rfl ⟨fun h=>h,trivial⟩ rfl rfl ?_
 refine AO.g T [] rfl trivial rfl rfl ?_
 refine AO.d [11,12] rfl ⟨fun h=>h,fun h=>h,trivial⟩ (fun hg=>zV rfl rfl rfl rfl (slices_Contains_int_ok _ _ _ (optT hx4 hg)) rfl) rfl ?_
 refine AO.g T [13] rfl ⟨fun h=>h,trivial⟩ rfl rfl ?_
 refine AO.v rfl rfl (zN rfl rfl rfl rfl) ?_
 refine AO.pu T ?_
 refine AO.n (AW.t ?_)
 have hR:=zS hH;subst hR
 exact retQ.i [] rfl (.c (.c .v))

def impl_copyInts_p (l:List Int):Option (List Int) :=
 (need (fitsB 8 l.length)).bind fun u1 =>
 some l
theorem impl_copyInts_ok (l:List Int) (r:(List Int)) (hH:impl_copyInts_p l=some r):SpecR Tryz.prog 93 [.s (List.map ze0 l)] (.w 1 (r.map ze0)):=by
 refine zFn T Tryz.func93 rfl (by decide) rfl ?_
 refine AW.q (AW.r (AO.pu T ?_))
 refine AO.n (AW.q ?_)
 obtain ⟨u1,hx2,hH⟩:=zB hH
 refine AW.r (AO.s rfl (mk0_ok T rfl rfl rfl rfl) ?_)
 refine AO.pu T ?_
 refine AO.s rfl (app_ws_map T rfl 1 rfl rfl rfl rfl rfl (by decide) (by decide) rfl rfl (fun _=>rfl) (needT (hx2)) rfl rfl) ?_
 refine AO.pu T ?_
 refine AO.n (AW.t ?_)
 have hR:=zS hH;subst hR
 exact retQ.i [1] rfl (.c (.c (.rowR rfl)))

def slices_Sort_int_p (x:List Int):Option (List Int):=(need (Nat.blt x.length 4611686018427387904)).bind fun _=>some (sortI x)
theorem slices_Sort_int_ok (x:List Int) (r:List Int) (hH:slices_Sort_int_p x=some r):SpecM Tryz.prog 65 [.w 1 (x.map ze0)] [.w 1 (r.map ze0)] (.t []):=by
  obtain ⟨u,hu,hr⟩:=zB hH
  cases zS hr
  exact spec_sortI ⟨_,Tryz.func65,rfl,by decide⟩ Tryz.slices_Sort_int Tryz.slices_Sort_int_none x (Nat.le_of_ble_eq_true (needT hu))

def impl_sortedInts_p (l:List Int):Option (List Int) :=
 (impl_copyInts_p l).bind fun x1 =>
 (slices_Sort_int_p x1).bind fun x3 =>
 some x3
theorem impl_sortedInts_ok (l:List Int) (r:(List Int)) (hH:impl_sortedInts_p l=some r):SpecR Tryz.prog 99 [.s (List.map ze0 l)] (.w 1 (r.map ze0)):=by
 refine zFn T Tryz.func99 rfl (by decide) rfl ?_
 refine AW.q (AW.r (AO.pu T ?_))
 refine AO.n (AW.q ?_)
 obtain ⟨x1,hx2,hH⟩:=zB hH
 refine AW.r (AO.pu T ?_)
 refine AO.s rfl (call_ok rfl 1 rfl rfl rfl (impl_copyInts_ok _ _ (hx2)) rfl rfl rfl) ?_
 refine AO.pu T ?_
 refine AO.n (AW.q ?_)
 obtain ⟨x3,hx4,hH⟩:=zB hH
 refine AW.r (AO.pu T ?_)
 refine AO.s rfl (zM rfl 2 rfl rfl (es:=[.w 1 (x1.map ze0)]) (outs:=[.w 1 (x3.map ze0)]) (ids:=[1]) (by exact zG (.c (.rowR rfl)) (zGn)) (by decide) (.inl (by rfl)) (by rfl) (slices_Sort_int_ok _ _ (hx4)) rfl (by rfl) rfl) ?_
 refine AO.n (AW.q (AW.r ?_))
 iterate 2 refine AO.pu T ?_
 refine AO.n (AW.t ?_)
 have hR:=zS hH;subst hR
 exact retQ.i [1] rfl (.c (.c (.rowR rfl)))

def slices_Equal_int_l1 (s2A:List Int):List Int→Nat→Option Bool
 | [],k1 =>
  some true
 | y2::ys3,k1 =>
  (getI s2A (k1:Int)).bind fun x12 =>
  cond (y2 != x12)
   (some false)
   (slices_Equal_int_l1 s2A ys3 (k1+1))
def slices_Equal_int_p (s1A:List Int) (s2A:List Int):Option Bool :=
 cond ((s1A.length:Int) != (s2A.length:Int))
  (some false)
  (slices_Equal_int_l1 s2A s1A 0)
theorem slices_Equal_int_ok (s1A:List Int) (s2A:List Int) (r:Bool) (hH:slices_Equal_int_p s1A s2A=some r):SpecR Tryz.prog 98 [.s (List.map ze0 s1A),.s (List.map ze0 s2A)] (.v (.bool r)):=by
 refine zFn T Tryz.func98 rfl (by decide) rfl ?_
 refine AW.q (AW.r (AO.pu T ?_))
 refine AO.n ?_
 iterate 2 refine AW.q ?_
 refine AW.r (AO.pu T ?_)
 refine AO.v rfl rfl (zL T rfl rfl rfl) ?_
 refine AO.pu T ?_
 refine AO.v rfl rfl (zL T rfl rfl rfl) ?_
 refine AO.pu T ?_
 refine AO.n (AW.c (b:=((s1A.length:Int) != (s2A.length:Int))) rfl (fun hc=>?_) (fun hc=>?_))
 replace hH:=condT hc hH
 refine AW.q (AW.r (AO.pu T ?_))
 refine AO.n (AW.t ?_)
 have hR:=zS hH;subst hR
 exact retQ.i [] rfl (.c (.c .v))
 replace hH:=condF hc hH
 refine AW.k ?_
 iterate 2 refine AW.q ?_
 refine AW.r (AO.pu T ?_)
 refine AO.v rfl rfl (zL T rfl rfl rfl) ?_
 refine AO.pu T ?_
 refine AO.n (AW.b ?_)
 refine AW.loopS (fun s:Nat=>(⟨[(0,.s (List.map ze0 s1A)),(1,.s (List.map ze0 s2A)),(12,(s1A.length:Int)),(13,(s:Int))],[],26,[]⟩:St)) (fun s=>s ≤ s1A.length∧slices_Equal_int_l1 s2A (s1A.drop s) s=some r) (fun s=>s1A.length - s) 0 ⟨Nat.zero_le _,hH⟩ ?_ ?_
 exact Le.ct 0 0
 rintro k1 ⟨hk,hH⟩
 replace hH:slices_Equal_int_l1 s2A (s1A.drop k1) k1=some r:=hH
 try dsimp only
 refine AW.boundM (t:=0) (l:=s1A) rfl (fun hb5=>?_)
 rcases hd4:s1A.drop k1 with _ | ⟨y2,ys3⟩
 rw [hd4,slices_Equal_int_l1] at hH
 have hlt6:=drop_ge hd4
 refine AW.q (AW.r (AO.pu T ?_))
 refine AO.n (AW.q (AW.condF' (b:=decide ((k1:Int) < (s1A.length:Int))) rfl (rngF hlt6) ?_))
 refine AW.exit (AW.q (AW.r ?_))
 refine AO.pu T ?_
 refine AO.n (AW.t ?_)
 have hR:=zS hH;subst hR
 exact retQ.i [] rfl (.c (.c .v))
 rw [hd4,slices_Equal_int_l1] at hH
 have hlt6:=drop_lt hd4
 refine AW.q (AW.r (AO.pu T ?_))
 refine AO.n (AW.q (AW.condT' (b:=decide ((k1:Int) < (s1A.length:Int))) rfl (rngT hlt6) ?_))
 refine AW.k (AW.q ?_)
 refine AW.b (AW.q (AW.r ?_))
 iterate 2 refine AO.pu T ?_
 refine AO.n (AW.q ?_)
 obtain ⟨x12,hx13,hH⟩:=zB hH
 refine AW.drawn 8 1 [] mix (by kernel_rfl) rfl ?_
 iterate 2 refine AD.p T rfl rfl rfl ?_
 refine AD.w rfl rfl (zX T rfl rfl rfl rfl rfl (zgD hd4) rfl) ?_
 iterate 3 refine AD.p T rfl rfl rfl ?_
 refine AD.w rfl rfl (zX T rfl rfl rfl rfl rfl (hx13) rfl) ?_
 refine AD.p T rfl rfl rfl ?_
 refine AD.nil (AO.pu T ?_)
 refine AO.n (AW.c (b:=(y2 != x12)) rfl (fun hc=>?_) (fun hc=>?_))
 replace hH:=condT hc hH
 refine AW.q (AW.r (AO.pu T ?_))
 refine AO.n (AW.t ?_)
 have hR:=zS hH;subst hR
 exact retQ.i [] rfl (.c (.c .v))
 replace hH:=condF hc hH
 refine AW.k (AW.r ?_)
 refine AO.v rfl rfl (zR rfl rfl rfl rfl (zK hlt6 hb5)) ?_
 refine AO.pu T ?_
 refine AO.n ?_
 refine ⟨k1+1,⟨Nat.succ_le_of_lt hlt6,(by rw [zds hd4];exact hH)⟩,(by have:=hlt6;dsimp only;omega),?_⟩
 exact Le.ct 0 0

def impl_isScored_p (e:Event) (skater:Int):Option Bool :=
 (impl_scoredIn_p e skater).bind fun x1 =>
 some (decide (x1 > e.segment))
theorem impl_isScored_ok (e:Event) (skater:Int) (r:Bool) (hH:impl_isScored_p e skater=some r):SpecR Tryz.prog 66 [.g (ze4 e),skater] (.v (.bool r)):=by
 refine zFn T Tryz.func66 rfl (by decide) rfl ?_
 refine AW.q (AW.r (AO.s rfl (zBx T rfl 1 rfl rfl rfl rfl) ?_))
 refine AO.pu T ?_
 refine AO.n (AW.q ?_)
 obtain ⟨x1,hx2,hH⟩:=zB hH
 refine AW.drawn 5 2 [] mix (by kernel_rfl) rfl ?_
 refine AD.p T (d:=.g [e.segments,e.size,e.key,.s (List.map ze1 e.entrants),.s (List.map ze0 e.gone),e.segment,.s (List.map ze0 e.order),.s (List.map ze2 e.results)]) rfl rfl rfl ?_
 refine AD.p T rfl rfl rfl ?_
 refine AD.w rfl rfl (zV rfl rfl rfl rfl (impl_scoredIn_ok _ _ _ (hx2)) rfl) ?_
 iterate 2 refine AD.p T rfl rfl rfl ?_
 refine AD.nil ?_
 iterate 2 refine AO.pu T ?_
 refine AO.n (AW.t ?_)
 have hR:=zS hH;subst hR
 exact retQ.i [] rfl (.c (.c .v))

def impl_isEventOrder_l2 (e:Event) (v34:Int):List Int→Nat→Option Bool
 | [],k42 =>
  some true
 | y43::ys44,k42 =>
  (impl_isScored_p e y43).bind fun x53 =>
  cond (!(x53 == decide ((k42:Int) < v34)))
   (some false)
   (impl_isEventOrder_l2 e v34 ys44 (k42+1))
def impl_isEventOrder_l1 (e:Event):List Entrant→Nat→List Int→Int→Option Bool
 | [],k1,v33,v34 =>
  cond ((e.order.length:Int) == 0)
   (some (v34 == 0))
   ((opt (!((e.segment == e.segments) || (v34 == (e.order.length:Int)))) default (impl_sortedInts_p e.order)).bind fun x36 =>
   (opt (!((e.segment == e.segments) || (v34 == (e.order.length:Int)))) default (impl_sortedInts_p v33)).bind fun x38 =>
   (opt (!((e.segment == e.segments) || (v34 == (e.order.length:Int)))) default (slices_Equal_int_p x36 x38)).bind fun x40 =>
   cond (((e.segment == e.segments) || (v34 == (e.order.length:Int))) || (!x40))
    (some false)
    (impl_isEventOrder_l2 e v34 e.order 0))
 | y2::ys3,k1,v33,v34 =>
  (impl_scoredIn_p e y2.skater).bind fun x55 =>
  (opt (!(decide (x55 > (w64 (e.segment+1))))) default (impl_isThere_p e y2.skater)).bind fun x57 =>
  cond (decide (x55 > (w64 (e.segment+1))) || (x57 && decide (x55 < e.segment)))
   (some false)
   (cond (decide (x55 > e.segment))
    ((opt (!(decide (x55 > e.segment))) default (impl_isThere_p e y2.skater)).bind fun x59 =>
    cond (decide (x55 > e.segment) || x59)
     ((need (fitsB 8 (v33.length+([y2.skater]).length))).bind fun u61 =>
     impl_isEventOrder_l1 e ys3 (k1+1) (v33++[y2.skater]) (w64 (v34+1)))
     (impl_isEventOrder_l1 e ys3 (k1+1) v33 (w64 (v34+1))))
    ((opt (!(decide (x55 > e.segment))) default (impl_isThere_p e y2.skater)).bind fun x63 =>
    cond (decide (x55 > e.segment) || x63)
     ((need (fitsB 8 (v33.length+([y2.skater]).length))).bind fun u65 =>
     impl_isEventOrder_l1 e ys3 (k1+1) (v33++[y2.skater]) v34)
     (impl_isEventOrder_l1 e ys3 (k1+1) v33 v34)))
def impl_isEventOrder_p (e:Event):Option Bool :=
 impl_isEventOrder_l1 e e.entrants 0 [] 0
theorem impl_isEventOrder_ok (e:Event) (r:Bool) (hH:impl_isEventOrder_p e=some r):SpecR Tryz.prog 57 [.g (ze4 e)] (.v (.bool r)):=by
 refine zFn T Tryz.func57 rfl (by decide) rfl ?_
 refine AW.q (AW.r (AO.s rfl (zBx T rfl 1 rfl rfl rfl rfl) ?_))
 refine AO.pu T ?_
 refine AO.n (AW.q (AW.r ?_))
 refine AO.s rfl (mk0_ok T rfl rfl rfl rfl) ?_
 iterate 2 refine AO.pu T ?_
 refine AO.n ?_
 iterate 2 refine AW.q ?_
 refine AW.r ?_
 iterate 2 refine AO.pu T ?_
 refine AO.v rfl rfl (zL T rfl rfl rfl) ?_
 refine AO.pu T ?_
 refine AO.n (AW.b ?_)
 refine AW.loopS (fun s:Nat × (List Int) × Int=>(⟨[(1,.p 1 0),(3,.R 9),(4,s.2.2),(12,.s (List.map ze1 e.entrants)),(13,(e.entrants.length:Int)),(14,(s.1:Int))],[(1,.box [e.segments,e.size,e.key,.s (List.map ze1 e.entrants),.s (List.map ze0 e.gone),e.segment,.s (List.map ze0 e.order),.s (List.map ze2 e.results)]),(9,.row 1 (List.map ze0 s.2.1))],104,[]⟩:St)) (fun s=>s.1 ≤ e.entrants.length∧impl_isEventOrder_l1 e (e.entrants.drop s.1) s.1 s.2.1 s.2.2=some r) (fun s=>e.entrants.length - s.1) (0,[],0) ⟨Nat.zero_le _,hH⟩ ?_ ?_
 refine Le.trans (Le.void 3 9 1 rfl rfl) ?_
 exact Le.ct 0 0
 rintro ⟨k1,v33,v34⟩ ⟨hk,hH⟩
 replace hH:impl_isEventOrder_l1 e (e.entrants.drop k1) k1 v33 v34=some r:=hH
 try dsimp only
 refine AW.boundM (t:=12) (l:=e.entrants) rfl (fun hb5=>?_)
 rcases hd4:e.entrants.drop k1 with _ | ⟨y2,ys3⟩
 rw [hd4,impl_isEventOrder_l1] at hH
 have hlt6:=drop_ge hd4
 refine AW.q (AW.r (AO.pu T ?_))
 refine AO.n (AW.q (AW.condF' (b:=decide ((k1:Int) < (e.entrants.length:Int))) rfl (rngF hlt6) ?_))
 refine AW.exit ?_
 iterate 2 refine AW.q ?_
 refine AW.r ?_
 iterate 2 refine AO.pu T ?_
 refine AO.v rfl rfl (zL T rfl rfl rfl) ?_
 refine AO.pu T ?_
 refine AO.n (AW.c (b:=((e.order.length:Int) == 0)) rfl (fun hc=>?_) (fun hc=>?_))
 replace hH:=condT hc hH
 refine AW.q (AW.r ?_)
 iterate 3 refine AO.pu T ?_
 refine AO.n (AW.t ?_)
 have hR:=zS hH;subst hR
 exact retQ.i [] rfl (.c (.c .v))
 replace hH:=condF hc hH
 refine AW.k ?_
 iterate 2 refine AW.q ?_
 obtain ⟨x36,hx37,hH⟩:=zB hH
 obtain ⟨x38,hx39,hH⟩:=zB hH
 obtain ⟨x40,hx41,hH⟩:=zB hH
 refine AW.r ?_
 iterate 6 refine AO.pu T ?_
 iterate 2 refine AO.g T [] rfl trivial rfl rfl ?_
 refine AO.g T [74] rfl ⟨fun h=>h,trivial⟩ rfl rfl ?_
 refine AO.d [75] rfl ⟨fun h=>h,trivial⟩ (fun hg=>zL T rfl rfl rfl) rfl ?_
 refine AO.g T [73,76] rfl ⟨fun h=>h,fun h=>h,trivial⟩ rfl rfl ?_
 refine AO.v rfl rfl (zO rfl rfl rfl rfl) ?_
 refine AO.pu T ?_
 refine AO.g T [] rfl trivial rfl rfl ?_
 refine AO.g T [80] rfl ⟨fun h=>h,trivial⟩ rfl rfl ?_
 refine AO.d [81] rfl ⟨fun h=>h,trivial⟩ (fun hg=>callF_ok rfl rfl rfl rfl (impl_sortedInts_ok _ _ (optT hx37 hg)) (.c (.c (.map fun y=>.vs rfl)))) rfl ?_
 refine AO.g T [] rfl trivial rfl rfl ?_
 refine AO.d [83] rfl ⟨fun h=>h,trivial⟩ (fun hg=>callLF_ok rfl rfl rfl (es:=[.s (List.map ze0 v33)]) ⟨(.rowR rfl (.map fun y=>.vs rfl)),trivial⟩ (impl_sortedInts_ok _ _ (optT hx39 hg)) (zfree_map (fun y=>(.cons (zfree_v _) .nil))) (.c (.c (.map fun y=>.vs rfl)))) rfl ?_
 refine AO.d [82,84] rfl ⟨fun h=>h,fun h=>h,trivial⟩ (fun hg=>zV rfl rfl rfl rfl (slices_Equal_int_ok _ _ _ (optT hx41 hg)) rfl) rfl ?_
 refine AO.g T [85] rfl ⟨fun h=>h,trivial⟩ rfl rfl ?_
 refine AO.v rfl rfl (zO rfl rfl rfl rfl) ?_
 refine AO.n (AW.le (Le.ct 0 0 (σ':=(⟨[(1,.p 1 0),(4,v34),(87,.v (.bool (((e.segment == e.segments) || (v34 == (e.order.length:Int))) || (!x40))))],[(1,.box [e.segments,e.size,e.key,.s (List.map ze1 e.entrants),.s (List.map ze0 e.gone),e.segment,.s (List.map ze0 e.order),.s (List.map ze2 e.results)])],104,[]⟩:St))) ?_)
 refine AW.c (b:=(((e.segment == e.segments) || (v34 == (e.order.length:Int))) || (!x40))) rfl (fun hc=>?_) (fun hc=>?_)
 replace hH:=condT hc hH
 refine AW.q (AW.r (AO.pu T ?_))
 refine AO.n (AW.t ?_)
 have hR:=zS hH;subst hR
 exact retQ.i [] rfl (.c (.c .v))
 replace hH:=condF hc hH
 refine AW.k ?_
 iterate 2 refine AW.q ?_
 refine AW.r ?_
 iterate 2 refine AO.pu T ?_
 refine AO.v rfl rfl (zL T rfl rfl rfl) ?_
 refine AO.pu T ?_
 refine AO.n (AW.b ?_)
 refine AW.loopS (fun s:Nat=>(⟨[(1,.p 1 0),(4,v34),(89,.s (List.map ze0 e.order)),(90,(e.order.length:Int)),(91,(s:Int))],[(1,.box [e.segments,e.size,e.key,.s (List.map ze1 e.entrants),.s (List.map ze0 e.gone),e.segment,.s (List.map ze0 e.order),.s (List.map ze2 e.results)])],104,[]⟩:St)) (fun s=>s ≤ e.order.length∧impl_isEventOrder_l2 e v34 (e.order.drop s) s=some r) (fun s=>e.order.length - s) 0 ⟨Nat.zero_le _,hH⟩ ?_ ?_
 exact Le.ct 0 0
 rintro k42 ⟨hk,hH⟩
 replace hH:impl_isEventOrder_l2 e v34 (e.order.drop k42) k42=some r:=hH
 try dsimp only
 refine AW.boundM (t:=89) (l:=e.order) rfl (fun hb46=>?_)
 rcases hd45:e.order.drop k42 with _ | ⟨y43,ys44⟩
 rw [hd45,impl_isEventOrder_l2] at hH
 have hlt47:=drop_ge hd45
 refine AW.q (AW.r (AO.pu T ?_))
 refine AO.n (AW.q (AW.condF' (b:=decide ((k42:Int) < (e.order.length:Int))) rfl (rngF hlt47) ?_))
 refine AW.exit (AW.q (AW.r ?_))
 refine AO.pu T ?_
 refine AO.n (AW.t ?_)
 have hR:=zS hH;subst hR
 exact retQ.i [] rfl (.c (.c .v))
 rw [hd45,impl_isEventOrder_l2] at hH
 have hlt47:=drop_lt hd45
 refine AW.q (AW.r (AO.pu T ?_))
 refine AO.n (AW.q (AW.condT' (b:=decide ((k42:Int) < (e.order.length:Int))) rfl (rngT hlt47) ?_))
 refine AW.k (AW.q ?_)
 refine AW.b (AW.q (AW.r ?_))
 refine AO.pu T ?_
 refine AO.v rfl rfl (zX T rfl rfl rfl rfl rfl (zgD hd45) rfl) ?_
 iterate 3 refine AO.pu T ?_
 refine AO.n (AW.q ?_)
 obtain ⟨x53,hx54,hH⟩:=zB hH
 refine AW.r (AO.pu T (d:=.g [e.segments,e.size,e.key,.s (List.map ze1 e.entrants),.s (List.map ze0 e.gone),e.segment,.s (List.map ze0 e.order),.s (List.map ze2 e.results)]) ?_)
 refine AO.pu T ?_
 refine AO.v rfl rfl (zV rfl rfl rfl rfl (impl_isScored_ok _ _ _ (hx54)) rfl) ?_
 iterate 4 refine AO.pu T ?_
 refine AO.n (AW.c (b:=(!(x53 == decide ((k42:Int) < v34)))) rfl (fun hc=>?_) (fun hc=>?_))
 replace hH:=condT hc hH
 refine AW.q (AW.r (AO.pu T ?_))
 refine AO.n (AW.t ?_)
 have hR:=zS hH;subst hR
 exact retQ.i [] rfl (.c (.c .v))
 replace hH:=condF hc hH
 refine AW.k (AW.r ?_)
 refine AO.v rfl rfl (zR rfl rfl rfl rfl (zK hlt47 hb46)) ?_
 refine AO.pu T ?_
 refine AO.n ?_
 refine ⟨k42+1,⟨Nat.succ_le_of_lt hlt47,(by rw [zds hd45];exact hH)⟩,(by have:=hlt47;dsimp only;omega),?_⟩
 exact Le.ct 0 0
 rw [hd4,impl_isEventOrder_l1] at hH
 have hlt6:=drop_lt hd4
 refine AW.q (AW.r (AO.pu T ?_))
 refine AO.n (AW.q (AW.condT' (b:=decide ((k1:Int) < (e.entrants.length:Int))) rfl (rngT hlt6) ?_))
 refine AW.k (AW.q ?_)
 refine AW.b (AW.q (AW.r ?_))
 refine AO.v rfl rfl (zX T rfl rfl rfl rfl rfl (zgD hd4) rfl) ?_
 refine AO.pu T (d:=.g [y2.skater,y2.rank]) ?_
 refine AO.s rfl (zA T rfl 12 rfl rfl rfl rfl rfl) ?_
 refine AO.se T [y2.skater,y2.rank] ?_
 refine AO.n (AW.q ?_)
 obtain ⟨x55,hx56,hH⟩:=zB hH
 refine AW.r (AO.pu T (d:=.g [e.segments,e.size,e.key,.s (List.map ze1 e.entrants),.s (List.map ze0 e.gone),e.segment,.s (List.map ze0 e.order),.s (List.map ze2 e.results)]) ?_)
 iterate 2 refine AO.pu T ?_
 refine AO.v rfl rfl (zV rfl rfl rfl rfl (impl_scoredIn_ok _ _ _ (hx56)) rfl) ?_
 refine AO.pu T ?_
 refine AO.n ?_
 iterate 2 refine AW.q ?_
 obtain ⟨x57,hx58,hH⟩:=zB hH
 refine AW.r ?_
 iterate 3 refine AO.pu T ?_
 refine AO.v rfl rfl (zW rfl rfl rfl rfl) ?_
 iterate 2 refine AO.pu T ?_
 refine AO.g T (d:=.g [e.segments,e.size,e.key,.s (List.map ze1 e.entrants),.s (List.map ze0 e.gone),e.segment,.s (List.map ze0 e.order),.s (List.map ze2 e.results)]) [] rfl trivial rfl rfl ?_
 refine AO.g T [] rfl trivial rfl rfl ?_
 refine AO.g T [29] rfl ⟨fun h=>h,trivial⟩ rfl rfl ?_
 refine AO.d [28,30] rfl ⟨fun h=>h,fun h=>h,trivial⟩ (fun hg=>zV rfl rfl rfl rfl (impl_isThere_ok _ _ _ (optT hx58 hg)) rfl) rfl ?_
 refine AO.g T [31] rfl ⟨fun h=>h,trivial⟩ rfl rfl ?_
 iterate 2 refine AO.g T [] rfl trivial rfl rfl ?_
 refine AO.g T [34] rfl ⟨fun h=>h,trivial⟩ rfl rfl ?_
 refine AO.g T [33,35] rfl ⟨fun h=>h,fun h=>h,trivial⟩ rfl rfl ?_
 refine AO.d [32] rfl ⟨fun h=>h,trivial⟩ (fun hg=>zN rfl rfl rfl (by rw [hg];exact Bool.true_and _)) rfl ?_
 refine AO.v rfl rfl (zO rfl rfl rfl rfl) ?_
 refine AO.n (AW.le (Le.ct 0 0 (σ':=(⟨[(1,.p 1 0),(3,.R 9),(4,v34),(6,.p 12 0),(7,x55),(12,.s (List.map ze1 e.entrants)),(13,(e.entrants.length:Int)),(14,(k1:Int)),(38,.v (.bool (decide (x55 > (w64 (e.segment+1))) || (x57 && decide (x55 < e.segment)))))],[(1,.box [e.segments,e.size,e.key,.s (List.map ze1 e.entrants),.s (List.map ze0 e.gone),e.segment,.s (List.map ze0 e.order),.s (List.map ze2 e.results)]),(9,.row 1 (List.map ze0 v33)),(12,.box [y2.skater,y2.rank])],104,[]⟩:St))) ?_)
 refine AW.c (b:=(decide (x55 > (w64 (e.segment+1))) || (x57 && decide (x55 < e.segment)))) rfl (fun hc=>?_) (fun hc=>?_)
 replace hH:=condT hc hH
 refine AW.q (AW.r (AO.pu T ?_))
 refine AO.n (AW.t ?_)
 have hR:=zS hH;subst hR
 exact retQ.i [] rfl (.c (.c .v))
 replace hH:=condF hc hH
 refine AW.k ?_
 iterate 2 refine AW.q ?_
 refine AW.r ?_
 iterate 4 refine AO.pu T ?_
 refine AO.n (AW.c (b:=decide (x55 > e.segment)) rfl (fun hc=>?_) (fun hc=>?_))
 replace hH:=condT hc hH
 refine AW.r (AO.pu T ?_)
 refine AO.v rfl rfl (zW rfl rfl rfl rfl) ?_
 refine AO.pu T ?_
 refine AO.n (AW.q ?_)
 obtain ⟨x59,hx60,hH⟩:=zB hH
 refine AW.r ?_
 iterate 5 refine AO.pu T ?_
 refine AO.g T (d:=.g [e.segments,e.size,e.key,.s (List.map ze1 e.entrants),.s (List.map ze0 e.gone),e.segment,.s (List.map ze0 e.order),.s (List.map ze2 e.results)]) [] rfl trivial rfl rfl ?_
 refine AO.g T [] rfl trivial rfl rfl ?_
 refine AO.g T [51] rfl ⟨fun h=>h,trivial⟩ rfl rfl ?_
 refine AO.d [50,52] rfl ⟨fun h=>h,fun h=>h,trivial⟩ (fun hg=>zV rfl rfl rfl rfl (impl_isThere_ok _ _ _ (optT hx60 hg)) rfl) rfl ?_
 refine AO.v rfl rfl (zO rfl rfl rfl rfl) ?_
 refine AO.n (AW.c (b:=(decide (x55 > e.segment) || x59)) rfl (fun hc=>?_) (fun hc=>?_))
 replace hH:=condT hc hH
 obtain ⟨u61,hx62,hH⟩:=zB hH
 refine AW.r ?_
 iterate 3 refine AO.pu T ?_
 refine AO.s rfl (mk_map_ok T rfl 13 rfl rfl rfl rfl rfl (f:=ze0) (l:=[y2.skater]) rfl rfl (fun _=>rfl) rfl rfl rfl rfl rfl) ?_
 refine AO.s rfl (zAr T rfl 14 rfl rfl rfl rfl rfl (by decide) rfl rfl rfl rfl (fun _=>rfl) (needT (hx62)) rfl rfl) ?_
 refine AO.pu T ?_
 refine AO.n (AW.r ?_)
 refine AO.v rfl rfl (zR rfl rfl rfl rfl (zK hlt6 hb5)) ?_
 refine AO.pu T ?_
 refine AO.n ?_
 refine ⟨(k1+1,(v33++[y2.skater]),w64 (v34+1)),⟨Nat.succ_le_of_lt hlt6,(by rw [zds hd4];exact hH)⟩,(by have:=hlt6;dsimp only;omega),?_⟩
 exact Le.ct 14 9
 replace hH:=condF hc hH
 refine AW.k (AW.r ?_)
 refine AO.v rfl rfl (zR rfl rfl rfl rfl (zK hlt6 hb5)) ?_
 refine AO.pu T ?_
 refine AO.n ?_
 refine ⟨(k1+1,v33,w64 (v34+1)),⟨Nat.succ_le_of_lt hlt6,(by rw [zds hd4];exact hH)⟩,(by have:=hlt6;dsimp only;omega),?_⟩
 exact Le.ct 0 0
 replace hH:=condF hc hH
 refine AW.k (AW.q ?_)
 obtain ⟨x63,hx64,hH⟩:=zB hH
 refine AW.r ?_
 iterate 5 refine AO.pu T ?_
 refine AO.g T (d:=.g [e.segments,e.size,e.key,.s (List.map ze1 e.entrants),.s (List.map ze0 e.gone),e.segment,.s (List.map ze0 e.order),.s (List.map ze2 e.results)]) [] rfl trivial rfl rfl ?_
 refine AO.g T [] rfl trivial rfl rfl ?_
 refine AO.g T [51] rfl ⟨fun h=>h,trivial⟩ rfl rfl ?_
 refine AO.d [50,52] rfl ⟨fun h=>h,fun h=>h,trivial⟩ (fun hg=>zV rfl rfl rfl rfl (impl_isThere_ok _ _ _ (optT hx64 hg)) rfl) rfl ?_
 refine AO.v rfl rfl (zO rfl rfl rfl rfl) ?_
 refine AO.n (AW.c (b:=(decide (x55 > e.segment) || x63)) rfl (fun hc=>?_) (fun hc=>?_))
 replace hH:=condT hc hH
 obtain ⟨u65,hx66,hH⟩:=zB hH
 refine AW.r ?_
 iterate 3 refine AO.pu T ?_
 refine AO.s rfl (mk_map_ok T rfl 15 rfl rfl rfl rfl rfl (f:=ze0) (l:=[y2.skater]) rfl rfl (fun _=>rfl) rfl rfl rfl rfl rfl) ?_
 refine AO.s rfl (zAr T rfl 16 rfl rfl rfl rfl rfl (by decide) rfl rfl rfl rfl (fun _=>rfl) (needT (hx66)) rfl rfl) ?_
 refine AO.pu T ?_
 refine AO.n (AW.r ?_)
 refine AO.v rfl rfl (zR rfl rfl rfl rfl (zK hlt6 hb5)) ?_
 refine AO.pu T ?_
 refine AO.n ?_
 refine ⟨(k1+1,(v33++[y2.skater]),v34),⟨Nat.succ_le_of_lt hlt6,(by rw [zds hd4];exact hH)⟩,(by have:=hlt6;dsimp only;omega),?_⟩
 exact Le.ct 16 9
 replace hH:=condF hc hH
 refine AW.k (AW.r ?_)
 refine AO.v rfl rfl (zR rfl rfl rfl rfl (zK hlt6 hb5)) ?_
 refine AO.pu T ?_
 refine AO.n ?_
 refine ⟨(k1+1,v33,v34),⟨Nat.succ_le_of_lt hlt6,(by rw [zds hd4];exact hH)⟩,(by have:=hlt6;dsimp only;omega),?_⟩
 exact Le.ct 0 0

def impl_IsEvent_p (e:Event):Option Bool :=
 (impl_within_p e.segments 1 3).bind fun x1 =>
 (opt x1 default (impl_isGroupSize_p e.size)).bind fun x3 =>
 (opt (x1 && x3) default (impl_isKey_p e.key)).bind fun x5 =>
 (opt ((x1 && x3) && x5) default (impl_within_p e.segment 0 e.segments)).bind fun x7 =>
 (opt (((x1 && x3) && x5) && x7) default (impl_isOrder_p e.order)).bind fun x9 =>
 (opt ((((x1 && x3) && x5) && x7) && x9) default (impl_hasEntrants_p e)).bind fun x11 =>
 (opt (((((x1 && x3) && x5) && x7) && x9) && x11) default (impl_isEventOrder_p e)).bind fun x13 =>
 some ((((((x1 && x3) && x5) && x7) && x9) && x11) && x13)
theorem impl_IsEvent_ok (e:Event) (r:Bool) (hH:impl_IsEvent_p e=some r):SpecR Tryz.prog 15 [.g (ze4 e)] (.v (.bool r)):=by
 refine zFn T Tryz.func15 rfl (by decide) rfl ?_
 refine AW.q (AW.r (AO.s rfl (zBx T rfl 1 rfl rfl rfl rfl) ?_))
 refine AO.pu T ?_
 refine AO.n (AW.q ?_)
 obtain ⟨x1,hx2,hH⟩:=zB hH
 obtain ⟨x3,hx4,hH⟩:=zB hH
 obtain ⟨x5,hx6,hH⟩:=zB hH
 obtain ⟨x7,hx8,hH⟩:=zB hH
 obtain ⟨x9,hx10,hH⟩:=zB hH
 obtain ⟨x11,hx12,hH⟩:=zB hH
 obtain ⟨x13,hx14,hH⟩:=zB hH
 refine AW.r ?_
 iterate 2 refine AO.pu T ?_
 refine AO.v rfl rfl (zV rfl rfl rfl rfl (impl_within_ok _ _ _ _ (hx2)) rfl) ?_
 refine AO.pu T ?_
 refine AO.g T [] rfl trivial rfl rfl ?_
 refine AO.g T [7] rfl ⟨fun h=>h,trivial⟩ rfl rfl ?_
 refine AO.d [8] rfl ⟨fun h=>h,trivial⟩ (fun hg=>zV rfl rfl rfl rfl (impl_isGroupSize_ok _ _ (optT hx4 hg)) rfl) rfl ?_
 refine AO.v rfl rfl (zN rfl rfl rfl rfl) ?_
 refine AO.pu T ?_
 refine AO.g T [] rfl trivial rfl rfl ?_
 refine AO.g T [12] rfl ⟨fun h=>h,trivial⟩ rfl rfl ?_
 refine AO.d [13] rfl ⟨fun h=>h,trivial⟩ (fun hg=>zV rfl rfl rfl rfl (impl_isKey_ok _ _ (optT hx6 hg)) rfl) rfl ?_
 refine AO.v rfl rfl (zN rfl rfl rfl rfl) ?_
 refine AO.pu T ?_
 refine AO.g T [] rfl trivial rfl rfl ?_
 refine AO.g T [17] rfl ⟨fun h=>h,trivial⟩ rfl rfl ?_
 refine AO.g T [] rfl trivial rfl rfl ?_
 refine AO.g T [19] rfl ⟨fun h=>h,trivial⟩ rfl rfl ?_
 refine AO.d [18,20] rfl ⟨fun h=>h,fun h=>h,trivial⟩ (fun hg=>zV rfl rfl rfl rfl (impl_within_ok _ _ _ _ (optT hx8 hg)) rfl) rfl ?_
 refine AO.v rfl rfl (zN rfl rfl rfl rfl) ?_
 refine AO.pu T ?_
 refine AO.g T [] rfl trivial rfl rfl ?_
 refine AO.g T [24] rfl ⟨fun h=>h,trivial⟩ rfl rfl ?_
 refine AO.d [25] rfl ⟨fun h=>h,trivial⟩ (fun hg=>zV rfl rfl rfl rfl (impl_isOrder_ok _ _ (optT hx10 hg)) rfl) rfl ?_
 refine AO.v rfl rfl (zN rfl rfl rfl rfl) ?_
 refine AO.pu T ?_
 refine AO.g T (d:=.g [e.segments,e.size,e.key,.s (List.map ze1 e.entrants),.s (List.map ze0 e.gone),e.segment,.s (List.map ze0 e.order),.s (List.map ze2 e.results)]) [] rfl trivial rfl rfl ?_
 refine AO.d [29] rfl ⟨fun h=>h,trivial⟩ (fun hg=>zV rfl rfl rfl rfl (impl_hasEntrants_ok _ _ (optT hx12 hg)) rfl) rfl ?_
 refine AO.v rfl rfl (zN rfl rfl rfl rfl) ?_
 refine AO.pu T ?_
 refine AO.g T (d:=.g [e.segments,e.size,e.key,.s (List.map ze1 e.entrants),.s (List.map ze0 e.gone),e.segment,.s (List.map ze0 e.order),.s (List.map ze2 e.results)]) [] rfl trivial rfl rfl ?_
 refine AO.d [33] rfl ⟨fun h=>h,trivial⟩ (fun hg=>zV rfl rfl rfl rfl (impl_isEventOrder_ok _ _ (optT hx14 hg)) rfl) rfl ?_
 refine AO.v rfl rfl (zN rfl rfl rfl rfl) ?_
 refine AO.pu T ?_
 refine AO.n (AW.le (Le.ct 0 0 (σ':=(⟨[(2,.v (.bool ((((((x1 && x3) && x5) && x7) && x9) && x11) && x13)))],[],36,[]⟩:St))) ?_)
 refine AW.t ?_
 have hR:=zS hH;subst hR
 exact retQ.i [] rfl (.c (.c .v))

def impl_copyEvent_l1 (e:Event):List Result→Nat→List Result→Option Event
 | [],k1,v16 =>
  (need (fitsB 16 e.entrants.length)).bind fun u18 =>
  (impl_copyInts_p e.gone).bind fun x20 =>
  (impl_copyInts_p e.order).bind fun x22 =>
  some (Event.mk e.segments e.size e.key e.entrants x20 e.segment x22 v16)
 | y2::ys3,k1,v16 =>
  (impl_copyInts_p y2.scores).bind fun x24 =>
  (need (fitsB 32 (v16.length+([(Result.mk y2.skater x24)]).length))).bind fun u26 =>
  impl_copyEvent_l1 e ys3 (k1+1) (v16++[(Result.mk y2.skater x24)])
def impl_copyEvent_p (e:Event):Option Event :=
 impl_copyEvent_l1 e e.results 0 []
theorem impl_copyEvent_ok (e:Event) (r:Event) (hH:impl_copyEvent_p e=some r):SpecR Tryz.prog 48 [.g (ze4 e)] (.g (ze10 r)):=by
 refine zFn T Tryz.func48 rfl (by decide) rfl ?_
 refine AW.q (AW.r (AO.s rfl (zBx T rfl 1 rfl rfl rfl rfl) ?_))
 refine AO.s rfl (zA T rfl 2 rfl rfl rfl rfl rfl) ?_
 refine AO.n (AW.q (AW.r ?_))
 refine AO.s rfl (mk0_ok T rfl rfl rfl rfl) ?_
 refine AO.pu T ?_
 refine AO.n ?_
 iterate 2 refine AW.q ?_
 refine AW.r ?_
 iterate 2 refine AO.pu T ?_
 refine AO.v rfl rfl (zL T rfl rfl rfl) ?_
 refine AO.pu T ?_
 refine AO.n (AW.b ?_)
 refine AW.loopS (fun s:Nat × (List Result)=>(⟨[(1,.p 1 0),(2,.p 2 0),(3,.R 10),(8,.s (List.map ze2 e.results)),(9,(e.results.length:Int)),(10,(s.1:Int))],[(1,.box [e.segments,e.size,e.key,.s (List.map ze1 e.entrants),.s (List.map ze0 e.gone),e.segment,.s (List.map ze0 e.order),.s (List.map ze2 e.results)]),(2,.box [(0:Int),(0:Int),(0:Int),.w 0 [],.w 0 [],(0:Int),.w 0 [],.w 0 []]),(10,.row 2 (List.map ze6 s.2))],40,[]⟩:St)) (fun s=>s.1 ≤ e.results.length∧impl_copyEvent_l1 e (e.results.drop s.1) s.1 s.2=some r) (fun s=>e.results.length - s.1) (0,[]) ⟨Nat.zero_le _,hH⟩ ?_ ?_
 refine Le.trans (Le.void 3 10 2 rfl rfl) ?_
 exact Le.ct 0 0
 rintro ⟨k1,v16⟩ ⟨hk,hH⟩
 replace hH:impl_copyEvent_l1 e (e.results.drop k1) k1 v16=some r:=hH
 try dsimp only
 refine AW.boundM (t:=8) (l:=e.results) rfl (fun hb5=>?_)
 rcases hd4:e.results.drop k1 with _ | ⟨y2,ys3⟩
 rw [hd4,impl_copyEvent_l1] at hH
 have hlt6:=drop_ge hd4
 refine AW.q (AW.r (AO.pu T ?_))
 refine AO.n (AW.q (AW.condF' (b:=decide ((k1:Int) < (e.results.length:Int))) rfl (rngF hlt6) ?_))
 refine AW.exit (AW.q ?_)
 obtain ⟨u18,hx19,hH⟩:=zB hH
 refine AW.r (AO.s rfl (mk0_ok T rfl rfl rfl rfl) ?_)
 iterate 2 refine AO.pu T ?_
 refine AO.s rfl (app_ws_map T rfl 11 rfl rfl rfl rfl rfl (by decide) (by decide) rfl rfl (fun _=>rfl) (needT (hx19)) rfl rfl) ?_
 iterate 2 refine AO.pu T ?_
 refine AO.se T [e.segments,e.size,e.key,.R 11,.s (List.map ze0 e.gone),e.segment,.s (List.map ze0 e.order),.s (List.map ze2 e.results)] ?_
 refine AO.pu T ?_
 refine AO.se T [e.segments,e.size,e.key,.R 11,.s (List.map ze0 e.gone),e.segment,.s (List.map ze0 e.order),.R 10] ?_
 refine AO.n (AW.q ?_)
 obtain ⟨x20,hx21,hH⟩:=zB hH
 obtain ⟨x22,hx23,hH⟩:=zB hH
 refine AW.drawn 7 12 [] mix (by kernel_rfl) rfl ?_
 iterate 2 refine AD.p T rfl rfl rfl ?_
 refine AD.q (FStep.call rfl rfl rfl rfl rfl (impl_copyInts_ok _ _ (hx21)) rfl rfl) (impT_names _ _) (impT_le _ _) rfl ?_
 iterate 2 refine AD.p T rfl rfl rfl ?_
 refine AD.q (FStep.call rfl rfl rfl rfl rfl (impl_copyInts_ok _ _ (hx23)) rfl rfl) (impT_names _ _) (impT_le _ _) rfl ?_
 refine AD.p T rfl rfl rfl ?_
 refine AD.nil (AO.se T [e.segments,e.size,e.key,.R 11,.R 12,e.segment,.s (List.map ze0 e.order),.R 10] ?_)
 refine AO.pu T ?_
 refine AO.se T [e.segments,e.size,e.key,.R 11,.R 12,e.segment,.R 13,.R 10] ?_
 refine AO.n (AW.q (AW.r ?_))
 refine AO.pu T (d:=.g [e.segments,e.size,e.key,.R 11,.R 12,e.segment,.R 13,.R 10]) ?_
 refine AO.se T [e.segments,e.size,e.key,.R 11,.R 12,e.segment,.R 13,.R 10] ?_
 refine AO.n (AW.t ?_)
 have hR:=zS hH;subst hR
 exact retQ.i [11,12,13,10] rfl (.c (.g (zC .v (zC .v (zC .v (zC (.rowR rfl) (zC (.rowR rfl) (zC .v (zC (.rowR rfl) (zC (.rowR rfl) (zCn)))))))))))
 rw [hd4,impl_copyEvent_l1] at hH
 have hlt6:=drop_lt hd4
 refine AW.q (AW.r (AO.pu T ?_))
 refine AO.n (AW.q (AW.condT' (b:=decide ((k1:Int) < (e.results.length:Int))) rfl (rngT hlt6) ?_))
 refine AW.k (AW.q ?_)
 refine AW.b (AW.q (AW.r ?_))
 refine AO.v rfl rfl (zX T rfl rfl rfl rfl rfl (zgD hd4) rfl) ?_
 refine AO.pu T (d:=.g [y2.skater,.s (List.map ze0 y2.scores)]) ?_
 refine AO.s rfl (zA T rfl 14 rfl rfl rfl rfl rfl) ?_
 refine AO.se T [y2.skater,.s (List.map ze0 y2.scores)] ?_
 refine AO.n ?_
 obtain ⟨x24,hx25,hH⟩:=zB hH
 obtain ⟨u26,hx27,hH⟩:=zB hH
 refine AW.drawn 8 15 [] mix (by kernel_rfl) rfl ?_
 iterate 5 refine AD.p T rfl rfl rfl ?_
 refine AD.q (FStep.call rfl rfl rfl rfl rfl (impl_copyInts_ok _ _ (hx25)) rfl rfl) (impT_names _ _) (impT_le _ _) rfl ?_
 refine AD.pured T (d:=.g [y2.skater,.R 15]) rfl rfl rfl rfl ?_
 refine AD.k rfl rfl (FStep.mk_o T rfl rfl rfl rfl rfl rfl rfl rfl (f:=ze6) (l:=[(Result.mk y2.skater x24)]) (ids:=[15]) rfl rfl (fun _=>rfl) (by exact zC .v (zC (.rowR rfl) (zCn))) (by decide) rfl rfl rfl rfl) rfl rfl rfl ?_
 refine AD.nil (AO.s rfl (app_rr_map T rfl 17 rfl rfl rfl rfl rfl (by decide) rfl rfl rfl rfl rfl (needT (hx27)) rfl rfl) ?_)
 refine AO.pu T ?_
 refine AO.n (AW.r ?_)
 refine AO.v rfl rfl (zR rfl rfl rfl rfl (zK hlt6 hb5)) ?_
 refine AO.pu T ?_
 refine AO.n ?_
 refine ⟨(k1+1,(v16++[(Result.mk y2.skater x24)])),⟨Nat.succ_le_of_lt hlt6,(by rw [zds hd4];exact hH)⟩,(by have:=hlt6;dsimp only;omega),?_⟩
 exact Le.ct 17 10

def impl_isRunning_p (e:Event):Option Bool :=
 (impl_IsEvent_p e).bind fun x1 =>
 some (x1 && decide (e.segment < e.segments))
theorem impl_isRunning_ok (e:Event) (r:Bool) (hH:impl_isRunning_p e=some r):SpecR Tryz.prog 38 [.g (ze4 e)] (.v (.bool r)):=by
 refine zFn T Tryz.func38 rfl (by decide) rfl ?_
 refine AW.q (AW.r (AO.s rfl (zBx T rfl 1 rfl rfl rfl rfl) ?_))
 refine AO.pu T ?_
 refine AO.n (AW.q ?_)
 obtain ⟨x1,hx2,hH⟩:=zB hH
 refine AW.r (AO.pu T (d:=.g [e.segments,e.size,e.key,.s (List.map ze1 e.entrants),.s (List.map ze0 e.gone),e.segment,.s (List.map ze0 e.order),.s (List.map ze2 e.results)]) ?_)
 refine AO.v rfl rfl (zV rfl rfl rfl rfl (impl_IsEvent_ok _ _ (hx2)) rfl) ?_
 refine AO.pu T ?_
 refine AO.g T [] rfl trivial rfl rfl ?_
 refine AO.g T [6] rfl ⟨fun h=>h,trivial⟩ rfl rfl ?_
 refine AO.g T [] rfl trivial rfl rfl ?_
 refine AO.g T [8] rfl ⟨fun h=>h,trivial⟩ rfl rfl ?_
 refine AO.g T [7,9] rfl ⟨fun h=>h,fun h=>h,trivial⟩ rfl rfl ?_
 refine AO.v rfl rfl (zN rfl rfl rfl rfl) ?_
 refine AO.pu T ?_
 refine AO.n (AW.t ?_)
 have hR:=zS hH;subst hR
 exact retQ.i [] rfl (.c (.c .v))

def impl_EnterSkater_l1 (e:Event) (x:Entrant) (x3:Event):Nat→List Int→Int→Option ((Event × Bool))
 | 0,_,_=>none
 | k9+1,v16,v17 =>
  cond (decide (v17 < e.segments))
   ((need (fitsB 8 (v16.length+(([(-1)]:List Int)).length))).bind fun u19 =>
   impl_EnterSkater_l1 e x x3 k9 (v16++([(-1)]:List Int)) (w64 (v17+1)))
   ((need (fitsB 32 (x3.results.length+([(Result.mk x.skater v16)]).length))).bind fun u21 =>
   some ((Event.mk x3.segments x3.size x3.key (x3.entrants++[x]) x3.gone x3.segment x3.order (x3.results++[(Result.mk x.skater v16)])),true))
def impl_EnterSkater_p (fuel:Nat) (e:Event) (x:Entrant):Option (Event × Bool) :=
 (impl_isRunning_p e).bind fun x1 =>
 cond (((!x1) || decide (e.segment > 0)) || decide ((e.order.length:Int) > 0))
  (some ((Event.mk 0 0 0 [] [] 0 [] []),false))
  ((impl_copyEvent_p e).bind fun x3 =>
  (need (fitsB 16 (x3.entrants.length+([x]).length))).bind fun u5 =>
  (impl_AreEntrants_p (x3.entrants++[x])).bind fun x7 =>
  cond (!x7)
   (some ((Event.mk 0 0 0 [] [] 0 [] []),false))
   (impl_EnterSkater_l1 e x x3 fuel [] 0))
theorem impl_EnterSkater_ok (fuel:Nat) (e:Event) (x:Entrant) (r:(Event × Bool)) (hH:impl_EnterSkater_p fuel e x=some r):SpecR Tryz.prog 21 [.g (ze4 e),.g (ze1 x)] (.t [.g (ze10 r.1),.v (.bool r.2)]):=by
 refine zFn T Tryz.func21 rfl (by decide) rfl ?_
 refine AW.q (AW.r (AO.s rfl (zBx T rfl 1 rfl rfl rfl rfl) ?_))
 refine AO.s rfl (zBx T rfl 2 rfl rfl rfl rfl) ?_
 refine AO.s rfl (zA T rfl 3 rfl rfl rfl rfl rfl) ?_
 refine AO.pu T ?_
 refine AO.n ?_
 iterate 2 refine AW.q ?_
 obtain ⟨x1,hx2,hH⟩:=zB hH
 refine AW.r (AO.pu T (d:=.g [e.segments,e.size,e.key,.s (List.map ze1 e.entrants),.s (List.map ze0 e.gone),e.segment,.s (List.map ze0 e.order),.s (List.map ze2 e.results)]) ?_)
 refine AO.v rfl rfl (zV rfl rfl rfl rfl (impl_isRunning_ok _ _ (hx2)) rfl) ?_
 iterate 2 refine AO.pu T ?_
 refine AO.g T [] rfl trivial rfl rfl ?_
 refine AO.g T [12] rfl ⟨fun h=>h,trivial⟩ rfl rfl ?_
 refine AO.g T [13] rfl ⟨fun h=>h,trivial⟩ rfl rfl ?_
 refine AO.v rfl rfl (zO rfl rfl rfl rfl) ?_
 refine AO.pu T ?_
 refine AO.g T [] rfl trivial rfl rfl ?_
 refine AO.g T [17] rfl ⟨fun h=>h,trivial⟩ rfl rfl ?_
 refine AO.d [18] rfl ⟨fun h=>h,trivial⟩ (fun hg=>zL T rfl rfl rfl) rfl ?_
 refine AO.g T [19] rfl ⟨fun h=>h,trivial⟩ rfl rfl ?_
 refine AO.v rfl rfl (zO rfl rfl rfl rfl) ?_
 refine AO.n (AW.c (b:=(((!x1) || decide (e.segment > 0)) || decide ((e.order.length:Int) > 0))) rfl (fun hc=>?_) (fun hc=>?_))
 replace hH:=condT hc hH
 refine AW.q (AW.r (AO.pu T (d:=.g [(0:Int),(0:Int),(0:Int),.w 0 [],.w 0 [],(0:Int),.w 0 [],.w 0 []]) ?_))
 refine AO.se T [(0:Int),(0:Int),(0:Int),.w 0 [],.w 0 [],(0:Int),.w 0 [],.w 0 []] ?_
 refine AO.pu T ?_
 refine AO.n (AW.t ?_)
 have hR:=zS hH;subst hR
 exact retQ.i [] rfl (.t (zG (.g (zC .v (zC .v (zC .v (zC .nil (zC .nil (zC .v (zC .nil (zC .nil (zCn)))))))))) (zG (.c .v) (zGn))))
 replace hH:=condF hc hH
 refine AW.k (AW.q ?_)
 obtain ⟨x3,hx4,hH⟩:=zB hH
 refine AW.r (AO.pu T (d:=.g [e.segments,e.size,e.key,.s (List.map ze1 e.entrants),.s (List.map ze0 e.gone),e.segment,.s (List.map ze0 e.order),.s (List.map ze2 e.results)]) ?_)
 refine AO.s rfl (call_ok rfl 4 rfl rfl rfl (impl_copyEvent_ok _ _ (hx4)) rfl rfl rfl) ?_
 refine AO.s rfl (zA T rfl 8 rfl rfl rfl rfl rfl) ?_
 refine AO.se T [x3.segments,x3.size,x3.key,.R 4,.R 5,x3.segment,.R 6,.R 7] ?_
 refine AO.n (AW.q ?_)
 obtain ⟨u5,hx6,hH⟩:=zB hH
 refine AW.r ?_
 iterate 2 refine AO.pu T ?_
 refine AO.pu T (d:=.g [x.skater,x.rank]) ?_
 refine AO.s rfl (mk_map_ok T rfl 9 rfl rfl rfl rfl rfl (f:=ze1) (l:=[x]) rfl rfl (fun _=>rfl) rfl rfl rfl rfl rfl) ?_
 refine AO.s rfl (zAr T rfl 10 rfl rfl rfl rfl rfl (by decide) rfl rfl rfl rfl (fun _=>rfl) (needT (hx6)) rfl rfl) ?_
 refine AO.pu T ?_
 refine AO.se T [x3.segments,x3.size,x3.key,.R 10,.R 5,x3.segment,.R 6,.R 7] ?_
 refine AO.n (AW.le (Le.ct 0 0 (σ':=(⟨[(2,.p 1 0),(3,.p 2 0),(4,.p 3 0),(6,.p 8 0)],[(1,.box [e.segments,e.size,e.key,.s (List.map ze1 e.entrants),.s (List.map ze0 e.gone),e.segment,.s (List.map ze0 e.order),.s (List.map ze2 e.results)]),(2,.box [x.skater,x.rank]),(3,.box [(0:Int),(0:Int),(0:Int),.w 0 [],.w 0 [],(0:Int),.w 0 [],.w 0 []]),(5,.row 1 (List.map ze0 x3.gone)),(6,.row 1 (List.map ze0 x3.order)),(7,.row 2 (List.map ze6 x3.results)),(8,.box [x3.segments,x3.size,x3.key,.R 10,.R 5,x3.segment,.R 6,.R 7]),(10,.row 2 (List.map ze1 (x3.entrants++[x])))],55,[]⟩:St))) ?_)
 iterate 2 refine AW.q ?_
 obtain ⟨x7,hx8,hH⟩:=zB hH
 refine AW.r ?_
 iterate 2 refine AO.pu T ?_
 refine AO.v rfl rfl (zLV rfl rfl rfl (es:=[.s (List.map ze1 (x3.entrants++[x]))]) ⟨(.rowR rfl (.map fun y=>.vs rfl)),trivial⟩ (impl_AreEntrants_ok _ _ (hx8)) (zfree_v _) rfl) ?_
 refine AO.pu T ?_
 refine AO.n (AW.c (b:=(!x7)) rfl (fun hc=>?_) (fun hc=>?_))
 replace hH:=condT hc hH
 refine AW.q (AW.r (AO.pu T (d:=.g [(0:Int),(0:Int),(0:Int),.w 0 [],.w 0 [],(0:Int),.w 0 [],.w 0 []]) ?_))
 refine AO.se T [(0:Int),(0:Int),(0:Int),.w 0 [],.w 0 [],(0:Int),.w 0 [],.w 0 []] ?_
 refine AO.pu T ?_
 refine AO.n (AW.t ?_)
 have hR:=zS hH;subst hR
 exact retQ.i [] rfl (.t (zG (.g (zC .v (zC .v (zC .v (zC .nil (zC .nil (zC .v (zC .nil (zC .nil (zCn)))))))))) (zG (.c .v) (zGn))))
 replace hH:=condF hc hH
 refine AW.k (AW.q (AW.r ?_))
 refine AO.s rfl (mk0_ok T rfl rfl rfl rfl) ?_
 refine AO.pu T ?_
 refine AO.n ?_
 iterate 2 refine AW.q ?_
 refine AW.r ?_
 iterate 3 refine AO.pu T ?_
 refine AO.n (AW.b ?_)
 refine AW.loopS (fun s:Nat × (List Int) × Int=>(⟨[(3,.p 2 0),(4,.p 3 0),(6,.p 8 0),(7,.R 14),(38,e.segments),(39,s.2.2)],[(2,.box [x.skater,x.rank]),(3,.box [(0:Int),(0:Int),(0:Int),.w 0 [],.w 0 [],(0:Int),.w 0 [],.w 0 []]),(5,.row 1 (List.map ze0 x3.gone)),(6,.row 1 (List.map ze0 x3.order)),(7,.row 2 (List.map ze6 x3.results)),(8,.box [x3.segments,x3.size,x3.key,.R 10,.R 5,x3.segment,.R 6,.R 7]),(10,.row 2 (List.map ze1 (x3.entrants++[x]))),(14,.row 1 (List.map ze0 s.2.1))],55,[]⟩:St)) (fun s=>impl_EnterSkater_l1 e x x3 s.1 s.2.1 s.2.2=some r) (fun s=>s.1) (fuel,[],0) hH ?_ ?_
 refine Le.trans (Le.void 7 14 1 rfl rfl) ?_
 exact Le.ct 0 0
 rintro ⟨k9,v16,v17⟩ hH
 replace hH:impl_EnterSkater_l1 e x x3 k9 v16 v17=some r:=hH
 try dsimp only
 rcases k9 with _ | k9
 cases (show none=some _ from hH)
 rw [impl_EnterSkater_l1] at hH
 refine AW.q (AW.r (AO.pu T ?_))
 refine AO.n (AW.q (AW.c (b:=decide (v17 < e.segments)) rfl (fun hc=>?_) (fun hc=>?_)))
 replace hH:=condT hc hH
 refine AW.k (AW.q ?_)
 refine AW.b ?_
 obtain ⟨u19,hx20,hH⟩:=zB hH
 refine AW.r (AO.pu T ?_)
 refine AO.s rfl (mk_map_ok T rfl 15 rfl rfl rfl rfl rfl (f:=ze0) (l:=([(-1)]:List Int)) rfl rfl (fun _=>rfl) rfl rfl rfl rfl rfl) ?_
 refine AO.s rfl (zAr T rfl 16 rfl rfl rfl rfl rfl (by decide) rfl rfl rfl rfl (fun _=>rfl) (needT (hx20)) rfl rfl) ?_
 refine AO.pu T ?_
 refine AO.n (AW.r ?_)
 refine AO.v rfl rfl (zW rfl rfl rfl rfl) ?_
 refine AO.pu T ?_
 refine AO.n ?_
 refine ⟨(k9,(v16++([(-1)]:List Int)),w64 (v17+1)),hH,Nat.lt_succ_self _,?_⟩
 exact Le.ct 16 14
 replace hH:=condF hc hH
 refine AW.exit (AW.q ?_)
 obtain ⟨u21,hx22,hH⟩:=zB hH
 refine AW.r ?_
 iterate 5 refine AO.pu T ?_
 refine AO.pu T (d:=.g [x.skater,.R 14]) ?_
 refine AO.s rfl (mk_o_ok T rfl 17 rfl rfl rfl rfl rfl rfl (f:=ze6) (l:=[(Result.mk x.skater v16)]) (ids:=[14]) rfl rfl (fun _=>rfl) (by exact zC .v (zC (.rowR rfl) (zCn))) (by decide) rfl rfl rfl rfl rfl) ?_
 refine AO.s rfl (app_rr_map T rfl 18 rfl rfl rfl rfl rfl (by decide) rfl rfl rfl rfl rfl (needT (hx22)) rfl rfl) ?_
 refine AO.pu T ?_
 refine AO.se T [x3.segments,x3.size,x3.key,.R 10,.R 5,x3.segment,.R 6,.R 18] ?_
 refine AO.n (AW.q (AW.r ?_))
 refine AO.pu T (d:=.g [x3.segments,x3.size,x3.key,.R 10,.R 5,x3.segment,.R 6,.R 18]) ?_
 refine AO.se T [x3.segments,x3.size,x3.key,.R 10,.R 5,x3.segment,.R 6,.R 18] ?_
 refine AO.pu T ?_
 refine AO.n (AW.t ?_)
 have hR:=zS hH;subst hR
 exact retQ.i [10,5,6,18] rfl (.t (zG (.g (zC .v (zC .v (zC .v (zC (.rowR rfl) (zC (.rowR rfl) (zC .v (zC (.rowR rfl) (zC (.rowR rfl) (zCn)))))))))) (zG (.c .v) (zGn))))

def slices_IndexFunc_int_l1 (f:Int→Option Bool):List Int→Nat→Option Int
 | [],k1 =>
  some (-1)
 | y2::ys3,k1 =>
  (f y2).bind fun x12 =>
  cond x12
   (some (k1:Int))
   (slices_IndexFunc_int_l1 f ys3 (k1+1))
def slices_IndexFunc_int_p (sA:List Int) (f:Int→Option Bool):Option Int :=
 slices_IndexFunc_int_l1 f sA 0
theorem slices_IndexFunc_int_ok (sA:List Int) (f_f:Nat) (f_c:List D) (f_k:f_c.all D.capOk=true) (f:Int→Option Bool) (f_h:∀ (a0:Int) (q:Bool),f a0=some q→SpecR Tryz.prog f_f ([.v (.int .i64 a0)]++f_c) (.v (.bool q))) (r:Int) (hH:slices_IndexFunc_int_p sA f=some r):SpecR Tryz.prog 135 [.s (List.map ze0 sA),.f f_f f_c] (.v (.int .i64 r)):=by
 have f_r:=cap_cfree f_k
 refine zFn T Tryz.func135 rfl (by decide) rfl ?_
 refine AW.q (AW.r (AO.pu T ?_))
 refine AO.n ?_
 iterate 2 refine AW.q ?_
 refine AW.r (AO.pu T ?_)
 refine AO.v rfl rfl (zL T rfl rfl rfl) ?_
 refine AO.pu T ?_
 refine AO.n (AW.b ?_)
 refine AW.loopS (fun s:Nat=>(⟨[(0,.s (List.map ze0 sA)),(1,.f f_f f_c),(7,(sA.length:Int)),(8,(s:Int))],[],19,[]⟩:St)) (fun s=>s ≤ sA.length∧slices_IndexFunc_int_l1 f (sA.drop s) s=some r) (fun s=>sA.length - s) 0 ⟨Nat.zero_le _,hH⟩ ?_ ?_
 exact Le.cut 0 0 rfl ⟨⟨_,rfl,rfl⟩,⟨_,rfl,ren_fF f_r⟩,⟨_,rfl,rfl⟩,⟨_,rfl,rfl⟩,trivial⟩ (by repeat' (first | exact trivial | refine ⟨⟨_,rfl,rfl⟩,?_⟩)) (andT (allC rfl (allC (known_fF f_r) (allC rfl (allC rfl allN)))) rfl)
 rintro k1 ⟨hk,hH⟩
 replace hH:slices_IndexFunc_int_l1 f (sA.drop k1) k1=some r:=hH
 try dsimp only
 refine AW.boundM (t:=0) (l:=sA) rfl (fun hb5=>?_)
 rcases hd4:sA.drop k1 with _ | ⟨y2,ys3⟩
 rw [hd4,slices_IndexFunc_int_l1] at hH
 have hlt6:=drop_ge hd4
 refine AW.q (AW.r (AO.pu T ?_))
 refine AO.n (AW.q (AW.condF' (b:=decide ((k1:Int) < (sA.length:Int))) rfl (rngF hlt6) ?_))
 refine AW.exit (AW.q (AW.r ?_))
 refine AO.pu T ?_
 refine AO.n (AW.t ?_)
 have hR:=zS hH;subst hR
 exact retQ.i [] rfl (.c (.c .v))
 rw [hd4,slices_IndexFunc_int_l1] at hH
 have hlt6:=drop_lt hd4
 refine AW.q (AW.r (AO.pu T ?_))
 refine AO.n (AW.q (AW.condT' (b:=decide ((k1:Int) < (sA.length:Int))) rfl (rngT hlt6) ?_))
 refine AW.k (AW.q ?_)
 refine AW.b (AW.q (AW.r ?_))
 iterate 2 refine AO.pu T ?_
 refine AO.n (AW.q ?_)
 obtain ⟨x12,hx13,hH⟩:=zB hH
 refine AW.r ?_
 iterate 3 refine AO.pu T ?_
 refine AO.v rfl rfl (zX T rfl rfl rfl rfl rfl (zgD hd4) rfl) ?_
 refine AO.pu T ?_
 refine AO.v rfl rfl (zV rfl rfl rfl (andT rfl (free_cfree f_r)) (f_h _ _ (hx13)) rfl) ?_
 refine AO.n (AW.c (b:=x12) rfl (fun hc=>?_) (fun hc=>?_))
 replace hH:=condT hc hH
 refine AW.q (AW.r ?_)
 iterate 2 refine AO.pu T ?_
 refine AO.n (AW.t ?_)
 have hR:=zS hH;subst hR
 exact retQ.i [] rfl (.c (.c .v))
 replace hH:=condF hc hH
 refine AW.k (AW.r ?_)
 refine AO.v rfl rfl (zR rfl rfl rfl rfl (zK hlt6 hb5)) ?_
 refine AO.pu T ?_
 refine AO.n ?_
 refine ⟨k1+1,⟨Nat.succ_le_of_lt hlt6,(by rw [zds hd4];exact hH)⟩,(by have:=hlt6;dsimp only;omega),?_⟩
 exact Le.cut 0 0 rfl ⟨⟨_,rfl,rfl⟩,⟨_,rfl,ren_fF f_r⟩,⟨_,rfl,rfl⟩,⟨_,rfl,rfl⟩,trivial⟩ (by repeat' (first | exact trivial | refine ⟨⟨_,rfl,rfl⟩,?_⟩)) (andT (allC rfl (allC (known_fF f_r) (allC rfl (allC rfl allN)))) rfl)

def slices_ContainsFunc_int_p (sA:List Int) (f:Int→Option Bool):Option Bool :=
 (slices_IndexFunc_int_p sA f).bind fun x1 =>
 some (decide (x1 ≥ 0))
theorem slices_ContainsFunc_int_ok (sA:List Int) (f_f:Nat) (f_c:List D) (f_k:f_c.all D.capOk=true) (f:Int→Option Bool) (f_h:∀ (a0:Int) (q:Bool),f a0=some q→SpecR Tryz.prog f_f ([.v (.int .i64 a0)]++f_c) (.v (.bool q))) (r:Bool) (hH:slices_ContainsFunc_int_p sA f=some r):SpecR Tryz.prog 101 [.s (List.map ze0 sA),.f f_f f_c] (.v (.bool r)):=by
 have f_r:=cap_cfree f_k
 refine zFn T Tryz.func101 rfl (by decide) rfl ?_
 refine AW.q (AW.r (AO.pu T ?_))
 refine AO.n (AW.q ?_)
 obtain ⟨x1,hx2,hH⟩:=zB hH
 refine AW.r ?_
 iterate 2 refine AO.pu T ?_
 refine AO.v rfl rfl (zV rfl rfl rfl (andT (allC rfl (allC f_r allN)) rfl) (slices_IndexFunc_int_ok _ f_f f_c f_k f f_h _ (hx2)) rfl) ?_
 iterate 2 refine AO.pu T ?_
 refine AO.n (AW.t ?_)
 have hR:=zS hH;subst hR
 exact retQ.i [] rfl (.c (.c .v))

def impl_behindStep_c1_p (skater:Int) (a:Event):Option Bool :=
 (impl_isScored_p a skater).bind fun x1 =>
 some (!x1)
theorem impl_behindStep_c1_ok (skater:Int) (a:Event) (r:Bool) (hH:impl_behindStep_c1_p skater a=some r):SpecR Tryz.prog 102 [skater,.q (ze4 a)] (.v (.bool r)):=by
 refine zFn T Tryz.func102 rfl (by decide) rfl ?_
 refine AW.q (AW.r (AO.pu T ?_))
 refine AO.n (AW.q ?_)
 obtain ⟨x1,hx2,hH⟩:=zB hH
 refine AW.r (AO.pu T (d:=.g [a.segments,a.size,a.key,.s (List.map ze1 a.entrants),.s (List.map ze0 a.gone),a.segment,.s (List.map ze0 a.order),.s (List.map ze2 a.results)]) ?_)
 refine AO.pu T ?_
 refine AO.v rfl rfl (zV rfl rfl rfl rfl (impl_isScored_ok _ _ _ (hx2)) rfl) ?_
 iterate 2 refine AO.pu T ?_
 refine AO.n (AW.t ?_)
 have hR:=zS hH;subst hR
 exact retQ.i [] rfl (.c (.c .v))

def impl_behindStep_p (e:Event):Option Event :=
 (opt (decide ((e.order.length:Int) > 0)) default (slices_ContainsFunc_int_p e.order (fun a0=>impl_behindStep_c1_p a0 e))).bind fun x1 =>
 cond (decide ((e.order.length:Int) > 0) && (!x1))
  (some (Event.mk e.segments e.size e.key e.entrants e.gone (w64 (e.segment+1)) [] e.results))
  (some e)
theorem impl_behindStep_ok (e:Event) (r:Event) (hH:impl_behindStep_p e=some r):SpecM Tryz.prog 60 [.g (ze10 e)] [.u] (.g (ze10 r)):=by
 refine fn_okM T Tryz.func60 rfl (by decide) rfl rfl ?_
 intro L
 show AW _ _ _ (⟨[(0,.g [e.segments,e.size,e.key,.R 1,.R 2,e.segment,.R 3,.R 4])],[(4,.row 2 (List.map ze6 e.results)),(3,.row 1 (List.map ze0 e.order)),(2,.row 1 (List.map ze0 e.gone)),(1,.row 2 (List.map ze1 e.entrants))],21,[(4,L 4),(3,L 3),(2,L 2),(1,L 1)]⟩:St)
 refine AW.q (AW.r (AO.s rfl (zBx T rfl 5 rfl rfl rfl rfl) ?_))
 refine AO.s rfl (zA T rfl 6 rfl rfl rfl rfl rfl) ?_
 refine AO.n ?_
 iterate 2 refine AW.q ?_
 obtain ⟨x1,hx2,hH⟩:=zB hH
 refine AW.r ?_
 iterate 2 refine AO.pu T ?_
 refine AO.v rfl rfl (len_row_ok T rfl rfl rfl rfl) ?_
 iterate 2 refine AO.pu T ?_
 refine AO.g T [] rfl trivial rfl rfl ?_
 refine AO.g T [8] rfl ⟨fun h=>h,trivial⟩ rfl rfl ?_
 refine AO.g T [] rfl trivial rfl rfl ?_
 refine AO.d [9,10] rfl ⟨fun h=>h,fun h=>h,trivial⟩ (fun hg=>zLV rfl rfl rfl (es:=[.s (List.map ze0 e.order),.f 102 [.q [e.segments,e.size,e.key,.s (List.map ze1 e.entrants),.s (List.map ze0 e.gone),e.segment,.s (List.map ze0 e.order),.s (List.map ze2 e.results)]]]) ⟨(.rowR rfl (.map fun y=>.vs rfl)),lend_f (LendL.cons (lend_p rfl (LendL.cons (.free rfl) (LendL.cons (.free rfl) (LendL.cons (.free rfl) (LendL.cons ((.rowR rfl (.map fun y=>.vs rfl))) (LendL.cons ((.rowR rfl (.map fun y=>.vs rfl))) (LendL.cons (.free rfl) (LendL.cons ((.rowR rfl (.map fun y=>.vs rfl))) (LendL.cons ((.rowR rfl (.map fun y=>frzResult y))) LendL.nil))))))))) LendL.nil),trivial⟩ (slices_ContainsFunc_int_ok _ 102 [.q [e.segments,e.size,e.key,.s (List.map ze1 e.entrants),.s (List.map ze0 e.gone),e.segment,.s (List.map ze0 e.order),.s (List.map ze2 e.results)]] rfl (fun a0=>impl_behindStep_c1_p a0 e) (fun a0 q h=>impl_behindStep_c1_ok a0 e q h) _ (optT hx2 hg)) (zfree_v _) rfl) rfl ?_
 refine AO.g T [11] rfl ⟨fun h=>h,trivial⟩ rfl rfl ?_
 refine AO.v rfl rfl (zN rfl rfl rfl rfl) ?_
 refine AO.n (AW.c (b:=(decide ((e.order.length:Int) > 0) && (!x1))) rfl (fun hc=>?_) (fun hc=>?_))
 replace hH:=condT hc hH
 refine AW.q (AW.r ?_)
 iterate 2 refine AO.pu T ?_
 refine AO.v rfl rfl (zW rfl rfl rfl rfl) ?_
 refine AO.pu T ?_
 refine AO.se T [e.segments,e.size,e.key,.R 1,.R 2,w64 (e.segment+1),.R 3,.R 4] ?_
 refine AO.n (AW.r ?_)
 refine AO.s rfl (mk0_ok T rfl rfl rfl rfl) ?_
 refine AO.pu T ?_
 refine AO.se T [e.segments,e.size,e.key,.R 1,.R 2,w64 (e.segment+1),.w 1 [],.R 4] ?_
 refine AO.n (AW.q (AW.r ?_))
 refine AO.pu T (d:=.g [e.segments,e.size,e.key,.R 1,.R 2,w64 (e.segment+1),.w 1 [],.R 4]) ?_
 refine AO.se T [e.segments,e.size,e.key,.R 1,.R 2,w64 (e.segment+1),.w 1 [],.R 4] ?_
 refine AO.n (AW.t ?_)
 have hR:=zS hH;subst hR
 exact ⟨trivial,rfl,_,[1,2,4],[],rfl,zG (.c .u) (zGn),.c (.g (zC .v (zC .v (zC .v (zC (.rowR rfl) (zC (.rowR rfl) (zC .v (zC .nil (zC (.rowR rfl) (zCn)))))))))),by decide⟩
 replace hH:=condF hc hH
 refine AW.k (AW.q (AW.r ?_))
 refine AO.pu T (d:=.g [e.segments,e.size,e.key,.R 1,.R 2,e.segment,.R 3,.R 4]) ?_
 refine AO.se T [e.segments,e.size,e.key,.R 1,.R 2,e.segment,.R 3,.R 4] ?_
 refine AO.n (AW.t ?_)
 have hR:=zS hH;subst hR
 exact ⟨trivial,rfl,_,[1,2,3,4],[],rfl,zG (.c .u) (zGn),.c (.g (zC .v (zC .v (zC .v (zC (.rowR rfl) (zC (.rowR rfl) (zC .v (zC (.rowR rfl) (zC (.rowR rfl) (zCn)))))))))),by decide⟩

def impl_LeaveEvent_p (e:Event) (skater:Int):Option (Event × Bool) :=
 (impl_isRunning_p e).bind fun x1 =>
 (opt (!(!x1)) default (impl_isThere_p e skater)).bind fun x3 =>
 cond ((!x1) || (!x3))
  (some ((Event.mk 0 0 0 [] [] 0 [] []),false))
  ((impl_copyEvent_p e).bind fun x5 =>
  (need (fitsB 8 (x5.gone.length+([skater]).length))).bind fun u7 =>
  (slices_Sort_int_p (x5.gone++[skater])).bind fun x9 =>
  (impl_isScored_p (Event.mk x5.segments x5.size x5.key x5.entrants x9 x5.segment x5.order x5.results) skater).bind fun x11 =>
  cond (!x11)
   ((impl_without_p x5.order [skater]).bind fun x13 =>
   (impl_behindStep_p (Event.mk x5.segments x5.size x5.key x5.entrants x9 x5.segment x13 x5.results)).bind fun x15 =>
   some (x15,true))
   ((impl_behindStep_p (Event.mk x5.segments x5.size x5.key x5.entrants x9 x5.segment x5.order x5.results)).bind fun x17 =>
   some (x17,true)))
theorem impl_LeaveEvent_ok (e:Event) (skater:Int) (r:(Event × Bool)) (hH:impl_LeaveEvent_p e skater=some r):SpecR Tryz.prog 24 [.g (ze4 e),skater] (.t [.g (ze10 r.1),.v (.bool r.2)]):=by
 refine zFn T Tryz.func24 rfl (by decide) rfl ?_
 refine AW.q (AW.r (AO.s rfl (zBx T rfl 1 rfl rfl rfl rfl) ?_))
 refine AO.s rfl (zA T rfl 2 rfl rfl rfl rfl rfl) ?_
 refine AO.pu T ?_
 refine AO.n ?_
 iterate 2 refine AW.q ?_
 obtain ⟨x1,hx2,hH⟩:=zB hH
 obtain ⟨x3,hx4,hH⟩:=zB hH
 refine AW.r (AO.pu T (d:=.g [e.segments,e.size,e.key,.s (List.map ze1 e.entrants),.s (List.map ze0 e.gone),e.segment,.s (List.map ze0 e.order),.s (List.map ze2 e.results)]) ?_)
 refine AO.v rfl rfl (zV rfl rfl rfl rfl (impl_isRunning_ok _ _ (hx2)) rfl) ?_
 iterate 2 refine AO.pu T ?_
 refine AO.g T (d:=.g [e.segments,e.size,e.key,.s (List.map ze1 e.entrants),.s (List.map ze0 e.gone),e.segment,.s (List.map ze0 e.order),.s (List.map ze2 e.results)]) [] rfl trivial rfl rfl ?_
 refine AO.g T [] rfl trivial rfl rfl ?_
 refine AO.d [11,12] rfl ⟨fun h=>h,fun h=>h,trivial⟩ (fun hg=>zV rfl rfl rfl rfl (impl_isThere_ok _ _ _ (optT hx4 hg)) rfl) rfl ?_
 refine AO.g T [13] rfl ⟨fun h=>h,trivial⟩ rfl rfl ?_
 refine AO.v rfl rfl (zO rfl rfl rfl rfl) ?_
 refine AO.n (AW.c (b:=((!x1) || (!x3))) rfl (fun hc=>?_) (fun hc=>?_))
 replace hH:=condT hc hH
 refine AW.q (AW.r (AO.pu T (d:=.g [(0:Int),(0:Int),(0:Int),.w 0 [],.w 0 [],(0:Int),.w 0 [],.w 0 []]) ?_))
 refine AO.se T [(0:Int),(0:Int),(0:Int),.w 0 [],.w 0 [],(0:Int),.w 0 [],.w 0 []] ?_
 refine AO.pu T ?_
 refine AO.n (AW.t ?_)
 have hR:=zS hH;subst hR
 exact retQ.i [] rfl (.t (zG (.g (zC .v (zC .v (zC .v (zC .nil (zC .nil (zC .v (zC .nil (zC .nil (zCn)))))))))) (zG (.c .v) (zGn))))
 replace hH:=condF hc hH
 refine AW.k (AW.q ?_)
 obtain ⟨x5,hx6,hH⟩:=zB hH
 refine AW.r (AO.pu T (d:=.g [e.segments,e.size,e.key,.s (List.map ze1 e.entrants),.s (List.map ze0 e.gone),e.segment,.s (List.map ze0 e.order),.s (List.map ze2 e.results)]) ?_)
 refine AO.s rfl (call_ok rfl 3 rfl rfl rfl (impl_copyEvent_ok _ _ (hx6)) rfl rfl rfl) ?_
 refine AO.s rfl (zA T rfl 7 rfl rfl rfl rfl rfl) ?_
 refine AO.se T [x5.segments,x5.size,x5.key,.R 3,.R 4,x5.segment,.R 5,.R 6] ?_
 refine AO.n (AW.q ?_)
 obtain ⟨u7,hx8,hH⟩:=zB hH
 refine AW.r ?_
 iterate 3 refine AO.pu T ?_
 refine AO.s rfl (mk_map_ok T rfl 8 rfl rfl rfl rfl rfl (f:=ze0) (l:=[skater]) rfl rfl (fun _=>rfl) rfl rfl rfl rfl rfl) ?_
 refine AO.s rfl (zAr T rfl 9 rfl rfl rfl rfl rfl (by decide) rfl rfl rfl rfl (fun _=>rfl) (needT (hx8)) rfl rfl) ?_
 refine AO.pu T ?_
 refine AO.se T [x5.segments,x5.size,x5.key,.R 3,.R 9,x5.segment,.R 5,.R 6] ?_
 refine AO.n (AW.q ?_)
 obtain ⟨x9,hx10,hH⟩:=zB hH
 refine AW.r ?_
 iterate 2 refine AO.pu T ?_
 refine AO.s rfl (zM rfl 10 rfl rfl (es:=[.w 1 ((x5.gone++[skater]).map ze0)]) (outs:=[.w 1 (x9.map ze0)]) (ids:=[9]) (by exact zG (.c (.rowR rfl)) (zGn)) (by decide) (.inl (by rfl)) (by rfl) (slices_Sort_int_ok _ _ (hx10)) rfl (by rfl) rfl) ?_
 refine AO.n (AW.le (Le.ct 0 0 (σ':=(⟨[(1,skater),(4,.p 2 0),(6,.p 7 0)],[(2,.box [(0:Int),(0:Int),(0:Int),.w 0 [],.w 0 [],(0:Int),.w 0 [],.w 0 []]),(3,.row 2 (List.map ze1 x5.entrants)),(5,.row 1 (List.map ze0 x5.order)),(6,.row 2 (List.map ze6 x5.results)),(7,.box [x5.segments,x5.size,x5.key,.R 3,.R 9,x5.segment,.R 5,.R 6]),(9,.row 1 (List.map ze0 x9))],40,[]⟩:St))) ?_)
 iterate 2 refine AW.q ?_
 obtain ⟨x11,hx12,hH⟩:=zB hH
 refine AW.r (AO.pu T (d:=.g [x5.segments,x5.size,x5.key,.R 3,.R 9,x5.segment,.R 5,.R 6]) ?_)
 refine AO.pu T ?_
 refine AO.v rfl rfl (zLV rfl rfl rfl (es:=[.g (ze4 (Event.mk x5.segments x5.size x5.key x5.entrants x9 x5.segment x5.order x5.results)),skater]) ⟨lend_g (LendL.cons (.free rfl) (LendL.cons (.free rfl) (LendL.cons (.free rfl) (LendL.cons ((.rowR rfl (.map fun y=>.vs rfl))) (LendL.cons ((.rowR rfl (.map fun y=>.vs rfl))) (LendL.cons (.free rfl) (LendL.cons ((.rowR rfl (.map fun y=>.vs rfl))) (LendL.cons ((.rowR rfl (.map fun y=>frzResult y))) LendL.nil)))))))),.free rfl,trivial⟩ (impl_isScored_ok _ _ _ (hx12)) (zfree_v _) rfl) ?_
 refine AO.pu T ?_
 refine AO.n (AW.c (b:=(!x11)) rfl (fun hc=>?_) (fun hc=>?_))
 replace hH:=condT hc hH
 obtain ⟨x13,hx14,hH⟩:=zB hH
 refine AW.r ?_
 iterate 3 refine AO.pu T ?_
 refine AO.s rfl (mk_map_ok T rfl 10 rfl rfl rfl rfl rfl (f:=ze0) (l:=[skater]) rfl rfl (fun _=>rfl) rfl rfl rfl rfl rfl) ?_
 refine AO.s rfl (callL_ok rfl 11 rfl rfl (es:=[.s (List.map ze0 x5.order),.s (List.map ze0 [skater])]) (by exact ⟨(.rowR rfl (.map fun y=>.vs rfl)),(.rowR rfl (.map fun y=>.vs rfl)),trivial⟩) (impl_without_ok _ _ _ (hx14)) (zfree_map (fun y=>(.cons (zfree_v _) .nil))) rfl rfl rfl) ?_
 refine AO.pu T ?_
 refine AO.se T [x5.segments,x5.size,x5.key,.R 3,.R 9,x5.segment,.R 11,.R 6] ?_
 refine AO.n (AW.q ?_)
 obtain ⟨x15,hx16,hH⟩:=zB hH
 refine AW.r (AO.pu T (d:=.g [x5.segments,x5.size,x5.key,.R 3,.R 9,x5.segment,.R 11,.R 6]) ?_)
 refine AO.s rfl (zM rfl 12 rfl rfl (es:=[.g (ze10 (Event.mk x5.segments x5.size x5.key x5.entrants x9 x5.segment x13 x5.results))]) (outs:=[.u]) (ids:=[3,9,11,6]) (by exact zG (.g (zC .v (zC .v (zC .v (zC (.rowR rfl) (zC (.rowR rfl) (zC .v (zC (.rowR rfl) (zC (.rowR rfl) (zCn)))))))))) (zGn)) (by decide) (.inr (by exact (show ([]:List Nat).Nodup∧∀ i ∈ ([]:List Nat),i ∈ ([3,9,11,6]:List Nat) from by decide))) (by rfl) (impl_behindStep_ok _ _ (hx16)) rfl (by rfl) rfl) ?_
 refine AO.se T [x15.segments,x15.size,x15.key,.R 12,.R 13,x15.segment,.R 14,.R 15] ?_
 refine AO.pu T ?_
 refine AO.n (AW.t ?_)
 have hR:=zS hH;subst hR
 exact retQ.i [12,13,14,15] rfl (.t (zG (.g (zC .v (zC .v (zC .v (zC (.rowR rfl) (zC (.rowR rfl) (zC .v (zC (.rowR rfl) (zC (.rowR rfl) (zCn)))))))))) (zG (.c .v) (zGn))))
 replace hH:=condF hc hH
 refine AW.k (AW.q ?_)
 obtain ⟨x17,hx18,hH⟩:=zB hH
 refine AW.r (AO.pu T (d:=.g [x5.segments,x5.size,x5.key,.R 3,.R 9,x5.segment,.R 5,.R 6]) ?_)
 refine AO.s rfl (zM rfl 16 rfl rfl (es:=[.g (ze10 (Event.mk x5.segments x5.size x5.key x5.entrants x9 x5.segment x5.order x5.results))]) (outs:=[.u]) (ids:=[3,9,5,6]) (by exact zG (.g (zC .v (zC .v (zC .v (zC (.rowR rfl) (zC (.rowR rfl) (zC .v (zC (.rowR rfl) (zC (.rowR rfl) (zCn)))))))))) (zGn)) (by decide) (.inr (by exact (show ([]:List Nat).Nodup∧∀ i ∈ ([]:List Nat),i ∈ ([3,9,5,6]:List Nat) from by decide))) (by rfl) (impl_behindStep_ok _ _ (hx18)) rfl (by rfl) rfl) ?_
 refine AO.se T [x17.segments,x17.size,x17.key,.R 16,.R 17,x17.segment,.R 18,.R 19] ?_
 refine AO.pu T ?_
 refine AO.n (AW.t ?_)
 have hR:=zS hH;subst hR
 exact retQ.i [16,17,18,19] rfl (.t (zG (.g (zC .v (zC .v (zC .v (zC (.rowR rfl) (zC (.rowR rfl) (zC .v (zC (.rowR rfl) (zC (.rowR rfl) (zCn)))))))))) (zG (.c .v) (zGn))))

def impl_signOf_p (n:Int):Option Int :=
 cond (decide (n > 0))
  (some 1)
  (cond (decide (n < 0))
   (some (-1))
   (some 0))
theorem impl_signOf_ok (n:Int) (r:Int) (hH:impl_signOf_p n=some r):SpecR Tryz.prog 150 [n] (.v (.int .i64 r)):=by
 refine zFn T Tryz.func150 rfl (by decide) rfl ?_
 refine AW.q (AW.r (AO.pu T ?_))
 refine AO.n (AW.q (AW.b ?_))
 refine AW.q (AW.r ?_)
 iterate 3 refine AO.pu T ?_
 refine AO.n (AW.c (b:=decide (n > 0)) rfl (fun hc=>?_) (fun hc=>?_))
 replace hH:=condT hc hH
 refine AW.q (AW.r (AO.pu T ?_))
 refine AO.n (AW.t ?_)
 have hR:=zS hH;subst hR
 exact retQ.i [] rfl (.c (.c .v))
 replace hH:=condF hc hH
 refine AW.q (AW.r ?_)
 iterate 3 refine AO.pu T ?_
 refine AO.n (AW.c (b:=decide (n < 0)) rfl (fun hc=>?_) (fun hc=>?_))
 replace hH:=condT hc hH
 refine AW.q (AW.r (AO.pu T ?_))
 refine AO.n (AW.t ?_)
 have hR:=zS hH;subst hR
 exact retQ.i [] rfl (.c (.c .v))
 replace hH:=condF hc hH
 refine AW.k (AW.q (AW.r ?_))
 refine AO.pu T ?_
 refine AO.n (AW.t ?_)
 have hR:=zS hH;subst hR
 exact retQ.i [] rfl (.c (.c .v))

def impl_compareResults_l1 (a:Result) (b:Result):Nat→Int→Option Int
 | 0,_=>none
 | k9+1,v23 =>
  cond (decide (v23 ≥ 0))
   ((getI a.scores v23).bind fun x25 =>
   (getI b.scores v23).bind fun x27 =>
   cond (x25 != x27)
    ((impl_signOf_p (w64 (x25 - x27))).bind fun x29 =>
    some x29)
    (impl_compareResults_l1 a b k9 (w64 (v23 - 1))))
   (some 0)
def impl_compareResults_p (fuel:Nat) (a:Result) (b:Result):Option Int :=
 (impl_totalOf_p a).bind fun x1 =>
 (impl_totalOf_p b).bind fun x3 =>
 cond (x1.2 != x3.2)
  ((impl_signOf_p (w64 (x1.2 - x3.2))).bind fun x5 =>
  some x5)
  (cond (x1.1 != x3.1)
   ((impl_signOf_p (w64 (x1.1 - x3.1))).bind fun x7 =>
   some x7)
   (impl_compareResults_l1 a b fuel (w64 ((a.scores.length:Int) - 1))))
theorem impl_compareResults_ok (fuel:Nat) (a:Result) (b:Result) (r:Int) (hH:impl_compareResults_p fuel a b=some r):SpecR Tryz.prog 114 [.g (ze2 a),.g (ze2 b)] (.v (.int .i64 r)):=by
 refine zFn T Tryz.func114 rfl (by decide) rfl ?_
 refine AW.q (AW.r (AO.s rfl (zBx T rfl 1 rfl rfl rfl rfl) ?_))
 refine AO.s rfl (zBx T rfl 2 rfl rfl rfl rfl) ?_
 refine AO.pu T ?_
 refine AO.n (AW.q ?_)
 obtain ⟨x1,hx2,hH⟩:=zB hH
 refine AW.r (AO.pu T (d:=.g [a.skater,.s (List.map ze0 a.scores)]) ?_)
 refine AO.v rfl rfl (zV rfl rfl rfl rfl (impl_totalOf_ok _ _ (hx2)) rfl) ?_
 iterate 5 refine AO.pu T ?_
 refine AO.n (AW.q ?_)
 obtain ⟨x3,hx4,hH⟩:=zB hH
 refine AW.r (AO.pu T (d:=.g [b.skater,.s (List.map ze0 b.scores)]) ?_)
 refine AO.v rfl rfl (zV rfl rfl rfl rfl (impl_totalOf_ok _ _ (hx4)) rfl) ?_
 iterate 5 refine AO.pu T ?_
 refine AO.n ?_
 iterate 2 refine AW.q ?_
 refine AW.r ?_
 iterate 3 refine AO.pu T ?_
 refine AO.n (AW.c (b:=(x1.2 != x3.2)) rfl (fun hc=>?_) (fun hc=>?_))
 replace hH:=condT hc hH
 refine AW.q ?_
 obtain ⟨x5,hx6,hH⟩:=zB hH
 refine AW.r ?_
 iterate 2 refine AO.pu T ?_
 refine AO.v rfl rfl (zW rfl rfl rfl rfl) ?_
 refine AO.v rfl rfl (zV rfl rfl rfl rfl (impl_signOf_ok _ _ (hx6)) rfl) ?_
 refine AO.pu T ?_
 refine AO.n (AW.le (Le.ct 0 0 (σ':=(⟨[(4,x5)],[],65,[]⟩:St))) ?_)
 refine AW.t ?_
 have hR:=zS hH;subst hR
 exact retQ.i [] rfl (.c (.c .v))
 replace hH:=condF hc hH
 refine AW.k ?_
 iterate 2 refine AW.q ?_
 refine AW.r ?_
 iterate 3 refine AO.pu T ?_
 refine AO.n (AW.c (b:=(x1.1 != x3.1)) rfl (fun hc=>?_) (fun hc=>?_))
 replace hH:=condT hc hH
 refine AW.q ?_
 obtain ⟨x7,hx8,hH⟩:=zB hH
 refine AW.r ?_
 iterate 2 refine AO.pu T ?_
 refine AO.v rfl rfl (zW rfl rfl rfl rfl) ?_
 refine AO.v rfl rfl (zV rfl rfl rfl rfl (impl_signOf_ok _ _ (hx8)) rfl) ?_
 refine AO.pu T ?_
 refine AO.n (AW.le (Le.ct 0 0 (σ':=(⟨[(4,x7)],[],65,[]⟩:St))) ?_)
 refine AW.t ?_
 have hR:=zS hH;subst hR
 exact retQ.i [] rfl (.c (.c .v))
 replace hH:=condF hc hH
 refine AW.k ?_
 iterate 2 refine AW.q ?_
 refine AW.r ?_
 iterate 2 refine AO.pu T ?_
 refine AO.v rfl rfl (zL T rfl rfl rfl) ?_
 refine AO.v rfl rfl (zW rfl rfl rfl rfl) ?_
 refine AO.pu T ?_
 refine AO.n (AW.le (Le.ct 0 0 (σ':=(⟨[(2,.p 1 0),(3,.p 2 0),(9,w64 ((a.scores.length:Int) - 1))],[(1,.box [a.skater,.s (List.map ze0 a.scores)]),(2,.box [b.skater,.s (List.map ze0 b.scores)])],65,[]⟩:St))) ?_)
 refine AW.b (AW.loopS (fun s:Nat × Int=>(⟨[(2,.p 1 0),(3,.p 2 0),(9,s.2)],[(1,.box [a.skater,.s (List.map ze0 a.scores)]),(2,.box [b.skater,.s (List.map ze0 b.scores)])],65,[]⟩:St)) (fun s=>impl_compareResults_l1 a b s.1 s.2=some r) (fun s=>s.1) (fuel,w64 ((a.scores.length:Int) - 1)) hH ?_ ?_)
 exact Le.ct 0 0
 rintro ⟨k9,v23⟩ hH
 replace hH:impl_compareResults_l1 a b k9 v23=some r:=hH
 try dsimp only
 rcases k9 with _ | k9
 cases (show none=some _ from hH)
 rw [impl_compareResults_l1] at hH
 iterate 2 refine AW.q ?_
 refine AW.r ?_
 iterate 2 refine AO.pu T ?_
 refine AO.n (AW.c (b:=decide (v23 ≥ 0)) rfl (fun hc=>?_) (fun hc=>?_))
 replace hH:=condT hc hH
 refine AW.k (AW.q ?_)
 refine AW.b (AW.q ?_)
 obtain ⟨x25,hx26,hH⟩:=zB hH
 obtain ⟨x27,hx28,hH⟩:=zB hH
 refine AW.drawn 10 3 [] mix (by kernel_rfl) rfl ?_
 iterate 3 refine AD.p T rfl rfl rfl ?_
 refine AD.w rfl rfl (zX T rfl rfl rfl rfl rfl (hx26) rfl) ?_
 iterate 4 refine AD.p T rfl rfl rfl ?_
 refine AD.w rfl rfl (zX T rfl rfl rfl rfl rfl (hx28) rfl) ?_
 refine AD.p T rfl rfl rfl ?_
 refine AD.nil (AO.pu T ?_)
 refine AO.n (AW.c (b:=(x25 != x27)) rfl (fun hc=>?_) (fun hc=>?_))
 replace hH:=condT hc hH
 refine AW.q ?_
 obtain ⟨x29,hx30,hH⟩:=zB hH
 refine AW.drawn 10 3 [] mix (by kernel_rfl) rfl ?_
 iterate 3 refine AD.p T rfl rfl rfl ?_
 refine AD.w rfl rfl (zX T rfl rfl rfl rfl rfl (hx26) rfl) ?_
 iterate 4 refine AD.p T rfl rfl rfl ?_
 refine AD.w rfl rfl (zX T rfl rfl rfl rfl rfl (hx28) rfl) ?_
 refine AD.p T rfl rfl rfl ?_
 refine AD.nil (AO.v rfl rfl (zW rfl rfl rfl rfl) ?_)
 refine AO.v rfl rfl (zV rfl rfl rfl rfl (impl_signOf_ok _ _ (hx30)) rfl) ?_
 refine AO.pu T ?_
 refine AO.n (AW.le (Le.ct 0 0 (σ':=(⟨[(4,x29)],[],65,[]⟩:St))) ?_)
 refine AW.t ?_
 have hR:=zS hH;subst hR
 exact retQ.i [] rfl (.c (.c .v))
 replace hH:=condF hc hH
 refine AW.k (AW.r ?_)
 refine AO.pu T ?_
 refine AO.v rfl rfl (zW rfl rfl rfl rfl) ?_
 refine AO.pu T ?_
 refine AO.n ?_
 refine ⟨(k9,w64 (v23 - 1)),hH,Nat.lt_succ_self _,?_⟩
 exact Le.ct 0 0
 replace hH:=condF hc hH
 refine AW.exit (AW.q (AW.r ?_))
 refine AO.pu T ?_
 refine AO.n (AW.t ?_)
 have hR:=zS hH;subst hR
 exact retQ.i [] rfl (.c (.c .v))

def impl_placeOf_l1 (l:List Result) (i:Int) (fuel:Nat):List Result→Nat→Int→Option Int
 | [],k1,v16 =>
  some v16
 | y2::ys3,k1,v16 =>
  (getI l i).bind fun x18 =>
  (impl_compareResults_p fuel y2 x18).bind fun x20 =>
  cond (decide (x20 > 0))
   (impl_placeOf_l1 l i fuel ys3 (k1+1) (w64 (v16+1)))
   (impl_placeOf_l1 l i fuel ys3 (k1+1) v16)
def impl_placeOf_p (fuel:Nat) (l:List Result) (i:Int):Option Int :=
 impl_placeOf_l1 l i fuel l 0 1
theorem impl_placeOf_ok (fuel:Nat) (l:List Result) (i:Int) (r:Int) (hH:impl_placeOf_p fuel l i=some r):SpecR Tryz.prog 73 [.s (List.map ze2 l),i] (.v (.int .i64 r)):=by
 refine zFn T Tryz.func73 rfl (by decide) rfl ?_
 refine AW.q (AW.r (AO.pu T ?_))
 refine AO.n (AW.q (AW.r ?_))
 refine AO.pu T ?_
 refine AO.n ?_
 iterate 2 refine AW.q ?_
 refine AW.r (AO.pu T ?_)
 refine AO.v rfl rfl (zL T rfl rfl rfl) ?_
 refine AO.pu T ?_
 refine AO.n (AW.b ?_)
 refine AW.loopS (fun s:Nat × Int=>(⟨[(0,.s (List.map ze2 l)),(1,i),(5,s.2),(8,.s (List.map ze2 l)),(9,(l.length:Int)),(10,(s.1:Int))],[],25,[]⟩:St)) (fun s=>s.1 ≤ l.length∧impl_placeOf_l1 l i fuel (l.drop s.1) s.1 s.2=some r) (fun s=>l.length - s.1) (0,1) ⟨Nat.zero_le _,hH⟩ ?_ ?_
 exact Le.ct 0 0
 rintro ⟨k1,v16⟩ ⟨hk,hH⟩
 replace hH:impl_placeOf_l1 l i fuel (l.drop k1) k1 v16=some r:=hH
 try dsimp only
 refine AW.boundM (t:=0) (l:=l) rfl (fun hb5=>?_)
 rcases hd4:l.drop k1 with _ | ⟨y2,ys3⟩
 rw [hd4,impl_placeOf_l1] at hH
 have hlt6:=drop_ge hd4
 refine AW.q (AW.r (AO.pu T ?_))
 refine AO.n (AW.q (AW.condF' (b:=decide ((k1:Int) < (l.length:Int))) rfl (rngF hlt6) ?_))
 refine AW.exit (AW.q (AW.r ?_))
 iterate 2 refine AO.pu T ?_
 refine AO.n (AW.t ?_)
 have hR:=zS hH;subst hR
 exact retQ.i [] rfl (.c (.c .v))
 rw [hd4,impl_placeOf_l1] at hH
 have hlt6:=drop_lt hd4
 refine AW.q (AW.r (AO.pu T ?_))
 refine AO.n (AW.q (AW.condT' (b:=decide ((k1:Int) < (l.length:Int))) rfl (rngT hlt6) ?_))
 refine AW.k (AW.q ?_)
 refine AW.b (AW.q (AW.r ?_))
 refine AO.v rfl rfl (zX T rfl rfl rfl rfl rfl (zgD hd4) rfl) ?_
 refine AO.pu T (d:=.g [y2.skater,.s (List.map ze0 y2.scores)]) ?_
 refine AO.s rfl (zA T rfl 3 rfl rfl rfl rfl rfl) ?_
 refine AO.se T [y2.skater,.s (List.map ze0 y2.scores)] ?_
 refine AO.n (AW.q ?_)
 obtain ⟨x18,hx19,hH⟩:=zB hH
 obtain ⟨x20,hx21,hH⟩:=zB hH
 refine AW.drawn 5 4 [] mix (by kernel_rfl) rfl ?_
 refine AD.p T (d:=.g [y2.skater,.s (List.map ze0 y2.scores)]) rfl rfl rfl ?_
 iterate 2 refine AD.p T rfl rfl rfl ?_
 refine AD.w rfl rfl (zX T rfl rfl rfl rfl rfl (hx19) rfl) ?_
 refine AD.p T (d:=.g [x18.skater,.s (List.map ze0 x18.scores)]) rfl rfl rfl ?_
 refine AD.nil (AO.v rfl rfl (zV rfl rfl rfl rfl (impl_compareResults_ok fuel _ _ _ (hx21)) rfl) ?_)
 refine AO.pu T ?_
 refine AO.n (AW.c (b:=decide (x20 > 0)) rfl (fun hc=>?_) (fun hc=>?_))
 replace hH:=condT hc hH
 refine AW.r (AO.pu T ?_)
 refine AO.v rfl rfl (zW rfl rfl rfl rfl) ?_
 refine AO.pu T ?_
 refine AO.n (AW.r ?_)
 refine AO.v rfl rfl (zR rfl rfl rfl rfl (zK hlt6 hb5)) ?_
 refine AO.pu T ?_
 refine AO.n ?_
 refine ⟨(k1+1,w64 (v16+1)),⟨Nat.succ_le_of_lt hlt6,(by rw [zds hd4];exact hH)⟩,(by have:=hlt6;dsimp only;omega),?_⟩
 exact Le.ct 0 0
 replace hH:=condF hc hH
 refine AW.k (AW.r ?_)
 refine AO.v rfl rfl (zR rfl rfl rfl rfl (zK hlt6 hb5)) ?_
 refine AO.pu T ?_
 refine AO.n ?_
 refine ⟨(k1+1,v16),⟨Nat.succ_le_of_lt hlt6,(by rw [zds hd4];exact hH)⟩,(by have:=hlt6;dsimp only;omega),?_⟩
 exact Le.ct 0 0

def slices_SortFunc_Entrant_p (x:List Entrant) (cmp:Entrant→Entrant→Option Int):Option (List Entrant):=sortF cmp x
theorem slices_SortFunc_Entrant_ok (x:List Entrant) (cmp_f:Nat) (cmp_c:List D) (cmp_k:cmp_c.all D.capOk=true) (cmp:Entrant→Entrant→Option Int) (cmp_h:∀ (a0 a1:Entrant) (q:Int),cmp a0 a1=some q→SpecR Tryz.prog cmp_f ([.g (ze1 a0),.g (ze1 a1)]++cmp_c) (.v (.int .i64 q))) (r:List Entrant) (hH:slices_SortFunc_Entrant_p x cmp=some r):SpecM Tryz.prog 174 [.w 2 (x.map ze1),.f cmp_f cmp_c] [.w 2 (r.map ze1),.u] (.t []) :=
  spec_sortF ⟨_,Tryz.func174,rfl,by decide⟩ (fun enc hk h1 cf hO cb blk off cap d w eg=>AnyQ.slices_SortFunc Tryz.sortF174 2 Tryz.isAgg46 Tryz.sizeOf46 enc hk h1 cf hO cmp_f cb blk off cap d w eg) (fun p cap cb w=>AnyF.slices_SortFunc_none Tryz.sortF174 p cap _ w) ze1 (fun _=>rfl) (fun _=>rfl) cmp_c (cap_sc cmp_k) cmp x r cmp_h hH

end Go.Proofs.YtegdphhfimaieabGreat

/- Plain lemmas: what the functions compute is what the reference says, in plain Lean. No condition. -/
import Derived.Test.YtegdphhfimaieabGreatPEvent11
set_option maxRecDepth 4000
set_option maxHeartbeats 1000000
set_option linter.unusedVariables false
set_option linter.unusedSimpArgs false
set_option linter.unusedSectionVars false

namespace Go.Proofs.YtegdphhfimaieabGreat
open Go.AM
theorem eEv (e:Event):Event.mk e.segments e.size e.key e.entrants e.gone e.segment e.order e.results=e:=rfl
theorem isEv_true {e:Event} (h:EvOk e) (hb:nEvent e ≤ 1048576):impl_IsEvent_p e=some true:=by
 obtain ⟨c,c1,c2⟩:=ret_impl_IsEvent e hb
 rw [c1,c2.2 h]
theorem events_new {more:List Int} (hv:wfByteS more) (F:Nat) (hF:1048576 < F) (x29:Event) (x33:List Int × List Int × Bool) (k:Nat):laws_FnEvents_l1 more F x29 x33 [] k=some true:=by
 have hml:more.length ≤ 9223372036854775807:=hv.1
 rw [laws_FnEvents_l1]
 obtain ⟨a,b,c,d1⟩:=drawNewEvent_ok hv.2 hml
 obtain ⟨r,r1,r2,r3⟩:=newEvent_case a b c F hF
 rw [bnd d1]
 dsimp only
 rw [bnd r2,bnd r1]
 simp only [eEv,beq_self_eq_true,opt_t,Bool.true_and]
 rw [bnd (sameEvent_eq _)]
 cases hr:r.2
 ·rfl
 ·have hn:nEvent r.1 ≤ 1048576:=by have:=n_ok (r3 hr);omega
  simp only [Bool.not_true,Bool.not_false,Bool.and_true,opt_t]
  rw [isEv_true (r3 hr) hn]
  rfl
theorem events_l2 (more:List Int) (F:Nat) (x29:Event) (x33:List Int × List Int × Bool):∀ (ys:List Int) (k:Nat),laws_FnEvents_l2 more F x29 x33 ys k=laws_FnEvents_l1 more F x29 x33 ys k:=by
 intro ys
 induction ys with
 | nil=>intro k;rw [laws_FnEvents_l2,laws_FnEvents_l1]
 | cons y ys ih=>intro k;rw [laws_FnEvents_l2,laws_FnEvents_l1];simp only [ih]
theorem events_l3 (more:List Int) (F:Nat) (x29:Event) (x33:List Int × List Int × Bool):∀ (ys:List Int) (k:Nat),laws_FnEvents_l3 more F x29 x33 ys k=laws_FnEvents_l1 more F x29 x33 ys k:=by
 intro ys
 induction ys with
 | nil=>intro k;rw [laws_FnEvents_l3,laws_FnEvents_l1]
 | cons y ys ih=>intro k;rw [laws_FnEvents_l3,laws_FnEvents_l1];simp only [ih]
theorem events_l1 {more:List Int} (hv:wfByteS more) (F:Nat) (hF:1048576 < F) (e:Event) (hR:RsOk e.results) (o:List Int) (hm:∀ i ∈ o,0 ≤ i∧i < (e.results.length:Int)) (hl:o.length ≤ 40) (hs:o.Pairwise (AH e.results)):∀ (ys pre:List Int),o=pre++ys →
  laws_FnEvents_l1 more F e (o.map (sx e.results),o.map (plR e.results F),true) ys pre.length=some true:=by
 intro ys
 induction ys with
 | nil=>intro pre _;exact events_new hv F hF _ _ _
 | cons y ys ih =>
  intro pre h
  have hnext:=ih (pre++[y]) (by rw [h];simp)
  rw [show (pre++[y]).length=pre.length+1 from by simp] at hnext
  obtain ⟨r,r1,r2,_,r4⟩:=at_idx (hm y (by rw [h];simp))
  have g1:getI (o.map (sx e.results)) (pre.length:Int)=some r.skater:=by rw [getI_nat,List.getElem?_map,h];simp [r4]
  have g2:getI (o.map (plR e.results F)) (pre.length:Int)=some (plR e.results F y):=by rw [getI_nat,List.getElem?_map,h];simp
  rw [laws_FnEvents_l1,bnd r2]
  dsimp only
  rw [bnd g1,bne_self_eq_false]
  rcases List.eq_nil_or_concat pre with rfl | ⟨q,j,rfl⟩
  ·simp only [List.length_nil]
   rw [show decide (((0:Nat):Int) > 0)=false from rfl]
   simp only [Bool.and_false,opt_f,Option.bind_some,Bool.false_and,Bool.or_false,cond_false]
   exact hnext
  ·simp only [List.concat_eq_append] at *
   have hkl:(q++[j]).length=q.length+1:=by simp
   rw [hkl] at hnext g2 ⊢
   have g3:getI (o.map (plR e.results F)) (q.length:Int)=some (plR e.results F j):=by rw [getI_nat,List.getElem?_map,h];simp
   have hql:q.length ≤ 40:=by rw [h] at hl;simp at hl;omega
   have hj:=hm j (by rw [h];simp)
   have hy:=hm y (by rw [h];simp)
   have hA:AH e.results j y:=by
    rw [h,List.append_assoc,List.pairwise_append] at hs
    exact (List.pairwise_cons.1 hs.2.1).1 y (by simp)
   have hle:=plR_le hR F (by omega) hj hy hA
   rw [decide_eq_true (by omega:((q.length+1:Nat):Int) > 0)]
   simp only [Bool.not_false,Bool.and_true,opt_t,Bool.true_and]
   rw [bnd g2,w64_in (by omega),show ((q.length+1:Nat):Int) - 1=(q.length:Int) from by omega,bnd g3,decide_eq_false (by omega)]
   exact hnext
theorem events_tail {more:List Int} (hv:wfByteS more) (F:Nat) (hF:1048576 < F):((spec_DrawStandingsOf_p F more).bind fun x29 =>
  (impl_StandingsOf_p F x29).bind fun x31 =>
  (spec_StandingsOf_p F x29).bind fun x33 =>
  (opt (!(!(x31.2.2 == x33.2.2))) default (laws_sameInts_p x31.1 x33.1)).bind fun x35 =>
  (opt (!((!(x31.2.2 == x33.2.2)) || (!x35))) default (laws_sameInts_p x31.2.1 x33.2.1)).bind fun x37 =>
  cond (((!(x31.2.2 == x33.2.2)) || (!x35)) || (!x37))
   (some false)
   (cond x31.2.2
    ((impl_OrderOfResults_p F x29.results).bind fun x39 =>
    (spec_OrderOfResults_p F x29.results).bind fun x41 =>
    (opt (!((!x39.2) || (!x41.2))) default (laws_sameInts_p x39.1 x41.1)).bind fun x43 =>
    cond (((((!x39.2) || (!x41.2)) || (!x43)) || ((x41.1.length:Int) != (x33.1.length:Int))) || ((x33.2.1.length:Int) != (x33.1.length:Int)))
     (some false)
     (laws_FnEvents_l1 more F x29 x33 x41.1 0))
    (laws_FnEvents_l1 more F x29 x33 [] 0)))=some true:=by
 have hml:more.length ≤ 9223372036854775807:=hv.1
 obtain ⟨E,d1,n1⟩:=drawStandingsOf_ok hv.2 hml F hF
 rw [bnd d1]
 rcases standings_case E (by omega) F hF with ⟨o,h,hm,hl,hs,e1,e2,e3,e4⟩ | ⟨a,b,e1,e2⟩
 ·rw [bnd e2,bnd e1]
  simp only [beq_self_eq_true,Bool.not_true,Bool.not_false,opt_t]
  rw [bnd (sameInts_eq _)]
  simp only [Bool.not_true,Bool.not_false,Bool.or_false,opt_t]
  rw [bnd (sameInts_eq _)]
  simp only [Bool.not_true,cond_false,cond_true]
  rw [bnd e4,bnd e3]
  simp only [Bool.not_true,Bool.not_false,Bool.or_false,opt_t]
  rw [bnd (sameInts_eq _)]
  simp only [Bool.not_true,Bool.false_or,List.length_map,bne_self_eq_false,Bool.or_false,cond_false]
  exact events_l1 hv F hF E h o hm hl hs o [] rfl
 ·rw [bnd e2,bnd e1]
  simp only [beq_self_eq_true,Bool.not_true,Bool.not_false,opt_t]
  rw [bnd (sameInts_eq _)]
  simp only [Bool.not_true,Bool.not_false,Bool.or_false,opt_t]
  rw [bnd (sameInts_eq _)]
  simp only [Bool.not_true,cond_false]
  exact events_new hv F hF ⟨0,0,0,[],[],0,[],[]⟩ ([],[],false) 0
theorem law_FnEventsF (F:Nat) (hF:1048576 < F) (code more:List Int) (hw:wfByteS code) (hv:wfByteS more):laws_FnEvents_p F code more=some true:=by
 have hcl:code.length ≤ 9223372036854775807:=hw.1
 have hml:more.length ≤ 9223372036854775807:=hv.1
 have htail:=events_tail hv F hF
 simp only [laws_FnEvents_l1] at htail
 unfold laws_FnEvents_p laws_big_p
 rw [Option.bind_some]
 cases decide ((code.length:Int) > 1048576) || decide ((more.length:Int) > w64 (1048576 - (code.length:Int)))
 rotate_left
 ·rfl
 rw [cond_false]
 simp only [events_l2,events_l3]
 obtain ⟨E,l,d1,n1,hl⟩:=drawRunSteps_ok hw.2 hcl F hF
 rw [bnd d1]
 dsimp only
 rw [eEv E]
 rcases run_case E (by omega) l F hF with ⟨h,h120,e1,e2⟩ | ⟨_,r,n,e1,e2⟩
 ·have hok:=runE_ok F hF l E h
  have hlen:=runE_len F l E
  have hn:=n_ok hok
  obtain ⟨s1,s2,s3⟩:=run_split F l E ((runE F l E).2 / 2) (by omega)
  have hhalf:w64 (((runE F l E).2:Int).tdiv 2)=(((runE F l E).2 / 2:Nat):Int):=by
   rw [Int.tdiv_eq_ediv_of_nonneg (by omega),w64_in (by omega)];omega
  have hok2:=runE_ok F hF (l.take ((runE F l E).2 / 2)) E h
  have hn2:=n_ok hok2
  rw [bnd e2,bnd e1]
  simp only [eEv,beq_self_eq_true,bne_self_eq_false,Bool.not_true,Bool.not_false,Bool.or_false,opt_t]
  rw [bnd (sameEvent_eq _)]
  simp only [Bool.not_true,Bool.or_false,cond_false,cond_true]
  rw [show need (2 != 0)=some () from rfl,Option.bind_some,hhalf,bnd (sliceHi_of (k:=(runE F l E).2 / 2) rfl (by omega))]
  rcases run_case E (by omega) (l.take ((runE F l E).2 / 2)) F hF with ⟨_,_,_,f2⟩ | ⟨q,_⟩
  rotate_left
  ·exact absurd ⟨h,by rw [List.length_take];omega⟩ q
  rw [bnd f2,bnd (sliceLH_of (a:=(runE F l E).2 / 2) (b:=(runE F l E).2) rfl rfl (by omega) hlen)]
  dsimp only
  rcases run_case (runE F (l.take ((runE F l E).2 / 2)) E).1 (by omega) ((l.drop ((runE F l E).2 / 2)).take ((runE F l E).2 - (runE F l E).2 / 2)) F hF with ⟨_,_,_,f4⟩ | ⟨q,_⟩
  rotate_left
  ·exact absurd ⟨hok2,by rw [List.length_take,List.length_drop];omega⟩ q
  rw [s2] at f4
  dsimp only at f4
  rw [bnd f4,isEv_true hok (by omega),Option.bind_some,s1]
  dsimp only
  rw [w64_in (n:=((runE F l E).2:Int) - (((runE F l E).2 / 2:Nat):Int)) (by omega),show ((runE F l E).2:Int) - (((runE F l E).2 / 2:Nat):Int)=(((runE F l E).2 - (runE F l E).2 / 2:Nat):Int) from by omega]
  simp only [bne_self_eq_false,Bool.not_true,Bool.not_false,Bool.or_false,opt_t]
  rw [bnd (sameEvent_eq _)]
  simp only [Bool.not_true,cond_false]
  by_cases hlt:(runE F l E).2 < l.length
  ·rw [decide_eq_true (by omega:((runE F l E).2:Int) < (l.length:Int)),cond_true,w64_in (n:=((runE F l E).2:Int)+1) (by omega)]
   have hone:sliceLH l ((runE F l E).2:Int) (((runE F l E).2:Int)+1)=some [l[(runE F l E).2]]:=by
    rw [sliceLH_of (a:=(runE F l E).2) (b:=(runE F l E).2+1) rfl (by omega) (by omega) (by omega),show (runE F l E).2+1 - (runE F l E).2=1 from by omega,List.drop_eq_getElem_cons hlt]
    rfl
   rw [bnd hone]
   rcases run_case (runE F l E).1 (by omega) [l[(runE F l E).2]] F hF with ⟨_,_,_,f5⟩ | ⟨q,_⟩
   rotate_left
   ·exact absurd ⟨hok,by simp⟩ q
   have hst:=s3 _ (List.getElem?_eq_getElem hlt)
   have hrun:runE F [l[(runE F l E).2]] (runE F l E).1=((runE F l E).1,0):=by rw [runE,hst];rfl
   rw [hrun] at f5
   rw [bnd f5]
   simp only [Bool.not_true,Bool.false_or]
   rw [show (((0:Nat):Int) != 0)=false from rfl,cond_false]
   exact htail
  ·rw [decide_eq_false (by omega:¬ ((runE F l E).2:Int) < (l.length:Int)),cond_false]
   exact htail
 ·rw [bnd e2,bnd e1]
  simp only [eEv,beq_self_eq_true,bne_self_eq_false,Bool.not_true,Bool.not_false,Bool.or_false,opt_t]
  rw [bnd (sameEvent_eq _)]
  simp only [Bool.not_true,Bool.or_false,cond_false]
  exact htail
theorem law_FnEvents (code more:List Int) (hw:wfByteS code) (hv:wfByteS more):laws_FnEvents_p 99999999 code more=some true:=law_FnEventsF 99999999 (by omega) code more hw hv

end Go.Proofs.YtegdphhfimaieabGreat

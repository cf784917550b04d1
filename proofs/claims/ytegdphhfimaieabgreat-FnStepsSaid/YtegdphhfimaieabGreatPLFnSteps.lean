/- Plain lemmas: what the functions compute is what the reference says, in plain Lean. No condition. -/
import Derived.Test.YtegdphhfimaieabGreatPCur6
set_option maxRecDepth 4000
set_option maxHeartbeats 1000000
set_option linter.unusedVariables false
set_option linter.unusedSimpArgs false
set_option linter.unusedSectionVars false

namespace Go.Proofs.YtegdphhfimaieabGreat
open Go.AM
theorem eEv (e:Event):Event.mk e.segments e.size e.key e.entrants e.gone e.segment e.order e.results=e:=rfl
theorem isEv_true {e:Event} (h:EvOk e) (hb:nEvent e ≤ 1048576):impl_IsEvent_p e=some true:=by
 obtain ⟨c,c1,c2⟩:=ret_impl_IsEvent e hb
 rw [c1,c2.2 h]
theorem steps_rest {more:List Int} (hv:wfByteS more) (F:Nat) (hF:1048576 < F) (x29:Event × Int) (x39:Int × Bool) (k:Nat):laws_FnSteps_l1 more F x29 x39 [] k=some true:=by
 have hml:more.length ≤ 9223372036854775807:=hv.1
 rw [laws_FnSteps_l1]
 obtain ⟨E,x,d1,n1⟩:=drawEnterSkater_ok hv.2 hml F hF
 obtain ⟨V,s,d2,n2⟩:=drawLeaveEvent_ok hv.2 hml F hF
 obtain ⟨a,a1,a2,a3,a4⟩:=enter_case E (by omega) x F hF
 obtain ⟨b,b1,b2,b3,b4⟩:=leave_case V (by omega) s F hF
 rw [bnd d1]
 dsimp only
 rw [eEv E,show (Entrant.mk x.skater x.rank)=x from rfl,bnd a2,bnd a1,bnd d2]
 dsimp only
 rw [eEv V,bnd b2,bnd b1]
 simp only [eEv,beq_self_eq_true,opt_t,Bool.true_and]
 rw [bnd (sameEvent_eq _)]
 have hA:∃ v,opt (true && !(!a.2)) default (impl_IsEvent_p a.1)=some v∧((!a.2) || v)=true:=by
  cases ha:a.2
  ·exact ⟨default,rfl,rfl⟩
  ·have hn:nEvent a.1 ≤ 1048576:=by have:=n_ok (a4 ha);omega
   exact ⟨true,by rw [isEv_true (a4 ha) hn];rfl,rfl⟩
 obtain ⟨v,v1,v2⟩:=hA
 rw [bnd v1]
 simp only [v2,Bool.and_true,Bool.true_and,opt_t]
 rw [bnd (sameEvent_eq _)]
 cases hb:b.2
 ·simp only [Bool.not_false,Bool.not_true,Bool.and_false,Bool.false_and,opt_f,Option.bind_some,Bool.true_or,Bool.and_true,v2]
 ·obtain ⟨k1,k2,k3⟩:=b4 hb
  have hn:nEvent b.1 ≤ 1048576:=by have:=n_ok k1;omega
  obtain ⟨p,p1,p2⟩:=ret_pIn b.1.gone s
  obtain ⟨q,q1,q2⟩:=ret_pIn V.gone s
  obtain rfl:=p2.2 k2
  have:q=false:=by
   cases q
   ·rfl
   ·exact absurd (q2.1 rfl) k3
  subst this
  simp only [Bool.not_true,Bool.not_false,Bool.and_true,opt_t]
  rw [isEv_true k1 hn,Option.bind_some]
  simp only [Bool.and_true,opt_t]
  rw [bnd p1]
  simp only [Bool.and_true,opt_t]
  rw [bnd q1]
  rfl
theorem fsteps_l1 {more:List Int} (hv:wfByteS more) (F:Nat) (hF:1048576 < F) (u:Event) (score n:Int) (h:EvOk u) (hlt:u.segment < u.segments) (hn:n ∈ u.order) (hh:¬ hasE u n) (hsc:0 ≤ score):∀ (rs pre:List Result),u.results=pre++rs →
  laws_FnSteps_l1 more F (u,score) (n,true) (rs.map (updR u score n)) pre.length=some true:=by
 intro rs
 induction rs with
 | nil=>intro pre _;exact steps_rest hv F hF _ _ _
 | cons r rs ih =>
  intro pre hu
  have hnext:=ih (pre++[r]) (by rw [hu];simp)
  rw [show (pre++[r]).length=pre.length+1 from by simp] at hnext
  have hmem:r ∈ u.results:=by rw [hu];simp
  have hseg:=h.1.2.2.2.1
  rw [List.map_cons,laws_FnSteps_l1]
  dsimp only
  rw [bnd (getI_app (pre:=pre) (y:=r) (ys:=rs) hu rfl)]
  by_cases hs:r.skater=n
  ·obtain ⟨hk,hneg⟩:=given_miss h hn hh hmem hs hlt
   have hy:updR u score n r=Result.mk r.skater (r.scores.set u.segment.toNat score):=if_pos hs
   obtain ⟨b,b1,b2⟩:=ret_sameInts (a:=r.scores.set u.segment.toNat score) (b:=r.scores) (by simp)
   have hb:b=false:=by
    cases b
    ·rfl
    ·have e:=b2.1 rfl
     have:(r.scores.set u.segment.toNat score)[u.segment.toNat]'(by simpa using hk)=score:=by simp
     have h2:(r.scores.set u.segment.toNat score)[u.segment.toNat]'(by simpa using hk)=r.scores[u.segment.toNat]:=by congr 1
     omega
   subst hb
   rw [hy]
   dsimp only
   rw [bnd b1,show (r.skater == n)=true from by simpa using hs]
   have hg:getI (r.scores.set u.segment.toNat score) u.segment=some score:=by
    rw [getI_of (k:=u.segment.toNat) (by omega),List.getElem?_set_self hk]
   simp only [Bool.not_false,beq_self_eq_true,Bool.not_true,Bool.and_true,opt_t]
   rw [bnd hg,bne_self_eq_false]
   exact hnext
  ·have hy:updR u score n r=r:=if_neg hs
   rw [hy,bnd (sameInts_eq _),show (r.skater == n)=false from by simpa using hs]
   exact hnext
theorem law_FnStepsF (F:Nat) (hF:1048576 < F) (code more:List Int) (hw:wfByteS code) (hv:wfByteS more):laws_FnSteps_p F code more=some true:=by
 have hcl:code.length ≤ 9223372036854775807:=hw.1
 have hml:more.length ≤ 9223372036854775807:=hv.1
 unfold laws_FnSteps_p laws_big_p
 rw [Option.bind_some]
 cases decide ((code.length:Int) > 1048576) || decide ((more.length:Int) > w64 (1048576 - (code.length:Int)))
 rotate_left
 ·rfl
 rw [cond_false]
 obtain ⟨E,dr,n1⟩:=drawAllowedSteps_ok hw.2 hcl F hF
 obtain ⟨al,al1,al2,_⟩:=same_AllowedSteps E (by omega) F hF
 obtain ⟨nx,nx1,nx2⟩:=same_NextSkater E (by omega) F hF
 obtain ⟨d,d1,d2,d3,d4⟩:=begin_case E (by omega) F hF
 obtain ⟨u,score,dg,n2⟩:=drawGiveScore_ok hv.2 hml F hF
 obtain ⟨g,g1,g2,g3,g4⟩:=give_case u (by omega) score F hF
 have hev:impl_IsEvent_p E=some al.2:=by
  obtain ⟨c,c1,c2⟩:=ret_impl_IsEvent E (by omega)
  rcases allowed_case E (by omega) F hF with ⟨h,l,_,e1,_⟩ | ⟨h,r,e1,_⟩
  ·rw [al1] at e1
   rw [Option.some.inj e1,c1,c2.2 h]
  ·rw [al1] at e1
   rw [Option.some.inj e1,c1]
   cases c
   ·rfl
   ·exact absurd (c2.1 rfl) h
 have hal:al.2=true→(3 ∈ al.1↔d.2=true)∧(4 ∈ al.1↔nx.2=true):=by
  intro ht
  rcases allowed_case E (by omega) F hF with ⟨h,l,d',e1,_,e2,e3,e4⟩ | ⟨_,r,e1,_⟩
  ·rw [al1] at e1
   obtain rfl:=Option.some.inj e1
   rw [d1] at e2
   obtain rfl:=Option.some.inj e2
   refine ⟨e3,e4.trans ?_⟩
   rcases next_case E (by omega) F hF with ⟨_,ho,n,_,q,_⟩ | ⟨hno,r,q,_⟩
   ·rw [nx1] at q
    rw [Option.some.inj q]
    simp [ho]
   ·rw [nx1] at q
    rw [Option.some.inj q]
    constructor
    ·intro ho;exact absurd ⟨h,ho⟩ hno
    ·intro k;cases k
  ·rw [al1] at e1
   rw [Option.some.inj e1] at ht
   cases ht
 have hmid:∀ R:Option Bool,R=some true→((opt al.2 default (laws_pIn_p al.1 3)).bind fun x23=>(opt (al.2 && (!(!(x23 == d.2)))) default (laws_pIn_p al.1 4)).bind fun x25=>cond (al.2 && ((!(x23 == d.2)) || (!(x25 == nx.2)))) (some false) R)=some true:=by
  intro R hR
  cases ha:al.2
  ·simp only [opt_f,Option.bind_some,Bool.false_and,cond_false];exact hR
  ·obtain ⟨h3,h4⟩:=hal ha
   obtain ⟨p,p1,p2⟩:=ret_pIn al.1 3
   obtain ⟨q,q1,q2⟩:=ret_pIn al.1 4
   obtain rfl:p=d.2:=Bool.eq_iff_iff.2 (p2.trans h3)
   obtain rfl:q=nx.2:=Bool.eq_iff_iff.2 (q2.trans h4)
   simp only [opt_t]
   rw [bnd p1]
   simp only [beq_self_eq_true,Bool.not_true,Bool.not_false,Bool.and_true,opt_t]
   rw [bnd q1,beq_self_eq_true]
   exact hR
 have hbeg:∀ R:Option Bool,R=some true→((opt d.2 default (impl_IsEvent_p d.1)).bind fun x27=>cond (d.2 && (((!x27) || ((d.1.order.length:Int) == 0)) || (d.1.segment != E.segment))) (some false) R)=some true:=by
  intro R hR
  cases hd:d.2
  ·simp only [opt_f,Option.bind_some,Bool.false_and,cond_false];exact hR
  ·obtain ⟨k1,k2,k3⟩:=d4 hd
   have hn:nEvent d.1 ≤ 1048576:=by have:=n_ok k1;omega
   have:=List.length_pos_iff.2 k2
   simp only [opt_t]
   rw [isEv_true k1 hn,Option.bind_some,k3,bne_self_eq_false,show ((d.1.order.length:Int) == 0)=false from by simp only [beq_eq_false_iff_ne,ne_eq];omega]
   exact hR
 rw [bnd dr,bnd al2,bnd al1,bnd nx2,bnd nx1,bnd d2,bnd d1]
 simp only [eEv,beq_self_eq_true,bne_self_eq_false,Bool.not_true,Bool.not_false,Bool.or_false,Bool.false_or,opt_t]
 rw [bnd (sameInts_eq _)]
 simp only [Bool.not_true,Bool.not_false,Bool.or_false,Bool.false_or,opt_t]
 rw [bnd (sameEvent_eq _)]
 simp only [Bool.not_true,Bool.not_false,Bool.or_false,Bool.false_or,opt_t]
 rw [bnd hev,beq_self_eq_true,Bool.not_true,cond_false]
 refine hmid _ ?_
 refine hbeg _ ?_
 rw [bnd dg]
 dsimp only
 rw [bnd g2,bnd g1]
 simp only [beq_self_eq_true,Bool.not_true,Bool.not_false,opt_t]
 rw [bnd (sameEvent_eq _),Bool.not_true,Bool.false_or,cond_false]
 cases hg:g.2
 ·rw [cond_false]
  have:=steps_rest hv F hF (u,score) (0,true) 0
  rw [laws_FnSteps_l1] at this
  simp only [eEv] at this
  exact this
 ·rw [cond_true]
  obtain ⟨k1,k2,k3,n,k4,k5,k6,k7,k8⟩:=g4 hg
  have hn:nEvent g.1 ≤ 1048576:=by have:=n_ok k1;omega
  rcases next_case u (by omega) F hF with ⟨_,_,n',m1,m2,m3⟩ | ⟨q,_⟩
  ·rw [k4] at m1
   obtain rfl:=Option.some.inj m1
   rw [bnd m3,bnd m2,isEv_true k1 hn,Option.bind_some]
   simp only [bne_self_eq_false,Bool.not_true,Bool.or_false,cond_false]
   rw [k7]
   exact fsteps_l1 hv F hF u score n k2 k3 k5 k6 k8 u.results [] rfl
  ·exact absurd ⟨k2,List.ne_nil_of_mem k5⟩ q
theorem law_FnSteps (code more:List Int) (hw:wfByteS code) (hv:wfByteS more):laws_FnSteps_p 99999999 code more=some true:=law_FnStepsF 99999999 (by omega) code more hw hv

end Go.Proofs.YtegdphhfimaieabGreat

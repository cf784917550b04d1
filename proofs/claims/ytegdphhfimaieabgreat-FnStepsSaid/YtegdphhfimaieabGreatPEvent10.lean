/- Plain lemmas: what the functions compute is what the reference says, in plain Lean. No condition. -/
import Derived.Test.YtegdphhfimaieabGreatPSame1
set_option maxRecDepth 4000
set_option maxHeartbeats 1000000
set_option linter.unusedVariables false
set_option linter.unusedSimpArgs false
set_option linter.unusedSectionVars false

namespace Go.Proofs.YtegdphhfimaieabGreat
open Go.AM

theorem end_keeps {e r:Event} (h:spec_evEnd_p e=some r):r.gone=e.gone∧r.results=e.results:=by
 unfold spec_evEnd_p at h
 by_cases c:(e.order.length:Int) > 0
 ·rw [decide_eq_true c] at h
  simp only [opt_t,Bool.true_and] at h
  obtain ⟨x,_,h⟩:=Option.bind_eq_some_iff.1 h
  obtain ⟨y,_,h⟩:=Option.bind_eq_some_iff.1 h
  cases y
  ·cases h;exact ⟨rfl,rfl⟩
  ·cases h;exact ⟨rfl,rfl⟩
 ·rw [decide_eq_false c] at h
  simp only [opt_f,Option.bind_some,Bool.false_and,cond_false] at h
  cases h;exact ⟨rfl,rfl⟩
theorem leave_res2 {e:Event} (h:EvOk e) (hlt:e.segment < e.segments) (s:Int) (fuel:Nat) (hf:1048576 < fuel) {r:Event × Bool} (hr:spec_evLeave_p fuel e s=some r) (ht:r.2=true):EvOk r.1∧s ∈ r.1.gone∧s ∉ e.gone:=by
 have hb:nEvent e ≤ 1048576:=by have:=n_ok h;omega
 obtain ⟨b1,b2,b3,b4,b5,b6⟩:=sizes_E hb
 have hseg:=h.1.2.2.2.1
 have hpart:=h.1.2.2.2.2.2.1
 unfold spec_evLeave_p at hr
 rw [bnd (there_eq e b1),leave_l,Bool.false_or,spec_evLeave_l1] at hr
 by_cases c:s ∈ (e.entrants.filter fun x=>decide (x.skater ∉ e.gone)).map fun x=>x.skater
 ·rw [decide_eq_true c] at hr
  simp only [Bool.not_true,cond_false] at hr
  obtain ⟨x,hx,rfl⟩:=List.mem_map.1 c
  obtain ⟨q1,q2⟩:=List.mem_filter.1 hx
  have q3:x.skater ∈ skE e:=List.mem_map.2 ⟨x,q1,rfl⟩
  have q4:x.skater ∉ e.gone:=of_decide_eq_true q2
  obtain ⟨l1,l2,l3,l4⟩:=ev_lens hpart
  obtain ⟨g,g1,g2,g3,g4⟩:=put_eq e.gone x.skater hpart.2.1.2 (by omega) fuel hf
  rw [bnd (evOwn_eq e hb),bnd g1,bnd (evHas_eq e hseg.1 x.skater)] at hr
  by_cases k:hasE e x.skater
  ·rw [decide_eq_true k] at hr
   simp only [Bool.not_true,cond_false] at hr
   obtain ⟨z,z1,z2⟩:=ok_end (mid_leave h hlt x.skater q3 q4 g g2 g3 e.order (.inl ⟨k,rfl⟩))
   rw [bnd z1] at hr
   cases hr;exact ⟨z2,by rw [(end_keeps z1).1];exact (g3 _).2 (.inr rfl),q4⟩
  ·rw [decide_eq_false k] at hr
   simp only [Bool.not_false,cond_true] at hr
   rw [bnd (paWithout_eq e.order x.skater b3)] at hr
   obtain ⟨z,z1,z2⟩:=ok_end (mid_leave h hlt x.skater q3 q4 g g2 g3 (e.order.filter fun n=>decide (n ≠ x.skater)) (.inr ⟨k,rfl⟩))
   rw [bnd z1] at hr
   cases hr;exact ⟨z2,by rw [(end_keeps z1).1];exact (g3 _).2 (.inr rfl),q4⟩
 ·rw [decide_eq_false c] at hr
  cases hr;cases ht
theorem score_res2 {e:Event} (h:EvOk e) (hlt:e.segment < e.segments) (score:Int) (fuel:Nat) (hf:1048576 < fuel) {r:Event × Bool} (hr:spec_evScore_p fuel e score=some r) (ht:r.2=true):EvOk r.1∧∃ n,spec_evNext_p e=some n∧n ∈ e.order∧¬ hasE e n∧r.1.results=e.results.map (updR e score n)∧0 ≤ score:=by
 have hb:nEvent e ≤ 1048576:=by have:=n_ok h;omega
 obtain ⟨b1,b2,b3,b4,b5,b6⟩:=sizes_E hb
 have hseg:=h.1.2.2.2.1
 have hpart:=h.1.2.2.2.2.2.1
 have hord:=h.1.2.2.2.2.1
 unfold spec_evScore_p at hr
 obtain ⟨n,n1,n2,n3⟩:=next_is e hseg.1 e.order 0 fun s hs=>by have:=hord.1 s hs;omega
 rw [bnd (show spec_evNext_p e=some n from n1)] at hr
 by_cases hn0:n=0
 ·rw [show (n == 0)=true from by simpa using hn0] at hr
  cases hr;cases ht
 ·rw [show (n == 0)=false from by simpa using hn0] at hr
  simp only [Bool.not_false,opt_t,Bool.false_or] at hr
  obtain ⟨b,e1,e2⟩:=ret_l1In score 0 100000
  rw [bnd e1] at hr
  cases b
  ·cases hr;cases ht
  ·simp only [Bool.not_true,cond_false] at hr
   rw [bnd (evOwn_eq e hb)] at hr
   obtain ⟨l1,l2,l3,l4⟩:=ev_lens hpart
   obtain ⟨s1,s2⟩:=score_l e score n hseg.1 (by omega) (fun r hr=>by have:=hpart.2.2.2.2.1 r hr;omega) e.results [] fuel (by omega) rfl
   rcases n3 with ⟨q,_⟩ | ⟨_,A,B,q,q2,q3⟩
   ·exact absurd q hn0
   obtain ⟨z,z1,z2⟩:=ok_end (mid_score h hlt score (e2.1 rfl) n A B q q2 q3)
   rw [bnd z1] at s1
   have hq:=s1.symm.trans hr
   cases hq;exact ⟨z2,n,n1,by rw [q];simp,q3,(end_keeps z1).2,(e2.1 rfl).1⟩
theorem draw_res2 {e:Event} (h:EvOk e) (hlt:e.segment < e.segments) (fuel:Nat) (hf:1048576 < fuel) {r:Event × Bool} (hr:spec_evDraw_p fuel e=some r) (ht:r.2=true):EvOk r.1∧r.1.order ≠ []∧r.1.segment=e.segment:=by
 have hb:nEvent e ≤ 1048576:=by have:=n_ok h;omega
 obtain ⟨b1,b2,b3,b4,b5,b6⟩:=sizes_E hb
 have hseg:=h.1.2.2.2.1
 have hsegs:=h.1.1
 have hsz:=h.1.2.1
 have hkey:=h.1.2.2.1
 have hpart:=h.1.2.2.2.2.2.1
 have hR:=rsOk hpart
 have hlen:e.results.length=e.entrants.length:=by have:=congrArg List.length hpart.2.2.2.1;unfold skE at this;simpa using this
 have hmem:∀ s,s ∈ (thS e e.entrants).map (fun x=>x.skater)↔s ∈ skE e∧s ∉ e.gone:=by
  intro s
  constructor
  ·intro hs
   obtain ⟨x,hx,rfl⟩:=List.mem_map.1 hs
   obtain ⟨q1,q2⟩:=List.mem_filter.1 hx
   exact ⟨List.mem_map.2 ⟨x,q1,rfl⟩,of_decide_eq_true q2⟩
  ·rintro ⟨q1,q2⟩
   obtain ⟨x,hx,rfl⟩:=List.mem_map.1 q1
   exact List.mem_map.2 ⟨x,List.mem_filter.2 ⟨hx,decide_eq_true q2⟩,rfl⟩
 unfold spec_evDraw_p at hr
 rw [bnd (show spec_evThere_p e=some (thS e e.entrants) from there_eq e b1)] at hr
 by_cases co:(e.order.length:Int) > 0
 ·rw [decide_eq_true co] at hr
  cases hr;cases ht
 ·rw [decide_eq_false co] at hr
  simp only [Bool.false_or] at hr
  have ho:e.order=[]:=List.eq_nil_of_length_eq_zero (by omega)
  have hE:EntrOk (thS e e.entrants):=⟨fun x hx=>hpart.1.1 x (List.mem_filter.1 hx).1,hpart.1.2.1.sublist List.filter_sublist,Nat.le_trans (List.length_filter_le _ _) hpart.1.2.2⟩
  have hnd:((thS e e.entrants).map fun x=>x.skater).Nodup:=by
   unfold List.Nodup
   rw [List.pairwise_map];exact hE.2.1.imp fun h=>h.1
  by_cases c:thS e e.entrants=[]
  ·rw [c] at hr
   cases hr;cases ht
  ·have hpos:=List.length_pos_iff.2 c
   rw [show (((thS e e.entrants).length:Int) == 0)=false from by simp only [beq_eq_false_iff_ne,ne_eq];omega] at hr
   simp only [cond_false] at hr
   rw [bnd (evOwn_eq e hb)] at hr
   obtain ⟨S,hS⟩:∃ S:Nat,e.size=(S:Int):=⟨e.size.toNat,by omega⟩
   have h40:=hE.2.2
   by_cases c0:e.segment=0
   ·rw [show (e.segment == 0)=true from by simpa using c0,cond_true,hS] at hr
    obtain ⟨q,r1,r2,r3⟩:=same_StartOrder [e.key,0] (fun x hx=>by simp at hx;omega) (by simp) hE c S (by omega) fuel hf
    rw [bnd r1] at hr
    unfold spec_evIf_p at hr
    cases hq:q.2
    ·rw [hq] at hr;cases hr;cases ht
    ·rw [hq] at hr
     simp only [Bool.not_true,cond_false] at hr
     have hp:=r3 hq
     cases hr
     have:=ok_draw h ho hlt q.1 (fun s=>by rw [hp.mem_iff];exact hmem s) (hp.nodup_iff.2 hnd)
     refine ⟨by rw [← hS];exact this,fun h0=>?_,rfl⟩
     have h0:q.1=[]:=h0
     have:=hp.length_eq
     rw [h0] at this
     simp at this
     omega
   ·rw [show (e.segment == 0)=false from by simpa using c0,cond_false] at hr
    have hp1:spec_rkPlaces_p fuel e.results=some (plN e.results fuel e.entrants.length 0):=by
     have:=rkPlaces_l hR fuel (by omega) e.results 0 [] (by omega) (by have:=hR.len;simp;omega)
     rw [List.nil_append,hlen] at this
     exact this
    rw [bnd hp1] at hr
    have hq:=evDraw_l e hpart fuel e e.entrants [] [] [] rfl (by have:=hpart.1.2.2;simp;omega) (by have:=hpart.1.2.2;simp;omega)
    rw [List.length_nil,List.nil_append,List.nil_append] at hq
    rw [hq,spec_evDraw_l1,hS] at hr
    have hz:OrderOk ((thS e e.entrants).map fun x=>x.skater):=by
     refine ⟨fun s hs=>?_,?_,by rw [List.length_map];exact h40⟩
     ·obtain ⟨x,hx,rfl⟩:=List.mem_map.1 hs;exact (hE.1 x hx).1
     ·rw [List.pairwise_map];exact hE.2.1.imp fun h=>h.1
    obtain ⟨q,r1,r2,r3⟩:=same_OrderByPlaces [e.key,e.segment] (fun x hx=>by simp at hx;omega) (by simp) ((thS e e.entrants).map fun x=>x.skater) (thP e fuel e.entrants 0) hz (by rw [thP_len,List.length_map]) (thP_in e hR fuel (by omega) e.entrants 0 (by omega)) S (by omega) fuel hf
    rw [bnd r1] at hr
    unfold spec_evIf_p at hr
    simp only [Bool.not_true,cond_false] at hr
    cases hr
    have:=ok_draw h ho hlt q (fun s=>by rw [r3.mem_iff];exact hmem s) (r3.nodup_iff.2 hnd)
    refine ⟨by rw [← hS];exact this,fun h0=>?_,rfl⟩
    have h0:q=[]:=h0
    have:=r3.length_eq
    rw [h0] at this
    simp at this
    omega
theorem ev_asked (e:Event) (s:Step) (hb:nEvent e ≤ 1048576) (fuel:Nat) (hf:1048576 < fuel) {r:Event × Bool} (hr:spec_evAsked_p fuel e s=some r) (ht:r.2=true):EvOk e∧e.segment < e.segments∧spec_evGood_p fuel e=some true:=by
 rcases both_event e hb fuel hf with ⟨h1,_,h3⟩ | ⟨h1,_⟩
 ·by_cases hlt:e.segment < e.segments
  ·exact ⟨h3,hlt,h1⟩
  ·rw [asked_over e _ fuel h1 hlt h3.1.2.2.2.1.2] at hr
   cases hr;cases ht
 ·rw [asked_bad e _ fuel h1] at hr
  cases hr;cases ht
theorem enter_case (e:Event) (hb:nEvent e ≤ 1048576) (x:Entrant) (fuel:Nat) (hf:1048576 < fuel):∃ r:Event × Bool,spec_EnterSkater_p fuel e x=some r∧impl_EnterSkater_p fuel e x=some r∧nEvent r.1 ≤ 1048581∧(r.2=true→EvOk r.1):=by
 obtain ⟨r,r1,r2,r3⟩:=same_EnterSkater e hb x fuel hf
 refine ⟨r,r1,r2,r3,fun ht=>?_⟩
 unfold spec_EnterSkater_p at r1
 rw [st_id] at r1
 obtain ⟨h,hlt,hg⟩:=ev_asked e _ hb fuel hf r1 ht
 rw [asked e _ fuel hg hlt] at r1
 exact enter_res h hlt _ fuel hf r1 ht
theorem leave_case (e:Event) (hb:nEvent e ≤ 1048576) (s:Int) (fuel:Nat) (hf:1048576 < fuel):∃ r:Event × Bool,spec_LeaveEvent_p fuel e s=some r∧impl_LeaveEvent_p e s=some r∧nEvent r.1 ≤ 1048581∧(r.2=true→EvOk r.1∧s ∈ r.1.gone∧s ∉ e.gone):=by
 obtain ⟨r,r1,r2,r3⟩:=same_LeaveEvent e hb s fuel hf
 refine ⟨r,r1,r2,r3,fun ht=>?_⟩
 unfold spec_LeaveEvent_p at r1
 rw [st_id] at r1
 obtain ⟨h,hlt,hg⟩:=ev_asked e _ hb fuel hf r1 ht
 rw [asked e _ fuel hg hlt] at r1
 exact leave_res2 h hlt s fuel hf r1 ht
theorem begin_case (e:Event) (hb:nEvent e ≤ 1048576) (fuel:Nat) (hf:1048576 < fuel):∃ r:Event × Bool,spec_BeginSegment_p fuel e=some r∧impl_BeginSegment_p fuel e=some r∧nEvent r.1 ≤ 1048620∧(r.2=true→EvOk r.1∧r.1.order ≠ []∧r.1.segment=e.segment):=by
 obtain ⟨r,r1,r2,r3⟩:=same_BeginSegment e hb fuel hf
 refine ⟨r,r1,r2,r3,fun ht=>?_⟩
 unfold spec_BeginSegment_p at r1
 rw [st_id] at r1
 obtain ⟨h,hlt,hg⟩:=ev_asked e _ hb fuel hf r1 ht
 rw [asked e _ fuel hg hlt] at r1
 exact draw_res2 h hlt fuel hf r1 ht
theorem give_case (e:Event) (hb:nEvent e ≤ 1048576) (score:Int) (fuel:Nat) (hf:1048576 < fuel):∃ r:Event × Bool,spec_GiveScore_p fuel e score=some r∧impl_GiveScore_p fuel e score=some r∧nEvent r.1 ≤ 1048581 ∧
  (r.2=true→EvOk r.1∧EvOk e∧e.segment < e.segments∧∃ n,spec_evNext_p e=some n∧n ∈ e.order∧¬ hasE e n∧r.1.results=e.results.map (updR e score n)∧0 ≤ score):=by
 obtain ⟨r,r1,r2,r3⟩:=same_GiveScore e hb score fuel hf
 refine ⟨r,r1,r2,r3,fun ht=>?_⟩
 unfold spec_GiveScore_p at r1
 rw [st_id] at r1
 obtain ⟨h,hlt,hg⟩:=ev_asked e _ hb fuel hf r1 ht
 rw [asked e _ fuel hg hlt] at r1
 obtain ⟨k1,k2⟩:=score_res2 h hlt score fuel hf r1 ht
 exact ⟨k1,h,hlt,k2⟩
theorem next_case (e:Event) (hb:nEvent e ≤ 1048576) (fuel:Nat) (hf:1048576 < fuel) :
  (EvOk e∧e.order ≠ []∧∃ n,spec_evNext_p e=some n∧spec_NextSkater_p fuel e=some (n,true)∧impl_NextSkater_p e=some (n,true)) ∨ (¬ (EvOk e∧e.order ≠ [])∧∃ r,spec_NextSkater_p fuel e=some (r,false)∧impl_NextSkater_p e=some (r,false)):=by
 obtain ⟨q,q1,q2⟩:=same_NextSkater e hb fuel hf
 have hs:=q1
 unfold spec_NextSkater_p at hs
 obtain ⟨b,b1,b2⟩:=ret_evGood e hb fuel hf
 rw [bnd b1] at hs
 cases b
 ·cases hs;exact .inr ⟨fun h=>absurd (b2.2 h.1) (by simp),_,q1,q2⟩
 ·have h:=b2.1 rfl
  by_cases ho:e.order=[]
  ·rw [ho] at hs
   cases hs;exact .inr ⟨fun h=>h.2 ho,_,q1,q2⟩
  ·have:=List.length_pos_iff.2 ho
   rw [show ((e.order.length:Int) == 0)=false from by simp only [beq_eq_false_iff_ne,ne_eq];omega] at hs
   simp only [Bool.not_true,Bool.or_false,cond_false] at hs
   obtain ⟨n,n1,hs⟩:=Option.bind_eq_some_iff.1 hs
   cases hs
   exact .inl ⟨h,ho,n,n1,q1,q2⟩
theorem allowed_case (e:Event) (hb:nEvent e ≤ 1048576) (fuel:Nat) (hf:1048576 < fuel) :
  (EvOk e∧∃ l d,spec_AllowedSteps_p fuel e=some (l,true)∧impl_AllowedSteps_p fuel e=some (l,true)∧spec_BeginSegment_p fuel e=some d∧(3 ∈ l↔d.2=true)∧(4 ∈ l↔e.order ≠ [])) ∨ (¬ EvOk e∧∃ r,spec_AllowedSteps_p fuel e=some (r,false)∧impl_AllowedSteps_p fuel e=some (r,false)):=by
 obtain ⟨q,q1,q2,_⟩:=same_AllowedSteps e hb fuel hf
 obtain ⟨b1,_⟩:=sizes_E hb
 have hs:=q1
 unfold spec_AllowedSteps_p at hs
 obtain ⟨b,c1,c2⟩:=ret_evGood e hb fuel hf
 rw [bnd c1] at hs
 cases b
 ·cases hs;exact .inr ⟨fun h=>absurd (c2.2 h) (by simp),_,q1,q2⟩
 ·have h:=c2.1 rfl
  left
  refine ⟨h,?_⟩
  obtain ⟨d,d1,_⟩:=same_BeginSegment e hb fuel hf
  have d1':=d1
  unfold spec_BeginSegment_p at d1
  rw [st_id] at d1
  simp only [Bool.not_true,cond_false] at hs
  by_cases hlt:e.segment < e.segments
  ·rw [asked e _ fuel c1 hlt] at d1
   have d1:spec_evDraw_p fuel e=some d:=d1
   rw [show (e.segment == e.segments)=false from by simp only [beq_eq_false_iff_ne,ne_eq];omega,cond_false,bnd (show spec_evThere_p e=some (thS e e.entrants) from there_eq e b1),bnd d1,bnd d1] at hs
   have ho:decide ((e.order.length:Int) > 0)=true↔e.order ≠ []:=by rw [decide_eq_true_eq,← List.length_pos_iff];omega
   revert hs
   cases hd:d.2 <;> cases hq:decide ((e.order.length:Int) > 0) <;> cases decide (((thS e e.entrants).length:Int) > 0) <;> intro hs <;> cases hs <;> refine ⟨_,d,q1,q2,d1',?_,?_⟩ <;> rw [hq] at ho <;> simp [hd] <;> simpa using ho
  ·rw [asked_over e _ fuel c1 hlt h.1.2.2.2.1.2] at d1
   rw [show (e.segment == e.segments)=true from by simp only [beq_iff_eq];have:=h.1.2.2.2.1.2;omega,cond_true] at hs
   cases hs
   refine ⟨_,d,q1,q2,d1',?_,?_⟩
   ·cases d1;simp
   ·constructor
    ·intro h;simp at h
    ·intro ho;exact absurd ⟨by have:=h.1.2.2.2.1.2;omega,ho⟩ h.2.1
theorem miss_at {l:List Int} (hp:l.Pairwise missE) {k:Nat} (hk:k < l.length) (hN:(l.filter fun x=>decide (x ≥ 0)).length=k):l[k] < 0:=by
 have h1:=(prefix_iff (fun x=>x ≥ 0) l).1 (hp.imp fun {a b} h hb=>by unfold missE at h;omega)
 rw [hN] at h1
 have:=mt (h1 k hk).1 (by omega)
 omega
theorem given_miss {e:Event} (h:EvOk e) {n:Int} (hn:n ∈ e.order) (hh:¬ hasE e n) {r:Result} (hr:r ∈ e.results) (hs:r.skater=n) (hlt:e.segment < e.segments):∃ hk:e.segment.toNat < r.scores.length,r.scores[e.segment.toNat] < 0:=by
 have hseg:=h.1.2.2.2.1
 have hpart:=h.1.2.2.2.2.2.1
 have hlen:=hpart.2.2.2.2.1 r hr
 have hres:=hpart.2.2.1.1 r hr
 have hk:e.segment.toNat < r.scores.length:=by omega
 refine ⟨hk,miss_at hres.2.2.2 hk ?_⟩
 have hsc:scR e.results n=(totR r).2:=by rw [← hs];exact scR_mem hpart.2.2.1.2.1 r hr
 have hev:=h.2.2.1 r hr
 rw [hs] at hev
 unfold hasE at hh
 rw [hsc] at hh
 have hg:n ∉ e.gone:=fun hg=>by
  have:=(hev.2.1 hg).2
  rcases this with q | q
  ·exact hh q
  ·exact q hn
 have h3:=(hev.2.2 hg).1.1
 have hc:=cnt_eq r.scores 0 0 (by omega) (by have:=hres.2.1;omega)
 have:(totR r).2=((r.scores.filter fun x=>decide (x ≥ 0)).length:Int):=by
  unfold totR;rw [hc];omega
 omega

end Go.Proofs.YtegdphhfimaieabGreat

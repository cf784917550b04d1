/- Plain lemmas: what the functions compute is what the reference says, in plain Lean. No condition. -/
import Derived.Test.YtegdphhfimaieabGreatPDraw10
set_option maxRecDepth 4000
set_option maxHeartbeats 1000000
set_option linter.unusedVariables false
set_option linter.unusedSimpArgs false
set_option linter.unusedSectionVars false

namespace Go.Proofs.YtegdphhfimaieabGreat
open Go.AM

theorem st_id (o:Option (Event × Bool)):(o.bind fun x=>some (Event.mk x.1.segments x.1.size x.1.key x.1.entrants x.1.gone x.1.segment x.1.order x.1.results,x.2))=o:=by
 cases o <;> rfl
theorem asked_step (e:Event) (s:Step) (fuel:Nat) (hg:spec_evGood_p fuel e=some true):spec_evAsked_p fuel e s=spec_evStep_p fuel e s:=by
 unfold spec_evAsked_p
 rw [bnd hg]
 simp only [Bool.not_true,cond_false]
 exact st_id _
theorem n_ok {e:Event} (h:EvOk e):nEvent e ≤ 2000:=by
 obtain ⟨l1,l2,l3,l4⟩:=ev_lens h.1.2.2.2.2.2.1
 have l5:=h.1.2.2.2.2.1.2.2
 have hs:∀ l:List Result,(∀ r ∈ l,r.scores.length ≤ 3)→nResultS l ≤ 4 * l.length:=by
  intro l hl
  unfold nResultS
  have:(l.map fun x=>nResult x).sum ≤ 3 * l.length:=by
   induction l with
   | nil=>simp
   | cons y l ih =>
    have:=ih fun r hr=>hl r (by simp [hr])
    have h2:nResult y ≤ 3:=hl y (by simp)
    simp only [List.map_cons,List.sum_cons,List.length_cons]
    omega
  omega
 have:=hs e.results fun r hr=>(l4 r hr).2
 unfold nEvent nEntrantS nIntS
 omega
theorem enter_res {e:Event} (h:EvOk e) (hlt:e.segment < e.segments) (x:Entrant) (fuel:Nat) (hf:1048576 < fuel) {r:Event × Bool} (hr:spec_evEnter_p fuel e x=some r) (ht:r.2=true):EvOk r.1:=by
 have hb:nEvent e ≤ 1048576:=by have:=n_ok h;omega
 obtain ⟨b1,b2,b3,b4,b5,b6⟩:=sizes_E hb
 have hsegs:=h.1.1
 unfold spec_evEnter_p at hr
 have hl:=h.1.2.2.2.2.2.1.1.2.2
 rw [bnd (evOwn_eq e hb),fits_of (by simp;omega),need_t,Option.bind_some] at hr
 cases hc:(decide (e.segment > 0) || decide ((e.order.length:Int) > 0))
 ·rw [hc] at hr
  simp only [Bool.not_false,opt_t,Bool.false_or] at hr
  obtain ⟨b,e1,e2⟩:=ret_soEntrants (e.entrants++[x]) (by simp;omega)
  rw [bnd e1] at hr
  cases b
  ·cases hr;cases ht
  ·simp only [Bool.not_true,cond_false] at hr
   obtain ⟨n,hn⟩:∃ n:Nat,e.segments=(n:Int):=⟨e.segments.toNat,by omega⟩
   obtain ⟨k1,_⟩:=enter_l e x n hn (by omega) b4 n 0 fuel (by omega) (by omega)
   have hq:=k1.symm.trans hr
   cases hq
   rw [Bool.or_eq_false_iff,decide_eq_false_iff_not,decide_eq_false_iff_not] at hc
   have hs0:=h.1.2.2.2.1.1
   exact ok_enter h x (by omega) (List.eq_nil_of_length_eq_zero (by omega)) (e2.1 rfl) n hn
 ·rw [hc] at hr
  cases hr;cases ht
theorem leave_res {e:Event} (h:EvOk e) (hlt:e.segment < e.segments) (s:Int) (fuel:Nat) (hf:1048576 < fuel) {r:Event × Bool} (hr:spec_evLeave_p fuel e s=some r) (ht:r.2=true):EvOk r.1:=by
 have hb:nEvent e ≤ 1048576:=by have:=n_ok h;omega
 obtain ⟨b1,b2,b3,b4,b5,b6⟩:=sizes_E hb
 have hseg:=h.1.2.2.2.1
 have hpart:=h.1.2.2.2.2.2.1
 unfold spec_evLeave_p at hr
 rw [bnd (there_eq e b1),leave_l,Bool.false_or,spec_evLeave_l1] at hr
 by_cases c:s ∈ (e.entrants.filter fun x=>decide (x.skater ∉ e.gone)).map fun x=>x.skater
 ·rw [decide_eq_true c] at hr
  simp only [Bool.not_true,cond_false] at hr
  obtain ⟨x,hx,rfl⟩:=List.mem_map.1 c
  obtain ⟨q1,q2⟩:=List.mem_filter.1 hx
  have q3:x.skater ∈ skE e:=List.mem_map.2 ⟨x,q1,rfl⟩
  have q4:x.skater ∉ e.gone:=of_decide_eq_true q2
  obtain ⟨l1,l2,l3,l4⟩:=ev_lens hpart
  obtain ⟨g,g1,g2,g3,g4⟩:=put_eq e.gone x.skater hpart.2.1.2 (by omega) fuel hf
  rw [bnd (evOwn_eq e hb),bnd g1,bnd (evHas_eq e hseg.1 x.skater)] at hr
  by_cases k:hasE e x.skater
  ·rw [decide_eq_true k] at hr
   simp only [Bool.not_true,cond_false] at hr
   obtain ⟨z,z1,z2⟩:=ok_end (mid_leave h hlt x.skater q3 q4 g g2 g3 e.order (.inl ⟨k,rfl⟩))
   rw [bnd z1] at hr
   cases hr;exact z2
  ·rw [decide_eq_false k] at hr
   simp only [Bool.not_false,cond_true] at hr
   rw [bnd (paWithout_eq e.order x.skater b3)] at hr
   obtain ⟨z,z1,z2⟩:=ok_end (mid_leave h hlt x.skater q3 q4 g g2 g3 (e.order.filter fun n=>decide (n ≠ x.skater)) (.inr ⟨k,rfl⟩))
   rw [bnd z1] at hr
   cases hr;exact z2
 ·rw [decide_eq_false c] at hr
  cases hr;cases ht
theorem score_res {e:Event} (h:EvOk e) (hlt:e.segment < e.segments) (score:Int) (fuel:Nat) (hf:1048576 < fuel) {r:Event × Bool} (hr:spec_evScore_p fuel e score=some r) (ht:r.2=true):EvOk r.1:=by
 have hb:nEvent e ≤ 1048576:=by have:=n_ok h;omega
 obtain ⟨b1,b2,b3,b4,b5,b6⟩:=sizes_E hb
 have hseg:=h.1.2.2.2.1
 have hpart:=h.1.2.2.2.2.2.1
 have hord:=h.1.2.2.2.2.1
 unfold spec_evScore_p at hr
 obtain ⟨n,n1,n2,n3⟩:=next_is e hseg.1 e.order 0 fun s hs=>by have:=hord.1 s hs;omega
 rw [bnd (show spec_evNext_p e=some n from n1)] at hr
 by_cases hn0:n=0
 ·rw [show (n == 0)=true from by simpa using hn0] at hr
  cases hr;cases ht
 ·rw [show (n == 0)=false from by simpa using hn0] at hr
  simp only [Bool.not_false,opt_t,Bool.false_or] at hr
  obtain ⟨b,e1,e2⟩:=ret_l1In score 0 100000
  rw [bnd e1] at hr
  cases b
  ·cases hr;cases ht
  ·simp only [Bool.not_true,cond_false] at hr
   rw [bnd (evOwn_eq e hb)] at hr
   obtain ⟨l1,l2,l3,l4⟩:=ev_lens hpart
   obtain ⟨s1,s2⟩:=score_l e score n hseg.1 (by omega) (fun r hr=>by have:=hpart.2.2.2.2.1 r hr;omega) e.results [] fuel (by omega) rfl
   rcases n3 with ⟨q,_⟩ | ⟨_,A,B,q,q2,q3⟩
   ·exact absurd q hn0
   obtain ⟨z,z1,z2⟩:=ok_end (mid_score h hlt score (e2.1 rfl) n A B q q2 q3)
   rw [bnd z1] at s1
   have hq:=s1.symm.trans hr
   cases hq;exact z2
theorem draw_res {e:Event} (h:EvOk e) (hlt:e.segment < e.segments) (fuel:Nat) (hf:1048576 < fuel) {r:Event × Bool} (hr:spec_evDraw_p fuel e=some r) (ht:r.2=true):EvOk r.1:=by
 have hb:nEvent e ≤ 1048576:=by have:=n_ok h;omega
 obtain ⟨b1,b2,b3,b4,b5,b6⟩:=sizes_E hb
 have hseg:=h.1.2.2.2.1
 have hsegs:=h.1.1
 have hsz:=h.1.2.1
 have hkey:=h.1.2.2.1
 have hpart:=h.1.2.2.2.2.2.1
 have hR:=rsOk hpart
 have hlen:e.results.length=e.entrants.length:=by have:=congrArg List.length hpart.2.2.2.1;unfold skE at this;simpa using this
 have hmem:∀ s,s ∈ (thS e e.entrants).map (fun x=>x.skater)↔s ∈ skE e∧s ∉ e.gone:=by
  intro s
  constructor
  ·intro hs
   obtain ⟨x,hx,rfl⟩:=List.mem_map.1 hs
   obtain ⟨q1,q2⟩:=List.mem_filter.1 hx
   exact ⟨List.mem_map.2 ⟨x,q1,rfl⟩,of_decide_eq_true q2⟩
  ·rintro ⟨q1,q2⟩
   obtain ⟨x,hx,rfl⟩:=List.mem_map.1 q1
   exact List.mem_map.2 ⟨x,List.mem_filter.2 ⟨hx,decide_eq_true q2⟩,rfl⟩
 unfold spec_evDraw_p at hr
 rw [bnd (show spec_evThere_p e=some (thS e e.entrants) from there_eq e b1)] at hr
 by_cases co:(e.order.length:Int) > 0
 ·rw [decide_eq_true co] at hr
  cases hr;cases ht
 ·rw [decide_eq_false co] at hr
  simp only [Bool.false_or] at hr
  have ho:e.order=[]:=List.eq_nil_of_length_eq_zero (by omega)
  have hE:EntrOk (thS e e.entrants):=⟨fun x hx=>hpart.1.1 x (List.mem_filter.1 hx).1,hpart.1.2.1.sublist List.filter_sublist,Nat.le_trans (List.length_filter_le _ _) hpart.1.2.2⟩
  have hnd:((thS e e.entrants).map fun x=>x.skater).Nodup:=by
   unfold List.Nodup
   rw [List.pairwise_map];exact hE.2.1.imp fun h=>h.1
  by_cases c:thS e e.entrants=[]
  ·rw [c] at hr
   cases hr;cases ht
  ·have hpos:=List.length_pos_iff.2 c
   rw [show (((thS e e.entrants).length:Int) == 0)=false from by simp only [beq_eq_false_iff_ne,ne_eq];omega] at hr
   simp only [cond_false] at hr
   rw [bnd (evOwn_eq e hb)] at hr
   obtain ⟨S,hS⟩:∃ S:Nat,e.size=(S:Int):=⟨e.size.toNat,by omega⟩
   have h40:=hE.2.2
   by_cases c0:e.segment=0
   ·rw [show (e.segment == 0)=true from by simpa using c0,cond_true,hS] at hr
    obtain ⟨q,r1,r2,r3⟩:=same_StartOrder [e.key,0] (fun x hx=>by simp at hx;omega) (by simp) hE c S (by omega) fuel hf
    rw [bnd r1] at hr
    unfold spec_evIf_p at hr
    cases hq:q.2
    ·rw [hq] at hr;cases hr;cases ht
    ·rw [hq] at hr
     simp only [Bool.not_true,cond_false] at hr
     have hp:=r3 hq
     cases hr
     have:=ok_draw h ho hlt q.1 (fun s=>by rw [hp.mem_iff];exact hmem s) (hp.nodup_iff.2 hnd)
     rw [← hS]
     exact this
   ·rw [show (e.segment == 0)=false from by simpa using c0,cond_false] at hr
    have hp1:spec_rkPlaces_p fuel e.results=some (plN e.results fuel e.entrants.length 0):=by
     have:=rkPlaces_l hR fuel (by omega) e.results 0 [] (by omega) (by have:=hR.len;simp;omega)
     rw [List.nil_append,hlen] at this
     exact this
    rw [bnd hp1] at hr
    have hq:=evDraw_l e hpart fuel e e.entrants [] [] [] rfl (by have:=hpart.1.2.2;simp;omega) (by have:=hpart.1.2.2;simp;omega)
    rw [List.length_nil,List.nil_append,List.nil_append] at hq
    rw [hq,spec_evDraw_l1,hS] at hr
    have hz:OrderOk ((thS e e.entrants).map fun x=>x.skater):=by
     refine ⟨fun s hs=>?_,?_,by rw [List.length_map];exact h40⟩
     ·obtain ⟨x,hx,rfl⟩:=List.mem_map.1 hs;exact (hE.1 x hx).1
     ·rw [List.pairwise_map];exact hE.2.1.imp fun h=>h.1
    obtain ⟨q,r1,r2,r3⟩:=same_OrderByPlaces [e.key,e.segment] (fun x hx=>by simp at hx;omega) (by simp) ((thS e e.entrants).map fun x=>x.skater) (thP e fuel e.entrants 0) hz (by rw [thP_len,List.length_map]) (thP_in e hR fuel (by omega) e.entrants 0 (by omega)) S (by omega) fuel hf
    rw [bnd r1] at hr
    unfold spec_evIf_p at hr
    simp only [Bool.not_true,cond_false] at hr
    cases hr
    have:=ok_draw h ho hlt q (fun s=>by rw [r3.mem_iff];exact hmem s) (r3.nodup_iff.2 hnd)
    rw [← hS]
    exact this
theorem same_step {e:Event} (h:EvOk e) (x:Step) (fuel:Nat) (hf:1048576 < fuel):∃ r:Event × Bool,spec_evStep_p fuel e x=some r∧impl_doStep_p fuel e x=some r∧(r.2=true→EvOk r.1):=by
 have hb:nEvent e ≤ 1048576:=by have:=n_ok h;omega
 have hg:spec_evGood_p fuel e=some true:=by
  obtain ⟨b,b1,b2⟩:=ret_evGood e hb fuel hf
  rw [b1,b2.2 h]
 have hle:=h.1.2.2.2.1.2
 obtain ⟨kd,ska,nu⟩:=x
 by_cases k1:kd=1
 ·subst k1
  obtain ⟨r,r1,r2,_⟩:=same_EnterSkater e hb (Entrant.mk ska nu) fuel hf
  unfold spec_EnterSkater_p at r1
  rw [st_id,asked_step e _ fuel hg] at r1
  refine ⟨r,r1,?_,fun ht=>?_⟩
  ·unfold impl_doStep_p
   rw [show ((1:Int) == 1)=true from rfl,cond_true,st_id];exact r2
  ·by_cases hlt:e.segment < e.segments
   ·rw [← asked_step e _ fuel hg,asked e _ fuel hg hlt] at r1
    exact enter_res h hlt _ fuel hf r1 ht
   ·rw [← asked_step e _ fuel hg,asked_over e _ fuel hg hlt hle] at r1
    cases r1;cases ht
 ·by_cases k2:kd=2
  ·subst k2
   obtain ⟨r,r1,r2,_⟩:=same_LeaveEvent e hb ska fuel hf
   unfold spec_LeaveEvent_p at r1
   rw [st_id] at r1
   have r1':spec_evAsked_p fuel e (Step.mk 2 ska nu)=some r:=by
    by_cases hlt:e.segment < e.segments
    ·rw [asked e _ fuel hg hlt] at r1 ⊢;exact r1
    ·rw [asked_over e _ fuel hg hlt hle] at r1 ⊢;exact r1
   refine ⟨r,by rw [← asked_step e _ fuel hg];exact r1',?_,fun ht=>?_⟩
   ·unfold impl_doStep_p
    rw [show ((2:Int) == 1)=false from rfl,cond_false,show ((2:Int) == 2)=true from rfl,cond_true,st_id];exact r2
   ·by_cases hlt:e.segment < e.segments
    ·rw [asked e _ fuel hg hlt] at r1'
     exact leave_res h hlt ska fuel hf r1' ht
    ·rw [asked_over e _ fuel hg hlt hle] at r1'
     cases r1';cases ht
  ·by_cases k3:kd=3
   ·subst k3
    obtain ⟨r,r1,r2,_⟩:=same_BeginSegment e hb fuel hf
    unfold spec_BeginSegment_p at r1
    rw [st_id] at r1
    have r1':spec_evAsked_p fuel e (Step.mk 3 ska nu)=some r:=by
     by_cases hlt:e.segment < e.segments
     ·rw [asked e _ fuel hg hlt] at r1 ⊢;exact r1
     ·rw [asked_over e _ fuel hg hlt hle] at r1 ⊢;exact r1
    refine ⟨r,by rw [← asked_step e _ fuel hg];exact r1',?_,fun ht=>?_⟩
    ·unfold impl_doStep_p
     rw [show ((3:Int) == 1)=false from rfl,cond_false,show ((3:Int) == 2)=false from rfl,cond_false,show ((3:Int) == 3)=true from rfl,cond_true,st_id];exact r2
    ·by_cases hlt:e.segment < e.segments
     ·rw [asked e _ fuel hg hlt] at r1'
      exact draw_res h hlt fuel hf r1' ht
     ·rw [asked_over e _ fuel hg hlt hle] at r1'
      cases r1';cases ht
   ·by_cases k4:kd=4
    ·subst k4
     obtain ⟨r,r1,r2,_⟩:=same_GiveScore e hb nu fuel hf
     unfold spec_GiveScore_p at r1
     rw [st_id] at r1
     have r1':spec_evAsked_p fuel e (Step.mk 4 ska nu)=some r:=by
      by_cases hlt:e.segment < e.segments
      ·rw [asked e _ fuel hg hlt] at r1 ⊢;exact r1
      ·rw [asked_over e _ fuel hg hlt hle] at r1 ⊢;exact r1
     refine ⟨r,by rw [← asked_step e _ fuel hg];exact r1',?_,fun ht=>?_⟩
     ·unfold impl_doStep_p
      rw [show ((4:Int) == 1)=false from rfl,cond_false,show ((4:Int) == 2)=false from rfl,cond_false,show ((4:Int) == 3)=false from rfl,cond_false,show ((4:Int) == 4)=true from rfl,cond_true,st_id];exact r2
     ·by_cases hlt:e.segment < e.segments
      ·rw [asked e _ fuel hg hlt] at r1'
       exact score_res h hlt nu fuel hf r1' ht
      ·rw [asked_over e _ fuel hg hlt hle] at r1'
       cases r1';cases ht
    ·have b1:(kd == 1)=false:=by simpa using k1
     have b2:(kd == 2)=false:=by simpa using k2
     have b3:(kd == 3)=false:=by simpa using k3
     have b4:(kd == 4)=false:=by simpa using k4
     refine ⟨(noE,false),?_,?_,fun ht=>by cases ht⟩
     ·rw [← asked_step e _ fuel hg]
      by_cases hlt:e.segment < e.segments
      ·rw [asked e _ fuel hg hlt]
       dsimp only
       rw [b1,b2,b3,b4];rfl
      ·rw [asked_over e _ fuel hg hlt hle]
     ·unfold impl_doStep_p
      dsimp only
      rw [b1,b2,b3,b4];rfl

end Go.Proofs.YtegdphhfimaieabGreat

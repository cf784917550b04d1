/- Plain lemmas: what the functions compute is what the reference says, in plain Lean. No condition. -/
import Derived.Test.YtegdphhfimaieabGreatPDraw9
set_option maxRecDepth 4000
set_option maxHeartbeats 1000000
set_option linter.unusedVariables false
set_option linter.unusedSimpArgs false
set_option linter.unusedSectionVars false

namespace Go.Proofs.YtegdphhfimaieabGreat
open Go.AM

theorem thP_in (e:Event) (h:RsOk e.results) (fuel:Nat) (hf:5 < fuel):∀ (ys:List Entrant) (k:Nat),k+ys.length ≤ e.results.length→∀ x ∈ thP e fuel ys k,1 ≤ x∧x ≤ 99:=by
 intro ys
 induction ys with
 | nil=>intro k _ x hx;simp [thP] at hx
 | cons y ys ih =>
  intro k hk x hx
  simp only [List.length_cons] at hk
  rw [thP] at hx
  rcases List.mem_append.1 hx with hx | hx
  ·split at hx
   ·obtain rfl:=List.mem_singleton.1 hx
    exact plR_lt h fuel hf (k:Int) (by omega)
   ·simp at hx
  ·exact ih (k+1) (by omega) x hx
theorem same_BeginSegment (e:Event) (hb:nEvent e ≤ 1048576) (fuel:Nat) (hf:1048576 < fuel):∃ r:Event × Bool,spec_BeginSegment_p fuel e=some r∧impl_BeginSegment_p fuel e=some r∧nEvent r.1 ≤ 1048620:=by
 obtain ⟨b1,b2,b3,b4,b5,b6⟩:=sizes_E hb
 have hno:nEvent noE ≤ 1048620:=Nat.zero_le _
 have id2:∀ o:Option (Event × Bool),(o.bind fun x=>some (Event.mk x.1.segments x.1.size x.1.key x.1.entrants x.1.gone x.1.segment x.1.order x.1.results,x.2))=o:=by
  intro o;cases o <;> rfl
 unfold spec_BeginSegment_p impl_BeginSegment_p
 rw [id2]
 rcases running e hb fuel hf with ⟨h1,h2,h3⟩ | ⟨h1,h2⟩
 ·rw [bnd h2]
  have hseg:=h3.1.2.2.2.1
  have hsegs:=h3.1.1
  have hsz:=h3.1.2.1
  have hkey:=h3.1.2.2.1
  have hpart:=h3.1.2.2.2.2.2.1
  have hR:=rsOk hpart
  have hlen:e.results.length=e.entrants.length:=by have:=congrArg List.length hpart.2.2.2.1;unfold skE at this;simpa using this
  by_cases hlt:e.segment < e.segments
  ·rw [decide_eq_true hlt,asked e _ fuel h1 hlt]
   rw [show ((Step.mk 3 0 0).kind == 1)=false from rfl,cond_false,show ((Step.mk 3 0 0).kind == 2)=false from rfl,cond_false,show ((Step.mk 3 0 0).kind == 3)=true from rfl,cond_true]
   simp only [Bool.not_true,Bool.false_or]
   unfold spec_evDraw_p
   rw [bnd (show spec_evThere_p e=some (thS e e.entrants) from there_eq e b1)]
   by_cases co:(e.order.length:Int) > 0
   ·rw [decide_eq_true co]
    exact ⟨_,rfl,rfl,hno⟩
   ·rw [decide_eq_false co]
    simp only [Bool.false_or,cond_false]
    have hE:EntrOk (thS e e.entrants):=⟨fun x hx=>hpart.1.1 x (List.mem_filter.1 hx).1,hpart.1.2.1.sublist List.filter_sublist,Nat.le_trans (List.length_filter_le _ _) hpart.1.2.2⟩
    have hd:impl_drawOf_p fuel e=impl_drawOf_l1 e fuel [] 0 (thS e e.entrants) ((thS e e.entrants).map fun x=>x.skater) (thP e fuel e.entrants 0):=by
     have:=drawOf_l e hpart fuel (by omega) e.entrants [] [] [] [] rfl (by have:=hpart.1.2.2;simp;omega) (by have:=hpart.1.2.2;simp;omega) (by have:=hpart.1.2.2;simp;omega)
     unfold impl_drawOf_p
     simpa using this
    rw [hd,impl_drawOf_l1]
    by_cases c:thS e e.entrants=[]
    ·rw [c]
     exact ⟨_,rfl,rfl,hno⟩
    ·have hpos:=List.length_pos_iff.2 c
     rw [show (((thS e e.entrants).length:Int) == 0)=false from by simp only [beq_eq_false_iff_ne,ne_eq];omega]
     simp only [cond_false]
     rw [bnd (evOwn_eq e hb)]
     obtain ⟨S,hS⟩:∃ S:Nat,e.size=(S:Int):=⟨e.size.toNat,by omega⟩
     have h40:=hE.2.2
     have hn:∀ o:List Int,o.length ≤ 40→nEvent (Event.mk e.segments e.size e.key e.entrants e.gone e.segment o e.results) ≤ 1048620:=by
      intro o ho
      unfold nEvent at hb ⊢
      unfold nIntS at hb ⊢
      dsimp only
      omega
     by_cases c0:e.segment=0
     ·rw [show (e.segment == 0)=true from by simpa using c0,cond_true,cond_true,hS]
      obtain ⟨r,r1,r2,r3⟩:=same_StartOrder [e.key,0] (fun x hx=>by simp at hx;omega) (by simp) hE c S (by omega) fuel hf
      rw [bnd r1,bnd r2,Option.bind_some]
      unfold spec_evIf_p
      cases hr:r.2
      ·exact ⟨_,rfl,rfl,hno⟩
      ·simp only [Bool.not_true,cond_false]
       rw [bnd (copyEvent_eq e hb)]
       have:=(r3 hr).length_eq
       rw [List.length_map] at this
       refine ⟨_,rfl,?_,hn r.1 (by omega)⟩
       rw [hS]
     ·rw [show (e.segment == 0)=false from by simpa using c0,cond_false,cond_false]
      have hp1:spec_rkPlaces_p fuel e.results=some (plN e.results fuel e.entrants.length 0):=by
       have:=rkPlaces_l hR fuel (by omega) e.results 0 [] (by omega) (by have:=hR.len;simp;omega)
       rw [List.nil_append,hlen] at this
       exact this
      rw [bnd hp1]
      have hq:=evDraw_l e hpart fuel e e.entrants [] [] [] rfl (by have:=hpart.1.2.2;simp;omega) (by have:=hpart.1.2.2;simp;omega)
      rw [List.length_nil,List.nil_append,List.nil_append] at hq
      rw [hq,spec_evDraw_l1,hS]
      have hz:OrderOk ((thS e e.entrants).map fun x=>x.skater):=by
       refine ⟨fun s hs=>?_,?_,by rw [List.length_map];exact h40⟩
       ·obtain ⟨x,hx,rfl⟩:=List.mem_map.1 hs;exact (hE.1 x hx).1
       ·rw [List.pairwise_map];exact hE.2.1.imp fun h=>h.1
      obtain ⟨r,r1,r2,r3⟩:=same_OrderByPlaces [e.key,e.segment] (fun x hx=>by simp at hx;omega) (by simp) ((thS e e.entrants).map fun x=>x.skater) (thP e fuel e.entrants 0) hz (by rw [thP_len,List.length_map]) (thP_in e hR fuel (by omega) e.entrants 0 (by omega)) S (by omega) fuel hf
      rw [bnd r1,bnd r2,Option.bind_some]
      unfold spec_evIf_p
      simp only [Bool.not_true,cond_false]
      rw [bnd (copyEvent_eq e hb)]
      have:=r3.length_eq
      rw [List.length_map] at this
      refine ⟨_,rfl,?_,hn r (by omega)⟩
      rw [hS]
  ·rw [decide_eq_false hlt,asked_over e _ fuel h1 hlt hseg.2]
   exact ⟨_,rfl,rfl,hno⟩
 ·rw [bnd h2,asked_bad e _ fuel h1]
  exact ⟨_,rfl,rfl,hno⟩

end Go.Proofs.YtegdphhfimaieabGreat

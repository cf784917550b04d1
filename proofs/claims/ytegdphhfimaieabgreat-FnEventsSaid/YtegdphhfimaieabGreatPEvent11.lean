/- Plain lemmas: what the functions compute is what the reference says, in plain Lean. No condition. -/
import Derived.Test.YtegdphhfimaieabGreatPCur6
set_option maxRecDepth 4000
set_option maxHeartbeats 1000000
set_option linter.unusedVariables false
set_option linter.unusedSimpArgs false
set_option linter.unusedSectionVars false

namespace Go.Proofs.YtegdphhfimaieabGreat
open Go.AM

def stpE (fuel:Nat) (e:Event) (y:Step):Event × Bool:=(spec_evStep_p fuel e y).getD (noE,false)
def runE (fuel:Nat):List Step→Event→Event × Nat
 | [],e=>(e,0)
 | y::ys,e=>cond (stpE fuel e y).2 ((runE fuel ys (stpE fuel e y).1).1,(runE fuel ys (stpE fuel e y).1).2+1) (e,0)
theorem stp_eq {e:Event} (h:EvOk e) (y:Step) (fuel:Nat) (hf:1048576 < fuel):spec_evStep_p fuel e y=some (stpE fuel e y)∧impl_doStep_p fuel e y=some (stpE fuel e y)∧((stpE fuel e y).2=true→EvOk (stpE fuel e y).1):=by
 obtain ⟨r,r1,r2,r3⟩:=same_step h y fuel hf
 have:stpE fuel e y=r:=by unfold stpE;rw [r1];rfl
 rw [this]
 exact ⟨r1,r2,r3⟩
theorem runE_len (fuel:Nat):∀ (l:List Step) (e:Event),(runE fuel l e).2 ≤ l.length:=by
 intro l
 induction l with
 | nil=>intro e;exact Nat.le_refl _
 | cons y l ih =>
  intro e
  rw [runE]
  cases (stpE fuel e y).2
  ·exact Nat.zero_le _
  ·have:=ih (stpE fuel e y).1
   rw [cond_true,List.length_cons]
   dsimp only
   omega
theorem runE_ok (fuel:Nat) (hf:1048576 < fuel):∀ (l:List Step) (e:Event),EvOk e→EvOk (runE fuel l e).1:=by
 intro l
 induction l with
 | nil=>intro e h;exact h
 | cons y l ih =>
  intro e h
  rw [runE]
  cases hc:(stpE fuel e y).2
  ·exact h
  ·exact ih _ ((stp_eq h y fuel hf).2.2 hc)
theorem runE_eq (L:List Step) (fuel:Nat) (hf:1048576 < fuel):∀ (ys:List Step) (k:Nat) (e:Event),EvOk e→k+ys.length=L.length →
  spec_RunSteps_l1 L fuel ys k e.segments e.size e.key e.entrants e.gone e.segment e.order e.results=some ((runE fuel ys e).1,((k+(runE fuel ys e).2:Nat):Int),true) ∧
  impl_RunSteps_l1 L fuel ys k e.segments e.size e.key e.entrants e.gone e.segment e.order e.results=some ((runE fuel ys e).1,((k+(runE fuel ys e).2:Nat):Int),true):=by
 intro ys
 induction ys with
 | nil =>
  intro k e h hk
  rw [spec_RunSteps_l1,impl_RunSteps_l1,runE]
  simp only [List.length_nil,Nat.add_zero] at hk
  dsimp only
  rw [Nat.add_zero,hk]
  exact ⟨rfl,rfl⟩
 | cons y ys ih =>
  intro k e h hk
  simp only [List.length_cons] at hk
  obtain ⟨r1,r2,r3⟩:=stp_eq h y fuel hf
  rw [spec_RunSteps_l1,impl_RunSteps_l1,show (Event.mk e.segments e.size e.key e.entrants e.gone e.segment e.order e.results)=e from rfl,bnd r1,bnd r2,runE]
  cases hc:(stpE fuel e y).2
  ·exact ⟨rfl,rfl⟩
  ·simp only [Bool.not_true,cond_false,cond_true]
   have:=ih (k+1) (stpE fuel e y).1 (r3 hc) (by omega)
   rw [show k+1+(runE fuel ys (stpE fuel e y).1).2=k+((runE fuel ys (stpE fuel e y).1).2+1) from by omega] at this
   exact this
theorem run_case (e:Event) (hb:nEvent e ≤ 1048576) (l:List Step) (fuel:Nat) (hf:1048576 < fuel) :
  (EvOk e∧l.length ≤ 120∧spec_RunSteps_p fuel e l=some ((runE fuel l e).1,((runE fuel l e).2:Int),true)∧impl_RunSteps_p fuel e l=some ((runE fuel l e).1,((runE fuel l e).2:Int),true)) ∨
  (¬ (EvOk e∧l.length ≤ 120)∧∃ r n,spec_RunSteps_p fuel e l=some (r,n,false)∧impl_RunSteps_p fuel e l=some (r,n,false)):=by
 unfold spec_RunSteps_p impl_RunSteps_p
 obtain ⟨b,c1,c2⟩:=ret_evGood e hb fuel hf
 obtain ⟨b',d1,d2⟩:=ret_impl_IsEvent e hb
 obtain rfl:b=b':=Bool.eq_iff_iff.2 (c2.trans d2.symm)
 rw [bnd c1,bnd d1]
 cases b
 ·exact .inr ⟨fun h=>absurd (c2.2 h.1) (by simp),_,_,rfl,rfl⟩
 ·have h:=c2.1 rfl
  by_cases hl:(l.length:Int) > 120
  ·rw [decide_eq_true hl]
   exact .inr ⟨fun h=>by omega,_,_,rfl,rfl⟩
  ·rw [decide_eq_false hl]
   simp only [Bool.not_true,Bool.or_false,cond_false]
   rw [bnd (evOwn_eq e hb),bnd (copyEvent_eq e hb)]
   obtain ⟨k1,k2⟩:=runE_eq l fuel hf l 0 e h (by omega)
   rw [Nat.zero_add] at k1 k2
   exact .inl ⟨h,by omega,k1,k2⟩
theorem run_split (fuel:Nat):∀ (l:List Step) (e:Event) (j:Nat),j ≤ (runE fuel l e).2 →
  (runE fuel (l.take j) e).2=j∧runE fuel ((l.drop j).take ((runE fuel l e).2 - j)) (runE fuel (l.take j) e).1=((runE fuel l e).1,(runE fuel l e).2 - j)∧(∀ y,l[(runE fuel l e).2]?=some y→(stpE fuel (runE fuel l e).1 y).2=false):=by
 intro l
 induction l with
 | nil =>
  intro e j hj
  have:j=0:=by simpa [runE] using hj
  subst this
  exact ⟨rfl,rfl,fun y hy=>by simp at hy⟩
 | cons y l ih =>
  intro e j hj
  rw [runE] at hj ⊢
  cases hc:(stpE fuel e y).2
  ·rw [hc] at hj
   have:j=0:=by simpa using hj
   subst this
   refine ⟨rfl,rfl,fun z hz=>?_⟩
   simp only [cond_false,List.getElem?_cons_zero] at hz
   cases hz
   exact hc
  ·rw [hc] at hj
   rw [cond_true] at hj ⊢
   dsimp only at hj ⊢
   cases j with
   | zero =>
    obtain ⟨_,h2,h3⟩:=ih (stpE fuel e y).1 0 (Nat.zero_le _)
    refine ⟨rfl,?_,fun z hz=>h3 z (by simpa using hz)⟩
    rw [List.drop_zero,Nat.sub_zero,List.take_zero,List.take_succ_cons,runE,runE,hc,cond_true]
    rw [List.drop_zero,Nat.sub_zero,List.take_zero,runE] at h2
    rw [h2]
   | succ j =>
    obtain ⟨h1,h2,h3⟩:=ih (stpE fuel e y).1 j (by omega)
    rw [List.take_succ_cons,List.drop_succ_cons,runE,hc,cond_true]
    dsimp only
    rw [show (runE fuel l (stpE fuel e y).1).2+1 - (j+1)=(runE fuel l (stpE fuel e y).1).2 - j from by omega]
    exact ⟨by rw [h1],h2,fun z hz=>h3 z (by simpa using hz)⟩
theorem sliceLH_of {α:Type} {l:List α} {i j:Int} {a b:Nat} (hi:i=(a:Int)) (hj:j=(b:Int)) (h1:a ≤ b) (h2:b ≤ l.length):sliceLH l i j=some ((l.drop a).take (b - a)):=by
 subst hi;subst hj
 unfold sliceLH
 rw [if_pos (by omega),Int.toNat_natCast,Int.toNat_natCast,List.drop_take]
theorem place_is {l:List Result} (h:RsOk l) (fuel:Nat) (hf:5 < fuel) {i:Int} {b:Result} (b1:b ∈ l) (b2:getI l i=some b):∀ (ys:List Result) (k:Nat) (v:Int),(∀ r ∈ ys,r ∈ l)→0 ≤ v→v+(ys.length:Int) ≤ 1000 →
  spec_rkPlace_l1 l i fuel ys k v=some (v+((ys.filter fun y=>decide (keyR y > keyR b)).length:Int)):=by
 intro ys
 induction ys with
 | nil=>intro k v _ _ _;rw [spec_rkPlace_l1];simp
 | cons y ys ih =>
  intro k v hm h0 h1
  simp only [List.length_cons] at h1
  have hy:=hm y (by simp)
  rw [spec_rkPlace_l1,bnd b2,bnd (spec_cmp (h.ok y hy) (h.ok b b1) (h.eqs y hy b b1) fuel hf)]
  by_cases hc:keyR y > keyR b
  ·have:sg (keyR y - keyR b) > 0:=by unfold sg;rw [if_pos (by omega)];omega
   rw [decide_eq_true this,cond_true,w64_in (by omega),ih (k+1) _ (fun r hr=>hm r (by simp [hr])) (by omega) (by omega),List.filter_cons_of_pos (by simpa using hc),List.length_cons]
   congr 1;omega
  ·have:¬ sg (keyR y - keyR b) > 0:=by unfold sg;rw [if_neg (by omega)];split <;> omega
   rw [decide_eq_false this,cond_false,ih (k+1) _ (fun r hr=>hm r (by simp [hr])) h0 (by omega),List.filter_cons_of_neg (by simpa using hc)]
theorem plR_le {l:List Result} (h:RsOk l) (fuel:Nat) (hf:5 < fuel) {i j:Int} (hi:0 ≤ i∧i < (l.length:Int)) (hj:0 ≤ j∧j < (l.length:Int)) (ha:AH l i j):plR l fuel i ≤ plR l fuel j:=by
 obtain ⟨a,a1,a2,a3,_⟩:=at_idx hi
 obtain ⟨b,b1,b2,b3,_⟩:=at_idx hj
 have hl:=h.len
 have e1:=place_is h fuel hf a1 a2 l 0 1 (fun _ h=>h) (by omega) (by omega)
 have e2:=place_is h fuel hf b1 b2 l 0 1 (fun _ h=>h) (by omega) (by omega)
 have p1:plR l fuel i=1+((l.filter fun y=>decide (keyR y > keyR a)).length:Int):=by unfold plR;rw [show spec_rkPlace_p fuel l i=_ from e1];rfl
 have p2:plR l fuel j=1+((l.filter fun y=>decide (keyR y > keyR b)).length:Int):=by unfold plR;rw [show spec_rkPlace_p fuel l j=_ from e2];rfl
 have hk:keyR a ≥ keyR b:=by
  unfold AH at ha
  rw [a3,b3] at ha
  omega
 have key:∀ m:List Result,(m.filter fun y=>decide (keyR y > keyR a)).length ≤ (m.filter fun y=>decide (keyR y > keyR b)).length:=by
  intro m
  induction m with
  | nil=>simp
  | cons y m ih =>
   by_cases c:keyR y > keyR a
   ·rw [List.filter_cons_of_pos (by simpa using c),List.filter_cons_of_pos (by simp;omega),List.length_cons,List.length_cons];omega
   ·rw [List.filter_cons_of_neg (by simpa using c)]
    by_cases d:keyR y > keyR b
    ·rw [List.filter_cons_of_pos (by simpa using d),List.length_cons];omega
    ·rw [List.filter_cons_of_neg (by simpa using d)];exact ih
 have:=key l
 omega
theorem standings_case (e:Event) (hb:nEvent e ≤ 1048576) (fuel:Nat) (hf:1048576 < fuel) :
  (∃ o:List Int,RsOk e.results∧(∀ i ∈ o,0 ≤ i∧i < (e.results.length:Int))∧o.length ≤ 40∧o.Pairwise (AH e.results)∧spec_StandingsOf_p fuel e=some (o.map (sx e.results),o.map (plR e.results fuel),true)∧impl_StandingsOf_p fuel e=some (o.map (sx e.results),o.map (plR e.results fuel),true) ∧
   spec_OrderOfResults_p fuel e.results=some (o,true)∧impl_OrderOfResults_p fuel e.results=some (o,true)) ∨
  (∃ a b,spec_StandingsOf_p fuel e=some (a,b,false)∧impl_StandingsOf_p fuel e=some (a,b,false)):=by
 unfold spec_StandingsOf_p impl_StandingsOf_p spec_OrderOfResults_p impl_OrderOfResults_p
 obtain ⟨b1,b2,b3,b4,b5,b6⟩:=sizes_E hb
 rcases both_event e hb fuel hf with ⟨h1,h2,h3⟩ | ⟨h1,h2⟩
 ·rw [bnd h1,bnd h2]
  simp only [Bool.not_true,cond_false]
  have hR:=h3.1.2.2.2.2.2.1.2.2.1
  have h:=rsOk h3.1.2.2.2.2.2.1
  obtain ⟨g,g1,g2⟩:=ret_rkGood e.results b4
  obtain ⟨k,k1,k2⟩:=ret_AreResults e.results b4 b5
  obtain rfl:=g2.2 hR
  obtain rfl:=k2.2 hR
  obtain ⟨q,q1,q2,q3⟩:=rkOrder_l1 h fuel (by omega) e.results [] [] rfl (by simp [idxs]) List.Pairwise.nil
  have hq:=rkOrder_eq h fuel (by omega)
  have hqo:q=mergeF (cfO fuel e.results) (idxs e.results.length):=Option.some.inj (q1.symm.trans hq)
  rw [bnd g1,bnd k1]
  simp only [Bool.not_true,cond_false]
  rw [bnd hq,bnd (orderOf_eq h fuel (by omega)),bnd hq,bnd (orderOf_eq h fuel (by omega)),← hqo]
  have hm:∀ i ∈ q,0 ≤ i∧i < (e.results.length:Int):=fun i hi=>(mem_idxs _ i).1 (q2.mem_iff.1 hi)
  have hl:q.length=e.results.length:=by rw [q2.length_eq];unfold idxs;simp
  have h40:=h.len
  rw [standings_s e h fuel (by omega) q 0 [] [] hm (by simp;omega) (by simp;omega),standings_i e h fuel (by omega) q hm (by omega) q 0 [] hm (by simp;omega)]
  exact .inl ⟨q,h,hm,by omega,q3,rfl,rfl,rfl,rfl⟩
 ·rw [bnd h1,bnd h2]
  exact .inr ⟨_,_,rfl,rfl⟩
theorem newEvent_case (a b c:Int) (fuel:Nat) (hf:1048576 < fuel):∃ r:Event × Bool,spec_NewEvent_p fuel a b c=some r∧impl_NewEvent_p a b c=some r∧(r.2=true→EvOk r.1):=by
 obtain ⟨r,r1,r2,_⟩:=same_NewEvent a b c fuel (by omega)
 refine ⟨r,r1,r2,fun ht=>?_⟩
 unfold spec_NewEvent_p at r1
 obtain ⟨g,g1,g2⟩:=ret_evGood (Event.mk a b c [] [] 0 [] []) (by show (0:Nat) ≤ _;omega) fuel hf
 rw [bnd g1] at r1
 cases g
 ·cases r1;cases ht
 ·cases r1;exact g2.1 rfl
theorem drawRun_l1 (x5 x7 x9:L1Cur × Int) (c:L1Cur) (v:Int) (hv:0 ≤ v∧v ≤ 1):∀ (n f:Nat) (l:List Step),((120+v) - (l.length:Int)).toNat=n→n < f→l.length ≤ 121 →
  ∃ r,spec_DrawRunSteps_l1 x5 x7 x9 (c,v) f l=some r∧r.2.length ≤ 121∧nEvent r.1 ≤ 3000:=by
 intro n
 induction n with
 | zero =>
  intro f l h hf h4
  obtain ⟨f,rfl⟩:=Nat.exists_eq_succ_of_ne_zero (by omega:f ≠ 0)
  rw [spec_DrawRunSteps_l1]
  dsimp only
  rw [w64_in (n:=120+v) (by omega),decide_eq_false (by omega)]
  exact ⟨_,rfl,h4,Nat.zero_le _⟩
 | succ n ih =>
  intro f l h hf h4
  obtain ⟨f,rfl⟩:=Nat.exists_eq_succ_of_ne_zero (by omega:f ≠ 0)
  rw [spec_DrawRunSteps_l1]
  dsimp only
  rw [w64_in (n:=120+v) (by omega),decide_eq_true (by omega),cond_true,fits_of (by simp;omega),need_t,Option.bind_some]
  exact ih f _ (by simp;omega) (by omega) (by simp;omega)
theorem drawRun_l2 (c0:L1Cur) (E:Event) (hE:nEvent E ≤ 3000) (c:L1Cur) (v:Int) (hv:0 ≤ v∧v ≤ 1):∀ (n f:Nat) (l:List Step),((120+v) - (l.length:Int)).toNat=n→n < f→l.length ≤ 121 →
  ∃ r,spec_DrawRunSteps_l2 (c0,E) (c,v) f l=some r∧r.2.length ≤ 121∧nEvent r.1 ≤ 3000:=by
 intro n
 induction n with
 | zero =>
  intro f l h hf h4
  obtain ⟨f,rfl⟩:=Nat.exists_eq_succ_of_ne_zero (by omega:f ≠ 0)
  rw [spec_DrawRunSteps_l2]
  dsimp only
  rw [w64_in (n:=120+v) (by omega),decide_eq_false (by omega)]
  exact ⟨_,rfl,h4,hE⟩
 | succ n ih =>
  intro f l h hf h4
  obtain ⟨f,rfl⟩:=Nat.exists_eq_succ_of_ne_zero (by omega:f ≠ 0)
  rw [spec_DrawRunSteps_l2]
  dsimp only
  rw [w64_in (n:=120+v) (by omega),decide_eq_true (by omega),cond_true,fits_of (by simp;omega),need_t,Option.bind_some]
  exact ih f _ (by simp;omega) (by omega) (by simp;omega)
theorem drawRunSteps_ok {code:List Int} (hc:∀ x ∈ code,isByte x) (hl:code.length ≤ 9223372036854775807) (fuel:Nat) (hf:1048576 < fuel):∃ E l,spec_DrawRunSteps_p fuel code=some (E,l)∧nEvent E ≤ 3000∧l.length ≤ 121:=by
 unfold spec_DrawRunSteps_p
 obtain ⟨b1,s1,E,e1,g1,k1⟩:=event_ok (s:=0) (co0 hc hl) (by omega) fuel hf
 rw [bnd e1]
 dsimp only
 obtain ⟨b2,s2,v2,e2,g2⟩:=one_ok (s:=s1) g1 (by omega) 2 (by omega)
 rw [bnd e2]
 dsimp only
 cases v2
 ·rw [cond_false]
  obtain ⟨b3,s3,l,e3,g3,k3⟩:=steps_ok (s:=s2) g2 (by omega) fuel hf
  rw [bnd e3]
  dsimp only
  obtain ⟨b4,s4,v4,e4,g4⟩:=one_ok (s:=s3) g3 (by omega) 24 (by omega)
  rw [bnd e4]
  dsimp only
  cases v4
  ·exact ⟨_,_,rfl,k1,by omega⟩
  ·rw [cond_true]
   obtain ⟨b5,s5,v5,e5,g5,l5,u5⟩:=pick_ok (s:=s4) g4 (by omega) 2 (by omega)
   rw [bnd e5]
   obtain ⟨r,q1,q2,q3⟩:=drawRun_l2 (L1Cur.mk code b1 s1) E k1 (L1Cur.mk code b5 s5) v5 (by omega) _ fuel l rfl (by omega) (by omega)
   exact ⟨r.1,r.2,q1,q3,q2⟩
 ·rw [cond_true]
  obtain ⟨b3,s3,v3,e3,g3,l3,u3⟩:=pick_ok (s:=s2) g2 (by omega) 3 (by omega)
  rw [bnd e3]
  dsimp only
  obtain ⟨b4,s4,v4,e4,g4,l4,u4⟩:=pick_ok (s:=s3) g3 (by omega) 8 (by omega)
  rw [bnd e4]
  dsimp only
  obtain ⟨b5,s5,v5,e5,g5,l5,u5⟩:=pick_ok (s:=s4) g4 (by omega) 99 (by omega)
  rw [bnd e5]
  dsimp only
  obtain ⟨b6,s6,l,e6,g6,k6⟩:=steps_ok (s:=s5) g5 (by omega) fuel hf
  rw [bnd e6]
  dsimp only
  obtain ⟨b7,s7,v7,e7,g7⟩:=one_ok (s:=s6) g6 (by omega) 24 (by omega)
  rw [bnd e7]
  dsimp only
  cases v7
  ·exact ⟨_,_,rfl,Nat.zero_le _,by omega⟩
  ·rw [cond_true]
   obtain ⟨b8,s8,v8,e8,g8,l8,u8⟩:=pick_ok (s:=s7) g7 (by omega) 2 (by omega)
   rw [bnd e8]
   obtain ⟨r,q1,q2,q3⟩:=drawRun_l1 (L1Cur.mk code b3 s3,v3) (L1Cur.mk code b4 s4,v4) (L1Cur.mk code b5 s5,v5) (L1Cur.mk code b8 s8) v8 (by omega) _ fuel l rfl (by omega) (by omega)
   exact ⟨r.1,r.2,q1,q3,q2⟩
theorem drawNewEvent_ok {code:List Int} (hc:∀ x ∈ code,isByte x) (hl:code.length ≤ 9223372036854775807):∃ a b c,spec_DrawNewEvent_p code=some (a,b,c):=by
 unfold spec_DrawNewEvent_p
 obtain ⟨b1,s1,v1,e1,g1,l1,u1⟩:=pick_ok (s:=0) (co0 hc hl) (by omega) 5 (by omega)
 rw [bnd e1]
 dsimp only
 obtain ⟨b2,s2,v2,e2,g2,l2,u2⟩:=pick_ok (s:=s1) g1 (by omega) 10 (by omega)
 rw [bnd e2]
 dsimp only
 unfold spec_l1Cur_key_p
 obtain ⟨b3,s3,v3,e3,g3,l3,u3⟩:=pick_ok (s:=s2) g2 (by omega) 60000 (by omega)
 rw [bnd e3]
 dsimp only
 obtain ⟨b4,s4,v4,e4,g4,l4,u4⟩:=pick_ok (s:=s3) g3 (by omega) 60000 (by omega)
 rw [bnd e4]
 dsimp only
 obtain ⟨b5,s5,v5,e5,g5,l5,u5⟩:=pick_ok (s:=s4) g4 (by omega) 60000 (by omega)
 rw [bnd e5]
 dsimp only
 obtain ⟨b6,s6,v6,e6,g6,_⟩:=among_ok (s:=s5) g5 (by omega) [1000000000,1000000001,(-1)] (by simp) (by simp)
 rw [bnd e6]
 dsimp only
 obtain ⟨b7,s7,v7,e7,g7,_⟩:=among_ok (s:=s6) g6 (by omega) [0,1,v3,v4,v5,v6] (by simp) (by simp)
 rw [bnd e7]
 exact ⟨_,_,_,rfl⟩

end Go.Proofs.YtegdphhfimaieabGreat

/- Plain lemmas: what the functions compute is what the reference says, in plain Lean. No condition. -/
import Derived.Test.YtegdphhfimaieabGreatPSame2
set_option maxRecDepth 4000
set_option maxHeartbeats 1000000
set_option linter.unusedVariables false
set_option linter.unusedSimpArgs false
set_option linter.unusedSectionVars false

namespace Go.Proofs.YtegdphhfimaieabGreat
open Go.AM

theorem steps_l3 (a:List Int):∀ (n f:Nat) (b m s:Int) (l:List Step),CO a b m→m+10 * (n:Int) ≤ 500000000→n < f→l.length+n ≤ 1000 →
  ∃ b' s' r,spec_l1Cur_steps_l3 f a b s l (n:Int)=some (a,b',s',r)∧CO a b' (m+10 * (n:Int))∧r.length=l.length+n:=by
 intro n
 induction n with
 | zero =>
  intro f b m s l h hm hf hl
  obtain ⟨f,rfl⟩:=Nat.exists_eq_succ_of_ne_zero (by omega:f ≠ 0)
  rw [spec_l1Cur_steps_l3,decide_eq_false (by omega),cond_false]
  exact ⟨_,_,_,rfl,h.mono (by omega),rfl⟩
 | succ n ih =>
  intro f b m s l h hm hf hl
  obtain ⟨f,rfl⟩:=Nat.exists_eq_succ_of_ne_zero (by omega:f ≠ 0)
  rw [spec_l1Cur_steps_l3,decide_eq_true (by omega),cond_true]
  obtain ⟨b1,s1,v1,e1,g1,l1,u1⟩:=pick_ok (s:=s) h (by omega) 60000 (by omega)
  rw [bnd e1]
  dsimp only
  obtain ⟨b2,s2,v2,e2,g2,_⟩:=among_ok (s:=s1) g1 (by omega) [5000,6000,6000,7000,v1] (by simp) (by simp)
  rw [bnd e2]
  dsimp only
  obtain ⟨b3,s3,v3,e3,g3⟩:=one_ok (s:=s2) g2 (by omega) 6 (by omega)
  rw [bnd e3]
  dsimp only
  rw [w64_in (n:=((n+1:Nat):Int) - 1) (by omega),show ((n+1:Nat):Int) - 1=(n:Int) from by omega]
  cases v3
  ·rw [cond_false,fits_of (by simp;omega),need_t,Option.bind_some]
   obtain ⟨b',s',r,q1,q2,q3⟩:=ih f b3 _ s3 (l++[Step.mk 4 0 v2]) g3 (by omega) (by omega) (by simp;omega)
   exact ⟨b',s',r,q1,q2.mono (by omega),by rw [q3];simp;omega⟩
  ·rw [cond_true]
   obtain ⟨b4,s4,v4,e4,g4,l4,u4⟩:=pick_ok (s:=s3) g3 (by omega) 20 (by omega)
   rw [bnd e4]
   dsimp only
   rw [fits_of (by simp;omega),need_t,Option.bind_some]
   obtain ⟨b',s',r,q1,q2,q3⟩:=ih f b4 _ s4 (l++[Step.mk 2 (w64 (3+v4)) 0]) g4 (by omega) (by omega) (by simp;omega)
   exact ⟨b',s',r,q1,q2.mono (by omega),by rw [q3];simp;omega⟩
theorem steps_l2 (fuel:Nat) (hF:1048576 < fuel) (a:List Int):∀ (n f:Nat) (b m s:Int) (l:List Step),CO a b m→m+100 * (n:Int) ≤ 400000000→n < f→l.length+10 * n ≤ 500 →
  ∃ b' s' r,spec_l1Cur_steps_l2 fuel f a b s l (n:Int)=some (L1Cur.mk a b' s',r)∧CO a b' (m+100 * (n:Int)+10)∧r.length ≤ l.length+10 * n:=by
 intro n
 induction n with
 | zero =>
  intro f b m s l h hm hf hl
  obtain ⟨f,rfl⟩:=Nat.exists_eq_succ_of_ne_zero (by omega:f ≠ 0)
  rw [spec_l1Cur_steps_l2,decide_eq_false (by omega),cond_false]
  by_cases h0:(l.length:Int) > 0
  ·rw [decide_eq_true h0,cond_true]
   obtain ⟨b1,s1,v1,e1,g1,l1,u1⟩:=pick_ok (s:=s) h (by omega) (l.length:Int) (by omega)
   rw [bnd e1]
   dsimp only
   have hlt:v1.toNat < l.length:=by omega
   have hg:getI l v1=some l[v1.toNat]:=by rw [getI_of (k:=v1.toNat) (by omega)];exact List.getElem?_eq_getElem hlt
   rw [bnd hg]
   obtain ⟨b2,s2,v2,e2,g2,l2,u2⟩:=pick_ok (s:=s1) g1 (by omega) 24 (by omega)
   rw [bnd e2]
   dsimp only
   cases v2 == 0
   ·rw [cond_false]
    cases v2 == 1
    ·exact ⟨_,_,_,rfl,g2.mono (by omega),by omega⟩
    ·rw [cond_true]
     obtain ⟨b3,s3,v3,e3,g3,_⟩:=among_ok (s:=s2) g2 (by omega) [(-1),100000,100001] (by simp) (by simp)
     rw [bnd e3]
     exact ⟨_,_,_,rfl,g3.mono (by omega),by simp⟩
   ·rw [cond_true]
    obtain ⟨b3,s3,v3,e3,g3,_⟩:=among_ok (s:=s2) g2 (by omega) [0,1,4,5] (by simp) (by simp)
    rw [bnd e3]
    exact ⟨_,_,_,rfl,g3.mono (by omega),by simp⟩
  ·rw [decide_eq_false h0,cond_false]
   exact ⟨_,_,_,rfl,h.mono (by omega),by omega⟩
 | succ n ih =>
  intro f b m s l h hm hf hl
  obtain ⟨f,rfl⟩:=Nat.exists_eq_succ_of_ne_zero (by omega:f ≠ 0)
  rw [spec_l1Cur_steps_l2,decide_eq_true (by omega),cond_true,fits_of (by simp;omega),need_t,Option.bind_some]
  obtain ⟨b1,s1,v1,e1,g1,l1,u1⟩:=pick_ok (s:=s) h (by omega) 8 (by omega)
  rw [bnd e1]
  dsimp only
  obtain ⟨b2,s2,r2,e2,g2,k2⟩:=steps_l3 a v1.toNat fuel b1 _ s1 (l++[Step.mk 3 0 0]) g1 (by omega) (by omega) (by simp;omega)
  rw [show ((v1.toNat:Nat):Int)=v1 from by omega] at e2
  rw [bnd e2]
  dsimp only
  rw [w64_in (n:=((n+1:Nat):Int) - 1) (by omega),show ((n+1:Nat):Int) - 1=(n:Int) from by omega]
  have hr2:r2.length ≤ l.length+10:=by rw [k2];simp;omega
  obtain ⟨b',s',r,q1,q2,q3⟩:=ih f b2 _ s2 r2 g2 (by omega) (by omega) (by omega)
  exact ⟨b',s',r,q1,q2.mono (by omega),by omega⟩
theorem steps_l1 (fuel:Nat) (hF:1048576 < fuel) (a:List Int):∀ (n f:Nat) (b m s:Int) (l:List Step),CO a b m→m+10 * (n:Int) ≤ 300000000→n < f→l.length+n ≤ 100 →
  ∃ b' s' r,spec_l1Cur_steps_l1 fuel f a b s l (n:Int)=some (L1Cur.mk a b' s',r)∧CO a b' (m+10 * (n:Int)+500)∧r.length ≤ l.length+n+40:=by
 intro n
 induction n with
 | zero =>
  intro f b m s l h hm hf hl
  obtain ⟨f,rfl⟩:=Nat.exists_eq_succ_of_ne_zero (by omega:f ≠ 0)
  rw [spec_l1Cur_steps_l1,decide_eq_false (by omega),cond_false]
  obtain ⟨b1,s1,v1,e1,g1,l1,u1⟩:=pick_ok (s:=s) h (by omega) 4 (by omega)
  rw [bnd e1]
  dsimp only
  obtain ⟨b2,s2,r2,e2,g2,k2⟩:=steps_l2 fuel hF a v1.toNat fuel b1 _ s1 l g1 (by omega) (by omega) (by omega)
  rw [show ((v1.toNat:Nat):Int)=v1 from by omega] at e2
  exact ⟨_,_,_,e2,g2.mono (by omega),by omega⟩
 | succ n ih =>
  intro f b m s l h hm hf hl
  obtain ⟨f,rfl⟩:=Nat.exists_eq_succ_of_ne_zero (by omega:f ≠ 0)
  rw [spec_l1Cur_steps_l1,decide_eq_true (by omega),cond_true]
  obtain ⟨b1,s1,v1,e1,g1,l1,u1⟩:=pick_ok (s:=s) h (by omega) 3 (by omega)
  rw [bnd e1]
  dsimp only
  obtain ⟨b2,s2,v2,e2,g2,_⟩:=among_ok (s:=s1) g1 (by omega) [0,0,((n+1:Nat):Int)] (by simp) (by simp)
  rw [bnd e2]
  dsimp only
  rw [fits_of (by simp;omega),need_t,Option.bind_some,w64_in (n:=((n+1:Nat):Int) - 1) (by omega),show ((n+1:Nat):Int) - 1=(n:Int) from by omega]
  obtain ⟨b',s',r,q1,q2,q3⟩:=ih f b2 _ s2 (l++[Step.mk 1 (w64 ((w64 (3 * ((n+1:Nat):Int)))+v1)) v2]) g2 (by omega) (by omega) (by simp;omega)
  exact ⟨b',s',r,q1,q2.mono (by omega),by simp at q3;omega⟩
theorem steps_ok {a:List Int} {b m s:Int} (h:CO a b m) (hm:m ≤ 200000000) (fuel:Nat) (hf:1048576 < fuel):∃ b' s' l,spec_l1Cur_steps_p fuel (L1Cur.mk a b s)=some (L1Cur.mk a b' s',l)∧CO a b' (m+600)∧l.length ≤ 50:=by
 unfold spec_l1Cur_steps_p
 obtain ⟨b1,s1,v1,e1,g1,l1,u1⟩:=pick_ok (s:=s) h (by omega) 7 (by omega)
 rw [bnd e1]
 dsimp only
 obtain ⟨b2,s2,r2,e2,g2,k2⟩:=steps_l1 fuel hf a v1.toNat fuel b1 _ s1 [] g1 (by omega) (by omega) (by simp;omega)
 rw [show ((v1.toNat:Nat):Int)=v1 from by omega] at e2
 exact ⟨_,_,_,e2,g2.mono (by omega),by simp at k2;omega⟩
theorem new_ok {segments size key:Int} (h1:1 ≤ segments∧segments ≤ 3) (h2:1 ≤ size∧size ≤ 8) (h3:0 ≤ key∧key ≤ 1000000000):EvOk (Event.mk segments size key [] [] 0 [] []):=by
 refine ⟨⟨h1,h2,h3,⟨Int.le_refl _,by show 0 ≤ segments;omega⟩,⟨by simp,by simp,by simp⟩,⟨⟨by simp,by simp,by simp⟩,⟨by simp,by simp⟩,⟨by simp,by simp,by simp,by simp⟩,rfl,by simp,by simp⟩,by simp⟩,fun h=>h.2 rfl,by simp,⟨by simp,by simp⟩⟩
theorem nR_set {l:List Result} {i:Nat} {r:Result} (h:l[i]?=some r) (k:Int) (s:List Int) (hs:s.length=r.scores.length):nResultS (l.set i (Result.mk k s))=nResultS l:=by
 obtain ⟨hi,hx⟩:=List.getElem?_eq_some_iff.1 h
 unfold nResultS
 rw [List.length_set,List.map_set]
 have:(l.map fun x=>nResult x).set i (nResult (Result.mk k s))=l.map fun x=>nResult x:=by
  apply List.ext_getElem?
  intro j
  rw [List.getElem?_set]
  split
  ·rename_i e
   subst e
   rw [List.length_map,if_pos hi,List.getElem?_map,h]
   show some (nResult (Result.mk k s))=some (nResult r)
   unfold nResult nIntS
   rw [hs]
  ·rfl
 rw [this]
theorem nR_drop (l:List Result):nResultS (l.drop 1) ≤ nResultS l:=by
 cases l with
 | nil=>simp
 | cons x l=>unfold nResultS;simp only [List.drop_one,List.tail_cons,List.map_cons,List.sum_cons,List.length_cons];omega
theorem event_l1 (fuel:Nat) (hF:1048576 < fuel) (a:List Int) (b m s:Int) (l:List Step) (h:CO a b m) (hm:m ≤ 300000000):∀ (ys:List Step) (k:Nat) (e:Event),EvOk e →
  ∃ b' s' E,spec_l1Cur_event_l1 fuel (L1Cur.mk a b s,l) ys k e.segments e.size e.key e.entrants e.gone e.segment e.order e.results=some (L1Cur.mk a b' s',E)∧CO a b' (m+10)∧nEvent E ≤ 3000:=by
 intro ys
 induction ys with
 | nil =>
  intro k e he
  have hn:=n_ok he
  have hpart:=he.1.2.2.2.2.2.1
  obtain ⟨l1',l2',l3',l4'⟩:=ev_lens hpart
  rw [spec_l1Cur_event_l1,show (Event.mk e.segments e.size e.key e.entrants e.gone e.segment e.order e.results)=e from rfl,bnd (evOwn_eq e (by omega))]
  dsimp only
  obtain ⟨b1,s1,v1,e1,g1,l1,u1⟩:=pick_ok (s:=s) h (by omega) 40 (by omega)
  rw [bnd e1]
  dsimp only
  cases v1 == 0
  rotate_left
  ·rw [cond_true]
   obtain ⟨b2,s2,v2,e2,g2,_⟩:=among_ok (s:=s1) g1 (by omega) [0,1,3,4] (by simp) (by simp)
   rw [bnd e2]
   exact ⟨_,_,_,rfl,g2.mono (by omega),by show nEvent e ≤ 3000;omega⟩
  rw [cond_false]
  cases v1 == 1
  rotate_left
  ·rw [cond_true]
   obtain ⟨b2,s2,v2,e2,g2,_⟩:=among_ok (s:=s1) g1 (by omega) [0,8,9] (by simp) (by simp)
   rw [bnd e2]
   exact ⟨_,_,_,rfl,g2.mono (by omega),by show nEvent e ≤ 3000;omega⟩
  rw [cond_false]
  cases v1 == 2
  rotate_left
  ·rw [cond_true]
   obtain ⟨b2,s2,v2,e2,g2,_⟩:=among_ok (s:=s1) g1 (by omega) [(-1),1000000000,1000000001] (by simp) (by simp)
   rw [bnd e2]
   exact ⟨_,_,_,rfl,g2.mono (by omega),by show nEvent e ≤ 3000;omega⟩
  rw [cond_false]
  cases v1 == 3
  rotate_left
  ·rw [cond_true]
   obtain ⟨b2,s2,v2,e2,g2,_⟩:=pick_ok (s:=s1) g1 (by omega) 3 (by omega)
   rw [bnd e2]
   exact ⟨_,_,_,rfl,g2.mono (by omega),by show nEvent e ≤ 3000;omega⟩
  rw [cond_false]
  have hN:nEvent e=e.entrants.length+e.gone.length+e.order.length+nResultS e.results:=rfl
  cases v1 == 4
  rotate_left
  ·rw [cond_true]
   by_cases h0:(e.entrants.length:Int) > 0
   ·rw [decide_eq_true h0,cond_true]
    obtain ⟨b2,s2,v2,e2,g2,l2,u2⟩:=pick_ok (s:=s1) g1 (by omega) (e.entrants.length:Int) (by omega)
    rw [bnd e2]
    dsimp only
    have hlt:v2.toNat < e.entrants.length:=by omega
    have hg:getI e.entrants v2=some e.entrants[v2.toNat]:=by rw [getI_of (k:=v2.toNat) (by omega)];exact List.getElem?_eq_getElem hlt
    obtain ⟨g,p1,p2,p3,p4⟩:=put_eq e.gone e.entrants[v2.toNat].skater hpart.2.1.2 (by omega) fuel hF
    rw [bnd hg,bnd p1]
    exact ⟨_,_,_,rfl,g2.mono (by omega),by show e.entrants.length+g.length+e.order.length+nResultS e.results ≤ 3000;omega⟩
   ·rw [decide_eq_false h0,cond_false]
    exact ⟨_,_,_,rfl,g1.mono (by omega),by omega⟩
  rw [cond_false]
  cases v1 == 5
  rotate_left
  ·rw [cond_true]
   by_cases h0:(e.order.length:Int) > 0
   ·rw [decide_eq_true h0,cond_true,bnd (sliceLo_of (i:=1) (k:=1) rfl (by omega))]
    exact ⟨_,_,_,rfl,g1.mono (by omega),by show e.entrants.length+e.gone.length+(e.order.drop 1).length+nResultS e.results ≤ 3000;rw [List.length_drop];omega⟩
   ·rw [decide_eq_false h0,cond_false]
    exact ⟨_,_,_,rfl,g1.mono (by omega),by omega⟩
  rw [cond_false]
  have hlen:e.results.length=e.entrants.length:=by have:=congrArg List.length hpart.2.2.2.1;unfold skE at this;simpa using this
  cases v1 == 6
  rotate_left
  ·rw [cond_true]
   by_cases h0:(e.entrants.length:Int) > 0
   ·rw [decide_eq_true h0,cond_true]
    obtain ⟨b2,s2,v2,e2,g2,l2,u2⟩:=pick_ok (s:=s1) g1 (by omega) (e.entrants.length:Int) (by omega)
    rw [bnd e2]
    dsimp only
    have hlt:v2.toNat < e.results.length:=by omega
    have hgx:e.results[v2.toNat]?=some e.results[v2.toNat]:=List.getElem?_eq_getElem hlt
    have hg:getI e.results v2=some e.results[v2.toNat]:=by rw [getI_of (k:=v2.toNat) (by omega)];exact hgx
    rw [bnd hg]
    obtain ⟨b3,s3,v3,e3,g3,_⟩:=among_ok (s:=s2) g2 (by omega) [(-1),5,100000,100001] (by simp) (by simp)
    have hsc:=(l4' _ (List.getElem_mem hlt)).1
    rw [bnd e3,bnd (show getI e.results[v2.toNat].scores 0=some e.results[v2.toNat].scores[0] from getI_lt_some (k:=0) (by omega))]
    refine ⟨_,_,_,rfl,g3.mono (by omega),?_⟩
    show e.entrants.length+e.gone.length+e.order.length+nResultS (e.results.set v2.toNat _) ≤ 3000
    rw [nR_set hgx _ _ (by simp)]
    omega
   ·rw [decide_eq_false h0,cond_false]
    exact ⟨_,_,_,rfl,g1.mono (by omega),by omega⟩
  rw [cond_false]
  cases v1 == 7
  rotate_left
  ·rw [cond_true]
   by_cases h0:(e.entrants.length:Int) > 0
   ·rw [decide_eq_true h0,cond_true,bnd (sliceLo_of (i:=1) (k:=1) rfl (by omega))]
    have:=nR_drop e.results
    exact ⟨_,_,_,rfl,g1.mono (by omega),by show e.entrants.length+e.gone.length+e.order.length+nResultS (e.results.drop 1) ≤ 3000;omega⟩
   ·rw [decide_eq_false h0,cond_false]
    exact ⟨_,_,_,rfl,g1.mono (by omega),by omega⟩
  rw [cond_false]
  cases v1 == 8
  ·exact ⟨_,_,_,rfl,g1.mono (by omega),by omega⟩
  ·rw [cond_true]
   obtain ⟨b2,s2,v2,e2,g2,_⟩:=among_ok (s:=s1) g1 (by omega) [0,5,7] (by simp) (by simp)
   rw [bnd e2,fits_of (by simp;omega),need_t,Option.bind_some]
   exact ⟨_,_,_,rfl,g2.mono (by omega),by show e.entrants.length+e.gone.length+(e.order++[v2]).length+nResultS e.results ≤ 3000;rw [List.length_append,List.length_singleton];omega⟩
 | cons y ys ih =>
  intro k e he
  rw [spec_l1Cur_event_l1,show (Event.mk e.segments e.size e.key e.entrants e.gone e.segment e.order e.results)=e from rfl]
  obtain ⟨r,r1,_,r3⟩:=same_step he y fuel hF
  rw [bnd r1]
  cases hr:r.2
  ·rw [cond_false];exact ih (k+1) e he
  ·rw [cond_true];exact ih (k+1) r.1 (r3 hr)
theorem event_ok {a:List Int} {b m s:Int} (h:CO a b m) (hm:m ≤ 100000000) (fuel:Nat) (hf:1048576 < fuel):∃ b' s' E,spec_l1Cur_event_p fuel (L1Cur.mk a b s)=some (L1Cur.mk a b' s',E)∧CO a b' (m+1000)∧nEvent E ≤ 3000:=by
 unfold spec_l1Cur_event_p
 obtain ⟨b1,s1,v1,e1,g1,l1,u1⟩:=pick_ok (s:=s) h (by omega) 3 (by omega)
 rw [bnd e1]
 dsimp only
 obtain ⟨b2,s2,v2,e2,g2,k2⟩:=among_ok (s:=s1) g1 (by omega) [1,2,3,8] (by simp) (by simp)
 rw [bnd e2]
 dsimp only
 obtain ⟨b3,s3,v3,e3,g3,l3,u3⟩:=pick_ok (s:=s2) g2 (by omega) 60000 (by omega)
 rw [bnd e3]
 dsimp only
 obtain ⟨b4,s4,l,e4,g4,k4⟩:=steps_ok (s:=s3) g3 (by omega) fuel hf
 rw [bnd e4]
 dsimp only
 rw [w64_in (n:=1+v1) (by omega)]
 simp only [List.mem_cons,List.not_mem_nil,or_false] at k2
 obtain ⟨b5,s5,E,q1,q2,q3⟩:=event_l1 fuel hf a b4 _ s4 l g4 (by omega) l 0 (Event.mk (1+v1) v2 v3 [] [] 0 [] []) (new_ok (by omega) (by omega) (by omega))
 exact ⟨b5,s5,E,q1,q2.mono (by omega),q3⟩
theorem drawIsEvent_ok {code:List Int} (hc:∀ x ∈ code,isByte x) (hl:code.length ≤ 9223372036854775807) (fuel:Nat) (hf:1048576 < fuel):∃ E,spec_DrawIsEvent_p fuel code=some E∧nEvent E ≤ 3000:=by
 unfold spec_DrawIsEvent_p
 obtain ⟨b1,s1,E,e1,g1,k1⟩:=event_ok (s:=0) (co0 hc hl) (by omega) fuel hf
 rw [bnd e1]
 exact ⟨_,rfl,k1⟩
theorem drawStandingsOf_ok {code:List Int} (hc:∀ x ∈ code,isByte x) (hl:code.length ≤ 9223372036854775807) (fuel:Nat) (hf:1048576 < fuel):∃ E,spec_DrawStandingsOf_p fuel code=some E∧nEvent E ≤ 3000:=by
 unfold spec_DrawStandingsOf_p
 obtain ⟨E,e1,k1⟩:=drawIsEvent_ok hc hl fuel hf
 rw [bnd e1]
 exact ⟨_,rfl,k1⟩

end Go.Proofs.YtegdphhfimaieabGreat

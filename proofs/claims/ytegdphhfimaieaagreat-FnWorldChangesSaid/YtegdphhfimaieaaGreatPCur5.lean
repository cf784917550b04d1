/- Plain lemmas: what the functions compute is what the reference says, in plain Lean. No condition. -/
import Derived.Test.YtegdphhfimaieaaGreatPSame1
set_option maxRecDepth 4000
set_option maxHeartbeats 1000000
set_option linter.unusedVariables false
set_option linter.unusedSimpArgs false
set_option linter.unusedSectionVars false

namespace Go.Proofs.YtegdphhfimaieaaGreat
open Go.AM

theorem nSS_le {l:List Season} (h:∀ s ∈ l,nSeason s ≤ 1000):nSeasonS l ≤ 1001 * l.length:=by
 unfold nSeasonS
 induction l with
 | nil=>simp
 | cons y l ih =>
  have:=h y (by simp)
  have:=ih (fun s hs=>h s (by simp [hs]))
  simp only [List.map_cons,List.sum_cons,List.length_cons];omega
theorem nW_le {S:List Season} {ws:List Int} (h:∀ s ∈ S,nSeason s ≤ 1000) (h1:S.length ≤ 5) (h2:ws.length ≤ 5):nWorld (World.mk S ws) ≤ 10000:=by
 have:=nSS_le h
 unfold nWorld nIntS
 dsimp only
 omega
theorem world_l2 (a:List Int) (b s v:Int) (hv:0 ≤ v∧v ≤ 1):∀ (n f:Nat) (S:List Season) (ws:List Int),((3+v) - (S.length:Int)).toNat=n→n < f→1 ≤ S.length→S.length ≤ 4→ws.length=S.length→(∀ x ∈ S,nSeason x ≤ 1000) →
  ∃ W,spec_l1Cur_world_l2 (L1Cur.mk a b s,v) f S ws=some (L1Cur.mk a b s,W)∧nWorld W ≤ 10000:=by
 intro n
 induction n with
 | zero =>
  intro f S ws h hf h1 h2 h3 h4
  obtain ⟨f,rfl⟩:=Nat.exists_eq_succ_of_ne_zero (by omega:f ≠ 0)
  rw [spec_l1Cur_world_l2]
  dsimp only
  rw [w64_in (n:=3+v) (by omega),decide_eq_false (by omega)]
  exact ⟨_,rfl,nW_le h4 (by omega) (by omega)⟩
 | succ n ih =>
  intro f S ws h hf h1 h2 h3 h4
  obtain ⟨f,rfl⟩:=Nat.exists_eq_succ_of_ne_zero (by omega:f ≠ 0)
  rw [spec_l1Cur_world_l2]
  dsimp only
  have hg:getI S 0=some S[0]:=getI_lt_some (k:=0) (by omega)
  have hw:getI ws (w64 ((ws.length:Int) - 1))=some (ws[ws.length - 1]'(by omega)):=by
   rw [w64_in (by omega),getI_of (k:=ws.length - 1) (by omega)];exact List.getElem?_eq_getElem _
  rw [w64_in (n:=3+v) (by omega),decide_eq_true (by omega),cond_true,bnd hg,fits_of (by simp;omega),need_t,Option.bind_some,bnd hw,fits_of (by simp;omega),need_t,Option.bind_some]
  refine ih f _ _ (by simp;omega) (by omega) (by simp) (by simp;omega) (by simp;omega) (fun x hx=>?_)
  rcases List.mem_append.1 hx with hx | hx
  ·exact h4 x hx
  ·obtain rfl:=List.mem_singleton.1 hx;exact h4 _ (List.getElem_mem _)
theorem world_l1 (fuel:Nat) (hF:1048576 < fuel):∀ (n f:Nat) (a:List Int) (b m s:Int) (S:List Season) (ws:List Int) (v:Int),CO a b m→m+1000 * (n:Int) ≤ 200000000→n < f→S.length+n ≤ 3→1 ≤ S.length+n→ws.length=S.length→(∀ x ∈ S,nSeason x ≤ 1000) →
  ∃ b' s' W,spec_l1Cur_world_l1 fuel f a b s S ws v (n:Int)=some (L1Cur.mk a b' s',W)∧CO a b' (m+1000 * (n:Int)+20)∧nWorld W ≤ 10000:=by
 intro n
 induction n with
 | zero =>
  intro f a b m s S ws v h hm hf h1 h2 h3 h4
  obtain ⟨f,rfl⟩:=Nat.exists_eq_succ_of_ne_zero (by omega:f ≠ 0)
  rw [spec_l1Cur_world_l1,decide_eq_false (by omega),cond_false]
  obtain ⟨b1,s1,v1,e1,g1,l1,u1⟩:=pick_ok (s:=s) h (by omega) 30 (by omega)
  rw [bnd e1]
  dsimp only
  cases v1 == 0
  ·rw [cond_false]
   cases v1 == 1
   ·rw [cond_false]
    cases v1 == 2
    ·rw [cond_false]
     cases v1 == 3
     ·exact ⟨_,_,_,rfl,g1.mono (by omega),nW_le h4 (by omega) (by omega)⟩
     ·exact ⟨_,_,_,rfl,g1.mono (by omega),nW_le (by simp) (by simp) (by simp)⟩
    ·rw [cond_true]
     obtain ⟨b2,s2,v2,e2,g2,l2,u2⟩:=pick_ok (s:=s1) g1 (by omega) 2 (by omega)
     rw [bnd e2]
     obtain ⟨W,k1,k2⟩:=world_l2 a b2 s2 v2 (by omega) _ fuel S ws rfl (by omega) (by omega) (by omega) h3 h4
     exact ⟨_,_,_,k1,g2.mono (by omega),k2⟩
   ·rw [cond_true,fits_of (by simp;omega),need_t,Option.bind_some]
    exact ⟨_,_,_,rfl,g1.mono (by omega),nW_le h4 (by omega) (by simp;omega)⟩
  ·rw [cond_true]
   obtain ⟨b2,s2,v2,e2,g2,_⟩:=among_ok (s:=s1) g1 (by omega) [(-1),0,100,101] (by simp) (by simp)
   rw [bnd e2,bnd (show getI ws 0=some ws[0] from getI_lt_some (k:=0) (by omega))]
   exact ⟨_,_,_,rfl,g2.mono (by omega),nW_le h4 (by omega) (by simp;omega)⟩
 | succ n ih =>
  intro f a b m s S ws v h hm hf h1 h2 h3 h4
  obtain ⟨f,rfl⟩:=Nat.exists_eq_succ_of_ne_zero (by omega:f ≠ 0)
  rw [spec_l1Cur_world_l1,decide_eq_true (by omega),cond_true]
  obtain ⟨b1,s1,T,e1,g1,k1⟩:=season_ok (s:=s) h (by omega) fuel hF
  rw [bnd e1]
  dsimp only
  rw [fits_of (by simp;omega),need_t,Option.bind_some,fits_of (by simp;omega),need_t,Option.bind_some,show need (2 != 0)=some () from rfl,Option.bind_some,show need (10 != 0)=some () from rfl,Option.bind_some]
  obtain ⟨b2,s2,v2,e2,g2,_⟩:=among_ok (s:=s1) g1 (by omega) [v,w64 (v.tdiv 2),w64 ((w64 (v * 7)).tdiv 10)] (by simp) (by simp)
  rw [bnd e2]
  dsimp only
  rw [w64_in (n:=((n+1:Nat):Int) - 1) (by omega),show ((n+1:Nat):Int) - 1=(n:Int) from by omega]
  obtain ⟨b',s',W,q1,q2,q3⟩:=ih f a b2 _ s2 (S++[T]) (ws++[v]) v2 g2 (by omega) (by omega) (by simp;omega) (by simp;omega) (by simp [h3]) (fun x hx=>by
   rcases List.mem_append.1 hx with hx | hx
   ·exact h4 x hx
   ·obtain rfl:=List.mem_singleton.1 hx;exact k1)
  exact ⟨b',s',W,q1,q2.mono (by omega),q3⟩
theorem world_ok {a:List Int} {b m s:Int} (h:CO a b m) (hm:m ≤ 100000000) (fuel:Nat) (hf:1048576 < fuel):∃ b' s' W,spec_l1Cur_world_p fuel (L1Cur.mk a b s)=some (L1Cur.mk a b' s',W)∧CO a b' (m+4000)∧nWorld W ≤ 10000:=by
 unfold spec_l1Cur_world_p
 obtain ⟨b1,s1,v1,e1,g1,l1,u1⟩:=pick_ok (s:=s) h (by omega) 3 (by omega)
 rw [bnd e1]
 dsimp only
 rw [w64_in (n:=1+v1) (by omega)]
 obtain ⟨b',s',W,q1,q2,q3⟩:=world_l1 fuel hf (1+v1).toNat fuel a b1 _ s1 [] [] 100 g1 (by omega) (by omega) (by simp;omega) (by simp;omega) rfl (by simp)
 rw [show (((1+v1).toNat:Nat):Int)=1+v1 from by omega] at q1
 exact ⟨b',s',W,q1,q2.mono (by omega),q3⟩
theorem skaters_l2 (a:List Int) (b s v:Int) (hv:0 ≤ v∧v ≤ 1):∀ (n f:Nat) (l:List Int),((40+v) - (l.length:Int)).toNat=n→n < f→l.length ≤ 41 →
  ∃ r,spec_l1Cur_skaters_l2 (L1Cur.mk a b s,v) f l=some (L1Cur.mk a b s,r)∧r.length ≤ 41:=by
 intro n
 induction n with
 | zero =>
  intro f l h hf h4
  obtain ⟨f,rfl⟩:=Nat.exists_eq_succ_of_ne_zero (by omega:f ≠ 0)
  rw [spec_l1Cur_skaters_l2]
  dsimp only
  rw [w64_in (n:=40+v) (by omega),decide_eq_false (by omega)]
  exact ⟨_,rfl,h4⟩
 | succ n ih =>
  intro f l h hf h4
  obtain ⟨f,rfl⟩:=Nat.exists_eq_succ_of_ne_zero (by omega:f ≠ 0)
  rw [spec_l1Cur_skaters_l2]
  dsimp only
  rw [w64_in (n:=40+v) (by omega),decide_eq_true (by omega),cond_true,fits_of (by simp;omega),need_t,Option.bind_some]
  exact ih f _ (by simp;omega) (by omega) (by simp;omega)
theorem skaters_l1 (fuel:Nat) (hF:1048576 < fuel):∀ (n f:Nat) (a:List Int) (b m s:Int) (l:List Int),CO a b m→m+4 * (n:Int) ≤ 500000000→n < f→l.length+n ≤ 40 →
  ∃ b' s' r,spec_l1Cur_skaters_l1 fuel f a b s l (n:Int)=some (L1Cur.mk a b' s',r)∧CO a b' (m+4 * (n:Int)+10)∧r.length ≤ 41:=by
 intro n
 induction n with
 | zero =>
  intro f a b m s l h hm hf hl
  obtain ⟨f,rfl⟩:=Nat.exists_eq_succ_of_ne_zero (by omega:f ≠ 0)
  rw [spec_l1Cur_skaters_l1,decide_eq_false (by omega),cond_false]
  obtain ⟨b1,s1,v1,e1,g1,l1,u1⟩:=pick_ok (s:=s) h (by omega) 24 (by omega)
  rw [bnd e1]
  dsimp only
  cases v1 == 0
  ·rw [cond_false]
   cases v1 == 1
   ·exact ⟨_,_,_,rfl,g1.mono (by omega),by omega⟩
   ·rw [cond_true]
    obtain ⟨b2,s2,v2,e2,g2,l2,u2⟩:=pick_ok (s:=s1) g1 (by omega) 2 (by omega)
    rw [bnd e2]
    obtain ⟨r,k1,k2⟩:=skaters_l2 a b2 s2 v2 (by omega) _ fuel [] rfl (by simp;omega) (by simp)
    exact ⟨_,_,_,k1,g2.mono (by omega),k2⟩
  ·rw [cond_true]
   obtain ⟨b2,s2,v2,e2,g2,_⟩:=among_ok (s:=s1) g1 (by omega) [0,999,1000] (by simp) (by simp)
   rw [bnd e2,fits_of (by simp;omega),need_t,Option.bind_some]
   exact ⟨_,_,_,rfl,g2.mono (by omega),by simp;omega⟩
 | succ n ih =>
  intro f a b m s l h hm hf hl
  obtain ⟨f,rfl⟩:=Nat.exists_eq_succ_of_ne_zero (by omega:f ≠ 0)
  rw [spec_l1Cur_skaters_l1,decide_eq_true (by omega),cond_true]
  obtain ⟨b1,s1,v1,e1,g1,l1,u1⟩:=pick_ok (s:=s) h (by omega) 12 (by omega)
  rw [bnd e1]
  dsimp only
  obtain ⟨v,hv,_⟩:=ret_l1Has l (w64 (1+v1))
  rw [bnd hv]
  obtain ⟨b5,s5,v5,e5,g5⟩:∃ b5 s5 v5,opt (!(!v)) (L1Cur.mk a b1 s1,default) (spec_l1Cur_one_p (L1Cur.mk a b1 s1) 24)=some (L1Cur.mk a b5 s5,v5)∧CO a b5 (m+4):=by
   cases v
   ·exact ⟨b1,s1,default,rfl,g1.mono (by omega)⟩
   ·obtain ⟨b5,s5,v5,e5,g5⟩:=one_ok (s:=s1) g1 (by omega) 24 (by omega)
    exact ⟨b5,s5,v5,e5,g5.mono (by omega)⟩
  rw [bnd e5]
  dsimp only
  rw [w64_in (n:=((n+1:Nat):Int) - 1) (by omega),show ((n+1:Nat):Int) - 1=(n:Int) from by omega]
  cases (!v) || v5
  ·rw [cond_false]
   obtain ⟨b6,s6,r,e6,g6,k1⟩:=ih f a b5 _ s5 l g5 (by omega) (by omega) (by omega)
   exact ⟨b6,s6,r,e6,g6.mono (by omega),k1⟩
  ·rw [cond_true,fits_of (by simp;omega),need_t,Option.bind_some]
   obtain ⟨b6,s6,r,e6,g6,k1⟩:=ih f a b5 _ s5 (l++[w64 (1+v1)]) g5 (by omega) (by omega) (by simp;omega)
   exact ⟨b6,s6,r,e6,g6.mono (by omega),k1⟩
theorem skaters_ok {a:List Int} {b m s:Int} (h:CO a b m) (hm:m ≤ 400000000) (fuel:Nat) (hf:1048576 < fuel):∃ b' s' l,spec_l1Cur_skaters_p fuel (L1Cur.mk a b s)=some (L1Cur.mk a b' s',l)∧CO a b' (m+100)∧l.length ≤ 41:=by
 unfold spec_l1Cur_skaters_p
 obtain ⟨b1,s1,v1,e1,g1,l1,u1⟩:=pick_ok (s:=s) h (by omega) 8 (by omega)
 rw [bnd e1]
 dsimp only
 obtain ⟨b2,s2,r,e2,g2,k1⟩:=skaters_l1 fuel hf v1.toNat fuel a b1 (m+2) s1 [] g1 (by omega) (by omega) (by simp;omega)
 rw [show ((v1.toNat:Nat):Int)=v1 from by omega] at e2
 exact ⟨b2,s2,r,e2,g2.mono (by omega),k1⟩
theorem drawAddToWorld_ok {code:List Int} (hc:∀ x ∈ code,isByte x) (hl:code.length ≤ 9223372036854775807) (fuel:Nat) (hf:1048576 < fuel):∃ W e,spec_DrawAddToWorld_p fuel code=some (W,e)∧nWorld W ≤ 10000:=by
 unfold spec_DrawAddToWorld_p
 obtain ⟨b1,s1,W,e1,g1,k1⟩:=world_ok (s:=0) (co0 hc hl) (by omega) fuel hf
 rw [bnd e1]
 dsimp only
 obtain ⟨b2,s2,v2,e2,g2,l2,u2⟩:=pick_ok (s:=s1) g1 (by omega) 8 (by omega)
 rw [bnd e2]
 dsimp only
 obtain ⟨b3,s3,v3,e3,g3,l3,u3⟩:=pick_ok (s:=s2) g2 (by omega) 7 (by omega)
 rw [bnd e3]
 dsimp only
 obtain ⟨b4,s4,v4,e4,g4,_⟩:=among_ok (s:=s3) g3 (by omega) [0,100,400,100000,100001] (by simp) (by simp)
 rw [bnd e4]
 exact ⟨_,_,rfl,k1⟩
theorem drawNewSeason_ok {code:List Int} (hc:∀ x ∈ code,isByte x) (hl:code.length ≤ 9223372036854775807) (fuel:Nat) (hf:1048576 < fuel):∃ W n,spec_DrawNewSeason_p fuel code=some (W,n)∧nWorld W ≤ 10000:=by
 unfold spec_DrawNewSeason_p
 obtain ⟨b1,s1,W,e1,g1,k1⟩:=world_ok (s:=0) (co0 hc hl) (by omega) fuel hf
 rw [bnd e1]
 dsimp only
 obtain ⟨b2,s2,v2,e2,g2,_⟩:=among_ok (s:=s1) g1 (by omega) [1,2,9,10,0] (by simp) (by simp)
 rw [bnd e2]
 exact ⟨_,_,rfl,k1⟩
theorem drawSeedsFor_ok {code:List Int} (hc:∀ x ∈ code,isByte x) (hl:code.length ≤ 9223372036854775807) (fuel:Nat) (hf:1048576 < fuel):∃ W l,spec_DrawSeedsFor_p fuel code=some (W,l)∧nWorld W ≤ 10000∧l.length ≤ 41:=by
 unfold spec_DrawSeedsFor_p
 obtain ⟨b1,s1,W,e1,g1,k1⟩:=world_ok (s:=0) (co0 hc hl) (by omega) fuel hf
 rw [bnd e1]
 dsimp only
 obtain ⟨b2,s2,l,e2,g2,k2⟩:=skaters_ok (s:=s1) g1 (by omega) fuel hf
 rw [bnd e2]
 exact ⟨_,_,rfl,k1,k2⟩
theorem drawRankChanges_ok {code:List Int} (hc:∀ x ∈ code,isByte x) (hl:code.length ≤ 9223372036854775807) (fuel:Nat) (hf:1048576 < fuel):∃ W V,spec_DrawRankChanges_p fuel code=some (W,V)∧nWorld W ≤ 10000∧nWorld V ≤ 10000:=by
 unfold spec_DrawRankChanges_p
 obtain ⟨b1,s1,W,e1,g1,k1⟩:=world_ok (s:=0) (co0 hc hl) (by omega) fuel hf
 rw [bnd e1]
 dsimp only
 obtain ⟨b2,s2,v2,e2,g2,l2,u2⟩:=pick_ok (s:=s1) g1 (by omega) 8 (by omega)
 rw [bnd e2]
 dsimp only
 obtain ⟨b3,s3,v3,e3,g3,l3,u3⟩:=pick_ok (s:=s2) g2 (by omega) 7 (by omega)
 rw [bnd e3]
 dsimp only
 obtain ⟨b4,s4,v4,e4,g4,l4,u4⟩:=pick_ok (s:=s3) g3 (by omega) 1200 (by omega)
 rw [bnd e4]
 dsimp only
 obtain ⟨r,r1,_,r3⟩:=same_AddToWorld W (by omega) (Entry.mk (w64 (1+v2)) (w64 (1+v3)) v4) fuel hf
 rw [show (World.mk W.seasons W.weights)=W from rfl,bnd r1]
 obtain ⟨b5,s5,v5,e5,g5⟩:∃ b5 s5 v5,opt r.2 (L1Cur.mk code b4 s4,default) (spec_l1Cur_one_p (L1Cur.mk code b4 s4) 3)=some (L1Cur.mk code b5 s5,v5)∧CO code b5 10000:=by
  cases r.2
  ·exact ⟨b4,s4,default,rfl,g4.mono (by omega)⟩
  ·obtain ⟨b5,s5,v5,e5,g5⟩:=one_ok (s:=s4) g4 (by omega) 3 (by omega)
   exact ⟨b5,s5,v5,e5,g5.mono (by omega)⟩
 rw [bnd e5]
 dsimp only
 cases r.2 && !v5
 ·rw [cond_false]
  obtain ⟨b6,s6,V,e6,g6,k6⟩:=world_ok (s:=s5) g5 (by omega) fuel hf
  rw [bnd e6]
  exact ⟨_,_,rfl,k1,k6⟩
 ·exact ⟨_,_,rfl,k1,by show nWorld r.1 ≤ 10000;omega⟩

end Go.Proofs.YtegdphhfimaieaaGreat

/- Plain lemmas: what the functions compute is what the reference says, in plain Lean. No condition. -/
import Derived.Test.YtegdphhfimaieaaGreatPCur2
set_option maxRecDepth 4000
set_option maxHeartbeats 1000000
set_option linter.unusedVariables false
set_option linter.unusedSimpArgs false
set_option linter.unusedSectionVars false

namespace Go.Proofs.YtegdphhfimaieaaGreat
open Go.AM

theorem entries_l2 (a:List Int) (b s v:Int) (hv:0 ≤ v∧v ≤ 1):∀ (n f:Nat) (l:List Entry),((80+v) - (l.length:Int)).toNat=n→n < f→l.length ≤ 81 →
  ∃ r,spec_l1Cur_entries_l2 (L1Cur.mk a b s,v) f l=some (L1Cur.mk a b s,r)∧r.length ≤ 81:=by
 intro n
 induction n with
 | zero =>
  intro f l h hf h4
  obtain ⟨f,rfl⟩:=Nat.exists_eq_succ_of_ne_zero (by omega:f ≠ 0)
  rw [spec_l1Cur_entries_l2]
  dsimp only
  rw [w64_in (n:=80+v) (by omega),decide_eq_false (by omega)]
  exact ⟨_,rfl,h4⟩
 | succ n ih =>
  intro f l h hf h4
  obtain ⟨f,rfl⟩:=Nat.exists_eq_succ_of_ne_zero (by omega:f ≠ 0)
  rw [spec_l1Cur_entries_l2]
  dsimp only
  rw [w64_in (n:=80+v) (by omega),decide_eq_true (by omega),cond_true,show need (9 != 0)=some () from rfl,Option.bind_some,fits_of (by simp;omega),need_t,Option.bind_some]
  exact ih f _ (by simp;omega) (by omega) (by simp;omega)
theorem entries_l3 (a:List Int) (b s v:Int) (hv:0 ≤ v∧v ≤ 1):∀ (n f:Nat) (l:List Entry),((80+v) - (l.length:Int)).toNat=n→n < f→l.length ≤ 81 →
  ∃ r,spec_l1Cur_entries_l3 (L1Cur.mk a b s,v) f l=some (L1Cur.mk a b s,r)∧r.length ≤ 81:=by
 intro n
 induction n with
 | zero =>
  intro f l h hf h4
  obtain ⟨f,rfl⟩:=Nat.exists_eq_succ_of_ne_zero (by omega:f ≠ 0)
  rw [spec_l1Cur_entries_l3]
  dsimp only
  rw [w64_in (n:=80+v) (by omega),decide_eq_false (by omega)]
  exact ⟨_,rfl,h4⟩
 | succ n ih =>
  intro f l h hf h4
  obtain ⟨f,rfl⟩:=Nat.exists_eq_succ_of_ne_zero (by omega:f ≠ 0)
  rw [spec_l1Cur_entries_l3]
  dsimp only
  rw [w64_in (n:=80+v) (by omega),decide_eq_true (by omega),cond_true,show need (9 != 0)=some () from rfl,Option.bind_some,fits_of (by simp;omega),need_t,Option.bind_some]
  exact ih f _ (by simp;omega) (by omega) (by simp;omega)
theorem entries_l4 (a:List Int) (b s v:Int) (hv:0 ≤ v∧v ≤ 1):∀ (n f:Nat) (l:List Entry),((80+v) - (l.length:Int)).toNat=n→n < f→l.length ≤ 81 →
  ∃ r,spec_l1Cur_entries_l4 (L1Cur.mk a b s,v) f l=some (L1Cur.mk a b s,r)∧r.length ≤ 81:=by
 intro n
 induction n with
 | zero =>
  intro f l h hf h4
  obtain ⟨f,rfl⟩:=Nat.exists_eq_succ_of_ne_zero (by omega:f ≠ 0)
  rw [spec_l1Cur_entries_l4]
  dsimp only
  rw [w64_in (n:=80+v) (by omega),decide_eq_false (by omega)]
  exact ⟨_,rfl,h4⟩
 | succ n ih =>
  intro f l h hf h4
  obtain ⟨f,rfl⟩:=Nat.exists_eq_succ_of_ne_zero (by omega:f ≠ 0)
  rw [spec_l1Cur_entries_l4]
  dsimp only
  rw [w64_in (n:=80+v) (by omega),decide_eq_true (by omega),cond_true,show need (9 != 0)=some () from rfl,Option.bind_some,fits_of (by simp;omega),need_t,Option.bind_some]
  exact ih f _ (by simp;omega) (by omega) (by simp;omega)
theorem entries_l5 (a:List Int) (b s v:Int) (hv:0 ≤ v∧v ≤ 1):∀ (n f:Nat) (l:List Entry),((80+v) - (l.length:Int)).toNat=n→n < f→l.length ≤ 81 →
  ∃ r,spec_l1Cur_entries_l5 (L1Cur.mk a b s,v) f l=some (L1Cur.mk a b s,r)∧r.length ≤ 81:=by
 intro n
 induction n with
 | zero =>
  intro f l h hf h4
  obtain ⟨f,rfl⟩:=Nat.exists_eq_succ_of_ne_zero (by omega:f ≠ 0)
  rw [spec_l1Cur_entries_l5]
  dsimp only
  rw [w64_in (n:=80+v) (by omega),decide_eq_false (by omega)]
  exact ⟨_,rfl,h4⟩
 | succ n ih =>
  intro f l h hf h4
  obtain ⟨f,rfl⟩:=Nat.exists_eq_succ_of_ne_zero (by omega:f ≠ 0)
  rw [spec_l1Cur_entries_l5]
  dsimp only
  rw [w64_in (n:=80+v) (by omega),decide_eq_true (by omega),cond_true,show need (9 != 0)=some () from rfl,Option.bind_some,fits_of (by simp;omega),need_t,Option.bind_some]
  exact ih f _ (by simp;omega) (by omega) (by simp;omega)
theorem entries_l6 (a:List Int) (b s v:Int) (hv:0 ≤ v∧v ≤ 1):∀ (n f:Nat) (l:List Entry),((80+v) - (l.length:Int)).toNat=n→n < f→l.length ≤ 81 →
  ∃ r,spec_l1Cur_entries_l6 (L1Cur.mk a b s,v) f l=some (L1Cur.mk a b s,r)∧r.length ≤ 81:=by
 intro n
 induction n with
 | zero =>
  intro f l h hf h4
  obtain ⟨f,rfl⟩:=Nat.exists_eq_succ_of_ne_zero (by omega:f ≠ 0)
  rw [spec_l1Cur_entries_l6]
  dsimp only
  rw [w64_in (n:=80+v) (by omega),decide_eq_false (by omega)]
  exact ⟨_,rfl,h4⟩
 | succ n ih =>
  intro f l h hf h4
  obtain ⟨f,rfl⟩:=Nat.exists_eq_succ_of_ne_zero (by omega:f ≠ 0)
  rw [spec_l1Cur_entries_l6]
  dsimp only
  rw [w64_in (n:=80+v) (by omega),decide_eq_true (by omega),cond_true,show need (9 != 0)=some () from rfl,Option.bind_some,fits_of (by simp;omega),need_t,Option.bind_some]
  exact ih f _ (by simp;omega) (by omega) (by simp;omega)
theorem seEntries_some (l:List Entry) (hl:l.length ≤ 1048576):∃ v,spec_seEntries_p l=some v:=by
 obtain ⟨v,h,_⟩:=ret_seEntries l hl
 exact ⟨v,h⟩
theorem entries_l1 (fuel:Nat) (hF:1048576 < fuel):∀ (n f:Nat) (a:List Int) (b m s:Int) (l:List Entry),CO a b m→m+20 * (n:Int) ≤ 500000000→n < f→l.length+n ≤ 81 →
  ∃ b' s' r,spec_l1Cur_entries_l1 fuel f a b s l (n:Int)=some (L1Cur.mk a b' s',r)∧CO a b' (m+20 * (n:Int)+20)∧r.length ≤ 81:=by
 intro n
 induction n with
 | zero =>
  intro f a b m s l h hm hf hl
  obtain ⟨f,rfl⟩:=Nat.exists_eq_succ_of_ne_zero (by omega:f ≠ 0)
  rw [spec_l1Cur_entries_l1,decide_eq_false (by omega),cond_false]
  by_cases h0:(l.length:Int) > 0
  ·rw [decide_eq_true h0,cond_true]
   obtain ⟨b1,s1,v1,e1,g1,l1,u1⟩:=pick_ok (s:=s) h (by omega) (l.length:Int) (by omega)
   rw [bnd e1]
   dsimp only
   have hlt:v1.toNat < l.length:=by omega
   have hg:getI l v1=some l[v1.toNat]:=by rw [getI_of (k:=v1.toNat) (by omega)];exact List.getElem?_eq_getElem hlt
   rw [bnd hg]
   obtain ⟨b2,s2,v2,e2,g2,l2,u2⟩:=pick_ok (s:=s1) g1 (by omega) 30 (by omega)
   rw [bnd e2]
   dsimp only
   cases v2 == 0
   ·rw [cond_false]
    cases v2 == 1
    ·rw [cond_false]
     cases v2 == 2
     ·rw [cond_false]
      obtain ⟨b4,s4,v4,e4,g4⟩:=one_ok (s:=s2) g2 (by omega) 30 (by omega)
      rw [bnd e4]
      dsimp only
      cases v4
      ·exact ⟨_,_,_,rfl,g4.mono (by omega),by omega⟩
      ·rw [cond_true]
       obtain ⟨b5,s5,v5,e5,g5,l5,u5⟩:=pick_ok (s:=s4) g4 (by omega) 2 (by omega)
       rw [bnd e5]
       obtain ⟨r,k1,k2⟩:=entries_l5 a b5 s5 v5 (by omega) _ fuel [] rfl (by simp;omega) (by simp)
       exact ⟨_,_,_,k1,g5.mono (by omega),k2⟩
     ·rw [cond_true]
      obtain ⟨b3,s3,v3,e3,g3,_⟩:=among_ok (s:=s2) g2 (by omega) [(-1),100000,100001] (by simp) (by simp)
      rw [bnd e3]
      dsimp only
      obtain ⟨b4,s4,v4,e4,g4⟩:=one_ok (s:=s3) g3 (by omega) 30 (by omega)
      rw [bnd e4]
      dsimp only
      cases v4
      ·exact ⟨_,_,_,rfl,g4.mono (by omega),by simp;omega⟩
      ·rw [cond_true]
       obtain ⟨b5,s5,v5,e5,g5,l5,u5⟩:=pick_ok (s:=s4) g4 (by omega) 2 (by omega)
       rw [bnd e5]
       obtain ⟨r,k1,k2⟩:=entries_l4 a b5 s5 v5 (by omega) _ fuel [] rfl (by simp;omega) (by simp)
       exact ⟨_,_,_,k1,g5.mono (by omega),k2⟩
    ·rw [cond_true]
     obtain ⟨b3,s3,v3,e3,g3,_⟩:=among_ok (s:=s2) g2 (by omega) [0,999,1000] (by simp) (by simp)
     rw [bnd e3]
     dsimp only
     obtain ⟨b4,s4,v4,e4,g4⟩:=one_ok (s:=s3) g3 (by omega) 30 (by omega)
     rw [bnd e4]
     dsimp only
     cases v4
     ·exact ⟨_,_,_,rfl,g4.mono (by omega),by simp;omega⟩
     ·rw [cond_true]
      obtain ⟨b5,s5,v5,e5,g5,l5,u5⟩:=pick_ok (s:=s4) g4 (by omega) 2 (by omega)
      rw [bnd e5]
      obtain ⟨r,k1,k2⟩:=entries_l3 a b5 s5 v5 (by omega) _ fuel [] rfl (by simp;omega) (by simp)
      exact ⟨_,_,_,k1,g5.mono (by omega),k2⟩
   ·rw [cond_true]
    obtain ⟨b3,s3,v3,e3,g3,_⟩:=among_ok (s:=s2) g2 (by omega) [0,99,100] (by simp) (by simp)
    rw [bnd e3]
    dsimp only
    obtain ⟨b4,s4,v4,e4,g4⟩:=one_ok (s:=s3) g3 (by omega) 30 (by omega)
    rw [bnd e4]
    dsimp only
    cases v4
    ·exact ⟨_,_,_,rfl,g4.mono (by omega),by simp;omega⟩
    ·rw [cond_true]
     obtain ⟨b5,s5,v5,e5,g5,l5,u5⟩:=pick_ok (s:=s4) g4 (by omega) 2 (by omega)
     rw [bnd e5]
     obtain ⟨r,k1,k2⟩:=entries_l2 a b5 s5 v5 (by omega) _ fuel [] rfl (by simp;omega) (by simp)
     exact ⟨_,_,_,k1,g5.mono (by omega),k2⟩
  ·rw [decide_eq_false h0,cond_false]
   obtain ⟨b4,s4,v4,e4,g4⟩:=one_ok (s:=s) h (by omega) 30 (by omega)
   rw [bnd e4]
   dsimp only
   cases v4
   ·exact ⟨_,_,_,rfl,g4.mono (by omega),by omega⟩
   ·rw [cond_true]
    obtain ⟨b5,s5,v5,e5,g5,l5,u5⟩:=pick_ok (s:=s4) g4 (by omega) 2 (by omega)
    rw [bnd e5]
    obtain ⟨r,k1,k2⟩:=entries_l6 a b5 s5 v5 (by omega) _ fuel [] rfl (by simp;omega) (by simp)
    exact ⟨_,_,_,k1,g5.mono (by omega),k2⟩
 | succ n ih =>
  intro f a b m s l h hm hf hl
  obtain ⟨f,rfl⟩:=Nat.exists_eq_succ_of_ne_zero (by omega:f ≠ 0)
  rw [spec_l1Cur_entries_l1,decide_eq_true (by omega),cond_true]
  obtain ⟨b1,s1,v1,e1,g1,l1,u1⟩:=pick_ok (s:=s) h (by omega) 6 (by omega)
  rw [bnd e1]
  dsimp only
  obtain ⟨b2,s2,v2,e2,g2,l2,u2⟩:=pick_ok (s:=s1) g1 (by omega) 5 (by omega)
  rw [bnd e2]
  dsimp only
  obtain ⟨b3,s3,v3,e3,g3,l3,u3⟩:=pick_ok (s:=s2) g2 (by omega) 900 (by omega)
  rw [bnd e3]
  dsimp only
  obtain ⟨b4,s4,v4,e4,g4,l4⟩:=among_ok (s:=s3) g3 (by omega) [0,100,100,250,400,1000,v3] (by simp) (by simp)
  rw [bnd e4]
  dsimp only
  rw [fits_of (by simp;omega),need_t,Option.bind_some]
  obtain ⟨v,hv⟩:=seEntries_some (l++[Entry.mk (w64 (1+v1)) (w64 (1+v2)) v4]) (by simp;omega)
  rw [bnd hv]
  obtain ⟨b5,s5,v5,e5,g5⟩:∃ b5 s5 v5,opt (!v) (L1Cur.mk a b4 s4,default) (spec_l1Cur_one_p (L1Cur.mk a b4 s4) 24)=some (L1Cur.mk a b5 s5,v5)∧CO a b5 (m+12):=by
   cases v
   ·obtain ⟨b5,s5,v5,e5,g5⟩:=one_ok (s:=s4) g4 (by omega) 24 (by omega)
    exact ⟨b5,s5,v5,e5,g5.mono (by omega)⟩
   ·exact ⟨b4,s4,default,rfl,g4.mono (by omega)⟩
  rw [bnd e5]
  dsimp only
  rw [w64_in (n:=((n+1:Nat):Int) - 1) (by omega),show ((n+1:Nat):Int) - 1=(n:Int) from by omega]
  cases v || v5
  ·rw [cond_false]
   obtain ⟨b6,s6,r,e6,g6,k1⟩:=ih f a b5 _ s5 l g5 (by omega) (by omega) (by omega)
   exact ⟨b6,s6,r,e6,g6.mono (by omega),k1⟩
  ·rw [cond_true]
   obtain ⟨b6,s6,r,e6,g6,k1⟩:=ih f a b5 _ s5 (l++[Entry.mk (w64 (1+v1)) (w64 (1+v2)) v4]) g5 (by omega) (by omega) (by simp;omega)
   exact ⟨b6,s6,r,e6,g6.mono (by omega),k1⟩
theorem entries_ok {a:List Int} {b m s:Int} (h:CO a b m) (hm:m ≤ 400000000) (fuel:Nat) (hf:1048576 < fuel):∃ b' s' l,spec_l1Cur_entries_p fuel (L1Cur.mk a b s)=some (L1Cur.mk a b' s',l)∧CO a b' (m+400)∧l.length ≤ 81:=by
 unfold spec_l1Cur_entries_p
 obtain ⟨b1,s1,v1,e1,g1,l1,u1⟩:=pick_ok (s:=s) h (by omega) 14 (by omega)
 rw [bnd e1]
 dsimp only
 obtain ⟨b2,s2,r,e2,g2,k1⟩:=entries_l1 fuel hf v1.toNat fuel a b1 (m+2) s1 [] g1 (by omega) (by omega) (by simp;omega)
 rw [show ((v1.toNat:Nat):Int)=v1 from by omega] at e2
 exact ⟨b2,s2,r,e2,g2.mono (by omega),k1⟩
theorem nS_set (best:Int) {l:List Line} {i:Nat} {x y:Line} (h:l[i]?=some x):nSeason (Season.mk best (l.set i y)) ≤ nSeason (Season.mk best l)+nLine y:=by
 obtain ⟨hi,hx⟩:=List.getElem?_eq_some_iff.1 h
 have hs:l=l.take i++x::l.drop (i+1):=by rw [← hx,List.getElem_cons_drop hi,List.take_append_drop]
 have hs2:l.set i y=l.take i++y::l.drop (i+1):=by
  rw [List.set_eq_take_append_cons_drop,if_pos hi]
 unfold nSeason nLineS
 dsimp only
 rw [hs2]
 conv=>rhs;rw [hs]
 simp only [List.map_append,List.map_cons,List.sum_append,List.sum_cons,List.length_append,List.length_cons]
 omega
theorem season_ok {a:List Int} {b m s:Int} (h:CO a b m) (hm:m ≤ 300000000) (fuel:Nat) (hf:1048576 < fuel):∃ b' s' S,spec_l1Cur_season_p fuel (L1Cur.mk a b s)=some (L1Cur.mk a b' s',S)∧CO a b' (m+500)∧nSeason S ≤ 1000:=by
 unfold spec_l1Cur_season_p
 obtain ⟨b1,s1,l,e1,g1,k1⟩:=entries_ok (s:=s) h (by omega) fuel hf
 rw [bnd e1]
 dsimp only
 obtain ⟨b2,s2,v2,e2,g2,_⟩:=among_ok (s:=s1) g1 (by omega) [1,2,3,9] (by simp) (by simp)
 rw [bnd e2]
 dsimp only
 obtain ⟨v,hv,hv2⟩:=ret_seEntries l (by omega)
 rw [bnd hv]
 cases v
 ·exact ⟨_,_,_,rfl,g2.mono (by omega),by simp [nSeason,nLineS]⟩
 ·rw [cond_true]
  have hE:=hv2.1 rfl
  obtain ⟨S,q1,q2⟩:=spec_seOf_of v2 l hE.goodL (by omega) fuel hf
  rw [bnd q1]
  have hsz:=fresh_size q2
  have hlen:S.lines.length ≤ 243:=by unfold nSeason nLineS at hsz;omega
  by_cases h0:(S.lines.length:Int) > 0
  ·rw [decide_eq_true h0,cond_true]
   obtain ⟨b3,s3,v3,e3,g3,l3,u3⟩:=pick_ok (s:=s2) g2 (by omega) (S.lines.length:Int) (by omega)
   rw [bnd e3]
   dsimp only
   have hlt:v3.toNat < S.lines.length:=by omega
   have hgx:S.lines[v3.toNat]?=some S.lines[v3.toNat]:=List.getElem?_eq_getElem hlt
   have hg:getI S.lines v3=some S.lines[v3.toNat]:=by rw [getI_of (k:=v3.toNat) (by omega)];exact hgx
   have hN:=q2.2.1.1 _ (List.getElem_mem hlt)
   have hlx:=le_sum (List.getElem_mem hlt) (fun x=>nLine x)
   have hnx:nLine S.lines[v3.toNat] ≤ 243:=by unfold nSeason nLineS at hsz;omega
   have hnx2:nLine S.lines[v3.toNat]=S.lines[v3.toNat].events.length+S.lines[v3.toNat].points.length:=rfl
   rw [bnd hg]
   obtain ⟨b4,s4,v4,e4,g4,l4,u4⟩:=pick_ok (s:=s3) g3 (by omega) 36 (by omega)
   rw [bnd e4]
   dsimp only
   have hset:∀ y:Line,nLine y ≤ 300→nSeason (Season.mk S.best (S.lines.set v3.toNat y)) ≤ 1000:=fun y hy=>by
    have h1:=nS_set S.best (y:=y) hgx
    have h2:nSeason (Season.mk S.best S.lines)=nSeason S:=rfl
    omega
   cases v4 == 0
   ·rw [cond_false]
    cases v4 == 1
    ·rw [cond_false]
     cases v4 == 2
     ·rw [cond_false]
      cases v4 == 3
      ·rw [cond_false]
       cases v4 == 4
       ·rw [cond_false]
        cases v4 == 5
        ·exact ⟨_,_,_,rfl,g4.mono (by omega),by omega⟩
        ·rw [cond_true,fits_of (by simp;omega),need_t,Option.bind_some]
         refine ⟨_,_,_,rfl,g4.mono (by omega),?_⟩
         unfold nSeason nLineS at hsz ⊢
         simp only [List.length_append,List.map_append,List.sum_append,List.length_singleton,List.map_cons,List.map_nil,List.sum_cons,List.sum_nil]
         have:nLine (Line.mk 5 [] [])=0:=rfl
         omega
       ·rw [cond_true]
        have hg2:getI (S.lines.set v3.toNat (Line.mk S.lines[v3.toNat].skater [] S.lines[v3.toNat].points)) v3=some (Line.mk S.lines[v3.toNat].skater [] S.lines[v3.toNat].points):=by
         rw [getI_of (k:=v3.toNat) (by omega),List.getElem?_set_self hlt]
        rw [bnd hg2,List.set_set]
        exact ⟨_,_,_,rfl,g4.mono (by omega),hset _ (by simp [nLine,nIntS])⟩
      ·rw [cond_true,fits_of (by simp;omega),need_t,Option.bind_some]
       exact ⟨_,_,_,rfl,g4.mono (by omega),hset _ (by simp [nLine,nIntS];omega)⟩
     ·rw [cond_true]
      obtain ⟨b5,s5,v5,e5,g5,_⟩:=among_ok (s:=s4) g4 (by omega) [(-1),0,100000,100001] (by simp) (by simp)
      have hp:0 < S.lines[v3.toNat].points.length:=by rw [hN.1];exact List.length_pos_iff.2 hN.2
      rw [bnd e5,bnd (show getI S.lines[v3.toNat].points 0=some S.lines[v3.toNat].points[0] from getI_lt_some (k:=0) hp)]
      exact ⟨_,_,_,rfl,g5.mono (by omega),hset _ (by simp [nLine,nIntS];omega)⟩
    ·rw [cond_true]
     obtain ⟨b5,s5,v5,e5,g5,_⟩:=among_ok (s:=s4) g4 (by omega) [0,1,999,1000] (by simp) (by simp)
     rw [bnd e5]
     exact ⟨_,_,_,rfl,g5.mono (by omega),hset _ (by simp [nLine,nIntS];omega)⟩
   ·rw [cond_true]
    obtain ⟨b5,s5,v5,e5,g5,_⟩:=among_ok (s:=s4) g4 (by omega) [0,10] (by simp) (by simp)
    rw [bnd e5]
    exact ⟨_,_,_,rfl,g5.mono (by omega),by show nSeason (Season.mk v5 S.lines) ≤ 1000;have:nSeason (Season.mk v5 S.lines)=nSeason S:=rfl;omega⟩
  ·rw [decide_eq_false h0,cond_false]
   exact ⟨_,_,_,rfl,g2.mono (by omega),by omega⟩

end Go.Proofs.YtegdphhfimaieaaGreat

/- Plain lemmas: what the functions compute is what the reference says, in plain Lean. No condition. -/
import Derived.Test.YtegdphhfimaieabGreatPEvent4
set_option maxRecDepth 4000
set_option maxHeartbeats 1000000
set_option linter.unusedVariables false
set_option linter.unusedSimpArgs false
set_option linter.unusedSectionVars false

namespace Go.Proofs.YtegdphhfimaieabGreat
open Go.AM

theorem up_len {l:List Int} {lo hi:Int} (h:UpOk l lo hi) (hh:lo ≤ hi+1):(l.length:Int) ≤ hi - lo+1:=by
 induction l generalizing lo with
 | nil=>simp;omega
 | cons y l ih =>
  obtain ⟨h1,h2⟩:=h
  obtain ⟨h3,h4⟩:=List.pairwise_cons.1 h2
  have hy:=h1 y (by simp)
  have:=ih (lo:=y+1) ⟨fun n hn=>⟨by have:=h3 n hn;omega,(h1 n (by simp [hn])).2⟩,h4⟩ (by omega)
  rw [List.length_cons];omega
theorem ev_lens {e:Event} (h:PartOk e):e.entrants.length ≤ 40∧e.gone.length ≤ 999∧e.results.length ≤ 40∧(∀ r ∈ e.results,1 ≤ r.scores.length∧r.scores.length ≤ 3):=by
 refine ⟨h.1.2.2,?_,h.2.2.1.2.2.2,fun r hr=>(h.2.2.1.1 r hr).2.1⟩
 have:=up_len h.2.1 (by omega)
 omega
theorem copyInts_l (l:List Int) (h:l.length ≤ 1048576):impl_copyInts_p l=some l:=by
 unfold impl_copyInts_p;rw [fits_of (by omega),need_t,Option.bind_some]
theorem copyEvent_l (e:Event) (h1:e.entrants.length ≤ 1048576) (h2:e.gone.length ≤ 1048576) (h3:e.order.length ≤ 1048576):∀ (ys:List Result) (k:Nat) (acc:List Result),acc.length+ys.length ≤ 1048576→(∀ r ∈ ys,r.scores.length ≤ 1048576) →
  impl_copyEvent_l1 e ys k acc=some { e with results:=acc++ys }:=by
 intro ys
 induction ys with
 | nil =>
  intro k acc _ _
  rw [impl_copyEvent_l1,fits_of (by omega),need_t,Option.bind_some,bnd (copyInts_l _ h2),bnd (copyInts_l _ h3)]
  simp
 | cons y ys ih =>
  intro k acc h h'
  simp only [List.length_cons] at h
  rw [impl_copyEvent_l1,bnd (copyInts_l _ (h' y (by simp))),fits_of (by simp;omega),need_t,Option.bind_some,ih (k+1) _ (by simp;omega) (fun r hr=>h' r (by simp [hr]))]
  simp
theorem copyEvent_eq (e:Event) (hb:nEvent e ≤ 1048576):impl_copyEvent_p e=some e:=by
 obtain ⟨b1,b2,b3,b4,b5,b6⟩:=sizes_E hb
 exact copyEvent_l e b1 b2 b3 e.results 0 [] (by simpa using b4) b5
theorem evOwn_l (e:Event):∀ (ys:List Result) (k:Nat) (acc:List Result),acc.length+ys.length ≤ 1048576→(∀ r ∈ ys,r.scores.length ≤ 1048576) →
  spec_evOwn_l1 e e.gone e.order ys k acc=some { e with results:=acc++ys }:=by
 intro ys
 induction ys with
 | nil=>intro k acc _ _;rw [spec_evOwn_l1];simp
 | cons y ys ih =>
  intro k acc h h'
  simp only [List.length_cons] at h
  rw [spec_evOwn_l1,bnd (own_l _ (h' y (by simp))),fits_of (by simp;omega),need_t,Option.bind_some,ih (k+1) _ (by simp;omega) (fun r hr=>h' r (by simp [hr]))]
  simp
theorem evOwn_eq (e:Event) (hb:nEvent e ≤ 1048576):spec_evOwn_p e=some e:=by
 obtain ⟨b1,b2,b3,b4,b5,b6⟩:=sizes_E hb
 unfold spec_evOwn_p
 rw [fits_of (by omega),need_t,Option.bind_some,bnd (own_l _ b2),bnd (own_l _ b3)]
 exact evOwn_l e e.results 0 [] (by simpa using b4) b5
theorem idxInt (f:Int→Option Bool) (p:Int→Prop):∀ (l:List Int) (k:Nat),(∀ x ∈ l,Ret (f x) (p x))→∃ i,slices_IndexFunc_int_l1 f l k=some i∧(i ≥ 0↔∃ x ∈ l,p x):=by
 intro l
 induction l with
 | nil=>intro k _;exact ⟨-1,by rw [slices_IndexFunc_int_l1],by simp⟩
 | cons y l ih =>
  intro k h
  obtain ⟨b,h1,h2⟩:=h y (by simp)
  rw [slices_IndexFunc_int_l1,bnd h1]
  cases b
  ·obtain ⟨i,i1,i2⟩:=ih (k+1) fun x hx=>h x (by simp [hx])
   refine ⟨i,i1,i2.trans ⟨fun ⟨x,hx,hp⟩=>⟨x,by simp [hx],hp⟩,fun ⟨x,hx,hp⟩=>?_⟩⟩
   rcases List.mem_cons.1 hx with rfl | hx
   ·exact absurd (h2.2 hp) (by simp)
   ·exact ⟨x,hx,hp⟩
  ·exact ⟨_,rfl,⟨by exact fun _=>⟨y,by simp,h2.1 rfl⟩,by intro _;omega⟩⟩
theorem end_eq (e:Event) (hs:0 ≤ e.segment∧e.segment ≤ 3) (hb:e.order.length ≤ 1048576) (hp:e.order.Pairwise (fun a b=>hasE e b→hasE e a)):∃ r:Event,spec_evEnd_p e=some r∧impl_behindStep_p e=some r∧nEvent r ≤ nEvent e:=by
 unfold spec_evEnd_p impl_behindStep_p
 rcases List.eq_nil_or_concat e.order with h | ⟨q,z,h⟩
 ·rw [h]
  exact ⟨e,rfl,rfl,Nat.le_refl _⟩
 ·rw [List.concat_eq_append] at h
  have hl:e.order.length=q.length+1:=by rw [h];simp
  rw [hl]
  simp only [pos_d,opt_t,Bool.true_and]
  rw [w64_pred (by omega),bnd (getI_app (pre:=q) (y:=z) (ys:=[]) h rfl),bnd (evHas_eq e hs.1 z)]
  unfold slices_ContainsFunc_int_p slices_IndexFunc_int_p
  obtain ⟨i,i1,i2⟩:=idxInt (fun a0=>impl_behindStep_c1_p a0 e) (fun s=>¬ hasE e s) e.order 0 (fun x _=>by
   unfold impl_behindStep_c1_p
   rw [bnd (isScored_eq e x)]
   exact .some (by simp))
  rw [bnd i1,Option.bind_some]
  have key:(!(decide (i ≥ 0)))=decide (hasE e z):=by
   rw [Bool.eq_iff_iff,Bool.not_eq_true',decide_eq_false_iff_not,decide_eq_true_eq,i2]
   constructor
   ·intro k
    by_cases hz:hasE e z
    ·exact hz
    ·exact absurd ⟨z,by rw [h];simp,hz⟩ k
   ·rintro k ⟨x,hx,hn⟩
    rw [h] at hx hp
    rcases List.mem_append.1 hx with hx | hx
    ·exact hn ((List.pairwise_append.1 hp).2.2 x hx z (by simp) k)
    ·obtain rfl:=List.mem_singleton.1 hx;exact hn k
  rw [key]
  cases decide (hasE e z)
  ·exact ⟨e,rfl,rfl,Nat.le_refl _⟩
  ·refine ⟨_,rfl,rfl,?_⟩
   unfold nEvent
   simp only [show nIntS []=0 from rfl]
   omega
theorem running (e:Event) (hb:nEvent e ≤ 1048576) (fuel:Nat) (hf:1048576 < fuel):(spec_evGood_p fuel e=some true∧impl_isRunning_p e=some (decide (e.segment < e.segments))∧EvOk e) ∨ (spec_evGood_p fuel e=some false∧impl_isRunning_p e=some false):=by
 unfold impl_isRunning_p
 rcases both_event e hb fuel hf with ⟨h1,h2,h3⟩ | ⟨h1,h2⟩
 ·left;rw [bnd h2];exact ⟨h1,rfl,h3⟩
 ·right;rw [bnd h2];exact ⟨h1,rfl⟩
def noE:Event:=Event.mk 0 0 0 [] [] 0 [] []
theorem asked (e:Event) (s:Step) (fuel:Nat) (hg:spec_evGood_p fuel e=some true) (hlt:e.segment < e.segments):spec_evAsked_p fuel e s =
  cond (s.kind == 1) (spec_evEnter_p fuel e (Entrant.mk s.skater s.number)) (cond (s.kind == 2) (spec_evLeave_p fuel e s.skater) (cond (s.kind == 3) (spec_evDraw_p fuel e) (cond (s.kind == 4) (spec_evScore_p fuel e s.number) (some (noE,false))))):=by
 unfold spec_evAsked_p
 rw [bnd hg]
 simp only [Bool.not_true,cond_false]
 unfold spec_evStep_p
 rw [show (e.segment == e.segments)=false from by simp only [beq_eq_false_iff_ne,ne_eq];omega,cond_false]
 have id2:∀ o:Option (Event × Bool),(o.bind fun x=>some (Event.mk x.1.segments x.1.size x.1.key x.1.entrants x.1.gone x.1.segment x.1.order x.1.results,x.2))=o:=by
  intro o;cases o <;> rfl
 rw [id2]
 cases (s.kind == 1) <;> simp only [cond_true,cond_false]
 ·cases (s.kind == 2) <;> simp only [cond_true,cond_false]
  ·cases (s.kind == 3) <;> simp only [cond_true,cond_false]
   ·cases (s.kind == 4) <;> simp only [cond_true,cond_false]
    ·rfl
    ·exact id2 _
   ·exact id2 _
  ·exact id2 _
 ·exact id2 _
theorem asked_over (e:Event) (s:Step) (fuel:Nat) (hg:spec_evGood_p fuel e=some true) (hlt:¬ e.segment < e.segments) (hle:e.segment ≤ e.segments):spec_evAsked_p fuel e s=some (noE,false):=by
 unfold spec_evAsked_p
 rw [bnd hg]
 simp only [Bool.not_true,cond_false]
 unfold spec_evStep_p
 rw [show (e.segment == e.segments)=true from by simp only [beq_iff_eq];omega,cond_true]
 rfl
theorem asked_bad (e:Event) (s:Step) (fuel:Nat) (hg:spec_evGood_p fuel e=some false):spec_evAsked_p fuel e s=some (noE,false):=by
 unfold spec_evAsked_p
 rw [bnd hg]
 rfl
theorem repl_succ (n:Nat):List.replicate n (-1:Int)++[-1]=List.replicate (n+1) (-1):=by rw [List.replicate_succ']
theorem enter_l (e:Event) (x:Entrant) (n:Nat) (hn:e.segments=(n:Int)) (h3:n ≤ 3) (hr:e.results.length ≤ 1048576):∀ (m j:Nat) (fuel:Nat),j+m=n→m < fuel →
  spec_evEnter_l1 e x e fuel (List.replicate j (-1)) (j:Int)=some ({ e with entrants:=e.entrants++[x],results:=e.results++[Result.mk x.skater (List.replicate n (-1))] },true) ∧
  impl_EnterSkater_l1 e x e fuel (List.replicate j (-1)) (j:Int)=some ({ e with entrants:=e.entrants++[x],results:=e.results++[Result.mk x.skater (List.replicate n (-1))] },true):=by
 intro m
 induction m with
 | zero =>
  intro j fuel h hf
  obtain ⟨f,rfl⟩:=Nat.exists_eq_succ_of_ne_zero (by omega:fuel ≠ 0)
  obtain rfl:j=n:=by omega
  rw [spec_evEnter_l1,impl_EnterSkater_l1,decide_eq_false (by omega),cond_false,fits_of (by simp;omega),need_t,Option.bind_some]
  exact ⟨rfl,rfl⟩
 | succ m ih =>
  intro j fuel h hf
  obtain ⟨f,rfl⟩:=Nat.exists_eq_succ_of_ne_zero (by omega:fuel ≠ 0)
  rw [spec_evEnter_l1,impl_EnterSkater_l1,decide_eq_true (by omega),cond_true,fits_of (by simp;omega),need_t,Option.bind_some,Option.bind_some,w64_in (by omega),repl_succ]
  exact ih (j+1) f (by omega) (by omega)
theorem n_enter (e:Event) (x:Entrant) (n:Nat) (h:n ≤ 3):nEvent { e with entrants:=e.entrants++[x],results:=e.results++[Result.mk x.skater (List.replicate n (-1))] } ≤ nEvent e+5:=by
 have h1:nEntrantS (e.entrants++[x])=nEntrantS e.entrants+1:=by unfold nEntrantS;simp
 have h2:nResultS (e.results++[Result.mk x.skater (List.replicate n (-1))])=nResultS e.results+1+n:=by
  unfold nResultS nResult nIntS
  simp
  omega
 unfold nEvent
 dsimp only
 rw [h1,h2];omega
theorem same_EnterSkater (e:Event) (hb:nEvent e ≤ 1048576) (x:Entrant) (fuel:Nat) (hf:1048576 < fuel):∃ r:Event × Bool,spec_EnterSkater_p fuel e x=some r∧impl_EnterSkater_p fuel e x=some r∧nEvent r.1 ≤ 1048581:=by
 obtain ⟨b1,b2,b3,b4,b5,b6⟩:=sizes_E hb
 have hno:nEvent noE ≤ 1048581:=Nat.zero_le _
 have id2:∀ o:Option (Event × Bool),(o.bind fun x=>some (Event.mk x.1.segments x.1.size x.1.key x.1.entrants x.1.gone x.1.segment x.1.order x.1.results,x.2))=o:=by
  intro o;cases o <;> rfl
 unfold spec_EnterSkater_p impl_EnterSkater_p
 rw [id2]
 rcases running e hb fuel hf with ⟨h1,h2,h3⟩ | ⟨h1,h2⟩
 ·rw [bnd h2]
  have hseg:=h3.1.2.2.2.1
  have hsegs:=h3.1.1
  by_cases hlt:e.segment < e.segments
  ·rw [decide_eq_true hlt,asked e _ fuel h1 hlt]
   rw [show ((Step.mk 1 x.skater x.rank).kind == 1)=true from rfl,cond_true]
   simp only [Bool.not_true,Bool.false_or]
   unfold spec_evEnter_p
   rw [bnd (evOwn_eq e hb),fits_of (by simp;omega),need_t,Option.bind_some]
   cases hc:(decide (e.segment > 0) || decide ((e.order.length:Int) > 0))
   ·simp only [Bool.not_false,opt_t,Bool.false_or,cond_false]
    obtain ⟨b,e1,e2⟩:=ret_soEntrants (e.entrants++[x]) (by have:=h3.1.2.2.2.2.2.1.1.2.2;simp;omega)
    obtain ⟨b',e3,e4⟩:=ret_AreEntrants (e.entrants++[x]) (by have:=h3.1.2.2.2.2.2.1.1.2.2;simp;omega)
    obtain rfl:b=b':=Bool.eq_iff_iff.2 (e2.trans e4.symm)
    rw [bnd (copyEvent_eq e hb),fits_of (by simp;omega),need_t,Option.bind_some]
    have hx:(⟨x.skater,x.rank⟩:Entrant)=x:=rfl
    rw [hx,bnd e1,bnd e3]
    cases b
    ·exact ⟨_,rfl,rfl,hno⟩
    ·simp only [Bool.not_true,cond_false]
     obtain ⟨n,hn⟩:∃ n:Nat,e.segments=(n:Int):=⟨e.segments.toNat,by omega⟩
     obtain ⟨k1,k2⟩:=enter_l e x n hn (by omega) b4 n 0 fuel (by omega) (by omega)
     exact ⟨_,k1,k2,by have:=n_enter e x n (by omega);dsimp only;omega⟩
   ·exact ⟨_,rfl,rfl,hno⟩
  ·rw [decide_eq_false hlt,asked_over e _ fuel h1 hlt hseg.2]
   exact ⟨_,rfl,rfl,hno⟩
 ·rw [bnd h2,asked_bad e _ fuel h1]
  exact ⟨_,rfl,rfl,hno⟩
theorem there_l (e:Event):∀ (ys:List Entrant) (k:Nat) (acc:List Entrant),acc.length+ys.length ≤ 1048576→spec_evThere_l1 e ys k acc=some (acc++ys.filter fun x=>decide (x.skater ∉ e.gone)):=by
 intro ys
 induction ys with
 | nil=>intro k acc _;rw [spec_evThere_l1];simp
 | cons y ys ih =>
  intro k acc h
  simp only [List.length_cons] at h
  rw [spec_evThere_l1]
  obtain ⟨b,h1,h2⟩:=ret_l1Has e.gone y.skater
  rw [bnd h1]
  cases b
  ·have hy:y.skater ∉ e.gone:=fun k=>by simpa using h2.2 k
   simp only [Bool.not_false,cond_true]
   rw [fits_of (by simp;omega),need_t,Option.bind_some,ih (k+1) _ (by simp;omega)]
   simp [hy]
  ·have hy:y.skater ∈ e.gone:=h2.1 rfl
   simp only [Bool.not_true,cond_false]
   rw [ih (k+1) _ (by omega)]
   simp [hy]
theorem there_eq (e:Event) (h:e.entrants.length ≤ 1048576):spec_evThere_p e=some (e.entrants.filter fun x=>decide (x.skater ∉ e.gone)):=there_l e e.entrants 0 [] (by simpa using h)
theorem leave_l (e:Event) (s:Int) (fuel:Nat):∀ (ys:List Entrant) (k:Nat) (v:Bool),spec_evLeave_l1 e s fuel ys k v=spec_evLeave_l1 e s fuel [] 0 (v || decide (s ∈ ys.map fun x=>x.skater)):=by
 intro ys
 induction ys with
 | nil=>intro k v;rw [spec_evLeave_l1,spec_evLeave_l1];simp
 | cons y ys ih =>
  intro k v
  have hu:spec_evLeave_l1 e s fuel (y::ys) k v=spec_evLeave_l1 e s fuel ys (k+1) (v || (y.skater == s)):=by rw [spec_evLeave_l1]
  rw [hu,ih]
  congr 1
  by_cases h:y.skater=s
  ·simp [h]
  ·rw [show (y.skater == s)=false from by simpa using h,Bool.or_false]
   have h':¬ s=y.skater:=fun e=>h e.symm
   simp [decide_eq_false h']
theorem paWithout_l (g:Int):∀ (ys:List Int) (k:Nat) (acc:List Int),acc.length+ys.length ≤ 1048576→spec_paWithout_l1 g ys k acc=some (acc++ys.filter fun n=>decide (n ≠ g)):=by
 intro ys
 induction ys with
 | nil=>intro k acc _;rw [spec_paWithout_l1];simp
 | cons y ys ih =>
  intro k acc h
  simp only [List.length_cons] at h
  rw [spec_paWithout_l1]
  by_cases hy:y=g
  ·rw [show (y != g)=false from by simp [hy],cond_false,ih (k+1) _ (by omega)]
   simp [hy]
  ·rw [show (y != g)=true from by simp [hy],cond_true,fits_of (by simp;omega),need_t,Option.bind_some,ih (k+1) _ (by simp;omega)]
   simp [hy]
theorem paWithout_eq (l:List Int) (g:Int) (h:l.length ≤ 1048576):spec_paWithout_p l g=some (l.filter fun n=>decide (n ≠ g)):=paWithout_l g l 0 [] (by simpa using h)
theorem n_parts (e:Event) (g o:List Int) (R:List Result) (hg:g.length ≤ e.gone.length+1) (ho:o.length ≤ e.order.length) (hr:nResultS R=nResultS e.results):nEvent (Event.mk e.segments e.size e.key e.entrants g e.segment o R) ≤ nEvent e+1:=by
 unfold nEvent nIntS
 dsimp only
 rw [hr];omega
theorem same_LeaveEvent (e:Event) (hb:nEvent e ≤ 1048576) (s:Int) (fuel:Nat) (hf:1048576 < fuel):∃ r:Event × Bool,spec_LeaveEvent_p fuel e s=some r∧impl_LeaveEvent_p e s=some r∧nEvent r.1 ≤ 1048581:=by
 obtain ⟨b1,b2,b3,b4,b5,b6⟩:=sizes_E hb
 have hno:nEvent noE ≤ 1048581:=Nat.zero_le _
 have id2:∀ o:Option (Event × Bool),(o.bind fun x=>some (Event.mk x.1.segments x.1.size x.1.key x.1.entrants x.1.gone x.1.segment x.1.order x.1.results,x.2))=o:=by
  intro o;cases o <;> rfl
 unfold spec_LeaveEvent_p impl_LeaveEvent_p
 rw [id2]
 rcases running e hb fuel hf with ⟨h1,h2,h3⟩ | ⟨h1,h2⟩
 ·rw [bnd h2]
  have hseg:=h3.1.2.2.2.1
  have hsegs:=h3.1.1
  have hpart:=h3.1.2.2.2.2.2.1
  by_cases hlt:e.segment < e.segments
  ·rw [decide_eq_true hlt,asked e _ fuel h1 hlt]
   rw [show ((Step.mk 2 s 0).kind == 1)=false from rfl,cond_false,show ((Step.mk 2 s 0).kind == 2)=true from rfl,cond_true]
   simp only [Bool.not_true,Bool.not_false,Bool.false_or,opt_t]
   unfold spec_evLeave_p
   rw [bnd (there_eq e b1),leave_l,Bool.false_or]
   obtain ⟨b,t1,t2⟩:=ret_isThere e s
   have hm:decide (s ∈ (e.entrants.filter fun x=>decide (x.skater ∉ e.gone)).map fun x=>x.skater)=b:=by
    rw [Bool.eq_iff_iff,decide_eq_true_eq,t2,List.mem_map]
    constructor
    ·rintro ⟨x,hx,rfl⟩
     obtain ⟨q1,q2⟩:=List.mem_filter.1 hx
     exact ⟨List.mem_map.2 ⟨x,q1,rfl⟩,of_decide_eq_true q2⟩
    ·rintro ⟨q1,q2⟩
     obtain ⟨x,hx,rfl⟩:=List.mem_map.1 q1
     exact ⟨x,List.mem_filter.2 ⟨hx,decide_eq_true q2⟩,rfl⟩
   rw [hm,bnd t1,spec_evLeave_l1]
   cases b
   ·exact ⟨_,rfl,rfl,hno⟩
   ·simp only [Bool.not_true,cond_false]
    have hsg:=(t2.1 rfl).2
    obtain ⟨l1,l2,l3,l4⟩:=ev_lens hpart
    obtain ⟨g,g1,g2,g3,g4⟩:=put_eq e.gone s hpart.2.1.2 (by omega) fuel hf
    rw [bnd (evOwn_eq e hb),bnd (copyEvent_eq e hb),bnd g1,fits_of (by simp;omega),need_t,Option.bind_some]
    have hgs:slices_Sort_int_p (e.gone++[s])=some g:=by
     unfold slices_Sort_int_p
     rw [show Nat.blt (e.gone++[s]).length 4611686018427387904=true from by rw [Nat.blt_eq];simp;omega,need_t,Option.bind_some]
     congr 1
     have hnd:(sortI (e.gone++[s])).Nodup:=by
      rw [(sortI_perm _).nodup_iff,List.nodup_append]
      refine ⟨hpart.2.1.2.imp fun h=>by omega,by simp,fun a ha b hb' e'=>?_⟩
      obtain rfl:=List.mem_singleton.1 hb'
      exact hsg (e' ▸ ha)
     have hlt':(sortI (e.gone++[s])).Pairwise (· < ·):=((sortI_le (e.gone++[s])).and hnd).imp fun h=>by omega
     refine lt_mem_eq hlt' g2 fun x=>?_
     rw [(sortI_perm _).mem_iff,g3,List.mem_append,List.mem_singleton]
    rw [bnd hgs]
    rw [bnd (evHas_eq e hseg.1 s),bnd (isScored_eq _ s)]
    rw [show decide (hasE { segments:=e.segments,size:=e.size,key:=e.key,entrants:=e.entrants,gone:=g,segment:=e.segment,order:=e.order,results:=e.results } s)=decide (hasE e s) from rfl]
    cases decide (hasE e s)
    ·simp only [Bool.not_false,cond_true]
     rw [bnd (paWithout_eq e.order s b3),bnd (without_eq e.order [s] b3)]
     rw [show (e.order.filter fun n=>decide (n ∉ [s]))=e.order.filter fun n=>decide (n ≠ s) from by congr 1;funext n;simp]
     obtain ⟨r,r1,r2,r3⟩:=end_eq (Event.mk e.segments e.size e.key e.entrants g e.segment (e.order.filter fun n=>decide (n ≠ s)) e.results) (by dsimp only;omega) (Nat.le_trans (List.length_filter_le _ _) b3) (h3.2.2.2.1.filter _)
     rw [bnd r1,bnd r2]
     refine ⟨_,rfl,rfl,?_⟩
     have:=n_parts e g (e.order.filter fun n=>decide (n ≠ s)) e.results g4 (List.length_filter_le _ _) rfl
     dsimp only
     omega
    ·simp only [Bool.not_true,cond_false]
     obtain ⟨r,r1,r2,r3⟩:=end_eq (Event.mk e.segments e.size e.key e.entrants g e.segment e.order e.results) (by dsimp only;omega) b3 h3.2.2.2.1
     rw [bnd r1,bnd r2]
     refine ⟨_,rfl,rfl,?_⟩
     have:=n_parts e g e.order e.results g4 (Nat.le_refl _) rfl
     dsimp only
     omega
  ·rw [decide_eq_false hlt,asked_over e _ fuel h1 hlt hseg.2]
   exact ⟨_,rfl,rfl,hno⟩
 ·rw [bnd h2,asked_bad e _ fuel h1]
  exact ⟨_,rfl,rfl,hno⟩
def updR (e:Event) (score next:Int) (r:Result):Result:=if r.skater=next then Result.mk r.skater (r.scores.set e.segment.toNat score) else r
theorem score_l (e:Event) (score nx:Int) (hs:0 ≤ e.segment) (hl:e.results.length ≤ 1000) (hsc:∀ r ∈ e.results,e.segment < (r.scores.length:Int)):∀ (ys pre:List Result) (fuel:Nat),ys.length < fuel→e.results=pre++ys →
  spec_evScore_l1 e score nx e fuel (pre.map (updR e score nx)++ys) (pre.map (updR e score nx)++ys) (pre.length:Int)=(spec_evEnd_p { e with results:=e.results.map (updR e score nx) }).bind (fun x=>some (x,true)) ∧
  impl_GiveScore_l1 e score e nx fuel (pre.map (updR e score nx)++ys) (pre.map (updR e score nx)++ys) (pre.length:Int)=(impl_behindStep_p { e with results:=e.results.map (updR e score nx) }).bind (fun x=>some (x,true)):=by
 intro ys
 induction ys with
 | nil =>
  intro pre fuel hf h
  obtain ⟨f,rfl⟩:=Nat.exists_eq_succ_of_ne_zero (by omega:fuel ≠ 0)
  rw [List.append_nil] at h ⊢
  rw [spec_evScore_l1,impl_GiveScore_l1,decide_eq_false (by rw [h];omega),cond_false,cond_false,← h]
  exact ⟨rfl,rfl⟩
 | cons y ys ih =>
  intro pre fuel hf h
  obtain ⟨f,rfl⟩:=Nat.exists_eq_succ_of_ne_zero (by omega:fuel ≠ 0)
  simp only [List.length_cons] at hf
  have hk:pre.length < 1000:=by rw [h] at hl;simp at hl;omega
  have hlt:(pre.length:Int) < (e.results.length:Int):=by rw [h];simp;omega
  have hml:(pre.map (updR e score nx)).length=pre.length:=List.length_map _
  have hg:getI (pre.map (updR e score nx)++y::ys) (pre.length:Int)=some y:=getI_pre _ _ _ (by rw [hml])
  have hst:∀ z:Result,(pre.map (updR e score nx)++y::ys).set ((pre.length:Int).toNat) z=pre.map (updR e score nx)++z::ys:=by
   intro z
   rw [← hml];exact set_pre1 _ y z ys
  have nx':=ih (pre++[y]) f (by omega) (by rw [h];simp)
  rw [List.map_append,List.map_cons,List.map_nil,List.append_assoc,List.singleton_append,show (((pre++[y]).length:Nat):Int)=(pre.length:Int)+1 from by simp] at nx'
  rw [spec_evScore_l1,impl_GiveScore_l1,decide_eq_true hlt,cond_true,cond_true,bnd hg,bnd hg,hst y,w64_in (by omega)]
  have hy:y ∈ e.results:=by rw [h];simp
  by_cases c:y.skater=nx
  ·rw [show (y.skater == nx)=true from by simpa using c,cond_true,cond_true,bnd hg]
   have hsy:=hsc y hy
   obtain ⟨v,hv⟩:∃ v,getI y.scores e.segment=some v:=⟨_,by rw [getI_of (k:=e.segment.toNat) (by omega)];exact List.getElem?_eq_getElem (by omega)⟩
   rw [bnd hv,bnd hv,hst]
   have hu:updR e score nx y=Result.mk y.skater (y.scores.set e.segment.toNat score):=if_pos c
   rw [hu] at nx'
   exact nx'
  ·rw [show (y.skater == nx)=false from by simpa using c,cond_false,cond_false]
   have hu:updR e score nx y=y:=if_neg c
   rw [hu] at nx'
   exact nx'
theorem scR_upd (e:Event) (score nx s:Int) (h:s ≠ nx):∀ l:List Result,scR (l.map (updR e score nx)) s=scR l s:=by
 intro l
 induction l with
 | nil=>rfl
 | cons y l ih =>
  rw [List.map_cons,scR,scR,ih]
  by_cases c:y.skater=nx
  ·have hu:updR e score nx y=Result.mk y.skater (y.scores.set e.segment.toNat score):=if_pos c
   rw [hu]
   dsimp only
   rw [if_neg (fun e=>h (e.symm.trans c)),if_neg (fun e=>h (e.symm.trans c))]
  ·have hu:updR e score nx y=y:=if_neg c
   rw [hu]
theorem n_upd (e:Event) (score nx:Int):∀ l:List Result,nResultS (l.map (updR e score nx))=nResultS l:=by
 intro l
 unfold nResultS
 rw [List.length_map,List.map_map]
 congr 3
 funext r
 show nResult (updR e score nx r)=nResult r
 unfold updR
 split
 ·unfold nResult nIntS;simp
 ·rfl
theorem next_is (e:Event) (h0:0 ≤ e.segment):∀ (l:List Int) (k:Nat),(∀ s ∈ l,s ≠ 0)→∃ r,spec_evNext_l1 e l k=some r∧impl_nextSkater_l1 e l k=some r∧((r=0∧∀ s ∈ l,hasE e s) ∨ (r ≠ 0∧∃ A B,l=A++r::B∧(∀ s ∈ A,hasE e s)∧¬ hasE e r)):=by
 intro l
 induction l with
 | nil=>intro k _;exact ⟨0,by rw [spec_evNext_l1],by rw [impl_nextSkater_l1],.inl ⟨rfl,by simp⟩⟩
 | cons y l ih =>
  intro k h
  rw [spec_evNext_l1,impl_nextSkater_l1,bnd (evHas_eq e h0 y),bnd (isScored_eq e y)]
  by_cases c:hasE e y
  ·rw [decide_eq_true c]
   simp only [Bool.not_true,cond_false]
   obtain ⟨r,r1,r2,r3⟩:=ih (k+1) fun s hs=>h s (by simp [hs])
   refine ⟨r,r1,r2,?_⟩
   rcases r3 with ⟨q1,q2⟩ | ⟨q1,A,B,q2,q3,q4⟩
   ·exact .inl ⟨q1,fun s hs=>by rcases List.mem_cons.1 hs with rfl | hs;exact c;exact q2 s hs⟩
   ·exact .inr ⟨q1,y::A,B,by rw [q2];rfl,fun s hs=>by rcases List.mem_cons.1 hs with rfl | hs;exact c;exact q3 s hs,q4⟩
  ·rw [decide_eq_false c]
   exact ⟨y,rfl,rfl,.inr ⟨h y (by simp),[],l,rfl,by simp,c⟩⟩
theorem same_GiveScore (e:Event) (hb:nEvent e ≤ 1048576) (score:Int) (fuel:Nat) (hf:1048576 < fuel):∃ r:Event × Bool,spec_GiveScore_p fuel e score=some r∧impl_GiveScore_p fuel e score=some r∧nEvent r.1 ≤ 1048581:=by
 obtain ⟨b1,b2,b3,b4,b5,b6⟩:=sizes_E hb
 have hno:nEvent noE ≤ 1048581:=Nat.zero_le _
 have id2:∀ o:Option (Event × Bool),(o.bind fun x=>some (Event.mk x.1.segments x.1.size x.1.key x.1.entrants x.1.gone x.1.segment x.1.order x.1.results,x.2))=o:=by
  intro o;cases o <;> rfl
 unfold spec_GiveScore_p impl_GiveScore_p
 rw [id2]
 rcases running e hb fuel hf with ⟨h1,h2,h3⟩ | ⟨h1,h2⟩
 ·rw [bnd h2]
  have hseg:=h3.1.2.2.2.1
  have hsegs:=h3.1.1
  have hpart:=h3.1.2.2.2.2.2.1
  have hord:=h3.1.2.2.2.2.1
  by_cases hlt:e.segment < e.segments
  ·rw [decide_eq_true hlt,asked e _ fuel h1 hlt]
   rw [show ((Step.mk 4 0 score).kind == 1)=false from rfl,cond_false,show ((Step.mk 4 0 score).kind == 2)=false from rfl,cond_false,show ((Step.mk 4 0 score).kind == 3)=false from rfl,cond_false,show ((Step.mk 4 0 score).kind == 4)=true from rfl,cond_true]
   simp only [Bool.not_true,Bool.false_or]
   unfold spec_evScore_p
   obtain ⟨n,n1,n2,n3⟩:=next_is e hseg.1 e.order 0 fun s hs=>by have:=hord.1 s hs;omega
   rw [bnd (show spec_evNext_p e=some n from n1)]
   by_cases c:e.order=[]
   ·have hn0:n=0:=by
     rcases n3 with ⟨q,_⟩ | ⟨_,A,B,q,_⟩
     ·exact q
     ·rw [c] at q;cases A <;> cases q
    rw [hn0,c]
    exact ⟨_,rfl,rfl,hno⟩
   ·have hpos:=List.length_pos_iff.2 c
    have hn0:n ≠ 0:=by
     rintro rfl
     rcases n3 with ⟨_,q⟩ | ⟨q,_⟩
     ·have hl:e.order.getLast?=some (e.order.getLast c):=List.getLast?_eq_some_getLast c
      exact h3.2.2.2.2 _ hl (q _ (List.getLast_mem c))
     ·exact q rfl
    rw [show (n == 0)=false from by simpa using hn0,show ((e.order.length:Int) == 0)=false from by simp only [beq_eq_false_iff_ne,ne_eq];omega]
    simp only [Bool.not_false,opt_t,Bool.false_or]
    obtain ⟨b,e1,e2⟩:=ret_l1In score 0 100000
    obtain ⟨b',e3,e4⟩:=ret_within score 0 100000
    obtain rfl:b=b':=Bool.eq_iff_iff.2 (e2.trans e4.symm)
    rw [bnd e1,bnd e3]
    cases b
    ·exact ⟨_,rfl,rfl,hno⟩
    ·simp only [Bool.not_true,cond_false]
     rw [bnd (evOwn_eq e hb),bnd (copyEvent_eq e hb),bnd (show impl_nextSkater_p e=some n from n2)]
     obtain ⟨l1,l2,l3,l4⟩:=ev_lens hpart
     obtain ⟨s1,s2⟩:=score_l e score n hseg.1 (by omega) (fun r hr=>by have:=hpart.2.2.2.2.1 r hr;omega) e.results [] fuel (by omega) rfl
     have hpw:e.order.Pairwise (fun a b=>hasE { e with results:=e.results.map (updR e score n) } b→hasE { e with results:=e.results.map (updR e score n) } a):=by
      rcases n3 with ⟨q,_⟩ | ⟨_,A,B,q,q2,q3⟩
      ·exact absurd q hn0
      have hdn:=hord.2.1
      have hpr:=h3.2.2.2.1
      have hsame:∀ s,s ≠ n→(hasE { e with results:=e.results.map (updR e score n) } s↔hasE e s):=fun s hs=>by
       unfold hasE
       dsimp only
       rw [scR_upd e score n s hs]
      rw [q] at hdn hpr ⊢
      obtain ⟨d1,d2,d3⟩:=List.pairwise_append.1 hdn
      obtain ⟨d4,d5⟩:=List.pairwise_cons.1 d2
      obtain ⟨p1,p2,p3⟩:=List.pairwise_append.1 hpr
      obtain ⟨p4,p5⟩:=List.pairwise_cons.1 p2
      have hA:∀ s ∈ A,hasE { e with results:=e.results.map (updR e score n) } s:=fun s hs=>(hsame s (d3 s hs n (by simp))).2 (q2 s hs)
      have hB:∀ s ∈ B,¬ hasE { e with results:=e.results.map (updR e score n) } s:=fun s hs k=>q3 (p4 s hs ((hsame s (fun e=>d4 s hs e.symm)).1 k))
      rw [List.pairwise_append]
      refine ⟨?_,List.pairwise_cons.2 ⟨fun b hb k=>absurd k (hB b hb),?_⟩,fun a ha b _ _=>hA a ha⟩
      ·exact p1.imp_of_mem fun ha _ _ _=>hA _ ha
      ·exact p5.imp_of_mem fun _ hb _ k=>absurd k (hB _ hb)
     obtain ⟨r,r1,r2,r3⟩:=end_eq { e with results:=e.results.map (updR e score n) } (by dsimp only;omega) b3 hpw
     rw [bnd r1] at s1
     rw [bnd r2] at s2
     refine ⟨_,s1,s2,?_⟩
     have hn:=n_upd e score n e.results
     have:nEvent { e with results:=e.results.map (updR e score n) }=nEvent e:=by unfold nEvent;dsimp only;rw [hn]
     dsimp only
     omega
  ·rw [decide_eq_false hlt,asked_over e _ fuel h1 hlt hseg.2]
   exact ⟨_,rfl,rfl,hno⟩
 ·rw [bnd h2,asked_bad e _ fuel h1]
  exact ⟨_,rfl,rfl,hno⟩

end Go.Proofs.YtegdphhfimaieabGreat

/- Plain lemmas: what the functions compute is what the reference says, in plain Lean. No condition. -/
import Derived.Test.YtegdphhfimaieabGreatPEvent2
set_option maxRecDepth 4000
set_option maxHeartbeats 1000000
set_option linter.unusedVariables false
set_option linter.unusedSimpArgs false
set_option linter.unusedSectionVars false

namespace Go.Proofs.YtegdphhfimaieabGreat
open Go.AM

def skE (e:Event):List Int:=e.entrants.map fun x=>x.skater
def PartOk (e:Event):Prop:=EntrOk e.entrants∧UpOk e.gone 1 999∧ResOk e.results∧(e.results.map fun r=>r.skater)=skE e∧(∀ r ∈ e.results,(r.scores.length:Int)=e.segments)∧(∀ n ∈ e.gone,n ∈ skE e)
def HeadOk (e:Event):Prop:=(1 ≤ e.segments∧e.segments ≤ 3)∧(1 ≤ e.size∧e.size ≤ 8)∧(0 ≤ e.key∧e.key ≤ 1000000000)∧(0 ≤ e.segment∧e.segment ≤ e.segments)∧OrderOk e.order∧PartOk e∧(∀ n ∈ e.order,n ∈ skE e)
theorem sizes_E {e:Event} (hb:nEvent e ≤ 1048576):e.entrants.length ≤ 1048576∧e.gone.length ≤ 1048576∧e.order.length ≤ 1048576∧e.results.length ≤ 1048576∧(∀ r ∈ e.results,r.scores.length ≤ 1048576)∧e.gone.length+e.order.length ≤ 1048576:=by
 unfold nEvent nEntrantS nIntS nResultS at hb
 refine ⟨by omega,by omega,by omega,by omega,fun r hr=>?_,by omega⟩
 have:=le_sum hr (fun x=>nResult x)
 have h2:nResult r=r.scores.length:=rfl
 omega
theorem evHead_l2 (e:Event) (S x:List Int) (hx:(x++e.order).length ≤ 1048576):∀ (ys pre:List Int) (fuel:Nat),ys.length < fuel→x++e.order=pre++ys→Ret (spec_evHead_l2 e S x fuel (pre.length:Int)) (∀ n ∈ ys,n ∈ S):=by
 intro ys
 induction ys with
 | nil =>
  intro pre fuel hf h
  obtain ⟨f,rfl⟩:=Nat.exists_eq_succ_of_ne_zero (by omega:fuel ≠ 0)
  rw [spec_evHead_l2,h]
  rw [decide_eq_false (by simp),cond_false]
  exact .t (by simp)
 | cons y ys ih =>
  intro pre fuel hf h
  obtain ⟨f,rfl⟩:=Nat.exists_eq_succ_of_ne_zero (by omega:fuel ≠ 0)
  simp only [List.length_cons] at hf
  have hpre:pre.length ≤ 1048575:=by rw [h] at hx;simp at hx;omega
  rw [spec_evHead_l2,h]
  rw [decide_eq_true (by simp;omega),cond_true,bnd (getI_pre1 pre y ys)]
  refine (ret_l1Has S y).bindR (fun hin=>?_) (fun hin=>.f fun k=>hin (k y (by simp)))
  simp only [Bool.not_true,cond_false]
  have:=ih (pre++[y]) f (by omega) (by rw [h];simp)
  rw [show (((pre++[y]).length:Nat):Int)=(pre.length:Int)+1 from by simp] at this
  rw [w64_in (by omega)]
  refine this.iff ⟨fun k n hn=>?_,fun k n hn=>k n (by simp [hn])⟩
  rcases List.mem_cons.1 hn with rfl | hn
  ·exact hin
  ·exact k n hn
theorem own_l (l:List Int) (h:l.length ≤ 1048576):spec_l1Own_p l=some l:=by
 unfold spec_l1Own_p;rw [fits_of (by omega),need_t,Option.bind_some]
theorem without_l (o:List Int):∀ (ys:List Int) (k:Nat) (acc:List Int),acc.length+ys.length ≤ 1048576→impl_without_l1 o ys k acc=some (acc++ys.filter fun n=>decide (n ∉ o)):=by
 intro ys
 induction ys with
 | nil=>intro k acc _;rw [impl_without_l1];simp
 | cons y ys ih =>
  intro k acc h
  simp only [List.length_cons] at h
  rw [impl_without_l1]
  obtain ⟨b,h1,h2⟩:=contains_eq o y
  rw [bnd h1]
  cases b
  ·have hy:y ∉ o:=fun k=>by simpa using h2.2 k
   simp only [Bool.not_false,cond_true]
   rw [fits_of (by simp;omega),need_t,Option.bind_some,ih (k+1) _ (by simp;omega)]
   simp [hy]
  ·have hy:y ∈ o:=h2.1 rfl
   simp only [Bool.not_true,cond_false]
   rw [ih (k+1) _ (by omega)]
   simp [hy]
theorem without_eq (l o:List Int) (h:l.length ≤ 1048576):impl_without_p l o=some (l.filter fun n=>decide (n ∉ o)):=without_l o l 0 [] (by simpa using h)
theorem heads_spec (e:Event) (fuel:Nat) (hlen:e.results.length=e.entrants.length) (hl:e.entrants.length ≤ 1048576) (P:Prop) (hP:(e.results.map fun r=>r.skater)=skE e→(∀ r ∈ e.results,(r.scores.length:Int)=e.segments) →
   Ret ((spec_l1Own_p e.gone).bind fun x34=>(need (fitsB 8 (x34.length+e.order.length))).bind fun u36=>spec_evHead_l2 e (skE e) x34 fuel 0) P)
  (hN:P→(e.results.map fun r=>r.skater)=skE e∧∀ r ∈ e.results,(r.scores.length:Int)=e.segments):∀ (ys pre:List Entrant) (rs rp:List Result),e.entrants=pre++ys→e.results=rp++rs→rp.length=pre.length →
   (rp.map fun r=>r.skater)=(pre.map fun x=>x.skater)→(∀ r ∈ rp,(r.scores.length:Int)=e.segments)→Ret (spec_evHead_l1 e fuel ys pre.length (pre.map fun x=>x.skater)) P:=by
 intro ys
 induction ys with
 | nil =>
  intro pre rs rp h1 h2 h3 h4 h5
  rw [List.append_nil] at h1
  have hrs:rs=[]:=by
   have:rs.length=0:=by
    have e1:=congrArg List.length h1
    have e2:=congrArg List.length h2
    simp only [List.length_append] at e2
    omega
   exact List.eq_nil_of_length_eq_zero this
  subst hrs
  rw [List.append_nil] at h2
  rw [spec_evHead_l1,← h1]
  exact hP (by rw [h2,h4];unfold skE;rw [h1]) (by rw [h2];exact h5)
 | cons y ys ih =>
  intro pre rs rp h1 h2 h3 h4 h5
  cases rs with
  | nil =>
   have e1:=congrArg List.length h1
   have e2:=congrArg List.length h2
   simp at e1 e2
   omega
  | cons r rs =>
  have hpre:pre.length ≤ 1048575:=by rw [h1] at hl;simp at hl;omega
  rw [spec_evHead_l1,bnd (getI_app h2 (by rw [h3]))]
  by_cases g1:r.skater=y.skater
  ·by_cases g2:(r.scores.length:Int)=e.segments
   ·rw [show ((r.skater != y.skater) || ((r.scores.length:Int) != e.segments))=false from by simp [g1,g2],cond_false]
    rw [fits_of (by simp;omega),need_t,Option.bind_some]
    have:=ih (pre++[y]) rs (rp++[r]) (by rw [h1];simp) (by rw [h2];simp) (by simp [h3]) (by simp [h4,g1]) (by
     intro n hn;rcases List.mem_append.1 hn with hn | hn
     ·exact h5 n hn
     ·obtain rfl:=List.mem_singleton.1 hn;exact g2)
    simpa using this
   ·rw [show ((r.skater != y.skater) || ((r.scores.length:Int) != e.segments))=true from by simp [g2],cond_true]
    exact .f fun k=>g2 ((hN k).2 r (by rw [h2];simp))
  ·rw [show ((r.skater != y.skater) || ((r.scores.length:Int) != e.segments))=true from by simp [g1],cond_true]
   refine .f fun k=>g1 ?_
   have:=(hN k).1
   unfold skE at this
   rw [h1,h2,List.map_append,List.map_append,List.map_cons,List.map_cons] at this
   exact (List.cons.inj (List.append_inj this (by simp [h3])).2).1
theorem heads_impl (e:Event) (hlen:e.results.length=e.entrants.length) (hl:e.entrants.length ≤ 1048576) (P:Prop) (hP:(e.results.map fun r=>r.skater)=skE e→(∀ r ∈ e.results,(r.scores.length:Int)=e.segments) →
   Ret ((impl_without_p e.gone (skE e)).bind fun x24=>some ((x24.length:Int) == 0)) P)
  (hN:P→(e.results.map fun r=>r.skater)=skE e∧∀ r ∈ e.results,(r.scores.length:Int)=e.segments):∀ (ys pre:List Entrant) (rs rp:List Result),e.entrants=pre++ys→e.results=rp++rs→rp.length=pre.length →
   (rp.map fun r=>r.skater)=(pre.map fun x=>x.skater)→(∀ r ∈ rp,(r.scores.length:Int)=e.segments)→Ret (impl_hasEntrants_l1 e ys pre.length (pre.map fun x=>x.skater)) P:=by
 intro ys
 induction ys with
 | nil =>
  intro pre rs rp h1 h2 h3 h4 h5
  rw [List.append_nil] at h1
  have hrs:rs=[]:=by
   have:rs.length=0:=by
    have e1:=congrArg List.length h1
    have e2:=congrArg List.length h2
    simp only [List.length_append] at e2
    omega
   exact List.eq_nil_of_length_eq_zero this
  subst hrs
  rw [List.append_nil] at h2
  rw [impl_hasEntrants_l1,← h1]
  exact hP (by rw [h2,h4];unfold skE;rw [h1]) (by rw [h2];exact h5)
 | cons y ys ih =>
  intro pre rs rp h1 h2 h3 h4 h5
  cases rs with
  | nil =>
   have e1:=congrArg List.length h1
   have e2:=congrArg List.length h2
   simp at e1 e2
   omega
  | cons r rs =>
  have hpre:pre.length ≤ 1048575:=by rw [h1] at hl;simp at hl;omega
  rw [impl_hasEntrants_l1,fits_of (by simp;omega),need_t,Option.bind_some,bnd (getI_app h2 (by rw [h3]))]
  by_cases g1:r.skater=y.skater
  ·by_cases g2:(r.scores.length:Int)=e.segments
   ·rw [show ((r.skater != y.skater) || ((r.scores.length:Int) != e.segments))=false from by simp [g1,g2],cond_false]
    have:=ih (pre++[y]) rs (rp++[r]) (by rw [h1];simp) (by rw [h2];simp) (by simp [h3]) (by simp [h4,g1]) (by
     intro n hn;rcases List.mem_append.1 hn with hn | hn
     ·exact h5 n hn
     ·obtain rfl:=List.mem_singleton.1 hn;exact g2)
    simpa using this
   ·rw [show ((r.skater != y.skater) || ((r.scores.length:Int) != e.segments))=true from by simp [g2],cond_true]
    exact .f fun k=>g2 ((hN k).2 r (by rw [h2];simp))
  ·rw [show ((r.skater != y.skater) || ((r.scores.length:Int) != e.segments))=true from by simp [g1],cond_true]
   refine .f fun k=>g1 ?_
   have:=(hN k).1
   unfold skE at this
   rw [h1,h2,List.map_append,List.map_append,List.map_cons,List.map_cons] at this
   exact (List.cons.inj (List.append_inj this (by simp [h3])).2).1
theorem ret_evHead (e:Event) (hb:nEvent e ≤ 1048576) (fuel:Nat) (hf:1048576 < fuel):Ret (spec_evHead_p fuel e) (HeadOk e):=by
 obtain ⟨b1,b2,b3,b4,b5,b6⟩:=sizes_E hb
 unfold spec_evHead_p
 refine (ret_l1In e.segments 1 3).bindR (fun h1=>?_) (fun h=>.f fun k=>h k.1)
 simp only [Bool.not_true,Bool.not_false,opt_t,Bool.false_or]
 refine (ret_soSize e.size).bindR (fun h2=>?_) (fun h=>.f fun k=>h k.2.1)
 simp only [Bool.not_true,Bool.not_false,opt_t,Bool.false_or]
 refine (ret_l1In e.key 0 1000000000).bindR (fun h3=>?_) (fun h=>.f fun k=>h k.2.2.1)
 simp only [Bool.not_true,Bool.not_false,opt_t,Bool.false_or]
 refine (ret_soEntrants e.entrants b1).bindR (fun h4=>?_) (fun h=>.f fun k=>h k.2.2.2.2.2.1.1)
 simp only [Bool.not_true,Bool.not_false,opt_t,Bool.false_or]
 refine (ret_l1Rising e.gone 1 999 b2).bindR (fun h5=>?_) (fun h=>.f fun k=>h k.2.2.2.2.2.1.2.1)
 simp only [Bool.not_true,Bool.not_false,opt_t,Bool.false_or]
 refine (ret_l1In e.segment 0 e.segments).bindR (fun h6=>?_) (fun h=>.f fun k=>h k.2.2.2.1)
 simp only [Bool.not_true,Bool.not_false,opt_t,Bool.false_or]
 refine (ret_soOrder e.order).bindR (fun h7=>?_) (fun h=>.f fun k=>h k.2.2.2.2.1)
 simp only [Bool.not_true,Bool.not_false,opt_t,Bool.false_or]
 refine (ret_rkGood e.results b4).bindR (fun h8=>?_) (fun h=>.f fun k=>h k.2.2.2.2.2.1.2.2.1)
 simp only [Bool.not_true,Bool.not_false,opt_t,Bool.false_or]
 by_cases hlen:e.results.length=e.entrants.length
 ·rw [show ((e.results.length:Int) != (e.entrants.length:Int))=false from by rw [hlen];simp,cond_false]
  refine heads_spec e fuel hlen b1 _ (fun g1 g2=>?_) (fun k=>⟨k.2.2.2.2.2.1.2.2.2.1,k.2.2.2.2.2.1.2.2.2.2.1⟩) e.entrants [] e.results [] rfl rfl rfl rfl (by simp)
  rw [bnd (own_l e.gone b2),fits_of (by omega),need_t,Option.bind_some]
  have:=evHead_l2 e (skE e) e.gone (by rw [List.length_append];omega) (e.gone++e.order) [] fuel (by rw [List.length_append];omega) rfl
  refine this.iff ⟨fun k=>⟨h1,h2,h3,h6,h7,⟨h4,h5,h8,g1,g2,fun n hn=>k n (by simp [hn])⟩,fun n hn=>k n (by simp [hn])⟩,fun k n hn=>?_⟩
  rcases List.mem_append.1 hn with hn | hn
  ·exact k.2.2.2.2.2.1.2.2.2.2.2 n hn
  ·exact k.2.2.2.2.2.2 n hn
 ·rw [show ((e.results.length:Int) != (e.entrants.length:Int))=true from by simp only [bne_iff_ne,ne_eq];omega,cond_true]
  refine .f fun k=>hlen ?_
  have:=congrArg List.length k.2.2.2.2.2.1.2.2.2.1
  unfold skE at this
  simpa using this
theorem ret_hasEntrants (e:Event) (hb:nEvent e ≤ 1048576):Ret (impl_hasEntrants_p e) (PartOk e):=by
 obtain ⟨b1,b2,b3,b4,b5,b6⟩:=sizes_E hb
 have up0:UpOk e.gone 1 999→UpOk e.gone 0 (1000 - 1):=fun h=>⟨fun n hn=>by have:=h.1 n hn;omega,h.2⟩
 unfold impl_hasEntrants_p
 refine (ret_AreEntrants e.entrants b1).bindR (fun h4=>?_) (fun h=>.f fun k=>h k.1)
 simp only [Bool.not_true,Bool.not_false,opt_t,Bool.false_or]
 refine (ret_isIncreasing e.gone 1000 (by omega) b2).bindR (fun h5=>?_) (fun h=>.f fun k=>h (up0 k.2.1))
 simp only [Bool.not_true,Bool.not_false,opt_t,Bool.false_or]
 refine (ret_AreResults e.results b4 b5).bindR (fun h8=>?_) (fun h=>.f fun k=>h k.2.2.1)
 simp only [Bool.not_true,Bool.not_false,opt_t,Bool.false_or]
 by_cases hlen:e.results.length=e.entrants.length
 ·rw [show ((e.results.length:Int) != (e.entrants.length:Int))=false from by rw [hlen];simp,cond_false]
  refine heads_impl e hlen b1 _ (fun g1 g2=>?_) (fun k=>⟨k.2.2.2.1,k.2.2.2.2.1⟩) e.entrants [] e.results [] rfl rfl rfl rfl (by simp)
  rw [bnd (without_eq e.gone (skE e) b2)]
  refine .some ?_
  have hz:((((e.gone.filter fun n=>decide (n ∉ skE e)).length:Int)) == 0)=true↔∀ n ∈ e.gone,n ∈ skE e:=by
   rw [beq_iff_eq]
   constructor
   ·intro h n hn
    have h':(e.gone.filter fun n=>decide (n ∉ skE e))=[]:=List.eq_nil_of_length_eq_zero (by omega)
    have:=List.filter_eq_nil_iff.1 h' n hn
    simpa using this
   ·intro h
    have h':(e.gone.filter fun n=>decide (n ∉ skE e))=[]:=List.filter_eq_nil_iff.2 fun n hn=>by simpa using h n hn
    rw [h'];rfl
  refine hz.trans ⟨fun k=>⟨h4,⟨fun n hn=>?_,h5.2⟩,h8,g1,g2,k⟩,fun k=>k.2.2.2.2.2⟩
  obtain ⟨x,hx,e1⟩:=List.mem_map.1 (k n hn)
  have:=(h4.1 x hx).1
  omega
 ·rw [show ((e.results.length:Int) != (e.entrants.length:Int))=true from by simp only [bne_iff_ne,ne_eq];omega,cond_true]
  refine .f fun k=>hlen ?_
  have:=congrArg List.length k.2.2.2.1
  unfold skE at this
  simpa using this

end Go.Proofs.YtegdphhfimaieabGreat

/- Plain lemmas: what the functions compute is what the reference says, in plain Lean. No condition. -/
import Derived.Test.YtegdphhfimaieabGreatPEvent7
set_option maxRecDepth 4000
set_option maxHeartbeats 1000000
set_option linter.unusedVariables false
set_option linter.unusedSimpArgs false
set_option linter.unusedSectionVars false

namespace Go.Proofs.YtegdphhfimaieabGreat
open Go.AM

theorem cnt_eq:∀ (l:List Int) (a b:Int),0 ≤ b→b+(l.length:Int) ≤ 1000→(l.foldl stepT (a,b)).2=b+((l.filter fun x=>decide (x ≥ 0)).length:Int):=by
 intro l
 induction l with
 | nil=>intro a b _ _;simp
 | cons y l ih =>
  intro a b h1 h2
  simp only [List.length_cons] at h2
  rw [List.foldl_cons]
  by_cases h:y ≥ 0
  ·rw [show stepT (a,b) y=(w64 (a+y),w64 (b+1)) from if_pos h,w64_in (n:=b+1) (by omega),ih _ _ (by omega) (by omega),List.filter_cons_of_pos (by simpa using h),List.length_cons]
   omega
  ·rw [show stepT (a,b) y=(a,b) from if_neg h,ih _ _ h1 (by omega),List.filter_cons_of_neg (by simpa using h)]
theorem set_score {l:List Int} (hp:l.Pairwise missE) {k:Nat} (hk:k < l.length) (hN:(l.filter fun x=>decide (x ≥ 0)).length=k) {v:Int} (hv:0 ≤ v):(l.set k v).Pairwise missE∧((l.set k v).filter fun x=>decide (x ≥ 0)).length=k+1:=by
 have h1:=(prefix_iff (fun x=>x ≥ 0) l).1 (hp.imp fun {a b} h hb=>by unfold missE at h;omega)
 rw [hN] at h1
 have hget:∀ (i:Nat) (hi:i < (l.set k v).length),(l.set k v)[i] ≥ 0↔i < k+1:=by
  intro i hi
  rw [List.length_set] at hi
  rw [List.getElem_set]
  by_cases c:k=i
  ·rw [if_pos c];constructor
   ·intro _;omega
   ·intro _;exact hv
  ·rw [if_neg c,h1 i hi];omega
 have hpw:(l.set k v).Pairwise missE:=by
  rw [List.pairwise_iff_getElem]
  intro i j hi hj hij
  have a1:=hget i hi
  have a2:=hget j hj
  unfold missE
  intro q
  have:¬ (j < k+1):=fun z=>by have:=a1.2 (by omega);omega
  have:=mt a2.1 this
  omega
 refine ⟨hpw,?_⟩
 have h2:=(prefix_iff (fun x=>x ≥ 0) (l.set k v)).1 (hpw.imp fun {a b} h hb=>by unfold missE at h;omega)
 have hle:=List.length_filter_le (fun x:Int=>decide (x ≥ 0)) (l.set k v)
 have hkl:k < (l.set k v).length:=by rw [List.length_set];exact hk
 have b1:=(h2 k hkl).1 ((hget k hkl).2 (by omega))
 by_cases c:k+1 < (l.set k v).length
 ·have:=mt (h2 (k+1) c).2 (mt (hget (k+1) c).1 (by omega))
  omega
 ·omega
theorem upd_sk (e:Event) (score nx:Int) (r:Result):(updR e score nx r).skater=r.skater:=by unfold updR;split <;> rfl
theorem upd_len (e:Event) (score nx:Int) (r:Result):(updR e score nx r).scores.length=r.scores.length:=by unfold updR;split <;> simp
theorem mid_score {e:Event} (h:EvOk e) (hlt:e.segment < e.segments) (score:Int) (hv:0 ≤ score∧score ≤ 100000) (nx:Int) (A B:List Int) (hq:e.order=A++nx::B) (hA:∀ s ∈ A,hasE e s) (hn:¬ hasE e nx):MidOk { e with results:=e.results.map (updR e score nx) }:=by
 obtain ⟨⟨k1,k2,k3,k4,k5,⟨p1,p2,p3,p4,p5,p6⟩,k7⟩,k8,k9,k10⟩:=h
 have hin:nx ∈ e.order:=by rw [hq];simp
 have hsk:((e.results.map (updR e score nx)).map fun r=>r.skater)=e.results.map fun r=>r.skater:=by
  rw [List.map_map];exact List.map_congr_left fun r _=>upd_sk e score nx r
 have hlen:∀ r ∈ e.results.map (updR e score nx),(r.scores.length:Int)=e.segments:=by
  intro r hr
  obtain ⟨q,hq',rfl⟩:=List.mem_map.1 hr
  rw [upd_len];exact p5 q hq'
 have hcnt:∀ r ∈ e.results,(totR r).2=((r.scores.filter fun x=>decide (x ≥ 0)).length:Int):=by
  intro r hr
  have:=(p3.1 r hr).2.1
  have:=cnt_eq r.scores 0 0 (by omega) (by omega)
  rw [Int.zero_add] at this
  exact this
 have hone:∀ r ∈ e.results,r.skater=nx→(totR r).2=e.segment∧r.skater ∉ e.gone:=by
  intro r hr hx
  have hr':=k9 r hr
  have hsc:=scR_mem p3.2.1 r hr
  have hle:¬ (totR r).2 > e.segment:=by rw [← hsc,hx];exact hn
  have hng:r.skater ∉ e.gone:=fun hg=>by
   rcases (hr'.2.1 hg).2 with q | q
   ·exact hle q
   ·exact q (by rw [hx];exact hin)
  have:=(hr'.2.2 hng).1
  exact ⟨by omega,hng⟩
 have hset:∀ r ∈ e.results,r.skater=nx→(r.scores.set e.segment.toNat score).Pairwise missE∧(totR (Result.mk r.skater (r.scores.set e.segment.toNat score))).2=e.segment+1:=by
  intro r hr hx
  obtain ⟨c1,c2⟩:=hone r hr hx
  have hc:=hcnt r hr
  have hl3:=(p3.1 r hr).2.1
  have hl:=p5 r hr
  obtain ⟨s1,s2⟩:=set_score (p3.1 r hr).2.2.2 (k:=e.segment.toNat) (by omega) (by omega) hv.1
  refine ⟨s1,?_⟩
  have:=cnt_eq (r.scores.set e.segment.toNat score) 0 0 (by omega) (by rw [List.length_set];omega)
  rw [s2] at this
  have e2:(totR (Result.mk r.skater (r.scores.set e.segment.toNat score))).2=((r.scores.set e.segment.toNat score).foldl stepT (0,0)).2:=rfl
  rw [e2,this];omega
 refine ⟨⟨k1,k2,k3,k4,k5,⟨p1,p2,⟨fun r hr=>?_,?_,fun r hr=>?_,?_⟩,?_,hlen,p6⟩,k7⟩,hlt,fun r hr=>?_,?_⟩
 ·obtain ⟨q,hq',rfl⟩:=List.mem_map.1 hr
  by_cases c:q.skater=nx
  ·have hu:updR e score nx q=Result.mk q.skater (q.scores.set e.segment.toNat score):=if_pos c
   rw [hu]
   have:=p3.1 q hq'
   refine ⟨this.1,by simpa using this.2.1,fun m hm=>?_,(hset q hq' c).1⟩
   rcases List.mem_or_eq_of_mem_set hm with hm | rfl
   ·exact this.2.2.1 m hm
   ·omega
  ·have hu:updR e score nx q=q:=if_neg c
   rw [hu];exact p3.1 q hq'
 ·dsimp only;rw [hsk];exact p3.2.1
 ·dsimp only at hr ⊢
  have h1:=hlen r hr
  cases hz:e.results.map (updR e score nx) with
  | nil=>rw [hz] at hr;simp at hr
  | cons z zs =>
   have h2:=hlen z (by rw [hz];simp)
   simp only [List.headD_cons]
   omega
 ·simpa using p3.2.2.2
 ·dsimp only;rw [hsk];exact p4
 ·obtain ⟨q,hq',rfl⟩:=List.mem_map.1 hr
  have hq2:=k9 q hq'
  by_cases c:q.skater=nx
  ·have hu:updR e score nx q=Result.mk q.skater (q.scores.set e.segment.toNat score):=if_pos c
   rw [hu,(hset q hq' c).2]
   have hng:=(hone q hq' c).2
   have hio:q.skater ∈ e.order:=by rw [c];exact hin
   exact ⟨fun _=>hio,fun k=>absurd k hng,fun _=>⟨by dsimp only;omega,.inr hio⟩⟩
  ·have hu:updR e score nx q=q:=if_neg c
   rw [hu];exact evr_congr rfl rfl rfl hq2
 ·have hdn:=k5.2.1
  have hpr:=k10.1
  have hsame:∀ s,s ≠ nx→(hasE { e with results:=e.results.map (updR e score nx) } s↔hasE e s):=fun s hs=>by
   unfold hasE
   dsimp only
   rw [scR_upd e score nx s hs]
  dsimp only
  rw [hq] at hdn hpr ⊢
  obtain ⟨d1,d2,d3⟩:=List.pairwise_append.1 hdn
  obtain ⟨d4,d5⟩:=List.pairwise_cons.1 d2
  obtain ⟨q1,q2,q3⟩:=List.pairwise_append.1 hpr
  obtain ⟨q4,q5⟩:=List.pairwise_cons.1 q2
  have hA':∀ s ∈ A,hasE { e with results:=e.results.map (updR e score nx) } s:=fun s hs=>(hsame s (d3 s hs nx (by simp))).2 (hA s hs)
  have hB':∀ s ∈ B,¬ hasE { e with results:=e.results.map (updR e score nx) } s:=fun s hs k=>hn (q4 s hs ((hsame s (fun e=>d4 s hs e.symm)).1 k))
  rw [List.pairwise_append]
  refine ⟨?_,List.pairwise_cons.2 ⟨fun b hb k=>absurd k (hB' b hb),?_⟩,fun a ha b _ _=>hA' a ha⟩
  ·exact q1.imp_of_mem fun ha _ _ _=>hA' _ ha
  ·exact q5.imp_of_mem fun _ hb _ k=>absurd k (hB' _ hb)

end Go.Proofs.YtegdphhfimaieabGreat

/- Plain lemmas: what the functions compute is what the reference says, in plain Lean. No condition. -/
import Derived.Test.YtegdphhfimaieabGreatPEvent6
set_option maxRecDepth 4000
set_option maxHeartbeats 1000000
set_option linter.unusedVariables false
set_option linter.unusedSimpArgs false
set_option linter.unusedSectionVars false

namespace Go.Proofs.YtegdphhfimaieabGreat
open Go.AM

theorem evr_congr {e e':Event} (h1:e'.segment=e.segment) (h2:e'.order=e.order) (h3:e'.gone=e.gone) {s n:Int} (h:EvR e s n):EvR e' s n:=by
 unfold EvR at h ⊢
 rw [h1,h2,h3];exact h
theorem resOk_new (s:Int) (n:Nat) (hs:1 ≤ s∧s ≤ 999) (hn:1 ≤ n∧n ≤ 3):resOk (Result.mk s (List.replicate n (-1)))∧(totR (Result.mk s (List.replicate n (-1)))).2=0:=by
 refine ⟨⟨hs,by simpa using hn,fun m hm=>by have:=(List.mem_replicate.1 hm).2;omega,?_⟩,?_⟩
 ·rw [List.pairwise_iff_getElem]
  intro i j hi hj _
  simp [missE]
 ·have:n=1 ∨ n=2 ∨ n=3:=by omega
  rcases this with rfl | rfl | rfl <;> rfl
theorem ok_enter {e:Event} (h:EvOk e) (x:Entrant) (h0:e.segment=0) (ho:e.order=[]) (hx:EntrOk (e.entrants++[x])) (n:Nat) (hn:e.segments=(n:Int)):EvOk { e with entrants:=e.entrants++[x],results:=e.results++[Result.mk x.skater (List.replicate n (-1))] }:=by
 obtain ⟨⟨k1,k2,k3,k4,k5,⟨p1,p2,p3,p4,p5,p6⟩,k7⟩,k8,k9,k10⟩:=h
 have hxo:=hx.1 x (by simp)
 obtain ⟨r1,r2⟩:=resOk_new x.skater n hxo.1 (by omega)
 have hm:((e.results++[Result.mk x.skater (List.replicate n (-1))]).map fun r=>r.skater)=(e.entrants++[x]).map fun x=>x.skater:=by
  rw [List.map_append,List.map_append,p4];rfl
 have hlen:∀ r ∈ e.results++[Result.mk x.skater (List.replicate n (-1))],(r.scores.length:Int)=e.segments:=by
  intro r hr
  rcases List.mem_append.1 hr with hr | hr
  ·exact p5 r hr
  ·obtain rfl:=List.mem_singleton.1 hr;simp [hn]
 refine ⟨⟨k1,k2,k3,k4,k5,⟨hx,p2,⟨fun r hr=>?_,?_,fun r hr=>?_,?_⟩,hm,hlen,fun m hm'=>?_⟩,fun m hm'=>?_⟩,k8,fun r hr=>?_,by unfold SortOk;dsimp only;rw [ho];simp⟩
 ·rcases List.mem_append.1 hr with hr | hr
  ·exact p3.1 r hr
  ·obtain rfl:=List.mem_singleton.1 hr;exact r1
 ·dsimp only
  rw [hm,List.pairwise_map]
  exact hx.2.1.imp fun h=>h.1
 ·dsimp only at hr ⊢
  have h1:=hlen r hr
  cases hz:e.results++[Result.mk x.skater (List.replicate n (-1))] with
  | nil=>simp at hz
  | cons z zs =>
   have h2:=hlen z (by rw [hz];simp)
   simp only [List.headD_cons]
   omega
 ·have:=congrArg List.length hm
  have:=hx.2.2
  simp at *
  omega
 ·have:=p6 m hm'
  unfold skE at this ⊢
  dsimp only
  rw [List.map_append,List.mem_append];exact .inl this
 ·have:=k7 m hm'
  unfold skE at this ⊢
  dsimp only
  rw [List.map_append,List.mem_append];exact .inl this
 ·rcases List.mem_append.1 hr with hr | hr
  ·exact evr_congr rfl rfl rfl (k9 r hr)
  ·obtain rfl:=List.mem_singleton.1 hr
   rw [r2]
   unfold EvR
   dsimp only
   rw [ho,h0]
   simp
theorem ok_draw {e:Event} (h:EvOk e) (ho:e.order=[]) (hlt:e.segment < e.segments) (o:List Int) (hm:∀ s,s ∈ o↔s ∈ skE e∧s ∉ e.gone) (hd:o.Nodup):EvOk { e with order:=o }:=by
 obtain ⟨⟨k1,k2,k3,k4,k5,⟨p1,p2,p3,p4,p5,p6⟩,k7⟩,k8,k9,k10⟩:=h
 have hnil:∀ s,s ∉ e.order:=fun s=>by rw [ho];simp
 have hno:∀ s ∈ skE e,¬ scR e.results s > e.segment:=by
  intro s hs k
  rw [← p4] at hs
  obtain ⟨r,hr,rfl⟩:=List.mem_map.1 hs
  rw [scR_mem p3.2.1 r hr] at k
  exact hnil _ ((k9 r hr).1 k)
 have hol:o.length ≤ 40:=by
  have hsub:o.length ≤ (skE e).length:=by
   have hdn:(skE e).Nodup:=by
    unfold skE List.Nodup
    rw [List.pairwise_map]
    exact p1.2.1.imp fun h=>h.1
   have hp:o.Perm ((skE e).filter fun s=>decide (s ∉ e.gone)):=(List.perm_ext_iff_of_nodup hd (hdn.filter _)).2 fun s=>by rw [hm s,List.mem_filter,decide_eq_true_eq]
   rw [hp.length_eq]
   exact List.length_filter_le _ _
  have:(skE e).length=e.entrants.length:=by unfold skE;simp
  have:=p1.2.2
  omega
 refine ⟨⟨k1,k2,k3,k4,⟨fun s hs=>?_,hd,hol⟩,⟨p1,p2,p3,p4,p5,p6⟩,fun s hs=>((hm s).1 hs).1⟩,fun k=>by have:=k.1;dsimp only at this;omega,fun r hr=>?_,?_,fun l hl k=>?_⟩
 ·obtain ⟨x,hx,rfl⟩:=List.mem_map.1 ((hm s).1 hs).1
  exact (p1.1 x hx).1
 ·have hrs:r.skater ∈ skE e:=by rw [← p4];exact List.mem_map.2 ⟨r,hr,rfl⟩
  have:=k9 r hr
  unfold EvR at this ⊢
  dsimp only
  rw [hm]
  refine ⟨fun k=>absurd (this.1 k) (hnil _),fun hg=>⟨(this.2.1 hg).1,.inr fun k=>k.2 hg⟩,fun hg=>⟨(this.2.2 hg).1,.inr ⟨hrs,hg⟩⟩⟩
 ·refine List.Pairwise.imp_of_mem (R:=fun _ _=>True) (fun {a b} ha hb _ k=>absurd k (hno b ((hm b).1 hb).1)) (List.pairwise_iff_getElem.2 fun _ _ _ _ _=>trivial)
 ·exact hno l ((hm l).1 (List.mem_of_getLast? hl)).1 k
def MidOk (e:Event):Prop:=HeadOk e∧e.segment < e.segments∧(∀ r ∈ e.results,EvR e r.skater (totR r).2)∧e.order.Pairwise (fun a b=>hasE e b→hasE e a)
theorem ok_end {e:Event} (h:MidOk e):∃ r,spec_evEnd_p e=some r∧EvOk r:=by
 obtain ⟨⟨k1,k2,k3,k4,k5,⟨p1,p2,p3,p4,p5,p6⟩,k7⟩,k8,k9,k10⟩:=h
 unfold spec_evEnd_p
 rcases List.eq_nil_or_concat e.order with h | ⟨q,z,h⟩
 ·rw [h]
  exact ⟨e,rfl,⟨k1,k2,k3,k4,k5,⟨p1,p2,p3,p4,p5,p6⟩,k7⟩,fun k=>k.2 h,k9,k10,by rw [h];simp⟩
 ·rw [List.concat_eq_append] at h
  have hne:e.order ≠ []:=by rw [h];simp
  have hl:e.order.length=q.length+1:=by rw [h];simp
  have hl40:=k5.2.2
  rw [hl]
  simp only [pos_d,opt_t,Bool.true_and]
  rw [w64_pred (by omega),bnd (getI_app (pre:=q) (y:=z) (ys:=[]) h rfl),bnd (evHas_eq e k4.1 z)]
  by_cases c:hasE e z
  ·rw [decide_eq_true c,cond_true,w64_in (by omega)]
   have hall:∀ s ∈ e.order,hasE e s:=fun s hs=>by
    rw [h] at hs k10
    rcases List.mem_append.1 hs with hs | hs
    ·exact (List.pairwise_append.1 k10).2.2 s hs z (by simp) c
    ·obtain rfl:=List.mem_singleton.1 hs;exact c
   refine ⟨_,rfl,⟨k1,k2,k3,⟨by dsimp only;omega,by dsimp only;omega⟩,⟨by simp,List.Pairwise.nil,by simp⟩,⟨p1,p2,p3,p4,p5,p6⟩,by simp⟩,fun k=>k.2 rfl,fun r hr=>?_,⟨List.Pairwise.nil,by simp⟩⟩
   have hr':=k9 r hr
   have hsc:=scR_mem p3.2.1 r hr
   unfold EvR at hr' ⊢
   dsimp only
   by_cases hg:r.skater ∈ e.gone
   ·have:=hr'.2.1 hg
    exact ⟨fun k=>by omega,fun _=>⟨by omega,.inr (by simp)⟩,fun k=>absurd hg k⟩
   ·have:=hr'.2.2 hg
    have hin:r.skater ∈ e.order:=this.2.resolve_left hne
    have hh:=hall _ hin
    unfold hasE at hh
    rw [hsc] at hh
    exact ⟨fun k=>by omega,fun k=>absurd k hg,fun _=>⟨by omega,.inl rfl⟩⟩
  ·rw [decide_eq_false c,cond_false]
   refine ⟨e,rfl,⟨k1,k2,k3,k4,k5,⟨p1,p2,p3,p4,p5,p6⟩,k7⟩,fun k=>by have:=k.1;omega,k9,k10,fun l hl=>?_⟩
   rw [h] at hl
   simp at hl
   subst hl;exact c
theorem mid_leave {e:Event} (h:EvOk e) (hlt:e.segment < e.segments) (s:Int) (hs:s ∈ skE e) (hg:s ∉ e.gone) (g:List Int) (g1:g.Pairwise (· < ·)) (g2:∀ x,x ∈ g↔x ∈ e.gone ∨ x=s) (o:List Int) (ho:(hasE e s∧o=e.order) ∨ (¬ hasE e s∧o=e.order.filter fun n=>decide (n ≠ s))) :
  MidOk { e with gone:=g,order:=o }:=by
 obtain ⟨⟨k1,k2,k3,k4,k5,⟨p1,p2,p3,p4,p5,p6⟩,k7⟩,k8,k9,k10⟩:=h
 have hsub:o.Sublist e.order:=by
  rcases ho with ⟨_,rfl⟩ | ⟨_,rfl⟩
  ·exact List.Sublist.refl _
  ·exact List.filter_sublist
 have hsr:1 ≤ s∧s ≤ 999:=by
  obtain ⟨x,hx,rfl⟩:=List.mem_map.1 hs
  exact (p1.1 x hx).1
 have hmo:∀ t,t ≠ s→(t ∈ o↔t ∈ e.order):=by
  intro t ht
  rcases ho with ⟨_,rfl⟩ | ⟨_,rfl⟩
  ·exact Iff.rfl
  ·rw [List.mem_filter];simp [ht]
 refine ⟨⟨k1,k2,k3,k4,⟨fun t ht=>k5.1 t (hsub.subset ht),k5.2.1.sublist hsub,Nat.le_trans hsub.length_le k5.2.2⟩,⟨p1,⟨fun t ht=>?_,g1⟩,p3,p4,p5,fun t ht=>?_⟩,fun t ht=>k7 t (hsub.subset ht)⟩,hlt,fun r hr=>?_,k10.1.sublist hsub⟩
 ·rcases (g2 t).1 ht with ht | rfl
  ·exact p2.1 t ht
  ·exact hsr
 ·rcases (g2 t).1 ht with ht | rfl
  ·exact p6 t ht
  ·exact hs
 ·have hr':=k9 r hr
  have hsc:=scR_mem p3.2.1 r hr
  unfold EvR at hr' ⊢
  dsimp only
  by_cases c:r.skater=s
  ·have hng:r.skater ∉ e.gone:=by rw [c];exact hg
   have hn:=hr'.2.2 hng
   rw [g2]
   refine ⟨fun k=>?_,fun _=>⟨hn.1.2,?_⟩,fun k=>absurd (.inr c) k⟩
   ·rcases ho with ⟨_,rfl⟩ | ⟨q,_⟩
    ·exact hr'.1 k
    ·exact absurd (show hasE e s from by unfold hasE;rw [← c,hsc];exact k) q
   ·rcases ho with ⟨q,rfl⟩ | ⟨_,rfl⟩
    ·left;unfold hasE at q;rw [← c,hsc] at q;exact q
    ·right;rw [List.mem_filter,c];simp
  ·rw [g2,hmo _ c]
   refine ⟨hr'.1,fun k=>hr'.2.1 (k.resolve_right c),fun k=>?_⟩
   have:=hr'.2.2 fun q=>k (.inl q)
   refine ⟨this.1,this.2.imp (fun q=>?_) id⟩
   have hl:=hsub.length_le
   rw [q] at hl
   exact List.eq_nil_of_length_eq_zero (by simpa using hl)

end Go.Proofs.YtegdphhfimaieabGreat

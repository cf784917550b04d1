/- Plain lemmas: what the functions compute is what the reference says, in plain Lean. No condition. -/
import Derived.Test.YtegdphhfimaieaaGreatPWorld5
set_option maxRecDepth 4000
set_option maxHeartbeats 1000000
set_option linter.unusedVariables false
set_option linter.unusedSimpArgs false
set_option linter.unusedSectionVars false

namespace Go.Proofs.YtegdphhfimaieaaGreat
open Go.AM

def entS (s:Season) (k:Int):List Entry:=(seasonEs s).filter fun e=>decide (e.skater=k)
theorem filt_lines (k:Int):∀ {ls:List Line},LinesOk ls→(flat ls).filter (fun e=>decide (e.skater=k))=((ls.find? fun x=>x.skater == k).map lineEs).getD []:=by
 intro ls
 induction ls with
 | nil=>intro _;rfl
 | cons x ls ih =>
  intro h
  have ht:LinesOk ls:=⟨fun y hy=>h.1 y (by simp [hy]),(List.pairwise_cons.1 h.2).2⟩
  rw [flat_cons]
  by_cases hx:x.skater=k
  ·subst hx
   rw [List.find?_cons_of_pos (by simp),filt_head h.2]
   rfl
  ·rw [List.find?_cons_of_neg (by simpa using hx),List.filter_append,List.filter_eq_nil_iff.2 (fun e he=>by have:=lineEs_sk he;simp only [decide_eq_true_eq];omega),List.nil_append]
   exact ih ht
theorem ent_eq {s:Season} (h:SeasonOk s) (k:Int):entS s k=((findL s k).map lineEs).getD []:=filt_lines k ⟨h.2.1,h.2.2.1⟩
def ptS (s:Season) (k:Int):List Int:=(entS s k).map (·.points)
theorem pt_eq {s:Season} (h:SeasonOk s) (k:Int):((findL s k).getD ⟨k,[],[]⟩).points=ptS s k:=by
 unfold ptS
 rw [ent_eq h]
 cases hf:findL s k with
 | none=>rfl
 | some x =>
  have hx:x ∈ s.lines:=List.mem_of_find?_eq_some hf
  exact (lineEs_pt (h.2.1 x hx)).symm
theorem pt_bd {s:Season} (h:SeasonOk s) (k:Int):(ptS s k).Pairwise (· ≥ ·)∧(∀ y ∈ ptS s k,0 ≤ y∧y ≤ 100000):=by
 rw [← pt_eq h]
 cases hf:findL s k with
 | none=>simp
 | some x =>
  have hx:x ∈ s.lines:=List.mem_of_find?_eq_some hf
  have:=pts_of h hx
  exact ⟨this.1,this.2.1⟩
theorem pt_sum {s:Season} (h:SeasonOk s) (k:Int):sumW (countedL ((findL s k).getD ⟨k,[],[]⟩) s.best)=((ptS s k).take s.best.toNat).sum∧0 ≤ ((ptS s k).take s.best.toNat).sum∧((ptS s k).take s.best.toNat).sum ≤ 8000000:=by
 rw [← pt_eq h]
 cases hf:findL s k with
 | none=>simp [countedL,sumW]
 | some x =>
  have hx:x ∈ s.lines:=List.mem_of_find?_eq_some hf
  exact counted_sum h hx
theorem rd_eq {a:Int} (h:0 ≤ a∧a ≤ 1000000000):rd a=(2 * a+100) / 200:=by
 unfold rd
 rw [w64_in (n:=2 * a) (by omega),w64_in (n:=2 * a+100) (by omega),Int.tmod_eq_emod_of_nonneg (by omega),Int.tdiv_eq_ediv_of_nonneg (by omega),decide_eq_false (by omega),cond_false,w64_in (by omega)]
theorem mul_bd {a n:Int} (ha:0 ≤ a∧a ≤ 8000000) (hn:0 ≤ n∧n ≤ 100):0 ≤ a * n∧a * n ≤ 800000000:=by
 have h1:a * n ≤ 8000000 * n:=Int.mul_le_mul_of_nonneg_right ha.2 hn.1
 exact ⟨Int.mul_nonneg ha.1 hn.1,by omega⟩
theorem part_eq {s:Season} (h:SeasonOk s) (k:Int) {n:Int} (hn:0 ≤ n∧n ≤ 100):partS k s n=(2 * (((ptS s k).take s.best.toNat).sum * n)+100) / 200:=by
 unfold partS
 obtain ⟨h1,h2,h3⟩:=pt_sum h k
 have:=mul_bd ⟨h2,h3⟩ hn
 rw [h1,w64_in (by omega),rd_eq (by omega)]
theorem part_bd {s:Season} (h:SeasonOk s) (k:Int) {n:Int} (hn:0 ≤ n∧n ≤ 100):0 ≤ partS k s n∧partS k s n ≤ 9000000:=by
 rw [part_eq h k hn]
 obtain ⟨_,h2,h3⟩:=pt_sum h k
 have:=mul_bd ⟨h2,h3⟩ hn
 omega
theorem add_ent {s t:Season} {e:Entry} (hF:FreshOf s.best (seasonEs s++[e]) t) (hs:SeasonOk s) (ht:SeasonOk t) (k:Int) :
  (k ≠ e.skater→entS t k=entS s k)∧(entS t e.skater).Perm (entS s e.skater++[e]):=by
 have hp:(seasonEs t).Perm (seasonEs s++[e]):=hF.2.2.2
 have hsrt:∀ {s:Season},SeasonOk s→∀ k,(entS s k).Pairwise ltE:=fun h k=>h.2.2.2.1.2.1.sublist List.filter_sublist
 constructor
 ·intro hk
  have h1:=hp.filter fun x=>decide (x.skater=k)
  rw [List.filter_append,List.filter_cons_of_neg (by simpa using fun h=>hk h.symm),List.filter_nil,List.append_nil] at h1
  exact sorted_uniq (hsrt ht k) (hsrt hs k) h1
 ·have h1:=hp.filter fun x=>decide (x.skater=e.skater)
  rw [List.filter_append,List.filter_cons_of_pos (by simp),List.filter_nil] at h1
  exact h1
theorem part_same {s t:Season} {e:Entry} (hF:FreshOf s.best (seasonEs s++[e]) t) (hs:SeasonOk s) (ht:SeasonOk t) {k n:Int} (hk:k ≠ e.skater) (hn:0 ≤ n∧n ≤ 100):partS k t n=partS k s n:=by
 rw [part_eq hs k hn,part_eq ht k hn,hF.1]
 unfold ptS
 rw [(add_ent hF hs ht k).1 hk]
theorem part_up {s t:Season} {e:Entry} (hF:FreshOf s.best (seasonEs s++[e]) t) (hs:SeasonOk s) (ht:SeasonOk t) (he:0 ≤ e.points) {n:Int} (hn:0 ≤ n∧n ≤ 100):partS e.skater s n ≤ partS e.skater t n:=by
 have hp:=(add_ent hF hs ht e.skater).2.map (·.points)
 rw [List.map_append,List.map_cons,List.map_nil] at hp
 obtain ⟨s1,s2⟩:=pt_bd hs e.skater
 obtain ⟨t1,_⟩:=pt_bd ht e.skater
 have hm:=(more_take e.points he s.best.toNat 1 (ptS s e.skater) (ptS t e.skater) s1 (fun y hy=>(s2 y hy).1) t1 (by simpa [ptS] using hp)).1
 rw [part_eq hs _ hn,part_eq ht _ hn,hF.1]
 have h2:((ptS s e.skater).take s.best.toNat).sum * n ≤ ((ptS t e.skater).take s.best.toNat).sum * n:=Int.mul_le_mul_of_nonneg_right hm hn.1
 omega
theorem parts_bd (k:Int):∀ (l:List Season) (ns:List Int),(∀ s ∈ l,SeasonOk s)→(∀ n ∈ ns,0 ≤ n∧n ≤ 100)→∀ y ∈ List.zipWith (partS k) l ns,0 ≤ y∧y ≤ 9000000
 | [],_,_,_=>by simp
 | _::_,[],_,_=>by simp
 | s::l,n::ns,h1,h2=>by
  intro y hy
  rw [List.zipWith_cons_cons] at hy
  rcases List.mem_cons.1 hy with rfl | hy
  ·exact part_bd (h1 s (by simp)) k (h2 n (by simp))
  ·exact parts_bd k l ns (fun s hs=>h1 s (by simp [hs])) (fun n hn=>h2 n (by simp [hn])) y hy
theorem tot_sum {w:World} (h:WorldOk w) (k:Int):totW w k=(partsW w k).sum:=by
 have hb:=parts_bd k w.seasons w.weights h.1 h.2.1
 have hl:(partsW w k).length ≤ 3:=by unfold partsW;rw [List.length_zipWith];have:=h.2.2.2.1;omega
 have hg:∀ l:List Int,(∀ y ∈ l,0 ≤ y∧y ≤ 9000000)→∀ v:Int,0 ≤ v→v+9000000 * (l.length:Int) ≤ 1000000000→l.foldl (fun v y=>w64 (v+y)) v=v+l.sum:=by
  intro l
  induction l with
  | nil=>intro _ v _ _;simp
  | cons y l ih =>
   intro hl v h1 h2
   have hy:=hl y (by simp)
   simp only [List.length_cons] at h2
   rw [List.foldl_cons,w64_in (by omega),ih (fun z hz=>hl z (by simp [hz])) _ (by omega) (by omega),List.sum_cons]
   omega
 unfold totW sumW
 exact (hg _ hb 0 (by omega) (by unfold partsW at hl;omega)).trans (by simp [partsW])
structure More (w:World) (e:Entry) (a:World):Prop where
 oldOk:WorldOk w
 newOk:WorldOk a
 is:∃ s t r n ns,w=⟨s::r,n::ns⟩∧a=⟨t::r,n::ns⟩∧FreshOf s.best (seasonEs s++[e]) t
 pts:0 ≤ e.points
theorem More.same {w a:World} {e:Entry} (h:More w e a) {k:Int} (hk:k ≠ e.skater):totW a k=totW w k:=by
 obtain ⟨s,t,r,n,ns,rfl,rfl,hF⟩:=h.is
 rw [tot_sum h.oldOk,tot_sum h.newOk]
 unfold partsW
 dsimp only
 rw [List.zipWith_cons_cons,List.zipWith_cons_cons,part_same hF (h.oldOk.1 s (by simp)) (h.newOk.1 t (by simp)) hk (h.oldOk.2.1 n (by simp))]
theorem More.up {w a:World} {e:Entry} (h:More w e a):totW w e.skater ≤ totW a e.skater:=by
 obtain ⟨s,t,r,n,ns,rfl,rfl,hF⟩:=h.is
 rw [tot_sum h.oldOk,tot_sum h.newOk]
 unfold partsW
 dsimp only
 rw [List.zipWith_cons_cons,List.zipWith_cons_cons,List.sum_cons,List.sum_cons]
 have:=part_up hF (h.oldOk.1 s (by simp)) (h.newOk.1 t (by simp)) h.pts (h.oldOk.2.1 n (by simp))
 omega
theorem has_ent {s:Season} (h:SeasonOk s) (k:Int):(findL s k).isSome=true↔entS s k ≠ []:=by
 rw [ent_eq h]
 cases hf:findL s k with
 | none=>simp
 | some x =>
  have hx:x ∈ s.lines:=List.mem_of_find?_eq_some hf
  simpa using lineEs_ne (h.2.1 x hx)
theorem More.mem {w a:World} {e:Entry} (h:More w e a) (k:Int):k ∈ skatersW a↔k ∈ skatersW w ∨ k=e.skater:=by
 obtain ⟨s,t,r,n,ns,rfl,rfl,hF⟩:=h.is
 have hs:=h.oldOk.1 s (by simp)
 have ht:=h.newOk.1 t (by simp)
 rw [mem_skW,mem_skW]
 unfold hasW
 rw [List.any_cons,List.any_cons,Bool.or_eq_true,Bool.or_eq_true,has_ent hs,has_ent ht]
 obtain ⟨h1,h2⟩:=add_ent hF hs ht k
 by_cases hk:k=e.skater
 ·subst hk
  have:entS t e.skater ≠ []:=fun h0=>by rw [h0] at h2;have:=h2.length_eq;simp at this
  exact ⟨fun _=>.inr rfl,fun _=>.inl this⟩
 ·rw [h1 hk]
  exact ⟨fun h=>.inl h,fun h=>h.resolve_right hk⟩
theorem More.place {w a:World} {e:Entry} (h:More w e a) (he:e.skater ∈ skatersW w):plcW a e.skater ≤ plcW w e.skater:=by
 have hsk:skatersW a=skatersW w:=lt_mem_eq (skatersW_lt a) (skatersW_lt w) fun k=>by
  rw [h.mem]
  exact ⟨fun hk=>hk.elim id fun e=>by rw [e];exact he,.inl⟩
 unfold plcW tsW
 rw [hsk]
 have hup:=h.up
 have key:∀ l:List Int,((l.map (totW a)).filter fun t=>decide (t > totW a e.skater)).length ≤ ((l.map (totW w)).filter fun t=>decide (t > totW w e.skater)).length:=by
  intro l
  induction l with
  | nil=>simp
  | cons k l ih =>
   rw [List.map_cons,List.map_cons]
   by_cases hc:totW a k > totW a e.skater
   ·have hk:k ≠ e.skater:=fun e=>by rw [e] at hc;omega
    have:=h.same hk
    rw [List.filter_cons_of_pos (by simpa using hc),List.filter_cons_of_pos (by simp;omega),List.length_cons,List.length_cons]
    omega
   ·rw [List.filter_cons_of_neg (by simpa using hc)]
    by_cases hd:totW w k > totW w e.skater
    ·rw [List.filter_cons_of_pos (by simpa using hd),List.length_cons];omega
    ·rw [List.filter_cons_of_neg (by simpa using hd)];exact ih
 have:=key (skatersW w)
 omega
theorem addWorld_case (w:World) (hb:nWorld w ≤ 1048576) (e:Entry) (fuel:Nat) (hf:1048576 < fuel) :
  (∃ a,More w e a∧nWorld a ≤ 1048576∧spec_AddToWorld_p fuel w e=some (a,true)∧impl_AddToWorld_p fuel w e=some (a,true)) ∨ (∃ r,spec_AddToWorld_p fuel w e=some (r,false)∧impl_AddToWorld_p fuel w e=some (r,false)):=by
 obtain ⟨q,q1,q2,q3⟩:=same_AddToWorld w hb e fuel hf
 have hs:=q2
 unfold impl_AddToWorld_p at hs
 rcases both_world w hb fuel hf with ⟨h1,h2,h3⟩ | ⟨h1,h2,h3⟩
 ·rw [bnd h2] at hs
  simp only [Bool.not_true,cond_false] at hs
  have hl:=h3.2.2.2.1;have hwl:=h3.2.2.2.2
  obtain ⟨s,r,hsr⟩:=List.exists_cons_of_length_pos (l:=w.seasons) (by omega)
  obtain ⟨n,ns,hnn⟩:=List.exists_cons_of_length_pos (l:=w.weights) (by omega)
  have hg:getI w.seasons 0=some s:=by rw [hsr];rfl
  have hok:=h3.1 s (by rw [hsr];simp)
  have hrok:∀ t ∈ r,SeasonOk t:=fun t ht=>h3.1 t (by rw [hsr];simp [ht])
  have hrl:r.length ≤ 2:=by rw [hsr] at hl;simp at hl;omega
  rw [bnd hg] at hs
  rcases add_case s (by have:=season_n hok;omega) e fuel hf with ⟨t,_,t2,t3,t4,_,t6⟩ | ⟨_,t,_,t6⟩
  ·rw [bnd t6] at hs
   simp only [Bool.not_true,cond_false] at hs
   rw [bnd (copyInts_eq w.weights (by omega)),bnd (sliceLo_of (i:=1) (k:=1) rfl (by rw [hsr];simp))] at hs
   rw [hsr,List.drop_one,List.tail_cons,addToWorld_l w.weights r 0 _ hrok (by simp;omega)] at hs
   have hw:w=⟨s::r,n::ns⟩:=by rw [← hsr,← hnn]
   have hok2:WorldOk ⟨t::r,n::ns⟩:=by
    rw [hw] at h3
    refine ⟨fun x hx=>?_,h3.2.1,h3.2.2.1,?_,?_⟩
    ·rcases List.mem_cons.1 hx with rfl | hx
     ·exact t4
     ·exact hrok x hx
    ·simpa using h3.2.2.2.1
    ·simpa using h3.2.2.2.2
   rw [hnn] at hs
   have hs:=Option.some.inj hs
   rw [List.singleton_append] at hs
   subst hs
   exact .inl ⟨_,⟨h3,hok2,⟨s,t,r,n,ns,hw,rfl,t3⟩,(t2.1 e (by simp)).2.2.1⟩,Nat.le_trans (show nWorld _ ≤ 1000 from q3) (by omega),q1,q2⟩
  ·rw [bnd t6] at hs
   cases hs
   exact .inr ⟨_,q1,q2⟩
 ·rw [bnd h2] at hs
  cases hs
  exact .inr ⟨_,q1,q2⟩
theorem rankChanges_in (a b:World) {x5 x7:List Rank} (h5:∀ s,spec_wlPlace_l1 s x5 0=some (atW a s)) (h7:∀ s,spec_wlPlace_l1 s x7 0=some (atW b s)):∀ (ys:List Int) (k:Nat) (acc:List (List Int)),acc.length+ys.length ≤ 1000→(∀ y ∈ ys,y ∈ skatersW a) →
  (∀ z ∈ acc,∃ y,y ∈ skatersW a∧z=[y,atW a y,atW b y]∧atW a y ≠ atW b y∧atW b y > 0)→∀ r,spec_RankChanges_l2 x5 x7 ys k acc=some r→r.2=true∧∀ z ∈ r.1,∃ y,y ∈ skatersW a∧z=[y,atW a y,atW b y]∧atW a y ≠ atW b y∧atW b y > 0:=by
 intro ys
 induction ys with
 | nil=>intro k acc _ _ h r hr;rw [spec_RankChanges_l2] at hr;cases hr;exact ⟨rfl,h⟩
 | cons y ys ih =>
  intro k acc hl hy h r hr
  simp only [List.length_cons] at hl
  rw [spec_RankChanges_l2,bnd (show spec_wlPlace_p x5 y=some _ from h5 y),bnd (show spec_wlPlace_p x7 y=some _ from h7 y)] at hr
  cases hc:(decide (atW b y > 0) && atW a y != atW b y)
  ·rw [hc,cond_false] at hr
   exact ih (k+1) acc (by omega) (fun z hz=>hy z (by simp [hz])) h r hr
  ·rw [hc,cond_true,bnd (x:=()) (by rw [fits_of (by simp;omega)];rfl)] at hr
   rw [Bool.and_eq_true,decide_eq_true_eq,bne_iff_ne] at hc
   refine ih (k+1) _ (by simp;omega) (fun z hz=>hy z (by simp [hz])) (fun z hz=>?_) r hr
   rcases List.mem_append.1 hz with hz | hz
   ·exact h z hz
   ·obtain rfl:=List.mem_singleton.1 hz
    exact ⟨y,hy y (by simp),rfl,hc.2,hc.1⟩
theorem rankChanges_case (a b:World) (ha:nWorld a ≤ 1048576) (hb:nWorld b ≤ 1048576) (fuel:Nat) (hf:1048576 < fuel) :
  (WorldOk a∧WorldOk b∧∃ r,spec_RankChanges_p fuel a b=some (r,true)∧impl_RankChanges_p fuel a b=some (r,true)∧∀ z ∈ r,∃ y,y ∈ skatersW a∧z=[y,atW a y,atW b y]∧atW a y ≠ atW b y∧atW b y > 0) ∨
  (¬ (WorldOk a∧WorldOk b)∧∃ r,spec_RankChanges_p fuel a b=some (r,false)∧impl_RankChanges_p fuel a b=some (r,false)):=by
 obtain ⟨q,q1,q2,_⟩:=same_RankChanges a b ha hb fuel hf
 have hs:=q1
 unfold spec_RankChanges_p at hs
 rcases both_world a ha fuel hf with ⟨h1,h2,h3⟩ | ⟨h1,h2,h3⟩
 ·rw [bnd h1] at hs
  simp only [Bool.not_true,Bool.not_false,opt_t,Bool.false_or] at hs
  rcases both_world b hb fuel hf with ⟨k1,k2,k3⟩ | ⟨k1,k2,k3⟩
  ·rw [bnd k1] at hs
   simp only [Bool.not_true,cond_false] at hs
   obtain ⟨x,x1,x2,x3,x4,_⟩:=worldList_ok a ha h3 fuel hf
   obtain ⟨y,y1,y2,y3,y4,_⟩:=worldList_ok b hb k3 fuel hf
   rw [bnd x1,bnd y1] at hs
   obtain ⟨r,r1,r2,r3⟩:=rankChanges_l1 fuel hf x y x 0 [] List.Pairwise.nil (by simp;omega)
   have e:r=skatersW a:=lt_mem_eq r2 (skatersW_lt a) fun z=>by
    rw [r3,(x4.map _).mem_iff,List.map_map]
    simp only [List.not_mem_nil,false_or]
    have:((fun y:Rank=>y.skater) ∘ mkP a ((skatersW a).map (totW a)))=id:=by funext s;rfl
    rw [this,List.map_id]
   have hsl:(skatersW a).length ≤ 240:=by have:=x4.length_eq;rw [List.length_map] at this;omega
   rw [r1,e] at hs
   obtain ⟨g1,g2⟩:=rankChanges_in a b (fun s=>place_eq x4 s 0) (fun s=>place_eq y4 s 0) (skatersW a) 0 [] (by simp;omega) (fun _ h=>h) (by simp) q hs
   obtain ⟨l,b'⟩:=q
   obtain rfl:b'=true:=g1
   exact .inl ⟨h3,k3,l,q1,q2,g2⟩
  ·rw [bnd k1] at hs
   cases hs
   exact .inr ⟨fun h=>k3 h.2,_,q1,q2⟩
 ·rw [bnd h1] at hs
  cases hs
  exact .inr ⟨fun h=>h3 h.1,_,q1,q2⟩
theorem empty_ok {best:Int} (h:1 ≤ best∧best ≤ 9):SeasonOk ⟨best,[]⟩:=(fresh_ok (fresh_nil best) ⟨by simp,List.Pairwise.nil⟩).2 ⟨h,by simp⟩
theorem newSeason_case (w:World) (hb:nWorld w ≤ 1048576) (best:Int) (fuel:Nat) (hf:1048576 < fuel) :
  (∃ a:World,WorldOk a∧w.seasons.length ≤ a.seasons.length∧(∃ r,a.seasons=⟨best,[]⟩::r)∧nWorld a ≤ 1048576∧spec_NewSeason_p w best=some (a,true)∧impl_NewSeason_p fuel w best=some (a,true)) ∨ (∃ r,spec_NewSeason_p w best=some (r,false)∧impl_NewSeason_p fuel w best=some (r,false)):=by
 obtain ⟨q,q1,q2,q3⟩:=same_NewSeason w hb best fuel hf
 have hs:=q2
 unfold impl_NewSeason_p at hs
 rcases both_world w hb fuel hf with ⟨h1,h2,h3⟩ | ⟨h1,h2,h3⟩
 ·rw [bnd h2] at hs
  simp only [Bool.not_true,Bool.not_false,opt_t,Bool.false_or] at hs
  obtain ⟨b,f1,f2⟩:=ret_isBest best
  rw [bnd f1] at hs
  cases b
  ·cases hs;exact .inr ⟨_,q1,q2⟩
  ·have hbest:=f2.1 rfl
   simp only [Bool.not_true,cond_false] at hs
   have hl:=h3.2.2.2.1;have hwl:=h3.2.2.2.2
   rw [bnd (copyInts_eq w.weights (by omega))] at hs
   left
   by_cases h:w.seasons.length=3
   ·rw [show min (w.seasons.length:Int) 2=((2:Nat):Int) from by rw [h];rfl,bnd (sliceHi_of (k:=2) rfl (by omega)),
     newSeason_l w w.weights (by omega) _ 0 _ (fun s hs=>h3.1 s (List.mem_of_mem_take hs)) (by simp;omega)] at hs
    unfold nsEnd at hs
    rw [decide_eq_false (by omega),cond_false] at hs
    have hs:=Option.some.inj hs
    subst hs
    refine ⟨⟨[⟨best,[]⟩]++w.seasons.take 2,w.weights⟩,⟨fun s hs=>?_,h3.2.1,h3.2.2.1,?_,?_⟩,?_,⟨_,rfl⟩,Nat.le_trans (show nWorld _ ≤ 1000 from q3) (by omega),q1,q2⟩
    ·rcases List.mem_append.1 hs with hs | hs
     ·obtain rfl:=List.mem_singleton.1 hs;exact empty_ok hbest
     ·exact h3.1 s (List.mem_of_mem_take hs)
    ·simp only [List.length_append,List.length_take,List.length_singleton];omega
    ·simp only [List.length_append,List.length_take,List.length_singleton];omega
    ·simp only [List.length_append,List.length_take,List.length_singleton];omega
   ·have hlast:getI w.weights ((w.weights.length:Int) - 1)=some (w.weights[w.weights.length - 1]'(by omega)):=by
     rw [getI_of (k:=w.weights.length - 1) (by omega)];exact List.getElem?_eq_getElem _
    rw [show min (w.seasons.length:Int) 2=(w.seasons.length:Int) from by omega,bnd (sliceHi_of (k:=w.seasons.length) rfl (Nat.le_refl _)),List.take_length,
     newSeason_l w w.weights (by omega) _ 0 _ h3.1 (by simp;omega)] at hs
    unfold nsEnd at hs
    rw [decide_eq_true (by omega),cond_true,w64_in (by omega),bnd hlast,bnd (x:=()) (by rw [fits_of (by simp;omega)];rfl)] at hs
    have hs:=Option.some.inj hs
    rw [← hs] at q1 q2 q3
    refine ⟨⟨[⟨best,[]⟩]++w.seasons,w.weights++[w.weights[w.weights.length - 1]'(by omega)]⟩,⟨fun s hs=>?_,fun n hn=>?_,?_,?_,?_⟩,?_,⟨_,rfl⟩,Nat.le_trans (show nWorld _ ≤ 1000 from q3) (by omega),q1,q2⟩
    ·rcases List.mem_append.1 hs with hs | hs
     ·obtain rfl:=List.mem_singleton.1 hs;exact empty_ok hbest
     ·exact h3.1 s hs
    ·rcases List.mem_append.1 hn with hn | hn
     ·exact h3.2.1 n hn
     ·obtain rfl:=List.mem_singleton.1 hn;exact h3.2.1 _ (List.getElem_mem _)
    ·dsimp only
     rw [List.pairwise_append]
     refine ⟨h3.2.2.1,List.pairwise_singleton _ _,fun x hx y hy=>?_⟩
     obtain rfl:=List.mem_singleton.1 hy
     obtain ⟨i,hi,rfl⟩:=List.getElem_of_mem hx
     rcases Nat.lt_or_ge i (w.weights.length - 1) with hlt | hge
     ·exact List.pairwise_iff_getElem.1 h3.2.2.1 i _ hi (by omega) hlt
     ·have:i=w.weights.length - 1:=by omega
      subst this;exact Int.le_refl _
    ·simp only [List.length_append,List.length_singleton];omega
    ·simp only [List.length_append,List.length_singleton];omega
    ·simp only [List.length_append,List.length_singleton];omega
 ·rw [bnd h2] at hs
  cases hs
  exact .inr ⟨_,q1,q2⟩

end Go.Proofs.YtegdphhfimaieaaGreat

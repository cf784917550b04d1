/- Plain lemmas: what the functions compute is what the reference says, in plain Lean. No condition. -/
import Derived.Test.YtegdphhfimaieaaGreatPSizesS
set_option maxRecDepth 4000
set_option maxHeartbeats 1000000
set_option linter.unusedVariables false
set_option linter.unusedSimpArgs false
set_option linter.unusedSectionVars false

namespace Go.Proofs.YtegdphhfimaieaaGreat
open Go.AM

def entOk (e:Entry):Prop:=(1 ≤ e.event∧e.event ≤ 99)∧(1 ≤ e.skater∧e.skater ≤ 999)∧(0 ≤ e.points∧e.points ≤ 100000)
def sameE (a b:Entry):Prop:=a.event=b.event∧a.skater=b.skater
def leE (a b:Entry):Prop:=a.skater < b.skater ∨ (a.skater=b.skater∧(a.points > b.points ∨ (a.points=b.points∧a.event ≤ b.event)))
theorem leE_tr (a b c:Entry) (h:leE a b) (k:leE b c):leE a c:=by unfold leE at *;omega
def lineEs (x:Line):List Entry:=List.zipWith (fun e p=>⟨e,x.skater,p⟩) x.events x.points
def seasonEs (s:Season):List Entry:=s.lines.flatMap lineEs
def Ents (l:List Entry):Prop:=(∀ e ∈ l,entOk e)∧l.Pairwise (fun a b=>¬ sameE a b)∧l.length ≤ 80
theorem ret_l1In (n a b:Int):Ret (spec_l1In_p n a b) (a ≤ n∧n ≤ b):=Ret.some (by simp)
theorem ret_within (n a b:Int):Ret (impl_within_p n a b) (a ≤ n∧n ≤ b):=Ret.some (by simp)
theorem ret_isBest (n:Int):Ret (impl_isBest_p n) (1 ≤ n∧n ≤ 9):=(ret_within n 1 9).bind (Q:=fun o=>Ret o _) (fun h=>.t h) (fun h=>.f h)
theorem ret_isEvent (n:Int):Ret (impl_isEvent_p n) (1 ≤ n∧n ≤ 99):=(ret_within n 1 99).bind (Q:=fun o=>Ret o _) (fun h=>.t h) (fun h=>.f h)
theorem ret_isSkater (n:Int):Ret (impl_isSkater_p n) (1 ≤ n∧n ≤ 999):=(ret_within n 1 999).bind (Q:=fun o=>Ret o _) (fun h=>.t h) (fun h=>.f h)
theorem ret_seEntry (e:Entry):Ret (spec_seEntry_p e) (entOk e):=by
 unfold spec_seEntry_p entOk
 refine (ret_l1In e.event 1 99).bindR (fun h1=>?_) (fun h1=>.f (fun h=>h1 h.1))
 refine (ret_l1In e.skater 1 999).bindR (fun h2=>?_) (fun h2=>.f (fun h=>h2 h.2.1))
 refine (ret_l1In e.points 0 100000).bindR (fun h3=>.t ⟨h1,h2,h3⟩) (fun h3=>.f (fun h=>h3 h.2.2))
theorem ret_l1Has (l:List Int) (n:Int):Ret (spec_l1Has_p l n) (n ∈ l):=by
 have key:∀ (l:List Int) (k:Nat),Ret (spec_l1Has_l1 n l k) (n ∈ l):=by
  intro l
  induction l with
  | nil=>intro k;rw [spec_l1Has_l1];exact .f (by simp)
  | cons y l ih =>
   intro k
   rw [spec_l1Has_l1]
   refine .condR (fun h=>.t ?_) (fun h=>(ih (k+1)).iff ?_)
   ·have:=eq_of_beq h;simp [this]
   ·have:¬ y=n:=by simpa using h
    simp [List.mem_cons,show ¬ n=y from fun e=>this e.symm]
 exact key l 0
def ltE (a b:Entry):Prop:=a.skater < b.skater ∨ (a.skater=b.skater∧(a.points > b.points ∨ (a.points=b.points∧a.event < b.event)))
theorem ltE_tr (a b c:Entry) (h:ltE a b) (k:ltE b c):ltE a c:=by unfold ltE at *;omega
def GoodE (l:List Entry):Prop:=(∀ e ∈ l,entOk e)∧l.Pairwise ltE∧l.Pairwise (fun a b=>¬ sameE a b)
def mkE (k:Int) (e p:Int):Entry:=⟨e,k,p⟩
theorem ret_seLine_l (x:Line) (hb:x.events.length ≤ 1048576):∀ (ys ps pre ppre:List Int),x.events=pre++ys→x.points=ppre++ps→pre.length=ppre.length→ys.length=ps.length→GoodE (List.zipWith (mkE x.skater) pre ppre) →
  Ret (spec_seLine_l1 x ys pre.length) (GoodE (lineEs x)∧x.events ≠ []):=by
 intro ys
 induction ys with
 | nil =>
  intro ps pre ppre h1 h2 h3 h4 hg
  obtain rfl:ps=[]:=List.eq_nil_of_length_eq_zero h4.symm
  rw [spec_seLine_l1]
  refine .some ?_
  rw [List.append_nil] at h1 h2
  have:lineEs x=List.zipWith (mkE x.skater) pre ppre:=by unfold lineEs;rw [h1,h2];rfl
  rw [this]
  simp only [gt_iff_lt,decide_eq_true_eq]
  constructor
  ·intro h;exact ⟨hg,fun e=>by rw [e] at h;simp at h⟩
  ·intro h;have:=List.length_pos_iff.2 h.2;omega
 | cons y ys ih =>
  intro ps pre ppre h1 h2 h3 h4 hg
  cases ps with
  | nil=>simp at h4
  | cons p ps =>
  have hE:lineEs x=List.zipWith (mkE x.skater) pre ppre++mkE x.skater y p::List.zipWith (mkE x.skater) ys ps:=by
   unfold lineEs;rw [h1,h2];exact (List.zipWith_append h3).trans rfl
  have hlen:x.points.length=x.events.length:=by rw [h1,h2];simp only [List.length_append,List.length_cons] at *;omega
  have hk:pre.length < x.events.length:=by rw [h1];simp
  rw [spec_seLine_l1,hlen]
  have hne:((x.events.length:Int) != (x.events.length:Int))=false:=by simp
  rw [hne]
  simp only [Bool.not_false,opt_t,Bool.false_or]
  rw [bnd (getI_app h2 (by rw [h3]))]
  refine (ret_seEntry (mkE x.skater y p)).bindR (fun hent=>?_) (fun hent=>.f fun h=>hent (h.1.1 _ (by rw [hE];simp)))
  simp only [Bool.not_true,cond_false]
  have fin:(∀ l,(List.zipWith (mkE x.skater) pre ppre).getLast?=some l→ltE l (mkE x.skater y p)) →
    Ret ((sliceHi x.events (pre.length:Int)).bind fun x46=>(spec_l1Has_p x46 y).bind fun x48=>cond x48 (some false) (spec_seLine_l1 x ys (pre.length+1))) (GoodE (lineEs x)∧x.events ≠ []):=by
   intro hlast
   rw [bnd (show sliceHi x.events (pre.length:Int)=some pre from by rw [h1];exact sliceHi_pre pre (y::ys) rfl)]
   refine (ret_l1Has pre y).bindR (fun hin=>.f fun h=>?_) (fun hin=>?_)
   ·obtain ⟨j,hj,e⟩:=List.getElem_of_mem hin
    have hp:=h.1.2.2
    rw [hE,List.pairwise_append] at hp
    refine hp.2.2 (mkE x.skater pre[j] (ppre[j]'(by omega))) ?_ (mkE x.skater y p) (by simp) ⟨e,rfl⟩
    rw [List.mem_iff_getElem]
    exact ⟨j,by simp;omega,by simp⟩
   ·simp only [cond_false]
    have hz:List.zipWith (mkE x.skater) (pre++[y]) (ppre++[p])=List.zipWith (mkE x.skater) pre ppre++[mkE x.skater y p]:=(List.zipWith_append h3).trans rfl
    have:=ih ps (pre++[y]) (ppre++[p]) (by rw [h1];simp) (by rw [h2];simp) (by simp [h3]) (by simpa using h4) (by
     rw [hz]
     refine ⟨?_,pw_snoc ltE_tr hg.2.1 hlast,?_⟩
     ·intro e he;rcases List.mem_append.1 he with h | h
      ·exact hg.1 e h
      ·obtain rfl:=List.mem_singleton.1 h;exact hent
     ·rw [List.pairwise_append]
      refine ⟨hg.2.2,List.pairwise_singleton _ _,fun a ha b hb'=>?_⟩
      obtain rfl:=List.mem_singleton.1 hb'
      rintro ⟨e1,_⟩
      obtain ⟨j,hj,e⟩:=List.getElem_of_mem ha
      simp only [List.getElem_zipWith] at e
      subst e
      exact hin (by rw [← show pre[j]'(by simp at hj;omega)=y from e1];exact List.getElem_mem _))
    simpa using this
  rcases List.eq_nil_or_concat pre with rfl | ⟨q,e',rfl⟩
  ·simp only [List.length_nil,zero_d,opt_f,Option.bind_some,Bool.false_and,cond_false]
   exact fin (by simp)
  ·rcases List.eq_nil_or_concat ppre with rfl | ⟨pq,p',rfl⟩
   ·simp at h3
   simp only [List.concat_eq_append] at *
   have hq:q.length=pq.length:=by simpa using h3
   have hkl:(q++[e']).length=q.length+1:=by simp
   rw [hkl] at fin ⊢
   simp only [pos_d,opt_t,Bool.true_and]
   rw [w64_pred (by simp at hk;omega),bnd (getI_app (pre:=pq) (y:=p') (ys:=p::ps) (by rw [h2];simp) (by rw [hq])),bnd (getI_app h2 (by rw [← h3,hkl]))]
   have hz:List.zipWith (mkE x.skater) (q++[e']) (pq++[p'])=List.zipWith (mkE x.skater) q pq++[mkE x.skater e' p']:=(List.zipWith_append hq).trans rfl
   have hadj:GoodE (lineEs x)→ltE (mkE x.skater e' p') (mkE x.skater y p):=by
    intro h
    have:=h.2.1
    rw [hE,hz,List.pairwise_append] at this
    exact this.2.2 _ (by simp) _ (by simp)
   have hx:getI x.events (q.length:Int)=some e':=getI_app (pre:=q) (ys:=y::ys) (by rw [h1];simp) rfl
   rw [hx]
   have step:∀ o,(o=some e' ∨ ¬ (p'=p))→(o.isSome=true)→Ret (o.bind fun x44=>cond (decide (p' < p) || ((p' == p) && decide (x44 ≥ y))) (some false)
     ((sliceHi x.events ((q.length+1:Nat):Int)).bind fun x46=>(spec_l1Has_p x46 y).bind fun x48=>cond x48 (some false) (spec_seLine_l1 x ys (q.length+1+1)))) (GoodE (lineEs x)∧x.events ≠ []):=by
    intro o ho hs
    obtain ⟨v,rfl⟩:=Option.isSome_iff_exists.1 hs
    simp only [Option.bind_some]
    refine .condR (fun h=>.f fun hg'=>?_) (fun h=>fin ?_)
    ·have:=hadj hg'.1
     unfold ltE mkE at this
     dsimp only at this
     simp only [Bool.or_eq_true,decide_eq_true_eq,Bool.and_eq_true,beq_iff_eq] at h
     rcases h with h | ⟨h,h'⟩
     ·omega
     ·rcases ho with ho | ho
      ·cases ho;omega
      ·exact ho h
    ·intro l hl
     rw [hz] at hl
     simp at hl
     subst hl
     simp only [Bool.or_eq_false_iff,decide_eq_false_iff_not,Bool.and_eq_false_iff,beq_eq_false_iff_ne] at h
     refine .inr ⟨rfl,?_⟩
     show p' > p ∨ p'=p∧e' < y
     rcases ho with ho | ho
     ·cases ho;omega
     ·omega
   by_cases hpp:p'=p
   ·exact step _ (.inl (by simp [hpp,opt])) (by simp [hpp,opt])
   ·exact step _ (.inr hpp) (by unfold opt;cases (!decide (p' < p) && p' == p) <;> rfl)
theorem ret_seLine (x:Line) (hb:x.events.length ≤ 1048576):Ret (spec_seLine_p x) (x.points.length=x.events.length∧x.events ≠ []∧GoodE (lineEs x)):=by
 unfold spec_seLine_p
 by_cases h:x.points.length=x.events.length
 ·exact (ret_seLine_l x hb x.events x.points [] [] rfl rfl rfl h.symm ⟨by simp,by simp,by simp⟩).iff ⟨fun h1=>⟨h,h1.2,h1.1⟩,fun h1=>⟨h1.2.2,h1.2.1⟩⟩
 ·cases hx:x.events with
  | nil=>rw [spec_seLine_l1,hx];exact .f (by simp)
  | cons y ys =>
   rw [spec_seLine_l1]
   have hne:((x.points.length:Int) != (x.events.length:Int))=true:=by simpa using (by omega)
   rw [hne]
   exact .f (fun h1=>h (by rw [hx];exact h1.1))
def lineN (x:Line):Prop:=x.points.length=x.events.length∧x.events ≠ []
def SeasonOk (s:Season):Prop:=(1 ≤ s.best∧s.best ≤ 9)∧(∀ x ∈ s.lines,lineN x)∧s.lines.Pairwise (fun a b=>a.skater < b.skater)∧GoodE (seasonEs s)∧(seasonEs s).length ≤ 80
theorem lineEs_len {x:Line} (h:lineN x):(lineEs x).length=x.events.length:=by unfold lineEs;rw [List.length_zipWith,h.1,Nat.min_self]
theorem lineEs_sk {x:Line} {e:Entry} (h:e ∈ lineEs x):e.skater=x.skater:=by
 unfold lineEs at h
 obtain ⟨j,hj,e⟩:=List.getElem_of_mem h
 simp only [List.getElem_zipWith] at e
 subst e;rfl
theorem flat_len_lines {l:List Line} (h:∀ x ∈ l,lineN x):(l.flatMap lineEs).length=(l.map fun x=>x.events.length).sum:=by
 induction l with
 | nil=>rfl
 | cons x l ih=>simp only [List.flatMap_cons,List.length_append,List.map_cons,List.sum_cons,lineEs_len (h x (by simp)),ih (fun y hy=>h y (by simp [hy]))]
theorem good_flat {l:List Line} (hs:l.Pairwise (fun a b=>a.skater < b.skater)):(∀ x ∈ l,GoodE (lineEs x))↔GoodE (l.flatMap lineEs):=by
 constructor
 ·intro h
  refine ⟨?_,?_,?_⟩
  ·intro e he;obtain ⟨x,hx,hex⟩:=List.mem_flatMap.1 he;exact (h x hx).1 e hex
  ·rw [List.pairwise_flatMap]
   exact ⟨fun x hx=>(h x hx).2.1,hs.imp fun hab e he f hf=>.inl (by rw [lineEs_sk he,lineEs_sk hf];exact hab)⟩
  ·rw [List.pairwise_flatMap]
   exact ⟨fun x hx=>(h x hx).2.2,hs.imp fun hab e he f hf hsame=>by have:=hsame.2;rw [lineEs_sk he,lineEs_sk hf] at this;omega⟩
 ·intro h x hx
  exact ⟨fun e he=>h.1 e (List.mem_flatMap.2 ⟨x,hx,he⟩),(List.pairwise_flatMap.1 h.2.1).1 x hx,(List.pairwise_flatMap.1 h.2.2).1 x hx⟩
theorem ret_seGood_l (s:Season) (hb:nSeason s ≤ 1048576):∀ (ys pre:List Line) (v:Int),s.lines=pre++ys→(∀ x ∈ pre,lineN x∧GoodE (lineEs x))→pre.Pairwise (fun a b=>a.skater < b.skater)→v=((pre.map fun x=>x.events.length).sum:Nat) →
  Ret (spec_seGood_l1 s ys pre.length v) (SeasonOk s):=by
 have hev:∀ x ∈ s.lines,x.events.length ≤ 1048576:=by
  intro x hx
  have:=le_sum hx (fun x=>nLine x)
  unfold nSeason nLineS at hb;unfold nLine nIntS at *;omega
 have hsum:∀ l m:List Line,s.lines=l++m→(l.map fun x=>x.events.length).sum ≤ 1048576:=by
  intro l m h
  have h1:∀ l:List Line,(l.map fun x=>x.events.length).sum ≤ (l.map fun x=>nLine x).sum:=by
   intro l;induction l with
   | nil=>simp
   | cons y l ih=>simp only [List.map_cons,List.sum_cons];have:y.events.length ≤ nLine y:=(by unfold nLine nIntS;omega);omega
  unfold nSeason nLineS at hb
  rw [h,List.map_append,List.sum_append] at hb
  have:=h1 l;omega
 intro ys
 induction ys with
 | nil =>
  intro pre v h1 h2 h3 h4
  rw [spec_seGood_l1]
  rw [List.append_nil] at h1
  have h5:=flat_len_lines (fun x hx=>(h2 x hx).1)
  refine (ret_l1In s.best 1 9).bindR (fun hbst=>.some ?_) (fun hbst=>.f fun h=>hbst h.1)
  simp only [Bool.true_and,decide_eq_true_eq]
  unfold SeasonOk seasonEs
  rw [h1,h5]
  constructor
  ·intro h;exact ⟨hbst,fun x hx=>(h2 x hx).1,h3,(good_flat h3).1 fun x hx=>(h2 x hx).2,by omega⟩
  ·intro h;have:=h.2.2.2.2;omega
 | cons y ys ih =>
  intro pre v h1 h2 h3 h4
  have hy:y ∈ s.lines:=by rw [h1];simp
  rw [spec_seGood_l1]
  refine (ret_seLine y (hev y hy)).bindR (fun hl=>?_) (fun hl=>.f fun h=>hl ?_)
  ·simp only [Bool.not_true,Bool.not_false,Bool.true_and,Bool.false_or]
   have fin:(∀ l,pre.getLast?=some l→l.skater < y.skater)→Ret (spec_seGood_l1 s ys (pre.length+1) (w64 (v+(y.events.length:Int)))) (SeasonOk s):=by
    intro hlast
    have hs2:=hsum (pre++[y]) ys (by rw [h1];simp)
    have:=ih (pre++[y]) (w64 (v+(y.events.length:Int))) (by rw [h1];simp) (by
     intro x hx;rcases List.mem_append.1 hx with hx | hx
     ·exact h2 x hx
     ·obtain rfl:=List.mem_singleton.1 hx;exact ⟨⟨hl.1,hl.2.1⟩,hl.2.2⟩) (pw_snoc (fun a b c h k=>by omega) h3 hlast) (by
     simp only [List.map_append,List.sum_append,List.map_cons,List.map_nil,List.sum_cons,List.sum_nil] at hs2 ⊢
     rw [w64_in (by omega)];omega)
    simpa using this
   rcases List.eq_nil_or_concat pre with rfl | ⟨q,l,rfl⟩
   ·simp only [List.length_nil,zero_d,opt_f,Option.bind_some,Bool.false_and,cond_false]
    exact fin (by simp)
   ·simp only [List.concat_eq_append] at *
    have hkl:(q++[l]).length=q.length+1:=by simp
    rw [hkl] at fin ⊢
    have hlq:s.lines.length ≤ 1048576:=by unfold nSeason nLineS at hb;omega
    simp only [pos_d,opt_t,Bool.true_and]
    rw [w64_pred (by rw [h1] at hlq;simp at hlq;omega),bnd (getI_app (pre:=q) (y:=l) (ys:=y::ys) (by rw [h1];simp) rfl)]
    refine .dcond (fun h=>.f fun hs=>?_) (fun h=>fin ?_)
    ·have:=hs.2.2.1
     rw [h1,List.pairwise_append] at this
     have:=this.2.2 l (by simp) y (by simp)
     omega
    ·intro l' hl'
     simp at hl';subst hl';omega
  ·have h5:GoodE (lineEs y):=by
    have:=(good_flat h.2.2.1).2 h.2.2.2.1 y hy
    exact this
   exact ⟨(h.2.1 y hy).1,(h.2.1 y hy).2,h5⟩
theorem ret_seGood (s:Season) (hb:nSeason s ≤ 1048576):Ret (spec_seGood_p s) (SeasonOk s):=by
 unfold spec_seGood_p
 exact ret_seGood_l s hb s.lines [] 0 rfl (by simp) (by simp) rfl

end Go.Proofs.YtegdphhfimaieaaGreat

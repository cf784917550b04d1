/- Plain lemmas: what the functions compute is what the reference says, in plain Lean. No condition. -/
import Derived.Test.YtegdphhfimaieaaGreatPSeason1
set_option maxRecDepth 4000
set_option maxHeartbeats 1000000
set_option linter.unusedVariables false
set_option linter.unusedSimpArgs false
set_option linter.unusedSectionVars false

namespace Go.Proofs.YtegdphhfimaieaaGreat
open Go.AM

theorem idxF (f:Entry→Option Bool) (p:Entry→Prop):∀ (l:List Entry) (k:Nat),(∀ x ∈ l,Ret (f x) (p x))→∃ i,slices_IndexFunc_Entry_l1 f l k=some i∧(i ≥ 0↔∃ x ∈ l,p x):=by
 intro l
 induction l with
 | nil=>intro k _;exact ⟨-1,by rw [slices_IndexFunc_Entry_l1],by simp⟩
 | cons y l ih =>
  intro k h
  rw [slices_IndexFunc_Entry_l1]
  refine (h y (by simp)).bind (Q:=fun o=>∃ i,o=some i∧(i ≥ 0↔∃ x ∈ y::l,p x)) (fun hp=>?_) (fun hp=>?_)
  ·exact ⟨(k:Int),rfl,by simp [hp]⟩
  ·obtain ⟨i,h1,h2⟩:=ih (k+1) (fun x hx=>h x (by simp [hx]))
   refine ⟨i,h1,h2.trans ?_⟩
   simp [hp]
theorem ret_ContainsFunc (l:List Entry) (f:Entry→Option Bool) (p:Entry→Prop) (h:∀ x ∈ l,Ret (f x) (p x)):Ret (slices_ContainsFunc_Entry_p l f) (∃ x ∈ l,p x):=by
 obtain ⟨i,h1,h2⟩:=idxF f p l 0 h
 unfold slices_ContainsFunc_Entry_p slices_IndexFunc_Entry_p
 rw [h1]
 exact .some (by simpa using h2)
theorem ret_AreEntries_l (l:List Entry) (hb:l.length ≤ 1048576):∀ (ys pre:List Entry),l=pre++ys→(∀ e ∈ pre,entOk e)→pre.Pairwise (fun a b=>¬ sameE a b)→Ret (impl_AreEntries_l1 l ys pre.length) (Ents l):=by
 intro ys
 induction ys with
 | nil =>
  intro pre h1 h2 h3
  rw [impl_AreEntries_l1]
  rw [List.append_nil] at h1
  subst h1
  refine .some ?_
  simp only [decide_eq_true_eq]
  exact ⟨fun h=>⟨h2,h3,by omega⟩,fun h=>by have:=h.2.2;omega⟩
 | cons y ys ih =>
  intro pre h1 h2 h3
  have hy:y ∈ l:=by rw [h1];simp
  rw [impl_AreEntries_l1]
  refine (ret_isEvent y.event).bindR (fun g1=>?_) (fun g1=>.f fun h=>g1 (h.1 y hy).1)
  refine (ret_isSkater y.skater).bindR (fun g2=>?_) (fun g2=>.f fun h=>g2 (h.1 y hy).2.1)
  refine (ret_within y.points 0 100000).bindR (fun g3=>?_) (fun g3=>.f fun h=>g3 (h.1 y hy).2.2)
  simp only [Bool.not_true,Bool.or_self,cond_false]
  rw [bnd (show sliceHi l (pre.length:Int)=some pre from by rw [h1];exact sliceHi_pre pre (y::ys) rfl)]
  refine (ret_ContainsFunc pre (fun a0=>impl_AreEntries_c1_p a0 y) (fun x=>sameE x y) (fun x _=>.some (by simp [sameE]))).bindR (fun g4=>.f fun h=>?_) (fun g4=>?_)
  ·obtain ⟨x,hx,hs⟩:=g4
   have:=h.2.1
   rw [h1,List.pairwise_append] at this
   exact this.2.2 x hx y (by simp) hs
  ·have:=ih (pre++[y]) (by rw [h1];simp) (by
    intro e he;rcases List.mem_append.1 he with he | he
    ·exact h2 e he
    ·obtain rfl:=List.mem_singleton.1 he;exact ⟨g1,g2,g3⟩) (by
    rw [List.pairwise_append]
    refine ⟨h3,List.pairwise_singleton _ _,fun a ha b hb'=>?_⟩
    obtain rfl:=List.mem_singleton.1 hb'
    exact fun hs=>g4 ⟨a,ha,hs⟩)
   simpa using this
theorem ret_AreEntries (l:List Entry) (hb:l.length ≤ 1048576):Ret (impl_AreEntries_p l) (Ents l):=ret_AreEntries_l l hb l [] rfl (by simp) (by simp)
theorem cmpE {a b:Entry} (ha:entOk a) (hb:entOk b):∃ c,impl_compareEntries_p a b=some c∧(c < 0↔¬ leE b a)∧(c=0↔a=b)∧(c < 0↔ltE a b):=by
 unfold entOk at ha hb
 unfold impl_compareEntries_p
 by_cases h1:a.skater=b.skater
 ·rw [show (a.skater != b.skater)=false from by simp [h1],cond_false]
  by_cases h2:a.points=b.points
  ·rw [show (a.points != b.points)=false from by simp [h2],cond_false,w64_in (by omega)]
   refine ⟨_,rfl,by unfold leE;omega,⟨fun h=>?_,fun h=>by rw [h];omega⟩,by unfold ltE;omega⟩
   cases a;cases b;simp only [Entry.mk.injEq] at *;omega
  ·rw [show (a.points != b.points)=true from by simpa using h2,cond_true,w64_in (by omega)]
   exact ⟨_,rfl,by unfold leE;omega,⟨fun h=>absurd (by omega) h2,fun h=>absurd (by rw [h]) h2⟩,by unfold ltE;omega⟩
 ·rw [show (a.skater != b.skater)=true from by simpa using h1,cond_true,w64_in (by omega)]
  exact ⟨_,rfl,by unfold leE;omega,⟨fun h=>absurd (by omega) h1,fun h=>absurd (by rw [h]) h1⟩,by unfold ltE;omega⟩
theorem pw_cons {α:Type} {R:α→α→Prop} (tr:∀ a b c,R a b→R b c→R a c) {x y:α} {l:List α} (h:R x y) (hl:(y::l).Pairwise R):(x::y::l).Pairwise R:=by
 rw [List.pairwise_cons]
 refine ⟨fun a ha=>?_,hl⟩
 rcases List.mem_cons.1 ha with rfl | ha
 ·exact h
 ·exact tr _ _ _ h ((List.pairwise_cons.1 hl).1 a ha)
theorem ret_IsSorted (l:List Entry) (hb:l.length ≤ 1048576) (hok:∀ e ∈ l,entOk e) (fuel:Nat) (hf:l.length < fuel):Ret (slices_IsSortedFunc_Entry_p fuel l (fun a0 a1=>impl_compareEntries_p a0 a1)) (l.Pairwise leE):=by
 have key:∀ (n fuel:Nat),n < fuel→n < l.length→(l.drop n).Pairwise leE→Ret (slices_IsSortedFunc_Entry_l1 l (fun a0 a1=>impl_compareEntries_p a0 a1) fuel (n:Int)) (l.Pairwise leE):=by
  intro n
  induction n with
  | zero =>
   intro fuel h1 h2 h3
   obtain ⟨f,rfl⟩:=Nat.exists_eq_succ_of_ne_zero (by omega:fuel ≠ 0)
   rw [slices_IsSortedFunc_Entry_l1]
   exact .t (by simpa using h3)
  | succ n ih =>
   intro fuel h1 h2 h3
   obtain ⟨f,rfl⟩:=Nat.exists_eq_succ_of_ne_zero (by omega:fuel ≠ 0)
   rw [slices_IsSortedFunc_Entry_l1,pos_d,cond_true,w64_pred (by omega),bnd (getI_lt_some h2),bnd (getI_lt_some (k:=n) (by omega))]
   obtain ⟨c,hc,h4,_⟩:=cmpE (hok _ (List.getElem_mem h2)) (hok _ (List.getElem_mem (n:=n) (by omega)))
   rw [bnd hc]
   refine .dcond (fun h=>.f fun hp=>?_) (fun h=>ih f (by omega) (by omega) ?_)
   ·exact h4.1 h (List.pairwise_iff_getElem.1 hp n (n+1) (by omega) h2 (by omega))
   ·rw [List.drop_eq_getElem_cons (by omega)]
    rw [List.drop_eq_getElem_cons h2] at h3 ⊢
    exact pw_cons leE_tr (Classical.not_not.1 (fun hn=>h (h4.2 hn))) h3
 unfold slices_IsSortedFunc_Entry_p
 cases l with
 | nil =>
  obtain ⟨f,rfl⟩:=Nat.exists_eq_succ_of_ne_zero (by omega:fuel ≠ 0)
  rw [slices_IsSortedFunc_Entry_l1];exact .t (by simp)
 | cons y l =>
  rw [List.length_cons,w64_pred (by simp at hb;omega)]
  refine key l.length fuel (by simp at hf;omega) (by simp) ?_
  rw [List.drop_eq_getElem_cons (by simp)]
  simp
theorem entriesOf_l2 (y:Line):∀ (ys ps pre ppre:List Int) (acc:List Entry),y.events=pre++ys→y.points=ppre++ps→pre.length=ppre.length→ys.length=ps.length→acc.length+ys.length ≤ 1048576 →
  impl_entriesOf_l2 y ys pre.length acc=some (acc++List.zipWith (mkE y.skater) ys ps):=by
 intro ys
 induction ys with
 | nil=>intro ps pre ppre acc h1 h2 h3 h4 h5;rw [impl_entriesOf_l2];simp
 | cons e ys ih =>
  intro ps pre ppre acc h1 h2 h3 h4 h5
  cases ps with
  | nil=>simp at h4
  | cons p ps =>
  rw [impl_entriesOf_l2,bnd (getI_app h2 (by rw [h3])),bnd (x:=()) (by rw [fits_of (by simp at h5 ⊢;omega)];rfl)]
  have:=ih ps (pre++[e]) (ppre++[p]) (acc++[⟨e,y.skater,p⟩]) (by rw [h1];simp) (by rw [h2];simp) (by simp [h3]) (by simpa using h4) (by simp at h5 ⊢;omega)
  simpa [mkE] using this
theorem entriesOf_l1:∀ (ys:List Line) (k:Nat) (acc:List Entry),(∀ x ∈ ys,x.points.length=x.events.length)→acc.length+(ys.map fun x=>x.events.length).sum ≤ 1048576 →
  impl_entriesOf_l1 ys k acc=some (acc++ys.flatMap lineEs):=by
 intro ys
 induction ys with
 | nil=>intro k acc _ _;rw [impl_entriesOf_l1];simp
 | cons y ys ih =>
  intro k acc h1 h2
  simp only [List.map_cons,List.sum_cons] at h2
  have hy:=h1 y (by simp)
  have hl:(List.zipWith (mkE y.skater) y.events y.points).length=y.events.length:=by rw [List.length_zipWith,hy,Nat.min_self]
  rw [impl_entriesOf_l1,bnd (show impl_entriesOf_l2 y y.events 0 acc=_ from entriesOf_l2 y y.events y.points [] [] acc rfl rfl rfl hy.symm (by omega)),ih (k+1) _ (fun x hx=>h1 x (by simp [hx])) (by rw [List.length_append,hl];omega)]
  simp [lineEs]
  rfl
theorem sum_ev (l:List Line):(l.map fun x=>x.events.length).sum ≤ (l.map fun x=>nLine x).sum:=by
 induction l with
 | nil=>simp
 | cons y l ih=>simp only [List.map_cons,List.sum_cons];have:y.events.length ≤ nLine y:=(by unfold nLine nIntS;omega);omega
theorem entriesOf_eq (s:Season) (hb:nSeason s ≤ 1048576) (h:∀ x ∈ s.lines,x.points.length=x.events.length):impl_entriesOf_p s=some (seasonEs s):=by
 unfold impl_entriesOf_p seasonEs
 rw [entriesOf_l1 s.lines 0 [] h (by have:=sum_ev s.lines;unfold nSeason nLineS at hb;simp;omega)]
 simp
theorem ret_IsSeason_l (s:Season) (hb:nSeason s ≤ 1048576) (hbest:1 ≤ s.best∧s.best ≤ 9) (fuel:Nat) (hf:1048576 < fuel):∀ (ys pre:List Line),s.lines=pre++ys→(∀ x ∈ pre,lineN x)→pre.Pairwise (fun a b=>a.skater < b.skater) →
  Ret (impl_IsSeason_l1 s fuel ys pre.length) (SeasonOk s):=by
 intro ys
 induction ys with
 | nil =>
  intro pre h1 h2 h3
  rw [List.append_nil] at h1
  rw [← h1] at h2 h3
  have hlen:(seasonEs s).length ≤ 1048576:=by
   unfold seasonEs;rw [flat_len_lines h2];have:=sum_ev s.lines;unfold nSeason nLineS at hb;omega
  rw [impl_IsSeason_l1,bnd (entriesOf_eq s hb (fun x hx=>(h2 x hx).1))]
  refine (ret_AreEntries (seasonEs s) hlen).bindR (fun g1=>?_) (fun g1=>.f fun h=>g1 ⟨h.2.2.2.1.1,h.2.2.2.1.2.2,h.2.2.2.2⟩)
  refine (ret_IsSorted (seasonEs s) hlen g1.1 fuel (by omega)).bindR (fun g2=>.t ?_) (fun g2=>.f fun h=>g2 ?_)
  ·refine ⟨hbest,h2,h3,⟨g1.1,?_,g1.2.1⟩,g1.2.2⟩
   refine (List.pairwise_and_iff.2 ⟨g2,g1.2.1⟩).imp fun {a b} h=>?_
   obtain ⟨h,h'⟩:=h
   unfold leE at h;unfold sameE at h';unfold ltE;omega
  ·refine h.2.2.2.1.2.1.imp fun {a b} h=>?_
   unfold ltE at h;unfold leE;omega
 | cons y ys ih =>
  intro pre h1 h2 h3
  have hy:y ∈ s.lines:=by rw [h1];simp
  rw [impl_IsSeason_l1]
  refine .condR (fun h=>.f fun hs=>?_) (fun h=>?_)
  ·have g1:=hs.2.1 y hy
   have g2:y.events.length ≤ 80:=by
    have:=hs.2.2.2.2
    unfold seasonEs at this
    rw [flat_len_lines hs.2.1] at this
    have:=le_sum hy (fun x=>x.events.length)
    omega
   have g3:=List.length_pos_iff.2 g1.2
   have g4:=g1.1
   simp only [Bool.or_eq_true,beq_iff_eq,decide_eq_true_eq,bne_iff_ne,ne_eq] at h
   omega
  ·simp only [Bool.or_eq_false_iff,beq_eq_false_iff_ne,decide_eq_false_iff_not,ne_eq,bne_eq_false_iff_eq] at h
   have hl:lineN y:=⟨by omega,fun e=>by rw [e] at h;simp at h⟩
   have fin:(∀ l,pre.getLast?=some l→l.skater < y.skater)→Ret (impl_IsSeason_l1 s fuel ys (pre.length+1)) (SeasonOk s):=by
    intro hlast
    have:=ih (pre++[y]) (by rw [h1];simp) (by
     intro x hx;rcases List.mem_append.1 hx with hx | hx
     ·exact h2 x hx
     ·obtain rfl:=List.mem_singleton.1 hx;exact hl) (pw_snoc (fun a b c h k=>by omega) h3 hlast)
    simpa using this
   rcases List.eq_nil_or_concat pre with rfl | ⟨q,l,rfl⟩
   ·simp only [List.length_nil,zero_d,opt_f,Option.bind_some,Bool.false_and,cond_false]
    exact fin (by simp)
   ·simp only [List.concat_eq_append] at *
    have hkl:(q++[l]).length=q.length+1:=by simp
    rw [hkl] at fin ⊢
    have hlq:s.lines.length ≤ 1048576:=by unfold nSeason nLineS at hb;omega
    simp only [pos_d,opt_t,Bool.true_and]
    rw [w64_pred (by rw [h1] at hlq;simp at hlq;omega),bnd (getI_app (pre:=q) (y:=l) (ys:=y::ys) (by rw [h1];simp) rfl)]
    refine .dcond (fun h=>.f fun hs=>?_) (fun h=>fin ?_)
    ·have:=hs.2.2.1
     rw [h1,List.pairwise_append] at this
     have:=this.2.2 l (by simp) y (by simp)
     omega
    ·intro l' hl'
     simp at hl';subst hl';omega
theorem lines_len {s:Season} (h:SeasonOk s):s.lines.length ≤ 80:=by
 have h1:=h.2.2.2.2
 unfold seasonEs at h1
 rw [flat_len_lines h.2.1] at h1
 have:∀ l:List Line,(∀ x ∈ l,lineN x)→l.length ≤ (l.map fun x=>x.events.length).sum:=by
  intro l hl
  induction l with
  | nil=>simp
  | cons y l ih =>
   have:=List.length_pos_iff.2 (hl y (by simp)).2
   have:=ih (fun x hx=>hl x (by simp [hx]))
   simp only [List.map_cons,List.sum_cons,List.length_cons];omega
 have:=this s.lines h.2.1
 omega
theorem ret_impl_IsSeason (s:Season) (hb:nSeason s ≤ 1048576) (fuel:Nat) (hf:1048576 < fuel):Ret (impl_IsSeason_p fuel s) (SeasonOk s):=by
 unfold impl_IsSeason_p
 refine (ret_isBest s.best).bindR (fun h1=>?_) (fun h1=>.f fun h=>h1 h.1)
 refine .condR (fun h=>.f fun hs=>?_) (fun h=>ret_IsSeason_l s hb h1 fuel hf s.lines [] rfl (by simp) (by simp))
 have:=lines_len hs
 simp at h;omega

end Go.Proofs.YtegdphhfimaieaaGreat

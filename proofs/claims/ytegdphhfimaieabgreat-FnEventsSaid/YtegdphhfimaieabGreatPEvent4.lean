/- Plain lemmas: what the functions compute is what the reference says, in plain Lean. No condition. -/
import Derived.Test.YtegdphhfimaieabGreatPEvent3
set_option maxRecDepth 4000
set_option maxHeartbeats 1000000
set_option linter.unusedVariables false
set_option linter.unusedSimpArgs false
set_option linter.unusedSectionVars false

namespace Go.Proofs.YtegdphhfimaieabGreat
open Go.AM

def EvR (e:Event) (s n:Int):Prop:=(n > e.segment→s ∈ e.order)∧(s ∈ e.gone→n ≤ e.segment+1∧(n > e.segment ∨ s ∉ e.order))∧(s ∉ e.gone→(e.segment ≤ n∧n ≤ e.segment+1)∧(e.order=[] ∨ s ∈ e.order))
theorem ret_evResult (e:Event) (hs:0 ≤ e.segment∧e.segment ≤ 3) (r:Result):Ret (spec_evResult_p e r) (EvR e r.skater (totR r).2):=by
 unfold spec_evResult_p
 rw [bnd (evScores_eq r)]
 generalize (totR r).2=n
 have w1:w64 (e.segment+1)=e.segment+1:=w64_in (by omega)
 obtain ⟨bo,o1,o2⟩:=ret_l1Has e.order r.skater
 obtain ⟨bg,g1,g2⟩:=ret_l1Has e.gone r.skater
 have hlen:((e.order.length:Int) == 0)=true↔e.order=[]:=by
  rw [beq_iff_eq]
  constructor
  ·intro h;exact List.eq_nil_of_length_eq_zero (by omega)
  ·intro h;rw [h];rfl
 rw [w1,bnd g1,o1]
 obtain ⟨bi,i1,i2⟩:=ret_l1In n e.segment (e.segment+1)
 rw [i1]
 unfold EvR
 have ho:r.skater ∈ e.order↔bo=true:=o2.symm
 have hg:r.skater ∈ e.gone↔bg=true:=g2.symm
 rw [ho,hg,← i2,← hlen]
 by_cases c1:n > e.segment
 ·rw [decide_eq_true c1]
  cases bo
  ·exact .f fun k=>by have:=k.1 c1;simp at this
  ·simp only [opt_t,Option.bind_some,Bool.not_true,Bool.and_false,cond_false,Bool.true_or,Bool.and_true]
   cases bg
   ·simp only [cond_false]
    cases bi
    ·exact .f fun k=>by have:=(k.2.2 (by simp)).1;simp at this
    ·simp only [Bool.true_and,opt_f,opt_t]
     cases hz:((e.order.length:Int) == 0) <;> exact .t (by simp)
   ·simp only [cond_true,opt_f,Option.bind_some]
    exact .some (by simp;omega)
 ·rw [decide_eq_false c1]
  simp only [opt_f,Option.bind_some,Bool.false_and,cond_false,Bool.not_false,Bool.and_true,Bool.false_or]
  cases bg
  ·simp only [cond_false]
   cases bi
   ·exact .f fun k=>by have:=(k.2.2 (by simp)).1;simp at this
   ·simp only [Bool.true_and]
    cases hz:((e.order.length:Int) == 0)
    ·simp only [Bool.not_false,opt_t,Option.bind_some,Bool.false_or]
     exact .some (by simp;omega)
    ·simp only [Bool.not_true,opt_f,Option.bind_some,Bool.true_or]
     exact .t ⟨fun k=>absurd k c1,fun k=>absurd k (by simp),fun _=>⟨by simp,.inl (by simp)⟩⟩
  ·simp only [cond_true]
   by_cases c2:n ≤ e.segment+1
   ·rw [decide_eq_true c2]
    simp only [opt_t,Option.bind_some,Bool.true_and]
    refine .some ⟨fun q=>⟨fun k=>absurd k c1,fun _=>⟨c2,.inr (by simpa using q)⟩,fun k=>absurd trivial k⟩,fun q=>?_⟩
    rcases (q.2.1 trivial).2 with k | k
    ·exact absurd k c1
    ·simpa using k
   ·rw [decide_eq_false c2]
    exact .f fun k=>c2 (k.2.1 (by simp)).1
def SortOk (e:Event):Prop:=e.order.Pairwise (fun a b=>hasE e b→hasE e a)∧∀ l,e.order.getLast?=some l→¬ hasE e l
theorem ret_evGood_l2 (e:Event) (h0:0 ≤ e.segment) (hb:e.order.length ≤ 1048576):∀ (ys pre:List Int) (fuel:Nat),ys.length < fuel→pre ≠ []→e.order=pre++ys→pre.Pairwise (fun a b=>hasE e b→hasE e a) →
  Ret (spec_evGood_l2 e fuel (pre.length:Int)) (SortOk e):=by
 intro ys
 induction ys with
 | nil =>
  intro pre fuel hf hne h hp
  obtain ⟨f,rfl⟩:=Nat.exists_eq_succ_of_ne_zero (by omega:fuel ≠ 0)
  rw [List.append_nil] at h
  rw [spec_evGood_l2,h,decide_eq_false (by omega),cond_false]
  rcases List.eq_nil_or_concat pre with rfl | ⟨q,z,rfl⟩
  ·exact absurd rfl hne
  simp only [List.concat_eq_append] at *
  have hkl:(q++[z]).length=q.length+1:=by simp
  have hq:q.length ≤ 1048576:=by rw [h] at hb;simp at hb;omega
  rw [hkl]
  rw [show ((((q.length+1:Nat):Int)) == 0)=false from by simp only [beq_eq_false_iff_ne,ne_eq];omega]
  simp only [Bool.not_false,opt_t,Bool.false_or]
  rw [w64_pred (by omega),bnd (getI_app (pre:=q) (y:=z) (ys:=[]) rfl rfl),bnd (evHas_eq e h0 z)]
  refine .some ?_
  simp only [Bool.not_eq_true',decide_eq_false_iff_not]
  unfold SortOk
  rw [h]
  exact ⟨fun k=>⟨hp,fun l hl=>by simp at hl;subst hl;exact k⟩,fun k=>k.2 z (by simp)⟩
 | cons y ys ih =>
  intro pre fuel hf hne h hp
  obtain ⟨f,rfl⟩:=Nat.exists_eq_succ_of_ne_zero (by omega:fuel ≠ 0)
  simp only [List.length_cons] at hf
  have hpre:pre.length ≤ 1048575:=by rw [h] at hb;simp at hb;omega
  have hlt:(pre.length:Int) < (e.order.length:Int):=by rw [h];simp;omega
  rw [spec_evGood_l2,decide_eq_true hlt,cond_true,bnd (getI_app h rfl),bnd (evHas_eq e h0 y)]
  have fin:(∀ l,pre.getLast?=some l→hasE e y→hasE e l)→Ret (spec_evGood_l2 e f (w64 ((pre.length:Int)+1))) (SortOk e):=by
   intro hl
   have:=ih (pre++[y]) f (by omega) (by simp) (by rw [h];simp) (pw_snoc (R:=fun a b=>hasE e b→hasE e a) (fun a b c p q k=>p (q k)) hp hl)
   rw [show (((pre++[y]).length:Nat):Int)=(pre.length:Int)+1 from by simp] at this
   rw [w64_in (by omega)]
   exact this
  by_cases c:hasE e y
  ·rw [decide_eq_true c]
   rcases List.eq_nil_or_concat pre with rfl | ⟨q,z,rfl⟩
   ·exact absurd rfl hne
   simp only [List.concat_eq_append] at *
   have hkl:(q++[z]).length=q.length+1:=by simp
   rw [hkl] at fin ⊢
   simp only [opt_t,Bool.true_and]
   rw [w64_pred (by omega),bnd (getI_app (pre:=q) (y:=z) (ys:=y::ys) (by rw [h];simp) rfl),bnd (evHas_eq e h0 z)]
   by_cases c2:hasE e z
   ·rw [decide_eq_true c2]
    exact fin fun l hl _=>by simp at hl;subst hl;exact c2
   ·rw [decide_eq_false c2]
    refine .f fun k=>c2 ?_
    have:=k.1
    rw [h,List.pairwise_append] at this
    exact this.2.2 z (by simp) y (by simp) c
  ·rw [decide_eq_false c]
   exact fin fun l _ k=>absurd k c
theorem ret_evGood_2 (e:Event) (h0:0 ≤ e.segment) (hb:e.order.length ≤ 1048576) (fuel:Nat) (hf:1048576 < fuel):Ret (spec_evGood_l2 e fuel 1) (SortOk e):=by
 cases h:e.order with
 | nil =>
  obtain ⟨f,rfl⟩:=Nat.exists_eq_succ_of_ne_zero (by omega:fuel ≠ 0)
  rw [spec_evGood_l2,h,show decide ((1:Int) < (([]:List Int).length:Int))=false from rfl,cond_false]
  exact .t (by unfold SortOk;rw [h];simp)
 | cons y ys =>
  have hl:e.order.length=ys.length+1:=by rw [h];simp
  exact ret_evGood_l2 e h0 hb ys [y] fuel (by omega) (by simp) h (List.pairwise_singleton _ _)
theorem ret_evGood_l1 (e:Event) (hs:0 ≤ e.segment∧e.segment ≤ 3) (hb:e.order.length ≤ 1048576) (fuel:Nat) (hf:1048576 < fuel):∀ (ys:List Result) (k:Nat),Ret (spec_evGood_l1 e fuel ys k) ((∀ r ∈ ys,EvR e r.skater (totR r).2)∧SortOk e):=by
 intro ys
 induction ys with
 | nil=>intro k;rw [spec_evGood_l1];exact (ret_evGood_2 e hs.1 hb fuel hf).iff (by simp)
 | cons y ys ih =>
  intro k
  rw [spec_evGood_l1]
  refine (ret_evResult e hs y).bindR (fun h=>?_) (fun h=>.f fun q=>h (q.1 y (by simp)))
  simp only [Bool.not_true,cond_false]
  refine (ih (k+1)).iff ⟨fun q=>⟨fun r hr=>?_,q.2⟩,fun q=>⟨fun r hr=>q.1 r (by simp [hr]),q.2⟩⟩
  rcases List.mem_cons.1 hr with rfl | hr
  ·exact h
  ·exact q.1 r hr
def EvOk (e:Event):Prop:=HeadOk e∧¬ (e.segment=e.segments∧e.order ≠ [])∧(∀ r ∈ e.results,EvR e r.skater (totR r).2)∧SortOk e
theorem ret_evGood (e:Event) (hb:nEvent e ≤ 1048576) (fuel:Nat) (hf:1048576 < fuel):Ret (spec_evGood_p fuel e) (EvOk e):=by
 obtain ⟨b1,b2,b3,b4,b5,b6⟩:=sizes_E hb
 unfold spec_evGood_p
 refine (ret_evHead e hb fuel hf).bindR (fun h1=>?_) (fun h=>.f fun k=>h k.1)
 simp only [Bool.not_true,Bool.false_or]
 have hz:((e.segment == e.segments) && decide ((e.order.length:Int) > 0))=true↔(e.segment=e.segments∧e.order ≠ []):=by
  simp only [Bool.and_eq_true,beq_iff_eq,decide_eq_true_eq]
  have:=@List.length_pos_iff Int e.order
  rw [← this]
  omega
 refine .condR (fun h=>.f fun k=>k.2.1 (hz.1 h)) (fun h=>?_)
 have h2:¬ (e.segment=e.segments∧e.order ≠ []):=fun k=>by rw [hz.2 k] at h;cases h
 have hh:=h1.2.2.2.1
 have hh1:=h1.1
 refine (ret_evGood_l1 e (by omega) b3 fuel hf e.results 0).iff ⟨fun k=>⟨h1,h2,k.1,k.2⟩,fun k=>⟨k.2.2.1,k.2.2.2⟩⟩
theorem idxEntr (f:Entrant→Option Bool) (p:Entrant→Prop):∀ (l:List Entrant) (k:Nat),(∀ x ∈ l,Ret (f x) (p x))→∃ i,slices_IndexFunc_Entrant_l1 f l k=some i∧(i ≥ 0↔∃ x ∈ l,p x):=by
 intro l
 induction l with
 | nil=>intro k _;exact ⟨-1,by rw [slices_IndexFunc_Entrant_l1],by simp⟩
 | cons y l ih =>
  intro k h
  obtain ⟨b,h1,h2⟩:=h y (by simp)
  rw [slices_IndexFunc_Entrant_l1,bnd h1]
  cases b
  ·obtain ⟨i,i1,i2⟩:=ih (k+1) fun x hx=>h x (by simp [hx])
   refine ⟨i,i1,i2.trans ⟨fun ⟨x,hx,hp⟩=>⟨x,by simp [hx],hp⟩,fun ⟨x,hx,hp⟩=>?_⟩⟩
   rcases List.mem_cons.1 hx with rfl | hx
   ·exact absurd (h2.2 hp) (by simp)
   ·exact ⟨x,hx,hp⟩
  ·exact ⟨_,rfl,⟨by exact fun _=>⟨y,by simp,h2.1 rfl⟩,by intro _;omega⟩⟩
theorem ret_isThere (e:Event) (s:Int):Ret (impl_isThere_p e s) (s ∈ skE e∧s ∉ e.gone):=by
 unfold impl_isThere_p slices_ContainsFunc_Entrant_p slices_IndexFunc_Entrant_p
 obtain ⟨i,i1,i2⟩:=idxEntr (fun a0=>impl_isThere_c1_p a0 s) (fun x=>x.skater=s) e.entrants 0 fun x _=>.some (by simp)
 rw [bnd i1]
 have hm:(∃ x ∈ e.entrants,x.skater=s)↔s ∈ skE e:=by unfold skE;rw [List.mem_map]
 rw [hm] at i2
 obtain ⟨b,h1,h2⟩:=contains_eq e.gone s
 rw [Option.bind_some]
 by_cases hi:i ≥ 0
 ·rw [decide_eq_true hi]
  simp only [opt_t,Bool.true_and]
  rw [bnd h1]
  refine .some ?_
  have:=i2.1 hi
  cases b
  ·simp only [Bool.not_false,true_iff];exact ⟨this,fun k=>by have:=h2.2 k;simp at this⟩
  ·simp only [Bool.not_true,Bool.false_eq_true,false_iff];exact fun k=>k.2 (h2.1 rfl)
 ·rw [decide_eq_false hi]
  simp only [opt_f,Bool.false_and,Option.bind_some]
  exact .f fun k=>hi (i2.2 k.1)
def dueE (e:Event) (l:List Entrant):List Int:=(l.map fun x=>x.skater).filter fun s=>decide (hasE e s ∨ s ∉ e.gone)
def cntE (e:Event) (l:List Entrant):Nat:=((l.map fun x=>x.skater).filter fun s=>decide (hasE e s)).length
theorem due_snoc (e:Event) (l:List Entrant) (y:Entrant):dueE e (l++[y])=dueE e l++if hasE e y.skater ∨ y.skater ∉ e.gone then [y.skater] else []:=by
 unfold dueE
 rw [List.map_append,List.filter_append]
 congr 1
 by_cases h:hasE e y.skater ∨ y.skater ∉ e.gone <;> simp [h]
theorem cnt_snoc (e:Event) (l:List Entrant) (y:Entrant):cntE e (l++[y])=cntE e l+if hasE e y.skater then 1 else 0:=by
 unfold cntE
 rw [List.map_append,List.filter_append,List.length_append]
 congr 1
 by_cases h:hasE e y.skater <;> simp [h]
theorem due_len (e:Event) (l:List Entrant):(dueE e l).length ≤ l.length:=by
 unfold dueE;exact Nat.le_trans (List.length_filter_le _ _) (by simp)
theorem cnt_len (e:Event) (l:List Entrant):cntE e l ≤ l.length:=by
 unfold cntE;exact Nat.le_trans (List.length_filter_le _ _) (by simp)
theorem isEventOrder_l2 (e:Event) (v:Int):∀ (ys:List Int) (k:Nat),Ret (impl_isEventOrder_l2 e v ys k) (∀ (i:Nat) (h:i < ys.length),hasE e ys[i]↔(((k+i:Nat):Int) < v)):=by
 intro ys
 induction ys with
 | nil=>intro k;rw [impl_isEventOrder_l2];exact .t (by simp)
 | cons y ys ih =>
  intro k
  rw [impl_isEventOrder_l2,bnd (isScored_eq e y)]
  by_cases h:hasE e y↔((k:Int) < v)
  ·have:decide (hasE e y)=decide ((k:Int) < v):=by simp only [decide_eq_decide];exact h
   rw [this,show (decide ((k:Int) < v) == decide ((k:Int) < v))=true from by simp]
   simp only [Bool.not_true,cond_false]
   refine (ih (k+1)).iff ⟨fun q i hi=>?_,fun q i hi=>?_⟩
   ·cases i with
    | zero=>simpa using h
    | succ i =>
     have:=q i (by simp at hi;omega)
     rw [List.getElem_cons_succ,this];omega
   ·have:=q (i+1) (by simp;omega)
    rw [List.getElem_cons_succ] at this
    rw [this];omega
  ·have:(decide (hasE e y) == decide ((k:Int) < v))=false:=by
    simp only [beq_eq_false_iff_ne,ne_eq,decide_eq_decide];exact h
   rw [this]
   refine .f fun q=>h ?_
   have:=q 0 (by simp)
   simpa using this
theorem sortedInts_eq (l:List Int) (h:l.length ≤ 1048576):impl_sortedInts_p l=some (sortI l):=by
 unfold impl_sortedInts_p impl_copyInts_p slices_Sort_int_p
 rw [fits_of (by omega),need_t,Option.bind_some,Option.bind_some,show Nat.blt l.length 4611686018427387904=true from by rw [Nat.blt_eq];omega]
 rfl
theorem equal_l (b:List Int):∀ (ys zs pre:List Int),b=pre++zs→ys.length=zs.length→Ret (slices_Equal_int_l1 b ys pre.length) (ys=zs):=by
 intro ys
 induction ys with
 | nil =>
  intro zs pre h1 h2
  rw [slices_Equal_int_l1]
  exact .t (List.eq_nil_of_length_eq_zero h2.symm).symm
 | cons y ys ih =>
  intro zs pre h1 h2
  cases zs with
  | nil=>simp at h2
  | cons z zs =>
  rw [slices_Equal_int_l1,bnd (getI_app h1 rfl)]
  by_cases h:y=z
  ·rw [show (y != z)=false from by simp [h],cond_false]
   have:=ih zs (pre++[z]) (by rw [h1];simp) (by simpa using h2)
   rw [show (pre++[z]).length=pre.length+1 from by simp] at this
   exact this.iff (by simp [h])
  ·rw [show (y != z)=true from by simp [h],cond_true]
   exact .f fun k=>h (List.cons.inj k).1
theorem ret_equal (a b:List Int):Ret (slices_Equal_int_p a b) (a=b):=by
 unfold slices_Equal_int_p
 by_cases h:a.length=b.length
 ·rw [show ((a.length:Int) != (b.length:Int))=false from by rw [h];simp,cond_false]
  exact equal_l b a b [] rfl h
 ·rw [show ((a.length:Int) != (b.length:Int))=true from by simp only [bne_iff_ne,ne_eq];omega,cond_true]
  exact .f fun k=>h (by rw [k])
theorem sortI_perm_iff (a b:List Int):sortI a=sortI b↔a.Perm b:=by
 constructor
 ·intro h
  exact (sortI_perm a).symm.trans (h ▸ sortI_perm b)
 ·intro h
  exact List.Perm.eq_of_pairwise (le:=fun x y=>x ≤ y) (fun x y _ _ h1 h2=>by omega) (sortI_le a) (sortI_le b) ((sortI_perm a).trans (h.trans (sortI_perm b).symm))
def OrdI (e:Event):Prop:=(∀ s ∈ skE e,scR e.results s ≤ e.segment+1∧(s ∉ e.gone→e.segment ≤ scR e.results s)) ∧
 (e.order=[]→cntE e e.entrants=0)∧(e.order ≠ []→e.segment ≠ e.segments∧cntE e e.entrants ≠ e.order.length∧e.order.Perm (dueE e e.entrants)∧∀ (i:Nat) (h:i < e.order.length),hasE e e.order[i]↔i < cntE e e.entrants)
theorem ret_isEventOrder_l1 (e:Event) (hs:0 ≤ e.segment∧e.segment ≤ 3) (hl:e.entrants.length ≤ 1048576) (ho:e.order.length ≤ 1048576):∀ (ys pre:List Entrant),e.entrants=pre++ys →
  (∀ x ∈ pre,scR e.results x.skater ≤ e.segment+1∧(x.skater ∉ e.gone→e.segment ≤ scR e.results x.skater))→Ret (impl_isEventOrder_l1 e ys pre.length (dueE e pre) (cntE e pre:Int)) (OrdI e):=by
 intro ys
 induction ys with
 | nil =>
  intro pre h1 h2
  rw [List.append_nil] at h1
  rw [impl_isEventOrder_l1,← h1]
  have hA:∀ s ∈ skE e,scR e.results s ≤ e.segment+1∧(s ∉ e.gone→e.segment ≤ scR e.results s):=by
   intro s hs
   obtain ⟨x,hx,rfl⟩:=List.mem_map.1 hs
   rw [h1] at hx
   exact h2 x hx
  have hcl:=cnt_len e e.entrants
  have hdl:=due_len e e.entrants
  by_cases c:e.order=[]
  ·rw [show ((e.order.length:Int) == 0)=true from by rw [c];rfl,cond_true]
   refine .some ?_
   rw [beq_iff_eq]
   exact ⟨fun k=>⟨hA,fun _=>by omega,fun k=>absurd c k⟩,fun k=>by have:=k.2.1 c;omega⟩
  ·have hlen:=List.length_pos_iff.2 c
   rw [show ((e.order.length:Int) == 0)=false from by simp only [beq_eq_false_iff_ne,ne_eq];omega,cond_false]
   have hg:((e.segment == e.segments) || ((cntE e e.entrants:Int) == (e.order.length:Int)))=true↔(e.segment=e.segments ∨ cntE e e.entrants=e.order.length):=by
    simp only [Bool.or_eq_true,beq_iff_eq];omega
   cases hgb:((e.segment == e.segments) || ((cntE e e.entrants:Int) == (e.order.length:Int)))
   ·have hg':¬ (e.segment=e.segments ∨ cntE e e.entrants=e.order.length):=fun k=>by rw [hg.2 k] at hgb;cases hgb
    simp only [Bool.not_false,opt_t,Bool.false_or]
    rw [bnd (sortedInts_eq e.order ho),bnd (sortedInts_eq (dueE e e.entrants) (by omega))]
    refine (ret_equal _ _).bindR (fun k=>?_) (fun k=>.f fun q=>k ((sortI_perm_iff _ _).2 (q.2.2 c).2.2.1))
    simp only [Bool.not_true,cond_false]
    refine (isEventOrder_l2 e (cntE e e.entrants:Int) e.order 0).iff ⟨fun q=>⟨hA,fun k=>absurd k c,fun _=>⟨fun k=>hg' (.inl k),fun k=>hg' (.inr k),(sortI_perm_iff _ _).1 k,fun i hi=>?_⟩⟩,fun q i hi=>?_⟩
    ·rw [q i hi];omega
    ·rw [(q.2.2 c).2.2.2 i hi];omega
   ·refine .f fun q=>?_
    have:=q.2.2 c
    rcases hg.1 hgb with h | h
    ·exact this.1 h
    ·exact this.2.1 h
 | cons y ys ih =>
  intro pre h1 h2
  have hy:y ∈ e.entrants:=by rw [h1];simp
  have hys:y.skater ∈ skE e:=List.mem_map.2 ⟨y,hy,rfl⟩
  have hpre:pre.length ≤ 1048575:=by rw [h1] at hl;simp at hl;omega
  have hcl:=cnt_len e pre
  have hdl:=due_len e pre
  rw [impl_isEventOrder_l1,bnd (scoredIn_eq e y.skater),w64_in (by omega)]
  by_cases c1:scR e.results y.skater > e.segment+1
  ·rw [decide_eq_true c1]
   exact .f fun k=>by have:=(k.1 y.skater hys).1;omega
  rw [decide_eq_false c1]
  simp only [Bool.not_false,opt_t,Bool.false_or]
  obtain ⟨b,e1,e2⟩:=ret_isThere e y.skater
  have e3:b=true↔y.skater ∉ e.gone:=e2.trans ⟨fun k=>k.2,fun k=>⟨hys,k⟩⟩
  rw [bnd e1,e1]
  by_cases c2:b=true∧scR e.results y.skater < e.segment
  ·rw [c2.1,decide_eq_true c2.2]
   exact .f fun k=>by have:=(k.1 y.skater hys).2 (e3.1 c2.1);omega
  have hz:(b && decide (scR e.results y.skater < e.segment))=false:=by
   rcases Bool.eq_false_or_eq_true (b && decide (scR e.results y.skater < e.segment)) with h | h
   ·rw [Bool.and_eq_true,decide_eq_true_eq] at h;exact absurd h c2
   ·exact h
  rw [hz,cond_false]
  have nx:=ih (pre++[y]) (by rw [h1];simp) (by
   intro n hn;rcases List.mem_append.1 hn with hn | hn
   ·exact h2 n hn
   ·obtain rfl:=List.mem_singleton.1 hn
    exact ⟨by omega,fun k=>Int.not_lt.1 fun q=>c2 ⟨e3.2 k,q⟩⟩)
  rw [due_snoc,cnt_snoc,show (pre++[y]).length=pre.length+1 from by simp] at nx
  by_cases c3:scR e.results y.skater > e.segment
  ·have c3':hasE e y.skater:=c3
   rw [decide_eq_true c3,cond_true]
   simp only [Bool.not_true,opt_f,Option.bind_some,Bool.true_or,cond_true]
   rw [fits_of (by simp;omega),need_t,Option.bind_some,w64_in (by omega)]
   rw [if_pos (.inl c3'),if_pos c3'] at nx
   exact nx
  ·have c3':¬ hasE e y.skater:=c3
   rw [decide_eq_false c3,cond_false]
   simp only [Bool.not_false,opt_t,Option.bind_some,Bool.false_or]
   rw [if_neg c3',Nat.add_zero] at nx
   cases b
   ·rw [cond_false]
    rw [if_neg (by rintro (k | k);exact c3' k;exact absurd (e3.2 k) (by simp)),List.append_nil] at nx
    exact nx
   ·rw [cond_true,fits_of (by simp;omega),need_t,Option.bind_some]
    rw [if_pos (.inr (e3.1 rfl))] at nx
    exact nx
theorem ret_isEventOrder (e:Event) (hs:0 ≤ e.segment∧e.segment ≤ 3) (hl:e.entrants.length ≤ 1048576) (ho:e.order.length ≤ 1048576):Ret (impl_isEventOrder_p e) (OrdI e):=ret_isEventOrder_l1 e hs hl ho e.entrants [] rfl (by simp)
theorem prefix_iff (H:Int→Prop) [DecidablePred H] (o:List Int):o.Pairwise (fun a b=>H b→H a)↔∀ (i:Nat) (h:i < o.length),H o[i]↔i < (o.filter fun s=>decide (H s)).length:=by
 constructor
 ·induction o with
  | nil=>intro _ i h;simp at h
  | cons y o ih =>
   intro hp i hi
   obtain ⟨h1,h2⟩:=List.pairwise_cons.1 hp
   by_cases c:H y
   ·rw [List.filter_cons_of_pos (by simpa using c),List.length_cons]
    cases i with
    | zero=>simpa using c
    | succ i =>
     rw [List.getElem_cons_succ,ih h2 i (by simpa using hi)]
     omega
   ·have hn:o.filter (fun s=>decide (H s))=[]:=List.filter_eq_nil_iff.2 fun z hz=>by simpa using fun k=>c (h1 z hz k)
    rw [List.filter_cons_of_neg (by simpa using c),hn]
    simp only [List.length_nil,Nat.not_lt_zero,iff_false]
    intro k
    have:(y::o)[i] ∈ y::o:=List.getElem_mem hi
    rcases List.mem_cons.1 this with e | e
    ·rw [e] at k;exact c k
    ·exact c (h1 _ e k)
 ·intro h
  rw [List.pairwise_iff_getElem]
  intro i j hi hj hij k
  have:=(h j hj).1 k
  exact (h i hi).2 (by omega)
theorem scR_mem:∀ {l:List Result},(l.map fun r=>r.skater).Pairwise (· ≠ ·)→∀ r ∈ l,scR l r.skater=(totR r).2:=by
 intro l
 induction l with
 | nil=>intro _ r h;simp at h
 | cons y l ih =>
  intro hp r hr
  rw [List.map_cons,List.pairwise_cons] at hp
  rw [scR]
  rcases List.mem_cons.1 hr with rfl | hr
  ·rw [if_pos rfl]
  ·rw [if_neg (hp.1 r.skater (List.mem_map.2 ⟨r,hr,rfl⟩)),ih hp.2 r hr]
theorem ord_iff (e:Event) (hp:PartOk e) (ho:OrderOk e.order):((∀ n ∈ e.order,n ∈ skE e)∧¬ (e.segment=e.segments∧e.order ≠ [])∧(∀ r ∈ e.results,EvR e r.skater (totR r).2)∧SortOk e)↔OrdI e:=by
 obtain ⟨p1,p2,p3,p4,p5,p6⟩:=hp
 have hR:(∀ r ∈ e.results,EvR e r.skater (totR r).2)↔∀ s ∈ skE e,EvR e s (scR e.results s):=by
  rw [← p4]
  constructor
  ·intro h s hs
   obtain ⟨r,hr,rfl⟩:=List.mem_map.1 hs
   rw [scR_mem p3.2.1 r hr];exact h r hr
  ·intro h r hr
   have:=h r.skater (List.mem_map.2 ⟨r,hr,rfl⟩)
   rwa [scR_mem p3.2.1 r hr] at this
 rw [hR]
 have hdn:(skE e).Nodup:=by
  unfold skE List.Nodup
  rw [List.pairwise_map]
  exact p1.2.1.imp fun h=>h.1
 have hdue:(dueE e e.entrants).Nodup:=hdn.filter _
 have hmd:∀ s,s ∈ dueE e e.entrants↔s ∈ skE e∧(hasE e s ∨ s ∉ e.gone):=fun s=>by
  unfold dueE;rw [List.mem_filter,decide_eq_true_eq];rfl
 by_cases c:e.order=[]
 ·have hc:cntE e e.entrants=0↔∀ s ∈ skE e,¬ hasE e s:=by
   unfold cntE
   rw [List.length_eq_zero_iff,List.filter_eq_nil_iff]
   simp only [decide_eq_true_eq]
   rfl
  unfold OrdI SortOk EvR
  rw [hc]
  have hnil:∀ s,s ∉ e.order:=fun s=>by rw [c];simp
  constructor
  ·intro ⟨_,_,k,_⟩
   refine ⟨fun s hs=>?_,fun _ s hs hh=>hnil s ((k s hs).1 hh),fun k=>absurd c k⟩
   have:=k s hs
   by_cases hg:s ∈ e.gone
   ·exact ⟨(this.2.1 hg).1,fun q=>absurd hg q⟩
   ·exact ⟨(this.2.2 hg).1.2,fun _=>(this.2.2 hg).1.1⟩
  ·intro ⟨k1,k2,_⟩
   refine ⟨fun s hs=>absurd hs (hnil s),fun k=>k.2 c,fun s hs=>⟨fun k=>absurd k (k2 c s hs),fun hg=>⟨(k1 s hs).1,.inr (hnil s)⟩,fun hg=>⟨⟨(k1 s hs).2 hg,(k1 s hs).1⟩,.inl c⟩⟩,?_⟩
   rw [c];simp
 ·have hon:e.order.Nodup:=ho.2.1
  have hpre:=prefix_iff (hasE e) e.order
  have hcnt:e.order.Perm (dueE e e.entrants)→cntE e e.entrants=(e.order.filter fun s=>decide (hasE e s)).length:=by
   intro h
   rw [(h.filter fun s=>decide (hasE e s)).length_eq]
   unfold dueE cntE
   rw [List.filter_filter]
   congr 2
   funext s
   by_cases hh:hasE e s <;> simp [hh]
  have hlast:e.order.Pairwise (fun a b=>hasE e b→hasE e a)→((∀ l,e.order.getLast?=some l→¬ hasE e l)↔(e.order.filter fun s=>decide (hasE e s)).length ≠ e.order.length):=by
   intro h
   have hpos:=List.length_pos_iff.2 c
   have hl:e.order.getLast?=some (e.order[e.order.length - 1]'(by omega)):=by
    rw [List.getLast?_eq_getElem?,List.getElem?_eq_getElem]
   have:=hpre.1 h (e.order.length - 1) (by omega)
   have hle:=List.length_filter_le (fun s=>decide (hasE e s)) e.order
   constructor
   ·intro k q
    exact k _ hl (this.2 (by omega))
   ·intro k l hll
    rw [hl] at hll
    obtain rfl:=Option.some.inj hll
    intro q
    have:=this.1 q
    omega
  have hperm:e.order.Perm (dueE e e.entrants)↔∀ s,s ∈ e.order↔s ∈ skE e∧(hasE e s ∨ s ∉ e.gone):=by
   rw [List.perm_ext_iff_of_nodup hon hdue]
   constructor
   ·intro h s;rw [h s,hmd s]
   ·intro h s;rw [h s,hmd s]
  unfold OrdI
  constructor
  ·intro ⟨k1,k2,k3,k4⟩
   have hpm:e.order.Perm (dueE e e.entrants):=by
    rw [hperm]
    intro s
    constructor
    ·intro hs
     have hk:=k1 s hs
     refine ⟨hk,?_⟩
     by_cases hg:s ∈ e.gone
     ·rcases ((k3 s hk).2.1 hg).2 with q | q
      ·exact .inl q
      ·exact absurd hs q
     ·exact .inr hg
    ·rintro ⟨hk,q⟩
     by_cases hh:hasE e s
     ·exact (k3 s hk).1 hh
     ·have hg:s ∉ e.gone:=q.elim (fun q=>absurd q hh) id
      exact (((k3 s hk).2.2 hg).2).elim (fun q=>absurd q c) id
   refine ⟨fun s hs=>?_,fun q=>absurd q c,fun _=>⟨fun q=>k2 ⟨q,c⟩,?_,hpm,?_⟩⟩
   ·have:=k3 s hs
    by_cases hg:s ∈ e.gone
    ·exact ⟨(this.2.1 hg).1,fun q=>absurd hg q⟩
    ·exact ⟨(this.2.2 hg).1.2,fun _=>(this.2.2 hg).1.1⟩
   ·rw [hcnt hpm];exact (hlast k4.1).1 k4.2
   ·rw [hcnt hpm];exact hpre.1 k4.1
  ·intro ⟨k1,_,k3⟩
   obtain ⟨q1,q2,q3,q4⟩:=k3 c
   rw [hcnt q3] at q2 q4
   have hpw:=hpre.2 q4
   have hmem:=hperm.1 q3
   refine ⟨fun s hs=>((hmem s).1 hs).1,fun k=>q1 k.1,fun s hs=>⟨fun k=>(hmem s).2 ⟨hs,.inl k⟩,fun hg=>⟨(k1 s hs).1,?_⟩,fun hg=>⟨⟨(k1 s hs).2 hg,(k1 s hs).1⟩,.inr ((hmem s).2 ⟨hs,.inr hg⟩)⟩⟩,hpw,(hlast hpw).2 q2⟩
   by_cases hh:hasE e s
   ·exact .inl hh
   ·refine .inr fun k=>?_
    rcases ((hmem s).1 k).2 with q | q
    ·exact hh q
    ·exact q hg
theorem ret_impl_IsEvent (e:Event) (hb:nEvent e ≤ 1048576):Ret (impl_IsEvent_p e) (EvOk e):=by
 obtain ⟨b1,b2,b3,b4,b5,b6⟩:=sizes_E hb
 unfold impl_IsEvent_p
 refine (ret_within e.segments 1 3).bindR (fun h1=>?_) (fun h=>.f fun k=>h k.1.1)
 simp only [Bool.true_and,opt_t]
 refine (ret_isGroupSize e.size).bindR (fun h2=>?_) (fun h=>.f fun k=>h k.1.2.1)
 simp only [Bool.true_and,opt_t]
 refine (ret_isKey e.key).bindR (fun h3=>?_) (fun h=>.f fun k=>h k.1.2.2.1)
 simp only [Bool.true_and,opt_t]
 refine (ret_within e.segment 0 e.segments).bindR (fun h4=>?_) (fun h=>.f fun k=>h k.1.2.2.2.1)
 simp only [Bool.true_and,opt_t]
 refine (ret_isOrder e.order).bindR (fun h5=>?_) (fun h=>.f fun k=>h k.1.2.2.2.2.1)
 simp only [Bool.true_and,opt_t]
 refine (ret_hasEntrants e hb).bindR (fun h6=>?_) (fun h=>.f fun k=>h k.1.2.2.2.2.2.1)
 simp only [Bool.true_and,opt_t]
 have key:=ord_iff e h6 h5
 refine (ret_isEventOrder e (by omega) b1 b3).bindR (fun h7=>?_) (fun h=>.f fun k=>h ?_)
 ·have:=key.2 h7
  exact .t ⟨⟨h1,h2,h3,h4,h5,h6,this.1⟩,this.2.1,this.2.2.1,this.2.2.2⟩
 ·exact key.1 ⟨k.1.2.2.2.2.2.2,k.2.1,k.2.2.1,k.2.2.2⟩
theorem both_event (e:Event) (hb:nEvent e ≤ 1048576) (fuel:Nat) (hf:1048576 < fuel):(spec_evGood_p fuel e=some true∧impl_IsEvent_p e=some true∧EvOk e) ∨ (spec_evGood_p fuel e=some false∧impl_IsEvent_p e=some false):=by
 obtain ⟨b,h1,h2⟩:=ret_evGood e hb fuel hf
 obtain ⟨b',h3,h4⟩:=ret_impl_IsEvent e hb
 have:b=b':=Bool.eq_iff_iff.2 (h2.trans h4.symm)
 subst this
 cases b
 ·exact .inr ⟨h1,h3⟩
 ·exact .inl ⟨h1,h3,h2.1 rfl⟩

end Go.Proofs.YtegdphhfimaieabGreat

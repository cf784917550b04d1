/- Plain lemmas: what the functions compute is what the reference says, in plain Lean. No condition. -/
import Derived.Test.YtegdphhfimaieabGreatPOrder1
set_option maxRecDepth 4000
set_option maxHeartbeats 1000000
set_option linter.unusedVariables false
set_option linter.unusedSimpArgs false
set_option linter.unusedSectionVars false

namespace Go.Proofs.YtegdphhfimaieabGreat
open Go.AM

def stepT (a:Int × Int) (y:Int):Int × Int:=if y ≥ 0 then (w64 (a.1+y),w64 (a.2+1)) else a
def totR (r:Result):Int × Int:=r.scores.foldl stepT (0,0)
theorem rkTotal_l:∀ (l:List Int) (k:Nat) (a b:Int),spec_rkTotal_l1 l k a b=some (l.foldl stepT (a,b)):=by
 intro l
 induction l with
 | nil=>intro k a b;rw [spec_rkTotal_l1];rfl
 | cons y l ih =>
  intro k a b
  rw [spec_rkTotal_l1,List.foldl_cons]
  by_cases h:y ≥ 0
  ·rw [decide_eq_true h,cond_true,ih,show stepT (a,b) y=(w64 (a+y),w64 (b+1)) from if_pos h]
  ·rw [decide_eq_false h,cond_false,ih,show stepT (a,b) y=(a,b) from if_neg h]
theorem rkTotal_eq (r:Result):spec_rkTotal_p r=some (totR r):=rkTotal_l r.scores 0 0 0
theorem totalOf_l:∀ (l:List Int) (k:Nat) (a b:Int),impl_totalOf_l1 l k a b=some (l.foldl stepT (a,b)):=by
 intro l
 induction l with
 | nil=>intro k a b;rw [impl_totalOf_l1];rfl
 | cons y l ih =>
  intro k a b
  rw [impl_totalOf_l1,List.foldl_cons]
  by_cases h:y ≥ 0
  ·rw [decide_eq_true h,cond_true,ih,show stepT (a,b) y=(w64 (a+y),w64 (b+1)) from if_pos h]
  ·rw [decide_eq_false h,cond_false,ih,show stepT (a,b) y=(a,b) from if_neg h]
theorem totalOf_eq (r:Result):impl_totalOf_p r=some (totR r):=totalOf_l r.scores 0 0 0
theorem evScores_eq (r:Result):spec_evScores_p r=some (totR r).2:=by
 unfold spec_evScores_p;rw [bnd (rkTotal_eq r)]
def scR:List Result→Int→Int
 | [],_=>0
 | r::l,s=>if r.skater=s then (totR r).2 else scR l s
theorem scoredIn_l (s:Int):∀ (l:List Result) (k:Nat),impl_scoredIn_l1 s l k=some (scR l s):=by
 intro l
 induction l with
 | nil=>intro k;rw [impl_scoredIn_l1];rfl
 | cons y l ih =>
  intro k
  rw [impl_scoredIn_l1,scR]
  by_cases h:y.skater=s
  ·rw [show (y.skater == s)=true from by simpa using h,cond_true,if_pos h,bnd (totalOf_eq y)]
  ·rw [show (y.skater == s)=false from by simpa using h,cond_false,if_neg h,ih]
theorem scoredIn_eq (e:Event) (s:Int):impl_scoredIn_p e s=some (scR e.results s):=scoredIn_l s e.results 0
def hasE (e:Event) (s:Int):Prop:=scR e.results s > e.segment
instance (e:Event) (s:Int):Decidable (hasE e s):=inferInstanceAs (Decidable (scR e.results s > e.segment))
theorem evHas_l (e:Event) (h0:0 ≤ e.segment) (s:Int):∀ (l:List Result) (k:Nat),spec_evHas_l1 e s l k=some (decide (scR l s > e.segment)):=by
 intro l
 induction l with
 | nil=>intro k;rw [spec_evHas_l1,scR,decide_eq_false (by omega)]
 | cons y l ih =>
  intro k
  rw [spec_evHas_l1,scR]
  by_cases h:y.skater=s
  ·rw [show (y.skater == s)=true from by simpa using h,cond_true,if_pos h,bnd (evScores_eq y)]
  ·rw [show (y.skater == s)=false from by simpa using h,cond_false,if_neg h,ih]
theorem evHas_eq (e:Event) (h0:0 ≤ e.segment) (s:Int):spec_evHas_p e s=some (decide (hasE e s)):=evHas_l e h0 s e.results 0
theorem isScored_eq (e:Event) (s:Int):impl_isScored_p e s=some (decide (hasE e s)):=by
 unfold impl_isScored_p;rw [bnd (scoredIn_eq e s)];rfl
def entrOk (x:Entrant):Prop:=(1 ≤ x.skater∧x.skater ≤ 999)∧(0 ≤ x.rank∧x.rank ≤ 999)
def otherE (a b:Entrant):Prop:=a.skater ≠ b.skater∧(a.rank=b.rank→b.rank ≤ 0)
def EntrOk (l:List Entrant):Prop:=(∀ x ∈ l,entrOk x)∧l.Pairwise otherE∧l.length ≤ 40
theorem other_snoc {l:List Entrant} {y:Entrant} (h:l.Pairwise otherE) (hy:∀ x ∈ l,otherE x y):(l++[y]).Pairwise otherE:=by
 rw [List.pairwise_append]
 exact ⟨h,List.pairwise_singleton _ _,fun a ha b hb=>by obtain rfl:=List.mem_singleton.1 hb;exact hy a ha⟩
theorem ret_soEntrants_l (l:List Entrant) (hl:l.length ≤ 1048576):∀ (ys pre:List Entrant),l=pre++ys→(∀ s ∈ pre,entrOk s)→pre.Pairwise otherE →
  Ret (spec_soEntrants_l1 l ys pre.length (pre.map fun x=>x.skater) (pre.map fun x=>x.rank)) (EntrOk l):=by
 intro ys
 induction ys with
 | nil =>
  intro pre h1 h2 h3
  rw [List.append_nil] at h1
  rw [spec_soEntrants_l1]
  refine .some ?_
  unfold EntrOk
  rw [decide_eq_true_eq,h1]
  exact ⟨fun h=>⟨h2,h3,by omega⟩,fun h=>by have:=h.2.2;omega⟩
 | cons y ys ih =>
  intro pre h1 h2 h3
  have hy:y ∈ l:=by rw [h1];simp
  have hpre:pre.length ≤ 1048575:=by rw [h1] at hl;simp at hl;omega
  rw [spec_soEntrants_l1]
  refine (ret_l1In y.skater 1 999).bindR (fun h=>?_) (fun h=>.f fun k=>h (k.1 y hy).1)
  simp only [Bool.not_true,Bool.not_false,opt_t,Bool.false_or]
  refine (ret_l1In y.rank 0 999).bindR (fun g=>?_) (fun g=>.f fun k=>g (k.1 y hy).2)
  simp only [Bool.not_true,Bool.not_false,opt_t,Bool.false_or]
  have hh:=ret_l1Has (pre.map fun x:Entrant=>x.skater) y.skater
  refine hh.bindR (fun hin=>.f fun k=>?_) (fun hin=>?_)
  ·have:=k.2.1
   rw [h1,List.pairwise_append] at this
   obtain ⟨x,hx,e⟩:=List.mem_map.1 hin
   exact (this.2.2 x hx y (by simp)).1 e
  ·simp only [Bool.not_false,Bool.true_and,Bool.false_or]
   have fin:(∀ x ∈ pre,otherE x y)→Ret ((need (fitsB 8 ((pre.map fun x=>x.skater).length+([y.skater]).length))).bind fun u44 =>
     (need (fitsB 8 ((pre.map fun x=>x.rank).length+([y.rank]).length))).bind fun u46 =>
     spec_soEntrants_l1 l ys (pre.length+1) ((pre.map fun x=>x.skater)++[y.skater]) ((pre.map fun x=>x.rank)++[y.rank])) (EntrOk l):=by
    intro ho
    rw [fits_of (by simp;omega),fits_of (by simp;omega)]
    simp only [need_t,Option.bind_some]
    have:=ih (pre++[y]) (by rw [h1];simp) (by
     intro n hn;rcases List.mem_append.1 hn with hn | hn
     ·exact h2 n hn
     ·obtain rfl:=List.mem_singleton.1 hn;exact ⟨h,g⟩) (other_snoc h3 ho)
    simpa using this
   have hsk:∀ x ∈ pre,x.skater ≠ y.skater:=fun x hx e=>hin (List.mem_map.2 ⟨x,hx,e⟩)
   by_cases hr:y.rank > 0
   ·rw [decide_eq_true hr]
    simp only [opt_t,Bool.true_and]
    have hh2:=ret_l1Has (pre.map fun x:Entrant=>x.rank) y.rank
    refine hh2.bindR (fun hin2=>.f fun k=>?_) (fun hin2=>?_)
    ·have:=k.2.1
     rw [h1,List.pairwise_append] at this
     obtain ⟨x,hx,e⟩:=List.mem_map.1 hin2
     have:=(this.2.2 x hx y (by simp)).2 e
     omega
    ·exact fin fun x hx=>⟨hsk x hx,fun e=>absurd (List.mem_map.2 ⟨x,hx,e⟩) hin2⟩
   ·rw [decide_eq_false hr]
    simp only [opt_f,Option.bind_some,Bool.false_and,cond_false]
    exact fin fun x hx=>⟨hsk x hx,fun _=>by omega⟩
theorem ret_soEntrants (l:List Entrant) (hl:l.length ≤ 1048576):Ret (spec_soEntrants_p l) (EntrOk l):=ret_soEntrants_l l hl l [] rfl (by simp) List.Pairwise.nil
theorem areEntrants_l2 (y:Entrant):∀ (l:List Entrant) (k:Nat),impl_AreEntrants_l2 y l k=some (.ok ())∧(∀ x ∈ l,otherE x y) ∨ impl_AreEntrants_l2 y l k=some (.error false)∧¬ ∀ x ∈ l,otherE x y:=by
 intro l
 induction l with
 | nil=>intro k;left;rw [impl_AreEntrants_l2];simp
 | cons z l ih =>
  intro k
  rw [impl_AreEntrants_l2]
  by_cases h:otherE z y
  ·have:((z.skater == y.skater) || ((z.rank == y.rank) && decide (y.rank > 0)))=false:=by
    unfold otherE at h
    simp only [Bool.or_eq_false_iff,beq_eq_false_iff_ne,Bool.and_eq_false_iff,decide_eq_false_iff_not,ne_eq]
    refine ⟨h.1,?_⟩
    by_cases e:z.rank=y.rank
    ·right;have:=h.2 e;omega
    ·left;exact e
   rw [this,cond_false]
   rcases ih (k+1) with ⟨h1,h2⟩ | ⟨h1,h2⟩
   ·left;exact ⟨h1,fun x hx=>by rcases List.mem_cons.1 hx with rfl | hx;exact h;exact h2 x hx⟩
   ·right;exact ⟨h1,fun k=>h2 fun x hx=>k x (by simp [hx])⟩
  ·right
   have:((z.skater == y.skater) || ((z.rank == y.rank) && decide (y.rank > 0)))=true:=by
    unfold otherE at h
    simp only [Bool.or_eq_true,beq_iff_eq,Bool.and_eq_true,decide_eq_true_eq]
    by_cases e:z.skater=y.skater
    ·left;exact e
    ·right;by_cases e2:z.rank=y.rank
     ·exact ⟨e2,by by_cases e3:y.rank > 0;exact e3;exact absurd ⟨e,fun _=>by omega⟩ h⟩
     ·exact absurd ⟨e,fun e3=>absurd e3 e2⟩ h
   rw [this,cond_true]
   exact ⟨rfl,fun k=>h (k z (by simp))⟩
theorem ret_AreEntrants_l (l:List Entrant) (hl:l.length ≤ 1048576):∀ (ys pre:List Entrant),l=pre++ys→(∀ s ∈ pre,entrOk s)→pre.Pairwise otherE→Ret (impl_AreEntrants_l1 l ys pre.length) (EntrOk l):=by
 intro ys
 induction ys with
 | nil =>
  intro pre h1 h2 h3
  rw [List.append_nil] at h1
  rw [impl_AreEntrants_l1]
  refine .some ?_
  unfold EntrOk
  rw [decide_eq_true_eq,h1]
  exact ⟨fun h=>⟨h2,h3,by omega⟩,fun h=>by have:=h.2.2;omega⟩
 | cons y ys ih =>
  intro pre h1 h2 h3
  have hy:y ∈ l:=by rw [h1];simp
  rw [impl_AreEntrants_l1]
  obtain ⟨b,e1,e2⟩:=ret_isSkater y.skater
  rw [bnd e1]
  cases b
  ·exact .f fun k=>by have:=e2.2 (k.1 y hy).1;simp at this
  simp only [Bool.not_true,Bool.not_false,opt_t,Bool.false_or]
  obtain ⟨b,f1,f2⟩:=ret_within y.rank 0 999
  rw [bnd f1]
  cases b
  ·exact .f fun k=>by have:=f2.2 (k.1 y hy).2;simp at this
  simp only [Bool.not_true,cond_false]
  rw [bnd (show sliceHi l (pre.length:Int)=some pre from by rw [h1];exact sliceHi_pre pre (y::ys) rfl)]
  rcases areEntrants_l2 y pre 0 with ⟨g1,g2⟩ | ⟨g1,g2⟩
  ·rw [bnd g1]
   simp only [flow]
   have:=ih (pre++[y]) (by rw [h1];simp) (by
     intro n hn;rcases List.mem_append.1 hn with hn | hn
     ·exact h2 n hn
     ·obtain rfl:=List.mem_singleton.1 hn;exact ⟨e2.1 rfl,f2.1 rfl⟩) (other_snoc h3 g2)
   simpa using this
  ·rw [bnd g1]
   refine .f fun k=>g2 fun x hx=>?_
   have:=k.2.1
   rw [h1,List.pairwise_append] at this
   exact this.2.2 x hx y (by simp)
theorem ret_AreEntrants (l:List Entrant) (hl:l.length ≤ 1048576):Ret (impl_AreEntrants_p l) (EntrOk l):=ret_AreEntrants_l l hl l [] rfl (by simp) List.Pairwise.nil
def UpOk (l:List Int) (lo hi:Int):Prop:=(∀ n ∈ l,lo ≤ n∧n ≤ hi)∧l.Pairwise (· < ·)
theorem ret_l1Rising_l (l:List Int) (lo hi:Int) (hl:l.length ≤ 1048576):∀ (ys pre:List Int),l=pre++ys→(∀ n ∈ pre,lo ≤ n∧n ≤ hi)→pre.Pairwise (· < ·)→Ret (spec_l1Rising_l1 l lo hi ys pre.length) (UpOk l lo hi):=by
 intro ys
 induction ys with
 | nil =>
  intro pre h1 h2 h3
  rw [List.append_nil] at h1
  rw [spec_l1Rising_l1]
  exact .t (by rw [h1];exact ⟨h2,h3⟩)
 | cons y ys ih =>
  intro pre h1 h2 h3
  have hy:y ∈ l:=by rw [h1];simp
  rw [spec_l1Rising_l1]
  refine (ret_l1In y lo hi).bindR (fun h=>?_) (fun h=>.f fun k=>h (k.1 y hy))
  simp only [Bool.not_true,Bool.not_false,Bool.true_and,Bool.false_or]
  have fin:(∀ l,pre.getLast?=some l→l < y)→Ret (spec_l1Rising_l1 l lo hi ys (pre.length+1)) (UpOk l lo hi):=by
   intro hlast
   have:=ih (pre++[y]) (by rw [h1];simp) (by
    intro n hn;rcases List.mem_append.1 hn with hn | hn
    ·exact h2 n hn
    ·obtain rfl:=List.mem_singleton.1 hn;exact h) (pw_snoc (R:=fun a b:Int=>a < b) (fun a b c p q=>by omega) h3 hlast)
   simpa using this
  rcases List.eq_nil_or_concat pre with rfl | ⟨q,z,rfl⟩
  ·simp only [List.length_nil,zero_d,opt_f,Option.bind_some,Bool.false_and,cond_false]
   exact fin (by simp)
  ·simp only [List.concat_eq_append] at *
   have hkl:(q++[z]).length=q.length+1:=by simp
   have hq:q.length ≤ 1048576:=by rw [h1] at hl;simp at hl;omega
   rw [hkl] at fin ⊢
   simp only [pos_d,opt_t,Bool.true_and]
   rw [w64_pred (by omega),bnd (getI_app (pre:=q) (y:=z) (ys:=y::ys) (by rw [h1];simp) rfl)]
   refine .dcond (fun hlt=>.f fun k=>?_) (fun hlt=>fin ?_)
   ·have:=k.2
    rw [h1] at this
    have:=(List.pairwise_append.1 this).2.2 z (by simp) y (by simp)
    omega
   ·intro l hl';simp at hl';subst hl';omega
theorem ret_l1Rising (l:List Int) (lo hi:Int) (hl:l.length ≤ 1048576):Ret (spec_l1Rising_p l lo hi) (UpOk l lo hi):=ret_l1Rising_l l lo hi hl l [] rfl (by simp) List.Pairwise.nil
theorem ret_isIncreasing_l (l:List Int) (m:Int) (hm:1 ≤ m∧m ≤ 1000000) (hl:l.length ≤ 1048576):∀ (ys pre:List Int),l=pre++ys→(∀ n ∈ pre,0 ≤ n∧n ≤ m - 1)→pre.Pairwise (· < ·)→Ret (impl_isIncreasing_l1 l m ys pre.length) (UpOk l 0 (m - 1)):=by
 intro ys
 induction ys with
 | nil =>
  intro pre h1 h2 h3
  rw [List.append_nil] at h1
  rw [impl_isIncreasing_l1]
  exact .t (by rw [h1];exact ⟨h2,h3⟩)
 | cons y ys ih =>
  intro pre h1 h2 h3
  have hy:y ∈ l:=by rw [h1];simp
  rw [impl_isIncreasing_l1,w64_in (by omega)]
  refine (ret_within y 0 (m - 1)).bindR (fun h=>?_) (fun h=>.f fun k=>h (k.1 y hy))
  simp only [Bool.not_true,Bool.not_false,Bool.true_and,Bool.false_or]
  have fin:(∀ l,pre.getLast?=some l→l < y)→Ret (impl_isIncreasing_l1 l m ys (pre.length+1)) (UpOk l 0 (m - 1)):=by
   intro hlast
   have:=ih (pre++[y]) (by rw [h1];simp) (by
    intro n hn;rcases List.mem_append.1 hn with hn | hn
    ·exact h2 n hn
    ·obtain rfl:=List.mem_singleton.1 hn;exact h) (pw_snoc (R:=fun a b:Int=>a < b) (fun a b c p q=>by omega) h3 hlast)
   simpa using this
  rcases List.eq_nil_or_concat pre with rfl | ⟨q,z,rfl⟩
  ·simp only [List.length_nil,zero_d,opt_f,Option.bind_some,Bool.false_and,cond_false]
   exact fin (by simp)
  ·simp only [List.concat_eq_append] at *
   have hkl:(q++[z]).length=q.length+1:=by simp
   have hq:q.length ≤ 1048576:=by rw [h1] at hl;simp at hl;omega
   rw [hkl] at fin ⊢
   simp only [pos_d,opt_t,Bool.true_and]
   rw [w64_pred (by omega),bnd (getI_app (pre:=q) (y:=z) (ys:=y::ys) (by rw [h1];simp) rfl)]
   refine .dcond (fun hlt=>.f fun k=>?_) (fun hlt=>fin ?_)
   ·have:=k.2
    rw [h1] at this
    have:=(List.pairwise_append.1 this).2.2 z (by simp) y (by simp)
    omega
   ·intro l hl';simp at hl';subst hl';omega
theorem ret_isIncreasing (l:List Int) (m:Int) (hm:1 ≤ m∧m ≤ 1000000) (hl:l.length ≤ 1048576):Ret (impl_isIncreasing_p l m) (UpOk l 0 (m - 1)):=ret_isIncreasing_l l m hm hl l [] rfl (by simp) List.Pairwise.nil
def missE (a b:Int):Prop:=a < 0→b < 0
def resOk (r:Result):Prop:=(1 ≤ r.skater∧r.skater ≤ 999)∧(1 ≤ r.scores.length∧r.scores.length ≤ 3)∧(∀ n ∈ r.scores,-1 ≤ n∧n ≤ 100000)∧r.scores.Pairwise missE
theorem ret_rkResult_l (r:Result):∀ (ys pre:List Int) (v:Bool),r.scores=pre++ys→(∀ n ∈ pre,-1 ≤ n∧n ≤ 100000)→pre.Pairwise missE→(v=true↔∃ l,pre.getLast?=some l∧l < 0)→Ret (spec_rkResult_l1 r ys pre.length v) (resOk r):=by
 intro ys
 induction ys with
 | nil =>
  intro pre v h1 h2 h3 h4
  rw [List.append_nil] at h1
  rw [spec_rkResult_l1]
  refine (ret_l1In r.skater 1 999).bindR (fun h=>?_) (fun h=>.f fun k=>h k.1)
  simp only [opt_t,Bool.true_and]
  refine (ret_l1In (r.scores.length:Int) 1 3).bindR (fun g=>.t ⟨h,by omega,by rw [h1];exact h2,by rw [h1];exact h3⟩) (fun g=>.f fun k=>g ?_)
  have:=k.2.1;omega
 | cons y ys ih =>
  intro pre v h1 h2 h3 h4
  have hy:y ∈ r.scores:=by rw [h1];simp
  rw [spec_rkResult_l1]
  refine (ret_l1In y (-1) 100000).bindR (fun h=>?_) (fun h=>.f fun k=>h (k.2.2.1 y hy))
  simp only [Bool.not_true,Bool.false_or]
  refine .condR (fun g=>.f fun k=>?_) (fun g=>?_)
  ·simp only [Bool.and_eq_true,decide_eq_true_eq] at g
   obtain ⟨l,l1,l2⟩:=h4.1 g.1
   have:=k.2.2.2
   rw [h1,List.pairwise_append] at this
   have:=this.2.2 l (List.mem_of_getLast? l1) y (by simp) l2
   omega
  ·simp only [Bool.and_eq_false_iff,decide_eq_false_iff_not] at g
   have:=ih (pre++[y]) (decide (y < 0)) (by rw [h1];simp) (by
    intro n hn;rcases List.mem_append.1 hn with hn | hn
    ·exact h2 n hn
    ·obtain rfl:=List.mem_singleton.1 hn;exact h) (pw_snoc (R:=missE) (fun a b c p q k=>q (p k)) h3 fun l hl hn=>by
     rcases g with g | g
     ·exact absurd (h4.2 ⟨l,hl,hn⟩) (by simp [g])
     ·omega) (by simp)
   simpa using this
theorem ret_rkResult (r:Result):Ret (spec_rkResult_p r) (resOk r):=ret_rkResult_l r r.scores [] false rfl (by simp) List.Pairwise.nil (by simp)
theorem ret_isResult_l (r:Result) (hl:r.scores.length ≤ 1048576):∀ (ys pre:List Int),r.scores=pre++ys→(∀ n ∈ pre,-1 ≤ n∧n ≤ 100000)→pre.Pairwise missE→Ret (impl_isResult_l1 r ys pre.length) (resOk r):=by
 intro ys
 induction ys with
 | nil =>
  intro pre h1 h2 h3
  rw [List.append_nil] at h1
  rw [impl_isResult_l1]
  refine (ret_isSkater r.skater).bindR (fun h=>?_) (fun h=>.f fun k=>h k.1)
  simp only [opt_t,Bool.true_and]
  refine (ret_within (r.scores.length:Int) 1 3).bindR (fun g=>.t ⟨h,by omega,by rw [h1];exact h2,by rw [h1];exact h3⟩) (fun g=>.f fun k=>g ?_)
  have:=k.2.1;omega
 | cons y ys ih =>
  intro pre h1 h2 h3
  have hy:y ∈ r.scores:=by rw [h1];simp
  rw [impl_isResult_l1]
  refine (ret_within y (-1) 100000).bindR (fun h=>?_) (fun h=>.f fun k=>h (k.2.2.1 y hy))
  simp only [Bool.not_true,Bool.not_false,Bool.true_and,Bool.false_or]
  have fin:(∀ l,pre.getLast?=some l→missE l y)→Ret (impl_isResult_l1 r ys (pre.length+1)) (resOk r):=by
   intro hlast
   have:=ih (pre++[y]) (by rw [h1];simp) (by
    intro n hn;rcases List.mem_append.1 hn with hn | hn
    ·exact h2 n hn
    ·obtain rfl:=List.mem_singleton.1 hn;exact h) (pw_snoc (R:=missE) (fun a b c p q k=>q (p k)) h3 hlast)
   simpa using this
  rcases List.eq_nil_or_concat pre with rfl | ⟨q,z,rfl⟩
  ·simp only [List.length_nil,zero_d,opt_f,Option.bind_some,Bool.false_and,cond_false]
   exact fin (by simp)
  ·simp only [List.concat_eq_append] at *
   have hkl:(q++[z]).length=q.length+1:=by simp
   have hq:q.length ≤ 1048576:=by rw [h1] at hl;simp at hl;omega
   rw [hkl] at fin ⊢
   simp only [pos_d,opt_t,Bool.true_and]
   rw [w64_pred (by omega),bnd (getI_app (pre:=q) (y:=z) (ys:=y::ys) (by rw [h1];simp) rfl)]
   refine .condR (fun g=>.f fun k=>?_) (fun g=>fin ?_)
   ·simp only [Bool.and_eq_true,decide_eq_true_eq] at g
    have:=k.2.2.2
    rw [h1] at this
    have:=(List.pairwise_append.1 this).2.2 z (by simp) y (by simp) g.1
    omega
   ·simp only [Bool.and_eq_false_iff,decide_eq_false_iff_not] at g
    intro l hl' hn
    simp at hl';subst hl'
    omega
theorem ret_isResult (r:Result) (hl:r.scores.length ≤ 1048576):Ret (impl_isResult_p r) (resOk r):=ret_isResult_l r hl r.scores [] rfl (by simp) List.Pairwise.nil
def ResOk (l:List Result):Prop:=(∀ r ∈ l,resOk r)∧(l.map fun r=>r.skater).Pairwise (· ≠ ·)∧(∀ r ∈ l,r.scores.length=(l.headD default).scores.length)∧l.length ≤ 40
theorem ret_rkGood_l (l:List Result) (hl:l.length ≤ 1048576):∀ (ys pre:List Result),l=pre++ys→(∀ r ∈ pre,resOk r)→(pre.map fun r=>r.skater).Pairwise (· ≠ ·)→(∀ r ∈ pre,r.scores.length=(l.headD default).scores.length) →
  Ret (spec_rkGood_l1 l ys pre.length (pre.map fun r=>r.skater)) (ResOk l):=by
 intro ys
 induction ys with
 | nil =>
  intro pre h1 h2 h3 h4
  rw [List.append_nil] at h1
  subst h1
  rw [spec_rkGood_l1]
  refine .some ?_
  unfold ResOk
  rw [decide_eq_true_eq]
  exact ⟨fun h=>⟨h2,h3,h4,by omega⟩,fun h=>by have:=h.2.2.2;omega⟩
 | cons y ys ih =>
  intro pre h1 h2 h3 h4
  have hy:y ∈ l:=by rw [h1];simp
  have hpre:pre.length ≤ 1048575:=by rw [h1] at hl;simp at hl;omega
  rw [spec_rkGood_l1]
  refine (ret_rkResult y).bindR (fun h=>?_) (fun h=>.f fun k=>h (k.1 y hy))
  simp only [Bool.not_true,Bool.not_false,opt_t,Bool.false_or]
  have hh:=ret_l1Has (pre.map fun r:Result=>r.skater) y.skater
  refine hh.bindR (fun hin=>.f fun k=>?_) (fun hin=>?_)
  ·have:=k.2.1
   rw [h1,List.map_append,List.pairwise_append] at this
   exact this.2.2 y.skater hin y.skater (by simp) rfl
  ·simp only [Bool.not_false,opt_t,Bool.false_or]
   obtain ⟨z,zs,hz⟩:∃ z zs,l=z::zs:=by cases l with | nil=>simp at hy | cons z zs=>exact ⟨z,zs,rfl⟩
   rw [bnd (show getI l 0=some (l.headD default) from by rw [hz];rfl)]
   refine .condR (fun g=>.f fun k=>?_) (fun g=>?_)
   ·have:=k.2.2.1 y hy
    rw [this] at g
    simp at g
   ·have g':y.scores.length=(l.headD default).scores.length:=by
     simp only [bne_eq_false_iff_eq] at g;omega
    rw [fits_of (by simp;omega)]
    simp only [need_t,Option.bind_some]
    have:=ih (pre++[y]) (by rw [h1];simp) (by
     intro n hn;rcases List.mem_append.1 hn with hn | hn
     ·exact h2 n hn
     ·obtain rfl:=List.mem_singleton.1 hn;exact h) (by rw [List.map_append];exact ne_snoc h3 hin) (by
     intro n hn;rcases List.mem_append.1 hn with hn | hn
     ·exact h4 n hn
     ·obtain rfl:=List.mem_singleton.1 hn;exact g')
    simpa using this
theorem ret_rkGood (l:List Result) (hl:l.length ≤ 1048576):Ret (spec_rkGood_p l) (ResOk l):=ret_rkGood_l l hl l [] rfl (by simp) List.Pairwise.nil (by simp)
theorem areResults_l2 (y:Result):∀ (l:List Result) (k:Nat),impl_AreResults_l2 y l k=some (.ok ())∧(y.skater ∉ l.map fun r=>r.skater) ∨ impl_AreResults_l2 y l k=some (.error false)∧(y.skater ∈ l.map fun r=>r.skater):=by
 intro l
 induction l with
 | nil=>intro k;left;rw [impl_AreResults_l2];simp
 | cons z l ih =>
  intro k
  rw [impl_AreResults_l2]
  by_cases h:z.skater=y.skater
  ·right
   rw [show (z.skater == y.skater)=true from by simpa using h,cond_true]
   exact ⟨rfl,by simp [h]⟩
  ·rw [show (z.skater == y.skater)=false from by simpa using h,cond_false]
   have h':¬ y.skater=z.skater:=fun e=>h e.symm
   rcases ih (k+1) with ⟨h1,h2⟩ | ⟨h1,h2⟩
   ·left;exact ⟨h1,by rw [List.map_cons,List.mem_cons];exact fun k=>k.elim h' h2⟩
   ·right;exact ⟨h1,by rw [List.map_cons,List.mem_cons];exact .inr h2⟩
theorem ret_AreResults_l (l:List Result) (hl:l.length ≤ 1048576) (hs:∀ r ∈ l,r.scores.length ≤ 1048576):∀ (ys pre:List Result),l=pre++ys→(∀ r ∈ pre,resOk r)→(pre.map fun r=>r.skater).Pairwise (· ≠ ·)→(∀ r ∈ pre,r.scores.length=(l.headD default).scores.length) →
  Ret (impl_AreResults_l1 l ys pre.length) (ResOk l):=by
 intro ys
 induction ys with
 | nil =>
  intro pre h1 h2 h3 h4
  rw [List.append_nil] at h1
  subst h1
  rw [impl_AreResults_l1]
  refine .some ?_
  unfold ResOk
  rw [decide_eq_true_eq]
  exact ⟨fun h=>⟨h2,h3,h4,by omega⟩,fun h=>by have:=h.2.2.2;omega⟩
 | cons y ys ih =>
  intro pre h1 h2 h3 h4
  have hy:y ∈ l:=by rw [h1];simp
  rw [impl_AreResults_l1]
  obtain ⟨b,e1,e2⟩:=ret_isResult y (hs y hy)
  rw [bnd e1]
  cases b
  ·exact .f fun k=>by have:=e2.2 (k.1 y hy);simp at this
  simp only [Bool.not_true,Bool.not_false,opt_t,Bool.false_or]
  obtain ⟨z,zs,hz⟩:∃ z zs,l=z::zs:=by cases l with | nil=>simp at hy | cons z zs=>exact ⟨z,zs,rfl⟩
  rw [bnd (show getI l 0=some (l.headD default) from by rw [hz];rfl)]
  by_cases g':y.scores.length=(l.headD default).scores.length
  ·rw [show ((y.scores.length:Int) != ((l.headD default).scores.length:Int))=false from by rw [g'];simp,cond_false]
   rw [bnd (show sliceHi l (pre.length:Int)=some pre from by rw [h1];exact sliceHi_pre pre (y::ys) rfl)]
   rcases areResults_l2 y pre 0 with ⟨g1,g2⟩ | ⟨g1,g2⟩
   ·rw [bnd g1]
    simp only [flow]
    have:=ih (pre++[y]) (by rw [h1];simp) (by
     intro n hn;rcases List.mem_append.1 hn with hn | hn
     ·exact h2 n hn
     ·obtain rfl:=List.mem_singleton.1 hn;exact e2.1 rfl) (by rw [List.map_append];exact ne_snoc h3 g2) (by
     intro n hn;rcases List.mem_append.1 hn with hn | hn
     ·exact h4 n hn
     ·obtain rfl:=List.mem_singleton.1 hn;exact g')
    simpa using this
   ·rw [bnd g1]
    refine .f fun k=>?_
    have:=k.2.1
    rw [h1,List.map_append,List.pairwise_append] at this
    exact this.2.2 y.skater g2 y.skater (by simp) rfl
  ·rw [show ((y.scores.length:Int) != ((l.headD default).scores.length:Int))=true from by simp only [bne_iff_ne,ne_eq];omega,cond_true]
   exact .f fun k=>g' (k.2.2.1 y hy)
theorem ret_AreResults (l:List Result) (hl:l.length ≤ 1048576) (hs:∀ r ∈ l,r.scores.length ≤ 1048576):Ret (impl_AreResults_p l) (ResOk l):=ret_AreResults_l l hl hs l [] rfl (by simp) List.Pairwise.nil (by simp)

end Go.Proofs.YtegdphhfimaieabGreat

/- Plain lemmas: what the functions compute is what the reference says, in plain Lean. No condition. -/
import Derived.Test.YtegdphhfimaieaaGreatPStableRank
set_option maxRecDepth 4000
set_option maxHeartbeats 1000000
set_option linter.unusedVariables false
set_option linter.unusedSimpArgs false
set_option linter.unusedSectionVars false

namespace Go.Proofs.YtegdphhfimaieaaGreat
open Go.AM

theorem bang_mem {l:List Rank} {i:Nat} (h:i < l.length):l[i]! ∈ l:=by rw [getElem!_pos l i h];exact List.getElem_mem h
theorem take_bang {l:List Rank} {k:Nat} {x:Rank} (h:x ∈ l.take k):∃ i,i < k∧i < l.length∧l[i]! = x:=by
 obtain ⟨i,hi,e⟩:=List.getElem_of_mem h
 rw [List.length_take] at hi
 exact ⟨i,by omega,by omega,by rw [getElem!_pos l i (by omega),← e,List.getElem_take]⟩
theorem drop_bang {l:List Rank} {k:Nat} {x:Rank} (h:x ∈ l.drop k):∃ i,k ≤ i∧i < l.length∧l[i]! = x:=by
 obtain ⟨i,hi,e⟩:=List.getElem_of_mem h
 rw [List.length_drop] at hi
 exact ⟨k+i,by omega,by omega,by rw [getElem!_pos l (k+i) (by omega),← e,List.getElem_drop]⟩
theorem mvR (x:Rank) (A B:List Rank):∀ (W2 W1:List Rank) (fuel:Nat),W2.length < fuel→A.length+W1.length+W2.length ≤ 1000000 →
  slices_symMergeCmpFunc_Rank_l2 ((A.length+W1.length+W2.length+1:Nat):Int) fuel (A++(W1++(x::(W2++B)))) ((A.length+W1.length:Nat):Int)=some (A++(W1++(W2++x::B))):=by
 intro W2
 induction W2 with
 | nil =>
  intro W1 fuel hf hl
  obtain ⟨f,rfl⟩:=Nat.exists_eq_succ_of_ne_zero (by omega:fuel ≠ 0)
  rw [slices_symMergeCmpFunc_Rank_l2,w64_in (by simp at hl ⊢;omega),decide_eq_false (by simp),cond_false]
  rfl
 | cons y W2 ih =>
  intro W1 fuel hf hl
  simp only [List.length_cons] at hf hl
  obtain ⟨f,rfl⟩:=Nat.exists_eq_succ_of_ne_zero (by omega:fuel ≠ 0)
  rw [slices_symMergeCmpFunc_Rank_l2,w64_in (n:=((A.length+W1.length+(y::W2).length+1:Nat):Int) - 1) (by simp;omega),decide_eq_true (by simp;omega),cond_true,w64_in (n:=((A.length+W1.length:Nat):Int)+1) (by omega),
   bnd (getI_app (pre:=A++(W1++[x])) (y:=y) (ys:=W2++B) (by simp) (by simp;omega)),bnd (getI_app (pre:=A++W1) (y:=x) (ys:=y::W2++B) (by simp) (by simp)),
   set_mid (A:=A++W1) (x:=x) (B:=y::W2++B) (by simp) (by simp;omega),bnd (getI_app (pre:=A++(W1++[y])) (y:=y) (ys:=W2++B) (by simp) (by simp;omega)),set_mid (A:=A++(W1++[y])) (x:=y) (B:=W2++B) (by simp) (by simp;omega)]
  have:=ih (W1++[y]) f (by omega) (by simp;omega)
  simp only [List.length_append,List.length_cons,List.length_nil] at this ⊢
  rw [show A.length+(W1.length+(0+1))+W2.length+1=A.length+W1.length+(W2.length+1)+1 from by omega,show ((A.length+(W1.length+(0+1)):Nat):Int)=((A.length+W1.length:Nat):Int)+1 from by omega] at this
  rw [show A++(W1++[y])++x::(W2++B)=A++(W1++[y]++x::(W2++B)) from by simp,this]
  simp
theorem mvL (y:Rank) (A:List Rank):∀ (n:Nat) (W B:List Rank) (fuel:Nat),W.length=n→n < fuel→A.length+W.length ≤ 1000000 →
  slices_symMergeCmpFunc_Rank_l4 (A.length:Int) fuel (A++(W++(y::B))) ((A.length+W.length:Nat):Int)=some (A++(y::(W++B))):=by
 intro n
 induction n with
 | zero =>
  intro W B fuel hn hf hl
  obtain rfl:=List.eq_nil_of_length_eq_zero hn
  obtain ⟨f,rfl⟩:=Nat.exists_eq_succ_of_ne_zero (by omega:fuel ≠ 0)
  rw [slices_symMergeCmpFunc_Rank_l4,decide_eq_false (by simp),cond_false]
  rfl
 | succ n ih =>
  intro W B fuel hn hf hl
  obtain ⟨f,rfl⟩:=Nat.exists_eq_succ_of_ne_zero (by omega:fuel ≠ 0)
  rcases List.eq_nil_or_concat W with rfl | ⟨W0,z,rfl⟩
  ·simp at hn
  simp only [List.concat_eq_append] at *
  have hW:(W0++[z]).length=W0.length+1:=by simp
  rw [hW] at hn hl
  rw [slices_symMergeCmpFunc_Rank_l4,hW,decide_eq_true (by omega),cond_true,w64_in (n:=((A.length+(W0.length+1):Nat):Int) - 1) (by omega),
   bnd (getI_app (pre:=A++W0) (y:=z) (ys:=y::B) (by simp) (by simp;omega)),bnd (getI_app (pre:=A++(W0++[z])) (y:=y) (ys:=B) (by simp) (by simp)),Int.toNat_natCast,
   set_mid (A:=A++(W0++[z])) (x:=y) (B:=B) (by simp) (by simp),bnd (getI_app (pre:=A++W0) (y:=z) (ys:=z::B) (by simp) (by simp;omega)),set_mid (A:=A++W0) (x:=z) (B:=z::B) (by simp) (by simp;omega)]
  have:=ih W0 (z::B) f (by omega) (by omega) (by omega)
  rw [show ((A.length+(W0.length+1):Nat):Int) - 1=((A.length+W0.length:Nat):Int) from by omega,show A++W0++y::z::B=A++(W0++y::(z::B)) from by simp,this]
  simp
theorem sym_one (cmp:Rank→Rank→Option Int) (key q:Rank→Int) (fu:Nat) (hfu:1000000 < fu) (A T B:List Rank) (x:Rank) (hc:CmpOn cmp key (x::T)) (hs:T.Pairwise (RK key q)) (hq:∀ y ∈ T,q x < q y) (hl:A.length+1+T.length ≤ 1000000) :
  ∃ S,((slices_symMergeCmpFunc_Rank_l1 (A++(x::(T++B))) (A.length:Int) cmp fu ((A.length+1:Nat):Int) ((A.length+1+T.length:Nat):Int)).bind fun v24=>slices_symMergeCmpFunc_Rank_l2 v24 fu (A++(x::(T++B))) (A.length:Int))=some (A++(S++B))∧S.Pairwise (RK key q)∧S.Perm (x::T):=by
 have hT:∀ t,A.length+1 ≤ t→t < A.length+1+T.length→(A++(x::(T++B)))[t]! = T[t - (A.length+1)]! := by
  intro t h1 h2
  have:=bang_app (A:=A++[x]) (X:=T) (B:=B) (i:=t - (A.length+1)) (by omega)
  rw [List.length_append,List.length_singleton,show A.length+1+(t - (A.length+1))=t from by omega] at this
  rw [← this];simp
 obtain ⟨w,w1,w2,w3,w4,w5⟩:=halve (fun f u v=>slices_symMergeCmpFunc_Rank_l1 (A++(x::(T++B))) (A.length:Int) cmp f u v) (fun t=>decide (key (A++(x::(T++B)))[t]! < key x)) (A.length+1) (A.length+1+T.length)
  (by
   intro f u v h1 h2
   show slices_symMergeCmpFunc_Rank_l1 _ _ cmp (f+1) _ _=_
   rw [slices_symMergeCmpFunc_Rank_l1]
   by_cases huv:u < v
   ·rw [decide_eq_true (by omega),cond_true,if_pos huv,u64_mid u v (by omega) (by omega),bnd (getI_bang (k:=(u+v) / 2) rfl (by simp;omega)),bnd (getI_app (pre:=A) (y:=x) (ys:=T++B) rfl rfl)]
    obtain ⟨c,c1,c2⟩:=hc (A++(x::(T++B)))[(u+v) / 2]! (by rw [hT _ (by omega) (by omega)];exact List.mem_cons_of_mem _ (bang_mem (by omega))) x (by simp)
    rw [bnd c1]
    by_cases hk:key (A++(x::(T++B)))[(u+v) / 2]! < key x
    ·rw [decide_eq_true (c2.2 hk),cond_true,if_pos (by simpa using hk),w64_in (by omega)];rfl
    ·rw [decide_eq_false (fun h=>hk (c2.1 h)),cond_false,if_neg (by simpa using hk)]
   ·rw [decide_eq_false (by omega),cond_false,if_neg huv])
  (by
   intro s t h1 h2 h3 h4
   have h4:=of_decide_eq_true h4
   refine decide_eq_true ?_
   rw [hT s (by omega) (by omega)]
   rw [hT t (by omega) (by omega)] at h4
   have:=key_mono hs (i:=s - (A.length+1)) (j:=t - (A.length+1)) (by omega) (by omega)
   omega) T.length fu (A.length+1) (A.length+1+T.length) (by omega) (by omega) (Nat.le_refl _) (by omega) (Nat.le_refl _) (fun t h1 h2=>by omega) (fun t h1 h2=>by omega)
 rw [bnd w1]
 have hsp:T=T.take (w - (A.length+1))++T.drop (w - (A.length+1)):=(List.take_append_drop _ _).symm
 have hlt1:∀ y ∈ T.take (w - (A.length+1)),key y < key x:=by
  intro y hy
  obtain ⟨i,i1,i2,i3⟩:=take_bang hy
  have:=of_decide_eq_true (w4 (A.length+1+i) (by omega) (by omega))
  rw [hT _ (by omega) (by omega),show A.length+1+i - (A.length+1)=i from by omega,i3] at this
  exact this
 have hge2:∀ y ∈ T.drop (w - (A.length+1)),¬ key y < key x:=by
  intro y hy
  obtain ⟨i,i1,i2,i3⟩:=drop_bang hy
  have:=of_decide_eq_false (w5 (A.length+1+i) (by omega) (by omega))
  rw [hT _ (by omega) (by omega),show A.length+1+i - (A.length+1)=i from by omega,i3] at this
  exact this
 have ht1:(T.take (w - (A.length+1))).length=w - (A.length+1):=by rw [List.length_take];omega
 generalize hT1:T.take (w - (A.length+1))=T1 at hsp hlt1 ht1
 generalize T.drop (w - (A.length+1))=T2 at hsp hge2
 refine ⟨T1++x::T2,?_,?_,?_⟩
 ·have:=mvR x A (T2++B) T1 [] fu (by omega) (by simp;omega)
  simp only [List.length_nil,Nat.add_zero] at this
  rw [show A.length+T1.length+1=w from by omega] at this
  rw [hsp,show A++x::(T1++T2++B)=A++([]++x::(T1++(T2++B))) from by simp,this]
  simp
 ·rw [hsp] at hs
  have h:=List.pairwise_append.1 hs
  rw [List.pairwise_append]
  refine ⟨h.1,List.pairwise_cons.2 ⟨fun y hy=>?_,h.2.1⟩,fun a ha b hb=>?_⟩
  ·have:=hge2 y hy
   have:=hq y (by rw [hsp];simp [hy])
   unfold RK;omega
  ·rcases List.mem_cons.1 hb with rfl | hb
   ·exact .inl (hlt1 a ha)
   ·exact h.2.2 a ha b hb
 ·rw [hsp];exact List.perm_middle
theorem sym_last (cmp:Rank→Rank→Option Int) (key q:Rank→Int) (fu:Nat) (hfu:1000000 < fu) (A L B:List Rank) (y:Rank) (hc:CmpOn cmp key (L++[y])) (hs:L.Pairwise (RK key q)) (hq:∀ x ∈ L,q x < q y) (hl:A.length+L.length+1 ≤ 1000000) :
  ∃ S,((slices_symMergeCmpFunc_Rank_l3 (A++(L++(y::B))) ((A.length+L.length:Nat):Int) cmp fu (A.length:Int) ((A.length+L.length:Nat):Int)).bind fun v98=>slices_symMergeCmpFunc_Rank_l4 v98 fu (A++(L++(y::B))) ((A.length+L.length:Nat):Int))=some (A++(S++B))∧S.Pairwise (RK key q)∧S.Perm (L++[y]):=by
 have hL:∀ t,A.length ≤ t→t < A.length+L.length→(A++(L++(y::B)))[t]! = L[t - A.length]! := by
  intro t h1 h2
  have:=bang_app (A:=A) (X:=L) (B:=y::B) (i:=t - A.length) (by omega)
  rw [show A.length+(t - A.length)=t from by omega] at this
  exact this
 obtain ⟨w,w1,w2,w3,w4,w5⟩:=halve (fun f u v=>slices_symMergeCmpFunc_Rank_l3 (A++(L++(y::B))) ((A.length+L.length:Nat):Int) cmp f u v) (fun t=>!decide (key y < key (A++(L++(y::B)))[t]!)) A.length (A.length+L.length)
  (by
   intro f u v h1 h2
   show slices_symMergeCmpFunc_Rank_l3 _ _ cmp (f+1) _ _=_
   rw [slices_symMergeCmpFunc_Rank_l3]
   by_cases huv:u < v
   ·rw [decide_eq_true (by omega),cond_true,if_pos huv,bnd (getI_app (pre:=A++L) (y:=y) (ys:=B) (by simp) (by simp)),u64_mid u v (by omega) (by omega),bnd (getI_bang (k:=(u+v) / 2) rfl (by simp;omega))]
    obtain ⟨c,c1,c2⟩:=hc y (by simp) (A++(L++(y::B)))[(u+v) / 2]! (by rw [hL _ (by omega) (by omega)];exact List.mem_append_left _ (bang_mem (by omega)))
    rw [bnd c1]
    by_cases hk:key y < key (A++(L++(y::B)))[(u+v) / 2]!
    ·rw [decide_eq_true (c2.2 hk),Bool.not_true,cond_false,if_neg (by simpa using hk)]
    ·rw [decide_eq_false (fun h=>hk (c2.1 h)),Bool.not_false,cond_true,if_pos (by simpa using hk),w64_in (by omega)];rfl
   ·rw [decide_eq_false (by omega),cond_false,if_neg huv])
  (by
   intro s t h1 h2 h3 h4
   simp only [Bool.not_eq_true',decide_eq_false_iff_not] at h4 ⊢
   rw [hL s (by omega) (by omega)]
   rw [hL t (by omega) (by omega)] at h4
   have:=key_mono hs (i:=s - A.length) (j:=t - A.length) (by omega) (by omega)
   omega) L.length fu A.length (A.length+L.length) (by omega) (by omega) (Nat.le_refl _) (by omega) (Nat.le_refl _) (fun t h1 h2=>by omega) (fun t h1 h2=>by omega)
 rw [bnd w1]
 have hsp:L=L.take (w - A.length)++L.drop (w - A.length):=(List.take_append_drop _ _).symm
 have hle1:∀ x ∈ L.take (w - A.length),¬ key y < key x:=by
  intro x hx
  obtain ⟨i,i1,i2,i3⟩:=take_bang hx
  have:=w4 (A.length+i) (by omega) (by omega)
  simp only [Bool.not_eq_true',decide_eq_false_iff_not] at this
  rw [hL _ (by omega) (by omega),show A.length+i - A.length=i from by omega,i3] at this
  exact this
 have hgt2:∀ x ∈ L.drop (w - A.length),key y < key x:=by
  intro x hx
  obtain ⟨i,i1,i2,i3⟩:=drop_bang hx
  have:=w5 (A.length+i) (by omega) (by omega)
  simp only [Bool.not_eq_false',decide_eq_true_eq] at this
  rw [hL _ (by omega) (by omega),show A.length+i - A.length=i from by omega,i3] at this
  exact this
 have ht1:(L.take (w - A.length)).length=w - A.length:=by rw [List.length_take];omega
 generalize L.take (w - A.length)=L1 at hsp hle1 ht1
 generalize L.drop (w - A.length)=L2 at hsp hgt2
 refine ⟨L1++y::L2,?_,?_,?_⟩
 ·have hll:L.length=L1.length+L2.length:=by rw [hsp];simp
  have:=mvL y (A++L1) L2.length L2 B fu rfl (by omega) (by simp;omega)
  rw [List.length_append,show A.length+L1.length=w from by omega] at this
  rw [hsp,show A++(L1++L2++y::B)=A++L1++(L2++y::B) from by simp,show ((A.length+(L1++L2).length:Nat):Int)=((w+L2.length:Nat):Int) from by simp;omega,this]
  simp
 ·rw [hsp] at hs
  have h:=List.pairwise_append.1 hs
  rw [List.pairwise_append]
  refine ⟨h.1,List.pairwise_cons.2 ⟨fun x hx=>.inl (hgt2 x hx),h.2.1⟩,fun a ha b hb=>?_⟩
  rcases List.mem_cons.1 hb with rfl | hb
  ·have:=hle1 a ha
   have:=hq a (by rw [hsp];simp [ha])
   unfold RK;omega
  ·exact h.2.2 a ha b hb
 ·rw [hsp];exact List.perm_middle.trans (by simpa using (List.perm_append_comm (l₁:=[y]) (l₂:=L1++L2)))
def symK (fu rf:Nat) (cmp:Rank→Rank→Option Int) (a w md e b:Int) (d:List Rank):Option (List Rank) :=
 cond (decide (a < w) && decide (w < md))
  ((slices_symMergeCmpFunc_Rank_p fu rf d a w md cmp).bind fun x=>cond (decide (md < e) && decide (e < b)) ((slices_symMergeCmpFunc_Rank_p fu rf x md e b cmp).bind fun z=>some z) (some x))
  (cond (decide (md < e) && decide (e < b)) ((slices_symMergeCmpFunc_Rank_p fu rf d md e b cmp).bind fun z=>some z) (some d))
def SymIH (fu rf:Nat) (cmp:Rank→Rank→Option Int) (key q:Rank→Int):Prop:=∀ (A L T B:List Rank),L ≠ []→T ≠ []→L.length+T.length < rf→CmpOn cmp key (L++T)→L.Pairwise (RK key q)→T.Pairwise (RK key q)→(∀ x ∈ L,∀ y ∈ T,q x < q y)→A.length+L.length+T.length ≤ 1000000 →
  ∃ S,slices_symMergeCmpFunc_Rank_p fu rf (A++(L++(T++B))) (A.length:Int) ((A.length+L.length:Nat):Int) ((A.length+L.length+T.length:Nat):Int) cmp=some (A++(S++B))∧S.Pairwise (RK key q)∧S.Perm (L++T)
theorem pick_nil {L T:List Rank} {R:Rank→Rank→Prop} (h:L=[] ∨ T=[]) (h1:L.Pairwise R) (h2:T.Pairwise R):(L++T).Pairwise R:=by
 rcases h with rfl | rfl
 ·simpa using h2
 ·simpa using h1
theorem symK_ok (fu rf:Nat) (cmp:Rank→Rank→Option Int) (key q:Rank→Int) (ih:SymIH fu rf cmp key q) (A L1 R1 L2 R2 B:List Rank) (h1:L1.length+R1.length < rf) (h2:L2.length+R2.length < rf) (hc:CmpOn cmp key (L1++R1++L2++R2)) (s1:L1.Pairwise (RK key q)) (s2:R1.Pairwise (RK key q)) (s3:L2.Pairwise (RK key q)) (s4:R2.Pairwise (RK key q))
  (q1:∀ x ∈ L1,∀ y ∈ R1,q x < q y) (q2:∀ x ∈ L2,∀ y ∈ R2,q x < q y) (hx:∀ x ∈ L1++R1,∀ y ∈ L2++R2,RK key q x y) (hl:A.length+L1.length+R1.length+L2.length+R2.length ≤ 1000000) :
  ∃ S,symK fu rf cmp (A.length:Int) ((A.length+L1.length:Nat):Int) ((A.length+L1.length+R1.length:Nat):Int) ((A.length+L1.length+R1.length+L2.length:Nat):Int) ((A.length+L1.length+R1.length+L2.length+R2.length:Nat):Int) (A++(L1++(R1++(L2++(R2++B)))))=some (A++(S++B))∧S.Pairwise (RK key q)∧S.Perm (L1++R1++(L2++R2)):=by
 have second:∀ S1:List Rank,S1.length=L1.length+R1.length→∃ S2,(cond (decide (((A.length+L1.length+R1.length:Nat):Int) < ((A.length+L1.length+R1.length+L2.length:Nat):Int)) && decide (((A.length+L1.length+R1.length+L2.length:Nat):Int) < ((A.length+L1.length+R1.length+L2.length+R2.length:Nat):Int)))
   ((slices_symMergeCmpFunc_Rank_p fu rf (A++(S1++(L2++(R2++B)))) ((A.length+L1.length+R1.length:Nat):Int) ((A.length+L1.length+R1.length+L2.length:Nat):Int) ((A.length+L1.length+R1.length+L2.length+R2.length:Nat):Int) cmp).bind fun z=>some z) (some (A++(S1++(L2++(R2++B))))))=some (A++(S1++(S2++B)))∧S2.Pairwise (RK key q)∧S2.Perm (L2++R2):=by
  intro S1 hS1
  by_cases hn:L2=[] ∨ R2=[]
  ·refine ⟨L2++R2,?_,pick_nil hn s3 s4,List.Perm.refl _⟩
   have:(decide (((A.length+L1.length+R1.length:Nat):Int) < ((A.length+L1.length+R1.length+L2.length:Nat):Int)) && decide (((A.length+L1.length+R1.length+L2.length:Nat):Int) < ((A.length+L1.length+R1.length+L2.length+R2.length:Nat):Int)))=false:=by
    rcases hn with rfl | rfl
    ·rw [decide_eq_false (by simp)];rfl
    ·rw [decide_eq_false (p:=((A.length+L1.length+R1.length+L2.length:Nat):Int) < _) (by simp),Bool.and_false]
   rw [this,cond_false]
   simp
  ·have hL2:L2 ≠ []:=fun e=>hn (.inl e)
   have hR2:R2 ≠ []:=fun e=>hn (.inr e)
   have p1:=List.length_pos_iff.2 hL2
   have p2:=List.length_pos_iff.2 hR2
   rw [decide_eq_true (by omega),decide_eq_true (by omega),Bool.and_self,cond_true]
   obtain ⟨S2,g1,g2,g3⟩:=ih (A++S1) L2 R2 B hL2 hR2 h2 (hc.sub (by intro x hx;simp at hx ⊢;rcases hx with h | h <;> simp [h])) s3 s4 q2 (by simp;omega)
   rw [List.length_append,hS1] at g1
   rw [show A.length+(L1.length+R1.length)=A.length+L1.length+R1.length from by omega] at g1
   refine ⟨S2,?_,g2,g3⟩
   rw [show A++(S1++(L2++(R2++B)))=A++S1++(L2++(R2++B)) from by simp,bnd g1]
   simp
 have join:∀ S1 S2:List Rank,S1.Pairwise (RK key q)→S1.Perm (L1++R1)→S2.Pairwise (RK key q)→S2.Perm (L2++R2)→(S1++S2).Pairwise (RK key q)∧(S1++S2).Perm (L1++R1++(L2++R2)):=fun S1 S2 a1 a2 a3 a4 =>
  ⟨List.pairwise_append.2 ⟨a1,a3,fun x hx' y hy=>hx x (a2.mem_iff.1 hx') y (a4.mem_iff.1 hy)⟩,a2.append a4⟩
 unfold symK
 by_cases hn:L1=[] ∨ R1=[]
 ·have:(decide ((A.length:Int) < ((A.length+L1.length:Nat):Int)) && decide (((A.length+L1.length:Nat):Int) < ((A.length+L1.length+R1.length:Nat):Int)))=false:=by
   rcases hn with rfl | rfl
   ·rw [decide_eq_false (by simp)];rfl
   ·rw [decide_eq_false (p:=((A.length+L1.length:Nat):Int) < _) (by simp),Bool.and_false]
  rw [this,cond_false]
  obtain ⟨S2,g1,g2,g3⟩:=second (L1++R1) (by simp)
  refine ⟨L1++R1++S2,?_,join _ _ (pick_nil hn s1 s2) (List.Perm.refl _) g2 g3⟩
  rw [show A++(L1++(R1++(L2++(R2++B))))=A++(L1++R1++(L2++(R2++B))) from by simp,g1]
  simp
 ·have hL1:L1 ≠ []:=fun e=>hn (.inl e)
  have hR1:R1 ≠ []:=fun e=>hn (.inr e)
  have p1:=List.length_pos_iff.2 hL1
  have p2:=List.length_pos_iff.2 hR1
  rw [decide_eq_true (by omega),decide_eq_true (by omega),Bool.and_self,cond_true]
  obtain ⟨S1,g1,g2,g3⟩:=ih A L1 R1 (L2++(R2++B)) hL1 hR1 h1 (hc.sub (by intro x hx;simp at hx ⊢;rcases hx with h | h <;> simp [h])) s1 s2 q1 (by omega)
  rw [bnd g1]
  obtain ⟨S2,k1,k2,k3⟩:=second S1 (by rw [g3.length_eq];simp)
  refine ⟨S1++S2,?_,join S1 S2 g2 g3 k2 k3⟩
  rw [k1];simp

end Go.Proofs.YtegdphhfimaieaaGreat

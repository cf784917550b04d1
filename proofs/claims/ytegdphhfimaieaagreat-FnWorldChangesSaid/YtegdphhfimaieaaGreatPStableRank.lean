/- Plain lemmas: what the functions compute is what the reference says, in plain Lean. No condition. -/
import Derived.Test.YtegdphhfimaieaaGreatPWorld2
set_option maxRecDepth 4000
set_option maxHeartbeats 1000000
set_option linter.unusedVariables false
set_option linter.unusedSimpArgs false
set_option linter.unusedSectionVars false

namespace Go.Proofs.YtegdphhfimaieaaGreat
open Go.AM

def RK (key q:Rank→Int) (x y:Rank):Prop:=key x < key y ∨ (key x=key y∧q x < q y)
theorem RK_tr {key q:Rank→Int} (a b c:Rank) (h:RK key q a b) (k:RK key q b c):RK key q a c:=by unfold RK at *;omega
def CmpBy (cmp:Rank→Rank→Option Int) (key:Rank→Int) (x y:Rank):Prop:=∃ c,cmp x y=some c∧(c < 0↔key x < key y)
def CmpOn (cmp:Rank→Rank→Option Int) (key:Rank→Int) (l:List Rank):Prop:=∀ x ∈ l,∀ y ∈ l,CmpBy cmp key x y
theorem CmpOn.sub {cmp key} {l m:List Rank} (h:CmpOn cmp key l) (hs:∀ x ∈ m,x ∈ l):CmpOn cmp key m:=fun x hx y hy=>h x (hs x hx) y (hs y hy)
theorem set_mid {l A B:List Rank} {x y:Rank} {n:Nat} (hl:l=A++x::B) (h:n=A.length):l.set n y=A++y::B:=by
 subst hl h;simp [List.set_append]
theorem u64_mid (a b:Nat) (ha:a ≤ 1000000) (hb:b ≤ 1000000):IntKind.wrap .i64 ((IntKind.wrap .u64 (w64 ((a:Int)+(b:Int)))).fdiv (2 ^ 1))=(((a+b) / 2:Nat):Int):=by
 rw [w64_in (by omega),IntWalk.u64_in _ (by omega)]
 have e:((a:Int)+(b:Int)).fdiv (2 ^ 1)=(((a+b) / 2:Nat):Int):=by
  rw [show ((2:Int) ^ 1)=2 from rfl,Int.fdiv_eq_ediv_of_nonneg _ (by omega)];omega
 rw [e]
 exact IntWalk.i64_in _ (by omega)
theorem ins_l2 (cmp:Rank→Rank→Option Int) (key q:Rank→Int) (A:List Rank) (y:Rank):∀ (n:Nat) (P B:List Rank) (fuel:Nat),P.length=n→n < fuel→CmpOn cmp key (P++[y])→P.Pairwise (RK key q)→(∀ p ∈ P,q p < q y)→A.length+P.length ≤ 1000000 →
  ∃ P1 P2,P=P1++P2∧slices_insertionSortCmpFunc_Rank_l2 (A.length:Int) cmp fuel (A++(P++y::B)) ((A.length+P.length:Nat):Int)=some (A++(P1++y::(P2++B)))∧(P1++y::P2).Pairwise (RK key q):=by
 intro n
 induction n with
 | zero =>
  intro P B fuel hn hf hc hs hq hl
  obtain rfl:=List.eq_nil_of_length_eq_zero hn
  obtain ⟨f,rfl⟩:=Nat.exists_eq_succ_of_ne_zero (by omega:fuel ≠ 0)
  refine ⟨[],[],rfl,?_,List.pairwise_singleton _ _⟩
  rw [slices_insertionSortCmpFunc_Rank_l2,decide_eq_false (by simp)]
  simp only [opt_f,Option.bind_some,Bool.false_and,cond_false]
  rfl
 | succ n ih =>
  intro P B fuel hn hf hc hs hq hl
  obtain ⟨f,rfl⟩:=Nat.exists_eq_succ_of_ne_zero (by omega:fuel ≠ 0)
  rcases List.eq_nil_or_concat P with rfl | ⟨P0,p,rfl⟩
  ·simp at hn
  simp only [List.concat_eq_append] at *
  have hP0:P0.length=n:=by simpa using hn
  have hpl:(P0++[p]).length=P0.length+1:=by simp
  rw [hpl] at hl
  rw [slices_insertionSortCmpFunc_Rank_l2,decide_eq_true (by rw [hpl];omega)]
  simp only [opt_t,Bool.true_and]
  rw [bnd (getI_app (pre:=A++(P0++[p])) (y:=y) (ys:=B) (by simp) (by simp)),w64_in (by omega),bnd (getI_app (pre:=A++P0) (y:=p) (ys:=y::B) (by simp) (by simp;omega))]
  obtain ⟨c,hc1,hc2⟩:=hc y (by simp) p (by simp)
  rw [bnd hc1]
  have hs':=List.pairwise_append.1 hs
  by_cases hlt:key y < key p
  ·rw [decide_eq_true (hc2.2 hlt),cond_true,bnd (getI_app (pre:=A++P0) (y:=p) (ys:=y::B) (by simp) (by simp;omega)),bnd (getI_app (pre:=A++(P0++[p])) (y:=y) (ys:=B) (by simp) (by simp)),Int.toNat_natCast,
    set_mid (A:=A++(P0++[p])) (x:=y) (B:=B) (by simp) (by simp),bnd (getI_app (pre:=A++P0) (y:=p) (ys:=p::B) (by simp) (by simp;omega)),set_mid (A:=A++P0) (x:=p) (B:=p::B) (by simp) (by simp;omega)]
   obtain ⟨P1,P2,e1,e2,e3⟩:=ih P0 (p::B) f hP0 (by omega) (hc.sub (by intro x hx;simp at hx ⊢;rcases hx with hx | hx <;> simp [hx])) hs'.1 (fun z hz=>hq z (by simp [hz])) (by omega)
   refine ⟨P1,P2++[p],by rw [e1];simp,?_,?_⟩
   ·rw [show ((A.length+(P0++[p]).length:Nat):Int) - 1=((A.length+P0.length:Nat):Int) from by rw [hpl];omega,show A++P0++y::p::B=A++(P0++y::p::B) from by simp,e2]
    simp
   ·rw [show P1++y::(P2++[p])=(P1++y::P2)++[p] from by simp,List.pairwise_append]
    refine ⟨e3,List.pairwise_singleton _ _,fun a ha b hb=>?_⟩
    obtain rfl:=List.mem_singleton.1 hb
    have:a=y ∨ a ∈ P0:=by rw [e1];simp at ha ⊢;rcases ha with h | h | h <;> simp [h]
    rcases this with rfl | h
    ·exact .inl hlt
    ·exact hs'.2.2 a h b (by simp)
  ·rw [decide_eq_false (fun h=>hlt (hc2.1 h)),cond_false]
   refine ⟨P0++[p],[],by simp,by simp,?_⟩
   have hpy:RK key q p y:=by have:=hq p (by simp);unfold RK;omega
   rw [List.pairwise_append]
   refine ⟨hs,List.pairwise_singleton _ _,fun a ha b hb=>?_⟩
   obtain rfl:=List.mem_singleton.1 hb
   rcases List.mem_append.1 ha with ha | ha
   ·exact RK_tr _ _ _ (hs'.2.2 a ha p (by simp)) hpy
   ·obtain rfl:=List.mem_singleton.1 ha;exact hpy
theorem ins_l1 (cmp:Rank→Rank→Option Int) (key q:Rank→Int) (A B:List Rank) (fu:Nat) (hfu:1000000 < fu):∀ (U S:List Rank) (fuel:Nat),U.length < fuel→CmpOn cmp key (S++U)→S.Pairwise (RK key q)→U.Pairwise (fun x y=>q x < q y)→(∀ s ∈ S,∀ u ∈ U,q s < q u)→A.length+S.length+U.length ≤ 1000000 →
  ∃ S',slices_insertionSortCmpFunc_Rank_l1 (A.length:Int) ((A.length+S.length+U.length:Nat):Int) cmp fu fuel (A++(S++(U++B))) ((A.length+S.length:Nat):Int)=some (A++(S'++B))∧S'.Pairwise (RK key q)∧S'.Perm (S++U):=by
 intro U
 induction U with
 | nil =>
  intro S fuel hf hc hs _ _ hl
  obtain ⟨f,rfl⟩:=Nat.exists_eq_succ_of_ne_zero (by omega:fuel ≠ 0)
  refine ⟨S,?_,hs,by simp⟩
  rw [slices_insertionSortCmpFunc_Rank_l1,decide_eq_false (by simp),cond_false]
  rfl
 | cons y U ih =>
  intro S fuel hf hc hs hu hq hl
  simp only [List.length_cons] at hf hl
  obtain ⟨f,rfl⟩:=Nat.exists_eq_succ_of_ne_zero (by omega:fuel ≠ 0)
  rw [slices_insertionSortCmpFunc_Rank_l1,decide_eq_true (by simp;omega),cond_true]
  obtain ⟨P1,P2,e1,e2,e3⟩:=ins_l2 cmp key q A y S.length S (U++B) fu rfl (by omega) (hc.sub (by intro x hx;simp at hx ⊢;rcases hx with hx | hx <;> simp [hx])) hs (fun p hp=>hq p hp y (by simp)) (by omega)
  rw [List.cons_append,bnd e2,w64_in (by omega)]
  have hpm:(P1++y::P2).Perm (S++[y]):=by
   rw [e1];exact (List.perm_middle).trans (by simpa using (List.perm_append_comm (l₁:=[y]) (l₂:=P1++P2)))
  have hlen:(P1++y::P2).length=S.length+1:=by rw [hpm.length_eq];simp
  obtain ⟨S',g1,g2,g3⟩:=ih (P1++y::P2) f (by omega) (hc.sub (by
    intro x hx
    rcases List.mem_append.1 hx with hx | hx
    ·have:=hpm.mem_iff.1 hx;simp at this ⊢;rcases this with h | h <;> simp [h]
    ·simp [hx])) e3 (List.pairwise_cons.1 hu).2 (by
    intro s hs' u hu'
    have:=hpm.mem_iff.1 hs'
    rcases List.mem_append.1 this with h | h
    ·exact hq s h u (by simp [hu'])
    ·obtain rfl:=List.mem_singleton.1 h;exact (List.pairwise_cons.1 hu).1 u hu') (by omega)
  refine ⟨S',?_,g2,g3.trans ((hpm.append_right U).trans (by simp))⟩
  rw [hlen] at g1
  rw [show ((A.length+S.length+(y::U).length:Nat):Int)=((A.length+(S.length+1)+U.length:Nat):Int) from by simp only [List.length_cons];omega,show ((A.length+S.length:Nat):Int)+1=((A.length+(S.length+1):Nat):Int) from by omega]
  rw [← g1]
  simp
theorem ins_ok (cmp:Rank→Rank→Option Int) (key q:Rank→Int) (A S B:List Rank) (fu:Nat) (hfu:1000000 < fu) (hc:CmpOn cmp key S) (hq:S.Pairwise (fun x y=>q x < q y)) (hl:A.length+S.length ≤ 1000000) {a b:Int} (ha:a=(A.length:Int)) (hb:b=((A.length+S.length:Nat):Int)) :
  ∃ S',slices_insertionSortCmpFunc_Rank_p fu (A++(S++B)) a b cmp=some (A++(S'++B))∧S'.Pairwise (RK key q)∧S'.Perm S:=by
 subst ha hb
 unfold slices_insertionSortCmpFunc_Rank_p
 rw [w64_in (by omega)]
 cases S with
 | nil =>
  obtain ⟨f,rfl⟩:=Nat.exists_eq_succ_of_ne_zero (by omega:fu ≠ 0)
  refine ⟨[],?_,List.Pairwise.nil,List.Perm.refl _⟩
  rw [slices_insertionSortCmpFunc_Rank_l1,decide_eq_false (by simp;omega),cond_false]
 | cons x U =>
  simp only [List.length_cons] at hl
  have h:=List.pairwise_cons.1 hq
  obtain ⟨S',g1,g2,g3⟩:=ins_l1 cmp key q A B fu hfu U [x] fu (by omega) hc (List.pairwise_singleton _ _) h.2 (fun s hs u hu=>by obtain rfl:=List.mem_singleton.1 hs;exact h.1 u hu) (by simp;omega)
  refine ⟨S',?_,g2,g3⟩
  rw [show ((A.length+(x::U).length:Nat):Int)=((A.length+[x].length+U.length:Nat):Int) from by simp only [List.length_cons,List.length_nil];omega,show (A.length:Int)+1=((A.length+[x].length:Nat):Int) from by simp]
  exact g1
theorem swap_l1 (A M B:List Rank):∀ (X2 Y2 X1 Y1:List Rank) (fuel:Nat),X2.length < fuel→X2.length=Y2.length→X1.length=Y1.length→A.length+(X1.length+X2.length)+M.length+(X1.length+X2.length) ≤ 1000000 →
  slices_swapRangeCmpFunc_Rank_l1 (A.length:Int) ((A.length+(X1.length+X2.length)+M.length:Nat):Int) ((X1.length+X2.length:Nat):Int) fuel (A++(Y1++(X2++(M++(X1++(Y2++B)))))) (X1.length:Int)=some (A++((Y1++Y2)++(M++((X1++X2)++B)))):=by
 intro X2
 induction X2 with
 | nil =>
  intro Y2 X1 Y1 fuel hf h1 h2 hl
  obtain rfl:Y2=[]:=List.eq_nil_of_length_eq_zero h1.symm
  obtain ⟨f,rfl⟩:=Nat.exists_eq_succ_of_ne_zero (by omega:fuel ≠ 0)
  rw [slices_swapRangeCmpFunc_Rank_l1,decide_eq_false (by simp),cond_false]
  simp
 | cons x X2 ih =>
  intro Y2 X1 Y1 fuel hf h1 h2 hl
  cases Y2 with
  | nil=>simp at h1
  | cons y Y2 =>
  simp only [List.length_cons] at hf hl h1
  obtain ⟨f,rfl⟩:=Nat.exists_eq_succ_of_ne_zero (by omega:fuel ≠ 0)
  rw [slices_swapRangeCmpFunc_Rank_l1,decide_eq_true (by simp;omega),cond_true,w64_in (n:=((A.length+(X1.length+(x::X2).length)+M.length:Nat):Int)+(X1.length:Int)) (by simp;omega),w64_in (n:=(A.length:Int)+(X1.length:Int)) (by omega),
   bnd (getI_app (pre:=A++(Y1++(x::X2++(M++X1)))) (y:=y) (ys:=Y2++B) (by simp) (by simp;omega)),bnd (getI_app (pre:=A++Y1) (y:=x) (ys:=X2++(M++(X1++(y::Y2++B)))) (by simp) (by simp;omega)),
   set_mid (A:=A++Y1) (x:=x) (B:=X2++(M++(X1++(y::Y2++B)))) (by simp) (by simp;omega),
   bnd (getI_app (pre:=A++(Y1++(y::X2++(M++X1)))) (y:=y) (ys:=Y2++B) (by simp) (by simp;omega)),set_mid (A:=A++(Y1++(y::X2++(M++X1)))) (x:=y) (B:=Y2++B) (by simp) (by simp;omega),w64_in (n:=(X1.length:Int)+1) (by omega)]
  have:=ih Y2 (X1++[x]) (Y1++[y]) f (by omega) (by omega) (by simp [h2]) (by simp;omega)
  simp only [List.length_append,List.length_cons,List.length_nil] at this ⊢
  rw [show X1.length+(0+1)+X2.length=X1.length+(X2.length+1) from by omega,show (((X1.length+(0+1):Nat)):Int)=(X1.length:Int)+1 from by omega] at this
  rw [show A++(Y1++(y::X2++(M++X1)))++x::(Y2++B)=A++((Y1++[y])++(X2++(M++((X1++[x])++(Y2++B))))) from by simp,this]
  simp
theorem swap_ok (A X M Y B:List Rank) (cmp:Rank→Rank→Option Int) (fu:Nat) (hfu:1000000 < fu) (h:X.length=Y.length) (hl:A.length+X.length+M.length+X.length ≤ 1000000) {a b n:Int} (ha:a=(A.length:Int)) (hb:b=((A.length+X.length+M.length:Nat):Int)) (hn:n=(X.length:Int)) {d:List Rank} (hd:d=A++(X++(M++(Y++B)))) :
  slices_swapRangeCmpFunc_Rank_p fu d a b n cmp=some (A++(Y++(M++(X++B)))):=by
 subst ha hb hn hd
 unfold slices_swapRangeCmpFunc_Rank_p
 have:=swap_l1 A M B X Y [] [] fu (by omega) h rfl (by simp;omega)
 simpa using this
theorem rot_l1 (cmp:Rank→Rank→Option Int) (fu:Nat) (hfu:1000000 < fu):∀ (n:Nat) (A X Y B:List Rank) (fuel:Nat),X.length+Y.length ≤ n→n < fuel→X ≠ []→Y ≠ []→A.length+X.length+Y.length ≤ 1000000 →
  ∃ d i,slices_rotateCmpFunc_Rank_l1 ((A.length+X.length:Nat):Int) cmp fu fuel (A++(X++(Y++B))) (X.length:Int) (Y.length:Int)=some (d,i)∧slices_swapRangeCmpFunc_Rank_p fu d (w64 (((A.length+X.length:Nat):Int) - i)) ((A.length+X.length:Nat):Int) i cmp=some (A++(Y++(X++B))):=by
 intro n
 induction n with
 | zero=>intro A X Y B fuel hn _ hX;exact absurd (List.eq_nil_of_length_eq_zero (by omega)) hX
 | succ n ih =>
  intro A X Y B fuel hn hf hX hY hl
  obtain ⟨f,rfl⟩:=Nat.exists_eq_succ_of_ne_zero (by omega:fuel ≠ 0)
  have hXp:=List.length_pos_iff.2 hX
  have hYp:=List.length_pos_iff.2 hY
  rw [slices_rotateCmpFunc_Rank_l1]
  by_cases he:X.length=Y.length
  ·rw [show ((X.length:Int) != (Y.length:Int))=false from by simp [he],cond_false]
   refine ⟨_,_,rfl,?_⟩
   rw [w64_in (by omega)]
   have:=swap_ok A X [] Y B cmp fu hfu he (by simp;omega) (a:=((A.length+X.length:Nat):Int) - (X.length:Int)) (b:=((A.length+X.length:Nat):Int)) (n:=(X.length:Int)) (by omega) (by simp) rfl (d:=A++(X++(Y++B))) (by simp)
   simpa using this
  ·rw [show ((X.length:Int) != (Y.length:Int))=true from by simpa using (by omega),cond_true]
   by_cases hgt:X.length > Y.length
   ·rw [decide_eq_true (by omega),cond_true,w64_in (n:=((A.length+X.length:Nat):Int) - (X.length:Int)) (by omega)]
    obtain ⟨X1,X2,rfl,hx1⟩:∃ X1 X2,X=X1++X2∧X1.length=Y.length:=⟨X.take Y.length,X.drop Y.length,by simp,by simp;omega⟩
    have hx2:0 < X2.length:=by simp at hgt;omega
    simp only [List.length_append] at hn hl ⊢
    rw [bnd (swap_ok A X1 X2 Y B cmp fu hfu hx1 (by omega) (by omega) (by omega) (by omega) (by simp)),w64_in (by omega)]
    obtain ⟨d,i,g1,g2⟩:=ih (A++Y) X2 X1 B f (by omega) (by omega) (List.length_pos_iff.1 hx2) (List.length_pos_iff.1 (by omega)) (by simp;omega)
    simp only [List.length_append] at g1 g2
    rw [show A.length+Y.length+X2.length=A.length+(X1.length+X2.length) from by omega] at g1 g2
    refine ⟨d,i,?_,?_⟩
    ·rw [← g1]
     congr 1
     ·simp
     ·omega
     ·omega
    ·rw [g2];simp
   ·rw [decide_eq_false (by omega),cond_false,w64_in (n:=((A.length+X.length:Nat):Int) - (X.length:Int)) (by omega),w64_in (n:=((A.length+X.length:Nat):Int)+(Y.length:Int)) (by omega),w64_in (n:=((A.length+X.length:Nat):Int)+(Y.length:Int) - (X.length:Int)) (by omega)]
    obtain ⟨Y1,Y2,rfl,hy2⟩:∃ Y1 Y2,Y=Y1++Y2∧Y2.length=X.length:=⟨Y.take (Y.length - X.length),Y.drop (Y.length - X.length),by simp,by simp;omega⟩
    simp only [List.length_append] at hn hl he hgt ⊢
    rw [bnd (swap_ok A X Y1 Y2 B cmp fu hfu hy2.symm (by omega) (by omega) (by omega) rfl (by simp)),w64_in (by omega)]
    obtain ⟨d,i,g1,g2⟩:=ih A Y2 Y1 (X++B) f (by omega) (by omega) (List.length_pos_iff.1 (by omega)) (List.length_pos_iff.1 (by omega)) (by omega)
    rw [show A.length+Y2.length=A.length+X.length from by omega] at g1 g2
    refine ⟨d,i,?_,?_⟩
    ·rw [← g1]
     congr 1
     ·omega
     ·omega
    ·rw [g2];simp
theorem rot_ok (cmp:Rank→Rank→Option Int) (fu:Nat) (hfu:1000000 < fu) (A X Y B:List Rank) (hX:X ≠ []) (hY:Y ≠ []) (hl:A.length+X.length+Y.length ≤ 1000000) {a m b:Int} (ha:a=(A.length:Int)) (hm:m=((A.length+X.length:Nat):Int)) (hb:b=((A.length+X.length+Y.length:Nat):Int)) {d:List Rank} (hd:d=A++(X++(Y++B))) :
  slices_rotateCmpFunc_Rank_p fu d a m b cmp=some (A++(Y++(X++B))):=by
 subst ha hm hb hd
 unfold slices_rotateCmpFunc_Rank_p
 rw [w64_in (by omega),w64_in (by omega)]
 obtain ⟨d,i,g1,g2⟩:=rot_l1 cmp fu hfu (X.length+Y.length) A X Y B fu (Nat.le_refl _) (by omega) hX hY hl
 rw [show ((A.length+X.length:Nat):Int) - (A.length:Int)=(X.length:Int) from by omega,show ((A.length+X.length+Y.length:Nat):Int) - ((A.length+X.length:Nat):Int)=(Y.length:Int) from by omega,bnd g1]
 dsimp only
 rw [bnd g2]
theorem halve (F:Nat→Int→Int→Option Int) (p:Nat→Bool) (lo hi:Nat)
  (hstep:∀ (f u v:Nat),lo ≤ u→v ≤ hi→F (f+1) (u:Int) (v:Int)=if u < v then (if p ((u+v) / 2)=true then F f (((u+v) / 2+1:Nat):Int) (v:Int) else F f (u:Int) (((u+v) / 2:Nat):Int)) else some (u:Int))
  (mono:∀ s t,lo ≤ s→s ≤ t→t < hi→p t=true→p s=true):∀ (n f u v:Nat),v - u ≤ n→n < f→lo ≤ u→u ≤ v→v ≤ hi→(∀ t,lo ≤ t→t < u→p t=true)→(∀ t,v ≤ t→t < hi→p t=false) →
  ∃ w:Nat,F f (u:Int) (v:Int)=some (w:Int)∧lo ≤ w∧w ≤ hi∧(∀ t,lo ≤ t→t < w→p t=true)∧(∀ t,w ≤ t→t < hi→p t=false):=by
 intro n
 induction n with
 | zero =>
  intro f u v h1 h2 h3 h4 h5 h6 h7
  obtain ⟨f,rfl⟩:=Nat.exists_eq_succ_of_ne_zero (by omega:f ≠ 0)
  rw [hstep f u v h3 h5,if_neg (by omega)]
  exact ⟨u,rfl,h3,by omega,h6,fun t ht=>h7 t (by omega)⟩
 | succ n ih =>
  intro f u v h1 h2 h3 h4 h5 h6 h7
  obtain ⟨f,rfl⟩:=Nat.exists_eq_succ_of_ne_zero (by omega:f ≠ 0)
  rw [hstep f u v h3 h5]
  by_cases hlt:u < v
  ·rw [if_pos hlt]
   cases hp:p ((u+v) / 2)
   ·rw [if_neg (by simp)]
    refine ih f u ((u+v) / 2) (by omega) (by omega) h3 (by omega) (by omega) h6 fun t ht1 ht2=>?_
    cases hpt:p t
    ·rfl
    ·have:=mono ((u+v) / 2) t (by omega) ht1 ht2 hpt;rw [hp] at this;cases this
   ·rw [if_pos rfl]
    refine ih f ((u+v) / 2+1) v (by omega) (by omega) (by omega) (by omega) h5 (fun t ht1 ht2=>?_) h7
    exact mono t ((u+v) / 2) ht1 (by omega) (by omega) hp
  ·rw [if_neg hlt]
   exact ⟨u,rfl,h3,by omega,h6,fun t ht=>h7 t (by omega)⟩
theorem key_mono {key q:Rank→Int} {l:List Rank} (h:l.Pairwise (RK key q)) {i j:Nat} (hij:i ≤ j) (hj:j < l.length):key l[i]! ≤ key l[j]! := by
 rcases Nat.lt_or_ge i j with h1 | h1
 ·have:=List.pairwise_iff_getElem.1 h i j (by omega) hj h1
  rw [getElem!_pos l i (by omega),getElem!_pos l j hj]
  unfold RK at this;omega
 ·obtain rfl:i=j:=by omega
  exact Int.le_refl _
theorem getI_bang {l:List Rank} {i:Int} {k:Nat} (hi:i=(k:Int)) (hk:k < l.length):getI l i=some l[k]! := by
 rw [getI_of hi,getElem!_pos l k hk];exact List.getElem?_eq_getElem hk
theorem bang_app {A X B:List Rank} {i:Nat} (h:i < X.length):(A++(X++B))[A.length+i]! = X[i]! := by
 rw [getElem!_pos _ _ (by simp;omega),getElem!_pos X i h,List.getElem_append_right (by omega),List.getElem_append_left (by omega)]
 simp

end Go.Proofs.YtegdphhfimaieaaGreat

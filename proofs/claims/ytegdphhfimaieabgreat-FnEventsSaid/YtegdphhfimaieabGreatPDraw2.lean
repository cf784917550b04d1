/- Plain lemmas: what the functions compute is what the reference says, in plain Lean. No condition. -/
import Derived.Test.YtegdphhfimaieabGreatPDraw1
set_option maxRecDepth 4000
set_option maxHeartbeats 1000000
set_option linter.unusedVariables false
set_option linter.unusedSimpArgs false
set_option linter.unusedSectionVars false

namespace Go.Proofs.YtegdphhfimaieabGreat
open Go.AM

def keyB (x:Entrant):Int:=if x.rank=0 then 1000000+x.skater else x.rank
theorem soBehind_eq {a b:Entrant} (ha:entrOk a) (hb:entrOk b):spec_soBehind_p a b=some (decide (keyB a > keyB b)):=by
 unfold spec_soBehind_p keyB
 unfold entrOk at ha hb
 by_cases h1:a.rank=0
 ·by_cases h2:b.rank=0
  ·rw [if_pos h1,if_pos h2,h1,h2]
   simp
  ·rw [if_pos h1,if_neg h2,h1,show (b.rank == 0)=false from by simpa using h2]
   simp;omega
 ·by_cases h2:b.rank=0
  ·rw [if_neg h1,if_pos h2,h2,show (a.rank == 0)=false from by simpa using h1]
   simp;omega
  ·rw [if_neg h1,if_neg h2,show (a.rank == 0)=false from by simpa using h1,show (b.rank == 0)=false from by simpa using h2]
   simp
theorem keyB_ne {a b:Entrant} (ha:entrOk a) (hb:entrOk b) (h:otherE a b):keyB a ≠ keyB b:=by
 unfold keyB
 unfold entrOk at ha hb
 unfold otherE at h
 by_cases h1:a.rank=0
 ·by_cases h2:b.rank=0
  ·rw [if_pos h1,if_pos h2];omega
  ·rw [if_pos h1,if_neg h2];omega
 ·by_cases h2:b.rank=0
  ·rw [if_neg h1,if_pos h2];omega
  ·rw [if_neg h1,if_neg h2]
   intro e
   have:=h.2 e
   omega
def BH (a b:Entrant):Prop:=keyB a > keyB b
theorem soSorted_l2 (y:Entrant) (hy:entrOk y) (A:List Entrant) (hA:∀ x ∈ A,entrOk x∧keyB x ≠ keyB y) (hs:A.Pairwise BH) (hl:A.length ≤ 1000):∀ (m:Nat) (P B:List Entrant) (fuel:Nat),P.length=m→m < fuel→A=P++B→(∀ b ∈ B,BH y b) →
  ∃ P' B',A=P'++B'∧spec_soSorted_l2 y A fuel (P.length:Int)=some (P'.length:Int)∧(∀ p ∈ P',BH p y)∧(∀ b ∈ B',BH y b):=by
 intro m
 induction m with
 | zero =>
  intro P B fuel h1 h2 h3 h4
  obtain ⟨f,rfl⟩:=Nat.exists_eq_succ_of_ne_zero (by omega:fuel ≠ 0)
  obtain rfl:P=[]:=List.eq_nil_of_length_eq_zero h1
  exact ⟨[],B,h3,by rw [spec_soSorted_l2];rfl,by simp,h4⟩
 | succ m ih =>
  intro P B fuel h1 h2 h3 h4
  obtain ⟨f,rfl⟩:=Nat.exists_eq_succ_of_ne_zero (by omega:fuel ≠ 0)
  rcases List.eq_nil_or_concat P with rfl | ⟨Q,z,rfl⟩
  ·simp at h1
  simp only [List.concat_eq_append] at *
  have hq:Q.length=m:=by simp at h1;exact h1
  have hAl:Q.length+1+B.length=A.length:=by rw [h3];simp;omega
  have hz:z ∈ A:=by rw [h3];simp
  obtain ⟨hzo,hzk⟩:=hA z hz
  have hkl:(Q++[z]).length=Q.length+1:=by simp
  rw [spec_soSorted_l2,hkl,pos_d]
  simp only [opt_t,Bool.true_and]
  rw [w64_pred (by omega),bnd (getI_app (pre:=Q) (y:=z) (ys:=B) (by rw [h3];simp) rfl),bnd (soBehind_eq hy hzo)]
  by_cases c:keyB y > keyB z
  ·rw [decide_eq_true c,cond_true]
   exact ih Q (z::B) f hq (by omega) (by rw [h3];simp) fun b hb=>by
    rcases List.mem_cons.1 hb with rfl | hb
    ·exact c
    ·exact h4 b hb
  ·rw [decide_eq_false c,cond_false]
   refine ⟨Q++[z],B,h3,by rw [hkl],fun p hp=>?_,h4⟩
   have hzy:BH z y:=by unfold BH;omega
   rcases List.mem_append.1 hp with hp | hp
   ·rw [h3,List.append_assoc,List.pairwise_append] at hs
    have:=hs.2.2 p hp z (by simp)
    unfold BH at this hzy ⊢
    omega
   ·obtain rfl:=List.mem_singleton.1 hp;exact hzy
theorem soSorted_l1 {l:List Entrant} (h:EntrOk l) (fu:Nat) (hfu:1000 < fu):∀ (ys pre:List Entrant) (A:List Entrant),l=pre++ys→A.Perm pre→A.Pairwise BH→∃ r,spec_soSorted_l1 fu ys pre.length A=some r∧r.Perm l∧r.Pairwise BH:=by
 have hlen:=h.2.2
 intro ys
 induction ys with
 | nil =>
  intro pre A h1 h2 h3
  rw [List.append_nil] at h1
  subst h1
  exact ⟨A,by rw [spec_soSorted_l1],h2,h3⟩
 | cons y ys ih =>
  intro pre A h1 h2 h3
  have hpl:pre.length < l.length:=by rw [h1];simp
  have hAl:A.length=pre.length:=h2.length_eq
  have hy:entrOk y:=h.1 y (by rw [h1];simp)
  have hpw:=h.2.1
  rw [h1,List.pairwise_append] at hpw
  have hA:∀ x ∈ A,entrOk x∧keyB x ≠ keyB y:=fun x hx=>by
   have hx':=h2.mem_iff.1 hx
   have hxo:=h.1 x (by rw [h1];simp [hx'])
   exact ⟨hxo,keyB_ne hxo hy (hpw.2.2 x hx' y (by simp))⟩
  obtain ⟨P,B,e1,e2,e3,e4⟩:=soSorted_l2 y hy A hA h3 (by omega) A.length A [] fu rfl (by omega) (by simp) (by simp)
  have hPA:P.length+B.length=A.length:=by rw [e1];simp
  rw [spec_soSorted_l1,bnd e2,bnd (show sliceHi A (P.length:Int)=some P from by rw [e1];exact sliceHi_pre P B rfl),fits_of (by omega),need_t,Option.bind_some,fits_of (by simp;omega),need_t,Option.bind_some]
  rw [bnd (show sliceLo A (P.length:Int)=some B from by rw [sliceLo_of rfl (by omega),e1];simp),fits_of (by simp;omega),need_t,Option.bind_some,Option.bind_some]
  have:=ih (pre++[y]) ((P++[y])++B) (by rw [h1];simp) ?_ ?_
  ·rwa [show (pre++[y]).length=pre.length+1 from by simp] at this
  ·refine List.Perm.trans ?_ (h2.append_right _)
   rw [e1,List.append_assoc,List.append_assoc]
   exact (List.Perm.refl P).append (List.perm_append_comm)
  ·rw [e1,List.pairwise_append] at h3
   rw [List.append_assoc,List.pairwise_append,List.singleton_append,List.pairwise_cons]
   refine ⟨h3.1,⟨e4,h3.2.1⟩,fun a ha b hb=>?_⟩
   rcases List.mem_cons.1 hb with rfl | hb
   ·exact e3 a ha
   ·exact h3.2.2 a ha b hb
theorem soSorted_ex {l:List Entrant} (h:EntrOk l) (fuel:Nat) (hf:1000 < fuel):∃ r,spec_soSorted_p fuel l=some r∧r.Perm l∧r.Pairwise BH:=soSorted_l1 h fuel hf l [] [] rfl (List.Perm.refl _) List.Pairwise.nil
def sizK (n G:Nat):List Int:=(List.range G).map fun g:Nat=>(((n / G+if g < n % G then 1 else 0:Nat)):Int)
theorem dwSizes_l (n G:Nat) (hG:0 < G) (hG2:G ≤ 1000) (hn:n ≤ 1000):∀ (m j:Nat) (fuel:Nat),j+m=G→m < fuel→spec_dwSizes_l1 (n:Int) (G:Int) fuel ((List.range j).map fun g:Nat=>(((n / G+if g < n % G then 1 else 0:Nat)):Int)) (j:Int)=some (sizK n G):=by
 have hd:(n:Int).tdiv (G:Int)=((n / G:Nat):Int):=rfl
 have hm:(n:Int).tmod (G:Int)=((n % G:Nat):Int):=rfl
 have hq:n / G ≤ 1000:=Nat.le_trans (Nat.div_le_self _ _) hn
 unfold sizK
 generalize n / G=q at *
 generalize n % G=t at *
 intro m
 induction m with
 | zero =>
  intro j fuel h hf
  obtain ⟨f,rfl⟩:=Nat.exists_eq_succ_of_ne_zero (by omega:fuel ≠ 0)
  obtain rfl:j=G:=by omega
  rw [spec_dwSizes_l1,decide_eq_false (by omega),cond_false]
 | succ m ih =>
  intro j fuel h hf
  obtain ⟨f,rfl⟩:=Nat.exists_eq_succ_of_ne_zero (by omega:fuel ≠ 0)
  have nx:=ih (j+1) f (by omega) (by omega)
  rw [List.range_succ,List.map_append,List.map_singleton] at nx
  rw [spec_dwSizes_l1,decide_eq_true (by omega),cond_true,show ((G:Int) != 0)=true from by simp only [bne_iff_ne,ne_eq];omega,need_t,Option.bind_some,hd,hm]
  by_cases c:j < t
  ·rw [decide_eq_true (show (j:Int) < (t:Int) from by omega),cond_true,fits_of (by simp;omega),need_t,Option.bind_some,w64_in (n:=(q:Int)) (by omega),w64_in (by omega),w64_in (by omega)]
   rw [if_pos c] at nx
   exact nx
  ·rw [decide_eq_false (show ¬ (j:Int) < (t:Int) from by omega),cond_false,fits_of (by simp;omega),need_t,Option.bind_some,w64_in (n:=(q:Int)) (by omega),w64_in (by omega)]
   rw [if_neg c] at nx
   exact nx
theorem dwSizes_eq (n G:Nat) (hG:0 < G) (hG2:G ≤ 1000) (hn:n ≤ 1000) (fuel:Nat) (hf:1048576 < fuel):spec_dwSizes_p fuel (n:Int) (G:Int)=some (sizK n G):=dwSizes_l n G hG hG2 hn G 0 fuel (by omega) (by omega)

end Go.Proofs.YtegdphhfimaieabGreat

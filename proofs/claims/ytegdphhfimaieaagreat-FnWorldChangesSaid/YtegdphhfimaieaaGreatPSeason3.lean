/- Plain lemmas: what the functions compute is what the reference says, in plain Lean. No condition. -/
import Derived.Test.YtegdphhfimaieaaGreatPSeason2
set_option maxRecDepth 4000
set_option maxHeartbeats 1000000
set_option linter.unusedVariables false
set_option linter.unusedSimpArgs false
set_option linter.unusedSectionVars false

namespace Go.Proofs.YtegdphhfimaieaaGreat
open Go.AM

theorem sumInts_l (l:List Int):∀ (k:Nat) (v:Int),impl_sumInts_l1 l k v=some (l.foldl (fun v y=>w64 (v+y)) v):=by
 induction l with
 | nil=>intro k v;rw [impl_sumInts_l1];rfl
 | cons y l ih=>intro k v;rw [impl_sumInts_l1,ih];rfl
theorem seTotal_l (l:List Int):∀ (k:Nat) (v:Int),spec_seTotal_l1 l k v=some (l.foldl (fun v y=>w64 (v+y)) v):=by
 induction l with
 | nil=>intro k v;rw [spec_seTotal_l1];rfl
 | cons y l ih=>intro k v;rw [spec_seTotal_l1,ih];rfl
def sumW (l:List Int):Int:=l.foldl (fun v y=>w64 (v+y)) 0
theorem sumInts_eq (l:List Int):impl_sumInts_p l=some (sumW l):=sumInts_l l 0 0
def findL (s:Season) (sk:Int):Option Line:=s.lines.find? (fun x=>x.skater == sk)
theorem lineOf_l (sk:Int) (l:List Line):∀ k:Nat,impl_lineOf_l1 sk l k=some ((l.find? (fun x=>x.skater == sk)).getD ⟨sk,[],[]⟩):=by
 induction l with
 | nil=>intro k;rw [impl_lineOf_l1];rfl
 | cons y l ih =>
  intro k
  rw [impl_lineOf_l1,List.find?_cons]
  cases h:(y.skater == sk)
  ·exact ih (k+1)
  ·rfl
theorem lineOf_eq (s:Season) (sk:Int):impl_lineOf_p s sk=some ((findL s sk).getD ⟨sk,[],[]⟩):=lineOf_l sk s.lines 0
theorem seIndex_l (s:Season) (sk:Int) (hb:s.lines.length ≤ 1048576):∀ (ys pre:List Line) (fuel:Nat),ys.length < fuel→s.lines=pre++ys→(∀ x ∈ pre,x.skater < sk) →
  ∃ k:Nat,spec_seIndex_l1 s sk fuel (pre.length:Int)=some (k:Int)∧k ≤ s.lines.length∧(∀ x ∈ s.lines.take k,x.skater < sk)∧(∀ x,s.lines[k]?=some x→¬ x.skater < sk):=by
 intro ys
 induction ys with
 | nil =>
  intro pre fuel hf h1 h2
  obtain ⟨f,rfl⟩:=Nat.exists_eq_succ_of_ne_zero (by omega:fuel ≠ 0)
  rw [List.append_nil] at h1
  rw [spec_seIndex_l1,← h1,decide_eq_false (by omega)]
  refine ⟨s.lines.length,rfl,Nat.le_refl _,by rw [List.take_length,h1];exact h2,by simp⟩
 | cons y ys ih =>
  intro pre fuel hf h1 h2
  obtain ⟨f,rfl⟩:=Nat.exists_eq_succ_of_ne_zero (by omega:fuel ≠ 0)
  have hk:pre.length < s.lines.length:=by rw [h1];simp
  rw [spec_seIndex_l1,decide_eq_true (by omega),opt_t,bnd (getI_app h1 rfl),Bool.true_and]
  by_cases hy:y.skater < sk
  ·rw [decide_eq_true hy,cond_true,w64_in (by omega)]
   have:=ih (pre++[y]) f (by simp at hf;omega) (by rw [h1];simp) (by
    intro x hx;rcases List.mem_append.1 hx with hx | hx
    ·exact h2 x hx
    ·obtain rfl:=List.mem_singleton.1 hx;exact hy)
   simpa using this
  ·rw [decide_eq_false hy,cond_false]
   refine ⟨pre.length,rfl,by omega,by rw [h1];simpa using h2,?_⟩
   intro x hx
   rw [h1] at hx;simp at hx;subst hx;exact hy
theorem seIndex_eq (s:Season) (sk:Int) (hb:s.lines.length ≤ 1048576) (fuel:Nat) (hf:1048576 < fuel) :
  ∃ k:Nat,spec_seIndex_p fuel s sk=some (k:Int)∧k ≤ s.lines.length∧(∀ x ∈ s.lines.take k,x.skater < sk)∧(∀ x,s.lines[k]?=some x→¬ x.skater < sk):=by
 obtain ⟨k,h1,h2⟩:=seIndex_l s sk hb s.lines [] fuel (by omega) rfl (by simp)
 refine ⟨k,?_,h2⟩
 unfold spec_seIndex_p
 rw [bnd (show spec_seIndex_l1 s sk fuel 0=some (k:Int) from h1)]
theorem seHas_eq (s:Season) (sk:Int) (hb:s.lines.length ≤ 1048576) (hs:s.lines.Pairwise (fun a b=>a.skater < b.skater)) (fuel:Nat) (hf:1048576 < fuel) :
  (∃ (k:Nat) (x:Line),spec_seHas_p fuel s sk=some (k:Int)∧s.lines[k]?=some x∧x.skater=sk∧findL s sk=some x∧spec_seIndex_p fuel s sk=some (k:Int)) ∨ (spec_seHas_p fuel s sk=some (-1)∧findL s sk=none∧∀ x ∈ s.lines,x.skater ≠ sk):=by
 obtain ⟨k,h1,h2,h3,h4⟩:=seIndex_eq s sk hb fuel hf
 unfold spec_seHas_p
 rw [bnd h1]
 have hnot:(∀ x ∈ s.lines,x.skater ≠ sk)→findL s sk=none:=by
  intro h
  unfold findL
  rw [List.find?_eq_none]
  intro x hx
  simpa using h x hx
 by_cases hk:k=s.lines.length
 ·right
  rw [show (((k:Int) == (s.lines.length:Int)):Bool)=true from by simp [hk]]
  have hall:∀ x ∈ s.lines,x.skater ≠ sk:=fun x hx=>by
   have:=h3 x (by rw [hk,List.take_length];exact hx);omega
  exact ⟨rfl,hnot hall,hall⟩
 ·have hlt:k < s.lines.length:=by omega
  rw [show (((k:Int) == (s.lines.length:Int)):Bool)=false from by simp;omega,Bool.not_false,opt_t,bnd (getI_lt_some hlt),Bool.false_or]
  have hx:=List.getElem?_eq_getElem hlt
  have hsplit:s.lines=s.lines.take k++s.lines[k]::s.lines.drop (k+1):=by rw [← List.drop_eq_getElem_cons hlt,List.take_append_drop]
  generalize s.lines[k]=z at hx hsplit ⊢
  have h5:=h4 _ hx
  by_cases he:z.skater=sk
  ·left
   rw [show (z.skater != sk)=false from by simp [he],cond_false]
   refine ⟨k,_,rfl,hx,he,?_,h1⟩
   unfold findL
   rw [hsplit,List.find?_append]
   have:List.find? (fun x=>x.skater == sk) (s.lines.take k)=none:=by
    rw [List.find?_eq_none];intro x hx;have:=h3 x hx;simp;omega
   rw [this,List.find?_cons,show (z.skater == sk)=true from by simp [he]];rfl
  ·right
   rw [show (z.skater != sk)=true from by simpa using he,cond_true]
   have hall:∀ x ∈ s.lines,x.skater ≠ sk:=by
    intro x hx'
    rw [hsplit] at hx' hs
    rcases List.mem_append.1 hx' with h | h
    ·have:=h3 x h;omega
    ·rcases List.mem_cons.1 h with rfl | h
     ·exact he
     ·have:=(List.pairwise_cons.1 (List.pairwise_append.1 hs).2.1).1 x h;omega
   exact ⟨rfl,hnot hall,hall⟩
def countedL (x:Line) (best:Int):List Int:=x.points.take best.toNat
theorem seCounted_eq (s:Season) (k:Nat) (x:Line) (hx:s.lines[k]?=some x) (hbest:1 ≤ s.best∧s.best ≤ 9):spec_seCounted_p s (k:Int)=some (countedL x s.best):=by
 unfold spec_seCounted_p spec_l1Least_p
 rw [bnd (by rw [getI_nat];exact hx)]
 by_cases h:(x.points.length:Int) < s.best
 ·rw [decide_eq_true h,cond_true]
  simp only [Option.bind_some]
  rw [bnd (sliceHi_of rfl (Nat.le_refl _))]
  unfold countedL
  rw [List.take_length,List.take_of_length_le (by omega)]
 ·rw [decide_eq_false h,cond_false]
  simp only [Option.bind_some]
  rw [bnd (sliceHi_of (k:=s.best.toNat) (by omega) (by omega))];rfl
theorem seTotal_eq (s:Season) (k:Nat) (x:Line) (hx:s.lines[k]?=some x) (hbest:1 ≤ s.best∧s.best ≤ 9):spec_seTotal_p s (k:Int)=some (sumW (countedL x s.best)):=by
 unfold spec_seTotal_p
 rw [bnd (seCounted_eq s k x hx hbest),seTotal_l];rfl
theorem counting_eq (x:Line) (best:Int) (hbest:1 ≤ best∧best ≤ 9):impl_counting_p x best=some (countedL x best):=by
 unfold impl_counting_p
 by_cases h:best ≤ (x.points.length:Int)
 ·rw [Int.min_eq_left h,bnd (sliceHi_of (k:=best.toNat) (by omega) (by omega))];rfl
 ·rw [Int.min_eq_right (by omega),bnd (sliceHi_of rfl (Nat.le_refl _)),List.take_length]
  unfold countedL;rw [List.take_of_length_le (by omega)]

end Go.Proofs.YtegdphhfimaieaaGreat

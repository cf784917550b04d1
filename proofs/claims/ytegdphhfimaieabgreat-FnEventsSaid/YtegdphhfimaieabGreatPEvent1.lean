/- Plain lemmas: what the functions compute is what the reference says, in plain Lean. No condition. -/
import Derived.Test.YtegdphhfimaieabGreatPWorld3
set_option maxRecDepth 4000
set_option maxHeartbeats 1000000
set_option linter.unusedVariables false
set_option linter.unusedSimpArgs false
set_option linter.unusedSectionVars false

namespace Go.Proofs.YtegdphhfimaieabGreat
open Go.AM

theorem ret_isGroupSize (n:Int):Ret (impl_isGroupSize_p n) (1 ≤ n∧n ≤ 8):=(ret_within n 1 8).bind (Q:=fun o=>Ret o _) (fun h=>.t h) (fun h=>.f h)
theorem ret_soSize (n:Int):Ret (spec_soSize_p n) (1 ≤ n∧n ≤ 8):=(ret_l1In n 1 8).bind (Q:=fun o=>Ret o _) (fun h=>.t h) (fun h=>.f h)
theorem ret_isKey (n:Int):Ret (impl_isKey_p n) (0 ≤ n∧n ≤ 1000000000):=by
 unfold impl_isKey_p impl_areKeys_p
 rw [show decide ((([n]:List Int).length:Int) ≤ 1)=true from rfl]
 simp only [opt_t,Bool.true_and]
 unfold impl_allWithin_p
 rw [impl_allWithin_l1]
 obtain ⟨b,e1,e2⟩:=ret_within n 0 1000000000
 rw [bnd e1]
 cases b
 ·exact .f fun h=>by have:=e2.2 h;simp at this
 ·simp only [Bool.not_true,cond_false]
  rw [impl_allWithin_l1]
  exact .t (e2.1 rfl)
theorem newGood (a b c:Int) (fuel:Nat) (hf:0 < fuel):Ret (spec_evGood_p fuel (Event.mk a b c [] [] 0 [] [])) ((1 ≤ a∧a ≤ 3)∧(1 ≤ b∧b ≤ 8)∧(0 ≤ c∧c ≤ 1000000000)):=by
 obtain ⟨f,rfl⟩:=Nat.exists_eq_succ_of_ne_zero (by omega:fuel ≠ 0)
 unfold spec_evGood_p spec_evHead_p
 dsimp only
 obtain ⟨x,e1,e2⟩:=ret_l1In a 1 3
 rw [bnd e1]
 cases x
 ·exact .f fun h=>by have:=e2.2 h.1;simp at this
 obtain ⟨x,f1,f2⟩:=ret_soSize b
 simp only [Bool.not_true,Bool.not_false,opt_t,Bool.false_or]
 rw [bnd f1]
 cases x
 ·exact .f fun h=>by have:=f2.2 h.2.1;simp at this
 obtain ⟨x,g1,g2⟩:=ret_l1In c 0 1000000000
 simp only [Bool.not_true,Bool.not_false,opt_t,Bool.false_or]
 rw [bnd g1]
 cases x
 ·exact .f fun h=>by have:=g2.2 h.2.2;simp at this
 have ha:=e2.1 rfl
 obtain ⟨x,k1,k2⟩:=ret_l1In 0 0 a
 obtain rfl:x=true:=k2.2 ⟨Int.le_refl _,by omega⟩
 simp only [Bool.not_true,Bool.not_false,opt_t,Bool.false_or]
 rw [show spec_soEntrants_p []=some true from rfl]
 simp only [Option.bind_some,Bool.not_true,Bool.not_false,opt_t,Bool.false_or]
 rw [show spec_l1Rising_p [] 1 999=some true from rfl]
 simp only [Option.bind_some,Bool.not_true,Bool.not_false,opt_t,Bool.false_or]
 rw [k1]
 simp only [Option.bind_some,Bool.not_true,Bool.not_false,opt_t,Bool.false_or]
 rw [show spec_soOrder_p []=some true from rfl]
 simp only [Option.bind_some,Bool.not_true,Bool.not_false,opt_t,Bool.false_or]
 rw [show spec_rkGood_p []=some true from rfl]
 simp only [Option.bind_some,Bool.not_true,Bool.not_false,opt_t,Bool.false_or,List.length_nil,bne_self_eq_false,cond_false]
 rw [spec_evHead_l1]
 dsimp only
 rw [show spec_l1Own_p []=some [] from rfl]
 simp only [Option.bind_some]
 rw [show need (fitsB 8 (([]:List Int).length+([]:List Int).length))=some () from rfl]
 simp only [Option.bind_some]
 rw [spec_evHead_l2]
 dsimp only
 simp only [List.nil_append,List.length_nil]
 rw [show decide ((0:Int) < ((0:Nat):Int))=false from rfl,cond_false]
 simp only [Option.bind_some,Bool.not_true,Bool.false_or]
 rw [Bool.and_false,cond_false,spec_evGood_l1,spec_evGood_l2]
 exact .t ⟨ha,f2.1 rfl,g2.1 rfl⟩
theorem same_NewEvent (a b c:Int) (fuel:Nat) (hf:0 < fuel):∃ r:Event × Bool,spec_NewEvent_p fuel a b c=some r∧impl_NewEvent_p a b c=some r∧nEvent r.1=0:=by
 unfold spec_NewEvent_p impl_NewEvent_p
 obtain ⟨x,e1,e2⟩:=newGood a b c fuel hf
 rw [bnd e1]
 have key:∀ y:Bool,(y=true↔(1 ≤ a∧a ≤ 3)∧(1 ≤ b∧b ≤ 8)∧(0 ≤ c∧c ≤ 1000000000))→∃ r:Event × Bool,(cond (!x) (some ((Event.mk 0 0 0 [] [] 0 [] []),false)) (some ((Event.mk a b c [] [] 0 [] []),true)))=some r∧(cond (!y) (some ((Event.mk 0 0 0 [] [] 0 [] []),false)) (some ((Event.mk a b c [] [] 0 [] []),true)))=some r∧nEvent r.1=0:=by
  intro y hy
  obtain rfl:x=y:=Bool.eq_iff_iff.2 (e2.trans hy.symm)
  cases x
  ·exact ⟨_,rfl,rfl,rfl⟩
  ·exact ⟨_,rfl,rfl,rfl⟩
 obtain ⟨y,f1,f2⟩:=ret_within a 1 3
 rw [bnd f1]
 cases y
 ·refine key false ⟨fun h=>(by cases h),fun h=>?_⟩
  have:=f2.2 h.1;simp at this
 simp only [Bool.not_true,Bool.not_false,opt_t,Bool.false_or]
 obtain ⟨y,g1,g2⟩:=ret_isGroupSize b
 rw [bnd g1]
 cases y
 ·refine key false ⟨fun h=>(by cases h),fun h=>?_⟩
  have:=g2.2 h.2.1;simp at this
 simp only [Bool.not_true,Bool.not_false,opt_t,Bool.false_or]
 obtain ⟨y,k1,k2⟩:=ret_isKey c
 rw [bnd k1]
 exact key y ⟨fun h=>⟨f2.1 rfl,g2.1 rfl,k2.1 h⟩,fun h=>k2.2 h.2.2⟩

end Go.Proofs.YtegdphhfimaieabGreat

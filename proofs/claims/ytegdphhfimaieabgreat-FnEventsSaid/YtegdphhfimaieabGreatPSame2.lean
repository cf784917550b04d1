/- Plain lemmas: what the functions compute is what the reference says, in plain Lean. No condition. -/
import Derived.Test.YtegdphhfimaieabGreatPSame1
set_option maxRecDepth 4000
set_option maxHeartbeats 1000000
set_option linter.unusedVariables false
set_option linter.unusedSimpArgs false
set_option linter.unusedSectionVars false

namespace Go.Proofs.YtegdphhfimaieabGreat
open Go.AM

theorem sameResults_l (b:List Result):∀ (ys pre:List Result),b=pre++ys→laws_pSameResults_l1 b ys pre.length=some true:=by
 intro ys
 induction ys with
 | nil=>intro pre _;rw [laws_pSameResults_l1]
 | cons y ys ih =>
  intro pre h
  have:=ih (pre++[y]) (by rw [h];simp)
  rw [show (pre++[y]).length=pre.length+1 from by simp] at this
  rw [laws_pSameResults_l1,bnd (getI_app (pre:=pre) (y:=y) (ys:=ys) h rfl),bne_self_eq_false]
  simp only [Bool.not_false,opt_t,Bool.false_or]
  rw [bnd (sameInts_eq _)]
  simp only [Bool.not_true,cond_false]
  exact this
theorem sameResults_eq (b:List Result):laws_pSameResults_p b b=some true:=by
 unfold laws_pSameResults_p
 rw [bne_self_eq_false,cond_false]
 exact sameResults_l b b [] rfl
theorem sameEvent_eq (b:Event):laws_pSameEvent_p b b=some true:=by
 unfold laws_pSameEvent_p
 simp only [beq_self_eq_true,Bool.and_true,Bool.true_and,opt_t]
 rw [bnd (sameEntrants_eq _)]
 simp only [opt_t]
 rw [bnd (sameInts_eq _)]
 simp only [Bool.and_true,opt_t]
 rw [bnd (sameInts_eq _)]
 simp only [Bool.and_true,opt_t]
 rw [bnd (sameResults_eq _)]
 rfl

end Go.Proofs.YtegdphhfimaieabGreat

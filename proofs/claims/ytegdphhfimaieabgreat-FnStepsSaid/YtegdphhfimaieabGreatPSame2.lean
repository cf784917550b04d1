/- Plain lemmas: what the functions compute is what the reference says, in plain Lean. No condition. -/
import Derived.Test.YtegdphhfimaieabGreatPEvent10
set_option maxRecDepth 4000
set_option maxHeartbeats 1000000
set_option linter.unusedVariables false
set_option linter.unusedSimpArgs false
set_option linter.unusedSectionVars false

namespace Go.Proofs.YtegdphhfimaieabGreat
open Go.AM

theorem ret_sameInts_l (b:List Int):∀ (ys zs pre:List Int),b=pre++zs→ys.length=zs.length→Ret (laws_sameInts_l1 b ys pre.length) (ys=zs):=by
 intro ys
 induction ys with
 | nil =>
  intro zs pre _ hl
  obtain rfl:zs=[]:=List.eq_nil_of_length_eq_zero hl.symm
  rw [laws_sameInts_l1];exact .t rfl
 | cons y ys ih =>
  intro zs pre h hl
  cases zs with
  | nil=>simp at hl
  | cons z zs =>
  have:=ih zs (pre++[z]) (by rw [h];simp) (by simpa using hl)
  rw [show (pre++[z]).length=pre.length+1 from by simp] at this
  rw [laws_sameInts_l1,bnd (getI_app (pre:=pre) (y:=z) (ys:=zs) h rfl)]
  refine .condR (fun hc=>.f ?_) (fun hc=>this.iff ?_)
  ·intro e
   have:=(List.cons.inj e).1
   rw [bne_iff_ne] at hc;exact hc this
  ·have:y=z:=by simpa using hc
   subst this
   simp
theorem ret_sameInts {a b:List Int} (hl:a.length=b.length):Ret (laws_sameInts_p a b) (a=b):=by
 unfold laws_sameInts_p
 rw [hl,bne_self_eq_false,cond_false]
 exact ret_sameInts_l b a b [] rfl hl
theorem sameResults_l (b:List Result):∀ (ys pre:List Result),b=pre++ys→laws_pSameResults_l1 b ys pre.length=some true:=by
 intro ys
 induction ys with
 | nil=>intro pre _;rw [laws_pSameResults_l1]
 | cons y ys ih =>
  intro pre h
  have:=ih (pre++[y]) (by rw [h];simp)
  rw [show (pre++[y]).length=pre.length+1 from by simp] at this
  rw [laws_pSameResults_l1,bnd (getI_app (pre:=pre) (y:=y) (ys:=ys) h rfl),bne_self_eq_false]
  simp only [Bool.not_false,opt_t,Bool.false_or]
  rw [bnd (sameInts_eq _)]
  simp only [Bool.not_true,cond_false]
  exact this
theorem sameResults_eq (b:List Result):laws_pSameResults_p b b=some true:=by
 unfold laws_pSameResults_p
 rw [bne_self_eq_false,cond_false]
 exact sameResults_l b b [] rfl
theorem sameEvent_eq (b:Event):laws_pSameEvent_p b b=some true:=by
 unfold laws_pSameEvent_p
 simp only [beq_self_eq_true,Bool.and_true,Bool.true_and,opt_t]
 rw [bnd (sameEntrants_eq _)]
 simp only [opt_t]
 rw [bnd (sameInts_eq _)]
 simp only [Bool.and_true,opt_t]
 rw [bnd (sameInts_eq _)]
 simp only [Bool.and_true,opt_t]
 rw [bnd (sameResults_eq _)]
 rfl
theorem ret_pIn (l:List Int) (n:Int):Ret (laws_pIn_p l n) (n ∈ l):=by
 have key:∀ (l:List Int) (k:Nat),Ret (laws_pIn_l1 n l k) (n ∈ l):=by
  intro l
  induction l with
  | nil=>intro k;rw [laws_pIn_l1];exact .f (by simp)
  | cons y l ih =>
   intro k
   rw [laws_pIn_l1]
   refine .condR (fun h=>.t ?_) (fun h=>(ih (k+1)).iff ?_)
   ·have:=eq_of_beq h;simp [this]
   ·have:¬ y=n:=by simpa using h
    simp [List.mem_cons,show ¬ n=y from fun e=>this e.symm]
 exact key l 0

end Go.Proofs.YtegdphhfimaieabGreat

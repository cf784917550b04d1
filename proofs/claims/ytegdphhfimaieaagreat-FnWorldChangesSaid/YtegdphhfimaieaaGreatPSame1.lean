/- Plain lemmas: what the functions compute is what the reference says, in plain Lean. No condition. -/
import Derived.Test.YtegdphhfimaieaaGreatPCur4
set_option maxRecDepth 4000
set_option maxHeartbeats 1000000
set_option linter.unusedVariables false
set_option linter.unusedSimpArgs false
set_option linter.unusedSectionVars false

namespace Go.Proofs.YtegdphhfimaieaaGreat
open Go.AM

theorem sameInts_l (b:List Int):∀ (ys pre:List Int),b=pre++ys→laws_sameInts_l1 b ys pre.length=some true:=by
 intro ys
 induction ys with
 | nil=>intro pre _;rw [laws_sameInts_l1]
 | cons y ys ih =>
  intro pre h
  rw [laws_sameInts_l1,bnd (getI_app (pre:=pre) (y:=y) (ys:=ys) h rfl),show (y != y)=false from by simp,cond_false]
  have:=ih (pre++[y]) (by rw [h];simp)
  rw [show (pre++[y]).length=pre.length+1 from by simp] at this
  exact this
theorem sameInts_eq (b:List Int):laws_sameInts_p b b=some true:=by
 unfold laws_sameInts_p
 rw [show ((b.length:Int) != (b.length:Int))=false from by simp,cond_false]
 exact sameInts_l b b [] rfl
theorem sameLists_l (b:List (List Int)):∀ (ys pre:List (List Int)),b=pre++ys→laws_sameLists_l1 b ys pre.length=some true:=by
 intro ys
 induction ys with
 | nil=>intro pre _;rw [laws_sameLists_l1]
 | cons y ys ih =>
  intro pre h
  rw [laws_sameLists_l1,bnd (getI_app (pre:=pre) (y:=y) (ys:=ys) h rfl),bnd (sameInts_eq _),Bool.not_true,cond_false]
  have:=ih (pre++[y]) (by rw [h];simp)
  rw [show (pre++[y]).length=pre.length+1 from by simp] at this
  exact this
theorem sameLists_eq (b:List (List Int)):laws_sameLists_p b b=some true:=by
 unfold laws_sameLists_p
 rw [show ((b.length:Int) != (b.length:Int))=false from by simp,cond_false]
 exact sameLists_l b b [] rfl
theorem sameEntrants_l (b:List Entrant):∀ (ys pre:List Entrant),b=pre++ys→laws_pSameEntrants_l1 b ys pre.length=some true:=by
 intro ys
 induction ys with
 | nil=>intro pre _;rw [laws_pSameEntrants_l1]
 | cons y ys ih =>
  intro pre h
  rw [laws_pSameEntrants_l1,bnd (getI_app (pre:=pre) (y:=y) (ys:=ys) h rfl),decide_eq_true rfl,Bool.not_true,cond_false]
  have:=ih (pre++[y]) (by rw [h];simp)
  rw [show (pre++[y]).length=pre.length+1 from by simp] at this
  exact this
theorem sameEntrants_eq (b:List Entrant):laws_pSameEntrants_p b b=some true:=by
 unfold laws_pSameEntrants_p
 rw [show ((b.length:Int) != (b.length:Int))=false from by simp,cond_false]
 exact sameEntrants_l b b [] rfl
theorem sameWorld_l2 (b:Season):∀ (ys pre:List Line),b.lines=pre++ys→laws_pSameWorld_l2 b ys pre.length=some (.ok ()):=by
 intro ys
 induction ys with
 | nil=>intro pre _;rw [laws_pSameWorld_l2]
 | cons y ys ih =>
  intro pre h
  have:=ih (pre++[y]) (by rw [h];simp)
  rw [show (pre++[y]).length=pre.length+1 from by simp] at this
  rw [laws_pSameWorld_l2,bnd (getI_app (pre:=pre) (y:=y) (ys:=ys) h rfl),bne_self_eq_false]
  simp only [Bool.not_false,opt_t,Bool.false_or]
  rw [bnd (sameInts_eq _)]
  simp only [Bool.not_true,Bool.not_false,opt_t]
  rw [bnd (sameInts_eq _)]
  simp only [Bool.not_true,Bool.or_false,cond_false]
  exact this
theorem sameWorld_l1 (b:World):∀ (ys pre:List Season),b.seasons=pre++ys→laws_pSameWorld_l1 b ys pre.length=some true:=by
 intro ys
 induction ys with
 | nil=>intro pre _;rw [laws_pSameWorld_l1]
 | cons y ys ih =>
  intro pre h
  have:=ih (pre++[y]) (by rw [h];simp)
  rw [show (pre++[y]).length=pre.length+1 from by simp] at this
  rw [laws_pSameWorld_l1,bnd (getI_app (pre:=pre) (y:=y) (ys:=ys) h rfl),bne_self_eq_false,bne_self_eq_false,Bool.or_false,cond_false,bnd (show laws_pSameWorld_l2 y y.lines 0=_ from sameWorld_l2 y y.lines [] rfl)]
  exact this
theorem sameWorld_eq (b:World):laws_pSameWorld_p b b=some true:=by
 unfold laws_pSameWorld_p
 rw [bnd (sameInts_eq _),Bool.not_true,bne_self_eq_false,Bool.or_false,cond_false]
 exact sameWorld_l1 b b.seasons [] rfl

end Go.Proofs.YtegdphhfimaieaaGreat

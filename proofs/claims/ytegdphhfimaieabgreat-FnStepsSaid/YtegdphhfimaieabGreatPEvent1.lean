/- Plain lemmas: what the functions compute is what the reference says, in plain Lean. No condition. -/
import Derived.Test.YtegdphhfimaieabGreatPWorld3
set_option maxRecDepth 4000
set_option maxHeartbeats 1000000
set_option linter.unusedVariables false
set_option linter.unusedSimpArgs false
set_option linter.unusedSectionVars false

namespace Go.Proofs.YtegdphhfimaieabGreat
open Go.AM

theorem ret_isGroupSize (n:Int):Ret (impl_isGroupSize_p n) (1 ≤ n∧n ≤ 8):=(ret_within n 1 8).bind (Q:=fun o=>Ret o _) (fun h=>.t h) (fun h=>.f h)
theorem ret_soSize (n:Int):Ret (spec_soSize_p n) (1 ≤ n∧n ≤ 8):=(ret_l1In n 1 8).bind (Q:=fun o=>Ret o _) (fun h=>.t h) (fun h=>.f h)
theorem ret_isKey (n:Int):Ret (impl_isKey_p n) (0 ≤ n∧n ≤ 1000000000):=by
 unfold impl_isKey_p impl_areKeys_p
 rw [show decide ((([n]:List Int).length:Int) ≤ 1)=true from rfl]
 simp only [opt_t,Bool.true_and]
 unfold impl_allWithin_p
 rw [impl_allWithin_l1]
 obtain ⟨b,e1,e2⟩:=ret_within n 0 1000000000
 rw [bnd e1]
 cases b
 ·exact .f fun h=>by have:=e2.2 h;simp at this
 ·simp only [Bool.not_true,cond_false]
  rw [impl_allWithin_l1]
  exact .t (e2.1 rfl)

end Go.Proofs.YtegdphhfimaieabGreat

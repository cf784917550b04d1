/- Plain lemmas: what the functions compute is what the reference says, in plain Lean. No condition. -/
import Derived.Test.YtegdphhfimaieabGreatPSeason1
set_option maxRecDepth 4000
set_option maxHeartbeats 1000000
set_option linter.unusedVariables false
set_option linter.unusedSimpArgs false
set_option linter.unusedSectionVars false

namespace Go.Proofs.YtegdphhfimaieabGreat
open Go.AM

theorem sortI_le (l:List Int):(sortI l).Pairwise (· ≤ ·):=by
 have:=List.pairwise_mergeSort (le:=fun x y:Int=>decide (x ≤ y)) (fun a b c h1 h2=>by simp at *;omega) (fun a b=>by simp;omega) l
 exact this.imp fun h=>by simpa using h
theorem sortI_perm (l:List Int):(sortI l).Perm l:=List.mergeSort_perm l _
theorem contains_eq (l:List Int) (x:Int):Ret (slices_Contains_int_p l x) (x ∈ l):=by
 have key:∀ (l:List Int) (k:Nat),∃ i:Int,slices_Index_int_l1 x l k=some i∧(i ≥ 0↔x ∈ l):=by
  intro l
  induction l with
  | nil=>intro k;exact ⟨-1,by rw [slices_Index_int_l1],by simp⟩
  | cons y l ih =>
   intro k
   rw [slices_Index_int_l1]
   by_cases h:x=y
   ·rw [show (x == y)=true from by simp [h],cond_true];exact ⟨_,rfl,by simp [h]⟩
   ·rw [show (x == y)=false from by simpa using h,cond_false]
    obtain ⟨i,h1,h2⟩:=ih (k+1)
    exact ⟨i,h1,h2.trans (by simp [h])⟩
 obtain ⟨i,h1,h2⟩:=key l 0
 unfold slices_Contains_int_p slices_Index_int_p
 rw [bnd h1]
 exact .some (by simpa using h2)

end Go.Proofs.YtegdphhfimaieabGreat

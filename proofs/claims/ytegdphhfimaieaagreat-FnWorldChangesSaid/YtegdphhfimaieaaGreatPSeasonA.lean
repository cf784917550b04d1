/- Plain lemmas: what the functions compute is what the reference says, in plain Lean. No condition. -/
import Derived.Test.YtegdphhfimaieaaGreatPSeason3
set_option maxRecDepth 4000
set_option maxHeartbeats 1000000
set_option linter.unusedVariables false
set_option linter.unusedSimpArgs false
set_option linter.unusedSectionVars false

namespace Go.Proofs.YtegdphhfimaieaaGreat
open Go.AM

theorem own_eq (l:List Int) (h:l.length ≤ 1048577):spec_l1Own_p l=some l:=by
 unfold spec_l1Own_p
 rw [bnd (x:=()) (by rw [fits_of (by omega)];rfl)]
theorem copyInts_eq (l:List Int) (h:l.length ≤ 1048577):impl_copyInts_p l=some l:=by
 unfold impl_copyInts_p
 rw [bnd (x:=()) (by rw [fits_of (by omega)];rfl)]
theorem seInsert_eq (l:List Int) (k:Nat) (n:Int) (hk:k ≤ l.length) (hl:l.length ≤ 1048576):spec_seInsert_p l (k:Int) n=some (l.take k++n::l.drop k):=by
 unfold spec_seInsert_p
 rw [bnd (sliceHi_of rfl hk),bnd (own_eq _ (by simp;omega)),bnd (x:=()) (by rw [fits_of (by simp;omega)];rfl),bnd (sliceLo_of rfl hk),bnd (x:=()) (by rw [fits_of (by simp;omega)];rfl)]
 simp

end Go.Proofs.YtegdphhfimaieaaGreat

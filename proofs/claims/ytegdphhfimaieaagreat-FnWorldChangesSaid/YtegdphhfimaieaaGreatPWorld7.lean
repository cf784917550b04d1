/- Plain lemmas: what the functions compute is what the reference says, in plain Lean. No condition. -/
import Derived.Test.YtegdphhfimaieaaGreatPWorld6
set_option maxRecDepth 4000
set_option maxHeartbeats 1000000
set_option linter.unusedVariables false
set_option linter.unusedSimpArgs false
set_option linter.unusedSectionVars false

namespace Go.Proofs.YtegdphhfimaieaaGreat
open Go.AM

theorem plc_in {r:List Int} {n:Int}:(n ∈ r→0 ≤ plc r n∧plc r n < (r.length:Int))∧(n ∉ r→plc r n=-1):=by
 unfold plc
 constructor
 ·intro h
  rw [if_pos h]
  have:=List.idxOf_lt_length_of_mem h
  omega
 ·intro h;rw [if_neg h]
theorem plc_inj {r:List Int} {a b:Int} (h:plc r a=plc r b) (ha:0 ≤ plc r a):a=b:=by
 have h1:a ∈ r:=Classical.byContradiction fun k=>by have:=(plc_in (r:=r) (n:=a)).2 k;omega
 have h2:b ∈ r:=Classical.byContradiction fun k=>by have:=(plc_in (r:=r) (n:=b)).2 k;omega
 unfold plc at h
 rw [if_pos h1,if_pos h2] at h
 have h3:r.idxOf a=r.idxOf b:=by omega
 have g1:=List.getElem_idxOf (List.idxOf_lt_length_of_mem h1)
 have g2:=List.getElem_idxOf (List.idxOf_lt_length_of_mem h2)
 rw [← g1,← g2]
 congr 1
theorem seeds_ok {r skaters:List Int} (hr:r.length ≤ 998) (h:OrderOk skaters):EntrOk (skaters.map fun n=>(⟨n,plc r n+1⟩:Entrant)):=by
 refine ⟨fun x hx=>?_,?_,by simpa using h.2.2⟩
 ·obtain ⟨n,hn,rfl⟩:=List.mem_map.1 hx
  refine ⟨h.1 n hn,?_⟩
  dsimp only
  by_cases hm:n ∈ r
  ·have:=(plc_in (r:=r) (n:=n)).1 hm;omega
  ·have:=(plc_in (r:=r) (n:=n)).2 hm;omega
 ·rw [List.pairwise_map]
  refine h.2.1.imp fun {a b} hab=>⟨hab,fun e=>?_⟩
  dsimp only at e ⊢
  apply Classical.byContradiction
  intro hp
  exact hab (plc_inj (by omega:plc r a=plc r b) (by omega))
theorem seedsFor_case (w:World) (hb:nWorld w ≤ 1048576) (skaters:List Int) (fuel:Nat) (hf:1048576 < fuel) :
  (∃ l,EntrOk l∧l.length=skaters.length∧spec_SeedsFor_p fuel w skaters=some (l,true)∧impl_SeedsFor_p fuel w skaters=some (l,true)) ∨ (∃ r,spec_SeedsFor_p fuel w skaters=some (r,false)∧impl_SeedsFor_p fuel w skaters=some (r,false)):=by
 obtain ⟨q,q1,q2,q3⟩:=same_SeedsFor w hb skaters fuel hf
 have hs:=q1
 unfold spec_SeedsFor_p at hs
 rcases both_world w hb fuel hf with ⟨h1,h2,h3⟩ | ⟨h1,h2,h3⟩
 ·rw [bnd h1] at hs
  simp only [Bool.not_true,Bool.not_false,opt_t,Bool.false_or] at hs
  obtain ⟨b,e1,e2⟩:=ret_soOrder skaters
  rw [bnd e1] at hs
  cases b
  ·cases hs;exact .inr ⟨_,q1,q2⟩
  have ok:=e2.1 rfl
  simp only [Bool.not_true,cond_false] at hs
  obtain ⟨L,r1,r2,r3,r4⟩:=same_worldList w hb h3 fuel hf
  have hrl:=rkd_len skaters L
  rw [bnd r1,show spec_SeedsFor_l1 skaters L 0 []=_ from seeds_l1 skaters L (by omega) L [] rfl,seeds_l2 _ (by omega) skaters 0 [] (by have:=ok.2.2;simp;omega),List.nil_append] at hs
  cases hs
  exact .inl ⟨_,seeds_ok (by omega) ok,by simp,q1,q2⟩
 ·rw [bnd h1] at hs
  cases hs
  exact .inr ⟨_,q1,q2⟩

end Go.Proofs.YtegdphhfimaieaaGreat

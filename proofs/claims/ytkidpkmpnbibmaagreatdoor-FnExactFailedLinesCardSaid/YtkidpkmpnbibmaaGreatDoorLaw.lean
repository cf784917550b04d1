/- Plain lemmas on what the law FnExactFailedLines makes of its arguments: sizes, copies, comparisons. No condition. -/
import Derived.Test.YtkidpkmpnbibmaaGreatDoorWalk4
set_option maxRecDepth 4000
set_option maxHeartbeats 1000000
set_option linter.unusedVariables false
set_option linter.unusedSimpArgs false
set_option linter.unusedSectionVars false
namespace Go.Proofs.YtkidpkmpnbibmaaGreatDoor
open Go.AM
theorem qRV {ds:List D} (h:qRq te 9 ds):∃x:ByteArray,ds=[.v (.string x)]∧x.size≤qEJ:=by
 cases h with
 |str h' hw=>cases h';exact⟨_,rfl,hw⟩
 |int h' _=>cases h'
 |bool h'=>cases h'
 |slice h' _ _=>cases h'
 |struct h' _ _=>cases h'
theorem qTQ (ys:List Int):∀(pre zs:List Int),ys.length=zs.length→qDz (pre++zs) ys pre.length=some (decide (ys=zs)):=by
 induction ys with
 |nil=>intro pre zs h;obtain rfl:zs=[]:=List.eq_nil_of_length_eq_zero h.symm;rw[qDz];simp
 |cons y ys ih =>
  intro pre zs h
  cases zs with
  |nil=>simp at h
  |cons z zs =>
  rw[qDz,bnd (qQM pre z zs rfl)]
  have h1:=ih (pre++[z]) zs (by simpa using h)
  simp only[List.append_assoc,List.cons_append,List.nil_append,List.length_append,List.length_cons,List.length_nil,Nat.zero_add]at h1
  by_cases e:y=z
  ·subst e;simp only[bne_self_eq_false,cF];rw[h1];simp
  ·rw[show (y != z)=true from by simpa using e];simp[e]
theorem qWw (a b:List Int):qG2 a b=some (decide (a=b)):=by
 unfold qG2
 by_cases h:a.length=b.length
 ·rw[show ((a.length:Int) != (b.length:Int))=false from by simp[h],cF]
  exact qTQ a [] b h
 ·rw[show ((a.length:Int) != (b.length:Int))=true from by simpa using (by omega),cW]
  rw[dF (fun e=>h (by rw[e]))]
def qUy (l:List Int):Nat:=l.length
def qYg (l:List Int):Prop:=l.length≤qEJ∧∀x∈l,inR x
def qQK (l:List Int):Nat:=l.length
theorem qXT (l:List Int):qQK l≤16*qUy l:=by unfold qQK qUy;omega
theorem qRE:∀(ys pre:List Int) (k:Int) (f:Nat),0≤k→k+(ys.length:Int)≤1099511627776→(pre++ys).length≤1099511627776→ys.length<f→∃ys' k',qCj f (pre++ys) k (pre.length:Int)=some (pre++ys',k')∧k≤k'∧k'≤k+(ys.length:Int)∧∀j,qCl ys' j k=some k':=by
 intro ys
 induction ys with
 |nil =>
  intro pre k f h0 hk hl hf
  obtain⟨f,rfl⟩:=Nat.exists_eq_succ_of_ne_zero (by omega:f≠0)
  refine⟨[],k,?_,Int.le_refl _,by simp,fun j=>by rw[qCl]⟩
  rw[qCj,dF (by simp),cF]
 |cons y ys ih =>
  intro pre k f h0 hk hl hf
  obtain⟨f,rfl⟩:=Nat.exists_eq_succ_of_ne_zero (by omega:f≠0)
  simp only[List.length_cons]at hk hf
  have hp:pre.length+1≤1099511627776:=by simp at hl;omega
  rw[qCj,dT (by simp only[List.length_append,List.length_cons];omega),cW]
  simp only[qOt,qP2,Option.bind_some]
  rw[qAE (n:=k+1) (by omega)]
  rw[qAE (n:=(pre.length:Int)+1) (by omega)]
  obtain⟨ys',k',h1,h2,h3,hh⟩:=ih (pre++[k]) (k+1) f (by omega) (by omega) (by simp at hl⊢;omega) (by omega)
  refine⟨k::ys',k',?_,by omega,by simp only[List.length_cons];omega,?_⟩
  ·simp only[List.append_assoc,List.cons_append,List.nil_append,List.length_append,List.length_cons,List.length_nil,Nat.zero_add,Int.natCast_add,Int.natCast_one]at h1
   simpa using h1
  ·intro j
   rw[qCl]
   rw[qAE (n:=k+1) (by omega)]
   simpa using hh (j+1)
theorem qTo (a:List Int) (k:Int) (fl:Nat) (h0:0≤k) (hk:k+(qQK a:Int)≤1099511627776) (hf:qQK a<fl):∃a' k',qG5 fl a k=some (a',k')∧k≤k'∧k'≤k+(qQK a:Int)∧qHI a' k=some k':=by
 obtain⟨a',k',h1,h2,h3,h4⟩:=qRE a [] k fl h0 (by unfold qQK at hk;exact hk) (by unfold qQK at hk;simp;omega) (by unfold qQK at hf;exact hf)
 exact⟨a',k',h1,h2,by unfold qQK;exact h3,h4 0⟩
end Go.Proofs.YtkidpkmpnbibmaaGreatDoor

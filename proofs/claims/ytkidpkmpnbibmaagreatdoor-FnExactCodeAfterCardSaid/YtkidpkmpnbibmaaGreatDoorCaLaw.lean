/- Plain lemmas on what the law FnExactCodeAfter makes of its arguments: sizes, copies, comparisons. No condition. -/
import Derived.Test.YtkidpkmpnbibmaaGreatDoorCaWalk4
set_option maxRecDepth 4000
set_option maxHeartbeats 1000000
set_option linter.unusedVariables false
set_option linter.unusedSimpArgs false
set_option linter.unusedSectionVars false
namespace Go.Proofs.YtkidpkmpnbibmaaGreatDoor
open Go.AM
theorem qRj {ds:List D} (h:qSY te 9 ds):∃x:ByteArray,ds=[.v (.string x)]∧x.size≤qDp:=by
 cases h with
 |str h' hw=>cases h';exact⟨_,rfl,hw⟩
 |int h' _=>cases h'
 |bool h'=>cases h'
 |slice h' _ _=>cases h'
 |struct h' _ _=>cases h'
theorem qSv (a b:Element):qGn a b=some (decide (a=b)):=by
 cases a with|mk a0 a1 a2 a3 =>
 cases b with|mk b0 b1 b2 b3 =>
 unfold qGn
 by_cases e0:a0=b0
 case neg=>simp[e0]
 subst e0
 simp only[bne_self_eq_false,cF,beq_self_eq_true,decide_true,Bool.not_true]
 by_cases e1:a1=b1
 case neg=>simp[show (a1 != b1)=true from by simpa using e1,e1]
 subst e1
 simp only[bne_self_eq_false,cF,beq_self_eq_true,decide_true,Bool.not_true]
 by_cases e2:a2=b2
 case neg=>simp[show (a2 != b2)=true from by simpa using e2,e2]
 subst e2
 simp only[bne_self_eq_false,cF,beq_self_eq_true,decide_true,Bool.not_true]
 by_cases e3:a3=b3
 case neg=>simp[show (a3 != b3)=true from by simpa using e3,e3]
 subst e3
 simp only[bne_self_eq_false,cF,beq_self_eq_true,decide_true,Bool.not_true]
 all_goals (try simp)
theorem qQj (ys:List Element):∀(pre zs:List Element),ys.length=zs.length→qBt (pre++zs) ys pre.length=some (decide (ys=zs)):=by
 induction ys with
 |nil=>intro pre zs h;obtain rfl:zs=[]:=List.eq_nil_of_length_eq_zero h.symm;rw[qBt];simp
 |cons y ys ih =>
  intro pre zs h
  cases zs with
  |nil=>simp at h
  |cons z zs =>
  rw[qBt,bnd (qON pre z zs rfl),bnd (qSv y z)]
  have h1:=ih (pre++[z]) zs (by simpa using h)
  simp only[List.append_assoc,List.cons_append,List.nil_append,List.length_append,List.length_cons,List.length_nil,Nat.zero_add]at h1
  by_cases e:y=z
  ·rw[dT e];simp only[Bool.not_true,cF];rw[h1,e];simp
  ·rw[dF e];simp[e]
theorem qOp (a b:List Element):qF8 a b=some (decide (a=b)):=by
 unfold qF8
 by_cases h:a.length=b.length
 ·rw[show ((a.length:Int) != (b.length:Int))=false from by simp[h],cF]
  exact qQj a [] b h
 ·rw[show ((a.length:Int) != (b.length:Int))=true from by simpa using (by omega),cW]
  rw[dF (fun e=>h (by rw[e]))]
theorem qTX (ys:List Int):∀(pre zs:List Int),ys.length=zs.length→qDz (pre++zs) ys pre.length=some (decide (ys=zs)):=by
 induction ys with
 |nil=>intro pre zs h;obtain rfl:zs=[]:=List.eq_nil_of_length_eq_zero h.symm;rw[qDz];simp
 |cons y ys ih =>
  intro pre zs h
  cases zs with
  |nil=>simp at h
  |cons z zs =>
  rw[qDz,bnd (qON pre z zs rfl)]
  have h1:=ih (pre++[z]) zs (by simpa using h)
  simp only[List.append_assoc,List.cons_append,List.nil_append,List.length_append,List.length_cons,List.length_nil,Nat.zero_add]at h1
  by_cases e:y=z
  ·subst e;simp only[bne_self_eq_false,cF];rw[h1];simp
  ·rw[show (y != z)=true from by simpa using e];simp[e]
theorem qUF (a b:List Int):qIY a b=some (decide (a=b)):=by
 unfold qIY
 by_cases h:a.length=b.length
 ·rw[show ((a.length:Int) != (b.length:Int))=false from by simp[h],cF]
  exact qTX a [] b h
 ·rw[show ((a.length:Int) != (b.length:Int))=true from by simpa using (by omega),cW]
  rw[dF (fun e=>h (by rw[e]))]
theorem qXF (a b:Code):qHC a b=some (decide (a=b)):=by
 cases a with|mk a0 a1 a2 a3 a4 a5 =>
 cases b with|mk b0 b1 b2 b3 b4 b5 =>
 unfold qHC
 by_cases e0:a0=b0
 case neg=>simp[qOp,e0,bnd]
 subst e0
 simp only[qOp,decide_true,Option.bind_some,Bool.not_true,cF,bne_self_eq_false,beq_self_eq_true]
 by_cases e1:a1=b1
 case neg=>simp[qUF,e1,bnd]
 subst e1
 simp only[qUF,decide_true,Option.bind_some,Bool.not_true,cF,bne_self_eq_false,beq_self_eq_true]
 by_cases e2:a2=b2
 case neg=>simp[show (a2 != b2)=true from by simpa using e2,e2]
 subst e2
 simp only[bne_self_eq_false,cF,beq_self_eq_true,decide_true,Bool.not_true]
 by_cases e3:a3=b3
 case neg=>simp[show (a3 != b3)=true from by simpa using e3,e3]
 subst e3
 simp only[bne_self_eq_false,cF,beq_self_eq_true,decide_true,Bool.not_true]
 by_cases e4:a4=b4
 case neg=>simp[show (a4 != b4)=true from by simpa using e4,e4]
 subst e4
 simp only[bne_self_eq_false,cF,beq_self_eq_true,decide_true,Bool.not_true]
 by_cases e5:a5=b5
 case neg=>simp[show (a5 != b5)=true from by simpa using e5,e5]
 subst e5
 simp only[bne_self_eq_false,cF,beq_self_eq_true,decide_true,Bool.not_true]
 all_goals (try simp)
def qV4 (x:Element):Nat:=x.name.size
def qUS (x:Element):Prop:=x.name.size≤qDp∧inR x.family∧inR x.level∧inR x.base
def qO6 (l:List Element):Nat:=l.length+(l.map fun x=>qV4 x).sum
def qSt (l:List Element):Prop:=l.length≤qDp∧∀x∈l,qUS x
def qW2 (l:List Int):Nat:=l.length
def qXs (l:List Int):Prop:=l.length≤qDp∧∀x∈l,inR x
def qXd (x:Code):Nat:=qO6 x.elements+qW2 x.limits
def qY5 (x:Code):Prop:=qSt x.elements∧qXs x.limits∧inR x.repeats∧inR x.bonus∧inR x.keeps∧inR x.fall
def qQN (x:Element):Nat:=4
def qK8 (l:List Element):Nat:=(l.map fun x=>1+qQN x).sum
theorem qTB (l:List Element):qK8 l≤16*qO6 l:=by
 unfold qK8 qO6
 induction l with
 |nil=>simp
 |cons y l ih =>
  have:qQN y≤4:=by unfold qQN;omega
  simp only[List.map_cons,List.sum_cons,List.length_cons]at ih⊢
  omega
theorem qWt (l:List Element):l.length≤qK8 l:=by
 unfold qK8
 induction l with
 |nil=>simp
 |cons y l ih=>simp only[List.map_cons,List.sum_cons,List.length_cons];omega
def qN7 (l:List Int):Nat:=l.length
theorem qX5 (l:List Int):qN7 l≤16*qW2 l:=by unfold qN7 qW2;omega
def qXq (x:Code):Nat:=4+qK8 x.elements+qN7 x.limits
theorem qY4 (x:Code):qXq x≤4+16*qXd x:=by
 unfold qXq qXd
 have:=qTB x.elements
 have:=qX5 x.limits
 omega
theorem qRo:∀(ys pre:List Int) (k:Int) (f:Nat),0≤k→k+(ys.length:Int)≤1099511627776→(pre++ys).length≤1099511627776→ys.length<f→∃ys' k',qCk f (pre++ys) k (pre.length:Int)=some (pre++ys',k')∧k≤k'∧k'≤k+(ys.length:Int)∧∀j,qCj ys' j k=some k':=by
 intro ys
 induction ys with
 |nil =>
  intro pre k f h0 hk hl hf
  obtain⟨f,rfl⟩:=Nat.exists_eq_succ_of_ne_zero (by omega:f≠0)
  refine⟨[],k,?_,Int.le_refl _,by simp,fun j=>by rw[qCj]⟩
  rw[qCk,dF (by simp),cF]
 |cons y ys ih =>
  intro pre k f h0 hk hl hf
  obtain⟨f,rfl⟩:=Nat.exists_eq_succ_of_ne_zero (by omega:f≠0)
  simp only[List.length_cons]at hk hf
  have hp:pre.length+1≤1099511627776:=by simp at hl;omega
  rw[qCk,dT (by simp only[List.length_append,List.length_cons];omega),cW]
  simp only[qMr,qOM,Option.bind_some]
  rw[qAD (n:=k+1) (by omega)]
  rw[qAD (n:=(pre.length:Int)+1) (by omega)]
  obtain⟨ys',k',h1,h2,h3,hh⟩:=ih (pre++[k]) (k+1) f (by omega) (by omega) (by simp at hl⊢;omega) (by omega)
  refine⟨k::ys',k',?_,by omega,by simp only[List.length_cons];omega,?_⟩
  ·simp only[List.append_assoc,List.cons_append,List.nil_append,List.length_append,List.length_cons,List.length_nil,Nat.zero_add,Int.natCast_add,Int.natCast_one]at h1
   simpa using h1
  ·intro j
   rw[qCj]
   rw[qAD (n:=k+1) (by omega)]
   simpa using hh (j+1)
theorem qU1 (a:List Int) (k:Int) (fl:Nat) (h0:0≤k) (hk:k+(qN7 a:Int)≤1099511627776) (hf:qN7 a<fl):∃a' k',qI1 fl a k=some (a',k')∧k≤k'∧k'≤k+(qN7 a:Int)∧qIp a' k=some k':=by
 obtain⟨a',k',h1,h2,h3,h4⟩:=qRo a [] k fl h0 (by unfold qN7 at hk;exact hk) (by unfold qN7 at hk;simp;omega) (by unfold qN7 at hf;exact hf)
 exact⟨a',k',h1,h2,by unfold qN7;exact h3,h4 0⟩
end Go.Proofs.YtkidpkmpnbibmaaGreatDoor

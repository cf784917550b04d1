/- Plain lemmas on what the law FnExactScriptResults makes of its arguments: sizes, copies, comparisons. No condition. -/
import Derived.Test.YtkidpkmpnbibmaaGreatDoorSrWalk4
set_option maxRecDepth 4000
set_option maxHeartbeats 1000000
set_option linter.unusedVariables false
set_option linter.unusedSimpArgs false
set_option linter.unusedSectionVars false
namespace Go.Proofs.YtkidpkmpnbibmaaGreatDoor
open Go.AM
theorem qRS {ds:List D} (h:qR9 te 9 ds):∃x:ByteArray,ds=[.v (.string x)]∧x.size≤qEO:=by
 cases h with
 |str h' hw=>cases h';exact⟨_,rfl,hw⟩
 |int h' _=>cases h'
 |bool h'=>cases h'
 |slice h' _ _=>cases h'
 |struct h' _ _=>cases h'
theorem qTx (ys:List Int):∀(pre zs:List Int),ys.length=zs.length→qDy (pre++zs) ys pre.length=some (decide (ys=zs)):=by
 induction ys with
 |nil=>intro pre zs h;obtain rfl:zs=[]:=List.eq_nil_of_length_eq_zero h.symm;rw[qDy];simp
 |cons y ys ih =>
  intro pre zs h
  cases zs with
  |nil=>simp at h
  |cons z zs =>
  rw[qDy,bnd (qOP pre z zs rfl)]
  have h1:=ih (pre++[z]) zs (by simpa using h)
  simp only[List.append_assoc,List.cons_append,List.nil_append,List.length_append,List.length_cons,List.length_nil,Nat.zero_add]at h1
  by_cases e:y=z
  ·subst e;simp only[bne_self_eq_false,cF];rw[h1];simp
  ·rw[show (y != z)=true from by simpa using e];simp[e]
theorem qTc (a b:List Int):qIb a b=some (decide (a=b)):=by
 unfold qIb
 by_cases h:a.length=b.length
 ·rw[show ((a.length:Int) != (b.length:Int))=false from by simp[h],cF]
  exact qTx a [] b h
 ·rw[show ((a.length:Int) != (b.length:Int))=true from by simpa using (by omega),cW]
  rw[dF (fun e=>h (by rw[e]))]
theorem qUA (a b:Result):qG5 a b=some (decide (a=b)):=by
 cases a with|mk a0 a1 =>
 cases b with|mk b0 b1 =>
 unfold qG5
 by_cases e0:a0=b0
 case neg=>simp[show (a0 != b0)=true from by simpa using e0,e0]
 subst e0
 simp only[bne_self_eq_false,cF,beq_self_eq_true,decide_true,Bool.not_true]
 by_cases e1:a1=b1
 case neg=>simp[qTc,e1,bnd]
 subst e1
 simp only[qTc,decide_true,Option.bind_some,Bool.not_true,cF,bne_self_eq_false,beq_self_eq_true]
 all_goals (try simp)
theorem qRE (ys:List Result):∀(pre zs:List Result),ys.length=zs.length→qCN (pre++zs) ys pre.length=some (decide (ys=zs)):=by
 induction ys with
 |nil=>intro pre zs h;obtain rfl:zs=[]:=List.eq_nil_of_length_eq_zero h.symm;rw[qCN];simp
 |cons y ys ih =>
  intro pre zs h
  cases zs with
  |nil=>simp at h
  |cons z zs =>
  rw[qCN,bnd (qOP pre z zs rfl),bnd (qUA y z)]
  have h1:=ih (pre++[z]) zs (by simpa using h)
  simp only[List.append_assoc,List.cons_append,List.nil_append,List.length_append,List.length_cons,List.length_nil,Nat.zero_add]at h1
  by_cases e:y=z
  ·rw[dT e];simp only[Bool.not_true,cF];rw[h1,e];simp
  ·rw[dF e];simp[e]
theorem qSk (a b:List Result):qFT a b=some (decide (a=b)):=by
 unfold qFT
 by_cases h:a.length=b.length
 ·rw[show ((a.length:Int) != (b.length:Int))=false from by simp[h],cF]
  exact qRE a [] b h
 ·rw[show ((a.length:Int) != (b.length:Int))=true from by simpa using (by omega),cW]
  rw[dF (fun e=>h (by rw[e]))]
def qWj (l:List Int):Nat:=l.length
def qXo (l:List Int):Prop:=l.length≤qEO∧∀x∈l,inR x
def qOg (l:List Int):Nat:=l.length
theorem qXk (l:List Int):qOg l≤16*qWj l:=by unfold qOg qWj;omega
theorem qRe:∀(ys pre:List Int) (k:Int) (f:Nat),0≤k→k+(ys.length:Int)≤1099511627776→(pre++ys).length≤1099511627776→ys.length<f→∃ys' k',qCr f (pre++ys) k (pre.length:Int)=some (pre++ys',k')∧k≤k'∧k'≤k+(ys.length:Int)∧∀j,qCt ys' j k=some k':=by
 intro ys
 induction ys with
 |nil =>
  intro pre k f h0 hk hl hf
  obtain⟨f,rfl⟩:=Nat.exists_eq_succ_of_ne_zero (by omega:f≠0)
  refine⟨[],k,?_,Int.le_refl _,by simp,fun j=>by rw[qCt]⟩
  rw[qCr,dF (by simp),cF]
 |cons y ys ih =>
  intro pre k f h0 hk hl hf
  obtain⟨f,rfl⟩:=Nat.exists_eq_succ_of_ne_zero (by omega:f≠0)
  simp only[List.length_cons]at hk hf
  have hp:pre.length+1≤1099511627776:=by simp at hl;omega
  rw[qCr,dT (by simp only[List.length_append,List.length_cons];omega),cW]
  simp only[qKx,qMd,Option.bind_some]
  rw[qAD (n:=k+1) (by omega)]
  rw[qAD (n:=(pre.length:Int)+1) (by omega)]
  obtain⟨ys',k',h1,h2,h3,hh⟩:=ih (pre++[k]) (k+1) f (by omega) (by omega) (by simp at hl⊢;omega) (by omega)
  refine⟨k::ys',k',?_,by omega,by simp only[List.length_cons];omega,?_⟩
  ·simp only[List.append_assoc,List.cons_append,List.nil_append,List.length_append,List.length_cons,List.length_nil,Nat.zero_add,Int.natCast_add,Int.natCast_one]at h1
   simpa using h1
  ·intro j
   rw[qCt]
   rw[qAD (n:=k+1) (by omega)]
   simpa using hh (j+1)
theorem qU8 (a:List Int) (k:Int) (fl:Nat) (h0:0≤k) (hk:k+(qOg a:Int)≤1099511627776) (hf:qOg a<fl):∃a' k',qI4 fl a k=some (a',k')∧k≤k'∧k'≤k+(qOg a:Int)∧qI0 a' k=some k':=by
 obtain⟨a',k',h1,h2,h3,h4⟩:=qRe a [] k fl h0 (by unfold qOg at hk;exact hk) (by unfold qOg at hk;simp;omega) (by unfold qOg at hf;exact hf)
 exact⟨a',k',h1,h2,by unfold qOg;exact h3,h4 0⟩
def qRd (x:Result):Nat:=qWj x.scores
def qVt (x:Result):Prop:=inR x.skater∧qXo x.scores
def qRp (l:List Result):Nat:=l.length+(l.map fun x=>qRd x).sum
def qYN (l:List Result):Prop:=l.length≤qEO∧∀x∈l,qVt x
def qMD (x:Result):Nat:=1+qOg x.scores
theorem qVU (x:Result):qMD x≤1+16*qRd x:=by
 unfold qMD qRd
 have:=qXk x.scores
 omega
def qF2 (l:List Result):Nat:=(l.map fun x=>1+qMD x).sum
theorem qXw (l:List Result):qF2 l≤16*qRp l:=by
 unfold qF2 qRp
 induction l with
 |nil=>simp
 |cons y l ih =>
  have:=qVU y
  simp only[List.map_cons,List.sum_cons,List.length_cons]at ih⊢
  omega
theorem qPn (l:List Result):l.length≤qF2 l:=by
 unfold qF2
 induction l with
 |nil=>simp
 |cons y l ih=>simp only[List.map_cons,List.sum_cons,List.length_cons];omega
theorem qPV (fl:Nat):∀(ys pre:List Result) (k:Int) (f:Nat),0≤k→k+(((ys.map fun x=>1+qMD x).sum:Nat):Int)≤1099511627776→(pre++ys).length≤1099511627776→ys.length<f→(ys.map fun x=>1+qMD x).sum<fl→∃ys' k',qBc fl f (pre++ys) k (pre.length:Int)=some (pre++ys',k')∧k≤k'∧k'≤k+(((ys.map fun x=>1+qMD x).sum:Nat):Int)∧∀j,qBa ys' j k=some k':=by
 intro ys
 induction ys with
 |nil =>
  intro pre k f h0 hk hl hf _
  obtain⟨f,rfl⟩:=Nat.exists_eq_succ_of_ne_zero (by omega:f≠0)
  refine⟨[],k,?_,Int.le_refl _,by simp,fun j=>by rw[qBa]⟩
  rw[qBc,dF (by simp),cF]
 |cons y ys ih =>
  intro pre k f h0 hk hl hf hfu
  obtain⟨f,rfl⟩:=Nat.exists_eq_succ_of_ne_zero (by omega:f≠0)
  simp only[List.map_cons,List.sum_cons,List.length_cons]at hk hf hfu
  have hp:pre.length+1≤1099511627776:=by simp at hl;omega
  have hcy:qMD y=1+qOg y.scores:=rfl
  rw[qBc,dT (by simp only[List.length_append,List.length_cons];omega),cW]
  simp only[qKx,qMd,Option.bind_some]
  rw[qAD (n:=k+1) (by omega)]
  obtain⟨e1,k1,g1,l1,m1,d1⟩:=qU8 y.scores (k+1) fl (by omega) (by omega) (by omega)
  rw[bnd g1]
  dsimp only
  try simp only[qKx,qMd,Option.bind_some]
  rw[qAD (n:=(pre.length:Int)+1) (by omega)]
  obtain⟨ys',k',h1,h2,h3,hh⟩:=ih (pre++[(Result.mk (k) e1)]) (k1) f (by omega) (by omega) (by simp at hl⊢;omega) (by omega) (by omega)
  refine⟨(Result.mk (k) e1)::ys',k',?_,by omega,by simp only[List.map_cons,List.sum_cons,List.length_cons];omega,?_⟩
  ·simp only[List.append_assoc,List.cons_append,List.nil_append,List.length_append,List.length_cons,List.length_nil,Nat.zero_add,Int.natCast_add,Int.natCast_one]at h1
   simpa using h1
  ·intro j
   rw[qBa]
   rw[qAD (n:=k+1) (by omega)]
   rw[bnd d1,dF (by omega:¬k1<0)]
   simpa using hh (j+1)
theorem qRC (a:List Result) (k:Int) (fl:Nat) (h0:0≤k) (hk:k+(qF2 a:Int)≤1099511627776) (hf:qF2 a<fl):∃a' k',qFo fl a k=some (a',k')∧k≤k'∧k'≤k+(qF2 a:Int)∧qFm a' k=some k':=by
 obtain⟨a',k',h1,h2,h3,h4⟩:=qPV fl a [] k fl h0 (by unfold qF2 at hk;exact hk) (by have:=qPn a;simp;omega) (by have:=qPn a;omega) (by unfold qF2 at hf;exact hf)
 exact⟨a',k',h1,h2,by unfold qF2;exact h3,h4 0⟩
end Go.Proofs.YtkidpkmpnbibmaaGreatDoor

/- Plain lemmas on what the law FnExactPerformanceAfter makes of its arguments: sizes, copies, comparisons. No condition. -/
import Derived.Test.YtkidpkmpnbibmaaGreatDoorWalk4
set_option maxRecDepth 4000
set_option maxHeartbeats 1000000
set_option linter.unusedVariables false
set_option linter.unusedSimpArgs false
set_option linter.unusedSectionVars false
namespace Go.Proofs.YtkidpkmpnbibmaaGreatDoor
open Go.AM
theorem qSc {ds:List D} (h:qTQ te 9 ds):∃x:aa,ds=[.v (.string x)]/\x.size<=qDx:=by
 cases h with
 |str h' hw=>cases h';exact⟨_,rfl,hw⟩
 |int h' _=>cases h'
 |bool h'=>cases h'
 |slice h' _ _=>cases h'
 |struct h' _ _=>cases h'
theorem qVK (ys:ac):∀(pre zs:ac),ys.length=zs.length->qD4 (pre++zs) ys pre.length=some (decide (ys=zs)):=by
 induction ys with
 |nil=>intro pre zs h;obtain rfl:zs=[]:=List.eq_nil_of_length_eq_zero h.symm;rw[qD4];simp
 |cons y ys ih =>
  intro pre zs h
  cases zs with
  |nil=>simp at h
  |cons z zs =>
  rw[qD4,bnd (qLt pre z zs rfl)]
  have h1:=ih (pre++[z]) zs (by simpa using h)
  simp only[List.append_assoc,List.cons_append,List.nil_append,List.length_append,List.length_cons,List.length_nil,Nat.zero_add]at h1
  by_cases e:y=z
  ·subst e;simp only[bne_self_eq_false,cF];rw[h1];simp
  ·rw[show (y != z)=true from by simpa using e];simp[e]
theorem qSC (a b:ac):qHc a b=some (decide (a=b)):=by
 unfold qHc
 by_cases h:a.length=b.length
 ·rw[show ((a.length:Int) != (b.length:Int))=false from by simp[h],cF]
  exact qVK a [] b h
 ·rw[show ((a.length:Int) != (b.length:Int))=true from by simpa using (by omega),cW]
  rw[dF (fun e=>h (by rw[e]))]
theorem qTg (ys:List ac):∀(pre zs:List ac),ys.length=zs.length->qDb (pre++zs) ys pre.length=some (decide (ys=zs)):=by
 induction ys with
 |nil=>intro pre zs h;obtain rfl:zs=[]:=List.eq_nil_of_length_eq_zero h.symm;rw[qDb];simp
 |cons y ys ih =>
  intro pre zs h
  cases zs with
  |nil=>simp at h
  |cons z zs =>
  rw[qDb,bnd (qLt pre z zs rfl),bnd (qSC y z)]
  have h1:=ih (pre++[z]) zs (by simpa using h)
  simp only[List.append_assoc,List.cons_append,List.nil_append,List.length_append,List.length_cons,List.length_nil,Nat.zero_add]at h1
  by_cases e:y=z
  ·rw[dT e];simp only[Bool.not_true,cF];rw[h1,e];simp
  ·rw[dF e];simp[e]
theorem qO1 (a b:List ac):qGo a b=some (decide (a=b)):=by
 unfold qGo
 by_cases h:a.length=b.length
 ·rw[show ((a.length:Int) != (b.length:Int))=false from by simp[h],cF]
  exact qTg a [] b h
 ·rw[show ((a.length:Int) != (b.length:Int))=true from by simpa using (by omega),cW]
  rw[dF (fun e=>h (by rw[e]))]
theorem qRa (ys:List aa):∀(pre zs:List aa),ys.length=zs.length->qCR (pre++zs) ys pre.length=some (decide (ys=zs)):=by
 induction ys with
 |nil=>intro pre zs h;obtain rfl:zs=[]:=List.eq_nil_of_length_eq_zero h.symm;rw[qCR];simp
 |cons y ys ih =>
  intro pre zs h
  cases zs with
  |nil=>simp at h
  |cons z zs =>
  rw[qCR,bnd (qLt pre z zs rfl)]
  have h1:=ih (pre++[z]) zs (by simpa using h)
  simp only[List.append_assoc,List.cons_append,List.nil_append,List.length_append,List.length_cons,List.length_nil,Nat.zero_add]at h1
  by_cases e:y=z
  ·subst e;simp only[decide_true,Bool.not_true,cF];rw[h1];simp
  ·simp[e]
theorem qQj (a b:List aa):qGv a b=some (decide (a=b)):=by
 unfold qGv
 by_cases h:a.length=b.length
 ·rw[show ((a.length:Int) != (b.length:Int))=false from by simp[h],cF]
  exact qRa a [] b h
 ·rw[show ((a.length:Int) != (b.length:Int))=true from by simpa using (by omega),cW]
  rw[dF (fun e=>h (by rw[e]))]
theorem qX5 (a b:Item):qIs a b=some (decide (a=b)):=by
 cases a with|mk a0 a1 a2 =>
 cases b with|mk b0 b1 b2 =>
 unfold qIs
 by_cases e0:a0=b0
 case neg=>simp[qQj,e0,bnd]
 subst e0
 simp only[qQj,decide_true,Option.bind_some,Bool.not_true,cF,bne_self_eq_false,beq_self_eq_true]
 by_cases e1:a1=b1
 case neg=>simp[qSC,e1,bnd]
 subst e1
 simp only[qSC,decide_true,Option.bind_some,Bool.not_true,cF,bne_self_eq_false,beq_self_eq_true]
 by_cases e2:a2=b2
 case neg=>simp[show (a2==b2)=false from by simpa using e2,e2]
 subst e2
 simp only[bne_self_eq_false,cF,beq_self_eq_true,decide_true,Bool.not_true]
 all_goals (try simp)
theorem qTk (ys:List Item):∀(pre zs:List Item),ys.length=zs.length->qDV (pre++zs) ys pre.length=some (decide (ys=zs)):=by
 induction ys with
 |nil=>intro pre zs h;obtain rfl:zs=[]:=List.eq_nil_of_length_eq_zero h.symm;rw[qDV];simp
 |cons y ys ih =>
  intro pre zs h
  cases zs with
  |nil=>simp at h
  |cons z zs =>
  rw[qDV,bnd (qLt pre z zs rfl),bnd (qX5 y z)]
  have h1:=ih (pre++[z]) zs (by simpa using h)
  simp only[List.append_assoc,List.cons_append,List.nil_append,List.length_append,List.length_cons,List.length_nil,Nat.zero_add]at h1
  by_cases e:y=z
  ·rw[dT e];simp only[Bool.not_true,cF];rw[h1,e];simp
  ·rw[dF e];simp[e]
theorem qTV (a b:List Item):qIK a b=some (decide (a=b)):=by
 unfold qIK
 by_cases h:a.length=b.length
 ·rw[show ((a.length:Int) != (b.length:Int))=false from by simp[h],cF]
  exact qTk a [] b h
 ·rw[show ((a.length:Int) != (b.length:Int))=true from by simpa using (by omega),cW]
  rw[dF (fun e=>h (by rw[e]))]
theorem qS1 (a b:Marks):qH9 a b=some (decide (a=b)):=by
 cases a with|mk a0 a1 =>
 cases b with|mk b0 b1 =>
 unfold qH9
 by_cases e0:a0=b0
 case neg=>simp[qO1,e0,bnd]
 subst e0
 simp only[qO1,decide_true,Option.bind_some,Bool.not_true,cF,bne_self_eq_false,beq_self_eq_true]
 by_cases e1:a1=b1
 case neg=>simp[qO1,e1,bnd]
 subst e1
 simp only[qO1,decide_true,Option.bind_some,Bool.not_true,cF,bne_self_eq_false,beq_self_eq_true]
 all_goals (try simp)
theorem qS7 (a b:Slips):qIM a b=some (decide (a=b)):=by
 cases a with|mk a0 a1 a2 =>
 cases b with|mk b0 b1 b2 =>
 unfold qIM
 by_cases e0:a0=b0
 case neg=>simp[show (a0 != b0)=true from by simpa using e0,e0]
 subst e0
 simp only[bne_self_eq_false,cF,beq_self_eq_true,decide_true,Bool.not_true]
 by_cases e1:a1=b1
 case neg=>simp[show (a1 != b1)=true from by simpa using e1,e1]
 subst e1
 simp only[bne_self_eq_false,cF,beq_self_eq_true,decide_true,Bool.not_true]
 by_cases e2:a2=b2
 case neg=>simp[show (a2 != b2)=true from by simpa using e2,e2]
 subst e2
 simp only[bne_self_eq_false,cF,beq_self_eq_true,decide_true,Bool.not_true]
 all_goals (try simp)
theorem qQF (a b:Performance):qDu a b=some (decide (a=b)):=by
 cases a with|mk a0 a1 a2 =>
 cases b with|mk b0 b1 b2 =>
 unfold qDu
 by_cases e0:a0=b0
 case neg=>simp[qTV,e0,bnd]
 subst e0
 simp only[qTV,decide_true,Option.bind_some,Bool.not_true,cF,bne_self_eq_false,beq_self_eq_true]
 by_cases e1:a1=b1
 case neg=>simp[qS1,e1,bnd]
 subst e1
 simp only[qS1,decide_true,Option.bind_some,Bool.not_true,cF,bne_self_eq_false,beq_self_eq_true]
 by_cases e2:a2=b2
 case neg=>simp[qS7,e2,bnd]
 subst e2
 simp only[qS7,decide_true,Option.bind_some,Bool.not_true,cF,bne_self_eq_false,beq_self_eq_true]
 all_goals (try simp)
def qWH (l:ac):Nat:=l.length
def qXR (l:ac):Prop:=l.length<=qDx/\∀x∈l,inR x
def qMm (l:ac):Nat:=l.length
theorem qW9 (l:ac):qMm l<=16*qWH l:=by unfold qMm qWH;omega
theorem qSN:∀(ys pre:ac) (k:Int) (f:Nat),0<=k->k+(ys.length:Int)<=1099511627776->(pre++ys).length<=1099511627776->ys.length<f->∃ys' k',qC4 f (pre++ys) k (pre.length:Int)=some (pre++ys',k')/\k<=k'/\k'<=k+(ys.length:Int)/\∀j,qCy ys' j k=some k':=by
 intro ys
 induction ys with
 |nil =>
  intro pre k f h0 hk hl hf
  obtain⟨f,rfl⟩:=Nat.exists_eq_succ_of_ne_zero (by omega:f≠0)
  refine⟨[],k,?_,Int.le_refl _,by simp,fun j=>by rw[qCy]⟩
  rw[qC4,dF (by simp),cF]
 |cons y ys ih =>
  intro pre k f h0 hk hl hf
  obtain⟨f,rfl⟩:=Nat.exists_eq_succ_of_ne_zero (by omega:f≠0)
  simp only[List.length_cons]at hk hf
  have hp:pre.length+1<=1099511627776:=by simp at hl;omega
  rw[qC4,dT (by simp only[List.length_append,List.length_cons];omega),cW]
  simp only[qGs,qIA,Option.bind_some]
  rw[qAD (n:=k+1) (by omega)]
  rw[qAD (n:=(pre.length:Int)+1) (by omega)]
  obtain⟨ys',k',h1,h2,h3,hh⟩:=ih (pre++[k]) (k+1) f (by omega) (by omega) (by simp at hl⊢;omega) (by omega)
  refine⟨k::ys',k',?_,by omega,by simp only[List.length_cons];omega,?_⟩
  ·simp only[List.append_assoc,List.cons_append,List.nil_append,List.length_append,List.length_cons,List.length_nil,Nat.zero_add,Int.natCast_add,Int.natCast_one]at h1
   simpa using h1
  ·intro j
   rw[qCy]
   rw[qAD (n:=k+1) (by omega)]
   simpa using hh (j+1)
theorem qRu (a:ac) (k:Int) (fl:Nat) (h0:0<=k) (hk:k+(qMm a:Int)<=1099511627776) (hf:qMm a<fl):∃a' k',qHf fl a k=some (a',k')/\k<=k'/\k'<=k+(qMm a:Int)/\qHs a' k=some k':=by
 obtain⟨a',k',h1,h2,h3,h4⟩:=qSN a [] k fl h0 (by unfold qMm at hk;exact hk) (by unfold qMm at hk;simp;omega) (by unfold qMm at hf;exact hf)
 exact⟨a',k',h1,h2,by unfold qMm;exact h3,h4 0⟩
def qTL (l:List ac):Nat:=l.length+(l.map fun x=>qWH x).sum
def qU6 (l:List ac):Prop:=l.length<=qDx/\∀x∈l,qXR x
def qIk (l:List ac):Nat:=(l.map fun x=>1+qMm x).sum
theorem qUS (l:List ac):qIk l<=16*qTL l:=by
 unfold qIk qTL
 induction l with
 |nil=>simp
 |cons y l ih =>
  have:=qW9 y
  simp only[List.map_cons,List.sum_cons,List.length_cons]at ih⊢
  omega
theorem qSm (l:List ac):l.length<=qIk l:=by
 unfold qIk
 induction l with
 |nil=>simp
 |cons y l ih=>simp only[List.map_cons,List.sum_cons,List.length_cons];omega
theorem qRZ (fl:Nat):∀(ys pre:List ac) (k:Int) (f:Nat),0<=k->k+(((ys.map fun x=>1+qMm x).sum:Nat):Int)<=1099511627776->(pre++ys).length<=1099511627776->ys.length<f->(ys.map fun x=>1+qMm x).sum<fl->∃ys' k',qDD fl f (pre++ys) k (pre.length:Int)=some (pre++ys',k')/\k<=k'/\k'<=k+(((ys.map fun x=>1+qMm x).sum:Nat):Int)/\∀j,qCS ys' j k=some k':=by
 intro ys
 induction ys with
 |nil =>
  intro pre k f h0 hk hl hf _
  obtain⟨f,rfl⟩:=Nat.exists_eq_succ_of_ne_zero (by omega:f≠0)
  refine⟨[],k,?_,Int.le_refl _,by simp,fun j=>by rw[qCS]⟩
  rw[qDD,dF (by simp),cF]
 |cons y ys ih =>
  intro pre k f h0 hk hl hf hfu
  obtain⟨f,rfl⟩:=Nat.exists_eq_succ_of_ne_zero (by omega:f≠0)
  simp only[List.map_cons,List.sum_cons,List.length_cons]at hk hf hfu
  have hp:pre.length+1<=1099511627776:=by simp at hl;omega
  rw[qDD,dT (by simp only[List.length_append,List.length_cons];omega),cW]
  simp only[qGs,qIA,Option.bind_some]
  obtain⟨e1,k1,g1,l1,m1,d1⟩:=qRu y (k) fl (by omega) (by omega) (by omega)
  rw[bnd g1]
  dsimp only
  try simp only[qGs,qIA,Option.bind_some]
  rw[qAD (n:=(pre.length:Int)+1) (by omega)]
  obtain⟨ys',k',h1,h2,h3,hh⟩:=ih (pre++[e1]) (k1) f (by omega) (by omega) (by simp at hl⊢;omega) (by omega) (by omega)
  refine⟨e1::ys',k',?_,by omega,by simp only[List.map_cons,List.sum_cons,List.length_cons];omega,?_⟩
  ·simp only[List.append_assoc,List.cons_append,List.nil_append,List.length_append,List.length_cons,List.length_nil,Nat.zero_add,Int.natCast_add,Int.natCast_one]at h1
   simpa using h1
  ·intro j
   rw[qCS]
   rw[bnd d1,dF (by omega:¬k1<0)]
   simpa using hh (j+1)
theorem qQY (a:List ac) (k:Int) (fl:Nat) (h0:0<=k) (hk:k+(qIk a:Int)<=1099511627776) (hf:qIk a<fl):∃a' k',qGz fl a k=some (a',k')/\k<=k'/\k'<=k+(qIk a:Int)/\qGw a' k=some k':=by
 obtain⟨a',k',h1,h2,h3,h4⟩:=qRZ fl a [] k fl h0 (by unfold qIk at hk;exact hk) (by have:=qSm a;simp;omega) (by have:=qSm a;omega) (by unfold qIk at hf;exact hf)
 exact⟨a',k',h1,h2,by unfold qIk;exact h3,h4 0⟩
def qQ5 (l:List aa):Nat:=l.length+(l.map fun x=>x.size).sum
def qVt (l:List aa):Prop:=l.length<=qDx/\∀x∈l,x.size<=qDx
def qXe (x:Item):Nat:=qQ5 x.names+qWH x.marks
def qZM (x:Item):Prop:=qVt x.names/\qXR x.marks/\True
def qVE (l:List Item):Nat:=l.length+(l.map fun x=>qXe x).sum
def qYC (l:List Item):Prop:=l.length<=qDx/\∀x∈l,qZM x
def qQz (l:List aa):Nat:=l.length
theorem qUg (l:List aa):qQz l<=16*qQ5 l:=by unfold qQz qQ5;omega
def qR1 (x:Item):Nat:=1+qQz x.names+qMm x.marks
theorem qYu (x:Item):qR1 x<=1+16*qXe x:=by
 unfold qR1 qXe
 have:=qUg x.names
 have:=qW9 x.marks
 omega
def qM7 (l:List Item):Nat:=(l.map fun x=>1+qR1 x).sum
theorem qYL (l:List Item):qM7 l<=16*qVE l:=by
 unfold qM7 qVE
 induction l with
 |nil=>simp
 |cons y l ih =>
  have:=qYu y
  simp only[List.map_cons,List.sum_cons,List.length_cons]at ih⊢
  omega
theorem qS4 (l:List Item):l.length<=qM7 l:=by
 unfold qM7
 induction l with
 |nil=>simp
 |cons y l ih=>simp only[List.map_cons,List.sum_cons,List.length_cons];omega
def qVa (x:Marks):Nat:=qTL x.grades+qTL x.components
def qX0 (x:Marks):Prop:=qU6 x.grades/\qU6 x.components
def qOK (x:Marks):Nat:=0+qIk x.grades+qIk x.components
theorem qXY (x:Marks):qOK x<=0+16*qVa x:=by
 unfold qOK qVa
 have:=qUS x.grades
 have:=qUS x.components
 omega
theorem qTr (a:Marks) (k:Int) (fl:Nat) (h0:0<=k) (hk:k+(qOK a:Int)<=1099511627776) (hf:qOK a<fl):∃a' k',qEg fl a k=some (a',k')/\k<=k'/\k'<=k+(qOK a:Int)/\qGy a' k=some k':=by
 unfold qEg
 unfold qOK at hk hf⊢
 obtain⟨e1,k1,g1,l1,m1,d1⟩:=qQY a.grades k fl (by omega) (by omega) (by omega)
 rw[bnd g1]
 obtain⟨e2,k2,g2,l2,m2,d2⟩:=qQY a.components k1 fl (by omega) (by omega) (by omega)
 rw[bnd g2]
 refine⟨_,_,rfl,by omega,by omega,?_⟩
 unfold qGy
 dsimp only
 rw[bnd d1,dF (by omega:¬k1<0),cF]
 rw[bnd d2,dF (by omega:¬k2<0),cF]
theorem qXr {a a':Marks} {k k':Int} {fl:Nat} (h:qEg fl a k=some (a',k')):a'=Marks.mk a'.grades a'.components:=by
 unfold qEg at h
 obtain⟨_,_,h⟩:=zB h
 obtain⟨_,_,h⟩:=zB h
 cases zS h
 rfl
def qOO (x:Performance):Nat:=qVE x.items+qVa x.marks
def qX2 (x:Slips):Prop:=inR x.falls/\inR x.seconds/\inR x.other
def qWf (x:Performance):Prop:=qYC x.items/\qX0 x.marks/\qX2 x.slips
def qSt (x:Slips):Nat:=3
def qF7 (x:Performance):Nat:=0+qM7 x.items+qOK x.marks+qSt x.slips
theorem qWK (x:Performance):qF7 x<=3+16*qOO x:=by
 unfold qF7 qOO
 have:=qYL x.items
 have:=qXY x.marks
 have:qSt x.slips<=3:=by unfold qSt;omega
 omega
end Go.Proofs.YtkidpkmpnbibmaaGreatDoor

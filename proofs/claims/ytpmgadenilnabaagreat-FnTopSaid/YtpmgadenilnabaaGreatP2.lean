/- Plain lemmas: what the functions compute is what the reference says, in plain Lean. No condition. -/
import Derived.Test.YtpmgadenilnabaaGreatP1
set_option maxRecDepth 4000
set_option maxHeartbeats 1000000
set_option linter.unusedVariables false
set_option linter.unusedSimpArgs false
set_option linter.unusedSectionVars false

namespace Go.Proofs.YtpmgadenilnabaaGreat
open Go.AM
section
theorem qF0 {a:List Int} {b m s:Int} (h:CO a b m) (hm:m ≤ 900000000) (n:Int) (hn:n ≤ 65536):∃ b' s' v,qAH (L1Cur.mk a b s) n=some (L1Cur.mk a b' s',v)∧CO a b' (m+2):=by
 obtain ⟨b1,s1,v1,e1,g1,_,_⟩:=qAy (s:=s) h hm n hn
 unfold qAH
 rw [bnd e1]
 exact ⟨_,_,_,rfl,g1⟩
theorem of_ok {a:List Int} {b m s:Int} (h:CO a b m) (hm:m ≤ 900000000) (l:List ByteArray) (h0:0 < l.length) (hl:l.length ≤ 60000):∃ b' s' v,qC3 (L1Cur.mk a b s) l=some (L1Cur.mk a b' s',v)∧CO a b' (m+2)∧v ∈ l:=by
 unfold qC3
 obtain ⟨b1,s1,v1,e1,g1,l1,u1⟩:=qAy (s:=s) h hm (l.length:Int) (by omega)
 have hlt:v1.toNat < l.length:=by omega
 have hg:qAb l v1=some l[v1.toNat]:=by rw [qDa (k:=v1.toNat) (by omega)];exact List.getElem?_eq_getElem hlt
 rw [bnd e1]
 dsimp only
 rw [bnd hg]
 exact ⟨_,_,_,rfl,g1,List.getElem_mem hlt⟩
def qEz (l:List ByteArray):Prop:=∀ s ∈ l,s.size ≤ 6
theorem qF7 {l:List ByteArray} {x:ByteArray} (h:qEz l) (hx:x.size ≤ 6):qEz (l++[x]):=by
 intro s hs
 rcases List.mem_append.1 hs with hs | hs
 ·exact h s hs
 ·rw [List.mem_singleton.1 hs];exact hx
theorem qSh (names:List ByteArray) (hn:0 < names.length∧names.length ≤ 1000) (hs:qEz names) (x1:L1Cur × Bool):∀ (n f:Nat) (a:List Int) (b m s:Int) (N:List ByteArray) (M:List Int),CO a b m→m+4 * (n:Int) ≤ 800000000→n < f→N.length=M.length→N.length+n ≤ 3→qEz N →
  ∃ b' s' it,qBQ names x1 f a b s N M (n:Int)=some (L1Cur.mk a b' s',it)∧CO a b' (m+4 * (n:Int)+4)∧it.names.length=it.marks.length∧(N.length+n ≤ it.names.length∧it.names.length ≤ N.length+n+1)∧qEz it.names:=by
 intro n
 induction n with
 | zero =>
  intro f a b m s N M h hm hf hl h3 hb
  obtain ⟨f,rfl⟩:=nZ9 (by omega:f ≠ 0)
  rw [qBQ,decide_eq_false (by omega),cond_false]
  obtain ⟨b1,s1,v1,e1,g1⟩:=qF0 (s:=s) h (by omega) 12 (by omega)
  rw [bnd e1]
  dsimp only
  cases v1
  ·exact ⟨_,_,_,rfl,g1.mono (by omega),hl,⟨by dsimp only;omega,by dsimp only;omega⟩,hb⟩
  ·rw [cond_true]
   obtain ⟨b2,s2,v2,e2,g2,l2⟩:=of_ok (s:=s1) g1 (by omega) names hn.1 (by omega)
   rw [bnd e2]
   dsimp only
   rw [qAQ (by simp;omega),qAw,oB9,qAQ (by simp;omega),qAw,oB9]
   exact ⟨_,_,_,rfl,g2.mono (by omega),by simp [hl],⟨by simp,by simp⟩,qF7 hb (hs _ l2)⟩
 | succ n ih =>
  intro f a b m s N M h hm hf hl h3 hb
  obtain ⟨f,rfl⟩:=nZ9 (by omega:f ≠ 0)
  rw [qBQ,decide_eq_true (by omega),cond_true]
  obtain ⟨b1,s1,v1,e1,g1,l1⟩:=of_ok (s:=s) h (by omega) names hn.1 (by omega)
  rw [bnd e1]
  dsimp only
  rw [qAQ (by simp;omega),qAw,oB9]
  obtain ⟨b2,s2,v2,e2,g2,l2⟩:=qBX (s:=s1) g1 (by omega) [0,0,0,1,2,3] (by simp) (by simp)
  rw [bnd e2]
  dsimp only
  rw [qAQ (by simp;omega),qAw,oB9,qAG (n:=((n+1:Nat):Int) - 1) (by omega),show ((n+1:Nat):Int) - 1=(n:Int) from by omega]
  obtain ⟨b3,s3,it,e3,g3,q1,q2,q3⟩:=ih f a b2 (m+2+2) s2 (N++[v1]) (M++[v2]) g2 (by omega) (by omega) (by simp [hl]) (by simp;omega) (qF7 hb (hs _ l1))
  refine ⟨b3,s3,it,e3,g3.mono (by omega),q1,?_,q3⟩
  simp only [List.length_append,List.length_singleton] at q2
  omega
theorem qQ1 {a:List Int} {b m s:Int} (h:CO a b m) (hm:m ≤ 700000000) (names:List ByteArray) (hn:0 < names.length∧names.length ≤ 1000) (hs:qEz names) (fuel:Nat) (hf:1000 < fuel) :
  ∃ b' s' it,qEF fuel (L1Cur.mk a b s) names=some (L1Cur.mk a b' s',it)∧CO a b' (m+20)∧it.names.length=it.marks.length∧(1 ≤ it.names.length∧it.names.length ≤ 3)∧qEz it.names:=by
 unfold qEF
 obtain ⟨b1,s1,v1,e1,g1⟩:=qF0 (s:=s) h (by omega) 3 (by omega)
 rw [bnd e1]
 dsimp only
 obtain ⟨b2,s2,v2,e2,g2,l2,u2⟩:=qAy (s:=s1) g1 (by omega) 6 (by omega)
 rw [bnd e2,show qCw (3 != 0)=some () from rfl,oB9]
 dsimp only
 have t:v2.tdiv 3=v2 / 3:=Int.tdiv_eq_ediv_of_nonneg l2
 rw [t,qAG (n:=v2 / 3) (by omega),qAG (n:=1+v2 / 3) (by omega),show 1+v2 / 3=((1+v2 / 3).toNat:Int) from by omega]
 obtain ⟨b3,s3,it,e3,g3,q1,q2,q3⟩:=qSh names hn hs (L1Cur.mk a b1 s1,v1) (1+v2 / 3).toNat fuel a b2 (m+2+2) s2 [] [] g2 (by omega) (by omega) rfl (by simp;omega) (by intro x hx;simp at hx)
 simp only [List.length_nil] at q2
 exact ⟨b3,s3,it,e3,g3.mono (by omega),q1,by omega,q3⟩
def itB (it:Item):Prop:=it.names.length ≤ 4∧it.marks.length ≤ 4∧qEz it.names
theorem qRl (x1:L1Cur × Item) (a:List Int) (b s v:Int) (hv:0 ≤ v∧v ≤ 1):∀ (n f:Nat) (N:List ByteArray) (M:List Int),((3+v) - (N.length:Int)).toNat=n→n < f→N.length ≤ 4→N.length=M.length→qEz N →
  ∃ it,qBG x1 (L1Cur.mk a b s,v) f N M=some (L1Cur.mk a b s,it)∧itB it:=by
 intro n
 induction n with
 | zero =>
  intro f N M h hf h4 hl hb
  obtain ⟨f,rfl⟩:=nZ9 (by omega:f ≠ 0)
  rw [qBG]
  dsimp only
  rw [qAG (by omega),decide_eq_false (by omega)]
  exact ⟨_,rfl,by dsimp only;omega,by dsimp only;omega,hb⟩
 | succ n ih =>
  intro f N M h hf h4 hl hb
  obtain ⟨f,rfl⟩:=nZ9 (by omega:f ≠ 0)
  rw [qBG]
  dsimp only
  rw [qAG (by omega),decide_eq_true (by omega),cond_true,qAQ (by simp;omega),qAw,oB9,qAQ (by simp;omega),qAw,oB9]
  exact ih f _ _ (by simp;omega) (by omega) (by simp;omega) (by simp [hl]) (qF7 hb (by decide))
theorem qQe {a:List Int} {b m s:Int} (h:CO a b m) (hm:m ≤ 600000000) (fuel:Nat) (hf:1000 < fuel):∃ b' s' it,qD3 fuel (L1Cur.mk a b s)=some (L1Cur.mk a b' s',it)∧CO a b' (m+30)∧itB it:=by
 unfold qD3
 obtain ⟨b1,s1,it,e1,g1,q1,q2,q3⟩:=qQ1 (s:=s) h (by omega) [(⟨#[51,65]⟩:ByteArray),(⟨#[50,84]⟩:ByteArray),(⟨#[52,83]⟩:ByteArray),(⟨#[67,67,79,83,80]⟩:ByteArray),(⟨#[83,84]⟩:ByteArray),(⟨#[65]⟩:ByteArray),(⟨#[48]⟩:ByteArray)] ⟨by simp,by simp⟩ (by intro x hx;simp at hx;rcases hx with rfl | rfl | rfl | rfl | rfl | rfl | rfl <;> decide) fuel hf
 rw [bnd e1]
 dsimp only
 obtain ⟨b2,s2,v2,e2,g2,l2,u2⟩:=qAy (s:=s1) g1 (by omega) 24 (by omega)
 rw [bnd e2]
 dsimp only
 have h0:∃ y,qAb it.names 0=some y:=⟨_,qDS (k:=0) (by omega)⟩
 have h1:∃ y,qAb it.marks 0=some y:=⟨_,qDS (k:=0) (by omega)⟩
 have hb:itB it:=⟨by omega,by omega,q3⟩
 cases v2 == 0
 ·rw [cond_false]
  cases v2 == 1
  ·rw [cond_false]
   cases v2 == 2
   ·rw [cond_false]
    cases v2 == 3
    ·rw [cond_false]
     cases v2 == 4
     ·exact ⟨_,_,_,rfl,g2.mono (by omega),hb⟩
     ·exact ⟨_,_,_,rfl,g2.mono (by omega),by simp,by simp,by intro x hx;simp at hx⟩
    ·rw [cond_true]
     obtain ⟨b3,s3,v3,e3,g3,l3,u3⟩:=qAy (s:=s2) g2 (by omega) 2 (by omega)
     rw [bnd e3]
     obtain ⟨it',k1,k2⟩:=qRl (L1Cur.mk a b1 s1,it) a b3 s3 v3 (by omega) _ fuel it.names it.marks rfl (by omega) (by omega) q1 q3
     exact ⟨_,_,_,k1,g3.mono (by omega),k2⟩
   ·rw [cond_true,qAQ (by simp;omega),qAw,oB9]
    exact ⟨_,_,_,rfl,g2.mono (by omega),by dsimp only;omega,by simp;omega,q3⟩
  ·rw [cond_true]
   obtain ⟨b3,s3,v3,e3,g3,l3⟩:=qBX (s:=s2) g2 (by omega) [(-1),3,4] (by simp) (by simp)
   obtain ⟨y,hy⟩:=h1
   rw [bnd e3,bnd hy]
   exact ⟨_,_,_,rfl,g3.mono (by omega),by dsimp only;omega,by simp;omega,q3⟩
 ·rw [cond_true]
  obtain ⟨b3,s3,v3,e3,g3,l3⟩:=of_ok (s:=s2) g2 (by omega) [(⟨#[]⟩:ByteArray),(⟨#[97]⟩:ByteArray),(⟨#[65,66,67,68,69]⟩:ByteArray),(⟨#[65,66,67,68,69,70]⟩:ByteArray),(⟨#[51,65,60]⟩:ByteArray),(⟨#[65,32,66]⟩:ByteArray)] (by simp) (by simp)
  obtain ⟨y,hy⟩:=h0
  rw [bnd e3,bnd hy]
  refine ⟨_,_,_,rfl,g3.mono (by omega),by simp;omega,by dsimp only;omega,fun x hx=>?_⟩
  rcases List.mem_or_eq_of_mem_set hx with hx | rfl
  ·exact q3 x hx
  ·simp at l3;rcases l3 with rfl | rfl | rfl | rfl | rfl | rfl <;> decide
def qJK (l:List Item):Prop:=∀ it ∈ l,itB it
theorem qOk {l:List Item} {x:Item} (h:qJK l) (hx:itB x):qJK (l++[x]):=by
 intro s hs
 rcases List.mem_append.1 hs with hs | hs
 ·exact h s hs
 ·rw [List.mem_singleton.1 hs];exact hx
theorem qPS (it:Item) (h:itB it) (fuel:Nat) (hf:1048576 < fuel):∃ v,qFu fuel it=some v:=by
 obtain ⟨v,_,v2,_⟩:=qTV it fuel hf it.names 0 (fun s hs=>by have:=h.2.2 s hs;omega)
 exact ⟨v,v2⟩
theorem qPU (a:List Int) (b s v:Int) (hv:0 ≤ v∧v ≤ 1):∀ (n f:Nat) (l:List Item),((14+v) - (l.length:Int)).toNat=n→n < f→l.length ≤ 15→qJK l →
  ∃ r,qA6 (L1Cur.mk a b s,v) f l=some (L1Cur.mk a b s,r)∧r.length ≤ 15∧qJK r:=by
 intro n
 induction n with
 | zero =>
  intro f l h hf h4 hb
  obtain ⟨f,rfl⟩:=nZ9 (by omega:f ≠ 0)
  rw [qA6]
  dsimp only
  rw [qAG (by omega),decide_eq_false (by omega)]
  exact ⟨_,rfl,h4,hb⟩
 | succ n ih =>
  intro f l h hf h4 hb
  obtain ⟨f,rfl⟩:=nZ9 (by omega:f ≠ 0)
  rw [qA6]
  dsimp only
  rw [qAG (by omega),decide_eq_true (by omega),cond_true,qAQ (by simp;omega),qAw,oB9]
  exact ih f _ (by simp;omega) (by omega) (by simp;omega) (qOk hb ⟨by simp,by simp,by intro x hx;simp at hx;subst hx;decide⟩)
theorem qPP (fuel:Nat) (hF:1048576 < fuel):∀ (n f:Nat) (a:List Int) (b m s:Int) (l:List Item),CO a b m→m+40 * (n:Int) ≤ 500000000→n < f→l.length+n ≤ 15→qJK l →
  ∃ b' s' r,qAr fuel f a b s l (n:Int)=some (L1Cur.mk a b' s',r)∧CO a b' (m+40 * (n:Int)+4)∧r.length ≤ 15∧qJK r:=by
 intro n
 induction n with
 | zero =>
  intro f a b m s l h hm hf hl hb
  obtain ⟨f,rfl⟩:=nZ9 (by omega:f ≠ 0)
  rw [qAr,decide_eq_false (by omega),cond_false]
  obtain ⟨b1,s1,v1,e1,g1⟩:=qF0 (s:=s) h (by omega) 24 (by omega)
  rw [bnd e1]
  dsimp only
  cases v1
  ·exact ⟨_,_,_,rfl,g1.mono (by omega),by omega,hb⟩
  ·rw [cond_true]
   obtain ⟨b2,s2,v2,e2,g2,l2,u2⟩:=qAy (s:=s1) g1 (by omega) 2 (by omega)
   rw [bnd e2]
   obtain ⟨r,k1,k2,k3⟩:=qPU a b2 s2 v2 (by omega) _ fuel l rfl (by omega) (by omega) hb
   exact ⟨_,_,_,k1,g2.mono (by omega),k2,k3⟩
 | succ n ih =>
  intro f a b m s l h hm hf hl hb
  obtain ⟨f,rfl⟩:=nZ9 (by omega:f ≠ 0)
  rw [qAr,decide_eq_true (by omega),cond_true]
  obtain ⟨b1,s1,it,e1,g1,q⟩:=qQe (s:=s) h (by omega) fuel (by omega)
  rw [bnd e1]
  dsimp only
  obtain ⟨v,hv⟩:=qPS it q fuel hF
  rw [bnd hv]
  obtain ⟨b2,s2,v2,e2,g2⟩:∃ b2 s2 v2,opt (!v) (L1Cur.mk a b1 s1,default) (qAH (L1Cur.mk a b1 s1) 4)=some (L1Cur.mk a b2 s2,v2)∧CO a b2 (m+30+2):=by
   cases v
   ·obtain ⟨b2,s2,v2,e2,g2⟩:=qF0 (s:=s1) g1 (by omega) 4 (by omega)
    exact ⟨b2,s2,v2,e2,g2⟩
   ·exact ⟨b1,s1,default,rfl,g1.mono (by omega)⟩
  rw [bnd e2]
  dsimp only
  rw [qAG (n:=((n+1:Nat):Int) - 1) (by omega),show ((n+1:Nat):Int) - 1=(n:Int) from by omega]
  cases v || v2
  ·rw [cond_false]
   obtain ⟨b3,s3,r,e3,g3,k1,k2⟩:=ih f a b2 _ s2 l g2 (by omega) (by omega) (by omega) hb
   exact ⟨b3,s3,r,e3,g3.mono (by omega),k1,k2⟩
  ·rw [cond_true,qAQ (by simp;omega),qAw,oB9]
   obtain ⟨b3,s3,r,e3,g3,k1,k2⟩:=ih f a b2 _ s2 (l++[it]) g2 (by omega) (by omega) (by simp;omega) (qOk hb q)
   exact ⟨b3,s3,r,e3,g3.mono (by omega),k1,k2⟩
theorem qO9 {a:List Int} {b m s:Int} (h:CO a b m) (hm:m ≤ 400000000) (fuel:Nat) (hf:1048576 < fuel):∃ b' s' l,qDo fuel (L1Cur.mk a b s)=some (L1Cur.mk a b' s',l)∧CO a b' (m+300)∧l.length ≤ 15∧qJK l:=by
 unfold qDo
 obtain ⟨b1,s1,v1,e1,g1,l1,u1⟩:=qAy (s:=s) h (by omega) 7 (by omega)
 rw [bnd e1]
 dsimp only
 obtain ⟨b2,s2,r,e2,g2,k1,k2⟩:=qPP fuel hf v1.toNat fuel a b1 (m+2) s1 [] g1 (by omega) (by omega) (by simp;omega) (by intro x hx;simp at hx)
 rw [show ((v1.toNat:Nat):Int)=v1 from by omega] at e2
 exact ⟨b2,s2,r,e2,g2.mono (by omega),k1,k2⟩
end
section
theorem qUg {c:Code} (hc:qFV c) {it:Item} (hi:qHa it):∃ f,qFg c it=some f∧-1 ≤ f∧f ≤ 4:=by
 obtain ⟨s,m,s1,_⟩:=qKt hi
 unfold qFg
 rw [bnd s1,bnd (qIE c s).2]
 by_cases h:fnd s c.elements 0 < 0
 ·rw [decide_eq_true h,cond_true]
  exact ⟨-1,rfl,by omega,by omega⟩
 ·obtain ⟨e1,e2⟩:=qML h
  have:=(hc.2.2.2.2.2.2 _ e2).1
  rw [decide_eq_false h,cond_false,bnd e1]
  exact ⟨_,rfl,by omega,this.2⟩
theorem qOC {c:Code} (hc:qFV c):∀ (ys:List Item) (k:Nat) (v:List Int),(∀ it ∈ ys,qHa it)→v.length=5→∃ r,qBM c ys k v=some r∧r.length=5
 | [],k,v,_,hv=>⟨v,by rw [qBM],hv⟩
 | y::ys,k,v,h,hv=>by
  obtain ⟨f,f1,f2,f3⟩:=qUg hc (h y (by simp))
  rw [qBM,bnd f1]
  by_cases h0:f ≥ 0
  ·have hg:qAb v f=some v[f.toNat]:=by rw [qDa (k:=f.toNat) (by omega)];exact List.getElem?_eq_getElem (by omega)
   rw [decide_eq_true h0,cond_true,bnd hg]
   exact qOC hc ys (k+1) _ (fun it hit=>h it (by simp [hit])) (by rw [List.length_set];exact hv)
  ·rw [decide_eq_false h0,cond_false]
   exact qOC hc ys (k+1) v (fun it hit=>h it (by simp [hit])) hv
theorem qQE {c:Code} (hc:qFV c):∀ (ys:List Int) (k:Nat),k+ys.length ≤ 5→∃ b,qBw c ys k=some b
 | [],k,_=>⟨true,by rw [qBw]⟩
 | y::ys,k,h=>by
  simp only [List.length_cons] at h
  have hl:=hc.2.1
  rw [qBw,bnd (qDS (l:=c.limits) (k:=k) (by omega))]
  cases decide (y > c.limits[k])
  ·exact qQE hc ys (k+1) (by omega)
  ·exact ⟨false,rfl⟩
theorem qSL:∀ (ys:List Item) (k:Nat),∃ b,qCH ys k=some b
 | [],k=>⟨true,by rw [qCH]⟩
 | y::ys,k=>by
  obtain ⟨b,b1,_⟩:=qL2 0 0 y.marks 0
  rw [qCH,bnd (show qCy y.marks 0 0=some b from b1)]
  cases b
  ·exact ⟨false,rfl⟩
  ·exact qSL ys (k+1)
theorem qS1:∀ (ys:List Item) (k:Nat) (a b:Int),∃ r,qAo ys k a b=some r
 | [],k,a,b=>⟨(a,b),by rw [qAo]⟩
 | y::ys,k,a,b=>by
  rw [qAo]
  cases decide ((y.names.length:Int) > 1) <;> cases decide ((y.names.length:Int) > 2) <;> exact qS1 ys (k+1) _ _
theorem qTO (l:List Item):∀ (ys:List Item) (k:Nat),∃ b,qCl l ys k=some b
 | [],k=>⟨true,by rw [qCl]⟩
 | y::ys,k=>by
  rw [qCl]
  cases !(y.late == decide (w64 (2 * (k:Int)) ≥ (l.length:Int)))
  ·exact qTO l ys (k+1)
  ·exact ⟨false,rfl⟩
theorem qOG (name:ByteArray) (y:Item):∀ (ns:List ByteArray) (k:Nat) (a b:Int),∃ r,qBb name y ns k a b=some r
 | [],k,a,b=>⟨(a,b),by rw [qBb]⟩
 | n::ns,k,a,b=>by
  rw [qBb]
  cases decide (n=name)
  ·exact qOG name y ns (k+1) _ _
  ·cases decide ((y.names.length:Int) > 1) <;> exact qOG name y ns (k+1) _ _
theorem qRV (name:ByteArray):∀ (ys:List Item) (k:Nat) (a b:Int),∃ r,qCI name ys k a b=some r
 | [],k,a,b=>⟨(a,b),by rw [qCI]⟩
 | y::ys,k,a,b=>by
  obtain ⟨⟨p,q⟩,r1⟩:=qOG name y y.names 0 a b
  rw [qCI,bnd r1]
  exact qRV name ys (k+1) p q
theorem qSK (c:Code) (l:List Item) (it:Item) (s:ByteArray) (rule:Int):∃ b,qGs c l it s rule=some b:=by
 unfold qGs
 rw [bnd (qIE c s).2]
 cases rule == 2
 ·rw [cond_false]
  cases rule == 4
  ·rw [cond_false]
   obtain ⟨r,r1⟩:=qRV s l 0 0 0
   rw [bnd (show qHn l s=some r from r1)]
   exact ⟨_,rfl⟩
  ·rw [cond_true]
   by_cases h:fnd s c.elements 0 < 0
   ·rw [decide_eq_false (by omega:¬ fnd s c.elements 0 ≥ 0),Bool.and_false,qDU]
    exact ⟨_,rfl⟩
   ·cases (it.names.length:Int) == 1
    ·rw [decide_eq_true (by omega:fnd s c.elements 0 ≥ 0),Bool.not_false,Bool.and_self,qCX,bnd (qML h).1]
     exact ⟨_,rfl⟩
    ·rw [Bool.not_true,Bool.false_and,qDU]
     exact ⟨_,rfl⟩
 ·exact ⟨_,rfl⟩
theorem qPn (c:Code) (l:List Item) (rule:Int) (y:Item):∀ (ns:List ByteArray) (k:Nat),∃ r,qCR c l rule y ns k=some r
 | [],k=>⟨.ok (),by rw [qCR]⟩
 | n::ns,k=>by
  obtain ⟨b,b1⟩:=qSK c l y n rule
  rw [qCR,bnd b1]
  cases b
  ·exact ⟨_,rfl⟩
  ·exact qPn c l rule y ns (k+1)
theorem qQL (c:Code) (l:List Item) (rule:Int):∀ (ys:List Item) (k:Nat),∃ b,qCL c l rule ys k=some b
 | [],k=>⟨true,by rw [qCL]⟩
 | y::ys,k=>by
  obtain ⟨r,r1⟩:=qPn c l rule y y.names 0
  rw [qCL,bnd r1]
  cases r with
  | error b=>exact ⟨b,rfl⟩
  | ok u=>exact qQL c l rule ys (k+1)
theorem qSk {c:Code} (hc:qFV c) {l:List Item} (hl:qF6 l) (rule:Int):∃ b,qGO c l rule=some b:=by
 unfold qGO
 cases rule == 1
 ·rw [cond_false]
  cases rule == 3
  ·rw [cond_false]
   cases rule == 5
   ·rw [cond_false]
    cases rule == 6
    ·rw [cond_false]
     cases rule == 8
     ·rw [cond_false]
      obtain ⟨b,b1⟩:=qQL c l rule l 0
      rw [bnd (show qHq c l rule=some b from b1)]
      exact ⟨_,rfl⟩
     ·rw [cond_true]
      obtain ⟨b,b1⟩:=qTO l l 0
      rw [bnd (show qIc l=some b from b1)]
      exact ⟨_,rfl⟩
    ·rw [cond_true]
     unfold qHM
     obtain ⟨r,r1,r2⟩:=qOC hc l 0 (List.replicate (5:Int).toNat (0:Int)) hl.2 (by simp)
     change ∃ b,(qBM c l 0 (List.replicate (5:Int).toNat (0:Int))).bind (fun x5=>qBw c x5 0)=some b
     rw [bnd r1]
     exact qQE hc r 0 (by omega)
   ·rw [cond_true]
    obtain ⟨r,r1⟩:=qS1 l 0 0 0
    rw [bnd (show qF8 l=some r from r1)]
    exact ⟨_,rfl⟩
  ·rw [cond_true]
   obtain ⟨b,b1⟩:=qSL l 0
   rw [bnd (show qHl l=some b from b1)]
   exact ⟨_,rfl⟩
 ·exact ⟨_,rfl⟩
theorem qSn {c:Code} (hc:qFV c) {l:List Item} (hl:qF6 l):∀ (n fuel:Nat) (v:List Int) (k:Int),(9 - k).toNat=n→n < fuel→1 ≤ k→k ≤ 9→(v.length:Int) ≤ k→∃ r,qB9 c l fuel v k=some r:=by
 intro n
 induction n with
 | zero =>
  intro fuel v k hn hf h1 h9 hv
  obtain ⟨f,rfl⟩:=nZ9 (by omega:fuel ≠ 0)
  rw [qB9,decide_eq_false (by omega),cond_false]
  exact ⟨_,rfl⟩
 | succ n ih =>
  intro fuel v k hn hf h1 h9 hv
  obtain ⟨f,rfl⟩:=nZ9 (by omega:fuel ≠ 0)
  obtain ⟨b,b1⟩:=qSk hc hl k
  rw [qB9,decide_eq_true (by omega),cond_true,bnd b1,qAG (by omega)]
  cases b
  ·rw [Bool.not_false,cond_true,qAQ (by simp;omega),qAw,oB9]
   exact ih f _ (k+1) (by omega) (by omega) (by omega) (by omega) (by simp;omega)
  ·rw [Bool.not_true,cond_false]
   exact ih f v (k+1) (by omega) (by omega) (by omega) (by omega) (by omega)
theorem qOM {c:Code} (hc:qPJ c) {l:List Item} (hp:qQa l) (fuel:Nat) (hf:1048576 < fuel):∃ b,qFt fuel c l=some b:=by
 unfold qFt qHi qHE
 obtain ⟨a,a1,a2,a3⟩:=qMH c hc fuel hf
 rw [bnd a2]
 cases a
 ·exact ⟨_,rfl⟩
 obtain ⟨i,i1,i2,i3⟩:=qNa l hp fuel hf
 rw [qCX,bnd i2]
 cases i
 ·exact ⟨_,rfl⟩
 obtain ⟨r,r1⟩:=qSn (a3 rfl) (i3 rfl) 8 fuel [] 1 rfl (by omega) (by omega) (by omega) (by simp)
 simp only [Bool.and_self,oB9,qCX]
 rw [bnd r1]
 exact ⟨_,rfl⟩
end
section
def ELs (l:List Element):Prop:=∀ x ∈ l,x.name.size ≤ 6
def DC (c:Code):Prop:=(1 ≤ c.elements.length∧c.elements.length ≤ 24)∧ELs c.elements∧c.limits.length=5
def DW (c:Code):Prop:=c.elements.length ≤ 30∧ELs c.elements
theorem qSU {c:Code} (h:DC c):DW c:=⟨by have:=h.1;omega,h.2.1⟩
theorem qN9 {c:Code} (h:DW c):qPJ c:=⟨by have:=h.1;omega,fun x hx=>by have:=h.2 x hx;omega⟩
theorem qKi {l:List Element} {x:Element} (h:ELs l) (hx:x.name.size ≤ 6):ELs (l++[x]):=by
 intro y hy
 rcases List.mem_append.1 hy with hy | hy
 ·exact h y hy
 ·rw [List.mem_singleton.1 hy];exact hx
theorem qSJ {l:List Element} {x:Element} (h:ELs l) (hx:x.name.size ≤ 6) (k:Nat):ELs (l.set k x):=by
 intro y hy
 rcases List.mem_or_eq_of_mem_set hy with hy | rfl
 ·exact h y hy
 ·exact hx
theorem qN7 {l:List Element} (h:ELs l) {n:ByteArray} (hn:n.size ≤ 6) (k:Nat) (f lv b:Int):ELs (l.set k (Element.mk n f lv b)):=qSJ h hn k
theorem qPq:∃ L,qCe=some L∧L.length=24∧qEz L:=⟨_,rfl,rfl,fun s hs=>Nat.le_of_ble_eq_true (List.all_eq_true.1 (show (List.all _ fun s:ByteArray=>Nat.ble s.size 6)=true from rfl) s hs)⟩
theorem qUu (x1 x3 x5 x7:L1Cur × Int) (v26:List Int):∀ (ys:List ByteArray) (k:Nat) (a:List Int) (b m s:Int) (v:List Element),CO a b m→m+4 * (ys.length:Int) ≤ 800000000→qEz ys→v.length+ys.length ≤ 24→ELs v →
  ∃ b' s' cc,qAh x1 x3 x5 x7 v26 ys k a b s v=some (L1Cur.mk a b' s',cc)∧CO a b' (m+4 * (ys.length:Int))∧cc.limits=v26∧cc.elements.length=v.length+ys.length∧ELs cc.elements
 | [],k,a,b,m,s,v,h,hm,hs,hl,he=>⟨b,s,_,by rw [qAh],h.mono (by omega),rfl,by simp,he⟩
 | y::ys,k,a,b,m,s,v,h,hm,hs,hl,he=>by
  simp only [List.length_cons] at hm hl ⊢
  obtain ⟨b1,s1,v1,e1,g1,_,_⟩:=qAy (s:=s) h (by omega) 2 (by omega)
  obtain ⟨b2,s2,v2,e2,g2,_,_⟩:=qAy (s:=s1) g1 (by omega) 900 (by omega)
  rw [qAh,bnd e1]
  dsimp only
  rw [bnd e2]
  dsimp only
  rw [qAQ (by simp;omega),qAw,oB9]
  obtain ⟨b',s',cc,q1,q2,q3,q4,q5⟩:=qUu x1 x3 x5 x7 v26 ys (k+1) a b2 (m+2+2) s2 (v++[Element.mk y v1 0 (w64 (100+v2))]) g2 (by omega) (fun z hz=>hs z (by simp [hz])) (by simp;omega) (qKi he (hs y (by simp)))
  exact ⟨b',s',cc,q1,q2.mono (by omega),q3,by rw [q4];simp;omega,q5⟩
theorem qUA (x1 x3 x5 x7:L1Cur × Int) (v26:List Int) (L:List ByteArray) (hL:L.length=24) (hLs:qEz L):∀ (ys pre:List ByteArray) (a:List Int) (b m s:Int) (v:List Element),L=pre++ys→CO a b m→m+8 * (ys.length:Int) ≤ 700000000→v.length ≤ pre.length→(pre.length ≤ 7 ∨ 0 < v.length)→ELs v →
  ∃ b' s' cc,qAV x1 x3 x5 x7 v26 L ys pre.length a b s v=some (L1Cur.mk a b' s',cc)∧CO a b' (m+8 * (ys.length:Int)+100)∧cc.limits=v26∧(1 ≤ cc.elements.length∧cc.elements.length ≤ 24)∧ELs cc.elements
 | [],pre,a,b,m,s,v,hp,h,hm,hl,h7,he=>by
  simp only [List.length_nil] at hm ⊢
  rw [List.append_nil] at hp
  subst hp
  obtain ⟨b1,s1,v1,e1,g1⟩:=qF0 (s:=s) h (by omega) 24 (by omega)
  rw [qAV,bnd e1]
  dsimp only
  cases v1
  ·exact ⟨b1,s1,_,rfl,g1.mono (by omega),rfl,by dsimp only;omega,he⟩
  ·rw [cond_true]
   obtain ⟨b',s',cc,q1,q2,q3,q4,q5⟩:=qUu x1 x3 x5 x7 v26 L 0 a b1 (m+2) s1 [] g1 (by omega) hLs (by simp;omega) (fun _ hx=>absurd hx (by simp))
   exact ⟨b',s',cc,q1,q2.mono (by omega),q3,by rw [q4];simp;omega,q5⟩
 | y::ys,pre,a,b,m,s,v,hp,h,hm,hl,h7,he=>by
  simp only [List.length_cons] at hm ⊢
  have hpl:(pre++[y]).length=pre.length+1:=by simp
  have hlen:pre.length+(ys.length+1)=24:=by rw [← hL,hp];simp
  have hy:y.size ≤ 6:=hLs y (by rw [hp];simp)
  obtain ⟨b1,s1,v1,e1,g1⟩:=qF0 (s:=s) h (by omega) 3 (by omega)
  rw [qAV,bnd e1]
  dsimp only
  cases hc:v1 || ((pre.length:Int) == 7)
  ·rw [cond_false]
   have h7':¬ (pre.length:Int)=7:=by
    intro e
    rw [e,beq_self_eq_true,Bool.or_true] at hc
    cases hc
   have ih:=qUA x1 x3 x5 x7 v26 L hL hLs ys (pre++[y]) a b1 (m+2) s1 v (by rw [hp];simp) g1 (by omega) (by omega) (by omega) he
   rw [hpl] at ih
   obtain ⟨b',s',cc,q1,q2,q3,q4,q5⟩:=ih
   exact ⟨b',s',cc,q1,q2.mono (by omega),q3,q4,q5⟩
  ·rw [cond_true]
   obtain ⟨b2,s2,v2,e2,g2,_,_⟩:=qAy (s:=s1) g1 (by omega) 5 (by omega)
   obtain ⟨b3,s3,v3,e3,g3,_,_⟩:=qAy (s:=s2) g2 (by omega) 5 (by omega)
   obtain ⟨b4,s4,v4,e4,g4,_⟩:=qBX (s:=s3) g3 (by omega) [1,50,130,420,800,1105,2000] (by simp) (by simp)
   rw [bnd e2]
   dsimp only
   rw [bnd e3]
   dsimp only
   rw [bnd e4]
   dsimp only
   rw [qAQ (by simp;omega),qAw,oB9]
   have ih:=qUA x1 x3 x5 x7 v26 L hL hLs ys (pre++[y]) a b4 (m+2+2+2+2) s4 (v++[Element.mk y v2 v3 v4]) (by rw [hp];simp) g4 (by omega) (by simp;omega) (.inr (by simp)) (qKi he hy)
   rw [hpl] at ih
   obtain ⟨b',s',cc,q1,q2,q3,q4,q5⟩:=ih
   exact ⟨b',s',cc,q1,q2.mono (by omega),q3,q4,q5⟩
theorem qVC (x1 x3 x5 x7:L1Cur × Int):∀ (n f:Nat) (a:List Int) (b m s:Int) (v:List Int) (k:Int),(5 - k).toNat=n→n < f→0 ≤ k→k ≤ 5→(v.length:Int)=k→CO a b m→m+2 * (n:Int) ≤ 600000000 →
  ∃ b' s' cc,qAu x1 x3 x5 x7 f a b s v k=some (L1Cur.mk a b' s',cc)∧CO a b' (m+2 * (n:Int)+300)∧DC cc:=by
 intro n
 induction n with
 | zero =>
  intro f a b m s v k hn hf h0 h5 hv h hm
  obtain ⟨f,rfl⟩:=nZ9 (by omega:f ≠ 0)
  obtain ⟨L,e1,e2,e3⟩:=qPq
  rw [qAu,decide_eq_false (by omega),cond_false,bnd e1]
  have:=qUA x1 x3 x5 x7 v L e2 e3 L [] a b m s [] rfl h (by omega) (by simp) (.inl (by simp)) (fun _ hx=>absurd hx (by simp))
  obtain ⟨b',s',cc,q1,q2,q3,q4,q5⟩:=this
  exact ⟨b',s',cc,q1,q2.mono (by omega),q4,q5,by rw [q3];omega⟩
 | succ n ih =>
  intro f a b m s v k hn hf h0 h5 hv h hm
  obtain ⟨f,rfl⟩:=nZ9 (by omega:f ≠ 0)
  obtain ⟨b1,s1,v1,e1,g1,_⟩:=qBX (s:=s) h (by omega) [0,1,2,3,7,9] (by simp) (by simp)
  rw [qAu,decide_eq_true (by omega),cond_true,bnd e1]
  dsimp only
  rw [qAQ (by simp;omega),qAw,oB9,qAG (by omega)]
  obtain ⟨b',s',cc,q1,q2,q3⟩:=ih f a b1 (m+2) s1 (v++[v1]) (k+1) (by omega) (by omega) (by omega) (by omega) (by simp;omega) g1 (by omega)
  exact ⟨b',s',cc,q1,q2.mono (by omega),q3⟩
theorem qKR {a:List Int} {b m s:Int} (h:CO a b m) (hm:m ≤ 100000000) (fuel:Nat) (hf:1000 < fuel):∃ b' s' cc,qCM fuel (L1Cur.mk a b s)=some (L1Cur.mk a b' s',cc)∧CO a b' (m+400)∧DC cc:=by
 unfold qCM
 obtain ⟨b1,s1,v1,e1,g1,_,_⟩:=qAy (s:=s) h (by omega) 3 (by omega)
 obtain ⟨b2,s2,v2,e2,g2,_⟩:=qBX (s:=s1) g1 (by omega) [0,10,20] (by simp) (by simp)
 obtain ⟨b3,s3,v3,e3,g3,_⟩:=qBX (s:=s2) g2 (by omega) [50,70,80,100] (by simp) (by simp)
 obtain ⟨b4,s4,v4,e4,g4,_⟩:=qBX (s:=s3) g3 (by omega) [0,100,500] (by simp) (by simp)
 rw [bnd e1]
 dsimp only
 rw [bnd e2]
 dsimp only
 rw [bnd e3]
 dsimp only
 rw [bnd e4]
 dsimp only
 obtain ⟨b',s',cc,q1,q2,q3⟩:=qVC (L1Cur.mk a b1 s1,v1) (L1Cur.mk a b2 s2,v2) (L1Cur.mk a b3 s3,v3) (L1Cur.mk a b4 s4,v4) 5 fuel a b4 (m+2+2+2+2) s4 [] 0 rfl (by omega) (by omega) (by omega) rfl g4 (by omega)
 exact ⟨b',s',cc,q1,q2.mono (by omega),q3⟩
theorem qU8 (x1:L1Cur × Code) (x5:L1Cur × Int) (L:List ByteArray) (hL:L.length=24) (hs:qEz L):∀ (n f:Nat) (v:List Element) (k:Int),(25 - k).toNat=n→n < f→0 ≤ k→k ≤ 25→(v.length:Int)=k→ELs v →
  ∃ cc,qBH x1 x5 L f v k=some (L1Cur.mk x5.1.code x5.1.at' x5.1.seed,cc)∧DW cc:=by
 intro n
 induction n with
 | zero =>
  intro f v k hn hf h0 h5 hv he
  obtain ⟨f,rfl⟩:=nZ9 (by omega:f ≠ 0)
  rw [qBH,decide_eq_false (by simp;omega),cond_false]
  exact ⟨_,rfl,by dsimp only;omega,he⟩
 | succ n ih =>
  intro f v k hn hf h0 h5 hv he
  obtain ⟨f,rfl⟩:=nZ9 (by omega:f ≠ 0)
  have hlt:k.toNat < (L++[(⟨#[90,90]⟩:ByteArray)]).length:=by simp;omega
  have hg:qAb (L++[(⟨#[90,90]⟩:ByteArray)]) k=some (L++[(⟨#[90,90]⟩:ByteArray)])[k.toNat]:=by rw [qDa (k:=k.toNat) (by omega)];exact List.getElem?_eq_getElem hlt
  have hz:=qF7 hs (x:=(⟨#[90,90]⟩:ByteArray)) (by decide) _ (List.getElem_mem hlt)
  rw [qBH,decide_eq_true (by simp;omega),cond_true,bnd hg,qAQ (by simp;omega),qAw,oB9,qAG (by omega)]
  exact ih f _ (k+1) (by omega) (by omega) (by omega) (by omega) (by simp;omega) (qKi he hz)
theorem qNT {a:List Int} {b m s:Int} (h:CO a b m) (hm:m ≤ 100000000) (fuel:Nat) (hf:1000 < fuel):∃ b' s' cc,qD2 fuel (L1Cur.mk a b s)=some (L1Cur.mk a b' s',cc)∧CO a b' (m+500)∧DW cc:=by
 unfold qD2
 obtain ⟨b1,s1,c,e1,g1,d1,d2,d3⟩:=qKR (s:=s) h hm fuel hf
 rw [bnd e1]
 dsimp only
 obtain ⟨b2,s2,k,e2,g2,k0,k1⟩:=qAy (s:=s1) g1 (by omega) (c.elements.length:Int) (by omega)
 rw [bnd e2]
 dsimp only
 obtain ⟨b3,s3,v3,e3,g3,_,_⟩:=qAy (s:=s2) g2 (by omega) 30 (by omega)
 rw [bnd e3]
 dsimp only
 have hk:k.toNat < c.elements.length:=by omega
 have hg:qAb c.elements k=some c.elements[k.toNat]:=by rw [qDa (k:=k.toNat) (by omega)];exact List.getElem?_eq_getElem hk
 have hks:=d2 _ (List.getElem_mem hk)
 have hle:c.elements.length ≤ 30:=by omega
 cases v3 == 0
 ·rw [cond_false]
  cases v3 == 1
  ·rw [cond_false]
   cases v3 == 2
   ·rw [cond_false]
    cases v3 == 3
    ·rw [cond_false]
     cases v3 == 4
     ·rw [cond_false]
      cases v3 == 5
      ·rw [cond_false]
       cases v3 == 6
       ·rw [cond_false]
        cases v3 == 7
        ·rw [cond_false]
         cases v3 == 8
         ·rw [cond_false]
          cases v3 == 9
          ·rw [cond_false]
           cases v3 == 10
           ·rw [cond_false]
            cases v3 == 11
            ·exact ⟨_,_,_,rfl,g3.mono (by omega),hle,d2⟩
            ·rw [cond_true]
             obtain ⟨L,l1,l2,l3⟩:=qPq
             rw [bnd l1,qAQ (by simp;omega),qAw,oB9]
             obtain ⟨cc,q1,q2⟩:=qU8 (L1Cur.mk a b1 s1,c) (L1Cur.mk a b3 s3,v3) L l2 l3 25 fuel [] 0 rfl (by omega) (by omega) (by omega) rfl (fun _ hx=>absurd hx (by simp))
             exact ⟨_,_,cc,q1,g3.mono (by omega),q2⟩
           ·exact ⟨_,_,_,rfl,g3.mono (by omega),by simp,fun _ hx=>absurd hx (by simp)⟩
          ·obtain ⟨b4,s4,v4,e4,g4,_⟩:=qBX (s:=s3) g3 (by omega) [-1,500,501] (by simp) (by simp)
           rw [cond_true,bnd e4]
           exact ⟨_,_,_,rfl,g4.mono (by omega),hle,d2⟩
         ·obtain ⟨b4,s4,v4,e4,g4,_⟩:=qBX (s:=s3) g3 (by omega) [49,50,100,101] (by simp) (by simp)
          rw [cond_true,bnd e4]
          exact ⟨_,_,_,rfl,g4.mono (by omega),hle,d2⟩
        ·obtain ⟨b4,s4,v4,e4,g4,_⟩:=qBX (s:=s3) g3 (by omega) [-1,20,21] (by simp) (by simp)
         rw [cond_true,bnd e4]
         exact ⟨_,_,_,rfl,g4.mono (by omega),hle,d2⟩
       ·obtain ⟨b4,s4,v4,e4,g4,_⟩:=qBX (s:=s3) g3 (by omega) [0,3,4] (by simp) (by simp)
        rw [cond_true,bnd e4]
        exact ⟨_,_,_,rfl,g4.mono (by omega),hle,d2⟩
      ·rw [cond_true,qAQ (by simp;omega),qAw,oB9]
       exact ⟨_,_,_,rfl,g3.mono (by omega),hle,d2⟩
     ·obtain ⟨b4,s4,v4,e4,g4,p0,p1⟩:=qAy (s:=s3) g3 (by omega) 5 (by omega)
      obtain ⟨b5,s5,v5,e5,g5,_⟩:=qBX (s:=s4) g4 (by omega) [-1,9,10] (by simp) (by simp)
      rw [cond_true,bnd e4]
      dsimp only
      have hg4:qAb c.limits v4=some c.limits[v4.toNat]! := by
       have:v4.toNat < c.limits.length:=by omega
       rw [qDa (k:=v4.toNat) (by omega),getElem!_pos c.limits v4.toNat this]
       exact List.getElem?_eq_getElem this
      rw [bnd e5]
      dsimp only
      rw [bnd hg4]
      exact ⟨_,_,_,rfl,g5.mono (by omega),hle,d2⟩
    ·obtain ⟨b4,s4,v4,e4,g4,_⟩:=qBX (s:=s3) g3 (by omega) [0,1,2000,2001] (by simp) (by simp)
     rw [cond_true,bnd e4]
     dsimp only
     rw [bnd hg]
     exact ⟨_,_,_,rfl,g4.mono (by omega),by dsimp only;rw [List.length_set];exact hle,qN7 d2 hks _ _ _ _⟩
   ·obtain ⟨b4,s4,v4,e4,g4,_⟩:=qBX (s:=s3) g3 (by omega) [-1,4,5] (by simp) (by simp)
    rw [cond_true,bnd e4]
    dsimp only
    rw [bnd hg]
    exact ⟨_,_,_,rfl,g4.mono (by omega),by dsimp only;rw [List.length_set];exact hle,qN7 d2 hks _ _ _ _⟩
  ·obtain ⟨b4,s4,v4,e4,g4,_⟩:=qBX (s:=s3) g3 (by omega) [-1,4,5] (by simp) (by simp)
   rw [cond_true,bnd e4]
   dsimp only
   rw [bnd hg]
   exact ⟨_,_,_,rfl,g4.mono (by omega),by dsimp only;rw [List.length_set];exact hle,qN7 d2 hks _ _ _ _⟩
 ·obtain ⟨b4,s4,v4,e4,g4,q4⟩:=of_ok (s:=s3) g3 (by omega) [(⟨#[]⟩:ByteArray),(⟨#[51,97]⟩:ByteArray),(⟨#[65,66,67,68,69,70]⟩:ByteArray),(⟨#[51,65]⟩:ByteArray),(⟨#[90,90,90,90,90]⟩:ByteArray),(⟨#[48]⟩:ByteArray)] (by simp) (by simp)
  have hv4:v4.size ≤ 6:=Nat.le_of_ble_eq_true (List.all_eq_true.1 (show (List.all [(⟨#[]⟩:ByteArray),(⟨#[51,97]⟩:ByteArray),(⟨#[65,66,67,68,69,70]⟩:ByteArray),(⟨#[51,65]⟩:ByteArray),(⟨#[90,90,90,90,90]⟩:ByteArray),(⟨#[48]⟩:ByteArray)] fun s:ByteArray=>Nat.ble s.size 6)=true from rfl) v4 q4)
  rw [cond_true,bnd e4]
  dsimp only
  rw [bnd hg]
  exact ⟨_,_,_,rfl,g4.mono (by omega),by dsimp only;rw [List.length_set];exact hle,qSJ d2 hv4 _⟩
end
section
def prI (it:Item):Prop:=itB it∧1 ≤ it.names.length∧1 ≤ it.marks.length
def PR (l:List Item):Prop:=∀ it ∈ l,prI it
theorem qHg {l:List Item} (h:PR l):qJK l:=fun it hi=>(h it hi).1
theorem qLt {l:List Item} (h:qJK l):qQa l:=fun it hi s hs=>by have:=(h it hi).2.2 s hs;omega
theorem qUd:∀ (ys:List Item) (k:Nat) (v:List Item),qJK ys→v.length+ys.length ≤ 1000→qDJ ys k v=some (v++ys)
 | [],k,v,_,_=>by rw [qDJ];simp
 | y::ys,k,v,h,hl=>by
  obtain ⟨h1,h2,_⟩:=h y (by simp)
  simp only [List.length_cons] at hl
  rw [qDJ]
  unfold qIX qEh
  rw [qAQ (n:=y.names.length) (by omega),qAQ (n:=y.marks.length) (by omega),qAw,oB9,oB9,oB9,oB9,qAQ (by simp;omega),qAw,oB9,qUd ys (k+1) _ (fun it hi=>h it (by simp [hi])) (by simp;omega)]
  simp
theorem qMR {l:List Item} (h:qJK l) (hl:l.length ≤ 1000):qDu l=some l:=by
 have:=qUd l 0 [] h (by simp;omega)
 exact this
theorem qUm (l x1:List Item) (P:Item→Prop) (hP:∀ it b,P it→P ⟨it.names,it.marks,b⟩):∀ (n f:Nat) (v:List Item) (k:Int),((x1.length:Int) - k).toNat=n→n < f→0 ≤ k→k ≤ (x1.length:Int)→v.length=x1.length→x1.length ≤ 1000→(∀ it ∈ v,P it) →
  ∃ r,qDP l x1 f v k=some r∧r.length=x1.length∧∀ it ∈ r,P it:=by
 intro n
 induction n with
 | zero =>
  intro f v k hn hf h0 hk hv hx hp
  obtain ⟨f,rfl⟩:=nZ9 (by omega:f ≠ 0)
  rw [qDP,decide_eq_false (by omega),cond_false]
  exact ⟨v,rfl,hv,hp⟩
 | succ n ih =>
  intro f v k hn hf h0 hk hv hx hp
  obtain ⟨f,rfl⟩:=nZ9 (by omega:f ≠ 0)
  have hlt:k.toNat < v.length:=by omega
  have hg:qAb v k=some v[k.toNat]:=by rw [qDa (k:=k.toNat) (by omega)];exact List.getElem?_eq_getElem hlt
  rw [qDP,decide_eq_true (by omega),cond_true,bnd hg,qAG (n:=k+1) (by omega)]
  refine ih f _ (k+1) (by omega) (by omega) (by omega) (by omega) (by rw [List.length_set];exact hv) hx (fun it hi=>?_)
  rcases List.mem_or_eq_of_mem_set hi with hi | rfl
  ·exact hp it hi
  ·exact hP _ _ (hp _ (List.getElem_mem hlt))
theorem qSe (it:Item) (b:Bool) (h:prI it):prI ⟨it.names,it.marks,b⟩:=h
theorem qNr {l:List Item} (h:PR l) (hl:l.length ≤ 1000) (fuel:Nat) (hf:1000 < fuel):∃ r,qEG fuel l=some r∧r.length=l.length∧PR r:=by
 unfold qEG
 rw [bnd (qMR (qHg h) hl)]
 exact qUm l l prI qSe l.length fuel l 0 (by omega) (by omega) (by omega) (by omega) rfl hl h
theorem qP7 {l m:List Item} (h:PR l) (k:PR m):PR (l++m):=fun it hi=>(List.mem_append.1 hi).elim (h it) (k it)
theorem qVd (x1:L1Cur × Code) (hc:DC x1.2) (x494:L1Cur × Int) (h13:1 ≤ x494.2∧x494.2 ≤ 3):∀ (n f:Nat) (a:List Int) (b m s:Int) (N:List ByteArray) (M:List Int),(x494.2 - (N.length:Int)).toNat=n→n < f→(N.length:Int) ≤ x494.2→M.length=N.length→qEz N→CO a b m→m+2 * (n:Int) ≤ 400000000 →
  ∃ b' s' N' M',qA3 x1 x494 f a b s N M=some (a,b',s',N',M')∧CO a b' (m+2 * (n:Int))∧(N'.length:Int)=x494.2∧M'.length=N'.length∧qEz N':=by
 intro n
 induction n with
 | zero =>
  intro f a b m s N M hn hf hl hM hs h hm
  obtain ⟨f,rfl⟩:=nZ9 (by omega:f ≠ 0)
  rw [qA3,decide_eq_false (by omega),cond_false]
  exact ⟨b,s,N,M,rfl,h.mono (by omega),by omega,hM,hs⟩
 | succ n ih =>
  intro f a b m s N M hn hf hl hM hs h hm
  obtain ⟨f,rfl⟩:=nZ9 (by omega:f ≠ 0)
  have hc1:=hc.1
  obtain ⟨b1,s1,v1,e1,g1,l1,u1⟩:=qAy (s:=s) h (by omega) (x1.2.elements.length:Int) (by omega)
  have hk:v1.toNat < x1.2.elements.length:=by omega
  have hg:qAb x1.2.elements v1=some x1.2.elements[v1.toNat]:=by rw [qDa (k:=v1.toNat) (by omega)];exact List.getElem?_eq_getElem hk
  rw [qA3,decide_eq_true (by omega),cond_true,bnd e1]
  dsimp only
  rw [bnd hg,qAQ (by simp;omega),qAw,oB9,qAQ (by simp;omega),qAw,oB9]
  obtain ⟨b',s',N',M',q1,q2,q3,q4,q5⟩:=ih f a b1 (m+2) s1 (N++[x1.2.elements[v1.toNat].name]) (M++[0]) (by simp;omega) (by omega) (by simp;omega) (by simp [hM]) (qF7 hs (hc.2.1 _ (List.getElem_mem hk))) g1 (by omega)
  exact ⟨b',s',N',M',q1,q2.mono (by omega),q3,q4,q5⟩
theorem qVb (x1:L1Cur × Code) (hc:DC x1.2) (x494:L1Cur × Int) (h13:1 ≤ x494.2∧x494.2 ≤ 3):∀ (n f:Nat) (a:List Int) (b m s:Int) (N:List ByteArray) (M:List Int),(x494.2 - (N.length:Int)).toNat=n→n < f→(N.length:Int) ≤ x494.2→M.length=N.length→qEz N→CO a b m→m+2 * (n:Int) ≤ 400000000 →
  ∃ b' s' N' M',qA2 x1 x494 f a b s N M=some (a,b',s',N',M')∧CO a b' (m+2 * (n:Int))∧(N'.length:Int)=x494.2∧M'.length=N'.length∧qEz N':=by
 intro n
 induction n with
 | zero =>
  intro f a b m s N M hn hf hl hM hs h hm
  obtain ⟨f,rfl⟩:=nZ9 (by omega:f ≠ 0)
  rw [qA2,decide_eq_false (by omega),cond_false]
  exact ⟨b,s,N,M,rfl,h.mono (by omega),by omega,hM,hs⟩
 | succ n ih =>
  intro f a b m s N M hn hf hl hM hs h hm
  obtain ⟨f,rfl⟩:=nZ9 (by omega:f ≠ 0)
  have hc1:=hc.1
  obtain ⟨b1,s1,v1,e1,g1,l1,u1⟩:=qAy (s:=s) h (by omega) (x1.2.elements.length:Int) (by omega)
  have hk:v1.toNat < x1.2.elements.length:=by omega
  have hg:qAb x1.2.elements v1=some x1.2.elements[v1.toNat]:=by rw [qDa (k:=v1.toNat) (by omega)];exact List.getElem?_eq_getElem hk
  rw [qA2,decide_eq_true (by omega),cond_true,bnd e1]
  dsimp only
  rw [bnd hg,qAQ (by simp;omega),qAw,oB9,qAQ (by simp;omega),qAw,oB9]
  obtain ⟨b',s',N',M',q1,q2,q3,q4,q5⟩:=ih f a b1 (m+2) s1 (N++[x1.2.elements[v1.toNat].name]) (M++[0]) (by simp;omega) (by omega) (by simp;omega) (by simp [hM]) (qF7 hs (hc.2.1 _ (List.getElem_mem hk))) g1 (by omega)
  exact ⟨b',s',N',M',q1,q2.mono (by omega),q3,q4,q5⟩
theorem qVZ (fuel:Nat) (hF:1048576 < fuel) (x1:L1Cur × Code) (v12:List Int) (hx:DC x1.2) (hc:DC (Code.mk x1.2.elements v12 x1.2.repeats x1.2.bonus x1.2.keeps x1.2.fall)):∀ (n f:Nat) (a:List Int) (b m s:Int) (l:List Item) (k:Int),k.toNat=n→n < f→0 ≤ k→CO a b m→m+10 * (n:Int) ≤ 300000000→PR l→l.length+n ≤ 100 →
  ∃ b' s' l',qA0 fuel x1 v12 f a b s l k=some (L1Cur.mk a b' s',(Code.mk x1.2.elements v12 x1.2.repeats x1.2.bonus x1.2.keeps x1.2.fall),l')∧CO a b' (m+10 * (n:Int))∧PR l'∧l'.length ≤ l.length+n:=by
 intro n
 induction n with
 | zero =>
  intro f a b m s l k hn hf h0 h hm hp hl
  obtain ⟨f,rfl⟩:=nZ9 (by omega:f ≠ 0)
  rw [qA0,decide_eq_false (by omega),cond_false]
  exact ⟨b,s,l,rfl,h.mono (by omega),hp,by omega⟩
 | succ n ih =>
  intro f a b m s l k hn hf h0 h hm hp hl
  obtain ⟨f,rfl⟩:=nZ9 (by omega:f ≠ 0)
  obtain ⟨b1,s1,v1,e1,g1,i1⟩:=qBX (s:=s) h (by omega) [1,1,1,1,2,2,3] (by simp) (by simp)
  have h13:1 ≤ v1∧v1 ≤ 3:=by simp at i1;omega
  obtain ⟨b2,s2,N,M,e2,g2,n2,m2,z2⟩:=qVd x1 hx (L1Cur.mk a b1 s1,v1) h13 v1.toNat fuel a b1 (m+2) s1 [] [] (by simp) (by omega) (by simp;omega) rfl (fun _ hx=>absurd hx (by simp)) g1 (by omega)
  dsimp only at n2
  have hN:prI ⟨N,M,false⟩:=⟨⟨by dsimp only;omega,by dsimp only;omega,z2⟩,by dsimp only;omega,by dsimp only;omega⟩
  have hq:PR (l++[⟨N,M,false⟩]):=qP7 hp fun it hi=>by rw [List.mem_singleton.1 hi];exact hN
  obtain ⟨r,r1,r2,r3⟩:=qNr hq (by simp;omega) fuel (by omega)
  obtain ⟨d,d1⟩:=qOM (c:=(Code.mk x1.2.elements v12 x1.2.repeats x1.2.bonus x1.2.keeps x1.2.fall)) (qN9 (qSU hc)) (qLt (qHg r3)) fuel hF
  rw [qA0,decide_eq_true (by omega),cond_true,bnd e1]
  dsimp only
  rw [e2,oB9]
  dsimp only
  rw [qMR (qHg hp) (by omega),oB9,qAQ (by simp;omega),qAw,oB9,r1,oB9,d1,oB9,qAG (by omega)]
  cases d
  ·rw [Bool.not_false,qCX]
   obtain ⟨b3,s3,v3,e3,g3⟩:=qF0 (s:=s2) g2 (by omega) 30 (by omega)
   rw [e3,oB9]
   dsimp only
   cases v3
   ·obtain ⟨b',s',l',q1,q2,q3,q4⟩:=ih f a b3 (m+2+2 * (v1.toNat:Int)+2) s3 l (k - 1) (by omega) (by omega) (by omega) g3 (by omega) hp (by omega)
    exact ⟨b',s',l',q1,q2.mono (by omega),q3,by omega⟩
   ·obtain ⟨b',s',l',q1,q2,q3,q4⟩:=ih f a b3 (m+2+2 * (v1.toNat:Int)+2) s3 r (k - 1) (by omega) (by omega) (by omega) g3 (by omega) r3 (by simp at r2;omega)
    exact ⟨b',s',l',q1,q2.mono (by omega),q3,by simp at r2;omega⟩
  ·rw [Bool.not_true,qDU,oB9,Bool.true_or,cond_true]
   obtain ⟨b',s',l',q1,q2,q3,q4⟩:=ih f a b2 (m+2+2 * (v1.toNat:Int)) s2 r (k - 1) (by omega) (by omega) (by omega) g2 (by omega) r3 (by simp at r2;omega)
   exact ⟨b',s',l',q1,q2.mono (by omega),q3,by simp at r2;omega⟩
theorem qVD (fuel:Nat) (hF:1048576 < fuel) (x1:L1Cur × Code) (hc:DC x1.2):∀ (n f:Nat) (a:List Int) (b m s:Int) (l:List Item) (k:Int),k.toNat=n→n < f→0 ≤ k→CO a b m→m+10 * (n:Int) ≤ 300000000→PR l→l.length+n ≤ 100 →
  ∃ b' s' l',qAz fuel x1 f a b s l k=some (L1Cur.mk a b' s',x1.2,l')∧CO a b' (m+10 * (n:Int))∧PR l'∧l'.length ≤ l.length+n:=by
 intro n
 induction n with
 | zero =>
  intro f a b m s l k hn hf h0 h hm hp hl
  obtain ⟨f,rfl⟩:=nZ9 (by omega:f ≠ 0)
  rw [qAz,decide_eq_false (by omega),cond_false]
  exact ⟨b,s,l,rfl,h.mono (by omega),hp,by omega⟩
 | succ n ih =>
  intro f a b m s l k hn hf h0 h hm hp hl
  obtain ⟨f,rfl⟩:=nZ9 (by omega:f ≠ 0)
  obtain ⟨b1,s1,v1,e1,g1,i1⟩:=qBX (s:=s) h (by omega) [1,1,1,1,2,2,3] (by simp) (by simp)
  have h13:1 ≤ v1∧v1 ≤ 3:=by simp at i1;omega
  obtain ⟨b2,s2,N,M,e2,g2,n2,m2,z2⟩:=qVb x1 hc (L1Cur.mk a b1 s1,v1) h13 v1.toNat fuel a b1 (m+2) s1 [] [] (by simp) (by omega) (by simp;omega) rfl (fun _ hx=>absurd hx (by simp)) g1 (by omega)
  dsimp only at n2
  have hN:prI ⟨N,M,false⟩:=⟨⟨by dsimp only;omega,by dsimp only;omega,z2⟩,by dsimp only;omega,by dsimp only;omega⟩
  have hq:PR (l++[⟨N,M,false⟩]):=qP7 hp fun it hi=>by rw [List.mem_singleton.1 hi];exact hN
  obtain ⟨r,r1,r2,r3⟩:=qNr hq (by simp;omega) fuel (by omega)
  obtain ⟨d,d1⟩:=qOM (c:=x1.2) (qN9 (qSU hc)) (qLt (qHg r3)) fuel hF
  rw [qAz,decide_eq_true (by omega),cond_true,bnd e1]
  dsimp only
  rw [e2,oB9]
  dsimp only
  rw [qMR (qHg hp) (by omega),oB9,qAQ (by simp;omega),qAw,oB9,r1,oB9,d1,oB9,qAG (by omega)]
  cases d
  ·rw [Bool.not_false,qCX]
   obtain ⟨b3,s3,v3,e3,g3⟩:=qF0 (s:=s2) g2 (by omega) 30 (by omega)
   rw [e3,oB9]
   dsimp only
   cases v3
   ·obtain ⟨b',s',l',q1,q2,q3,q4⟩:=ih f a b3 (m+2+2 * (v1.toNat:Int)+2) s3 l (k - 1) (by omega) (by omega) (by omega) g3 (by omega) hp (by omega)
    exact ⟨b',s',l',q1,q2.mono (by omega),q3,by omega⟩
   ·obtain ⟨b',s',l',q1,q2,q3,q4⟩:=ih f a b3 (m+2+2 * (v1.toNat:Int)+2) s3 r (k - 1) (by omega) (by omega) (by omega) g3 (by omega) r3 (by simp at r2;omega)
    exact ⟨b',s',l',q1,q2.mono (by omega),q3,by simp at r2;omega⟩
  ·rw [Bool.not_true,qDU,oB9,Bool.true_or,cond_true]
   obtain ⟨b',s',l',q1,q2,q3,q4⟩:=ih f a b2 (m+2+2 * (v1.toNat:Int)) s2 r (k - 1) (by omega) (by omega) (by omega) g2 (by omega) r3 (by simp at r2;omega)
   exact ⟨b',s',l',q1,q2.mono (by omega),q3,by simp at r2;omega⟩
theorem qVa (fuel:Nat) (hF:1048576 < fuel) (x1:L1Cur × Code) (hc:DC x1.2) (a:List Int) (b m s:Int) (t:Bool) (h:CO a b m) (hm:m ≤ 200000000):∀ (n f:Nat) (v:List Int) (k:Int),(5 - k).toNat=n→n < f→0 ≤ k→k ≤ 5→v.length=5 →
  ∃ b' s' c l,qA1 fuel x1 (L1Cur.mk a b s,t) f v k=some (L1Cur.mk a b' s',c,l)∧CO a b' (m+102)∧DC c∧PR l∧l.length ≤ 10:=by
 intro n
 induction n with
 | zero =>
  intro f v k hn hf h0 hk hv
  obtain ⟨f,rfl⟩:=nZ9 (by omega:f ≠ 0)
  have:=hc.2.2
  obtain ⟨b1,s1,v1,e1,g1,l1,u1⟩:=qAy (s:=s) h (by omega) 9 (by omega)
  rw [qA1,decide_eq_false (by omega),cond_false]
  dsimp only
  rw [bnd e1]
  dsimp only
  rw [qAG (by omega)]
  obtain ⟨b',s',l',q1,q2,q3,q4⟩:=qVZ fuel hF x1 v hc ⟨hc.1,hc.2.1,hv⟩ (1+v1).toNat fuel a b1 (m+2) s1 [] (1+v1) (by omega) (by omega) (by omega) g1 (by omega) (fun _ hx=>absurd hx (by simp)) (by simp;omega)
  exact ⟨b',s',_,l',q1,q2.mono (by omega),⟨hc.1,hc.2.1,hv⟩,q3,by simp at q4;omega⟩
 | succ n ih =>
  intro f v k hn hf h0 hk hv
  obtain ⟨f,rfl⟩:=nZ9 (by omega:f ≠ 0)
  have:=hc.2.2
  have hlt:k.toNat < v.length:=by omega
  have hg:qAb v k=some v[k.toNat]:=by rw [qDa (k:=k.toNat) (by omega)];exact List.getElem?_eq_getElem hlt
  rw [qA1,decide_eq_true (by omega),cond_true,bnd hg,qAG (by omega)]
  exact ih f _ (k+1) (by omega) (by omega) (by omega) (by omega) (by rw [List.length_set];exact hv)
theorem qLL {a:List Int} {b m s:Int} (h:CO a b m) (hm:m ≤ 50000000) (fuel:Nat) (hf:1048576 < fuel):∃ b' s' c l,qCb fuel (L1Cur.mk a b s)=some (L1Cur.mk a b' s',c,l)∧CO a b' (m+600)∧DC c∧PR l∧l.length ≤ 10:=by
 unfold qCb
 obtain ⟨b1,s1,c,e1,g1,hc⟩:=qKR (s:=s) h (by omega) fuel (by omega)
 rw [bnd e1]
 dsimp only
 obtain ⟨b2,s2,v2,e2,g2⟩:=qF0 (s:=s1) g1 (by omega) 2 (by omega)
 rw [bnd e2]
 dsimp only
 cases v2
 ·rw [cond_false]
  obtain ⟨b3,s3,v3,e3,g3,l3,u3⟩:=qAy (s:=s2) g2 (by omega) 9 (by omega)
  rw [bnd e3]
  dsimp only
  rw [qAG (by omega)]
  obtain ⟨b',s',l',q1,q2,q3,q4⟩:=qVD fuel hf (L1Cur.mk a b1 s1,c) hc (1+v3).toNat fuel a b3 (m+400+2+2) s3 [] (1+v3) (by omega) (by omega) (by omega) g3 (by omega) (fun _ hx=>absurd hx (by simp)) (by simp;omega)
  exact ⟨b',s',_,l',q1,q2.mono (by omega),hc,q3,by simp at q4;omega⟩
 ·rw [cond_true]
  obtain ⟨b',s',c',l',q1,q2,q3,q4,q5⟩:=qVa fuel hf (L1Cur.mk a b1 s1,c) hc a b2 (m+400+2) s2 true g2 (by omega) 5 fuel c.limits 0 rfl (by omega) (by omega) (by omega) hc.2.2
  exact ⟨b',s',c',l',q1,q2.mono (by omega),q3,q4,q5⟩
theorem qR8 (fuel:Nat) (hF:1048576 < fuel) (x1:L1Cur × Int):∀ (ys:List ByteArray) (k:Nat) (v:List Element) (w:List Item),qEz ys→v.length+ys.length ≤ 30→w.length+ys.length ≤ 30→ELs v→PR w →
  ∃ c l,qAS fuel x1 ys k v w=some (L1Cur.mk x1.1.code x1.1.at' x1.1.seed,c,l)∧DW c∧PR l∧l.length ≤ 30
 | [],k,v,w,hs,h1,h2,h3,h4=>by
  simp only [List.length_nil] at h1 h2
  obtain ⟨r,r1,r2,r3⟩:=qNr h4 (by omega) fuel (by omega)
  rw [qAS,bnd r1]
  exact ⟨_,r,rfl,⟨by dsimp only;omega,h3⟩,r3,by omega⟩
 | y::ys,k,v,w,hs,h1,h2,h3,h4=>by
  simp only [List.length_cons] at h1 h2
  have hy:=hs y (by simp)
  have hsn:qEz [y]:=fun z hz=>by rw [List.mem_singleton.1 hz];exact hy
  rw [qAS,show qCw (5 != 0)=some () from rfl,oB9,qAQ (by simp;omega),qAw,oB9]
  cases decide ((k:Int) < w64 (14+x1.2))
  ·rw [cond_false]
   exact qR8 fuel hF x1 ys (k+1) _ w (fun z hz=>hs z (by simp [hz])) (by simp;omega) (by omega) (qKi h3 hy) h4
  ·rw [cond_true,qAQ (by simp;omega),qAw,oB9]
   exact qR8 fuel hF x1 ys (k+1) _ _ (fun z hz=>hs z (by simp [hz])) (by simp;omega) (by simp;omega) (qKi h3 hy) (qP7 h4 fun it hi=>by rw [List.mem_singleton.1 hi];exact ⟨⟨by simp,by simp,hsn⟩,by simp,by simp⟩)
theorem qJN {v n:Int} (h0:0 ≤ v) (h:v < n ∨ v=0) (hn:0 < n):v < n:=by omega
theorem qD9 {α:Type} {l:List α} {k:Int} (h0:0 ≤ k) (h1:k < (l.length:Int)):∃ x,qAb l k=some x∧x ∈ l:=by
 have hlt:k.toNat < l.length:=by omega
 exact ⟨l[k.toNat],by rw [qDa (k:=k.toNat) (by omega)];exact List.getElem?_eq_getElem hlt,List.getElem_mem hlt⟩
theorem qRO {l:List Item} (h:qJK l) (k:Nat) {it:Item} (hi:itB it):qJK (l.set k it):=fun x hx=>by
 rcases List.mem_or_eq_of_mem_set hx with hx | rfl
 ·exact h x hx
 ·exact hi
theorem qR2 {l:List ByteArray} (h:qEz l) (k:Nat) {s:ByteArray} (hs:s.size ≤ 6):qEz (l.set k s):=fun x hx=>by
 rcases List.mem_or_eq_of_mem_set hx with hx | rfl
 ·exact h x hx
 ·exact hs
theorem qMc {a:List Int} {b m s:Int} (h:CO a b m) (hm:m ≤ 40000000) (fuel:Nat) (hf:1048576 < fuel):∃ b' s' c l,qCq fuel (L1Cur.mk a b s)=some (L1Cur.mk a b' s',c,l)∧CO a b' (m+2000)∧DW c∧qJK l∧l.length ≤ 30:=by
 unfold qCq
 obtain ⟨b1,s1,v1,e1,g1⟩:=qF0 (s:=s) h (by omega) 24 (by omega)
 rw [bnd e1]
 dsimp only
 cases v1
 ·rw [cond_false]
  obtain ⟨b2,s2,c,l,e2,g2,hc,hl,h10⟩:=qLL (s:=s1) g1 (by omega) fuel hf
  rw [bnd e2]
  dsimp only
  have hcw:=qSU hc
  cases h0:(l.length:Int) == 0
  ·have hpos:0 < (l.length:Int):=by
    have:¬ (l.length:Int)=0:=by intro e;rw [e] at h0;cases h0
    omega
   rw [Bool.not_false,qCX]
   obtain ⟨b3,s3,v3,e3,g3⟩:=qF0 (s:=s2) g2 (by omega) 12 (by omega)
   rw [bnd e3]
   dsimp only
   rw [Bool.false_or]
   cases v3
   ·rw [cond_false]
    obtain ⟨b4,s4,k,e4,g4,k0,k1⟩:=qAy (s:=s3) g3 (by omega) (l.length:Int) (by omega)
    rw [bnd e4]
    dsimp only
    obtain ⟨b5,s5,v5,e5,g5,_,_⟩:=qAy (s:=s4) g4 (by omega) 16 (by omega)
    rw [bnd e5]
    dsimp only
    obtain ⟨it,i1,i2⟩:=qD9 (l:=l) k0 (qJN k0 k1 hpos)
    obtain ⟨⟨j1,j2,j3⟩,j4,j5⟩:=hl it i2
    have hset:∀ (it':Item),itB it'→qJK (l.set k.toNat it')∧(l.set k.toNat it').length ≤ 30:=fun it' hi=>⟨qRO (qHg hl) _ hi,by rw [List.length_set];omega⟩
    cases v5 == 0
    ·rw [cond_false]
     cases v5 == 1
     ·rw [cond_false]
      cases v5 == 2
      ·rw [cond_false]
       cases v5 == 3
       ·rw [cond_false]
        cases v5 == 4
        ·rw [cond_false]
         cases v5 == 5
         ·exact ⟨_,_,_,_,rfl,g5.mono (by omega),hcw,qHg hl,by omega⟩
         ·obtain ⟨b6,s6,l6,e6,g6,k6,i6⟩:=qO9 (s:=s5) g5 (by omega) fuel hf
          rw [cond_true,bnd e6]
          exact ⟨_,_,_,_,rfl,g6.mono (by omega),hcw,i6,by dsimp only;omega⟩
        ·rw [cond_true,bnd (qMR (qHg hl) (by omega)),bnd (qEj _ _)]
         have hmin:min (l.length:Int) 5=((min l.length 5:Nat):Int):=by omega
         rw [hmin,bnd (qF9 (k:=min l.length 5) rfl (by omega)),qAQ (by rw [List.length_take];omega),qAw,oB9]
         obtain ⟨r,r1,r2,r3⟩:=qNr (l:=l++l.take (min l.length 5)) (qP7 hl fun it hi=>hl it (List.mem_of_mem_take hi)) (by rw [List.length_append,List.length_take];omega) fuel (by omega)
         rw [bnd r1]
         refine ⟨_,_,_,_,rfl,g5.mono (by omega),hcw,qHg r3,?_⟩
         rw [r2,List.length_append,List.length_take];omega
       ·obtain ⟨b6,s6,v6,e6,g6,p0,p1⟩:=qAy (s:=s5) g5 (by omega) 5 (by omega)
        obtain ⟨b7,s7,v7,e7,g7,_,_⟩:=qAy (s:=s6) g6 (by omega) 3 (by omega)
        obtain ⟨x,x1,_⟩:=qD9 (l:=c.limits) p0 (by rw [hc.2.2];exact qJN p0 p1 (by omega))
        rw [cond_true,bnd e6]
        dsimp only
        rw [bnd e7]
        dsimp only
        rw [bnd x1]
        exact ⟨_,_,_,_,rfl,g7.mono (by omega),hcw,qHg hl,by omega⟩
      ·obtain ⟨L,l1,l2,l3⟩:=qPq
       rw [cond_true,bnd i1,bnd l1,qAQ (by simp;omega),qAw,oB9]
       have hsm:qEz (L++[(⟨#[81,81]⟩:ByteArray),(⟨#[]⟩:ByteArray)]):=fun z hz=>by
        rcases List.mem_append.1 hz with hz | hz
        ·exact l3 z hz
        ·simp only [List.mem_cons,List.not_mem_nil,or_false] at hz
         rcases hz with rfl | rfl <;> decide
       obtain ⟨b6,s6,v6,e6,g6,i6⟩:=of_ok (s:=s5) g5 (by omega) (L++[(⟨#[81,81]⟩:ByteArray),(⟨#[]⟩:ByteArray)]) (by simp) (by simp;omega)
       rw [bnd e6]
       dsimp only
       obtain ⟨n0,n1,_⟩:=qD9 (l:=it.names) (k:=0) (by omega) (by omega)
       rw [bnd n1]
       obtain ⟨t1,t2⟩:=hset ⟨it.names.set (0:Int).toNat v6,it.marks,it.late⟩ ⟨by rw [List.length_set];exact j1,j2,qR2 j3 _ (hsm v6 i6)⟩
       exact ⟨_,_,_,_,rfl,g6.mono (by omega),hcw,t1,t2⟩
     ·rw [cond_true,bnd i1]
      obtain ⟨t1,t2⟩:=hset ⟨it.names,it.marks,!it.late⟩ ⟨j1,j2,j3⟩
      exact ⟨_,_,_,_,rfl,g5.mono (by omega),hcw,t1,t2⟩
    ·obtain ⟨b6,s6,v6,e6,g6,_,_⟩:=qAy (s:=s5) g5 (by omega) 4 (by omega)
     obtain ⟨n0,n1,_⟩:=qD9 (l:=it.marks) (k:=0) (by omega) (by omega)
     rw [cond_true,bnd i1,bnd e6]
     dsimp only
     rw [bnd n1]
     obtain ⟨t1,t2⟩:=hset ⟨it.names,it.marks.set (0:Int).toNat v6,it.late⟩ ⟨j1,by rw [List.length_set];exact j2,j3⟩
     exact ⟨_,_,_,_,rfl,g6.mono (by omega),hcw,t1,t2⟩
   ·rw [cond_true]
    obtain ⟨b4,s4,c4,e4,g4,h4⟩:=qNT (s:=s3) g3 (by omega) fuel (by omega)
    rw [bnd e4]
    exact ⟨_,_,_,_,rfl,g4.mono (by omega),h4,qHg hl,by omega⟩
  ·rw [Bool.not_true,qDU,oB9,Bool.true_or,cond_true]
   obtain ⟨b4,s4,c4,e4,g4,h4⟩:=qNT (s:=s2) g2 (by omega) fuel (by omega)
   rw [bnd e4]
   exact ⟨_,_,_,_,rfl,g4.mono (by omega),h4,qHg hl,by omega⟩
 ·rw [cond_true]
  unfold qDg
  obtain ⟨b2,s2,v2,e2,g2,_,_⟩:=qAy (s:=s1) g1 (by omega) 2 (by omega)
  obtain ⟨L,l1,l2,l3⟩:=qPq
  obtain ⟨c,l,q1,q2,q3,q4⟩:=qR8 fuel hf (L1Cur.mk a b2 s2,v2) L 0 [] [] l3 (by simp;omega) (by simp;omega) (fun _ hx=>absurd hx (by simp)) (fun _ hx=>absurd hx (by simp))
  rw [bnd e2,bnd l1,q1,oB9]
  exact ⟨_,_,_,_,rfl,g2.mono (by omega),q2,qHg q3,q4⟩
end
section
def qOb (J:Nat) (G:List (List Int)):Prop:=∀ g ∈ G,g.length=J
def MK (J n:Nat) (m:Marks):Prop:=m.grades.length=n∧m.components.length=3∧qOb J m.grades∧qOb J m.components
def MB (m:Marks):Prop:=(m.grades.length ≤ 40∧m.components.length ≤ 10)∧(∀ g ∈ m.grades,g.length ≤ 10)∧∀ g ∈ m.components,g.length ≤ 10
theorem qVK {J n:Nat} {m:Marks} (h:MK J n m) (hJ:J ≤ 9) (hn:n ≤ 40):MB m:=⟨⟨by rw [h.1];exact hn,by rw [h.2.1];omega⟩,fun g hg=>by rw [h.2.2.1 g hg];omega,fun g hg=>by rw [h.2.2.2 g hg];omega⟩
theorem qOf {J:Nat} {G:List (List Int)} {g:List Int} (h:qOb J G) (hg:g.length=J):qOb J (G++[g]):=fun x hx=>by
 rcases List.mem_append.1 hx with hx | hx
 ·exact h x hx
 ·rw [List.mem_singleton.1 hx];exact hg
theorem qVV (x1:L1Cur × Int) (J:Nat) (hx:x1.2=(J:Int)) (hJ:J ≤ 9) (x408:L1Cur × Int):∀ (n f:Nat) (a:List Int) (b m s:Int) (N:List Int),N.length+n=J→n < f→CO a b m→m+2 * (n:Int) ≤ 400000000 →
  ∃ b' s' N',qBa x1 x408 f a b s N=some (a,b',s',N')∧CO a b' (m+2 * (n:Int))∧N'.length=J:=by
 intro n
 induction n with
 | zero =>
  intro f a b m s N hn hf h hm
  obtain ⟨f,rfl⟩:=nZ9 (by omega:f ≠ 0)
  rw [qBa,decide_eq_false (by omega),cond_false]
  exact ⟨b,s,N,rfl,h.mono (by omega),by omega⟩
 | succ n ih =>
  intro f a b m s N hn hf h hm
  obtain ⟨f,rfl⟩:=nZ9 (by omega:f ≠ 0)
  obtain ⟨b1,s1,v1,e1,g1,_,_⟩:=qAy (s:=s) h (by omega) 4 (by omega)
  rw [qBa,decide_eq_true (by omega),cond_true,bnd e1]
  dsimp only
  rw [bnd (qEj _ _),bnd (qOD _ _),qAQ (by simp;omega),qAw,oB9]
  obtain ⟨b',s',N',q1,q2,q3⟩:=ih f a b1 (m+2) s1 (N++[_]) (by simp;omega) (by omega) g1 (by omega)
  exact ⟨b',s',N',q1,q2.mono (by omega),q3⟩
theorem qVf (fuel:Nat) (hF:1000 < fuel) (x1:L1Cur × Int) (J:Nat) (hx:x1.2=(J:Int)) (hJ:J ≤ 9) (items:Nat) (hi:items ≤ 40):∀ (n f:Nat) (a:List Int) (b m s:Int) (G:List (List Int)),G.length+n=items→n < f→G.length ≤ items→qOb J G→CO a b m→m+20 * (n:Int) ≤ 300000000 →
  ∃ b' s' G',qBc (items:Int) fuel x1 f a b s G=some (a,b',s',G')∧CO a b' (m+20 * (n:Int))∧G'.length=items∧qOb J G':=by
 intro n
 induction n with
 | zero =>
  intro f a b m s G hn hf hl hG h hm
  obtain ⟨f,rfl⟩:=nZ9 (by omega:f ≠ 0)
  rw [qBc,decide_eq_false (by omega),cond_false]
  exact ⟨b,s,G,rfl,h.mono (by omega),by omega,hG⟩
 | succ n ih =>
  intro f a b m s G hn hf hl hG h hm
  obtain ⟨f,rfl⟩:=nZ9 (by omega:f ≠ 0)
  obtain ⟨b1,s1,v1,e1,g1,_,_⟩:=qAy (s:=s) h (by omega) 7 (by omega)
  obtain ⟨b2,s2,N,e2,g2,n2⟩:=qVV x1 J hx hJ (L1Cur.mk a b1 s1,v1) J fuel a b1 (m+2) s1 [] (by simp) (by omega) g1 (by omega)
  rw [qBc,decide_eq_true (by omega),cond_true,bnd e1]
  dsimp only
  rw [e2,oB9]
  dsimp only
  rw [qAQ (by simp;omega),qAw,oB9]
  obtain ⟨b',s',G',q1,q2,q3,q4⟩:=ih f a b2 (m+2+2 * (J:Int)) s2 (G++[N]) (by simp;omega) (by omega) (by simp;omega) (qOf hG n2) g2 (by omega)
  exact ⟨b',s',G',q1,q2.mono (by omega),q3,q4⟩
theorem qVI (x1:L1Cur × Int) (J:Nat) (hx:x1.2=(J:Int)) (hJ:J ≤ 9) (x770:L1Cur × Int):∀ (n f:Nat) (a:List Int) (b m s:Int) (N:List Int),N.length+n=J→n < f→CO a b m→m+2 * (n:Int) ≤ 400000000 →
  ∃ b' s' N',qBd x1 x770 f a b s N=some (a,b',s',N')∧CO a b' (m+2 * (n:Int))∧N'.length=J:=by
 intro n
 induction n with
 | zero =>
  intro f a b m s N hn hf h hm
  obtain ⟨f,rfl⟩:=nZ9 (by omega:f ≠ 0)
  rw [qBd,decide_eq_false (by omega),cond_false]
  exact ⟨b,s,N,rfl,h.mono (by omega),by omega⟩
 | succ n ih =>
  intro f a b m s N hn hf h hm
  obtain ⟨f,rfl⟩:=nZ9 (by omega:f ≠ 0)
  obtain ⟨b1,s1,v1,e1,g1,_,_⟩:=qAy (s:=s) h (by omega) 4 (by omega)
  rw [qBd,decide_eq_true (by omega),cond_true,bnd e1]
  dsimp only
  rw [qAQ (by simp;omega),qAw,oB9]
  obtain ⟨b',s',N',q1,q2,q3⟩:=ih f a b1 (m+2) s1 (N++[_]) (by simp;omega) (by omega) g1 (by omega)
  exact ⟨b',s',N',q1,q2.mono (by omega),q3⟩
theorem qVM (fuel:Nat) (hF:1000 < fuel) (x1:L1Cur × Int) (J:Nat) (hx:x1.2=(J:Int)) (hJ:J ≤ 9) (items:Nat) (hi:items=3):∀ (n f:Nat) (a:List Int) (b m s:Int) (G:List (List Int)),G.length+n=items→n < f→G.length ≤ items→qOb J G→CO a b m→m+20 * (n:Int) ≤ 300000000 →
  ∃ b' s' G',qBY fuel x1 f a b s G=some (G',a,b',s')∧CO a b' (m+20 * (n:Int))∧G'.length=items∧qOb J G':=by
 intro n
 induction n with
 | zero =>
  intro f a b m s G hn hf hl hG h hm
  obtain ⟨f,rfl⟩:=nZ9 (by omega:f ≠ 0)
  rw [qBY,decide_eq_false (by omega),cond_false]
  exact ⟨b,s,G,rfl,h.mono (by omega),by omega,hG⟩
 | succ n ih =>
  intro f a b m s G hn hf hl hG h hm
  obtain ⟨f,rfl⟩:=nZ9 (by omega:f ≠ 0)
  obtain ⟨b1,s1,v1,e1,g1,_,_⟩:=qAy (s:=s) h (by omega) 37 (by omega)
  obtain ⟨b2,s2,N,e2,g2,n2⟩:=qVI x1 J hx hJ (L1Cur.mk a b1 s1,v1) J fuel a b1 (m+2) s1 [] (by simp) (by omega) g1 (by omega)
  rw [qBY,decide_eq_true (by omega),cond_true,bnd e1]
  dsimp only
  rw [e2,oB9]
  dsimp only
  rw [qAQ (by simp;omega),qAw,oB9]
  obtain ⟨b',s',G',q1,q2,q3,q4⟩:=ih f a b2 (m+2+2 * (J:Int)) s2 (G++[N]) (by simp;omega) (by omega) (by simp;omega) (qOf hG n2) g2 (by omega)
  exact ⟨b',s',G',q1,q2.mono (by omega),q3,q4⟩
theorem qOF {a:List Int} {b m s:Int} (h:CO a b m) (hm:m ≤ 50000000) (items:Nat) (hi:items ≤ 40) (fuel:Nat) (hf:1000 < fuel):∃ b' s' mm J,qBD fuel (L1Cur.mk a b s) (items:Int)=some (L1Cur.mk a b' s',mm)∧CO a b' (m+1000)∧(3 ≤ J∧J ≤ 9)∧MK J items mm:=by
 unfold qBD qFR
 obtain ⟨b1,s1,v1,e1,g1,i1⟩:=qBX (s:=s) h (by omega) [3,3,4,5,5,7,9] (by simp) (by simp)
 have h39:3 ≤ v1∧v1 ≤ 9:=by simp at i1;omega
 obtain ⟨J,hJ⟩:∃ J:Nat,v1=(J:Int):=⟨v1.toNat,by omega⟩
 subst hJ
 rw [bnd e1]
 dsimp only
 rw [oB9]
 dsimp only
 obtain ⟨b2,s2,G,e2,g2,q2,r2⟩:=qVf fuel hf (L1Cur.mk a b1 s1,(J:Int)) J rfl (by omega) items hi items fuel a b1 (m+2) s1 [] (by simp) (by omega) (by simp) (fun _ hx=>absurd hx (by simp)) g1 (by omega)
 obtain ⟨b3,s3,G3,e3,g3,q3,r3⟩:=qVM fuel hf (L1Cur.mk a b1 s1,(J:Int)) J rfl (by omega) 3 (by omega) 3 fuel a b2 _ s2 [] (by simp) (by omega) (by simp) (fun _ hx=>absurd hx (by simp)) g2 (by omega)
 rw [e2,oB9]
 dsimp only
 rw [e3,oB9]
 exact ⟨b3,s3,_,J,rfl,g3.mono (by omega),by omega,q2,q3,r2,r3⟩
theorem qMN {G:List (List Int)} (h:∀ g ∈ G,g.length ≤ 10) (k:Nat) {x:List Int} (hx:x.length ≤ 10):∀ g ∈ G.set k x,g.length ≤ 10:=fun g hg=>by
 rcases List.mem_or_eq_of_mem_set hg with hg | rfl
 ·exact h g hg
 ·exact hx
theorem qVE (x1:L1Cur × Marks) (x39:L1Cur × Int) (h10:2 ≤ x39.2∧x39.2 ≤ 10) (h3:x1.2.components.length=3):∀ (n f:Nat) (v:List (List Int)) (k:Int),(3 - k).toNat=n→n < f→0 ≤ k→k ≤ 3→v.length=3→(∀ g ∈ v,g.length ≤ 10) →
  ∃ mm,qA7 x1 x39 f v k=some (L1Cur.mk x39.1.code x39.1.at' x39.1.seed,mm)∧MB mm:=by
 intro n
 induction n with
 | zero =>
  intro f v k hn hf h0 hk hv hr
  obtain ⟨f,rfl⟩:=nZ9 (by omega:f ≠ 0)
  rw [qA7,decide_eq_false (by omega),cond_false]
  exact ⟨_,rfl,⟨by simp,by dsimp only;omega⟩,by simp,hr⟩
 | succ n ih =>
  intro f v k hn hf h0 hk hv hr
  obtain ⟨f,rfl⟩:=nZ9 (by omega:f ≠ 0)
  obtain ⟨x,x1',_⟩:=qD9 (l:=v) h0 (by omega)
  rw [qA7,decide_eq_true (by omega),cond_true,decide_eq_true (by omega:0 ≤ x39.2),qAQ (by omega),Bool.and_self,qAw,oB9,bnd x1',qAG (by omega)]
  exact ih f _ (k+1) (by omega) (by omega) (by omega) (by omega) (by rw [List.length_set];exact hv) (qMN hr _ (by rw [List.length_replicate];omega))
theorem qPf {a:List Int} {b m s:Int} (h:CO a b m) (hm:m ≤ 40000000) (items:Nat) (hi:items ≤ 30) (fuel:Nat) (hf:1000 < fuel):∃ b' s' mm,qBI fuel (L1Cur.mk a b s) (items:Int)=some (L1Cur.mk a b' s',mm)∧CO a b' (m+1100)∧MB mm:=by
 unfold qBI
 obtain ⟨b1,s1,⟨G,C⟩,J,e1,g1,hJ,k1,k2,k3,k4⟩:=qOF (s:=s) h (by omega) items (by omega) fuel hf
 rw [bnd e1]
 dsimp only at k1 k2 k3 k4 ⊢
 obtain ⟨r,r1,r2⟩:=qD9 (l:=C) (k:=0) (by omega) (by omega)
 have hr:=k4 r r2
 have hGl:∀ g ∈ G,g.length ≤ 10:=fun g hg=>by rw [k3 g hg];omega
 have hCl:∀ g ∈ C,g.length ≤ 10:=fun g hg=>by rw [k4 g hg];omega
 have hB:MB (Marks.mk G C):=⟨⟨by dsimp only;omega,by dsimp only;omega⟩,hGl,hCl⟩
 unfold qEg
 rw [bnd r1,oB9,hr]
 obtain ⟨b2,s2,j,e2,g2,j0,j1⟩:=qAy (s:=s1) g1 (by omega) (J:Int) (by omega)
 have jlt:j < (J:Int):=qJN j0 j1 (by omega)
 rw [bnd e2]
 dsimp only
 obtain ⟨b3,s3,v3,e3,g3,_,_⟩:=qAy (s:=s2) g2 (by omega) 30 (by omega)
 rw [bnd e3]
 dsimp only
 cases v3 == 0
 ·rw [cond_false]
  cases v3 == 1
  ·rw [cond_false]
   cases v3 == 2
   ·rw [cond_false]
    cases v3 == 3
    ·rw [cond_false]
     cases v3 == 4
     ·rw [cond_false]
      cases v3 == 5
      ·rw [cond_false]
       cases v3 == 6
       ·exact ⟨_,_,_,rfl,g3.mono (by omega),hB⟩
       ·exact ⟨_,_,_,rfl,g3.mono (by omega),⟨by simp,by simp⟩,by simp,by simp⟩
      ·obtain ⟨b4,s4,v4,e4,g4,i4⟩:=qBX (s:=s3) g3 (by omega) [2,9,10] (by simp) (by simp)
       have h4:2 ≤ v4∧v4 ≤ 10:=by simp at i4;omega
       rw [cond_true,bnd e4]
       obtain ⟨mm,q1,q2⟩:=qVE (L1Cur.mk a b1 s1,Marks.mk G C) (L1Cur.mk a b4 s4,v4) h4 k2 3 fuel C 0 rfl (by omega) (by omega) (by omega) k2 hCl
       exact ⟨_,_,mm,q1,g4.mono (by omega),q2⟩
     ·obtain ⟨x,x1,x2⟩:=qD9 (l:=C) (k:=1) (by omega) (by omega)
      have hx:=k4 x x2
      rw [cond_true,bnd x1,bnd (qNS (l:=x) (i:=1) (k:=1) rfl (by omega))]
      exact ⟨_,_,_,rfl,g3.mono (by omega),⟨by dsimp only;omega,by dsimp only;rw [List.length_set];omega⟩,hGl,qMN hCl _ (by rw [List.length_drop];omega)⟩
    ·rw [cond_true,bnd r1,qAQ (by simp;omega),qAw,oB9]
     refine ⟨_,_,_,rfl,g3.mono (by omega),⟨by dsimp only;omega,by dsimp only;rw [List.length_append];simp;omega⟩,hGl,fun g hg=>?_⟩
     rcases List.mem_append.1 hg with hg | hg
     ·exact hCl g hg
     ·rw [List.mem_singleton.1 hg];exact hCl r r2
   ·rw [cond_true]
    by_cases hp:(items:Int) > 0
    ·obtain ⟨b4,s4,k,e4,g4,p0,p1⟩:=qAy (s:=s3) g3 (by omega) (items:Int) (by omega)
     obtain ⟨x,x1,x2⟩:=qD9 (l:=G) p0 (by rw [k1];exact qJN p0 p1 hp)
     have hx:=k3 x x2
     rw [decide_eq_true hp,cond_true,bnd e4]
     dsimp only
     rw [bnd x1,qAQ (by simp;omega),qAw,oB9]
     exact ⟨_,_,_,rfl,g4.mono (by omega),⟨by dsimp only;rw [List.length_set];omega,by dsimp only;omega⟩,qMN hGl _ (by simp;omega),hCl⟩
    ·rw [decide_eq_false hp,cond_false]
     exact ⟨_,_,_,rfl,g3.mono (by omega),hB⟩
  ·obtain ⟨b4,s4,k,e4,g4,p0,p1⟩:=qAy (s:=s3) g3 (by omega) 3 (by omega)
   obtain ⟨x,x1,x2⟩:=qD9 (l:=C) p0 (by rw [k2];exact qJN p0 p1 (by omega))
   have hx:=k4 x x2
   obtain ⟨b5,s5,v5,e5,g5,_⟩:=qBX (s:=s4) g4 (by omega) [-25,0,10,1000,1025] (by simp) (by simp)
   obtain ⟨y,y1,_⟩:=qD9 (l:=x) j0 (by rw [hx];exact jlt)
   rw [cond_true,bnd e4]
   dsimp only
   rw [bnd x1,bnd e5]
   dsimp only
   rw [bnd y1]
   exact ⟨_,_,_,rfl,g5.mono (by omega),⟨by dsimp only;omega,by dsimp only;rw [List.length_set];omega⟩,hGl,qMN hCl _ (by rw [List.length_set];omega)⟩
 ·rw [cond_true]
  by_cases hp:(items:Int) > 0
  ·obtain ⟨b4,s4,k,e4,g4,p0,p1⟩:=qAy (s:=s3) g3 (by omega) (items:Int) (by omega)
   obtain ⟨x,x1,x2⟩:=qD9 (l:=G) p0 (by rw [k1];exact qJN p0 p1 hp)
   have hx:=k3 x x2
   obtain ⟨b5,s5,v5,e5,g5,_⟩:=qBX (s:=s4) g4 (by omega) [-6,-5,5,6] (by simp) (by simp)
   obtain ⟨y,y1,_⟩:=qD9 (l:=x) j0 (by rw [hx];exact jlt)
   rw [decide_eq_true hp,cond_true,bnd e4]
   dsimp only
   rw [bnd x1,bnd e5]
   dsimp only
   rw [bnd y1]
   exact ⟨_,_,_,rfl,g5.mono (by omega),⟨by dsimp only;rw [List.length_set];omega,by dsimp only;omega⟩,qMN hGl _ (by rw [List.length_set];omega),hCl⟩
  ·rw [decide_eq_false hp,cond_false]
   exact ⟨_,_,_,rfl,g3.mono (by omega),hB⟩
theorem qN1 {a:List Int} {b m s:Int} (h:CO a b m) (hm:m ≤ 500000000):∃ b' s' S,qC6 (L1Cur.mk a b s)=some (L1Cur.mk a b' s',S)∧CO a b' (m+6):=by
 unfold qC6
 obtain ⟨b1,s1,v1,e1,g1,_⟩:=qBX (s:=s) h (by omega) [0,0,1,2,3,5,9] (by simp) (by simp)
 obtain ⟨b2,s2,v2,e2,g2,_⟩:=qBX (s:=s1) g1 (by omega) [0,0,1,5,6,60] (by simp) (by simp)
 obtain ⟨b3,s3,v3,e3,g3,_⟩:=qBX (s:=s2) g2 (by omega) [0,0,50,100,500] (by simp) (by simp)
 rw [bnd e1]
 dsimp only
 rw [bnd e2]
 dsimp only
 rw [bnd e3]
 exact ⟨_,_,_,rfl,g3.mono (by omega)⟩
theorem qPI {a:List Int} {b m s:Int} (h:CO a b m) (hm:m ≤ 400000000):∃ b' s' S,qDn (L1Cur.mk a b s)=some (L1Cur.mk a b' s',S)∧CO a b' (m+10):=by
 unfold qDn
 obtain ⟨b1,s1,S,e1,g1⟩:=qN1 (s:=s) h (by omega)
 obtain ⟨b2,s2,v2,e2,g2,_,_⟩:=qAy (s:=s1) g1 (by omega) 24 (by omega)
 rw [bnd e1]
 dsimp only
 rw [bnd e2]
 dsimp only
 cases v2 == 0
 ·rw [cond_false]
  cases v2 == 1
  ·rw [cond_false]
   cases v2 == 2
   ·exact ⟨_,_,_,rfl,g2.mono (by omega)⟩
   ·obtain ⟨b3,s3,v3,e3,g3,_⟩:=qBX (s:=s2) g2 (by omega) [-1,500,501] (by simp) (by simp)
    rw [cond_true,bnd e3]
    exact ⟨_,_,_,rfl,g3.mono (by omega)⟩
  ·obtain ⟨b3,s3,v3,e3,g3,_⟩:=qBX (s:=s2) g2 (by omega) [-1,60,61] (by simp) (by simp)
   rw [cond_true,bnd e3]
   exact ⟨_,_,_,rfl,g3.mono (by omega)⟩
 ·obtain ⟨b3,s3,v3,e3,g3,_⟩:=qBX (s:=s2) g2 (by omega) [-1,9,10] (by simp) (by simp)
  rw [cond_true,bnd e3]
  exact ⟨_,_,_,rfl,g3.mono (by omega)⟩
end
section
theorem qQu {l:List Item} (h:qJK l) {i:Int} {it:Item} (h0:0 ≤ i) (hg:qAb l i=some it) (k:Nat) (v:Int):qJK (l.set i.toNat ⟨it.names,it.marks.set k v,it.late⟩)∧qAb (l.set i.toNat ⟨it.names,it.marks.set k v,it.late⟩) i=some ⟨it.names,it.marks.set k v,it.late⟩:=by
 have hg2:l[i.toNat]?=some it:=by rw [qDa (k:=i.toNat) (by omega)] at hg;exact hg
 have hlt:=(List.getElem?_eq_some_iff.1 hg2).1
 obtain ⟨j1,j2,j3⟩:=h it (List.mem_of_getElem? hg2)
 refine ⟨qRO h _ ⟨j1,by rw [List.length_set];exact j2,j3⟩,?_⟩
 rw [qDa (k:=i.toNat) (by omega)]
 simp [List.getElem?_set,hlt]
theorem qVX (v177:Int) (h177:0 ≤ v177) (x222:Item) (hx:x222.marks.length ≤ 4):∀ (n f:Nat) (a:List Int) (b m s:Int) (l:List Item) (k:Int),((x222.marks.length:Int) - k).toNat=n→n < f→0 ≤ k→k ≤ (x222.marks.length:Int)→qJK l→(∃ it,qAb l v177=some it∧it.marks.length=x222.marks.length)→CO a b m→m+4 * (n:Int) ≤ 200000000 →
  ∃ b' s' l',qAe v177 x222 f a b s l k=some (a,b',s',l')∧CO a b' (m+4 * (n:Int))∧qJK l'∧l'.length=l.length:=by
 intro n
 induction n with
 | zero =>
  intro f a b m s l k hn hf h0 hk hl hit h hm
  obtain ⟨f,rfl⟩:=nZ9 (by omega:f ≠ 0)
  rw [qAe,decide_eq_false (by omega),cond_false]
  exact ⟨b,s,l,rfl,h.mono (by omega),hl,rfl⟩
 | succ n ih =>
  intro f a b m s l k hn hf h0 hk hl hit h hm
  obtain ⟨f,rfl⟩:=nZ9 (by omega:f ≠ 0)
  obtain ⟨it,i1,i2⟩:=hit
  obtain ⟨b1,s1,v1,e1,g1⟩:=qF0 (s:=s) h (by omega) 5 (by omega)
  rw [qAe,decide_eq_true (by omega),cond_true,bnd e1]
  dsimp only
  rw [qAG (n:=k+1) (by omega)]
  cases v1
  ·rw [cond_false]
   obtain ⟨b',s',l',q1,q2,q3,q4⟩:=ih f a b1 (m+2) s1 l (k+1) (by omega) (by omega) (by omega) (by omega) hl ⟨it,i1,i2⟩ g1 (by omega)
   exact ⟨b',s',l',q1,q2.mono (by omega),q3,q4⟩
  ·obtain ⟨b2,s2,v2,e2,g2,_,_⟩:=qAy (s:=s1) g1 (by omega) 4 (by omega)
   obtain ⟨x,x1,_⟩:=qD9 (l:=it.marks) h0 (by omega)
   rw [cond_true,bnd i1,bnd e2]
   dsimp only
   rw [bnd x1]
   obtain ⟨t1,t2⟩:=qQu hl h177 i1 k.toNat v2
   obtain ⟨b',s',l',q1,q2,q3,q4⟩:=ih f a b2 (m+2+2) s2 _ (k+1) (by omega) (by omega) (by omega) (by omega) t1 ⟨_,t2,by dsimp only;rw [List.length_set];exact i2⟩ g2 (by omega)
   exact ⟨b',s',l',q1,q2.mono (by omega),q3,by rw [q4,List.length_set]⟩
theorem qVF (v177:Int) (h177:0 ≤ v177) (x222:Item) (hx:x222.marks.length ≤ 4):∀ (n f:Nat) (a:List Int) (b m s:Int) (l:List Item) (k:Int),((x222.marks.length:Int) - k).toNat=n→n < f→0 ≤ k→k ≤ (x222.marks.length:Int)→qJK l→(∃ it,qAb l v177=some it∧it.marks.length=x222.marks.length)→CO a b m→m+4 * (n:Int) ≤ 200000000 →
  ∃ b' s' l',qAg v177 x222 f a b s l k=some (a,b',s',l')∧CO a b' (m+4 * (n:Int))∧qJK l'∧l'.length=l.length:=by
 intro n
 induction n with
 | zero =>
  intro f a b m s l k hn hf h0 hk hl hit h hm
  obtain ⟨f,rfl⟩:=nZ9 (by omega:f ≠ 0)
  rw [qAg,decide_eq_false (by omega),cond_false]
  exact ⟨b,s,l,rfl,h.mono (by omega),hl,rfl⟩
 | succ n ih =>
  intro f a b m s l k hn hf h0 hk hl hit h hm
  obtain ⟨f,rfl⟩:=nZ9 (by omega:f ≠ 0)
  obtain ⟨it,i1,i2⟩:=hit
  obtain ⟨b1,s1,v1,e1,g1⟩:=qF0 (s:=s) h (by omega) 5 (by omega)
  rw [qAg,decide_eq_true (by omega),cond_true,bnd e1]
  dsimp only
  rw [qAG (n:=k+1) (by omega)]
  cases v1
  ·rw [cond_false]
   obtain ⟨b',s',l',q1,q2,q3,q4⟩:=ih f a b1 (m+2) s1 l (k+1) (by omega) (by omega) (by omega) (by omega) hl ⟨it,i1,i2⟩ g1 (by omega)
   exact ⟨b',s',l',q1,q2.mono (by omega),q3,q4⟩
  ·obtain ⟨b2,s2,v2,e2,g2,_,_⟩:=qAy (s:=s1) g1 (by omega) 4 (by omega)
   obtain ⟨x,x1,_⟩:=qD9 (l:=it.marks) h0 (by omega)
   rw [cond_true,bnd i1,bnd e2]
   dsimp only
   rw [bnd x1]
   obtain ⟨t1,t2⟩:=qQu hl h177 i1 k.toNat v2
   obtain ⟨b',s',l',q1,q2,q3,q4⟩:=ih f a b2 (m+2+2) s2 _ (k+1) (by omega) (by omega) (by omega) (by omega) t1 ⟨_,t2,by dsimp only;rw [List.length_set];exact i2⟩ g2 (by omega)
   exact ⟨b',s',l',q1,q2.mono (by omega),q3,by rw [q4,List.length_set]⟩
def jlT (fuel:Nat) (c:Code) (l:List Item) (C:L1Cur) (k:Int):Option (L1Cur × Code × (List Item) × Marks) :=
 (qBD fuel C k).bind fun x272 =>
 (qAH (L1Cur.mk x272.1.code x272.1.at' x272.1.seed) 10).bind fun x274 =>
 cond x274.2
  ((qAA (L1Cur.mk x274.1.code x274.1.at' x274.1.seed) 6).bind fun x276 =>
  (qBI fuel (L1Cur.mk x276.1.code x276.1.at' x276.1.seed) x276.2).bind fun x278 =>
  (qCD l k).bind fun x280 =>
  some ((L1Cur.mk x278.1.code x278.1.at' x278.1.seed),(Code.mk c.elements c.limits c.repeats c.bonus c.keeps c.fall),x280,(Marks.mk x278.2.grades x278.2.components)))
  ((qCD l k).bind fun x282 =>
  some ((L1Cur.mk x274.1.code x274.1.at' x274.1.seed),(Code.mk c.elements c.limits c.repeats c.bonus c.keeps c.fall),x282,(Marks.mk x272.2.grades x272.2.components)))
theorem qNd (fuel:Nat) (hf:1048576 < fuel) (c:Code) {l:List Item} (hl:qJK l) {a:List Int} {b m s:Int} (h:CO a b m) (hm:m ≤ 30000000):∃ b' s' l' mm,jlT fuel c l (L1Cur.mk a b s) (min (l.length:Int) 15)=some (L1Cur.mk a b' s',c,l',mm)∧CO a b' (m+3000)∧qJK l'∧l'.length ≤ 15∧MB mm:=by
 have hmin:min (l.length:Int) 15=((min l.length 15:Nat):Int):=by omega
 have hB:qJK (l.take (min l.length 15)):=fun it hi=>hl it (List.mem_of_mem_take hi)
 have hL:(l.take (min l.length 15)).length ≤ 15:=by rw [List.length_take];omega
 unfold jlT
 rw [hmin]
 obtain ⟨b1,s1,mm,J,e1,g1,hJ,k1⟩:=qOF (s:=s) h (by omega) (min l.length 15) (by omega) fuel (by omega)
 rw [bnd e1]
 dsimp only
 obtain ⟨b2,s2,v2,e2,g2⟩:=qF0 (s:=s1) g1 (by omega) 10 (by omega)
 rw [bnd e2]
 dsimp only
 have hs:qCD l ((min l.length 15:Nat):Int)=some (l.take (min l.length 15)):=qF9 rfl (by omega)
 cases v2
 ·rw [cond_false,bnd hs]
  exact ⟨_,_,_,_,rfl,g2.mono (by omega),hB,hL,qVK k1 (by omega) (by omega)⟩
 ·rw [cond_true]
  obtain ⟨b3,s3,v3,e3,g3,l3,u3⟩:=qAy (s:=s2) g2 (by omega) 6 (by omega)
  obtain ⟨n,rfl⟩:∃ n:Nat,v3=(n:Int):=⟨v3.toNat,by omega⟩
  rw [bnd e3]
  dsimp only
  obtain ⟨b4,s4,m4,e4,g4,h4⟩:=qPf (s:=s3) g3 (by omega) n (by omega) fuel (by omega)
  rw [bnd e4,bnd hs]
  exact ⟨_,_,_,_,rfl,g4.mono (by omega),hB,hL,h4⟩
theorem qVg (fuel:Nat) (hF:1048576 < fuel) (x5:L1Cur × Code × List Item) (h30:x5.2.2.length ≤ 30):∀ (n f:Nat) (a:List Int) (b m s:Int) (l:List Item) (k:Int),((x5.2.2.length:Int) - k).toNat=n→n < f→0 ≤ k→k ≤ (x5.2.2.length:Int)→l.length=x5.2.2.length→qJK l→CO a b m→m+20 * (n:Int) ≤ 25000000 →
  ∃ b' s' l' mm,qAs fuel x5 f a b s l k=some (L1Cur.mk a b' s',x5.2.1,l',mm)∧CO a b' (m+20 * (n:Int)+3100)∧qJK l'∧l'.length ≤ 15∧MB mm:=by
 intro n
 induction n with
 | zero =>
  intro f a b m s l k hn hf h0 hk hv hl h hm
  obtain ⟨f,rfl⟩:=nZ9 (by omega:f ≠ 0)
  rw [qAs,decide_eq_false (by omega),cond_false]
  by_cases hd:(l.length:Int) > 1
  ·rw [decide_eq_true hd,qCX]
   obtain ⟨b1,s1,v1,e1,g1⟩:=qF0 (s:=s) h (by omega) 3 (by omega)
   rw [bnd e1]
   dsimp only
   cases v1
   ·rw [Bool.and_false,cond_false,bnd (qEj _ _)]
    obtain ⟨b',s',l',mm,q1,q2,q3,q4,q5⟩:=qNd fuel hF x5.2.1 hl (s:=s1) g1 (by omega)
    exact ⟨b',s',l',mm,q1,q2.mono (by omega),q3,q4,q5⟩
   ·have hmin:min (l.length:Int) 4=((min l.length 4:Nat):Int):=by omega
    rw [Bool.and_true,cond_true,bnd (qMR hl (by omega)),bnd (qEj _ _),hmin,bnd (qF9 (k:=min l.length 4) rfl (by omega)),qAQ (by rw [List.length_take];omega),qAw,oB9,bnd (qEj _ _)]
    have hl2:qJK (l++l.take (min l.length 4)):=fun it hi=>(List.mem_append.1 hi).elim (hl it) fun hi=>hl it (List.mem_of_mem_take hi)
    obtain ⟨b',s',l',mm,q1,q2,q3,q4,q5⟩:=qNd fuel hF x5.2.1 hl2 (s:=s1) g1 (by omega)
    exact ⟨b',s',l',mm,q1,q2.mono (by omega),q3,q4,q5⟩
  ·rw [decide_eq_false hd,qDU,oB9,Bool.false_and,cond_false,bnd (qEj _ _)]
   obtain ⟨b',s',l',mm,q1,q2,q3,q4,q5⟩:=qNd fuel hF x5.2.1 hl (s:=s) h (by omega)
   exact ⟨b',s',l',mm,q1,q2.mono (by omega),q3,q4,q5⟩
 | succ n ih =>
  intro f a b m s l k hn hf h0 hk hv hl h hm
  obtain ⟨f,rfl⟩:=nZ9 (by omega:f ≠ 0)
  obtain ⟨it,i1,i2⟩:=qD9 (l:=l) h0 (by omega)
  have hit:=hl it i2
  have hlt:k.toNat < l.length:=by omega
  have hs:l.set k.toNat it=l:=by
   have hg2:l[k.toNat]?=some it:=by rw [qDa (k:=k.toNat) (by omega)] at i1;exact i1
   obtain ⟨_,e⟩:=List.getElem?_eq_some_iff.1 hg2
   rw [← e,List.set_getElem_self]
  rw [qAs,decide_eq_true (by omega),cond_true,i1,oB9,hs,qAG (by omega)]
  obtain ⟨b1,s1,l1,e1,g1,t1,t2⟩:=qVX k h0 it hit.2.1 it.marks.length fuel a b m s l 0 (by omega) (by have:=hit.2.1;omega) (by omega) (by omega) hl ⟨it,i1,rfl⟩ h (by have:=hit.2.1;omega)
  have h4:=hit.2.1
  rw [e1,oB9]
  dsimp only
  obtain ⟨b',s',l',mm,q1,q2,q3,q4,q5⟩:=ih f a b1 (m+4 * (it.marks.length:Int)) s1 l1 (k+1) (by omega) (by omega) (by omega) (by omega) (by omega) t1 g1 (by omega)
  exact ⟨b',s',l',mm,q1,q2.mono (by omega),q3,q4,q5⟩
theorem qVW (fuel:Nat) (hF:1048576 < fuel) (x5:L1Cur × Code × List Item) (h30:x5.2.2.length ≤ 30):∀ (n f:Nat) (a:List Int) (b m s:Int) (l:List Item) (k:Int),((x5.2.2.length:Int) - k).toNat=n→n < f→0 ≤ k→k ≤ (x5.2.2.length:Int)→l.length=x5.2.2.length→qJK l→CO a b m→m+20 * (n:Int) ≤ 25000000 →
  ∃ b' s' l' mm,qAv fuel x5 f a b s l k=some (L1Cur.mk a b' s',x5.2.1,l',mm)∧CO a b' (m+20 * (n:Int)+3100)∧qJK l'∧l'.length ≤ 15∧MB mm:=by
 intro n
 induction n with
 | zero =>
  intro f a b m s l k hn hf h0 hk hv hl h hm
  obtain ⟨f,rfl⟩:=nZ9 (by omega:f ≠ 0)
  rw [qAv,decide_eq_false (by omega),cond_false]
  by_cases hd:(l.length:Int) > 1
  ·rw [decide_eq_true hd,qCX]
   obtain ⟨b1,s1,v1,e1,g1⟩:=qF0 (s:=s) h (by omega) 3 (by omega)
   rw [bnd e1]
   dsimp only
   cases v1
   ·rw [Bool.and_false,cond_false,bnd (qEj _ _)]
    obtain ⟨b',s',l',mm,q1,q2,q3,q4,q5⟩:=qNd fuel hF x5.2.1 hl (s:=s1) g1 (by omega)
    exact ⟨b',s',l',mm,q1,q2.mono (by omega),q3,q4,q5⟩
   ·have hmin:min (l.length:Int) 4=((min l.length 4:Nat):Int):=by omega
    rw [Bool.and_true,cond_true,bnd (qMR hl (by omega)),bnd (qEj _ _),hmin,bnd (qF9 (k:=min l.length 4) rfl (by omega)),qAQ (by rw [List.length_take];omega),qAw,oB9,bnd (qEj _ _)]
    have hl2:qJK (l++l.take (min l.length 4)):=fun it hi=>(List.mem_append.1 hi).elim (hl it) fun hi=>hl it (List.mem_of_mem_take hi)
    obtain ⟨b',s',l',mm,q1,q2,q3,q4,q5⟩:=qNd fuel hF x5.2.1 hl2 (s:=s1) g1 (by omega)
    exact ⟨b',s',l',mm,q1,q2.mono (by omega),q3,q4,q5⟩
  ·rw [decide_eq_false hd,qDU,oB9,Bool.false_and,cond_false,bnd (qEj _ _)]
   obtain ⟨b',s',l',mm,q1,q2,q3,q4,q5⟩:=qNd fuel hF x5.2.1 hl (s:=s) h (by omega)
   exact ⟨b',s',l',mm,q1,q2.mono (by omega),q3,q4,q5⟩
 | succ n ih =>
  intro f a b m s l k hn hf h0 hk hv hl h hm
  obtain ⟨f,rfl⟩:=nZ9 (by omega:f ≠ 0)
  obtain ⟨it,i1,i2⟩:=qD9 (l:=l) h0 (by omega)
  have hit:=hl it i2
  have hlt:k.toNat < l.length:=by omega
  have hs:l.set k.toNat it=l:=by
   have hg2:l[k.toNat]?=some it:=by rw [qDa (k:=k.toNat) (by omega)] at i1;exact i1
   obtain ⟨_,e⟩:=List.getElem?_eq_some_iff.1 hg2
   rw [← e,List.set_getElem_self]
  rw [qAv,decide_eq_true (by omega),cond_true,i1,oB9,hs,qAG (by omega)]
  obtain ⟨b1,s1,l1,e1,g1,t1,t2⟩:=qVF k h0 it hit.2.1 it.marks.length fuel a b m s l 0 (by omega) (by have:=hit.2.1;omega) (by omega) (by omega) hl ⟨it,i1,rfl⟩ h (by have:=hit.2.1;omega)
  have h4:=hit.2.1
  rw [e1,oB9]
  dsimp only
  obtain ⟨b',s',l',mm,q1,q2,q3,q4,q5⟩:=ih f a b1 (m+4 * (it.marks.length:Int)) s1 l1 (k+1) (by omega) (by omega) (by omega) (by omega) (by omega) t1 g1 (by omega)
  exact ⟨b',s',l',mm,q1,q2.mono (by omega),q3,q4,q5⟩
theorem qN0 {a:List Int} {b m s:Int} (h:CO a b m) (hm:m ≤ 20000000) (fuel:Nat) (hf:1048576 < fuel):∃ b' s' c l mm,qDK fuel (L1Cur.mk a b s)=some (L1Cur.mk a b' s',c,l,mm)∧CO a b' (m+10000)∧DW c∧qJK l∧l.length ≤ 15∧MB mm:=by
 unfold qDK
 obtain ⟨b1,s1,c,l,e1,g1,hc,hl,h10⟩:=qLL (s:=s) h (by omega) fuel hf
 rw [bnd e1]
 dsimp only
 obtain ⟨b2,s2,v2,e2,g2⟩:=qF0 (s:=s1) g1 (by omega) 12 (by omega)
 rw [bnd e2]
 dsimp only
 cases v2
 ·rw [cond_false]
  obtain ⟨b',s',l',mm,q1,q2,q3,q4,q5⟩:=qVW fuel hf (L1Cur.mk a b1 s1,c,l) (by dsimp only;omega) l.length fuel a b2 (m+600+2) s2 l 0 (by simp) (by omega) (by omega) (by dsimp only;omega) rfl (qHg hl) g2 (by omega)
  exact ⟨b',s',c,l',mm,q1,q2.mono (by omega),qSU hc,q3,q4,q5⟩
 ·rw [cond_true]
  obtain ⟨b3,s3,c3,l3,e3,g3,hc3,hl3,h30⟩:=qMc (s:=s2) g2 (by omega) fuel hf
  rw [bnd e3]
  dsimp only
  obtain ⟨b',s',l',mm,q1,q2,q3,q4,q5⟩:=qVg fuel hf (L1Cur.mk a b3 s3,c3,l3) (by dsimp only;omega) l3.length fuel a b3 (m+600+2+2000) s3 l3 0 (by simp) (by omega) (by omega) (by dsimp only;omega) rfl hl3 g3 (by omega)
  exact ⟨b',s',c3,l',mm,q1,q2.mono (by omega),hc3,q3,q4,q5⟩
theorem qMu {a:List Int} {b m s:Int} (h:CO a b m) (hm:m ≤ 20000000) (fuel:Nat) (hf:1048576 < fuel):∃ b' s' c p,qC7 fuel (L1Cur.mk a b s)=some (L1Cur.mk a b' s',c,p)∧CO a b' (m+10100)∧DW c∧qJK p.items∧p.items.length ≤ 15∧MB p.marks:=by
 unfold qC7
 obtain ⟨b1,s1,c,l,mm,e1,g1,hc,hl,h15,hB⟩:=qN0 (s:=s) h hm fuel hf
 obtain ⟨b2,s2,S,e2,g2⟩:=qN1 (s:=s1) g1 (by omega)
 obtain ⟨b3,s3,v3,e3,g3⟩:=qF0 (s:=s2) g2 (by omega) 16 (by omega)
 rw [bnd e1]
 dsimp only
 rw [bnd e2]
 dsimp only
 rw [bnd e3]
 dsimp only
 cases v3
 ·exact ⟨_,_,_,_,rfl,g3.mono (by omega),hc,hl,h15,hB⟩
 ·obtain ⟨b4,s4,S4,e4,g4⟩:=qPI (s:=s3) g3 (by omega)
  rw [cond_true,bnd e4]
  exact ⟨_,_,_,_,rfl,g4.mono (by omega),hc,hl,h15,hB⟩
theorem qPj (w:List (List Int)):∀ (ys:List (List Int)) (k:Nat) (v:List (List Int)),(∀ g ∈ ys,g.length ≤ 10)→v.length+ys.length ≤ 1000→qCu w ys k v=some (Marks.mk w (v++ys))
 | [],k,v,_,_=>by rw [qCu];simp
 | y::ys,k,v,h,hl=>by
  have hy:=h y (by simp)
  simp only [List.length_cons] at hl
  rw [qCu]
  unfold qEh
  rw [qAQ (n:=y.length) (by omega),qAw,oB9,oB9,qAQ (by simp;omega),qAw,oB9,qPj w ys (k+1) _ (fun g hg=>h g (by simp [hg])) (by simp;omega)]
  simp
theorem qQD (m:Marks):∀ (ys:List (List Int)) (k:Nat) (v:List (List Int)),(∀ g ∈ ys,g.length ≤ 10)→v.length+ys.length ≤ 1000→qDL m ys k v=qCu (v++ys) m.components 0 []
 | [],k,v,_,_=>by rw [qDL];simp
 | y::ys,k,v,h,hl=>by
  have hy:=h y (by simp)
  simp only [List.length_cons] at hl
  rw [qDL]
  unfold qEh
  rw [qAQ (n:=y.length) (by omega),qAw,oB9,oB9,qAQ (by simp;omega),qAw,oB9,qQD m ys (k+1) _ (fun g hg=>h g (by simp [hg])) (by simp;omega)]
  simp
theorem qTx {p:Performance} (hl:qJK p.items) (h15:p.items.length ≤ 15) (hB:MB p.marks):qFl p p.items=some p:=by
 unfold qFl qJJ
 have h1:=hB.1
 rw [bnd (qMR hl (by omega)),qQD p.marks p.marks.grades 0 [] hB.2.1 (by simp;omega),qPj _ p.marks.components 0 [] hB.2.2 (by simp;omega),oB9]
 rfl
theorem qVh (fuel:Nat) (hF:1048576 < fuel) (x1:L1Cur × Code × Performance) (x3:Performance) (h15:x3.items.length ≤ 15) (v38:List (List Int)) (hc:x3.marks.components.length=3):∀ (n f:Nat) (a:List Int) (b m s:Int) (w v:List (List Int)) (k:Int),(3 - k).toNat=n→n < f→0 ≤ k→k ≤ 3→v.length=3→(∀ g ∈ v,1 ≤ g.length∧g.length ≤ 10)→CO a b m→m+4 * (n:Int) ≤ 30000000 →
  ∃ b' s' p,qBu fuel x1 x3 v38 f a b s w v k=some (L1Cur.mk a b' s',x1.2.1,x1.2.2,p)∧CO a b' (m+4 * (n:Int)+2000)∧p.items=x3.items:=by
 intro n
 induction n with
 | zero =>
  intro f a b m s w v k hn hf h0 hk hv hr h hm
  obtain ⟨f,rfl⟩:=nZ9 (by omega:f ≠ 0)
  obtain ⟨b1,s1,v1,e1,g1,_,_⟩:=qAy (s:=s) h (by omega) 8 (by omega)
  rw [qBu,decide_eq_false (by omega),cond_false,bnd e1]
  dsimp only
  cases v1 == 0
  ·rw [cond_false]
   cases v1 == 1
   ·exact ⟨_,_,_,rfl,g1.mono (by omega),rfl⟩
   ·rw [cond_true]
    obtain ⟨b2,s2,mm,J,e2,g2,_,_⟩:=qOF (s:=s1) g1 (by omega) x3.items.length (by omega) fuel (by omega)
    rw [bnd e2]
    exact ⟨_,_,_,rfl,g2.mono (by omega),rfl⟩
  ·rw [cond_true]
   obtain ⟨b2,s2,S,e2,g2⟩:=qN1 (s:=s1) g1 (by omega)
   rw [bnd e2]
   exact ⟨_,_,_,rfl,g2.mono (by omega),rfl⟩
 | succ n ih =>
  intro f a b m s w v k hn hf h0 hk hv hr h hm
  obtain ⟨f,rfl⟩:=nZ9 (by omega:f ≠ 0)
  obtain ⟨r,r1,r2⟩:=qD9 (l:=v) h0 (by omega)
  have hrl:=hr r r2
  obtain ⟨b1,s1,j,e1,g1,j0,j1⟩:=qAy (s:=s) h (by omega) (r.length:Int) (by omega)
  obtain ⟨x,x1',_⟩:=qD9 (l:=r) j0 (qJN j0 j1 (by omega))
  obtain ⟨b2,s2,v2,e2,g2,_,_⟩:=qAy (s:=s1) g1 (by omega) 3 (by omega)
  rw [qBu,decide_eq_true (by omega),cond_true,bnd r1,bnd e1]
  dsimp only
  rw [bnd x1',bnd e2]
  dsimp only
  rw [bnd (qOD _ _),qAG (n:=k+1) (by omega)]
  obtain ⟨b',s',p,q1,q2,q3⟩:=ih f a b2 (m+2+2) s2 (v.set k.toNat (r.set j.toNat (max 0 (w64 (x - w64 (25 * v2)))))) (v.set k.toNat (r.set j.toNat (max 0 (w64 (x - w64 (25 * v2)))))) (k+1) (by omega) (by omega) (by omega) (by omega) (by rw [List.length_set];exact hv) (fun g hg=>by
   rcases List.mem_or_eq_of_mem_set hg with hg | rfl
   ·exact hr g hg
   ·rw [List.length_set];exact hrl) g2 (by omega)
  exact ⟨b',s',p,q1,q2.mono (by omega),q3⟩
theorem qVT (fuel:Nat) (hF:1048576 < fuel) (x1:L1Cur × Code × Performance) (x3:Performance) (h15:x3.items.length ≤ 15) (hc:x3.marks.components.length=3) (hcr:∀ g ∈ x3.marks.components,1 ≤ g.length∧g.length ≤ 10) (hgl:x3.marks.grades.length ≤ 40):∀ (n f:Nat) (a:List Int) (b m s:Int) (w v:List (List Int)) (k:Int),((x3.marks.grades.length:Int) - k).toNat=n→n < f→0 ≤ k→k ≤ (x3.marks.grades.length:Int)→v.length=x3.marks.grades.length→(∀ g ∈ v,1 ≤ g.length∧g.length ≤ 10)→CO a b m→m+4 * (n:Int) ≤ 20000000 →
  ∃ b' s' p,qBt fuel x1 x3 f a b s w v k=some (L1Cur.mk a b' s',x1.2.1,x1.2.2,p)∧CO a b' (m+4 * (n:Int)+2100)∧p.items=x3.items:=by
 intro n
 induction n with
 | zero =>
  intro f a b m s w v k hn hf h0 hk hv hr h hm
  obtain ⟨f,rfl⟩:=nZ9 (by omega:f ≠ 0)
  rw [qBt,decide_eq_false (by omega),cond_false]
  obtain ⟨b',s',p,q1,q2,q3⟩:=qVh fuel hF x1 x3 h15 v hc 3 fuel a b m s x3.marks.components x3.marks.components 0 rfl (by omega) (by omega) (by omega) hc hcr h (by omega)
  exact ⟨b',s',p,q1,q2.mono (by omega),q3⟩
 | succ n ih =>
  intro f a b m s w v k hn hf h0 hk hv hr h hm
  obtain ⟨f,rfl⟩:=nZ9 (by omega:f ≠ 0)
  obtain ⟨r,r1,r2⟩:=qD9 (l:=v) h0 (by omega)
  have hrl:=hr r r2
  obtain ⟨b1,s1,j,e1,g1,j0,j1⟩:=qAy (s:=s) h (by omega) (r.length:Int) (by omega)
  obtain ⟨x,x1',_⟩:=qD9 (l:=r) j0 (qJN j0 j1 (by omega))
  obtain ⟨b2,s2,v2,e2,g2,_,_⟩:=qAy (s:=s1) g1 (by omega) 3 (by omega)
  rw [qBt,decide_eq_true (by omega),cond_true,bnd r1,bnd e1]
  dsimp only
  rw [bnd x1',bnd e2]
  dsimp only
  rw [bnd (qEj _ _),qAG (n:=k+1) (by omega)]
  obtain ⟨b',s',p,q1,q2,q3⟩:=ih f a b2 (m+2+2) s2 (v.set k.toNat (r.set j.toNat (min 5 (w64 (x+v2))))) (v.set k.toNat (r.set j.toNat (min 5 (w64 (x+v2))))) (k+1) (by omega) (by omega) (by omega) (by omega) (by rw [List.length_set];exact hv) (fun g hg=>by
   rcases List.mem_or_eq_of_mem_set hg with hg | rfl
   ·exact hr g hg
   ·rw [List.length_set];exact hrl) g2 (by omega)
  exact ⟨b',s',p,q1,q2.mono (by omega),q3⟩
theorem qTz {a:List Int} {b m s:Int} (h:CO a b m) (hm:m ≤ 10000000) (fuel:Nat) (hf:1048576 < fuel):∃ b' s' c p q,qEq fuel (L1Cur.mk a b s)=some (L1Cur.mk a b' s',c,p,q)∧CO a b' (m+20000)∧DW c∧qJK p.items∧qJK q.items:=by
 unfold qEq
 obtain ⟨b1,s1,c,p,e1,g1,hc,hl,h15,hB⟩:=qMu (s:=s) h (by omega) fuel hf
 rw [bnd e1]
 dsimp only
 have hw:=qTx hl h15 hB
 obtain ⟨d,_,d1,d2⟩:=qK8 p.marks
 rw [bnd (show qFl (Performance.mk p.items (Marks.mk p.marks.grades p.marks.components) (Slips.mk p.slips.falls p.slips.seconds p.slips.other)) p.items=some p from hw),bnd (show qEB (Marks.mk p.marks.grades p.marks.components)=some d from d1)]
 cases d
 ·exact ⟨_,_,_,_,_,rfl,g1.mono (by omega),hc,hl,hl⟩
 ·rw [Bool.not_true,cond_false]
  obtain ⟨h14,h3,r,hr,hJ,hgr,hcr⟩:=d2.1 rfl
  obtain ⟨b',s',q,q1,q2,q3⟩:=qVT fuel hf (L1Cur.mk a b1 s1,c,p) p h15 h3 (fun g hg=>by have:=(hcr g hg).1;omega) (by omega) p.marks.grades.length fuel a b1 (m+10100) s1 p.marks.grades p.marks.grades 0 (by simp) (by omega) (by omega) (by omega) rfl (fun g hg=>by have:=(hgr g hg).1;omega) g1 (by omega)
  exact ⟨b',s',c,p,q,q1,q2.mono (by omega),hc,hl,by rw [q3];exact hl⟩
theorem qQM {code:List Int} (hc:∀ x ∈ code,qKP x) (hl:code.length ≤ 9223372036854775807) (fuel:Nat) (hf:1048576 < fuel):∃ x:Code × Performance × Performance × Int,qCm fuel code=some x∧qPJ x.1∧qQa x.2.1.items∧qQa x.2.2.1.items:=by
 unfold qCm qEU
 obtain ⟨b1,s1,c,p,q,e1,g1,h1,h2,h3⟩:=qTz (s:=0) (co0 hc hl) (by omega) fuel hf
 obtain ⟨b2,s2,v2,e2,g2,_⟩:=qBX (s:=s1) g1 (by omega) [10,80,100,160,200,400,401,9] (by simp) (by simp)
 rw [bnd e1]
 dsimp only
 rw [e2,oB9,oB9]
 exact ⟨_,rfl,qN9 h1,qLt h2,qLt h3⟩
end
section
theorem qQQ (F:Nat) (hF:1048576 < F) (code more:List Int) (hw:qMW code) (hv:qMW more):qHb F code more=some true:=by
 have hcl:code.length ≤ 9223372036854775807:=hw.1
 have hml:more.length ≤ 9223372036854775807:=hv.1
 unfold qHb
 by_cases hbig:w64 ((code.length:Int)+(more.length:Int)) > 1048576
 ·rw [decide_eq_true hbig];rfl
 rw [decide_eq_false hbig,cond_false]
 obtain ⟨⟨⟨ce,cl',cr,cb,ck,cf⟩,⟨ai,⟨ag,ac⟩,⟨as1,as2,as3⟩⟩,⟨bi,⟨bg,bc⟩,⟨bs1,bs2,bs3⟩⟩,n⟩,d1,n1,n2,n3⟩:=qQM hw.2 hcl F hF
 rw [bnd d1]
 dsimp only at n1 n2 n3 ⊢
 rcases qMP ⟨ce,cl',cr,cb,ck,cf⟩ ⟨ai,⟨ag,ac⟩,⟨as1,as2,as3⟩⟩ n1 n2 F hF with ⟨a1,a2,a3,a4,a5⟩ | ⟨p,a4,a5⟩
 ·rcases qMP ⟨ce,cl',cr,cb,ck,cf⟩ ⟨bi,⟨bg,bc⟩,⟨bs1,bs2,bs3⟩⟩ n1 n3 F hF with ⟨b1,b2,b3,b4,b5⟩ | ⟨q,b4,b5⟩
  ·rw [bnd a4,bnd a5,bnd b4,bnd b5]
   simp only [beq_self_eq_true,Bool.not_true,Bool.or_self,cond_false]
   exact qUC more hml F hF _ a1 b1 a2 a3 b2 b3
  ·rw [bnd a4,bnd a5,bnd b4,bnd b5]
   simp only [beq_self_eq_true,Bool.not_true,Bool.not_false,Bool.or_self,cond_false,Bool.or_true,cond_true]
 ·have key:∀ r:Bool × Bool,cond (((!(p == p) || !(false == false)) || !(r.2 == r.2)) || !(r.1 == r.1)) (some false) (cond ((!p || !false) || !r.1) (some true) (qBq more F (⟨ce,cl',cr,cb,ck,cf⟩,⟨ai,⟨ag,ac⟩,⟨as1,as2,as3⟩⟩,⟨bi,⟨bg,bc⟩,⟨bs1,bs2,bs3⟩⟩,n) F [] 1 [] [] 0))=some true:=fun r=>by
   simp only [beq_self_eq_true,Bool.not_true,Bool.not_false,Bool.or_self,cond_false,Bool.or_true,Bool.true_or,cond_true]
  rcases qMP ⟨ce,cl',cr,cb,ck,cf⟩ ⟨bi,⟨bg,bc⟩,⟨bs1,bs2,bs3⟩⟩ n1 n3 F hF with ⟨b1,b2,b3,b4,b5⟩ | ⟨q,b4,b5⟩
  ·rw [bnd a4,bnd a5,bnd b4,bnd b5]
   exact key (true,true)
  ·rw [bnd a4,bnd a5,bnd b4,bnd b5]
   exact key (false,q)
theorem qRB (code more:List Int) (hw:qMW code) (hv:qMW more):qHb 99999999 code more=some true:=qQQ 99999999 (by omega) code more hw hv
end

end Go.Proofs.YtpmgadenilnabaaGreat

/- Plain lemmas: what the functions compute is what the reference says, in plain Lean. No condition. -/
import Derived.Test.YtkidpkmpnbibmaaGreatDoorSrP1
set_option maxRecDepth 4000
set_option maxHeartbeats 1000000
set_option linter.unusedVariables false
set_option linter.unusedSimpArgs false
set_option linter.unusedSectionVars false
namespace Go.Proofs.YtkidpkmpnbibmaaGreatDoor
open Go.AM
section
theorem qU5:∀(ys:List Item) (k:Nat),∃b,qCf ys k=some b∧∃r,qAo (fun a0=>qCJ a0) ys k=some r∧decide (r≥0)=!b
 | [],k=>⟨true,by rw[qCf],-1,by rw[qAo],rfl⟩
 |y::ys,k=>by
  obtain⟨b,b1,r,r1,r2⟩:=qU5 ys (k+1)
  obtain⟨d,d1,d2⟩:=qIR 0 0 y.marks 0
  obtain⟨e,e1,e2⟩:=qOR 0 0 y.marks 0
  obtain rfl:d=e:=Bool.eq_iff_iff.2 (d2.trans e2.symm)
  rw[qCf,qAo,bnd (show qCp y.marks 0 0=some d from e1),bnd (show qCJ y=some (!d) from by unfold qCJ;rw[bnd (show qCE y.marks 0 0=some d from d1)])]
  cases d
  ·exact⟨false,rfl,_,rfl,by rw[dT (by omega)];rfl⟩
  ·exact⟨b,b1,r,r1,r2⟩
theorem qRt:∀(ys:List Item) (k:Nat) (a b:Int),(∀it∈ys,it.names.length≤3)→0≤a→0≤b→a+ys.length≤1000→b+ys.length≤1000→∃x y:Int,qAw ys k a b=some (x,y)∧qAp ys k a b=some (decide (x≤3)&&decide (y≤1))
 | [],k,a,b,_,_,_,_,_=>⟨a,b,by rw[qAw],by rw[qAp]⟩
 |y::ys,k,a,b,h,ha,hb,h1,h2=>by
  have hy:=h y (by simp)
  have hr:∀it∈ys,it.names.length≤3:=fun it hi=>h it (by simp[hi])
  simp only[List.length_cons]at h1 h2
  rw[qAw,qAp]
  unfold qC9
  rw[oB9,qAD (n:=a+1) (by omega),qAD (n:=b+1) (by omega)]
  by_cases c1:(y.names.length:Int)>1
  ·rw[dT c1,cW,cW]
   by_cases c2:(y.names.length:Int)>2
   ·rw[dT c2,cW,show ((y.names.length:Int)==3)=true from beq_iff_eq.2 (by omega),cW]
    exact qRt ys (k+1) (a+1) (b+1) hr (by omega) (by omega) (by omega) (by omega)
   ·rw[dF c2,cF,show ((y.names.length:Int)==3)=false from beq_eq_false_iff_ne.2 (by omega),cF]
    exact qRt ys (k+1) (a+1) b hr (by omega) (by omega) (by omega) (by omega)
  ·rw[dF c1,cF,cF,dF (by omega),cF,show ((y.names.length:Int)==3)=false from beq_eq_false_iff_ne.2 (by omega),cF]
   exact qRt ys (k+1) a b hr (by omega) (by omega) (by omega) (by omega)
theorem qXg {c:Code} {it:Item} (hi:qFl it) (hk:∀s∈it.names,¬fnd s c.elements 0<0) (hc:qGR c):∃f:Int,qHN c it=some f∧qHR c it=some f∧0≤f∧f≤4:=by
 obtain⟨s,m,s1,_⟩:=qNE hi
 have hs:s∈it.names:=by rw[qEp (i:=0) (k:=0) rfl]at s1;exact List.mem_of_getElem? s1
 obtain⟨e1,e2⟩:=qOv (hk s hs)
 unfold qHN qHR
 rw[bnd s1,bnd s1,bnd (qGT c s).2,bnd (qGT c s).1,dF (hk s hs),cF,bnd e1]
 exact⟨_,rfl,rfl,(hc.2.2.2.2.2.2 _ e2).1⟩
theorem qSO {c:Code} (hc:qGR c):∀(ys:List Item) (k:Nat) (v:List Int),(∀it∈ys,qFl it)→qGH c ys→v.length=5→∃w,w.length=5∧qBg c ys k v=some w∧qA2 c ys k v=some w
 | [],k,v,_,_,hv=>⟨v,hv,by rw[qBg],by rw[qA2]⟩
 |y::ys,k,v,h,hk,hv=>by
  obtain⟨f,f1,f2,f3,f4⟩:=qXg (h y (by simp)) (hk y (by simp)) hc
  obtain⟨n,rfl⟩:=Int.eq_ofNat_of_zero_le f3
  have hg:qAV v (n:Int)=some (v[n]'(by omega)):=by rw[qEp rfl];exact List.getElem?_eq_getElem _
  obtain⟨w,w1,w2,w3⟩:=qSO hc ys (k+1) (v.set (n:Int).toNat (w64 (v[n]'(by omega)+1))) (fun it hi=>h it (by simp[hi])) (fun it hi=>hk it (by simp[hi])) (by simp[hv])
  rw[qBg,qA2,bnd f1,bnd f2,dT f3,cW,cW,bnd hg,bnd hg]
  exact⟨w,w1,w2,w3⟩
theorem qOc (c:Code):∀(ys:List Int) (k:Nat),k+ys.length≤c.limits.length→∃b,qCk c ys k=some b∧qBY c ys k=some b
 | [],k,_=>⟨true,by rw[qCk],by rw[qBY]⟩
 |y::ys,k,h=>by
  simp only[List.length_cons]at h
  have hg:qAV c.limits (k:Int)=some (c.limits[k]'(by omega)):=by rw[qEp rfl];exact List.getElem?_eq_getElem _
  obtain⟨b,b1,b2⟩:=qOc c ys (k+1) (by omega)
  rw[qCk,qBY,bnd hg,bnd hg]
  cases decide (y>c.limits[k]'(by omega))
  ·exact⟨b,b1,b2⟩
  ·exact⟨false,rfl,rfl⟩
theorem qWV (l:List Item):∀(ys:List Item) (k:Nat),∃b,qDB l ys k=some b∧qCM l ys k=some b
 | [],k=>⟨true,by rw[qDB],by rw[qCM]⟩
 |y::ys,k=>by
  obtain⟨b,b1,b2⟩:=qWV l ys (k+1)
  rw[qDB,qCM]
  unfold qFt
  rw[oB9]
  cases (!(y.late==decide (w64 (2*(k:Int))≥(l.length:Int))))
  ·exact⟨b,b1,b2⟩
  ·exact⟨false,rfl,rfl⟩
theorem qOM (name:ByteArray) (y:Item):∀(ys:List ByteArray) (k k':Nat) (a b:Int),0≤a→0≤b→a+ys.length≤100000→b+ys.length≤100000→∃p q:Int,qB5 name y ys k a b=some (p,q)∧qB7 name y ys k' a b=some (p,q)∧(a≤p∧p≤a+ys.length)∧(b≤q∧q≤b+ys.length)∧(name∈ys→a<p)
 | [],k,k',a,b,_,_,_,_=>⟨a,b,by rw[qB5],by rw[qB7],by simp,by simp,by simp⟩
 |z::ys,k,k',a,b,ha,hb,h1,h2=>by
  simp only[List.length_cons]at h1 h2⊢
  rw[qB5,qB7]
  unfold qC9
  rw[oB9,qAD (n:=a+1) (by omega),qAD (n:=b+1) (by omega)]
  by_cases hz:z=name
  ·rw[dT hz,cW,Bool.not_true,cF]
   cases decide ((y.names.length:Int)>1)
   ·obtain⟨p,q,p1,p2,p3,p4,p5⟩:=qOM name y ys (k+1) (k'+1) (a+1) b (by omega) hb (by omega) (by omega)
    exact⟨p,q,p1,p2,by omega,by omega,fun _=>by omega⟩
   ·obtain⟨p,q,p1,p2,p3,p4,p5⟩:=qOM name y ys (k+1) (k'+1) (a+1) (b+1) (by omega) (by omega) (by omega) (by omega)
    exact⟨p,q,p1,p2,by omega,by omega,fun _=>by omega⟩
  ·rw[dF hz,cF,Bool.not_false,cW]
   obtain⟨p,q,p1,p2,p3,p4,p5⟩:=qOM name y ys (k+1) (k'+1) a b ha hb (by omega) (by omega)
   refine⟨p,q,p1,p2,by omega,by omega,fun h=>?_⟩
   rcases List.mem_cons.1 h with h|h
   ·exact absurd h.symm hz
   ·exact p5 h
theorem qSH (name:ByteArray):∀(ys:List Item) (k:Nat) (a b:Int),(∀it∈ys,it.names.length≤3)→0≤a→0≤b→a+3*ys.length≤100000→b+3*ys.length≤100000→∃p q:Int,qDJ name ys k a b=some (p,q)∧qDO name ys k a b=some (p,q)∧a≤p∧b≤q∧((∃it∈ys,name∈it.names)→a<p)
 | [],k,a,b,_,_,_,_,_=>⟨a,b,by rw[qDJ],by rw[qDO],by omega,by omega,by simp⟩
 |y::ys,k,a,b,h,ha,hb,h1,h2=>by
  have hy:=h y (by simp)
  simp only[List.length_cons]at h1 h2
  obtain⟨p,q,p1,p2,p3,p4,p5⟩:=qOM name y y.names 0 0 a b ha hb (by omega) (by omega)
  obtain⟨u,v,u1,u2,u3,u4,u5⟩:=qSH name ys (k+1) p q (fun it hi=>h it (by simp[hi])) (by omega) (by omega) (by omega) (by omega)
  rw[qDJ,qDO,bnd p1,bnd p2]
  refine⟨u,v,u1,u2,by omega,by omega,?_⟩
  rintro⟨it,hi,hn⟩
  rcases List.mem_cons.1 hi with rfl|hi
  ·have:=p5 hn;omega
  ·have:=u5 ⟨it,hi,hn⟩;omega
theorem qRy {c:Code} (hc:qGR c) {l:List Item} (hl:qEI l) (hk:qGH c l) {y:Item} (hy:y∈l):∀(ys:List ByteArray) (k:Nat),(∀s∈ys,s∈y.names)→
  qA4 c l 2 y ys k=some (.ok ())∧(∃o,qA4 c l 4 y ys k=some o∧qBK c y ys k=some o∧(o=.ok ()∨o=.error false))∧(∃o,qA4 c l 7 y ys k=some o∧qBd c l ys k=some o∧(o=.ok ()∨o=.error false))
 | [],k,_=>⟨by rw[qA4],⟨_,by rw[qA4],by rw[qBK],.inl rfl⟩,⟨_,by rw[qA4],by rw[qBd],.inl rfl⟩⟩
 |s::ys,k,h=>by
  have hs:=hk y hy s (h s (by simp))
  obtain⟨a1,⟨o,o1,o2,o3⟩,⟨q,q1,q2,q3⟩⟩:=qRy hc hl hk hy ys (k+1) (fun z hz=>h z (by simp[hz]))
  obtain⟨e1,e2⟩:=qOv hs
  refine⟨?_,?_,?_⟩
  ·rw[qA4]
   unfold qG0
   rw[bnd (qGT c s).2,show ((2:Int)==2)=true from rfl,cW,oB9,dT (by omega),Bool.not_true,cF]
   exact a1
  ·rw[qA4,qBK]
   unfold qG0 qC9
   rw[bnd (qGT c s).2,bnd (qGT c s).1,show ((4:Int)==2)=false from rfl,cF,show ((4:Int)==4)=true from rfl,cW,oB9,dT (show fnd s c.elements 0≥0 by omega),dF hs]
   have hn:=(hl.2 y hy).1
   by_cases h1:(y.names.length:Int)>1
   ·rw[dT h1,show ((y.names.length:Int)==1)=false from beq_eq_false_iff_ne.2 (by omega)]
    simp only[Bool.not_false,Bool.true_and,qCV,Bool.false_or]
    rw[bnd e1,bnd e1,oB9]
    cases hf:((elN c s).family==0)
    ·rw[show ((elN c s).family != 0)=true from by simp only[bne,hf];rfl]
     exact⟨_,rfl,rfl,.inr rfl⟩
    ·rw[show ((elN c s).family != 0)=false from by simp only[bne,hf];rfl]
     exact⟨o,o1,o2,o3⟩
   ·rw[dF h1,show ((y.names.length:Int)==1)=true from beq_iff_eq.2 (by omega)]
    exact⟨o,o1,o2,o3⟩
  ·rw[qA4,qBd]
   unfold qG0
   rw[bnd (qGT c s).2,show ((7:Int)==2)=false from rfl,cF,show ((7:Int)==4)=false from rfl,cF]
   obtain⟨u,v,u1,u2,u3,u4,u5⟩:=qSH s l 0 0 0 (fun it hi=>(hl.2 it hi).1.2) (by omega) (by omega) (by have:=hl.1;omega) (by have:=hl.1;omega)
   have hu:=u5 ⟨y,hy,h s (by simp)⟩
   rw[bnd (show qJT l s=some (u,v) from u1),bnd (show qJO l s=some (u,v) from u2),oB9]
   dsimp only
   by_cases c1:u≤c.repeats
   ·rw[dT c1,dF (show ¬u>c.repeats by omega),Bool.true_and,Bool.false_or]
    by_cases c2:u=1
    ·rw[c2];exact⟨q,q1,q2,q3⟩
    ·rw[show (u==1)=false from beq_eq_false_iff_ne.2 c2,Bool.false_or,dT (show u>1 by omega),Bool.true_and]
     by_cases c3:v=0
     ·rw[c3];exact⟨_,rfl,rfl,.inr rfl⟩
     ·rw[show (v==0)=false from beq_eq_false_iff_ne.2 c3,dT (show v>0 by omega)]
      exact⟨q,q1,q2,q3⟩
   ·rw[dF c1,dT (show u>c.repeats by omega),Bool.false_and,Bool.true_or]
    exact⟨_,rfl,rfl,.inr rfl⟩
theorem qSV {c:Code} (hc:qGR c) {l:List Item} (hl:qEI l) (hk:qGH c l):∀(ys:List Item) (k:Nat),(∀y∈ys,y∈l)→
  qAj c l 2 ys k=some true∧(∃b,qAj c l 4 ys k=some b∧qA9 c ys k=some b)∧(∃b,qAj c l 7 ys k=some b∧qBO c l ys k=some b)
 | [],k,_=>⟨by rw[qAj],⟨_,by rw[qAj],by rw[qA9]⟩,⟨_,by rw[qAj],by rw[qBO]⟩⟩
 |y::ys,k,h=>by
  obtain⟨a,⟨o,o1,o2,o3⟩,⟨q,q1,q2,q3⟩⟩:=qRy hc hl hk (h y (by simp)) y.names 0 (fun s hs=>hs)
  obtain⟨b1,⟨d,d1,d2⟩,⟨e,e1,e2⟩⟩:=qSV hc hl hk ys (k+1) (fun z hz=>h z (by simp[hz]))
  refine⟨by rw[qAj,bnd a];simp only[qLN];exact b1,?_,?_⟩
  ·rw[qAj,qA9,bnd o1,bnd o2]
   rcases o3 with rfl|rfl
   ·simp only[qLN];exact⟨d,d1,d2⟩
   ·simp only[qLN];exact⟨false,rfl,rfl⟩
  ·rw[qAj,qBO,bnd q1,bnd q2]
   rcases q3 with rfl|rfl
   ·simp only[qLN];exact⟨e,e1,e2⟩
   ·simp only[qLN];exact⟨false,rfl,rfl⟩
theorem qSv {c:Code} (hc:qGR c) {l:List Item} (hl:qEI l) (hk:qGH c l) (r:Int) (hr:1≤r∧r≤8):∃b,qJS c l r=some b∧qIH c l r=some b:=by
 have h3:∀it∈l,it.names.length≤3:=fun it hi=>(hl.2 it hi).1.2
 obtain⟨n2,⟨d,d1,d2⟩,⟨e,e1,e2⟩⟩:=qSV hc hl hk l 0 (fun y hy=>hy)
 have:r=1∨r=2∨r=3∨r=4∨r=5∨r=6∨r=7∨r=8:=by omega
 rcases this with rfl|rfl|rfl|rfl|rfl|rfl|rfl|rfl
 ·exact⟨_,rfl,rfl⟩
 ·refine⟨true,?_,?_⟩
  ·show (qAj c l 2 l 0).bind _=_
   rw[bnd n2]
  ·show (qDp c l).bind _=_
   rw[bnd (qNU hk).2]
 ·obtain⟨b,b1,q,q1,q2⟩:=qU5 l 0
  refine⟨b,?_,?_⟩
  ·show (qCf l 0).bind _=_
   rw[bnd b1]
  ·show ((qAo (fun a0=>qCJ a0) l 0).bind fun x1=>some (decide (x1≥0))).bind _=_
   rw[bnd q1,oB9,q2,Bool.not_not]
 ·refine⟨d,?_,?_⟩
  ·show (qAj c l 4 l 0).bind _=_
   rw[bnd d1]
  ·show (qA9 c l 0).bind _=_
   rw[bnd d2]
 ·obtain⟨x,y,x1,x2⟩:=qRt l 0 0 0 h3 (by omega) (by omega) (by have:=hl.1;omega) (by have:=hl.1;omega)
  refine⟨decide (x≤3)&&decide (y≤1),?_,?_⟩
  ·show (qAw l 0 0 0).bind _=_
   rw[bnd x1]
  ·show (qAp l 0 0 0).bind _=_
   rw[bnd x2]
 ·obtain⟨w,w1,w2,w3⟩:=qSO hc l 0 (List.replicate (5:Int).toNat (0:Int)) hl.2 hk rfl
  obtain⟨b,b1,b2⟩:=qOc c w 0 (by have:=hc.2.1;omega)
  have e5:qAz (decide ((0:Int)≤5)&&qAh 8 (5:Int).toNat)=some ():=rfl
  refine⟨b,?_,?_⟩
  ·show (((qAz (decide ((0:Int)≤5)&&qAh 8 (5:Int).toNat)).bind fun _=>qBg c l 0 (List.replicate (5:Int).toNat (0:Int))).bind fun x5=>qCk c x5 0)=_
   rw[e5,oB9,bnd w2,b1]
  ·show ((((qAz (decide ((0:Int)≤5)&&qAh 8 (5:Int).toNat)).bind fun _=>qA2 c l 0 (List.replicate (5:Int).toNat (0:Int))).bind fun x5=>qBY c x5 0)).bind _=_
   rw[e5,oB9,bnd w3,bnd b2]
 ·refine⟨e,?_,?_⟩
  ·show (qAj c l 7 l 0).bind _=_
   rw[bnd e1]
  ·show (qBO c l l 0).bind _=_
   rw[bnd e2]
 ·obtain⟨b,b1,b2⟩:=qWV l l 0
  refine⟨b,?_,b2⟩
  show (qDB l l 0).bind _=_
  rw[bnd b1]
theorem qVS {c:Code} (hc:qGR c) {l:List Item} (hl:qEI l) (hk:qGH c l):∀(n fl:Nat) (v:List Int) (r:Int),r+n=9→1≤r→n<fl→v.length+n≤100→(∀x∈v,0≤x∧x≤8)→∃w,qCw c l fl v r=some w∧qBb c l fl v r=some (w,true)∧w.length≤v.length+n∧(∀x∈w,0≤x∧x≤8):=by
 intro n
 induction n with
 |zero =>
  intro fl v r h _ hf hv hx
  obtain⟨f,rfl⟩:=nZ9 (by omega:fl≠0)
  rw[qCw,qBb,dF (by omega),cF,cF]
  exact⟨v,rfl,rfl,by omega,hx⟩
 |succ n ih =>
  intro fl v r h h1 hf hv hx
  obtain⟨f,rfl⟩:=nZ9 (by omega:fl≠0)
  obtain⟨b,b1,b2⟩:=qSv hc hl hk r (by omega)
  rw[qCw,qBb,dT (by omega),cW,cW,bnd b1,bnd b2,qAD (by omega)]
  cases b
  ·rw[Bool.not_false,cW,cW,ndf (by omega) (by simp;omega),oB9,oB9]
   obtain⟨w,w1,w2,w3,w4⟩:=ih f (v++[r]) (r+1) (by omega) (by omega) (by omega) (by simp;omega) (fun x hx'=>by
    rcases List.mem_append.1 hx' with h'|h'
    ·exact hx x h'
    ·rw[List.mem_singleton.1 h'];omega)
   exact⟨w,w1,w2,by simp at w3;omega,w4⟩
  ·rw[Bool.not_true,cF,cF]
   obtain⟨w,w1,w2,w3,w4⟩:=ih f v (r+1) (by omega) (by omega) (by omega) (by omega) hx
   exact⟨w,w1,w2,by omega,w4⟩
theorem qRV {F:Nat} (hF:1048576<F) {c:Code} {p:Performance} (h:Val F c p):∃w,qG4 F c p.items=some w∧qEi F c p.items=some (w,true)∧w.length≤8∧(∀x∈w,0≤x∧x≤8):=by
 obtain⟨hc,hl,hk,_⟩:=h.perf hF
 obtain⟨w,w1,w2,w3,w4⟩:=qVS hc hl hk 8 F [] 1 (by omega) (by omega) (by omega) (by simp) (by simp)
 refine⟨w,w1,?_,by simpa using w3,w4⟩
 unfold qEi
 rw[bnd h.ci,Bool.not_true,Bool.not_false,qCV,bnd h.ii]
 exact w2
end
section
theorem qWH:∀(l:List Int) (k:Nat) (v:Int),(∀x∈l,-100000000≤x∧x≤100000000)→(-1000000000000≤v-100000000*(l.length:Int)∧v+100000000*(l.length:Int)≤1000000000000)→qBA l k v=some (v+l.sum)∧qCg l k v=some (v+l.sum)
 | [],k,v,_,_=>by rw[qBA,qCg];simp
 |x::l,k,v,h,hv=>by
  have hx:=h x (by simp)
  simp only[List.length_cons]at hv
  obtain⟨i1,i2⟩:=qWH l (k+1) (v+x) (fun y hy=>h y (by simp[hy])) (by omega)
  rw[qBA,qCg,qAD (by omega),i1,i2,List.sum_cons,Int.add_assoc]
  exact⟨rfl,rfl⟩
theorem qYW {l:List Int} (h:∀x∈l,-100000000≤x∧x≤100000000) (hl:l.length≤1000):qBE l=some l.sum∧qCv l=some l.sum:=by
 obtain⟨i1,i2⟩:=qWH l 0 0 h (by omega)
 unfold qBE qCv
 rw[i1,i2,Int.zero_add]
 exact⟨rfl,rfl⟩
theorem qU2 {c:Code} (hc:qGR c) {l:List Item} (hl:qEI l) (hk:qGH c l) {m:Marks} (hm:MS m) (hlen:m.grades.length=l.length) (fl:Nat) (hf:1048576<fl) :
  qHd fl c l m=some (scl c l 0 l m.grades)∧qIs fl c l m=some (scl c l 0 l m.grades)∧qBE (scl c l 0 l m.grades)=some (qOo c l m)∧qCv (scl c l 0 l m.grades)=some (qOo c l m)∧(-1000000000≤qOo c l m∧qOo c l m≤1000000000):=by
 have h14:=hl.1
 obtain⟨s1,s2⟩:=qR1 hc hl hk m fl hf l m.grades [] [] [] rfl rfl rfl hlen.symm hm.1 (by simp;omega)
 obtain⟨o1,o2⟩:=qWK hc hl hk l m.grades [] rfl hlen.symm hm.1
 rw[List.length_nil]at s1 s2 o1 o2
 rw[List.nil_append]at s1 s2
 obtain⟨q1,q2⟩:=qYW (l:=scl c l 0 l m.grades) (fun x hx=>by have:=o2 x hx;omega) (by omega)
 have:=qRm (l:=scl c l 0 l m.grades) (B:=60000000) o2
 exact⟨s1,s2,q1,q2,by unfold qOo;omega⟩
theorem qT7 {m:Marks} (hm:MS m) {falls:Int} (h0:0≤falls) (fl:Nat) (hf:1048576<fl):qGf fl m falls=some (cpV m falls)∧qI9 fl m falls=some (cpV m falls):=by
 have hi:qC2 fl m=some (m.components.map qKI):=by
  have:=qTu fl hf m.components 0 [] hm.2.2 (by rw[hm.2.1];simp)
  exact this
 have hs:∀most,qFx fl m most=some (m.components.map fun g=>min (qKI g) most):=fun most=>by
  have:=qSU m most fl hf m.components [] [] rfl hm.2.2 (by rw[hm.2.1];simp)
  exact this
 have hb:∀x∈m.components.map qKI,-30000≤x∧x≤30000:=fun x hx=>by
  obtain⟨g,hg,rfl⟩:=List.mem_map.1 hx
  exact qRW (hm.2.2 g hg)
 have hl:(m.components.map qKI).length=3:=by rw[List.length_map,hm.2.1]
 have hmm:∀A:Int,((m.components.map qKI).map fun y=>min y A).sum=(m.components.map fun g=>min (qKI g) A).sum:=fun A=>by rw[List.map_map];rfl
 have hp:∀A:Int,900≤A∧A≤1000→qCv (m.components.map fun g=>min (qKI g) A)=some (m.components.map fun g=>min (qKI g) A).sum:=fun A hA=>by
  refine(qYW (fun x hx=>?_) (by rw[List.length_map,hm.2.1];omega)).2
  obtain⟨g,hg,rfl⟩:=List.mem_map.1 hx
  have:=qRW (hm.2.2 g hg)
  omega
 unfold qGf qI9 cpV qXS
 by_cases e0:falls=0
 ·subst e0
  rw[if_pos rfl,show ((0:Int)==1)=false from rfl,show decide ((0:Int)>1)=false from rfl,cF,cF,show ((0:Int)==0)=true from rfl,cW,bnd hi,bnd (hs 1000),bnd (hp 1000 (by omega))]
  refine⟨?_,rfl⟩
  rw[qST 1000 (by omega) qCP (fun k v=>by rw[qCP]) (fun y ys k v=>by rw[qCP]) _ 0 0 hb (by rw[hl];omega),hmm,Int.zero_add]
 ·rw[if_neg e0,show (falls==0)=false from by simp[e0],cF]
  by_cases e1:falls=1
  ·subst e1
   rw[if_pos rfl,show ((1:Int)==1)=true from rfl,cW,cW,bnd hi,bnd (hs 950),bnd (hp 950 (by omega))]
   refine⟨?_,rfl⟩
   rw[qST 950 (by omega) qCL (fun k v=>by rw[qCL]) (fun y ys k v=>by rw[qCL]) _ 0 0 hb (by rw[hl];omega),hmm,Int.zero_add]
  ·rw[if_neg e1,show (falls==1)=false from by simp[e1],cF,cF,dT (by omega:falls>1),cW,bnd hi,bnd (hs 900),bnd (hp 900 (by omega))]
   refine⟨?_,rfl⟩
   rw[qST 900 (by omega) qCQ (fun k v=>by rw[qCQ]) (fun y ys k v=>by rw[qCQ]) _ 0 0 hb (by rw[hl];omega),hmm,Int.zero_add]
theorem qRX {m:Marks} (hm:MS m) {f:Int} (h:0≤f∧f≤400) {falls:Int} (h0:0≤falls) (fl:Nat) (hf:1048576<fl):qFn fl m f falls=some (qOj m f falls)∧qF6 fl m f falls=some (qOj m f falls):=by
 obtain⟨c1,c2⟩:=qT7 hm h0 fl hf
 have hb:=qRN hm h falls
 obtain⟨r1,r2⟩:=qLL (a:=cpV m falls*f) (b:=100) (by omega) (by omega) (by omega)
 unfold qFn qF6
 rw[bnd c1,bnd c2,qAD (by omega),bnd r1,bnd r2]
 exact⟨rfl,rfl⟩
theorem qRx {c:Code} (hc:qGR c) {s:Slips} (hs:qOT s) (fl:Nat) (hf:1048576<fl):(∃a b d,qF5 c s=some [a,b,d]∧qBE [a,b,d]=some (qPK c s))∧qJD fl c s=some (qPK c s)∧(0≤qPK c s∧qPK c s≤100000):=by
 obtain⟨h1,h2,h3⟩:=hs
 have hfall:=hc.2.2.2.2.2.1
 have hG:0≤fG s.falls∧fG s.falls≤30:=by unfold fG;omega
 have hm:=qLk (a:=c.fall) (b:=fG s.falls) (A:=500) (B:=30) hfall hG
 have e:(s.seconds+4).tdiv 5=(s.seconds+4)/5:=Int.tdiv_eq_ediv_of_nonneg (by omega)
 have hl:=qW2 hfall h1.2 (s.falls-0).toNat fl 0 rfl (by omega) (by omega) h1.1
 rw[show fG 0=0 from rfl,Int.mul_zero]at hl
 refine⟨⟨c.fall*fG s.falls,(s.seconds+4)/5*100,s.other,?_,?_⟩,?_,?_⟩
 ·unfold qF5 qGK qGL
  rw[qAD (n:=s.falls-2) (by omega),qAD (n:=s.falls-4) (by omega),qAD (n:=s.falls+max (s.falls-2) 0) (by omega),qAD (n:=s.falls+max (s.falls-2) 0+max (s.falls-4) 0) (by omega)]
  rw[show c.fall*(s.falls+max (s.falls-2) 0+max (s.falls-4) 0)=c.fall*fG s.falls from rfl,qAD (n:=c.fall*fG s.falls) (by omega),oB9,show qAz (5 != 0)=some () from rfl,oB9,qAD (n:=s.seconds+4) (by omega),e,qAD (n:=(s.seconds+4)/5) (by omega),qAD (n:=(s.seconds+4)/5*100) (by omega),oB9]
 ·have:=(qYW (l:=[c.fall*fG s.falls,(s.seconds+4)/5*100,s.other]) (by
   intro x hx
   simp only[List.mem_cons,List.not_mem_nil,or_false]at hx
   rcases hx with rfl|rfl|rfl<;>omega) (by simp)).1
  rw[this]
  simp only[List.sum_cons,List.sum_nil,Int.add_zero]
  unfold qPK
  rw[Int.add_assoc]
 ·unfold qJD qJN qKJ
  rw[bnd hl,show qAz (5 != 0)=some () from rfl,oB9,qAD (n:=s.seconds+4) (by omega),e,qAD (n:=(s.seconds+4)/5) (by omega),qAD (n:=(s.seconds+4)/5*100) (by omega),oB9,qAD (n:=c.fall*fG s.falls+(s.seconds+4)/5*100) (by omega),qAD (by omega)]
  rfl
 ·unfold qPK;omega
theorem qOE {c:Code} {p:Performance} (h:qQV c p) {f:Int} (hf0:0≤f∧f≤400) (fl:Nat) (hf:1048576<fl) :
  qFb fl c p f=some [qOo c p.items p.marks,qOj p.marks f p.slips.falls,qPK c p.slips,qD1 c p f]∧qFd fl c p f=some [qOo c p.items p.marks,qOj p.marks f p.slips.falls,qPK c p.slips,qD1 c p f]∧(0≤qD1 c p f∧qD1 c p f≤2000000000):=by
 obtain⟨hc,hl,hk,hm,hn,hs⟩:=h
 obtain⟨t1,t2,t3,t4,tb⟩:=qU2 hc hl hk hm hn fl hf
 obtain⟨k1,k2⟩:=qRX hm hf0 hs.1.1 fl hf
 have kb:=(qRN hm hf0 p.slips.falls).2
 obtain⟨⟨a,b,d,d1,d2⟩,d3,db⟩:=qRx hc hs fl hf
 refine⟨?_,?_,by unfold qD1;omega⟩
 ·unfold qFb qFu
  rw[bnd t1,t3,oB9,oB9,bnd k1,bnd d1,bnd d2,qAD (n:=qOo c p.items p.marks+qOj p.marks f p.slips.falls) (by omega),qAD (by omega)]
  rfl
 ·unfold qFd qG2
  rw[bnd t2,t4,oB9,oB9,bnd k2,bnd d3,qAD (n:=qOo c p.items p.marks+qOj p.marks f p.slips.falls) (by omega),qAD (by omega),bnd (qVO _ _),Int.max_comm]
  rfl
theorem qMs {c:Code} {p:Performance} (h:qQV c p) {f:Int} (hf0:0≤f∧f≤400) (fl:Nat) (hf:1048576<fl):qBQ fl c p f=some (qD1 c p f)∧qDA fl c p f=some (qD1 c p f):=by
 obtain⟨p1,p2,_⟩:=qOE h hf0 fl hf
 unfold qBQ qDA
 rw[bnd p1,bnd p2]
 exact⟨rfl,rfl⟩
end
section
theorem qUP:∀(ts:List ByteArray) (B:Nat),(∀t∈ts,t.size≤B)→qV9 ts≤B*ts.length
 | [],B,_=>Nat.zero_le _
 |t::ts,B,h=>by
  have h1:=h t (by simp)
  have h2:=qUP ts B (fun x hx=>h x (by simp[hx]))
  rw[qLB,List.length_cons,Nat.mul_add,Nat.mul_one];omega
def qVB (n:Int):Prop:=-9999999999≤n∧n≤9999999999
theorem qU3 (F:Nat) (hF:100<F):∀(ys:List Int) (k k':Nat) (acc:ByteArray) (v:List ByteArray),(∀n∈ys,qVB n)→1≤k→acc.size≠0→acc.size+12*ys.length≤100000→v.length+ys.length≤1000→
  ∃ts r,ts.length=ys.length∧(∀t∈ts,t.size≤11)∧qB4 F ys k acc=some r∧toL r=toL acc++qTF [32] ts∧qBN ys k' v=(qFf (v++ts) ⟨#[32]⟩).bind some∧r.size≤acc.size+12*ys.length
 | [],k,k',acc,v,_,_,ha,_,_=>by
  refine⟨[],acc,rfl,by simp,?_,by simp[qTF],by rw[qBN,List.append_nil],by simp⟩
  rw[qB4,dF (fun h=>ha (by rw[h];rfl)),cF]
 |y::ys,k,k',acc,v,h,hk,ha,hs,hv=>by
  simp only[List.length_cons]at hs hv
  obtain⟨t,t1,t2,t3,t4⟩:=qXR F hF y (h y (by simp))
  have e32:(⟨#[32]⟩:ByteArray).size=1:=rfl
  obtain⟨ts,r,r1,r2,r3,r4,r5,r6⟩:=qU3 F hF ys (k+1) (k'+1) ((acc++(⟨#[32]⟩:ByteArray))++t) (v++[t]) (fun n hn=>h n (by simp[hn])) (by omega) (by simp only[ByteArray.size_append];omega) (by simp only[ByteArray.size_append];omega) (by simp;omega)
  simp only[ByteArray.size_append]at r6
  refine⟨t::ts,r,by simp[r1],fun z hz=>?_,?_,?_,?_,by simp only[List.length_cons];omega⟩
  ·rcases List.mem_cons.1 hz with rfl|hz
   ·exact t4
   ·exact r2 z hz
  ·rw[qB4,dT (by omega),cW,nd (by omega),oB9,bnd t1,nd (by simp only[ByteArray.size_append];omega),oB9]
   exact r3
  ·rw[r4,qIl,qIl,qOs,List.append_assoc,List.append_assoc];rfl
  ·rw[qBN,bnd t2,ndf (by omega) (by simp;omega),oB9,r5,List.append_assoc];rfl
theorem qMr (F:Nat) (hF:100<F) (l:List Int) (h:∀n∈l,qVB n) (hl:l.length≤60):∃r,qBC F l=some r∧qCY l=some r∧(l≠[]→qAx l=some r)∧r.size≤12*l.length+4:=by
 cases l with
 |nil=>exact⟨_,rfl,rfl,fun h=>absurd rfl h,by show (4:Nat)≤_;omega⟩
 |cons y ys =>
  simp only[List.length_cons]at hl
  obtain⟨t,t1,t2,t3,t4⟩:=qXR F hF y (h y (by simp))
  have hne:t.size≠0:=by
   rw[←qCh,t3]
   split
   ·simp
   ·exact fun e=>qYR _ (List.length_eq_zero_iff.1 e)
  obtain⟨ts,r,r1,r2,r3,r4,r5,r6⟩:=qU3 F hF ys 1 1 ((⟨#[]⟩:ByteArray)++t) ([]++[t]) (fun n hn=>h n (by simp[hn])) (by omega) (by rw[ByteArray.size_append];show 0+_≠0;omega) (by rw[ByteArray.size_append];show 0+_+_≤_;omega) (by simp;omega)
  have e0:(⟨#[]⟩:ByteArray).size=0:=rfl
  have e32:(⟨#[32]⟩:ByteArray).size=1:=rfl
  rw[ByteArray.size_append,e0]at r6
  have hs:qBC F (y::ys)=some r:=by
   unfold qBC
   rw[qB4,dF (by omega),cF,bnd t1,nd (by rw[e0];omega),oB9]
   exact r3
  have ht:=qUP ts 11 r2
  obtain⟨q,q1,q2⟩:=qXH t ts ⟨#[32]⟩ (by rw[e32];omega) (by rw[e32];omega) (by omega)
  have hi:qAx (y::ys)=some r:=by
   unfold qAx
   rw[qBN,bnd t2,ndf (by omega) (by simp),oB9,r5]
   show (qFf (t::ts) ⟨#[32]⟩).bind some=_
   rw[q1,oB9]
   refine congrArg some (qGI ?_)
   rw[q2,r4,qIl];rfl
  refine⟨r,hs,?_,fun _=>hi,by simp only[List.length_cons];omega⟩
  unfold qCY
  rw[show (((y::ys).length:Int)==0)=false from beq_eq_false_iff_ne.2 (by simp only[List.length_cons];omega),cF,bnd hi]
end
section
theorem qUJ {c:Code} (hc:qGR c) {l:List Item} (hl:qEI l) (hk:qGH c l):∀(ys:List Item) (k:Nat) (v:List Int),k+ys.length=l.length→v.length+ys.length≤1000→∃L,L.length=ys.length∧(∀x∈L,0≤x∧x≤7200)∧qBo c l ys k v=some (v++L)∧qEZ c l ys k v=some (v++L)
 | [],k,v,_,_=>⟨[],rfl,by simp,by rw[qBo,List.append_nil],by rw[qEZ,List.append_nil]⟩
 |y::ys,k,v,h,hv=>by
  simp only[List.length_cons]at h hv
  obtain⟨b1,b2,b3⟩:=qNM hc hl hk (k:=k) (by omega)
  obtain⟨L,l1,l2,l3,l4⟩:=qUJ hc hl hk ys (k+1) (v++[qHu c l k]) (by omega) (by simp;omega)
  refine⟨qHu c l k::L,by simp[l1],fun x hx=>?_,?_,?_⟩
  ·rcases List.mem_cons.1 hx with rfl|hx
   ·exact b3
   ·exact l2 x hx
  ·rw[qBo,bnd b1,ndf (by omega) (by simp;omega),oB9,l3,List.append_assoc];rfl
  ·rw[qEZ,bnd b2,ndf (by omega) (by simp;omega),oB9,l4,List.append_assoc];rfl
theorem qVa {c:Code} (hc:qGR c) {l:List Item} (hl:qEI l) (hk:qGH c l):∃L s,qF7 c l=some L∧qBE L=some s∧qG3 c l=some s∧0≤s∧s≤9999999:=by
 have h14:=hl.1
 obtain⟨L,l1,l2,l3,l4⟩:=qUJ hc hl hk l 0 [] (by simp) (by simp;omega)
 obtain⟨s1,s2⟩:=qYW (l:=L) (fun x hx=>by have:=l2 x hx;omega) (by omega)
 have hb:=qTW l2
 rw[l1]at hb
 refine⟨L,L.sum,l3,s1,?_,hb.1,by omega⟩
 unfold qG3 qKe
 rw[bnd l4,List.nil_append,bnd s2]
theorem qWk {a b:Int} (ha:0≤a∧a≤10000000) (hb:1≤b∧b≤1000):qHi a b=some (cl a b):=by
 unfold qHi
 have e:(a+b-1).tdiv b=cl a b:=by
  rw[Int.tdiv_eq_ediv_of_nonneg (by omega)]
  unfold cl
  have h1:(a+b-1)=(-1)+(a+b):=by omega
  have hb0:0<b:=by omega
  have key:=Int.mul_ediv_add_emod (-a) b
  have m0:=Int.emod_nonneg (-a) (show b≠0 by omega)
  have m1:=Int.emod_lt_of_pos (-a) hb0
  have e2:a+b-1=(b-1-(-a)%b)+b*(-((-a)/b)):=by rw[Int.mul_neg];omega
  rw[e2,Int.add_mul_ediv_left _ _ (show b≠0 by omega),Int.ediv_eq_zero_of_lt (by omega) (by omega),Int.zero_add]
 rw[show qAz (b != 0)=some () from by rw[bne_iff_ne.2 (by omega)];rfl,oB9,qAD (n:=a+b) (by omega),qAD (n:=a+b-1) (by omega),e]
 have:=(qS3 (a:=a) (b:=b) (by omega) (by omega) (by omega)).2
 rw[qAD (by omega)]
theorem qYT {r:List Int} (hr:3≤r.length∧r.length≤9):3≤nS r∧nS r≤9:=by unfold nS;split<;>omega
theorem qQ2 {p:Performance} {r:List Int} (h:qAV p.marks.components 0=some r) (hr:3≤r.length∧r.length≤9):qGZ p=some (nS r):=by
 unfold qGZ qEB nS
 rw[bnd h,oB9]
 by_cases h5:r.length<5
 ·rw[dF (by omega),cF,if_pos h5]
 ·rw[dT (by omega),cW,if_neg h5,qAD (by omega)]
theorem qYn {c:Code} {p:Performance} (h:qQV c p) {r:List Int} (hr:qAV p.marks.components 0=some r) (hrl:3≤r.length∧r.length≤9) (fl:Nat) (hf:1048576<fl) {k:Nat} {y:Item} (hy:qAV p.items (k:Int)=some y) :
  qKB c p (k:Int)=some (if qHu c p.items k=0 then 0 else cl (qHZ c y) (nS r)):=by
 obtain⟨hc,hl,hk,hm,hn,hs⟩:=h
 have hy2:p.items[k]?=some y:=by rw[qEp rfl]at hy;exact hy
 have hmem:y∈p.items:=List.mem_of_getElem? hy2
 have hlt:=(List.getElem?_eq_some_iff.1 hy2).1
 obtain⟨_,b1,_⟩:=qNM hc hl hk hlt
 obtain⟨_,u1,u3⟩:=qMn hc (hl.2 y hmem) (hk y hmem) fl hf
 have hN:=qYT hrl
 have c1:=qWk (a:=qHZ c y) (b:=nS r) (by omega) (by omega)
 unfold qKB
 rw[bnd b1]
 by_cases h0:qHu c p.items k=0
 ·rw[if_pos h0,h0];rfl
 ·rw[if_neg h0,show (qHu c p.items k==0)=false from by simp[h0],cF,bnd hy,bnd u1,bnd (qQ2 hr hrl),bnd c1]
theorem qSI {c:Code} {p:Performance} (h:qQV c p) {r:List Int} (hr:qAV p.marks.components 0=some r) (hrl:3≤r.length∧r.length≤9) (fl:Nat) (hf:1048576<fl):∀(ys pre:List Item) (v:Int),p.items=pre++ys→0≤v→v+2000*(ys.length:Int)≤100000000→
  qBV c p ys pre.length v=some (v+ibs c p.items (nS r) pre.length ys,true)
 | [],pre,v,_,hv,hb=>by rw[qBV];simp[ibs]
 |y::ys,pre,v,h1,hv,hb=>by
  have hg:=qDm (pre:=pre) (y:=y) (ys:=ys) h1 rfl
  obtain⟨_,i2,i3⟩:=qX6 h hr hrl fl hf (k:=pre.length) (y:=y) hg
  have i1:=qYn h hr hrl fl hf (k:=pre.length) (y:=y) hg
  simp only[List.length_cons]at hb
  have j1:=qSI h hr hrl fl hf ys (pre++[y]) (v+(if qHu c p.items pre.length=0 then 0 else cl (qHZ c y) (nS r))) (by rw[h1];simp) (by omega) (by omega)
  rw[show (pre++[y]).length=pre.length+1 from by simp]at j1
  rw[qBV,bnd i1,qAD (by omega),j1,ibs,Int.add_assoc v]
theorem qVW {F:Nat} {S:ScriptState} (h:SGood F S):qGX F S.code S.performance S.factor=some true∧qEz F S.code S.performance S.factor=some true:=by
 obtain⟨g1,g2⟩:=h.val.good
 obtain⟨f,f1,f2,f3⟩:=qEn S.factor 10 400
 obtain rfl:=f3.2 h.fac
 unfold qGX qEz qE1 qE4
 rw[bnd g1,bnd g2,qCV,qCV,f1,f2]
 exact⟨rfl,rfl⟩
theorem qSr {F:Nat} (hF:1048576<F) {S:ScriptState} (h:SGood F S):∃B,qD8 F S.code S.performance S.factor=some (B,true)∧qEG F S.code S.performance S.factor=some (B,true)∧0≤B∧B≤100000000:=by
 have hP:=h.val.perf hF
 have hM:=qLO hP
 have h14:=hP.2.1.1
 have hfac:=h.fac
 obtain⟨r,hr,hrl,_⟩:=qNV h.val.mg
 obtain⟨a1,a2⟩:=qVW h
 obtain⟨b1,b2,b3⟩:=qTH hM hr hrl (f:=S.factor) (by omega) F hF S.performance.items [] 0 rfl (by omega) (by omega)
 have hN:=qYT hrl
 have c1:=qWk (a:=1000) (b:=nS r) (by omega) (by omega)
 have c2:=(qS3 (a:=1000) (b:=nS r) (by omega) (by omega) (by omega)).2
 have hm:=qLk (a:=S.factor*3) (b:=cl 1000 (nS r)) (A:=1200) (B:=1000) (by omega) (by omega)
 have d1:=qWk (a:=S.factor*3*cl 1000 (nS r)) (b:=100) (by omega) (by omega)
 have d2:=(qS3 (a:=S.factor*3*cl 1000 (nS r)) (b:=100) (by omega) (by omega) (by omega)).2
 rw[Int.zero_add]at b1
 simp only[List.length_nil]at b1 b2 b3
 refine⟨ibs S.code S.performance.items (nS r) 0 S.performance.items+cl (S.factor*3*cl 1000 (nS r)) 100,?_,?_,by omega,by omega⟩
 ·unfold qD8
  rw[bnd a1,Bool.not_true,cF,bnd (qQ2 hr hrl),bnd c1,qAD (n:=S.factor*3) (by omega),qAD (n:=S.factor*3*cl 1000 (nS r)) (by omega),bnd d1]
  have:=qSI hM hr hrl F hF S.performance.items [] (cl (S.factor*3*cl 1000 (nS r)) 100) rfl (by omega) (by omega)
  simp only[List.length_nil]at this
  rw[this,Int.add_comm]
 ·unfold qEG
  rw[bnd a2,Bool.not_true,cF]
  exact b1
theorem qUg {F:Nat} (hF:1048576<F) {S:ScriptState} (h:SGood F S):Alike F S (qAL F S ⟨#[99,104,101,99,107]⟩ []) (fun x=>qAX F x ⟨#[99,104,101,99,107]⟩):=by
 obtain⟨w,w1,w2,w3,w4⟩:=qRV hF h.val
 obtain⟨r,r1,r2,_,r4⟩:=qMr F (by omega) w (fun n hn=>by have:=w4 n hn;unfold qVB;omega) (by omega)
 refine Alike.stay h r (by omega) ?_ (fun no wh ln=>?_)
 ·show ((qEi F S.code S.performance.items).bind fun x2=>(qCY x2.1).bind fun x4=>some (S,x4))=_
  rw[bnd w2,bnd r2]
 ·show ((qG4 F S.code S.performance.items).bind fun x5=>(qBC F x5).bind fun x7=>some (cs S no wh ln,x7))=_
  rw[bnd w1,bnd r1]
theorem qV3 {F:Nat} (hF:1048576<F) {S:ScriptState} (h:SGood F S):Alike F S (qAL F S ⟨#[98,97,115,101]⟩ []) (fun x=>qAX F x ⟨#[98,97,115,101]⟩):=by
 obtain⟨hc,hl,hk,_⟩:=h.val.perf hF
 obtain⟨L,s,s1,s2,s3,s4⟩:=qVa hc hl hk
 obtain⟨t,t1,t2,_,t4⟩:=qXR F (by omega) s (by omega)
 refine Alike.stay h t (by omega) ?_ (fun no wh ln=>?_)
 ·show ((qF7 S.code S.performance.items).bind fun x7=>(qBE x7).bind fun x9=>(qCA x9).bind fun x11=>some (S,x11))=_
  rw[bnd s1,bnd s2,bnd t2]
 ·show ((qG3 S.code S.performance.items).bind fun x10=>(qDR F x10).bind fun x12=>some (cs S no wh ln,x12))=_
  rw[bnd s3,bnd t1]
theorem qUE {F:Nat} (hF:1048576<F) {S:ScriptState} (h:SGood F S):Alike F S (qAL F S ⟨#[115,99,111,114,101]⟩ []) (fun x=>qAX F x ⟨#[115,99,111,114,101]⟩):=by
 have hP:=h.val.perf hF
 have hM:=qLO hP
 have hfac:=h.fac
 obtain⟨p1,p2,p3⟩:=qOE hM (f:=S.factor) (by omega) F hF
 have tb:=(qU2 hM.1 hM.2.1 hM.2.2.1 hM.2.2.2.1 hM.2.2.2.2.1 F hF).2.2.2.2
 have kb:=(qRN hM.2.2.2.1 (f:=S.factor) (by omega) S.performance.slips.falls).2
 have db:=(qRx hM.1 hM.2.2.2.2.2 F hF).2.2
 obtain⟨r,r1,_,r3,r4⟩:=qMr F (by omega) [qOo S.code S.performance.items S.performance.marks,qOj S.performance.marks S.factor S.performance.slips.falls,qPK S.code S.performance.slips,qD1 S.code S.performance S.factor] (fun n hn=>by
  unfold qVB
  simp only[List.mem_cons,List.not_mem_nil,or_false]at hn
  rcases hn with rfl|rfl|rfl|rfl<;>omega) (by simp)
 refine Alike.stay h r (by simp at r4;omega) ?_ (fun no wh ln=>?_)
 ·show ((qFb F S.code S.performance S.factor).bind fun x14=>(qAx x14).bind fun x16=>some (S,x16))=_
  rw[bnd p1,bnd (r3 (by simp))]
 ·show ((qFd F S.code S.performance S.factor).bind fun x15=>(qBC F x15).bind fun x17=>some (cs S no wh ln,x17))=_
  rw[bnd p2,bnd r1]
theorem qTL {F:Nat} (hF:1048576<F) {S:ScriptState} (h:SGood F S):Alike F S (qAL F S ⟨#[98,111,117,110,100]⟩ []) (fun x=>qAX F x ⟨#[98,111,117,110,100]⟩):=by
 obtain⟨B,b1,b2,b3,b4⟩:=qSr hF h
 obtain⟨t,t1,t2,_,t4⟩:=qXR F (by omega) B (by omega)
 refine Alike.stay h t (by omega) ?_ (fun no wh ln=>?_)
 ·show ((qEG F S.code S.performance S.factor).bind fun x19=>(qCA x19.1).bind fun x21=>some (S,x21))=_
  rw[bnd b2,bnd t2]
 ·show ((qD8 F S.code S.performance S.factor).bind fun x20=>(qDR F x20.1).bind fun x22=>some (cs S no wh ln,x22))=_
  rw[bnd b1,bnd t1]
end
section
def ItG (F:Nat) (it:Item):Prop:=qFl it∧(∀s∈it.names,qGE F s=some true)∧∀m∈it.marks,0≤m∧m≤3
theorem qXt (F:Nat) (it:Item):∀(ys:List ByteArray) (k:Nat),qB0 it F ys k=some true↔(qFl it∧(∀s∈ys,qGE F s=some true)∧∀m∈it.marks,0≤m∧m≤3)
 | [],k=>by
  rw[qB0]
  obtain⟨b,e1,e2⟩:=qDe (it.names.length:Int) 1 3
  obtain⟨c,c1,c2⟩:=qPq 0 3 it.marks 0
  rw[bnd e1,show qCp it.marks 0 3=some c from c1]
  unfold qFl
  by_cases hl:it.marks.length=it.names.length
  ·rw[show ((it.marks.length:Int)==(it.names.length:Int))=true from by rw[hl];simp]
   rw[←c2]
   cases b
   ·have:¬(1≤it.names.length∧it.names.length≤3):=fun h=>by have:=e2.2 (by omega);cases this
    simp[qDa,this]
   ·have:(1≤it.names.length∧it.names.length≤3):=by have:=e2.1 rfl;omega
    cases c<;>simp[qCV,hl,this]
  ·rw[show ((it.marks.length:Int)==(it.names.length:Int))=false from by simp only[beq_eq_false_iff_ne,ne_eq];omega]
   simp[qDa,hl]
 |y::ys,k=>by
  have ih:=qXt F it ys (k+1)
  rw[qB0]
  cases hy:qGE F y with
  |none=>simp[hy]
  |some b =>
   cases b
   ·simp[hy]
   ·rw[oB9,Bool.not_true,cF,ih]
    simp[hy]
theorem qRP (F:Nat) (it:Item):qDl F it=some true↔ItG F it:=qXt F it it.names 0
theorem qXa (F:Nat) (l:List Item):∀(ys:List Item) (k:Nat),qB6 l F ys k=some true↔(l.length≤14∧∀it∈ys,ItG F it)
 | [],k=>by rw[qB6];simp;omega
 |y::ys,k=>by
  have ih:=qXa F l ys (k+1)
  rw[qB6]
  cases hy:qDl F y with
  |none =>
   have:¬ItG F y:=fun h=>by rw[(qRP F y).2 h]at hy;cases hy
   simp[this]
  |some b =>
   cases b
   ·have:¬ItG F y:=fun h=>by rw[(qRP F y).2 h]at hy;cases hy
    simp[this]
   ·have:=(qRP F y).1 hy
    rw[oB9,Bool.not_true,cF,ih]
    simp[this]
theorem qRT (F:Nat) (l:List Item):qFM F l=some true↔(l.length≤14∧∀it∈l,ItG F it):=qXa F l l 0
theorem Val.items {F:Nat} (hF:1048576<F) {c:Code} {p:Performance} (h:Val F c p) {l:List Item} (hl:l.length=p.items.length) (hi:∀it∈l,∃it0∈p.items,it.names=it0.names∧it.marks.length=it0.marks.length∧∀m∈it.marks,0≤m∧m≤3):Val F c (Performance.mk l p.marks p.slips):=by
 obtain⟨g1,g2⟩:=(qRT F p.items).1 h.is
 have hb:qVM l:=fun it hit s hs=>by
  obtain⟨it0,h0,e,_⟩:=hi it hit
  exact h.nb it0 h0 s (e▸hs)
 have hs:qFM F l=some true:=(qRT F l).2 ⟨by omega,fun it hit=>by
  obtain⟨it0,h0,e1,e2,e3⟩:=hi it hit
  obtain⟨o1,o2,o3⟩:=g2 it0 h0
  unfold qFl at o1
  exact⟨⟨by rw[e1];exact o1.1,by rw[e1,e2];exact o1.2⟩,by rw[e1];exact o2,e3⟩⟩
 obtain⟨b,b1,b2,_⟩:=qNN l hb F hF
 rw[hs]at b2
 obtain⟨k1,k2⟩:=qNU (c:=c) (l:=l) (fun it hit s hsn=>by
  obtain⟨it0,h0,e,_⟩:=hi it hit
  exact(h.perf hF).2.2.1 it0 h0 s (e▸hsn))
 exact⟨h.nc,hb,h.cs,h.ci,hs,by rw[b1,←b2],k1,k2,h.mg,by rw[hl];exact h.ln,h.sg⟩
theorem Val.marks3 {F:Nat} {c:Code} {p:Performance} (h:Val F c p) {it:Item} (hi:it∈p.items):∀m∈it.marks,0≤m∧m≤3:=(((qRT F p.items).1 h.is).2 it hi).2.2
theorem Val.late {F:Nat} (hF:1048576<F) {c:Code} {p:Performance} (h:Val F c p):Val F c (Performance.mk (qRO p.items) p.marks p.slips):=by
 refine h.items hF (by simp[qRO]) (fun it hi=>?_)
 unfold qRO at hi
 rw[List.mem_mapIdx]at hi
 obtain⟨i,hlt,e⟩:=hi
 refine⟨p.items[i],List.getElem_mem hlt,by rw[←e],by rw[←e],?_⟩
 rw[←e]
 exact h.marks3 (it:=p.items[i]) (List.getElem_mem hlt)
def callL (l:List Item) (i k:Nat) (it:Item) (m:Int):List Item:=l.set i (Item.mk it.names (it.marks.set k m) it.late)
theorem Val.call {F:Nat} (hF:1048576<F) {c:Code} {p:Performance} (h:Val F c p) {i k:Nat} {it:Item} (hi:p.items[i]?=some it) {m:Int} (hm:0≤m∧m≤3):Val F c (Performance.mk (callL p.items i k it m) p.marks p.slips):=by
 have hmem:=List.mem_of_getElem? hi
 refine h.items hF (by simp[callL]) (fun z hz=>?_)
 rcases List.mem_or_eq_of_mem_set hz with hz|rfl
 ·exact⟨z,hz,rfl,rfl,h.marks3 hz⟩
 ·refine⟨it,hmem,rfl,by simp,fun q hq=>?_⟩
  rcases List.mem_or_eq_of_mem_set hq with hq|rfl
  ·exact h.marks3 hmem q hq
  ·exact hm
theorem qO1 {l:List Item} (hl:qEI l) {i k:Nat} {it:Item} {x m:Int} (hi:qAV l (i:Int)=some it) (hk:qAV it.marks (k:Int)=some x):qEH l (i:Int) (k:Int) m=some (callL l i k it m):=by
 unfold qEH callL
 rw[bnd (qJv hl).2,bnd hi,bnd hk,Int.toNat_natCast,Int.toNat_natCast]
theorem qVG {F:Nat} (hF:1048576<F) {S:ScriptState} (h:SGood F S):Alike F S (qAH F S ⟨#[108,97,116,101]⟩ []) (fun x=>qAX F x ⟨#[108,97,116,101]⟩):=by
 obtain⟨a,b⟩:=qTZ (h.val.perf hF).2.1 F hF
 refine⟨ScriptState.mk S.code (Performance.mk (qRO S.performance.items) S.performance.marks S.performance.slips) S.factor S.results,⟨#[111,107]⟩,?_,fun no wh ln=>?_,⟨h.val.late hF,h.fac,h.res⟩,by show (2:Nat)≤_;omega⟩
 ·show ((qFw F S.performance.items).bind fun x26=>some ((ScriptState.mk S.code (Performance.mk x26 S.performance.marks S.performance.slips) S.factor S.results),(⟨#[111,107]⟩:ByteArray)))=_
  rw[bnd b]
 ·show ((qG9 F S.performance.items).bind fun x2=>some ((CsState.mk S.code (Performance.mk x2 S.performance.marks S.performance.slips) S.factor S.results no wh ln),(⟨#[111,107]⟩:ByteArray)))=_
  rw[bnd a];rfl
theorem qVx {F:Nat} (hF:1048576<F) {S:ScriptState} (h:SGood F S) (a b m:Int) (hm:0≤m∧m≤3):Alike F S (qAH F S ⟨#[99,97,108,108]⟩ [a,b,m]) (fun x=>qC4 F x [a,b] m):=by
 have hP:=h.val.perf hF
 obtain⟨e,e1,e2,e3⟩:=qVj hP.2.1 a b
 have hi0:qAH F S ⟨#[99,97,108,108]⟩ [a,b,m]=(qFW S.performance.items a b).bind fun x6=>cond (!x6) (some (S,(⟨#[110,111]⟩:ByteArray))) ((qEH S.performance.items a b m).bind fun x10=>some ((ScriptState.mk S.code (Performance.mk x10 S.performance.marks S.performance.slips) S.factor S.results),(⟨#[111,107]⟩:ByteArray))):=rfl
 have hs0:∀no wh ln,qC4 F (cs S no wh ln) [a,b] m=(qHH S.performance.items a b).bind fun x5=>cond (!x5) (some (cs S no wh ln,(⟨#[110,111]⟩:ByteArray))) ((qAY S.performance S.performance.items).bind fun x7=>(qAV x7.items a).bind fun x9=>(qAV x9.marks b).bind fun x11=>(qAM F (cs S no wh ln) S.code (Performance.mk (x7.items.set a.toNat (Item.mk x9.names (x9.marks.set b.toNat m) x9.late)) x7.marks x7.slips)).bind fun x13=>some (x13.1,x13.2)):=fun no wh ln=>rfl
 rw[bnd e2]at hi0
 cases e
 ·refine Alike.stay h _ (by show (2:Nat)≤_;omega) hi0 (fun no wh ln=>?_)
  refine(hs0 no wh ln).trans ?_
  rw[bnd e1];rfl
 ·obtain⟨it,q,a0,b0,g1,g2,gm⟩:=e3 rfl
  obtain⟨i,rfl⟩:=Int.eq_ofNat_of_zero_le a0
  obtain⟨k,rfl⟩:=Int.eq_ofNat_of_zero_le b0
  have hv:=h.val.call hF (i:=i) (k:=k) (it:=it) (m:=m) (by rw[←qEp rfl];exact g1) hm
  rw[Bool.not_true,cF,bnd (qO1 hP.2.1 g1 g2)]at hi0
  refine⟨_,_,hi0,fun no wh ln=>?_,⟨hv,h.fac,h.res⟩,by show (2:Nat)≤_;omega⟩
  refine(hs0 no wh ln).trans ?_
  rw[bnd e1,Bool.not_true,cF,bnd (h.with hF),bnd g1,bnd g2,Int.toNat_natCast,Int.toNat_natCast,bnd (qKA (show qBZ F S.code (Performance.mk (S.performance.items.set i (Item.mk it.names (it.marks.set k m) it.late)) S.performance.marks S.performance.slips)=some true from hv.good.1))]
  rfl
end
section
theorem qSK (f:Nat→List (List Int)→List (List Int)→Int→Option Marks) (R:List (List Int)→Option Marks) (L:Nat) (j mark:Int)
  (hf:∀k a b v,f (k+1) a b v=cond (decide (v<(L:Int))) ((qAV b v).bind fun x=>(qAV x j).bind fun _=>f k (b.set v.toNat (x.set j.toNat mark)) (b.set v.toNat (x.set j.toNat mark)) (w64 (v+1))) (R b)) :
  ∀(n fl:Nat) (a dn rest:List (List Int)),rest.length=n→n<fl→L=dn.length+n→L≤1000→(∀g∈rest,qRJ g j)→f fl a (dn++rest) (dn.length:Int)=R (dn++rest.map fun r=>r.set j.toNat mark):=by
 intro n
 induction n with
 |zero =>
  intro fl a dn rest h hf' hd _ _
  obtain⟨f',rfl⟩:=nZ9 (by omega:fl≠0)
  obtain rfl:=List.length_eq_zero_iff.1 h
  rw[hf,dF (by omega),cF,List.map_nil]
 |succ n ih =>
  intro fl a dn rest h hf' hd hL hg
  obtain⟨f',rfl⟩:=nZ9 (by omega:fl≠0)
  obtain⟨y,ys,rfl⟩:=List.exists_cons_of_length_eq_add_one h
  simp only[List.length_cons]at h
  obtain⟨x,hx⟩:=qMZ (hg y (by simp))
  have g1:qAV (dn++y::ys) (dn.length:Int)=some y:=qDm rfl rfl
  have hs:∀z:List Int,(dn++y::ys).set ((dn.length:Int)).toNat z=(dn++[z])++ys:=fun z=>by simp
  rw[hf,dT (by omega),cW,bnd g1,bnd hx,hs,qAD (by omega),show (dn.length:Int)+1=((dn++[y.set j.toNat mark]).length:Int) from by simp]
  rw[ih f' _ (dn++[y.set j.toNat mark]) ys (by omega) (by omega) (by simp;omega) hL (fun g hg'=>hg g (by simp[hg'])),List.map_cons,List.append_assoc]
  rfl
theorem qXv {m:Marks} (h:qGy m) {j:Int} (h1:∀g∈m.grades,qRJ g j) (h2:∀g∈m.components,qRJ g j) (F:Nat) (hF:1048576<F):qFc F m j false=some (jud m j (-5) 0)∧qFc F m j true=some (jud m j 5 1000):=by
 have h14:=h.1
 have h3:=h.2.1
 unfold qFc
 rw[bnd (qIc h).1,bnd (qIc h).1,cF,cW]
 constructor
 ·have e2:=fun g=>qSK (qEA j m g) (fun b=>some (Marks.mk g b)) m.components.length j 0 (fun k a b v=>by rw[qEA]) m.components.length F m.components [] m.components rfl (by omega) (by simp) (by omega) h2
  have e1:=qSK (qE7 j F m) (fun b=>qEA j m b F m.components m.components 0) m.grades.length j (-5) (fun k a b v=>by rw[qE7]) m.grades.length F m.grades [] m.grades rfl (by omega) (by simp) (by omega) h1
  simp only[List.nil_append,List.length_nil]at e1 e2
  exact e1.trans (e2 _)
 ·have e2:=fun g=>qSK (qEE j m g) (fun b=>some (Marks.mk g b)) m.components.length j 1000 (fun k a b v=>by rw[qEE]) m.components.length F m.components [] m.components rfl (by omega) (by simp) (by omega) h2
  have e1:=qSK (qE3 j F m) (fun b=>qEE j m b F m.components m.components 0) m.grades.length j 5 (fun k a b v=>by rw[qE3]) m.grades.length F m.grades [] m.grades rfl (by omega) (by simp) (by omega) h1
  simp only[List.nil_append,List.length_nil]at e1 e2
  exact e1.trans (e2 _)
theorem qUQ {F:Nat} (hF:1048576<F) {S:ScriptState} (h:SGood F S) {L:List Int} (hl:L.length=1):Alike F S (qAL F S ⟨#[114,97,110,103,101]⟩ L) (fun x=>qAE F x ⟨#[114,97,110,103,101]⟩ L):=by
 obtain⟨j,rfl⟩:=qRw hl
 have hP:=h.val.perf hF
 have hM:=qLO hP
 have hfac:=h.fac
 obtain⟨b,r,b1,b2,r1,r2,b3,b4⟩:=qNa h.val.mg j
 have hs0:∀no wh ln,qAE F (cs S no wh ln) ⟨#[114,97,110,103,101]⟩ [j]=cond (!b) (some (cs S no wh ln,(⟨#[110,111]⟩:ByteArray))) ((qGb F S.code S.performance S.factor j).bind fun x37=>(qBC F [x37.1,x37.2]).bind fun x39=>some (cs S no wh ln,x39)):=fun no wh ln=>by
  show ((qAY S.performance S.performance.items).bind fun x1=>(qFq x1.marks j).bind fun x35=>cond (!x35) (some (cs S no wh ln,(⟨#[110,111]⟩:ByteArray))) ((qGb F S.code x1 S.factor j).bind fun x37=>(qBC F [x37.1,x37.2]).bind fun x39=>some (cs S no wh ln,x39)))=_
  rw[bnd (h.with hF),bnd b1]
 have hi0:qAL F S ⟨#[114,97,110,103,101]⟩ [j]=cond (!b) (some (S,(⟨#[110,111]⟩:ByteArray))) ((qD9 F S.code S.performance S.factor j).bind fun x3=>(qAx [x3.1,x3.2]).bind fun x28=>some (S,x28)):=by
  show ((qFO F S.code S.performance S.factor j).bind fun x26=>cond (!x26.2.2) (some (S,(⟨#[110,111]⟩:ByteArray))) ((qAx [x26.1,x26.2.1]).bind fun x28=>some (S,x28)))=_
  unfold qFO qIo qAy
  obtain⟨d,d1,_,d2⟩:=qEn j 0 ((r.length:Int)-1)
  obtain rfl:b=d:=Bool.eq_iff_iff.2 (b3.trans d2.symm)
  rw[bnd (qVW h).2,qCV,bnd r1,oB9,qCV,qAD (by omega),bnd d1,Bool.true_and,oB9]
  cases b
  ·rfl
  ·rw[Bool.not_true,cF,cF]
   cases hq:qD9 F S.code S.performance S.factor j<;>rfl
 cases b
 ·exact Alike.stay h _ (by show (2:Nat)≤_;omega) hi0 hs0
 ·obtain⟨g1,c1⟩:=b4 rfl
  have h14:=hP.2.2.2.1.1
  obtain⟨hc,hl',hk,hm,hn,hs⟩:=hM
  have e1:=qWP hm h14 g1 c1 (-5) 0 F hF
  have e2:=qWP hm h14 g1 c1 5 1000 F hF
  obtain⟨m1,m2⟩:=qXv h.val.mg g1 c1 F hF
  have pl:qQV S.code (Performance.mk S.performance.items (jud S.performance.marks j (-5) 0) S.performance.slips):=⟨hc,hl',hk,qWZ hm g1 c1 (by omega) (by omega),by show ((S.performance.marks.grades.map fun r=>r.set j.toNat (-5)).length)=_;rw[List.length_map];exact hn,hs⟩
  have ph:qQV S.code (Performance.mk S.performance.items (jud S.performance.marks j 5 1000) S.performance.slips):=⟨hc,hl',hk,qWZ hm g1 c1 (by omega) (by omega),by show ((S.performance.marks.grades.map fun r=>r.set j.toNat 5).length)=_;rw[List.length_map];exact hn,hs⟩
  obtain⟨s1,s2⟩:=qMs pl (f:=S.factor) (by omega) F hF
  obtain⟨s3,s4⟩:=qMs ph (f:=S.factor) (by omega) F hF
  have n1:=(qOE pl (f:=S.factor) (by omega) F hF).2.2
  have n2:=(qOE ph (f:=S.factor) (by omega) F hF).2.2
  obtain⟨t,t1,_,t3,t4⟩:=qMr F (by omega) [qD1 S.code (Performance.mk S.performance.items (jud S.performance.marks j (-5) 0) S.performance.slips) S.factor,qD1 S.code (Performance.mk S.performance.items (jud S.performance.marks j 5 1000) S.performance.slips) S.factor] (fun n hn=>by
   unfold qVB
   simp only[List.mem_cons,List.not_mem_nil,or_false]at hn
   rcases hn with rfl|rfl<;>omega) (by simp)
  refine Alike.stay h t (by simp at t4;omega) (hi0.trans ?_) (fun no wh ln=>(hs0 no wh ln).trans ?_)
  ·unfold qD9
   rw[Bool.not_true,cF,bnd e1,bnd e2,bnd s1,bnd s3,oB9,bnd (t3 (by simp))]
  ·unfold qGb qHn
   rw[Bool.not_true,cF,bnd m1,s2,oB9,oB9,bnd m2,s4,oB9,oB9,oB9,bnd t1]
def qXQ (l:List Item) (x:List Int):Prop:=∃(i k:Nat) (m:Int) (it:Item) (q:Int),x=[(i:Int),(k:Int),m]∧qAV l (i:Int)=some it∧qAV it.marks (k:Int)=some q∧0≤m∧m≤3
theorem qV0 (P:List Int→Prop) (k1 k2:Nat) (y:Int) (hP:∀m,0≤m→m≤3→P [(k1:Int),(k2:Int),m]):∀(n fl:Nat) (v:List (List Int)) (m:Int),m+n=4→0≤m→n<fl→v.length+n≤2000→(∀x∈v,P x)→
  ∃w,qEm k1 k2 y fl v m=some w∧qBp k1 k2 y fl v m=some w∧(∀x∈w,P x)∧w.length≤v.length+n:=by
 intro n
 induction n with
 |zero =>
  intro fl v m h _ hf _ hv
  obtain⟨f,rfl⟩:=nZ9 (by omega:fl≠0)
  rw[qEm,qBp,dF (by omega),cF,cF]
  exact⟨v,rfl,rfl,hv,by omega⟩
 |succ n ih =>
  intro fl v m h h0 hf hl hv
  obtain⟨f,rfl⟩:=nZ9 (by omega:fl≠0)
  rw[qEm,qBp,dT (by omega),cW,cW,qAD (by omega)]
  cases (m != y)
  ·obtain⟨w,w1,w2,w3,w4⟩:=ih f v (m+1) (by omega) (by omega) (by omega) (by omega) hv
   exact⟨w,w1,w2,w3,by omega⟩
  ·rw[cW,cW,ndf (by omega) (by simp;omega),oB9,oB9]
   obtain⟨w,w1,w2,w3,w4⟩:=ih f (v++[[(k1:Int),(k2:Int),m]]) (m+1) (by omega) (by omega) (by omega) (by simp;omega) (fun x hx=>by
    rcases List.mem_append.1 hx with hx|hx
    ·exact hv x hx
    ·rw[List.mem_singleton.1 hx];exact hP m h0 (by omega))
   exact⟨w,w1,w2,w3,by simp at w4;omega⟩
theorem qSb (P:List Int→Prop) (F:Nat) (hF:1048576<F) (k1:Nat):∀(ys:List Int) (k2:Nat) (v:List (List Int)),(∀m (q:Nat),k2≤q→q<k2+ys.length→0≤m→m≤3→P [(k1:Int),(q:Int),m])→v.length+4*ys.length≤2000→(∀x∈v,P x)→
  ∃w,qEh F k1 ys k2 v=some w∧qBs F k1 ys k2 v=some w∧(∀x∈w,P x)∧w.length≤v.length+4*ys.length
 | [],k2,v,_,_,hv=>⟨v,by rw[qEh],by rw[qBs],hv,by simp⟩
 |y::ys,k2,v,hP,hl,hv=>by
  simp only[List.length_cons]at hP hl⊢
  obtain⟨w,w1,w2,w3,w4⟩:=qV0 P k1 k2 y (fun m m0 m3=>hP m k2 (by omega) (by omega) m0 m3) 4 F v 0 (by omega) (by omega) (by omega) (by omega) hv
  obtain⟨u,u1,u2,u3,u4⟩:=qSb P F hF k1 ys (k2+1) w (fun m q q1 q2 m0 m3=>hP m q (by omega) (by omega) m0 m3) (by omega) w3
  rw[qEh,qBs,bnd w1,bnd w2]
  exact⟨u,u1,u2,u3,by omega⟩
theorem qRv (F:Nat) (hF:1048576<F) (l:List Item) (hl:qEI l):∀(ys pre:List Item) (v:List (List Int)),l=pre++ys→v.length+12*ys.length≤2000→(∀x∈v,qXQ l x)→
  ∃w,qEf F ys pre.length v=some w∧qBn F ys pre.length v=some w∧(∀x∈w,qXQ l x)
 | [],pre,v,_,_,hv=>⟨v,by rw[qEf],by rw[qBn],hv⟩
 |y::ys,pre,v,h,hb,hv=>by
  have hg:=qDm (pre:=pre) (y:=y) (ys:=ys) h rfl
  have hy:=hl.2 y (by rw[h];simp)
  unfold qFl at hy
  simp only[List.length_cons]at hb
  obtain⟨w,w1,w2,w3,w4⟩:=qSb (qXQ l) F hF pre.length y.marks 0 v (fun m q q1 q2 m0 m3=>⟨pre.length,q,m,y,y.marks[q]'(by omega),rfl,hg,by rw[qEp rfl];exact List.getElem?_eq_getElem _,m0,m3⟩) (by omega) hv
  obtain⟨u,u1,u2,u3⟩:=qRv F hF l hl ys (pre++[y]) w (by rw[h];simp) (by omega) w3
  rw[show (pre++[y]).length=pre.length+1 from by simp]at u1 u2
  rw[qEf,qBn,bnd w1,bnd w2]
  exact⟨u,u1,u2,u3⟩
theorem qSW {F:Nat} (hF:1048576<F) {S:ScriptState} (h:SGood F S) {x:List Int} (hx:qXQ S.performance.items x):∃(a b m s:Int) (l:List Item),x=[a,b,m]∧(0≤m∧m≤3)∧(0≤a∧a≤100)∧(0≤b∧b≤100)∧qIV F S.code S.performance S.factor a b m=some s∧qEH S.performance.items a b m=some l∧qGm F S.code S.performance S.factor l=some s:=by
 obtain⟨i,k,m,it,q,rfl,g1,g2,m0,m3⟩:=hx
 have hP:=h.val.perf hF
 have hfac:=h.fac
 have g3:S.performance.items[i]?=some it:=by rw[←qEp rfl];exact g1
 have hv:=h.val.call hF (i:=i) (k:=k) (it:=it) (m:=m) g3 ⟨m0,m3⟩
 have hi14:=hP.2.1.1
 have hilt:=(List.getElem?_eq_some_iff.1 g3).1
 have hit:=hP.2.1.2 it (List.mem_of_getElem? g3)
 unfold qFl at hit
 have hklt:k<it.marks.length:=by rw[qEp rfl]at g2;exact(List.getElem?_eq_some_iff.1 g2).1
 obtain⟨s1,s2⟩:=qMs (qLO (hv.perf hF)) (f:=S.factor) (by omega) F hF
 refine⟨_,_,_,qD1 S.code (Performance.mk (callL S.performance.items i k it m) S.performance.marks S.performance.slips) S.factor,callL S.performance.items i k it m,rfl,⟨m0,m3⟩,by omega,by omega,?_,qO1 hP.2.1 g1 g2,?_⟩
 ·unfold qIV
  rw[bnd (h.with hF),bnd g1,bnd g2,Int.toNat_natCast,Int.toNat_natCast]
  show ((qDA F S.code (Performance.mk (callL S.performance.items i k it m) S.performance.marks S.performance.slips) S.factor).bind fun x7=>some x7)=_
  rw[bnd s2]
 ·unfold qGm
  rw[bnd s1]
theorem qUk {F:Nat} (hF:1048576<F) {S:ScriptState} (h:SGood F S):∀(ys:List (List Int)) (k:Nat) (u v:List Int) (s:Int) (fd:Bool),(∀x∈ys,qXQ S.performance.items x)→((fd=false∧u=[0,0,0]∧v=[])∨(fd=true∧u=v∧qXQ S.performance.items v))→
  ∃a b m d,qBS S.code S.performance S.factor F ys k u s fd=some (a,b,m,d)∧qBP S.code S.performance S.factor F ys k s v=some (a,b,m,d)∧(0≤m∧m≤3)∧(0≤a∧a≤100)∧(0≤b∧b≤100)
 | [],k,u,v,s,fd,_,hv=>by
  rw[qBS,qBP]
  rcases hv with⟨rfl,rfl,rfl⟩|⟨rfl,rfl,hq⟩
  ·exact⟨0,0,0,false,rfl,rfl,by omega,by omega,by omega⟩
  ·obtain⟨a,b,m,_,_,rfl,hm,ha,hb,_⟩:=qSW hF h hq
   exact⟨a,b,m,true,rfl,rfl,hm,ha,hb⟩
 |y::ys,k,u,v,s,fd,hy,hv=>by
  have hyy:=hy y (by simp)
  obtain⟨a,b,m,t,l,rfl,hm,ha,hb,e1,e2,e3⟩:=qSW hF h hyy
  rw[qBS,qBP,show qAV [a,b,m] 0=some a from rfl,show qAV [a,b,m] 1=some b from rfl,show qAV [a,b,m] 2=some m from rfl]
  simp only[oB9]
  rw[bnd e1,bnd e2,bnd e3]
  cases decide (t>s)
  ·exact qUk hF h ys (k+1) u v s fd (fun x hx=>hy x (by simp[hx])) hv
  ·exact qUk hF h ys (k+1) [a,b,m] [a,b,m] t true (fun x hx=>hy x (by simp[hx])) (.inr ⟨rfl,rfl,hyy⟩)
theorem qUM {F:Nat} (hF:1048576<F) {S:ScriptState} (h:SGood F S):∃a b m d,qEV F S.code S.performance S.factor=some (a,b,m,d)∧qEX F S.code S.performance S.factor=some (a,b,m,d)∧(0≤m∧m≤3)∧(0≤a∧a≤100)∧(0≤b∧b≤100):=by
 have hP:=h.val.perf hF
 have hfac:=h.fac
 obtain⟨s1,s2⟩:=qMs (qLO hP) (f:=S.factor) (by omega) F hF
 obtain⟨w,w1,w2,w3⟩:=qRv F hF S.performance.items hP.2.1 S.performance.items [] [] rfl (by have:=hP.2.1.1;simp;omega) (by simp)
 rw[List.length_nil]at w1 w2
 obtain⟨a,b,m,d,e1,e2,e3⟩:=qUk hF h w 0 [0,0,0] [] (qD1 S.code S.performance S.factor) false w3 (.inl ⟨rfl,rfl,rfl⟩)
 refine⟨a,b,m,d,?_,?_,e3⟩
 ·unfold qEV qKd
  rw[bnd (qVW h).1,Bool.not_true,cF,bnd s2,bnd w1,e1]
 ·unfold qEX qHc
  rw[bnd (qVW h).2,Bool.not_true,cF,bnd s1,bnd w2,e2]
theorem qVk {F:Nat} (hF:1048576<F) {S:ScriptState} (h:SGood F S):Alike F S (qAL F S ⟨#[98,101,115,116]⟩ []) (fun x=>qAX F x ⟨#[98,101,115,116]⟩):=by
 obtain⟨a,b,m,d,e1,e2,hm,ha,hb⟩:=qUM hF h
 have hi0:qAL F S ⟨#[98,101,115,116]⟩ []=(qEX F S.code S.performance S.factor).bind fun x30=>cond (!x30.2.2.2) (some (S,(⟨#[110,111,110,101]⟩:ByteArray))) ((qAx [x30.1,x30.2.1]).bind fun x32=>(qAz (Nat.ble (x32.size+(⟨#[32]⟩:ByteArray).size) qEO)).bind fun u34=>(qAV qNI x30.2.2.1).bind fun x36=>(qAz (Nat.ble ((x32++(⟨#[32]⟩:ByteArray)).size+x36.size) qEO)).bind fun u38=>some (S,((x32++(⟨#[32]⟩:ByteArray))++x36))):=rfl
 have hs0:∀no wh ln,qAX F (cs S no wh ln) ⟨#[98,101,115,116]⟩=(qEV F S.code S.performance S.factor).bind fun x25=>cond (!x25.2.2.2) (some (cs S no wh ln,(⟨#[110,111,110,101]⟩:ByteArray))) ((qBC F [x25.1,x25.2.1]).bind fun x27=>(qAz (Nat.ble (x27.size+(⟨#[32]⟩:ByteArray).size) qEO)).bind fun u29=>(qAV qNI x25.2.2.1).bind fun x33=>(qAz (Nat.ble ((x27++(⟨#[32]⟩:ByteArray)).size+x33.size) qEO)).bind fun u35=>some (cs S no wh ln,((x27++(⟨#[32]⟩:ByteArray))++x33))):=fun no wh ln=>rfl
 rw[bnd e2]at hi0
 obtain⟨t,t1,_,t3,t4⟩:=qMr F (by omega) [a,b] (fun n hn=>by
  unfold qVB
  simp only[List.mem_cons,List.not_mem_nil,or_false]at hn
  rcases hn with rfl|rfl<;>omega) (by simp)
 obtain⟨w,w1,_,w3⟩:=qX7 m hm
 have e32:(⟨#[32]⟩:ByteArray).size=1:=rfl
 simp only[List.length_cons,List.length_nil]at t4
 cases d
 ·refine Alike.stay h _ (by show (4:Nat)≤_;omega) hi0 (fun no wh ln=>?_)
  refine(hs0 no wh ln).trans ?_
  rw[bnd e1];rfl
 ·refine Alike.stay h ((t++(⟨#[32]⟩:ByteArray))++w) (by simp only[ByteArray.size_append];omega) (hi0.trans ?_) (fun no wh ln=>(hs0 no wh ln).trans ?_)
  ·rw[Bool.not_true,cF,bnd (t3 (by simp)),nd (by omega),oB9,bnd w1,nd (by simp only[ByteArray.size_append];omega),oB9]
  ·rw[bnd e1,Bool.not_true,cF,bnd t1,nd (by omega),oB9,bnd w1,nd (by simp only[ByteArray.size_append];omega),oB9]
end
section
theorem qUN {l:List Result} (h:qPe l):qXc l:=by
 obtain⟨h1,h2,h3,h4⟩:=h
 refine⟨fun r hr=>?_,fun r hr q hq=>by rw[h3 r hr,h3 q hq],fun r hr=>(h1 r hr).1,h2,h4⟩
 obtain⟨_,a,b,_⟩:=h1 r hr
 exact⟨a.2,b⟩
theorem qWG {l:List Result} (h:qXc l) (F:Nat) (hF:5<F) (i:Int) (hi:0≤i∧i<(l.length:Int)):qVB (plR l F i)∧0≤plR l F i:=by
 have key:∀(ys:List Result) (k:Nat) (v:Int),(∀r∈ys,r∈l)→0≤v→v+ys.length≤100000→∃r,qBT l i F ys k v=some r∧0≤r∧r≤100000:=by
  intro ys
  induction ys with
  |nil=>intro k v _ h0 h1;exact⟨v,by rw[qBT],h0,by simpa using h1⟩
  |cons y ys ih =>
   intro k v hy h0 h1
   simp only[List.length_cons]at h1
   obtain⟨r,hr,g,_⟩:=qWa hi
   rw[qBT,bnd g,bnd (qR7 (h.ok y (hy y (by simp))) (h.ok r hr) (h.eqs _ (hy y (by simp)) _ hr) F hF),qAD (by omega)]
   cases decide (sg (qTC y-qTC r)>0)
   ·exact ih (k+1) v (fun z hz=>hy z (by simp[hz])) h0 (by omega)
   ·exact ih (k+1) (v+1) (fun z hz=>hy z (by simp[hz])) (by omega) (by omega)
 obtain⟨r,r1,r2,r3⟩:=key l 0 1 (fun z hz=>hz) (by omega) (by have:=h.len;omega)
 have e:plR l F i=r:=by unfold plR qCW;rw[r1];rfl
 rw[e]
 exact⟨by unfold qVB;omega,r2⟩
theorem qQi {l:List Result} (h:qXc l) (F:Nat) (hF:5<F):∀(ys:List Result) (k:Nat) (v:List Int),k+ys.length=l.length→v.length+ys.length≤1000→(∀x∈v,qVB x)→∃w,qCn l F ys k v=some w∧qA5 l F ys k v=some (w,true)∧(∀x∈w,qVB x)∧w.length=v.length+ys.length
 | [],k,v,_,_,hv=>⟨v,by rw[qCn],by rw[qA5],hv,by simp⟩
 |y::ys,k,v,hk,hl,hv=>by
  simp only[List.length_cons]at hk hl
  obtain⟨p1,p2⟩:=qR6 h F hF (k:Int) (by omega)
  have pb:=qWG h F hF (k:Int) (by omega)
  obtain⟨w,w1,w2,w3,w4⟩:=qQi h F hF ys (k+1) (v++[plR l F k]) (by omega) (by simp;omega) (fun x hx=>by
   rcases List.mem_append.1 hx with hx|hx
   ·exact hv x hx
   ·rw[List.mem_singleton.1 hx];exact pb.1)
  rw[qCn,qA5,bnd p1,bnd p2,ndf (by omega) (by simp;omega),oB9,oB9]
  exact⟨w,w1,w2,w3,by rw[w4];simp;omega⟩
theorem qR2 {l:List Result} (h:qPe l):∀r∈l,r.scores.length≤1048576:=fun r hr=>by have:=(h.1 r hr).2.1.2;omega
theorem qRl {F:Nat} (hF:1048576<F) {S:ScriptState} (h:SGood F S):Alike F S (qA7 F S ⟨#[112,108,97,99,101,115]⟩ []) (fun x=>qAX F x ⟨#[112,108,97,99,101,115]⟩):=by
 have hR:=qUN h.res
 have h40:=h.res.2.2.2
 obtain⟨w,w1,w2,w3,w4⟩:=qQi hR F (by omega) S.results 0 [] (by simp) (by simp;omega) (by simp)
 obtain⟨b,b1,b2⟩:=qLq S.results (by omega) (qR2 h.res)
 obtain rfl:=b2.2 h.res
 obtain⟨t,t1,t2,_,t4⟩:=qMr F (by omega) w w3 (by rw[w4];simp;omega)
 simp only[List.length_nil,Nat.zero_add]at w4
 refine Alike.stay h t (by omega) ?_ (fun no wh ln=>?_)
 ·show ((qEM F S.results).bind fun x2=>(qCY x2.1).bind fun x4=>some (S,x4))=_
  unfold qEM
  rw[bnd b1,Bool.not_true,cF,bnd w2,bnd t2]
 ·show ((qHI F S.results).bind fun x38=>(qBC F x38).bind fun x40=>some (cs S no wh ln,x40))=_
  unfold qHI
  rw[bnd w1,bnd t1]
theorem qSy {F:Nat} (hF:1048576<F) {S:ScriptState} (h:SGood F S) {L:List Int} (hl:L.length=1):Alike F S (qA7 F S ⟨#[115,107,97,116,101,114]⟩ L) (fun x=>qAE F x ⟨#[115,107,97,116,101,114]⟩ L):=by
 obtain⟨n,rfl⟩:=qRw hl
 have hP:=h.val.perf hF
 have hfac:=h.fac
 have h40:=h.res.2.2.2
 obtain⟨s1,s2⟩:=qMs (qLO hP) (f:=S.factor) (by omega) F hF
 have hlen:(S.results++[Result.mk n [qD1 S.code S.performance S.factor]]).length=S.results.length+1:=by simp
 have hsc:∀r∈S.results++[Result.mk n [qD1 S.code S.performance S.factor]],r.scores.length≤1048576:=fun r hr=>by
  rcases List.mem_append.1 hr with hr|hr
  ·exact qR2 h.res r hr
  ·rw[List.mem_singleton.1 hr];show 1≤_;omega
 obtain⟨b,b1,b2⟩:=qLq (S.results++[Result.mk n [qD1 S.code S.performance S.factor]]) (by omega) hsc
 obtain⟨d,d1,d2⟩:=qS9 (S.results++[Result.mk n [qD1 S.code S.performance S.factor]]) (by omega)
 obtain rfl:b=d:=Bool.eq_iff_iff.2 (b2.trans d2.symm)
 have e1:qAz (qAh 32 S.results.length)=some ():=ndf (by omega) (by omega)
 have e2:qAz (qAh 32 (S.results.length+[Result.mk n [qD1 S.code S.performance S.factor]].length))=some ():=ndf (by omega) (by simp;omega)
 have ew:w64 (((S.results++[Result.mk n [qD1 S.code S.performance S.factor]]).length:Int)-1)=(S.results.length:Int):=by rw[hlen,qAD (by omega)];omega
 have hi0:qA7 F S ⟨#[115,107,97,116,101,114]⟩ [n]=cond (!b) (some (S,(⟨#[110,111]⟩:ByteArray))) ((qGS F (S.results++[Result.mk n [qD1 S.code S.performance S.factor]]) (S.results.length:Int)).bind fun x16=>(qCA x16).bind fun x18=>some ((ScriptState.mk S.code S.performance S.factor (S.results++[Result.mk n [qD1 S.code S.performance S.factor]])),x18)):=by
  show ((qBQ F S.code S.performance S.factor).bind _)=_
  rw[bnd s1,e1,oB9,show qAV [n] 0=some n from rfl,oB9,e2,oB9,bnd b1,ew]
 have hs0:∀no wh ln,qAE F (cs S no wh ln) ⟨#[115,107,97,116,101,114]⟩ [n]=cond (!b) (some (cs S no wh ln,(⟨#[110,111]⟩:ByteArray))) ((qCW F (S.results++[Result.mk n [qD1 S.code S.performance S.factor]]) (S.results.length:Int)).bind fun x16=>(qBe F F x16).bind fun x18=>some ((CsState.mk S.code S.performance S.factor (S.results++[Result.mk n [qD1 S.code S.performance S.factor]]) no wh ln),x18)):=fun no wh ln=>by
  show ((qAY S.performance S.performance.items).bind fun x1=>(qEe F (cs S no wh ln) n).bind fun x43=>some (x43.1,x43.2))=_
  rw[bnd (h.with hF)]
  unfold qEe
  rw[show qAz (qAh 32 (cs S no wh ln).results.length)=some () from e1,oB9,show qDA F (cs S no wh ln).code (cs S no wh ln).p (cs S no wh ln).factor=some _ from s2,oB9,show qAz (qAh 32 ((cs S no wh ln).results.length+[Result.mk n [qD1 S.code S.performance S.factor]].length))=some () from e2,oB9,show qIQ ((cs S no wh ln).results++[Result.mk n [qD1 S.code S.performance S.factor]])=some b from d1,oB9,show w64 ((((cs S no wh ln).results++[Result.mk n [qD1 S.code S.performance S.factor]]).length:Int)-1)=(S.results.length:Int) from ew]
  cases b
  ·rfl
  ·rw[Bool.not_true,cF,cF]
   show (((qCW F (S.results++[Result.mk n [qD1 S.code S.performance S.factor]]) (S.results.length:Int)).bind fun x9=>(qBe F F x9).bind fun x11=>some ((CsState.mk S.code S.performance S.factor (S.results++[Result.mk n [qD1 S.code S.performance S.factor]]) no wh ln),x11)).bind fun x43=>some (x43.1,x43.2))=_
   cases qCW F (S.results++[Result.mk n [qD1 S.code S.performance S.factor]]) (S.results.length:Int) with
   |none=>rfl
   |some z =>
    rw[oB9]
    cases qBe F F z<;>rfl
 cases b
 ·exact Alike.stay h _ (by show (2:Nat)≤_;omega) hi0 hs0
 ·have hok:=b2.1 rfl
  have hR:=qUN hok
  have hin:0≤(S.results.length:Int)∧(S.results.length:Int)<((S.results++[Result.mk n [qD1 S.code S.performance S.factor]]).length:Int):=by rw[hlen];omega
  obtain⟨p1,p2⟩:=qR6 hR F (by omega) (S.results.length:Int) hin
  obtain⟨pb,p0⟩:=qWG hR F (by omega) (S.results.length:Int) hin
  obtain⟨t,t1,t2,t3,t4⟩:=qXR F (by omega) _ pb
  unfold qDR at t1
  rw[dF (by omega),cF]at t1
  have t5:qBe F F (plR (S.results++[Result.mk n [qD1 S.code S.performance S.factor]]) F (S.results.length:Int))=some t:=by
   cases hq:qBe F F (plR (S.results++[Result.mk n [qD1 S.code S.performance S.factor]]) F (S.results.length:Int)) with
   |none=>rw[hq]at t1;cases t1
   |some z=>rw[hq]at t1;exact t1
  refine⟨ScriptState.mk S.code S.performance S.factor (S.results++[Result.mk n [qD1 S.code S.performance S.factor]]),t,hi0.trans ?_,fun no wh ln=>(hs0 no wh ln).trans ?_,⟨h.val,h.fac,hok⟩,by omega⟩
  ·rw[Bool.not_true,cF,bnd p2,bnd t2]
  ·rw[Bool.not_true,cF,bnd p1,bnd t5];rfl
end
section
def qVK (m:Nat):List UInt8:=if m=0 then [] else if m=1 then [60] else if m=2 then [101] else [42]
def qUx:List ByteArray:=[(⟨#[]⟩:ByteArray),(⟨#[60]⟩:ByteArray),(⟨#[101]⟩:ByteArray),(⟨#[42]⟩:ByteArray)]
theorem qVY (m:Nat) (h:m≤3):∃w,qAV qUx (m:Int)=some w∧toL w=qVK m∧w.size≤1:=by
 have:m=0∨m=1∨m=2∨m=3:=by omega
 rcases this with rfl|rfl|rfl|rfl<;>exact⟨_,rfl,rfl,by decide⟩
def qFp (l:List UInt8):List UInt8×Nat:=if l.getLast?=some 60 then (l.dropLast,1) else if l.getLast?=some 101 then (l.dropLast,2) else if l.getLast?=some 42 then (l.dropLast,3) else (l,0)
theorem qVz (l:List UInt8):(qFp l).2≤3:=by unfold qFp;split<;>(try split)<;>(try split)<;>simp
theorem qSB (l:List UInt8):(qFp l).1++qVK (qFp l).2=l:=by
 have key:∀c,l.getLast?=some c→l.dropLast++[c]=l:=fun c h=>by
  have hne:l≠[]:=fun e=>by rw[e]at h;cases h
  rw[List.getLast?_eq_some_getLast hne]at h
  rw[←Option.some.inj h,List.dropLast_concat_getLast hne]
 unfold qFp
 split
 ·rename_i h;exact key _ h
 ·split
  ·rename_i h;exact key _ h
  ·split
   ·rename_i h;exact key _ h
   ·exact List.append_nil l
theorem qWq (l:List UInt8) (c:UInt8):(∃t,l=t++[c])↔l.getLast?=some c:=by
 constructor
 ·rintro⟨t,rfl⟩;simp
 ·intro h
  have hne:l≠[]:=fun e=>by rw[e]at h;cases h
  rw[List.getLast?_eq_some_getLast hne]at h
  exact⟨l.dropLast,by rw[←Option.some.inj h,List.dropLast_concat_getLast hne]⟩
theorem qTQ (y:ByteArray) (hy:y.size≤1048576) (v:List ByteArray) (u:List Int) (hv:v.length≤3000) (hu:u.length≤3000) (F:Nat) (hF:1048576<F):∃r,qBh y v u F 1=some (v++[r],u++[((qFp (toL y)).2:Int)])∧toL r=(qFp (toL y)).1:=by
 obtain⟨f,rfl⟩:=nZ9 (show F≠0 by omega)
 obtain⟨f,rfl⟩:=nZ9 (show f≠0 by omega)
 obtain⟨f,rfl⟩:=nZ9 (show f≠0 by omega)
 obtain⟨f,rfl⟩:=nZ9 (show f≠0 by omega)
 have e1:w64 ((1:Int)+1)=2:=rfl
 have e2:w64 ((2:Int)+1)=3:=rfl
 have e3:w64 ((3:Int)+1)=4:=rfl
 have n1:∀(q:ByteArray),qAz (qAh 16 (v.length+[q].length))=some ():=fun q=>ndf (by omega) (by simp;omega)
 have n2:∀(q:Int),qAz (qAh 8 (u.length+[q].length))=some ():=fun q=>ndf (by omega) (by simp;omega)
 have no:∀(c:UInt8),(∀t,toL y≠t++[c])→(toL y).getLast?≠some c:=fun c h q=>by
  obtain⟨t,ht⟩:=(qWq (toL y) c).2 q
  exact h t ht
 have yes:∀(c:UInt8) (r:ByteArray),toL y=toL r++[c]→(toL y).getLast?=some c∧(toL y).dropLast=toL r:=fun c r h=>by rw[h];simp
 rw[qBh,show decide ((1:Int)≤3)=true from rfl,cW,show (qAV [(⟨#[]⟩:ByteArray),(⟨#[60]⟩:ByteArray),(⟨#[101]⟩:ByteArray),(⟨#[42]⟩:ByteArray)] 1)=some (⟨#[60]⟩:ByteArray) from rfl,oB9]
 rcases qYX y ⟨#[60]⟩ hy (by decide) with⟨r,r1,r2⟩|⟨a1,a2⟩
 ·obtain⟨h1,h2⟩:=yes 60 r r2
  rw[bnd r1,cW,n1,oB9,n2,oB9]
  refine⟨r,?_,?_⟩<;>unfold qFp<;>rw[if_pos h1]
  ·rfl
  ·exact h2.symm
 have a3:=no 60 a1
 rw[bnd a2,cF,e1,qBh,show decide ((2:Int)≤3)=true from rfl,cW,show (qAV [(⟨#[]⟩:ByteArray),(⟨#[60]⟩:ByteArray),(⟨#[101]⟩:ByteArray),(⟨#[42]⟩:ByteArray)] 2)=some (⟨#[101]⟩:ByteArray) from rfl,oB9]
 rcases qYX y ⟨#[101]⟩ hy (by decide) with⟨r,r1,r2⟩|⟨b1,b2⟩
 ·obtain⟨h1,h2⟩:=yes 101 r r2
  rw[bnd r1,cW,n1,oB9,n2,oB9]
  refine⟨r,?_,?_⟩<;>unfold qFp<;>rw[if_neg a3,if_pos h1]
  ·rfl
  ·exact h2.symm
 have b3:=no 101 b1
 rw[bnd b2,cF,e2,qBh,show decide ((3:Int)≤3)=true from rfl,cW,show (qAV [(⟨#[]⟩:ByteArray),(⟨#[60]⟩:ByteArray),(⟨#[101]⟩:ByteArray),(⟨#[42]⟩:ByteArray)] 3)=some (⟨#[42]⟩:ByteArray) from rfl,oB9]
 rcases qYX y ⟨#[42]⟩ hy (by decide) with⟨r,r1,r2⟩|⟨c1,c2⟩
 ·obtain⟨h1,h2⟩:=yes 42 r r2
  rw[bnd r1,cW,n1,oB9,n2,oB9]
  refine⟨r,?_,?_⟩<;>unfold qFp<;>rw[if_neg a3,if_neg b3,if_pos h1]
  ·rfl
  ·exact h2.symm
 have c3:=no 42 c1
 rw[bnd c2,cF,e3,qBh,show decide ((4:Int)≤3)=false from rfl,cF,n1,oB9,n2,oB9]
 refine⟨y,?_,?_⟩<;>unfold qFp<;>rw[if_neg a3,if_neg b3,if_neg c3]
 rfl
theorem qQd (f:List ByteArray→Nat→Int→Option (List ByteArray×List Int)) (y:ByteArray) (hy:y.size≤1048576) (v:List ByteArray) (u:List Int) (hv:v.length≤3000) (hu:u.length≤3000)
  (f0:∀k m,f [] k m=cond (decide (m>0)) ((qAz (inB 0 (w64 ((y.size:Int)-1)) y.size)).bind fun _=>(qAz (qAh 16 (v.length+([(ByteArray.extract y 0 (w64 ((y.size:Int)-1)).toNat)]).length))).bind fun _=>(qAz (qAh 8 (u.length+([m]).length))).bind fun _=>some ((v++[(ByteArray.extract y 0 (w64 ((y.size:Int)-1)).toNat)]),(u++[m])))
   ((qAz (qAh 16 (v.length+([y]).length))).bind fun _=>(qAz (qAh 8 (u.length+([m]).length))).bind fun _=>some ((v++[y]),(u++[m]))))
  (f1:∀z zs k m,f (z::zs) k m=(opt (decide ((k:Int)>0)&&decide ((y.size:Int)>0)) default (qAz (inB (w64 ((y.size:Int)-1)) y.size y.size))).bind fun _=>cond ((decide ((k:Int)>0)&&decide ((y.size:Int)>0))&&decide ((ByteArray.extract y (w64 ((y.size:Int)-1)).toNat y.size)=z)) (f zs (k+1) (k:Int)) (f zs (k+1) m)) :
  ∃r,f qUx 0 0=some (v++[r],u++[((qFp (toL y)).2:Int)])∧toL r=(qFp (toL y)).1:=by
 have n1:∀(q:ByteArray),qAz (qAh 16 (v.length+[q].length))=some ():=fun q=>ndf (by omega) (by simp;omega)
 have n2:∀(q:Int),qAz (qAh 8 (u.length+[q].length))=some ():=fun q=>ndf (by omega) (by simp;omega)
 have hsz:=qCh y
 by_cases h0:y.size=0
 ·have hnil:toL y=[]:=List.length_eq_zero_iff.1 (by omega)
  unfold qUx
  have st:∀z zs k m,f (z::zs) k m=f zs (k+1) m:=fun z zs k m=>by
   rw[f1,dF (show ¬(y.size:Int)>0 by omega),Bool.and_false,qDa,oB9,Bool.false_and,cF]
  rw[st,st,st,st,f0,show decide ((0:Int)>0)=false from rfl,cF,n1,oB9,n2,oB9]
  refine⟨y,?_,?_⟩<;>rw[hnil]
  ·rfl
  ·rfl
 have hw:w64 ((y.size:Int)-1)=((y.size-1:Nat):Int):=by rw[qAD (by omega)];omega
 have hne:toL y≠[]:=fun e=>h0 (by rw[e]at hsz;exact hsz.symm)
 have hin:inB ((y.size-1:Nat):Int) y.size y.size=true:=by unfold inB;simp
 have hin2:inB 0 ((y.size-1:Nat):Int) y.size=true:=by unfold inB;simp
 have hlast:toL (ByteArray.extract y (y.size-1) y.size)=[(toL y).getLast hne]:=by
  rw[show toL (ByteArray.extract y (y.size-1) y.size)=(toL y).drop (y.size-1) from Go.Lib.extract_to_end y (y.size-1),←hsz]
  have e:=List.dropLast_concat_getLast hne
  have:((toL y).dropLast++[(toL y).getLast hne]).drop ((toL y).length-1)=[(toL y).getLast hne]:=by rw[←List.length_dropLast,List.drop_left]
  rw[e]at this
  exact this
 have hinit:toL (ByteArray.extract y 0 (y.size-1))=(toL y).dropLast:=by
  rw[show toL (ByteArray.extract y 0 (y.size-1))=((toL y).drop 0).take (y.size-1-0) from Go.Lib.extract_data y 0 (y.size-1),List.dropLast_eq_take,←hsz];rfl
 have hgl:(toL y).getLast?=some ((toL y).getLast hne):=List.getLast?_eq_some_getLast hne
 have fin:∀k m,0<m→f [] k m=some (v++[ByteArray.extract y 0 (y.size-1)],u++[m]):=fun k m hm=>by
  rw[f0,dT hm,cW,hw,hin2,qD3,oB9,Int.toNat_natCast,n1,oB9,n2,oB9]
 have st0:∀z zs m,f (z::zs) 0 m=f zs 1 m:=fun z zs m=>by
  rw[f1,show decide (((0:Nat):Int)>0)=false from rfl,Bool.false_and,qDa,oB9,Bool.false_and,cF]
 have st:∀(c:UInt8) zs (k:Nat) m,0<k→f ((⟨#[c]⟩:ByteArray)::zs) k m=if (toL y).getLast hne=c then f zs (k+1) (k:Int) else f zs (k+1) m:=fun c zs k m hk=>by
  rw[f1,dT (show (k:Int)>0 by omega),dT (show (y.size:Int)>0 by omega),Bool.and_self,qCV,hw,hin,qD3,oB9,Bool.true_and,Int.toNat_natCast]
  by_cases h:(toL y).getLast hne=c
  ·rw[if_pos h,dT (qGI (by rw[hlast,h])),cW]
  ·rw[if_neg h,dF (fun e=>h (by have:=congrArg toL e;rw[hlast]at this;exact(List.cons.inj this).1)),cF]
 unfold qUx
 rw[st0,st 60 _ 1 _ (by omega),st 101 _ 2 _ (by omega),st 101 _ 2 _ (by omega),st 42 _ 3 _ (by omega),st 42 _ 3 _ (by omega),st 42 _ 3 _ (by omega)]
 unfold qFp
 rw[hgl]
 by_cases h1:(toL y).getLast hne=60
 ·have d1:¬(60:UInt8)=101:=by decide
  have d2:¬(60:UInt8)=42:=by decide
  rw[h1]
  simp only[d1,d2,if_true,if_false]
  exact⟨_,fin _ _ (by omega),hinit⟩
 ·by_cases h2:(toL y).getLast hne=101
  ·have d2:¬(101:UInt8)=42:=by decide
   have d3:¬(101:UInt8)=60:=by decide
   rw[h2]
   simp only[d2,d3,if_true,if_false,Option.some.injEq]
   exact⟨_,fin _ _ (by omega),hinit⟩
  ·by_cases h3:(toL y).getLast hne=42
   ·have d2:¬(42:UInt8)=101:=by decide
    have d3:¬(42:UInt8)=60:=by decide
    rw[h3]
    simp only[d2,d3,if_true,if_false,Option.some.injEq]
    exact⟨_,fin _ _ (by omega),hinit⟩
   ·simp only[h1,h2,h3,if_false,Option.some.injEq]
    rw[f0,show decide ((0:Int)>0)=false from rfl,cF,n1,oB9,n2,oB9]
    exact⟨y,rfl,rfl⟩
end
section
theorem qM3 (s:ByteArray) (hs:s.size≤1000000) (c:UInt8) (F:Nat) (hF:4194304<F):∃W:List ByteArray,qA1 F s ((c.toNat:Nat):Int)=some W∧qB2 s ⟨#[c]⟩=some W∧W.map toL=qJC c (toL s):=by
 obtain⟨r,r1,r2⟩:=qNb s (by omega) c F hF
 refine⟨r,r1,?_,r2⟩
 unfold qB2
 rw[show (Nat.blt s.size 4294967281&&Nat.blt 0 (⟨#[c]⟩:ByteArray).size)=true from by
  rw[Bool.and_eq_true,Nat.blt_eq];exact⟨by omega,rfl⟩,qD3,oB9]
 exact congrArg some (qIh (by rw[qNR,r2]))
def qL9:Nat→List (List UInt8)→List UInt8
 |_,[]=>[]
 |0,w::ws=>w++qL9 1 ws
 |k+1,w::ws=>43::(w++qL9 (k+2) ws)
theorem qQz:∀(ws:List (List UInt8)) (k:Nat),ws≠[]→qL9 (k+1) ws=43::qNz 43 ws
 | [],_,h=>absurd rfl h
 | [w],k,_=>by rw[qL9,qL9,List.append_nil];rfl
 |w::z::ws,k,_=>by
  rw[qL9,qQz (z::ws) (k+1) (by simp)]
  rfl
theorem qVc (ws:List (List UInt8)):qL9 0 ws=qNz 43 ws:=by
 match ws with
 | []=>rfl
 | [w]=>rw[qL9,qL9,List.append_nil];rfl
 |w::z::ws=>rw[qL9,qQz _ 0 (by simp)];rfl
def qL5 (N:List ByteArray) (M:List Int):List (List UInt8):=List.zipWith (fun n m=>toL n++qVK m.toNat) N M
theorem qT4 (it:Item):∀(ys:List ByteArray) (ms mp:List Int) (k:Nat) (acc:ByteArray),it.marks=mp++ms→mp.length=k→ys.length=ms.length→(∀m∈ms,0≤m∧m≤3)→(∀y∈ys,y.size≤2000)→acc.size+2002*ys.length≤100000→
  ∃t,qDC it ys k acc=some t∧toL t=(toL acc++qL9 k (qL5 ys ms))++(if it.late=true then [32,120] else [])
 | [],ms,mp,k,acc,_,_,hl,_,_,hb=>by
  obtain rfl:ms=[]:=List.length_eq_zero_iff.1 hl.symm
  have e2:(⟨#[32,120]⟩:ByteArray).size=2:=rfl
  simp only[List.length_nil]at hb
  rw[qDC]
  cases hlt:it.late
  ·rw[cF];exact⟨acc,rfl,by simp[qL5,qL9]⟩
  ·rw[cW,nd (by omega),oB9]
   exact⟨_,rfl,by rw[qIl];simp only[qL5,List.zipWith_nil_left,qL9,List.append_nil,if_true]⟩
 |y::ys,[],mp,k,acc,_,_,hl,_,_,_=>by simp at hl
 |y::ys,m::ms,mp,k,acc,h1,h2,hl,hm,hy,hb=>by
  simp only[List.length_cons]at hl hb
  have hm0:=hm m (by simp)
  have hy0:=hy y (by simp)
  obtain⟨q,rfl⟩:=Int.eq_ofNat_of_zero_le hm0.1
  obtain⟨w,w1,w2,w3⟩:=qVY q (by omega)
  have hg:qAV it.marks (k:Int)=some (q:Int):=qDm h1 (by omega)
  have hws:qL5 (y::ys) ((q:Int)::ms)=(toL y++qVK q)::qL5 ys ms:=rfl
  have e1:(⟨#[43]⟩:ByteArray).size=1:=rfl
  rw[qDC,hws]
  unfold qDr
  match k,h2 with
  |0,h2 =>
   obtain⟨t,t1,t2⟩:=qT4 it ys ms (mp++[(q:Int)]) 1 (acc++(y++w)) (by rw[h1];simp) (by rw[List.length_append,h2];rfl) (by omega) (fun z hz=>hm z (by simp[hz])) (fun z hz=>hy z (by simp[hz])) (by simp only[ByteArray.size_append];omega)
   rw[show decide (((0:Nat):Int)>0)=false from rfl,cF,oB9,bnd hg,bnd (show qAV [(⟨#[]⟩:ByteArray),(⟨#[60]⟩:ByteArray),(⟨#[101]⟩:ByteArray),(⟨#[42]⟩:ByteArray)] (q:Int)=some w from w1),nd (by omega),oB9,nd (by simp only[ByteArray.size_append];omega),oB9]
   refine⟨t,t1,?_⟩
   rw[t2,qIl,qIl,w2,qL9]
   simp only[List.append_assoc]
  |k+1,h2 =>
   obtain⟨t,t1,t2⟩:=qT4 it ys ms (mp++[(q:Int)]) (k+2) ((acc++(⟨#[43]⟩:ByteArray))++(y++w)) (by rw[h1];simp) (by rw[List.length_append,h2];rfl) (by omega) (fun z hz=>hm z (by simp[hz])) (fun z hz=>hy z (by simp[hz])) (by simp only[ByteArray.size_append];omega)
   rw[dT (by omega),cW,nd (by omega),oB9,oB9,bnd hg,bnd (show qAV [(⟨#[]⟩:ByteArray),(⟨#[60]⟩:ByteArray),(⟨#[101]⟩:ByteArray),(⟨#[42]⟩:ByteArray)] (q:Int)=some w from w1),nd (by omega),oB9,nd (by simp only[ByteArray.size_append];omega),oB9]
   refine⟨t,t1,?_⟩
   rw[t2,qIl,qIl,qIl,w2,qL9,show toL (⟨#[43]⟩:ByteArray)=[43] from rfl]
   simp only[List.append_assoc,List.cons_append,List.nil_append]
theorem qUq (F:Nat) (hF:1048576<F) (x1:ByteArray×Bool):∀(ys:List ByteArray) (k:Nat) (v:List ByteArray) (u:List Int),(∀y∈ys,y.size≤1048576)→v.length+ys.length≤3000→u.length+ys.length≤3000→
  ∃N,N.map toL=ys.map (fun y=>(qFp (toL y)).1)∧qAn F x1 ys k v u=qAn F x1 [] 0 (v++N) (u++ys.map fun y=>((qFp (toL y)).2:Int))
 | [],k,v,u,_,_,_=>⟨[],rfl,by rw[qAn,qAn];simp⟩
 |y::ys,k,v,u,hy,hv,hu=>by
  simp only[List.length_cons]at hv hu
  obtain⟨r,r1,r2⟩:=qTQ y (hy y (by simp)) v u (by omega) (by omega) F hF
  obtain⟨N,n1,n2⟩:=qUq F hF x1 ys (k+1) (v++[r]) (u++[((qFp (toL y)).2:Int)]) (fun z hz=>hy z (by simp[hz])) (by simp;omega) (by simp;omega)
  refine⟨r::N,by simp[n1,r2],?_⟩
  have e:qAn F x1 (y::ys) k v u=qAn F x1 ys (k+1) (v++[r]) (u++[((qFp (toL y)).2:Int)]):=by rw[qAn,bnd r1]
  rw[e,n2]
  simp only[List.append_assoc,List.map_cons,List.cons_append,List.nil_append]
theorem qT3 (F:Nat) (g:List ByteArray→Nat→List ByteArray→List Int→Option (Item×Bool)) (f:ByteArray→List ByteArray→List Int→List ByteArray→Nat→Int→Option (List ByteArray×List Int)) (g0:∀k k' v u,g [] k v u=g [] k' v u)
  (gs:∀y ys k v u,g (y::ys) k v u=((qDr).bind fun x=>f y v u x 0 0).bind fun (a,b)=>g ys (k+1) a b)
  (hf:∀(y:ByteArray) (v:List ByteArray) (u:List Int),y.size≤1048576→v.length≤3000→u.length≤3000→∃r,f y v u qUx 0 0=some (v++[r],u++[((qFp (toL y)).2:Int)])∧toL r=(qFp (toL y)).1):∀(ys:List ByteArray) (k:Nat) (v:List ByteArray) (u:List Int),(∀y∈ys,y.size≤1048576)→v.length+ys.length≤3000→u.length+ys.length≤3000→
  ∃N,N.map toL=ys.map (fun y=>(qFp (toL y)).1)∧g ys k v u=g [] 0 (v++N) (u++ys.map fun y=>((qFp (toL y)).2:Int))
 | [],k,v,u,_,_,_=>⟨[],rfl,by rw[g0 k 0];simp⟩
 |y::ys,k,v,u,hy,hv,hu=>by
  simp only[List.length_cons]at hv hu
  obtain⟨r,r1,r2⟩:=hf y v u (hy y (by simp)) (by omega) (by omega)
  obtain⟨N,n1,n2⟩:=qT3 F g f g0 gs hf ys (k+1) (v++[r]) (u++[((qFp (toL y)).2:Int)]) (fun z hz=>hy z (by simp[hz])) (by simp;omega) (by simp;omega)
  refine⟨r::N,by simp[n1,r2],?_⟩
  rw[gs]
  unfold qDr
  rw[oB9,bnd (show f y v u [(⟨#[]⟩:ByteArray),(⟨#[60]⟩:ByteArray),(⟨#[101]⟩:ByteArray),(⟨#[42]⟩:ByteArray)] 0 0=some (v++[r],u++[((qFp (toL y)).2:Int)]) from r1)]
  dsimp only
  rw[n2]
  simp only[List.append_assoc,List.map_cons,List.cons_append,List.nil_append]
theorem qPm:∀(W N:List ByteArray),N.map toL=W.map (fun y=>(qFp (toL y)).1)→qL5 N (W.map fun y=>((qFp (toL y)).2:Int))=W.map toL
 | [],[],_=>rfl
 | [],_::_,h=>by simp at h
 |_::_,[],h=>by simp at h
 |y::W,n::N,h=>by
  simp only[List.map_cons,List.cons.injEq]at h
  have:=qPm W N h.2
  unfold qL5 at this⊢
  rw[List.map_cons,List.zipWith_cons_cons,this,List.map_cons,h.1,Int.toNat_natCast,qSB]
theorem qSa (F:Nat) (hF:1048576<F) (s:ByteArray) (late:Bool) (W N:List ByteArray) (hN:N.map toL=W.map (fun y=>(qFp (toL y)).1)) (hW:∀y∈W,y.size≤2000) (hs:toL s=qNz 43 (W.map toL)++(if late=true then [32,120] else [])) :
  ∃r:Item×Bool,((qDl F (Item.mk N (W.map fun y=>((qFp (toL y)).2:Int)) late)).bind fun x131=>(opt (!(!x131)) default (qHJ (Item.mk N (W.map fun y=>((qFp (toL y)).2:Int)) late))).bind fun x133=>cond ((!x131)||(!decide (x133=s))) (some ((Item.mk [] [] false),false)) (some ((Item.mk N (W.map fun y=>((qFp (toL y)).2:Int)) late),true)))=some r∧
  ((qF9 F (Item.mk N (W.map fun y=>((qFp (toL y)).2:Int)) late)).bind fun x116=>cond (!x116) (some ((Item.mk [] [] false),false)) (some ((Item.mk N (W.map fun y=>((qFp (toL y)).2:Int)) late),true)))=some r∧(r.2=true→qFl r.1∧∀z∈r.1.names,z.size≤2000):=by
 have hn:∀z∈N,z.size≤2000:=fun z hz=>by
  have:toL z∈W.map (fun y=>(qFp (toL y)).1):=hN▸List.mem_map.2 ⟨z,hz,rfl⟩
  obtain⟨y,hy,e⟩:=List.mem_map.1 this
  have h1:=congrArg List.length (qSB (toL y))
  rw[List.length_append,e,qCh,qCh]at h1
  have:=hW y hy
  omega
 obtain⟨b,b1,b2,b3⟩:=qWD (Item.mk N (W.map fun y=>((qFp (toL y)).2:Int)) late) F hF N 0 (fun z hz=>by have:=hn z hz;omega)
 rw[bnd (show qDl F _=some b from b2),bnd (show qF9 F _=some b from b1)]
 cases b
 ·exact⟨_,rfl,rfl,fun h=>by cases h⟩
 ·have hok:=b3 rfl
  obtain⟨t,t1,t2⟩:=qT4 (Item.mk N (W.map fun y=>((qFp (toL y)).2:Int)) late) N (W.map fun y=>((qFp (toL y)).2:Int)) [] 0 ⟨#[]⟩ rfl rfl hok.2.symm (fun m hm=>by
   obtain⟨y,_,rfl⟩:=List.mem_map.1 hm
   have:=qVz (toL y);omega) hn (by have:N.length≤3:=hok.1.2;show 0+_≤_;omega)
  have e:t=s:=qGI (by
   rw[t2,qPm W N hN,qVc,hs];rfl)
  rw[Bool.not_true,Bool.not_false,qCV,bnd (show qHJ _=some t from t1),dT e]
  exact⟨_,rfl,rfl,fun _=>⟨hok,hn⟩⟩
theorem qOw {c:UInt8} {s:ByteArray} {W:List ByteArray} (h:W.map toL=qJC c (toL s)):∀y∈W,y.size≤s.size:=fun y hy=>by
 have:=qMS c (toL s) (toL y) (h▸List.mem_map.2 ⟨y,hy,rfl⟩)
 rwa [qCh,qCh]at this
theorem qSj (F:Nat) (hF:4194304<F) (s:ByteArray) (hs:s.size≤2000):∃r:Item×Bool,qGU F s=some r∧qGn F s=some r∧(r.2=true→qFl r.1∧∀z∈r.1.names,z.size≤2000):=by
 have hsz:=qCh s
 have hlen:∀(W:List ByteArray) (t:ByteArray),W.map toL=qJC 43 (toL t)→t.size≤2000→W.length≤2001:=fun W t h ht=>by
  have:=congrArg List.length h
  rw[List.length_map,qJ3]at this
  have h2:=List.count_le_length (a:=(43:UInt8)) (l:=toL t)
  rw[qCh]at h2
  omega
 unfold qGn
 rcases qYX s ⟨#[32,120]⟩ (by omega) (by decide) with⟨t,t1,t2⟩|⟨t1,t2⟩
 ·have hl2:=congrArg List.length t2
  rw[List.length_append,qCh,qCh,qCh]at hl2
  have e2:(⟨#[32,120]⟩:ByteArray).size=2:=rfl
  have ht:t.size=s.size-2:=by omega
  have hn:w64 ((s.size:Int)-2)=((s.size-2:Nat):Int):=by rw[qAD (by omega)];omega
  have hx:ByteArray.extract s (s.size-2) s.size=⟨#[32,120]⟩:=qGI (by
   rw[show toL (ByteArray.extract s (s.size-2) s.size)=(toL s).drop (s.size-2) from Go.Lib.extract_to_end s (s.size-2),t2,←ht,←qCh t,List.drop_left])
  have hy:ByteArray.extract s 0 (s.size-2)=t:=qGI (by
   rw[show toL (ByteArray.extract s 0 (s.size-2))=((toL s).drop 0).take (s.size-2-0) from Go.Lib.extract_data s 0 (s.size-2),List.drop_zero,Nat.sub_zero,t2,←ht,←qCh t,List.take_left])
  obtain⟨W,w1,w2,w3⟩:=qM3 t (by omega) 43 F hF
  have hW:=qOw w3
  have hWl:=hlen W t w3 (by omega)
  obtain⟨N,n1,n2⟩:=qUq F (by omega) (t,true) W 0 [] [] (fun y hy=>by have:=hW y hy;omega) (by simp;omega) (by simp;omega)
  obtain⟨N',m1,m2⟩:=qT3 F (qBy s F) (fun y v u=>qBx y v u) (fun k k' v u=>by rw[qBy,qBy]) (fun y ys k v u=>by rw[qBy]) (fun y v u a b c=>qQd (qBx y v u) y a v u b c (fun k m=>by rw[qBx]) (fun z zs k m=>by rw[qBx])) W 0 [] [] (fun y hy=>by have:=hW y hy;omega) (by simp;omega) (by simp;omega)
  obtain rfl:N=N':=qIh (n1.trans m1.symm)
  obtain⟨r,r1,r2,r3⟩:=qSa F (by omega) s true W N n1 (fun y hy=>by have:=hW y hy;omega) (by rw[t2,w3,qLJ];rfl)
  refine⟨r,?_,?_,r3⟩
  ·unfold qGU
   rw[dT (show (s.size:Int)≥2 by omega),qCV,hn,show inB ((s.size-2:Nat):Int) s.size s.size=true from by unfold inB;simp,qD3,oB9,Int.toNat_natCast,hx,dT rfl,Bool.and_self,cW,show inB 0 ((s.size-2:Nat):Int) s.size=true from by unfold inB;simp,qD3,oB9,hy,bnd (show qA1 F t 43=some W from w1),m2,qBy]
   exact r1
  ·rw[bnd t1,bnd w2,n2,qAn]
   exact r2
 ·obtain⟨W,w1,w2,w3⟩:=qM3 s (by omega) 43 F hF
  have hW:=qOw w3
  have hWl:=hlen W s w3 (by omega)
  obtain⟨N,n1,n2⟩:=qUq F (by omega) (s,false) W 0 [] [] (fun y hy=>by have:=hW y hy;omega) (by simp;omega) (by simp;omega)
  obtain⟨N',m1,m2⟩:=qT3 F (qBz s F) (fun y v u=>qB9 y v u) (fun k k' v u=>by rw[qBz,qBz]) (fun y ys k v u=>by rw[qBz]) (fun y v u a b c=>qQd (qB9 y v u) y a v u b c (fun k m=>by rw[qB9]) (fun z zs k m=>by rw[qB9])) W 0 [] [] (fun y hy=>by have:=hW y hy;omega) (by simp;omega) (by simp;omega)
  obtain rfl:N=N':=qIh (n1.trans m1.symm)
  obtain⟨r,r1,r2,r3⟩:=qSa F (by omega) s false W N n1 (fun y hy=>by have:=hW y hy;omega) (by rw[w3,qLJ];simp)
  refine⟨r,?_,?_,r3⟩
  ·unfold qGU
   have hno:(decide ((s.size:Int)≥2)&&decide ((ByteArray.extract s (w64 ((s.size:Int)-2)).toNat s.size)=(⟨#[32,120]⟩:ByteArray)))=false:=by
    by_cases h2:(s.size:Int)≥2
    ·have hn:w64 ((s.size:Int)-2)=((s.size-2:Nat):Int):=by rw[qAD (by omega)];omega
     rw[hn,Int.toNat_natCast,dT h2,Bool.true_and]
     refine dF fun e=>t1 ((toL s).take (s.size-2)) ?_
     have:=congrArg toL e
     rw[show toL (ByteArray.extract s (s.size-2) s.size)=(toL s).drop (s.size-2) from Go.Lib.extract_to_end s (s.size-2)]at this
     rw[←this,List.take_append_drop]
    ·rw[dF h2,Bool.false_and]
   have hop:(opt (decide ((s.size:Int)≥2)) default (qAz (inB (w64 ((s.size:Int)-2)) s.size s.size)))=some ():=by
    by_cases h2:(s.size:Int)≥2
    ·have hn:w64 ((s.size:Int)-2)=((s.size-2:Nat):Int):=by rw[qAD (by omega)];omega
     rw[dT h2,qCV,hn,show inB ((s.size-2:Nat):Int) s.size s.size=true from by unfold inB;simp];rfl
    ·rw[dF h2];rfl
   rw[hop,oB9,hno,cF,bnd (show qA1 F s 43=some W from w1),m2,qBz]
   exact r1
  ·rw[bnd t2,bnd w2,n2,qAn]
   exact r2
end
section
theorem qVv {F:Nat} (hF:4194304<F) {S:ScriptState} (h:SGood F S) (t:ByteArray) (ht:t.size≤2000):Alike F S (qBM F S t) (fun x=>qCI F x t):=by
 have hF':1048576<F:=by omega
 obtain⟨r,r1,r2,r3⟩:=qSj F hF t ht
 have hP:=h.val.perf hF'
 have h14:=hP.2.1.1
 obtain⟨j,hj,hjl,_⟩:=qNV h.val.mg
 cases hr:r.2
 ·refine Alike.stay h ⟨#[110,111]⟩ (by show (2:Nat)≤_;omega) ?_ (fun no wh ln=>?_)
  ·unfold qBM
   rw[bnd r2,hr];rfl
  ·show qCI F (cs S no wh ln) t=_
   unfold qCI
   rw[bnd r1,hr];rfl
 obtain⟨o1,o2⟩:=r3 hr
 have hz:(List.replicate ((j.length:Int)).toNat (0:Int))=List.replicate j.length 0:=by rw[Int.toNat_natCast]
 have hb:qVM (S.performance.items++[r.1]):=fun it hi s hs=>by
  rcases List.mem_append.1 hi with hi|hi
  ·exact h.val.nb it hi s hs
  ·rw[List.mem_singleton.1 hi]at hs
   have:=o2 s hs;omega
 obtain⟨b,b1,b2,b3⟩:=qXi hF' (c:=S.code) (p:=Performance.mk (S.performance.items++[r.1]) (Marks.mk (S.performance.marks.grades++[List.replicate j.length 0]) S.performance.marks.components) S.performance.slips) h.val.nc hb
 have hlg:=h.val.mg.1
 have hi0:qBM F S t=some (bif b then (ScriptState.mk S.code (Performance.mk (S.performance.items++[r.1]) (Marks.mk (S.performance.marks.grades++[List.replicate j.length 0]) S.performance.marks.components) S.performance.slips) S.factor S.results,(⟨#[111,107]⟩:ByteArray)) else (S,⟨#[110,111]⟩)):=by
  unfold qBM
  rw[bnd r2,hr,Bool.not_true,cF,bnd (qJv hP.2.1).2,ndf (by omega) (by simp;omega),oB9,bnd (qIc h.val.mg).2]
  unfold qAy
  rw[bnd hj,oB9,show qAz (decide (0≤(j.length:Int))&&qAh 8 ((j.length:Int)).toNat)=some () from by rw[Int.toNat_natCast,dT (by omega),qRg (by omega) (by omega)];rfl,oB9,hz,ndf (by omega) (by simp;omega),oB9,bnd b2]
  cases b<;>rfl
 have hs1:∀no wh ln,qCI F (cs S no wh ln) t=some (bif b then (CsState.mk S.code (Performance.mk (S.performance.items++[r.1]) (Marks.mk (S.performance.marks.grades++[List.replicate j.length 0]) S.performance.marks.components) S.performance.slips) S.factor S.results no wh ln,(⟨#[111,107]⟩:ByteArray)) else (cs S no wh ln,⟨#[110,111]⟩)):=fun no wh ln=>by
  unfold qCI
  rw[bnd r1,hr,Bool.not_true,Bool.false_or]
  by_cases h15:S.performance.items.length=14
  ·have:b=false:=by
    cases b
    ·rfl
    ·have:=(((b3 rfl).perf hF').2.1).1
     simp only[List.length_append,List.length_singleton]at this
     omega
   rw[show (((cs S no wh ln).p.items.length:Int)==14)=true from by show ((S.performance.items.length:Int)==14)=true;rw[h15];rfl,this]
   rfl
  ·rw[show (((cs S no wh ln).p.items.length:Int)==14)=false from beq_eq_false_iff_ne.2 (by show ¬(S.performance.items.length:Int)=14;omega),cF]
   have hi2:qEI (S.performance.items++[r.1]):=⟨by simp;omega,fun it hi=>by
    rcases List.mem_append.1 hi with hi|hi
    ·exact hP.2.1.2 it hi
    ·rw[List.mem_singleton.1 hi];exact o1⟩
   rw[show qGx (cs S no wh ln).p.items=some S.performance.items from(qJv hP.2.1).1,oB9,ndf (by omega) (by simp;omega),oB9]
   have hw:qAY (cs S no wh ln).p (S.performance.items++[r.1])=some (Performance.mk (S.performance.items++[r.1]) S.performance.marks S.performance.slips):=by
    unfold qAY
    rw[bnd (qJv hi2).1,show qFC (cs S no wh ln).p.marks=some S.performance.marks from(qIc h.val.mg).1]
    rfl
   rw[bnd hw]
   unfold qEB
   rw[bnd hj,oB9,show qAz (decide (0≤(j.length:Int))&&qAh 8 ((j.length:Int)).toNat)=some () from by rw[Int.toNat_natCast,dT (by omega),qRg (by omega) (by omega)];rfl,oB9,hz,ndf (by omega) (by simp;omega),oB9,bnd (qKA (show qBZ F (cs S no wh ln).code _=some b from b1))]
   cases b<;>rfl
 cases b
 ·exact Alike.stay h _ (by show (2:Nat)≤_;omega) hi0 hs1
 ·exact⟨_,_,hi0,hs1,⟨b3 rfl,h.fac,h.res⟩,by show (2:Nat)≤_;omega⟩
theorem qQJ (F:Nat) (hF:100<F) (W:List ByteArray) (sg:Bool) (hW:W.length≤2500):∀(ys:List ByteArray) (k:Nat) (v:List Int),k+ys.length=W.length→(∀y∈ys,y.size≤1048576)→v.length+ys.length≤2500→∃L ok,qAW W sg F ys k v=some (L,ok)∧(ok=true→L.length=v.length+ys.length)
 | [],k,v,_,_,_=>⟨v,true,by rw[qAW],fun _=>by simp⟩
 |y::ys,k,v,hk,hy,hv=>by
  simp only[List.length_cons]at hk hv⊢
  rcases qSR F hF W sg y (hy y (by simp)) ys k v (by omega) (by omega) with⟨n,_,e⟩|⟨_,_,e⟩|h
  ·obtain⟨L,ok,e1,e2⟩:=qQJ F hF W sg hW ys (k+1) (v++[n]) (by omega) (fun z hz=>hy z (by simp[hz])) (by simp;omega)
   exact⟨L,ok,e.trans e1,fun h=>by rw[e2 h];simp;omega⟩
  ·exact⟨[],false,e,fun h=>by cases h⟩
  ·omega
def whatB:ByteArray:=⟨#[119,104,97,116]⟩
theorem qM7 (F:Nat) (hF:100<F) (x:CsState) (t w0:ByteArray) (ws:List ByteArray) (hsp:qA1 F t 32=some (w0::ws)) (hl:ws.length≤2400) (hw:∀y∈ws,y.size≤1048576) (h0:ws≠[]) (hi:w0≠⟨#[105,116,101,109]⟩) (hc:w0≠⟨#[99,97,108,108]⟩)
  (he:w0≠⟨#[101,108,101,109,101,110,116]⟩) (a:Int) (ha:qEb w0=some a) (hne:(ws.length:Int)≠a):qAB F x t=some (x,whatB):=by
 have hpos:0<ws.length:=List.length_pos_iff.2 h0
 unfold qAB
 rw[bnd hsp,show (((w0::ws).length:Int)==1)=false from beq_eq_false_iff_ne.2 (by simp only[List.length_cons];omega),cF,show qAV (w0::ws) 0=some w0 from rfl,oB9,dF hi,cF,dF hc,cF,dF he,cF]
 rw[show qC7 (w0::ws) 1=some ws from by unfold qC7;rw[if_pos (by simp only[List.length_cons];omega)];rfl,oB9]
 obtain⟨L,ok,e1,e2⟩:=qQJ F hF ws (decide (w0=⟨#[103,114,97,100,101]⟩)) (by omega) ws 0 [] (by omega) hw (by simp;omega)
 rw[bnd (show qCx F ws (decide (w0=⟨#[103,114,97,100,101]⟩))=some (L,ok) from e1)]
 cases ok
 ·rfl
 ·have:=e2 rfl
  simp only[List.length_nil,Nat.zero_add]at this
  simp only[Bool.not_true,Bool.not_false,qCV,Bool.false_or]
  rw[bnd ha,show ((L.length:Int) != a)=true from by rw[bne_iff_ne,this];exact hne,cW]
  rfl
theorem qJl (F:Nat) (x:CsState) (t:ByteArray) (hsp:qA1 F t 32=some [t]):qAB F x t=(qAX F x t).bind fun x3=>some (x3.1,x3.2):=by
 unfold qAB
 rw[bnd hsp];rfl
theorem qQ1 (F:Nat) (x:CsState) (t w0:ByteArray) (ws:List ByteArray) (hsp:qA1 F t 32=some (w0::ws)) (h0:ws≠[]) (hi:w0≠⟨#[105,116,101,109]⟩) (hc:w0≠⟨#[99,97,108,108]⟩) (he:w0≠⟨#[101,108,101,109,101,110,116]⟩) (L:List Int) (ok:Bool) (sg:Bool) (hsg:decide (w0=⟨#[103,114,97,100,101]⟩)=sg)
  (hn:qCx F ws sg=some (L,ok)) (a:Int) (ha:qEb w0=some a) (hla:ok=true→(L.length:Int)=a):qAB F x t=cond ok ((qAE F x w0 L).bind fun x32=>some (x32.1,x32.2)) (some (x,whatB)):=by
 have hpos:0<ws.length:=List.length_pos_iff.2 h0
 unfold qAB
 rw[bnd hsp,show (((w0::ws).length:Int)==1)=false from beq_eq_false_iff_ne.2 (by simp only[List.length_cons];omega),cF,show qAV (w0::ws) 0=some w0 from rfl,oB9,dF hi,cF,dF hc,cF,dF he,cF]
 rw[show qC7 (w0::ws) 1=some ws from by unfold qC7;rw[if_pos (by simp only[List.length_cons];omega)];rfl,oB9,hsg,bnd hn]
 cases ok
 ·rfl
 ·simp only[Bool.not_true,Bool.not_false,qCV,Bool.false_or]
  rw[bnd ha,show ((L.length:Int) != a)=false from by rw[bne,hla rfl];simp]
  rfl
theorem qK0 (F:Nat) (S:ScriptState) (t w0:ByteArray) (ws:List ByteArray) (hp:qBf t ⟨#[105,116,101,109,32]⟩=some (t,false)) (hsp:qB2 t ⟨#[32]⟩=some (w0::ws)) (hl:ws.length≤2400) (f:ByteArray) (kn:Bool) (hf:qFI w0=some (f,kn)) :
  qAg F S t=cond (kn&&((f.size:Int)==(ws.length:Int))) (qAA S F (w0::ws) w0 (f,kn) ws 0 []) (some (S,whatB)):=by
 unfold qAg
 rw[bnd hp]
 dsimp only
 rw[cF,bnd hsp,show qAV (w0::ws) 0=some w0 from rfl,oB9,bnd hf]
 dsimp only
 rw[show w64 (((w0::ws).length:Int)-1)=(ws.length:Int) from by simp only[List.length_cons];rw[qAD (by omega)];omega,show qC7 (w0::ws) 1=some ws from by unfold qC7;rw[if_pos (by simp only[List.length_cons];omega)];rfl,oB9]
 cases kn
 ·rfl
 ·cases hq:((f.size:Int)==(ws.length:Int))
  ·rw[show ((f.size:Int) != (ws.length:Int))=true from by rw[bne,hq];rfl];rfl
  ·rw[show ((f.size:Int) != (ws.length:Int))=false from by rw[bne,hq];rfl];rfl
structure LnW (F:Nat) (t w0:ByteArray) (ws:List ByteArray):Prop where
 sp:qA1 F t 32=some (w0::ws)
 im:qB2 t ⟨#[32]⟩=some (w0::ws)
 np:qBf t ⟨#[105,116,101,109,32]⟩=some (t,false)
 ln:ws.length≤2400
 sz:∀y∈ws,y.size≤1048576
 ni:ws≠[]→w0≠⟨#[105,116,101,109]⟩
 al:ws=[]→t=w0
theorem qG1 {F:Nat} (hF:4194304<F) {S:ScriptState} (h:SGood F S) {t w0:ByteArray} {ws:List ByteArray} (hL:LnW F t w0 ws) (hc:w0≠⟨#[99,97,108,108]⟩) (hit:w0≠⟨#[105,116,101,109]⟩) (he:w0≠⟨#[101,108,101,109,101,110,116]⟩)
  (f:ByteArray) (hf:qFI w0=some (f,true)) (ha:qEb w0=some (f.size:Int)) (hf0:0<f.size) (sg:Bool) (hsg:decide (w0=⟨#[103,114,97,100,101]⟩)=sg) (hform:∀i:Nat,i<f.size→qNk f (i:Int)=some (if sg=true∧i+1=f.size then (103:UInt8) else 110))
  (hal:∀x,qAX F x w0=some (x,whatB)) (g:List Int→Option (ScriptState×ByteArray)) (hg:∀v,qAA S F (w0::ws) w0 (f,true) [] (ws.length+0) v=(g v).bind fun x=>some (x.1,x.2))
  (hcmd:∀L:List Int,L.length=f.size→(sg=false→∀n∈L,0≤n)→Alike F S (g L) (fun x=>qAE F x w0 L)):Alike F S (qAg F S t) (fun x=>qAB F x t):=by
 have hw:whatB.size=4:=rfl
 rw[qK0 F S t w0 ws hL.np hL.im hL.ln f true hf]
 by_cases h0:ws=[]
 ·have:=hL.al h0
  subst this h0
  refine Alike.stay h whatB (by omega) ?_ (fun no wh ln=>?_)
  ·rw[show ((f.size:Int)==(([]:List ByteArray).length:Int))=false from beq_eq_false_iff_ne.2 (by show ¬(f.size:Int)=0;omega)];rfl
  ·show qAB F (cs S no wh ln) t=_
   rw[qJl F _ t hL.sp,hal];rfl
 by_cases hn:ws.length=f.size
 ·rw[show ((f.size:Int)==(ws.length:Int))=true from beq_iff_eq.2 (by omega),Bool.true_and,cW]
  rcases qPA F (by omega) S (w0::ws) w0 (f,true) sg ws [] 0 (by have:=hL.ln;omega) (fun i hi=>by rw[hn];exact hform i (by omega)) ws 0 [] [] (by omega) hL.sz (by have:=hL.ln;simp;omega) (by have:=hL.ln;simp;omega) with⟨L,l1,l2,l3,l4,l5⟩|⟨l4,l5⟩
  ·rw[List.append_nil,List.nil_append]at l5
   rw[List.nil_append]at l4
   rw[show (0:Nat)=0+0 from rfl,l5,hg]
   obtain⟨S',r,c1,c2,c3,c4⟩:=hcmd L (by omega) l3
   refine⟨S',r,by rw[bnd c1],fun no wh ln=>?_,c3,c4⟩
   show qAB F (cs S no wh ln) t=_
   rw[qQ1 F _ t w0 ws hL.sp h0 hit hc he L true sg hsg l4 _ ha (fun _=>by omega),cW,bnd (c2 no wh ln)]
  ·rw[List.append_nil]at l5
   refine Alike.stay h whatB (by omega) l5 (fun no wh ln=>?_)
   show qAB F (cs S no wh ln) t=_
   rw[qQ1 F _ t w0 ws hL.sp h0 hit hc he [] false sg hsg l4 _ ha (fun h=>by cases h)];rfl
 ·refine Alike.stay h whatB (by omega) ?_ (fun no wh ln=>qM7 F (by omega) _ t w0 ws hL.sp hL.ln hL.sz h0 hit hc he _ ha (by omega))
  rw[show ((f.size:Int)==(ws.length:Int))=false from beq_eq_false_iff_ne.2 (by omega)];rfl
theorem qHj {F:Nat} (hF:4194304<F) {S:ScriptState} (h:SGood F S) {t w0:ByteArray} {ws:List ByteArray} (hL:LnW F t w0 ws) (hc:w0≠⟨#[99,97,108,108]⟩) (hit:w0≠⟨#[105,116,101,109]⟩) (he:w0≠⟨#[101,108,101,109,101,110,116]⟩)
  (hf:qFI w0=some (⟨#[]⟩,true)) (ha:qEb w0=some 0) (g:Option (ScriptState×ByteArray)) (hg:qAA S F [w0] w0 (⟨#[]⟩,true) [] 0 []=g.bind fun x=>some (x.1,x.2))
  (hcmd:Alike F S g (fun x=>qAX F x w0)):Alike F S (qAg F S t) (fun x=>qAB F x t):=by
 have hw:whatB.size=4:=rfl
 rw[qK0 F S t w0 ws hL.np hL.im hL.ln ⟨#[]⟩ true hf]
 by_cases h0:ws=[]
 ·have:=hL.al h0
  subst this h0
  obtain⟨S',r,c1,c2,c3,c4⟩:=hcmd
  refine⟨S',r,?_,fun no wh ln=>?_,c3,c4⟩
  ·show qAA S F [t] t (⟨#[]⟩,true) [] 0 []=_
   rw[hg,bnd c1]
  ·show qAB F (cs S no wh ln) t=_
   rw[qJl F _ t hL.sp]
   exact bnd (c2 no wh ln)
 ·have hpos:0<ws.length:=List.length_pos_iff.2 h0
  refine Alike.stay h whatB (by omega) ?_ (fun no wh ln=>qM7 F (by omega) _ t w0 ws hL.sp hL.ln hL.sz h0 hit hc he _ ha (by omega))
  rw[show (((⟨#[]⟩:ByteArray).size:Int)==(ws.length:Int))=false from beq_eq_false_iff_ne.2 (by show ¬(0:Int)=_;omega)];rfl
end
section
theorem qUs {F:Nat} (hF:4194304<F) {S:ScriptState} (h:SGood F S) {t:ByteArray} {ws:List ByteArray} (hL:LnW F t ⟨#[99,97,108,108]⟩ ws):Alike F S (qAg F S t) (fun x=>qAB F x t):=by
 have hF':1048576<F:=by omega
 have hw:whatB.size=4:=rfl
 rw[qK0 F S t _ ws hL.np hL.im hL.ln ⟨#[110,110,109]⟩ true rfl]
 by_cases h0:ws=[]
 ·have:=hL.al h0
  subst this h0
  refine Alike.stay h whatB (by omega) rfl (fun no wh ln=>?_)
  show qAB F (cs S no wh ln) _=_
  rw[qJl F _ _ hL.sp];rfl
 have hpos:0<ws.length:=List.length_pos_iff.2 h0
 have hs0:∀x,qAB F x t=(qBi F x ws).bind fun x15=>some (x15.1,x15.2):=fun x=>by
  unfold qAB
  rw[bnd hL.sp,show ((((⟨#[99,97,108,108]⟩:ByteArray)::ws).length:Int)==1)=false from beq_eq_false_iff_ne.2 (by simp only[List.length_cons];omega),cF,show qAV ((⟨#[99,97,108,108]⟩:ByteArray)::ws) 0=some ⟨#[99,97,108,108]⟩ from rfl,oB9,show decide ((⟨#[99,97,108,108]⟩:ByteArray)=⟨#[105,116,101,109]⟩)=false from rfl,cF,dT rfl,cW]
  rw[show qC7 ((⟨#[99,97,108,108]⟩:ByteArray)::ws) 1=some ws from by unfold qC7;rw[if_pos (by simp only[List.length_cons];omega)];rfl,oB9]
 by_cases hn:ws.length=3
 ·match ws,hn with
  | [a,b,c],_ =>
   have hab:∀y∈[a,b],y.size≤1048576:=fun y hy=>hL.sz y (by simp only[List.mem_cons,List.not_mem_nil,or_false]at hy⊢;rcases hy with rfl|rfl<;>simp)
   have hsc:∀x L ok,qCx F [a,b] false=some (L,ok)→qBi F x [a,b,c]=qAK x [a,b,c] F (L,ok) qNI 0:=fun x L ok e=>by
    unfold qBi
    rw[show ((([a,b,c]:List ByteArray).length:Int) != 3)=false from rfl,cF,show qFj [a,b,c] 2=some [a,b] from rfl,oB9,bnd e];rfl
   rw[show (((⟨#[110,110,109]⟩:ByteArray).size:Int)==(([a,b,c]:List ByteArray).length:Int))=true from rfl,Bool.true_and,cW]
   rcases qPA F (by omega) S [⟨#[99,97,108,108]⟩,a,b,c] ⟨#[99,97,108,108]⟩ (⟨#[110,110,109]⟩,true) false [a,b] [c] 0 (by simp) (fun i hi=>by
     have:i=0∨i=1:=by simp at hi;omega
     rcases this with rfl|rfl<;>rfl) [a,b] 0 [] [] rfl hab (by simp) (by simp) with⟨L,l1,l2,l3,l4,l5⟩|⟨l4,l5⟩
   ·obtain⟨n,m,rfl⟩:=qWC l1
    rw[List.nil_append]at l4 l5
    rw[show qAA S F [⟨#[99,97,108,108]⟩,a,b,c] ⟨#[99,97,108,108]⟩ (⟨#[110,110,109]⟩,true) [a,b,c] 0 []=_ from l5]
    have st:∀x,qAB F x t=(qAK x [a,b,c] F ([n,m],true) qNI 0).bind fun x15=>some (x15.1,x15.2):=fun x=>by rw[hs0,hsc x _ _ l4]
    have si:qAA S F [⟨#[99,97,108,108]⟩,a,b,c] ⟨#[99,97,108,108]⟩ (⟨#[110,110,109]⟩,true) [c] ([a,b].length+0) [n,m]=(qAT c qNI 0).bind fun x7=>cond (!(decide (x7≥0))) (some (S,(⟨#[119,104,97,116]⟩:ByteArray))) ((qAH F S ⟨#[99,97,108,108]⟩ [n,m,x7]).bind fun x=>some (x.1,x.2)):=by
     rw[qAA,show qNk (⟨#[110,110,109]⟩:ByteArray) (([a,b].length+0:Nat):Int)=some 109 from rfl,oB9]
     unfold qCl
     rw[show ((((109:UInt8).toNat:Int))==110)=false from rfl,cF,show ((((109:UInt8).toNat:Int))==103)=false from rfl,cF,show ((((109:UInt8).toNat:Int))==109)=true from rfl,cW]
     show ((qAT c qNI 0).bind fun x7=>some (x7,decide (x7≥0))).bind _=_
     cases qAT c qNI 0 with
     |none=>rfl
     |some x7 =>
      rw[oB9,oB9,oB9]
      cases hd:decide (x7≥0)
      ·rfl
      ·dsimp only
       rw[Bool.not_true,cF,cF,ndf (by omega) (by simp),oB9,qAA]
       rfl
    have fin:∀q:Int,0≤q∧q≤3→qAT c qNI 0=some q→(∀x,qAK x [a,b,c] F ([n,m],true) qNI 0=(qC4 F x [n,m] q).bind fun x24=>some (x24.1,x24.2))→Alike F S ((qAT c qNI 0).bind fun x7=>cond (!(decide (x7≥0))) (some (S,(⟨#[119,104,97,116]⟩:ByteArray))) ((qAH F S ⟨#[99,97,108,108]⟩ [n,m,x7]).bind fun x=>some (x.1,x.2))) (fun x=>qAB F x t):=fun q hq e1 e2=>by
     obtain⟨S',r,c1,c2,c3,c4⟩:=qVx hF' h n m q hq
     refine⟨S',r,?_,fun no wh ln=>?_,c3,c4⟩
     ·rw[bnd e1,dT hq.1,Bool.not_true,cF,bnd c1]
     ·show qAB F (cs S no wh ln) t=_
      rw[st,e2,bnd (c2 no wh ln)];rfl
    rw[si]
    have i1:∀(y:ByteArray) ys k,qAT c (y::ys) k=if c=y then some (k:Int) else qAT c ys (k+1):=fun y ys k=>by
     rw[qAT]
     by_cases hc:c=y
     ·rw[dT hc,if_pos hc];rfl
     ·rw[dF hc,if_neg hc];rfl
    have s1:∀x (y:ByteArray) ys k,qAK x [a,b,c] F ([n,m],true) (y::ys) k=if c=y then (qC4 F x [n,m] (k:Int)).bind fun x24=>some (x24.1,x24.2) else qAK x [a,b,c] F ([n,m],true) ys (k+1):=fun x y ys k=>by
     rw[qAK,qCV,show qAV [a,b,c] 2=some c from rfl,oB9,Bool.true_and]
     by_cases hc:c=y
     ·rw[dT hc.symm,if_pos hc];rfl
     ·rw[dF (fun e=>hc e.symm),if_neg hc];rfl
    unfold qNI at *
    by_cases c0:c=⟨#[110,111,110,101]⟩
    ·exact fin 0 (by omega) (by rw[i1,if_pos c0];rfl) (fun x=>by rw[s1,if_pos c0];rfl)
    by_cases c1:c=⟨#[100,111,119,110]⟩
    ·exact fin 1 (by omega) (by rw[i1,if_neg c0,i1,if_pos c1];rfl) (fun x=>by rw[s1,if_neg c0,s1,if_pos c1];rfl)
    by_cases c2:c=⟨#[101,100,103,101]⟩
    ·exact fin 2 (by omega) (by rw[i1,if_neg c0,i1,if_neg c1,i1,if_pos c2];rfl) (fun x=>by rw[s1,if_neg c0,s1,if_neg c1,s1,if_pos c2];rfl)
    by_cases c3:c=⟨#[118,111,105,100]⟩
    ·exact fin 3 (by omega) (by rw[i1,if_neg c0,i1,if_neg c1,i1,if_neg c2,i1,if_pos c3];rfl) (fun x=>by rw[s1,if_neg c0,s1,if_neg c1,s1,if_neg c2,s1,if_pos c3];rfl)
    refine Alike.stay h whatB (by omega) ?_ (fun no wh ln=>?_)
    ·rw[i1,if_neg c0,i1,if_neg c1,i1,if_neg c2,i1,if_neg c3,qAT];rfl
    ·show qAB F (cs S no wh ln) t=_
     rw[st,s1,if_neg c0,s1,if_neg c1,s1,if_neg c2,s1,if_neg c3,qAK];rfl
   ·refine Alike.stay h whatB (by omega) l5 (fun no wh ln=>?_)
    show qAB F (cs S no wh ln) t=_
    rw[hs0,hsc _ _ _ l4]
    unfold qNI
    have s1:∀x (y:ByteArray) ys k,qAK x [a,b,c] F ([],false) (y::ys) k=qAK x [a,b,c] F ([],false) ys (k+1):=fun x y ys k=>by
     rw[qAK,qDa,oB9,Bool.false_and,cF]
    rw[s1,s1,s1,s1,qAK];rfl
 ·refine Alike.stay h whatB (by omega) ?_ (fun no wh ln=>?_)
  ·rw[show (((⟨#[110,110,109]⟩:ByteArray).size:Int)==(ws.length:Int))=false from beq_eq_false_iff_ne.2 (by show ¬(3:Int)=_;omega)];rfl
  ·show qAB F (cs S no wh ln) t=_
   rw[hs0]
   unfold qBi
   rw[show ((ws.length:Int) != 3)=true from by rw[bne_iff_ne];omega];rfl
theorem qQ9 {F:Nat} (hF:4194304<F) {S:ScriptState} (h:SGood F S) {t:ByteArray} {ws:List ByteArray} (hL:LnW F t ⟨#[101,108,101,109,101,110,116]⟩ ws):Alike F S (qAg F S t) (fun x=>qAB F x t):=by
 have hF':1048576<F:=by omega
 have hw:whatB.size=4:=rfl
 rw[qK0 F S t _ ws hL.np hL.im hL.ln ⟨#[119,110,110,110]⟩ true rfl]
 by_cases h0:ws=[]
 ·have:=hL.al h0
  subst this h0
  refine Alike.stay h whatB (by omega) rfl (fun no wh ln=>?_)
  show qAB F (cs S no wh ln) _=_
  rw[qJl F _ _ hL.sp];rfl
 match ws,hL,h0 with
 |nm::rs,hL,_ =>
  have hln:=hL.ln
  simp only[List.length_cons]at hln
  have hs0:∀x L ok,qCx F rs false=some (L,ok)→qAB F x t=cond ((!ok)||((L.length:Int) != 3)) (some (x,whatB)) ((qC1 F x nm L).bind fun x24=>some (x24.1,x24.2)):=fun x L ok e=>by
   unfold qAB
   rw[bnd hL.sp,show ((((⟨#[101,108,101,109,101,110,116]⟩:ByteArray)::nm::rs).length:Int)==1)=false from beq_eq_false_iff_ne.2 (by simp only[List.length_cons];omega),cF,show qAV ((⟨#[101,108,101,109,101,110,116]⟩:ByteArray)::nm::rs) 0=some ⟨#[101,108,101,109,101,110,116]⟩ from rfl,oB9,show decide ((⟨#[101,108,101,109,101,110,116]⟩:ByteArray)=⟨#[105,116,101,109]⟩)=false from rfl,cF,show decide ((⟨#[101,108,101,109,101,110,116]⟩:ByteArray)=⟨#[99,97,108,108]⟩)=false from rfl,cF,dT rfl,cW]
   rw[show qC7 ((⟨#[101,108,101,109,101,110,116]⟩:ByteArray)::nm::rs) 2=some rs from by unfold qC7;rw[if_pos (by simp only[List.length_cons];omega)];rfl,oB9,bnd e]
   rfl
  by_cases hn:rs.length=3
  ·rw[show (((⟨#[119,110,110,110]⟩:ByteArray).size:Int)==((nm::rs).length:Int))=true from beq_iff_eq.2 (by simp only[List.length_cons];show (4:Int)=_;omega),Bool.true_and,cW]
   have si:qAA S F (⟨#[101,108,101,109,101,110,116]⟩::nm::rs) ⟨#[101,108,101,109,101,110,116]⟩ (⟨#[119,110,110,110]⟩,true) (nm::rs) 0 []=qAA S F (⟨#[101,108,101,109,101,110,116]⟩::nm::rs) ⟨#[101,108,101,109,101,110,116]⟩ (⟨#[119,110,110,110]⟩,true) (rs++[]) (0+1) [0]:=by
    rw[qAA,show qNk (⟨#[119,110,110,110]⟩:ByteArray) ((0:Nat):Int)=some 119 from rfl,oB9,List.append_nil];rfl
   rw[si]
   rcases qPA F (by omega) S (⟨#[101,108,101,109,101,110,116]⟩::nm::rs) ⟨#[101,108,101,109,101,110,116]⟩ (⟨#[119,110,110,110]⟩,true) false rs [] 1 (by omega) (fun i hi=>by
     have:i=0∨i=1∨i=2:=by omega
     rcases this with rfl|rfl|rfl<;>rfl) rs 0 [] [0] (by omega) (fun y hy=>hL.sz y (by simp[hy])) (by simp;omega) (by simp;omega) with⟨L,l1,l2,l3,l4,l5⟩|⟨l4,l5⟩
   ·obtain⟨a,b,c,rfl⟩:=qOI (l1.trans hn)
    rw[List.nil_append]at l4
    rw[l5]
    obtain⟨r,r1,r2,r3⟩:=qOy hF' h.val (Element.mk nm a b c) (hL.sz nm (by simp))
    have hi0:qAA S F (⟨#[101,108,101,109,101,110,116]⟩::nm::rs) ⟨#[101,108,101,109,101,110,116]⟩ (⟨#[119,110,110,110]⟩,true) [] (rs.length+1) ([0]++[a,b,c])=some (bif r.2 then (ScriptState.mk r.1 S.performance S.factor S.results,(⟨#[111,107]⟩:ByteArray)) else (S,⟨#[110,111]⟩)):=by
     rw[qAA]
     show ((qE9 F S.code (Element.mk nm a b c)).bind fun x43=>(qAr S x43.1 x43.2).bind fun x45=>some (x45.1,x45.2))=_
     rw[bnd r2,bnd (qMy S r.1 r.2)]
    have hs1:∀no wh ln,qAB F (cs S no wh ln) t=some (bif r.2 then (CsState.mk r.1 S.performance S.factor S.results no wh ln,(⟨#[111,107]⟩:ByteArray)) else (cs S no wh ln,⟨#[110,111]⟩)):=fun no wh ln=>by
     rw[hs0 _ _ _ l4]
     show ((qC1 F (cs S no wh ln) nm [a,b,c]).bind fun x24=>some (x24.1,x24.2))=_
     unfold qC1
     rw[show qAV [a,b,c] 0=some a from rfl,oB9,show qAV [a,b,c] 1=some b from rfl,oB9,show qAV [a,b,c] 2=some c from rfl,oB9,show qE5 F (cs S no wh ln).code (Element.mk nm a b c)=some r from r1,oB9]
     cases hr:r.2
     ·rfl
     ·rw[Bool.not_true,cF,bnd (qKA (show qBZ F r.1 (cs S no wh ln).p=some true from(r3 hr).2))];rfl
    cases hr:r.2
    ·rw[hr]at hi0 hs1
     exact Alike.stay h _ (by show (2:Nat)≤_;omega) hi0 hs1
    ·rw[hr]at hi0 hs1
     exact⟨_,_,hi0,hs1,⟨(r3 hr).1,h.fac,h.res⟩,by show (2:Nat)≤_;omega⟩
   ·refine Alike.stay h whatB (by omega) l5 (fun no wh ln=>?_)
    show qAB F (cs S no wh ln) t=_
    rw[hs0 _ _ _ l4];rfl
  ·refine Alike.stay h whatB (by omega) ?_ (fun no wh ln=>?_)
   ·rw[show (((⟨#[119,110,110,110]⟩:ByteArray).size:Int)==((nm::rs).length:Int))=false from beq_eq_false_iff_ne.2 (by simp only[List.length_cons];show ¬(4:Int)=_;omega)];rfl
   ·show qAB F (cs S no wh ln) t=_
    obtain⟨L,ok,e1,e2⟩:=qQJ F (by omega) rs false (by omega) rs 0 [] (by omega) (fun y hy=>hL.sz y (by simp[hy])) (by simp;omega)
    rw[hs0 _ _ _ e1]
    cases ok
    ·rfl
    ·have:=e2 rfl
     simp only[List.length_nil,Nat.zero_add]at this
     rw[show ((L.length:Int) != 3)=true from by rw[bne_iff_ne];omega];rfl
theorem qUj {F:Nat} (hF:4194304<F) {S:ScriptState} (h:SGood F S) (t:ByteArray) (ht:t.size≤2000):Alike F S (qAg F S t) (fun x=>qAB F x t):=by
 have hF':1048576<F:=by omega
 have hw:whatB.size=4:=rfl
 obtain⟨W,w1,w2,w3⟩:=qM3 t (by omega) 32 F hF
 have hWl:W.length≤2001:=by
  have:=congrArg List.length w3
  rw[List.length_map,qJ3]at this
  have h2:=List.count_le_length (a:=(32:UInt8)) (l:=toL t)
  rw[qCh]at h2
  omega
 have hWs:=qOw w3
 obtain⟨w0,ws,rfl⟩:∃w0 ws,W=w0::ws:=by
  cases W with
  |nil=>exact absurd w3.symm (qOW 32 _)
  |cons a b=>exact⟨a,b,rfl⟩
 rcases qYv t ⟨#[105,116,101,109,32]⟩ (by omega) (by decide) with⟨r,r1,r2⟩|⟨r1,r2⟩
 ·have hc:qJC 32 (toL t)=toL (⟨#[105,116,101,109]⟩:ByteArray)::qJC 32 (toL r):=by
   rw[r2]
   exact qLI 32 (toL r) [105,116,101,109] (by decide)
  rw[hc,List.map_cons,List.cons.injEq]at w3
  have e0:w0=⟨#[105,116,101,109]⟩:=qGI w3.1
  have hne:ws≠[]:=fun e=>by rw[e]at w3;exact absurd w3.2.symm (qOW 32 _)
  have hpos:0<ws.length:=List.length_pos_iff.2 hne
  have hl:=congrArg List.length r2
  rw[List.length_append,qCh,qCh,qCh]at hl
  have e5:(⟨#[105,116,101,109,32]⟩:ByteArray).size=5:=rfl
  have hex:ByteArray.extract t (5:Int).toNat t.size=r:=qGI (by
   rw[show toL (ByteArray.extract t (5:Int).toNat t.size)=(toL t).drop 5 from Go.Lib.extract_to_end t 5,r2]
   exact List.drop_left' rfl)
  obtain⟨S',q,c1,c2,c3,c4⟩:=qVv hF h r (by omega)
  refine⟨S',q,?_,fun no wh ln=>?_,c3,c4⟩
  ·unfold qAg
   rw[bnd r1]
   dsimp only
   rw[cW,bnd c1]
  ·show qAB F (cs S no wh ln) t=_
   unfold qAB
   rw[bnd (show qA1 F t 32=some (w0::ws) from w1),show (((w0::ws).length:Int)==1)=false from beq_eq_false_iff_ne.2 (by simp only[List.length_cons];omega),cF,show qAV (w0::ws) 0=some w0 from rfl,oB9,dT e0,cW,show inB 5 t.size t.size=true from by unfold inB;simp;omega,qD3,oB9,hex,bnd (c2 no wh ln)]
 have hL:LnW F t w0 ws:=⟨w1,w2,r2,by simp only[List.length_cons]at hWl;omega,fun y hy=>by have:=hWs y (by simp[hy]);omega,fun hne e=>by
  obtain⟨z,zs,rfl⟩:=List.exists_cons_of_ne_nil hne
  have:=qLJ 32 (toL t)
  rw[←w3,e]at this
  exact r1 (qNz 32 ((z::zs).map toL)) this.symm,fun e=>qGI (by
  have:=qLJ 32 (toL t)
  rw[←w3,e]at this
  exact this.symm)⟩
 by_cases c_late:w0=⟨#[108,97,116,101]⟩
 ·subst c_late
  exact qHj hF h hL (by decide) (by decide) (by decide) rfl rfl (qAH F S ⟨#[108,97,116,101]⟩ []) (by rw[qAA];rfl) (qVG hF' h)
 by_cases c_check:w0=⟨#[99,104,101,99,107]⟩
 ·subst c_check
  exact qHj hF h hL (by decide) (by decide) (by decide) rfl rfl (qAL F S ⟨#[99,104,101,99,107]⟩ []) (by rw[qAA];rfl) (qUg hF' h)
 by_cases c_base:w0=⟨#[98,97,115,101]⟩
 ·subst c_base
  exact qHj hF h hL (by decide) (by decide) (by decide) rfl rfl (qAL F S ⟨#[98,97,115,101]⟩ []) (by rw[qAA];rfl) (qV3 hF' h)
 by_cases c_score:w0=⟨#[115,99,111,114,101]⟩
 ·subst c_score
  exact qHj hF h hL (by decide) (by decide) (by decide) rfl rfl (qAL F S ⟨#[115,99,111,114,101]⟩ []) (by rw[qAA];rfl) (qUE hF' h)
 by_cases c_bound:w0=⟨#[98,111,117,110,100]⟩
 ·subst c_bound
  exact qHj hF h hL (by decide) (by decide) (by decide) rfl rfl (qAL F S ⟨#[98,111,117,110,100]⟩ []) (by rw[qAA];rfl) (qTL hF' h)
 by_cases c_best:w0=⟨#[98,101,115,116]⟩
 ·subst c_best
  exact qHj hF h hL (by decide) (by decide) (by decide) rfl rfl (qAL F S ⟨#[98,101,115,116]⟩ []) (by rw[qAA];rfl) (qVk hF' h)
 by_cases c_places:w0=⟨#[112,108,97,99,101,115]⟩
 ·subst c_places
  exact qHj hF h hL (by decide) (by decide) (by decide) rfl rfl (qA7 F S ⟨#[112,108,97,99,101,115]⟩ []) (by rw[qAA];rfl) (qRl hF' h)
 by_cases c_limit:w0=⟨#[108,105,109,105,116]⟩
 ·subst c_limit
  refine qG1 hF h hL (by decide) (by decide) (by decide) ⟨#[110,110]⟩ rfl rfl (by decide) false rfl (fun i hi=>?_) (fun x=>rfl) (fun v=>qAi F S ⟨#[108,105,109,105,116]⟩ v) (fun v=>by rw[qAA];rfl) (fun L hl hp=>qUi hF' h hl (hp rfl))
  have:i=0∨i=1:=by have:i<2:=hi;omega
  rcases this with rfl|rfl<;>rfl
 by_cases c_rules:w0=⟨#[114,117,108,101,115]⟩
 ·subst c_rules
  refine qG1 hF h hL (by decide) (by decide) (by decide) ⟨#[110,110,110,110]⟩ rfl rfl (by decide) false rfl (fun i hi=>?_) (fun x=>rfl) (fun v=>qAi F S ⟨#[114,117,108,101,115]⟩ v) (fun v=>by rw[qAA];rfl) (fun L hl hp=>qUe hF' h hl)
  have:i=0∨i=1∨i=2∨i=3:=by have:i<4:=hi;omega
  rcases this with rfl|rfl|rfl|rfl<;>rfl
 by_cases c_judges:w0=⟨#[106,117,100,103,101,115]⟩
 ·subst c_judges
  refine qG1 hF h hL (by decide) (by decide) (by decide) ⟨#[110]⟩ rfl rfl (by decide) false rfl (fun i hi=>?_) (fun x=>rfl) (fun v=>qAO F S ⟨#[106,117,100,103,101,115]⟩ v) (fun v=>by rw[qAA];rfl) (fun L hl hp=>qS8 hF' h hl (hp rfl))
  have:i=0:=by have:i<1:=hi;omega
  rcases this with rfl<;>rfl
 by_cases c_factor:w0=⟨#[102,97,99,116,111,114]⟩
 ·subst c_factor
  refine qG1 hF h hL (by decide) (by decide) (by decide) ⟨#[110]⟩ rfl rfl (by decide) false rfl (fun i hi=>?_) (fun x=>rfl) (fun v=>qAH F S ⟨#[102,97,99,116,111,114]⟩ v) (fun v=>by rw[qAA];rfl) (fun L hl hp=>qSp hF' h hl)
  have:i=0:=by have:i<1:=hi;omega
  rcases this with rfl<;>rfl
 by_cases c_range:w0=⟨#[114,97,110,103,101]⟩
 ·subst c_range
  refine qG1 hF h hL (by decide) (by decide) (by decide) ⟨#[110]⟩ rfl rfl (by decide) false rfl (fun i hi=>?_) (fun x=>rfl) (fun v=>qAL F S ⟨#[114,97,110,103,101]⟩ v) (fun v=>by rw[qAA];rfl) (fun L hl hp=>qUQ hF' h hl)
  have:i=0:=by have:i<1:=hi;omega
  rcases this with rfl<;>rfl
 by_cases c_skater:w0=⟨#[115,107,97,116,101,114]⟩
 ·subst c_skater
  refine qG1 hF h hL (by decide) (by decide) (by decide) ⟨#[110]⟩ rfl rfl (by decide) false rfl (fun i hi=>?_) (fun x=>rfl) (fun v=>qA7 F S ⟨#[115,107,97,116,101,114]⟩ v) (fun v=>by rw[qAA];rfl) (fun L hl hp=>qSy hF' h hl)
  have:i=0:=by have:i<1:=hi;omega
  rcases this with rfl<;>rfl
 by_cases c_grade:w0=⟨#[103,114,97,100,101]⟩
 ·subst c_grade
  refine qG1 hF h hL (by decide) (by decide) (by decide) ⟨#[110,110,103]⟩ rfl rfl (by decide) true rfl (fun i hi=>?_) (fun x=>rfl) (fun v=>qAO F S ⟨#[103,114,97,100,101]⟩ v) (fun v=>by rw[qAA];rfl) (fun L hl hp=>qTI hF' h hl)
  have:i=0∨i=1∨i=2:=by have:i<3:=hi;omega
  rcases this with rfl|rfl|rfl<;>rfl
 by_cases c_component:w0=⟨#[99,111,109,112,111,110,101,110,116]⟩
 ·subst c_component
  refine qG1 hF h hL (by decide) (by decide) (by decide) ⟨#[110,110,110]⟩ rfl rfl (by decide) false rfl (fun i hi=>?_) (fun x=>rfl) (fun v=>qAO F S ⟨#[99,111,109,112,111,110,101,110,116]⟩ v) (fun v=>by rw[qAA];rfl) (fun L hl hp=>qQC hF' h hl)
  have:i=0∨i=1∨i=2:=by have:i<3:=hi;omega
  rcases this with rfl|rfl|rfl<;>rfl
 by_cases c_slips:w0=⟨#[115,108,105,112,115]⟩
 ·subst c_slips
  refine qG1 hF h hL (by decide) (by decide) (by decide) ⟨#[110,110,110]⟩ rfl rfl (by decide) false rfl (fun i hi=>?_) (fun x=>rfl) (fun v=>qAH F S ⟨#[115,108,105,112,115]⟩ v) (fun v=>by rw[qAA];rfl) (fun L hl hp=>qUz hF' h hl)
  have:i=0∨i=1∨i=2:=by have:i<3:=hi;omega
  rcases this with rfl|rfl|rfl<;>rfl
 by_cases c_call:w0=⟨#[99,97,108,108]⟩
 ·subst c_call;exact qUs hF h hL
 by_cases c_element:w0=⟨#[101,108,101,109,101,110,116]⟩
 ·subst c_element;exact qQ9 hF h hL
 have hf:qFI w0=some (⟨#[]⟩,false):=by
  unfold qFI
  rw[dF c_element,cF,dF c_limit,cF,dF c_rules,cF,dF c_judges,cF,dF c_factor,cF,dF c_range,cF,dF c_skater,cF,dF c_grade,cF,dF c_component,cF,dF c_slips,cF,dF c_call,cF,dF c_late,cF,dF c_check,cF,dF c_base,cF,dF c_score,cF,dF c_bound,cF,dF c_best,cF,dF c_places,cF]
 have ha:qEb w0=some 0:=by
  unfold qEb
  rw[dF c_judges,cF,dF c_factor,cF,dF c_range,cF,dF c_skater,cF,dF c_limit,cF,dF c_grade,cF,dF c_component,cF,dF c_slips,cF,dF c_element,cF,dF c_rules,cF]
 have hal:∀x,qAX F x w0=some (x,whatB):=fun x=>by
  unfold qAX
  rw[dF c_late,cF,dF c_check,cF,dF c_base,cF,dF c_score,cF,dF c_bound,cF,dF c_best,cF,dF c_places,cF];rfl
 refine Alike.stay h whatB (by omega) ?_ (fun no wh ln=>?_)
 ·rw[qK0 F S t w0 ws hL.np hL.im hL.ln _ _ hf];rfl
 ·show qAB F (cs S no wh ln) t=_
  by_cases h0:ws=[]
  ·have:=hL.al h0
   subst this h0
   rw[qJl F _ t hL.sp,hal];rfl
  ·have hpos:0<ws.length:=List.length_pos_iff.2 h0
   exact qM7 F (by omega) _ t w0 ws hL.sp hL.ln hL.sz h0 (hL.ni h0) c_call c_element _ ha (by omega)
end
section
theorem qSY (c:UInt8):∀l:List UInt8,qJC c (l++[c])=qJC c l++[[]]
 | []=>qLI c [] [] (fun _ h=>by cases h)
 |b::l=>by
  have ih:=qSY c l
  rw[List.cons_append,qJC,ih]
  conv=>rhs;rw[qJC]
  by_cases h:b=c
  ·rw[if_pos h,if_pos h,List.cons_append]
  ·rw[if_neg h,if_neg h]
   cases h2:qJC c l with
   |nil=>have:=qJ3 c l;rw[h2]at this;simp at this
   |cons x t=>rfl
theorem qQ7 (s:ByteArray) (hn:s.size≤4194304) (fl:Nat) (hf:4194304<fl):∃r g:List ByteArray×Bool,qFe fl s=some r∧qCe s=some g∧r.2=g.2∧(g.2=true→r.1=g.1):=by
 have hsz:=Go.Lib.size_eq s
 unfold qFe qCe qGa
 by_cases he:s=⟨#[]⟩
 ·subst he
  obtain⟨r,r1,r2⟩:=qNb ⟨#[]⟩ (by decide) 10 fl hf
  have e:r.map toL=[[]]:=r2
  obtain⟨x,hx⟩:∃x,r=[x]:=by
   cases r with
   |nil=>simp at e
   |cons x r=>cases r with
    |nil=>exact⟨x,rfl⟩
    |cons y r=>simp at e
  subst hx
  simp only[decide_true,Bool.not_true,Bool.and_false,qDa,oB9,Bool.false_and,Bool.or_false,cW]
  rw[show decide ((((⟨#[]⟩:ByteArray).size:Nat):Int)>2000)=false from rfl,cF,bnd (show qA1 fl ⟨#[]⟩ 10=some [x] from r1)]
  exact⟨([],true),([],true),rfl,rfl,rfl,fun _=>rfl⟩
 ·have hpos:0<s.size:=by
   rw[hsz]
   apply Nat.pos_of_ne_zero
   intro h0
   exact he (qGI (List.length_eq_zero_iff.1 h0))
  have hlt:s.size-1<(toL s).length:=by rw[←hsz];omega
  have hlast:qNk s (w64 ((s.size:Int)-1))=some (toL s)[s.size-1]:=by
   rw[qAD (by omega),qME (k:=s.size-1) (by omega),List.getElem?_eq_getElem hlt]
  rw[dF he,cF,bnd hlast,hlast]
  simp only[Bool.not_false,Bool.and_true,Bool.true_and]
  generalize hb:(toL s)[s.size-1]=b
  by_cases h10:b=10
  ·subst h10
   rw[show (((10:UInt8).toNat:Int) != 10)=false from rfl,cF]
   have hin:inB 0 (w64 ((s.size:Int)-1)) s.size=true:=by rw[qAD (by omega)];unfold inB;simp;omega
   have htn:(w64 ((s.size:Int)-1)).toNat=s.size-1:=by rw[qAD (by omega)];omega
   rw[hin,qD3,oB9,htn]
   unfold qB2
   have hes:(s.extract 0 (s.size-1)).size≤s.size:=by rw[Go.Lib.size_eq,Go.Lib.extract_data,List.length_take,List.length_drop,←hsz];omega
   rw[show (Nat.blt (s.extract 0 (s.size-1)).size 4294967281&&Nat.blt 0 (⟨#[10]⟩:ByteArray).size)=true from by
    rw[Bool.and_eq_true,Nat.blt_eq];exact⟨by omega,rfl⟩,qD3,oB9,oB9,oB9]
   simp only[Bool.not_true,Bool.false_or]
   have hsp:=qNR (s.extract 0 (s.size-1)) 10
   rw[show toL (s.extract 0 (s.size-1))=(toL s).take (s.size-1) from by rw[show toL (s.extract 0 (s.size-1))=_ from Go.Lib.extract_data s 0 (s.size-1)];rw[List.drop_zero,Nat.sub_zero]]at hsp
   have hL:toL s=(toL s).take (s.size-1)++[10]:=by
    have:=List.take_append_drop (s.size-1) (toL s)
    rw[List.drop_eq_getElem_cons hlt,hb,List.drop_of_length_le (by rw[←hsz];omega)]at this
    exact this.symm
   obtain⟨r,r1,r2⟩:=qNb s hn 10 fl hf
   rw[hL,qSY,←hsp]at r2
   generalize hg:qH2 (s.extract 0 (s.size-1)) ⟨#[10]⟩=g at r2
   obtain⟨g',z,rfl⟩:∃g' z,r=g'++[z]:=by
    have hl:r≠[]:=by intro e;rw[e]at r2;simp at r2
    exact⟨r.dropLast,r.getLast hl,(List.dropLast_concat_getLast hl).symm⟩
   rw[List.map_append]at r2
   have hgg:g'=g:=by
    have hlen:(g'.map toL).length=(g.map toL).length:=by
     have:=congrArg List.length r2
     simp at this;simpa using this
    exact qIh (List.append_inj r2 hlen).1
   subst hgg
   by_cases h2:(s.size:Int)>2000
   ·rw[dT h2]
    simp only[Bool.not_true,qDa,oB9,Bool.true_or,cW]
    exact⟨_,_,rfl,rfl,rfl,fun h=>by cases h⟩
   ·rw[dF h2]
    simp only[Bool.not_false,qCV,oB9,Bool.false_or,cF]
    rw[bnd (show qA1 fl s 10=some (g'++[z]) from r1),bnd (qMC g' [z] (by
     have:g'.length≤4294967281:=by
      have h3:=qJ3 10 ((toL s).take (s.size-1))
      have h4:=congrArg List.length hsp
      rw[hg,List.length_map]at h4
      have h5:((toL s).take (s.size-1)).count 10≤s.size:=Nat.le_trans List.count_le_length (by rw[List.length_take,←hsz];omega)
      omega
     rw[List.length_append,qAD (by simp;omega)];simp))]
    by_cases h40:(g'.length:Int)>40
    ·rw[dT h40,cW]
     exact⟨_,_,rfl,rfl,dF (by omega),fun h=>by cases h⟩
    ·rw[dF h40,cF]
     exact⟨_,_,rfl,rfl,dT (by omega),fun _=>rfl⟩
  ·have h11:((b.toNat:Int) != 10)=true:=by
    rw[bne_iff_ne];intro e;exact h10 (UInt8.toNat_inj.1 (by show b.toNat=10;omega))
   rw[h11,cW]
   by_cases h2:(s.size:Int)>2000
   ·rw[dT h2]
    simp only[Bool.not_true,qDa,oB9,Bool.true_or,cW]
    exact⟨_,_,rfl,rfl,rfl,fun h=>by cases h⟩
   ·rw[dF h2]
    simp only[Bool.not_false,qCV,oB9,Bool.false_or,h11,cW,Bool.true_or]
    exact⟨_,_,rfl,rfl,rfl,fun h=>by cases h⟩
theorem qS2 (s:ByteArray) (hs:s.size≤1048576) (F:Nat) (hF:4194304<F):(∃ls:List ByteArray,qFe F s=some (ls,true)∧qCe s=some (ls,true)∧ls.length≤40∧∀y∈ls,y.size≤2000)∨(∃l,qFe F s=some (l,false)∧qCe s=some ([],false)):=by
 obtain⟨r,g,r1,g1,e1,e2⟩:=qQ7 s (by omega) F hF
 obtain⟨x,x1,x2⟩:=qSi s hs
 have hg:=g1
 unfold qCe at hg
 rw[bnd x1]at hg
 cases hc:((!x.2)||decide ((s.size:Int)>2000))||decide ((x.1.length:Int)>40)
 ·rw[hc,cF]at hg
  have:=(Option.some.inj hg).symm
  subst this
  simp only[Bool.or_eq_false_iff,Bool.not_eq_false',decide_eq_false_iff_not]at hc
  rcases x2 with⟨_,x3⟩|⟨x3,_⟩
  ·refine .inl ⟨x.1,?_,g1,by omega,fun y hy=>?_⟩
   ·rw[r1]
    have h2:r.2=true:=e1
    have h1:=e2 rfl
    rw[←h1,←h2]
   ·have:=qMS 10 (toL s) (toL y) (by rw[x3];exact List.mem_append_left _ (List.mem_map.2 ⟨y,hy,rfl⟩))
    rw[qCh,qCh]at this
    omega
  ·rw[x3]at hc;exact absurd hc.1.1 (by simp)
 ·rw[hc,cW]at hg
  have:=(Option.some.inj hg).symm
  subst this
  have h2:r.2=false:=e1
  exact .inr ⟨r.1,by rw[r1,←h2],g1⟩
def qSn (b:ByteArray):List ByteArray→Nat→List Int
 | [],_=>[]
 |r::rs,k=>if r=b then ((k+1:Nat):Int)::qSn b rs (k+1) else qSn b rs (k+1)
def qYi:List ByteArray→ByteArray→ByteArray
 | [],a=>a
 |r::rs,a=>qYi rs (a++(r++(⟨#[10]⟩:ByteArray)))
def noB:ByteArray:=⟨#[110,111]⟩
theorem qYC (F:Nat) (hF:4194304<F) (x3:List ByteArray×Bool):∀(ys:List ByteArray) (k:Nat) (S:ScriptState) (no wh:List Int) (ln:Int) (reps:List ByteArray) (out:ByteArray),SGood F S→(∀y∈ys,y.size≤2000)→reps.length+ys.length≤1000→no.length+ys.length≤1000→wh.length+ys.length≤1000→out.size+1001*ys.length≤500000→
  ∃S' R,SGood F S'∧R.length=ys.length∧(∀r∈R,r.size≤1000)∧qBU F ys k S.code.elements S.code.limits S.code.repeats S.code.bonus S.code.keeps S.code.fall S.performance.items S.performance.marks.grades S.performance.marks.components S.performance.slips.falls S.performance.slips.seconds S.performance.slips.other S.factor S.results reps=some (some S',reps++R,true)∧
  qCG F x3 ys k S.code.elements S.code.limits S.code.repeats S.code.bonus S.code.keeps S.code.fall S.performance.items S.performance.marks.grades S.performance.marks.components S.performance.slips.falls S.performance.slips.seconds S.performance.slips.other S.factor S.results no wh ln out=some (cs S' (no++qSn noB R k) (wh++qSn whatB R k) (x3.1.length:Int),qYi R out,true)
 | [],k,S,no,wh,ln,reps,out,h,_,_,_,_,_=>⟨S,[],h,rfl,by simp,by rw[qBU,List.append_nil],by rw[qCG];simp only[qSn,List.append_nil];rfl⟩
 |y::ys,k,S,no,wh,ln,reps,out,h,hy,h1,h2,h3,h4=>by
  simp only[List.length_cons]at h1 h2 h3 h4
  obtain⟨S1,r,c1,c2,c3,c4⟩:=qUj hF h y (hy y (by simp))
  have e10:(⟨#[10]⟩:ByteArray).size=1:=rfl
  have nxt:=fun no' wh' (a:no'.length+ys.length≤1000) (b:wh'.length+ys.length≤1000)=>qYC F hF x3 ys (k+1) S1 no' wh' ln (reps++[r]) (out++(r++(⟨#[10]⟩:ByteArray))) c3 (fun z hz=>hy z (by simp[hz])) (by simp;omega) a b (by simp only[ByteArray.size_append];omega)
  have ei:qBU F (y::ys) k S.code.elements S.code.limits S.code.repeats S.code.bonus S.code.keeps S.code.fall S.performance.items S.performance.marks.grades S.performance.marks.components S.performance.slips.falls S.performance.slips.seconds S.performance.slips.other S.factor S.results reps=qBU F ys (k+1) S1.code.elements S1.code.limits S1.code.repeats S1.code.bonus S1.code.keeps S1.code.fall S1.performance.items S1.performance.marks.grades S1.performance.marks.components S1.performance.slips.falls S1.performance.slips.seconds S1.performance.slips.other S1.factor S1.results (reps++[r]):=by
   rw[qBU]
   show (qAg F S y).bind _=_
   rw[bnd c1,ndf (by omega) (by simp;omega),oB9]
  have n1:qAz (Nat.ble (r.size+(⟨#[10]⟩:ByteArray).size) qEO)=some ():=nd (by omega)
  have n2:qAz (Nat.ble (out.size+(r++(⟨#[10]⟩:ByteArray)).size) qEO)=some ():=nd (by simp only[ByteArray.size_append];omega)
  have es:=c2 no wh ln
  have e0:qCG F x3 (y::ys) k S.code.elements S.code.limits S.code.repeats S.code.bonus S.code.keeps S.code.fall S.performance.items S.performance.marks.grades S.performance.marks.components S.performance.slips.falls S.performance.slips.seconds S.performance.slips.other S.factor S.results no wh ln out=qCG F x3 ys (k+1) S1.code.elements S1.code.limits S1.code.repeats S1.code.bonus S1.code.keeps S1.code.fall S1.performance.items S1.performance.marks.grades S1.performance.marks.components S1.performance.slips.falls S1.performance.slips.seconds S1.performance.slips.other S1.factor S1.results (no++(if r=noB then [((k+1:Nat):Int)] else [])) (wh++(if r=whatB then [((k+1:Nat):Int)] else [])) ln (out++(r++(⟨#[10]⟩:ByteArray))):=by
   rw[qCG]
   show (qAB F (cs S no wh ln) y).bind _=_
   rw[bnd es]
   dsimp only[cs]
   by_cases hn:r=noB
   ·have hw:¬r=whatB:=fun e=>by rw[hn]at e;exact absurd e (by decide)
    rw[dT (show r=⟨#[110,111]⟩ from hn),cW,ndf (by omega) (by simp;omega),oB9,n1,oB9,n2,oB9,if_pos hn,if_neg hw,List.append_nil]
   ·rw[dF (show ¬r=⟨#[110,111]⟩ from hn),cF,if_neg hn,List.append_nil]
    by_cases hw:r=whatB
    ·rw[dT (show r=⟨#[119,104,97,116]⟩ from hw),cW,ndf (by omega) (by simp;omega),oB9,n1,oB9,n2,oB9,if_pos hw]
    ·rw[dF (show ¬r=⟨#[119,104,97,116]⟩ from hw),cF,n1,oB9,n2,oB9,if_neg hw,List.append_nil]
  obtain⟨S',R,g,l,z,a,b⟩:=nxt (no++(if r=noB then [((k+1:Nat):Int)] else [])) (wh++(if r=whatB then [((k+1:Nat):Int)] else [])) (by split<;>simp<;>omega) (by split<;>simp<;>omega)
  refine⟨S',r::R,g,by simp[l],fun q hq=>?_,by rw[ei,a,List.append_assoc];rfl,?_⟩
  ·rcases List.mem_cons.1 hq with rfl|hq
   ·exact c4
   ·exact z q hq
  ·have en:(no++(if r=noB then [((k+1:Nat):Int)] else []))++qSn noB R (k+1)=no++qSn noB (r::R) k:=by rw[qSn];split<;>simp
   have ew:(wh++(if r=whatB then [((k+1:Nat):Int)] else []))++qSn whatB R (k+1)=wh++qSn whatB (r::R) k:=by rw[qSn];split<;>simp
   rw[e0,b,en,ew];rfl
def S0:ScriptState:=ScriptState.mk (Code.mk [(Element.mk (⟨#[51,65]⟩:ByteArray) 0 0 800)] ([7,7,7,7,7]:List Int) 2 10 80 100) (Performance.mk [] (qMI 0 3) (Slips.mk 0 0 0)) 100 []
theorem qSs (F:Nat) (hF:1048576<F):qHr F=some (cs S0 [] [] 0)∧qHU F=some S0:=by
 obtain⟨a,b⟩:=qUC F hF 0 (by omega) 3 (by omega)
 unfold qHr qHU
 rw[bnd (show qDE F 0 3=some (qMI 0 3) from a),bnd (show qC5 F 0 3=some (qMI 0 3) from b)]
 exact⟨rfl,rfl⟩
theorem qXI (F:Nat) (hF:1048576<F):SGood F S0:=by
 have hn:qRM S0.code:=⟨by decide,fun x hx=>by
  simp only[S0,List.mem_singleton]at hx
  subst hx;decide⟩
 obtain⟨b,b1,b2,_⟩:=qMX S0.code hn F hF
 obtain⟨f,rfl⟩:∃f,F=f+10:=⟨F-10,by omega⟩
 have hc:qDD (f+10) S0.code=some true:=rfl
 obtain rfl:b=true:=by rw[hc]at b2;exact(Option.some.inj b2).symm
 refine⟨⟨hn,(fun it hi=>by simp[S0]at hi),b2,b1,rfl,rfl,rfl,rfl,(qOn 0 3 (by omega)).2 (by omega),rfl,by unfold qOT;decide⟩,by decide,?_⟩
 unfold qPe
 simp[S0]
theorem qVb (s:ByteArray) (hs:s.size≤1048576) (F:Nat) (hF:4194304<F):(∃(S:ScriptState) (R ls:List ByteArray),SGood F S∧R.length=ls.length∧ls.length≤40∧(∀r∈R,r.size≤1000)∧qFZ F s=some (some S,R,true)∧qH0 F s=some (cs S (qSn noB R 0) (qSn whatB R 0) (ls.length:Int),qYi R ⟨#[]⟩,true))∨
  (qFZ F s=some (none,[],false)∧∃x,qH0 F s=some (x,⟨#[]⟩,false)):=by
 obtain⟨a,b⟩:=qSs F (by omega)
 unfold qFZ qH0
 rcases qS2 s hs F hF with⟨ls,l1,l2,l3,l4⟩|⟨l,l1,l2⟩
 ·rw[bnd l2,bnd a,bnd l1,Bool.not_true,cF,cF,bnd b]
  obtain⟨S',R,g,r1,r2,e1,e2⟩:=qYC F hF (ls,true) ls 0 S0 [] [] 0 [] ⟨#[]⟩ (qXI F (by omega)) l4 (by simp;omega) (by simp;omega) (by simp;omega) (by show 0+_≤_;omega)
  exact .inl ⟨S',R,ls,g,r1,l3,r2,e1,e2⟩
 ·rw[bnd l2,bnd a,bnd l1]
  exact .inr ⟨rfl,_,rfl⟩
end
section
theorem qWF {α:Type} (f:α→Nat) (B:Nat):∀l:List α,(∀x∈l,f x≤B)→(l.map f).sum≤l.length*B
 | [],_=>by simp
 |x::l,h=>by
  have:=qWF f B l fun y hy=>h y (by simp[hy])
  have:=h x (by simp)
  simp only[List.map_cons,List.sum_cons,List.length_cons,Nat.add_mul];omega
theorem qL2 (F:Nat) (hF:4194304<F) (s:ByteArray):qCi F s=some true:=by
 unfold qCi
 by_cases hs:(s.size:Int)>1048576
 ·rw[dT hs];rfl
 ·rw[dF hs,cF]
  unfold qGM qGJ
  have fin:∀(l:List Result) (b:Bool),qF2 l≤1000→((qFT l l).bind fun x5=>cond ((!x5)||(!(b==b))) (some false) ((qFo F l 1).bind fun x7=>(qFm x7.1 1).bind fun x9=>cond (decide (x9<0)) (some false) (cond (x9 != x7.2) (some false) (cond ((!x5)||(!(b==b))) (some false) (cond (decide (x9<0)) (some false) (cond (x9 != x7.2) (some false) (some true)))))))=some true:=by
   intro l b hl
   obtain⟨a,k,g1,g2,g3,g4⟩:=qRC l 1 F (by omega) (by omega) (by omega)
   rw[bnd (qSk l l),bnd g1,bnd g4,dT rfl,dF (by omega:¬k<0)]
   simp
  rcases qVb s (by omega) F hF with⟨S,R,ls,hg,r1,r2,r3,e1,e2⟩|⟨e1,x,e2⟩
  ·have hl:qF2 S.results≤1000:=by
    have h4:=hg.res.2.2.2
    have h1:qF2 S.results≤S.results.length*10:=qWF _ 10 _ fun x hx=>by
     have:=(hg.res.1 x hx).2.1.2
     show 1+(1+x.scores.length)≤10
     omega
    omega
   rw[bnd e2,bnd e1]
   simp only[Bool.not_true,cF,oB9]
   exact fin S.results true hl
  ·rw[bnd e2,bnd e1]
   exact fin [] false (by decide)
theorem qNS (s:ByteArray) (_:s.size≤qEO):qCi 99999999 s=some true:=qL2 99999999 (by omega) s
end
end Go.Proofs.YtkidpkmpnbibmaaGreatDoor

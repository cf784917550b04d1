/- Plain lemmas: what the functions compute is what the reference says, in plain Lean. No condition. -/
import Derived.Test.YtkidpkmpnbibmaaGreatDoorFsP1
set_option maxRecDepth 4000
set_option maxHeartbeats 1000000
set_option linter.unusedVariables false
set_option linter.unusedSimpArgs false
set_option linter.unusedSectionVars false
namespace Go.Proofs.YtkidpkmpnbibmaaGreatDoor
open Go.AM
section
theorem qWR:∀(ys:List Item) (k:Nat),∃b,qCh ys k=some b/\∃r,qAs (fun a0=>qCU a0) ys k=some r/\decide (r>=0)=!b
 | [],k=>⟨true,by rw[qCh],-1,by rw[qAs],rfl⟩
 |y::ys,k=>by
  obtain⟨b,b1,r,r1,r2⟩:=qWR ys (k+1)
  obtain⟨d,d1,d2⟩:=qJO 0 0 y.ae 0
  obtain⟨e,e1,e2⟩:=qPQ 0 0 y.ae 0
  obtain rfl:d=e:=Bool.eq_iff_iff.2 (d2.trans e2.symm)
  rw[qCh,qAs,bnd (show qC3 y.ae 0 0=some d from e1),bnd (show qCU y=some (!d) from by unfold qCU;rw[bnd (show qCR y.ae 0 0=some d from d1)])]
  cases d
  ·exact⟨false,rfl,_,rfl,by rw[dT (by omega)];rfl⟩
  ·exact⟨b,b1,r,r1,r2⟩
theorem qTF:∀(ys:List Item) (k:Nat) (a b:Int),(∀it∈ys,it.aj.length<=3)->0<=a->0<=b->a+ys.length<=1000->b+ys.length<=1000->∃x y:Int,qA4 ys k a b=some (x,y)/\qAu ys k a b=some (decide (x<=3)&&decide (y<=1))
 | [],k,a,b,_,_,_,_,_=>⟨a,b,by rw[qA4],by rw[qAu]⟩
 |y::ys,k,a,b,h,ha,hb,h1,h2=>by
  have hy:=h y (by simp)
  have hr:∀it∈ys,it.aj.length<=3:=fun it hi=>h it (by simp[hi])
  simp only[List.length_cons]at h1 h2
  rw[qA4,qAu]
  unfold qDL
  rw[oB9,qAD (n:=a+1) (by omega),qAD (n:=b+1) (by omega)]
  by_cases c1:(y.aj.length:Int)>1
  ·rw[dT c1,cW,cW]
   by_cases c2:(y.aj.length:Int)>2
   ·rw[dT c2,cW,show ((y.aj.length:Int)==3)=true from beq_iff_eq.2 (by omega),cW]
    exact qTF ys (k+1) (a+1) (b+1) hr (by omega) (by omega) (by omega) (by omega)
   ·rw[dF c2,cF,show ((y.aj.length:Int)==3)=false from beq_eq_false_iff_ne.2 (by omega),cF]
    exact qTF ys (k+1) (a+1) b hr (by omega) (by omega) (by omega) (by omega)
  ·rw[dF c1,cF,cF,dF (by omega),cF,show ((y.aj.length:Int)==3)=false from beq_eq_false_iff_ne.2 (by omega),cF]
   exact qTF ys (k+1) a b hr (by omega) (by omega) (by omega) (by omega)
theorem qaO {c:Code} {it:Item} (hi:qGQ it) (hk:∀s∈it.aj,¬fnd s c.ad 0<0) (hc:qG7 c):∃f:Int,qIC c it=some f/\qHv c it=some f/\0<=f/\f<=4:=by
 obtain⟨s,m,s1,_⟩:=qOL hi
 have hs:s∈it.aj:=by rw[qEm (i:=0) (k:=0) rfl]at s1;exact List.mem_of_getElem? s1
 obtain⟨e1,e2⟩:=qPl (hk s hs)
 unfold qIC qHv
 rw[bnd s1,bnd s1,bnd (qG3 c s).2,bnd (qG3 c s).1,dF (hk s hs),cF,bnd e1]
 exact⟨_,rfl,rfl,(hc.2.2.2.2.2.2 _ e2).1⟩
theorem qTo {c:Code} (hc:qG7 c):∀(ys:List Item) (k:Nat) (v:bE),(∀it∈ys,qGQ it)->qGu c ys->v.length=5->∃w,w.length=5/\qBs c ys k v=some w/\qBA c ys k v=some w
 | [],k,v,_,_,hv=>⟨v,hv,by rw[qBs],by rw[qBA]⟩
 |y::ys,k,v,h,hk,hv=>by
  obtain⟨f,f1,f2,f3,f4⟩:=qaO (h y (by simp)) (hk y (by simp)) hc
  obtain⟨n,rfl⟩:=Int.eq_ofNat_of_zero_le f3
  have hg:qAV v (n:Int)=some (v[n]'(by omega)):=by rw[qEm rfl];exact List.getElem?_eq_getElem _
  obtain⟨w,w1,w2,w3⟩:=qTo hc ys (k+1) (v.set (n:Int).toNat (w64 (v[n]'(by omega)+1))) (fun it hi=>h it (by simp[hi])) (fun it hi=>hk it (by simp[hi])) (by simp[hv])
  rw[qBs,qBA,bnd f1,bnd f2,dT f3,cW,cW,bnd hg,bnd hg]
  exact⟨w,w1,w2,w3⟩
theorem qQI (c:Code):∀(ys:bE) (k:Nat),k+ys.length<=c.ar.length->∃b,qCs c ys k=some b/\qBl c ys k=some b
 | [],k,_=>⟨true,by rw[qCs],by rw[qBl]⟩
 |y::ys,k,h=>by
  simp only[List.length_cons]at h
  have hg:qAV c.ar (k:Int)=some (c.ar[k]'(by omega)):=by rw[qEm rfl];exact List.getElem?_eq_getElem _
  obtain⟨b,b1,b2⟩:=qQI c ys (k+1) (by omega)
  rw[qCs,qBl,bnd hg,bnd hg]
  cases decide (y>c.ar[k]'(by omega))
  ·exact⟨b,b1,b2⟩
  ·exact⟨false,rfl,rfl⟩
theorem qXr (l:List Item):∀(ys:List Item) (k:Nat),∃b,qDY l ys k=some b/\qCe l ys k=some b
 | [],k=>⟨true,by rw[qDY],by rw[qCe]⟩
 |y::ys,k=>by
  obtain⟨b,b1,b2⟩:=qXr l ys (k+1)
  rw[qDY,qCe]
  unfold qGW
  rw[oB9]
  cases (!(y.aB==decide (w64 (2*(k:Int))>=(l.length:Int))))
  ·exact⟨b,b1,b2⟩
  ·exact⟨false,rfl,rfl⟩
theorem qPJ (name:bD) (y:Item):∀(ys:List bD) (k k':Nat) (a b:Int),0<=a->0<=b->a+ys.length<=100000->b+ys.length<=100000->∃p q:Int,qCD name y ys k a b=some (p,q)/\qCJ name y ys k' a b=some (p,q)/\(a<=p/\p<=a+ys.length)/\(b<=q/\q<=b+ys.length)/\(name∈ys->a<p)
 | [],k,k',a,b,_,_,_,_=>⟨a,b,by rw[qCD],by rw[qCJ],by simp,by simp,by simp⟩
 |z::ys,k,k',a,b,ha,hb,h1,h2=>by
  simp only[List.length_cons]at h1 h2⊢
  rw[qCD,qCJ]
  unfold qDL
  rw[oB9,qAD (n:=a+1) (by omega),qAD (n:=b+1) (by omega)]
  by_cases hz:z=name
  ·rw[dT hz,cW,Bool.not_true,cF]
   cases decide ((y.aj.length:Int)>1)
   ·obtain⟨p,q,p1,p2,p3,p4,p5⟩:=qPJ name y ys (k+1) (k'+1) (a+1) b (by omega) hb (by omega) (by omega)
    exact⟨p,q,p1,p2,by omega,by omega,fun _=>by omega⟩
   ·obtain⟨p,q,p1,p2,p3,p4,p5⟩:=qPJ name y ys (k+1) (k'+1) (a+1) (b+1) (by omega) (by omega) (by omega) (by omega)
    exact⟨p,q,p1,p2,by omega,by omega,fun _=>by omega⟩
  ·rw[dF hz,cF,Bool.not_false,cW]
   obtain⟨p,q,p1,p2,p3,p4,p5⟩:=qPJ name y ys (k+1) (k'+1) a b ha hb (by omega) (by omega)
   refine⟨p,q,p1,p2,by omega,by omega,fun h=>?_⟩
   rcases List.mem_cons.1 h with h|h
   ·exact absurd h.symm hz
   ·exact p5 h
theorem qTK (name:bD):∀(ys:List Item) (k:Nat) (a b:Int),(∀it∈ys,it.aj.length<=3)->0<=a->0<=b->a+3*ys.length<=100000->b+3*ys.length<=100000->∃p q:Int,qDg name ys k a b=some (p,q)/\qDq name ys k a b=some (p,q)/\a<=p/\b<=q/\((∃it∈ys,name∈it.aj)->a<p)
 | [],k,a,b,_,_,_,_,_=>⟨a,b,by rw[qDg],by rw[qDq],by omega,by omega,by simp⟩
 |y::ys,k,a,b,h,ha,hb,h1,h2=>by
  have hy:=h y (by simp)
  simp only[List.length_cons]at h1 h2
  obtain⟨p,q,p1,p2,p3,p4,p5⟩:=qPJ name y y.aj 0 0 a b ha hb (by omega) (by omega)
  obtain⟨u,v,u1,u2,u3,u4,u5⟩:=qTK name ys (k+1) p q (fun it hi=>h it (by simp[hi])) (by omega) (by omega) (by omega) (by omega)
  rw[qDg,qDq,bnd p1,bnd p2]
  refine⟨u,v,u1,u2,by omega,by omega,?_⟩
  rintro⟨it,hi,hn⟩
  rcases List.mem_cons.1 hi with rfl|hi
  ·have:=p5 hn;omega
  ·have:=u5 ⟨it,hi,hn⟩;omega
theorem qT5 {c:Code} (hc:qG7 c) {l:List Item} (hl:qEe l) (hk:qGu c l) {y:Item} (hy:y∈l):∀(ys:List bD) (k:Nat),(∀s∈ys,s∈y.aj)->
  qBF c l 2 y ys k=some (.ok ())/\(∃o,qBF c l 4 y ys k=some o/\qBU c y ys k=some o/\(o=.ok ()\/o=.error false))/\(∃o,qBF c l 7 y ys k=some o/\qBq c l ys k=some o/\(o=.ok ()\/o=.error false))
 | [],k,_=>⟨by rw[qBF],⟨_,by rw[qBF],by rw[qBU],.inl rfl⟩,⟨_,by rw[qBF],by rw[qBq],.inl rfl⟩⟩
 |s::ys,k,h=>by
  have hs:=hk y hy s (h s (by simp))
  obtain⟨a1,⟨o,o1,o2,o3⟩,⟨q,q1,q2,q3⟩⟩:=qT5 hc hl hk hy ys (k+1) (fun z hz=>h z (by simp[hz]))
  obtain⟨e1,e2⟩:=qPl hs
  refine⟨?_,?_,?_⟩
  ·rw[qBF]
   unfold qHk
   rw[bnd (qG3 c s).2,show ((2:Int)==2)=true from rfl,cW,oB9,dT (by omega),Bool.not_true,cF]
   exact a1
  ·rw[qBF,qBU]
   unfold qHk qDL
   rw[bnd (qG3 c s).2,bnd (qG3 c s).1,show ((4:Int)==2)=false from rfl,cF,show ((4:Int)==4)=true from rfl,cW,oB9,dT (show fnd s c.ad 0>=0 by omega),dF hs]
   have hn:=(hl.2 y hy).1
   by_cases h1:(y.aj.length:Int)>1
   ·rw[dT h1,show ((y.aj.length:Int)==1)=false from beq_eq_false_iff_ne.2 (by omega)]
    simp only[Bool.not_false,Bool.true_and,qBx,Bool.false_or]
    rw[bnd e1,bnd e1,oB9]
    cases hf:((elN c s).aE==0)
    ·rw[show ((elN c s).aE != 0)=true from by simp only[bne,hf];rfl]
     exact⟨_,rfl,rfl,.inr rfl⟩
    ·rw[show ((elN c s).aE != 0)=false from by simp only[bne,hf];rfl]
     exact⟨o,o1,o2,o3⟩
   ·rw[dF h1,show ((y.aj.length:Int)==1)=true from beq_iff_eq.2 (by omega)]
    exact⟨o,o1,o2,o3⟩
  ·rw[qBF,qBq]
   unfold qHk
   rw[bnd (qG3 c s).2,show ((7:Int)==2)=false from rfl,cF,show ((7:Int)==4)=false from rfl,cF]
   obtain⟨u,v,u1,u2,u3,u4,u5⟩:=qTK s l 0 0 0 (fun it hi=>(hl.2 it hi).1.2) (by omega) (by omega) (by have:=hl.1;omega) (by have:=hl.1;omega)
   have hu:=u5 ⟨y,hy,h s (by simp)⟩
   rw[bnd (show qKI l s=some (u,v) from u1),bnd (show qKD l s=some (u,v) from u2),oB9]
   dsimp only
   by_cases c1:u<=c.aq
   ·rw[dT c1,dF (show ¬u>c.aq by omega),Bool.true_and,Bool.false_or]
    by_cases c2:u=1
    ·rw[c2];exact⟨q,q1,q2,q3⟩
    ·rw[show (u==1)=false from beq_eq_false_iff_ne.2 c2,Bool.false_or,dT (show u>1 by omega),Bool.true_and]
     by_cases c3:v=0
     ·rw[c3];exact⟨_,rfl,rfl,.inr rfl⟩
     ·rw[show (v==0)=false from beq_eq_false_iff_ne.2 c3,dT (show v>0 by omega)]
      exact⟨q,q1,q2,q3⟩
   ·rw[dF c1,dT (show u>c.aq by omega),Bool.false_and,Bool.true_or]
    exact⟨_,rfl,rfl,.inr rfl⟩
theorem qTj {c:Code} (hc:qG7 c) {l:List Item} (hl:qEe l) (hk:qGu c l):∀(ys:List Item) (k:Nat),(∀y∈ys,y∈l)->
  qAp c l 2 ys k=some true/\(∃b,qAp c l 4 ys k=some b/\qBG c ys k=some b)/\(∃b,qAp c l 7 ys k=some b/\qBW c l ys k=some b)
 | [],k,_=>⟨by rw[qAp],⟨_,by rw[qAp],by rw[qBG]⟩,⟨_,by rw[qAp],by rw[qBW]⟩⟩
 |y::ys,k,h=>by
  obtain⟨a,⟨o,o1,o2,o3⟩,⟨q,q1,q2,q3⟩⟩:=qT5 hc hl hk (h y (by simp)) y.aj 0 (fun s hs=>hs)
  obtain⟨b1,⟨d,d1,d2⟩,⟨e,e1,e2⟩⟩:=qTj hc hl hk ys (k+1) (fun z hz=>h z (by simp[hz]))
  refine⟨by rw[qAp,bnd a];simp only[qKL];exact b1,?_,?_⟩
  ·rw[qAp,qBG,bnd o1,bnd o2]
   rcases o3 with rfl|rfl
   ·simp only[qKL];exact⟨d,d1,d2⟩
   ·simp only[qKL];exact⟨false,rfl,rfl⟩
  ·rw[qAp,qBW,bnd q1,bnd q2]
   rcases q3 with rfl|rfl
   ·simp only[qKL];exact⟨e,e1,e2⟩
   ·simp only[qKL];exact⟨false,rfl,rfl⟩
theorem qUI {c:Code} (hc:qG7 c) {l:List Item} (hl:qEe l) (hk:qGu c l) (r:Int) (hr:1<=r/\r<=8):∃b,qKA c l r=some b/\qI0 c l r=some b:=by
 have h3:∀it∈l,it.aj.length<=3:=fun it hi=>(hl.2 it hi).1.2
 obtain⟨n2,⟨d,d1,d2⟩,⟨e,e1,e2⟩⟩:=qTj hc hl hk l 0 (fun y hy=>hy)
 have:r=1\/r=2\/r=3\/r=4\/r=5\/r=6\/r=7\/r=8:=by omega
 rcases this with rfl|rfl|rfl|rfl|rfl|rfl|rfl|rfl
 ·exact⟨_,rfl,rfl⟩
 ·refine⟨true,?_,?_⟩
  ·show (qAp c l 2 l 0).bind _=_
   rw[bnd n2]
  ·show (qED c l).bind _=_
   rw[bnd (qN2 hk).2]
 ·obtain⟨b,b1,q,q1,q2⟩:=qWR l 0
  refine⟨b,?_,?_⟩
  ·show (qCh l 0).bind _=_
   rw[bnd b1]
  ·show ((qAs (fun a0=>qCU a0) l 0).bind fun x1=>some (decide (x1>=0))).bind _=_
   rw[bnd q1,oB9,q2,Bool.not_not]
 ·refine⟨d,?_,?_⟩
  ·show (qAp c l 4 l 0).bind _=_
   rw[bnd d1]
  ·show (qBG c l 0).bind _=_
   rw[bnd d2]
 ·obtain⟨x,y,x1,x2⟩:=qTF l 0 0 0 h3 (by omega) (by omega) (by have:=hl.1;omega) (by have:=hl.1;omega)
  refine⟨decide (x<=3)&&decide (y<=1),?_,?_⟩
  ·show (qA4 l 0 0 0).bind _=_
   rw[bnd x1]
  ·show (qAu l 0 0 0).bind _=_
   rw[bnd x2]
 ·obtain⟨w,w1,w2,w3⟩:=qTo hc l 0 (List.replicate (5:Int).toNat (0:Int)) hl.2 hk rfl
  obtain⟨b,b1,b2⟩:=qQI c w 0 (by have:=hc.2.1;omega)
  have e5:qAl (decide ((0:Int)<=5)&&qAg 8 (5:Int).toNat)=some ():=rfl
  refine⟨b,?_,?_⟩
  ·show (((qAl (decide ((0:Int)<=5)&&qAg 8 (5:Int).toNat)).bind fun _=>qBs c l 0 (List.replicate (5:Int).toNat (0:Int))).bind fun x5=>qCs c x5 0)=_
   rw[e5,oB9,bnd w2,b1]
  ·show ((((qAl (decide ((0:Int)<=5)&&qAg 8 (5:Int).toNat)).bind fun _=>qBA c l 0 (List.replicate (5:Int).toNat (0:Int))).bind fun x5=>qBl c x5 0)).bind _=_
   rw[e5,oB9,bnd w3,bnd b2]
 ·refine⟨e,?_,?_⟩
  ·show (qAp c l 7 l 0).bind _=_
   rw[bnd e1]
  ·show (qBW c l l 0).bind _=_
   rw[bnd e2]
 ·obtain⟨b,b1,b2⟩:=qXr l l 0
  refine⟨b,?_,b2⟩
  show (qDY l l 0).bind _=_
  rw[bnd b1]
theorem qW7 {c:Code} (hc:qG7 c) {l:List Item} (hl:qEe l) (hk:qGu c l):∀(n a8:Nat) (v:bE) (r:Int),r+n=9->1<=r->n<a8->v.length+n<=100->(∀x∈v,0<=x/\x<=8)->∃w,qCz c l a8 v r=some w/\qBp c l a8 v r=some (w,true)/\w.length<=v.length+n/\(∀x∈w,0<=x/\x<=8):=by
 intro n
 induction n with
 |zero =>
  intro a8 v r h _ hf hv hx
  obtain⟨f,rfl⟩:=nZ9 (by omega:a8≠0)
  rw[qCz,qBp,dF (by omega),cF,cF]
  exact⟨v,rfl,rfl,by omega,hx⟩
 |succ n ih =>
  intro a8 v r h h1 hf hv hx
  obtain⟨f,rfl⟩:=nZ9 (by omega:a8≠0)
  obtain⟨b,b1,b2⟩:=qUI hc hl hk r (by omega)
  rw[qCz,qBp,dT (by omega),cW,cW,bnd b1,bnd b2,qAD (by omega)]
  cases b
  ·rw[Bool.not_false,cW,cW,ndf (by omega) (by simp;omega),oB9,oB9]
   obtain⟨w,w1,w2,w3,w4⟩:=ih f (v++[r]) (r+1) (by omega) (by omega) (by omega) (by simp;omega) (fun x hx'=>by
    rcases List.mem_append.1 hx' with h'|h'
    ·exact hx x h'
    ·rw[List.mem_singleton.1 h'];omega)
   exact⟨w,w1,w2,by simp at w3;omega,w4⟩
  ·rw[Bool.not_true,cF,cF]
   obtain⟨w,w1,w2,w3,w4⟩:=ih f v (r+1) (by omega) (by omega) (by omega) (by omega) hx
   exact⟨w,w1,w2,by omega,w4⟩
theorem qTE {F:Nat} (hF:1048576<F) {c:Code} {p:Performance} (h:Val F c p):∃w,qHm F c p.ai=some w/\qE3 F c p.ai=some (w,true)/\w.length<=8/\(∀x∈w,0<=x/\x<=8):=by
 obtain⟨hc,hl,hk,_⟩:=h.perf hF
 obtain⟨w,w1,w2,w3,w4⟩:=qW7 hc hl hk 8 F [] 1 (by omega) (by omega) (by omega) (by simp) (by simp)
 refine⟨w,w1,?_,by simpa using w3,w4⟩
 unfold qE3
 rw[bnd h.ci,Bool.not_true,Bool.not_false,qBx,bnd h.ii]
 exact w2
end
section
theorem qXm:∀(l:bE) (k:Nat) (v:Int),(∀x∈l,-100000000<=x/\x<=100000000)->(-1000000000000<=v-100000000*(l.length:Int)/\v+100000000*(l.length:Int)<=1000000000000)->qBH l k v=some (v+l.sum)/\qCj l k v=some (v+l.sum)
 | [],k,v,_,_=>by rw[qBH,qCj];simp
 |x::l,k,v,h,hv=>by
  have hx:=h x (by simp)
  simp only[List.length_cons]at hv
  obtain⟨i1,i2⟩:=qXm l (k+1) (v+x) (fun y hy=>h y (by simp[hy])) (by omega)
  rw[qBH,qCj,qAD (by omega),i1,i2,List.sum_cons,Int.add_assoc]
  exact⟨rfl,rfl⟩
theorem qad {l:bE} (h:∀x∈l,-100000000<=x/\x<=100000000) (hl:l.length<=1000):qBM l=some l.sum/\qDA l=some l.sum:=by
 obtain⟨i1,i2⟩:=qXm l 0 0 h (by omega)
 unfold qBM qDA
 rw[i1,i2,Int.zero_add]
 exact⟨rfl,rfl⟩
theorem qVL {c:Code} (hc:qG7 c) {l:List Item} (hl:qEe l) (hk:qGu c l) {m:Marks} (hm:MS m) (hlen:m.ah.length=l.length) (a8:Nat) (hf:1048576<a8) :
  qIS a8 c l m=some (scl c l 0 l m.ah)/\qJh a8 c l m=some (scl c l 0 l m.ah)/\qBM (scl c l 0 l m.ah)=some (qQG c l m)/\qDA (scl c l 0 l m.ah)=some (qQG c l m)/\(-1000000000<=qQG c l m/\qQG c l m<=1000000000):=by
 have h14:=hl.1
 obtain⟨s1,s2⟩:=qTs hc hl hk m a8 hf l m.ah [] [] [] rfl rfl rfl hlen.symm hm.1 (by simp;omega)
 obtain⟨o1,o2⟩:=qYA hc hl hk l m.ah [] rfl hlen.symm hm.1
 rw[List.length_nil]at s1 s2 o1 o2
 rw[List.nil_append]at s1 s2
 obtain⟨q1,q2⟩:=qad (l:=scl c l 0 l m.ah) (fun x hx=>by have:=o2 x hx;omega) (by omega)
 have:=qS8 (l:=scl c l 0 l m.ah) (B:=60000000) o2
 exact⟨s1,s2,q1,q2,by unfold qQG;omega⟩
theorem qWb {m:Marks} (hm:MS m) {falls:Int} (h0:0<=falls) (a8:Nat) (hf:1048576<a8):qHP a8 m falls=some (cpV m falls)/\qJ2 a8 m falls=some (cpV m falls):=by
 have hi:qDE a8 m=some (m.ac.map qKy):=by
  have:=qVW a8 hf m.ac 0 [] hm.2.2 (by rw[hm.2.1];simp)
  exact this
 have hs:∀most,qGY a8 m most=some (m.ac.map fun g=>min (qKy g) most):=fun most=>by
  have:=qT6 m most a8 hf m.ac [] [] rfl hm.2.2 (by rw[hm.2.1];simp)
  exact this
 have hb:∀x∈m.ac.map qKy,-30000<=x/\x<=30000:=fun x hx=>by
  obtain⟨g,hg,rfl⟩:=List.mem_map.1 hx
  exact qSs (hm.2.2 g hg)
 have hl:(m.ac.map qKy).length=3:=by rw[List.length_map,hm.2.1]
 have hmm:∀A:Int,((m.ac.map qKy).map fun y=>min y A).sum=(m.ac.map fun g=>min (qKy g) A).sum:=fun A=>by rw[List.map_map];rfl
 have hp:∀A:Int,900<=A/\A<=1000->qDA (m.ac.map fun g=>min (qKy g) A)=some (m.ac.map fun g=>min (qKy g) A).sum:=fun A hA=>by
  refine(qad (fun x hx=>?_) (by rw[List.length_map,hm.2.1];omega)).2
  obtain⟨g,hg,rfl⟩:=List.mem_map.1 hx
  have:=qSs (hm.2.2 g hg)
  omega
 unfold qHP qJ2 cpV qZP
 by_cases e0:falls=0
 ·subst e0
  rw[if_pos rfl,show ((0:Int)==1)=false from rfl,show decide ((0:Int)>1)=false from rfl,cF,cF,show ((0:Int)==0)=true from rfl,cW,bnd hi,bnd (hs 1000),bnd (hp 1000 (by omega))]
  refine⟨?_,rfl⟩
  rw[qT2 1000 (by omega) qCY (fun k v=>by rw[qCY]) (fun y ys k v=>by rw[qCY]) _ 0 0 hb (by rw[hl];omega),hmm,Int.zero_add]
 ·rw[if_neg e0,show (falls==0)=false from by simp[e0],cF]
  by_cases e1:falls=1
  ·subst e1
   rw[if_pos rfl,show ((1:Int)==1)=true from rfl,cW,cW,bnd hi,bnd (hs 950),bnd (hp 950 (by omega))]
   refine⟨?_,rfl⟩
   rw[qT2 950 (by omega) qCa (fun k v=>by rw[qCa]) (fun y ys k v=>by rw[qCa]) _ 0 0 hb (by rw[hl];omega),hmm,Int.zero_add]
  ·rw[if_neg e1,show (falls==1)=false from by simp[e1],cF,cF,dT (by omega:falls>1),cW,bnd hi,bnd (hs 900),bnd (hp 900 (by omega))]
   refine⟨?_,rfl⟩
   rw[qT2 900 (by omega) qCd (fun k v=>by rw[qCd]) (fun y ys k v=>by rw[qCd]) _ 0 0 hb (by rw[hl];omega),hmm,Int.zero_add]
theorem qS1 {m:Marks} (hm:MS m) {f:Int} (h:0<=f/\f<=400) {falls:Int} (h0:0<=falls) (a8:Nat) (hf:1048576<a8):qGS a8 m f falls=some (qQK m f falls)/\qGt a8 m f falls=some (qQK m f falls):=by
 obtain⟨c1,c2⟩:=qWb hm h0 a8 hf
 have hb:=qSl hm h falls
 obtain⟨r1,r2⟩:=qMK (a:=cpV m falls*f) (b:=100) (by omega) (by omega) (by omega)
 unfold qGS qGt
 rw[bnd c1,bnd c2,qAD (by omega),bnd r1,bnd r2]
 exact⟨rfl,rfl⟩
theorem qT3 {c:Code} (hc:qG7 c) {s:Slips} (hs:qPY s) (a8:Nat) (hf:1048576<a8):(∃a b d,qGn c s=some [a,b,d]/\qBM [a,b,d]=some (qQh c s))/\qJt a8 c s=some (qQh c s)/\(0<=qQh c s/\qQh c s<=100000):=by
 obtain⟨h1,h2,h3⟩:=hs
 have hfall:=hc.2.2.2.2.2.1
 have hG:0<=fG s.falls/\fG s.falls<=30:=by unfold fG;omega
 have hm:=qMv (a:=c.ay) (b:=fG s.falls) (A:=500) (B:=30) hfall hG
 have e:(s.an+4).tdiv 5=(s.an+4)/5:=Int.tdiv_eq_ediv_of_nonneg (by omega)
 have hl:=qYN hfall h1.2 (s.falls-0).toNat a8 0 rfl (by omega) (by omega) h1.1
 rw[show fG 0=0 from rfl,Int.mul_zero]at hl
 refine⟨⟨c.ay*fG s.falls,(s.an+4)/5*100,s.aw,?_,?_⟩,?_,?_⟩
 ·unfold qGn qGx qGw
  rw[qAD (n:=s.falls-2) (by omega),qAD (n:=s.falls-4) (by omega),qAD (n:=s.falls+max (s.falls-2) 0) (by omega),qAD (n:=s.falls+max (s.falls-2) 0+max (s.falls-4) 0) (by omega)]
  rw[show c.ay*(s.falls+max (s.falls-2) 0+max (s.falls-4) 0)=c.ay*fG s.falls from rfl,qAD (n:=c.ay*fG s.falls) (by omega),oB9,show qAl (5 != 0)=some () from rfl,oB9,qAD (n:=s.an+4) (by omega),e,qAD (n:=(s.an+4)/5) (by omega),qAD (n:=(s.an+4)/5*100) (by omega),oB9]
 ·have:=(qad (l:=[c.ay*fG s.falls,(s.an+4)/5*100,s.aw]) (by
   intro x hx
   simp only[List.mem_cons,List.not_mem_nil,or_false]at hx
   rcases hx with rfl|rfl|rfl<;>omega) (by simp)).1
  rw[this]
  simp only[List.sum_cons,List.sum_nil,Int.add_zero]
  unfold qQh
  rw[Int.add_assoc]
 ·unfold qJt qJ8 qKr
  rw[bnd hl,show qAl (5 != 0)=some () from rfl,oB9,qAD (n:=s.an+4) (by omega),e,qAD (n:=(s.an+4)/5) (by omega),qAD (n:=(s.an+4)/5*100) (by omega),oB9,qAD (n:=c.ay*fG s.falls+(s.an+4)/5*100) (by omega),qAD (by omega)]
  rfl
 ·unfold qQh;omega
theorem qPO {c:Code} {p:Performance} (h:qRo c p) {f:Int} (hf0:0<=f/\f<=400) (a8:Nat) (hf:1048576<a8) :
  qGE a8 c p f=some [qQG c p.ai p.ae,qQK p.ae f p.af.falls,qQh c p.af,qEP c p f]/\qGH a8 c p f=some [qQG c p.ai p.ae,qQK p.ae f p.af.falls,qQh c p.af,qEP c p f]/\(0<=qEP c p f/\qEP c p f<=2000000000):=by
 obtain⟨hc,hl,hk,hm,hn,hs⟩:=h
 obtain⟨t1,t2,t3,t4,tb⟩:=qVL hc hl hk hm hn a8 hf
 obtain⟨k1,k2⟩:=qS1 hm hf0 hs.1.1 a8 hf
 have kb:=(qSl hm hf0 p.af.falls).2
 obtain⟨⟨a,b,d,d1,d2⟩,d3,db⟩:=qT3 hc hs a8 hf
 refine⟨?_,?_,by unfold qEP;omega⟩
 ·unfold qGE qGe
  rw[bnd t1,t3,oB9,oB9,bnd k1,bnd d1,bnd d2,qAD (n:=qQG c p.ai p.ae+qQK p.ae f p.af.falls) (by omega),qAD (by omega)]
  rfl
 ·unfold qGH qHh
  rw[bnd t2,t4,oB9,oB9,bnd k2,bnd d3,qAD (n:=qQG c p.ai p.ae+qQK p.ae f p.af.falls) (by omega),qAD (by omega),bnd (qWt _ _),Int.max_comm]
  rfl
theorem qNW {c:Code} {p:Performance} (h:qRo c p) {f:Int} (hf0:0<=f/\f<=400) (a8:Nat) (hf:1048576<a8):qBV a8 c p f=some (qEP c p f)/\qDU a8 c p f=some (qEP c p f):=by
 obtain⟨p1,p2,_⟩:=qPO h hf0 a8 hf
 unfold qBV qDU
 rw[bnd p1,bnd p2]
 exact⟨rfl,rfl⟩
end
section
theorem qWK:∀(ts:List bD) (B:Nat),(∀t∈ts,t.size<=B)->qXo ts<=B*ts.length
 | [],B,_=>Nat.zero_le _
 |t::ts,B,h=>by
  have h1:=h t (by simp)
  have h2:=qWK ts B (fun x hx=>h x (by simp[hx]))
  rw[qLk,List.length_cons,Nat.mul_add,Nat.mul_one];omega
def qWq (n:Int):Prop:=-9999999999<=n/\n<=9999999999
theorem qUv (F:Nat) (hF:100<F):∀(ys:bE) (k k':Nat) (acc:bD) (v:List bD),(∀n∈ys,qWq n)->1<=k->acc.size≠0->acc.size+12*ys.length<=100000->v.length+ys.length<=1000->
  ∃ts r,ts.length=ys.length/\(∀t∈ts,t.size<=11)/\qCM F ys k acc=some r/\toL r=toL acc++qUe [32] ts/\qBY ys k' v=(qGG (v++ts) (bz [32])).bind some/\r.size<=acc.size+12*ys.length
 | [],k,k',acc,v,_,_,ha,_,_=>by
  refine⟨[],acc,rfl,by simp,?_,by simp[qUe],by rw[qBY,List.append_nil],by simp⟩
  rw[qCM,dF (fun h=>ha (by rw[h];rfl)),cF]
 |y::ys,k,k',acc,v,h,hk,ha,hs,hv=>by
  simp only[List.length_cons]at hs hv
  obtain⟨t,t1,t2,t3,t4⟩:=qZO F hF y (h y (by simp))
  have e32:(bz [32]).size=1:=rfl
  obtain⟨ts,r,r1,r2,r3,r4,r5,r6⟩:=qUv F hF ys (k+1) (k'+1) ((acc++(bz [32]))++t) (v++[t]) (fun n hn=>h n (by simp[hn])) (by omega) (by simp only[ByteArray.size_append];omega) (by simp only[ByteArray.size_append];omega) (by simp;omega)
  simp only[ByteArray.size_append]at r6
  refine⟨t::ts,r,by simp[r1],fun z hz=>?_,?_,?_,?_,by simp only[List.length_cons];omega⟩
  ·rcases List.mem_cons.1 hz with rfl|hz
   ·exact t4
   ·exact r2 z hz
  ·rw[qCM,dT (by omega),cW,nd (by omega),oB9,bnd t1,nd (by simp only[ByteArray.size_append];omega),oB9]
   exact r3
  ·rw[r4,qHW,qHW,qP2,List.append_assoc,List.append_assoc];rfl
  ·rw[qBY,bnd t2,ndf (by omega) (by simp;omega),oB9,r5,List.append_assoc];rfl
theorem qNS (F:Nat) (hF:100<F) (l:bE) (h:∀n∈l,qWq n) (hl:l.length<=60):∃r,qBN F l=some r/\qCo l=some r/\(l≠[]->qA5 l=some r)/\r.size<=12*l.length+4:=by
 cases l with
 |nil=>exact⟨_,rfl,rfl,fun h=>absurd rfl h,by show (4:Nat)<=_;omega⟩
 |cons y ys =>
  simp only[List.length_cons]at hl
  obtain⟨t,t1,t2,t3,t4⟩:=qZO F hF y (h y (by simp))
  have hne:t.size≠0:=by
   rw[<-qBP,t3]
   split
   ·simp
   ·exact fun e=>qaB _ (List.length_eq_zero_iff.1 e)
  obtain⟨ts,r,r1,r2,r3,r4,r5,r6⟩:=qUv F hF ys 1 1 ((⟨#[]⟩:bD)++t) ([]++[t]) (fun n hn=>h n (by simp[hn])) (by omega) (by rw[ByteArray.size_append];show 0+_≠0;omega) (by rw[ByteArray.size_append];show 0+_+_<=_;omega) (by simp;omega)
  have e0:(⟨#[]⟩:bD).size=0:=rfl
  have e32:(bz [32]).size=1:=rfl
  rw[ByteArray.size_append,e0]at r6
  have hs:qBN F (y::ys)=some r:=by
   unfold qBN
   rw[qCM,dF (by omega),cF,bnd t1,nd (by rw[e0];omega),oB9]
   exact r3
  have ht:=qWK ts 11 r2
  obtain⟨q,q1,q2⟩:=qYh t ts (bz [32]) (by rw[e32];omega) (by rw[e32];omega) (by omega)
  have hi:qA5 (y::ys)=some r:=by
   unfold qA5
   rw[qBY,bnd t2,ndf (by omega) (by simp),oB9,r5]
   show (qGG (t::ts) (bz [32])).bind some=_
   rw[q1,oB9]
   refine congrArg some (qGd ?_)
   rw[q2,r4,qHW];rfl
  refine⟨r,hs,?_,fun _=>hi,by simp only[List.length_cons];omega⟩
  unfold qCo
  rw[show (((y::ys).length:Int)==0)=false from beq_eq_false_iff_ne.2 (by simp only[List.length_cons];omega),cF,bnd hi]
end
section
theorem qUo {c:Code} (hc:qG7 c) {l:List Item} (hl:qEe l) (hk:qGu c l):∀(ys:List Item) (k:Nat) (v:bE),k+ys.length=l.length->v.length+ys.length<=1000->∃L,L.length=ys.length/\(∀x∈L,0<=x/\x<=7200)/\qB3 c l ys k v=some (v++L)/\qE0 c l ys k v=some (v++L)
 | [],k,v,_,_=>⟨[],rfl,by simp,by rw[qB3,List.append_nil],by rw[qE0,List.append_nil]⟩
 |y::ys,k,v,h,hv=>by
  simp only[List.length_cons]at h hv
  obtain⟨b1,b2,b3⟩:=qOD hc hl hk (k:=k) (by omega)
  obtain⟨L,l1,l2,l3,l4⟩:=qUo hc hl hk ys (k+1) (v++[qIf c l k]) (by omega) (by simp;omega)
  refine⟨qIf c l k::L,by simp[l1],fun x hx=>?_,?_,?_⟩
  ·rcases List.mem_cons.1 hx with rfl|hx
   ·exact b3
   ·exact l2 x hx
  ·rw[qB3,bnd b1,ndf (by omega) (by simp;omega),oB9,l3,List.append_assoc];rfl
  ·rw[qE0,bnd b2,ndf (by omega) (by simp;omega),oB9,l4,List.append_assoc];rfl
theorem qW2 {c:Code} (hc:qG7 c) {l:List Item} (hl:qEe l) (hk:qGu c l):∃L s,qGk c l=some L/\qBM L=some s/\qHj c l=some s/\0<=s/\s<=9999999:=by
 have h14:=hl.1
 obtain⟨L,l1,l2,l3,l4⟩:=qUo hc hl hk l 0 [] (by simp) (by simp;omega)
 obtain⟨s1,s2⟩:=qad (l:=L) (fun x hx=>by have:=l2 x hx;omega) (by omega)
 have hb:=qWX l2
 rw[l1]at hb
 refine⟨L,L.sum,l3,s1,?_,hb.1,by omega⟩
 unfold qHj qLe
 rw[bnd l4,List.nil_append,bnd s2]
theorem qYd {a b:Int} (ha:0<=a/\a<=10000000) (hb:1<=b/\b<=1000):qIU a b=some (cl a b):=by
 unfold qIU
 have e:(a+b-1).tdiv b=cl a b:=by
  rw[Int.tdiv_eq_ediv_of_nonneg (by omega)]
  unfold cl
  have h1:(a+b-1)=(-1)+(a+b):=by omega
  have hb0:0<b:=by omega
  have key:=Int.mul_ediv_add_emod (-a) b
  have m0:=Int.emod_nonneg (-a) (show b≠0 by omega)
  have m1:=Int.emod_lt_of_pos (-a) hb0
  have e2:a+b-1=(b-1-(-a)%b)+b*(-((-a)/b)):=by rw[Int.mul_neg];omega
  rw[e2,Int.add_mul_ediv_left _ _ (show b≠0 by omega),Int.ediv_eq_zero_of_lt (by omega) (by omega),Int.zero_add]
 rw[show qAl (b != 0)=some () from by rw[bne_iff_ne.2 (by omega)];rfl,oB9,qAD (n:=a+b) (by omega),qAD (n:=a+b-1) (by omega),e]
 have:=(qUE (a:=a) (b:=b) (by omega) (by omega) (by omega)).2
 rw[qAD (by omega)]
theorem qZZ {r:bE} (hr:3<=r.length/\r.length<=9):3<=nS r/\nS r<=9:=by unfold nS;split<;>omega
theorem qSU {p:Performance} {r:bE} (h:qAV p.ae.ac 0=some r) (hr:3<=r.length/\r.length<=9):qHD p=some (nS r):=by
 unfold qHD qEY nS
 rw[bnd h,oB9]
 by_cases h5:r.length<5
 ·rw[dF (by omega),cF,if_pos h5]
 ·rw[dT (by omega),cW,if_neg h5,qAD (by omega)]
theorem qah {c:Code} {p:Performance} (h:qRo c p) {r:bE} (hr:qAV p.ae.ac 0=some r) (hrl:3<=r.length/\r.length<=9) (a8:Nat) (hf:1048576<a8) {k:Nat} {y:Item} (hy:qAV p.ai (k:Int)=some y) :
  qKm c p (k:Int)=some (if qIf c p.ai k=0 then 0 else cl (qIJ c y) (nS r)):=by
 obtain⟨hc,hl,hk,hm,hn,hs⟩:=h
 have hy2:p.ai[k]?=some y:=by rw[qEm rfl]at hy;exact hy
 have hmem:y∈p.ai:=List.mem_of_getElem? hy2
 have hlt:=(List.getElem?_eq_some_iff.1 hy2).1
 obtain⟨_,b1,_⟩:=qOD hc hl hk hlt
 obtain⟨_,u1,u3⟩:=qNk hc (hl.2 y hmem) (hk y hmem) a8 hf
 have hN:=qZZ hrl
 have c1:=qYd (a:=qIJ c y) (b:=nS r) (by omega) (by omega)
 unfold qKm
 rw[bnd b1]
 by_cases h0:qIf c p.ai k=0
 ·rw[if_pos h0,h0];rfl
 ·rw[if_neg h0,show (qIf c p.ai k==0)=false from by simp[h0],cF,bnd hy,bnd u1,bnd (qSU hr hrl),bnd c1]
theorem qTJ {c:Code} {p:Performance} (h:qRo c p) {r:bE} (hr:qAV p.ae.ac 0=some r) (hrl:3<=r.length/\r.length<=9) (a8:Nat) (hf:1048576<a8):∀(ys pre:List Item) (v:Int),p.ai=pre++ys->0<=v->v+2000*(ys.length:Int)<=100000000->
  qBi c p ys pre.length v=some (v+ibs c p.ai (nS r) pre.length ys,true)
 | [],pre,v,_,hv,hb=>by rw[qBi];simp[ibs]
 |y::ys,pre,v,h1,hv,hb=>by
  have hg:=qDC (pre:=pre) (y:=y) (ys:=ys) h1 rfl
  obtain⟨_,i2,i3⟩:=qZ7 h hr hrl a8 hf (k:=pre.length) (y:=y) hg
  have i1:=qah h hr hrl a8 hf (k:=pre.length) (y:=y) hg
  simp only[List.length_cons]at hb
  have j1:=qTJ h hr hrl a8 hf ys (pre++[y]) (v+(if qIf c p.ai pre.length=0 then 0 else cl (qIJ c y) (nS r))) (by rw[h1];simp) (by omega) (by omega)
  rw[show (pre++[y]).length=pre.length+1 from by simp]at j1
  rw[qBi,bnd i1,qAD (by omega),j1,ibs,Int.add_assoc v]
theorem qXg {F:Nat} {S:ScriptState} (h:SGood F S):qHF F S.ag S.aa S.am=some true/\qFX F S.ag S.aa S.am=some true:=by
 obtain⟨g1,g2⟩:=h.aD.aJ
 obtain⟨f,f1,f2,f3⟩:=qFN S.am 10 400
 obtain rfl:=f3.2 h.fac
 unfold qHF qFX qFS qFg
 rw[bnd g1,bnd g2,qBx,qBx,f1,f2]
 exact⟨rfl,rfl⟩
theorem qUc {F:Nat} (hF:1048576<F) {S:ScriptState} (h:SGood F S):∃B,qEd F S.ag S.aa S.am=some (B,true)/\qEi F S.ag S.aa S.am=some (B,true)/\0<=B/\B<=100000000:=by
 have hP:=h.aD.perf hF
 have hM:=qMM hP
 have h14:=hP.2.1.1
 have hfac:=h.fac
 obtain⟨r,hr,hrl,_⟩:=qOd h.aD.mg
 obtain⟨a1,a2⟩:=qXg h
 obtain⟨b1,b2,b3⟩:=qWj hM hr hrl (f:=S.am) (by omega) F hF S.aa.ai [] 0 rfl (by omega) (by omega)
 have hN:=qZZ hrl
 have c1:=qYd (a:=1000) (b:=nS r) (by omega) (by omega)
 have c2:=(qUE (a:=1000) (b:=nS r) (by omega) (by omega) (by omega)).2
 have hm:=qMv (a:=S.am*3) (b:=cl 1000 (nS r)) (A:=1200) (B:=1000) (by omega) (by omega)
 have d1:=qYd (a:=S.am*3*cl 1000 (nS r)) (b:=100) (by omega) (by omega)
 have d2:=(qUE (a:=S.am*3*cl 1000 (nS r)) (b:=100) (by omega) (by omega) (by omega)).2
 rw[Int.zero_add]at b1
 simp only[List.length_nil]at b1 b2 b3
 refine⟨ibs S.ag S.aa.ai (nS r) 0 S.aa.ai+cl (S.am*3*cl 1000 (nS r)) 100,?_,?_,by omega,by omega⟩
 ·unfold qEd
  rw[bnd a1,Bool.not_true,cF,bnd (qSU hr hrl),bnd c1,qAD (n:=S.am*3) (by omega),qAD (n:=S.am*3*cl 1000 (nS r)) (by omega),bnd d1]
  have:=qTJ hM hr hrl F hF S.aa.ai [] (cl (S.am*3*cl 1000 (nS r)) 100) rfl (by omega) (by omega)
  simp only[List.length_nil]at this
  rw[this,Int.add_comm]
 ·unfold qEi
  rw[bnd a2,Bool.not_true,cF]
  exact b1
theorem qVP {F:Nat} (hF:1048576<F) {S:ScriptState} (h:SGood F S):Alike F S (qAK F S (bz [99,104,101,99,107]) []) (fun x=>qAY F x (bz [99,104,101,99,107])):=by
 obtain⟨w,w1,w2,w3,w4⟩:=qTE hF h.aD
 obtain⟨r,r1,r2,_,r4⟩:=qNS F (by omega) w (fun n hn=>by have:=w4 n hn;unfold qWq;omega) (by omega)
 refine Alike.stay h r (by omega) ?_ (fun no wh ln=>?_)
 ·show ((qE3 F S.ag S.aa.ai).bind fun x2=>(qCo x2.1).bind fun x4=>some (S,x4))=_
  rw[bnd w2,bnd r2]
 ·show ((qHm F S.ag S.aa.ai).bind fun x5=>(qBN F x5).bind fun x7=>some (cs S no wh ln,x7))=_
  rw[bnd w1,bnd r1]
theorem qXX {F:Nat} (hF:1048576<F) {S:ScriptState} (h:SGood F S):Alike F S (qAK F S (bz [98,97,115,101]) []) (fun x=>qAY F x (bz [98,97,115,101])):=by
 obtain⟨hc,hl,hk,_⟩:=h.aD.perf hF
 obtain⟨L,s,s1,s2,s3,s4⟩:=qW2 hc hl hk
 obtain⟨t,t1,t2,_,t4⟩:=qZO F (by omega) s (by omega)
 refine Alike.stay h t (by omega) ?_ (fun no wh ln=>?_)
 ·show ((qGk S.ag S.aa.ai).bind fun x7=>(qBM x7).bind fun x9=>(qBe x9).bind fun x11=>some (S,x11))=_
  rw[bnd s1,bnd s2,bnd t2]
 ·show ((qHj S.ag S.aa.ai).bind fun x10=>(qDo F x10).bind fun x12=>some (cs S no wh ln,x12))=_
  rw[bnd s3,bnd t1]
theorem qUq {F:Nat} (hF:1048576<F) {S:ScriptState} (h:SGood F S):Alike F S (qAK F S (bz [115,99,111,114,101]) []) (fun x=>qAY F x (bz [115,99,111,114,101])):=by
 have hP:=h.aD.perf hF
 have hM:=qMM hP
 have hfac:=h.fac
 obtain⟨p1,p2,p3⟩:=qPO hM (f:=S.am) (by omega) F hF
 have tb:=(qVL hM.1 hM.2.1 hM.2.2.1 hM.2.2.2.1 hM.2.2.2.2.1 F hF).2.2.2.2
 have kb:=(qSl hM.2.2.2.1 (f:=S.am) (by omega) S.aa.af.falls).2
 have db:=(qT3 hM.1 hM.2.2.2.2.2 F hF).2.2
 obtain⟨r,r1,_,r3,r4⟩:=qNS F (by omega) [qQG S.ag S.aa.ai S.aa.ae,qQK S.aa.ae S.am S.aa.af.falls,qQh S.ag S.aa.af,qEP S.ag S.aa S.am] (fun n hn=>by
  unfold qWq
  simp only[List.mem_cons,List.not_mem_nil,or_false]at hn
  rcases hn with rfl|rfl|rfl|rfl<;>omega) (by simp)
 refine Alike.stay h r (by simp at r4;omega) ?_ (fun no wh ln=>?_)
 ·show ((qGE F S.ag S.aa S.am).bind fun x14=>(qA5 x14).bind fun x16=>some (S,x16))=_
  rw[bnd p1,bnd (r3 (by simp))]
 ·show ((qGH F S.ag S.aa S.am).bind fun x15=>(qBN F x15).bind fun x17=>some (cs S no wh ln,x17))=_
  rw[bnd p2,bnd r1]
theorem qVA {F:Nat} (hF:1048576<F) {S:ScriptState} (h:SGood F S):Alike F S (qAK F S (bz [98,111,117,110,100]) []) (fun x=>qAY F x (bz [98,111,117,110,100])):=by
 obtain⟨B,b1,b2,b3,b4⟩:=qUc hF h
 obtain⟨t,t1,t2,_,t4⟩:=qZO F (by omega) B (by omega)
 refine Alike.stay h t (by omega) ?_ (fun no wh ln=>?_)
 ·show ((qEi F S.ag S.aa S.am).bind fun x19=>(qBe x19.1).bind fun x21=>some (S,x21))=_
  rw[bnd b2,bnd t2]
 ·show ((qEd F S.ag S.aa S.am).bind fun x20=>(qDo F x20.1).bind fun x22=>some (cs S no wh ln,x22))=_
  rw[bnd b1,bnd t1]
end
section
def ItG (F:Nat) (it:Item):Prop:=qGQ it/\(∀s∈it.aj,qGp F s=some true)/\∀m∈it.ae,0<=m/\m<=3
theorem qaT (F:Nat) (it:Item):∀(ys:List bD) (k:Nat),qCC it F ys k=some true↔(qGQ it/\(∀s∈ys,qGp F s=some true)/\∀m∈it.ae,0<=m/\m<=3)
 | [],k=>by
  rw[qCC]
  obtain⟨b,e1,e2⟩:=qD0 (it.aj.length:Int) 1 3
  obtain⟨c,c1,c2⟩:=qQv 0 3 it.ae 0
  rw[bnd e1,show qC3 it.ae 0 3=some c from c1]
  unfold qGQ
  by_cases hl:it.ae.length=it.aj.length
  ·rw[show ((it.ae.length:Int)==(it.aj.length:Int))=true from by rw[hl];simp]
   rw[<-c2]
   cases b
   ·have:¬(1<=it.aj.length/\it.aj.length<=3):=fun h=>by have:=e2.2 (by omega);cases this
    simp[qDW,this]
   ·have:(1<=it.aj.length/\it.aj.length<=3):=by have:=e2.1 rfl;omega
    cases c<;>simp[qBx,hl,this]
  ·rw[show ((it.ae.length:Int)==(it.aj.length:Int))=false from by simp only[beq_eq_false_iff_ne,ne_eq];omega]
   simp[qDW,hl]
 |y::ys,k=>by
  have ih:=qaT F it ys (k+1)
  rw[qCC]
  cases hy:qGp F y with
  |none=>simp[hy]
  |some b =>
   cases b
   ·simp[hy]
   ·rw[oB9,Bool.not_true,cF,ih]
    simp[hy]
theorem qSz (F:Nat) (it:Item):qEA F it=some true↔ItG F it:=qaT F it it.aj 0
theorem qaJ (F:Nat) (l:List Item):∀(ys:List Item) (k:Nat),qCI l F ys k=some true↔(l.length<=14/\∀it∈ys,ItG F it)
 | [],k=>by rw[qCI];simp;omega
 |y::ys,k=>by
  have ih:=qaJ F l ys (k+1)
  rw[qCI]
  cases hy:qEA F y with
  |none =>
   have:¬ItG F y:=fun h=>by rw[(qSz F y).2 h]at hy;cases hy
   simp[this]
  |some b =>
   cases b
   ·have:¬ItG F y:=fun h=>by rw[(qSz F y).2 h]at hy;cases hy
    simp[this]
   ·have:=(qSz F y).1 hy
    rw[oB9,Bool.not_true,cF,ih]
    simp[this]
theorem qSr (F:Nat) (l:List Item):qFw F l=some true↔(l.length<=14/\∀it∈l,ItG F it):=qaJ F l l 0
theorem Val.ai {F:Nat} (hF:1048576<F) {c:Code} {p:Performance} (h:Val F c p) {l:List Item} (hl:l.length=p.ai.length) (hi:∀it∈l,∃it0∈p.ai,it.aj=it0.aj/\it.ae.length=it0.ae.length/\∀m∈it.ae,0<=m/\m<=3):Val F c (Performance.mk l p.ae p.af):=by
 obtain⟨g1,g2⟩:=(qSr F p.ai).1 h.is
 have hb:qXF l:=fun it hit s hs=>by
  obtain⟨it0,h0,e,_⟩:=hi it hit
  exact h.nb it0 h0 s (e▸hs)
 have hs:qFw F l=some true:=(qSr F l).2 ⟨by omega,fun it hit=>by
  obtain⟨it0,h0,e1,e2,e3⟩:=hi it hit
  obtain⟨o1,o2,o3⟩:=g2 it0 h0
  unfold qGQ at o1
  exact⟨⟨by rw[e1];exact o1.1,by rw[e1,e2];exact o1.2⟩,by rw[e1];exact o2,e3⟩⟩
 obtain⟨b,b1,b2,_⟩:=qN0 l hb F hF
 rw[hs]at b2
 obtain⟨k1,k2⟩:=qN2 (c:=c) (l:=l) (fun it hit s hsn=>by
  obtain⟨it0,h0,e,_⟩:=hi it hit
  exact(h.perf hF).2.2.1 it0 h0 s (e▸hsn))
 exact⟨h.nc,hb,h.cs,h.ci,hs,by rw[b1,<-b2],k1,k2,h.mg,by rw[hl];exact h.ln,h.sg⟩
theorem Val.marks3 {F:Nat} {c:Code} {p:Performance} (h:Val F c p) {it:Item} (hi:it∈p.ai):∀m∈it.ae,0<=m/\m<=3:=(((qSr F p.ai).1 h.is).2 it hi).2.2
theorem Val.aB {F:Nat} (hF:1048576<F) {c:Code} {p:Performance} (h:Val F c p):Val F c (Performance.mk (qTA p.ai) p.ae p.af):=by
 refine h.ai hF (by simp[qTA]) (fun it hi=>?_)
 unfold qTA at hi
 rw[List.mem_mapIdx]at hi
 obtain⟨i,hlt,e⟩:=hi
 refine⟨p.ai[i],List.getElem_mem hlt,by rw[<-e],by rw[<-e],?_⟩
 rw[<-e]
 exact h.marks3 (it:=p.ai[i]) (List.getElem_mem hlt)
def callL (l:List Item) (i k:Nat) (it:Item) (m:Int):List Item:=l.set i (Item.mk it.aj (it.ae.set k m) it.aB)
theorem Val.call {F:Nat} (hF:1048576<F) {c:Code} {p:Performance} (h:Val F c p) {i k:Nat} {it:Item} (hi:p.ai[i]?=some it) {m:Int} (hm:0<=m/\m<=3):Val F c (Performance.mk (callL p.ai i k it m) p.ae p.af):=by
 have hmem:=List.mem_of_getElem? hi
 refine h.ai hF (by simp[callL]) (fun z hz=>?_)
 rcases List.mem_or_eq_of_mem_set hz with hz|rfl
 ·exact⟨z,hz,rfl,rfl,h.marks3 hz⟩
 ·refine⟨it,hmem,rfl,by simp,fun q hq=>?_⟩
  rcases List.mem_or_eq_of_mem_set hq with hq|rfl
  ·exact h.marks3 hmem q hq
  ·exact hm
theorem qP0 {l:List Item} (hl:qEe l) {i k:Nat} {it:Item} {x m:Int} (hi:qAV l (i:Int)=some it) (hk:qAV it.ae (k:Int)=some x):qEl l (i:Int) (k:Int) m=some (callL l i k it m):=by
 unfold qEl callL
 rw[bnd (qKo hl).2,bnd hi,bnd hk,Int.toNat_natCast,Int.toNat_natCast]
theorem qW6 {F:Nat} (hF:1048576<F) {S:ScriptState} (h:SGood F S):Alike F S (qAH F S (bz [108,97,116,101]) []) (fun x=>qAY F x (bz [108,97,116,101])):=by
 obtain⟨a,b⟩:=qWk (h.aD.perf hF).2.1 F hF
 refine⟨ScriptState.mk S.ag (Performance.mk (qTA S.aa.ai) S.aa.ae S.aa.af) S.am S.ak,(bz [111,107]),?_,fun no wh ln=>?_,⟨h.aD.aB hF,h.fac,h.aK⟩,by show (2:Nat)<=_;omega⟩
 ·show ((qGc F S.aa.ai).bind fun x26=>some ((ScriptState.mk S.ag (Performance.mk x26 S.aa.ae S.aa.af) S.am S.ak),(bz [111,107])))=_
  rw[bnd b]
 ·show ((qHo F S.aa.ai).bind fun x2=>some ((CsState.mk S.ag (Performance.mk x2 S.aa.ae S.aa.af) S.am S.ak no wh ln),(bz [111,107])))=_
  rw[bnd a];rfl
theorem qWr {F:Nat} (hF:1048576<F) {S:ScriptState} (h:SGood F S) (a b m:Int) (hm:0<=m/\m<=3):Alike F S (qAH F S (bz [99,97,108,108]) [a,b,m]) (fun x=>qDK F x [a,b] m):=by
 have hP:=h.aD.perf hF
 obtain⟨e,e1,e2,e3⟩:=qWv hP.2.1 a b
 have hi0:qAH F S (bz [99,97,108,108]) [a,b,m]=(qF9 S.aa.ai a b).bind fun x6=>cond (!x6) (some (S,(bz [110,111]))) ((qEl S.aa.ai a b m).bind fun x10=>some ((ScriptState.mk S.ag (Performance.mk x10 S.aa.ae S.aa.af) S.am S.ak),(bz [111,107]))):=rfl
 have hs0:∀no wh ln,qDK F (cs S no wh ln) [a,b] m=(qIA S.aa.ai a b).bind fun x5=>cond (!x5) (some (cs S no wh ln,(bz [110,111]))) ((qAZ S.aa S.aa.ai).bind fun x7=>(qAV x7.ai a).bind fun x9=>(qAV x9.ae b).bind fun x11=>(qAR F (cs S no wh ln) S.ag (Performance.mk (x7.ai.set a.toNat (Item.mk x9.aj (x9.ae.set b.toNat m) x9.aB)) x7.ae x7.af)).bind fun x13=>some (x13.1,x13.2)):=fun no wh ln=>rfl
 rw[bnd e2]at hi0
 cases e
 ·refine Alike.stay h _ (by show (2:Nat)<=_;omega) hi0 (fun no wh ln=>?_)
  refine(hs0 no wh ln).trans ?_
  rw[bnd e1];rfl
 ·obtain⟨it,q,a0,b0,g1,g2,gm⟩:=e3 rfl
  obtain⟨i,rfl⟩:=Int.eq_ofNat_of_zero_le a0
  obtain⟨k,rfl⟩:=Int.eq_ofNat_of_zero_le b0
  have hv:=h.aD.call hF (i:=i) (k:=k) (it:=it) (m:=m) (by rw[<-qEm rfl];exact g1) hm
  rw[Bool.not_true,cF,bnd (qP0 hP.2.1 g1 g2)]at hi0
  refine⟨_,_,hi0,fun no wh ln=>?_,⟨hv,h.fac,h.aK⟩,by show (2:Nat)<=_;omega⟩
  refine(hs0 no wh ln).trans ?_
  rw[bnd e1,Bool.not_true,cF,bnd (h.with hF),bnd g1,bnd g2,Int.toNat_natCast,Int.toNat_natCast,bnd (qK8 (show qBk F S.ag (Performance.mk (S.aa.ai.set i (Item.mk it.aj (it.ae.set k m) it.aB)) S.aa.ae S.aa.af)=some true from hv.aJ.1))]
  rfl
end
section
theorem qTY (f:Nat->List bE->List bE->Int->Option Marks) (R:List bE->Option Marks) (L:Nat) (j mark:Int)
  (hf:∀k a b v,f (k+1) a b v=cond (decide (v<(L:Int))) ((qAV b v).bind fun x=>(qAV x j).bind fun _=>f k (b.set v.toNat (x.set j.toNat mark)) (b.set v.toNat (x.set j.toNat mark)) (w64 (v+1))) (R b)) :
  ∀(n a8:Nat) (a dn rest:List bE),rest.length=n->n<a8->L=dn.length+n->L<=1000->(∀g∈rest,qSi g j)->f a8 a (dn++rest) (dn.length:Int)=R (dn++rest.map fun r=>r.set j.toNat mark):=by
 intro n
 induction n with
 |zero =>
  intro a8 a dn rest h hf' hd _ _
  obtain⟨f',rfl⟩:=nZ9 (by omega:a8≠0)
  obtain rfl:=List.length_eq_zero_iff.1 h
  rw[hf,dF (by omega),cF,List.map_nil]
 |succ n ih =>
  intro a8 a dn rest h hf' hd hL hg
  obtain⟨f',rfl⟩:=nZ9 (by omega:a8≠0)
  obtain⟨y,ys,rfl⟩:=List.exists_cons_of_length_eq_add_one h
  simp only[List.length_cons]at h
  obtain⟨x,hx⟩:=qNP (hg y (by simp))
  have g1:qAV (dn++y::ys) (dn.length:Int)=some y:=qDC rfl rfl
  have hs:∀z:bE,(dn++y::ys).set ((dn.length:Int)).toNat z=(dn++[z])++ys:=fun z=>by simp
  rw[hf,dT (by omega),cW,bnd g1,bnd hx,hs,qAD (by omega),show (dn.length:Int)+1=((dn++[y.set j.toNat mark]).length:Int) from by simp]
  rw[ih f' _ (dn++[y.set j.toNat mark]) ys (by omega) (by omega) (by simp;omega) hL (fun g hg'=>hg g (by simp[hg'])),List.map_cons,List.append_assoc]
  rfl
theorem qZp {m:Marks} (h:qHa m) {j:Int} (h1:∀g∈m.ah,qSi g j) (h2:∀g∈m.ac,qSi g j) (F:Nat) (hF:1048576<F):qGI F m j false=some (jud m j (-5) 0)/\qGI F m j true=some (jud m j 5 1000):=by
 have h14:=h.1
 have h3:=h.2.1
 unfold qGI
 rw[bnd (qJN h).1,bnd (qJN h).1,cF,cW]
 constructor
 ·have e2:=fun g=>qTY (qEk j m g) (fun b=>some (Marks.mk g b)) m.ac.length j 0 (fun k a b v=>by rw[qEk]) m.ac.length F m.ac [] m.ac rfl (by omega) (by simp) (by omega) h2
  have e1:=qTY (qFd j F m) (fun b=>qEk j m b F m.ac m.ac 0) m.ah.length j (-5) (fun k a b v=>by rw[qFd]) m.ah.length F m.ah [] m.ah rfl (by omega) (by simp) (by omega) h1
  simp only[List.nil_append,List.length_nil]at e1 e2
  exact e1.trans (e2 _)
 ·have e2:=fun g=>qTY (qEj j m g) (fun b=>some (Marks.mk g b)) m.ac.length j 1000 (fun k a b v=>by rw[qEj]) m.ac.length F m.ac [] m.ac rfl (by omega) (by simp) (by omega) h2
  have e1:=qTY (qFh j F m) (fun b=>qEj j m b F m.ac m.ac 0) m.ah.length j 5 (fun k a b v=>by rw[qFh]) m.ah.length F m.ah [] m.ah rfl (by omega) (by simp) (by omega) h1
  simp only[List.nil_append,List.length_nil]at e1 e2
  exact e1.trans (e2 _)
theorem qVg {F:Nat} (hF:1048576<F) {S:ScriptState} (h:SGood F S) {L:bE} (hl:L.length=1):Alike F S (qAK F S (bz [114,97,110,103,101]) L) (fun x=>qAI F x (bz [114,97,110,103,101]) L):=by
 obtain⟨j,rfl⟩:=qTk hl
 have hP:=h.aD.perf hF
 have hM:=qMM hP
 have hfac:=h.fac
 obtain⟨b,r,b1,b2,r1,r2,b3,b4⟩:=qOY h.aD.mg j
 have hs0:∀no wh ln,qAI F (cs S no wh ln) (bz [114,97,110,103,101]) [j]=cond (!b) (some (cs S no wh ln,(bz [110,111]))) ((qG1 F S.ag S.aa S.am j).bind fun x37=>(qBN F [x37.1,x37.2]).bind fun x39=>some (cs S no wh ln,x39)):=fun no wh ln=>by
  show ((qAZ S.aa S.aa.ai).bind fun x1=>(qGf x1.ae j).bind fun x35=>cond (!x35) (some (cs S no wh ln,(bz [110,111]))) ((qG1 F S.ag x1 S.am j).bind fun x37=>(qBN F [x37.1,x37.2]).bind fun x39=>some (cs S no wh ln,x39)))=_
  rw[bnd (h.with hF),bnd b1]
 have hi0:qAK F S (bz [114,97,110,103,101]) [j]=cond (!b) (some (S,(bz [110,111]))) ((qEf F S.ag S.aa S.am j).bind fun x3=>(qA5 [x3.1,x3.2]).bind fun x28=>some (S,x28)):=by
  show ((qFu F S.ag S.aa S.am j).bind fun x26=>cond (!x26.2.2) (some (S,(bz [110,111]))) ((qA5 [x26.1,x26.2.1]).bind fun x28=>some (S,x28)))=_
  unfold qFu qJe qA6
  obtain⟨d,d1,_,d2⟩:=qFN j 0 ((r.length:Int)-1)
  obtain rfl:b=d:=Bool.eq_iff_iff.2 (b3.trans d2.symm)
  rw[bnd (qXg h).2,qBx,bnd r1,oB9,qBx,qAD (by omega),bnd d1,Bool.true_and,oB9]
  cases b
  ·rfl
  ·rw[Bool.not_true,cF,cF]
   cases hq:qEf F S.ag S.aa S.am j<;>rfl
 cases b
 ·exact Alike.stay h _ (by show (2:Nat)<=_;omega) hi0 hs0
 ·obtain⟨g1,c1⟩:=b4 rfl
  have h14:=hP.2.2.2.1.1
  obtain⟨hc,hl',hk,hm,hn,hs⟩:=hM
  have e1:=qYB hm h14 g1 c1 (-5) 0 F hF
  have e2:=qYB hm h14 g1 c1 5 1000 F hF
  obtain⟨m1,m2⟩:=qZp h.aD.mg g1 c1 F hF
  have pl:qRo S.ag (Performance.mk S.aa.ai (jud S.aa.ae j (-5) 0) S.aa.af):=⟨hc,hl',hk,qXv hm g1 c1 (by omega) (by omega),by show ((S.aa.ae.ah.map fun r=>r.set j.toNat (-5)).length)=_;rw[List.length_map];exact hn,hs⟩
  have ph:qRo S.ag (Performance.mk S.aa.ai (jud S.aa.ae j 5 1000) S.aa.af):=⟨hc,hl',hk,qXv hm g1 c1 (by omega) (by omega),by show ((S.aa.ae.ah.map fun r=>r.set j.toNat 5).length)=_;rw[List.length_map];exact hn,hs⟩
  obtain⟨s1,s2⟩:=qNW pl (f:=S.am) (by omega) F hF
  obtain⟨s3,s4⟩:=qNW ph (f:=S.am) (by omega) F hF
  have n1:=(qPO pl (f:=S.am) (by omega) F hF).2.2
  have n2:=(qPO ph (f:=S.am) (by omega) F hF).2.2
  obtain⟨t,t1,_,t3,t4⟩:=qNS F (by omega) [qEP S.ag (Performance.mk S.aa.ai (jud S.aa.ae j (-5) 0) S.aa.af) S.am,qEP S.ag (Performance.mk S.aa.ai (jud S.aa.ae j 5 1000) S.aa.af) S.am] (fun n hn=>by
   unfold qWq
   simp only[List.mem_cons,List.not_mem_nil,or_false]at hn
   rcases hn with rfl|rfl<;>omega) (by simp)
  refine Alike.stay h t (by simp at t4;omega) (hi0.trans ?_) (fun no wh ln=>(hs0 no wh ln).trans ?_)
  ·unfold qEf
   rw[Bool.not_true,cF,bnd e1,bnd e2,bnd s1,bnd s3,oB9,bnd (t3 (by simp))]
  ·unfold qG1 qIb
   rw[Bool.not_true,cF,bnd m1,s2,oB9,oB9,bnd m2,s4,oB9,oB9,oB9,bnd t1]
def qZL (l:List Item) (x:bE):Prop:=∃(i k:Nat) (m:Int) (it:Item) (q:Int),x=[(i:Int),(k:Int),m]/\qAV l (i:Int)=some it/\qAV it.ae (k:Int)=some q/\0<=m/\m<=3
theorem qXN (P:bE->Prop) (k1 k2:Nat) (y:Int) (hP:∀m,0<=m->m<=3->P [(k1:Int),(k2:Int),m]):∀(n a8:Nat) (v:List bE) (m:Int),m+n=4->0<=m->n<a8->v.length+n<=2000->(∀x∈v,P x)->
  ∃w,qEy k1 k2 y a8 v m=some w/\qB1 k1 k2 y a8 v m=some w/\(∀x∈w,P x)/\w.length<=v.length+n:=by
 intro n
 induction n with
 |zero =>
  intro a8 v m h _ hf _ hv
  obtain⟨f,rfl⟩:=nZ9 (by omega:a8≠0)
  rw[qEy,qB1,dF (by omega),cF,cF]
  exact⟨v,rfl,rfl,hv,by omega⟩
 |succ n ih =>
  intro a8 v m h h0 hf hl hv
  obtain⟨f,rfl⟩:=nZ9 (by omega:a8≠0)
  rw[qEy,qB1,dT (by omega),cW,cW,qAD (by omega)]
  cases (m != y)
  ·obtain⟨w,w1,w2,w3,w4⟩:=ih f v (m+1) (by omega) (by omega) (by omega) (by omega) hv
   exact⟨w,w1,w2,w3,by omega⟩
  ·rw[cW,cW,ndf (by omega) (by simp;omega),oB9,oB9]
   obtain⟨w,w1,w2,w3,w4⟩:=ih f (v++[[(k1:Int),(k2:Int),m]]) (m+1) (by omega) (by omega) (by omega) (by simp;omega) (fun x hx=>by
    rcases List.mem_append.1 hx with hx|hx
    ·exact hv x hx
    ·rw[List.mem_singleton.1 hx];exact hP m h0 (by omega))
   exact⟨w,w1,w2,w3,by simp at w4;omega⟩
theorem qTS (P:bE->Prop) (F:Nat) (hF:1048576<F) (k1:Nat):∀(ys:bE) (k2:Nat) (v:List bE),(∀m (q:Nat),k2<=q->q<k2+ys.length->0<=m->m<=3->P [(k1:Int),(q:Int),m])->v.length+4*ys.length<=2000->(∀x∈v,P x)->
  ∃w,qE1 F k1 ys k2 v=some w/\qB5 F k1 ys k2 v=some w/\(∀x∈w,P x)/\w.length<=v.length+4*ys.length
 | [],k2,v,_,_,hv=>⟨v,by rw[qE1],by rw[qB5],hv,by simp⟩
 |y::ys,k2,v,hP,hl,hv=>by
  simp only[List.length_cons]at hP hl⊢
  obtain⟨w,w1,w2,w3,w4⟩:=qXN P k1 k2 y (fun m m0 m3=>hP m k2 (by omega) (by omega) m0 m3) 4 F v 0 (by omega) (by omega) (by omega) (by omega) hv
  obtain⟨u,u1,u2,u3,u4⟩:=qTS P F hF k1 ys (k2+1) w (fun m q q1 q2 m0 m3=>hP m q (by omega) (by omega) m0 m3) (by omega) w3
  rw[qE1,qB5,bnd w1,bnd w2]
  exact⟨u,u1,u2,u3,by omega⟩
theorem qTp (F:Nat) (hF:1048576<F) (l:List Item) (hl:qEe l):∀(ys pre:List Item) (v:List bE),l=pre++ys->v.length+12*ys.length<=2000->(∀x∈v,qZL l x)->
  ∃w,qFC F ys pre.length v=some w/\qB4 F ys pre.length v=some w/\(∀x∈w,qZL l x)
 | [],pre,v,_,_,hv=>⟨v,by rw[qFC],by rw[qB4],hv⟩
 |y::ys,pre,v,h,hb,hv=>by
  have hg:=qDC (pre:=pre) (y:=y) (ys:=ys) h rfl
  have hy:=hl.2 y (by rw[h];simp)
  unfold qGQ at hy
  simp only[List.length_cons]at hb
  obtain⟨w,w1,w2,w3,w4⟩:=qTS (qZL l) F hF pre.length y.ae 0 v (fun m q q1 q2 m0 m3=>⟨pre.length,q,m,y,y.ae[q]'(by omega),rfl,hg,by rw[qEm rfl];exact List.getElem?_eq_getElem _,m0,m3⟩) (by omega) hv
  obtain⟨u,u1,u2,u3⟩:=qTp F hF l hl ys (pre++[y]) w (by rw[h];simp) (by omega) w3
  rw[show (pre++[y]).length=pre.length+1 from by simp]at u1 u2
  rw[qFC,qB4,bnd w1,bnd w2]
  exact⟨u,u1,u2,u3⟩
theorem qTW {F:Nat} (hF:1048576<F) {S:ScriptState} (h:SGood F S) {x:bE} (hx:qZL S.aa.ai x):∃(a b m s:Int) (l:List Item),x=[a,b,m]/\(0<=m/\m<=3)/\(0<=a/\a<=100)/\(0<=b/\b<=100)/\qJC F S.ag S.aa S.am a b m=some s/\qEl S.aa.ai a b m=some l/\qHJ F S.ag S.aa S.am l=some s:=by
 obtain⟨i,k,m,it,q,rfl,g1,g2,m0,m3⟩:=hx
 have hP:=h.aD.perf hF
 have hfac:=h.fac
 have g3:S.aa.ai[i]?=some it:=by rw[<-qEm rfl];exact g1
 have hv:=h.aD.call hF (i:=i) (k:=k) (it:=it) (m:=m) g3 ⟨m0,m3⟩
 have hi14:=hP.2.1.1
 have hilt:=(List.getElem?_eq_some_iff.1 g3).1
 have hit:=hP.2.1.2 it (List.mem_of_getElem? g3)
 unfold qGQ at hit
 have hklt:k<it.ae.length:=by rw[qEm rfl]at g2;exact(List.getElem?_eq_some_iff.1 g2).1
 obtain⟨s1,s2⟩:=qNW (qMM (hv.perf hF)) (f:=S.am) (by omega) F hF
 refine⟨_,_,_,qEP S.ag (Performance.mk (callL S.aa.ai i k it m) S.aa.ae S.aa.af) S.am,callL S.aa.ai i k it m,rfl,⟨m0,m3⟩,by omega,by omega,?_,qP0 hP.2.1 g1 g2,?_⟩
 ·unfold qJC
  rw[bnd (h.with hF),bnd g1,bnd g2,Int.toNat_natCast,Int.toNat_natCast]
  show ((qDU F S.ag (Performance.mk (callL S.aa.ai i k it m) S.aa.ae S.aa.af) S.am).bind fun x7=>some x7)=_
  rw[bnd s2]
 ·unfold qHJ
  rw[bnd s1]
theorem qUz {F:Nat} (hF:1048576<F) {S:ScriptState} (h:SGood F S):∀(ys:List bE) (k:Nat) (u v:bE) (s:Int) (fd:Bool),(∀x∈ys,qZL S.aa.ai x)->((fd=false/\u=[0,0,0]/\v=[])\/(fd=true/\u=v/\qZL S.aa.ai v))->
  ∃a b m d,qBc S.ag S.aa S.am F ys k u s fd=some (a,b,m,d)/\qBX S.ag S.aa S.am F ys k s v=some (a,b,m,d)/\(0<=m/\m<=3)/\(0<=a/\a<=100)/\(0<=b/\b<=100)
 | [],k,u,v,s,fd,_,hv=>by
  rw[qBc,qBX]
  rcases hv with⟨rfl,rfl,rfl⟩|⟨rfl,rfl,hq⟩
  ·exact⟨0,0,0,false,rfl,rfl,by omega,by omega,by omega⟩
  ·obtain⟨a,b,m,_,_,rfl,hm,ha,hb,_⟩:=qTW hF h hq
   exact⟨a,b,m,true,rfl,rfl,hm,ha,hb⟩
 |y::ys,k,u,v,s,fd,hy,hv=>by
  have hyy:=hy y (by simp)
  obtain⟨a,b,m,t,l,rfl,hm,ha,hb,e1,e2,e3⟩:=qTW hF h hyy
  rw[qBc,qBX,show qAV [a,b,m] 0=some a from rfl,show qAV [a,b,m] 1=some b from rfl,show qAV [a,b,m] 2=some m from rfl]
  simp only[oB9]
  rw[bnd e1,bnd e2,bnd e3]
  cases decide (t>s)
  ·exact qUz hF h ys (k+1) u v s fd (fun x hx=>hy x (by simp[hx])) hv
  ·exact qUz hF h ys (k+1) [a,b,m] [a,b,m] t true (fun x hx=>hy x (by simp[hx])) (.inr ⟨rfl,rfl,hyy⟩)
theorem qUh {F:Nat} (hF:1048576<F) {S:ScriptState} (h:SGood F S):∃a b m d,qFA F S.ag S.aa S.am=some (a,b,m,d)/\qEx F S.ag S.aa S.am=some (a,b,m,d)/\(0<=m/\m<=3)/\(0<=a/\a<=100)/\(0<=b/\b<=100):=by
 have hP:=h.aD.perf hF
 have hfac:=h.fac
 obtain⟨s1,s2⟩:=qNW (qMM hP) (f:=S.am) (by omega) F hF
 obtain⟨w,w1,w2,w3⟩:=qTp F hF S.aa.ai hP.2.1 S.aa.ai [] [] rfl (by have:=hP.2.1.1;simp;omega) (by simp)
 rw[List.length_nil]at w1 w2
 obtain⟨a,b,m,d,e1,e2,e3⟩:=qUz hF h w 0 [0,0,0] [] (qEP S.ag S.aa S.am) false w3 (.inl ⟨rfl,rfl,rfl⟩)
 refine⟨a,b,m,d,?_,?_,e3⟩
 ·unfold qFA qL8
  rw[bnd (qXg h).1,Bool.not_true,cF,bnd s2,bnd w1,e1]
 ·unfold qEx qIM
  rw[bnd (qXg h).2,Bool.not_true,cF,bnd s1,bnd w2,e2]
theorem qWy {F:Nat} (hF:1048576<F) {S:ScriptState} (h:SGood F S):Alike F S (qAK F S (bz [98,101,115,116]) []) (fun x=>qAY F x (bz [98,101,115,116])):=by
 obtain⟨a,b,m,d,e1,e2,hm,ha,hb⟩:=qUh hF h
 have hi0:qAK F S (bz [98,101,115,116]) []=(qEx F S.ag S.aa S.am).bind fun x30=>cond (!x30.2.2.2) (some (S,(bz [110,111,110,101]))) ((qA5 [x30.1,x30.2.1]).bind fun x32=>(qAl (Nat.ble (x32.size+(bz [32]).size) qDF)).bind fun u34=>(qAV qOW x30.2.2.1).bind fun x36=>(qAl (Nat.ble ((x32++(bz [32])).size+x36.size) qDF)).bind fun u38=>some (S,((x32++(bz [32]))++x36))):=rfl
 have hs0:∀no wh ln,qAY F (cs S no wh ln) (bz [98,101,115,116])=(qFA F S.ag S.aa S.am).bind fun x25=>cond (!x25.2.2.2) (some (cs S no wh ln,(bz [110,111,110,101]))) ((qBN F [x25.1,x25.2.1]).bind fun x27=>(qAl (Nat.ble (x27.size+(bz [32]).size) qDF)).bind fun u29=>(qAV qOW x25.2.2.1).bind fun x33=>(qAl (Nat.ble ((x27++(bz [32])).size+x33.size) qDF)).bind fun u35=>some (cs S no wh ln,((x27++(bz [32]))++x33))):=fun no wh ln=>rfl
 rw[bnd e2]at hi0
 obtain⟨t,t1,_,t3,t4⟩:=qNS F (by omega) [a,b] (fun n hn=>by
  unfold qWq
  simp only[List.mem_cons,List.not_mem_nil,or_false]at hn
  rcases hn with rfl|rfl<;>omega) (by simp)
 obtain⟨w,w1,_,w3⟩:=qZx m hm
 have e32:(bz [32]).size=1:=rfl
 simp only[List.length_cons,List.length_nil]at t4
 cases d
 ·refine Alike.stay h _ (by show (4:Nat)<=_;omega) hi0 (fun no wh ln=>?_)
  refine(hs0 no wh ln).trans ?_
  rw[bnd e1];rfl
 ·refine Alike.stay h ((t++(bz [32]))++w) (by simp only[ByteArray.size_append];omega) (hi0.trans ?_) (fun no wh ln=>(hs0 no wh ln).trans ?_)
  ·rw[Bool.not_true,cF,bnd (t3 (by simp)),nd (by omega),oB9,bnd w1,nd (by simp only[ByteArray.size_append];omega),oB9]
  ·rw[bnd e1,Bool.not_true,cF,bnd t1,nd (by omega),oB9,bnd w1,nd (by simp only[ByteArray.size_append];omega),oB9]
end
section
theorem qV6 {l:List Result} (h:qQb l):qZn l:=by
 obtain⟨h1,h2,h3,h4⟩:=h
 refine⟨fun r hr=>?_,fun r hr q hq=>by rw[h3 r hr,h3 q hq],fun r hr=>(h1 r hr).1,h2,h4⟩
 obtain⟨_,a,b,_⟩:=h1 r hr
 exact⟨a.2,b⟩
theorem qX2 {l:List Result} (h:qZn l) (F:Nat) (hF:5<F) (i:Int) (hi:0<=i/\i<(l.length:Int)):qWq (plR l F i)/\0<=plR l F i:=by
 have key:∀(ys:List Result) (k:Nat) (v:Int),(∀r∈ys,r∈l)->0<=v->v+ys.length<=100000->∃r,qBd l i F ys k v=some r/\0<=r/\r<=100000:=by
  intro ys
  induction ys with
  |nil=>intro k v _ h0 h1;exact⟨v,by rw[qBd],h0,by simpa using h1⟩
  |cons y ys ih =>
   intro k v hy h0 h1
   simp only[List.length_cons]at h1
   obtain⟨r,hr,g,_⟩:=qX3 hi
   rw[qBd,bnd g,bnd (qT7 (h.ok y (hy y (by simp))) (h.ok r hr) (h.eqs _ (hy y (by simp)) _ hr) F hF),qAD (by omega)]
   cases decide (sg (qUP y-qUP r)>0)
   ·exact ih (k+1) v (fun z hz=>hy z (by simp[hz])) h0 (by omega)
   ·exact ih (k+1) (v+1) (fun z hz=>hy z (by simp[hz])) (by omega) (by omega)
 obtain⟨r,r1,r2,r3⟩:=key l 0 1 (fun z hz=>hz) (by omega) (by have:=h.len;omega)
 have e:plR l F i=r:=by unfold plR qCf;rw[r1];rfl
 rw[e]
 exact⟨by unfold qWq;omega,r2⟩
theorem qSR {l:List Result} (h:qZn l) (F:Nat) (hF:5<F):∀(ys:List Result) (k:Nat) (v:bE),k+ys.length=l.length->v.length+ys.length<=1000->(∀x∈v,qWq x)->∃w,qC7 l F ys k v=some w/\qBK l F ys k v=some (w,true)/\(∀x∈w,qWq x)/\w.length=v.length+ys.length
 | [],k,v,_,_,hv=>⟨v,by rw[qC7],by rw[qBK],hv,by simp⟩
 |y::ys,k,v,hk,hl,hv=>by
  simp only[List.length_cons]at hk hl
  obtain⟨p1,p2⟩:=qTv h F hF (k:Int) (by omega)
  have pb:=qX2 h F hF (k:Int) (by omega)
  obtain⟨w,w1,w2,w3,w4⟩:=qSR h F hF ys (k+1) (v++[plR l F k]) (by omega) (by simp;omega) (fun x hx=>by
   rcases List.mem_append.1 hx with hx|hx
   ·exact hv x hx
   ·rw[List.mem_singleton.1 hx];exact pb.1)
  rw[qC7,qBK,bnd p1,bnd p2,ndf (by omega) (by simp;omega),oB9,oB9]
  exact⟨w,w1,w2,w3,by rw[w4];simp;omega⟩
theorem qRS {l:List Result} (h:qQb l):∀r∈l,r.ap.length<=1048576:=fun r hr=>by have:=(h.1 r hr).2.1.2;omega
theorem qSm {F:Nat} (hF:1048576<F) {S:ScriptState} (h:SGood F S):Alike F S (qAn F S (bz [112,108,97,99,101,115]) []) (fun x=>qAY F x (bz [112,108,97,99,101,115])):=by
 have hR:=qV6 h.aK
 have h40:=h.aK.2.2.2
 obtain⟨w,w1,w2,w3,w4⟩:=qSR hR F (by omega) S.ak 0 [] (by simp) (by simp;omega) (by simp)
 obtain⟨b,b1,b2⟩:=qKC S.ak (by omega) (qRS h.aK)
 obtain rfl:=b2.2 h.aK
 obtain⟨t,t1,t2,_,t4⟩:=qNS F (by omega) w w3 (by rw[w4];simp;omega)
 simp only[List.length_nil,Nat.zero_add]at w4
 refine Alike.stay h t (by omega) ?_ (fun no wh ln=>?_)
 ·show ((qEq F S.ak).bind fun x2=>(qCo x2.1).bind fun x4=>some (S,x4))=_
  unfold qEq
  rw[bnd b1,Bool.not_true,cF,bnd w2,bnd t2]
 ·show ((qHw F S.ak).bind fun x38=>(qBN F x38).bind fun x40=>some (cs S no wh ln,x40))=_
  unfold qHw
  rw[bnd w1,bnd t1]
theorem qUM {F:Nat} (hF:1048576<F) {S:ScriptState} (h:SGood F S) {L:bE} (hl:L.length=1):Alike F S (qAn F S (bz [115,107,97,116,101,114]) L) (fun x=>qAI F x (bz [115,107,97,116,101,114]) L):=by
 obtain⟨n,rfl⟩:=qTk hl
 have hP:=h.aD.perf hF
 have hfac:=h.fac
 have h40:=h.aK.2.2.2
 obtain⟨s1,s2⟩:=qNW (qMM hP) (f:=S.am) (by omega) F hF
 have hlen:(S.ak++[Result.mk n [qEP S.ag S.aa S.am]]).length=S.ak.length+1:=by simp
 have hsc:∀r∈S.ak++[Result.mk n [qEP S.ag S.aa S.am]],r.ap.length<=1048576:=fun r hr=>by
  rcases List.mem_append.1 hr with hr|hr
  ·exact qRS h.aK r hr
  ·rw[List.mem_singleton.1 hr];show 1<=_;omega
 obtain⟨b,b1,b2⟩:=qKC (S.ak++[Result.mk n [qEP S.ag S.aa S.am]]) (by omega) hsc
 obtain⟨d,d1,d2⟩:=qUV (S.ak++[Result.mk n [qEP S.ag S.aa S.am]]) (by omega)
 obtain rfl:b=d:=Bool.eq_iff_iff.2 (b2.trans d2.symm)
 have e1:qAl (qAg 32 S.ak.length)=some ():=ndf (by omega) (by omega)
 have e2:qAl (qAg 32 (S.ak.length+[Result.mk n [qEP S.ag S.aa S.am]].length))=some ():=ndf (by omega) (by simp;omega)
 have ew:w64 (((S.ak++[Result.mk n [qEP S.ag S.aa S.am]]).length:Int)-1)=(S.ak.length:Int):=by rw[hlen,qAD (by omega)];omega
 have hi0:qAn F S (bz [115,107,97,116,101,114]) [n]=cond (!b) (some (S,(bz [110,111]))) ((qG9 F (S.ak++[Result.mk n [qEP S.ag S.aa S.am]]) (S.ak.length:Int)).bind fun x16=>(qBe x16).bind fun x18=>some ((ScriptState.mk S.ag S.aa S.am (S.ak++[Result.mk n [qEP S.ag S.aa S.am]])),x18)):=by
  show ((qBV F S.ag S.aa S.am).bind _)=_
  rw[bnd s1,e1,oB9,show qAV [n] 0=some n from rfl,oB9,e2,oB9,bnd b1,ew]
 have hs0:∀no wh ln,qAI F (cs S no wh ln) (bz [115,107,97,116,101,114]) [n]=cond (!b) (some (cs S no wh ln,(bz [110,111]))) ((qCf F (S.ak++[Result.mk n [qEP S.ag S.aa S.am]]) (S.ak.length:Int)).bind fun x16=>(qBQ F F x16).bind fun x18=>some ((CsState.mk S.ag S.aa S.am (S.ak++[Result.mk n [qEP S.ag S.aa S.am]]) no wh ln),x18)):=fun no wh ln=>by
  show ((qAZ S.aa S.aa.ai).bind fun x1=>(qE6 F (cs S no wh ln) n).bind fun x43=>some (x43.1,x43.2))=_
  rw[bnd (h.with hF)]
  unfold qE6
  rw[show qAl (qAg 32 (cs S no wh ln).ak.length)=some () from e1,oB9,show qDU F (cs S no wh ln).ag (cs S no wh ln).p (cs S no wh ln).am=some _ from s2,oB9,show qAl (qAg 32 ((cs S no wh ln).ak.length+[Result.mk n [qEP S.ag S.aa S.am]].length))=some () from e2,oB9,show qJF ((cs S no wh ln).ak++[Result.mk n [qEP S.ag S.aa S.am]])=some b from d1,oB9,show w64 ((((cs S no wh ln).ak++[Result.mk n [qEP S.ag S.aa S.am]]).length:Int)-1)=(S.ak.length:Int) from ew]
  cases b
  ·rfl
  ·rw[Bool.not_true,cF,cF]
   show (((qCf F (S.ak++[Result.mk n [qEP S.ag S.aa S.am]]) (S.ak.length:Int)).bind fun x9=>(qBQ F F x9).bind fun x11=>some ((CsState.mk S.ag S.aa S.am (S.ak++[Result.mk n [qEP S.ag S.aa S.am]]) no wh ln),x11)).bind fun x43=>some (x43.1,x43.2))=_
   cases qCf F (S.ak++[Result.mk n [qEP S.ag S.aa S.am]]) (S.ak.length:Int) with
   |none=>rfl
   |some z =>
    rw[oB9]
    cases qBQ F F z<;>rfl
 cases b
 ·exact Alike.stay h _ (by show (2:Nat)<=_;omega) hi0 hs0
 ·have hok:=b2.1 rfl
  have hR:=qV6 hok
  have hin:0<=(S.ak.length:Int)/\(S.ak.length:Int)<((S.ak++[Result.mk n [qEP S.ag S.aa S.am]]).length:Int):=by rw[hlen];omega
  obtain⟨p1,p2⟩:=qTv hR F (by omega) (S.ak.length:Int) hin
  obtain⟨pb,p0⟩:=qX2 hR F (by omega) (S.ak.length:Int) hin
  obtain⟨t,t1,t2,t3,t4⟩:=qZO F (by omega) _ pb
  unfold qDo at t1
  rw[dF (by omega),cF]at t1
  have t5:qBQ F F (plR (S.ak++[Result.mk n [qEP S.ag S.aa S.am]]) F (S.ak.length:Int))=some t:=by
   cases hq:qBQ F F (plR (S.ak++[Result.mk n [qEP S.ag S.aa S.am]]) F (S.ak.length:Int)) with
   |none=>rw[hq]at t1;cases t1
   |some z=>rw[hq]at t1;exact t1
  refine⟨ScriptState.mk S.ag S.aa S.am (S.ak++[Result.mk n [qEP S.ag S.aa S.am]]),t,hi0.trans ?_,fun no wh ln=>(hs0 no wh ln).trans ?_,⟨h.aD,h.fac,hok⟩,by omega⟩
  ·rw[Bool.not_true,cF,bnd p2,bnd t2]
  ·rw[Bool.not_true,cF,bnd p1,bnd t5];rfl
end
section
def qXa (m:Nat):List UInt8:=if m=0 then [] else if m=1 then [60] else if m=2 then [101] else [42]
def qVN:List bD:=[(⟨#[]⟩:bD),(bz [60]),(bz [101]),(bz [42])]
theorem qXA (m:Nat) (h:m<=3):∃w,qAV qVN (m:Int)=some w/\toL w=qXa m/\w.size<=1:=by
 have:m=0\/m=1\/m=2\/m=3:=by omega
 rcases this with rfl|rfl|rfl|rfl<;>exact⟨_,rfl,rfl,by decide⟩
def qGT (l:List UInt8):List UInt8×Nat:=if l.getLast?=some 60 then (l.dropLast,1) else if l.getLast?=some 101 then (l.dropLast,2) else if l.getLast?=some 42 then (l.dropLast,3) else (l,0)
theorem qXI (l:List UInt8):(qGT l).2<=3:=by unfold qGT;split<;>(try split)<;>(try split)<;>simp
theorem qTn (l:List UInt8):(qGT l).1++qXa (qGT l).2=l:=by
 have key:∀c,l.getLast?=some c->l.dropLast++[c]=l:=fun c h=>by
  have hne:l≠[]:=fun e=>by rw[e]at h;cases h
  rw[List.getLast?_eq_some_getLast hne]at h
  rw[<-Option.some.inj h,List.dropLast_concat_getLast hne]
 unfold qGT
 split
 ·rename_i h;exact key _ h
 ·split
  ·rename_i h;exact key _ h
  ·split
   ·rename_i h;exact key _ h
   ·exact List.append_nil l
theorem qY9 (l:List UInt8) (c:UInt8):(∃t,l=t++[c])↔l.getLast?=some c:=by
 constructor
 ·rintro⟨t,rfl⟩;simp
 ·intro h
  have hne:l≠[]:=fun e=>by rw[e]at h;cases h
  rw[List.getLast?_eq_some_getLast hne]at h
  exact⟨l.dropLast,by rw[<-Option.some.inj h,List.dropLast_concat_getLast hne]⟩
theorem qVc (y:bD) (hy:y.size<=1048576) (v:List bD) (u:bE) (hv:v.length<=3000) (hu:u.length<=3000) (F:Nat) (hF:1048576<F):∃r,qBt y v u F 1=some (v++[r],u++[((qGT (toL y)).2:Int)])/\toL r=(qGT (toL y)).1:=by
 obtain⟨f,rfl⟩:=nZ9 (show F≠0 by omega)
 obtain⟨f,rfl⟩:=nZ9 (show f≠0 by omega)
 obtain⟨f,rfl⟩:=nZ9 (show f≠0 by omega)
 obtain⟨f,rfl⟩:=nZ9 (show f≠0 by omega)
 have e1:w64 ((1:Int)+1)=2:=rfl
 have e2:w64 ((2:Int)+1)=3:=rfl
 have e3:w64 ((3:Int)+1)=4:=rfl
 have n1:∀(q:bD),qAl (qAg 16 (v.length+[q].length))=some ():=fun q=>ndf (by omega) (by simp;omega)
 have n2:∀(q:Int),qAl (qAg 8 (u.length+[q].length))=some ():=fun q=>ndf (by omega) (by simp;omega)
 have no:∀(c:UInt8),(∀t,toL y≠t++[c])->(toL y).getLast?≠some c:=fun c h q=>by
  obtain⟨t,ht⟩:=(qY9 (toL y) c).2 q
  exact h t ht
 have yes:∀(c:UInt8) (r:bD),toL y=toL r++[c]->(toL y).getLast?=some c/\(toL y).dropLast=toL r:=fun c r h=>by rw[h];simp
 rw[qBt,show decide ((1:Int)<=3)=true from rfl,cW,show (qAV [(⟨#[]⟩:bD),(bz [60]),(bz [101]),(bz [42])] 1)=some (bz [60]) from rfl,oB9]
 rcases qaY y (bz [60]) hy (by decide) with⟨r,r1,r2⟩|⟨a1,a2⟩
 ·obtain⟨h1,h2⟩:=yes 60 r r2
  rw[bnd r1,cW,n1,oB9,n2,oB9]
  refine⟨r,?_,?_⟩<;>unfold qGT<;>rw[if_pos h1]
  ·rfl
  ·exact h2.symm
 have a3:=no 60 a1
 rw[bnd a2,cF,e1,qBt,show decide ((2:Int)<=3)=true from rfl,cW,show (qAV [(⟨#[]⟩:bD),(bz [60]),(bz [101]),(bz [42])] 2)=some (bz [101]) from rfl,oB9]
 rcases qaY y (bz [101]) hy (by decide) with⟨r,r1,r2⟩|⟨b1,b2⟩
 ·obtain⟨h1,h2⟩:=yes 101 r r2
  rw[bnd r1,cW,n1,oB9,n2,oB9]
  refine⟨r,?_,?_⟩<;>unfold qGT<;>rw[if_neg a3,if_pos h1]
  ·rfl
  ·exact h2.symm
 have b3:=no 101 b1
 rw[bnd b2,cF,e2,qBt,show decide ((3:Int)<=3)=true from rfl,cW,show (qAV [(⟨#[]⟩:bD),(bz [60]),(bz [101]),(bz [42])] 3)=some (bz [42]) from rfl,oB9]
 rcases qaY y (bz [42]) hy (by decide) with⟨r,r1,r2⟩|⟨c1,c2⟩
 ·obtain⟨h1,h2⟩:=yes 42 r r2
  rw[bnd r1,cW,n1,oB9,n2,oB9]
  refine⟨r,?_,?_⟩<;>unfold qGT<;>rw[if_neg a3,if_neg b3,if_pos h1]
  ·rfl
  ·exact h2.symm
 have c3:=no 42 c1
 rw[bnd c2,cF,e3,qBt,show decide ((4:Int)<=3)=false from rfl,cF,n1,oB9,n2,oB9]
 refine⟨y,?_,?_⟩<;>unfold qGT<;>rw[if_neg a3,if_neg b3,if_neg c3]
 rfl
theorem qSI (f:List bD->Nat->Int->Option (List bD×bE)) (y:bD) (hy:y.size<=1048576) (v:List bD) (u:bE) (hv:v.length<=3000) (hu:u.length<=3000)
  (f0:∀k m,f [] k m=cond (decide (m>0)) ((qAl (inB 0 (w64 ((y.size:Int)-1)) y.size)).bind fun _=>(qAl (qAg 16 (v.length+([(ByteArray.extract y 0 (w64 ((y.size:Int)-1)).toNat)]).length))).bind fun _=>(qAl (qAg 8 (u.length+([m]).length))).bind fun _=>some ((v++[(ByteArray.extract y 0 (w64 ((y.size:Int)-1)).toNat)]),(u++[m])))
   ((qAl (qAg 16 (v.length+([y]).length))).bind fun _=>(qAl (qAg 8 (u.length+([m]).length))).bind fun _=>some ((v++[y]),(u++[m]))))
  (f1:∀z zs k m,f (z::zs) k m=(opt (decide ((k:Int)>0)&&decide ((y.size:Int)>0)) default (qAl (inB (w64 ((y.size:Int)-1)) y.size y.size))).bind fun _=>cond ((decide ((k:Int)>0)&&decide ((y.size:Int)>0))&&decide ((ByteArray.extract y (w64 ((y.size:Int)-1)).toNat y.size)=z)) (f zs (k+1) (k:Int)) (f zs (k+1) m)) :
  ∃r,f qVN 0 0=some (v++[r],u++[((qGT (toL y)).2:Int)])/\toL r=(qGT (toL y)).1:=by
 have n1:∀(q:bD),qAl (qAg 16 (v.length+[q].length))=some ():=fun q=>ndf (by omega) (by simp;omega)
 have n2:∀(q:Int),qAl (qAg 8 (u.length+[q].length))=some ():=fun q=>ndf (by omega) (by simp;omega)
 have hsz:=qBP y
 by_cases h0:y.size=0
 ·have hnil:toL y=[]:=List.length_eq_zero_iff.1 (by omega)
  unfold qVN
  have st:∀z zs k m,f (z::zs) k m=f zs (k+1) m:=fun z zs k m=>by
   rw[f1,dF (show ¬(y.size:Int)>0 by omega),Bool.and_false,qDW,oB9,Bool.false_and,cF]
  rw[st,st,st,st,f0,show decide ((0:Int)>0)=false from rfl,cF,n1,oB9,n2,oB9]
  refine⟨y,?_,?_⟩<;>rw[hnil]
  ·rfl
  ·rfl
 have hw:w64 ((y.size:Int)-1)=((y.size-1:Nat):Int):=by rw[qAD (by omega)];omega
 have hne:toL y≠[]:=fun e=>h0 (by rw[e]at hsz;exact hsz.symm)
 have hin:inB ((y.size-1:Nat):Int) y.size y.size=true:=by unfold inB;simp
 have hin2:inB 0 ((y.size-1:Nat):Int) y.size=true:=by unfold inB;simp
 have hlast:toL (ByteArray.extract y (y.size-1) y.size)=[(toL y).getLast hne]:=by
  rw[show toL (ByteArray.extract y (y.size-1) y.size)=(toL y).drop (y.size-1) from Go.Lib.extract_to_end y (y.size-1),<-hsz]
  have e:=List.dropLast_concat_getLast hne
  have:((toL y).dropLast++[(toL y).getLast hne]).drop ((toL y).length-1)=[(toL y).getLast hne]:=by rw[<-List.length_dropLast,List.drop_left]
  rw[e]at this
  exact this
 have hinit:toL (ByteArray.extract y 0 (y.size-1))=(toL y).dropLast:=by
  rw[show toL (ByteArray.extract y 0 (y.size-1))=((toL y).drop 0).take (y.size-1-0) from Go.Lib.extract_data y 0 (y.size-1),List.dropLast_eq_take,<-hsz];rfl
 have hgl:(toL y).getLast?=some ((toL y).getLast hne):=List.getLast?_eq_some_getLast hne
 have fin:∀k m,0<m->f [] k m=some (v++[ByteArray.extract y 0 (y.size-1)],u++[m]):=fun k m hm=>by
  rw[f0,dT hm,cW,hw,hin2,qC2,oB9,Int.toNat_natCast,n1,oB9,n2,oB9]
 have st0:∀z zs m,f (z::zs) 0 m=f zs 1 m:=fun z zs m=>by
  rw[f1,show decide (((0:Nat):Int)>0)=false from rfl,Bool.false_and,qDW,oB9,Bool.false_and,cF]
 have st:∀(c:UInt8) zs (k:Nat) m,0<k->f ((⟨#[c]⟩:bD)::zs) k m=if (toL y).getLast hne=c then f zs (k+1) (k:Int) else f zs (k+1) m:=fun c zs k m hk=>by
  rw[f1,dT (show (k:Int)>0 by omega),dT (show (y.size:Int)>0 by omega),Bool.and_self,qBx,hw,hin,qC2,oB9,Bool.true_and,Int.toNat_natCast]
  by_cases h:(toL y).getLast hne=c
  ·rw[if_pos h,dT (qGd (by rw[hlast,h])),cW]
  ·rw[if_neg h,dF (fun e=>h (by have:=congrArg toL e;rw[hlast]at this;exact(List.cons.inj this).1)),cF]
 unfold qVN
 rw[st0,st 60 _ 1 _ (by omega),st 101 _ 2 _ (by omega),st 101 _ 2 _ (by omega),st 42 _ 3 _ (by omega),st 42 _ 3 _ (by omega),st 42 _ 3 _ (by omega)]
 unfold qGT
 rw[hgl]
 by_cases h1:(toL y).getLast hne=60
 ·have d1:¬(60:UInt8)=101:=by decide
  have d2:¬(60:UInt8)=42:=by decide
  rw[h1]
  simp only[d1,d2,if_true,if_false]
  exact⟨_,fin _ _ (by omega),hinit⟩
 ·by_cases h2:(toL y).getLast hne=101
  ·have d2:¬(101:UInt8)=42:=by decide
   have d3:¬(101:UInt8)=60:=by decide
   rw[h2]
   simp only[d2,d3,if_true,if_false,Option.some.injEq]
   exact⟨_,fin _ _ (by omega),hinit⟩
  ·by_cases h3:(toL y).getLast hne=42
   ·have d2:¬(42:UInt8)=101:=by decide
    have d3:¬(42:UInt8)=60:=by decide
    rw[h3]
    simp only[d2,d3,if_true,if_false,Option.some.injEq]
    exact⟨_,fin _ _ (by omega),hinit⟩
   ·simp only[h1,h2,h3,if_false,Option.some.injEq]
    rw[f0,show decide ((0:Int)>0)=false from rfl,cF,n1,oB9,n2,oB9]
    exact⟨y,rfl,rfl⟩
end
section
theorem qOO (s:bD) (hs:s.size<=1000000) (c:UInt8) (F:Nat) (hF:4194304<F):∃W:List bD,qA8 F s ((c.toNat:Nat):Int)=some W/\qCA s ⟨#[c]⟩=some W/\W.map toL=qJB c (toL s):=by
 obtain⟨r,r1,r2⟩:=qOR s (by omega) c F hF
 refine⟨r,r1,?_,r2⟩
 unfold qCA
 rw[show (Nat.blt s.size 4294967281&&Nat.blt 0 (⟨#[c]⟩:bD).size)=true from by
  rw[Bool.and_eq_true,Nat.blt_eq];exact⟨by omega,rfl⟩,qC2,oB9]
 exact congrArg some (qHU (by rw[qOa,r2]))
def qM4:Nat->List (List UInt8)->List UInt8
 |_,[]=>[]
 |0,w::ws=>w++qM4 1 ws
 |k+1,w::ws=>43::(w++qM4 (k+2) ws)
theorem qSX:∀(ws:List (List UInt8)) (k:Nat),ws≠[]->qM4 (k+1) ws=43::qNZ 43 ws
 | [],_,h=>absurd rfl h
 | [w],k,_=>by rw[qM4,qM4,List.append_nil];rfl
 |w::z::ws,k,_=>by
  rw[qM4,qSX (z::ws) (k+1) (by simp)]
  rfl
theorem qXR (ws:List (List UInt8)):qM4 0 ws=qNZ 43 ws:=by
 match ws with
 | []=>rfl
 | [w]=>rw[qM4,qM4,List.append_nil];rfl
 |w::z::ws=>rw[qM4,qSX _ 0 (by simp)];rfl
def qM1 (N:List bD) (M:bE):List (List UInt8):=List.zipWith (fun n m=>toL n++qXa m.toNat) N M
theorem qUn (it:Item):∀(ys:List bD) (ms mp:bE) (k:Nat) (acc:bD),it.ae=mp++ms->mp.length=k->ys.length=ms.length->(∀m∈ms,0<=m/\m<=3)->(∀y∈ys,y.size<=2000)->acc.size+2002*ys.length<=100000->
  ∃t,qDP it ys k acc=some t/\toL t=(toL acc++qM4 k (qM1 ys ms))++(if it.aB=true then [32,120] else [])
 | [],ms,mp,k,acc,_,_,hl,_,_,hb=>by
  obtain rfl:ms=[]:=List.length_eq_zero_iff.1 hl.symm
  have e2:(bz [32,120]).size=2:=rfl
  simp only[List.length_nil]at hb
  rw[qDP]
  cases hlt:it.aB
  ·rw[cF];exact⟨acc,rfl,by simp[qM1,qM4]⟩
  ·rw[cW,nd (by omega),oB9]
   exact⟨_,rfl,by rw[qHW];simp only[qM1,List.zipWith_nil_left,qM4,List.append_nil,if_true]⟩
 |y::ys,[],mp,k,acc,_,_,hl,_,_,_=>by simp at hl
 |y::ys,m::ms,mp,k,acc,h1,h2,hl,hm,hy,hb=>by
  simp only[List.length_cons]at hl hb
  have hm0:=hm m (by simp)
  have hy0:=hy y (by simp)
  obtain⟨q,rfl⟩:=Int.eq_ofNat_of_zero_le hm0.1
  obtain⟨w,w1,w2,w3⟩:=qXA q (by omega)
  have hg:qAV it.ae (k:Int)=some (q:Int):=qDC h1 (by omega)
  have hws:qM1 (y::ys) ((q:Int)::ms)=(toL y++qXa q)::qM1 ys ms:=rfl
  have e1:(bz [43]).size=1:=rfl
  rw[qDP,hws]
  unfold qEG
  match k,h2 with
  |0,h2 =>
   obtain⟨t,t1,t2⟩:=qUn it ys ms (mp++[(q:Int)]) 1 (acc++(y++w)) (by rw[h1];simp) (by rw[List.length_append,h2];rfl) (by omega) (fun z hz=>hm z (by simp[hz])) (fun z hz=>hy z (by simp[hz])) (by simp only[ByteArray.size_append];omega)
   rw[show decide (((0:Nat):Int)>0)=false from rfl,cF,oB9,bnd hg,bnd (show qAV [(⟨#[]⟩:bD),(bz [60]),(bz [101]),(bz [42])] (q:Int)=some w from w1),nd (by omega),oB9,nd (by simp only[ByteArray.size_append];omega),oB9]
   refine⟨t,t1,?_⟩
   rw[t2,qHW,qHW,w2,qM4]
   simp only[List.append_assoc]
  |k+1,h2 =>
   obtain⟨t,t1,t2⟩:=qUn it ys ms (mp++[(q:Int)]) (k+2) ((acc++(bz [43]))++(y++w)) (by rw[h1];simp) (by rw[List.length_append,h2];rfl) (by omega) (fun z hz=>hm z (by simp[hz])) (fun z hz=>hy z (by simp[hz])) (by simp only[ByteArray.size_append];omega)
   rw[dT (by omega),cW,nd (by omega),oB9,oB9,bnd hg,bnd (show qAV [(⟨#[]⟩:bD),(bz [60]),(bz [101]),(bz [42])] (q:Int)=some w from w1),nd (by omega),oB9,nd (by simp only[ByteArray.size_append];omega),oB9]
   refine⟨t,t1,?_⟩
   rw[t2,qHW,qHW,qHW,w2,qM4,show toL (bz [43])=[43] from rfl]
   simp only[List.append_assoc,List.cons_append,List.nil_append]
theorem qVG (F:Nat) (hF:1048576<F) (x1:bD×Bool):∀(ys:List bD) (k:Nat) (v:List bD) (u:bE),(∀y∈ys,y.size<=1048576)->v.length+ys.length<=3000->u.length+ys.length<=3000->
  ∃N,N.map toL=ys.map (fun y=>(qGT (toL y)).1)/\qAr F x1 ys k v u=qAr F x1 [] 0 (v++N) (u++ys.map fun y=>((qGT (toL y)).2:Int))
 | [],k,v,u,_,_,_=>⟨[],rfl,by rw[qAr,qAr];simp⟩
 |y::ys,k,v,u,hy,hv,hu=>by
  simp only[List.length_cons]at hv hu
  obtain⟨r,r1,r2⟩:=qVc y (hy y (by simp)) v u (by omega) (by omega) F hF
  obtain⟨N,n1,n2⟩:=qVG F hF x1 ys (k+1) (v++[r]) (u++[((qGT (toL y)).2:Int)]) (fun z hz=>hy z (by simp[hz])) (by simp;omega) (by simp;omega)
  refine⟨r::N,by simp[n1,r2],?_⟩
  have e:qAr F x1 (y::ys) k v u=qAr F x1 ys (k+1) (v++[r]) (u++[((qGT (toL y)).2:Int)]):=by rw[qAr,bnd r1]
  rw[e,n2]
  simp only[List.append_assoc,List.map_cons,List.cons_append,List.nil_append]
theorem qWa (F:Nat) (g:List bD->Nat->List bD->bE->Option (Item×Bool)) (f:bD->List bD->bE->List bD->Nat->Int->Option (List bD×bE)) (g0:∀k k' v u,g [] k v u=g [] k' v u)
  (gs:∀y ys k v u,g (y::ys) k v u=((qEG).bind fun x=>f y v u x 0 0).bind fun (a,b)=>g ys (k+1) a b)
  (hf:∀(y:bD) (v:List bD) (u:bE),y.size<=1048576->v.length<=3000->u.length<=3000->∃r,f y v u qVN 0 0=some (v++[r],u++[((qGT (toL y)).2:Int)])/\toL r=(qGT (toL y)).1):∀(ys:List bD) (k:Nat) (v:List bD) (u:bE),(∀y∈ys,y.size<=1048576)->v.length+ys.length<=3000->u.length+ys.length<=3000->
  ∃N,N.map toL=ys.map (fun y=>(qGT (toL y)).1)/\g ys k v u=g [] 0 (v++N) (u++ys.map fun y=>((qGT (toL y)).2:Int))
 | [],k,v,u,_,_,_=>⟨[],rfl,by rw[g0 k 0];simp⟩
 |y::ys,k,v,u,hy,hv,hu=>by
  simp only[List.length_cons]at hv hu
  obtain⟨r,r1,r2⟩:=hf y v u (hy y (by simp)) (by omega) (by omega)
  obtain⟨N,n1,n2⟩:=qWa F g f g0 gs hf ys (k+1) (v++[r]) (u++[((qGT (toL y)).2:Int)]) (fun z hz=>hy z (by simp[hz])) (by simp;omega) (by simp;omega)
  refine⟨r::N,by simp[n1,r2],?_⟩
  rw[gs]
  unfold qEG
  rw[oB9,bnd (show f y v u [(⟨#[]⟩:bD),(bz [60]),(bz [101]),(bz [42])] 0 0=some (v++[r],u++[((qGT (toL y)).2:Int)]) from r1)]
  dsimp only
  rw[n2]
  simp only[List.append_assoc,List.map_cons,List.cons_append,List.nil_append]
theorem qQu:∀(W N:List bD),N.map toL=W.map (fun y=>(qGT (toL y)).1)->qM1 N (W.map fun y=>((qGT (toL y)).2:Int))=W.map toL
 | [],[],_=>rfl
 | [],_::_,h=>by simp at h
 |_::_,[],h=>by simp at h
 |y::W,n::N,h=>by
  simp only[List.map_cons,List.cons.injEq]at h
  have:=qQu W N h.2
  unfold qM1 at this⊢
  rw[List.map_cons,List.zipWith_cons_cons,this,List.map_cons,h.1,Int.toNat_natCast,qTn]
theorem qTQ (F:Nat) (hF:1048576<F) (s:bD) (late:Bool) (W N:List bD) (hN:N.map toL=W.map (fun y=>(qGT (toL y)).1)) (hW:∀y∈W,y.size<=2000) (hs:toL s=qNZ 43 (W.map toL)++(if late=true then [32,120] else [])) :
  ∃r:Item×Bool,((qEA F (Item.mk N (W.map fun y=>((qGT (toL y)).2:Int)) late)).bind fun x131=>(opt (!(!x131)) default (qH8 (Item.mk N (W.map fun y=>((qGT (toL y)).2:Int)) late))).bind fun x133=>cond ((!x131)||(!decide (x133=s))) (some ((Item.mk [] [] false),false)) (some ((Item.mk N (W.map fun y=>((qGT (toL y)).2:Int)) late),true)))=some r/\
  ((qGs F (Item.mk N (W.map fun y=>((qGT (toL y)).2:Int)) late)).bind fun x116=>cond (!x116) (some ((Item.mk [] [] false),false)) (some ((Item.mk N (W.map fun y=>((qGT (toL y)).2:Int)) late),true)))=some r/\(r.2=true->qGQ r.1/\∀z∈r.1.aj,z.size<=2000):=by
 have hn:∀z∈N,z.size<=2000:=fun z hz=>by
  have:toL z∈W.map (fun y=>(qGT (toL y)).1):=hN▸List.mem_map.2 ⟨z,hz,rfl⟩
  obtain⟨y,hy,e⟩:=List.mem_map.1 this
  have h1:=congrArg List.length (qTn (toL y))
  rw[List.length_append,e,qBP,qBP]at h1
  have:=hW y hy
  omega
 obtain⟨b,b1,b2,b3⟩:=qYH (Item.mk N (W.map fun y=>((qGT (toL y)).2:Int)) late) F hF N 0 (fun z hz=>by have:=hn z hz;omega)
 rw[bnd (show qEA F _=some b from b2),bnd (show qGs F _=some b from b1)]
 cases b
 ·exact⟨_,rfl,rfl,fun h=>by cases h⟩
 ·have hok:=b3 rfl
  obtain⟨t,t1,t2⟩:=qUn (Item.mk N (W.map fun y=>((qGT (toL y)).2:Int)) late) N (W.map fun y=>((qGT (toL y)).2:Int)) [] 0 ⟨#[]⟩ rfl rfl hok.2.symm (fun m hm=>by
   obtain⟨y,_,rfl⟩:=List.mem_map.1 hm
   have:=qXI (toL y);omega) hn (by have:N.length<=3:=hok.1.2;show 0+_<=_;omega)
  have e:t=s:=qGd (by
   rw[t2,qQu W N hN,qXR,hs];rfl)
  rw[Bool.not_true,Bool.not_false,qBx,bnd (show qH8 _=some t from t1),dT e]
  exact⟨_,rfl,rfl,fun _=>⟨hok,hn⟩⟩
theorem qQF {c:UInt8} {s:bD} {W:List bD} (h:W.map toL=qJB c (toL s)):∀y∈W,y.size<=s.size:=fun y hy=>by
 have:=qNv c (toL s) (toL y) (h▸List.mem_map.2 ⟨y,hy,rfl⟩)
 rwa [qBP,qBP]at this
theorem qUU (F:Nat) (hF:4194304<F) (s:bD) (hs:s.size<=2000):∃r:Item×Bool,qHC F s=some r/\qHH F s=some r/\(r.2=true->qGQ r.1/\∀z∈r.1.aj,z.size<=2000):=by
 have hsz:=qBP s
 have hlen:∀(W:List bD) (t:bD),W.map toL=qJB 43 (toL t)->t.size<=2000->W.length<=2001:=fun W t h ht=>by
  have:=congrArg List.length h
  rw[List.length_map,qKu]at this
  have h2:=List.count_le_length (a:=(43:UInt8)) (l:=toL t)
  rw[qBP]at h2
  omega
 unfold qHH
 rcases qaY s (bz [32,120]) (by omega) (by decide) with⟨t,t1,t2⟩|⟨t1,t2⟩
 ·have hl2:=congrArg List.length t2
  rw[List.length_append,qBP,qBP,qBP]at hl2
  have e2:(bz [32,120]).size=2:=rfl
  have ht:t.size=s.size-2:=by omega
  have hn:w64 ((s.size:Int)-2)=((s.size-2:Nat):Int):=by rw[qAD (by omega)];omega
  have hx:ByteArray.extract s (s.size-2) s.size=(bz [32,120]):=qGd (by
   rw[show toL (ByteArray.extract s (s.size-2) s.size)=(toL s).drop (s.size-2) from Go.Lib.extract_to_end s (s.size-2),t2,<-ht,<-qBP t,List.drop_left])
  have hy:ByteArray.extract s 0 (s.size-2)=t:=qGd (by
   rw[show toL (ByteArray.extract s 0 (s.size-2))=((toL s).drop 0).take (s.size-2-0) from Go.Lib.extract_data s 0 (s.size-2),List.drop_zero,Nat.sub_zero,t2,<-ht,<-qBP t,List.take_left])
  obtain⟨W,w1,w2,w3⟩:=qOO t (by omega) 43 F hF
  have hW:=qQF w3
  have hWl:=hlen W t w3 (by omega)
  obtain⟨N,n1,n2⟩:=qVG F (by omega) (t,true) W 0 [] [] (fun y hy=>by have:=hW y hy;omega) (by simp;omega) (by simp;omega)
  obtain⟨N',m1,m2⟩:=qWa F (qCF s F) (fun y v u=>qCG y v u) (fun k k' v u=>by rw[qCF,qCF]) (fun y ys k v u=>by rw[qCF]) (fun y v u a b c=>qSI (qCG y v u) y a v u b c (fun k m=>by rw[qCG]) (fun z zs k m=>by rw[qCG])) W 0 [] [] (fun y hy=>by have:=hW y hy;omega) (by simp;omega) (by simp;omega)
  obtain rfl:N=N':=qHU (n1.trans m1.symm)
  obtain⟨r,r1,r2,r3⟩:=qTQ F (by omega) s true W N n1 (fun y hy=>by have:=hW y hy;omega) (by rw[t2,w3,qLB];rfl)
  refine⟨r,?_,?_,r3⟩
  ·unfold qHC
   rw[dT (show (s.size:Int)>=2 by omega),qBx,hn,show inB ((s.size-2:Nat):Int) s.size s.size=true from by unfold inB;simp,qC2,oB9,Int.toNat_natCast,hx,dT rfl,Bool.and_self,cW,show inB 0 ((s.size-2:Nat):Int) s.size=true from by unfold inB;simp,qC2,oB9,hy,bnd (show qA8 F t 43=some W from w1),m2,qCF]
   exact r1
  ·rw[bnd t1,bnd w2,n2,qAr]
   exact r2
 ·obtain⟨W,w1,w2,w3⟩:=qOO s (by omega) 43 F hF
  have hW:=qQF w3
  have hWl:=hlen W s w3 (by omega)
  obtain⟨N,n1,n2⟩:=qVG F (by omega) (s,false) W 0 [] [] (fun y hy=>by have:=hW y hy;omega) (by simp;omega) (by simp;omega)
  obtain⟨N',m1,m2⟩:=qWa F (qCK s F) (fun y v u=>qCO y v u) (fun k k' v u=>by rw[qCK,qCK]) (fun y ys k v u=>by rw[qCK]) (fun y v u a b c=>qSI (qCO y v u) y a v u b c (fun k m=>by rw[qCO]) (fun z zs k m=>by rw[qCO])) W 0 [] [] (fun y hy=>by have:=hW y hy;omega) (by simp;omega) (by simp;omega)
  obtain rfl:N=N':=qHU (n1.trans m1.symm)
  obtain⟨r,r1,r2,r3⟩:=qTQ F (by omega) s false W N n1 (fun y hy=>by have:=hW y hy;omega) (by rw[w3,qLB];simp)
  refine⟨r,?_,?_,r3⟩
  ·unfold qHC
   have hno:(decide ((s.size:Int)>=2)&&decide ((ByteArray.extract s (w64 ((s.size:Int)-2)).toNat s.size)=(bz [32,120])))=false:=by
    by_cases h2:(s.size:Int)>=2
    ·have hn:w64 ((s.size:Int)-2)=((s.size-2:Nat):Int):=by rw[qAD (by omega)];omega
     rw[hn,Int.toNat_natCast,dT h2,Bool.true_and]
     refine dF fun e=>t1 ((toL s).take (s.size-2)) ?_
     have:=congrArg toL e
     rw[show toL (ByteArray.extract s (s.size-2) s.size)=(toL s).drop (s.size-2) from Go.Lib.extract_to_end s (s.size-2)]at this
     rw[<-this,List.take_append_drop]
    ·rw[dF h2,Bool.false_and]
   have hop:(opt (decide ((s.size:Int)>=2)) default (qAl (inB (w64 ((s.size:Int)-2)) s.size s.size)))=some ():=by
    by_cases h2:(s.size:Int)>=2
    ·have hn:w64 ((s.size:Int)-2)=((s.size-2:Nat):Int):=by rw[qAD (by omega)];omega
     rw[dT h2,qBx,hn,show inB ((s.size-2:Nat):Int) s.size s.size=true from by unfold inB;simp];rfl
    ·rw[dF h2];rfl
   rw[hop,oB9,hno,cF,bnd (show qA8 F s 43=some W from w1),m2,qCK]
   exact r1
  ·rw[bnd t2,bnd w2,n2,qAr]
   exact r2
end
section
theorem qXk {F:Nat} (hF:4194304<F) {S:ScriptState} (h:SGood F S) (t:bD) (ht:t.size<=2000):Alike F S (qAv F S t) (fun x=>qCT F x t):=by
 have hF':1048576<F:=by omega
 obtain⟨r,r1,r2,r3⟩:=qUU F hF t ht
 have hP:=h.aD.perf hF'
 have h14:=hP.2.1.1
 obtain⟨j,hj,hjl,_⟩:=qOd h.aD.mg
 cases hr:r.2
 ·refine Alike.stay h (bz [110,111]) (by show (2:Nat)<=_;omega) ?_ (fun no wh ln=>?_)
  ·unfold qAv
   rw[bnd r2,hr];rfl
  ·show qCT F (cs S no wh ln) t=_
   unfold qCT
   rw[bnd r1,hr];rfl
 obtain⟨o1,o2⟩:=r3 hr
 have hz:(List.replicate ((j.length:Int)).toNat (0:Int))=List.replicate j.length 0:=by rw[Int.toNat_natCast]
 have hb:qXF (S.aa.ai++[r.1]):=fun it hi s hs=>by
  rcases List.mem_append.1 hi with hi|hi
  ·exact h.aD.nb it hi s hs
  ·rw[List.mem_singleton.1 hi]at hs
   have:=o2 s hs;omega
 obtain⟨b,b1,b2,b3⟩:=qZm hF' (c:=S.ag) (p:=Performance.mk (S.aa.ai++[r.1]) (Marks.mk (S.aa.ae.ah++[List.replicate j.length 0]) S.aa.ae.ac) S.aa.af) h.aD.nc hb
 have hlg:=h.aD.mg.1
 have hi0:qAv F S t=some (bif b then (ScriptState.mk S.ag (Performance.mk (S.aa.ai++[r.1]) (Marks.mk (S.aa.ae.ah++[List.replicate j.length 0]) S.aa.ae.ac) S.aa.af) S.am S.ak,(bz [111,107])) else (S,(bz [110,111]))):=by
  unfold qAv
  rw[bnd r2,hr,Bool.not_true,cF,bnd (qKo hP.2.1).2,ndf (by omega) (by simp;omega),oB9,bnd (qJN h.aD.mg).2]
  unfold qA6
  rw[bnd hj,oB9,show qAl (decide (0<=(j.length:Int))&&qAg 8 ((j.length:Int)).toNat)=some () from by rw[Int.toNat_natCast,dT (by omega),qSx (by omega) (by omega)];rfl,oB9,hz,ndf (by omega) (by simp;omega),oB9,bnd b2]
  cases b<;>rfl
 have hs1:∀no wh ln,qCT F (cs S no wh ln) t=some (bif b then (CsState.mk S.ag (Performance.mk (S.aa.ai++[r.1]) (Marks.mk (S.aa.ae.ah++[List.replicate j.length 0]) S.aa.ae.ac) S.aa.af) S.am S.ak no wh ln,(bz [111,107])) else (cs S no wh ln,(bz [110,111]))):=fun no wh ln=>by
  unfold qCT
  rw[bnd r1,hr,Bool.not_true,Bool.false_or]
  by_cases h15:S.aa.ai.length=14
  ·have:b=false:=by
    cases b
    ·rfl
    ·have:=(((b3 rfl).perf hF').2.1).1
     simp only[List.length_append,List.length_singleton]at this
     omega
   rw[show (((cs S no wh ln).p.ai.length:Int)==14)=true from by show ((S.aa.ai.length:Int)==14)=true;rw[h15];rfl,this]
   rfl
  ·rw[show (((cs S no wh ln).p.ai.length:Int)==14)=false from beq_eq_false_iff_ne.2 (by show ¬(S.aa.ai.length:Int)=14;omega),cF]
   have hi2:qEe (S.aa.ai++[r.1]):=⟨by simp;omega,fun it hi=>by
    rcases List.mem_append.1 hi with hi|hi
    ·exact hP.2.1.2 it hi
    ·rw[List.mem_singleton.1 hi];exact o1⟩
   rw[show qHd (cs S no wh ln).p.ai=some S.aa.ai from(qKo hP.2.1).1,oB9,ndf (by omega) (by simp;omega),oB9]
   have hw:qAZ (cs S no wh ln).p (S.aa.ai++[r.1])=some (Performance.mk (S.aa.ai++[r.1]) S.aa.ae S.aa.af):=by
    unfold qAZ
    rw[bnd (qKo hi2).1,show qFq (cs S no wh ln).p.ae=some S.aa.ae from(qJN h.aD.mg).1]
    rfl
   rw[bnd hw]
   unfold qEY
   rw[bnd hj,oB9,show qAl (decide (0<=(j.length:Int))&&qAg 8 ((j.length:Int)).toNat)=some () from by rw[Int.toNat_natCast,dT (by omega),qSx (by omega) (by omega)];rfl,oB9,hz,ndf (by omega) (by simp;omega),oB9,bnd (qK8 (show qBk F (cs S no wh ln).ag _=some b from b1))]
   cases b<;>rfl
 cases b
 ·exact Alike.stay h _ (by show (2:Nat)<=_;omega) hi0 hs1
 ·exact⟨_,_,hi0,hs1,⟨b3 rfl,h.fac,h.aK⟩,by show (2:Nat)<=_;omega⟩
theorem qRW (F:Nat) (hF:100<F) (W:List bD) (sg:Bool) (hW:W.length<=2500):∀(ys:List bD) (k:Nat) (v:bE),k+ys.length=W.length->(∀y∈ys,y.size<=1048576)->v.length+ys.length<=2500->∃L ok,qAX W sg F ys k v=some (L,ok)/\(ok=true->L.length=v.length+ys.length)
 | [],k,v,_,_,_=>⟨v,true,by rw[qAX],fun _=>by simp⟩
 |y::ys,k,v,hk,hy,hv=>by
  simp only[List.length_cons]at hk hv⊢
  rcases qTL F hF W sg y (hy y (by simp)) ys k v (by omega) (by omega) with⟨n,_,e⟩|⟨_,_,e⟩|h
  ·obtain⟨L,ok,e1,e2⟩:=qRW F hF W sg hW ys (k+1) (v++[n]) (by omega) (fun z hz=>hy z (by simp[hz])) (by simp;omega)
   exact⟨L,ok,e.trans e1,fun h=>by rw[e2 h];simp;omega⟩
  ·exact⟨[],false,e,fun h=>by cases h⟩
  ·omega
def whatB:bD:=(bz [119,104,97,116])
theorem qOe (F:Nat) (hF:100<F) (x:CsState) (t w0:bD) (ws:List bD) (hsp:qA8 F t 32=some (w0::ws)) (hl:ws.length<=2400) (hw:∀y∈ws,y.size<=1048576) (h0:ws≠[]) (hi:w0≠(bz [105,116,101,109])) (hc:w0≠(bz [99,97,108,108]))
  (he:w0≠(bz [101,108,101,109,101,110,116])) (a:Int) (ha:qFE w0=some a) (hne:(ws.length:Int)≠a):qAB F x t=some (x,whatB):=by
 have hpos:0<ws.length:=List.length_pos_iff.2 h0
 unfold qAB
 rw[bnd hsp,show (((w0::ws).length:Int)==1)=false from beq_eq_false_iff_ne.2 (by simp only[List.length_cons];omega),cF,show qAV (w0::ws) 0=some w0 from rfl,oB9,dF hi,cF,dF hc,cF,dF he,cF]
 rw[show qCq (w0::ws) 1=some ws from by unfold qCq;rw[if_pos (by simp only[List.length_cons];omega)];rfl,oB9]
 obtain⟨L,ok,e1,e2⟩:=qRW F hF ws (decide (w0=(bz [103,114,97,100,101]))) (by omega) ws 0 [] (by omega) hw (by simp;omega)
 rw[bnd (show qCy F ws (decide (w0=(bz [103,114,97,100,101])))=some (L,ok) from e1)]
 cases ok
 ·rfl
 ·have:=e2 rfl
  simp only[List.length_nil,Nat.zero_add]at this
  simp only[Bool.not_true,Bool.not_false,qBx,Bool.false_or]
  rw[bnd ha,show ((L.length:Int) != a)=true from by rw[bne_iff_ne,this];exact hne,cW]
  rfl
theorem qKQ (F:Nat) (x:CsState) (t:bD) (hsp:qA8 F t 32=some [t]):qAB F x t=(qAY F x t).bind fun x3=>some (x3.1,x3.2):=by
 unfold qAB
 rw[bnd hsp];rfl
theorem qSB (F:Nat) (x:CsState) (t w0:bD) (ws:List bD) (hsp:qA8 F t 32=some (w0::ws)) (h0:ws≠[]) (hi:w0≠(bz [105,116,101,109])) (hc:w0≠(bz [99,97,108,108])) (he:w0≠(bz [101,108,101,109,101,110,116])) (L:bE) (ok:Bool) (sg:Bool) (hsg:decide (w0=(bz [103,114,97,100,101]))=sg)
  (hn:qCy F ws sg=some (L,ok)) (a:Int) (ha:qFE w0=some a) (hla:ok=true->(L.length:Int)=a):qAB F x t=cond ok ((qAI F x w0 L).bind fun x32=>some (x32.1,x32.2)) (some (x,whatB)):=by
 have hpos:0<ws.length:=List.length_pos_iff.2 h0
 unfold qAB
 rw[bnd hsp,show (((w0::ws).length:Int)==1)=false from beq_eq_false_iff_ne.2 (by simp only[List.length_cons];omega),cF,show qAV (w0::ws) 0=some w0 from rfl,oB9,dF hi,cF,dF hc,cF,dF he,cF]
 rw[show qCq (w0::ws) 1=some ws from by unfold qCq;rw[if_pos (by simp only[List.length_cons];omega)];rfl,oB9,hsg,bnd hn]
 cases ok
 ·rfl
 ·simp only[Bool.not_true,Bool.not_false,qBx,Bool.false_or]
  rw[bnd ha,show ((L.length:Int) != a)=false from by rw[bne,hla rfl];simp]
  rfl
theorem qLf (F:Nat) (S:ScriptState) (t w0:bD) (ws:List bD) (hp:qBo t (bz [105,116,101,109,32])=some (t,false)) (hsp:qCA t (bz [32])=some (w0::ws)) (hl:ws.length<=2400) (f:bD) (kn:Bool) (hf:qF3 w0=some (f,kn)) :
  qAT F S t=cond (kn&&((f.size:Int)==(ws.length:Int))) (qAA S F (w0::ws) w0 (f,kn) ws 0 []) (some (S,whatB)):=by
 unfold qAT
 rw[bnd hp]
 dsimp only
 rw[cF,bnd hsp,show qAV (w0::ws) 0=some w0 from rfl,oB9,bnd hf]
 dsimp only
 rw[show w64 (((w0::ws).length:Int)-1)=(ws.length:Int) from by simp only[List.length_cons];rw[qAD (by omega)];omega,show qCq (w0::ws) 1=some ws from by unfold qCq;rw[if_pos (by simp only[List.length_cons];omega)];rfl,oB9]
 cases kn
 ·rfl
 ·cases hq:((f.size:Int)==(ws.length:Int))
  ·rw[show ((f.size:Int) != (ws.length:Int))=true from by rw[bne,hq];rfl];rfl
  ·rw[show ((f.size:Int) != (ws.length:Int))=false from by rw[bne,hq];rfl];rfl
structure LnW (F:Nat) (t w0:bD) (ws:List bD):Prop where
 sp:qA8 F t 32=some (w0::ws)
 im:qCA t (bz [32])=some (w0::ws)
 np:qBo t (bz [105,116,101,109,32])=some (t,false)
 ln:ws.length<=2400
 sz:∀y∈ws,y.size<=1048576
 ni:ws≠[]->w0≠(bz [105,116,101,109])
 al:ws=[]->t=w0
theorem qH7 {F:Nat} (hF:4194304<F) {S:ScriptState} (h:SGood F S) {t w0:bD} {ws:List bD} (hL:LnW F t w0 ws) (hc:w0≠(bz [99,97,108,108])) (hit:w0≠(bz [105,116,101,109])) (he:w0≠(bz [101,108,101,109,101,110,116]))
  (f:bD) (hf:qF3 w0=some (f,true)) (ha:qFE w0=some (f.size:Int)) (hf0:0<f.size) (sg:Bool) (hsg:decide (w0=(bz [103,114,97,100,101]))=sg) (hform:∀i:Nat,i<f.size->qNC f (i:Int)=some (if sg=true/\i+1=f.size then (103:UInt8) else 110))
  (hal:∀x,qAY F x w0=some (x,whatB)) (g:bE->Option (ScriptState×bD)) (hg:∀v,qAA S F (w0::ws) w0 (f,true) [] (ws.length+0) v=(g v).bind fun x=>some (x.1,x.2))
  (hcmd:∀L:bE,L.length=f.size->(sg=false->∀n∈L,0<=n)->Alike F S (g L) (fun x=>qAI F x w0 L)):Alike F S (qAT F S t) (fun x=>qAB F x t):=by
 have hw:whatB.size=4:=rfl
 rw[qLf F S t w0 ws hL.np hL.im hL.ln f true hf]
 by_cases h0:ws=[]
 ·have:=hL.al h0
  subst this h0
  refine Alike.stay h whatB (by omega) ?_ (fun no wh ln=>?_)
  ·rw[show ((f.size:Int)==(([]:List bD).length:Int))=false from beq_eq_false_iff_ne.2 (by show ¬(f.size:Int)=0;omega)];rfl
  ·show qAB F (cs S no wh ln) t=_
   rw[qKQ F _ t hL.sp,hal];rfl
 by_cases hn:ws.length=f.size
 ·rw[show ((f.size:Int)==(ws.length:Int))=true from beq_iff_eq.2 (by omega),Bool.true_and,cW]
  rcases qPq F (by omega) S (w0::ws) w0 (f,true) sg ws [] 0 (by have:=hL.ln;omega) (fun i hi=>by rw[hn];exact hform i (by omega)) ws 0 [] [] (by omega) hL.sz (by have:=hL.ln;simp;omega) (by have:=hL.ln;simp;omega) with⟨L,l1,l2,l3,l4,l5⟩|⟨l4,l5⟩
  ·rw[List.append_nil,List.nil_append]at l5
   rw[List.nil_append]at l4
   rw[show (0:Nat)=0+0 from rfl,l5,hg]
   obtain⟨S',r,c1,c2,c3,c4⟩:=hcmd L (by omega) l3
   refine⟨S',r,by rw[bnd c1],fun no wh ln=>?_,c3,c4⟩
   show qAB F (cs S no wh ln) t=_
   rw[qSB F _ t w0 ws hL.sp h0 hit hc he L true sg hsg l4 _ ha (fun _=>by omega),cW,bnd (c2 no wh ln)]
  ·rw[List.append_nil]at l5
   refine Alike.stay h whatB (by omega) l5 (fun no wh ln=>?_)
   show qAB F (cs S no wh ln) t=_
   rw[qSB F _ t w0 ws hL.sp h0 hit hc he [] false sg hsg l4 _ ha (fun h=>by cases h)];rfl
 ·refine Alike.stay h whatB (by omega) ?_ (fun no wh ln=>qOe F (by omega) _ t w0 ws hL.sp hL.ln hL.sz h0 hit hc he _ ha (by omega))
  rw[show ((f.size:Int)==(ws.length:Int))=false from beq_eq_false_iff_ne.2 (by omega)];rfl
theorem qIR {F:Nat} (hF:4194304<F) {S:ScriptState} (h:SGood F S) {t w0:bD} {ws:List bD} (hL:LnW F t w0 ws) (hc:w0≠(bz [99,97,108,108])) (hit:w0≠(bz [105,116,101,109])) (he:w0≠(bz [101,108,101,109,101,110,116]))
  (hf:qF3 w0=some (⟨#[]⟩,true)) (ha:qFE w0=some 0) (g:Option (ScriptState×bD)) (hg:qAA S F [w0] w0 (⟨#[]⟩,true) [] 0 []=g.bind fun x=>some (x.1,x.2))
  (hcmd:Alike F S g (fun x=>qAY F x w0)):Alike F S (qAT F S t) (fun x=>qAB F x t):=by
 have hw:whatB.size=4:=rfl
 rw[qLf F S t w0 ws hL.np hL.im hL.ln ⟨#[]⟩ true hf]
 by_cases h0:ws=[]
 ·have:=hL.al h0
  subst this h0
  obtain⟨S',r,c1,c2,c3,c4⟩:=hcmd
  refine⟨S',r,?_,fun no wh ln=>?_,c3,c4⟩
  ·show qAA S F [t] t (⟨#[]⟩,true) [] 0 []=_
   rw[hg,bnd c1]
  ·show qAB F (cs S no wh ln) t=_
   rw[qKQ F _ t hL.sp]
   exact bnd (c2 no wh ln)
 ·have hpos:0<ws.length:=List.length_pos_iff.2 h0
  refine Alike.stay h whatB (by omega) ?_ (fun no wh ln=>qOe F (by omega) _ t w0 ws hL.sp hL.ln hL.sz h0 hit hc he _ ha (by omega))
  rw[show (((⟨#[]⟩:bD).size:Int)==(ws.length:Int))=false from beq_eq_false_iff_ne.2 (by show ¬(0:Int)=_;omega)];rfl
end
section
theorem qWF {F:Nat} (hF:4194304<F) {S:ScriptState} (h:SGood F S) {t:bD} {ws:List bD} (hL:LnW F t (bz [99,97,108,108]) ws):Alike F S (qAT F S t) (fun x=>qAB F x t):=by
 have hF':1048576<F:=by omega
 have hw:whatB.size=4:=rfl
 rw[qLf F S t _ ws hL.np hL.im hL.ln (bz [110,110,109]) true rfl]
 by_cases h0:ws=[]
 ·have:=hL.al h0
  subst this h0
  refine Alike.stay h whatB (by omega) rfl (fun no wh ln=>?_)
  show qAB F (cs S no wh ln) _=_
  rw[qKQ F _ _ hL.sp];rfl
 have hpos:0<ws.length:=List.length_pos_iff.2 h0
 have hs0:∀x,qAB F x t=(qBu F x ws).bind fun x15=>some (x15.1,x15.2):=fun x=>by
  unfold qAB
  rw[bnd hL.sp,show ((((bz [99,97,108,108])::ws).length:Int)==1)=false from beq_eq_false_iff_ne.2 (by simp only[List.length_cons];omega),cF,show qAV ((bz [99,97,108,108])::ws) 0=some (bz [99,97,108,108]) from rfl,oB9,show decide ((bz [99,97,108,108])=(bz [105,116,101,109]))=false from rfl,cF,dT rfl,cW]
  rw[show qCq ((bz [99,97,108,108])::ws) 1=some ws from by unfold qCq;rw[if_pos (by simp only[List.length_cons];omega)];rfl,oB9]
 by_cases hn:ws.length=3
 ·match ws,hn with
  | [a,b,c],_ =>
   have hab:∀y∈[a,b],y.size<=1048576:=fun y hy=>hL.sz y (by simp only[List.mem_cons,List.not_mem_nil,or_false]at hy⊢;rcases hy with rfl|rfl<;>simp)
   have hsc:∀x L ok,qCy F [a,b] false=some (L,ok)->qBu F x [a,b,c]=qAM x [a,b,c] F (L,ok) qOW 0:=fun x L ok e=>by
    unfold qBu
    rw[show ((([a,b,c]:List bD).length:Int) != 3)=false from rfl,cF,show qFT [a,b,c] 2=some [a,b] from rfl,oB9,bnd e];rfl
   rw[show (((bz [110,110,109]).size:Int)==(([a,b,c]:List bD).length:Int))=true from rfl,Bool.true_and,cW]
   rcases qPq F (by omega) S [(bz [99,97,108,108]),a,b,c] (bz [99,97,108,108]) ((bz [110,110,109]),true) false [a,b] [c] 0 (by simp) (fun i hi=>by
     have:i=0\/i=1:=by simp at hi;omega
     rcases this with rfl|rfl<;>rfl) [a,b] 0 [] [] rfl hab (by simp) (by simp) with⟨L,l1,l2,l3,l4,l5⟩|⟨l4,l5⟩
   ·obtain⟨n,m,rfl⟩:=qXt l1
    rw[List.nil_append]at l4 l5
    rw[show qAA S F [(bz [99,97,108,108]),a,b,c] (bz [99,97,108,108]) ((bz [110,110,109]),true) [a,b,c] 0 []=_ from l5]
    have st:∀x,qAB F x t=(qAM x [a,b,c] F ([n,m],true) qOW 0).bind fun x15=>some (x15.1,x15.2):=fun x=>by rw[hs0,hsc x _ _ l4]
    have si:qAA S F [(bz [99,97,108,108]),a,b,c] (bz [99,97,108,108]) ((bz [110,110,109]),true) [c] ([a,b].length+0) [n,m]=(qAW c qOW 0).bind fun x7=>cond (!(decide (x7>=0))) (some (S,(bz [119,104,97,116]))) ((qAH F S (bz [99,97,108,108]) [n,m,x7]).bind fun x=>some (x.1,x.2)):=by
     rw[qAA,show qNC (bz [110,110,109]) (([a,b].length+0:Nat):Int)=some 109 from rfl,oB9]
     unfold qCt
     rw[show ((((109:UInt8).toNat:Int))==110)=false from rfl,cF,show ((((109:UInt8).toNat:Int))==103)=false from rfl,cF,show ((((109:UInt8).toNat:Int))==109)=true from rfl,cW]
     show ((qAW c qOW 0).bind fun x7=>some (x7,decide (x7>=0))).bind _=_
     cases qAW c qOW 0 with
     |none=>rfl
     |some x7 =>
      rw[oB9,oB9,oB9]
      cases hd:decide (x7>=0)
      ·rfl
      ·dsimp only
       rw[Bool.not_true,cF,cF,ndf (by omega) (by simp),oB9,qAA]
       rfl
    have fin:∀q:Int,0<=q/\q<=3->qAW c qOW 0=some q->(∀x,qAM x [a,b,c] F ([n,m],true) qOW 0=(qDK F x [n,m] q).bind fun x24=>some (x24.1,x24.2))->Alike F S ((qAW c qOW 0).bind fun x7=>cond (!(decide (x7>=0))) (some (S,(bz [119,104,97,116]))) ((qAH F S (bz [99,97,108,108]) [n,m,x7]).bind fun x=>some (x.1,x.2))) (fun x=>qAB F x t):=fun q hq e1 e2=>by
     obtain⟨S',r,c1,c2,c3,c4⟩:=qWr hF' h n m q hq
     refine⟨S',r,?_,fun no wh ln=>?_,c3,c4⟩
     ·rw[bnd e1,dT hq.1,Bool.not_true,cF,bnd c1]
     ·show qAB F (cs S no wh ln) t=_
      rw[st,e2,bnd (c2 no wh ln)];rfl
    rw[si]
    have i1:∀(y:bD) ys k,qAW c (y::ys) k=if c=y then some (k:Int) else qAW c ys (k+1):=fun y ys k=>by
     rw[qAW]
     by_cases hc:c=y
     ·rw[dT hc,if_pos hc];rfl
     ·rw[dF hc,if_neg hc];rfl
    have s1:∀x (y:bD) ys k,qAM x [a,b,c] F ([n,m],true) (y::ys) k=if c=y then (qDK F x [n,m] (k:Int)).bind fun x24=>some (x24.1,x24.2) else qAM x [a,b,c] F ([n,m],true) ys (k+1):=fun x y ys k=>by
     rw[qAM,qBx,show qAV [a,b,c] 2=some c from rfl,oB9,Bool.true_and]
     by_cases hc:c=y
     ·rw[dT hc.symm,if_pos hc];rfl
     ·rw[dF (fun e=>hc e.symm),if_neg hc];rfl
    unfold qOW at *
    by_cases c0:c=(bz [110,111,110,101])
    ·exact fin 0 (by omega) (by rw[i1,if_pos c0];rfl) (fun x=>by rw[s1,if_pos c0];rfl)
    by_cases c1:c=(bz [100,111,119,110])
    ·exact fin 1 (by omega) (by rw[i1,if_neg c0,i1,if_pos c1];rfl) (fun x=>by rw[s1,if_neg c0,s1,if_pos c1];rfl)
    by_cases c2:c=(bz [101,100,103,101])
    ·exact fin 2 (by omega) (by rw[i1,if_neg c0,i1,if_neg c1,i1,if_pos c2];rfl) (fun x=>by rw[s1,if_neg c0,s1,if_neg c1,s1,if_pos c2];rfl)
    by_cases c3:c=(bz [118,111,105,100])
    ·exact fin 3 (by omega) (by rw[i1,if_neg c0,i1,if_neg c1,i1,if_neg c2,i1,if_pos c3];rfl) (fun x=>by rw[s1,if_neg c0,s1,if_neg c1,s1,if_neg c2,s1,if_pos c3];rfl)
    refine Alike.stay h whatB (by omega) ?_ (fun no wh ln=>?_)
    ·rw[i1,if_neg c0,i1,if_neg c1,i1,if_neg c2,i1,if_neg c3,qAW];rfl
    ·show qAB F (cs S no wh ln) t=_
     rw[st,s1,if_neg c0,s1,if_neg c1,s1,if_neg c2,s1,if_neg c3,qAM];rfl
   ·refine Alike.stay h whatB (by omega) l5 (fun no wh ln=>?_)
    show qAB F (cs S no wh ln) t=_
    rw[hs0,hsc _ _ _ l4]
    unfold qOW
    have s1:∀x (y:bD) ys k,qAM x [a,b,c] F ([],false) (y::ys) k=qAM x [a,b,c] F ([],false) ys (k+1):=fun x y ys k=>by
     rw[qAM,qDW,oB9,Bool.false_and,cF]
    rw[s1,s1,s1,s1,qAM];rfl
 ·refine Alike.stay h whatB (by omega) ?_ (fun no wh ln=>?_)
  ·rw[show (((bz [110,110,109]).size:Int)==(ws.length:Int))=false from beq_eq_false_iff_ne.2 (by show ¬(3:Int)=_;omega)];rfl
  ·show qAB F (cs S no wh ln) t=_
   rw[hs0]
   unfold qBu
   rw[show ((ws.length:Int) != 3)=true from by rw[bne_iff_ne];omega];rfl
theorem qSY {F:Nat} (hF:4194304<F) {S:ScriptState} (h:SGood F S) {t:bD} {ws:List bD} (hL:LnW F t (bz [101,108,101,109,101,110,116]) ws):Alike F S (qAT F S t) (fun x=>qAB F x t):=by
 have hF':1048576<F:=by omega
 have hw:whatB.size=4:=rfl
 rw[qLf F S t _ ws hL.np hL.im hL.ln (bz [119,110,110,110]) true rfl]
 by_cases h0:ws=[]
 ·have:=hL.al h0
  subst this h0
  refine Alike.stay h whatB (by omega) rfl (fun no wh ln=>?_)
  show qAB F (cs S no wh ln) _=_
  rw[qKQ F _ _ hL.sp];rfl
 match ws,hL,h0 with
 |nm::rs,hL,_ =>
  have hln:=hL.ln
  simp only[List.length_cons]at hln
  have hs0:∀x L ok,qCy F rs false=some (L,ok)->qAB F x t=cond ((!ok)||((L.length:Int) != 3)) (some (x,whatB)) ((qDG F x nm L).bind fun x24=>some (x24.1,x24.2)):=fun x L ok e=>by
   unfold qAB
   rw[bnd hL.sp,show ((((bz [101,108,101,109,101,110,116])::nm::rs).length:Int)==1)=false from beq_eq_false_iff_ne.2 (by simp only[List.length_cons];omega),cF,show qAV ((bz [101,108,101,109,101,110,116])::nm::rs) 0=some (bz [101,108,101,109,101,110,116]) from rfl,oB9,show decide ((bz [101,108,101,109,101,110,116])=(bz [105,116,101,109]))=false from rfl,cF,show decide ((bz [101,108,101,109,101,110,116])=(bz [99,97,108,108]))=false from rfl,cF,dT rfl,cW]
   rw[show qCq ((bz [101,108,101,109,101,110,116])::nm::rs) 2=some rs from by unfold qCq;rw[if_pos (by simp only[List.length_cons];omega)];rfl,oB9,bnd e]
   rfl
  by_cases hn:rs.length=3
  ·rw[show (((bz [119,110,110,110]).size:Int)==((nm::rs).length:Int))=true from beq_iff_eq.2 (by simp only[List.length_cons];show (4:Int)=_;omega),Bool.true_and,cW]
   have si:qAA S F ((bz [101,108,101,109,101,110,116])::nm::rs) (bz [101,108,101,109,101,110,116]) ((bz [119,110,110,110]),true) (nm::rs) 0 []=qAA S F ((bz [101,108,101,109,101,110,116])::nm::rs) (bz [101,108,101,109,101,110,116]) ((bz [119,110,110,110]),true) (rs++[]) (0+1) [0]:=by
    rw[qAA,show qNC (bz [119,110,110,110]) ((0:Nat):Int)=some 119 from rfl,oB9,List.append_nil];rfl
   rw[si]
   rcases qPq F (by omega) S ((bz [101,108,101,109,101,110,116])::nm::rs) (bz [101,108,101,109,101,110,116]) ((bz [119,110,110,110]),true) false rs [] 1 (by omega) (fun i hi=>by
     have:i=0\/i=1\/i=2:=by omega
     rcases this with rfl|rfl|rfl<;>rfl) rs 0 [] [0] (by omega) (fun y hy=>hL.sz y (by simp[hy])) (by simp;omega) (by simp;omega) with⟨L,l1,l2,l3,l4,l5⟩|⟨l4,l5⟩
   ·obtain⟨a,b,c,rfl⟩:=qPN (l1.trans hn)
    rw[List.nil_append]at l4
    rw[l5]
    obtain⟨r,r1,r2,r3⟩:=qPn hF' h.aD (Element.mk nm a b c) (hL.sz nm (by simp))
    have hi0:qAA S F ((bz [101,108,101,109,101,110,116])::nm::rs) (bz [101,108,101,109,101,110,116]) ((bz [119,110,110,110]),true) [] (rs.length+1) ([0]++[a,b,c])=some (bif r.2 then (ScriptState.mk r.1 S.aa S.am S.ak,(bz [111,107])) else (S,(bz [110,111]))):=by
     rw[qAA]
     show ((qFY F S.ag (Element.mk nm a b c)).bind fun x43=>(qAc S x43.1 x43.2).bind fun x45=>some (x45.1,x45.2))=_
     rw[bnd r2,bnd (qOf S r.1 r.2)]
    have hs1:∀no wh ln,qAB F (cs S no wh ln) t=some (bif r.2 then (CsState.mk r.1 S.aa S.am S.ak no wh ln,(bz [111,107])) else (cs S no wh ln,(bz [110,111]))):=fun no wh ln=>by
     rw[hs0 _ _ _ l4]
     show ((qDG F (cs S no wh ln) nm [a,b,c]).bind fun x24=>some (x24.1,x24.2))=_
     unfold qDG
     rw[show qAV [a,b,c] 0=some a from rfl,oB9,show qAV [a,b,c] 1=some b from rfl,oB9,show qAV [a,b,c] 2=some c from rfl,oB9,show qFZ F (cs S no wh ln).ag (Element.mk nm a b c)=some r from r1,oB9]
     cases hr:r.2
     ·rfl
     ·rw[Bool.not_true,cF,bnd (qK8 (show qBk F r.1 (cs S no wh ln).p=some true from(r3 hr).2))];rfl
    cases hr:r.2
    ·rw[hr]at hi0 hs1
     exact Alike.stay h _ (by show (2:Nat)<=_;omega) hi0 hs1
    ·rw[hr]at hi0 hs1
     exact⟨_,_,hi0,hs1,⟨(r3 hr).1,h.fac,h.aK⟩,by show (2:Nat)<=_;omega⟩
   ·refine Alike.stay h whatB (by omega) l5 (fun no wh ln=>?_)
    show qAB F (cs S no wh ln) t=_
    rw[hs0 _ _ _ l4];rfl
  ·refine Alike.stay h whatB (by omega) ?_ (fun no wh ln=>?_)
   ·rw[show (((bz [119,110,110,110]).size:Int)==((nm::rs).length:Int))=false from beq_eq_false_iff_ne.2 (by simp only[List.length_cons];show ¬(4:Int)=_;omega)];rfl
   ·show qAB F (cs S no wh ln) t=_
    obtain⟨L,ok,e1,e2⟩:=qRW F (by omega) rs false (by omega) rs 0 [] (by omega) (fun y hy=>hL.sz y (by simp[hy])) (by simp;omega)
    rw[hs0 _ _ _ e1]
    cases ok
    ·rfl
    ·have:=e2 rfl
     simp only[List.length_nil,Nat.zero_add]at this
     rw[show ((L.length:Int) != 3)=true from by rw[bne_iff_ne];omega];rfl
theorem qRv {F:Nat} (hF:4194304<F) {S:ScriptState} (h:SGood F S) (t:bD) (ht:t.size<=2000):Alike F S (qAT F S t) (fun x=>qAB F x t):=by
 have hF':1048576<F:=by omega
 have hw:whatB.size=4:=rfl
 obtain⟨W,w1,w2,w3⟩:=qOO t (by omega) 32 F hF
 have hWl:W.length<=2001:=by
  have:=congrArg List.length w3
  rw[List.length_map,qKu]at this
  have h2:=List.count_le_length (a:=(32:UInt8)) (l:=toL t)
  rw[qBP]at h2
  omega
 have hWs:=qQF w3
 obtain⟨w0,ws,rfl⟩:∃w0 ws,W=w0::ws:=by
  cases W with
  |nil=>exact absurd w3.symm (qN8 32 _)
  |cons a b=>exact⟨a,b,rfl⟩
 rcases qay t (bz [105,116,101,109,32]) (by omega) (by decide) with⟨r,r1,r2⟩|⟨r1,r2⟩
 ·have hc:qJB 32 (toL t)=toL (bz [105,116,101,109])::qJB 32 (toL r):=by
   rw[r2]
   exact qKj 32 (toL r) [105,116,101,109] (by decide)
  rw[hc,List.map_cons,List.cons.injEq]at w3
  have e0:w0=(bz [105,116,101,109]):=qGd w3.1
  have hne:ws≠[]:=fun e=>by rw[e]at w3;exact absurd w3.2.symm (qN8 32 _)
  have hpos:0<ws.length:=List.length_pos_iff.2 hne
  have hl:=congrArg List.length r2
  rw[List.length_append,qBP,qBP,qBP]at hl
  have e5:(bz [105,116,101,109,32]).size=5:=rfl
  have hex:ByteArray.extract t (5:Int).toNat t.size=r:=qGd (by
   rw[show toL (ByteArray.extract t (5:Int).toNat t.size)=(toL t).drop 5 from Go.Lib.extract_to_end t 5,r2]
   exact List.drop_left' rfl)
  obtain⟨S',q,c1,c2,c3,c4⟩:=qXk hF h r (by omega)
  refine⟨S',q,?_,fun no wh ln=>?_,c3,c4⟩
  ·unfold qAT
   rw[bnd r1]
   dsimp only
   rw[cW,bnd c1]
  ·show qAB F (cs S no wh ln) t=_
   unfold qAB
   rw[bnd (show qA8 F t 32=some (w0::ws) from w1),show (((w0::ws).length:Int)==1)=false from beq_eq_false_iff_ne.2 (by simp only[List.length_cons];omega),cF,show qAV (w0::ws) 0=some w0 from rfl,oB9,dT e0,cW,show inB 5 t.size t.size=true from by unfold inB;simp;omega,qC2,oB9,hex,bnd (c2 no wh ln)]
 have hL:LnW F t w0 ws:=⟨w1,w2,r2,by simp only[List.length_cons]at hWl;omega,fun y hy=>by have:=hWs y (by simp[hy]);omega,fun hne e=>by
  obtain⟨z,zs,rfl⟩:=List.exists_cons_of_ne_nil hne
  have:=qLB 32 (toL t)
  rw[<-w3,e]at this
  exact r1 (qNZ 32 ((z::zs).map toL)) this.symm,fun e=>qGd (by
  have:=qLB 32 (toL t)
  rw[<-w3,e]at this
  exact this.symm)⟩
 by_cases c_late:w0=(bz [108,97,116,101])
 ·subst c_late
  exact qIR hF h hL (by decide) (by decide) (by decide) rfl rfl (qAH F S (bz [108,97,116,101]) []) (by rw[qAA];rfl) (qW6 hF' h)
 by_cases c_check:w0=(bz [99,104,101,99,107])
 ·subst c_check
  exact qIR hF h hL (by decide) (by decide) (by decide) rfl rfl (qAK F S (bz [99,104,101,99,107]) []) (by rw[qAA];rfl) (qVP hF' h)
 by_cases c_base:w0=(bz [98,97,115,101])
 ·subst c_base
  exact qIR hF h hL (by decide) (by decide) (by decide) rfl rfl (qAK F S (bz [98,97,115,101]) []) (by rw[qAA];rfl) (qXX hF' h)
 by_cases c_score:w0=(bz [115,99,111,114,101])
 ·subst c_score
  exact qIR hF h hL (by decide) (by decide) (by decide) rfl rfl (qAK F S (bz [115,99,111,114,101]) []) (by rw[qAA];rfl) (qUq hF' h)
 by_cases c_bound:w0=(bz [98,111,117,110,100])
 ·subst c_bound
  exact qIR hF h hL (by decide) (by decide) (by decide) rfl rfl (qAK F S (bz [98,111,117,110,100]) []) (by rw[qAA];rfl) (qVA hF' h)
 by_cases c_best:w0=(bz [98,101,115,116])
 ·subst c_best
  exact qIR hF h hL (by decide) (by decide) (by decide) rfl rfl (qAK F S (bz [98,101,115,116]) []) (by rw[qAA];rfl) (qWy hF' h)
 by_cases c_places:w0=(bz [112,108,97,99,101,115])
 ·subst c_places
  exact qIR hF h hL (by decide) (by decide) (by decide) rfl rfl (qAn F S (bz [112,108,97,99,101,115]) []) (by rw[qAA];rfl) (qSm hF' h)
 by_cases c_limit:w0=(bz [108,105,109,105,116])
 ·subst c_limit
  refine qH7 hF h hL (by decide) (by decide) (by decide) (bz [110,110]) rfl rfl (by decide) false rfl (fun i hi=>?_) (fun x=>rfl) (fun v=>qAb F S (bz [108,105,109,105,116]) v) (fun v=>by rw[qAA];rfl) (fun L hl hp=>qU1 hF' h hl (hp rfl))
  have:i=0\/i=1:=by have:i<2:=hi;omega
  rcases this with rfl|rfl<;>rfl
 by_cases c_rules:w0=(bz [114,117,108,101,115])
 ·subst c_rules
  refine qH7 hF h hL (by decide) (by decide) (by decide) (bz [110,110,110,110]) rfl rfl (by decide) false rfl (fun i hi=>?_) (fun x=>rfl) (fun v=>qAb F S (bz [114,117,108,101,115]) v) (fun v=>by rw[qAA];rfl) (fun L hl hp=>qVb hF' h hl)
  have:i=0\/i=1\/i=2\/i=3:=by have:i<4:=hi;omega
  rcases this with rfl|rfl|rfl|rfl<;>rfl
 by_cases c_judges:w0=(bz [106,117,100,103,101,115])
 ·subst c_judges
  refine qH7 hF h hL (by decide) (by decide) (by decide) (bz [110]) rfl rfl (by decide) false rfl (fun i hi=>?_) (fun x=>rfl) (fun v=>qAN F S (bz [106,117,100,103,101,115]) v) (fun v=>by rw[qAA];rfl) (fun L hl hp=>qUb hF' h hl (hp rfl))
  have:i=0:=by have:i<1:=hi;omega
  rcases this with rfl<;>rfl
 by_cases c_factor:w0=(bz [102,97,99,116,111,114])
 ·subst c_factor
  refine qH7 hF h hL (by decide) (by decide) (by decide) (bz [110]) rfl rfl (by decide) false rfl (fun i hi=>?_) (fun x=>rfl) (fun v=>qAH F S (bz [102,97,99,116,111,114]) v) (fun v=>by rw[qAA];rfl) (fun L hl hp=>qUC hF' h hl)
  have:i=0:=by have:i<1:=hi;omega
  rcases this with rfl<;>rfl
 by_cases c_range:w0=(bz [114,97,110,103,101])
 ·subst c_range
  refine qH7 hF h hL (by decide) (by decide) (by decide) (bz [110]) rfl rfl (by decide) false rfl (fun i hi=>?_) (fun x=>rfl) (fun v=>qAK F S (bz [114,97,110,103,101]) v) (fun v=>by rw[qAA];rfl) (fun L hl hp=>qVg hF' h hl)
  have:i=0:=by have:i<1:=hi;omega
  rcases this with rfl<;>rfl
 by_cases c_skater:w0=(bz [115,107,97,116,101,114])
 ·subst c_skater
  refine qH7 hF h hL (by decide) (by decide) (by decide) (bz [110]) rfl rfl (by decide) false rfl (fun i hi=>?_) (fun x=>rfl) (fun v=>qAn F S (bz [115,107,97,116,101,114]) v) (fun v=>by rw[qAA];rfl) (fun L hl hp=>qUM hF' h hl)
  have:i=0:=by have:i<1:=hi;omega
  rcases this with rfl<;>rfl
 by_cases c_grade:w0=(bz [103,114,97,100,101])
 ·subst c_grade
  refine qH7 hF h hL (by decide) (by decide) (by decide) (bz [110,110,103]) rfl rfl (by decide) true rfl (fun i hi=>?_) (fun x=>rfl) (fun v=>qAN F S (bz [103,114,97,100,101]) v) (fun v=>by rw[qAA];rfl) (fun L hl hp=>qUm hF' h hl)
  have:i=0\/i=1\/i=2:=by have:i<3:=hi;omega
  rcases this with rfl|rfl|rfl<;>rfl
 by_cases c_component:w0=(bz [99,111,109,112,111,110,101,110,116])
 ·subst c_component
  refine qH7 hF h hL (by decide) (by decide) (by decide) (bz [110,110,110]) rfl rfl (by decide) false rfl (fun i hi=>?_) (fun x=>rfl) (fun v=>qAN F S (bz [99,111,109,112,111,110,101,110,116]) v) (fun v=>by rw[qAA];rfl) (fun L hl hp=>qRQ hF' h hl)
  have:i=0\/i=1\/i=2:=by have:i<3:=hi;omega
  rcases this with rfl|rfl|rfl<;>rfl
 by_cases c_slips:w0=(bz [115,108,105,112,115])
 ·subst c_slips
  refine qH7 hF h hL (by decide) (by decide) (by decide) (bz [110,110,110]) rfl rfl (by decide) false rfl (fun i hi=>?_) (fun x=>rfl) (fun v=>qAH F S (bz [115,108,105,112,115]) v) (fun v=>by rw[qAA];rfl) (fun L hl hp=>qVw hF' h hl)
  have:i=0\/i=1\/i=2:=by have:i<3:=hi;omega
  rcases this with rfl|rfl|rfl<;>rfl
 by_cases c_call:w0=(bz [99,97,108,108])
 ·subst c_call;exact qWF hF h hL
 by_cases c_element:w0=(bz [101,108,101,109,101,110,116])
 ·subst c_element;exact qSY hF h hL
 have hf:qF3 w0=some (⟨#[]⟩,false):=by
  unfold qF3
  rw[dF c_element,cF,dF c_limit,cF,dF c_rules,cF,dF c_judges,cF,dF c_factor,cF,dF c_range,cF,dF c_skater,cF,dF c_grade,cF,dF c_component,cF,dF c_slips,cF,dF c_call,cF,dF c_late,cF,dF c_check,cF,dF c_base,cF,dF c_score,cF,dF c_bound,cF,dF c_best,cF,dF c_places,cF]
 have ha:qFE w0=some 0:=by
  unfold qFE
  rw[dF c_judges,cF,dF c_factor,cF,dF c_range,cF,dF c_skater,cF,dF c_limit,cF,dF c_grade,cF,dF c_component,cF,dF c_slips,cF,dF c_element,cF,dF c_rules,cF]
 have hal:∀x,qAY F x w0=some (x,whatB):=fun x=>by
  unfold qAY
  rw[dF c_late,cF,dF c_check,cF,dF c_base,cF,dF c_score,cF,dF c_bound,cF,dF c_best,cF,dF c_places,cF];rfl
 refine Alike.stay h whatB (by omega) ?_ (fun no wh ln=>?_)
 ·rw[qLf F S t w0 ws hL.np hL.im hL.ln _ _ hf];rfl
 ·show qAB F (cs S no wh ln) t=_
  by_cases h0:ws=[]
  ·have:=hL.al h0
   subst this h0
   rw[qKQ F _ t hL.sp,hal];rfl
  ·have hpos:0<ws.length:=List.length_pos_iff.2 h0
   exact qOe F (by omega) _ t w0 ws hL.sp hL.ln hL.sz h0 (hL.ni h0) c_call c_element _ ha (by omega)
end
section
theorem qTu (c:UInt8):∀l:List UInt8,qJB c (l++[c])=qJB c l++[[]]
 | []=>qKj c [] [] (fun _ h=>by cases h)
 |b::l=>by
  have ih:=qTu c l
  rw[List.cons_append,qJB,ih]
  conv=>rhs;rw[qJB]
  by_cases h:b=c
  ·rw[if_pos h,if_pos h,List.cons_append]
  ·rw[if_neg h,if_neg h]
   cases h2:qJB c l with
   |nil=>have:=qKu c l;rw[h2]at this;simp at this
   |cons x t=>rfl
theorem qJz (s:bD) (hn:s.size<=4194304) (a8:Nat) (hf:4194304<a8):∃r g:List bD×Bool,qDR a8 s=some r/\qAL s=some g/\r.2=g.2/\(g.2=true->r.1=g.1):=by
 have hsz:=Go.Lib.size_eq s
 unfold qDR qAL qHG
 by_cases he:s=⟨#[]⟩
 ·subst he
  obtain⟨r,r1,r2⟩:=qOR ⟨#[]⟩ (by decide) 10 a8 hf
  have e:r.map toL=[[]]:=r2
  obtain⟨x,hx⟩:∃x,r=[x]:=by
   cases r with
   |nil=>simp at e
   |cons x r=>cases r with
    |nil=>exact⟨x,rfl⟩
    |cons y r=>simp at e
  subst hx
  simp only[decide_true,Bool.not_true,Bool.and_false,qDW,oB9,Bool.false_and,Bool.or_false,cW]
  rw[show decide ((((⟨#[]⟩:bD).size:Nat):Int)>2000)=false from rfl,cF,bnd (show qA8 a8 ⟨#[]⟩ 10=some [x] from r1)]
  exact⟨([],true),([],true),rfl,rfl,rfl,fun _=>rfl⟩
 ·have hpos:0<s.size:=by
   rw[hsz]
   apply Nat.pos_of_ne_zero
   intro h0
   exact he (qGd (List.length_eq_zero_iff.1 h0))
  have hlt:s.size-1<(toL s).length:=by rw[<-hsz];omega
  have hlast:qNC s (w64 ((s.size:Int)-1))=some (toL s)[s.size-1]:=by
   rw[qAD (by omega),qMD (k:=s.size-1) (by omega),List.getElem?_eq_getElem hlt]
  rw[dF he,cF,bnd hlast,hlast]
  simp only[Bool.not_false,Bool.and_true,Bool.true_and]
  generalize hb:(toL s)[s.size-1]=b
  by_cases h10:b=10
  ·subst h10
   rw[show (((10:UInt8).toNat:Int) != 10)=false from rfl,cF]
   have hin:inB 0 (w64 ((s.size:Int)-1)) s.size=true:=by rw[qAD (by omega)];unfold inB;simp;omega
   have htn:(w64 ((s.size:Int)-1)).toNat=s.size-1:=by rw[qAD (by omega)];omega
   rw[hin,qC2,oB9,htn]
   unfold qCA
   have hes:(s.extract 0 (s.size-1)).size<=s.size:=by rw[Go.Lib.size_eq,Go.Lib.extract_data,List.length_take,List.length_drop,<-hsz];omega
   rw[show (Nat.blt (s.extract 0 (s.size-1)).size 4294967281&&Nat.blt 0 (bz [10]).size)=true from by
    rw[Bool.and_eq_true,Nat.blt_eq];exact⟨by omega,rfl⟩,qC2,oB9,oB9,oB9]
   simp only[Bool.not_true,Bool.false_or]
   have hsp:=qOa (s.extract 0 (s.size-1)) 10
   rw[show toL (s.extract 0 (s.size-1))=(toL s).take (s.size-1) from by rw[show toL (s.extract 0 (s.size-1))=_ from Go.Lib.extract_data s 0 (s.size-1)];rw[List.drop_zero,Nat.sub_zero]]at hsp
   have hL:toL s=(toL s).take (s.size-1)++[10]:=by
    have:=List.take_append_drop (s.size-1) (toL s)
    rw[List.drop_eq_getElem_cons hlt,hb,List.drop_of_length_le (by rw[<-hsz];omega)]at this
    exact this.symm
   obtain⟨r,r1,r2⟩:=qOR s hn 10 a8 hf
   rw[hL,qTu,<-hsp]at r2
   generalize hg:qIi (s.extract 0 (s.size-1)) (bz [10])=g at r2
   obtain⟨g',z,rfl⟩:∃g' z,r=g'++[z]:=by
    have hl:r≠[]:=by intro e;rw[e]at r2;simp at r2
    exact⟨r.dropLast,r.getLast hl,(List.dropLast_concat_getLast hl).symm⟩
   rw[List.map_append]at r2
   have hgg:g'=g:=by
    have hlen:(g'.map toL).length=(g.map toL).length:=by
     have:=congrArg List.length r2
     simp at this;simpa using this
    exact qHU (List.append_inj r2 hlen).1
   subst hgg
   by_cases h2:(s.size:Int)>2000
   ·rw[dT h2]
    simp only[Bool.not_true,qDW,oB9,Bool.true_or,cW]
    exact⟨_,_,rfl,rfl,rfl,fun h=>by cases h⟩
   ·rw[dF h2]
    simp only[Bool.not_false,qBx,oB9,Bool.false_or,cF]
    rw[bnd (show qA8 a8 s 10=some (g'++[z]) from r1),bnd (qNI g' [z] (by
     have:g'.length<=4294967281:=by
      have h3:=qKu 10 ((toL s).take (s.size-1))
      have h4:=congrArg List.length hsp
      rw[hg,List.length_map]at h4
      have h5:((toL s).take (s.size-1)).count 10<=s.size:=Nat.le_trans List.count_le_length (by rw[List.length_take,<-hsz];omega)
      omega
     rw[List.length_append,qAD (by simp;omega)];simp))]
    by_cases h40:(g'.length:Int)>40
    ·rw[dT h40,cW]
     exact⟨_,_,rfl,rfl,dF (by omega),fun h=>by cases h⟩
    ·rw[dF h40,cF]
     exact⟨_,_,rfl,rfl,dT (by omega),fun _=>rfl⟩
  ·have h11:((b.toNat:Int) != 10)=true:=by
    rw[bne_iff_ne];intro e;exact h10 (UInt8.toNat_inj.1 (by show b.toNat=10;omega))
   rw[h11,cW]
   by_cases h2:(s.size:Int)>2000
   ·rw[dT h2]
    simp only[Bool.not_true,qDW,oB9,Bool.true_or,cW]
    exact⟨_,_,rfl,rfl,rfl,fun h=>by cases h⟩
   ·rw[dF h2]
    simp only[Bool.not_false,qBx,oB9,Bool.false_or,h11,cW,Bool.true_or]
    exact⟨_,_,rfl,rfl,rfl,fun h=>by cases h⟩
theorem qRI (s:bD) (hs:s.size<=1048576) (F:Nat) (hF:4194304<F):(∃ls:List bD,qDR F s=some (ls,true)/\qAL s=some (ls,true)/\ls.length<=40/\∀y∈ls,y.size<=2000)\/(∃l,qDR F s=some (l,false)/\qAL s=some ([],false)):=by
 obtain⟨r,g,r1,g1,e1,e2⟩:=qJz s (by omega) F hF
 obtain⟨x,x1,x2⟩:=qOi s hs
 have hg:=g1
 unfold qAL at hg
 rw[bnd x1]at hg
 cases hc:((!x.2)||decide ((s.size:Int)>2000))||decide ((x.1.length:Int)>40)
 ·rw[hc,cF]at hg
  have:=(Option.some.inj hg).symm
  subst this
  simp only[Bool.or_eq_false_iff,Bool.not_eq_false',decide_eq_false_iff_not]at hc
  rcases x2 with⟨_,x3⟩|⟨x3,_⟩
  ·refine .inl ⟨x.1,?_,g1,by omega,fun y hy=>?_⟩
   ·rw[r1]
    have h2:r.2=true:=e1
    have h1:=e2 rfl
    rw[<-h1,<-h2]
   ·have:=qNv 10 (toL s) (toL y) (by rw[x3];exact List.mem_append_left _ (List.mem_map.2 ⟨y,hy,rfl⟩))
    rw[qBP,qBP]at this
    omega
  ·rw[x3]at hc;exact absurd hc.1.1 (by simp)
 ·rw[hc,cW]at hg
  have:=(Option.some.inj hg).symm
  subst this
  have h2:r.2=false:=e1
  exact .inr ⟨r.1,by rw[r1,<-h2],g1⟩
def qGh (b:bD):List bD->Nat->bE
 | [],_=>[]
 |r::rs,k=>if r=b then ((k+1:Nat):Int)::qGh b rs (k+1) else qGh b rs (k+1)
theorem qRu (b:bD):∀(rs:List bD) (k:Nat),(qGh b rs k).length<=rs.length
 | [],_=>Nat.le_refl _
 |r::rs,k=>by
  have:=qRu b rs (k+1)
  rw[qGh];split<;>simp only[List.length_cons]<;>omega
def qOG:List bD->bD->bD
 | [],a=>a
 |r::rs,a=>qOG rs (a++(r++(bz [10])))
def noB:bD:=(bz [110,111])
theorem qaE (F:Nat) (hF:4194304<F) (x3:List bD×Bool):∀(ys:List bD) (k:Nat) (S:ScriptState) (no wh:bE) (ln:Int) (reps:List bD) (out:bD),SGood F S->(∀y∈ys,y.size<=2000)->reps.length+ys.length<=1000->no.length+ys.length<=1000->wh.length+ys.length<=1000->out.size+1001*ys.length<=500000->
  ∃S' R,SGood F S'/\R.length=ys.length/\(∀r∈R,r.size<=1000)/\qAy F ys k S.ag.ad S.ag.ar S.ag.aq S.ag.av S.ag.au S.ag.ay S.aa.ai S.aa.ae.ah S.aa.ae.ac S.aa.af.falls S.aa.af.an S.aa.af.aw S.am S.ak reps=some (some S',reps++R,true)/\
  qCP F x3 ys k S.ag.ad S.ag.ar S.ag.aq S.ag.av S.ag.au S.ag.ay S.aa.ai S.aa.ae.ah S.aa.ae.ac S.aa.af.falls S.aa.af.an S.aa.af.aw S.am S.ak no wh ln out=some (cs S' (no++qGh noB R k) (wh++qGh whatB R k) (x3.1.length:Int),qOG R out,true)
 | [],k,S,no,wh,ln,reps,out,h,_,_,_,_,_=>⟨S,[],h,rfl,by simp,by rw[qAy,List.append_nil],by rw[qCP];simp only[qGh,List.append_nil];rfl⟩
 |y::ys,k,S,no,wh,ln,reps,out,h,hy,h1,h2,h3,h4=>by
  simp only[List.length_cons]at h1 h2 h3 h4
  obtain⟨S1,r,c1,c2,c3,c4⟩:=qRv hF h y (hy y (by simp))
  have e10:(bz [10]).size=1:=rfl
  have nxt:=fun no' wh' (a:no'.length+ys.length<=1000) (b:wh'.length+ys.length<=1000)=>qaE F hF x3 ys (k+1) S1 no' wh' ln (reps++[r]) (out++(r++(bz [10]))) c3 (fun z hz=>hy z (by simp[hz])) (by simp;omega) a b (by simp only[ByteArray.size_append];omega)
  have ei:qAy F (y::ys) k S.ag.ad S.ag.ar S.ag.aq S.ag.av S.ag.au S.ag.ay S.aa.ai S.aa.ae.ah S.aa.ae.ac S.aa.af.falls S.aa.af.an S.aa.af.aw S.am S.ak reps=qAy F ys (k+1) S1.ag.ad S1.ag.ar S1.ag.aq S1.ag.av S1.ag.au S1.ag.ay S1.aa.ai S1.aa.ae.ah S1.aa.ae.ac S1.aa.af.falls S1.aa.af.an S1.aa.af.aw S1.am S1.ak (reps++[r]):=by
   rw[qAy]
   show (qAT F S y).bind _=_
   rw[bnd c1,ndf (by omega) (by simp;omega),oB9]
  have n1:qAl (Nat.ble (r.size+(bz [10]).size) qDF)=some ():=nd (by omega)
  have n2:qAl (Nat.ble (out.size+(r++(bz [10])).size) qDF)=some ():=nd (by simp only[ByteArray.size_append];omega)
  have es:=c2 no wh ln
  have e0:qCP F x3 (y::ys) k S.ag.ad S.ag.ar S.ag.aq S.ag.av S.ag.au S.ag.ay S.aa.ai S.aa.ae.ah S.aa.ae.ac S.aa.af.falls S.aa.af.an S.aa.af.aw S.am S.ak no wh ln out=qCP F x3 ys (k+1) S1.ag.ad S1.ag.ar S1.ag.aq S1.ag.av S1.ag.au S1.ag.ay S1.aa.ai S1.aa.ae.ah S1.aa.ae.ac S1.aa.af.falls S1.aa.af.an S1.aa.af.aw S1.am S1.ak (no++(if r=noB then [((k+1:Nat):Int)] else [])) (wh++(if r=whatB then [((k+1:Nat):Int)] else [])) ln (out++(r++(bz [10]))):=by
   rw[qCP]
   show (qAB F (cs S no wh ln) y).bind _=_
   rw[bnd es]
   dsimp only[cs]
   by_cases hn:r=noB
   ·have hw:¬r=whatB:=fun e=>by rw[hn]at e;exact absurd e (by decide)
    rw[dT (show r=(bz [110,111]) from hn),cW,ndf (by omega) (by simp;omega),oB9,n1,oB9,n2,oB9,if_pos hn,if_neg hw,List.append_nil]
   ·rw[dF (show ¬r=(bz [110,111]) from hn),cF,if_neg hn,List.append_nil]
    by_cases hw:r=whatB
    ·rw[dT (show r=(bz [119,104,97,116]) from hw),cW,ndf (by omega) (by simp;omega),oB9,n1,oB9,n2,oB9,if_pos hw]
    ·rw[dF (show ¬r=(bz [119,104,97,116]) from hw),cF,n1,oB9,n2,oB9,if_neg hw,List.append_nil]
  obtain⟨S',R,g,l,z,a,b⟩:=nxt (no++(if r=noB then [((k+1:Nat):Int)] else [])) (wh++(if r=whatB then [((k+1:Nat):Int)] else [])) (by split<;>simp<;>omega) (by split<;>simp<;>omega)
  refine⟨S',r::R,g,by simp[l],fun q hq=>?_,by rw[ei,a,List.append_assoc];rfl,?_⟩
  ·rcases List.mem_cons.1 hq with rfl|hq
   ·exact c4
   ·exact z q hq
  ·have en:(no++(if r=noB then [((k+1:Nat):Int)] else []))++qGh noB R (k+1)=no++qGh noB (r::R) k:=by rw[qGh];split<;>simp
   have ew:(wh++(if r=whatB then [((k+1:Nat):Int)] else []))++qGh whatB R (k+1)=wh++qGh whatB (r::R) k:=by rw[qGh];split<;>simp
   rw[e0,b,en,ew];rfl
def S0:ScriptState:=ScriptState.mk (Code.mk [(Element.mk (bz [51,65]) 0 0 800)] ([7,7,7,7,7]:bE) 2 10 80 100) (Performance.mk [] (qM9 0 3) (Slips.mk 0 0 0)) 100 []
theorem qQx (F:Nat) (hF:1048576<F):qIV F=some (cs S0 [] [] 0)/\qH9 F=some S0:=by
 obtain⟨a,b⟩:=qVh F hF 0 (by omega) 3 (by omega)
 unfold qIV qH9
 rw[bnd (show qDX F 0 3=some (qM9 0 3) from a),bnd (show qDM F 0 3=some (qM9 0 3) from b)]
 exact⟨rfl,rfl⟩
theorem qWe (F:Nat) (hF:1048576<F):SGood F S0:=by
 have hn:qSj S0.ag:=⟨by decide,fun x hx=>by
  simp only[S0,List.mem_singleton]at hx
  subst hx;decide⟩
 obtain⟨b,b1,b2,_⟩:=qNs S0.ag hn F hF
 obtain⟨f,rfl⟩:∃f,F=f+10:=⟨F-10,by omega⟩
 have hc:qDQ (f+10) S0.ag=some true:=rfl
 obtain rfl:b=true:=by rw[hc]at b2;exact(Option.some.inj b2).symm
 refine⟨⟨hn,(fun it hi=>by simp[S0]at hi),b2,b1,rfl,rfl,rfl,rfl,(qPz 0 3 (by omega)).2 (by omega),rfl,by unfold qPY;decide⟩,by decide,?_⟩
 unfold qQb
 simp[S0]
theorem qUA (s:bD) (hs:s.size<=1048576) (F:Nat) (hF:4194304<F):(∃(S:ScriptState) (R ls:List bD),SGood F S/\R.length=ls.length/\ls.length<=40/\(∀r∈R,r.size<=1000)/\qAt F s=some (some S,R,true)/\qDc F s=some (cs S (qGh noB R 0) (qGh whatB R 0) (ls.length:Int),qOG R ⟨#[]⟩,true))\/
  (qAt F s=some (none,[],false)/\∃x,qDc F s=some (x,⟨#[]⟩,false)):=by
 obtain⟨a,b⟩:=qQx F (by omega)
 unfold qAt qDc
 rcases qRI s hs F hF with⟨ls,l1,l2,l3,l4⟩|⟨l,l1,l2⟩
 ·rw[bnd l2,bnd a,bnd l1,Bool.not_true,cF,cF,bnd b]
  obtain⟨S',R,g,r1,r2,e1,e2⟩:=qaE F hF (ls,true) ls 0 S0 [] [] 0 [] ⟨#[]⟩ (qWe F (by omega)) l4 (by simp;omega) (by simp;omega) (by simp;omega) (by show 0+_<=_;omega)
  exact .inl ⟨S',R,ls,g,r1,l3,r2,e1,e2⟩
 ·rw[bnd l2,bnd a,bnd l1]
  exact .inr ⟨rfl,_,rfl⟩
end
section
theorem qSW:∀{l m:bE},l.Pairwise (· < ·)->m.Pairwise (· < ·)->(∀x,x∈l↔x∈m)->l=m
 | [],[],_,_,_=>rfl
 | [],y::m,_,_,h=>by have:=(h y).2 (by simp);simp at this
 |x::l,[],_,_,h=>by have:=(h x).1 (by simp);simp at this
 |x::l,y::m,hl,hm,h=>by
  have h1:=List.pairwise_cons.1 hl
  have h2:=List.pairwise_cons.1 hm
  have e:x=y:=by
   have a:=(h x).1 (by simp);have b:=(h y).2 (by simp)
   rcases List.mem_cons.1 a with a|a
   ·exact a
   ·rcases List.mem_cons.1 b with b|b
    ·exact b.symm
    ·have:=h2.1 x a;have:=h1.1 y b;omega
  subst e
  rw[qSW h1.2 h2.2 fun z=>?_]
  constructor
  ·intro hz
   rcases List.mem_cons.1 ((h z).1 (by simp[hz])) with r|r
   ·have:=h1.1 z hz;omega
   ·exact r
  ·intro hz
   rcases List.mem_cons.1 ((h z).2 (by simp[hz])) with r|r
   ·have:=h2.1 z hz;omega
   ·exact r
theorem qal (l:bE) (n:Int) (hb:l.length<=1000000):∀(ys pre:bE) (a8:Nat),ys.length<a8->l=pre++ys->(∀x∈pre,x<n)->
  ∃k:Nat,qFF l n a8 (pre.length:Int)=some (k:Int)/\k<=l.length/\(∀x∈l.take k,x<n)/\(∀x,l[k]?=some x->¬x<n):=by
 intro ys
 induction ys with
 |nil =>
  intro pre a8 hf h1 h2
  obtain⟨f,rfl⟩:=nZ9 (by omega:a8≠0)
  rw[List.append_nil]at h1
  rw[qFF,dF (by rw[h1];omega)]
  simp only[qDW,oB9,Bool.false_and,cF]
  refine⟨pre.length,rfl,by rw[h1];exact Nat.le_refl _,fun x hx=>h2 x (by rw[<-h1];exact List.mem_of_mem_take hx),fun x hx=>?_⟩
  have:=(List.getElem?_eq_some_iff.1 hx).1;rw[h1]at this;omega
 |cons y ys ih =>
  intro pre a8 hf h1 h2
  obtain⟨f,rfl⟩:=nZ9 (by omega:a8≠0)
  have hlt:pre.length<l.length:=by rw[h1];simp
  rw[qFF,dT (by omega)]
  simp only[qBx,Bool.true_and]
  rw[bnd (qDC h1 rfl)]
  by_cases h:y<n
  ·rw[dT h,cW,qAD (by omega)]
   have:=ih (pre++[y]) f (by simp at hf;omega) (by rw[h1];simp) (by
    intro x hx;rcases List.mem_append.1 hx with hx|hx
    ·exact h2 x hx
    ·obtain rfl:=List.mem_singleton.1 hx;exact h)
   simpa using this
  ·rw[dF h,cF]
   refine⟨pre.length,rfl,by omega,fun x hx=>?_,fun x hx=>?_⟩
   ·rw[h1,List.take_left']at hx
    ·exact h2 x hx
    ·rfl
   ·rw[h1]at hx;simp at hx;subst hx;exact h
theorem qZd (l:bE) (n:Int) (hs:l.Pairwise (· < ·)) (hb:l.length<=999999) (a8:Nat) (hf:1048576<a8):∃l',qJv a8 l n=some l'/\l'.Pairwise (· < ·)/\(∀x,x∈l'↔x∈l\/x=n)/\l'.length<=l.length+1:=by
 obtain⟨k,h1,h2,h3,h4⟩:=qal l n (by omega) l [] a8 (by omega) rfl (by simp)
 unfold qJv
 rw[bnd (show qFF l n a8 0=some (k:Int) from h1)]
 have hsp:l=l.take k++l.drop k:=(List.take_append_drop k l).symm
 have ins:(∀x∈l.drop k,n<x)->∃l',((qFT l (k:Int)).bind fun x25 =>
   (qAl (qAg 8 x25.length)).bind fun u27 =>
   (qAl (qAg 8 (x25.length+([n]).length))).bind fun u29 =>
   (qCq l (k:Int)).bind fun x31 =>
   (qAl (qAg 8 (((x25++[n])).length+x31.length))).bind fun u33 =>
   some ((x25++[n])++x31))=some l'/\l'.Pairwise (· < ·)/\(∀x,x∈l'↔x∈l\/x=n)/\l'.length<=l.length+1:=by
  intro hgt
  rw[bnd (qRG rfl h2),bnd (x:=()) (by rw[qGN (by simp;omega)];rfl),bnd (x:=()) (by rw[qGN (by simp;omega)];rfl),bnd (qQy rfl h2),bnd (x:=()) (by rw[qGN (by simp;omega)];rfl)]
  refine⟨_,rfl,?_,?_,by simp;omega⟩
  ·have hs':=hs
   rw[hsp]at hs'
   have:=List.pairwise_append.1 hs'
   rw[List.append_assoc,List.singleton_append,List.pairwise_append]
   refine⟨this.1,List.pairwise_cons.2 ⟨hgt,this.2.1⟩,fun a ha b hb=>?_⟩
   rcases List.mem_cons.1 hb with rfl|hb
   ·exact h3 a ha
   ·exact this.2.2 a ha b hb
  ·intro x
   have:x∈l↔x∈l.take k\/x∈l.drop k:=by rw[<-List.mem_append,List.take_append_drop]
   rw[this];simp only[List.mem_append,List.mem_singleton]
   constructor
   ·rintro ((h|h)|h)<;>simp[h]
   ·rintro ((h|h)|h)<;>simp[h]
 by_cases hk:k<l.length
 ·rw[dT (by omega)]
  simp only[qBx,Bool.true_and]
  have hx:=List.getElem?_eq_getElem hk
  rw[bnd (qHZ hk)]
  have hge:=h4 _ hx
  have hdrop:l.drop k=l[k]::l.drop (k+1):=List.drop_eq_getElem_cons hk
  generalize hz:l[k]=z at hx hge hdrop⊢
  have hzm:z∈l:=List.mem_of_getElem? hx
  by_cases he:z=n
  ·rw[show (z==n)=true from by simp[he],cW]
   refine⟨l,rfl,hs,fun x=>⟨fun h=>.inl h,fun h=>h.elim id (fun e=>?_)⟩,by omega⟩
   rw[e,<-he];exact hzm
  ·rw[show (z==n)=false from by simpa using he,cF]
   refine ins fun x hx'=>?_
   rw[hdrop]at hx'
   have hs':=hs
   rw[hsp,hdrop]at hs'
   have:=(List.pairwise_append.1 hs').2.1
   rcases List.mem_cons.1 hx' with rfl|hx'
   ·omega
   ·have:=(List.pairwise_cons.1 this).1 x hx';omega
 ·rw[dF (by omega)]
  simp only[qDW,oB9,Bool.false_and,cF]
  refine ins fun x hx'=>?_
  rw[List.drop_of_length_le (by omega)]at hx';simp at hx'
end
section
def CO (a:bE) (b m:Int):Prop:=(∀x∈a,qQJ x)/\a.length<=9223372036854775807/\0<=b/\b<=m
theorem qXx (z:BitVec 64):((z &&& BitVec.ofInt 64 255).toNat:Int)<=255:=by
 have h:(BitVec.ofInt 64 255).toNat=255:=by decide
 rw[BitVec.toNat_and,h]
 have:=Nat.and_le_right (n:=z.toNat) (m:=255)
 omega
theorem qXM {n:Int} (h:0<=n/\n<=255):IntKind.wrap .i64 (IntKind.wrap .u64 n)=n:=by
 have e:IntKind.wrap .u64 n=n:=by
  unfold IntKind.wrap
  simp[IntKind.signed,IntKind.bits]
  omega
 rw[e]
 exact qAD (by omega)
theorem qVH {a:bE} {b m s:Int} (h:CO a b m) (hm:m<=1000000000):∃b' s' v,qFa (L1Cur.mk a b s)=some (L1Cur.mk a b' s',v)/\CO a b' (m+1)/\0<=v/\v<=255:=by
 obtain⟨h1,h2,h3,h4⟩:=h
 unfold qFa
 dsimp only
 have hw:w64 (b+1)=b+1:=qAD (by omega)
 by_cases hl:b<(a.length:Int)
 ·have hlt:b.toNat<a.length:=by omega
  have hg:qAV a b=some a[b.toNat]:=by rw[qEm (k:=b.toNat) (by omega)];exact List.getElem?_eq_getElem hlt
  have hb:=h1 _ (List.getElem_mem hlt)
  unfold qQJ at hb
  rw[dT hl,cW,bnd hg,hw,dT (by omega),cW]
  refine⟨_,_,_,rfl,⟨h1,h2,by omega,by omega⟩,?_⟩
  rw[show IntKind.wrap .i64 a[b.toNat]=a[b.toNat] from qAD (by omega)]
  exact hb
 ·rw[dF hl,cF,hw,dF (by omega),cF]
  refine⟨_,_,_,rfl,⟨h1,h2,by omega,by omega⟩,?_⟩
  rw[qXM ⟨by omega,qXx _⟩]
  exact⟨by omega,qXx _⟩
theorem qQ1 {x n:Int} (h:0<=x) (hn:0<n):0<=x.tmod n/\x.tmod n<n:=by
 rw[Int.tmod_eq_emod_of_nonneg h]
 exact⟨Int.emod_nonneg _ (by omega),Int.emod_lt_of_pos _ hn⟩
theorem qL2 {a:bE} {b m s:Int} (h:CO a b m) (hm:m<=900000000) (n:Int) (hn:n<=65536):∃b' s' v,qA2 (L1Cur.mk a b s) n=some (L1Cur.mk a b' s',v)/\CO a b' (m+2)/\0<=v/\(v<n\/v=0):=by
 unfold qA2
 by_cases h1:n<=1
 ·rw[dT h1,cW]
  exact⟨_,_,_,rfl,⟨h.1,h.2.1,h.2.2.1,by have:=h.2.2.2;omega⟩,by omega,.inr rfl⟩
 ·rw[dF h1,cF]
  obtain⟨b1,s1,v1,e1,g1,l1,u1⟩:=qVH (s:=s) h (by omega)
  have hnz:(n != 0)=true:=by rw[bne_iff_ne];omega
  rw[bnd e1]
  dsimp only
  by_cases h2:n>200
  ·rw[dT h2,cW]
   obtain⟨b2,s2,v2,e2,g2,l2,u2⟩:=qVH (s:=s1) g1 (by omega)
   rw[bnd e2,hnz,qC2,oB9]
   dsimp only
   rw[qAD (n:=v1*256) (by omega),qAD (by omega)]
   have:=qQ1 (x:=v1*256+v2) (n:=n) (by omega) (by omega)
   exact⟨_,_,_,rfl,⟨g2.1,g2.2.1,g2.2.2.1,by have:=g2.2.2.2;omega⟩,this.1,.inl this.2⟩
  ·rw[dF h2,cF,hnz,qC2,oB9]
   have:=qQ1 (x:=v1) (n:=n) l1 (by omega)
   exact⟨_,_,_,rfl,⟨g1.1,g1.2.1,g1.2.2.1,by have:=g1.2.2.2;omega⟩,this.1,.inl this.2⟩
end
section
def qO2 (r:bD):Prop:=r=noB\/r=whatB
def Kp (S:ScriptState) (o:Option (ScriptState×bD)):Prop:=∀S' r,o=some (S',r)->qO2 r->S'=S
theorem Kp.bind {S:ScriptState} {α:Type} {o:Option α} {f:α->Option (ScriptState×bD)} (h:∀x,o=some x->Kp S (f x)):Kp S (o.bind f):=by
 intro S' r e
 cases o with
 |none=>cases e
 |some x=>exact h x rfl S' r e
theorem Kp.cond {S:ScriptState} {b:Bool} {x y:Option (ScriptState×bD)} (h1:b=true->Kp S x) (h2:b=false->Kp S y):Kp S (_root_.cond b x y):=by
 cases b
 ·exact h2 rfl
 ·exact h1 rfl
theorem qNY {S:ScriptState} {r:bD}:Kp S (some (S,r)):=fun S' r' e _=>by cases e;rfl
theorem qWJ {S S':ScriptState} {r:bD} (h:¬qO2 r):Kp S (some (S',r)):=fun S1 r1 e f=>by cases e;exact absurd f h
theorem qSQ {S:ScriptState} {o:Option (ScriptState×bD)} (h:Kp S o):Kp S (o.bind fun x=>some (x.1,x.2)):=Kp.bind fun x e=>fun S' r e' f=>by
 cases e';exact h x.1 x.2 e f
theorem qVk:¬qO2 (bz [111,107]):=by
 rintro (h|h)<;>exact absurd h (by decide)
theorem qZX {b:Bool} {x:bD} (hb:b=true) (h:qAw b=some x):¬qO2 x:=by
 subst hb
 rw[qZk]at h
 cases h;exact qVk
theorem qWx {n:Int} {t:bD} (h:qBe n=some t):¬qO2 t:=by
 have key:toL t=(if n<0 then 45::qPS (-n).toNat else qPS n.toNat):=by
  unfold qBe at h
  cases hn:qAl (decide (-9223372036854775808<=n)&&decide (n<=9223372036854775807)) with
  |none=>rw[hn]at h;cases h
  |some u =>
   rw[hn,oB9]at h
   obtain rfl:=(Option.some.inj h).symm
   show (Go.Lib.itoa n).toArray.toList=_
   unfold Go.Lib.itoa
   by_cases h0:n<0
   ·rw[if_pos h0,if_pos h0,qRe,show n.natAbs=(-n).toNat by omega]
   ·rw[if_neg h0,if_neg h0,qRe]
 have q:∀b l,b≠45->¬(48<=b/\b<=57)->toL t≠b::l:=by
  intro b l h1 h2 e
  rw[e]at key
  split at key
  ·exact h1 (List.cons.inj key).1
  ·exact h2 (qYj _ b (by rw[<-key];simp))
 rintro (h|h)
 ·exact q 110 [111] (by decide) (by decide) (by rw[h];rfl)
 ·exact q 119 [104,97,116] (by decide) (by decide) (by rw[h];rfl)
theorem qRD (S:ScriptState) (c:Code) (b:Bool):Kp S (qAc S c b):=by
 unfold qAc
 exact .cond (fun h=>.bind fun x e=>qWJ (qZX h e)) (fun _=>.bind fun _ _=>qNY)
theorem qY4 (F:Nat) (S:ScriptState) (w:bD) (l:bE):Kp S (qAb F S w l):=by
 unfold qAb
 repeat' (first|exact qNY|exact qSQ (qRD _ _ _)|refine .cond (fun _=>?_) (fun _=>?_)|refine .bind fun _ _=>?_)
theorem qXJ (F:Nat) (S:ScriptState) (w:bD) (l:bE):Kp S (qAN F S w l):=by
 unfold qAN
 repeat' (first|exact qNY|(refine .cond (fun hb=>.bind fun x e=>?_) (fun _=>?_);exact qWJ (qZX hb e))|refine .cond (fun _=>?_) (fun _=>?_)|refine .bind fun _ _=>?_)
theorem qVE (F:Nat) (S:ScriptState) (w:bD) (l:bE):Kp S (qAH F S w l):=by
 unfold qAH
 repeat' (first|exact qNY|exact qWJ qVk|refine .cond (fun _=>?_) (fun _=>?_)|refine .bind fun _ _=>?_)
theorem qYm (F:Nat) (S:ScriptState) (w:bD) (l:bE):Kp S (qAn F S w l):=by
 unfold qAn
 repeat' (first|exact qNY|(refine .bind fun x e=>?_;exact qWJ (qWx e))|refine .cond (fun _=>?_) (fun _=>?_)|refine .bind fun _ _=>?_)
theorem qaS (F:Nat) (S:ScriptState) (w:bD) (l:bE):Kp S (qAK F S w l):=by
 unfold qAK
 repeat' (first|exact qNY|refine .cond (fun _=>?_) (fun _=>?_)|refine .bind fun _ _=>?_)
theorem qYU (F:Nat) (S:ScriptState) (t:bD):Kp S (qAv F S t):=by
 unfold qAv
 repeat' (first|exact qNY|exact qWJ qVk|refine .cond (fun _=>?_) (fun _=>?_)|refine .bind fun _ _=>?_)
theorem qTz (F:Nat) (S:ScriptState) (x5:List bD) (x7:bD) (x9:bD×Bool):∀(ys:List bD) (k:Nat) (v:bE),Kp S (qAA S F x5 x7 x9 ys k v)
 | [],k,v=>by
  rw[qAA]
  repeat' (first|exact qSQ (qY4 _ _ _ _)|exact qSQ (qXJ _ _ _ _)|exact qSQ (qVE _ _ _ _)|exact qSQ (qYm _ _ _ _)|exact qSQ (qaS _ _ _ _)|exact qSQ (qRD _ _ _)|refine .cond (fun _=>?_) (fun _=>?_)|refine .bind fun _ _=>?_)
 |y::ys,k,v=>by
  rw[qAA]
  exact .bind fun _ _=>.bind fun _ _=>.cond (fun _=>qNY) (fun _=>.bind fun _ _=>qTz F S x5 x7 x9 ys (k+1) _)
theorem qZy (F:Nat) (S:ScriptState) (t:bD):Kp S (qAT F S t):=by
 unfold qAT
 repeat' (first|exact qNY|exact qSQ (qYU _ _ _)|exact qTz _ _ _ _ _ _ _ _|refine .cond (fun _=>?_) (fun _=>?_)|refine .bind fun _ _=>?_)
end
section
def qHg:List bD->List UInt8
 | []=>[]
 |y::ys=>toL y++10::qHg ys
def qYa (ls:List bD):Prop:=∀y∈ls,∀b∈toL y,b≠10
theorem qSc:∀(a b:List bD),qHg (a++b)=qHg a++qHg b
 | [],b=>rfl
 |y::a,b=>by simp[qHg,qSc a b]
theorem qNf:∀(ls:List bD),qYa ls->qJB 10 (qHg ls)=ls.map toL++[[]]
 | [],_=>rfl
 |y::ls,h=>by
  rw[qHg,qKj 10 _ _ (h y (by simp)),qNf ls fun z hz=>h z (by simp[hz])];rfl
theorem qW0 (ls:List bD):qNZ 10 (ls.map toL++[[]])=qHg ls:=by
 induction ls with
 |nil=>rfl
 |cons y ls ih =>
  cases ls with
  |nil=>rfl
  |cons z ls=>show toL y++10::qNZ 10 (List.map toL (z::ls)++[[]])=_;rw[ih];rfl
theorem qV1 {a b:List bD} (ha:qYa a) (hb:qYa b) (h:qHg a=qHg b):a=b:=by
 have:=qNf a ha
 rw[h,qNf b hb]at this
 exact(qHU (List.append_cancel_right this)).symm
theorem qT8 {s:bD} (hs:s.size<=1048576) {ls:List bD} (h:qAL s=some (ls,true)):toL s=qHg ls/\qYa ls/\s.size<=2000/\ls.length<=40:=by
 obtain⟨x,x1,x2⟩:=qOi s hs
 unfold qAL at h
 rw[bnd x1]at h
 cases hc:((!x.2)||decide ((s.size:Int)>2000))||decide ((x.1.length:Int)>40)
 ·rw[hc,cF]at h
  simp only[Bool.or_eq_false_iff,Bool.not_eq_false',decide_eq_false_iff_not]at hc
  obtain rfl:x.1=ls:=congrArg Prod.fst (Option.some.inj h)
  rcases x2 with⟨_,x3⟩|⟨x3,_⟩
  ·refine⟨?_,fun y hy=>?_,by omega,by omega⟩
   ·have:=qLB 10 (toL s)
    rw[x3,qW0]at this;exact this.symm
   ·exact qT4 10 (toL s) (toL y) (by rw[x3];exact List.mem_append_left _ (List.mem_map.2 ⟨y,hy,rfl⟩))
  ·rw[x3]at hc;exact absurd hc.1.1 (by simp)
 ·rw[hc,cW]at h
  exact absurd (congrArg Prod.snd (Option.some.inj h)) (by simp)
theorem qW4 {s:bD} {ls:List bD} (h:toL s=qHg ls) (hn:qYa ls) (hs:s.size<=2000) (hl:ls.length<=40):qAL s=some (ls,true):=by
 obtain⟨x,x1,x2⟩:=qOi s (by omega)
 rw[h,qNf ls hn]at x2
 rcases x2 with⟨x3,x4⟩|⟨_,x4⟩
 ·have e:x.1=ls:=(qHU (List.append_cancel_right x4)).symm
  unfold qAL
  rw[bnd x1,x3,e,dF (by omega),dF (by omega)]
  rfl
 ·exact absurd rfl (x4 _)
end
section
def RunR (F:Nat):List bD->ScriptState->List bD->ScriptState->Prop
 | [],S,R,S'=>R=[]/\S'=S
 |y::ys,S,R,S'=>∃S1 r R1,qAT F S y=some (S1,r)/\R=r::R1/\RunR F ys S1 R1 S'
theorem RunR.len {F:Nat}:∀{ys:List bD} {S S':ScriptState} {R:List bD},RunR F ys S R S'->R.length=ys.length
 | [],_,_,_,h=>by rw[h.1]
 |y::ys,_,_,_,⟨_,_,_,_,e,h⟩=>by rw[e,List.length_cons,List.length_cons,h.len]
theorem RunR.app {F:Nat}:∀{ys zs:List bD} {S S1 S2:ScriptState} {R Q:List bD},RunR F ys S R S1->RunR F zs S1 Q S2->RunR F (ys++zs) S (R++Q) S2
 | [],_,_,_,_,_,_,⟨e,e2⟩,k=>by rw[e,<-e2];exact k
 |y::ys,_,_,_,_,_,_,⟨Sa,r,R1,h1,e,h⟩,k=>⟨Sa,r,R1++_,h1,by rw[e];rfl,h.app k⟩
theorem RunR.loop {F:Nat}:∀{ys:List bD} {S S':ScriptState} {R:List bD} (k:Nat) (reps:List bD),RunR F ys S R S'->reps.length+ys.length<=1000->
  qAy F ys k S.ag.ad S.ag.ar S.ag.aq S.ag.av S.ag.au S.ag.ay S.aa.ai S.aa.ae.ah S.aa.ae.ac S.aa.af.falls S.aa.af.an S.aa.af.aw S.am S.ak reps=some (some S',reps++R,true)
 | [],S,S',R,k,reps,⟨e,e2⟩,_=>by rw[qAy,e,e2,List.append_nil]
 |y::ys,S,S',R,k,reps,⟨S1,r,R1,h1,e,h⟩,hl=>by
  simp only[List.length_cons]at hl
  rw[qAy]
  show (qAT F S y).bind _=_
  rw[bnd h1,ndf (by omega) (by simp;omega),oB9]
  have:=h.loop (k+1) (reps++[r]) (by simp;omega)
  rw[e,show reps++r::R1=(reps++[r])++R1 from by simp]
  exact this
theorem qWc {F:Nat} (hF:4194304<F):∀(ys:List bD) (S:ScriptState),SGood F S->(∀y∈ys,y.size<=2000)->∃R S',RunR F ys S R S'/\SGood F S'/\∀r∈R,r.size<=1000
 | [],S,h,_=>⟨[],S,⟨rfl,rfl⟩,h,by simp⟩
 |y::ys,S,h,hy=>by
  obtain⟨S1,r,c1,c2,c3,c4⟩:=qRv hF h y (hy y (by simp))
  obtain⟨R,S',r1,r2,r3⟩:=qWc hF ys S1 c3 fun z hz=>hy z (by simp[hz])
  refine⟨r::R,S',⟨S1,r,R,c1,rfl,r1⟩,r2,fun q hq=>?_⟩
  rcases List.mem_cons.1 hq with rfl|hq
  ·exact c4
  ·exact r3 q hq
theorem RunR.one {F:Nat}:∀{ys:List bD} {S S1 S2:ScriptState} {R Q:List bD},RunR F ys S R S1->RunR F ys S Q S2->R=Q/\S1=S2
 | [],_,_,_,_,_,⟨e,e2⟩,⟨k,k2⟩=>⟨e.trans k.symm,e2.trans k2.symm⟩
 |y::ys,_,_,_,_,_,⟨Sa,r,R1,h1,e,h⟩,⟨Sb,q,Q1,k1,f,k⟩=>by
  rw[h1]at k1
  obtain⟨rfl,rfl⟩:=Prod.mk.inj (Option.some.inj k1)
  obtain⟨rfl,rfl⟩:=h.one k
  exact⟨e.trans f.symm,rfl⟩
instance (r:bD):Decidable (qO2 r):=inferInstanceAs (Decidable (_\/_))
def qL1:List bD->List bD->List bD
 |y::ys,r::R=>if qO2 r then qL1 ys R else y::qL1 ys R
 |_,_=>[]
theorem RunR.keep {F:Nat}:∀{ys:List bD} {S S':ScriptState} {R:List bD},RunR F ys S R S'->∃Q,RunR F (qL1 ys R) S Q S'
 | [],_,_,_,⟨e,e2⟩=>by rw[e];exact⟨[],rfl,e2⟩
 |y::ys,S,S',_,⟨S1,r,R1,h1,e,h⟩=>by
  obtain⟨Q,q⟩:=h.keep
  rw[e,qL1]
  by_cases hr:qO2 r
  ·have:=qZy F S y S1 r h1 hr
   subst this
   rw[if_pos hr];exact⟨Q,q⟩
  ·rw[if_neg hr];exact⟨r::Q,S1,r,Q,h1,rfl,q⟩
theorem qTU:∀(ys R:List bD),(∀y∈qL1 ys R,y∈ys)/\(qL1 ys R).length<=ys.length/\(qHg (qL1 ys R)).length<=(qHg ys).length
 | [],R=>by simp[qL1,qHg]
 |y::ys,[]=>by simp[qL1,qHg]
 |y::ys,r::R=>by
  obtain⟨a,b,c⟩:=qTU ys R
  rw[qL1]
  split
  ·exact⟨fun z hz=>by simp[a z hz],by simp;omega,by simp[qHg];omega⟩
  ·refine⟨fun z hz=>?_,by simp;omega,by simp[qHg];omega⟩
   rcases List.mem_cons.1 hz with rfl|hz
   ·simp
   ·simp[a z hz]
theorem qaP {F:Nat} (hF:4194304<F) {s:bD} {ls R:List bD} {S:ScriptState} (hl:qAL s=some (ls,true)) (h40:ls.length<=40) (h:RunR F ls S0 R S):qAt F s=some (some S,R,true):=by
 unfold qAt
 rw[bnd hl,Bool.not_true,cF,bnd (qQx F (by omega)).2]
 exact h.loop 0 [] (by simp;omega)
end
section
def qG0:List bD->Nat->bE
 | [],_=>[]
 |r::rs,k=>if r=noB\/r=whatB then ((k+1:Nat):Int)::qG0 rs (k+1) else qG0 rs (k+1)
theorem qSA:∀(rs:List bD) (k:Nat) (x:Int),x∈qG0 rs k↔(x∈qGh noB rs k\/x∈qGh whatB rs k)
 | [],k,x=>by simp[qG0,qGh]
 |r::rs,k,x=>by
  have ih:=qSA rs (k+1) x
  rw[qG0,qGh,qGh]
  by_cases h1:r=noB
  ·have h2:¬r=whatB:=fun e=>by rw[h1]at e;exact absurd e (by decide)
   rw[if_pos (.inl h1),if_pos h1,if_neg h2,List.mem_cons,List.mem_cons,ih,or_assoc]
  ·by_cases h2:r=whatB
   ·rw[if_pos (.inr h2),if_neg h1,if_pos h2,List.mem_cons,List.mem_cons,ih]
    constructor
    ·rintro (h|h|h)
     ·exact .inr (.inl h)
     ·exact .inl h
     ·exact .inr (.inr h)
    ·rintro (h|h|h)
     ·exact .inr (.inl h)
     ·exact .inl h
     ·exact .inr (.inr h)
   ·rw[if_neg (by simp[h1,h2]),if_neg h1,if_neg h2,ih]
theorem qP3:∀(rs:List bD) (k:Nat),(∀x∈qG0 rs k,(k:Int)<x)/\(qG0 rs k).Pairwise (· < ·)
 | [],k=>by simp[qG0]
 |r::rs,k=>by
  obtain⟨a,b⟩:=qP3 rs (k+1)
  rw[qG0]
  split
  ·refine⟨fun x hx=>?_,List.pairwise_cons.2 ⟨fun x hx=>a x hx,b⟩⟩
   rcases List.mem_cons.1 hx with rfl|hx
   ·omega
   ·have:=a x hx;omega
  ·exact⟨fun x hx=>by have:=a x hx;omega,b⟩
theorem qVZ (f:List bD->Nat->bE->Option (bE×Bool)) (f0:∀k v,f [] k v=some (v,true)) (f1:∀y ys k v,f (y::ys) k v=cond (decide (y=(bz [110,111]))||decide (y=(bz [119,104,97,116]))) ((qAl (qAg 8 (v.length+(([((k+1:Nat):Int)]:bE)).length))).bind fun _=>f ys (k+1) (v++([((k+1:Nat):Int)]:bE))) (f ys (k+1) v)) :
  ∀(R:List bD) (k:Nat) (v:bE),v.length+R.length<=1000->f R k v=some (v++qG0 R k,true)
 | [],k,v,_=>by rw[f0,qG0,List.append_nil]
 |y::R,k,v,h=>by
  simp only[List.length_cons]at h
  rw[f1,qG0]
  by_cases hc:y=noB\/y=whatB
  ·rw[if_pos hc,show (decide (y=(bz [110,111]))||decide (y=(bz [119,104,97,116])))=true from by
    rw[Bool.or_eq_true,decide_eq_true_eq,decide_eq_true_eq];exact hc,cW,ndf (by omega) (by simp;omega),oB9,qVZ f f0 f1 R (k+1) _ (by simp;omega),List.append_assoc]
   rfl
  ·rw[if_neg hc,show (decide (y=(bz [110,111]))||decide (y=(bz [119,104,97,116])))=false from by
    rw[Bool.or_eq_false_iff,decide_eq_false_iff_not,decide_eq_false_iff_not];exact⟨fun e=>hc (.inl e),fun e=>hc (.inr e)⟩,cF,qVZ f f0 f1 R (k+1) v (by omega)]
theorem qYC (F:Nat) (hF:1048576<F) (x1:CsState×bD×Bool) (x3:bE) (hL:(x3++x1.1.aA).length<=1000):∀(ys pre:bE) (a8:Nat) (v:bE),x3++x1.1.aA=pre++ys->ys.length<a8->v.Pairwise (· < ·)->v.length+ys.length<=1000->∃w,qBr F x1 x3 a8 v (pre.length:Int)=some (w,true)/\w.Pairwise (· < ·)/\(∀x,x∈w↔x∈v\/x∈ys)
 | [],pre,a8,v,h,hf,hv,_=>by
  obtain⟨f,rfl⟩:=nZ9 (show a8≠0 by omega)
  rw[qBr,h,dF (by simp),cF]
  exact⟨v,rfl,hv,by simp⟩
 |y::ys,pre,a8,v,h,hf,hv,hl=>by
  obtain⟨f,rfl⟩:=nZ9 (show a8≠0 by omega)
  simp only[List.length_cons]at hf hl
  have hpl:pre.length<=1000:=by rw[h,List.length_append]at hL;omega
  obtain⟨l',p1,p2,p3,p4⟩:=qZd v y hv (by omega) F hF
  obtain⟨w,w1,w2,w3⟩:=qYC F hF x1 x3 hL ys (pre++[y]) f l' (by rw[h];simp) (by omega) p2 (by omega)
  rw[show (((pre++[y]).length:Nat):Int)=(pre.length:Int)+1 from by simp]at w1
  rw[qBr,h,dT (by simp;omega),cW,bnd (qDC (pre:=pre) (y:=y) (ys:=ys) rfl rfl),bnd p1,qAD (by omega)]
  refine⟨w,w1,w2,fun x=>?_⟩
  rw[w3,p3,List.mem_cons,or_assoc]
end
section
theorem qSk {α:Type} (L:List α) (f:List α->Nat->bF) (f0:∀k,f [] k=some true) (f1:∀y ys (k:Nat),qAV L (k:Int)=some y->f (y::ys) k=f ys (k+1)):∀(ys pre:List α),L=pre++ys->f ys pre.length=some true
 | [],pre,_=>f0 _
 |y::ys,pre,h=>by
  rw[f1 y ys pre.length (qDC h rfl)]
  have:=qSk L f f0 f1 ys (pre++[y]) (by rw[h];simp)
  simpa using this
theorem qIn (n:Int):(n != n)=false:=by simp
theorem qR2 (l:bE):qFp l l=some true:=by
 unfold qFp
 rw[qIn,cF]
 exact qSk l (qFB l) (fun k=>by rw[qFB]) (fun y ys k h=>by rw[qFB,bnd h,qIn,cF]) l [] rfl
theorem qYq (l:List bD):qI8 l l=some true:=by
 unfold qI8
 rw[qIn,cF]
 exact qSk l (qEM l) (fun k=>by rw[qEM]) (fun y ys k h=>by rw[qEM,bnd h,dT rfl];rfl) l [] rfl
theorem qUw (l:List bE):qHu l l=some true:=by
 unfold qHu
 rw[qIn,cF]
 exact qSk l (qEQ l) (fun k=>by rw[qEQ]) (fun y ys k h=>by rw[qEQ,bnd h,bnd (qR2 y)];rfl) l [] rfl
theorem qYn (l:List Item):qJI l l=some true:=by
 unfold qJI
 rw[qIn,cF]
 exact qSk l (qEI l) (fun k=>by rw[qEI]) (fun y ys k h=>by rw[qEI,bnd h,bnd (qYq y.aj),qR2,beq_self_eq_true];rfl) l [] rfl
theorem qWE (l:List Result):qGX l l=some true:=by
 unfold qGX
 rw[qIn,cF]
 exact qSk l (qCx l) (fun k=>by rw[qCx]) (fun y ys k h=>by rw[qCx,bnd h,qR2,qIn];rfl) l [] rfl
theorem qYQ (m:Marks):qJK m m=some true:=by
 unfold qJK
 rw[bnd (qUw m.ah),qUw];rfl
theorem qZj (c:Code):qIj c c=some true:=by
 unfold qIj
 rw[qR2,qIn,qIn,qIn,qIn,qIn]
 exact qSk c.ad (qFG c) (fun k=>by rw[qFG]) (fun y ys k h=>by rw[qFG,bnd h,dT rfl];rfl) c.ad [] rfl
theorem qRT (p:Performance):qEh p p=some true:=by
 unfold qEh
 rw[bnd (qYn p.ai),qYQ,dT rfl];rfl
theorem qZ3 (n:Int):∀(l:bE) (k:Nat),qFn n l k=some (decide (n∈l))
 | [],k=>by rw[qFn];simp
 |y::l,k=>by
  rw[qFn]
  by_cases h:y=n
  ·subst h;simp
  ·have e:(y==n)=false:=by simpa using h
   have h':¬n=y:=fun e=>h e.symm
   rw[e,cF,qZ3 n l (k+1)];simp[h']
theorem qZY (l:bE) (n:Int):qKx l n=some (decide (n∈l)):=qZ3 n l 0
def qMf (L:bE):List UInt8->Int->List UInt8
 | [],_=>[]
 |b::bs,n=>if n∈L then qMf L bs (if b=10 then n+1 else n) else b::qMf L bs (if b=10 then n+1 else n)
def qUG:List UInt8->Int->Int
 | [],n=>n
 |b::bs,n=>qUG bs (if b=10 then n+1 else n)
theorem qSV (s:bD) (hs:s.size<=100000) (L:bE) (f:Nat->bD->Int->Int->bF) (K:bD->Int->bF)
  (hf:∀k v n i,f (k+1) v n i=cond (decide (i<(s.size:Int))) ((qKx L n).bind fun x=>cond (!x) ((qAl (inB i (w64 (i+1)) s.size)).bind fun _=>(qAl (Nat.ble (v.size+(ByteArray.extract s i.toNat (w64 (i+1)).toNat).size) qDF)).bind fun _=>(qNC s i).bind fun b=>cond ((b.toNat:Int)==10) (f k (v++(ByteArray.extract s i.toNat (w64 (i+1)).toNat)) (w64 (n+1)) (w64 (i+1))) (f k (v++(ByteArray.extract s i.toNat (w64 (i+1)).toNat)) n (w64 (i+1)))) ((qNC s i).bind fun b=>cond ((b.toNat:Int)==10) (f k v (w64 (n+1)) (w64 (i+1))) (f k v n (w64 (i+1))))) (K v n)) :
  ∀(bs pre:List UInt8) (k:Nat) (v:bD) (n:Int),toL s=pre++bs->bs.length<k->0<=n->n+bs.length<=200000->v.size+bs.length<=200000->∃v',toL v'=toL v++qMf L bs n/\f k v n (pre.length:Int)=K v' (qUG bs n)
 | [],pre,k,v,n,h,hk,_,_,_=>by
  obtain⟨k,rfl⟩:=nZ9 (show k≠0 by omega)
  have hl:=congrArg List.length h
  rw[qBP,List.append_nil]at hl
  refine⟨v,by simp[qMf],?_⟩
  rw[hf,dF (by omega),cF];rfl
 |b::bs,pre,k,v,n,h,hk,h0,hn,hv=>by
  obtain⟨k,rfl⟩:=nZ9 (show k≠0 by omega)
  have hl:=congrArg List.length h
  rw[qBP,List.length_append,List.length_cons]at hl
  simp only[List.length_cons]at hk hn hv
  have hb:qNC s (pre.length:Int)=some b:=by
   rw[qMD (k:=pre.length) rfl,h,List.getElem?_append_right (Nat.le_refl _),Nat.sub_self];rfl
  have hx:toL (ByteArray.extract s (pre.length:Int).toNat (w64 ((pre.length:Int)+1)).toNat)=[b]:=by
   rw[qAD (by omega),Int.toNat_natCast,show ((pre.length:Int)+1).toNat=pre.length+1 by omega]
   rw[show toL (ByteArray.extract s pre.length (pre.length+1))=_ from Go.Lib.extract_data s pre.length (pre.length+1)]
   show ((toL s).drop pre.length).take (pre.length+1-pre.length)=_
   rw[h,List.drop_left' rfl,show pre.length+1-pre.length=1 by omega];rfl
  have hxs:(ByteArray.extract s (pre.length:Int).toNat (w64 ((pre.length:Int)+1)).toNat).size=1:=by rw[<-qBP,hx];rfl
  have hin:inB (pre.length:Int) (w64 ((pre.length:Int)+1)) s.size=true:=by rw[qAD (by omega)];unfold inB;simp;omega
  have nxt:=fun (v':bD) (n':Int) (a:0<=n') (b':n'+bs.length<=200000) (c:v'.size+bs.length<=200000)=>qSV s hs L f K hf bs (pre++[b]) k v' n' (by rw[h];simp) (by omega) a b' c
  have ep:(((pre++[b]).length:Nat):Int)=(pre.length:Int)+1:=by simp
  rw[hf,dT (by omega),cW,bnd (qZY L n),hin,qC2,oB9,nd (by omega),oB9,bnd hb,bnd hb,qAD (n:=n+1) (by omega)]
  have e10:((b.toNat:Int)==10)=decide (b=10):=by
   by_cases e:b=10
   ·subst e;rfl
   ·rw[dF e]
    rw[beq_eq_false_iff_ne];intro e';exact e (UInt8.toNat_inj.1 (by show b.toNat=10;omega))
  rw[e10,qAD (n:=(pre.length:Int)+1) (by omega)]
  rw[qAD (n:=(pre.length:Int)+1) (by omega)]at hx hxs
  by_cases hm:n∈L<;>by_cases e:b=10
  ·obtain⟨v',a1,a2⟩:=nxt v (n+1) (by omega) (by omega) (by omega)
   rw[ep]at a2
   refine⟨v',by rw[a1,qMf,if_pos hm,if_pos e],?_⟩
   rw[dT hm,dT e,Bool.not_true,cF,cW,a2,qUG,if_pos e]
  ·obtain⟨v',a1,a2⟩:=nxt v n (by omega) (by omega) (by omega)
   rw[ep]at a2
   refine⟨v',by rw[a1,qMf,if_pos hm,if_neg e],?_⟩
   rw[dT hm,dF e,Bool.not_true,cF,cF,a2,qUG,if_neg e]
  ·obtain⟨v',a1,a2⟩:=nxt (v++ByteArray.extract s (pre.length:Int).toNat ((pre.length:Int)+1).toNat) (n+1) (by omega) (by omega) (by rw[ByteArray.size_append,hxs];omega)
   rw[ep]at a2
   refine⟨v',by rw[a1,qHW,hx,qMf,if_neg hm,if_pos e];simp,?_⟩
   rw[dF hm,dT e,Bool.not_false,cW,cW,a2,qUG,if_pos e]
  ·obtain⟨v',a1,a2⟩:=nxt (v++ByteArray.extract s (pre.length:Int).toNat ((pre.length:Int)+1).toNat) n (by omega) (by omega) (by rw[ByteArray.size_append,hxs];omega)
   rw[ep]at a2
   refine⟨v',by rw[a1,qHW,hx,qMf,if_neg hm,if_neg e];simp,?_⟩
   rw[dF hm,dF e,Bool.not_false,cW,cF,a2,qUG,if_neg e]
theorem qSD (L:bE) (m:List UInt8) (n:Int):∀(y:List UInt8),(∀b∈y,b≠10)->qMf L (y++10::m) n=(if n∈L then qMf L m (n+1) else y++10::qMf L m (n+1))/\qUG (y++10::m) n=qUG m (n+1)
 | [],_=>by simp[qMf,qUG]
 |b::y,h=>by
  have hb:=h b (by simp)
  obtain⟨h1,h2⟩:=qSD L m n y fun z hz=>h z (by simp[hz])
  rw[List.cons_append,qMf,qUG,if_neg hb,h1,h2]
  refine⟨?_,rfl⟩
  by_cases hm:n∈L
  ·rw[if_pos hm,if_pos hm,if_pos hm]
  ·rw[if_neg hm,if_neg hm,if_neg hm];rfl
theorem qSL (L:bE):∀(ls R:List bD) (k:Nat),R.length=ls.length->qYa ls->(∀n:Int,(k:Int)<n->(n∈L↔n∈qG0 R k))->qMf L (qHg ls) ((k:Int)+1)=qHg (qL1 ls R)/\qUG (qHg ls) ((k:Int)+1)=(k:Int)+1+ls.length
 | [],R,k,_,_,_=>by simp[qHg,qL1,qMf,qUG]
 |y::ls,[],k,h,_,_=>by simp at h
 |y::ls,r::R,k,h,hn,hL=>by
  simp only[List.length_cons,Nat.add_right_cancel_iff]at h
  have ord:=(qP3 R (k+1)).1
  have hk:((k:Int)+1∈L↔qO2 r):=by
   rw[hL _ (by omega),show qG0 (r::R) k=if qO2 r then ((k+1:Nat):Int)::qG0 R (k+1) else qG0 R (k+1) from rfl]
   have no:¬(k:Int)+1∈qG0 R (k+1):=fun hx=>by have:=ord _ hx;omega
   by_cases hr:qO2 r
   ·rw[if_pos hr];simp[hr]
   ·rw[if_neg hr];simp[hr,no]
  obtain⟨i1,i2⟩:=qSL L ls R (k+1) h (fun z hz=>hn z (by simp[hz])) (fun n hn'=>by
   rw[hL n (by omega),qG0]
   split
   ·rw[List.mem_cons]
    exact⟨fun q=>q.resolve_left (by omega),.inr⟩
   ·exact Iff.rfl)
  obtain⟨j1,j2⟩:=qSD L (qHg ls) ((k:Int)+1) (toL y) (hn y (by simp))
  have ek:((k+1:Nat):Int)+1=(k:Int)+1+1:=by omega
  rw[ek]at i1 i2
  rw[qHg,j1,j2,i1,i2]
  refine⟨?_,by simp only[List.length_cons];omega⟩
  by_cases hr:qO2 r
  ·rw[if_pos (hk.2 hr),qL1,if_pos hr]
  ·rw[if_neg (fun q=>hr (hk.1 q)),qL1,if_neg hr,qHg]
end
section
def SL (a:bE) (m:Int) (o:Option (L1Cur×bD)):Prop:=∃b s v,o=some (L1Cur.mk a b s,v)/\CO a b m/\v.size<=100
theorem SL.sw {a:bE} {m:Int} {b x y:Bool} {f:Bool->Option (L1Cur×bD)} (h:∀v,SL a m (f v)):SL a m ((cond b (some x) (some y)).bind f):=by cases b<;>exact h _
theorem SL.sw4 {a:bE} {m:Int} {o:bF} {b:Bool} {x:Bool} {f:Bool->Option (L1Cur×bD)} (ho:∃v,o=some v) (h:∀v,SL a m (f v)):SL a m ((cond b (some x) o).bind f):=by
 obtain⟨v,rfl⟩:=ho
 cases b<;>exact h _
theorem SL.cond {a:bE} {m:Int} {b:Bool} {x y:Option (L1Cur×bD)} (h1:SL a m x) (h2:SL a m y):SL a m (_root_.cond b x y):=by cases b<;>assumption
theorem CO.up {a:bE} {b m n:Int} (h:CO a b m) (hn:m<=n):CO a b n:=⟨h.1,h.2.1,h.2.2.1,Int.le_trans h.2.2.2 hn⟩
theorem of_ok {a:bE} {b m s:Int} (h:CO a b m) (hm:m<=900000000) (l:List bD) (h0:0<l.length) (hl:l.length<=60000):∃b' s' v,qEb (L1Cur.mk a b s) l=some (L1Cur.mk a b' s',v)/\CO a b' (m+2)/\v∈l:=by
 unfold qEb
 obtain⟨b1,s1,v1,e1,g1,l1,u1⟩:=qL2 (s:=s) h hm (l.length:Int) (by omega)
 have hlt:v1.toNat<l.length:=by omega
 have hg:qAV l v1=some l[v1.toNat]:=by rw[qEm (k:=v1.toNat) (by omega)];exact List.getElem?_eq_getElem hlt
 rw[bnd e1]
 dsimp only
 rw[bnd hg]
 exact⟨_,_,_,rfl,g1,List.getElem_mem hlt⟩
theorem qa9 {a:bE} {b m s M:Int} (h:CO a b m) (hm:m<=900000000) (hM:m+2<=M) (l:List bD) (hl:decide (0<l.length/\l.length<=100/\∀x∈l,x.size<=30)=true):SL a M (slC (L1Cur.mk a b s) l):=by
 obtain⟨l1,l2,l3⟩:=of_decide_eq_true hl
 obtain⟨b',s',v,e,g,hv⟩:=of_ok (s:=s) h hm l l1 (by omega)
 unfold slC
 rw[bnd e]
 exact⟨_,_,_,rfl,g.up hM,by have:=l3 v hv;show v.size<=100;omega⟩
theorem qa7 {a:bE} {b m s M:Int} (h:CO a b m) (hm:m<=900000000) (hM:m+2<=M) (p:bD) (l:List bD) (hp:p.size<=30) (hl:decide (0<l.length/\l.length<=100/\∀x∈l,x.size<=30)=true):SL a M (slA (L1Cur.mk a b s) p l):=by
 obtain⟨l1,l2,l3⟩:=of_decide_eq_true hl
 obtain⟨b',s',v,e,g,hv⟩:=of_ok (s:=s) h hm l l1 (by omega)
 have:=l3 v hv
 unfold slA
 rw[bnd e,nd (by show p.size+v.size<=_;omega),oB9]
 exact⟨_,_,_,rfl,g.up hM,by show (p++v).size<=100;rw[ByteArray.size_append];omega⟩
theorem qbA (F:Nat) (hF:100<F) {a:bE} {b m s M:Int} (h:CO a b m) (hm:m<=800000000) (hM:m+4<=M) (p d:bD) (n:Int) (l:List bD) (hp:p.size<=30) (hd:d.size<=6) (hn:n<=1000) (hl:decide (0<l.length/\l.length<=100/\∀x∈l,x.size<=30)=true):SL a M (slB F (L1Cur.mk a b s) p d n l):=by
 obtain⟨l1,l2,l3⟩:=of_decide_eq_true hl
 have e1:(bz [32]).size=1:=rfl
 obtain⟨b1,s1,v1,q1,g1,u1,u2⟩:=qL2 (s:=s) h (by omega) n (by omega)
 obtain⟨y,y1,_,y3⟩:=qX9 F hF v1 (by omega)
 obtain⟨b',s',v,e,g,hv⟩:=of_ok (s:=s1) g1 (by omega) l l1 (by omega)
 have:=l3 v hv
 unfold slB
 rw[nd (by omega),oB9,nd (by rw[ByteArray.size_append];omega),oB9,bnd q1]
 dsimp only
 rw[bnd y1,nd (by simp only[ByteArray.size_append];omega),oB9,nd (by simp only[ByteArray.size_append];omega),oB9,bnd e]
 dsimp only
 rw[nd (by simp only[ByteArray.size_append];omega),oB9]
 exact⟨_,_,_,rfl,g.up (by omega),by simp only[ByteArray.size_append];omega⟩
theorem qVT (F:Nat) (hF:100<F) {a:bE} {b m s:Int} (h:CO a b m) (hm:m<=700000000):SL a (m+8) (qCn F (L1Cur.mk a b s)):=by
 unfold qCn
 obtain⟨b1,s1,v1,e1,g1,u1,u2⟩:=qL2 (s:=s) h (by omega) 4 (by omega)
 obtain⟨d,d1,_,d3⟩:=qX9 F hF v1 (by omega)
 obtain⟨b2,s2,v2,e2,g2,_,_⟩:=qL2 (s:=s1) g1 (by omega) 20 (by omega)
 rw[bnd e1]
 dsimp only
 rw[bnd d1,bnd e2]
 dsimp only
 have hw:∀(o:bF) (b:Bool) (x:Bool),(∃v,o=some v)->∃v,cond b (some x) o=some v:=fun o b x ho=>by cases b<;>first|exact ho|exact⟨_,rfl⟩
 repeat' (first
  |exact qa7 g2 (by omega) (by omega) _ _ (by decide) (by decide)
  |exact qbA F hF g2 (by omega) (by omega) _ d _ _ (by decide) d3 (by omega) (by decide)
  |exact qa9 g2 (by omega) (by omega) _ (by decide)
  |refine SL.sw fun _=>?_
  |refine SL.sw4 (hw _ _ _ (hw _ _ _ ⟨_,rfl⟩)) fun _=>?_
  |refine SL.cond ?_ ?_)
theorem qXs {a:bE} {b m s:Int} (h:CO a b m) (hm:m<=900000000) (n:Int) (hn:n<=65536):∃b' s' v,qF7 (L1Cur.mk a b s) n=some (L1Cur.mk a b' s',v)/\CO a b' (m+2):=by
 obtain⟨b1,s1,v1,e1,g1,_,_⟩:=qL2 (s:=s) h hm n hn
 unfold qF7
 rw[bnd e1]
 exact⟨_,_,_,rfl,g1⟩
def Dr (o:Option bD):Prop:=∃t,o=some t/\t.size<=4000
theorem qVo:∀(n a8:Nat) (v:bD),n<a8->v.size+5*n<=4000->Dr (qBw a8 v (n:Int))
 |0,a8,v,hf,hv=>by
  obtain⟨f,rfl⟩:=nZ9 (show a8≠0 by omega)
  rw[qBw]
  exact⟨v,rfl,by omega⟩
 |n+1,a8,v,hf,hv=>by
  obtain⟨f,rfl⟩:=nZ9 (show a8≠0 by omega)
  have e5:(bz [98,97,115,101,10]).size=5:=rfl
  rw[qBw,dT (by omega),cW,nd (by omega),oB9,qAD (by omega),show ((n+1:Nat):Int)-1=(n:Int) by omega]
  exact qVo n f _ (by omega) (by rw[ByteArray.size_append];omega)
theorem qWf (x:L1Cur×Int) (hx:0<=x.2/\x.2<=2):∀(n a8:Nat) (v:bD),n<a8->v.size+n=2001->Dr (qCw x a8 v)
 |n,a8,v,hf,hv=>by
  obtain⟨f,rfl⟩:=nZ9 (show a8≠0 by omega)
  have e1:(bz [120]).size=1:=rfl
  have e2:(bz [10]).size=1:=rfl
  rw[qCw,qAD (by omega)]
  by_cases h:(v.size:Int)<1999+x.2
  ·obtain⟨n,rfl⟩:=nZ9 (show n≠0 by omega)
   rw[dT h,cW,nd (by omega),oB9]
   exact qWf x hx n f _ (by omega) (by rw[ByteArray.size_append];omega)
  ·rw[dF h,cF,nd (by omega),oB9]
   exact⟨_,rfl,by rw[ByteArray.size_append];omega⟩
theorem qWd (F:Nat) (hF:100000<F) {a:bE}:∀(n a8:Nat) (b s m:Int) (v:bD) (k:Int),CO a b m->m+20*n<=500000000->k+1=n->n<a8->v.size+101*n<=3900->(0<=k\/1<=v.size)->Dr (qBg F a8 a b s v k)
 |0,a8,b,s,m,v,k,h,hm,hk,hf,hv,hz=>by
  obtain⟨f,rfl⟩:=nZ9 (show a8≠0 by omega)
  rw[qBg,dF (by omega),cF]
  obtain⟨b1,s1,v1,e1,g1,u1,u2⟩:=qL2 (s:=s) h (by omega) 30 (by omega)
  obtain⟨b2,s2,v2,e2,g2,u3,u4⟩:=qL2 (s:=s1) g1 (by omega) 2 (by omega)
  rw[bnd e1]
  dsimp only
  cases (v1==0)
  ·rw[cF]
   cases (v1==1)
   ·rw[cF]
    cases (v1==2)
    ·rw[cF]
     cases (v1==3)
     ·exact⟨v,rfl,by omega⟩
     ·rw[cW,bnd e2]
      have e5:(bz [98,97,115,101,10]).size=5:=rfl
      exact qWf _ (by show 0<=v2/\v2<=2;omega) 1996 F _ (by omega) (by rw[e5])
    ·exact⟨_,rfl,by decide⟩
   ·rw[cW,bnd e2]
    dsimp only
    rw[qAD (by omega),show (40+v2:Int)=((40+v2).toNat:Int) by omega]
    exact qVo _ F _ (by omega) (by show 0+5*_<=_;omega)
  ·rw[cW]
   have hin:inB 0 (w64 ((v.size:Int)-1)) v.size=true:=by rw[qAD (by omega)];unfold inB;simp;omega
   rw[hin,qC2,oB9]
   refine⟨_,rfl,?_⟩
   rw[Go.Lib.size_eq,Go.Lib.extract_data,List.length_take,List.length_drop,<-Go.Lib.size_eq];omega
 |n+1,a8,b,s,m,v,k,h,hm,hk,hf,hv,hz=>by
  obtain⟨f,rfl⟩:=nZ9 (show a8≠0 by omega)
  have e2:(bz [10]).size=1:=rfl
  obtain⟨b1,s1,t,q1,q2,q3⟩:=qVT F (by omega) (s:=s) h (by omega)
  rw[qBg,dT (by omega),cW,bnd q1]
  dsimp only
  rw[nd (by omega),oB9,nd (by rw[ByteArray.size_append];omega),oB9,qAD (by omega)]
  exact qWd F hF n f b1 s1 (m+8) _ (k-1) q2 (by omega) (by omega) (by omega) (by simp only[ByteArray.size_append];omega) (.inr (by simp only[ByteArray.size_append];omega))
theorem qVY (F:Nat) (hF:100000<F) {a:bE} (h:CO a 0 0):Dr (qEZ F a):=by
 obtain⟨b1,s1,v1,e1,g1⟩:=qXs (s:=0) h (by omega) 5 (by omega)
 unfold qEZ
 rw[bnd e1]
 dsimp only
 obtain⟨b2,s2,v2,e2,g2,u1,u2⟩:=qL2 (s:=s1) g1 (by omega) 18 (by omega)
 have key:∀v:bD,v.size<=1900->Dr ((qA2 (L1Cur.mk a b1 s1) 18).bind fun x=>qBg F F x.1.ag x.1.at' x.1.aH v x.2):=fun v hv=>by
  rw[bnd e2]
  exact qWd F hF (v2+1).toNat F b2 s2 _ v v2 g2 (by omega) (by omega) (by omega) (by omega) (.inl u1)
 cases v1
 ·exact key _ (Nat.le_of_ble_eq_true rfl)
 ·exact key _ (Nat.le_of_ble_eq_true rfl)
theorem qXb (F:Nat) (hF:100000<F) {a:bE} (h:CO a 0 0):∃x:bD×bD,qEp F a=some x/\x.1.size<=4000/\x.2.size<=4000:=by
 obtain⟨t,t1,t2⟩:=qVY F hF h
 obtain⟨b1,s1,q,q1,q2,q3⟩:=qVT F (by omega) (s:=0) h (by omega)
 obtain⟨b2,s2,v2,e2,g2⟩:=qXs (s:=s1) q2 (by omega) 10 (by omega)
 have e10:(bz [10]).size=1:=rfl
 unfold qEp
 rw[bnd t1,bnd q1]
 dsimp only
 rw[nd (by omega),oB9,bnd e2]
 cases v2
 ·exact⟨_,rfl,t2,by show (q++_).size<=4000;rw[ByteArray.size_append];omega⟩
 ·exact⟨_,rfl,t2,Nat.le_of_ble_eq_true rfl⟩
end
section
theorem qZ4 (f:List bD->Nat->bD->Option bD) (f0:∀k v,f [] k v=some v) (f1:∀y ys k v,f (y::ys) k v=(qAl (Nat.ble (y.size+(bz [10]).size) qDF)).bind fun _=>(qAl (Nat.ble (v.size+(y++(bz [10])).size) 140737488355328)).bind fun _=>f ys (k+1) (v++(y++(bz [10])))) :
  ∀(R:List bD) (k:Nat) (v:bD),(∀r∈R,r.size<=1000)->v.size+1001*R.length<=500000->f R k v=some (qOG R v)
 | [],k,v,_,_=>f0 k v
 |r::R,k,v,h,hv=>by
  have hr:=h r (by simp)
  simp only[List.length_cons]at hv
  have e10:(bz [10]).size=1:=rfl
  rw[f1,nd (by omega),oB9,qaf (by simp only[ByteArray.size_append];omega),oB9,qZ4 f f0 f1 R (k+1) _ (fun q hq=>h q (by simp[hq])) (by simp only[ByteArray.size_append];omega)]
  rfl
theorem qRP (N:Int) (f:List bD->Nat->Int->Int->Option (Int×Int×Int×Bool)) (f0:∀k a b,f [] k a b=some (a,b,w64 ((w64 (N-a))-b),true))
  (f1:∀y ys k a b,f (y::ys) k a b=cond (decide (y=(bz [110,111]))) (f ys (k+1) (w64 (a+1)) b) (cond (decide (y=(bz [119,104,97,116]))) (f ys (k+1) a (w64 (b+1))) (f ys (k+1) a b))) :
  ∀(R:List bD) (k:Nat) (a b:Int),0<=a->0<=b->a+R.length<=1000->b+R.length<=1000->f R k a b=some (a+(qGh noB R k).length,b+(qGh whatB R k).length,w64 ((w64 (N-(a+(qGh noB R k).length)))-(b+(qGh whatB R k).length)),true)
 | [],k,a,b,_,_,_,_=>by rw[f0];simp[qGh]
 |y::R,k,a,b,h1,h2,h3,h4=>by
  simp only[List.length_cons]at h3 h4
  rw[f1,qGh,qGh]
  by_cases hn:y=noB
  ·have hw:¬y=whatB:=fun e=>by rw[hn]at e;exact absurd e (by decide)
   rw[dT (show y=(bz [110,111]) from hn),cW,qAD (by omega),qRP N f f0 f1 R (k+1) (a+1) b (by omega) h2 (by omega) (by omega),if_pos hn,if_neg hw,List.length_cons,show a+1+((qGh noB R (k+1)).length:Int)=a+(((qGh noB R (k+1)).length+1:Nat):Int) by omega]
  ·rw[dF (show ¬y=(bz [110,111]) from hn),cF,if_neg hn]
   by_cases hw:y=whatB
   ·rw[dT (show y=(bz [119,104,97,116]) from hw),cW,qAD (by omega),qRP N f f0 f1 R (k+1) a (b+1) h1 (by omega) (by omega) (by omega),if_pos hw,List.length_cons,show b+1+((qGh whatB R (k+1)).length:Int)=b+(((qGh whatB R (k+1)).length+1:Nat):Int) by omega]
   ·rw[dF (show ¬y=(bz [119,104,97,116]) from hw),cF,qRP N f f0 f1 R (k+1) a b h1 h2 (by omega) (by omega),if_neg hw]
end
section
structure Ran (F:Nat) (s:bD) (ls R:List bD) (S:ScriptState):Prop where
 aJ:SGood F S
 aF:qAL s=some (ls,true)
 text:toL s=qHg ls
 nonl:qYa ls
 size:s.size<=2000
 l40:ls.length<=40
 run:RunR F ls S0 R S
 len:R.length=ls.length
 r1000:∀r∈R,r.size<=1000
 impl:qAt F s=some (some S,R,true)
 spec:qDc F s=some (cs S (qGh noB R 0) (qGh whatB R 0) (ls.length:Int),qOG R ⟨#[]⟩,true)
theorem qVz {ls:List bD}:∀y∈ls,(toL y).length<=(qHg ls).length:=by
 induction ls with
 |nil=>intro y hy;cases hy
 |cons z ls ih =>
  intro y hy
  simp only[qHg,List.length_append,List.length_cons]
  rcases List.mem_cons.1 hy with rfl|hy
  ·omega
  ·have:=ih y hy;omega
theorem qT0 {F:Nat} (hF:4194304<F) {s:bD} (hs:s.size<=1048576) {ls:List bD} (hl:qAL s=some (ls,true)):∃R S,Ran F s ls R S:=by
 obtain⟨t1,t2,t3,t4⟩:=qT8 hs hl
 have hz:∀y∈ls,y.size<=2000:=fun y hy=>by
  have:=qVz y hy
  rw[<-t1,qBP,qBP]at this;omega
 obtain⟨R,S,r1,r2,r3⟩:=qWc hF ls S0 (qWe F (by omega)) hz
 have hi:=qaP hF hl t4 r1
 refine⟨R,S,r2,hl,t1,t2,t3,t4,r1,r1.len,r3,hi,?_⟩
 rcases qUA s hs F hF with⟨S',R',ls',_,q1,_,_,e1,e2⟩|⟨e1,_⟩
 ·rw[hi]at e1
  have e:=Option.some.inj e1
  obtain rfl:S=S':=Option.some.inj (congrArg Prod.fst e)
  obtain rfl:R=R':=congrArg (fun x=>x.2.1) e
  have hl':ls'.length=ls.length:=by rw[<-q1,r1.len]
  rw[<-hl'];exact e2
 ·rw[hi]at e1;cases e1
theorem qaF {F:Nat} (hF:4194304<F) {s:bD} (hs:s.size<=1048576):(∃ls R S,Ran F s ls R S)\/(qAL s=some ([],false)/\qAt F s=some (none,[],false)/\∃x,qDc F s=some (x,⟨#[]⟩,false)):=by
 rcases qRI s hs F hF with⟨ls,_,l2,_⟩|⟨l,_,l2⟩
 ·obtain⟨R,S,h⟩:=qT0 hF hs l2
  exact .inl ⟨ls,R,S,h⟩
 ·rcases qUA s hs F hF with⟨S',R',ls',_,q1,_,_,e1,e2⟩|⟨e1,x,e2⟩
  ·unfold qAt at e1
   rw[bnd l2]at e1
   exact absurd (congrArg (fun x=>x.2.2) (Option.some.inj e1)) (by simp)
  ·exact .inr ⟨l2,e1,x,e2⟩
section
variable {F:Nat} {s:bD} {ls R:List bD} {S:ScriptState}
theorem Ran.out (h:Ran F s ls R S):qDr F s=some (qOG R ⟨#[]⟩)/\qFe F s=some (qOG R ⟨#[]⟩):=by
 unfold qDr qFe
 have:=h.len
 have:=h.l40
 rw[bnd h.impl,bnd h.spec]
 exact⟨qZ4 qC4 (fun k v=>by rw[qC4]) (fun y ys k v=>by rw[qC4]) R 0 ⟨#[]⟩ h.r1000 (by show 0+_<=_;omega),rfl⟩
theorem Ran.ag (h:Ran F s ls R S):qGC F s=some (S.ag,true)/\qHS F s=some (S.ag,true):=by
 unfold qGC qHS
 rw[bnd h.impl,bnd h.spec]
 exact⟨rfl,rfl⟩
theorem Ran.perf (hF:4194304<F) (h:Ran F s ls R S):qCk F s=some (S.aa,true)/\qD9 F s=some (S.aa,true):=by
 unfold qCk qD9
 have hw:qAZ (cs S (qGh noB R 0) (qGh whatB R 0) (ls.length:Int)).p (cs S (qGh noB R 0) (qGh whatB R 0) (ls.length:Int)).p.ai=some S.aa:=h.aJ.with (by omega)
 rw[bnd h.impl,bnd h.spec]
 simp only[Bool.not_true,cF,hw,oB9,and_self]
theorem Ran.aK (h:Ran F s ls R S):qD8 F s=some (S.ak,true)/\qFQ F s=some (S.ak,true):=by
 unfold qD8 qFQ
 rw[bnd h.impl,bnd h.spec]
 exact⟨rfl,rfl⟩
theorem Ran.count (h:Ran F s ls R S):qFs F s=some (((qGh noB R 0).length:Int),((qGh whatB R 0).length:Int),w64 ((w64 ((R.length:Int)-((qGh noB R 0).length:Int)))-((qGh whatB R 0).length:Int)),true):=by
 unfold qFs
 have:=h.len
 have:=h.l40
 rw[bnd h.impl]
 dsimp only
 rw[Bool.not_true,cF,qRP (R.length:Int) (qA9 (some S,R,true)) (fun k a b=>by rw[qA9]) (fun y ys k a b=>by rw[qA9]) R 0 0 0 (by omega) (by omega) (by omega) (by omega)]
 simp only[Int.zero_add]
theorem qT9:∀(R:List bD) (k:Nat),(qG0 R k).length=(qGh noB R k).length+(qGh whatB R k).length/\(qG0 R k).length<=R.length
 | [],k=>by simp[qG0,qGh]
 |r::R,k=>by
  obtain⟨ih,ih2⟩:=qT9 R (k+1)
  rw[qG0,qGh,qGh]
  by_cases h1:r=noB
  ·have h2:¬r=whatB:=fun e=>by rw[h1]at e;exact absurd e (by decide)
   rw[if_pos (.inl h1),if_pos h1,if_neg h2];simp only[List.length_cons];omega
  ·by_cases h2:r=whatB
   ·rw[if_pos (.inr h2),if_neg h1,if_pos h2];simp only[List.length_cons];omega
   ·rw[if_neg (by simp[h1,h2]),if_neg h1,if_neg h2];simp only[List.length_cons];omega
theorem Ran.fail (hF:4194304<F) (h:Ran F s ls R S):qD1 F s=some (qG0 R 0,true)/\qDz F s=some (qG0 R 0,true):=by
 unfold qD1 qDz
 have hl:=h.len
 have h40:=h.l40
 have l1:=qRu noB R 0
 have l2:=qRu whatB R 0
 obtain⟨w,w1,w2,w3⟩:=qYC F (by omega) (cs S (qGh noB R 0) (qGh whatB R 0) (ls.length:Int),qOG R ⟨#[]⟩,true) (qGh noB R 0) (by show (qGh noB R 0++qGh whatB R 0).length<=_;rw[List.length_append];omega) (qGh noB R 0++qGh whatB R 0) [] F [] rfl (by rw[List.length_append];omega) List.Pairwise.nil (by simp;omega)
 have hw:w=qG0 R 0:=qSW w2 (qP3 R 0).2 (fun x=>by rw[w3,qSA,List.mem_append];simp)
 rw[bnd h.impl,bnd h.spec]
 dsimp only
 rw[Bool.not_true,cF,cF,show (cs S (qGh noB R 0) (qGh whatB R 0) (ls.length:Int)).no=qGh noB R 0 from rfl,bnd (qR3 _ (by omega)),show (cs S (qGh noB R 0) (qGh whatB R 0) (ls.length:Int)).aA=qGh whatB R 0 from rfl,ndf (by omega) (by omega),oB9]
 refine⟨?_,?_⟩
 ·have:=qVZ qBZ (fun k v=>by rw[qBZ]) (fun y ys k v=>by rw[qBZ]) R 0 [] (by simp;omega)
  rwa [List.nil_append]at this
 ·rw[show qBr F _ _ F [] 0=some (w,true) from w1,hw]
theorem Ran.valid (hF:4194304<F) (h:Ran F s ls R S):qFR F S.ag S.aa=some (true,true)/\qEU S.ak=some true:=by
 constructor
 ·unfold qFR
  rw[bnd h.aJ.aD.ci,Bool.not_true,cF,bnd h.aJ.aD.aJ.2]
 ·obtain⟨b,b1,b2⟩:=qKC S.ak (by have:=h.aJ.aK.2.2.2;omega) (qRS h.aJ.aK)
  rw[b1,b2.2 h.aJ.aK]
theorem Ran.rest (hF:4194304<F) (h:Ran F s ls R S) {t:bD} (ht:toL t=qHg (qL1 ls R)):∃Q,Ran F t (qL1 ls R) Q S:=by
 obtain⟨k1,k2,k3⟩:=qTU ls R
 have hsz:t.size<=2000:=by
  have h1:=h.size
  rw[<-qBP,h.text]at h1
  rw[<-qBP,ht];omega
 obtain⟨Q,S',h'⟩:=qT0 hF (by omega) (qW4 ht (fun y hy=>h.nonl y (k1 y hy)) hsz (by have:=h.l40;omega))
 obtain⟨Q',q⟩:=h.run.keep
 obtain⟨_,rfl⟩:=q.one h'.run
 exact⟨Q,h'⟩
end
theorem qRb:∀(R Q:List bD) (a:bD),qOG (R++Q) a=qOG Q (qOG R a)
 | [],Q,a=>rfl
 |r::R,Q,a=>by rw[List.cons_append,qOG,qOG];exact qRb R Q _
theorem qTV:∀(Q:List bD) (a:bD),∃z,toL (qOG Q a)=toL a++z
 | [],a=>⟨[],by simp[qOG]⟩
 |q::Q,a=>by
  obtain⟨z,hz⟩:=qTV Q (a++(q++(bz [10])))
  exact⟨toL (q++(bz [10]))++z,by rw[qOG,hz,qHW];simp⟩
theorem qXP {F:Nat} (hF:4194304<F) {a b:bD} {la lb lj:List bD} {Ra:List bD} {Sa:ScriptState} (ha:Ran F a la Ra Sa) (hb:b.size<=1048576) (hlb:qAL b=some (lb,true)) (hlj:qAL (a++b)=some (lj,true)) :
  ∃Rj Sj Q,Ran F (a++b) lj Rj Sj/\Rj=Ra++Q:=by
 obtain⟨t1,t2,t3,t4⟩:=qT8 hb hlb
 have hs:(a++b).size<=1048576:=by rw[ByteArray.size_append];have:=ha.size;omega
 obtain⟨Rj,Sj,hj⟩:=qT0 hF hs hlj
 have e:lj=la++lb:=qV1 hj.nonl (fun y hy=>by
  rcases List.mem_append.1 hy with hy|hy
  ·exact ha.nonl y hy
  ·exact t2 y hy) (by rw[<-hj.text,qHW,ha.text,t1,qSc])
 have hz:∀y∈lb,y.size<=2000:=fun y hy=>by
  have:=qVz y hy
  rw[<-t1,qBP,qBP]at this;omega
 obtain⟨Q,Sq,q1,q2,q3⟩:=qWc hF lb Sa ha.aJ hz
 obtain⟨r,_⟩:=(ha.run.app q1).one (e▸hj.run)
 exact⟨Rj,Sj,Q,hj,r.symm⟩
end
section
theorem qVK {F:Nat} (hF:4194304<F) (a b:bD) (ha:a.size<=1048576) (hb:b.size<=1048576):∃j:bD×Bool,qGR a b=some j/\qGP F a b=some j/\(j.2=true->j.1=a++b/\∃la lb lj,qAL a=some (la,true)/\qAL b=some (lb,true)/\qAL (a++b)=some (lj,true)):=by
 unfold qGP qGR
 obtain⟨r1,g1,p1,q1,e1,_⟩:=qJz a (by omega) F hF
 obtain⟨r2,g2,p2,q2,e2,_⟩:=qJz b (by omega) F hF
 have hab:(a++b).size=a.size+b.size:=ByteArray.size_append
 obtain⟨r3,g3,p3,q3,e3,_⟩:=qJz (a++b) (by omega) F hF
 rw[bnd p1,bnd p2,show Nat.ble (a.size+b.size) qDF=true from by rw[Nat.ble_eq];unfold qDF;omega,qC2,oB9,bnd p3,bnd q1,bnd q2,oB9,bnd q3,e1,e2,e3]
 obtain⟨l1,b1⟩:=g1
 obtain⟨l2,b2⟩:=g2
 obtain⟨l3,b3⟩:=g3
 cases b1
 ·exact⟨_,rfl,rfl,fun h=>by cases h⟩
 ·cases b2
  ·exact⟨_,rfl,rfl,fun h=>by cases h⟩
  ·cases b3
   ·exact⟨_,rfl,rfl,fun h=>by cases h⟩
   ·exact⟨_,rfl,rfl,fun _=>⟨rfl,l1,l2,l3,q1,q2,q3⟩⟩
theorem qYy {F:Nat} (hF:4194304<F) {s:bD} {ls R:List bD} {S:ScriptState} (h:Ran F s ls R S):qA0 F s (qG0 R 0,true) F ⟨#[]⟩ 1 0=some true:=by
 have hsz:=h.size
 have hl:=h.len
 have h40:=h.l40
 have htl:=qBP s
 obtain⟨v',a1,a2⟩:=qSV s (by omega) (qG0 R 0) (qA0 F s (qG0 R 0,true)) _ (fun k v n i=>by rw[qA0]) (toL s) [] F ⟨#[]⟩ 1 rfl (by omega) (by omega) (by omega) (by show 0+_<=_;omega)
 obtain⟨k1,k2⟩:=qSL (qG0 R 0) ls R 0 hl h.nonl (fun n _=>Iff.rfl)
 rw[<-h.text]at k1 k2
 have k1:qMf (qG0 R 0) (toL s) 1=qHg (qL1 ls R):=k1
 have k2:qUG (toL s) 1=0+1+(ls.length:Int):=k2
 have a2:qA0 F s (qG0 R 0,true) F ⟨#[]⟩ 1 0=_:=a2
 rw[a2,k2]
 obtain⟨Q,hq⟩:=h.rest hF (t:=v') (by rw[a1,k1];rfl)
 obtain⟨c1,c2⟩:=h.ag
 obtain⟨c3,_⟩:=hq.ag
 obtain⟨p1,p2⟩:=h.perf hF
 obtain⟨p3,_⟩:=hq.perf hF
 obtain⟨r1,r2⟩:=h.aK
 obtain⟨r3,_⟩:=hq.aK
 obtain⟨i1,i2⟩:=h.valid hF
 obtain⟨f1,f2⟩:=qT9 R 0
 rw[bnd c1,bnd c3,bnd c2,bnd p1,bnd p3,bnd p2,bnd r1,bnd r3,bnd r2,bnd h.count]
 simp only[Bool.not_true,Bool.or_false,Bool.not_false,qBx,qZj,qRT,qWE,oB9,Bool.or_self]
 rw[bnd i1]
 simp only[Bool.and_self,qBx,i2,oB9]
 rw[show (w64 (((qGh noB R 0).length:Int)+((qGh whatB R 0).length:Int)) != ((qG0 R 0).length:Int))=false from by rw[qAD (by omega)];simp;omega,
  show (w64 (w64 (((qGh noB R 0).length:Int)+((qGh whatB R 0).length:Int))+w64 (w64 ((R.length:Int)-((qGh noB R 0).length:Int))-((qGh whatB R 0).length:Int))) != w64 (0+1+(ls.length:Int)-1))=false from by
   rw[qAD (n:=((qGh noB R 0).length:Int)+((qGh whatB R 0).length:Int)) (by omega),qAD (n:=(R.length:Int)-((qGh noB R 0).length:Int)) (by omega),qAD (n:=(R.length:Int)-((qGh noB R 0).length:Int)-((qGh whatB R 0).length:Int)) (by omega),qAD (by omega),qAD (by omega)]
   simp;omega]
 rfl
theorem qQP (F:Nat) (hF:4194304<F) (code more:bE) (hw:qN3 code) (hv:qN3 more):qHM F code more=some true:=by
 unfold qHM
 cases decide (w64 ((code.length:Int)+(more.length:Int))>1048576)
 rotate_left
 ·rfl
 rw[cF]
 have co:∀{l:bE},qN3 l->CO l 0 0:=fun h=>⟨h.2,h.1,by omega,by omega⟩
 obtain⟨s,s1,s2⟩:=qVY F (by omega) (co hw)
 obtain⟨x,x1,x2,x3⟩:=qXb F (by omega) (co hv)
 obtain⟨j,j1,j2,j3⟩:=qVK hF x.1 x.2 (by omega) (by omega)
 suffices key:∃(out:bD) (fl:bE×Bool),qDr F s=some out/\qFe F s=some out/\qD1 F s=some fl/\qDz F s=some fl/\(fl.2=true->qA0 F s fl F ⟨#[]⟩ 1 0=some true)/\(fl.2=false->out=⟨#[]⟩) by
  obtain⟨out,fl,o1,o2,f1,f2,ht,hf⟩:=key
  rw[bnd s1,bnd o1,bnd o2,bnd f1,bnd f2,bnd x1,bnd j1,bnd j2]
  simp only[decide_true,beq_self_eq_true,Bool.not_true,Bool.or_self,Bool.not_false,qBx,qR2,oB9,cF]
  have fin:cond (!fl.2) (some (decide (out=(⟨#[]⟩:bD)))) (qA0 F s fl F ⟨#[]⟩ 1 0)=some true:=by
   cases h2:fl.2
   ·rw[Bool.not_false,cW,hf h2,dT rfl]
   ·rw[Bool.not_true,cF,ht h2]
  cases hj:j.2
  ·rw[cF,oB9];exact fin
  ·obtain⟨e,la,lb,lj,q1,q2,q3⟩:=j3 hj
   obtain⟨Ra,Sa,ha⟩:=qT0 hF (by omega) q1
   obtain⟨Rj,Sj,Q,hj',er⟩:=qXP hF ha (by omega) q2 q3
   obtain⟨z,hz⟩:=qTV Q (qOG Ra ⟨#[]⟩)
   have hsz:(qOG Rj ⟨#[]⟩).size=(qOG Ra ⟨#[]⟩).size+z.length:=by rw[er,qRb,<-qBP,hz,List.length_append,qBP]
   rw[cW,bnd ha.out.1,e,bnd hj'.out.1,dF (by omega),Bool.not_false,qBx,show inB 0 ((qOG Ra ⟨#[]⟩).size:Int) ((qOG Rj ⟨#[]⟩).size:Int)=true from by unfold inB;simp;omega,qC2,oB9,Bool.false_or]
   have hex:ByteArray.extract (qOG Rj ⟨#[]⟩) 0 ((qOG Ra ⟨#[]⟩).size:Int).toNat=qOG Ra ⟨#[]⟩:=qGd (by
    rw[Int.toNat_natCast,show toL (ByteArray.extract (qOG Rj ⟨#[]⟩) 0 (qOG Ra ⟨#[]⟩).size)=_ from Go.Lib.extract_data _ 0 _]
    show ((toL (qOG Rj ⟨#[]⟩)).drop 0).take _=_
    rw[er,qRb,hz,List.drop_zero,Nat.sub_zero,<-qBP]
    exact List.take_left' rfl)
   rw[hex,dT rfl,Bool.not_true,cF,oB9]
   exact fin
 rcases qaF hF (s:=s) (by omega) with⟨ls,R,S,h⟩|⟨l2,e1,y,e2⟩
 ·exact⟨_,_,h.out.1,h.out.2,(h.fail hF).1,(h.fail hF).2,fun _=>qYy hF h,fun h=>by cases h⟩
 ·refine⟨⟨#[]⟩,([],false),?_,?_,?_,?_,(fun h=>by cases h),fun _=>rfl⟩
  ·unfold qDr;rw[bnd e1];rfl
  ·unfold qFe;rw[bnd e2]
  ·unfold qD1;rw[bnd e1];rfl
  ·unfold qDz;rw[bnd e2];rfl
theorem qRh (code more:bE) (hw:qN3 code) (hv:qN3 more):qHM 99999999 code more=some true:=qQP 99999999 (by omega) code more hw hv
end
end Go.Proofs.YtkidpkmpnbibmaaGreatDoor

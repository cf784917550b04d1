/- Plain lemmas: what the functions compute is what the reference says, in plain Lean. No condition. -/
import Derived.Test.YtkidpkmpnbibmaaGreatDoorFsLaw
set_option maxRecDepth 4000
set_option maxHeartbeats 1000000
set_option linter.unusedVariables false
set_option linter.unusedSimpArgs false
set_option linter.unusedSectionVars false
namespace Go.Proofs.YtkidpkmpnbibmaaGreatDoor
open Go.AM
section
theorem nZ9 {n:Nat} (h:n≠0):∃k,n=Nat.succ k:=Nat.exists_eq_succ_of_ne_zero h
theorem oB9 {α β:Type} (a:α) (f:α->Option β):(some a).bind f=f a:=rfl
end
section
theorem qD0 (n a b:Int):Ret (qAd n a b) (a<=n/\n<=b):=Ret.some (by simp)
theorem qB8 (n a b:Int):Ret (qAQ n a b) (a<=n/\n<=b):=Ret.some (by simp)
theorem qRx (n:Int):Ret (qJa n) (1<=n/\n<=999):=(qB8 n 1 999).bind (Q:=fun o=>Ret o _) (fun h=>.t h) (fun h=>.f h)
theorem qU3 (l:bE) (n:Int):Ret (qL6 l n) (n∈l):=by
 have key:∀(l:bE) (k:Nat),Ret (qFD n l k) (n∈l):=by
  intro l
  induction l with
  |nil=>intro k;rw[qFD];exact .f (by simp)
  |cons y l ih =>
   intro k
   rw[qFD]
   refine .condR (fun h=>.t ?_) (fun h=>(ih (k+1)).iff ?_)
   ·have:=eq_of_beq h;simp[this]
   ·have:¬y=n:=by simpa using h
    simp[List.mem_cons,show ¬n=y from fun e=>this e.symm]
 exact key l 0
end
section
theorem qR3 (l:bE) (h:l.length<=1048577):qE2 l=some l:=by
 unfold qE2
 rw[bnd (x:=()) (by rw[qGN (by omega)];rfl)]
theorem qP5 (l:bE) (h:l.length<=1048577):qDd l=some l:=by
 unfold qDd
 rw[bnd (x:=()) (by rw[qGN (by omega)];rfl)]
end
section
theorem qJO (lo hi:Int):∀(l:bE) (k:Nat),Ret (qCW lo hi l k) (∀n∈l,lo<=n/\n<=hi):=by
 intro l
 induction l with
 |nil=>intro k;rw[qCW];exact .t (by simp)
 |cons y l ih =>
  intro k
  rw[qCW]
  refine(qB8 y lo hi).bindR (fun h=>?_) (fun h=>.f fun q=>h (q y (by simp)))
  simp only[Bool.not_true,cF]
  refine(ih (k+1)).iff ⟨fun q n hn=>?_,fun q n hn=>q n (by simp[hn])⟩
  rcases List.mem_cons.1 hn with rfl|hn
  ·exact h
  ·exact q n hn
end
section
def qJ5 (l:bE):Prop:=(1<=l.length/\l.length<=9)/\∀x∈l,-1000<=x/\x<=1000
theorem qPQ (lo hi:Int):∀(l:bE) (k:Nat),Ret (qCi lo hi l k) (∀n∈l,lo<=n/\n<=hi):=by
 intro l
 induction l with
 |nil=>intro k;rw[qCi];exact .t (by simp)
 |cons y l ih =>
  intro k
  rw[qCi]
  refine(qD0 y lo hi).bindR (fun h=>?_) (fun h=>.f fun k=>h (k y (by simp)))
  simp only[Bool.not_true,cF]
  refine(ih (k+1)).iff ⟨fun q n hn=>?_,fun q n hn=>q n (by simp[hn])⟩
  rcases List.mem_cons.1 hn with rfl|hn
  ·exact h
  ·exact q n hn
def qSi (l:bE) (k:Int):Prop:=qJ5 l/\0<=k/\k<(l.length:Int)
def bd (l:bE):Prop:=∀x∈l,-1000<=x/\x<=1000
theorem qYD:∀{l:bE},bd l->-1000*(l.length:Int)<=l.sum/\l.sum<=1000*(l.length:Int):=by
 intro l
 induction l with
 |nil=>intro _;simp
 |cons y l ih =>
  intro h
  have h1:=ih fun x hx=>h x (by simp[hx])
  have h2:=h y (by simp)
  simp only[List.sum_cons,List.length_cons]
  omega
theorem qaA:∀(l:bE) (k:Nat) (v:Int),bd l->(-1000000<=v-1000*(l.length:Int)/\v+1000*(l.length:Int)<=1000000)->qBH l k v=some (v+l.sum)/\qCj l k v=some (v+l.sum):=by
 intro l
 induction l with
 |nil=>intro k v _ _;rw[qBH,qCj];simp
 |cons y l ih =>
  intro k v h hv
  simp only[List.length_cons]at hv
  have h2:=h y (by simp)
  rw[qBH,qCj,qAD (by omega),List.sum_cons,<-Int.add_assoc]
  exact ih (k+1) (v+y) (fun x hx=>h x (by simp[hx])) (by omega)
theorem qYM {l:bE} (h:bd l) (hl:l.length<=100):qBM l=some l.sum/\qDA l=some l.sum:=by
 have:=qaA l 0 0 h (by omega)
 rw[Int.zero_add]at this
 exact this
def mxL (l:bE):Int:=l.foldr max (-5000)
def mnL (l:bE):Int:=l.foldr min 5000
theorem qWG:∀(l:bE) (M:Int),mxL l<=M↔-5000<=M/\∀y∈l,y<=M:=by
 intro l M
 induction l with
 |nil=>simp[mxL]
 |cons y l ih =>
  have e:mxL (y::l)=max y (mxL l):=rfl
  rw[e,Int.max_le,ih]
  simp only[List.mem_cons,forall_eq_or_imp]
  constructor
  ·rintro⟨a,b,c⟩;exact⟨b,a,c⟩
  ·rintro⟨a,b,c⟩;exact⟨b,a,c⟩
theorem qVm:∀(l:bE) (M:Int),M<=mnL l↔M<=5000/\∀y∈l,M<=y:=by
 intro l M
 induction l with
 |nil=>simp[mnL]
 |cons y l ih =>
  have e:mnL (y::l)=min y (mnL l):=rfl
  rw[e,Int.le_min,ih]
  simp only[List.mem_cons,forall_eq_or_imp]
  constructor
  ·rintro⟨a,b,c⟩;exact⟨b,a,c⟩
  ·rintro⟨a,b,c⟩;exact⟨b,a,c⟩
theorem qZr {l:bE} {y:Int} (h:y∈l):y<=mxL l:=((qWG l (mxL l)).1 (Int.le_refl _)).2 y h
theorem qaU {l:bE} {y:Int} (h:y∈l):mnL l<=y:=((qVm l (mnL l)).1 (Int.le_refl _)).2 y h
theorem qXj (x:bE) (hx:x.length<=1000):∀(ys pre:bE) (a8:Nat) (m:Int),x=pre++ys->ys.length<a8->-5000<=m->qBT x a8 m (pre.length:Int)=some (max m (mxL ys)):=by
 intro ys
 induction ys with
 |nil =>
  intro pre a8 m h hf hm
  obtain⟨f,rfl⟩:=nZ9 (by omega:a8≠0)
  have e:mxL []=-5000:=rfl
  rw[qBT,dF (by rw[h];simp),cF,e,show max m (-5000)=m from by omega]
 |cons y ys ih =>
  intro pre a8 m h hf hm
  obtain⟨f,rfl⟩:=nZ9 (by omega:a8≠0)
  simp only[List.length_cons]at hf
  have hlen:x.length=pre.length+(ys.length+1):=by rw[h];simp
  rw[qBT,dT (by omega),cW,bnd (qDC h rfl),qAD (by omega)]
  have:=ih (pre++[y]) f (max m y) (by rw[h];simp) (by omega) (by omega)
  rw[show (pre++[y]).length=pre.length+1 from by simp,Int.natCast_add,Int.natCast_one]at this
  have e:mxL (y::ys)=max y (mxL ys):=rfl
  rw[this,e,show max (max m y) (mxL ys)=max m (max y (mxL ys)) from by omega]
theorem qW3 (x:bE) (hx:x.length<=1000):∀(ys pre:bE) (a8:Nat) (m:Int),x=pre++ys->ys.length<a8->m<=5000->qDH x a8 m (pre.length:Int)=some (min m (mnL ys)):=by
 intro ys
 induction ys with
 |nil =>
  intro pre a8 m h hf hm
  obtain⟨f,rfl⟩:=nZ9 (by omega:a8≠0)
  have e:mnL []=5000:=rfl
  rw[qDH,dF (by rw[h];simp),cF,e,show min m 5000=m from by omega]
 |cons y ys ih =>
  intro pre a8 m h hf hm
  obtain⟨f,rfl⟩:=nZ9 (by omega:a8≠0)
  simp only[List.length_cons]at hf
  have hlen:x.length=pre.length+(ys.length+1):=by rw[h];simp
  rw[qDH,dT (by omega),cW,bnd (qDC h rfl),qAD (by omega)]
  have:=ih (pre++[y]) f (min m y) (by rw[h];simp) (by omega) (by omega)
  rw[show (pre++[y]).length=pre.length+1 from by simp,Int.natCast_add,Int.natCast_one]at this
  have e:mnL (y::ys)=min y (mnL ys):=rfl
  rw[this,e,show min (min m y) (mnL ys)=min m (min y (mnL ys)) from by omega]
theorem qY5 {l:bE} (h:qJ5 l) (a8:Nat) (hf:1000<a8):qEt a8 l=some (mxL l)/\qHQ a8 l=some (mnL l):=by
 unfold qEt qHQ
 have h1:=h.1
 have h2:=h.2
 cases l with
 |nil=>simp at h1
 |cons y ys =>
  have hy:=h2 y (by simp)
  simp only[List.length_cons]at h1
  rw[dF (by simp;omega),cF,bnd (show qAV (y::ys) 0=some y from rfl),cF,bnd (show qAV (y::ys) 0=some y from rfl)]
  exact⟨qXj (y::ys) (by simp;omega) ys [y] a8 y rfl (by omega) (by omega),qW3 (y::ys) (by simp;omega) ys [y] a8 y rfl (by omega) (by omega)⟩
theorem qU2 (y:Int) (v:bE) (hv:v.length<=1000) (hs:v.Pairwise (·>=·)):∀(n:Nat) (A B:bE) (f:Nat),A.length=n->v=A++B->n<f->(∀b∈B,b<y)->
  ∃A' B',v=A'++B'/\qD3 y v f (A.length:Int)=some (A'.length:Int)/\(∀b∈B',b<y)/\(∀a∈A',y<=a):=by
 intro n
 induction n with
 |zero =>
  intro A B f hA h hf hB
  obtain⟨f,rfl⟩:=nZ9 (by omega:f≠0)
  obtain rfl:A=[]:=List.eq_nil_of_length_eq_zero hA
  refine⟨[],B,h,?_,hB,by simp⟩
  rw[qD3]
  rfl
 |succ n ih =>
  intro A B f hA h hf hB
  obtain⟨f,rfl⟩:=nZ9 (by omega:f≠0)
  rcases List.eq_nil_or_concat A with h0|⟨A0,a,h0⟩
  ·rw[h0]at hA;simp at hA
  ·rw[List.concat_eq_append]at h0
   subst h0
   have hA0:A0.length=n:=by simp at hA;omega
   have hvl:v.length=n+1+B.length:=by rw[h];simp;omega
   have hg:qAV v (n:Int)=some a:=qDC (pre:=A0) (y:=a) (ys:=B) (by rw[h];simp) (by omega)
   rw[qD3,hA,dT (by omega),qBx,qAD (by omega),show ((n+1:Nat):Int)-1=(n:Int) from by omega,bnd hg,Bool.true_and]
   by_cases hc:a<y
   ·rw[dT hc,cW]
    have:=ih A0 (a::B) f hA0 (by rw[h];simp) (by omega) (fun b hb=>by
     rcases List.mem_cons.1 hb with rfl|hb
     ·exact hc
     ·exact hB b hb)
    rw[hA0]at this
    exact this
   ·rw[dF hc,cF]
    refine⟨A0++[a],B,h,by rw[hA],hB,fun x hx=>?_⟩
    rw[h]at hs
    have hp:=(List.pairwise_append.1 (List.pairwise_append.1 hs).1).2.2
    rcases List.mem_append.1 hx with hx|hx
    ·have:=hp x hx a (by simp);omega
    ·rw[List.mem_singleton.1 hx];omega
theorem qVX (a8:Nat) (hf:2000<a8):∀(ys:bE) (k:Nat) (acc:bE),acc.Pairwise (·>=·)->acc.length+ys.length<=900->∃S,qC9 a8 ys k acc=some S/\S.Perm (acc++ys)/\S.Pairwise (·>=·):=by
 intro ys
 induction ys with
 |nil=>intro k acc h _;exact⟨acc,by rw[qC9],by simp,h⟩
 |cons y ys ih =>
  intro k acc h hl
  simp only[List.length_cons]at hl
  obtain⟨A,B,e1,e2,e3,e4⟩:=qU2 y acc (by omega) h acc.length acc [] a8 rfl (by simp) (by omega) (by simp)
  have hlen:acc.length=A.length+B.length:=by rw[e1];simp
  have hp:=List.pairwise_append.1 (e1▸h)
  rw[qC9,bnd e2,bnd (show qFT acc (A.length:Int)=some A from by rw[e1];exact qNI A B rfl),qGN (by omega),qC2,oB9,qGN (by simp;omega),qC2,oB9,
   bnd (show qCq acc (A.length:Int)=some B from by rw[qQy rfl (by omega),e1];simp),qGN (by simp;omega),qC2,oB9]
  obtain⟨S,s1,s2,s3⟩:=ih (k+1) (A++[y]++B) (by
   rw[List.append_assoc]
   refine List.pairwise_append.2 ⟨hp.1,List.pairwise_cons.2 ⟨fun b hb=>by have:=e3 b hb;omega,hp.2.1⟩,fun a ha b hb=>?_⟩
   rcases List.mem_cons.1 hb with rfl|hb
   ·exact e4 a ha
   ·exact hp.2.2 a ha b hb) (by simp;omega)
  refine⟨S,s1,s2.trans ?_,s3⟩
  rw[e1]
  simp only[List.append_assoc]
  refine List.Perm.append_left A ?_
  show ([y]++(B++ys)).Perm (B++([y]++ys))
  rw[<-List.append_assoc,<-List.append_assoc]
  exact List.Perm.append_right ys List.perm_append_comm
theorem qWO {l:bE} (h:qJ5 l) (a8:Nat) (hf:2000<a8):∃S,qJY a8 l=some S/\S.length=l.length/\qAV S 0=some (mxL l)/\qAV S ((S.length:Int)-1)=some (mnL l)/\∀x∈S,x∈l:=by
 have h1:=h.1
 have h2:=h.2
 obtain⟨S,s1,s2,s3⟩:=qVX a8 hf l 0 [] List.Pairwise.nil (by simp;omega)
 rw[List.nil_append]at s2
 refine⟨S,s1,s2.length_eq,?_,?_,fun x hx=>s2.mem_iff.1 hx⟩
 ·cases S with
  |nil=>have:=s2.length_eq;simp at this;omega
  |cons s S =>
   have hs:s∈l:=s2.mem_iff.1 (by simp)
   have hb:=h2 s hs
   have e:mxL l=s:=by
    have a:mxL l<=s:=(qWG l s).2 ⟨by omega,fun y hy=>by
     rcases List.mem_cons.1 (s2.mem_iff.2 hy) with rfl|q
     ·omega
     ·exact(List.pairwise_cons.1 s3).1 y q⟩
    have b:=qZr hs
    omega
   rw[e];rfl
 ·rcases List.eq_nil_or_concat S with h0|⟨S0,t,h0⟩
  ·have:=s2.length_eq;rw[h0]at this;simp at this;omega
  ·rw[List.concat_eq_append]at h0
   have ht:t∈l:=s2.mem_iff.1 (by rw[h0];simp)
   have hb:=h2 t ht
   have e:mnL l=t:=by
    have a:t<=mnL l:=(qVm l t).2 ⟨by omega,fun y hy=>by
     have hy':=s2.mem_iff.2 hy
     rw[h0]at hy' s3
     rcases List.mem_append.1 hy' with q|q
     ·exact(List.pairwise_append.1 s3).2.2 y q t (by simp)
     ·rw[List.mem_singleton.1 q];omega⟩
    have b:=qaU ht
    omega
   rw[e]
   exact qDC (pre:=S0) (y:=t) (ys:=[]) h0 (by rw[h0];simp)
def tS (l:bE):Int:=if l.length<5 then l.sum else l.sum-mxL l-mnL l
def nS (l:bE):Int:=if l.length<5 then (l.length:Int) else (l.length:Int)-2
theorem qZ2 {l:bE} (h:qJ5 l):(-1000<=mxL l/\mxL l<=1000)/\(-1000<=mnL l/\mnL l<=1000):=by
 have h1:=h.1
 have h2:=h.2
 cases l with
 |nil=>simp at h1
 |cons y l =>
  have hy:=h2 y (by simp)
  have a:=qZr (l:=y::l) (y:=y) (by simp)
  have b:=qaU (l:=y::l) (y:=y) (by simp)
  have c:mxL (y::l)<=1000:=(qWG _ _).2 ⟨by omega,fun z hz=>(h2 z hz).2⟩
  have d:-1000<=mnL (y::l):=(qVm _ _).2 ⟨by omega,fun z hz=>(h2 z hz).1⟩
  omega
theorem qVs {l:bE} (h:qJ5 l):-20000<=tS l/\tS l<=20000:=by
 have h1:=h.1
 have h2:=qYD h.2
 have h3:=qZ2 h
 unfold tS
 split<;>omega
theorem qVl {l:bE} (h:qJ5 l):1<=nS l/\nS l<=9:=by
 have h1:=h.1
 unfold nS
 split<;>omega
theorem qNy {l:bE} (h:qJ5 l) (a8:Nat) (hf:2000<a8):qFW a8 l=some (tS l,nS l)/\qHn a8 l=some (tS l,nS l):=by
 have h1:=h.1
 have h2:=qYD h.2
 have h3:=qZ2 h
 obtain⟨a1,a2⟩:=qYM h.2 (by omega)
 obtain⟨m1,m2⟩:=qY5 h a8 (by omega)
 obtain⟨S,s1,s2,s3,s4,_⟩:=qWO h a8 hf
 unfold qFW qHn tS nS
 by_cases h5:l.length<5
 ·rw[dT (by omega),cW,bnd a1,bnd a2,cW,if_pos h5,if_pos h5]
  exact⟨rfl,rfl⟩
 ·rw[dF (by omega),cF,bnd a1,bnd m1,bnd m2,bnd a2,cF,bnd s1,bnd s3,qAD (n:=(S.length:Int)-1) (by omega),bnd s4,if_neg h5,if_neg h5,qAD (n:=l.sum-mxL l) (by omega),qAD (n:=l.sum-mxL l-mnL l) (by omega),qAD (n:=(l.length:Int)-2) (by omega)]
  exact⟨rfl,rfl⟩
end
section
theorem qW1 {l:bE} {k:Int} (h:qSi l k):∃pre x post,l=pre++x::post/\(pre.length:Int)=k/\qAV l k=some x/\∀v,l.set k.toNat v=pre++v::post:=by
 have hk:k.toNat<l.length:=by have:=h.2;omega
 have hs:l=l.take k.toNat++l[k.toNat]::l.drop (k.toNat+1):=by rw[List.getElem_cons_drop hk,List.take_append_drop]
 have hp:(l.take k.toNat).length=k.toNat:=by rw[List.length_take];omega
 refine⟨l.take k.toNat,l[k.toNat],l.drop (k.toNat+1),hs,by have:=h.2;omega,?_,fun v=>?_⟩
 ·rw[qEm (k:=k.toNat) (by have:=h.2;omega)];exact List.getElem?_eq_getElem hk
 ·rw[List.set_eq_take_append_cons_drop,if_pos hk]
theorem qTi {l:bE} {k v:Int} (h:qSi l k) (hv:-1000<=v/\v<=1000):qJ5 (l.set k.toNat v)/\nS (l.set k.toNat v)=nS l:=by
 refine⟨⟨by simpa using h.1.1,fun x hx=>?_⟩,by unfold nS;rw[List.length_set]⟩
 rcases List.mem_or_eq_of_mem_set hx with hx|rfl
 ·exact h.1.2 x hx
 ·exact hv
end
section
theorem qQv (lo hi:Int):∀(l:bE) (k:Nat),Ret (qCi lo hi l k) (∀n∈l,lo<=n/\n<=hi):=by
 intro l
 induction l with
 |nil=>intro k;rw[qCi];exact .t (by simp)
 |cons y l ih =>
  intro k
  rw[qCi]
  refine(qD0 y lo hi).bindR (fun h=>?_) (fun h=>.f fun k=>h (k y (by simp)))
  simp only[Bool.not_true,cF]
  refine(ih (k+1)).iff ⟨fun q n hn=>?_,fun q n hn=>q n (by simp[hn])⟩
  rcases List.mem_cons.1 hn with rfl|hn
  ·exact h
  ·exact q n hn
theorem qZv (s:bD) (hs:s.size<=1048576):∀(m v a8:Nat),v+m=s.size->m<a8->∃b,qAx s a8 (v:Int)=some b/\qFK s a8 (v:Int)=some b:=by
 intro m
 induction m with
 |zero =>
  intro v a8 h hf
  obtain⟨f,rfl⟩:=nZ9 (by omega:a8≠0)
  rw[qAx,qFK,dF (by omega),cF,cF]
  obtain⟨b,e1,e2⟩:=qD0 (s.size:Int) 1 5
  obtain⟨b',e3,e4⟩:=qB8 (s.size:Int) 1 5
  obtain rfl:b=b':=Bool.eq_iff_iff.2 (e2.trans e4.symm)
  rw[bnd e1,bnd e3]
  exact⟨b,rfl,rfl⟩
 |succ m ih =>
  intro v a8 h hf
  obtain⟨f,rfl⟩:=nZ9 (by omega:a8≠0)
  have hv:v<s.size:=by omega
  have hi:qNC s (v:Int)=some s[v]:=by unfold qNC;rw[if_pos (by omega)];simp[hv]
  obtain⟨b,b1,b2⟩:=ih (v+1) f (by omega) (by omega)
  rw[show (((v+1:Nat):Int))=(v:Int)+1 from by omega]at b1 b2
  rw[qAx,qFK,dT (by omega),cW,cW,bnd hi,bnd hi]
  unfold qK6
  rw[oB9,qAD (by omega)]
  have hc:((decide ((s[v].toNat:Int)<65)||decide ((s[v].toNat:Int)>90))&&(decide ((s[v].toNat:Int)<48)||decide ((s[v].toNat:Int)>57)))=!((decide ((s[v].toNat:Int)>=65)&&decide ((s[v].toNat:Int)<=90))||(decide ((s[v].toNat:Int)>=48)&&decide ((s[v].toNat:Int)<=57))):=by
   rw[Bool.eq_iff_iff]
   simp only[Bool.and_eq_true,Bool.or_eq_true,decide_eq_true_eq,Bool.not_eq_true',Bool.or_eq_false_iff,Bool.and_eq_false_iff,decide_eq_false_iff_not]
   omega
  rw[hc]
  cases ((decide ((s[v].toNat:Int)>=65)&&decide ((s[v].toNat:Int)<=90))||(decide ((s[v].toNat:Int)>=48)&&decide ((s[v].toNat:Int)<=57)))
  ·exact⟨false,rfl,rfl⟩
  ·exact⟨b,b1,b2⟩
theorem qVC (s:bD) (hs:s.size<=1048576) (a8:Nat) (hf:1048576<a8):∃b,qJE a8 s=some b/\qGp a8 s=some b:=by
 obtain⟨b,b1,b2⟩:=qZv s hs s.size 0 a8 (by omega) (by omega)
 exact⟨b,by unfold qJE;rw[show qD5 a8 s=some b from b1];rfl,b2⟩
def qGQ (it:Item):Prop:=(1<=it.aj.length/\it.aj.length<=3)/\it.ae.length=it.aj.length
theorem qYH (it:Item) (a8:Nat) (hf:1048576<a8):∀(ys:List bD) (k:Nat),(∀s∈ys,s.size<=1048576)->∃b,qEE it a8 ys k=some b/\qCC it a8 ys k=some b/\(b=true->qGQ it):=by
 intro ys
 induction ys with
 |nil =>
  intro k _
  rw[qEE,qCC]
  obtain⟨b,e1,e2⟩:=qD0 (it.aj.length:Int) 1 3
  obtain⟨b',e3,e4⟩:=qB8 (it.aj.length:Int) 1 3
  obtain rfl:b=b':=Bool.eq_iff_iff.2 (e2.trans e4.symm)
  rw[bnd e1,bnd e3]
  cases b
  ·exact⟨false,rfl,rfl,by simp⟩
  ·by_cases hl:it.ae.length=it.aj.length
   ·rw[show ((it.ae.length:Int)==(it.aj.length:Int))=true from by rw[hl];simp]
    simp only[Bool.true_and,qBx]
    obtain⟨c,c1,c2⟩:=qQv 0 3 it.ae 0
    obtain⟨c',c3,c4⟩:=qJO 0 3 it.ae 0
    obtain rfl:c=c':=Bool.eq_iff_iff.2 (c2.trans c4.symm)
    rw[show qCR it.ae 0 3=some c from c3,show qC3 it.ae 0 3=some c from c1]
    exact⟨c,rfl,rfl,fun _=>⟨by have:=e2.1 rfl;omega,hl⟩⟩
   ·rw[show ((it.ae.length:Int)==(it.aj.length:Int))=false from by simp only[beq_eq_false_iff_ne,ne_eq];omega]
    exact⟨false,rfl,rfl,by simp⟩
 |cons y ys ih =>
  intro k h
  obtain⟨b,b1,b2⟩:=qVC y (h y (by simp)) a8 hf
  rw[qEE,qCC,bnd b1,bnd b2]
  cases b
  ·exact⟨false,rfl,rfl,by simp⟩
  ·exact ih (k+1) fun s hs=>h s (by simp[hs])
theorem qYe (l:List Item) (a8:Nat) (hf:1048576<a8):∀(ys:List Item) (k:Nat),(∀it∈ys,∀s∈it.aj,s.size<=1048576)->∃b,qC5 l a8 ys k=some b/\qCI l a8 ys k=some b/\(b=true->l.length<=14/\∀it∈ys,qGQ it):=by
 intro ys
 induction ys with
 |nil =>
  intro k _
  rw[qC5,qCI]
  exact⟨_,rfl,rfl,fun h=>⟨by have:=of_decide_eq_true h;omega,by simp⟩⟩
 |cons y ys ih =>
  intro k h
  obtain⟨b,b1,b2,b3⟩:=qYH y a8 hf y.aj 0 (h y (by simp))
  rw[qC5,qCI,bnd (show qGs a8 y=some b from b1),bnd (show qEA a8 y=some b from b2)]
  cases b
  ·exact⟨false,rfl,rfl,by simp⟩
  ·obtain⟨c,c1,c2,c3⟩:=ih (k+1) fun it hi=>h it (by simp[hi])
   refine⟨c,c1,c2,fun hc=>⟨(c3 hc).1,fun it hi=>?_⟩⟩
   rcases List.mem_cons.1 hi with rfl|hi
   ·exact b3 rfl
   ·exact(c3 hc).2 it hi
def qEe (l:List Item):Prop:=l.length<=14/\∀it∈l,qGQ it
theorem qN0 (l:List Item) (hl:∀it∈l,∀s∈it.aj,s.size<=1048576) (a8:Nat) (hf:1048576<a8):∃b,qFb a8 l=some b/\qFw a8 l=some b/\(b=true->qEe l):=qYe l a8 hf l 0 hl
def qXF (l:List Item):Prop:=∀it∈l,∀s∈it.aj,s.size<=1048576
end
section
abbrev toL (s:bD):List UInt8:=s.data.toList
theorem qGd {s t:bD} (h:toL s=toL t):s=t:=ByteArray.ext (Array.ext' h)
theorem qHU:∀{l m:List bD},l.map toL=m.map toL->l=m
 | [],[],_=>rfl
 | [],_::_,h=>by simp at h
 |_::_,[],h=>by simp at h
 |x::l,y::m,h=>by
  rw[List.map_cons,List.map_cons]at h
  rw[qGd (List.cons.inj h).1,qHU (List.cons.inj h).2]
def qJB (c:UInt8):List UInt8->List (List UInt8)
 | []=>[[]]
 |b::l=>if b=c then []::qJB c l else match qJB c l with | []=>[[b]]|h::t=>(b::h)::t
theorem qKu (c:UInt8):∀l:List UInt8,(qJB c l).length=l.count c+1
 | []=>rfl
 |b::l=>by
  have ih:=qKu c l
  unfold qJB
  by_cases h:b=c
  ·subst h;rw[if_pos rfl,List.length_cons,ih,List.count_cons_self]
  ·rw[if_neg h,List.count_cons_of_ne (by simpa using h)]
   split
   ·rename_i e;rw[e]at ih;simp at ih
   ·rename_i x t e;rw[e]at ih;simpa using ih
theorem qQB (c:UInt8):∀l:List UInt8,(∀x∈l,x≠c)->qJB c l=[l]
 | [],_=>rfl
 |b::l,h=>by
  unfold qJB
  rw[if_neg (h b (by simp)),qQB c l fun x hx=>h x (by simp[hx])]
theorem qKj (c:UInt8) (m:List UInt8):∀l:List UInt8,(∀x∈l,x≠c)->qJB c (l++c::m)=l::qJB c m
 | [],_=>by rw[List.nil_append,qJB,if_pos rfl]
 |b::l,h=>by
  rw[List.cons_append,qJB,if_neg (h b (by simp)),qKj c m l fun x hx=>h x (by simp[hx])]
theorem qWL (c:UInt8):∀(n:Nat) (s:List UInt8),s.length<=n->Go.Lib.split s [c]=qJB c s:=by
 intro n
 induction n with
 |zero =>
  intro s h
  obtain rfl:s=[]:=List.length_eq_zero_iff.1 (by omega)
  have h1:Go.Lib.index [] [c]=-1:=by rw[Go.Lib.index_one];rfl
  unfold Go.Lib.split
  rw[Go.Lib.count_miss h1];rfl
 |succ n ih =>
  intro s hs
  have hi:=Go.Lib.index_one s c
  by_cases h:Go.Lib.indexByte s c=-1
  ·unfold Go.Lib.split
   rw[h]at hi
   rw[Go.Lib.count_miss hi]
   rw[qQB c s fun x hx e=>by
    obtain⟨k,hk⟩:=List.getElem?_of_mem hx
    exact Go.Lib.indexByte_none h k (e▸hk)]
   rfl
  ·have hge:=Go.Lib.indexByte_ge s c
   obtain⟨o,ho⟩:∃o:Nat,Go.Lib.indexByte s c=o:=⟨(Go.Lib.indexByte s c).toNat,by omega⟩
   obtain⟨q1,q2⟩:=Go.Lib.indexByte_some ho
   rw[ho]at hi
   have hlt:o<s.length:=(List.getElem?_eq_some_iff.1 q1).1
   have e:s=s.take o++c::s.drop (o+1):=by
    have:=List.take_append_drop o s
    rw[List.drop_eq_getElem_cons hlt,(List.getElem?_eq_some_iff.1 q1).2]at this
    exact this.symm
   have hr:=ih (s.drop (o+1)) (by rw[List.length_drop];omega)
   have hc:qJB c s=s.take o::qJB c (s.drop (o+1)):=by
    conv=>lhs;rw[e]
    exact qKj c _ _ fun x hx e=>by
     obtain⟨k,hk⟩:=List.getElem?_of_mem hx
     have hk2:=(List.getElem?_eq_some_iff.1 hk).1
     rw[List.length_take]at hk2
     rw[List.getElem?_take,if_pos (by omega)]at hk
     exact q2 k (by omega) (e▸hk)
   rw[hc,<-hr]
   unfold Go.Lib.split
   rw[Go.Lib.count_hit (by simp) hi,Nat.add_comm,Go.Lib.splitK,if_neg (by rw[hi];simp),hi]
   simp
theorem qOa (s:bD) (c:UInt8):(qIi s ⟨#[c]⟩).map toL=qJB c (toL s):=by
 have:=Go.Lib.splitB_data ⟨#[c]⟩ 0 (Go.Lib.countB s ⟨#[c]⟩) s
 exact this.trans (qWL c (toL s).length (toL s) (Nat.le_refl _))
theorem qYx (s:bD) (i:Nat):s[i]?=(toL s)[i]?:=by
 by_cases h:i<s.size
 ·rw[ByteArray.getElem?_lt' s i h,List.getElem?_eq_getElem (by rw[<-Go.Lib.size_eq];exact h)]
  rfl
 ·rw[ByteArray.getElem?_ge' s i h,List.getElem?_eq_none (by rw[<-Go.Lib.size_eq];omega)]
theorem qMD {s:bD} {i:Int} {k:Nat} (h:i=(k:Int)):qNC s i=(toL s)[k]?:=by
 subst h;unfold qNC;rw[if_pos (by omega),Int.toNat_natCast,qYx]
theorem qWg (s:bD) (hn:s.size<=4194304) (c:UInt8):∀(m k i fr:Nat) (out:List bD),i+m=s.size->m<k->fr<=i->(∀x∈((toL s).drop fr).take (i-fr),x≠c)->out.length+m<=4194304->
  ∃r,qDj s ((c.toNat:Nat):Int) k out (fr:Int) (i:Int)=some (out++r)/\r.map toL=qJB c ((toL s).drop fr):=by
 have hsz:=Go.Lib.size_eq s
 intro m
 induction m with
 |zero =>
  intro k i fr out h1 h2 h3 h4 h5
  obtain⟨k,rfl⟩:=nZ9 (by omega:k≠0)
  rw[qDj,dF (by omega),cF,show inB (fr:Int) s.size s.size=true from by unfold inB;simp;omega,qC2,oB9,qGN (by simp;omega),qC2,oB9]
  refine⟨_,rfl,?_⟩
  rw[qQB c _ fun x hx=>h4 x (by rw[List.take_of_length_le (by rw[List.length_drop,<-hsz];omega)];exact hx)]
  simp only[List.map_cons,List.map_nil,Int.toNat_natCast]
  exact congrArg (fun x=>[x]) (Go.Lib.extract_to_end s fr)
 |succ m ih =>
  intro k i fr out h1 h2 h3 h4 h5
  obtain⟨k,rfl⟩:=nZ9 (by omega:k≠0)
  have hlt:i<(toL s).length:=by rw[<-hsz];omega
  rw[qDj,dT (by omega),cW,qMD rfl,List.getElem?_eq_getElem hlt,oB9,qAD (by omega)]
  by_cases hx:(toL s)[i]=c
  ·rw[hx,show ((c.toNat:Int)==((c.toNat:Nat):Int))=true from beq_self_eq_true _,cW,show inB (fr:Int) (i:Int) s.size=true from by unfold inB;simp;omega,qC2,oB9,qGN (by simp;omega),qC2,oB9]
   obtain⟨r,r1,r2⟩:=ih k (i+1) (i+1) (out++[ByteArray.extract s (fr:Int).toNat (i:Int).toNat]) (by omega) (by omega) (Nat.le_refl _) (by simp) (by simp;omega)
   refine⟨ByteArray.extract s fr i::r,?_,?_⟩
   ·rw[show ((i:Int)+1)=((i+1:Nat):Int) from by omega,r1];simp
   ·have hp:toL (ByteArray.extract s fr i)=((toL s).drop fr).take (i-fr):=Go.Lib.extract_data s fr i
    rw[List.map_cons,r2,hp]
    have e:(toL s).drop fr=((toL s).drop fr).take (i-fr)++c::(toL s).drop (i+1):=by
     have:=List.take_append_drop (i-fr) ((toL s).drop fr)
     rw[List.drop_drop,show fr+(i-fr)=i from by omega,List.drop_eq_getElem_cons hlt,hx]at this
     exact this.symm
    conv=>rhs;rw[e]
    rw[qKj c _ _ h4]
  ·rw[show (((toL s)[i].toNat:Int)==((c.toNat:Nat):Int))=false from by
    rw[beq_eq_false_iff_ne];intro e;exact hx (UInt8.toNat_inj.1 (by omega)),cF,show ((i:Int)+1)=((i+1:Nat):Int) from by omega]
   refine ih k (i+1) fr out (by omega) (by omega) (by omega) (fun x hxm=>?_) (by omega)
   rw[show i+1-fr=(i-fr)+1 from by omega,List.take_add_one,List.mem_append]at hxm
   rcases hxm with hxm|hxm
   ·exact h4 x hxm
   ·rw[List.getElem?_drop,show fr+(i-fr)=i from by omega,List.getElem?_eq_getElem hlt]at hxm
    simp at hxm
    rw[hxm];exact hx
theorem qOR (s:bD) (hn:s.size<=4194304) (c:UInt8) (a8:Nat) (hf:4194304<a8):∃r,qA8 a8 s ((c.toNat:Nat):Int)=some r/\r.map toL=qJB c (toL s):=by
 obtain⟨r,r1,r2⟩:=qWg s hn c s.size a8 0 0 [] (by omega) (by omega) (Nat.le_refl _) (by simp) (by simp;omega)
 exact⟨r,r1,r2⟩
end
section
def qPS (n:Nat):List UInt8:=if n<10 then [UInt8.ofNat (48+n)] else qPS (n/10)++[UInt8.ofNat (48+n%10)]
termination_by n
decreasing_by omega
def qNL (l:List UInt8):Nat:=l.foldl (fun v b=>10*v+(b.toNat-48)) 0
def qWp (l:List UInt8):Prop:=∀b∈l,48<=b.toNat/\b.toNat<=57
def qSh (l:List UInt8):Prop:=l≠[]/\qWp l/\(1<l.length->l.head?≠some 48)
theorem qUs {n:Nat} (h:n<10):(UInt8.ofNat (48+n)).toNat=48+n:=by
 rw[UInt8.toNat_ofNat'];omega
theorem qRp (l:List UInt8) (b:UInt8):qNL (l++[b])=10*qNL l+(b.toNat-48):=by
 unfold qNL;rw[List.foldl_append];rfl
theorem qaB (n:Nat):qPS n≠[]:=by
 rw[qPS];split<;>simp
theorem qYj (n:Nat):qWp (qPS n):=by
 induction n using Nat.strongRecOn with
 |_ n ih =>
  rw[qPS]
  split
  ·rename_i h
   intro b hb
   rw[List.mem_singleton.1 hb,qUs h];omega
  ·rename_i h
   intro b hb
   rcases List.mem_append.1 hb with hb|hb
   ·exact ih (n/10) (by omega) b hb
   ·rw[List.mem_singleton.1 hb,qUs (Nat.mod_lt _ (by omega))];omega
theorem qZA {l:List UInt8} (h:qSh l) (h1:1<l.length):0<qNL l:=by
 obtain⟨_,hd,hh⟩:=h
 cases l with
 |nil=>simp at h1
 |cons b l =>
  have hb:=hd b (by simp)
  have hb2:b.toNat≠48:=fun e=>hh h1 (by simp;exact UInt8.toNat_inj.1 e)
  have key:∀(m:List UInt8) (v:Nat),0<v->0<m.foldl (fun v b=>10*v+(b.toNat-48)) v:=by
   intro m
   induction m with
   |nil=>intro v hv;exact hv
   |cons c m ih=>intro v hv;exact ih (10*v+(c.toNat-48)) (by omega)
  exact key l (10*0+(b.toNat-48)) (by omega)
theorem qWD:∀(n:Nat) (l:List UInt8),l.length=n->qSh l->qPS (qNL l)=l:=by
 intro n
 induction n with
 |zero=>intro l hl h;exact absurd (List.eq_nil_of_length_eq_zero hl) h.1
 |succ n ih =>
  intro l hl h
  rcases List.eq_nil_or_concat l with rfl|⟨m,b,rfl⟩
  ·simp at hl
  simp only[List.concat_eq_append]at *
  have hb:=h.2.1 b (by simp)
  have hlt:b.toNat<256:=b.toNat_lt
  rw[qRp]
  have hbo:UInt8.ofNat (48+(b.toNat-48))=b:=by
   apply UInt8.toNat_inj.1
   rw[qUs (by omega)];omega
  cases hm:m with
  |nil =>
   show qPS (10*0+(b.toNat-48))=[b]
   rw[Nat.mul_zero,Nat.zero_add,qPS,if_pos (by omega),hbo]
  |cons c m' =>
   have hcm:qSh m:=by
    refine⟨by rw[hm];simp,fun x hx=>h.2.1 x (by simp[hx]),fun h1=>?_⟩
    have:=h.2.2 (by simp;omega)
    rw[hm]at this⊢
    simpa using this
   have hpos:0<qNL m:=by
    by_cases h1:1<m.length
    ·exact qZA hcm h1
    ·have hm':m'=[]:=by rw[hm]at h1;simp at h1;exact h1
     subst hm'
     have hh:=h.2.2 (by rw[hm];simp)
     rw[hm]at hh⊢
     have hc:=h.2.1 c (by rw[hm];simp)
     have:c.toNat≠48:=fun e=>hh (by simp;exact UInt8.toNat_inj.1 e)
     show 0<10*0+(c.toNat-48)
     omega
   have e:=ih m (by simp at hl;omega) hcm
   rw[<-hm,qPS,if_neg (by omega),show (10*qNL m+(b.toNat-48))/10=qNL m from by omega,show (10*qNL m+(b.toNat-48))%10=b.toNat-48 from by omega,e,hbo]
def qNZ (c:UInt8):List (List UInt8)->List UInt8
 | []=>[]
 | [x]=>x
 |x::y::l=>x++c::qNZ c (y::l)
theorem qN8 (c:UInt8) (l:List UInt8):qJB c l≠[]:=by
 intro h
 have:=qKu c l
 rw[h]at this;simp at this
theorem qLB (c:UInt8):∀l:List UInt8,qNZ c (qJB c l)=l
 | []=>rfl
 |b::l=>by
  have ih:=qLB c l
  rw[qJB]
  by_cases h:b=c
  ·rw[if_pos h]
   cases hq:qJB c l with
   |nil=>exact absurd hq (qN8 c l)
   |cons x t =>
    rw[hq]at ih
    show []++c::qNZ c (x::t)=b::l
    rw[ih,h];rfl
  ·rw[if_neg h]
   cases hq:qJB c l with
   |nil=>exact absurd hq (qN8 c l)
   |cons x t =>
    rw[hq]at ih
    show qNZ c ((b::x)::t)=b::l
    rw[<-ih]
    cases t<;>rfl
theorem qT4 (c:UInt8):∀(l:List UInt8),∀x∈qJB c l,∀b∈x,b≠c
 | [],x,hx,b,hb=>by rw[qJB]at hx;rw[List.mem_singleton.1 hx]at hb;cases hb
 |y::l,x,hx,b,hb=>by
  rw[qJB]at hx
  by_cases h:y=c
  ·rw[if_pos h]at hx
   rcases List.mem_cons.1 hx with rfl|hx
   ·cases hb
   ·exact qT4 c l x hx b hb
  ·rw[if_neg h]at hx
   cases hq:qJB c l with
   |nil=>exact absurd hq (qN8 c l)
   |cons z t =>
    rw[hq]at hx
    rcases List.mem_cons.1 hx with rfl|hx
    ·rcases List.mem_cons.1 hb with rfl|hb
     ·exact h
     ·exact qT4 c l z (by rw[hq];simp) b hb
    ·exact qT4 c l x (by rw[hq];simp[hx]) b hb
def qaw (m:Int):List UInt8:=if m=0 then [110,111,110,101] else if m=1 then [100,111,119,110] else if m=2 then [101,100,103,101] else [118,111,105,100]
end
section
theorem qXG {b:UInt8} (h:48<=b.toNat/\b.toNat<=57):IntKind.wrap .i64 (IntKind.wrap .u8 ((b.toNat:Int)-48))=((b.toNat-48:Nat):Int):=by
 have:b.toNat=48\/b.toNat=49\/b.toNat=50\/b.toNat=51\/b.toNat=52\/b.toNat=53\/b.toNat=54\/b.toNat=55\/b.toNat=56\/b.toNat=57:=by omega
 rcases this with h|h|h|h|h|h|h|h|h|h<;>rw[h]<;>decide
theorem qTM:∀(n:Nat) (l:List UInt8),l.length=n->qWp l->qNL l<10 ^ n:=by
 intro n
 induction n with
 |zero=>intro l hl _;rw[List.eq_nil_of_length_eq_zero hl];decide
 |succ n ih =>
  intro l hl hd
  rcases List.eq_nil_or_concat l with rfl|⟨m,b,rfl⟩
  ·simp at hl
  simp only[List.concat_eq_append]at *
  rw[qRp]
  have h1:=ih m (by simp at hl;omega) fun x hx=>hd x (by simp[hx])
  have h2:=hd b (by simp)
  rw[Nat.pow_succ]
  omega
theorem qXq (s:bD) (hs:s.size<=12):∀(m k i:Nat) (v:Int),i+m=s.size->m<k->v=(qNL ((toL s).take i):Int)->qWp ((toL s).take i)->
  (qWp (toL s)->qDs s k v i=some ((qNL (toL s):Int),true)/\qEL s k v i=some (qNL (toL s):Int))/\
  (¬qWp (toL s)->qDs s k v i=some (0,false)/\qEL s k v i=some (-1)):=by
 have hsz:s.size=(toL s).length:=Go.Lib.size_eq s
 intro m
 induction m with
 |zero =>
  intro k i v h1 h2 hv hd
  obtain⟨k,rfl⟩:=nZ9 (by omega:k≠0)
  have hall:(toL s).take i=toL s:=List.take_of_length_le (by rw[<-hsz];omega)
  rw[hall]at hv hd
  rw[qDs,qEL,dF (by omega),cF,cF,hv]
  exact⟨fun _=>⟨rfl,rfl⟩,fun h=>absurd hd h⟩
 |succ m ih =>
  intro k i v h1 h2 hv hd
  obtain⟨k,rfl⟩:=nZ9 (by omega:k≠0)
  have hlt:i<(toL s).length:=by rw[<-hsz];omega
  rw[qDs,qEL,dT (by omega),cW,cW,qMD rfl,List.getElem?_eq_getElem hlt,oB9,oB9]
  by_cases hb:48<=(toL s)[i].toNat/\(toL s)[i].toNat<=57
  ·rw[dF (by omega),dF (by omega),Bool.or_false,cF,cF,qXG hb]
   have hvl:=qTM i ((toL s).take i) (by rw[List.length_take];omega) hd
   have hp:10 ^ i<=10 ^ 12:=Nat.pow_le_pow_right (by omega) (by omega)
   have ht:(toL s).take (i+1)=(toL s).take i++[(toL s)[i]]:=by rw[List.take_add_one,List.getElem?_eq_getElem hlt];rfl
   have e1:w64 (10*v)=10*v:=qAD (by rw[hv];omega)
   rw[e1,qAD (by rw[hv];omega),qAD (by omega),show ((i:Int)+1)=((i+1:Nat):Int) from by omega]
   refine ih k (i+1) _ (by omega) (by omega) ?_ ?_
   ·rw[ht,qRp,hv];omega
   ·rw[ht]
    intro x hx
    rcases List.mem_append.1 hx with hx|hx
    ·exact hd x hx
    ·rw[List.mem_singleton.1 hx];exact hb
  ·have hno:¬qWp (toL s):=fun h=>hb (h _ (List.getElem_mem hlt))
   have e:(decide (((toL s)[i].toNat:Int)<48)||decide (((toL s)[i].toNat:Int)>57))=true:=by
    rw[Bool.or_eq_true,decide_eq_true_iff,decide_eq_true_iff];omega
   rw[e,cW,cW]
   exact⟨fun h=>absurd h hno,fun _=>⟨rfl,rfl⟩⟩
theorem qRt (s:bD):s=⟨#[]⟩↔toL s=[]:=⟨fun h=>by rw[h],fun h=>qGd h⟩
theorem qOH (s:bD) (hs:s.size<=1048576) (F:Nat) (hF:12<F):∃r,qHA F s=some r/\(r.2=true↔qSh (toL s)/\(toL s).length<=12)/\(r.2=true->r.1=(qNL (toL s):Int)):=by
 have hsz:s.size=(toL s).length:=Go.Lib.size_eq s
 unfold qHA
 by_cases h0:s=⟨#[]⟩
 ·rw[dT h0]
  simp only[Bool.true_or,Bool.not_true,Bool.false_and,qDW,oB9,cW]
  exact⟨_,rfl,⟨fun h=>by simp at h,fun h=>absurd ((qRt s).1 h0) h.1.1⟩,fun h=>by simp at h⟩
 have hne:toL s≠[]:=fun h=>h0 ((qRt s).2 h)
 rw[dF h0,Bool.false_or]
 by_cases h12:(s.size:Int)>12
 ·rw[dT h12]
  simp only[Bool.true_or,Bool.not_true,Bool.false_and,qDW,oB9,cW]
  exact⟨_,rfl,⟨fun h=>by simp at h,fun h=>absurd h.2 (by rw[<-hsz];omega)⟩,fun h=>by simp at h⟩
 rw[dF h12]
 simp only[Bool.not_false,Bool.true_and,Bool.false_or]
 have hpos:0<(toL s).length:=List.length_pos_iff.2 hne
 have hl:=qXq s (by omega) s.size F 0 0 (by omega) (by omega) (by rfl) (by intro x hx;simp at hx)
 by_cases h1:(s.size:Int)>1
 ·rw[dT h1,qBx,qMD (i:=0) (k:=0) rfl,List.getElem?_eq_getElem hpos,oB9,Bool.true_and]
  have hhd:(toL s).head?=some (toL s)[0]:=by rw[List.head?_eq_getElem?,List.getElem?_eq_getElem hpos]
  by_cases h48:(toL s)[0]=48
  ·rw[h48,show (((48:UInt8).toNat:Int)==48)=true from rfl,cW]
   exact⟨_,rfl,⟨fun h=>by simp at h,fun h=>absurd (by rw[hhd,h48]) (h.1.2.2 (by rw[<-hsz];omega))⟩,fun h=>by simp at h⟩
  ·rw[show (((toL s)[0].toNat:Int)==48)=false from by rw[beq_eq_false_iff_ne];intro e;exact h48 (UInt8.toNat_inj.1 (by show _=48;omega)),cF]
   by_cases hd:qWp (toL s)
   ·exact⟨_,(hl.1 hd).1,⟨fun _=>⟨⟨hne,hd,fun _ h=>h48 (by rw[hhd]at h;exact Option.some.inj h)⟩,by rw[<-hsz];omega⟩,fun _=>rfl⟩,fun _=>rfl⟩
   ·exact⟨_,(hl.2 hd).1,⟨fun h=>by simp at h,fun h=>absurd h.1.2.1 hd⟩,fun h=>by simp at h⟩
 ·rw[dF h1,qDW,oB9,Bool.false_and,cF]
  by_cases hd:qWp (toL s)
  ·exact⟨_,(hl.1 hd).1,⟨fun _=>⟨⟨hne,hd,fun h=>by rw[<-hsz]at h;omega⟩,by rw[<-hsz];omega⟩,fun _=>rfl⟩,fun _=>rfl⟩
  ·exact⟨_,(hl.2 hd).1,⟨fun h=>by simp at h,fun h=>absurd h.1.2.1 hd⟩,fun h=>by simp at h⟩
end
section
theorem qUt (c:UInt8) (m:List UInt8):∀l:List UInt8,qJB c (l++c::m)=qJB c l++qJB c m
 | []=>qKj c m [] (fun _ h=>by cases h)
 |b::l=>by
  have ih:=qUt c m l
  rw[List.cons_append,qJB,ih]
  conv=>rhs;rw[qJB]
  by_cases h:b=c
  ·rw[if_pos h,if_pos h,List.cons_append]
  ·rw[if_neg h,if_neg h]
   cases h2:qJB c l with
   |nil=>have:=qKu c l;rw[h2]at this;simp at this
   |cons x t=>rfl
theorem qNv (c:UInt8):∀(l x:List UInt8),x∈qJB c l->x.length<=l.length
 | [],x,h=>by rw[qJB]at h;rw[List.mem_singleton.1 h];exact Nat.le_refl _
 |b::l,x,h=>by
  rw[qJB]at h
  by_cases e:b=c
  ·rw[if_pos e]at h
   rcases List.mem_cons.1 h with rfl|h
   ·exact Nat.zero_le _
   ·exact Nat.le_succ_of_le (qNv c l x h)
  ·rw[if_neg e]at h
   cases hq:qJB c l with
   |nil=>exact absurd hq (qN8 c l)
   |cons z t =>
    rw[hq]at h
    rcases List.mem_cons.1 h with rfl|h
    ·exact Nat.succ_le_succ (qNv c l z (by rw[hq];simp))
    ·exact Nat.le_succ_of_le (qNv c l x (by rw[hq];simp[h]))
theorem qPh:∀(k n:Nat),n<10 ^ (k+1)->(qPS n).length<=k+1:=by
 intro k
 induction k with
 |zero=>intro n h;rw[qPS,if_pos (by omega)];exact Nat.le_refl _
 |succ k ih =>
  intro n h
  rw[qPS]
  split
  ·simp
  ·rw[List.length_append]
   have:=ih (n/10) (by rw[Nat.pow_succ]at h;omega)
   simp;omega
def qOW:List bD:=[(bz [110,111,110,101]),(bz [100,111,119,110]),(bz [101,100,103,101]),(bz [118,111,105,100])]
end
section
theorem qR5 (c:UInt8) (z:List UInt8):∀m:List (List UInt8),m≠[]->qNZ c (m++[z])=qNZ c m++c::z
 | [],h=>absurd rfl h
 | [x],_=>rfl
 |x::y::m,_=>by
  show x++c::qNZ c (y::m++[z])=(x++c::qNZ c (y::m))++c::z
  rw[qR5 c z (y::m) (by simp)];simp
theorem qZB (c:UInt8) {l:List UInt8} {m:List (List UInt8)} (h:qJB c l=m++[[]]):l=[]\/∃l',l=l'++[c]:=by
 have h1:=qLB c l
 rw[h]at h1
 by_cases hm:m=[]
 ·subst hm;exact .inl h1.symm
 ·rw[qR5 c [] m hm]at h1;exact .inr ⟨_,h1.symm⟩
theorem qOi (s:bD) (hs:s.size<=1048576):∃x,qHG s=some x/\((x.2=true/\qJB 10 (toL s)=x.1.map toL++[[]])\/(x.2=false/\∀m,qJB 10 (toL s)≠m++[[]])):=by
 have hsz:s.size=(toL s).length:=Go.Lib.size_eq s
 unfold qHG
 by_cases he:s=⟨#[]⟩
 ·rw[dT he,cW]
  exact⟨_,rfl,.inl ⟨rfl,by rw[(qRt s).1 he];rfl⟩⟩
 have hne:toL s≠[]:=fun h=>he ((qRt s).2 h)
 have hpos:=List.length_pos_iff.2 hne
 have hlt:s.size-1<(toL s).length:=by omega
 have hlast:qNC s (w64 ((s.size:Int)-1))=some (toL s)[s.size-1]:=by
  rw[qAD (by omega),qMD (k:=s.size-1) (by omega),List.getElem?_eq_getElem hlt]
 rw[dF he,cF,bnd hlast]
 generalize hb:(toL s)[s.size-1]=b
 have hL:toL s=(toL s).take (s.size-1)++[b]:=by
  have:=List.take_append_drop (s.size-1) (toL s)
  rw[List.drop_eq_getElem_cons hlt,hb,List.drop_of_length_le (by omega)]at this
  exact this.symm
 by_cases h10:b=10
 ·subst h10
  rw[show (((10:UInt8).toNat:Int) != 10)=false from rfl,cF]
  have hin:inB 0 (w64 ((s.size:Int)-1)) s.size=true:=by rw[qAD (by omega)];unfold inB;simp;omega
  have htn:(w64 ((s.size:Int)-1)).toNat=s.size-1:=by rw[qAD (by omega)];omega
  rw[hin,qC2,oB9,htn]
  unfold qCA
  have hes:(s.extract 0 (s.size-1)).size<=s.size:=by rw[Go.Lib.size_eq,Go.Lib.extract_data,List.length_take,List.length_drop,<-hsz];omega
  rw[show (Nat.blt (s.extract 0 (s.size-1)).size 4294967281&&Nat.blt 0 (bz [10]).size)=true from by
   rw[Bool.and_eq_true,Nat.blt_eq];exact⟨by omega,rfl⟩,qC2,oB9,oB9]
  have hsp:=qOa (s.extract 0 (s.size-1)) 10
  rw[show toL (s.extract 0 (s.size-1))=(toL s).take (s.size-1) from by rw[show toL (s.extract 0 (s.size-1))=_ from Go.Lib.extract_data s 0 (s.size-1)];rw[List.drop_zero,Nat.sub_zero]]at hsp
  refine⟨_,rfl,.inl ⟨rfl,?_⟩⟩
  show _=(qIi (s.extract 0 (s.size-1)) (bz [10])).map toL++[[]]
  rw[hsp,hL,qUt]
  simp only[List.take_left',List.length_take,<-hsz,show min (s.size-1) s.size=s.size-1 from by omega]
  rfl
 ·rw[show ((b.toNat:Int) != 10)=true from by rw[bne_iff_ne];intro e;exact h10 (UInt8.toNat_inj.1 (by show b.toNat=10;omega)),cW]
  refine⟨_,rfl,.inr ⟨rfl,fun m hm=>?_⟩⟩
  rcases qZB 10 hm with h|⟨l',h⟩
  ·exact hne h
  ·rw[hL]at h
   exact h10 (List.cons.inj (List.append_inj' h rfl).2).1
end
section
theorem qHW (a b:bD):toL (a++b)=toL a++toL b:=by
 show (a++b).data.toList=_
 rw[ByteArray.data_append,Array.toList_append]
theorem nd {a b:Nat} (h:a+b<=1000000):qAl (Nat.ble (a+b) qDF)=some ():=by
 rw[show Nat.ble (a+b) qDF=true from by rw[Nat.ble_eq];unfold qDF;omega];rfl
theorem qYo (F:Nat):∀(k rf n:Nat),n<10 ^ (k+1)->k<12->k<rf->∃t,qBQ F rf (n:Int)=some t/\toL t=qPS n:=by
 intro k
 induction k with
 |zero =>
  intro rf n h _ hr
  obtain⟨rf,rfl⟩:=nZ9 (by omega:rf≠0)
  rw[qBQ,dT (by omega),cW,qPS,if_pos (by omega),qAD (by omega)]
  refine⟨_,rfl,?_⟩
  have:n=0\/n=1\/n=2\/n=3\/n=4\/n=5\/n=6\/n=7\/n=8\/n=9:=by omega
  rcases this with rfl|rfl|rfl|rfl|rfl|rfl|rfl|rfl|rfl|rfl<;>rfl
 |succ k ih =>
  intro rf n h hk hr
  obtain⟨rf,rfl⟩:=nZ9 (by omega:rf≠0)
  have hdig:∀d:Nat,d<10->toL (strOfNums [IntKind.wrap .u8 (w64 (48+(d:Int)))])=[UInt8.ofNat (48+d)]:=by
   intro d hd
   rw[qAD (by omega)]
   have:d=0\/d=1\/d=2\/d=3\/d=4\/d=5\/d=6\/d=7\/d=8\/d=9:=by omega
   rcases this with rfl|rfl|rfl|rfl|rfl|rfl|rfl|rfl|rfl|rfl<;>rfl
  rw[qBQ,qPS]
  by_cases h10:n<10
  ·rw[dT (by omega),cW,if_pos h10]
   exact⟨_,rfl,hdig n h10⟩
  ·rw[dF (by omega),cF,if_neg h10,show qAl (10 != 0)=some () from rfl,oB9]
   have hp:10 ^ (k+1+1)<=10 ^ 13:=Nat.pow_le_pow_right (by omega) (by omega)
   have e1:((n:Int)).tdiv 10=((n/10:Nat):Int):=by rw[Int.tdiv_eq_ediv_of_nonneg (by omega)];omega
   have e2:((n:Int)).tmod 10=((n%10:Nat):Int):=by rw[Int.tmod_eq_emod_of_nonneg (by omega)];omega
   rw[e1,e2,qAD (n:=((n/10:Nat):Int)) (by omega)]
   obtain⟨t,t1,t2⟩:=ih rf (n/10) (by rw[Nat.pow_succ]at h;omega) (by omega) (by omega)
   have hts:t.size<=k+1:=by
    rw[show t.size=(toL t).length from Go.Lib.size_eq t,t2]
    exact qPh k _ (by rw[Nat.pow_succ]at h;omega)
   rw[bnd t1,show (strOfNums [IntKind.wrap .u8 (w64 (48+((n%10:Nat):Int)))]).size=1 from rfl,nd (by omega),oB9]
   exact⟨_,rfl,by rw[qHW,t2,hdig _ (Nat.mod_lt _ (by omega))]⟩
theorem qX9 (F:Nat) (hF:100<F) (n:Int) (h:0<=n/\n<=100000):∃t,qBQ F F n=some t/\toL t=qPS n.toNat/\t.size<=6:=by
 obtain⟨t,t1,t2⟩:=qYo F 5 F n.toNat (by omega) (by omega) (by omega)
 rw[Int.toNat_of_nonneg h.1]at t1
 exact⟨t,t1,t2,by rw[show t.size=(toL t).length from Go.Lib.size_eq t,t2];exact qPh 5 _ (by omega)⟩
theorem qZx (m:Int) (h:0<=m/\m<=3):∃w,qAV qOW m=some w/\toL w=qaw m/\w.size=4:=by
 have:m=0\/m=1\/m=2\/m=3:=by omega
 rcases this with rfl|rfl|rfl|rfl<;>exact⟨_,rfl,rfl,rfl⟩
end
section
def qXo (xs:List bD):Nat:=(xs.map fun x=>x.size).sum
theorem qLk (x:bD) (xs:List bD):qXo (x::xs)=x.size+qXo xs:=rfl
def qUe (sep:List UInt8) (ys:List bD):List UInt8:=(ys.map fun y=>sep++toL y).flatten
theorem qP2 (sep:List UInt8) (y:bD) (ys:List bD):qUe sep (y::ys)=(sep++toL y)++qUe sep ys:=rfl
theorem qSJ (a b:bD):toL (a++b)=toL a++toL b:=by
 show (a++b).data.toList=_
 rw[ByteArray.data_append,Array.toList_append]
theorem qaf {n:Nat} (h:n<=1000000000):qAl (Nat.ble n 140737488355328)=some ():=by
 rw[show Nat.ble n 140737488355328=true from by rw[Nat.ble_eq];omega];rfl
theorem qYL (sep:bD):∀(ys:List bD) (k:Nat) (acc:bD),acc.size+qXo ys+sep.size*ys.length<=1000000000->
  (∃r,qDb sep ys k acc=some r/\toL r=toL acc++qUe (toL sep) ys)/\(∃r,qDn sep ys k acc=some r/\toL r=toL acc++qUe (toL sep) ys):=by
 intro ys
 induction ys with
 |nil =>
  intro k acc _
  rw[qDb,qDn]
  exact⟨⟨_,rfl,by unfold qUe;simp⟩,⟨_,rfl,by unfold qUe;simp⟩⟩
 |cons y ys ih =>
  intro k acc h
  rw[qLk,List.length_cons,Nat.mul_add,Nat.mul_one]at h
  rw[qDb,qDn,qaf (by omega),oB9,oB9,qaf (by rw[ByteArray.size_append];omega),oB9,oB9]
  obtain⟨⟨r,r1,r2⟩,q,q1,q2⟩:=ih (k+1) ((acc++sep)++y) (by rw[ByteArray.size_append,ByteArray.size_append];omega)
  refine⟨⟨r,r1,?_⟩,q,q1,?_⟩
  ·rw[r2,qP2,qSJ,qSJ];simp only[List.append_assoc]
  ·rw[q2,qP2,qSJ,qSJ];simp only[List.append_assoc]
theorem qWN (x:bD) (xs:List bD) (sep:bD) (hb:x.size+qXo xs+sep.size*xs.length<=1000000000) (hx:xs.length<=1000000000):∀(ys:List bD) (k:Nat) (v:Int),0<=v->v+(qXo ys:Int)<=2000000000->
  (∃r,qDu (x::xs) sep ys k v=some r/\toL r=toL x++qUe (toL sep) xs)/\(∃r,qDh (x::xs) sep ys k v=some r/\toL r=toL x++qUe (toL sep) xs):=by
 intro ys
 induction ys with
 |nil =>
  intro k v h0 h1
  have hv:v<=2000000000:=by have:qXo []=0:=rfl;omega
  have e0:(⟨#[]⟩:bD).size=0:=rfl
  have hn:qAl (decide (0<=v)&&decide (v<=281474976710656))=some ():=by rw[dT h0,dT (by omega)];rfl
  have hs:qCq (x::xs) 1=some xs:=by
   unfold qCq
   rw[if_pos (by simp;omega)]
   rfl
  rw[qDu,qDh,hn,oB9,oB9,bnd (show qAV (x::xs) 0=some x from rfl),bnd (show qAV (x::xs) 0=some x from rfl),qaf (by rw[e0];omega),oB9,oB9,bnd hs,bnd hs]
  have hap:toL ((⟨#[]⟩:bD)++x)=toL x:=by rw[qSJ];rfl
  obtain⟨⟨r,r1,r2⟩,q,q1,q2⟩:=qYL sep xs 0 ((⟨#[]⟩:bD)++x) (by rw[ByteArray.size_append,e0];omega)
  exact⟨⟨r,r1,by rw[r2,hap]⟩,q,q1,by rw[q2,hap]⟩
 |cons y ys ih =>
  intro k v h0 h1
  rw[qLk]at h1
  have hw:w64 (9223372036854775807-v)=9223372036854775807-v:=qAD (by omega)
  rw[qDu,qDh,hw,dF (by omega),cF,cF,qAD (by omega)]
  exact ih (k+1) (v+(y.size:Int)) (by omega) (by omega)
theorem qYh (x:bD) (xs:List bD) (sep:bD) (hs:sep.size<=1000) (hb:x.size+qXo xs+sep.size*xs.length<=1000000000) (hx:xs.length<=1000000):∃r,qGG (x::xs) sep=some r/\toL r=toL x++qUe (toL sep) xs:=by
 unfold qGG
 rw[show (((x::xs).length:Int)==0)=false from by rw[beq_eq_false_iff_ne];simp;omega,cF]
 have hl:((x::xs).length:Int)=(xs.length:Int)+1:=by simp
 rw[hl]
 by_cases h1:xs=[]
 ·subst h1
  exact⟨x,rfl,by unfold qUe;simp⟩
 have hpos:0<xs.length:=List.length_pos_iff.2 h1
 rw[show (((xs.length:Int)+1)==1)=false from by rw[beq_eq_false_iff_ne];omega,cF]
 by_cases h2:(sep.size:Int)>0
 ·have hw:w64 ((xs.length:Int)+1-1)=(xs.length:Int):=by rw[qAD (by omega)];omega
  rw[dT h2,cW,hw,show qAl ((xs.length:Int) != 0)=some () from by rw[show ((xs.length:Int) != 0)=true from by rw[bne_iff_ne];omega];rfl,oB9]
  have hdiv:(1001:Int)<=(9223372036854775807:Int)/(xs.length:Int):=by
   rw[Int.le_ediv_iff_mul_le (by omega)];omega
  have hdle:(9223372036854775807:Int)/(xs.length:Int)<=9223372036854775807:=Int.ediv_le_self _ (by omega)
  have ht:(9223372036854775807:Int).tdiv (xs.length:Int)=(9223372036854775807:Int)/(xs.length:Int):=Int.tdiv_eq_ediv_of_nonneg (by omega)
  rw[ht,qAD ⟨by omega,hdle⟩,dF (by omega),cF]
  have hm:((sep.size:Int)*(xs.length:Int))=((sep.size*xs.length:Nat):Int):=by rw[Int.natCast_mul]
  rw[hm,qAD (n:=((sep.size*xs.length:Nat):Int)) (by omega),qAD (by omega)]
  exact(qWN x xs sep hb (by omega) (x::xs) 0 _ (by omega) (by rw[qLk];omega)).1
 ·rw[dF h2,cF]
  exact(qWN x xs sep hb (by omega) (x::xs) 0 0 (by omega) (by rw[qLk];omega)).2
theorem qRe (n:Nat):Go.Lib.decDigits n=qPS n:=by
 induction n using Nat.strongRecOn with
 |_ n ih =>
  rw[Go.Lib.decDigits,qPS]
  by_cases h:n<10
  ·rw[dif_pos h,if_pos h]
  ·rw[dif_neg h,if_neg h,ih (n/10) (by omega)]
end
section
def rnd (a b:Int):Int:=(2*a+b)/(2*b)
def cl (a b:Int):Int:=-((-a)/b)
theorem qXU {a a' b:Int} (hb:0<b) (h:a<=a'):rnd a b<=rnd a' b:=Int.ediv_le_ediv (by omega) (by omega)
theorem qVy {a a' b d:Int} (hb:0<b) (h:a'<=a+d*b):rnd a' b<=rnd a b+d:=by
 have h1:=qXU hb h
 have e:rnd (a+d*b) b=rnd a b+d:=by
  unfold rnd
  have e1:2*(a+d*b)+b=2*a+b+d*(2*b):=by
   rw[Int.mul_add,Int.mul_left_comm];omega
  rw[e1]
  exact Int.add_mul_ediv_right _ _ (by omega)
 omega
end
section
theorem qTe {a b:Int} (hb:0<b) (ha:-1000000000000000000<=a/\a<=1000000000000000000):qFU a b=some (a/b)/\qJD a b=some (a/b):=by
 have h1:=Int.mul_tdiv_add_tmod a b
 have h2:=Int.tmod_lt_of_pos a hb
 have h3:-b<a.tmod b:=by have:=Int.lt_tmod_of_pos a hb;omega
 have hq:-1000000000000000000<=a.tdiv b/\a.tdiv b<=1000000000000000000:=by
  have:=Int.natAbs_tdiv_le_natAbs a b;omega
 have key:(if a.tmod b<0 then a.tdiv b-1 else a.tdiv b)=a/b:=by
  split
  ·rename_i h
   exact(((Int.ediv_emod_unique hb).2 ⟨by rw[Int.mul_sub];omega,by omega,by omega⟩:a/b=a.tdiv b-1/\a%b=a.tmod b+b).1).symm
  ·rename_i h
   exact(((Int.ediv_emod_unique hb).2 ⟨by omega,by omega,by omega⟩:a/b=a.tdiv b/\a%b=a.tmod b).1).symm
 unfold qFU qJD
 rw[show qAl (b != 0)=some () from by rw[show (b != 0)=true from by rw[bne_iff_ne];omega];rfl,oB9,qAD (n:=a.tdiv b) (by omega),qAD (by omega),<-key]
 by_cases h:a.tmod b<0
 ·rw[dT h,if_pos h];exact⟨rfl,rfl⟩
 ·rw[dF h,if_neg h];exact⟨rfl,rfl⟩
theorem qMK {a b:Int} (hb:0<b) (hb2:b<=1000000000) (ha:-100000000000000000<=a/\a<=100000000000000000):qDa a b=some (rnd a b)/\qEK a b=some (rnd a b):=by
 unfold qDa qEK
 rw[qAD (n:=2*a) (by omega),qAD (n:=2*b) (by omega),qAD (n:=2*a+b) (by omega)]
 obtain⟨h1,h2⟩:=qTe (a:=2*a+b) (b:=2*b) (by omega) (by omega)
 rw[bnd h1,bnd h2]
 exact⟨rfl,rfl⟩
end
section
def qUN (x:Element):Prop:=(0<=x.aE/\x.aE<=4)/\(0<=x.aI/\x.aI<=4)/\(1<=x.aG/\x.aG<=2000)
def qG7 (c:Code):Prop:=(1<=c.ad.length/\c.ad.length<=24)/\c.ar.length=5/\(1<=c.aq/\c.aq<=3)/\(0<=c.av/\c.av<=20)/\(50<=c.au/\c.au<=100)/\(0<=c.ay/\c.ay<=500)/\∀x∈c.ad,qUN x
def qSj (c:Code):Prop:=c.ad.length<=1048576/\∀x∈c.ad,x.aC.size<=1048576
theorem qYv (s:bD) (hs:s.size<=1048576):∀(m v a8:Nat),v+m=s.size->m<a8->∃b,qAx s a8 (v:Int)=some b/\qFL s a8 (v:Int)=some b:=by
 intro m
 induction m with
 |zero =>
  intro v a8 h hf
  obtain⟨f,rfl⟩:=nZ9 (by omega:a8≠0)
  rw[qAx,qFL,dF (by omega),cF,cF]
  obtain⟨b,e1,e2⟩:=qD0 (s.size:Int) 1 5
  obtain⟨b',e3,e4⟩:=qB8 (s.size:Int) 1 5
  obtain rfl:b=b':=Bool.eq_iff_iff.2 (e2.trans e4.symm)
  rw[bnd e1,bnd e3]
  exact⟨b,rfl,rfl⟩
 |succ m ih =>
  intro v a8 h hf
  obtain⟨f,rfl⟩:=nZ9 (by omega:a8≠0)
  have hv:v<s.size:=by omega
  have hi:qNC s (v:Int)=some s[v]:=by unfold qNC;rw[if_pos (by omega)];simp[hv]
  obtain⟨b,b1,b2⟩:=ih (v+1) f (by omega) (by omega)
  rw[show (((v+1:Nat):Int))=(v:Int)+1 from by omega]at b1 b2
  rw[qAx,qFL,dT (by omega),cW,cW,bnd hi,bnd hi,qAD (by omega),b1,b2]
  cases (decide ((s[v].toNat:Int)<65)||decide ((s[v].toNat:Int)>90))&&(decide ((s[v].toNat:Int)<48)||decide ((s[v].toNat:Int)>57))
  ·exact⟨b,rfl,rfl⟩
  ·exact⟨false,rfl,rfl⟩
theorem qZi (c:Code) (hc:qSj c) (a8:Nat) (hf:1048576<a8) (N:bF) (hN:qCB c a8 [] 0=N):∀(ys pre:List Element),c.ad=pre++ys->∃e:Bool,qEJ c a8 ys pre.length=some e/\
  qCB c a8 ys pre.length=(if e=true then N else some false)/\(e=true->∀x∈ys,qUN x):=by
 rw[qCB]at hN
 intro ys
 induction ys with
 |nil=>intro pre h;exact⟨true,by rw[qEJ],by rw[if_pos rfl,qCB];exact hN,fun _=>by simp⟩
 |cons y ys ih =>
  intro pre h
  have hy:y∈c.ad:=by rw[h];simp
  have hlen:pre.length+(ys.length+1)<=1048576:=by have:=hc.1;rw[h]at this;simpa using this
  rw[qEJ,qCB]
  unfold qIp qFi
  obtain⟨b,n1,n2⟩:=qYv y.aC (hc.2 y hy) y.aC.size 0 a8 (by omega) (by have:=hc.2 y hy;omega)
  rw[bnd (show qD5 a8 y.aC=some b from n1),show qLD a8 y.aC=some b from n2]
  simp only[oB9]
  cases b
  ·exact⟨false,by simp[qDW],by simp[qDW],fun h=>by cases h⟩
  simp only[Bool.not_true,Bool.not_false,qBx,Bool.true_and,Bool.false_or]
  obtain⟨b,f1,f2⟩:=qB8 y.aE 0 4
  obtain⟨b',f3,f4⟩:=qD0 y.aE 0 4
  obtain rfl:b=b':=Bool.eq_iff_iff.2 (f2.trans f4.symm)
  rw[f1,f3]
  simp only[oB9]
  cases b
  ·exact⟨false,by simp[qDW],by simp[qDW],fun h=>by cases h⟩
  simp only[Bool.not_true,Bool.not_false,qBx,Bool.true_and,Bool.false_or]
  obtain⟨b,g1,g2⟩:=qB8 y.aI 0 4
  obtain⟨b',g3,g4⟩:=qD0 y.aI 0 4
  obtain rfl:b=b':=Bool.eq_iff_iff.2 (g2.trans g4.symm)
  rw[g1,g3]
  simp only[oB9]
  cases b
  ·exact⟨false,by simp[qDW],by simp[qDW],fun h=>by cases h⟩
  simp only[Bool.not_true,Bool.not_false,qBx,Bool.true_and,Bool.false_or]
  obtain⟨b,k1,k2⟩:=qB8 y.aG 1 2000
  obtain⟨b',k3,k4⟩:=qD0 y.aG 1 2000
  obtain rfl:b=b':=Bool.eq_iff_iff.2 (k2.trans k4.symm)
  rw[k1,k3]
  simp only[oB9]
  cases b
  ·exact⟨false,by simp[qDW],by simp[qDW],fun h=>by cases h⟩
  simp only[Bool.not_true,Bool.not_false,qBx,Bool.true_and,Bool.false_or,cF]
  obtain⟨e,e1,e2,e3⟩:=ih (pre++[y]) (by rw[h];simp)
  rw[show (pre++[y]).length=pre.length+1 from by simp]at e1 e2
  have he:qUN y:=⟨by have:=f2.1 rfl;omega,by have:=g2.1 rfl;omega,by have:=k2.1 rfl;omega⟩
  have hall:e=true->∀x∈y::ys,qUN x:=fun h x hx=>by
   rcases List.mem_cons.1 hx with rfl|hx
   ·exact he
   ·exact e3 h x hx
  by_cases h0:(pre.length:Int)>0
  ·rw[dT h0]
   simp only[qBx,Bool.true_and]
   obtain⟨p,z,rfl⟩:∃p z,pre=p++[z]:=by
    have hne:pre≠[]:=by intro e;rw[e]at h0;simp at h0
    exact⟨pre.dropLast,pre.getLast hne,(List.dropLast_concat_getLast hne).symm⟩
   have hg:qAV c.ad (w64 (((p++[z]).length:Int)-1))=some z:=by
    rw[qAD (by omega)]
    exact qDC (pre:=p) (y:=z) (ys:=y::ys) (by rw[h];simp) (by simp)
   rw[bnd hg,bnd hg]
   cases hs:!qNe z.aC y.aC
   ·exact⟨e,e1,e2,hall⟩
   ·exact⟨false,rfl,rfl,fun h=>by cases h⟩
  ·rw[dF h0]
   simp only[qDW,oB9,Bool.false_and,cF]
   exact⟨e,e1,e2,hall⟩
theorem qNs (c:Code) (hc:qSj c) (a8:Nat) (hf:1048576<a8):∃b,qBE a8 c=some b/\qDQ a8 c=some b/\(b=true->qG7 c):=by
 unfold qBE qDQ
 obtain⟨e,e1,e2,e3⟩:=qZi c hc a8 hf _ rfl c.ad [] rfl
 rw[show ([]:List Element).length=0 from rfl]at e1 e2
 rw[e2,qCB]
 obtain⟨a,a1,a2⟩:=qB8 (c.ad.length:Int) 1 24
 obtain⟨a',a3,a4⟩:=qD0 (c.ad.length:Int) 1 24
 obtain rfl:a=a':=Bool.eq_iff_iff.2 (a2.trans a4.symm)
 rw[bnd a1,bnd a3]
 cases a
 ·exact⟨false,by simp[qDW],by cases e<;>simp[qDW],fun h=>by cases h⟩
 by_cases h5:c.ar.length=5
 rotate_left
 ·rw[show ((c.ar.length:Int)==5)=false from by rw[beq_eq_false_iff_ne];omega,show ((c.ar.length:Int) != 5)=true from by rw[bne_iff_ne];omega]
  exact⟨false,by simp[qDW],by cases e<;>simp[qDW],fun h=>by cases h⟩
 rw[show ((c.ar.length:Int)==5)=true from by rw[h5];rfl,show ((c.ar.length:Int) != 5)=false from by rw[h5];rfl]
 obtain⟨b,b1,b2⟩:=qJO 0 9 c.ar 0
 obtain⟨b',b3,b4⟩:=qPQ 0 9 c.ar 0
 obtain rfl:b=b':=Bool.eq_iff_iff.2 (b2.trans b4.symm)
 simp only[Bool.not_true,Bool.not_false,qBx,Bool.true_and,Bool.false_or,Bool.or_false]
 rw[bnd (show qCR c.ar 0 9=some b from b1),bnd (show qC3 c.ar 0 9=some b from b3)]
 cases b
 ·exact⟨false,by simp[qDW],by cases e<;>simp[qDW],fun h=>by cases h⟩
 simp only[Bool.not_true,Bool.not_false,qBx,Bool.true_and,Bool.false_or,Bool.or_false,cF]
 obtain⟨r,r1,r2⟩:=qB8 c.aq 1 3
 obtain⟨r',r3,r4⟩:=qD0 c.aq 1 3
 obtain rfl:r=r':=Bool.eq_iff_iff.2 (r2.trans r4.symm)
 rw[bnd r1,bnd r3]
 cases r
 ·exact⟨false,by simp[qDW],by cases e<;>simp[qDW],fun h=>by cases h⟩
 simp only[Bool.not_true,Bool.not_false,qBx,Bool.true_and,Bool.false_or,Bool.or_false]
 obtain⟨o,o1,o2⟩:=qB8 c.av 0 20
 obtain⟨o',o3,o4⟩:=qD0 c.av 0 20
 obtain rfl:o=o':=Bool.eq_iff_iff.2 (o2.trans o4.symm)
 rw[bnd o1,bnd o3]
 cases o
 ·exact⟨false,by simp[qDW],by cases e<;>simp[qDW],fun h=>by cases h⟩
 simp only[Bool.not_true,Bool.not_false,qBx,Bool.true_and,Bool.false_or,Bool.or_false]
 obtain⟨k,k1,k2⟩:=qB8 c.au 50 100
 obtain⟨k',k3,k4⟩:=qD0 c.au 50 100
 obtain rfl:k=k':=Bool.eq_iff_iff.2 (k2.trans k4.symm)
 rw[bnd k1,bnd k3]
 cases k
 ·exact⟨false,by simp[qDW],by cases e<;>simp[qDW],fun h=>by cases h⟩
 simp only[Bool.not_true,Bool.not_false,qBx,Bool.true_and,Bool.false_or,Bool.or_false]
 obtain⟨f,f1,f2⟩:=qB8 c.ay 0 500
 obtain⟨f',f3,f4⟩:=qD0 c.ay 0 500
 obtain rfl:f=f':=Bool.eq_iff_iff.2 (f2.trans f4.symm)
 rw[bnd f1,bnd f3]
 cases f
 ·exact⟨false,by simp[qDW],by cases e<;>simp[qDW],fun h=>by cases h⟩
 simp only[Bool.not_true,cF]
 refine⟨e,e1,by cases e<;>simp,fun h=>?_⟩
 have:=a2.1 rfl
 exact⟨by omega,h5,r2.1 rfl,o2.1 rfl,k2.1 rfl,f2.1 rfl,e3 h⟩
end
section
def qPY (s:Slips):Prop:=(0<=s.falls/\s.falls<=9)/\(0<=s.an/\s.an<=60)/\(0<=s.aw/\s.aw<=500)
theorem qKT (s:Slips):∃b,qEn s=some b/\qHp s=some b/\(b=true↔qPY s):=by
 unfold qEn qHp qAQ qAd qPY
 simp only[oB9]
 by_cases h1:0<=s.falls/\s.falls<=9
 ·rw[show (decide (s.falls>=0)&&decide (s.falls<=9))=true from by simp;omega]
  simp only[qBx,oB9,Bool.true_and]
  by_cases h2:0<=s.an/\s.an<=60
  ·rw[show (decide (s.an>=0)&&decide (s.an<=60))=true from by simp;omega]
   simp only[qBx,oB9,Bool.true_and]
   exact⟨_,rfl,rfl,by rw[Bool.and_eq_true,decide_eq_true_eq,decide_eq_true_eq];exact⟨fun h=>⟨h1,h2,by omega⟩,fun h=>by omega⟩⟩
  ·rw[show (decide (s.an>=0)&&decide (s.an<=60))=false from by rw[Bool.and_eq_false_iff,decide_eq_false_iff_not,decide_eq_false_iff_not];omega]
   exact⟨false,rfl,rfl,by simp;omega⟩
 ·rw[show (decide (s.falls>=0)&&decide (s.falls<=9))=false from by rw[Bool.and_eq_false_iff,decide_eq_false_iff_not,decide_eq_false_iff_not];omega]
  exact⟨false,rfl,rfl,by simp;omega⟩
def fnd (name:bD):List Element->Nat->Int
 | [],_=>-1
 |y::ys,k=>if y.aC=name then (k:Int) else fnd name ys (k+1)
theorem qZT (name:bD):∀(ys:List Element) (k:Nat),qEN name ys k=some (fnd name ys k)
 | [],k=>by rw[qEN,fnd]
 |y::ys,k=>by
  rw[qEN,fnd]
  by_cases h:y.aC=name
  ·rw[dT h,if_pos h];rfl
  ·rw[dF h,if_neg h,cF,qZT name ys (k+1)]
theorem qaC (name:bD):∀(ys:List Element) (k:Nat),qAo (fun a0=>qDf a0 name) ys k=some (fnd name ys k)
 | [],k=>by rw[qAo,fnd]
 |y::ys,k=>by
  rw[qAo,fnd,show qDf y name=some (decide (y.aC=name)) from rfl,oB9]
  by_cases h:y.aC=name
  ·rw[dT h,if_pos h];rfl
  ·rw[dF h,if_neg h,cF,qaC name ys (k+1)]
theorem qG3 (c:Code) (name:bD):qCu c name=some (fnd name c.ad 0)/\qGq c name=some (fnd name c.ad 0):=by
 constructor
 ·unfold qCu qEr
  rw[qaC];rfl
 ·exact qZT name c.ad 0
theorem qWB (name:bD):∀(ys:List Element) (k:Nat),fnd name ys k=-1\/∃(i:Nat) (x:Element),fnd name ys k=((k+i:Nat):Int)/\ys[i]?=some x
 | [],k=>.inl rfl
 |y::ys,k=>by
  rw[fnd]
  by_cases h:y.aC=name
  ·rw[if_pos h];exact .inr ⟨0,y,by simp,rfl⟩
  ·rw[if_neg h]
   rcases qWB name ys (k+1) with e|⟨i,x,e1,e2⟩
   ·exact .inl e
   ·exact .inr ⟨i+1,x,by rw[e1];omega,by simpa using e2⟩
theorem qZw {c:Code} {name:bD} (h:¬fnd name c.ad 0<0):∃x,qAV c.ad (fnd name c.ad 0)=some x/\x∈c.ad:=by
 rcases qWB name c.ad 0 with e|⟨i,x,e1,e2⟩
 ·omega
 ·exact⟨x,by rw[qEm (k:=i) (by omega)];exact e2,List.mem_of_getElem? e2⟩
def qGu (c:Code) (l:List Item):Prop:=∀it∈l,∀s∈it.aj,¬fnd s c.ad 0<0
theorem qTm (c:Code):∀(ys:List bD) (k:Nat),∃o,qDp c ys k=some o/\qDk c ys k=some o/\((o=.ok ()/\∀s∈ys,¬fnd s c.ad 0<0)\/(o=.error false/\∃s∈ys,fnd s c.ad 0<0))
 | [],k=>⟨.ok (),by rw[qDp],by rw[qDk],.inl ⟨rfl,by simp⟩⟩
 |y::ys,k=>by
  rw[qDp,qDk,bnd (qG3 c y).1,bnd (qG3 c y).2]
  by_cases h:fnd y c.ad 0<0
  ·rw[dT h];exact⟨.error false,rfl,rfl,.inr ⟨rfl,y,by simp,h⟩⟩
  ·rw[dF h,cF,cF]
   obtain⟨o,o1,o2,o3⟩:=qTm c ys (k+1)
   refine⟨o,o1,o2,o3.imp (fun q=>⟨q.1,fun s hs=>?_⟩) (fun q=>⟨q.1,?_⟩)⟩
   ·rcases List.mem_cons.1 hs with rfl|hs
    ·exact h
    ·exact q.2 s hs
   ·obtain⟨s,hs,e⟩:=q.2
    exact⟨s,by simp[hs],e⟩
theorem qTl (c:Code):∀(ys:List Item) (k:Nat),∃b,qDl c ys k=some b/\qDm c ys k=some b/\(b=true↔qGu c ys)
 | [],k=>⟨true,by rw[qDl],by rw[qDm],by simp[qGu]⟩
 |y::ys,k=>by
  rw[qDl,qDm]
  obtain⟨o,o1,o2,o3⟩:=qTm c y.aj 0
  rw[bnd o1,bnd o2]
  rcases o3 with⟨rfl,h⟩|⟨rfl,s,hs,h⟩
  ·simp only[qKL]
   obtain⟨b,b1,b2,b3⟩:=qTl c ys (k+1)
   refine⟨b,b1,b2,b3.trans ⟨fun q it hi=>?_,fun q it hi=>q it (by simp[hi])⟩⟩
   rcases List.mem_cons.1 hi with rfl|hi
   ·exact h
   ·exact q it hi
  ·simp only[qKL]
   exact⟨false,rfl,rfl,by simp only[Bool.false_eq_true,false_iff];exact fun q=>q y (by simp) s hs h⟩
theorem qOg (c:Code) (l:List Item):∃b,qED c l=some b/\qGF c l=some b/\(b=true↔qGu c l):=qTl c l 0
end
section
def qZa (J:Nat) (l:bE):Prop:=l.length=J/\∀x∈l,-5<=x/\x<=5
def qZN (J:Nat) (l:bE):Prop:=l.length=J/\∀x∈l,(0<=x/\x<=1000)/\x.tmod 25=0
def qHa (m:Marks):Prop:=m.ah.length<=14/\m.ac.length=3/\∃r,qAV m.ac 0=some r/\(3<=r.length/\r.length<=9)/\(∀l∈m.ah,qZa r.length l)/\∀l∈m.ac,qZN r.length l
theorem n25:qAl (25 != 0)=some ():=rfl
theorem qVa (x:Int):Ret (qDI x) (¬((0<=x/\x<=1000)/\x.tmod 25=0)):=by
 unfold qDI qGK
 obtain⟨b,b1,b2⟩:=qB8 x 0 1000
 rw[bnd b1]
 cases b
 ·simp only[qDW,oB9,Bool.false_and,Bool.not_false]
  exact .t fun h=>absurd (b2.2 h.1) (by simp)
 ·rw[n25]
  simp only[qBx,oB9,Bool.true_and]
  have h:=b2.1 rfl
  refine .some ?_
  rw[Bool.not_eq_true',beq_eq_false_iff_ne]
  exact⟨fun q r=>q r.2,fun q r=>q ⟨h,r⟩⟩
theorem qaR:∀(l:bE) (k:Nat),∃i,qBL (fun a0=>qDI a0) l k=some i/\(i>=0↔∃x∈l,¬((0<=x/\x<=1000)/\x.tmod 25=0))
 | [],k=>⟨-1,by rw[qBL],by simp⟩
 |y::l,k=>by
  obtain⟨b,b1,b2⟩:=qVa y
  rw[qBL,bnd b1]
  cases b
  ·obtain⟨i,i1,i2⟩:=qaR l (k+1)
   refine⟨i,i1,i2.trans ⟨fun ⟨x,hx,q⟩=>⟨x,by simp[hx],q⟩,fun ⟨x,hx,q⟩=>?_⟩⟩
   rcases List.mem_cons.1 hx with rfl|hx
   ·exact absurd (b2.2 q) (by simp)
   ·exact⟨x,hx,q⟩
  ·exact⟨(k:Int),rfl,⟨fun _=>⟨y,by simp,b2.1 rfl⟩,fun _=>by omega⟩⟩
theorem qRE (m:Marks) {r:bE} (hr:qAV m.ac 0=some r):∀(ys:List bE) (k:Nat),Ret (qDe m ys k) (∀l∈ys,qZN r.length l)
 | [],k=>by rw[qDe];exact .t (by simp)
 |y::ys,k=>by
  rw[qDe,bnd (show qA6 m=some (r.length:Int) from by unfold qA6;rw[bnd hr])]
  by_cases h:y.length=r.length
  ·rw[show ((y.length:Int) != (r.length:Int))=false from by rw[h];simp]
   simp only[Bool.not_false,qBx,Bool.false_or]
   obtain⟨i,i1,i2⟩:=qaR y 0
   rw[bnd (show qDT y (fun a0=>qDI a0)=some (decide (i>=0)) from by unfold qDT qGL;rw[bnd i1])]
   by_cases hi:i>=0
   ·rw[dT hi]
    obtain⟨x,hx,q⟩:=i2.1 hi
    exact .f fun k=>q ((k y (by simp)).2 x hx)
   ·rw[dF hi,cF]
    refine(qRE m hr ys (k+1)).iff ⟨fun q l hl=>?_,fun q l hl=>q l (by simp[hl])⟩
    rcases List.mem_cons.1 hl with rfl|hl
    ·exact⟨h,fun x hx=>Classical.byContradiction fun c=>hi (i2.2 ⟨x,hx,c⟩)⟩
    ·exact q l hl
  ·rw[show ((y.length:Int) != (r.length:Int))=true from by rw[bne_iff_ne];omega]
   simp only[Bool.not_true,qDW,oB9,Bool.true_or,cW]
   exact .f fun k=>h (k y (by simp)).1
theorem qQ7 (m:Marks) {r:bE} (hr:qAV m.ac 0=some r):∀(ys:List bE) (k:Nat),Ret (qDt m ys k) ((∀l∈ys,qZa r.length l)/\∀l∈m.ac,qZN r.length l)
 | [],k=>by rw[qDt];exact(qRE m hr m.ac 0).iff (by simp)
 |y::ys,k=>by
  rw[qDt,bnd (show qA6 m=some (r.length:Int) from by unfold qA6;rw[bnd hr])]
  by_cases h:y.length=r.length
  ·rw[show ((y.length:Int) != (r.length:Int))=false from by rw[h];simp]
   simp only[Bool.not_false,qBx,Bool.false_or]
   obtain⟨b,b1,b2⟩:=qJO (-5) 5 y 0
   rw[bnd (show qCR y (-5) 5=some b from b1)]
   cases b
   ·exact .f fun k=>absurd (b2.2 (k.1 y (by simp)).2) (by simp)
   ·simp only[Bool.not_true,cF]
    refine(qQ7 m hr ys (k+1)).iff ⟨fun q=>⟨fun l hl=>?_,q.2⟩,fun q=>⟨fun l hl=>q.1 l (by simp[hl]),q.2⟩⟩
    rcases List.mem_cons.1 hl with rfl|hl
    ·exact⟨h,b2.1 rfl⟩
    ·exact q.1 l hl
  ·rw[show ((y.length:Int) != (r.length:Int))=true from by rw[bne_iff_ne];omega]
   simp only[Bool.not_true,qDW,oB9,Bool.true_or,cW]
   exact .f fun k=>h (k.1 y (by simp)).1
theorem qS7 (m:Marks):Ret (qEH m) (qHa m):=by
 unfold qEH
 by_cases h1:m.ah.length<=14/\m.ac.length=3
 ·rw[dF (by omega),show ((m.ac.length:Int) != 3)=false from by rw[h1.2];rfl]
  obtain⟨r,hr⟩:∃r,qAV m.ac 0=some r:=⟨_,qHZ (k:=0) (by omega)⟩
  simp only[Bool.or_false,Bool.not_false,qBx]
  rw[bnd hr]
  obtain⟨b,b1,b2⟩:=qB8 (r.length:Int) 3 9
  rw[bnd b1]
  cases b
  ·exact .f fun ⟨_,_,r',e,k,_⟩=>by rw[hr]at e;cases e;exact absurd (b2.2 (by omega)) (by simp)
  ·simp only[Bool.not_true,Bool.or_false,cF]
   have:=b2.1 rfl
   exact(qQ7 m hr m.ah 0).iff ⟨fun q=>⟨h1.1,h1.2,r,hr,by omega,q.1,q.2⟩,fun ⟨_,_,r',e,_,k⟩=>by rw[hr]at e;cases e;exact k⟩
 ·have hg:(decide ((m.ah.length:Int)>14)||((m.ac.length:Int) != 3))=true:=by
   rw[Bool.or_eq_true,decide_eq_true_eq,bne_iff_ne];omega
  rw[hg]
  simp only[Bool.not_true,qDW,oB9,Bool.true_or,cW]
  exact .f fun k=>h1 ⟨k.1,k.2.1⟩
theorem qOn (l:bE) (J:Nat):∀(ys:bE) (k:Nat),Ret (qCH l (J:Int) false ys k) (qZa J l)
 | [],k=>by
  rw[qCH,cF]
  by_cases h:l.length=J
  ·rw[show ((l.length:Int)==(J:Int))=true from by rw[h];simp]
   simp only[qBx,Bool.true_and]
   obtain⟨b,b1,b2⟩:=qPQ (-5) 5 l 0
   rw[bnd (show qC3 l (-5) 5=some b from b1)]
   exact .some (b2.trans ⟨fun q=>⟨h,q⟩,fun q=>q.2⟩)
  ·rw[show ((l.length:Int)==(J:Int))=false from by rw[beq_eq_false_iff_ne];omega]
   exact .f fun k=>h k.1
 |y::ys,k=>by
  rw[qCH]
  simp only[qDW,oB9,Bool.false_and,cF]
  exact qOn l J ys (k+1)
theorem qOk (l:bE) (J:Nat):∀(ys pre:bE) (k:Nat),l=pre++ys->(∀x∈pre,x.tmod 25=0)->Ret (qCH l (J:Int) true ys k) (qZN J l)
 | [],pre,k,h1,h2=>by
  rw[qCH,cW]
  rw[List.append_nil]at h1
  subst h1
  by_cases h:l.length=J
  ·rw[show ((l.length:Int)==(J:Int))=true from by rw[h];simp]
   simp only[qBx,Bool.true_and]
   obtain⟨b,b1,b2⟩:=qPQ 0 1000 l 0
   rw[bnd (show qC3 l 0 1000=some b from b1)]
   exact .some (b2.trans ⟨fun q=>⟨h,fun x hx=>⟨q x hx,h2 x hx⟩⟩,fun q x hx=>(q.2 x hx).1⟩)
  ·rw[show ((l.length:Int)==(J:Int))=false from by rw[beq_eq_false_iff_ne];omega]
   exact .f fun k=>h k.1
 |y::ys,pre,k,h1,h2=>by
  rw[qCH,n25]
  simp only[qBx,oB9,Bool.true_and]
  by_cases h:y.tmod 25=0
  ·rw[h,bne_self_eq_false,cF]
   exact qOk l J ys (pre++[y]) (k+1) (by rw[h1];simp) fun x hx=>by
    rcases List.mem_append.1 hx with hx|hx
    ·exact h2 x hx
    ·rw[List.mem_singleton.1 hx];exact h
  ·rw[show (y.tmod 25 != 0)=true from by rw[bne_iff_ne];exact h,cW]
   exact .f fun k=>h (k.2 y (by rw[h1];simp)).2
theorem qOr (r:bE):∀(ys:List bE) (k:Nat),Ret (qE7 r ys k) ((∀l∈ys,qZN r.length l)/\(3<=r.length/\r.length<=9))
 | [],k=>by
  rw[qE7]
  obtain⟨b,b1,b2⟩:=qD0 (r.length:Int) 3 9
  rw[bnd b1]
  exact .some (b2.trans ⟨fun q=>⟨by simp,by omega⟩,fun q=>by have:=q.2;omega⟩)
 |y::ys,k=>by
  obtain⟨b,b1,b2⟩:=qOk y r.length y [] 0 rfl (by simp)
  rw[qE7,bnd (show qH0 y (r.length:Int) true=some b from b1)]
  cases b
  ·exact .f fun k=>absurd (b2.2 (k.1 y (by simp))) (by simp)
  ·simp only[Bool.not_true,cF]
   refine(qOr r ys (k+1)).iff ⟨fun q=>⟨fun l hl=>?_,q.2⟩,fun q=>⟨fun l hl=>q.1 l (by simp[hl]),q.2⟩⟩
   rcases List.mem_cons.1 hl with rfl|hl
   ·exact b2.1 rfl
   ·exact q.1 l hl
theorem qOq (m:Marks) (r:bE):∀(ys:List bE) (k:Nat),Ret (qE4 m r ys k) ((∀l∈ys,qZa r.length l)/\(∀l∈m.ac,qZN r.length l)/\(3<=r.length/\r.length<=9))
 | [],k=>by rw[qE4];exact(qOr r m.ac 0).iff (by simp)
 |y::ys,k=>by
  obtain⟨b,b1,b2⟩:=qOn y r.length y 0
  rw[qE4,bnd (show qH0 y (r.length:Int) false=some b from b1)]
  cases b
  ·exact .f fun k=>absurd (b2.2 (k.1 y (by simp))) (by simp)
  ·simp only[Bool.not_true,cF]
   refine(qOq m r ys (k+1)).iff ⟨fun q=>⟨fun l hl=>?_,q.2⟩,fun q=>⟨fun l hl=>q.1 l (by simp[hl]),q.2⟩⟩
   rcases List.mem_cons.1 hl with rfl|hl
   ·exact b2.1 rfl
   ·exact q.1 l hl
theorem qV4 (m:Marks):Ret (qFl m) (qHa m):=by
 unfold qFl
 by_cases h1:m.ah.length<=14/\m.ac.length=3
 ·rw[dF (by omega),show ((m.ac.length:Int) != 3)=false from by rw[h1.2];rfl]
  obtain⟨r,hr⟩:∃r,qAV m.ac 0=some r:=⟨_,qHZ (k:=0) (by omega)⟩
  simp only[Bool.or_false,cF]
  rw[bnd hr]
  exact(qOq m r m.ah 0).iff ⟨fun q=>⟨h1.1,h1.2,r,hr,q.2.2,q.1,q.2.1⟩,fun ⟨_,_,r',e,a,b,c⟩=>by rw[hr]at e;cases e;exact⟨b,c,a⟩⟩
 ·have hg:(((m.ac.length:Int) != 3)||decide ((m.ah.length:Int)>14))=true:=by
   rw[Bool.or_eq_true,decide_eq_true_eq,bne_iff_ne];omega
  rw[hg,cW]
  exact .f fun k=>h1 ⟨k.1,k.2.1⟩
end
section
def qaN (c:Code) (p:Performance):Prop:=qG7 c/\qEe p.ai/\qGu c p.ai/\qHa p.ae/\p.ae.ah.length=p.ai.length/\qPY p.af
theorem qIQ (m:Marks):∃b,qEH m=some b/\qFl m=some b/\(b=true↔qHa m):=by
 obtain⟨b,b1,b2⟩:=qS7 m
 obtain⟨d,d1,d2⟩:=qV4 m
 obtain rfl:b=d:=Bool.eq_iff_iff.2 (b2.trans d2.symm)
 exact⟨b,b1,d1,b2⟩
end
section
def elN (c:Code) (s:bD):Element:=(qAV c.ad (fnd s c.ad 0)).getD default
def wth (c:Code) (x:Element) (mark:Int):Int:=if mark=1 then (x.aG*c.au).tdiv 100 else if mark=2 then (x.aG*9).tdiv 10 else if mark=3 then 0 else x.aG
theorem qa5:qAl (100 != 0)=some ():=rfl
theorem n10:qAl (10 != 0)=some ():=rfl
theorem qPl {c:Code} {s:bD} (h:¬fnd s c.ad 0<0):qAV c.ad (fnd s c.ad 0)=some (elN c s)/\elN c s∈c.ad:=by
 obtain⟨x,h1,h2⟩:=qZw h
 unfold elN
 rw[h1]
 exact⟨rfl,h2⟩
theorem qMv {a b A B:Int} (ha:0<=a/\a<=A) (hb:0<=b/\b<=B):0<=a*b/\a*b<=A*B :=
 ⟨Int.mul_nonneg ha.1 hb.1,Int.mul_le_mul ha.2 hb.2 hb.1 (by omega)⟩
theorem qUl {c:Code} (hc:qG7 c) {x:Element} (hx:qUN x) (mark:Int):0<=wth c x mark/\wth c x mark<=2000:=by
 have hb:=hx.2.2
 have hk:=hc.2.2.2.2.1
 have hm:=qMv (a:=x.aG) (b:=c.au) (A:=2000) (B:=100) (by omega) (by omega)
 unfold wth
 split
 ·rw[Int.tdiv_eq_ediv_of_nonneg hm.1];omega
 ·split
  ·rw[Int.tdiv_eq_ediv_of_nonneg (by omega)];omega
  ·split<;>omega
theorem qTx {c:Code} (hc:qG7 c) {x:Element} (hx:qUN x) (mark:Int):qG4 c x mark=some (wth c x mark):=by
 have hb:=hx.2.2
 have hk:=hc.2.2.2.2.1
 have hm:=qMv (a:=x.aG) (b:=c.au) (A:=2000) (B:=100) (by omega) (by omega)
 have hd:0<=(x.aG*c.au).tdiv 100/\(x.aG*c.au).tdiv 100<=2000:=by rw[Int.tdiv_eq_ediv_of_nonneg hm.1];omega
 have hd2:0<=(x.aG*9).tdiv 10/\(x.aG*9).tdiv 10<=2000:=by rw[Int.tdiv_eq_ediv_of_nonneg (by omega)];omega
 unfold qG4 wth
 rw[qa5,n10,qAD (n:=x.aG*c.au) (by omega),qAD (n:=x.aG*9) (by omega),qAD (n:=(x.aG*c.au).tdiv 100) (by omega),qAD (n:=(x.aG*9).tdiv 10) (by omega)]
 simp only[oB9]
 by_cases h1:mark=1
 ·rw[if_pos h1,show (mark==1)=true from by rw[h1];rfl];rfl
 ·rw[if_neg h1,show (mark==1)=false from by rw[beq_eq_false_iff_ne];exact h1,cF]
  by_cases h2:mark=2
  ·rw[if_pos h2,show (mark==2)=true from by rw[h2];rfl];rfl
  ·rw[if_neg h2,show (mark==2)=false from by rw[beq_eq_false_iff_ne];exact h2,cF]
   by_cases h3:mark=3
   ·rw[if_pos h3,show (mark==3)=true from by rw[h3];rfl];rfl
   ·rw[if_neg h3,show (mark==3)=false from by rw[beq_eq_false_iff_ne];exact h3];rfl
theorem qVf {c:Code} (hc:qG7 c) {s:bD} (hs:¬fnd s c.ad 0<0) (mark:Int):qG8 c s mark=some (wth c (elN c s) mark):=by
 obtain⟨e1,e2⟩:=qPl hs
 have:=qTx hc (hc.2.2.2.2.2.2 _ e2) mark
 unfold qG4 at this
 unfold qG8
 rw[bnd (qG3 c s).2,dF hs,cF,bnd e1]
 exact this
def wl (c:Code) (it:Item):bE:=List.zipWith (fun s m=>wth c (elN c s) m) it.aj it.ae
theorem qTf {c:Code} (hc:qG7 c) (it:Item):∀(ys:List bD) (ms mp:bE) (v:bE),it.ae=mp++ms->ys.length=ms.length->(∀s∈ys,¬fnd s c.ad 0<0)->v.length+ys.length<=1000->
  qEF c it ys mp.length v=some (v++List.zipWith (fun s m=>wth c (elN c s) m) ys ms)
 | [],[],mp,v,_,_,_,_=>by rw[qEF];simp
 |y::ys,m::ms,mp,v,h1,h2,h3,h4=>by
  obtain⟨e1,e2⟩:=qPl (h3 y (by simp))
  simp only[List.length_cons]at h4
  rw[qEF,bnd (qG3 c y).1,bnd e1,bnd (qDC (pre:=mp) (y:=m) (ys:=ms) h1 rfl),bnd (qTx hc (hc.2.2.2.2.2.2 _ e2) m),qGN (by simp;omega),qC2,oB9]
  have:=qTf hc it ys ms (mp++[m]) (v++[wth c (elN c y) m]) (by rw[h1];simp) (by simpa using h2) (fun s hs=>h3 s (by simp[hs])) (by simp;omega)
  rw[show (mp++[m]).length=mp.length+1 from by simp]at this
  rw[this];simp
theorem qZu {c:Code} (hc:qG7 c):∀(ys:List bD) (ms:bE),(∀s∈ys,¬fnd s c.ad 0<0)->∀x∈List.zipWith (fun s m=>wth c (elN c s) m) ys ms,0<=x/\x<=2000
 | [],_,_,x,hx=>by simp at hx
 |_::_,[],_,x,hx=>by simp at hx
 |y::ys,m::ms,h,x,hx=>by
  rw[List.zipWith_cons_cons]at hx
  rcases List.mem_cons.1 hx with rfl|hx
  ·exact qUl hc (hc.2.2.2.2.2.2 _ (qPl (h y (by simp))).2) m
  ·exact qZu hc ys ms (fun s hs=>h s (by simp[hs])) x hx
theorem qSP {c:Code} (hc:qG7 c) {it:Item} (hi:qGQ it) (hk:∀s∈it.aj,¬fnd s c.ad 0<0):qJG c it=some (wl c it):=by
 have:=qTf hc it it.aj it.ae [] [] rfl hi.2.symm hk (by simp;have:=hi.1;omega)
 rw[List.nil_append]at this
 exact this
theorem qWX:∀{l:bE} {B:Int},(∀x∈l,0<=x/\x<=B)->0<=l.sum/\l.sum<=B*(l.length:Int)
 | [],B,_=>by simp
 |x::l,B,h=>by
  have h1:=h x (by simp)
  have h2:=qWX (l:=l) (B:=B) fun y hy=>h y (by simp[hy])
  rw[List.sum_cons,List.length_cons,show ((l.length+1:Nat):Int)=(l.length:Int)+1 from rfl,Int.mul_add,Int.mul_one];omega
theorem qYG:∀(l:bE) (k:Nat) (v:Int),(∀x∈l,0<=x/\x<=100000)->0<=v->v+100000*(l.length:Int)<=1000000000000->qBH l k v=some (v+l.sum)
 | [],k,v,_,_,_=>by rw[qBH];simp
 |x::l,k,v,h,hv,hb=>by
  have h1:=h x (by simp)
  simp only[List.length_cons]at hb
  rw[qBH,qAD (by omega),qYG l (k+1) (v+x) (fun y hy=>h y (by simp[hy])) (by omega) (by omega),List.sum_cons]
  congr 1;omega
def qPt (c:Code) (it:Item):Int:=if it.aB=true then rnd ((wl c it).sum*(100+c.av)) 100 else (wl c it).sum
theorem qZs {a B:Int} (h:0<=a/\a<=100*B):0<=rnd a 100/\rnd a 100<=B:=by unfold rnd;omega
theorem qTq {c:Code} (hc:qG7 c) {it:Item} (hi:qGQ it) (hk:∀s∈it.aj,¬fnd s c.ad 0<0):(∀x∈wl c it,0<=x/\x<=2000)/\(1<=(wl c it).length/\(wl c it).length<=3)/\0<=(wl c it).sum/\(wl c it).sum<=6000:=by
 have h1:∀x∈wl c it,0<=x/\x<=2000:=qZu hc it.aj it.ae hk
 have h2:(wl c it).length=it.aj.length:=by unfold wl;rw[List.length_zipWith,hi.2];simp
 have h3:=qWX h1
 have h4:=hi.1
 exact⟨h1,by omega,h3.1,by omega⟩
theorem qYS {c:Code} (hc:qG7 c) {it:Item} (hi:qGQ it) (hk:∀s∈it.aj,¬fnd s c.ad 0<0):0<=qPt c it/\qPt c it<=7200:=by
 obtain⟨_,_,h3,h4⟩:=qTq hc hi hk
 have hb:=hc.2.2.2.1
 unfold qPt
 split
 ·have:=qMv (a:=(wl c it).sum) (b:=100+c.av) (A:=6000) (B:=120) ⟨h3,h4⟩ (by omega)
  exact qZs (by omega)
 ·omega
theorem qaG {c:Code} (hc:qG7 c) {it:Item} (hi:qGQ it) (hk:∀s∈it.aj,¬fnd s c.ad 0<0):qIG c it=some (qPt c it):=by
 obtain⟨h1,h2,h3,h4⟩:=qTq hc hi hk
 have hb:=hc.2.2.2.1
 have hm:=qMv (a:=(wl c it).sum) (b:=100+c.av) (A:=6000) (B:=120) ⟨h3,h4⟩ (by omega)
 unfold qIG qPt
 have hs:qBM (wl c it)=some (wl c it).sum:=by
  have:=qYG (wl c it) 0 0 (fun x hx=>by have:=h1 x hx;omega) (by omega) (by omega)
  rw[Int.zero_add]at this
  exact this
 rw[bnd (qSP hc hi hk),bnd hs,qAD (n:=100+c.av) (by omega),qAD (by omega)]
 cases it.aB
 ·rfl
 ·rw[cW,bnd (qMK (b:=100) (by omega) (by omega) (by omega)).1,if_pos rfl]
theorem qWY {c:Code} (hc:qG7 c) (it:Item) (fu:Int->Option Int) (hfu:∀v:Int,qCN c it [] 0 v=fu v):∀(ys:List bD) (ms mp:bE) (v:Int),it.ae=mp++ms->ys.length=ms.length->(∀s∈ys,¬fnd s c.ad 0<0)->0<=v->v+2000*(ys.length:Int)<=1000000->
  qCN c it ys mp.length v=fu (v+(List.zipWith (fun s m=>wth c (elN c s) m) ys ms).sum)
 | [],[],mp,v,_,_,_,_,_=>by
  have:=hfu v
  rw[qCN]at this
  rw[qCN,this];simp
 |y::ys,m::ms,mp,v,h1,h2,h3,h4,h5=>by
  have hw:=qUl hc (hc.2.2.2.2.2.2 _ (qPl (h3 y (by simp))).2) m
  simp only[List.length_cons]at h5
  rw[qCN,bnd (qDC (pre:=mp) (y:=m) (ys:=ms) h1 rfl),bnd (qVf hc (h3 y (by simp)) m),qAD (by omega)]
  have:=qWY hc it fu hfu ys ms (mp++[m]) (v+wth c (elN c y) m) (by rw[h1];simp) (by simpa using h2) (fun s hs=>h3 s (by simp[hs])) (by omega) (by omega)
  rw[show (mp++[m]).length=mp.length+1 from by simp]at this
  rw[this,List.zipWith_cons_cons,List.sum_cons]
  congr 1;omega
theorem qZe {c:Code} (hc:qG7 c) {it:Item} (hi:qGQ it) (hk:∀s∈it.aj,¬fnd s c.ad 0<0):qJH c it=some (qPt c it):=by
 obtain⟨h1,h2,h3,h4⟩:=qTq hc hi hk
 have hb:=hc.2.2.2.1
 have hm:=qMv (a:=(wl c it).sum) (b:=100+c.av) (A:=6000) (B:=120) ⟨h3,h4⟩ (by omega)
 have hl:=hi.1
 have:=qWY hc it _ (fun _=>rfl) it.aj it.ae [] 0 rfl hi.2.symm hk (by omega) (by omega)
 rw[Int.zero_add]at this
 unfold qJH qPt
 rw[show ([]:bE).length=0 from rfl]at this
 rw[this,qCN]
 show cond it.aB ((qEK (w64 ((wl c it).sum*(w64 (100+c.av)))) 100).bind fun x18=>some x18) (some (wl c it).sum)=_
 rw[qAD (n:=100+c.av) (by omega),qAD (by omega)]
 cases it.aB
 ·rfl
 ·rw[cW,bnd (qMK (b:=100) (by omega) (by omega) (by omega)).2,if_pos rfl]
end
section
theorem qOL {it:Item} (h:qGQ it):∃s m,qAV it.aj 0=some s/\qAV it.ae 0=some m:=by
 have h1:=h.1
 have h2:=h.2
 exact⟨_,_,qHZ (k:=0) (by omega),qHZ (k:=0) (by omega)⟩
theorem qV2 {l:List Item} {k:Nat} {x:Item} (hx:qAV l (k:Int)=some x) (hi:qGQ x):∀(ys:List Item) (j:Nat) (v:Int),(∀it∈ys,qGQ it)->0<=v->v+(ys.length:Int)<=1000->
  ∃r,qA3 l (k:Int) ys j v=some r/\qAz l (k:Int) ys j v=some r/\0<=r
 | [],j,v,_,hv,_=>⟨v,by rw[qA3],by rw[qAz],hv⟩
 |y::ys,j,v,h,hv,hb=>by
  obtain⟨s,_,s1,_⟩:=qOL hi
  obtain⟨t,m,t1,m1⟩:=qOL (h y (by simp))
  simp only[List.length_cons]at hb
  rw[qA3,qAz,bnd t1,bnd t1,bnd hx,bnd hx,bnd s1,bnd s1,m1,qAD (by omega)]
  have hr:∃b:Bool,((opt (decide (t=s)) default (some m)).bind fun x34=>cond (decide (t=s)&&(x34 != 3)) (qA3 l (k:Int) ys (j+1) (v+1)) (qA3 l (k:Int) ys (j+1) v))=cond b (qA3 l (k:Int) ys (j+1) (v+1)) (qA3 l (k:Int) ys (j+1) v)/\
    ((opt (decide (t=s)) default (some m)).bind fun x34=>cond (decide (t=s)&&(x34 != 3)) (qAz l (k:Int) ys (j+1) (v+1)) (qAz l (k:Int) ys (j+1) v))=cond b (qAz l (k:Int) ys (j+1) (v+1)) (qAz l (k:Int) ys (j+1) v):=by
   cases decide (t=s)
   ·exact⟨false,by simp only[qDW,oB9,Bool.false_and],by simp only[qDW,oB9,Bool.false_and]⟩
   ·exact⟨m != 3,by simp only[qBx,oB9,Bool.true_and],by simp only[qBx,oB9,Bool.true_and]⟩
  obtain⟨b,b1,b2⟩:=hr
  rw[b1,b2]
  cases b
  ·exact qV2 hx hi ys (j+1) v (fun it hit=>h it (by simp[hit])) hv (by omega)
  ·exact qV2 hx hi ys (j+1) (v+1) (fun it hit=>h it (by simp[hit])) (by omega) (by omega)
theorem qU6 {c:Code} (hc:qG7 c) {l:List Item} (hl:qEe l) (hk:qGu c l) {k:Nat} {x:Item} (hx:qAV l (k:Int)=some x):∃b,qCr c l (k:Int)=some b/\qEz c l (k:Int)=some b/\0<=b/\b<=7200:=by
 have hx2:l[k]?=some x:=by rw[qEm rfl]at hx;exact hx
 have hmem:x∈l:=List.mem_of_getElem? hx2
 have hlt:=(List.getElem?_eq_some_iff.1 hx2).1
 have hi:=hl.2 x hmem
 obtain⟨r,r1,r2,r3⟩:=qV2 hx hi (l.take k) 0 0 (fun it h=>hl.2 it (List.mem_of_mem_take h)) (by omega) (by rw[List.length_take];have:=hl.1;omega)
 have hb:=qYS hc hi (hk x hmem)
 unfold qCr qEz qIv qIm
 rw[qRG (l:=l) (k:=k) rfl (by omega),oB9,oB9,bnd r1,bnd hx,bnd hx,bnd (qaG hc hi (hk x hmem)),bnd (qZe hc hi (hk x hmem)),bnd r2,n10,qAD (n:=qPt c x*7) (by omega)]
 have hd:0<=(qPt c x*7).tdiv 10/\(qPt c x*7).tdiv 10<=7200:=by rw[Int.tdiv_eq_ediv_of_nonneg (by omega)];omega
 rw[qAD (n:=(qPt c x*7).tdiv 10) (by omega)]
 cases decide (r<c.aq)
 ·rw[cF]
  cases r==c.aq
  ·exact⟨0,rfl,rfl,by omega,by omega⟩
  ·exact⟨_,rfl,rfl,hd⟩
 ·exact⟨_,rfl,rfl,hb⟩
theorem qWS {c:Code} (hc:qG7 c) (it:Item):∀(ys:List bD) (ms mp:bE) (v:Int),it.ae=mp++ms->ys.length=ms.length->(∀s∈ys,¬fnd s c.ad 0<0)->0<=v->
  qER c it ys mp.length v=some ((List.zipWith (fun s m=>wth c (elN c s) m) ys ms).foldl max v)
 | [],[],mp,v,_,_,_,_=>by rw[qER];rfl
 |y::ys,m::ms,mp,v,h1,h2,h3,h4=>by
  have hw:=qUl hc (hc.2.2.2.2.2.2 _ (qPl (h3 y (by simp))).2) m
  rw[qER,bnd (qDC (pre:=mp) (y:=m) (ys:=ms) h1 rfl),bnd (qVf hc (h3 y (by simp)) m),List.zipWith_cons_cons,List.foldl_cons]
  have hm:qF1 v (wth c (elN c y) m)=some (max v (wth c (elN c y) m)):=by
   unfold qF1
   by_cases h:v>wth c (elN c y) m
   ·rw[dT h,cW,Int.max_eq_left (by omega)]
   ·rw[dF h,cF,Int.max_eq_right (by omega)]
  rw[bnd hm]
  have:=qWS hc it ys ms (mp++[m]) (max v (wth c (elN c y) m)) (by rw[h1];simp) (by simpa using h2) (fun s hs=>h3 s (by simp[hs])) (by omega)
  rw[show (mp++[m]).length=mp.length+1 from by simp]at this
  exact this
end
section
def qIf (c:Code) (l:List Item) (k:Nat):Int:=(qCr c l (k:Int)).getD 0
theorem qOD {c:Code} (hc:qG7 c) {l:List Item} (hl:qEe l) (hk:qGu c l) {k:Nat} (h:k<l.length):qCr c l (k:Int)=some (qIf c l k)/\qEz c l (k:Int)=some (qIf c l k)/\0<=qIf c l k/\qIf c l k<=7200:=by
 obtain⟨b,b1,b2,b3⟩:=qU6 hc hl hk (qHZ h)
 have e:qIf c l k=b:=by unfold qIf;rw[b1];rfl
 rw[e]
 exact⟨b1,b2,b3⟩
def qIJ (c:Code) (it:Item):Int:=(wl c it).foldl max 0
theorem qaM (x:bE) (hx:x.length<=1000):∀(ys pre:bE) (a8:Nat) (m:Int),x=pre++ys->ys.length<a8->qBT x a8 m (pre.length:Int)=some (ys.foldl max m):=by
 intro ys
 induction ys with
 |nil =>
  intro pre a8 m h hf
  obtain⟨f,rfl⟩:=nZ9 (by omega:a8≠0)
  rw[qBT,dF (by rw[h];simp)];rfl
 |cons y ys ih =>
  intro pre a8 m h hf
  obtain⟨f,rfl⟩:=nZ9 (by omega:a8≠0)
  simp only[List.length_cons]at hf
  have hlen:x.length=pre.length+(ys.length+1):=by rw[h];simp
  rw[qBT,dT (by omega),cW,bnd (qDC h rfl),qAD (by omega)]
  have:=ih (pre++[y]) f (max m y) (by rw[h];simp) (by omega)
  rw[show (pre++[y]).length=pre.length+1 from by simp,Int.natCast_add,Int.natCast_one]at this
  exact this
theorem qOo:∀(l:bE) (v B:Int),(∀x∈l,0<=x/\x<=B)->0<=v/\v<=B->0<=l.foldl max v/\l.foldl max v<=B
 | [],v,B,_,h=>h
 |x::l,v,B,h,hv=>by
  have:=h x (by simp)
  exact qOo l (max v x) B (fun y hy=>h y (by simp[hy])) (by omega)
theorem qNk {c:Code} (hc:qG7 c) {it:Item} (hi:qGQ it) (hk:∀s∈it.aj,¬fnd s c.ad 0<0) (a8:Nat) (hf:1048576<a8):qHz a8 c it=some (qIJ c it)/\qI9 c it=some (qIJ c it)/\0<=qIJ c it/\qIJ c it<=2000:=by
 obtain⟨h1,h2,_,_⟩:=qTq hc hi hk
 have hb:=qOo (wl c it) 0 2000 h1 (by omega)
 refine⟨?_,?_,hb⟩
 ·unfold qHz qEt qIJ
  rw[bnd (qSP hc hi hk)]
  cases hw:wl c it with
  |nil=>rw[hw]at h2;simp at h2
  |cons x xs =>
   rw[dF (by simp;omega),cF,bnd (show qAV (x::xs) 0=some x from rfl)]
   have:=qaM (x::xs) (by rw[hw]at h2;omega) xs [x] a8 x rfl (by rw[hw]at h2;simp at h2;omega)
   rw[bnd (show qBT (x::xs) a8 x 1=_ from this),List.foldl_cons,Int.max_eq_right (h1 x (by rw[hw];simp)).1]
 ·have:=qWS hc it it.aj it.ae [] 0 rfl hi.2.symm hk (by omega)
  exact this
theorem qXD {J:Nat} {g:bE} (h:qZa J g) (hJ:3<=J/\J<=9):qJ5 g:=by
 have:=h.1
 exact⟨by omega,fun x hx=>by have:=h.2 x hx;omega⟩
def qWz (c:Code) (l:List Item) (k:Nat) (it:Item) (g:bE):Int:=if qIf c l k=0 then 0 else rnd (tS g*qIJ c it) (10*nS g)
theorem qS3 {c:Code} (hc:qG7 c) {l:List Item} (hl:qEe l) (hk:qGu c l) {k:Nat} {x:Item} (hx:qAV l (k:Int)=some x) {g:bE} (hg:qJ5 g) (a8:Nat) (hf:1048576<a8) :
  qHR a8 c l (k:Int) g=some (qWz c l k x g)/\qH5 a8 c l (k:Int) g=some (qWz c l k x g):=by
 have hx2:l[k]?=some x:=by rw[qEm rfl]at hx;exact hx
 have hmem:x∈l:=List.mem_of_getElem? hx2
 have hlt:=(List.getElem?_eq_some_iff.1 hx2).1
 obtain⟨b1,b2,b3⟩:=qOD hc hl hk hlt
 obtain⟨u1,u2,u3⟩:=qNk hc (hl.2 x hmem) (hk x hmem) a8 hf
 obtain⟨t1,t2⟩:=qNy hg a8 (by omega)
 have hT:=qVs hg
 have hN:=qVl hg
 have hm:-40000000<=tS g*qIJ c x/\tS g*qIJ c x<=40000000:=by
  have h1:tS g*qIJ c x<=20000*qIJ c x:=Int.mul_le_mul_of_nonneg_right hT.2 u3.1
  have h2:-20000*qIJ c x<=tS g*qIJ c x:=Int.mul_le_mul_of_nonneg_right hT.1 u3.1
  omega
 unfold qHR qH5 qWz
 rw[bnd b1,bnd b2]
 by_cases h0:qIf c l k=0
 ·rw[if_pos h0,show (qIf c l k==0)=true from by rw[h0];rfl];exact⟨rfl,rfl⟩
 ·rw[if_neg h0,show (qIf c l k==0)=false from by rw[beq_eq_false_iff_ne];exact h0,cF,cF,bnd t1,bnd t2,bnd hx,bnd hx,bnd u1,bnd u2]
  dsimp only
  obtain⟨r1,r2⟩:=qMK (a:=tS g*qIJ c x) (b:=10*nS g) (by omega) (by omega) (by omega)
  rw[qAD (n:=tS g*qIJ c x) (by omega),qAD (n:=10*nS g) (by omega),bnd r1,bnd r2]
  exact⟨rfl,rfl⟩
end
section
def scl (c:Code) (l:List Item):Nat->List Item->List bE->bE
 |k,x::ys,g::gs=>(qIf c l k+qWz c l k x g)::scl c l (k+1) ys gs
 |_,_,_=>[]
theorem qVD {a b A:Int} (hb:0<b) (hA:0<=A) (h:-A<=a/\a<=A):-A-1<=rnd a b/\rnd a b<=A+1:=by
 have h1:=qVy (a:=0) (a':=a) (b:=b) (d:=A) hb (by
  have:=Int.mul_le_mul_of_nonneg_left (show (1:Int)<=b by omega) hA
  omega)
 have h2:=qVy (a:=a) (a':=0) (b:=b) (d:=A) hb (by
  have:=Int.mul_le_mul_of_nonneg_left (show (1:Int)<=b by omega) hA
  omega)
 have h3:rnd 0 b=0:=by
  unfold rnd
  rw[Int.mul_zero,Int.zero_add]
  exact Int.ediv_eq_zero_of_lt (by omega) (by omega)
 omega
theorem qX6 {c:Code} (hc:qG7 c) {l:List Item} (hl:qEe l) (hk:qGu c l) (k:Nat) {x:Item} (hx:x∈l) {g:bE} (hg:qJ5 g):-50000000<=qWz c l k x g/\qWz c l k x g<=50000000:=by
 obtain⟨_,_,u3⟩:=qNk hc (hl.2 x hx) (hk x hx) 99999999 (by omega)
 have hT:=qVs hg
 have hN:=qVl hg
 unfold qWz
 split
 ·omega
 ·have h1:tS g*qIJ c x<=20000*qIJ c x:=Int.mul_le_mul_of_nonneg_right hT.2 u3.1
  have h2:-20000*qIJ c x<=tS g*qIJ c x:=Int.mul_le_mul_of_nonneg_right hT.1 u3.1
  have:=qVD (a:=tS g*qIJ c x) (b:=10*nS g) (A:=40000000) (by omega) (by omega) (by omega)
  omega
theorem qTs {c:Code} (hc:qG7 c) {l:List Item} (hl:qEe l) (hk:qGu c l) (m:Marks) (a8:Nat) (hf:1048576<a8):∀(ys:List Item) (gs:List bE) (pre:List Item) (gp:List bE) (v:bE),l=pre++ys->m.ah=gp++gs->gp.length=pre.length->ys.length=gs.length->(∀g∈gs,qJ5 g)->v.length+ys.length<=1000->
  qB6 c l m a8 ys pre.length v=some (v++scl c l pre.length ys gs)/\qC1 c l m a8 ys pre.length v=some (v++scl c l pre.length ys gs)
 | [],[],pre,gp,v,_,_,_,_,_,_=>⟨by rw[qB6];simp[scl],by rw[qC1];simp[scl]⟩
 |y::ys,g::gs,pre,gp,v,h1,h2,h3,h4,h5,h6=>by
  have hgy:=qDC (pre:=pre) (y:=y) (ys:=ys) h1 rfl
  have hgg:qAV m.ah (pre.length:Int)=some g:=qDC (pre:=gp) (y:=g) (ys:=gs) h2 (by rw[h3])
  have hlt:pre.length<l.length:=by rw[h1];simp
  have hy:y∈l:=by rw[h1];simp
  obtain⟨b1,b2,b3⟩:=qOD hc hl hk hlt
  obtain⟨q1,q2⟩:=qS3 hc hl hk hgy (h5 g (by simp)) a8 hf
  have hb:=qX6 hc hl hk pre.length hy (h5 g (by simp))
  simp only[List.length_cons]at h6
  obtain⟨i1,i2⟩:=qTs hc hl hk m a8 hf ys gs (pre++[y]) (gp++[g]) (v++[qIf c l pre.length+qWz c l pre.length y g]) (by rw[h1];simp) (by rw[h2];simp) (by simp[h3]) (by simpa using h4) (fun z hz=>h5 z (by simp[hz])) (by simp;omega)
  rw[show (pre++[y]).length=pre.length+1 from by simp]at i1 i2
  rw[qB6,qC1,scl]
  unfold qIy qJ6 qNB
  rw[b1,b2,hgg]
  simp only[oB9]
  rw[q1,q2]
  simp only[oB9]
  rw[qAD (n:=qIf c l pre.length+qWz c l pre.length y g) (by omega),qGN (by simp;omega),qC2,oB9,oB9,i1,i2]
  simp
end
section
theorem qS8:∀{l:bE} {B:Int},(∀x∈l,-B<=x/\x<=B)->-(B*(l.length:Int))<=l.sum/\l.sum<=B*(l.length:Int)
 | [],B,_=>by simp
 |x::l,B,h=>by
  have hx:=h x (by simp)
  have:=qS8 (l:=l) (B:=B) fun y hy=>h y (by simp[hy])
  rw[List.sum_cons,List.length_cons,show ((l.length+1:Nat):Int)=(l.length:Int)+1 from by omega,Int.mul_add,Int.mul_one]
  omega
def MS (m:Marks):Prop:=(∀g∈m.ah,qJ5 g)/\m.ac.length=3/\∀g∈m.ac,qJ5 g
theorem qYV {m:Marks} (h:qHa m):MS m:=by
 obtain⟨h1,h2,r,h3,h4,h5,h6⟩:=h
 refine⟨fun g hg=>qXD (h5 g hg) h4,h2,fun g hg=>?_⟩
 have:=h6 g hg
 have hl:=this.1
 exact⟨by omega,fun x hx=>by have:=(this.2 x hx).1;omega⟩
theorem qYA {c:Code} (hc:qG7 c) {l:List Item} (hl:qEe l) (hk:qGu c l):∀(ys:List Item) (gs:List bE) (pre:List Item),l=pre++ys->ys.length=gs.length->(∀g∈gs,qJ5 g)->(scl c l pre.length ys gs).length=ys.length/\∀x∈scl c l pre.length ys gs,-60000000<=x/\x<=60000000
 | [],[],pre,_,_,_=>by simp[scl]
 |y::ys,g::gs,pre,h1,h2,h3=>by
  have hlt:pre.length<l.length:=by rw[h1];simp
  have hy:y∈l:=by rw[h1];simp
  obtain⟨_,_,b3⟩:=qOD hc hl hk hlt
  have hb:=qX6 hc hl hk pre.length hy (h3 g (by simp))
  obtain⟨i1,i2⟩:=qYA hc hl hk ys gs (pre++[y]) (by rw[h1];simp) (by simpa using h2) (fun z hz=>h3 z (by simp[hz]))
  rw[show (pre++[y]).length=pre.length+1 from by simp]at i1 i2
  rw[scl]
  refine⟨by simp[i1],fun x hx=>?_⟩
  rcases List.mem_cons.1 hx with rfl|hx
  ·omega
  ·exact i2 x hx
def qQG (c:Code) (l:List Item) (m:Marks):Int:=(scl c l 0 l m.ah).sum
def qKy (g:bE):Int:=rnd (tS g) (nS g)
theorem qSs {g:bE} (hg:qJ5 g):-30000<=qKy g/\qKy g<=30000:=by
 have hT:=qVs hg
 have hN:=qVl hg
 have:=qVD (a:=tS g) (b:=nS g) (A:=20000) (by omega) (by omega) (by omega)
 unfold qKy;omega
theorem qZR {g:bE} (hg:qJ5 g) (a8:Nat) (hf:1048576<a8):qFH a8 g=some (qKy g):=by
 obtain⟨t1,t2⟩:=qNy hg a8 (by omega)
 have hT:=qVs hg
 have hN:=qVl hg
 unfold qFH
 rw[bnd t1,bnd (qMK (a:=tS g) (b:=nS g) (by omega) (by omega) (by omega)).1]
 rfl
theorem qaH {g:bE} (hg:qJ5 g) {m:Marks} {k:Int} (hk:qAV m.ac k=some g) (a8:Nat) (hf:1048576<a8):qIc a8 m k=some (qKy g):=by
 obtain⟨t1,t2⟩:=qNy hg a8 (by omega)
 have hT:=qVs hg
 have hN:=qVl hg
 unfold qIc
 rw[bnd hk,bnd t2,bnd (qMK (a:=tS g) (b:=nS g) (by omega) (by omega) (by omega)).2]
 rfl
theorem qVW (a8:Nat) (hf:1048576<a8):∀(ys:List bE) (k:Nat) (v:bE),(∀g∈ys,qJ5 g)->v.length+ys.length<=1000->qBI a8 ys k v=some (v++ys.map qKy)
 | [],k,v,_,_=>by rw[qBI];simp
 |y::ys,k,v,h,hl=>by
  simp only[List.length_cons]at hl
  rw[qBI,bnd (qZR (h y (by simp)) a8 hf),qGN (by simp;omega),qC2,oB9,qVW a8 hf ys (k+1) (v++[qKy y]) (fun g hg=>h g (by simp[hg])) (by simp;omega)]
  simp
theorem qTR (a b:Int):qGy a b=some (min a b):=by
 unfold qGy
 by_cases h:a<b
 ·rw[dT h,cW,Int.min_eq_left (by omega)]
 ·rw[dF h,cF,Int.min_eq_right (by omega)]
theorem qWt (a b:Int):qF1 a b=some (max a b):=by
 unfold qF1
 by_cases h:a>b
 ·rw[dT h,cW,Int.max_eq_left (by omega)]
 ·rw[dF h,cF,Int.max_eq_right (by omega)]
theorem qT6 (m:Marks) (most:Int) (a8:Nat) (hf:1048576<a8):∀(ys pre:List bE) (v:bE),m.ac=pre++ys->(∀g∈ys,qJ5 g)->v.length+ys.length<=1000->qC8 m most a8 ys pre.length v=some (v++ys.map fun g=>min (qKy g) most)
 | [],pre,v,_,_,_=>by rw[qC8];simp
 |y::ys,pre,v,h1,h,hl=>by
  simp only[List.length_cons]at hl
  have ih:=qT6 m most a8 hf ys (pre++[y]) (v++[min (qKy y) most]) (by rw[h1];simp) (fun g hg=>h g (by simp[hg])) (by simp;omega)
  rw[show (pre++[y]).length=pre.length+1 from by simp]at ih
  rw[qC8,bnd (qaH (h y (by simp)) (qDC (pre:=pre) (y:=y) (ys:=ys) h1 rfl) a8 hf),bnd (qTR _ _),qGN (by simp;omega),qC2,oB9,ih]
  simp
theorem qT2 (A:Int) (hA:900<=A/\A<=1000) (f:bE->Nat->Int->Option Int) (f0:∀k v,f [] k v=some v) (f1:∀y ys k v,f (y::ys) k v=f ys (k+1) (w64 (v+min y A))):∀(ys:bE) (k:Nat) (v:Int),(∀x∈ys,-30000<=x/\x<=30000)->(-1000000000<=v-30000*(ys.length:Int)/\v+30000*(ys.length:Int)<=1000000000)->f ys k v=some (v+(ys.map fun y=>min y A).sum)
 | [],k,v,_,_=>by rw[f0];simp
 |y::ys,k,v,h,hv=>by
  have hy:=h y (by simp)
  simp only[List.length_cons]at hv
  rw[f1,qAD (by omega),qT2 A hA f f0 f1 ys (k+1) (v+min y A) (fun x hx=>h x (by simp[hx])) (by omega),List.map_cons,List.sum_cons,Int.add_assoc]
def qZP (falls:Int):Int:=if falls=0 then 1000 else if falls=1 then 950 else 900
def cpV (m:Marks) (falls:Int):Int:=(m.ac.map fun g=>min (qKy g) (qZP falls)).sum
theorem qag {m:Marks} (hm:MS m) (falls:Int):-90000<=cpV m falls/\cpV m falls<=90000:=by
 have hA:900<=qZP falls/\qZP falls<=1000:=by unfold qZP;split;omega;split<;>omega
 have:=qS8 (l:=m.ac.map fun g=>min (qKy g) (qZP falls)) (B:=30000) (fun x hx=>by
  obtain⟨g,hg,rfl⟩:=List.mem_map.1 hx
  have:=qSs (hm.2.2 g hg)
  omega)
 rw[List.length_map,hm.2.1]at this
 unfold cpV;omega
def qQK (m:Marks) (f falls:Int):Int:=rnd (cpV m falls*f) 100
theorem qZc {a f A F:Int} (h:-A<=a/\a<=A) (hA:0<=A) (hf:0<=f/\f<=F):-(A*F)<=a*f/\a*f<=A*F:=by
 have h1:a*f<=A*f:=Int.mul_le_mul_of_nonneg_right h.2 hf.1
 have h2:-A*f<=a*f:=Int.mul_le_mul_of_nonneg_right h.1 hf.1
 have h3:A*f<=A*F:=Int.mul_le_mul_of_nonneg_left hf.2 hA
 rw[Int.neg_mul]at h2
 omega
theorem qSl {m:Marks} (hm:MS m) {f:Int} (h:0<=f/\f<=400) (falls:Int):(-36000000<=cpV m falls*f/\cpV m falls*f<=36000000)/\(-40000000<=qQK m f falls/\qQK m f falls<=40000000):=by
 have h1:=qZc (qag hm falls) (by omega) h
 have h2:=qVD (a:=cpV m falls*f) (b:=100) (A:=36000000) (by omega) (by omega) (by omega)
 exact⟨by omega,by unfold qQK;omega⟩
def fG (k:Int):Int:=k+max (k-2) 0+max (k-4) 0
def qQh (c:Code) (s:Slips):Int:=c.ay*fG s.falls+(s.an+4)/5*100+s.aw
theorem qYN {fall falls:Int} (h1:0<=fall/\fall<=500) (h2:falls<=9):∀(n a8:Nat) (k:Int),(falls-k).toNat=n->n<a8->0<=k->k<=falls->qEg fall falls a8 (fall*fG k) k=some (fall*fG falls):=by
 intro n
 induction n with
 |zero =>
  intro a8 k hn hf h0 hk
  obtain⟨f,rfl⟩:=nZ9 (by omega:a8≠0)
  obtain rfl:k=falls:=by omega
  rw[qEg,dF (by omega),cF]
 |succ n ih =>
  intro a8 k hn hf h0 hk
  obtain⟨f,rfl⟩:=nZ9 (by omega:a8≠0)
  rw[qEg,dT (by omega:k<falls),cW,show qAl (2 != 0)=some () from rfl,oB9,qAD (n:=k+1) (by omega)]
  have e:k.tdiv 2=k/2:=Int.tdiv_eq_ediv_of_nonneg h0
  have eG:fG (k+1)=fG k+min 3 (k/2+1):=by unfold fG;omega
  rw[e,qAD (n:=k/2) (by omega),qAD (n:=k/2+1) (by omega),bnd (qTR _ _)]
  have hb1:=qMv (a:=fall) (b:=min 3 (k/2+1)) (A:=500) (B:=3) h1 (by omega)
  have hb2:=qMv (a:=fall) (b:=fG k) (A:=500) (B:=30) h1 (by unfold fG;omega)
  rw[qAD (n:=fall*min 3 (k/2+1)) (by omega),qAD (n:=fall*fG k+fall*min 3 (k/2+1)) (by omega),<-Int.mul_add,<-eG]
  exact ih f (k+1) (by omega) (by omega) (by omega) (by omega)
end
section
def qEP (c:Code) (p:Performance) (f:Int):Int:=max (qQG c p.ai p.ae+qQK p.ae f p.af.falls-qQh c p.af) 0
def qRo (c:Code) (p:Performance):Prop:=qG7 c/\qEe p.ai/\qGu c p.ai/\MS p.ae/\p.ae.ah.length=p.ai.length/\qPY p.af
theorem qMM {c:Code} {p:Performance} (h:qaN c p):qRo c p:=⟨h.1,h.2.1,h.2.2.1,qYV h.2.2.2.1,h.2.2.2.2.1,h.2.2.2.2.2⟩
def jud (m:Marks) (j:Int) (g k:Int):Marks:=Marks.mk (m.ah.map fun r=>r.set j.toNat g) (m.ac.map fun r=>r.set j.toNat k)
theorem qVO:∀(ys:List bE) (k:Nat) (v:List bE),(∀g∈ys,qJ5 g)->v.length+ys.length<=1000->qCc ys k v=some (v++ys)
 | [],k,v,_,_=>by rw[qCc];simp
 |y::ys,k,v,h,hl=>by
  have hy:=(h y (by simp)).1
  simp only[List.length_cons]at hl
  rw[qCc]
  unfold qDd
  rw[qGN (n:=y.length) (by omega),qC2,oB9,oB9,qGN (by simp;omega),qC2,oB9,qVO ys (k+1) (v++[y]) (fun g hg=>h g (by simp[hg])) (by simp;omega)]
  simp
theorem qUp {m:Marks} (hm:MS m) (h:m.ah.length<=14):qC0 m=some m:=by
 unfold qC0 qHK
 rw[qVO m.ah 0 [] hm.1 (by simp;omega),oB9,qVO m.ac 0 [] hm.2.2 (by rw[hm.2.1];simp),oB9]
 rfl
theorem qNP {g:bE} {j:Int} (h:qSi g j):∃x,qAV g j=some x:=by
 obtain⟨pre,x,post,_,_,hx,_⟩:=qW1 h
 exact⟨x,hx⟩
theorem ja2 (j mark:Int) (x1:Marks) (v16:List bE):∀(n a8:Nat) (done rest:List bE),rest.length=n->n<a8->x1.ac.length=done.length+n->done.length+n<=1000->(∀g∈rest,qSi g j)->qC6 j mark x1 v16 a8 (done++rest) (done++rest) (done.length:Int)=some (Marks.mk v16 (done++rest.map fun r=>r.set j.toNat mark)):=by
 intro n
 induction n with
 |zero =>
  intro a8 done rest hn hf hl _ _
  obtain⟨f,rfl⟩:=nZ9 (by omega:a8≠0)
  obtain rfl:rest=[]:=List.eq_nil_of_length_eq_zero hn
  rw[qC6,dF (by omega),cF]
  rfl
 |succ n ih =>
  intro a8 done rest hn hf hl hb hr
  obtain⟨f,rfl⟩:=nZ9 (by omega:a8≠0)
  cases rest with
  |nil=>simp at hn
  |cons y rest =>
   obtain⟨x,hx⟩:=qNP (hr y (by simp))
   rw[qC6,dT (by omega),cW,qRz,oB9,bnd hx,qTP,qAD (by omega)]
   have:=ih f (done++[y.set j.toNat mark]) rest (by simpa using hn) (by omega) (by simp;omega) (by simp;omega) (fun g hg=>hr g (by simp[hg]))
   rw[show ((done++[y.set j.toNat mark]).length:Int)=(done.length:Int)+1 from by simp,List.append_assoc]at this
   rw[show done++y.set j.toNat mark::rest=done++([y.set j.toNat mark]++rest) from rfl,this]
   simp
theorem ja1 (j grade mark:Int) (fuel0:Nat) (x1:Marks):∀(n a8:Nat) (done rest:List bE),rest.length=n->n<a8->x1.ah.length=done.length+n->done.length+n<=1000->(∀g∈rest,qSi g j)->qD2 j grade mark fuel0 x1 a8 (done++rest) (done++rest) (done.length:Int)=qC6 j mark x1 (done++rest.map fun r=>r.set j.toNat grade) fuel0 x1.ac x1.ac 0:=by
 intro n
 induction n with
 |zero =>
  intro a8 done rest hn hf hl _ _
  obtain⟨f,rfl⟩:=nZ9 (by omega:a8≠0)
  obtain rfl:rest=[]:=List.eq_nil_of_length_eq_zero hn
  rw[qD2,dF (by omega),cF]
  rfl
 |succ n ih =>
  intro a8 done rest hn hf hl hb hr
  obtain⟨f,rfl⟩:=nZ9 (by omega:a8≠0)
  cases rest with
  |nil=>simp at hn
  |cons y rest =>
   obtain⟨x,hx⟩:=qNP (hr y (by simp))
   rw[qD2,dT (by omega),cW,qRz,oB9,bnd hx,qTP,qAD (by omega)]
   have:=ih f (done++[y.set j.toNat grade]) rest (by simpa using hn) (by omega) (by simp;omega) (by simp;omega) (fun g hg=>hr g (by simp[hg]))
   rw[show ((done++[y.set j.toNat grade]).length:Int)=(done.length:Int)+1 from by simp,List.append_assoc]at this
   rw[show done++y.set j.toNat grade::rest=done++([y.set j.toNat grade]++rest) from rfl,this]
   simp
theorem qYB {m:Marks} (hm:MS m) (h:m.ah.length<=14) {j:Int} (h1:∀g∈m.ah,qSi g j) (h2:∀g∈m.ac,qSi g j) (g k:Int) (a8:Nat) (hf:1048576<a8):qGb a8 m j g k=some (jud m j g k):=by
 unfold qGb
 rw[bnd (qUp hm h)]
 have e1:=ja1 j g k a8 m m.ah.length a8 [] m.ah rfl (by omega) (by simp) (by simp;omega) h1
 have h3:=hm.2.1
 have e2:=ja2 j k m (m.ah.map fun r=>r.set j.toNat g) m.ac.length a8 [] m.ac rfl (by omega) (by simp) (by simp;omega) h2
 rw[List.nil_append,List.nil_append]at e1 e2
 exact e1.trans e2
theorem qXv {m:Marks} (hm:MS m) {j:Int} (h1:∀g∈m.ah,qSi g j) (h2:∀g∈m.ac,qSi g j) {g k:Int} (hg:-1000<=g/\g<=1000) (hk:-1000<=k/\k<=1000):MS (jud m j g k):=by
 refine⟨fun r hr=>?_,by unfold jud;rw[List.length_map];exact hm.2.1,fun r hr=>?_⟩
 ·obtain⟨q,hq,rfl⟩:=List.mem_map.1 hr
  exact(qTi (h1 q hq) hg).1
 ·obtain⟨q,hq,rfl⟩:=List.mem_map.1 hr
  exact(qTi (h2 q hq) hk).1
def ibs (c:Code) (l:List Item) (N:Int):Nat->List Item->Int
 |_,[]=>0
 |k,y::ys=>(if qIf c l k=0 then 0 else cl (qIJ c y) N)+ibs c l N (k+1) ys
end
section
theorem qUE {a b:Int} (hb:0<b) (hb2:b<=1000000000) (ha:0<=a/\a<=100000000000):qEu a b 1=some (cl a b)/\(0<=cl a b/\cl a b<=a):=by
 have hbd:0<=cl a b/\cl a b<=a:=by
  unfold cl
  have h1:-a<=(-a)/b:=by
   have:=Int.le_ediv_of_mul_le (a:=-a) (b:=-a) hb (by
    have:=Int.mul_le_mul_of_nonneg_left (show (1:Int)<=b by omega) ha.1
    rw[Int.neg_mul];omega)
   exact this
  have h2:(-a)/b<=0:=by
   have:=Int.ediv_le_ediv hb (show -a<=0 by omega)
   rw[Int.zero_ediv]at this;exact this
  omega
 refine⟨?_,hbd⟩
 unfold qEu
 rw[show ((1:Int) == -1)=false from rfl,cF,show ((1:Int)==1)=true from rfl,cW,qAD (by omega),bnd (qTe (a:=-a) (b:=b) hb (by omega)).1,qAD (by unfold cl at hbd;omega)]
 rfl
theorem qTw {p:Performance} {r:bE} (h:qAV p.ae.ac 0=some r) (hr:3<=r.length/\r.length<=9):qHB p=some (nS r):=by
 unfold qHB qA6 nS
 rw[bnd h,oB9]
 by_cases h5:r.length<5
 ·rw[dF (by omega),cF,if_pos h5]
 ·rw[dT (by omega),cW,if_neg h5,qAD (by omega)]
theorem qZ7 {c:Code} {p:Performance} (h:qRo c p) {r:bE} (hr:qAV p.ae.ac 0=some r) (hrl:3<=r.length/\r.length<=9) (a8:Nat) (hf:1048576<a8) {k:Nat} {y:Item} (hy:qAV p.ai (k:Int)=some y) :
  qHL a8 c p (k:Int)=some (if qIf c p.ai k=0 then 0 else cl (qIJ c y) (nS r))/\0<=(if qIf c p.ai k=0 then 0 else cl (qIJ c y) (nS r))/\(if qIf c p.ai k=0 then 0 else cl (qIJ c y) (nS r))<=2000:=by
 obtain⟨hc,hl,hk,hm,hn,hs⟩:=h
 have hy2:p.ai[k]?=some y:=by rw[qEm rfl]at hy;exact hy
 have hmem:y∈p.ai:=List.mem_of_getElem? hy2
 have hlt:=(List.getElem?_eq_some_iff.1 hy2).1
 obtain⟨b1,_,_⟩:=qOD hc hl hk hlt
 obtain⟨u1,_,u3⟩:=qNk hc (hl.2 y hmem) (hk y hmem) a8 hf
 have hN:1<=nS r/\nS r<=9:=by unfold nS;split<;>omega
 obtain⟨c1,c2⟩:=qUE (a:=qIJ c y) (b:=nS r) (by omega) (by omega) (by omega)
 unfold qHL
 rw[bnd b1]
 by_cases h0:qIf c p.ai k=0
 ·rw[if_pos h0,h0]
  exact⟨rfl,by omega,by omega⟩
 ·rw[if_neg h0,show (qIf c p.ai k==0)=false from by simp[h0],cF,bnd hy,bnd u1,bnd (qTw hr hrl),bnd c1]
  exact⟨rfl,by omega,by omega⟩
theorem qWj {c:Code} {p:Performance} (h:qRo c p) {r:bE} (hr:qAV p.ae.ac 0=some r) (hrl:3<=r.length/\r.length<=9) {f:Int} (hf0:0<=f/\f<=400) (a8:Nat) (hf:1048576<a8):∀(ys pre:List Item) (v:Int),p.ai=pre++ys->0<=v->v+2000*(ys.length:Int)<=1000000->
  qBf c p f a8 ys pre.length v=some (v+ibs c p.ai (nS r) pre.length ys+cl (f*3*cl 1000 (nS r)) 100,true)/\0<=ibs c p.ai (nS r) pre.length ys/\ibs c p.ai (nS r) pre.length ys<=2000*(ys.length:Int)
 | [],pre,v,_,hv,hb=>by
  have hN:1<=nS r/\nS r<=9:=by unfold nS;split<;>omega
  obtain⟨c1,c2⟩:=qUE (a:=1000) (b:=nS r) (by omega) (by omega) (by omega)
  have hm:=qMv (a:=f*3) (b:=cl 1000 (nS r)) (A:=1200) (B:=1000) (by omega) (by omega)
  obtain⟨d1,d2⟩:=qUE (a:=f*3*cl 1000 (nS r)) (b:=100) (by omega) (by omega) (by omega)
  simp only[List.length_nil]at hb
  rw[qBf,bnd (qTw hr hrl),bnd c1,qAD (n:=f*3) (by omega),qAD (n:=f*3*cl 1000 (nS r)) (by omega),bnd d1,qAD (by omega)]
  simp[ibs]
 |y::ys,pre,v,h1,hv,hb=>by
  obtain⟨i1,i2,i3⟩:=qZ7 h hr hrl a8 hf (k:=pre.length) (y:=y) (qDC (pre:=pre) (y:=y) (ys:=ys) h1 rfl)
  simp only[List.length_cons]at hb⊢
  obtain⟨j1,j2,j3⟩:=qWj h hr hrl hf0 a8 hf ys (pre++[y]) (v+(if qIf c p.ai pre.length=0 then 0 else cl (qIJ c y) (nS r))) (by rw[h1];simp) (by omega) (by omega)
  rw[show (pre++[y]).length=pre.length+1 from by simp]at j1 j2 j3
  rw[qBf,bnd i1,qAD (by omega),j1,ibs]
  exact⟨by rw[Int.add_assoc v],by omega,by omega⟩
theorem qOd {m:Marks} (h:qHa m):∃r,qAV m.ac 0=some r/\(3<=r.length/\r.length<=9)/\∀j:Int,0<=j->j<(r.length:Int)->(∀g∈m.ah,qSi g j/\nS g=nS r/\∀x∈g,-5<=x/\x<=5)/\∀g∈m.ac,qSi g j/\nS g=nS r/\∀x∈g,0<=x/\x<=1000:=by
 have hms:=qYV h
 obtain⟨h1,h2,r,h3,h4,h5,h6⟩:=h
 refine⟨r,h3,h4,fun j j0 j1=>⟨fun g hg=>?_,fun g hg=>?_⟩⟩
 ·have:=h5 g hg
  have e:=this.1
  exact⟨⟨hms.1 g hg,j0,by omega⟩,by unfold nS;rw[e],this.2⟩
 ·have:=h6 g hg
  have e:=this.1
  exact⟨⟨hms.2.2 g hg,j0,by omega⟩,by unfold nS;rw[e],fun x hx=>(this.2 x hx).1⟩
end
section
theorem qUk {l:bE} {y:Int} (h:l.Pairwise (·≠·)) (hy:y∉l):(l++[y]).Pairwise (·≠·):=by
 rw[List.pairwise_append]
 exact⟨h,List.pairwise_singleton _ _,fun a ha b hb e=>by obtain rfl:=List.mem_singleton.1 hb;exact hy (e▸ha)⟩
end
section
def qNx (a:Int×Int) (y:Int):Int×Int:=if y>=0 then (w64 (a.1+y),w64 (a.2+1)) else a
def qPI (r:Result):Int×Int:=r.ap.foldl qNx (0,0)
theorem qWP:∀(l:bE) (k:Nat) (a b:Int),qCm l k a b=some (l.foldl qNx (a,b)):=by
 intro l
 induction l with
 |nil=>intro k a b;rw[qCm];rfl
 |cons y l ih =>
  intro k a b
  rw[qCm,List.foldl_cons]
  by_cases h:y>=0
  ·rw[dT h,cW,ih,show qNx (a,b) y=(w64 (a+y),w64 (b+1)) from if_pos h]
  ·rw[dF h,cF,ih,show qNx (a,b) y=(a,b) from if_neg h]
theorem qQw (r:Result):qIa r=some (qPI r):=qWP r.ap 0 0 0
theorem qU4:∀(l:bE) (k:Nat) (a b:Int),qCl l k a b=some (l.foldl qNx (a,b)):=by
 intro l
 induction l with
 |nil=>intro k a b;rw[qCl];rfl
 |cons y l ih =>
  intro k a b
  rw[qCl,List.foldl_cons]
  by_cases h:y>=0
  ·rw[dT h,cW,ih,show qNx (a,b) y=(w64 (a+y),w64 (b+1)) from if_pos h]
  ·rw[dF h,cF,ih,show qNx (a,b) y=(a,b) from if_neg h]
theorem qQ5 (r:Result):qId r=some (qPI r):=qU4 r.ap 0 0 0
def qUa (a b:Int):Prop:=a<0->b<0
def qRw (r:Result):Prop:=(1<=r.ax/\r.ax<=999)/\(1<=r.ap.length/\r.ap.length<=3)/\(∀n∈r.ap,-1<=n/\n<=100000)/\r.ap.Pairwise qUa
theorem qQe (r:Result):∀(ys pre:bE) (v:Bool),r.ap=pre++ys->(∀n∈pre,-1<=n/\n<=100000)->pre.Pairwise qUa->(v=true↔∃l,pre.getLast?=some l/\l<0)->Ret (qDB r ys pre.length v) (qRw r):=by
 intro ys
 induction ys with
 |nil =>
  intro pre v h1 h2 h3 h4
  rw[List.append_nil]at h1
  rw[qDB]
  refine(qD0 r.ax 1 999).bindR (fun h=>?_) (fun h=>.f fun k=>h k.1)
  simp only[qBx,Bool.true_and]
  refine(qD0 (r.ap.length:Int) 1 3).bindR (fun g=>.t ⟨h,by omega,by rw[h1];exact h2,by rw[h1];exact h3⟩) (fun g=>.f fun k=>g ?_)
  have:=k.2.1;omega
 |cons y ys ih =>
  intro pre v h1 h2 h3 h4
  have hy:y∈r.ap:=by rw[h1];simp
  rw[qDB]
  refine(qD0 y (-1) 100000).bindR (fun h=>?_) (fun h=>.f fun k=>h (k.2.2.1 y hy))
  simp only[Bool.not_true,Bool.false_or]
  refine .condR (fun g=>.f fun k=>?_) (fun g=>?_)
  ·simp only[Bool.and_eq_true,decide_eq_true_eq]at g
   obtain⟨l,l1,l2⟩:=h4.1 g.1
   have:=k.2.2.2
   rw[h1,List.pairwise_append]at this
   have:=this.2.2 l (List.mem_of_getLast? l1) y (by simp) l2
   omega
  ·simp only[Bool.and_eq_false_iff,decide_eq_false_iff_not]at g
   have:=ih (pre++[y]) (decide (y<0)) (by rw[h1];simp) (by
    intro n hn;rcases List.mem_append.1 hn with hn|hn
    ·exact h2 n hn
    ·obtain rfl:=List.mem_singleton.1 hn;exact h) (qU5 (R:=qUa) (fun a b c p q k=>q (p k)) h3 fun l hl hn=>by
     rcases g with g|g
     ·exact absurd (h4.2 ⟨l,hl,hn⟩) (by simp[g])
     ·omega) (by simp)
   simpa using this
theorem qSe (r:Result):Ret (qJf r) (qRw r):=qQe r r.ap [] false rfl (by simp) List.Pairwise.nil (by simp)
theorem qQa (r:Result) (hl:r.ap.length<=1048576):∀(ys pre:bE),r.ap=pre++ys->(∀n∈pre,-1<=n/\n<=100000)->pre.Pairwise qUa->Ret (qCQ r ys pre.length) (qRw r):=by
 intro ys
 induction ys with
 |nil =>
  intro pre h1 h2 h3
  rw[List.append_nil]at h1
  rw[qCQ]
  refine(qRx r.ax).bindR (fun h=>?_) (fun h=>.f fun k=>h k.1)
  simp only[qBx,Bool.true_and]
  refine(qB8 (r.ap.length:Int) 1 3).bindR (fun g=>.t ⟨h,by omega,by rw[h1];exact h2,by rw[h1];exact h3⟩) (fun g=>.f fun k=>g ?_)
  have:=k.2.1;omega
 |cons y ys ih =>
  intro pre h1 h2 h3
  have hy:y∈r.ap:=by rw[h1];simp
  rw[qCQ]
  refine(qB8 y (-1) 100000).bindR (fun h=>?_) (fun h=>.f fun k=>h (k.2.2.1 y hy))
  simp only[Bool.not_true,Bool.not_false,Bool.true_and,Bool.false_or]
  have fin:(∀l,pre.getLast?=some l->qUa l y)->Ret (qCQ r ys (pre.length+1)) (qRw r):=by
   intro hlast
   have:=ih (pre++[y]) (by rw[h1];simp) (by
    intro n hn;rcases List.mem_append.1 hn with hn|hn
    ·exact h2 n hn
    ·obtain rfl:=List.mem_singleton.1 hn;exact h) (qU5 (R:=qUa) (fun a b c p q k=>q (p k)) h3 hlast)
   simpa using this
  rcases List.eq_nil_or_concat pre with rfl|⟨q,z,rfl⟩
  ·simp only[List.length_nil,qZW,qDW,oB9,Bool.false_and,cF]
   exact fin (by simp)
  ·simp only[List.concat_eq_append]at *
   have hkl:(q++[z]).length=q.length+1:=by simp
   have hq:q.length<=1048576:=by rw[h1]at hl;simp at hl;omega
   rw[hkl]at fin⊢
   simp only[qao,qBx,Bool.true_and]
   rw[qXO (by omega),bnd (qDC (pre:=q) (y:=z) (ys:=y::ys) (by rw[h1];simp) rfl)]
   refine .condR (fun g=>.f fun k=>?_) (fun g=>fin ?_)
   ·simp only[Bool.and_eq_true,decide_eq_true_eq]at g
    have:=k.2.2.2
    rw[h1]at this
    have:=(List.pairwise_append.1 this).2.2 z (by simp) y (by simp) g.1
    omega
   ·simp only[Bool.and_eq_false_iff,decide_eq_false_iff_not]at g
    intro l hl' hn
    simp at hl';subst hl'
    omega
theorem qSO (r:Result) (hl:r.ap.length<=1048576):Ret (qJV r) (qRw r):=qQa r hl r.ap [] rfl (by simp) List.Pairwise.nil
def qQb (l:List Result):Prop:=(∀r∈l,qRw r)/\(l.map fun r=>r.ax).Pairwise (·≠·)/\(∀r∈l,r.ap.length=(l.headD default).ap.length)/\l.length<=40
theorem qST (l:List Result) (hl:l.length<=1048576):∀(ys pre:List Result),l=pre++ys->(∀r∈pre,qRw r)->(pre.map fun r=>r.ax).Pairwise (·≠·)->(∀r∈pre,r.ap.length=(l.headD default).ap.length)->
  Ret (qEO l ys pre.length (pre.map fun r=>r.ax)) (qQb l):=by
 intro ys
 induction ys with
 |nil =>
  intro pre h1 h2 h3 h4
  rw[List.append_nil]at h1
  subst h1
  rw[qEO]
  refine .some ?_
  unfold qQb
  rw[decide_eq_true_eq]
  exact⟨fun h=>⟨h2,h3,h4,by omega⟩,fun h=>by have:=h.2.2.2;omega⟩
 |cons y ys ih =>
  intro pre h1 h2 h3 h4
  have hy:y∈l:=by rw[h1];simp
  have hpre:pre.length<=1048575:=by rw[h1]at hl;simp at hl;omega
  rw[qEO]
  refine(qSe y).bindR (fun h=>?_) (fun h=>.f fun k=>h (k.1 y hy))
  simp only[Bool.not_true,Bool.not_false,qBx,Bool.false_or]
  have hh:=qU3 (pre.map fun r:Result=>r.ax) y.ax
  refine hh.bindR (fun hin=>.f fun k=>?_) (fun hin=>?_)
  ·have:=k.2.1
   rw[h1,List.map_append,List.pairwise_append]at this
   exact this.2.2 y.ax hin y.ax (by simp) rfl
  ·simp only[Bool.not_false,qBx,Bool.false_or]
   obtain⟨z,zs,hz⟩:∃z zs,l=z::zs:=by cases l with|nil=>simp at hy|cons z zs=>exact⟨z,zs,rfl⟩
   rw[bnd (show qAV l 0=some (l.headD default) from by rw[hz];rfl)]
   refine .condR (fun g=>.f fun k=>?_) (fun g=>?_)
   ·have:=k.2.2.1 y hy
    rw[this]at g
    simp at g
   ·have g':y.ap.length=(l.headD default).ap.length:=by
     simp only[bne_eq_false_iff_eq]at g;omega
    rw[qGN (by simp;omega)]
    simp only[qC2,oB9]
    have:=ih (pre++[y]) (by rw[h1];simp) (by
     intro n hn;rcases List.mem_append.1 hn with hn|hn
     ·exact h2 n hn
     ·obtain rfl:=List.mem_singleton.1 hn;exact h) (by rw[List.map_append];exact qUk h3 hin) (by
     intro n hn;rcases List.mem_append.1 hn with hn|hn
     ·exact h4 n hn
     ·obtain rfl:=List.mem_singleton.1 hn;exact g')
    simpa using this
theorem qUV (l:List Result) (hl:l.length<=1048576):Ret (qJF l) (qQb l):=qST l hl l [] rfl (by simp) List.Pairwise.nil (by simp)
theorem qRl (y:Result):∀(l:List Result) (k:Nat),qBj y l k=some (.ok ())/\(y.ax∉l.map fun r=>r.ax)\/qBj y l k=some (.error false)/\(y.ax∈l.map fun r=>r.ax):=by
 intro l
 induction l with
 |nil=>intro k;left;rw[qBj];simp
 |cons z l ih =>
  intro k
  rw[qBj]
  by_cases h:z.ax=y.ax
  ·right
   rw[show (z.ax==y.ax)=true from by simpa using h,cW]
   exact⟨rfl,by simp[h]⟩
  ·rw[show (z.ax==y.ax)=false from by simpa using h,cF]
   have h':¬y.ax=z.ax:=fun e=>h e.symm
   rcases ih (k+1) with⟨h1,h2⟩|⟨h1,h2⟩
   ·left;exact⟨h1,by rw[List.map_cons,List.mem_cons];exact fun k=>k.elim h' h2⟩
   ·right;exact⟨h1,by rw[List.map_cons,List.mem_cons];exact .inr h2⟩
theorem qO7 (l:List Result) (hl:l.length<=1048576) (hs:∀r∈l,r.ap.length<=1048576):∀(ys pre:List Result),l=pre++ys->(∀r∈pre,qRw r)->(pre.map fun r=>r.ax).Pairwise (·≠·)->(∀r∈pre,r.ap.length=(l.headD default).ap.length)->
  Ret (qB0 l ys pre.length) (qQb l):=by
 intro ys
 induction ys with
 |nil =>
  intro pre h1 h2 h3 h4
  rw[List.append_nil]at h1
  subst h1
  rw[qB0]
  refine .some ?_
  unfold qQb
  rw[decide_eq_true_eq]
  exact⟨fun h=>⟨h2,h3,h4,by omega⟩,fun h=>by have:=h.2.2.2;omega⟩
 |cons y ys ih =>
  intro pre h1 h2 h3 h4
  have hy:y∈l:=by rw[h1];simp
  rw[qB0]
  obtain⟨b,e1,e2⟩:=qSO y (hs y hy)
  rw[bnd e1]
  cases b
  ·exact .f fun k=>by have:=e2.2 (k.1 y hy);simp at this
  simp only[Bool.not_true,Bool.not_false,qBx,Bool.false_or]
  obtain⟨z,zs,hz⟩:∃z zs,l=z::zs:=by cases l with|nil=>simp at hy|cons z zs=>exact⟨z,zs,rfl⟩
  rw[bnd (show qAV l 0=some (l.headD default) from by rw[hz];rfl)]
  by_cases g':y.ap.length=(l.headD default).ap.length
  ·rw[show ((y.ap.length:Int) != ((l.headD default).ap.length:Int))=false from by rw[g'];simp,cF]
   rw[bnd (show qFT l (pre.length:Int)=some pre from by rw[h1];exact qNI pre (y::ys) rfl)]
   rcases qRl y pre 0 with⟨g1,g2⟩|⟨g1,g2⟩
   ·rw[bnd g1]
    simp only[qKL]
    have:=ih (pre++[y]) (by rw[h1];simp) (by
     intro n hn;rcases List.mem_append.1 hn with hn|hn
     ·exact h2 n hn
     ·obtain rfl:=List.mem_singleton.1 hn;exact e2.1 rfl) (by rw[List.map_append];exact qUk h3 g2) (by
     intro n hn;rcases List.mem_append.1 hn with hn|hn
     ·exact h4 n hn
     ·obtain rfl:=List.mem_singleton.1 hn;exact g')
    simpa using this
   ·rw[bnd g1]
    refine .f fun k=>?_
    have:=k.2.1
    rw[h1,List.map_append,List.pairwise_append]at this
    exact this.2.2 y.ax g2 y.ax (by simp) rfl
  ·rw[show ((y.ap.length:Int) != ((l.headD default).ap.length:Int))=true from by simp only[bne_iff_ne,ne_eq];omega,cW]
   exact .f fun k=>g' (k.2.2.1 y hy)
theorem qKC (l:List Result) (hl:l.length<=1048576) (hs:∀r∈l,r.ap.length<=1048576):Ret (qEU l) (qQb l):=qO7 l hl hs l [] rfl (by simp) List.Pairwise.nil (by simp)
end
section
def sg (d:Int):Int:=if d>0 then 1 else if d<0 then -1 else 0
theorem qR7 (d:Int):qE9 d=some (sg d):=by
 unfold qE9 sg
 by_cases h:d>0
 ·rw[dT h,if_pos h];rfl
 ·rw[dF h,if_neg h]
  by_cases k:d<0
  ·rw[dT k,if_pos k];rfl
  ·rw[dF k,if_neg k];rfl
theorem qSN (d:Int):qE8 d=some (sg d):=by
 unfold qE8 sg
 by_cases h:d>0
 ·rw[dT h,if_pos h];rfl
 ·rw[dF h,if_neg h]
  by_cases k:d<0
  ·rw[dT k,if_pos k];rfl
  ·rw[dF k,if_neg k];rfl
theorem qJA {a b:Int} (h1:a>0↔b>0) (h2:a<0↔b<0):sg a=sg b:=by
 unfold sg
 by_cases h:a>0
 ·rw[if_pos h,if_pos (h1.1 h)]
 ·rw[if_neg h,if_neg fun k=>h (h1.2 k)]
  by_cases k:a<0
  ·rw[if_pos k,if_pos (h2.1 k)]
  ·rw[if_neg k,if_neg fun q=>k (h2.2 q)]
def pk:bE->Int
 | []=>0
 |x::l=>(x+1)+1000000*pk l
def qZJ (l:bE):Prop:=∀n∈l,-1<=n/\n<=100000
theorem qaz (F:Nat->Int->Option Int) (S:Int->Option Int) (sa sb:bE) (hF:∀k v,F (k+1) v=cond (decide (v>=0)) ((qAV sa v).bind fun x=>(qAV sb v).bind fun y=>cond (x != y) ((S (w64 (x-y))).bind fun z=>some z) (F k (w64 (v-1)))) (some 0))
  (hS:∀d,S d=some (sg d)) (hl:sa.length=sb.length) (h3:sa.length<=3) (ha:qZJ sa) (hb:qZJ sb) (a8:Nat) (hf:5<a8):F a8 (w64 ((sa.length:Int)-1))=some (sg (pk sa-pk sb)):=by
 have step:∀(k:Nat) (i:Nat) (x y:Int),qAV sa (i:Int)=some x->qAV sb (i:Int)=some y->(-1<=x/\x<=100000)->(-1<=y/\y<=100000)->i<=3->
   F (k+1) (i:Int)=if x=y then F k ((i:Int)-1) else some (sg (x-y)):=by
  intro k i x y h1 h2 h3 h4 h5
  rw[hF,dT (by omega),cW,bnd h1,bnd h2,qAD (by omega),qAD (by omega)]
  by_cases h:x=y
  ·rw[if_pos h,show (x != y)=false from by simp[h],cF]
  ·rw[if_neg h,show (x != y)=true from by simp[h],cW,hS];rfl
 have last:∀k,F (k+1) (-1)=some 0:=fun k=>by rw[hF];rfl
 obtain⟨f,rfl⟩:∃f,a8=f+5:=⟨a8-5,by omega⟩
 match sa,sb,hl,h3,ha,hb,step with
 | [],[],_,_,_,_,_ =>
  rw[show w64 ((([]:bE).length:Int)-1)=-1 from by rw[qAD (by simp)];simp,last];rfl
 | [a],[b],_,_,ha,hb,step =>
  have a1:=ha a (by simp)
  have b1:=hb b (by simp)
  rw[show w64 ((([a]:bE).length:Int)-1)=((0:Nat):Int) from by rw[qAD (by simp)];simp,step (f+4) 0 a b rfl rfl a1 b1 (by omega)]
  by_cases h:a=b
  ·rw[if_pos h,show ((0:Nat):Int)-1=-1 from rfl,last (f+3),h];simp[sg]
  ·rw[if_neg h];congr 1;refine qJA ?_ ?_<;>simp only[pk]<;>omega
 | [a,a'],[b,b'],_,_,ha,hb,step =>
  have a1:=ha a (by simp)
  have b1:=hb b (by simp)
  have a2:=ha a' (by simp)
  have b2:=hb b' (by simp)
  rw[show w64 ((([a,a']:bE).length:Int)-1)=((1:Nat):Int) from by rw[qAD (by simp)];simp,step (f+4) 1 a' b' rfl rfl a2 b2 (by omega)]
  by_cases h':a'=b'
  ·rw[if_pos h',show ((1:Nat):Int)-1=((0:Nat):Int) from rfl,step (f+3) 0 a b rfl rfl a1 b1 (by omega)]
   by_cases h:a=b
   ·rw[if_pos h,show ((0:Nat):Int)-1=-1 from rfl,last (f+2),h,h'];simp[sg]
   ·rw[if_neg h];congr 1;refine qJA ?_ ?_<;>simp only[pk]<;>omega
  ·rw[if_neg h'];congr 1;refine qJA ?_ ?_<;>simp only[pk]<;>omega
 | [a,a',a''],[b,b',b''],_,_,ha,hb,step =>
  have a1:=ha a (by simp)
  have b1:=hb b (by simp)
  have a2:=ha a' (by simp)
  have b2:=hb b' (by simp)
  have a3:=ha a'' (by simp)
  have b3:=hb b'' (by simp)
  rw[show w64 ((([a,a',a'']:bE).length:Int)-1)=((2:Nat):Int) from by rw[qAD (by simp)];simp,step (f+4) 2 a'' b'' rfl rfl a3 b3 (by omega)]
  by_cases h'':a''=b''
  ·rw[if_pos h'',show ((2:Nat):Int)-1=((1:Nat):Int) from rfl,step (f+3) 1 a' b' rfl rfl a2 b2 (by omega)]
   by_cases h':a'=b'
   ·rw[if_pos h',show ((1:Nat):Int)-1=((0:Nat):Int) from rfl,step (f+2) 0 a b rfl rfl a1 b1 (by omega)]
    by_cases h:a=b
    ·rw[if_pos h,show ((0:Nat):Int)-1=-1 from rfl,last (f+1),h,h',h''];simp[sg]
    ·rw[if_neg h];congr 1;refine qJA ?_ ?_<;>simp only[pk]<;>omega
   ·rw[if_neg h'];congr 1;refine qJA ?_ ?_<;>simp only[pk]<;>omega
  ·rw[if_neg h''];congr 1;refine qJA ?_ ?_<;>simp only[pk]<;>omega
 | [],_::_,hl,_,_,_,_=>simp at hl
 |_::_,[],hl,_,_,_,_=>simp at hl
 | [_],_::_::_,hl,_,_,_,_=>simp at hl
 |_::_::_,[_],hl,_,_,_,_=>simp at hl
 | [_,_],_::_::_::_,hl,_,_,_,_=>simp at hl
 |_::_::_::_,[_,_],hl,_,_,_,_=>simp at hl
 | [_,_,_],_::_::_::_::_,hl,_,_,_,_=>simp at hl
 |_::_::_::_::_,_,_,h3,_,_,_=>simp at h3
theorem qZV:∀(l:bE),l.length<=3->qZJ l->0<=pk l/\pk l<1000000000000000000
 | [],_,_=>by simp[pk]
 | [a],_,h=>by have:=h a (by simp);simp only[pk];omega
 | [a,b],_,h=>by have:=h a (by simp);have:=h b (by simp);simp only[pk];omega
 | [a,b,c],_,h=>by have:=h a (by simp);have:=h b (by simp);have:=h c (by simp);simp only[pk];omega
 |_::_::_::_::_,h,_=>by simp at h
theorem qX8:∀(l:bE) (a b:Int) (A B:Int),qZJ l->0<=a->a<=A->0<=b->b<=B->A+100000*(l.length:Int)<=1000000->B+(l.length:Int)<=1000->
  0<=(l.foldl qNx (a,b)).1/\(l.foldl qNx (a,b)).1<=A+100000*(l.length:Int)/\0<=(l.foldl qNx (a,b)).2/\(l.foldl qNx (a,b)).2<=B+(l.length:Int):=by
 intro l
 induction l with
 |nil=>intro a b A B _ h1 h2 h3 h4 _ _;simp;omega
 |cons y l ih =>
  intro a b A B hs h1 h2 h3 h4 h5 h6
  have hy:=hs y (by simp)
  have hs':qZJ l:=fun n hn=>hs n (by simp[hn])
  simp only[List.length_cons]at h5 h6⊢
  rw[List.foldl_cons]
  by_cases h:y>=0
  ·rw[show qNx (a,b) y=(w64 (a+y),w64 (b+1)) from if_pos h,qAD (by omega),qAD (by omega)]
   have:=ih (a+y) (b+1) (A+100000) (B+1) hs' (by omega) (by omega) (by omega) (by omega) (by omega) (by omega)
   omega
  ·rw[show qNx (a,b) y=(a,b) from if_neg h]
   have:=ih a b A B hs' h1 h2 h3 h4 (by omega) (by omega)
   omega
def qUP (r:Result):Int:=(qPI r).2*1000000000000000000000000000000+(qPI r).1*100000000000000000000+pk r.ap
def okR (r:Result):Prop:=r.ap.length<=3/\qZJ r.ap
theorem qVx {a b:Result} (ha:okR a) (hb:okR b) (hl:a.ap.length=b.ap.length) (o:Option Int) (ho:o=some (sg (pk a.ap-pk b.ap))) (S:Int->Option Int) (hS:∀d,S d=some (sg d)) :
  (cond ((qPI a).2 != (qPI b).2) ((S (w64 ((qPI a).2-(qPI b).2))).bind fun x5=>some x5) (cond ((qPI a).1 != (qPI b).1) ((S (w64 ((qPI a).1-(qPI b).1))).bind fun x7=>some x7) o))=some (sg (qUP a-qUP b)):=by
 have t1:=qX8 a.ap 0 0 0 0 ha.2 (by omega) (by omega) (by omega) (by omega) (by have:=ha.1;omega) (by have:=ha.1;omega)
 have t2:=qX8 b.ap 0 0 0 0 hb.2 (by omega) (by omega) (by omega) (by omega) (by have:=hb.1;omega) (by have:=hb.1;omega)
 have p1:=qZV a.ap ha.1 ha.2
 have p2:=qZV b.ap hb.1 hb.2
 have l1:=ha.1
 have l2:=hb.1
 change 0<=(qPI a).1/\(qPI a).1<=_/\0<=(qPI a).2/\(qPI a).2<=_ at t1
 change 0<=(qPI b).1/\(qPI b).1<=_/\0<=(qPI b).2/\(qPI b).2<=_ at t2
 unfold qUP
 generalize (qPI a).1=x1 at *
 generalize (qPI a).2=x2 at *
 generalize (qPI b).1=y1 at *
 generalize (qPI b).2=y2 at *
 generalize pk a.ap=z1 at *
 generalize pk b.ap=z2 at *
 by_cases h:x2=y2
 ·rw[show (x2 != y2)=false from by simp[h],cF]
  by_cases k:x1=y1
  ·rw[show (x1 != y1)=false from by simp[k],cF,ho]
   congr 1
   refine qJA ?_ ?_<;>omega
  ·rw[show (x1 != y1)=true from by simp[k],cW,hS,oB9,qAD (by omega)]
   congr 1
   refine qJA ?_ ?_<;>omega
 ·rw[show (x2 != y2)=true from by simp[h],cW,hS,oB9,qAD (by omega)]
  congr 1
  refine qJA ?_ ?_<;>omega
theorem qXW {a b:Result} (ha:okR a) (hb:okR b) (hl:a.ap.length=b.ap.length) (a8:Nat) (hf:5<a8):qE5 a8 a b=some (sg (qUP a-qUP b)):=by
 unfold qE5
 rw[bnd (qQ5 a),bnd (qQ5 b)]
 exact qVx ha hb hl _ (qaz (qB9 a b) qE9 a.ap b.ap (fun k v=>by rw[qB9]) qR7 hl ha.1 ha.2 hb.2 a8 hf) qE9 qR7
theorem qT7 {a b:Result} (ha:okR a) (hb:okR b) (hl:a.ap.length=b.ap.length) (a8:Nat) (hf:5<a8):qHI a8 a b=some (sg (qUP a-qUP b)):=by
 unfold qHI
 rw[bnd (qQw a),bnd (qQw b)]
 exact qVx ha hb hl _ (qaz (qES a b) qE8 a.ap b.ap (fun k v=>by rw[qES]) qSN hl ha.1 ha.2 hb.2 a8 hf) qE8 qSN
structure qZn (l:List Result):Prop where
 ok:∀r∈l,okR r
 eqs:∀r∈l,∀q∈l,r.ap.length=q.ap.length
 skr:∀r∈l,1<=r.ax/\r.ax<=999
 ne:(l.map fun r=>r.ax).Pairwise (·≠·)
 len:l.length<=40
def kx (l:List Result) (i:Int):Int:=qUP (l[i.toNat]?.getD default)
def sx (l:List Result) (i:Int):Int:=(l[i.toNat]?.getD default).ax
theorem qX3 {l:List Result} {i:Int} (h:0<=i/\i<(l.length:Int)):∃r,r∈l/\qAV l i=some r/\kx l i=qUP r/\sx l i=r.ax:=by
 have hi:i.toNat<l.length:=by omega
 refine⟨l[i.toNat],List.getElem_mem _,?_,?_,?_⟩
 ·rw[qEm (k:=i.toNat) (by omega)];exact List.getElem?_eq_getElem hi
 ·unfold kx;rw[List.getElem?_eq_getElem hi];rfl
 ·unfold sx;rw[List.getElem?_eq_getElem hi];rfl
theorem qYf {l:List Result} (h:qZn l) (a8:Nat) (hf:5<a8) (i:Int) (hi:0<=i/\i<(l.length:Int)):∀(ys:List Result) (k:Nat) (v:Int),(∀r∈ys,r∈l)->∃r,qBd l i a8 ys k v=some r/\qCp l i a8 ys k v=some r:=by
 obtain⟨b,b1,b2,_,_⟩:=qX3 hi
 intro ys
 induction ys with
 |nil=>intro k v _;exact⟨v,by rw[qBd],by rw[qCp]⟩
 |cons y ys ih =>
  intro k v hm
  have hy:=hm y (by simp)
  rw[qBd,qCp,bnd b2,bnd b2,bnd (qT7 (h.ok y hy) (h.ok b b1) (h.eqs y hy b b1) a8 hf),bnd (qXW (h.ok y hy) (h.ok b b1) (h.eqs y hy b b1) a8 hf)]
  cases decide (sg (qUP y-qUP b)>0)
  ·exact ih (k+1) v fun r hr=>hm r (by simp[hr])
  ·exact ih (k+1) _ fun r hr=>hm r (by simp[hr])
def plR (l:List Result) (a8:Nat) (i:Int):Int:=(qCf a8 l i).getD 0
theorem qTv {l:List Result} (h:qZn l) (a8:Nat) (hf:5<a8) (i:Int) (hi:0<=i/\i<(l.length:Int)):qCf a8 l i=some (plR l a8 i)/\qG9 a8 l i=some (plR l a8 i):=by
 obtain⟨r,r1,r2⟩:=qYf h a8 hf i hi l 0 1 fun _ h=>h
 have e:qCf a8 l i=some r:=r1
 have:plR l a8 i=r:=by unfold plR;rw[e];rfl
 rw[this]
 exact⟨r1,r2⟩
end
section
theorem qSx {B n:Nat} (hB:B<=64) (hn:n<=2097152):qAg B n=true:=qGN (by
 have:=Nat.mul_le_mul hn hB
 rw[Nat.mul_assoc];omega)
theorem ndf {B n:Nat} (hB:B<=64) (hn:n<=2097152):qAl (qAg B n)=some ():=by rw[qSx hB hn];rfl
theorem qFN (n lo hi:Int):∃b,qAQ n lo hi=some b/\qAd n lo hi=some b/\(b=true↔lo<=n/\n<=hi):=by
 obtain⟨a,a1,a2⟩:=qB8 n lo hi
 obtain⟨b,b1,b2⟩:=qD0 n lo hi
 obtain rfl:a=b:=Bool.eq_iff_iff.2 (a2.trans b2.symm)
 exact⟨a,a1,b1,a2⟩
theorem qRK:∀(ys:List Item) (k:Nat) (v:List Item),(∀it∈ys,qGQ it)->v.length+ys.length<=1000->qEw ys k v=some (v++ys)/\qCZ ys k v=some (v++ys)
 | [],k,v,_,_=>by rw[qEw,qCZ,List.append_nil];exact⟨rfl,rfl⟩
 |y::ys,k,v,h,hv=>by
  have hy:=h y (by simp)
  unfold qGQ at hy
  simp only[List.length_cons]at hv
  obtain⟨a,b⟩:=qRK ys (k+1) (v++[y]) (fun it hi=>h it (by simp[hi])) (by simp;omega)
  rw[List.append_assoc]at a b
  have e1:qAl (qAg 16 y.aj.length)=some ():=ndf (by omega) (by omega)
  have e2:qAl (qAg 56 (v.length+[Item.mk y.aj y.ae y.aB].length))=some ():=ndf (by omega) (by simp;omega)
  have e3:qAl (qAg 8 y.ae.length)=some ():=ndf (by omega) (by omega)
  constructor
  ·rw[qEw]
   unfold qK4 qE2
   simp only[e1,e2,e3,oB9]
   exact a
  ·rw[qCZ]
   unfold qJS qDd
   simp only[e1,e2,e3,oB9]
   exact b
theorem qKo {l:List Item} (h:qEe l):qHd l=some l/\qF8 l=some l:=by
 have:=qRK l 0 [] h.2 (by have:=h.1;simp;omega)
 rw[List.nil_append]at this
 exact this
theorem qZ5 (g:List bE):∀(ys:List bE) (k:Nat) (v:List bE),(∀r∈ys,r.length<=9)->v.length+ys.length<=1000->qEB g ys k v=some (Marks.mk g (v++ys))
 | [],k,v,_,_=>by rw[qEB,List.append_nil]
 |y::ys,k,v,h,hv=>by
  simp only[List.length_cons]at hv
  rw[qEB,bnd (qR3 y (by have:=h y (by simp);omega)),ndf (by omega) (by simp;omega),oB9,qZ5 g ys (k+1) (v++[y]) (fun r hr=>h r (by simp[hr])) (by simp;omega),List.append_assoc];rfl
theorem qZf (m:Marks):∀(ys:List bE) (k:Nat) (v:List bE),(∀r∈ys,r.length<=9)->v.length+ys.length<=1000->qEv m ys k v=qEB (v++ys) m.ac 0 []
 | [],k,v,_,_=>by rw[qEv,List.append_nil]
 |y::ys,k,v,h,hv=>by
  simp only[List.length_cons]at hv
  rw[qEv,bnd (qR3 y (by have:=h y (by simp);omega)),ndf (by omega) (by simp;omega),oB9,qZf m ys (k+1) (v++[y]) (fun r hr=>h r (by simp[hr])) (by simp;omega),List.append_assoc];rfl
theorem qJN {m:Marks} (h:qHa m):qFq m=some m/\qC0 m=some m:=by
 have hc:=qUp (qYV h) h.1
 obtain⟨h1,h2,r,h3,h4,h5,h6⟩:=h
 refine⟨?_,hc⟩
 unfold qFq
 rw[qZf m m.ah 0 [] (fun x hx=>by have:=(h5 x hx).1;omega) (by simp;omega),qZ5 _ m.ac 0 [] (fun x hx=>by have:=(h6 x hx).1;omega) (by simp;omega)]
 rfl
theorem qWQ {p:Performance} (hi:qEe p.ai) (hm:qHa p.ae):qAZ p p.ai=some p:=by
 unfold qAZ
 rw[bnd (qKo hi).1,bnd (qJN hm).1]
theorem qWv {l:List Item} (h:qEe l) (i k:Int):∃b,qIA l i k=some b/\qF9 l i k=some b/\(b=true->∃it m,0<=i/\0<=k/\qAV l i=some it/\qAV it.ae k=some m/\it∈l):=by
 unfold qIA qF9
 have h14:=h.1
 rw[qAD (by omega)]
 obtain⟨a,a1,a2,a3⟩:=qFN i 0 ((l.length:Int)-1)
 rw[bnd a1,bnd a2]
 cases a
 ·exact⟨false,rfl,rfl,fun h=>by cases h⟩
 ·obtain⟨i0,i1⟩:=a3.1 rfl
  obtain⟨n,rfl⟩:=Int.eq_ofNat_of_zero_le i0
  have hn:n<l.length:=by omega
  have hg:qAV l (n:Int)=some l[n]:=by rw[qEm rfl];exact List.getElem?_eq_getElem hn
  have hit:=h.2 l[n] (List.getElem_mem hn)
  have hl3:=hit.1.2
  have hml:=hit.2
  simp only[qBx,hg,oB9]
  rw[qAD (by omega)]
  obtain⟨b,b1,b2,b3⟩:=qFN k 0 ((l[n].aj.length:Int)-1)
  rw[bnd b1,bnd b2]
  refine⟨b,rfl,rfl,fun hb=>?_⟩
  obtain⟨k0,k1⟩:=b3.1 hb
  obtain⟨q,rfl⟩:=Int.eq_ofNat_of_zero_le k0
  exact⟨l[n],l[n].ae[q]'(by omega),i0,k0,rfl,by rw[qEm rfl];exact List.getElem?_eq_getElem _,List.getElem_mem hn⟩
theorem qXu (m:Marks):∃r:Marks×Bool,qJi m=some r/\qG2 m=some r/\(r.2=true->r.1=m/\qHa m):=by
 unfold qJi qG2
 obtain⟨b,b1,b2,b3⟩:=qIQ m
 rw[bnd b1,bnd b2]
 cases b
 ·exact⟨_,rfl,rfl,fun h=>by cases h⟩
 ·exact⟨_,rfl,rfl,fun _=>⟨rfl,b3.1 rfl⟩⟩
theorem qOY {m:Marks} (h:qHa m) (j:Int):∃(b:Bool) (r:bE),qGf m j=some b/\qHE m j=some b/\qAV m.ac 0=some r/\(3<=r.length/\r.length<=9)/\(b=true↔0<=j/\j<=(r.length:Int)-1)/\(b=true->(∀g∈m.ah,qSi g j)/\∀g∈m.ac,qSi g j):=by
 obtain⟨r,r1,r2,r3⟩:=qOd h
 obtain⟨a,a1,a2,a3⟩:=qIQ m
 obtain rfl:=a3.2 h
 obtain⟨b,b1,b2,b3⟩:=qFN j 0 ((r.length:Int)-1)
 refine⟨b,r,?_,?_,r1,r2,b3,fun hb=>?_⟩
 ·unfold qGf qEY
  rw[bnd a2,qBx,bnd r1,oB9,qBx,qAD (by omega),bnd b2];rfl
 ·unfold qHE qA6
  rw[bnd a1,qBx,bnd r1,oB9,qBx,qAD (by omega),bnd b1];rfl
 ·obtain⟨c1,c2⟩:=r3 j (b3.1 hb).1 (by have:=(b3.1 hb).2;omega)
  exact⟨fun g hg=>(c1 g hg).1,fun g hg=>(c2 g hg).1⟩
theorem qUJ {m:Marks} (h:qHa m) (i j g:Int):∃r:Marks×Bool,qGU m i j g=some r/\qGZ m i j g=some r/\(r.2=true->qHa r.1/\r.1.ah.length=m.ah.length):=by
 unfold qGU qGZ
 obtain⟨b,r,b1,b2,r1,r2,b3,b4⟩:=qOY h j
 rw[bnd b1,bnd b2]
 cases b
 ·exact⟨_,rfl,rfl,fun h=>by cases h⟩
 have h14:=h.1
 obtain⟨c,c1,c2,c3⟩:=qFN i 0 ((m.ah.length:Int)-1)
 simp only[Bool.not_true,Bool.not_false,qBx]
 rw[qAD (by omega),bnd c1,bnd c2]
 cases c
 ·exact⟨_,rfl,rfl,fun h=>by cases h⟩
 obtain⟨i0,i1⟩:=c3.1 rfl
 obtain⟨n,rfl⟩:=Int.eq_ofNat_of_zero_le i0
 have hn:n<m.ah.length:=by omega
 have hg:qAV m.ah (n:Int)=some m.ah[n]:=by rw[qEm rfl];exact List.getElem?_eq_getElem hn
 obtain⟨x,hx⟩:=qNP ((b4 rfl).1 _ (List.getElem_mem hn))
 simp only[Bool.not_true,Bool.or_self,cF]
 rw[bnd (qJN h).1,bnd (qJN h).2,bnd hg,bnd hg,bnd hx,bnd hx]
 obtain⟨q,q1,q2,q3⟩:=qXu (Marks.mk (m.ah.set (n:Int).toNat (m.ah[n].set j.toNat g)) m.ac)
 rw[bnd q1,bnd q2]
 refine⟨_,rfl,rfl,fun hq=>?_⟩
 obtain⟨e,e2⟩:=q3 hq
 show qHa q.1/\q.1.ah.length=_
 rw[e]
 exact⟨e2,by simp⟩
theorem qQf {m:Marks} (h:qHa m) (i j g:Int):∃r:Marks×Bool,qEc m i j g=some r/\qEa m i j g=some r/\(r.2=true->qHa r.1/\r.1.ah.length=m.ah.length):=by
 unfold qEc qEa
 obtain⟨b,r,b1,b2,r1,r2,b3,b4⟩:=qOY h j
 rw[bnd b1,bnd b2]
 cases b
 ·exact⟨_,rfl,rfl,fun h=>by cases h⟩
 have h3:=h.2.1
 obtain⟨c,c1,c2,c3⟩:=qFN i 0 2
 simp only[Bool.not_true,Bool.not_false,qBx]
 rw[bnd c1,bnd c2]
 cases c
 ·exact⟨_,rfl,rfl,fun h=>by cases h⟩
 obtain⟨i0,i1⟩:=c3.1 rfl
 obtain⟨n,rfl⟩:=Int.eq_ofNat_of_zero_le i0
 have hn:n<m.ac.length:=by omega
 have hg:qAV m.ac (n:Int)=some m.ac[n]:=by rw[qEm rfl];exact List.getElem?_eq_getElem hn
 obtain⟨x,hx⟩:=qNP ((b4 rfl).2 _ (List.getElem_mem hn))
 simp only[Bool.not_true,Bool.or_self,cF]
 rw[bnd (qJN h).1,bnd (qJN h).2,bnd hg,bnd hg,bnd hx,bnd hx]
 obtain⟨q,q1,q2,q3⟩:=qXu (Marks.mk m.ah (m.ac.set (n:Int).toNat (m.ac[n].set j.toNat g)))
 rw[bnd q1,bnd q2]
 refine⟨_,rfl,rfl,fun hq=>?_⟩
 obtain⟨e,e2⟩:=q3 hq
 show qHa q.1/\q.1.ah.length=_
 rw[e]
 exact⟨e2,rfl⟩
end
section
def qTA (l:List Item):List Item:=l.mapIdx fun i it=>Item.mk it.aj it.ae (decide (2*(i:Int)>=(l.length:Int)))
theorem qaj (l x1:List Item) (hx:x1.length=l.length) (hl:l.length<=1000):∀(n a8:Nat) (dn rest:List Item),rest.length=n->n<a8->dn.length+n=l.length->
  qFO l x1 a8 (dn++rest) (dn.length:Int)=some (dn++rest.mapIdx fun i it=>Item.mk it.aj it.ae (decide (2*((dn.length+i:Nat):Int)>=(l.length:Int))))/\
  qD4 x1 a8 (dn++rest) (dn.length:Int)=some (dn++rest.mapIdx fun i it=>Item.mk it.aj it.ae (decide (2*((dn.length+i:Nat):Int)>=(l.length:Int)))):=by
 intro n
 induction n with
 |zero =>
  intro a8 dn rest h hf hd
  obtain⟨f,rfl⟩:=nZ9 (by omega:a8≠0)
  obtain rfl:=List.length_eq_zero_iff.1 h
  rw[qFO,qD4,dF (by omega),cF,cF]
  simp
 |succ n ih =>
  intro a8 dn rest h hf hd
  obtain⟨f,rfl⟩:=nZ9 (by omega:a8≠0)
  obtain⟨y,ys,rfl⟩:=List.exists_cons_of_length_eq_add_one h
  simp only[List.length_cons]at h
  have hg:qAV (dn++y::ys) (dn.length:Int)=some y:=qDC rfl rfl
  have hs:∀z:Item,(dn++y::ys).set ((dn.length:Int)).toNat z=(dn++[z])++ys:=fun z=>by simp
  have e:w64 (2*(dn.length:Int))=2*(dn.length:Int):=qAD (by omega)
  have e1:w64 ((dn.length:Int)+1)=((dn.length+1:Nat):Int):=by rw[qAD (by omega)];omega
  have el:((dn++y::ys).length:Int)=(l.length:Int):=by simp;omega
  obtain⟨a,b⟩:=ih f (dn++[Item.mk y.aj y.ae (decide (2*(dn.length:Int)>=(l.length:Int)))]) ys (by omega) (by omega) (by simp;omega)
  rw[show (dn++[Item.mk y.aj y.ae (decide (2*(dn.length:Int)>=(l.length:Int)))]).length=dn.length+1 from by simp]at a b
  have ef:(dn++[Item.mk y.aj y.ae (decide (2*(dn.length:Int)>=(l.length:Int)))])++(ys.mapIdx fun i it=>Item.mk it.aj it.ae (decide (2*((dn.length+1+i:Nat):Int)>=(l.length:Int))))=dn++(y::ys).mapIdx fun i it=>Item.mk it.aj it.ae (decide (2*((dn.length+i:Nat):Int)>=(l.length:Int))):=by
   rw[List.mapIdx_cons,List.append_assoc]
   simp only[Nat.add_zero,List.cons_append,List.nil_append,Nat.add_assoc,Nat.add_comm 1]
  rw[ef]at a b
  rw[qFO,qD4,dT (by omega),cW,cW,bnd hg]
  unfold qGW
  rw[oB9,bnd hg,hs,hs,e,e1,el]
  exact⟨a,b⟩
theorem qWk {l:List Item} (h:qEe l) (a8:Nat) (hf:1048576<a8):qHo a8 l=some (qTA l)/\qGc a8 l=some (qTA l):=by
 have h14:=h.1
 unfold qHo qGc
 rw[bnd (qKo h).1,bnd (qKo h).2]
 have:=qaj l l rfl (by omega) l.length a8 [] l rfl (by omega) (by simp)
 simpa [qTA]using this
theorem qKU {F:Nat} {c:Code} {p:Performance} {a i k m s:Bool} (ha:qDQ F c=some a) (hi:qFw F p.ai=some i) (hk:qGF c p.ai=some k) (hm:qFl p.ae=some m) (hs:qHp p.af=some s) :
  qBk F c p=some (((((a&&i)&&k)&&(m&&((p.ae.ah.length:Int)==(p.ai.length:Int))))&&s)):=by
 unfold qBk qKv qKn qKq
 rw[ha,hi,hk,hm,hs]
 cases a<;>cases i<;>cases k<;>cases m<;>cases ((p.ae.ah.length:Int)==(p.ai.length:Int))<;>cases s<;>rfl
theorem qOs {F:Nat} {c:Code} {p:Performance} {a i k m s:Bool} (ha:qBE F c=some a) (hi:qFb F p.ai=some i) (hk:qED c p.ai=some k) (hm:qEH p.ae=some m) (hs:qEn p.af=some s) :
  qBh F c p=some (((((a&&i)&&k)&&(m&&((p.ae.ah.length:Int)==(p.ai.length:Int))))&&s)):=by
 unfold qBh qIq qK2 qJZ
 rw[ha,hi,hk,hm,hs]
 cases a<;>cases i<;>cases k<;>cases m<;>cases ((p.ae.ah.length:Int)==(p.ai.length:Int))<;>cases s<;>rfl
structure Val (F:Nat) (c:Code) (p:Performance):Prop where
 nc:qSj c
 nb:qXF p.ai
 cs:qDQ F c=some true
 ci:qBE F c=some true
 is:qFw F p.ai=some true
 ii:qFb F p.ai=some true
 ks:qGF c p.ai=some true
 ki:qED c p.ai=some true
 mg:qHa p.ae
 ln:p.ae.ah.length=p.ai.length
 sg:qPY p.af
theorem Val.perf {F:Nat} (hF:1048576<F) {c:Code} {p:Performance} (h:Val F c p):qaN c p:=by
 obtain⟨a,a1,a2,a3⟩:=qNs c h.nc F hF
 obtain⟨i,i1,i2,i3⟩:=qN0 p.ai h.nb F hF
 obtain⟨k,k1,k2,k3⟩:=qOg c p.ai
 refine⟨a3 ?_,i3 ?_,k3.1 ?_,h.mg,h.ln,h.sg⟩
 ·rw[h.ci]at a1;exact(Option.some.inj a1).symm
 ·rw[h.ii]at i1;exact(Option.some.inj i1).symm
 ·rw[h.ki]at k1;exact(Option.some.inj k1).symm
theorem Val.aJ {F:Nat} {c:Code} {p:Performance} (h:Val F c p):qBk F c p=some true/\qBh F c p=some true:=by
 obtain⟨m,m1,m2,m3⟩:=qIQ p.ae
 obtain rfl:=m3.2 h.mg
 obtain⟨s,s1,s2,s3⟩:=qKT p.af
 obtain rfl:=s3.2 h.sg
 have e:((p.ae.ah.length:Int)==(p.ai.length:Int))=true:=by rw[h.ln];exact beq_self_eq_true _
 have:=qKU h.cs h.is h.ks m2 s2
 have h2:=qOs h.ci h.ii h.ki m1 s1
 rw[e]at this h2
 exact⟨this,h2⟩
theorem qZm {F:Nat} (hF:1048576<F) {c:Code} {p:Performance} (hc:qSj c) (hb:qXF p.ai):∃b,qBk F c p=some b/\qBh F c p=some b/\(b=true->Val F c p):=by
 obtain⟨a,a1,a2,a3⟩:=qNs c hc F hF
 obtain⟨i,i1,i2,i3⟩:=qN0 p.ai hb F hF
 obtain⟨k,k1,k2,k3⟩:=qOg c p.ai
 obtain⟨m,m1,m2,m3⟩:=qIQ p.ae
 obtain⟨s,s1,s2,s3⟩:=qKT p.af
 refine⟨_,qKU a2 i2 k2 m2 s2,qOs a1 i1 k1 m1 s1,fun h=>?_⟩
 simp only[Bool.and_eq_true]at h
 obtain⟨⟨⟨⟨rfl,rfl⟩,rfl⟩,rfl,h5⟩,rfl⟩:=h
 exact⟨hc,hb,a2,a1,i2,i1,k2,k1,m3.1 rfl,by have:=eq_of_beq h5;omega,s3.1 rfl⟩
theorem qK8 {F:Nat} {x:CsState} {c:Code} {p:Performance} {b:Bool} (h:qBk F c p=some b):qAR F x c p=some (bif b then (CsState.mk c p x.am x.ak x.no x.aA x.aF,(bz [111,107])) else (x,(bz [110,111]))):=by
 unfold qAR
 rw[bnd h]
 cases b<;>rfl
end
section
theorem qam (c:Code) (x:Element) (hc:c.ad.length<=1000):∀(n a8 k:Nat),k+n=c.ad.length->n<a8->∃q:Nat,q<=c.ad.length/\qB2 c x a8 (k:Int)=some (q:Int)/\qB7 c x a8 (k:Int)=some (q:Int):=by
 intro n
 induction n with
 |zero =>
  intro a8 k h hf
  obtain⟨f,rfl⟩:=nZ9 (by omega:a8≠0)
  rw[qB2,qB7,dF (by omega),qDW,oB9,oB9,Bool.false_and,cF,cF]
  exact⟨k,by omega,rfl,rfl⟩
 |succ n ih =>
  intro a8 k h hf
  obtain⟨f,rfl⟩:=nZ9 (by omega:a8≠0)
  have hg:qAV c.ad (k:Int)=some (c.ad[k]'(by omega)):=by rw[qEm rfl];exact List.getElem?_eq_getElem _
  obtain⟨q,q1,q2,q3⟩:=ih f (k+1) (by omega) (by omega)
  rw[qB2,qB7,dT (by omega),qBx,hg,oB9,oB9,Bool.true_and,qAD (by omega),show (k:Int)+1=((k+1:Nat):Int) by omega,q2,q3]
  cases qNe (c.ad[k]'(by omega)).aC x.aC
  ·exact⟨k,by omega,rfl,rfl⟩
  ·exact⟨q,q1,rfl,rfl⟩
theorem qUx (s:bD):∀(l:List Element) (k:Nat),fnd s l k<0↔∀x∈l,x.aC≠s
 | [],k=>by simp[fnd]
 |y::ys,k=>by
  rw[fnd]
  by_cases h:y.aC=s
  ·rw[if_pos h];constructor
   ·intro q;omega
   ·intro q;exact absurd h (q y (by simp))
  ·rw[if_neg h,qUx s ys (k+1)]
   simp[h]
theorem qUX {c c':Code} {l:List Item} (h:qGu c l) (hs:∀x∈c.ad,x∈c'.ad):qGu c' l:=fun it hi s hs' q=>by
 apply h it hi s hs'
 rw[qUx]at q⊢
 exact fun x hx=>q x (hs x hx)
theorem qN2 {c:Code} {l:List Item} (h:qGu c l):qGF c l=some true/\qED c l=some true:=by
 obtain⟨k,k1,k2,k3⟩:=qOg c l
 obtain rfl:=k3.2 h
 exact⟨k2,k1⟩
theorem qNj {F:Nat} (hF:1048576<F) {c:Code} {p:Performance} (h:Val F c p):c.ar.length=5/\c.ad.length<=24:=⟨(h.perf hF).1.2.1,(h.perf hF).1.1.2⟩
theorem Val.ag {F:Nat} (hF:1048576<F) {c c':Code} {p:Performance} (h:Val F c p) (hn:qSj c') (he:∀x∈c.ad,x∈c'.ad):∃b,qBE F c'=some b/\qDQ F c'=some b/\qBk F c' p=some b/\(b=true->Val F c' p):=by
 obtain⟨a,a1,a2,a3⟩:=qNs c' hn F hF
 obtain⟨k1,k2⟩:=qN2 (qUX (h.perf hF).2.2.1 he)
 obtain⟨m,m1,m2,m3⟩:=qIQ p.ae
 obtain rfl:=m3.2 h.mg
 obtain⟨s,s1,s2,s3⟩:=qKT p.af
 obtain rfl:=s3.2 h.sg
 have e:((p.ae.ah.length:Int)==(p.ai.length:Int))=true:=by rw[h.ln];exact beq_self_eq_true _
 have:=qKU a2 h.is k1 m2 s2
 rw[e]at this
 simp only[Bool.and_true]at this
 exact⟨a,a1,a2,this,fun ha=>⟨hn,h.nb,ha▸a2,ha▸a1,h.is,h.ii,k1,k2,h.mg,h.ln,h.sg⟩⟩
theorem qPn {F:Nat} (hF:1048576<F) {c:Code} {p:Performance} (h:Val F c p) (x:Element) (hx:x.aC.size<=1048576):∃r:Code×Bool,qFZ F c x=some r/\qFY F c x=some r/\(r.2=true->Val F r.1 p/\qBk F r.1 p=some true):=by
 obtain⟨l5,l24⟩:=qNj hF h
 unfold qFZ qFY
 rw[bnd h.cs,bnd h.ci,Bool.not_true,cF,cF]
 unfold qFm
 rw[ndf (by omega) (by omega),oB9,bnd (qR3 c.ar (by omega)),oB9]
 obtain⟨q,q1,q2,q3⟩:=qam c x (by omega) c.ad.length F 0 (by omega) (by omega)
 rw[show ((0:Nat):Int)=0 from rfl]at q2 q3
 have hi:qFT c.ad (q:Int)=some (c.ad.take q):=by unfold qFT;rw[if_pos (by omega)];rfl
 have lo:qCq c.ad (q:Int)=some (c.ad.drop q):=by unfold qCq;rw[if_pos (by omega)];rfl
 have hins:qEC c.ad (q:Int) [x]=some ((c.ad.take q++[x])++c.ad.drop q):=by
  unfold qEC
  rw[dT (by omega),dT (by omega),qSx (by omega) (by omega)]
  rfl
 rw[bnd q2,bnd q3,bnd hi,ndf (by omega) (by simp;omega),oB9,ndf (by omega) (by simp;omega),oB9,bnd lo,ndf (by omega) (by simp;omega),oB9,oB9,bnd hins]
 unfold qND qGo
 rw[bnd (qP5 c.ar (by omega))]
 have hm:∀z,z∈(c.ad.take q++[x])++c.ad.drop q↔z∈c.ad\/z=x:=fun z=>by
  have e:z∈c.ad↔z∈c.ad.take q\/z∈c.ad.drop q:=by rw[<-List.mem_append,List.take_append_drop]
  rw[e,List.mem_append,List.mem_append,List.mem_singleton]
  constructor
  ·rintro ((h|h)|h)
   ·exact .inl (.inl h)
   ·exact .inr h
   ·exact .inl (.inr h)
  ·rintro ((h|h)|h)
   ·exact .inl (.inl h)
   ·exact .inr h
   ·exact .inl (.inr h)
 obtain⟨b,b1,b2,b3,b4⟩:=h.ag hF (c':=Code.mk ((c.ad.take q++[x])++c.ad.drop q) c.ar c.aq c.av c.au c.ay)
  ⟨by simp;omega,fun z hz=>by rcases (hm z).1 hz with hz|rfl;exact h.nc.2 z hz;exact hx⟩ (fun z hz=>(hm z).2 (.inl hz))
 rw[bnd b1,bnd b2]
 cases b
 ·exact⟨_,rfl,rfl,fun h=>by cases h⟩
 ·exact⟨_,rfl,rfl,fun _=>⟨b4 rfl,b3⟩⟩
theorem qSG {F:Nat} (hF:1048576<F) {c:Code} {p:Performance} (h:Val F c p):qGo F c c.ad=some (c,true):=by
 obtain⟨l5,l24⟩:=qNj hF h
 unfold qGo
 rw[bnd (qP5 c.ar (by omega))]
 show (qBE F c).bind _=_
 rw[bnd h.ci];rfl
end
section
theorem qBP (s:bD):(toL s).length=s.size:=(Go.Lib.size_eq s).symm
theorem qay (s p:bD) (hs:s.size<=1048576) (hp:p.size<=1048576):(∃r,qBo s p=some (r,true)/\toL s=toL p++toL r)\/((∀t,toL s≠toL p++t)/\qBo s p=some (s,false)):=by
 have hsz:=qBP s
 have hpz:=qBP p
 unfold qBo qF2 qFx
 by_cases h1:(s.size:Int)>=(p.size:Int)
 ·rw[dT h1,qBx,show inB 0 (p.size:Int) s.size=true from by unfold inB;simp;omega,qC2,oB9,oB9,Bool.true_and]
  have hx:toL (ByteArray.extract s 0 ((p.size:Int)).toNat)=(toL s).take p.size:=by
   rw[show toL (ByteArray.extract s 0 ((p.size:Int)).toNat)=((toL s).drop 0).take (p.size-0) from Go.Lib.extract_data s 0 p.size];rfl
  have hy:toL (ByteArray.extract s ((p.size:Int)).toNat s.size)=(toL s).drop p.size:=Go.Lib.extract_to_end s p.size
  by_cases he:ByteArray.extract s 0 ((p.size:Int)).toNat=p
  ·rw[dT he,Bool.not_true,cF,show inB (p.size:Int) s.size s.size=true from by unfold inB;simp;omega,qC2,oB9,oB9]
   refine .inl ⟨_,rfl,?_⟩
   show toL s=toL p++toL (ByteArray.extract s ((p.size:Int)).toNat s.size)
   rw[hy,<-congrArg toL he,hx,List.take_append_drop]
  ·rw[dF he,Bool.not_false,cW,oB9]
   refine .inr ⟨fun t ht=>he (qGd ?_),rfl⟩
   rw[hx,ht,<-hpz,List.take_left]
 ·rw[dF h1,qDW,oB9,Bool.false_and,oB9,Bool.not_false,cW,oB9]
  refine .inr ⟨fun t ht=>?_,rfl⟩
  have:=congrArg List.length ht
  rw[List.length_append]at this
  omega
theorem qaY (s p:bD) (hs:s.size<=1048576) (hp:p.size<=1048576):(∃r,qDN s p=some (r,true)/\toL s=toL r++toL p)\/((∀t,toL s≠t++toL p)/\qDN s p=some (s,false)):=by
 have hsz:=qBP s
 have hpz:=qBP p
 unfold qDN qFv qFy
 by_cases h1:(s.size:Int)>=(p.size:Int)
 ·have hn:w64 ((s.size:Int)-(p.size:Int))=((s.size-p.size:Nat):Int):=by rw[qAD (by omega)];omega
  rw[dT h1,qBx,hn,show inB ((s.size-p.size:Nat):Int) s.size s.size=true from by unfold inB;simp,qC2,oB9,oB9,Bool.true_and,Int.toNat_natCast]
  have hex:toL (ByteArray.extract s (s.size-p.size) s.size)=(toL s).drop (s.size-p.size):=Go.Lib.extract_to_end s (s.size-p.size)
  have hx:toL (ByteArray.extract s 0 (s.size-p.size))=(toL s).take (s.size-p.size):=by
   rw[show toL (ByteArray.extract s 0 (s.size-p.size))=_ from Go.Lib.extract_data s 0 (s.size-p.size)];rw[List.drop_zero,Nat.sub_zero]
  by_cases he:ByteArray.extract s (s.size-p.size) s.size=p
  ·rw[dT he,Bool.not_true,cF,show inB 0 ((s.size-p.size:Nat):Int) s.size=true from by unfold inB;simp,qC2,oB9,oB9]
   refine .inl ⟨_,rfl,?_⟩
   show toL s=toL (ByteArray.extract s 0 (s.size-p.size))++toL p
   rw[hx,<-congrArg toL he,hex,List.take_append_drop]
  ·rw[dF he,Bool.not_false,cW,oB9]
   refine .inr ⟨fun t ht=>he (qGd ?_),rfl⟩
   have hl:=congrArg List.length ht
   rw[List.length_append]at hl
   rw[hex,ht,show s.size-p.size=t.length by omega,List.drop_left]
 ·rw[dF h1,qDW,oB9,Bool.false_and,oB9,Bool.not_false,cW,oB9]
  refine .inr ⟨fun t ht=>?_,rfl⟩
  have:=congrArg List.length ht
  rw[List.length_append]at this
  omega
theorem qNG (s:bD) (hs:s.size<=1048576) (F:Nat) (hF:12<F):(qSh (toL s)/\(toL s).length<=6/\qDS F s=some (qNL (toL s):Int))\/(¬(qSh (toL s)/\(toL s).length<=6)/\qDS F s=some (-1)):=by
 have hsz:s.size=(toL s).length:=Go.Lib.size_eq s
 unfold qDS
 obtain⟨b,b1,b2⟩:=qD0 (s.size:Int) 1 6
 rw[bnd b1]
 cases b
 ·simp only[Bool.not_false,Bool.not_true,qDW,oB9,Bool.true_or,cW]
  refine .inr ⟨fun h=>?_,trivial⟩
  have hpos:=List.length_pos_iff.2 h.1.1
  have:=b2.2 (by omega)
  cases this
 ·have hr:=b2.1 rfl
  have hpos:0<(toL s).length:=by omega
  simp only[Bool.not_true,Bool.not_false,qBx,Bool.false_or]
  rw[qMD (i:=0) (k:=0) rfl,List.getElem?_eq_getElem hpos,oB9]
  have hl:=qXq s (by omega) s.size F 0 0 (by omega) (by omega) (by rfl) (by intro x hx;simp at hx)
  have hhd:(toL s).head?=some (toL s)[0]:=by rw[List.head?_eq_getElem?,List.getElem?_eq_getElem hpos]
  cases hc:((((toL s)[0].toNat:Int)==48)&&decide ((s.size:Int)>1))
  ·rw[cF]
   by_cases hd:qWp (toL s)
   ·refine .inl ⟨⟨List.length_pos_iff.1 hpos,hd,fun h1 h2=>?_⟩,by omega,(hl.1 hd).2⟩
    rw[hhd]at h2
    rw[Option.some.inj h2,dT (by omega)]at hc
    cases hc
   ·exact .inr ⟨fun h=>hd h.1.2.1,(hl.2 hd).2⟩
  ·rw[cW]
   rw[Bool.and_eq_true,beq_iff_eq,decide_eq_true_iff]at hc
   refine .inr ⟨fun h=>absurd ?_ (h.1.2.2 (by omega)),rfl⟩
   rw[hhd,show (toL s)[0]=48 from UInt8.toNat_inj.1 (by show _=48;omega)]
theorem qMC {l:List UInt8} (h:qSh l) (k:Nat) (hv:qNL l<10 ^ (k+1)):l.length<=k+1:=by
 have:=qPh k (qNL l) hv
 rwa [qWD _ l rfl h]at this
def isN (w:bD) (n:Int):Prop:=qSh (toL w)/\n=(qNL (toL w):Int)/\n<=9999
def isG (w:bD) (n:Int):Prop:=isN w n\/∃t,toL w=45::t/\qSh t/\n=-(qNL t:Int)/\0<qNL t/\qNL t<=9999
theorem qX7 {w:bD} {n:Int} (h:isN w n):0<=n/\n<=9999:=by obtain⟨_,rfl,h⟩:=h;omega
theorem qZt {w:bD} {n:Int} (h:isG w n):-9999<=n/\n<=9999:=by
 rcases h with h|⟨t,_,_,rfl,_,_⟩
 ·have:=qX7 h;omega
 ·omega
theorem qas (w:bD) (hs:w.size<=1048576) (F:Nat) (hF:12<F):(∃n,isN w n/\qCt F 110 w=some (n,true))\/((∀n,¬isN w n)/\∃q,qCt F 110 w=some (q,false)):=by
 unfold qCt
 rw[show ((110:Int)==110)=true from rfl,cW]
 obtain⟨r,r1,r2,r3⟩:=qOH w hs F hF
 rw[bnd r1]
 cases hr:r.2
 ·refine .inr ⟨fun n hn=>?_,_,rfl⟩
  have h4:=qMC hn.1 3 (by have:=hn.2;omega)
  rw[r2.2 ⟨hn.1,by omega⟩]at hr
  cases hr
 ·have hv:=r3 hr
  by_cases h9:r.1<=9999
  ·rw[dT h9]
   exact .inl ⟨_,⟨(r2.1 hr).1,hv,h9⟩,rfl⟩
  ·rw[dF h9]
   exact .inr ⟨fun n hn=>h9 (by rw[hv,<-hn.2.1];exact hn.2.2),_,rfl⟩
theorem qPM {w:bD} {t:List UInt8} (h:toL w=45::t):¬qSh (toL w):=fun hc=>by
 have:=hc.2.1 45 (by rw[h];simp)
 simp at this
theorem qar (w:bD) (hs:w.size<=1048576) (F:Nat) (hF:12<F):(∃n,isG w n/\qCt F 103 w=some (n,true))\/((∀n,¬isG w n)/\∃q,qCt F 103 w=some (q,false)):=by
 unfold qCt
 rw[show ((103:Int)==110)=false from rfl,cF,show ((103:Int)==103)=true from rfl,cW]
 unfold qKF qMB
 have e45:toL (bz [45])=[45]:=rfl
 rcases qay w (bz [45]) hs (by show 1<=_;omega) with⟨x,x1,x2⟩|⟨x1,x2⟩
 ·have hx:x.size<=1048576:=by have:=congrArg List.length x2;rw[List.length_append,e45,qBP,qBP]at this;simp at this;omega
  obtain⟨r,r1,r2,r3⟩:=qOH x hx F hF
  rw[bnd x1,bnd r1]
  have hno:=qPM x2
  simp only[Bool.true_and,cW]
  cases hc:((!r.2)||(r.1==0))
  ·rw[cF]
   rw[Bool.or_eq_false_iff,Bool.not_eq_false',beq_eq_false_iff_ne]at hc
   have hv:=r3 hc.1
   have hl:=r2.1 hc.1
   have hlt:=qTM _ (toL x) rfl hl.1.2.1
   have hp:10 ^ (toL x).length<=10 ^ 12:=Nat.pow_le_pow_right (by omega) hl.2
   have h0:=hc.2
   rw[qAD (by omega)]
   simp only[oB9,qBx]
   rw[qAD (by omega)]
   by_cases h9:max (-r.1) (- -r.1)<=9999
   ·rw[dT h9]
    exact .inl ⟨_,.inr ⟨toL x,x2,hl.1,by rw[hv],by omega,by omega⟩,rfl⟩
   ·rw[dF h9]
    refine .inr ⟨fun n hn=>?_,_,rfl⟩
    rcases hn with hn|⟨t,t1,t2,t3,t4,t5⟩
    ·exact hno hn.1
    ·have:toL x=t:=by rw[t1]at x2;exact(List.cons.inj x2).2.symm
     rw[this]at hv
     omega
  ·rw[cW]
   simp only[oB9,qDW]
   refine .inr ⟨fun n hn=>?_,_,rfl⟩
   rcases hn with hn|⟨t,t1,t2,t3,t4,t5⟩
   ·exact hno hn.1
   ·have:toL x=t:=by rw[t1]at x2;exact(List.cons.inj x2).2.symm
    subst this
    have h4:=qMC t2 3 (by omega)
    have e:=r2.2 ⟨t2,by omega⟩
    rw[e,r3 e]at hc
    simp at hc
    omega
 ·obtain⟨r,r1,r2,r3⟩:=qOH w hs F hF
  rw[bnd x2,bnd r1]
  simp only[Bool.false_and,Bool.or_false,cF]
  cases hr:r.2
  ·simp only[Bool.not_false,cW,oB9,qDW]
   refine .inr ⟨fun n hn=>?_,_,rfl⟩
   rcases hn with hn|⟨t,t1,_⟩
   ·have h4:=qMC hn.1 3 (by have:=hn.2;omega)
    rw[r2.2 ⟨hn.1,by omega⟩]at hr
    cases hr
   ·exact x1 t t1
  ·have hv:=r3 hr
   have hl:=r2.1 hr
   have hlt:=qTM _ (toL w) rfl hl.1.2.1
   have hp:10 ^ (toL w).length<=10 ^ 12:=Nat.pow_le_pow_right (by omega) hl.2
   simp only[Bool.not_true,cF,oB9,qBx]
   rw[qAD (by omega)]
   by_cases h9:max r.1 (-r.1)<=9999
   ·rw[dT h9]
    exact .inl ⟨_,.inl ⟨hl.1,hv,by omega⟩,rfl⟩
   ·rw[dF h9]
    refine .inr ⟨fun n hn=>?_,_,rfl⟩
    rcases hn with hn|⟨t,t1,_⟩
    ·have:=hn.2;omega
    ·exact x1 t t1
end
section
theorem qZO (F:Nat) (hF:100<F) (n:Int) (h:-9999999999<=n/\n<=9999999999):∃t,qDo F n=some t/\qBe n=some t/\toL t=(if n<0 then 45::qPS (-n).toNat else qPS n.toNat)/\t.size<=11:=by
 have hit:∃t,qBe n=some t/\toL t=(if n<0 then 45::qPS (-n).toNat else qPS n.toNat):=by
  unfold qBe
  rw[show qAl (decide (-9223372036854775808<=n)&&decide (n<=9223372036854775807))=some () from by rw[dT (by omega),dT (by omega)];rfl,oB9]
  refine⟨_,rfl,?_⟩
  show (Go.Lib.itoa n).toArray.toList=_
  unfold Go.Lib.itoa
  by_cases h0:n<0
  ·rw[if_pos h0,if_pos h0,qRe,show n.natAbs=(-n).toNat by omega]
  ·rw[if_neg h0,if_neg h0,qRe]
 obtain⟨t,t1,t2⟩:=hit
 unfold qDo
 by_cases h0:n<0
 ·rw[dT h0,cW,qAD (by omega)]
  obtain⟨q,q1,q2⟩:=qYo F 9 F (-n).toNat (by omega) (by omega) (by omega)
  rw[Int.toNat_of_nonneg (by omega)]at q1
  have hq:q.size<=10:=by rw[<-qBP,q2];exact qPh 9 _ (by omega)
  have e1:(bz [45]).size=1:=rfl
  rw[bnd q1,nd (by omega),oB9]
  rw[if_pos h0]at t2
  have e:(bz [45])++q=t:=qGd (by rw[qHW,q2,t2];rfl)
  exact⟨t,by rw[e],t1,by rw[t2,if_pos h0],by rw[<-e,ByteArray.size_append];omega⟩
 ·rw[dF h0,cF]
  obtain⟨q,q1,q2⟩:=qYo F 9 F n.toNat (by omega) (by omega) (by omega)
  rw[Int.toNat_of_nonneg (by omega)]at q1
  have hq:q.size<=10:=by rw[<-qBP,q2];exact qPh 9 _ (by omega)
  rw[if_neg h0]at t2
  have e:q=t:=qGd (by rw[q2,t2])
  rw[bnd q1,e]
  exact⟨t,rfl,t1,by rw[t2,if_neg h0],by rw[<-e];omega⟩
theorem qV9 (s:bD) (hs:s.size<=1048576) (F:Nat) (hF:12<F):∃v,qHy F s=some v/\(-999999<=v/\v<=999999)/\(v<0->∃t,toL s=45::t/\qSh t/\v=-(qNL t:Int)/\0<qNL t)/\(∀t,toL s=45::t->qSh t->t.length<=6->v=-(qNL t:Int)):=by
 have hsz:=qBP s
 unfold qHy
 have key:∀(q:bD),q.size<=1048576->qSh (toL q)->(toL q).length<=6->(qNL (toL q):Int)<=999999:=fun q hq hc h6=>by
  have:=qTM _ (toL q) rfl hc.2.1
  have:10 ^ (toL q).length<=10 ^ 6:=Nat.pow_le_pow_right (by omega) h6
  omega
 have pos:qDS F s=qDS F s->(∀t,toL s=45::t->¬qSh t)->∃v,((qDS F s).bind fun x7=>cond (decide (x7>=0)) (some (w64 (1*x7))) (some 9999))=some v/\(-999999<=v/\v<=999999)/\(v<0->∃t,toL s=45::t/\qSh t/\v=-(qNL t:Int)/\0<qNL t)/\(∀t,toL s=45::t->qSh t->t.length<=6->v=-(qNL t:Int)):=fun _ hno=>by
  rcases qNG s hs F hF with⟨c1,c2,c3⟩|⟨_,c3⟩
  ·have:=key s hs c1 c2
   rw[bnd c3,dT (by omega),cW,Int.one_mul,qAD (by omega)]
   exact⟨_,rfl,by omega,fun h=>by omega,fun t h1 h2=>absurd h2 (hno t h1)⟩
  ·rw[bnd c3]
   exact⟨9999,rfl,by omega,fun h=>by omega,fun t h1 h2=>absurd h2 (hno t h1)⟩
 by_cases h1:(s.size:Int)>1
 ·rw[dT h1,qBx,qMD (i:=0) (k:=0) rfl,List.getElem?_eq_getElem (show 0<(toL s).length by omega),oB9,Bool.true_and]
  by_cases h45:(toL s)[0]'(by omega)=45
  ·rw[h45,show (((45:UInt8).toNat:Int)==45)=true from rfl,cW,show inB 1 s.size s.size=true from by unfold inB;simp;omega,qC2,oB9]
   have hx:toL (ByteArray.extract s (1:Int).toNat s.size)=(toL s).drop 1:=Go.Lib.extract_to_end s 1
   have hd:toL s=45::(toL s).drop 1:=by
    cases hq:toL s with
    |nil=>rw[hq]at hsz;simp at hsz;omega
    |cons a b=>simp only[hq,List.getElem_cons_zero]at h45;rw[h45];rfl
   have hxs:(ByteArray.extract s (1:Int).toNat s.size).size<=1048576:=by rw[<-qBP,hx,List.length_drop];omega
   rcases qNG _ hxs F hF with⟨c1,c2,c3⟩|⟨c1,c3⟩
   ·have:=key _ hxs c1 c2
    rw[hx]at c1 c2 c3 this
    rw[bnd c3,dT (by omega),cW,qAD (by omega)]
    refine⟨_,rfl,by omega,fun h=>⟨_,hd,c1,by omega,by omega⟩,fun t t1 _ _=>?_⟩
    rw[hd]at t1
    rw[(List.cons.inj t1).2];omega
   ·rw[hx]at c1
    rw[bnd c3]
    refine⟨9999,rfl,by omega,fun h=>by omega,fun t t1 t2 t3=>?_⟩
    rw[hd]at t1
    rw[(List.cons.inj t1).2]at c1
    exact absurd ⟨t2,t3⟩ c1
  ·rw[show ((((toL s)[0]'(by omega)).toNat:Int)==45)=false from by rw[beq_eq_false_iff_ne];intro e;exact h45 (UInt8.toNat_inj.1 (by show _=45;omega)),cF]
   refine pos rfl fun t ht=>?_
   exfalso;apply h45
   simp only[ht,List.getElem_cons_zero]
 ·rw[dF h1,qDW,oB9,Bool.false_and,cF]
  refine pos rfl fun t ht hc=>?_
  have:=congrArg List.length ht
  rw[List.length_cons]at this
  exact hc.1 (List.length_eq_zero_iff.1 (by omega))
theorem qTL (F:Nat) (hF:100<F) (W:List bD) (sg:Bool) (y:bD) (hy:y.size<=1048576) (ys:List bD) (k:Nat) (v:bE) (hW:W.length<=3000) (hv:v.length<=3000) :
  (∃n,(isN y n\/(sg=true/\k+1=W.length/\isG y n))/\qAX W sg F (y::ys) k v=qAX W sg F ys (k+1) (v++[n]))\/
  ((∀n,¬isN y n)/\(sg=true->k+1=W.length->∀n,¬isG y n)/\qAX W sg F (y::ys) k v=some ([],false))\/(W.length<k+1):=by
 by_cases hk:W.length<k+1
 ·exact .inr (.inr hk)
 rw[qAX]
 obtain⟨m,m1,m2,m3,m4⟩:=qV9 y hy F (by omega)
 rw[bnd m1]
 rcases qNG y hy F (by omega) with⟨c1,c2,c3⟩|⟨c1,c3⟩
 ·rw[bnd c3,dT (by omega),cW]
  by_cases h9:(qNL (toL y):Int)>9999
  ·rw[dT h9,Bool.true_or,cW]
   refine .inr (.inl ⟨fun n hn=>by have:=hn.2;omega,fun _ _ n hn=>?_,rfl⟩)
   rcases hn with hn|⟨t,t1,t2,_⟩
   ·have:=hn.2;omega
   ·exact qPM t1 c1
  ·rw[dF h9,Bool.false_or,dF (by omega),cF,ndf (by omega) (by simp;omega),oB9]
   exact .inl ⟨_,.inl ⟨c1,rfl,by omega⟩,rfl⟩
 ·have hnN:∀n,¬isN y n:=fun n hn=>c1 ⟨hn.1,by have:=qMC hn.1 3 (by have:=hn.2;omega);omega⟩
  rw[bnd c3,show decide ((-1:Int)>=0)=false from rfl,cF]
  cases hsg:sg
  ·simp only[Bool.not_false,Bool.true_or,Bool.not_true,qDW,oB9,cW]
   exact .inr (.inl ⟨hnN,(fun h=>by cases h),trivial⟩)
  simp only[Bool.not_true,Bool.false_or]
  rw[qAD (by omega)]
  by_cases hl:(k:Int)<(W.length:Int)-1
  ·rw[dT hl]
   simp only[Bool.true_or,Bool.not_true,qDW,oB9,cW]
   exact .inr (.inl ⟨hnN,fun _ h=>by omega,trivial⟩)
  rw[dF hl,Bool.false_or]
  by_cases h0:m>=0
  ·rw[dT h0]
   simp only[Bool.true_or,Bool.not_true,qDW,oB9,cW]
   refine .inr (.inl ⟨hnN,fun _ _ n hn=>?_,trivial⟩)
   rcases hn with hn|⟨t,t1,t2,t3,t4,t5⟩
   ·exact hnN n hn
   ·have:=m4 t t1 t2 (by have:=qMC t2 3 (by omega);omega)
    omega
  ·rw[dF h0]
   obtain⟨t,t1,t2,t3,t4⟩:=m3 (by omega)
   obtain⟨q,q1,_,q2,_⟩:=qZO F hF m (by omega)
   rw[if_pos (by omega),show (-m).toNat=qNL t by omega,qWD _ t rfl t2]at q2
   have e:q=y:=qGd (by rw[q2,t1])
   simp only[Bool.not_false,qBx,Bool.false_or]
   rw[bnd q1,dT e,Bool.not_true,cF]
   by_cases h9:m < -9999
   ·rw[dT h9,Bool.or_true,cW]
    refine .inr (.inl ⟨hnN,fun _ _ n hn=>?_,rfl⟩)
    rcases hn with hn|⟨t',s1,s2,s3,s4,s5⟩
    ·exact hnN n hn
    ·rw[t1]at s1
     rw[<-(List.cons.inj s1).2]at s5
     omega
   ·rw[dF h9,Bool.or_false,dF (by omega),cF,ndf (by omega) (by simp;omega),oB9]
    exact .inl ⟨m,.inr ⟨trivial,by omega,.inr ⟨t,t1,t2,t3,t4,by omega⟩⟩,rfl⟩
end
section
theorem qPq (F:Nat) (hF:100<F) (S:ScriptState) (x5:List bD) (x7:bD) (x9:bD×Bool) (sg:Bool) (W zs:List bD) (d:Nat) (hW:W.length<=2500)
  (hform:∀i:Nat,i<W.length->qNC x9.1 ((i+d:Nat):Int)=some (if sg=true/\i+1=W.length then (103:UInt8) else 110)):∀(ys:List bD) (k:Nat) (v v':bE),k+ys.length=W.length->(∀y∈ys,y.size<=1048576)->v.length+ys.length<=2500->v'.length+ys.length<=2600->
  (∃L:bE,L.length=ys.length/\(∀n∈L,-9999<=n/\n<=9999)/\(sg=false->∀n∈L,0<=n)/\qAX W sg F ys k v=some (v++L,true)/\qAA S F x5 x7 x9 (ys++zs) (k+d) v'=qAA S F x5 x7 x9 zs (W.length+d) (v'++L))\/
  (qAX W sg F ys k v=some ([],false)/\qAA S F x5 x7 x9 (ys++zs) (k+d) v'=some (S,(bz [119,104,97,116]))):=by
 intro ys
 induction ys with
 |nil =>
  intro k v v' hk _ _ _
  refine .inl ⟨[],rfl,by simp,by simp,by rw[qAX,List.append_nil],?_⟩
  rw[List.append_nil,List.nil_append,<-hk];rfl
 |cons y ys ih =>
  intro k v v' hk hy hv hv'
  simp only[List.length_cons]at hk hv hv'
  have hyb:=hy y (by simp)
  have hst:=qTL F hF W sg y hyb ys k v (by omega) (by omega)
  have hf:=hform k (by omega)
  have cont:∀n:Int,(-9999<=n/\n<=9999)->(sg=false->0<=n)->qAX W sg F (y::ys) k v=qAX W sg F ys (k+1) (v++[n])->qAA S F x5 x7 x9 (y::ys++zs) (k+d) v'=qAA S F x5 x7 x9 (ys++zs) (k+d+1) (v'++[n])->
    (∃L:bE,L.length=(y::ys).length/\(∀n∈L,-9999<=n/\n<=9999)/\(sg=false->∀n∈L,0<=n)/\qAX W sg F (y::ys) k v=some (v++L,true)/\qAA S F x5 x7 x9 (y::ys++zs) (k+d) v'=qAA S F x5 x7 x9 zs (W.length+d) (v'++L))\/
    (qAX W sg F (y::ys) k v=some ([],false)/\qAA S F x5 x7 x9 (y::ys++zs) (k+d) v'=some (S,(bz [119,104,97,116]))):=fun n hb h0 e1 e2=>by
   rw[e1,e2]
   have:=ih (k+1) (v++[n]) (v'++[n]) (by omega) (fun z hz=>hy z (by simp[hz])) (by simp;omega) (by simp;omega)
   rw[show k+1+d=k+d+1 by omega]at this
   rcases this with⟨L,l1,l2,l3,l4,l5⟩|⟨a,b⟩
   ·refine .inl ⟨n::L,by simp[l1],fun z hz=>?_,fun hs z hz=>?_,by rw[l4,List.append_assoc];rfl,by rw[l5,List.append_assoc];rfl⟩
    ·rcases List.mem_cons.1 hz with rfl|hz
     ·exact hb
     ·exact l2 z hz
    ·rcases List.mem_cons.1 hz with rfl|hz
     ·exact h0 hs
     ·exact l3 hs z hz
   ·exact .inr ⟨a,b⟩
  by_cases hlast:sg=true/\k+1=W.length
  ·rw[if_pos hlast]at hf
   rcases qar y hyb F (by omega) with⟨n,n1,n2⟩|⟨n1,q,n2⟩
   ·have e2:qAA S F x5 x7 x9 (y::ys++zs) (k+d) v'=qAA S F x5 x7 x9 (ys++zs) (k+d+1) (v'++[n]):=by
     rw[List.cons_append,qAA,bnd hf,show (((103:UInt8).toNat:Int))=103 from rfl,bnd n2,Bool.not_true,cF,ndf (by omega) (by simp;omega),oB9]
    rcases hst with⟨m,m1,m2⟩|⟨m1,m2,m3⟩|h
    ·have hm:isG y m:=m1.elim .inl fun h=>h.2.2
     have:m=n:=by
      rcases n1 with n1|⟨t,t1,t2,t3,_⟩
      ·rcases hm with hm|⟨t',s1,s2,_⟩
       ·rw[hm.2.1,n1.2.1]
       ·exact absurd n1.1 (qPM s1)
      ·rcases hm with hm|⟨t',s1,s2,s3,_⟩
       ·exact absurd hm.1 (qPM t1)
       ·rw[t1]at s1
        rw[s3,t3,(List.cons.inj s1).2]
     subst this
     exact cont m (qZt hm) (fun h=>by rw[hlast.1]at h;cases h) m2 e2
    ·exact absurd n1 (m2 hlast.1 hlast.2 n)
    ·omega
   ·have e2:qAA S F x5 x7 x9 (y::ys++zs) (k+d) v'=some (S,(bz [119,104,97,116])):=by
     rw[List.cons_append,qAA,bnd hf,show (((103:UInt8).toNat:Int))=103 from rfl,bnd n2,Bool.not_false,cW]
    rcases hst with⟨m,m1,m2⟩|⟨m1,m2,m3⟩|h
    ·exact absurd (m1.elim .inl fun h=>h.2.2) (n1 m)
    ·exact .inr ⟨m3,e2⟩
    ·omega
  ·rw[if_neg hlast]at hf
   rcases qas y hyb F (by omega) with⟨n,n1,n2⟩|⟨n1,q,n2⟩
   ·have e2:qAA S F x5 x7 x9 (y::ys++zs) (k+d) v'=qAA S F x5 x7 x9 (ys++zs) (k+d+1) (v'++[n]):=by
     rw[List.cons_append,qAA,bnd hf,show (((110:UInt8).toNat:Int))=110 from rfl,bnd n2,Bool.not_true,cF,ndf (by omega) (by simp;omega),oB9]
    rcases hst with⟨m,m1,m2⟩|⟨m1,m2,m3⟩|h
    ·rcases m1 with m1|m1
     ·obtain rfl:m=n:=by rw[m1.2.1,n1.2.1]
      have:=qX7 m1
      exact cont m (by omega) (fun _=>this.1) m2 e2
     ·exact absurd ⟨m1.1,m1.2.1⟩ hlast
    ·exact absurd n1 (m1 n)
    ·omega
   ·have e2:qAA S F x5 x7 x9 (y::ys++zs) (k+d) v'=some (S,(bz [119,104,97,116])):=by
     rw[List.cons_append,qAA,bnd hf,show (((110:UInt8).toNat:Int))=110 from rfl,bnd n2,Bool.not_false,cW]
    rcases hst with⟨m,m1,m2⟩|⟨m1,m2,m3⟩|h
    ·rcases m1 with m1|m1
     ·exact absurd m1 (n1 m)
     ·exact absurd ⟨m1.1,m1.2.1⟩ hlast
    ·exact .inr ⟨m3,e2⟩
    ·omega
def cs (S:ScriptState) (no wh:bE) (ln:Int):CsState:=CsState.mk S.ag S.aa S.am S.ak no wh ln
structure SGood (F:Nat) (S:ScriptState):Prop where
 aD:Val F S.ag S.aa
 fac:10<=S.am/\S.am<=400
 aK:qQb S.ak
def Alike (F:Nat) (S:ScriptState) (i:Option (ScriptState×bD)) (s:CsState->Option (CsState×bD)):Prop :=
 ∃S' r,i=some (S',r)/\(∀no wh ln,s (cs S no wh ln)=some (cs S' no wh ln,r))/\SGood F S'/\r.size<=1000
theorem Alike.stay {F:Nat} {S:ScriptState} {i:Option (ScriptState×bD)} {s:CsState->Option (CsState×bD)} (h:SGood F S) (r:bD) (hr:r.size<=1000) (hi:i=some (S,r)) (hs:∀no wh ln,s (cs S no wh ln)=some (cs S no wh ln,r)):Alike F S i s :=
 ⟨S,r,hi,hs,h,hr⟩
theorem qZk (b:Bool):qAw b=some (bif b then (bz [111,107]) else (bz [110,111])):=by cases b<;>rfl
theorem qOf (S:ScriptState) (c:Code) (b:Bool):qAc S c b=some (bif b then (ScriptState.mk c S.aa S.am S.ak,(bz [111,107])) else (S,(bz [110,111]))):=by cases b<;>rfl
end
section
theorem qTH {F:Nat} (hF:1048576<F) {c:Code} {p:Performance} (h:Val F c p):qFm c=some c:=by
 obtain⟨l5,l24⟩:=qNj hF h
 unfold qFm
 rw[ndf (by omega) (by omega),oB9,bnd (qR3 c.ar (by omega))]
theorem SGood.with {F:Nat} (hF:1048576<F) {S:ScriptState} (h:SGood F S):qAZ S.aa S.aa.ai=some S.aa :=
 qWQ (h.aD.perf hF).2.1 h.aD.mg
theorem qY2 {L:bE} (h:L.length=4):∃a b c d,L=[a,b,c,d]:=by
 match L,h with
 | [a,b,c,d],_=>exact⟨a,b,c,d,rfl⟩
theorem qPN {L:bE} (h:L.length=3):∃a b c,L=[a,b,c]:=by
 match L,h with
 | [a,b,c],_=>exact⟨a,b,c,rfl⟩
theorem qXt {L:bE} (h:L.length=2):∃a b,L=[a,b]:=by
 match L,h with
 | [a,b],_=>exact⟨a,b,rfl⟩
theorem qTk {L:bE} (h:L.length=1):∃a,L=[a]:=by
 match L,h with
 | [a],_=>exact⟨a,rfl⟩
theorem qQ0 {F:Nat} (hF:1048576<F) {S:ScriptState} (h:SGood F S) (c:Code) (hn:qSj c) (he:∀x∈S.ag.ad,x∈c.ad) (i:Option (ScriptState×bD)) (s:CsState->Option (CsState×bD))
  (hi:∀b,qBE F c=some b->i=some (bif b then (ScriptState.mk c S.aa S.am S.ak,(bz [111,107])) else (S,(bz [110,111]))))
  (hs:∀no wh ln b,qBk F c S.aa=some b->s (cs S no wh ln)=some (bif b then (CsState.mk c S.aa S.am S.ak no wh ln,(bz [111,107])) else (cs S no wh ln,(bz [110,111])))):Alike F S i s:=by
 obtain⟨e,e1,e2,e3,e4⟩:=h.aD.ag hF hn he
 have i1:=hi e e1
 cases e
 ·exact⟨S,_,i1,fun no wh ln=>hs no wh ln _ e3,h,by show (2:Nat)<=_;omega⟩
 ·exact⟨ScriptState.mk c S.aa S.am S.ak,_,i1,fun no wh ln=>hs no wh ln _ e3,⟨e4 rfl,h.fac,h.aK⟩,by show (2:Nat)<=_;omega⟩
theorem qVb {F:Nat} (hF:1048576<F) {S:ScriptState} (h:SGood F S) {L:bE} (hl:L.length=4):Alike F S (qAb F S (bz [114,117,108,101,115]) L) (fun x=>qAI F x (bz [114,117,108,101,115]) L):=by
 obtain⟨a,b,c,d,rfl⟩:=qY2 hl
 obtain⟨l5,l24⟩:=qNj hF h.aD
 refine qQ0 hF h (Code.mk S.ag.ad S.ag.ar a b c d) h.aD.nc (fun x hx=>hx) _ _ (fun e he=>?_) (fun no wh ln e he=>?_)
 ·unfold qAb
  rw[ndf (by omega) (by omega),oB9,bnd (qSG hF h.aD)]
  show ((qBE F (Code.mk S.ag.ad S.ag.ar a b c d)).bind fun x14=>(qAc S (Code.mk S.ag.ad S.ag.ar a b c d) x14).bind fun x16=>some (x16.1,x16.2))=_
  rw[bnd he,bnd (qOf S _ e)]
 ·show ((qAZ S.aa S.aa.ai).bind fun x1=>(qBa F (cs S no wh ln) (bz [114,117,108,101,115]) [a,b,c,d]).bind fun x7=>some (x7.1,x7.2))=_
  rw[bnd (h.with hF)]
  unfold qBa
  rw[show qFm (cs S no wh ln).ag=some S.ag from qTH hF h.aD]
  show ((((qAR F (cs S no wh ln) (Code.mk S.ag.ad S.ag.ar a b c d) S.aa).bind fun x12=>some (x12.1,x12.2))).bind fun x7=>some (x7.1,x7.2))=_
  rw[bnd (qK8 he)]
  cases e<;>rfl
theorem qU1 {F:Nat} (hF:1048576<F) {S:ScriptState} (h:SGood F S) {L:bE} (hl:L.length=2) (h0:∀n∈L,0<=n):Alike F S (qAb F S (bz [108,105,109,105,116]) L) (fun x=>qAI F x (bz [108,105,109,105,116]) L):=by
 obtain⟨a,b,rfl⟩:=qXt hl
 have ha:=h0 a (by simp)
 obtain⟨l5,l24⟩:=qNj hF h.aD
 have hi0:qAb F S (bz [108,105,109,105,116]) [a,b]=(qFi a).bind fun x20=>cond (!x20) (some (S,(bz [110,111]))) ((qAV S.ag.ar a).bind fun x24=>(qBE F (Code.mk S.ag.ad (S.ag.ar.set a.toNat b) S.ag.aq S.ag.av S.ag.au S.ag.ay)).bind fun x26=>(qAc S (Code.mk S.ag.ad (S.ag.ar.set a.toNat b) S.ag.aq S.ag.av S.ag.au S.ag.ay) x26).bind fun x28=>some (x28.1,x28.2)):=by
  unfold qAb
  rw[ndf (by omega) (by omega),oB9,bnd (qSG hF h.aD)]
  rfl
 have hs0:∀no wh ln,qAI F (cs S no wh ln) (bz [108,105,109,105,116]) [a,b]=(cond (decide (a>=5)) (some (cs S no wh ln,(bz [110,111]))) ((qAV S.ag.ar a).bind fun x18=>(qAR F (cs S no wh ln) (Code.mk S.ag.ad (S.ag.ar.set a.toNat b) S.ag.aq S.ag.av S.ag.au S.ag.ay) S.aa).bind fun x20=>some (x20.1,x20.2))).bind fun x7=>some (x7.1,x7.2):=fun no wh ln=>by
  show ((qAZ S.aa S.aa.ai).bind fun x1=>(qBa F (cs S no wh ln) (bz [108,105,109,105,116]) [a,b]).bind fun x7=>some (x7.1,x7.2))=_
  rw[bnd (h.with hF)]
  unfold qBa
  rw[show qFm (cs S no wh ln).ag=some S.ag from qTH hF h.aD]
  rfl
 unfold qFi at hi0
 obtain⟨f,f1,_,f2⟩:=qFN a 0 4
 rw[f1,oB9,oB9]at hi0
 by_cases h5:a>=5
 ·have:f=false:=by cases f;rfl;have:=f2.1 rfl;omega
  subst this
  refine Alike.stay h _ (by show (2:Nat)<=_;omega) hi0 (fun no wh ln=>?_)
  rw[hs0,dT h5];rfl
 ·have:f=true:=f2.2 (by omega)
  subst this
  obtain⟨n,rfl⟩:=Int.eq_ofNat_of_zero_le ha
  have hg:qAV S.ag.ar (n:Int)=some (S.ag.ar[n]'(by omega)):=by rw[qEm rfl];exact List.getElem?_eq_getElem _
  refine qQ0 hF h (Code.mk S.ag.ad (S.ag.ar.set (n:Int).toNat b) S.ag.aq S.ag.av S.ag.au S.ag.ay) h.aD.nc (fun x hx=>hx) _ _ (fun e he=>?_) (fun no wh ln e he=>?_)
  ·rw[hi0,Bool.not_true,cF,bnd hg,bnd he,bnd (qOf S _ e)]
  ·rw[hs0,dF h5,cF,bnd hg,bnd (qK8 he)]
   cases e<;>rfl
theorem qZ1 (F:Nat) (j:Nat) (hj:j<=9) (g:List bE):∀(n a8:Nat) (v:List bE),v.length+n=3->n<a8->v=List.replicate v.length (List.replicate j (0:Int))->
  qEX (j:Int) g a8 v (v.length:Int)=some (Marks.mk g (List.replicate 3 (List.replicate j (0:Int))))/\qBz (j:Int) g a8 v (v.length:Int)=some (Marks.mk g (List.replicate 3 (List.replicate j (0:Int)))):=by
 intro n
 induction n with
 |zero =>
  intro a8 v h hf hv
  obtain⟨f,rfl⟩:=nZ9 (by omega:a8≠0)
  rw[qEX,qBz,dF (by omega),cF,cF]
  have:v=List.replicate 3 (List.replicate j (0:Int)):=by rw[hv,show v.length=3 by omega]
  rw[this];exact⟨rfl,rfl⟩
 |succ n ih =>
  intro a8 v h hf hv
  obtain⟨f,rfl⟩:=nZ9 (by omega:a8≠0)
  obtain⟨a,b⟩:=ih f (v++[List.replicate j (0:Int)]) (by simp;omega) (by omega) (by
   rw[List.length_append,List.length_singleton,List.replicate_succ',<-hv])
  rw[List.length_append,List.length_singleton]at a b
  rw[qEX,qBz,dT (by omega),cW,cW,dT (by omega),Int.toNat_natCast,qSx (by omega) (by omega),Bool.true_and,qC2,oB9,oB9,ndf (by omega) (by simp;omega),oB9,oB9,qAD (by omega),show (v.length:Int)+1=((v.length+1:Nat):Int) by omega]
  exact⟨a,b⟩
def qM9 (k j:Nat):Marks:=Marks.mk (List.replicate k (List.replicate j (0:Int))) (List.replicate 3 (List.replicate j (0:Int)))
theorem qaI (j:Nat) (hj:j<=9):∀(n a8:Nat) (v:List bE),v.length+n<=1000->n<a8->qEV (j:Int) a8 (n:Int) v=some (v++List.replicate n (List.replicate j (0:Int))):=by
 intro n
 induction n with
 |zero =>
  intro a8 v _ hf
  obtain⟨f,rfl⟩:=nZ9 (by omega:a8≠0)
  rw[qEV,dF (by omega),cF]
  simp
 |succ n ih =>
  intro a8 v h hf
  obtain⟨f,rfl⟩:=nZ9 (by omega:a8≠0)
  rw[qEV,dT (by omega),cW,dT (by omega),Int.toNat_natCast,qSx (by omega) (by omega),Bool.true_and,qC2,oB9,ndf (by omega) (by simp;omega),oB9,qAD (by omega),show ((n+1:Nat):Int)-1=(n:Int) by omega,ih f _ (by simp;omega) (by omega),List.replicate_succ,List.append_assoc]
  rfl
theorem qZl (F:Nat) (k j:Nat) (hk:k<=1000) (hj:j<=9):∀(n a8:Nat) (v:List bE),v.length+n=k->n<a8->qCv (k:Int) (j:Int) F a8 v (v.length:Int)=qBz (j:Int) (v++List.replicate n (List.replicate j (0:Int))) F [] 0:=by
 intro n
 induction n with
 |zero =>
  intro a8 v h hf
  obtain⟨f,rfl⟩:=nZ9 (by omega:a8≠0)
  rw[qCv,dF (by omega),cF]
  simp
 |succ n ih =>
  intro a8 v h hf
  obtain⟨f,rfl⟩:=nZ9 (by omega:a8≠0)
  have:=ih f (v++[List.replicate j (0:Int)]) (by simp;omega) (by omega)
  rw[List.length_append,List.length_singleton,List.append_assoc]at this
  rw[qCv,dT (by omega),cW,dT (by omega),Int.toNat_natCast,qSx (by omega) (by omega),Bool.true_and,qC2,oB9,ndf (by omega) (by simp;omega),oB9,qAD (by omega),show (v.length:Int)+1=((v.length+1:Nat):Int) by omega,this,List.replicate_succ]
  rfl
theorem qVh (F:Nat) (hF:1048576<F) (k:Nat) (hk:k<=1000) (j:Int) (hj:0<=j/\j<=9):qDX F (k:Int) j=some (qM9 k j.toNat)/\qDM F (k:Int) j=some (qM9 k j.toNat):=by
 obtain⟨n,rfl⟩:=Int.eq_ofNat_of_zero_le hj.1
 unfold qDX qDM
 have e:=qZl F k n hk (by omega) k F [] (by simp) (by omega)
 rw[show ((([]:List bE).length:Nat):Int)=0 from rfl]at e
 rw[bnd (qaI n (by omega) k F [] (by simpa using hk) (by omega)),e]
 exact qZ1 F n (by omega) _ 3 F [] rfl (by omega) rfl
theorem qMx (F:Nat) (hF:1048576<F) (k:Nat) (hk:k<=1000) (j:Int) (hj:0<=j/\j<=9):∃m,qDX F (k:Int) j=some m:=⟨_,(qVh F hF k hk j hj).1⟩
theorem qPz (k j:Nat) (hk:k<=14):qHa (qM9 k j)↔3<=j/\j<=9:=by
 constructor
 ·rintro⟨_,_,r,r1,r2,_⟩
  have:r=List.replicate j (0:Int):=(Option.some.inj r1).symm
  rw[this,List.length_replicate]at r2
  exact r2
 ·intro hj
  refine⟨by simp[qM9];exact hk,by simp[qM9],List.replicate j (0:Int),rfl,by simpa using hj,fun l hl=>?_,fun l hl=>?_⟩
  ·obtain rfl:=List.eq_of_mem_replicate hl
   exact⟨rfl,fun x hx=>by rw[List.eq_of_mem_replicate hx];omega⟩
  ·obtain rfl:=List.eq_of_mem_replicate hl
   exact⟨rfl,fun x hx=>by rw[List.eq_of_mem_replicate hx];exact⟨by omega,rfl⟩⟩
theorem SGood.ae {F:Nat} {S:ScriptState} (h:SGood F S) {m:Marks} (hm:qHa m) (hl:m.ah.length=S.aa.ai.length):SGood F (ScriptState.mk S.ag (Performance.mk S.aa.ai m S.aa.af) S.am S.ak) :=
 ⟨⟨h.aD.nc,h.aD.nb,h.aD.cs,h.aD.ci,h.aD.is,h.aD.ii,h.aD.ks,h.aD.ki,hm,hl,h.aD.sg⟩,h.fac,h.aK⟩
theorem qUm {F:Nat} (hF:1048576<F) {S:ScriptState} (h:SGood F S) {L:bE} (hl:L.length=3):Alike F S (qAN F S (bz [103,114,97,100,101]) L) (fun x=>qAI F x (bz [103,114,97,100,101]) L):=by
 obtain⟨a,b,c,rfl⟩:=qPN hl
 obtain⟨r,r1,r2,r3⟩:=qUJ h.aD.mg a b c
 have hi0:qAN F S (bz [103,114,97,100,101]) [a,b,c]=(qGZ S.aa.ae a b c).bind fun x23=>cond x23.2 ((qAw x23.2).bind fun x25=>some ((ScriptState.mk S.ag (Performance.mk S.aa.ai x23.1 S.aa.af) S.am S.ak),x25)) ((qAw x23.2).bind fun x27=>some (S,x27)):=rfl
 have hs0:∀no wh ln,qAI F (cs S no wh ln) (bz [103,114,97,100,101]) [a,b,c]=((qGU S.aa.ae a b c).bind fun x19=>cond (!x19.2) (some (cs S no wh ln,(bz [110,111]))) ((qAR F (cs S no wh ln) S.ag (Performance.mk S.aa.ai x19.1 S.aa.af)).bind fun x21=>some (x21.1,x21.2))).bind fun x7=>some (x7.1,x7.2):=fun no wh ln=>by
  show ((qAZ S.aa S.aa.ai).bind fun x1=>(qAk F (cs S no wh ln) (bz [103,114,97,100,101]) [a,b,c]).bind fun x7=>some (x7.1,x7.2))=_
  rw[bnd (h.with hF)]
  unfold qAk
  rw[show qAZ (cs S no wh ln).p (cs S no wh ln).p.ai=some S.aa from h.with hF,oB9]
  obtain⟨m0,m1⟩:=qMx F hF S.aa.ai.length (by have:=(h.aD.perf hF).2.1.1;omega) 3 (by omega)
  rw[bnd m1]
  rfl
 rw[bnd r2]at hi0
 cases hr:r.2
 ·rw[hr]at hi0
  refine Alike.stay h _ (by show (2:Nat)<=_;omega) hi0 (fun no wh ln=>?_)
  rw[hs0,bnd r1,hr];rfl
 ·rw[hr]at hi0
  obtain⟨g1,g2⟩:=r3 hr
  have hg:=h.ae g1 (by rw[g2];exact h.aD.ln)
  refine⟨_,_,hi0,fun no wh ln=>?_,hg,by show (2:Nat)<=_;omega⟩
  refine(hs0 no wh ln).trans ?_
  rw[bnd r1,hr,Bool.not_true,cF,bnd (qK8 hg.aD.aJ.1)];rfl
theorem qRQ {F:Nat} (hF:1048576<F) {S:ScriptState} (h:SGood F S) {L:bE} (hl:L.length=3):Alike F S (qAN F S (bz [99,111,109,112,111,110,101,110,116]) L) (fun x=>qAI F x (bz [99,111,109,112,111,110,101,110,116]) L):=by
 obtain⟨a,b,c,rfl⟩:=qPN hl
 obtain⟨r,r1,r2,r3⟩:=qQf h.aD.mg a b c
 have hi0:qAN F S (bz [99,111,109,112,111,110,101,110,116]) [a,b,c]=(qEa S.aa.ae a b c).bind fun x23=>cond x23.2 ((qAw x23.2).bind fun x25=>some ((ScriptState.mk S.ag (Performance.mk S.aa.ai x23.1 S.aa.af) S.am S.ak),x25)) ((qAw x23.2).bind fun x27=>some (S,x27)):=rfl
 have hs0:∀no wh ln,qAI F (cs S no wh ln) (bz [99,111,109,112,111,110,101,110,116]) [a,b,c]=((qEc S.aa.ae a b c).bind fun x19=>cond (!x19.2) (some (cs S no wh ln,(bz [110,111]))) ((qAR F (cs S no wh ln) S.ag (Performance.mk S.aa.ai x19.1 S.aa.af)).bind fun x21=>some (x21.1,x21.2))).bind fun x7=>some (x7.1,x7.2):=fun no wh ln=>by
  show ((qAZ S.aa S.aa.ai).bind fun x1=>(qAk F (cs S no wh ln) (bz [99,111,109,112,111,110,101,110,116]) [a,b,c]).bind fun x7=>some (x7.1,x7.2))=_
  rw[bnd (h.with hF)]
  unfold qAk
  rw[show qAZ (cs S no wh ln).p (cs S no wh ln).p.ai=some S.aa from h.with hF,oB9]
  obtain⟨m0,m1⟩:=qMx F hF S.aa.ai.length (by have:=(h.aD.perf hF).2.1.1;omega) 3 (by omega)
  rw[bnd m1]
  rfl
 rw[bnd r2]at hi0
 cases hr:r.2
 ·rw[hr]at hi0
  refine Alike.stay h _ (by show (2:Nat)<=_;omega) hi0 (fun no wh ln=>?_)
  rw[hs0,bnd r1,hr];rfl
 ·rw[hr]at hi0
  obtain⟨g1,g2⟩:=r3 hr
  have hg:=h.ae g1 (by rw[g2];exact h.aD.ln)
  refine⟨_,_,hi0,fun no wh ln=>?_,hg,by show (2:Nat)<=_;omega⟩
  refine(hs0 no wh ln).trans ?_
  rw[bnd r1,hr,Bool.not_true,cF,bnd (qK8 hg.aD.aJ.1)];rfl
theorem qUb {F:Nat} (hF:1048576<F) {S:ScriptState} (h:SGood F S) {L:bE} (hl:L.length=1) (h0:∀n∈L,0<=n):Alike F S (qAN F S (bz [106,117,100,103,101,115]) L) (fun x=>qAI F x (bz [106,117,100,103,101,115]) L):=by
 obtain⟨a,rfl⟩:=qTk hl
 have ha:=h0 a (by simp)
 have h14:=(h.aD.perf hF).2.1.1
 obtain⟨f,f1,_,f2⟩:=qFN a 3 9
 have hs0:∀no wh ln,qAI F (cs S no wh ln) (bz [106,117,100,103,101,115]) [a]=(cond (decide (a>9)) (some (cs S no wh ln,(bz [110,111]))) ((qDX F (S.aa.ai.length:Int) a).bind fun x8=>(qAR F (cs S no wh ln) S.ag (Performance.mk S.aa.ai x8 S.aa.af)).bind fun x21=>some (x21.1,x21.2))).bind fun x7=>some (x7.1,x7.2):=fun no wh ln=>by
  show ((qAZ S.aa S.aa.ai).bind fun x1=>(qAk F (cs S no wh ln) (bz [106,117,100,103,101,115]) [a]).bind fun x7=>some (x7.1,x7.2))=_
  rw[bnd (h.with hF)]
  unfold qAk
  rw[show qAZ (cs S no wh ln).p (cs S no wh ln).p.ai=some S.aa from h.with hF,oB9]
  obtain⟨m0,m1⟩:=qMx F hF S.aa.ai.length (by omega) 3 (by omega)
  rw[bnd m1]
  rfl
 have hi0:qAN F S (bz [106,117,100,103,101,115]) [a]=cond f ((qDM F (S.aa.ai.length:Int) a).bind fun x6=>some ((ScriptState.mk S.ag (Performance.mk S.aa.ai x6 S.aa.af) S.am S.ak),(bz [111,107]))) (some (S,(bz [110,111]))):=by
  unfold qAN
  rw[dT rfl,cW,show qAV [a] 0=some a from rfl,oB9,bnd f1]
  cases f<;>rfl
 by_cases h9:a>9
 ·have:f=false:=by cases f;rfl;have:=f2.1 rfl;omega
  subst this
  refine Alike.stay h _ (by show (2:Nat)<=_;omega) hi0 (fun no wh ln=>?_)
  rw[hs0,dT h9];rfl
 ·obtain⟨z1,z2⟩:=qVh F hF S.aa.ai.length (by omega) a (by omega)
  have hz:=qPz S.aa.ai.length a.toNat h14
  obtain⟨m,m1,m2,m3⟩:=qIQ (qM9 S.aa.ai.length a.toNat)
  obtain⟨q,q1,q2,q3⟩:=qKT S.aa.af
  obtain rfl:=q3.2 h.aD.sg
  have hg:=qKU (F:=F) (p:=Performance.mk S.aa.ai (qM9 S.aa.ai.length a.toNat) S.aa.af) h.aD.cs h.aD.is h.aD.ks m2 q2
  rw[show ((((Performance.mk S.aa.ai (qM9 S.aa.ai.length a.toNat) S.aa.af)).ae.ah.length:Int)==((Performance.mk S.aa.ai (qM9 S.aa.ai.length a.toNat) S.aa.af).ai.length:Int))=true from by simp[qM9]]at hg
  simp only[Bool.and_true,Bool.true_and]at hg
  have hs1:∀no wh ln,qAI F (cs S no wh ln) (bz [106,117,100,103,101,115]) [a]=some (bif m then (CsState.mk S.ag (Performance.mk S.aa.ai (qM9 S.aa.ai.length a.toNat) S.aa.af) S.am S.ak no wh ln,(bz [111,107])) else (cs S no wh ln,(bz [110,111]))):=fun no wh ln=>by
   rw[hs0,dF h9,cF,bnd z1,bnd (qK8 hg)]
   cases m<;>rfl
  rw[bnd z2]at hi0
  have hfm:f=m:=Bool.eq_iff_iff.2 (f2.trans (by rw[m3,hz];omega))
  subst hfm
  cases f
  ·exact Alike.stay h _ (by show (2:Nat)<=_;omega) hi0 hs1
  ·exact⟨_,_,hi0,hs1,h.ae (m3.1 rfl) (by simp[qM9]),by show (2:Nat)<=_;omega⟩
theorem qVw {F:Nat} (hF:1048576<F) {S:ScriptState} (h:SGood F S) {L:bE} (hl:L.length=3):Alike F S (qAH F S (bz [115,108,105,112,115]) L) (fun x=>qAI F x (bz [115,108,105,112,115]) L):=by
 obtain⟨a,b,c,rfl⟩:=qPN hl
 obtain⟨q,q1,q2,q3⟩:=qKT (Slips.mk a b c)
 obtain⟨m,m1,m2,m3⟩:=qIQ S.aa.ae
 obtain rfl:=m3.2 h.aD.mg
 have hg:=qKU (F:=F) (p:=Performance.mk S.aa.ai S.aa.ae (Slips.mk a b c)) h.aD.cs h.aD.is h.aD.ks m2 q2
 rw[show ((((Performance.mk S.aa.ai S.aa.ae (Slips.mk a b c))).ae.ah.length:Int)==((Performance.mk S.aa.ai S.aa.ae (Slips.mk a b c)).ai.length:Int))=true from by show (((S.aa.ae.ah.length:Nat):Int)==((S.aa.ai.length:Nat):Int))=true;rw[h.aD.ln];exact beq_self_eq_true _]at hg
 simp only[Bool.and_true,Bool.true_and]at hg
 have hs1:∀no wh ln,qAI F (cs S no wh ln) (bz [115,108,105,112,115]) [a,b,c]=some (bif q then (CsState.mk S.ag (Performance.mk S.aa.ai S.aa.ae (Slips.mk a b c)) S.am S.ak no wh ln,(bz [111,107])) else (cs S no wh ln,(bz [110,111]))):=fun no wh ln=>by
  show ((qAZ S.aa S.aa.ai).bind fun x1=>(qAR F (cs S no wh ln) S.ag (Performance.mk x1.ai x1.ae (Slips.mk a b c))).bind fun x25=>some (x25.1,x25.2))=_
  rw[bnd (h.with hF),bnd (qK8 hg)]
  cases q<;>rfl
 have hi0:qAH F S (bz [115,108,105,112,115]) [a,b,c]=some (bif q then (ScriptState.mk S.ag (Performance.mk S.aa.ai S.aa.ae (Slips.mk a b c)) S.am S.ak,(bz [111,107])) else (S,(bz [110,111]))):=by
  show ((qEn (Slips.mk a b c)).bind fun x19=>cond (!x19) (some (S,(bz [110,111]))) (some ((ScriptState.mk S.ag (Performance.mk S.aa.ai S.aa.ae (Slips.mk a b c)) S.am S.ak),(bz [111,107]))))=_
  rw[bnd q1]
  cases q<;>rfl
 cases q
 ·exact Alike.stay h _ (by show (2:Nat)<=_;omega) hi0 hs1
 ·exact⟨_,_,hi0,hs1,⟨⟨h.aD.nc,h.aD.nb,h.aD.cs,h.aD.ci,h.aD.is,h.aD.ii,h.aD.ks,h.aD.ki,h.aD.mg,h.aD.ln,q3.1 rfl⟩,h.fac,h.aK⟩,by show (2:Nat)<=_;omega⟩
theorem qUC {F:Nat} (hF:1048576<F) {S:ScriptState} (h:SGood F S) {L:bE} (hl:L.length=1):Alike F S (qAH F S (bz [102,97,99,116,111,114]) L) (fun x=>qAI F x (bz [102,97,99,116,111,114]) L):=by
 obtain⟨a,rfl⟩:=qTk hl
 obtain⟨f,f1,f2,f3⟩:=qFN a 10 400
 have hs1:∀no wh ln,qAI F (cs S no wh ln) (bz [102,97,99,116,111,114]) [a]=some (bif f then (CsState.mk S.ag S.aa a S.ak no wh ln,(bz [111,107])) else (cs S no wh ln,(bz [110,111]))):=fun no wh ln=>by
  show ((qAZ S.aa S.aa.ai).bind fun x1=>(qFS a).bind fun x30=>cond (!x30) (some (cs S no wh ln,(bz [110,111]))) (some ((CsState.mk S.ag S.aa a S.ak no wh ln),(bz [111,107]))))=_
  unfold qFS
  rw[bnd (h.with hF),f2,oB9,oB9]
  cases f<;>rfl
 have hi0:qAH F S (bz [102,97,99,116,111,114]) [a]=some (bif f then (ScriptState.mk S.ag S.aa a S.ak,(bz [111,107])) else (S,(bz [110,111]))):=by
  show ((qFg a).bind fun x24=>cond (!x24) (some (S,(bz [110,111]))) (some ((ScriptState.mk S.ag S.aa a S.ak),(bz [111,107]))))=_
  unfold qFg
  rw[f1,oB9,oB9]
  cases f<;>rfl
 cases f
 ·exact Alike.stay h _ (by show (2:Nat)<=_;omega) hi0 hs1
 ·exact⟨_,_,hi0,hs1,⟨h.aD,f3.1 rfl,h.aK⟩,by show (2:Nat)<=_;omega⟩
end
end Go.Proofs.YtkidpkmpnbibmaaGreatDoor

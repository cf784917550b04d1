/- Plain lemmas: what the functions compute is what the reference says, in plain Lean. No condition. -/
import Derived.Test.YtkidpkmpnbibmaaGreatDoorSrLaw
set_option maxRecDepth 4000
set_option maxHeartbeats 1000000
set_option linter.unusedVariables false
set_option linter.unusedSimpArgs false
set_option linter.unusedSectionVars false
namespace Go.Proofs.YtkidpkmpnbibmaaGreatDoor
open Go.AM
section
theorem nZ9 {n:Nat} (h:n≠0):∃k,n=Nat.succ k:=Nat.exists_eq_succ_of_ne_zero h
theorem oB9 {α β:Type} (a:α) (f:α→Option β):(some a).bind f=f a:=rfl
end
section
theorem qDe (n a b:Int):Ret (qAZ n a b) (a≤n∧n≤b):=Ret.some (by simp)
theorem qBu (n a b:Int):Ret (qAN n a b) (a≤n∧n≤b):=Ret.some (by simp)
theorem qQc (n:Int):Ret (qIt n) (1≤n∧n≤999):=(qBu n 1 999).bind (Q:=fun o=>Ret o _) (fun h=>.t h) (fun h=>.f h)
theorem qTP (l:List Int) (n:Int):Ret (qKl l n) (n∈l):=by
 have key:∀(l:List Int) (k:Nat),Ret (qEd n l k) (n∈l):=by
  intro l
  induction l with
  |nil=>intro k;rw[qEd];exact .f (by simp)
  |cons y l ih =>
   intro k
   rw[qEd]
   refine .condR (fun h=>.t ?_) (fun h=>(ih (k+1)).iff ?_)
   ·have:=eq_of_beq h;simp[this]
   ·have:¬y=n:=by simpa using h
    simp[List.mem_cons,show ¬n=y from fun e=>this e.symm]
 exact key l 0
end
section
theorem qSc (l:List Int) (h:l.length≤1048577):qFE l=some l:=by
 unfold qFE
 rw[bnd (x:=()) (by rw[qGr (by omega)];rfl)]
theorem qO5 (l:List Int) (h:l.length≤1048577):qDK l=some l:=by
 unfold qDK
 rw[bnd (x:=()) (by rw[qGr (by omega)];rfl)]
end
section
theorem qIR (lo hi:Int):∀(l:List Int) (k:Nat),Ret (qCS lo hi l k) (∀n∈l,lo≤n∧n≤hi):=by
 intro l
 induction l with
 |nil=>intro k;rw[qCS];exact .t (by simp)
 |cons y l ih =>
  intro k
  rw[qCS]
  refine(qBu y lo hi).bindR (fun h=>?_) (fun h=>.f fun q=>h (q y (by simp)))
  simp only[Bool.not_true,cF]
  refine(ih (k+1)).iff ⟨fun q n hn=>?_,fun q n hn=>q n (by simp[hn])⟩
  rcases List.mem_cons.1 hn with rfl|hn
  ·exact h
  ·exact q n hn
end
section
def qJU (l:List Int):Prop:=(1≤l.length∧l.length≤9)∧∀x∈l,-1000≤x∧x≤1000
theorem qOR (lo hi:Int):∀(l:List Int) (k:Nat),Ret (qCa lo hi l k) (∀n∈l,lo≤n∧n≤hi):=by
 intro l
 induction l with
 |nil=>intro k;rw[qCa];exact .t (by simp)
 |cons y l ih =>
  intro k
  rw[qCa]
  refine(qDe y lo hi).bindR (fun h=>?_) (fun h=>.f fun k=>h (k y (by simp)))
  simp only[Bool.not_true,cF]
  refine(ih (k+1)).iff ⟨fun q n hn=>?_,fun q n hn=>q n (by simp[hn])⟩
  rcases List.mem_cons.1 hn with rfl|hn
  ·exact h
  ·exact q n hn
def qRJ (l:List Int) (k:Int):Prop:=qJU l∧0≤k∧k<(l.length:Int)
def bd (l:List Int):Prop:=∀x∈l,-1000≤x∧x≤1000
theorem qWL:∀{l:List Int},bd l→-1000*(l.length:Int)≤l.sum∧l.sum≤1000*(l.length:Int):=by
 intro l
 induction l with
 |nil=>intro _;simp
 |cons y l ih =>
  intro h
  have h1:=ih fun x hx=>h x (by simp[hx])
  have h2:=h y (by simp)
  simp only[List.sum_cons,List.length_cons]
  omega
theorem qX5:∀(l:List Int) (k:Nat) (v:Int),bd l→(-1000000≤v-1000*(l.length:Int)∧v+1000*(l.length:Int)≤1000000)→qBA l k v=some (v+l.sum)∧qCg l k v=some (v+l.sum):=by
 intro l
 induction l with
 |nil=>intro k v _ _;rw[qBA,qCg];simp
 |cons y l ih =>
  intro k v h hv
  simp only[List.length_cons]at hv
  have h2:=h y (by simp)
  rw[qBA,qCg,qAD (by omega),List.sum_cons,←Int.add_assoc]
  exact ih (k+1) (v+y) (fun x hx=>h x (by simp[hx])) (by omega)
theorem qW1 {l:List Int} (h:bd l) (hl:l.length≤100):qBE l=some l.sum∧qCv l=some l.sum:=by
 have:=qX5 l 0 0 h (by omega)
 rw[Int.zero_add]at this
 exact this
def mxL (l:List Int):Int:=l.foldr max (-5000)
def mnL (l:List Int):Int:=l.foldr min 5000
theorem qUl:∀(l:List Int) (M:Int),mxL l≤M↔-5000≤M∧∀y∈l,y≤M:=by
 intro l M
 induction l with
 |nil=>simp[mxL]
 |cons y l ih =>
  have e:mxL (y::l)=max y (mxL l):=rfl
  rw[e,Int.max_le,ih]
  simp only[List.mem_cons,forall_eq_or_imp]
  constructor
  ·rintro⟨a,b,c⟩;exact⟨b,a,c⟩
  ·rintro⟨a,b,c⟩;exact⟨b,a,c⟩
theorem qTK:∀(l:List Int) (M:Int),M≤mnL l↔M≤5000∧∀y∈l,M≤y:=by
 intro l M
 induction l with
 |nil=>simp[mnL]
 |cons y l ih =>
  have e:mnL (y::l)=min y (mnL l):=rfl
  rw[e,Int.le_min,ih]
  simp only[List.mem_cons,forall_eq_or_imp]
  constructor
  ·rintro⟨a,b,c⟩;exact⟨b,a,c⟩
  ·rintro⟨a,b,c⟩;exact⟨b,a,c⟩
theorem qXj {l:List Int} {y:Int} (h:y∈l):y≤mxL l:=((qUl l (mxL l)).1 (Int.le_refl _)).2 y h
theorem qXm {l:List Int} {y:Int} (h:y∈l):mnL l≤y:=((qTK l (mnL l)).1 (Int.le_refl _)).2 y h
theorem qVq (x:List Int) (hx:x.length≤1000):∀(ys pre:List Int) (fl:Nat) (m:Int),x=pre++ys→ys.length<fl→-5000≤m→qBJ x fl m (pre.length:Int)=some (max m (mxL ys)):=by
 intro ys
 induction ys with
 |nil =>
  intro pre fl m h hf hm
  obtain⟨f,rfl⟩:=nZ9 (by omega:fl≠0)
  have e:mxL []=-5000:=rfl
  rw[qBJ,dF (by rw[h];simp),cF,e,show max m (-5000)=m from by omega]
 |cons y ys ih =>
  intro pre fl m h hf hm
  obtain⟨f,rfl⟩:=nZ9 (by omega:fl≠0)
  simp only[List.length_cons]at hf
  have hlen:x.length=pre.length+(ys.length+1):=by rw[h];simp
  rw[qBJ,dT (by omega),cW,bnd (qDm h rfl),qAD (by omega)]
  have:=ih (pre++[y]) f (max m y) (by rw[h];simp) (by omega) (by omega)
  rw[show (pre++[y]).length=pre.length+1 from by simp,Int.natCast_add,Int.natCast_one]at this
  have e:mxL (y::ys)=max y (mxL ys):=rfl
  rw[this,e,show max (max m y) (mxL ys)=max m (max y (mxL ys)) from by omega]
theorem qVP (x:List Int) (hx:x.length≤1000):∀(ys pre:List Int) (fl:Nat) (m:Int),x=pre++ys→ys.length<fl→m≤5000→qC8 x fl m (pre.length:Int)=some (min m (mnL ys)):=by
 intro ys
 induction ys with
 |nil =>
  intro pre fl m h hf hm
  obtain⟨f,rfl⟩:=nZ9 (by omega:fl≠0)
  have e:mnL []=5000:=rfl
  rw[qC8,dF (by rw[h];simp),cF,e,show min m 5000=m from by omega]
 |cons y ys ih =>
  intro pre fl m h hf hm
  obtain⟨f,rfl⟩:=nZ9 (by omega:fl≠0)
  simp only[List.length_cons]at hf
  have hlen:x.length=pre.length+(ys.length+1):=by rw[h];simp
  rw[qC8,dT (by omega),cW,bnd (qDm h rfl),qAD (by omega)]
  have:=ih (pre++[y]) f (min m y) (by rw[h];simp) (by omega) (by omega)
  rw[show (pre++[y]).length=pre.length+1 from by simp,Int.natCast_add,Int.natCast_one]at this
  have e:mnL (y::ys)=min y (mnL ys):=rfl
  rw[this,e,show min (min m y) (mnL ys)=min m (min y (mnL ys)) from by omega]
theorem qXB {l:List Int} (h:qJU l) (fl:Nat) (hf:1000<fl):qER fl l=some (mxL l)∧qGp fl l=some (mnL l):=by
 unfold qER qGp
 have h1:=h.1
 have h2:=h.2
 cases l with
 |nil=>simp at h1
 |cons y ys =>
  have hy:=h2 y (by simp)
  simp only[List.length_cons]at h1
  rw[dF (by simp;omega),cF,bnd (show qAV (y::ys) 0=some y from rfl),cF,bnd (show qAV (y::ys) 0=some y from rfl)]
  exact⟨qVq (y::ys) (by simp;omega) ys [y] fl y rfl (by omega) (by omega),qVP (y::ys) (by simp;omega) ys [y] fl y rfl (by omega) (by omega)⟩
theorem qTw (y:Int) (v:List Int) (hv:v.length≤1000) (hs:v.Pairwise (·≥·)):∀(n:Nat) (A B:List Int) (f:Nat),A.length=n→v=A++B→n<f→(∀b∈B,b<y)→
  ∃A' B',v=A'++B'∧qDf y v f (A.length:Int)=some (A'.length:Int)∧(∀b∈B',b<y)∧(∀a∈A',y≤a):=by
 intro n
 induction n with
 |zero =>
  intro A B f hA h hf hB
  obtain⟨f,rfl⟩:=nZ9 (by omega:f≠0)
  obtain rfl:A=[]:=List.eq_nil_of_length_eq_zero hA
  refine⟨[],B,h,?_,hB,by simp⟩
  rw[qDf]
  rfl
 |succ n ih =>
  intro A B f hA h hf hB
  obtain⟨f,rfl⟩:=nZ9 (by omega:f≠0)
  rcases List.eq_nil_or_concat A with h0|⟨A0,a,h0⟩
  ·rw[h0]at hA;simp at hA
  ·rw[List.concat_eq_append]at h0
   subst h0
   have hA0:A0.length=n:=by simp at hA;omega
   have hvl:v.length=n+1+B.length:=by rw[h];simp;omega
   have hg:qAV v (n:Int)=some a:=qDm (pre:=A0) (y:=a) (ys:=B) (by rw[h];simp) (by omega)
   rw[qDf,hA,dT (by omega),qCV,qAD (by omega),show ((n+1:Nat):Int)-1=(n:Int) from by omega,bnd hg,Bool.true_and]
   by_cases hc:a<y
   ·rw[dT hc,cW]
    have:=ih A0 (a::B) f hA0 (by rw[h];simp) (by omega) (fun b hb=>by
     rcases List.mem_cons.1 hb with rfl|hb
     ·exact hc
     ·exact hB b hb)
    rw[hA0]at this
    exact this
   ·rw[dF hc,cF]
    refine⟨A0++[a],B,h,by rw[hA],hB,fun x hx=>?_⟩
    rw[h]at hs
    have hp:=(List.pairwise_append.1 (List.pairwise_append.1 hs).1).2.2
    rcases List.mem_append.1 hx with hx|hx
    ·have:=hp x hx a (by simp);omega
    ·rw[List.mem_singleton.1 hx];omega
theorem qTo (fl:Nat) (hf:2000<fl):∀(ys:List Int) (k:Nat) (acc:List Int),acc.Pairwise (·≥·)→acc.length+ys.length≤900→∃S,qCq fl ys k acc=some S∧S.Perm (acc++ys)∧S.Pairwise (·≥·):=by
 intro ys
 induction ys with
 |nil=>intro k acc h _;exact⟨acc,by rw[qCq],by simp,h⟩
 |cons y ys ih =>
  intro k acc h hl
  simp only[List.length_cons]at hl
  obtain⟨A,B,e1,e2,e3,e4⟩:=qTw y acc (by omega) h acc.length acc [] fl rfl (by simp) (by omega) (by simp)
  have hlen:acc.length=A.length+B.length:=by rw[e1];simp
  have hp:=List.pairwise_append.1 (e1▸h)
  rw[qCq,bnd e2,bnd (show qFj acc (A.length:Int)=some A from by rw[e1];exact qMC A B rfl),qGr (by omega),qD3,oB9,qGr (by simp;omega),qD3,oB9,
   bnd (show qC7 acc (A.length:Int)=some B from by rw[qSm rfl (by omega),e1];simp),qGr (by simp;omega),qD3,oB9]
  obtain⟨S,s1,s2,s3⟩:=ih (k+1) (A++[y]++B) (by
   rw[List.append_assoc]
   refine List.pairwise_append.2 ⟨hp.1,List.pairwise_cons.2 ⟨fun b hb=>by have:=e3 b hb;omega,hp.2.1⟩,fun a ha b hb=>?_⟩
   rcases List.mem_cons.1 hb with rfl|hb
   ·exact e4 a ha
   ·exact hp.2.2 a ha b hb) (by simp;omega)
  refine⟨S,s1,s2.trans ?_,s3⟩
  rw[e1]
  simp only[List.append_assoc]
  refine List.Perm.append_left A ?_
  show ([y]++(B++ys)).Perm (B++([y]++ys))
  rw[←List.append_assoc,←List.append_assoc]
  exact List.Perm.append_right ys List.perm_append_comm
theorem qU0 {l:List Int} (h:qJU l) (fl:Nat) (hf:2000<fl):∃S,qI1 fl l=some S∧S.length=l.length∧qAV S 0=some (mxL l)∧qAV S ((S.length:Int)-1)=some (mnL l)∧∀x∈S,x∈l:=by
 have h1:=h.1
 have h2:=h.2
 obtain⟨S,s1,s2,s3⟩:=qTo fl hf l 0 [] List.Pairwise.nil (by simp;omega)
 rw[List.nil_append]at s2
 refine⟨S,s1,s2.length_eq,?_,?_,fun x hx=>s2.mem_iff.1 hx⟩
 ·cases S with
  |nil=>have:=s2.length_eq;simp at this;omega
  |cons s S =>
   have hs:s∈l:=s2.mem_iff.1 (by simp)
   have hb:=h2 s hs
   have e:mxL l=s:=by
    have a:mxL l≤s:=(qUl l s).2 ⟨by omega,fun y hy=>by
     rcases List.mem_cons.1 (s2.mem_iff.2 hy) with rfl|q
     ·omega
     ·exact(List.pairwise_cons.1 s3).1 y q⟩
    have b:=qXj hs
    omega
   rw[e];rfl
 ·rcases List.eq_nil_or_concat S with h0|⟨S0,t,h0⟩
  ·have:=s2.length_eq;rw[h0]at this;simp at this;omega
  ·rw[List.concat_eq_append]at h0
   have ht:t∈l:=s2.mem_iff.1 (by rw[h0];simp)
   have hb:=h2 t ht
   have e:mnL l=t:=by
    have a:t≤mnL l:=(qTK l t).2 ⟨by omega,fun y hy=>by
     have hy':=s2.mem_iff.2 hy
     rw[h0]at hy' s3
     rcases List.mem_append.1 hy' with q|q
     ·exact(List.pairwise_append.1 s3).2.2 y q t (by simp)
     ·rw[List.mem_singleton.1 q];omega⟩
    have b:=qXm ht
    omega
   rw[e]
   exact qDm (pre:=S0) (y:=t) (ys:=[]) h0 (by rw[h0];simp)
def tS (l:List Int):Int:=if l.length<5 then l.sum else l.sum-mxL l-mnL l
def nS (l:List Int):Int:=if l.length<5 then (l.length:Int) else (l.length:Int)-2
theorem qXu {l:List Int} (h:qJU l):(-1000≤mxL l∧mxL l≤1000)∧(-1000≤mnL l∧mnL l≤1000):=by
 have h1:=h.1
 have h2:=h.2
 cases l with
 |nil=>simp at h1
 |cons y l =>
  have hy:=h2 y (by simp)
  have a:=qXj (l:=y::l) (y:=y) (by simp)
  have b:=qXm (l:=y::l) (y:=y) (by simp)
  have c:mxL (y::l)≤1000:=(qUl _ _).2 ⟨by omega,fun z hz=>(h2 z hz).2⟩
  have d:-1000≤mnL (y::l):=(qTK _ _).2 ⟨by omega,fun z hz=>(h2 z hz).1⟩
  omega
theorem qT8 {l:List Int} (h:qJU l):-20000≤tS l∧tS l≤20000:=by
 have h1:=h.1
 have h2:=qWL h.2
 have h3:=qXu h
 unfold tS
 split<;>omega
theorem qUv {l:List Int} (h:qJU l):1≤nS l∧nS l≤9:=by
 have h1:=h.1
 unfold nS
 split<;>omega
theorem qNX {l:List Int} (h:qJU l) (fl:Nat) (hf:2000<fl):qE8 fl l=some (tS l,nS l)∧qHW fl l=some (tS l,nS l):=by
 have h1:=h.1
 have h2:=qWL h.2
 have h3:=qXu h
 obtain⟨a1,a2⟩:=qW1 h.2 (by omega)
 obtain⟨m1,m2⟩:=qXB h fl (by omega)
 obtain⟨S,s1,s2,s3,s4,_⟩:=qU0 h fl hf
 unfold qE8 qHW tS nS
 by_cases h5:l.length<5
 ·rw[dT (by omega),cW,bnd a1,bnd a2,cW,if_pos h5,if_pos h5]
  exact⟨rfl,rfl⟩
 ·rw[dF (by omega),cF,bnd a1,bnd m1,bnd m2,bnd a2,cF,bnd s1,bnd s3,qAD (n:=(S.length:Int)-1) (by omega),bnd s4,if_neg h5,if_neg h5,qAD (n:=l.sum-mxL l) (by omega),qAD (n:=l.sum-mxL l-mnL l) (by omega),qAD (n:=(l.length:Int)-2) (by omega)]
  exact⟨rfl,rfl⟩
end
section
theorem qVE {l:List Int} {k:Int} (h:qRJ l k):∃pre x post,l=pre++x::post∧(pre.length:Int)=k∧qAV l k=some x∧∀v,l.set k.toNat v=pre++v::post:=by
 have hk:k.toNat<l.length:=by have:=h.2;omega
 have hs:l=l.take k.toNat++l[k.toNat]::l.drop (k.toNat+1):=by rw[List.getElem_cons_drop hk,List.take_append_drop]
 have hp:(l.take k.toNat).length=k.toNat:=by rw[List.length_take];omega
 refine⟨l.take k.toNat,l[k.toNat],l.drop (k.toNat+1),hs,by have:=h.2;omega,?_,fun v=>?_⟩
 ·rw[qEp (k:=k.toNat) (by have:=h.2;omega)];exact List.getElem?_eq_getElem hk
 ·rw[List.set_eq_take_append_cons_drop,if_pos hk]
theorem qSF {l:List Int} {k v:Int} (h:qRJ l k) (hv:-1000≤v∧v≤1000):qJU (l.set k.toNat v)∧nS (l.set k.toNat v)=nS l:=by
 refine⟨⟨by simpa using h.1.1,fun x hx=>?_⟩,by unfold nS;rw[List.length_set]⟩
 rcases List.mem_or_eq_of_mem_set hx with hx|rfl
 ·exact h.1.2 x hx
 ·exact hv
end
section
theorem qPq (lo hi:Int):∀(l:List Int) (k:Nat),Ret (qCa lo hi l k) (∀n∈l,lo≤n∧n≤hi):=by
 intro l
 induction l with
 |nil=>intro k;rw[qCa];exact .t (by simp)
 |cons y l ih =>
  intro k
  rw[qCa]
  refine(qDe y lo hi).bindR (fun h=>?_) (fun h=>.f fun k=>h (k y (by simp)))
  simp only[Bool.not_true,cF]
  refine(ih (k+1)).iff ⟨fun q n hn=>?_,fun q n hn=>q n (by simp[hn])⟩
  rcases List.mem_cons.1 hn with rfl|hn
  ·exact h
  ·exact q n hn
theorem qYG (s:ByteArray) (hs:s.size≤1048576):∀(m v fl:Nat),v+m=s.size→m<fl→∃b,qAs s fl (v:Int)=some b∧qEo s fl (v:Int)=some b:=by
 intro m
 induction m with
 |zero =>
  intro v fl h hf
  obtain⟨f,rfl⟩:=nZ9 (by omega:fl≠0)
  rw[qAs,qEo,dF (by omega),cF,cF]
  obtain⟨b,e1,e2⟩:=qDe (s.size:Int) 1 5
  obtain⟨b',e3,e4⟩:=qBu (s.size:Int) 1 5
  obtain rfl:b=b':=Bool.eq_iff_iff.2 (e2.trans e4.symm)
  rw[bnd e1,bnd e3]
  exact⟨b,rfl,rfl⟩
 |succ m ih =>
  intro v fl h hf
  obtain⟨f,rfl⟩:=nZ9 (by omega:fl≠0)
  have hv:v<s.size:=by omega
  have hi:qNk s (v:Int)=some s[v]:=by unfold qNk;rw[if_pos (by omega)];simp[hv]
  obtain⟨b,b1,b2⟩:=ih (v+1) f (by omega) (by omega)
  rw[show (((v+1:Nat):Int))=(v:Int)+1 from by omega]at b1 b2
  rw[qAs,qEo,dT (by omega),cW,cW,bnd hi,bnd hi]
  unfold qJx
  rw[oB9,qAD (by omega)]
  have hc:((decide ((s[v].toNat:Int)<65)||decide ((s[v].toNat:Int)>90))&&(decide ((s[v].toNat:Int)<48)||decide ((s[v].toNat:Int)>57)))=!((decide ((s[v].toNat:Int)≥65)&&decide ((s[v].toNat:Int)≤90))||(decide ((s[v].toNat:Int)≥48)&&decide ((s[v].toNat:Int)≤57))):=by
   rw[Bool.eq_iff_iff]
   simp only[Bool.and_eq_true,Bool.or_eq_true,decide_eq_true_eq,Bool.not_eq_true',Bool.or_eq_false_iff,Bool.and_eq_false_iff,decide_eq_false_iff_not]
   omega
  rw[hc]
  cases ((decide ((s[v].toNat:Int)≥65)&&decide ((s[v].toNat:Int)≤90))||(decide ((s[v].toNat:Int)≥48)&&decide ((s[v].toNat:Int)≤57)))
  ·exact⟨false,rfl,rfl⟩
  ·exact⟨b,b1,b2⟩
theorem qUu (s:ByteArray) (hs:s.size≤1048576) (fl:Nat) (hf:1048576<fl):∃b,qIZ fl s=some b∧qGE fl s=some b:=by
 obtain⟨b,b1,b2⟩:=qYG s hs s.size 0 fl (by omega) (by omega)
 exact⟨b,by unfold qIZ;rw[show qDj fl s=some b from b1];rfl,b2⟩
def qFl (it:Item):Prop:=(1≤it.names.length∧it.names.length≤3)∧it.marks.length=it.names.length
theorem qWD (it:Item) (fl:Nat) (hf:1048576<fl):∀(ys:List ByteArray) (k:Nat),(∀s∈ys,s.size≤1048576)→∃b,qDs it fl ys k=some b∧qB0 it fl ys k=some b∧(b=true→qFl it):=by
 intro ys
 induction ys with
 |nil =>
  intro k _
  rw[qDs,qB0]
  obtain⟨b,e1,e2⟩:=qDe (it.names.length:Int) 1 3
  obtain⟨b',e3,e4⟩:=qBu (it.names.length:Int) 1 3
  obtain rfl:b=b':=Bool.eq_iff_iff.2 (e2.trans e4.symm)
  rw[bnd e1,bnd e3]
  cases b
  ·exact⟨false,rfl,rfl,by simp⟩
  ·by_cases hl:it.marks.length=it.names.length
   ·rw[show ((it.marks.length:Int)==(it.names.length:Int))=true from by rw[hl];simp]
    simp only[Bool.true_and,qCV]
    obtain⟨c,c1,c2⟩:=qPq 0 3 it.marks 0
    obtain⟨c',c3,c4⟩:=qIR 0 3 it.marks 0
    obtain rfl:c=c':=Bool.eq_iff_iff.2 (c2.trans c4.symm)
    rw[show qCE it.marks 0 3=some c from c3,show qCp it.marks 0 3=some c from c1]
    exact⟨c,rfl,rfl,fun _=>⟨by have:=e2.1 rfl;omega,hl⟩⟩
   ·rw[show ((it.marks.length:Int)==(it.names.length:Int))=false from by simp only[beq_eq_false_iff_ne,ne_eq];omega]
    exact⟨false,rfl,rfl,by simp⟩
 |cons y ys ih =>
  intro k h
  obtain⟨b,b1,b2⟩:=qUu y (h y (by simp)) fl hf
  rw[qDs,qB0,bnd b1,bnd b2]
  cases b
  ·exact⟨false,rfl,rfl,by simp⟩
  ·exact ih (k+1) fun s hs=>h s (by simp[hs])
theorem qWz (l:List Item) (fl:Nat) (hf:1048576<fl):∀(ys:List Item) (k:Nat),(∀it∈ys,∀s∈it.names,s.size≤1048576)→∃b,qCu l fl ys k=some b∧qB6 l fl ys k=some b∧(b=true→l.length≤14∧∀it∈ys,qFl it):=by
 intro ys
 induction ys with
 |nil =>
  intro k _
  rw[qCu,qB6]
  exact⟨_,rfl,rfl,fun h=>⟨by have:=of_decide_eq_true h;omega,by simp⟩⟩
 |cons y ys ih =>
  intro k h
  obtain⟨b,b1,b2,b3⟩:=qWD y fl hf y.names 0 (h y (by simp))
  rw[qCu,qB6,bnd (show qF9 fl y=some b from b1),bnd (show qDl fl y=some b from b2)]
  cases b
  ·exact⟨false,rfl,rfl,by simp⟩
  ·obtain⟨c,c1,c2,c3⟩:=ih (k+1) fun it hi=>h it (by simp[hi])
   refine⟨c,c1,c2,fun hc=>⟨(c3 hc).1,fun it hi=>?_⟩⟩
   rcases List.mem_cons.1 hi with rfl|hi
   ·exact b3 rfl
   ·exact(c3 hc).2 it hi
def qEI (l:List Item):Prop:=l.length≤14∧∀it∈l,qFl it
theorem qNN (l:List Item) (hl:∀it∈l,∀s∈it.names,s.size≤1048576) (fl:Nat) (hf:1048576<fl):∃b,qE0 fl l=some b∧qFM fl l=some b∧(b=true→qEI l):=qWz l fl hf l 0 hl
def qVM (l:List Item):Prop:=∀it∈l,∀s∈it.names,s.size≤1048576
end
section
abbrev toL (s:ByteArray):List UInt8:=s.data.toList
theorem qGI {s t:ByteArray} (h:toL s=toL t):s=t:=ByteArray.ext (Array.ext' h)
theorem qIh:∀{l m:List ByteArray},l.map toL=m.map toL→l=m
 | [],[],_=>rfl
 | [],_::_,h=>by simp at h
 |_::_,[],h=>by simp at h
 |x::l,y::m,h=>by
  rw[List.map_cons,List.map_cons]at h
  rw[qGI (List.cons.inj h).1,qIh (List.cons.inj h).2]
def qJC (c:UInt8):List UInt8→List (List UInt8)
 | []=>[[]]
 |b::l=>if b=c then []::qJC c l else match qJC c l with | []=>[[b]]|h::t=>(b::h)::t
theorem qJ3 (c:UInt8):∀l:List UInt8,(qJC c l).length=l.count c+1
 | []=>rfl
 |b::l=>by
  have ih:=qJ3 c l
  unfold qJC
  by_cases h:b=c
  ·subst h;rw[if_pos rfl,List.length_cons,ih,List.count_cons_self]
  ·rw[if_neg h,List.count_cons_of_ne (by simpa using h)]
   split
   ·rename_i e;rw[e]at ih;simp at ih
   ·rename_i x t e;rw[e]at ih;simpa using ih
theorem qO8 (c:UInt8):∀l:List UInt8,(∀x∈l,x≠c)→qJC c l=[l]
 | [],_=>rfl
 |b::l,h=>by
  unfold qJC
  rw[if_neg (h b (by simp)),qO8 c l fun x hx=>h x (by simp[hx])]
theorem qLI (c:UInt8) (m:List UInt8):∀l:List UInt8,(∀x∈l,x≠c)→qJC c (l++c::m)=l::qJC c m
 | [],_=>by rw[List.nil_append,qJC,if_pos rfl]
 |b::l,h=>by
  rw[List.cons_append,qJC,if_neg (h b (by simp)),qLI c m l fun x hx=>h x (by simp[hx])]
theorem qUm (c:UInt8):∀(n:Nat) (s:List UInt8),s.length≤n→Go.Lib.split s [c]=qJC c s:=by
 intro n
 induction n with
 |zero =>
  intro s h
  obtain rfl:s=[]:=List.length_eq_zero_iff.1 (by omega)
  have h1:Go.Lib.index [] [c]=-1:=by rw[Go.Lib.index_one];rfl
  unfold Go.Lib.split
  rw[Go.Lib.count_miss h1];rfl
 |succ n ih =>
  intro s hs
  have hi:=Go.Lib.index_one s c
  by_cases h:Go.Lib.indexByte s c=-1
  ·unfold Go.Lib.split
   rw[h]at hi
   rw[Go.Lib.count_miss hi]
   rw[qO8 c s fun x hx e=>by
    obtain⟨k,hk⟩:=List.getElem?_of_mem hx
    exact Go.Lib.indexByte_none h k (e▸hk)]
   rfl
  ·have hge:=Go.Lib.indexByte_ge s c
   obtain⟨o,ho⟩:∃o:Nat,Go.Lib.indexByte s c=o:=⟨(Go.Lib.indexByte s c).toNat,by omega⟩
   obtain⟨q1,q2⟩:=Go.Lib.indexByte_some ho
   rw[ho]at hi
   have hlt:o<s.length:=(List.getElem?_eq_some_iff.1 q1).1
   have e:s=s.take o++c::s.drop (o+1):=by
    have:=List.take_append_drop o s
    rw[List.drop_eq_getElem_cons hlt,(List.getElem?_eq_some_iff.1 q1).2]at this
    exact this.symm
   have hr:=ih (s.drop (o+1)) (by rw[List.length_drop];omega)
   have hc:qJC c s=s.take o::qJC c (s.drop (o+1)):=by
    conv=>lhs;rw[e]
    exact qLI c _ _ fun x hx e=>by
     obtain⟨k,hk⟩:=List.getElem?_of_mem hx
     have hk2:=(List.getElem?_eq_some_iff.1 hk).1
     rw[List.length_take]at hk2
     rw[List.getElem?_take,if_pos (by omega)]at hk
     exact q2 k (by omega) (e▸hk)
   rw[hc,←hr]
   unfold Go.Lib.split
   rw[Go.Lib.count_hit (by simp) hi,Nat.add_comm,Go.Lib.splitK,if_neg (by rw[hi];simp),hi]
   simp
theorem qNR (s:ByteArray) (c:UInt8):(qH2 s ⟨#[c]⟩).map toL=qJC c (toL s):=by
 have:=Go.Lib.splitB_data ⟨#[c]⟩ 0 (Go.Lib.countB s ⟨#[c]⟩) s
 exact this.trans (qUm c (toL s).length (toL s) (Nat.le_refl _))
theorem qXF (s:ByteArray) (i:Nat):s[i]?=(toL s)[i]?:=by
 by_cases h:i<s.size
 ·rw[ByteArray.getElem?_lt' s i h,List.getElem?_eq_getElem (by rw[←Go.Lib.size_eq];exact h)]
  rfl
 ·rw[ByteArray.getElem?_ge' s i h,List.getElem?_eq_none (by rw[←Go.Lib.size_eq];omega)]
theorem qME {s:ByteArray} {i:Int} {k:Nat} (h:i=(k:Int)):qNk s i=(toL s)[k]?:=by
 subst h;unfold qNk;rw[if_pos (by omega),Int.toNat_natCast,qXF]
theorem qUa (s:ByteArray) (hn:s.size≤4194304) (c:UInt8):∀(m k i fr:Nat) (out:List ByteArray),i+m=s.size→m<k→fr≤i→(∀x∈((toL s).drop fr).take (i-fr),x≠c)→out.length+m≤4194304→
  ∃r,qDV s ((c.toNat:Nat):Int) k out (fr:Int) (i:Int)=some (out++r)∧r.map toL=qJC c ((toL s).drop fr):=by
 have hsz:=Go.Lib.size_eq s
 intro m
 induction m with
 |zero =>
  intro k i fr out h1 h2 h3 h4 h5
  obtain⟨k,rfl⟩:=nZ9 (by omega:k≠0)
  rw[qDV,dF (by omega),cF,show inB (fr:Int) s.size s.size=true from by unfold inB;simp;omega,qD3,oB9,qGr (by simp;omega),qD3,oB9]
  refine⟨_,rfl,?_⟩
  rw[qO8 c _ fun x hx=>h4 x (by rw[List.take_of_length_le (by rw[List.length_drop,←hsz];omega)];exact hx)]
  simp only[List.map_cons,List.map_nil,Int.toNat_natCast]
  exact congrArg (fun x=>[x]) (Go.Lib.extract_to_end s fr)
 |succ m ih =>
  intro k i fr out h1 h2 h3 h4 h5
  obtain⟨k,rfl⟩:=nZ9 (by omega:k≠0)
  have hlt:i<(toL s).length:=by rw[←hsz];omega
  rw[qDV,dT (by omega),cW,qME rfl,List.getElem?_eq_getElem hlt,oB9,qAD (by omega)]
  by_cases hx:(toL s)[i]=c
  ·rw[hx,show ((c.toNat:Int)==((c.toNat:Nat):Int))=true from beq_self_eq_true _,cW,show inB (fr:Int) (i:Int) s.size=true from by unfold inB;simp;omega,qD3,oB9,qGr (by simp;omega),qD3,oB9]
   obtain⟨r,r1,r2⟩:=ih k (i+1) (i+1) (out++[ByteArray.extract s (fr:Int).toNat (i:Int).toNat]) (by omega) (by omega) (Nat.le_refl _) (by simp) (by simp;omega)
   refine⟨ByteArray.extract s fr i::r,?_,?_⟩
   ·rw[show ((i:Int)+1)=((i+1:Nat):Int) from by omega,r1];simp
   ·have hp:toL (ByteArray.extract s fr i)=((toL s).drop fr).take (i-fr):=Go.Lib.extract_data s fr i
    rw[List.map_cons,r2,hp]
    have e:(toL s).drop fr=((toL s).drop fr).take (i-fr)++c::(toL s).drop (i+1):=by
     have:=List.take_append_drop (i-fr) ((toL s).drop fr)
     rw[List.drop_drop,show fr+(i-fr)=i from by omega,List.drop_eq_getElem_cons hlt,hx]at this
     exact this.symm
    conv=>rhs;rw[e]
    rw[qLI c _ _ h4]
  ·rw[show (((toL s)[i].toNat:Int)==((c.toNat:Nat):Int))=false from by
    rw[beq_eq_false_iff_ne];intro e;exact hx (UInt8.toNat_inj.1 (by omega)),cF,show ((i:Int)+1)=((i+1:Nat):Int) from by omega]
   refine ih k (i+1) fr out (by omega) (by omega) (by omega) (fun x hxm=>?_) (by omega)
   rw[show i+1-fr=(i-fr)+1 from by omega,List.take_add_one,List.mem_append]at hxm
   rcases hxm with hxm|hxm
   ·exact h4 x hxm
   ·rw[List.getElem?_drop,show fr+(i-fr)=i from by omega,List.getElem?_eq_getElem hlt]at hxm
    simp at hxm
    rw[hxm];exact hx
theorem qNb (s:ByteArray) (hn:s.size≤4194304) (c:UInt8) (fl:Nat) (hf:4194304<fl):∃r,qA1 fl s ((c.toNat:Nat):Int)=some r∧r.map toL=qJC c (toL s):=by
 obtain⟨r,r1,r2⟩:=qUa s hn c s.size fl 0 0 [] (by omega) (by omega) (Nat.le_refl _) (by simp) (by simp;omega)
 exact⟨r,r1,r2⟩
end
section
def qQK (n:Nat):List UInt8:=if n<10 then [UInt8.ofNat (48+n)] else qQK (n/10)++[UInt8.ofNat (48+n%10)]
termination_by n
decreasing_by omega
def qMO (l:List UInt8):Nat:=l.foldl (fun v b=>10*v+(b.toNat-48)) 0
def qVL (l:List UInt8):Prop:=∀b∈l,48≤b.toNat∧b.toNat≤57
def qRI (l:List UInt8):Prop:=l≠[]∧qVL l∧(1<l.length→l.head?≠some 48)
theorem qX4 {n:Nat} (h:n<10):(UInt8.ofNat (48+n)).toNat=48+n:=by
 rw[UInt8.toNat_ofNat'];omega
theorem qQS (l:List UInt8) (b:UInt8):qMO (l++[b])=10*qMO l+(b.toNat-48):=by
 unfold qMO;rw[List.foldl_append];rfl
theorem qYR (n:Nat):qQK n≠[]:=by
 rw[qQK];split<;>simp
theorem qW6 {l:List UInt8} (h:qRI l) (h1:1<l.length):0<qMO l:=by
 obtain⟨_,hd,hh⟩:=h
 cases l with
 |nil=>simp at h1
 |cons b l =>
  have hb:=hd b (by simp)
  have hb2:b.toNat≠48:=fun e=>hh h1 (by simp;exact UInt8.toNat_inj.1 e)
  have key:∀(m:List UInt8) (v:Nat),0<v→0<m.foldl (fun v b=>10*v+(b.toNat-48)) v:=by
   intro m
   induction m with
   |nil=>intro v hv;exact hv
   |cons c m ih=>intro v hv;exact ih (10*v+(c.toNat-48)) (by omega)
  exact key l (10*0+(b.toNat-48)) (by omega)
theorem qUd:∀(n:Nat) (l:List UInt8),l.length=n→qRI l→qQK (qMO l)=l:=by
 intro n
 induction n with
 |zero=>intro l hl h;exact absurd (List.eq_nil_of_length_eq_zero hl) h.1
 |succ n ih =>
  intro l hl h
  rcases List.eq_nil_or_concat l with rfl|⟨m,b,rfl⟩
  ·simp at hl
  simp only[List.concat_eq_append]at *
  have hb:=h.2.1 b (by simp)
  have hlt:b.toNat<256:=b.toNat_lt
  rw[qQS]
  have hbo:UInt8.ofNat (48+(b.toNat-48))=b:=by
   apply UInt8.toNat_inj.1
   rw[qX4 (by omega)];omega
  cases hm:m with
  |nil =>
   show qQK (10*0+(b.toNat-48))=[b]
   rw[Nat.mul_zero,Nat.zero_add,qQK,if_pos (by omega),hbo]
  |cons c m' =>
   have hcm:qRI m:=by
    refine⟨by rw[hm];simp,fun x hx=>h.2.1 x (by simp[hx]),fun h1=>?_⟩
    have:=h.2.2 (by simp;omega)
    rw[hm]at this⊢
    simpa using this
   have hpos:0<qMO m:=by
    by_cases h1:1<m.length
    ·exact qW6 hcm h1
    ·have hm':m'=[]:=by rw[hm]at h1;simp at h1;exact h1
     subst hm'
     have hh:=h.2.2 (by rw[hm];simp)
     rw[hm]at hh⊢
     have hc:=h.2.1 c (by rw[hm];simp)
     have:c.toNat≠48:=fun e=>hh (by simp;exact UInt8.toNat_inj.1 e)
     show 0<10*0+(c.toNat-48)
     omega
   have e:=ih m (by simp at hl;omega) hcm
   rw[←hm,qQK,if_neg (by omega),show (10*qMO m+(b.toNat-48))/10=qMO m from by omega,show (10*qMO m+(b.toNat-48))%10=b.toNat-48 from by omega,e,hbo]
def qNz (c:UInt8):List (List UInt8)→List UInt8
 | []=>[]
 | [x]=>x
 |x::y::l=>x++c::qNz c (y::l)
theorem qOW (c:UInt8) (l:List UInt8):qJC c l≠[]:=by
 intro h
 have:=qJ3 c l
 rw[h]at this;simp at this
theorem qLJ (c:UInt8):∀l:List UInt8,qNz c (qJC c l)=l
 | []=>rfl
 |b::l=>by
  have ih:=qLJ c l
  rw[qJC]
  by_cases h:b=c
  ·rw[if_pos h]
   cases hq:qJC c l with
   |nil=>exact absurd hq (qOW c l)
   |cons x t =>
    rw[hq]at ih
    show []++c::qNz c (x::t)=b::l
    rw[ih,h];rfl
  ·rw[if_neg h]
   cases hq:qJC c l with
   |nil=>exact absurd hq (qOW c l)
   |cons x t =>
    rw[hq]at ih
    show qNz c ((b::x)::t)=b::l
    rw[←ih]
    cases t<;>rfl
def qYo (m:Int):List UInt8:=if m=0 then [110,111,110,101] else if m=1 then [100,111,119,110] else if m=2 then [101,100,103,101] else [118,111,105,100]
end
section
theorem qVQ {b:UInt8} (h:48≤b.toNat∧b.toNat≤57):IntKind.wrap .i64 (IntKind.wrap .u8 ((b.toNat:Int)-48))=((b.toNat-48:Nat):Int):=by
 have:b.toNat=48∨b.toNat=49∨b.toNat=50∨b.toNat=51∨b.toNat=52∨b.toNat=53∨b.toNat=54∨b.toNat=55∨b.toNat=56∨b.toNat=57:=by omega
 rcases this with h|h|h|h|h|h|h|h|h|h<;>rw[h]<;>decide
theorem qSJ:∀(n:Nat) (l:List UInt8),l.length=n→qVL l→qMO l<10 ^ n:=by
 intro n
 induction n with
 |zero=>intro l hl _;rw[List.eq_nil_of_length_eq_zero hl];decide
 |succ n ih =>
  intro l hl hd
  rcases List.eq_nil_or_concat l with rfl|⟨m,b,rfl⟩
  ·simp at hl
  simp only[List.concat_eq_append]at *
  rw[qQS]
  have h1:=ih m (by simp at hl;omega) fun x hx=>hd x (by simp[hx])
  have h2:=hd b (by simp)
  rw[Nat.pow_succ]
  omega
theorem qWU (s:ByteArray) (hs:s.size≤12):∀(m k i:Nat) (v:Int),i+m=s.size→m<k→v=(qMO ((toL s).take i):Int)→qVL ((toL s).take i)→
  (qVL (toL s)→qDY s k v i=some ((qMO (toL s):Int),true)∧qDz s k v i=some (qMO (toL s):Int))∧
  (¬qVL (toL s)→qDY s k v i=some (0,false)∧qDz s k v i=some (-1)):=by
 have hsz:s.size=(toL s).length:=Go.Lib.size_eq s
 intro m
 induction m with
 |zero =>
  intro k i v h1 h2 hv hd
  obtain⟨k,rfl⟩:=nZ9 (by omega:k≠0)
  have hall:(toL s).take i=toL s:=List.take_of_length_le (by rw[←hsz];omega)
  rw[hall]at hv hd
  rw[qDY,qDz,dF (by omega),cF,cF,hv]
  exact⟨fun _=>⟨rfl,rfl⟩,fun h=>absurd hd h⟩
 |succ m ih =>
  intro k i v h1 h2 hv hd
  obtain⟨k,rfl⟩:=nZ9 (by omega:k≠0)
  have hlt:i<(toL s).length:=by rw[←hsz];omega
  rw[qDY,qDz,dT (by omega),cW,cW,qME rfl,List.getElem?_eq_getElem hlt,oB9,oB9]
  by_cases hb:48≤(toL s)[i].toNat∧(toL s)[i].toNat≤57
  ·rw[dF (by omega),dF (by omega),Bool.or_false,cF,cF,qVQ hb]
   have hvl:=qSJ i ((toL s).take i) (by rw[List.length_take];omega) hd
   have hp:10 ^ i≤10 ^ 12:=Nat.pow_le_pow_right (by omega) (by omega)
   have ht:(toL s).take (i+1)=(toL s).take i++[(toL s)[i]]:=by rw[List.take_add_one,List.getElem?_eq_getElem hlt];rfl
   have e1:w64 (10*v)=10*v:=qAD (by rw[hv];omega)
   rw[e1,qAD (by rw[hv];omega),qAD (by omega),show ((i:Int)+1)=((i+1:Nat):Int) from by omega]
   refine ih k (i+1) _ (by omega) (by omega) ?_ ?_
   ·rw[ht,qQS,hv];omega
   ·rw[ht]
    intro x hx
    rcases List.mem_append.1 hx with hx|hx
    ·exact hd x hx
    ·rw[List.mem_singleton.1 hx];exact hb
  ·have hno:¬qVL (toL s):=fun h=>hb (h _ (List.getElem_mem hlt))
   have e:(decide (((toL s)[i].toNat:Int)<48)||decide (((toL s)[i].toNat:Int)>57))=true:=by
    rw[Bool.or_eq_true,decide_eq_true_iff,decide_eq_true_iff];omega
   rw[e,cW,cW]
   exact⟨fun h=>absurd h hno,fun _=>⟨rfl,rfl⟩⟩
theorem qQB (s:ByteArray):s=⟨#[]⟩↔toL s=[]:=⟨fun h=>by rw[h],fun h=>qGI h⟩
theorem qNC (s:ByteArray) (hs:s.size≤1048576) (F:Nat) (hF:12<F):∃r,qGW F s=some r∧(r.2=true↔qRI (toL s)∧(toL s).length≤12)∧(r.2=true→r.1=(qMO (toL s):Int)):=by
 have hsz:s.size=(toL s).length:=Go.Lib.size_eq s
 unfold qGW
 by_cases h0:s=⟨#[]⟩
 ·rw[dT h0]
  simp only[Bool.true_or,Bool.not_true,Bool.false_and,qDa,oB9,cW]
  exact⟨_,rfl,⟨fun h=>by simp at h,fun h=>absurd ((qQB s).1 h0) h.1.1⟩,fun h=>by simp at h⟩
 have hne:toL s≠[]:=fun h=>h0 ((qQB s).2 h)
 rw[dF h0,Bool.false_or]
 by_cases h12:(s.size:Int)>12
 ·rw[dT h12]
  simp only[Bool.true_or,Bool.not_true,Bool.false_and,qDa,oB9,cW]
  exact⟨_,rfl,⟨fun h=>by simp at h,fun h=>absurd h.2 (by rw[←hsz];omega)⟩,fun h=>by simp at h⟩
 rw[dF h12]
 simp only[Bool.not_false,Bool.true_and,Bool.false_or]
 have hpos:0<(toL s).length:=List.length_pos_iff.2 hne
 have hl:=qWU s (by omega) s.size F 0 0 (by omega) (by omega) (by rfl) (by intro x hx;simp at hx)
 by_cases h1:(s.size:Int)>1
 ·rw[dT h1,qCV,qME (i:=0) (k:=0) rfl,List.getElem?_eq_getElem hpos,oB9,Bool.true_and]
  have hhd:(toL s).head?=some (toL s)[0]:=by rw[List.head?_eq_getElem?,List.getElem?_eq_getElem hpos]
  by_cases h48:(toL s)[0]=48
  ·rw[h48,show (((48:UInt8).toNat:Int)==48)=true from rfl,cW]
   exact⟨_,rfl,⟨fun h=>by simp at h,fun h=>absurd (by rw[hhd,h48]) (h.1.2.2 (by rw[←hsz];omega))⟩,fun h=>by simp at h⟩
  ·rw[show (((toL s)[0].toNat:Int)==48)=false from by rw[beq_eq_false_iff_ne];intro e;exact h48 (UInt8.toNat_inj.1 (by show _=48;omega)),cF]
   by_cases hd:qVL (toL s)
   ·exact⟨_,(hl.1 hd).1,⟨fun _=>⟨⟨hne,hd,fun _ h=>h48 (by rw[hhd]at h;exact Option.some.inj h)⟩,by rw[←hsz];omega⟩,fun _=>rfl⟩,fun _=>rfl⟩
   ·exact⟨_,(hl.2 hd).1,⟨fun h=>by simp at h,fun h=>absurd h.1.2.1 hd⟩,fun h=>by simp at h⟩
 ·rw[dF h1,qDa,oB9,Bool.false_and,cF]
  by_cases hd:qVL (toL s)
  ·exact⟨_,(hl.1 hd).1,⟨fun _=>⟨⟨hne,hd,fun h=>by rw[←hsz]at h;omega⟩,by rw[←hsz];omega⟩,fun _=>rfl⟩,fun _=>rfl⟩
  ·exact⟨_,(hl.2 hd).1,⟨fun h=>by simp at h,fun h=>absurd h.1.2.1 hd⟩,fun h=>by simp at h⟩
end
section
theorem qT9 (c:UInt8) (m:List UInt8):∀l:List UInt8,qJC c (l++c::m)=qJC c l++qJC c m
 | []=>qLI c m [] (fun _ h=>by cases h)
 |b::l=>by
  have ih:=qT9 c m l
  rw[List.cons_append,qJC,ih]
  conv=>rhs;rw[qJC]
  by_cases h:b=c
  ·rw[if_pos h,if_pos h,List.cons_append]
  ·rw[if_neg h,if_neg h]
   cases h2:qJC c l with
   |nil=>have:=qJ3 c l;rw[h2]at this;simp at this
   |cons x t=>rfl
theorem qMS (c:UInt8):∀(l x:List UInt8),x∈qJC c l→x.length≤l.length
 | [],x,h=>by rw[qJC]at h;rw[List.mem_singleton.1 h];exact Nat.le_refl _
 |b::l,x,h=>by
  rw[qJC]at h
  by_cases e:b=c
  ·rw[if_pos e]at h
   rcases List.mem_cons.1 h with rfl|h
   ·exact Nat.zero_le _
   ·exact Nat.le_succ_of_le (qMS c l x h)
  ·rw[if_neg e]at h
   cases hq:qJC c l with
   |nil=>exact absurd hq (qOW c l)
   |cons z t =>
    rw[hq]at h
    rcases List.mem_cons.1 h with rfl|h
    ·exact Nat.succ_le_succ (qMS c l z (by rw[hq];simp))
    ·exact Nat.le_succ_of_le (qMS c l x (by rw[hq];simp[h]))
theorem qQD:∀(k n:Nat),n<10 ^ (k+1)→(qQK n).length≤k+1:=by
 intro k
 induction k with
 |zero=>intro n h;rw[qQK,if_pos (by omega)];exact Nat.le_refl _
 |succ k ih =>
  intro n h
  rw[qQK]
  split
  ·simp
  ·rw[List.length_append]
   have:=ih (n/10) (by rw[Nat.pow_succ]at h;omega)
   simp;omega
def qNI:List ByteArray:=[(⟨#[110,111,110,101]⟩:ByteArray),(⟨#[100,111,119,110]⟩:ByteArray),(⟨#[101,100,103,101]⟩:ByteArray),(⟨#[118,111,105,100]⟩:ByteArray)]
end
section
theorem qQn (c:UInt8) (z:List UInt8):∀m:List (List UInt8),m≠[]→qNz c (m++[z])=qNz c m++c::z
 | [],h=>absurd rfl h
 | [x],_=>rfl
 |x::y::m,_=>by
  show x++c::qNz c (y::m++[z])=(x++c::qNz c (y::m))++c::z
  rw[qQn c z (y::m) (by simp)];simp
theorem qW5 (c:UInt8) {l:List UInt8} {m:List (List UInt8)} (h:qJC c l=m++[[]]):l=[]∨∃l',l=l'++[c]:=by
 have h1:=qLJ c l
 rw[h]at h1
 by_cases hm:m=[]
 ·subst hm;exact .inl h1.symm
 ·rw[qQn c [] m hm]at h1;exact .inr ⟨_,h1.symm⟩
theorem qSi (s:ByteArray) (hs:s.size≤1048576):∃x,qGa s=some x∧((x.2=true∧qJC 10 (toL s)=x.1.map toL++[[]])∨(x.2=false∧∀m,qJC 10 (toL s)≠m++[[]])):=by
 have hsz:s.size=(toL s).length:=Go.Lib.size_eq s
 unfold qGa
 by_cases he:s=⟨#[]⟩
 ·rw[dT he,cW]
  exact⟨_,rfl,.inl ⟨rfl,by rw[(qQB s).1 he];rfl⟩⟩
 have hne:toL s≠[]:=fun h=>he ((qQB s).2 h)
 have hpos:=List.length_pos_iff.2 hne
 have hlt:s.size-1<(toL s).length:=by omega
 have hlast:qNk s (w64 ((s.size:Int)-1))=some (toL s)[s.size-1]:=by
  rw[qAD (by omega),qME (k:=s.size-1) (by omega),List.getElem?_eq_getElem hlt]
 rw[dF he,cF,bnd hlast]
 generalize hb:(toL s)[s.size-1]=b
 have hL:toL s=(toL s).take (s.size-1)++[b]:=by
  have:=List.take_append_drop (s.size-1) (toL s)
  rw[List.drop_eq_getElem_cons hlt,hb,List.drop_of_length_le (by omega)]at this
  exact this.symm
 by_cases h10:b=10
 ·subst h10
  rw[show (((10:UInt8).toNat:Int) != 10)=false from rfl,cF]
  have hin:inB 0 (w64 ((s.size:Int)-1)) s.size=true:=by rw[qAD (by omega)];unfold inB;simp;omega
  have htn:(w64 ((s.size:Int)-1)).toNat=s.size-1:=by rw[qAD (by omega)];omega
  rw[hin,qD3,oB9,htn]
  unfold qB2
  have hes:(s.extract 0 (s.size-1)).size≤s.size:=by rw[Go.Lib.size_eq,Go.Lib.extract_data,List.length_take,List.length_drop,←hsz];omega
  rw[show (Nat.blt (s.extract 0 (s.size-1)).size 4294967281&&Nat.blt 0 (⟨#[10]⟩:ByteArray).size)=true from by
   rw[Bool.and_eq_true,Nat.blt_eq];exact⟨by omega,rfl⟩,qD3,oB9,oB9]
  have hsp:=qNR (s.extract 0 (s.size-1)) 10
  rw[show toL (s.extract 0 (s.size-1))=(toL s).take (s.size-1) from by rw[show toL (s.extract 0 (s.size-1))=_ from Go.Lib.extract_data s 0 (s.size-1)];rw[List.drop_zero,Nat.sub_zero]]at hsp
  refine⟨_,rfl,.inl ⟨rfl,?_⟩⟩
  show _=(qH2 (s.extract 0 (s.size-1)) ⟨#[10]⟩).map toL++[[]]
  rw[hsp,hL,qT9]
  simp only[List.take_left',List.length_take,←hsz,show min (s.size-1) s.size=s.size-1 from by omega]
  rfl
 ·rw[show ((b.toNat:Int) != 10)=true from by rw[bne_iff_ne];intro e;exact h10 (UInt8.toNat_inj.1 (by show b.toNat=10;omega)),cW]
  refine⟨_,rfl,.inr ⟨rfl,fun m hm=>?_⟩⟩
  rcases qW5 10 hm with h|⟨l',h⟩
  ·exact hne h
  ·rw[hL]at h
   exact h10 (List.cons.inj (List.append_inj' h rfl).2).1
end
section
theorem qIl (a b:ByteArray):toL (a++b)=toL a++toL b:=by
 show (a++b).data.toList=_
 rw[ByteArray.data_append,Array.toList_append]
theorem nd {a b:Nat} (h:a+b≤1000000):qAz (Nat.ble (a+b) qEO)=some ():=by
 rw[show Nat.ble (a+b) qEO=true from by rw[Nat.ble_eq];unfold qEO;omega];rfl
theorem qYO (F:Nat):∀(k rf n:Nat),n<10 ^ (k+1)→k<12→k<rf→∃t,qBe F rf (n:Int)=some t∧toL t=qQK n:=by
 intro k
 induction k with
 |zero =>
  intro rf n h _ hr
  obtain⟨rf,rfl⟩:=nZ9 (by omega:rf≠0)
  rw[qBe,dT (by omega),cW,qQK,if_pos (by omega),qAD (by omega)]
  refine⟨_,rfl,?_⟩
  have:n=0∨n=1∨n=2∨n=3∨n=4∨n=5∨n=6∨n=7∨n=8∨n=9:=by omega
  rcases this with rfl|rfl|rfl|rfl|rfl|rfl|rfl|rfl|rfl|rfl<;>rfl
 |succ k ih =>
  intro rf n h hk hr
  obtain⟨rf,rfl⟩:=nZ9 (by omega:rf≠0)
  have hdig:∀d:Nat,d<10→toL (strOfNums [IntKind.wrap .u8 (w64 (48+(d:Int)))])=[UInt8.ofNat (48+d)]:=by
   intro d hd
   rw[qAD (by omega)]
   have:d=0∨d=1∨d=2∨d=3∨d=4∨d=5∨d=6∨d=7∨d=8∨d=9:=by omega
   rcases this with rfl|rfl|rfl|rfl|rfl|rfl|rfl|rfl|rfl|rfl<;>rfl
  rw[qBe,qQK]
  by_cases h10:n<10
  ·rw[dT (by omega),cW,if_pos h10]
   exact⟨_,rfl,hdig n h10⟩
  ·rw[dF (by omega),cF,if_neg h10,show qAz (10 != 0)=some () from rfl,oB9]
   have hp:10 ^ (k+1+1)≤10 ^ 13:=Nat.pow_le_pow_right (by omega) (by omega)
   have e1:((n:Int)).tdiv 10=((n/10:Nat):Int):=by rw[Int.tdiv_eq_ediv_of_nonneg (by omega)];omega
   have e2:((n:Int)).tmod 10=((n%10:Nat):Int):=by rw[Int.tmod_eq_emod_of_nonneg (by omega)];omega
   rw[e1,e2,qAD (n:=((n/10:Nat):Int)) (by omega)]
   obtain⟨t,t1,t2⟩:=ih rf (n/10) (by rw[Nat.pow_succ]at h;omega) (by omega) (by omega)
   have hts:t.size≤k+1:=by
    rw[show t.size=(toL t).length from Go.Lib.size_eq t,t2]
    exact qQD k _ (by rw[Nat.pow_succ]at h;omega)
   rw[bnd t1,show (strOfNums [IntKind.wrap .u8 (w64 (48+((n%10:Nat):Int)))]).size=1 from rfl,nd (by omega),oB9]
   exact⟨_,rfl,by rw[qIl,t2,hdig _ (Nat.mod_lt _ (by omega))]⟩
theorem qX7 (m:Int) (h:0≤m∧m≤3):∃w,qAV qNI m=some w∧toL w=qYo m∧w.size=4:=by
 have:m=0∨m=1∨m=2∨m=3:=by omega
 rcases this with rfl|rfl|rfl|rfl<;>exact⟨_,rfl,rfl,rfl⟩
end
section
def qV9 (xs:List ByteArray):Nat:=(xs.map fun x=>x.size).sum
theorem qLB (x:ByteArray) (xs:List ByteArray):qV9 (x::xs)=x.size+qV9 xs:=rfl
def qTF (sep:List UInt8) (ys:List ByteArray):List UInt8:=(ys.map fun y=>sep++toL y).flatten
theorem qOs (sep:List UInt8) (y:ByteArray) (ys:List ByteArray):qTF sep (y::ys)=(sep++toL y)++qTF sep ys:=rfl
theorem qQy (a b:ByteArray):toL (a++b)=toL a++toL b:=by
 show (a++b).data.toList=_
 rw[ByteArray.data_append,Array.toList_append]
theorem qYq {n:Nat} (h:n≤1000000000):qAz (Nat.ble n 140737488355328)=some ():=by
 rw[show Nat.ble n 140737488355328=true from by rw[Nat.ble_eq];omega];rfl
theorem qWg (sep:ByteArray):∀(ys:List ByteArray) (k:Nat) (acc:ByteArray),acc.size+qV9 ys+sep.size*ys.length≤1000000000→
  (∃r,qDW sep ys k acc=some r∧toL r=toL acc++qTF (toL sep) ys)∧(∃r,qDP sep ys k acc=some r∧toL r=toL acc++qTF (toL sep) ys):=by
 intro ys
 induction ys with
 |nil =>
  intro k acc _
  rw[qDW,qDP]
  exact⟨⟨_,rfl,by unfold qTF;simp⟩,⟨_,rfl,by unfold qTF;simp⟩⟩
 |cons y ys ih =>
  intro k acc h
  rw[qLB,List.length_cons,Nat.mul_add,Nat.mul_one]at h
  rw[qDW,qDP,qYq (by omega),oB9,oB9,qYq (by rw[ByteArray.size_append];omega),oB9,oB9]
  obtain⟨⟨r,r1,r2⟩,q,q1,q2⟩:=ih (k+1) ((acc++sep)++y) (by rw[ByteArray.size_append,ByteArray.size_append];omega)
  refine⟨⟨r,r1,?_⟩,q,q1,?_⟩
  ·rw[r2,qOs,qQy,qQy];simp only[List.append_assoc]
  ·rw[q2,qOs,qQy,qQy];simp only[List.append_assoc]
theorem qUX (x:ByteArray) (xs:List ByteArray) (sep:ByteArray) (hb:x.size+qV9 xs+sep.size*xs.length≤1000000000) (hx:xs.length≤1000000000):∀(ys:List ByteArray) (k:Nat) (v:Int),0≤v→v+(qV9 ys:Int)≤2000000000→
  (∃r,qDL (x::xs) sep ys k v=some r∧toL r=toL x++qTF (toL sep) xs)∧(∃r,qDZ (x::xs) sep ys k v=some r∧toL r=toL x++qTF (toL sep) xs):=by
 intro ys
 induction ys with
 |nil =>
  intro k v h0 h1
  have hv:v≤2000000000:=by have:qV9 []=0:=rfl;omega
  have e0:(⟨#[]⟩:ByteArray).size=0:=rfl
  have hn:qAz (decide (0≤v)&&decide (v≤281474976710656))=some ():=by rw[dT h0,dT (by omega)];rfl
  have hs:qC7 (x::xs) 1=some xs:=by
   unfold qC7
   rw[if_pos (by simp;omega)]
   rfl
  rw[qDL,qDZ,hn,oB9,oB9,bnd (show qAV (x::xs) 0=some x from rfl),bnd (show qAV (x::xs) 0=some x from rfl),qYq (by rw[e0];omega),oB9,oB9,bnd hs,bnd hs]
  have hap:toL ((⟨#[]⟩:ByteArray)++x)=toL x:=by rw[qQy];rfl
  obtain⟨⟨r,r1,r2⟩,q,q1,q2⟩:=qWg sep xs 0 ((⟨#[]⟩:ByteArray)++x) (by rw[ByteArray.size_append,e0];omega)
  exact⟨⟨r,r1,by rw[r2,hap]⟩,q,q1,by rw[q2,hap]⟩
 |cons y ys ih =>
  intro k v h0 h1
  rw[qLB]at h1
  have hw:w64 (9223372036854775807-v)=9223372036854775807-v:=qAD (by omega)
  rw[qDL,qDZ,hw,dF (by omega),cF,cF,qAD (by omega)]
  exact ih (k+1) (v+(y.size:Int)) (by omega) (by omega)
theorem qXH (x:ByteArray) (xs:List ByteArray) (sep:ByteArray) (hs:sep.size≤1000) (hb:x.size+qV9 xs+sep.size*xs.length≤1000000000) (hx:xs.length≤1000000):∃r,qFf (x::xs) sep=some r∧toL r=toL x++qTF (toL sep) xs:=by
 unfold qFf
 rw[show (((x::xs).length:Int)==0)=false from by rw[beq_eq_false_iff_ne];simp;omega,cF]
 have hl:((x::xs).length:Int)=(xs.length:Int)+1:=by simp
 rw[hl]
 by_cases h1:xs=[]
 ·subst h1
  exact⟨x,rfl,by unfold qTF;simp⟩
 have hpos:0<xs.length:=List.length_pos_iff.2 h1
 rw[show (((xs.length:Int)+1)==1)=false from by rw[beq_eq_false_iff_ne];omega,cF]
 by_cases h2:(sep.size:Int)>0
 ·have hw:w64 ((xs.length:Int)+1-1)=(xs.length:Int):=by rw[qAD (by omega)];omega
  rw[dT h2,cW,hw,show qAz ((xs.length:Int) != 0)=some () from by rw[show ((xs.length:Int) != 0)=true from by rw[bne_iff_ne];omega];rfl,oB9]
  have hdiv:(1001:Int)≤(9223372036854775807:Int)/(xs.length:Int):=by
   rw[Int.le_ediv_iff_mul_le (by omega)];omega
  have hdle:(9223372036854775807:Int)/(xs.length:Int)≤9223372036854775807:=Int.ediv_le_self _ (by omega)
  have ht:(9223372036854775807:Int).tdiv (xs.length:Int)=(9223372036854775807:Int)/(xs.length:Int):=Int.tdiv_eq_ediv_of_nonneg (by omega)
  rw[ht,qAD ⟨by omega,hdle⟩,dF (by omega),cF]
  have hm:((sep.size:Int)*(xs.length:Int))=((sep.size*xs.length:Nat):Int):=by rw[Int.natCast_mul]
  rw[hm,qAD (n:=((sep.size*xs.length:Nat):Int)) (by omega),qAD (by omega)]
  exact(qUX x xs sep hb (by omega) (x::xs) 0 _ (by omega) (by rw[qLB];omega)).1
 ·rw[dF h2,cF]
  exact(qUX x xs sep hb (by omega) (x::xs) 0 0 (by omega) (by rw[qLB];omega)).2
theorem qUS (n:Nat):Go.Lib.decDigits n=qQK n:=by
 induction n using Nat.strongRecOn with
 |_ n ih =>
  rw[Go.Lib.decDigits,qQK]
  by_cases h:n<10
  ·rw[dif_pos h,if_pos h]
  ·rw[dif_neg h,if_neg h,ih (n/10) (by omega)]
end
section
def rnd (a b:Int):Int:=(2*a+b)/(2*b)
def cl (a b:Int):Int:=-((-a)/b)
theorem qVJ {a a' b:Int} (hb:0<b) (h:a≤a'):rnd a b≤rnd a' b:=Int.ediv_le_ediv (by omega) (by omega)
theorem qUZ {a a' b d:Int} (hb:0<b) (h:a'≤a+d*b):rnd a' b≤rnd a b+d:=by
 have h1:=qVJ hb h
 have e:rnd (a+d*b) b=rnd a b+d:=by
  unfold rnd
  have e1:2*(a+d*b)+b=2*a+b+d*(2*b):=by
   rw[Int.mul_add,Int.mul_left_comm];omega
  rw[e1]
  exact Int.add_mul_ediv_right _ _ (by omega)
 omega
end
section
theorem qSG {a b:Int} (hb:0<b) (ha:-1000000000000000000≤a∧a≤1000000000000000000):qE6 a b=some (a/b)∧qIW a b=some (a/b):=by
 have h1:=Int.mul_tdiv_add_tmod a b
 have h2:=Int.tmod_lt_of_pos a hb
 have h3:-b<a.tmod b:=by have:=Int.lt_tmod_of_pos a hb;omega
 have hq:-1000000000000000000≤a.tdiv b∧a.tdiv b≤1000000000000000000:=by
  have:=Int.natAbs_tdiv_le_natAbs a b;omega
 have key:(if a.tmod b<0 then a.tdiv b-1 else a.tdiv b)=a/b:=by
  split
  ·rename_i h
   exact(((Int.ediv_emod_unique hb).2 ⟨by rw[Int.mul_sub];omega,by omega,by omega⟩:a/b=a.tdiv b-1∧a%b=a.tmod b+b).1).symm
  ·rename_i h
   exact(((Int.ediv_emod_unique hb).2 ⟨by omega,by omega,by omega⟩:a/b=a.tdiv b∧a%b=a.tmod b).1).symm
 unfold qE6 qIW
 rw[show qAz (b != 0)=some () from by rw[show (b != 0)=true from by rw[bne_iff_ne];omega];rfl,oB9,qAD (n:=a.tdiv b) (by omega),qAD (by omega),←key]
 by_cases h:a.tmod b<0
 ·rw[dT h,if_pos h];exact⟨rfl,rfl⟩
 ·rw[dF h,if_neg h];exact⟨rfl,rfl⟩
theorem qLL {a b:Int} (hb:0<b) (hb2:b≤1000000000) (ha:-100000000000000000≤a∧a≤100000000000000000):qDT a b=some (rnd a b)∧qDx a b=some (rnd a b):=by
 unfold qDT qDx
 rw[qAD (n:=2*a) (by omega),qAD (n:=2*b) (by omega),qAD (n:=2*a+b) (by omega)]
 obtain⟨h1,h2⟩:=qSG (a:=2*a+b) (b:=2*b) (by omega) (by omega)
 rw[bnd h1,bnd h2]
 exact⟨rfl,rfl⟩
end
section
def qS0 (x:Element):Prop:=(0≤x.family∧x.family≤4)∧(0≤x.level∧x.level≤4)∧(1≤x.base∧x.base≤2000)
def qGR (c:Code):Prop:=(1≤c.elements.length∧c.elements.length≤24)∧c.limits.length=5∧(1≤c.repeats∧c.repeats≤3)∧(0≤c.bonus∧c.bonus≤20)∧(50≤c.keeps∧c.keeps≤100)∧(0≤c.fall∧c.fall≤500)∧∀x∈c.elements,qS0 x
def qRM (c:Code):Prop:=c.elements.length≤1048576∧∀x∈c.elements,x.name.size≤1048576
theorem qWw (s:ByteArray) (hs:s.size≤1048576):∀(m v fl:Nat),v+m=s.size→m<fl→∃b,qAs s fl (v:Int)=some b∧qEu s fl (v:Int)=some b:=by
 intro m
 induction m with
 |zero =>
  intro v fl h hf
  obtain⟨f,rfl⟩:=nZ9 (by omega:fl≠0)
  rw[qAs,qEu,dF (by omega),cF,cF]
  obtain⟨b,e1,e2⟩:=qDe (s.size:Int) 1 5
  obtain⟨b',e3,e4⟩:=qBu (s.size:Int) 1 5
  obtain rfl:b=b':=Bool.eq_iff_iff.2 (e2.trans e4.symm)
  rw[bnd e1,bnd e3]
  exact⟨b,rfl,rfl⟩
 |succ m ih =>
  intro v fl h hf
  obtain⟨f,rfl⟩:=nZ9 (by omega:fl≠0)
  have hv:v<s.size:=by omega
  have hi:qNk s (v:Int)=some s[v]:=by unfold qNk;rw[if_pos (by omega)];simp[hv]
  obtain⟨b,b1,b2⟩:=ih (v+1) f (by omega) (by omega)
  rw[show (((v+1:Nat):Int))=(v:Int)+1 from by omega]at b1 b2
  rw[qAs,qEu,dT (by omega),cW,cW,bnd hi,bnd hi,qAD (by omega),b1,b2]
  cases (decide ((s[v].toNat:Int)<65)||decide ((s[v].toNat:Int)>90))&&(decide ((s[v].toNat:Int)<48)||decide ((s[v].toNat:Int)>57))
  ·exact⟨b,rfl,rfl⟩
  ·exact⟨false,rfl,rfl⟩
theorem qYM (c:Code) (hc:qRM c) (fl:Nat) (hf:1048576<fl) (N:Option Bool) (hN:qCD c fl [] 0=N):∀(ys pre:List Element),c.elements=pre++ys→∃e:Bool,qDv c fl ys pre.length=some e∧
  qCD c fl ys pre.length=(if e=true then N else some false)∧(e=true→∀x∈ys,qS0 x):=by
 rw[qCD]at hN
 intro ys
 induction ys with
 |nil=>intro pre h;exact⟨true,by rw[qDv],by rw[if_pos rfl,qCD];exact hN,fun _=>by simp⟩
 |cons y ys ih =>
  intro pre h
  have hy:y∈c.elements:=by rw[h];simp
  have hlen:pre.length+(ys.length+1)≤1048576:=by have:=hc.1;rw[h]at this;simpa using this
  rw[qDv,qCD]
  unfold qIB qFA
  obtain⟨b,n1,n2⟩:=qWw y.name (hc.2 y hy) y.name.size 0 fl (by omega) (by have:=hc.2 y hy;omega)
  rw[bnd (show qDj fl y.name=some b from n1),show qKH fl y.name=some b from n2]
  simp only[oB9]
  cases b
  ·exact⟨false,by simp[qDa],by simp[qDa],fun h=>by cases h⟩
  simp only[Bool.not_true,Bool.not_false,qCV,Bool.true_and,Bool.false_or]
  obtain⟨b,f1,f2⟩:=qBu y.family 0 4
  obtain⟨b',f3,f4⟩:=qDe y.family 0 4
  obtain rfl:b=b':=Bool.eq_iff_iff.2 (f2.trans f4.symm)
  rw[f1,f3]
  simp only[oB9]
  cases b
  ·exact⟨false,by simp[qDa],by simp[qDa],fun h=>by cases h⟩
  simp only[Bool.not_true,Bool.not_false,qCV,Bool.true_and,Bool.false_or]
  obtain⟨b,g1,g2⟩:=qBu y.level 0 4
  obtain⟨b',g3,g4⟩:=qDe y.level 0 4
  obtain rfl:b=b':=Bool.eq_iff_iff.2 (g2.trans g4.symm)
  rw[g1,g3]
  simp only[oB9]
  cases b
  ·exact⟨false,by simp[qDa],by simp[qDa],fun h=>by cases h⟩
  simp only[Bool.not_true,Bool.not_false,qCV,Bool.true_and,Bool.false_or]
  obtain⟨b,k1,k2⟩:=qBu y.base 1 2000
  obtain⟨b',k3,k4⟩:=qDe y.base 1 2000
  obtain rfl:b=b':=Bool.eq_iff_iff.2 (k2.trans k4.symm)
  rw[k1,k3]
  simp only[oB9]
  cases b
  ·exact⟨false,by simp[qDa],by simp[qDa],fun h=>by cases h⟩
  simp only[Bool.not_true,Bool.not_false,qCV,Bool.true_and,Bool.false_or,cF]
  obtain⟨e,e1,e2,e3⟩:=ih (pre++[y]) (by rw[h];simp)
  rw[show (pre++[y]).length=pre.length+1 from by simp]at e1 e2
  have he:qS0 y:=⟨by have:=f2.1 rfl;omega,by have:=g2.1 rfl;omega,by have:=k2.1 rfl;omega⟩
  have hall:e=true→∀x∈y::ys,qS0 x:=fun h x hx=>by
   rcases List.mem_cons.1 hx with rfl|hx
   ·exact he
   ·exact e3 h x hx
  by_cases h0:(pre.length:Int)>0
  ·rw[dT h0]
   simp only[qCV,Bool.true_and]
   obtain⟨p,z,rfl⟩:∃p z,pre=p++[z]:=by
    have hne:pre≠[]:=by intro e;rw[e]at h0;simp at h0
    exact⟨pre.dropLast,pre.getLast hne,(List.dropLast_concat_getLast hne).symm⟩
   have hg:qAV c.elements (w64 (((p++[z]).length:Int)-1))=some z:=by
    rw[qAD (by omega)]
    exact qDm (pre:=p) (y:=z) (ys:=y::ys) (by rw[h];simp) (by simp)
   rw[bnd hg,bnd hg]
   cases hs:!qMp z.name y.name
   ·exact⟨e,e1,e2,hall⟩
   ·exact⟨false,rfl,rfl,fun h=>by cases h⟩
  ·rw[dF h0]
   simp only[qDa,oB9,Bool.false_and,cF]
   exact⟨e,e1,e2,hall⟩
theorem qMX (c:Code) (hc:qRM c) (fl:Nat) (hf:1048576<fl):∃b,qBG fl c=some b∧qDD fl c=some b∧(b=true→qGR c):=by
 unfold qBG qDD
 obtain⟨e,e1,e2,e3⟩:=qYM c hc fl hf _ rfl c.elements [] rfl
 rw[show ([]:List Element).length=0 from rfl]at e1 e2
 rw[e2,qCD]
 obtain⟨a,a1,a2⟩:=qBu (c.elements.length:Int) 1 24
 obtain⟨a',a3,a4⟩:=qDe (c.elements.length:Int) 1 24
 obtain rfl:a=a':=Bool.eq_iff_iff.2 (a2.trans a4.symm)
 rw[bnd a1,bnd a3]
 cases a
 ·exact⟨false,by simp[qDa],by cases e<;>simp[qDa],fun h=>by cases h⟩
 by_cases h5:c.limits.length=5
 rotate_left
 ·rw[show ((c.limits.length:Int)==5)=false from by rw[beq_eq_false_iff_ne];omega,show ((c.limits.length:Int) != 5)=true from by rw[bne_iff_ne];omega]
  exact⟨false,by simp[qDa],by cases e<;>simp[qDa],fun h=>by cases h⟩
 rw[show ((c.limits.length:Int)==5)=true from by rw[h5];rfl,show ((c.limits.length:Int) != 5)=false from by rw[h5];rfl]
 obtain⟨b,b1,b2⟩:=qIR 0 9 c.limits 0
 obtain⟨b',b3,b4⟩:=qOR 0 9 c.limits 0
 obtain rfl:b=b':=Bool.eq_iff_iff.2 (b2.trans b4.symm)
 simp only[Bool.not_true,Bool.not_false,qCV,Bool.true_and,Bool.false_or,Bool.or_false]
 rw[bnd (show qCE c.limits 0 9=some b from b1),bnd (show qCp c.limits 0 9=some b from b3)]
 cases b
 ·exact⟨false,by simp[qDa],by cases e<;>simp[qDa],fun h=>by cases h⟩
 simp only[Bool.not_true,Bool.not_false,qCV,Bool.true_and,Bool.false_or,Bool.or_false,cF]
 obtain⟨r,r1,r2⟩:=qBu c.repeats 1 3
 obtain⟨r',r3,r4⟩:=qDe c.repeats 1 3
 obtain rfl:r=r':=Bool.eq_iff_iff.2 (r2.trans r4.symm)
 rw[bnd r1,bnd r3]
 cases r
 ·exact⟨false,by simp[qDa],by cases e<;>simp[qDa],fun h=>by cases h⟩
 simp only[Bool.not_true,Bool.not_false,qCV,Bool.true_and,Bool.false_or,Bool.or_false]
 obtain⟨o,o1,o2⟩:=qBu c.bonus 0 20
 obtain⟨o',o3,o4⟩:=qDe c.bonus 0 20
 obtain rfl:o=o':=Bool.eq_iff_iff.2 (o2.trans o4.symm)
 rw[bnd o1,bnd o3]
 cases o
 ·exact⟨false,by simp[qDa],by cases e<;>simp[qDa],fun h=>by cases h⟩
 simp only[Bool.not_true,Bool.not_false,qCV,Bool.true_and,Bool.false_or,Bool.or_false]
 obtain⟨k,k1,k2⟩:=qBu c.keeps 50 100
 obtain⟨k',k3,k4⟩:=qDe c.keeps 50 100
 obtain rfl:k=k':=Bool.eq_iff_iff.2 (k2.trans k4.symm)
 rw[bnd k1,bnd k3]
 cases k
 ·exact⟨false,by simp[qDa],by cases e<;>simp[qDa],fun h=>by cases h⟩
 simp only[Bool.not_true,Bool.not_false,qCV,Bool.true_and,Bool.false_or,Bool.or_false]
 obtain⟨f,f1,f2⟩:=qBu c.fall 0 500
 obtain⟨f',f3,f4⟩:=qDe c.fall 0 500
 obtain rfl:f=f':=Bool.eq_iff_iff.2 (f2.trans f4.symm)
 rw[bnd f1,bnd f3]
 cases f
 ·exact⟨false,by simp[qDa],by cases e<;>simp[qDa],fun h=>by cases h⟩
 simp only[Bool.not_true,cF]
 refine⟨e,e1,by cases e<;>simp,fun h=>?_⟩
 have:=a2.1 rfl
 exact⟨by omega,h5,r2.1 rfl,o2.1 rfl,k2.1 rfl,f2.1 rfl,e3 h⟩
end
section
def qOT (s:Slips):Prop:=(0≤s.falls∧s.falls≤9)∧(0≤s.seconds∧s.seconds≤60)∧(0≤s.other∧s.other≤500)
theorem qJq (s:Slips):∃b,qEF s=some b∧qHB s=some b∧(b=true↔qOT s):=by
 unfold qEF qHB qAN qAZ qOT
 simp only[oB9]
 by_cases h1:0≤s.falls∧s.falls≤9
 ·rw[show (decide (s.falls≥0)&&decide (s.falls≤9))=true from by simp;omega]
  simp only[qCV,oB9,Bool.true_and]
  by_cases h2:0≤s.seconds∧s.seconds≤60
  ·rw[show (decide (s.seconds≥0)&&decide (s.seconds≤60))=true from by simp;omega]
   simp only[qCV,oB9,Bool.true_and]
   exact⟨_,rfl,rfl,by rw[Bool.and_eq_true,decide_eq_true_eq,decide_eq_true_eq];exact⟨fun h=>⟨h1,h2,by omega⟩,fun h=>by omega⟩⟩
  ·rw[show (decide (s.seconds≥0)&&decide (s.seconds≤60))=false from by rw[Bool.and_eq_false_iff,decide_eq_false_iff_not,decide_eq_false_iff_not];omega]
   exact⟨false,rfl,rfl,by simp;omega⟩
 ·rw[show (decide (s.falls≥0)&&decide (s.falls≤9))=false from by rw[Bool.and_eq_false_iff,decide_eq_false_iff_not,decide_eq_false_iff_not];omega]
  exact⟨false,rfl,rfl,by simp;omega⟩
def fnd (name:ByteArray):List Element→Nat→Int
 | [],_=>-1
 |y::ys,k=>if y.name=name then (k:Int) else fnd name ys (k+1)
theorem qXr (name:ByteArray):∀(ys:List Element) (k:Nat),qD2 name ys k=some (fnd name ys k)
 | [],k=>by rw[qD2,fnd]
 |y::ys,k=>by
  rw[qD2,fnd]
  by_cases h:y.name=name
  ·rw[dT h,if_pos h];rfl
  ·rw[dF h,if_neg h,cF,qXr name ys (k+1)]
theorem qXb (name:ByteArray):∀(ys:List Element) (k:Nat),qAk (fun a0=>qDX a0 name) ys k=some (fnd name ys k)
 | [],k=>by rw[qAk,fnd]
 |y::ys,k=>by
  rw[qAk,fnd,show qDX y name=some (decide (y.name=name)) from rfl,oB9]
  by_cases h:y.name=name
  ·rw[dT h,if_pos h];rfl
  ·rw[dF h,if_neg h,cF,qXb name ys (k+1)]
theorem qGT (c:Code) (name:ByteArray):qCZ c name=some (fnd name c.elements 0)∧qF8 c name=some (fnd name c.elements 0):=by
 constructor
 ·unfold qCZ qEP
  rw[qXb];rfl
 ·exact qXr name c.elements 0
theorem qUD (name:ByteArray):∀(ys:List Element) (k:Nat),fnd name ys k=-1∨∃(i:Nat) (x:Element),fnd name ys k=((k+i:Nat):Int)∧ys[i]?=some x
 | [],k=>.inl rfl
 |y::ys,k=>by
  rw[fnd]
  by_cases h:y.name=name
  ·rw[if_pos h];exact .inr ⟨0,y,by simp,rfl⟩
  ·rw[if_neg h]
   rcases qUD name ys (k+1) with e|⟨i,x,e1,e2⟩
   ·exact .inl e
   ·exact .inr ⟨i+1,x,by rw[e1];omega,by simpa using e2⟩
theorem qXf {c:Code} {name:ByteArray} (h:¬fnd name c.elements 0<0):∃x,qAV c.elements (fnd name c.elements 0)=some x∧x∈c.elements:=by
 rcases qUD name c.elements 0 with e|⟨i,x,e1,e2⟩
 ·omega
 ·exact⟨x,by rw[qEp (k:=i) (by omega)];exact e2,List.mem_of_getElem? e2⟩
def qGH (c:Code) (l:List Item):Prop:=∀it∈l,∀s∈it.names,¬fnd s c.elements 0<0
theorem qSE (c:Code):∀(ys:List ByteArray) (k:Nat),∃o,qDN c ys k=some o∧qDM c ys k=some o∧((o=.ok ()∧∀s∈ys,¬fnd s c.elements 0<0)∨(o=.error false∧∃s∈ys,fnd s c.elements 0<0))
 | [],k=>⟨.ok (),by rw[qDN],by rw[qDM],.inl ⟨rfl,by simp⟩⟩
 |y::ys,k=>by
  rw[qDN,qDM,bnd (qGT c y).1,bnd (qGT c y).2]
  by_cases h:fnd y c.elements 0<0
  ·rw[dT h];exact⟨.error false,rfl,rfl,.inr ⟨rfl,y,by simp,h⟩⟩
  ·rw[dF h,cF,cF]
   obtain⟨o,o1,o2,o3⟩:=qSE c ys (k+1)
   refine⟨o,o1,o2,o3.imp (fun q=>⟨q.1,fun s hs=>?_⟩) (fun q=>⟨q.1,?_⟩)⟩
   ·rcases List.mem_cons.1 hs with rfl|hs
    ·exact h
    ·exact q.2 s hs
   ·obtain⟨s,hs,e⟩:=q.2
    exact⟨s,by simp[hs],e⟩
theorem qRu (c:Code):∀(ys:List Item) (k:Nat),∃b,qDH c ys k=some b∧qDU c ys k=some b∧(b=true↔qGH c ys)
 | [],k=>⟨true,by rw[qDH],by rw[qDU],by simp[qGH]⟩
 |y::ys,k=>by
  rw[qDH,qDU]
  obtain⟨o,o1,o2,o3⟩:=qSE c y.names 0
  rw[bnd o1,bnd o2]
  rcases o3 with⟨rfl,h⟩|⟨rfl,s,hs,h⟩
  ·simp only[qLN]
   obtain⟨b,b1,b2,b3⟩:=qRu c ys (k+1)
   refine⟨b,b1,b2,b3.trans ⟨fun q it hi=>?_,fun q it hi=>q it (by simp[hi])⟩⟩
   rcases List.mem_cons.1 hi with rfl|hi
   ·exact h
   ·exact q it hi
  ·simp only[qLN]
   exact⟨false,rfl,rfl,by simp only[Bool.false_eq_true,false_iff];exact fun q=>q y (by simp) s hs h⟩
theorem qM4 (c:Code) (l:List Item):∃b,qDp c l=some b∧qFa c l=some b∧(b=true↔qGH c l):=qRu c l 0
end
section
def qX3 (J:Nat) (l:List Int):Prop:=l.length=J∧∀x∈l,-5≤x∧x≤5
def qXP (J:Nat) (l:List Int):Prop:=l.length=J∧∀x∈l,(0≤x∧x≤1000)∧x.tmod 25=0
def qGy (m:Marks):Prop:=m.grades.length≤14∧m.components.length=3∧∃r,qAV m.components 0=some r∧(3≤r.length∧r.length≤9)∧(∀l∈m.grades,qX3 r.length l)∧∀l∈m.components,qXP r.length l
theorem n25:qAz (25 != 0)=some ():=rfl
theorem qTb (x:Int):Ret (qC3 x) (¬((0≤x∧x≤1000)∧x.tmod 25=0)):=by
 unfold qC3 qFk
 obtain⟨b,b1,b2⟩:=qBu x 0 1000
 rw[bnd b1]
 cases b
 ·simp only[qDa,oB9,Bool.false_and,Bool.not_false]
  exact .t fun h=>absurd (b2.2 h.1) (by simp)
 ·rw[n25]
  simp only[qCV,oB9,Bool.true_and]
  have h:=b2.1 rfl
  refine .some ?_
  rw[Bool.not_eq_true',beq_eq_false_iff_ne]
  exact⟨fun q r=>q r.2,fun q r=>q ⟨h,r⟩⟩
theorem qXd:∀(l:List Int) (k:Nat),∃i,qA8 (fun a0=>qC3 a0) l k=some i∧(i≥0↔∃x∈l,¬((0≤x∧x≤1000)∧x.tmod 25=0))
 | [],k=>⟨-1,by rw[qA8],by simp⟩
 |y::l,k=>by
  obtain⟨b,b1,b2⟩:=qTb y
  rw[qA8,bnd b1]
  cases b
  ·obtain⟨i,i1,i2⟩:=qXd l (k+1)
   refine⟨i,i1,i2.trans ⟨fun ⟨x,hx,q⟩=>⟨x,by simp[hx],q⟩,fun ⟨x,hx,q⟩=>?_⟩⟩
   rcases List.mem_cons.1 hx with rfl|hx
   ·exact absurd (b2.2 q) (by simp)
   ·exact⟨x,hx,q⟩
  ·exact⟨(k:Int),rfl,⟨fun _=>⟨y,by simp,b2.1 rfl⟩,fun _=>by omega⟩⟩
theorem qPo (m:Marks) {r:List Int} (hr:qAV m.components 0=some r):∀(ys:List (List Int)) (k:Nat),Ret (qDI m ys k) (∀l∈ys,qXP r.length l)
 | [],k=>by rw[qDI];exact .t (by simp)
 |y::ys,k=>by
  rw[qDI,bnd (show qAy m=some (r.length:Int) from by unfold qAy;rw[bnd hr])]
  by_cases h:y.length=r.length
  ·rw[show ((y.length:Int) != (r.length:Int))=false from by rw[h];simp]
   simp only[Bool.not_false,qCV,Bool.false_or]
   obtain⟨i,i1,i2⟩:=qXd y 0
   rw[bnd (show qDG y (fun a0=>qC3 a0)=some (decide (i≥0)) from by unfold qDG qFi;rw[bnd i1])]
   by_cases hi:i≥0
   ·rw[dT hi]
    obtain⟨x,hx,q⟩:=i2.1 hi
    exact .f fun k=>q ((k y (by simp)).2 x hx)
   ·rw[dF hi,cF]
    refine(qPo m hr ys (k+1)).iff ⟨fun q l hl=>?_,fun q l hl=>q l (by simp[hl])⟩
    rcases List.mem_cons.1 hl with rfl|hl
    ·exact⟨h,fun x hx=>Classical.byContradiction fun c=>hi (i2.2 ⟨x,hx,c⟩)⟩
    ·exact q l hl
  ·rw[show ((y.length:Int) != (r.length:Int))=true from by rw[bne_iff_ne];omega]
   simp only[Bool.not_true,qDa,oB9,Bool.true_or,cW]
   exact .f fun k=>h (k y (by simp)).1
theorem qP6 (m:Marks) {r:List Int} (hr:qAV m.components 0=some r):∀(ys:List (List Int)) (k:Nat),Ret (qDQ m ys k) ((∀l∈ys,qX3 r.length l)∧∀l∈m.components,qXP r.length l)
 | [],k=>by rw[qDQ];exact(qPo m hr m.components 0).iff (by simp)
 |y::ys,k=>by
  rw[qDQ,bnd (show qAy m=some (r.length:Int) from by unfold qAy;rw[bnd hr])]
  by_cases h:y.length=r.length
  ·rw[show ((y.length:Int) != (r.length:Int))=false from by rw[h];simp]
   simp only[Bool.not_false,qCV,Bool.false_or]
   obtain⟨b,b1,b2⟩:=qIR (-5) 5 y 0
   rw[bnd (show qCE y (-5) 5=some b from b1)]
   cases b
   ·exact .f fun k=>absurd (b2.2 (k.1 y (by simp)).2) (by simp)
   ·simp only[Bool.not_true,cF]
    refine(qP6 m hr ys (k+1)).iff ⟨fun q=>⟨fun l hl=>?_,q.2⟩,fun q=>⟨fun l hl=>q.1 l (by simp[hl]),q.2⟩⟩
    rcases List.mem_cons.1 hl with rfl|hl
    ·exact⟨h,b2.1 rfl⟩
    ·exact q.1 l hl
  ·rw[show ((y.length:Int) != (r.length:Int))=true from by rw[bne_iff_ne];omega]
   simp only[Bool.not_true,qDa,oB9,Bool.true_or,cW]
   exact .f fun k=>h (k.1 y (by simp)).1
theorem qRi (m:Marks):Ret (qDt m) (qGy m):=by
 unfold qDt
 by_cases h1:m.grades.length≤14∧m.components.length=3
 ·rw[dF (by omega),show ((m.components.length:Int) != 3)=false from by rw[h1.2];rfl]
  obtain⟨r,hr⟩:∃r,qAV m.components 0=some r:=⟨_,qH3 (k:=0) (by omega)⟩
  simp only[Bool.or_false,Bool.not_false,qCV]
  rw[bnd hr]
  obtain⟨b,b1,b2⟩:=qBu (r.length:Int) 3 9
  rw[bnd b1]
  cases b
  ·exact .f fun ⟨_,_,r',e,k,_⟩=>by rw[hr]at e;cases e;exact absurd (b2.2 (by omega)) (by simp)
  ·simp only[Bool.not_true,Bool.or_false,cF]
   have:=b2.1 rfl
   exact(qP6 m hr m.grades 0).iff ⟨fun q=>⟨h1.1,h1.2,r,hr,by omega,q.1,q.2⟩,fun ⟨_,_,r',e,_,k⟩=>by rw[hr]at e;cases e;exact k⟩
 ·have hg:(decide ((m.grades.length:Int)>14)||((m.components.length:Int) != 3))=true:=by
   rw[Bool.or_eq_true,decide_eq_true_eq,bne_iff_ne];omega
  rw[hg]
  simp only[Bool.not_true,qDa,oB9,Bool.true_or,cW]
  exact .f fun k=>h1 ⟨k.1,k.2.1⟩
theorem qNc (l:List Int) (J:Nat):∀(ys:List Int) (k:Nat),Ret (qB3 l (J:Int) false ys k) (qX3 J l)
 | [],k=>by
  rw[qB3,cF]
  by_cases h:l.length=J
  ·rw[show ((l.length:Int)==(J:Int))=true from by rw[h];simp]
   simp only[qCV,Bool.true_and]
   obtain⟨b,b1,b2⟩:=qOR (-5) 5 l 0
   rw[bnd (show qCp l (-5) 5=some b from b1)]
   exact .some (b2.trans ⟨fun q=>⟨h,q⟩,fun q=>q.2⟩)
  ·rw[show ((l.length:Int)==(J:Int))=false from by rw[beq_eq_false_iff_ne];omega]
   exact .f fun k=>h k.1
 |y::ys,k=>by
  rw[qB3]
  simp only[qDa,oB9,Bool.false_and,cF]
  exact qNc l J ys (k+1)
theorem qNf (l:List Int) (J:Nat):∀(ys pre:List Int) (k:Nat),l=pre++ys→(∀x∈pre,x.tmod 25=0)→Ret (qB3 l (J:Int) true ys k) (qXP J l)
 | [],pre,k,h1,h2=>by
  rw[qB3,cW]
  rw[List.append_nil]at h1
  subst h1
  by_cases h:l.length=J
  ·rw[show ((l.length:Int)==(J:Int))=true from by rw[h];simp]
   simp only[qCV,Bool.true_and]
   obtain⟨b,b1,b2⟩:=qOR 0 1000 l 0
   rw[bnd (show qCp l 0 1000=some b from b1)]
   exact .some (b2.trans ⟨fun q=>⟨h,fun x hx=>⟨q x hx,h2 x hx⟩⟩,fun q x hx=>(q.2 x hx).1⟩)
  ·rw[show ((l.length:Int)==(J:Int))=false from by rw[beq_eq_false_iff_ne];omega]
   exact .f fun k=>h k.1
 |y::ys,pre,k,h1,h2=>by
  rw[qB3,n25]
  simp only[qCV,oB9,Bool.true_and]
  by_cases h:y.tmod 25=0
  ·rw[h,bne_self_eq_false,cF]
   exact qNf l J ys (pre++[y]) (k+1) (by rw[h1];simp) fun x hx=>by
    rcases List.mem_append.1 hx with hx|hx
    ·exact h2 x hx
    ·rw[List.mem_singleton.1 hx];exact h
  ·rw[show (y.tmod 25 != 0)=true from by rw[bne_iff_ne];exact h,cW]
   exact .f fun k=>h (k.2 y (by rw[h1];simp)).2
theorem qNg (r:List Int):∀(ys:List (List Int)) (k:Nat),Ret (qEa r ys k) ((∀l∈ys,qXP r.length l)∧(3≤r.length∧r.length≤9))
 | [],k=>by
  rw[qEa]
  obtain⟨b,b1,b2⟩:=qDe (r.length:Int) 3 9
  rw[bnd b1]
  exact .some (b2.trans ⟨fun q=>⟨by simp,by omega⟩,fun q=>by have:=q.2;omega⟩)
 |y::ys,k=>by
  obtain⟨b,b1,b2⟩:=qNf y r.length y [] 0 rfl (by simp)
  rw[qEa,bnd (show qHE y (r.length:Int) true=some b from b1)]
  cases b
  ·exact .f fun k=>absurd (b2.2 (k.1 y (by simp))) (by simp)
  ·simp only[Bool.not_true,cF]
   refine(qNg r ys (k+1)).iff ⟨fun q=>⟨fun l hl=>?_,q.2⟩,fun q=>⟨fun l hl=>q.1 l (by simp[hl]),q.2⟩⟩
   rcases List.mem_cons.1 hl with rfl|hl
   ·exact b2.1 rfl
   ·exact q.1 l hl
theorem qNd (m:Marks) (r:List Int):∀(ys:List (List Int)) (k:Nat),Ret (qEg m r ys k) ((∀l∈ys,qX3 r.length l)∧(∀l∈m.components,qXP r.length l)∧(3≤r.length∧r.length≤9))
 | [],k=>by rw[qEg];exact(qNg r m.components 0).iff (by simp)
 |y::ys,k=>by
  obtain⟨b,b1,b2⟩:=qNc y r.length y 0
  rw[qEg,bnd (show qHE y (r.length:Int) false=some b from b1)]
  cases b
  ·exact .f fun k=>absurd (b2.2 (k.1 y (by simp))) (by simp)
  ·simp only[Bool.not_true,cF]
   refine(qNd m r ys (k+1)).iff ⟨fun q=>⟨fun l hl=>?_,q.2⟩,fun q=>⟨fun l hl=>q.1 l (by simp[hl]),q.2⟩⟩
   rcases List.mem_cons.1 hl with rfl|hl
   ·exact b2.1 rfl
   ·exact q.1 l hl
theorem qUV (m:Marks):Ret (qFF m) (qGy m):=by
 unfold qFF
 by_cases h1:m.grades.length≤14∧m.components.length=3
 ·rw[dF (by omega),show ((m.components.length:Int) != 3)=false from by rw[h1.2];rfl]
  obtain⟨r,hr⟩:∃r,qAV m.components 0=some r:=⟨_,qH3 (k:=0) (by omega)⟩
  simp only[Bool.or_false,cF]
  rw[bnd hr]
  exact(qNd m r m.grades 0).iff ⟨fun q=>⟨h1.1,h1.2,r,hr,q.2.2,q.1,q.2.1⟩,fun ⟨_,_,r',e,a,b,c⟩=>by rw[hr]at e;cases e;exact⟨b,c,a⟩⟩
 ·have hg:(((m.components.length:Int) != 3)||decide ((m.grades.length:Int)>14))=true:=by
   rw[Bool.or_eq_true,decide_eq_true_eq,bne_iff_ne];omega
  rw[hg,cW]
  exact .f fun k=>h1 ⟨k.1,k.2.1⟩
end
section
def qX0 (c:Code) (p:Performance):Prop:=qGR c∧qEI p.items∧qGH c p.items∧qGy p.marks∧p.marks.grades.length=p.items.length∧qOT p.slips
theorem qHf (m:Marks):∃b,qDt m=some b∧qFF m=some b∧(b=true↔qGy m):=by
 obtain⟨b,b1,b2⟩:=qRi m
 obtain⟨d,d1,d2⟩:=qUV m
 obtain rfl:b=d:=Bool.eq_iff_iff.2 (b2.trans d2.symm)
 exact⟨b,b1,d1,b2⟩
end
section
def elN (c:Code) (s:ByteArray):Element:=(qAV c.elements (fnd s c.elements 0)).getD default
def wth (c:Code) (x:Element) (mark:Int):Int:=if mark=1 then (x.base*c.keeps).tdiv 100 else if mark=2 then (x.base*9).tdiv 10 else if mark=3 then 0 else x.base
theorem qY4:qAz (100 != 0)=some ():=rfl
theorem n10:qAz (10 != 0)=some ():=rfl
theorem qOv {c:Code} {s:ByteArray} (h:¬fnd s c.elements 0<0):qAV c.elements (fnd s c.elements 0)=some (elN c s)∧elN c s∈c.elements:=by
 obtain⟨x,h1,h2⟩:=qXf h
 unfold elN
 rw[h1]
 exact⟨rfl,h2⟩
theorem qLk {a b A B:Int} (ha:0≤a∧a≤A) (hb:0≤b∧b≤B):0≤a*b∧a*b≤A*B :=
 ⟨Int.mul_nonneg ha.1 hb.1,Int.mul_le_mul ha.2 hb.2 hb.1 (by omega)⟩
theorem qU1 {c:Code} (hc:qGR c) {x:Element} (hx:qS0 x) (mark:Int):0≤wth c x mark∧wth c x mark≤2000:=by
 have hb:=hx.2.2
 have hk:=hc.2.2.2.2.1
 have hm:=qLk (a:=x.base) (b:=c.keeps) (A:=2000) (B:=100) (by omega) (by omega)
 unfold wth
 split
 ·rw[Int.tdiv_eq_ediv_of_nonneg hm.1];omega
 ·split
  ·rw[Int.tdiv_eq_ediv_of_nonneg (by omega)];omega
  ·split<;>omega
theorem qSL {c:Code} (hc:qGR c) {x:Element} (hx:qS0 x) (mark:Int):qGd c x mark=some (wth c x mark):=by
 have hb:=hx.2.2
 have hk:=hc.2.2.2.2.1
 have hm:=qLk (a:=x.base) (b:=c.keeps) (A:=2000) (B:=100) (by omega) (by omega)
 have hd:0≤(x.base*c.keeps).tdiv 100∧(x.base*c.keeps).tdiv 100≤2000:=by rw[Int.tdiv_eq_ediv_of_nonneg hm.1];omega
 have hd2:0≤(x.base*9).tdiv 10∧(x.base*9).tdiv 10≤2000:=by rw[Int.tdiv_eq_ediv_of_nonneg (by omega)];omega
 unfold qGd wth
 rw[qY4,n10,qAD (n:=x.base*c.keeps) (by omega),qAD (n:=x.base*9) (by omega),qAD (n:=(x.base*c.keeps).tdiv 100) (by omega),qAD (n:=(x.base*9).tdiv 10) (by omega)]
 simp only[oB9]
 by_cases h1:mark=1
 ·rw[if_pos h1,show (mark==1)=true from by rw[h1];rfl];rfl
 ·rw[if_neg h1,show (mark==1)=false from by rw[beq_eq_false_iff_ne];exact h1,cF]
  by_cases h2:mark=2
  ·rw[if_pos h2,show (mark==2)=true from by rw[h2];rfl];rfl
  ·rw[if_neg h2,show (mark==2)=false from by rw[beq_eq_false_iff_ne];exact h2,cF]
   by_cases h3:mark=3
   ·rw[if_pos h3,show (mark==3)=true from by rw[h3];rfl];rfl
   ·rw[if_neg h3,show (mark==3)=false from by rw[beq_eq_false_iff_ne];exact h3];rfl
theorem qTJ {c:Code} (hc:qGR c) {s:ByteArray} (hs:¬fnd s c.elements 0<0) (mark:Int):qGQ c s mark=some (wth c (elN c s) mark):=by
 obtain⟨e1,e2⟩:=qOv hs
 have:=qSL hc (hc.2.2.2.2.2.2 _ e2) mark
 unfold qGd at this
 unfold qGQ
 rw[bnd (qGT c s).2,dF hs,cF,bnd e1]
 exact this
def wl (c:Code) (it:Item):List Int:=List.zipWith (fun s m=>wth c (elN c s) m) it.names it.marks
theorem qSZ {c:Code} (hc:qGR c) (it:Item):∀(ys:List ByteArray) (ms mp:List Int) (v:List Int),it.marks=mp++ms→ys.length=ms.length→(∀s∈ys,¬fnd s c.elements 0<0)→v.length+ys.length≤1000→
  qDq c it ys mp.length v=some (v++List.zipWith (fun s m=>wth c (elN c s) m) ys ms)
 | [],[],mp,v,_,_,_,_=>by rw[qDq];simp
 |y::ys,m::ms,mp,v,h1,h2,h3,h4=>by
  obtain⟨e1,e2⟩:=qOv (h3 y (by simp))
  simp only[List.length_cons]at h4
  rw[qDq,bnd (qGT c y).1,bnd e1,bnd (qDm (pre:=mp) (y:=m) (ys:=ms) h1 rfl),bnd (qSL hc (hc.2.2.2.2.2.2 _ e2) m),qGr (by simp;omega),qD3,oB9]
  have:=qSZ hc it ys ms (mp++[m]) (v++[wth c (elN c y) m]) (by rw[h1];simp) (by simpa using h2) (fun s hs=>h3 s (by simp[hs])) (by simp;omega)
  rw[show (mp++[m]).length=mp.length+1 from by simp]at this
  rw[this];simp
theorem qX2 {c:Code} (hc:qGR c):∀(ys:List ByteArray) (ms:List Int),(∀s∈ys,¬fnd s c.elements 0<0)→∀x∈List.zipWith (fun s m=>wth c (elN c s) m) ys ms,0≤x∧x≤2000
 | [],_,_,x,hx=>by simp at hx
 |_::_,[],_,x,hx=>by simp at hx
 |y::ys,m::ms,h,x,hx=>by
  rw[List.zipWith_cons_cons]at hx
  rcases List.mem_cons.1 hx with rfl|hx
  ·exact qU1 hc (hc.2.2.2.2.2.2 _ (qOv (h y (by simp))).2) m
  ·exact qX2 hc ys ms (fun s hs=>h s (by simp[hs])) x hx
theorem qQu {c:Code} (hc:qGR c) {it:Item} (hi:qFl it) (hk:∀s∈it.names,¬fnd s c.elements 0<0):qIX c it=some (wl c it):=by
 have:=qSZ hc it it.names it.marks [] [] rfl hi.2.symm hk (by simp;have:=hi.1;omega)
 rw[List.nil_append]at this
 exact this
theorem qTW:∀{l:List Int} {B:Int},(∀x∈l,0≤x∧x≤B)→0≤l.sum∧l.sum≤B*(l.length:Int)
 | [],B,_=>by simp
 |x::l,B,h=>by
  have h1:=h x (by simp)
  have h2:=qTW (l:=l) (B:=B) fun y hy=>h y (by simp[hy])
  rw[List.sum_cons,List.length_cons,show ((l.length+1:Nat):Int)=(l.length:Int)+1 from rfl,Int.mul_add,Int.mul_one];omega
theorem qWO:∀(l:List Int) (k:Nat) (v:Int),(∀x∈l,0≤x∧x≤100000)→0≤v→v+100000*(l.length:Int)≤1000000000000→qBA l k v=some (v+l.sum)
 | [],k,v,_,_,_=>by rw[qBA];simp
 |x::l,k,v,h,hv,hb=>by
  have h1:=h x (by simp)
  simp only[List.length_cons]at hb
  rw[qBA,qAD (by omega),qWO l (k+1) (v+x) (fun y hy=>h y (by simp[hy])) (by omega) (by omega),List.sum_cons]
  congr 1;omega
def qOi (c:Code) (it:Item):Int:=if it.late=true then rnd ((wl c it).sum*(100+c.bonus)) 100 else (wl c it).sum
theorem qXe {a B:Int} (h:0≤a∧a≤100*B):0≤rnd a 100∧rnd a 100≤B:=by unfold rnd;omega
theorem qR5 {c:Code} (hc:qGR c) {it:Item} (hi:qFl it) (hk:∀s∈it.names,¬fnd s c.elements 0<0):(∀x∈wl c it,0≤x∧x≤2000)∧(1≤(wl c it).length∧(wl c it).length≤3)∧0≤(wl c it).sum∧(wl c it).sum≤6000:=by
 have h1:∀x∈wl c it,0≤x∧x≤2000:=qX2 hc it.names it.marks hk
 have h2:(wl c it).length=it.names.length:=by unfold wl;rw[List.length_zipWith,hi.2];simp
 have h3:=qTW h1
 have h4:=hi.1
 exact⟨h1,by omega,h3.1,by omega⟩
theorem qWm {c:Code} (hc:qGR c) {it:Item} (hi:qFl it) (hk:∀s∈it.names,¬fnd s c.elements 0<0):0≤qOi c it∧qOi c it≤7200:=by
 obtain⟨_,_,h3,h4⟩:=qR5 hc hi hk
 have hb:=hc.2.2.2.1
 unfold qOi
 split
 ·have:=qLk (a:=(wl c it).sum) (b:=100+c.bonus) (A:=6000) (B:=120) ⟨h3,h4⟩ (by omega)
  exact qXe (by omega)
 ·omega
theorem qYH {c:Code} (hc:qGR c) {it:Item} (hi:qFl it) (hk:∀s∈it.names,¬fnd s c.elements 0<0):qHC c it=some (qOi c it):=by
 obtain⟨h1,h2,h3,h4⟩:=qR5 hc hi hk
 have hb:=hc.2.2.2.1
 have hm:=qLk (a:=(wl c it).sum) (b:=100+c.bonus) (A:=6000) (B:=120) ⟨h3,h4⟩ (by omega)
 unfold qHC qOi
 have hs:qBE (wl c it)=some (wl c it).sum:=by
  have:=qWO (wl c it) 0 0 (fun x hx=>by have:=h1 x hx;omega) (by omega) (by omega)
  rw[Int.zero_add]at this
  exact this
 rw[bnd (qQu hc hi hk),bnd hs,qAD (n:=100+c.bonus) (by omega),qAD (by omega)]
 cases it.late
 ·rfl
 ·rw[cW,bnd (qLL (b:=100) (by omega) (by omega) (by omega)).1,if_pos rfl]
theorem qTq {c:Code} (hc:qGR c) (it:Item) (fu:Int→Option Int) (hfu:∀v:Int,qB8 c it [] 0 v=fu v):∀(ys:List ByteArray) (ms mp:List Int) (v:Int),it.marks=mp++ms→ys.length=ms.length→(∀s∈ys,¬fnd s c.elements 0<0)→0≤v→v+2000*(ys.length:Int)≤1000000→
  qB8 c it ys mp.length v=fu (v+(List.zipWith (fun s m=>wth c (elN c s) m) ys ms).sum)
 | [],[],mp,v,_,_,_,_,_=>by
  have:=hfu v
  rw[qB8]at this
  rw[qB8,this];simp
 |y::ys,m::ms,mp,v,h1,h2,h3,h4,h5=>by
  have hw:=qU1 hc (hc.2.2.2.2.2.2 _ (qOv (h3 y (by simp))).2) m
  simp only[List.length_cons]at h5
  rw[qB8,bnd (qDm (pre:=mp) (y:=m) (ys:=ms) h1 rfl),bnd (qTJ hc (h3 y (by simp)) m),qAD (by omega)]
  have:=qTq hc it fu hfu ys ms (mp++[m]) (v+wth c (elN c y) m) (by rw[h1];simp) (by simpa using h2) (fun s hs=>h3 s (by simp[hs])) (by omega) (by omega)
  rw[show (mp++[m]).length=mp.length+1 from by simp]at this
  rw[this,List.zipWith_cons_cons,List.sum_cons]
  congr 1;omega
theorem qXx {c:Code} (hc:qGR c) {it:Item} (hi:qFl it) (hk:∀s∈it.names,¬fnd s c.elements 0<0):qIO c it=some (qOi c it):=by
 obtain⟨h1,h2,h3,h4⟩:=qR5 hc hi hk
 have hb:=hc.2.2.2.1
 have hm:=qLk (a:=(wl c it).sum) (b:=100+c.bonus) (A:=6000) (B:=120) ⟨h3,h4⟩ (by omega)
 have hl:=hi.1
 have:=qTq hc it _ (fun _=>rfl) it.names it.marks [] 0 rfl hi.2.symm hk (by omega) (by omega)
 rw[Int.zero_add]at this
 unfold qIO qOi
 rw[show ([]:List Int).length=0 from rfl]at this
 rw[this,qB8]
 show cond it.late ((qDx (w64 ((wl c it).sum*(w64 (100+c.bonus)))) 100).bind fun x18=>some x18) (some (wl c it).sum)=_
 rw[qAD (n:=100+c.bonus) (by omega),qAD (by omega)]
 cases it.late
 ·rfl
 ·rw[cW,bnd (qLL (b:=100) (by omega) (by omega) (by omega)).2,if_pos rfl]
end
section
theorem qNE {it:Item} (h:qFl it):∃s m,qAV it.names 0=some s∧qAV it.marks 0=some m:=by
 have h1:=h.1
 have h2:=h.2
 exact⟨_,_,qH3 (k:=0) (by omega),qH3 (k:=0) (by omega)⟩
theorem qU4 {l:List Item} {k:Nat} {x:Item} (hx:qAV l (k:Int)=some x) (hi:qFl x):∀(ys:List Item) (j:Nat) (v:Int),(∀it∈ys,qFl it)→0≤v→v+(ys.length:Int)≤1000→
  ∃r,qAv l (k:Int) ys j v=some r∧qAt l (k:Int) ys j v=some r∧0≤r
 | [],j,v,_,hv,_=>⟨v,by rw[qAv],by rw[qAt],hv⟩
 |y::ys,j,v,h,hv,hb=>by
  obtain⟨s,_,s1,_⟩:=qNE hi
  obtain⟨t,m,t1,m1⟩:=qNE (h y (by simp))
  simp only[List.length_cons]at hb
  rw[qAv,qAt,bnd t1,bnd t1,bnd hx,bnd hx,bnd s1,bnd s1,m1,qAD (by omega)]
  have hr:∃b:Bool,((opt (decide (t=s)) default (some m)).bind fun x34=>cond (decide (t=s)&&(x34 != 3)) (qAv l (k:Int) ys (j+1) (v+1)) (qAv l (k:Int) ys (j+1) v))=cond b (qAv l (k:Int) ys (j+1) (v+1)) (qAv l (k:Int) ys (j+1) v)∧
    ((opt (decide (t=s)) default (some m)).bind fun x34=>cond (decide (t=s)&&(x34 != 3)) (qAt l (k:Int) ys (j+1) (v+1)) (qAt l (k:Int) ys (j+1) v))=cond b (qAt l (k:Int) ys (j+1) (v+1)) (qAt l (k:Int) ys (j+1) v):=by
   cases decide (t=s)
   ·exact⟨false,by simp only[qDa,oB9,Bool.false_and],by simp only[qDa,oB9,Bool.false_and]⟩
   ·exact⟨m != 3,by simp only[qCV,oB9,Bool.true_and],by simp only[qCV,oB9,Bool.true_and]⟩
  obtain⟨b,b1,b2⟩:=hr
  rw[b1,b2]
  cases b
  ·exact qU4 hx hi ys (j+1) v (fun it hit=>h it (by simp[hit])) hv (by omega)
  ·exact qU4 hx hi ys (j+1) (v+1) (fun it hit=>h it (by simp[hit])) (by omega) (by omega)
theorem qVA {c:Code} (hc:qGR c) {l:List Item} (hl:qEI l) (hk:qGH c l) {k:Nat} {x:Item} (hx:qAV l (k:Int)=some x):∃b,qCd c l (k:Int)=some b∧qEk c l (k:Int)=some b∧0≤b∧b≤7200:=by
 have hx2:l[k]?=some x:=by rw[qEp rfl]at hx;exact hx
 have hmem:x∈l:=List.mem_of_getElem? hx2
 have hlt:=(List.getElem?_eq_some_iff.1 hx2).1
 have hi:=hl.2 x hmem
 obtain⟨r,r1,r2,r3⟩:=qU4 hx hi (l.take k) 0 0 (fun it h=>hl.2 it (List.mem_of_mem_take h)) (by omega) (by rw[List.length_take];have:=hl.1;omega)
 have hb:=qWm hc hi (hk x hmem)
 unfold qCd qEk qH6 qIF
 rw[qSq (l:=l) (k:=k) rfl (by omega),oB9,oB9,bnd r1,bnd hx,bnd hx,bnd (qYH hc hi (hk x hmem)),bnd (qXx hc hi (hk x hmem)),bnd r2,n10,qAD (n:=qOi c x*7) (by omega)]
 have hd:0≤(qOi c x*7).tdiv 10∧(qOi c x*7).tdiv 10≤7200:=by rw[Int.tdiv_eq_ediv_of_nonneg (by omega)];omega
 rw[qAD (n:=(qOi c x*7).tdiv 10) (by omega)]
 cases decide (r<c.repeats)
 ·rw[cF]
  cases r==c.repeats
  ·exact⟨0,rfl,rfl,by omega,by omega⟩
  ·exact⟨_,rfl,rfl,hd⟩
 ·exact⟨_,rfl,rfl,hb⟩
theorem qTv {c:Code} (hc:qGR c) (it:Item):∀(ys:List ByteArray) (ms mp:List Int) (v:Int),it.marks=mp++ms→ys.length=ms.length→(∀s∈ys,¬fnd s c.elements 0<0)→0≤v→
  qD0 c it ys mp.length v=some ((List.zipWith (fun s m=>wth c (elN c s) m) ys ms).foldl max v)
 | [],[],mp,v,_,_,_,_=>by rw[qD0];rfl
 |y::ys,m::ms,mp,v,h1,h2,h3,h4=>by
  have hw:=qU1 hc (hc.2.2.2.2.2.2 _ (qOv (h3 y (by simp))).2) m
  rw[qD0,bnd (qDm (pre:=mp) (y:=m) (ys:=ms) h1 rfl),bnd (qTJ hc (h3 y (by simp)) m),List.zipWith_cons_cons,List.foldl_cons]
  have hm:qFK v (wth c (elN c y) m)=some (max v (wth c (elN c y) m)):=by
   unfold qFK
   by_cases h:v>wth c (elN c y) m
   ·rw[dT h,cW,Int.max_eq_left (by omega)]
   ·rw[dF h,cF,Int.max_eq_right (by omega)]
  rw[bnd hm]
  have:=qTv hc it ys ms (mp++[m]) (max v (wth c (elN c y) m)) (by rw[h1];simp) (by simpa using h2) (fun s hs=>h3 s (by simp[hs])) (by omega)
  rw[show (mp++[m]).length=mp.length+1 from by simp]at this
  exact this
end
section
def qHu (c:Code) (l:List Item) (k:Nat):Int:=(qCd c l (k:Int)).getD 0
theorem qNM {c:Code} (hc:qGR c) {l:List Item} (hl:qEI l) (hk:qGH c l) {k:Nat} (h:k<l.length):qCd c l (k:Int)=some (qHu c l k)∧qEk c l (k:Int)=some (qHu c l k)∧0≤qHu c l k∧qHu c l k≤7200:=by
 obtain⟨b,b1,b2,b3⟩:=qVA hc hl hk (qH3 h)
 have e:qHu c l k=b:=by unfold qHu;rw[b1];rfl
 rw[e]
 exact⟨b1,b2,b3⟩
def qHZ (c:Code) (it:Item):Int:=(wl c it).foldl max 0
theorem qXs (x:List Int) (hx:x.length≤1000):∀(ys pre:List Int) (fl:Nat) (m:Int),x=pre++ys→ys.length<fl→qBJ x fl m (pre.length:Int)=some (ys.foldl max m):=by
 intro ys
 induction ys with
 |nil =>
  intro pre fl m h hf
  obtain⟨f,rfl⟩:=nZ9 (by omega:fl≠0)
  rw[qBJ,dF (by rw[h];simp)];rfl
 |cons y ys ih =>
  intro pre fl m h hf
  obtain⟨f,rfl⟩:=nZ9 (by omega:fl≠0)
  simp only[List.length_cons]at hf
  have hlen:x.length=pre.length+(ys.length+1):=by rw[h];simp
  rw[qBJ,dT (by omega),cW,bnd (qDm h rfl),qAD (by omega)]
  have:=ih (pre++[y]) f (max m y) (by rw[h];simp) (by omega)
  rw[show (pre++[y]).length=pre.length+1 from by simp,Int.natCast_add,Int.natCast_one]at this
  exact this
theorem qNh:∀(l:List Int) (v B:Int),(∀x∈l,0≤x∧x≤B)→0≤v∧v≤B→0≤l.foldl max v∧l.foldl max v≤B
 | [],v,B,_,h=>h
 |x::l,v,B,h,hv=>by
  have:=h x (by simp)
  exact qNh l (max v x) B (fun y hy=>h y (by simp[hy])) (by omega)
theorem qMn {c:Code} (hc:qGR c) {it:Item} (hi:qFl it) (hk:∀s∈it.names,¬fnd s c.elements 0<0) (fl:Nat) (hf:1048576<fl):qHL fl c it=some (qHZ c it)∧qIP c it=some (qHZ c it)∧0≤qHZ c it∧qHZ c it≤2000:=by
 obtain⟨h1,h2,_,_⟩:=qR5 hc hi hk
 have hb:=qNh (wl c it) 0 2000 h1 (by omega)
 refine⟨?_,?_,hb⟩
 ·unfold qHL qER qHZ
  rw[bnd (qQu hc hi hk)]
  cases hw:wl c it with
  |nil=>rw[hw]at h2;simp at h2
  |cons x xs =>
   rw[dF (by simp;omega),cF,bnd (show qAV (x::xs) 0=some x from rfl)]
   have:=qXs (x::xs) (by rw[hw]at h2;omega) xs [x] fl x rfl (by rw[hw]at h2;simp at h2;omega)
   rw[bnd (show qBJ (x::xs) fl x 1=_ from this),List.foldl_cons,Int.max_eq_right (h1 x (by rw[hw];simp)).1]
 ·have:=qTv hc it it.names it.marks [] 0 rfl hi.2.symm hk (by omega)
  exact this
theorem qVo {J:Nat} {g:List Int} (h:qX3 J g) (hJ:3≤J∧J≤9):qJU g:=by
 have:=h.1
 exact⟨by omega,fun x hx=>by have:=h.2 x hx;omega⟩
def qVT (c:Code) (l:List Item) (k:Nat) (it:Item) (g:List Int):Int:=if qHu c l k=0 then 0 else rnd (tS g*qHZ c it) (10*nS g)
theorem qRK {c:Code} (hc:qGR c) {l:List Item} (hl:qEI l) (hk:qGH c l) {k:Nat} {x:Item} (hx:qAV l (k:Int)=some x) {g:List Int} (hg:qJU g) (fl:Nat) (hf:1048576<fl) :
  qGo fl c l (k:Int) g=some (qVT c l k x g)∧qHV fl c l (k:Int) g=some (qVT c l k x g):=by
 have hx2:l[k]?=some x:=by rw[qEp rfl]at hx;exact hx
 have hmem:x∈l:=List.mem_of_getElem? hx2
 have hlt:=(List.getElem?_eq_some_iff.1 hx2).1
 obtain⟨b1,b2,b3⟩:=qNM hc hl hk hlt
 obtain⟨u1,u2,u3⟩:=qMn hc (hl.2 x hmem) (hk x hmem) fl hf
 obtain⟨t1,t2⟩:=qNX hg fl (by omega)
 have hT:=qT8 hg
 have hN:=qUv hg
 have hm:-40000000≤tS g*qHZ c x∧tS g*qHZ c x≤40000000:=by
  have h1:tS g*qHZ c x≤20000*qHZ c x:=Int.mul_le_mul_of_nonneg_right hT.2 u3.1
  have h2:-20000*qHZ c x≤tS g*qHZ c x:=Int.mul_le_mul_of_nonneg_right hT.1 u3.1
  omega
 unfold qGo qHV qVT
 rw[bnd b1,bnd b2]
 by_cases h0:qHu c l k=0
 ·rw[if_pos h0,show (qHu c l k==0)=true from by rw[h0];rfl];exact⟨rfl,rfl⟩
 ·rw[if_neg h0,show (qHu c l k==0)=false from by rw[beq_eq_false_iff_ne];exact h0,cF,cF,bnd t1,bnd t2,bnd hx,bnd hx,bnd u1,bnd u2]
  dsimp only
  obtain⟨r1,r2⟩:=qLL (a:=tS g*qHZ c x) (b:=10*nS g) (by omega) (by omega) (by omega)
  rw[qAD (n:=tS g*qHZ c x) (by omega),qAD (n:=10*nS g) (by omega),bnd r1,bnd r2]
  exact⟨rfl,rfl⟩
end
section
def scl (c:Code) (l:List Item):Nat→List Item→List (List Int)→List Int
 |k,x::ys,g::gs=>(qHu c l k+qVT c l k x g)::scl c l (k+1) ys gs
 |_,_,_=>[]
theorem qUH {a b A:Int} (hb:0<b) (hA:0≤A) (h:-A≤a∧a≤A):-A-1≤rnd a b∧rnd a b≤A+1:=by
 have h1:=qUZ (a:=0) (a':=a) (b:=b) (d:=A) hb (by
  have:=Int.mul_le_mul_of_nonneg_left (show (1:Int)≤b by omega) hA
  omega)
 have h2:=qUZ (a:=a) (a':=0) (b:=b) (d:=A) hb (by
  have:=Int.mul_le_mul_of_nonneg_left (show (1:Int)≤b by omega) hA
  omega)
 have h3:rnd 0 b=0:=by
  unfold rnd
  rw[Int.mul_zero,Int.zero_add]
  exact Int.ediv_eq_zero_of_lt (by omega) (by omega)
 omega
theorem qWR {c:Code} (hc:qGR c) {l:List Item} (hl:qEI l) (hk:qGH c l) (k:Nat) {x:Item} (hx:x∈l) {g:List Int} (hg:qJU g):-50000000≤qVT c l k x g∧qVT c l k x g≤50000000:=by
 obtain⟨_,_,u3⟩:=qMn hc (hl.2 x hx) (hk x hx) 99999999 (by omega)
 have hT:=qT8 hg
 have hN:=qUv hg
 unfold qVT
 split
 ·omega
 ·have h1:tS g*qHZ c x≤20000*qHZ c x:=Int.mul_le_mul_of_nonneg_right hT.2 u3.1
  have h2:-20000*qHZ c x≤tS g*qHZ c x:=Int.mul_le_mul_of_nonneg_right hT.1 u3.1
  have:=qUH (a:=tS g*qHZ c x) (b:=10*nS g) (A:=40000000) (by omega) (by omega) (by omega)
  omega
theorem qR1 {c:Code} (hc:qGR c) {l:List Item} (hl:qEI l) (hk:qGH c l) (m:Marks) (fl:Nat) (hf:1048576<fl):∀(ys:List Item) (gs:List (List Int)) (pre:List Item) (gp:List (List Int)) (v:List Int),l=pre++ys→m.grades=gp++gs→gp.length=pre.length→ys.length=gs.length→(∀g∈gs,qJU g)→v.length+ys.length≤1000→
  qBk c l m fl ys pre.length v=some (v++scl c l pre.length ys gs)∧qCm c l m fl ys pre.length v=some (v++scl c l pre.length ys gs)
 | [],[],pre,gp,v,_,_,_,_,_,_=>⟨by rw[qBk];simp[scl],by rw[qCm];simp[scl]⟩
 |y::ys,g::gs,pre,gp,v,h1,h2,h3,h4,h5,h6=>by
  have hgy:=qDm (pre:=pre) (y:=y) (ys:=ys) h1 rfl
  have hgg:qAV m.grades (pre.length:Int)=some g:=qDm (pre:=gp) (y:=g) (ys:=gs) h2 (by rw[h3])
  have hlt:pre.length<l.length:=by rw[h1];simp
  have hy:y∈l:=by rw[h1];simp
  obtain⟨b1,b2,b3⟩:=qNM hc hl hk hlt
  obtain⟨q1,q2⟩:=qRK hc hl hk hgy (h5 g (by simp)) fl hf
  have hb:=qWR hc hl hk pre.length hy (h5 g (by simp))
  simp only[List.length_cons]at h6
  obtain⟨i1,i2⟩:=qR1 hc hl hk m fl hf ys gs (pre++[y]) (gp++[g]) (v++[qHu c l pre.length+qVT c l pre.length y g]) (by rw[h1];simp) (by rw[h2];simp) (by simp[h3]) (by simpa using h4) (fun z hz=>h5 z (by simp[hz])) (by simp;omega)
  rw[show (pre++[y]).length=pre.length+1 from by simp]at i1 i2
  rw[qBk,qCm,scl]
  unfold qIG qJP qL6
  rw[b1,b2,hgg]
  simp only[oB9]
  rw[q1,q2]
  simp only[oB9]
  rw[qAD (n:=qHu c l pre.length+qVT c l pre.length y g) (by omega),qGr (by simp;omega),qD3,oB9,oB9,i1,i2]
  simp
end
section
theorem qRm:∀{l:List Int} {B:Int},(∀x∈l,-B≤x∧x≤B)→-(B*(l.length:Int))≤l.sum∧l.sum≤B*(l.length:Int)
 | [],B,_=>by simp
 |x::l,B,h=>by
  have hx:=h x (by simp)
  have:=qRm (l:=l) (B:=B) fun y hy=>h y (by simp[hy])
  rw[List.sum_cons,List.length_cons,show ((l.length+1:Nat):Int)=(l.length:Int)+1 from by omega,Int.mul_add,Int.mul_one]
  omega
def MS (m:Marks):Prop:=(∀g∈m.grades,qJU g)∧m.components.length=3∧∀g∈m.components,qJU g
theorem qWi {m:Marks} (h:qGy m):MS m:=by
 obtain⟨h1,h2,r,h3,h4,h5,h6⟩:=h
 refine⟨fun g hg=>qVo (h5 g hg) h4,h2,fun g hg=>?_⟩
 have:=h6 g hg
 have hl:=this.1
 exact⟨by omega,fun x hx=>by have:=(this.2 x hx).1;omega⟩
theorem qWK {c:Code} (hc:qGR c) {l:List Item} (hl:qEI l) (hk:qGH c l):∀(ys:List Item) (gs:List (List Int)) (pre:List Item),l=pre++ys→ys.length=gs.length→(∀g∈gs,qJU g)→(scl c l pre.length ys gs).length=ys.length∧∀x∈scl c l pre.length ys gs,-60000000≤x∧x≤60000000
 | [],[],pre,_,_,_=>by simp[scl]
 |y::ys,g::gs,pre,h1,h2,h3=>by
  have hlt:pre.length<l.length:=by rw[h1];simp
  have hy:y∈l:=by rw[h1];simp
  obtain⟨_,_,b3⟩:=qNM hc hl hk hlt
  have hb:=qWR hc hl hk pre.length hy (h3 g (by simp))
  obtain⟨i1,i2⟩:=qWK hc hl hk ys gs (pre++[y]) (by rw[h1];simp) (by simpa using h2) (fun z hz=>h3 z (by simp[hz]))
  rw[show (pre++[y]).length=pre.length+1 from by simp]at i1 i2
  rw[scl]
  refine⟨by simp[i1],fun x hx=>?_⟩
  rcases List.mem_cons.1 hx with rfl|hx
  ·omega
  ·exact i2 x hx
def qOo (c:Code) (l:List Item) (m:Marks):Int:=(scl c l 0 l m.grades).sum
def qKI (g:List Int):Int:=rnd (tS g) (nS g)
theorem qRW {g:List Int} (hg:qJU g):-30000≤qKI g∧qKI g≤30000:=by
 have hT:=qT8 hg
 have hN:=qUv hg
 have:=qUH (a:=tS g) (b:=nS g) (A:=20000) (by omega) (by omega) (by omega)
 unfold qKI;omega
theorem qXh {g:List Int} (hg:qJU g) (fl:Nat) (hf:1048576<fl):qET fl g=some (qKI g):=by
 obtain⟨t1,t2⟩:=qNX hg fl (by omega)
 have hT:=qT8 hg
 have hN:=qUv hg
 unfold qET
 rw[bnd t1,bnd (qLL (a:=tS g) (b:=nS g) (by omega) (by omega) (by omega)).1]
 rfl
theorem qXW {g:List Int} (hg:qJU g) {m:Marks} {k:Int} (hk:qAV m.components k=some g) (fl:Nat) (hf:1048576<fl):qHl fl m k=some (qKI g):=by
 obtain⟨t1,t2⟩:=qNX hg fl (by omega)
 have hT:=qT8 hg
 have hN:=qUv hg
 unfold qHl
 rw[bnd hk,bnd t2,bnd (qLL (a:=tS g) (b:=nS g) (by omega) (by omega) (by omega)).2]
 rfl
theorem qTu (fl:Nat) (hf:1048576<fl):∀(ys:List (List Int)) (k:Nat) (v:List Int),(∀g∈ys,qJU g)→v.length+ys.length≤1000→qA6 fl ys k v=some (v++ys.map qKI)
 | [],k,v,_,_=>by rw[qA6];simp
 |y::ys,k,v,h,hl=>by
  simp only[List.length_cons]at hl
  rw[qA6,bnd (qXh (h y (by simp)) fl hf),qGr (by simp;omega),qD3,oB9,qTu fl hf ys (k+1) (v++[qKI y]) (fun g hg=>h g (by simp[hg])) (by simp;omega)]
  simp
theorem qSA (a b:Int):qGe a b=some (min a b):=by
 unfold qGe
 by_cases h:a<b
 ·rw[dT h,cW,Int.min_eq_left (by omega)]
 ·rw[dF h,cF,Int.min_eq_right (by omega)]
theorem qVO (a b:Int):qFK a b=some (max a b):=by
 unfold qFK
 by_cases h:a>b
 ·rw[dT h,cW,Int.max_eq_left (by omega)]
 ·rw[dF h,cF,Int.max_eq_right (by omega)]
theorem qSU (m:Marks) (most:Int) (fl:Nat) (hf:1048576<fl):∀(ys pre:List (List Int)) (v:List Int),m.components=pre++ys→(∀g∈ys,qJU g)→v.length+ys.length≤1000→qCz m most fl ys pre.length v=some (v++ys.map fun g=>min (qKI g) most)
 | [],pre,v,_,_,_=>by rw[qCz];simp
 |y::ys,pre,v,h1,h,hl=>by
  simp only[List.length_cons]at hl
  have ih:=qSU m most fl hf ys (pre++[y]) (v++[min (qKI y) most]) (by rw[h1];simp) (fun g hg=>h g (by simp[hg])) (by simp;omega)
  rw[show (pre++[y]).length=pre.length+1 from by simp]at ih
  rw[qCz,bnd (qXW (h y (by simp)) (qDm (pre:=pre) (y:=y) (ys:=ys) h1 rfl) fl hf),bnd (qSA _ _),qGr (by simp;omega),qD3,oB9,ih]
  simp
theorem qST (A:Int) (hA:900≤A∧A≤1000) (f:List Int→Nat→Int→Option Int) (f0:∀k v,f [] k v=some v) (f1:∀y ys k v,f (y::ys) k v=f ys (k+1) (w64 (v+min y A))):∀(ys:List Int) (k:Nat) (v:Int),(∀x∈ys,-30000≤x∧x≤30000)→(-1000000000≤v-30000*(ys.length:Int)∧v+30000*(ys.length:Int)≤1000000000)→f ys k v=some (v+(ys.map fun y=>min y A).sum)
 | [],k,v,_,_=>by rw[f0];simp
 |y::ys,k,v,h,hv=>by
  have hy:=h y (by simp)
  simp only[List.length_cons]at hv
  rw[f1,qAD (by omega),qST A hA f f0 f1 ys (k+1) (v+min y A) (fun x hx=>h x (by simp[hx])) (by omega),List.map_cons,List.sum_cons,Int.add_assoc]
def qXS (falls:Int):Int:=if falls=0 then 1000 else if falls=1 then 950 else 900
def cpV (m:Marks) (falls:Int):Int:=(m.components.map fun g=>min (qKI g) (qXS falls)).sum
theorem qYp {m:Marks} (hm:MS m) (falls:Int):-90000≤cpV m falls∧cpV m falls≤90000:=by
 have hA:900≤qXS falls∧qXS falls≤1000:=by unfold qXS;split;omega;split<;>omega
 have:=qRm (l:=m.components.map fun g=>min (qKI g) (qXS falls)) (B:=30000) (fun x hx=>by
  obtain⟨g,hg,rfl⟩:=List.mem_map.1 hx
  have:=qRW (hm.2.2 g hg)
  omega)
 rw[List.length_map,hm.2.1]at this
 unfold cpV;omega
def qOj (m:Marks) (f falls:Int):Int:=rnd (cpV m falls*f) 100
theorem qX8 {a f A F:Int} (h:-A≤a∧a≤A) (hA:0≤A) (hf:0≤f∧f≤F):-(A*F)≤a*f∧a*f≤A*F:=by
 have h1:a*f≤A*f:=Int.mul_le_mul_of_nonneg_right h.2 hf.1
 have h2:-A*f≤a*f:=Int.mul_le_mul_of_nonneg_right h.1 hf.1
 have h3:A*f≤A*F:=Int.mul_le_mul_of_nonneg_left hf.2 hA
 rw[Int.neg_mul]at h2
 omega
theorem qRN {m:Marks} (hm:MS m) {f:Int} (h:0≤f∧f≤400) (falls:Int):(-36000000≤cpV m falls*f∧cpV m falls*f≤36000000)∧(-40000000≤qOj m f falls∧qOj m f falls≤40000000):=by
 have h1:=qX8 (qYp hm falls) (by omega) h
 have h2:=qUH (a:=cpV m falls*f) (b:=100) (A:=36000000) (by omega) (by omega) (by omega)
 exact⟨by omega,by unfold qOj;omega⟩
def fG (k:Int):Int:=k+max (k-2) 0+max (k-4) 0
def qPK (c:Code) (s:Slips):Int:=c.fall*fG s.falls+(s.seconds+4)/5*100+s.other
theorem qW2 {fall falls:Int} (h1:0≤fall∧fall≤500) (h2:falls≤9):∀(n fl:Nat) (k:Int),(falls-k).toNat=n→n<fl→0≤k→k≤falls→qD5 fall falls fl (fall*fG k) k=some (fall*fG falls):=by
 intro n
 induction n with
 |zero =>
  intro fl k hn hf h0 hk
  obtain⟨f,rfl⟩:=nZ9 (by omega:fl≠0)
  obtain rfl:k=falls:=by omega
  rw[qD5,dF (by omega),cF]
 |succ n ih =>
  intro fl k hn hf h0 hk
  obtain⟨f,rfl⟩:=nZ9 (by omega:fl≠0)
  rw[qD5,dT (by omega:k<falls),cW,show qAz (2 != 0)=some () from rfl,oB9,qAD (n:=k+1) (by omega)]
  have e:k.tdiv 2=k/2:=Int.tdiv_eq_ediv_of_nonneg h0
  have eG:fG (k+1)=fG k+min 3 (k/2+1):=by unfold fG;omega
  rw[e,qAD (n:=k/2) (by omega),qAD (n:=k/2+1) (by omega),bnd (qSA _ _)]
  have hb1:=qLk (a:=fall) (b:=min 3 (k/2+1)) (A:=500) (B:=3) h1 (by omega)
  have hb2:=qLk (a:=fall) (b:=fG k) (A:=500) (B:=30) h1 (by unfold fG;omega)
  rw[qAD (n:=fall*min 3 (k/2+1)) (by omega),qAD (n:=fall*fG k+fall*min 3 (k/2+1)) (by omega),←Int.mul_add,←eG]
  exact ih f (k+1) (by omega) (by omega) (by omega) (by omega)
end
section
def qD1 (c:Code) (p:Performance) (f:Int):Int:=max (qOo c p.items p.marks+qOj p.marks f p.slips.falls-qPK c p.slips) 0
def qQV (c:Code) (p:Performance):Prop:=qGR c∧qEI p.items∧qGH c p.items∧MS p.marks∧p.marks.grades.length=p.items.length∧qOT p.slips
theorem qLO {c:Code} {p:Performance} (h:qX0 c p):qQV c p:=⟨h.1,h.2.1,h.2.2.1,qWi h.2.2.2.1,h.2.2.2.2.1,h.2.2.2.2.2⟩
def jud (m:Marks) (j:Int) (g k:Int):Marks:=Marks.mk (m.grades.map fun r=>r.set j.toNat g) (m.components.map fun r=>r.set j.toNat k)
theorem qTh:∀(ys:List (List Int)) (k:Nat) (v:List (List Int)),(∀g∈ys,qJU g)→v.length+ys.length≤1000→qCT ys k v=some (v++ys)
 | [],k,v,_,_=>by rw[qCT];simp
 |y::ys,k,v,h,hl=>by
  have hy:=(h y (by simp)).1
  simp only[List.length_cons]at hl
  rw[qCT]
  unfold qDK
  rw[qGr (n:=y.length) (by omega),qD3,oB9,oB9,qGr (by simp;omega),qD3,oB9,qTh ys (k+1) (v++[y]) (fun g hg=>h g (by simp[hg])) (by simp;omega)]
  simp
theorem qUF {m:Marks} (hm:MS m) (h:m.grades.length≤14):qCy m=some m:=by
 unfold qCy qGi
 rw[qTh m.grades 0 [] hm.1 (by simp;omega),oB9,qTh m.components 0 [] hm.2.2 (by rw[hm.2.1];simp),oB9]
 rfl
theorem qMZ {g:List Int} {j:Int} (h:qRJ g j):∃x,qAV g j=some x:=by
 obtain⟨pre,x,post,_,_,hx,_⟩:=qVE h
 exact⟨x,hx⟩
theorem ja2 (j mark:Int) (x1:Marks) (v16:List (List Int)):∀(n fl:Nat) (done rest:List (List Int)),rest.length=n→n<fl→x1.components.length=done.length+n→done.length+n≤1000→(∀g∈rest,qRJ g j)→qCs j mark x1 v16 fl (done++rest) (done++rest) (done.length:Int)=some (Marks.mk v16 (done++rest.map fun r=>r.set j.toNat mark)):=by
 intro n
 induction n with
 |zero =>
  intro fl done rest hn hf hl _ _
  obtain⟨f,rfl⟩:=nZ9 (by omega:fl≠0)
  obtain rfl:rest=[]:=List.eq_nil_of_length_eq_zero hn
  rw[qCs,dF (by omega),cF]
  rfl
 |succ n ih =>
  intro fl done rest hn hf hl hb hr
  obtain⟨f,rfl⟩:=nZ9 (by omega:fl≠0)
  cases rest with
  |nil=>simp at hn
  |cons y rest =>
   obtain⟨x,hx⟩:=qMZ (hr y (by simp))
   rw[qCs,dT (by omega),cW,qKx,oB9,bnd hx,qMd,qAD (by omega)]
   have:=ih f (done++[y.set j.toNat mark]) rest (by simpa using hn) (by omega) (by simp;omega) (by simp;omega) (fun g hg=>hr g (by simp[hg]))
   rw[show ((done++[y.set j.toNat mark]).length:Int)=(done.length:Int)+1 from by simp,List.append_assoc]at this
   rw[show done++y.set j.toNat mark::rest=done++([y.set j.toNat mark]++rest) from rfl,this]
   simp
theorem ja1 (j grade mark:Int) (fuel0:Nat) (x1:Marks):∀(n fl:Nat) (done rest:List (List Int)),rest.length=n→n<fl→x1.grades.length=done.length+n→done.length+n≤1000→(∀g∈rest,qRJ g j)→qDi j grade mark fuel0 x1 fl (done++rest) (done++rest) (done.length:Int)=qCs j mark x1 (done++rest.map fun r=>r.set j.toNat grade) fuel0 x1.components x1.components 0:=by
 intro n
 induction n with
 |zero =>
  intro fl done rest hn hf hl _ _
  obtain⟨f,rfl⟩:=nZ9 (by omega:fl≠0)
  obtain rfl:rest=[]:=List.eq_nil_of_length_eq_zero hn
  rw[qDi,dF (by omega),cF]
  rfl
 |succ n ih =>
  intro fl done rest hn hf hl hb hr
  obtain⟨f,rfl⟩:=nZ9 (by omega:fl≠0)
  cases rest with
  |nil=>simp at hn
  |cons y rest =>
   obtain⟨x,hx⟩:=qMZ (hr y (by simp))
   rw[qDi,dT (by omega),cW,qKx,oB9,bnd hx,qMd,qAD (by omega)]
   have:=ih f (done++[y.set j.toNat grade]) rest (by simpa using hn) (by omega) (by simp;omega) (by simp;omega) (fun g hg=>hr g (by simp[hg]))
   rw[show ((done++[y.set j.toNat grade]).length:Int)=(done.length:Int)+1 from by simp,List.append_assoc]at this
   rw[show done++y.set j.toNat grade::rest=done++([y.set j.toNat grade]++rest) from rfl,this]
   simp
theorem qWP {m:Marks} (hm:MS m) (h:m.grades.length≤14) {j:Int} (h1:∀g∈m.grades,qRJ g j) (h2:∀g∈m.components,qRJ g j) (g k:Int) (fl:Nat) (hf:1048576<fl):qFr fl m j g k=some (jud m j g k):=by
 unfold qFr
 rw[bnd (qUF hm h)]
 have e1:=ja1 j g k fl m m.grades.length fl [] m.grades rfl (by omega) (by simp) (by simp;omega) h1
 have h3:=hm.2.1
 have e2:=ja2 j k m (m.grades.map fun r=>r.set j.toNat g) m.components.length fl [] m.components rfl (by omega) (by simp) (by simp;omega) h2
 rw[List.nil_append,List.nil_append]at e1 e2
 exact e1.trans e2
theorem qWZ {m:Marks} (hm:MS m) {j:Int} (h1:∀g∈m.grades,qRJ g j) (h2:∀g∈m.components,qRJ g j) {g k:Int} (hg:-1000≤g∧g≤1000) (hk:-1000≤k∧k≤1000):MS (jud m j g k):=by
 refine⟨fun r hr=>?_,by unfold jud;rw[List.length_map];exact hm.2.1,fun r hr=>?_⟩
 ·obtain⟨q,hq,rfl⟩:=List.mem_map.1 hr
  exact(qSF (h1 q hq) hg).1
 ·obtain⟨q,hq,rfl⟩:=List.mem_map.1 hr
  exact(qSF (h2 q hq) hk).1
def ibs (c:Code) (l:List Item) (N:Int):Nat→List Item→Int
 |_,[]=>0
 |k,y::ys=>(if qHu c l k=0 then 0 else cl (qHZ c y) N)+ibs c l N (k+1) ys
end
section
theorem qS3 {a b:Int} (hb:0<b) (hb2:b≤1000000000) (ha:0≤a∧a≤100000000000):qES a b 1=some (cl a b)∧(0≤cl a b∧cl a b≤a):=by
 have hbd:0≤cl a b∧cl a b≤a:=by
  unfold cl
  have h1:-a≤(-a)/b:=by
   have:=Int.le_ediv_of_mul_le (a:=-a) (b:=-a) hb (by
    have:=Int.mul_le_mul_of_nonneg_left (show (1:Int)≤b by omega) ha.1
    rw[Int.neg_mul];omega)
   exact this
  have h2:(-a)/b≤0:=by
   have:=Int.ediv_le_ediv hb (show -a≤0 by omega)
   rw[Int.zero_ediv]at this;exact this
  omega
 refine⟨?_,hbd⟩
 unfold qES
 rw[show ((1:Int) == -1)=false from rfl,cF,show ((1:Int)==1)=true from rfl,cW,qAD (by omega),bnd (qSG (a:=-a) (b:=b) hb (by omega)).1,qAD (by unfold cl at hbd;omega)]
 rfl
theorem qRq {p:Performance} {r:List Int} (h:qAV p.marks.components 0=some r) (hr:3≤r.length∧r.length≤9):qGc p=some (nS r):=by
 unfold qGc qAy nS
 rw[bnd h,oB9]
 by_cases h5:r.length<5
 ·rw[dF (by omega),cF,if_pos h5]
 ·rw[dT (by omega),cW,if_neg h5,qAD (by omega)]
theorem qX6 {c:Code} {p:Performance} (h:qQV c p) {r:List Int} (hr:qAV p.marks.components 0=some r) (hrl:3≤r.length∧r.length≤9) (fl:Nat) (hf:1048576<fl) {k:Nat} {y:Item} (hy:qAV p.items (k:Int)=some y) :
  qGl fl c p (k:Int)=some (if qHu c p.items k=0 then 0 else cl (qHZ c y) (nS r))∧0≤(if qHu c p.items k=0 then 0 else cl (qHZ c y) (nS r))∧(if qHu c p.items k=0 then 0 else cl (qHZ c y) (nS r))≤2000:=by
 obtain⟨hc,hl,hk,hm,hn,hs⟩:=h
 have hy2:p.items[k]?=some y:=by rw[qEp rfl]at hy;exact hy
 have hmem:y∈p.items:=List.mem_of_getElem? hy2
 have hlt:=(List.getElem?_eq_some_iff.1 hy2).1
 obtain⟨b1,_,_⟩:=qNM hc hl hk hlt
 obtain⟨u1,_,u3⟩:=qMn hc (hl.2 y hmem) (hk y hmem) fl hf
 have hN:1≤nS r∧nS r≤9:=by unfold nS;split<;>omega
 obtain⟨c1,c2⟩:=qS3 (a:=qHZ c y) (b:=nS r) (by omega) (by omega) (by omega)
 unfold qGl
 rw[bnd b1]
 by_cases h0:qHu c p.items k=0
 ·rw[if_pos h0,h0]
  exact⟨rfl,by omega,by omega⟩
 ·rw[if_neg h0,show (qHu c p.items k==0)=false from by simp[h0],cF,bnd hy,bnd u1,bnd (qRq hr hrl),bnd c1]
  exact⟨rfl,by omega,by omega⟩
theorem qTH {c:Code} {p:Performance} (h:qQV c p) {r:List Int} (hr:qAV p.marks.components 0=some r) (hrl:3≤r.length∧r.length≤9) {f:Int} (hf0:0≤f∧f≤400) (fl:Nat) (hf:1048576<fl):∀(ys pre:List Item) (v:Int),p.items=pre++ys→0≤v→v+2000*(ys.length:Int)≤1000000→
  qBW c p f fl ys pre.length v=some (v+ibs c p.items (nS r) pre.length ys+cl (f*3*cl 1000 (nS r)) 100,true)∧0≤ibs c p.items (nS r) pre.length ys∧ibs c p.items (nS r) pre.length ys≤2000*(ys.length:Int)
 | [],pre,v,_,hv,hb=>by
  have hN:1≤nS r∧nS r≤9:=by unfold nS;split<;>omega
  obtain⟨c1,c2⟩:=qS3 (a:=1000) (b:=nS r) (by omega) (by omega) (by omega)
  have hm:=qLk (a:=f*3) (b:=cl 1000 (nS r)) (A:=1200) (B:=1000) (by omega) (by omega)
  obtain⟨d1,d2⟩:=qS3 (a:=f*3*cl 1000 (nS r)) (b:=100) (by omega) (by omega) (by omega)
  simp only[List.length_nil]at hb
  rw[qBW,bnd (qRq hr hrl),bnd c1,qAD (n:=f*3) (by omega),qAD (n:=f*3*cl 1000 (nS r)) (by omega),bnd d1,qAD (by omega)]
  simp[ibs]
 |y::ys,pre,v,h1,hv,hb=>by
  obtain⟨i1,i2,i3⟩:=qX6 h hr hrl fl hf (k:=pre.length) (y:=y) (qDm (pre:=pre) (y:=y) (ys:=ys) h1 rfl)
  simp only[List.length_cons]at hb⊢
  obtain⟨j1,j2,j3⟩:=qTH h hr hrl hf0 fl hf ys (pre++[y]) (v+(if qHu c p.items pre.length=0 then 0 else cl (qHZ c y) (nS r))) (by rw[h1];simp) (by omega) (by omega)
  rw[show (pre++[y]).length=pre.length+1 from by simp]at j1 j2 j3
  rw[qBW,bnd i1,qAD (by omega),j1,ibs]
  exact⟨by rw[Int.add_assoc v],by omega,by omega⟩
theorem qNV {m:Marks} (h:qGy m):∃r,qAV m.components 0=some r∧(3≤r.length∧r.length≤9)∧∀j:Int,0≤j→j<(r.length:Int)→(∀g∈m.grades,qRJ g j∧nS g=nS r∧∀x∈g,-5≤x∧x≤5)∧∀g∈m.components,qRJ g j∧nS g=nS r∧∀x∈g,0≤x∧x≤1000:=by
 have hms:=qWi h
 obtain⟨h1,h2,r,h3,h4,h5,h6⟩:=h
 refine⟨r,h3,h4,fun j j0 j1=>⟨fun g hg=>?_,fun g hg=>?_⟩⟩
 ·have:=h5 g hg
  have e:=this.1
  exact⟨⟨hms.1 g hg,j0,by omega⟩,by unfold nS;rw[e],this.2⟩
 ·have:=h6 g hg
  have e:=this.1
  exact⟨⟨hms.2.2 g hg,j0,by omega⟩,by unfold nS;rw[e],fun x hx=>(this.2 x hx).1⟩
end
section
theorem qUL {l:List Int} {y:Int} (h:l.Pairwise (·≠·)) (hy:y∉l):(l++[y]).Pairwise (·≠·):=by
 rw[List.pairwise_append]
 exact⟨h,List.pairwise_singleton _ _,fun a ha b hb e=>by obtain rfl:=List.mem_singleton.1 hb;exact hy (e▸ha)⟩
end
section
def qNA (a:Int×Int) (y:Int):Int×Int:=if y≥0 then (w64 (a.1+y),w64 (a.2+1)) else a
def qOG (r:Result):Int×Int:=r.scores.foldl qNA (0,0)
theorem qUB:∀(l:List Int) (k:Nat) (a b:Int),qCX l k a b=some (l.foldl qNA (a,b)):=by
 intro l
 induction l with
 |nil=>intro k a b;rw[qCX];rfl
 |cons y l ih =>
  intro k a b
  rw[qCX,List.foldl_cons]
  by_cases h:y≥0
  ·rw[dT h,cW,ih,show qNA (a,b) y=(w64 (a+y),w64 (b+1)) from if_pos h]
  ·rw[dF h,cF,ih,show qNA (a,b) y=(a,b) from if_neg h]
theorem qP1 (r:Result):qHs r=some (qOG r):=qUB r.scores 0 0 0
theorem qTU:∀(l:List Int) (k:Nat) (a b:Int),qCc l k a b=some (l.foldl qNA (a,b)):=by
 intro l
 induction l with
 |nil=>intro k a b;rw[qCc];rfl
 |cons y l ih =>
  intro k a b
  rw[qCc,List.foldl_cons]
  by_cases h:y≥0
  ·rw[dT h,cW,ih,show qNA (a,b) y=(w64 (a+y),w64 (b+1)) from if_pos h]
  ·rw[dF h,cF,ih,show qNA (a,b) y=(a,b) from if_neg h]
theorem qPp (r:Result):qHk r=some (qOG r):=qTU r.scores 0 0 0
def qSu (a b:Int):Prop:=a<0→b<0
def qRF (r:Result):Prop:=(1≤r.skater∧r.skater≤999)∧(1≤r.scores.length∧r.scores.length≤3)∧(∀n∈r.scores,-1≤n∧n≤100000)∧r.scores.Pairwise qSu
theorem qPF (r:Result):∀(ys pre:List Int) (v:Bool),r.scores=pre++ys→(∀n∈pre,-1≤n∧n≤100000)→pre.Pairwise qSu→(v=true↔∃l,pre.getLast?=some l∧l<0)→Ret (qCo r ys pre.length v) (qRF r):=by
 intro ys
 induction ys with
 |nil =>
  intro pre v h1 h2 h3 h4
  rw[List.append_nil]at h1
  rw[qCo]
  refine(qDe r.skater 1 999).bindR (fun h=>?_) (fun h=>.f fun k=>h k.1)
  simp only[qCV,Bool.true_and]
  refine(qDe (r.scores.length:Int) 1 3).bindR (fun g=>.t ⟨h,by omega,by rw[h1];exact h2,by rw[h1];exact h3⟩) (fun g=>.f fun k=>g ?_)
  have:=k.2.1;omega
 |cons y ys ih =>
  intro pre v h1 h2 h3 h4
  have hy:y∈r.scores:=by rw[h1];simp
  rw[qCo]
  refine(qDe y (-1) 100000).bindR (fun h=>?_) (fun h=>.f fun k=>h (k.2.2.1 y hy))
  simp only[Bool.not_true,Bool.false_or]
  refine .condR (fun g=>.f fun k=>?_) (fun g=>?_)
  ·simp only[Bool.and_eq_true,decide_eq_true_eq]at g
   obtain⟨l,l1,l2⟩:=h4.1 g.1
   have:=k.2.2.2
   rw[h1,List.pairwise_append]at this
   have:=this.2.2 l (List.mem_of_getLast? l1) y (by simp) l2
   omega
  ·simp only[Bool.and_eq_false_iff,decide_eq_false_iff_not]at g
   have:=ih (pre++[y]) (decide (y<0)) (by rw[h1];simp) (by
    intro n hn;rcases List.mem_append.1 hn with hn|hn
    ·exact h2 n hn
    ·obtain rfl:=List.mem_singleton.1 hn;exact h) (qUI (R:=qSu) (fun a b c p q k=>q (p k)) h3 fun l hl hn=>by
     rcases g with g|g
     ·exact absurd (h4.2 ⟨l,hl,hn⟩) (by simp[g])
     ·omega) (by simp)
   simpa using this
theorem qQx (r:Result):Ret (qI2 r) (qRF r):=qPF r r.scores [] false rfl (by simp) List.Pairwise.nil (by simp)
theorem qPP (r:Result) (hl:r.scores.length≤1048576):∀(ys pre:List Int),r.scores=pre++ys→(∀n∈pre,-1≤n∧n≤100000)→pre.Pairwise qSu→Ret (qCF r ys pre.length) (qRF r):=by
 intro ys
 induction ys with
 |nil =>
  intro pre h1 h2 h3
  rw[List.append_nil]at h1
  rw[qCF]
  refine(qQc r.skater).bindR (fun h=>?_) (fun h=>.f fun k=>h k.1)
  simp only[qCV,Bool.true_and]
  refine(qBu (r.scores.length:Int) 1 3).bindR (fun g=>.t ⟨h,by omega,by rw[h1];exact h2,by rw[h1];exact h3⟩) (fun g=>.f fun k=>g ?_)
  have:=k.2.1;omega
 |cons y ys ih =>
  intro pre h1 h2 h3
  have hy:y∈r.scores:=by rw[h1];simp
  rw[qCF]
  refine(qBu y (-1) 100000).bindR (fun h=>?_) (fun h=>.f fun k=>h (k.2.2.1 y hy))
  simp only[Bool.not_true,Bool.not_false,Bool.true_and,Bool.false_or]
  have fin:(∀l,pre.getLast?=some l→qSu l y)→Ret (qCF r ys (pre.length+1)) (qRF r):=by
   intro hlast
   have:=ih (pre++[y]) (by rw[h1];simp) (by
    intro n hn;rcases List.mem_append.1 hn with hn|hn
    ·exact h2 n hn
    ·obtain rfl:=List.mem_singleton.1 hn;exact h) (qUI (R:=qSu) (fun a b c p q k=>q (p k)) h3 hlast)
   simpa using this
  rcases List.eq_nil_or_concat pre with rfl|⟨q,z,rfl⟩
  ·simp only[List.length_nil,qX9,qDa,oB9,Bool.false_and,cF]
   exact fin (by simp)
  ·simp only[List.concat_eq_append]at *
   have hkl:(q++[z]).length=q.length+1:=by simp
   have hq:q.length≤1048576:=by rw[h1]at hl;simp at hl;omega
   rw[hkl]at fin⊢
   simp only[qYm,qCV,Bool.true_and]
   rw[qVw (by omega),bnd (qDm (pre:=q) (y:=z) (ys:=y::ys) (by rw[h1];simp) rfl)]
   refine .condR (fun g=>.f fun k=>?_) (fun g=>fin ?_)
   ·simp only[Bool.and_eq_true,decide_eq_true_eq]at g
    have:=k.2.2.2
    rw[h1]at this
    have:=(List.pairwise_append.1 this).2.2 z (by simp) y (by simp) g.1
    omega
   ·simp only[Bool.and_eq_false_iff,decide_eq_false_iff_not]at g
    intro l hl' hn
    simp at hl';subst hl'
    omega
theorem qQr (r:Result) (hl:r.scores.length≤1048576):Ret (qIp r) (qRF r):=qPP r hl r.scores [] rfl (by simp) List.Pairwise.nil
def qPe (l:List Result):Prop:=(∀r∈l,qRF r)∧(l.map fun r=>r.skater).Pairwise (·≠·)∧(∀r∈l,r.scores.length=(l.headD default).scores.length)∧l.length≤40
theorem qQo (l:List Result) (hl:l.length≤1048576):∀(ys pre:List Result),l=pre++ys→(∀r∈pre,qRF r)→(pre.map fun r=>r.skater).Pairwise (·≠·)→(∀r∈pre,r.scores.length=(l.headD default).scores.length)→
  Ret (qDw l ys pre.length (pre.map fun r=>r.skater)) (qPe l):=by
 intro ys
 induction ys with
 |nil =>
  intro pre h1 h2 h3 h4
  rw[List.append_nil]at h1
  subst h1
  rw[qDw]
  refine .some ?_
  unfold qPe
  rw[decide_eq_true_eq]
  exact⟨fun h=>⟨h2,h3,h4,by omega⟩,fun h=>by have:=h.2.2.2;omega⟩
 |cons y ys ih =>
  intro pre h1 h2 h3 h4
  have hy:y∈l:=by rw[h1];simp
  have hpre:pre.length≤1048575:=by rw[h1]at hl;simp at hl;omega
  rw[qDw]
  refine(qQx y).bindR (fun h=>?_) (fun h=>.f fun k=>h (k.1 y hy))
  simp only[Bool.not_true,Bool.not_false,qCV,Bool.false_or]
  have hh:=qTP (pre.map fun r:Result=>r.skater) y.skater
  refine hh.bindR (fun hin=>.f fun k=>?_) (fun hin=>?_)
  ·have:=k.2.1
   rw[h1,List.map_append,List.pairwise_append]at this
   exact this.2.2 y.skater hin y.skater (by simp) rfl
  ·simp only[Bool.not_false,qCV,Bool.false_or]
   obtain⟨z,zs,hz⟩:∃z zs,l=z::zs:=by cases l with|nil=>simp at hy|cons z zs=>exact⟨z,zs,rfl⟩
   rw[bnd (show qAV l 0=some (l.headD default) from by rw[hz];rfl)]
   refine .condR (fun g=>.f fun k=>?_) (fun g=>?_)
   ·have:=k.2.2.1 y hy
    rw[this]at g
    simp at g
   ·have g':y.scores.length=(l.headD default).scores.length:=by
     simp only[bne_eq_false_iff_eq]at g;omega
    rw[qGr (by simp;omega)]
    simp only[qD3,oB9]
    have:=ih (pre++[y]) (by rw[h1];simp) (by
     intro n hn;rcases List.mem_append.1 hn with hn|hn
     ·exact h2 n hn
     ·obtain rfl:=List.mem_singleton.1 hn;exact h) (by rw[List.map_append];exact qUL h3 hin) (by
     intro n hn;rcases List.mem_append.1 hn with hn|hn
     ·exact h4 n hn
     ·obtain rfl:=List.mem_singleton.1 hn;exact g')
    simpa using this
theorem qS9 (l:List Result) (hl:l.length≤1048576):Ret (qIQ l) (qPe l):=qQo l hl l [] rfl (by simp) List.Pairwise.nil (by simp)
theorem qQN (y:Result):∀(l:List Result) (k:Nat),qBX y l k=some (.ok ())∧(y.skater∉l.map fun r=>r.skater)∨qBX y l k=some (.error false)∧(y.skater∈l.map fun r=>r.skater):=by
 intro l
 induction l with
 |nil=>intro k;left;rw[qBX];simp
 |cons z l ih =>
  intro k
  rw[qBX]
  by_cases h:z.skater=y.skater
  ·right
   rw[show (z.skater==y.skater)=true from by simpa using h,cW]
   exact⟨rfl,by simp[h]⟩
  ·rw[show (z.skater==y.skater)=false from by simpa using h,cF]
   have h':¬y.skater=z.skater:=fun e=>h e.symm
   rcases ih (k+1) with⟨h1,h2⟩|⟨h1,h2⟩
   ·left;exact⟨h1,by rw[List.map_cons,List.mem_cons];exact fun k=>k.elim h' h2⟩
   ·right;exact⟨h1,by rw[List.map_cons,List.mem_cons];exact .inr h2⟩
theorem qNy (l:List Result) (hl:l.length≤1048576) (hs:∀r∈l,r.scores.length≤1048576):∀(ys pre:List Result),l=pre++ys→(∀r∈pre,qRF r)→(pre.map fun r=>r.skater).Pairwise (·≠·)→(∀r∈pre,r.scores.length=(l.headD default).scores.length)→
  Ret (qBq l ys pre.length) (qPe l):=by
 intro ys
 induction ys with
 |nil =>
  intro pre h1 h2 h3 h4
  rw[List.append_nil]at h1
  subst h1
  rw[qBq]
  refine .some ?_
  unfold qPe
  rw[decide_eq_true_eq]
  exact⟨fun h=>⟨h2,h3,h4,by omega⟩,fun h=>by have:=h.2.2.2;omega⟩
 |cons y ys ih =>
  intro pre h1 h2 h3 h4
  have hy:y∈l:=by rw[h1];simp
  rw[qBq]
  obtain⟨b,e1,e2⟩:=qQr y (hs y hy)
  rw[bnd e1]
  cases b
  ·exact .f fun k=>by have:=e2.2 (k.1 y hy);simp at this
  simp only[Bool.not_true,Bool.not_false,qCV,Bool.false_or]
  obtain⟨z,zs,hz⟩:∃z zs,l=z::zs:=by cases l with|nil=>simp at hy|cons z zs=>exact⟨z,zs,rfl⟩
  rw[bnd (show qAV l 0=some (l.headD default) from by rw[hz];rfl)]
  by_cases g':y.scores.length=(l.headD default).scores.length
  ·rw[show ((y.scores.length:Int) != ((l.headD default).scores.length:Int))=false from by rw[g'];simp,cF]
   rw[bnd (show qFj l (pre.length:Int)=some pre from by rw[h1];exact qMC pre (y::ys) rfl)]
   rcases qQN y pre 0 with⟨g1,g2⟩|⟨g1,g2⟩
   ·rw[bnd g1]
    simp only[qLN]
    have:=ih (pre++[y]) (by rw[h1];simp) (by
     intro n hn;rcases List.mem_append.1 hn with hn|hn
     ·exact h2 n hn
     ·obtain rfl:=List.mem_singleton.1 hn;exact e2.1 rfl) (by rw[List.map_append];exact qUL h3 g2) (by
     intro n hn;rcases List.mem_append.1 hn with hn|hn
     ·exact h4 n hn
     ·obtain rfl:=List.mem_singleton.1 hn;exact g')
    simpa using this
   ·rw[bnd g1]
    refine .f fun k=>?_
    have:=k.2.1
    rw[h1,List.map_append,List.pairwise_append]at this
    exact this.2.2 y.skater g2 y.skater (by simp) rfl
  ·rw[show ((y.scores.length:Int) != ((l.headD default).scores.length:Int))=true from by simp only[bne_iff_ne,ne_eq];omega,cW]
   exact .f fun k=>g' (k.2.2.1 y hy)
theorem qLq (l:List Result) (hl:l.length≤1048576) (hs:∀r∈l,r.scores.length≤1048576):Ret (qGB l) (qPe l):=qNy l hl hs l [] rfl (by simp) List.Pairwise.nil (by simp)
end
section
def sg (d:Int):Int:=if d>0 then 1 else if d<0 then -1 else 0
theorem qQh (d:Int):qEY d=some (sg d):=by
 unfold qEY sg
 by_cases h:d>0
 ·rw[dT h,if_pos h];rfl
 ·rw[dF h,if_neg h]
  by_cases k:d<0
  ·rw[dT k,if_pos k];rfl
  ·rw[dF k,if_neg k];rfl
theorem qQe (d:Int):qEU d=some (sg d):=by
 unfold qEU sg
 by_cases h:d>0
 ·rw[dT h,if_pos h];rfl
 ·rw[dF h,if_neg h]
  by_cases k:d<0
  ·rw[dT k,if_pos k];rfl
  ·rw[dF k,if_neg k];rfl
theorem qIY {a b:Int} (h1:a>0↔b>0) (h2:a<0↔b<0):sg a=sg b:=by
 unfold sg
 by_cases h:a>0
 ·rw[if_pos h,if_pos (h1.1 h)]
 ·rw[if_neg h,if_neg fun k=>h (h1.2 k)]
  by_cases k:a<0
  ·rw[if_pos k,if_pos (h2.1 k)]
  ·rw[if_neg k,if_neg fun q=>k (h2.2 q)]
def pk:List Int→Int
 | []=>0
 |x::l=>(x+1)+1000000*pk l
def qXM (l:List Int):Prop:=∀n∈l,-1≤n∧n≤100000
theorem qYu (F:Nat→Int→Option Int) (S:Int→Option Int) (sa sb:List Int) (hF:∀k v,F (k+1) v=cond (decide (v≥0)) ((qAV sa v).bind fun x=>(qAV sb v).bind fun y=>cond (x != y) ((S (w64 (x-y))).bind fun z=>some z) (F k (w64 (v-1)))) (some 0))
  (hS:∀d,S d=some (sg d)) (hl:sa.length=sb.length) (h3:sa.length≤3) (ha:qXM sa) (hb:qXM sb) (fl:Nat) (hf:5<fl):F fl (w64 ((sa.length:Int)-1))=some (sg (pk sa-pk sb)):=by
 have step:∀(k:Nat) (i:Nat) (x y:Int),qAV sa (i:Int)=some x→qAV sb (i:Int)=some y→(-1≤x∧x≤100000)→(-1≤y∧y≤100000)→i≤3→
   F (k+1) (i:Int)=if x=y then F k ((i:Int)-1) else some (sg (x-y)):=by
  intro k i x y h1 h2 h3 h4 h5
  rw[hF,dT (by omega),cW,bnd h1,bnd h2,qAD (by omega),qAD (by omega)]
  by_cases h:x=y
  ·rw[if_pos h,show (x != y)=false from by simp[h],cF]
  ·rw[if_neg h,show (x != y)=true from by simp[h],cW,hS];rfl
 have last:∀k,F (k+1) (-1)=some 0:=fun k=>by rw[hF];rfl
 obtain⟨f,rfl⟩:∃f,fl=f+5:=⟨fl-5,by omega⟩
 match sa,sb,hl,h3,ha,hb,step with
 | [],[],_,_,_,_,_ =>
  rw[show w64 ((([]:List Int).length:Int)-1)=-1 from by rw[qAD (by simp)];simp,last];rfl
 | [a],[b],_,_,ha,hb,step =>
  have a1:=ha a (by simp)
  have b1:=hb b (by simp)
  rw[show w64 ((([a]:List Int).length:Int)-1)=((0:Nat):Int) from by rw[qAD (by simp)];simp,step (f+4) 0 a b rfl rfl a1 b1 (by omega)]
  by_cases h:a=b
  ·rw[if_pos h,show ((0:Nat):Int)-1=-1 from rfl,last (f+3),h];simp[sg]
  ·rw[if_neg h];congr 1;refine qIY ?_ ?_<;>simp only[pk]<;>omega
 | [a,a'],[b,b'],_,_,ha,hb,step =>
  have a1:=ha a (by simp)
  have b1:=hb b (by simp)
  have a2:=ha a' (by simp)
  have b2:=hb b' (by simp)
  rw[show w64 ((([a,a']:List Int).length:Int)-1)=((1:Nat):Int) from by rw[qAD (by simp)];simp,step (f+4) 1 a' b' rfl rfl a2 b2 (by omega)]
  by_cases h':a'=b'
  ·rw[if_pos h',show ((1:Nat):Int)-1=((0:Nat):Int) from rfl,step (f+3) 0 a b rfl rfl a1 b1 (by omega)]
   by_cases h:a=b
   ·rw[if_pos h,show ((0:Nat):Int)-1=-1 from rfl,last (f+2),h,h'];simp[sg]
   ·rw[if_neg h];congr 1;refine qIY ?_ ?_<;>simp only[pk]<;>omega
  ·rw[if_neg h'];congr 1;refine qIY ?_ ?_<;>simp only[pk]<;>omega
 | [a,a',a''],[b,b',b''],_,_,ha,hb,step =>
  have a1:=ha a (by simp)
  have b1:=hb b (by simp)
  have a2:=ha a' (by simp)
  have b2:=hb b' (by simp)
  have a3:=ha a'' (by simp)
  have b3:=hb b'' (by simp)
  rw[show w64 ((([a,a',a'']:List Int).length:Int)-1)=((2:Nat):Int) from by rw[qAD (by simp)];simp,step (f+4) 2 a'' b'' rfl rfl a3 b3 (by omega)]
  by_cases h'':a''=b''
  ·rw[if_pos h'',show ((2:Nat):Int)-1=((1:Nat):Int) from rfl,step (f+3) 1 a' b' rfl rfl a2 b2 (by omega)]
   by_cases h':a'=b'
   ·rw[if_pos h',show ((1:Nat):Int)-1=((0:Nat):Int) from rfl,step (f+2) 0 a b rfl rfl a1 b1 (by omega)]
    by_cases h:a=b
    ·rw[if_pos h,show ((0:Nat):Int)-1=-1 from rfl,last (f+1),h,h',h''];simp[sg]
    ·rw[if_neg h];congr 1;refine qIY ?_ ?_<;>simp only[pk]<;>omega
   ·rw[if_neg h'];congr 1;refine qIY ?_ ?_<;>simp only[pk]<;>omega
  ·rw[if_neg h''];congr 1;refine qIY ?_ ?_<;>simp only[pk]<;>omega
 | [],_::_,hl,_,_,_,_=>simp at hl
 |_::_,[],hl,_,_,_,_=>simp at hl
 | [_],_::_::_,hl,_,_,_,_=>simp at hl
 |_::_::_,[_],hl,_,_,_,_=>simp at hl
 | [_,_],_::_::_::_,hl,_,_,_,_=>simp at hl
 |_::_::_::_,[_,_],hl,_,_,_,_=>simp at hl
 | [_,_,_],_::_::_::_::_,hl,_,_,_,_=>simp at hl
 |_::_::_::_::_,_,_,h3,_,_,_=>simp at h3
theorem qXz:∀(l:List Int),l.length≤3→qXM l→0≤pk l∧pk l<1000000000000000000
 | [],_,_=>by simp[pk]
 | [a],_,h=>by have:=h a (by simp);simp only[pk];omega
 | [a,b],_,h=>by have:=h a (by simp);have:=h b (by simp);simp only[pk];omega
 | [a,b,c],_,h=>by have:=h a (by simp);have:=h b (by simp);have:=h c (by simp);simp only[pk];omega
 |_::_::_::_::_,h,_=>by simp at h
theorem qWQ:∀(l:List Int) (a b:Int) (A B:Int),qXM l→0≤a→a≤A→0≤b→b≤B→A+100000*(l.length:Int)≤1000000→B+(l.length:Int)≤1000→
  0≤(l.foldl qNA (a,b)).1∧(l.foldl qNA (a,b)).1≤A+100000*(l.length:Int)∧0≤(l.foldl qNA (a,b)).2∧(l.foldl qNA (a,b)).2≤B+(l.length:Int):=by
 intro l
 induction l with
 |nil=>intro a b A B _ h1 h2 h3 h4 _ _;simp;omega
 |cons y l ih =>
  intro a b A B hs h1 h2 h3 h4 h5 h6
  have hy:=hs y (by simp)
  have hs':qXM l:=fun n hn=>hs n (by simp[hn])
  simp only[List.length_cons]at h5 h6⊢
  rw[List.foldl_cons]
  by_cases h:y≥0
  ·rw[show qNA (a,b) y=(w64 (a+y),w64 (b+1)) from if_pos h,qAD (by omega),qAD (by omega)]
   have:=ih (a+y) (b+1) (A+100000) (B+1) hs' (by omega) (by omega) (by omega) (by omega) (by omega) (by omega)
   omega
  ·rw[show qNA (a,b) y=(a,b) from if_neg h]
   have:=ih a b A B hs' h1 h2 h3 h4 (by omega) (by omega)
   omega
def qTC (r:Result):Int:=(qOG r).2*1000000000000000000000000000000+(qOG r).1*100000000000000000000+pk r.scores
def okR (r:Result):Prop:=r.scores.length≤3∧qXM r.scores
theorem qT0 {a b:Result} (ha:okR a) (hb:okR b) (hl:a.scores.length=b.scores.length) (o:Option Int) (ho:o=some (sg (pk a.scores-pk b.scores))) (S:Int→Option Int) (hS:∀d,S d=some (sg d)) :
  (cond ((qOG a).2 != (qOG b).2) ((S (w64 ((qOG a).2-(qOG b).2))).bind fun x5=>some x5) (cond ((qOG a).1 != (qOG b).1) ((S (w64 ((qOG a).1-(qOG b).1))).bind fun x7=>some x7) o))=some (sg (qTC a-qTC b)):=by
 have t1:=qWQ a.scores 0 0 0 0 ha.2 (by omega) (by omega) (by omega) (by omega) (by have:=ha.1;omega) (by have:=ha.1;omega)
 have t2:=qWQ b.scores 0 0 0 0 hb.2 (by omega) (by omega) (by omega) (by omega) (by have:=hb.1;omega) (by have:=hb.1;omega)
 have p1:=qXz a.scores ha.1 ha.2
 have p2:=qXz b.scores hb.1 hb.2
 have l1:=ha.1
 have l2:=hb.1
 change 0≤(qOG a).1∧(qOG a).1≤_∧0≤(qOG a).2∧(qOG a).2≤_ at t1
 change 0≤(qOG b).1∧(qOG b).1≤_∧0≤(qOG b).2∧(qOG b).2≤_ at t2
 unfold qTC
 generalize (qOG a).1=x1 at *
 generalize (qOG a).2=x2 at *
 generalize (qOG b).1=y1 at *
 generalize (qOG b).2=y2 at *
 generalize pk a.scores=z1 at *
 generalize pk b.scores=z2 at *
 by_cases h:x2=y2
 ·rw[show (x2 != y2)=false from by simp[h],cF]
  by_cases k:x1=y1
  ·rw[show (x1 != y1)=false from by simp[k],cF,ho]
   congr 1
   refine qIY ?_ ?_<;>omega
  ·rw[show (x1 != y1)=true from by simp[k],cW,hS,oB9,qAD (by omega)]
   congr 1
   refine qIY ?_ ?_<;>omega
 ·rw[show (x2 != y2)=true from by simp[h],cW,hS,oB9,qAD (by omega)]
  congr 1
  refine qIY ?_ ?_<;>omega
theorem qVl {a b:Result} (ha:okR a) (hb:okR b) (hl:a.scores.length=b.scores.length) (fl:Nat) (hf:5<fl):qEj fl a b=some (sg (qTC a-qTC b)):=by
 unfold qEj
 rw[bnd (qPp a),bnd (qPp b)]
 exact qT0 ha hb hl _ (qYu (qBv a b) qEY a.scores b.scores (fun k v=>by rw[qBv]) qQh hl ha.1 ha.2 hb.2 fl hf) qEY qQh
theorem qR7 {a b:Result} (ha:okR a) (hb:okR b) (hl:a.scores.length=b.scores.length) (fl:Nat) (hf:5<fl):qGg fl a b=some (sg (qTC a-qTC b)):=by
 unfold qGg
 rw[bnd (qP1 a),bnd (qP1 b)]
 exact qT0 ha hb hl _ (qYu (qD4 a b) qEU a.scores b.scores (fun k v=>by rw[qD4]) qQe hl ha.1 ha.2 hb.2 fl hf) qEU qQe
structure qXc (l:List Result):Prop where
 ok:∀r∈l,okR r
 eqs:∀r∈l,∀q∈l,r.scores.length=q.scores.length
 skr:∀r∈l,1≤r.skater∧r.skater≤999
 ne:(l.map fun r=>r.skater).Pairwise (·≠·)
 len:l.length≤40
def kx (l:List Result) (i:Int):Int:=qTC (l[i.toNat]?.getD default)
def sx (l:List Result) (i:Int):Int:=(l[i.toNat]?.getD default).skater
theorem qWa {l:List Result} {i:Int} (h:0≤i∧i<(l.length:Int)):∃r,r∈l∧qAV l i=some r∧kx l i=qTC r∧sx l i=r.skater:=by
 have hi:i.toNat<l.length:=by omega
 refine⟨l[i.toNat],List.getElem_mem _,?_,?_,?_⟩
 ·rw[qEp (k:=i.toNat) (by omega)];exact List.getElem?_eq_getElem hi
 ·unfold kx;rw[List.getElem?_eq_getElem hi];rfl
 ·unfold sx;rw[List.getElem?_eq_getElem hi];rfl
theorem qWy {l:List Result} (h:qXc l) (fl:Nat) (hf:5<fl) (i:Int) (hi:0≤i∧i<(l.length:Int)):∀(ys:List Result) (k:Nat) (v:Int),(∀r∈ys,r∈l)→∃r,qBT l i fl ys k v=some r∧qCj l i fl ys k v=some r:=by
 obtain⟨b,b1,b2,_,_⟩:=qWa hi
 intro ys
 induction ys with
 |nil=>intro k v _;exact⟨v,by rw[qBT],by rw[qCj]⟩
 |cons y ys ih =>
  intro k v hm
  have hy:=hm y (by simp)
  rw[qBT,qCj,bnd b2,bnd b2,bnd (qR7 (h.ok y hy) (h.ok b b1) (h.eqs y hy b b1) fl hf),bnd (qVl (h.ok y hy) (h.ok b b1) (h.eqs y hy b b1) fl hf)]
  cases decide (sg (qTC y-qTC b)>0)
  ·exact ih (k+1) v fun r hr=>hm r (by simp[hr])
  ·exact ih (k+1) _ fun r hr=>hm r (by simp[hr])
def plR (l:List Result) (fl:Nat) (i:Int):Int:=(qCW fl l i).getD 0
theorem qR6 {l:List Result} (h:qXc l) (fl:Nat) (hf:5<fl) (i:Int) (hi:0≤i∧i<(l.length:Int)):qCW fl l i=some (plR l fl i)∧qGS fl l i=some (plR l fl i):=by
 obtain⟨r,r1,r2⟩:=qWy h fl hf i hi l 0 1 fun _ h=>h
 have e:qCW fl l i=some r:=r1
 have:plR l fl i=r:=by unfold plR;rw[e];rfl
 rw[this]
 exact⟨r1,r2⟩
end
section
theorem qRg {B n:Nat} (hB:B≤64) (hn:n≤2097152):qAh B n=true:=qGr (by
 have:=Nat.mul_le_mul hn hB
 rw[Nat.mul_assoc];omega)
theorem ndf {B n:Nat} (hB:B≤64) (hn:n≤2097152):qAz (qAh B n)=some ():=by rw[qRg hB hn];rfl
theorem qEn (n lo hi:Int):∃b,qAN n lo hi=some b∧qAZ n lo hi=some b∧(b=true↔lo≤n∧n≤hi):=by
 obtain⟨a,a1,a2⟩:=qBu n lo hi
 obtain⟨b,b1,b2⟩:=qDe n lo hi
 obtain rfl:a=b:=Bool.eq_iff_iff.2 (a2.trans b2.symm)
 exact⟨a,a1,b1,a2⟩
theorem qP0:∀(ys:List Item) (k:Nat) (v:List Item),(∀it∈ys,qFl it)→v.length+ys.length≤1000→qEc ys k v=some (v++ys)∧qCR ys k v=some (v++ys)
 | [],k,v,_,_=>by rw[qEc,qCR,List.append_nil];exact⟨rfl,rfl⟩
 |y::ys,k,v,h,hv=>by
  have hy:=h y (by simp)
  unfold qFl at hy
  simp only[List.length_cons]at hv
  obtain⟨a,b⟩:=qP0 ys (k+1) (v++[y]) (fun it hi=>h it (by simp[hi])) (by simp;omega)
  rw[List.append_assoc]at a b
  have e1:qAz (qAh 16 y.names.length)=some ():=ndf (by omega) (by omega)
  have e2:qAz (qAh 56 (v.length+[Item.mk y.names y.marks y.late].length))=some ():=ndf (by omega) (by simp;omega)
  have e3:qAz (qAh 8 y.marks.length)=some ():=ndf (by omega) (by omega)
  constructor
  ·rw[qEc]
   unfold qJ0 qFE
   simp only[e1,e2,e3,oB9]
   exact a
  ·rw[qCR]
   unfold qIk qDK
   simp only[e1,e2,e3,oB9]
   exact b
theorem qJv {l:List Item} (h:qEI l):qGx l=some l∧qFS l=some l:=by
 have:=qP0 l 0 [] h.2 (by have:=h.1;simp;omega)
 rw[List.nil_append]at this
 exact this
theorem qXq (g:List (List Int)):∀(ys:List (List Int)) (k:Nat) (v:List (List Int)),(∀r∈ys,r.length≤9)→v.length+ys.length≤1000→qDo g ys k v=some (Marks.mk g (v++ys))
 | [],k,v,_,_=>by rw[qDo,List.append_nil]
 |y::ys,k,v,h,hv=>by
  simp only[List.length_cons]at hv
  rw[qDo,bnd (qSc y (by have:=h y (by simp);omega)),ndf (by omega) (by simp;omega),oB9,qXq g ys (k+1) (v++[y]) (fun r hr=>h r (by simp[hr])) (by simp;omega),List.append_assoc];rfl
theorem qYB (m:Marks):∀(ys:List (List Int)) (k:Nat) (v:List (List Int)),(∀r∈ys,r.length≤9)→v.length+ys.length≤1000→qEl m ys k v=qDo (v++ys) m.components 0 []
 | [],k,v,_,_=>by rw[qEl,List.append_nil]
 |y::ys,k,v,h,hv=>by
  simp only[List.length_cons]at hv
  rw[qEl,bnd (qSc y (by have:=h y (by simp);omega)),ndf (by omega) (by simp;omega),oB9,qYB m ys (k+1) (v++[y]) (fun r hr=>h r (by simp[hr])) (by simp;omega),List.append_assoc];rfl
theorem qIc {m:Marks} (h:qGy m):qFC m=some m∧qCy m=some m:=by
 have hc:=qUF (qWi h) h.1
 obtain⟨h1,h2,r,h3,h4,h5,h6⟩:=h
 refine⟨?_,hc⟩
 unfold qFC
 rw[qYB m m.grades 0 [] (fun x hx=>by have:=(h5 x hx).1;omega) (by simp;omega),qXq _ m.components 0 [] (fun x hx=>by have:=(h6 x hx).1;omega) (by simp;omega)]
 rfl
theorem qTz {p:Performance} (hi:qEI p.items) (hm:qGy p.marks):qAY p p.items=some p:=by
 unfold qAY
 rw[bnd (qJv hi).1,bnd (qIc hm).1]
theorem qVj {l:List Item} (h:qEI l) (i k:Int):∃b,qHH l i k=some b∧qFW l i k=some b∧(b=true→∃it m,0≤i∧0≤k∧qAV l i=some it∧qAV it.marks k=some m∧it∈l):=by
 unfold qHH qFW
 have h14:=h.1
 rw[qAD (by omega)]
 obtain⟨a,a1,a2,a3⟩:=qEn i 0 ((l.length:Int)-1)
 rw[bnd a1,bnd a2]
 cases a
 ·exact⟨false,rfl,rfl,fun h=>by cases h⟩
 ·obtain⟨i0,i1⟩:=a3.1 rfl
  obtain⟨n,rfl⟩:=Int.eq_ofNat_of_zero_le i0
  have hn:n<l.length:=by omega
  have hg:qAV l (n:Int)=some l[n]:=by rw[qEp rfl];exact List.getElem?_eq_getElem hn
  have hit:=h.2 l[n] (List.getElem_mem hn)
  have hl3:=hit.1.2
  have hml:=hit.2
  simp only[qCV,hg,oB9]
  rw[qAD (by omega)]
  obtain⟨b,b1,b2,b3⟩:=qEn k 0 ((l[n].names.length:Int)-1)
  rw[bnd b1,bnd b2]
  refine⟨b,rfl,rfl,fun hb=>?_⟩
  obtain⟨k0,k1⟩:=b3.1 hb
  obtain⟨q,rfl⟩:=Int.eq_ofNat_of_zero_le k0
  exact⟨l[n],l[n].marks[q]'(by omega),i0,k0,rfl,by rw[qEp rfl];exact List.getElem?_eq_getElem _,List.getElem_mem hn⟩
theorem qV7 (m:Marks):∃r:Marks×Bool,qIy m=some r∧qGV m=some r∧(r.2=true→r.1=m∧qGy m):=by
 unfold qIy qGV
 obtain⟨b,b1,b2,b3⟩:=qHf m
 rw[bnd b1,bnd b2]
 cases b
 ·exact⟨_,rfl,rfl,fun h=>by cases h⟩
 ·exact⟨_,rfl,rfl,fun _=>⟨rfl,b3.1 rfl⟩⟩
theorem qNa {m:Marks} (h:qGy m) (j:Int):∃(b:Bool) (r:List Int),qFq m j=some b∧qGY m j=some b∧qAV m.components 0=some r∧(3≤r.length∧r.length≤9)∧(b=true↔0≤j∧j≤(r.length:Int)-1)∧(b=true→(∀g∈m.grades,qRJ g j)∧∀g∈m.components,qRJ g j):=by
 obtain⟨r,r1,r2,r3⟩:=qNV h
 obtain⟨a,a1,a2,a3⟩:=qHf m
 obtain rfl:=a3.2 h
 obtain⟨b,b1,b2,b3⟩:=qEn j 0 ((r.length:Int)-1)
 refine⟨b,r,?_,?_,r1,r2,b3,fun hb=>?_⟩
 ·unfold qFq qEB
  rw[bnd a2,qCV,bnd r1,oB9,qCV,qAD (by omega),bnd b2];rfl
 ·unfold qGY qAy
  rw[bnd a1,qCV,bnd r1,oB9,qCV,qAD (by omega),bnd b1];rfl
 ·obtain⟨c1,c2⟩:=r3 j (b3.1 hb).1 (by have:=(b3.1 hb).2;omega)
  exact⟨fun g hg=>(c1 g hg).1,fun g hg=>(c2 g hg).1⟩
theorem qTB {m:Marks} (h:qGy m) (i j g:Int):∃r:Marks×Bool,qFy m i j g=some r∧qFz m i j g=some r∧(r.2=true→qGy r.1∧r.1.grades.length=m.grades.length):=by
 unfold qFy qFz
 obtain⟨b,r,b1,b2,r1,r2,b3,b4⟩:=qNa h j
 rw[bnd b1,bnd b2]
 cases b
 ·exact⟨_,rfl,rfl,fun h=>by cases h⟩
 have h14:=h.1
 obtain⟨c,c1,c2,c3⟩:=qEn i 0 ((m.grades.length:Int)-1)
 simp only[Bool.not_true,Bool.not_false,qCV]
 rw[qAD (by omega),bnd c1,bnd c2]
 cases c
 ·exact⟨_,rfl,rfl,fun h=>by cases h⟩
 obtain⟨i0,i1⟩:=c3.1 rfl
 obtain⟨n,rfl⟩:=Int.eq_ofNat_of_zero_le i0
 have hn:n<m.grades.length:=by omega
 have hg:qAV m.grades (n:Int)=some m.grades[n]:=by rw[qEp rfl];exact List.getElem?_eq_getElem hn
 obtain⟨x,hx⟩:=qMZ ((b4 rfl).1 _ (List.getElem_mem hn))
 simp only[Bool.not_true,Bool.or_self,cF]
 rw[bnd (qIc h).1,bnd (qIc h).2,bnd hg,bnd hg,bnd hx,bnd hx]
 obtain⟨q,q1,q2,q3⟩:=qV7 (Marks.mk (m.grades.set (n:Int).toNat (m.grades[n].set j.toNat g)) m.components)
 rw[bnd q1,bnd q2]
 refine⟨_,rfl,rfl,fun hq=>?_⟩
 obtain⟨e,e2⟩:=q3 hq
 show qGy q.1∧q.1.grades.length=_
 rw[e]
 exact⟨e2,by simp⟩
theorem qPN {m:Marks} (h:qGy m) (i j g:Int):∃r:Marks×Bool,qEC m i j g=some r∧qD7 m i j g=some r∧(r.2=true→qGy r.1∧r.1.grades.length=m.grades.length):=by
 unfold qEC qD7
 obtain⟨b,r,b1,b2,r1,r2,b3,b4⟩:=qNa h j
 rw[bnd b1,bnd b2]
 cases b
 ·exact⟨_,rfl,rfl,fun h=>by cases h⟩
 have h3:=h.2.1
 obtain⟨c,c1,c2,c3⟩:=qEn i 0 2
 simp only[Bool.not_true,Bool.not_false,qCV]
 rw[bnd c1,bnd c2]
 cases c
 ·exact⟨_,rfl,rfl,fun h=>by cases h⟩
 obtain⟨i0,i1⟩:=c3.1 rfl
 obtain⟨n,rfl⟩:=Int.eq_ofNat_of_zero_le i0
 have hn:n<m.components.length:=by omega
 have hg:qAV m.components (n:Int)=some m.components[n]:=by rw[qEp rfl];exact List.getElem?_eq_getElem hn
 obtain⟨x,hx⟩:=qMZ ((b4 rfl).2 _ (List.getElem_mem hn))
 simp only[Bool.not_true,Bool.or_self,cF]
 rw[bnd (qIc h).1,bnd (qIc h).2,bnd hg,bnd hg,bnd hx,bnd hx]
 obtain⟨q,q1,q2,q3⟩:=qV7 (Marks.mk m.grades (m.components.set (n:Int).toNat (m.components[n].set j.toNat g)))
 rw[bnd q1,bnd q2]
 refine⟨_,rfl,rfl,fun hq=>?_⟩
 obtain⟨e,e2⟩:=q3 hq
 show qGy q.1∧q.1.grades.length=_
 rw[e]
 exact⟨e2,rfl⟩
end
section
def qRO (l:List Item):List Item:=l.mapIdx fun i it=>Item.mk it.names it.marks (decide (2*(i:Int)≥(l.length:Int)))
theorem qYh (l x1:List Item) (hx:x1.length=l.length) (hl:l.length≤1000):∀(n fl:Nat) (dn rest:List Item),rest.length=n→n<fl→dn.length+n=l.length→
  qEt l x1 fl (dn++rest) (dn.length:Int)=some (dn++rest.mapIdx fun i it=>Item.mk it.names it.marks (decide (2*((dn.length+i:Nat):Int)≥(l.length:Int))))∧
  qDg x1 fl (dn++rest) (dn.length:Int)=some (dn++rest.mapIdx fun i it=>Item.mk it.names it.marks (decide (2*((dn.length+i:Nat):Int)≥(l.length:Int)))):=by
 intro n
 induction n with
 |zero =>
  intro fl dn rest h hf hd
  obtain⟨f,rfl⟩:=nZ9 (by omega:fl≠0)
  obtain rfl:=List.length_eq_zero_iff.1 h
  rw[qEt,qDg,dF (by omega),cF,cF]
  simp
 |succ n ih =>
  intro fl dn rest h hf hd
  obtain⟨f,rfl⟩:=nZ9 (by omega:fl≠0)
  obtain⟨y,ys,rfl⟩:=List.exists_cons_of_length_eq_add_one h
  simp only[List.length_cons]at h
  have hg:qAV (dn++y::ys) (dn.length:Int)=some y:=qDm rfl rfl
  have hs:∀z:Item,(dn++y::ys).set ((dn.length:Int)).toNat z=(dn++[z])++ys:=fun z=>by simp
  have e:w64 (2*(dn.length:Int))=2*(dn.length:Int):=qAD (by omega)
  have e1:w64 ((dn.length:Int)+1)=((dn.length+1:Nat):Int):=by rw[qAD (by omega)];omega
  have el:((dn++y::ys).length:Int)=(l.length:Int):=by simp;omega
  obtain⟨a,b⟩:=ih f (dn++[Item.mk y.names y.marks (decide (2*(dn.length:Int)≥(l.length:Int)))]) ys (by omega) (by omega) (by simp;omega)
  rw[show (dn++[Item.mk y.names y.marks (decide (2*(dn.length:Int)≥(l.length:Int)))]).length=dn.length+1 from by simp]at a b
  have ef:(dn++[Item.mk y.names y.marks (decide (2*(dn.length:Int)≥(l.length:Int)))])++(ys.mapIdx fun i it=>Item.mk it.names it.marks (decide (2*((dn.length+1+i:Nat):Int)≥(l.length:Int))))=dn++(y::ys).mapIdx fun i it=>Item.mk it.names it.marks (decide (2*((dn.length+i:Nat):Int)≥(l.length:Int))):=by
   rw[List.mapIdx_cons,List.append_assoc]
   simp only[Nat.add_zero,List.cons_append,List.nil_append,Nat.add_assoc,Nat.add_comm 1]
  rw[ef]at a b
  rw[qEt,qDg,dT (by omega),cW,cW,bnd hg]
  unfold qFt
  rw[oB9,bnd hg,hs,hs,e,e1,el]
  exact⟨a,b⟩
theorem qTZ {l:List Item} (h:qEI l) (fl:Nat) (hf:1048576<fl):qG9 fl l=some (qRO l)∧qFw fl l=some (qRO l):=by
 have h14:=h.1
 unfold qG9 qFw
 rw[bnd (qJv h).1,bnd (qJv h).2]
 have:=qYh l l rfl (by omega) l.length fl [] l rfl (by omega) (by simp)
 simpa [qRO]using this
theorem qJe {F:Nat} {c:Code} {p:Performance} {a i k m s:Bool} (ha:qDD F c=some a) (hi:qFM F p.items=some i) (hk:qFa c p.items=some k) (hm:qFF p.marks=some m) (hs:qHB p.slips=some s) :
  qBZ F c p=some (((((a&&i)&&k)&&(m&&((p.marks.grades.length:Int)==(p.items.length:Int))))&&s)):=by
 unfold qBZ qKL qKD qKK
 rw[ha,hi,hk,hm,hs]
 cases a<;>cases i<;>cases k<;>cases m<;>cases ((p.marks.grades.length:Int)==(p.items.length:Int))<;>cases s<;>rfl
theorem qNi {F:Nat} {c:Code} {p:Performance} {a i k m s:Bool} (ha:qBG F c=some a) (hi:qE0 F p.items=some i) (hk:qDp c p.items=some k) (hm:qDt p.marks=some m) (hs:qEF p.slips=some s) :
  qBj F c p=some (((((a&&i)&&k)&&(m&&((p.marks.grades.length:Int)==(p.items.length:Int))))&&s)):=by
 unfold qBj qIE qJ6 qIu
 rw[ha,hi,hk,hm,hs]
 cases a<;>cases i<;>cases k<;>cases m<;>cases ((p.marks.grades.length:Int)==(p.items.length:Int))<;>cases s<;>rfl
structure Val (F:Nat) (c:Code) (p:Performance):Prop where
 nc:qRM c
 nb:qVM p.items
 cs:qDD F c=some true
 ci:qBG F c=some true
 is:qFM F p.items=some true
 ii:qE0 F p.items=some true
 ks:qFa c p.items=some true
 ki:qDp c p.items=some true
 mg:qGy p.marks
 ln:p.marks.grades.length=p.items.length
 sg:qOT p.slips
theorem Val.perf {F:Nat} (hF:1048576<F) {c:Code} {p:Performance} (h:Val F c p):qX0 c p:=by
 obtain⟨a,a1,a2,a3⟩:=qMX c h.nc F hF
 obtain⟨i,i1,i2,i3⟩:=qNN p.items h.nb F hF
 obtain⟨k,k1,k2,k3⟩:=qM4 c p.items
 refine⟨a3 ?_,i3 ?_,k3.1 ?_,h.mg,h.ln,h.sg⟩
 ·rw[h.ci]at a1;exact(Option.some.inj a1).symm
 ·rw[h.ii]at i1;exact(Option.some.inj i1).symm
 ·rw[h.ki]at k1;exact(Option.some.inj k1).symm
theorem Val.good {F:Nat} {c:Code} {p:Performance} (h:Val F c p):qBZ F c p=some true∧qBj F c p=some true:=by
 obtain⟨m,m1,m2,m3⟩:=qHf p.marks
 obtain rfl:=m3.2 h.mg
 obtain⟨s,s1,s2,s3⟩:=qJq p.slips
 obtain rfl:=s3.2 h.sg
 have e:((p.marks.grades.length:Int)==(p.items.length:Int))=true:=by rw[h.ln];exact beq_self_eq_true _
 have:=qJe h.cs h.is h.ks m2 s2
 have h2:=qNi h.ci h.ii h.ki m1 s1
 rw[e]at this h2
 exact⟨this,h2⟩
theorem qXi {F:Nat} (hF:1048576<F) {c:Code} {p:Performance} (hc:qRM c) (hb:qVM p.items):∃b,qBZ F c p=some b∧qBj F c p=some b∧(b=true→Val F c p):=by
 obtain⟨a,a1,a2,a3⟩:=qMX c hc F hF
 obtain⟨i,i1,i2,i3⟩:=qNN p.items hb F hF
 obtain⟨k,k1,k2,k3⟩:=qM4 c p.items
 obtain⟨m,m1,m2,m3⟩:=qHf p.marks
 obtain⟨s,s1,s2,s3⟩:=qJq p.slips
 refine⟨_,qJe a2 i2 k2 m2 s2,qNi a1 i1 k1 m1 s1,fun h=>?_⟩
 simp only[Bool.and_eq_true]at h
 obtain⟨⟨⟨⟨rfl,rfl⟩,rfl⟩,rfl,h5⟩,rfl⟩:=h
 exact⟨hc,hb,a2,a1,i2,i1,k2,k1,m3.1 rfl,by have:=eq_of_beq h5;omega,s3.1 rfl⟩
theorem qKA {F:Nat} {x:CsState} {c:Code} {p:Performance} {b:Bool} (h:qBZ F c p=some b):qAM F x c p=some (bif b then (CsState.mk c p x.factor x.results x.no x.what x.lines,⟨#[111,107]⟩) else (x,⟨#[110,111]⟩)):=by
 unfold qAM
 rw[bnd h]
 cases b<;>rfl
end
section
theorem qYf (c:Code) (x:Element) (hc:c.elements.length≤1000):∀(n fl k:Nat),k+n=c.elements.length→n<fl→∃q:Nat,q≤c.elements.length∧qBr c x fl (k:Int)=some (q:Int)∧qBm c x fl (k:Int)=some (q:Int):=by
 intro n
 induction n with
 |zero =>
  intro fl k h hf
  obtain⟨f,rfl⟩:=nZ9 (by omega:fl≠0)
  rw[qBr,qBm,dF (by omega),qDa,oB9,oB9,Bool.false_and,cF,cF]
  exact⟨k,by omega,rfl,rfl⟩
 |succ n ih =>
  intro fl k h hf
  obtain⟨f,rfl⟩:=nZ9 (by omega:fl≠0)
  have hg:qAV c.elements (k:Int)=some (c.elements[k]'(by omega)):=by rw[qEp rfl];exact List.getElem?_eq_getElem _
  obtain⟨q,q1,q2,q3⟩:=ih f (k+1) (by omega) (by omega)
  rw[qBr,qBm,dT (by omega),qCV,hg,oB9,oB9,Bool.true_and,qAD (by omega),show (k:Int)+1=((k+1:Nat):Int) by omega,q2,q3]
  cases qMp (c.elements[k]'(by omega)).name x.name
  ·exact⟨k,by omega,rfl,rfl⟩
  ·exact⟨q,q1,rfl,rfl⟩
theorem qTR (s:ByteArray):∀(l:List Element) (k:Nat),fnd s l k<0↔∀x∈l,x.name≠s
 | [],k=>by simp[fnd]
 |y::ys,k=>by
  rw[fnd]
  by_cases h:y.name=s
  ·rw[if_pos h];constructor
   ·intro q;omega
   ·intro q;exact absurd h (q y (by simp))
  ·rw[if_neg h,qTR s ys (k+1)]
   simp[h]
theorem qTA {c c':Code} {l:List Item} (h:qGH c l) (hs:∀x∈c.elements,x∈c'.elements):qGH c' l:=fun it hi s hs' q=>by
 apply h it hi s hs'
 rw[qTR]at q⊢
 exact fun x hx=>q x (hs x hx)
theorem qNU {c:Code} {l:List Item} (h:qGH c l):qFa c l=some true∧qDp c l=some true:=by
 obtain⟨k,k1,k2,k3⟩:=qM4 c l
 obtain rfl:=k3.2 h
 exact⟨k2,k1⟩
theorem qMm {F:Nat} (hF:1048576<F) {c:Code} {p:Performance} (h:Val F c p):c.limits.length=5∧c.elements.length≤24:=⟨(h.perf hF).1.2.1,(h.perf hF).1.1.2⟩
theorem Val.code {F:Nat} (hF:1048576<F) {c c':Code} {p:Performance} (h:Val F c p) (hn:qRM c') (he:∀x∈c.elements,x∈c'.elements):∃b,qBG F c'=some b∧qDD F c'=some b∧qBZ F c' p=some b∧(b=true→Val F c' p):=by
 obtain⟨a,a1,a2,a3⟩:=qMX c' hn F hF
 obtain⟨k1,k2⟩:=qNU (qTA (h.perf hF).2.2.1 he)
 obtain⟨m,m1,m2,m3⟩:=qHf p.marks
 obtain rfl:=m3.2 h.mg
 obtain⟨s,s1,s2,s3⟩:=qJq p.slips
 obtain rfl:=s3.2 h.sg
 have e:((p.marks.grades.length:Int)==(p.items.length:Int))=true:=by rw[h.ln];exact beq_self_eq_true _
 have:=qJe a2 h.is k1 m2 s2
 rw[e]at this
 simp only[Bool.and_true]at this
 exact⟨a,a1,a2,this,fun ha=>⟨hn,h.nb,ha▸a2,ha▸a1,h.is,h.ii,k1,k2,h.mg,h.ln,h.sg⟩⟩
theorem qOy {F:Nat} (hF:1048576<F) {c:Code} {p:Performance} (h:Val F c p) (x:Element) (hx:x.name.size≤1048576):∃r:Code×Bool,qE5 F c x=some r∧qE9 F c x=some r∧(r.2=true→Val F r.1 p∧qBZ F r.1 p=some true):=by
 obtain⟨l5,l24⟩:=qMm hF h
 unfold qE5 qE9
 rw[bnd h.cs,bnd h.ci,Bool.not_true,cF,cF]
 unfold qFD
 rw[ndf (by omega) (by omega),oB9,bnd (qSc c.limits (by omega)),oB9]
 obtain⟨q,q1,q2,q3⟩:=qYf c x (by omega) c.elements.length F 0 (by omega) (by omega)
 rw[show ((0:Nat):Int)=0 from rfl]at q2 q3
 have hi:qFj c.elements (q:Int)=some (c.elements.take q):=by unfold qFj;rw[if_pos (by omega)];rfl
 have lo:qC7 c.elements (q:Int)=some (c.elements.drop q):=by unfold qC7;rw[if_pos (by omega)];rfl
 have hins:qDn c.elements (q:Int) [x]=some ((c.elements.take q++[x])++c.elements.drop q):=by
  unfold qDn
  rw[dT (by omega),dT (by omega),qRg (by omega) (by omega)]
  rfl
 rw[bnd q2,bnd q3,bnd hi,ndf (by omega) (by simp;omega),oB9,ndf (by omega) (by simp;omega),oB9,bnd lo,ndf (by omega) (by simp;omega),oB9,oB9,bnd hins]
 unfold qL7 qF4
 rw[bnd (qO5 c.limits (by omega))]
 have hm:∀z,z∈(c.elements.take q++[x])++c.elements.drop q↔z∈c.elements∨z=x:=fun z=>by
  have e:z∈c.elements↔z∈c.elements.take q∨z∈c.elements.drop q:=by rw[←List.mem_append,List.take_append_drop]
  rw[e,List.mem_append,List.mem_append,List.mem_singleton]
  constructor
  ·rintro ((h|h)|h)
   ·exact .inl (.inl h)
   ·exact .inr h
   ·exact .inl (.inr h)
  ·rintro ((h|h)|h)
   ·exact .inl (.inl h)
   ·exact .inr h
   ·exact .inl (.inr h)
 obtain⟨b,b1,b2,b3,b4⟩:=h.code hF (c':=Code.mk ((c.elements.take q++[x])++c.elements.drop q) c.limits c.repeats c.bonus c.keeps c.fall)
  ⟨by simp;omega,fun z hz=>by rcases (hm z).1 hz with hz|rfl;exact h.nc.2 z hz;exact hx⟩ (fun z hz=>(hm z).2 (.inl hz))
 rw[bnd b1,bnd b2]
 cases b
 ·exact⟨_,rfl,rfl,fun h=>by cases h⟩
 ·exact⟨_,rfl,rfl,fun _=>⟨b4 rfl,b3⟩⟩
theorem qQp {F:Nat} (hF:1048576<F) {c:Code} {p:Performance} (h:Val F c p):qF4 F c c.elements=some (c,true):=by
 obtain⟨l5,l24⟩:=qMm hF h
 unfold qF4
 rw[bnd (qO5 c.limits (by omega))]
 show (qBG F c).bind _=_
 rw[bnd h.ci];rfl
end
section
theorem qCh (s:ByteArray):(toL s).length=s.size:=(Go.Lib.size_eq s).symm
theorem qYv (s p:ByteArray) (hs:s.size≤1048576) (hp:p.size≤1048576):(∃r,qBf s p=some (r,true)∧toL s=toL p++toL r)∨((∀t,toL s≠toL p++t)∧qBf s p=some (s,false)):=by
 have hsz:=qCh s
 have hpz:=qCh p
 unfold qBf qFH qFR
 by_cases h1:(s.size:Int)≥(p.size:Int)
 ·rw[dT h1,qCV,show inB 0 (p.size:Int) s.size=true from by unfold inB;simp;omega,qD3,oB9,oB9,Bool.true_and]
  have hx:toL (ByteArray.extract s 0 ((p.size:Int)).toNat)=(toL s).take p.size:=by
   rw[show toL (ByteArray.extract s 0 ((p.size:Int)).toNat)=((toL s).drop 0).take (p.size-0) from Go.Lib.extract_data s 0 p.size];rfl
  have hy:toL (ByteArray.extract s ((p.size:Int)).toNat s.size)=(toL s).drop p.size:=Go.Lib.extract_to_end s p.size
  by_cases he:ByteArray.extract s 0 ((p.size:Int)).toNat=p
  ·rw[dT he,Bool.not_true,cF,show inB (p.size:Int) s.size s.size=true from by unfold inB;simp;omega,qD3,oB9,oB9]
   refine .inl ⟨_,rfl,?_⟩
   show toL s=toL p++toL (ByteArray.extract s ((p.size:Int)).toNat s.size)
   rw[hy,←congrArg toL he,hx,List.take_append_drop]
  ·rw[dF he,Bool.not_false,cW,oB9]
   refine .inr ⟨fun t ht=>he (qGI ?_),rfl⟩
   rw[hx,ht,←hpz,List.take_left]
 ·rw[dF h1,qDa,oB9,Bool.false_and,oB9,Bool.not_false,cW,oB9]
  refine .inr ⟨fun t ht=>?_,rfl⟩
  have:=congrArg List.length ht
  rw[List.length_append]at this
  omega
theorem qYX (s p:ByteArray) (hs:s.size≤1048576) (hp:p.size≤1048576):(∃r,qC6 s p=some (r,true)∧toL s=toL r++toL p)∨((∀t,toL s≠t++toL p)∧qC6 s p=some (s,false)):=by
 have hsz:=qCh s
 have hpz:=qCh p
 unfold qC6 qFP qFL
 by_cases h1:(s.size:Int)≥(p.size:Int)
 ·have hn:w64 ((s.size:Int)-(p.size:Int))=((s.size-p.size:Nat):Int):=by rw[qAD (by omega)];omega
  rw[dT h1,qCV,hn,show inB ((s.size-p.size:Nat):Int) s.size s.size=true from by unfold inB;simp,qD3,oB9,oB9,Bool.true_and,Int.toNat_natCast]
  have hex:toL (ByteArray.extract s (s.size-p.size) s.size)=(toL s).drop (s.size-p.size):=Go.Lib.extract_to_end s (s.size-p.size)
  have hx:toL (ByteArray.extract s 0 (s.size-p.size))=(toL s).take (s.size-p.size):=by
   rw[show toL (ByteArray.extract s 0 (s.size-p.size))=_ from Go.Lib.extract_data s 0 (s.size-p.size)];rw[List.drop_zero,Nat.sub_zero]
  by_cases he:ByteArray.extract s (s.size-p.size) s.size=p
  ·rw[dT he,Bool.not_true,cF,show inB 0 ((s.size-p.size:Nat):Int) s.size=true from by unfold inB;simp,qD3,oB9,oB9]
   refine .inl ⟨_,rfl,?_⟩
   show toL s=toL (ByteArray.extract s 0 (s.size-p.size))++toL p
   rw[hx,←congrArg toL he,hex,List.take_append_drop]
  ·rw[dF he,Bool.not_false,cW,oB9]
   refine .inr ⟨fun t ht=>he (qGI ?_),rfl⟩
   have hl:=congrArg List.length ht
   rw[List.length_append]at hl
   rw[hex,ht,show s.size-p.size=t.length by omega,List.drop_left]
 ·rw[dF h1,qDa,oB9,Bool.false_and,oB9,Bool.not_false,cW,oB9]
  refine .inr ⟨fun t ht=>?_,rfl⟩
  have:=congrArg List.length ht
  rw[List.length_append]at this
  omega
theorem qMJ (s:ByteArray) (hs:s.size≤1048576) (F:Nat) (hF:12<F):(qRI (toL s)∧(toL s).length≤6∧qDF F s=some (qMO (toL s):Int))∨(¬(qRI (toL s)∧(toL s).length≤6)∧qDF F s=some (-1)):=by
 have hsz:s.size=(toL s).length:=Go.Lib.size_eq s
 unfold qDF
 obtain⟨b,b1,b2⟩:=qDe (s.size:Int) 1 6
 rw[bnd b1]
 cases b
 ·simp only[Bool.not_false,Bool.not_true,qDa,oB9,Bool.true_or,cW]
  refine .inr ⟨fun h=>?_,trivial⟩
  have hpos:=List.length_pos_iff.2 h.1.1
  have:=b2.2 (by omega)
  cases this
 ·have hr:=b2.1 rfl
  have hpos:0<(toL s).length:=by omega
  simp only[Bool.not_true,Bool.not_false,qCV,Bool.false_or]
  rw[qME (i:=0) (k:=0) rfl,List.getElem?_eq_getElem hpos,oB9]
  have hl:=qWU s (by omega) s.size F 0 0 (by omega) (by omega) (by rfl) (by intro x hx;simp at hx)
  have hhd:(toL s).head?=some (toL s)[0]:=by rw[List.head?_eq_getElem?,List.getElem?_eq_getElem hpos]
  cases hc:((((toL s)[0].toNat:Int)==48)&&decide ((s.size:Int)>1))
  ·rw[cF]
   by_cases hd:qVL (toL s)
   ·refine .inl ⟨⟨List.length_pos_iff.1 hpos,hd,fun h1 h2=>?_⟩,by omega,(hl.1 hd).2⟩
    rw[hhd]at h2
    rw[Option.some.inj h2,dT (by omega)]at hc
    cases hc
   ·exact .inr ⟨fun h=>hd h.1.2.1,(hl.2 hd).2⟩
  ·rw[cW]
   rw[Bool.and_eq_true,beq_iff_eq,decide_eq_true_iff]at hc
   refine .inr ⟨fun h=>absurd ?_ (h.1.2.2 (by omega)),rfl⟩
   rw[hhd,show (toL s)[0]=48 from UInt8.toNat_inj.1 (by show _=48;omega)]
theorem qLA {l:List UInt8} (h:qRI l) (k:Nat) (hv:qMO l<10 ^ (k+1)):l.length≤k+1:=by
 have:=qQD k (qMO l) hv
 rwa [qUd _ l rfl h]at this
def isN (w:ByteArray) (n:Int):Prop:=qRI (toL w)∧n=(qMO (toL w):Int)∧n≤9999
def isG (w:ByteArray) (n:Int):Prop:=isN w n∨∃t,toL w=45::t∧qRI t∧n=-(qMO t:Int)∧0<qMO t∧qMO t≤9999
theorem qWX {w:ByteArray} {n:Int} (h:isN w n):0≤n∧n≤9999:=by obtain⟨_,rfl,h⟩:=h;omega
theorem qXY {w:ByteArray} {n:Int} (h:isG w n):-9999≤n∧n≤9999:=by
 rcases h with h|⟨t,_,_,rfl,_,_⟩
 ·have:=qWX h;omega
 ·omega
theorem qYc (w:ByteArray) (hs:w.size≤1048576) (F:Nat) (hF:12<F):(∃n,isN w n∧qCl F 110 w=some (n,true))∨((∀n,¬isN w n)∧∃q,qCl F 110 w=some (q,false)):=by
 unfold qCl
 rw[show ((110:Int)==110)=true from rfl,cW]
 obtain⟨r,r1,r2,r3⟩:=qNC w hs F hF
 rw[bnd r1]
 cases hr:r.2
 ·refine .inr ⟨fun n hn=>?_,_,rfl⟩
  have h4:=qLA hn.1 3 (by have:=hn.2;omega)
  rw[r2.2 ⟨hn.1,by omega⟩]at hr
  cases hr
 ·have hv:=r3 hr
  by_cases h9:r.1≤9999
  ·rw[dT h9]
   exact .inl ⟨_,⟨(r2.1 hr).1,hv,h9⟩,rfl⟩
  ·rw[dF h9]
   exact .inr ⟨fun n hn=>h9 (by rw[hv,←hn.2.1];exact hn.2.2),_,rfl⟩
theorem qOK {w:ByteArray} {t:List UInt8} (h:toL w=45::t):¬qRI (toL w):=fun hc=>by
 have:=hc.2.1 45 (by rw[h];simp)
 simp at this
theorem qYd (w:ByteArray) (hs:w.size≤1048576) (F:Nat) (hF:12<F):(∃n,isG w n∧qCl F 103 w=some (n,true))∨((∀n,¬isG w n)∧∃q,qCl F 103 w=some (q,false)):=by
 unfold qCl
 rw[show ((103:Int)==110)=false from rfl,cF,show ((103:Int)==103)=true from rfl,cW]
 unfold qJW qKm
 have e45:toL (⟨#[45]⟩:ByteArray)=[45]:=rfl
 rcases qYv w ⟨#[45]⟩ hs (by show 1≤_;omega) with⟨x,x1,x2⟩|⟨x1,x2⟩
 ·have hx:x.size≤1048576:=by have:=congrArg List.length x2;rw[List.length_append,e45,qCh,qCh]at this;simp at this;omega
  obtain⟨r,r1,r2,r3⟩:=qNC x hx F hF
  rw[bnd x1,bnd r1]
  have hno:=qOK x2
  simp only[Bool.true_and,cW]
  cases hc:((!r.2)||(r.1==0))
  ·rw[cF]
   rw[Bool.or_eq_false_iff,Bool.not_eq_false',beq_eq_false_iff_ne]at hc
   have hv:=r3 hc.1
   have hl:=r2.1 hc.1
   have hlt:=qSJ _ (toL x) rfl hl.1.2.1
   have hp:10 ^ (toL x).length≤10 ^ 12:=Nat.pow_le_pow_right (by omega) hl.2
   have h0:=hc.2
   rw[qAD (by omega)]
   simp only[oB9,qCV]
   rw[qAD (by omega)]
   by_cases h9:max (-r.1) (- -r.1)≤9999
   ·rw[dT h9]
    exact .inl ⟨_,.inr ⟨toL x,x2,hl.1,by rw[hv],by omega,by omega⟩,rfl⟩
   ·rw[dF h9]
    refine .inr ⟨fun n hn=>?_,_,rfl⟩
    rcases hn with hn|⟨t,t1,t2,t3,t4,t5⟩
    ·exact hno hn.1
    ·have:toL x=t:=by rw[t1]at x2;exact(List.cons.inj x2).2.symm
     rw[this]at hv
     omega
  ·rw[cW]
   simp only[oB9,qDa]
   refine .inr ⟨fun n hn=>?_,_,rfl⟩
   rcases hn with hn|⟨t,t1,t2,t3,t4,t5⟩
   ·exact hno hn.1
   ·have:toL x=t:=by rw[t1]at x2;exact(List.cons.inj x2).2.symm
    subst this
    have h4:=qLA t2 3 (by omega)
    have e:=r2.2 ⟨t2,by omega⟩
    rw[e,r3 e]at hc
    simp at hc
    omega
 ·obtain⟨r,r1,r2,r3⟩:=qNC w hs F hF
  rw[bnd x2,bnd r1]
  simp only[Bool.false_and,Bool.or_false,cF]
  cases hr:r.2
  ·simp only[Bool.not_false,cW,oB9,qDa]
   refine .inr ⟨fun n hn=>?_,_,rfl⟩
   rcases hn with hn|⟨t,t1,_⟩
   ·have h4:=qLA hn.1 3 (by have:=hn.2;omega)
    rw[r2.2 ⟨hn.1,by omega⟩]at hr
    cases hr
   ·exact x1 t t1
  ·have hv:=r3 hr
   have hl:=r2.1 hr
   have hlt:=qSJ _ (toL w) rfl hl.1.2.1
   have hp:10 ^ (toL w).length≤10 ^ 12:=Nat.pow_le_pow_right (by omega) hl.2
   simp only[Bool.not_true,cF,oB9,qCV]
   rw[qAD (by omega)]
   by_cases h9:max r.1 (-r.1)≤9999
   ·rw[dT h9]
    exact .inl ⟨_,.inl ⟨hl.1,hv,by omega⟩,rfl⟩
   ·rw[dF h9]
    refine .inr ⟨fun n hn=>?_,_,rfl⟩
    rcases hn with hn|⟨t,t1,_⟩
    ·have:=hn.2;omega
    ·exact x1 t t1
end
section
theorem qXR (F:Nat) (hF:100<F) (n:Int) (h:-9999999999≤n∧n≤9999999999):∃t,qDR F n=some t∧qCA n=some t∧toL t=(if n<0 then 45::qQK (-n).toNat else qQK n.toNat)∧t.size≤11:=by
 have hit:∃t,qCA n=some t∧toL t=(if n<0 then 45::qQK (-n).toNat else qQK n.toNat):=by
  unfold qCA
  rw[show qAz (decide (-9223372036854775808≤n)&&decide (n≤9223372036854775807))=some () from by rw[dT (by omega),dT (by omega)];rfl,oB9]
  refine⟨_,rfl,?_⟩
  show (Go.Lib.itoa n).toArray.toList=_
  unfold Go.Lib.itoa
  by_cases h0:n<0
  ·rw[if_pos h0,if_pos h0,qUS,show n.natAbs=(-n).toNat by omega]
  ·rw[if_neg h0,if_neg h0,qUS]
 obtain⟨t,t1,t2⟩:=hit
 unfold qDR
 by_cases h0:n<0
 ·rw[dT h0,cW,qAD (by omega)]
  obtain⟨q,q1,q2⟩:=qYO F 9 F (-n).toNat (by omega) (by omega) (by omega)
  rw[Int.toNat_of_nonneg (by omega)]at q1
  have hq:q.size≤10:=by rw[←qCh,q2];exact qQD 9 _ (by omega)
  have e1:(⟨#[45]⟩:ByteArray).size=1:=rfl
  rw[bnd q1,nd (by omega),oB9]
  rw[if_pos h0]at t2
  have e:(⟨#[45]⟩:ByteArray)++q=t:=qGI (by rw[qIl,q2,t2];rfl)
  exact⟨t,by rw[e],t1,by rw[t2,if_pos h0],by rw[←e,ByteArray.size_append];omega⟩
 ·rw[dF h0,cF]
  obtain⟨q,q1,q2⟩:=qYO F 9 F n.toNat (by omega) (by omega) (by omega)
  rw[Int.toNat_of_nonneg (by omega)]at q1
  have hq:q.size≤10:=by rw[←qCh,q2];exact qQD 9 _ (by omega)
  rw[if_neg h0]at t2
  have e:q=t:=qGI (by rw[q2,t2])
  rw[bnd q1,e]
  exact⟨t,rfl,t1,by rw[t2,if_neg h0],by rw[←e];omega⟩
theorem qUw (s:ByteArray) (hs:s.size≤1048576) (F:Nat) (hF:12<F):∃v,qHD F s=some v∧(-999999≤v∧v≤999999)∧(v<0→∃t,toL s=45::t∧qRI t∧v=-(qMO t:Int)∧0<qMO t)∧(∀t,toL s=45::t→qRI t→t.length≤6→v=-(qMO t:Int)):=by
 have hsz:=qCh s
 unfold qHD
 have key:∀(q:ByteArray),q.size≤1048576→qRI (toL q)→(toL q).length≤6→(qMO (toL q):Int)≤999999:=fun q hq hc h6=>by
  have:=qSJ _ (toL q) rfl hc.2.1
  have:10 ^ (toL q).length≤10 ^ 6:=Nat.pow_le_pow_right (by omega) h6
  omega
 have pos:qDF F s=qDF F s→(∀t,toL s=45::t→¬qRI t)→∃v,((qDF F s).bind fun x7=>cond (decide (x7≥0)) (some (w64 (1*x7))) (some 9999))=some v∧(-999999≤v∧v≤999999)∧(v<0→∃t,toL s=45::t∧qRI t∧v=-(qMO t:Int)∧0<qMO t)∧(∀t,toL s=45::t→qRI t→t.length≤6→v=-(qMO t:Int)):=fun _ hno=>by
  rcases qMJ s hs F hF with⟨c1,c2,c3⟩|⟨_,c3⟩
  ·have:=key s hs c1 c2
   rw[bnd c3,dT (by omega),cW,Int.one_mul,qAD (by omega)]
   exact⟨_,rfl,by omega,fun h=>by omega,fun t h1 h2=>absurd h2 (hno t h1)⟩
  ·rw[bnd c3]
   exact⟨9999,rfl,by omega,fun h=>by omega,fun t h1 h2=>absurd h2 (hno t h1)⟩
 by_cases h1:(s.size:Int)>1
 ·rw[dT h1,qCV,qME (i:=0) (k:=0) rfl,List.getElem?_eq_getElem (show 0<(toL s).length by omega),oB9,Bool.true_and]
  by_cases h45:(toL s)[0]'(by omega)=45
  ·rw[h45,show (((45:UInt8).toNat:Int)==45)=true from rfl,cW,show inB 1 s.size s.size=true from by unfold inB;simp;omega,qD3,oB9]
   have hx:toL (ByteArray.extract s (1:Int).toNat s.size)=(toL s).drop 1:=Go.Lib.extract_to_end s 1
   have hd:toL s=45::(toL s).drop 1:=by
    cases hq:toL s with
    |nil=>rw[hq]at hsz;simp at hsz;omega
    |cons a b=>simp only[hq,List.getElem_cons_zero]at h45;rw[h45];rfl
   have hxs:(ByteArray.extract s (1:Int).toNat s.size).size≤1048576:=by rw[←qCh,hx,List.length_drop];omega
   rcases qMJ _ hxs F hF with⟨c1,c2,c3⟩|⟨c1,c3⟩
   ·have:=key _ hxs c1 c2
    rw[hx]at c1 c2 c3 this
    rw[bnd c3,dT (by omega),cW,qAD (by omega)]
    refine⟨_,rfl,by omega,fun h=>⟨_,hd,c1,by omega,by omega⟩,fun t t1 _ _=>?_⟩
    rw[hd]at t1
    rw[(List.cons.inj t1).2];omega
   ·rw[hx]at c1
    rw[bnd c3]
    refine⟨9999,rfl,by omega,fun h=>by omega,fun t t1 t2 t3=>?_⟩
    rw[hd]at t1
    rw[(List.cons.inj t1).2]at c1
    exact absurd ⟨t2,t3⟩ c1
  ·rw[show ((((toL s)[0]'(by omega)).toNat:Int)==45)=false from by rw[beq_eq_false_iff_ne];intro e;exact h45 (UInt8.toNat_inj.1 (by show _=45;omega)),cF]
   refine pos rfl fun t ht=>?_
   exfalso;apply h45
   simp only[ht,List.getElem_cons_zero]
 ·rw[dF h1,qDa,oB9,Bool.false_and,cF]
  refine pos rfl fun t ht hc=>?_
  have:=congrArg List.length ht
  rw[List.length_cons]at this
  exact hc.1 (List.length_eq_zero_iff.1 (by omega))
theorem qSR (F:Nat) (hF:100<F) (W:List ByteArray) (sg:Bool) (y:ByteArray) (hy:y.size≤1048576) (ys:List ByteArray) (k:Nat) (v:List Int) (hW:W.length≤3000) (hv:v.length≤3000) :
  (∃n,(isN y n∨(sg=true∧k+1=W.length∧isG y n))∧qAW W sg F (y::ys) k v=qAW W sg F ys (k+1) (v++[n]))∨
  ((∀n,¬isN y n)∧(sg=true→k+1=W.length→∀n,¬isG y n)∧qAW W sg F (y::ys) k v=some ([],false))∨(W.length<k+1):=by
 by_cases hk:W.length<k+1
 ·exact .inr (.inr hk)
 rw[qAW]
 obtain⟨m,m1,m2,m3,m4⟩:=qUw y hy F (by omega)
 rw[bnd m1]
 rcases qMJ y hy F (by omega) with⟨c1,c2,c3⟩|⟨c1,c3⟩
 ·rw[bnd c3,dT (by omega),cW]
  by_cases h9:(qMO (toL y):Int)>9999
  ·rw[dT h9,Bool.true_or,cW]
   refine .inr (.inl ⟨fun n hn=>by have:=hn.2;omega,fun _ _ n hn=>?_,rfl⟩)
   rcases hn with hn|⟨t,t1,t2,_⟩
   ·have:=hn.2;omega
   ·exact qOK t1 c1
  ·rw[dF h9,Bool.false_or,dF (by omega),cF,ndf (by omega) (by simp;omega),oB9]
   exact .inl ⟨_,.inl ⟨c1,rfl,by omega⟩,rfl⟩
 ·have hnN:∀n,¬isN y n:=fun n hn=>c1 ⟨hn.1,by have:=qLA hn.1 3 (by have:=hn.2;omega);omega⟩
  rw[bnd c3,show decide ((-1:Int)≥0)=false from rfl,cF]
  cases hsg:sg
  ·simp only[Bool.not_false,Bool.true_or,Bool.not_true,qDa,oB9,cW]
   exact .inr (.inl ⟨hnN,(fun h=>by cases h),trivial⟩)
  simp only[Bool.not_true,Bool.false_or]
  rw[qAD (by omega)]
  by_cases hl:(k:Int)<(W.length:Int)-1
  ·rw[dT hl]
   simp only[Bool.true_or,Bool.not_true,qDa,oB9,cW]
   exact .inr (.inl ⟨hnN,fun _ h=>by omega,trivial⟩)
  rw[dF hl,Bool.false_or]
  by_cases h0:m≥0
  ·rw[dT h0]
   simp only[Bool.true_or,Bool.not_true,qDa,oB9,cW]
   refine .inr (.inl ⟨hnN,fun _ _ n hn=>?_,trivial⟩)
   rcases hn with hn|⟨t,t1,t2,t3,t4,t5⟩
   ·exact hnN n hn
   ·have:=m4 t t1 t2 (by have:=qLA t2 3 (by omega);omega)
    omega
  ·rw[dF h0]
   obtain⟨t,t1,t2,t3,t4⟩:=m3 (by omega)
   obtain⟨q,q1,_,q2,_⟩:=qXR F hF m (by omega)
   rw[if_pos (by omega),show (-m).toNat=qMO t by omega,qUd _ t rfl t2]at q2
   have e:q=y:=qGI (by rw[q2,t1])
   simp only[Bool.not_false,qCV,Bool.false_or]
   rw[bnd q1,dT e,Bool.not_true,cF]
   by_cases h9:m < -9999
   ·rw[dT h9,Bool.or_true,cW]
    refine .inr (.inl ⟨hnN,fun _ _ n hn=>?_,rfl⟩)
    rcases hn with hn|⟨t',s1,s2,s3,s4,s5⟩
    ·exact hnN n hn
    ·rw[t1]at s1
     rw[←(List.cons.inj s1).2]at s5
     omega
   ·rw[dF h9,Bool.or_false,dF (by omega),cF,ndf (by omega) (by simp;omega),oB9]
    exact .inl ⟨m,.inr ⟨trivial,by omega,.inr ⟨t,t1,t2,t3,t4,by omega⟩⟩,rfl⟩
end
section
theorem qPA (F:Nat) (hF:100<F) (S:ScriptState) (x5:List ByteArray) (x7:ByteArray) (x9:ByteArray×Bool) (sg:Bool) (W zs:List ByteArray) (d:Nat) (hW:W.length≤2500)
  (hform:∀i:Nat,i<W.length→qNk x9.1 ((i+d:Nat):Int)=some (if sg=true∧i+1=W.length then (103:UInt8) else 110)):∀(ys:List ByteArray) (k:Nat) (v v':List Int),k+ys.length=W.length→(∀y∈ys,y.size≤1048576)→v.length+ys.length≤2500→v'.length+ys.length≤2600→
  (∃L:List Int,L.length=ys.length∧(∀n∈L,-9999≤n∧n≤9999)∧(sg=false→∀n∈L,0≤n)∧qAW W sg F ys k v=some (v++L,true)∧qAA S F x5 x7 x9 (ys++zs) (k+d) v'=qAA S F x5 x7 x9 zs (W.length+d) (v'++L))∨
  (qAW W sg F ys k v=some ([],false)∧qAA S F x5 x7 x9 (ys++zs) (k+d) v'=some (S,⟨#[119,104,97,116]⟩)):=by
 intro ys
 induction ys with
 |nil =>
  intro k v v' hk _ _ _
  refine .inl ⟨[],rfl,by simp,by simp,by rw[qAW,List.append_nil],?_⟩
  rw[List.append_nil,List.nil_append,←hk];rfl
 |cons y ys ih =>
  intro k v v' hk hy hv hv'
  simp only[List.length_cons]at hk hv hv'
  have hyb:=hy y (by simp)
  have hst:=qSR F hF W sg y hyb ys k v (by omega) (by omega)
  have hf:=hform k (by omega)
  have cont:∀n:Int,(-9999≤n∧n≤9999)→(sg=false→0≤n)→qAW W sg F (y::ys) k v=qAW W sg F ys (k+1) (v++[n])→qAA S F x5 x7 x9 (y::ys++zs) (k+d) v'=qAA S F x5 x7 x9 (ys++zs) (k+d+1) (v'++[n])→
    (∃L:List Int,L.length=(y::ys).length∧(∀n∈L,-9999≤n∧n≤9999)∧(sg=false→∀n∈L,0≤n)∧qAW W sg F (y::ys) k v=some (v++L,true)∧qAA S F x5 x7 x9 (y::ys++zs) (k+d) v'=qAA S F x5 x7 x9 zs (W.length+d) (v'++L))∨
    (qAW W sg F (y::ys) k v=some ([],false)∧qAA S F x5 x7 x9 (y::ys++zs) (k+d) v'=some (S,⟨#[119,104,97,116]⟩)):=fun n hb h0 e1 e2=>by
   rw[e1,e2]
   have:=ih (k+1) (v++[n]) (v'++[n]) (by omega) (fun z hz=>hy z (by simp[hz])) (by simp;omega) (by simp;omega)
   rw[show k+1+d=k+d+1 by omega]at this
   rcases this with⟨L,l1,l2,l3,l4,l5⟩|⟨a,b⟩
   ·refine .inl ⟨n::L,by simp[l1],fun z hz=>?_,fun hs z hz=>?_,by rw[l4,List.append_assoc];rfl,by rw[l5,List.append_assoc];rfl⟩
    ·rcases List.mem_cons.1 hz with rfl|hz
     ·exact hb
     ·exact l2 z hz
    ·rcases List.mem_cons.1 hz with rfl|hz
     ·exact h0 hs
     ·exact l3 hs z hz
   ·exact .inr ⟨a,b⟩
  by_cases hlast:sg=true∧k+1=W.length
  ·rw[if_pos hlast]at hf
   rcases qYd y hyb F (by omega) with⟨n,n1,n2⟩|⟨n1,q,n2⟩
   ·have e2:qAA S F x5 x7 x9 (y::ys++zs) (k+d) v'=qAA S F x5 x7 x9 (ys++zs) (k+d+1) (v'++[n]):=by
     rw[List.cons_append,qAA,bnd hf,show (((103:UInt8).toNat:Int))=103 from rfl,bnd n2,Bool.not_true,cF,ndf (by omega) (by simp;omega),oB9]
    rcases hst with⟨m,m1,m2⟩|⟨m1,m2,m3⟩|h
    ·have hm:isG y m:=m1.elim .inl fun h=>h.2.2
     have:m=n:=by
      rcases n1 with n1|⟨t,t1,t2,t3,_⟩
      ·rcases hm with hm|⟨t',s1,s2,_⟩
       ·rw[hm.2.1,n1.2.1]
       ·exact absurd n1.1 (qOK s1)
      ·rcases hm with hm|⟨t',s1,s2,s3,_⟩
       ·exact absurd hm.1 (qOK t1)
       ·rw[t1]at s1
        rw[s3,t3,(List.cons.inj s1).2]
     subst this
     exact cont m (qXY hm) (fun h=>by rw[hlast.1]at h;cases h) m2 e2
    ·exact absurd n1 (m2 hlast.1 hlast.2 n)
    ·omega
   ·have e2:qAA S F x5 x7 x9 (y::ys++zs) (k+d) v'=some (S,⟨#[119,104,97,116]⟩):=by
     rw[List.cons_append,qAA,bnd hf,show (((103:UInt8).toNat:Int))=103 from rfl,bnd n2,Bool.not_false,cW]
    rcases hst with⟨m,m1,m2⟩|⟨m1,m2,m3⟩|h
    ·exact absurd (m1.elim .inl fun h=>h.2.2) (n1 m)
    ·exact .inr ⟨m3,e2⟩
    ·omega
  ·rw[if_neg hlast]at hf
   rcases qYc y hyb F (by omega) with⟨n,n1,n2⟩|⟨n1,q,n2⟩
   ·have e2:qAA S F x5 x7 x9 (y::ys++zs) (k+d) v'=qAA S F x5 x7 x9 (ys++zs) (k+d+1) (v'++[n]):=by
     rw[List.cons_append,qAA,bnd hf,show (((110:UInt8).toNat:Int))=110 from rfl,bnd n2,Bool.not_true,cF,ndf (by omega) (by simp;omega),oB9]
    rcases hst with⟨m,m1,m2⟩|⟨m1,m2,m3⟩|h
    ·rcases m1 with m1|m1
     ·obtain rfl:m=n:=by rw[m1.2.1,n1.2.1]
      have:=qWX m1
      exact cont m (by omega) (fun _=>this.1) m2 e2
     ·exact absurd ⟨m1.1,m1.2.1⟩ hlast
    ·exact absurd n1 (m1 n)
    ·omega
   ·have e2:qAA S F x5 x7 x9 (y::ys++zs) (k+d) v'=some (S,⟨#[119,104,97,116]⟩):=by
     rw[List.cons_append,qAA,bnd hf,show (((110:UInt8).toNat:Int))=110 from rfl,bnd n2,Bool.not_false,cW]
    rcases hst with⟨m,m1,m2⟩|⟨m1,m2,m3⟩|h
    ·rcases m1 with m1|m1
     ·exact absurd m1 (n1 m)
     ·exact absurd ⟨m1.1,m1.2.1⟩ hlast
    ·exact .inr ⟨m3,e2⟩
    ·omega
def cs (S:ScriptState) (no wh:List Int) (ln:Int):CsState:=CsState.mk S.code S.performance S.factor S.results no wh ln
structure SGood (F:Nat) (S:ScriptState):Prop where
 val:Val F S.code S.performance
 fac:10≤S.factor∧S.factor≤400
 res:qPe S.results
def Alike (F:Nat) (S:ScriptState) (i:Option (ScriptState×ByteArray)) (s:CsState→Option (CsState×ByteArray)):Prop :=
 ∃S' r,i=some (S',r)∧(∀no wh ln,s (cs S no wh ln)=some (cs S' no wh ln,r))∧SGood F S'∧r.size≤1000
theorem Alike.stay {F:Nat} {S:ScriptState} {i:Option (ScriptState×ByteArray)} {s:CsState→Option (CsState×ByteArray)} (h:SGood F S) (r:ByteArray) (hr:r.size≤1000) (hi:i=some (S,r)) (hs:∀no wh ln,s (cs S no wh ln)=some (cs S no wh ln,r)):Alike F S i s :=
 ⟨S,r,hi,hs,h,hr⟩
theorem qMy (S:ScriptState) (c:Code) (b:Bool):qAr S c b=some (bif b then (ScriptState.mk c S.performance S.factor S.results,(⟨#[111,107]⟩:ByteArray)) else (S,⟨#[110,111]⟩)):=by cases b<;>rfl
end
section
theorem qSM {F:Nat} (hF:1048576<F) {c:Code} {p:Performance} (h:Val F c p):qFD c=some c:=by
 obtain⟨l5,l24⟩:=qMm hF h
 unfold qFD
 rw[ndf (by omega) (by omega),oB9,bnd (qSc c.limits (by omega))]
theorem SGood.with {F:Nat} (hF:1048576<F) {S:ScriptState} (h:SGood F S):qAY S.performance S.performance.items=some S.performance :=
 qTz (h.val.perf hF).2.1 h.val.mg
theorem qWf {L:List Int} (h:L.length=4):∃a b c d,L=[a,b,c,d]:=by
 match L,h with
 | [a,b,c,d],_=>exact⟨a,b,c,d,rfl⟩
theorem qOI {L:List Int} (h:L.length=3):∃a b c,L=[a,b,c]:=by
 match L,h with
 | [a,b,c],_=>exact⟨a,b,c,rfl⟩
theorem qWC {L:List Int} (h:L.length=2):∃a b,L=[a,b]:=by
 match L,h with
 | [a,b],_=>exact⟨a,b,rfl⟩
theorem qRw {L:List Int} (h:L.length=1):∃a,L=[a]:=by
 match L,h with
 | [a],_=>exact⟨a,rfl⟩
theorem qPv {F:Nat} (hF:1048576<F) {S:ScriptState} (h:SGood F S) (c:Code) (hn:qRM c) (he:∀x∈S.code.elements,x∈c.elements) (i:Option (ScriptState×ByteArray)) (s:CsState→Option (CsState×ByteArray))
  (hi:∀b,qBG F c=some b→i=some (bif b then (ScriptState.mk c S.performance S.factor S.results,(⟨#[111,107]⟩:ByteArray)) else (S,⟨#[110,111]⟩)))
  (hs:∀no wh ln b,qBZ F c S.performance=some b→s (cs S no wh ln)=some (bif b then (CsState.mk c S.performance S.factor S.results no wh ln,(⟨#[111,107]⟩:ByteArray)) else (cs S no wh ln,⟨#[110,111]⟩))):Alike F S i s:=by
 obtain⟨e,e1,e2,e3,e4⟩:=h.val.code hF hn he
 have i1:=hi e e1
 cases e
 ·exact⟨S,_,i1,fun no wh ln=>hs no wh ln _ e3,h,by show (2:Nat)≤_;omega⟩
 ·exact⟨ScriptState.mk c S.performance S.factor S.results,_,i1,fun no wh ln=>hs no wh ln _ e3,⟨e4 rfl,h.fac,h.res⟩,by show (2:Nat)≤_;omega⟩
theorem qUe {F:Nat} (hF:1048576<F) {S:ScriptState} (h:SGood F S) {L:List Int} (hl:L.length=4):Alike F S (qAi F S ⟨#[114,117,108,101,115]⟩ L) (fun x=>qAE F x ⟨#[114,117,108,101,115]⟩ L):=by
 obtain⟨a,b,c,d,rfl⟩:=qWf hl
 obtain⟨l5,l24⟩:=qMm hF h.val
 refine qPv hF h (Code.mk S.code.elements S.code.limits a b c d) h.val.nc (fun x hx=>hx) _ _ (fun e he=>?_) (fun no wh ln e he=>?_)
 ·unfold qAi
  rw[ndf (by omega) (by omega),oB9,bnd (qQp hF h.val)]
  show ((qBG F (Code.mk S.code.elements S.code.limits a b c d)).bind fun x14=>(qAr S (Code.mk S.code.elements S.code.limits a b c d) x14).bind fun x16=>some (x16.1,x16.2))=_
  rw[bnd he,bnd (qMy S _ e)]
 ·show ((qAY S.performance S.performance.items).bind fun x1=>(qBR F (cs S no wh ln) ⟨#[114,117,108,101,115]⟩ [a,b,c,d]).bind fun x7=>some (x7.1,x7.2))=_
  rw[bnd (h.with hF)]
  unfold qBR
  rw[show qFD (cs S no wh ln).code=some S.code from qSM hF h.val]
  show ((((qAM F (cs S no wh ln) (Code.mk S.code.elements S.code.limits a b c d) S.performance).bind fun x12=>some (x12.1,x12.2))).bind fun x7=>some (x7.1,x7.2))=_
  rw[bnd (qKA he)]
  cases e<;>rfl
theorem qUi {F:Nat} (hF:1048576<F) {S:ScriptState} (h:SGood F S) {L:List Int} (hl:L.length=2) (h0:∀n∈L,0≤n):Alike F S (qAi F S ⟨#[108,105,109,105,116]⟩ L) (fun x=>qAE F x ⟨#[108,105,109,105,116]⟩ L):=by
 obtain⟨a,b,rfl⟩:=qWC hl
 have ha:=h0 a (by simp)
 obtain⟨l5,l24⟩:=qMm hF h.val
 have hi0:qAi F S ⟨#[108,105,109,105,116]⟩ [a,b]=(qFA a).bind fun x20=>cond (!x20) (some (S,(⟨#[110,111]⟩:ByteArray))) ((qAV S.code.limits a).bind fun x24=>(qBG F (Code.mk S.code.elements (S.code.limits.set a.toNat b) S.code.repeats S.code.bonus S.code.keeps S.code.fall)).bind fun x26=>(qAr S (Code.mk S.code.elements (S.code.limits.set a.toNat b) S.code.repeats S.code.bonus S.code.keeps S.code.fall) x26).bind fun x28=>some (x28.1,x28.2)):=by
  unfold qAi
  rw[ndf (by omega) (by omega),oB9,bnd (qQp hF h.val)]
  rfl
 have hs0:∀no wh ln,qAE F (cs S no wh ln) ⟨#[108,105,109,105,116]⟩ [a,b]=(cond (decide (a≥5)) (some (cs S no wh ln,(⟨#[110,111]⟩:ByteArray))) ((qAV S.code.limits a).bind fun x18=>(qAM F (cs S no wh ln) (Code.mk S.code.elements (S.code.limits.set a.toNat b) S.code.repeats S.code.bonus S.code.keeps S.code.fall) S.performance).bind fun x20=>some (x20.1,x20.2))).bind fun x7=>some (x7.1,x7.2):=fun no wh ln=>by
  show ((qAY S.performance S.performance.items).bind fun x1=>(qBR F (cs S no wh ln) ⟨#[108,105,109,105,116]⟩ [a,b]).bind fun x7=>some (x7.1,x7.2))=_
  rw[bnd (h.with hF)]
  unfold qBR
  rw[show qFD (cs S no wh ln).code=some S.code from qSM hF h.val]
  rfl
 unfold qFA at hi0
 obtain⟨f,f1,_,f2⟩:=qEn a 0 4
 rw[f1,oB9,oB9]at hi0
 by_cases h5:a≥5
 ·have:f=false:=by cases f;rfl;have:=f2.1 rfl;omega
  subst this
  refine Alike.stay h _ (by show (2:Nat)≤_;omega) hi0 (fun no wh ln=>?_)
  rw[hs0,dT h5];rfl
 ·have:f=true:=f2.2 (by omega)
  subst this
  obtain⟨n,rfl⟩:=Int.eq_ofNat_of_zero_le ha
  have hg:qAV S.code.limits (n:Int)=some (S.code.limits[n]'(by omega)):=by rw[qEp rfl];exact List.getElem?_eq_getElem _
  refine qPv hF h (Code.mk S.code.elements (S.code.limits.set (n:Int).toNat b) S.code.repeats S.code.bonus S.code.keeps S.code.fall) h.val.nc (fun x hx=>hx) _ _ (fun e he=>?_) (fun no wh ln e he=>?_)
  ·rw[hi0,Bool.not_true,cF,bnd hg,bnd he,bnd (qMy S _ e)]
  ·rw[hs0,dF h5,cF,bnd hg,bnd (qKA he)]
   cases e<;>rfl
theorem qYL (F:Nat) (j:Nat) (hj:j≤9) (g:List (List Int)):∀(n fl:Nat) (v:List (List Int)),v.length+n=3→n<fl→v=List.replicate v.length (List.replicate j (0:Int))→
  qEK (j:Int) g fl v (v.length:Int)=some (Marks.mk g (List.replicate 3 (List.replicate j (0:Int))))∧qBt (j:Int) g fl v (v.length:Int)=some (Marks.mk g (List.replicate 3 (List.replicate j (0:Int)))):=by
 intro n
 induction n with
 |zero =>
  intro fl v h hf hv
  obtain⟨f,rfl⟩:=nZ9 (by omega:fl≠0)
  rw[qEK,qBt,dF (by omega),cF,cF]
  have:v=List.replicate 3 (List.replicate j (0:Int)):=by rw[hv,show v.length=3 by omega]
  rw[this];exact⟨rfl,rfl⟩
 |succ n ih =>
  intro fl v h hf hv
  obtain⟨f,rfl⟩:=nZ9 (by omega:fl≠0)
  obtain⟨a,b⟩:=ih f (v++[List.replicate j (0:Int)]) (by simp;omega) (by omega) (by
   rw[List.length_append,List.length_singleton,List.replicate_succ',←hv])
  rw[List.length_append,List.length_singleton]at a b
  rw[qEK,qBt,dT (by omega),cW,cW,dT (by omega),Int.toNat_natCast,qRg (by omega) (by omega),Bool.true_and,qD3,oB9,oB9,ndf (by omega) (by simp;omega),oB9,oB9,qAD (by omega),show (v.length:Int)+1=((v.length+1:Nat):Int) by omega]
  exact⟨a,b⟩
def qMI (k j:Nat):Marks:=Marks.mk (List.replicate k (List.replicate j (0:Int))) (List.replicate 3 (List.replicate j (0:Int)))
theorem qYE (j:Nat) (hj:j≤9):∀(n fl:Nat) (v:List (List Int)),v.length+n≤1000→n<fl→qED (j:Int) fl (n:Int) v=some (v++List.replicate n (List.replicate j (0:Int))):=by
 intro n
 induction n with
 |zero =>
  intro fl v _ hf
  obtain⟨f,rfl⟩:=nZ9 (by omega:fl≠0)
  rw[qED,dF (by omega),cF]
  simp
 |succ n ih =>
  intro fl v h hf
  obtain⟨f,rfl⟩:=nZ9 (by omega:fl≠0)
  rw[qED,dT (by omega),cW,dT (by omega),Int.toNat_natCast,qRg (by omega) (by omega),Bool.true_and,qD3,oB9,ndf (by omega) (by simp;omega),oB9,qAD (by omega),show ((n+1:Nat):Int)-1=(n:Int) by omega,ih f _ (by simp;omega) (by omega),List.replicate_succ,List.append_assoc]
  rfl
theorem qYS (F:Nat) (k j:Nat) (hk:k≤1000) (hj:j≤9):∀(n fl:Nat) (v:List (List Int)),v.length+n=k→n<fl→qCb (k:Int) (j:Int) F fl v (v.length:Int)=qBt (j:Int) (v++List.replicate n (List.replicate j (0:Int))) F [] 0:=by
 intro n
 induction n with
 |zero =>
  intro fl v h hf
  obtain⟨f,rfl⟩:=nZ9 (by omega:fl≠0)
  rw[qCb,dF (by omega),cF]
  simp
 |succ n ih =>
  intro fl v h hf
  obtain⟨f,rfl⟩:=nZ9 (by omega:fl≠0)
  have:=ih f (v++[List.replicate j (0:Int)]) (by simp;omega) (by omega)
  rw[List.length_append,List.length_singleton,List.append_assoc]at this
  rw[qCb,dT (by omega),cW,dT (by omega),Int.toNat_natCast,qRg (by omega) (by omega),Bool.true_and,qD3,oB9,ndf (by omega) (by simp;omega),oB9,qAD (by omega),show (v.length:Int)+1=((v.length+1:Nat):Int) by omega,this,List.replicate_succ]
  rfl
theorem qUC (F:Nat) (hF:1048576<F) (k:Nat) (hk:k≤1000) (j:Int) (hj:0≤j∧j≤9):qDE F (k:Int) j=some (qMI k j.toNat)∧qC5 F (k:Int) j=some (qMI k j.toNat):=by
 obtain⟨n,rfl⟩:=Int.eq_ofNat_of_zero_le hj.1
 unfold qDE qC5
 have e:=qYS F k n hk (by omega) k F [] (by simp) (by omega)
 rw[show ((([]:List (List Int)).length:Nat):Int)=0 from rfl]at e
 rw[bnd (qYE n (by omega) k F [] (by simpa using hk) (by omega)),e]
 exact qYL F n (by omega) _ 3 F [] rfl (by omega) rfl
theorem qMK (F:Nat) (hF:1048576<F) (k:Nat) (hk:k≤1000) (j:Int) (hj:0≤j∧j≤9):∃m,qDE F (k:Int) j=some m:=⟨_,(qUC F hF k hk j hj).1⟩
theorem qOn (k j:Nat) (hk:k≤14):qGy (qMI k j)↔3≤j∧j≤9:=by
 constructor
 ·rintro⟨_,_,r,r1,r2,_⟩
  have:r=List.replicate j (0:Int):=(Option.some.inj r1).symm
  rw[this,List.length_replicate]at r2
  exact r2
 ·intro hj
  refine⟨by simp[qMI];exact hk,by simp[qMI],List.replicate j (0:Int),rfl,by simpa using hj,fun l hl=>?_,fun l hl=>?_⟩
  ·obtain rfl:=List.eq_of_mem_replicate hl
   exact⟨rfl,fun x hx=>by rw[List.eq_of_mem_replicate hx];omega⟩
  ·obtain rfl:=List.eq_of_mem_replicate hl
   exact⟨rfl,fun x hx=>by rw[List.eq_of_mem_replicate hx];exact⟨by omega,rfl⟩⟩
theorem SGood.marks {F:Nat} {S:ScriptState} (h:SGood F S) {m:Marks} (hm:qGy m) (hl:m.grades.length=S.performance.items.length):SGood F (ScriptState.mk S.code (Performance.mk S.performance.items m S.performance.slips) S.factor S.results) :=
 ⟨⟨h.val.nc,h.val.nb,h.val.cs,h.val.ci,h.val.is,h.val.ii,h.val.ks,h.val.ki,hm,hl,h.val.sg⟩,h.fac,h.res⟩
theorem qTI {F:Nat} (hF:1048576<F) {S:ScriptState} (h:SGood F S) {L:List Int} (hl:L.length=3):Alike F S (qAO F S ⟨#[103,114,97,100,101]⟩ L) (fun x=>qAE F x ⟨#[103,114,97,100,101]⟩ L):=by
 obtain⟨a,b,c,rfl⟩:=qOI hl
 obtain⟨r,r1,r2,r3⟩:=qTB h.val.mg a b c
 have hi0:qAO F S ⟨#[103,114,97,100,101]⟩ [a,b,c]=(qFz S.performance.marks a b c).bind fun x23=>cond x23.2 ((qBD x23.2).bind fun x25=>some ((ScriptState.mk S.code (Performance.mk S.performance.items x23.1 S.performance.slips) S.factor S.results),x25)) ((qBD x23.2).bind fun x27=>some (S,x27)):=rfl
 have hs0:∀no wh ln,qAE F (cs S no wh ln) ⟨#[103,114,97,100,101]⟩ [a,b,c]=((qFy S.performance.marks a b c).bind fun x19=>cond (!x19.2) (some (cs S no wh ln,(⟨#[110,111]⟩:ByteArray))) ((qAM F (cs S no wh ln) S.code (Performance.mk S.performance.items x19.1 S.performance.slips)).bind fun x21=>some (x21.1,x21.2))).bind fun x7=>some (x7.1,x7.2):=fun no wh ln=>by
  show ((qAY S.performance S.performance.items).bind fun x1=>(qAe F (cs S no wh ln) ⟨#[103,114,97,100,101]⟩ [a,b,c]).bind fun x7=>some (x7.1,x7.2))=_
  rw[bnd (h.with hF)]
  unfold qAe
  rw[show qAY (cs S no wh ln).p (cs S no wh ln).p.items=some S.performance from h.with hF,oB9]
  obtain⟨m0,m1⟩:=qMK F hF S.performance.items.length (by have:=(h.val.perf hF).2.1.1;omega) 3 (by omega)
  rw[bnd m1]
  rfl
 rw[bnd r2]at hi0
 cases hr:r.2
 ·rw[hr]at hi0
  refine Alike.stay h _ (by show (2:Nat)≤_;omega) hi0 (fun no wh ln=>?_)
  rw[hs0,bnd r1,hr];rfl
 ·rw[hr]at hi0
  obtain⟨g1,g2⟩:=r3 hr
  have hg:=h.marks g1 (by rw[g2];exact h.val.ln)
  refine⟨_,_,hi0,fun no wh ln=>?_,hg,by show (2:Nat)≤_;omega⟩
  refine(hs0 no wh ln).trans ?_
  rw[bnd r1,hr,Bool.not_true,cF,bnd (qKA hg.val.good.1)];rfl
theorem qQC {F:Nat} (hF:1048576<F) {S:ScriptState} (h:SGood F S) {L:List Int} (hl:L.length=3):Alike F S (qAO F S ⟨#[99,111,109,112,111,110,101,110,116]⟩ L) (fun x=>qAE F x ⟨#[99,111,109,112,111,110,101,110,116]⟩ L):=by
 obtain⟨a,b,c,rfl⟩:=qOI hl
 obtain⟨r,r1,r2,r3⟩:=qPN h.val.mg a b c
 have hi0:qAO F S ⟨#[99,111,109,112,111,110,101,110,116]⟩ [a,b,c]=(qD7 S.performance.marks a b c).bind fun x23=>cond x23.2 ((qBD x23.2).bind fun x25=>some ((ScriptState.mk S.code (Performance.mk S.performance.items x23.1 S.performance.slips) S.factor S.results),x25)) ((qBD x23.2).bind fun x27=>some (S,x27)):=rfl
 have hs0:∀no wh ln,qAE F (cs S no wh ln) ⟨#[99,111,109,112,111,110,101,110,116]⟩ [a,b,c]=((qEC S.performance.marks a b c).bind fun x19=>cond (!x19.2) (some (cs S no wh ln,(⟨#[110,111]⟩:ByteArray))) ((qAM F (cs S no wh ln) S.code (Performance.mk S.performance.items x19.1 S.performance.slips)).bind fun x21=>some (x21.1,x21.2))).bind fun x7=>some (x7.1,x7.2):=fun no wh ln=>by
  show ((qAY S.performance S.performance.items).bind fun x1=>(qAe F (cs S no wh ln) ⟨#[99,111,109,112,111,110,101,110,116]⟩ [a,b,c]).bind fun x7=>some (x7.1,x7.2))=_
  rw[bnd (h.with hF)]
  unfold qAe
  rw[show qAY (cs S no wh ln).p (cs S no wh ln).p.items=some S.performance from h.with hF,oB9]
  obtain⟨m0,m1⟩:=qMK F hF S.performance.items.length (by have:=(h.val.perf hF).2.1.1;omega) 3 (by omega)
  rw[bnd m1]
  rfl
 rw[bnd r2]at hi0
 cases hr:r.2
 ·rw[hr]at hi0
  refine Alike.stay h _ (by show (2:Nat)≤_;omega) hi0 (fun no wh ln=>?_)
  rw[hs0,bnd r1,hr];rfl
 ·rw[hr]at hi0
  obtain⟨g1,g2⟩:=r3 hr
  have hg:=h.marks g1 (by rw[g2];exact h.val.ln)
  refine⟨_,_,hi0,fun no wh ln=>?_,hg,by show (2:Nat)≤_;omega⟩
  refine(hs0 no wh ln).trans ?_
  rw[bnd r1,hr,Bool.not_true,cF,bnd (qKA hg.val.good.1)];rfl
theorem qS8 {F:Nat} (hF:1048576<F) {S:ScriptState} (h:SGood F S) {L:List Int} (hl:L.length=1) (h0:∀n∈L,0≤n):Alike F S (qAO F S ⟨#[106,117,100,103,101,115]⟩ L) (fun x=>qAE F x ⟨#[106,117,100,103,101,115]⟩ L):=by
 obtain⟨a,rfl⟩:=qRw hl
 have ha:=h0 a (by simp)
 have h14:=(h.val.perf hF).2.1.1
 obtain⟨f,f1,_,f2⟩:=qEn a 3 9
 have hs0:∀no wh ln,qAE F (cs S no wh ln) ⟨#[106,117,100,103,101,115]⟩ [a]=(cond (decide (a>9)) (some (cs S no wh ln,(⟨#[110,111]⟩:ByteArray))) ((qDE F (S.performance.items.length:Int) a).bind fun x8=>(qAM F (cs S no wh ln) S.code (Performance.mk S.performance.items x8 S.performance.slips)).bind fun x21=>some (x21.1,x21.2))).bind fun x7=>some (x7.1,x7.2):=fun no wh ln=>by
  show ((qAY S.performance S.performance.items).bind fun x1=>(qAe F (cs S no wh ln) ⟨#[106,117,100,103,101,115]⟩ [a]).bind fun x7=>some (x7.1,x7.2))=_
  rw[bnd (h.with hF)]
  unfold qAe
  rw[show qAY (cs S no wh ln).p (cs S no wh ln).p.items=some S.performance from h.with hF,oB9]
  obtain⟨m0,m1⟩:=qMK F hF S.performance.items.length (by omega) 3 (by omega)
  rw[bnd m1]
  rfl
 have hi0:qAO F S ⟨#[106,117,100,103,101,115]⟩ [a]=cond f ((qC5 F (S.performance.items.length:Int) a).bind fun x6=>some ((ScriptState.mk S.code (Performance.mk S.performance.items x6 S.performance.slips) S.factor S.results),⟨#[111,107]⟩)) (some (S,⟨#[110,111]⟩)):=by
  unfold qAO
  rw[dT rfl,cW,show qAV [a] 0=some a from rfl,oB9,bnd f1]
  cases f<;>rfl
 by_cases h9:a>9
 ·have:f=false:=by cases f;rfl;have:=f2.1 rfl;omega
  subst this
  refine Alike.stay h _ (by show (2:Nat)≤_;omega) hi0 (fun no wh ln=>?_)
  rw[hs0,dT h9];rfl
 ·obtain⟨z1,z2⟩:=qUC F hF S.performance.items.length (by omega) a (by omega)
  have hz:=qOn S.performance.items.length a.toNat h14
  obtain⟨m,m1,m2,m3⟩:=qHf (qMI S.performance.items.length a.toNat)
  obtain⟨q,q1,q2,q3⟩:=qJq S.performance.slips
  obtain rfl:=q3.2 h.val.sg
  have hg:=qJe (F:=F) (p:=Performance.mk S.performance.items (qMI S.performance.items.length a.toNat) S.performance.slips) h.val.cs h.val.is h.val.ks m2 q2
  rw[show ((((Performance.mk S.performance.items (qMI S.performance.items.length a.toNat) S.performance.slips)).marks.grades.length:Int)==((Performance.mk S.performance.items (qMI S.performance.items.length a.toNat) S.performance.slips).items.length:Int))=true from by simp[qMI]]at hg
  simp only[Bool.and_true,Bool.true_and]at hg
  have hs1:∀no wh ln,qAE F (cs S no wh ln) ⟨#[106,117,100,103,101,115]⟩ [a]=some (bif m then (CsState.mk S.code (Performance.mk S.performance.items (qMI S.performance.items.length a.toNat) S.performance.slips) S.factor S.results no wh ln,(⟨#[111,107]⟩:ByteArray)) else (cs S no wh ln,⟨#[110,111]⟩)):=fun no wh ln=>by
   rw[hs0,dF h9,cF,bnd z1,bnd (qKA hg)]
   cases m<;>rfl
  rw[bnd z2]at hi0
  have hfm:f=m:=Bool.eq_iff_iff.2 (f2.trans (by rw[m3,hz];omega))
  subst hfm
  cases f
  ·exact Alike.stay h _ (by show (2:Nat)≤_;omega) hi0 hs1
  ·exact⟨_,_,hi0,hs1,h.marks (m3.1 rfl) (by simp[qMI]),by show (2:Nat)≤_;omega⟩
theorem qUz {F:Nat} (hF:1048576<F) {S:ScriptState} (h:SGood F S) {L:List Int} (hl:L.length=3):Alike F S (qAH F S ⟨#[115,108,105,112,115]⟩ L) (fun x=>qAE F x ⟨#[115,108,105,112,115]⟩ L):=by
 obtain⟨a,b,c,rfl⟩:=qOI hl
 obtain⟨q,q1,q2,q3⟩:=qJq (Slips.mk a b c)
 obtain⟨m,m1,m2,m3⟩:=qHf S.performance.marks
 obtain rfl:=m3.2 h.val.mg
 have hg:=qJe (F:=F) (p:=Performance.mk S.performance.items S.performance.marks (Slips.mk a b c)) h.val.cs h.val.is h.val.ks m2 q2
 rw[show ((((Performance.mk S.performance.items S.performance.marks (Slips.mk a b c))).marks.grades.length:Int)==((Performance.mk S.performance.items S.performance.marks (Slips.mk a b c)).items.length:Int))=true from by show (((S.performance.marks.grades.length:Nat):Int)==((S.performance.items.length:Nat):Int))=true;rw[h.val.ln];exact beq_self_eq_true _]at hg
 simp only[Bool.and_true,Bool.true_and]at hg
 have hs1:∀no wh ln,qAE F (cs S no wh ln) ⟨#[115,108,105,112,115]⟩ [a,b,c]=some (bif q then (CsState.mk S.code (Performance.mk S.performance.items S.performance.marks (Slips.mk a b c)) S.factor S.results no wh ln,(⟨#[111,107]⟩:ByteArray)) else (cs S no wh ln,⟨#[110,111]⟩)):=fun no wh ln=>by
  show ((qAY S.performance S.performance.items).bind fun x1=>(qAM F (cs S no wh ln) S.code (Performance.mk x1.items x1.marks (Slips.mk a b c))).bind fun x25=>some (x25.1,x25.2))=_
  rw[bnd (h.with hF),bnd (qKA hg)]
  cases q<;>rfl
 have hi0:qAH F S ⟨#[115,108,105,112,115]⟩ [a,b,c]=some (bif q then (ScriptState.mk S.code (Performance.mk S.performance.items S.performance.marks (Slips.mk a b c)) S.factor S.results,(⟨#[111,107]⟩:ByteArray)) else (S,⟨#[110,111]⟩)):=by
  show ((qEF (Slips.mk a b c)).bind fun x19=>cond (!x19) (some (S,(⟨#[110,111]⟩:ByteArray))) (some ((ScriptState.mk S.code (Performance.mk S.performance.items S.performance.marks (Slips.mk a b c)) S.factor S.results),(⟨#[111,107]⟩:ByteArray))))=_
  rw[bnd q1]
  cases q<;>rfl
 cases q
 ·exact Alike.stay h _ (by show (2:Nat)≤_;omega) hi0 hs1
 ·exact⟨_,_,hi0,hs1,⟨⟨h.val.nc,h.val.nb,h.val.cs,h.val.ci,h.val.is,h.val.ii,h.val.ks,h.val.ki,h.val.mg,h.val.ln,q3.1 rfl⟩,h.fac,h.res⟩,by show (2:Nat)≤_;omega⟩
theorem qSp {F:Nat} (hF:1048576<F) {S:ScriptState} (h:SGood F S) {L:List Int} (hl:L.length=1):Alike F S (qAH F S ⟨#[102,97,99,116,111,114]⟩ L) (fun x=>qAE F x ⟨#[102,97,99,116,111,114]⟩ L):=by
 obtain⟨a,rfl⟩:=qRw hl
 obtain⟨f,f1,f2,f3⟩:=qEn a 10 400
 have hs1:∀no wh ln,qAE F (cs S no wh ln) ⟨#[102,97,99,116,111,114]⟩ [a]=some (bif f then (CsState.mk S.code S.performance a S.results no wh ln,(⟨#[111,107]⟩:ByteArray)) else (cs S no wh ln,⟨#[110,111]⟩)):=fun no wh ln=>by
  show ((qAY S.performance S.performance.items).bind fun x1=>(qE1 a).bind fun x30=>cond (!x30) (some (cs S no wh ln,(⟨#[110,111]⟩:ByteArray))) (some ((CsState.mk S.code S.performance a S.results no wh ln),(⟨#[111,107]⟩:ByteArray))))=_
  unfold qE1
  rw[bnd (h.with hF),f2,oB9,oB9]
  cases f<;>rfl
 have hi0:qAH F S ⟨#[102,97,99,116,111,114]⟩ [a]=some (bif f then (ScriptState.mk S.code S.performance a S.results,(⟨#[111,107]⟩:ByteArray)) else (S,⟨#[110,111]⟩)):=by
  show ((qE4 a).bind fun x24=>cond (!x24) (some (S,(⟨#[110,111]⟩:ByteArray))) (some ((ScriptState.mk S.code S.performance a S.results),(⟨#[111,107]⟩:ByteArray))))=_
  unfold qE4
  rw[f1,oB9,oB9]
  cases f<;>rfl
 cases f
 ·exact Alike.stay h _ (by show (2:Nat)≤_;omega) hi0 hs1
 ·exact⟨_,_,hi0,hs1,⟨h.val,f3.1 rfl,h.res⟩,by show (2:Nat)≤_;omega⟩
end
end Go.Proofs.YtkidpkmpnbibmaaGreatDoor

/- Plain lemmas: what the functions compute is what the reference says, in plain Lean. No condition. -/
import Derived.Test.YtkidpkmpnbibmaaGreatDoorCaLaw
set_option maxRecDepth 4000
set_option maxHeartbeats 1000000
set_option linter.unusedVariables false
set_option linter.unusedSimpArgs false
set_option linter.unusedSectionVars false
namespace Go.Proofs.YtkidpkmpnbibmaaGreatDoor
open Go.AM
section
theorem nZ9 {n:Nat} (h:n≠0):∃k,n=Nat.succ k:=Nat.exists_eq_succ_of_ne_zero h
theorem oB9 {α β:Type} (a:α) (f:α→Option β):(some a).bind f=f a:=rfl
end
section
theorem qDb (n a b:Int):Ret (qAZ n a b) (a≤n∧n≤b):=Ret.some (by simp)
theorem qBu (n a b:Int):Ret (qAM n a b) (a≤n∧n≤b):=Ret.some (by simp)
theorem qQz (n:Int):Ret (qIf n) (1≤n∧n≤999):=(qBu n 1 999).bind (Q:=fun o=>Ret o _) (fun h=>.t h) (fun h=>.f h)
theorem qUE (l:List Int) (n:Int):Ret (qLA l n) (n∈l):=by
 have key:∀(l:List Int) (k:Nat),Ret (qEn n l k) (n∈l):=by
  intro l
  induction l with
  |nil=>intro k;rw[qEn];exact .f (by simp)
  |cons y l ih =>
   intro k
   rw[qEn]
   refine .condR (fun h=>.t ?_) (fun h=>(ih (k+1)).iff ?_)
   ·have:=eq_of_beq h;simp[this]
   ·have:¬y=n:=by simpa using h
    simp[List.mem_cons,show ¬n=y from fun e=>this e.symm]
 exact key l 0
end
section
theorem qST (l:List Int) (h:l.length≤1048577):qFG l=some l:=by
 unfold qFG
 rw[bnd (x:=()) (by rw[qGx (by omega)];rfl)]
theorem qO7 (l:List Int) (h:l.length≤1048577):qDR l=some l:=by
 unfold qDR
 rw[bnd (x:=()) (by rw[qGx (by omega)];rfl)]
end
section
theorem qIW (lo hi:Int):∀(l:List Int) (k:Nat),Ret (qCN lo hi l k) (∀n∈l,lo≤n∧n≤hi):=by
 intro l
 induction l with
 |nil=>intro k;rw[qCN];exact .t (by simp)
 |cons y l ih =>
  intro k
  rw[qCN]
  refine(qBu y lo hi).bindR (fun h=>?_) (fun h=>.f fun q=>h (q y (by simp)))
  simp only[Bool.not_true,cF]
  refine(ih (k+1)).iff ⟨fun q n hn=>?_,fun q n hn=>q n (by simp[hn])⟩
  rcases List.mem_cons.1 hn with rfl|hn
  ·exact h
  ·exact q n hn
end
section
def qJU (l:List Int):Prop:=(1≤l.length∧l.length≤9)∧∀x∈l,-1000≤x∧x≤1000
theorem qOL (lo hi:Int):∀(l:List Int) (k:Nat),Ret (qCi lo hi l k) (∀n∈l,lo≤n∧n≤hi):=by
 intro l
 induction l with
 |nil=>intro k;rw[qCi];exact .t (by simp)
 |cons y l ih =>
  intro k
  rw[qCi]
  refine(qDb y lo hi).bindR (fun h=>?_) (fun h=>.f fun k=>h (k y (by simp)))
  simp only[Bool.not_true,cF]
  refine(ih (k+1)).iff ⟨fun q n hn=>?_,fun q n hn=>q n (by simp[hn])⟩
  rcases List.mem_cons.1 hn with rfl|hn
  ·exact h
  ·exact q n hn
def qRS (l:List Int) (k:Int):Prop:=qJU l∧0≤k∧k<(l.length:Int)
def bd (l:List Int):Prop:=∀x∈l,-1000≤x∧x≤1000
theorem qWM:∀{l:List Int},bd l→-1000*(l.length:Int)≤l.sum∧l.sum≤1000*(l.length:Int):=by
 intro l
 induction l with
 |nil=>intro _;simp
 |cons y l ih =>
  intro h
  have h1:=ih fun x hx=>h x (by simp[hx])
  have h2:=h y (by simp)
  simp only[List.sum_cons,List.length_cons]
  omega
theorem qYA:∀(l:List Int) (k:Nat) (v:Int),bd l→(-1000000≤v-1000*(l.length:Int)∧v+1000*(l.length:Int)≤1000000)→qA8 l k v=some (v+l.sum)∧qCZ l k v=some (v+l.sum):=by
 intro l
 induction l with
 |nil=>intro k v _ _;rw[qA8,qCZ];simp
 |cons y l ih =>
  intro k v h hv
  simp only[List.length_cons]at hv
  have h2:=h y (by simp)
  rw[qA8,qCZ,qAD (by omega),List.sum_cons,←Int.add_assoc]
  exact ih (k+1) (v+y) (fun x hx=>h x (by simp[hx])) (by omega)
theorem qXC {l:List Int} (h:bd l) (hl:l.length≤100):qBA l=some l.sum∧qCp l=some l.sum:=by
 have:=qYA l 0 0 h (by omega)
 rw[Int.zero_add]at this
 exact this
def mxL (l:List Int):Int:=l.foldr max (-5000)
def mnL (l:List Int):Int:=l.foldr min 5000
theorem qUx:∀(l:List Int) (M:Int),mxL l≤M↔-5000≤M∧∀y∈l,y≤M:=by
 intro l M
 induction l with
 |nil=>simp[mxL]
 |cons y l ih =>
  have e:mxL (y::l)=max y (mxL l):=rfl
  rw[e,Int.max_le,ih]
  simp only[List.mem_cons,forall_eq_or_imp]
  constructor
  ·rintro⟨a,b,c⟩;exact⟨b,a,c⟩
  ·rintro⟨a,b,c⟩;exact⟨b,a,c⟩
theorem qUd:∀(l:List Int) (M:Int),M≤mnL l↔M≤5000∧∀y∈l,M≤y:=by
 intro l M
 induction l with
 |nil=>simp[mnL]
 |cons y l ih =>
  have e:mnL (y::l)=min y (mnL l):=rfl
  rw[e,Int.le_min,ih]
  simp only[List.mem_cons,forall_eq_or_imp]
  constructor
  ·rintro⟨a,b,c⟩;exact⟨b,a,c⟩
  ·rintro⟨a,b,c⟩;exact⟨b,a,c⟩
theorem qYC {l:List Int} {y:Int} (h:y∈l):y≤mxL l:=((qUx l (mxL l)).1 (Int.le_refl _)).2 y h
theorem qYL {l:List Int} {y:Int} (h:y∈l):mnL l≤y:=((qUd l (mnL l)).1 (Int.le_refl _)).2 y h
theorem qVT (x:List Int) (hx:x.length≤1000):∀(ys pre:List Int) (fl:Nat) (m:Int),x=pre++ys→ys.length<fl→-5000≤m→qBH x fl m (pre.length:Int)=some (max m (mxL ys)):=by
 intro ys
 induction ys with
 |nil =>
  intro pre fl m h hf hm
  obtain⟨f,rfl⟩:=nZ9 (by omega:fl≠0)
  have e:mxL []=-5000:=rfl
  rw[qBH,dF (by rw[h];simp),cF,e,show max m (-5000)=m from by omega]
 |cons y ys ih =>
  intro pre fl m h hf hm
  obtain⟨f,rfl⟩:=nZ9 (by omega:fl≠0)
  simp only[List.length_cons]at hf
  have hlen:x.length=pre.length+(ys.length+1):=by rw[h];simp
  rw[qBH,dT (by omega),cW,bnd (qDl h rfl),qAD (by omega)]
  have:=ih (pre++[y]) f (max m y) (by rw[h];simp) (by omega) (by omega)
  rw[show (pre++[y]).length=pre.length+1 from by simp,Int.natCast_add,Int.natCast_one]at this
  have e:mxL (y::ys)=max y (mxL ys):=rfl
  rw[this,e,show max (max m y) (mxL ys)=max m (max y (mxL ys)) from by omega]
theorem qVQ (x:List Int) (hx:x.length≤1000):∀(ys pre:List Int) (fl:Nat) (m:Int),x=pre++ys→ys.length<fl→m≤5000→qC6 x fl m (pre.length:Int)=some (min m (mnL ys)):=by
 intro ys
 induction ys with
 |nil =>
  intro pre fl m h hf hm
  obtain⟨f,rfl⟩:=nZ9 (by omega:fl≠0)
  have e:mnL []=5000:=rfl
  rw[qC6,dF (by rw[h];simp),cF,e,show min m 5000=m from by omega]
 |cons y ys ih =>
  intro pre fl m h hf hm
  obtain⟨f,rfl⟩:=nZ9 (by omega:fl≠0)
  simp only[List.length_cons]at hf
  have hlen:x.length=pre.length+(ys.length+1):=by rw[h];simp
  rw[qC6,dT (by omega),cW,bnd (qDl h rfl),qAD (by omega)]
  have:=ih (pre++[y]) f (min m y) (by rw[h];simp) (by omega) (by omega)
  rw[show (pre++[y]).length=pre.length+1 from by simp,Int.natCast_add,Int.natCast_one]at this
  have e:mnL (y::ys)=min y (mnL ys):=rfl
  rw[this,e,show min (min m y) (mnL ys)=min m (min y (mnL ys)) from by omega]
theorem qXK {l:List Int} (h:qJU l) (fl:Nat) (hf:1000<fl):qEU fl l=some (mxL l)∧qGg fl l=some (mnL l):=by
 unfold qEU qGg
 have h1:=h.1
 have h2:=h.2
 cases l with
 |nil=>simp at h1
 |cons y ys =>
  have hy:=h2 y (by simp)
  simp only[List.length_cons]at h1
  rw[dF (by simp;omega),cF,bnd (show qAT (y::ys) 0=some y from rfl),cF,bnd (show qAT (y::ys) 0=some y from rfl)]
  exact⟨qVT (y::ys) (by simp;omega) ys [y] fl y rfl (by omega) (by omega),qVQ (y::ys) (by simp;omega) ys [y] fl y rfl (by omega) (by omega)⟩
theorem qUy (y:Int) (v:List Int) (hv:v.length≤1000) (hs:v.Pairwise (·≥·)):∀(n:Nat) (A B:List Int) (f:Nat),A.length=n→v=A++B→n<f→(∀b∈B,b<y)→
  ∃A' B',v=A'++B'∧qDd y v f (A.length:Int)=some (A'.length:Int)∧(∀b∈B',b<y)∧(∀a∈A',y≤a):=by
 intro n
 induction n with
 |zero =>
  intro A B f hA h hf hB
  obtain⟨f,rfl⟩:=nZ9 (by omega:f≠0)
  obtain rfl:A=[]:=List.eq_nil_of_length_eq_zero hA
  refine⟨[],B,h,?_,hB,by simp⟩
  rw[qDd]
  rfl
 |succ n ih =>
  intro A B f hA h hf hB
  obtain⟨f,rfl⟩:=nZ9 (by omega:f≠0)
  rcases List.eq_nil_or_concat A with h0|⟨A0,a,h0⟩
  ·rw[h0]at hA;simp at hA
  ·rw[List.concat_eq_append]at h0
   subst h0
   have hA0:A0.length=n:=by simp at hA;omega
   have hvl:v.length=n+1+B.length:=by rw[h];simp;omega
   have hg:qAT v (n:Int)=some a:=qDl (pre:=A0) (y:=a) (ys:=B) (by rw[h];simp) (by omega)
   rw[qDd,hA,dT (by omega),qCT,qAD (by omega),show ((n+1:Nat):Int)-1=(n:Int) from by omega,bnd hg,Bool.true_and]
   by_cases hc:a<y
   ·rw[dT hc,cW]
    have:=ih A0 (a::B) f hA0 (by rw[h];simp) (by omega) (fun b hb=>by
     rcases List.mem_cons.1 hb with rfl|hb
     ·exact hc
     ·exact hB b hb)
    rw[hA0]at this
    exact this
   ·rw[dF hc,cF]
    refine⟨A0++[a],B,h,by rw[hA],hB,fun x hx=>?_⟩
    rw[h]at hs
    have hp:=(List.pairwise_append.1 (List.pairwise_append.1 hs).1).2.2
    rcases List.mem_append.1 hx with hx|hx
    ·have:=hp x hx a (by simp);omega
    ·rw[List.mem_singleton.1 hx];omega
theorem qUI (fl:Nat) (hf:2000<fl):∀(ys:List Int) (k:Nat) (acc:List Int),acc.Pairwise (·≥·)→acc.length+ys.length≤900→∃S,qCw fl ys k acc=some S∧S.Perm (acc++ys)∧S.Pairwise (·≥·):=by
 intro ys
 induction ys with
 |nil=>intro k acc h _;exact⟨acc,by rw[qCw],by simp,h⟩
 |cons y ys ih =>
  intro k acc h hl
  simp only[List.length_cons]at hl
  obtain⟨A,B,e1,e2,e3,e4⟩:=qUy y acc (by omega) h acc.length acc [] fl rfl (by simp) (by omega) (by simp)
  have hlen:acc.length=A.length+B.length:=by rw[e1];simp
  have hp:=List.pairwise_append.1 (e1▸h)
  rw[qCw,bnd e2,bnd (show qFj acc (A.length:Int)=some A from by rw[e1];exact qL9 A B rfl),qGx (by omega),qD1,oB9,qGx (by simp;omega),qD1,oB9,
   bnd (show qC0 acc (A.length:Int)=some B from by rw[qS8 rfl (by omega),e1];simp),qGx (by simp;omega),qD1,oB9]
  obtain⟨S,s1,s2,s3⟩:=ih (k+1) (A++[y]++B) (by
   rw[List.append_assoc]
   refine List.pairwise_append.2 ⟨hp.1,List.pairwise_cons.2 ⟨fun b hb=>by have:=e3 b hb;omega,hp.2.1⟩,fun a ha b hb=>?_⟩
   rcases List.mem_cons.1 hb with rfl|hb
   ·exact e4 a ha
   ·exact hp.2.2 a ha b hb) (by simp;omega)
  refine⟨S,s1,s2.trans ?_,s3⟩
  rw[e1]
  simp only[List.append_assoc]
  refine List.Perm.append_left A ?_
  show ([y]++(B++ys)).Perm (B++([y]++ys))
  rw[←List.append_assoc,←List.append_assoc]
  exact List.Perm.append_right ys List.perm_append_comm
theorem qT5 {l:List Int} (h:qJU l) (fl:Nat) (hf:2000<fl):∃S,qIo fl l=some S∧S.length=l.length∧qAT S 0=some (mxL l)∧qAT S ((S.length:Int)-1)=some (mnL l)∧∀x∈S,x∈l:=by
 have h1:=h.1
 have h2:=h.2
 obtain⟨S,s1,s2,s3⟩:=qUI fl hf l 0 [] List.Pairwise.nil (by simp;omega)
 rw[List.nil_append]at s2
 refine⟨S,s1,s2.length_eq,?_,?_,fun x hx=>s2.mem_iff.1 hx⟩
 ·cases S with
  |nil=>have:=s2.length_eq;simp at this;omega
  |cons s S =>
   have hs:s∈l:=s2.mem_iff.1 (by simp)
   have hb:=h2 s hs
   have e:mxL l=s:=by
    have a:mxL l≤s:=(qUx l s).2 ⟨by omega,fun y hy=>by
     rcases List.mem_cons.1 (s2.mem_iff.2 hy) with rfl|q
     ·omega
     ·exact(List.pairwise_cons.1 s3).1 y q⟩
    have b:=qYC hs
    omega
   rw[e];rfl
 ·rcases List.eq_nil_or_concat S with h0|⟨S0,t,h0⟩
  ·have:=s2.length_eq;rw[h0]at this;simp at this;omega
  ·rw[List.concat_eq_append]at h0
   have ht:t∈l:=s2.mem_iff.1 (by rw[h0];simp)
   have hb:=h2 t ht
   have e:mnL l=t:=by
    have a:t≤mnL l:=(qUd l t).2 ⟨by omega,fun y hy=>by
     have hy':=s2.mem_iff.2 hy
     rw[h0]at hy' s3
     rcases List.mem_append.1 hy' with q|q
     ·exact(List.pairwise_append.1 s3).2.2 y q t (by simp)
     ·rw[List.mem_singleton.1 q];omega⟩
    have b:=qYL ht
    omega
   rw[e]
   exact qDl (pre:=S0) (y:=t) (ys:=[]) h0 (by rw[h0];simp)
def tS (l:List Int):Int:=if l.length<5 then l.sum else l.sum-mxL l-mnL l
def nS (l:List Int):Int:=if l.length<5 then (l.length:Int) else (l.length:Int)-2
theorem qXt {l:List Int} (h:qJU l):(-1000≤mxL l∧mxL l≤1000)∧(-1000≤mnL l∧mnL l≤1000):=by
 have h1:=h.1
 have h2:=h.2
 cases l with
 |nil=>simp at h1
 |cons y l =>
  have hy:=h2 y (by simp)
  have a:=qYC (l:=y::l) (y:=y) (by simp)
  have b:=qYL (l:=y::l) (y:=y) (by simp)
  have c:mxL (y::l)≤1000:=(qUx _ _).2 ⟨by omega,fun z hz=>(h2 z hz).2⟩
  have d:-1000≤mnL (y::l):=(qUd _ _).2 ⟨by omega,fun z hz=>(h2 z hz).1⟩
  omega
theorem qUX {l:List Int} (h:qJU l):-20000≤tS l∧tS l≤20000:=by
 have h1:=h.1
 have h2:=qWM h.2
 have h3:=qXt h
 unfold tS
 split<;>omega
theorem qTn {l:List Int} (h:qJU l):1≤nS l∧nS l≤9:=by
 have h1:=h.1
 unfold nS
 split<;>omega
theorem qNC {l:List Int} (h:qJU l) (fl:Nat) (hf:2000<fl):qFC fl l=some (tS l,nS l)∧qHM fl l=some (tS l,nS l):=by
 have h1:=h.1
 have h2:=qWM h.2
 have h3:=qXt h
 obtain⟨a1,a2⟩:=qXC h.2 (by omega)
 obtain⟨m1,m2⟩:=qXK h fl (by omega)
 obtain⟨S,s1,s2,s3,s4,_⟩:=qT5 h fl hf
 unfold qFC qHM tS nS
 by_cases h5:l.length<5
 ·rw[dT (by omega),cW,bnd a1,bnd a2,cW,if_pos h5,if_pos h5]
  exact⟨rfl,rfl⟩
 ·rw[dF (by omega),cF,bnd a1,bnd m1,bnd m2,bnd a2,cF,bnd s1,bnd s3,qAD (n:=(S.length:Int)-1) (by omega),bnd s4,if_neg h5,if_neg h5,qAD (n:=l.sum-mxL l) (by omega),qAD (n:=l.sum-mxL l-mnL l) (by omega),qAD (n:=(l.length:Int)-2) (by omega)]
  exact⟨rfl,rfl⟩
end
section
theorem qVS {l:List Int} {k:Int} (h:qRS l k):∃pre x post,l=pre++x::post∧(pre.length:Int)=k∧qAT l k=some x∧∀v,l.set k.toNat v=pre++v::post:=by
 have hk:k.toNat<l.length:=by have:=h.2;omega
 have hs:l=l.take k.toNat++l[k.toNat]::l.drop (k.toNat+1):=by rw[List.getElem_cons_drop hk,List.take_append_drop]
 have hp:(l.take k.toNat).length=k.toNat:=by rw[List.length_take];omega
 refine⟨l.take k.toNat,l[k.toNat],l.drop (k.toNat+1),hs,by have:=h.2;omega,?_,fun v=>?_⟩
 ·rw[qEu (k:=k.toNat) (by have:=h.2;omega)];exact List.getElem?_eq_getElem hk
 ·rw[List.set_eq_take_append_cons_drop,if_pos hk]
theorem qSA {l:List Int} {k v:Int} (h:qRS l k) (hv:-1000≤v∧v≤1000):qJU (l.set k.toNat v)∧nS (l.set k.toNat v)=nS l:=by
 refine⟨⟨by simpa using h.1.1,fun x hx=>?_⟩,by unfold nS;rw[List.length_set]⟩
 rcases List.mem_or_eq_of_mem_set hx with hx|rfl
 ·exact h.1.2 x hx
 ·exact hv
end
section
theorem qPx (lo hi:Int):∀(l:List Int) (k:Nat),Ret (qCi lo hi l k) (∀n∈l,lo≤n∧n≤hi):=by
 intro l
 induction l with
 |nil=>intro k;rw[qCi];exact .t (by simp)
 |cons y l ih =>
  intro k
  rw[qCi]
  refine(qDb y lo hi).bindR (fun h=>?_) (fun h=>.f fun k=>h (k y (by simp)))
  simp only[Bool.not_true,cF]
  refine(ih (k+1)).iff ⟨fun q n hn=>?_,fun q n hn=>q n (by simp[hn])⟩
  rcases List.mem_cons.1 hn with rfl|hn
  ·exact h
  ·exact q n hn
theorem qX1 (s:ByteArray) (hs:s.size≤1048576):∀(m v fl:Nat),v+m=s.size→m<fl→∃b,qAq s fl (v:Int)=some b∧qEx s fl (v:Int)=some b:=by
 intro m
 induction m with
 |zero =>
  intro v fl h hf
  obtain⟨f,rfl⟩:=nZ9 (by omega:fl≠0)
  rw[qAq,qEx,dF (by omega),cF,cF]
  obtain⟨b,e1,e2⟩:=qDb (s.size:Int) 1 5
  obtain⟨b',e3,e4⟩:=qBu (s.size:Int) 1 5
  obtain rfl:b=b':=Bool.eq_iff_iff.2 (e2.trans e4.symm)
  rw[bnd e1,bnd e3]
  exact⟨b,rfl,rfl⟩
 |succ m ih =>
  intro v fl h hf
  obtain⟨f,rfl⟩:=nZ9 (by omega:fl≠0)
  have hv:v<s.size:=by omega
  have hi:qNo s (v:Int)=some s[v]:=by unfold qNo;rw[if_pos (by omega)];simp[hv]
  obtain⟨b,b1,b2⟩:=ih (v+1) f (by omega) (by omega)
  rw[show (((v+1:Nat):Int))=(v:Int)+1 from by omega]at b1 b2
  rw[qAq,qEx,dT (by omega),cW,cW,bnd hi,bnd hi]
  unfold qJt
  rw[oB9,qAD (by omega)]
  have hc:((decide ((s[v].toNat:Int)<65)||decide ((s[v].toNat:Int)>90))&&(decide ((s[v].toNat:Int)<48)||decide ((s[v].toNat:Int)>57)))=!((decide ((s[v].toNat:Int)≥65)&&decide ((s[v].toNat:Int)≤90))||(decide ((s[v].toNat:Int)≥48)&&decide ((s[v].toNat:Int)≤57))):=by
   rw[Bool.eq_iff_iff]
   simp only[Bool.and_eq_true,Bool.or_eq_true,decide_eq_true_eq,Bool.not_eq_true',Bool.or_eq_false_iff,Bool.and_eq_false_iff,decide_eq_false_iff_not]
   omega
  rw[hc]
  cases ((decide ((s[v].toNat:Int)≥65)&&decide ((s[v].toNat:Int)≤90))||(decide ((s[v].toNat:Int)≥48)&&decide ((s[v].toNat:Int)≤57)))
  ·exact⟨false,rfl,rfl⟩
  ·exact⟨b,b1,b2⟩
theorem qTm (s:ByteArray) (hs:s.size≤1048576) (fl:Nat) (hf:1048576<fl):∃b,qIO fl s=some b∧qGC fl s=some b:=by
 obtain⟨b,b1,b2⟩:=qX1 s hs s.size 0 fl (by omega) (by omega)
 exact⟨b,by unfold qIO;rw[show qDi fl s=some b from b1];rfl,b2⟩
def qFn (it:Item):Prop:=(1≤it.names.length∧it.names.length≤3)∧it.marks.length=it.names.length
theorem qWT (it:Item) (fl:Nat) (hf:1048576<fl):∀(ys:List ByteArray) (k:Nat),(∀s∈ys,s.size≤1048576)→∃b,qDt it fl ys k=some b∧qB1 it fl ys k=some b∧(b=true→qFn it):=by
 intro ys
 induction ys with
 |nil =>
  intro k _
  rw[qDt,qB1]
  obtain⟨b,e1,e2⟩:=qDb (it.names.length:Int) 1 3
  obtain⟨b',e3,e4⟩:=qBu (it.names.length:Int) 1 3
  obtain rfl:b=b':=Bool.eq_iff_iff.2 (e2.trans e4.symm)
  rw[bnd e1,bnd e3]
  cases b
  ·exact⟨false,rfl,rfl,by simp⟩
  ·by_cases hl:it.marks.length=it.names.length
   ·rw[show ((it.marks.length:Int)==(it.names.length:Int))=true from by rw[hl];simp]
    simp only[Bool.true_and,qCT]
    obtain⟨c,c1,c2⟩:=qPx 0 3 it.marks 0
    obtain⟨c',c3,c4⟩:=qIW 0 3 it.marks 0
    obtain rfl:c=c':=Bool.eq_iff_iff.2 (c2.trans c4.symm)
    rw[show qCD it.marks 0 3=some c from c3,show qCl it.marks 0 3=some c from c1]
    exact⟨c,rfl,rfl,fun _=>⟨by have:=e2.1 rfl;omega,hl⟩⟩
   ·rw[show ((it.marks.length:Int)==(it.names.length:Int))=false from by simp only[beq_eq_false_iff_ne,ne_eq];omega]
    exact⟨false,rfl,rfl,by simp⟩
 |cons y ys ih =>
  intro k h
  obtain⟨b,b1,b2⟩:=qTm y (h y (by simp)) fl hf
  rw[qDt,qB1,bnd b1,bnd b2]
  cases b
  ·exact⟨false,rfl,rfl,by simp⟩
  ·exact ih (k+1) fun s hs=>h s (by simp[hs])
theorem qW4 (l:List Item) (fl:Nat) (hf:1048576<fl):∀(ys:List Item) (k:Nat),(∀it∈ys,∀s∈it.names,s.size≤1048576)→∃b,qCr l fl ys k=some b∧qBy l fl ys k=some b∧(b=true→l.length≤14∧∀it∈ys,qFn it):=by
 intro ys
 induction ys with
 |nil =>
  intro k _
  rw[qCr,qBy]
  exact⟨_,rfl,rfl,fun h=>⟨by have:=of_decide_eq_true h;omega,by simp⟩⟩
 |cons y ys ih =>
  intro k h
  obtain⟨b,b1,b2,b3⟩:=qWT y fl hf y.names 0 (h y (by simp))
  rw[qCr,qBy,bnd (show qF4 fl y=some b from b1),bnd (show qDm fl y=some b from b2)]
  cases b
  ·exact⟨false,rfl,rfl,by simp⟩
  ·obtain⟨c,c1,c2,c3⟩:=ih (k+1) fun it hi=>h it (by simp[hi])
   refine⟨c,c1,c2,fun hc=>⟨(c3 hc).1,fun it hi=>?_⟩⟩
   rcases List.mem_cons.1 hi with rfl|hi
   ·exact b3 rfl
   ·exact(c3 hc).2 it hi
def qEE (l:List Item):Prop:=l.length≤14∧∀it∈l,qFn it
theorem qNW (l:List Item) (hl:∀it∈l,∀s∈it.names,s.size≤1048576) (fl:Nat) (hf:1048576<fl):∃b,qE4 fl l=some b∧qFP fl l=some b∧(b=true→qEE l):=qW4 l fl hf l 0 hl
def qVs (l:List Item):Prop:=∀it∈l,∀s∈it.names,s.size≤1048576
end
section
abbrev toL (s:ByteArray):List UInt8:=s.data.toList
theorem qGJ {s t:ByteArray} (h:toL s=toL t):s=t:=ByteArray.ext (Array.ext' h)
theorem qIg:∀{l m:List ByteArray},l.map toL=m.map toL→l=m
 | [],[],_=>rfl
 | [],_::_,h=>by simp at h
 |_::_,[],h=>by simp at h
 |x::l,y::m,h=>by
  rw[List.map_cons,List.map_cons]at h
  rw[qGJ (List.cons.inj h).1,qIg (List.cons.inj h).2]
def qJA (c:UInt8):List UInt8→List (List UInt8)
 | []=>[[]]
 |b::l=>if b=c then []::qJA c l else match qJA c l with | []=>[[b]]|h::t=>(b::h)::t
theorem qKG (c:UInt8):∀l:List UInt8,(qJA c l).length=l.count c+1
 | []=>rfl
 |b::l=>by
  have ih:=qKG c l
  unfold qJA
  by_cases h:b=c
  ·subst h;rw[if_pos rfl,List.length_cons,ih,List.count_cons_self]
  ·rw[if_neg h,List.count_cons_of_ne (by simpa using h)]
   split
   ·rename_i e;rw[e]at ih;simp at ih
   ·rename_i x t e;rw[e]at ih;simpa using ih
theorem qOW (c:UInt8):∀l:List UInt8,(∀x∈l,x≠c)→qJA c l=[l]
 | [],_=>rfl
 |b::l,h=>by
  unfold qJA
  rw[if_neg (h b (by simp)),qOW c l fun x hx=>h x (by simp[hx])]
theorem qLR (c:UInt8) (m:List UInt8):∀l:List UInt8,(∀x∈l,x≠c)→qJA c (l++c::m)=l::qJA c m
 | [],_=>by rw[List.nil_append,qJA,if_pos rfl]
 |b::l,h=>by
  rw[List.cons_append,qJA,if_neg (h b (by simp)),qLR c m l fun x hx=>h x (by simp[hx])]
theorem qUp (c:UInt8):∀(n:Nat) (s:List UInt8),s.length≤n→Go.Lib.split s [c]=qJA c s:=by
 intro n
 induction n with
 |zero =>
  intro s h
  obtain rfl:s=[]:=List.length_eq_zero_iff.1 (by omega)
  have h1:Go.Lib.index [] [c]=-1:=by rw[Go.Lib.index_one];rfl
  unfold Go.Lib.split
  rw[Go.Lib.count_miss h1];rfl
 |succ n ih =>
  intro s hs
  have hi:=Go.Lib.index_one s c
  by_cases h:Go.Lib.indexByte s c=-1
  ·unfold Go.Lib.split
   rw[h]at hi
   rw[Go.Lib.count_miss hi]
   rw[qOW c s fun x hx e=>by
    obtain⟨k,hk⟩:=List.getElem?_of_mem hx
    exact Go.Lib.indexByte_none h k (e▸hk)]
   rfl
  ·have hge:=Go.Lib.indexByte_ge s c
   obtain⟨o,ho⟩:∃o:Nat,Go.Lib.indexByte s c=o:=⟨(Go.Lib.indexByte s c).toNat,by omega⟩
   obtain⟨q1,q2⟩:=Go.Lib.indexByte_some ho
   rw[ho]at hi
   have hlt:o<s.length:=(List.getElem?_eq_some_iff.1 q1).1
   have e:s=s.take o++c::s.drop (o+1):=by
    have:=List.take_append_drop o s
    rw[List.drop_eq_getElem_cons hlt,(List.getElem?_eq_some_iff.1 q1).2]at this
    exact this.symm
   have hr:=ih (s.drop (o+1)) (by rw[List.length_drop];omega)
   have hc:qJA c s=s.take o::qJA c (s.drop (o+1)):=by
    conv=>lhs;rw[e]
    exact qLR c _ _ fun x hx e=>by
     obtain⟨k,hk⟩:=List.getElem?_of_mem hx
     have hk2:=(List.getElem?_eq_some_iff.1 hk).1
     rw[List.length_take]at hk2
     rw[List.getElem?_take,if_pos (by omega)]at hk
     exact q2 k (by omega) (e▸hk)
   rw[hc,←hr]
   unfold Go.Lib.split
   rw[Go.Lib.count_hit (by simp) hi,Nat.add_comm,Go.Lib.splitK,if_neg (by rw[hi];simp),hi]
   simp
theorem qNZ (s:ByteArray) (c:UInt8):(qH1 s ⟨#[c]⟩).map toL=qJA c (toL s):=by
 have:=Go.Lib.splitB_data ⟨#[c]⟩ 0 (Go.Lib.countB s ⟨#[c]⟩) s
 exact this.trans (qUp c (toL s).length (toL s) (Nat.le_refl _))
theorem qWq (s:ByteArray) (i:Nat):s[i]?=(toL s)[i]?:=by
 by_cases h:i<s.size
 ·rw[ByteArray.getElem?_lt' s i h,List.getElem?_eq_getElem (by rw[←Go.Lib.size_eq];exact h)]
  rfl
 ·rw[ByteArray.getElem?_ge' s i h,List.getElem?_eq_none (by rw[←Go.Lib.size_eq];omega)]
theorem qMR {s:ByteArray} {i:Int} {k:Nat} (h:i=(k:Int)):qNo s i=(toL s)[k]?:=by
 subst h;unfold qNo;rw[if_pos (by omega),Int.toNat_natCast,qWq]
theorem qTc (s:ByteArray) (hn:s.size≤4194304) (c:UInt8):∀(m k i fr:Nat) (out:List ByteArray),i+m=s.size→m<k→fr≤i→(∀x∈((toL s).drop fr).take (i-fr),x≠c)→out.length+m≤4194304→
  ∃r,qDM s ((c.toNat:Nat):Int) k out (fr:Int) (i:Int)=some (out++r)∧r.map toL=qJA c ((toL s).drop fr):=by
 have hsz:=Go.Lib.size_eq s
 intro m
 induction m with
 |zero =>
  intro k i fr out h1 h2 h3 h4 h5
  obtain⟨k,rfl⟩:=nZ9 (by omega:k≠0)
  rw[qDM,dF (by omega),cF,show inB (fr:Int) s.size s.size=true from by unfold inB;simp;omega,qD1,oB9,qGx (by simp;omega),qD1,oB9]
  refine⟨_,rfl,?_⟩
  rw[qOW c _ fun x hx=>h4 x (by rw[List.take_of_length_le (by rw[List.length_drop,←hsz];omega)];exact hx)]
  simp only[List.map_cons,List.map_nil,Int.toNat_natCast]
  exact congrArg (fun x=>[x]) (Go.Lib.extract_to_end s fr)
 |succ m ih =>
  intro k i fr out h1 h2 h3 h4 h5
  obtain⟨k,rfl⟩:=nZ9 (by omega:k≠0)
  have hlt:i<(toL s).length:=by rw[←hsz];omega
  rw[qDM,dT (by omega),cW,qMR rfl,List.getElem?_eq_getElem hlt,oB9,qAD (by omega)]
  by_cases hx:(toL s)[i]=c
  ·rw[hx,show ((c.toNat:Int)==((c.toNat:Nat):Int))=true from beq_self_eq_true _,cW,show inB (fr:Int) (i:Int) s.size=true from by unfold inB;simp;omega,qD1,oB9,qGx (by simp;omega),qD1,oB9]
   obtain⟨r,r1,r2⟩:=ih k (i+1) (i+1) (out++[ByteArray.extract s (fr:Int).toNat (i:Int).toNat]) (by omega) (by omega) (Nat.le_refl _) (by simp) (by simp;omega)
   refine⟨ByteArray.extract s fr i::r,?_,?_⟩
   ·rw[show ((i:Int)+1)=((i+1:Nat):Int) from by omega,r1];simp
   ·have hp:toL (ByteArray.extract s fr i)=((toL s).drop fr).take (i-fr):=Go.Lib.extract_data s fr i
    rw[List.map_cons,r2,hp]
    have e:(toL s).drop fr=((toL s).drop fr).take (i-fr)++c::(toL s).drop (i+1):=by
     have:=List.take_append_drop (i-fr) ((toL s).drop fr)
     rw[List.drop_drop,show fr+(i-fr)=i from by omega,List.drop_eq_getElem_cons hlt,hx]at this
     exact this.symm
    conv=>rhs;rw[e]
    rw[qLR c _ _ h4]
  ·rw[show (((toL s)[i].toNat:Int)==((c.toNat:Nat):Int))=false from by
    rw[beq_eq_false_iff_ne];intro e;exact hx (UInt8.toNat_inj.1 (by omega)),cF,show ((i:Int)+1)=((i+1:Nat):Int) from by omega]
   refine ih k (i+1) fr out (by omega) (by omega) (by omega) (fun x hxm=>?_) (by omega)
   rw[show i+1-fr=(i-fr)+1 from by omega,List.take_add_one,List.mem_append]at hxm
   rcases hxm with hxm|hxm
   ·exact h4 x hxm
   ·rw[List.getElem?_drop,show fr+(i-fr)=i from by omega,List.getElem?_eq_getElem hlt]at hxm
    simp at hxm
    rw[hxm];exact hx
theorem qNa (s:ByteArray) (hn:s.size≤4194304) (c:UInt8) (fl:Nat) (hf:4194304<fl):∃r,qA0 fl s ((c.toNat:Nat):Int)=some r∧r.map toL=qJA c (toL s):=by
 obtain⟨r,r1,r2⟩:=qTc s hn c s.size fl 0 0 [] (by omega) (by omega) (Nat.le_refl _) (by simp) (by simp;omega)
 exact⟨r,r1,r2⟩
end
section
def qQV (n:Nat):List UInt8:=if n<10 then [UInt8.ofNat (48+n)] else qQV (n/10)++[UInt8.ofNat (48+n%10)]
termination_by n
decreasing_by omega
def qMT (l:List UInt8):Nat:=l.foldl (fun v b=>10*v+(b.toNat-48)) 0
def qVp (l:List UInt8):Prop:=∀b∈l,48≤b.toNat∧b.toNat≤57
def qRT (l:List UInt8):Prop:=l≠[]∧qVp l∧(1<l.length→l.head?≠some 48)
theorem qX7 {n:Nat} (h:n<10):(UInt8.ofNat (48+n)).toNat=48+n:=by
 rw[UInt8.toNat_ofNat'];omega
theorem qQd (l:List UInt8) (b:UInt8):qMT (l++[b])=10*qMT l+(b.toNat-48):=by
 unfold qMT;rw[List.foldl_append];rfl
theorem qXn (n:Nat):qQV n≠[]:=by
 rw[qQV];split<;>simp
theorem qW9 {l:List UInt8} (h:qRT l) (h1:1<l.length):0<qMT l:=by
 obtain⟨_,hd,hh⟩:=h
 cases l with
 |nil=>simp at h1
 |cons b l =>
  have hb:=hd b (by simp)
  have hb2:b.toNat≠48:=fun e=>hh h1 (by simp;exact UInt8.toNat_inj.1 e)
  have key:∀(m:List UInt8) (v:Nat),0<v→0<m.foldl (fun v b=>10*v+(b.toNat-48)) v:=by
   intro m
   induction m with
   |nil=>intro v hv;exact hv
   |cons c m ih=>intro v hv;exact ih (10*v+(c.toNat-48)) (by omega)
  exact key l (10*0+(b.toNat-48)) (by omega)
theorem qUe:∀(n:Nat) (l:List UInt8),l.length=n→qRT l→qQV (qMT l)=l:=by
 intro n
 induction n with
 |zero=>intro l hl h;exact absurd (List.eq_nil_of_length_eq_zero hl) h.1
 |succ n ih =>
  intro l hl h
  rcases List.eq_nil_or_concat l with rfl|⟨m,b,rfl⟩
  ·simp at hl
  simp only[List.concat_eq_append]at *
  have hb:=h.2.1 b (by simp)
  have hlt:b.toNat<256:=b.toNat_lt
  rw[qQd]
  have hbo:UInt8.ofNat (48+(b.toNat-48))=b:=by
   apply UInt8.toNat_inj.1
   rw[qX7 (by omega)];omega
  cases hm:m with
  |nil =>
   show qQV (10*0+(b.toNat-48))=[b]
   rw[Nat.mul_zero,Nat.zero_add,qQV,if_pos (by omega),hbo]
  |cons c m' =>
   have hcm:qRT m:=by
    refine⟨by rw[hm];simp,fun x hx=>h.2.1 x (by simp[hx]),fun h1=>?_⟩
    have:=h.2.2 (by simp;omega)
    rw[hm]at this⊢
    simpa using this
   have hpos:0<qMT m:=by
    by_cases h1:1<m.length
    ·exact qW9 hcm h1
    ·have hm':m'=[]:=by rw[hm]at h1;simp at h1;exact h1
     subst hm'
     have hh:=h.2.2 (by rw[hm];simp)
     rw[hm]at hh⊢
     have hc:=h.2.1 c (by rw[hm];simp)
     have:c.toNat≠48:=fun e=>hh (by simp;exact UInt8.toNat_inj.1 e)
     show 0<10*0+(c.toNat-48)
     omega
   have e:=ih m (by simp at hl;omega) hcm
   rw[←hm,qQV,if_neg (by omega),show (10*qMT m+(b.toNat-48))/10=qMT m from by omega,show (10*qMT m+(b.toNat-48))%10=b.toNat-48 from by omega,e,hbo]
def qNw (c:UInt8):List (List UInt8)→List UInt8
 | []=>[]
 | [x]=>x
 |x::y::l=>x++c::qNw c (y::l)
theorem qOi (c:UInt8) (l:List UInt8):qJA c l≠[]:=by
 intro h
 have:=qKG c l
 rw[h]at this;simp at this
theorem qLL (c:UInt8):∀l:List UInt8,qNw c (qJA c l)=l
 | []=>rfl
 |b::l=>by
  have ih:=qLL c l
  rw[qJA]
  by_cases h:b=c
  ·rw[if_pos h]
   cases hq:qJA c l with
   |nil=>exact absurd hq (qOi c l)
   |cons x t =>
    rw[hq]at ih
    show []++c::qNw c (x::t)=b::l
    rw[ih,h];rfl
  ·rw[if_neg h]
   cases hq:qJA c l with
   |nil=>exact absurd hq (qOi c l)
   |cons x t =>
    rw[hq]at ih
    show qNw c ((b::x)::t)=b::l
    rw[←ih]
    cases t<;>rfl
def qYv (m:Int):List UInt8:=if m=0 then [110,111,110,101] else if m=1 then [100,111,119,110] else if m=2 then [101,100,103,101] else [118,111,105,100]
end
section
theorem qVf {b:UInt8} (h:48≤b.toNat∧b.toNat≤57):IntKind.wrap .i64 (IntKind.wrap .u8 ((b.toNat:Int)-48))=((b.toNat-48:Nat):Int):=by
 have:b.toNat=48∨b.toNat=49∨b.toNat=50∨b.toNat=51∨b.toNat=52∨b.toNat=53∨b.toNat=54∨b.toNat=55∨b.toNat=56∨b.toNat=57:=by omega
 rcases this with h|h|h|h|h|h|h|h|h|h<;>rw[h]<;>decide
theorem qR8:∀(n:Nat) (l:List UInt8),l.length=n→qVp l→qMT l<10 ^ n:=by
 intro n
 induction n with
 |zero=>intro l hl _;rw[List.eq_nil_of_length_eq_zero hl];decide
 |succ n ih =>
  intro l hl hd
  rcases List.eq_nil_or_concat l with rfl|⟨m,b,rfl⟩
  ·simp at hl
  simp only[List.concat_eq_append]at *
  rw[qQd]
  have h1:=ih m (by simp at hl;omega) fun x hx=>hd x (by simp[hx])
  have h2:=hd b (by simp)
  rw[Nat.pow_succ]
  omega
theorem qWd (s:ByteArray) (hs:s.size≤12):∀(m k i:Nat) (v:Int),i+m=s.size→m<k→v=(qMT ((toL s).take i):Int)→qVp ((toL s).take i)→
  (qVp (toL s)→qDL s k v i=some ((qMT (toL s):Int),true)∧qD3 s k v i=some (qMT (toL s):Int))∧
  (¬qVp (toL s)→qDL s k v i=some (0,false)∧qD3 s k v i=some (-1)):=by
 have hsz:s.size=(toL s).length:=Go.Lib.size_eq s
 intro m
 induction m with
 |zero =>
  intro k i v h1 h2 hv hd
  obtain⟨k,rfl⟩:=nZ9 (by omega:k≠0)
  have hall:(toL s).take i=toL s:=List.take_of_length_le (by rw[←hsz];omega)
  rw[hall]at hv hd
  rw[qDL,qD3,dF (by omega),cF,cF,hv]
  exact⟨fun _=>⟨rfl,rfl⟩,fun h=>absurd hd h⟩
 |succ m ih =>
  intro k i v h1 h2 hv hd
  obtain⟨k,rfl⟩:=nZ9 (by omega:k≠0)
  have hlt:i<(toL s).length:=by rw[←hsz];omega
  rw[qDL,qD3,dT (by omega),cW,cW,qMR rfl,List.getElem?_eq_getElem hlt,oB9,oB9]
  by_cases hb:48≤(toL s)[i].toNat∧(toL s)[i].toNat≤57
  ·rw[dF (by omega),dF (by omega),Bool.or_false,cF,cF,qVf hb]
   have hvl:=qR8 i ((toL s).take i) (by rw[List.length_take];omega) hd
   have hp:10 ^ i≤10 ^ 12:=Nat.pow_le_pow_right (by omega) (by omega)
   have ht:(toL s).take (i+1)=(toL s).take i++[(toL s)[i]]:=by rw[List.take_add_one,List.getElem?_eq_getElem hlt];rfl
   have e1:w64 (10*v)=10*v:=qAD (by rw[hv];omega)
   rw[e1,qAD (by rw[hv];omega),qAD (by omega),show ((i:Int)+1)=((i+1:Nat):Int) from by omega]
   refine ih k (i+1) _ (by omega) (by omega) ?_ ?_
   ·rw[ht,qQd,hv];omega
   ·rw[ht]
    intro x hx
    rcases List.mem_append.1 hx with hx|hx
    ·exact hd x hx
    ·rw[List.mem_singleton.1 hx];exact hb
  ·have hno:¬qVp (toL s):=fun h=>hb (h _ (List.getElem_mem hlt))
   have e:(decide (((toL s)[i].toNat:Int)<48)||decide (((toL s)[i].toNat:Int)>57))=true:=by
    rw[Bool.or_eq_true,decide_eq_true_iff,decide_eq_true_iff];omega
   rw[e,cW,cW]
   exact⟨fun h=>absurd h hno,fun _=>⟨rfl,rfl⟩⟩
theorem qQJ (s:ByteArray):s=⟨#[]⟩↔toL s=[]:=⟨fun h=>by rw[h],fun h=>qGJ h⟩
theorem qM8 (s:ByteArray) (hs:s.size≤1048576) (F:Nat) (hF:12<F):∃r,qGS F s=some r∧(r.2=true↔qRT (toL s)∧(toL s).length≤12)∧(r.2=true→r.1=(qMT (toL s):Int)):=by
 have hsz:s.size=(toL s).length:=Go.Lib.size_eq s
 unfold qGS
 by_cases h0:s=⟨#[]⟩
 ·rw[dT h0]
  simp only[Bool.true_or,Bool.not_true,Bool.false_and,qDY,oB9,cW]
  exact⟨_,rfl,⟨fun h=>by simp at h,fun h=>absurd ((qQJ s).1 h0) h.1.1⟩,fun h=>by simp at h⟩
 have hne:toL s≠[]:=fun h=>h0 ((qQJ s).2 h)
 rw[dF h0,Bool.false_or]
 by_cases h12:(s.size:Int)>12
 ·rw[dT h12]
  simp only[Bool.true_or,Bool.not_true,Bool.false_and,qDY,oB9,cW]
  exact⟨_,rfl,⟨fun h=>by simp at h,fun h=>absurd h.2 (by rw[←hsz];omega)⟩,fun h=>by simp at h⟩
 rw[dF h12]
 simp only[Bool.not_false,Bool.true_and,Bool.false_or]
 have hpos:0<(toL s).length:=List.length_pos_iff.2 hne
 have hl:=qWd s (by omega) s.size F 0 0 (by omega) (by omega) (by rfl) (by intro x hx;simp at hx)
 by_cases h1:(s.size:Int)>1
 ·rw[dT h1,qCT,qMR (i:=0) (k:=0) rfl,List.getElem?_eq_getElem hpos,oB9,Bool.true_and]
  have hhd:(toL s).head?=some (toL s)[0]:=by rw[List.head?_eq_getElem?,List.getElem?_eq_getElem hpos]
  by_cases h48:(toL s)[0]=48
  ·rw[h48,show (((48:UInt8).toNat:Int)==48)=true from rfl,cW]
   exact⟨_,rfl,⟨fun h=>by simp at h,fun h=>absurd (by rw[hhd,h48]) (h.1.2.2 (by rw[←hsz];omega))⟩,fun h=>by simp at h⟩
  ·rw[show (((toL s)[0].toNat:Int)==48)=false from by rw[beq_eq_false_iff_ne];intro e;exact h48 (UInt8.toNat_inj.1 (by show _=48;omega)),cF]
   by_cases hd:qVp (toL s)
   ·exact⟨_,(hl.1 hd).1,⟨fun _=>⟨⟨hne,hd,fun _ h=>h48 (by rw[hhd]at h;exact Option.some.inj h)⟩,by rw[←hsz];omega⟩,fun _=>rfl⟩,fun _=>rfl⟩
   ·exact⟨_,(hl.2 hd).1,⟨fun h=>by simp at h,fun h=>absurd h.1.2.1 hd⟩,fun h=>by simp at h⟩
 ·rw[dF h1,qDY,oB9,Bool.false_and,cF]
  by_cases hd:qVp (toL s)
  ·exact⟨_,(hl.1 hd).1,⟨fun _=>⟨⟨hne,hd,fun h=>by rw[←hsz]at h;omega⟩,by rw[←hsz];omega⟩,fun _=>rfl⟩,fun _=>rfl⟩
  ·exact⟨_,(hl.2 hd).1,⟨fun h=>by simp at h,fun h=>absurd h.1.2.1 hd⟩,fun h=>by simp at h⟩
end
section
theorem qTu (c:UInt8) (m:List UInt8):∀l:List UInt8,qJA c (l++c::m)=qJA c l++qJA c m
 | []=>qLR c m [] (fun _ h=>by cases h)
 |b::l=>by
  have ih:=qTu c m l
  rw[List.cons_append,qJA,ih]
  conv=>rhs;rw[qJA]
  by_cases h:b=c
  ·rw[if_pos h,if_pos h,List.cons_append]
  ·rw[if_neg h,if_neg h]
   cases h2:qJA c l with
   |nil=>have:=qKG c l;rw[h2]at this;simp at this
   |cons x t=>rfl
theorem qMo (c:UInt8):∀(l x:List UInt8),x∈qJA c l→x.length≤l.length
 | [],x,h=>by rw[qJA]at h;rw[List.mem_singleton.1 h];exact Nat.le_refl _
 |b::l,x,h=>by
  rw[qJA]at h
  by_cases e:b=c
  ·rw[if_pos e]at h
   rcases List.mem_cons.1 h with rfl|h
   ·exact Nat.zero_le _
   ·exact Nat.le_succ_of_le (qMo c l x h)
  ·rw[if_neg e]at h
   cases hq:qJA c l with
   |nil=>exact absurd hq (qOi c l)
   |cons z t =>
    rw[hq]at h
    rcases List.mem_cons.1 h with rfl|h
    ·exact Nat.succ_le_succ (qMo c l z (by rw[hq];simp))
    ·exact Nat.le_succ_of_le (qMo c l x (by rw[hq];simp[h]))
theorem qQL:∀(k n:Nat),n<10 ^ (k+1)→(qQV n).length≤k+1:=by
 intro k
 induction k with
 |zero=>intro n h;rw[qQV,if_pos (by omega)];exact Nat.le_refl _
 |succ k ih =>
  intro n h
  rw[qQV]
  split
  ·simp
  ·rw[List.length_append]
   have:=ih (n/10) (by rw[Nat.pow_succ]at h;omega)
   simp;omega
def qNF:List ByteArray:=[(⟨#[110,111,110,101]⟩:ByteArray),(⟨#[100,111,119,110]⟩:ByteArray),(⟨#[101,100,103,101]⟩:ByteArray),(⟨#[118,111,105,100]⟩:ByteArray)]
end
section
theorem qRH (c:UInt8) (z:List UInt8):∀m:List (List UInt8),m≠[]→qNw c (m++[z])=qNw c m++c::z
 | [],h=>absurd rfl h
 | [x],_=>rfl
 |x::y::m,_=>by
  show x++c::qNw c (y::m++[z])=(x++c::qNw c (y::m))++c::z
  rw[qRH c z (y::m) (by simp)];simp
theorem qXR (c:UInt8) {l:List UInt8} {m:List (List UInt8)} (h:qJA c l=m++[[]]):l=[]∨∃l',l=l'++[c]:=by
 have h1:=qLL c l
 rw[h]at h1
 by_cases hm:m=[]
 ·subst hm;exact .inl h1.symm
 ·rw[qRH c [] m hm]at h1;exact .inr ⟨_,h1.symm⟩
theorem qTM (s:ByteArray) (hs:s.size≤1048576):∃x,qGa s=some x∧((x.2=true∧qJA 10 (toL s)=x.1.map toL++[[]])∨(x.2=false∧∀m,qJA 10 (toL s)≠m++[[]])):=by
 have hsz:s.size=(toL s).length:=Go.Lib.size_eq s
 unfold qGa
 by_cases he:s=⟨#[]⟩
 ·rw[dT he,cW]
  exact⟨_,rfl,.inl ⟨rfl,by rw[(qQJ s).1 he];rfl⟩⟩
 have hne:toL s≠[]:=fun h=>he ((qQJ s).2 h)
 have hpos:=List.length_pos_iff.2 hne
 have hlt:s.size-1<(toL s).length:=by omega
 have hlast:qNo s (w64 ((s.size:Int)-1))=some (toL s)[s.size-1]:=by
  rw[qAD (by omega),qMR (k:=s.size-1) (by omega),List.getElem?_eq_getElem hlt]
 rw[dF he,cF,bnd hlast]
 generalize hb:(toL s)[s.size-1]=b
 have hL:toL s=(toL s).take (s.size-1)++[b]:=by
  have:=List.take_append_drop (s.size-1) (toL s)
  rw[List.drop_eq_getElem_cons hlt,hb,List.drop_of_length_le (by omega)]at this
  exact this.symm
 by_cases h10:b=10
 ·subst h10
  rw[show (((10:UInt8).toNat:Int) != 10)=false from rfl,cF]
  have hin:inB 0 (w64 ((s.size:Int)-1)) s.size=true:=by rw[qAD (by omega)];unfold inB;simp;omega
  have htn:(w64 ((s.size:Int)-1)).toNat=s.size-1:=by rw[qAD (by omega)];omega
  rw[hin,qD1,oB9,htn]
  unfold qBx
  have hes:(s.extract 0 (s.size-1)).size≤s.size:=by rw[Go.Lib.size_eq,Go.Lib.extract_data,List.length_take,List.length_drop,←hsz];omega
  rw[show (Nat.blt (s.extract 0 (s.size-1)).size 4294967281&&Nat.blt 0 (⟨#[10]⟩:ByteArray).size)=true from by
   rw[Bool.and_eq_true,Nat.blt_eq];exact⟨by omega,rfl⟩,qD1,oB9,oB9]
  have hsp:=qNZ (s.extract 0 (s.size-1)) 10
  rw[show toL (s.extract 0 (s.size-1))=(toL s).take (s.size-1) from by rw[show toL (s.extract 0 (s.size-1))=_ from Go.Lib.extract_data s 0 (s.size-1)];rw[List.drop_zero,Nat.sub_zero]]at hsp
  refine⟨_,rfl,.inl ⟨rfl,?_⟩⟩
  show _=(qH1 (s.extract 0 (s.size-1)) ⟨#[10]⟩).map toL++[[]]
  rw[hsp,hL,qTu]
  simp only[List.take_left',List.length_take,←hsz,show min (s.size-1) s.size=s.size-1 from by omega]
  rfl
 ·rw[show ((b.toNat:Int) != 10)=true from by rw[bne_iff_ne];intro e;exact h10 (UInt8.toNat_inj.1 (by show b.toNat=10;omega)),cW]
  refine⟨_,rfl,.inr ⟨rfl,fun m hm=>?_⟩⟩
  rcases qXR 10 hm with h|⟨l',h⟩
  ·exact hne h
  ·rw[hL]at h
   exact h10 (List.cons.inj (List.append_inj' h rfl).2).1
end
section
theorem qIz (a b:ByteArray):toL (a++b)=toL a++toL b:=by
 show (a++b).data.toList=_
 rw[ByteArray.data_append,Array.toList_append]
theorem nd {a b:Nat} (h:a+b≤1000000):qAr (Nat.ble (a+b) qDp)=some ():=by
 rw[show Nat.ble (a+b) qDp=true from by rw[Nat.ble_eq];unfold qDp;omega];rfl
theorem qYc (F:Nat):∀(k rf n:Nat),n<10 ^ (k+1)→k<12→k<rf→∃t,qBc F rf (n:Int)=some t∧toL t=qQV n:=by
 intro k
 induction k with
 |zero =>
  intro rf n h _ hr
  obtain⟨rf,rfl⟩:=nZ9 (by omega:rf≠0)
  rw[qBc,dT (by omega),cW,qQV,if_pos (by omega),qAD (by omega)]
  refine⟨_,rfl,?_⟩
  have:n=0∨n=1∨n=2∨n=3∨n=4∨n=5∨n=6∨n=7∨n=8∨n=9:=by omega
  rcases this with rfl|rfl|rfl|rfl|rfl|rfl|rfl|rfl|rfl|rfl<;>rfl
 |succ k ih =>
  intro rf n h hk hr
  obtain⟨rf,rfl⟩:=nZ9 (by omega:rf≠0)
  have hdig:∀d:Nat,d<10→toL (strOfNums [IntKind.wrap .u8 (w64 (48+(d:Int)))])=[UInt8.ofNat (48+d)]:=by
   intro d hd
   rw[qAD (by omega)]
   have:d=0∨d=1∨d=2∨d=3∨d=4∨d=5∨d=6∨d=7∨d=8∨d=9:=by omega
   rcases this with rfl|rfl|rfl|rfl|rfl|rfl|rfl|rfl|rfl|rfl<;>rfl
  rw[qBc,qQV]
  by_cases h10:n<10
  ·rw[dT (by omega),cW,if_pos h10]
   exact⟨_,rfl,hdig n h10⟩
  ·rw[dF (by omega),cF,if_neg h10,show qAr (10 != 0)=some () from rfl,oB9]
   have hp:10 ^ (k+1+1)≤10 ^ 13:=Nat.pow_le_pow_right (by omega) (by omega)
   have e1:((n:Int)).tdiv 10=((n/10:Nat):Int):=by rw[Int.tdiv_eq_ediv_of_nonneg (by omega)];omega
   have e2:((n:Int)).tmod 10=((n%10:Nat):Int):=by rw[Int.tmod_eq_emod_of_nonneg (by omega)];omega
   rw[e1,e2,qAD (n:=((n/10:Nat):Int)) (by omega)]
   obtain⟨t,t1,t2⟩:=ih rf (n/10) (by rw[Nat.pow_succ]at h;omega) (by omega) (by omega)
   have hts:t.size≤k+1:=by
    rw[show t.size=(toL t).length from Go.Lib.size_eq t,t2]
    exact qQL k _ (by rw[Nat.pow_succ]at h;omega)
   rw[bnd t1,show (strOfNums [IntKind.wrap .u8 (w64 (48+((n%10:Nat):Int)))]).size=1 from rfl,nd (by omega),oB9]
   exact⟨_,rfl,by rw[qIz,t2,hdig _ (Nat.mod_lt _ (by omega))]⟩
theorem qX2 (m:Int) (h:0≤m∧m≤3):∃w,qAT qNF m=some w∧toL w=qYv m∧w.size=4:=by
 have:m=0∨m=1∨m=2∨m=3:=by omega
 rcases this with rfl|rfl|rfl|rfl<;>exact⟨_,rfl,rfl,rfl⟩
end
section
def qWE (xs:List ByteArray):Nat:=(xs.map fun x=>x.size).sum
theorem qKf (x:ByteArray) (xs:List ByteArray):qWE (x::xs)=x.size+qWE xs:=rfl
def qTQ (sep:List UInt8) (ys:List ByteArray):List UInt8:=(ys.map fun y=>sep++toL y).flatten
theorem qO5 (sep:List UInt8) (y:ByteArray) (ys:List ByteArray):qTQ sep (y::ys)=(sep++toL y)++qTQ sep ys:=rfl
theorem qQu (a b:ByteArray):toL (a++b)=toL a++toL b:=by
 show (a++b).data.toList=_
 rw[ByteArray.data_append,Array.toList_append]
theorem qYp {n:Nat} (h:n≤1000000000):qAr (Nat.ble n 140737488355328)=some ():=by
 rw[show Nat.ble n 140737488355328=true from by rw[Nat.ble_eq];omega];rfl
theorem qXB (sep:ByteArray):∀(ys:List ByteArray) (k:Nat) (acc:ByteArray),acc.size+qWE ys+sep.size*ys.length≤1000000000→
  (∃r,qDV sep ys k acc=some r∧toL r=toL acc++qTQ (toL sep) ys)∧(∃r,qDH sep ys k acc=some r∧toL r=toL acc++qTQ (toL sep) ys):=by
 intro ys
 induction ys with
 |nil =>
  intro k acc _
  rw[qDV,qDH]
  exact⟨⟨_,rfl,by unfold qTQ;simp⟩,⟨_,rfl,by unfold qTQ;simp⟩⟩
 |cons y ys ih =>
  intro k acc h
  rw[qKf,List.length_cons,Nat.mul_add,Nat.mul_one]at h
  rw[qDV,qDH,qYp (by omega),oB9,oB9,qYp (by rw[ByteArray.size_append];omega),oB9,oB9]
  obtain⟨⟨r,r1,r2⟩,q,q1,q2⟩:=ih (k+1) ((acc++sep)++y) (by rw[ByteArray.size_append,ByteArray.size_append];omega)
  refine⟨⟨r,r1,?_⟩,q,q1,?_⟩
  ·rw[r2,qO5,qQu,qQu];simp only[List.append_assoc]
  ·rw[q2,qO5,qQu,qQu];simp only[List.append_assoc]
theorem qT6 (x:ByteArray) (xs:List ByteArray) (sep:ByteArray) (hb:x.size+qWE xs+sep.size*xs.length≤1000000000) (hx:xs.length≤1000000000):∀(ys:List ByteArray) (k:Nat) (v:Int),0≤v→v+(qWE ys:Int)≤2000000000→
  (∃r,qDN (x::xs) sep ys k v=some r∧toL r=toL x++qTQ (toL sep) xs)∧(∃r,qDJ (x::xs) sep ys k v=some r∧toL r=toL x++qTQ (toL sep) xs):=by
 intro ys
 induction ys with
 |nil =>
  intro k v h0 h1
  have hv:v≤2000000000:=by have:qWE []=0:=rfl;omega
  have e0:(⟨#[]⟩:ByteArray).size=0:=rfl
  have hn:qAr (decide (0≤v)&&decide (v≤281474976710656))=some ():=by rw[dT h0,dT (by omega)];rfl
  have hs:qC0 (x::xs) 1=some xs:=by
   unfold qC0
   rw[if_pos (by simp;omega)]
   rfl
  rw[qDN,qDJ,hn,oB9,oB9,bnd (show qAT (x::xs) 0=some x from rfl),bnd (show qAT (x::xs) 0=some x from rfl),qYp (by rw[e0];omega),oB9,oB9,bnd hs,bnd hs]
  have hap:toL ((⟨#[]⟩:ByteArray)++x)=toL x:=by rw[qQu];rfl
  obtain⟨⟨r,r1,r2⟩,q,q1,q2⟩:=qXB sep xs 0 ((⟨#[]⟩:ByteArray)++x) (by rw[ByteArray.size_append,e0];omega)
  exact⟨⟨r,r1,by rw[r2,hap]⟩,q,q1,by rw[q2,hap]⟩
 |cons y ys ih =>
  intro k v h0 h1
  rw[qKf]at h1
  have hw:w64 (9223372036854775807-v)=9223372036854775807-v:=qAD (by omega)
  rw[qDN,qDJ,hw,dF (by omega),cF,cF,qAD (by omega)]
  exact ih (k+1) (v+(y.size:Int)) (by omega) (by omega)
theorem qW3 (x:ByteArray) (xs:List ByteArray) (sep:ByteArray) (hs:sep.size≤1000) (hb:x.size+qWE xs+sep.size*xs.length≤1000000000) (hx:xs.length≤1000000):∃r,qFa (x::xs) sep=some r∧toL r=toL x++qTQ (toL sep) xs:=by
 unfold qFa
 rw[show (((x::xs).length:Int)==0)=false from by rw[beq_eq_false_iff_ne];simp;omega,cF]
 have hl:((x::xs).length:Int)=(xs.length:Int)+1:=by simp
 rw[hl]
 by_cases h1:xs=[]
 ·subst h1
  exact⟨x,rfl,by unfold qTQ;simp⟩
 have hpos:0<xs.length:=List.length_pos_iff.2 h1
 rw[show (((xs.length:Int)+1)==1)=false from by rw[beq_eq_false_iff_ne];omega,cF]
 by_cases h2:(sep.size:Int)>0
 ·have hw:w64 ((xs.length:Int)+1-1)=(xs.length:Int):=by rw[qAD (by omega)];omega
  rw[dT h2,cW,hw,show qAr ((xs.length:Int) != 0)=some () from by rw[show ((xs.length:Int) != 0)=true from by rw[bne_iff_ne];omega];rfl,oB9]
  have hdiv:(1001:Int)≤(9223372036854775807:Int)/(xs.length:Int):=by
   rw[Int.le_ediv_iff_mul_le (by omega)];omega
  have hdle:(9223372036854775807:Int)/(xs.length:Int)≤9223372036854775807:=Int.ediv_le_self _ (by omega)
  have ht:(9223372036854775807:Int).tdiv (xs.length:Int)=(9223372036854775807:Int)/(xs.length:Int):=Int.tdiv_eq_ediv_of_nonneg (by omega)
  rw[ht,qAD ⟨by omega,hdle⟩,dF (by omega),cF]
  have hm:((sep.size:Int)*(xs.length:Int))=((sep.size*xs.length:Nat):Int):=by rw[Int.natCast_mul]
  rw[hm,qAD (n:=((sep.size*xs.length:Nat):Int)) (by omega),qAD (by omega)]
  exact(qT6 x xs sep hb (by omega) (x::xs) 0 _ (by omega) (by rw[qKf];omega)).1
 ·rw[dF h2,cF]
  exact(qT6 x xs sep hb (by omega) (x::xs) 0 0 (by omega) (by rw[qKf];omega)).2
theorem qUa (n:Nat):Go.Lib.decDigits n=qQV n:=by
 induction n using Nat.strongRecOn with
 |_ n ih =>
  rw[Go.Lib.decDigits,qQV]
  by_cases h:n<10
  ·rw[dif_pos h,if_pos h]
  ·rw[dif_neg h,if_neg h,ih (n/10) (by omega)]
end
section
def rnd (a b:Int):Int:=(2*a+b)/(2*b)
def cl (a b:Int):Int:=-((-a)/b)
theorem qVX {a a' b:Int} (hb:0<b) (h:a≤a'):rnd a b≤rnd a' b:=Int.ediv_le_ediv (by omega) (by omega)
theorem qUm {a a' b d:Int} (hb:0<b) (h:a'≤a+d*b):rnd a' b≤rnd a b+d:=by
 have h1:=qVX hb h
 have e:rnd (a+d*b) b=rnd a b+d:=by
  unfold rnd
  have e1:2*(a+d*b)+b=2*a+b+d*(2*b):=by
   rw[Int.mul_add,Int.mul_left_comm];omega
  rw[e1]
  exact Int.add_mul_ediv_right _ _ (by omega)
 omega
end
section
theorem qSQ {a b:Int} (hb:0<b) (ha:-1000000000000000000≤a∧a≤1000000000000000000):qE1 a b=some (a/b)∧qIU a b=some (a/b):=by
 have h1:=Int.mul_tdiv_add_tmod a b
 have h2:=Int.tmod_lt_of_pos a hb
 have h3:-b<a.tmod b:=by have:=Int.lt_tmod_of_pos a hb;omega
 have hq:-1000000000000000000≤a.tdiv b∧a.tdiv b≤1000000000000000000:=by
  have:=Int.natAbs_tdiv_le_natAbs a b;omega
 have key:(if a.tmod b<0 then a.tdiv b-1 else a.tdiv b)=a/b:=by
  split
  ·rename_i h
   exact(((Int.ediv_emod_unique hb).2 ⟨by rw[Int.mul_sub];omega,by omega,by omega⟩:a/b=a.tdiv b-1∧a%b=a.tmod b+b).1).symm
  ·rename_i h
   exact(((Int.ediv_emod_unique hb).2 ⟨by omega,by omega,by omega⟩:a/b=a.tdiv b∧a%b=a.tmod b).1).symm
 unfold qE1 qIU
 rw[show qAr (b != 0)=some () from by rw[show (b != 0)=true from by rw[bne_iff_ne];omega];rfl,oB9,qAD (n:=a.tdiv b) (by omega),qAD (by omega),←key]
 by_cases h:a.tmod b<0
 ·rw[dT h,if_pos h];exact⟨rfl,rfl⟩
 ·rw[dF h,if_neg h];exact⟨rfl,rfl⟩
theorem qLN {a b:Int} (hb:0<b) (hb2:b≤1000000000) (ha:-100000000000000000≤a∧a≤100000000000000000):qDS a b=some (rnd a b)∧qD4 a b=some (rnd a b):=by
 unfold qDS qD4
 rw[qAD (n:=2*a) (by omega),qAD (n:=2*b) (by omega),qAD (n:=2*a+b) (by omega)]
 obtain⟨h1,h2⟩:=qSQ (a:=2*a+b) (b:=2*b) (by omega) (by omega)
 rw[bnd h1,bnd h2]
 exact⟨rfl,rfl⟩
end
section
def qS3 (x:Element):Prop:=(0≤x.family∧x.family≤4)∧(0≤x.level∧x.level≤4)∧(1≤x.base∧x.base≤2000)
def qGR (c:Code):Prop:=(1≤c.elements.length∧c.elements.length≤24)∧c.limits.length=5∧(1≤c.repeats∧c.repeats≤3)∧(0≤c.bonus∧c.bonus≤20)∧(50≤c.keeps∧c.keeps≤100)∧(0≤c.fall∧c.fall≤500)∧∀x∈c.elements,qS3 x
def qRi (c:Code):Prop:=c.elements.length≤1048576∧∀x∈c.elements,x.name.size≤1048576
theorem qWy (s:ByteArray) (hs:s.size≤1048576):∀(m v fl:Nat),v+m=s.size→m<fl→∃b,qAq s fl (v:Int)=some b∧qEr s fl (v:Int)=some b:=by
 intro m
 induction m with
 |zero =>
  intro v fl h hf
  obtain⟨f,rfl⟩:=nZ9 (by omega:fl≠0)
  rw[qAq,qEr,dF (by omega),cF,cF]
  obtain⟨b,e1,e2⟩:=qDb (s.size:Int) 1 5
  obtain⟨b',e3,e4⟩:=qBu (s.size:Int) 1 5
  obtain rfl:b=b':=Bool.eq_iff_iff.2 (e2.trans e4.symm)
  rw[bnd e1,bnd e3]
  exact⟨b,rfl,rfl⟩
 |succ m ih =>
  intro v fl h hf
  obtain⟨f,rfl⟩:=nZ9 (by omega:fl≠0)
  have hv:v<s.size:=by omega
  have hi:qNo s (v:Int)=some s[v]:=by unfold qNo;rw[if_pos (by omega)];simp[hv]
  obtain⟨b,b1,b2⟩:=ih (v+1) f (by omega) (by omega)
  rw[show (((v+1:Nat):Int))=(v:Int)+1 from by omega]at b1 b2
  rw[qAq,qEr,dT (by omega),cW,cW,bnd hi,bnd hi,qAD (by omega),b1,b2]
  cases (decide ((s[v].toNat:Int)<65)||decide ((s[v].toNat:Int)>90))&&(decide ((s[v].toNat:Int)<48)||decide ((s[v].toNat:Int)>57))
  ·exact⟨b,rfl,rfl⟩
  ·exact⟨false,rfl,rfl⟩
theorem qYN (c:Code) (hc:qRi c) (fl:Nat) (hf:1048576<fl) (N:Option Bool) (hN:qB4 c fl [] 0=N):∀(ys pre:List Element),c.elements=pre++ys→∃e:Bool,qDu c fl ys pre.length=some e∧
  qB4 c fl ys pre.length=(if e=true then N else some false)∧(e=true→∀x∈ys,qS3 x):=by
 rw[qB4]at hN
 intro ys
 induction ys with
 |nil=>intro pre h;exact⟨true,by rw[qDu],by rw[if_pos rfl,qB4];exact hN,fun _=>by simp⟩
 |cons y ys ih =>
  intro pre h
  have hy:y∈c.elements:=by rw[h];simp
  have hlen:pre.length+(ys.length+1)≤1048576:=by have:=hc.1;rw[h]at this;simpa using this
  rw[qDu,qB4]
  unfold qH6 qE2
  obtain⟨b,n1,n2⟩:=qWy y.name (hc.2 y hy) y.name.size 0 fl (by omega) (by have:=hc.2 y hy;omega)
  rw[bnd (show qDi fl y.name=some b from n1),show qKF fl y.name=some b from n2]
  simp only[oB9]
  cases b
  ·exact⟨false,by simp[qDY],by simp[qDY],fun h=>by cases h⟩
  simp only[Bool.not_true,Bool.not_false,qCT,Bool.true_and,Bool.false_or]
  obtain⟨b,f1,f2⟩:=qBu y.family 0 4
  obtain⟨b',f3,f4⟩:=qDb y.family 0 4
  obtain rfl:b=b':=Bool.eq_iff_iff.2 (f2.trans f4.symm)
  rw[f1,f3]
  simp only[oB9]
  cases b
  ·exact⟨false,by simp[qDY],by simp[qDY],fun h=>by cases h⟩
  simp only[Bool.not_true,Bool.not_false,qCT,Bool.true_and,Bool.false_or]
  obtain⟨b,g1,g2⟩:=qBu y.level 0 4
  obtain⟨b',g3,g4⟩:=qDb y.level 0 4
  obtain rfl:b=b':=Bool.eq_iff_iff.2 (g2.trans g4.symm)
  rw[g1,g3]
  simp only[oB9]
  cases b
  ·exact⟨false,by simp[qDY],by simp[qDY],fun h=>by cases h⟩
  simp only[Bool.not_true,Bool.not_false,qCT,Bool.true_and,Bool.false_or]
  obtain⟨b,k1,k2⟩:=qBu y.base 1 2000
  obtain⟨b',k3,k4⟩:=qDb y.base 1 2000
  obtain rfl:b=b':=Bool.eq_iff_iff.2 (k2.trans k4.symm)
  rw[k1,k3]
  simp only[oB9]
  cases b
  ·exact⟨false,by simp[qDY],by simp[qDY],fun h=>by cases h⟩
  simp only[Bool.not_true,Bool.not_false,qCT,Bool.true_and,Bool.false_or,cF]
  obtain⟨e,e1,e2,e3⟩:=ih (pre++[y]) (by rw[h];simp)
  rw[show (pre++[y]).length=pre.length+1 from by simp]at e1 e2
  have he:qS3 y:=⟨by have:=f2.1 rfl;omega,by have:=g2.1 rfl;omega,by have:=k2.1 rfl;omega⟩
  have hall:e=true→∀x∈y::ys,qS3 x:=fun h x hx=>by
   rcases List.mem_cons.1 hx with rfl|hx
   ·exact he
   ·exact e3 h x hx
  by_cases h0:(pre.length:Int)>0
  ·rw[dT h0]
   simp only[qCT,Bool.true_and]
   obtain⟨p,z,rfl⟩:∃p z,pre=p++[z]:=by
    have hne:pre≠[]:=by intro e;rw[e]at h0;simp at h0
    exact⟨pre.dropLast,pre.getLast hne,(List.dropLast_concat_getLast hne).symm⟩
   have hg:qAT c.elements (w64 (((p++[z]).length:Int)-1))=some z:=by
    rw[qAD (by omega)]
    exact qDl (pre:=p) (y:=z) (ys:=y::ys) (by rw[h];simp) (by simp)
   rw[bnd hg,bnd hg]
   cases hs:!qMv z.name y.name
   ·exact⟨e,e1,e2,hall⟩
   ·exact⟨false,rfl,rfl,fun h=>by cases h⟩
  ·rw[dF h0]
   simp only[qDY,oB9,Bool.false_and,cF]
   exact⟨e,e1,e2,hall⟩
theorem qMW (c:Code) (hc:qRi c) (fl:Nat) (hf:1048576<fl):∃b,qBG fl c=some b∧qC9 fl c=some b∧(b=true→qGR c):=by
 unfold qBG qC9
 obtain⟨e,e1,e2,e3⟩:=qYN c hc fl hf _ rfl c.elements [] rfl
 rw[show ([]:List Element).length=0 from rfl]at e1 e2
 rw[e2,qB4]
 obtain⟨a,a1,a2⟩:=qBu (c.elements.length:Int) 1 24
 obtain⟨a',a3,a4⟩:=qDb (c.elements.length:Int) 1 24
 obtain rfl:a=a':=Bool.eq_iff_iff.2 (a2.trans a4.symm)
 rw[bnd a1,bnd a3]
 cases a
 ·exact⟨false,by simp[qDY],by cases e<;>simp[qDY],fun h=>by cases h⟩
 by_cases h5:c.limits.length=5
 rotate_left
 ·rw[show ((c.limits.length:Int)==5)=false from by rw[beq_eq_false_iff_ne];omega,show ((c.limits.length:Int) != 5)=true from by rw[bne_iff_ne];omega]
  exact⟨false,by simp[qDY],by cases e<;>simp[qDY],fun h=>by cases h⟩
 rw[show ((c.limits.length:Int)==5)=true from by rw[h5];rfl,show ((c.limits.length:Int) != 5)=false from by rw[h5];rfl]
 obtain⟨b,b1,b2⟩:=qIW 0 9 c.limits 0
 obtain⟨b',b3,b4⟩:=qOL 0 9 c.limits 0
 obtain rfl:b=b':=Bool.eq_iff_iff.2 (b2.trans b4.symm)
 simp only[Bool.not_true,Bool.not_false,qCT,Bool.true_and,Bool.false_or,Bool.or_false]
 rw[bnd (show qCD c.limits 0 9=some b from b1),bnd (show qCl c.limits 0 9=some b from b3)]
 cases b
 ·exact⟨false,by simp[qDY],by cases e<;>simp[qDY],fun h=>by cases h⟩
 simp only[Bool.not_true,Bool.not_false,qCT,Bool.true_and,Bool.false_or,Bool.or_false,cF]
 obtain⟨r,r1,r2⟩:=qBu c.repeats 1 3
 obtain⟨r',r3,r4⟩:=qDb c.repeats 1 3
 obtain rfl:r=r':=Bool.eq_iff_iff.2 (r2.trans r4.symm)
 rw[bnd r1,bnd r3]
 cases r
 ·exact⟨false,by simp[qDY],by cases e<;>simp[qDY],fun h=>by cases h⟩
 simp only[Bool.not_true,Bool.not_false,qCT,Bool.true_and,Bool.false_or,Bool.or_false]
 obtain⟨o,o1,o2⟩:=qBu c.bonus 0 20
 obtain⟨o',o3,o4⟩:=qDb c.bonus 0 20
 obtain rfl:o=o':=Bool.eq_iff_iff.2 (o2.trans o4.symm)
 rw[bnd o1,bnd o3]
 cases o
 ·exact⟨false,by simp[qDY],by cases e<;>simp[qDY],fun h=>by cases h⟩
 simp only[Bool.not_true,Bool.not_false,qCT,Bool.true_and,Bool.false_or,Bool.or_false]
 obtain⟨k,k1,k2⟩:=qBu c.keeps 50 100
 obtain⟨k',k3,k4⟩:=qDb c.keeps 50 100
 obtain rfl:k=k':=Bool.eq_iff_iff.2 (k2.trans k4.symm)
 rw[bnd k1,bnd k3]
 cases k
 ·exact⟨false,by simp[qDY],by cases e<;>simp[qDY],fun h=>by cases h⟩
 simp only[Bool.not_true,Bool.not_false,qCT,Bool.true_and,Bool.false_or,Bool.or_false]
 obtain⟨f,f1,f2⟩:=qBu c.fall 0 500
 obtain⟨f',f3,f4⟩:=qDb c.fall 0 500
 obtain rfl:f=f':=Bool.eq_iff_iff.2 (f2.trans f4.symm)
 rw[bnd f1,bnd f3]
 cases f
 ·exact⟨false,by simp[qDY],by cases e<;>simp[qDY],fun h=>by cases h⟩
 simp only[Bool.not_true,cF]
 refine⟨e,e1,by cases e<;>simp,fun h=>?_⟩
 have:=a2.1 rfl
 exact⟨by omega,h5,r2.1 rfl,o2.1 rfl,k2.1 rfl,f2.1 rfl,e3 h⟩
end
section
def qPD (s:Slips):Prop:=(0≤s.falls∧s.falls≤9)∧(0≤s.seconds∧s.seconds≤60)∧(0≤s.other∧s.other≤500)
theorem qJp (s:Slips):∃b,qEH s=some b∧qHQ s=some b∧(b=true↔qPD s):=by
 unfold qEH qHQ qAM qAZ qPD
 simp only[oB9]
 by_cases h1:0≤s.falls∧s.falls≤9
 ·rw[show (decide (s.falls≥0)&&decide (s.falls≤9))=true from by simp;omega]
  simp only[qCT,oB9,Bool.true_and]
  by_cases h2:0≤s.seconds∧s.seconds≤60
  ·rw[show (decide (s.seconds≥0)&&decide (s.seconds≤60))=true from by simp;omega]
   simp only[qCT,oB9,Bool.true_and]
   exact⟨_,rfl,rfl,by rw[Bool.and_eq_true,decide_eq_true_eq,decide_eq_true_eq];exact⟨fun h=>⟨h1,h2,by omega⟩,fun h=>by omega⟩⟩
  ·rw[show (decide (s.seconds≥0)&&decide (s.seconds≤60))=false from by rw[Bool.and_eq_false_iff,decide_eq_false_iff_not,decide_eq_false_iff_not];omega]
   exact⟨false,rfl,rfl,by simp;omega⟩
 ·rw[show (decide (s.falls≥0)&&decide (s.falls≤9))=false from by rw[Bool.and_eq_false_iff,decide_eq_false_iff_not,decide_eq_false_iff_not];omega]
  exact⟨false,rfl,rfl,by simp;omega⟩
def fnd (name:ByteArray):List Element→Nat→Int
 | [],_=>-1
 |y::ys,k=>if y.name=name then (k:Int) else fnd name ys (k+1)
theorem qXy (name:ByteArray):∀(ys:List Element) (k:Nat),qDy name ys k=some (fnd name ys k)
 | [],k=>by rw[qDy,fnd]
 |y::ys,k=>by
  rw[qDy,fnd]
  by_cases h:y.name=name
  ·rw[dT h,if_pos h];rfl
  ·rw[dF h,if_neg h,cF,qXy name ys (k+1)]
theorem qX0 (name:ByteArray):∀(ys:List Element) (k:Nat),qAj (fun a0=>qDF a0 name) ys k=some (fnd name ys k)
 | [],k=>by rw[qAj,fnd]
 |y::ys,k=>by
  rw[qAj,fnd,show qDF y name=some (decide (y.name=name)) from rfl,oB9]
  by_cases h:y.name=name
  ·rw[dT h,if_pos h];rfl
  ·rw[dF h,if_neg h,cF,qX0 name ys (k+1)]
theorem qGV (c:Code) (name:ByteArray):qCW c name=some (fnd name c.elements 0)∧qF1 c name=some (fnd name c.elements 0):=by
 constructor
 ·unfold qCW qEQ
  rw[qX0];rfl
 ·exact qXy name c.elements 0
theorem qVE (name:ByteArray):∀(ys:List Element) (k:Nat),fnd name ys k=-1∨∃(i:Nat) (x:Element),fnd name ys k=((k+i:Nat):Int)∧ys[i]?=some x
 | [],k=>.inl rfl
 |y::ys,k=>by
  rw[fnd]
  by_cases h:y.name=name
  ·rw[if_pos h];exact .inr ⟨0,y,by simp,rfl⟩
  ·rw[if_neg h]
   rcases qVE name ys (k+1) with e|⟨i,x,e1,e2⟩
   ·exact .inl e
   ·exact .inr ⟨i+1,x,by rw[e1];omega,by simpa using e2⟩
theorem qYV {c:Code} {name:ByteArray} (h:¬fnd name c.elements 0<0):∃x,qAT c.elements (fnd name c.elements 0)=some x∧x∈c.elements:=by
 rcases qVE name c.elements 0 with e|⟨i,x,e1,e2⟩
 ·omega
 ·exact⟨x,by rw[qEu (k:=i) (by omega)];exact e2,List.mem_of_getElem? e2⟩
def qGE (c:Code) (l:List Item):Prop:=∀it∈l,∀s∈it.names,¬fnd s c.elements 0<0
theorem qSL (c:Code):∀(ys:List ByteArray) (k:Nat),∃o,qDK c ys k=some o∧qDG c ys k=some o∧((o=.ok ()∧∀s∈ys,¬fnd s c.elements 0<0)∨(o=.error false∧∃s∈ys,fnd s c.elements 0<0))
 | [],k=>⟨.ok (),by rw[qDK],by rw[qDG],.inl ⟨rfl,by simp⟩⟩
 |y::ys,k=>by
  rw[qDK,qDG,bnd (qGV c y).1,bnd (qGV c y).2]
  by_cases h:fnd y c.elements 0<0
  ·rw[dT h];exact⟨.error false,rfl,rfl,.inr ⟨rfl,y,by simp,h⟩⟩
  ·rw[dF h,cF,cF]
   obtain⟨o,o1,o2,o3⟩:=qSL c ys (k+1)
   refine⟨o,o1,o2,o3.imp (fun q=>⟨q.1,fun s hs=>?_⟩) (fun q=>⟨q.1,?_⟩)⟩
   ·rcases List.mem_cons.1 hs with rfl|hs
    ·exact h
    ·exact q.2 s hs
   ·obtain⟨s,hs,e⟩:=q.2
    exact⟨s,by simp[hs],e⟩
theorem qSK (c:Code):∀(ys:List Item) (k:Nat),∃b,qDX c ys k=some b∧qDT c ys k=some b∧(b=true↔qGE c ys)
 | [],k=>⟨true,by rw[qDX],by rw[qDT],by simp[qGE]⟩
 |y::ys,k=>by
  rw[qDX,qDT]
  obtain⟨o,o1,o2,o3⟩:=qSL c y.names 0
  rw[bnd o1,bnd o2]
  rcases o3 with⟨rfl,h⟩|⟨rfl,s,hs,h⟩
  ·simp only[qK9]
   obtain⟨b,b1,b2,b3⟩:=qSK c ys (k+1)
   refine⟨b,b1,b2,b3.trans ⟨fun q it hi=>?_,fun q it hi=>q it (by simp[hi])⟩⟩
   rcases List.mem_cons.1 hi with rfl|hi
   ·exact h
   ·exact q it hi
  ·simp only[qK9]
   exact⟨false,rfl,rfl,by simp only[Bool.false_eq_true,false_iff];exact fun q=>q y (by simp) s hs h⟩
theorem qNT (c:Code) (l:List Item):∃b,qDv c l=some b∧qFc c l=some b∧(b=true↔qGE c l):=qSK c l 0
end
section
def qYF (J:Nat) (l:List Int):Prop:=l.length=J∧∀x∈l,-5≤x∧x≤5
def qXT (J:Nat) (l:List Int):Prop:=l.length=J∧∀x∈l,(0≤x∧x≤1000)∧x.tmod 25=0
def qG2 (m:Marks):Prop:=m.grades.length≤14∧m.components.length=3∧∃r,qAT m.components 0=some r∧(3≤r.length∧r.length≤9)∧(∀l∈m.grades,qYF r.length l)∧∀l∈m.components,qXT r.length l
theorem n25:qAr (25 != 0)=some ():=rfl
theorem qTo (x:Int):Ret (qC2 x) (¬((0≤x∧x≤1000)∧x.tmod 25=0)):=by
 unfold qC2 qFl
 obtain⟨b,b1,b2⟩:=qBu x 0 1000
 rw[bnd b1]
 cases b
 ·simp only[qDY,oB9,Bool.false_and,Bool.not_false]
  exact .t fun h=>absurd (b2.2 h.1) (by simp)
 ·rw[n25]
  simp only[qCT,oB9,Bool.true_and]
  have h:=b2.1 rfl
  refine .some ?_
  rw[Bool.not_eq_true',beq_eq_false_iff_ne]
  exact⟨fun q r=>q r.2,fun q r=>q ⟨h,r⟩⟩
theorem qYW:∀(l:List Int) (k:Nat),∃i,qA6 (fun a0=>qC2 a0) l k=some i∧(i≥0↔∃x∈l,¬((0≤x∧x≤1000)∧x.tmod 25=0))
 | [],k=>⟨-1,by rw[qA6],by simp⟩
 |y::l,k=>by
  obtain⟨b,b1,b2⟩:=qTo y
  rw[qA6,bnd b1]
  cases b
  ·obtain⟨i,i1,i2⟩:=qYW l (k+1)
   refine⟨i,i1,i2.trans ⟨fun ⟨x,hx,q⟩=>⟨x,by simp[hx],q⟩,fun ⟨x,hx,q⟩=>?_⟩⟩
   rcases List.mem_cons.1 hx with rfl|hx
   ·exact absurd (b2.2 q) (by simp)
   ·exact⟨x,hx,q⟩
  ·exact⟨(k:Int),rfl,⟨fun _=>⟨y,by simp,b2.1 rfl⟩,fun _=>by omega⟩⟩
theorem qP7 (m:Marks) {r:List Int} (hr:qAT m.components 0=some r):∀(ys:List (List Int)) (k:Nat),Ret (qDU m ys k) (∀l∈ys,qXT r.length l)
 | [],k=>by rw[qDU];exact .t (by simp)
 |y::ys,k=>by
  rw[qDU,bnd (show qAx m=some (r.length:Int) from by unfold qAx;rw[bnd hr])]
  by_cases h:y.length=r.length
  ·rw[show ((y.length:Int) != (r.length:Int))=false from by rw[h];simp]
   simp only[Bool.not_false,qCT,Bool.false_or]
   obtain⟨i,i1,i2⟩:=qYW y 0
   rw[bnd (show qC8 y (fun a0=>qC2 a0)=some (decide (i≥0)) from by unfold qC8 qFi;rw[bnd i1])]
   by_cases hi:i≥0
   ·rw[dT hi]
    obtain⟨x,hx,q⟩:=i2.1 hi
    exact .f fun k=>q ((k y (by simp)).2 x hx)
   ·rw[dF hi,cF]
    refine(qP7 m hr ys (k+1)).iff ⟨fun q l hl=>?_,fun q l hl=>q l (by simp[hl])⟩
    rcases List.mem_cons.1 hl with rfl|hl
    ·exact⟨h,fun x hx=>Classical.byContradiction fun c=>hi (i2.2 ⟨x,hx,c⟩)⟩
    ·exact q l hl
  ·rw[show ((y.length:Int) != (r.length:Int))=true from by rw[bne_iff_ne];omega]
   simp only[Bool.not_true,qDY,oB9,Bool.true_or,cW]
   exact .f fun k=>h (k y (by simp)).1
theorem qQD (m:Marks) {r:List Int} (hr:qAT m.components 0=some r):∀(ys:List (List Int)) (k:Nat),Ret (qDI m ys k) ((∀l∈ys,qYF r.length l)∧∀l∈m.components,qXT r.length l)
 | [],k=>by rw[qDI];exact(qP7 m hr m.components 0).iff (by simp)
 |y::ys,k=>by
  rw[qDI,bnd (show qAx m=some (r.length:Int) from by unfold qAx;rw[bnd hr])]
  by_cases h:y.length=r.length
  ·rw[show ((y.length:Int) != (r.length:Int))=false from by rw[h];simp]
   simp only[Bool.not_false,qCT,Bool.false_or]
   obtain⟨b,b1,b2⟩:=qIW (-5) 5 y 0
   rw[bnd (show qCD y (-5) 5=some b from b1)]
   cases b
   ·exact .f fun k=>absurd (b2.2 (k.1 y (by simp)).2) (by simp)
   ·simp only[Bool.not_true,cF]
    refine(qQD m hr ys (k+1)).iff ⟨fun q=>⟨fun l hl=>?_,q.2⟩,fun q=>⟨fun l hl=>q.1 l (by simp[hl]),q.2⟩⟩
    rcases List.mem_cons.1 hl with rfl|hl
    ·exact⟨h,b2.1 rfl⟩
    ·exact q.1 l hl
  ·rw[show ((y.length:Int) != (r.length:Int))=true from by rw[bne_iff_ne];omega]
   simp only[Bool.not_true,qDY,oB9,Bool.true_or,cW]
   exact .f fun k=>h (k.1 y (by simp)).1
theorem qRt (m:Marks):Ret (qDq m) (qG2 m):=by
 unfold qDq
 by_cases h1:m.grades.length≤14∧m.components.length=3
 ·rw[dF (by omega),show ((m.components.length:Int) != 3)=false from by rw[h1.2];rfl]
  obtain⟨r,hr⟩:∃r,qAT m.components 0=some r:=⟨_,qHz (k:=0) (by omega)⟩
  simp only[Bool.or_false,Bool.not_false,qCT]
  rw[bnd hr]
  obtain⟨b,b1,b2⟩:=qBu (r.length:Int) 3 9
  rw[bnd b1]
  cases b
  ·exact .f fun ⟨_,_,r',e,k,_⟩=>by rw[hr]at e;cases e;exact absurd (b2.2 (by omega)) (by simp)
  ·simp only[Bool.not_true,Bool.or_false,cF]
   have:=b2.1 rfl
   exact(qQD m hr m.grades 0).iff ⟨fun q=>⟨h1.1,h1.2,r,hr,by omega,q.1,q.2⟩,fun ⟨_,_,r',e,_,k⟩=>by rw[hr]at e;cases e;exact k⟩
 ·have hg:(decide ((m.grades.length:Int)>14)||((m.components.length:Int) != 3))=true:=by
   rw[Bool.or_eq_true,decide_eq_true_eq,bne_iff_ne];omega
  rw[hg]
  simp only[Bool.not_true,qDY,oB9,Bool.true_or,cW]
  exact .f fun k=>h1 ⟨k.1,k.2.1⟩
theorem qNl (l:List Int) (J:Nat):∀(ys:List Int) (k:Nat),Ret (qBw l (J:Int) false ys k) (qYF J l)
 | [],k=>by
  rw[qBw,cF]
  by_cases h:l.length=J
  ·rw[show ((l.length:Int)==(J:Int))=true from by rw[h];simp]
   simp only[qCT,Bool.true_and]
   obtain⟨b,b1,b2⟩:=qOL (-5) 5 l 0
   rw[bnd (show qCl l (-5) 5=some b from b1)]
   exact .some (b2.trans ⟨fun q=>⟨h,q⟩,fun q=>q.2⟩)
  ·rw[show ((l.length:Int)==(J:Int))=false from by rw[beq_eq_false_iff_ne];omega]
   exact .f fun k=>h k.1
 |y::ys,k=>by
  rw[qBw]
  simp only[qDY,oB9,Bool.false_and,cF]
  exact qNl l J ys (k+1)
theorem qNn (l:List Int) (J:Nat):∀(ys pre:List Int) (k:Nat),l=pre++ys→(∀x∈pre,x.tmod 25=0)→Ret (qBw l (J:Int) true ys k) (qXT J l)
 | [],pre,k,h1,h2=>by
  rw[qBw,cW]
  rw[List.append_nil]at h1
  subst h1
  by_cases h:l.length=J
  ·rw[show ((l.length:Int)==(J:Int))=true from by rw[h];simp]
   simp only[qCT,Bool.true_and]
   obtain⟨b,b1,b2⟩:=qOL 0 1000 l 0
   rw[bnd (show qCl l 0 1000=some b from b1)]
   exact .some (b2.trans ⟨fun q=>⟨h,fun x hx=>⟨q x hx,h2 x hx⟩⟩,fun q x hx=>(q.2 x hx).1⟩)
  ·rw[show ((l.length:Int)==(J:Int))=false from by rw[beq_eq_false_iff_ne];omega]
   exact .f fun k=>h k.1
 |y::ys,pre,k,h1,h2=>by
  rw[qBw,n25]
  simp only[qCT,oB9,Bool.true_and]
  by_cases h:y.tmod 25=0
  ·rw[h,bne_self_eq_false,cF]
   exact qNn l J ys (pre++[y]) (k+1) (by rw[h1];simp) fun x hx=>by
    rcases List.mem_append.1 hx with hx|hx
    ·exact h2 x hx
    ·rw[List.mem_singleton.1 hx];exact h
  ·rw[show (y.tmod 25 != 0)=true from by rw[bne_iff_ne];exact h,cW]
   exact .f fun k=>h (k.2 y (by rw[h1];simp)).2
theorem qNg (r:List Int):∀(ys:List (List Int)) (k:Nat),Ret (qEe r ys k) ((∀l∈ys,qXT r.length l)∧(3≤r.length∧r.length≤9))
 | [],k=>by
  rw[qEe]
  obtain⟨b,b1,b2⟩:=qDb (r.length:Int) 3 9
  rw[bnd b1]
  exact .some (b2.trans ⟨fun q=>⟨by simp,by omega⟩,fun q=>by have:=q.2;omega⟩)
 |y::ys,k=>by
  obtain⟨b,b1,b2⟩:=qNn y r.length y [] 0 rfl (by simp)
  rw[qEe,bnd (show qHO y (r.length:Int) true=some b from b1)]
  cases b
  ·exact .f fun k=>absurd (b2.2 (k.1 y (by simp))) (by simp)
  ·simp only[Bool.not_true,cF]
   refine(qNg r ys (k+1)).iff ⟨fun q=>⟨fun l hl=>?_,q.2⟩,fun q=>⟨fun l hl=>q.1 l (by simp[hl]),q.2⟩⟩
   rcases List.mem_cons.1 hl with rfl|hl
   ·exact b2.1 rfl
   ·exact q.1 l hl
theorem qNi (m:Marks) (r:List Int):∀(ys:List (List Int)) (k:Nat),Ret (qEc m r ys k) ((∀l∈ys,qYF r.length l)∧(∀l∈m.components,qXT r.length l)∧(3≤r.length∧r.length≤9))
 | [],k=>by rw[qEc];exact(qNg r m.components 0).iff (by simp)
 |y::ys,k=>by
  obtain⟨b,b1,b2⟩:=qNl y r.length y 0
  rw[qEc,bnd (show qHO y (r.length:Int) false=some b from b1)]
  cases b
  ·exact .f fun k=>absurd (b2.2 (k.1 y (by simp))) (by simp)
  ·simp only[Bool.not_true,cF]
   refine(qNi m r ys (k+1)).iff ⟨fun q=>⟨fun l hl=>?_,q.2⟩,fun q=>⟨fun l hl=>q.1 l (by simp[hl]),q.2⟩⟩
   rcases List.mem_cons.1 hl with rfl|hl
   ·exact b2.1 rfl
   ·exact q.1 l hl
theorem qT3 (m:Marks):Ret (qFD m) (qG2 m):=by
 unfold qFD
 by_cases h1:m.grades.length≤14∧m.components.length=3
 ·rw[dF (by omega),show ((m.components.length:Int) != 3)=false from by rw[h1.2];rfl]
  obtain⟨r,hr⟩:∃r,qAT m.components 0=some r:=⟨_,qHz (k:=0) (by omega)⟩
  simp only[Bool.or_false,cF]
  rw[bnd hr]
  exact(qNi m r m.grades 0).iff ⟨fun q=>⟨h1.1,h1.2,r,hr,q.2.2,q.1,q.2.1⟩,fun ⟨_,_,r',e,a,b,c⟩=>by rw[hr]at e;cases e;exact⟨b,c,a⟩⟩
 ·have hg:(((m.components.length:Int) != 3)||decide ((m.grades.length:Int)>14))=true:=by
   rw[Bool.or_eq_true,decide_eq_true_eq,bne_iff_ne];omega
  rw[hg,cW]
  exact .f fun k=>h1 ⟨k.1,k.2.1⟩
end
section
def qYR (c:Code) (p:Performance):Prop:=qGR c∧qEE p.items∧qGE c p.items∧qG2 p.marks∧p.marks.grades.length=p.items.length∧qPD p.slips
theorem qHf (m:Marks):∃b,qDq m=some b∧qFD m=some b∧(b=true↔qG2 m):=by
 obtain⟨b,b1,b2⟩:=qRt m
 obtain⟨d,d1,d2⟩:=qT3 m
 obtain rfl:b=d:=Bool.eq_iff_iff.2 (b2.trans d2.symm)
 exact⟨b,b1,d1,b2⟩
end
section
def elN (c:Code) (s:ByteArray):Element:=(qAT c.elements (fnd s c.elements 0)).getD default
def wth (c:Code) (x:Element) (mark:Int):Int:=if mark=1 then (x.base*c.keeps).tdiv 100 else if mark=2 then (x.base*9).tdiv 10 else if mark=3 then 0 else x.base
theorem qZC:qAr (100 != 0)=some ():=rfl
theorem n10:qAr (10 != 0)=some ():=rfl
theorem qOs {c:Code} {s:ByteArray} (h:¬fnd s c.elements 0<0):qAT c.elements (fnd s c.elements 0)=some (elN c s)∧elN c s∈c.elements:=by
 obtain⟨x,h1,h2⟩:=qYV h
 unfold elN
 rw[h1]
 exact⟨rfl,h2⟩
theorem qLo {a b A B:Int} (ha:0≤a∧a≤A) (hb:0≤b∧b≤B):0≤a*b∧a*b≤A*B :=
 ⟨Int.mul_nonneg ha.1 hb.1,Int.mul_le_mul ha.2 hb.2 hb.1 (by omega)⟩
theorem qUT {c:Code} (hc:qGR c) {x:Element} (hx:qS3 x) (mark:Int):0≤wth c x mark∧wth c x mark≤2000:=by
 have hb:=hx.2.2
 have hk:=hc.2.2.2.2.1
 have hm:=qLo (a:=x.base) (b:=c.keeps) (A:=2000) (B:=100) (by omega) (by omega)
 unfold wth
 split
 ·rw[Int.tdiv_eq_ediv_of_nonneg hm.1];omega
 ·split
  ·rw[Int.tdiv_eq_ediv_of_nonneg (by omega)];omega
  ·split<;>omega
theorem qSS {c:Code} (hc:qGR c) {x:Element} (hx:qS3 x) (mark:Int):qGc c x mark=some (wth c x mark):=by
 have hb:=hx.2.2
 have hk:=hc.2.2.2.2.1
 have hm:=qLo (a:=x.base) (b:=c.keeps) (A:=2000) (B:=100) (by omega) (by omega)
 have hd:0≤(x.base*c.keeps).tdiv 100∧(x.base*c.keeps).tdiv 100≤2000:=by rw[Int.tdiv_eq_ediv_of_nonneg hm.1];omega
 have hd2:0≤(x.base*9).tdiv 10∧(x.base*9).tdiv 10≤2000:=by rw[Int.tdiv_eq_ediv_of_nonneg (by omega)];omega
 unfold qGc wth
 rw[qZC,n10,qAD (n:=x.base*c.keeps) (by omega),qAD (n:=x.base*9) (by omega),qAD (n:=(x.base*c.keeps).tdiv 100) (by omega),qAD (n:=(x.base*9).tdiv 10) (by omega)]
 simp only[oB9]
 by_cases h1:mark=1
 ·rw[if_pos h1,show (mark==1)=true from by rw[h1];rfl];rfl
 ·rw[if_neg h1,show (mark==1)=false from by rw[beq_eq_false_iff_ne];exact h1,cF]
  by_cases h2:mark=2
  ·rw[if_pos h2,show (mark==2)=true from by rw[h2];rfl];rfl
  ·rw[if_neg h2,show (mark==2)=false from by rw[beq_eq_false_iff_ne];exact h2,cF]
   by_cases h3:mark=3
   ·rw[if_pos h3,show (mark==3)=true from by rw[h3];rfl];rfl
   ·rw[if_neg h3,show (mark==3)=false from by rw[beq_eq_false_iff_ne];exact h3];rfl
theorem qVF {c:Code} (hc:qGR c) {s:ByteArray} (hs:¬fnd s c.elements 0<0) (mark:Int):qGQ c s mark=some (wth c (elN c s) mark):=by
 obtain⟨e1,e2⟩:=qOs hs
 have:=qSS hc (hc.2.2.2.2.2.2 _ e2) mark
 unfold qGc at this
 unfold qGQ
 rw[bnd (qGV c s).2,dF hs,cF,bnd e1]
 exact this
def wl (c:Code) (it:Item):List Int:=List.zipWith (fun s m=>wth c (elN c s) m) it.names it.marks
theorem qR3 {c:Code} (hc:qGR c) (it:Item):∀(ys:List ByteArray) (ms mp:List Int) (v:List Int),it.marks=mp++ms→ys.length=ms.length→(∀s∈ys,¬fnd s c.elements 0<0)→v.length+ys.length≤1000→
  qD2 c it ys mp.length v=some (v++List.zipWith (fun s m=>wth c (elN c s) m) ys ms)
 | [],[],mp,v,_,_,_,_=>by rw[qD2];simp
 |y::ys,m::ms,mp,v,h1,h2,h3,h4=>by
  obtain⟨e1,e2⟩:=qOs (h3 y (by simp))
  simp only[List.length_cons]at h4
  rw[qD2,bnd (qGV c y).1,bnd e1,bnd (qDl (pre:=mp) (y:=m) (ys:=ms) h1 rfl),bnd (qSS hc (hc.2.2.2.2.2.2 _ e2) m),qGx (by simp;omega),qD1,oB9]
  have:=qR3 hc it ys ms (mp++[m]) (v++[wth c (elN c y) m]) (by rw[h1];simp) (by simpa using h2) (fun s hs=>h3 s (by simp[hs])) (by simp;omega)
  rw[show (mp++[m]).length=mp.length+1 from by simp]at this
  rw[this];simp
theorem qYB {c:Code} (hc:qGR c):∀(ys:List ByteArray) (ms:List Int),(∀s∈ys,¬fnd s c.elements 0<0)→∀x∈List.zipWith (fun s m=>wth c (elN c s) m) ys ms,0≤x∧x≤2000
 | [],_,_,x,hx=>by simp at hx
 |_::_,[],_,x,hx=>by simp at hx
 |y::ys,m::ms,h,x,hx=>by
  rw[List.zipWith_cons_cons]at hx
  rcases List.mem_cons.1 hx with rfl|hx
  ·exact qUT hc (hc.2.2.2.2.2.2 _ (qOs (h y (by simp))).2) m
  ·exact qYB hc ys ms (fun s hs=>h s (by simp[hs])) x hx
theorem qQv {c:Code} (hc:qGR c) {it:Item} (hi:qFn it) (hk:∀s∈it.names,¬fnd s c.elements 0<0):qIZ c it=some (wl c it):=by
 have:=qR3 hc it it.names it.marks [] [] rfl hi.2.symm hk (by simp;have:=hi.1;omega)
 rw[List.nil_append]at this
 exact this
theorem qUK:∀{l:List Int} {B:Int},(∀x∈l,0≤x∧x≤B)→0≤l.sum∧l.sum≤B*(l.length:Int)
 | [],B,_=>by simp
 |x::l,B,h=>by
  have h1:=h x (by simp)
  have h2:=qUK (l:=l) (B:=B) fun y hy=>h y (by simp[hy])
  rw[List.sum_cons,List.length_cons,show ((l.length+1:Nat):Int)=(l.length:Int)+1 from rfl,Int.mul_add,Int.mul_one];omega
theorem qWV:∀(l:List Int) (k:Nat) (v:Int),(∀x∈l,0≤x∧x≤100000)→0≤v→v+100000*(l.length:Int)≤1000000000000→qA8 l k v=some (v+l.sum)
 | [],k,v,_,_,_=>by rw[qA8];simp
 |x::l,k,v,h,hv,hb=>by
  have h1:=h x (by simp)
  simp only[List.length_cons]at hb
  rw[qA8,qAD (by omega),qWV l (k+1) (v+x) (fun y hy=>h y (by simp[hy])) (by omega) (by omega),List.sum_cons]
  congr 1;omega
def qPJ (c:Code) (it:Item):Int:=if it.late=true then rnd ((wl c it).sum*(100+c.bonus)) 100 else (wl c it).sum
theorem qYK {a B:Int} (h:0≤a∧a≤100*B):0≤rnd a 100∧rnd a 100≤B:=by unfold rnd;omega
theorem qSP {c:Code} (hc:qGR c) {it:Item} (hi:qFn it) (hk:∀s∈it.names,¬fnd s c.elements 0<0):(∀x∈wl c it,0≤x∧x≤2000)∧(1≤(wl c it).length∧(wl c it).length≤3)∧0≤(wl c it).sum∧(wl c it).sum≤6000:=by
 have h1:∀x∈wl c it,0≤x∧x≤2000:=qYB hc it.names it.marks hk
 have h2:(wl c it).length=it.names.length:=by unfold wl;rw[List.length_zipWith,hi.2];simp
 have h3:=qUK h1
 have h4:=hi.1
 exact⟨h1,by omega,h3.1,by omega⟩
theorem qWm {c:Code} (hc:qGR c) {it:Item} (hi:qFn it) (hk:∀s∈it.names,¬fnd s c.elements 0<0):0≤qPJ c it∧qPJ c it≤7200:=by
 obtain⟨_,_,h3,h4⟩:=qSP hc hi hk
 have hb:=hc.2.2.2.1
 unfold qPJ
 split
 ·have:=qLo (a:=(wl c it).sum) (b:=100+c.bonus) (A:=6000) (B:=120) ⟨h3,h4⟩ (by omega)
  exact qYK (by omega)
 ·omega
theorem qYM {c:Code} (hc:qGR c) {it:Item} (hi:qFn it) (hk:∀s∈it.names,¬fnd s c.elements 0<0):qHY c it=some (qPJ c it):=by
 obtain⟨h1,h2,h3,h4⟩:=qSP hc hi hk
 have hb:=hc.2.2.2.1
 have hm:=qLo (a:=(wl c it).sum) (b:=100+c.bonus) (A:=6000) (B:=120) ⟨h3,h4⟩ (by omega)
 unfold qHY qPJ
 have hs:qBA (wl c it)=some (wl c it).sum:=by
  have:=qWV (wl c it) 0 0 (fun x hx=>by have:=h1 x hx;omega) (by omega) (by omega)
  rw[Int.zero_add]at this
  exact this
 rw[bnd (qQv hc hi hk),bnd hs,qAD (n:=100+c.bonus) (by omega),qAD (by omega)]
 cases it.late
 ·rfl
 ·rw[cW,bnd (qLN (b:=100) (by omega) (by omega) (by omega)).1,if_pos rfl]
theorem qVG {c:Code} (hc:qGR c) (it:Item) (fu:Int→Option Int) (hfu:∀v:Int,qB2 c it [] 0 v=fu v):∀(ys:List ByteArray) (ms mp:List Int) (v:Int),it.marks=mp++ms→ys.length=ms.length→(∀s∈ys,¬fnd s c.elements 0<0)→0≤v→v+2000*(ys.length:Int)≤1000000→
  qB2 c it ys mp.length v=fu (v+(List.zipWith (fun s m=>wth c (elN c s) m) ys ms).sum)
 | [],[],mp,v,_,_,_,_,_=>by
  have:=hfu v
  rw[qB2]at this
  rw[qB2,this];simp
 |y::ys,m::ms,mp,v,h1,h2,h3,h4,h5=>by
  have hw:=qUT hc (hc.2.2.2.2.2.2 _ (qOs (h3 y (by simp))).2) m
  simp only[List.length_cons]at h5
  rw[qB2,bnd (qDl (pre:=mp) (y:=m) (ys:=ms) h1 rfl),bnd (qVF hc (h3 y (by simp)) m),qAD (by omega)]
  have:=qVG hc it fu hfu ys ms (mp++[m]) (v+wth c (elN c y) m) (by rw[h1];simp) (by simpa using h2) (fun s hs=>h3 s (by simp[hs])) (by omega) (by omega)
  rw[show (mp++[m]).length=mp.length+1 from by simp]at this
  rw[this,List.zipWith_cons_cons,List.sum_cons]
  congr 1;omega
theorem qYP {c:Code} (hc:qGR c) {it:Item} (hi:qFn it) (hk:∀s∈it.names,¬fnd s c.elements 0<0):qIS c it=some (qPJ c it):=by
 obtain⟨h1,h2,h3,h4⟩:=qSP hc hi hk
 have hb:=hc.2.2.2.1
 have hm:=qLo (a:=(wl c it).sum) (b:=100+c.bonus) (A:=6000) (B:=120) ⟨h3,h4⟩ (by omega)
 have hl:=hi.1
 have:=qVG hc it _ (fun _=>rfl) it.names it.marks [] 0 rfl hi.2.symm hk (by omega) (by omega)
 rw[Int.zero_add]at this
 unfold qIS qPJ
 rw[show ([]:List Int).length=0 from rfl]at this
 rw[this,qB2]
 show cond it.late ((qD4 (w64 ((wl c it).sum*(w64 (100+c.bonus)))) 100).bind fun x18=>some x18) (some (wl c it).sum)=_
 rw[qAD (n:=100+c.bonus) (by omega),qAD (by omega)]
 cases it.late
 ·rfl
 ·rw[cW,bnd (qLN (b:=100) (by omega) (by omega) (by omega)).2,if_pos rfl]
end
section
theorem qNd {it:Item} (h:qFn it):∃s m,qAT it.names 0=some s∧qAT it.marks 0=some m:=by
 have h1:=h.1
 have h2:=h.2
 exact⟨_,_,qHz (k:=0) (by omega),qHz (k:=0) (by omega)⟩
theorem qUR {l:List Item} {k:Nat} {x:Item} (hx:qAT l (k:Int)=some x) (hi:qFn x):∀(ys:List Item) (j:Nat) (v:Int),(∀it∈ys,qFn it)→0≤v→v+(ys.length:Int)≤1000→
  ∃r,qAs l (k:Int) ys j v=some r∧qAt l (k:Int) ys j v=some r∧0≤r
 | [],j,v,_,hv,_=>⟨v,by rw[qAs],by rw[qAt],hv⟩
 |y::ys,j,v,h,hv,hb=>by
  obtain⟨s,_,s1,_⟩:=qNd hi
  obtain⟨t,m,t1,m1⟩:=qNd (h y (by simp))
  simp only[List.length_cons]at hb
  rw[qAs,qAt,bnd t1,bnd t1,bnd hx,bnd hx,bnd s1,bnd s1,m1,qAD (by omega)]
  have hr:∃b:Bool,((opt (decide (t=s)) default (some m)).bind fun x34=>cond (decide (t=s)&&(x34 != 3)) (qAs l (k:Int) ys (j+1) (v+1)) (qAs l (k:Int) ys (j+1) v))=cond b (qAs l (k:Int) ys (j+1) (v+1)) (qAs l (k:Int) ys (j+1) v)∧
    ((opt (decide (t=s)) default (some m)).bind fun x34=>cond (decide (t=s)&&(x34 != 3)) (qAt l (k:Int) ys (j+1) (v+1)) (qAt l (k:Int) ys (j+1) v))=cond b (qAt l (k:Int) ys (j+1) (v+1)) (qAt l (k:Int) ys (j+1) v):=by
   cases decide (t=s)
   ·exact⟨false,by simp only[qDY,oB9,Bool.false_and],by simp only[qDY,oB9,Bool.false_and]⟩
   ·exact⟨m != 3,by simp only[qCT,oB9,Bool.true_and],by simp only[qCT,oB9,Bool.true_and]⟩
  obtain⟨b,b1,b2⟩:=hr
  rw[b1,b2]
  cases b
  ·exact qUR hx hi ys (j+1) v (fun it hit=>h it (by simp[hit])) hv (by omega)
  ·exact qUR hx hi ys (j+1) (v+1) (fun it hit=>h it (by simp[hit])) (by omega) (by omega)
theorem qTv {c:Code} (hc:qGR c) {l:List Item} (hl:qEE l) (hk:qGE c l) {k:Nat} {x:Item} (hx:qAT l (k:Int)=some x):∃b,qCg c l (k:Int)=some b∧qEk c l (k:Int)=some b∧0≤b∧b≤7200:=by
 have hx2:l[k]?=some x:=by rw[qEu rfl]at hx;exact hx
 have hmem:x∈l:=List.mem_of_getElem? hx2
 have hlt:=(List.getElem?_eq_some_iff.1 hx2).1
 have hi:=hl.2 x hmem
 obtain⟨r,r1,r2,r3⟩:=qUR hx hi (l.take k) 0 0 (fun it h=>hl.2 it (List.mem_of_mem_take h)) (by omega) (by rw[List.length_take];have:=hl.1;omega)
 have hb:=qWm hc hi (hk x hmem)
 unfold qCg qEk qIG qID
 rw[qTO (l:=l) (k:=k) rfl (by omega),oB9,oB9,bnd r1,bnd hx,bnd hx,bnd (qYM hc hi (hk x hmem)),bnd (qYP hc hi (hk x hmem)),bnd r2,n10,qAD (n:=qPJ c x*7) (by omega)]
 have hd:0≤(qPJ c x*7).tdiv 10∧(qPJ c x*7).tdiv 10≤7200:=by rw[Int.tdiv_eq_ediv_of_nonneg (by omega)];omega
 rw[qAD (n:=(qPJ c x*7).tdiv 10) (by omega)]
 cases decide (r<c.repeats)
 ·rw[cF]
  cases r==c.repeats
  ·exact⟨0,rfl,rfl,by omega,by omega⟩
  ·exact⟨_,rfl,rfl,hd⟩
 ·exact⟨_,rfl,rfl,hb⟩
theorem qUu {c:Code} (hc:qGR c) (it:Item):∀(ys:List ByteArray) (ms mp:List Int) (v:Int),it.marks=mp++ms→ys.length=ms.length→(∀s∈ys,¬fnd s c.elements 0<0)→0≤v→
  qDx c it ys mp.length v=some ((List.zipWith (fun s m=>wth c (elN c s) m) ys ms).foldl max v)
 | [],[],mp,v,_,_,_,_=>by rw[qDx];rfl
 |y::ys,m::ms,mp,v,h1,h2,h3,h4=>by
  have hw:=qUT hc (hc.2.2.2.2.2.2 _ (qOs (h3 y (by simp))).2) m
  rw[qDx,bnd (qDl (pre:=mp) (y:=m) (ys:=ms) h1 rfl),bnd (qVF hc (h3 y (by simp)) m),List.zipWith_cons_cons,List.foldl_cons]
  have hm:qFL v (wth c (elN c y) m)=some (max v (wth c (elN c y) m)):=by
   unfold qFL
   by_cases h:v>wth c (elN c y) m
   ·rw[dT h,cW,Int.max_eq_left (by omega)]
   ·rw[dF h,cF,Int.max_eq_right (by omega)]
  rw[bnd hm]
  have:=qUu hc it ys ms (mp++[m]) (max v (wth c (elN c y) m)) (by rw[h1];simp) (by simpa using h2) (fun s hs=>h3 s (by simp[hs])) (by omega)
  rw[show (mp++[m]).length=mp.length+1 from by simp]at this
  exact this
end
section
def qHy (c:Code) (l:List Item) (k:Nat):Int:=(qCg c l (k:Int)).getD 0
theorem qNf {c:Code} (hc:qGR c) {l:List Item} (hl:qEE l) (hk:qGE c l) {k:Nat} (h:k<l.length):qCg c l (k:Int)=some (qHy c l k)∧qEk c l (k:Int)=some (qHy c l k)∧0≤qHy c l k∧qHy c l k≤7200:=by
 obtain⟨b,b1,b2,b3⟩:=qTv hc hl hk (qHz h)
 have e:qHy c l k=b:=by unfold qHy;rw[b1];rfl
 rw[e]
 exact⟨b1,b2,b3⟩
def qHb (c:Code) (it:Item):Int:=(wl c it).foldl max 0
theorem qYJ (x:List Int) (hx:x.length≤1000):∀(ys pre:List Int) (fl:Nat) (m:Int),x=pre++ys→ys.length<fl→qBH x fl m (pre.length:Int)=some (ys.foldl max m):=by
 intro ys
 induction ys with
 |nil =>
  intro pre fl m h hf
  obtain⟨f,rfl⟩:=nZ9 (by omega:fl≠0)
  rw[qBH,dF (by rw[h];simp)];rfl
 |cons y ys ih =>
  intro pre fl m h hf
  obtain⟨f,rfl⟩:=nZ9 (by omega:fl≠0)
  simp only[List.length_cons]at hf
  have hlen:x.length=pre.length+(ys.length+1):=by rw[h];simp
  rw[qBH,dT (by omega),cW,bnd (qDl h rfl),qAD (by omega)]
  have:=ih (pre++[y]) f (max m y) (by rw[h];simp) (by omega)
  rw[show (pre++[y]).length=pre.length+1 from by simp,Int.natCast_add,Int.natCast_one]at this
  exact this
theorem qNh:∀(l:List Int) (v B:Int),(∀x∈l,0≤x∧x≤B)→0≤v∧v≤B→0≤l.foldl max v∧l.foldl max v≤B
 | [],v,B,_,h=>h
 |x::l,v,B,h,hv=>by
  have:=h x (by simp)
  exact qNh l (max v x) B (fun y hy=>h y (by simp[hy])) (by omega)
theorem qMw {c:Code} (hc:qGR c) {it:Item} (hi:qFn it) (hk:∀s∈it.names,¬fnd s c.elements 0<0) (fl:Nat) (hf:1048576<fl):qHH fl c it=some (qHb c it)∧qIT c it=some (qHb c it)∧0≤qHb c it∧qHb c it≤2000:=by
 obtain⟨h1,h2,_,_⟩:=qSP hc hi hk
 have hb:=qNh (wl c it) 0 2000 h1 (by omega)
 refine⟨?_,?_,hb⟩
 ·unfold qHH qEU qHb
  rw[bnd (qQv hc hi hk)]
  cases hw:wl c it with
  |nil=>rw[hw]at h2;simp at h2
  |cons x xs =>
   rw[dF (by simp;omega),cF,bnd (show qAT (x::xs) 0=some x from rfl)]
   have:=qYJ (x::xs) (by rw[hw]at h2;omega) xs [x] fl x rfl (by rw[hw]at h2;simp at h2;omega)
   rw[bnd (show qBH (x::xs) fl x 1=_ from this),List.foldl_cons,Int.max_eq_right (h1 x (by rw[hw];simp)).1]
 ·have:=qUu hc it it.names it.marks [] 0 rfl hi.2.symm hk (by omega)
  exact this
theorem qVP {J:Nat} {g:List Int} (h:qYF J g) (hJ:3≤J∧J≤9):qJU g:=by
 have:=h.1
 exact⟨by omega,fun x hx=>by have:=h.2 x hx;omega⟩
def qVo (c:Code) (l:List Item) (k:Nat) (it:Item) (g:List Int):Int:=if qHy c l k=0 then 0 else rnd (tS g*qHb c it) (10*nS g)
theorem qRZ {c:Code} (hc:qGR c) {l:List Item} (hl:qEE l) (hk:qGE c l) {k:Nat} {x:Item} (hx:qAT l (k:Int)=some x) {g:List Int} (hg:qJU g) (fl:Nat) (hf:1048576<fl) :
  qGf fl c l (k:Int) g=some (qVo c l k x g)∧qG8 fl c l (k:Int) g=some (qVo c l k x g):=by
 have hx2:l[k]?=some x:=by rw[qEu rfl]at hx;exact hx
 have hmem:x∈l:=List.mem_of_getElem? hx2
 have hlt:=(List.getElem?_eq_some_iff.1 hx2).1
 obtain⟨b1,b2,b3⟩:=qNf hc hl hk hlt
 obtain⟨u1,u2,u3⟩:=qMw hc (hl.2 x hmem) (hk x hmem) fl hf
 obtain⟨t1,t2⟩:=qNC hg fl (by omega)
 have hT:=qUX hg
 have hN:=qTn hg
 have hm:-40000000≤tS g*qHb c x∧tS g*qHb c x≤40000000:=by
  have h1:tS g*qHb c x≤20000*qHb c x:=Int.mul_le_mul_of_nonneg_right hT.2 u3.1
  have h2:-20000*qHb c x≤tS g*qHb c x:=Int.mul_le_mul_of_nonneg_right hT.1 u3.1
  omega
 unfold qGf qG8 qVo
 rw[bnd b1,bnd b2]
 by_cases h0:qHy c l k=0
 ·rw[if_pos h0,show (qHy c l k==0)=true from by rw[h0];rfl];exact⟨rfl,rfl⟩
 ·rw[if_neg h0,show (qHy c l k==0)=false from by rw[beq_eq_false_iff_ne];exact h0,cF,cF,bnd t1,bnd t2,bnd hx,bnd hx,bnd u1,bnd u2]
  dsimp only
  obtain⟨r1,r2⟩:=qLN (a:=tS g*qHb c x) (b:=10*nS g) (by omega) (by omega) (by omega)
  rw[qAD (n:=tS g*qHb c x) (by omega),qAD (n:=10*nS g) (by omega),bnd r1,bnd r2]
  exact⟨rfl,rfl⟩
end
section
def scl (c:Code) (l:List Item):Nat→List Item→List (List Int)→List Int
 |k,x::ys,g::gs=>(qHy c l k+qVo c l k x g)::scl c l (k+1) ys gs
 |_,_,_=>[]
theorem qUc {a b A:Int} (hb:0<b) (hA:0≤A) (h:-A≤a∧a≤A):-A-1≤rnd a b∧rnd a b≤A+1:=by
 have h1:=qUm (a:=0) (a':=a) (b:=b) (d:=A) hb (by
  have:=Int.mul_le_mul_of_nonneg_left (show (1:Int)≤b by omega) hA
  omega)
 have h2:=qUm (a:=a) (a':=0) (b:=b) (d:=A) hb (by
  have:=Int.mul_le_mul_of_nonneg_left (show (1:Int)≤b by omega) hA
  omega)
 have h3:rnd 0 b=0:=by
  unfold rnd
  rw[Int.mul_zero,Int.zero_add]
  exact Int.ediv_eq_zero_of_lt (by omega) (by omega)
 omega
theorem qWR {c:Code} (hc:qGR c) {l:List Item} (hl:qEE l) (hk:qGE c l) (k:Nat) {x:Item} (hx:x∈l) {g:List Int} (hg:qJU g):-50000000≤qVo c l k x g∧qVo c l k x g≤50000000:=by
 obtain⟨_,_,u3⟩:=qMw hc (hl.2 x hx) (hk x hx) 99999999 (by omega)
 have hT:=qUX hg
 have hN:=qTn hg
 unfold qVo
 split
 ·omega
 ·have h1:tS g*qHb c x≤20000*qHb c x:=Int.mul_le_mul_of_nonneg_right hT.2 u3.1
  have h2:-20000*qHb c x≤tS g*qHb c x:=Int.mul_le_mul_of_nonneg_right hT.1 u3.1
  have:=qUc (a:=tS g*qHb c x) (b:=10*nS g) (A:=40000000) (by omega) (by omega) (by omega)
  omega
theorem qSI {c:Code} (hc:qGR c) {l:List Item} (hl:qEE l) (hk:qGE c l) (m:Marks) (fl:Nat) (hf:1048576<fl):∀(ys:List Item) (gs:List (List Int)) (pre:List Item) (gp:List (List Int)) (v:List Int),l=pre++ys→m.grades=gp++gs→gp.length=pre.length→ys.length=gs.length→(∀g∈gs,qJU g)→v.length+ys.length≤1000→
  qBn c l m fl ys pre.length v=some (v++scl c l pre.length ys gs)∧qCq c l m fl ys pre.length v=some (v++scl c l pre.length ys gs)
 | [],[],pre,gp,v,_,_,_,_,_,_=>⟨by rw[qBn];simp[scl],by rw[qCq];simp[scl]⟩
 |y::ys,g::gs,pre,gp,v,h1,h2,h3,h4,h5,h6=>by
  have hgy:=qDl (pre:=pre) (y:=y) (ys:=ys) h1 rfl
  have hgg:qAT m.grades (pre.length:Int)=some g:=qDl (pre:=gp) (y:=g) (ys:=gs) h2 (by rw[h3])
  have hlt:pre.length<l.length:=by rw[h1];simp
  have hy:y∈l:=by rw[h1];simp
  obtain⟨b1,b2,b3⟩:=qNf hc hl hk hlt
  obtain⟨q1,q2⟩:=qRZ hc hl hk hgy (h5 g (by simp)) fl hf
  have hb:=qWR hc hl hk pre.length hy (h5 g (by simp))
  simp only[List.length_cons]at h6
  obtain⟨i1,i2⟩:=qSI hc hl hk m fl hf ys gs (pre++[y]) (gp++[g]) (v++[qHy c l pre.length+qVo c l pre.length y g]) (by rw[h1];simp) (by rw[h2];simp) (by simp[h3]) (by simpa using h4) (fun z hz=>h5 z (by simp[hz])) (by simp;omega)
  rw[show (pre++[y]).length=pre.length+1 from by simp]at i1 i2
  rw[qBn,qCq,scl]
  unfold qH7 qJS qL6
  rw[b1,b2,hgg]
  simp only[oB9]
  rw[q1,q2]
  simp only[oB9]
  rw[qAD (n:=qHy c l pre.length+qVo c l pre.length y g) (by omega),qGx (by simp;omega),qD1,oB9,oB9,i1,i2]
  simp
end
section
theorem qRw:∀{l:List Int} {B:Int},(∀x∈l,-B≤x∧x≤B)→-(B*(l.length:Int))≤l.sum∧l.sum≤B*(l.length:Int)
 | [],B,_=>by simp
 |x::l,B,h=>by
  have hx:=h x (by simp)
  have:=qRw (l:=l) (B:=B) fun y hy=>h y (by simp[hy])
  rw[List.sum_cons,List.length_cons,show ((l.length+1:Nat):Int)=(l.length:Int)+1 from by omega,Int.mul_add,Int.mul_one]
  omega
def MS (m:Marks):Prop:=(∀g∈m.grades,qJU g)∧m.components.length=3∧∀g∈m.components,qJU g
theorem qWl {m:Marks} (h:qG2 m):MS m:=by
 obtain⟨h1,h2,r,h3,h4,h5,h6⟩:=h
 refine⟨fun g hg=>qVP (h5 g hg) h4,h2,fun g hg=>?_⟩
 have:=h6 g hg
 have hl:=this.1
 exact⟨by omega,fun x hx=>by have:=(this.2 x hx).1;omega⟩
theorem qWJ {c:Code} (hc:qGR c) {l:List Item} (hl:qEE l) (hk:qGE c l):∀(ys:List Item) (gs:List (List Int)) (pre:List Item),l=pre++ys→ys.length=gs.length→(∀g∈gs,qJU g)→(scl c l pre.length ys gs).length=ys.length∧∀x∈scl c l pre.length ys gs,-60000000≤x∧x≤60000000
 | [],[],pre,_,_,_=>by simp[scl]
 |y::ys,g::gs,pre,h1,h2,h3=>by
  have hlt:pre.length<l.length:=by rw[h1];simp
  have hy:y∈l:=by rw[h1];simp
  obtain⟨_,_,b3⟩:=qNf hc hl hk hlt
  have hb:=qWR hc hl hk pre.length hy (h3 g (by simp))
  obtain⟨i1,i2⟩:=qWJ hc hl hk ys gs (pre++[y]) (by rw[h1];simp) (by simpa using h2) (fun z hz=>h3 z (by simp[hz]))
  rw[show (pre++[y]).length=pre.length+1 from by simp]at i1 i2
  rw[scl]
  refine⟨by simp[i1],fun x hx=>?_⟩
  rcases List.mem_cons.1 hx with rfl|hx
  ·omega
  ·exact i2 x hx
def qOz (c:Code) (l:List Item) (m:Marks):Int:=(scl c l 0 l m.grades).sum
def qJ9 (g:List Int):Int:=rnd (tS g) (nS g)
theorem qRm {g:List Int} (hg:qJU g):-30000≤qJ9 g∧qJ9 g≤30000:=by
 have hT:=qUX hg
 have hN:=qTn hg
 have:=qUc (a:=tS g) (b:=nS g) (A:=20000) (by omega) (by omega) (by omega)
 unfold qJ9;omega
theorem qXx {g:List Int} (hg:qJU g) (fl:Nat) (hf:1048576<fl):qEo fl g=some (qJ9 g):=by
 obtain⟨t1,t2⟩:=qNC hg fl (by omega)
 have hT:=qUX hg
 have hN:=qTn hg
 unfold qEo
 rw[bnd t1,bnd (qLN (a:=tS g) (b:=nS g) (by omega) (by omega) (by omega)).1]
 rfl
theorem qXm {g:List Int} (hg:qJU g) {m:Marks} {k:Int} (hk:qAT m.components k=some g) (fl:Nat) (hf:1048576<fl):qHl fl m k=some (qJ9 g):=by
 obtain⟨t1,t2⟩:=qNC hg fl (by omega)
 have hT:=qUX hg
 have hN:=qTn hg
 unfold qHl
 rw[bnd hk,bnd t2,bnd (qLN (a:=tS g) (b:=nS g) (by omega) (by omega) (by omega)).2]
 rfl
theorem qUW (fl:Nat) (hf:1048576<fl):∀(ys:List (List Int)) (k:Nat) (v:List Int),(∀g∈ys,qJU g)→v.length+ys.length≤1000→qA7 fl ys k v=some (v++ys.map qJ9)
 | [],k,v,_,_=>by rw[qA7];simp
 |y::ys,k,v,h,hl=>by
  simp only[List.length_cons]at hl
  rw[qA7,bnd (qXx (h y (by simp)) fl hf),qGx (by simp;omega),qD1,oB9,qUW fl hf ys (k+1) (v++[qJ9 y]) (fun g hg=>h g (by simp[hg])) (by simp;omega)]
  simp
theorem qSe (a b:Int):qGP a b=some (min a b):=by
 unfold qGP
 by_cases h:a<b
 ·rw[dT h,cW,Int.min_eq_left (by omega)]
 ·rw[dF h,cF,Int.min_eq_right (by omega)]
theorem qVi (a b:Int):qFL a b=some (max a b):=by
 unfold qFL
 by_cases h:a>b
 ·rw[dT h,cW,Int.max_eq_left (by omega)]
 ·rw[dF h,cF,Int.max_eq_right (by omega)]
theorem qSd (m:Marks) (most:Int) (fl:Nat) (hf:1048576<fl):∀(ys pre:List (List Int)) (v:List Int),m.components=pre++ys→(∀g∈ys,qJU g)→v.length+ys.length≤1000→qCs m most fl ys pre.length v=some (v++ys.map fun g=>min (qJ9 g) most)
 | [],pre,v,_,_,_=>by rw[qCs];simp
 |y::ys,pre,v,h1,h,hl=>by
  simp only[List.length_cons]at hl
  have ih:=qSd m most fl hf ys (pre++[y]) (v++[min (qJ9 y) most]) (by rw[h1];simp) (fun g hg=>h g (by simp[hg])) (by simp;omega)
  rw[show (pre++[y]).length=pre.length+1 from by simp]at ih
  rw[qCs,bnd (qXm (h y (by simp)) (qDl (pre:=pre) (y:=y) (ys:=ys) h1 rfl) fl hf),bnd (qSe _ _),qGx (by simp;omega),qD1,oB9,ih]
  simp
theorem qSM (A:Int) (hA:900≤A∧A≤1000) (f:List Int→Nat→Int→Option Int) (f0:∀k v,f [] k v=some v) (f1:∀y ys k v,f (y::ys) k v=f ys (k+1) (w64 (v+min y A))):∀(ys:List Int) (k:Nat) (v:Int),(∀x∈ys,-30000≤x∧x≤30000)→(-1000000000≤v-30000*(ys.length:Int)∧v+30000*(ys.length:Int)≤1000000000)→f ys k v=some (v+(ys.map fun y=>min y A).sum)
 | [],k,v,_,_=>by rw[f0];simp
 |y::ys,k,v,h,hv=>by
  have hy:=h y (by simp)
  simp only[List.length_cons]at hv
  rw[f1,qAD (by omega),qSM A hA f f0 f1 ys (k+1) (v+min y A) (fun x hx=>h x (by simp[hx])) (by omega),List.map_cons,List.sum_cons,Int.add_assoc]
def qXY (falls:Int):Int:=if falls=0 then 1000 else if falls=1 then 950 else 900
def cpV (m:Marks) (falls:Int):Int:=(m.components.map fun g=>min (qJ9 g) (qXY falls)).sum
theorem qYl {m:Marks} (hm:MS m) (falls:Int):-90000≤cpV m falls∧cpV m falls≤90000:=by
 have hA:900≤qXY falls∧qXY falls≤1000:=by unfold qXY;split;omega;split<;>omega
 have:=qRw (l:=m.components.map fun g=>min (qJ9 g) (qXY falls)) (B:=30000) (fun x hx=>by
  obtain⟨g,hg,rfl⟩:=List.mem_map.1 hx
  have:=qRm (hm.2.2 g hg)
  omega)
 rw[List.length_map,hm.2.1]at this
 unfold cpV;omega
def qPG (m:Marks) (f falls:Int):Int:=rnd (cpV m falls*f) 100
theorem qYO {a f A F:Int} (h:-A≤a∧a≤A) (hA:0≤A) (hf:0≤f∧f≤F):-(A*F)≤a*f∧a*f≤A*F:=by
 have h1:a*f≤A*f:=Int.mul_le_mul_of_nonneg_right h.2 hf.1
 have h2:-A*f≤a*f:=Int.mul_le_mul_of_nonneg_right h.1 hf.1
 have h3:A*f≤A*F:=Int.mul_le_mul_of_nonneg_left hf.2 hA
 rw[Int.neg_mul]at h2
 omega
theorem qRn {m:Marks} (hm:MS m) {f:Int} (h:0≤f∧f≤400) (falls:Int):(-36000000≤cpV m falls*f∧cpV m falls*f≤36000000)∧(-40000000≤qPG m f falls∧qPG m f falls≤40000000):=by
 have h1:=qYO (qYl hm falls) (by omega) h
 have h2:=qUc (a:=cpV m falls*f) (b:=100) (A:=36000000) (by omega) (by omega) (by omega)
 exact⟨by omega,by unfold qPG;omega⟩
def fG (k:Int):Int:=k+max (k-2) 0+max (k-4) 0
def qPg (c:Code) (s:Slips):Int:=c.fall*fG s.falls+(s.seconds+4)/5*100+s.other
theorem qWu {fall falls:Int} (h1:0≤fall∧fall≤500) (h2:falls≤9):∀(n fl:Nat) (k:Int),(falls-k).toNat=n→n<fl→0≤k→k≤falls→qEC fall falls fl (fall*fG k) k=some (fall*fG falls):=by
 intro n
 induction n with
 |zero =>
  intro fl k hn hf h0 hk
  obtain⟨f,rfl⟩:=nZ9 (by omega:fl≠0)
  obtain rfl:k=falls:=by omega
  rw[qEC,dF (by omega),cF]
 |succ n ih =>
  intro fl k hn hf h0 hk
  obtain⟨f,rfl⟩:=nZ9 (by omega:fl≠0)
  rw[qEC,dT (by omega:k<falls),cW,show qAr (2 != 0)=some () from rfl,oB9,qAD (n:=k+1) (by omega)]
  have e:k.tdiv 2=k/2:=Int.tdiv_eq_ediv_of_nonneg h0
  have eG:fG (k+1)=fG k+min 3 (k/2+1):=by unfold fG;omega
  rw[e,qAD (n:=k/2) (by omega),qAD (n:=k/2+1) (by omega),bnd (qSe _ _)]
  have hb1:=qLo (a:=fall) (b:=min 3 (k/2+1)) (A:=500) (B:=3) h1 (by omega)
  have hb2:=qLo (a:=fall) (b:=fG k) (A:=500) (B:=30) h1 (by unfold fG;omega)
  rw[qAD (n:=fall*min 3 (k/2+1)) (by omega),qAD (n:=fall*fG k+fall*min 3 (k/2+1)) (by omega),←Int.mul_add,←eG]
  exact ih f (k+1) (by omega) (by omega) (by omega) (by omega)
end
section
def qDw (c:Code) (p:Performance) (f:Int):Int:=max (qOz c p.items p.marks+qPG p.marks f p.slips.falls-qPg c p.slips) 0
def qQK (c:Code) (p:Performance):Prop:=qGR c∧qEE p.items∧qGE c p.items∧MS p.marks∧p.marks.grades.length=p.items.length∧qPD p.slips
theorem qLX {c:Code} {p:Performance} (h:qYR c p):qQK c p:=⟨h.1,h.2.1,h.2.2.1,qWl h.2.2.2.1,h.2.2.2.2.1,h.2.2.2.2.2⟩
def jud (m:Marks) (j:Int) (g k:Int):Marks:=Marks.mk (m.grades.map fun r=>r.set j.toNat g) (m.components.map fun r=>r.set j.toNat k)
theorem qU5:∀(ys:List (List Int)) (k:Nat) (v:List (List Int)),(∀g∈ys,qJU g)→v.length+ys.length≤1000→qCP ys k v=some (v++ys)
 | [],k,v,_,_=>by rw[qCP];simp
 |y::ys,k,v,h,hl=>by
  have hy:=(h y (by simp)).1
  simp only[List.length_cons]at hl
  rw[qCP]
  unfold qDR
  rw[qGx (n:=y.length) (by omega),qD1,oB9,oB9,qGx (by simp;omega),qD1,oB9,qU5 ys (k+1) (v++[y]) (fun g hg=>h g (by simp[hg])) (by simp;omega)]
  simp
theorem qVB {m:Marks} (hm:MS m) (h:m.grades.length≤14):qCo m=some m:=by
 unfold qCo qGl
 rw[qU5 m.grades 0 [] hm.1 (by simp;omega),oB9,qU5 m.components 0 [] hm.2.2 (by rw[hm.2.1];simp),oB9]
 rfl
theorem qMl {g:List Int} {j:Int} (h:qRS g j):∃x,qAT g j=some x:=by
 obtain⟨pre,x,post,_,_,hx,_⟩:=qVS h
 exact⟨x,hx⟩
theorem ja2 (j mark:Int) (x1:Marks) (v16:List (List Int)):∀(n fl:Nat) (done rest:List (List Int)),rest.length=n→n<fl→x1.components.length=done.length+n→done.length+n≤1000→(∀g∈rest,qRS g j)→qCt j mark x1 v16 fl (done++rest) (done++rest) (done.length:Int)=some (Marks.mk v16 (done++rest.map fun r=>r.set j.toNat mark)):=by
 intro n
 induction n with
 |zero =>
  intro fl done rest hn hf hl _ _
  obtain⟨f,rfl⟩:=nZ9 (by omega:fl≠0)
  obtain rfl:rest=[]:=List.eq_nil_of_length_eq_zero hn
  rw[qCt,dF (by omega),cF]
  rfl
 |succ n ih =>
  intro fl done rest hn hf hl hb hr
  obtain⟨f,rfl⟩:=nZ9 (by omega:fl≠0)
  cases rest with
  |nil=>simp at hn
  |cons y rest =>
   obtain⟨x,hx⟩:=qMl (hr y (by simp))
   rw[qCt,dT (by omega),cW,qMr,oB9,bnd hx,qOM,qAD (by omega)]
   have:=ih f (done++[y.set j.toNat mark]) rest (by simpa using hn) (by omega) (by simp;omega) (by simp;omega) (fun g hg=>hr g (by simp[hg]))
   rw[show ((done++[y.set j.toNat mark]).length:Int)=(done.length:Int)+1 from by simp,List.append_assoc]at this
   rw[show done++y.set j.toNat mark::rest=done++([y.set j.toNat mark]++rest) from rfl,this]
   simp
theorem ja1 (j grade mark:Int) (fuel0:Nat) (x1:Marks):∀(n fl:Nat) (done rest:List (List Int)),rest.length=n→n<fl→x1.grades.length=done.length+n→done.length+n≤1000→(∀g∈rest,qRS g j)→qDg j grade mark fuel0 x1 fl (done++rest) (done++rest) (done.length:Int)=qCt j mark x1 (done++rest.map fun r=>r.set j.toNat grade) fuel0 x1.components x1.components 0:=by
 intro n
 induction n with
 |zero =>
  intro fl done rest hn hf hl _ _
  obtain⟨f,rfl⟩:=nZ9 (by omega:fl≠0)
  obtain rfl:rest=[]:=List.eq_nil_of_length_eq_zero hn
  rw[qDg,dF (by omega),cF]
  rfl
 |succ n ih =>
  intro fl done rest hn hf hl hb hr
  obtain⟨f,rfl⟩:=nZ9 (by omega:fl≠0)
  cases rest with
  |nil=>simp at hn
  |cons y rest =>
   obtain⟨x,hx⟩:=qMl (hr y (by simp))
   rw[qDg,dT (by omega),cW,qMr,oB9,bnd hx,qOM,qAD (by omega)]
   have:=ih f (done++[y.set j.toNat grade]) rest (by simpa using hn) (by omega) (by simp;omega) (by simp;omega) (fun g hg=>hr g (by simp[hg]))
   rw[show ((done++[y.set j.toNat grade]).length:Int)=(done.length:Int)+1 from by simp,List.append_assoc]at this
   rw[show done++y.set j.toNat grade::rest=done++([y.set j.toNat grade]++rest) from rfl,this]
   simp
theorem qWI {m:Marks} (hm:MS m) (h:m.grades.length≤14) {j:Int} (h1:∀g∈m.grades,qRS g j) (h2:∀g∈m.components,qRS g j) (g k:Int) (fl:Nat) (hf:1048576<fl):qFv fl m j g k=some (jud m j g k):=by
 unfold qFv
 rw[bnd (qVB hm h)]
 have e1:=ja1 j g k fl m m.grades.length fl [] m.grades rfl (by omega) (by simp) (by simp;omega) h1
 have h3:=hm.2.1
 have e2:=ja2 j k m (m.grades.map fun r=>r.set j.toNat g) m.components.length fl [] m.components rfl (by omega) (by simp) (by simp;omega) h2
 rw[List.nil_append,List.nil_append]at e1 e2
 exact e1.trans e2
theorem qWD {m:Marks} (hm:MS m) {j:Int} (h1:∀g∈m.grades,qRS g j) (h2:∀g∈m.components,qRS g j) {g k:Int} (hg:-1000≤g∧g≤1000) (hk:-1000≤k∧k≤1000):MS (jud m j g k):=by
 refine⟨fun r hr=>?_,by unfold jud;rw[List.length_map];exact hm.2.1,fun r hr=>?_⟩
 ·obtain⟨q,hq,rfl⟩:=List.mem_map.1 hr
  exact(qSA (h1 q hq) hg).1
 ·obtain⟨q,hq,rfl⟩:=List.mem_map.1 hr
  exact(qSA (h2 q hq) hk).1
def ibs (c:Code) (l:List Item) (N:Int):Nat→List Item→Int
 |_,[]=>0
 |k,y::ys=>(if qHy c l k=0 then 0 else cl (qHb c y) N)+ibs c l N (k+1) ys
end
section
theorem qTD {a b:Int} (hb:0<b) (hb2:b≤1000000000) (ha:0≤a∧a≤100000000000):qES a b 1=some (cl a b)∧(0≤cl a b∧cl a b≤a):=by
 have hbd:0≤cl a b∧cl a b≤a:=by
  unfold cl
  have h1:-a≤(-a)/b:=by
   have:=Int.le_ediv_of_mul_le (a:=-a) (b:=-a) hb (by
    have:=Int.mul_le_mul_of_nonneg_left (show (1:Int)≤b by omega) ha.1
    rw[Int.neg_mul];omega)
   exact this
  have h2:(-a)/b≤0:=by
   have:=Int.ediv_le_ediv hb (show -a≤0 by omega)
   rw[Int.zero_ediv]at this;exact this
  omega
 refine⟨?_,hbd⟩
 unfold qES
 rw[show ((1:Int) == -1)=false from rfl,cF,show ((1:Int)==1)=true from rfl,cW,qAD (by omega),bnd (qSQ (a:=-a) (b:=b) hb (by omega)).1,qAD (by unfold cl at hbd;omega)]
 rfl
theorem qSf {p:Performance} {r:List Int} (h:qAT p.marks.components 0=some r) (hr:3≤r.length∧r.length≤9):qGM p=some (nS r):=by
 unfold qGM qAx nS
 rw[bnd h,oB9]
 by_cases h5:r.length<5
 ·rw[dF (by omega),cF,if_pos h5]
 ·rw[dT (by omega),cW,if_neg h5,qAD (by omega)]
theorem qXg {c:Code} {p:Performance} (h:qQK c p) {r:List Int} (hr:qAT p.marks.components 0=some r) (hrl:3≤r.length∧r.length≤9) (fl:Nat) (hf:1048576<fl) {k:Nat} {y:Item} (hy:qAT p.items (k:Int)=some y) :
  qGo fl c p (k:Int)=some (if qHy c p.items k=0 then 0 else cl (qHb c y) (nS r))∧0≤(if qHy c p.items k=0 then 0 else cl (qHb c y) (nS r))∧(if qHy c p.items k=0 then 0 else cl (qHb c y) (nS r))≤2000:=by
 obtain⟨hc,hl,hk,hm,hn,hs⟩:=h
 have hy2:p.items[k]?=some y:=by rw[qEu rfl]at hy;exact hy
 have hmem:y∈p.items:=List.mem_of_getElem? hy2
 have hlt:=(List.getElem?_eq_some_iff.1 hy2).1
 obtain⟨b1,_,_⟩:=qNf hc hl hk hlt
 obtain⟨u1,_,u3⟩:=qMw hc (hl.2 y hmem) (hk y hmem) fl hf
 have hN:1≤nS r∧nS r≤9:=by unfold nS;split<;>omega
 obtain⟨c1,c2⟩:=qTD (a:=qHb c y) (b:=nS r) (by omega) (by omega) (by omega)
 unfold qGo
 rw[bnd b1]
 by_cases h0:qHy c p.items k=0
 ·rw[if_pos h0,h0]
  exact⟨rfl,by omega,by omega⟩
 ·rw[if_neg h0,show (qHy c p.items k==0)=false from by simp[h0],cF,bnd hy,bnd u1,bnd (qSf hr hrl),bnd c1]
  exact⟨rfl,by omega,by omega⟩
theorem qTy {c:Code} {p:Performance} (h:qQK c p) {r:List Int} (hr:qAT p.marks.components 0=some r) (hrl:3≤r.length∧r.length≤9) {f:Int} (hf0:0≤f∧f≤400) (fl:Nat) (hf:1048576<fl):∀(ys pre:List Item) (v:Int),p.items=pre++ys→0≤v→v+2000*(ys.length:Int)≤1000000→
  qBV c p f fl ys pre.length v=some (v+ibs c p.items (nS r) pre.length ys+cl (f*3*cl 1000 (nS r)) 100,true)∧0≤ibs c p.items (nS r) pre.length ys∧ibs c p.items (nS r) pre.length ys≤2000*(ys.length:Int)
 | [],pre,v,_,hv,hb=>by
  have hN:1≤nS r∧nS r≤9:=by unfold nS;split<;>omega
  obtain⟨c1,c2⟩:=qTD (a:=1000) (b:=nS r) (by omega) (by omega) (by omega)
  have hm:=qLo (a:=f*3) (b:=cl 1000 (nS r)) (A:=1200) (B:=1000) (by omega) (by omega)
  obtain⟨d1,d2⟩:=qTD (a:=f*3*cl 1000 (nS r)) (b:=100) (by omega) (by omega) (by omega)
  simp only[List.length_nil]at hb
  rw[qBV,bnd (qSf hr hrl),bnd c1,qAD (n:=f*3) (by omega),qAD (n:=f*3*cl 1000 (nS r)) (by omega),bnd d1,qAD (by omega)]
  simp[ibs]
 |y::ys,pre,v,h1,hv,hb=>by
  obtain⟨i1,i2,i3⟩:=qXg h hr hrl fl hf (k:=pre.length) (y:=y) (qDl (pre:=pre) (y:=y) (ys:=ys) h1 rfl)
  simp only[List.length_cons]at hb⊢
  obtain⟨j1,j2,j3⟩:=qTy h hr hrl hf0 fl hf ys (pre++[y]) (v+(if qHy c p.items pre.length=0 then 0 else cl (qHb c y) (nS r))) (by rw[h1];simp) (by omega) (by omega)
  rw[show (pre++[y]).length=pre.length+1 from by simp]at j1 j2 j3
  rw[qBV,bnd i1,qAD (by omega),j1,ibs]
  exact⟨by rw[Int.add_assoc v],by omega,by omega⟩
theorem qNe {m:Marks} (h:qG2 m):∃r,qAT m.components 0=some r∧(3≤r.length∧r.length≤9)∧∀j:Int,0≤j→j<(r.length:Int)→(∀g∈m.grades,qRS g j∧nS g=nS r∧∀x∈g,-5≤x∧x≤5)∧∀g∈m.components,qRS g j∧nS g=nS r∧∀x∈g,0≤x∧x≤1000:=by
 have hms:=qWl h
 obtain⟨h1,h2,r,h3,h4,h5,h6⟩:=h
 refine⟨r,h3,h4,fun j j0 j1=>⟨fun g hg=>?_,fun g hg=>?_⟩⟩
 ·have:=h5 g hg
  have e:=this.1
  exact⟨⟨hms.1 g hg,j0,by omega⟩,by unfold nS;rw[e],this.2⟩
 ·have:=h6 g hg
  have e:=this.1
  exact⟨⟨hms.2.2 g hg,j0,by omega⟩,by unfold nS;rw[e],fun x hx=>(this.2 x hx).1⟩
end
section
theorem qUi {l:List Int} {y:Int} (h:l.Pairwise (·≠·)) (hy:y∉l):(l++[y]).Pairwise (·≠·):=by
 rw[List.pairwise_append]
 exact⟨h,List.pairwise_singleton _ _,fun a ha b hb e=>by obtain rfl:=List.mem_singleton.1 hb;exact hy (e▸ha)⟩
end
section
def qNG (a:Int×Int) (y:Int):Int×Int:=if y≥0 then (w64 (a.1+y),w64 (a.2+1)) else a
def qOS (r:Result):Int×Int:=r.scores.foldl qNG (0,0)
theorem qUj:∀(l:List Int) (k:Nat) (a b:Int),qCb l k a b=some (l.foldl qNG (a,b)):=by
 intro l
 induction l with
 |nil=>intro k a b;rw[qCb];rfl
 |cons y l ih =>
  intro k a b
  rw[qCb,List.foldl_cons]
  by_cases h:y≥0
  ·rw[dT h,cW,ih,show qNG (a,b) y=(w64 (a+y),w64 (b+1)) from if_pos h]
  ·rw[dF h,cF,ih,show qNG (a,b) y=(a,b) from if_neg h]
theorem qP9 (r:Result):qHs r=some (qOS r):=qUj r.scores 0 0 0
theorem qUq:∀(l:List Int) (k:Nat) (a b:Int),qCa l k a b=some (l.foldl qNG (a,b)):=by
 intro l
 induction l with
 |nil=>intro k a b;rw[qCa];rfl
 |cons y l ih =>
  intro k a b
  rw[qCa,List.foldl_cons]
  by_cases h:y≥0
  ·rw[dT h,cW,ih,show qNG (a,b) y=(w64 (a+y),w64 (b+1)) from if_pos h]
  ·rw[dF h,cF,ih,show qNG (a,b) y=(a,b) from if_neg h]
theorem qP3 (r:Result):qHv r=some (qOS r):=qUq r.scores 0 0 0
def qSr (a b:Int):Prop:=a<0→b<0
def qRB (r:Result):Prop:=(1≤r.skater∧r.skater≤999)∧(1≤r.scores.length∧r.scores.length≤3)∧(∀n∈r.scores,-1≤n∧n≤100000)∧r.scores.Pairwise qSr
theorem qPq (r:Result):∀(ys pre:List Int) (v:Bool),r.scores=pre++ys→(∀n∈pre,-1≤n∧n≤100000)→pre.Pairwise qSr→(v=true↔∃l,pre.getLast?=some l∧l<0)→Ret (qCn r ys pre.length v) (qRB r):=by
 intro ys
 induction ys with
 |nil =>
  intro pre v h1 h2 h3 h4
  rw[List.append_nil]at h1
  rw[qCn]
  refine(qDb r.skater 1 999).bindR (fun h=>?_) (fun h=>.f fun k=>h k.1)
  simp only[qCT,Bool.true_and]
  refine(qDb (r.scores.length:Int) 1 3).bindR (fun g=>.t ⟨h,by omega,by rw[h1];exact h2,by rw[h1];exact h3⟩) (fun g=>.f fun k=>g ?_)
  have:=k.2.1;omega
 |cons y ys ih =>
  intro pre v h1 h2 h3 h4
  have hy:y∈r.scores:=by rw[h1];simp
  rw[qCn]
  refine(qDb y (-1) 100000).bindR (fun h=>?_) (fun h=>.f fun k=>h (k.2.2.1 y hy))
  simp only[Bool.not_true,Bool.false_or]
  refine .condR (fun g=>.f fun k=>?_) (fun g=>?_)
  ·simp only[Bool.and_eq_true,decide_eq_true_eq]at g
   obtain⟨l,l1,l2⟩:=h4.1 g.1
   have:=k.2.2.2
   rw[h1,List.pairwise_append]at this
   have:=this.2.2 l (List.mem_of_getLast? l1) y (by simp) l2
   omega
  ·simp only[Bool.and_eq_false_iff,decide_eq_false_iff_not]at g
   have:=ih (pre++[y]) (decide (y<0)) (by rw[h1];simp) (by
    intro n hn;rcases List.mem_append.1 hn with hn|hn
    ·exact h2 n hn
    ·obtain rfl:=List.mem_singleton.1 hn;exact h) (qTe (R:=qSr) (fun a b c p q k=>q (p k)) h3 fun l hl hn=>by
     rcases g with g|g
     ·exact absurd (h4.2 ⟨l,hl,hn⟩) (by simp[g])
     ·omega) (by simp)
   simpa using this
theorem qQx (r:Result):Ret (qIv r) (qRB r):=qPq r r.scores [] false rfl (by simp) List.Pairwise.nil (by simp)
theorem qPN (r:Result) (hl:r.scores.length≤1048576):∀(ys pre:List Int),r.scores=pre++ys→(∀n∈pre,-1≤n∧n≤100000)→pre.Pairwise qSr→Ret (qCC r ys pre.length) (qRB r):=by
 intro ys
 induction ys with
 |nil =>
  intro pre h1 h2 h3
  rw[List.append_nil]at h1
  rw[qCC]
  refine(qQz r.skater).bindR (fun h=>?_) (fun h=>.f fun k=>h k.1)
  simp only[qCT,Bool.true_and]
  refine(qBu (r.scores.length:Int) 1 3).bindR (fun g=>.t ⟨h,by omega,by rw[h1];exact h2,by rw[h1];exact h3⟩) (fun g=>.f fun k=>g ?_)
  have:=k.2.1;omega
 |cons y ys ih =>
  intro pre h1 h2 h3
  have hy:y∈r.scores:=by rw[h1];simp
  rw[qCC]
  refine(qBu y (-1) 100000).bindR (fun h=>?_) (fun h=>.f fun k=>h (k.2.2.1 y hy))
  simp only[Bool.not_true,Bool.not_false,Bool.true_and,Bool.false_or]
  have fin:(∀l,pre.getLast?=some l→qSr l y)→Ret (qCC r ys (pre.length+1)) (qRB r):=by
   intro hlast
   have:=ih (pre++[y]) (by rw[h1];simp) (by
    intro n hn;rcases List.mem_append.1 hn with hn|hn
    ·exact h2 n hn
    ·obtain rfl:=List.mem_singleton.1 hn;exact h) (qTe (R:=qSr) (fun a b c p q k=>q (p k)) h3 hlast)
   simpa using this
  rcases List.eq_nil_or_concat pre with rfl|⟨q,z,rfl⟩
  ·simp only[List.length_nil,qX3,qDY,oB9,Bool.false_and,cF]
   exact fin (by simp)
  ·simp only[List.concat_eq_append]at *
   have hkl:(q++[z]).length=q.length+1:=by simp
   have hq:q.length≤1048576:=by rw[h1]at hl;simp at hl;omega
   rw[hkl]at fin⊢
   simp only[qYo,qCT,Bool.true_and]
   rw[qVU (by omega),bnd (qDl (pre:=q) (y:=z) (ys:=y::ys) (by rw[h1];simp) rfl)]
   refine .condR (fun g=>.f fun k=>?_) (fun g=>fin ?_)
   ·simp only[Bool.and_eq_true,decide_eq_true_eq]at g
    have:=k.2.2.2
    rw[h1]at this
    have:=(List.pairwise_append.1 this).2.2 z (by simp) y (by simp) g.1
    omega
   ·simp only[Bool.and_eq_false_iff,decide_eq_false_iff_not]at g
    intro l hl' hn
    simp at hl';subst hl'
    omega
theorem qQ8 (r:Result) (hl:r.scores.length≤1048576):Ret (qIs r) (qRB r):=qPN r hl r.scores [] rfl (by simp) List.Pairwise.nil
def qPj (l:List Result):Prop:=(∀r∈l,qRB r)∧(l.map fun r=>r.skater).Pairwise (·≠·)∧(∀r∈l,r.scores.length=(l.headD default).scores.length)∧l.length≤40
theorem qQ5 (l:List Result) (hl:l.length≤1048576):∀(ys pre:List Result),l=pre++ys→(∀r∈pre,qRB r)→(pre.map fun r=>r.skater).Pairwise (·≠·)→(∀r∈pre,r.scores.length=(l.headD default).scores.length)→
  Ret (qDr l ys pre.length (pre.map fun r=>r.skater)) (qPj l):=by
 intro ys
 induction ys with
 |nil =>
  intro pre h1 h2 h3 h4
  rw[List.append_nil]at h1
  subst h1
  rw[qDr]
  refine .some ?_
  unfold qPj
  rw[decide_eq_true_eq]
  exact⟨fun h=>⟨h2,h3,h4,by omega⟩,fun h=>by have:=h.2.2.2;omega⟩
 |cons y ys ih =>
  intro pre h1 h2 h3 h4
  have hy:y∈l:=by rw[h1];simp
  have hpre:pre.length≤1048575:=by rw[h1]at hl;simp at hl;omega
  rw[qDr]
  refine(qQx y).bindR (fun h=>?_) (fun h=>.f fun k=>h (k.1 y hy))
  simp only[Bool.not_true,Bool.not_false,qCT,Bool.false_or]
  have hh:=qUE (pre.map fun r:Result=>r.skater) y.skater
  refine hh.bindR (fun hin=>.f fun k=>?_) (fun hin=>?_)
  ·have:=k.2.1
   rw[h1,List.map_append,List.pairwise_append]at this
   exact this.2.2 y.skater hin y.skater (by simp) rfl
  ·simp only[Bool.not_false,qCT,Bool.false_or]
   obtain⟨z,zs,hz⟩:∃z zs,l=z::zs:=by cases l with|nil=>simp at hy|cons z zs=>exact⟨z,zs,rfl⟩
   rw[bnd (show qAT l 0=some (l.headD default) from by rw[hz];rfl)]
   refine .condR (fun g=>.f fun k=>?_) (fun g=>?_)
   ·have:=k.2.2.1 y hy
    rw[this]at g
    simp at g
   ·have g':y.scores.length=(l.headD default).scores.length:=by
     simp only[bne_eq_false_iff_eq]at g;omega
    rw[qGx (by simp;omega)]
    simp only[qD1,oB9]
    have:=ih (pre++[y]) (by rw[h1];simp) (by
     intro n hn;rcases List.mem_append.1 hn with hn|hn
     ·exact h2 n hn
     ·obtain rfl:=List.mem_singleton.1 hn;exact h) (by rw[List.map_append];exact qUi h3 hin) (by
     intro n hn;rcases List.mem_append.1 hn with hn|hn
     ·exact h4 n hn
     ·obtain rfl:=List.mem_singleton.1 hn;exact g')
    simpa using this
theorem qS5 (l:List Result) (hl:l.length≤1048576):Ret (qIV l) (qPj l):=qQ5 l hl l [] rfl (by simp) List.Pairwise.nil (by simp)
theorem qQH (y:Result):∀(l:List Result) (k:Nat),qBX y l k=some (.ok ())∧(y.skater∉l.map fun r=>r.skater)∨qBX y l k=some (.error false)∧(y.skater∈l.map fun r=>r.skater):=by
 intro l
 induction l with
 |nil=>intro k;left;rw[qBX];simp
 |cons z l ih =>
  intro k
  rw[qBX]
  by_cases h:z.skater=y.skater
  ·right
   rw[show (z.skater==y.skater)=true from by simpa using h,cW]
   exact⟨rfl,by simp[h]⟩
  ·rw[show (z.skater==y.skater)=false from by simpa using h,cF]
   have h':¬y.skater=z.skater:=fun e=>h e.symm
   rcases ih (k+1) with⟨h1,h2⟩|⟨h1,h2⟩
   ·left;exact⟨h1,by rw[List.map_cons,List.mem_cons];exact fun k=>k.elim h' h2⟩
   ·right;exact⟨h1,by rw[List.map_cons,List.mem_cons];exact .inr h2⟩
theorem qN4 (l:List Result) (hl:l.length≤1048576) (hs:∀r∈l,r.scores.length≤1048576):∀(ys pre:List Result),l=pre++ys→(∀r∈pre,qRB r)→(pre.map fun r=>r.skater).Pairwise (·≠·)→(∀r∈pre,r.scores.length=(l.headD default).scores.length)→
  Ret (qBk l ys pre.length) (qPj l):=by
 intro ys
 induction ys with
 |nil =>
  intro pre h1 h2 h3 h4
  rw[List.append_nil]at h1
  subst h1
  rw[qBk]
  refine .some ?_
  unfold qPj
  rw[decide_eq_true_eq]
  exact⟨fun h=>⟨h2,h3,h4,by omega⟩,fun h=>by have:=h.2.2.2;omega⟩
 |cons y ys ih =>
  intro pre h1 h2 h3 h4
  have hy:y∈l:=by rw[h1];simp
  rw[qBk]
  obtain⟨b,e1,e2⟩:=qQ8 y (hs y hy)
  rw[bnd e1]
  cases b
  ·exact .f fun k=>by have:=e2.2 (k.1 y hy);simp at this
  simp only[Bool.not_true,Bool.not_false,qCT,Bool.false_or]
  obtain⟨z,zs,hz⟩:∃z zs,l=z::zs:=by cases l with|nil=>simp at hy|cons z zs=>exact⟨z,zs,rfl⟩
  rw[bnd (show qAT l 0=some (l.headD default) from by rw[hz];rfl)]
  by_cases g':y.scores.length=(l.headD default).scores.length
  ·rw[show ((y.scores.length:Int) != ((l.headD default).scores.length:Int))=false from by rw[g'];simp,cF]
   rw[bnd (show qFj l (pre.length:Int)=some pre from by rw[h1];exact qL9 pre (y::ys) rfl)]
   rcases qQH y pre 0 with⟨g1,g2⟩|⟨g1,g2⟩
   ·rw[bnd g1]
    simp only[qK9]
    have:=ih (pre++[y]) (by rw[h1];simp) (by
     intro n hn;rcases List.mem_append.1 hn with hn|hn
     ·exact h2 n hn
     ·obtain rfl:=List.mem_singleton.1 hn;exact e2.1 rfl) (by rw[List.map_append];exact qUi h3 g2) (by
     intro n hn;rcases List.mem_append.1 hn with hn|hn
     ·exact h4 n hn
     ·obtain rfl:=List.mem_singleton.1 hn;exact g')
    simpa using this
   ·rw[bnd g1]
    refine .f fun k=>?_
    have:=k.2.1
    rw[h1,List.map_append,List.pairwise_append]at this
    exact this.2.2 y.skater g2 y.skater (by simp) rfl
  ·rw[show ((y.scores.length:Int) != ((l.headD default).scores.length:Int))=true from by simp only[bne_iff_ne,ne_eq];omega,cW]
   exact .f fun k=>g' (k.2.2.1 y hy)
theorem qL2 (l:List Result) (hl:l.length≤1048576) (hs:∀r∈l,r.scores.length≤1048576):Ret (qF9 l) (qPj l):=qN4 l hl hs l [] rfl (by simp) List.Pairwise.nil (by simp)
end
section
def sg (d:Int):Int:=if d>0 then 1 else if d<0 then -1 else 0
theorem qQ7 (d:Int):qEd d=some (sg d):=by
 unfold qEd sg
 by_cases h:d>0
 ·rw[dT h,if_pos h];rfl
 ·rw[dF h,if_neg h]
  by_cases k:d<0
  ·rw[dT k,if_pos k];rfl
  ·rw[dF k,if_neg k];rfl
theorem qRA (d:Int):qEW d=some (sg d):=by
 unfold qEW sg
 by_cases h:d>0
 ·rw[dT h,if_pos h];rfl
 ·rw[dF h,if_neg h]
  by_cases k:d<0
  ·rw[dT k,if_pos k];rfl
  ·rw[dF k,if_neg k];rfl
theorem qIP {a b:Int} (h1:a>0↔b>0) (h2:a<0↔b<0):sg a=sg b:=by
 unfold sg
 by_cases h:a>0
 ·rw[if_pos h,if_pos (h1.1 h)]
 ·rw[if_neg h,if_neg fun k=>h (h1.2 k)]
  by_cases k:a<0
  ·rw[if_pos k,if_pos (h2.1 k)]
  ·rw[if_neg k,if_neg fun q=>k (h2.2 q)]
def pk:List Int→Int
 | []=>0
 |x::l=>(x+1)+1000000*pk l
def qXU (l:List Int):Prop:=∀n∈l,-1≤n∧n≤100000
theorem qZA (F:Nat→Int→Option Int) (S:Int→Option Int) (sa sb:List Int) (hF:∀k v,F (k+1) v=cond (decide (v≥0)) ((qAT sa v).bind fun x=>(qAT sb v).bind fun y=>cond (x != y) ((S (w64 (x-y))).bind fun z=>some z) (F k (w64 (v-1)))) (some 0))
  (hS:∀d,S d=some (sg d)) (hl:sa.length=sb.length) (h3:sa.length≤3) (ha:qXU sa) (hb:qXU sb) (fl:Nat) (hf:5<fl):F fl (w64 ((sa.length:Int)-1))=some (sg (pk sa-pk sb)):=by
 have step:∀(k:Nat) (i:Nat) (x y:Int),qAT sa (i:Int)=some x→qAT sb (i:Int)=some y→(-1≤x∧x≤100000)→(-1≤y∧y≤100000)→i≤3→
   F (k+1) (i:Int)=if x=y then F k ((i:Int)-1) else some (sg (x-y)):=by
  intro k i x y h1 h2 h3 h4 h5
  rw[hF,dT (by omega),cW,bnd h1,bnd h2,qAD (by omega),qAD (by omega)]
  by_cases h:x=y
  ·rw[if_pos h,show (x != y)=false from by simp[h],cF]
  ·rw[if_neg h,show (x != y)=true from by simp[h],cW,hS];rfl
 have last:∀k,F (k+1) (-1)=some 0:=fun k=>by rw[hF];rfl
 obtain⟨f,rfl⟩:∃f,fl=f+5:=⟨fl-5,by omega⟩
 match sa,sb,hl,h3,ha,hb,step with
 | [],[],_,_,_,_,_ =>
  rw[show w64 ((([]:List Int).length:Int)-1)=-1 from by rw[qAD (by simp)];simp,last];rfl
 | [a],[b],_,_,ha,hb,step =>
  have a1:=ha a (by simp)
  have b1:=hb b (by simp)
  rw[show w64 ((([a]:List Int).length:Int)-1)=((0:Nat):Int) from by rw[qAD (by simp)];simp,step (f+4) 0 a b rfl rfl a1 b1 (by omega)]
  by_cases h:a=b
  ·rw[if_pos h,show ((0:Nat):Int)-1=-1 from rfl,last (f+3),h];simp[sg]
  ·rw[if_neg h];congr 1;refine qIP ?_ ?_<;>simp only[pk]<;>omega
 | [a,a'],[b,b'],_,_,ha,hb,step =>
  have a1:=ha a (by simp)
  have b1:=hb b (by simp)
  have a2:=ha a' (by simp)
  have b2:=hb b' (by simp)
  rw[show w64 ((([a,a']:List Int).length:Int)-1)=((1:Nat):Int) from by rw[qAD (by simp)];simp,step (f+4) 1 a' b' rfl rfl a2 b2 (by omega)]
  by_cases h':a'=b'
  ·rw[if_pos h',show ((1:Nat):Int)-1=((0:Nat):Int) from rfl,step (f+3) 0 a b rfl rfl a1 b1 (by omega)]
   by_cases h:a=b
   ·rw[if_pos h,show ((0:Nat):Int)-1=-1 from rfl,last (f+2),h,h'];simp[sg]
   ·rw[if_neg h];congr 1;refine qIP ?_ ?_<;>simp only[pk]<;>omega
  ·rw[if_neg h'];congr 1;refine qIP ?_ ?_<;>simp only[pk]<;>omega
 | [a,a',a''],[b,b',b''],_,_,ha,hb,step =>
  have a1:=ha a (by simp)
  have b1:=hb b (by simp)
  have a2:=ha a' (by simp)
  have b2:=hb b' (by simp)
  have a3:=ha a'' (by simp)
  have b3:=hb b'' (by simp)
  rw[show w64 ((([a,a',a'']:List Int).length:Int)-1)=((2:Nat):Int) from by rw[qAD (by simp)];simp,step (f+4) 2 a'' b'' rfl rfl a3 b3 (by omega)]
  by_cases h'':a''=b''
  ·rw[if_pos h'',show ((2:Nat):Int)-1=((1:Nat):Int) from rfl,step (f+3) 1 a' b' rfl rfl a2 b2 (by omega)]
   by_cases h':a'=b'
   ·rw[if_pos h',show ((1:Nat):Int)-1=((0:Nat):Int) from rfl,step (f+2) 0 a b rfl rfl a1 b1 (by omega)]
    by_cases h:a=b
    ·rw[if_pos h,show ((0:Nat):Int)-1=-1 from rfl,last (f+1),h,h',h''];simp[sg]
    ·rw[if_neg h];congr 1;refine qIP ?_ ?_<;>simp only[pk]<;>omega
   ·rw[if_neg h'];congr 1;refine qIP ?_ ?_<;>simp only[pk]<;>omega
  ·rw[if_neg h''];congr 1;refine qIP ?_ ?_<;>simp only[pk]<;>omega
 | [],_::_,hl,_,_,_,_=>simp at hl
 |_::_,[],hl,_,_,_,_=>simp at hl
 | [_],_::_::_,hl,_,_,_,_=>simp at hl
 |_::_::_,[_],hl,_,_,_,_=>simp at hl
 | [_,_],_::_::_::_,hl,_,_,_,_=>simp at hl
 |_::_::_::_,[_,_],hl,_,_,_,_=>simp at hl
 | [_,_,_],_::_::_::_::_,hl,_,_,_,_=>simp at hl
 |_::_::_::_::_,_,_,h3,_,_,_=>simp at h3
theorem qYS:∀(l:List Int),l.length≤3→qXU l→0≤pk l∧pk l<1000000000000000000
 | [],_,_=>by simp[pk]
 | [a],_,h=>by have:=h a (by simp);simp only[pk];omega
 | [a,b],_,h=>by have:=h a (by simp);have:=h b (by simp);simp only[pk];omega
 | [a,b,c],_,h=>by have:=h a (by simp);have:=h b (by simp);have:=h c (by simp);simp only[pk];omega
 |_::_::_::_::_,h,_=>by simp at h
theorem qWC:∀(l:List Int) (a b:Int) (A B:Int),qXU l→0≤a→a≤A→0≤b→b≤B→A+100000*(l.length:Int)≤1000000→B+(l.length:Int)≤1000→
  0≤(l.foldl qNG (a,b)).1∧(l.foldl qNG (a,b)).1≤A+100000*(l.length:Int)∧0≤(l.foldl qNG (a,b)).2∧(l.foldl qNG (a,b)).2≤B+(l.length:Int):=by
 intro l
 induction l with
 |nil=>intro a b A B _ h1 h2 h3 h4 _ _;simp;omega
 |cons y l ih =>
  intro a b A B hs h1 h2 h3 h4 h5 h6
  have hy:=hs y (by simp)
  have hs':qXU l:=fun n hn=>hs n (by simp[hn])
  simp only[List.length_cons]at h5 h6⊢
  rw[List.foldl_cons]
  by_cases h:y≥0
  ·rw[show qNG (a,b) y=(w64 (a+y),w64 (b+1)) from if_pos h,qAD (by omega),qAD (by omega)]
   have:=ih (a+y) (b+1) (A+100000) (B+1) hs' (by omega) (by omega) (by omega) (by omega) (by omega) (by omega)
   omega
  ·rw[show qNG (a,b) y=(a,b) from if_neg h]
   have:=ih a b A B hs' h1 h2 h3 h4 (by omega) (by omega)
   omega
def qSx (r:Result):Int:=(qOS r).2*1000000000000000000000000000000+(qOS r).1*100000000000000000000+pk r.scores
def okR (r:Result):Prop:=r.scores.length≤3∧qXU r.scores
theorem qTb {a b:Result} (ha:okR a) (hb:okR b) (hl:a.scores.length=b.scores.length) (o:Option Int) (ho:o=some (sg (pk a.scores-pk b.scores))) (S:Int→Option Int) (hS:∀d,S d=some (sg d)) :
  (cond ((qOS a).2 != (qOS b).2) ((S (w64 ((qOS a).2-(qOS b).2))).bind fun x5=>some x5) (cond ((qOS a).1 != (qOS b).1) ((S (w64 ((qOS a).1-(qOS b).1))).bind fun x7=>some x7) o))=some (sg (qSx a-qSx b)):=by
 have t1:=qWC a.scores 0 0 0 0 ha.2 (by omega) (by omega) (by omega) (by omega) (by have:=ha.1;omega) (by have:=ha.1;omega)
 have t2:=qWC b.scores 0 0 0 0 hb.2 (by omega) (by omega) (by omega) (by omega) (by have:=hb.1;omega) (by have:=hb.1;omega)
 have p1:=qYS a.scores ha.1 ha.2
 have p2:=qYS b.scores hb.1 hb.2
 have l1:=ha.1
 have l2:=hb.1
 change 0≤(qOS a).1∧(qOS a).1≤_∧0≤(qOS a).2∧(qOS a).2≤_ at t1
 change 0≤(qOS b).1∧(qOS b).1≤_∧0≤(qOS b).2∧(qOS b).2≤_ at t2
 unfold qSx
 generalize (qOS a).1=x1 at *
 generalize (qOS a).2=x2 at *
 generalize (qOS b).1=y1 at *
 generalize (qOS b).2=y2 at *
 generalize pk a.scores=z1 at *
 generalize pk b.scores=z2 at *
 by_cases h:x2=y2
 ·rw[show (x2 != y2)=false from by simp[h],cF]
  by_cases k:x1=y1
  ·rw[show (x1 != y1)=false from by simp[k],cF,ho]
   congr 1
   refine qIP ?_ ?_<;>omega
  ·rw[show (x1 != y1)=true from by simp[k],cW,hS,oB9,qAD (by omega)]
   congr 1
   refine qIP ?_ ?_<;>omega
 ·rw[show (x2 != y2)=true from by simp[h],cW,hS,oB9,qAD (by omega)]
  congr 1
  refine qIP ?_ ?_<;>omega
theorem qVN {a b:Result} (ha:okR a) (hb:okR b) (hl:a.scores.length=b.scores.length) (fl:Nat) (hf:5<fl):qEf fl a b=some (sg (qSx a-qSx b)):=by
 unfold qEf
 rw[bnd (qP3 a),bnd (qP3 b)]
 exact qTb ha hb hl _ (qZA (qBv a b) qEd a.scores b.scores (fun k v=>by rw[qBv]) qQ7 hl ha.1 ha.2 hb.2 fl hf) qEd qQ7
theorem qSj {a b:Result} (ha:okR a) (hb:okR b) (hl:a.scores.length=b.scores.length) (fl:Nat) (hf:5<fl):qGm fl a b=some (sg (qSx a-qSx b)):=by
 unfold qGm
 rw[bnd (qP9 a),bnd (qP9 b)]
 exact qTb ha hb hl _ (qZA (qD6 a b) qEW a.scores b.scores (fun k v=>by rw[qD6]) qRA hl ha.1 ha.2 hb.2 fl hf) qEW qRA
structure qYD (l:List Result):Prop where
 ok:∀r∈l,okR r
 eqs:∀r∈l,∀q∈l,r.scores.length=q.scores.length
 skr:∀r∈l,1≤r.skater∧r.skater≤999
 ne:(l.map fun r=>r.skater).Pairwise (·≠·)
 len:l.length≤40
def kx (l:List Result) (i:Int):Int:=qSx (l[i.toNat]?.getD default)
def sx (l:List Result) (i:Int):Int:=(l[i.toNat]?.getD default).skater
theorem qWK {l:List Result} {i:Int} (h:0≤i∧i<(l.length:Int)):∃r,r∈l∧qAT l i=some r∧kx l i=qSx r∧sx l i=r.skater:=by
 have hi:i.toNat<l.length:=by omega
 refine⟨l[i.toNat],List.getElem_mem _,?_,?_,?_⟩
 ·rw[qEu (k:=i.toNat) (by omega)];exact List.getElem?_eq_getElem hi
 ·unfold kx;rw[List.getElem?_eq_getElem hi];rfl
 ·unfold sx;rw[List.getElem?_eq_getElem hi];rfl
theorem qWk {l:List Result} (h:qYD l) (fl:Nat) (hf:5<fl) (i:Int) (hi:0≤i∧i<(l.length:Int)):∀(ys:List Result) (k:Nat) (v:Int),(∀r∈ys,r∈l)→∃r,qBR l i fl ys k v=some r∧qCc l i fl ys k v=some r:=by
 obtain⟨b,b1,b2,_,_⟩:=qWK hi
 intro ys
 induction ys with
 |nil=>intro k v _;exact⟨v,by rw[qBR],by rw[qCc]⟩
 |cons y ys ih =>
  intro k v hm
  have hy:=hm y (by simp)
  rw[qBR,qCc,bnd b2,bnd b2,bnd (qSj (h.ok y hy) (h.ok b b1) (h.eqs y hy b b1) fl hf),bnd (qVN (h.ok y hy) (h.ok b b1) (h.eqs y hy b b1) fl hf)]
  cases decide (sg (qSx y-qSx b)>0)
  ·exact ih (k+1) v fun r hr=>hm r (by simp[hr])
  ·exact ih (k+1) _ fun r hr=>hm r (by simp[hr])
def plR (l:List Result) (fl:Nat) (i:Int):Int:=(qCU fl l i).getD 0
theorem qRz {l:List Result} (h:qYD l) (fl:Nat) (hf:5<fl) (i:Int) (hi:0≤i∧i<(l.length:Int)):qCU fl l i=some (plR l fl i)∧qGb fl l i=some (plR l fl i):=by
 obtain⟨r,r1,r2⟩:=qWk h fl hf i hi l 0 1 fun _ h=>h
 have e:qCU fl l i=some r:=r1
 have:plR l fl i=r:=by unfold plR;rw[e];rfl
 rw[this]
 exact⟨r1,r2⟩
end
section
theorem qRp {B n:Nat} (hB:B≤64) (hn:n≤2097152):qAf B n=true:=qGx (by
 have:=Nat.mul_le_mul hn hB
 rw[Nat.mul_assoc];omega)
theorem ndf {B n:Nat} (hB:B≤64) (hn:n≤2097152):qAr (qAf B n)=some ():=by rw[qRp hB hn];rfl
theorem qEw (n lo hi:Int):∃b,qAM n lo hi=some b∧qAZ n lo hi=some b∧(b=true↔lo≤n∧n≤hi):=by
 obtain⟨a,a1,a2⟩:=qBu n lo hi
 obtain⟨b,b1,b2⟩:=qDb n lo hi
 obtain rfl:a=b:=Bool.eq_iff_iff.2 (a2.trans b2.symm)
 exact⟨a,a1,b1,a2⟩
theorem qPv:∀(ys:List Item) (k:Nat) (v:List Item),(∀it∈ys,qFn it)→v.length+ys.length≤1000→qEp ys k v=some (v++ys)∧qCQ ys k v=some (v++ys)
 | [],k,v,_,_=>by rw[qEp,qCQ,List.append_nil];exact⟨rfl,rfl⟩
 |y::ys,k,v,h,hv=>by
  have hy:=h y (by simp)
  unfold qFn at hy
  simp only[List.length_cons]at hv
  obtain⟨a,b⟩:=qPv ys (k+1) (v++[y]) (fun it hi=>h it (by simp[hi])) (by simp;omega)
  rw[List.append_assoc]at a b
  have e1:qAr (qAf 16 y.names.length)=some ():=ndf (by omega) (by omega)
  have e2:qAr (qAf 56 (v.length+[Item.mk y.names y.marks y.late].length))=some ():=ndf (by omega) (by simp;omega)
  have e3:qAr (qAf 8 y.marks.length)=some ():=ndf (by omega) (by omega)
  constructor
  ·rw[qEp]
   unfold qJx qFG
   simp only[e1,e2,e3,oB9]
   exact a
  ·rw[qCQ]
   unfold qIq qDR
   simp only[e1,e2,e3,oB9]
   exact b
theorem qJ4 {l:List Item} (h:qEE l):qGz l=some l∧qFY l=some l:=by
 have:=qPv l 0 [] h.2 (by have:=h.1;simp;omega)
 rw[List.nil_append]at this
 exact this
theorem qXc (g:List (List Int)):∀(ys:List (List Int)) (k:Nat) (v:List (List Int)),(∀r∈ys,r.length≤9)→v.length+ys.length≤1000→qDn g ys k v=some (Marks.mk g (v++ys))
 | [],k,v,_,_=>by rw[qDn,List.append_nil]
 |y::ys,k,v,h,hv=>by
  simp only[List.length_cons]at hv
  rw[qDn,bnd (qST y (by have:=h y (by simp);omega)),ndf (by omega) (by simp;omega),oB9,qXc g ys (k+1) (v++[y]) (fun r hr=>h r (by simp[hr])) (by simp;omega),List.append_assoc];rfl
theorem qXe (m:Marks):∀(ys:List (List Int)) (k:Nat) (v:List (List Int)),(∀r∈ys,r.length≤9)→v.length+ys.length≤1000→qEh m ys k v=qDn (v++ys) m.components 0 []
 | [],k,v,_,_=>by rw[qEh,List.append_nil]
 |y::ys,k,v,h,hv=>by
  simp only[List.length_cons]at hv
  rw[qEh,bnd (qST y (by have:=h y (by simp);omega)),ndf (by omega) (by simp;omega),oB9,qXe m ys (k+1) (v++[y]) (fun r hr=>h r (by simp[hr])) (by simp;omega),List.append_assoc];rfl
theorem qIR {m:Marks} (h:qG2 m):qFH m=some m∧qCo m=some m:=by
 have hc:=qVB (qWl h) h.1
 obtain⟨h1,h2,r,h3,h4,h5,h6⟩:=h
 refine⟨?_,hc⟩
 unfold qFH
 rw[qXe m m.grades 0 [] (fun x hx=>by have:=(h5 x hx).1;omega) (by simp;omega),qXc _ m.components 0 [] (fun x hx=>by have:=(h6 x hx).1;omega) (by simp;omega)]
 rfl
theorem qUg {p:Performance} (hi:qEE p.items) (hm:qG2 p.marks):qAY p p.items=some p:=by
 unfold qAY
 rw[bnd (qJ4 hi).1,bnd (qIR hm).1]
theorem qVd {l:List Item} (h:qEE l) (i k:Int):∃b,qHA l i k=some b∧qFV l i k=some b∧(b=true→∃it m,0≤i∧0≤k∧qAT l i=some it∧qAT it.marks k=some m∧it∈l):=by
 unfold qHA qFV
 have h14:=h.1
 rw[qAD (by omega)]
 obtain⟨a,a1,a2,a3⟩:=qEw i 0 ((l.length:Int)-1)
 rw[bnd a1,bnd a2]
 cases a
 ·exact⟨false,rfl,rfl,fun h=>by cases h⟩
 ·obtain⟨i0,i1⟩:=a3.1 rfl
  obtain⟨n,rfl⟩:=Int.eq_ofNat_of_zero_le i0
  have hn:n<l.length:=by omega
  have hg:qAT l (n:Int)=some l[n]:=by rw[qEu rfl];exact List.getElem?_eq_getElem hn
  have hit:=h.2 l[n] (List.getElem_mem hn)
  have hl3:=hit.1.2
  have hml:=hit.2
  simp only[qCT,hg,oB9]
  rw[qAD (by omega)]
  obtain⟨b,b1,b2,b3⟩:=qEw k 0 ((l[n].names.length:Int)-1)
  rw[bnd b1,bnd b2]
  refine⟨b,rfl,rfl,fun hb=>?_⟩
  obtain⟨k0,k1⟩:=b3.1 hb
  obtain⟨q,rfl⟩:=Int.eq_ofNat_of_zero_le k0
  exact⟨l[n],l[n].marks[q]'(by omega),i0,k0,rfl,by rw[qEu rfl];exact List.getElem?_eq_getElem _,List.getElem_mem hn⟩
theorem qWX (m:Marks):∃r:Marks×Bool,qIi m=some r∧qGO m=some r∧(r.2=true→r.1=m∧qG2 m):=by
 unfold qIi qGO
 obtain⟨b,b1,b2,b3⟩:=qHf m
 rw[bnd b1,bnd b2]
 cases b
 ·exact⟨_,rfl,rfl,fun h=>by cases h⟩
 ·exact⟨_,rfl,rfl,fun _=>⟨rfl,b3.1 rfl⟩⟩
theorem qM4 {m:Marks} (h:qG2 m) (j:Int):∃(b:Bool) (r:List Int),qFz m j=some b∧qGd m j=some b∧qAT m.components 0=some r∧(3≤r.length∧r.length≤9)∧(b=true↔0≤j∧j≤(r.length:Int)-1)∧(b=true→(∀g∈m.grades,qRS g j)∧∀g∈m.components,qRS g j):=by
 obtain⟨r,r1,r2,r3⟩:=qNe h
 obtain⟨a,a1,a2,a3⟩:=qHf m
 obtain rfl:=a3.2 h
 obtain⟨b,b1,b2,b3⟩:=qEw j 0 ((r.length:Int)-1)
 refine⟨b,r,?_,?_,r1,r2,b3,fun hb=>?_⟩
 ·unfold qFz qEI
  rw[bnd a2,qCT,bnd r1,oB9,qCT,qAD (by omega),bnd b2];rfl
 ·unfold qGd qAx
  rw[bnd a1,qCT,bnd r1,oB9,qCT,qAD (by omega),bnd b1];rfl
 ·obtain⟨c1,c2⟩:=r3 j (b3.1 hb).1 (by have:=(b3.1 hb).2;omega)
  exact⟨fun g hg=>(c1 g hg).1,fun g hg=>(c2 g hg).1⟩
theorem qTA {m:Marks} (h:qG2 m) (i j g:Int):∃r:Marks×Bool,qFt m i j g=some r∧qFy m i j g=some r∧(r.2=true→qG2 r.1∧r.1.grades.length=m.grades.length):=by
 unfold qFt qFy
 obtain⟨b,r,b1,b2,r1,r2,b3,b4⟩:=qM4 h j
 rw[bnd b1,bnd b2]
 cases b
 ·exact⟨_,rfl,rfl,fun h=>by cases h⟩
 have h14:=h.1
 obtain⟨c,c1,c2,c3⟩:=qEw i 0 ((m.grades.length:Int)-1)
 simp only[Bool.not_true,Bool.not_false,qCT]
 rw[qAD (by omega),bnd c1,bnd c2]
 cases c
 ·exact⟨_,rfl,rfl,fun h=>by cases h⟩
 obtain⟨i0,i1⟩:=c3.1 rfl
 obtain⟨n,rfl⟩:=Int.eq_ofNat_of_zero_le i0
 have hn:n<m.grades.length:=by omega
 have hg:qAT m.grades (n:Int)=some m.grades[n]:=by rw[qEu rfl];exact List.getElem?_eq_getElem hn
 obtain⟨x,hx⟩:=qMl ((b4 rfl).1 _ (List.getElem_mem hn))
 simp only[Bool.not_true,Bool.or_self,cF]
 rw[bnd (qIR h).1,bnd (qIR h).2,bnd hg,bnd hg,bnd hx,bnd hx]
 obtain⟨q,q1,q2,q3⟩:=qWX (Marks.mk (m.grades.set (n:Int).toNat (m.grades[n].set j.toNat g)) m.components)
 rw[bnd q1,bnd q2]
 refine⟨_,rfl,rfl,fun hq=>?_⟩
 obtain⟨e,e2⟩:=q3 hq
 show qG2 q.1∧q.1.grades.length=_
 rw[e]
 exact⟨e2,by simp⟩
theorem qPb {m:Marks} (h:qG2 m) (i j g:Int):∃r:Marks×Bool,qEF m i j g=some r∧qEM m i j g=some r∧(r.2=true→qG2 r.1∧r.1.grades.length=m.grades.length):=by
 unfold qEF qEM
 obtain⟨b,r,b1,b2,r1,r2,b3,b4⟩:=qM4 h j
 rw[bnd b1,bnd b2]
 cases b
 ·exact⟨_,rfl,rfl,fun h=>by cases h⟩
 have h3:=h.2.1
 obtain⟨c,c1,c2,c3⟩:=qEw i 0 2
 simp only[Bool.not_true,Bool.not_false,qCT]
 rw[bnd c1,bnd c2]
 cases c
 ·exact⟨_,rfl,rfl,fun h=>by cases h⟩
 obtain⟨i0,i1⟩:=c3.1 rfl
 obtain⟨n,rfl⟩:=Int.eq_ofNat_of_zero_le i0
 have hn:n<m.components.length:=by omega
 have hg:qAT m.components (n:Int)=some m.components[n]:=by rw[qEu rfl];exact List.getElem?_eq_getElem hn
 obtain⟨x,hx⟩:=qMl ((b4 rfl).2 _ (List.getElem_mem hn))
 simp only[Bool.not_true,Bool.or_self,cF]
 rw[bnd (qIR h).1,bnd (qIR h).2,bnd hg,bnd hg,bnd hx,bnd hx]
 obtain⟨q,q1,q2,q3⟩:=qWX (Marks.mk m.grades (m.components.set (n:Int).toNat (m.components[n].set j.toNat g)))
 rw[bnd q1,bnd q2]
 refine⟨_,rfl,rfl,fun hq=>?_⟩
 obtain⟨e,e2⟩:=q3 hq
 show qG2 q.1∧q.1.grades.length=_
 rw[e]
 exact⟨e2,rfl⟩
end
section
def qRg (l:List Item):List Item:=l.mapIdx fun i it=>Item.mk it.names it.marks (decide (2*(i:Int)≥(l.length:Int)))
theorem qYw (l x1:List Item) (hx:x1.length=l.length) (hl:l.length≤1000):∀(n fl:Nat) (dn rest:List Item),rest.length=n→n<fl→dn.length+n=l.length→
  qEs l x1 fl (dn++rest) (dn.length:Int)=some (dn++rest.mapIdx fun i it=>Item.mk it.names it.marks (decide (2*((dn.length+i:Nat):Int)≥(l.length:Int))))∧
  qDf x1 fl (dn++rest) (dn.length:Int)=some (dn++rest.mapIdx fun i it=>Item.mk it.names it.marks (decide (2*((dn.length+i:Nat):Int)≥(l.length:Int)))):=by
 intro n
 induction n with
 |zero =>
  intro fl dn rest h hf hd
  obtain⟨f,rfl⟩:=nZ9 (by omega:fl≠0)
  obtain rfl:=List.length_eq_zero_iff.1 h
  rw[qEs,qDf,dF (by omega),cF,cF]
  simp
 |succ n ih =>
  intro fl dn rest h hf hd
  obtain⟨f,rfl⟩:=nZ9 (by omega:fl≠0)
  obtain⟨y,ys,rfl⟩:=List.exists_cons_of_length_eq_add_one h
  simp only[List.length_cons]at h
  have hg:qAT (dn++y::ys) (dn.length:Int)=some y:=qDl rfl rfl
  have hs:∀z:Item,(dn++y::ys).set ((dn.length:Int)).toNat z=(dn++[z])++ys:=fun z=>by simp
  have e:w64 (2*(dn.length:Int))=2*(dn.length:Int):=qAD (by omega)
  have e1:w64 ((dn.length:Int)+1)=((dn.length+1:Nat):Int):=by rw[qAD (by omega)];omega
  have el:((dn++y::ys).length:Int)=(l.length:Int):=by simp;omega
  obtain⟨a,b⟩:=ih f (dn++[Item.mk y.names y.marks (decide (2*(dn.length:Int)≥(l.length:Int)))]) ys (by omega) (by omega) (by simp;omega)
  rw[show (dn++[Item.mk y.names y.marks (decide (2*(dn.length:Int)≥(l.length:Int)))]).length=dn.length+1 from by simp]at a b
  have ef:(dn++[Item.mk y.names y.marks (decide (2*(dn.length:Int)≥(l.length:Int)))])++(ys.mapIdx fun i it=>Item.mk it.names it.marks (decide (2*((dn.length+1+i:Nat):Int)≥(l.length:Int))))=dn++(y::ys).mapIdx fun i it=>Item.mk it.names it.marks (decide (2*((dn.length+i:Nat):Int)≥(l.length:Int))):=by
   rw[List.mapIdx_cons,List.append_assoc]
   simp only[Nat.add_zero,List.cons_append,List.nil_append,Nat.add_assoc,Nat.add_comm 1]
  rw[ef]at a b
  rw[qEs,qDf,dT (by omega),cW,cW,bnd hg]
  unfold qFq
  rw[oB9,bnd hg,hs,hs,e,e1,el]
  exact⟨a,b⟩
theorem qUA {l:List Item} (h:qEE l) (fl:Nat) (hf:1048576<fl):qHL fl l=some (qRg l)∧qFw fl l=some (qRg l):=by
 have h14:=h.1
 unfold qHL qFw
 rw[bnd (qJ4 h).1,bnd (qJ4 h).2]
 have:=qYw l l rfl (by omega) l.length fl [] l rfl (by omega) (by simp)
 simpa [qRg]using this
theorem qJn {F:Nat} {c:Code} {p:Performance} {a i k m s:Bool} (ha:qC9 F c=some a) (hi:qFP F p.items=some i) (hk:qFc c p.items=some k) (hm:qFD p.marks=some m) (hs:qHQ p.slips=some s) :
  qBZ F c p=some (((((a&&i)&&k)&&(m&&((p.marks.grades.length:Int)==(p.items.length:Int))))&&s)):=by
 unfold qBZ qKC qJ5 qKJ
 rw[ha,hi,hk,hm,hs]
 cases a<;>cases i<;>cases k<;>cases m<;>cases ((p.marks.grades.length:Int)==(p.items.length:Int))<;>cases s<;>rfl
theorem qNp {F:Nat} {c:Code} {p:Performance} {a i k m s:Bool} (ha:qBG F c=some a) (hi:qE4 F p.items=some i) (hk:qDv c p.items=some k) (hm:qDq p.marks=some m) (hs:qEH p.slips=some s) :
  qBj F c p=some (((((a&&i)&&k)&&(m&&((p.marks.grades.length:Int)==(p.items.length:Int))))&&s)):=by
 unfold qBj qIJ qJ8 qIh
 rw[ha,hi,hk,hm,hs]
 cases a<;>cases i<;>cases k<;>cases m<;>cases ((p.marks.grades.length:Int)==(p.items.length:Int))<;>cases s<;>rfl
structure Val (F:Nat) (c:Code) (p:Performance):Prop where
 nc:qRi c
 nb:qVs p.items
 cs:qC9 F c=some true
 ci:qBG F c=some true
 is:qFP F p.items=some true
 ii:qE4 F p.items=some true
 ks:qFc c p.items=some true
 ki:qDv c p.items=some true
 mg:qG2 p.marks
 ln:p.marks.grades.length=p.items.length
 sg:qPD p.slips
theorem Val.perf {F:Nat} (hF:1048576<F) {c:Code} {p:Performance} (h:Val F c p):qYR c p:=by
 obtain⟨a,a1,a2,a3⟩:=qMW c h.nc F hF
 obtain⟨i,i1,i2,i3⟩:=qNW p.items h.nb F hF
 obtain⟨k,k1,k2,k3⟩:=qNT c p.items
 refine⟨a3 ?_,i3 ?_,k3.1 ?_,h.mg,h.ln,h.sg⟩
 ·rw[h.ci]at a1;exact(Option.some.inj a1).symm
 ·rw[h.ii]at i1;exact(Option.some.inj i1).symm
 ·rw[h.ki]at k1;exact(Option.some.inj k1).symm
theorem Val.good {F:Nat} {c:Code} {p:Performance} (h:Val F c p):qBZ F c p=some true∧qBj F c p=some true:=by
 obtain⟨m,m1,m2,m3⟩:=qHf p.marks
 obtain rfl:=m3.2 h.mg
 obtain⟨s,s1,s2,s3⟩:=qJp p.slips
 obtain rfl:=s3.2 h.sg
 have e:((p.marks.grades.length:Int)==(p.items.length:Int))=true:=by rw[h.ln];exact beq_self_eq_true _
 have:=qJn h.cs h.is h.ks m2 s2
 have h2:=qNp h.ci h.ii h.ki m1 s1
 rw[e]at this h2
 exact⟨this,h2⟩
theorem qYU {F:Nat} (hF:1048576<F) {c:Code} {p:Performance} (hc:qRi c) (hb:qVs p.items):∃b,qBZ F c p=some b∧qBj F c p=some b∧(b=true→Val F c p):=by
 obtain⟨a,a1,a2,a3⟩:=qMW c hc F hF
 obtain⟨i,i1,i2,i3⟩:=qNW p.items hb F hF
 obtain⟨k,k1,k2,k3⟩:=qNT c p.items
 obtain⟨m,m1,m2,m3⟩:=qHf p.marks
 obtain⟨s,s1,s2,s3⟩:=qJp p.slips
 refine⟨_,qJn a2 i2 k2 m2 s2,qNp a1 i1 k1 m1 s1,fun h=>?_⟩
 simp only[Bool.and_eq_true]at h
 obtain⟨⟨⟨⟨rfl,rfl⟩,rfl⟩,rfl,h5⟩,rfl⟩:=h
 exact⟨hc,hb,a2,a1,i2,i1,k2,k1,m3.1 rfl,by have:=eq_of_beq h5;omega,s3.1 rfl⟩
theorem qKH {F:Nat} {x:CsState} {c:Code} {p:Performance} {b:Bool} (h:qBZ F c p=some b):qAN F x c p=some (bif b then (CsState.mk c p x.factor x.results x.no x.what x.lines,⟨#[111,107]⟩) else (x,⟨#[110,111]⟩)):=by
 unfold qAN
 rw[bnd h]
 cases b<;>rfl
end
section
theorem qY0 (c:Code) (x:Element) (hc:c.elements.length≤1000):∀(n fl k:Nat),k+n=c.elements.length→n<fl→∃q:Nat,q≤c.elements.length∧qBp c x fl (k:Int)=some (q:Int)∧qBq c x fl (k:Int)=some (q:Int):=by
 intro n
 induction n with
 |zero =>
  intro fl k h hf
  obtain⟨f,rfl⟩:=nZ9 (by omega:fl≠0)
  rw[qBp,qBq,dF (by omega),qDY,oB9,oB9,Bool.false_and,cF,cF]
  exact⟨k,by omega,rfl,rfl⟩
 |succ n ih =>
  intro fl k h hf
  obtain⟨f,rfl⟩:=nZ9 (by omega:fl≠0)
  have hg:qAT c.elements (k:Int)=some (c.elements[k]'(by omega)):=by rw[qEu rfl];exact List.getElem?_eq_getElem _
  obtain⟨q,q1,q2,q3⟩:=ih f (k+1) (by omega) (by omega)
  rw[qBp,qBq,dT (by omega),qCT,hg,oB9,oB9,Bool.true_and,qAD (by omega),show (k:Int)+1=((k+1:Nat):Int) by omega,q2,q3]
  cases qMv (c.elements[k]'(by omega)).name x.name
  ·exact⟨k,by omega,rfl,rfl⟩
  ·exact⟨q,q1,rfl,rfl⟩
theorem qUl (s:ByteArray):∀(l:List Element) (k:Nat),fnd s l k<0↔∀x∈l,x.name≠s
 | [],k=>by simp[fnd]
 |y::ys,k=>by
  rw[fnd]
  by_cases h:y.name=s
  ·rw[if_pos h];constructor
   ·intro q;omega
   ·intro q;exact absurd h (q y (by simp))
  ·rw[if_neg h,qUl s ys (k+1)]
   simp[h]
theorem qTF {c c':Code} {l:List Item} (h:qGE c l) (hs:∀x∈c.elements,x∈c'.elements):qGE c' l:=fun it hi s hs' q=>by
 apply h it hi s hs'
 rw[qUl]at q⊢
 exact fun x hx=>q x (hs x hx)
theorem qNb {c:Code} {l:List Item} (h:qGE c l):qFc c l=some true∧qDv c l=some true:=by
 obtain⟨k,k1,k2,k3⟩:=qNT c l
 obtain rfl:=k3.2 h
 exact⟨k2,k1⟩
theorem qLV {F:Nat} (hF:1048576<F) {c:Code} {p:Performance} (h:Val F c p):c.limits.length=5∧c.elements.length≤24:=⟨(h.perf hF).1.2.1,(h.perf hF).1.1.2⟩
theorem Val.code {F:Nat} (hF:1048576<F) {c c':Code} {p:Performance} (h:Val F c p) (hn:qRi c') (he:∀x∈c.elements,x∈c'.elements):∃b,qBG F c'=some b∧qC9 F c'=some b∧qBZ F c' p=some b∧(b=true→Val F c' p):=by
 obtain⟨a,a1,a2,a3⟩:=qMW c' hn F hF
 obtain⟨k1,k2⟩:=qNb (qTF (h.perf hF).2.2.1 he)
 obtain⟨m,m1,m2,m3⟩:=qHf p.marks
 obtain rfl:=m3.2 h.mg
 obtain⟨s,s1,s2,s3⟩:=qJp p.slips
 obtain rfl:=s3.2 h.sg
 have e:((p.marks.grades.length:Int)==(p.items.length:Int))=true:=by rw[h.ln];exact beq_self_eq_true _
 have:=qJn a2 h.is k1 m2 s2
 rw[e]at this
 simp only[Bool.and_true]at this
 exact⟨a,a1,a2,this,fun ha=>⟨hn,h.nb,ha▸a2,ha▸a1,h.is,h.ii,k1,k2,h.mg,h.ln,h.sg⟩⟩
theorem qOo {F:Nat} (hF:1048576<F) {c:Code} {p:Performance} (h:Val F c p) (x:Element) (hx:x.name.size≤1048576):∃r:Code×Bool,qE6 F c x=some r∧qFA F c x=some r∧(r.2=true→Val F r.1 p∧qBZ F r.1 p=some true):=by
 obtain⟨l5,l24⟩:=qLV hF h
 unfold qE6 qFA
 rw[bnd h.cs,bnd h.ci,Bool.not_true,cF,cF]
 unfold qFE
 rw[ndf (by omega) (by omega),oB9,bnd (qST c.limits (by omega)),oB9]
 obtain⟨q,q1,q2,q3⟩:=qY0 c x (by omega) c.elements.length F 0 (by omega) (by omega)
 rw[show ((0:Nat):Int)=0 from rfl]at q2 q3
 have hi:qFj c.elements (q:Int)=some (c.elements.take q):=by unfold qFj;rw[if_pos (by omega)];rfl
 have lo:qC0 c.elements (q:Int)=some (c.elements.drop q):=by unfold qC0;rw[if_pos (by omega)];rfl
 have hins:qDo c.elements (q:Int) [x]=some ((c.elements.take q++[x])++c.elements.drop q):=by
  unfold qDo
  rw[dT (by omega),dT (by omega),qRp (by omega) (by omega)]
  rfl
 rw[bnd q2,bnd q3,bnd hi,ndf (by omega) (by simp;omega),oB9,ndf (by omega) (by simp;omega),oB9,bnd lo,ndf (by omega) (by simp;omega),oB9,oB9,bnd hins]
 unfold qMG qGD
 rw[bnd (qO7 c.limits (by omega))]
 have hm:∀z,z∈(c.elements.take q++[x])++c.elements.drop q↔z∈c.elements∨z=x:=fun z=>by
  have e:z∈c.elements↔z∈c.elements.take q∨z∈c.elements.drop q:=by rw[←List.mem_append,List.take_append_drop]
  rw[e,List.mem_append,List.mem_append,List.mem_singleton]
  constructor
  ·rintro ((h|h)|h)
   ·exact .inl (.inl h)
   ·exact .inr h
   ·exact .inl (.inr h)
  ·rintro ((h|h)|h)
   ·exact .inl (.inl h)
   ·exact .inr h
   ·exact .inl (.inr h)
 obtain⟨b,b1,b2,b3,b4⟩:=h.code hF (c':=Code.mk ((c.elements.take q++[x])++c.elements.drop q) c.limits c.repeats c.bonus c.keeps c.fall)
  ⟨by simp;omega,fun z hz=>by rcases (hm z).1 hz with hz|rfl;exact h.nc.2 z hz;exact hx⟩ (fun z hz=>(hm z).2 (.inl hz))
 rw[bnd b1,bnd b2]
 cases b
 ·exact⟨_,rfl,rfl,fun h=>by cases h⟩
 ·exact⟨_,rfl,rfl,fun _=>⟨b4 rfl,b3⟩⟩
theorem qQq {F:Nat} (hF:1048576<F) {c:Code} {p:Performance} (h:Val F c p):qGD F c c.elements=some (c,true):=by
 obtain⟨l5,l24⟩:=qLV hF h
 unfold qGD
 rw[bnd (qO7 c.limits (by omega))]
 show (qBG F c).bind _=_
 rw[bnd h.ci];rfl
end
section
theorem qCY (s:ByteArray):(toL s).length=s.size:=(Go.Lib.size_eq s).symm
theorem qY9 (s p:ByteArray) (hs:s.size≤1048576) (hp:p.size≤1048576):(∃r,qBb s p=some (r,true)∧toL s=toL p++toL r)∨((∀t,toL s≠toL p++t)∧qBb s p=some (s,false)):=by
 have hsz:=qCY s
 have hpz:=qCY p
 unfold qBb qFO qFR
 by_cases h1:(s.size:Int)≥(p.size:Int)
 ·rw[dT h1,qCT,show inB 0 (p.size:Int) s.size=true from by unfold inB;simp;omega,qD1,oB9,oB9,Bool.true_and]
  have hx:toL (ByteArray.extract s 0 ((p.size:Int)).toNat)=(toL s).take p.size:=by
   rw[show toL (ByteArray.extract s 0 ((p.size:Int)).toNat)=((toL s).drop 0).take (p.size-0) from Go.Lib.extract_data s 0 p.size];rfl
  have hy:toL (ByteArray.extract s ((p.size:Int)).toNat s.size)=(toL s).drop p.size:=Go.Lib.extract_to_end s p.size
  by_cases he:ByteArray.extract s 0 ((p.size:Int)).toNat=p
  ·rw[dT he,Bool.not_true,cF,show inB (p.size:Int) s.size s.size=true from by unfold inB;simp;omega,qD1,oB9,oB9]
   refine .inl ⟨_,rfl,?_⟩
   show toL s=toL p++toL (ByteArray.extract s ((p.size:Int)).toNat s.size)
   rw[hy,←congrArg toL he,hx,List.take_append_drop]
  ·rw[dF he,Bool.not_false,cW,oB9]
   refine .inr ⟨fun t ht=>he (qGJ ?_),rfl⟩
   rw[hx,ht,←hpz,List.take_left]
 ·rw[dF h1,qDY,oB9,Bool.false_and,oB9,Bool.not_false,cW,oB9]
  refine .inr ⟨fun t ht=>?_,rfl⟩
  have:=congrArg List.length ht
  rw[List.length_append]at this
  omega
theorem qYj (s p:ByteArray) (hs:s.size≤1048576) (hp:p.size≤1048576):(∃r,qC3 s p=some (r,true)∧toL s=toL r++toL p)∨((∀t,toL s≠t++toL p)∧qC3 s p=some (s,false)):=by
 have hsz:=qCY s
 have hpz:=qCY p
 unfold qC3 qFK qFM
 by_cases h1:(s.size:Int)≥(p.size:Int)
 ·have hn:w64 ((s.size:Int)-(p.size:Int))=((s.size-p.size:Nat):Int):=by rw[qAD (by omega)];omega
  rw[dT h1,qCT,hn,show inB ((s.size-p.size:Nat):Int) s.size s.size=true from by unfold inB;simp,qD1,oB9,oB9,Bool.true_and,Int.toNat_natCast]
  have hex:toL (ByteArray.extract s (s.size-p.size) s.size)=(toL s).drop (s.size-p.size):=Go.Lib.extract_to_end s (s.size-p.size)
  have hx:toL (ByteArray.extract s 0 (s.size-p.size))=(toL s).take (s.size-p.size):=by
   rw[show toL (ByteArray.extract s 0 (s.size-p.size))=_ from Go.Lib.extract_data s 0 (s.size-p.size)];rw[List.drop_zero,Nat.sub_zero]
  by_cases he:ByteArray.extract s (s.size-p.size) s.size=p
  ·rw[dT he,Bool.not_true,cF,show inB 0 ((s.size-p.size:Nat):Int) s.size=true from by unfold inB;simp,qD1,oB9,oB9]
   refine .inl ⟨_,rfl,?_⟩
   show toL s=toL (ByteArray.extract s 0 (s.size-p.size))++toL p
   rw[hx,←congrArg toL he,hex,List.take_append_drop]
  ·rw[dF he,Bool.not_false,cW,oB9]
   refine .inr ⟨fun t ht=>he (qGJ ?_),rfl⟩
   have hl:=congrArg List.length ht
   rw[List.length_append]at hl
   rw[hex,ht,show s.size-p.size=t.length by omega,List.drop_left]
 ·rw[dF h1,qDY,oB9,Bool.false_and,oB9,Bool.not_false,cW,oB9]
  refine .inr ⟨fun t ht=>?_,rfl⟩
  have:=congrArg List.length ht
  rw[List.length_append]at this
  omega
theorem qME (s:ByteArray) (hs:s.size≤1048576) (F:Nat) (hF:12<F):(qRT (toL s)∧(toL s).length≤6∧qDB F s=some (qMT (toL s):Int))∨(¬(qRT (toL s)∧(toL s).length≤6)∧qDB F s=some (-1)):=by
 have hsz:s.size=(toL s).length:=Go.Lib.size_eq s
 unfold qDB
 obtain⟨b,b1,b2⟩:=qDb (s.size:Int) 1 6
 rw[bnd b1]
 cases b
 ·simp only[Bool.not_false,Bool.not_true,qDY,oB9,Bool.true_or,cW]
  refine .inr ⟨fun h=>?_,trivial⟩
  have hpos:=List.length_pos_iff.2 h.1.1
  have:=b2.2 (by omega)
  cases this
 ·have hr:=b2.1 rfl
  have hpos:0<(toL s).length:=by omega
  simp only[Bool.not_true,Bool.not_false,qCT,Bool.false_or]
  rw[qMR (i:=0) (k:=0) rfl,List.getElem?_eq_getElem hpos,oB9]
  have hl:=qWd s (by omega) s.size F 0 0 (by omega) (by omega) (by rfl) (by intro x hx;simp at hx)
  have hhd:(toL s).head?=some (toL s)[0]:=by rw[List.head?_eq_getElem?,List.getElem?_eq_getElem hpos]
  cases hc:((((toL s)[0].toNat:Int)==48)&&decide ((s.size:Int)>1))
  ·rw[cF]
   by_cases hd:qVp (toL s)
   ·refine .inl ⟨⟨List.length_pos_iff.1 hpos,hd,fun h1 h2=>?_⟩,by omega,(hl.1 hd).2⟩
    rw[hhd]at h2
    rw[Option.some.inj h2,dT (by omega)]at hc
    cases hc
   ·exact .inr ⟨fun h=>hd h.1.2.1,(hl.2 hd).2⟩
  ·rw[cW]
   rw[Bool.and_eq_true,beq_iff_eq,decide_eq_true_iff]at hc
   refine .inr ⟨fun h=>absurd ?_ (h.1.2.2 (by omega)),rfl⟩
   rw[hhd,show (toL s)[0]=48 from UInt8.toNat_inj.1 (by show _=48;omega)]
theorem qK1 {l:List UInt8} (h:qRT l) (k:Nat) (hv:qMT l<10 ^ (k+1)):l.length≤k+1:=by
 have:=qQL k (qMT l) hv
 rwa [qUe _ l rfl h]at this
def isN (w:ByteArray) (n:Int):Prop:=qRT (toL w)∧n=(qMT (toL w):Int)∧n≤9999
def isG (w:ByteArray) (n:Int):Prop:=isN w n∨∃t,toL w=45::t∧qRT t∧n=-(qMT t:Int)∧0<qMT t∧qMT t≤9999
theorem qWZ {w:ByteArray} {n:Int} (h:isN w n):0≤n∧n≤9999:=by obtain⟨_,rfl,h⟩:=h;omega
theorem qYZ {w:ByteArray} {n:Int} (h:isG w n):-9999≤n∧n≤9999:=by
 rcases h with h|⟨t,_,_,rfl,_,_⟩
 ·have:=qWZ h;omega
 ·omega
theorem qYx (w:ByteArray) (hs:w.size≤1048576) (F:Nat) (hF:12<F):(∃n,isN w n∧qCX F 110 w=some (n,true))∨((∀n,¬isN w n)∧∃q,qCX F 110 w=some (q,false)):=by
 unfold qCX
 rw[show ((110:Int)==110)=true from rfl,cW]
 obtain⟨r,r1,r2,r3⟩:=qM8 w hs F hF
 rw[bnd r1]
 cases hr:r.2
 ·refine .inr ⟨fun n hn=>?_,_,rfl⟩
  have h4:=qK1 hn.1 3 (by have:=hn.2;omega)
  rw[r2.2 ⟨hn.1,by omega⟩]at hr
  cases hr
 ·have hv:=r3 hr
  by_cases h9:r.1≤9999
  ·rw[dT h9]
   exact .inl ⟨_,⟨(r2.1 hr).1,hv,h9⟩,rfl⟩
  ·rw[dF h9]
   exact .inr ⟨fun n hn=>h9 (by rw[hv,←hn.2.1];exact hn.2.2),_,rfl⟩
theorem qOQ {w:ByteArray} {t:List UInt8} (h:toL w=45::t):¬qRT (toL w):=fun hc=>by
 have:=hc.2.1 45 (by rw[h];simp)
 simp at this
theorem qYt (w:ByteArray) (hs:w.size≤1048576) (F:Nat) (hF:12<F):(∃n,isG w n∧qCX F 103 w=some (n,true))∨((∀n,¬isG w n)∧∃q,qCX F 103 w=some (q,false)):=by
 unfold qCX
 rw[show ((103:Int)==110)=false from rfl,cF,show ((103:Int)==103)=true from rfl,cW]
 unfold qJH qKo
 have e45:toL (⟨#[45]⟩:ByteArray)=[45]:=rfl
 rcases qY9 w ⟨#[45]⟩ hs (by show 1≤_;omega) with⟨x,x1,x2⟩|⟨x1,x2⟩
 ·have hx:x.size≤1048576:=by have:=congrArg List.length x2;rw[List.length_append,e45,qCY,qCY]at this;simp at this;omega
  obtain⟨r,r1,r2,r3⟩:=qM8 x hx F hF
  rw[bnd x1,bnd r1]
  have hno:=qOQ x2
  simp only[Bool.true_and,cW]
  cases hc:((!r.2)||(r.1==0))
  ·rw[cF]
   rw[Bool.or_eq_false_iff,Bool.not_eq_false',beq_eq_false_iff_ne]at hc
   have hv:=r3 hc.1
   have hl:=r2.1 hc.1
   have hlt:=qR8 _ (toL x) rfl hl.1.2.1
   have hp:10 ^ (toL x).length≤10 ^ 12:=Nat.pow_le_pow_right (by omega) hl.2
   have h0:=hc.2
   rw[qAD (by omega)]
   simp only[oB9,qCT]
   rw[qAD (by omega)]
   by_cases h9:max (-r.1) (- -r.1)≤9999
   ·rw[dT h9]
    exact .inl ⟨_,.inr ⟨toL x,x2,hl.1,by rw[hv],by omega,by omega⟩,rfl⟩
   ·rw[dF h9]
    refine .inr ⟨fun n hn=>?_,_,rfl⟩
    rcases hn with hn|⟨t,t1,t2,t3,t4,t5⟩
    ·exact hno hn.1
    ·have:toL x=t:=by rw[t1]at x2;exact(List.cons.inj x2).2.symm
     rw[this]at hv
     omega
  ·rw[cW]
   simp only[oB9,qDY]
   refine .inr ⟨fun n hn=>?_,_,rfl⟩
   rcases hn with hn|⟨t,t1,t2,t3,t4,t5⟩
   ·exact hno hn.1
   ·have:toL x=t:=by rw[t1]at x2;exact(List.cons.inj x2).2.symm
    subst this
    have h4:=qK1 t2 3 (by omega)
    have e:=r2.2 ⟨t2,by omega⟩
    rw[e,r3 e]at hc
    simp at hc
    omega
 ·obtain⟨r,r1,r2,r3⟩:=qM8 w hs F hF
  rw[bnd x2,bnd r1]
  simp only[Bool.false_and,Bool.or_false,cF]
  cases hr:r.2
  ·simp only[Bool.not_false,cW,oB9,qDY]
   refine .inr ⟨fun n hn=>?_,_,rfl⟩
   rcases hn with hn|⟨t,t1,_⟩
   ·have h4:=qK1 hn.1 3 (by have:=hn.2;omega)
    rw[r2.2 ⟨hn.1,by omega⟩]at hr
    cases hr
   ·exact x1 t t1
  ·have hv:=r3 hr
   have hl:=r2.1 hr
   have hlt:=qR8 _ (toL w) rfl hl.1.2.1
   have hp:10 ^ (toL w).length≤10 ^ 12:=Nat.pow_le_pow_right (by omega) hl.2
   simp only[Bool.not_true,cF,oB9,qCT]
   rw[qAD (by omega)]
   by_cases h9:max r.1 (-r.1)≤9999
   ·rw[dT h9]
    exact .inl ⟨_,.inl ⟨hl.1,hv,by omega⟩,rfl⟩
   ·rw[dF h9]
    refine .inr ⟨fun n hn=>?_,_,rfl⟩
    rcases hn with hn|⟨t,t1,_⟩
    ·have:=hn.2;omega
    ·exact x1 t t1
end
section
theorem qXS (F:Nat) (hF:100<F) (n:Int) (h:-9999999999≤n∧n≤9999999999):∃t,qDQ F n=some t∧qB3 n=some t∧toL t=(if n<0 then 45::qQV (-n).toNat else qQV n.toNat)∧t.size≤11:=by
 have hit:∃t,qB3 n=some t∧toL t=(if n<0 then 45::qQV (-n).toNat else qQV n.toNat):=by
  unfold qB3
  rw[show qAr (decide (-9223372036854775808≤n)&&decide (n≤9223372036854775807))=some () from by rw[dT (by omega),dT (by omega)];rfl,oB9]
  refine⟨_,rfl,?_⟩
  show (Go.Lib.itoa n).toArray.toList=_
  unfold Go.Lib.itoa
  by_cases h0:n<0
  ·rw[if_pos h0,if_pos h0,qUa,show n.natAbs=(-n).toNat by omega]
  ·rw[if_neg h0,if_neg h0,qUa]
 obtain⟨t,t1,t2⟩:=hit
 unfold qDQ
 by_cases h0:n<0
 ·rw[dT h0,cW,qAD (by omega)]
  obtain⟨q,q1,q2⟩:=qYc F 9 F (-n).toNat (by omega) (by omega) (by omega)
  rw[Int.toNat_of_nonneg (by omega)]at q1
  have hq:q.size≤10:=by rw[←qCY,q2];exact qQL 9 _ (by omega)
  have e1:(⟨#[45]⟩:ByteArray).size=1:=rfl
  rw[bnd q1,nd (by omega),oB9]
  rw[if_pos h0]at t2
  have e:(⟨#[45]⟩:ByteArray)++q=t:=qGJ (by rw[qIz,q2,t2];rfl)
  exact⟨t,by rw[e],t1,by rw[t2,if_pos h0],by rw[←e,ByteArray.size_append];omega⟩
 ·rw[dF h0,cF]
  obtain⟨q,q1,q2⟩:=qYc F 9 F n.toNat (by omega) (by omega) (by omega)
  rw[Int.toNat_of_nonneg (by omega)]at q1
  have hq:q.size≤10:=by rw[←qCY,q2];exact qQL 9 _ (by omega)
  rw[if_neg h0]at t2
  have e:q=t:=qGJ (by rw[q2,t2])
  rw[bnd q1,e]
  exact⟨t,rfl,t1,by rw[t2,if_neg h0],by rw[←e];omega⟩
theorem qT0 (s:ByteArray) (hs:s.size≤1048576) (F:Nat) (hF:12<F):∃v,qG4 F s=some v∧(-999999≤v∧v≤999999)∧(v<0→∃t,toL s=45::t∧qRT t∧v=-(qMT t:Int)∧0<qMT t)∧(∀t,toL s=45::t→qRT t→t.length≤6→v=-(qMT t:Int)):=by
 have hsz:=qCY s
 unfold qG4
 have key:∀(q:ByteArray),q.size≤1048576→qRT (toL q)→(toL q).length≤6→(qMT (toL q):Int)≤999999:=fun q hq hc h6=>by
  have:=qR8 _ (toL q) rfl hc.2.1
  have:10 ^ (toL q).length≤10 ^ 6:=Nat.pow_le_pow_right (by omega) h6
  omega
 have pos:qDB F s=qDB F s→(∀t,toL s=45::t→¬qRT t)→∃v,((qDB F s).bind fun x7=>cond (decide (x7≥0)) (some (w64 (1*x7))) (some 9999))=some v∧(-999999≤v∧v≤999999)∧(v<0→∃t,toL s=45::t∧qRT t∧v=-(qMT t:Int)∧0<qMT t)∧(∀t,toL s=45::t→qRT t→t.length≤6→v=-(qMT t:Int)):=fun _ hno=>by
  rcases qME s hs F hF with⟨c1,c2,c3⟩|⟨_,c3⟩
  ·have:=key s hs c1 c2
   rw[bnd c3,dT (by omega),cW,Int.one_mul,qAD (by omega)]
   exact⟨_,rfl,by omega,fun h=>by omega,fun t h1 h2=>absurd h2 (hno t h1)⟩
  ·rw[bnd c3]
   exact⟨9999,rfl,by omega,fun h=>by omega,fun t h1 h2=>absurd h2 (hno t h1)⟩
 by_cases h1:(s.size:Int)>1
 ·rw[dT h1,qCT,qMR (i:=0) (k:=0) rfl,List.getElem?_eq_getElem (show 0<(toL s).length by omega),oB9,Bool.true_and]
  by_cases h45:(toL s)[0]'(by omega)=45
  ·rw[h45,show (((45:UInt8).toNat:Int)==45)=true from rfl,cW,show inB 1 s.size s.size=true from by unfold inB;simp;omega,qD1,oB9]
   have hx:toL (ByteArray.extract s (1:Int).toNat s.size)=(toL s).drop 1:=Go.Lib.extract_to_end s 1
   have hd:toL s=45::(toL s).drop 1:=by
    cases hq:toL s with
    |nil=>rw[hq]at hsz;simp at hsz;omega
    |cons a b=>simp only[hq,List.getElem_cons_zero]at h45;rw[h45];rfl
   have hxs:(ByteArray.extract s (1:Int).toNat s.size).size≤1048576:=by rw[←qCY,hx,List.length_drop];omega
   rcases qME _ hxs F hF with⟨c1,c2,c3⟩|⟨c1,c3⟩
   ·have:=key _ hxs c1 c2
    rw[hx]at c1 c2 c3 this
    rw[bnd c3,dT (by omega),cW,qAD (by omega)]
    refine⟨_,rfl,by omega,fun h=>⟨_,hd,c1,by omega,by omega⟩,fun t t1 _ _=>?_⟩
    rw[hd]at t1
    rw[(List.cons.inj t1).2];omega
   ·rw[hx]at c1
    rw[bnd c3]
    refine⟨9999,rfl,by omega,fun h=>by omega,fun t t1 t2 t3=>?_⟩
    rw[hd]at t1
    rw[(List.cons.inj t1).2]at c1
    exact absurd ⟨t2,t3⟩ c1
  ·rw[show ((((toL s)[0]'(by omega)).toNat:Int)==45)=false from by rw[beq_eq_false_iff_ne];intro e;exact h45 (UInt8.toNat_inj.1 (by show _=45;omega)),cF]
   refine pos rfl fun t ht=>?_
   exfalso;apply h45
   simp only[ht,List.getElem_cons_zero]
 ·rw[dF h1,qDY,oB9,Bool.false_and,cF]
  refine pos rfl fun t ht hc=>?_
  have:=congrArg List.length ht
  rw[List.length_cons]at this
  exact hc.1 (List.length_eq_zero_iff.1 (by omega))
theorem qR6 (F:Nat) (hF:100<F) (W:List ByteArray) (sg:Bool) (y:ByteArray) (hy:y.size≤1048576) (ys:List ByteArray) (k:Nat) (v:List Int) (hW:W.length≤3000) (hv:v.length≤3000) :
  (∃n,(isN y n∨(sg=true∧k+1=W.length∧isG y n))∧qAV W sg F (y::ys) k v=qAV W sg F ys (k+1) (v++[n]))∨
  ((∀n,¬isN y n)∧(sg=true→k+1=W.length→∀n,¬isG y n)∧qAV W sg F (y::ys) k v=some ([],false))∨(W.length<k+1):=by
 by_cases hk:W.length<k+1
 ·exact .inr (.inr hk)
 rw[qAV]
 obtain⟨m,m1,m2,m3,m4⟩:=qT0 y hy F (by omega)
 rw[bnd m1]
 rcases qME y hy F (by omega) with⟨c1,c2,c3⟩|⟨c1,c3⟩
 ·rw[bnd c3,dT (by omega),cW]
  by_cases h9:(qMT (toL y):Int)>9999
  ·rw[dT h9,Bool.true_or,cW]
   refine .inr (.inl ⟨fun n hn=>by have:=hn.2;omega,fun _ _ n hn=>?_,rfl⟩)
   rcases hn with hn|⟨t,t1,t2,_⟩
   ·have:=hn.2;omega
   ·exact qOQ t1 c1
  ·rw[dF h9,Bool.false_or,dF (by omega),cF,ndf (by omega) (by simp;omega),oB9]
   exact .inl ⟨_,.inl ⟨c1,rfl,by omega⟩,rfl⟩
 ·have hnN:∀n,¬isN y n:=fun n hn=>c1 ⟨hn.1,by have:=qK1 hn.1 3 (by have:=hn.2;omega);omega⟩
  rw[bnd c3,show decide ((-1:Int)≥0)=false from rfl,cF]
  cases hsg:sg
  ·simp only[Bool.not_false,Bool.true_or,Bool.not_true,qDY,oB9,cW]
   exact .inr (.inl ⟨hnN,(fun h=>by cases h),trivial⟩)
  simp only[Bool.not_true,Bool.false_or]
  rw[qAD (by omega)]
  by_cases hl:(k:Int)<(W.length:Int)-1
  ·rw[dT hl]
   simp only[Bool.true_or,Bool.not_true,qDY,oB9,cW]
   exact .inr (.inl ⟨hnN,fun _ h=>by omega,trivial⟩)
  rw[dF hl,Bool.false_or]
  by_cases h0:m≥0
  ·rw[dT h0]
   simp only[Bool.true_or,Bool.not_true,qDY,oB9,cW]
   refine .inr (.inl ⟨hnN,fun _ _ n hn=>?_,trivial⟩)
   rcases hn with hn|⟨t,t1,t2,t3,t4,t5⟩
   ·exact hnN n hn
   ·have:=m4 t t1 t2 (by have:=qK1 t2 3 (by omega);omega)
    omega
  ·rw[dF h0]
   obtain⟨t,t1,t2,t3,t4⟩:=m3 (by omega)
   obtain⟨q,q1,_,q2,_⟩:=qXS F hF m (by omega)
   rw[if_pos (by omega),show (-m).toNat=qMT t by omega,qUe _ t rfl t2]at q2
   have e:q=y:=qGJ (by rw[q2,t1])
   simp only[Bool.not_false,qCT,Bool.false_or]
   rw[bnd q1,dT e,Bool.not_true,cF]
   by_cases h9:m < -9999
   ·rw[dT h9,Bool.or_true,cW]
    refine .inr (.inl ⟨hnN,fun _ _ n hn=>?_,rfl⟩)
    rcases hn with hn|⟨t',s1,s2,s3,s4,s5⟩
    ·exact hnN n hn
    ·rw[t1]at s1
     rw[←(List.cons.inj s1).2]at s5
     omega
   ·rw[dF h9,Bool.or_false,dF (by omega),cF,ndf (by omega) (by simp;omega),oB9]
    exact .inl ⟨m,.inr ⟨trivial,by omega,.inr ⟨t,t1,t2,t3,t4,by omega⟩⟩,rfl⟩
end
section
theorem qOb (F:Nat) (hF:100<F) (S:ScriptState) (x5:List ByteArray) (x7:ByteArray) (x9:ByteArray×Bool) (sg:Bool) (W zs:List ByteArray) (d:Nat) (hW:W.length≤2500)
  (hform:∀i:Nat,i<W.length→qNo x9.1 ((i+d:Nat):Int)=some (if sg=true∧i+1=W.length then (103:UInt8) else 110)):∀(ys:List ByteArray) (k:Nat) (v v':List Int),k+ys.length=W.length→(∀y∈ys,y.size≤1048576)→v.length+ys.length≤2500→v'.length+ys.length≤2600→
  (∃L:List Int,L.length=ys.length∧(∀n∈L,-9999≤n∧n≤9999)∧(sg=false→∀n∈L,0≤n)∧qAV W sg F ys k v=some (v++L,true)∧qAA S F x5 x7 x9 (ys++zs) (k+d) v'=qAA S F x5 x7 x9 zs (W.length+d) (v'++L))∨
  (qAV W sg F ys k v=some ([],false)∧qAA S F x5 x7 x9 (ys++zs) (k+d) v'=some (S,⟨#[119,104,97,116]⟩)):=by
 intro ys
 induction ys with
 |nil =>
  intro k v v' hk _ _ _
  refine .inl ⟨[],rfl,by simp,by simp,by rw[qAV,List.append_nil],?_⟩
  rw[List.append_nil,List.nil_append,←hk];rfl
 |cons y ys ih =>
  intro k v v' hk hy hv hv'
  simp only[List.length_cons]at hk hv hv'
  have hyb:=hy y (by simp)
  have hst:=qR6 F hF W sg y hyb ys k v (by omega) (by omega)
  have hf:=hform k (by omega)
  have cont:∀n:Int,(-9999≤n∧n≤9999)→(sg=false→0≤n)→qAV W sg F (y::ys) k v=qAV W sg F ys (k+1) (v++[n])→qAA S F x5 x7 x9 (y::ys++zs) (k+d) v'=qAA S F x5 x7 x9 (ys++zs) (k+d+1) (v'++[n])→
    (∃L:List Int,L.length=(y::ys).length∧(∀n∈L,-9999≤n∧n≤9999)∧(sg=false→∀n∈L,0≤n)∧qAV W sg F (y::ys) k v=some (v++L,true)∧qAA S F x5 x7 x9 (y::ys++zs) (k+d) v'=qAA S F x5 x7 x9 zs (W.length+d) (v'++L))∨
    (qAV W sg F (y::ys) k v=some ([],false)∧qAA S F x5 x7 x9 (y::ys++zs) (k+d) v'=some (S,⟨#[119,104,97,116]⟩)):=fun n hb h0 e1 e2=>by
   rw[e1,e2]
   have:=ih (k+1) (v++[n]) (v'++[n]) (by omega) (fun z hz=>hy z (by simp[hz])) (by simp;omega) (by simp;omega)
   rw[show k+1+d=k+d+1 by omega]at this
   rcases this with⟨L,l1,l2,l3,l4,l5⟩|⟨a,b⟩
   ·refine .inl ⟨n::L,by simp[l1],fun z hz=>?_,fun hs z hz=>?_,by rw[l4,List.append_assoc];rfl,by rw[l5,List.append_assoc];rfl⟩
    ·rcases List.mem_cons.1 hz with rfl|hz
     ·exact hb
     ·exact l2 z hz
    ·rcases List.mem_cons.1 hz with rfl|hz
     ·exact h0 hs
     ·exact l3 hs z hz
   ·exact .inr ⟨a,b⟩
  by_cases hlast:sg=true∧k+1=W.length
  ·rw[if_pos hlast]at hf
   rcases qYt y hyb F (by omega) with⟨n,n1,n2⟩|⟨n1,q,n2⟩
   ·have e2:qAA S F x5 x7 x9 (y::ys++zs) (k+d) v'=qAA S F x5 x7 x9 (ys++zs) (k+d+1) (v'++[n]):=by
     rw[List.cons_append,qAA,bnd hf,show (((103:UInt8).toNat:Int))=103 from rfl,bnd n2,Bool.not_true,cF,ndf (by omega) (by simp;omega),oB9]
    rcases hst with⟨m,m1,m2⟩|⟨m1,m2,m3⟩|h
    ·have hm:isG y m:=m1.elim .inl fun h=>h.2.2
     have:m=n:=by
      rcases n1 with n1|⟨t,t1,t2,t3,_⟩
      ·rcases hm with hm|⟨t',s1,s2,_⟩
       ·rw[hm.2.1,n1.2.1]
       ·exact absurd n1.1 (qOQ s1)
      ·rcases hm with hm|⟨t',s1,s2,s3,_⟩
       ·exact absurd hm.1 (qOQ t1)
       ·rw[t1]at s1
        rw[s3,t3,(List.cons.inj s1).2]
     subst this
     exact cont m (qYZ hm) (fun h=>by rw[hlast.1]at h;cases h) m2 e2
    ·exact absurd n1 (m2 hlast.1 hlast.2 n)
    ·omega
   ·have e2:qAA S F x5 x7 x9 (y::ys++zs) (k+d) v'=some (S,⟨#[119,104,97,116]⟩):=by
     rw[List.cons_append,qAA,bnd hf,show (((103:UInt8).toNat:Int))=103 from rfl,bnd n2,Bool.not_false,cW]
    rcases hst with⟨m,m1,m2⟩|⟨m1,m2,m3⟩|h
    ·exact absurd (m1.elim .inl fun h=>h.2.2) (n1 m)
    ·exact .inr ⟨m3,e2⟩
    ·omega
  ·rw[if_neg hlast]at hf
   rcases qYx y hyb F (by omega) with⟨n,n1,n2⟩|⟨n1,q,n2⟩
   ·have e2:qAA S F x5 x7 x9 (y::ys++zs) (k+d) v'=qAA S F x5 x7 x9 (ys++zs) (k+d+1) (v'++[n]):=by
     rw[List.cons_append,qAA,bnd hf,show (((110:UInt8).toNat:Int))=110 from rfl,bnd n2,Bool.not_true,cF,ndf (by omega) (by simp;omega),oB9]
    rcases hst with⟨m,m1,m2⟩|⟨m1,m2,m3⟩|h
    ·rcases m1 with m1|m1
     ·obtain rfl:m=n:=by rw[m1.2.1,n1.2.1]
      have:=qWZ m1
      exact cont m (by omega) (fun _=>this.1) m2 e2
     ·exact absurd ⟨m1.1,m1.2.1⟩ hlast
    ·exact absurd n1 (m1 n)
    ·omega
   ·have e2:qAA S F x5 x7 x9 (y::ys++zs) (k+d) v'=some (S,⟨#[119,104,97,116]⟩):=by
     rw[List.cons_append,qAA,bnd hf,show (((110:UInt8).toNat:Int))=110 from rfl,bnd n2,Bool.not_false,cW]
    rcases hst with⟨m,m1,m2⟩|⟨m1,m2,m3⟩|h
    ·rcases m1 with m1|m1
     ·exact absurd m1 (n1 m)
     ·exact absurd ⟨m1.1,m1.2.1⟩ hlast
    ·exact .inr ⟨m3,e2⟩
    ·omega
def cs (S:ScriptState) (no wh:List Int) (ln:Int):CsState:=CsState.mk S.code S.performance S.factor S.results no wh ln
structure SGood (F:Nat) (S:ScriptState):Prop where
 val:Val F S.code S.performance
 fac:10≤S.factor∧S.factor≤400
 res:qPj S.results
def Alike (F:Nat) (S:ScriptState) (i:Option (ScriptState×ByteArray)) (s:CsState→Option (CsState×ByteArray)):Prop :=
 ∃S' r,i=some (S',r)∧(∀no wh ln,s (cs S no wh ln)=some (cs S' no wh ln,r))∧SGood F S'∧r.size≤1000
theorem Alike.stay {F:Nat} {S:ScriptState} {i:Option (ScriptState×ByteArray)} {s:CsState→Option (CsState×ByteArray)} (h:SGood F S) (r:ByteArray) (hr:r.size≤1000) (hi:i=some (S,r)) (hs:∀no wh ln,s (cs S no wh ln)=some (cs S no wh ln,r)):Alike F S i s :=
 ⟨S,r,hi,hs,h,hr⟩
theorem qNN (S:ScriptState) (c:Code) (b:Bool):qAp S c b=some (bif b then (ScriptState.mk c S.performance S.factor S.results,(⟨#[111,107]⟩:ByteArray)) else (S,⟨#[110,111]⟩)):=by cases b<;>rfl
end
section
theorem qSc {F:Nat} (hF:1048576<F) {c:Code} {p:Performance} (h:Val F c p):qFE c=some c:=by
 obtain⟨l5,l24⟩:=qLV hF h
 unfold qFE
 rw[ndf (by omega) (by omega),oB9,bnd (qST c.limits (by omega))]
theorem SGood.with {F:Nat} (hF:1048576<F) {S:ScriptState} (h:SGood F S):qAY S.performance S.performance.items=some S.performance :=
 qUg (h.val.perf hF).2.1 h.val.mg
theorem qWv {L:List Int} (h:L.length=4):∃a b c d,L=[a,b,c,d]:=by
 match L,h with
 | [a,b,c,d],_=>exact⟨a,b,c,d,rfl⟩
theorem qOO {L:List Int} (h:L.length=3):∃a b c,L=[a,b,c]:=by
 match L,h with
 | [a,b,c],_=>exact⟨a,b,c,rfl⟩
theorem qWS {L:List Int} (h:L.length=2):∃a b,L=[a,b]:=by
 match L,h with
 | [a,b],_=>exact⟨a,b,rfl⟩
theorem qSb {L:List Int} (h:L.length=1):∃a,L=[a]:=by
 match L,h with
 | [a],_=>exact⟨a,rfl⟩
theorem qPy {F:Nat} (hF:1048576<F) {S:ScriptState} (h:SGood F S) (c:Code) (hn:qRi c) (he:∀x∈S.code.elements,x∈c.elements) (i:Option (ScriptState×ByteArray)) (s:CsState→Option (CsState×ByteArray))
  (hi:∀b,qBG F c=some b→i=some (bif b then (ScriptState.mk c S.performance S.factor S.results,(⟨#[111,107]⟩:ByteArray)) else (S,⟨#[110,111]⟩)))
  (hs:∀no wh ln b,qBZ F c S.performance=some b→s (cs S no wh ln)=some (bif b then (CsState.mk c S.performance S.factor S.results no wh ln,(⟨#[111,107]⟩:ByteArray)) else (cs S no wh ln,⟨#[110,111]⟩))):Alike F S i s:=by
 obtain⟨e,e1,e2,e3,e4⟩:=h.val.code hF hn he
 have i1:=hi e e1
 cases e
 ·exact⟨S,_,i1,fun no wh ln=>hs no wh ln _ e3,h,by show (2:Nat)≤_;omega⟩
 ·exact⟨ScriptState.mk c S.performance S.factor S.results,_,i1,fun no wh ln=>hs no wh ln _ e3,⟨e4 rfl,h.fac,h.res⟩,by show (2:Nat)≤_;omega⟩
theorem qTj {F:Nat} (hF:1048576<F) {S:ScriptState} (h:SGood F S) {L:List Int} (hl:L.length=4):Alike F S (qAh F S ⟨#[114,117,108,101,115]⟩ L) (fun x=>qAE F x ⟨#[114,117,108,101,115]⟩ L):=by
 obtain⟨a,b,c,d,rfl⟩:=qWv hl
 obtain⟨l5,l24⟩:=qLV hF h.val
 refine qPy hF h (Code.mk S.code.elements S.code.limits a b c d) h.val.nc (fun x hx=>hx) _ _ (fun e he=>?_) (fun no wh ln e he=>?_)
 ·unfold qAh
  rw[ndf (by omega) (by omega),oB9,bnd (qQq hF h.val)]
  show ((qBG F (Code.mk S.code.elements S.code.limits a b c d)).bind fun x14=>(qAp S (Code.mk S.code.elements S.code.limits a b c d) x14).bind fun x16=>some (x16.1,x16.2))=_
  rw[bnd he,bnd (qNN S _ e)]
 ·show ((qAY S.performance S.performance.items).bind fun x1=>(qBQ F (cs S no wh ln) ⟨#[114,117,108,101,115]⟩ [a,b,c,d]).bind fun x7=>some (x7.1,x7.2))=_
  rw[bnd (h.with hF)]
  unfold qBQ
  rw[show qFE (cs S no wh ln).code=some S.code from qSc hF h.val]
  show ((((qAN F (cs S no wh ln) (Code.mk S.code.elements S.code.limits a b c d) S.performance).bind fun x12=>some (x12.1,x12.2))).bind fun x7=>some (x7.1,x7.2))=_
  rw[bnd (qKH he)]
  cases e<;>rfl
theorem qUr {F:Nat} (hF:1048576<F) {S:ScriptState} (h:SGood F S) {L:List Int} (hl:L.length=2) (h0:∀n∈L,0≤n):Alike F S (qAh F S ⟨#[108,105,109,105,116]⟩ L) (fun x=>qAE F x ⟨#[108,105,109,105,116]⟩ L):=by
 obtain⟨a,b,rfl⟩:=qWS hl
 have ha:=h0 a (by simp)
 obtain⟨l5,l24⟩:=qLV hF h.val
 have hi0:qAh F S ⟨#[108,105,109,105,116]⟩ [a,b]=(qE2 a).bind fun x20=>cond (!x20) (some (S,(⟨#[110,111]⟩:ByteArray))) ((qAT S.code.limits a).bind fun x24=>(qBG F (Code.mk S.code.elements (S.code.limits.set a.toNat b) S.code.repeats S.code.bonus S.code.keeps S.code.fall)).bind fun x26=>(qAp S (Code.mk S.code.elements (S.code.limits.set a.toNat b) S.code.repeats S.code.bonus S.code.keeps S.code.fall) x26).bind fun x28=>some (x28.1,x28.2)):=by
  unfold qAh
  rw[ndf (by omega) (by omega),oB9,bnd (qQq hF h.val)]
  rfl
 have hs0:∀no wh ln,qAE F (cs S no wh ln) ⟨#[108,105,109,105,116]⟩ [a,b]=(cond (decide (a≥5)) (some (cs S no wh ln,(⟨#[110,111]⟩:ByteArray))) ((qAT S.code.limits a).bind fun x18=>(qAN F (cs S no wh ln) (Code.mk S.code.elements (S.code.limits.set a.toNat b) S.code.repeats S.code.bonus S.code.keeps S.code.fall) S.performance).bind fun x20=>some (x20.1,x20.2))).bind fun x7=>some (x7.1,x7.2):=fun no wh ln=>by
  show ((qAY S.performance S.performance.items).bind fun x1=>(qBQ F (cs S no wh ln) ⟨#[108,105,109,105,116]⟩ [a,b]).bind fun x7=>some (x7.1,x7.2))=_
  rw[bnd (h.with hF)]
  unfold qBQ
  rw[show qFE (cs S no wh ln).code=some S.code from qSc hF h.val]
  rfl
 unfold qE2 at hi0
 obtain⟨f,f1,_,f2⟩:=qEw a 0 4
 rw[f1,oB9,oB9]at hi0
 by_cases h5:a≥5
 ·have:f=false:=by cases f;rfl;have:=f2.1 rfl;omega
  subst this
  refine Alike.stay h _ (by show (2:Nat)≤_;omega) hi0 (fun no wh ln=>?_)
  rw[hs0,dT h5];rfl
 ·have:f=true:=f2.2 (by omega)
  subst this
  obtain⟨n,rfl⟩:=Int.eq_ofNat_of_zero_le ha
  have hg:qAT S.code.limits (n:Int)=some (S.code.limits[n]'(by omega)):=by rw[qEu rfl];exact List.getElem?_eq_getElem _
  refine qPy hF h (Code.mk S.code.elements (S.code.limits.set (n:Int).toNat b) S.code.repeats S.code.bonus S.code.keeps S.code.fall) h.val.nc (fun x hx=>hx) _ _ (fun e he=>?_) (fun no wh ln e he=>?_)
  ·rw[hi0,Bool.not_true,cF,bnd hg,bnd he,bnd (qNN S _ e)]
  ·rw[hs0,dF h5,cF,bnd hg,bnd (qKH he)]
   cases e<;>rfl
theorem qXu (F:Nat) (j:Nat) (hj:j≤9) (g:List (List Int)):∀(n fl:Nat) (v:List (List Int)),v.length+n=3→n<fl→v=List.replicate v.length (List.replicate j (0:Int))→
  qEK (j:Int) g fl v (v.length:Int)=some (Marks.mk g (List.replicate 3 (List.replicate j (0:Int))))∧qBo (j:Int) g fl v (v.length:Int)=some (Marks.mk g (List.replicate 3 (List.replicate j (0:Int)))):=by
 intro n
 induction n with
 |zero =>
  intro fl v h hf hv
  obtain⟨f,rfl⟩:=nZ9 (by omega:fl≠0)
  rw[qEK,qBo,dF (by omega),cF,cF]
  have:v=List.replicate 3 (List.replicate j (0:Int)):=by rw[hv,show v.length=3 by omega]
  rw[this];exact⟨rfl,rfl⟩
 |succ n ih =>
  intro fl v h hf hv
  obtain⟨f,rfl⟩:=nZ9 (by omega:fl≠0)
  obtain⟨a,b⟩:=ih f (v++[List.replicate j (0:Int)]) (by simp;omega) (by omega) (by
   rw[List.length_append,List.length_singleton,List.replicate_succ',←hv])
  rw[List.length_append,List.length_singleton]at a b
  rw[qEK,qBo,dT (by omega),cW,cW,dT (by omega),Int.toNat_natCast,qRp (by omega) (by omega),Bool.true_and,qD1,oB9,oB9,ndf (by omega) (by simp;omega),oB9,oB9,qAD (by omega),show (v.length:Int)+1=((v.length+1:Nat):Int) by omega]
  exact⟨a,b⟩
def qMH (k j:Nat):Marks:=Marks.mk (List.replicate k (List.replicate j (0:Int))) (List.replicate 3 (List.replicate j (0:Int)))
theorem qYE (j:Nat) (hj:j≤9):∀(n fl:Nat) (v:List (List Int)),v.length+n≤1000→n<fl→qEL (j:Int) fl (n:Int) v=some (v++List.replicate n (List.replicate j (0:Int))):=by
 intro n
 induction n with
 |zero =>
  intro fl v _ hf
  obtain⟨f,rfl⟩:=nZ9 (by omega:fl≠0)
  rw[qEL,dF (by omega),cF]
  simp
 |succ n ih =>
  intro fl v h hf
  obtain⟨f,rfl⟩:=nZ9 (by omega:fl≠0)
  rw[qEL,dT (by omega),cW,dT (by omega),Int.toNat_natCast,qRp (by omega) (by omega),Bool.true_and,qD1,oB9,ndf (by omega) (by simp;omega),oB9,qAD (by omega),show ((n+1:Nat):Int)-1=(n:Int) by omega,ih f _ (by simp;omega) (by omega),List.replicate_succ,List.append_assoc]
  rfl
theorem qX4 (F:Nat) (k j:Nat) (hk:k≤1000) (hj:j≤9):∀(n fl:Nat) (v:List (List Int)),v.length+n=k→n<fl→qCd (k:Int) (j:Int) F fl v (v.length:Int)=qBo (j:Int) (v++List.replicate n (List.replicate j (0:Int))) F [] 0:=by
 intro n
 induction n with
 |zero =>
  intro fl v h hf
  obtain⟨f,rfl⟩:=nZ9 (by omega:fl≠0)
  rw[qCd,dF (by omega),cF]
  simp
 |succ n ih =>
  intro fl v h hf
  obtain⟨f,rfl⟩:=nZ9 (by omega:fl≠0)
  have:=ih f (v++[List.replicate j (0:Int)]) (by simp;omega) (by omega)
  rw[List.length_append,List.length_singleton,List.append_assoc]at this
  rw[qCd,dT (by omega),cW,dT (by omega),Int.toNat_natCast,qRp (by omega) (by omega),Bool.true_and,qD1,oB9,ndf (by omega) (by simp;omega),oB9,qAD (by omega),show (v.length:Int)+1=((v.length+1:Nat):Int) by omega,this,List.replicate_succ]
  rfl
theorem qTZ (F:Nat) (hF:1048576<F) (k:Nat) (hk:k≤1000) (j:Int) (hj:0≤j∧j≤9):qDD F (k:Int) j=some (qMH k j.toNat)∧qC1 F (k:Int) j=some (qMH k j.toNat):=by
 obtain⟨n,rfl⟩:=Int.eq_ofNat_of_zero_le hj.1
 unfold qDD qC1
 have e:=qX4 F k n hk (by omega) k F [] (by simp) (by omega)
 rw[show ((([]:List (List Int)).length:Nat):Int)=0 from rfl]at e
 rw[bnd (qYE n (by omega) k F [] (by simpa using hk) (by omega)),e]
 exact qXu F n (by omega) _ 3 F [] rfl (by omega) rfl
theorem qMQ (F:Nat) (hF:1048576<F) (k:Nat) (hk:k≤1000) (j:Int) (hj:0≤j∧j≤9):∃m,qDD F (k:Int) j=some m:=⟨_,(qTZ F hF k hk j hj).1⟩
theorem qOd (k j:Nat) (hk:k≤14):qG2 (qMH k j)↔3≤j∧j≤9:=by
 constructor
 ·rintro⟨_,_,r,r1,r2,_⟩
  have:r=List.replicate j (0:Int):=(Option.some.inj r1).symm
  rw[this,List.length_replicate]at r2
  exact r2
 ·intro hj
  refine⟨by simp[qMH];exact hk,by simp[qMH],List.replicate j (0:Int),rfl,by simpa using hj,fun l hl=>?_,fun l hl=>?_⟩
  ·obtain rfl:=List.eq_of_mem_replicate hl
   exact⟨rfl,fun x hx=>by rw[List.eq_of_mem_replicate hx];omega⟩
  ·obtain rfl:=List.eq_of_mem_replicate hl
   exact⟨rfl,fun x hx=>by rw[List.eq_of_mem_replicate hx];exact⟨by omega,rfl⟩⟩
theorem SGood.marks {F:Nat} {S:ScriptState} (h:SGood F S) {m:Marks} (hm:qG2 m) (hl:m.grades.length=S.performance.items.length):SGood F (ScriptState.mk S.code (Performance.mk S.performance.items m S.performance.slips) S.factor S.results) :=
 ⟨⟨h.val.nc,h.val.nb,h.val.cs,h.val.ci,h.val.is,h.val.ii,h.val.ks,h.val.ki,hm,hl,h.val.sg⟩,h.fac,h.res⟩
theorem qTV {F:Nat} (hF:1048576<F) {S:ScriptState} (h:SGood F S) {L:List Int} (hl:L.length=3):Alike F S (qAO F S ⟨#[103,114,97,100,101]⟩ L) (fun x=>qAE F x ⟨#[103,114,97,100,101]⟩ L):=by
 obtain⟨a,b,c,rfl⟩:=qOO hl
 obtain⟨r,r1,r2,r3⟩:=qTA h.val.mg a b c
 have hi0:qAO F S ⟨#[103,114,97,100,101]⟩ [a,b,c]=(qFy S.performance.marks a b c).bind fun x23=>cond x23.2 ((qBC x23.2).bind fun x25=>some ((ScriptState.mk S.code (Performance.mk S.performance.items x23.1 S.performance.slips) S.factor S.results),x25)) ((qBC x23.2).bind fun x27=>some (S,x27)):=rfl
 have hs0:∀no wh ln,qAE F (cs S no wh ln) ⟨#[103,114,97,100,101]⟩ [a,b,c]=((qFt S.performance.marks a b c).bind fun x19=>cond (!x19.2) (some (cs S no wh ln,(⟨#[110,111]⟩:ByteArray))) ((qAN F (cs S no wh ln) S.code (Performance.mk S.performance.items x19.1 S.performance.slips)).bind fun x21=>some (x21.1,x21.2))).bind fun x7=>some (x7.1,x7.2):=fun no wh ln=>by
  show ((qAY S.performance S.performance.items).bind fun x1=>(qAd F (cs S no wh ln) ⟨#[103,114,97,100,101]⟩ [a,b,c]).bind fun x7=>some (x7.1,x7.2))=_
  rw[bnd (h.with hF)]
  unfold qAd
  rw[show qAY (cs S no wh ln).p (cs S no wh ln).p.items=some S.performance from h.with hF,oB9]
  obtain⟨m0,m1⟩:=qMQ F hF S.performance.items.length (by have:=(h.val.perf hF).2.1.1;omega) 3 (by omega)
  rw[bnd m1]
  rfl
 rw[bnd r2]at hi0
 cases hr:r.2
 ·rw[hr]at hi0
  refine Alike.stay h _ (by show (2:Nat)≤_;omega) hi0 (fun no wh ln=>?_)
  rw[hs0,bnd r1,hr];rfl
 ·rw[hr]at hi0
  obtain⟨g1,g2⟩:=r3 hr
  have hg:=h.marks g1 (by rw[g2];exact h.val.ln)
  refine⟨_,_,hi0,fun no wh ln=>?_,hg,by show (2:Nat)≤_;omega⟩
  refine(hs0 no wh ln).trans ?_
  rw[bnd r1,hr,Bool.not_true,cF,bnd (qKH hg.val.good.1)];rfl
theorem qQR {F:Nat} (hF:1048576<F) {S:ScriptState} (h:SGood F S) {L:List Int} (hl:L.length=3):Alike F S (qAO F S ⟨#[99,111,109,112,111,110,101,110,116]⟩ L) (fun x=>qAE F x ⟨#[99,111,109,112,111,110,101,110,116]⟩ L):=by
 obtain⟨a,b,c,rfl⟩:=qOO hl
 obtain⟨r,r1,r2,r3⟩:=qPb h.val.mg a b c
 have hi0:qAO F S ⟨#[99,111,109,112,111,110,101,110,116]⟩ [a,b,c]=(qEM S.performance.marks a b c).bind fun x23=>cond x23.2 ((qBC x23.2).bind fun x25=>some ((ScriptState.mk S.code (Performance.mk S.performance.items x23.1 S.performance.slips) S.factor S.results),x25)) ((qBC x23.2).bind fun x27=>some (S,x27)):=rfl
 have hs0:∀no wh ln,qAE F (cs S no wh ln) ⟨#[99,111,109,112,111,110,101,110,116]⟩ [a,b,c]=((qEF S.performance.marks a b c).bind fun x19=>cond (!x19.2) (some (cs S no wh ln,(⟨#[110,111]⟩:ByteArray))) ((qAN F (cs S no wh ln) S.code (Performance.mk S.performance.items x19.1 S.performance.slips)).bind fun x21=>some (x21.1,x21.2))).bind fun x7=>some (x7.1,x7.2):=fun no wh ln=>by
  show ((qAY S.performance S.performance.items).bind fun x1=>(qAd F (cs S no wh ln) ⟨#[99,111,109,112,111,110,101,110,116]⟩ [a,b,c]).bind fun x7=>some (x7.1,x7.2))=_
  rw[bnd (h.with hF)]
  unfold qAd
  rw[show qAY (cs S no wh ln).p (cs S no wh ln).p.items=some S.performance from h.with hF,oB9]
  obtain⟨m0,m1⟩:=qMQ F hF S.performance.items.length (by have:=(h.val.perf hF).2.1.1;omega) 3 (by omega)
  rw[bnd m1]
  rfl
 rw[bnd r2]at hi0
 cases hr:r.2
 ·rw[hr]at hi0
  refine Alike.stay h _ (by show (2:Nat)≤_;omega) hi0 (fun no wh ln=>?_)
  rw[hs0,bnd r1,hr];rfl
 ·rw[hr]at hi0
  obtain⟨g1,g2⟩:=r3 hr
  have hg:=h.marks g1 (by rw[g2];exact h.val.ln)
  refine⟨_,_,hi0,fun no wh ln=>?_,hg,by show (2:Nat)≤_;omega⟩
  refine(hs0 no wh ln).trans ?_
  rw[bnd r1,hr,Bool.not_true,cF,bnd (qKH hg.val.good.1)];rfl
theorem qSz {F:Nat} (hF:1048576<F) {S:ScriptState} (h:SGood F S) {L:List Int} (hl:L.length=1) (h0:∀n∈L,0≤n):Alike F S (qAO F S ⟨#[106,117,100,103,101,115]⟩ L) (fun x=>qAE F x ⟨#[106,117,100,103,101,115]⟩ L):=by
 obtain⟨a,rfl⟩:=qSb hl
 have ha:=h0 a (by simp)
 have h14:=(h.val.perf hF).2.1.1
 obtain⟨f,f1,_,f2⟩:=qEw a 3 9
 have hs0:∀no wh ln,qAE F (cs S no wh ln) ⟨#[106,117,100,103,101,115]⟩ [a]=(cond (decide (a>9)) (some (cs S no wh ln,(⟨#[110,111]⟩:ByteArray))) ((qDD F (S.performance.items.length:Int) a).bind fun x8=>(qAN F (cs S no wh ln) S.code (Performance.mk S.performance.items x8 S.performance.slips)).bind fun x21=>some (x21.1,x21.2))).bind fun x7=>some (x7.1,x7.2):=fun no wh ln=>by
  show ((qAY S.performance S.performance.items).bind fun x1=>(qAd F (cs S no wh ln) ⟨#[106,117,100,103,101,115]⟩ [a]).bind fun x7=>some (x7.1,x7.2))=_
  rw[bnd (h.with hF)]
  unfold qAd
  rw[show qAY (cs S no wh ln).p (cs S no wh ln).p.items=some S.performance from h.with hF,oB9]
  obtain⟨m0,m1⟩:=qMQ F hF S.performance.items.length (by omega) 3 (by omega)
  rw[bnd m1]
  rfl
 have hi0:qAO F S ⟨#[106,117,100,103,101,115]⟩ [a]=cond f ((qC1 F (S.performance.items.length:Int) a).bind fun x6=>some ((ScriptState.mk S.code (Performance.mk S.performance.items x6 S.performance.slips) S.factor S.results),⟨#[111,107]⟩)) (some (S,⟨#[110,111]⟩)):=by
  unfold qAO
  rw[dT rfl,cW,show qAT [a] 0=some a from rfl,oB9,bnd f1]
  cases f<;>rfl
 by_cases h9:a>9
 ·have:f=false:=by cases f;rfl;have:=f2.1 rfl;omega
  subst this
  refine Alike.stay h _ (by show (2:Nat)≤_;omega) hi0 (fun no wh ln=>?_)
  rw[hs0,dT h9];rfl
 ·obtain⟨z1,z2⟩:=qTZ F hF S.performance.items.length (by omega) a (by omega)
  have hz:=qOd S.performance.items.length a.toNat h14
  obtain⟨m,m1,m2,m3⟩:=qHf (qMH S.performance.items.length a.toNat)
  obtain⟨q,q1,q2,q3⟩:=qJp S.performance.slips
  obtain rfl:=q3.2 h.val.sg
  have hg:=qJn (F:=F) (p:=Performance.mk S.performance.items (qMH S.performance.items.length a.toNat) S.performance.slips) h.val.cs h.val.is h.val.ks m2 q2
  rw[show ((((Performance.mk S.performance.items (qMH S.performance.items.length a.toNat) S.performance.slips)).marks.grades.length:Int)==((Performance.mk S.performance.items (qMH S.performance.items.length a.toNat) S.performance.slips).items.length:Int))=true from by simp[qMH]]at hg
  simp only[Bool.and_true,Bool.true_and]at hg
  have hs1:∀no wh ln,qAE F (cs S no wh ln) ⟨#[106,117,100,103,101,115]⟩ [a]=some (bif m then (CsState.mk S.code (Performance.mk S.performance.items (qMH S.performance.items.length a.toNat) S.performance.slips) S.factor S.results no wh ln,(⟨#[111,107]⟩:ByteArray)) else (cs S no wh ln,⟨#[110,111]⟩)):=fun no wh ln=>by
   rw[hs0,dF h9,cF,bnd z1,bnd (qKH hg)]
   cases m<;>rfl
  rw[bnd z2]at hi0
  have hfm:f=m:=Bool.eq_iff_iff.2 (f2.trans (by rw[m3,hz];omega))
  subst hfm
  cases f
  ·exact Alike.stay h _ (by show (2:Nat)≤_;omega) hi0 hs1
  ·exact⟨_,_,hi0,hs1,h.marks (m3.1 rfl) (by simp[qMH]),by show (2:Nat)≤_;omega⟩
theorem qU0 {F:Nat} (hF:1048576<F) {S:ScriptState} (h:SGood F S) {L:List Int} (hl:L.length=3):Alike F S (qAI F S ⟨#[115,108,105,112,115]⟩ L) (fun x=>qAE F x ⟨#[115,108,105,112,115]⟩ L):=by
 obtain⟨a,b,c,rfl⟩:=qOO hl
 obtain⟨q,q1,q2,q3⟩:=qJp (Slips.mk a b c)
 obtain⟨m,m1,m2,m3⟩:=qHf S.performance.marks
 obtain rfl:=m3.2 h.val.mg
 have hg:=qJn (F:=F) (p:=Performance.mk S.performance.items S.performance.marks (Slips.mk a b c)) h.val.cs h.val.is h.val.ks m2 q2
 rw[show ((((Performance.mk S.performance.items S.performance.marks (Slips.mk a b c))).marks.grades.length:Int)==((Performance.mk S.performance.items S.performance.marks (Slips.mk a b c)).items.length:Int))=true from by show (((S.performance.marks.grades.length:Nat):Int)==((S.performance.items.length:Nat):Int))=true;rw[h.val.ln];exact beq_self_eq_true _]at hg
 simp only[Bool.and_true,Bool.true_and]at hg
 have hs1:∀no wh ln,qAE F (cs S no wh ln) ⟨#[115,108,105,112,115]⟩ [a,b,c]=some (bif q then (CsState.mk S.code (Performance.mk S.performance.items S.performance.marks (Slips.mk a b c)) S.factor S.results no wh ln,(⟨#[111,107]⟩:ByteArray)) else (cs S no wh ln,⟨#[110,111]⟩)):=fun no wh ln=>by
  show ((qAY S.performance S.performance.items).bind fun x1=>(qAN F (cs S no wh ln) S.code (Performance.mk x1.items x1.marks (Slips.mk a b c))).bind fun x25=>some (x25.1,x25.2))=_
  rw[bnd (h.with hF),bnd (qKH hg)]
  cases q<;>rfl
 have hi0:qAI F S ⟨#[115,108,105,112,115]⟩ [a,b,c]=some (bif q then (ScriptState.mk S.code (Performance.mk S.performance.items S.performance.marks (Slips.mk a b c)) S.factor S.results,(⟨#[111,107]⟩:ByteArray)) else (S,⟨#[110,111]⟩)):=by
  show ((qEH (Slips.mk a b c)).bind fun x19=>cond (!x19) (some (S,(⟨#[110,111]⟩:ByteArray))) (some ((ScriptState.mk S.code (Performance.mk S.performance.items S.performance.marks (Slips.mk a b c)) S.factor S.results),(⟨#[111,107]⟩:ByteArray))))=_
  rw[bnd q1]
  cases q<;>rfl
 cases q
 ·exact Alike.stay h _ (by show (2:Nat)≤_;omega) hi0 hs1
 ·exact⟨_,_,hi0,hs1,⟨⟨h.val.nc,h.val.nb,h.val.cs,h.val.ci,h.val.is,h.val.ii,h.val.ks,h.val.ki,h.val.mg,h.val.ln,q3.1 rfl⟩,h.fac,h.res⟩,by show (2:Nat)≤_;omega⟩
theorem qTL {F:Nat} (hF:1048576<F) {S:ScriptState} (h:SGood F S) {L:List Int} (hl:L.length=1):Alike F S (qAI F S ⟨#[102,97,99,116,111,114]⟩ L) (fun x=>qAE F x ⟨#[102,97,99,116,111,114]⟩ L):=by
 obtain⟨a,rfl⟩:=qSb hl
 obtain⟨f,f1,f2,f3⟩:=qEw a 10 400
 have hs1:∀no wh ln,qAE F (cs S no wh ln) ⟨#[102,97,99,116,111,114]⟩ [a]=some (bif f then (CsState.mk S.code S.performance a S.results no wh ln,(⟨#[111,107]⟩:ByteArray)) else (cs S no wh ln,⟨#[110,111]⟩)):=fun no wh ln=>by
  show ((qAY S.performance S.performance.items).bind fun x1=>(qE7 a).bind fun x30=>cond (!x30) (some (cs S no wh ln,(⟨#[110,111]⟩:ByteArray))) (some ((CsState.mk S.code S.performance a S.results no wh ln),(⟨#[111,107]⟩:ByteArray))))=_
  unfold qE7
  rw[bnd (h.with hF),f2,oB9,oB9]
  cases f<;>rfl
 have hi0:qAI F S ⟨#[102,97,99,116,111,114]⟩ [a]=some (bif f then (ScriptState.mk S.code S.performance a S.results,(⟨#[111,107]⟩:ByteArray)) else (S,⟨#[110,111]⟩)):=by
  show ((qE9 a).bind fun x24=>cond (!x24) (some (S,(⟨#[110,111]⟩:ByteArray))) (some ((ScriptState.mk S.code S.performance a S.results),(⟨#[111,107]⟩:ByteArray))))=_
  unfold qE9
  rw[f1,oB9,oB9]
  cases f<;>rfl
 cases f
 ·exact Alike.stay h _ (by show (2:Nat)≤_;omega) hi0 hs1
 ·exact⟨_,_,hi0,hs1,⟨h.val,f3.1 rfl,h.res⟩,by show (2:Nat)≤_;omega⟩
end
end Go.Proofs.YtkidpkmpnbibmaaGreatDoor

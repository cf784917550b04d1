/- Plain lemmas: what the functions compute is what the reference says, in plain Lean. No condition. -/
import Derived.Test.YtegdphhfimaieabGreatPEvent5
set_option maxRecDepth 4000
set_option maxHeartbeats 1000000
set_option linter.unusedVariables false
set_option linter.unusedSimpArgs false
set_option linter.unusedSectionVars false

namespace Go.Proofs.YtegdphhfimaieabGreat
open Go.AM

def sg (d:Int):Int:=if d > 0 then 1 else if d < 0 then -1 else 0
theorem signOf_eq (d:Int):impl_signOf_p d=some (sg d):=by
 unfold impl_signOf_p sg
 by_cases h:d > 0
 ·rw [decide_eq_true h,if_pos h];rfl
 ·rw [decide_eq_false h,if_neg h]
  by_cases k:d < 0
  ·rw [decide_eq_true k,if_pos k];rfl
  ·rw [decide_eq_false k,if_neg k];rfl
theorem l1Sign_eq (d:Int):spec_l1Sign_p d=some (sg d):=by
 unfold spec_l1Sign_p sg
 by_cases h:d > 0
 ·rw [decide_eq_true h,if_pos h];rfl
 ·rw [decide_eq_false h,if_neg h]
  by_cases k:d < 0
  ·rw [decide_eq_true k,if_pos k];rfl
  ·rw [decide_eq_false k,if_neg k];rfl
theorem sg_congr {a b:Int} (h1:a > 0↔b > 0) (h2:a < 0↔b < 0):sg a=sg b:=by
 unfold sg
 by_cases h:a > 0
 ·rw [if_pos h,if_pos (h1.1 h)]
 ·rw [if_neg h,if_neg fun k=>h (h1.2 k)]
  by_cases k:a < 0
  ·rw [if_pos k,if_pos (h2.1 k)]
  ·rw [if_neg k,if_neg fun q=>k (h2.2 q)]
def pk:List Int→Int
 | []=>0
 | x::l=>(x+1)+1000000 * pk l
def scOk (l:List Int):Prop:=∀ n ∈ l,-1 ≤ n∧n ≤ 100000
theorem cmpF (F:Nat→Int→Option Int) (S:Int→Option Int) (sa sb:List Int) (hF:∀ k v,F (k+1) v=cond (decide (v ≥ 0)) ((getI sa v).bind fun x=>(getI sb v).bind fun y=>cond (x != y) ((S (w64 (x - y))).bind fun z=>some z) (F k (w64 (v - 1)))) (some 0))
  (hS:∀ d,S d=some (sg d)) (hl:sa.length=sb.length) (h3:sa.length ≤ 3) (ha:scOk sa) (hb:scOk sb) (fuel:Nat) (hf:5 < fuel):F fuel (w64 ((sa.length:Int) - 1))=some (sg (pk sa - pk sb)):=by
 have step:∀ (k:Nat) (i:Nat) (x y:Int),getI sa (i:Int)=some x→getI sb (i:Int)=some y→(-1 ≤ x∧x ≤ 100000)→(-1 ≤ y∧y ≤ 100000)→i ≤ 3 →
   F (k+1) (i:Int)=if x=y then F k ((i:Int) - 1) else some (sg (x - y)):=by
  intro k i x y h1 h2 h3 h4 h5
  rw [hF,decide_eq_true (by omega),cond_true,bnd h1,bnd h2,w64_in (by omega),w64_in (by omega)]
  by_cases h:x=y
  ·rw [if_pos h,show (x != y)=false from by simp [h],cond_false]
  ·rw [if_neg h,show (x != y)=true from by simp [h],cond_true,hS];rfl
 have last:∀ k,F (k+1) (-1)=some 0:=fun k=>by rw [hF];rfl
 obtain ⟨f,rfl⟩:∃ f,fuel=f+5:=⟨fuel - 5,by omega⟩
 match sa,sb,hl,h3,ha,hb,step with
 | [],[],_,_,_,_,_ =>
  rw [show w64 ((([]:List Int).length:Int) - 1)=-1 from by rw [w64_in (by simp)];simp,last];rfl
 | [a],[b],_,_,ha,hb,step =>
  have a1:=ha a (by simp)
  have b1:=hb b (by simp)
  rw [show w64 ((([a]:List Int).length:Int) - 1)=((0:Nat):Int) from by rw [w64_in (by simp)];simp,step (f+4) 0 a b rfl rfl a1 b1 (by omega)]
  by_cases h:a=b
  ·rw [if_pos h,show ((0:Nat):Int) - 1=-1 from rfl,last (f+3),h];simp [sg]
  ·rw [if_neg h];congr 1;refine sg_congr ?_ ?_ <;> simp only [pk] <;> omega
 | [a,a'],[b,b'],_,_,ha,hb,step =>
  have a1:=ha a (by simp)
  have b1:=hb b (by simp)
  have a2:=ha a' (by simp)
  have b2:=hb b' (by simp)
  rw [show w64 ((([a,a']:List Int).length:Int) - 1)=((1:Nat):Int) from by rw [w64_in (by simp)];simp,step (f+4) 1 a' b' rfl rfl a2 b2 (by omega)]
  by_cases h':a'=b'
  ·rw [if_pos h',show ((1:Nat):Int) - 1=((0:Nat):Int) from rfl,step (f+3) 0 a b rfl rfl a1 b1 (by omega)]
   by_cases h:a=b
   ·rw [if_pos h,show ((0:Nat):Int) - 1=-1 from rfl,last (f+2),h,h'];simp [sg]
   ·rw [if_neg h];congr 1;refine sg_congr ?_ ?_ <;> simp only [pk] <;> omega
  ·rw [if_neg h'];congr 1;refine sg_congr ?_ ?_ <;> simp only [pk] <;> omega
 | [a,a',a''],[b,b',b''],_,_,ha,hb,step =>
  have a1:=ha a (by simp)
  have b1:=hb b (by simp)
  have a2:=ha a' (by simp)
  have b2:=hb b' (by simp)
  have a3:=ha a'' (by simp)
  have b3:=hb b'' (by simp)
  rw [show w64 ((([a,a',a'']:List Int).length:Int) - 1)=((2:Nat):Int) from by rw [w64_in (by simp)];simp,step (f+4) 2 a'' b'' rfl rfl a3 b3 (by omega)]
  by_cases h'':a''=b''
  ·rw [if_pos h'',show ((2:Nat):Int) - 1=((1:Nat):Int) from rfl,step (f+3) 1 a' b' rfl rfl a2 b2 (by omega)]
   by_cases h':a'=b'
   ·rw [if_pos h',show ((1:Nat):Int) - 1=((0:Nat):Int) from rfl,step (f+2) 0 a b rfl rfl a1 b1 (by omega)]
    by_cases h:a=b
    ·rw [if_pos h,show ((0:Nat):Int) - 1=-1 from rfl,last (f+1),h,h',h''];simp [sg]
    ·rw [if_neg h];congr 1;refine sg_congr ?_ ?_ <;> simp only [pk] <;> omega
   ·rw [if_neg h'];congr 1;refine sg_congr ?_ ?_ <;> simp only [pk] <;> omega
  ·rw [if_neg h''];congr 1;refine sg_congr ?_ ?_ <;> simp only [pk] <;> omega
 | [],_::_,hl,_,_,_,_=>simp at hl
 | _::_,[],hl,_,_,_,_=>simp at hl
 | [_],_::_::_,hl,_,_,_,_=>simp at hl
 | _::_::_,[_],hl,_,_,_,_=>simp at hl
 | [_,_],_::_::_::_,hl,_,_,_,_=>simp at hl
 | _::_::_::_,[_,_],hl,_,_,_,_=>simp at hl
 | [_,_,_],_::_::_::_::_,hl,_,_,_,_=>simp at hl
 | _::_::_::_::_,_,_,h3,_,_,_=>simp at h3
theorem pk_le:∀ (l:List Int),l.length ≤ 3→scOk l→0 ≤ pk l∧pk l < 1000000000000000000
 | [],_,_=>by simp [pk]
 | [a],_,h=>by have:=h a (by simp);simp only [pk];omega
 | [a,b],_,h=>by have:=h a (by simp);have:=h b (by simp);simp only [pk];omega
 | [a,b,c],_,h=>by have:=h a (by simp);have:=h b (by simp);have:=h c (by simp);simp only [pk];omega
 | _::_::_::_::_,h,_=>by simp at h
theorem tot_le:∀ (l:List Int) (a b:Int) (A B:Int),scOk l→0 ≤ a→a ≤ A→0 ≤ b→b ≤ B→A+100000 * (l.length:Int) ≤ 1000000→B+(l.length:Int) ≤ 1000 →
  0 ≤ (l.foldl stepT (a,b)).1∧(l.foldl stepT (a,b)).1 ≤ A+100000 * (l.length:Int)∧0 ≤ (l.foldl stepT (a,b)).2∧(l.foldl stepT (a,b)).2 ≤ B+(l.length:Int):=by
 intro l
 induction l with
 | nil=>intro a b A B _ h1 h2 h3 h4 _ _;simp;omega
 | cons y l ih =>
  intro a b A B hs h1 h2 h3 h4 h5 h6
  have hy:=hs y (by simp)
  have hs':scOk l:=fun n hn=>hs n (by simp [hn])
  simp only [List.length_cons] at h5 h6 ⊢
  rw [List.foldl_cons]
  by_cases h:y ≥ 0
  ·rw [show stepT (a,b) y=(w64 (a+y),w64 (b+1)) from if_pos h,w64_in (by omega),w64_in (by omega)]
   have:=ih (a+y) (b+1) (A+100000) (B+1) hs' (by omega) (by omega) (by omega) (by omega) (by omega) (by omega)
   omega
  ·rw [show stepT (a,b) y=(a,b) from if_neg h]
   have:=ih a b A B hs' h1 h2 h3 h4 (by omega) (by omega)
   omega
def keyR (r:Result):Int:=(totR r).2 * 1000000000000000000000000000000+(totR r).1 * 100000000000000000000+pk r.scores
def okR (r:Result):Prop:=r.scores.length ≤ 3∧scOk r.scores
theorem key_cmp {a b:Result} (ha:okR a) (hb:okR b) (hl:a.scores.length=b.scores.length) (o:Option Int) (ho:o=some (sg (pk a.scores - pk b.scores))) (S:Int→Option Int) (hS:∀ d,S d=some (sg d)) :
  (cond ((totR a).2 != (totR b).2) ((S (w64 ((totR a).2 - (totR b).2))).bind fun x5=>some x5) (cond ((totR a).1 != (totR b).1) ((S (w64 ((totR a).1 - (totR b).1))).bind fun x7=>some x7) o))=some (sg (keyR a - keyR b)):=by
 have t1:=tot_le a.scores 0 0 0 0 ha.2 (by omega) (by omega) (by omega) (by omega) (by have:=ha.1;omega) (by have:=ha.1;omega)
 have t2:=tot_le b.scores 0 0 0 0 hb.2 (by omega) (by omega) (by omega) (by omega) (by have:=hb.1;omega) (by have:=hb.1;omega)
 have p1:=pk_le a.scores ha.1 ha.2
 have p2:=pk_le b.scores hb.1 hb.2
 have l1:=ha.1
 have l2:=hb.1
 change 0 ≤ (totR a).1∧(totR a).1 ≤ _∧0 ≤ (totR a).2∧(totR a).2 ≤ _ at t1
 change 0 ≤ (totR b).1∧(totR b).1 ≤ _∧0 ≤ (totR b).2∧(totR b).2 ≤ _ at t2
 unfold keyR
 generalize (totR a).1=x1 at *
 generalize (totR a).2=x2 at *
 generalize (totR b).1=y1 at *
 generalize (totR b).2=y2 at *
 generalize pk a.scores=z1 at *
 generalize pk b.scores=z2 at *
 by_cases h:x2=y2
 ·rw [show (x2 != y2)=false from by simp [h],cond_false]
  by_cases k:x1=y1
  ·rw [show (x1 != y1)=false from by simp [k],cond_false,ho]
   congr 1
   refine sg_congr ?_ ?_ <;> omega
  ·rw [show (x1 != y1)=true from by simp [k],cond_true,hS,Option.bind_some,w64_in (by omega)]
   congr 1
   refine sg_congr ?_ ?_ <;> omega
 ·rw [show (x2 != y2)=true from by simp [h],cond_true,hS,Option.bind_some,w64_in (by omega)]
  congr 1
  refine sg_congr ?_ ?_ <;> omega
theorem impl_cmp {a b:Result} (ha:okR a) (hb:okR b) (hl:a.scores.length=b.scores.length) (fuel:Nat) (hf:5 < fuel):impl_compareResults_p fuel a b=some (sg (keyR a - keyR b)):=by
 unfold impl_compareResults_p
 rw [bnd (totalOf_eq a),bnd (totalOf_eq b)]
 exact key_cmp ha hb hl _ (cmpF (impl_compareResults_l1 a b) impl_signOf_p a.scores b.scores (fun k v=>by rw [impl_compareResults_l1]) signOf_eq hl ha.1 ha.2 hb.2 fuel hf) impl_signOf_p signOf_eq
theorem spec_cmp {a b:Result} (ha:okR a) (hb:okR b) (hl:a.scores.length=b.scores.length) (fuel:Nat) (hf:5 < fuel):spec_rkCompare_p fuel a b=some (sg (keyR a - keyR b)):=by
 unfold spec_rkCompare_p
 rw [bnd (rkTotal_eq a),bnd (rkTotal_eq b)]
 exact key_cmp ha hb hl _ (cmpF (spec_rkCompare_l1 a b) spec_l1Sign_p a.scores b.scores (fun k v=>by rw [spec_rkCompare_l1]) l1Sign_eq hl ha.1 ha.2 hb.2 fuel hf) spec_l1Sign_p l1Sign_eq
structure RsOk (l:List Result):Prop where
 ok:∀ r ∈ l,okR r
 eqs:∀ r ∈ l,∀ q ∈ l,r.scores.length=q.scores.length
 skr:∀ r ∈ l,1 ≤ r.skater∧r.skater ≤ 999
 ne:(l.map fun r=>r.skater).Pairwise (· ≠ ·)
 len:l.length ≤ 40
theorem rsOk {e:Event} (h:PartOk e):RsOk e.results:=by
 obtain ⟨p1,p2,p3,p4,p5,p6⟩:=h
 exact ⟨fun r hr=>⟨(p3.1 r hr).2.1.2,(p3.1 r hr).2.2.1⟩,fun r hr q hq=>by have:=p5 r hr;have:=p5 q hq;omega,fun r hr=>(p3.1 r hr).1,p3.2.1,p3.2.2.2⟩
def kx (l:List Result) (i:Int):Int:=keyR (l[i.toNat]?.getD default)
def sx (l:List Result) (i:Int):Int:=(l[i.toNat]?.getD default).skater
def AH (l:List Result) (i j:Int):Prop:=kx l i > kx l j ∨ (kx l i=kx l j∧sx l i < sx l j)
theorem AH_tr {l:List Result} (a b c:Int) (h:AH l a b) (k:AH l b c):AH l a c:=by unfold AH at *;omega
def idxs (n:Nat):List Int:=(List.range n).map fun i:Nat=>(i:Int)
theorem mem_idxs (n:Nat) (i:Int):i ∈ idxs n↔0 ≤ i∧i < (n:Int):=by
 unfold idxs
 rw [List.mem_map]
 constructor
 ·rintro ⟨k,hk,rfl⟩;rw [List.mem_range] at hk;omega
 ·intro h;exact ⟨i.toNat,by rw [List.mem_range];omega,by omega⟩
theorem at_idx {l:List Result} {i:Int} (h:0 ≤ i∧i < (l.length:Int)):∃ r,r ∈ l∧getI l i=some r∧kx l i=keyR r∧sx l i=r.skater:=by
 have hi:i.toNat < l.length:=by omega
 refine ⟨l[i.toNat],List.getElem_mem _,?_,?_,?_⟩
 ·rw [getI_of (k:=i.toNat) (by omega)];exact List.getElem?_eq_getElem hi
 ·unfold kx;rw [List.getElem?_eq_getElem hi];rfl
 ·unfold sx;rw [List.getElem?_eq_getElem hi];rfl
theorem sx_ne {l:List Result} (h:RsOk l) {i j:Int} (hi:0 ≤ i∧i < (l.length:Int)) (hj:0 ≤ j∧j < (l.length:Int)) (hij:i ≠ j):sx l i ≠ sx l j:=by
 have hn:=h.ne
 rw [List.pairwise_map,List.pairwise_iff_getElem] at hn
 have hi':i.toNat < l.length:=by omega
 have hj':j.toNat < l.length:=by omega
 unfold sx
 rw [List.getElem?_eq_getElem hi',List.getElem?_eq_getElem hj']
 rcases Nat.lt_trichotomy i.toNat j.toNat with k | k | k
 ·exact hn _ _ hi' hj' k
 ·omega
 ·exact fun e=>hn _ _ hj' hi' k e.symm
theorem ah_total {l:List Result} (h:RsOk l) {i j:Int} (hi:0 ≤ i∧i < (l.length:Int)) (hj:0 ≤ j∧j < (l.length:Int)) (hij:i ≠ j):¬ AH l i j↔AH l j i:=by
 have:=sx_ne h hi hj hij
 unfold AH
 omega
def cfO (fuel:Nat) (l:List Result):Int→Int→Option Int:=fun a0 a1=>impl_orderOf_c2_p fuel a0 a1 l
theorem cfO_eq {l:List Result} (h:RsOk l) (fuel:Nat) (hf:5 < fuel) {i j:Int} (hi:0 ≤ i∧i < (l.length:Int)) (hj:0 ≤ j∧j < (l.length:Int)):∃ c,cfO fuel l i j=some c∧(c < 0↔AH l i j):=by
 obtain ⟨a,a1,a2,a3,a4⟩:=at_idx hi
 obtain ⟨b,b1,b2,b3,b4⟩:=at_idx hj
 have sa:=h.skr a a1
 have sb:=h.skr b b1
 unfold cfO impl_orderOf_c2_p AH
 rw [bnd a2,bnd b2,bnd (impl_cmp (h.ok a a1) (h.ok b b1) (h.eqs a a1 b b1) fuel hf),a3,a4,b3,b4]
 unfold sg
 by_cases c1:keyR a - keyR b > 0
 ·rw [if_pos c1]
  exact ⟨-1,rfl,⟨by intro _;omega,by intro _;omega⟩⟩
 ·rw [if_neg c1]
  by_cases c2:keyR a - keyR b < 0
  ·rw [if_pos c2]
   exact ⟨1,rfl,⟨by intro k;omega,by intro k;omega⟩⟩
  ·rw [if_neg c2]
   refine ⟨a.skater - b.skater,?_,?_⟩
   ·rw [show ((0:Int) != 0)=false from rfl,cond_false,w64_in (by omega)]
   ·constructor
    ·intro k;omega
    ·intro k;omega
theorem lt0_eq {l:List Result} (h:RsOk l) (fuel:Nat) (hf:5 < fuel) {i j:Int} (hi:0 ≤ i∧i < (l.length:Int)) (hj:0 ≤ j∧j < (l.length:Int)):lt0 (cfO fuel l) i j=true↔AH l i j:=by
 obtain ⟨c,c1,c2⟩:=cfO_eq h fuel hf hi hj
 unfold lt0
 rw [c1]
 simpa using c2
theorem lt0_f {l:List Result} (h:RsOk l) (fuel:Nat) (hf:5 < fuel) {i j:Int} (hi:0 ≤ i∧i < (l.length:Int)) (hj:0 ≤ j∧j < (l.length:Int)):lt0 (cfO fuel l) i j=false↔¬ AH l i j:=by
 rw [← lt0_eq h fuel hf hi hj];simp
theorem idxs_nd (n:Nat):(idxs n).Nodup:=by
 unfold idxs List.Nodup
 rw [List.pairwise_map]
 exact (List.nodup_range (n:=n)).imp fun h e=>h (by omega)
theorem goodO {l:List Result} (h:RsOk l) (fuel:Nat) (hf:5 < fuel):GoodF (cfO fuel l) (idxs l.length):=by
 have m:=mem_idxs l.length
 refine ⟨fun x hx y hy=>?_,fun x hx=>?_,fun x hx y hy z hz=>?_,fun x hx y hy z hz=>?_,?_,?_⟩
 ·obtain ⟨c,c1,_⟩:=cfO_eq h fuel hf ((m x).1 hx) ((m y).1 hy)
  rw [c1];rfl
 ·rw [lt0_f h fuel hf ((m x).1 hx) ((m x).1 hx)];unfold AH;omega
 ·rw [lt0_eq h fuel hf ((m x).1 hx) ((m y).1 hy),lt0_eq h fuel hf ((m y).1 hy) ((m z).1 hz),lt0_eq h fuel hf ((m x).1 hx) ((m z).1 hz)]
  exact AH_tr x y z
 ·rw [lt0_f h fuel hf ((m x).1 hx) ((m y).1 hy),lt0_f h fuel hf ((m y).1 hy) ((m z).1 hz),lt0_f h fuel hf ((m x).1 hx) ((m z).1 hz)]
  unfold AH;omega
 ·refine (idxs_nd l.length).imp_of_mem fun {x y} hx hy hne=>?_
  have hx':=(m x).1 hx
  have hy':=(m y).1 hy
  rw [lt0_eq h fuel hf hx' hy',lt0_eq h fuel hf hy' hx',← ah_total h hx' hy' hne]
  exact Classical.em _
 ·unfold idxs;have:=h.len;simp;omega
theorem indicesOf_l (n:Nat) (hn:n ≤ 1000):∀ (m j:Nat) (fuel:Nat),j+m=n→m < fuel→impl_indicesOf_l1 (n:Int) (fun a0=>impl_orderOf_c1_p a0) fuel (idxs j) (j:Int)=some (idxs n):=by
 intro m
 induction m with
 | zero =>
  intro j fuel h hf
  obtain ⟨f,rfl⟩:=Nat.exists_eq_succ_of_ne_zero (by omega:fuel ≠ 0)
  obtain rfl:j=n:=by omega
  rw [impl_indicesOf_l1,decide_eq_false (by omega),cond_false]
 | succ m ih =>
  intro j fuel h hf
  obtain ⟨f,rfl⟩:=Nat.exists_eq_succ_of_ne_zero (by omega:fuel ≠ 0)
  have hl:(idxs j).length=j:=by unfold idxs;simp
  rw [impl_indicesOf_l1,decide_eq_true (by omega),cond_true]
  rw [bnd (show impl_orderOf_c1_p (j:Int)=some true from rfl),cond_true,fits_of (by rw [hl];simp;omega),need_t,Option.bind_some,w64_in (by omega)]
  have e:idxs j++[(j:Int)]=idxs (j+1):=by unfold idxs;rw [List.range_succ,List.map_append];rfl
  rw [e]
  exact ih (j+1) f (by omega) (by omega)
theorem orderOf_eq {l:List Result} (h:RsOk l) (fuel:Nat) (hf:1000 < fuel):impl_orderOf_p fuel l=some (mergeF (cfO fuel l) (idxs l.length)):=by
 unfold impl_orderOf_p impl_indicesOf_p
 have hl:=h.len
 rw [bnd (show impl_indicesOf_l1 (l.length:Int) (fun a0=>impl_orderOf_c1_p a0) fuel [] 0=some (idxs l.length) from indicesOf_l l.length (by omega) l.length 0 fuel (by omega) (by omega))]
 unfold slices_SortFunc_int_p sortF
 rw [show (fun a0 a1=>impl_orderOf_c2_p fuel a0 a1 l)=cfO fuel l from rfl,if_pos (goodO h fuel (by omega))]
 rfl
theorem rkOrder_l2 {l:List Result} (h:RsOk l) (fu:Nat) (hfu:5 < fu) (y:Result) (k:Int) (hk:0 ≤ k∧k < (l.length:Int)) (hy:getI l k=some y) (A:List Int) (hA:∀ i ∈ A,(0 ≤ i∧i < (l.length:Int))∧i ≠ k) (hs:A.Pairwise (AH l)) (hl:A.length ≤ 1000):∀ (m:Nat) (P B:List Int) (fuel:Nat),P.length=m→m < fuel→A=P++B→(∀ b ∈ B,AH l k b) →
  ∃ P' B',A=P'++B'∧spec_rkOrder_l2 l fu y A fuel (P.length:Int)=some (P'.length:Int)∧(∀ p ∈ P',AH l p k)∧(∀ b ∈ B',AH l k b):=by
 intro m
 induction m with
 | zero =>
  intro P B fuel h1 h2 h3 h4
  obtain ⟨f,rfl⟩:=Nat.exists_eq_succ_of_ne_zero (by omega:fuel ≠ 0)
  obtain rfl:P=[]:=List.eq_nil_of_length_eq_zero h1
  exact ⟨[],B,h3,by rw [spec_rkOrder_l2];rfl,by simp,h4⟩
 | succ m ih =>
  intro P B fuel h1 h2 h3 h4
  obtain ⟨f,rfl⟩:=Nat.exists_eq_succ_of_ne_zero (by omega:fuel ≠ 0)
  rcases List.eq_nil_or_concat P with rfl | ⟨Q,z,rfl⟩
  ·simp at h1
  simp only [List.concat_eq_append] at *
  have hq:Q.length=m:=by simp at h1;exact h1
  have hAl:Q.length+1+B.length=A.length:=by rw [h3];simp;omega
  have hz:z ∈ A:=by rw [h3];simp
  obtain ⟨hzi,hzk⟩:=hA z hz
  obtain ⟨b,b1,b2,b3,b4⟩:=at_idx hzi
  obtain ⟨a,a1,a2,a3,a4⟩:=at_idx hk
  rw [hy] at a2;cases a2
  have hkl:(Q++[z]).length=Q.length+1:=by simp
  rw [spec_rkOrder_l2,hkl,pos_d,cond_true,w64_pred (by omega),bnd (getI_app (pre:=Q) (y:=z) (ys:=B) (by rw [h3];simp) rfl),bnd b2,bnd (spec_cmp (h.ok y a1) (h.ok b b1) (h.eqs y a1 b b1) fu hfu)]
  have hc:(decide (sg (keyR y - keyR b) < 0) || ((sg (keyR y - keyR b) == 0) && decide (y.skater > b.skater)))=true↔AH l z k:=by
   unfold AH
   rw [b3,a3,b4,a4]
   unfold sg
   by_cases c1:keyR y - keyR b > 0
   ·rw [if_pos c1];simp;omega
   ·rw [if_neg c1]
    by_cases c2:keyR y - keyR b < 0
    ·rw [if_pos c2];simp;omega
    ·rw [if_neg c2];simp;omega
  by_cases c:AH l z k
  ·rw [hc.2 c,cond_true]
   refine ⟨Q++[z],B,h3,by rw [hkl],fun p hp=>?_,h4⟩
   rcases List.mem_append.1 hp with hp | hp
   ·rw [h3,List.append_assoc,List.pairwise_append] at hs
    exact AH_tr p z k (hs.2.2 p hp z (by simp)) c
   ·obtain rfl:=List.mem_singleton.1 hp;exact c
  ·have hcf:(decide (sg (keyR y - keyR b) < 0) || ((sg (keyR y - keyR b) == 0) && decide (y.skater > b.skater)))=false:=by
    rcases Bool.eq_false_or_eq_true (decide (sg (keyR y - keyR b) < 0) || ((sg (keyR y - keyR b) == 0) && decide (y.skater > b.skater))) with q | q
    ·exact absurd (hc.1 q) c
    ·exact q
   rw [hcf,cond_false]
   exact ih Q (z::B) f hq (by omega) (by rw [h3];simp) fun b hb=>by
    rcases List.mem_cons.1 hb with rfl | hb
    ·exact (ah_total h hzi hk hzk).1 c
    ·exact h4 b hb
theorem rkOrder_l1 {l:List Result} (h:RsOk l) (fu:Nat) (hfu:1000 < fu):∀ (ys pre:List Result) (A:List Int),l=pre++ys→A.Perm (idxs pre.length)→A.Pairwise (AH l)→∃ r,spec_rkOrder_l1 l fu ys pre.length A=some r∧r.Perm (idxs l.length)∧r.Pairwise (AH l):=by
 have hlen:=h.len
 intro ys
 induction ys with
 | nil =>
  intro pre A h1 h2 h3
  rw [List.append_nil] at h1
  subst h1
  exact ⟨A,by rw [spec_rkOrder_l1],h2,h3⟩
 | cons y ys ih =>
  intro pre A h1 h2 h3
  have hpl:pre.length < l.length:=by rw [h1];simp
  have hAl:A.length=pre.length:=by rw [h2.length_eq];unfold idxs;simp
  have hy:getI l (pre.length:Int)=some y:=getI_app h1 rfl
  have hA:∀ i ∈ A,(0 ≤ i∧i < (l.length:Int))∧i ≠ (pre.length:Int):=fun i hi=>by
   have:=(mem_idxs pre.length i).1 (h2.mem_iff.1 hi)
   omega
  obtain ⟨P,B,e1,e2,e3,e4⟩:=rkOrder_l2 h fu (by omega) y (pre.length:Int) (by omega) hy A hA h3 (by omega) A.length A [] fu rfl (by omega) (by simp) (by simp)
  have hPA:P.length+B.length=A.length:=by rw [e1];simp
  rw [spec_rkOrder_l1,bnd e2,bnd (show sliceHi A (P.length:Int)=some P from by rw [e1];exact sliceHi_pre P B rfl),bnd (own_l P (by omega)),fits_of (by simp;omega),need_t,Option.bind_some]
  rw [bnd (show sliceLo A (P.length:Int)=some B from by rw [sliceLo_of rfl (by omega),e1];simp),fits_of (by simp;omega),need_t,Option.bind_some,Option.bind_some]
  have:=ih (pre++[y]) ((P++[(pre.length:Int)])++B) (by rw [h1];simp) ?_ ?_
  ·rwa [show (pre++[y]).length=pre.length+1 from by simp] at this
  ·rw [show (pre++[y]).length=pre.length+1 from by simp]
   have e:idxs (pre.length+1)=idxs pre.length++[(pre.length:Int)]:=by unfold idxs;rw [List.range_succ,List.map_append];rfl
   rw [e]
   refine List.Perm.trans ?_ (h2.append_right _)
   rw [e1,List.append_assoc,List.append_assoc]
   exact (List.Perm.refl P).append (List.perm_append_comm)
  ·rw [e1,List.pairwise_append] at h3
   rw [List.append_assoc,List.pairwise_append,List.singleton_append,List.pairwise_cons]
   refine ⟨h3.1,⟨e4,h3.2.1⟩,fun a ha b hb=>?_⟩
   rcases List.mem_cons.1 hb with rfl | hb
   ·exact e3 a ha
   ·exact h3.2.2 a ha b hb
theorem rkOrder_eq {l:List Result} (h:RsOk l) (fuel:Nat) (hf:1000 < fuel):spec_rkOrder_p fuel l=some (mergeF (cfO fuel l) (idxs l.length)):=by
 obtain ⟨r,r1,r2,r3⟩:=rkOrder_l1 h fuel hf l [] [] rfl (by unfold idxs;simp) List.Pairwise.nil
 have hg:=goodO h fuel (by omega)
 have e:r=mergeF (cfO fuel l) (idxs l.length):=by
  refine hg.uniq r2 ?_
  refine r3.imp_of_mem fun {x y} hx hy k=>?_
  have hx':=(mem_idxs l.length x).1 (r2.mem_iff.1 hx)
  have hy':=(mem_idxs l.length y).1 (r2.mem_iff.1 hy)
  rw [lt0_f h fuel (by omega) hy' hx']
  unfold AH at k ⊢
  omega
 rw [← e]
 exact r1
theorem place_l {l:List Result} (h:RsOk l) (fuel:Nat) (hf:5 < fuel) (i:Int) (hi:0 ≤ i∧i < (l.length:Int)):∀ (ys:List Result) (k:Nat) (v:Int),(∀ r ∈ ys,r ∈ l)→∃ r,spec_rkPlace_l1 l i fuel ys k v=some r∧impl_placeOf_l1 l i fuel ys k v=some r:=by
 obtain ⟨b,b1,b2,_,_⟩:=at_idx hi
 intro ys
 induction ys with
 | nil=>intro k v _;exact ⟨v,by rw [spec_rkPlace_l1],by rw [impl_placeOf_l1]⟩
 | cons y ys ih =>
  intro k v hm
  have hy:=hm y (by simp)
  rw [spec_rkPlace_l1,impl_placeOf_l1,bnd b2,bnd b2,bnd (spec_cmp (h.ok y hy) (h.ok b b1) (h.eqs y hy b b1) fuel hf),bnd (impl_cmp (h.ok y hy) (h.ok b b1) (h.eqs y hy b b1) fuel hf)]
  cases decide (sg (keyR y - keyR b) > 0)
  ·exact ih (k+1) v fun r hr=>hm r (by simp [hr])
  ·exact ih (k+1) _ fun r hr=>hm r (by simp [hr])
def plR (l:List Result) (fuel:Nat) (i:Int):Int:=(spec_rkPlace_p fuel l i).getD 0
theorem place_eq {l:List Result} (h:RsOk l) (fuel:Nat) (hf:5 < fuel) (i:Int) (hi:0 ≤ i∧i < (l.length:Int)):spec_rkPlace_p fuel l i=some (plR l fuel i)∧impl_placeOf_p fuel l i=some (plR l fuel i):=by
 obtain ⟨r,r1,r2⟩:=place_l h fuel hf i hi l 0 1 fun _ h=>h
 have e:spec_rkPlace_p fuel l i=some r:=r1
 have:plR l fuel i=r:=by unfold plR;rw [e];rfl
 rw [this]
 exact ⟨r1,r2⟩
theorem skatersOf_l {l:List Result}:∀ (ys:List Int) (k:Nat) (acc:List Int),(∀ i ∈ ys,0 ≤ i∧i < (l.length:Int))→acc.length+ys.length ≤ 1000→impl_skatersOf_l1 l ys k acc=some (acc++ys.map (sx l)):=by
 intro ys
 induction ys with
 | nil=>intro k acc _ _;rw [impl_skatersOf_l1];simp
 | cons y ys ih =>
  intro k acc h h'
  simp only [List.length_cons] at h'
  obtain ⟨b,b1,b2,b3,b4⟩:=at_idx (h y (by simp))
  rw [impl_skatersOf_l1,bnd b2,fits_of (by simp;omega),need_t,Option.bind_some,← b4,ih (k+1) _ (fun i hi=>h i (by simp [hi])) (by simp;omega)]
  simp
theorem standings_s (e:Event) (h:RsOk e.results) (fuel:Nat) (hf:5 < fuel):∀ (ys:List Int) (k:Nat) (A B:List Int),(∀ i ∈ ys,0 ≤ i∧i < (e.results.length:Int))→A.length+ys.length ≤ 1000→B.length+ys.length ≤ 1000 →
  spec_StandingsOf_l1 e fuel ys k A B=some (A++ys.map (sx e.results),B++ys.map (plR e.results fuel),true):=by
 intro ys
 induction ys with
 | nil=>intro k A B _ _ _;rw [spec_StandingsOf_l1];simp
 | cons y ys ih =>
  intro k A B hm h1 h2
  simp only [List.length_cons] at h1 h2
  obtain ⟨b,b1,b2,b3,b4⟩:=at_idx (hm y (by simp))
  rw [spec_StandingsOf_l1,bnd b2,fits_of (by simp;omega),need_t,Option.bind_some,bnd (place_eq h fuel hf y (hm y (by simp))).1,fits_of (by simp;omega),need_t,Option.bind_some,← b4,ih (k+1) _ _ (fun i hi=>hm i (by simp [hi])) (by simp;omega) (by simp;omega)]
  simp
theorem standings_i (e:Event) (h:RsOk e.results) (fuel:Nat) (hf:5 < fuel) (x3:List Int) (hx:∀ i ∈ x3,0 ≤ i∧i < (e.results.length:Int)) (hx2:x3.length ≤ 1000):∀ (ys:List Int) (k:Nat) (B:List Int),(∀ i ∈ ys,0 ≤ i∧i < (e.results.length:Int))→B.length+ys.length ≤ 1000 →
  impl_StandingsOf_l1 e fuel x3 ys k B=some (x3.map (sx e.results),B++ys.map (plR e.results fuel),true):=by
 intro ys
 induction ys with
 | nil =>
  intro k B _ _
  rw [impl_StandingsOf_l1,bnd (show impl_skatersOf_p e.results x3=some ([]++x3.map (sx e.results)) from skatersOf_l x3 0 [] hx (by simpa using hx2))]
  simp
 | cons y ys ih =>
  intro k B hm h2
  simp only [List.length_cons] at h2
  rw [impl_StandingsOf_l1,bnd (place_eq h fuel hf y (hm y (by simp))).2,fits_of (by simp;omega),need_t,Option.bind_some,ih (k+1) _ (fun i hi=>hm i (by simp [hi])) (by simp;omega)]
  simp

end Go.Proofs.YtegdphhfimaieabGreat

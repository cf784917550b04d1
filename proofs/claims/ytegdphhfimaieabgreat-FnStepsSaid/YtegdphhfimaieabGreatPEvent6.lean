/- Plain lemmas: what the functions compute is what the reference says, in plain Lean. No condition. -/
import Derived.Test.YtegdphhfimaieabGreatPEvent5
set_option maxRecDepth 4000
set_option maxHeartbeats 1000000
set_option linter.unusedVariables false
set_option linter.unusedSimpArgs false
set_option linter.unusedSectionVars false

namespace Go.Proofs.YtegdphhfimaieabGreat
open Go.AM

def sg (d:Int):Int:=if d > 0 then 1 else if d < 0 then -1 else 0
theorem signOf_eq (d:Int):impl_signOf_p d=some (sg d):=by
 unfold impl_signOf_p sg
 by_cases h:d > 0
 ·rw [decide_eq_true h,if_pos h];rfl
 ·rw [decide_eq_false h,if_neg h]
  by_cases k:d < 0
  ·rw [decide_eq_true k,if_pos k];rfl
  ·rw [decide_eq_false k,if_neg k];rfl
theorem l1Sign_eq (d:Int):spec_l1Sign_p d=some (sg d):=by
 unfold spec_l1Sign_p sg
 by_cases h:d > 0
 ·rw [decide_eq_true h,if_pos h];rfl
 ·rw [decide_eq_false h,if_neg h]
  by_cases k:d < 0
  ·rw [decide_eq_true k,if_pos k];rfl
  ·rw [decide_eq_false k,if_neg k];rfl
theorem sg_congr {a b:Int} (h1:a > 0↔b > 0) (h2:a < 0↔b < 0):sg a=sg b:=by
 unfold sg
 by_cases h:a > 0
 ·rw [if_pos h,if_pos (h1.1 h)]
 ·rw [if_neg h,if_neg fun k=>h (h1.2 k)]
  by_cases k:a < 0
  ·rw [if_pos k,if_pos (h2.1 k)]
  ·rw [if_neg k,if_neg fun q=>k (h2.2 q)]
def pk:List Int→Int
 | []=>0
 | x::l=>(x+1)+1000000 * pk l
def scOk (l:List Int):Prop:=∀ n ∈ l,-1 ≤ n∧n ≤ 100000
theorem cmpF (F:Nat→Int→Option Int) (S:Int→Option Int) (sa sb:List Int) (hF:∀ k v,F (k+1) v=cond (decide (v ≥ 0)) ((getI sa v).bind fun x=>(getI sb v).bind fun y=>cond (x != y) ((S (w64 (x - y))).bind fun z=>some z) (F k (w64 (v - 1)))) (some 0))
  (hS:∀ d,S d=some (sg d)) (hl:sa.length=sb.length) (h3:sa.length ≤ 3) (ha:scOk sa) (hb:scOk sb) (fuel:Nat) (hf:5 < fuel):F fuel (w64 ((sa.length:Int) - 1))=some (sg (pk sa - pk sb)):=by
 have step:∀ (k:Nat) (i:Nat) (x y:Int),getI sa (i:Int)=some x→getI sb (i:Int)=some y→(-1 ≤ x∧x ≤ 100000)→(-1 ≤ y∧y ≤ 100000)→i ≤ 3 →
   F (k+1) (i:Int)=if x=y then F k ((i:Int) - 1) else some (sg (x - y)):=by
  intro k i x y h1 h2 h3 h4 h5
  rw [hF,decide_eq_true (by omega),cond_true,bnd h1,bnd h2,w64_in (by omega),w64_in (by omega)]
  by_cases h:x=y
  ·rw [if_pos h,show (x != y)=false from by simp [h],cond_false]
  ·rw [if_neg h,show (x != y)=true from by simp [h],cond_true,hS];rfl
 have last:∀ k,F (k+1) (-1)=some 0:=fun k=>by rw [hF];rfl
 obtain ⟨f,rfl⟩:∃ f,fuel=f+5:=⟨fuel - 5,by omega⟩
 match sa,sb,hl,h3,ha,hb,step with
 | [],[],_,_,_,_,_ =>
  rw [show w64 ((([]:List Int).length:Int) - 1)=-1 from by rw [w64_in (by simp)];simp,last];rfl
 | [a],[b],_,_,ha,hb,step =>
  have a1:=ha a (by simp)
  have b1:=hb b (by simp)
  rw [show w64 ((([a]:List Int).length:Int) - 1)=((0:Nat):Int) from by rw [w64_in (by simp)];simp,step (f+4) 0 a b rfl rfl a1 b1 (by omega)]
  by_cases h:a=b
  ·rw [if_pos h,show ((0:Nat):Int) - 1=-1 from rfl,last (f+3),h];simp [sg]
  ·rw [if_neg h];congr 1;refine sg_congr ?_ ?_ <;> simp only [pk] <;> omega
 | [a,a'],[b,b'],_,_,ha,hb,step =>
  have a1:=ha a (by simp)
  have b1:=hb b (by simp)
  have a2:=ha a' (by simp)
  have b2:=hb b' (by simp)
  rw [show w64 ((([a,a']:List Int).length:Int) - 1)=((1:Nat):Int) from by rw [w64_in (by simp)];simp,step (f+4) 1 a' b' rfl rfl a2 b2 (by omega)]
  by_cases h':a'=b'
  ·rw [if_pos h',show ((1:Nat):Int) - 1=((0:Nat):Int) from rfl,step (f+3) 0 a b rfl rfl a1 b1 (by omega)]
   by_cases h:a=b
   ·rw [if_pos h,show ((0:Nat):Int) - 1=-1 from rfl,last (f+2),h,h'];simp [sg]
   ·rw [if_neg h];congr 1;refine sg_congr ?_ ?_ <;> simp only [pk] <;> omega
  ·rw [if_neg h'];congr 1;refine sg_congr ?_ ?_ <;> simp only [pk] <;> omega
 | [a,a',a''],[b,b',b''],_,_,ha,hb,step =>
  have a1:=ha a (by simp)
  have b1:=hb b (by simp)
  have a2:=ha a' (by simp)
  have b2:=hb b' (by simp)
  have a3:=ha a'' (by simp)
  have b3:=hb b'' (by simp)
  rw [show w64 ((([a,a',a'']:List Int).length:Int) - 1)=((2:Nat):Int) from by rw [w64_in (by simp)];simp,step (f+4) 2 a'' b'' rfl rfl a3 b3 (by omega)]
  by_cases h'':a''=b''
  ·rw [if_pos h'',show ((2:Nat):Int) - 1=((1:Nat):Int) from rfl,step (f+3) 1 a' b' rfl rfl a2 b2 (by omega)]
   by_cases h':a'=b'
   ·rw [if_pos h',show ((1:Nat):Int) - 1=((0:Nat):Int) from rfl,step (f+2) 0 a b rfl rfl a1 b1 (by omega)]
    by_cases h:a=b
    ·rw [if_pos h,show ((0:Nat):Int) - 1=-1 from rfl,last (f+1),h,h',h''];simp [sg]
    ·rw [if_neg h];congr 1;refine sg_congr ?_ ?_ <;> simp only [pk] <;> omega
   ·rw [if_neg h'];congr 1;refine sg_congr ?_ ?_ <;> simp only [pk] <;> omega
  ·rw [if_neg h''];congr 1;refine sg_congr ?_ ?_ <;> simp only [pk] <;> omega
 | [],_::_,hl,_,_,_,_=>simp at hl
 | _::_,[],hl,_,_,_,_=>simp at hl
 | [_],_::_::_,hl,_,_,_,_=>simp at hl
 | _::_::_,[_],hl,_,_,_,_=>simp at hl
 | [_,_],_::_::_::_,hl,_,_,_,_=>simp at hl
 | _::_::_::_,[_,_],hl,_,_,_,_=>simp at hl
 | [_,_,_],_::_::_::_::_,hl,_,_,_,_=>simp at hl
 | _::_::_::_::_,_,_,h3,_,_,_=>simp at h3
theorem pk_le:∀ (l:List Int),l.length ≤ 3→scOk l→0 ≤ pk l∧pk l < 1000000000000000000
 | [],_,_=>by simp [pk]
 | [a],_,h=>by have:=h a (by simp);simp only [pk];omega
 | [a,b],_,h=>by have:=h a (by simp);have:=h b (by simp);simp only [pk];omega
 | [a,b,c],_,h=>by have:=h a (by simp);have:=h b (by simp);have:=h c (by simp);simp only [pk];omega
 | _::_::_::_::_,h,_=>by simp at h
theorem tot_le:∀ (l:List Int) (a b:Int) (A B:Int),scOk l→0 ≤ a→a ≤ A→0 ≤ b→b ≤ B→A+100000 * (l.length:Int) ≤ 1000000→B+(l.length:Int) ≤ 1000 →
  0 ≤ (l.foldl stepT (a,b)).1∧(l.foldl stepT (a,b)).1 ≤ A+100000 * (l.length:Int)∧0 ≤ (l.foldl stepT (a,b)).2∧(l.foldl stepT (a,b)).2 ≤ B+(l.length:Int):=by
 intro l
 induction l with
 | nil=>intro a b A B _ h1 h2 h3 h4 _ _;simp;omega
 | cons y l ih =>
  intro a b A B hs h1 h2 h3 h4 h5 h6
  have hy:=hs y (by simp)
  have hs':scOk l:=fun n hn=>hs n (by simp [hn])
  simp only [List.length_cons] at h5 h6 ⊢
  rw [List.foldl_cons]
  by_cases h:y ≥ 0
  ·rw [show stepT (a,b) y=(w64 (a+y),w64 (b+1)) from if_pos h,w64_in (by omega),w64_in (by omega)]
   have:=ih (a+y) (b+1) (A+100000) (B+1) hs' (by omega) (by omega) (by omega) (by omega) (by omega) (by omega)
   omega
  ·rw [show stepT (a,b) y=(a,b) from if_neg h]
   have:=ih a b A B hs' h1 h2 h3 h4 (by omega) (by omega)
   omega
def keyR (r:Result):Int:=(totR r).2 * 1000000000000000000000000000000+(totR r).1 * 100000000000000000000+pk r.scores
def okR (r:Result):Prop:=r.scores.length ≤ 3∧scOk r.scores
theorem key_cmp {a b:Result} (ha:okR a) (hb:okR b) (hl:a.scores.length=b.scores.length) (o:Option Int) (ho:o=some (sg (pk a.scores - pk b.scores))) (S:Int→Option Int) (hS:∀ d,S d=some (sg d)) :
  (cond ((totR a).2 != (totR b).2) ((S (w64 ((totR a).2 - (totR b).2))).bind fun x5=>some x5) (cond ((totR a).1 != (totR b).1) ((S (w64 ((totR a).1 - (totR b).1))).bind fun x7=>some x7) o))=some (sg (keyR a - keyR b)):=by
 have t1:=tot_le a.scores 0 0 0 0 ha.2 (by omega) (by omega) (by omega) (by omega) (by have:=ha.1;omega) (by have:=ha.1;omega)
 have t2:=tot_le b.scores 0 0 0 0 hb.2 (by omega) (by omega) (by omega) (by omega) (by have:=hb.1;omega) (by have:=hb.1;omega)
 have p1:=pk_le a.scores ha.1 ha.2
 have p2:=pk_le b.scores hb.1 hb.2
 have l1:=ha.1
 have l2:=hb.1
 change 0 ≤ (totR a).1∧(totR a).1 ≤ _∧0 ≤ (totR a).2∧(totR a).2 ≤ _ at t1
 change 0 ≤ (totR b).1∧(totR b).1 ≤ _∧0 ≤ (totR b).2∧(totR b).2 ≤ _ at t2
 unfold keyR
 generalize (totR a).1=x1 at *
 generalize (totR a).2=x2 at *
 generalize (totR b).1=y1 at *
 generalize (totR b).2=y2 at *
 generalize pk a.scores=z1 at *
 generalize pk b.scores=z2 at *
 by_cases h:x2=y2
 ·rw [show (x2 != y2)=false from by simp [h],cond_false]
  by_cases k:x1=y1
  ·rw [show (x1 != y1)=false from by simp [k],cond_false,ho]
   congr 1
   refine sg_congr ?_ ?_ <;> omega
  ·rw [show (x1 != y1)=true from by simp [k],cond_true,hS,Option.bind_some,w64_in (by omega)]
   congr 1
   refine sg_congr ?_ ?_ <;> omega
 ·rw [show (x2 != y2)=true from by simp [h],cond_true,hS,Option.bind_some,w64_in (by omega)]
  congr 1
  refine sg_congr ?_ ?_ <;> omega
theorem impl_cmp {a b:Result} (ha:okR a) (hb:okR b) (hl:a.scores.length=b.scores.length) (fuel:Nat) (hf:5 < fuel):impl_compareResults_p fuel a b=some (sg (keyR a - keyR b)):=by
 unfold impl_compareResults_p
 rw [bnd (totalOf_eq a),bnd (totalOf_eq b)]
 exact key_cmp ha hb hl _ (cmpF (impl_compareResults_l1 a b) impl_signOf_p a.scores b.scores (fun k v=>by rw [impl_compareResults_l1]) signOf_eq hl ha.1 ha.2 hb.2 fuel hf) impl_signOf_p signOf_eq
theorem spec_cmp {a b:Result} (ha:okR a) (hb:okR b) (hl:a.scores.length=b.scores.length) (fuel:Nat) (hf:5 < fuel):spec_rkCompare_p fuel a b=some (sg (keyR a - keyR b)):=by
 unfold spec_rkCompare_p
 rw [bnd (rkTotal_eq a),bnd (rkTotal_eq b)]
 exact key_cmp ha hb hl _ (cmpF (spec_rkCompare_l1 a b) spec_l1Sign_p a.scores b.scores (fun k v=>by rw [spec_rkCompare_l1]) l1Sign_eq hl ha.1 ha.2 hb.2 fuel hf) spec_l1Sign_p l1Sign_eq
structure RsOk (l:List Result):Prop where
 ok:∀ r ∈ l,okR r
 eqs:∀ r ∈ l,∀ q ∈ l,r.scores.length=q.scores.length
 skr:∀ r ∈ l,1 ≤ r.skater∧r.skater ≤ 999
 ne:(l.map fun r=>r.skater).Pairwise (· ≠ ·)
 len:l.length ≤ 40
theorem rsOk {e:Event} (h:PartOk e):RsOk e.results:=by
 obtain ⟨p1,p2,p3,p4,p5,p6⟩:=h
 exact ⟨fun r hr=>⟨(p3.1 r hr).2.1.2,(p3.1 r hr).2.2.1⟩,fun r hr q hq=>by have:=p5 r hr;have:=p5 q hq;omega,fun r hr=>(p3.1 r hr).1,p3.2.1,p3.2.2.2⟩
def kx (l:List Result) (i:Int):Int:=keyR (l[i.toNat]?.getD default)
def sx (l:List Result) (i:Int):Int:=(l[i.toNat]?.getD default).skater
def idxs (n:Nat):List Int:=(List.range n).map fun i:Nat=>(i:Int)
theorem mem_idxs (n:Nat) (i:Int):i ∈ idxs n↔0 ≤ i∧i < (n:Int):=by
 unfold idxs
 rw [List.mem_map]
 constructor
 ·rintro ⟨k,hk,rfl⟩;rw [List.mem_range] at hk;omega
 ·intro h;exact ⟨i.toNat,by rw [List.mem_range];omega,by omega⟩
theorem at_idx {l:List Result} {i:Int} (h:0 ≤ i∧i < (l.length:Int)):∃ r,r ∈ l∧getI l i=some r∧kx l i=keyR r∧sx l i=r.skater:=by
 have hi:i.toNat < l.length:=by omega
 refine ⟨l[i.toNat],List.getElem_mem _,?_,?_,?_⟩
 ·rw [getI_of (k:=i.toNat) (by omega)];exact List.getElem?_eq_getElem hi
 ·unfold kx;rw [List.getElem?_eq_getElem hi];rfl
 ·unfold sx;rw [List.getElem?_eq_getElem hi];rfl
theorem place_l {l:List Result} (h:RsOk l) (fuel:Nat) (hf:5 < fuel) (i:Int) (hi:0 ≤ i∧i < (l.length:Int)):∀ (ys:List Result) (k:Nat) (v:Int),(∀ r ∈ ys,r ∈ l)→∃ r,spec_rkPlace_l1 l i fuel ys k v=some r∧impl_placeOf_l1 l i fuel ys k v=some r:=by
 obtain ⟨b,b1,b2,_,_⟩:=at_idx hi
 intro ys
 induction ys with
 | nil=>intro k v _;exact ⟨v,by rw [spec_rkPlace_l1],by rw [impl_placeOf_l1]⟩
 | cons y ys ih =>
  intro k v hm
  have hy:=hm y (by simp)
  rw [spec_rkPlace_l1,impl_placeOf_l1,bnd b2,bnd b2,bnd (spec_cmp (h.ok y hy) (h.ok b b1) (h.eqs y hy b b1) fuel hf),bnd (impl_cmp (h.ok y hy) (h.ok b b1) (h.eqs y hy b b1) fuel hf)]
  cases decide (sg (keyR y - keyR b) > 0)
  ·exact ih (k+1) v fun r hr=>hm r (by simp [hr])
  ·exact ih (k+1) _ fun r hr=>hm r (by simp [hr])
def plR (l:List Result) (fuel:Nat) (i:Int):Int:=(spec_rkPlace_p fuel l i).getD 0
theorem place_eq {l:List Result} (h:RsOk l) (fuel:Nat) (hf:5 < fuel) (i:Int) (hi:0 ≤ i∧i < (l.length:Int)):spec_rkPlace_p fuel l i=some (plR l fuel i)∧impl_placeOf_p fuel l i=some (plR l fuel i):=by
 obtain ⟨r,r1,r2⟩:=place_l h fuel hf i hi l 0 1 fun _ h=>h
 have e:spec_rkPlace_p fuel l i=some r:=r1
 have:plR l fuel i=r:=by unfold plR;rw [e];rfl
 rw [this]
 exact ⟨r1,r2⟩

end Go.Proofs.YtegdphhfimaieabGreat

/- Plain lemmas: what the functions compute is what the reference says, in plain Lean. No condition. -/
import Derived.Test.YtegdphhfimaieaaGreatPStableRank4
set_option maxRecDepth 4000
set_option maxHeartbeats 1000000
set_option linter.unusedVariables false
set_option linter.unusedSimpArgs false
set_option linter.unusedSectionVars false

namespace Go.Proofs.YtegdphhfimaieaaGreat
open Go.AM

theorem lt_mem_eq:∀ {l m:List Int},l.Pairwise (· < ·)→m.Pairwise (· < ·)→(∀ x,x ∈ l↔x ∈ m)→l=m
 | [],[],_,_,_=>rfl
 | [],y::m,_,_,h=>by have:=(h y).2 (by simp);simp at this
 | x::l,[],_,_,h=>by have:=(h x).1 (by simp);simp at this
 | x::l,y::m,hl,hm,h=>by
  have h1:=List.pairwise_cons.1 hl
  have h2:=List.pairwise_cons.1 hm
  have e:x=y:=by
   have a:=(h x).1 (by simp);have b:=(h y).2 (by simp)
   rcases List.mem_cons.1 a with a | a
   ·exact a
   ·rcases List.mem_cons.1 b with b | b
    ·exact b.symm
    ·have:=h2.1 x a;have:=h1.1 y b;omega
  subst e
  rw [lt_mem_eq h1.2 h2.2 fun z=>?_]
  constructor
  ·intro hz
   rcases List.mem_cons.1 ((h z).1 (by simp [hz])) with r | r
   ·have:=h1.1 z hz;omega
   ·exact r
  ·intro hz
   rcases List.mem_cons.1 ((h z).2 (by simp [hz])) with r | r
   ·have:=h2.1 z hz;omega
   ·exact r
theorem put_l (l:List Int) (n:Int) (hb:l.length ≤ 1000000):∀ (ys pre:List Int) (fuel:Nat),ys.length < fuel→l=pre++ys→(∀ x ∈ pre,x < n) →
  ∃ k:Nat,spec_l1Put_l1 l n fuel (pre.length:Int)=some (k:Int)∧k ≤ l.length∧(∀ x ∈ l.take k,x < n)∧(∀ x,l[k]?=some x→¬ x < n):=by
 intro ys
 induction ys with
 | nil =>
  intro pre fuel hf h1 h2
  obtain ⟨f,rfl⟩:=Nat.exists_eq_succ_of_ne_zero (by omega:fuel ≠ 0)
  rw [List.append_nil] at h1
  rw [spec_l1Put_l1,decide_eq_false (by rw [h1];omega)]
  simp only [opt_f,Option.bind_some,Bool.false_and,cond_false]
  refine ⟨pre.length,rfl,by rw [h1];exact Nat.le_refl _,fun x hx=>h2 x (by rw [← h1];exact List.mem_of_mem_take hx),fun x hx=>?_⟩
  have:=(List.getElem?_eq_some_iff.1 hx).1;rw [h1] at this;omega
 | cons y ys ih =>
  intro pre fuel hf h1 h2
  obtain ⟨f,rfl⟩:=Nat.exists_eq_succ_of_ne_zero (by omega:fuel ≠ 0)
  have hlt:pre.length < l.length:=by rw [h1];simp
  rw [spec_l1Put_l1,decide_eq_true (by omega)]
  simp only [opt_t,Bool.true_and]
  rw [bnd (getI_app h1 rfl)]
  by_cases h:y < n
  ·rw [decide_eq_true h,cond_true,w64_in (by omega)]
   have:=ih (pre++[y]) f (by simp at hf;omega) (by rw [h1];simp) (by
    intro x hx;rcases List.mem_append.1 hx with hx | hx
    ·exact h2 x hx
    ·obtain rfl:=List.mem_singleton.1 hx;exact h)
   simpa using this
  ·rw [decide_eq_false h,cond_false]
   refine ⟨pre.length,rfl,by omega,fun x hx=>?_,fun x hx=>?_⟩
   ·rw [h1,List.take_left'] at hx
    ·exact h2 x hx
    ·rfl
   ·rw [h1] at hx;simp at hx;subst hx;exact h
theorem put_eq (l:List Int) (n:Int) (hs:l.Pairwise (· < ·)) (hb:l.length ≤ 999999) (fuel:Nat) (hf:1048576 < fuel):∃ l',spec_l1Put_p fuel l n=some l'∧l'.Pairwise (· < ·)∧(∀ x,x ∈ l'↔x ∈ l ∨ x=n)∧l'.length ≤ l.length+1:=by
 obtain ⟨k,h1,h2,h3,h4⟩:=put_l l n (by omega) l [] fuel (by omega) rfl (by simp)
 unfold spec_l1Put_p
 rw [bnd (show spec_l1Put_l1 l n fuel 0=some (k:Int) from h1)]
 have hsp:l=l.take k++l.drop k:=(List.take_append_drop k l).symm
 have ins:(∀ x ∈ l.drop k,n < x)→∃ l',((sliceHi l (k:Int)).bind fun x25 =>
   (need (fitsB 8 x25.length)).bind fun u27 =>
   (need (fitsB 8 (x25.length+([n]).length))).bind fun u29 =>
   (sliceLo l (k:Int)).bind fun x31 =>
   (need (fitsB 8 (((x25++[n])).length+x31.length))).bind fun u33 =>
   some ((x25++[n])++x31))=some l'∧l'.Pairwise (· < ·)∧(∀ x,x ∈ l'↔x ∈ l ∨ x=n)∧l'.length ≤ l.length+1:=by
  intro hgt
  rw [bnd (sliceHi_of rfl h2),bnd (x:=()) (by rw [fits_of (by simp;omega)];rfl),bnd (x:=()) (by rw [fits_of (by simp;omega)];rfl),bnd (sliceLo_of rfl h2),bnd (x:=()) (by rw [fits_of (by simp;omega)];rfl)]
  refine ⟨_,rfl,?_,?_,by simp;omega⟩
  ·have hs':=hs
   rw [hsp] at hs'
   have:=List.pairwise_append.1 hs'
   rw [List.append_assoc,List.singleton_append,List.pairwise_append]
   refine ⟨this.1,List.pairwise_cons.2 ⟨hgt,this.2.1⟩,fun a ha b hb=>?_⟩
   rcases List.mem_cons.1 hb with rfl | hb
   ·exact h3 a ha
   ·exact this.2.2 a ha b hb
  ·intro x
   have:x ∈ l↔x ∈ l.take k ∨ x ∈ l.drop k:=by rw [← List.mem_append,List.take_append_drop]
   rw [this];simp only [List.mem_append,List.mem_singleton]
   constructor
   ·rintro ((h | h) | h) <;> simp [h]
   ·rintro ((h | h) | h) <;> simp [h]
 by_cases hk:k < l.length
 ·rw [decide_eq_true (by omega)]
  simp only [opt_t,Bool.true_and]
  have hx:=List.getElem?_eq_getElem hk
  rw [bnd (getI_lt_some hk)]
  have hge:=h4 _ hx
  have hdrop:l.drop k=l[k]::l.drop (k+1):=List.drop_eq_getElem_cons hk
  generalize hz:l[k]=z at hx hge hdrop ⊢
  have hzm:z ∈ l:=List.mem_of_getElem? hx
  by_cases he:z=n
  ·rw [show (z == n)=true from by simp [he],cond_true]
   refine ⟨l,rfl,hs,fun x=>⟨fun h=>.inl h,fun h=>h.elim id (fun e=>?_)⟩,by omega⟩
   rw [e,← he];exact hzm
  ·rw [show (z == n)=false from by simpa using he,cond_false]
   refine ins fun x hx'=>?_
   rw [hdrop] at hx'
   have hs':=hs
   rw [hsp,hdrop] at hs'
   have:=(List.pairwise_append.1 hs').2.1
   rcases List.mem_cons.1 hx' with rfl | hx'
   ·omega
   ·have:=(List.pairwise_cons.1 this).1 x hx';omega
 ·rw [decide_eq_false (by omega)]
  simp only [opt_f,Option.bind_some,Bool.false_and,cond_false]
  refine ins fun x hx'=>?_
  rw [List.drop_of_length_le (by omega)] at hx';simp at hx'
theorem wlList_l5 (fuel:Nat) (hf:1048576 < fuel):∀ (ys:List Line) (k:Nat) (acc:List Int),acc.Pairwise (· < ·)→acc.length+ys.length ≤ 999999→∃ r,spec_wlList_l5 fuel ys k acc=some r∧r.Pairwise (· < ·)∧(∀ x,x ∈ r↔x ∈ acc ∨ x ∈ ys.map fun y=>y.skater)∧r.length ≤ acc.length+ys.length:=by
 intro ys
 induction ys with
 | nil=>intro k acc h1 h2;exact ⟨acc,by rw [spec_wlList_l5],h1,by simp,by simp⟩
 | cons y ys ih =>
  intro k acc h1 h2
  simp only [List.length_cons] at h2
  obtain ⟨l',g1,g2,g3,g4⟩:=put_eq acc y.skater h1 (by omega) fuel hf
  rw [spec_wlList_l5,bnd g1]
  obtain ⟨r,r1,r2,r3,r4⟩:=ih (k+1) l' g2 (by omega)
  refine ⟨r,r1,r2,fun x=>?_,by simp only [List.length_cons];omega⟩
  rw [r3,g3];simp only [List.map_cons,List.mem_cons]
  constructor
  ·rintro ((h | h) | h) <;> simp [h]
  ·rintro (h | h | h) <;> simp [h]
theorem wlList_l1 (w:World) (fuel:Nat) (hf:1048576 < fuel):∀ (ys:List Season) (k:Nat) (acc:List Int),(∀ s ∈ ys,s.lines.length ≤ 80)→acc.Pairwise (· < ·)→acc.length+80 * ys.length ≤ 999999→∃ r,spec_wlList_l1 w fuel ys k acc=spec_wlList_l2 w fuel r 0 []∧r.Pairwise (· < ·)∧(∀ x,x ∈ r↔x ∈ acc ∨ x ∈ ys.flatMap fun s=>s.lines.map fun y=>y.skater)∧r.length ≤ acc.length+80 * ys.length:=by
 intro ys
 induction ys with
 | nil=>intro k acc _ h1 h2;exact ⟨acc,by rw [spec_wlList_l1],h1,by simp,by simp⟩
 | cons y ys ih =>
  intro k acc h0 h1 h2
  simp only [List.length_cons] at h2
  have hy:=h0 y (by simp)
  obtain ⟨l',g1,g2,g3,g4⟩:=wlList_l5 fuel hf y.lines 0 acc h1 (by omega)
  rw [spec_wlList_l1,bnd g1]
  obtain ⟨r,r1,r2,r3,r4⟩:=ih (k+1) l' (fun s hs=>h0 s (by simp [hs])) g2 (by omega)
  refine ⟨r,r1,r2,fun x=>?_,by simp only [List.length_cons];omega⟩
  rw [r3,g3];simp only [List.flatMap_cons,List.mem_append]
  constructor
  ·rintro ((h | h) | h) <;> simp [h]
  ·rintro (h | h | h) <;> simp [h]
theorem wlList_sk (w:World) (h:WorldOk w) (fuel:Nat) (hf:1048576 < fuel):spec_wlList_p fuel w=spec_wlList_l2 w fuel (skatersW w) 0 []∧(skatersW w).length ≤ 240:=by
 have hl:=h.2.2.2.1
 obtain ⟨r,r1,r2,r3,r4⟩:=wlList_l1 w fuel hf w.seasons 0 [] (fun s hs=>lines_len (h.1 s hs)) List.Pairwise.nil (by simp;omega)
 have e:r=skatersW w:=lt_mem_eq r2 (skatersW_lt w) fun x=>by
  rw [r3];unfold skatersW;rw [mem_dd,(sortI_perm _).mem_iff];unfold skW;simp
 subst e
 exact ⟨r1,by simp at r4;omega⟩
def totW (w:World) (sk:Int):Int:=sumW (partsW w sk)
def rk0 (w:World) (sk:Int):Rank:=⟨sk,totW w sk,0⟩
abbrev nt (r:Rank):Int:=-r.total
abbrev sk (r:Rank):Int:=r.skater
theorem wlList_l4 (A:List Rank) (hA:A.length ≤ 1000000) (tot:Int):∀ (n:Nat) (P B:List Rank) (fuel:Nat),P.length=n→n < fuel→A=P++B →
  ∃ P1 P2,P=P1++P2∧spec_wlList_l4 A tot fuel (P.length:Int)=some (P1.length:Int)∧(∀ x ∈ P2,x.total < tot)∧(∀ x,P1.getLast?=some x→¬ x.total < tot):=by
 intro n
 induction n with
 | zero =>
  intro P B fuel hn hf h
  obtain rfl:=List.eq_nil_of_length_eq_zero hn
  obtain ⟨f,rfl⟩:=Nat.exists_eq_succ_of_ne_zero (by omega:fuel ≠ 0)
  exact ⟨[],[],rfl,by rw [spec_wlList_l4];simp [opt_f],by simp,by simp⟩
 | succ n ih =>
  intro P B fuel hn hf h
  obtain ⟨f,rfl⟩:=Nat.exists_eq_succ_of_ne_zero (by omega:fuel ≠ 0)
  rcases List.eq_nil_or_concat P with rfl | ⟨P0,p,rfl⟩
  ·simp at hn
  simp only [List.concat_eq_append] at *
  have hpl:(P0++[p]).length=P0.length+1:=by simp
  have hAl:P0.length+1 ≤ A.length:=by rw [h];simp
  rw [spec_wlList_l4,hpl,decide_eq_true (by omega)]
  simp only [opt_t,Bool.true_and]
  rw [w64_in (by omega),bnd (getI_app (pre:=P0) (y:=p) (ys:=B) (by rw [h];simp) (by omega))]
  by_cases hlt:p.total < tot
  ·rw [decide_eq_true hlt,cond_true]
   obtain ⟨P1,P2,e1,e2,e3,e4⟩:=ih P0 (p::B) f (by omega) (by omega) (by rw [h];simp)
   refine ⟨P1,P2++[p],by rw [e1];simp,?_,?_,e4⟩
   ·rw [show ((P0.length+1:Nat):Int) - 1=(P0.length:Int) from by omega];exact e2
   ·intro x hx;rcases List.mem_append.1 hx with hx | hx
    ·exact e3 x hx
    ·obtain rfl:=List.mem_singleton.1 hx;exact hlt
  ·rw [decide_eq_false hlt,cond_false]
   refine ⟨P0++[p],[],by simp,by simp,by simp,?_⟩
   intro x hx;simp at hx;subst hx;exact hlt
theorem wlList_l2 (w:World) (hb:nWorld w ≤ 1048576) (h:WorldOk w) (fuel:Nat) (hf:1048576 < fuel):∀ (ys:List Int) (k:Nat) (A:List Rank),A.length+ys.length ≤ 1000→A.Pairwise (RK nt sk)→(∀ a ∈ A,∀ y ∈ ys,a.skater < y)→ys.Pairwise (· < ·) →
  ∃ L,spec_wlList_l2 w fuel ys k A=spec_wlList_l3 L fuel L 0∧L.Pairwise (RK nt sk)∧L.Perm (A++ys.map (rk0 w)):=by
 intro ys
 induction ys with
 | nil=>intro k A h1 h2 h3 h4;exact ⟨A,by rw [spec_wlList_l2],h2,by simp⟩
 | cons y ys ih =>
  intro k A h1 h2 h3 h4
  simp only [List.length_cons] at h1
  obtain ⟨P1,P2,e1,e2,e3,e4⟩:=wlList_l4 A (by omega) (totW w y) A.length A [] fuel rfl (by omega) (by simp)
  have hp1:P1.length ≤ A.length:=by rw [e1];simp
  rw [spec_wlList_l2,bnd (spec_parts w y hb h fuel hf)]
  dsimp only
  rw [bnd (poSum_eq _),bnd (show spec_wlList_l4 A (sumW (partsW w y)) fuel (A.length:Int)=some (P1.length:Int) from e2),bnd (show sliceHi A (P1.length:Int)=some P1 from by rw [e1];exact sliceHi_pre P1 P2 rfl),bnd (x:=()) (by rw [fits_of (by omega)];rfl),bnd (x:=()) (by rw [fits_of (by simp;omega)];rfl),
   bnd (show sliceLo A (P1.length:Int)=some P2 from by rw [sliceLo_of (k:=P1.length) rfl hp1,e1];simp),bnd (x:=()) (by
    have:P1.length+P2.length=A.length:=by rw [e1];simp
    rw [fits_of (by simp;omega)];rfl)]
  have hpm:(P1++[rk0 w y]++P2).Perm (A++[rk0 w y]):=by
   rw [e1,List.append_assoc]
   have:=(List.perm_append_comm (l₁:=[rk0 w y]) (l₂:=P2)).append_left P1
   simpa using this
  have hsrt:(P1++[rk0 w y]++P2).Pairwise (RK nt sk):=by
   rw [e1] at h2
   have hh:=List.pairwise_append.1 h2
   have hR:∀ x ∈ P1,RK nt sk x (rk0 w y):=by
    intro x hx
    rcases List.eq_nil_or_concat P1 with rfl | ⟨Q,z,rfl⟩
    ·simp at hx
    ·simp only [List.concat_eq_append] at *
     have hz:=e4 z (by simp)
     have hzs:=h3 z (by rw [e1];simp) y (by simp)
     have hzy:RK nt sk z (rk0 w y):=by
      show nt z < nt (rk0 w y) ∨ (nt z=nt (rk0 w y)∧sk z < sk (rk0 w y))
      show -z.total < -totW w y ∨ (-z.total=-totW w y∧z.skater < y)
      omega
     rcases List.mem_append.1 hx with hx | hx
     ·exact RK_tr _ _ _ ((List.pairwise_append.1 hh.1).2.2 x hx z (by simp)) hzy
     ·obtain rfl:=List.mem_singleton.1 hx;exact hzy
   rw [List.append_assoc,List.singleton_append,List.pairwise_append]
   refine ⟨hh.1,List.pairwise_cons.2 ⟨fun x hx=>.inl ?_,hh.2.1⟩,fun a ha b hb'=>?_⟩
   ·have:=e3 x hx
    show -totW w y < -x.total
    omega
   ·rcases List.mem_cons.1 hb' with rfl | hb'
    ·exact hR a ha
    ·exact hh.2.2 a ha b hb'
  have h4':=List.pairwise_cons.1 h4
  obtain ⟨L,g1,g2,g3⟩:=ih (k+1) (P1++[rk0 w y]++P2) (by rw [hpm.length_eq];simp;omega) hsrt (by
    intro a ha z hz
    have:=hpm.mem_iff.1 ha
    rcases List.mem_append.1 this with h | h
    ·exact h3 a h z (by simp [hz])
    ·obtain rfl:=List.mem_singleton.1 h;exact h4'.1 z hz) h4'.2
  refine ⟨L,g1,g2,g3.trans ?_⟩
  have:=hpm.append_right (ys.map (rk0 w))
  simpa using this
def above (L:List Rank) (x:Int):Nat:=(L.filter fun r=>decide (r.total > x)).length
def setP (L:List Rank) (r:Rank):Rank:=⟨r.skater,r.total,((1+above L r.total:Nat):Int)⟩
theorem wlList_l3 (L:List Rank) (hL:L.length ≤ 1000) (hs:L.Pairwise (RK nt sk)):∀ (ys pre:List Rank) (fuel:Nat),ys.length < fuel→L=pre++ys→spec_wlList_l3 L fuel (pre.map (setP L)++ys) (pre.length:Int)=some (L.map (setP L)):=by
 intro ys
 induction ys with
 | nil =>
  intro pre fuel hf h
  obtain ⟨f,rfl⟩:=Nat.exists_eq_succ_of_ne_zero (by omega:fuel ≠ 0)
  rw [List.append_nil] at h
  rw [spec_wlList_l3,decide_eq_false (by rw [h];omega),cond_false,List.append_nil,← h]
 | cons y ys ih =>
  intro pre fuel hf h
  obtain ⟨f,rfl⟩:=Nat.exists_eq_succ_of_ne_zero (by omega:fuel ≠ 0)
  have hpl:pre.length < L.length:=by rw [h];simp
  have hml:(pre.map (setP L)).length=pre.length:=List.length_map _
  have hs':=hs
  rw [h] at hs'
  have hpw:=List.pairwise_append.1 hs'
  have hafter:∀ z ∈ ys,¬ z.total > y.total:=by
   intro z hz
   have:=(List.pairwise_cons.1 hpw.2.1).1 z hz
   unfold RK nt at this;omega
  have hcnt:∀ x:Int,(∀ z ∈ y::ys,¬ z.total > x)→above L x=(pre.filter fun r=>decide (r.total > x)).length:=by
   intro x hx
   unfold above
   rw [h,List.filter_append,List.length_append,List.filter_eq_nil_iff (l:=y::ys) |>.2 (fun z hz=>by simpa using hx z hz)]
   simp
  have hpre:∀ z ∈ pre,z.total ≥ y.total:=by
   intro z hz
   have:=hpw.2.2 z hz y (by simp)
   unfold RK nt at this;omega
  rw [spec_wlList_l3,decide_eq_true (by omega),cond_true,bnd (getI_app (pre:=pre.map (setP L)) (y:=y) (ys:=ys) rfl (by rw [hml])),w64_in (n:=(pre.length:Int)+1) (by omega),Int.toNat_natCast]
  have hset:∀ u:Rank,(pre.map (setP L)++y::ys).set pre.length u=pre.map (setP L)++u::ys:=fun u=>by rw [← hml];simp [List.set_append]
  rw [hset]
  have fin:∀ D:List Rank,D=pre.map (setP L)++setP L y::ys→spec_wlList_l3 L f D ((pre.length:Int)+1)=some (L.map (setP L)):=by
   rintro D rfl
   have:=ih (pre++[y]) f (by simp at hf;omega) (by rw [h];simp)
   simpa using this
  rcases List.eq_nil_or_concat pre with rfl | ⟨q,p,rfl⟩
  ·simp only [List.length_nil,zero_d,opt_f,Option.bind_some,Bool.false_and,cond_false]
   refine fin _ ?_
   have:above L y.total=0:=by rw [hcnt y.total (fun z hz=>by rcases List.mem_cons.1 hz with rfl | hz;omega;exact hafter z hz)];rfl
   simp only [List.map_nil,List.nil_append]
   unfold setP
   rw [this];rfl
  ·simp only [List.concat_eq_append] at *
   have hkl:(q++[p]).length=q.length+1:=by simp
   rw [hkl] at fin ⊢
   simp only [pos_d,opt_t,Bool.true_and]
   rw [w64_pred (by simp at hpl;omega)]
   have hg1:∀ u:Rank,getI ((q++[p]).map (setP L)++u::ys) (q.length:Int)=some (setP L p):=fun u=>getI_app (pre:=q.map (setP L)) (y:=setP L p) (ys:=u::ys) (by simp) (by simp)
   have hg2:∀ u:Rank,getI ((q++[p]).map (setP L)++u::ys) ((q.length+1:Nat):Int)=some u:=fun u=>getI_app (pre:=(q++[p]).map (setP L)) (y:=u) (ys:=ys) rfl (by simp)
   rw [bnd (hg1 _),bnd (hg2 _)]
   dsimp only
   by_cases he:p.total=y.total
   ·rw [show ((setP L p).total == y.total)=true from by show (p.total == y.total)=true;simp [he],cond_true,bnd (hg1 _),bnd (hg2 _)]
    refine fin _ ?_
    have hset2:∀ u v:Rank,((q++[p]).map (setP L)++u::ys).set (q.length+1) v=(q++[p]).map (setP L)++v::ys:=fun u v=>by
     have:q.length+1=((q++[p]).map (setP L)).length:=by simp
     rw [this];simp [List.set_append]
    rw [hset2]
    congr 2
    unfold setP;dsimp only;rw [he]
   ·rw [show ((setP L p).total == y.total)=false from by show (p.total == y.total)=false;simpa using he,cond_false]
    refine fin _ ?_
    have hall:∀ z ∈ q++[p],z.total > y.total:=by
     intro z hz
     have hpy:=hpre p (by simp)
     rcases List.mem_append.1 hz with hz | hz
     ·have:=(List.pairwise_append.1 hpw.1).2.2 z hz p (by simp)
      unfold RK nt at this;omega
     ·obtain rfl:=List.mem_singleton.1 hz;omega
    have:above L y.total=q.length+1:=by
     rw [hcnt y.total (fun z hz=>by rcases List.mem_cons.1 hz with rfl | hz;omega;exact hafter z hz),List.filter_eq_self.2 (fun z hz=>by simpa using hall z hz)];simp
    congr 2
    unfold setP
    rw [this]
    congr 1;omega
theorem spec_wlList_eq (w:World) (hb:nWorld w ≤ 1048576) (h:WorldOk w) (fuel:Nat) (hf:1048576 < fuel):∃ L:List Rank,spec_wlList_p fuel w=some (L.map (setP L))∧L.Pairwise (RK nt sk)∧L.Perm ((skatersW w).map (rk0 w))∧L.length ≤ 240:=by
 obtain ⟨e,hl⟩:=wlList_sk w h fuel hf
 obtain ⟨L,g1,g2,g3⟩:=wlList_l2 w hb h fuel hf (skatersW w) 0 [] (by simp;omega) List.Pairwise.nil (by simp) (skatersW_lt w)
 simp only [List.nil_append] at g3
 have hlen:L.length ≤ 240:=by rw [g3.length_eq];simpa using hl
 refine ⟨L,?_,g2,g3,hlen⟩
 rw [e,g1]
 exact wlList_l3 L (by omega) g2 L [] fuel (by omega) rfl
def mkP (w:World) (ts:List Int) (s:Int):Rank:=⟨s,totW w s,((1+(ts.filter fun t=>decide (t > totW w s)).length:Nat):Int)⟩
theorem placesOf_l2 (y:Int) (acc:List Int) (ha:acc.length ≤ 1000):∀ (ys:List Int) (k:Nat) (v:Int),0 ≤ v→v+(ys.length:Int) ≤ 1000000→impl_placesOf_l2 y acc ys k v=some (acc++[v+((ys.filter fun t=>decide (t > y)).length:Int)]):=by
 intro ys
 induction ys with
 | nil=>intro k v _ _;rw [impl_placesOf_l2,bnd (x:=()) (by rw [fits_of (by simp;omega)];rfl)];simp
 | cons z ys ih =>
  intro k v h1 h2
  simp only [List.length_cons] at h2
  rw [impl_placesOf_l2]
  by_cases h:z > y
  ·rw [decide_eq_true h,cond_true,w64_in (by omega),ih (k+1) _ (by omega) (by omega)]
   simp [h];omega
  ·rw [decide_eq_false h,cond_false,ih (k+1) _ h1 (by omega)]
   simp [h]
theorem placesOf_l1 (l:List Int) (hl:l.length ≤ 1000):∀ (ys:List Int) (k:Nat) (acc:List Int),acc.length+ys.length ≤ 1000→impl_placesOf_l1 l ys k acc=some (acc++ys.map fun y=>((1+(l.filter fun t=>decide (t > y)).length:Nat):Int)):=by
 intro ys
 induction ys with
 | nil=>intro k acc _;rw [impl_placesOf_l1];simp
 | cons y ys ih =>
  intro k acc h
  simp only [List.length_cons] at h
  rw [impl_placesOf_l1,bnd (placesOf_l2 y acc (by omega) l 0 1 (by omega) (by omega)),ih (k+1) _ (by simp;omega)]
  simp only [List.map_cons,List.append_assoc,List.singleton_append]
  congr 3
theorem worldList_l1 (w:World) (h:WorldOk w) (fuel:Nat):∀ (ys:List Int) (k:Nat) (A:List Rank) (ts:List Int),A.length+ys.length ≤ 1000→ts.length=A.length →
  impl_worldList_l1 w fuel ys k A ts=(impl_placesOf_p (ts++ys.map (totW w))).bind fun x30=>impl_worldList_l2 fuel x30 0 (A++ys.map (rk0 w)):=by
 intro ys
 induction ys with
 | nil=>intro k A ts _ _;rw [impl_worldList_l1];simp
 | cons y ys ih =>
  intro k A ts h1 h2
  simp only [List.length_cons] at h1
  rw [impl_worldList_l1,bnd (impl_parts w y h),bnd (sumInts_eq _),bnd (x:=()) (by rw [fits_of (by simp;omega)];rfl),bnd (x:=()) (by rw [fits_of (by simp;omega)];rfl),ih (k+1) _ _ (by simp;omega) (by simp [h2])]
  simp only [List.map_cons,List.append_assoc,List.singleton_append]
  rfl
theorem worldList_l2 (w:World) (fuel:Nat) (f:Int→Int):∀ (ss pre:List Int) (k:Nat),k=pre.length→impl_worldList_l2 fuel (ss.map f) k (pre.map (fun s=>(⟨s,totW w s,f s⟩:Rank))++ss.map (rk0 w)) =
  (slices_SortStableFunc_Rank_p fuel ((pre++ss).map (fun s=>(⟨s,totW w s,f s⟩:Rank))) (fun a0 a1=>impl_worldList_c1_p a0 a1)).bind fun x45=>some x45:=by
 intro ss
 induction ss with
 | nil=>intro pre k hk;rw [List.map_nil,impl_worldList_l2];simp
 | cons y ss ih =>
  intro pre k hk
  rw [List.map_cons,impl_worldList_l2,List.map_cons,bnd (getI_app (pre:=pre.map (fun s=>(⟨s,totW w s,f s⟩:Rank))) (y:=rk0 w y) (ys:=ss.map (rk0 w)) rfl (by simp [hk])),Int.toNat_natCast]
  have hset:∀ u:Rank,(pre.map (fun s=>(⟨s,totW w s,f s⟩:Rank))++rk0 w y::ss.map (rk0 w)).set k u=pre.map (fun s=>(⟨s,totW w s,f s⟩:Rank))++u::ss.map (rk0 w):=fun u=>by
   have:k=(pre.map (fun s=>(⟨s,totW w s,f s⟩:Rank))).length:=by rw [List.length_map];exact hk
   rw [this];simp [List.set_append]
  rw [hset]
  have:=ih (pre++[y]) (k+1) (by simp [hk])
  rw [List.map_append,List.append_assoc] at this
  refine Eq.trans ?_ (this.trans ?_)
  ·rfl
  ·rw [List.append_assoc];rfl
abbrev pl (r:Rank):Int:=r.place
theorem worldList_ok (w:World) (hb:nWorld w ≤ 1048576) (h:WorldOk w) (fuel:Nat) (hf:1048576 < fuel):∃ r:List Rank,spec_wlList_p fuel w=some r∧impl_worldList_p fuel w=some r∧r.length ≤ 240∧r.Perm ((skatersW w).map (mkP w ((skatersW w).map (totW w))))∧r.Pairwise (RK pl sk):=by
 obtain ⟨L,g1,g2,g3,g4⟩:=spec_wlList_eq w hb h fuel hf
 have hsl:(skatersW w).length ≤ 240:=by rw [g3.length_eq] at g4;simpa using g4
 have habove:∀ x,above L x=(((skatersW w).map (totW w)).filter fun t=>decide (t > x)).length:=by
  intro x
  unfold above
  rw [(g3.filter _).length_eq,List.filter_map,List.length_map,List.filter_map,List.length_map]
  rfl
 have hset:(L.map (setP L)).Perm ((skatersW w).map (mkP w ((skatersW w).map (totW w)))):=by
  have:=g3.map (setP L)
  rw [List.map_map] at this
  have e:(setP L ∘ rk0 w)=mkP w ((skatersW w).map (totW w)):=by
   funext s
   show setP L (rk0 w s)=_
   unfold setP mkP rk0
   rw [habove]
  rwa [e] at this
 have hmono:∀ a ∈ L,∀ b ∈ L,RK nt sk a b→RK pl sk (setP L a) (setP L b):=by
  intro a ha b hb' hab
  rcases hab with hab | ⟨hab,hq⟩
  ·left
   show (setP L a).place < (setP L b).place
   unfold setP
   dsimp only
   have hab':a.total > b.total:=by unfold nt at hab;omega
   have hsub:above L a.total < above L b.total:=by
    unfold above
    have h1:L.filter (fun r=>decide (r.total > a.total))=(L.filter fun r=>decide (r.total > b.total)).filter fun r=>decide (r.total > a.total):=by
     rw [List.filter_filter]
     congr 1
     funext r
     by_cases hr:r.total > a.total
     ·rw [decide_eq_true hr,decide_eq_true (by omega)];rfl
     ·rw [decide_eq_false hr];rfl
    rw [h1]
    refine Nat.lt_of_le_of_ne (List.length_filter_le _ _) fun e=>?_
    have:=(List.length_filter_eq_length_iff).1 e a (List.mem_filter.2 ⟨ha,by simpa using hab'⟩)
    simp at this
   omega
  ·right
   have he:a.total=b.total:=by unfold nt at hab;omega
   refine ⟨?_,hq⟩
   show (setP L a).place=(setP L b).place
   unfold setP;dsimp only;rw [he]
 have hsrt:(L.map (setP L)).Pairwise (RK pl sk):=by
  rw [List.pairwise_map]
  exact List.Pairwise.imp_of_mem (fun {a b} ha hb' hab=>hmono a ha b hb' hab) g2
 have himpl:impl_worldList_p fuel w=(slices_SortStableFunc_Rank_p fuel ((skatersW w).map (mkP w ((skatersW w).map (totW w)))) (fun a0 a1=>impl_worldList_c1_p a0 a1)).bind fun x45=>some x45:=by
  unfold impl_worldList_p
  rw [bnd (worldSkaters_eq w h fuel hf),worldList_l1 w h fuel (skatersW w) 0 [] [] (by simp;omega) rfl]
  simp only [List.nil_append]
  unfold impl_placesOf_p
  rw [bnd (placesOf_l1 _ (by simp;omega) _ 0 [] (by simp;omega)),List.nil_append,List.map_map]
  have:=worldList_l2 w fuel ((fun y=>((1+(((skatersW w).map (totW w)).filter fun t=>decide (t > y)).length:Nat):Int)) ∘ totW w) (skatersW w) [] 0 rfl
  simp only [List.map_nil,List.nil_append] at this
  exact this
 obtain ⟨S,s1,s2,s3⟩:=stable_ok (fun a0 a1=>impl_worldList_c1_p a0 a1) pl sk fuel hf ((skatersW w).map (mkP w ((skatersW w).map (totW w)))) (by simp;omega) (by
  intro x hx y hy
  obtain ⟨a,ha,rfl⟩:=List.mem_map.1 hx
  obtain ⟨b,hb',rfl⟩:=List.mem_map.1 hy
  have hle:∀ s:Int,(((skatersW w).map (totW w)).filter fun t=>decide (t > totW w s)).length ≤ 240:=fun s=>Nat.le_trans (List.length_filter_le _ _) (by simpa using hsl)
  have h1:=hle a;have h2:=hle b
  refine ⟨_,rfl,?_⟩
  unfold mkP pl
  dsimp only
  rw [w64_in (by omega)]
  omega) (by
  rw [List.pairwise_map]
  exact skatersW_lt w)
 have e:S=L.map (setP L):=List.Perm.eq_of_pairwise (le:=RK pl sk) (fun a b _ _ h1 h2=>by unfold RK at h1 h2;omega) s2 hsrt (s3.trans hset.symm)
 refine ⟨L.map (setP L),g1,?_,by simpa using g4,hset,hsrt⟩
 rw [himpl,bnd s1,e]
theorem same_worldList (w:World) (hb:nWorld w ≤ 1048576) (h:WorldOk w) (fuel:Nat) (hf:1048576 < fuel):∃ r:List Rank,spec_wlList_p fuel w=some r∧impl_worldList_p fuel w=some r∧r.length ≤ 240∧r.Perm ((skatersW w).map (mkP w ((skatersW w).map (totW w)))):=by
 obtain ⟨r,r1,r2,r3,r4,_⟩:=worldList_ok w hb h fuel hf
 exact ⟨r,r1,r2,r3,r4⟩
theorem wlPlace_same (s:Int):∀ (l:List Rank) (k:Nat),∃ r,spec_wlPlace_l1 s l k=some r∧impl_worldPlace_l1 s l k=some r:=by
 intro l
 induction l with
 | nil=>intro k;exact ⟨0,by rw [spec_wlPlace_l1],by rw [impl_worldPlace_l1]⟩
 | cons y l ih =>
  intro k
  rw [spec_wlPlace_l1,impl_worldPlace_l1]
  cases (y.skater == s)
  ·exact ih (k+1)
  ·exact ⟨_,rfl,rfl⟩
theorem rankChanges_l1 (fuel:Nat) (hf:1048576 < fuel) (x5 x7:List Rank):∀ (ys:List Rank) (k:Nat) (acc:List Int),acc.Pairwise (· < ·)→acc.length+ys.length ≤ 999999→∃ r,spec_RankChanges_l1 fuel x5 x7 ys k acc=spec_RankChanges_l2 x5 x7 r 0 []∧r.Pairwise (· < ·)∧(∀ x,x ∈ r↔x ∈ acc ∨ x ∈ ys.map fun y=>y.skater):=by
 intro ys
 induction ys with
 | nil=>intro k acc h1 _;exact ⟨acc,by rw [spec_RankChanges_l1],h1,by simp⟩
 | cons y ys ih =>
  intro k acc h1 h2
  simp only [List.length_cons] at h2
  obtain ⟨l',g1,g2,g3,g4⟩:=put_eq acc y.skater h1 (by omega) fuel hf
  rw [spec_RankChanges_l1,bnd g1]
  obtain ⟨r,r1,r2,r3⟩:=ih (k+1) l' g2 (by omega)
  refine ⟨r,r1,r2,fun x=>?_⟩
  rw [r3,g3];simp only [List.map_cons,List.mem_cons]
  constructor
  ·rintro ((h | h) | h) <;> simp [h]
  ·rintro (h | h | h) <;> simp [h]
theorem rankChanges_l2 (a b:World) (fuel:Nat) (x5 x7:List Rank) (ha:impl_worldList_p fuel a=some x5) (hb:impl_worldList_p fuel b=some x7):∀ (ys:List Int) (k:Nat) (acc:List (List Int)),acc.length+ys.length ≤ 1000→(∀ z ∈ acc,z.length=3) →
  ∃ r:List (List Int) × Bool,spec_RankChanges_l2 x5 x7 ys k acc=some r∧impl_RankChanges_l1 a b fuel ys k acc=some r∧r.1.length ≤ acc.length+ys.length∧∀ z ∈ r.1,z.length=3:=by
 intro ys
 induction ys with
 | nil=>intro k acc _ h;exact ⟨_,by rw [spec_RankChanges_l2],by rw [impl_RankChanges_l1],by simp,h⟩
 | cons y ys ih =>
  intro k acc h h3
  simp only [List.length_cons] at h
  obtain ⟨p,p1,p2⟩:=wlPlace_same y x5 0
  obtain ⟨s,s1,s2⟩:=wlPlace_same y x7 0
  rw [spec_RankChanges_l2,impl_RankChanges_l1,bnd (show spec_wlPlace_p x5 y=some p from p1),bnd (show spec_wlPlace_p x7 y=some s from s1),bnd (show impl_worldPlace_p fuel a y=some p from by unfold impl_worldPlace_p;rw [bnd ha,p2]),bnd (show impl_worldPlace_p fuel b y=some s from by unfold impl_worldPlace_p;rw [bnd hb,s2])]
  cases (decide (s > 0) && p != s)
  ·simp only [cond_false]
   obtain ⟨r,r1,r2,r3,r4⟩:=ih (k+1) acc (by omega) h3
   exact ⟨r,r1,r2,by simp only [List.length_cons];omega,r4⟩
  ·simp only [cond_true]
   rw [bnd (x:=()) (by rw [fits_of (by simp;omega)];rfl),bnd (x:=()) (by rw [fits_of (by simp;omega)];rfl)]
   obtain ⟨r,r1,r2,r3,r4⟩:=ih (k+1) (acc++[[y,p,s]]) (by simp;omega) (by
    intro z hz;rcases List.mem_append.1 hz with hz | hz
    ·exact h3 z hz
    ·obtain rfl:=List.mem_singleton.1 hz;rfl)
   exact ⟨r,r1,r2,by simp only [List.length_append,List.length_cons,List.length_nil] at r3 ⊢;omega,r4⟩
theorem same_RankChanges (a b:World) (ha:nWorld a ≤ 1048576) (hb:nWorld b ≤ 1048576) (fuel:Nat) (hf:1048576 < fuel):∃ r:List (List Int) × Bool,spec_RankChanges_p fuel a b=some r∧impl_RankChanges_p fuel a b=some r∧r.1.length ≤ 240∧∀ z ∈ r.1,z.length=3:=by
 unfold spec_RankChanges_p impl_RankChanges_p
 rcases both_world a ha fuel hf with ⟨h1,h2,h3⟩ | ⟨h1,h2,h3⟩
 ·rw [bnd h1,bnd h2]
  simp only [Bool.not_true,Bool.not_false,opt_t,Bool.false_or]
  rcases both_world b hb fuel hf with ⟨k1,k2,k3⟩ | ⟨k1,k2,k3⟩
  ·rw [bnd k1,bnd k2]
   simp only [Bool.not_true,cond_false]
   obtain ⟨x,x1,x2,x3,x4⟩:=same_worldList a ha h3 fuel hf
   obtain ⟨y,y1,y2,y3,_⟩:=same_worldList b hb k3 fuel hf
   rw [bnd x1,bnd y1,bnd (worldSkaters_eq a h3 fuel hf)]
   obtain ⟨r,r1,r2,r3⟩:=rankChanges_l1 fuel hf x y x 0 [] List.Pairwise.nil (by simp;omega)
   have e:r=skatersW a:=lt_mem_eq r2 (skatersW_lt a) fun z=>by
    rw [r3,(x4.map _).mem_iff,List.map_map]
    simp only [List.not_mem_nil,false_or]
    have:((fun y:Rank=>y.skater) ∘ mkP a ((skatersW a).map (totW a)))=id:=by funext s;rfl
    rw [this,List.map_id]
   have hsl:(skatersW a).length ≤ 240:=by have:=x4.length_eq;rw [List.length_map] at this;omega
   obtain ⟨z,z1,z2,z3,z4⟩:=rankChanges_l2 a b fuel x y x2 y2 (skatersW a) 0 [] (by simp;omega) (by simp)
   refine ⟨z,?_,z2,by simp at z3;omega,z4⟩
   rw [r1,e];exact z1
  ·rw [bnd k1,bnd k2]
   exact ⟨_,rfl,rfl,by simp,by simp⟩
 ·rw [bnd h1,bnd h2]
  exact ⟨_,rfl,rfl,by simp,by simp⟩

end Go.Proofs.YtegdphhfimaieaaGreat

/- Plain lemmas: what the functions compute is what the reference says, in plain Lean. No condition. -/
import Derived.Test.YtegdphhfimaieabGreatPDraw8
set_option maxRecDepth 4000
set_option maxHeartbeats 1000000
set_option linter.unusedVariables false
set_option linter.unusedSimpArgs false
set_option linter.unusedSectionVars false

namespace Go.Proofs.YtegdphhfimaieabGreat
open Go.AM

theorem filter_or_perm {α:Type} (p q r:α→Bool):∀ l:List α,(∀ x ∈ l,r x=(p x || q x))→(∀ x ∈ l,p x=true→q x=false)→(l.filter p++l.filter q).Perm (l.filter r):=by
 intro l
 induction l with
 | nil=>intro _ _;exact List.Perm.refl _
 | cons y l ih =>
  intro h1 h2
  have:=ih (fun x hx=>h1 x (by simp [hx])) (fun x hx=>h2 x (by simp [hx]))
  have hy:=h1 y (by simp)
  have hy2:=h2 y (by simp)
  cases hp:p y
  ·cases hq:q y
   ·rw [hp,hq] at hy
    rw [List.filter_cons_of_neg (by simp [hp]),List.filter_cons_of_neg (by simp [hq]),List.filter_cons_of_neg (by simp [hy])]
    exact this
   ·rw [hp,hq] at hy
    rw [List.filter_cons_of_neg (by simp [hp]),List.filter_cons_of_pos hq,List.filter_cons_of_pos (by simp [hy])]
    exact List.perm_middle.trans (this.cons y)
  ·have hq:=hy2 hp
   rw [hp,hq] at hy
   rw [List.filter_cons_of_pos hp,List.filter_cons_of_neg (by simp [hq]),List.filter_cons_of_pos (by simp [hy])]
   exact this.cons y
theorem fallK_perm (K zs qs:List Int) (h:keyOk K) (hl:K.length ≤ 700) (hs:zs.length ≤ 1000):∀ p:Nat,p ≤ 99→(fallK K zs qs p).Perm (((List.zip zs qs).filter fun x=>decide (1 ≤ x.2∧x.2 ≤ (p:Int))).map fun x=>x.1):=by
 intro p
 induction p with
 | zero =>
  intro _
  have:(List.zip zs qs).filter (fun x=>decide (1 ≤ x.2∧x.2 ≤ ((0:Nat):Int)))=[]:=List.filter_eq_nil_iff.2 fun x _=>by simp;omega
  rw [fallK,this];exact List.Perm.refl _
 | succ p ih =>
  intro hp
  have ho:=ownK_len zs qs ((p+1:Nat):Int)
  have hpm:=numsK_perm (K++[90,((p+1:Nat):Int)]) (ownK zs qs ((p+1:Nat):Int)) (keyOk_add h fun x hx=>by simp at hx;omega) (by simp;omega) (by omega)
  rw [fallK]
  refine (hpm.append (ih (by omega))).trans ?_
  unfold ownK
  rw [← List.map_append]
  refine (filter_or_perm _ _ _ _ (fun x _=>?_) (fun x _ hx=>?_)).map _
  ·rw [Bool.eq_iff_iff];simp;omega
  ·simp at hx ⊢;omega
theorem fallK_all (K zs qs:List Int) (h:keyOk K) (hl:K.length ≤ 700) (hs:zs.length ≤ 1000) (hpl:qs.length=zs.length) (hq:∀ x ∈ qs,1 ≤ x∧x ≤ 99):(fallK K zs qs 99).Perm zs:=by
 refine (fallK_perm K zs qs h hl hs 99 (by omega)).trans ?_
 have e:(List.zip zs qs).filter (fun x=>decide (1 ≤ x.2∧x.2 ≤ ((99:Nat):Int)))=List.zip zs qs:=List.filter_eq_self.2 fun x hx=>by
  have:=hq x.2 (List.of_mem_zip (a:=x.1) (b:=x.2) hx).2
  simp;omega
 rw [e,List.map_fst_zip (by omega)]
theorem same_OrderByPlaces (K:List Int) (hk:keyOk K) (hl:K.length ≤ 4) (zs qs:List Int) (hz:OrderOk zs) (hpl:qs.length=zs.length) (hq:∀ x ∈ qs,1 ≤ x∧x ≤ 99) (S:Nat) (hS:1 ≤ S∧S ≤ 8) (fuel:Nat) (hf:1048576 < fuel) :
  ∃ r:List Int,spec_OrderByPlaces_p fuel K zs qs (S:Int)=some (r,true)∧impl_OrderByPlaces_p fuel K zs qs (S:Int)=some (r,true)∧r.Perm zs:=by
 have h40:=hz.2.2
 have hp:=fallK_all K zs qs hk (by omega) (by omega) hpl hq
 have hpn:=hp.length_eq
 refine ⟨startK K 0 (cutN (sizO (fallK K zs qs 99).length S) (fallK K zs qs 99)),?_,?_,?_⟩
 ·unfold spec_OrderByPlaces_p
  rw [bnd (keys_ok hk hl).1]
  simp only [Bool.not_true,Bool.not_false,opt_t,Bool.false_or]
  rw [bnd (ret_true (ret_soOrder zs) hz),show ((qs.length:Int) != (zs.length:Int))=false from by rw [hpl];simp]
  simp only [Bool.not_true,Bool.not_false,opt_t,Bool.false_or]
  rw [bnd (show spec_l1All_p qs 1 99=some true from (l1All_l 1 99 qs 0 hq).1)]
  simp only [Bool.not_true,Bool.not_false,opt_t,Bool.false_or]
  rw [bnd (ret_true (ret_soSize (S:Int)) (by omega))]
  simp only [Bool.not_true,cond_false]
  rw [bnd (soFalling_eq K qs zs hk (by omega) fuel hf (by omega) hpl),show ((S:Int) != 0)=true from by simp only [bne_iff_ne,ne_eq];omega,need_t,Option.bind_some]
  exact orderBy_eq K hk (by omega) S hS fuel hf _ (by omega) fuel hf
 ·unfold impl_OrderByPlaces_p
  rw [bnd (keys_ok hk hl).2]
  simp only [Bool.not_true,Bool.not_false,opt_t,Bool.false_or]
  rw [bnd (ret_true (ret_isOrder zs) hz),show ((qs.length:Int) != (zs.length:Int))=false from by rw [hpl];simp]
  simp only [Bool.not_true,Bool.not_false,opt_t,Bool.false_or]
  rw [bnd (show impl_allWithin_p qs 1 99=some true from (l1All_l 1 99 qs 0 hq).2)]
  simp only [Bool.not_true,Bool.not_false,opt_t,Bool.false_or]
  rw [bnd (ret_true (ret_isGroupSize (S:Int)) (by omega))]
  simp only [Bool.not_true,cond_false]
  exact obp_l1 K qs zs hk (by omega) S hS fuel hf (by omega) hpl (by omega) 99 [] fuel (by omega) (by omega) (by simp) (by rw [List.nil_append])
 ·have hsum:=sizO_sum (fallK K zs qs 99).length S
  have hlen:=sizO_len (fallK K zs qs 99).length S
  have hdl:(fallK K zs qs 99).length / S ≤ (fallK K zs qs 99).length:=Nat.div_le_self _ _
  have:=startK_perm K hk (by omega) (cutN (sizO (fallK K zs qs 99).length S) (fallK K zs qs 99)) 0 (by rw [cutN_len];omega) fun g hg=>by
   have:=cutN_each S _ _ (sizO_each _ S hS.1) g hg;omega
  rw [cutN_flat _ _ hsum] at this
  exact this.trans hp
theorem plR_lt {l:List Result} (h:RsOk l) (fuel:Nat) (hf:5 < fuel) (i:Int) (hi:0 ≤ i∧i < (l.length:Int)):1 ≤ plR l fuel i∧plR l fuel i ≤ 99:=by
 obtain ⟨b,b1,b2,_,_⟩:=at_idx hi
 have key:∀ (ys:List Result) (k:Nat) (v:Int),(∀ r ∈ ys,r ∈ l)→0 ≤ v→v+(ys.length:Int) ≤ 1000→∃ r,spec_rkPlace_l1 l i fuel ys k v=some r∧v ≤ r∧r ≤ v+(ys.length:Int):=by
  intro ys
  induction ys with
  | nil=>intro k v _ _ _;exact ⟨v,by rw [spec_rkPlace_l1],by omega,by simp⟩
  | cons y ys ih =>
   intro k v hm h0 h1
   simp only [List.length_cons] at h1 ⊢
   have hy:=hm y (by simp)
   rw [spec_rkPlace_l1,bnd b2,bnd (spec_cmp (h.ok y hy) (h.ok b b1) (h.eqs y hy b b1) fuel hf)]
   cases decide (sg (keyR y - keyR b) > 0)
   ·obtain ⟨r,r1,r2,r3⟩:=ih (k+1) v (fun r hr=>hm r (by simp [hr])) h0 (by omega)
    exact ⟨r,r1,by omega,by omega⟩
   ·rw [cond_true,w64_in (by omega)]
    obtain ⟨r,r1,r2,r3⟩:=ih (k+1) (v+1) (fun r hr=>hm r (by simp [hr])) (by omega) (by omega)
    exact ⟨r,r1,by omega,by omega⟩
 have h40:=h.len
 obtain ⟨r,r1,r2,r3⟩:=key l 0 1 (fun _ h=>h) (by omega) (by omega)
 have e:spec_rkPlace_p fuel l i=some r:=r1
 have:plR l fuel i=r:=by unfold plR;rw [e];rfl
 omega
def plN (l:List Result) (fuel:Nat):Nat→Nat→List Int
 | 0,_=>[]
 | m+1,k=>plR l fuel (k:Int)::plN l fuel m (k+1)
theorem rkPlaces_l {l:List Result} (h:RsOk l) (fuel:Nat) (hf:5 < fuel):∀ (ys:List Result) (k:Nat) (acc:List Int),k+ys.length=l.length→acc.length+ys.length ≤ 1000→spec_rkPlaces_l1 l fuel ys k acc=some (acc++plN l fuel ys.length k):=by
 intro ys
 induction ys with
 | nil=>intro k acc _ _;rw [spec_rkPlaces_l1,List.length_nil,plN,List.append_nil]
 | cons y ys ih =>
  intro k acc h1 h2
  simp only [List.length_cons] at h1 h2
  rw [spec_rkPlaces_l1,bnd (place_eq h fuel hf (k:Int) (by omega)).1,fits_of (by simp;omega),need_t,Option.bind_some,ih (k+1) _ (by omega) (by simp;omega),List.length_cons,plN]
  simp
def thP (e:Event) (fuel:Nat):List Entrant→Nat→List Int
 | [],_=>[]
 | y::ys,k=>(if y.skater ∉ e.gone then [plR e.results fuel (k:Int)] else [])++thP e fuel ys (k+1)
def thS (e:Event) (l:List Entrant):List Entrant:=l.filter fun x=>decide (x.skater ∉ e.gone)
theorem thP_len (e:Event) (fuel:Nat):∀ (ys:List Entrant) (k:Nat),(thP e fuel ys k).length=(thS e ys).length:=by
 intro ys
 induction ys with
 | nil=>intro k;rfl
 | cons y ys ih =>
  intro k
  unfold thS at ih ⊢
  rw [thP,List.length_append,ih]
  by_cases c:y.skater ∉ e.gone
  ·rw [if_pos c,List.filter_cons_of_pos (by simpa using c)];simp;omega
  ·rw [if_neg c,List.filter_cons_of_neg (by simpa using c)];simp
theorem drawOf_l (e:Event) (hp:PartOk e) (fuel:Nat) (hf:5 < fuel):∀ (ys pre:List Entrant) (A:List Entrant) (B C:List Int),e.entrants=pre++ys→A.length+ys.length ≤ 1000→B.length+ys.length ≤ 1000→C.length+ys.length ≤ 1000 →
  impl_drawOf_l1 e fuel ys pre.length A B C=impl_drawOf_l1 e fuel [] 0 (A++thS e ys) (B++(thS e ys).map fun x=>x.skater) (C++thP e fuel ys pre.length):=by
 have hR:=rsOk hp
 have hlen:e.results.length=e.entrants.length:=by have:=congrArg List.length hp.2.2.2.1;unfold skE at this;simpa using this
 intro ys
 induction ys with
 | nil=>intro pre A B C _ _ _ _;rw [impl_drawOf_l1,impl_drawOf_l1,thP];simp [thS]
 | cons y ys ih =>
  intro pre A B C h1 h2 h3 h4
  simp only [List.length_cons] at h2 h3 h4
  have hy:y.skater ∈ skE e:=List.mem_map.2 ⟨y,by rw [h1];simp,rfl⟩
  have hk:pre.length < e.entrants.length:=by rw [h1];simp
  obtain ⟨b,t1,t2⟩:=ret_isThere e y.skater
  have t3:b=true↔y.skater ∉ e.gone:=t2.trans ⟨fun k=>k.2,fun k=>⟨hy,k⟩⟩
  have nx:=ih (pre++[y])
  rw [show (pre++[y]).length=pre.length+1 from by simp] at nx
  cases b
  ·have hg:¬ y.skater ∉ e.gone:=fun k=>by simpa using t3.2 k
   have hu:impl_drawOf_l1 e fuel (y::ys) pre.length A B C=impl_drawOf_l1 e fuel ys (pre.length+1) A B C:=by rw [impl_drawOf_l1,bnd t1,cond_false]
   rw [hu,nx A B C (by rw [h1];simp) (by omega) (by omega) (by omega),thP,if_neg hg]
   unfold thS
   rw [List.filter_cons_of_neg (by simpa using hg)]
   rfl
  ·have hg:=t3.1 rfl
   have hu:impl_drawOf_l1 e fuel (y::ys) pre.length A B C=impl_drawOf_l1 e fuel ys (pre.length+1) (A++[y]) (B++[y.skater]) (C++[plR e.results fuel (pre.length:Int)]):=by
    rw [impl_drawOf_l1,bnd t1,cond_true,fits_of (by simp;omega),need_t,Option.bind_some,fits_of (by simp;omega),need_t,Option.bind_some,bnd (place_eq hR fuel hf (pre.length:Int) (by omega)).2,fits_of (by simp;omega),need_t,Option.bind_some]
   rw [hu,nx _ _ _ (by rw [h1];simp) (by simp;omega) (by simp;omega) (by simp;omega),thP,if_pos hg]
   unfold thS
   rw [List.filter_cons_of_pos (by simpa using hg)]
   simp
theorem evDraw_l (e:Event) (hp:PartOk e) (fuel:Nat) (x3:Event):∀ (ys pre:List Entrant) (B C:List Int),e.entrants=pre++ys→B.length+ys.length ≤ 1000→C.length+ys.length ≤ 1000 →
  spec_evDraw_l1 e fuel x3 (plN e.results fuel ys.length pre.length) pre.length B C=spec_evDraw_l1 e fuel x3 [] 0 (B++(thS e ys).map fun x=>x.skater) (C++thP e fuel ys pre.length):=by
 have hlen:e.results.length=e.entrants.length:=by have:=congrArg List.length hp.2.2.2.1;unfold skE at this;simpa using this
 intro ys
 induction ys with
 | nil=>intro pre B C _ _ _;rw [List.length_nil,plN,spec_evDraw_l1,spec_evDraw_l1,thP];simp [thS]
 | cons y ys ih =>
  intro pre B C h1 h3 h4
  simp only [List.length_cons] at h3 h4
  have hk:pre.length < e.results.length:=by rw [hlen,h1];simp
  have hsk:(e.results[pre.length]).skater=y.skater:=by
   have h4':=hp.2.2.2.1
   unfold skE at h4'
   have:=congrArg (·[pre.length]?) h4'
   simp only [List.getElem?_map,h1] at this
   rw [List.getElem?_eq_getElem hk] at this
   simpa using this
  obtain ⟨b,t1,t2⟩:=ret_l1Has e.gone y.skater
  have nx:=ih (pre++[y])
  rw [show (pre++[y]).length=pre.length+1 from by simp] at nx
  rw [List.length_cons,plN]
  cases b
  ·have hg:y.skater ∉ e.gone:=fun k=>by simpa using t2.2 k
   have hu:spec_evDraw_l1 e fuel x3 (plR e.results fuel (pre.length:Int)::plN e.results fuel ys.length (pre.length+1)) pre.length B C=spec_evDraw_l1 e fuel x3 (plN e.results fuel ys.length (pre.length+1)) (pre.length+1) (B++[y.skater]) (C++[plR e.results fuel (pre.length:Int)]):=by
    rw [spec_evDraw_l1,bnd (getI_lt_some hk),hsk,bnd t1]
    simp only [Bool.not_false,cond_true]
    rw [fits_of (by simp;omega),need_t,Option.bind_some,fits_of (by simp;omega),need_t,Option.bind_some]
   rw [hu,nx _ _ (by rw [h1];simp) (by simp;omega) (by simp;omega),thP,if_pos hg]
   unfold thS
   rw [List.filter_cons_of_pos (by simpa using hg)]
   simp
  ·have hg:¬ y.skater ∉ e.gone:=fun k=>k (t2.1 rfl)
   have hu:spec_evDraw_l1 e fuel x3 (plR e.results fuel (pre.length:Int)::plN e.results fuel ys.length (pre.length+1)) pre.length B C=spec_evDraw_l1 e fuel x3 (plN e.results fuel ys.length (pre.length+1)) (pre.length+1) B C:=by
    rw [spec_evDraw_l1,bnd (getI_lt_some hk),hsk,bnd t1]
    simp only [Bool.not_true,cond_false]
   rw [hu,nx B C (by rw [h1];simp) (by omega) (by omega),thP,if_neg hg]
   unfold thS
   rw [List.filter_cons_of_neg (by simpa using hg)]
   rfl

end Go.Proofs.YtegdphhfimaieabGreat

/- Plain lemmas: what the functions compute is what the reference says, in plain Lean. No condition. -/
import Derived.Test.YtegdphhfimaieabGreatPDraw3
set_option maxRecDepth 4000
set_option maxHeartbeats 1000000
set_option linter.unusedVariables false
set_option linter.unusedSimpArgs false
set_option linter.unusedSectionVars false

namespace Go.Proofs.YtegdphhfimaieabGreat
open Go.AM

def ownK (zs qs:List Int) (p:Int):List Int:=((List.zip zs qs).filter fun x=>decide (x.2=p)).map fun x=>x.1
def fallK (K zs qs:List Int):Nat→List Int
 | 0=>[]
 | p+1=>numsK (K++[90,((p+1:Nat):Int)]) (ownK zs qs ((p+1:Nat):Int))++fallK K zs qs p
theorem ownK_len (zs qs:List Int) (p:Int):(ownK zs qs p).length ≤ zs.length:=by
 unfold ownK
 rw [List.length_map]
 refine Nat.le_trans (List.length_filter_le _ _) ?_
 rw [List.length_zip];omega
theorem soFalling_l2 (K qs:List Int) (h:keyOk K) (hl:K.length ≤ 700) (fuel:Nat) (hf:1048576 < fuel) (v:List Int) (p:Int) (hp:0 ≤ p∧p ≤ 1000) (zs:List Int) (hs:zs.length ≤ 1000) (hpl:qs.length=zs.length) (hv:v.length ≤ 100000):∀ (ys pre:List Int),zs=pre++ys →
  spec_soFalling_l2 K qs fuel v p ys pre.length (ownK pre (qs.take pre.length) p)=some (v++numsK (K++[90,p]) (ownK zs qs p)):=by
 intro ys
 induction ys with
 | nil =>
  intro pre h1
  rw [List.append_nil] at h1
  subst h1
  have hk:keyOk (K++[90,p]):=keyOk_add h fun x hx=>by simp at hx;omega
  have ho:=ownK_len zs qs p
  have hpm:=numsK_perm (K++[90,p]) (ownK zs qs p) hk (by simp;omega) (by omega)
  rw [spec_soFalling_l2,List.take_of_length_le (by omega),bnd (own_l K (by omega)),fits_of (by simp;omega),need_t,Option.bind_some,bnd (dwNumbers_eq _ _ hk (by simp;omega) (by omega) fuel hf),fits_of (by rw [hpm.length_eq];omega),need_t,Option.bind_some]
 | cons y ys ih =>
  intro pre h1
  have hpl':pre.length < qs.length:=by rw [hpl,h1];simp
  have nx:=ih (pre++[y]) (by rw [h1];simp)
  have hk:(pre++[y]).length=pre.length+1:=by simp
  have ht:qs.take (pre.length+1)=qs.take pre.length++[qs[pre.length]]:=by rw [List.take_add_one,List.getElem?_eq_getElem hpl'];rfl
  have hz:List.zip (pre++[y]) (qs.take pre.length++[qs[pre.length]])=List.zip pre (qs.take pre.length)++[(y,qs[pre.length])]:=by
   rw [List.zip_append (by rw [List.length_take];omega)];rfl
  rw [hk,ht] at nx
  have ho:ownK (pre++[y]) (qs.take pre.length++[qs[pre.length]]) p=ownK pre (qs.take pre.length) p++if qs[pre.length]=p then [y] else []:=by
   unfold ownK
   rw [hz,List.filter_append,List.map_append]
   congr 1
   by_cases c:qs[pre.length]=p <;> simp [c]
  rw [ho] at nx
  have hol:=ownK_len pre (qs.take pre.length) p
  rw [spec_soFalling_l2,bnd (getI_lt_some hpl')]
  by_cases c:qs[pre.length]=p
  ·rw [show (qs[pre.length] == p)=true from by simpa using c,cond_true,fits_of (by simp;omega),need_t,Option.bind_some]
   rw [if_pos c] at nx
   exact nx
  ·rw [show (qs[pre.length] == p)=false from by simpa using c,cond_false]
   rw [if_neg c,List.append_nil] at nx
   exact nx
theorem soFalling_l1 (K qs zs:List Int) (h:keyOk K) (hl:K.length ≤ 700) (fu:Nat) (hfu:1048576 < fu) (hs:zs.length ≤ 1000) (hpl:qs.length=zs.length):∀ (p:Nat) (v:List Int) (fuel:Nat),p < fuel→p ≤ 99→v.length+(99 - p) * 0+p * 1000 ≤ 99000 →
  spec_soFalling_l1 K zs qs fu fuel v (p:Int)=some (v++fallK K zs qs p):=by
 intro p
 induction p with
 | zero =>
  intro v fuel hf _ _
  obtain ⟨f,rfl⟩:=Nat.exists_eq_succ_of_ne_zero (by omega:fuel ≠ 0)
  rw [spec_soFalling_l1,fallK];simp
 | succ p ih =>
  intro v fuel hf hp hv
  obtain ⟨f,rfl⟩:=Nat.exists_eq_succ_of_ne_zero (by omega:fuel ≠ 0)
  have ho:=ownK_len zs qs ((p+1:Nat):Int)
  have hpm:=numsK_perm (K++[90,((p+1:Nat):Int)]) (ownK zs qs ((p+1:Nat):Int)) (keyOk_add h fun x hx=>by simp at hx;omega) (by simp;omega) (by omega)
  rw [spec_soFalling_l1,decide_eq_true (by omega),cond_true]
  rw [bnd (show spec_soFalling_l2 K qs fu v ((p+1:Nat):Int) zs 0 []=_ from soFalling_l2 K qs h hl fu hfu v ((p+1:Nat):Int) (by omega) zs hs hpl (by omega) zs [] rfl),w64_pred (by omega),ih _ f (by omega) (by omega) (by rw [List.length_append,hpm.length_eq];omega),fallK,List.append_assoc]
theorem soFalling_eq (K qs zs:List Int) (h:keyOk K) (hl:K.length ≤ 700) (fuel:Nat) (hf:1048576 < fuel) (hs:zs.length ≤ 1000) (hpl:qs.length=zs.length):spec_soFalling_p fuel K zs qs=some (fallK K zs qs 99):=by
 have:=soFalling_l1 K qs zs h hl fuel hf hs hpl 99 [] fuel (by omega) (by omega) (by simp)
 rwa [List.nil_append] at this
def sizO (n S:Nat):List Nat:=(if n % S > 0 then [n % S] else [])++List.replicate (n / S) S
theorem orderBy_l (K:List Int) (h:keyOk K) (hl:K.length ≤ 700) (S:Nat) (hS:1 ≤ S∧S ≤ 8) (fu:Nat) (hfu:1048576 < fu) (x9:List Int):∀ (m g:Nat) (rem acc:List Int) (fuel:Nat),rem.length=m * S→(1 ≤ g ∨ x9.length % S=0)→m < fuel→g+m ≤ 200000→acc.length+rem.length ≤ 100000 →
  spec_OrderByPlaces_l1 K (S:Int) fu x9 fuel rem acc (g:Int)=some (acc++startK K g (cutN (List.replicate m S) rem),true):=by
 have hm:(x9.length:Int).tmod (S:Int)=((x9.length % S:Nat):Int):=rfl
 intro m
 induction m with
 | zero =>
  intro g rem acc fuel h1 h2 hf h3 h4
  obtain ⟨f,rfl⟩:=Nat.exists_eq_succ_of_ne_zero (by omega:fuel ≠ 0)
  have:rem=[]:=List.eq_nil_of_length_eq_zero (by omega)
  subst this
  rw [spec_OrderByPlaces_l1,List.replicate_zero,cutN,startK]
  simp
 | succ m ih =>
  intro g rem acc fuel h1 h2 hf h3 h4
  obtain ⟨f,rfl⟩:=Nat.exists_eq_succ_of_ne_zero (by omega:fuel ≠ 0)
  rw [Nat.succ_mul] at h1
  have hk:keyOk (K++[(g:Int)]):=keyOk_add h (keyOk_1 (by omega))
  have htl:(rem.take S).length=S:=by rw [List.length_take];omega
  have hpm:=numsK_perm (K++[(g:Int)]) (rem.take S) hk (by simp;omega) (by omega)
  have hc:(((g:Int) == 0) && decide ((x9.length:Int).tmod (S:Int) > 0))=false:=by
   rw [hm,Bool.and_eq_false_iff]
   rcases h2 with h2 | h2
   ·left;simp only [beq_eq_false_iff_ne,ne_eq];omega
   ·right;rw [h2];rfl
  rw [spec_OrderByPlaces_l1,decide_eq_true (by omega),cond_true,hc,cond_false,bnd (own_l K (by omega)),fits_of (by simp;omega),need_t,Option.bind_some,bnd (sliceHi_of rfl (by omega)),bnd (dwNumbers_eq _ _ hk (by simp;omega) (by omega) fu hfu),fits_of (by rw [hpm.length_eq];omega),need_t,Option.bind_some,bnd (sliceLo_of rfl (by omega)),w64_in (by omega)]
  have:=ih (g+1) (rem.drop S) (acc++numsK (K++[(g:Int)]) (rem.take S)) f (by rw [List.length_drop];omega) (.inl (by omega)) (by omega) (by omega) (by rw [List.length_append,hpm.length_eq,htl,List.length_drop];omega)
  rw [show (((g+1:Nat)):Int)=(g:Int)+1 from rfl] at this
  rw [this,List.replicate_succ,cutN,startK,List.append_assoc]
theorem orderBy_eq (K:List Int) (h:keyOk K) (hl:K.length ≤ 700) (S:Nat) (hS:1 ≤ S∧S ≤ 8) (fu:Nat) (hfu:1048576 < fu) (x9:List Int) (hx:x9.length ≤ 99000) (fuel:Nat) (hf:1048576 < fuel):spec_OrderByPlaces_l1 K (S:Int) fu x9 fuel x9 [] 0=some (startK K 0 (cutN (sizO x9.length S) x9),true):=by
 have hm:(x9.length:Int).tmod (S:Int)=((x9.length % S:Nat):Int):=rfl
 have hd:=Nat.div_add_mod x9.length S
 rw [Nat.mul_comm] at hd
 have hq:x9.length / S ≤ x9.length:=Nat.div_le_self _ _
 have hr:=Nat.mod_lt x9.length (show S > 0 by omega)
 unfold sizO
 by_cases c:x9.length % S > 0
 ·rw [if_pos c]
  obtain ⟨f,rfl⟩:=Nat.exists_eq_succ_of_ne_zero (by omega:fuel ≠ 0)
  have hk:keyOk (K++[(0:Int)]):=keyOk_add h (keyOk_1 (by omega))
  have hle:x9.length % S ≤ x9.length:=Nat.mod_le _ _
  have hpm:=numsK_perm (K++[(0:Int)]) (x9.take (x9.length % S)) hk (by simp;omega) (by rw [List.length_take];omega)
  have htl:(x9.take (x9.length % S)).length=x9.length % S:=by rw [List.length_take];omega
  rw [spec_OrderByPlaces_l1,decide_eq_true (by omega),cond_true,hm,decide_eq_true (by omega),show ((0:Int) == 0)=true from rfl,Bool.and_true,cond_true,bnd (own_l K (by omega)),fits_of (by simp;omega),need_t,Option.bind_some,bnd (sliceHi_of rfl (by omega)),bnd (dwNumbers_eq _ _ hk (by simp;omega) (by rw [htl];omega) fu hfu),fits_of (by rw [hpm.length_eq];simp;omega),need_t,Option.bind_some,bnd (sliceLo_of rfl (by omega))]
  rw [show w64 (0+1)=((1:Nat):Int) from rfl,List.nil_append]
  have:=orderBy_l K h hl S hS fu hfu x9 (x9.length / S) 1 (x9.drop (x9.length % S)) (numsK (K++[(0:Int)]) (x9.take (x9.length % S))) f (by rw [List.length_drop];omega) (.inl (by omega)) (by omega) (by omega) (by rw [hpm.length_eq,htl,List.length_drop];omega)
  rw [this,List.singleton_append,cutN,startK]
  rfl
 ·rw [if_neg c,List.nil_append]
  have:=orderBy_l K h hl S hS fu hfu x9 (x9.length / S) 0 x9 [] fuel (by omega) (.inr (by omega)) (by omega) (by omega) (by simp;omega)
  rwa [List.nil_append] at this

end Go.Proofs.YtegdphhfimaieabGreat

/- Plain lemmas: what the functions compute is what the reference says, in plain Lean. No condition. -/
import Derived.Test.YtegdphhfimaieabGreatPDraw7
set_option maxRecDepth 4000
set_option maxHeartbeats 1000000
set_option linter.unusedVariables false
set_option linter.unusedSimpArgs false
set_option linter.unusedSectionVars false

namespace Go.Proofs.YtegdphhfimaieabGreat
open Go.AM

theorem obpI_l2 (K qs:List Int) (h:keyOk K) (hl:K.length ≤ 700) (fuel:Nat) (hf:1048576 < fuel) (v:List Int) (p:Int) (hp:0 ≤ p∧p ≤ 1000) (zs:List Int) (hs:zs.length ≤ 1000) (hpl:qs.length=zs.length) (hv:v.length ≤ 100000):∀ (ys pre:List Int),zs=pre++ys →
  impl_OrderByPlaces_l2 K qs fuel v p ys pre.length (ownK pre (qs.take pre.length) p)=some (v++numsK (K++[90,p]) (ownK zs qs p)):=by
 intro ys
 induction ys with
 | nil =>
  intro pre h1
  rw [List.append_nil] at h1
  subst h1
  have hk:keyOk (K++[90,p]):=keyOk_add h fun x hx=>by simp at hx;omega
  have ho:=ownK_len zs qs p
  have hpm:=numsK_perm (K++[90,p]) (ownK zs qs p) hk (by simp;omega) (by omega)
  rw [impl_OrderByPlaces_l2,List.take_of_length_le (by omega),bnd (withKeys_eq K _ (by simp;omega)),bnd (shuffledNumbers_eq _ _ hk (by simp;omega) (by omega) fuel hf),fits_of (by rw [hpm.length_eq];omega),need_t,Option.bind_some]
 | cons y ys ih =>
  intro pre h1
  have hpl':pre.length < qs.length:=by rw [hpl,h1];simp
  have nx:=ih (pre++[y]) (by rw [h1];simp)
  have hk:(pre++[y]).length=pre.length+1:=by simp
  have ht:qs.take (pre.length+1)=qs.take pre.length++[qs[pre.length]]:=by rw [List.take_add_one,List.getElem?_eq_getElem hpl'];rfl
  have hz:List.zip (pre++[y]) (qs.take pre.length++[qs[pre.length]])=List.zip pre (qs.take pre.length)++[(y,qs[pre.length])]:=by
   rw [List.zip_append (by rw [List.length_take];omega)];rfl
  rw [hk,ht] at nx
  have ho:ownK (pre++[y]) (qs.take pre.length++[qs[pre.length]]) p=ownK pre (qs.take pre.length) p++if qs[pre.length]=p then [y] else []:=by
   unfold ownK
   rw [hz,List.filter_append,List.map_append]
   congr 1
   by_cases c:qs[pre.length]=p <;> simp [c]
  rw [ho] at nx
  have hol:=ownK_len pre (qs.take pre.length) p
  have hpre:pre.length ≤ 1000:=by omega
  rw [impl_OrderByPlaces_l2,bnd (getI_lt_some hpl')]
  by_cases c:qs[pre.length]=p
  ·rw [show (qs[pre.length] == p)=true from by simpa using c,cond_true,fits_of (by simp;omega),need_t,Option.bind_some]
   rw [if_pos c] at nx
   exact nx
  ·rw [show (qs[pre.length] == p)=false from by simpa using c,cond_false]
   rw [if_neg c,List.append_nil] at nx
   exact nx
theorem sizO_sum (n S:Nat):(sizO n S).sum=n:=by
 have hd:=Nat.div_add_mod n S
 unfold sizO
 rw [List.sum_append]
 have hr:(List.replicate (n / S) S).sum=(n / S) * S:=by
  generalize n / S=q
  induction q with
  | zero=>simp
  | succ q ih=>rw [List.replicate_succ,List.sum_cons,ih,Nat.succ_mul];omega
 rw [hr,Nat.mul_comm]
 split
 ·simp only [List.sum_cons,List.sum_nil];omega
 ·simp only [List.sum_nil];omega
theorem sizO_len (n S:Nat):(sizO n S).length ≤ n / S+1:=by
 unfold sizO
 rw [List.length_append,List.length_replicate]
 split <;> simp <;> omega
theorem cutN_each {α:Type} (m:Nat):∀ (ns:List Nat) (s:List α),(∀ n ∈ ns,n ≤ m)→∀ g ∈ cutN ns s,g.length ≤ m:=by
 intro ns
 induction ns with
 | nil=>intro s _ g hg;simp [cutN] at hg
 | cons n ns ih =>
  intro s h g hg
  rw [cutN] at hg
  rcases List.mem_cons.1 hg with rfl | hg
  ·have:=h n (by simp);rw [List.length_take];omega
  ·exact ih _ (fun k hk=>h k (by simp [hk])) g hg
theorem sizO_each (n S:Nat) (hS:1 ≤ S):∀ k ∈ sizO n S,k ≤ S:=by
 intro k hk
 unfold sizO at hk
 rcases List.mem_append.1 hk with hk | hk
 ·split at hk
  ·obtain rfl:=List.mem_singleton.1 hk
   exact Nat.le_of_lt (Nat.mod_lt _ hS)
  ·simp at hk
 ·exact Nat.le_of_eq (List.mem_replicate.1 hk).2
theorem obp_end (K:List Int) (h:keyOk K) (hl:K.length ≤ 700) (S:Nat) (hS:1 ≤ S∧S ≤ 8) (fu:Nat) (hfu:1048576 < fu) (v:List Int) (hv:v.length ≤ 900) (F:List (List Int)→Nat→List Int→List (List Int)→Int→Option (List Int × Bool))
  (hF:∀ G k w gs j,F G (k+1) w gs j=cond (decide (j < (G.length:Int))) ((getI gs j).bind fun x=>(impl_withKeys_p K [j]).bind fun y=>(impl_shuffledNumbers_p fu y x).bind fun z=>(need (fitsB 8 (w.length+z.length))).bind fun _=>F G k (w++z) (gs.set j.toNat x) (w64 (j+1))) (some (w,true))) :
  ((impl_cutInto_p v ((sizO v.length S).map fun k:Nat=>(k:Int))).bind fun x=>F x fu [] x 0)=some (startK K 0 (cutN (sizO v.length S) v),true):=by
 have hsum:=sizO_sum v.length S
 have hsl:=sizO_len v.length S
 have hq:v.length / S ≤ v.length:=Nat.div_le_self _ _
 have hcl:=cutN_len (sizO v.length S) v
 unfold impl_cutInto_p
 rw [bnd (cutInto_l (sizO v.length S) 0 v [] (by omega) (by omega) (by simp;omega)),List.nil_append]
 have:=grpLoop K h hl fu hfu (cutN (sizO v.length S) v).length (by omega) (F (cutN (sizO v.length S) v)) (hF _) (cutN (sizO v.length S) v) rfl (fun g hg=>by have:=cutN_each S _ v (sizO_each v.length S hS.1) g hg;omega) (cutN (sizO v.length S) v) [] [] fu rfl (by omega) (by rw [cutN_flat _ _ hsum];simp;omega)
 rw [List.nil_append] at this
 exact this
theorem obp_l3 (K:List Int) (S:Nat) (hS:1 ≤ S∧S ≤ 8) (fu:Nat) (v:List Int) (hv:v.length ≤ 900) (pre:List Int) (hpre:pre.length ≤ 1):∀ (m j:Nat) (fuel:Nat),j+m=v.length / S→m < fuel →
  impl_OrderByPlaces_l3 K (S:Int) fu v fuel (pre++List.replicate j (S:Int)) (j:Int)=((impl_cutInto_p v (pre++List.replicate (v.length / S) (S:Int))).bind fun x=>impl_OrderByPlaces_l4 K fu x fu [] x 0) ∧
  impl_OrderByPlaces_l5 K (S:Int) fu v fuel (pre++List.replicate j (S:Int)) (j:Int)=((impl_cutInto_p v (pre++List.replicate (v.length / S) (S:Int))).bind fun x=>impl_OrderByPlaces_l6 K fu x fu [] x 0):=by
 have hd:(v.length:Int).tdiv (S:Int)=((v.length / S:Nat):Int):=rfl
 have hq:v.length / S ≤ v.length:=Nat.div_le_self _ _
 have hw:w64 ((v.length:Int).tdiv (S:Int))=((v.length / S:Nat):Int):=by
  rw [hd]
  generalize v.length / S=q at *
  exact w64_in (by omega)
 clear hd
 generalize v.length / S=q at *
 intro m
 induction m with
 | zero =>
  intro j fuel h hf
  obtain ⟨f,rfl⟩:=Nat.exists_eq_succ_of_ne_zero (by omega:fuel ≠ 0)
  obtain rfl:j=q:=by omega
  rw [impl_OrderByPlaces_l3,impl_OrderByPlaces_l5,hw,decide_eq_false (by omega),cond_false,cond_false]
  exact ⟨rfl,rfl⟩
 | succ m ih =>
  intro j fuel h hf
  obtain ⟨f,rfl⟩:=Nat.exists_eq_succ_of_ne_zero (by omega:fuel ≠ 0)
  rw [impl_OrderByPlaces_l3,impl_OrderByPlaces_l5,hw,decide_eq_true (by omega),cond_true,cond_true,fits_of (by simp;omega),need_t,Option.bind_some,Option.bind_some,w64_in (by omega),List.append_assoc]
  have e:List.replicate j (S:Int)++[(S:Int)]=List.replicate (j+1) (S:Int):=by rw [List.replicate_succ']
  rw [e]
  exact ih (j+1) f (by omega) (by omega)
theorem obp_l1 (K qs zs:List Int) (h:keyOk K) (hl:K.length ≤ 700) (S:Nat) (hS:1 ≤ S∧S ≤ 8) (fu:Nat) (hfu:1048576 < fu) (hs:zs.length ≤ 1000) (hpl:qs.length=zs.length) (hlen:(fallK K zs qs 99).length ≤ 900):∀ (p:Nat) (v:List Int) (fuel:Nat),p < fuel→p ≤ 99→v.length+p * 1000 ≤ 99000→v++fallK K zs qs p=fallK K zs qs 99 →
  impl_OrderByPlaces_l1 K zs qs (S:Int) fu fuel v (p:Int)=some (startK K 0 (cutN (sizO (fallK K zs qs 99).length S) (fallK K zs qs 99)),true):=by
 intro p
 induction p with
 | zero =>
  intro v fuel hf _ _ he
  obtain ⟨f,rfl⟩:=Nat.exists_eq_succ_of_ne_zero (by omega:fuel ≠ 0)
  rw [fallK,List.append_nil] at he
  subst he
  have hm:∀ n:Nat,(n:Int).tmod (S:Int)=((n % S:Nat):Int):=fun _=>rfl
  rw [impl_OrderByPlaces_l1,show decide (((0:Nat):Int) ≥ 1)=false from rfl,cond_false,show ((S:Int) != 0)=true from by simp only [bne_iff_ne,ne_eq];omega,need_t,Option.bind_some,hm]
  generalize fallK K zs qs 99=v at *
  have hq:v.length / S ≤ v.length:=Nat.div_le_self _ _
  have hr:=Nat.mod_lt v.length (show S > 0 by omega)
  by_cases c:v.length % S > 0
  ·rw [decide_eq_true (by omega),cond_true,show need (fitsB 8 ([((v.length % S:Nat):Int)]).length)=some () from by rw [fits_of (by simp)];rfl,Option.bind_some]
   have:=(obp_l3 K S hS fu v hlen [((v.length % S:Nat):Int)] (by simp) (v.length / S) 0 fu (by omega) (by omega)).1
   rw [List.replicate_zero,List.append_nil] at this
   rw [show impl_OrderByPlaces_l3 K (S:Int) fu v fu [((v.length % S:Nat):Int)] 0=_ from this]
   have hz:[((v.length % S:Nat):Int)]++List.replicate (v.length / S) (S:Int)=(sizO v.length S).map fun k:Nat=>(k:Int):=by
    unfold sizO;rw [if_pos c];simp
   rw [hz]
   exact obp_end K h hl S hS fu hfu v hlen (impl_OrderByPlaces_l4 K fu) (fun G k w gs j=>by rw [impl_OrderByPlaces_l4])
  ·rw [decide_eq_false (by omega),cond_false]
   have:=(obp_l3 K S hS fu v hlen [] (by simp) (v.length / S) 0 fu (by omega) (by omega)).2
   rw [List.replicate_zero,List.append_nil] at this
   rw [show impl_OrderByPlaces_l5 K (S:Int) fu v fu [] 0=_ from this]
   have hz:[]++List.replicate (v.length / S) (S:Int)=(sizO v.length S).map fun k:Nat=>(k:Int):=by
    unfold sizO;rw [if_neg c];simp
   rw [hz]
   exact obp_end K h hl S hS fu hfu v hlen (impl_OrderByPlaces_l6 K fu) (fun G k w gs j=>by rw [impl_OrderByPlaces_l6])
 | succ p ih =>
  intro v fuel hf hp hv he
  obtain ⟨f,rfl⟩:=Nat.exists_eq_succ_of_ne_zero (by omega:fuel ≠ 0)
  have ho:=ownK_len zs qs ((p+1:Nat):Int)
  have hpm:=numsK_perm (K++[90,((p+1:Nat):Int)]) (ownK zs qs ((p+1:Nat):Int)) (keyOk_add h fun x hx=>by simp at hx;omega) (by simp;omega) (by omega)
  rw [impl_OrderByPlaces_l1,decide_eq_true (by omega),cond_true]
  rw [bnd (show impl_OrderByPlaces_l2 K qs fu v ((p+1:Nat):Int) zs 0 []=_ from obpI_l2 K qs h hl fu hfu v ((p+1:Nat):Int) (by omega) zs hs hpl (by omega) zs [] rfl),w64_pred (by omega)]
  refine ih _ f (by omega) (by omega) (by rw [List.length_append,hpm.length_eq];omega) ?_
  rw [List.append_assoc,← he,fallK]

end Go.Proofs.YtegdphhfimaieabGreat

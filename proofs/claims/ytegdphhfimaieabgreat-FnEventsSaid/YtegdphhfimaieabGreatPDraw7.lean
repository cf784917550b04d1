/- Plain lemmas: what the functions compute is what the reference says, in plain Lean. No condition. -/
import Derived.Test.YtegdphhfimaieabGreatPDraw6
set_option maxRecDepth 4000
set_option maxHeartbeats 1000000
set_option linter.unusedVariables false
set_option linter.unusedSimpArgs false
set_option linter.unusedSectionVars false

namespace Go.Proofs.YtegdphhfimaieabGreat
open Go.AM

theorem l1All_l (lo hi:Int):∀ (l:List Int) (k:Nat),(∀ x ∈ l,lo ≤ x∧x ≤ hi)→spec_l1All_l1 lo hi l k=some true∧impl_allWithin_l1 lo hi l k=some true:=by
 intro l
 induction l with
 | nil=>intro k _;exact ⟨by rw [spec_l1All_l1],by rw [impl_allWithin_l1]⟩
 | cons y l ih =>
  intro k h
  have hy:=h y (by simp)
  have h1:spec_l1In_p y lo hi=some true:=by unfold spec_l1In_p;simp [hy.1,hy.2]
  have h2:impl_within_p y lo hi=some true:=by unfold impl_within_p;simp [hy.1,hy.2]
  rw [spec_l1All_l1,impl_allWithin_l1,bnd h1,bnd h2]
  exact ih (k+1) fun x hx=>h x (by simp [hx])
theorem keys_ok {K:List Int} (h:keyOk K) (hl:K.length ≤ 4):spec_dwKeys_p K 4=some true∧impl_areKeys_p K 4=some true:=by
 unfold spec_dwKeys_p impl_areKeys_p
 rw [decide_eq_true (show (K.length:Int) ≤ 4 from by omega)]
 simp only [opt_t,Bool.true_and]
 rw [bnd (show spec_l1All_p K 0 1000000000=some true from (l1All_l 0 1000000000 K 0 h).1),bnd (show impl_allWithin_p K 0 1000000000=some true from (l1All_l 0 1000000000 K 0 h).2)]
 exact ⟨rfl,rfl⟩
theorem ret_true {o:Option Bool} {P:Prop} (h:Ret o P) (hp:P):o=some true:=by
 obtain ⟨b,e1,e2⟩:=h
 rw [e1,e2.2 hp]
theorem grp_perm:∀ gs:List (List Entrant),(gs.map grpS).flatten.Perm (gs.flatten.map fun e=>e.skater):=by
 intro gs
 induction gs with
 | nil=>exact List.Perm.refl _
 | cons g gs ih =>
  rw [List.map_cons,List.flatten_cons,List.flatten_cons,List.map_append]
  exact (sortI_perm _).append ih
theorem same_StartOrder (K:List Int) (hk:keyOk K) (hl:K.length ≤ 4) {l:List Entrant} (h:EntrOk l) (hne:l ≠ []) (S:Nat) (hS:1 ≤ S∧S ≤ 8) (fuel:Nat) (hf:1048576 < fuel) :
  ∃ r:List Int × Bool,spec_StartOrder_p fuel K l (S:Int)=some r∧impl_StartOrder_p fuel K l (S:Int)=some r∧(r.2=true→r.1.Perm (l.map fun e=>e.skater)):=by
 have h40:=h.2.2
 have hpos:=List.length_pos_iff.2 hne
 have hm1:1 ≤ manyK l.length S:=Nat.div_pos (by omega) (by omega)
 unfold spec_StartOrder_p impl_StartOrder_p impl_RankGroups_p
 rw [bnd (keys_ok hk hl).1]
 simp only [Bool.not_true,Bool.not_false,opt_t,Bool.false_or]
 rw [bnd (ret_true (ret_soEntrants l (by omega)) h),bnd (ret_true (ret_AreEntrants l (by omega)) h)]
 simp only [Bool.not_true,Bool.not_false,opt_t,Bool.false_or]
 rw [bnd (ret_true (ret_soSize (S:Int)) (by omega)),bnd (ret_true (ret_isGroupSize (S:Int)) (by omega))]
 simp only [Bool.not_true,Bool.not_false,opt_t,Bool.false_or,cond_false]
 obtain ⟨r,r1,r2,r3⟩:=soSorted_ex h fuel (by omega)
 have hrl:=r2.length_eq
 have hI:=rankGroups_eq h r2 r3 S hS hm1 fuel hf
 rcases soGroups_ex h S hS fuel hf with ⟨c,_⟩ | ⟨c,e⟩ | ⟨c1,c2,r',p1,p2,e⟩
 ·omega
 ·rw [if_pos c] at hI
  rw [bnd e,bnd hI,Option.bind_some]
  exact ⟨([],false),by rw [spec_StartOrder_l1],rfl,fun k=>by cases k⟩
 ·have hrr:r'=r:=List.Perm.eq_of_pairwise (le:=BH) (fun a b _ _ h1 h2=>by unfold BH at h1 h2;omega) p2 r3 (p1.trans r2.symm)
  subst hrr
  rw [if_neg (by omega)] at hI
  rw [bnd e,bnd hI,Option.bind_some]
  simp only [Bool.not_true,Bool.not_false,opt_t,Bool.false_or,cond_false]
  rw [bnd (keys_ok hk hl).2]
  simp only [Bool.not_true,cond_false]
  have hgl:∀ g ∈ groupsK S r',g.length ≤ 40:=by
   intro g hg
   unfold groupsK at hg
   obtain ⟨q,hq,rfl⟩:=List.mem_map.1 hg
   have:=groups_len (S:=S) (r:=r') (by omega) q hq
   unfold grpS
   rw [(sortI_perm _).length_eq,List.length_map];exact this
  have hfl:(groupsK S r').flatten.Perm (l.map fun e=>e.skater):=by
   unfold groupsK
   refine (grp_perm _).trans ?_
   rw [cutN_flat _ _ (sizN_sum _ _ (by rw [hrl];omega))]
   exact p1.map _
  have hfll:(groupsK S r').flatten.length=l.length:=by rw [hfl.length_eq,List.length_map]
  have hgn:(groupsK S r').length ≤ 8:=by
   unfold groupsK
   rw [List.length_map,cutN_len]
   unfold sizN
   rw [List.length_map,List.length_range,hrl];omega
  have s1:=startOrder_l1 K hk (by omega) fuel hf (groupsK S r',true) (groupsK S r') 0 [] (by omega) (fun g hg=>by have:=hgl g hg;omega) (by simp only [List.length_nil];omega)
  have s2:=startOrderI_l1 K hk (by omega) fuel hf (groupsK S r',true) (by dsimp only;omega) (fun g hg=>by have:=hgl g hg;omega) (groupsK S r') [] [] fuel rfl (by omega) (by simp only [List.length_nil];omega)
  refine ⟨_,s1,s2,fun _=>?_⟩
  rw [List.nil_append]
  exact (startK_perm K hk (by omega) _ 0 (by omega) fun g hg=>by have:=hgl g hg;omega).trans hfl
theorem grpLoop (K:List Int) (h:keyOk K) (hl:K.length ≤ 700) (fu:Nat) (hfu:1048576 < fu) (n:Nat) (hn:n ≤ 1000) (F:Nat→List Int→List (List Int)→Int→Option (List Int × Bool))
  (hF:∀ k v gs j,F (k+1) v gs j=cond (decide (j < (n:Int))) ((getI gs j).bind fun x=>(impl_withKeys_p K [j]).bind fun y=>(impl_shuffledNumbers_p fu y x).bind fun z=>(need (fitsB 8 (v.length+z.length))).bind fun _=>F k (v++z) (gs.set j.toNat x) (w64 (j+1))) (some (v,true)))
  (G:List (List Int)) (hG:G.length=n) (hg:∀ g ∈ G,g.length ≤ 1000):∀ (gs pre:List (List Int)) (acc:List Int) (fuel:Nat),G=pre++gs→gs.length < fuel→acc.length+gs.flatten.length ≤ 100000 →
  F fuel acc G (pre.length:Int)=some (acc++startK K pre.length gs,true):=by
 intro gs
 induction gs with
 | nil =>
  intro pre acc fuel h1 hf h3
  obtain ⟨f,rfl⟩:=Nat.exists_eq_succ_of_ne_zero (by omega:fuel ≠ 0)
  rw [List.append_nil] at h1
  rw [hF,decide_eq_false (by rw [← hG,h1];omega),cond_false,startK]
  simp
 | cons g gs ih =>
  intro pre acc fuel h1 hf h3
  obtain ⟨f,rfl⟩:=Nat.exists_eq_succ_of_ne_zero (by omega:fuel ≠ 0)
  simp only [List.length_cons] at hf
  rw [List.flatten_cons,List.length_append] at h3
  have hgl:=hg g (by rw [h1];simp)
  have hpl:pre.length < n:=by rw [← hG,h1];simp
  have hk:keyOk (K++[(pre.length:Int)]):=keyOk_add h (keyOk_1 (by omega))
  have hp:=numsK_perm (K++[(pre.length:Int)]) g hk (by simp;omega) (by omega)
  have hst:G.set ((pre.length:Int)).toNat g=G:=by rw [h1];exact set_pre1 pre g g gs
  rw [hF,decide_eq_true (by omega),cond_true,bnd (getI_app h1 rfl),bnd (withKeys_eq K _ (by simp;omega)),bnd (shuffledNumbers_eq _ g hk (by simp;omega) (by omega) fu hfu),fits_of (by rw [hp.length_eq];omega),need_t,Option.bind_some,hst,w64_in (by omega)]
  have:=ih (pre++[g]) (acc++numsK (K++[(pre.length:Int)]) g) f (by rw [h1];simp) (by omega) (by rw [List.length_append,hp.length_eq];omega)
  rw [show (((pre++[g]).length:Nat):Int)=(pre.length:Int)+1 from by simp,show (pre++[g]).length=pre.length+1 from by simp] at this
  rw [this,startK,List.append_assoc]

end Go.Proofs.YtegdphhfimaieabGreat

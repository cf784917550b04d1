/- Plain lemmas: what the functions compute is what the reference says, in plain Lean. No condition. -/
import Derived.Test.YtegdphhfimaieabGreatPDraw5
set_option maxRecDepth 4000
set_option maxHeartbeats 1000000
set_option linter.unusedVariables false
set_option linter.unusedSimpArgs false
set_option linter.unusedSectionVars false

namespace Go.Proofs.YtegdphhfimaieabGreat
open Go.AM

theorem compareBehind_eq {a b:Entrant} (ha:entrOk a) (hb:entrOk b):∃ c,impl_compareBehind_p a b=some c∧(c < 0↔BH a b):=by
 unfold impl_compareBehind_p BH keyB
 unfold entrOk at ha hb
 by_cases h1:a.rank=0
 ·by_cases h2:b.rank=0
  ·rw [if_pos h1,if_pos h2,show ((a.rank == 0) && (b.rank == 0))=true from by simp [h1,h2],cond_true]
   refine ⟨_,rfl,?_⟩
   rw [w64_in (by omega)]
   omega
  ·rw [if_pos h1,if_neg h2,show ((a.rank == 0) && (b.rank == 0))=false from by simp [h2],cond_false,show (a.rank == 0)=true from by simpa using h1,cond_true]
   exact ⟨-1,rfl,⟨by intro _;omega,by intro _;omega⟩⟩
 ·rw [if_neg h1,show ((a.rank == 0) && (b.rank == 0))=false from by simp [h1],cond_false,show (a.rank == 0)=false from by simpa using h1,cond_false]
  by_cases h2:b.rank=0
  ·rw [if_pos h2,show (b.rank == 0)=true from by simpa using h2,cond_true]
   exact ⟨1,rfl,⟨by intro k;omega,by intro k;omega⟩⟩
  ·rw [if_neg h2,show (b.rank == 0)=false from by simpa using h2,cond_false]
   refine ⟨_,rfl,?_⟩
   rw [w64_in (by omega)]
   omega
def cfB:Entrant→Entrant→Option Int:=fun a0 a1=>impl_compareBehind_p a0 a1
theorem lt0B {a b:Entrant} (ha:entrOk a) (hb:entrOk b):lt0 cfB a b=true↔BH a b:=by
 obtain ⟨c,c1,c2⟩:=compareBehind_eq ha hb
 unfold lt0 cfB
 rw [c1]
 simpa using c2
theorem lt0B_f {a b:Entrant} (ha:entrOk a) (hb:entrOk b):lt0 cfB a b=false↔¬ BH a b:=by rw [← lt0B ha hb];simp
theorem goodB {l:List Entrant} (h:EntrOk l):GoodF cfB l:=by
 refine ⟨fun x hx y hy=>?_,fun x hx=>?_,fun x hx y hy z hz=>?_,fun x hx y hy z hz=>?_,?_,?_⟩
 ·obtain ⟨c,c1,_⟩:=compareBehind_eq (h.1 x hx) (h.1 y hy)
  unfold cfB;rw [c1];rfl
 ·rw [lt0B_f (h.1 x hx) (h.1 x hx)];unfold BH;omega
 ·rw [lt0B (h.1 x hx) (h.1 y hy),lt0B (h.1 y hy) (h.1 z hz),lt0B (h.1 x hx) (h.1 z hz)]
  unfold BH;omega
 ·rw [lt0B_f (h.1 x hx) (h.1 y hy),lt0B_f (h.1 y hy) (h.1 z hz),lt0B_f (h.1 x hx) (h.1 z hz)]
  unfold BH;omega
 ·refine h.2.1.imp_of_mem fun {x y} hx hy hne=>?_
  rw [lt0B (h.1 x hx) (h.1 y hy),lt0B (h.1 y hy) (h.1 x hx)]
  have:=keyB_ne (h.1 x hx) (h.1 y hy) hne
  unfold BH;omega
 ·have:=h.2.2;omega
theorem sortB_eq {l r:List Entrant} (h:EntrOk l) (hp:r.Perm l) (hs:r.Pairwise BH):slices_SortFunc_Entrant_p l (fun a0 a1=>impl_compareBehind_p a0 a1)=some r:=by
 unfold slices_SortFunc_Entrant_p sortF
 rw [show (fun a0 a1=>impl_compareBehind_p a0 a1)=cfB from rfl,if_pos (goodB h)]
 congr 1
 refine ((goodB h).uniq hp ?_).symm
 refine hs.imp_of_mem fun {x y} hx hy k=>?_
 rw [lt0B_f (h.1 y (hp.mem_iff.1 hy)) (h.1 x (hp.mem_iff.1 hx))]
 unfold BH at k ⊢;omega
theorem rankGroups_l2 (x22:List (List Int)) (hx:x22.length ≤ 1000) (hg:∀ g ∈ x22,g.length ≤ 1000):∀ (gs pre:List (List Int)) (fuel:Nat),x22=pre++gs→gs.length < fuel→impl_rankGroups_l2 x22 fuel (pre.map sortI++gs) (pre.map sortI++gs) (pre.length:Int)=some (x22.map sortI,true):=by
 intro gs
 induction gs with
 | nil =>
  intro pre fuel h1 hf
  obtain ⟨f,rfl⟩:=Nat.exists_eq_succ_of_ne_zero (by omega:fuel ≠ 0)
  rw [List.append_nil] at h1 ⊢
  rw [impl_rankGroups_l2,decide_eq_false (by rw [h1];omega),cond_false,h1]
 | cons g gs ih =>
  intro pre fuel h1 hf
  obtain ⟨f,rfl⟩:=Nat.exists_eq_succ_of_ne_zero (by omega:fuel ≠ 0)
  simp only [List.length_cons] at hf
  have hgl:=hg g (by rw [h1];simp)
  have hpl:pre.length < 1000:=by rw [h1] at hx;simp at hx;omega
  have hml:(pre.map sortI).length=pre.length:=List.length_map _
  have hgi:getI (pre.map sortI++g::gs) (pre.length:Int)=some g:=getI_pre _ _ _ (by rw [hml])
  have hst:(pre.map sortI++g::gs).set ((pre.length:Int)).toNat (sortI g)=pre.map sortI++sortI g::gs:=by rw [← hml];exact set_pre1 _ g _ gs
  have hsrt:slices_Sort_int_p g=some (sortI g):=by
   unfold slices_Sort_int_p
   rw [show Nat.blt g.length 4611686018427387904=true from by rw [Nat.blt_eq];omega]
   rfl
  rw [impl_rankGroups_l2,decide_eq_true (by rw [h1];simp;omega),cond_true,bnd hgi,bnd hsrt,hst,w64_in (by omega)]
  have:=ih (pre++[g]) f (by rw [h1];simp) (by omega)
  rw [List.map_append,List.map_cons,List.map_nil,List.append_assoc,List.singleton_append,show (((pre++[g]).length:Nat):Int)=(pre.length:Int)+1 from by simp] at this
  exact this
theorem rankGroups_l1 (l:List Entrant) (size:Int) (fuel:Nat):∀ (ys:List Entrant) (k:Nat) (acc:List Int),acc.length+ys.length ≤ 1000→impl_rankGroups_l1 l size fuel ys k acc=impl_rankGroups_l1 l size fuel [] 0 (acc++ys.map fun e=>e.skater):=by
 intro ys
 induction ys with
 | nil=>intro k acc _;rw [impl_rankGroups_l1,impl_rankGroups_l1];simp
 | cons y ys ih =>
  intro k acc h
  simp only [List.length_cons] at h
  have hu:impl_rankGroups_l1 l size fuel (y::ys) k acc=impl_rankGroups_l1 l size fuel ys (k+1) (acc++[y.skater]):=by
   rw [impl_rankGroups_l1,fits_of (by simp;omega),need_t,Option.bind_some]
  rw [hu,ih (k+1) _ (by simp;omega)]
  simp
theorem groups_len {S:Nat} {r:List Entrant} (hr:r.length ≤ 40):∀ g ∈ cutN (sizN r.length (manyK r.length S)) r,g.length ≤ 40:=by
 have key:∀ (ns:List Nat) (s:List Entrant),∀ g ∈ cutN ns s,g.length ≤ s.length:=by
  intro ns
  induction ns with
  | nil=>intro s g hg;simp [cutN] at hg
  | cons n ns ih =>
   intro s g hg
   rw [cutN] at hg
   rcases List.mem_cons.1 hg with rfl | hg
   ·rw [List.length_take];omega
   ·have:=ih _ g hg;rw [List.length_drop] at this;omega
 intro g hg
 have:=key _ _ g hg
 omega
theorem cutN_len {α:Type}:∀ (ns:List Nat) (s:List α),(cutN ns s).length=ns.length:=by
 intro ns
 induction ns with
 | nil=>intro s;rfl
 | cons n ns ih=>intro s;rw [cutN,List.length_cons,List.length_cons,ih]
theorem rankGroups_eq {l r:List Entrant} (h:EntrOk l) (hp:r.Perm l) (hs:r.Pairwise BH) (S:Nat) (hS:1 ≤ S∧S ≤ 8) (h1:1 ≤ manyK l.length S) (fuel:Nat) (hf:1048576 < fuel) :
  impl_rankGroups_p fuel l (S:Int)=if manyK l.length S > 8 then some ([],false) else some (groupsK S r,true):=by
 have hl:=h.2.2
 have hrl:=hp.length_eq
 have hm:w64 ((w64 ((w64 ((l.length:Int)+(S:Int))) - 1)).tdiv (S:Int))=(manyK l.length S:Int):=by
  rw [w64_in (n:=(l.length:Int)+S) (by omega),w64_in (n:=(l.length:Int)+S - 1) (by omega),show (l.length:Int)+S - 1=((l.length+S - 1:Nat):Int) from by omega]
  have:((l.length+S - 1:Nat):Int).tdiv (S:Int)=(manyK l.length S:Int):=rfl
  rw [this,w64_in]
  have:manyK l.length S ≤ l.length+S - 1:=Nat.div_le_self _ _
  omega
 unfold impl_rankGroups_p
 rw [show ((S:Int) != 0)=true from by simp only [bne_iff_ne,ne_eq];omega,need_t,Option.bind_some,hm]
 by_cases c2:manyK l.length S > 8
 ·rw [decide_eq_true (by omega),if_pos c2];rfl
 ·rw [decide_eq_false (by omega),if_neg c2,cond_false,fits_of (by omega),need_t,Option.bind_some,bnd (sortB_eq h hp hs),rankGroups_l1 l _ fuel r 0 [] (by simp;omega),impl_rankGroups_l1,hm,bnd (evenSizes_eq l.length (manyK l.length S) h1 (by omega) (by omega) fuel hf),sizK_N,List.nil_append]
  unfold impl_cutInto_p
  rw [bnd (cutInto_l (sizN l.length (manyK l.length S)) 0 (r.map fun e=>e.skater) [] (by rw [sizN_sum _ _ h1,List.length_map,hrl];exact Nat.le_refl _) (by rw [List.length_map];omega) (by simp [sizN];omega)),List.nil_append]
  have hcl:=cutN_len (sizN l.length (manyK l.length S)) (r.map fun e=>e.skater)
  have hsl:(sizN l.length (manyK l.length S)).length=manyK l.length S:=by unfold sizN;simp
  have:=rankGroups_l2 (cutN (sizN l.length (manyK l.length S)) (r.map fun e=>e.skater)) (by omega) (fun g hg=>by
   rw [cutN_map] at hg
   obtain ⟨q,hq,rfl⟩:=List.mem_map.1 hg
   rw [List.length_map]
   rw [← hrl] at hq
   have:=groups_len (S:=S) (r:=r) (by omega) q hq
   omega) (cutN (sizN l.length (manyK l.length S)) (r.map fun e=>e.skater)) [] fuel rfl (by omega)
  rw [show impl_rankGroups_l2 (cutN (sizN l.length (manyK l.length S)) (r.map fun e=>e.skater)) fuel (cutN (sizN l.length (manyK l.length S)) (r.map fun e=>e.skater)) (cutN (sizN l.length (manyK l.length S)) (r.map fun e=>e.skater)) 0=_ from this,cutN_map,List.map_map]
  unfold groupsK
  rw [hrl]
  rfl

end Go.Proofs.YtegdphhfimaieabGreat

/- Plain lemmas: what the functions compute is what the reference says, in plain Lean. No condition. -/
import Derived.Test.YtegdphhfimaieaaGreatPEvent2
set_option maxRecDepth 4000
set_option maxHeartbeats 1000000
set_option linter.unusedVariables false
set_option linter.unusedSimpArgs false
set_option linter.unusedSectionVars false

namespace Go.Proofs.YtegdphhfimaieaaGreat
open Go.AM

theorem plc_snoc {l:List Int} {x:Int} (n:Int) (hx:x ∉ l):plc (l++[x]) n=if n=x then (l.length:Int) else plc l n:=by
 unfold plc
 by_cases h:n=x
 ·subst h
  simp [List.idxOf_append,hx]
 ·by_cases h2:n ∈ l
  ·simp [List.idxOf_append,h,h2]
  ·simp [h,h2]
theorem plc_nil (n:Int):plc [] n=-1:=rfl
theorem set_map {l:List Int} {s:Int} (hl:l.Pairwise (· ≠ ·)) (hs:s ∈ l) (f:Int→Entrant) (z:Entrant):(l.map f).set (l.idxOf s) z=l.map fun n=>if n=s then z else f n:=by
 obtain ⟨A,B,rfl,hA⟩:=List.eq_append_cons_of_mem hs
 have hB:s ∉ B:=fun h=>by
  have:=(List.pairwise_append.1 hl).2.1
  exact (List.pairwise_cons.1 this).1 s h rfl
 rw [List.idxOf_append,if_neg hA,List.idxOf_cons_self,List.map_append,List.map_cons,List.set_append]
 simp only [List.length_map,Nat.zero_add,Nat.lt_irrefl,if_false,Nat.sub_self,List.set_cons_zero,List.map_append,List.map_cons,if_true]
 congr 1
 ·exact List.map_congr_left fun a ha=>by rw [if_neg (fun e:a=s=>hA (e ▸ ha))]
 ·congr 1
  exact List.map_congr_left fun a ha=>by rw [if_neg (fun e:a=s=>hB (e ▸ ha))]
def rkd (sk:List Int) (l:List Rank):List Int:=(l.filter fun x=>decide (x.skater ∈ sk)).map fun x=>x.skater
theorem rkd_snoc (sk:List Int) (l:List Rank) (y:Rank):rkd sk (l++[y])=rkd sk l++if y.skater ∈ sk then [y.skater] else []:=by
 unfold rkd
 rw [List.filter_append,List.map_append]
 congr 1
 by_cases h:y.skater ∈ sk <;> simp [h]
theorem rkd_len (sk:List Int) (l:List Rank):(rkd sk l).length ≤ l.length:=by
 unfold rkd;rw [List.length_map];exact List.length_filter_le _ _
theorem seeds_l1 (sk:List Int) (l:List Rank) (hl:l.length ≤ 1000):∀ (ys pre:List Rank),l=pre++ys→spec_SeedsFor_l1 sk ys pre.length (rkd sk pre)=spec_SeedsFor_l2 (rkd sk l) sk 0 []:=by
 intro ys
 induction ys with
 | nil=>intro pre h;rw [List.append_nil] at h;subst h;rw [spec_SeedsFor_l1]
 | cons y ys ih =>
  intro pre h
  rw [spec_SeedsFor_l1]
  have e:=ih (pre++[y]) (by rw [h];simp)
  rw [rkd_snoc,List.length_append] at e
  obtain ⟨b,h1,h2⟩:=ret_l1Has sk y.skater
  rw [bnd h1]
  have hp:=rkd_len sk pre
  have hk:pre.length ≤ 1000:=by rw [h] at hl;simp at hl;omega
  cases b
  ·rw [cond_false]
   rw [if_neg fun k=>by simpa using h2.2 k,List.append_nil] at e
   exact e
  ·rw [cond_true,fits_of (by simp;omega),need_t,Option.bind_some]
   rw [if_pos (h2.1 rfl)] at e
   exact e
theorem seeds_l2 (r:List Int) (hr:r.length ≤ 1000):∀ (ys:List Int) (k:Nat) (acc:List Entrant),acc.length+ys.length ≤ 1000→spec_SeedsFor_l2 r ys k acc=some (acc++ys.map fun n=>(⟨n,plc r n+1⟩:Entrant),true):=by
 intro ys
 induction ys with
 | nil=>intro k acc _;rw [spec_SeedsFor_l2];simp
 | cons y ys ih =>
  intro k acc h
  simp only [List.length_cons] at h
  have hp:-1 ≤ plc r y∧plc r y ≤ 1000:=by
   unfold plc
   split
   ·have:=List.idxOf_le_length (l:=r) (a:=y);omega
   ·omega
  rw [spec_SeedsFor_l2,bnd (soPlace_eq r y),fits_of (by simp;omega),need_t,Option.bind_some,w64_in (by omega),ih (k+1) _ (by simp;omega)]
  simp
theorem seeds_i2 (sk:List Int) (hs:sk.Pairwise (· ≠ ·)) (l:List Rank) (hl:l.length ≤ 1000) (hd:l.Pairwise (fun a b=>a.skater ≠ b.skater)):∀ (ys pre:List Rank),l=pre++ys →
  impl_SeedsFor_l2 sk ys pre.length (sk.map fun n=>(⟨n,plc (rkd sk pre) n+1⟩:Entrant)) (rkd sk pre).length=some (sk.map fun n=>(⟨n,plc (rkd sk l) n+1⟩:Entrant),true):=by
 intro ys
 induction ys with
 | nil=>intro pre h;rw [List.append_nil] at h;subst h;rw [impl_SeedsFor_l2]
 | cons y ys ih =>
  intro pre h
  rw [impl_SeedsFor_l2]
  have e:=ih (pre++[y]) (by rw [h];simp)
  rw [rkd_snoc,List.length_append] at e
  rw [bnd (index_eq sk y.skater)]
  have hp:=rkd_len sk pre
  have hk:pre.length ≤ 1000:=by rw [h] at hl;simp at hl;omega
  have hy:y.skater ∉ rkd sk pre:=by
   unfold rkd
   intro hm
   obtain ⟨x,hx,e⟩:=List.mem_map.1 hm
   rw [h] at hd
   exact (List.pairwise_append.1 hd).2.2 x (List.mem_filter.1 hx).1 y (by simp) e
  by_cases hin:y.skater ∈ sk
  ·have hpl:plc sk y.skater=(sk.idxOf y.skater:Int):=by unfold plc;rw [if_pos hin]
   have hlt:=List.idxOf_lt_length_iff.2 hin
   rw [hpl,decide_eq_true (by omega),cond_true,bnd (getI_lt_some (by simpa using hlt))]
   rw [if_pos hin] at e
   rw [w64_in (by omega)]
   rw [show ((sk.idxOf y.skater:Int)).toNat=sk.idxOf y.skater from by omega,set_map hs hin]
   have hz:(sk.map fun n=>(⟨n,plc (rkd sk pre) n+1⟩:Entrant))[sk.idxOf y.skater]'(by simpa using hlt)=⟨y.skater,plc (rkd sk pre) y.skater+1⟩:=by
    rw [List.getElem_map]
    simp
   rw [hz]
   dsimp only
   have hm:(sk.map fun n=>if n=y.skater then (⟨y.skater,((rkd sk pre).length:Int)+1⟩:Entrant) else ⟨n,plc (rkd sk pre) n+1⟩)=sk.map fun n=>(⟨n,plc (rkd sk pre++[y.skater]) n+1⟩:Entrant):=by
    refine List.map_congr_left fun n _=>?_
    rw [plc_snoc n hy]
    by_cases hn:n=y.skater
    ·simp [hn]
    ·simp [hn]
   rw [hm]
   have hlen:(((rkd sk pre++[y.skater]).length:Nat):Int)=((rkd sk pre).length:Int)+1:=by simp
   rw [← hlen]
   exact e
  ·have hpl:plc sk y.skater=-1:=by unfold plc;rw [if_neg hin]
   rw [hpl,decide_eq_false (by omega),cond_false]
   rw [if_neg hin,List.append_nil] at e
   exact e
theorem seeds_i1 (w:World) (sk:List Int) (fuel:Nat):∀ (ys:List Int) (k:Nat) (acc:List Entrant),acc.length+ys.length ≤ 1000→impl_SeedsFor_l1 w sk fuel ys k acc=(impl_worldList_p fuel w).bind fun x18=>impl_SeedsFor_l2 sk x18 0 (acc++ys.map fun n=>(⟨n,0⟩:Entrant)) 0:=by
 intro ys
 induction ys with
 | nil=>intro k acc _;rw [impl_SeedsFor_l1];simp
 | cons y ys ih =>
  intro k acc h
  simp only [List.length_cons] at h
  rw [impl_SeedsFor_l1,fits_of (by simp;omega),need_t,Option.bind_some,ih (k+1) _ (by simp;omega)]
  simp
theorem same_SeedsFor (w:World) (hb:nWorld w ≤ 1048576) (sk:List Int) (fuel:Nat) (hf:1048576 < fuel):∃ r:List Entrant × Bool,spec_SeedsFor_p fuel w sk=some r∧impl_SeedsFor_p fuel w sk=some r∧r.1.length ≤ 40:=by
 unfold spec_SeedsFor_p impl_SeedsFor_p
 rcases both_world w hb fuel hf with ⟨h1,h2,h3⟩ | ⟨h1,h2,h3⟩
 ·rw [bnd h1,bnd h2]
  simp only [Bool.not_true,Bool.not_false,opt_t,Bool.false_or]
  obtain ⟨b,o1,o2⟩:=(ret_soOrder sk).same (ret_isOrder sk) Iff.rfl
  obtain ⟨_,e1,e2⟩:=ret_soOrder sk
  obtain rfl:_=b:=Option.some.inj (e1.symm.trans o1)
  rw [bnd o1,bnd o2]
  rename_i b'
  cases hbb:b'
  ·exact ⟨_,rfl,rfl,by simp⟩
  have ok:=e2.1 hbb
  simp only [Bool.not_true,cond_false]
  obtain ⟨L,r1,r2,r3,r4⟩:=same_worldList w hb h3 fuel hf
  have hd:L.Pairwise (fun a b=>a.skater ≠ b.skater):=by
   have hp:(L.map fun x=>x.skater).Perm (skatersW w):=by
    refine (r4.map _).trans ?_
    rw [List.map_map]
    have:((fun y:Rank=>y.skater) ∘ mkP w ((skatersW w).map (totW w)))=id:=by funext s;rfl
    rw [this,List.map_id]
   have hn:(skatersW w).Nodup:=(skatersW_lt w).imp fun h=>by omega
   have:=hp.nodup_iff.2 hn
   exact List.pairwise_map.1 this
  rw [bnd r1,show spec_SeedsFor_l1 sk L 0 []=_ from seeds_l1 sk L (by omega) L [] rfl,seeds_l2 _ (by have:=rkd_len sk L;omega) sk 0 [] (by have:=ok.2.2;simp;omega),seeds_i1 w sk fuel sk 0 [] (by have:=ok.2.2;simp;omega),bnd r2]
  refine ⟨_,rfl,?_,by have:=ok.2.2;simpa using this⟩
  have:=seeds_i2 sk ok.2.1 L (by omega) hd L [] rfl
  simpa [show rkd sk []=[] from rfl,plc_nil] using this
 ·rw [bnd h1,bnd h2]
  exact ⟨_,rfl,rfl,by simp⟩

end Go.Proofs.YtegdphhfimaieaaGreat

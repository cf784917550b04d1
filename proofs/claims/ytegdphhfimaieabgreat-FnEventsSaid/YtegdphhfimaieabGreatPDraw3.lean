/- Plain lemmas: what the functions compute is what the reference says, in plain Lean. No condition. -/
import Derived.Test.YtegdphhfimaieabGreatPDraw2
set_option maxRecDepth 4000
set_option maxHeartbeats 1000000
set_option linter.unusedVariables false
set_option linter.unusedSimpArgs false
set_option linter.unusedSectionVars false

namespace Go.Proofs.YtegdphhfimaieabGreat
open Go.AM

def sizN (n G:Nat):List Nat:=(List.range G).map fun g=>n / G+if g < n % G then 1 else 0
theorem sizK_N (n G:Nat):sizK n G=(sizN n G).map fun k:Nat=>(k:Int):=by unfold sizK sizN;rw [List.map_map];rfl
theorem sizN_sum (n G:Nat) (hG:0 < G):(sizN n G).sum=n:=by
 have ht:=Nat.mod_lt n hG
 have hd:=Nat.div_add_mod n G
 unfold sizN
 generalize n / G=q at *
 generalize n % G=t at *
 have key:∀ j,((List.range j).map fun g=>q+if g < t then 1 else 0).sum=j * q+min j t:=by
  intro j
  induction j with
  | zero=>simp
  | succ j ih =>
   rw [List.range_succ,List.map_append,List.sum_append,ih,Nat.succ_mul]
   simp only [List.map_cons,List.map_nil,List.sum_cons,List.sum_nil]
   split <;> omega
 rw [key G]
 omega
def cutN {α:Type}:List Nat→List α→List (List α)
 | [],_=>[]
 | n::ns,s=>s.take n::cutN ns (s.drop n)
theorem cutN_map {α β:Type} (f:α→β):∀ (ns:List Nat) (s:List α),cutN ns (s.map f)=(cutN ns s).map (List.map f):=by
 intro ns
 induction ns with
 | nil=>intro s;rfl
 | cons n ns ih=>intro s;rw [cutN,cutN,List.map_cons,← List.map_take,← List.map_drop,ih]
theorem cutN_flat {α:Type}:∀ (ns:List Nat) (s:List α),ns.sum=s.length→(cutN ns s).flatten=s:=by
 intro ns
 induction ns with
 | nil=>intro s h;exact (List.eq_nil_of_length_eq_zero h.symm).symm
 | cons n ns ih =>
  intro s h
  rw [List.sum_cons] at h
  rw [cutN,List.flatten_cons,ih _ (by rw [List.length_drop];omega),List.take_append_drop]
theorem put_all {fuel:Nat} (hf:1048576 < fuel) (y8:Int) (v103:List Entrant) (v104:List (List Int)):∀ (ys:List Entrant) (k:Nat) (acc:List Int),acc.Pairwise (· < ·)→acc.length+ys.length ≤ 999 →
  ∃ r,spec_soGroups_l2 fuel y8 v103 v104 ys k acc=spec_soGroups_l2 fuel y8 v103 v104 [] 0 r∧r.Pairwise (· < ·)∧(∀ x,x ∈ r↔x ∈ acc ∨ x ∈ ys.map fun e=>e.skater):=by
 intro ys
 induction ys with
 | nil=>intro k acc h1 h2;exact ⟨acc,by rw [spec_soGroups_l2,spec_soGroups_l2],h1,by simp⟩
 | cons y ys ih =>
  intro k acc h1 h2
  simp only [List.length_cons] at h2
  obtain ⟨l',e1,e2,e3,e4⟩:=put_eq acc y.skater h1 (by omega) fuel hf
  obtain ⟨r,r1,r2,r3⟩:=ih (k+1) l' e2 (by omega)
  refine ⟨r,?_,r2,fun x=>?_⟩
  ·rw [← r1,spec_soGroups_l2,bnd e1]
  ·rw [r3,e3,List.map_cons,List.mem_cons]
   constructor
   ·rintro ((h | h) | h)
    ·exact .inl h
    ·exact .inr (.inl h)
    ·exact .inr (.inr h)
   ·rintro (h | h | h)
    ·exact .inl (.inl h)
    ·exact .inl (.inr h)
    ·exact .inr h
theorem sortI_lt {l:List Int} (h:l.Nodup):(sortI l).Pairwise (· < ·):=((sortI_le l).and ((sortI_perm l).nodup_iff.2 h)).imp fun h=>by omega
def grpS (s:List Entrant):List Int:=sortI (s.map fun e=>e.skater)
theorem soGroups_l1 {fuel:Nat} (hf:1048576 < fuel):∀ (ns:List Nat) (k:Nat) (s:List Entrant) (acc:List (List Int)),ns.sum ≤ s.length→s.length ≤ 900→acc.length+ns.length ≤ 900→(s.map fun e=>e.skater).Nodup →
  spec_soGroups_l1 fuel (ns.map fun k:Nat=>(k:Int)) k s acc=some (acc++(cutN ns s).map grpS,true):=by
 intro ns
 induction ns with
 | nil=>intro k s acc _ _ _ _;rw [List.map_nil,spec_soGroups_l1,cutN];simp
 | cons n ns ih =>
  intro k s acc h1 h2 h3 h4
  rw [List.sum_cons] at h1
  simp only [List.length_cons] at h3
  rw [List.map_cons,spec_soGroups_l1,bnd (sliceHi_of rfl (by omega))]
  obtain ⟨r,r1,r2,r3⟩:=put_all hf (n:Int) s acc (s.take n) 0 [] List.Pairwise.nil (by simp;omega)
  have hr:r=grpS (s.take n):=by
   have hnd:((s.take n).map fun e=>e.skater).Nodup:=by rw [List.map_take];exact h4.sublist (List.take_sublist _ _)
   refine lt_mem_eq r2 (sortI_lt hnd) fun x=>?_
   rw [r3]
   unfold grpS
   rw [(sortI_perm _).mem_iff]
   simp
  have hdn:((s.drop n).map fun e=>e.skater).Nodup:=by rw [List.map_drop];exact h4.sublist (List.drop_sublist _ _)
  rw [r1,spec_soGroups_l2,fits_of (by simp;omega),need_t,Option.bind_some,bnd (sliceLo_of rfl (by omega)),Option.bind_some]
  dsimp only
  rw [ih (k+1) _ _ (by rw [List.length_drop];omega) (by rw [List.length_drop];omega) (by simp;omega) hdn,hr,cutN]
  simp
def manyK (n S:Nat):Nat:=(n+S - 1) / S
def groupsK (S:Nat) (r:List Entrant):List (List Int):=(cutN (sizN r.length (manyK r.length S)) r).map grpS
theorem soGroups_ex {l:List Entrant} (h:EntrOk l) (S:Nat) (hS:1 ≤ S∧S ≤ 8) (fuel:Nat) (hf:1048576 < fuel) :
  (manyK l.length S=0∧spec_soGroups_p fuel l (S:Int)=some ([],true)) ∨ (manyK l.length S > 8∧spec_soGroups_p fuel l (S:Int)=some ([],false)) ∨
  (1 ≤ manyK l.length S∧manyK l.length S ≤ 8∧∃ r,r.Perm l∧r.Pairwise BH∧spec_soGroups_p fuel l (S:Int)=some (groupsK S r,true)):=by
 have hl:=h.2.2
 have hm:w64 ((w64 ((w64 ((l.length:Int)+(S:Int))) - 1)).tdiv (S:Int))=(manyK l.length S:Int):=by
  rw [w64_in (n:=(l.length:Int)+S) (by omega),w64_in (n:=(l.length:Int)+S - 1) (by omega),show (l.length:Int)+S - 1=((l.length+S - 1:Nat):Int) from by omega]
  have:((l.length+S - 1:Nat):Int).tdiv (S:Int)=(manyK l.length S:Int):=rfl
  rw [this,w64_in]
  have:manyK l.length S ≤ l.length+S - 1:=Nat.div_le_self _ _
  omega
 unfold spec_soGroups_p
 rw [show ((S:Int) != 0)=true from by simp only [bne_iff_ne,ne_eq];omega,need_t,Option.bind_some,hm]
 rcases Nat.eq_zero_or_pos (manyK l.length S) with c | c
 ·left
  rw [c];exact ⟨rfl,rfl⟩
 ·rw [show ((manyK l.length S:Int) == 0)=false from by simp only [beq_eq_false_iff_ne,ne_eq];omega,cond_false]
  by_cases c2:manyK l.length S > 8
  ·right;left
   rw [decide_eq_true (by omega)];exact ⟨c2,rfl⟩
  ·right;right
   rw [decide_eq_false (by omega),cond_false]
   refine ⟨by omega,by omega,?_⟩
   obtain ⟨r,r1,r2,r3⟩:=soSorted_ex h fuel (by omega)
   have hrl:=r2.length_eq
   refine ⟨r,r2,r3,?_⟩
   have hnd:(r.map fun e=>e.skater).Nodup:=by
    rw [(r2.map _).nodup_iff]
    unfold List.Nodup
    rw [List.pairwise_map]
    exact h.2.1.imp fun h=>h.1
   rw [bnd r1,bnd (dwSizes_eq l.length (manyK l.length S) c (by omega) (by omega) fuel hf),sizK_N]
   rw [soGroups_l1 hf (sizN l.length (manyK l.length S)) 0 r [] (by rw [sizN_sum _ _ c,hrl];exact Nat.le_refl _) (by omega) (by simp [sizN];omega) hnd]
   unfold groupsK
   rw [hrl]
   rfl
def startK (K:List Int):Nat→List (List Int)→List Int
 | _,[]=>[]
 | k,g::gs=>numsK (K++[(k:Int)]) g++startK K (k+1) gs
theorem startK_perm (K:List Int) (h:keyOk K) (hl:K.length ≤ 700):∀ (gs:List (List Int)) (k:Nat),k+gs.length ≤ 1000→(∀ g ∈ gs,g.length ≤ 1000)→(startK K k gs).Perm gs.flatten:=by
 intro gs
 induction gs with
 | nil=>intro k _ _;exact List.Perm.refl _
 | cons g gs ih =>
  intro k h1 h2
  simp only [List.length_cons] at h1
  rw [startK,List.flatten_cons]
  exact (numsK_perm _ g (keyOk_add h (keyOk_1 (by omega))) (by simp;omega) (by have:=h2 g (by simp);omega)).append (ih (k+1) (by omega) fun x hx=>h2 x (by simp [hx]))
theorem startOrder_l1 (K:List Int) (h:keyOk K) (hl:K.length ≤ 700) (fuel:Nat) (hf:1048576 < fuel) (x7:List (List Int) × Bool):∀ (gs:List (List Int)) (k:Nat) (acc:List Int),k+gs.length ≤ 1000→(∀ g ∈ gs,g.length ≤ 1000)→acc.length+gs.flatten.length ≤ 100000 →
  spec_StartOrder_l1 K fuel x7 gs k acc=some (acc++startK K k gs,x7.2):=by
 intro gs
 induction gs with
 | nil=>intro k acc _ _ _;rw [spec_StartOrder_l1,startK];simp
 | cons g gs ih =>
  intro k acc h1 h2 h3
  simp only [List.length_cons] at h1
  rw [List.flatten_cons,List.length_append] at h3
  have hg:=h2 g (by simp)
  have hk:keyOk (K++[(k:Int)]):=keyOk_add h (keyOk_1 (by omega))
  have hp:=numsK_perm (K++[(k:Int)]) g hk (by simp;omega) (by omega)
  rw [spec_StartOrder_l1,bnd (own_l K (by omega)),fits_of (by simp;omega),need_t,Option.bind_some,bnd (dwNumbers_eq _ g hk (by simp;omega) (by omega) fuel hf),fits_of (by rw [hp.length_eq];omega),need_t,Option.bind_some]
  rw [ih (k+1) _ (by omega) (fun x hx=>h2 x (by simp [hx])) (by rw [List.length_append,hp.length_eq];omega),startK,List.append_assoc]

end Go.Proofs.YtegdphhfimaieabGreat

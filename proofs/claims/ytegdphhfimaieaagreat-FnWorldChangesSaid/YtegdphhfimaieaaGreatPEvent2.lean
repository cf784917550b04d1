/- Plain lemmas: what the functions compute is what the reference says, in plain Lean. No condition. -/
import Derived.Test.YtegdphhfimaieaaGreatPOrder1
set_option maxRecDepth 4000
set_option maxHeartbeats 1000000
set_option linter.unusedVariables false
set_option linter.unusedSimpArgs false
set_option linter.unusedSectionVars false

namespace Go.Proofs.YtegdphhfimaieaaGreat
open Go.AM

def entrOk (x:Entrant):Prop:=(1 ≤ x.skater∧x.skater ≤ 999)∧(0 ≤ x.rank∧x.rank ≤ 999)
def otherE (a b:Entrant):Prop:=a.skater ≠ b.skater∧(a.rank=b.rank→b.rank ≤ 0)
def EntrOk (l:List Entrant):Prop:=(∀ x ∈ l,entrOk x)∧l.Pairwise otherE∧l.length ≤ 40
theorem other_snoc {l:List Entrant} {y:Entrant} (h:l.Pairwise otherE) (hy:∀ x ∈ l,otherE x y):(l++[y]).Pairwise otherE:=by
 rw [List.pairwise_append]
 exact ⟨h,List.pairwise_singleton _ _,fun a ha b hb=>by obtain rfl:=List.mem_singleton.1 hb;exact hy a ha⟩
theorem areEntrants_l2 (y:Entrant):∀ (l:List Entrant) (k:Nat),impl_AreEntrants_l2 y l k=some (.ok ())∧(∀ x ∈ l,otherE x y) ∨ impl_AreEntrants_l2 y l k=some (.error false)∧¬ ∀ x ∈ l,otherE x y:=by
 intro l
 induction l with
 | nil=>intro k;left;rw [impl_AreEntrants_l2];simp
 | cons z l ih =>
  intro k
  rw [impl_AreEntrants_l2]
  by_cases h:otherE z y
  ·have:((z.skater == y.skater) || ((z.rank == y.rank) && decide (y.rank > 0)))=false:=by
    unfold otherE at h
    simp only [Bool.or_eq_false_iff,beq_eq_false_iff_ne,Bool.and_eq_false_iff,decide_eq_false_iff_not,ne_eq]
    refine ⟨h.1,?_⟩
    by_cases e:z.rank=y.rank
    ·right;have:=h.2 e;omega
    ·left;exact e
   rw [this,cond_false]
   rcases ih (k+1) with ⟨h1,h2⟩ | ⟨h1,h2⟩
   ·left;exact ⟨h1,fun x hx=>by rcases List.mem_cons.1 hx with rfl | hx;exact h;exact h2 x hx⟩
   ·right;exact ⟨h1,fun k=>h2 fun x hx=>k x (by simp [hx])⟩
  ·right
   have:((z.skater == y.skater) || ((z.rank == y.rank) && decide (y.rank > 0)))=true:=by
    unfold otherE at h
    simp only [Bool.or_eq_true,beq_iff_eq,Bool.and_eq_true,decide_eq_true_eq]
    by_cases e:z.skater=y.skater
    ·left;exact e
    ·right;by_cases e2:z.rank=y.rank
     ·exact ⟨e2,by by_cases e3:y.rank > 0;exact e3;exact absurd ⟨e,fun _=>by omega⟩ h⟩
     ·exact absurd ⟨e,fun e3=>absurd e3 e2⟩ h
   rw [this,cond_true]
   exact ⟨rfl,fun k=>h (k z (by simp))⟩
theorem ret_AreEntrants_l (l:List Entrant) (hl:l.length ≤ 1048576):∀ (ys pre:List Entrant),l=pre++ys→(∀ s ∈ pre,entrOk s)→pre.Pairwise otherE→Ret (impl_AreEntrants_l1 l ys pre.length) (EntrOk l):=by
 intro ys
 induction ys with
 | nil =>
  intro pre h1 h2 h3
  rw [List.append_nil] at h1
  rw [impl_AreEntrants_l1]
  refine .some ?_
  unfold EntrOk
  rw [decide_eq_true_eq,h1]
  exact ⟨fun h=>⟨h2,h3,by omega⟩,fun h=>by have:=h.2.2;omega⟩
 | cons y ys ih =>
  intro pre h1 h2 h3
  have hy:y ∈ l:=by rw [h1];simp
  rw [impl_AreEntrants_l1]
  obtain ⟨b,e1,e2⟩:=ret_isSkater y.skater
  rw [bnd e1]
  cases b
  ·exact .f fun k=>by have:=e2.2 (k.1 y hy).1;simp at this
  simp only [Bool.not_true,Bool.not_false,opt_t,Bool.false_or]
  obtain ⟨b,f1,f2⟩:=ret_within y.rank 0 999
  rw [bnd f1]
  cases b
  ·exact .f fun k=>by have:=f2.2 (k.1 y hy).2;simp at this
  simp only [Bool.not_true,cond_false]
  rw [bnd (show sliceHi l (pre.length:Int)=some pre from by rw [h1];exact sliceHi_pre pre (y::ys) rfl)]
  rcases areEntrants_l2 y pre 0 with ⟨g1,g2⟩ | ⟨g1,g2⟩
  ·rw [bnd g1]
   simp only [flow]
   have:=ih (pre++[y]) (by rw [h1];simp) (by
     intro n hn;rcases List.mem_append.1 hn with hn | hn
     ·exact h2 n hn
     ·obtain rfl:=List.mem_singleton.1 hn;exact ⟨e2.1 rfl,f2.1 rfl⟩) (other_snoc h3 g2)
   simpa using this
  ·rw [bnd g1]
   refine .f fun k=>g2 fun x hx=>?_
   have:=k.2.1
   rw [h1,List.pairwise_append] at this
   exact this.2.2 x hx y (by simp)
theorem ret_AreEntrants (l:List Entrant) (hl:l.length ≤ 1048576):Ret (impl_AreEntrants_p l) (EntrOk l):=ret_AreEntrants_l l hl l [] rfl (by simp) List.Pairwise.nil

end Go.Proofs.YtegdphhfimaieaaGreat

/- Plain lemmas: what the functions compute is what the reference says, in plain Lean. No condition. -/
import Derived.Test.YtegdphhfimaieabGreatPEvent1
set_option maxRecDepth 4000
set_option maxHeartbeats 1000000
set_option linter.unusedVariables false
set_option linter.unusedSimpArgs false
set_option linter.unusedSectionVars false

namespace Go.Proofs.YtegdphhfimaieabGreat
open Go.AM

def OrderOk (l:List Int):Prop:=(∀ s ∈ l,1 ≤ s∧s ≤ 999)∧l.Pairwise (· ≠ ·)∧l.length ≤ 40
theorem ne_snoc {l:List Int} {y:Int} (h:l.Pairwise (· ≠ ·)) (hy:y ∉ l):(l++[y]).Pairwise (· ≠ ·):=by
 rw [List.pairwise_append]
 exact ⟨h,List.pairwise_singleton _ _,fun a ha b hb e=>by obtain rfl:=List.mem_singleton.1 hb;exact hy (e ▸ ha)⟩
theorem ret_soOrder_l (l:List Int):∀ (ys pre:List Int),l=pre++ys→(∀ s ∈ pre,1 ≤ s∧s ≤ 999)→pre.Pairwise (· ≠ ·)→Ret (spec_soOrder_l1 l ys pre.length) (OrderOk l):=by
 intro ys
 induction ys with
 | nil =>
  intro pre h1 h2 h3
  rw [List.append_nil] at h1
  rw [spec_soOrder_l1]
  refine .some ?_
  unfold OrderOk
  rw [decide_eq_true_eq,h1]
  exact ⟨fun h=>⟨h2,h3,by omega⟩,fun h=>by have:=h.2.2;omega⟩
 | cons y ys ih =>
  intro pre h1 h2 h3
  have hy:y ∈ l:=by rw [h1];simp
  rw [spec_soOrder_l1]
  refine (ret_l1In y 1 999).bindR (fun h=>?_) (fun h=>.f fun k=>h (k.1 y hy))
  simp only [Bool.not_true,Bool.not_false,opt_t,Bool.false_or]
  rw [bnd (show sliceHi l (pre.length:Int)=some pre from by rw [h1];exact sliceHi_pre pre (y::ys) rfl)]
  refine (ret_l1Has pre y).bindR (fun hin=>.f fun k=>?_) (fun hin=>?_)
  ·have:=k.2.1
   rw [h1,List.pairwise_append] at this
   exact this.2.2 y hin y (by simp) rfl
  ·simp only [cond_false]
   have:=ih (pre++[y]) (by rw [h1];simp) (by
    intro n hn;rcases List.mem_append.1 hn with hn | hn
    ·exact h2 n hn
    ·obtain rfl:=List.mem_singleton.1 hn;exact h) (ne_snoc h3 hin)
   simpa using this
theorem ret_soOrder (l:List Int):Ret (spec_soOrder_p l) (OrderOk l):=ret_soOrder_l l l [] rfl (by simp) List.Pairwise.nil
theorem ret_isOrder_l (l:List Int):∀ (ys pre:List Int),l=pre++ys→(∀ s ∈ pre,1 ≤ s∧s ≤ 999)→pre.Pairwise (· ≠ ·)→Ret (impl_isOrder_l1 l ys pre.length) (OrderOk l):=by
 intro ys
 induction ys with
 | nil =>
  intro pre h1 h2 h3
  rw [List.append_nil] at h1
  rw [impl_isOrder_l1]
  refine .some ?_
  unfold OrderOk
  rw [decide_eq_true_eq,h1]
  exact ⟨fun h=>⟨h2,h3,by omega⟩,fun h=>by have:=h.2.2;omega⟩
 | cons y ys ih =>
  intro pre h1 h2 h3
  have hy:y ∈ l:=by rw [h1];simp
  rw [impl_isOrder_l1]
  refine (ret_isSkater y).bindR (fun h=>?_) (fun h=>.f fun k=>h (k.1 y hy))
  simp only [Bool.not_true,Bool.not_false,opt_t,Bool.false_or]
  rw [bnd (show sliceHi l (pre.length:Int)=some pre from by rw [h1];exact sliceHi_pre pre (y::ys) rfl)]
  refine (contains_eq pre y).bindR (fun hin=>.f fun k=>?_) (fun hin=>?_)
  ·have:=k.2.1
   rw [h1,List.pairwise_append] at this
   exact this.2.2 y hin y (by simp) rfl
  ·simp only [cond_false]
   have:=ih (pre++[y]) (by rw [h1];simp) (by
    intro n hn;rcases List.mem_append.1 hn with hn | hn
    ·exact h2 n hn
    ·obtain rfl:=List.mem_singleton.1 hn;exact h) (ne_snoc h3 hin)
   simpa using this
theorem ret_isOrder (l:List Int):Ret (impl_isOrder_p l) (OrderOk l):=ret_isOrder_l l l [] rfl (by simp) List.Pairwise.nil

end Go.Proofs.YtegdphhfimaieabGreat

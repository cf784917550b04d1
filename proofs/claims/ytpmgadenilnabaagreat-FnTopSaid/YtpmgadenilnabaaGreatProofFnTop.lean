/- For every input the law FnTop returns true, and the input reads as before; no condition. -/
import Derived.Test.YtpmgadenilnabaaGreatP2
import Derived.Test.YtpmgadenilnabaaGreatRows
import Derived.Test.YtpmgadenilnabaaGreatChecked
set_option maxRecDepth 4000
set_option maxHeartbeats 1000000
set_option linter.unusedVariables false
set_option linter.unusedSimpArgs false
set_option linter.unusedSectionVars false

namespace Go.Proofs.YtpmgadenilnabaaGreat
open Go.AM
open Go.ChangeShapes Go.WideShapes Go.ChangeAt Go.RowKit
theorem own:ownKnob Tryz.prog.godebug=none:=by kernel_rfl
set_option maxRecDepth 20000 in
theorem qSo (H:Type) (enc:TypeId × Value→H) (W:Go.World) (base:Nat) (args:Array Value) (ds gs:List (DataW H)) (before:List MemPlace)
    (hval:∀ (j:Nat) t v,Tryz.f3.params[j]?=some t→args[j]?=some v→Value.okWide Tryz.prog W .any base t v)
    (hW:DataW.Whole enc Tryz.prog Tryz.f3.params.toList Rows.fnTopSpec.vars false W args.toList ds gs before) :
    Calls Tryz.prog 3 args W fun e W'=>∃ v,e=.returned v∧Rows.fnTopSpec.post enc Tryz.prog Tryz.f3 false true false false W args v W':=by
  have hW':=hW
  obtain ⟨p,q,hA0,hV,rfl,hfz,hnd⟩:=hW
  have hA:DataW.TrodAll enc Tryz.prog W 0 (fun _=>true) true Tryz.f3.params.toList args.toList ds p:=hA0
  rw [Tryz.params3] at hA hval
  obtain ⟨v0,vs0,d0,ds0,p0,q0,hargs0,rfl,rfl,h0,r0⟩:=trodAll_cons hA
  obtain ⟨v1,vs1,d1,ds1,p1,q1,hargs1,rfl,rfl,h1,r1⟩:=trodAll_cons r0
  obtain ⟨rfl,rfl,rfl⟩:=trodAll_nil r1
  subst hargs1
  obtain rfl:args=#[v0,v1]:=by cases args;simp_all
  obtain ⟨rfl,rfl⟩:=trodVars_none hV
  obtain ⟨as0,t0,k0⟩:=qP0 T (dp:=8) (t:=22) rfl (by kernel_rfl) (hval 0 22 v0 rfl rfl) h0
  obtain ⟨x0,rfl,w0⟩:=qMh t0
  obtain ⟨as1,t1,k1⟩:=qP0 T (dp:=8) (t:=22) rfl (by kernel_rfl) (hval 1 22 v1 rfl rfl) h1
  obtain ⟨x1,rfl,w1⟩:=qMh t1
  refine ((qNs 99999999 x0 x1 true (qRB x0 x1 w0 w1)).2 W (fun b=>b < W.heap.size) #[v0,v1] (.cons (k0 _ rfl) (.cons (k1 _ rfl) .nil)) (fun _ h=>h) ⟨Nat.zero_le _,trivial⟩).mono fun e W' ⟨v,Z',fpr,he,X,hv,_⟩=>?_
  cases hv
  exact ⟨_,he,qSt (tb:=4) (by kernel_rfl) (by rw [Tryz.params3];intro t ht;simp only [List.mem_cons,List.not_mem_nil,or_false] at ht;rcases ht with rfl | rfl <;> exact ⟨by kernel_rfl,Nat.le_of_ble_eq_true (by kernel_rfl)⟩) rfl (by kernel_rfl) (by kernel_rfl) ⟨rfl,rfl,rfl⟩ hW' X⟩
set_option maxRecDepth 100000 in
theorem qUX (os:Os) (started:os.Started) (H:Type) (enc:TypeId × Value→H) :
    ReturnsInHanded {} Tryz.checked os 3 .any (Rows.fnTopSpec.pre6 enc Tryz.prog Tryz.f3 Rows.fnTopRow.domain false) (Rows.fnTopSpec.post enc Tryz.prog Tryz.f3 false true false false):=by
  refine returnsInHanded_of_change (C:=Tryz.checked) own started (by kernel_rfl) Tryz.func3
    (ChangeSpec.witness6 (enc:=enc) (C:=Tryz.checked) false ⟨#[],#[.slice none 0 0,.slice none 0 0],[]⟩ 8 (by kernel_rfl) (by kernel_rfl) (by kernel_rfl) (by kernel_rfl)) ?_
  intro W base args ds gs before hval hW _ _
  exact qSo H enc W base args ds gs before hval hW
theorem over:Rows.fnTopRow.holds Tryz.pinned (OpenSpec.ofChange Rows.fnTopSpec) :=
  OpenClaim.holds_of_wide 3 Tryz.f3 rfl rfl rfl rfl rfl rfl rfl ⟨rfl,rfl,rfl,rfl,rfl⟩ rfl rfl rfl rfl rfl (by kernel_rfl) Tryz.func3 (by kernel_rfl)
    (of_decide_eq_true (by kernel_rfl)) (by unfold Func.isWrapper;first | (rw [if_pos (by decide +kernel)];kernel_rfl) | (rw [if_neg (by decide +kernel)];exact ⟨rfl,rfl⟩))
    (fun os started H enc _=>qUX os started H enc)
theorem proved:Rows.FnTopSaid:=over
end Go.Proofs.YtpmgadenilnabaaGreat

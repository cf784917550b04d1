/- For every input the law FnExactTakeBack returns true, and the input reads as before; no condition. -/
import Derived.Test.YtnmpidocpdjjfaaPLFnExactTakeBack
import Derived.Test.YtnmpidocpdjjfaaRows
import Derived.Test.YtnmpidocpdjjfaaChecked
set_option maxRecDepth 4000
set_option maxHeartbeats 1000000
set_option linter.unusedVariables false
set_option linter.unusedSimpArgs false
set_option linter.unusedSectionVars false

namespace Go.Proofs.Ytnmpidocpdjjfaa
open Go.AM
open Go.ChangeShapes Go.WideShapes Go.ChangeAt Go.RowKit
theorem own : ownKnob Try.prog.godebug = none := by kernel_rfl
set_option maxRecDepth 20000 in
theorem contract (H : Type) (enc : TypeId × Value → H) (W : Go.World) (base : Nat) (args : Array Value) (ds gs : List (DataW H)) (before : List MemPlace)
    (hval : ∀ (j : Nat) t v, Try.f9.params[j]? = some t → args[j]? = some v → Value.okWide Try.prog W .any base t v)
    (hW : DataW.Whole enc Try.prog Try.f9.params.toList Rows.fnExactTakeBackSpec.vars false W args.toList ds gs before) :
    Calls Try.prog 9 args W fun e W' => ∃ v, e = .returned v ∧ Rows.fnExactTakeBackSpec.post enc Try.prog Try.f9 false true false false W args v W' := by
  have hW' := hW
  obtain ⟨p, q, hA0, hV, rfl, hfz, hnd⟩ := hW
  have hA : DataW.TrodAll enc Try.prog W 0 (fun _ => true) true Try.f9.params.toList args.toList ds p := hA0
  rw [Try.params9] at hA hval
  obtain ⟨v0, vs0, d0, ds0, p0, q0, hargs0, rfl, rfl, h0, r0⟩ := trodAll_cons hA
  obtain ⟨v1, vs1, d1, ds1, p1, q1, hargs1, rfl, rfl, h1, r1⟩ := trodAll_cons r0
  obtain ⟨v2, vs2, d2, ds2, p2, q2, hargs2, rfl, rfl, h2, r2⟩ := trodAll_cons r1
  obtain ⟨v3, vs3, d3, ds3, p3, q3, hargs3, rfl, rfl, h3, r3⟩ := trodAll_cons r2
  obtain ⟨rfl, rfl, rfl⟩ := trodAll_nil r3
  subst hargs3
  subst hargs2
  subst hargs1
  obtain rfl : args = #[v0, v1, v2, v3] := by cases args; simp_all
  obtain ⟨rfl, rfl⟩ := trodVars_none hV
  obtain ⟨as0, t0, k0⟩ := arg_open T (dp := 8) (t := 22) rfl (by kernel_rfl) (hval 0 22 v0 rfl rfl) h0
  obtain ⟨x0, rfl, w0⟩ := hasItemS_22 t0
  obtain ⟨as1, t1, k1⟩ := arg_open T (dp := 8) (t := 23) rfl (by kernel_rfl) (hval 1 23 v1 rfl rfl) h1
  obtain ⟨x1, rfl, w1⟩ := hasChangeS_23 t1
  obtain ⟨as2, t2, k2⟩ := arg_open T (dp := 8) (t := 3) rfl (by kernel_rfl) (hval 2 3 v2 rfl rfl) h2
  obtain ⟨x2, rfl, w2⟩ := hasInt_3 t2
  obtain ⟨as3, t3, k3⟩ := arg_open T (dp := 8) (t := 3) rfl (by kernel_rfl) (hval 3 3 v3 rfl rfl) h3
  obtain ⟨x3, rfl, w3⟩ := hasInt_3 t3
  refine ((laws_FnExactTakeBack_ok 99999999 x0 x1 x2 x3 true (law_TakeBack x0 x1 x2 x3 w0 w1 w2 w3)).2 W (fun b => b < W.heap.size) #[v0, v1, v2, v3] (.cons (k0 _ rfl) (.cons (k1 _ rfl) (.cons (k2 _ rfl) (.cons (k3 _ rfl) .nil)))) (fun _ h => h)).mono fun e W' ⟨v, Z', fpr, he, X, hv, _⟩ => ?_
  cases hv
  exact ⟨_, he, law_post (tb := 4) (by kernel_rfl) (by rw [Try.params9]; intro t ht; simp only [List.mem_cons, List.not_mem_nil, or_false] at ht; rcases ht with rfl | rfl | rfl | rfl <;> exact ⟨by kernel_rfl, Nat.le_of_ble_eq_true (by kernel_rfl)⟩) rfl (by kernel_rfl) (by kernel_rfl) ⟨rfl, rfl, rfl⟩ hW' X⟩
set_option maxRecDepth 100000 in
theorem lifted (os : Os) (started : os.Started) (H : Type) (enc : TypeId × Value → H) :
    ReturnsInHanded {} Try.checked os 9 .any (Rows.fnExactTakeBackSpec.pre6 enc Try.prog Try.f9 Rows.fnExactTakeBackRow.domain false) (Rows.fnExactTakeBackSpec.post enc Try.prog Try.f9 false true false false) := by
  refine returnsInHanded_of_change (C := Try.checked) own started (by kernel_rfl) Try.func9
    (ChangeSpec.witness6 (enc := enc) (C := Try.checked) false ⟨#[], #[.slice none 0 0, .slice none 0 0, .int .i64 0, .int .i64 0], []⟩ 8 (by kernel_rfl) (by kernel_rfl) (by kernel_rfl) (by kernel_rfl)) ?_
  intro W base args ds gs before hval hW _ _
  exact contract H enc W base args ds gs before hval hW
theorem over : Rows.fnExactTakeBackRow.holds Try.pinned (OpenSpec.ofChange Rows.fnExactTakeBackSpec) :=
  OpenClaim.holds_of_wide 9 Try.f9 rfl rfl rfl rfl rfl rfl rfl ⟨rfl, rfl, rfl, rfl, rfl⟩ rfl rfl rfl rfl rfl (by kernel_rfl) Try.func9 (by kernel_rfl)
    (of_decide_eq_true (by kernel_rfl)) (by unfold Func.isWrapper; first | (rw [if_pos (by decide +kernel)]; kernel_rfl) | (rw [if_neg (by decide +kernel)]; exact ⟨rfl, rfl⟩))
    (fun os started H enc _ => lifted os started H enc)
theorem proved : Rows.FnExactTakeBackSaid := over
end Go.Proofs.Ytnmpidocpdjjfaa

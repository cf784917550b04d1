/- For every input the law FnExactJoinScripts returns true, and the input reads as before; no condition. -/
import Derived.Test.YtdldbdpfjagnhaaDoorPLFnExactJoinScripts
import Derived.Test.YtdldbdpfjagnhaaDoorRows
import Derived.Test.YtdldbdpfjagnhaaDoorChecked
import Derived.Test.YtdldbdpfjagnhaaDoorTie
import Derived.Test.YtdldbdpfjagnhaaDoorCards
import Derived.Handed
import Derived.LaidLaws
import Derived.LaidHandle
import Derived.SevenTiedAt
import Derived.ShapedOpen
import GoSem.PinnedTables
set_option maxRecDepth 4000
set_option maxHeartbeats 1000000
set_option linter.unusedVariables false
set_option linter.unusedSimpArgs false
set_option linter.unusedSectionVars false

namespace Go.Proofs.YtdldbdpfjagnhaaDoor
open Go.AM
open Go.ChangeShapes Go.WideShapes Go.ChangeAt Go.RowKit
theorem own : ownKnob Tryd.prog.godebug = none := by kernel_rfl
theorem globW_in {W : Go.World} (hsh : W.ShapedOpen Tryd.prog) (hL : laidMetH Tryd.prog Rows.fnExactJoinScriptsRow.laid W) : GlobW W :=
  globW_of (Tryd.laysM146.s1_3 W hsh)
set_option maxRecDepth 20000 in
theorem contract (H : Type) (enc : TypeId × Value → H) (W : Go.World) (base : Nat) (args : Array Value) (ds gs : List (DataW H)) (before : List MemPlace)
    (hval : ∀ (j : Nat) t v, Tryd.f3.params[j]? = some t → args[j]? = some v → Value.okWide Tryd.prog W .any base t v)
    (hW : DataW.Whole enc Tryd.prog Tryd.f3.params.toList Rows.fnExactJoinScriptsSpec.vars false W args.toList ds gs before) (hsh : W.ShapedOpen Tryd.prog) (hL : laidMetH Tryd.prog Rows.fnExactJoinScriptsRow.laid W) :
    Calls Tryd.prog 3 args W fun e W' => ∃ v, e = .returned v ∧ Rows.fnExactJoinScriptsSpec.post enc Tryd.prog Tryd.f3 false true false false W args v W' := by
  have hW' := hW
  obtain ⟨p, q, hA0, hV, rfl, hfz, hnd⟩ := hW
  have hA : DataW.TrodAll enc Tryd.prog W 0 (fun _ => true) true Tryd.f3.params.toList args.toList ds p := hA0
  rw [Tryd.params3] at hA hval
  obtain ⟨v0, vs0, d0, ds0, p0, q0, hargs0, rfl, rfl, h0, r0⟩ := trodAll_cons hA
  obtain ⟨v1, vs1, d1, ds1, p1, q1, hargs1, rfl, rfl, h1, r1⟩ := trodAll_cons r0
  obtain ⟨rfl, rfl, rfl⟩ := trodAll_nil r1
  subst hargs1
  obtain rfl : args = #[v0, v1] := by cases args; simp_all
  obtain ⟨rfl, rfl⟩ := trodVars_none hV
  obtain ⟨as0, t0, k0⟩ := arg_open T (dp := 8) (t := 9) rfl (by kernel_rfl) (hval 0 9 v0 rfl rfl) h0
  obtain ⟨x0, rfl, w0⟩ := hasString_9 t0
  obtain ⟨as1, t1, k1⟩ := arg_open T (dp := 8) (t := 9) rfl (by kernel_rfl) (hval 1 9 v1 rfl rfl) h1
  obtain ⟨x1, rfl, w1⟩ := hasString_9 t1
  refine ((laws_FnExactJoinScripts_ok 99999999 x0 x1 true (law_JoinScripts x0 x1 w0 w1)).2 W (fun b => b < W.heap.size) #[v0, v1] (.cons (k0 _ rfl) (.cons (k1 _ rfl) .nil)) (fun _ h => h) (globW_in hsh hL)).mono fun e W' ⟨v, Z', fpr, he, X, hv, _⟩ => ?_
  cases hv
  exact ⟨_, he, law_post (tb := 4) (by kernel_rfl) (by rw [Tryd.params3]; intro t ht; simp only [List.mem_cons, List.not_mem_nil, or_false] at ht; rcases ht with rfl | rfl <;> exact ⟨by kernel_rfl, Nat.le_of_ble_eq_true (by kernel_rfl)⟩) rfl (by kernel_rfl) (by kernel_rfl) ⟨rfl, rfl, rfl⟩ hW' X⟩
noncomputable def laidWorld (os : Os) : Go.World :=
  let w0 := World.holding Tryd.prog os ⟨#[], #[], []⟩
  let w1 : Go.World := { w0 with heap := w0.heap.modify 2 fun
    | .cells _ t frozen => .cells (([128, 191, 160, 191, 128, 159, 144, 191, 128, 143] ++ List.replicate 22 0 : List Int).map fun n => Value.int .u8 n).toArray t frozen
    | o => o }
  let w2 : Go.World := { w1 with heap := w1.heap.modify 1 fun
    | .cells _ t frozen => .cells (Go.Pinned.utf8FirstZ.map fun n : Nat => Value.int .u8 (n : Int)).toArray t frozen
    | o => o }
  w2
set_option maxRecDepth 100000 in
theorem laidWorld_met (os : Os) (args : Array Value) : laidMetH Tryd.prog Rows.fnExactJoinScriptsRow.laid ((laidWorld os).forCall (fun _ _ => 0) ⟨#[], args, []⟩).memory :=
  laidMetH_of_parts (laidMet_of_run' 12 (by kernel_rfl) (by kernel_rfl)) (by kernel_rfl)
set_option maxRecDepth 100000 in
theorem lifted (os : Os) (started : os.Started) (H : Type) (enc : TypeId × Value → H) :
    ReturnsInHanded {} Tryd.checked os 3 .any (fun w args => (Rows.fnExactJoinScriptsSpec.pre enc Tryd.prog Tryd.f3 [] false w args ∧ laidMetH Tryd.prog Rows.fnExactJoinScriptsRow.laid w) ∧ sizedMet enc Tryd.prog Tryd.f3 (OpenSpec.ofChange Rows.fnExactJoinScriptsSpec) false w args)
      (Rows.fnExactJoinScriptsSpec.post enc Tryd.prog Tryd.f3 false true false false) := by
  refine returnsInHanded_of_calls own started (by kernel_rfl)
    (ChangeSpec.witness_at (enc := enc) (C := Tryd.checked) (os := os) (X := fun w _ => laidMetH Tryd.prog Rows.fnExactJoinScriptsRow.laid w) false (laidWorld os) #[.string ⟨#[]⟩, .string ⟨#[]⟩] 8 rfl (by kernel_rfl) (by kernel_rfl) (by kernel_rfl) (by kernel_rfl) (by kernel_rfl) (laidWorld_met os _)) ?_
  intro w tape inp _ hsh _ hok hpre _
  obtain ⟨_, _, _, fn', hfn', _, _, _, _, hval⟩ := hok
  obtain rfl : fn' = Tryd.f3 := Option.some.inj (hfn'.symm.trans Tryd.func3)
  obtain ⟨⟨⟨ds, gs, before, hw, _⟩, hx⟩, _⟩ := hpre
  refine (contract H enc (w.forCall tape inp) w.heap.size inp.args ds gs before hval (DataW.Whole.of_heap (w' := w.forCall tape inp) (by rfl) hw) hsh (laidMetH.of_heap (by rfl) hx)).mono fun e W' h => ?_
  obtain ⟨v, rfl, hp⟩ := h
  exact ChangeSpec.post_blind hp
theorem over : Rows.fnExactJoinScriptsRow.holds Tryd.pinned (OpenSpec.ofChange Rows.fnExactJoinScriptsSpec) :=
  OpenClaim.holds_of_wide 3 Tryd.f3 rfl rfl rfl rfl rfl rfl rfl ⟨rfl, rfl, rfl, rfl, rfl⟩ rfl rfl rfl rfl rfl (by kernel_rfl) Tryd.func3 (by kernel_rfl)
    (of_decide_eq_true (by kernel_rfl)) (by unfold Func.isWrapper; first | (rw [if_pos (by decide +kernel)]; kernel_rfl) | (rw [if_neg (by decide +kernel)]; exact ⟨rfl, rfl⟩))
    (fun os started H enc _ => lifted os started H enc)
theorem proved : Rows.FnExactJoinScriptsCardSaid :=
  Claim7.holds_tied_plain_at .later [] [.data, .pinned] true (true, "cdf254567e66d00824031d06908f1c82f9836ee1d8e69d96c9c4b5a0e79f96b9") false
    over (fun _ h => by cases h) (by kernel_rfl) (fun _ h => by cases h) fnExactJoinScripts_row_tie rfl ⟨rfl, rfl⟩ (by kernel_rfl) rfl
    (fun f fn hf hfn => by
      obtain rfl : f = 3 := Option.some.inj ((show Tryd.prog.funcNamed "loop.example/g00912/laws.FnExactJoinScripts" = some 3 by kernel_rfl).symm.trans hf) |>.symm
      obtain rfl : fn = Tryd.f3 := (Option.some.inj (Tryd.func3.symm.trans hfn)).symm
      exact ⟨by kernel_rfl, fun j t ht => by
        rw [Tryd.params3] at ht
        have hm := Array.mem_of_getElem? ht
        revert hm
        exact (show ∀ t ∈ #[9, 9], Tryd.prog.wantsStandIn t = false from fun t hm => by
          simp only [Array.mem_def, List.mem_cons, List.not_mem_nil, or_false] at hm
          rcases hm with rfl | rfl <;> kernel_rfl) t⟩)
    (by kernel_rfl)
end Go.Proofs.YtdldbdpfjagnhaaDoor

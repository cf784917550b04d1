/- For every input laws.FnExactAreEntries returns true, and the input reads as before; no condition. -/
import Derived.Test.YtppdkfgmeajciaaWalk
import Derived.Test.YtppdkfgmeajciaaRows

namespace Go.Proofs.Ytppdkfgmeajciaa
open Go.AM
open Go.ChangeShapes Go.WideShapes Go.ChangeAt Go.RowKit

theorem own : ownKnob Try.prog.godebug = none := by kernel_rfl

theorem hasInt {d : D} (h : HasT te 3 [d]) : ∃ n, d = .v (.int .i64 n) := by
  cases h with
  | int h' _ => cases h'; exact ⟨_, rfl⟩
  | bool h' => cases h'
  | str h' _ => cases h'
  | slice h' _ _ => cases h'
  | struct h' _ _ => cases h'

theorem hasE {ds : List D} (h : HasT te 32 ds) : ∃ e, ds = encE e := by
  cases h with
  | int h' _ => cases h'
  | bool h' => cases h'
  | str h' _ => cases h'
  | slice h' _ _ => cases h'
  | struct h' hl hf =>
    cases h'
    match ds, hl with
    | [a, b, c], _ =>
      obtain ⟨x, rfl⟩ := hasInt (hf (0, 3) (by simp) _ rfl)
      obtain ⟨y, rfl⟩ := hasInt (hf (1, 3) (by simp) _ rfl)
      obtain ⟨z, rfl⟩ := hasInt (hf (2, 3) (by simp) _ rfl)
      exact ⟨⟨x, y, z⟩, rfl⟩

theorem hasEs {ds : List D} (h : HasT te 22 ds) : ∃ l : List Entry, ds = [.s (l.map encE)] ∧ l.length ≤ maxN := by
  cases h with
  | int h' _ => cases h'
  | bool h' => cases h'
  | str h' _ => cases h'
  | slice h' hl hx =>
    cases h'
    obtain ⟨l, rfl, _⟩ := list_of_each (f := encE) (p := fun _ => True) fun x hx' => (hasE (hx x hx')).imp fun a ha => ⟨trivial, ha⟩
    exact ⟨l, rfl, by simpa using hl⟩
  | struct h' _ _ => cases h'

theorem contract (H : Type) (enc : TypeId × Value → H) (W : World) (base : Nat) (args : Array Value) (ds gs : List (DataW H)) (before : List MemPlace)
    (hval : ∀ (j : Nat) t v, Try.f3.params[j]? = some t → args[j]? = some v → Value.okWide Try.prog W .any base t v)
    (hW : DataW.Whole enc Try.prog Try.f3.params.toList Rows.fnExactAreEntriesSpec.vars false W args.toList ds gs before) :
    Calls Try.prog 3 args W fun e W' => ∃ v, e = .returned v ∧ Rows.fnExactAreEntriesSpec.post enc Try.prog Try.f3 false true false false W args v W' := by
  have hW' := hW
  obtain ⟨p, q, hA0, hV, rfl, hfz, hnd⟩ := hW
  have hA : DataW.TrodAll enc Try.prog W 0 (fun _ => true) true Try.f3.params.toList args.toList ds p := hA0
  rw [Try.params3] at hA hval
  obtain ⟨v0, vs0, d0, ds0, p0, q0, hargs, rfl, rfl, h0, r0⟩ := trodAll_cons hA
  obtain ⟨rfl, rfl, rfl⟩ := trodAll_nil r0
  obtain rfl : args = #[v0] := by cases args; simp_all
  obtain ⟨rfl, rfl⟩ := trodVars_none hV
  obtain ⟨as0, t0, k0⟩ := arg_open T (dp := 8) (t := 22) rfl (by kernel_rfl) (hval 0 22 v0 rfl rfl) h0
  obtain ⟨l0, rfl, hl0⟩ := hasEs t0
  refine ((law_spec l0 hl0).2 W (fun b => b < W.heap.size) #[v0] (.cons (k0 _ rfl) .nil) (fun _ h => h)).mono fun e W' ⟨v, Z', fpr, he, X, hv, _⟩ => ?_
  cases hv
  exact ⟨_, he, law_post (tb := 4) (by kernel_rfl) (by rw [Try.params3]; intro t ht; obtain rfl := List.mem_singleton.1 ht; exact ⟨by kernel_rfl, Nat.le_of_ble_eq_true (by kernel_rfl)⟩) rfl (by kernel_rfl) (by kernel_rfl) ⟨rfl, rfl, rfl⟩ hW' X⟩

set_option maxRecDepth 100000 in
theorem lifted (os : Os) (started : os.Started) (H : Type) (enc : TypeId × Value → H) :
    ReturnsInHanded {} Try.checked os 3 .any (Rows.fnExactAreEntriesSpec.pre6 enc Try.prog Try.f3 Rows.fnExactAreEntriesRow.domain false) (Rows.fnExactAreEntriesSpec.post enc Try.prog Try.f3 false true false false) := by
  refine returnsInHanded_of_change (C := Try.checked) own started (by kernel_rfl) Try.func3
    (ChangeSpec.witness6 (enc := enc) (C := Try.checked) false ⟨#[], #[.slice none 0 0], []⟩ 8 (by kernel_rfl) (by kernel_rfl) (by kernel_rfl) (by kernel_rfl)) ?_
  intro W base args ds gs before hval hW _ _
  exact contract H enc W base args ds gs before hval hW

theorem over : Rows.fnExactAreEntriesRow.holds Try.pinned (OpenSpec.ofChange Rows.fnExactAreEntriesSpec) :=
  OpenClaim.holds_of_wide 3 Try.f3 rfl rfl rfl rfl rfl rfl rfl ⟨rfl, rfl, rfl, rfl, rfl⟩ rfl rfl rfl rfl rfl (by kernel_rfl) Try.func3 (by kernel_rfl)
    (of_decide_eq_true (by kernel_rfl)) (by unfold Func.isWrapper; first | (rw [if_pos (by decide +kernel)]; kernel_rfl) | (rw [if_neg (by decide +kernel)]; exact ⟨rfl, rfl⟩))
    (fun os started H enc _ => lifted os started H enc)

theorem proved : Rows.FnExactAreEntriesSaid := over
end Go.Proofs.Ytppdkfgmeajciaa

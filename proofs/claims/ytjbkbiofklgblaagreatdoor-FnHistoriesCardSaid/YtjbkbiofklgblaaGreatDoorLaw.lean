/- Plain lemmas on what the law FnHistories makes of its arguments: sizes, copies, comparisons. No condition. -/
import Derived.Test.YtjbkbiofklgblaaGreatDoorWalk3
set_option maxRecDepth 4000
set_option maxHeartbeats 1000000
set_option linter.unusedVariables false
set_option linter.unusedSimpArgs false
set_option linter.unusedSectionVars false

namespace Go.Proofs.YtjbkbiofklgblaaGreatDoor
open Go.AM
theorem hasByte_5 {ds : List D} (h : HasT te 5 ds) : ∃ x : Int, ds = [.v (.int .u8 x)] ∧ isByte x := by
  cases h with
  | int h' hw => cases h'; exact ⟨_, rfl, isByte_of hw⟩
  | bool h' => cases h'
  | str h' _ => cases h'
  | slice h' _ _ => cases h'
  | struct h' _ _ => cases h'
def nByteS (l : List Int) : Nat := l.length
def wfByteS (l : List Int) : Prop := l.length ≤ maxN ∧ ∀ x ∈ l, isByte x
theorem hasByteS_22 {ds : List D} (h : HasT te 22 ds) : ∃ x : List Int, ds = [.s (x.map encInt_u8)] ∧ wfByteS x := by
  cases h with
  | slice h' hl hx =>
    cases h'
    obtain ⟨l, rfl, hp⟩ := list_of_each (f := encInt_u8) (p := fun x => isByte x) fun x hx' => (hasByte_5 (hx x hx')).imp fun a ha => ⟨ha.2, ha.1⟩
    exact ⟨l, rfl, by simpa using hl, hp⟩
  | int h' _ => cases h'
  | bool h' => cases h'
  | str h' _ => cases h'
  | struct h' _ _ => cases h'

end Go.Proofs.YtjbkbiofklgblaaGreatDoor

/- Plain lemmas: what the functions compute is what the reference says, in plain Lean. No condition. -/
import Derived.Test.YtekdnjnefbkikaaPSeason7
set_option maxRecDepth 4000
set_option maxHeartbeats 1000000
set_option linter.unusedVariables false
set_option linter.unusedSimpArgs false
set_option linter.unusedSectionVars false

namespace Go.Proofs.Ytekdnjnefbkikaa
open Go.AM
/-! FreshSeason, AddEntry, DropEvent, DropEntry -/
def FreshOf (best : Int) (l : List Entry) (s : Season) : Prop := s.best = best ∧ LinesOk s.lines ∧ (flat s.lines).Pairwise ltE ∧ (flat s.lines).Perm l
theorem FreshOf.uniq {best : Int} {l : List Entry} {s t : Season} (h : FreshOf best l s) (k : FreshOf best l t) : s = t := by
  have h1 := lines_inj h.2.1 k.2.1 (sorted_uniq h.2.2.1 k.2.2.1 (h.2.2.2.trans k.2.2.2.symm))
  cases s; cases t
  have a := h.1; have b := k.1
  simp only at a b h1
  subst a b h1; rfl
theorem impl_fresh_of (best : Int) (l : List Entry) (h : GoodL l) (hl : l.length ≤ 1048576) : ∃ s, impl_freshSeason_p best l = some s ∧ FreshOf best l s := by
  obtain ⟨ls, h1, h2, h3, h4⟩ := fresh_eq best l h hl
  exact ⟨_, h1, rfl, h2, h4, h3⟩
/-- a season's size -/
theorem fresh_size {best : Int} {l : List Entry} {s : Season} (h : FreshOf best l s) : nSeason s ≤ 3 * l.length := by
  have h1 := flat_lines_le h.2.1.1
  have h2 := h.2.2.2.length_eq
  have h3 : (flat s.lines).length = (s.lines.map fun x => x.events.length).sum := by unfold flat; exact flat_len_lines h.2.1.1
  have key : ∀ ls : List Line, (∀ x ∈ ls, lineN x) → (ls.map fun x => nLine x).sum = 2 * (ls.map fun x => x.events.length).sum := by
    intro ls hl
    induction ls with
    | nil => rfl
    | cons y l ih =>
      have := (hl y (by simp)).1
      have := ih (fun x hx => hl x (by simp [hx]))
      simp only [List.map_cons, List.sum_cons]
      unfold nLine nIntS at *; omega
  have := key s.lines h.2.1.1
  unfold nSeason nLineS
  omega
theorem season_fresh {s : Season} (h : SeasonOk s) : FreshOf s.best (seasonEs s) s := ⟨rfl, ⟨h.2.1, h.2.2.1⟩, h.2.2.2.1.2.1, List.Perm.refl _⟩
theorem season_good {s : Season} (h : SeasonOk s) : GoodL (seasonEs s) := ⟨h.2.2.2.1.1, h.2.2.2.1.2.2⟩

/-! DeleteFunc -/

end Go.Proofs.Ytekdnjnefbkikaa

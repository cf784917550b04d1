/- Plain lemmas: what the functions compute is what the reference says, in plain Lean. No condition. -/
import Derived.Test.YtekdnjnefbkikaaGreatPSeason7
set_option maxRecDepth 4000
set_option maxHeartbeats 1000000
set_option linter.unusedVariables false
set_option linter.unusedSimpArgs false
set_option linter.unusedSectionVars false

namespace Go.Proofs.YtekdnjnefbkikaaGreat
open Go.AM
/-! FreshSeason, AddEntry, DropEvent, DropEntry -/
/-! DeleteFunc -/
theorem GoodL.filter {l : List Entry} (h : GoodL l) (p : Entry → Bool) : GoodL (l.filter p) := ⟨fun e he => h.1 e (List.mem_filter.1 he).1, h.2.sublist List.filter_sublist⟩

end Go.Proofs.YtekdnjnefbkikaaGreat

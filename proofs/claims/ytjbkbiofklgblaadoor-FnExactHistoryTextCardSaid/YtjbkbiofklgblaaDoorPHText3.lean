/- Plain lemmas: what the functions compute is what the reference says, in plain Lean. No condition. -/
import Derived.Test.YtjbkbiofklgblaaDoorPHText1
set_option maxRecDepth 4000
set_option maxHeartbeats 1000000
set_option linter.unusedVariables false
set_option linter.unusedSimpArgs false
set_option linter.unusedSectionVars false

namespace Go.Proofs.YtjbkbiofklgblaaDoor
open Go.AM

def chgIn (c : Change) : Prop := (0 ≤ c.tick ∧ c.tick ≤ 100000) ∧ (1 ≤ c.caller ∧ c.caller ≤ 9) ∧ (0 ≤ c.item ∧ c.item < 14) ∧ (0 ≤ c.name ∧ c.name < 3) ∧ (0 ≤ c.mark ∧ c.mark ≤ 3)
theorem change_in {x x' : HiState} (hx : StOk x) {c : Change} (h : spec_hiState_change_p x c = some (x', true)) : chgIn c := by
  unfold spec_hiState_change_p at h
  obtain ⟨n1, n1s, n1p⟩ := ret_spName x.items hx.1 c.item c.name
  obtain ⟨t, ts, tp⟩ := ret_l1In c.tick 0 100000
  obtain ⟨a, as2, ap⟩ := ret_l1In c.caller 1 9
  obtain ⟨m, ms, mp⟩ := ret_l1In c.mark 0 3
  rw [n1s, ts, as2, ms] at h
  by_cases hall : n1 = true ∧ t = true ∧ a = true ∧ m = true
  · obtain ⟨rfl, rfl, rfl, rfl⟩ := hall
    obtain ⟨v1, v2, it, v3, v4⟩ := n1p.1 rfl
    have hI := (List.getElem?_eq_some_iff.1 v3).1
    have h14 := hx.1.1
    have h3 := (hx.1.2 it (List.mem_of_getElem? v3)).1
    exact ⟨tp.1 rfl, ap.1 rfl, ⟨v1, by omega⟩, ⟨v2, by omega⟩, mp.1 rfl⟩
  · exfalso
    cases n1 <;> cases t <;> cases a <;> cases m <;> first | (simp [opt_t, opt_f] at h; done) | (exact hall ⟨rfl, rfl, rfl, rfl⟩)
theorem run_in : ∀ (ys : List Change) (lo : Option Int) (s : HistoryState) (x z : HiState), StOk x → Sim s x → runS lo x ys = some z → ∀ c ∈ ys, chgIn c := by
  intro ys
  induction ys with
  | nil => intro lo s x z _ _ _ c hc; cases hc
  | cons d ys ih =>
    intro lo s x z hx hs hr c hc
    obtain ⟨b, s', x', e1, e2, e3⟩ := same_change hx hs d
    have hd : chg x d = (x', b) := by unfold chg; rw [e1]; rfl
    rw [runS, hd] at hr
    split at hr
    · rename_i hq
      obtain ⟨rfl, hq2⟩ := hq
      obtain ⟨k1, k2, k3, k4⟩ := e3 rfl
      rcases List.mem_cons.1 hc with rfl | hc
      · exact change_in hx e1
      · exact ih (some d.tick) s' x' z k1 k2 hr c hc
    · cases hr
def chgL (c : Change) : ChgL := ⟨c.tick.toNat, c.caller.toNat, c.item.toNat, c.name.toNat, c.mark, c.review⟩
def five (x : ChgL) : List (List UInt8) := [numL x.t, numL x.c, numL x.i, numL x.n, wordL x.m]
theorem line_five (x : ChgL) : lineL x = if x.r then joinC 32 (five x) ++ 32 :: revL else joinC 32 (five x) := by
  unfold lineL partsL five
  cases x.r
  · rfl
  · simp [joinC, List.append_assoc]
theorem num_len : ∀ (k n : Nat), n < 10 ^ (k + 1) → (numL n).length ≤ k + 1 := by
  intro k
  induction k with
  | zero => intro n h; rw [numL, if_pos (by omega)]; exact Nat.le_refl _
  | succ k ih =>
    intro n h
    rw [numL]
    split
    · simp
    · rw [List.length_append]
      have := ih (n / 10) (by rw [Nat.pow_succ] at h; omega)
      simp; omega
def markT : List ByteArray := [(⟨#[110, 111, 110, 101]⟩ : ByteArray), (⟨#[100, 111, 119, 110]⟩ : ByteArray), (⟨#[101, 100, 103, 101]⟩ : ByteArray), (⟨#[118, 111, 105, 100]⟩ : ByteArray)]

end Go.Proofs.YtjbkbiofklgblaaDoor

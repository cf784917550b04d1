/- Plain lemmas: what the functions compute is what the reference says, in plain Lean. No condition. -/
import Derived.Test.YtnmpidocpdjjfaaPHistory4
set_option maxRecDepth 4000
set_option maxHeartbeats 1000000
set_option linter.unusedVariables false
set_option linter.unusedSimpArgs false
set_option linter.unusedSectionVars false

namespace Go.Proofs.Ytnmpidocpdjjfaa
open Go.AM

theorem text_l : ∀ (n : Nat) (v : Int) (acc : ByteArray) (f : Nat), 0 ≤ v → v ≤ 1099511627776 → v < ((10 ^ n : Nat) : Int) → n < f → acc.size + n ≤ 1000 → ∃ r, laws_markText_l1 f v acc = some r ∧ r.size ≤ acc.size + n := by
  intro n
  induction n with
  | zero =>
    intro v acc f h0 h40 h1 hf hs
    obtain ⟨f, rfl⟩ := Nat.exists_eq_succ_of_ne_zero (by omega : f ≠ 0)
    rw [laws_markText_l1, decide_eq_false (by simp at h1; omega), cond_false]
    exact ⟨acc, rfl, by omega⟩
  | succ n ih =>
    intro v acc f h0 h40 h1 hf hs
    obtain ⟨f, rfl⟩ := Nat.exists_eq_succ_of_ne_zero (by omega : f ≠ 0)
    rw [laws_markText_l1]
    by_cases hv : v > 0
    · rw [decide_eq_true hv, cond_true, show need (10 != 0) = some () from rfl, Option.bind_some]
      have e2 : ∀ x : Int, (strOfNums [x]).size = 1 := fun x => rfl
      rw [e2, show Nat.ble (1 + acc.size) maxN = true from by rw [Nat.ble_eq]; unfold maxN; omega, need_t, Option.bind_some]
      have e3 : v.tdiv 10 = v / 10 := Int.tdiv_eq_ediv_of_nonneg h0
      have e4 : v / 10 < ((10 ^ n : Nat) : Int) := by rw [Nat.pow_succ] at h1; omega
      rw [e3, w64_in (by omega)]
      obtain ⟨r, r1, r2⟩ := ih (v / 10) (strOfNums [IntKind.wrap .u8 (w64 (48 + v.tmod 10))] ++ acc) f (by omega) (by omega) e4 (by omega) (by rw [ByteArray.size_append, e2]; omega)
      exact ⟨r, r1, by rw [ByteArray.size_append, e2] at r2; omega⟩
    · rw [decide_eq_false hv, cond_false]
      exact ⟨acc, rfl, by omega⟩
theorem markText_some (k : Int) (h0 : 0 ≤ k) (h1 : k ≤ 1099511627776) (fuel : Nat) (hF : 100 < fuel) : ∃ r, laws_markText_p fuel k = some r := by
  unfold laws_markText_p
  by_cases hk : k ≤ 0
  · rw [decide_eq_true hk]; exact ⟨_, rfl⟩
  · rw [decide_eq_false hk, cond_false]
    obtain ⟨r, r1, r2⟩ := text_l 13 k ⟨#[]⟩ fuel h0 h1 (by simp; omega) (by omega) (by decide)
    rw [bnd r1]
    have e0 : (⟨#[]⟩ : ByteArray).size = 0 := rfl
    rw [show Nat.ble ((⟨#[109]⟩ : ByteArray).size + r.size) maxN = true from by rw [Nat.ble_eq]; have : (⟨#[109]⟩ : ByteArray).size = 1 := rfl; unfold maxN; omega]
    exact ⟨_, rfl⟩
theorem mark_StringS_l (fuel : Nat) (hF : 100 < fuel) : ∀ (ys pre : List ByteArray) (k : Int) (f : Nat), 0 ≤ k → k + (ys.length : Int) ≤ 1099511627776 → (pre ++ ys).length ≤ 1099511627776 → ys.length < f →
    ∃ ys' k', laws_markStringS_l1 fuel f (pre ++ ys) k (pre.length : Int) = some (pre ++ ys', k') ∧ k ≤ k' ∧ k' ≤ k + (ys.length : Int) ∧ ∀ j, laws_heldStringS_l1 fuel ys' j k = some k' := by
  intro ys
  induction ys with
  | nil =>
    intro pre k f h0 hk hl hf
    obtain ⟨f, rfl⟩ := Nat.exists_eq_succ_of_ne_zero (by omega : f ≠ 0)
    refine ⟨[], k, ?_, Int.le_refl _, by simp, fun j => by rw [laws_heldStringS_l1]⟩
    rw [laws_markStringS_l1, decide_eq_false (by simp), cond_false]
  | cons y ys ih =>
    intro pre k f h0 hk hl hf
    obtain ⟨f, rfl⟩ := Nat.exists_eq_succ_of_ne_zero (by omega : f ≠ 0)
    simp only [List.length_cons] at hk hf
    have hp : pre.length + 1 ≤ 1099511627776 := by simp at hl; omega
    obtain ⟨t, ht⟩ := markText_some k h0 (by omega) fuel hF
    rw [laws_markStringS_l1, decide_eq_true (by simp only [List.length_append, List.length_cons]; omega), cond_true, bnd ht]
    simp only [getI_pre1, set_pre1, Option.bind_some]
    rw [w64_in (n := k + 1) (by omega), w64_in (n := (pre.length : Int) + 1) (by omega)]
    obtain ⟨ys', k', h1, h2, h3, hh⟩ := ih (pre ++ [t]) (k + 1) f (by omega) (by omega) (by simp at hl ⊢; omega) (by omega)
    refine ⟨t :: ys', k', ?_, by omega, by simp only [List.length_cons]; omega, ?_⟩
    · simp only [List.append_assoc, List.cons_append, List.nil_append, List.length_append, List.length_cons, List.length_nil, Nat.zero_add, Int.natCast_add, Int.natCast_one] at h1
      simpa using h1
    · intro j
      rw [laws_heldStringS_l1, bnd ht, w64_in (n := k + 1) (by omega)]
      simpa using hh (j + 1)
theorem mark_StringS (a : List ByteArray) (k : Int) (fuel : Nat) (h0 : 0 ≤ k) (hk : k + (a.length : Int) ≤ 1099511627776) (hf : a.length < fuel) (hF : 100 < fuel) :
    ∃ a' k', laws_markStringS_p fuel a k = some (a', k') ∧ k ≤ k' ∧ k' ≤ k + (a.length : Int) ∧ laws_heldStringS_p fuel a' k = some k' := by
  obtain ⟨a', k', h1, h2, h3, h4⟩ := mark_StringS_l fuel hF a [] k fuel h0 hk (by simp; omega) hf
  exact ⟨a', k', h1, h2, h3, h4 0⟩
def mItem (x : Item) : Nat := 1 + x.names.length + x.marks.length
def mItemS (l : List Item) : Nat := (l.map fun x => mItem x).sum
theorem mark_ItemS_l (fuel : Nat) (hF : 100 < fuel) : ∀ (ys pre : List Item) (k : Int) (f : Nat), 0 ≤ k → k + (((ys.map fun x => mItem x).sum : Nat) : Int) ≤ 1099511627776 → (pre ++ ys).length ≤ 1099511627776 → ys.length < f → (ys.map fun x => mItem x).sum < fuel →
    ∃ ys' k', laws_markItemS_l1 fuel f (pre ++ ys) k (pre.length : Int) = some (pre ++ ys', k') ∧ k ≤ k' ∧ k' ≤ k + (((ys.map fun x => mItem x).sum : Nat) : Int) ∧ ∀ j, laws_heldItemS_l1 fuel ys' j k = some k' := by
  intro ys
  induction ys with
  | nil =>
    intro pre k f h0 hk hl hf _
    obtain ⟨f, rfl⟩ := Nat.exists_eq_succ_of_ne_zero (by omega : f ≠ 0)
    refine ⟨[], k, ?_, Int.le_refl _, by simp, fun j => by rw [laws_heldItemS_l1]⟩
    rw [laws_markItemS_l1, decide_eq_false (by simp), cond_false]
  | cons y ys ih =>
    intro pre k f h0 hk hl hf hfu
    obtain ⟨f, rfl⟩ := Nat.exists_eq_succ_of_ne_zero (by omega : f ≠ 0)
    simp only [List.map_cons, List.sum_cons, List.length_cons] at hk hf hfu
    have hp : pre.length + 1 ≤ 1099511627776 := by simp at hl; omega
    have hcy : mItem y = 1 + y.names.length + y.marks.length := rfl
    rw [laws_markItemS_l1, decide_eq_true (by simp only [List.length_append, List.length_cons]; omega), cond_true]
    simp only [getI_pre1, set_pre1, Option.bind_some]
    obtain ⟨e1, k1, g1, l1, m1, d1⟩ := mark_StringS y.names k fuel (by omega) (by omega) (by omega) hF
    rw [bnd g1]
    simp only [getI_pre1, set_pre1, Option.bind_some]
    have hci : cIntS y.marks = y.marks.length := rfl
    obtain ⟨e2, k2, g2, l2, m2, d2⟩ := mark_IntS y.marks k1 fuel (by omega) (by omega) (by omega)
    rw [bnd g2, show need (3 != 0) = some () from rfl, Option.bind_some]
    rw [w64_in (n := k2 + 1) (by omega), w64_in (n := (pre.length : Int) + 1) (by omega)]
    obtain ⟨ys', k', h1, h2, h3, hh⟩ := ih (pre ++ [Item.mk e1 e2 ((k2.tmod 3) == 0)]) (k2 + 1) f (by omega) (by omega) (by simp at hl ⊢; omega) (by omega) (by omega)
    refine ⟨Item.mk e1 e2 ((k2.tmod 3) == 0) :: ys', k', ?_, by omega, by simp only [List.map_cons, List.sum_cons]; omega, ?_⟩
    · simp only [List.append_assoc, List.cons_append, List.nil_append, List.length_append, List.length_cons, List.length_nil, Nat.zero_add, Int.natCast_add, Int.natCast_one] at h1
      simpa using h1
    · intro j
      rw [laws_heldItemS_l1, bnd d1, decide_eq_false (by omega : ¬ k1 < 0), cond_false, bnd d2, decide_eq_false (by omega : ¬ k2 < 0), cond_false, show need (3 != 0) = some () from rfl, Option.bind_some, w64_in (n := k2 + 1) (by omega)]
      simpa using hh (j + 1)
theorem len_mItemS (l : List Item) : l.length ≤ mItemS l := by
  unfold mItemS
  induction l with
  | nil => simp
  | cons y l ih => simp only [List.map_cons, List.sum_cons, List.length_cons]; unfold mItem at *; omega
theorem mark_ItemS (a : List Item) (k : Int) (fuel : Nat) (h0 : 0 ≤ k) (hk : k + (mItemS a : Int) ≤ 1099511627776) (hf : mItemS a < fuel) (hF : 100 < fuel) :
    ∃ a' k', laws_markItemS_p fuel a k = some (a', k') ∧ k ≤ k' ∧ k' ≤ k + (mItemS a : Int) ∧ laws_heldItemS_p fuel a' k = some k' := by
  have := len_mItemS a
  obtain ⟨a', k', h1, h2, h3, h4⟩ := mark_ItemS_l fuel hF a [] k fuel h0 hk (by simp; omega) (by omega) hf
  exact ⟨a', k', h1, h2, h3, h4 0⟩
theorem m_ItemS (l : List Item) : mItemS l ≤ 2 * nItemS l := by
  unfold mItemS nItemS
  induction l with
  | nil => simp
  | cons y l ih =>
    have h1 : mItem y = 1 + y.names.length + y.marks.length := rfl
    have h2 : nItem y = nStringS y.names + nIntS y.marks := rfl
    have h3 : y.names.length ≤ nStringS y.names := by unfold nStringS; omega
    have h4 : nIntS y.marks = y.marks.length := rfl
    simp only [List.map_cons, List.sum_cons, List.length_cons] at ih ⊢
    omega
def mChange (k : Int) (i : Nat) : Change := ⟨k + 6 * (i : Int), k + 6 * (i : Int) + 1, k + 6 * (i : Int) + 1 + 1, k + 6 * (i : Int) + 1 + 1 + 1, k + 6 * (i : Int) + 1 + 1 + 1 + 1, ((k + 6 * (i : Int) + 1 + 1 + 1 + 1 + 1).tmod 3) == 0⟩
theorem mark_ChangeS_l : ∀ (ys pre : List Change) (k : Int) (f : Nat), 0 ≤ k → k + 6 * (ys.length : Int) ≤ 1099511627776 → (pre ++ ys).length ≤ 1099511627776 → ys.length < f →
    ∃ ys' k', laws_markChangeS_l1 f (pre ++ ys) k (pre.length : Int) = some (pre ++ ys', k') ∧ k ≤ k' ∧ k' ≤ k + 6 * (ys.length : Int) ∧ k' = k + 6 * (ys.length : Int) ∧ ys' = (List.range ys.length).map (mChange k) := by
  intro ys
  induction ys with
  | nil =>
    intro pre k f h0 hk hl hf
    obtain ⟨f, rfl⟩ := Nat.exists_eq_succ_of_ne_zero (by omega : f ≠ 0)
    refine ⟨[], k, ?_, Int.le_refl _, by simp, by simp, by simp⟩
    rw [laws_markChangeS_l1, decide_eq_false (by simp), cond_false]
  | cons y ys ih =>
    intro pre k f h0 hk hl hf
    obtain ⟨f, rfl⟩ := Nat.exists_eq_succ_of_ne_zero (by omega : f ≠ 0)
    simp only [List.length_cons] at hk hf
    have hp : pre.length + 1 ≤ 1099511627776 := by simp at hl; omega
    rw [laws_markChangeS_l1, decide_eq_true (by simp only [List.length_append, List.length_cons]; omega), cond_true, show need (3 != 0) = some () from rfl]
    simp only [getI_pre1, set_pre1, Option.bind_some]
    rw [w64_in (n := k + 1) (by omega), w64_in (n := k + 1 + 1) (by omega), w64_in (n := k + 1 + 1 + 1) (by omega), w64_in (n := k + 1 + 1 + 1 + 1) (by omega), w64_in (n := k + 1 + 1 + 1 + 1 + 1) (by omega), w64_in (n := k + 1 + 1 + 1 + 1 + 1 + 1) (by omega), w64_in (n := (pre.length : Int) + 1) (by omega)]
    obtain ⟨ys', k', h1, h2, h3, h4, h5⟩ := ih (pre ++ [⟨k, k + 1, k + 1 + 1, k + 1 + 1 + 1, k + 1 + 1 + 1 + 1, ((k + 1 + 1 + 1 + 1 + 1).tmod 3) == 0⟩]) (k + 1 + 1 + 1 + 1 + 1 + 1) f (by omega) (by omega) (by simp at hl ⊢; omega) (by omega)
    refine ⟨⟨k, k + 1, k + 1 + 1, k + 1 + 1 + 1, k + 1 + 1 + 1 + 1, ((k + 1 + 1 + 1 + 1 + 1).tmod 3) == 0⟩ :: ys', k', ?_, by omega, by simp only [List.length_cons]; omega, by simp only [List.length_cons]; omega, ?_⟩
    · simp only [List.append_assoc, List.cons_append, List.nil_append, List.length_append, List.length_cons, List.length_nil, Nat.zero_add, Int.natCast_add, Int.natCast_one] at h1
      simpa using h1
    · rw [h5, List.length_cons, List.range_succ_eq_map, List.map_cons, List.map_map]
      congr 1
      · simp [mChange]
      · apply List.map_congr_left
        intro i _
        have : k + 1 + 1 + 1 + 1 + 1 + 1 + 6 * (i : Int) = k + 6 * ((i + 1 : Nat) : Int) := by omega
        simp only [Function.comp, mChange, this, Nat.succ_eq_add_one]
theorem mark_ChangeS_m (a : List Change) (k : Int) (fuel : Nat) (h0 : 0 ≤ k) (hk : k + 6 * (a.length : Int) ≤ 1099511627776) (hf : a.length < fuel) :
    ∃ a' k', laws_markChangeS_p fuel a k = some (a', k') ∧ k ≤ k' ∧ k' ≤ k + 6 * (a.length : Int) := by
  obtain ⟨a', k', h1, h2, h3, h4, h5⟩ := mark_ChangeS_l a [] k fuel h0 hk (by simp; omega) hf
  exact ⟨a', k', h1, h2, h3⟩

end Go.Proofs.Ytnmpidocpdjjfaa

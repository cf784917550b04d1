/- Plain lemmas: what the functions compute is what the reference says, in plain Lean. No condition. -/
import Derived.Test.YtjbkbiofklgblaaDoorPHistory4
set_option maxRecDepth 4000
set_option maxHeartbeats 1000000
set_option linter.unusedVariables false
set_option linter.unusedSimpArgs false
set_option linter.unusedSectionVars false

namespace Go.Proofs.YtjbkbiofklgblaaDoor
open Go.AM

theorem text_l : ∀ (n : Nat) (v : Int) (acc : ByteArray) (f : Nat), 0 ≤ v → v ≤ 1099511627776 → v < ((10 ^ n : Nat) : Int) → n < f → acc.size + n ≤ 1000 → ∃ r, laws_markText_l1 f v acc = some r ∧ r.size ≤ acc.size + n := by
  intro n
  induction n with
  | zero =>
    intro v acc f h0 h40 h1 hf hs
    obtain ⟨f, rfl⟩ := Nat.exists_eq_succ_of_ne_zero (by omega : f ≠ 0)
    rw [laws_markText_l1, decide_eq_false (by simp at h1; omega), cond_false]
    exact ⟨acc, rfl, by omega⟩
  | succ n ih =>
    intro v acc f h0 h40 h1 hf hs
    obtain ⟨f, rfl⟩ := Nat.exists_eq_succ_of_ne_zero (by omega : f ≠ 0)
    rw [laws_markText_l1]
    by_cases hv : v > 0
    · rw [decide_eq_true hv, cond_true, show need (10 != 0) = some () from rfl, Option.bind_some]
      have e2 : ∀ x : Int, (strOfNums [x]).size = 1 := fun x => rfl
      rw [e2, show Nat.ble (1 + acc.size) maxN = true from by rw [Nat.ble_eq]; unfold maxN; omega, need_t, Option.bind_some]
      have e3 : v.tdiv 10 = v / 10 := Int.tdiv_eq_ediv_of_nonneg h0
      have e4 : v / 10 < ((10 ^ n : Nat) : Int) := by rw [Nat.pow_succ] at h1; omega
      rw [e3, w64_in (by omega)]
      obtain ⟨r, r1, r2⟩ := ih (v / 10) (strOfNums [IntKind.wrap .u8 (w64 (48 + v.tmod 10))] ++ acc) f (by omega) (by omega) e4 (by omega) (by rw [ByteArray.size_append, e2]; omega)
      exact ⟨r, r1, by rw [ByteArray.size_append, e2] at r2; omega⟩
    · rw [decide_eq_false hv, cond_false]
      exact ⟨acc, rfl, by omega⟩
theorem markText_some (k : Int) (h0 : 0 ≤ k) (h1 : k ≤ 1099511627776) (fuel : Nat) (hF : 100 < fuel) : ∃ r, laws_markText_p fuel k = some r := by
  unfold laws_markText_p
  by_cases hk : k ≤ 0
  · rw [decide_eq_true hk]; exact ⟨_, rfl⟩
  · rw [decide_eq_false hk, cond_false]
    obtain ⟨r, r1, r2⟩ := text_l 13 k ⟨#[]⟩ fuel h0 h1 (by simp; omega) (by omega) (by decide)
    rw [bnd r1]
    have e0 : (⟨#[]⟩ : ByteArray).size = 0 := rfl
    rw [show Nat.ble ((⟨#[109]⟩ : ByteArray).size + r.size) maxN = true from by rw [Nat.ble_eq]; have : (⟨#[109]⟩ : ByteArray).size = 1 := rfl; unfold maxN; omega]
    exact ⟨_, rfl⟩
def mTexts (fuel : Nat) : Int → Nat → List ByteArray
  | _, 0 => []
  | k, n + 1 => (laws_markText_p fuel k).getD ⟨#[]⟩ :: mTexts fuel (k + 1) n
def mInts : Int → Nat → List Int
  | _, 0 => []
  | k, n + 1 => k :: mInts (k + 1) n
def mIts (fuel : Nat) : Int → List Item → List Item
  | _, [] => []
  | k, y :: ys => Item.mk (mTexts fuel k y.names.length) (mInts (k + (y.names.length : Int)) y.marks.length) (((k + (y.names.length : Int) + (y.marks.length : Int)).tmod 3) == 0) :: mIts fuel (k + (y.names.length : Int) + (y.marks.length : Int) + 1) ys
theorem mk_StringS_l (fuel : Nat) (hF : 100 < fuel) : ∀ (ys pre : List ByteArray) (k : Int) (f : Nat), 0 ≤ k → k + (ys.length : Int) ≤ 1099511627776 → (pre ++ ys).length ≤ 1099511627776 → ys.length < f →
    laws_markStringS_l1 fuel f (pre ++ ys) k (pre.length : Int) = some (pre ++ mTexts fuel k ys.length, k + (ys.length : Int)) := by
  intro ys
  induction ys with
  | nil =>
    intro pre k f h0 hk hl hf
    obtain ⟨f, rfl⟩ := Nat.exists_eq_succ_of_ne_zero (by omega : f ≠ 0)
    rw [laws_markStringS_l1, decide_eq_false (by simp), cond_false]
    simp [mTexts]
  | cons y ys ih =>
    intro pre k f h0 hk hl hf
    obtain ⟨f, rfl⟩ := Nat.exists_eq_succ_of_ne_zero (by omega : f ≠ 0)
    simp only [List.length_cons] at hk hf
    have hp : pre.length + 1 ≤ 1099511627776 := by simp at hl; omega
    obtain ⟨t, ht⟩ := markText_some k h0 (by omega) fuel hF
    rw [laws_markStringS_l1, decide_eq_true (by simp only [List.length_append, List.length_cons]; omega), cond_true, bnd ht]
    simp only [getI_pre1, set_pre1, Option.bind_some]
    rw [w64_in (n := k + 1) (by omega), w64_in (n := (pre.length : Int) + 1) (by omega)]
    have h1 := ih (pre ++ [t]) (k + 1) f (by omega) (by omega) (by simp at hl ⊢; omega) (by omega)
    simp only [List.append_assoc, List.cons_append, List.nil_append, List.length_append, List.length_cons, List.length_nil, Nat.zero_add, Int.natCast_add, Int.natCast_one] at h1
    rw [h1, List.length_cons, mTexts, ht, show k + 1 + (ys.length : Int) = k + ((ys.length + 1 : Nat) : Int) from by omega]
    rfl
theorem mk_IntS_l : ∀ (ys pre : List Int) (k : Int) (f : Nat), 0 ≤ k → k + (ys.length : Int) ≤ 1099511627776 → (pre ++ ys).length ≤ 1099511627776 → ys.length < f →
    laws_markIntS_l1 f (pre ++ ys) k (pre.length : Int) = some (pre ++ mInts k ys.length, k + (ys.length : Int)) := by
  intro ys
  induction ys with
  | nil =>
    intro pre k f h0 hk hl hf
    obtain ⟨f, rfl⟩ := Nat.exists_eq_succ_of_ne_zero (by omega : f ≠ 0)
    rw [laws_markIntS_l1, decide_eq_false (by simp), cond_false]
    simp [mInts]
  | cons y ys ih =>
    intro pre k f h0 hk hl hf
    obtain ⟨f, rfl⟩ := Nat.exists_eq_succ_of_ne_zero (by omega : f ≠ 0)
    simp only [List.length_cons] at hk hf
    have hp : pre.length + 1 ≤ 1099511627776 := by simp at hl; omega
    rw [laws_markIntS_l1, decide_eq_true (by simp only [List.length_append, List.length_cons]; omega), cond_true]
    simp only [getI_pre1, set_pre1, Option.bind_some]
    rw [w64_in (n := k + 1) (by omega), w64_in (n := (pre.length : Int) + 1) (by omega)]
    have h1 := ih (pre ++ [k]) (k + 1) f (by omega) (by omega) (by simp at hl ⊢; omega) (by omega)
    simp only [List.append_assoc, List.cons_append, List.nil_append, List.length_append, List.length_cons, List.length_nil, Nat.zero_add, Int.natCast_add, Int.natCast_one] at h1
    rw [h1, List.length_cons, mInts, show k + 1 + (ys.length : Int) = k + ((ys.length + 1 : Nat) : Int) from by omega]
def mItem (x : Item) : Nat := 1 + x.names.length + x.marks.length
def mItemS (l : List Item) : Nat := (l.map fun x => mItem x).sum
theorem mk_ItemS_l (fuel : Nat) (hF : 100 < fuel) : ∀ (ys pre : List Item) (k : Int) (f : Nat), 0 ≤ k → k + (((ys.map fun x => mItem x).sum : Nat) : Int) ≤ 1099511627776 → (pre ++ ys).length ≤ 1099511627776 → ys.length < f → (ys.map fun x => mItem x).sum < fuel →
    laws_markItemS_l1 fuel f (pre ++ ys) k (pre.length : Int) = some (pre ++ mIts fuel k ys, k + (((ys.map fun x => mItem x).sum : Nat) : Int)) := by
  intro ys
  induction ys with
  | nil =>
    intro pre k f h0 hk hl hf _
    obtain ⟨f, rfl⟩ := Nat.exists_eq_succ_of_ne_zero (by omega : f ≠ 0)
    rw [laws_markItemS_l1, decide_eq_false (by simp), cond_false]
    simp [mIts]
  | cons y ys ih =>
    intro pre k f h0 hk hl hf hfu
    obtain ⟨f, rfl⟩ := Nat.exists_eq_succ_of_ne_zero (by omega : f ≠ 0)
    simp only [List.map_cons, List.sum_cons, List.length_cons] at hk hf hfu ⊢
    have hp : pre.length + 1 ≤ 1099511627776 := by simp at hl; omega
    have hcy : mItem y = 1 + y.names.length + y.marks.length := rfl
    rw [laws_markItemS_l1, decide_eq_true (by simp only [List.length_append, List.length_cons]; omega), cond_true]
    simp only [getI_pre1, set_pre1, Option.bind_some]
    have g1 : laws_markStringS_p fuel y.names k = some (mTexts fuel k y.names.length, k + (y.names.length : Int)) := mk_StringS_l fuel hF y.names [] k fuel h0 (by omega) (by simp; omega) (by omega)
    rw [bnd g1]
    simp only [getI_pre1, set_pre1, Option.bind_some]
    have g2 : laws_markIntS_p fuel y.marks (k + (y.names.length : Int)) = some (mInts (k + (y.names.length : Int)) y.marks.length, k + (y.names.length : Int) + (y.marks.length : Int)) := mk_IntS_l y.marks [] _ fuel (by omega) (by omega) (by simp; omega) (by omega)
    rw [bnd g2, show need (3 != 0) = some () from rfl, Option.bind_some]
    rw [w64_in (n := k + (y.names.length : Int) + (y.marks.length : Int) + 1) (by omega), w64_in (n := (pre.length : Int) + 1) (by omega)]
    have h1 := ih (pre ++ [Item.mk (mTexts fuel k y.names.length) (mInts (k + (y.names.length : Int)) y.marks.length) (((k + (y.names.length : Int) + (y.marks.length : Int)).tmod 3) == 0)]) (k + (y.names.length : Int) + (y.marks.length : Int) + 1) f (by omega) (by omega) (by simp at hl ⊢; omega) (by omega) (by omega)
    simp only [List.append_assoc, List.cons_append, List.nil_append, List.length_append, List.length_cons, List.length_nil, Nat.zero_add, Int.natCast_add, Int.natCast_one] at h1
    rw [h1, mIts, show k + (y.names.length : Int) + (y.marks.length : Int) + 1 + (((ys.map fun x => mItem x).sum : Nat) : Int) = k + ((mItem y + (ys.map fun x => mItem x).sum : Nat) : Int) from by omega]
theorem len_mItemS (l : List Item) : l.length ≤ mItemS l := by
  unfold mItemS
  induction l with
  | nil => simp
  | cons y l ih => simp only [List.map_cons, List.sum_cons, List.length_cons]; unfold mItem at *; omega
theorem mark_ItemS_m (a : List Item) (k : Int) (fuel : Nat) (h0 : 0 ≤ k) (hk : k + (mItemS a : Int) ≤ 1099511627776) (hf : mItemS a < fuel) (hF : 100 < fuel) :
    ∃ a' k', laws_markItemS_p fuel a k = some (a', k') ∧ k ≤ k' ∧ k' ≤ k + (mItemS a : Int) := by
  have := len_mItemS a
  exact ⟨_, _, mk_ItemS_l fuel hF a [] k fuel h0 hk (by simp; omega) (by omega) hf, by omega, Int.le_refl _⟩
theorem m_ItemS (l : List Item) : mItemS l ≤ 2 * nItemS l := by
  unfold mItemS nItemS
  induction l with
  | nil => simp
  | cons y l ih =>
    have h1 : mItem y = 1 + y.names.length + y.marks.length := rfl
    have h2 : nItem y = nStringS y.names + nIntS y.marks := rfl
    have h3 : y.names.length ≤ nStringS y.names := by unfold nStringS; omega
    have h4 : nIntS y.marks = y.marks.length := rfl
    simp only [List.map_cons, List.sum_cons, List.length_cons] at ih ⊢
    omega
def mChange (k : Int) (i : Nat) : Change := ⟨k + 6 * (i : Int), k + 6 * (i : Int) + 1, k + 6 * (i : Int) + 1 + 1, k + 6 * (i : Int) + 1 + 1 + 1, k + 6 * (i : Int) + 1 + 1 + 1 + 1, ((k + 6 * (i : Int) + 1 + 1 + 1 + 1 + 1).tmod 3) == 0⟩
theorem mark_ChangeS_l : ∀ (ys pre : List Change) (k : Int) (f : Nat), 0 ≤ k → k + 6 * (ys.length : Int) ≤ 1099511627776 → (pre ++ ys).length ≤ 1099511627776 → ys.length < f →
    ∃ ys' k', laws_markChangeS_l1 f (pre ++ ys) k (pre.length : Int) = some (pre ++ ys', k') ∧ k ≤ k' ∧ k' ≤ k + 6 * (ys.length : Int) ∧ k' = k + 6 * (ys.length : Int) ∧ ys' = (List.range ys.length).map (mChange k) := by
  intro ys
  induction ys with
  | nil =>
    intro pre k f h0 hk hl hf
    obtain ⟨f, rfl⟩ := Nat.exists_eq_succ_of_ne_zero (by omega : f ≠ 0)
    refine ⟨[], k, ?_, Int.le_refl _, by simp, by simp, by simp⟩
    rw [laws_markChangeS_l1, decide_eq_false (by simp), cond_false]
  | cons y ys ih =>
    intro pre k f h0 hk hl hf
    obtain ⟨f, rfl⟩ := Nat.exists_eq_succ_of_ne_zero (by omega : f ≠ 0)
    simp only [List.length_cons] at hk hf
    have hp : pre.length + 1 ≤ 1099511627776 := by simp at hl; omega
    rw [laws_markChangeS_l1, decide_eq_true (by simp only [List.length_append, List.length_cons]; omega), cond_true, show need (3 != 0) = some () from rfl]
    simp only [getI_pre1, set_pre1, Option.bind_some]
    rw [w64_in (n := k + 1) (by omega), w64_in (n := k + 1 + 1) (by omega), w64_in (n := k + 1 + 1 + 1) (by omega), w64_in (n := k + 1 + 1 + 1 + 1) (by omega), w64_in (n := k + 1 + 1 + 1 + 1 + 1) (by omega), w64_in (n := k + 1 + 1 + 1 + 1 + 1 + 1) (by omega), w64_in (n := (pre.length : Int) + 1) (by omega)]
    obtain ⟨ys', k', h1, h2, h3, h4, h5⟩ := ih (pre ++ [⟨k, k + 1, k + 1 + 1, k + 1 + 1 + 1, k + 1 + 1 + 1 + 1, ((k + 1 + 1 + 1 + 1 + 1).tmod 3) == 0⟩]) (k + 1 + 1 + 1 + 1 + 1 + 1) f (by omega) (by omega) (by simp at hl ⊢; omega) (by omega)
    refine ⟨⟨k, k + 1, k + 1 + 1, k + 1 + 1 + 1, k + 1 + 1 + 1 + 1, ((k + 1 + 1 + 1 + 1 + 1).tmod 3) == 0⟩ :: ys', k', ?_, by omega, by simp only [List.length_cons]; omega, by simp only [List.length_cons]; omega, ?_⟩
    · simp only [List.append_assoc, List.cons_append, List.nil_append, List.length_append, List.length_cons, List.length_nil, Nat.zero_add, Int.natCast_add, Int.natCast_one] at h1
      simpa using h1
    · rw [h5, List.length_cons, List.range_succ_eq_map, List.map_cons, List.map_map]
      congr 1
      · simp [mChange]
      · apply List.map_congr_left
        intro i _
        have : k + 1 + 1 + 1 + 1 + 1 + 1 + 6 * (i : Int) = k + 6 * ((i + 1 : Nat) : Int) := by omega
        simp only [Function.comp, mChange, this, Nat.succ_eq_add_one]
theorem held_ChangeS_l : ∀ (n : Nat) (k : Int) (j : Nat), 0 ≤ k → k + 6 * (n : Int) ≤ 1099511627776 → laws_heldChangeS_l1 ((List.range n).map (mChange k)) j k = some (k + 6 * (n : Int)) := by
  intro n
  induction n with
  | zero => intro k j _ _; rw [List.range_zero, List.map_nil, laws_heldChangeS_l1]; simp
  | succ n ih =>
    intro k j h0 hk
    rw [List.range_succ_eq_map, List.map_cons, List.map_map, laws_heldChangeS_l1, show mChange k 0 = ⟨k, k + 1, k + 1 + 1, k + 1 + 1 + 1, k + 1 + 1 + 1 + 1, ((k + 1 + 1 + 1 + 1 + 1).tmod 3) == 0⟩ from by simp [mChange], show need (3 != 0) = some () from rfl]
    rw [w64_in (n := k + 1) (by omega), w64_in (n := k + 1 + 1) (by omega), w64_in (n := k + 1 + 1 + 1) (by omega), w64_in (n := k + 1 + 1 + 1 + 1) (by omega), w64_in (n := k + 1 + 1 + 1 + 1 + 1) (by omega), w64_in (n := k + 1 + 1 + 1 + 1 + 1 + 1) (by omega)]
    simp only [bne_self_eq_false, cond_false, beq_self_eq_true, Bool.not_true, Option.bind_some]
    have h1 := ih (k + 1 + 1 + 1 + 1 + 1 + 1) (j + 1) (by omega) (by omega)
    rw [show k + 1 + 1 + 1 + 1 + 1 + 1 + 6 * (n : Int) = k + 6 * ((n + 1 : Nat) : Int) from by omega] at h1
    rw [← h1]
    congr 1
    apply List.map_congr_left
    intro i _
    have : k + 1 + 1 + 1 + 1 + 1 + 1 + 6 * (i : Int) = k + 6 * ((i + 1 : Nat) : Int) := by omega
    simp only [Function.comp, mChange, this, Nat.succ_eq_add_one]
theorem mark_ChangeS_h (a : List Change) (k : Int) (fuel : Nat) (h0 : 0 ≤ k) (hk : k + 6 * (a.length : Int) ≤ 1099511627776) (hf : a.length < fuel) :
    ∃ a' k', laws_markChangeS_p fuel a k = some (a', k') ∧ k ≤ k' ∧ k' ≤ k + 6 * (a.length : Int) ∧ laws_heldChangeS_p a' k = some k' := by
  obtain ⟨a', k', h1, h2, h3, h4, h5⟩ := mark_ChangeS_l a [] k fuel h0 hk (by simp; omega) hf
  exact ⟨a', k', h1, h2, h3, by rw [h5, h4]; exact held_ChangeS_l a.length k 0 h0 hk⟩

end Go.Proofs.YtjbkbiofklgblaaDoor

/- Plain lemmas: what the functions compute is what the reference says, in plain Lean. No condition. -/
import Derived.Test.YtjbkbiofklgblaaDoorPHText4
set_option maxRecDepth 4000
set_option maxHeartbeats 1000000
set_option linter.unusedVariables false
set_option linter.unusedSimpArgs false
set_option linter.unusedSectionVars false

namespace Go.Proofs.YtjbkbiofklgblaaDoor
open Go.AM

theorem toL_app (a b : ByteArray) : toL (a ++ b) = toL a ++ toL b := by
  show (a ++ b).data.toList = _
  rw [ByteArray.data_append, Array.toList_append]
theorem nd {a b : Nat} (h : a + b ≤ 1000000) : need (Nat.ble (a + b) maxN) = some () := by
  rw [show Nat.ble (a + b) maxN = true from by rw [Nat.ble_eq]; unfold maxN; omega]; rfl
theorem num_s (F : Nat) : ∀ (k rf n : Nat), n < 10 ^ (k + 1) → k < 12 → k < rf → ∃ t, spec_l1Num_p F rf (n : Int) = some t ∧ toL t = numL n := by
  intro k
  induction k with
  | zero =>
    intro rf n h _ hr
    obtain ⟨rf, rfl⟩ := Nat.exists_eq_succ_of_ne_zero (by omega : rf ≠ 0)
    rw [spec_l1Num_p, decide_eq_true (by omega), cond_true, numL, if_pos (by omega), w64_in (by omega)]
    refine ⟨_, rfl, ?_⟩
    have : n = 0 ∨ n = 1 ∨ n = 2 ∨ n = 3 ∨ n = 4 ∨ n = 5 ∨ n = 6 ∨ n = 7 ∨ n = 8 ∨ n = 9 := by omega
    rcases this with rfl | rfl | rfl | rfl | rfl | rfl | rfl | rfl | rfl | rfl <;> rfl
  | succ k ih =>
    intro rf n h hk hr
    obtain ⟨rf, rfl⟩ := Nat.exists_eq_succ_of_ne_zero (by omega : rf ≠ 0)
    have hdig : ∀ d : Nat, d < 10 → toL (strOfNums [IntKind.wrap .u8 (w64 (48 + (d : Int)))]) = [UInt8.ofNat (48 + d)] := by
      intro d hd
      rw [w64_in (by omega)]
      have : d = 0 ∨ d = 1 ∨ d = 2 ∨ d = 3 ∨ d = 4 ∨ d = 5 ∨ d = 6 ∨ d = 7 ∨ d = 8 ∨ d = 9 := by omega
      rcases this with rfl | rfl | rfl | rfl | rfl | rfl | rfl | rfl | rfl | rfl <;> rfl
    rw [spec_l1Num_p, numL]
    by_cases h10 : n < 10
    · rw [decide_eq_true (by omega), cond_true, if_pos h10]
      exact ⟨_, rfl, hdig n h10⟩
    · rw [decide_eq_false (by omega), cond_false, if_neg h10, show need (10 != 0) = some () from rfl, Option.bind_some]
      have hp : 10 ^ (k + 1 + 1) ≤ 10 ^ 13 := Nat.pow_le_pow_right (by omega) (by omega)
      have e1 : ((n : Int)).tdiv 10 = ((n / 10 : Nat) : Int) := by rw [Int.tdiv_eq_ediv_of_nonneg (by omega)]; omega
      have e2 : ((n : Int)).tmod 10 = ((n % 10 : Nat) : Int) := by rw [Int.tmod_eq_emod_of_nonneg (by omega)]; omega
      rw [e1, e2, w64_in (n := ((n / 10 : Nat) : Int)) (by omega)]
      obtain ⟨t, t1, t2⟩ := ih rf (n / 10) (by rw [Nat.pow_succ] at h; omega) (by omega) (by omega)
      have hts : t.size ≤ k + 1 := by
        rw [show t.size = (toL t).length from Go.Lib.size_eq t, t2]
        exact num_len k _ (by rw [Nat.pow_succ] at h; omega)
      rw [bnd t1, show (strOfNums [IntKind.wrap .u8 (w64 (48 + ((n % 10 : Nat) : Int)))]).size = 1 from rfl, nd (by omega), Option.bind_some]
      exact ⟨_, rfl, by rw [toL_app, t2, hdig _ (Nat.mod_lt _ (by omega))]⟩
theorem num_s6 (F : Nat) (hF : 100 < F) (n : Int) (h : 0 ≤ n ∧ n ≤ 100000) : ∃ t, spec_l1Num_p F F n = some t ∧ toL t = numL n.toNat ∧ t.size ≤ 6 := by
  obtain ⟨t, t1, t2⟩ := num_s F 5 F n.toNat (by omega) (by omega) (by omega)
  rw [Int.toNat_of_nonneg h.1] at t1
  exact ⟨t, t1, t2, by rw [show t.size = (toL t).length from Go.Lib.size_eq t, t2]; exact num_len 5 _ (by omega)⟩
theorem word_s (m : Int) (h : 0 ≤ m ∧ m ≤ 3) : ∃ w, getI markT m = some w ∧ toL w = wordL m ∧ w.size = 4 := by
  have : m = 0 ∨ m = 1 ∨ m = 2 ∨ m = 3 := by omega
  rcases this with rfl | rfl | rfl | rfl <;> exact ⟨_, rfl, rfl, rfl⟩
theorem hiText_l (F : Nat) (hF : 100 < F) : ∀ (ys : List Change) (k : Nat) (acc : ByteArray), (∀ c ∈ ys, chgIn c) → acc.size + 64 * ys.length ≤ 100000 → ∃ t, spec_hiText_l1 F ys k acc = some t ∧ toL t = toL acc ++ textL (ys.map chgL) := by
  intro ys
  induction ys with
  | nil => intro k acc _ _; rw [spec_hiText_l1]; exact ⟨_, rfl, by rw [List.map_nil]; unfold textL; simp⟩
  | cons c ys ih =>
    intro k acc hc hs
    obtain ⟨ct, cc, ci, cn, cm⟩ := hc c (by simp)
    obtain ⟨t0, a0, b0, s0⟩ := num_s6 F hF c.tick ct
    obtain ⟨t1, a1, b1, s1⟩ := num_s6 F hF c.caller (by omega)
    obtain ⟨t2, a2, b2, s2⟩ := num_s6 F hF c.item (by omega)
    obtain ⟨t3, a3, b3, s3⟩ := num_s6 F hF c.name (by omega)
    obtain ⟨w, a4, b4, s4⟩ := word_s c.mark cm
    have e32 : (⟨#[32]⟩ : ByteArray).size = 1 := rfl
    have e10 : (⟨#[10]⟩ : ByteArray).size = 1 := rfl
    have e7 : (⟨#[32, 114, 101, 118, 105, 101, 119]⟩ : ByteArray).size = 7 := rfl
    have l32 : toL (⟨#[32]⟩ : ByteArray) = [32] := rfl
    have l10 : toL (⟨#[10]⟩ : ByteArray) = [10] := rfl
    have l7 : toL (⟨#[32, 114, 101, 118, 105, 101, 119]⟩ : ByteArray) = 32 :: revL := rfl
    rw [List.length_cons] at hs
    rw [spec_hiText_l1, bnd a0, nd (by omega), Option.bind_some, bnd a1, nd (by simp only [ByteArray.size_append]; omega), Option.bind_some, nd (by simp only [ByteArray.size_append]; omega), Option.bind_some, bnd a2,
      nd (by simp only [ByteArray.size_append]; omega), Option.bind_some, nd (by simp only [ByteArray.size_append]; omega), Option.bind_some, bnd a3, nd (by simp only [ByteArray.size_append]; omega), Option.bind_some, nd (by simp only [ByteArray.size_append]; omega), Option.bind_some,
      bnd (show spec_hiWords_p = some markT from rfl), bnd a4, nd (by simp only [ByteArray.size_append]; omega), Option.bind_some, nd (by simp only [ByteArray.size_append]; omega), Option.bind_some]
    have hline : lineL (chgL c) = if c.review then (numL c.tick.toNat ++ 32 :: (numL c.caller.toNat ++ 32 :: (numL c.item.toNat ++ 32 :: (numL c.name.toNat ++ 32 :: wordL c.mark)))) ++ 32 :: revL else numL c.tick.toNat ++ 32 :: (numL c.caller.toNat ++ 32 :: (numL c.item.toNat ++ 32 :: (numL c.name.toNat ++ 32 :: wordL c.mark))) := line_five (chgL c)
    have htext : textL ((c :: ys).map chgL) = (lineL (chgL c) ++ [10]) ++ textL (ys.map chgL) := rfl
    cases hr : c.review
    · rw [cond_false, nd (by simp only [ByteArray.size_append]; omega), Option.bind_some]
      obtain ⟨t, q1, q2⟩ := ih (k + 1) (((acc ++ ((((((((t0 ++ (⟨#[32]⟩ : ByteArray)) ++ t1) ++ (⟨#[32]⟩ : ByteArray)) ++ t2) ++ (⟨#[32]⟩ : ByteArray)) ++ t3) ++ (⟨#[32]⟩ : ByteArray)) ++ w)) ++ (⟨#[10]⟩ : ByteArray))) (fun z hz => hc z (by simp [hz])) (by simp only [ByteArray.size_append]; omega)
      refine ⟨t, q1, ?_⟩
      rw [q2, htext, hline, hr]
      simp only [toL_app, b0, b1, b2, b3, b4, l32, l10, List.append_assoc, List.cons_append, List.nil_append, Bool.false_eq_true, if_false]
    · rw [cond_true, nd (by simp only [ByteArray.size_append]; omega), Option.bind_some, nd (by simp only [ByteArray.size_append]; omega), Option.bind_some]
      obtain ⟨t, q1, q2⟩ := ih (k + 1) ((((acc ++ ((((((((t0 ++ (⟨#[32]⟩ : ByteArray)) ++ t1) ++ (⟨#[32]⟩ : ByteArray)) ++ t2) ++ (⟨#[32]⟩ : ByteArray)) ++ t3) ++ (⟨#[32]⟩ : ByteArray)) ++ w)) ++ (⟨#[32, 114, 101, 118, 105, 101, 119]⟩ : ByteArray)) ++ (⟨#[10]⟩ : ByteArray))) (fun z hz => hc z (by simp [hz])) (by simp only [ByteArray.size_append]; omega)
      refine ⟨t, q1, ?_⟩
      rw [q2, htext, hline, hr]
      simp only [toL_app, b0, b1, b2, b3, b4, l32, l10, l7, List.append_assoc, List.cons_append, List.nil_append, if_true]
theorem hiText_eq {F : Nat} (hF : 100 < F) (h : List Change) (hl : h.length ≤ 60) (hc : ∀ c ∈ h, chgIn c) : ∃ t, spec_hiText_p F h = some t ∧ toL t = textL (h.map chgL) := by
  obtain ⟨t, t1, t2⟩ := hiText_l F hF h 0 ⟨#[]⟩ hc (by show 0 + 64 * h.length ≤ 100000; omega)
  exact ⟨t, t1, t2⟩

end Go.Proofs.YtjbkbiofklgblaaDoor

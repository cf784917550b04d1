/- Plain lemmas: what the functions compute is what the reference says, in plain Lean. No condition. -/
import Derived.Test.YtjbkbiofklgblaaGreatDoorPHText2
set_option maxRecDepth 4000
set_option maxHeartbeats 1000000
set_option linter.unusedVariables false
set_option linter.unusedSimpArgs false
set_option linter.unusedSectionVars false

namespace Go.Proofs.YtjbkbiofklgblaaGreatDoor
open Go.AM

def chgIn (c : Change) : Prop := (0 ≤ c.tick ∧ c.tick ≤ 100000) ∧ (1 ≤ c.caller ∧ c.caller ≤ 9) ∧ (0 ≤ c.item ∧ c.item < 14) ∧ (0 ≤ c.name ∧ c.name < 3) ∧ (0 ≤ c.mark ∧ c.mark ≤ 3)
theorem change_in {x x' : HiState} (hx : StOk x) {c : Change} (h : spec_hiState_change_p x c = some (x', true)) : chgIn c := by
  unfold spec_hiState_change_p at h
  obtain ⟨n1, n1s, n1p⟩ := ret_spName x.items hx.1 c.item c.name
  obtain ⟨t, ts, tp⟩ := ret_l1In c.tick 0 100000
  obtain ⟨a, as2, ap⟩ := ret_l1In c.caller 1 9
  obtain ⟨m, ms, mp⟩ := ret_l1In c.mark 0 3
  rw [n1s, ts, as2, ms] at h
  by_cases hall : n1 = true ∧ t = true ∧ a = true ∧ m = true
  · obtain ⟨rfl, rfl, rfl, rfl⟩ := hall
    obtain ⟨v1, v2, it, v3, v4⟩ := n1p.1 rfl
    have hI := (List.getElem?_eq_some_iff.1 v3).1
    have h14 := hx.1.1
    have h3 := (hx.1.2 it (List.mem_of_getElem? v3)).1
    exact ⟨tp.1 rfl, ap.1 rfl, ⟨v1, by omega⟩, ⟨v2, by omega⟩, mp.1 rfl⟩
  · exfalso
    cases n1 <;> cases t <;> cases a <;> cases m <;> first | (simp [opt_t, opt_f] at h; done) | (exact hall ⟨rfl, rfl, rfl, rfl⟩)
theorem run_in : ∀ (ys : List Change) (lo : Option Int) (s : HistoryState) (x z : HiState), StOk x → Sim s x → runS lo x ys = some z → ∀ c ∈ ys, chgIn c := by
  intro ys
  induction ys with
  | nil => intro lo s x z _ _ _ c hc; cases hc
  | cons d ys ih =>
    intro lo s x z hx hs hr c hc
    obtain ⟨b, s', x', e1, e2, e3⟩ := same_change hx hs d
    have hd : chg x d = (x', b) := by unfold chg; rw [e1]; rfl
    rw [runS, hd] at hr
    split at hr
    · rename_i hq
      obtain ⟨rfl, hq2⟩ := hq
      obtain ⟨k1, k2, k3, k4⟩ := e3 rfl
      rcases List.mem_cons.1 hc with rfl | hc
      · exact change_in hx e1
      · exact ih (some d.tick) s' x' z k1 k2 hr c hc
    · cases hr
def chgL (c : Change) : ChgL := ⟨c.tick.toNat, c.caller.toNat, c.item.toNat, c.name.toNat, c.mark, c.review⟩
def five (x : ChgL) : List (List UInt8) := [numL x.t, numL x.c, numL x.i, numL x.n, wordL x.m]
theorem line_five (x : ChgL) : lineL x = if x.r then joinC 32 (five x) ++ 32 :: revL else joinC 32 (five x) := by
  unfold lineL partsL five
  cases x.r
  · rfl
  · simp [joinC, List.append_assoc]
theorem five_no (x : ChgL) : ∀ y ∈ five x, ∀ b ∈ y, b ≠ 32 := fun y hy => parts_no x 32 (.inl rfl) y (List.mem_append_left _ hy)
theorem cut_five (x : ChgL) : cutC 32 (joinC 32 (five x)) = five x := cut_join 32 _ (by unfold five; simp) (five_no x)
theorem cut_app (c : UInt8) (m : List UInt8) : ∀ l : List UInt8, cutC c (l ++ c :: m) = cutC c l ++ cutC c m
  | [] => cutC_hit c m [] (fun _ h => by cases h)
  | b :: l => by
    have ih := cut_app c m l
    rw [List.cons_append, cutC, ih]
    conv => rhs; rw [cutC]
    by_cases h : b = c
    · rw [if_pos h, if_pos h, List.cons_append]
    · rw [if_neg h, if_neg h]
      cases h2 : cutC c l with
      | nil => have := cutC_len c l; rw [h2] at this; simp at this
      | cons x t => rfl
theorem cut_rev : cutC 32 revL = [revL] := cutC_none 32 revL (rev_no 32 (.inl rfl))
theorem word_ne (m : Int) : wordL m ≠ revL := by
  unfold wordL revL
  split
  · decide
  split
  · decide
  split <;> decide
theorem five_end (x : ChgL) (p : List UInt8) : joinC 32 (five x) ≠ p ++ 32 :: revL := by
  intro h
  have h1 := congrArg (cutC 32) h
  rw [cut_five, cut_app, cut_rev] at h1
  have h2 := congrArg List.getLast? h1
  rw [List.getLast?_concat] at h2
  exact word_ne x.m (Option.some.inj h2)
theorem cut_size (c : UInt8) : ∀ (l x : List UInt8), x ∈ cutC c l → x.length ≤ l.length
  | [], x, h => by rw [cutC] at h; rw [List.mem_singleton.1 h]; exact Nat.le_refl _
  | b :: l, x, h => by
    rw [cutC] at h
    by_cases e : b = c
    · rw [if_pos e] at h
      rcases List.mem_cons.1 h with rfl | h
      · exact Nat.zero_le _
      · exact Nat.le_succ_of_le (cut_size c l x h)
    · rw [if_neg e] at h
      cases hq : cutC c l with
      | nil => exact absurd hq (cutC_ne c l)
      | cons z t =>
        rw [hq] at h
        rcases List.mem_cons.1 h with rfl | h
        · exact Nat.succ_le_succ (cut_size c l z (by rw [hq]; simp))
        · exact Nat.le_succ_of_le (cut_size c l x (by rw [hq]; simp [h]))
theorem num_len : ∀ (k n : Nat), n < 10 ^ (k + 1) → (numL n).length ≤ k + 1 := by
  intro k
  induction k with
  | zero => intro n h; rw [numL, if_pos (by omega)]; exact Nat.le_refl _
  | succ k ih =>
    intro n h
    rw [numL]
    split
    · simp
    · rw [List.length_append]
      have := ih (n / 10) (by rw [Nat.pow_succ] at h; omega)
      simp; omega
def markT : List ByteArray := [(⟨#[110, 111, 110, 101]⟩ : ByteArray), (⟨#[100, 111, 119, 110]⟩ : ByteArray), (⟨#[101, 100, 103, 101]⟩ : ByteArray), (⟨#[118, 111, 105, 100]⟩ : ByteArray)]
theorem idxT_eq (v : ByteArray) : ∃ r, slices_Index_string_p markT v = some r ∧ (0 ≤ r → toL v = wordL r ∧ r ≤ 3) ∧ (∀ m, 0 ≤ m ∧ m ≤ 3 → toL v = wordL m → r = m) := by
  unfold slices_Index_string_p markT
  have w0 : ∀ m : Int, 0 ≤ m ∧ m ≤ 3 → m = 0 ∨ m = 1 ∨ m = 2 ∨ m = 3 := fun m h => by omega
  rw [slices_Index_string_l1]
  by_cases h0 : v = ⟨#[110, 111, 110, 101]⟩
  · rw [decide_eq_true h0, cond_true]
    refine ⟨_, rfl, fun _ => ⟨by rw [h0]; rfl, by decide⟩, fun m hm e => ?_⟩
    rcases w0 m hm with rfl | rfl | rfl | rfl
    · rfl
    all_goals rw [h0] at e; revert e; decide
  rw [decide_eq_false h0, cond_false, slices_Index_string_l1]
  by_cases h1 : v = ⟨#[100, 111, 119, 110]⟩
  · rw [decide_eq_true h1, cond_true]
    refine ⟨_, rfl, fun _ => ⟨by rw [h1]; rfl, by decide⟩, fun m hm e => ?_⟩
    rcases w0 m hm with rfl | rfl | rfl | rfl
    · rw [h1] at e; revert e; decide
    · rfl
    all_goals rw [h1] at e; revert e; decide
  rw [decide_eq_false h1, cond_false, slices_Index_string_l1]
  by_cases h2 : v = ⟨#[101, 100, 103, 101]⟩
  · rw [decide_eq_true h2, cond_true]
    refine ⟨_, rfl, fun _ => ⟨by rw [h2]; rfl, by decide⟩, fun m hm e => ?_⟩
    rcases w0 m hm with rfl | rfl | rfl | rfl
    · rw [h2] at e; revert e; decide
    · rw [h2] at e; revert e; decide
    · rfl
    all_goals rw [h2] at e; revert e; decide
  rw [decide_eq_false h2, cond_false, slices_Index_string_l1]
  by_cases h3 : v = ⟨#[118, 111, 105, 100]⟩
  · rw [decide_eq_true h3, cond_true]
    refine ⟨_, rfl, fun _ => ⟨by rw [h3]; rfl, by decide⟩, fun m hm e => ?_⟩
    rcases w0 m hm with rfl | rfl | rfl | rfl
    · rw [h3] at e; revert e; decide
    · rw [h3] at e; revert e; decide
    · rw [h3] at e; revert e; decide
    · rfl
  rw [decide_eq_false h3, cond_false, slices_Index_string_l1]
  refine ⟨_, rfl, fun h => absurd h (by decide), fun m hm e => ?_⟩
  rcases w0 m hm with rfl | rfl | rfl | rfl
  · exact absurd (toL_inj e) h0
  · exact absurd (toL_inj e) h1
  · exact absurd (toL_inj e) h2
  · exact absurd (toL_inj e) h3
def isNum (w : ByteArray) (n : Int) : Prop := 0 ≤ n → canL (toL w) ∧ n = (valL (toL w) : Int)
def shortNum (w : ByteArray) : Prop := canL (toL w) ∧ (toL w).length ≤ 12
theorem ints4 (w0 w1 w2 w3 : ByteArray) (hs : ∀ w ∈ [w0, w1, w2, w3], w.size ≤ 1048576) (F : Nat) (hF : 12 < F) : ∃ r, impl_integersIn_p F [w0, w1, w2, w3] = some r ∧
    (r.2 = true → ∃ n0 n1 n2 n3, r.1 = [n0, n1, n2, n3] ∧ isNum w0 n0 ∧ isNum w1 n1 ∧ isNum w2 n2 ∧ isNum w3 n3) ∧
    (shortNum w0 → shortNum w1 → shortNum w2 → shortNum w3 → r = ([(valL (toL w0) : Int), (valL (toL w1) : Int), (valL (toL w2) : Int), (valL (toL w3) : Int)], true)) := by
  obtain ⟨r0, e0, a0, b0⟩ := integer_eq w0 (hs w0 (by simp)) F hF
  obtain ⟨r1, e1, a1, b1⟩ := integer_eq w1 (hs w1 (by simp)) F hF
  obtain ⟨r2, e2, a2, b2⟩ := integer_eq w2 (hs w2 (by simp)) F hF
  obtain ⟨r3, e3, a3, b3⟩ := integer_eq w3 (hs w3 (by simp)) F hF
  have hfb : ∀ n : Nat, n ≤ 4 → fitsB 8 n = true := fun n h => fits_of (by omega)
  unfold impl_integersIn_p
  rw [impl_integersIn_l1, bnd e0]
  cases h0 : r0.2
  · exact ⟨_, rfl, fun h => by simp at h, fun g0 _ _ _ => by rw [b0 g0.1 g0.2] at h0; cases h0⟩
  rw [Bool.not_true, cond_false, hfb _ (by simp), need_t, Option.bind_some, impl_integersIn_l1, bnd e1]
  cases h1 : r1.2
  · exact ⟨_, rfl, fun h => by simp at h, fun _ g0 _ _ => by rw [b1 g0.1 g0.2] at h1; cases h1⟩
  rw [Bool.not_true, cond_false, hfb _ (by simp), need_t, Option.bind_some, impl_integersIn_l1, bnd e2]
  cases h2 : r2.2
  · exact ⟨_, rfl, fun h => by simp at h, fun _ _ g0 _ => by rw [b2 g0.1 g0.2] at h2; cases h2⟩
  rw [Bool.not_true, cond_false, hfb _ (by simp), need_t, Option.bind_some, impl_integersIn_l1, bnd e3]
  cases h3 : r3.2
  · exact ⟨_, rfl, fun h => by simp at h, fun _ _ _ g0 => by rw [b3 g0.1 g0.2] at h3; cases h3⟩
  rw [Bool.not_true, cond_false, hfb _ (by simp), need_t, Option.bind_some, impl_integersIn_l1]
  refine ⟨_, rfl, fun _ => ⟨r0.1, r1.1, r2.1, r3.1, rfl, a0 h0, a1 h1, a2 h2, a3 h3⟩, fun g0 g1 g2 g3 => ?_⟩
  rw [b0 g0.1 g0.2, b1 g1.1 g1.2, b2 g2.1 g2.2, b3 g3.1 g3.2]
  rfl

end Go.Proofs.YtjbkbiofklgblaaGreatDoor

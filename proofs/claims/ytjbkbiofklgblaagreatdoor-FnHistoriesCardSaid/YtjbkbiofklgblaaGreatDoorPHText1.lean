/- Plain lemmas: what the functions compute is what the reference says, in plain Lean. No condition. -/
import Derived.Test.YtjbkbiofklgblaaGreatDoorPSplit1
set_option maxRecDepth 4000
set_option maxHeartbeats 1000000
set_option linter.unusedVariables false
set_option linter.unusedSimpArgs false
set_option linter.unusedSectionVars false

namespace Go.Proofs.YtjbkbiofklgblaaGreatDoor
open Go.AM

def numL (n : Nat) : List UInt8 := if n < 10 then [UInt8.ofNat (48 + n)] else numL (n / 10) ++ [UInt8.ofNat (48 + n % 10)]
termination_by n
decreasing_by omega
def valL (l : List UInt8) : Nat := l.foldl (fun v b => 10 * v + (b.toNat - 48)) 0
def digL (l : List UInt8) : Prop := ∀ b ∈ l, 48 ≤ b.toNat ∧ b.toNat ≤ 57
def canL (l : List UInt8) : Prop := l ≠ [] ∧ digL l ∧ (1 < l.length → l.head? ≠ some 48)
theorem dig_of {n : Nat} (h : n < 10) : (UInt8.ofNat (48 + n)).toNat = 48 + n := by
  rw [UInt8.toNat_ofNat']; omega
theorem val_snoc (l : List UInt8) (b : UInt8) : valL (l ++ [b]) = 10 * valL l + (b.toNat - 48) := by
  unfold valL; rw [List.foldl_append]; rfl
theorem num_ne (n : Nat) : numL n ≠ [] := by
  rw [numL]; split <;> simp
theorem num_dig (n : Nat) : digL (numL n) := by
  induction n using Nat.strongRecOn with
  | _ n ih =>
    rw [numL]
    split
    · rename_i h
      intro b hb
      rw [List.mem_singleton.1 hb, dig_of h]; omega
    · rename_i h
      intro b hb
      rcases List.mem_append.1 hb with hb | hb
      · exact ih (n / 10) (by omega) b hb
      · rw [List.mem_singleton.1 hb, dig_of (Nat.mod_lt _ (by omega))]; omega
theorem num_val (n : Nat) : valL (numL n) = n := by
  induction n using Nat.strongRecOn with
  | _ n ih =>
    rw [numL]
    split
    · rename_i h
      show 10 * 0 + ((UInt8.ofNat (48 + n)).toNat - 48) = n
      rw [dig_of h]; omega
    · rename_i h
      rw [val_snoc, ih (n / 10) (by omega), dig_of (Nat.mod_lt _ (by omega))]; omega
theorem num_head (n : Nat) (h : 0 < n) : (numL n).head? ≠ some 48 := by
  induction n using Nat.strongRecOn with
  | _ n ih =>
    rw [numL]
    split
    · rename_i h10
      intro e
      have e1 : UInt8.ofNat (48 + n) = 48 := by simpa using e
      have := congrArg UInt8.toNat e1
      rw [dig_of h10] at this
      have : (48 : UInt8).toNat = 48 := rfl
      omega
    · rename_i h10
      have := ih (n / 10) (by omega) (by omega)
      cases hq : numL (n / 10) with
      | nil => exact absurd hq (num_ne _)
      | cons x l => rw [hq] at this; simpa using this
theorem num_can (n : Nat) : canL (numL n) := by
  refine ⟨num_ne n, num_dig n, fun h => ?_⟩
  by_cases h0 : n = 0
  · subst h0; rw [numL] at h; simp at h
  · exact num_head n (by omega)
theorem can_pos {l : List UInt8} (h : canL l) (h1 : 1 < l.length) : 0 < valL l := by
  obtain ⟨_, hd, hh⟩ := h
  cases l with
  | nil => simp at h1
  | cons b l =>
    have hb := hd b (by simp)
    have hb2 : b.toNat ≠ 48 := fun e => hh h1 (by simp; exact UInt8.toNat_inj.1 e)
    have key : ∀ (m : List UInt8) (v : Nat), 0 < v → 0 < m.foldl (fun v b => 10 * v + (b.toNat - 48)) v := by
      intro m
      induction m with
      | nil => intro v hv; exact hv
      | cons c m ih => intro v hv; exact ih (10 * v + (c.toNat - 48)) (by omega)
    exact key l (10 * 0 + (b.toNat - 48)) (by omega)
theorem can_num : ∀ (n : Nat) (l : List UInt8), l.length = n → canL l → numL (valL l) = l := by
  intro n
  induction n with
  | zero => intro l hl h; exact absurd (List.eq_nil_of_length_eq_zero hl) h.1
  | succ n ih =>
    intro l hl h
    rcases List.eq_nil_or_concat l with rfl | ⟨m, b, rfl⟩
    · simp at hl
    simp only [List.concat_eq_append] at *
    have hb := h.2.1 b (by simp)
    have hlt : b.toNat < 256 := b.toNat_lt
    rw [val_snoc]
    have hbo : UInt8.ofNat (48 + (b.toNat - 48)) = b := by
      apply UInt8.toNat_inj.1
      rw [dig_of (by omega)]; omega
    cases hm : m with
    | nil =>
      show numL (10 * 0 + (b.toNat - 48)) = [b]
      rw [Nat.mul_zero, Nat.zero_add, numL, if_pos (by omega), hbo]
    | cons c m' =>
      have hcm : canL m := by
        refine ⟨by rw [hm]; simp, fun x hx => h.2.1 x (by simp [hx]), fun h1 => ?_⟩
        have := h.2.2 (by simp; omega)
        rw [hm] at this ⊢
        simpa using this
      have hpos : 0 < valL m := by
        by_cases h1 : 1 < m.length
        · exact can_pos hcm h1
        · have hm' : m' = [] := by rw [hm] at h1; simp at h1; exact h1
          subst hm'
          have hh := h.2.2 (by rw [hm]; simp)
          rw [hm] at hh ⊢
          have hc := h.2.1 c (by rw [hm]; simp)
          have : c.toNat ≠ 48 := fun e => hh (by simp; exact UInt8.toNat_inj.1 e)
          show 0 < 10 * 0 + (c.toNat - 48)
          omega
      have e := ih m (by simp at hl; omega) hcm
      rw [← hm, numL, if_neg (by omega), show (10 * valL m + (b.toNat - 48)) / 10 = valL m from by omega, show (10 * valL m + (b.toNat - 48)) % 10 = b.toNat - 48 from by omega, e, hbo]
theorem num_no (n : Nat) (c : UInt8) (hc : c.toNat < 48 ∨ 57 < c.toNat) : ∀ x ∈ numL n, x ≠ c := fun x hx e => by
  have := num_dig n x hx
  rw [e] at this; omega
def joinC (c : UInt8) : List (List UInt8) → List UInt8
  | [] => []
  | [x] => x
  | x :: y :: l => x ++ c :: joinC c (y :: l)
theorem cutC_ne (c : UInt8) (l : List UInt8) : cutC c l ≠ [] := by
  intro h
  have := cutC_len c l
  rw [h] at this; simp at this
theorem join_cut (c : UInt8) : ∀ l : List UInt8, joinC c (cutC c l) = l
  | [] => rfl
  | b :: l => by
    have ih := join_cut c l
    rw [cutC]
    by_cases h : b = c
    · rw [if_pos h]
      cases hq : cutC c l with
      | nil => exact absurd hq (cutC_ne c l)
      | cons x t =>
        rw [hq] at ih
        show [] ++ c :: joinC c (x :: t) = b :: l
        rw [ih, h]; rfl
    · rw [if_neg h]
      cases hq : cutC c l with
      | nil => exact absurd hq (cutC_ne c l)
      | cons x t =>
        rw [hq] at ih
        show joinC c ((b :: x) :: t) = b :: l
        rw [← ih]
        cases t <;> rfl
theorem cut_join (c : UInt8) : ∀ (ls : List (List UInt8)), ls ≠ [] → (∀ x ∈ ls, ∀ b ∈ x, b ≠ c) → cutC c (joinC c ls) = ls
  | [], h, _ => absurd rfl h
  | [x], _, hx => cutC_none c x (hx x (by simp))
  | x :: y :: l, _, hx => by
    show cutC c (x ++ c :: joinC c (y :: l)) = _
    rw [cutC_hit c _ x (hx x (by simp)), cut_join c (y :: l) (by simp) fun z hz => hx z (by simp [hz])]
def wordL (m : Int) : List UInt8 := if m = 0 then [110, 111, 110, 101] else if m = 1 then [100, 111, 119, 110] else if m = 2 then [101, 100, 103, 101] else [118, 111, 105, 100]
def revL : List UInt8 := [114, 101, 118, 105, 101, 119]
structure ChgL where
  t : Nat
  c : Nat
  i : Nat
  n : Nat
  m : Int
  r : Bool
def partsL (x : ChgL) : List (List UInt8) := [numL x.t, numL x.c, numL x.i, numL x.n, wordL x.m] ++ (if x.r then [revL] else [])
def lineL (x : ChgL) : List UInt8 := joinC 32 (partsL x)
def textL (h : List ChgL) : List UInt8 := (h.map fun x => lineL x ++ [10]).flatten
theorem word_no (m : Int) (c : UInt8) (hc : c = 32 ∨ c = 10) : ∀ x ∈ wordL m, x ≠ c := by
  unfold wordL
  rcases hc with rfl | rfl <;> (split; decide; split; decide; split <;> decide)
theorem rev_no (c : UInt8) (hc : c = 32 ∨ c = 10) : ∀ x ∈ revL, x ≠ c := by
  rcases hc with rfl | rfl <;> decide
theorem parts_no (x : ChgL) (c : UInt8) (hc : c = 32 ∨ c = 10) : ∀ y ∈ partsL x, ∀ b ∈ y, b ≠ c := by
  have h48 : c.toNat < 48 ∨ 57 < c.toNat := by rcases hc with rfl | rfl <;> decide
  intro y hy
  unfold partsL at hy
  rcases List.mem_append.1 hy with hy | hy
  · simp only [List.mem_cons, List.not_mem_nil, or_false] at hy
    rcases hy with rfl | rfl | rfl | rfl | rfl
    · exact num_no _ c h48
    · exact num_no _ c h48
    · exact num_no _ c h48
    · exact num_no _ c h48
    · exact word_no _ c hc
  · split at hy
    · rw [List.mem_singleton.1 hy]; exact rev_no c hc
    · cases hy
theorem cut_line (x : ChgL) : cutC 32 (lineL x) = partsL x := cut_join 32 _ (by unfold partsL; simp) (parts_no x 32 (.inl rfl))
theorem join_no (c d : UInt8) (hcd : c ≠ d) : ∀ ls : List (List UInt8), (∀ x ∈ ls, ∀ b ∈ x, b ≠ d) → ∀ b ∈ joinC c ls, b ≠ d
  | [], _, b, hb => by cases hb
  | [x], h, b, hb => h x (by simp) b hb
  | x :: y :: l, h, b, hb => by
    rcases List.mem_append.1 hb with hb | hb
    · exact h x (by simp) b hb
    · rcases List.mem_cons.1 hb with rfl | hb
      · exact hcd
      · exact join_no c d hcd (y :: l) (fun z hz => h z (by simp [hz])) b hb
theorem line_no (x : ChgL) : ∀ b ∈ lineL x, b ≠ 10 := join_no 32 10 (by decide) _ (parts_no x 10 (.inr rfl))
theorem cut_text : ∀ h : List ChgL, cutC 10 (textL h) = h.map lineL ++ [[]]
  | [] => rfl
  | x :: h => by
    show cutC 10 ((lineL x ++ [10]) ++ textL h) = _
    rw [List.append_assoc]
    show cutC 10 (lineL x ++ 10 :: textL h) = _
    rw [cutC_hit 10 _ _ (line_no x), cut_text h]
    rfl
theorem text_of_cut : ∀ (h : List ChgL) (s : List UInt8), cutC 10 s = h.map lineL ++ [[]] → s = textL h := by
  intro h s e
  have h1 := join_cut 10 s
  rw [e, ← cut_text h, join_cut] at h1
  exact h1.symm

end Go.Proofs.YtjbkbiofklgblaaGreatDoor

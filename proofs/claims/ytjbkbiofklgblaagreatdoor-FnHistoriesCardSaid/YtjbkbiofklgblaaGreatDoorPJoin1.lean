/- Plain lemmas: what the functions compute is what the reference says, in plain Lean. No condition. -/
import Derived.Test.YtjbkbiofklgblaaGreatDoorPHText5
set_option maxRecDepth 4000
set_option maxHeartbeats 1000000
set_option linter.unusedVariables false
set_option linter.unusedSimpArgs false
set_option linter.unusedSectionVars false

namespace Go.Proofs.YtjbkbiofklgblaaGreatDoor
open Go.AM

def totS (xs : List ByteArray) : Nat := (xs.map fun x => x.size).sum
theorem totS_cons (x : ByteArray) (xs : List ByteArray) : totS (x :: xs) = x.size + totS xs := rfl
def sepL (sep : List UInt8) (ys : List ByteArray) : List UInt8 := (ys.map fun y => sep ++ toL y).flatten
theorem sepL_cons (sep : List UInt8) (y : ByteArray) (ys : List ByteArray) : sepL sep (y :: ys) = (sep ++ toL y) ++ sepL sep ys := rfl
theorem toL_ap (a b : ByteArray) : toL (a ++ b) = toL a ++ toL b := by
  show (a ++ b).data.toList = _
  rw [ByteArray.data_append, Array.toList_append]
theorem nd47 {n : Nat} (h : n ≤ 1000000000) : need (Nat.ble n 140737488355328) = some () := by
  rw [show Nat.ble n 140737488355328 = true from by rw [Nat.ble_eq]; omega]; rfl
theorem join_l2 (sep : ByteArray) : ∀ (ys : List ByteArray) (k : Nat) (acc : ByteArray), acc.size + totS ys + sep.size * ys.length ≤ 1000000000 →
    (∃ r, strings_Join_l2 sep ys k acc = some r ∧ toL r = toL acc ++ sepL (toL sep) ys) ∧ (∃ r, strings_Join_l4 sep ys k acc = some r ∧ toL r = toL acc ++ sepL (toL sep) ys) := by
  intro ys
  induction ys with
  | nil =>
    intro k acc _
    rw [strings_Join_l2, strings_Join_l4]
    exact ⟨⟨_, rfl, by unfold sepL; simp⟩, ⟨_, rfl, by unfold sepL; simp⟩⟩
  | cons y ys ih =>
    intro k acc h
    rw [totS_cons, List.length_cons, Nat.mul_add, Nat.mul_one] at h
    rw [strings_Join_l2, strings_Join_l4, nd47 (by omega), Option.bind_some, Option.bind_some, nd47 (by rw [ByteArray.size_append]; omega), Option.bind_some, Option.bind_some]
    obtain ⟨⟨r, r1, r2⟩, q, q1, q2⟩ := ih (k + 1) ((acc ++ sep) ++ y) (by rw [ByteArray.size_append, ByteArray.size_append]; omega)
    refine ⟨⟨r, r1, ?_⟩, q, q1, ?_⟩
    · rw [r2, sepL_cons, toL_ap, toL_ap]; simp only [List.append_assoc]
    · rw [q2, sepL_cons, toL_ap, toL_ap]; simp only [List.append_assoc]
theorem join_l1 (x : ByteArray) (xs : List ByteArray) (sep : ByteArray) (hb : x.size + totS xs + sep.size * xs.length ≤ 1000000000) (hx : xs.length ≤ 1000000000) : ∀ (ys : List ByteArray) (k : Nat) (v : Int), 0 ≤ v → v + (totS ys : Int) ≤ 2000000000 →
    (∃ r, strings_Join_l1 (x :: xs) sep ys k v = some r ∧ toL r = toL x ++ sepL (toL sep) xs) ∧ (∃ r, strings_Join_l3 (x :: xs) sep ys k v = some r ∧ toL r = toL x ++ sepL (toL sep) xs) := by
  intro ys
  induction ys with
  | nil =>
    intro k v h0 h1
    have hv : v ≤ 2000000000 := by have : totS [] = 0 := rfl; omega
    have e0 : (⟨#[]⟩ : ByteArray).size = 0 := rfl
    have hn : need (decide (0 ≤ v) && decide (v ≤ 281474976710656)) = some () := by rw [decide_eq_true h0, decide_eq_true (by omega)]; rfl
    have hs : sliceLo (x :: xs) 1 = some xs := by
      unfold sliceLo
      rw [if_pos (by simp; omega)]
      rfl
    rw [strings_Join_l1, strings_Join_l3, hn, Option.bind_some, Option.bind_some, bnd (show getI (x :: xs) 0 = some x from rfl), bnd (show getI (x :: xs) 0 = some x from rfl), nd47 (by rw [e0]; omega), Option.bind_some, Option.bind_some, bnd hs, bnd hs]
    have hap : toL ((⟨#[]⟩ : ByteArray) ++ x) = toL x := by rw [toL_ap]; rfl
    obtain ⟨⟨r, r1, r2⟩, q, q1, q2⟩ := join_l2 sep xs 0 ((⟨#[]⟩ : ByteArray) ++ x) (by rw [ByteArray.size_append, e0]; omega)
    exact ⟨⟨r, r1, by rw [r2, hap]⟩, q, q1, by rw [q2, hap]⟩
  | cons y ys ih =>
    intro k v h0 h1
    rw [totS_cons] at h1
    have hw : w64 (9223372036854775807 - v) = 9223372036854775807 - v := w64_in (by omega)
    rw [strings_Join_l1, strings_Join_l3, hw, decide_eq_false (by omega), cond_false, cond_false, w64_in (by omega)]
    exact ih (k + 1) (v + (y.size : Int)) (by omega) (by omega)
theorem join_eq (x : ByteArray) (xs : List ByteArray) (sep : ByteArray) (hs : sep.size ≤ 1000) (hb : x.size + totS xs + sep.size * xs.length ≤ 1000000000) (hx : xs.length ≤ 1000000) : ∃ r, strings_Join_p (x :: xs) sep = some r ∧ toL r = toL x ++ sepL (toL sep) xs := by
  unfold strings_Join_p
  rw [show (((x :: xs).length : Int) == 0) = false from by rw [beq_eq_false_iff_ne]; simp; omega, cond_false]
  have hl : ((x :: xs).length : Int) = (xs.length : Int) + 1 := by simp
  rw [hl]
  by_cases h1 : xs = []
  · subst h1
    exact ⟨x, rfl, by unfold sepL; simp⟩
  have hpos : 0 < xs.length := List.length_pos_iff.2 h1
  rw [show (((xs.length : Int) + 1) == 1) = false from by rw [beq_eq_false_iff_ne]; omega, cond_false]
  by_cases h2 : (sep.size : Int) > 0
  · have hw : w64 ((xs.length : Int) + 1 - 1) = (xs.length : Int) := by rw [w64_in (by omega)]; omega
    rw [decide_eq_true h2, cond_true, hw, show need ((xs.length : Int) != 0) = some () from by rw [show ((xs.length : Int) != 0) = true from by rw [bne_iff_ne]; omega]; rfl, Option.bind_some]
    have hdiv : (1001 : Int) ≤ (9223372036854775807 : Int) / (xs.length : Int) := by
      rw [Int.le_ediv_iff_mul_le (by omega)]; omega
    have hdle : (9223372036854775807 : Int) / (xs.length : Int) ≤ 9223372036854775807 := Int.ediv_le_self _ (by omega)
    have ht : (9223372036854775807 : Int).tdiv (xs.length : Int) = (9223372036854775807 : Int) / (xs.length : Int) := Int.tdiv_eq_ediv_of_nonneg (by omega)
    rw [ht, w64_in ⟨by omega, hdle⟩, decide_eq_false (by omega), cond_false]
    have hm : ((sep.size : Int) * (xs.length : Int)) = ((sep.size * xs.length : Nat) : Int) := by rw [Int.natCast_mul]
    rw [hm, w64_in (n := ((sep.size * xs.length : Nat) : Int)) (by omega), w64_in (by omega)]
    exact (join_l1 x xs sep hb (by omega) (x :: xs) 0 _ (by omega) (by rw [totS_cons]; omega)).1
  · rw [decide_eq_false h2, cond_false]
    exact (join_l1 x xs sep hb (by omega) (x :: xs) 0 0 (by omega) (by rw [totS_cons]; omega)).2
theorem dec_num (n : Nat) : Go.Lib.decDigits n = numL n := by
  induction n using Nat.strongRecOn with
  | _ n ih =>
    rw [Go.Lib.decDigits, numL]
    by_cases h : n < 10
    · rw [dif_pos h, if_pos h]
    · rw [dif_neg h, if_neg h, ih (n / 10) (by omega)]
theorem itoa_eq (n : Int) (h : 0 ≤ n ∧ n ≤ 1000000000) : ∃ r, strconv_Itoa_p n = some r ∧ toL r = numL n.toNat := by
  unfold strconv_Itoa_p
  rw [show need (decide (-9223372036854775808 ≤ n) && decide (n ≤ 9223372036854775807)) = some () from by rw [decide_eq_true (by omega), decide_eq_true (by omega)]; rfl, Option.bind_some]
  refine ⟨_, rfl, ?_⟩
  show (Go.Lib.itoa n).toArray.toList = _
  unfold Go.Lib.itoa
  rw [if_neg (by omega), dec_num]

end Go.Proofs.YtjbkbiofklgblaaGreatDoor

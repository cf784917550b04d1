/- Plain lemmas: what the functions compute is what the reference says, in plain Lean. No condition. -/
import Derived.Test.YtjbkbiofklgblaaGreatDoorPJoin1
set_option maxRecDepth 4000
set_option maxHeartbeats 1000000
set_option linter.unusedVariables false
set_option linter.unusedSimpArgs false
set_option linter.unusedSectionVars false

namespace Go.Proofs.YtjbkbiofklgblaaGreatDoor
open Go.AM

theorem num_size {w : ByteArray} {n : Int} (h : toL w = numL n.toNat) (hn : 0 ≤ n ∧ n ≤ 100000) : w.size ≤ 6 := by
  rw [show w.size = (toL w).length from Go.Lib.size_eq w, h]; exact num_len 5 _ (by omega)
theorem numbers_eq (a b c d : Int) (ha : 0 ≤ a ∧ a ≤ 100000) (hb : 0 ≤ b ∧ b ≤ 100000) (hc : 0 ≤ c ∧ c ≤ 100000) (hd : 0 ≤ d ∧ d ≤ 100000) : ∃ r, impl_numbersText_p [a, b, c, d] = some r ∧ toL r = numL a.toNat ++ 32 :: (numL b.toNat ++ 32 :: (numL c.toNat ++ 32 :: numL d.toNat)) ∧ r.size ≤ 27 := by
  obtain ⟨ra, a1, a2⟩ := itoa_eq a (by omega)
  obtain ⟨rb, b1, b2⟩ := itoa_eq b (by omega)
  obtain ⟨rc, c1, c2⟩ := itoa_eq c (by omega)
  obtain ⟨rd, d1, d2⟩ := itoa_eq d (by omega)
  have sa := num_size a2 ha
  have sb := num_size b2 hb
  have sc := num_size c2 hc
  have sd := num_size d2 hd
  have hfb : ∀ n : Nat, n ≤ 4 → fitsB 16 n = true := fun n h => fits_of (by omega)
  unfold impl_numbersText_p
  rw [impl_numbersText_l1, bnd a1, hfb _ (by simp), need_t, Option.bind_some, impl_numbersText_l1, bnd b1, hfb _ (by simp), need_t, Option.bind_some, impl_numbersText_l1, bnd c1, hfb _ (by simp), need_t, Option.bind_some, impl_numbersText_l1, bnd d1, hfb _ (by simp), need_t, Option.bind_some, impl_numbersText_l1]
  have e1 : (⟨#[32]⟩ : ByteArray).size = 1 := rfl
  obtain ⟨r, r1, r2⟩ := join_eq ra [rb, rc, rd] ⟨#[32]⟩ (by rw [e1]; omega) (by rw [e1, totS_cons, totS_cons, totS_cons]; show _ + (_ + (_ + (_ + 0))) + 1 * 3 ≤ _; omega) (by simp)
  have hr : toL r = numL a.toNat ++ 32 :: (numL b.toNat ++ 32 :: (numL c.toNat ++ 32 :: numL d.toNat)) := by
    rw [r2, sepL_cons, sepL_cons, sepL_cons, a2, b2, c2, d2]
    show _ ++ (([32] ++ _) ++ (([32] ++ _) ++ (([32] ++ _) ++ []))) = _
    simp
  refine ⟨r, bnd r1, hr, ?_⟩
  rw [show r.size = (toL r).length from Go.Lib.size_eq r, hr]
  have la := num_len 5 a.toNat (by omega)
  have lb := num_len 5 b.toNat (by omega)
  have lc := num_len 5 c.toNat (by omega)
  have ld := num_len 5 d.toNat (by omega)
  simp only [List.length_append, List.length_cons]
  omega
theorem writes_l : ∀ (ys : List Change) (k : Nat) (acc : ByteArray), (∀ c ∈ ys, chgIn c) → acc.size + 64 * ys.length ≤ 100000 → ∃ t, impl_HistoryText_l1 ys k acc = some (t, true) ∧ toL t = toL acc ++ textL (ys.map chgL) := by
  intro ys
  induction ys with
  | nil => intro k acc _ _; rw [impl_HistoryText_l1]; exact ⟨_, rfl, by rw [List.map_nil]; unfold textL; simp⟩
  | cons c ys ih =>
    intro k acc hc hs
    obtain ⟨ct, cc, ci, cn, cm⟩ := hc c (by simp)
    obtain ⟨t, a1, b1, s1⟩ := numbers_eq c.tick c.caller c.item c.name ct (by omega) (by omega) (by omega)
    obtain ⟨w, a4, b4, s4⟩ := word_s c.mark cm
    have e32 : (⟨#[32]⟩ : ByteArray).size = 1 := rfl
    have e10 : (⟨#[10]⟩ : ByteArray).size = 1 := rfl
    have e7 : (⟨#[32, 114, 101, 118, 105, 101, 119]⟩ : ByteArray).size = 7 := rfl
    have l32 : toL (⟨#[32]⟩ : ByteArray) = [32] := rfl
    have l10 : toL (⟨#[10]⟩ : ByteArray) = [10] := rfl
    have l7 : toL (⟨#[32, 114, 101, 118, 105, 101, 119]⟩ : ByteArray) = 32 :: revL := rfl
    rw [List.length_cons] at hs
    rw [impl_HistoryText_l1, bnd a1, nd (by omega), Option.bind_some, bnd (show getI [(⟨#[110, 111, 110, 101]⟩ : ByteArray), (⟨#[100, 111, 119, 110]⟩ : ByteArray), (⟨#[101, 100, 103, 101]⟩ : ByteArray), (⟨#[118, 111, 105, 100]⟩ : ByteArray)] c.mark = some w from a4), nd (by simp only [ByteArray.size_append]; omega), Option.bind_some, nd47 (by simp only [ByteArray.size_append]; omega), Option.bind_some]
    have hline : lineL (chgL c) = if c.review then (numL c.tick.toNat ++ 32 :: (numL c.caller.toNat ++ 32 :: (numL c.item.toNat ++ 32 :: (numL c.name.toNat ++ 32 :: wordL c.mark)))) ++ 32 :: revL else numL c.tick.toNat ++ 32 :: (numL c.caller.toNat ++ 32 :: (numL c.item.toNat ++ 32 :: (numL c.name.toNat ++ 32 :: wordL c.mark))) := line_five (chgL c)
    have htext : textL ((c :: ys).map chgL) = (lineL (chgL c) ++ [10]) ++ textL (ys.map chgL) := rfl
    cases hr : c.review
    · rw [cond_false, nd47 (by simp only [ByteArray.size_append]; omega), Option.bind_some]
      obtain ⟨q, q1, q2⟩ := ih (k + 1) ((acc ++ ((t ++ (⟨#[32]⟩ : ByteArray)) ++ w)) ++ (⟨#[10]⟩ : ByteArray)) (fun z hz => hc z (by simp [hz])) (by simp only [ByteArray.size_append]; omega)
      refine ⟨q, q1, ?_⟩
      rw [q2, htext, hline, hr]
      simp only [toL_ap, b1, b4, l32, l10, List.append_assoc, List.cons_append, List.nil_append, Bool.false_eq_true, if_false]
    · rw [cond_true, nd47 (by simp only [ByteArray.size_append]; omega), Option.bind_some, nd47 (by simp only [ByteArray.size_append]; omega), Option.bind_some]
      obtain ⟨q, q1, q2⟩ := ih (k + 1) (((acc ++ ((t ++ (⟨#[32]⟩ : ByteArray)) ++ w)) ++ (⟨#[32, 114, 101, 118, 105, 101, 119]⟩ : ByteArray)) ++ (⟨#[10]⟩ : ByteArray)) (fun z hz => hc z (by simp [hz])) (by simp only [ByteArray.size_append]; omega)
      refine ⟨q, q1, ?_⟩
      rw [q2, htext, hline, hr]
      simp only [toL_ap, b1, b4, l32, l10, l7, List.append_assoc, List.cons_append, List.nil_append, if_true]
theorem same_HistoryText {l : List Item} (hb : nameB l) (h : List Change) (hl : h.length ≤ 1048576) {F : Nat} (hF : 1048576 < F) : ∃ r, spec_HistoryText_p F l h = some r ∧ impl_HistoryText_p F l h = some r ∧ (r.2 = true → Good F l h ∧ toL r.1 = textL (h.map chgL)) ∧ (Good F l h → r.2 = true) := by
  unfold spec_HistoryText_p impl_HistoryText_p
  obtain ⟨b, b1, b2, _⟩ := isHistory_eq hb h hl F hF
  rw [bnd b1, bnd b2]
  cases b
  · exact ⟨_, rfl, rfl, fun h => by simp at h, fun hg => by rw [show impl_isHistory_p F l h = some true from hg] at b1; cases b1⟩
  · obtain ⟨h60, hin, _⟩ := good_in hb hl hF b1
    obtain ⟨t, t1, t2⟩ := hiText_eq (F := F) (by omega) h h60 hin
    obtain ⟨q, q1, q2⟩ := writes_l h 0 ⟨#[]⟩ hin (by show 0 + 64 * h.length ≤ 100000; omega)
    have e : q = t := toL_inj (by rw [q2, t2]; rfl)
    subst e
    rw [Bool.not_true, cond_false, cond_false, bnd t1, q1]
    exact ⟨_, rfl, rfl, fun _ => ⟨b1, t2⟩, fun _ => rfl⟩

end Go.Proofs.YtjbkbiofklgblaaGreatDoor

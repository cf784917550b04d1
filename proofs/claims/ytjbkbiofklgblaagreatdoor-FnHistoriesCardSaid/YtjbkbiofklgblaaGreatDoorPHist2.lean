/- Plain lemmas: what the functions compute is what the reference says, in plain Lean. No condition. -/
import Derived.Test.YtjbkbiofklgblaaGreatDoorPHist1
set_option maxRecDepth 4000
set_option maxHeartbeats 1000000
set_option linter.unusedVariables false
set_option linter.unusedSimpArgs false
set_option linter.unusedSectionVars false

namespace Go.Proofs.YtjbkbiofklgblaaGreatDoor
open Go.AM

theorem inB_ofH {lo hi len : Int} (h : 0 ≤ lo ∧ lo ≤ hi ∧ hi ≤ len) : inB lo hi len = true := by
  unfold inB; rw [decide_eq_true h.1, decide_eq_true h.2.1, decide_eq_true h.2.2]; rfl
theorem exH_size (s : ByteArray) (i j : Nat) (hj : j ≤ s.size) : (s.extract i j).size = j - i := by
  rw [ByteArray.size_extract]; omega
theorem spoilt_l (w : ByteArray) (hw : 0 < w.size ∧ w.size ≤ 1000) : ∀ (n f : Nat) (a : List Int) (b m s : Int) (t : ByteArray), CO a b m → m + 6 * (n : Int) ≤ 500000000 → n < f → n ≤ 9 → t.size + n ≤ 60000 →
    ∃ b' s' r, spec_l1Cur_spoilt_l1 w f a b s t (n : Int) = some (L1Cur.mk a b' s', r) ∧ r.size ≤ t.size + n := by
  intro n
  induction n with
  | zero =>
    intro f a b m s t hc hm hf h9 ht
    obtain ⟨f, rfl⟩ := Nat.exists_eq_succ_of_ne_zero (by omega : f ≠ 0)
    rw [spec_l1Cur_spoilt_l1, decide_eq_false (by omega), Bool.false_and, cond_false]
    exact ⟨_, _, _, rfl, by omega⟩
  | succ n ih =>
    intro f a b m s t hc hm hf h9 ht
    obtain ⟨f, rfl⟩ := Nat.exists_eq_succ_of_ne_zero (by omega : f ≠ 0)
    rw [spec_l1Cur_spoilt_l1, decide_eq_true (by omega), Bool.true_and]
    by_cases h0 : t.size = 0
    · rw [decide_eq_false (by omega), cond_false]
      exact ⟨_, _, _, rfl, by omega⟩
    · rw [decide_eq_true (by omega), cond_true]
      obtain ⟨b1, s1, v1, e1, g1, l1, u1⟩ := pick_ok (s := s) hc (by omega) (t.size : Int) (by omega)
      rw [bnd e1]
      dsimp only
      obtain ⟨b2, s2, v2, e2, g2, l2, u2⟩ := pick_ok (s := s1) g1 (by omega) (w.size : Int) (by omega)
      rw [bnd e2]
      dsimp only
      obtain ⟨k, hk⟩ : ∃ k, strI w v2 = some k := by
        unfold strI
        rw [if_pos (by omega)]
        have : v2.toNat < w.size := by omega
        simp [this]
      rw [bnd hk]
      obtain ⟨b3, s3, v3, e3, g3, l3, u3⟩ := pick_ok (s := s2) g2 (by omega) 3 (by omega)
      rw [bnd e3]
      dsimp only
      have e4 : (strOfNums [(k.toNat : Int)]).size = 1 := rfl
      have z1 : (t.extract 0 v1.toNat).size = v1.toNat := by rw [exH_size _ _ _ (by omega)]; omega
      have z2 : (t.extract v1.toNat t.size).size = t.size - v1.toNat := exH_size _ _ _ (by omega)
      have z3 : (t.extract (w64 (v1 + 1)).toNat t.size).size = t.size - (v1.toNat + 1) := by rw [exH_size _ _ _ (by omega), w64_in (by omega)]; omega
      have i1 : inB 0 v1 t.size = true := inB_ofH (by omega)
      have i2 : inB v1 t.size t.size = true := inB_ofH (by omega)
      have i3 : inB (w64 (v1 + 1)) t.size t.size = true := inB_ofH (by rw [w64_in (by omega)]; omega)
      rw [i1, i2, i3]
      simp only [need_t, Option.bind_some]
      rw [w64_in (n := ((n + 1 : Nat) : Int) - 1) (by omega), show ((n + 1 : Nat) : Int) - 1 = (n : Int) from by omega]
      cases v3 == 0
      · cases v3 == 1
        · simp only [cond_false]
          rw [nd (by omega), Option.bind_some]
          obtain ⟨b', s', r, q1, q2⟩ := ih f a b3 (m + 2 + 2 + 2) s3 (t.extract 0 v1.toNat ++ t.extract (w64 (v1 + 1)).toNat t.size) g3 (by omega) (by omega) (by omega) (by rw [ByteArray.size_append]; omega)
          exact ⟨b', s', r, q1, by rw [ByteArray.size_append] at q2; omega⟩
        · simp only [cond_false, cond_true]
          rw [nd (by omega), Option.bind_some, nd (by rw [ByteArray.size_append]; omega), Option.bind_some]
          obtain ⟨b', s', r, q1, q2⟩ := ih f a b3 (m + 2 + 2 + 2) s3 ((t.extract 0 v1.toNat ++ strOfNums [(k.toNat : Int)]) ++ t.extract (w64 (v1 + 1)).toNat t.size) g3 (by omega) (by omega) (by omega) (by simp only [ByteArray.size_append]; omega)
          exact ⟨b', s', r, q1, by simp only [ByteArray.size_append] at q2; omega⟩
      · simp only [cond_true]
        rw [nd (by omega), Option.bind_some, nd (by rw [ByteArray.size_append]; omega), Option.bind_some]
        obtain ⟨b', s', r, q1, q2⟩ := ih f a b3 (m + 2 + 2 + 2) s3 ((t.extract 0 v1.toNat ++ strOfNums [(k.toNat : Int)]) ++ t.extract v1.toNat t.size) g3 (by omega) (by omega) (by omega) (by simp only [ByteArray.size_append]; omega)
        exact ⟨b', s', r, q1, by simp only [ByteArray.size_append] at q2; omega⟩
theorem spoilt_ok {a : List Int} {b m s : Int} (h : CO a b m) (hm : m ≤ 400000000) (t w : ByteArray) (ht : t.size ≤ 50000) (hw : 0 < w.size ∧ w.size ≤ 1000) (fuel : Nat) (hf : 1000 < fuel) : ∃ b' s' r, spec_l1Cur_spoilt_p fuel (L1Cur.mk a b s) t w = some (L1Cur.mk a b' s', r) ∧ r.size ≤ t.size + 2 := by
  unfold spec_l1Cur_spoilt_p
  obtain ⟨b1, s1, v1, e1, g1, l1, u1⟩ := pick_ok (s := s) h (by omega) 2 (by omega)
  rw [bnd e1]
  dsimp only
  rw [w64_in (by omega)]
  obtain ⟨n, hn⟩ : ∃ n : Nat, 1 + v1 = (n : Int) := ⟨(1 + v1).toNat, by omega⟩
  obtain ⟨b', s', r, q1, q2⟩ := spoilt_l w hw n fuel a b1 (m + 2) s1 t g1 (by omega) (by omega) (by omega) (by omega)
  rw [hn, q1]
  exact ⟨_, _, _, rfl, by omega⟩
theorem text_len : ∀ h : List Change, (∀ c ∈ h, chgIn c) → (textL (h.map chgL)).length ≤ 64 * h.length := by
  intro h
  induction h with
  | nil => intro _; exact Nat.le_refl _
  | cons c ys ih =>
    intro hc
    obtain ⟨ct, cc, ci, cn, cm⟩ := hc c (by simp)
    have hline : lineL (chgL c) = if c.review then (numL c.tick.toNat ++ 32 :: (numL c.caller.toNat ++ 32 :: (numL c.item.toNat ++ 32 :: (numL c.name.toNat ++ 32 :: wordL c.mark)))) ++ 32 :: revL else numL c.tick.toNat ++ 32 :: (numL c.caller.toNat ++ 32 :: (numL c.item.toNat ++ 32 :: (numL c.name.toNat ++ 32 :: wordL c.mark))) := line_five (chgL c)
    have htext : textL ((c :: ys).map chgL) = (lineL (chgL c) ++ [10]) ++ textL (ys.map chgL) := rfl
    have h1 := num_len 5 c.tick.toNat (by omega)
    have h2 := num_len 5 c.caller.toNat (by omega)
    have h3 := num_len 5 c.item.toNat (by omega)
    have h4 := num_len 5 c.name.toNat (by omega)
    have h5 : (wordL c.mark).length = 4 := by
      unfold wordL
      split
      · rfl
      split
      · rfl
      split <;> rfl
    have h6 : revL.length = 6 := rfl
    have h7 := ih fun d hd => hc d (by simp [hd])
    rw [htext, List.length_append, List.length_append, hline, List.length_cons]
    cases c.review
    · simp only [Bool.false_eq_true, if_false, List.length_append, List.length_cons, List.length_nil]; omega
    · simp only [if_true, List.length_append, List.length_cons, List.length_nil]; omega
theorem drawHistoryText_ok {code : List Int} (hc : ∀ x ∈ code, isByte x) (hl : code.length ≤ 9223372036854775807) (fuel : Nat) (hf : 1048576 < fuel) : ∃ l h, spec_DrawHistoryText_p fuel code = some (l, h) ∧ nameB l ∧ h.length ≤ 61 := by
  unfold spec_DrawHistoryText_p spec_DrawIsHistory_p
  obtain ⟨b1, s1, l, r, e1, g1, k1, k2, k3⟩ := changing_ok (s := 0) (co0 hc hl) (by omega) fuel hf
  rw [bnd e1]
  exact ⟨_, _, rfl, nameB_its k2, k3⟩
theorem drawTakeBack_ok {code : List Int} (hc : ∀ x ∈ code, isByte x) (hl : code.length ≤ 9223372036854775807) (fuel : Nat) (hf : 1048576 < fuel) : ∃ l h T ca, spec_DrawTakeBack_p fuel code = some (l, h, T, ca) ∧ nameB l ∧ h.length ≤ 61 := by
  unfold spec_DrawTakeBack_p
  obtain ⟨b1, s1, l, r, e1, g1, k1, k2, k3⟩ := changing_ok (s := 0) (co0 hc hl) (by omega) fuel hf
  rw [bnd e1]
  dsimp only
  obtain ⟨b2, s2, v2, e2, g2, _⟩ := among_ok (s := s1) g1 (by omega) [0, 100, 100000, 100001] (by simp) (by simp)
  rw [bnd e2]
  dsimp only
  obtain ⟨b3, s3, v3, e3, g3, _⟩ := among_ok (s := s2) g2 (by omega) [1, 2, 9, 10, 0] (by simp) (by simp)
  rw [bnd e3]
  exact ⟨_, _, _, _, rfl, nameB_its k2, k3⟩
theorem drawParseHistory_ok {code : List Int} (hc : ∀ x ∈ code, isByte x) (hl : code.length ≤ 9223372036854775807) (fuel : Nat) (hf : 1048576 < fuel) : ∃ l s, spec_DrawParseHistory_p fuel code = some (l, s) ∧ nameB l ∧ s.size ≤ 1048576 := by
  unfold spec_DrawParseHistory_p
  obtain ⟨b1, s1, l, h, e1, g1, k1, k2, k3⟩ := changing_ok (s := 0) (co0 hc hl) (by omega) fuel hf
  rw [bnd e1]
  dsimp only
  have hb := nameB_its k2
  obtain ⟨q, q1, q2, _⟩ := isHistory_eq hb h (by omega) fuel hf
  rw [bnd q2]
  cases q
  · exact ⟨_, _, rfl, hb, by show (13 : Nat) ≤ _; omega⟩
  · obtain ⟨h60, hin, _⟩ := good_in hb (by omega) hf q1
    obtain ⟨t, t1, t2⟩ := hiText_eq (F := fuel) (by omega) h h60 hin
    have ht : t.size ≤ 3840 := by
      rw [show t.size = (toL t).length from Go.Lib.size_eq t, t2]
      have := text_len h hin
      omega
    rw [Bool.not_true, cond_false, bnd t1]
    obtain ⟨b2, s2, v2, e2, g2⟩ := one_ok (s := s1) g1 (by omega) 3 (by omega)
    rw [bnd e2]
    dsimp only
    cases v2
    · exact ⟨_, _, rfl, hb, by omega⟩
    · obtain ⟨b3, s3, r, e3, g3⟩ := spoilt_ok (s := s2) g2 (by omega) t ⟨#[48, 49, 32, 110, 114, 10]⟩ (by omega) (by show 0 < 6 ∧ 6 ≤ 1000; omega) fuel (by omega)
      rw [cond_true, bnd e3]
      exact ⟨_, _, rfl, hb, by show r.size ≤ _; omega⟩

end Go.Proofs.YtjbkbiofklgblaaGreatDoor

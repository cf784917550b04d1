/- Plain lemmas: what the functions compute is what the reference says, in plain Lean. No condition. -/
import Derived.Test.YtjbkbiofklgblaaGreatDoorPCur2
set_option maxRecDepth 4000
set_option maxHeartbeats 1000000
set_option linter.unusedVariables false
set_option linter.unusedSimpArgs false
set_option linter.unusedSectionVars false

namespace Go.Proofs.YtjbkbiofklgblaaGreatDoor
open Go.AM

theorem changing_l1 (x1 : L1Cur × List Item) (hi : ItemsOk x1.2) (h0 : 0 < x1.2.length) (xx : L1Cur × Int) (hv : 0 ≤ xx.2 ∧ xx.2 ≤ 1) : ∀ (n f : Nat) (a : List Int) (b m s : Int) (h : List Change) (T : Int), CO a b m → m + 14 * (n : Int) ≤ 500000000 → n < f → h.length ≤ 61 → n ≤ 200 →
    ∃ b' s' r, spec_l1Cur_changing_l1 x1 xx f a b s h T (200 - (n : Int)) = some (L1Cur.mk a b' s', x1.2, r) ∧ CO a b' (m + 14 * (n : Int) + 10) ∧ r.length ≤ 61 := by
  intro n
  induction n with
  | zero =>
    intro f a b m s h T hc hm hf hl _
    obtain ⟨f, rfl⟩ := Nat.exists_eq_succ_of_ne_zero (by omega : f ≠ 0)
    rw [spec_l1Cur_changing_l1, decide_eq_false (by omega : ¬ (200 - ((0 : Nat) : Int)) < 200), Bool.and_false, cond_false]
    obtain ⟨b', s', r, e, g, k⟩ := tailC_ok x1 (s := s) hc (by omega) h hl
    exact ⟨b', s', r, e, g.mono (by omega), k⟩
  | succ n ih =>
    intro f a b m s h T hc hm hf hl hn
    obtain ⟨f, rfl⟩ := Nat.exists_eq_succ_of_ne_zero (by omega : f ≠ 0)
    rw [spec_l1Cur_changing_l1, decide_eq_true (by omega : (200 - ((n + 1 : Nat) : Int)) < 200), Bool.and_true]
    by_cases hlt : (h.length : Int) < w64 (60 + xx.2)
    · rw [decide_eq_true hlt, cond_true]
      rw [w64_in (by omega)] at hlt
      have hil := hi.1
      obtain ⟨b1, s1, v1, e1, g1, l1, u1⟩ := pick_ok (s := s) hc (by omega) (x1.2.length : Int) (by omega)
      rw [bnd e1]
      dsimp only
      obtain ⟨b2, s2, v2, e2, g2, l2, u2⟩ := pick_ok (s := s1) g1 (by omega) 3 (by omega)
      rw [bnd e2]
      dsimp only
      have hlt1 : v1.toNat < x1.2.length := by omega
      have hg : getI x1.2 v1 = some x1.2[v1.toNat] := by rw [getI_of (k := v1.toNat) (by omega)]; exact List.getElem?_eq_getElem hlt1
      have hit := (hi.2 _ (List.getElem_mem hlt1)).1
      rw [bnd hg]
      obtain ⟨b3, s3, v3, e3, g3, l3, u3⟩ := pick_ok (s := s2) g2 (by omega) (x1.2[v1.toNat].names.length : Int) (by omega)
      rw [bnd e3]
      dsimp only
      obtain ⟨b4, s4, v4, e4, g4, l4, u4⟩ := pick_ok (s := s3) g3 (by omega) 4 (by omega)
      rw [bnd e4]
      dsimp only
      obtain ⟨b5, s5, v5, e5, g5⟩ := one_ok (s := s4) g4 (by omega) 4 (by omega)
      rw [bnd e5]
      dsimp only
      rw [fits_of (by omega), need_t, Option.bind_some, fits_of (by simp; omega), need_t, Option.bind_some]
      obtain ⟨w1, hw1⟩ := hiGood_some hi (h ++ [Change.mk T (w64 (1 + v2)) v1 v3 v4 v5]) (by simp; omega)
      rw [bnd hw1]
      obtain ⟨w2, hw2⟩ : ∃ w2, opt ((!w1) && ((h.length : Int) == 60)) default (spec_hiGood_p x1.2 h) = some w2 := by
        cases (!w1) && ((h.length : Int) == 60)
        · exact ⟨_, rfl⟩
        · obtain ⟨w2, hw2⟩ := hiGood_some hi h (by omega)
          exact ⟨w2, hw2⟩
      rw [bnd hw2, w64_in (n := 200 - ((n + 1 : Nat) : Int) + 1) (by omega), show 200 - ((n + 1 : Nat) : Int) + 1 = 200 - (n : Int) from by omega]
      obtain ⟨b6, s6, v6, e6, g6, _⟩ := among_ok (s := s5) g5 (by omega) [0, 0, 1, 5] (by simp) (by simp)
      cases w1 || ((h.length : Int) == 60) && w2
      · rw [cond_false, bnd e6]
        dsimp only
        obtain ⟨b', s', r, e, g, k⟩ := ih f a b6 _ s6 h (w64 (T + v6)) g6 (by omega) (by omega) hl (by omega)
        exact ⟨b', s', r, e, g.mono (by omega), k⟩
      · rw [cond_true, bnd e6]
        dsimp only
        obtain ⟨b', s', r, e, g, k⟩ := ih f a b6 _ s6 (h ++ [Change.mk T (w64 (1 + v2)) v1 v3 v4 v5]) (w64 (T + v6)) g6 (by omega) (by omega) (by simp; omega) (by omega)
        exact ⟨b', s', r, e, g.mono (by omega), k⟩
    · rw [decide_eq_false hlt, cond_false]
      obtain ⟨b', s', r, e, g, k⟩ := tailC_ok x1 (s := s) hc (by omega) h hl
      exact ⟨b', s', r, e, g.mono (by omega), k⟩
theorem changing_l2 (x1 : L1Cur × List Item) (hi : ItemsOk x1.2) (h0 : 0 < x1.2.length) (xx : L1Cur × Int) (hv : 0 ≤ xx.2 ∧ xx.2 ≤ 11) : ∀ (n f : Nat) (a : List Int) (b m s : Int) (h : List Change) (T : Int), CO a b m → m + 14 * (n : Int) ≤ 500000000 → n < f → h.length ≤ 61 → n ≤ 200 →
    ∃ b' s' r, spec_l1Cur_changing_l2 x1 xx f a b s h T (200 - (n : Int)) = some (L1Cur.mk a b' s', x1.2, r) ∧ CO a b' (m + 14 * (n : Int) + 10) ∧ r.length ≤ 61 := by
  intro n
  induction n with
  | zero =>
    intro f a b m s h T hc hm hf hl _
    obtain ⟨f, rfl⟩ := Nat.exists_eq_succ_of_ne_zero (by omega : f ≠ 0)
    rw [spec_l1Cur_changing_l2, decide_eq_false (by omega : ¬ (200 - ((0 : Nat) : Int)) < 200), Bool.and_false, cond_false]
    obtain ⟨b', s', r, e, g, k⟩ := tailC_ok x1 (s := s) hc (by omega) h hl
    exact ⟨b', s', r, e, g.mono (by omega), k⟩
  | succ n ih =>
    intro f a b m s h T hc hm hf hl hn
    obtain ⟨f, rfl⟩ := Nat.exists_eq_succ_of_ne_zero (by omega : f ≠ 0)
    rw [spec_l1Cur_changing_l2, decide_eq_true (by omega : (200 - ((n + 1 : Nat) : Int)) < 200), Bool.and_true]
    by_cases hlt : (h.length : Int) < xx.2
    · rw [decide_eq_true hlt, cond_true]
      have hil := hi.1
      obtain ⟨b1, s1, v1, e1, g1, l1, u1⟩ := pick_ok (s := s) hc (by omega) (x1.2.length : Int) (by omega)
      rw [bnd e1]
      dsimp only
      obtain ⟨b2, s2, v2, e2, g2, l2, u2⟩ := pick_ok (s := s1) g1 (by omega) 3 (by omega)
      rw [bnd e2]
      dsimp only
      have hlt1 : v1.toNat < x1.2.length := by omega
      have hg : getI x1.2 v1 = some x1.2[v1.toNat] := by rw [getI_of (k := v1.toNat) (by omega)]; exact List.getElem?_eq_getElem hlt1
      have hit := (hi.2 _ (List.getElem_mem hlt1)).1
      rw [bnd hg]
      obtain ⟨b3, s3, v3, e3, g3, l3, u3⟩ := pick_ok (s := s2) g2 (by omega) (x1.2[v1.toNat].names.length : Int) (by omega)
      rw [bnd e3]
      dsimp only
      obtain ⟨b4, s4, v4, e4, g4, l4, u4⟩ := pick_ok (s := s3) g3 (by omega) 4 (by omega)
      rw [bnd e4]
      dsimp only
      obtain ⟨b5, s5, v5, e5, g5⟩ := one_ok (s := s4) g4 (by omega) 4 (by omega)
      rw [bnd e5]
      dsimp only
      rw [fits_of (by omega), need_t, Option.bind_some, fits_of (by simp; omega), need_t, Option.bind_some]
      obtain ⟨w1, hw1⟩ := hiGood_some hi (h ++ [Change.mk T (w64 (1 + v2)) v1 v3 v4 v5]) (by simp; omega)
      rw [bnd hw1]
      obtain ⟨w2, hw2⟩ : ∃ w2, opt ((!w1) && ((h.length : Int) == 60)) default (spec_hiGood_p x1.2 h) = some w2 := by
        cases (!w1) && ((h.length : Int) == 60)
        · exact ⟨_, rfl⟩
        · obtain ⟨w2, hw2⟩ := hiGood_some hi h (by omega)
          exact ⟨w2, hw2⟩
      rw [bnd hw2, w64_in (n := 200 - ((n + 1 : Nat) : Int) + 1) (by omega), show 200 - ((n + 1 : Nat) : Int) + 1 = 200 - (n : Int) from by omega]
      obtain ⟨b6, s6, v6, e6, g6, _⟩ := among_ok (s := s5) g5 (by omega) [0, 0, 1, 5] (by simp) (by simp)
      cases w1 || ((h.length : Int) == 60) && w2
      · rw [cond_false, bnd e6]
        dsimp only
        obtain ⟨b', s', r, e, g, k⟩ := ih f a b6 _ s6 h (w64 (T + v6)) g6 (by omega) (by omega) hl (by omega)
        exact ⟨b', s', r, e, g.mono (by omega), k⟩
      · rw [cond_true, bnd e6]
        dsimp only
        obtain ⟨b', s', r, e, g, k⟩ := ih f a b6 _ s6 (h ++ [Change.mk T (w64 (1 + v2)) v1 v3 v4 v5]) (w64 (T + v6)) g6 (by omega) (by omega) (by simp; omega) (by omega)
        exact ⟨b', s', r, e, g.mono (by omega), k⟩
    · rw [decide_eq_false hlt, cond_false]
      obtain ⟨b', s', r, e, g, k⟩ := tailC_ok x1 (s := s) hc (by omega) h hl
      exact ⟨b', s', r, e, g.mono (by omega), k⟩
theorem changing_ok {a : List Int} {b m s : Int} (h : CO a b m) (hm : m ≤ 300000000) (fuel : Nat) (hf : 1048576 < fuel) : ∃ b' s' l r, spec_l1Cur_changing_p fuel (L1Cur.mk a b s) = some (L1Cur.mk a b' s', l, r) ∧ CO a b' (m + 10000) ∧ l.length ≤ 15 ∧ itsB l ∧ r.length ≤ 61 := by
  unfold spec_l1Cur_changing_p
  obtain ⟨b1, s1, l, e1, g1, k1, k2⟩ := anyItems_ok (s := s) h (by omega) fuel hf
  rw [bnd e1]
  dsimp only
  obtain ⟨v, _, v2, v3⟩ := items_same l (fun it hi s hs => by have := (k2 it hi).2.2 s hs; omega) fuel hf
  rw [bnd v2]
  cases v
  · exact ⟨_, _, _, _, rfl, g1.mono (by omega), k1, k2, by simp⟩
  · by_cases h0 : l.length = 0
    · rw [show ((l.length : Int) == 0) = true from by rw [h0]; rfl]
      exact ⟨_, _, _, _, rfl, g1.mono (by omega), k1, k2, by simp⟩
    · rw [show ((l.length : Int) == 0) = false from by simp only [beq_eq_false_iff_ne, ne_eq]; omega]
      simp only [Bool.not_true, Bool.or_false, cond_false]
      obtain ⟨b2, s2, v2, e2, g2, l2, u2⟩ := pick_ok (s := s1) g1 (by omega) 9 (by omega)
      rw [bnd e2]
      dsimp only
      obtain ⟨b3, s3, v3', e3, g3, l3, u3⟩ := pick_ok (s := s2) g2 (by omega) 12 (by omega)
      rw [bnd e3]
      dsimp only
      obtain ⟨b4, s4, v4, e4, g4⟩ := one_ok (s := s3) g3 (by omega) 24 (by omega)
      rw [bnd e4]
      dsimp only
      cases v4
      · rw [cond_false]
        obtain ⟨b5, s5, r, e5, g5, q5⟩ := changing_l2 (L1Cur.mk a b1 s1, l) (v3 rfl) (by dsimp only; omega) (L1Cur.mk a b3 s3, v3') (by dsimp only; omega) 200 fuel a b4 _ s4 [] v2 g4 (by omega) (by omega) (by simp) (by omega)
        exact ⟨b5, s5, l, r, e5, g5.mono (by omega), k1, k2, q5⟩
      · rw [cond_true]
        obtain ⟨b6, s6, v6, e6, g6, l6, u6⟩ := pick_ok (s := s4) g4 (by omega) 2 (by omega)
        rw [bnd e6]
        dsimp only
        obtain ⟨b5, s5, r, e5, g5, q5⟩ := changing_l1 (L1Cur.mk a b1 s1, l) (v3 rfl) (by dsimp only; omega) (L1Cur.mk a b6 s6, v6) (by dsimp only; omega) 200 fuel a b6 _ s6 [] v2 g6 (by omega) (by omega) (by simp) (by omega)
        exact ⟨b5, s5, l, r, e5, g5.mono (by omega), k1, k2, q5⟩

end Go.Proofs.YtjbkbiofklgblaaGreatDoor

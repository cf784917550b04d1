/- Plain lemmas: what the functions compute is what the reference says, in plain Lean. No condition. -/
import Derived.Test.YtegdphhfimaieacGreatPPanel4
set_option maxRecDepth 4000
set_option maxHeartbeats 1000000
set_option linter.unusedVariables false
set_option linter.unusedSimpArgs false
set_option linter.unusedSectionVars false

namespace Go.Proofs.YtegdphhfimaieacGreat
open Go.AM

theorem keyList_l2 (a : List Int) (b s v : Int) (hv : 0 ≤ v ∧ v ≤ 1) : ∀ (n f : Nat) (l : List Int), ((6 + v) - (l.length : Int)).toNat = n → n < f → l.length ≤ 10 →
    ∃ r, spec_l1Cur_keyList_l2 6 (L1Cur.mk a b s, v) f l = some (L1Cur.mk a b s, r) ∧ r.length ≤ 10 := by
  intro n
  induction n with
  | zero =>
    intro f l h hf h4
    obtain ⟨f, rfl⟩ := Nat.exists_eq_succ_of_ne_zero (by omega : f ≠ 0)
    rw [spec_l1Cur_keyList_l2]
    dsimp only
    rw [w64_in (n := 6 + v) (by omega), decide_eq_false (by omega)]
    exact ⟨_, rfl, h4⟩
  | succ n ih =>
    intro f l h hf h4
    obtain ⟨f, rfl⟩ := Nat.exists_eq_succ_of_ne_zero (by omega : f ≠ 0)
    rw [spec_l1Cur_keyList_l2]
    dsimp only
    rw [w64_in (n := 6 + v) (by omega), decide_eq_true (by omega), cond_true, fits_of (by simp; omega), need_t, Option.bind_some]
    exact ih f _ (by simp; omega) (by omega) (by simp; omega)
theorem keyList_l1 (fuel : Nat) (hF : 1048576 < fuel) (a : List Int) : ∀ (n f : Nat) (b m s : Int) (l : List Int), CO a b m → m + 4 * (n : Int) ≤ 500000000 → n < f → l.length + n ≤ 5 →
    ∃ b' s' r, spec_l1Cur_keyList_l1 6 fuel f a b s l (n : Int) = some (L1Cur.mk a b' s', r) ∧ CO a b' (m + 4 * (n : Int) + 10) ∧ r.length ≤ 10 := by
  intro n
  induction n with
  | zero =>
    intro f b m s l h hm hf hl
    obtain ⟨f, rfl⟩ := Nat.exists_eq_succ_of_ne_zero (by omega : f ≠ 0)
    rw [spec_l1Cur_keyList_l1, decide_eq_false (by omega), cond_false]
    obtain ⟨b1, s1, v1, e1, g1, l1, u1⟩ := pick_ok (s := s) h (by omega) 24 (by omega)
    rw [bnd e1]
    dsimp only
    cases v1 == 0
    · rw [cond_false]
      cases v1 == 1
      · exact ⟨_, _, _, rfl, g1.mono (by omega), by omega⟩
      · rw [cond_true]
        obtain ⟨b2, s2, v2, e2, g2, l2, u2⟩ := pick_ok (s := s1) g1 (by omega) 2 (by omega)
        rw [bnd e2]
        obtain ⟨r, k1, k2⟩ := keyList_l2 a b2 s2 v2 (by omega) _ fuel l rfl (by omega) (by omega)
        exact ⟨_, _, _, k1, g2.mono (by omega), k2⟩
    · rw [cond_true]
      obtain ⟨b2, s2, v2, e2, g2, _⟩ := among_ok (s := s1) g1 (by omega) [(-1), 1000000000, 1000000001] (by simp) (by simp)
      rw [bnd e2, fits_of (by simp; omega), need_t, Option.bind_some]
      exact ⟨_, _, _, rfl, g2.mono (by omega), by simp; omega⟩
  | succ n ih =>
    intro f b m s l h hm hf hl
    obtain ⟨f, rfl⟩ := Nat.exists_eq_succ_of_ne_zero (by omega : f ≠ 0)
    rw [spec_l1Cur_keyList_l1, decide_eq_true (by omega), cond_true]
    obtain ⟨b1, s1, v1, e1, g1, l1, u1⟩ := pick_ok (s := s) h (by omega) 60000 (by omega)
    rw [bnd e1]
    dsimp only
    rw [fits_of (by simp; omega), need_t, Option.bind_some, w64_in (n := ((n + 1 : Nat) : Int) - 1) (by omega), show ((n + 1 : Nat) : Int) - 1 = (n : Int) from by omega]
    obtain ⟨b', s', r, q1, q2, q3⟩ := ih f b1 _ s1 (l ++ [v1]) g1 (by omega) (by omega) (by simp; omega)
    exact ⟨b', s', r, q1, q2.mono (by omega), q3⟩
theorem keyList_ok {a : List Int} {b m s : Int} (h : CO a b m) (hm : m ≤ 200000000) (fuel : Nat) (hf : 1048576 < fuel) : ∃ b' s' l, spec_l1Cur_keyList_p fuel (L1Cur.mk a b s) 6 = some (L1Cur.mk a b' s', l) ∧ CO a b' (m + 100) ∧ l.length ≤ 10 := by
  unfold spec_l1Cur_keyList_p
  obtain ⟨b1, s1, v1, e1, g1, l1, u1⟩ := pick_ok (s := s) h (by omega) 5 (by omega)
  rw [bnd e1]
  dsimp only
  obtain ⟨b2, s2, r2, e2, g2, k2⟩ := keyList_l1 fuel hf a v1.toNat fuel b1 _ s1 [] g1 (by omega) (by omega) (by simp; omega)
  rw [show ((v1.toNat : Nat) : Int) = v1 from by omega] at e2
  exact ⟨_, _, _, e2, g2.mono (by omega), k2⟩
theorem officials_l1 (c : L1Cur) (v : Int) (hv : 0 ≤ v ∧ v ≤ 25) (a : List Int) : ∀ (n f : Nat) (b m s : Int) (l : List Official), CO a b m → m + 10 * (n : Int) ≤ 500000000 → (v - (l.length : Int)).toNat = n → n < f → l.length ≤ 25 →
    ∃ b' s' r, spec_l1Cur_officials_l1 (c, v) f a b s l = some (a, b', s', r) ∧ CO a b' (m + 10 * (n : Int)) ∧ r.length ≤ 25 := by
  intro n
  induction n with
  | zero =>
    intro f b m s l h hm hn hf hl
    obtain ⟨f, rfl⟩ := Nat.exists_eq_succ_of_ne_zero (by omega : f ≠ 0)
    rw [spec_l1Cur_officials_l1]
    dsimp only
    rw [decide_eq_false (by omega), cond_false]
    exact ⟨_, _, _, rfl, h.mono (by omega), hl⟩
  | succ n ih =>
    intro f b m s l h hm hn hf hl
    obtain ⟨f, rfl⟩ := Nat.exists_eq_succ_of_ne_zero (by omega : f ≠ 0)
    rw [spec_l1Cur_officials_l1]
    dsimp only
    rw [decide_eq_true (by omega), cond_true]
    obtain ⟨b1, s1, v1, e1, g1, l1, u1⟩ := pick_ok (s := s) h (by omega) 11 (by omega)
    rw [bnd e1]
    dsimp only
    obtain ⟨b2, s2, v2, e2, g2, _⟩ := among_ok (s := s1) g1 (by omega) [1, 2, 2, 3, 4, 5, 20] (by simp) (by simp)
    rw [bnd e2]
    dsimp only
    obtain ⟨b3, s3, v3, e3, g3, l3, u3⟩ := pick_ok (s := s2) g2 (by omega) 3 (by omega)
    rw [bnd e3]
    dsimp only
    rw [fits_of (by simp; omega), need_t, Option.bind_some]
    obtain ⟨b', s', r, q1, q2, q3⟩ := ih f b3 _ s3 (l ++ [Official.mk (w64 ((w64 ((w64 (11 * (l.length : Int))) + 1)) + v1)) v2 (w64 (1 + v3))]) g3 (by omega) (by simp; omega) (by omega) (by simp; omega)
    exact ⟨b', s', r, q1, q2.mono (by omega), q3⟩
theorem officials_l2 (c : L1Cur) (v : Int) : ∀ (n f : Nat) (a : List Int) (b s : Int) (l : List Official), spec_l1Cur_officials_l2 (c, v) f a b s l = spec_l1Cur_officials_l1 (c, v) f a b s l := by
  intro n f
  induction f with
  | zero => intro a b s l; rw [spec_l1Cur_officials_l2, spec_l1Cur_officials_l1]
  | succ f ih => intro a b s l; rw [spec_l1Cur_officials_l2, spec_l1Cur_officials_l1]; simp only [ih]
theorem officials_ok {a : List Int} {b m s : Int} (h : CO a b m) (hm : m ≤ 200000000) (fuel : Nat) (hf : 1048576 < fuel) : ∃ b' s' l, spec_l1Cur_officials_p fuel (L1Cur.mk a b s) = some (L1Cur.mk a b' s', l) ∧ CO a b' (m + 400) ∧ l.length ≤ 25 := by
  unfold spec_l1Cur_officials_p
  obtain ⟨b1, s1, v1, e1, g1, l1, u1⟩ := pick_ok (s := s) h (by omega) 12 (by omega)
  rw [bnd e1]
  dsimp only
  obtain ⟨b2, s2, v2, e2, g2⟩ := one_ok (s := s1) g1 (by omega) 24 (by omega)
  rw [bnd e2]
  dsimp only
  have hend : ∀ (b3 m3 s3 : Int) (L : List Official), CO a b3 m3 → m3 ≤ 300000000 → L.length ≤ 25 → ∃ b' s' l, cond (decide ((L.length : Int) > 0))
      ((spec_l1Cur_pick_p (L1Cur.mk a b3 s3) (L.length : Int)).bind fun x80 =>
      (getI L x80.2).bind fun x82 =>
      (spec_l1Cur_pick_p (L1Cur.mk x80.1.code x80.1.at' x80.1.seed) 24).bind fun x84 =>
      cond (x84.2 == 0)
        ((getI L 0).bind fun x86 =>
        (spec_l1Cur_among_p (L1Cur.mk x84.1.code x84.1.at' x84.1.seed) [0, 999, 1000, x86.number]).bind fun x88 =>
        some ((L1Cur.mk x88.1.code x88.1.at' x88.1.seed), (L.set x80.2.toNat (Official.mk x88.2 x82.club x82.level))))
        (cond (x84.2 == 1)
          ((spec_l1Cur_among_p (L1Cur.mk x84.1.code x84.1.at' x84.1.seed) ([0, 20, 21] : List Int)).bind fun x90 =>
          some ((L1Cur.mk x90.1.code x90.1.at' x90.1.seed), (L.set x80.2.toNat (Official.mk x82.number x90.2 x82.level))))
          (cond (x84.2 == 2)
            ((spec_l1Cur_among_p (L1Cur.mk x84.1.code x84.1.at' x84.1.seed) ([0, 4] : List Int)).bind fun x92 =>
            some ((L1Cur.mk x92.1.code x92.1.at' x92.1.seed), (L.set x80.2.toNat (Official.mk x82.number x82.club x92.2))))
            (some ((L1Cur.mk x84.1.code x84.1.at' x84.1.seed), L)))))
      (some ((L1Cur.mk a b3 s3), L)) = some (L1Cur.mk a b' s', l) ∧ CO a b' (m3 + 20) ∧ l.length ≤ 25 := by
    intro b3 m3 s3 L g3 hm3 hL
    by_cases h0 : (L.length : Int) > 0
    · rw [decide_eq_true h0, cond_true]
      obtain ⟨b4, s4, v4, e4, g4, l4, u4⟩ := pick_ok (s := s3) g3 (by omega) (L.length : Int) (by omega)
      rw [bnd e4]
      dsimp only
      have hlt : v4.toNat < L.length := by omega
      have hg : getI L v4 = some L[v4.toNat] := by rw [getI_of (k := v4.toNat) (by omega)]; exact List.getElem?_eq_getElem hlt
      rw [bnd hg]
      obtain ⟨b5, s5, v5, e5, g5, l5, u5⟩ := pick_ok (s := s4) g4 (by omega) 24 (by omega)
      rw [bnd e5]
      dsimp only
      cases v5 == 0
      · rw [cond_false]
        cases v5 == 1
        · rw [cond_false]
          cases v5 == 2
          · exact ⟨_, _, _, rfl, g5.mono (by omega), hL⟩
          · rw [cond_true]
            obtain ⟨b6, s6, v6, e6, g6, _⟩ := among_ok (s := s5) g5 (by omega) [0, 4] (by simp) (by simp)
            rw [bnd e6]
            exact ⟨_, _, _, rfl, g6.mono (by omega), by simpa using hL⟩
        · rw [cond_true]
          obtain ⟨b6, s6, v6, e6, g6, _⟩ := among_ok (s := s5) g5 (by omega) [0, 20, 21] (by simp) (by simp)
          rw [bnd e6]
          exact ⟨_, _, _, rfl, g6.mono (by omega), by simpa using hL⟩
      · rw [cond_true, bnd (show getI L 0 = some L[0] from getI_lt_some (k := 0) (by omega))]
        obtain ⟨b6, s6, v6, e6, g6, _⟩ := among_ok (s := s5) g5 (by omega) [0, 999, 1000, L[0].number] (by simp) (by simp)
        rw [bnd e6]
        exact ⟨_, _, _, rfl, g6.mono (by omega), by simpa using hL⟩
    · rw [decide_eq_false h0, cond_false]
      exact ⟨_, _, _, rfl, g3.mono (by omega), hL⟩
  cases v2
  · rw [cond_false, officials_l2 _ _ 0]
    obtain ⟨b3, s3, r, e3, g3, k3⟩ := officials_l1 (L1Cur.mk a b1 s1) v1 (by omega) a _ fuel b2 _ s2 [] g2 (by simp; omega) rfl (by simp; omega) (by simp)
    rw [bnd e3]
    dsimp only
    obtain ⟨b', s', L, q1, q2, q3⟩ := hend b3 _ s3 r g3 (by simp; omega) k3
    exact ⟨b', s', L, q1, q2.mono (by simp; omega), q3⟩
  · rw [cond_true]
    obtain ⟨b4, s4, v4, e4, g4, k4⟩ := among_ok (s := s2) g2 (by omega) [14, 15, 24, 25] (by simp) (by simp)
    simp only [List.mem_cons, List.not_mem_nil, or_false] at k4
    rw [bnd e4]
    dsimp only
    obtain ⟨b3, s3, r, e3, g3, k3⟩ := officials_l1 (L1Cur.mk a b4 s4) v4 (by omega) a _ fuel b4 _ s4 [] g4 (by simp; omega) rfl (by simp; omega) (by simp)
    rw [bnd e3]
    dsimp only
    obtain ⟨b', s', L, q1, q2, q3⟩ := hend b3 _ s3 r g3 (by simp; omega) k3
    exact ⟨b', s', L, q1, q2.mono (by simp; omega), q3⟩
theorem conflicts_l2 (a : List Int) (b s v : Int) (hv : 0 ≤ v ∧ v ≤ 1) : ∀ (n f : Nat) (l : List Int), ((20 + v) - (l.length : Int)).toNat = n → n < f → l.length ≤ 25 →
    ∃ r, spec_l1Cur_conflicts_l2 (L1Cur.mk a b s, v) f l = some (L1Cur.mk a b s, r) ∧ r.length ≤ 25 := by
  intro n
  induction n with
  | zero =>
    intro f l h hf h4
    obtain ⟨f, rfl⟩ := Nat.exists_eq_succ_of_ne_zero (by omega : f ≠ 0)
    rw [spec_l1Cur_conflicts_l2]
    dsimp only
    rw [w64_in (n := 20 + v) (by omega), decide_eq_false (by omega)]
    exact ⟨_, rfl, h4⟩
  | succ n ih =>
    intro f l h hf h4
    obtain ⟨f, rfl⟩ := Nat.exists_eq_succ_of_ne_zero (by omega : f ≠ 0)
    rw [spec_l1Cur_conflicts_l2]
    dsimp only
    rw [w64_in (n := 20 + v) (by omega), decide_eq_true (by omega), cond_true, fits_of (by simp; omega), need_t, Option.bind_some]
    exact ih f _ (by simp; omega) (by omega) (by simp; omega)
theorem conflicts_l1 (fuel : Nat) (hF : 1048576 < fuel) (a : List Int) : ∀ (n f : Nat) (b m s v : Int) (l : List Int), CO a b m → m + 4 * (n : Int) ≤ 500000000 → (6 - v).toNat = n → 1 ≤ v → n < f → l.length + n ≤ 10 →
    ∃ b' s' r, spec_l1Cur_conflicts_l1 fuel f a b s l v = some (L1Cur.mk a b' s', r) ∧ CO a b' (m + 4 * (n : Int) + 10) ∧ r.length ≤ 25 := by
  intro n
  induction n with
  | zero =>
    intro f b m s v l h hm hv h1 hf hl
    obtain ⟨f, rfl⟩ := Nat.exists_eq_succ_of_ne_zero (by omega : f ≠ 0)
    rw [spec_l1Cur_conflicts_l1, decide_eq_false (by omega), cond_false]
    obtain ⟨b1, s1, v1, e1, g1, l1, u1⟩ := pick_ok (s := s) h (by omega) 24 (by omega)
    rw [bnd e1]
    dsimp only
    cases v1 == 0
    · rw [cond_false]
      cases v1 == 1
      · exact ⟨_, _, _, rfl, g1.mono (by omega), by omega⟩
      · rw [cond_true]
        obtain ⟨b2, s2, v2, e2, g2, l2, u2⟩ := pick_ok (s := s1) g1 (by omega) 2 (by omega)
        rw [bnd e2]
        obtain ⟨r, k1, k2⟩ := conflicts_l2 a b2 s2 v2 (by omega) _ fuel [] rfl (by simp; omega) (by simp)
        exact ⟨_, _, _, k1, g2.mono (by omega), k2⟩
    · rw [cond_true]
      obtain ⟨b2, s2, v2, e2, g2, _⟩ := among_ok (s := s1) g1 (by omega) [0, 20, 21] (by simp) (by simp)
      rw [bnd e2, fits_of (by simp; omega), need_t, Option.bind_some]
      exact ⟨_, _, _, rfl, g2.mono (by omega), by simp; omega⟩
  | succ n ih =>
    intro f b m s v l h hm hv h1 hf hl
    obtain ⟨f, rfl⟩ := Nat.exists_eq_succ_of_ne_zero (by omega : f ≠ 0)
    rw [spec_l1Cur_conflicts_l1, decide_eq_true (by omega), cond_true]
    obtain ⟨b1, s1, v1, e1, g1⟩ := one_ok (s := s) h (by omega) 4 (by omega)
    rw [bnd e1]
    dsimp only
    rw [w64_in (n := v + 1) (by omega)]
    cases v1
    · rw [cond_false]
      obtain ⟨b', s', r, q1, q2, q3⟩ := ih f b1 _ s1 (v + 1) l g1 (by omega) (by omega) (by omega) (by omega) (by omega)
      exact ⟨b', s', r, q1, q2.mono (by omega), q3⟩
    · rw [cond_true, fits_of (by simp; omega), need_t, Option.bind_some]
      obtain ⟨b', s', r, q1, q2, q3⟩ := ih f b1 _ s1 (v + 1) (l ++ [v]) g1 (by omega) (by omega) (by omega) (by omega) (by simp; omega)
      exact ⟨b', s', r, q1, q2.mono (by omega), q3⟩
theorem conflicts_ok {a : List Int} {b m s : Int} (h : CO a b m) (hm : m ≤ 200000000) (fuel : Nat) (hf : 1048576 < fuel) : ∃ b' s' l, spec_l1Cur_conflicts_p fuel (L1Cur.mk a b s) = some (L1Cur.mk a b' s', l) ∧ CO a b' (m + 100) ∧ l.length ≤ 25 := by
  unfold spec_l1Cur_conflicts_p
  obtain ⟨b2, s2, r2, e2, g2, k2⟩ := conflicts_l1 fuel hf a 5 fuel b _ s 1 [] h (by omega) (by omega) (by omega) (by omega) (by simp)
  exact ⟨_, _, _, e2, g2.mono (by omega), k2⟩
theorem grade_ok {a : List Int} {b m s : Int} (h : CO a b m) (hm : m ≤ 200000000) : ∃ b' s' v, spec_l1Cur_grade_p (L1Cur.mk a b s) = some (L1Cur.mk a b' s', v) ∧ CO a b' (m + 10) := by
  unfold spec_l1Cur_grade_p
  obtain ⟨b1, s1, v1, e1, g1, _⟩ := among_ok (s := s) h (by omega) [0, 4] (by simp) (by simp)
  rw [bnd e1]
  dsimp only
  obtain ⟨b2, s2, v2, e2, g2, _⟩ := among_ok (s := s1) g1 (by omega) [1, 1, 2, 3, v1] (by simp) (by simp)
  rw [bnd e2]
  exact ⟨_, _, _, rfl, g2.mono (by omega)⟩
theorem atMost_ok {a : List Int} {b m s : Int} (h : CO a b m) (hm : m ≤ 200000000) : ∃ b' s' v, spec_l1Cur_atMost_p (L1Cur.mk a b s) = some (L1Cur.mk a b' s', v) ∧ CO a b' (m + 10) := by
  unfold spec_l1Cur_atMost_p
  obtain ⟨b1, s1, v1, e1, g1, _⟩ := among_ok (s := s) h (by omega) [0, 10] (by simp) (by simp)
  rw [bnd e1]
  dsimp only
  obtain ⟨b2, s2, v2, e2, g2, _⟩ := among_ok (s := s1) g1 (by omega) [1, 2, 3, 9, v1] (by simp) (by simp)
  rw [bnd e2]
  exact ⟨_, _, _, rfl, g2.mono (by omega)⟩
theorem drawIs_l1 (fuel : Nat) (hf : 1048576 < fuel) (x1 : L1Cur × List Official) (x3 : L1Cur × List Int) (x5 x7 : L1Cur × Int) : ∀ (ys : List Official) (k : Nat) (v : List Int), v.Pairwise (· < ·) → v.length + ys.length ≤ 1000 →
    ∃ p, spec_DrawIsPanel_l1 fuel x1 x3 x5 x7 ys k v = some (x1.2, x3.2, x5.2, x7.2, p) ∧ p.length ≤ v.length + ys.length := by
  intro ys
  induction ys with
  | nil => intro k v _ _; exact ⟨v, by rw [spec_DrawIsPanel_l1], by simp⟩
  | cons y ys ih =>
    intro k v h1 h2
    simp only [List.length_cons] at h2
    rw [spec_DrawIsPanel_l1]
    cases decide ((v.length : Int) < 10)
    · rw [cond_false]
      obtain ⟨p, p1, p2⟩ := ih (k + 1) v h1 (by omega)
      exact ⟨p, p1, by simp only [List.length_cons]; omega⟩
    · rw [cond_true]
      obtain ⟨g, g1, g2, g3, g4⟩ := put_eq v y.number h1 (by omega) fuel hf
      rw [bnd g1]
      obtain ⟨p, p1, p2⟩ := ih (k + 1) g g2 (by omega)
      exact ⟨p, p1, by simp only [List.length_cons]; omega⟩
theorem drawIs_l2 (fuel : Nat) (x1 : L1Cur × List Official) (x3 : L1Cur × List Int) (x5 x7 : L1Cur × Int) : ∀ (ys : List Official) (k : Nat) (v : List Int), spec_DrawIsPanel_l2 fuel x1 x3 x5 x7 ys k v = spec_DrawIsPanel_l1 fuel x1 x3 x5 x7 ys k v := by
  intro ys
  induction ys with
  | nil => intro k v; rw [spec_DrawIsPanel_l2, spec_DrawIsPanel_l1]
  | cons y ys ih => intro k v; rw [spec_DrawIsPanel_l2, spec_DrawIsPanel_l1]; simp only [ih]
theorem drawIsPanel_ok {code : List Int} (hc : ∀ x ∈ code, isByte x) (hl : code.length ≤ 9223372036854775807) (fuel : Nat) (hf : 1048576 < fuel) : ∃ l clubs level most p, spec_DrawIsPanel_p fuel code = some (l, clubs, level, most, p) ∧ l.length ≤ 25 ∧ clubs.length ≤ 25 ∧ p.length ≤ 100 := by
  unfold spec_DrawIsPanel_p
  obtain ⟨b2, s2, l, e2, g2, k2⟩ := officials_ok (s := 0) (co0 hc hl) (by omega) fuel hf
  rw [bnd e2]
  dsimp only
  obtain ⟨b3, s3, c, e3, g3, k3⟩ := conflicts_ok (s := s2) g2 (by omega) fuel hf
  rw [bnd e3]
  dsimp only
  obtain ⟨b4, s4, v4, e4, g4⟩ := grade_ok (s := s3) g3 (by omega)
  rw [bnd e4]
  dsimp only
  obtain ⟨b5, s5, v5, e5, g5⟩ := atMost_ok (s := s4) g4 (by omega)
  rw [bnd e5]
  dsimp only
  obtain ⟨b6, s6, v6, e6, g6, l6, u6⟩ := pick_ok (s := s5) g5 (by omega) 99 (by omega)
  rw [bnd e6]
  dsimp only
  obtain ⟨b7, s7, v7, e7, g7, l7, u7⟩ := pick_ok (s := s6) g6 (by omega) 4 (by omega)
  rw [bnd e7]
  dsimp only
  obtain ⟨r, r1, r3, r4⟩ := panelOf_ex [v6] l (by omega) c (by omega) v4 v5 (w64 (1 + v7)) fuel hf
  rw [bnd r1]
  have hmut : ∀ (b8 m8 s8 : Int) (p : List Int), CO code b8 m8 → m8 ≤ 100000000 → p.length ≤ 24 → 1 ≤ p.length → p.Pairwise (· < ·) → ∃ l' clubs' level' most' p', (spec_l1Cur_pick_p (L1Cur.mk code b8 s8) 6).bind (fun x17 =>
    cond (x17.2 == 0)
      ((getI p 0).bind fun x19 =>
      (spec_l1Cur_among_p (L1Cur.mk x17.1.code x17.1.at' x17.1.seed) [999, 1, x19]).bind fun x21 =>
      (need (fitsB 8 (p.length + ([x21.2]).length))).bind fun u23 =>
      some (l, c, v4, v5, (p ++ [x21.2])))
      (cond (x17.2 == 1)
        ((sliceLo p 1).bind fun x25 =>
        some (l, c, v4, v5, x25))
        (cond (x17.2 == 2)
          (cond (decide ((l.length : Int) > 0))
            ((spec_l1Cur_pick_p (L1Cur.mk x17.1.code x17.1.at' x17.1.seed) (l.length : Int)).bind fun x27 =>
            (getI l x27.2).bind fun x29 =>
            (spec_l1Put_p fuel p x29.number).bind fun x31 =>
            some (l, c, v4, v5, x31))
            (some (l, c, v4, v5, p)))
          (cond (x17.2 == 3)
            ((spec_l1Cur_one_p (L1Cur.mk x17.1.code x17.1.at' x17.1.seed) 3).bind fun x33 =>
            cond x33.2
              (spec_DrawIsPanel_l1 fuel (L1Cur.mk code b2 s2, l) (L1Cur.mk code b3 s3, c) (L1Cur.mk code b4 s4, v4) (L1Cur.mk code b5 s5, v5) l 0 [])
              (some (l, c, v4, v5, p)))
            (some (l, c, v4, v5, p)))))) = some (l', clubs', level', most', p') ∧ l'.length ≤ 25 ∧ clubs'.length ≤ 25 ∧ p'.length ≤ 100 := by
    intro b8 m8 s8 p g8 hm8 hp hp1 hpw
    obtain ⟨b9, s9, v9, e9, g9, l9, u9⟩ := pick_ok (s := s8) g8 (by omega) 6 (by omega)
    rw [bnd e9]
    dsimp only
    cases v9 == 0
    · rw [cond_false]
      cases v9 == 1
      · rw [cond_false]
        cases v9 == 2
        · rw [cond_false]
          cases v9 == 3
          · exact ⟨_, _, _, _, _, rfl, k2, k3, by omega⟩
          · rw [cond_true]
            obtain ⟨b10, s10, v10, e10, g10⟩ := one_ok (s := s9) g9 (by omega) 3 (by omega)
            rw [bnd e10]
            dsimp only
            cases v10
            · exact ⟨_, _, _, _, _, rfl, k2, k3, by omega⟩
            · rw [cond_true]
              obtain ⟨q, q1, q2⟩ := drawIs_l1 fuel hf (L1Cur.mk code b2 s2, l) (L1Cur.mk code b3 s3, c) (L1Cur.mk code b4 s4, v4) (L1Cur.mk code b5 s5, v5) l 0 [] List.Pairwise.nil (by simp; omega)
              exact ⟨_, _, _, _, _, q1, k2, k3, by simp at q2; omega⟩
        · rw [cond_true]
          by_cases h0 : (l.length : Int) > 0
          · rw [decide_eq_true h0, cond_true]
            obtain ⟨b10, s10, v10, e10, g10, l10, u10⟩ := pick_ok (s := s9) g9 (by omega) (l.length : Int) (by omega)
            rw [bnd e10]
            dsimp only
            have hlt : v10.toNat < l.length := by omega
            have hg : getI l v10 = some l[v10.toNat] := by rw [getI_of (k := v10.toNat) (by omega)]; exact List.getElem?_eq_getElem hlt
            obtain ⟨q, q1, _, _, q4⟩ := put_eq p l[v10.toNat].number hpw (by omega) fuel hf
            rw [bnd hg, bnd q1]
            exact ⟨_, _, _, _, _, rfl, k2, k3, by omega⟩
          · rw [decide_eq_false h0, cond_false]
            exact ⟨_, _, _, _, _, rfl, k2, k3, by omega⟩
      · rw [cond_true, bnd (sliceLo_of (i := 1) (k := 1) rfl hp1)]
        exact ⟨_, _, _, _, _, rfl, k2, k3, by rw [List.length_drop]; omega⟩
    · rw [cond_true, bnd (show getI p 0 = some p[0] from getI_lt_some (k := 0) (by omega))]
      obtain ⟨b10, s10, v10, e10, g10, _⟩ := among_ok (s := s9) g9 (by omega) [999, 1, p[0]] (by simp) (by simp)
      rw [bnd e10, fits_of (by simp; omega), need_t, Option.bind_some]
      exact ⟨_, _, _, _, _, rfl, k2, k3, by simp; omega⟩
  cases hr : r.2
  · simp only [Bool.not_false, cond_true]
    obtain ⟨b8, s8, v8, e8, g8, l8, u8⟩ := pick_ok (s := s7) g7 (by omega) 99 (by omega)
    rw [bnd e8]
    exact hmut b8 _ s8 [v8] g8 (by omega) (by simp) (by simp) (List.pairwise_singleton _ _)
  · simp only [Bool.not_true, cond_false, drawIs_l2]
    obtain ⟨M, N, _, _, _, hN, _, hP, hlen⟩ := r4 hr
    exact hmut b7 _ s7 r.1 g7 (by omega) r3 (by omega) hP.1.2.2

end Go.Proofs.YtegdphhfimaieacGreat

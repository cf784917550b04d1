/- Plain lemmas: what the functions compute is what the reference says, in plain Lean. No condition. -/
import Derived.Test.YtegdphhfimaieaaGreatPSame1
set_option maxRecDepth 4000
set_option maxHeartbeats 1000000
set_option linter.unusedVariables false
set_option linter.unusedSimpArgs false
set_option linter.unusedSectionVars false

namespace Go.Proofs.YtegdphhfimaieaaGreat
open Go.AM

theorem nSS_le {l : List Season} (h : ∀ s ∈ l, nSeason s ≤ 1000) : nSeasonS l ≤ 1001 * l.length := by
  unfold nSeasonS
  induction l with
  | nil => simp
  | cons y l ih =>
    have := h y (by simp)
    have := ih (fun s hs => h s (by simp [hs]))
    simp only [List.map_cons, List.sum_cons, List.length_cons]; omega
theorem nW_le {S : List Season} {ws : List Int} (h : ∀ s ∈ S, nSeason s ≤ 1000) (h1 : S.length ≤ 5) (h2 : ws.length ≤ 5) : nWorld (World.mk S ws) ≤ 10000 := by
  have := nSS_le h
  unfold nWorld nIntS
  dsimp only
  omega
theorem world_l2 (a : List Int) (b s v : Int) (hv : 0 ≤ v ∧ v ≤ 1) : ∀ (n f : Nat) (S : List Season) (ws : List Int), ((3 + v) - (S.length : Int)).toNat = n → n < f → 1 ≤ S.length → S.length ≤ 4 → ws.length = S.length → (∀ x ∈ S, nSeason x ≤ 1000) →
    ∃ W, spec_l1Cur_world_l2 (L1Cur.mk a b s, v) f S ws = some (L1Cur.mk a b s, W) ∧ nWorld W ≤ 10000 := by
  intro n
  induction n with
  | zero =>
    intro f S ws h hf h1 h2 h3 h4
    obtain ⟨f, rfl⟩ := Nat.exists_eq_succ_of_ne_zero (by omega : f ≠ 0)
    rw [spec_l1Cur_world_l2]
    dsimp only
    rw [w64_in (n := 3 + v) (by omega), decide_eq_false (by omega)]
    exact ⟨_, rfl, nW_le h4 (by omega) (by omega)⟩
  | succ n ih =>
    intro f S ws h hf h1 h2 h3 h4
    obtain ⟨f, rfl⟩ := Nat.exists_eq_succ_of_ne_zero (by omega : f ≠ 0)
    rw [spec_l1Cur_world_l2]
    dsimp only
    have hg : getI S 0 = some S[0] := getI_lt_some (k := 0) (by omega)
    have hw : getI ws (w64 ((ws.length : Int) - 1)) = some (ws[ws.length - 1]'(by omega)) := by
      rw [w64_in (by omega), getI_of (k := ws.length - 1) (by omega)]; exact List.getElem?_eq_getElem _
    rw [w64_in (n := 3 + v) (by omega), decide_eq_true (by omega), cond_true, bnd hg, fits_of (by simp; omega), need_t, Option.bind_some, bnd hw, fits_of (by simp; omega), need_t, Option.bind_some]
    refine ih f _ _ (by simp; omega) (by omega) (by simp) (by simp; omega) (by simp; omega) (fun x hx => ?_)
    rcases List.mem_append.1 hx with hx | hx
    · exact h4 x hx
    · obtain rfl := List.mem_singleton.1 hx; exact h4 _ (List.getElem_mem _)
theorem world_l1 (fuel : Nat) (hF : 1048576 < fuel) : ∀ (n f : Nat) (a : List Int) (b m s : Int) (S : List Season) (ws : List Int) (v : Int), CO a b m → m + 1000 * (n : Int) ≤ 200000000 → n < f → S.length + n ≤ 3 → 1 ≤ S.length + n → ws.length = S.length → (∀ x ∈ S, nSeason x ≤ 1000) →
    ∃ b' s' W, spec_l1Cur_world_l1 fuel f a b s S ws v (n : Int) = some (L1Cur.mk a b' s', W) ∧ CO a b' (m + 1000 * (n : Int) + 20) ∧ nWorld W ≤ 10000 := by
  intro n
  induction n with
  | zero =>
    intro f a b m s S ws v h hm hf h1 h2 h3 h4
    obtain ⟨f, rfl⟩ := Nat.exists_eq_succ_of_ne_zero (by omega : f ≠ 0)
    rw [spec_l1Cur_world_l1, decide_eq_false (by omega), cond_false]
    obtain ⟨b1, s1, v1, e1, g1, l1, u1⟩ := pick_ok (s := s) h (by omega) 30 (by omega)
    rw [bnd e1]
    dsimp only
    cases v1 == 0
    · rw [cond_false]
      cases v1 == 1
      · rw [cond_false]
        cases v1 == 2
        · rw [cond_false]
          cases v1 == 3
          · exact ⟨_, _, _, rfl, g1.mono (by omega), nW_le h4 (by omega) (by omega)⟩
          · exact ⟨_, _, _, rfl, g1.mono (by omega), nW_le (by simp) (by simp) (by simp)⟩
        · rw [cond_true]
          obtain ⟨b2, s2, v2, e2, g2, l2, u2⟩ := pick_ok (s := s1) g1 (by omega) 2 (by omega)
          rw [bnd e2]
          obtain ⟨W, k1, k2⟩ := world_l2 a b2 s2 v2 (by omega) _ fuel S ws rfl (by omega) (by omega) (by omega) h3 h4
          exact ⟨_, _, _, k1, g2.mono (by omega), k2⟩
      · rw [cond_true, fits_of (by simp; omega), need_t, Option.bind_some]
        exact ⟨_, _, _, rfl, g1.mono (by omega), nW_le h4 (by omega) (by simp; omega)⟩
    · rw [cond_true]
      obtain ⟨b2, s2, v2, e2, g2, _⟩ := among_ok (s := s1) g1 (by omega) [(-1), 0, 100, 101] (by simp) (by simp)
      rw [bnd e2, bnd (show getI ws 0 = some ws[0] from getI_lt_some (k := 0) (by omega))]
      exact ⟨_, _, _, rfl, g2.mono (by omega), nW_le h4 (by omega) (by simp; omega)⟩
  | succ n ih =>
    intro f a b m s S ws v h hm hf h1 h2 h3 h4
    obtain ⟨f, rfl⟩ := Nat.exists_eq_succ_of_ne_zero (by omega : f ≠ 0)
    rw [spec_l1Cur_world_l1, decide_eq_true (by omega), cond_true]
    obtain ⟨b1, s1, T, e1, g1, k1⟩ := season_ok (s := s) h (by omega) fuel hF
    rw [bnd e1]
    dsimp only
    rw [fits_of (by simp; omega), need_t, Option.bind_some, fits_of (by simp; omega), need_t, Option.bind_some, show need (2 != 0) = some () from rfl, Option.bind_some, show need (10 != 0) = some () from rfl, Option.bind_some]
    obtain ⟨b2, s2, v2, e2, g2, _⟩ := among_ok (s := s1) g1 (by omega) [v, w64 (v.tdiv 2), w64 ((w64 (v * 7)).tdiv 10)] (by simp) (by simp)
    rw [bnd e2]
    dsimp only
    rw [w64_in (n := ((n + 1 : Nat) : Int) - 1) (by omega), show ((n + 1 : Nat) : Int) - 1 = (n : Int) from by omega]
    obtain ⟨b', s', W, q1, q2, q3⟩ := ih f a b2 _ s2 (S ++ [T]) (ws ++ [v]) v2 g2 (by omega) (by omega) (by simp; omega) (by simp; omega) (by simp [h3]) (fun x hx => by
      rcases List.mem_append.1 hx with hx | hx
      · exact h4 x hx
      · obtain rfl := List.mem_singleton.1 hx; exact k1)
    exact ⟨b', s', W, q1, q2.mono (by omega), q3⟩
theorem world_ok {a : List Int} {b m s : Int} (h : CO a b m) (hm : m ≤ 100000000) (fuel : Nat) (hf : 1048576 < fuel) : ∃ b' s' W, spec_l1Cur_world_p fuel (L1Cur.mk a b s) = some (L1Cur.mk a b' s', W) ∧ CO a b' (m + 4000) ∧ nWorld W ≤ 10000 := by
  unfold spec_l1Cur_world_p
  obtain ⟨b1, s1, v1, e1, g1, l1, u1⟩ := pick_ok (s := s) h (by omega) 3 (by omega)
  rw [bnd e1]
  dsimp only
  rw [w64_in (n := 1 + v1) (by omega)]
  obtain ⟨b', s', W, q1, q2, q3⟩ := world_l1 fuel hf (1 + v1).toNat fuel a b1 _ s1 [] [] 100 g1 (by omega) (by omega) (by simp; omega) (by simp; omega) rfl (by simp)
  rw [show (((1 + v1).toNat : Nat) : Int) = 1 + v1 from by omega] at q1
  exact ⟨b', s', W, q1, q2.mono (by omega), q3⟩
theorem drawIsWorld_ok {code : List Int} (hc : ∀ x ∈ code, isByte x) (hl : code.length ≤ 9223372036854775807) (fuel : Nat) (hf : 1048576 < fuel) : ∃ W, spec_DrawIsWorld_p fuel code = some W ∧ nWorld W ≤ 10000 := by
  unfold spec_DrawIsWorld_p
  obtain ⟨b1, s1, W, e1, g1, k1⟩ := world_ok (s := 0) (co0 hc hl) (by omega) fuel hf
  rw [bnd e1]
  exact ⟨_, rfl, k1⟩
theorem drawWorldList_ok {code : List Int} (hc : ∀ x ∈ code, isByte x) (hl : code.length ≤ 9223372036854775807) (fuel : Nat) (hf : 1048576 < fuel) : ∃ W, spec_DrawWorldList_p fuel code = some W ∧ nWorld W ≤ 10000 := by
  unfold spec_DrawWorldList_p
  obtain ⟨W, e1, k1⟩ := drawIsWorld_ok hc hl fuel hf
  rw [bnd e1]
  exact ⟨_, rfl, k1⟩
theorem drawFirstOf_ok {code : List Int} (hc : ∀ x ∈ code, isByte x) (hl : code.length ≤ 9223372036854775807) (fuel : Nat) (hf : 1048576 < fuel) : ∃ W n, spec_DrawFirstOf_p fuel code = some (W, n) ∧ nWorld W ≤ 10000 := by
  unfold spec_DrawFirstOf_p
  obtain ⟨b1, s1, W, e1, g1, k1⟩ := world_ok (s := 0) (co0 hc hl) (by omega) fuel hf
  rw [bnd e1]
  dsimp only
  obtain ⟨b2, s2, v2, e2, g2, _⟩ := among_ok (s := s1) g1 (by omega) [1, 2, 3, 5, 300, 301, 0] (by simp) (by simp)
  rw [bnd e2]
  exact ⟨_, _, rfl, k1⟩
theorem drawWorldTotal_ok {code : List Int} (hc : ∀ x ∈ code, isByte x) (hl : code.length ≤ 9223372036854775807) (fuel : Nat) (hf : 1048576 < fuel) : ∃ W n, spec_DrawWorldTotal_p fuel code = some (W, n) ∧ nWorld W ≤ 10000 := by
  unfold spec_DrawWorldTotal_p
  obtain ⟨b1, s1, W, e1, g1, k1⟩ := world_ok (s := 0) (co0 hc hl) (by omega) fuel hf
  rw [bnd e1]
  dsimp only
  obtain ⟨b2, s2, v2, e2, g2, _⟩ := among_ok (s := s1) g1 (by omega) [0, 1, 2, 3, 4, 5, 6, 999, 1000] (by simp) (by simp)
  rw [bnd e2]
  exact ⟨_, _, rfl, k1⟩

end Go.Proofs.YtegdphhfimaieaaGreat

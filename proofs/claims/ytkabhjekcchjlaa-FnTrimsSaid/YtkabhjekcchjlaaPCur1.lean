/- Plain lemmas: what the functions compute is what the reference says, in plain Lean. No condition. -/
import Derived.Test.YtkabhjekcchjlaaPWorld2
set_option maxRecDepth 4000
set_option maxHeartbeats 1000000
set_option linter.unusedVariables false
set_option linter.unusedSimpArgs false
set_option linter.unusedSectionVars false

namespace Go.Proofs.Ytkabhjekcchjlaa
open Go.AM

def CO (a : List Int) (b m : Int) : Prop := (∀ x ∈ a, isByte x) ∧ a.length ≤ 1048576 ∧ 0 ≤ b ∧ b ≤ m
theorem and255 (z : BitVec 64) : ((z &&& BitVec.ofInt 64 255).toNat : Int) ≤ 255 := by
  have h : (BitVec.ofInt 64 255).toNat = 255 := by decide
  rw [BitVec.toNat_and, h]
  have := Nat.and_le_right (n := z.toNat) (m := 255)
  omega
theorem wr_small {n : Int} (h : 0 ≤ n ∧ n ≤ 255) : IntKind.wrap .i64 (IntKind.wrap .u64 n) = n := by
  have e : IntKind.wrap .u64 n = n := by
    unfold IntKind.wrap
    simp [IntKind.signed, IntKind.bits]
    omega
  rw [e]
  exact w64_in (by omega)
theorem next_ok {a : List Int} {b m s : Int} (h : CO a b m) (hm : m ≤ 1000000000) : ∃ b' s' v, spec_l1Cur_next_p (L1Cur.mk a b s) = some (L1Cur.mk a b' s', v) ∧ CO a b' (m + 1) ∧ 0 ≤ v ∧ v ≤ 255 := by
  obtain ⟨h1, h2, h3, h4⟩ := h
  unfold spec_l1Cur_next_p
  dsimp only
  have hw : w64 (b + 1) = b + 1 := w64_in (by omega)
  by_cases hl : b < (a.length : Int)
  · have hlt : b.toNat < a.length := by omega
    have hg : getI a b = some a[b.toNat] := by rw [getI_of (k := b.toNat) (by omega)]; exact List.getElem?_eq_getElem hlt
    have hb := h1 _ (List.getElem_mem hlt)
    unfold isByte at hb
    rw [decide_eq_true hl, cond_true, bnd hg, hw, decide_eq_true (by omega), cond_true]
    refine ⟨_, _, _, rfl, ⟨h1, h2, by omega, by omega⟩, ?_⟩
    rw [show IntKind.wrap .i64 a[b.toNat] = a[b.toNat] from w64_in (by omega)]
    exact hb
  · rw [decide_eq_false hl, cond_false, hw, decide_eq_false (by omega), cond_false]
    refine ⟨_, _, _, rfl, ⟨h1, h2, by omega, by omega⟩, ?_⟩
    rw [wr_small ⟨by omega, and255 _⟩]
    exact ⟨by omega, and255 _⟩
theorem tmod_small {x n : Int} (h : 0 ≤ x) (hn : 0 < n) : 0 ≤ x.tmod n ∧ x.tmod n < n := by
  rw [Int.tmod_eq_emod_of_nonneg h]
  exact ⟨Int.emod_nonneg _ (by omega), Int.emod_lt_of_pos _ hn⟩
theorem pick_ok {a : List Int} {b m s : Int} (h : CO a b m) (hm : m ≤ 900000000) (n : Int) (hn : n ≤ 65536) : ∃ b' s' v, spec_l1Cur_pick_p (L1Cur.mk a b s) n = some (L1Cur.mk a b' s', v) ∧ CO a b' (m + 2) ∧ 0 ≤ v ∧ (v < n ∨ v = 0) := by
  unfold spec_l1Cur_pick_p
  by_cases h1 : n ≤ 1
  · rw [decide_eq_true h1, cond_true]
    exact ⟨_, _, _, rfl, ⟨h.1, h.2.1, h.2.2.1, by have := h.2.2.2; omega⟩, by omega, .inr rfl⟩
  · rw [decide_eq_false h1, cond_false]
    obtain ⟨b1, s1, v1, e1, g1, l1, u1⟩ := next_ok (s := s) h (by omega)
    have hnz : (n != 0) = true := by rw [bne_iff_ne]; omega
    rw [bnd e1]
    dsimp only
    by_cases h2 : n > 200
    · rw [decide_eq_true h2, cond_true]
      obtain ⟨b2, s2, v2, e2, g2, l2, u2⟩ := next_ok (s := s1) g1 (by omega)
      rw [bnd e2, hnz, need_t, Option.bind_some]
      dsimp only
      rw [w64_in (n := v1 * 256) (by omega), w64_in (by omega)]
      have := tmod_small (x := v1 * 256 + v2) (n := n) (by omega) (by omega)
      exact ⟨_, _, _, rfl, ⟨g2.1, g2.2.1, g2.2.2.1, by have := g2.2.2.2; omega⟩, this.1, .inl this.2⟩
    · rw [decide_eq_false h2, cond_false, hnz, need_t, Option.bind_some]
      have := tmod_small (x := v1) (n := n) l1 (by omega)
      exact ⟨_, _, _, rfl, ⟨g1.1, g1.2.1, g1.2.2.1, by have := g1.2.2.2; omega⟩, this.1, .inl this.2⟩
theorem among_ok {a : List Int} {b m s : Int} (h : CO a b m) (hm : m ≤ 900000000) (l : List Int) (h0 : 0 < l.length) (hl : l.length ≤ 60000) : ∃ b' s' v, spec_l1Cur_among_p (L1Cur.mk a b s) l = some (L1Cur.mk a b' s', v) ∧ CO a b' (m + 2) ∧ v ∈ l := by
  unfold spec_l1Cur_among_p
  obtain ⟨b1, s1, v1, e1, g1, l1, u1⟩ := pick_ok (s := s) h hm (l.length : Int) (by omega)
  have hlt : v1.toNat < l.length := by omega
  have hg : getI l v1 = some l[v1.toNat] := by rw [getI_of (k := v1.toNat) (by omega)]; exact List.getElem?_eq_getElem hlt
  rw [bnd e1]
  dsimp only
  rw [bnd hg]
  exact ⟨_, _, _, rfl, g1, List.getElem_mem hlt⟩
def bndM (l : List Int) : Prop := ∀ x ∈ l, -1001 ≤ x ∧ x ≤ 1001
theorem bndM_snoc {l : List Int} {y : Int} (h : bndM l) (hy : -1001 ≤ y ∧ y ≤ 1001) : bndM (l ++ [y]) := by
  intro x hx
  rcases List.mem_append.1 hx with hx | hx
  · exact h x hx
  · rw [List.mem_singleton.1 hx]; exact hy
theorem marks_l1 (x3 : L1Cur × Bool) : ∀ (n f : Nat) (a : List Int) (b m s : Int) (acc : List Int), CO a b m → m + 2 * (n : Int) ≤ 900000000 → n < f → acc.length + n ≤ 9 → bndM acc →
    ∃ b' s' acc', spec_l1Cur_marksOf_l1 x3 f a b s acc (n : Int) = some (a, b', s', acc') ∧ CO a b' (m + 2 * (n : Int)) ∧ acc'.length = acc.length + n ∧ bndM acc' := by
  intro n
  induction n with
  | zero =>
    intro f a b m s acc h hm hf hl hb
    obtain ⟨f, rfl⟩ := Nat.exists_eq_succ_of_ne_zero (by omega : f ≠ 0)
    rw [spec_l1Cur_marksOf_l1, decide_eq_false (by omega)]
    exact ⟨_, _, _, rfl, ⟨h.1, h.2.1, h.2.2.1, by have := h.2.2.2; omega⟩, rfl, hb⟩
  | succ n ih =>
    intro f a b m s acc h hm hf hl hb
    obtain ⟨f, rfl⟩ := Nat.exists_eq_succ_of_ne_zero (by omega : f ≠ 0)
    rw [spec_l1Cur_marksOf_l1, decide_eq_true (by omega), cond_true, w64_in (n := ((n + 1 : Nat) : Int) - 1) (by omega), show ((n + 1 : Nat) : Int) - 1 = (n : Int) from by omega]
    cases x3.2
    · rw [cond_false]
      obtain ⟨b1, s1, v1, e1, g1, l1, u1⟩ := pick_ok (s := s) h (by omega) 11 (by omega)
      rw [bnd e1]
      dsimp only
      rw [fits_of (by simp; omega), need_t, Option.bind_some, w64_in (by omega)]
      obtain ⟨b2, s2, acc2, e2, g2, l2, u2⟩ := ih f a b1 (m + 2) s1 (acc ++ [v1 - 5]) g1 (by omega) (by omega) (by simp; omega) (bndM_snoc hb (by omega))
      exact ⟨b2, s2, acc2, e2, ⟨g2.1, g2.2.1, g2.2.2.1, by have := g2.2.2.2; omega⟩, by rw [l2]; simp; omega, u2⟩
    · rw [cond_true]
      obtain ⟨b1, s1, v1, e1, g1, l1, u1⟩ := pick_ok (s := s) h (by omega) 41 (by omega)
      rw [bnd e1]
      dsimp only
      rw [w64_in (n := 25 * v1) (by omega), fits_of (by simp; omega), need_t, Option.bind_some]
      obtain ⟨b2, s2, acc2, e2, g2, l2, u2⟩ := ih f a b1 (m + 2) s1 (acc ++ [25 * v1]) g1 (by omega) (by omega) (by simp; omega) (bndM_snoc hb (by omega))
      exact ⟨b2, s2, acc2, e2, ⟨g2.1, g2.2.1, g2.2.2.1, by have := g2.2.2.2; omega⟩, by rw [l2]; simp; omega, u2⟩
theorem marks_l2 (x88 : L1Cur × Int) (hx : 0 ≤ x88.2 ∧ x88.2 ≤ 1) : ∀ (n f : Nat) (a : List Int) (b m s : Int) (acc : List Int), CO a b m → m + 2 * (n : Int) ≤ 900000000 → n < f → ((9 + x88.2) - (acc.length : Int)).toNat = n → acc.length ≤ 10 → bndM acc →
    ∃ b' s' acc', spec_l1Cur_marksOf_l2 x88 f a b s acc = some (L1Cur.mk a b' s', acc') ∧ CO a b' (m + 2 * (n : Int)) ∧ acc'.length ≤ 10 ∧ bndM acc' := by
  intro n
  induction n with
  | zero =>
    intro f a b m s acc h hm hf hl h10 hb
    obtain ⟨f, rfl⟩ := Nat.exists_eq_succ_of_ne_zero (by omega : f ≠ 0)
    rw [spec_l1Cur_marksOf_l2, w64_in (by omega), decide_eq_false (by omega)]
    exact ⟨_, _, _, rfl, ⟨h.1, h.2.1, h.2.2.1, by have := h.2.2.2; omega⟩, h10, hb⟩
  | succ n ih =>
    intro f a b m s acc h hm hf hl h10 hb
    obtain ⟨f, rfl⟩ := Nat.exists_eq_succ_of_ne_zero (by omega : f ≠ 0)
    rw [spec_l1Cur_marksOf_l2, w64_in (by omega), decide_eq_true (by omega), cond_true]
    obtain ⟨b1, s1, v1, e1, g1, l1, u1⟩ := pick_ok (s := s) h (by omega) 9 (by omega)
    rw [bnd e1]
    dsimp only
    rw [fits_of (by simp; omega), need_t, Option.bind_some]
    obtain ⟨b2, s2, acc2, e2, g2, l2, u2⟩ := ih f a b1 (m + 2) s1 (acc ++ [v1]) g1 (by omega) (by omega) (by simp; omega) (by simp; omega) (bndM_snoc hb (by omega))
    exact ⟨b2, s2, acc2, e2, ⟨g2.1, g2.2.1, g2.2.2.1, by have := g2.2.2.2; omega⟩, l2, u2⟩
theorem CO.mono {a : List Int} {b m m' : Int} (h : CO a b m) (hm : m ≤ m') : CO a b m' := ⟨h.1, h.2.1, h.2.2.1, by have := h.2.2.2; omega⟩
theorem marksOf_ok {a : List Int} {b m s : Int} (h : CO a b m) (hm : m ≤ 100000000) (fuel : Nat) (hf : 1000 < fuel) : ∃ b' s' l, spec_l1Cur_marksOf_p fuel (L1Cur.mk a b s) = some (L1Cur.mk a b' s', l) ∧ CO a b' (m + 100) ∧ l.length ≤ 10 ∧ bndM l := by
  unfold spec_l1Cur_marksOf_p
  obtain ⟨b1, s1, v1, e1, g1, l1, u1⟩ := pick_ok (s := s) h (by omega) 9 (by omega)
  rw [bnd e1]
  dsimp only
  unfold spec_l1Cur_one_p
  obtain ⟨b2, s2, v2, e2, g2, l2, u2⟩ := pick_ok (s := s1) g1 (by omega) 3 (by omega)
  rw [bnd e2]
  dsimp only
  rw [w64_in (by omega), Option.bind_some, show 1 + v1 = ((v1.toNat + 1 : Nat) : Int) from by omega]
  obtain ⟨b3, s3, l3, e3, g3, q3, r3⟩ := marks_l1 (L1Cur.mk a b2 s2, v2 == 0) (v1.toNat + 1) fuel a b2 (m + 2 + 2) s2 [] g2 (by omega) (by omega) (by simp; omega) (by intro x hx; simp at hx)
  rw [bnd e3]
  dsimp only
  simp only [List.length_nil, Nat.zero_add] at q3
  have g3' : CO a b3 (m + 30) := g3.mono (by omega)
  obtain ⟨b4, s4, v4, e4, g4, l4, u4⟩ := pick_ok (s := s3) g3' (by omega) 24 (by omega)
  rw [bnd e4]
  dsimp only
  cases v4 == 0
  · rw [cond_false]
    cases v4 == 1
    · rw [cond_false]
      cases v4 == 2
      · exact ⟨_, _, _, rfl, g4.mono (by omega), by omega, r3⟩
      · exact ⟨_, _, _, rfl, g4.mono (by omega), by simp, by intro x hx; simp at hx⟩
    · rw [cond_true]
      obtain ⟨b5, s5, v5, e5, g5, l5, u5⟩ := pick_ok (s := s4) g4 (by omega) 2 (by omega)
      rw [bnd e5]
      dsimp only
      obtain ⟨b6, s6, l6, e6, g6, q6, r6⟩ := marks_l2 (L1Cur.mk a b5 s5, v5) (by dsimp only; omega) ((9 + v5) - (l3.length : Int)).toNat fuel a b5 _ s5 l3 g5 (by omega) (by omega) rfl (by omega) r3
      exact ⟨b6, s6, l6, e6, g6.mono (by omega), q6, r6⟩
  · rw [cond_true]
    obtain ⟨b5, s5, v5, e5, g5, l5⟩ := among_ok (s := s4) g4 (by omega) [(-1000), 1000, 1001, (-1001)] (by simp) (by simp)
    rw [bnd e5]
    dsimp only
    have hg : ∃ y, getI l3 0 = some y := by
      have : getI l3 ((0 : Nat) : Int) = some l3[0] := getI_lt_some (by omega)
      exact ⟨_, this⟩
    obtain ⟨y, hy⟩ := hg
    rw [bnd hy]
    refine ⟨_, _, _, rfl, g5.mono (by omega), by simp; omega, fun x hx => ?_⟩
    rcases List.mem_or_eq_of_mem_set hx with hx | rfl
    · exact r3 x hx
    · simp at l5; omega
theorem judge_ok {a : List Int} {b m s : Int} (h : CO a b m) (hm : m ≤ 100000000) (l : List Int) (hl : l.length ≤ 10) : ∃ b' s' v, spec_l1Cur_judge_p (L1Cur.mk a b s) l = some (L1Cur.mk a b' s', v) ∧ CO a b' (m + 6) ∧ -1 ≤ v ∧ v ≤ 20 := by
  unfold spec_l1Cur_judge_p
  obtain ⟨b1, s1, v1, e1, g1, l1, u1⟩ := pick_ok (s := s) h (by omega) 16 (by omega)
  rw [bnd e1, show need (15 != 0) = some () from rfl, Option.bind_some]
  dsimp only
  have t1 : v1.tdiv 15 = v1 / 15 := Int.tdiv_eq_ediv_of_nonneg l1
  rw [t1, w64_in (n := v1 / 15) (by omega), w64_in (n := (l.length : Int) + v1 / 15) (by omega)]
  obtain ⟨b2, s2, v2, e2, g2, l2, u2⟩ := pick_ok (s := s1) g1 (by omega) ((l.length : Int) + v1 / 15) (by omega)
  rw [bnd e2]
  dsimp only
  obtain ⟨b3, s3, v3, e3, g3, l3, u3⟩ := pick_ok (s := s2) g2 (by omega) 24 (by omega)
  rw [bnd e3, show need (23 != 0) = some () from rfl, Option.bind_some]
  have t3 : v3.tdiv 23 = v3 / 23 := Int.tdiv_eq_ediv_of_nonneg l3
  dsimp only
  rw [t3, w64_in (n := v3 / 23) (by omega), w64_in (by omega)]
  exact ⟨_, _, _, rfl, g3.mono (by omega), by omega, by omega⟩
theorem drawOrder_ok {code : List Int} (hc : ∀ x ∈ code, isByte x) (hl : code.length ≤ 1048576) (fuel : Nat) (hf : 1000 < fuel) : ∃ l k, spec_DrawOrderOf_p fuel code = some (l, k) := by
  unfold spec_DrawOrderOf_p
  obtain ⟨b1, s1, l1, e1, g1, q1, r1⟩ := marksOf_ok (a := code) (b := 0) (m := 0) (s := 0) ⟨hc, hl, by omega, by omega⟩ (by omega) fuel hf
  rw [bnd e1]
  dsimp only
  obtain ⟨b2, s2, v2, e2, g2, _⟩ := judge_ok (s := s1) g1 (by omega) l1 q1
  rw [bnd e2]
  exact ⟨_, _, rfl⟩

end Go.Proofs.Ytkabhjekcchjlaa

/- Plain lemmas: what the functions compute is what the reference says, in plain Lean. No condition. -/
import Derived.Test.YtjbkbiofklgblaaGreatDoorPHText6
set_option maxRecDepth 4000
set_option maxHeartbeats 1000000
set_option linter.unusedVariables false
set_option linter.unusedSimpArgs false
set_option linter.unusedSectionVars false

namespace Go.Proofs.YtjbkbiofklgblaaGreatDoor
open Go.AM

def CO (a : List Int) (b m : Int) : Prop := (∀ x ∈ a, isByte x) ∧ a.length ≤ 9223372036854775807 ∧ 0 ≤ b ∧ b ≤ m
theorem and255 (z : BitVec 64) : ((z &&& BitVec.ofInt 64 255).toNat : Int) ≤ 255 := by
  have h : (BitVec.ofInt 64 255).toNat = 255 := by decide
  rw [BitVec.toNat_and, h]
  have := Nat.and_le_right (n := z.toNat) (m := 255)
  omega
theorem wr_small {n : Int} (h : 0 ≤ n ∧ n ≤ 255) : IntKind.wrap .i64 (IntKind.wrap .u64 n) = n := by
  have e : IntKind.wrap .u64 n = n := by
    unfold IntKind.wrap
    simp [IntKind.signed, IntKind.bits]
    omega
  rw [e]
  exact w64_in (by omega)
theorem next_ok {a : List Int} {b m s : Int} (h : CO a b m) (hm : m ≤ 1000000000) : ∃ b' s' v, spec_l1Cur_next_p (L1Cur.mk a b s) = some (L1Cur.mk a b' s', v) ∧ CO a b' (m + 1) ∧ 0 ≤ v ∧ v ≤ 255 := by
  obtain ⟨h1, h2, h3, h4⟩ := h
  unfold spec_l1Cur_next_p
  dsimp only
  have hw : w64 (b + 1) = b + 1 := w64_in (by omega)
  by_cases hl : b < (a.length : Int)
  · have hlt : b.toNat < a.length := by omega
    have hg : getI a b = some a[b.toNat] := by rw [getI_of (k := b.toNat) (by omega)]; exact List.getElem?_eq_getElem hlt
    have hb := h1 _ (List.getElem_mem hlt)
    unfold isByte at hb
    rw [decide_eq_true hl, cond_true, bnd hg, hw, decide_eq_true (by omega), cond_true]
    refine ⟨_, _, _, rfl, ⟨h1, h2, by omega, by omega⟩, ?_⟩
    rw [show IntKind.wrap .i64 a[b.toNat] = a[b.toNat] from w64_in (by omega)]
    exact hb
  · rw [decide_eq_false hl, cond_false, hw, decide_eq_false (by omega), cond_false]
    refine ⟨_, _, _, rfl, ⟨h1, h2, by omega, by omega⟩, ?_⟩
    rw [wr_small ⟨by omega, and255 _⟩]
    exact ⟨by omega, and255 _⟩
theorem tmod_small {x n : Int} (h : 0 ≤ x) (hn : 0 < n) : 0 ≤ x.tmod n ∧ x.tmod n < n := by
  rw [Int.tmod_eq_emod_of_nonneg h]
  exact ⟨Int.emod_nonneg _ (by omega), Int.emod_lt_of_pos _ hn⟩
theorem pick_ok {a : List Int} {b m s : Int} (h : CO a b m) (hm : m ≤ 900000000) (n : Int) (hn : n ≤ 65536) : ∃ b' s' v, spec_l1Cur_pick_p (L1Cur.mk a b s) n = some (L1Cur.mk a b' s', v) ∧ CO a b' (m + 2) ∧ 0 ≤ v ∧ (v < n ∨ v = 0) := by
  unfold spec_l1Cur_pick_p
  by_cases h1 : n ≤ 1
  · rw [decide_eq_true h1, cond_true]
    exact ⟨_, _, _, rfl, ⟨h.1, h.2.1, h.2.2.1, by have := h.2.2.2; omega⟩, by omega, .inr rfl⟩
  · rw [decide_eq_false h1, cond_false]
    obtain ⟨b1, s1, v1, e1, g1, l1, u1⟩ := next_ok (s := s) h (by omega)
    have hnz : (n != 0) = true := by rw [bne_iff_ne]; omega
    rw [bnd e1]
    dsimp only
    by_cases h2 : n > 200
    · rw [decide_eq_true h2, cond_true]
      obtain ⟨b2, s2, v2, e2, g2, l2, u2⟩ := next_ok (s := s1) g1 (by omega)
      rw [bnd e2, hnz, need_t, Option.bind_some]
      dsimp only
      rw [w64_in (n := v1 * 256) (by omega), w64_in (by omega)]
      have := tmod_small (x := v1 * 256 + v2) (n := n) (by omega) (by omega)
      exact ⟨_, _, _, rfl, ⟨g2.1, g2.2.1, g2.2.2.1, by have := g2.2.2.2; omega⟩, this.1, .inl this.2⟩
    · rw [decide_eq_false h2, cond_false, hnz, need_t, Option.bind_some]
      have := tmod_small (x := v1) (n := n) l1 (by omega)
      exact ⟨_, _, _, rfl, ⟨g1.1, g1.2.1, g1.2.2.1, by have := g1.2.2.2; omega⟩, this.1, .inl this.2⟩
theorem among_ok {a : List Int} {b m s : Int} (h : CO a b m) (hm : m ≤ 900000000) (l : List Int) (h0 : 0 < l.length) (hl : l.length ≤ 60000) : ∃ b' s' v, spec_l1Cur_among_p (L1Cur.mk a b s) l = some (L1Cur.mk a b' s', v) ∧ CO a b' (m + 2) ∧ v ∈ l := by
  unfold spec_l1Cur_among_p
  obtain ⟨b1, s1, v1, e1, g1, l1, u1⟩ := pick_ok (s := s) h hm (l.length : Int) (by omega)
  have hlt : v1.toNat < l.length := by omega
  have hg : getI l v1 = some l[v1.toNat] := by rw [getI_of (k := v1.toNat) (by omega)]; exact List.getElem?_eq_getElem hlt
  rw [bnd e1]
  dsimp only
  rw [bnd hg]
  exact ⟨_, _, _, rfl, g1, List.getElem_mem hlt⟩
theorem CO.mono {a : List Int} {b m m' : Int} (h : CO a b m) (hm : m ≤ m') : CO a b m' := ⟨h.1, h.2.1, h.2.2.1, by have := h.2.2.2; omega⟩
theorem co0 {code : List Int} (hc : ∀ x ∈ code, isByte x) (hl : code.length ≤ 9223372036854775807) : CO code 0 0 := ⟨hc, hl, by omega, by omega⟩

end Go.Proofs.YtjbkbiofklgblaaGreatDoor

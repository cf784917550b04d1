/- Plain lemmas: what the functions compute is what the reference says, in plain Lean. No condition. -/
import Derived.Test.YtegdphhfimaieacGreatPDraw3
set_option maxRecDepth 4000
set_option maxHeartbeats 1000000
set_option linter.unusedVariables false
set_option linter.unusedSimpArgs false
set_option linter.unusedSectionVars false

namespace Go.Proofs.YtegdphhfimaieacGreat
open Go.AM

theorem withKeys_eq (K M : List Int) (h : K.length + M.length ≤ 100000) : impl_withKeys_p K M = some (K ++ M) := by
  unfold impl_withKeys_p
  rw [bnd (copyInts_l K (by omega)), fits_of (by omega), need_t, Option.bind_some]
theorem keyMix_l (x1 : List Int) (hl : x1.length ≤ 1000) : ∀ (ys pre : List Int) (fuel : Nat) (a : Int), x1 ++ [4, 1] = pre ++ ys → ys.length < fuel → impl_keyMix_l1 x1 fuel a (pre.length : Int) = some (ys.foldl mxS a) := by
  intro ys
  induction ys with
  | nil =>
    intro pre fuel a h hf
    obtain ⟨f, rfl⟩ := Nat.exists_eq_succ_of_ne_zero (by omega : fuel ≠ 0)
    rw [List.append_nil] at h
    rw [impl_keyMix_l1, h, decide_eq_false (by omega), cond_false]
    rfl
  | cons y ys ih =>
    intro pre fuel a h hf
    obtain ⟨f, rfl⟩ := Nat.exists_eq_succ_of_ne_zero (by omega : fuel ≠ 0)
    simp only [List.length_cons] at hf
    have hpl : pre.length ≤ 1002 := by have := congrArg List.length h; simp at this; omega
    rw [impl_keyMix_l1, decide_eq_true (by rw [h]; simp; omega), cond_true, bnd (getI_app h rfl)]
    rw [show need ((1000003 : Nat) != 0) = some () from rfl, show need ((16 : Nat) != 0) = some () from rfl, Option.bind_some, Option.bind_some, w64_in (n := (pre.length : Int) + 1) (by omega)]
    have := ih (pre ++ [y]) f (mxS a y) (by rw [h]; simp) (by omega)
    rw [show (((pre ++ [y]).length : Nat) : Int) = (pre.length : Int) + 1 from by simp] at this
    exact this
theorem keyMix_eq (K : List Int) (hl : K.length ≤ 1000) (fuel : Nat) (hf : 1048576 < fuel) : impl_keyMix_p fuel K = some (mixK K) := by
  unfold impl_keyMix_p
  rw [bnd (copyInts_l K (by omega)), fits_of (by simp; omega), need_t, Option.bind_some, w64_in (by omega)]
  exact keyMix_l K hl (K ++ [4, 1]) [] fuel _ rfl (by simp; omega)
theorem keyBelow_eq (K : List Int) (n : Int) (hl : K.length ≤ 900) (hn : 0 < n) (fuel : Nat) (hf : 1048576 < fuel) : impl_keyBelow_p fuel K n = some (belowK K n) := by
  unfold impl_keyBelow_p
  rw [bnd (withKeys_eq K [n] (by simp; omega)), bnd (keyMix_eq _ (by simp; omega) fuel hf)]
  rw [show (n != 0) = true from by simp only [bne_iff_ne, ne_eq]; omega, need_t, Option.bind_some]
  rfl
theorem shuffleOf_l2 (K : List Int) (h : keyOk K) (hl : K.length ≤ 800) (fu : Nat) (hfu : 1048576 < fu) : ∀ (i : Nat) (o : List Int) (fuel : Nat), i < fuel → (i < o.length ∨ i = 0) → i ≤ 100000 → impl_shuffleOf_l2 K fu fuel o (i : Int) = some (swps K i o) := by
  intro i
  induction i with
  | zero =>
    intro o fuel hf _ _
    obtain ⟨f, rfl⟩ := Nat.exists_eq_succ_of_ne_zero (by omega : fuel ≠ 0)
    rw [impl_shuffleOf_l2]; rfl
  | succ i ih =>
    intro o fuel hf hi hi2
    obtain ⟨f, rfl⟩ := Nat.exists_eq_succ_of_ne_zero (by omega : fuel ≠ 0)
    have hil : i + 1 < o.length := by omega
    have hb := belowK_lt (K ++ [((i + 1 : Nat) : Int)]) (((i + 1 : Nat) : Int) + 1) (keyOk_add h (keyOk_1 (by omega))) (by simp; omega) (by omega)
    have hp := swp_perm K o (i + 1) h hl hil hi2
    rw [impl_shuffleOf_l2, decide_eq_true (by omega), cond_true, bnd (withKeys_eq K [((i + 1 : Nat) : Int)] (by simp; omega)), w64_in (by omega), bnd (keyBelow_eq _ _ (by simp; omega) (by omega) fu hfu)]
    have hs : swp K o (i + 1) = (o.set (i + 1) (o[(belowK (K ++ [((i + 1 : Nat) : Int)]) (((i + 1 : Nat) : Int) + 1)).toNat]?.getD 0)).set (belowK (K ++ [((i + 1 : Nat) : Int)]) (((i + 1 : Nat) : Int) + 1)).toNat (o[i + 1]?.getD 0) := rfl
    generalize belowK (K ++ [((i + 1 : Nat) : Int)]) (((i + 1 : Nat) : Int) + 1) = b at *
    have hbl : b.toNat < o.length := by omega
    rw [List.getElem?_eq_getElem hbl, List.getElem?_eq_getElem hil, Option.getD_some, Option.getD_some] at hs
    have hgb : getI o b = some o[b.toNat] := by rw [getI_of (k := b.toNat) (by omega)]; exact List.getElem?_eq_getElem hbl
    rw [bnd hgb, bnd (getI_lt_some hil)]
    obtain ⟨z, hz⟩ : ∃ z, getI (o.set (((i + 1 : Nat) : Int)).toNat o[b.toNat]) b = some z := ⟨_, by rw [getI_of (k := b.toNat) (by omega)]; exact List.getElem?_eq_getElem (by simpa using hbl)⟩
    rw [bnd hz, w64_pred (by omega), show (((i + 1 : Nat) : Int)).toNat = i + 1 from rfl, ← hs]
    exact ih _ f (by omega) (by rw [hp.length_eq]; omega) (by omega)
theorem shuffleOf_l1 (K : List Int) (h : keyOk K) (hl : K.length ≤ 800) (fu : Nat) (hfu : 1048576 < fu) (n : Nat) (hn : n ≤ 100000) : ∀ (m j : Nat) (fuel : Nat), j + m = n → m < fuel → impl_shuffleOf_l1 K (n : Int) fu fuel (idxs j) (j : Int) = some (shufK K n) := by
  intro m
  induction m with
  | zero =>
    intro j fuel h1 hf
    obtain ⟨f, rfl⟩ := Nat.exists_eq_succ_of_ne_zero (by omega : fuel ≠ 0)
    obtain rfl : j = n := by omega
    rw [impl_shuffleOf_l1, decide_eq_false (by omega), cond_false, w64_in (by omega)]
    rcases Nat.eq_zero_or_pos j with rfl | hj
    · obtain ⟨f2, rfl⟩ := Nat.exists_eq_succ_of_ne_zero (by omega : fu ≠ 0)
      rw [impl_shuffleOf_l2]; rfl
    · rw [show (j : Int) - 1 = ((j - 1 : Nat) : Int) from by omega]
      exact shuffleOf_l2 K h hl fu hfu (j - 1) (idxs j) fu (by omega) (by rw [idxs_len]; omega) (by omega)
  | succ m ih =>
    intro j fuel h1 hf
    obtain ⟨f, rfl⟩ := Nat.exists_eq_succ_of_ne_zero (by omega : fuel ≠ 0)
    rw [impl_shuffleOf_l1, decide_eq_true (by omega), cond_true, fits_of (by rw [idxs_len]; simp; omega), need_t, Option.bind_some, w64_in (by omega), idxs_succ]
    exact ih (j + 1) f (by omega) (by omega)
theorem shuffledNumbers_l (l : List Int) (hn : l.length ≤ 100000) : ∀ (ys : List Int) (k : Nat) (acc : List Int), (∀ i ∈ ys, 0 ≤ i ∧ i < (l.length : Int)) → acc.length + ys.length ≤ 1000000 → impl_shuffledNumbers_l1 l ys k acc = some (acc ++ ys.map fun i => l[i.toNat]?.getD 0) := by
  intro ys
  induction ys with
  | nil => intro k acc _ _; rw [impl_shuffledNumbers_l1]; simp
  | cons y ys ih =>
    intro k acc h1 h2
    simp only [List.length_cons] at h2
    have hy := h1 y (by simp)
    have hy' : y.toNat < l.length := by omega
    rw [impl_shuffledNumbers_l1, bnd (show getI l y = some (l[y.toNat]?.getD 0) from by rw [getI_of (k := y.toNat) (by omega), List.getElem?_eq_getElem hy']; rfl), fits_of (by simp; omega), need_t, Option.bind_some, ih (k + 1) _ (fun i hi => h1 i (by simp [hi])) (by simp; omega)]
    simp
theorem shuffledNumbers_eq (K l : List Int) (h : keyOk K) (hl : K.length ≤ 800) (hn : l.length ≤ 100000) (fuel : Nat) (hf : 1048576 < fuel) : impl_shuffledNumbers_p fuel K l = some (numsK K l) := by
  unfold impl_shuffledNumbers_p impl_shuffleOf_p
  have hp := shufK_perm K l.length h hl hn
  rw [bnd (show impl_shuffleOf_l1 K (l.length : Int) fuel fuel [] 0 = some (shufK K l.length) from shuffleOf_l1 K h hl fuel hf l.length hn l.length 0 fuel (by omega) (by omega))]
  exact shuffledNumbers_l l hn (shufK K l.length) 0 [] (fun i hi => (mem_idxs _ i).1 (hp.mem_iff.1 hi)) (by rw [hp.length_eq, idxs_len]; simp; omega)

end Go.Proofs.YtegdphhfimaieacGreat

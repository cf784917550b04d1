/- Plain lemmas: what the functions compute is what the reference says, in plain Lean. No condition. -/
import Derived.Test.YtegdphhfimaieacGreatPEvent6
set_option maxRecDepth 4000
set_option maxHeartbeats 1000000
set_option linter.unusedVariables false
set_option linter.unusedSimpArgs false
set_option linter.unusedSectionVars false

namespace Go.Proofs.YtegdphhfimaieacGreat
open Go.AM

def mxS (a x : Int) : Int := (w64 (((w64 ((w64 ((w64 (29 * a)) + x)) + 13)).tmod 1000003) * (w64 ((w64 (((w64 ((w64 ((w64 (29 * a)) + x)) + 13)).tmod 1000003).tdiv 16)) + 5)))).tmod 1000003
theorem mxS_lt (a x : Int) (ha : 0 ≤ a ∧ a ≤ 1000003) (hx : 0 ≤ x ∧ x ≤ 1000000000) : 0 ≤ mxS a x ∧ mxS a x < 1000003 := by
  unfold mxS
  rw [w64_in (n := 29 * a) (by omega), w64_in (n := 29 * a + x) (by omega), w64_in (n := 29 * a + x + 13) (by omega)]
  have h1 := Int.tmod_nonneg (a := 29 * a + x + 13) 1000003 (by omega)
  have h2 := Int.tmod_lt_of_pos (29 * a + x + 13) (b := 1000003) (by omega)
  generalize (29 * a + x + 13).tmod 1000003 = b at *
  rw [Int.tdiv_eq_ediv_of_nonneg h1]
  have h3 : 0 ≤ b / 16 ∧ b / 16 ≤ 62501 := by omega
  generalize b / 16 = c at *
  rw [w64_in (n := c) (by omega), w64_in (n := c + 5) (by omega)]
  have h4 : 0 ≤ b * (c + 5) := Int.mul_nonneg h1 (by omega)
  have h5 : b * (c + 5) ≤ 1000003 * 62506 := Int.mul_le_mul (by omega) (by omega) (by omega) (by omega)
  rw [w64_in (by omega)]
  exact ⟨Int.tmod_nonneg _ h4, Int.tmod_lt_of_pos _ (by omega)⟩
def keyOk (K : List Int) : Prop := ∀ x ∈ K, 0 ≤ x ∧ x ≤ 1000000000
def mixK (K : List Int) : Int := (K ++ [4, 1]).foldl mxS (5231 + (K.length : Int))
theorem foldl_lt : ∀ (l : List Int) (a : Int), keyOk l → 0 ≤ a → a ≤ 1000003 → 0 ≤ l.foldl mxS a ∧ l.foldl mxS a ≤ 1000003 := by
  intro l
  induction l with
  | nil => intro a _ h1 h2; exact ⟨h1, h2⟩
  | cons y l ih =>
    intro a h h1 h2
    have := mxS_lt a y ⟨h1, h2⟩ (h y (by simp))
    exact ih _ (fun n hn => h n (by simp [hn])) (by omega) (by omega)
theorem keyOk_add {K L : List Int} (h : keyOk K) (k : keyOk L) : keyOk (K ++ L) := fun x hx => (List.mem_append.1 hx).elim (h x) (k x)
theorem keyOk_1 {n : Int} (h : 0 ≤ n ∧ n ≤ 1000000000) : keyOk [n] := fun x hx => by obtain rfl := List.mem_singleton.1 hx; exact h
theorem mixK_lt (K : List Int) (h : keyOk K) (hl : K.length ≤ 1000) : 0 ≤ mixK K ∧ mixK K ≤ 1000003 :=
  foldl_lt _ _ (keyOk_add h fun x hx => by simp at hx; omega) (by omega) (by omega)
theorem dwMix_l (x1 : List Int) (hl : x1.length ≤ 1000) : ∀ (ys pre : List Int) (fuel : Nat) (a : Int), x1 ++ [4, 1] = pre ++ ys → ys.length < fuel → spec_dwMix_l1 x1 fuel a (pre.length : Int) = some (ys.foldl mxS a) := by
  intro ys
  induction ys with
  | nil =>
    intro pre fuel a h hf
    obtain ⟨f, rfl⟩ := Nat.exists_eq_succ_of_ne_zero (by omega : fuel ≠ 0)
    rw [List.append_nil] at h
    rw [spec_dwMix_l1, h, decide_eq_false (by omega), cond_false]
    rfl
  | cons y ys ih =>
    intro pre fuel a h hf
    obtain ⟨f, rfl⟩ := Nat.exists_eq_succ_of_ne_zero (by omega : fuel ≠ 0)
    simp only [List.length_cons] at hf
    have hpl : pre.length ≤ 1002 := by have := congrArg List.length h; simp at this; omega
    rw [spec_dwMix_l1, decide_eq_true (by rw [h]; simp; omega), cond_true, bnd (getI_app h rfl)]
    rw [show need ((1000003 : Nat) != 0) = some () from rfl, show need ((16 : Nat) != 0) = some () from rfl, Option.bind_some, Option.bind_some, w64_in (n := (pre.length : Int) + 1) (by omega)]
    have := ih (pre ++ [y]) f (mxS a y) (by rw [h]; simp) (by omega)
    rw [show (((pre ++ [y]).length : Nat) : Int) = (pre.length : Int) + 1 from by simp] at this
    exact this
theorem dwMix_eq (K : List Int) (hl : K.length ≤ 1000) (fuel : Nat) (hf : 1048576 < fuel) : spec_dwMix_p fuel K = some (mixK K) := by
  unfold spec_dwMix_p
  rw [bnd (own_l K (by omega)), fits_of (by simp; omega), need_t, Option.bind_some, w64_in (by omega)]
  exact dwMix_l K hl (K ++ [4, 1]) [] fuel _ rfl (by simp; omega)
def belowK (K : List Int) (n : Int) : Int := (mixK (K ++ [n])).tmod n
theorem dwBelow_eq (K : List Int) (n : Int) (hl : K.length ≤ 900) (hn : 0 < n) (fuel : Nat) (hf : 1048576 < fuel) : spec_dwBelow_p fuel K n = some (belowK K n) := by
  unfold spec_dwBelow_p
  rw [bnd (own_l K (by omega)), fits_of (by simp; omega), need_t, Option.bind_some, bnd (dwMix_eq _ (by simp; omega) fuel hf)]
  rw [show (n != 0) = true from by simp only [bne_iff_ne, ne_eq]; omega, need_t, Option.bind_some]
  rfl
theorem belowK_lt (K : List Int) (n : Int) (h : keyOk K) (hl : K.length ≤ 900) (hn : 0 < n ∧ n ≤ 1000000) : 0 ≤ belowK K n ∧ belowK K n < n := by
  have := mixK_lt (K ++ [n]) (keyOk_add h (keyOk_1 (by omega))) (by simp; omega)
  exact ⟨Int.tmod_nonneg _ this.1, Int.tmod_lt_of_pos _ hn.1⟩
def swp (K : List Int) (o : List Int) (i : Nat) : List Int := (o.set i (o[(belowK (K ++ [(i : Int)]) ((i : Int) + 1)).toNat]?.getD 0)).set (belowK (K ++ [(i : Int)]) ((i : Int) + 1)).toNat (o[i]?.getD 0)
def swps (K : List Int) : Nat → List Int → List Int
  | 0, o => o
  | i + 1, o => swps K i (swp K o (i + 1))
theorem swp_perm (K o : List Int) (i : Nat) (h : keyOk K) (hl : K.length ≤ 800) (hi : i < o.length) (hi2 : i ≤ 100000) : (swp K o i).Perm o := by
  have hb := belowK_lt (K ++ [(i : Int)]) ((i : Int) + 1) (keyOk_add h (keyOk_1 (by omega))) (by simp; omega) (by omega)
  unfold swp
  generalize belowK (K ++ [(i : Int)]) ((i : Int) + 1) = b at *
  have hbl : b.toNat < o.length := by omega
  rw [List.getElem?_eq_getElem hbl, List.getElem?_eq_getElem hi]
  exact List.set_set_perm hi hbl
theorem swps_perm (K : List Int) (h : keyOk K) (hl : K.length ≤ 800) : ∀ (i : Nat) (o : List Int), i < o.length ∨ i = 0 → i ≤ 100000 → (swps K i o).Perm o := by
  intro i
  induction i with
  | zero => intro o _ _; exact List.Perm.refl _
  | succ i ih =>
    intro o hi hi2
    have hp := swp_perm K o (i + 1) h hl (by omega) hi2
    exact (ih (swp K o (i + 1)) (by rw [hp.length_eq]; omega) (by omega)).trans hp
def shufK (K : List Int) (n : Nat) : List Int := swps K (n - 1) (idxs n)
theorem shufK_perm (K : List Int) (n : Nat) (h : keyOk K) (hl : K.length ≤ 800) (hn : n ≤ 100000) : (shufK K n).Perm (idxs n) := by
  refine swps_perm K h hl _ _ ?_ (by omega)
  unfold idxs; simp; omega
theorem dwShuffle_l2 (K : List Int) (h : keyOk K) (hl : K.length ≤ 800) (fu : Nat) (hfu : 1048576 < fu) : ∀ (i : Nat) (o : List Int) (fuel : Nat), i < fuel → (i < o.length ∨ i = 0) → i ≤ 100000 → spec_dwShuffle_l2 K fu fuel o (i : Int) = some (swps K i o) := by
  intro i
  induction i with
  | zero =>
    intro o fuel hf _ _
    obtain ⟨f, rfl⟩ := Nat.exists_eq_succ_of_ne_zero (by omega : fuel ≠ 0)
    rw [spec_dwShuffle_l2]; rfl
  | succ i ih =>
    intro o fuel hf hi hi2
    obtain ⟨f, rfl⟩ := Nat.exists_eq_succ_of_ne_zero (by omega : fuel ≠ 0)
    have hil : i + 1 < o.length := by omega
    have hb := belowK_lt (K ++ [((i + 1 : Nat) : Int)]) (((i + 1 : Nat) : Int) + 1) (keyOk_add h (keyOk_1 (by omega))) (by simp; omega) (by omega)
    have hp := swp_perm K o (i + 1) h hl hil hi2
    rw [spec_dwShuffle_l2, decide_eq_true (by omega), cond_true, bnd (own_l K (by omega)), fits_of (by simp; omega), need_t, Option.bind_some, w64_in (by omega), bnd (dwBelow_eq _ _ (by simp; omega) (by omega) fu hfu)]
    have hs : swp K o (i + 1) = (o.set (i + 1) (o[(belowK (K ++ [((i + 1 : Nat) : Int)]) (((i + 1 : Nat) : Int) + 1)).toNat]?.getD 0)).set (belowK (K ++ [((i + 1 : Nat) : Int)]) (((i + 1 : Nat) : Int) + 1)).toNat (o[i + 1]?.getD 0) := rfl
    generalize belowK (K ++ [((i + 1 : Nat) : Int)]) (((i + 1 : Nat) : Int) + 1) = b at *
    have hbl : b.toNat < o.length := by omega
    rw [List.getElem?_eq_getElem hbl, List.getElem?_eq_getElem hil, Option.getD_some, Option.getD_some] at hs
    rw [bnd (getI_lt_some hil)]
    have hgb : getI o b = some o[b.toNat] := by rw [getI_of (k := b.toNat) (by omega)]; exact List.getElem?_eq_getElem hbl
    rw [bnd hgb]
    obtain ⟨z, hz⟩ : ∃ z, getI (o.set (((i + 1 : Nat) : Int)).toNat o[b.toNat]) b = some z := ⟨_, by rw [getI_of (k := b.toNat) (by omega)]; exact List.getElem?_eq_getElem (by simpa using hbl)⟩
    rw [bnd hz, w64_pred (by omega), show (((i + 1 : Nat) : Int)).toNat = i + 1 from rfl, ← hs]
    exact ih _ f (by omega) (by rw [hp.length_eq]; omega) (by omega)
theorem idxs_succ (n : Nat) : idxs n ++ [(n : Int)] = idxs (n + 1) := by unfold idxs; rw [List.range_succ, List.map_append]; rfl
theorem idxs_len (n : Nat) : (idxs n).length = n := by unfold idxs; simp
theorem dwShuffle_l1 (K : List Int) (h : keyOk K) (hl : K.length ≤ 800) (fu : Nat) (hfu : 1048576 < fu) (n : Nat) (hn : n ≤ 100000) : ∀ (m j : Nat) (fuel : Nat), j + m = n → m < fuel → spec_dwShuffle_l1 K (n : Int) fu fuel (idxs j) (j : Int) = some (shufK K n) := by
  intro m
  induction m with
  | zero =>
    intro j fuel h1 hf
    obtain ⟨f, rfl⟩ := Nat.exists_eq_succ_of_ne_zero (by omega : fuel ≠ 0)
    obtain rfl : j = n := by omega
    rw [spec_dwShuffle_l1, decide_eq_false (by omega), cond_false, w64_in (by omega)]
    rcases Nat.eq_zero_or_pos j with rfl | hj
    · obtain ⟨f2, rfl⟩ := Nat.exists_eq_succ_of_ne_zero (by omega : fu ≠ 0)
      rw [spec_dwShuffle_l2]; rfl
    · rw [show (j : Int) - 1 = ((j - 1 : Nat) : Int) from by omega]
      exact dwShuffle_l2 K h hl fu hfu (j - 1) (idxs j) fu (by omega) (by rw [idxs_len]; omega) (by omega)
  | succ m ih =>
    intro j fuel h1 hf
    obtain ⟨f, rfl⟩ := Nat.exists_eq_succ_of_ne_zero (by omega : fuel ≠ 0)
    rw [spec_dwShuffle_l1, decide_eq_true (by omega), cond_true, fits_of (by rw [idxs_len]; simp; omega), need_t, Option.bind_some, w64_in (by omega), idxs_succ]
    exact ih (j + 1) f (by omega) (by omega)
theorem dwShuffle_eq (K : List Int) (h : keyOk K) (hl : K.length ≤ 800) (n : Nat) (hn : n ≤ 100000) (fuel : Nat) (hf : 1048576 < fuel) : spec_dwShuffle_p fuel K (n : Int) = some (shufK K n) :=
  dwShuffle_l1 K h hl fuel hf n hn n 0 fuel (by omega) (by omega)
def numsK (K l : List Int) : List Int := (shufK K l.length).map fun i => l[i.toNat]?.getD 0
theorem numsK_perm (K l : List Int) (h : keyOk K) (hl : K.length ≤ 800) (hn : l.length ≤ 100000) : (numsK K l).Perm l := by
  have e : (idxs l.length).map (fun i => l[i.toNat]?.getD 0) = l := by
    unfold idxs
    rw [List.map_map]
    apply List.ext_getElem
    · simp
    · intro i h1 h2
      simp [List.getElem?_eq_getElem h2]
  exact ((shufK_perm K l.length h hl hn).map _).trans (by rw [e])
theorem dwNumbers_l (l : List Int) (hn : l.length ≤ 100000) : ∀ (ys : List Int) (k : Nat) (acc : List Int), (∀ i ∈ ys, 0 ≤ i ∧ i < (l.length : Int)) → acc.length + ys.length ≤ 1000000 → spec_dwNumbers_l1 l ys k acc = some (acc ++ ys.map fun i => l[i.toNat]?.getD 0) := by
  intro ys
  induction ys with
  | nil => intro k acc _ _; rw [spec_dwNumbers_l1]; simp
  | cons y ys ih =>
    intro k acc h1 h2
    simp only [List.length_cons] at h2
    have hy := h1 y (by simp)
    have hy' : y.toNat < l.length := by omega
    rw [spec_dwNumbers_l1, bnd (show getI l y = some (l[y.toNat]?.getD 0) from by rw [getI_of (k := y.toNat) (by omega), List.getElem?_eq_getElem hy']; rfl), fits_of (by simp; omega), need_t, Option.bind_some, ih (k + 1) _ (fun i hi => h1 i (by simp [hi])) (by simp; omega)]
    simp
theorem dwNumbers_eq (K l : List Int) (h : keyOk K) (hl : K.length ≤ 800) (hn : l.length ≤ 100000) (fuel : Nat) (hf : 1048576 < fuel) : spec_dwNumbers_p fuel K l = some (numsK K l) := by
  unfold spec_dwNumbers_p
  have hp := shufK_perm K l.length h hl hn
  rw [bnd (dwShuffle_eq K h hl l.length hn fuel hf)]
  exact dwNumbers_l l hn (shufK K l.length) 0 [] (fun i hi => (mem_idxs _ i).1 (hp.mem_iff.1 hi)) (by rw [hp.length_eq, idxs_len]; simp; omega)

end Go.Proofs.YtegdphhfimaieacGreat

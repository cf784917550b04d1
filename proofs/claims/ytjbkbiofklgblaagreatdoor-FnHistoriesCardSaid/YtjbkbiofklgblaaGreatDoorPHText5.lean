/- Plain lemmas: what the functions compute is what the reference says, in plain Lean. No condition. -/
import Derived.Test.YtjbkbiofklgblaaGreatDoorPHText4
set_option maxRecDepth 4000
set_option maxHeartbeats 1000000
set_option linter.unusedVariables false
set_option linter.unusedSimpArgs false
set_option linter.unusedSectionVars false

namespace Go.Proofs.YtjbkbiofklgblaaGreatDoor
open Go.AM

theorem toL_app (a b : ByteArray) : toL (a ++ b) = toL a ++ toL b := by
  show (a ++ b).data.toList = _
  rw [ByteArray.data_append, Array.toList_append]
theorem nd {a b : Nat} (h : a + b ≤ 1000000) : need (Nat.ble (a + b) maxN) = some () := by
  rw [show Nat.ble (a + b) maxN = true from by rw [Nat.ble_eq]; unfold maxN; omega]; rfl
theorem num_s (F : Nat) : ∀ (k rf n : Nat), n < 10 ^ (k + 1) → k < 12 → k < rf → ∃ t, spec_l1Num_p F rf (n : Int) = some t ∧ toL t = numL n := by
  intro k
  induction k with
  | zero =>
    intro rf n h _ hr
    obtain ⟨rf, rfl⟩ := Nat.exists_eq_succ_of_ne_zero (by omega : rf ≠ 0)
    rw [spec_l1Num_p, decide_eq_true (by omega), cond_true, numL, if_pos (by omega), w64_in (by omega)]
    refine ⟨_, rfl, ?_⟩
    have : n = 0 ∨ n = 1 ∨ n = 2 ∨ n = 3 ∨ n = 4 ∨ n = 5 ∨ n = 6 ∨ n = 7 ∨ n = 8 ∨ n = 9 := by omega
    rcases this with rfl | rfl | rfl | rfl | rfl | rfl | rfl | rfl | rfl | rfl <;> rfl
  | succ k ih =>
    intro rf n h hk hr
    obtain ⟨rf, rfl⟩ := Nat.exists_eq_succ_of_ne_zero (by omega : rf ≠ 0)
    have hdig : ∀ d : Nat, d < 10 → toL (strOfNums [IntKind.wrap .u8 (w64 (48 + (d : Int)))]) = [UInt8.ofNat (48 + d)] := by
      intro d hd
      rw [w64_in (by omega)]
      have : d = 0 ∨ d = 1 ∨ d = 2 ∨ d = 3 ∨ d = 4 ∨ d = 5 ∨ d = 6 ∨ d = 7 ∨ d = 8 ∨ d = 9 := by omega
      rcases this with rfl | rfl | rfl | rfl | rfl | rfl | rfl | rfl | rfl | rfl <;> rfl
    rw [spec_l1Num_p, numL]
    by_cases h10 : n < 10
    · rw [decide_eq_true (by omega), cond_true, if_pos h10]
      exact ⟨_, rfl, hdig n h10⟩
    · rw [decide_eq_false (by omega), cond_false, if_neg h10, show need (10 != 0) = some () from rfl, Option.bind_some]
      have hp : 10 ^ (k + 1 + 1) ≤ 10 ^ 13 := Nat.pow_le_pow_right (by omega) (by omega)
      have e1 : ((n : Int)).tdiv 10 = ((n / 10 : Nat) : Int) := by rw [Int.tdiv_eq_ediv_of_nonneg (by omega)]; omega
      have e2 : ((n : Int)).tmod 10 = ((n % 10 : Nat) : Int) := by rw [Int.tmod_eq_emod_of_nonneg (by omega)]; omega
      rw [e1, e2, w64_in (n := ((n / 10 : Nat) : Int)) (by omega)]
      obtain ⟨t, t1, t2⟩ := ih rf (n / 10) (by rw [Nat.pow_succ] at h; omega) (by omega) (by omega)
      have hts : t.size ≤ k + 1 := by
        rw [show t.size = (toL t).length from Go.Lib.size_eq t, t2]
        exact num_len k _ (by rw [Nat.pow_succ] at h; omega)
      rw [bnd t1, show (strOfNums [IntKind.wrap .u8 (w64 (48 + ((n % 10 : Nat) : Int)))]).size = 1 from rfl, nd (by omega), Option.bind_some]
      exact ⟨_, rfl, by rw [toL_app, t2, hdig _ (Nat.mod_lt _ (by omega))]⟩
theorem num_s6 (F : Nat) (hF : 100 < F) (n : Int) (h : 0 ≤ n ∧ n ≤ 100000) : ∃ t, spec_l1Num_p F F n = some t ∧ toL t = numL n.toNat ∧ t.size ≤ 6 := by
  obtain ⟨t, t1, t2⟩ := num_s F 5 F n.toNat (by omega) (by omega) (by omega)
  rw [Int.toNat_of_nonneg h.1] at t1
  exact ⟨t, t1, t2, by rw [show t.size = (toL t).length from Go.Lib.size_eq t, t2]; exact num_len 5 _ (by omega)⟩
theorem word_s (m : Int) (h : 0 ≤ m ∧ m ≤ 3) : ∃ w, getI markT m = some w ∧ toL w = wordL m ∧ w.size = 4 := by
  have : m = 0 ∨ m = 1 ∨ m = 2 ∨ m = 3 := by omega
  rcases this with rfl | rfl | rfl | rfl <;> exact ⟨_, rfl, rfl, rfl⟩
theorem hiText_l (F : Nat) (hF : 100 < F) : ∀ (ys : List Change) (k : Nat) (acc : ByteArray), (∀ c ∈ ys, chgIn c) → acc.size + 64 * ys.length ≤ 100000 → ∃ t, spec_hiText_l1 F ys k acc = some t ∧ toL t = toL acc ++ textL (ys.map chgL) := by
  intro ys
  induction ys with
  | nil => intro k acc _ _; rw [spec_hiText_l1]; exact ⟨_, rfl, by rw [List.map_nil]; unfold textL; simp⟩
  | cons c ys ih =>
    intro k acc hc hs
    obtain ⟨ct, cc, ci, cn, cm⟩ := hc c (by simp)
    obtain ⟨t0, a0, b0, s0⟩ := num_s6 F hF c.tick ct
    obtain ⟨t1, a1, b1, s1⟩ := num_s6 F hF c.caller (by omega)
    obtain ⟨t2, a2, b2, s2⟩ := num_s6 F hF c.item (by omega)
    obtain ⟨t3, a3, b3, s3⟩ := num_s6 F hF c.name (by omega)
    obtain ⟨w, a4, b4, s4⟩ := word_s c.mark cm
    have e32 : (⟨#[32]⟩ : ByteArray).size = 1 := rfl
    have e10 : (⟨#[10]⟩ : ByteArray).size = 1 := rfl
    have e7 : (⟨#[32, 114, 101, 118, 105, 101, 119]⟩ : ByteArray).size = 7 := rfl
    have l32 : toL (⟨#[32]⟩ : ByteArray) = [32] := rfl
    have l10 : toL (⟨#[10]⟩ : ByteArray) = [10] := rfl
    have l7 : toL (⟨#[32, 114, 101, 118, 105, 101, 119]⟩ : ByteArray) = 32 :: revL := rfl
    rw [List.length_cons] at hs
    rw [spec_hiText_l1, bnd a0, nd (by omega), Option.bind_some, bnd a1, nd (by simp only [ByteArray.size_append]; omega), Option.bind_some, nd (by simp only [ByteArray.size_append]; omega), Option.bind_some, bnd a2,
      nd (by simp only [ByteArray.size_append]; omega), Option.bind_some, nd (by simp only [ByteArray.size_append]; omega), Option.bind_some, bnd a3, nd (by simp only [ByteArray.size_append]; omega), Option.bind_some, nd (by simp only [ByteArray.size_append]; omega), Option.bind_some,
      bnd (show spec_hiWords_p = some markT from rfl), bnd a4, nd (by simp only [ByteArray.size_append]; omega), Option.bind_some, nd (by simp only [ByteArray.size_append]; omega), Option.bind_some]
    have hline : lineL (chgL c) = if c.review then (numL c.tick.toNat ++ 32 :: (numL c.caller.toNat ++ 32 :: (numL c.item.toNat ++ 32 :: (numL c.name.toNat ++ 32 :: wordL c.mark)))) ++ 32 :: revL else numL c.tick.toNat ++ 32 :: (numL c.caller.toNat ++ 32 :: (numL c.item.toNat ++ 32 :: (numL c.name.toNat ++ 32 :: wordL c.mark))) := line_five (chgL c)
    have htext : textL ((c :: ys).map chgL) = (lineL (chgL c) ++ [10]) ++ textL (ys.map chgL) := rfl
    cases hr : c.review
    · rw [cond_false, nd (by simp only [ByteArray.size_append]; omega), Option.bind_some]
      obtain ⟨t, q1, q2⟩ := ih (k + 1) (((acc ++ ((((((((t0 ++ (⟨#[32]⟩ : ByteArray)) ++ t1) ++ (⟨#[32]⟩ : ByteArray)) ++ t2) ++ (⟨#[32]⟩ : ByteArray)) ++ t3) ++ (⟨#[32]⟩ : ByteArray)) ++ w)) ++ (⟨#[10]⟩ : ByteArray))) (fun z hz => hc z (by simp [hz])) (by simp only [ByteArray.size_append]; omega)
      refine ⟨t, q1, ?_⟩
      rw [q2, htext, hline, hr]
      simp only [toL_app, b0, b1, b2, b3, b4, l32, l10, List.append_assoc, List.cons_append, List.nil_append, Bool.false_eq_true, if_false]
    · rw [cond_true, nd (by simp only [ByteArray.size_append]; omega), Option.bind_some, nd (by simp only [ByteArray.size_append]; omega), Option.bind_some]
      obtain ⟨t, q1, q2⟩ := ih (k + 1) ((((acc ++ ((((((((t0 ++ (⟨#[32]⟩ : ByteArray)) ++ t1) ++ (⟨#[32]⟩ : ByteArray)) ++ t2) ++ (⟨#[32]⟩ : ByteArray)) ++ t3) ++ (⟨#[32]⟩ : ByteArray)) ++ w)) ++ (⟨#[32, 114, 101, 118, 105, 101, 119]⟩ : ByteArray)) ++ (⟨#[10]⟩ : ByteArray))) (fun z hz => hc z (by simp [hz])) (by simp only [ByteArray.size_append]; omega)
      refine ⟨t, q1, ?_⟩
      rw [q2, htext, hline, hr]
      simp only [toL_app, b0, b1, b2, b3, b4, l32, l10, l7, List.append_assoc, List.cons_append, List.nil_append, if_true]
theorem hiText_eq {F : Nat} (hF : 100 < F) (h : List Change) (hl : h.length ≤ 60) (hc : ∀ c ∈ h, chgIn c) : ∃ t, spec_hiText_p F h = some t ∧ toL t = textL (h.map chgL) := by
  obtain ⟨t, t1, t2⟩ := hiText_l F hF h 0 ⟨#[]⟩ hc (by show 0 + 64 * h.length ≤ 100000; omega)
  exact ⟨t, t1, t2⟩
theorem l2_eq (pre : List Change) (hp : pre.length ≤ 60) (ws : List ByteArray) (w : ByteArray) (hw : getI ws 4 = some w) (a b c d : Int) : ∃ m, spec_ParseHistory_l2 pre ws a b c d markT 0 0 = some (.ok (pre ++ [Change.mk a b c d m ((ws.length : Int) == 6)])) ∧ ∀ m', 0 ≤ m' ∧ m' ≤ 3 → toL w = wordL m' → m = m' := by
  have w0 : ∀ m : Int, 0 ≤ m ∧ m ≤ 3 → m = 0 ∨ m = 1 ∨ m = 2 ∨ m = 3 := fun m h => by omega
  have hend : ∀ (k : Nat) (v : Int), spec_ParseHistory_l2 pre ws a b c d [] k v = some (.ok (pre ++ [Change.mk a b c d v ((ws.length : Int) == 6)])) := fun k v => by
    rw [spec_ParseHistory_l2, fits_of (by simp; omega), need_t, Option.bind_some]
  have hyes : ∀ (ys : List ByteArray) (k : Nat) (v : Int), spec_ParseHistory_l2 pre ws a b c d (w :: ys) k v = spec_ParseHistory_l2 pre ws a b c d ys (k + 1) (k : Int) := fun ys k v => by
    rw [spec_ParseHistory_l2, bnd hw, decide_eq_true rfl, cond_true]
  have hno : ∀ (y : ByteArray) (ys : List ByteArray) (k : Nat) (v : Int), toL w ≠ toL y → spec_ParseHistory_l2 pre ws a b c d (y :: ys) k v = spec_ParseHistory_l2 pre ws a b c d ys (k + 1) v := fun y ys k v h => by
    rw [spec_ParseHistory_l2, bnd hw, decide_eq_false (fun e => h (by rw [e])), cond_false]
  unfold markT
  by_cases h0 : w = (⟨#[110, 111, 110, 101]⟩ : ByteArray)
  · subst h0
    refine ⟨0, by rw [hyes, hno _ _ _ _ (by decide), hno _ _ _ _ (by decide), hno _ _ _ _ (by decide), hend]; rfl, fun m hm e => ?_⟩
    rcases w0 m hm with rfl | rfl | rfl | rfl
    · rfl
    · revert e; decide
    · revert e; decide
    · revert e; decide
  have g0 : toL w ≠ toL (⟨#[110, 111, 110, 101]⟩ : ByteArray) := fun e => h0 (toL_inj e)
  by_cases h1 : w = (⟨#[100, 111, 119, 110]⟩ : ByteArray)
  · subst h1
    refine ⟨1, by rw [hno _ _ _ _ (by decide), hyes, hno _ _ _ _ (by decide), hno _ _ _ _ (by decide), hend]; rfl, fun m hm e => ?_⟩
    rcases w0 m hm with rfl | rfl | rfl | rfl
    · revert e; decide
    · rfl
    · revert e; decide
    · revert e; decide
  have g1 : toL w ≠ toL (⟨#[100, 111, 119, 110]⟩ : ByteArray) := fun e => h1 (toL_inj e)
  by_cases h2 : w = (⟨#[101, 100, 103, 101]⟩ : ByteArray)
  · subst h2
    refine ⟨2, by rw [hno _ _ _ _ (by decide), hno _ _ _ _ (by decide), hyes, hno _ _ _ _ (by decide), hend]; rfl, fun m hm e => ?_⟩
    rcases w0 m hm with rfl | rfl | rfl | rfl
    · revert e; decide
    · revert e; decide
    · rfl
    · revert e; decide
  have g2 : toL w ≠ toL (⟨#[101, 100, 103, 101]⟩ : ByteArray) := fun e => h2 (toL_inj e)
  by_cases h3 : w = (⟨#[118, 111, 105, 100]⟩ : ByteArray)
  · subst h3
    refine ⟨3, by rw [hno _ _ _ _ (by decide), hno _ _ _ _ (by decide), hno _ _ _ _ (by decide), hyes, hend]; rfl, fun m hm e => ?_⟩
    rcases w0 m hm with rfl | rfl | rfl | rfl
    · revert e; decide
    · revert e; decide
    · revert e; decide
    · rfl
  have g3 : toL w ≠ toL (⟨#[118, 111, 105, 100]⟩ : ByteArray) := fun e => h3 (toL_inj e)
  refine ⟨0, by rw [hno _ _ _ _ g0, hno _ _ _ _ g1, hno _ _ _ _ g2, hno _ _ _ _ g3, hend], fun m hm e => ?_⟩
  rcases w0 m hm with rfl | rfl | rfl | rfl
  · rfl
  · exact absurd e g1
  · exact absurd e g2
  · exact absurd e g3
theorem lineS (F : Nat) (hF : 4194304 < F) (y : ByteArray) (hy : y.size ≤ 1048576) :
    ((∀ l s (pre : List Change) ys k, pre.length ≤ 60 → spec_ParseHistory_l1 l s F (y :: ys) k pre = some ([], false)) ∧ ∀ c, chgIn c → toL y ≠ lineL (chgL c)) ∨
    ∃ c : List Change → Change, (∀ l s (pre : List Change) ys k, pre.length ≤ 60 → spec_ParseHistory_l1 l s F (y :: ys) k pre = spec_ParseHistory_l1 l s F ys (k + 1) (pre ++ [c pre])) ∧ ∀ pre, pre.length ≤ 60 → ∀ c', chgIn c' → toL y = lineL (chgL c') → c pre = c' := by
  obtain ⟨ws, ws1, ws2⟩ := l1Split_eq y (by omega) 32 F hF
  have ws1 : spec_l1Split_p F y 32 = some ws := ws1
  have hB : ∀ c', chgIn c' → toL y = lineL (chgL c') → ws.map toL = partsL (chgL c') := fun c' _ e => by rw [ws2, e, cut_line]
  have hlenB : ∀ c', chgIn c' → toL y = lineL (chgL c') → ws.length = if c'.review then 6 else 5 := fun c' h e => by
    have := congrArg List.length (hB c' h e)
    rw [List.length_map] at this
    rw [this]
    unfold partsL
    rw [show (chgL c').r = c'.review from rfl]
    cases c'.review <;> rfl
  by_cases h56 : ws.length = 5 ∨ ws.length = 6
  · right
    obtain ⟨w0, w1, w2, w3, w4, rest, rfl⟩ : ∃ w0 w1 w2 w3 w4 rest, ws = w0 :: w1 :: w2 :: w3 :: w4 :: rest := by
      match ws, h56 with
      | w0 :: w1 :: w2 :: w3 :: w4 :: rest, _ => exact ⟨w0, w1, w2, w3, w4, rest, rfl⟩
    have hws : ∀ w ∈ w0 :: w1 :: w2 :: w3 :: w4 :: rest, w.size ≤ 1048576 := fun w hw => by
      have hm : toL w ∈ cutC 32 (toL y) := by rw [← ws2]; exact List.mem_map_of_mem hw
      have := cut_size 32 _ _ hm
      have h1 : w.size = (toL w).length := Go.Lib.size_eq w
      have h2 : y.size = (toL y).length := Go.Lib.size_eq y
      omega
    obtain ⟨v0, a0, b0⟩ := l1Read_eq w0 (hws w0 (by simp)) F (by omega)
    obtain ⟨v1, a1, b1⟩ := l1Read_eq w1 (hws w1 (by simp)) F (by omega)
    obtain ⟨v2, a2, b2⟩ := l1Read_eq w2 (hws w2 (by simp)) F (by omega)
    obtain ⟨v3, a3, b3⟩ := l1Read_eq w3 (hws w3 (by simp)) F (by omega)
    have hm := fun pre hp => l2_eq pre hp (w0 :: w1 :: w2 :: w3 :: w4 :: rest) w4 rfl v0 v1 v2 v3
    let mk : List Change → Int := fun pre => if hp : pre.length ≤ 60 then (hm pre hp).choose else 0
    have hmk : ∀ pre (hp : pre.length ≤ 60), spec_ParseHistory_l2 pre (w0 :: w1 :: w2 :: w3 :: w4 :: rest) v0 v1 v2 v3 markT 0 0 = some (.ok (pre ++ [Change.mk v0 v1 v2 v3 (mk pre) (((w0 :: w1 :: w2 :: w3 :: w4 :: rest).length : Int) == 6)])) ∧ ∀ m', 0 ≤ m' ∧ m' ≤ 3 → toL w4 = wordL m' → mk pre = m' := fun pre hp => by
      have h := (hm pre hp).choose_spec
      have e : mk pre = (hm pre hp).choose := dif_pos hp
      rw [e]; exact h
    refine ⟨fun pre => Change.mk v0 v1 v2 v3 (mk pre) (((w0 :: w1 :: w2 :: w3 :: w4 :: rest).length : Int) == 6), fun l s pre ys k hp => ?_, fun pre hp c' hc e => ?_⟩
    · rw [spec_ParseHistory_l1, bnd ws1]
      have hne : ((((w0 :: w1 :: w2 :: w3 :: w4 :: rest).length : Int) != 5) && (((w0 :: w1 :: w2 :: w3 :: w4 :: rest).length : Int) != 6)) = false := by
        rw [Bool.and_eq_false_iff]
        rcases h56 with h | h
        · left; rw [h]; rfl
        · right; rw [h]; rfl
      rw [hne, cond_false, bnd (show getI (w0 :: w1 :: w2 :: w3 :: w4 :: rest) 0 = some w0 from rfl), bnd a0, bnd (show getI (w0 :: w1 :: w2 :: w3 :: w4 :: rest) 1 = some w1 from rfl), bnd a1, bnd (show getI (w0 :: w1 :: w2 :: w3 :: w4 :: rest) 2 = some w2 from rfl), bnd a2,
        bnd (show getI (w0 :: w1 :: w2 :: w3 :: w4 :: rest) 3 = some w3 from rfl), bnd a3, bnd (show spec_hiWords_p = some markT from rfl), bnd (hmk pre hp).1]
      rfl
    · have hf := hB c' hc e
      have hl := hlenB c' hc e
      unfold partsL at hf
      simp only [List.map_cons, List.cons_append, List.cons.injEq] at hf
      obtain ⟨f0, f1, f2, f3, f4, _⟩ := hf
      obtain ⟨⟨t0, t1⟩, ⟨c0, c1⟩, ⟨i0, i1⟩, ⟨n0, n1⟩, hmm⟩ := hc
      have hnum : ∀ (w : ByteArray) (n : Int) (v : Int), toL w = numL n.toNat → 0 ≤ n ∧ n ≤ 100000 → (canL (toL w) → (toL w).length ≤ 6 → v = (valL (toL w) : Int)) → v = n := fun w n v h hn hv => by
        rw [h] at hv
        rw [hv (num_can _) (num_len 5 _ (by omega)), num_val]; omega
      show Change.mk v0 v1 v2 v3 (mk pre) (((w0 :: w1 :: w2 :: w3 :: w4 :: rest).length : Int) == 6) = c'
      rw [hnum w0 c'.tick v0 f0 ⟨t0, t1⟩ b0, hnum w1 c'.caller v1 f1 (by omega) b1, hnum w2 c'.item v2 f2 (by omega) b2, hnum w3 c'.name v3 f3 (by omega) b3, (hmk pre hp).2 c'.mark hmm f4]
      rw [hl]
      cases c' with
      | mk a b c d m r => cases r <;> rfl
  · left
    refine ⟨fun l s pre ys k _ => ?_, fun c hc e => h56 ?_⟩
    · rw [spec_ParseHistory_l1, bnd ws1]
      have hne : (((ws.length : Int) != 5) && ((ws.length : Int) != 6)) = true := by
        rw [Bool.and_eq_true, bne_iff_ne, bne_iff_ne]
        exact ⟨fun h => h56 (.inl (by omega)), fun h => h56 (.inr (by omega))⟩
      rw [hne, cond_true]
      rfl
    · rw [hlenB c hc e]
      cases c.review
      · exact .inl rfl
      · exact .inr rfl
theorem specLoop {l : List Item} (hb : nameB l) {F : Nat} (hF : 4194304 < F) (s : ByteArray) (ha : spec_itList_p F l = some true) : ∀ (ys : List ByteArray) (pre : List Change) (k : Nat), (∀ y ∈ ys, y.size ≤ 1048576) → pre.length + ys.length ≤ 60 →
    ∃ r, spec_ParseHistory_l1 l s F ys k pre = some r ∧ (∀ h', (∀ c ∈ h', chgIn c) → ys.map toL = h'.map (fun c => lineL (chgL c)) → Good F l (pre ++ h') → toL s = textL ((pre ++ h').map chgL) → r = (pre ++ h', true)) ∧
      (r = ([], false) ∨ ∃ h, h.length ≤ 60 ∧ Good F l h ∧ toL s = textL (h.map chgL) ∧ r = (h, true)) := by
  intro ys
  induction ys with
  | nil =>
    intro pre k _ hl
    have hp : pre.length ≤ 60 := by simpa using hl
    rw [spec_ParseHistory_l1]
    obtain ⟨b, b1, b2, b3, a, a1, a2, a3, a4⟩ := isHistory_eq hb pre (by omega) F (by omega)
    obtain rfl : a = true := by rw [a2] at ha; exact Option.some.inj ha
    rw [bnd (a3 rfl)]
    cases b
    · simp only [Bool.not_false, Bool.not_true, opt_f, Option.bind_some, Bool.true_or, cond_true]
      refine ⟨_, rfl, fun h' _ e hg _ => ?_, .inl rfl⟩
      have : h' = [] := by cases h' with | nil => rfl | cons a t => simp at e
      subst this
      rw [List.append_nil] at hg
      rw [show impl_isHistory_p F l pre = some true from hg] at b1; cases b1
    · obtain ⟨t, t1, t2⟩ := hiText_eq (F := F) (by omega) pre hp (good_in hb (by omega) (by omega) b1).2.1
      simp only [Bool.not_true, Bool.not_false, opt_t, Bool.false_or]
      rw [bnd t1]
      by_cases hts : t = s
      · rw [decide_eq_true hts, Bool.not_true, cond_false]
        refine ⟨_, rfl, fun h' _ e hg _ => ?_, .inr ⟨pre, hp, b1, by rw [← hts, t2], rfl⟩⟩
        have : h' = [] := by cases h' with | nil => rfl | cons a t => simp at e
        subst this
        rw [List.append_nil]
      · rw [decide_eq_false hts, Bool.not_false, cond_true]
        refine ⟨_, rfl, fun h' _ e hg es => ?_, .inl rfl⟩
        have : h' = [] := by cases h' with | nil => rfl | cons a t => simp at e
        subst this
        rw [List.append_nil] at es
        exact absurd (toL_inj (t2.trans es.symm)) hts
  | cons y ys ih =>
    intro pre k hy hl
    have hp : pre.length ≤ 60 := by simp at hl; omega
    rcases lineS F hF y (hy y (by simp)) with ⟨h1, h2⟩ | ⟨c, h1, h3⟩
    · refine ⟨_, h1 l s pre ys k hp, fun h' hc e _ _ => ?_, .inl rfl⟩
      cases h' with
      | nil => simp at e
      | cons c' t =>
        simp only [List.map_cons, List.cons.injEq] at e
        exact absurd e.1 (h2 c' (hc c' (by simp)))
    · obtain ⟨r, r1, r2, r3⟩ := ih (pre ++ [c pre]) (k + 1) (fun z hz => hy z (by simp [hz])) (by simp at hl ⊢; omega)
      refine ⟨r, by rw [h1 l s pre ys k hp, r1], fun h' hc e hg es => ?_, r3⟩
      cases h' with
      | nil => simp at e
      | cons c' t =>
        simp only [List.map_cons, List.cons.injEq] at e
        have := h3 pre hp c' (hc c' (by simp)) e.1
        subst this
        have := r2 t (fun z hz => hc z (by simp [hz])) e.2 (by simpa using hg) (by simpa using es)
        simpa using this
theorem spec_reads {l : List Item} (hb : nameB l) (s : ByteArray) (hs : s.size ≤ 1048576) {F : Nat} (hF : 4194304 < F) : ∃ r, spec_ParseHistory_p F l s = some r ∧ Reads F l s r := by
  unfold spec_ParseHistory_p
  obtain ⟨x, x1, x2⟩ := l1Split_eq s (by omega) 10 F hF
  have x1 : spec_l1Split_p F s 10 = some x := x1
  obtain ⟨a, a1, a2, a3⟩ := items_same l hb F (by omega)
  rw [bnd x1, bnd a2]
  have hxl : x.length ≤ 1048577 := by
    have h1 := congrArg List.length x2
    rw [List.length_map, cutC_len] at h1
    have h2 : (toL s).count 10 ≤ (toL s).length := List.count_le_length
    have h3 : s.size = (toL s).length := Go.Lib.size_eq s
    omega
  obtain ⟨g, z, rfl⟩ : ∃ g z, x = g ++ [z] := by
    have hx : x ≠ [] := by intro e; rw [e] at x2; exact cutC_ne 10 _ x2.symm
    exact ⟨x.dropLast, x.getLast hx, (List.dropLast_concat_getLast hx).symm⟩
  have hkey : ∀ h : List Change, h.length ≤ 60 → Good F l h → toL s = textL (h.map chgL) → a = true ∧ g.map toL = h.map fun c => lineL (chgL c) := by
    intro h h60 hg e
    have hat : a = true := by
      have := (good_in hb (by omega) (by omega) hg).2.2.2.1
      rw [a2] at this; exact Option.some.inj this
    have hc := cut_text (h.map chgL)
    rw [← e, ← x2, List.map_append] at hc
    refine ⟨hat, ?_⟩
    have := (List.append_inj' hc rfl).1
    rw [this, List.map_map]; rfl
  cases hc : ((!a) || decide (((g ++ [z]).length : Int) > 61))
  · simp only [Bool.or_eq_false_iff, Bool.not_eq_false', decide_eq_false_iff_not] at hc
    obtain ⟨rfl, hl⟩ := hc
    rw [List.length_append, List.length_singleton] at hl
    rw [cond_false, bnd (sliceHi_pre g [z] (by rw [List.length_append, List.length_singleton, w64_in (by omega)]; omega))]
    obtain ⟨r, r1, r2, r3⟩ := specLoop hb hF s a2 g [] 0 (fun y hy => by
      have hm : toL y ∈ cutC 10 (toL s) := by rw [← x2]; exact List.mem_map_of_mem (List.mem_append_left _ hy)
      have := cut_size 10 _ _ hm
      have h1 : y.size = (toL y).length := Go.Lib.size_eq y
      have h2 : s.size = (toL s).length := Go.Lib.size_eq s
      omega) (by simp; omega)
    exact ⟨r, r1, fun h h60 hg e => r2 h (good_in hb (by omega) (by omega) hg).2.1 (hkey h h60 hg e).2 hg e, r3⟩
  · rw [cond_true]
    refine ⟨_, rfl, fun h h60 hg e => ?_, .inl rfl⟩
    obtain ⟨k1, k3⟩ := hkey h h60 hg e
    have hlen : g.length = h.length := by have := congrArg List.length k3; simpa using this
    rw [k1] at hc
    simp only [Bool.not_true, Bool.false_or, decide_eq_true_iff, List.length_append, List.length_singleton] at hc
    omega
theorem same_ParseHistory {l : List Item} (hb : nameB l) (s : ByteArray) (hs : s.size ≤ 1048576) {F : Nat} (hF : 4194304 < F) : ∃ r, spec_ParseHistory_p F l s = some r ∧ impl_ParseHistory_p F l s = some r ∧ r.1.length ≤ 61 := by
  obtain ⟨r, r1, r2⟩ := spec_reads hb s hs hF
  obtain ⟨q, q1, q2⟩ := impl_reads hb s hs (F := F) (by omega)
  obtain rfl := reads_one r2 q2
  refine ⟨r, r1, q1, ?_⟩
  rcases r2.2 with rfl | ⟨h, h60, _, _, rfl⟩
  · simp
  · show h.length ≤ 61; omega

end Go.Proofs.YtjbkbiofklgblaaGreatDoor

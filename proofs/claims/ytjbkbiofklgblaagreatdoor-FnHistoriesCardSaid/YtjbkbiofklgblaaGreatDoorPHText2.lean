/- Plain lemmas: what the functions compute is what the reference says, in plain Lean. No condition. -/
import Derived.Test.YtjbkbiofklgblaaGreatDoorPHText1
set_option maxRecDepth 4000
set_option maxHeartbeats 1000000
set_option linter.unusedVariables false
set_option linter.unusedSimpArgs false
set_option linter.unusedSectionVars false

namespace Go.Proofs.YtjbkbiofklgblaaGreatDoor
open Go.AM

theorem wrap_dig {b : UInt8} (h : 48 ≤ b.toNat ∧ b.toNat ≤ 57) : IntKind.wrap .i64 (IntKind.wrap .u8 ((b.toNat : Int) - 48)) = ((b.toNat - 48 : Nat) : Int) := by
  have : b.toNat = 48 ∨ b.toNat = 49 ∨ b.toNat = 50 ∨ b.toNat = 51 ∨ b.toNat = 52 ∨ b.toNat = 53 ∨ b.toNat = 54 ∨ b.toNat = 55 ∨ b.toNat = 56 ∨ b.toNat = 57 := by omega
  rcases this with h | h | h | h | h | h | h | h | h | h <;> rw [h] <;> decide
theorem val_lt : ∀ (n : Nat) (l : List UInt8), l.length = n → digL l → valL l < 10 ^ n := by
  intro n
  induction n with
  | zero => intro l hl _; rw [List.eq_nil_of_length_eq_zero hl]; decide
  | succ n ih =>
    intro l hl hd
    rcases List.eq_nil_or_concat l with rfl | ⟨m, b, rfl⟩
    · simp at hl
    simp only [List.concat_eq_append] at *
    rw [val_snoc]
    have h1 := ih m (by simp at hl; omega) fun x hx => hd x (by simp [hx])
    have h2 := hd b (by simp)
    rw [Nat.pow_succ]
    omega
theorem digs_l (s : ByteArray) (hs : s.size ≤ 12) : ∀ (m k i : Nat) (v : Int), i + m = s.size → m < k → v = (valL ((toL s).take i) : Int) → digL ((toL s).take i) →
    (digL (toL s) → impl_natural_l1 s k v i = some ((valL (toL s) : Int), true) ∧ spec_l1Read_l1 s k v i = some (valL (toL s) : Int)) ∧
    (¬ digL (toL s) → impl_natural_l1 s k v i = some (0, false) ∧ spec_l1Read_l1 s k v i = some (-1)) := by
  have hsz : s.size = (toL s).length := Go.Lib.size_eq s
  intro m
  induction m with
  | zero =>
    intro k i v h1 h2 hv hd
    obtain ⟨k, rfl⟩ := Nat.exists_eq_succ_of_ne_zero (by omega : k ≠ 0)
    have hall : (toL s).take i = toL s := List.take_of_length_le (by rw [← hsz]; omega)
    rw [hall] at hv hd
    rw [impl_natural_l1, spec_l1Read_l1, decide_eq_false (by omega), cond_false, cond_false, hv]
    exact ⟨fun _ => ⟨rfl, rfl⟩, fun h => absurd hd h⟩
  | succ m ih =>
    intro k i v h1 h2 hv hd
    obtain ⟨k, rfl⟩ := Nat.exists_eq_succ_of_ne_zero (by omega : k ≠ 0)
    have hlt : i < (toL s).length := by rw [← hsz]; omega
    rw [impl_natural_l1, spec_l1Read_l1, decide_eq_true (by omega), cond_true, cond_true, strI_of rfl, List.getElem?_eq_getElem hlt, Option.bind_some, Option.bind_some]
    by_cases hb : 48 ≤ (toL s)[i].toNat ∧ (toL s)[i].toNat ≤ 57
    · rw [decide_eq_false (by omega), decide_eq_false (by omega), Bool.or_false, cond_false, cond_false, wrap_dig hb]
      have hvl := val_lt i ((toL s).take i) (by rw [List.length_take]; omega) hd
      have hp : 10 ^ i ≤ 10 ^ 12 := Nat.pow_le_pow_right (by omega) (by omega)
      have ht : (toL s).take (i + 1) = (toL s).take i ++ [(toL s)[i]] := by rw [List.take_add_one, List.getElem?_eq_getElem hlt]; rfl
      have e1 : w64 (10 * v) = 10 * v := w64_in (by rw [hv]; omega)
      rw [e1, w64_in (by rw [hv]; omega), w64_in (by omega), show ((i : Int) + 1) = ((i + 1 : Nat) : Int) from by omega]
      refine ih k (i + 1) _ (by omega) (by omega) ?_ ?_
      · rw [ht, val_snoc, hv]; omega
      · rw [ht]
        intro x hx
        rcases List.mem_append.1 hx with hx | hx
        · exact hd x hx
        · rw [List.mem_singleton.1 hx]; exact hb
    · have hno : ¬ digL (toL s) := fun h => hb (h _ (List.getElem_mem hlt))
      have e : (decide (((toL s)[i].toNat : Int) < 48) || decide (((toL s)[i].toNat : Int) > 57)) = true := by
        rw [Bool.or_eq_true, decide_eq_true_iff, decide_eq_true_iff]; omega
      rw [e, cond_true, cond_true]
      exact ⟨fun h => absurd h hno, fun _ => ⟨rfl, rfl⟩⟩
theorem nil_iff (s : ByteArray) : s = ⟨#[]⟩ ↔ toL s = [] := ⟨fun h => by rw [h], fun h => toL_inj h⟩
theorem natural_eq (s : ByteArray) (hs : s.size ≤ 1048576) (F : Nat) (hF : 12 < F) : ∃ r, impl_natural_p F s = some r ∧ (r.2 = true ↔ canL (toL s) ∧ (toL s).length ≤ 12) ∧ (r.2 = true → r.1 = (valL (toL s) : Int)) := by
  have hsz : s.size = (toL s).length := Go.Lib.size_eq s
  unfold impl_natural_p
  by_cases h0 : s = ⟨#[]⟩
  · rw [decide_eq_true h0]
    simp only [Bool.true_or, Bool.not_true, Bool.false_and, opt_f, Option.bind_some, cond_true]
    exact ⟨_, rfl, ⟨fun h => by simp at h, fun h => absurd ((nil_iff s).1 h0) h.1.1⟩, fun h => by simp at h⟩
  have hne : toL s ≠ [] := fun h => h0 ((nil_iff s).2 h)
  rw [decide_eq_false h0, Bool.false_or]
  by_cases h12 : (s.size : Int) > 12
  · rw [decide_eq_true h12]
    simp only [Bool.true_or, Bool.not_true, Bool.false_and, opt_f, Option.bind_some, cond_true]
    exact ⟨_, rfl, ⟨fun h => by simp at h, fun h => absurd h.2 (by rw [← hsz]; omega)⟩, fun h => by simp at h⟩
  rw [decide_eq_false h12]
  simp only [Bool.not_false, Bool.true_and, Bool.false_or]
  have hpos : 0 < (toL s).length := List.length_pos_iff.2 hne
  have hl := digs_l s (by omega) s.size F 0 0 (by omega) (by omega) (by rfl) (by intro x hx; simp at hx)
  by_cases h1 : (s.size : Int) > 1
  · rw [decide_eq_true h1, opt_t, strI_of (i := 0) (k := 0) rfl, List.getElem?_eq_getElem hpos, Option.bind_some, Bool.true_and]
    have hhd : (toL s).head? = some (toL s)[0] := by rw [List.head?_eq_getElem?, List.getElem?_eq_getElem hpos]
    by_cases h48 : (toL s)[0] = 48
    · rw [h48, show (((48 : UInt8).toNat : Int) == 48) = true from rfl, cond_true]
      exact ⟨_, rfl, ⟨fun h => by simp at h, fun h => absurd (by rw [hhd, h48]) (h.1.2.2 (by rw [← hsz]; omega))⟩, fun h => by simp at h⟩
    · rw [show (((toL s)[0].toNat : Int) == 48) = false from by rw [beq_eq_false_iff_ne]; intro e; exact h48 (UInt8.toNat_inj.1 (by show _ = 48; omega)), cond_false]
      by_cases hd : digL (toL s)
      · exact ⟨_, (hl.1 hd).1, ⟨fun _ => ⟨⟨hne, hd, fun _ h => h48 (by rw [hhd] at h; exact Option.some.inj h)⟩, by rw [← hsz]; omega⟩, fun _ => rfl⟩, fun _ => rfl⟩
      · exact ⟨_, (hl.2 hd).1, ⟨fun h => by simp at h, fun h => absurd h.1.2.1 hd⟩, fun h => by simp at h⟩
  · rw [decide_eq_false h1, opt_f, Option.bind_some, Bool.false_and, cond_false]
    by_cases hd : digL (toL s)
    · exact ⟨_, (hl.1 hd).1, ⟨fun _ => ⟨⟨hne, hd, fun h => by rw [← hsz] at h; omega⟩, by rw [← hsz]; omega⟩, fun _ => rfl⟩, fun _ => rfl⟩
    · exact ⟨_, (hl.2 hd).1, ⟨fun h => by simp at h, fun h => absurd h.1.2.1 hd⟩, fun h => by simp at h⟩
theorem l1Read_eq (s : ByteArray) (hs : s.size ≤ 1048576) (F : Nat) (hF : 12 < F) : ∃ v, spec_l1Read_p F s = some v ∧ (canL (toL s) → (toL s).length ≤ 6 → v = (valL (toL s) : Int)) := by
  have hsz : s.size = (toL s).length := Go.Lib.size_eq s
  unfold spec_l1Read_p
  obtain ⟨b, b1, b2⟩ := ret_l1In (s.size : Int) 1 6
  rw [bnd b1]
  cases b
  · simp only [Bool.not_false, Bool.not_true, opt_f, Option.bind_some, Bool.true_or, cond_true]
    refine ⟨_, rfl, fun h h6 => ?_⟩
    have hpos := List.length_pos_iff.2 h.1
    have := b2.2 (by omega)
    cases this
  · have hr := b2.1 rfl
    have hpos : 0 < (toL s).length := by omega
    simp only [Bool.not_true, Bool.not_false, opt_t, Bool.false_or]
    rw [strI_of (i := 0) (k := 0) rfl, List.getElem?_eq_getElem hpos, Option.bind_some]
    have hl := digs_l s (by omega) s.size F 0 0 (by omega) (by omega) (by rfl) (by intro x hx; simp at hx)
    have hhd : (toL s).head? = some (toL s)[0] := by rw [List.head?_eq_getElem?, List.getElem?_eq_getElem hpos]
    cases hc : ((((toL s)[0].toNat : Int) == 48) && decide ((s.size : Int) > 1))
    · rw [cond_false]
      by_cases hd : digL (toL s)
      · exact ⟨_, (hl.1 hd).2, fun _ _ => rfl⟩
      · exact ⟨_, (hl.2 hd).2, fun h => absurd h.2.1 hd⟩
    · rw [cond_true]
      rw [Bool.and_eq_true, beq_iff_eq, decide_eq_true_iff] at hc
      refine ⟨_, rfl, fun h _ => absurd ?_ (h.2.2 (by omega))⟩
      rw [hhd, show (toL s)[0] = 48 from UInt8.toNat_inj.1 (by show _ = 48; omega)]
theorem cutPrefix_eq (s : ByteArray) (hs : s.size ≤ 1048576) : ∃ x, strings_CutPrefix_p s ⟨#[45]⟩ = some x ∧ (x = (s, false) ∨ (x.2 = true ∧ (toL s).head? = some 45 ∧ x.1.size ≤ 1048576)) := by
  have hsz : s.size = (toL s).length := Go.Lib.size_eq s
  unfold strings_CutPrefix_p stringslite_CutPrefix_p stringslite_HasPrefix_p
  have h45 : (⟨#[45]⟩ : ByteArray).size = 1 := rfl
  rw [h45]
  by_cases h1 : (s.size : Int) ≥ ((1 : Nat) : Int)
  · rw [decide_eq_true h1, opt_t, show inB 0 ((1 : Nat) : Int) s.size = true from by unfold inB; simp; omega, need_t, Option.bind_some, Option.bind_some, Bool.true_and]
    by_cases he : ByteArray.extract s 0 (((1 : Nat) : Int)).toNat = ⟨#[45]⟩
    · rw [decide_eq_true he, Bool.not_true, cond_false, show inB ((1 : Nat) : Int) s.size s.size = true from by unfold inB; simp; omega, need_t, Option.bind_some, Option.bind_some]
      refine ⟨_, rfl, .inr ⟨rfl, ?_, ?_⟩⟩
      · have := congrArg toL he
        rw [show toL (ByteArray.extract s 0 (((1 : Nat) : Int)).toNat) = ((toL s).drop 0).take (1 - 0) from Go.Lib.extract_data s 0 1] at this
        cases hq : toL s with
        | nil => rw [hq] at this; cases this
        | cons a t =>
          rw [hq] at this
          have h2 : [a] = [45] := this
          rw [(List.cons.inj h2).1]; rfl
      · show (ByteArray.extract s (((1 : Nat) : Int)).toNat s.size).size ≤ _
        rw [Go.Lib.size_eq, Go.Lib.extract_data, List.length_take, List.length_drop, ← hsz]; omega
    · rw [decide_eq_false he, Bool.not_false, cond_true, Option.bind_some]
      exact ⟨_, rfl, .inl rfl⟩
  · rw [decide_eq_false h1, opt_f, Option.bind_some, Bool.false_and, Option.bind_some, Bool.not_false, cond_true, Option.bind_some]
    exact ⟨_, rfl, .inl rfl⟩
theorem integer_eq (s : ByteArray) (hs : s.size ≤ 1048576) (F : Nat) (hF : 12 < F) : ∃ r, impl_integer_p F s = some r ∧ (r.2 = true → 0 ≤ r.1 → canL (toL s) ∧ r.1 = (valL (toL s) : Int)) ∧ (canL (toL s) → (toL s).length ≤ 12 → r = ((valL (toL s) : Int), true)) := by
  unfold impl_integer_p
  obtain ⟨x, x1, x2⟩ := cutPrefix_eq s hs
  rw [bnd x1]
  rcases x2 with rfl | ⟨x2, x3, x4⟩
  · obtain ⟨r, r1, r2, r3⟩ := natural_eq s hs F hF
    rw [bnd r1]
    simp only [Bool.false_and, Bool.or_false, cond_false]
    cases hr : r.2
    · rw [Bool.not_false, cond_true]
      exact ⟨_, rfl, fun h => by simp at h, fun h1 h2 => by rw [r2.2 ⟨h1, h2⟩] at hr; cases hr⟩
    · rw [Bool.not_true, cond_false]
      exact ⟨_, rfl, fun _ _ => ⟨(r2.1 hr).1, r3 hr⟩, fun _ _ => by rw [r3 hr]⟩
  · obtain ⟨r, r1, r2, r3⟩ := natural_eq x.1 x4 F hF
    have hno : ¬ canL (toL s) := fun h => by
      have := h.2.1 45 (List.mem_of_mem_head? (by rw [x3]; rfl))
      simp at this
    rw [bnd r1, x2]
    simp only [Bool.true_and, cond_true]
    cases hc : ((!r.2) || (r.1 == 0))
    · rw [cond_false]
      rw [Bool.or_eq_false_iff, Bool.not_eq_false', beq_eq_false_iff_ne] at hc
      have hv := r3 hc.1
      have hl := (r2.1 hc.1)
      have hlt := val_lt _ (toL x.1) rfl hl.1.2.1
      have hp : 10 ^ (toL x.1).length ≤ 10 ^ 12 := Nat.pow_le_pow_right (by omega) hl.2
      refine ⟨_, rfl, fun _ h => ?_, fun h => absurd h hno⟩
      exfalso
      have h0 := hc.2
      rw [hv] at h h0
      rw [w64_in (by omega)] at h
      omega
    · rw [cond_true]
      exact ⟨_, rfl, fun h => by simp at h, fun h => absurd h hno⟩
theorem cutSuffix_eq (s : ByteArray) (hs : s.size ≤ 1048576) : ∃ x, strings_CutSuffix_p s ⟨#[32, 114, 101, 118, 105, 101, 119]⟩ = some x ∧ x.1.size ≤ s.size ∧
    ((x.2 = true ∧ toL s = toL x.1 ++ 32 :: revL) ∨ (x = (s, false) ∧ ∀ p, toL s ≠ p ++ 32 :: revL)) := by
  have hsz : s.size = (toL s).length := Go.Lib.size_eq s
  unfold strings_CutSuffix_p stringslite_CutSuffix_p stringslite_HasSuffix_p
  have h7 : (⟨#[32, 114, 101, 118, 105, 101, 119]⟩ : ByteArray).size = 7 := rfl
  have hr7 : (32 :: revL).length = 7 := rfl
  rw [h7]
  by_cases h1 : (s.size : Int) ≥ ((7 : Nat) : Int)
  · have hn : w64 ((s.size : Int) - ((7 : Nat) : Int)) = ((s.size - 7 : Nat) : Int) := by rw [w64_in (by omega)]; omega
    rw [decide_eq_true h1, opt_t, hn, show inB ((s.size - 7 : Nat) : Int) s.size s.size = true from by unfold inB; simp, need_t, Option.bind_some, Option.bind_some, Bool.true_and, Int.toNat_natCast]
    have hex : toL (ByteArray.extract s (s.size - 7) s.size) = (toL s).drop (s.size - 7) := Go.Lib.extract_to_end s (s.size - 7)
    by_cases he : ByteArray.extract s (s.size - 7) s.size = ⟨#[32, 114, 101, 118, 105, 101, 119]⟩
    · rw [decide_eq_true he, Bool.not_true, cond_false, show inB 0 ((s.size - 7 : Nat) : Int) s.size = true from by unfold inB; simp, need_t, Option.bind_some, Option.bind_some]
      have hx : toL (ByteArray.extract s 0 (s.size - 7)) = (toL s).take (s.size - 7) := by
        rw [show toL (ByteArray.extract s 0 (s.size - 7)) = _ from Go.Lib.extract_data s 0 (s.size - 7)]; rw [List.drop_zero, Nat.sub_zero]
      refine ⟨_, rfl, ?_, .inl ⟨rfl, ?_⟩⟩
      · show (ByteArray.extract s 0 (s.size - 7)).size ≤ _
        rw [Go.Lib.size_eq, show (ByteArray.extract s 0 (s.size - 7)).data.toList = _ from hx, List.length_take]; omega
      · show toL s = toL (ByteArray.extract s 0 (s.size - 7)) ++ _
        rw [hx]
        have h2 := congrArg toL he
        rw [hex] at h2
        have h3 := List.take_append_drop (s.size - 7) (toL s)
        rw [h2] at h3
        exact h3.symm
    · rw [decide_eq_false he, Bool.not_false, cond_true, Option.bind_some]
      refine ⟨_, rfl, Nat.le_refl _, .inr ⟨rfl, fun p hp => he (toL_inj ?_)⟩⟩
      rw [hex, hp]
      have hl := congrArg List.length hp
      rw [List.length_append, hr7, ← hsz] at hl
      rw [show s.size - 7 = p.length from by omega, List.drop_left]
      rfl
  · rw [decide_eq_false h1, opt_f, Option.bind_some, Bool.false_and, Option.bind_some, Bool.not_false, cond_true, Option.bind_some]
    refine ⟨_, rfl, Nat.le_refl _, .inr ⟨rfl, fun p hp => ?_⟩⟩
    have hl := congrArg List.length hp
    rw [List.length_append, hr7, ← hsz] at hl
    omega

end Go.Proofs.YtjbkbiofklgblaaGreatDoor

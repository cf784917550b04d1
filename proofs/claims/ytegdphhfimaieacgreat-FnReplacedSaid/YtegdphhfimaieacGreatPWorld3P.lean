/- Plain lemmas: what the functions compute is what the reference says, in plain Lean. No condition. -/
import Derived.Test.YtegdphhfimaieacGreatPWorld2
set_option maxRecDepth 4000
set_option maxHeartbeats 1000000
set_option linter.unusedVariables false
set_option linter.unusedSimpArgs false
set_option linter.unusedSectionVars false

namespace Go.Proofs.YtegdphhfimaieacGreat
open Go.AM

theorem lt_mem_eq : ∀ {l m : List Int}, l.Pairwise (· < ·) → m.Pairwise (· < ·) → (∀ x, x ∈ l ↔ x ∈ m) → l = m
  | [], [], _, _, _ => rfl
  | [], y :: m, _, _, h => by have := (h y).2 (by simp); simp at this
  | x :: l, [], _, _, h => by have := (h x).1 (by simp); simp at this
  | x :: l, y :: m, hl, hm, h => by
    have h1 := List.pairwise_cons.1 hl
    have h2 := List.pairwise_cons.1 hm
    have e : x = y := by
      have a := (h x).1 (by simp); have b := (h y).2 (by simp)
      rcases List.mem_cons.1 a with a | a
      · exact a
      · rcases List.mem_cons.1 b with b | b
        · exact b.symm
        · have := h2.1 x a; have := h1.1 y b; omega
    subst e
    rw [lt_mem_eq h1.2 h2.2 fun z => ?_]
    constructor
    · intro hz
      rcases List.mem_cons.1 ((h z).1 (by simp [hz])) with r | r
      · have := h1.1 z hz; omega
      · exact r
    · intro hz
      rcases List.mem_cons.1 ((h z).2 (by simp [hz])) with r | r
      · have := h2.1 z hz; omega
      · exact r
theorem put_l (l : List Int) (n : Int) (hb : l.length ≤ 1000000) : ∀ (ys pre : List Int) (fuel : Nat), ys.length < fuel → l = pre ++ ys → (∀ x ∈ pre, x < n) →
    ∃ k : Nat, spec_l1Put_l1 l n fuel (pre.length : Int) = some (k : Int) ∧ k ≤ l.length ∧ (∀ x ∈ l.take k, x < n) ∧ (∀ x, l[k]? = some x → ¬ x < n) := by
  intro ys
  induction ys with
  | nil =>
    intro pre fuel hf h1 h2
    obtain ⟨f, rfl⟩ := Nat.exists_eq_succ_of_ne_zero (by omega : fuel ≠ 0)
    rw [List.append_nil] at h1
    rw [spec_l1Put_l1, decide_eq_false (by rw [h1]; omega)]
    simp only [opt_f, Option.bind_some, Bool.false_and, cond_false]
    refine ⟨pre.length, rfl, by rw [h1]; exact Nat.le_refl _, fun x hx => h2 x (by rw [← h1]; exact List.mem_of_mem_take hx), fun x hx => ?_⟩
    have := (List.getElem?_eq_some_iff.1 hx).1; rw [h1] at this; omega
  | cons y ys ih =>
    intro pre fuel hf h1 h2
    obtain ⟨f, rfl⟩ := Nat.exists_eq_succ_of_ne_zero (by omega : fuel ≠ 0)
    have hlt : pre.length < l.length := by rw [h1]; simp
    rw [spec_l1Put_l1, decide_eq_true (by omega)]
    simp only [opt_t, Bool.true_and]
    rw [bnd (getI_app h1 rfl)]
    by_cases h : y < n
    · rw [decide_eq_true h, cond_true, w64_in (by omega)]
      have := ih (pre ++ [y]) f (by simp at hf; omega) (by rw [h1]; simp) (by
        intro x hx; rcases List.mem_append.1 hx with hx | hx
        · exact h2 x hx
        · obtain rfl := List.mem_singleton.1 hx; exact h)
      simpa using this
    · rw [decide_eq_false h, cond_false]
      refine ⟨pre.length, rfl, by omega, fun x hx => ?_, fun x hx => ?_⟩
      · rw [h1, List.take_left'] at hx
        · exact h2 x hx
        · rfl
      · rw [h1] at hx; simp at hx; subst hx; exact h
theorem put_eq (l : List Int) (n : Int) (hs : l.Pairwise (· < ·)) (hb : l.length ≤ 999999) (fuel : Nat) (hf : 1048576 < fuel) : ∃ l', spec_l1Put_p fuel l n = some l' ∧ l'.Pairwise (· < ·) ∧ (∀ x, x ∈ l' ↔ x ∈ l ∨ x = n) ∧ l'.length ≤ l.length + 1 := by
  obtain ⟨k, h1, h2, h3, h4⟩ := put_l l n (by omega) l [] fuel (by omega) rfl (by simp)
  unfold spec_l1Put_p
  rw [bnd (show spec_l1Put_l1 l n fuel 0 = some (k : Int) from h1)]
  have hsp : l = l.take k ++ l.drop k := (List.take_append_drop k l).symm
  have ins : (∀ x ∈ l.drop k, n < x) → ∃ l', ((need (inB 0 (k : Int) l.length)).bind fun u25 =>
      (need (fitsB 8 ((((List.drop 0 l).take (k : Int).toNat)).length))).bind fun u27 =>
      (need (fitsB 8 ((((List.drop 0 l).take (k : Int).toNat)).length + ([n]).length))).bind fun u29 =>
      (need (inB (k : Int) l.length l.length)).bind fun u31 =>
      (need (fitsB 8 (((((List.drop 0 l).take (k : Int).toNat) ++ [n])).length + (((List.drop (k : Int).toNat l).take (l.length - (k : Int).toNat))).length))).bind fun u33 =>
      some ((((List.drop 0 l).take (k : Int).toNat) ++ [n]) ++ ((List.drop (k : Int).toNat l).take (l.length - (k : Int).toNat)))) = some l' ∧ l'.Pairwise (· < ·) ∧ (∀ x, x ∈ l' ↔ x ∈ l ∨ x = n) ∧ l'.length ≤ l.length + 1 := by
    intro hgt
    have e1 : List.take ((k : Int)).toNat (List.drop 0 l) = l.take k := by simp
    have e2 : List.take (l.length - ((k : Int)).toNat) (List.drop ((k : Int)).toNat l) = l.drop k := by rw [Int.toNat_natCast]; exact List.take_of_length_le (by simp)
    have i1 : inB 0 (k : Int) (l.length : Int) = true := by simp only [inB, Bool.and_eq_true, decide_eq_true_eq]; omega
    have i2 : inB (k : Int) (l.length : Int) (l.length : Int) = true := by simp only [inB, Bool.and_eq_true, decide_eq_true_eq]; omega
    rw [e1, e2, i1, i2, need_t, Option.bind_some, bnd (x := ()) (by rw [fits_of (by simp; omega)]; rfl), bnd (x := ()) (by rw [fits_of (by simp; omega)]; rfl), Option.bind_some, bnd (x := ()) (by rw [fits_of (by simp; omega)]; rfl)]
    refine ⟨_, rfl, ?_, ?_, by simp; omega⟩
    · have hs' := hs
      rw [hsp] at hs'
      have := List.pairwise_append.1 hs'
      rw [List.append_assoc, List.singleton_append, List.pairwise_append]
      refine ⟨this.1, List.pairwise_cons.2 ⟨hgt, this.2.1⟩, fun a ha b hb => ?_⟩
      rcases List.mem_cons.1 hb with rfl | hb
      · exact h3 a ha
      · exact this.2.2 a ha b hb
    · intro x
      have : x ∈ l ↔ x ∈ l.take k ∨ x ∈ l.drop k := by rw [← List.mem_append, List.take_append_drop]
      rw [this]; simp only [List.mem_append, List.mem_singleton]
      constructor
      · rintro ((h | h) | h) <;> simp [h]
      · rintro ((h | h) | h) <;> simp [h]
  by_cases hk : k < l.length
  · rw [decide_eq_true (by omega)]
    simp only [opt_t, Bool.true_and]
    have hx := List.getElem?_eq_getElem hk
    rw [bnd (getI_lt_some hk)]
    have hge := h4 _ hx
    have hdrop : l.drop k = l[k] :: l.drop (k + 1) := List.drop_eq_getElem_cons hk
    generalize hz : l[k] = z at hx hge hdrop ⊢
    have hzm : z ∈ l := List.mem_of_getElem? hx
    by_cases he : z = n
    · rw [show (z == n) = true from by simp [he], cond_true]
      refine ⟨l, rfl, hs, fun x => ⟨fun h => .inl h, fun h => h.elim id (fun e => ?_)⟩, by omega⟩
      rw [e, ← he]; exact hzm
    · rw [show (z == n) = false from by simpa using he, cond_false]
      refine ins fun x hx' => ?_
      rw [hdrop] at hx'
      have hs' := hs
      rw [hsp, hdrop] at hs'
      have := (List.pairwise_append.1 hs').2.1
      rcases List.mem_cons.1 hx' with rfl | hx'
      · omega
      · have := (List.pairwise_cons.1 this).1 x hx'; omega
  · rw [decide_eq_false (by omega)]
    simp only [opt_f, Option.bind_some, Bool.false_and, cond_false]
    refine ins fun x hx' => ?_
    rw [List.drop_of_length_le (by omega)] at hx'; simp at hx'

end Go.Proofs.YtegdphhfimaieacGreat

/- Plain lemmas: what the functions compute is what the reference says, in plain Lean. No condition. -/
import Derived.Test.YtjbkbiofklgblaaGreatDoorPHistory6
set_option maxRecDepth 4000
set_option maxHeartbeats 1000000
set_option linter.unusedVariables false
set_option linter.unusedSimpArgs false
set_option linter.unusedSectionVars false

namespace Go.Proofs.YtjbkbiofklgblaaGreatDoor
open Go.AM

abbrev toL (s : ByteArray) : List UInt8 := s.data.toList
theorem toL_inj {s t : ByteArray} (h : toL s = toL t) : s = t := ByteArray.ext (Array.ext' h)
def cutC (c : UInt8) : List UInt8 → List (List UInt8)
  | [] => [[]]
  | b :: l => if b = c then [] :: cutC c l else match cutC c l with | [] => [[b]] | h :: t => (b :: h) :: t
theorem cutC_len (c : UInt8) : ∀ l : List UInt8, (cutC c l).length = l.count c + 1
  | [] => rfl
  | b :: l => by
    have ih := cutC_len c l
    unfold cutC
    by_cases h : b = c
    · subst h; rw [if_pos rfl, List.length_cons, ih, List.count_cons_self]
    · rw [if_neg h, List.count_cons_of_ne (by simpa using h)]
      split
      · rename_i e; rw [e] at ih; simp at ih
      · rename_i x t e; rw [e] at ih; simpa using ih
theorem cutC_none (c : UInt8) : ∀ l : List UInt8, (∀ x ∈ l, x ≠ c) → cutC c l = [l]
  | [], _ => rfl
  | b :: l, h => by
    unfold cutC
    rw [if_neg (h b (by simp)), cutC_none c l fun x hx => h x (by simp [hx])]
theorem cutC_hit (c : UInt8) (m : List UInt8) : ∀ l : List UInt8, (∀ x ∈ l, x ≠ c) → cutC c (l ++ c :: m) = l :: cutC c m
  | [], _ => by rw [List.nil_append, cutC, if_pos rfl]
  | b :: l, h => by
    rw [List.cons_append, cutC, if_neg (h b (by simp)), cutC_hit c m l fun x hx => h x (by simp [hx])]
theorem split_cut (c : UInt8) : ∀ (n : Nat) (s : List UInt8), s.length ≤ n → Go.Lib.split s [c] = cutC c s := by
  intro n
  induction n with
  | zero =>
    intro s h
    obtain rfl : s = [] := List.length_eq_zero_iff.1 (by omega)
    have h1 : Go.Lib.index [] [c] = -1 := by rw [Go.Lib.index_one]; rfl
    unfold Go.Lib.split
    rw [Go.Lib.count_miss h1]; rfl
  | succ n ih =>
    intro s hs
    have hi := Go.Lib.index_one s c
    by_cases h : Go.Lib.indexByte s c = -1
    · unfold Go.Lib.split
      rw [h] at hi
      rw [Go.Lib.count_miss hi]
      rw [cutC_none c s fun x hx e => by
        obtain ⟨k, hk⟩ := List.getElem?_of_mem hx
        exact Go.Lib.indexByte_none h k (e ▸ hk)]
      rfl
    · have hge := Go.Lib.indexByte_ge s c
      obtain ⟨o, ho⟩ : ∃ o : Nat, Go.Lib.indexByte s c = o := ⟨(Go.Lib.indexByte s c).toNat, by omega⟩
      obtain ⟨q1, q2⟩ := Go.Lib.indexByte_some ho
      rw [ho] at hi
      have hlt : o < s.length := (List.getElem?_eq_some_iff.1 q1).1
      have e : s = s.take o ++ c :: s.drop (o + 1) := by
        have := List.take_append_drop o s
        rw [List.drop_eq_getElem_cons hlt, (List.getElem?_eq_some_iff.1 q1).2] at this
        exact this.symm
      have hr := ih (s.drop (o + 1)) (by rw [List.length_drop]; omega)
      have hc : cutC c s = s.take o :: cutC c (s.drop (o + 1)) := by
        conv => lhs; rw [e]
        exact cutC_hit c _ _ fun x hx e => by
          obtain ⟨k, hk⟩ := List.getElem?_of_mem hx
          have hk2 := (List.getElem?_eq_some_iff.1 hk).1
          rw [List.length_take] at hk2
          rw [List.getElem?_take, if_pos (by omega)] at hk
          exact q2 k (by omega) (e ▸ hk)
      rw [hc, ← hr]
      unfold Go.Lib.split
      rw [Go.Lib.count_hit (by simp) hi, Nat.add_comm, Go.Lib.splitK, if_neg (by rw [hi]; simp), hi]
      simp
theorem splitS_cut (s : ByteArray) (c : UInt8) : (splitS s ⟨#[c]⟩).map toL = cutC c (toL s) := by
  have := Go.Lib.splitB_data ⟨#[c]⟩ 0 (Go.Lib.countB s ⟨#[c]⟩) s
  exact this.trans (split_cut c (toL s).length (toL s) (Nat.le_refl _))
theorem get_toL (s : ByteArray) (i : Nat) : s[i]? = (toL s)[i]? := by
  by_cases h : i < s.size
  · rw [ByteArray.getElem?_lt' s i h, List.getElem?_eq_getElem (by rw [← Go.Lib.size_eq]; exact h)]
    rfl
  · rw [ByteArray.getElem?_ge' s i h, List.getElem?_eq_none (by rw [← Go.Lib.size_eq]; omega)]
theorem strI_of {s : ByteArray} {i : Int} {k : Nat} (h : i = (k : Int)) : strI s i = (toL s)[k]? := by
  subst h; unfold strI; rw [if_pos (by omega), Int.toNat_natCast, get_toL]
theorem l1Split_l (s : ByteArray) (hn : s.size ≤ 4194304) (c : UInt8) : ∀ (m k i fr : Nat) (out : List ByteArray), i + m = s.size → m < k → fr ≤ i → (∀ x ∈ ((toL s).drop fr).take (i - fr), x ≠ c) → out.length + m ≤ 4194304 →
    ∃ r, spec_l1Split_l1 s ((c.toNat : Nat) : Int) k out (fr : Int) (i : Int) = some (out ++ r) ∧ r.map toL = cutC c ((toL s).drop fr) := by
  have hsz := Go.Lib.size_eq s
  intro m
  induction m with
  | zero =>
    intro k i fr out h1 h2 h3 h4 h5
    obtain ⟨k, rfl⟩ := Nat.exists_eq_succ_of_ne_zero (by omega : k ≠ 0)
    rw [spec_l1Split_l1, decide_eq_false (by omega), cond_false, show inB (fr : Int) s.size s.size = true from by unfold inB; simp; omega, need_t, Option.bind_some, fits_of (by simp; omega), need_t, Option.bind_some]
    refine ⟨_, rfl, ?_⟩
    rw [cutC_none c _ fun x hx => h4 x (by rw [List.take_of_length_le (by rw [List.length_drop, ← hsz]; omega)]; exact hx)]
    simp only [List.map_cons, List.map_nil, Int.toNat_natCast]
    exact congrArg (fun x => [x]) (Go.Lib.extract_to_end s fr)
  | succ m ih =>
    intro k i fr out h1 h2 h3 h4 h5
    obtain ⟨k, rfl⟩ := Nat.exists_eq_succ_of_ne_zero (by omega : k ≠ 0)
    have hlt : i < (toL s).length := by rw [← hsz]; omega
    rw [spec_l1Split_l1, decide_eq_true (by omega), cond_true, strI_of rfl, List.getElem?_eq_getElem hlt, Option.bind_some, w64_in (by omega)]
    by_cases hx : (toL s)[i] = c
    · rw [hx, show ((c.toNat : Int) == ((c.toNat : Nat) : Int)) = true from beq_self_eq_true _, cond_true, show inB (fr : Int) (i : Int) s.size = true from by unfold inB; simp; omega, need_t, Option.bind_some, fits_of (by simp; omega), need_t, Option.bind_some]
      obtain ⟨r, r1, r2⟩ := ih k (i + 1) (i + 1) (out ++ [ByteArray.extract s (fr : Int).toNat (i : Int).toNat]) (by omega) (by omega) (Nat.le_refl _) (by simp) (by simp; omega)
      refine ⟨ByteArray.extract s fr i :: r, ?_, ?_⟩
      · rw [show ((i : Int) + 1) = ((i + 1 : Nat) : Int) from by omega, r1]; simp
      · have hp : toL (ByteArray.extract s fr i) = ((toL s).drop fr).take (i - fr) := Go.Lib.extract_data s fr i
        rw [List.map_cons, r2, hp]
        have e : (toL s).drop fr = ((toL s).drop fr).take (i - fr) ++ c :: (toL s).drop (i + 1) := by
          have := List.take_append_drop (i - fr) ((toL s).drop fr)
          rw [List.drop_drop, show fr + (i - fr) = i from by omega, List.drop_eq_getElem_cons hlt, hx] at this
          exact this.symm
        conv => rhs; rw [e]
        rw [cutC_hit c _ _ h4]
    · rw [show (((toL s)[i].toNat : Int) == ((c.toNat : Nat) : Int)) = false from by
        rw [beq_eq_false_iff_ne]; intro e; exact hx (UInt8.toNat_inj.1 (by omega)), cond_false, show ((i : Int) + 1) = ((i + 1 : Nat) : Int) from by omega]
      refine ih k (i + 1) fr out (by omega) (by omega) (by omega) (fun x hxm => ?_) (by omega)
      rw [show i + 1 - fr = (i - fr) + 1 from by omega, List.take_add_one, List.mem_append] at hxm
      rcases hxm with hxm | hxm
      · exact h4 x hxm
      · rw [List.getElem?_drop, show fr + (i - fr) = i from by omega, List.getElem?_eq_getElem hlt] at hxm
        simp at hxm
        rw [hxm]; exact hx
theorem l1Split_eq (s : ByteArray) (hn : s.size ≤ 4194304) (c : UInt8) (fuel : Nat) (hf : 4194304 < fuel) : ∃ r, spec_l1Split_p fuel s ((c.toNat : Nat) : Int) = some r ∧ r.map toL = cutC c (toL s) := by
  obtain ⟨r, r1, r2⟩ := l1Split_l s hn c s.size fuel 0 0 [] (by omega) (by omega) (Nat.le_refl _) (by simp) (by simp; omega)
  exact ⟨r, r1, r2⟩

end Go.Proofs.YtjbkbiofklgblaaGreatDoor

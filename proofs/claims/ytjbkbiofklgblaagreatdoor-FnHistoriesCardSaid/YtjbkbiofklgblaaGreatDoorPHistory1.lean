/- Plain lemmas: what the functions compute is what the reference says, in plain Lean. No condition. -/
import Derived.Test.YtjbkbiofklgblaaGreatDoorPWorld1
set_option maxRecDepth 4000
set_option maxHeartbeats 1000000
set_option linter.unusedVariables false
set_option linter.unusedSimpArgs false
set_option linter.unusedSectionVars false

namespace Go.Proofs.YtjbkbiofklgblaaGreatDoor
open Go.AM

theorem mget_put (k : Int × Int) (v : Bool) (k' : Int × Int) : ∀ l : MapL, mget (mput l k v) k' = if k' = k then v else mget l k' := by
  intro l
  induction l with
  | nil =>
    by_cases h : k' = k
    · subst h; simp [mput, mget]
    · have h' : ¬ k = k' := fun e => h e.symm
      simp [mput, mget, h, h']
  | cons x l ih =>
    by_cases h : x.1 = k
    · rw [show mput (x :: l) k v = (k, v) :: l from if_pos h]
      by_cases h2 : k' = k
      · subst h2; simp [mget]
      · have h3 : ¬ k = k' := fun e => h2 e.symm
        have h4 : ¬ x.1 = k' := fun e => h3 (h.symm.trans e)
        simp [mget, h2, h3, h4]
    · rw [show mput (x :: l) k v = x :: mput l k v from if_neg h]
      by_cases h2 : x.1 = k'
      · have h3 : ¬ k' = k := fun e => h (h2.trans e)
        simp [mget, h2, h3]
      · simp only [mget, if_neg h2, ih]
theorem mput_keys (k : Int × Int) (v : Bool) : ∀ l : MapL, (mput l k v).map (·.1) = if k ∈ l.map (·.1) then l.map (·.1) else l.map (·.1) ++ [k] := by
  intro l
  induction l with
  | nil => simp [mput]
  | cons x l ih =>
    by_cases h : x.1 = k
    · rw [show mput (x :: l) k v = (k, v) :: l from if_pos h, List.map_cons, List.map_cons, h, if_pos (by simp)]
    · rw [show mput (x :: l) k v = x :: mput l k v from if_neg h, List.map_cons, ih, List.map_cons]
      have h' : ¬ k = x.1 := fun e => h e.symm
      by_cases h2 : k ∈ l.map (·.1)
      · rw [if_pos h2, if_pos (by simp only [List.mem_cons]; exact .inr h2)]
      · rw [if_neg h2, if_neg (by simp only [List.mem_cons]; rintro (e | e); exact h' e; exact h2 e), List.cons_append]
theorem mget_no (k : Int × Int) : ∀ l : MapL, k ∉ l.map (·.1) → mget l k = false := by
  intro l
  induction l with
  | nil => intro _; rfl
  | cons x l ih =>
    intro h
    simp only [List.map_cons, List.mem_cons, not_or] at h
    rw [show mget (x :: l) k = mget l k from if_neg fun e => h.1 e.symm]
    exact ih h.2
theorem mdel_sub (k : Int × Int) : ∀ l : MapL, (mdel l k).Sublist l := by
  intro l
  induction l with
  | nil => exact List.Sublist.refl _
  | cons x l ih =>
    by_cases h : x.1 = k
    · rw [show mdel (x :: l) k = l from if_pos h]; exact List.sublist_cons_self _ _
    · rw [show mdel (x :: l) k = x :: mdel l k from if_neg h]; exact ih.cons_cons _
theorem mget_del (k k' : Int × Int) : ∀ l : MapL, (l.map (·.1)).Nodup → mget (mdel l k) k' = if k' = k then false else mget l k' := by
  intro l
  induction l with
  | nil => intro _; simp [mdel, mget]
  | cons x l ih =>
    intro hn
    simp only [List.map_cons, List.nodup_cons] at hn
    by_cases h : x.1 = k
    · rw [show mdel (x :: l) k = l from if_pos h]
      by_cases h2 : k' = k
      · rw [if_pos h2]; exact mget_no k' l (by rw [h2, ← h]; exact hn.1)
      · rw [if_neg h2, show mget (x :: l) k' = mget l k' from if_neg fun e => h2 (e.symm.trans h)]
    · rw [show mdel (x :: l) k = x :: mdel l k from if_neg h]
      by_cases h2 : x.1 = k'
      · have h3 : ¬ k' = k := fun e => h (h2.trans e)
        simp [mget, h2, h3]
      · simp only [mget, if_neg h2, ih hn.2]
def keysOk (l : MapL) : Prop := (∀ x ∈ l, in64 x.1 = true) ∧ (l.map (·.1)).Nodup
theorem mapOk_of {l : MapL} (h : keysOk l) {k : Int × Int} (hk : in64 k = true) : mapOk l k = true := by
  unfold mapOk
  simp only [Bool.and_eq_true, decide_eq_true_eq, List.all_eq_true]
  exact ⟨⟨h.1, hk⟩, h.2⟩
theorem keys_put {l : MapL} (h : keysOk l) {k : Int × Int} (hk : in64 k = true) (v : Bool) : keysOk (mput l k v) := by
  have hm := mput_keys k v l
  refine ⟨fun x hx => ?_, ?_⟩
  · have : x.1 ∈ (mput l k v).map (·.1) := List.mem_map.2 ⟨x, hx, rfl⟩
    rw [hm] at this
    have h2 : x.1 ∈ l.map (·.1) ∨ x.1 = k := by
      split at this
      · exact .inl this
      · simpa using this
    rcases h2 with h2 | h2
    · obtain ⟨y, hy, e⟩ := List.mem_map.1 h2
      rw [← e]; exact h.1 y hy
    · rw [h2]; exact hk
  · rw [hm]
    split
    · exact h.2
    · rename_i hn
      rw [List.nodup_append]
      exact ⟨h.2, by simp, fun a ha b hb e => by simp at hb; subst hb; subst e; exact hn ha⟩
theorem keys_del {l : MapL} (h : keysOk l) (k : Int × Int) : keysOk (mdel l k) :=
  ⟨fun x hx => h.1 x ((mdel_sub k l).subset hx), h.2.sublist ((mdel_sub k l).map _)⟩
theorem in64_of {a b : Int} (ha : -9223372036854775808 ≤ a ∧ a ≤ 9223372036854775807) (hb : -9223372036854775808 ≤ b ∧ b ≤ 9223372036854775807) : in64 (a, b) = true := by
  unfold in64
  simp only [Bool.and_eq_true, Lit.wf, decide_eq_true_eq]
  exact ⟨ha, hb⟩

end Go.Proofs.YtjbkbiofklgblaaGreatDoor

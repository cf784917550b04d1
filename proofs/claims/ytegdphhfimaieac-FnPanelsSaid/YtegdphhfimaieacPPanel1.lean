/- Plain lemmas: what the functions compute is what the reference says, in plain Lean. No condition. -/
import Derived.Test.YtegdphhfimaieacPDraw5
set_option maxRecDepth 4000
set_option maxHeartbeats 1000000
set_option linter.unusedVariables false
set_option linter.unusedSimpArgs false
set_option linter.unusedSectionVars false

namespace Go.Proofs.Ytegdphhfimaieac
open Go.AM

def offOk (x : Official) : Prop := (1 ≤ x.number ∧ x.number ≤ 999) ∧ (1 ≤ x.club ∧ x.club ≤ 20) ∧ (1 ≤ x.level ∧ x.level ≤ 3)
def OffOk (l : List Official) : Prop := (∀ x ∈ l, offOk x) ∧ l.Pairwise (fun a b => a.number ≠ b.number) ∧ l.length ≤ 24
theorem off_snoc {l : List Official} {y : Official} (h : l.Pairwise (fun a b => a.number ≠ b.number)) (hy : ∀ x ∈ l, x.number ≠ y.number) : (l ++ [y]).Pairwise (fun a b => a.number ≠ b.number) := by
  rw [List.pairwise_append]
  exact ⟨h, List.pairwise_singleton _ _, fun a ha b hb => by obtain rfl := List.mem_singleton.1 hb; exact hy a ha⟩
theorem ret_paOfficials_l (l : List Official) (hl : l.length ≤ 1048576) : ∀ (ys pre : List Official), l = pre ++ ys → (∀ s ∈ pre, offOk s) → pre.Pairwise (fun a b => a.number ≠ b.number) →
    Ret (spec_paOfficials_l1 l ys pre.length (pre.map fun x => x.number)) (OffOk l) := by
  intro ys
  induction ys with
  | nil =>
    intro pre h1 h2 h3
    rw [List.append_nil] at h1
    rw [spec_paOfficials_l1]
    refine .some ?_
    unfold OffOk
    rw [decide_eq_true_eq, h1]
    exact ⟨fun h => ⟨h2, h3, by omega⟩, fun h => by have := h.2.2; omega⟩
  | cons y ys ih =>
    intro pre h1 h2 h3
    have hy : y ∈ l := by rw [h1]; simp
    have hpre : pre.length ≤ 1048575 := by rw [h1] at hl; simp at hl; omega
    rw [spec_paOfficials_l1]
    refine (ret_l1In y.number 1 999).bindR (fun h => ?_) (fun h => .f fun k => h (k.1 y hy).1)
    simp only [Bool.not_true, Bool.not_false, opt_t, Bool.false_or]
    refine (ret_l1Has (pre.map fun x : Official => x.number) y.number).bindR (fun hin => .f fun k => ?_) (fun hin => ?_)
    · have := k.2.1
      rw [h1, List.pairwise_append] at this
      obtain ⟨x, hx, e⟩ := List.mem_map.1 hin
      exact this.2.2 x hx y (by simp) e
    · simp only [Bool.not_true, Bool.not_false, opt_t, Bool.false_or]
      refine (ret_l1In y.club 1 20).bindR (fun h4 => ?_) (fun h4 => .f fun k => h4 (k.1 y hy).2.1)
      simp only [Bool.not_true, Bool.not_false, opt_t, Bool.false_or]
      refine (ret_l1In y.level 1 3).bindR (fun h5 => ?_) (fun h5 => .f fun k => h5 (k.1 y hy).2.2)
      simp only [Bool.not_true, cond_false]
      rw [fits_of (by simp; omega), need_t, Option.bind_some]
      have := ih (pre ++ [y]) (by rw [h1]; simp) (by
        intro n hn; rcases List.mem_append.1 hn with hn | hn
        · exact h2 n hn
        · obtain rfl := List.mem_singleton.1 hn; exact ⟨h, h4, h5⟩) (off_snoc h3 fun x hx e => hin (List.mem_map.2 ⟨x, hx, e⟩))
      simpa using this
theorem ret_paOfficials (l : List Official) (hl : l.length ≤ 1048576) : Ret (spec_paOfficials_p l) (OffOk l) := ret_paOfficials_l l hl l [] rfl (by simp) List.Pairwise.nil
theorem idxOff (f : Official → Option Bool) (p : Official → Prop) : ∀ (l : List Official) (k : Nat), (∀ x ∈ l, Ret (f x) (p x)) → ∃ i, slices_IndexFunc_Official_l1 f l k = some i ∧ (i ≥ 0 ↔ ∃ x ∈ l, p x) := by
  intro l
  induction l with
  | nil => intro k _; exact ⟨-1, by rw [slices_IndexFunc_Official_l1], by simp⟩
  | cons y l ih =>
    intro k h
    obtain ⟨b, h1, h2⟩ := h y (by simp)
    rw [slices_IndexFunc_Official_l1, bnd h1]
    cases b
    · obtain ⟨i, i1, i2⟩ := ih (k + 1) fun x hx => h x (by simp [hx])
      refine ⟨i, i1, i2.trans ⟨fun ⟨x, hx, hp⟩ => ⟨x, by simp [hx], hp⟩, fun ⟨x, hx, hp⟩ => ?_⟩⟩
      rcases List.mem_cons.1 hx with rfl | hx
      · exact absurd (h2.2 hp) (by simp)
      · exact ⟨x, hx, hp⟩
    · exact ⟨_, rfl, ⟨by exact fun _ => ⟨y, by simp, h2.1 rfl⟩, by intro _; omega⟩⟩
theorem ret_AreOfficials_l (l : List Official) (hl : l.length ≤ 1048576) : ∀ (ys pre : List Official), l = pre ++ ys → (∀ s ∈ pre, offOk s) → pre.Pairwise (fun a b => a.number ≠ b.number) → Ret (impl_AreOfficials_l1 l ys pre.length) (OffOk l) := by
  intro ys
  induction ys with
  | nil =>
    intro pre h1 h2 h3
    rw [List.append_nil] at h1
    rw [impl_AreOfficials_l1]
    refine .some ?_
    unfold OffOk
    rw [decide_eq_true_eq, h1]
    exact ⟨fun h => ⟨h2, h3, by omega⟩, fun h => by have := h.2.2; omega⟩
  | cons y ys ih =>
    intro pre h1 h2 h3
    have hy : y ∈ l := by rw [h1]; simp
    rw [impl_AreOfficials_l1]
    refine (ret_isSkater y.number).bindR (fun h => ?_) (fun h => .f fun k => h (k.1 y hy).1)
    simp only [Bool.not_true, Bool.not_false, opt_t, Bool.false_or]
    refine (ret_within y.club 1 20).bindR (fun h4 => ?_) (fun h4 => .f fun k => h4 (k.1 y hy).2.1)
    simp only [Bool.not_true, Bool.not_false, opt_t, Bool.false_or]
    refine (ret_within y.level 1 3).bindR (fun h5 => ?_) (fun h5 => .f fun k => h5 (k.1 y hy).2.2)
    simp only [Bool.not_true, cond_false]
    rw [bnd (show sliceHi l (pre.length : Int) = some pre from by rw [h1]; exact sliceHi_pre pre (y :: ys) rfl)]
    unfold slices_ContainsFunc_Official_p slices_IndexFunc_Official_p
    obtain ⟨i, i1, i2⟩ := idxOff (fun a0 => impl_AreOfficials_c1_p a0 y) (fun x => x.number = y.number) pre 0 fun x _ => .some (by simp)
    rw [bnd i1, Option.bind_some]
    by_cases hi : i ≥ 0
    · rw [decide_eq_true hi]
      refine .f fun k => ?_
      obtain ⟨x, hx, e⟩ := i2.1 hi
      have := k.2.1
      rw [h1, List.pairwise_append] at this
      exact this.2.2 x hx y (by simp) e
    · rw [decide_eq_false hi, cond_false]
      have := ih (pre ++ [y]) (by rw [h1]; simp) (by
        intro n hn; rcases List.mem_append.1 hn with hn | hn
        · exact h2 n hn
        · obtain rfl := List.mem_singleton.1 hn; exact ⟨h, h4, h5⟩) (off_snoc h3 fun x hx e => hi (i2.2 ⟨x, hx, e⟩))
      simpa using this
theorem ret_AreOfficials (l : List Official) (hl : l.length ≤ 1048576) : Ret (impl_AreOfficials_p l) (OffOk l) := ret_AreOfficials_l l hl l [] rfl (by simp) List.Pairwise.nil
theorem ret_l1All (lo hi : Int) : ∀ (l : List Int) (k : Nat), Ret (spec_l1All_l1 lo hi l k) (∀ n ∈ l, lo ≤ n ∧ n ≤ hi) := by
  intro l
  induction l with
  | nil => intro k; rw [spec_l1All_l1]; exact .t (by simp)
  | cons y l ih =>
    intro k
    rw [spec_l1All_l1]
    refine (ret_l1In y lo hi).bindR (fun h => ?_) (fun h => .f fun k => h (k y (by simp)))
    simp only [Bool.not_true, cond_false]
    refine (ih (k + 1)).iff ⟨fun q n hn => ?_, fun q n hn => q n (by simp [hn])⟩
    rcases List.mem_cons.1 hn with rfl | hn
    · exact h
    · exact q n hn
theorem ret_dwKeys (K : List Int) : Ret (spec_dwKeys_p K 6) (K.length ≤ 6 ∧ keyOk K) := by
  unfold spec_dwKeys_p
  by_cases h : (K.length : Int) ≤ 6
  · rw [decide_eq_true h]
    simp only [opt_t, Bool.true_and]
    obtain ⟨b, h1, h2⟩ := ret_l1All 0 1000000000 K 0
    rw [show spec_l1All_p K 0 1000000000 = some b from h1, Option.bind_some]
    exact .some (h2.trans ⟨fun k => ⟨by omega, k⟩, fun k => k.2⟩)
  · rw [decide_eq_false h]
    exact .f fun k => by have := k.1; omega
theorem ret_areKeys (K : List Int) : Ret (impl_areKeys_p K 6) (K.length ≤ 6 ∧ keyOk K) := by
  unfold impl_areKeys_p
  by_cases h : (K.length : Int) ≤ 6
  · rw [decide_eq_true h]
    simp only [opt_t, Bool.true_and]
    obtain ⟨b, h1, h2⟩ := ret_allWithin 0 1000000000 K 0
    rw [show impl_allWithin_p K 0 1000000000 = some b from h1, Option.bind_some]
    exact .some (h2.trans ⟨fun k => ⟨by omega, k⟩, fun k => k.2⟩)
  · rw [decide_eq_false h]
    exact .f fun k => by have := k.1; omega
theorem sort_of {r xs : List Int} (h : r.Pairwise (· < ·)) (hn : xs.Nodup) (hm : ∀ x, x ∈ r ↔ x ∈ xs) : r = sortI xs :=
  lt_mem_eq h (sortI_lt hn) fun x => by rw [hm, (sortI_perm xs).mem_iff]
theorem nums_nodup {l : List Official} (h : l.Pairwise (fun a b => a.number ≠ b.number)) : (l.map fun x => x.number).Nodup := by
  unfold List.Nodup; rw [List.pairwise_map]; exact h
theorem slSort_eq (l : List Int) (h : l.length ≤ 1048576) : slices_Sort_int_p l = some (sortI l) := by
  unfold slices_Sort_int_p
  rw [show Nat.blt l.length 4611686018427387904 = true from by rw [Nat.blt_eq]; omega, need_t, Option.bind_some]

end Go.Proofs.Ytegdphhfimaieac

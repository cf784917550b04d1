/- Plain lemmas: what the functions compute is what the reference says, in plain Lean. No condition. -/
import Derived.Test.YtheaoahofklidaaPCur3
set_option maxRecDepth 4000
set_option maxHeartbeats 1000000
set_option linter.unusedVariables false
set_option linter.unusedSimpArgs false
set_option linter.unusedSectionVars false

namespace Go.Proofs.Ytheaoahofklidaa
open Go.AM

theorem qInts_l (b : List Int) : ∀ (ys pre : List Int), b = pre ++ ys → laws_qInts_l1 b ys pre.length = some true := by
  intro ys
  induction ys with
  | nil => intro pre _; rw [laws_qInts_l1]
  | cons y ys ih =>
    intro pre h
    have := ih (pre ++ [y]) (by rw [h]; simp)
    rw [show (pre ++ [y]).length = pre.length + 1 from by simp] at this
    rw [laws_qInts_l1, bnd (getI_app (pre := pre) (y := y) (ys := ys) h rfl), bne_self_eq_false, cond_false, this]
theorem qInts_eq (a : List Int) : laws_qInts_p a a = some true := by
  unfold laws_qInts_p
  rw [bne_self_eq_false, cond_false]
  exact qInts_l a a [] rfl
theorem qInts_two (x y i k : Int) : laws_qInts_p [x, y] [i, k] = some (decide ([x, y] = [i, k])) := by
  unfold laws_qInts_p
  rw [show ((([x, y] : List Int).length : Int) != (([i, k] : List Int).length : Int)) = false from rfl, cond_false]
  rw [laws_qInts_l1, bnd (show getI [i, k] ((0 : Nat) : Int) = some i from rfl)]
  by_cases h1 : x = i
  · subst h1
    rw [bne_self_eq_false, cond_false, laws_qInts_l1, bnd (show getI [x, k] ((0 + 1 : Nat) : Int) = some k from rfl)]
    by_cases h2 : y = k
    · subst h2
      rw [bne_self_eq_false, cond_false, laws_qInts_l1]; simp
    · rw [show (y != k) = true from by simp [h2]]; simp [h2]
  · rw [show (x != i) = true from by simp [h1]]; simp [h1]
theorem qWords_l (b : List ByteArray) : ∀ (ys pre : List ByteArray), b = pre ++ ys → laws_qWords_l1 b ys pre.length = some true := by
  intro ys
  induction ys with
  | nil => intro pre _; rw [laws_qWords_l1]
  | cons y ys ih =>
    intro pre h
    have := ih (pre ++ [y]) (by rw [h]; simp)
    rw [show (pre ++ [y]).length = pre.length + 1 from by simp] at this
    rw [laws_qWords_l1, bnd (getI_app (pre := pre) (y := y) (ys := ys) h rfl), decide_eq_true rfl, Bool.not_true, cond_false, this]
theorem qWords_eq (a : List ByteArray) : laws_qWords_p a a = some true := by
  unfold laws_qWords_p
  rw [bne_self_eq_false, cond_false]
  exact qWords_l a a [] rfl
theorem qItems_l (b : List Item) : ∀ (ys pre : List Item), b = pre ++ ys → laws_qItems_l1 b ys pre.length = some true := by
  intro ys
  induction ys with
  | nil => intro pre _; rw [laws_qItems_l1]
  | cons y ys ih =>
    intro pre h
    have := ih (pre ++ [y]) (by rw [h]; simp)
    rw [show (pre ++ [y]).length = pre.length + 1 from by simp] at this
    rw [laws_qItems_l1, bnd (getI_app (pre := pre) (y := y) (ys := ys) h rfl), bnd (qWords_eq _)]
    simp only [Bool.not_true, Bool.not_false, opt_t]
    rw [bnd (qInts_eq _)]
    simp only [Bool.not_true, beq_self_eq_true, Bool.or_false, cond_false]
    exact this
theorem qItems_eq (a : List Item) : laws_qItems_p a a = some true := by
  unfold laws_qItems_p
  rw [bne_self_eq_false, cond_false]
  exact qItems_l a a [] rfl
theorem qLists_l (b : List (List Int)) : ∀ (ys pre : List (List Int)), b = pre ++ ys → laws_qLists_l1 b ys pre.length = some true := by
  intro ys
  induction ys with
  | nil => intro pre _; rw [laws_qLists_l1]
  | cons y ys ih =>
    intro pre h
    have := ih (pre ++ [y]) (by rw [h]; simp)
    rw [show (pre ++ [y]).length = pre.length + 1 from by simp] at this
    rw [laws_qLists_l1, bnd (getI_app (pre := pre) (y := y) (ys := ys) h rfl), bnd (qInts_eq _), Bool.not_true, cond_false, this]
theorem qLists_eq (a : List (List Int)) : laws_qLists_p a a = some true := by
  unfold laws_qLists_p
  rw [bne_self_eq_false, cond_false]
  exact qLists_l a a [] rfl
theorem qChanges_l (b : List Change) : ∀ (ys pre : List Change), b = pre ++ ys → laws_qChanges_l1 b ys pre.length = some true := by
  intro ys
  induction ys with
  | nil => intro pre _; rw [laws_qChanges_l1]
  | cons y ys ih =>
    intro pre h
    have := ih (pre ++ [y]) (by rw [h]; simp)
    rw [show (pre ++ [y]).length = pre.length + 1 from by simp] at this
    rw [laws_qChanges_l1, bnd (getI_app (pre := pre) (y := y) (ys := ys) h rfl), decide_eq_true rfl, Bool.not_true, cond_false, this]
theorem qChanges_eq (a : List Change) : laws_qChanges_p a a = some true := by
  unfold laws_qChanges_p
  rw [bne_self_eq_false, cond_false]
  exact qChanges_l a a [] rfl
theorem qHas_l (n : Int) : ∀ (l : List Int) (k : Nat), laws_qHas_l1 n l k = some (decide (n ∈ l)) := by
  intro l
  induction l with
  | nil => intro k; rw [laws_qHas_l1]; simp
  | cons y l ih =>
    intro k
    rw [laws_qHas_l1]
    by_cases e : y = n
    · subst e; rw [beq_self_eq_true, cond_true]; simp
    · rw [show (y == n) = false from by simp [e], cond_false, ih]
      have e' : ¬ n = y := fun q => e q.symm
      simp [e']
theorem qHas_eq (l : List Int) (n : Int) : laws_qHas_p l n = some (decide (n ∈ l)) := qHas_l n l 0
theorem hist_any {l : List Item} (hb : nameB l) (h p : List Change) (hl : h.length ≤ 1048576) (fuel : Nat) (hf : 1048576 < fuel) (ht : impl_isHistory_p fuel l h = some true) (hp : p.length ≤ 60) {z : HiState} (hz : runH l p = some z) : impl_isHistory_p fuel l p = some true := by
  obtain ⟨b, b1, b2, b3, a, a1, a2, a3, a4⟩ := isHistory_eq hb h hl fuel hf
  obtain rfl : b = true := by rw [ht] at b1; exact (Option.some.inj b1).symm
  obtain ⟨c, c1, c2, c3, d, d1, d2, d3, d4⟩ := isHistory_eq hb p (by omega) fuel hf
  obtain rfl : a = d := by rw [a1] at d1; exact Option.some.inj d1
  have hat : a = true := by
    cases a
    · exact absurd (a4 rfl) (by simp)
    · rfl
  have hg := hiGood_eq (b3 rfl).1 p (by omega)
  rw [d3 hat, hz] at hg
  rw [c1, Option.some.inj hg, decide_eq_true (by omega)]
  rfl
theorem stateAt_case {l : List Item} (hb : nameB l) (h : List Change) (hl : h.length ≤ 1048576) (T : Int) (fuel : Nat) (hf : 1048576 < fuel) :
    (∃ y, impl_isHistory_p fuel l h = some true ∧ (0 ≤ T ∧ T ≤ 100000) ∧ runH l (h.takeWhile fun c => decide (c.tick ≤ T)) = some y ∧ spec_StateAt_p fuel l h T = some (y.items, true) ∧ impl_StateAt_p fuel l h T = some (y.items, true)) ∨
    ((¬ (impl_isHistory_p fuel l h = some true ∧ (0 ≤ T ∧ T ≤ 100000))) ∧ spec_StateAt_p fuel l h T = some ([], false) ∧ impl_StateAt_p fuel l h T = some ([], false)) := by
  obtain ⟨b, b1, b2, b3, _⟩ := isHistory_eq hb h hl fuel hf
  unfold spec_StateAt_p impl_StateAt_p
  rw [bnd b1, bnd b2]
  cases b
  · exact .inr ⟨by rw [b1]; simp, rfl, rfl⟩
  · obtain ⟨hi, h60, z, hz⟩ := b3 rfl
    obtain ⟨n, n1, n2⟩ := ret_l1In T 0 100000
    obtain ⟨n', n1', n3⟩ := ret_tick T
    obtain rfl : n = n' := by rw [n1] at n1'; exact Option.some.inj n1'
    simp only [Bool.not_true, Bool.not_false, opt_t, Bool.false_or]
    rw [bnd n1, bnd n3]
    cases n
    · exact .inr ⟨fun q => by simpa using n2.2 q.2, rfl, rfl⟩
    · obtain ⟨s', y, q1, q2, q3, q4⟩ := (stateOf_eq hi h hl T).2 z hz
      obtain ⟨y', p1, p2⟩ := hiRun_eq hi h hl T hz
      obtain rfl : y = y' := by rw [q2] at p2; exact Option.some.inj p2
      simp only [Bool.not_true, cond_false]
      rw [bnd q1, bnd p1]
      exact .inl ⟨y, b1, n2.1 rfl, q2, rfl, by show some (s'.items, true) = _; rw [q3.1]⟩
theorem final_impl {l : List Item} (hb : nameB l) (h : List Change) (hl : h.length ≤ 1048576) (fuel : Nat) (hf : 1048576 < fuel) (h1 : impl_isHistory_p fuel l h = some true) {y : HiState} (hy : runH l h = some y) : impl_FinalState_p fuel l h = some (y.items, true) := by
  unfold impl_FinalState_p
  rcases stateAt_case hb h hl 100000 fuel hf with ⟨z, _, h2, h3, h4, h5⟩ | ⟨q, h4, h5⟩
  · obtain ⟨b, b1, b2, b3, _⟩ := isHistory_eq hb h hl fuel hf
    obtain rfl : b = true := by rw [h1] at b1; exact (Option.some.inj b1).symm
    rw [all_ticks (b3 rfl).1 hy] at h3
    rw [hy] at h3
    cases h3
    rw [bnd h5]
  · exact absurd ⟨h1, by omega, by omega⟩ q
theorem add_case {l : List Item} (hb : nameB l) (h : List Change) (hl : h.length ≤ 1000000) (x : Change) (fuel : Nat) (hf : 1048576 < fuel) :
    (impl_isHistory_p fuel l h = some true ∧ impl_isHistory_p fuel l (h ++ [x]) = some true ∧ spec_AddChange_p fuel l h x = some (h ++ [x], true) ∧ impl_AddChange_p fuel l h x = some (h ++ [x], true)) ∨
    (spec_AddChange_p fuel l h x = some ([], false) ∧ impl_AddChange_p fuel l h x = some ([], false)) := by
  obtain ⟨r, r1, r2, _⟩ := same_AddChange hb h (by omega) x fuel hf
  have hi := r2
  unfold impl_AddChange_p at hi
  obtain ⟨b, b1, b2, b3, _⟩ := isHistory_eq hb h (by omega) fuel hf
  rw [bnd b1] at hi
  cases b
  · right
    cases hi
    exact ⟨r1, r2⟩
  · obtain ⟨c, c1, _⟩ := isHistory_eq hb (h ++ [x]) (by simp; omega) fuel hf
    rw [fits_of (n := h.length) (by omega), fits_of (n := h.length + [x].length) (by simp; omega)] at hi
    simp only [need_t, Option.bind_some, Bool.not_true, cond_false] at hi
    rw [bnd c1] at hi
    cases c
    · right
      cases hi
      exact ⟨r1, r2⟩
    · left
      cases hi
      exact ⟨b1, c1, r1, r2⟩
def hits (i k : Int) (c : Change) : Bool := (c.item == i) && (c.name == k)
theorem lc_scan (h : List Change) (i k : Int) (hl : h.length ≤ 1048576) : ∀ (m fuel : Nat), m ≤ h.length → m < fuel →
    (spec_LastChange_l1 h i k fuel ((m : Int) - 1) = some (0, false) ∧ ∀ c ∈ h.take m, hits i k c = false) ∨
    (∃ (j : Nat) (c : Change), h[j]? = some c ∧ hits i k c = true ∧ spec_LastChange_l1 h i k fuel ((m : Int) - 1) = some ((j : Int), true)) := by
  intro m
  induction m with
  | zero =>
    intro fuel _ hf
    obtain ⟨f, rfl⟩ := Nat.exists_eq_succ_of_ne_zero (by omega : fuel ≠ 0)
    left
    rw [spec_LastChange_l1, decide_eq_false (by omega)]
    exact ⟨rfl, by simp⟩
  | succ m ih =>
    intro fuel hm hf
    obtain ⟨f, rfl⟩ := Nat.exists_eq_succ_of_ne_zero (by omega : fuel ≠ 0)
    have hlt : m < h.length := by omega
    rw [show ((m + 1 : Nat) : Int) - 1 = (m : Int) from by omega, spec_LastChange_l1, decide_eq_true (by omega), cond_true, bnd (getI_lt_some hlt), w64_in (by omega)]
    cases hc : hits i k h[m]
    · rw [show ((h[m].item == i) && (h[m].name == k)) = false from hc, cond_false]
      rcases ih f (by omega) (by omega) with ⟨q1, q2⟩ | q
      · refine .inl ⟨q1, fun c hcm => ?_⟩
        rw [List.take_succ_eq_append_getElem hlt] at hcm
        rcases List.mem_append.1 hcm with hcm | hcm
        · exact q2 c hcm
        · rw [List.mem_singleton.1 hcm]; exact hc
      · exact .inr q
    · rw [show ((h[m].item == i) && (h[m].name == k)) = true from hc, cond_true]
      exact .inr ⟨m, h[m], List.getElem?_eq_getElem hlt, hc, rfl⟩
theorem callers_last {l : List Item} (hb : nameB l) (h : List Change) (hl : h.length ≤ 900000) (i k : Int) (fuel : Nat) (hf : 1048576 < fuel) : ∃ (u : Int × Bool) (r : List Int × Bool), spec_LastChange_p fuel l h i k = some u ∧ impl_LastChange_p fuel l h i k = some u ∧ spec_CallersOf_p fuel l h i k = some r ∧ impl_CallersOf_p fuel l h i k = some r ∧
    (r.2 = true → u.2 = decide ((r.1.length : Int) > 0) ∧ (u.2 = true → ∃ c, getI h u.1 = some c ∧ c.caller ∈ r.1)) := by
  obtain ⟨u, u1, u2⟩ := same_LastChange hb h (by omega) i k fuel hf
  obtain ⟨r, r1, r2, _⟩ := same_CallersOf hb h (by omega) i k fuel hf
  refine ⟨u, r, u1, u2, r1, r2, fun ht => ?_⟩
  obtain ⟨b, b1, b2, b3, _⟩ := isHistory_eq hb h (by omega) fuel hf
  unfold spec_LastChange_p at u1
  unfold spec_CallersOf_p at r1
  rw [bnd b2] at u1 r1
  cases b
  · cases r1; cases ht
  · obtain ⟨hi, h60, _⟩ := b3 rfl
    simp only [Bool.not_true, Bool.not_false, opt_t, Bool.false_or] at u1 r1
    obtain ⟨n, n1, _⟩ := ret_spName l hi i k
    rw [bnd n1] at u1 r1
    cases n
    · cases r1; cases ht
    · simp only [Bool.not_true, cond_false] at u1 r1
      obtain ⟨q, q1, q2, q3, q4⟩ := callers_s i k fuel hf h 0 [] List.Pairwise.nil (by simp; omega)
      rw [q1] at r1
      cases r1
      rw [w64_in (by omega)] at u1
      have hmem : ∀ x, x ∈ q ↔ x ∈ callersH i k h := fun x => by rw [q3]; simp
      rcases lc_scan h i k (by omega) h.length fuel (Nat.le_refl _) (by omega) with ⟨p1, p2⟩ | ⟨j, c, p1, p2, p3⟩
      · rw [p1] at u1
        cases u1
        have hn : q = [] := by
          cases q with
          | nil => rfl
          | cons y q =>
            exfalso
            have := (hmem y).1 (by simp)
            unfold callersH at this
            obtain ⟨c, hc, _⟩ := List.mem_map.1 this
            obtain ⟨g1, g2⟩ := List.mem_filter.1 hc
            have := p2 c (by rw [List.take_length]; exact g1)
            unfold hits at this
            rw [this] at g2; cases g2
        subst hn
        exact ⟨rfl, by simp⟩
      · rw [p3] at u1
        cases u1
        have hc : c.caller ∈ q := (hmem _).2 (List.mem_map.2 ⟨c, List.mem_filter.2 ⟨List.mem_of_getElem? p1, p2⟩, rfl⟩)
        have : 0 < q.length := List.length_pos_iff.2 (List.ne_nil_of_mem hc)
        exact ⟨(decide_eq_true (by omega : (q.length : Int) > 0)).symm, fun _ => ⟨c, by rw [getI_nat]; exact p1, hc⟩⟩
theorem valid_nm {a b : List Item} (h : nmL a = nmL b) {i k : Int} (hv : valid a i k) : valid b i k := by
  obtain ⟨v1, v2, it, v3, v4⟩ := hv
  have h1 : (nmL a)[i.toNat]? = some it.names.length := by unfold nmL; rw [List.getElem?_map, v3]; rfl
  rw [h] at h1
  unfold nmL at h1
  rw [List.getElem?_map] at h1
  cases hq : b[i.toNat]? with
  | none => rw [hq] at h1; cases h1
  | some jt =>
    rw [hq] at h1
    have := Option.some.inj h1
    exact ⟨v1, v2, jt, hq, by dsimp only at this; omega⟩
theorem last_added {l : List Item} (hb : nameB l) (g : List Change) (hl : g.length ≤ 900000) (x : Change) (fuel : Nat) (hf : 1048576 < fuel) (ht : impl_isHistory_p fuel l (g ++ [x]) = some true) : impl_LastChange_p fuel l (g ++ [x]) x.item x.name = some ((g.length : Int), true) := by
  obtain ⟨u, u1, u2⟩ := same_LastChange hb (g ++ [x]) (by simp; omega) x.item x.name fuel hf
  rw [u2, ← u1]
  obtain ⟨b, b1, b2, b3, _⟩ := isHistory_eq hb (g ++ [x]) (by simp; omega) fuel hf
  obtain rfl : b = true := by rw [ht] at b1; exact (Option.some.inj b1).symm
  obtain ⟨hi, h60, z, hz⟩ := b3 rfl
  obtain ⟨z0, z1, z2⟩ := runS_mid g none (startH l) z x [] hz
  have hx0 : StOk z0 := by
    obtain ⟨s', y, q1, q2, q3, q4⟩ := (stateOf_eq hi g (by omega) 100000).2 z0 z1
    rw [all_ticks hi z1] at q2
    obtain rfl : z0 = y := by rw [show runH l g = some z0 from z1] at q2; exact Option.some.inj q2
    exact q4
  have hv : valid l x.item x.name := valid_nm (run_nm _ _ _ _ z1) (chg_valid hx0 x z2)
  obtain ⟨n, n1, n2⟩ := ret_spName l hi x.item x.name
  have hn : n = true := n2.2 hv
  subst hn
  unfold spec_LastChange_p
  rw [bnd b2]
  simp only [Bool.not_true, Bool.not_false, opt_t, Bool.false_or]
  rw [bnd n1]
  obtain ⟨f, rfl⟩ := Nat.exists_eq_succ_of_ne_zero (by omega : fuel ≠ 0)
  rw [spec_LastChange_l1, show ((g ++ [x]).length : Int) - 1 = (g.length : Int) from by simp, w64_in (by omega), decide_eq_true (by omega), cond_true, bnd (getI_app (pre := g) (y := x) (ys := []) rfl rfl)]
  simp
theorem mem_rowL (i : Int) : ∀ (r : List Bool) (k0 : Nat) (x : List Int), x ∈ rowL i r k0 ↔ ∃ k : Nat, r[k]? = some true ∧ x = [i, ((k0 + k : Nat) : Int)] := by
  intro r
  induction r with
  | nil => intro k0 x; simp [rowL]
  | cons b r ih =>
    intro k0 x
    have h0 := ih (k0 + 1) x
    have key : (∃ k : Nat, (b :: r)[k]? = some true ∧ x = [i, ((k0 + k : Nat) : Int)]) ↔ (b = true ∧ x = [i, (k0 : Int)]) ∨ ∃ k : Nat, r[k]? = some true ∧ x = [i, ((k0 + 1 + k : Nat) : Int)] := by
      constructor
      · rintro ⟨k, h1, h2⟩
        cases k with
        | zero => exact .inl ⟨by simpa using h1, by simpa using h2⟩
        | succ k => exact .inr ⟨k, by simpa using h1, by rw [h2]; congr 2; omega⟩
      · rintro (⟨h1, h2⟩ | ⟨k, h1, h2⟩)
        · exact ⟨0, by simp [h1], by simpa using h2⟩
        · exact ⟨k + 1, by simpa using h1, by rw [h2]; congr 2; omega⟩
    rw [key, rowL, ← h0]
    cases b <;> simp
theorem mem_allL : ∀ (B : List (List Bool)) (i0 : Nat) (x : List Int), x ∈ allL B i0 ↔ ∃ (i k : Nat) (r : List Bool), B[i]? = some r ∧ r[k]? = some true ∧ x = [((i0 + i : Nat) : Int), (k : Int)] := by
  intro B
  induction B with
  | nil => intro i0 x; simp [allL]
  | cons r B ih =>
    intro i0 x
    rw [allL, List.mem_append, mem_rowL, ih (i0 + 1) x]
    constructor
    · rintro (⟨k, h1, h2⟩ | ⟨i, k, q, h1, h2, h3⟩)
      · exact ⟨0, k, r, rfl, h1, by rw [h2]; simp⟩
      · exact ⟨i + 1, k, q, by simpa using h1, h2, by rw [h3]; congr 1; omega⟩
    · rintro ⟨i, k, q, h1, h2, h3⟩
      cases i with
      | zero =>
        simp only [List.getElem?_cons_zero, Option.some.injEq] at h1
        subst h1
        exact .inl ⟨k, h2, by rw [h3]; simp⟩
      | succ i => exact .inr ⟨i, k, q, by simpa using h1, h2, by rw [h3]; congr 1; omega⟩
theorem mem_opn (B : List (List Bool)) (i k : Int) : [i, k] ∈ allL B 0 ↔ opn B i k = true := by
  rw [mem_allL]
  unfold opn
  constructor
  · rintro ⟨I, K, r, h1, h2, h3⟩
    simp only [Nat.zero_add, List.cons.injEq, and_true] at h3
    obtain ⟨rfl, rfl⟩ := h3
    rw [if_pos (by omega)]
    simp only [Int.toNat_natCast, h1, Option.bind_some, h2, Option.getD_some]
  · intro h
    by_cases h0 : 0 ≤ i ∧ 0 ≤ k
    · rw [if_pos h0] at h
      cases hr : B[i.toNat]? with
      | none => rw [hr] at h; cases h
      | some r =>
        rw [hr, Option.bind_some] at h
        cases hk : r[k.toNat]? with
        | none => rw [hk] at h; cases h
        | some b =>
          rw [hk, Option.getD_some] at h
          subst h
          refine ⟨i.toNat, k.toNat, r, hr, hk, ?_⟩
          rw [Nat.zero_add, show ((i.toNat : Nat) : Int) = i from by omega, show ((k.toNat : Nat) : Int) = k from by omega]
    · rw [if_neg h0] at h; cases h
theorem chg_opn {x : HiState} (hx : StOk x) (c : Change) (h : (chg x c).2 = true) : opn (chg x c).1.open' c.item c.name = c.review := by
  obtain ⟨v1, v2, it, v3, v4⟩ := chg_valid hx c h
  obtain ⟨I, hI⟩ : ∃ I : Nat, c.item = (I : Int) := ⟨c.item.toNat, by omega⟩
  obtain ⟨K, hK⟩ : ∃ K : Nat, c.name = (K : Int) := ⟨c.name.toNat, by omega⟩
  have hIl := (List.getElem?_eq_some_iff.1 v3).1
  obtain ⟨r, hr⟩ : ∃ r, x.open'[c.item.toNat]? = some r := ⟨_, List.getElem?_eq_getElem (by rw [hx.2.1]; exact hIl)⟩
  have hrl := hx.2.2 _ it r v3 hr
  cases hq : spec_hiState_change_p x c with
  | none => unfold chg at h; rw [hq] at h; cases h
  | some p =>
    have e : chg x c = p := by unfold chg; rw [hq]; rfl
    rw [e] at h ⊢
    unfold spec_hiState_change_p at hq
    obtain ⟨x1, _, hq⟩ := bindE hq
    obtain ⟨x3, _, hq⟩ := bindE hq
    obtain ⟨x5, _, hq⟩ := bindE hq
    obtain ⟨x7, _, hq⟩ := bindE hq
    cases hc : (!x1 || !x3 || !x5 || !x7) with
    | true => rw [hc, cond_true] at hq; cases hq; cases h
    | false =>
      rw [hc, cond_false] at hq
      obtain ⟨x9, _, hq⟩ := bindE hq
      obtain ⟨x11, g11, hq⟩ := bindE hq
      have e11 : x11 = r := by
        rw [getI_of (k := c.item.toNat) (by omega), hr] at g11
        exact (Option.some.inj g11).symm
      subst e11
      cases hrev : c.review with
      | true =>
        rw [hrev, cond_true] at hq
        obtain ⟨x13, _, hq⟩ := bindE hq
        obtain ⟨x15, _, hq⟩ := bindE hq
        cases hw : (x13 || x15 != c.mark) with
        | true => rw [hw, cond_true] at hq; cases hq; cases h
        | false =>
          rw [hw, cond_false] at hq; cases hq
          dsimp only
          rw [opn_set x.open' _ _ x11 hr (by omega), if_pos (by omega)]
      | false =>
        rw [hrev, cond_false] at hq
        obtain ⟨x17, _, hq⟩ := bindE hq
        obtain ⟨x19, _, hq⟩ := bindE hq
        cases hq
        dsimp only
        rw [opn_set x.open' _ _ x11 hr (by omega), if_pos (by omega)]
theorem open_case {l : List Item} (hb : nameB l) (h : List Change) (hl : h.length ≤ 1048576) (fuel : Nat) (hf : 1048576 < fuel) :
    (∃ y, impl_isHistory_p fuel l h = some true ∧ runH l h = some y ∧ StOk y ∧ (∀ r ∈ allL y.open' 0, r.length = 2) ∧ spec_OpenReviews_p fuel l h = some (allL y.open' 0, true) ∧ impl_OpenReviews_p fuel l h = some (allL y.open' 0, true)) ∨
    (¬ impl_isHistory_p fuel l h = some true ∧ spec_OpenReviews_p fuel l h = some ([], false) ∧ impl_OpenReviews_p fuel l h = some ([], false)) := by
  obtain ⟨r, r1, r2, _⟩ := same_OpenReviews hb h hl fuel hf
  have hs := r1
  unfold spec_OpenReviews_p at hs
  obtain ⟨b, b1, b2, b3, _⟩ := isHistory_eq hb h hl fuel hf
  rw [bnd b2] at hs
  cases b
  · cases hs
    exact .inr ⟨by rw [b1]; simp, r1, r2⟩
  · left
    obtain ⟨hi, h60, z, hz⟩ := b3 rfl
    obtain ⟨s', y, q1, q2, q3, q4⟩ := (stateOf_eq hi h hl 100000).2 z hz
    obtain ⟨y', p1, p2⟩ := hiRun_eq hi h hl 100000 hz
    obtain rfl : y = y' := by rw [q2] at p2; exact Option.some.inj p2
    rw [all_ticks hi hz] at q2
    simp only [Bool.not_true, cond_false] at hs
    rw [bnd p1] at hs
    have hr3 : ∀ r ∈ y.open', r.length ≤ 3 := by
      intro r hr
      obtain ⟨i, hi⟩ := List.getElem?_of_mem hr
      have hil := (List.getElem?_eq_some_iff.1 hi).1
      rw [q4.2.1] at hil
      have hg := List.getElem?_eq_getElem hil
      have := q4.2.2 i _ r hg hi
      rw [this]; exact (q4.1.2 _ (List.getElem_mem hil)).1.2
    have h14 := q4.1.1
    have hol := q4.2.1
    have hs1 := or_s1 (y, true) y.open' [] fuel [] rfl (by omega) hr3 (by simp; omega) (by simp; omega)
    rw [show spec_OpenReviews_l1 (y, true) fuel [] y.open' 0 = some ([] ++ allL y.open' 0, true) from hs1] at hs
    cases hs
    exact ⟨y, b1, q2, q4, (allL_len y.open' 0 hr3).2, r1, r2⟩
theorem found_l (fuel : Nat) (x1 : List Item × List Change × Int) (x3 x5 : List Item × Bool) (x7 : List (List Int) × Bool) (x11 : List Item × List Change × Change) (x17 : List Item × List Change × Int × Int) (x19 x21 : Int × Bool) (x23 x25 : List Int × Bool) (x35 : Int × Bool) (x37 x39 : List (List Int) × Bool) :
    ∀ (ys : List (List Int)) (k : Nat) (v : Bool), (∀ r ∈ ys, r.length = 2) → ∃ k', laws_FnOpenReviews_l1 fuel x1 x3 x5 x7 x11 x17 x19 x21 x23 x25 x35 x37 x39 ys k v = laws_FnOpenReviews_l1 fuel x1 x3 x5 x7 x11 x17 x19 x21 x23 x25 x35 x37 x39 [] k' (v || decide ([x11.2.2.item, x11.2.2.name] ∈ ys)) := by
  intro ys
  induction ys with
  | nil => intro k v _; exact ⟨k, by simp⟩
  | cons y ys ih =>
    intro k v h
    have hy := h y (by simp)
    obtain ⟨p, q, rfl⟩ : ∃ p q, y = [p, q] := by
      match y, hy with
      | [p, q], _ => exact ⟨p, q, rfl⟩
    rw [laws_FnOpenReviews_l1]
    cases v
    · rw [Bool.not_false, opt_t, bnd (qInts_two _ _ _ _)]
      obtain ⟨k', e⟩ := ih (k + 1) (false || decide ([p, q] = [x11.2.2.item, x11.2.2.name])) fun r hr => h r (by simp [hr])
      refine ⟨k', e.trans ?_⟩
      congr 1
      rw [Bool.eq_iff_iff]
      simp only [Bool.false_or, Bool.or_eq_true, decide_eq_true_eq, List.mem_cons]
      constructor
      · rintro (e | e)
        · exact .inl e.symm
        · exact .inr e
      · rintro (e | e)
        · exact .inl e.symm
        · exact .inr e
    · rw [Bool.not_true, opt_f, Option.bind_some]
      obtain ⟨k', e⟩ := ih (k + 1) (true || default) fun r hr => h r (by simp [hr])
      exact ⟨k', e.trans (by simp)⟩
theorem until_l {l : List Item} {h : List Change} {T : Int} (hl : h.length ≤ 1048576) : ∀ (ys pre : List Change) (fuel : Nat), h = pre ++ ys → ys.length < fuel → laws_FnOpenReviews_l2 (l, h, T) fuel (pre.length : Int) = some ((pre.length + (ys.takeWhile fun c => decide (c.tick ≤ T)).length : Nat) : Int) ∧ laws_FnOpenReviews_l3 (l, h, T) fuel (pre.length : Int) = some ((pre.length + (ys.takeWhile fun c => decide (c.tick ≤ T)).length : Nat) : Int) := by
  intro ys
  induction ys with
  | nil =>
    intro pre fuel hh hf
    obtain ⟨f, rfl⟩ := Nat.exists_eq_succ_of_ne_zero (by omega : fuel ≠ 0)
    rw [List.append_nil] at hh
    subst hh
    rw [laws_FnOpenReviews_l2, laws_FnOpenReviews_l3]
    dsimp only
    rw [decide_eq_false (by omega : ¬ (h.length : Int) < (h.length : Int)), opt_f, Option.bind_some, Option.bind_some, Bool.false_and]
    exact ⟨by simp, by simp⟩
  | cons y ys ih =>
    intro pre fuel hh hf
    obtain ⟨f, rfl⟩ := Nat.exists_eq_succ_of_ne_zero (by omega : fuel ≠ 0)
    have hlt : (pre.length : Int) < (h.length : Int) := by rw [hh]; simp; omega
    have hg : getI h (pre.length : Int) = some y := getI_app (pre := pre) (y := y) (ys := ys) hh rfl
    rw [laws_FnOpenReviews_l2, laws_FnOpenReviews_l3]
    dsimp only
    rw [decide_eq_true hlt, opt_t, bnd hg, bnd hg, Bool.true_and]
    by_cases ht : y.tick ≤ T
    · rw [decide_eq_true ht, cond_true, cond_true, w64_in (by omega), List.takeWhile_cons_of_pos (by simpa using ht)]
      have := ih (pre ++ [y]) f (by rw [hh]; simp) (by simp at hf; omega)
      rw [show (pre ++ [y]).length = pre.length + 1 from by simp] at this
      rw [show ((pre.length + 1 : Nat) : Int) = (pre.length : Int) + 1 from by omega] at this
      rw [this.1, this.2, List.length_cons]
      exact ⟨by congr 2; omega, by congr 2; omega⟩
    · rw [decide_eq_false ht, cond_false, cond_false, List.takeWhile_cons_of_neg (by simpa using ht)]
      exact ⟨by simp, by simp⟩
theorem takeWhile_take {α : Type} (p : α → Bool) : ∀ l : List α, l.take (l.takeWhile p).length = l.takeWhile p := by
  intro l
  induction l with
  | nil => rfl
  | cons y l ih =>
    cases hp : p y
    · rw [List.takeWhile_cons_of_neg (by simp [hp])]; rfl
    · rw [List.takeWhile_cons_of_pos hp, List.length_cons, List.take_succ_cons, ih]
theorem end_ok {l : List Item} (hb : nameB l) (h : List Change) (hl : h.length ≤ 1000000) (T : Int) (fuel : Nat) (hf : 1048576 < fuel) {y : HiState} (h1 : impl_isHistory_p fuel l h = some true) (h2 : runH l (h.takeWhile fun c => decide (c.tick ≤ T)) = some y) :
    ∃ v x, laws_FnOpenReviews_l2 (l, h, T) fuel 0 = some v ∧ laws_FnOpenReviews_l3 (l, h, T) fuel 0 = some v ∧ sliceHi h v = some x ∧ impl_FinalState_p fuel l x = some (y.items, true) := by
  have hu := until_l (l := l) (T := T) (by omega : h.length ≤ 1048576) h [] fuel rfl (by omega)
  have hle : (h.takeWhile fun c => decide (c.tick ≤ T)).length ≤ h.length := (List.takeWhile_sublist _).length_le
  refine ⟨_, h.takeWhile fun c => decide (c.tick ≤ T), hu.1, hu.2, ?_, ?_⟩
  · simp only [List.length_nil, Nat.zero_add]
    rw [sliceHi_of rfl hle, takeWhile_take]
  · obtain ⟨b, b1, b2, b3, _⟩ := isHistory_eq hb h (by omega) fuel hf
    obtain rfl : b = true := by rw [h1] at b1; exact (Option.some.inj b1).symm
    have h60 := (b3 rfl).2.1
    have hp := hist_any hb h _ (by omega) fuel hf h1 (by omega) h2
    exact final_impl hb (h.takeWhile fun c => decide (c.tick ≤ T)) (by omega) fuel hf hp h2

end Go.Proofs.Ytheaoahofklidaa

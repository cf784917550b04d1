/- Plain lemmas: what the functions compute is what the reference says, in plain Lean. No condition. -/
import Derived.Test.YtheaoahofklidaaPHistory6
set_option maxRecDepth 4000
set_option maxHeartbeats 1000000
set_option linter.unusedVariables false
set_option linter.unusedSimpArgs false
set_option linter.unusedSectionVars false

namespace Go.Proofs.Ytheaoahofklidaa
open Go.AM

def rowL (i : Int) : List Bool → Nat → List (List Int)
  | [], _ => []
  | b :: r, k => bif b then [i, (k : Int)] :: rowL i r (k + 1) else rowL i r (k + 1)
def allL : List (List Bool) → Nat → List (List Int)
  | [], _ => []
  | r :: B, i => rowL (i : Int) r 0 ++ allL B (i + 1)
theorem rowL_len (i : Int) : ∀ (r : List Bool) (k : Nat), (rowL i r k).length ≤ r.length ∧ ∀ x ∈ rowL i r k, x.length = 2 := by
  intro r
  induction r with
  | nil => intro k; exact ⟨by simp [rowL], by simp [rowL]⟩
  | cons b r ih =>
    intro k
    have := ih (k + 1)
    rw [rowL]
    cases b
    · exact ⟨by simp only [cond_false, List.length_cons]; omega, this.2⟩
    · refine ⟨by simp only [cond_true, List.length_cons]; omega, fun x hx => ?_⟩
      rcases List.mem_cons.1 hx with rfl | hx
      · rfl
      · exact this.2 x hx
theorem allL_len : ∀ (B : List (List Bool)) (i : Nat), (∀ r ∈ B, r.length ≤ 3) → (allL B i).length ≤ 3 * B.length ∧ ∀ x ∈ allL B i, x.length = 2 := by
  intro B
  induction B with
  | nil => intro i _; exact ⟨by simp [allL], by simp [allL]⟩
  | cons r B ih =>
    intro i h
    have h1 := ih (i + 1) fun r hr => h r (by simp [hr])
    have h2 := rowL_len (i : Int) r 0
    have h3 := h r (by simp)
    rw [allL]
    refine ⟨by simp only [List.length_append, List.length_cons]; omega, fun x hx => ?_⟩
    rcases List.mem_append.1 hx with hx | hx
    · exact h2.2 x hx
    · exact h1.2 x hx
theorem c_two (l : List (List Int)) (h : ∀ x ∈ l, x.length = 2) : cIntSS l = 3 * l.length := by
  unfold cIntSS
  induction l with
  | nil => simp
  | cons y l ih =>
    have h1 : cIntS y = y.length := rfl
    rw [List.map_cons, List.sum_cons, ih fun x hx => h x (by simp [hx]), h1, h y (by simp), List.length_cons]
    omega
theorem or_s2 (i : Int) : ∀ (r : List Bool) (k : Nat) (acc : List (List Int)), acc.length + r.length ≤ 1000 → spec_OpenReviews_l2 i r k acc = some (acc ++ rowL i r k) := by
  intro r
  induction r with
  | nil => intro k acc _; rw [spec_OpenReviews_l2, rowL]; simp
  | cons b r ih =>
    intro k acc h
    simp only [List.length_cons] at h
    rw [spec_OpenReviews_l2, rowL]
    cases b
    · exact ih (k + 1) acc (by omega)
    · rw [cond_true, cond_true, bnd (x := ()) (by rw [fits_of (by simp; omega)]; rfl), ih (k + 1) _ (by simp; omega)]
      simp
theorem or_s1 (x3 : HiState × Bool) : ∀ (ys pre : List (List Bool)) (fuel : Nat) (acc : List (List Int)), x3.1.open' = pre ++ ys → ys.length < fuel → (∀ r ∈ ys, r.length ≤ 3) → acc.length + 3 * ys.length ≤ 1000 → pre.length + ys.length ≤ 1000 →
    spec_OpenReviews_l1 x3 fuel acc x3.1.open' (pre.length : Int) = some (acc ++ allL ys pre.length, true) := by
  intro ys
  induction ys with
  | nil =>
    intro pre fuel acc h hf _ _ _
    obtain ⟨f, rfl⟩ := Nat.exists_eq_succ_of_ne_zero (by omega : fuel ≠ 0)
    rw [spec_OpenReviews_l1, decide_eq_false (by rw [h]; simp), allL]; simp
  | cons y ys ih =>
    intro pre fuel acc h hf hr hl hp
    obtain ⟨f, rfl⟩ := Nat.exists_eq_succ_of_ne_zero (by omega : fuel ≠ 0)
    simp only [List.length_cons] at hf hl hp
    have hy := hr y (by simp)
    rw [spec_OpenReviews_l1, decide_eq_true (by rw [h]; simp; omega), cond_true, bnd (getI_app (pre := pre) (y := y) (ys := ys) h rfl), bnd (or_s2 (pre.length : Int) y 0 acc (by omega)), w64_in (by omega)]
    have h2 := (rowL_len (pre.length : Int) y 0).1
    have := ih (pre ++ [y]) f (acc ++ rowL (pre.length : Int) y 0) (by rw [h]; simp) (by omega) (fun r h => hr r (by simp [h])) (by simp only [List.length_append]; omega) (by simp; omega)
    rw [show (pre ++ [y]).length = pre.length + 1 from by simp, Int.natCast_add, Int.natCast_one] at this
    rw [this, allL, List.append_assoc]
theorem or_i2 (ch : Int → Int → Option Bool) (i : Nat) (y2 : Item) (r : List Bool) (hn : y2.names.length = r.length) (hr3 : r.length ≤ 3) (hc : ∀ k, (hk : k < r.length) → ch (i : Int) (k : Int) = some r[k]) : ∀ (rs pre : List Bool) (fuel : Nat) (acc : List (List Int)), r = pre ++ rs → rs.length < fuel → acc.length + rs.length ≤ 1000 →
    impl_namesWhere_l2 ch i y2 fuel acc (pre.length : Int) = some (acc ++ rowL (i : Int) rs pre.length) := by
  intro rs
  induction rs with
  | nil =>
    intro pre fuel acc h hf _
    obtain ⟨f, rfl⟩ := Nat.exists_eq_succ_of_ne_zero (by omega : fuel ≠ 0)
    rw [impl_namesWhere_l2, decide_eq_false (by rw [hn, h]; simp), rowL]; simp
  | cons b rs ih =>
    intro pre fuel acc h hf hl
    obtain ⟨f, rfl⟩ := Nat.exists_eq_succ_of_ne_zero (by omega : fuel ≠ 0)
    simp only [List.length_cons] at hf hl
    have hlen : r.length = pre.length + (rs.length + 1) := by rw [h]; simp
    have hb : r[pre.length]'(by omega) = b := by simp [h]
    rw [impl_namesWhere_l2, decide_eq_true (by rw [hn, h]; simp; omega), cond_true, bnd (hc pre.length (by omega)), hb, w64_in (by omega), rowL]
    cases b
    · have := ih (pre ++ [false]) f acc (by rw [h]; simp) (by omega) (by omega)
      rw [show (pre ++ [false]).length = pre.length + 1 from by simp, Int.natCast_add, Int.natCast_one] at this
      exact this
    · have := ih (pre ++ [true]) f (acc ++ [[(i : Int), (pre.length : Int)]]) (by rw [h]; simp) (by omega) (by simp; omega)
      rw [show (pre ++ [true]).length = pre.length + 1 from by simp, Int.natCast_add, Int.natCast_one] at this
      rw [cond_true, cond_true, bnd (x := ()) (by rw [fits_of (by simp; omega)]; rfl), this]
      simp
theorem or_i1 (ch : Int → Int → Option Bool) (fuel : Nat) (hf : 1048576 < fuel) (B : List (List Bool)) (hc : ∀ i r, B[i]? = some r → ∀ k, (hk : k < r.length) → ch ((i : Nat) : Int) ((k : Nat) : Int) = some r[k]) : ∀ (ys : List Item) (Bs Bp : List (List Bool)) (acc : List (List Int)), B = Bp ++ Bs → ys.map (fun it => it.names.length) = Bs.map (fun r => r.length) → (∀ r ∈ Bs, r.length ≤ 3) → acc.length + 3 * Bs.length ≤ 1000 →
    impl_namesWhere_l1 ch fuel ys Bp.length acc = some (acc ++ allL Bs Bp.length) := by
  intro ys
  induction ys with
  | nil =>
    intro Bs Bp acc h1 h2 _ _
    obtain rfl : Bs = [] := by cases Bs with | nil => rfl | cons _ _ => simp at h2
    rw [impl_namesWhere_l1, allL]; simp
  | cons y ys ih =>
    intro Bs Bp acc h1 h2 h3 h4
    cases Bs with
    | nil => simp at h2
    | cons r Bs =>
      rw [List.map_cons, List.map_cons] at h2
      obtain ⟨e1, e2⟩ := List.cons.inj h2
      simp only [List.length_cons] at h4
      have hr := h3 r (by simp)
      have hg : B[Bp.length]? = some r := by rw [h1]; simp
      have h5 := (rowL_len (Bp.length : Int) r 0).1
      rw [impl_namesWhere_l1, bnd (show impl_namesWhere_l2 ch Bp.length y fuel acc 0 = some (acc ++ rowL (Bp.length : Int) r 0) from or_i2 ch Bp.length y r e1 hr (hc Bp.length r hg) r [] fuel acc rfl (by omega) (by omega))]
      have := ih Bs (Bp ++ [r]) (acc ++ rowL (Bp.length : Int) r 0) (by rw [h1]; simp) e2 (fun q hq => h3 q (by simp [hq])) (by simp only [List.length_append]; omega)
      rw [show (Bp ++ [r]).length = Bp.length + 1 from by simp] at this
      rw [this, allL, List.append_assoc]
def nmL (l : List Item) : List Nat := l.map fun it => it.names.length
theorem nm_set {l : List Item} {i : Int} {it it' : Item} (h : getI l i = some it) (hn : it'.names = it.names) : nmL (l.set i.toNat it') = nmL l := by
  unfold getI at h
  split at h
  · unfold nmL
    rw [List.map_set]
    refine set_same ?_
    rw [List.getElem?_map, h, hn]; rfl
  · cases h
theorem chg_nm {x x' : HiState} {c : Change} {b : Bool} (h : spec_hiState_change_p x c = some (x', b)) : nmL x'.items = nmL x.items := by
  unfold spec_hiState_change_p at h
  obtain ⟨x1, _, h⟩ := bindE h
  obtain ⟨x3, _, h⟩ := bindE h
  obtain ⟨x5, _, h⟩ := bindE h
  obtain ⟨x7, _, h⟩ := bindE h
  cases hq : (!x1 || !x3 || !x5 || !x7) with
  | true => rw [hq, cond_true] at h; cases h; rfl
  | false =>
    rw [hq, cond_false] at h
    obtain ⟨x9, g9, h⟩ := bindE h
    obtain ⟨x11, _, h⟩ := bindE h
    cases hr : c.review with
    | true =>
      rw [hr, cond_true] at h
      obtain ⟨x13, _, h⟩ := bindE h
      obtain ⟨x15, _, h⟩ := bindE h
      cases hw : (x13 || x15 != c.mark) with
      | true => rw [hw, cond_true] at h; cases h; exact nm_set g9 rfl
      | false => rw [hw, cond_false] at h; cases h; exact nm_set g9 rfl
    | false =>
      rw [hr, cond_false] at h
      obtain ⟨x17, _, h⟩ := bindE h
      obtain ⟨x19, _, h⟩ := bindE h
      cases h
      exact nm_set g9 rfl
theorem run_nm : ∀ (ys : List Change) (lo : Option Int) (x z : HiState), runS lo x ys = some z → nmL z.items = nmL x.items := by
  intro ys
  induction ys with
  | nil => intro lo x z h; rw [runS] at h; cases h; rfl
  | cons c ys ih =>
    intro lo x z h
    rw [runS] at h
    split at h
    · rw [ih _ _ _ h]
      unfold chg
      cases hc : spec_hiState_change_p x c with
      | none => rfl
      | some p => exact chg_nm (b := p.2) hc
    · cases h
theorem same_OpenReviews {l : List Item} (hb : nameB l) (h : List Change) (hl : h.length ≤ 1048576) (fuel : Nat) (hf : 1048576 < fuel) : ∃ r, spec_OpenReviews_p fuel l h = some r ∧ impl_OpenReviews_p fuel l h = some r ∧ cIntSS r.1 ≤ 126 := by
  obtain ⟨b, b1, b2, b3, _⟩ := isHistory_eq hb h hl fuel hf
  unfold spec_OpenReviews_p impl_OpenReviews_p
  rw [bnd b1, bnd b2]
  cases b
  · exact ⟨([], false), rfl, rfl, by simp [cIntSS]⟩
  · obtain ⟨hi, h60, z, hz⟩ := b3 rfl
    obtain ⟨s', y, q1, q2, q3, q4⟩ := (stateOf_eq hi h hl 100000).2 z hz
    obtain ⟨y', p1, p2⟩ := hiRun_eq hi h hl 100000 hz
    obtain rfl : y = y' := by rw [q2] at p2; exact Option.some.inj p2
    simp only [Bool.not_true, cond_false]
    rw [bnd q1, bnd p1]
    have hnm : nmL y.items = nmL l := run_nm _ _ _ _ q2
    have hrow : ∀ (i : Nat) (r : List Bool), y.open'[i]? = some r → ∃ it, y.items[i]? = some it ∧ r.length = it.names.length ∧ r.length ≤ 3 := by
      intro i r hr
      have hil := (List.getElem?_eq_some_iff.1 hr).1
      rw [q4.2.1] at hil
      have hg := List.getElem?_eq_getElem hil
      have := q4.2.2 i _ r hg hr
      exact ⟨_, hg, this, by rw [this]; exact (q4.1.2 _ (List.getElem_mem hil)).1.2⟩
    have hr3 : ∀ r ∈ y.open', r.length ≤ 3 := by
      intro r hr
      obtain ⟨i, hi⟩ := List.getElem?_of_mem hr
      obtain ⟨_, _, _, h3⟩ := hrow i r hi
      exact h3
    have h14 := q4.1.1
    have hol := q4.2.1
    have hlens : l.map (fun it => it.names.length) = y.open'.map (fun r => r.length) := by
      rw [show l.map (fun it => it.names.length) = nmL l from rfl, ← hnm]
      unfold nmL
      apply List.ext_getElem?
      intro i
      rw [List.getElem?_map, List.getElem?_map]
      cases hr : y.open'[i]? with
      | none =>
        rw [List.getElem?_eq_none (by have := List.getElem?_eq_none_iff.1 hr; omega)]; rfl
      | some r =>
        obtain ⟨it, g1, g2, _⟩ := hrow i r hr
        rw [g1]; simp [g2]
    have hs := or_s1 (y, true) y.open' [] fuel [] rfl (by omega) hr3 (by simp; omega) (by simp; omega)
    have hi1 := or_i1 (fun a0 a1 => impl_OpenReviews_c1_p a0 a1 s') fuel hf y.open' (fun i r hr k hk => by
      have hil := (List.getElem?_eq_some_iff.1 hr).1
      have h3 := hr3 r (List.mem_of_getElem? hr)
      unfold impl_OpenReviews_c1_p
      rw [mapOk_of q3.2.1 (in64_of (by omega) (by omega)), need_t, Option.bind_some, q3.2.2]
      unfold opn
      rw [if_pos (by omega)]
      simp only [Int.toNat_natCast, hr, Option.bind_some]
      rw [List.getElem?_eq_getElem hk]; rfl) l y.open' [] [] rfl hlens hr3 (by simp; omega)
    have hal := allL_len y.open' 0 hr3
    refine ⟨([] ++ allL y.open' 0, true), hs, ?_, ?_⟩
    · dsimp only
      rw [show impl_namesWhere_p fuel l (fun a0 a1 => impl_OpenReviews_c1_p a0 a1 s') = some ([] ++ allL y.open' 0) from hi1]; rfl
    · show cIntSS ([] ++ allL y.open' 0) ≤ 126
      rw [List.nil_append, c_two _ hal.2]; omega

end Go.Proofs.Ytheaoahofklidaa

/- Plain lemmas: what the functions compute is what the reference says, in plain Lean. No condition. -/
import Derived.Test.YtegdphhfimaieacGreatPPanel2
set_option maxRecDepth 4000
set_option maxHeartbeats 1000000
set_option linter.unusedVariables false
set_option linter.unusedSimpArgs false
set_option linter.unusedSectionVars false

namespace Go.Proofs.YtegdphhfimaieacGreat
open Go.AM

def cntC (l : List Official) (p : List Int) (c : Int) : Nat := (p.filter fun n => decide (clubN l n = c)).length
theorem cntC_snoc (l : List Official) (p : List Int) (y c : Int) : cntC l (p ++ [y]) c = cntC l p c + if clubN l y = c then 1 else 0 := by
  unfold cntC
  rw [List.filter_append, List.length_append]
  by_cases h : clubN l y = c
  · simp [h]
  · simp [h]
theorem cntC_le (l : List Official) (p q : List Int) (c : Int) : cntC l p c ≤ cntC l (p ++ q) c := by
  unfold cntC
  rw [List.filter_append, List.length_append]; omega
theorem cntC_len (l : List Official) (p : List Int) (c : Int) : cntC l p c ≤ p.length := List.length_filter_le _ _
def CntV (l : List Official) (p v : List Int) : Prop := v.length = 21 ∧ ∀ c : Nat, c < 21 → v[c]? = some ((cntC l p (c : Int) : Nat) : Int)
theorem cntV_nil (l : List Official) : CntV l [] (List.replicate 21 0) := by
  refine ⟨by simp, fun c hc => ?_⟩
  rw [List.getElem?_replicate, if_pos hc]; rfl
theorem cntV_step {l : List Official} {p v : List Int} (h : CntV l p v) (hp : p.length ≤ 1048576) {y : Int} (hc : 0 ≤ clubN l y ∧ clubN l y ≤ 20) : getI v (clubN l y) = some ((cntC l p (clubN l y) : Nat) : Int) ∧ CntV l (p ++ [y]) (v.set (clubN l y).toNat (w64 (((cntC l p (clubN l y) : Nat) : Int) + 1))) ∧
    getI (v.set (clubN l y).toNat (w64 (((cntC l p (clubN l y) : Nat) : Int) + 1))) (clubN l y) = some ((cntC l (p ++ [y]) (clubN l y) : Nat) : Int) := by
  obtain ⟨C, hC⟩ : ∃ C : Nat, clubN l y = (C : Int) := ⟨(clubN l y).toNat, by omega⟩
  have h1 := h.2 C (by omega)
  have h2 := cntC_len l p (clubN l y)
  have h3 := cntC_snoc l p y (clubN l y)
  rw [if_pos rfl] at h3
  have hw : w64 (((cntC l p (clubN l y) : Nat) : Int) + 1) = ((cntC l (p ++ [y]) (clubN l y) : Nat) : Int) := by rw [w64_in (by omega), h3]; omega
  rw [hw]
  have hset : (v.set (clubN l y).toNat ((cntC l (p ++ [y]) (clubN l y) : Nat) : Int))[C]? = some ((cntC l (p ++ [y]) (clubN l y) : Nat) : Int) := by
    rw [show (clubN l y).toNat = C from by omega, List.getElem?_set_self (by rw [h.1]; omega)]
  refine ⟨by rw [getI_of (k := C) hC, h1, hC], ⟨by simpa using h.1, fun c hc' => ?_⟩, by rw [getI_of (k := C) hC]; exact hset⟩
  by_cases e : c = C
  · subst e; rw [hset, hC]
  · rw [List.getElem?_set_ne (by omega), h.2 c hc', cntC_snoc, if_neg (by omega)]; simp
def PanOk (l : List Official) (clubs : List Int) (level most : Int) (p : List Int) : Prop := ((1 ≤ p.length ∧ p.length ≤ 9) ∧ UpOk p 1 999) ∧ (∀ n ∈ p, n ∈ eliK clubs level l) ∧ ∀ c, ((cntC l p c : Nat) : Int) ≤ most
theorem eli_club {l : List Official} (h : OffOk l) {clubs : List Int} {level n : Int} (hn : n ∈ eliK clubs level l) : ∃ i x, spec_paFind_p l n = some i ∧ getI l i = some x ∧ x.club = clubN l n ∧ 1 ≤ clubN l n ∧ clubN l n ≤ 20 := found_off h (eli_mem hn)
theorem ret_paIs_l {l : List Official} (h : OffOk l) (clubs : List Int) (level most : Int) (p : List Int) (hp : p.length ≤ 1048576) : ∀ (ys pre : List Int) (v : List Int), p = pre ++ ys → CntV l pre v → (∀ n ∈ pre, n ∈ eliK clubs level l) → (∀ c, ((cntC l pre c : Nat) : Int) ≤ most) →
    Ret (spec_paIs_l1 l most p (eliK clubs level l) ys pre.length v) (PanOk l clubs level most p) := by
  intro ys
  induction ys with
  | nil =>
    intro pre v h1 h2 h3 h4
    rw [List.append_nil] at h1
    subst h1
    rw [spec_paIs_l1]
    obtain ⟨b, b1, b2⟩ := ret_l1In (p.length : Int) 1 9
    rw [bnd b1]
    cases b
    · exact .f fun k => absurd (b2.2 (by have := k.1.1; omega)) (by simp)
    · obtain ⟨c, c1, c2⟩ := ret_l1Rising p 1 999 hp
      rw [opt_t, bnd c1]
      exact .some (c2.trans ⟨fun k => ⟨⟨by have := b2.1 rfl; omega, k⟩, h3, h4⟩, fun k => k.1.2⟩)
  | cons y ys ih =>
    intro pre v h1 h2 h3 h4
    rw [spec_paIs_l1]
    obtain ⟨b, b1, b2⟩ := ret_l1Has (eliK clubs level l) y
    rw [bnd b1]
    cases b
    · exact .f fun k => absurd (b2.2 (k.2.1 y (by rw [h1]; simp))) (by simp)
    · have hy := b2.1 rfl
      obtain ⟨i, x, i1, i2, i3, i4, i5⟩ := eli_club h hy
      obtain ⟨g1, g2, g3⟩ := cntV_step h2 (by rw [h1] at hp; simp at hp; omega) (y := y) (by omega)
      simp only [Bool.not_true, cond_false]
      rw [bnd i1, bnd i2, i3, bnd g1, bnd g3]
      by_cases hm : ((cntC l (pre ++ [y]) (clubN l y) : Nat) : Int) > most
      · rw [decide_eq_true hm]
        exact .f fun k => by
          have := k.2.2 (clubN l y)
          have := cntC_le l (pre ++ [y]) ys (clubN l y)
          rw [List.append_assoc, List.singleton_append, ← h1] at this
          omega
      · rw [decide_eq_false hm, cond_false]
        have := ih (pre ++ [y]) _ (by rw [h1]; simp) g2 (fun n hn => by
          rcases List.mem_append.1 hn with hn | hn
          · exact h3 n hn
          · rw [List.mem_singleton.1 hn]; exact hy) (fun c => by
          by_cases e : clubN l y = c
          · subst e; omega
          · rw [cntC_snoc, if_neg e]; exact h4 c)
        rw [show (pre ++ [y]).length = pre.length + 1 from by simp] at this
        exact this
theorem ret_paIs {l : List Official} (h : OffOk l) (clubs : List Int) (level most : Int) (hm : 1 ≤ most) (p : List Int) (hp : p.length ≤ 1048576) (fuel : Nat) (hf : 1048576 < fuel) : Ret (spec_paIs_p fuel l clubs level most p) (PanOk l clubs level most p) := by
  unfold spec_paIs_p
  rw [bnd (paEligible_eq h clubs level fuel hf), show (need (decide (0 ≤ 21) && fitsB 8 (21 : Int).toNat)) = some () from rfl, Option.bind_some]
  exact ret_paIs_l h clubs level most p hp p [] (List.replicate 21 0) rfl (cntV_nil l) (by simp) (fun c => by have : cntC l [] c = 0 := rfl; omega)
theorem clubSizes_l {l : List Official} (h : OffOk l) (clubs : List Int) (level : Int) : ∀ (ys pre : List Int) (k : Nat) (v : List Int), pre.length + ys.length ≤ 1048576 → (∀ n ∈ ys, n ∈ eliK clubs level l) → CntV l pre v → ∃ v', impl_clubSizes_l1 l ys k v = some v' ∧ CntV l (pre ++ ys) v' := by
  intro ys
  induction ys with
  | nil => intro pre k v _ _ h2; exact ⟨v, by rw [impl_clubSizes_l1], by simpa using h2⟩
  | cons y ys ih =>
    intro pre k v hp hy h2
    simp only [List.length_cons] at hp
    obtain ⟨i, x, i1, i2, i3, i4, i5⟩ := eli_club h (hy y (by simp))
    obtain ⟨g1, g2, g3⟩ := cntV_step h2 (by omega) (y := y) (by omega)
    rw [impl_clubSizes_l1, bnd (show impl_clubOf_p l y = some (clubN l y) from clubOf_eq y l 0), bnd g1]
    obtain ⟨v', v1, v2⟩ := ih (pre ++ [y]) (k + 1) _ (by simp; omega) (fun n hn => hy n (by simp [hn])) g2
    exact ⟨v', v1, by simpa using v2⟩
theorem max_l (x : List Int) (hx : x.length ≤ 1000) : ∀ (ys pre : List Int) (fuel : Nat) (m : Int), x = pre ++ ys → ys.length < fuel → ∃ r, slices_Max_int_l1 x fuel m (pre.length : Int) = some r ∧ ∀ M, r ≤ M ↔ m ≤ M ∧ ∀ y ∈ ys, y ≤ M := by
  intro ys
  induction ys with
  | nil =>
    intro pre fuel m h hf
    obtain ⟨f, rfl⟩ := Nat.exists_eq_succ_of_ne_zero (by omega : fuel ≠ 0)
    rw [slices_Max_int_l1, decide_eq_false (by rw [h]; simp)]
    exact ⟨m, rfl, by simp⟩
  | cons y ys ih =>
    intro pre fuel m h hf
    obtain ⟨f, rfl⟩ := Nat.exists_eq_succ_of_ne_zero (by omega : fuel ≠ 0)
    simp only [List.length_cons] at hf
    have hlen : x.length = pre.length + (ys.length + 1) := by rw [h]; simp
    rw [slices_Max_int_l1, decide_eq_true (by omega), cond_true, bnd (getI_app h rfl), w64_in (by omega)]
    obtain ⟨r, r1, r2⟩ := ih (pre ++ [y]) f (max m y) (by rw [h]; simp) (by omega)
    rw [show (pre ++ [y]).length = pre.length + 1 from by simp, Int.natCast_add, Int.natCast_one] at r1
    refine ⟨r, r1, fun M => ?_⟩
    rw [r2]
    constructor
    · rintro ⟨a, b⟩
      refine ⟨by omega, fun z hz => ?_⟩
      rcases List.mem_cons.1 hz with rfl | hz
      · omega
      · exact b z hz
    · rintro ⟨a, b⟩
      exact ⟨by have := b y (by simp); omega, fun z hz => b z (by simp [hz])⟩
theorem max_eq (x : List Int) (hx : x.length ≤ 1000) (h0 : 1 ≤ x.length) (fuel : Nat) (hf : 1048576 < fuel) : ∃ r, slices_Max_int_p fuel x = some r ∧ ∀ M, r ≤ M ↔ ∀ y ∈ x, y ≤ M := by
  unfold slices_Max_int_p
  cases x with
  | nil => simp at h0
  | cons y ys =>
    rw [decide_eq_false (by simp; omega), cond_false, bnd (show getI (y :: ys) 0 = some y from rfl)]
    obtain ⟨r, r1, r2⟩ := max_l (y :: ys) hx ys [y] fuel y rfl (by simp at hx; omega)
    exact ⟨r, r1, fun M => by rw [r2]; simp⟩
theorem ret_isPanel_l {l : List Official} (h : OffOk l) (clubs : List Int) (level most : Int) (hm : 1 ≤ most) (p : List Int) (hp : p.length ≤ 1048576) (fuel : Nat) (hf : 1048576 < fuel) (hok : (1 ≤ p.length ∧ p.length ≤ 9) ∧ UpOk p 0 999) : ∀ (ys pre : List Int) (k : Nat), p = pre ++ ys → (∀ n ∈ pre, n ∈ eliK clubs level l) →
    Ret (impl_isPanel_l1 l most p fuel (eliK clubs level l) ys k) (PanOk l clubs level most p) := by
  intro ys
  induction ys with
  | nil =>
    intro pre k h1 h2
    rw [List.append_nil] at h1
    subst h1
    rw [impl_isPanel_l1]
    obtain ⟨v, v1, v2⟩ := clubSizes_l h clubs level p [] 0 (List.replicate 21 0) (by simpa using hp) h2 (cntV_nil l)
    rw [List.nil_append] at v2
    rw [bnd (show impl_clubSizes_p l p = some v from by unfold impl_clubSizes_p; rw [show (need (decide (0 ≤ 21) && fitsB 8 (21 : Int).toNat)) = some () from rfl, Option.bind_some]; exact v1)]
    obtain ⟨r, r1, r2⟩ := max_eq v (by rw [v2.1]; omega) (by rw [v2.1]; omega) fuel hf
    rw [bnd r1]
    refine .some ?_
    rw [decide_eq_true_eq, r2]
    have hpos : ∀ n ∈ p, 1 ≤ n := fun n hn => by
      obtain ⟨o, o1, o2⟩ := eli_mem (h2 n hn)
      have := (h.1 o o1).1; omega
    constructor
    · intro k
      refine ⟨⟨hok.1, fun n hn => ⟨hpos n hn, (hok.2.1 n hn).2⟩, hok.2.2⟩, h2, fun c => ?_⟩
      by_cases hc : 0 ≤ c ∧ c < 21
      · have := v2.2 c.toNat (by omega)
        rw [show ((c.toNat : Nat) : Int) = c from by omega] at this
        exact k _ (List.mem_of_getElem? this)
      · have : cntC l p c = 0 := by
          unfold cntC
          rw [List.length_eq_zero_iff, List.filter_eq_nil_iff]
          intro n hn
          obtain ⟨_, _, _, _, _, i4, i5⟩ := eli_club h (h2 n hn)
          simp only [decide_eq_true_eq]; omega
        omega
    · intro k z hz
      obtain ⟨c, hc⟩ := List.getElem?_of_mem hz
      have hlt := (List.getElem?_eq_some_iff.1 hc).1
      have := v2.2 c (by rw [← v2.1]; exact hlt)
      rw [hc] at this
      rw [Option.some.inj this]
      exact k.2.2 c
  | cons y ys ih =>
    intro pre k h1 h2
    rw [impl_isPanel_l1]
    obtain ⟨b, b1, b2⟩ := contains_eq (eliK clubs level l) y
    rw [bnd b1]
    cases b
    · exact .f fun k => absurd (b2.2 (k.2.1 y (by rw [h1]; simp))) (by simp)
    · simp only [Bool.not_true, cond_false]
      exact ih (pre ++ [y]) (k + 1) (by rw [h1]; simp) (fun n hn => by
        rcases List.mem_append.1 hn with hn | hn
        · exact h2 n hn
        · rw [List.mem_singleton.1 hn]; exact b2.1 rfl)
theorem ret_isPanel {l : List Official} (h : OffOk l) (clubs : List Int) (level most : Int) (hm : 1 ≤ most) (p : List Int) (hp : p.length ≤ 1048576) (fuel : Nat) (hf : 1048576 < fuel) : Ret (impl_isPanel_p fuel l clubs level most p) (PanOk l clubs level most p) := by
  unfold impl_isPanel_p
  obtain ⟨b, b1, b2⟩ := ret_within (p.length : Int) 1 9
  rw [bnd b1]
  cases b
  · exact .f fun k => absurd (b2.2 (by have := k.1.1; omega)) (by simp)
  obtain ⟨c, c1, c2⟩ := ret_isIncreasing p 1000 (by omega) hp
  simp only [Bool.not_true, Bool.not_false, opt_t, Bool.false_or]
  rw [bnd c1]
  cases c
  · exact .f fun k => absurd (c2.2 ⟨fun n hn => by have := k.1.2.1 n hn; omega, k.1.2.2⟩) (by simp)
  simp only [Bool.not_true, cond_false]
  rw [bnd (eligible_eq h clubs level)]
  exact ret_isPanel_l h clubs level most hm p hp fuel hf ⟨by have := b2.1 rfl; omega, c2.1 rfl⟩ p [] 0 rfl (by simp)
theorem isPanel_same {l : List Official} (h : OffOk l) (clubs : List Int) (level most : Int) (hm : 1 ≤ most) (p : List Int) (hp : p.length ≤ 1048576) (fuel : Nat) (hf : 1048576 < fuel) : ∃ b, spec_paIs_p fuel l clubs level most p = some b ∧ impl_isPanel_p fuel l clubs level most p = some b ∧ (b = true → PanOk l clubs level most p) := by
  obtain ⟨b, b1, b2⟩ := ret_paIs h clubs level most hm p hp fuel hf
  obtain ⟨c, c1, c2⟩ := ret_isPanel h clubs level most hm p hp fuel hf
  obtain rfl : b = c := Bool.eq_iff_iff.2 (b2.trans c2.symm)
  exact ⟨b, b1, c1, b2.1⟩
theorem paWithoutR_l (gone : Int) : ∀ (ys : List Int) (k : Nat) (acc : List Int), acc.length + ys.length ≤ 1048576 → spec_paWithout_l1 gone ys k acc = some (acc ++ ys.filter fun n => decide (n ∉ [gone])) := by
  intro ys
  induction ys with
  | nil => intro k acc _; rw [spec_paWithout_l1]; simp
  | cons y ys ih =>
    intro k acc h
    simp only [List.length_cons] at h
    rw [spec_paWithout_l1]
    by_cases e : y = gone
    · rw [show (y != gone) = false from by simp [e], cond_false, ih (k + 1) acc (by omega)]
      simp [e]
    · rw [show (y != gone) = true from by simp [e], cond_true, bnd (x := ()) (by rw [fits_of (by simp; omega)]; rfl), ih (k + 1) _ (by simp; omega)]
      simp [e]
theorem replace_l {l : List Official} (h : OffOk l) (clubs : List Int) (level most : Int) (hm : 1 ≤ most) (p : List Int) (hp : PanOk l clubs level most p) (gone : Int) (fuel : Nat) (hf : 1048576 < fuel) : ∀ (ys : List Int) (k : Nat),
    ∃ r : List Int × Bool, spec_ReplaceJudge_l1 l clubs level most p gone fuel ys k = some r ∧ impl_ReplaceJudge_l1 l clubs level most p gone fuel ys k = some r ∧ r.1.length ≤ 10 := by
  intro ys
  induction ys with
  | nil => intro k; rw [spec_ReplaceJudge_l1, impl_ReplaceJudge_l1]; exact ⟨_, rfl, rfl, by simp⟩
  | cons y ys ih =>
    intro k
    have h9 := hp.1.1.2
    rw [spec_ReplaceJudge_l1, impl_ReplaceJudge_l1]
    obtain ⟨b, b1, b2⟩ := ret_l1Has p y
    obtain ⟨b', b3, b4⟩ := contains_eq p y
    obtain rfl : b = b' := Bool.eq_iff_iff.2 (b2.trans b4.symm)
    rw [bnd b1, bnd b3]
    cases b
    · have hny : y ∉ p := fun q => absurd (b2.2 q) (by simp)
      simp only [cond_false]
      generalize hq : (p.filter fun n => decide (n ∉ [gone])) = q
      have hql : q.length ≤ p.length := by rw [← hq]; exact List.length_filter_le _ _
      rw [bnd (show spec_paWithout_p p gone = some q from by rw [← hq]; exact paWithoutR_l gone p 0 [] (by simp; omega)), bnd (show impl_without_p p [gone] = some q from by rw [← hq]; exact without_eq p [gone] (by omega))]
      have hqs : q.Pairwise (· < ·) := by rw [← hq]; exact hp.1.2.2.filter _
      have hqy : y ∉ q := by rw [← hq]; exact fun k => hny (List.mem_filter.1 k).1
      obtain ⟨g, g1, g2, g3, g4⟩ := put_eq q y hqs (by omega) fuel hf
      have hg : g = sortI (q ++ [y]) := by
        refine sort_of g2 ?_ fun z => ?_
        · rw [List.nodup_append]
          exact ⟨hqs.imp fun h => by omega, by simp, fun a ha b hb => by rw [List.mem_singleton.1 hb]; exact fun e => hqy (e ▸ ha)⟩
        · rw [g3, List.mem_append, List.mem_singleton]
      rw [bnd g1, fits_of (by simp; omega), need_t, Option.bind_some, bnd (slSort_eq _ (by simp; omega)), ← hg]
      obtain ⟨b, e1, e2, e3⟩ := isPanel_same h clubs level most hm g (by omega) fuel hf
      rw [bnd e1, bnd e2]
      cases b
      · exact ih (k + 1)
      · exact ⟨_, rfl, rfl, by show g.length ≤ 10; omega⟩
    · exact ih (k + 1)
theorem same_ReplaceJudge (K : List Int) (l : List Official) (hl : l.length ≤ 1048576) (clubs : List Int) (hcl : clubs.length ≤ 1048576) (level most : Int) (p : List Int) (hp : p.length ≤ 1048576) (gone : Int) (fuel : Nat) (hf : 1048576 < fuel) : ∃ r : List Int × Bool, spec_ReplaceJudge_p fuel K l clubs level most p gone = some r ∧ impl_ReplaceJudge_p fuel K l clubs level most p gone = some r ∧ r.1.length ≤ 10 := by
  unfold spec_ReplaceJudge_p impl_ReplaceJudge_p spec_paMost_p
  obtain ⟨b, a1, a2⟩ := ret_dwKeys K
  obtain ⟨b', a3, a4⟩ := ret_areKeys K
  obtain rfl : b = b' := Bool.eq_iff_iff.2 (a2.trans a4.symm)
  rw [bnd a1, bnd a3]
  cases b
  · exact ⟨_, rfl, rfl, by simp⟩
  simp only [Bool.not_true, Bool.not_false, opt_t, Bool.false_or]
  obtain ⟨b, c1, c2⟩ := ret_paAsked l hl clubs hcl level
  obtain ⟨b', c3, c4⟩ := ret_canPanel l hl clubs hcl level most
  obtain ⟨d, d1, d2⟩ := ret_l1In most 1 9
  rw [bnd c1, bnd c3, d1]
  cases b
  · have : b' = false := by
      cases b'
      · rfl
      · exact absurd (c2.2 (c4.1 rfl).1) (by simp)
    rw [this]
    exact ⟨_, rfl, rfl, by simp⟩
  simp only [Bool.not_true, Bool.not_false, opt_t, Bool.false_or, Option.bind_some]
  have hA := c2.1 rfl
  cases d
  · have : b' = false := by
      cases b'
      · rfl
      · exact absurd (d2.2 (c4.1 rfl).2) (by simp)
    rw [this]
    exact ⟨_, rfl, rfl, by simp⟩
  have hb' : b' = true := c4.2 ⟨hA, d2.1 rfl⟩
  rw [hb']
  simp only [Bool.not_true, Bool.not_false, opt_t, Bool.false_or, Option.bind_some]
  have hm := (d2.1 rfl).1
  have hO := hA.1
  obtain ⟨e, e1, e2, e3⟩ := isPanel_same hO clubs level most hm p hp fuel hf
  rw [bnd e1, bnd e2]
  cases e
  · exact ⟨_, rfl, rfl, by simp⟩
  simp only [Bool.not_true, Bool.not_false, opt_t, Bool.false_or]
  obtain ⟨f, f1, f2⟩ := ret_l1Has p gone
  obtain ⟨f', f3, f4⟩ := contains_eq p gone
  obtain rfl : f = f' := Bool.eq_iff_iff.2 (f2.trans f4.symm)
  rw [bnd f1, bnd f3]
  cases f
  · exact ⟨_, rfl, rfl, by simp⟩
  simp only [Bool.not_true, cond_false]
  have hK := a2.1 rfl
  have hel := eli_len hO clubs level
  unfold spec_paOrder_p
  rw [bnd (paEligible_eq hO clubs level fuel hf), bnd (eligible_eq hO clubs level), bnd (dwNumbers_eq K _ hK.2 (by omega) (by omega) fuel hf), bnd (shuffledNumbers_eq K _ hK.2 (by omega) (by omega) fuel hf)]
  exact replace_l hO clubs level most hm p (e3 rfl) gone fuel hf _ 0

end Go.Proofs.YtegdphhfimaieacGreat

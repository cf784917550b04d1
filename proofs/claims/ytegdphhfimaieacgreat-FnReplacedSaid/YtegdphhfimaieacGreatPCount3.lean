/- Plain lemmas: what the functions compute is what the reference says, in plain Lean. No condition. -/
import Derived.Test.YtegdphhfimaieacGreatPCount2
set_option maxRecDepth 4000
set_option maxHeartbeats 1000000
set_option linter.unusedVariables false
set_option linter.unusedSimpArgs false
set_option linter.unusedSectionVars false

namespace Go.Proofs.YtegdphhfimaieacGreat
open Go.AM

theorem bit_eq (s k : Nat) (hs : s ≤ 1048576) (hk : k ≤ 20) : (IntKind.wrap .i64 ((BitVec.ofInt 64 ((s : Int).fdiv (2 ^ (min (IntKind.wrap .u64 (k : Int)).toNat 64))) &&& BitVec.ofInt 64 1).toNat : Int)) = ((s / 2 ^ k % 2 : Nat) : Int) := by
  have hu : IntKind.wrap .u64 (k : Int) = (k : Int) := by
    unfold IntKind.wrap
    simp [IntKind.signed, IntKind.bits]
    omega
  have h1 : (s : Int).fdiv (2 ^ (min (k : Int).toNat 64)) = ((s / 2 ^ k : Nat) : Int) := by
    rw [Int.toNat_natCast, Nat.min_eq_left (by omega), Int.fdiv_eq_ediv_of_nonneg _ (Int.le_of_lt (Int.pow_pos (by omega)))]
    rw [Int.natCast_ediv, Int.natCast_pow]; rfl
  have hq : s / 2 ^ k ≤ 1048576 := Nat.le_trans (Nat.div_le_self _ _) hs
  rw [hu, h1]
  generalize s / 2 ^ k = x at hq ⊢
  rw [BitVec.ofInt_natCast, BitVec.toNat_and, BitVec.toNat_ofNat, show (BitVec.ofInt 64 1).toNat = 1 from by decide, Nat.and_one_is_mod, Nat.mod_eq_of_lt (a := x) (show x < 2 ^ 64 by omega)]
  have h2 : x % 2 < 2 := Nat.mod_lt _ (by decide)
  generalize x % 2 = z at h2 ⊢
  exact w64_in (by omega)
theorem need_u64 (k : Nat) (hk : k ≤ 1000) : need (decide (0 ≤ IntKind.wrap .u64 (k : Int))) = some () := by
  have hu : IntKind.wrap .u64 (k : Int) = (k : Int) := by
    unfold IntKind.wrap
    simp [IntKind.signed, IntKind.bits]
    omega
  rw [hu, decide_eq_true (by omega)]; rfl
theorem spec_l2 (l : List Official) (clubs : List Int) (level most n : Int) (fuel : Nat) (v : Int) (s : Nat) (hs : s ≤ 1048576) : ∀ (ys : List Int) (k : Nat) (acc : List Int), k + ys.length ≤ 20 → acc.length + ys.length ≤ 20 →
    spec_CountPanels_l2 l clubs level most n fuel v (s : Int) ys k acc = (opt (((acc ++ selB (s / 2 ^ k) ys).length : Int) == n) default (spec_paIs_p fuel l clubs level most (acc ++ selB (s / 2 ^ k) ys))).bind fun x157 =>
    cond ((((acc ++ selB (s / 2 ^ k) ys).length : Int) == n) && x157) (some (w64 (v + 1))) (some v) := by
  intro ys
  induction ys with
  | nil => intro k acc _ _; rw [spec_CountPanels_l2, selB, List.append_nil]
  | cons y ys ih =>
    intro k acc h1 h2
    simp only [List.length_cons] at h1 h2
    rw [spec_CountPanels_l2, need_u64 k (by omega), Option.bind_some, bit_eq s k hs (by omega), selB]
    have hd : s / 2 ^ k / 2 = s / 2 ^ (k + 1) := by rw [Nat.div_div_eq_div_mul, ← Nat.pow_succ]
    have hb : (((s / 2 ^ k % 2 : Nat) : Int) == 1) = (s / 2 ^ k % 2 == 1) := by
      rw [Bool.eq_iff_iff, beq_iff_eq, beq_iff_eq]; omega
    rw [hb, hd]
    cases s / 2 ^ k % 2 == 1
    · rw [cond_false, cond_false]
      exact ih (k + 1) acc (by omega) (by omega)
    · rw [cond_true, cond_true, fits_of (by simp; omega), need_t, Option.bind_some, ih (k + 1) (acc ++ [y]) (by omega) (by simp; omega)]
      simp only [List.append_assoc, List.singleton_append]
def clN (l : List Official) (x : Int) : Nat := (clubN l x).toNat
theorem ccnt_C {l : List Official} {q : List Int} (h : ∀ x ∈ q, 1 ≤ clubN l x ∧ clubN l x ≤ 20) (c : Nat) : ccnt (clN l) q c = cntC l q (c : Int) := by
  unfold ccnt cntC clN
  congr 1
  refine List.filter_congr fun x hx => ?_
  have := h x hx
  exact decide_eq_decide.2 (by omega)
theorem eli_clubs {l : List Official} (h : OffOk l) (clubs : List Int) (level : Int) : ∀ x ∈ eliK clubs level l, 1 ≤ clubN l x ∧ clubN l x ≤ 20 := by
  intro x hx
  obtain ⟨_, _, _, _, _, a, b⟩ := eli_club h hx
  exact ⟨a, b⟩
theorem eli_range {l : List Official} (h : OffOk l) {clubs : List Int} {level x : Int} (hx : x ∈ eliK clubs level l) : 1 ≤ x ∧ x ≤ 999 := by
  obtain ⟨o, ho, rfl⟩ := eli_mem hx
  exact (h.1 o ho).1
theorem panOk_good {l : List Official} (h : OffOk l) (clubs : List Int) (level : Int) (M N : Nat) (hN : 1 ≤ N ∧ N ≤ 9) {q : List Int} (hq : q.Sublist (eliK clubs level l)) : (q.length = N ∧ PanOk l clubs level (M : Int) q) ↔ goodQ (clN l) (fun _ => M) N q = true := by
  have hm : ∀ x ∈ q, x ∈ eliK clubs level l := fun x hx => hq.subset hx
  have hcl : ∀ x ∈ q, 1 ≤ clubN l x ∧ clubN l x ≤ 20 := fun x hx => eli_clubs h clubs level x (hm x hx)
  rw [goodQ_iff]
  constructor
  · rintro ⟨h1, h2⟩
    exact ⟨h1, fun c _ => by rw [ccnt_C hcl]; have := h2.2.2 (c : Int); omega⟩
  · rintro ⟨h1, h2⟩
    refine ⟨h1, ⟨by omega, fun x hx => eli_range h (hm x hx), (eli_lt h clubs level).sublist hq⟩, hm, fun c => ?_⟩
    by_cases hc : 0 ≤ c ∧ c < 21
    · obtain ⟨k, rfl⟩ : ∃ k : Nat, c = (k : Int) := ⟨c.toNat, by omega⟩
      have := h2 k (by omega)
      rw [ccnt_C hcl] at this
      omega
    · have : cntC l q c = 0 := by
        unfold cntC
        rw [List.length_eq_zero_iff, List.filter_eq_nil_iff]
        intro x hx
        have := hcl x hx
        simp only [decide_eq_true_eq]; omega
      omega
theorem spec_l1 {l : List Official} (h : OffOk l) (clubs : List Int) (level : Int) (M N : Nat) (hM : 1 ≤ M) (hN : 1 ≤ N ∧ N ≤ 9) (hE : (eliK clubs level l).length ≤ 14) (fuel : Nat) (hf : 1048576 < fuel) : ∀ (d s f : Nat), s + d = 2 ^ (eliK clubs level l).length → d < f →
    spec_CountPanels_l1 l clubs level (M : Int) (N : Int) fuel (eliK clubs level l) f ((totN (fun s => goodQ (clN l) (fun _ => M) N (selB s (eliK clubs level l))) s : Nat) : Int) (s : Int) = some (((totN (fun s => goodQ (clN l) (fun _ => M) N (selB s (eliK clubs level l))) (2 ^ (eliK clubs level l).length) : Nat) : Int), true) := by
  have hp : 2 ^ (eliK clubs level l).length ≤ 16384 := by
    have : (2 : Nat) ^ (eliK clubs level l).length ≤ 2 ^ 14 := Nat.pow_le_pow_right (by omega) hE
    have h14 : (2 : Nat) ^ 14 = 16384 := rfl
    omega
  have hu : IntKind.wrap .u64 ((eliK clubs level l).length : Int) = ((eliK clubs level l).length : Int) := by
    unfold IntKind.wrap
    simp [IntKind.signed, IntKind.bits]
    omega
  have hw : IntKind.wrap .i64 (1 * 2 ^ (min (IntKind.wrap .u64 ((eliK clubs level l).length : Int)).toNat 64)) = ((2 ^ (eliK clubs level l).length : Nat) : Int) := by
    rw [hu, Int.toNat_natCast, Nat.min_eq_left (by omega), Int.one_mul]
    have e : (2 : Int) ^ (eliK clubs level l).length = ((2 ^ (eliK clubs level l).length : Nat) : Int) := by rw [Int.natCast_pow]; rfl
    rw [e]
    generalize 2 ^ (eliK clubs level l).length = p at hp ⊢
    exact w64_in (by omega)
  intro d
  induction d with
  | zero =>
    intro s f hs hfd
    obtain ⟨f, rfl⟩ := Nat.exists_eq_succ_of_ne_zero (by omega : f ≠ 0)
    rw [spec_CountPanels_l1, need_u64 _ (by omega), Option.bind_some, hw, decide_eq_false (by omega), cond_false]
    rw [show s = 2 ^ (eliK clubs level l).length from by omega]
  | succ d ih =>
    intro s f hs hfd
    obtain ⟨f, rfl⟩ := Nat.exists_eq_succ_of_ne_zero (by omega : f ≠ 0)
    have ht := totN_le (fun s => goodQ (clN l) (fun _ => M) N (selB s (eliK clubs level l))) s
    have hsub := selB_sub (eliK clubs level l) s
    have hlen := hsub.length_le
    have hstep : spec_CountPanels_l2 l clubs level (M : Int) (N : Int) fuel ((totN (fun s => goodQ (clN l) (fun _ => M) N (selB s (eliK clubs level l))) s : Nat) : Int) (s : Int) (eliK clubs level l) 0 [] = some ((totN (fun s => goodQ (clN l) (fun _ => M) N (selB s (eliK clubs level l))) (s + 1) : Nat) : Int) := by
      rw [spec_l2 l clubs level _ _ fuel _ s (by omega) _ 0 [] (by omega) (by simp; omega), Nat.pow_zero, Nat.div_one, List.nil_append]
      have hgood := panOk_good h clubs level M N hN hsub
      have htot : totN (fun s => goodQ (clN l) (fun _ => M) N (selB s (eliK clubs level l))) (s + 1) = totN (fun s => goodQ (clN l) (fun _ => M) N (selB s (eliK clubs level l))) s + cond (goodQ (clN l) (fun _ => M) N (selB s (eliK clubs level l))) 1 0 := rfl
      rw [htot]
      by_cases hl : (selB s (eliK clubs level l)).length = N
      · obtain ⟨b, b1, b2⟩ := ret_paIs h clubs level (M : Int) (by omega) (selB s (eliK clubs level l)) (by omega) fuel hf
        have hb : b = goodQ (clN l) (fun _ => M) N (selB s (eliK clubs level l)) := Bool.eq_iff_iff.2 (b2.trans ⟨fun k => hgood.1 ⟨hl, k⟩, fun k => (hgood.2 k).2⟩)
        rw [show (((selB s (eliK clubs level l)).length : Int) == (N : Int)) = true from by rw [beq_iff_eq]; omega, opt_t, bnd b1, hb]
        cases goodQ (clN l) (fun _ => M) N (selB s (eliK clubs level l))
        · simp
        · simp only [Bool.and_self, cond_true]
          rw [w64_in (by omega)]; rfl
      · have hb : goodQ (clN l) (fun _ => M) N (selB s (eliK clubs level l)) = false := by
          cases hg : goodQ (clN l) (fun _ => M) N (selB s (eliK clubs level l))
          · rfl
          · exact absurd (hgood.2 hg).1 hl
        rw [show (((selB s (eliK clubs level l)).length : Int) == (N : Int)) = false from by rw [beq_eq_false_iff_ne]; omega, opt_f, Option.bind_some, hb]
        simp
    rw [spec_CountPanels_l1, need_u64 _ (by omega), Option.bind_some, hw, decide_eq_true (by omega), cond_true, bnd hstep, w64_in (n := (s : Int) + 1) (by omega)]
    have := ih (s + 1) f (by omega) (by omega)
    rw [show ((s + 1 : Nat) : Int) = (s : Int) + 1 from by omega] at this
    exact this
theorem sum_ind (a : Nat) : ∀ N : Nat, ((List.range N).map fun c => if a = c then 1 else 0).sum ≤ 1 ∧ (N ≤ a → ((List.range N).map fun c => if a = c then 1 else 0).sum = 0) := by
  intro N
  induction N with
  | zero => simp
  | succ N ih =>
    rw [List.range_succ, List.map_append, List.sum_append, List.map_cons, List.map_nil, List.sum_cons, List.sum_nil]
    by_cases e : a = N
    · subst e
      rw [if_pos rfl, ih.2 (Nat.le_refl _)]
      exact ⟨by omega, fun h => by omega⟩
    · rw [if_neg e]
      exact ⟨by have := ih.1; omega, fun h => by have := ih.2 (by omega); omega⟩
theorem sum_map_add (f g : Nat → Nat) : ∀ l : List Nat, (l.map fun c => f c + g c).sum = (l.map f).sum + (l.map g).sum
  | [] => rfl
  | x :: l => by simp only [List.map_cons, List.sum_cons, sum_map_add f g l]; omega
theorem ccnt_sum (cl : Int → Nat) (N : Nat) : ∀ q : List Int, ((List.range N).map (ccnt cl q)).sum ≤ q.length
  | [] => by
    have : ∀ l : List Nat, (l.map (ccnt cl [])).sum = 0 := by
      intro l
      induction l with
      | nil => rfl
      | cons x l ih => rw [List.map_cons, List.sum_cons, ih]; rfl
    rw [this]; exact Nat.zero_le _
  | y :: q => by
    have e : (List.range N).map (ccnt cl (y :: q)) = (List.range N).map fun c => ccnt cl q c + if cl y = c then 1 else 0 := List.map_congr_left fun c _ => ccnt_cons cl y q c
    rw [e, sum_map_add, List.length_cons]
    have := ccnt_sum cl N q
    have := (sum_ind (cl y) N).1
    omega
def szs (l : List Official) (E : List Int) : List Nat := (List.range 21).map (ccnt (clN l) E)
theorem szs_eq {l : List Official} {E v : List Int} (hE : ∀ x ∈ E, 1 ≤ clubN l x ∧ clubN l x ≤ 20) (h : CntV l E v) : v = encN (szs l E) := by
  apply List.ext_getElem?
  intro i
  unfold encN szs
  rw [List.getElem?_map, List.getElem?_map]
  by_cases hi : i < 21
  · rw [h.2 i hi, List.getElem?_range hi, Option.map_some, Option.map_some, ccnt_C hE]
  · rw [List.getElem?_eq_none (by rw [h.1]; omega), List.getElem?_eq_none (by simp; omega)]; rfl
theorem szs_tab (l : List Official) (E : List Int) (M : Nat) : (szs l E).map (fun s => (s, M)) = tabQ (clN l) E (fun _ => M) := by
  unfold szs tabQ
  rw [List.map_map]; rfl
def larg (l : List Official) (clubs : List Int) (level : Int) (M : Nat) : Nat := ((szs l (eliK clubs level l)).map fun s => min s M).sum
def cntP (l : List Official) (clubs : List Int) (level : Int) (M N : Nat) : Nat := cof (tabQ (clN l) (eliK clubs level l) (fun _ => M)) N
theorem clubs_eq {l : List Official} (h : OffOk l) (clubs : List Int) (level : Int) : impl_clubSizes_p l (eliK clubs level l) = some (encN (szs l (eliK clubs level l))) := by
  have hE := eli_len h clubs level
  obtain ⟨v', v1, v2⟩ := clubSizes_l h clubs level (eliK clubs level l) [] 0 (List.replicate 21 0) (by simp; omega) (fun _ hx => hx) (cntV_nil l)
  unfold impl_clubSizes_p
  rw [show (need (decide (0 ≤ 21) && fitsB 8 (21 : Int).toNat)) = some () from rfl, Option.bind_some]
  rw [List.nil_append] at v2
  rw [show (21 : Int).toNat = 21 from rfl, v1, szs_eq (eli_clubs h clubs level) v2]
theorem larg_i (M : Nat) (hM : M ≤ 9) : ∀ (ss : List Nat) (k v : Nat), v + 9 * ss.length ≤ 1000000 → impl_LargestPanel_l1 (M : Int) (encN ss) k (v : Int) = some (((v + (ss.map fun s => min s M).sum : Nat) : Int), true) := by
  intro ss
  induction ss with
  | nil => intro k v _; rw [show encN [] = [] from rfl, impl_LargestPanel_l1]; simp
  | cons s ss ih =>
    intro k v h
    simp only [List.length_cons] at h
    rw [show encN (s :: ss) = (s : Int) :: encN ss from rfl, impl_LargestPanel_l1, w64_in (by omega), show (v : Int) + min (s : Int) (M : Int) = ((v + min s M : Nat) : Int) from by omega, ih (k + 1) _ (by omega), List.map_cons, List.sum_cons, Nat.add_assoc]
theorem larg_s2 (M : Nat) (hM : M ≤ 9) : ∀ (ss : List Nat) (k v : Nat), v + 9 * ss.length ≤ 1000000 → spec_LargestPanel_l2 (M : Int) (encN ss) k (v : Int) = some (((v + (ss.map fun s => min s M).sum : Nat) : Int), true) := by
  intro ss
  induction ss with
  | nil => intro k v _; rw [show encN [] = [] from rfl, spec_LargestPanel_l2]; simp
  | cons s ss ih =>
    intro k v h
    simp only [List.length_cons] at h
    have hl : spec_l1Least_p (s : Int) (M : Int) = some ((min s M : Nat) : Int) := by
      unfold spec_l1Least_p
      by_cases hc : (s : Int) < (M : Int)
      · rw [decide_eq_true hc, cond_true]; congr 1; omega
      · rw [decide_eq_false hc, cond_false]; congr 1; omega
    rw [show encN (s :: ss) = (s : Int) :: encN ss from rfl, spec_LargestPanel_l2, bnd hl, w64_in (by omega), show (v : Int) + ((min s M : Nat) : Int) = ((v + min s M : Nat) : Int) from by omega, ih (k + 1) _ (by omega), List.map_cons, List.sum_cons, Nat.add_assoc]
theorem larg_s1 {l : List Official} (h : OffOk l) (clubs : List Int) (level most : Int) : ∀ (ys pre : List Int) (k : Nat) (v : List Int), pre.length + ys.length ≤ 1048576 → (∀ n ∈ ys, n ∈ eliK clubs level l) → CntV l pre v → ∃ v', spec_LargestPanel_l1 l most ys k v = spec_LargestPanel_l2 most v' 0 0 ∧ CntV l (pre ++ ys) v' := by
  intro ys
  induction ys with
  | nil => intro pre k v _ _ h2; exact ⟨v, by rw [spec_LargestPanel_l1], by simpa using h2⟩
  | cons y ys ih =>
    intro pre k v hp hy h2
    simp only [List.length_cons] at hp
    obtain ⟨i, x, i1, i2, i3, i4, i5⟩ := eli_club h (hy y (by simp))
    obtain ⟨g1, g2, g3⟩ := cntV_step h2 (by omega) (y := y) (by omega)
    rw [spec_LargestPanel_l1, bnd i1, bnd i2, i3, bnd g1]
    obtain ⟨v', v1, v2⟩ := ih (pre ++ [y]) (k + 1) _ (by simp; omega) (fun n hn => hy n (by simp [hn])) g2
    exact ⟨v', v1, by simpa using v2⟩
theorem asked_case (l : List Official) (hl : l.length ≤ 1048576) (clubs : List Int) (hc : clubs.length ≤ 1048576) (level most : Int) :
    (∃ M : Nat, most = (M : Int) ∧ (1 ≤ M ∧ M ≤ 9) ∧ AskOk l clubs level ∧ spec_paAsked_p l clubs level = some true ∧ spec_paMost_p most = some true ∧ impl_canPanel_p l clubs level most = some true) ∨
    (¬ (AskOk l clubs level ∧ (1 ≤ most ∧ most ≤ 9)) ∧ impl_canPanel_p l clubs level most = some false ∧ ∃ b c, spec_paAsked_p l clubs level = some b ∧ spec_paMost_p most = some c ∧ (b && c) = false) := by
  obtain ⟨b, b1, b2⟩ := ret_paAsked l hl clubs hc level
  obtain ⟨d, d1, d2⟩ := ret_canPanel l hl clubs hc level most
  obtain ⟨e, e1, e2⟩ := ret_l1In most 1 9
  have e3 : spec_paMost_p most = some e := by unfold spec_paMost_p; rw [bnd e1]
  cases b
  · have : d = false := by
      cases d
      · rfl
      · exact absurd (b2.2 (d2.1 rfl).1) (by simp)
    subst this
    exact .inr ⟨fun h => absurd (b2.2 h.1) (by simp), d1, _, _, b1, e3, rfl⟩
  · cases e
    · have : d = false := by
        cases d
        · rfl
        · exact absurd (e2.2 (d2.1 rfl).2) (by simp)
      subst this
      exact .inr ⟨fun h => absurd (e2.2 h.2) (by simp), d1, _, _, b1, e3, rfl⟩
    · have hm := e2.1 rfl
      have : d = true := d2.2 ⟨b2.1 rfl, hm⟩
      subst this
      exact .inl ⟨most.toNat, by omega, by omega, b2.1 rfl, b1, e3, d1⟩
theorem largest_case (l : List Official) (hl : l.length ≤ 1048576) (clubs : List Int) (hc : clubs.length ≤ 1048576) (level most : Int) (fuel : Nat) (hf : 1048576 < fuel) :
    (∃ M : Nat, most = (M : Int) ∧ (1 ≤ M ∧ M ≤ 9) ∧ AskOk l clubs level ∧ spec_LargestPanel_p fuel l clubs level most = some ((larg l clubs level M : Int), true) ∧ impl_LargestPanel_p l clubs level most = some ((larg l clubs level M : Int), true)) ∨
    (¬ (AskOk l clubs level ∧ (1 ≤ most ∧ most ≤ 9)) ∧ ∃ r, spec_LargestPanel_p fuel l clubs level most = some (r, false) ∧ impl_LargestPanel_p l clubs level most = some (r, false)) := by
  unfold spec_LargestPanel_p impl_LargestPanel_p
  rcases asked_case l hl clubs hc level most with ⟨M, rfl, hM, hA, a1, a2, a3⟩ | ⟨hn, a3, b, c, a1, a2, a4⟩
  · have hO := hA.1
    have hE := eli_len hO clubs level
    rw [bnd a1, bnd a3]
    simp only [Bool.not_true, Bool.not_false, opt_t, Bool.false_or]
    rw [bnd a2]
    simp only [Bool.not_true, cond_false]
    rw [show (need (decide (0 ≤ 21) && fitsB 8 (21 : Int).toNat)) = some () from rfl, Option.bind_some, bnd (paEligible_eq hO clubs level fuel hf), bnd (eligible_eq hO clubs level), bnd (clubs_eq hO clubs level)]
    obtain ⟨v', v1, v2⟩ := larg_s1 hO clubs level (M : Int) (eliK clubs level l) [] 0 (List.replicate 21 0) (by simp; omega) (fun _ hx => hx) (cntV_nil l)
    rw [List.nil_append] at v2
    have hszl : (szs l (eliK clubs level l)).length = 21 := by unfold szs; simp
    have k1 := larg_s2 M hM.2 (szs l (eliK clubs level l)) 0 0 (by omega)
    have k2 := larg_i M hM.2 (szs l (eliK clubs level l)) 0 0 (by omega)
    rw [Nat.zero_add] at k1 k2
    refine .inl ⟨M, rfl, hM, hA, ?_, k2⟩
    rw [show (21 : Int).toNat = 21 from rfl, v1, szs_eq (eli_clubs hO clubs level) v2]
    exact k1
  · right
    refine ⟨hn, ?_⟩
    rw [bnd a1, bnd a3]
    cases b
    · exact ⟨_, rfl, rfl⟩
    · have : c = false := by simpa using a4
      subst this
      simp only [Bool.not_true, Bool.not_false, opt_t, Bool.false_or]
      rw [bnd a2]
      exact ⟨_, rfl, rfl⟩
theorem count_case (l : List Official) (hl : l.length ≤ 1048576) (clubs : List Int) (hc : clubs.length ≤ 1048576) (level most n : Int) (fuel : Nat) (hf : 1048576 < fuel) :
    (∃ M N : Nat, most = (M : Int) ∧ n = (N : Int) ∧ (1 ≤ N ∧ N ≤ 9) ∧ AskOk l clubs level ∧ l.length ≤ 14 ∧ spec_CountPanels_p fuel l clubs level most n = some ((cntP l clubs level M N : Int), true) ∧ impl_CountPanels_p fuel l clubs level most n = some ((cntP l clubs level M N : Int), true)) ∨
    (¬ (AskOk l clubs level ∧ (1 ≤ most ∧ most ≤ 9) ∧ (1 ≤ n ∧ n ≤ 9) ∧ l.length ≤ 14) ∧ ∃ r, spec_CountPanels_p fuel l clubs level most n = some (r, false) ∧ impl_CountPanels_p fuel l clubs level most n = some (r, false)) := by
  unfold spec_CountPanels_p impl_CountPanels_p
  rcases asked_case l hl clubs hc level most with ⟨M, rfl, hM, hA, a1, a2, a3⟩ | ⟨hn, a3, b, c, a1, a2, a4⟩
  · have hO := hA.1
    rw [bnd a1, bnd a3]
    simp only [Bool.not_true, Bool.not_false, opt_t, Bool.false_or]
    rw [bnd a2]
    simp only [Bool.not_true, Bool.not_false, opt_t, Bool.false_or]
    obtain ⟨e, e1, e2⟩ := ret_l1In n 1 9
    obtain ⟨e', e3, e4⟩ := ret_within n 1 9
    obtain rfl : e = e' := Bool.eq_iff_iff.2 (e2.trans e4.symm)
    have e5 : spec_paMost_p n = some e := by unfold spec_paMost_p; rw [bnd e1]
    have e6 : impl_isPanelSize_p n = some e := by unfold impl_isPanelSize_p; rw [bnd e3]
    rw [bnd e5]
    by_cases h14 : (l.length : Int) > 14
    · rw [decide_eq_true h14]
      simp only [Bool.or_true, cond_true, Bool.not_true, opt_f, Option.bind_some, Bool.true_or]
      exact .inr ⟨fun h => by omega, _, rfl, rfl⟩
    rw [decide_eq_false h14]
    simp only [Bool.not_false, opt_t, Bool.or_false, Bool.false_or]
    rw [bnd e6]
    cases e
    · exact .inr ⟨fun h => absurd (e2.2 h.2.2.1) (by simp), _, rfl, rfl⟩
    have hN := e2.1 rfl
    obtain ⟨N, rfl⟩ : ∃ N : Nat, n = (N : Int) := ⟨n.toNat, by omega⟩
    have hE14 : (eliK clubs level l).length ≤ 14 := by
      unfold eliK
      rw [(sortI_perm _).length_eq, List.length_map]
      exact Nat.le_trans (List.length_filter_le _ _) (by omega)
    simp only [Bool.not_true, cond_false]
    have hneed : need (decide (0 ≤ (w64 ((N : Int) + 1))) && fitsB 8 (w64 ((N : Int) + 1)).toNat) = some () := by
      rw [w64_in (by omega), decide_eq_true (by omega), fits_of (by omega)]; rfl
    have hrep : List.replicate (w64 ((N : Int) + 1)).toNat 0 = encN (List.replicate (N + 1) 0) := by
      rw [w64_in (by omega), show ((N : Int) + 1).toNat = N + 1 from by omega]
      unfold encN
      rw [List.map_replicate]; rfl
    have hg0 : getI (List.replicate (w64 ((N : Int) + 1)).toNat (0 : Int)) 0 = some 0 := by
      rw [w64_in (by omega), show ((N : Int) + 1).toNat = N + 1 from by omega, List.replicate_succ]; rfl
    have hset : (encN (List.replicate (N + 1) 0)).set ((0 : Int).toNat) 1 = encN ((List.replicate (N + 1) 0).set 0 (0 + 1)) := by
      unfold encN
      rw [List.map_set]; rfl
    rw [bnd (paEligible_eq hO clubs level fuel hf), hneed, Option.bind_some, bnd hg0, hrep, bnd (eligible_eq hO clubs level), bnd (clubs_eq hO clubs level), hset]
    have hsum : (szs l (eliK clubs level l)).sum ≤ 14 := Nat.le_trans (ccnt_sum (clN l) 21 (eliK clubs level l)) hE14
    have hlin : ∀ g, linG g ((List.replicate (N + 1) 0).set 0 (0 + 1)) 0 = g 0 := by
      intro g
      rw [linG_set g _ 0 0 0 1 (by simp), linG_zero]; simp
    have hpow : (2 : Nat) ^ (szs l (eliK clubs level l)).sum ≤ 2 ^ 14 := Nat.pow_le_pow_right (by omega) hsum
    have h214 : (2 : Nat) ^ 14 = 16384 := rfl
    have k2 := count_l1 M N (by omega) hM.2 fuel hf (szs l (eliK clubs level l)) 0 ((List.replicate (N + 1) 0).set 0 (0 + 1)) (by simp) (fun s hs => by
      obtain ⟨c, _, rfl⟩ := List.mem_map.1 hs
      exact Nat.le_trans (List.length_filter_le _ _) hE14) (by rw [hlin]; omega)
    rw [hlin, Nat.sub_zero, szs_tab] at k2
    have k1 := spec_l1 hO clubs level M N hM.1 (by omega) hE14 fuel hf (2 ^ (eliK clubs level l).length) 0 fuel (by omega) (by
      have : (2 : Nat) ^ (eliK clubs level l).length ≤ 2 ^ 14 := Nat.pow_le_pow_right (by omega) hE14
      omega)
    rw [totN_sel (eliK clubs level l) (goodQ (clN l) (fun _ => M) N), cntS_cof (clN l) (eliK clubs level l) (fun _ => M) N (fun x hx => by
      have := eli_clubs hO clubs level x hx
      unfold clN; omega)] at k1
    exact .inl ⟨M, N, rfl, rfl, by omega, hA, by omega, k1, k2⟩
  · right
    refine ⟨fun h => hn ⟨h.1, h.2.1⟩, ?_⟩
    rw [bnd a1, bnd a3]
    cases b
    · exact ⟨_, rfl, rfl⟩
    · have : c = false := by simpa using a4
      subst this
      simp only [Bool.not_true, Bool.not_false, opt_t, Bool.false_or]
      rw [bnd a2]
      exact ⟨_, rfl, rfl⟩

end Go.Proofs.YtegdphhfimaieacGreat

/- Plain lemmas: what the functions compute is what the reference says, in plain Lean. No condition. -/
import Derived.Test.YtgcnndkbpmnmgaaPStand1
set_option maxRecDepth 4000
set_option maxHeartbeats 1000000
set_option linter.unusedVariables false
set_option linter.unusedSimpArgs false
set_option linter.unusedSectionVars false

namespace Go.Proofs.Ytgcnndkbpmnmgaa
open Go.AM

theorem qSeason_l (b : Season) : ∀ (ys pre : List Line), b.lines = pre ++ ys → laws_qSeason_l1 b ys pre.length = some true := by
  intro ys
  induction ys with
  | nil => intro pre _; rw [laws_qSeason_l1]
  | cons y ys ih =>
    intro pre h
    have := ih (pre ++ [y]) (by rw [h]; simp)
    rw [show (pre ++ [y]).length = pre.length + 1 from by simp] at this
    rw [laws_qSeason_l1, bnd (getI_app (pre := pre) (y := y) (ys := ys) h rfl), bne_self_eq_false]
    simp only [Bool.not_false, opt_t, Bool.false_or]
    rw [bnd (qInts_eq _)]
    simp only [Bool.not_true, Bool.not_false, opt_t]
    rw [bnd (qInts_eq _)]
    simp only [Bool.not_true, Bool.or_false, cond_false]
    exact this
theorem qSeason_eq (a : Season) : laws_qSeason_p a a = some true := by
  unfold laws_qSeason_p
  rw [bne_self_eq_false, bne_self_eq_false, Bool.or_false, cond_false]
  exact qSeason_l a a.lines [] rfl
theorem qEntries_l (b : List Entry) : ∀ (ys pre : List Entry), b = pre ++ ys → laws_qEntries_l1 b ys pre.length = some true := by
  intro ys
  induction ys with
  | nil => intro pre _; rw [laws_qEntries_l1]
  | cons y ys ih =>
    intro pre h
    have := ih (pre ++ [y]) (by rw [h]; simp)
    rw [show (pre ++ [y]).length = pre.length + 1 from by simp] at this
    rw [laws_qEntries_l1, bnd (getI_app (pre := pre) (y := y) (ys := ys) h rfl), decide_eq_true rfl, Bool.not_true, cond_false, this]
theorem qEntries_eq (a : List Entry) : laws_qEntries_p a a = some true := by
  unfold laws_qEntries_p
  rw [bne_self_eq_false, cond_false]
  exact qEntries_l a a [] rfl
theorem Ents.perm {l m : List Entry} (h : Ents l) (p : m.Perm l) : Ents m := by
  have := h.goodL.perm p
  exact ⟨this.1, this.2, by rw [p.length_eq]; exact h.2.2⟩
theorem season_ents {s : Season} (h : SeasonOk s) : Ents (seasonEs s) := ⟨h.2.2.2.1.1, h.2.2.2.1.2.2, h.2.2.2.2⟩
theorem FreshOf.perm {best : Int} {l m : List Entry} {s : Season} (h : FreshOf best l s) (p : l.Perm m) : FreshOf best m s := ⟨h.1, h.2.1, h.2.2.1, h.2.2.2.trans p⟩
theorem fresh_case (best : Int) (l : List Entry) (hb : l.length ≤ 1048576) (fuel : Nat) (hf : 1048576 < fuel) :
    (∃ s, (1 ≤ best ∧ best ≤ 9) ∧ Ents l ∧ FreshOf best l s ∧ SeasonOk s ∧ spec_FreshSeason_p fuel best l = some (s, true) ∧ impl_FreshSeason_p best l = some (s, true)) ∨
    (¬ ((1 ≤ best ∧ best ≤ 9) ∧ Ents l) ∧ ∃ r, spec_FreshSeason_p fuel best l = some (r, false) ∧ impl_FreshSeason_p best l = some (r, false)) := by
  obtain ⟨r, r1, r2, _⟩ := same_FreshSeason best l hb fuel hf
  have hs := r2
  unfold impl_FreshSeason_p at hs
  obtain ⟨b, e1, e2⟩ := ret_isBest best
  rw [bnd e1] at hs
  cases b
  · cases hs; exact .inr ⟨fun h => absurd (e2.2 h.1) (by simp), _, r1, r2⟩
  simp only [Bool.not_true, Bool.not_false, opt_t, Bool.false_or] at hs
  obtain ⟨b, g1, g2⟩ := ret_AreEntries l hb
  rw [bnd g1] at hs
  cases b
  · cases hs; exact .inr ⟨fun h => absurd (g2.2 h.2) (by simp), _, r1, r2⟩
  have hE := g2.1 rfl
  obtain ⟨s, m1, m2⟩ := impl_fresh_of best l hE.goodL hb
  simp only [Bool.not_true, cond_false] at hs
  rw [bnd m1] at hs
  cases hs
  exact .inl ⟨s, e2.1 rfl, hE, m2, (fresh_ok m2 hE.goodL).2 ⟨e2.1 rfl, hE.2.2⟩, r1, r2⟩
theorem add_case (s : Season) (hb : nSeason s ≤ 1048576) (e : Entry) (fuel : Nat) (hf : 1048576 < fuel) :
    (∃ t, SeasonOk s ∧ Ents (seasonEs s ++ [e]) ∧ FreshOf s.best (seasonEs s ++ [e]) t ∧ SeasonOk t ∧ spec_AddEntry_p fuel s e = some (t, true) ∧ impl_AddEntry_p fuel s e = some (t, true)) ∨
    (¬ (SeasonOk s ∧ Ents (seasonEs s ++ [e])) ∧ ∃ r, spec_AddEntry_p fuel s e = some (r, false) ∧ impl_AddEntry_p fuel s e = some (r, false)) := by
  obtain ⟨r, r1, r2, _⟩ := same_AddEntry s hb e fuel hf
  have hs := r2
  unfold impl_AddEntry_p at hs
  obtain ⟨b, e1, e2⟩ := ret_impl_IsSeason s hb fuel hf
  rw [bnd e1] at hs
  cases b
  · cases hs; exact .inr ⟨fun h => absurd (e2.2 h.1) (by simp), _, r1, r2⟩
  have hok := e2.1 rfl
  have hlen := hok.2.2.2.2
  simp only [Bool.not_true, cond_false] at hs
  rw [bnd (entriesOf_eq s hb (fun x hx => (hok.2.1 x hx).1)), bnd (x := ()) (by rw [fits_of (by simp; omega)]; rfl)] at hs
  obtain ⟨b, g1, g2⟩ := ret_AreEntries (seasonEs s ++ [e]) (by simp; omega)
  rw [bnd g1] at hs
  cases b
  · cases hs; exact .inr ⟨fun h => absurd (g2.2 h.2) (by simp), _, r1, r2⟩
  have hE := g2.1 rfl
  obtain ⟨t, m1, m2⟩ := impl_fresh_of s.best _ hE.goodL (by simp; omega)
  simp only [Bool.not_true, cond_false] at hs
  rw [bnd m1] at hs
  cases hs
  exact .inl ⟨t, hok, hE, m2, (fresh_ok m2 hE.goodL).2 ⟨hok.1, hE.2.2⟩, r1, r2⟩
theorem entries_case (s : Season) (hb : nSeason s ≤ 1048576) (fuel : Nat) (hf : 1048576 < fuel) :
    (SeasonOk s ∧ spec_EntriesOf_p s = some (seasonEs s, true) ∧ impl_EntriesOf_p fuel s = some (seasonEs s, true)) ∨
    (¬ SeasonOk s ∧ ∃ r, spec_EntriesOf_p s = some (r, false) ∧ impl_EntriesOf_p fuel s = some (r, false)) := by
  obtain ⟨r, r1, r2, _⟩ := same_EntriesOf s hb fuel hf
  have hs := r2
  unfold impl_EntriesOf_p at hs
  obtain ⟨b, e1, e2⟩ := ret_impl_IsSeason s hb fuel hf
  rw [bnd e1] at hs
  cases b
  · cases hs; exact .inr ⟨fun h => absurd (e2.2 h) (by simp), _, r1, r2⟩
  have hok := e2.1 rfl
  simp only [Bool.not_true, cond_false] at hs
  rw [bnd (entriesOf_eq s hb (fun x hx => (hok.2.1 x hx).1))] at hs
  cases hs
  exact .inl ⟨hok, r1, r2⟩
theorem back_ok (s t : Season) (e : Entry) (hok : SeasonOk s) (hE : Ents (seasonEs s ++ [e])) (hF : FreshOf s.best (seasonEs s ++ [e]) t) (ht : SeasonOk t) (hb : nSeason t ≤ 1048576) (fuel : Nat) (hf : 1048576 < fuel) :
    impl_DropEntry_p fuel t e.event e.skater = some (s, true) := by
  unfold impl_DropEntry_p
  obtain ⟨b, e1, e2⟩ := ret_impl_IsSeason t hb fuel hf
  obtain rfl := e2.2 ht
  rw [bnd e1, Bool.not_true, cond_false, bnd (entriesOf_eq t hb (fun x hx => (ht.2.1 x hx).1))]
  obtain ⟨c, c1, c2⟩ := ret_ContainsFunc (seasonEs t) (fun a0 => impl_DropEntry_c1_p a0 e.event e.skater) (fun x => (x.event == e.event && x.skater == e.skater) = true) (fun x _ => .some Iff.rfl)
  have hp : (seasonEs t).Perm (seasonEs s ++ [e]) := hF.2.2.2
  obtain rfl := c2.2 ⟨e, hp.mem_iff.2 (by simp), by simp⟩
  obtain ⟨u, u1, u2⟩ := dropEntries_of t hb ht (fun a0 => impl_DropEntry_c1_p a0 e.event e.skater) (fun x => x.event == e.event && x.skater == e.skater) (fun x => rfl) fuel hf
  rw [bnd c1, Bool.not_true, cond_false, bnd u1]
  have h1 : (seasonEs s ++ [e]).filter (fun x => !(x.event == e.event && x.skater == e.skater)) = seasonEs s := by
    rw [List.filter_append, List.filter_eq_self.2, List.filter_cons_of_neg (by simp), List.filter_nil, List.append_nil]
    intro x hx
    have := (List.pairwise_append.1 hE.2.1).2.2 x hx e (by simp)
    cases hq : (x.event == e.event && x.skater == e.skater)
    · rfl
    · rw [Bool.and_eq_true, beq_iff_eq, beq_iff_eq] at hq
      exact absurd hq this
  have h2 := u2.perm (hp.filter fun x => !(x.event == e.event && x.skater == e.skater))
  rw [h1, hF.1] at h2
  rw [h2.uniq (season_fresh hok)]
theorem without_case (s : Season) (hb : nSeason s ≤ 1048576) (n : Int) (fuel : Nat) (hf : 1048576 < fuel) :
    (∃ t, SeasonOk t ∧ (∀ x ∈ seasonEs t, x.event ≠ n) ∧ nSeason t ≤ 1048576 ∧ spec_DropEvent_p fuel s n = some (t, true) ∧ impl_DropEvent_p fuel s n = some (t, true)) ∨
    (∃ r, spec_DropEvent_p fuel s n = some (r, false) ∧ impl_DropEvent_p fuel s n = some (r, false)) := by
  obtain ⟨r, r1, r2, r3⟩ := same_DropEvent s hb n fuel hf
  have hs := r2
  unfold impl_DropEvent_p at hs
  obtain ⟨b, e1, e2⟩ := ret_impl_IsSeason s hb fuel hf
  rw [bnd e1] at hs
  cases b
  · cases hs; exact .inr ⟨_, r1, r2⟩
  have hok := e2.1 rfl
  simp only [Bool.not_true, Bool.not_false, opt_t, Bool.false_or] at hs
  obtain ⟨b, g1, g2⟩ := ret_isEvent n
  rw [bnd g1] at hs
  cases b
  · cases hs; exact .inr ⟨_, r1, r2⟩
  obtain ⟨u, u1, u2⟩ := dropEntries_of s hb hok (fun a0 => impl_DropEvent_c1_p a0 n) (fun x => x.event == n) (fun x => rfl) fuel hf
  simp only [Bool.not_true, cond_false] at hs
  rw [bnd u1] at hs
  cases hs
  have hE := season_ents hok
  have hgl : GoodL ((seasonEs s).filter fun x => !(x.event == n)) := hE.goodL.filter _
  have hfl := List.length_filter_le (fun x : Entry => !(x.event == n)) (seasonEs s)
  refine .inl ⟨u, (fresh_ok u2 hgl).2 ⟨hok.1, by have := hE.2.2; omega⟩, fun x hx => ?_, by dsimp only at r3; omega, r1, r2⟩
  have := (u2.2.2.2.mem_iff (a := x)).1 hx
  simpa using (List.mem_filter.1 this).2
theorem seas_l3 {best : Int} {l : List Entry} {w : Season} (h : FreshOf best l w) (hE : Ents l) (hb : 1 ≤ best ∧ best ≤ 9) : ∀ (ys acc rest : List Entry), l.reverse = acc ++ rest → ys.length = rest.length → laws_FnSeasons_l3 (best, l) (w, true) w.best w.lines ys acc.length acc = some true := by
  have hl := hE.2.2
  intro ys
  induction ys with
  | nil =>
    intro acc rest h1 h2
    obtain rfl : rest = [] := List.eq_nil_of_length_eq_zero h2.symm
    rw [List.append_nil] at h1
    subst h1
    rw [laws_FnSeasons_l3]
    have hR := hE.perm (List.reverse_perm l)
    rcases fresh_case best l.reverse (by simp; omega) 1048577 (by omega) with ⟨t, _, _, t1, _, _, t2⟩ | ⟨q, _⟩
    · obtain rfl := (t1.perm (List.reverse_perm l)).uniq h
      dsimp only
      rw [bnd t2, bnd (qSeason_eq _)]
      simp only [Bool.and_true, opt_t]
      rw [bnd (qSeason_eq _)]
      rfl
    · exact absurd ⟨hb, hR⟩ q
  | cons y ys ih =>
    intro acc rest h1 h2
    cases rest with
    | nil => simp at h2
    | cons r rest =>
    have hlen : l.length = acc.length + (rest.length + 1) := by
      have := congrArg List.length h1
      simpa using this
    have hg : l.reverse[acc.length]? = some r := by rw [h1]; simp
    rw [List.getElem?_reverse (by omega)] at hg
    have hg2 : getI l (w64 (w64 ((l.length : Int) - 1) - (acc.length : Int))) = some r := by
      rw [w64_in (n := (l.length : Int) - 1) (by omega), w64_in (by omega), getI_of (k := l.length - 1 - acc.length) (by omega)]
      exact hg
    rw [laws_FnSeasons_l3]
    dsimp only
    rw [bnd hg2, bnd (x := ()) (by rw [fits_of (by simp; omega)]; rfl)]
    have := ih (acc ++ [r]) rest (by rw [h1]; simp) (by simpa using h2)
    rw [show (acc ++ [r]).length = acc.length + 1 from by simp] at this
    exact this
theorem seas_l2 {best : Int} {l : List Entry} {w : Season} (h : FreshOf best l w) (hE : Ents l) (hb : 1 ≤ best ∧ best ≤ 9) (fuel : Nat) (hf : 1048576 < fuel) : ∀ (ys pre : List Entry) (k : Nat) (s : Season), l = pre ++ ys → FreshOf best pre s → laws_FnSeasons_l2 fuel (best, l) (w, true) ys k s.best s.lines = some true := by
  have hl := hE.2.2
  intro ys
  induction ys with
  | nil =>
    intro pre k s h1 h2
    rw [List.append_nil] at h1
    subst h1
    obtain rfl := h2.uniq h
    rw [laws_FnSeasons_l2]
    have := seas_l3 h hE hb l [] l.reverse rfl (by simp)
    exact this
  | cons y ys ih =>
    intro pre k s h1 h2
    have hpre : Ents (pre ++ [y]) := by
      have : l = (pre ++ [y]) ++ ys := by rw [h1]; simp
      rw [this] at hE
      exact ⟨fun e he => hE.1 e (List.mem_append_left _ he), (List.pairwise_append.1 hE.2.1).1, by have := hE.2.2; simp at this ⊢; omega⟩
    have hg : GoodL pre := ⟨fun e he => hpre.1 e (List.mem_append_left _ he), (List.pairwise_append.1 hpre.2.1).1⟩
    have hpl : pre.length ≤ 80 := by have := hpre.2.2; simp at this; omega
    have hs : SeasonOk s := (fresh_ok h2 hg).2 ⟨hb, hpl⟩
    have hsz := fresh_size h2
    have hp : (seasonEs s ++ [y]).Perm (pre ++ [y]) := h2.2.2.2.append_right [y]
    rw [laws_FnSeasons_l2, show (Season.mk s.best s.lines) = s from rfl]
    rcases add_case s (by omega) y fuel hf with ⟨t, _, _, t1, _, _, t2⟩ | ⟨q, _⟩
    · rw [bnd t2]
      simp only [Bool.not_true, cond_false]
      have t3 := t1.perm hp
      rw [h2.1] at t3
      exact ih (pre ++ [y]) (k + 1) t (by rw [h1]; simp) t3
    · exact absurd ⟨hs, hpre.perm hp⟩ q
def drE (i : Nat) : Entry := ⟨1 + ((i % 9 : Nat) : Int), 10 + ((i / 9 : Nat) : Int), (i : Int)⟩
theorem drE_ns {i k : Nat} (h : i < k) : ¬ sameE (drE i) (drE k) := by
  rintro ⟨h1, h2⟩
  simp only [drE] at h1 h2
  omega
theorem drawAdd_l1 (fuel : Nat) (hf : 1048576 < fuel) (x1 x3 x5 : L1Cur × Int) : ∀ (n f : Nat) (a : List Int) (b m s : Int) (l : List Entry) (S : Season) (k : Nat), CO a b m → m + 2 * (n : Int) ≤ 500000000 → k + n = 81 → n < f → FreshOf 2 l S → l.length = k → (∀ z ∈ l, ∃ i, i < k ∧ z = drE i) →
    ∃ r, spec_DrawAddEntry_l1 fuel x1 x3 x5 f a b s S.best S.lines (k : Int) = some r ∧ nSeason r.1 ≤ 1000 := by
  intro n
  induction n with
  | zero =>
    intro f a b m s l S k h hm hk hn hF hl hz
    obtain ⟨f, rfl⟩ := Nat.exists_eq_succ_of_ne_zero (by omega : f ≠ 0)
    rw [spec_DrawAddEntry_l1]
    obtain ⟨b1, s1, v1, e1, g1, l1, u1⟩ := pick_ok (s := s) h (by omega) 2 (by omega)
    rw [bnd e1]
    dsimp only
    rw [w64_in (n := 80 - v1) (by omega), decide_eq_false (by omega), cond_false]
    have := fresh_size hF
    exact ⟨_, rfl, by show nSeason S ≤ 1000; omega⟩
  | succ n ih =>
    intro f a b m s l S k h hm hk hn hF hl hz
    obtain ⟨f, rfl⟩ := Nat.exists_eq_succ_of_ne_zero (by omega : f ≠ 0)
    rw [spec_DrawAddEntry_l1]
    obtain ⟨b1, s1, v1, e1, g1, l1, u1⟩ := pick_ok (s := s) h (by omega) 2 (by omega)
    rw [bnd e1]
    dsimp only
    rw [w64_in (n := 80 - v1) (by omega)]
    by_cases hc : (k : Int) < 80 - v1
    · rw [decide_eq_true hc, cond_true, show need (9 != 0) = some () from rfl, Option.bind_some]
      have he : Entry.mk (w64 (1 + ((k : Int).tmod 9))) (w64 (10 + (w64 ((k : Int).tdiv 9)))) (k : Int) = drE k := by
        rw [Int.tmod_eq_emod_of_nonneg (by omega), Int.tdiv_eq_ediv_of_nonneg (by omega), w64_in (n := (k : Int) / 9) (by omega), w64_in (by omega), w64_in (by omega)]
        unfold drE
        congr 1
      rw [he]
      obtain ⟨t, t1, t2⟩ := spec_add_of 2 l S (drE k) hF (fun z hz' => by
        obtain ⟨i, hi, rfl⟩ := hz z hz'
        exact drE_ns hi) (by omega) fuel hf
      rw [show (Season.mk S.best S.lines) = S from rfl, bnd t1, w64_in (by omega)]
      have := ih f a b1 _ s1 (drE k :: l) t (k + 1) g1 (by omega) (by omega) (by omega) t2 (by simp [hl]) (fun z hz' => by
        rcases List.mem_cons.1 hz' with rfl | hz'
        · exact ⟨k, by omega, rfl⟩
        · obtain ⟨i, hi, e⟩ := hz z hz'
          exact ⟨i, by omega, e⟩)
      exact this
    · rw [decide_eq_false hc, cond_false]
      have := fresh_size hF
      exact ⟨_, rfl, by show nSeason S ≤ 1000; omega⟩
theorem drawFreshSeason_ok {code : List Int} (hc : ∀ x ∈ code, isByte x) (hl : code.length ≤ 9223372036854775807) (fuel : Nat) (hf : 1048576 < fuel) : ∃ n l, spec_DrawFreshSeason_p fuel code = some (n, l) ∧ l.length ≤ 81 := by
  unfold spec_DrawFreshSeason_p
  obtain ⟨b1, s1, v1, e1, g1, _⟩ := among_ok (s := 0) (co0 hc hl) (by omega) [1, 2, 3, 9, 10, 0] (by simp) (by simp)
  rw [bnd e1]
  dsimp only
  obtain ⟨b2, s2, l, e2, g2, k2⟩ := entries_ok (s := s1) g1 (by omega) fuel hf
  rw [bnd e2]
  exact ⟨_, _, rfl, k2⟩
theorem drawAddEntry_ok {code : List Int} (hc : ∀ x ∈ code, isByte x) (hl : code.length ≤ 9223372036854775807) (fuel : Nat) (hf : 1048576 < fuel) : ∃ S e, spec_DrawAddEntry_p fuel code = some (S, e) ∧ nSeason S ≤ 1000 := by
  unfold spec_DrawAddEntry_p
  obtain ⟨b1, s1, v1, e1, g1, l1, u1⟩ := pick_ok (s := 0) (co0 hc hl) (by omega) 8 (by omega)
  rw [bnd e1]
  dsimp only
  obtain ⟨b2, s2, v2, e2, g2, l2, u2⟩ := pick_ok (s := s1) g1 (by omega) 7 (by omega)
  rw [bnd e2]
  dsimp only
  obtain ⟨b3, s3, v3, e3, g3, _⟩ := among_ok (s := s2) g2 (by omega) [0, 100, 400, 100000, 100001] (by simp) (by simp)
  rw [bnd e3]
  dsimp only
  obtain ⟨b4, s4, v4, e4, g4⟩ := one_ok (s := s3) g3 (by omega) 16 (by omega)
  rw [bnd e4]
  dsimp only
  cases v4
  · rw [cond_false]
    obtain ⟨b5, s5, S, e5, g5, k5⟩ := season_ok (s := s4) g4 (by omega) fuel hf
    rw [bnd e5]
    exact ⟨_, _, rfl, k5⟩
  · rw [cond_true]
    obtain ⟨r, r1, r2⟩ := drawAdd_l1 fuel hf (L1Cur.mk code b1 s1, v1) (L1Cur.mk code b2 s2, v2) (L1Cur.mk code b3 s3, v3) 81 fuel code b4 _ s4 [] ⟨2, []⟩ 0 g4 (by omega) (by omega) (by omega) (fresh_nil 2) rfl (by simp)
    exact ⟨r.1, r.2, r1, r2⟩
theorem drawDropEntry_ok {code : List Int} (hc : ∀ x ∈ code, isByte x) (hl : code.length ≤ 9223372036854775807) (fuel : Nat) (hf : 1048576 < fuel) : ∃ S n m, spec_DrawDropEntry_p fuel code = some (S, n, m) ∧ nSeason S ≤ 1000 := by
  unfold spec_DrawDropEntry_p
  obtain ⟨b1, s1, S, e1, g1, k1⟩ := season_ok (s := 0) (co0 hc hl) (by omega) fuel hf
  rw [bnd e1]
  dsimp only
  obtain ⟨b2, s2, v2, e2, g2, l2, u2⟩ := pick_ok (s := s1) g1 (by omega) 7 (by omega)
  rw [bnd e2]
  dsimp only
  obtain ⟨b3, s3, v3, e3, g3, l3, u3⟩ := pick_ok (s := s2) g2 (by omega) 6 (by omega)
  rw [bnd e3]
  exact ⟨_, _, _, rfl, k1⟩
theorem drawDropEvent_ok {code : List Int} (hc : ∀ x ∈ code, isByte x) (hl : code.length ≤ 9223372036854775807) (fuel : Nat) (hf : 1048576 < fuel) : ∃ S n, spec_DrawDropEvent_p fuel code = some (S, n) ∧ nSeason S ≤ 1000 := by
  unfold spec_DrawDropEvent_p
  obtain ⟨b1, s1, S, e1, g1, k1⟩ := season_ok (s := 0) (co0 hc hl) (by omega) fuel hf
  rw [bnd e1]
  dsimp only
  obtain ⟨b2, s2, v2, e2, g2, _⟩ := among_ok (s := s1) g1 (by omega) [0, 1, 2, 3, 4, 99, 100] (by simp) (by simp)
  rw [bnd e2]
  exact ⟨_, _, rfl, k1⟩
theorem drawEntriesOf_ok {code : List Int} (hc : ∀ x ∈ code, isByte x) (hl : code.length ≤ 9223372036854775807) (fuel : Nat) (hf : 1048576 < fuel) : ∃ S, spec_DrawEntriesOf_p fuel code = some S ∧ nSeason S ≤ 1000 := by
  unfold spec_DrawEntriesOf_p
  obtain ⟨S, e1, k1⟩ := drawIsSeason_ok hc hl fuel hf
  rw [bnd e1]
  exact ⟨_, rfl, k1⟩

end Go.Proofs.Ytgcnndkbpmnmgaa

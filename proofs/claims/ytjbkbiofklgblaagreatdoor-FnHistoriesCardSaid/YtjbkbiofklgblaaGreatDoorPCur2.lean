/- Plain lemmas: what the functions compute is what the reference says, in plain Lean. No condition. -/
import Derived.Test.YtjbkbiofklgblaaGreatDoorPCur1
set_option maxRecDepth 4000
set_option maxHeartbeats 1000000
set_option linter.unusedVariables false
set_option linter.unusedSimpArgs false
set_option linter.unusedSectionVars false

namespace Go.Proofs.YtjbkbiofklgblaaGreatDoor
open Go.AM

theorem one_ok {a : List Int} {b m s : Int} (h : CO a b m) (hm : m ≤ 900000000) (n : Int) (hn : n ≤ 65536) : ∃ b' s' v, spec_l1Cur_one_p (L1Cur.mk a b s) n = some (L1Cur.mk a b' s', v) ∧ CO a b' (m + 2) := by
  obtain ⟨b1, s1, v1, e1, g1, _, _⟩ := pick_ok (s := s) h hm n hn
  unfold spec_l1Cur_one_p
  rw [bnd e1]
  exact ⟨_, _, _, rfl, g1⟩
theorem of_ok {a : List Int} {b m s : Int} (h : CO a b m) (hm : m ≤ 900000000) (l : List ByteArray) (h0 : 0 < l.length) (hl : l.length ≤ 60000) : ∃ b' s' v, spec_l1Cur_of_p (L1Cur.mk a b s) l = some (L1Cur.mk a b' s', v) ∧ CO a b' (m + 2) ∧ v ∈ l := by
  unfold spec_l1Cur_of_p
  obtain ⟨b1, s1, v1, e1, g1, l1, u1⟩ := pick_ok (s := s) h hm (l.length : Int) (by omega)
  have hlt : v1.toNat < l.length := by omega
  have hg : getI l v1 = some l[v1.toNat] := by rw [getI_of (k := v1.toNat) (by omega)]; exact List.getElem?_eq_getElem hlt
  rw [bnd e1]
  dsimp only
  rw [bnd hg]
  exact ⟨_, _, _, rfl, g1, List.getElem_mem hlt⟩
def smallS (l : List ByteArray) : Prop := ∀ s ∈ l, s.size ≤ 6
theorem smallS_snoc {l : List ByteArray} {x : ByteArray} (h : smallS l) (hx : x.size ≤ 6) : smallS (l ++ [x]) := by
  intro s hs
  rcases List.mem_append.1 hs with hs | hs
  · exact h s hs
  · rw [List.mem_singleton.1 hs]; exact hx
theorem called_l (names : List ByteArray) (hn : 0 < names.length ∧ names.length ≤ 1000) (hs : smallS names) (x1 : L1Cur × Bool) : ∀ (n f : Nat) (a : List Int) (b m s : Int) (N : List ByteArray) (M : List Int), CO a b m → m + 4 * (n : Int) ≤ 800000000 → n < f → N.length = M.length → N.length + n ≤ 3 → smallS N →
    ∃ b' s' it, spec_l1Cur_called_l1 names x1 f a b s N M (n : Int) = some (L1Cur.mk a b' s', it) ∧ CO a b' (m + 4 * (n : Int) + 4) ∧ it.names.length = it.marks.length ∧ (N.length + n ≤ it.names.length ∧ it.names.length ≤ N.length + n + 1) ∧ smallS it.names := by
  intro n
  induction n with
  | zero =>
    intro f a b m s N M h hm hf hl h3 hb
    obtain ⟨f, rfl⟩ := Nat.exists_eq_succ_of_ne_zero (by omega : f ≠ 0)
    rw [spec_l1Cur_called_l1, decide_eq_false (by omega), cond_false]
    obtain ⟨b1, s1, v1, e1, g1⟩ := one_ok (s := s) h (by omega) 12 (by omega)
    rw [bnd e1]
    dsimp only
    cases v1
    · exact ⟨_, _, _, rfl, g1.mono (by omega), hl, ⟨by dsimp only; omega, by dsimp only; omega⟩, hb⟩
    · rw [cond_true]
      obtain ⟨b2, s2, v2, e2, g2, l2⟩ := of_ok (s := s1) g1 (by omega) names hn.1 (by omega)
      rw [bnd e2]
      dsimp only
      rw [fits_of (by simp; omega), need_t, Option.bind_some, fits_of (by simp; omega), need_t, Option.bind_some]
      exact ⟨_, _, _, rfl, g2.mono (by omega), by simp [hl], ⟨by simp, by simp⟩, smallS_snoc hb (hs _ l2)⟩
  | succ n ih =>
    intro f a b m s N M h hm hf hl h3 hb
    obtain ⟨f, rfl⟩ := Nat.exists_eq_succ_of_ne_zero (by omega : f ≠ 0)
    rw [spec_l1Cur_called_l1, decide_eq_true (by omega), cond_true]
    obtain ⟨b1, s1, v1, e1, g1, l1⟩ := of_ok (s := s) h (by omega) names hn.1 (by omega)
    rw [bnd e1]
    dsimp only
    rw [fits_of (by simp; omega), need_t, Option.bind_some]
    obtain ⟨b2, s2, v2, e2, g2, l2⟩ := among_ok (s := s1) g1 (by omega) [0, 0, 0, 1, 2, 3] (by simp) (by simp)
    rw [bnd e2]
    dsimp only
    rw [fits_of (by simp; omega), need_t, Option.bind_some, w64_in (n := ((n + 1 : Nat) : Int) - 1) (by omega), show ((n + 1 : Nat) : Int) - 1 = (n : Int) from by omega]
    obtain ⟨b3, s3, it, e3, g3, q1, q2, q3⟩ := ih f a b2 (m + 2 + 2) s2 (N ++ [v1]) (M ++ [v2]) g2 (by omega) (by omega) (by simp [hl]) (by simp; omega) (smallS_snoc hb (hs _ l1))
    refine ⟨b3, s3, it, e3, g3.mono (by omega), q1, ?_, q3⟩
    simp only [List.length_append, List.length_singleton] at q2
    omega
theorem called_ok {a : List Int} {b m s : Int} (h : CO a b m) (hm : m ≤ 700000000) (names : List ByteArray) (hn : 0 < names.length ∧ names.length ≤ 1000) (hs : smallS names) (fuel : Nat) (hf : 1000 < fuel) :
    ∃ b' s' it, spec_l1Cur_called_p fuel (L1Cur.mk a b s) names = some (L1Cur.mk a b' s', it) ∧ CO a b' (m + 20) ∧ it.names.length = it.marks.length ∧ (1 ≤ it.names.length ∧ it.names.length ≤ 3) ∧ smallS it.names := by
  unfold spec_l1Cur_called_p
  obtain ⟨b1, s1, v1, e1, g1⟩ := one_ok (s := s) h (by omega) 3 (by omega)
  rw [bnd e1]
  dsimp only
  obtain ⟨b2, s2, v2, e2, g2, l2, u2⟩ := pick_ok (s := s1) g1 (by omega) 6 (by omega)
  rw [bnd e2, show need (3 != 0) = some () from rfl, Option.bind_some]
  dsimp only
  have t : v2.tdiv 3 = v2 / 3 := Int.tdiv_eq_ediv_of_nonneg l2
  rw [t, w64_in (n := v2 / 3) (by omega), w64_in (n := 1 + v2 / 3) (by omega), show 1 + v2 / 3 = ((1 + v2 / 3).toNat : Int) from by omega]
  obtain ⟨b3, s3, it, e3, g3, q1, q2, q3⟩ := called_l names hn hs (L1Cur.mk a b1 s1, v1) (1 + v2 / 3).toNat fuel a b2 (m + 2 + 2) s2 [] [] g2 (by omega) (by omega) rfl (by simp; omega) (by intro x hx; simp at hx)
  simp only [List.length_nil] at q2
  exact ⟨b3, s3, it, e3, g3.mono (by omega), q1, by omega, q3⟩
def itB (it : Item) : Prop := it.names.length ≤ 4 ∧ it.marks.length ≤ 4 ∧ smallS it.names
theorem anyItem_l (x1 : L1Cur × Item) (a : List Int) (b s v : Int) (hv : 0 ≤ v ∧ v ≤ 1) : ∀ (n f : Nat) (N : List ByteArray) (M : List Int), ((3 + v) - (N.length : Int)).toNat = n → n < f → N.length ≤ 4 → N.length = M.length → smallS N →
    ∃ it, spec_l1Cur_anyItem_l1 x1 (L1Cur.mk a b s, v) f N M = some (L1Cur.mk a b s, it) ∧ itB it := by
  intro n
  induction n with
  | zero =>
    intro f N M h hf h4 hl hb
    obtain ⟨f, rfl⟩ := Nat.exists_eq_succ_of_ne_zero (by omega : f ≠ 0)
    rw [spec_l1Cur_anyItem_l1]
    dsimp only
    rw [w64_in (by omega), decide_eq_false (by omega)]
    exact ⟨_, rfl, by dsimp only; omega, by dsimp only; omega, hb⟩
  | succ n ih =>
    intro f N M h hf h4 hl hb
    obtain ⟨f, rfl⟩ := Nat.exists_eq_succ_of_ne_zero (by omega : f ≠ 0)
    rw [spec_l1Cur_anyItem_l1]
    dsimp only
    rw [w64_in (by omega), decide_eq_true (by omega), cond_true, fits_of (by simp; omega), need_t, Option.bind_some, fits_of (by simp; omega), need_t, Option.bind_some]
    exact ih f _ _ (by simp; omega) (by omega) (by simp; omega) (by simp [hl]) (smallS_snoc hb (by decide))
theorem anyItem_ok {a : List Int} {b m s : Int} (h : CO a b m) (hm : m ≤ 600000000) (fuel : Nat) (hf : 1000 < fuel) : ∃ b' s' it, spec_l1Cur_anyItem_p fuel (L1Cur.mk a b s) = some (L1Cur.mk a b' s', it) ∧ CO a b' (m + 30) ∧ itB it := by
  unfold spec_l1Cur_anyItem_p
  obtain ⟨b1, s1, it, e1, g1, q1, q2, q3⟩ := called_ok (s := s) h (by omega) [(⟨#[51, 65]⟩ : ByteArray), (⟨#[50, 84]⟩ : ByteArray), (⟨#[52, 83]⟩ : ByteArray), (⟨#[67, 67, 79, 83, 80]⟩ : ByteArray), (⟨#[83, 84]⟩ : ByteArray), (⟨#[65]⟩ : ByteArray), (⟨#[48]⟩ : ByteArray)] ⟨by simp, by simp⟩ (by intro x hx; simp at hx; rcases hx with rfl | rfl | rfl | rfl | rfl | rfl | rfl <;> decide) fuel hf
  rw [bnd e1]
  dsimp only
  obtain ⟨b2, s2, v2, e2, g2, l2, u2⟩ := pick_ok (s := s1) g1 (by omega) 24 (by omega)
  rw [bnd e2]
  dsimp only
  have h0 : ∃ y, getI it.names 0 = some y := ⟨_, getI_lt_some (k := 0) (by omega)⟩
  have h1 : ∃ y, getI it.marks 0 = some y := ⟨_, getI_lt_some (k := 0) (by omega)⟩
  have hb : itB it := ⟨by omega, by omega, q3⟩
  cases v2 == 0
  · rw [cond_false]
    cases v2 == 1
    · rw [cond_false]
      cases v2 == 2
      · rw [cond_false]
        cases v2 == 3
        · rw [cond_false]
          cases v2 == 4
          · exact ⟨_, _, _, rfl, g2.mono (by omega), hb⟩
          · exact ⟨_, _, _, rfl, g2.mono (by omega), by simp, by simp, by intro x hx; simp at hx⟩
        · rw [cond_true]
          obtain ⟨b3, s3, v3, e3, g3, l3, u3⟩ := pick_ok (s := s2) g2 (by omega) 2 (by omega)
          rw [bnd e3]
          obtain ⟨it', k1, k2⟩ := anyItem_l (L1Cur.mk a b1 s1, it) a b3 s3 v3 (by omega) _ fuel it.names it.marks rfl (by omega) (by omega) q1 q3
          exact ⟨_, _, _, k1, g3.mono (by omega), k2⟩
      · rw [cond_true, fits_of (by simp; omega), need_t, Option.bind_some]
        exact ⟨_, _, _, rfl, g2.mono (by omega), by dsimp only; omega, by simp; omega, q3⟩
    · rw [cond_true]
      obtain ⟨b3, s3, v3, e3, g3, l3⟩ := among_ok (s := s2) g2 (by omega) [(-1), 3, 4] (by simp) (by simp)
      obtain ⟨y, hy⟩ := h1
      rw [bnd e3, bnd hy]
      exact ⟨_, _, _, rfl, g3.mono (by omega), by dsimp only; omega, by simp; omega, q3⟩
  · rw [cond_true]
    obtain ⟨b3, s3, v3, e3, g3, l3⟩ := of_ok (s := s2) g2 (by omega) [(⟨#[]⟩ : ByteArray), (⟨#[97]⟩ : ByteArray), (⟨#[65, 66, 67, 68, 69]⟩ : ByteArray), (⟨#[65, 66, 67, 68, 69, 70]⟩ : ByteArray), (⟨#[51, 65, 60]⟩ : ByteArray), (⟨#[65, 32, 66]⟩ : ByteArray)] (by simp) (by simp)
    obtain ⟨y, hy⟩ := h0
    rw [bnd e3, bnd hy]
    refine ⟨_, _, _, rfl, g3.mono (by omega), by simp; omega, by dsimp only; omega, fun x hx => ?_⟩
    rcases List.mem_or_eq_of_mem_set hx with hx | rfl
    · exact q3 x hx
    · simp at l3; rcases l3 with rfl | rfl | rfl | rfl | rfl | rfl <;> decide
def itsB (l : List Item) : Prop := ∀ it ∈ l, itB it
theorem itsB_snoc {l : List Item} {x : Item} (h : itsB l) (hx : itB x) : itsB (l ++ [x]) := by
  intro s hs
  rcases List.mem_append.1 hs with hs | hs
  · exact h s hs
  · rw [List.mem_singleton.1 hs]; exact hx
theorem itGood_some (it : Item) (h : itB it) (fuel : Nat) (hf : 1048576 < fuel) : ∃ v, spec_itGood_p fuel it = some v := by
  obtain ⟨v, _, v2, _⟩ := item_l it fuel hf it.names 0 (fun s hs => by have := h.2.2 s hs; omega)
  exact ⟨v, v2⟩
theorem anyItems_l2 (a : List Int) (b s v : Int) (hv : 0 ≤ v ∧ v ≤ 1) : ∀ (n f : Nat) (l : List Item), ((14 + v) - (l.length : Int)).toNat = n → n < f → l.length ≤ 15 → itsB l →
    ∃ r, spec_l1Cur_anyItems_l2 (L1Cur.mk a b s, v) f l = some (L1Cur.mk a b s, r) ∧ r.length ≤ 15 ∧ itsB r := by
  intro n
  induction n with
  | zero =>
    intro f l h hf h4 hb
    obtain ⟨f, rfl⟩ := Nat.exists_eq_succ_of_ne_zero (by omega : f ≠ 0)
    rw [spec_l1Cur_anyItems_l2]
    dsimp only
    rw [w64_in (by omega), decide_eq_false (by omega)]
    exact ⟨_, rfl, h4, hb⟩
  | succ n ih =>
    intro f l h hf h4 hb
    obtain ⟨f, rfl⟩ := Nat.exists_eq_succ_of_ne_zero (by omega : f ≠ 0)
    rw [spec_l1Cur_anyItems_l2]
    dsimp only
    rw [w64_in (by omega), decide_eq_true (by omega), cond_true, fits_of (by simp; omega), need_t, Option.bind_some]
    exact ih f _ (by simp; omega) (by omega) (by simp; omega) (itsB_snoc hb ⟨by simp, by simp, by intro x hx; simp at hx; subst hx; decide⟩)
theorem anyItems_l1 (fuel : Nat) (hF : 1048576 < fuel) : ∀ (n f : Nat) (a : List Int) (b m s : Int) (l : List Item), CO a b m → m + 40 * (n : Int) ≤ 500000000 → n < f → l.length + n ≤ 15 → itsB l →
    ∃ b' s' r, spec_l1Cur_anyItems_l1 fuel f a b s l (n : Int) = some (L1Cur.mk a b' s', r) ∧ CO a b' (m + 40 * (n : Int) + 4) ∧ r.length ≤ 15 ∧ itsB r := by
  intro n
  induction n with
  | zero =>
    intro f a b m s l h hm hf hl hb
    obtain ⟨f, rfl⟩ := Nat.exists_eq_succ_of_ne_zero (by omega : f ≠ 0)
    rw [spec_l1Cur_anyItems_l1, decide_eq_false (by omega), cond_false]
    obtain ⟨b1, s1, v1, e1, g1⟩ := one_ok (s := s) h (by omega) 24 (by omega)
    rw [bnd e1]
    dsimp only
    cases v1
    · exact ⟨_, _, _, rfl, g1.mono (by omega), by omega, hb⟩
    · rw [cond_true]
      obtain ⟨b2, s2, v2, e2, g2, l2, u2⟩ := pick_ok (s := s1) g1 (by omega) 2 (by omega)
      rw [bnd e2]
      obtain ⟨r, k1, k2, k3⟩ := anyItems_l2 a b2 s2 v2 (by omega) _ fuel l rfl (by omega) (by omega) hb
      exact ⟨_, _, _, k1, g2.mono (by omega), k2, k3⟩
  | succ n ih =>
    intro f a b m s l h hm hf hl hb
    obtain ⟨f, rfl⟩ := Nat.exists_eq_succ_of_ne_zero (by omega : f ≠ 0)
    rw [spec_l1Cur_anyItems_l1, decide_eq_true (by omega), cond_true]
    obtain ⟨b1, s1, it, e1, g1, q⟩ := anyItem_ok (s := s) h (by omega) fuel (by omega)
    rw [bnd e1]
    dsimp only
    obtain ⟨v, hv⟩ := itGood_some it q fuel hF
    rw [bnd hv]
    obtain ⟨b2, s2, v2, e2, g2⟩ : ∃ b2 s2 v2, opt (!v) (L1Cur.mk a b1 s1, default) (spec_l1Cur_one_p (L1Cur.mk a b1 s1) 4) = some (L1Cur.mk a b2 s2, v2) ∧ CO a b2 (m + 30 + 2) := by
      cases v
      · obtain ⟨b2, s2, v2, e2, g2⟩ := one_ok (s := s1) g1 (by omega) 4 (by omega)
        exact ⟨b2, s2, v2, e2, g2⟩
      · exact ⟨b1, s1, default, rfl, g1.mono (by omega)⟩
    rw [bnd e2]
    dsimp only
    rw [w64_in (n := ((n + 1 : Nat) : Int) - 1) (by omega), show ((n + 1 : Nat) : Int) - 1 = (n : Int) from by omega]
    cases v || v2
    · rw [cond_false]
      obtain ⟨b3, s3, r, e3, g3, k1, k2⟩ := ih f a b2 _ s2 l g2 (by omega) (by omega) (by omega) hb
      exact ⟨b3, s3, r, e3, g3.mono (by omega), k1, k2⟩
    · rw [cond_true, fits_of (by simp; omega), need_t, Option.bind_some]
      obtain ⟨b3, s3, r, e3, g3, k1, k2⟩ := ih f a b2 _ s2 (l ++ [it]) g2 (by omega) (by omega) (by simp; omega) (itsB_snoc hb q)
      exact ⟨b3, s3, r, e3, g3.mono (by omega), k1, k2⟩
theorem anyItems_ok {a : List Int} {b m s : Int} (h : CO a b m) (hm : m ≤ 400000000) (fuel : Nat) (hf : 1048576 < fuel) : ∃ b' s' l, spec_l1Cur_anyItems_p fuel (L1Cur.mk a b s) = some (L1Cur.mk a b' s', l) ∧ CO a b' (m + 300) ∧ l.length ≤ 15 ∧ itsB l := by
  unfold spec_l1Cur_anyItems_p
  obtain ⟨b1, s1, v1, e1, g1, l1, u1⟩ := pick_ok (s := s) h (by omega) 7 (by omega)
  rw [bnd e1]
  dsimp only
  obtain ⟨b2, s2, r, e2, g2, k1, k2⟩ := anyItems_l1 fuel hf v1.toNat fuel a b1 (m + 2) s1 [] g1 (by omega) (by omega) (by simp; omega) (by intro x hx; simp at hx)
  rw [show ((v1.toNat : Nat) : Int) = v1 from by omega] at e2
  exact ⟨b2, s2, r, e2, g2.mono (by omega), k1, k2⟩
theorem nameB_its {l : List Item} (h : itsB l) : nameB l := fun it hi s hs => by have := (h it hi).2.2 s hs; omega
theorem hiGood_some {l : List Item} (hi : ItemsOk l) (h : List Change) (hl : h.length ≤ 1048576) : ∃ v, spec_hiGood_p l h = some v := ⟨_, hiGood_eq hi h hl⟩
def tailC (x1 : L1Cur × List Item) (a : List Int) (b s : Int) (h : List Change) : Option (L1Cur × List Item × List Change) :=
      (cond (decide ((h.length : Int) > 0))
        ((spec_l1Cur_pick_p (L1Cur.mk a b s) (h.length : Int)).bind fun x99 =>
        (getI h x99.2).bind fun x101 =>
        (spec_l1Cur_pick_p (L1Cur.mk x99.1.code x99.1.at' x99.1.seed) 40).bind fun x103 =>
        cond (x103.2 == 0)
          ((spec_l1Cur_among_p (L1Cur.mk x103.1.code x103.1.at' x103.1.seed) ([(-1), 0, 100000, 100001] : List Int)).bind fun x105 =>
          some ((L1Cur.mk x105.1.code x105.1.at' x105.1.seed), x1.2, (h.set x99.2.toNat (Change.mk x105.2 x101.caller x101.item x101.name x101.mark x101.review))))
          (cond (x103.2 == 1)
            ((spec_l1Cur_among_p (L1Cur.mk x103.1.code x103.1.at' x103.1.seed) ([0, 9, 10] : List Int)).bind fun x107 =>
            some ((L1Cur.mk x107.1.code x107.1.at' x107.1.seed), x1.2, (h.set x99.2.toNat (Change.mk x101.tick x107.2 x101.item x101.name x101.mark x101.review))))
            (cond (x103.2 == 2)
              ((spec_l1Cur_among_p (L1Cur.mk x103.1.code x103.1.at' x103.1.seed) [(-1), (x1.2.length : Int)]).bind fun x109 =>
              some ((L1Cur.mk x109.1.code x109.1.at' x109.1.seed), x1.2, (h.set x99.2.toNat (Change.mk x101.tick x101.caller x109.2 x101.name x101.mark x101.review))))
              (cond (x103.2 == 3)
                ((spec_l1Cur_among_p (L1Cur.mk x103.1.code x103.1.at' x103.1.seed) ([(-1), 3] : List Int)).bind fun x111 =>
                some ((L1Cur.mk x111.1.code x111.1.at' x111.1.seed), x1.2, (h.set x99.2.toNat (Change.mk x101.tick x101.caller x101.item x111.2 x101.mark x101.review))))
                (cond (x103.2 == 4)
                  ((spec_l1Cur_among_p (L1Cur.mk x103.1.code x103.1.at' x103.1.seed) ([(-1), 4] : List Int)).bind fun x113 =>
                  some ((L1Cur.mk x113.1.code x113.1.at' x113.1.seed), x1.2, (h.set x99.2.toNat (Change.mk x101.tick x101.caller x101.item x101.name x113.2 x101.review))))
                  (cond (x103.2 == 5)
                    (some ((L1Cur.mk x103.1.code x103.1.at' x103.1.seed), x1.2, (h.set x99.2.toNat (Change.mk x101.tick x101.caller x101.item x101.name x101.mark (!x101.review)))))
                    (some ((L1Cur.mk x103.1.code x103.1.at' x103.1.seed), x1.2, h))))))))
        (some ((L1Cur.mk a b s), x1.2, h)))
theorem tailC_ok (x1 : L1Cur × List Item) {a : List Int} {b m s : Int} (hc : CO a b m) (hm : m ≤ 800000000) (h : List Change) (hl : h.length ≤ 61) : ∃ b' s' r, tailC x1 a b s h = some (L1Cur.mk a b' s', x1.2, r) ∧ CO a b' (m + 10) ∧ r.length ≤ 61 := by
  unfold tailC
  by_cases h0 : (h.length : Int) > 0
  · rw [decide_eq_true h0, cond_true]
    obtain ⟨b1, s1, v1, e1, g1, l1, u1⟩ := pick_ok (s := s) hc (by omega) (h.length : Int) (by omega)
    have hlt : v1.toNat < h.length := by omega
    have hg : getI h v1 = some h[v1.toNat] := by rw [getI_of (k := v1.toNat) (by omega)]; exact List.getElem?_eq_getElem hlt
    rw [bnd e1]
    dsimp only
    rw [bnd hg]
    obtain ⟨b2, s2, v2, e2, g2, l2, u2⟩ := pick_ok (s := s1) g1 (by omega) 40 (by omega)
    rw [bnd e2]
    dsimp only
    cases v2 == 0
    · rw [cond_false]
      cases v2 == 1
      · rw [cond_false]
        cases v2 == 2
        · rw [cond_false]
          cases v2 == 3
          · rw [cond_false]
            cases v2 == 4
            · rw [cond_false]
              cases v2 == 5
              · exact ⟨_, _, _, rfl, g2.mono (by omega), hl⟩
              · exact ⟨_, _, _, rfl, g2.mono (by omega), by simpa using hl⟩
            · obtain ⟨b3, s3, v3, e3, g3, _⟩ := among_ok (s := s2) g2 (by omega) [(-1), 4] (by simp) (by simp)
              rw [cond_true, bnd e3]
              exact ⟨_, _, _, rfl, g3.mono (by omega), by simpa using hl⟩
          · obtain ⟨b3, s3, v3, e3, g3, _⟩ := among_ok (s := s2) g2 (by omega) [(-1), 3] (by simp) (by simp)
            rw [cond_true, bnd e3]
            exact ⟨_, _, _, rfl, g3.mono (by omega), by simpa using hl⟩
        · obtain ⟨b3, s3, v3, e3, g3, _⟩ := among_ok (s := s2) g2 (by omega) [(-1), (x1.2.length : Int)] (by simp) (by simp)
          rw [cond_true, bnd e3]
          exact ⟨_, _, _, rfl, g3.mono (by omega), by simpa using hl⟩
      · obtain ⟨b3, s3, v3, e3, g3, _⟩ := among_ok (s := s2) g2 (by omega) [0, 9, 10] (by simp) (by simp)
        rw [cond_true, bnd e3]
        exact ⟨_, _, _, rfl, g3.mono (by omega), by simpa using hl⟩
    · obtain ⟨b3, s3, v3, e3, g3, _⟩ := among_ok (s := s2) g2 (by omega) [(-1), 0, 100000, 100001] (by simp) (by simp)
      rw [cond_true, bnd e3]
      exact ⟨_, _, _, rfl, g3.mono (by omega), by simpa using hl⟩
  · rw [decide_eq_false h0, cond_false]
    exact ⟨_, _, _, rfl, hc.mono (by omega), hl⟩

end Go.Proofs.YtjbkbiofklgblaaGreatDoor

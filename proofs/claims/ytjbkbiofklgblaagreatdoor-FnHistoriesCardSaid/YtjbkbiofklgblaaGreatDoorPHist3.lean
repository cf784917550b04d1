/- Plain lemmas: what the functions compute is what the reference says, in plain Lean. No condition. -/
import Derived.Test.YtjbkbiofklgblaaGreatDoorPHist2
set_option maxRecDepth 4000
set_option maxHeartbeats 1000000
set_option linter.unusedVariables false
set_option linter.unusedSimpArgs false
set_option linter.unusedSectionVars false

namespace Go.Proofs.YtjbkbiofklgblaaGreatDoor
open Go.AM

theorem prefix_good {l : List Item} (hb : nameB l) (h : List Change) (hl : h.length ≤ 1048576) {F : Nat} (hF : 1048576 < F) (hg : Good F l h) {z : HiState} (hz : runH l h = some z) (i : Nat) {c : Change} (hc : h[i]? = some c) :
    ∃ y, runH l (h.take i) = some y ∧ Good F l (h.take i) ∧ StOk y ∧ (chg y c).2 = true := by
  obtain ⟨b, b1, b2, b3, _⟩ := isHistory_eq hb h hl F hF
  obtain rfl : b = true := by rw [show impl_isHistory_p F l h = some true from hg] at b1; exact (Option.some.inj b1).symm
  obtain ⟨hi, h60, _⟩ := b3 rfl
  have hil := (List.getElem?_eq_some_iff.1 hc).1
  have hci := (List.getElem?_eq_some_iff.1 hc).2
  have hsplit : h = h.take i ++ c :: h.drop (i + 1) := by rw [← hci, List.getElem_cons_drop hil, List.take_append_drop]
  obtain ⟨z0, z1, z2⟩ := runS_mid (h.take i) none (startH l) z c (h.drop (i + 1)) (by rw [← hsplit]; exact hz)
  have hpl : (h.take i).length ≤ 60 := by rw [List.length_take]; omega
  have hg0 := hist_any hb h (h.take i) hl F hF hg hpl z1
  obtain ⟨s', y, g1, g2, g3, g4⟩ := (stateOf_eq hi (h.take i) (by omega) 100000).2 z0 z1
  rw [all_ticks hi z1] at g2
  obtain rfl : z0 = y := by rw [show runH l (h.take i) = some z0 from z1] at g2; exact Option.some.inj g2
  exact ⟨z0, z1, hg0, g4, z2⟩
theorem tbl_scan (l : List Item) (h : List Change) (hl : h.length ≤ 1048576) (T ca : Int) : ∀ (m fuel : Nat), m ≤ h.length → m < fuel →
    (spec_TakeBack_l1 l h T ca fuel ((m : Int) - 1) = some ([], false)) ∨
    (∃ (i : Nat) (c : Change), h[i]? = some c ∧ laws_FnHistories_l1 (l, h, T, ca) fuel ((m : Int) - 1) = some (i : Int) ∧ spec_TakeBack_l1 l h T ca fuel ((m : Int) - 1) = ((sliceHi h (i : Int)).bind fun x33 =>
        (spec_hiRun_p l x33 100000).bind fun x35 =>
        (getI x35.1.items c.item).bind fun x37 =>
        (getI x37.marks c.name).bind fun x39 =>
        (spec_hiAdd_p l h (Change.mk T ca c.item c.name x39 false)).bind fun x41 =>
        some (x41.1, x41.2))) := by
  intro m
  induction m with
  | zero =>
    intro fuel _ hf
    obtain ⟨f, rfl⟩ := Nat.exists_eq_succ_of_ne_zero (by omega : fuel ≠ 0)
    left
    rw [spec_TakeBack_l1, decide_eq_false (by omega)]
    rfl
  | succ m ih =>
    intro fuel hm hf
    obtain ⟨f, rfl⟩ := Nat.exists_eq_succ_of_ne_zero (by omega : fuel ≠ 0)
    have hg := getI_lt_some (l := h) (k := m) (by omega)
    rw [show ((m + 1 : Nat) : Int) - 1 = (m : Int) from by omega, spec_TakeBack_l1, laws_FnHistories_l1, decide_eq_true (by omega : (m : Int) ≥ 0), cond_true, bnd hg, w64_in (by omega)]
    dsimp only
    cases hr : h[m].review
    · right
      refine ⟨m, h[m], List.getElem?_eq_getElem (by omega), ?_, rfl⟩
      cases hd : decide ((m : Int) > 0)
      · rw [opt_f, Option.bind_some, Bool.false_and, cond_false]
      · rw [opt_t, bnd hg, hr]; rfl
    · rcases ih f (by omega) (by omega) with q | ⟨i, c, q0, q1, q2⟩
      · exact .inl q
      · by_cases h0 : m = 0
        · subst h0
          obtain ⟨f', rfl⟩ := Nat.exists_eq_succ_of_ne_zero (by omega : f ≠ 0)
          left
          rw [cond_true, spec_TakeBack_l1, decide_eq_false (by omega)]
          rfl
        · refine .inr ⟨i, c, q0, ?_, q2⟩
          rw [decide_eq_true (by omega), opt_t, bnd hg, hr]
          exact q1
theorem add_caseI {l : List Item} (hb : nameB l) (h : List Change) (hl : h.length ≤ 1000000) (x : Change) (fuel : Nat) (hf : 1048576 < fuel) {r : List Change × Bool} (hr : impl_AddChange_p fuel l h x = some r) (ht : r.2 = true) : r = (h ++ [x], true) ∧ Good fuel l (h ++ [x]) := by
  unfold impl_AddChange_p at hr
  obtain ⟨b, b1, b2, b3, _⟩ := isHistory_eq hb h (by omega) fuel hf
  rw [bnd b1] at hr
  cases b
  · cases hr; cases ht
  · obtain ⟨c, c1, _⟩ := isHistory_eq hb (h ++ [x]) (by simp; omega) fuel hf
    rw [fits_of (n := h.length) (by omega), fits_of (n := h.length + [x].length) (by simp; omega)] at hr
    simp only [need_t, Option.bind_some, Bool.not_true, cond_false] at hr
    rw [bnd c1] at hr
    cases c
    · cases hr; cases ht
    · cases hr
      exact ⟨rfl, c1⟩
theorem taken_case {l : List Item} (hb : nameB l) (h : List Change) (hl : h.length ≤ 1000000) (T ca : Int) {F : Nat} (hF : 1048576 < F) {r : List Change × Bool} (hr : spec_TakeBack_p F l h T ca = some r) (ht : r.2 = true) :
    ∃ (i : Nat) (c : Change) (y0 y1 : HiState) (it0 it1 : Item) (m : Int), laws_FnHistories_l1 (l, h, T, ca) F ((h.length : Int) - 1) = some (i : Int) ∧ h[i]? = some c ∧ i ≤ h.length ∧ Good F l (h.take i) ∧ runH l (h.take i) = some y0 ∧ getI y0.items c.item = some it0 ∧ getI it0.marks c.name = some m ∧
      r.1.length = h.length + 1 ∧ Good F l r.1 ∧ runH l r.1 = some y1 ∧ getI y1.items c.item = some it1 ∧ getI it1.marks c.name = some m := by
  obtain ⟨b, b1, b2, b3, _⟩ := isHistory_eq hb h (by omega) F hF
  unfold spec_TakeBack_p at hr
  rw [bnd b2] at hr
  cases b
  · cases hr; cases ht
  · obtain ⟨hi, h60, z, hz⟩ := b3 rfl
    simp only [Bool.not_true, cond_false] at hr
    rw [w64_in (by omega)] at hr
    rcases tbl_scan l h (by omega) T ca h.length F (Nat.le_refl _) (by omega) with q | ⟨i, c, q0, q1, q2⟩
    · rw [q] at hr; cases hr; cases ht
    · have hil := (List.getElem?_eq_some_iff.1 q0).1
      have hs : sliceHi h (i : Int) = some (h.take i) := sliceHi_of rfl (by omega)
      rw [q2, bnd hs] at hr
      obtain ⟨y0, z1, hg0, g4, z2⟩ := prefix_good hb h (by omega) hF b1 hz i q0
      obtain ⟨y', p1, p2⟩ := hiRun_eq hi (h.take i) (by rw [List.length_take]; omega) 100000 z1
      rw [all_ticks hi z1] at p2
      obtain rfl : y0 = y' := by rw [show runH l (h.take i) = some y0 from z1] at p2; exact Option.some.inj p2
      rw [bnd p1] at hr
      obtain ⟨it0, hg1, hr⟩ := bindE hr
      obtain ⟨m, hg2, hr⟩ := bindE hr
      obtain ⟨a, a1, a2, a3⟩ := add_same hb h (by omega) (Change.mk T ca c.item c.name m false) F hF b1
      rw [bnd a1] at hr
      cases hr
      have e := add_caseI hb h (by omega) (Change.mk T ca c.item c.name m false) F hF a2 ht
      obtain ⟨rfl, hgood⟩ := e
      obtain ⟨b', b1', b2', b3', _⟩ := isHistory_eq hb (h ++ [Change.mk T ca c.item c.name m false]) (by simp; omega) F hF
      obtain rfl : b' = true := by rw [show impl_isHistory_p F l _ = some true from hgood] at b1'; exact (Option.some.inj b1').symm
      obtain ⟨_, _, y1, hy1⟩ := b3' rfl
      obtain ⟨x0, x1, _, x3, x4⟩ := prefix_good hb (h ++ [Change.mk T ca c.item c.name m false]) (by simp; omega) hF hgood hy1 h.length (c := Change.mk T ca c.item c.name m false) (by simp)
      rw [List.take_left] at x1
      have hlast : (chg x0 (Change.mk T ca c.item c.name m false)).1 = y1 := by
        have : ∀ (pre : List Change) (lo : Option Int) (s : HiState), runS lo s pre = some x0 → runS lo s (pre ++ [Change.mk T ca c.item c.name m false]) = some y1 → (chg x0 (Change.mk T ca c.item c.name m false)).1 = y1 := by
          intro pre
          induction pre with
          | nil =>
            intro lo s h1 h2
            rw [runS] at h1; cases h1
            rw [List.nil_append, runS] at h2
            split at h2
            · rw [runS] at h2; exact Option.some.inj h2
            · cases h2
          | cons p pre ih =>
            intro lo s h1 h2
            rw [List.cons_append, runS] at h2
            rw [runS] at h1
            split at h1
            · rename_i hq; rw [if_pos hq] at h2; exact ih _ _ h1 h2
            · cases h1
        exact this h none (startH l) x1 hy1
      obtain ⟨it1, w1, w2⟩ := mark_after x3 _ x4
      rw [hlast] at w1
      exact ⟨i, c, y0, y1, it0, it1, m, q1, q0, by omega, hg0, z1, hg1, hg2, by simp, hgood, hy1, w1, w2⟩
theorem run_all {F : Nat} {l : List Item} (hi : ItemsOk l) : ∀ (ys : List Change) (lo : Option Int) (s : HistoryState) (x z : HiState), StOk x → Sim s x → runS lo x ys = some z → AllItems F x.items → AllItems F z.items ∧ z.items.map (fun it => it.names) = x.items.map fun it => it.names := by
  intro ys
  induction ys with
  | nil => intro lo s x z hx hs h ha; rw [runS] at h; cases h; exact ⟨ha, rfl⟩
  | cons c ys ih =>
    intro lo s x z hx hs h ha
    rw [runS] at h
    split at h
    · rename_i hq
      obtain ⟨b, s', x', h1, h2, h3⟩ := same_change hx hs c
      have e : chg x c = (x', b) := by unfold chg; rw [h1]; rfl
      have hb : b = true := by have := hq.1; rw [e] at this; exact this
      obtain ⟨k1, k2⟩ := chg_all hx c hq.1 ha
      rw [e] at h k1 k2
      obtain ⟨g1, g2, _⟩ := h3 hb
      obtain ⟨j1, j2⟩ := ih _ s' x' z g1 g2 h k1
      exact ⟨j1, j2.trans k2⟩
    · cases h
theorem equal_l (b : List ByteArray) : ∀ (ys pre : List ByteArray), b = pre ++ ys → slices_Equal_string_l1 b ys pre.length = some true := by
  intro ys
  induction ys with
  | nil => intro pre _; rw [slices_Equal_string_l1]
  | cons y ys ih =>
    intro pre h
    have := ih (pre ++ [y]) (by rw [h]; simp)
    rw [show (pre ++ [y]).length = pre.length + 1 from by simp] at this
    rw [slices_Equal_string_l1, bnd (getI_app (pre := pre) (y := y) (ys := ys) h rfl), decide_eq_true rfl, Bool.not_true, cond_false, this]
theorem equal_eq (a : List ByteArray) : slices_Equal_string_p a a = some true := by
  unfold slices_Equal_string_p
  rw [bne_self_eq_false, cond_false]
  exact equal_l a a [] rfl
theorem sameNames_l (b : List Item) : ∀ (ys : List Item) (pre qs : List Item), b = pre ++ qs → ys.map (fun it => it.names) = qs.map (fun it => it.names) → impl_sameNames_l1 b ys pre.length = some true := by
  intro ys
  induction ys with
  | nil => intro pre qs _ _; rw [impl_sameNames_l1]
  | cons y ys ih =>
    intro pre qs h hm
    cases qs with
    | nil => cases hm
    | cons q qs =>
      rw [List.map_cons, List.map_cons] at hm
      injection hm with h1 h2
      have := ih (pre ++ [q]) qs (by rw [h]; simp) h2
      rw [show (pre ++ [q]).length = pre.length + 1 from by simp] at this
      rw [impl_sameNames_l1, bnd (getI_app (pre := pre) (y := q) (ys := qs) h rfl), h1, bnd (equal_eq _), Bool.not_true, cond_false, this]
theorem sameCalls_case {l : List Item} (hb : nameB l) (h : List Change) (hl : h.length ≤ 1048576) {F : Nat} (hF : 1048576 < F) (hg : Good F l h) {y : HiState} (hy : runH l h = some y) : impl_SameCalls_p F l y.items = some (true, true) := by
  obtain ⟨h60, hin, ha, _⟩ := good_in hb hl hF hg
  obtain ⟨b, b1, b2, b3, _⟩ := isHistory_eq hb h hl F hF
  obtain rfl : b = true := by rw [show impl_isHistory_p F l h = some true from hg] at b1; exact (Option.some.inj b1).symm
  obtain ⟨hi, _⟩ := b3 rfl
  have h0 := (items_iff F l l 0).1 ha
  obtain ⟨g1, g2⟩ := run_all (F := F) hi h none _ _ y (start_ok hi) (start_sim l) hy h0.1
  have hlen : y.items.length = l.length := by
    have := congrArg List.length g2
    simpa [startH] using this
  have hy2 : impl_AreItems_p F y.items = some true := (items_iff F y.items y.items 0).2 ⟨g1, by omega⟩
  have hsn : impl_sameNames_p l y.items = some true := by
    unfold impl_sameNames_p
    rw [hlen, bne_self_eq_false, cond_false]
    exact sameNames_l y.items l [] y.items rfl g2.symm
  unfold impl_SameCalls_p
  rw [bnd ha]
  simp only [Bool.not_true, Bool.not_false, opt_t]
  rw [bnd hy2]
  simp only [Bool.not_true, Bool.or_false, cond_false]
  rw [bnd hsn]
theorem is_case {l : List Item} (hb : nameB l) (h : List Change) (hl : h.length ≤ 1048576) {F : Nat} (hF : 1048576 < F) : ∃ p, spec_IsHistory_p F l h = some p ∧ impl_IsHistory_p F l h = some p ∧ ((p.2 && p.1) = true ↔ Good F l h) := by
  obtain ⟨b, b1, b2, b3, a, a1, a2, a3, a4⟩ := isHistory_eq hb h hl F hF
  unfold spec_IsHistory_p impl_IsHistory_p Good
  rw [bnd a1, bnd a2, b1]
  cases a
  · obtain rfl := a4 rfl
    exact ⟨_, rfl, rfl, by simp⟩
  · simp only [Bool.not_true, cond_false]
    rw [bnd (a3 rfl)]
    exact ⟨_, rfl, rfl, by simp⟩
theorem fin_case {l : List Item} (hb : nameB l) (h : List Change) (hl : h.length ≤ 1048576) {F : Nat} (hF : 1048576 < F) : ∃ p, spec_FinalState_p F l h = some p ∧ impl_FinalState_p F l h = some p ∧ (p.2 = true ↔ Good F l h) ∧ (Good F l h → ∃ y, runH l h = some y ∧ p = (y.items, true)) := by
  rcases final_case hb h hl F hF with ⟨y, h1, h2, h3, h4⟩ | ⟨h1, h3, h4⟩
  · exact ⟨_, h3, h4, ⟨fun _ => h1, fun _ => rfl⟩, fun _ => ⟨y, h2, rfl⟩⟩
  · exact ⟨_, h3, h4, ⟨fun q => (by cases q), fun q => absurd q h1⟩, fun q => absurd q h1⟩
theorem fin_good {l : List Item} (hb : nameB l) (h : List Change) (hl : h.length ≤ 1048576) {F : Nat} (hF : 1048576 < F) (hg : Good F l h) {y : HiState} (hy : runH l h = some y) : spec_FinalState_p F l h = some (y.items, true) ∧ impl_FinalState_p F l h = some (y.items, true) := by
  obtain ⟨p, p1, p2, _, p4⟩ := fin_case hb h hl hF
  obtain ⟨z, z1, rfl⟩ := p4 hg
  rw [hy] at z1
  cases z1
  exact ⟨p1, p2⟩

end Go.Proofs.YtjbkbiofklgblaaGreatDoor

/- Plain lemmas: what the functions compute is what the reference says, in plain Lean. No condition. -/
import Derived.Test.YtjbkbiofklgblaaGreatDoorPHistory2
set_option maxRecDepth 4000
set_option maxHeartbeats 1000000
set_option linter.unusedVariables false
set_option linter.unusedSimpArgs false
set_option linter.unusedSectionVars false

namespace Go.Proofs.YtjbkbiofklgblaaGreatDoor
open Go.AM

def chg (x : HiState) (c : Change) : HiState × Bool := (spec_hiState_change_p x c).getD (x, false)
def runS : Option Int → HiState → List Change → Option HiState
  | _, x, [] => some x
  | last, x, c :: ys => if (chg x c).2 = true ∧ (∀ t, last = some t → t ≤ c.tick) then runS (some c.tick) (chg x c).1 ys else none
def lastT (pre : List Change) : Option Int := pre.getLast?.map fun c => c.tick
theorem lastT_snoc (pre : List Change) (c : Change) : lastT (pre ++ [c]) = some c.tick := by unfold lastT; simp
theorem adj {h pre ys : List Change} {c : Change} (hh : h = pre ++ c :: ys) (hl : h.length ≤ 1048576) : ∃ y : Change, (opt (decide ((pre.length : Int) > 0)) default (getI h (w64 ((pre.length : Int) - 1)))) = some y ∧
    ((decide ((pre.length : Int) > 0) && decide (y.tick > c.tick)) = false ↔ ∀ t, lastT pre = some t → t ≤ c.tick) := by
  rcases List.eq_nil_or_concat pre with h0 | ⟨q, p, h0⟩
  · subst h0
    exact ⟨default, rfl, by simp [lastT]⟩
  · rw [List.concat_eq_append] at h0
    subst h0
    have hlen : (q ++ [p]).length = q.length + 1 := by simp
    have hq : q.length ≤ 1048576 := by rw [hh] at hl; simp at hl; omega
    refine ⟨p, ?_, ?_⟩
    · rw [hlen, decide_eq_true (by omega), opt_t, w64_in (by omega)]
      rw [show ((q.length + 1 : Nat) : Int) - 1 = (q.length : Int) from by omega]
      exact getI_app (pre := q) (y := p) (ys := c :: ys) (by rw [hh]; simp) rfl
    · rw [hlen, decide_eq_true (by omega), Bool.true_and, decide_eq_false_iff_not, lastT_snoc]
      constructor
      · intro k t ht; cases ht; omega
      · intro k; have := k _ rfl; omega
theorem hiRun_A (h : List Change) (hl : h.length ≤ 1048576) (T : Int) : ∀ (ys pre : List Change) (s : HistoryState) (x z : HiState), h = pre ++ ys → StOk x → Sim s x → runS (lastT pre) x ys = some z →
    ∃ y, spec_hiRun_l1 h T ys pre.length x.items x.open' = some (y, true) ∧ runS (lastT pre) x (ys.takeWhile fun c => decide (c.tick ≤ T)) = some y := by
  intro ys
  induction ys with
  | nil => intro pre s x z _ _ _ _; exact ⟨x, by rw [spec_hiRun_l1], rfl⟩
  | cons c ys ih =>
    intro pre s x z hh hx hs hr
    rw [spec_hiRun_l1]
    by_cases ht : c.tick > T
    · rw [decide_eq_true ht, cond_true, List.takeWhile_cons_of_neg (by simp; omega)]
      exact ⟨x, rfl, rfl⟩
    · rw [decide_eq_false ht, cond_false, List.takeWhile_cons_of_pos (by simp; omega)]
      obtain ⟨b, s', x', e1, e2, e3⟩ := same_change hx hs c
      have hc : chg x c = (x', b) := by unfold chg; rw [e1]; rfl
      rw [runS, hc] at hr
      split at hr
      · rename_i hq
        obtain ⟨rfl, hq2⟩ := hq
        obtain ⟨k1, k2, k3, k4⟩ := e3 rfl
        obtain ⟨y, y1, y2⟩ := adj hh hl
        rw [bnd e1]
        simp only [Bool.not_true, Bool.not_false, Bool.true_and, Bool.false_or]
        rw [bnd y1, y2.2 hq2, cond_false]
        obtain ⟨w, w1, w2⟩ := ih (pre ++ [c]) s' x' z (by rw [hh]; simp) k1 k2 (by rw [lastT_snoc]; exact hr)
        rw [show (pre ++ [c]).length = pre.length + 1 from by simp] at w1
        refine ⟨w, w1, ?_⟩
        rw [runS, hc, if_pos ⟨rfl, hq2⟩]
        rw [lastT_snoc] at w2
        exact w2
      · cases hr
theorem hiRun_B (h : List Change) (hl : h.length ≤ 1048576) (T : Int) : ∀ (ys pre : List Change) (s : HistoryState) (x : HiState), h = pre ++ ys → StOk x → Sim s x → runS (lastT pre) x ys = none → (∀ c ∈ ys, c.tick ≤ T) →
    ∃ w, spec_hiRun_l1 h T ys pre.length x.items x.open' = some (w, false) := by
  intro ys
  induction ys with
  | nil => intro pre s x _ _ _ hr _; rw [runS] at hr; cases hr
  | cons c ys ih =>
    intro pre s x hh hx hs hr ha
    rw [spec_hiRun_l1]
    have := ha c (by simp)
    rw [decide_eq_false (by omega), cond_false]
    obtain ⟨b, s', x', e1, e2, e3⟩ := same_change hx hs c
    have hc : chg x c = (x', b) := by unfold chg; rw [e1]; rfl
    rw [bnd e1]
    obtain ⟨y, y1, y2⟩ := adj hh hl
    cases b
    · exact ⟨_, rfl⟩
    · simp only [Bool.not_true, Bool.not_false, Bool.true_and, Bool.false_or]
      rw [bnd y1]
      by_cases hq2 : ∀ t, lastT pre = some t → t ≤ c.tick
      · rw [y2.2 hq2, cond_false]
        obtain ⟨k1, k2, k3, k4⟩ := e3 rfl
        rw [runS, hc, if_pos ⟨rfl, hq2⟩] at hr
        obtain ⟨w, w1⟩ := ih (pre ++ [c]) s' x' (by rw [hh]; simp) k1 k2 (by rw [lastT_snoc]; exact hr) (fun d hd => ha d (by simp [hd]))
        rw [show (pre ++ [c]).length = pre.length + 1 from by simp] at w1
        exact ⟨w, w1⟩
      · have : (decide ((pre.length : Int) > 0) && decide (y.tick > c.tick)) = true := by
          cases hz : (decide ((pre.length : Int) > 0) && decide (y.tick > c.tick))
          · exact absurd (y2.1 hz) hq2
          · rfl
        rw [this]
        exact ⟨_, rfl⟩
theorem stateOf_C (h : List Change) (hl : h.length ≤ 1048576) (T : Int) (v25 : List Item) (v26 : MapL) : ∀ (ys pre : List Change) (s : HistoryState) (x : HiState), h = pre ++ ys → StOk x → Sim s x → (∃ t, lastT pre = some t ∧ T < t) →
    (runS (lastT pre) x ys = none → impl_stateOf_l1 h T ys pre.length v25 v26 s.items s.open' = some (none, false)) ∧
    (∀ z, runS (lastT pre) x ys = some z → impl_stateOf_l1 h T ys pre.length v25 v26 s.items s.open' = some (some (HistoryState.mk v25 v26), decide ((h.length : Int) ≤ 60))) := by
  intro ys
  induction ys with
  | nil =>
    intro pre s x _ _ _ _
    exact ⟨fun hr => (by rw [runS] at hr; cases hr), fun z _ => by rw [impl_stateOf_l1]⟩
  | cons c ys ih =>
    intro pre s x hh hx hs ⟨t, t1, t2⟩
    obtain ⟨b, s', x', e1, e2, e3⟩ := same_change hx hs c
    have hc : chg x c = (x', b) := by unfold chg; rw [e1]; rfl
    obtain ⟨y, y1, y2⟩ := adj hh hl
    rw [impl_stateOf_l1, bnd (show impl_historyState_apply_p (HistoryState.mk s.items s.open') c = some (s', b) from e2), runS, hc]
    cases b
    · exact ⟨fun _ => rfl, fun z hz => by simp at hz⟩
    · simp only [Bool.not_true, Bool.not_false, Bool.true_and, Bool.false_or]
      rw [bnd y1]
      by_cases hq2 : ∀ t, lastT pre = some t → t ≤ c.tick
      · rw [y2.2 hq2, cond_false, if_pos ⟨by trivial, hq2⟩, decide_eq_false (by have := hq2 t t1; omega), cond_false]
        obtain ⟨k1, k2, k3, k4⟩ := e3 rfl
        have := ih (pre ++ [c]) s' x' (by rw [hh]; simp) k1 k2 ⟨c.tick, lastT_snoc _ _, by have := hq2 t t1; omega⟩
        rw [show (pre ++ [c]).length = pre.length + 1 from by simp, lastT_snoc] at this
        exact this
      · have hz : (decide ((pre.length : Int) > 0) && decide (y.tick > c.tick)) = true := by
          cases hz : (decide ((pre.length : Int) > 0) && decide (y.tick > c.tick))
          · exact absurd (y2.1 hz) hq2
          · rfl
        rw [hz, if_neg (fun q => hq2 q.2)]
        exact ⟨fun _ => rfl, fun z hz => by cases hz⟩
theorem stateOf_D (h : List Change) (hl : h.length ≤ 1048576) (T : Int) : ∀ (ys pre : List Change) (s : HistoryState) (x : HiState), h = pre ++ ys → StOk x → Sim s x →
    (runS (lastT pre) x ys = none → impl_stateOf_l1 h T ys pre.length s.items s.open' s.items s.open' = some (none, false)) ∧
    (∀ z, runS (lastT pre) x ys = some z → ∃ s' y, impl_stateOf_l1 h T ys pre.length s.items s.open' s.items s.open' = some (some s', decide ((h.length : Int) ≤ 60)) ∧
      runS (lastT pre) x (ys.takeWhile fun c => decide (c.tick ≤ T)) = some y ∧ Sim s' y ∧ StOk y) := by
  intro ys
  induction ys with
  | nil =>
    intro pre s x _ hx hs
    exact ⟨fun hr => (by rw [runS] at hr; cases hr), fun z _ => ⟨s, x, by rw [impl_stateOf_l1], rfl, hs, hx⟩⟩
  | cons c ys ih =>
    intro pre s x hh hx hs
    obtain ⟨b, s', x', e1, e2, e3⟩ := same_change hx hs c
    have hc : chg x c = (x', b) := by unfold chg; rw [e1]; rfl
    obtain ⟨y, y1, y2⟩ := adj hh hl
    have e2' : impl_historyState_apply_p (HistoryState.mk s.items s.open') c = some (s', b) := e2
    rw [impl_stateOf_l1, bnd e2', runS, hc]
    cases b
    · exact ⟨fun _ => rfl, fun z hz => by simp at hz⟩
    · simp only [Bool.not_true, Bool.not_false, Bool.true_and, Bool.false_or]
      rw [bnd y1]
      by_cases hq2 : ∀ t, lastT pre = some t → t ≤ c.tick
      · rw [y2.2 hq2, cond_false, if_pos ⟨by trivial, hq2⟩]
        obtain ⟨k1, k2, k3, k4⟩ := e3 rfl
        by_cases ht : c.tick ≤ T
        · rw [decide_eq_true ht, cond_true, bnd e2', List.takeWhile_cons_of_pos (by simpa using ht)]
          have := ih (pre ++ [c]) s' x' (by rw [hh]; simp) k1 k2
          rw [show (pre ++ [c]).length = pre.length + 1 from by simp, lastT_snoc] at this
          refine ⟨this.1, fun z hz => ?_⟩
          obtain ⟨s2, y2', g1, g2, g3, g4⟩ := this.2 z hz
          refine ⟨s2, y2', g1, ?_, g3, g4⟩
          rw [runS, hc, if_pos ⟨rfl, hq2⟩]
          exact g2
        · rw [decide_eq_false ht, cond_false, List.takeWhile_cons_of_neg (by simpa using ht)]
          have := stateOf_C h hl T s.items s.open' ys (pre ++ [c]) s' x' (by rw [hh]; simp) k1 k2 ⟨c.tick, lastT_snoc _ _, by omega⟩
          rw [show (pre ++ [c]).length = pre.length + 1 from by simp, lastT_snoc] at this
          exact ⟨this.1, fun z hz => ⟨s, x, this.2 z hz, rfl, hs, hx⟩⟩
      · have hz : (decide ((pre.length : Int) > 0) && decide (y.tick > c.tick)) = true := by
          cases hz : (decide ((pre.length : Int) > 0) && decide (y.tick > c.tick))
          · exact absurd (y2.1 hz) hq2
          · rfl
        rw [hz, if_neg (fun q => hq2 q.2)]
        exact ⟨fun _ => rfl, fun z hz => by cases hz⟩
def startH (l : List Item) : HiState := HiState.mk l (l.map fun it => List.replicate it.names.length false)
theorem start_ok {l : List Item} (h : ItemsOk l) : StOk (startH l) := by
  refine ⟨h, by unfold startH; simp, fun i it r h1 h2 => ?_⟩
  unfold startH at h1 h2
  dsimp only at h1 h2
  rw [List.getElem?_map, h1] at h2
  cases h2; simp
theorem start_sim (l : List Item) : Sim (HistoryState.mk l []) (startH l) := by
  refine ⟨rfl, ⟨by simp, by simp⟩, fun i k => ?_⟩
  show false = opn (l.map fun it => List.replicate it.names.length false) i k
  unfold opn
  split
  · rw [List.getElem?_map]
    cases l[i.toNat]? with
    | none => rfl
    | some it =>
      simp only [Option.map_some, Option.bind_some]
      rw [List.getElem?_replicate]
      split <;> rfl
  · rfl
theorem itOwn_l : ∀ (ys : List Item) (k : Nat) (acc : List Item), acc.length + ys.length ≤ 1000 → (∀ it ∈ ys, itemOk it) → spec_itOwn_l1 ys k acc = some (acc ++ ys) ∧ impl_copyItems_l1 ys k acc = some (acc ++ ys) := by
  intro ys
  induction ys with
  | nil => intro k acc _ _; rw [spec_itOwn_l1, impl_copyItems_l1]; simp
  | cons y ys ih =>
    intro k acc h hy
    simp only [List.length_cons] at h
    have h3 := hy y (by simp)
    have h4 := h3.1
    have h5 := h3.2
    rw [spec_itOwn_l1, impl_copyItems_l1]
    unfold spec_l1OwnS_p spec_l1Own_p impl_copyItem_p impl_copyInts_p
    rw [fits_of (n := y.names.length) (by omega), fits_of (n := y.marks.length) (by omega)]
    simp only [need_t, Option.bind_some]
    rw [fits_of (by simp; omega)]
    simp only [need_t, Option.bind_some]
    have := ih (k + 1) (acc ++ [y]) (by simp; omega) (fun it hi => hy it (by simp [hi]))
    rw [List.append_assoc] at this
    exact this
theorem hiStart_l (x1 : List Item) : ∀ (ys : List Item) (k : Nat) (acc : List (List Bool)), acc.length + ys.length ≤ 1000 → (∀ it ∈ ys, itemOk it) → spec_hiStart_l1 x1 ys k acc = some (HiState.mk x1 (acc ++ ys.map fun it => List.replicate it.names.length false)) := by
  intro ys
  induction ys with
  | nil => intro k acc _ _; rw [spec_hiStart_l1]; simp
  | cons y ys ih =>
    intro k acc h hy
    simp only [List.length_cons] at h
    have h4 := (hy y (by simp)).1
    rw [spec_hiStart_l1, decide_eq_true (by omega), Bool.true_and, fits_of (by simp; omega), need_t, Option.bind_some, fits_of (by simp; omega), need_t, Option.bind_some, ih (k + 1) _ (by simp; omega) (fun it hi => hy it (by simp [hi]))]
    simp
theorem hiStart_eq {l : List Item} (h : ItemsOk l) : spec_hiStart_p l = some (startH l) := by
  unfold spec_hiStart_p
  rw [bnd (show spec_itOwn_p l = some l from by have := (itOwn_l l 0 [] (by have := h.1; simp; omega) h.2).1; unfold spec_itOwn_p; simpa using this)]
  have := hiStart_l l l 0 [] (by have := h.1; simp; omega) h.2
  unfold startH
  simpa using this
theorem copy_eq {l : List Item} (h : ItemsOk l) : impl_copyItems_p l = some l := by
  have := (itOwn_l l 0 [] (by have := h.1; simp; omega) h.2).2
  unfold impl_copyItems_p
  simpa using this
def runH (l : List Item) (h : List Change) : Option HiState := runS none (startH l) h
theorem stateOf_eq {l : List Item} (hi : ItemsOk l) (h : List Change) (hl : h.length ≤ 1048576) (T : Int) : (runH l h = none → impl_stateOf_p l h T = some (none, false)) ∧
    (∀ z, runH l h = some z → ∃ s' y, impl_stateOf_p l h T = some (some s', decide ((h.length : Int) ≤ 60)) ∧ runH l (h.takeWhile fun c => decide (c.tick ≤ T)) = some y ∧ Sim s' y ∧ StOk y) := by
  unfold impl_stateOf_p
  rw [bnd (copy_eq hi)]
  exact stateOf_D h hl T h [] (HistoryState.mk l []) (startH l) rfl (start_ok hi) (start_sim l)
theorem hiRun_eq {l : List Item} (hi : ItemsOk l) (h : List Change) (hl : h.length ≤ 1048576) (T : Int) {z : HiState} (hz : runH l h = some z) : ∃ y, spec_hiRun_p l h T = some (y, true) ∧ runH l (h.takeWhile fun c => decide (c.tick ≤ T)) = some y := by
  unfold spec_hiRun_p
  rw [bnd (hiStart_eq hi)]
  exact hiRun_A h hl T h [] (HistoryState.mk l []) (startH l) z rfl (start_ok hi) (start_sim l) hz
def Rising : Int → List Change → Prop
  | _, [] => True
  | last, c :: ys => (last ≤ c.tick ∧ c.tick ≤ 100000) ∧ Rising c.tick ys
theorem run_rising : ∀ (ys : List Change) (lo : Option Int) (last : Int) (s : HistoryState) (x z : HiState), (lo = some last ∨ (lo = none ∧ last = 0)) → StOk x → Sim s x → runS lo x ys = some z → Rising last ys := by
  intro ys
  induction ys with
  | nil => intro lo last s x z _ _ _ _; trivial
  | cons c ys ih =>
    intro lo last s x z hlo hx hs hr
    obtain ⟨b, s', x', e1, e2, e3⟩ := same_change hx hs c
    have hc : chg x c = (x', b) := by unfold chg; rw [e1]; rfl
    rw [runS, hc] at hr
    split at hr
    · rename_i hq
      obtain ⟨rfl, hq2⟩ := hq
      obtain ⟨k1, k2, k3, k4⟩ := e3 rfl
      refine ⟨⟨?_, k3.2⟩, ih (some c.tick) c.tick s' x' z (.inl rfl) k1 k2 hr⟩
      rcases hlo with h | ⟨_, h⟩
      · exact hq2 last h
      · omega
    · cases hr
theorem rising_le : ∀ (ys : List Change) (last : Int), Rising last ys → ∀ c ∈ ys, c.tick ≤ 100000 := by
  intro ys
  induction ys with
  | nil => intro last _ c hc; simp at hc
  | cons d ys ih =>
    intro last h c hc
    rcases List.mem_cons.1 hc with rfl | hc
    · exact h.1.2
    · exact ih d.tick h.2 c hc
theorem hiGood_l (l : List Item) (h : List Change) : ∀ (ys : List Change) (k : Nat) (last : Int), (Rising last ys → spec_hiGood_l1 l h ys k last = (spec_hiRun_p l h 100000).bind fun x14 => some (x14.2 && decide ((h.length : Int) ≤ 60))) ∧ (¬ Rising last ys → spec_hiGood_l1 l h ys k last = some false) := by
  intro ys
  induction ys with
  | nil => intro k last; exact ⟨fun _ => by rw [spec_hiGood_l1], fun q => absurd trivial q⟩
  | cons c ys ih =>
    intro k last
    rw [spec_hiGood_l1]
    obtain ⟨b, b1, b2⟩ := ret_l1In c.tick last 100000
    rw [bnd b1]
    cases b
    · exact ⟨fun q => absurd (b2.2 q.1) (by simp), fun _ => rfl⟩
    · have := ih (k + 1) c.tick
      exact ⟨fun q => this.1 q.2, fun q => this.2 fun r => q ⟨b2.1 rfl, r⟩⟩
theorem hiGood_eq {l : List Item} (hi : ItemsOk l) (h : List Change) (hl : h.length ≤ 1048576) : spec_hiGood_p l h = some ((runH l h).isSome && decide ((h.length : Int) ≤ 60)) := by
  have hg := hiGood_l l h h 0 0
  unfold spec_hiGood_p
  by_cases hr : Rising 0 h
  · rw [hg.1 hr]
    cases hz : runH l h with
    | none =>
      have hB : ∃ w, spec_hiRun_p l h 100000 = some (w, false) := by
        unfold spec_hiRun_p
        rw [bnd (hiStart_eq hi)]
        exact hiRun_B h hl 100000 h [] (HistoryState.mk l []) (startH l) rfl (start_ok hi) (start_sim l) hz (rising_le h 0 hr)
      obtain ⟨w, w1⟩ := hB
      rw [bnd w1]; rfl
    | some z =>
      obtain ⟨y, y1, _⟩ := hiRun_eq hi h hl 100000 hz
      rw [bnd y1]; rfl
  · rw [hg.2 hr]
    cases hz : runH l h with
    | none => rfl
    | some z => exact absurd (run_rising h none 0 _ _ z (.inr ⟨rfl, rfl⟩) (start_ok hi) (start_sim l) hz) hr
def nameB (l : List Item) : Prop := ∀ it ∈ l, ∀ s ∈ it.names, s.size ≤ 1048576
theorem isHistory_eq {l : List Item} (hb : nameB l) (h : List Change) (hl : h.length ≤ 1048576) (fuel : Nat) (hf : 1048576 < fuel) : ∃ b, impl_isHistory_p fuel l h = some b ∧ spec_hiAsked_p fuel l h = some b ∧ (b = true → ItemsOk l ∧ h.length ≤ 60 ∧ ∃ z, runH l h = some z) ∧
    (∃ a, impl_AreItems_p fuel l = some a ∧ spec_itList_p fuel l = some a ∧ (a = true → spec_hiGood_p l h = some b) ∧ (a = false → b = false)) := by
  obtain ⟨a, a1, a2, a3⟩ := items_same l hb fuel hf
  unfold impl_isHistory_p spec_hiAsked_p
  rw [a1, a2]
  cases a
  · exact ⟨false, rfl, rfl, by simp, false, rfl, rfl, by simp, fun _ => rfl⟩
  · have hi := a3 rfl
    have hg := hiGood_eq hi h hl
    have hs := stateOf_eq hi h hl 0
    simp only [Option.bind_some, Bool.not_true, cond_false, opt_t, Bool.true_and]
    rw [bnd hg]
    cases hz : runH l h with
    | none =>
      rw [bnd (hs.1 hz)]
      exact ⟨false, rfl, rfl, by simp, true, rfl, rfl, fun _ => by rw [hg, hz]; rfl, by simp⟩
    | some z =>
      obtain ⟨s', y, q1, q2, q3, q4⟩ := hs.2 z hz
      rw [bnd q1]
      refine ⟨decide ((h.length : Int) ≤ 60), rfl, by simp, fun hd => ⟨hi, by have := of_decide_eq_true hd; omega, z, rfl⟩, true, rfl, rfl, fun _ => by rw [hg, hz]; simp, by simp⟩

end Go.Proofs.YtjbkbiofklgblaaGreatDoor

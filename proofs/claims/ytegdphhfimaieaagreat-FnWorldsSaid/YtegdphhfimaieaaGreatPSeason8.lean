/- Plain lemmas: what the functions compute is what the reference says, in plain Lean. No condition. -/
import Derived.Test.YtegdphhfimaieaaGreatPSeason7
set_option maxRecDepth 4000
set_option maxHeartbeats 1000000
set_option linter.unusedVariables false
set_option linter.unusedSimpArgs false
set_option linter.unusedSectionVars false

namespace Go.Proofs.YtegdphhfimaieaaGreat
open Go.AM

def FreshOf (best : Int) (l : List Entry) (s : Season) : Prop := s.best = best ∧ LinesOk s.lines ∧ (flat s.lines).Pairwise ltE ∧ (flat s.lines).Perm l
theorem spec_add_of (best : Int) (l : List Entry) (s : Season) (e : Entry) (h : FreshOf best l s) (hn : ∀ z ∈ l, ¬ sameE z e) (hl : l.length < 1048576) (fuel : Nat) (hf : 1048576 < fuel) : ∃ s', spec_seAdd_p fuel s e = some s' ∧ FreshOf best (e :: l) s' := by
  obtain ⟨b, ls⟩ := s
  obtain ⟨h1, h2, h3, h4⟩ := h
  simp only at h1 h2 h3 h4
  subst h1
  obtain ⟨ls', g1, g2, g3, g4⟩ := seAdd_eq b ls e h2 h3 (fun z hz => hn z (h4.mem_iff.1 hz)) (by rw [h4.length_eq]; exact hl) fuel hf
  exact ⟨_, g1, rfl, g2, g3, g4.trans (h4.cons e)⟩
theorem fresh_nil (best : Int) : FreshOf best [] ⟨best, []⟩ := ⟨rfl, ⟨by simp, List.Pairwise.nil⟩, List.Pairwise.nil, List.Perm.refl _⟩
theorem spec_seOf_l (best : Int) (fuel : Nat) (hf : 1048576 < fuel) : ∀ (ys pre : List Entry) (k : Nat) (s : Season), FreshOf best pre s → GoodL (pre ++ ys) → (pre ++ ys).length ≤ 1048576 →
    ∃ s', spec_seOf_l1 fuel ys k s.best s.lines = some s' ∧ FreshOf best (pre ++ ys) s' := by
  intro ys
  induction ys with
  | nil => intro pre k s h1 _ _; refine ⟨s, by rw [spec_seOf_l1], by simpa using h1⟩
  | cons y ys ih =>
    intro pre k s h1 h2 h3
    rw [spec_seOf_l1]
    have hn : ∀ z ∈ pre, ¬ sameE z y := fun z hz => (List.pairwise_append.1 h2.2).2.2 z hz y (by simp)
    obtain ⟨s', g1, g2⟩ := spec_add_of best pre s y h1 hn (by simp at h3; omega) fuel hf
    rw [show (Season.mk s.best s.lines) = s from rfl, bnd g1]
    have hp : (y :: pre).Perm (pre ++ [y]) := by simpa using (List.perm_append_comm (l₁ := [y]) (l₂ := pre))
    have := ih (pre ++ [y]) (k + 1) s' ⟨g2.1, g2.2.1, g2.2.2.1, g2.2.2.2.trans hp⟩ (by simpa using h2) (by simpa using h3)
    simpa using this
theorem spec_seOf_of (best : Int) (l : List Entry) (h : GoodL l) (hl : l.length ≤ 1048576) (fuel : Nat) (hf : 1048576 < fuel) : ∃ s, spec_seOf_p fuel best l = some s ∧ FreshOf best l s := by
  unfold spec_seOf_p
  exact spec_seOf_l best fuel hf l [] 0 ⟨best, []⟩ (fresh_nil best) (by simpa using h) (by simpa using hl)
theorem fresh_size {best : Int} {l : List Entry} {s : Season} (h : FreshOf best l s) : nSeason s ≤ 3 * l.length := by
  have h1 := flat_lines_le h.2.1.1
  have h2 := h.2.2.2.length_eq
  have h3 : (flat s.lines).length = (s.lines.map fun x => x.events.length).sum := by unfold flat; exact flat_len_lines h.2.1.1
  have key : ∀ ls : List Line, (∀ x ∈ ls, lineN x) → (ls.map fun x => nLine x).sum = 2 * (ls.map fun x => x.events.length).sum := by
    intro ls hl
    induction ls with
    | nil => rfl
    | cons y l ih =>
      have := (hl y (by simp)).1
      have := ih (fun x hx => hl x (by simp [hx]))
      simp only [List.map_cons, List.sum_cons]
      unfold nLine nIntS at *; omega
  have := key s.lines h.2.1.1
  unfold nSeason nLineS
  omega
theorem seEntries_l2 (y : Entry) : ∀ (zs : List Entry) (k : Nat), (∃ x ∈ zs, sameE x y) ∧ spec_seEntries_l2 y zs k = some (.error false) ∨ (∀ x ∈ zs, ¬ sameE x y) ∧ spec_seEntries_l2 y zs k = some (.ok ()) := by
  intro zs
  induction zs with
  | nil => intro k; right; exact ⟨by simp, by rw [spec_seEntries_l2]⟩
  | cons z zs ih =>
    intro k
    rw [spec_seEntries_l2]
    by_cases h : sameE z y
    · left
      rw [show (z.event == y.event && z.skater == y.skater) = true from by simp [h.1, h.2], cond_true]
      exact ⟨⟨z, by simp, h⟩, rfl⟩
    · rw [show (z.event == y.event && z.skater == y.skater) = false from by
        unfold sameE at h; rw [Bool.and_eq_false_iff]; by_cases h1 : z.event = y.event
        · right; simpa using fun h2 => h ⟨h1, h2⟩
        · left; simpa using h1, cond_false]
      rcases ih (k + 1) with ⟨⟨x, hx, hs⟩, g⟩ | ⟨g1, g2⟩
      · left; exact ⟨⟨x, by simp [hx], hs⟩, g⟩
      · right; refine ⟨fun x hx => ?_, g2⟩
        rcases List.mem_cons.1 hx with rfl | hx
        · exact h
        · exact g1 x hx
theorem ret_seEntries_l (l : List Entry) (hb : l.length ≤ 1048576) : ∀ (ys pre : List Entry), l = pre ++ ys → (∀ e ∈ pre, entOk e) → pre.Pairwise (fun a b => ¬ sameE a b) → Ret (spec_seEntries_l1 l ys pre.length) (Ents l) := by
  intro ys
  induction ys with
  | nil =>
    intro pre h1 h2 h3
    rw [spec_seEntries_l1]
    rw [List.append_nil] at h1
    subst h1
    refine .some ?_
    unfold Ents
    simp only [decide_eq_true_eq]
    exact ⟨fun h => ⟨h2, h3, by omega⟩, fun h => by have := h.2.2; omega⟩
  | cons y ys ih =>
    intro pre h1 h2 h3
    rw [spec_seEntries_l1]
    have hy : y ∈ l := by rw [h1]; simp
    obtain ⟨b, e1, e2⟩ := ret_seEntry y
    rw [bnd (x := b) e1]
    cases b
    · simp only [Bool.not_false, cond_true, Option.bind_some, flow]
      refine .f fun h => ?_
      have := e2.2 (h.1 y hy)
      simp at this
    · have hok := e2.1 rfl
      simp only [Bool.not_true, cond_false]
      rw [bnd (show sliceHi l (pre.length : Int) = some pre from by rw [h1]; exact sliceHi_pre pre (y :: ys) rfl)]
      rcases seEntries_l2 y pre 0 with ⟨⟨x, hx, hs⟩, g⟩ | ⟨g1, g2⟩
      · rw [bnd g]
        simp only [flow]
        refine .f fun h => ?_
        have := h.2.1
        rw [h1] at this
        exact (List.pairwise_append.1 this).2.2 x hx y (by simp) hs
      · rw [bnd g2]
        simp only [flow]
        have := ih (pre ++ [y]) (by rw [h1]; simp) (by
          intro e he; rcases List.mem_append.1 he with h | h
          · exact h2 e h
          · obtain rfl := List.mem_singleton.1 h; exact hok) (by
          rw [List.pairwise_append]
          exact ⟨h3, List.pairwise_singleton _ _, fun a ha b hb => by obtain rfl := List.mem_singleton.1 hb; exact g1 a ha⟩)
        simpa using this
theorem ret_seEntries (l : List Entry) (hb : l.length ≤ 1048576) : Ret (spec_seEntries_p l) (Ents l) := ret_seEntries_l l hb l [] rfl (by simp) (by simp)
theorem GoodL.filter {l : List Entry} (h : GoodL l) (p : Entry → Bool) : GoodL (l.filter p) := ⟨fun e he => h.1 e (List.mem_filter.1 he).1, h.2.sublist List.filter_sublist⟩

end Go.Proofs.YtegdphhfimaieaaGreat

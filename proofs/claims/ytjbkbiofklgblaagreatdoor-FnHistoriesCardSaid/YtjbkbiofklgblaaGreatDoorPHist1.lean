/- Plain lemmas: what the functions compute is what the reference says, in plain Lean. No condition. -/
import Derived.Test.YtjbkbiofklgblaaGreatDoorPReviews1
set_option maxRecDepth 4000
set_option maxHeartbeats 1000000
set_option linter.unusedVariables false
set_option linter.unusedSimpArgs false
set_option linter.unusedSectionVars false

namespace Go.Proofs.YtjbkbiofklgblaaGreatDoor
open Go.AM

def withMark (it : Item) (k m : Int) : Item := Item.mk it.names (it.marks.set k.toNat m) it.late
theorem chg_items {x : HiState} (hx : StOk x) (c : Change) (h : (chg x c).2 = true) : ∃ it : Item, x.items[c.item.toNat]? = some it ∧ 0 ≤ c.item ∧ 0 ≤ c.name ∧ c.name.toNat < it.marks.length ∧ (0 ≤ c.mark ∧ c.mark ≤ 3) ∧ (chg x c).1.items = x.items.set c.item.toNat (withMark it c.name c.mark) := by
  obtain ⟨v1, v2, it, v3, v4⟩ := chg_valid hx c h
  have hit := hx.1.2 it (List.mem_of_getElem? v3)
  refine ⟨it, v3, v1, v2, by rw [hit.2]; omega, ?_⟩
  cases hq : spec_hiState_change_p x c with
  | none => unfold chg at h; rw [hq] at h; cases h
  | some p =>
    have e : chg x c = p := by unfold chg; rw [hq]; rfl
    rw [e] at h ⊢
    unfold spec_hiState_change_p at hq
    obtain ⟨x1, _, hq⟩ := bindE hq
    obtain ⟨x3, _, hq⟩ := bindE hq
    obtain ⟨x5, _, hq⟩ := bindE hq
    obtain ⟨x7, g7, hq⟩ := bindE hq
    cases hc : (!x1 || !x3 || !x5 || !x7) with
    | true => rw [hc, cond_true] at hq; cases hq; cases h
    | false =>
      rw [hc, cond_false] at hq
      have hm : 0 ≤ c.mark ∧ c.mark ≤ 3 := by
        obtain ⟨m, m1, m2⟩ := ret_l1In c.mark 0 3
        simp only [Bool.or_eq_false_iff, Bool.not_eq_false'] at hc
        obtain ⟨⟨⟨rfl, rfl⟩, rfl⟩, rfl⟩ := hc
        simp only [Bool.not_true, Bool.or_false, Bool.not_false, opt_t] at g7
        rw [m1] at g7
        exact m2.1 (Option.some.inj g7)
      obtain ⟨x9, g9, hq⟩ := bindE hq
      obtain ⟨x11, g11, hq⟩ := bindE hq
      have e9 : x9 = it := by
        rw [getI_of (k := c.item.toNat) (by omega), v3] at g9
        exact (Option.some.inj g9).symm
      subst e9
      refine ⟨hm, ?_⟩
      cases hrev : c.review with
      | true =>
        rw [hrev, cond_true] at hq
        obtain ⟨x13, _, hq⟩ := bindE hq
        obtain ⟨x15, g15, hq⟩ := bindE hq
        cases hw : (x13 || x15 != c.mark) with
        | true => rw [hw, cond_true] at hq; cases hq; cases h
        | false =>
          rw [hw, cond_false] at hq; cases hq
          simp only [Bool.or_eq_false_iff, bne_eq_false_iff_eq] at hw
          obtain ⟨rfl, e15⟩ := hw
          rw [Bool.not_false, opt_t, e15, getI_of (k := c.name.toNat) (by omega)] at g15
          unfold withMark
          rw [set_same g15]
      | false =>
        rw [hrev, cond_false] at hq
        obtain ⟨x17, _, hq⟩ := bindE hq
        obtain ⟨x19, g19, hq⟩ := bindE hq
        cases hq
        rfl
theorem mark_after {x : HiState} (hx : StOk x) (c : Change) (h : (chg x c).2 = true) : ∃ it, getI (chg x c).1.items c.item = some it ∧ getI it.marks c.name = some c.mark := by
  obtain ⟨it, h1, h2, h3, h4, _, h5⟩ := chg_items hx c h
  refine ⟨withMark it c.name c.mark, ?_, ?_⟩
  · rw [h5, getI_of (k := c.item.toNat) (by omega), List.getElem?_set_self (List.getElem?_eq_some_iff.1 h1).1]
  · rw [getI_of (k := c.name.toNat) (by omega)]
    unfold withMark
    rw [List.getElem?_set_self h4]
theorem item_iff (F : Nat) (it : Item) : ∀ (ys : List ByteArray) (k : Nat), impl_IsItem_l1 it F ys k = some true ↔ (∀ s ∈ ys, impl_IsName_p F s = some true) ∧ (1 ≤ it.names.length ∧ it.names.length ≤ 3) ∧ it.marks.length = it.names.length ∧ ∀ m ∈ it.marks, 0 ≤ m ∧ m ≤ 3 := by
  intro ys
  induction ys with
  | nil =>
    intro k
    rw [impl_IsItem_l1]
    obtain ⟨b, e1, e2⟩ := ret_within (it.names.length : Int) 1 3
    obtain ⟨c, c1, c2⟩ := ret_allWithin 0 3 it.marks 0
    rw [bnd e1, show impl_allWithin_p it.marks 0 3 = some c from c1]
    by_cases hl : it.marks.length = it.names.length
    · rw [show ((it.marks.length : Int) == (it.names.length : Int)) = true from by rw [hl]; simp]
      cases b
      · simp only [Bool.false_and, opt_f, Option.bind_some, Option.some.injEq, Bool.false_eq_true, false_iff]
        intro q
        have := e2.2 (by omega)
        cases this
      · simp only [Bool.true_and, opt_t, Option.bind_some, Option.some.injEq]
        refine c2.trans ⟨fun q => ⟨by simp, by have := e2.1 rfl; omega, hl, q⟩, fun q => q.2.2.2⟩
    · rw [show ((it.marks.length : Int) == (it.names.length : Int)) = false from by simp only [beq_eq_false_iff_ne, ne_eq]; omega]
      simp only [Bool.and_false, Bool.false_and, opt_f, Option.bind_some, Option.some.injEq, Bool.false_eq_true, false_iff]
      exact fun q => hl q.2.2.1
  | cons y ys ih =>
    intro k
    rw [impl_IsItem_l1]
    cases hy : impl_IsName_p F y with
    | none =>
      simp only [Option.bind_none, reduceCtorEq, false_iff]
      intro q
      have := q.1 y (by simp)
      rw [hy] at this; cases this
    | some b =>
      rw [Option.bind_some]
      cases b
      · simp only [Bool.not_false, cond_true, Option.some.injEq, Bool.false_eq_true, false_iff]
        intro q
        have := q.1 y (by simp)
        rw [hy] at this; cases this
      · rw [Bool.not_true, cond_false, ih (k + 1)]
        constructor
        · rintro ⟨q1, q2⟩
          refine ⟨fun s hs => ?_, q2⟩
          rcases List.mem_cons.1 hs with rfl | hs
          · exact hy
          · exact q1 s hs
        · rintro ⟨q1, q2⟩
          exact ⟨fun s hs => q1 s (by simp [hs]), q2⟩
theorem items_iff (F : Nat) (l : List Item) : ∀ (ys : List Item) (k : Nat), impl_AreItems_l1 l F ys k = some true ↔ (∀ it ∈ ys, impl_IsItem_p F it = some true) ∧ l.length ≤ 14 := by
  intro ys
  induction ys with
  | nil =>
    intro k
    rw [impl_AreItems_l1]
    simp only [Option.some.injEq, decide_eq_true_eq, List.not_mem_nil, false_implies, implies_true, true_and]
    omega
  | cons y ys ih =>
    intro k
    rw [impl_AreItems_l1]
    cases hy : impl_IsItem_p F y with
    | none =>
      simp only [Option.bind_none, reduceCtorEq, false_iff]
      intro q
      have := q.1 y (by simp)
      rw [hy] at this; cases this
    | some b =>
      rw [Option.bind_some]
      cases b
      · simp only [Bool.not_false, cond_true, Option.some.injEq, Bool.false_eq_true, false_iff]
        intro q
        have := q.1 y (by simp)
        rw [hy] at this; cases this
      · rw [Bool.not_true, cond_false, ih (k + 1)]
        constructor
        · rintro ⟨q1, q2⟩
          refine ⟨fun s hs => ?_, q2⟩
          rcases List.mem_cons.1 hs with rfl | hs
          · exact hy
          · exact q1 s hs
        · rintro ⟨q1, q2⟩
          exact ⟨fun s hs => q1 s (by simp [hs]), q2⟩
def AllItems (F : Nat) (l : List Item) : Prop := ∀ it ∈ l, impl_IsItem_p F it = some true
theorem chg_all {F : Nat} {x : HiState} (hx : StOk x) (c : Change) (h : (chg x c).2 = true) (ha : AllItems F x.items) : AllItems F (chg x c).1.items ∧ (chg x c).1.items.map (fun it => it.names) = x.items.map fun it => it.names := by
  obtain ⟨it, h1, h2, h3, h4, h6, h5⟩ := chg_items hx c h
  rw [h5]
  constructor
  · intro y hy
    rcases List.mem_or_eq_of_mem_set hy with hy | rfl
    · exact ha y hy
    · have := ha it (List.mem_of_getElem? h1)
      obtain ⟨g1, g2, g3, g4⟩ := (item_iff F it it.names 0).1 this
      refine (item_iff F (withMark it c.name c.mark) it.names 0).2 ⟨g1, g2, by unfold withMark; simpa using g3, fun m hm => ?_⟩
      unfold withMark at hm
      rcases List.mem_or_eq_of_mem_set hm with hm | rfl
      · exact g4 m hm
      · exact h6
  · rw [List.map_set]
    refine set_same ?_
    rw [List.getElem?_map, h1]
    rfl

end Go.Proofs.YtjbkbiofklgblaaGreatDoor

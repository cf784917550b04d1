/- Plain lemmas: what the functions compute is what the reference says, in plain Lean. No condition. -/
import Derived.Test.YtjbkbiofklgblaaGreatDoorPHText3
set_option maxRecDepth 4000
set_option maxHeartbeats 1000000
set_option linter.unusedVariables false
set_option linter.unusedSimpArgs false
set_option linter.unusedSectionVars false

namespace Go.Proofs.YtjbkbiofklgblaaGreatDoor
open Go.AM

theorem join_snoc (c : UInt8) (z : List UInt8) : ∀ m : List (List UInt8), m ≠ [] → joinC c (m ++ [z]) = joinC c m ++ c :: z
  | [], h => absurd rfl h
  | [x], _ => rfl
  | x :: y :: m, _ => by
    show x ++ c :: joinC c (y :: m ++ [z]) = (x ++ c :: joinC c (y :: m)) ++ c :: z
    rw [join_snoc c z (y :: m) (by simp)]; simp
theorem cut_end (c : UInt8) {l : List UInt8} {m : List (List UInt8)} (h : cutC c l = m ++ [[]]) : l = [] ∨ ∃ l', l = l' ++ [c] := by
  have h1 := join_cut c l
  rw [h] at h1
  by_cases hm : m = []
  · subst hm; exact .inl h1.symm
  · rw [join_snoc c [] m hm] at h1; exact .inr ⟨_, h1.symm⟩
theorem linesOf_eq (s : ByteArray) (hs : s.size ≤ 1048576) : ∃ x, impl_linesOf_p s = some x ∧ ((x.2 = true ∧ cutC 10 (toL s) = x.1.map toL ++ [[]]) ∨ (x.2 = false ∧ ∀ m, cutC 10 (toL s) ≠ m ++ [[]])) := by
  have hsz : s.size = (toL s).length := Go.Lib.size_eq s
  unfold impl_linesOf_p
  by_cases he : s = ⟨#[]⟩
  · rw [decide_eq_true he, cond_true]
    exact ⟨_, rfl, .inl ⟨rfl, by rw [(nil_iff s).1 he]; rfl⟩⟩
  have hne : toL s ≠ [] := fun h => he ((nil_iff s).2 h)
  have hpos := List.length_pos_iff.2 hne
  have hlt : s.size - 1 < (toL s).length := by omega
  have hlast : strI s (w64 ((s.size : Int) - 1)) = some (toL s)[s.size - 1] := by
    rw [w64_in (by omega), strI_of (k := s.size - 1) (by omega), List.getElem?_eq_getElem hlt]
  rw [decide_eq_false he, cond_false, bnd hlast]
  generalize hb : (toL s)[s.size - 1] = b
  have hL : toL s = (toL s).take (s.size - 1) ++ [b] := by
    have := List.take_append_drop (s.size - 1) (toL s)
    rw [List.drop_eq_getElem_cons hlt, hb, List.drop_of_length_le (by omega)] at this
    exact this.symm
  by_cases h10 : b = 10
  · subst h10
    rw [show (((10 : UInt8).toNat : Int) != 10) = false from rfl, cond_false]
    have hin : inB 0 (w64 ((s.size : Int) - 1)) s.size = true := by rw [w64_in (by omega)]; unfold inB; simp; omega
    have htn : (w64 ((s.size : Int) - 1)).toNat = s.size - 1 := by rw [w64_in (by omega)]; omega
    rw [hin, need_t, Option.bind_some, htn]
    unfold strings_Split_p
    have hes : (s.extract 0 (s.size - 1)).size ≤ s.size := by rw [Go.Lib.size_eq, Go.Lib.extract_data, List.length_take, List.length_drop, ← hsz]; omega
    rw [show (Nat.blt (s.extract 0 (s.size - 1)).size 4294967281 && Nat.blt 0 (⟨#[10]⟩ : ByteArray).size) = true from by
      rw [Bool.and_eq_true, Nat.blt_eq]; exact ⟨by omega, rfl⟩, need_t, Option.bind_some, Option.bind_some]
    have hsp := splitS_cut (s.extract 0 (s.size - 1)) 10
    rw [show toL (s.extract 0 (s.size - 1)) = (toL s).take (s.size - 1) from by rw [show toL (s.extract 0 (s.size - 1)) = _ from Go.Lib.extract_data s 0 (s.size - 1)]; rw [List.drop_zero, Nat.sub_zero]] at hsp
    refine ⟨_, rfl, .inl ⟨rfl, ?_⟩⟩
    show _ = (splitS (s.extract 0 (s.size - 1)) ⟨#[10]⟩).map toL ++ [[]]
    rw [hsp, hL, cut_app]
    simp only [List.take_left', List.length_take, ← hsz, show min (s.size - 1) s.size = s.size - 1 from by omega]
    rfl
  · rw [show ((b.toNat : Int) != 10) = true from by rw [bne_iff_ne]; intro e; exact h10 (UInt8.toNat_inj.1 (by show b.toNat = 10; omega)), cond_true]
    refine ⟨_, rfl, .inr ⟨rfl, fun m hm => ?_⟩⟩
    rcases cut_end 10 hm with h | ⟨l', h⟩
    · exact hne h
    · rw [hL] at h
      exact h10 (List.cons.inj (List.append_inj' h rfl).2).1
def Good (F : Nat) (l : List Item) (h : List Change) : Prop := impl_isHistory_p F l h = some true
theorem good_in {l : List Item} (hb : nameB l) {h : List Change} (hl : h.length ≤ 1048576) {F : Nat} (hF : 1048576 < F) (hg : Good F l h) :
    h.length ≤ 60 ∧ (∀ c ∈ h, chgIn c) ∧ impl_AreItems_p F l = some true ∧ spec_itList_p F l = some true ∧ spec_hiGood_p l h = some true := by
  obtain ⟨b, b1, b2, b3, a, a1, a2, a3, a4⟩ := isHistory_eq hb h hl F hF
  have hbt : b = true := by rw [show impl_isHistory_p F l h = some true from hg] at b1; exact (Option.some.inj b1).symm
  subst hbt
  obtain ⟨hi, h60, z, hz⟩ := b3 rfl
  have hat : a = true := by cases a with | true => rfl | false => exact absurd (a4 rfl) (by simp)
  subst hat
  exact ⟨h60, run_in h none _ _ z (start_ok hi) (start_sim l) hz, a1, a2, a3 rfl⟩
theorem short_num {w : ByteArray} {n : Nat} (h : toL w = numL n) (hn : n < 10 ^ 12) : shortNum w ∧ valL (toL w) = n := by
  rw [shortNum, h]
  exact ⟨⟨num_can n, num_len 11 n hn⟩, num_val n⟩
theorem lineI (F : Nat) (hF : 12 < F) (y : ByteArray) (hy : y.size ≤ 1048576) :
    ((∀ l pre ys k, impl_ParseHistory_l1 l F (y :: ys) k pre = some ([], false)) ∧ ∀ c, chgIn c → toL y ≠ lineL (chgL c)) ∨
    ∃ c, (∀ l (pre : List Change) ys k, pre.length ≤ 60 → impl_ParseHistory_l1 l F (y :: ys) k pre = impl_ParseHistory_l1 l F ys (k + 1) (pre ++ [c])) ∧ (chgIn c → toL y = lineL (chgL c)) ∧ ∀ c', chgIn c' → toL y = lineL (chgL c') → c = c' := by
  obtain ⟨x, x1, x2, x3⟩ := cutSuffix_eq y hy
  have hA : ∀ c', chgIn c' → toL y = lineL (chgL c') → x.2 = c'.review ∧ toL x.1 = joinC 32 (five (chgL c')) := by
    intro c' _ e
    rw [line_five] at e
    have hr : (chgL c').r = c'.review := rfl
    rw [hr] at e
    rcases x3 with ⟨q1, q2⟩ | ⟨q1, q2⟩
    · cases hc : c'.review
      · rw [hc] at e
        exact absurd (e.symm.trans q2) (five_end _ _)
      · rw [hc, if_pos rfl] at e
        exact ⟨q1, List.append_cancel_right (q2.symm.trans e)⟩
    · cases hc : c'.review
      · rw [hc] at e
        rw [q1]; exact ⟨rfl, e⟩
      · rw [hc, if_pos rfl] at e
        exact absurd e (q2 _)
  have hsp : strings_Split_p x.1 ⟨#[32]⟩ = some (splitS x.1 ⟨#[32]⟩) := by
    unfold strings_Split_p
    rw [show (Nat.blt x.1.size 4294967281 && Nat.blt 0 (⟨#[32]⟩ : ByteArray).size) = true from by
      rw [Bool.and_eq_true, Nat.blt_eq]; exact ⟨by omega, rfl⟩, need_t, Option.bind_some]
  have hcut := splitS_cut x.1 32
  generalize splitS x.1 ⟨#[32]⟩ = ws at hsp hcut
  have hB : ∀ c', chgIn c' → toL y = lineL (chgL c') → ws.map toL = five (chgL c') := fun c' h e => by
    rw [hcut, (hA c' h e).2, cut_five]
  have hun : ∀ l pre ys k, impl_ParseHistory_l1 l F (y :: ys) k pre = _ := fun l pre ys k => by rw [impl_ParseHistory_l1, bnd x1, bnd hsp]
  by_cases h5 : (ws.length : Int) = 5
  · match ws, h5, hsp, hcut, hB, hun with
    | [w0, w1, w2, w3, w4], _, hsp, hcut, hB, hun =>
      have hws : ∀ w ∈ [w0, w1, w2, w3, w4], w.size ≤ 1048576 := fun w hw => by
        have hm : toL w ∈ cutC 32 (toL x.1) := by rw [← hcut]; exact List.mem_map_of_mem hw
        have := cut_size 32 _ _ hm
        have h1 : w.size = (toL w).length := Go.Lib.size_eq w
        have h2 : x.1.size = (toL x.1).length := Go.Lib.size_eq x.1
        omega
      obtain ⟨r, r1, r2, r3⟩ := ints4 w0 w1 w2 w3 (fun w hw => hws w (by simp at hw ⊢; rcases hw with h | h | h | h <;> simp [h])) F hF
      obtain ⟨m, m1, m2, m3⟩ := idxT_eq w4
      have hC : ∀ c', chgIn c' → toL y = lineL (chgL c') → r = ([c'.tick, c'.caller, c'.item, c'.name], true) ∧ m = c'.mark := by
        intro c' hc e
        have hf := hB c' hc e
        unfold five at hf
        simp only [List.map_cons, List.map_nil, List.cons.injEq, and_true] at hf
        obtain ⟨f0, f1, f2, f3, f4⟩ := hf
        obtain ⟨⟨t0, t1⟩, ⟨c0, c1⟩, ⟨i0, i1⟩, ⟨n0, n1⟩, hm⟩ := hc
        obtain ⟨s0, v0⟩ := short_num f0 (show c'.tick.toNat < 10 ^ 12 by omega)
        obtain ⟨s1, v1⟩ := short_num f1 (show c'.caller.toNat < 10 ^ 12 by omega)
        obtain ⟨s2, v2⟩ := short_num f2 (show c'.item.toNat < 10 ^ 12 by omega)
        obtain ⟨s3, v3⟩ := short_num f3 (show c'.name.toNat < 10 ^ 12 by omega)
        refine ⟨?_, m3 _ hm f4⟩
        rw [r3 s0 s1 s2 s3, v0, v1, v2, v3]
        show ([((c'.tick.toNat : Nat) : Int), ((c'.caller.toNat : Nat) : Int), ((c'.item.toNat : Nat) : Int), ((c'.name.toNat : Nat) : Int)], true) = _
        rw [Int.toNat_of_nonneg t0, Int.toNat_of_nonneg (by omega), Int.toNat_of_nonneg i0, Int.toNat_of_nonneg n0]
      have hun2 : ∀ l pre ys k, impl_ParseHistory_l1 l F (y :: ys) k pre = _ := fun l pre ys k => by
        rw [hun l pre ys k, show ((([w0, w1, w2, w3, w4] : List ByteArray).length : Int) != 5) = false from rfl, cond_false, bnd (show sliceHi [w0, w1, w2, w3, w4] 4 = some [w0, w1, w2, w3] from sliceHi_pre [w0, w1, w2, w3] [w4] rfl), bnd r1, bnd (show getI [w0, w1, w2, w3, w4] 4 = some w4 from rfl), bnd (show slices_Index_string_p [(⟨#[110, 111, 110, 101]⟩ : ByteArray), (⟨#[100, 111, 119, 110]⟩ : ByteArray), (⟨#[101, 100, 103, 101]⟩ : ByteArray), (⟨#[118, 111, 105, 100]⟩ : ByteArray)] w4 = some m from m1)]
      cases hg : ((!r.2) || decide (m < 0))
      · rw [Bool.or_eq_false_iff, Bool.not_eq_false', decide_eq_false_iff_not] at hg
        obtain ⟨n0, n1, n2, n3, q0, p0, p1, p2, p3⟩ := r2 hg.1
        right
        refine ⟨Change.mk n0 n1 n2 n3 m x.2, fun l pre ys k hp => ?_, fun hc => ?_, fun c' hc e => ?_⟩
        · rw [hun2 l pre ys k, hg.1, decide_eq_false hg.2, q0]
          simp only [Bool.not_true, Bool.or_false, cond_false]
          rw [show getI [n0, n1, n2, n3] 0 = some n0 from rfl, show getI [n0, n1, n2, n3] 1 = some n1 from rfl, show getI [n0, n1, n2, n3] 2 = some n2 from rfl, show getI [n0, n1, n2, n3] 3 = some n3 from rfl]
          simp only [Option.bind_some]
          rw [fits_of (by simp; omega), need_t, Option.bind_some]
        · obtain ⟨⟨t0, t1⟩, ⟨c0, c1⟩, ⟨i0, i1⟩, ⟨k0, k1⟩, hm⟩ := hc
          dsimp only at t0 t1 c0 c1 i0 i1 k0 k1 hm
          have g0 := p0 t0
          have g1 := p1 (by omega)
          have g2 := p2 i0
          have g3 := p3 k0
          have hfive : five (chgL (Change.mk n0 n1 n2 n3 m x.2)) = cutC 32 (toL x.1) := by
            rw [← hcut]
            show [numL n0.toNat, numL n1.toNat, numL n2.toNat, numL n3.toNat, wordL m] = [toL w0, toL w1, toL w2, toL w3, toL w4]
            rw [g0.2, g1.2, g2.2, g3.2, Int.toNat_natCast, Int.toNat_natCast, Int.toNat_natCast, Int.toNat_natCast, can_num _ _ rfl g0.1, can_num _ _ rfl g1.1, can_num _ _ rfl g2.1, can_num _ _ rfl g3.1, (m2 hm.1).1]
          rw [line_five, hfive, join_cut]
          rcases x3 with ⟨q1, q2⟩ | ⟨q1, _⟩
          · rw [show (chgL (Change.mk n0 n1 n2 n3 m x.2)).r = true from q1, if_pos rfl]; exact q2
          · rw [show (chgL (Change.mk n0 n1 n2 n3 m x.2)).r = false from by show x.2 = false; rw [q1]]
            rw [q1]; rfl
        · obtain ⟨e1, e2⟩ := hC c' hc e
          have e3 := (hA c' hc e).1
          rw [e1] at q0
          simp only [List.cons.injEq, and_true] at q0
          obtain ⟨rfl, rfl, rfl, rfl⟩ := q0
          subst e2
          rw [e3]
      · left
        refine ⟨fun l pre ys k => by rw [hun2 l pre ys k, hg, cond_true], fun c' hc e => ?_⟩
        obtain ⟨e1, e2⟩ := hC c' hc e
        rw [e1, e2] at hg
        have := hc.2.2.2.2.1
        rw [show (([c'.tick, c'.caller, c'.item, c'.name], true) : List Int × Bool).2 = true from rfl, Bool.not_true, Bool.false_or, decide_eq_true_iff] at hg
        omega
  · left
    refine ⟨fun l pre ys k => by rw [hun l pre ys k, show ((ws.length : Int) != 5) = true from by rw [bne_iff_ne]; exact h5, cond_true], fun c' hc e => h5 ?_⟩
    have := congrArg List.length (hB c' hc e)
    rw [List.length_map] at this
    rw [this]; rfl
theorem implLoop {l : List Item} (hb : nameB l) {F : Nat} (hF : 1048576 < F) : ∀ (ys : List ByteArray) (pre : List Change) (k : Nat), (∀ y ∈ ys, y.size ≤ 1048576) → pre.length + ys.length ≤ 60 →
    ∃ r, impl_ParseHistory_l1 l F ys k pre = some r ∧ (∀ h', (∀ c ∈ h', chgIn c) → ys.map toL = h'.map (fun c => lineL (chgL c)) → Good F l (pre ++ h') → r = (pre ++ h', true)) ∧
      (r = ([], false) ∨ ∃ h', r = (pre ++ h', true) ∧ Good F l (pre ++ h') ∧ ys.map toL = h'.map fun c => lineL (chgL c)) := by
  intro ys
  induction ys with
  | nil =>
    intro pre k _ hl
    rw [impl_ParseHistory_l1]
    obtain ⟨b, b1, _⟩ := isHistory_eq hb pre (by simp at hl; omega) F hF
    rw [bnd b1]
    cases b
    · refine ⟨_, rfl, fun h' _ e hg => ?_, .inl rfl⟩
      have : h' = [] := by cases h' with | nil => rfl | cons a t => simp at e
      subst this
      rw [List.append_nil] at hg
      rw [show impl_isHistory_p F l pre = some true from hg] at b1; cases b1
    · refine ⟨_, rfl, fun h' _ e hg => ?_, .inr ⟨[], by rw [List.append_nil], by rw [List.append_nil]; exact b1, rfl⟩⟩
      have : h' = [] := by cases h' with | nil => rfl | cons a t => simp at e
      subst this
      rw [List.append_nil]
  | cons y ys ih =>
    intro pre k hy hl
    rcases lineI F (by omega) y (hy y (by simp)) with ⟨h1, h2⟩ | ⟨c, h1, h2, h3⟩
    · refine ⟨_, h1 l pre ys k, fun h' hc e _ => ?_, .inl rfl⟩
      cases h' with
      | nil => simp at e
      | cons c' t =>
        simp only [List.map_cons, List.cons.injEq] at e
        exact absurd e.1 (h2 c' (hc c' (by simp)))
    · obtain ⟨r, r1, r2, r3⟩ := ih (pre ++ [c]) (k + 1) (fun z hz => hy z (by simp [hz])) (by simp at hl ⊢; omega)
      refine ⟨r, by rw [h1 l pre ys k (by simp at hl; omega), r1], fun h' hc e hg => ?_, ?_⟩
      · cases h' with
        | nil => simp at e
        | cons c' t =>
          simp only [List.map_cons, List.cons.injEq] at e
          have := h3 c' (hc c' (by simp)) e.1
          subst this
          have := r2 t (fun z hz => hc z (by simp [hz])) e.2 (by simpa using hg)
          simpa using this
      · rcases r3 with r3 | ⟨h', r3, r4, r5⟩
        · exact .inl r3
        · refine .inr ⟨c :: h', by simpa using r3, by simpa using r4, ?_⟩
          have hlen : h'.length = ys.length := by have := congrArg List.length r5; simpa using this.symm
          have hin := (good_in hb (by simp at hl ⊢; omega) hF r4).2.1 c (by simp)
          rw [List.map_cons, List.map_cons, h2 hin, r5]
def Reads (F : Nat) (l : List Item) (s : ByteArray) (r : List Change × Bool) : Prop :=
  (∀ h, h.length ≤ 60 → Good F l h → toL s = textL (h.map chgL) → r = (h, true)) ∧ (r = ([], false) ∨ ∃ h, h.length ≤ 60 ∧ Good F l h ∧ toL s = textL (h.map chgL) ∧ r = (h, true))
theorem reads_one {F : Nat} {l : List Item} {s : ByteArray} {r q : List Change × Bool} (h : Reads F l s r) (k : Reads F l s q) : r = q := by
  rcases k.2 with e | ⟨h', k1, k2, k3, rfl⟩
  · rcases h.2 with e' | ⟨h', k1, k2, k3, rfl⟩
    · rw [e, e']
    · exact (k.1 h' k1 k2 k3).symm
  · exact h.1 h' k1 k2 k3
theorem impl_reads {l : List Item} (hb : nameB l) (s : ByteArray) (hs : s.size ≤ 1048576) {F : Nat} (hF : 1048576 < F) : ∃ r, impl_ParseHistory_p F l s = some r ∧ Reads F l s r := by
  unfold impl_ParseHistory_p
  obtain ⟨x, x1, x2⟩ := linesOf_eq s hs
  obtain ⟨a, a1, a2, a3⟩ := items_same l hb F hF
  rw [bnd x1, bnd a1]
  have hkey : ∀ h : List Change, h.length ≤ 60 → Good F l h → toL s = textL (h.map chgL) → a = true ∧ x.2 = true ∧ x.1.map toL = h.map fun c => lineL (chgL c) := by
    intro h h60 hg e
    have hat : a = true := by
      have := (good_in hb (by omega) hF hg).2.2.1
      rw [a1] at this; exact Option.some.inj this
    have hc := cut_text (h.map chgL)
    rw [← e] at hc
    rcases x2 with ⟨q1, q2⟩ | ⟨q1, q2⟩
    · refine ⟨hat, q1, ?_⟩
      rw [q2] at hc
      have := (List.append_inj' hc rfl).1
      rw [this, List.map_map]; rfl
    · exact absurd hc (q2 _)
  cases hc : (((!a) || (!x.2)) || decide ((x.1.length : Int) > 60))
  · simp only [Bool.or_eq_false_iff, Bool.not_eq_false', decide_eq_false_iff_not] at hc
    obtain ⟨⟨ha, hx⟩, hl⟩ := hc
    rcases x2 with ⟨_, q2⟩ | ⟨q1, _⟩
    rotate_left
    · rw [hx] at q1; cases q1
    rw [cond_false]
    obtain ⟨r, r1, r2, r3⟩ := implLoop hb hF x.1 [] 0 (fun y hy => by
      have hm : toL y ∈ cutC 10 (toL s) := by rw [q2]; exact List.mem_append_left _ (List.mem_map_of_mem hy)
      have := cut_size 10 _ _ hm
      have h1 : y.size = (toL y).length := Go.Lib.size_eq y
      have h2 : s.size = (toL s).length := Go.Lib.size_eq s
      omega) (by simp; omega)
    refine ⟨r, r1, fun h h60 hg e => ?_, ?_⟩
    · have hin := (good_in hb (by omega) hF hg).2.1
      exact r2 h hin (hkey h h60 hg e).2.2 hg
    · rcases r3 with r3 | ⟨h, r3, r4, r5⟩
      · exact .inl r3
      · have hlen : h.length = x.1.length := by have := congrArg List.length r5; simpa using this.symm
        refine .inr ⟨h, by omega, r4, text_of_cut _ _ ?_, r3⟩
        rw [q2, r5, List.map_map]; rfl
  · rw [cond_true]
    refine ⟨_, rfl, fun h h60 hg e => ?_, .inl rfl⟩
    obtain ⟨k1, k2, k3⟩ := hkey h h60 hg e
    have hlen : x.1.length = h.length := by have := congrArg List.length k3; simpa using this
    rw [k1, k2] at hc
    simp only [Bool.not_true, Bool.or_self, Bool.false_or, decide_eq_true_iff] at hc
    omega

end Go.Proofs.YtjbkbiofklgblaaGreatDoor

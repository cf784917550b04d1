/- Plain lemmas: what the functions compute is what the reference says, in plain Lean. No condition. -/
import Derived.Test.YtdldbdpfjagnhaaDoorPSplit1
set_option maxRecDepth 4000
set_option maxHeartbeats 1000000
set_option linter.unusedVariables false
set_option linter.unusedSimpArgs false
set_option linter.unusedSectionVars false

namespace Go.Proofs.YtdldbdpfjagnhaaDoor
open Go.AM
theorem cut_last (c : UInt8) : ∀ l : List UInt8, cutC c (l ++ [c]) = cutC c l ++ [[]]
  | [] => cutC_hit c [] [] (fun _ h => by cases h)
  | b :: l => by
    have ih := cut_last c l
    rw [List.cons_append, cutC, ih]
    conv => rhs; rw [cutC]
    by_cases h : b = c
    · rw [if_pos h, if_pos h, List.cons_append]
    · rw [if_neg h, if_neg h]
      cases h2 : cutC c l with
      | nil => have := cutC_len c l; rw [h2] at this; simp at this
      | cons x t => rfl
theorem script_lines (s : ByteArray) (hn : s.size ≤ 4194304) (fuel : Nat) (hf : 4194304 < fuel) : ∃ r g : List ByteArray × Bool, spec_csLines_p fuel s = some r ∧ impl_scriptLines_p s = some g ∧ r.2 = g.2 ∧ (g.2 = true → r.1 = g.1) := by
  have hsz := Go.Lib.size_eq s
  unfold spec_csLines_p impl_scriptLines_p impl_linesOf_p
  by_cases he : s = ⟨#[]⟩
  · subst he
    obtain ⟨r, r1, r2⟩ := l1Split_eq ⟨#[]⟩ (by decide) 10 fuel hf
    have e : r.map toL = [[]] := r2
    obtain ⟨x, hx⟩ : ∃ x, r = [x] := by
      cases r with
      | nil => simp at e
      | cons x r => cases r with
        | nil => exact ⟨x, rfl⟩
        | cons y r => simp at e
    subst hx
    simp only [decide_true, Bool.not_true, Bool.and_false, opt_f, Option.bind_some, Bool.false_and, Bool.or_false, cond_true]
    rw [show decide ((((⟨#[]⟩ : ByteArray).size : Nat) : Int) > 2000) = false from rfl, cond_false, bnd (show spec_l1Split_p fuel ⟨#[]⟩ 10 = some [x] from r1)]
    exact ⟨([], true), ([], true), rfl, rfl, rfl, fun _ => rfl⟩
  · have hpos : 0 < s.size := by
      rw [hsz]
      apply Nat.pos_of_ne_zero
      intro h0
      exact he (toL_inj (List.length_eq_zero_iff.1 h0))
    have hlt : s.size - 1 < (toL s).length := by rw [← hsz]; omega
    have hlast : strI s (w64 ((s.size : Int) - 1)) = some (toL s)[s.size - 1] := by
      rw [w64_in (by omega), strI_of (k := s.size - 1) (by omega), List.getElem?_eq_getElem hlt]
    rw [decide_eq_false he, cond_false, bnd hlast, hlast]
    simp only [Bool.not_false, Bool.and_true, Bool.true_and]
    generalize hb : (toL s)[s.size - 1] = b
    by_cases h10 : b = 10
    · subst h10
      rw [show (((10 : UInt8).toNat : Int) != 10) = false from rfl, cond_false]
      have hin : inB 0 (w64 ((s.size : Int) - 1)) s.size = true := by rw [w64_in (by omega)]; unfold inB; simp; omega
      have htn : (w64 ((s.size : Int) - 1)).toNat = s.size - 1 := by rw [w64_in (by omega)]; omega
      rw [hin, need_t, Option.bind_some, htn]
      unfold strings_Split_p
      have hes : (s.extract 0 (s.size - 1)).size ≤ s.size := by rw [Go.Lib.size_eq, Go.Lib.extract_data, List.length_take, List.length_drop, ← hsz]; omega
      rw [show (Nat.blt (s.extract 0 (s.size - 1)).size 4294967281 && Nat.blt 0 (⟨#[10]⟩ : ByteArray).size) = true from by
        rw [Bool.and_eq_true, Nat.blt_eq]; exact ⟨by omega, rfl⟩, need_t, Option.bind_some, Option.bind_some, Option.bind_some]
      simp only [Bool.not_true, Bool.false_or]
      have hsp := splitS_cut (s.extract 0 (s.size - 1)) 10
      rw [show toL (s.extract 0 (s.size - 1)) = (toL s).take (s.size - 1) from by rw [show toL (s.extract 0 (s.size - 1)) = _ from Go.Lib.extract_data s 0 (s.size - 1)]; rw [List.drop_zero, Nat.sub_zero]] at hsp
      have hL : toL s = (toL s).take (s.size - 1) ++ [10] := by
        have := List.take_append_drop (s.size - 1) (toL s)
        rw [List.drop_eq_getElem_cons hlt, hb, List.drop_of_length_le (by rw [← hsz]; omega)] at this
        exact this.symm
      obtain ⟨r, r1, r2⟩ := l1Split_eq s hn 10 fuel hf
      rw [hL, cut_last, ← hsp] at r2
      generalize hg : splitS (s.extract 0 (s.size - 1)) ⟨#[10]⟩ = g at r2
      obtain ⟨g', z, rfl⟩ : ∃ g' z, r = g' ++ [z] := by
        have hl : r ≠ [] := by intro e; rw [e] at r2; simp at r2
        exact ⟨r.dropLast, r.getLast hl, (List.dropLast_concat_getLast hl).symm⟩
      rw [List.map_append] at r2
      have hgg : g' = g := by
        have hlen : (g'.map toL).length = (g.map toL).length := by
          have := congrArg List.length r2
          simp at this; simpa using this
        exact toL_map_inj (List.append_inj r2 hlen).1
      subst hgg
      by_cases h2 : (s.size : Int) > 2000
      · rw [decide_eq_true h2]
        simp only [Bool.not_true, opt_f, Option.bind_some, Bool.true_or, cond_true]
        exact ⟨_, _, rfl, rfl, rfl, fun h => by cases h⟩
      · rw [decide_eq_false h2]
        simp only [Bool.not_false, opt_t, Option.bind_some, Bool.false_or, cond_false]
        rw [bnd (show spec_l1Split_p fuel s 10 = some (g' ++ [z]) from r1), bnd (sliceHi_pre g' [z] (by
          have : g'.length ≤ 4294967281 := by
            have h3 := cutC_len 10 ((toL s).take (s.size - 1))
            have h4 := congrArg List.length hsp
            rw [hg, List.length_map] at h4
            have h5 : ((toL s).take (s.size - 1)).count 10 ≤ s.size := Nat.le_trans List.count_le_length (by rw [List.length_take, ← hsz]; omega)
            omega
          rw [List.length_append, w64_in (by simp; omega)]; simp))]
        by_cases h40 : (g'.length : Int) > 40
        · rw [decide_eq_true h40, cond_true]
          exact ⟨_, _, rfl, rfl, decide_eq_false (by omega), fun h => by cases h⟩
        · rw [decide_eq_false h40, cond_false]
          exact ⟨_, _, rfl, rfl, decide_eq_true (by omega), fun _ => rfl⟩
    · have h11 : ((b.toNat : Int) != 10) = true := by
        rw [bne_iff_ne]; intro e; exact h10 (UInt8.toNat_inj.1 (by show b.toNat = 10; omega))
      rw [h11, cond_true]
      by_cases h2 : (s.size : Int) > 2000
      · rw [decide_eq_true h2]
        simp only [Bool.not_true, opt_f, Option.bind_some, Bool.true_or, cond_true]
        exact ⟨_, _, rfl, rfl, rfl, fun h => by cases h⟩
      · rw [decide_eq_false h2]
        simp only [Bool.not_false, opt_t, Option.bind_some, Bool.false_or, h11, cond_true, Bool.true_or]
        exact ⟨_, _, rfl, rfl, rfl, fun h => by cases h⟩
theorem law_JoinScriptsF (F : Nat) (hF : 4194304 < F) (a b : ByteArray) : laws_FnExactJoinScripts_p F a b = some true := by
  unfold laws_FnExactJoinScripts_p
  by_cases h1 : (a.size : Int) > 1048576
  · rw [decide_eq_true h1]; rfl
  by_cases h2 : (b.size : Int) > 1048576
  · rw [decide_eq_false h1, decide_eq_true h2]; rfl
  rw [decide_eq_false h1, decide_eq_false h2, cond_false, cond_false]
  unfold spec_JoinScripts_p impl_JoinScripts_p
  obtain ⟨r1, g1, p1, q1, e1, _⟩ := script_lines a (by omega) F hF
  obtain ⟨r2, g2, p2, q2, e2, _⟩ := script_lines b (by omega) F hF
  have hab : (a ++ b).size = a.size + b.size := ByteArray.size_append
  obtain ⟨r3, g3, p3, q3, e3, _⟩ := script_lines (a ++ b) (by omega) F hF
  rw [bnd p1, bnd p2, show Nat.ble (a.size + b.size) maxN = true from by rw [Nat.ble_eq]; unfold maxN; omega, need_t, Option.bind_some, bnd p3, bnd q1, bnd q2, Option.bind_some, bnd q3, e1, e2, e3]
  cases ((!g1.2) || (!g2.2)) || (!g3.2)
  · simp
  · simp
theorem law_JoinScripts (a b : ByteArray) (hw : a.size ≤ maxN) (hv : b.size ≤ maxN) : laws_FnExactJoinScripts_p 99999999 a b = some true := law_JoinScriptsF 99999999 (by omega) a b

end Go.Proofs.YtdldbdpfjagnhaaDoor

/- Plain lemmas: what the functions compute is what the reference says, in plain Lean. No condition. -/
import Derived.Test.YtjbkbiofklgblaaGreatDoorPHist3
set_option maxRecDepth 4000
set_option maxHeartbeats 1000000
set_option linter.unusedVariables false
set_option linter.unusedSimpArgs false
set_option linter.unusedSectionVars false

namespace Go.Proofs.YtjbkbiofklgblaaGreatDoor
open Go.AM
theorem law_FnHistoriesF (F : Nat) (hF : 4194304 < F) (code more : List Int) (hw : wfByteS code) (hv : wfByteS more) : laws_FnHistories_p F code more = some true := by
  have hF1 : 1048576 < F := by omega
  have hcl : code.length ≤ 9223372036854775807 := hw.1
  have hml : more.length ≤ 9223372036854775807 := hv.1
  unfold laws_FnHistories_p
  by_cases hbig : w64 ((code.length : Int) + (more.length : Int)) > 1048576
  · rw [decide_eq_true hbig]; rfl
  rw [decide_eq_false hbig, cond_false]
  obtain ⟨l, h, d1, hb, hl⟩ := drawHistoryText_ok hw.2 hcl F hF1
  obtain ⟨a, g, T, ca, d2, ha, hg⟩ := drawTakeBack_ok hv.2 hml F hF1
  obtain ⟨b, w, d3, hb3, hw3⟩ := drawParseHistory_ok hv.2 hml F hF1
  obtain ⟨r, r1, r2, r3, r4⟩ := same_HistoryText hb h (by omega) hF1
  obtain ⟨t, t1, t2, _⟩ := same_TakeBack ha g (by omega) T ca F hF1
  obtain ⟨q, q1, q2, _⟩ := same_ParseHistory hb3 w hw3 hF
  obtain ⟨p, p1, p2, p3⟩ := is_case hb h (by omega) hF1
  obtain ⟨f, f1, f2, f3, f4⟩ := fin_case hb h (by omega) hF1
  have hpr : (p.2 && p.1) = r.2 := Bool.eq_iff_iff.2 (p3.trans ⟨r4, fun k => (r3 k).1⟩)
  have hfr : f.2 = r.2 := Bool.eq_iff_iff.2 (f3.trans ⟨r4, fun k => (r3 k).1⟩)
  have hend : cond (!r.2) (some true) ((impl_ParseHistory_p F l r.1).bind fun x85 =>
          (impl_SameCalls_p F l f.1).bind fun x87 =>
          (opt x85.2 default (laws_qChanges_p x85.1 h)).bind fun x89 =>
          some (((x85.2 && x89) && x87.2) && x87.1)) = some true := by
    cases hr : r.2
    · rfl
    · obtain ⟨hgood, htext⟩ := r3 hr
      obtain ⟨y, hy, rfl⟩ := f4 hgood
      obtain ⟨h60, hin, _⟩ := good_in hb (by omega) hF1 hgood
      have hs : r.1.size ≤ 1048576 := by
        rw [show r.1.size = (toL r.1).length from Go.Lib.size_eq r.1, htext]
        have := text_len h hin
        omega
      obtain ⟨k, k1, k2⟩ := impl_reads hb r.1 hs hF1
      obtain rfl := k2.1 h h60 hgood htext
      simp only [Bool.not_true, cond_false]
      rw [bnd k1, bnd (sameCalls_case hb h (by omega) hF1 hgood hy)]
      simp only [opt_t]
      rw [bnd (qChanges_eq _)]
      rfl
  rw [bnd d1]
  dsimp only
  rw [bnd r2, bnd r1, bnd f2, bnd f1, bnd p2, bnd p1, bnd d2]
  dsimp only
  rw [bnd t2, bnd t1, bnd d3]
  dsimp only
  rw [bnd q2, bnd q1]
  simp only [beq_self_eq_true, decide_true, Bool.not_true, Bool.not_false, Bool.or_false, opt_t]
  rw [bnd (qItems_eq _)]
  simp only [Bool.not_true, Bool.not_false, Bool.or_false, opt_t]
  rw [bnd (qChanges_eq _)]
  simp only [Bool.not_true, Bool.not_false, Bool.or_false, opt_t]
  rw [bnd (qChanges_eq _), hpr, hfr]
  simp only [beq_self_eq_true, Bool.not_true, Bool.or_false, cond_false]
  rw [hend]
  cases ht : t.2
  · rw [cond_false]
  · rw [cond_true]
    obtain ⟨i, c, y0, y1, it0, it1, m, m1, m2, m3, m4, m5, m6, m7, m8, m9, m10, m11, m12⟩ := taken_case ha g (by omega) T ca hF1 t1 ht
    obtain ⟨u1, u2⟩ := fin_good ha (g.take i) (by rw [List.length_take]; omega) hF1 m4 m5
    obtain ⟨v1, v2⟩ := fin_good ha t.1 (by omega) hF1 m9 m10
    rw [w64_in (by omega), bnd m1, bnd (sliceHi_of rfl m3), bnd u2, bnd u1, bnd v2, bnd v1]
    dsimp only
    simp only [Bool.not_true, Bool.not_false, Bool.or_false, opt_t]
    rw [bnd (qItems_eq _)]
    simp only [Bool.not_true, Bool.not_false, Bool.or_false, opt_t]
    rw [bnd (qItems_eq _)]
    have hlen : ((t.1.length : Int) != w64 ((g.length : Int) + 1)) = false := by
      rw [w64_in (by omega), m8]; simp
    rw [hlen]
    simp only [Bool.not_true, Bool.not_false, Bool.or_false, opt_t]
    rw [bnd (show getI g (i : Int) = some c from by rw [getI_nat]; exact m2), bnd m6, bnd m7, bnd m11, bnd m12, bne_self_eq_false]
    rfl
theorem law_FnHistories (code more : List Int) (hw : wfByteS code) (hv : wfByteS more) : laws_FnHistories_p 99999999 code more = some true := law_FnHistoriesF 99999999 (by omega) code more hw hv

end Go.Proofs.YtjbkbiofklgblaaGreatDoor

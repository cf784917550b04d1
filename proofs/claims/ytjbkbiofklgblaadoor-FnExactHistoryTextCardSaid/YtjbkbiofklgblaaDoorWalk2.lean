/- The walk, part 2: what each function reached by the law FnExactHistoryText computes. No condition. -/
import Derived.Test.YtjbkbiofklgblaaDoorWalk1
set_option maxRecDepth 4000
set_option maxHeartbeats 1000000
set_option linter.unusedVariables false
set_option linter.unusedSimpArgs false
set_option linter.unusedSectionVars false

namespace Go.Proofs.YtjbkbiofklgblaaDoor
open Go.AM

def laws_FnExactHistoryText_p (fuel : Nat) (aL : List Item) (aH : List Change) : Option Bool :=
  (laws_szItemS_p aL 1048576).bind fun x1 =>
  cond (decide (x1 < 0))
    (some true)
    ((laws_szChangeS_p aH x1).bind fun x3 =>
    cond (decide (x3 < 0))
      (some true)
      ((laws_toItemS_p aL).bind fun x5 =>
      (laws_toChangeS_p aH).bind fun x7 =>
      (spec_HistoryText_p fuel x5 x7).bind fun x9 =>
      (impl_HistoryText_p fuel x5 x7).bind fun x11 =>
      cond ((!decide (x11.1 = x9.1)) || (!(x11.2 == x9.2)))
        (some false)
        ((laws_eqItemS_p x5 x5).bind fun x13 =>
        cond (!x13)
          (some false)
          ((laws_eqChangeS_p x7 x7).bind fun x15 =>
          cond (!x15)
            (some false)
            (some true)))))
theorem laws_FnExactHistoryText_ok (fuel : Nat) (aL : List Item) (aH : List Change) (r : Bool) (hH : laws_FnExactHistoryText_p fuel aL aH = some r) : SpecR Tryd.prog 3 [.s (List.map encItem aL), .s (List.map encChange aH)] (.v (.bool r)) := by
 refine fn_ok T Tryd.func3 rfl (by decide) rfl ?_
 refine AW.seq (AW.region ?_)
 refine AO.pu T ?_
 refine AO.nil (AW.seq ?_)
 refine AW.region ?_
 refine AO.pu T ?_
 refine AO.nil (AW.seq ?_)
 obtain ⟨x1, hx2, hH⟩ := bindE hH
 refine AW.region ?_
 iterate 2 refine AO.pu T ?_
 refine AO.val rfl rfl (callV_ok rfl rfl rfl rfl (laws_szItemS_ok _ _ _ (hx2)) rfl) ?_
 refine AO.pu T ?_
 refine AO.nil ?_
 iterate 2 refine AW.seq ?_
 refine AW.region ?_
 iterate 2 refine AO.pu T ?_
 refine AO.nil ?_
 refine AW.cond (b := decide (x1 < 0)) rfl (fun hc => ?_) (fun hc => ?_)
 replace hH := condT hc hH
 refine AW.seq (AW.region ?_)
 refine AO.pu T ?_
 refine AO.nil (AW.ret ?_)
 have hR := someE hH; subst hR
 exact retQ.i [] rfl (.c (.c .v))
 replace hH := condF hc hH
 refine AW.skip ?_
 refine AW.seq ?_
 obtain ⟨x3, hx4, hH⟩ := bindE hH
 refine AW.region ?_
 iterate 2 refine AO.pu T ?_
 refine AO.val rfl rfl (callV_ok rfl rfl rfl rfl (laws_szChangeS_ok _ _ _ (hx4)) rfl) ?_
 refine AO.pu T ?_
 refine AO.nil ?_
 iterate 2 refine AW.seq ?_
 refine AW.region ?_
 iterate 2 refine AO.pu T ?_
 refine AO.nil ?_
 refine AW.cond (b := decide (x3 < 0)) rfl (fun hc => ?_) (fun hc => ?_)
 replace hH := condT hc hH
 refine AW.seq (AW.region ?_)
 refine AO.pu T ?_
 refine AO.nil (AW.ret ?_)
 have hR := someE hH; subst hR
 exact retQ.i [] rfl (.c (.c .v))
 replace hH := condF hc hH
 refine AW.skip ?_
 refine AW.seq ?_
 obtain ⟨x5, hx6, hH⟩ := bindE hH
 obtain ⟨x7, hx8, hH⟩ := bindE hH
 obtain ⟨x9, hx10, hH⟩ := bindE hH
 refine AW.region ?_
 refine AO.pu T ?_
 refine AO.step rfl (call_ok rfl 1 rfl rfl rfl (laws_toItemS_ok _ _ (hx6)) rfl rfl rfl) ?_
 refine AO.pu T ?_
 refine AO.step rfl (call_ok rfl 2 rfl rfl rfl (laws_toChangeS_ok _ _ (hx8)) rfl rfl rfl) ?_
 refine AO.val rfl rfl (callLV_ok rfl rfl rfl (es := [.s (List.map encItem x5), .s (List.map encChange x7)]) ⟨(.rowR rfl (.map fun y => frzItem y)), (.rowR rfl (.map fun y => .vs rfl)), trivial⟩ (spec_HistoryText_ok fuel _ _ _ (hx10)) (zfree_t (zfl (.cons (zfree_v _) (.cons (zfree_v _) .nil)))) rfl) ?_
 iterate 5 refine AO.pu T ?_
 refine AO.nil ?_
 refine AW.le (Le.ct 0 0 (σ' := (⟨[(0, .s (List.map encItem aL)), (1, .s (List.map encChange aH)), (6, .v (.string x9.1)), (7, .v (.bool x9.2))], [], 58, []⟩ : St))) ?_
 refine AW.seq (AW.region ?_)
 refine AO.pu T ?_
 refine AO.step rfl (call_ok rfl 3 rfl rfl rfl (laws_toItemS_ok _ _ (hx6)) rfl rfl rfl) ?_
 refine AO.pu T ?_
 refine AO.nil (AW.seq ?_)
 refine AW.region ?_
 refine AO.pu T ?_
 refine AO.step rfl (call_ok rfl 4 rfl rfl rfl (laws_toChangeS_ok _ _ (hx8)) rfl rfl rfl) ?_
 refine AO.pu T ?_
 refine AO.nil (AW.seq ?_)
 obtain ⟨x11, hx12, hH⟩ := bindE hH
 refine AW.region ?_
 iterate 2 refine AO.pu T ?_
 refine AO.val rfl rfl (callLV_ok rfl rfl rfl (es := [.s (List.map encItem x5), .s (List.map encChange x7)]) ⟨(.rowR rfl (.map fun y => frzItem y)), (.rowR rfl (.map fun y => .vs rfl)), trivial⟩ (impl_HistoryText_ok fuel _ _ _ (hx12)) (zfree_t (zfl (.cons (zfree_v _) (.cons (zfree_v _) .nil)))) rfl) ?_
 iterate 5 refine AO.pu T ?_
 refine AO.nil ?_
 iterate 2 refine AW.seq ?_
 refine AW.region ?_
 iterate 4 refine AO.pu T ?_
 iterate 2 refine AO.pureG T [] rfl trivial rfl rfl ?_
 refine AO.pureG T [44, 45] rfl ⟨fun h => h, fun h => h, trivial⟩ rfl rfl ?_
 refine AO.val rfl rfl (pick_or rfl rfl rfl rfl) ?_
 refine AO.nil ?_
 refine AW.cond (b := ((!decide (x11.1 = x9.1)) || (!(x11.2 == x9.2)))) rfl (fun hc => ?_) (fun hc => ?_)
 replace hH := condT hc hH
 refine AW.seq (AW.region ?_)
 refine AO.pu T ?_
 refine AO.nil (AW.ret ?_)
 have hR := someE hH; subst hR
 exact retQ.i [] rfl (.c (.c .v))
 replace hH := condF hc hH
 refine AW.skip ?_
 iterate 2 refine AW.seq ?_
 obtain ⟨x13, hx14, hH⟩ := bindE hH
 refine AW.region ?_
 iterate 2 refine AO.pu T ?_
 refine AO.step rfl (call_ok rfl 5 rfl rfl rfl (laws_toItemS_ok _ _ (hx6)) rfl rfl rfl) ?_
 refine AO.val rfl rfl (callLV_ok rfl rfl rfl (es := [.s (List.map encItem x5), .s (List.map encItem x5)]) ⟨(.rowR rfl (.map fun y => frzItem y)), (.rowR rfl (.map fun y => frzItem y)), trivial⟩ (laws_eqItemS_ok _ _ _ (hx14)) (zfree_v _) rfl) ?_
 refine AO.pu T ?_
 refine AO.nil ?_
 refine AW.le (Le.ct 0 0 (σ' := (⟨[(1, .s (List.map encChange aH)), (9, .R 4), (52, .v (.bool (!x13)))], [(4, .row 6 (List.map encChange x7))], 58, []⟩ : St))) ?_
 refine AW.cond (b := (!x13)) rfl (fun hc => ?_) (fun hc => ?_)
 replace hH := condT hc hH
 refine AW.seq (AW.region ?_)
 refine AO.pu T ?_
 refine AO.nil (AW.ret ?_)
 have hR := someE hH; subst hR
 exact retQ.i [] rfl (.c (.c .v))
 replace hH := condF hc hH
 refine AW.skip ?_
 iterate 2 refine AW.seq ?_
 obtain ⟨x15, hx16, hH⟩ := bindE hH
 refine AW.region ?_
 iterate 2 refine AO.pu T ?_
 refine AO.step rfl (call_ok rfl 6 rfl rfl rfl (laws_toChangeS_ok _ _ (hx8)) rfl rfl rfl) ?_
 refine AO.val rfl rfl (callLV_ok rfl rfl rfl (es := [.s (List.map encChange x7), .s (List.map encChange x7)]) ⟨(.rowR rfl (.map fun y => .vs rfl)), (.rowR rfl (.map fun y => .vs rfl)), trivial⟩ (laws_eqChangeS_ok _ _ _ (hx16)) (zfree_v _) rfl) ?_
 refine AO.pu T ?_
 refine AO.nil ?_
 refine AW.cond (b := (!x15)) rfl (fun hc => ?_) (fun hc => ?_)
 replace hH := condT hc hH
 refine AW.seq (AW.region ?_)
 refine AO.pu T ?_
 refine AO.nil (AW.ret ?_)
 have hR := someE hH; subst hR
 exact retQ.i [] rfl (.c (.c .v))
 replace hH := condF hc hH
 refine AW.skip ?_
 refine AW.seq (AW.region ?_)
 refine AO.pu T ?_
 refine AO.nil (AW.ret ?_)
 have hR := someE hH; subst hR
 exact retQ.i [] rfl (.c (.c .v))

end Go.Proofs.YtjbkbiofklgblaaDoor

/- The walk, part 2: what each function reached by the law FnExactTakeBack computes. No condition. -/
import Derived.Test.YtnmpidocpdjjfaaWalk1
set_option maxRecDepth 4000
set_option maxHeartbeats 1000000
set_option linter.unusedVariables false
set_option linter.unusedSimpArgs false
set_option linter.unusedSectionVars false

namespace Go.Proofs.Ytnmpidocpdjjfaa
open Go.AM

def laws_FnExactTakeBack_p (fuel : Nat) (aL : List Item) (aH : List Change) (aTick : Int) (aCaller : Int) : Option Bool :=
  (laws_szItemS_p aL 1048576).bind fun x1 =>
  cond (decide (x1 < 0))
    (some true)
    ((laws_szChangeS_p aH x1).bind fun x3 =>
    cond (decide (x3 < 0))
      (some true)
      ((laws_toItemS_p aL).bind fun x5 =>
      (laws_toChangeS_p aH).bind fun x7 =>
      (spec_TakeBack_p fuel x5 x7 aTick aCaller).bind fun x9 =>
      (impl_TakeBack_p fuel x5 x7 aTick aCaller).bind fun x11 =>
      (laws_eqChangeS_p x11.1 x9.1).bind fun x13 =>
      cond ((!x13) || (!(x11.2 == x9.2)))
        (some false)
        ((laws_eqItemS_p x5 x5).bind fun x15 =>
        cond (!x15)
          (some false)
          ((laws_eqChangeS_p x7 x7).bind fun x17 =>
          cond (!x17)
            (some false)
            ((laws_markItemS_p fuel x5 1).bind fun x19 =>
            (laws_markChangeS_p fuel x7 x19.2).bind fun x21 =>
            cond ((decide (x21.2 < 0) || (!x13)) || (!(x11.2 == x9.2)))
              (some false)
              ((laws_markChangeS_p fuel x11.1 1).bind fun x23 =>
              (laws_heldChangeS_p x23.1 1).bind fun x25 =>
              cond (decide (x25 < 0))
                (some false)
                (cond (x25 != x23.2)
                  (some false)
                  (cond ((!x13) || (!(x11.2 == x9.2)))
                    (some false)
                    (cond (decide (x25 < 0))
                      (some false)
                      (cond (x25 != x23.2)
                        (some false)
                        (some true)))))))))))
theorem laws_FnExactTakeBack_ok (fuel : Nat) (aL : List Item) (aH : List Change) (aTick : Int) (aCaller : Int) (r : Bool) (hH : laws_FnExactTakeBack_p fuel aL aH aTick aCaller = some r) : SpecR Try.prog 9 [.s (List.map encItem aL), .s (List.map encChange aH), aTick, aCaller] (.v (.bool r)) := by
 refine fn_ok T Try.func9 rfl (by decide) rfl ?_
 refine AW.seq (AW.region ?_)
 refine AO.pu T ?_
 refine AO.nil (AW.seq ?_)
 refine AW.region ?_
 refine AO.pu T ?_
 refine AO.nil (AW.seq ?_)
 obtain ⟨x1, hx2, hH⟩ := bindE hH
 refine AW.region ?_
 iterate 2 refine AO.pu T ?_
 refine AO.val rfl rfl (callV_ok rfl rfl rfl rfl (laws_szItemS_ok _ _ _ (hx2)) rfl) ?_
 refine AO.pu T ?_
 refine AO.nil ?_
 iterate 2 refine AW.seq ?_
 refine AW.region ?_
 iterate 2 refine AO.pu T ?_
 refine AO.nil ?_
 refine AW.cond (b := decide (x1 < 0)) rfl (fun hc => ?_) (fun hc => ?_)
 replace hH := condT hc hH
 refine AW.seq (AW.region ?_)
 refine AO.pu T ?_
 refine AO.nil (AW.ret ?_)
 cases someE hH
 exact retQ.i [] rfl (.c (.c .v))
 replace hH := condF hc hH
 refine AW.skip ?_
 refine AW.seq ?_
 obtain ⟨x3, hx4, hH⟩ := bindE hH
 refine AW.region ?_
 iterate 2 refine AO.pu T ?_
 refine AO.val rfl rfl (callV_ok rfl rfl rfl rfl (laws_szChangeS_ok _ _ _ (hx4)) rfl) ?_
 refine AO.pu T ?_
 refine AO.nil ?_
 iterate 2 refine AW.seq ?_
 refine AW.region ?_
 iterate 2 refine AO.pu T ?_
 refine AO.nil ?_
 refine AW.cond (b := decide (x3 < 0)) rfl (fun hc => ?_) (fun hc => ?_)
 replace hH := condT hc hH
 refine AW.seq (AW.region ?_)
 refine AO.pu T ?_
 refine AO.nil (AW.ret ?_)
 cases someE hH
 exact retQ.i [] rfl (.c (.c .v))
 replace hH := condF hc hH
 refine AW.skip ?_
 refine AW.seq ?_
 obtain ⟨x5, hx6, hH⟩ := bindE hH
 obtain ⟨x7, hx8, hH⟩ := bindE hH
 obtain ⟨x9, hx10, hH⟩ := bindE hH
 refine AW.region ?_
 refine AO.pu T ?_
 refine AO.step rfl (call_ok rfl 1 rfl rfl rfl (laws_toItemS_ok _ _ (hx6)) rfl rfl rfl) ?_
 refine AO.pu T ?_
 refine AO.step rfl (call_ok rfl 2 rfl rfl rfl (laws_toChangeS_ok _ _ (hx8)) rfl rfl rfl) ?_
 iterate 2 refine AO.pu T ?_
 refine AO.step rfl (callL_ok rfl 3 rfl rfl (es := [.s (List.map encItem x5), .s (List.map encChange x7), aTick, aCaller]) (by exact ⟨(.rowR rfl (.map fun y => frzItem y)), (.rowR rfl (.map fun y => .vs rfl)), .free rfl, .free rfl, trivial⟩) (spec_TakeBack_ok fuel _ _ _ _ _ (hx10)) (zfree_t (zfl (.cons (zfree_map (fun y => (.cons (zfree_v _) (.cons (zfree_v _) (.cons (zfree_v _) (.cons (zfree_v _) (.cons (zfree_v _) (.cons (zfree_v _) .nil)))))))) (.cons (zfree_v _) .nil)))) rfl rfl rfl) ?_
 iterate 5 refine AO.pu T ?_
 refine AO.nil ?_
 refine AW.le (Le.ct 0 0 (σ' := (⟨[(0, .s (List.map encItem aL)), (1, .s (List.map encChange aH)), (2, aTick), (3, aCaller), (10, .R 3), (11, .v (.bool x9.2))], [(3, .row 6 (List.map encChange x9.1))], 129, []⟩ : St))) ?_
 refine AW.seq (AW.region ?_)
 refine AO.pu T ?_
 refine AO.step rfl (call_ok rfl 4 rfl rfl rfl (laws_toItemS_ok _ _ (hx6)) rfl rfl rfl) ?_
 refine AO.pu T ?_
 refine AO.nil (AW.seq ?_)
 refine AW.region ?_
 refine AO.pu T ?_
 refine AO.step rfl (call_ok rfl 5 rfl rfl rfl (laws_toChangeS_ok _ _ (hx8)) rfl rfl rfl) ?_
 refine AO.pu T ?_
 refine AO.nil (AW.seq ?_)
 obtain ⟨x11, hx12, hH⟩ := bindE hH
 refine AW.region ?_
 iterate 4 refine AO.pu T ?_
 refine AO.step rfl (callL_ok rfl 6 rfl rfl (es := [.s (List.map encItem x5), .s (List.map encChange x7), aTick, aCaller]) (by exact ⟨(.rowR rfl (.map fun y => frzItem y)), (.rowR rfl (.map fun y => .vs rfl)), .free rfl, .free rfl, trivial⟩) (impl_TakeBack_ok fuel _ _ _ _ _ (hx12)) (zfree_t (zfl (.cons (zfree_map (fun y => (.cons (zfree_v _) (.cons (zfree_v _) (.cons (zfree_v _) (.cons (zfree_v _) (.cons (zfree_v _) (.cons (zfree_v _) .nil)))))))) (.cons (zfree_v _) .nil)))) rfl rfl rfl) ?_
 iterate 5 refine AO.pu T ?_
 refine AO.nil ?_
 iterate 2 refine AW.seq ?_
 obtain ⟨x13, hx14, hH⟩ := bindE hH
 refine AW.region ?_
 iterate 2 refine AO.pu T ?_
 refine AO.val rfl rfl (callLV_ok rfl rfl rfl (es := [.s (List.map encChange x11.1), .s (List.map encChange x9.1)]) ⟨(.rowR rfl (.map fun y => .vs rfl)), (.rowR rfl (.map fun y => .vs rfl)), trivial⟩ (laws_eqChangeS_ok _ _ _ (hx14)) (zfree_v _) rfl) ?_
 iterate 2 refine AO.pu T ?_
 iterate 2 refine AO.pureG T [] rfl trivial rfl rfl ?_
 refine AO.pureG T [58, 59] rfl ⟨fun h => h, fun h => h, trivial⟩ rfl rfl ?_
 refine AO.val rfl rfl (pick_or rfl rfl rfl rfl) ?_
 refine AO.nil ?_
 refine AW.le (Le.ct 0 0 (σ' := (⟨[(0, .s (List.map encItem aL)), (1, .s (List.map encChange aH)), (2, aTick), (3, aCaller), (10, .R 3), (11, .v (.bool x9.2)), (12, .R 4), (13, .R 5), (14, .R 6), (15, .v (.bool x11.2)), (61, .v (.bool ((!x13) || (!(x11.2 == x9.2)))))], [(3, .row 6 (List.map encChange x9.1)), (4, .row 3 (List.map encItemO x5)), (5, .row 6 (List.map encChange x7)), (6, .row 6 (List.map encChange x11.1))], 129, []⟩ : St))) ?_
 refine AW.cond (b := ((!x13) || (!(x11.2 == x9.2)))) rfl (fun hc => ?_) (fun hc => ?_)
 replace hH := condT hc hH
 refine AW.seq (AW.region ?_)
 refine AO.pu T ?_
 refine AO.nil (AW.ret ?_)
 cases someE hH
 exact retQ.i [] rfl (.c (.c .v))
 replace hH := condF hc hH
 refine AW.skip ?_
 iterate 2 refine AW.seq ?_
 obtain ⟨x15, hx16, hH⟩ := bindE hH
 refine AW.region ?_
 iterate 2 refine AO.pu T ?_
 refine AO.step rfl (call_ok rfl 7 rfl rfl rfl (laws_toItemS_ok _ _ (hx6)) rfl rfl rfl) ?_
 refine AO.val rfl rfl (callLV_ok rfl rfl rfl (es := [.s (List.map encItem x5), .s (List.map encItem x5)]) ⟨(.rowR rfl (.map fun y => frzItem y)), (.rowR rfl (.map fun y => frzItem y)), trivial⟩ (laws_eqItemS_ok _ _ _ (hx16)) (zfree_v _) rfl) ?_
 refine AO.pu T ?_
 refine AO.nil ?_
 refine AW.cond (b := (!x15)) rfl (fun hc => ?_) (fun hc => ?_)
 replace hH := condT hc hH
 refine AW.seq (AW.region ?_)
 refine AO.pu T ?_
 refine AO.nil (AW.ret ?_)
 cases someE hH
 exact retQ.i [] rfl (.c (.c .v))
 replace hH := condF hc hH
 refine AW.skip ?_
 iterate 2 refine AW.seq ?_
 obtain ⟨x17, hx18, hH⟩ := bindE hH
 refine AW.region ?_
 iterate 2 refine AO.pu T ?_
 refine AO.step rfl (call_ok rfl 8 rfl rfl rfl (laws_toChangeS_ok _ _ (hx8)) rfl rfl rfl) ?_
 refine AO.val rfl rfl (callLV_ok rfl rfl rfl (es := [.s (List.map encChange x7), .s (List.map encChange x7)]) ⟨(.rowR rfl (.map fun y => .vs rfl)), (.rowR rfl (.map fun y => .vs rfl)), trivial⟩ (laws_eqChangeS_ok _ _ _ (hx18)) (zfree_v _) rfl) ?_
 refine AO.pu T ?_
 refine AO.nil ?_
 refine AW.cond (b := (!x17)) rfl (fun hc => ?_) (fun hc => ?_)
 replace hH := condT hc hH
 refine AW.seq (AW.region ?_)
 refine AO.pu T ?_
 refine AO.nil (AW.ret ?_)
 cases someE hH
 exact retQ.i [] rfl (.c (.c .v))
 replace hH := condF hc hH
 refine AW.skip ?_
 refine AW.seq (AW.region ?_)
 refine AO.pu T ?_
 refine AO.nil (AW.seq ?_)
 obtain ⟨x19, hx20, hH⟩ := bindE hH
 refine AW.region ?_
 iterate 2 refine AO.pu T ?_
 refine AO.step rfl (callM_ok rfl 9 rfl rfl (es := [.w 3 (x5.map encItemO), .v (.int .i64 1)]) (outs := [.w 3 (x19.1.map encItemO), .u]) (ids := [4]) (by exact expLG_cons (.c (.rowR rfl)) (expLG_cons (.c .v) (expLG_nil))) (by decide) (.inl (by rfl)) (by rfl) (laws_markItemS_ok fuel _ _ _ (hx20)) rfl (by rfl) rfl) ?_
 refine AO.pu T ?_
 refine AO.nil (AW.seq ?_)
 obtain ⟨x21, hx22, hH⟩ := bindE hH
 refine AW.region ?_
 iterate 2 refine AO.pu T ?_
 refine AO.step rfl (callM_ok rfl 9 rfl rfl (es := [.w 6 (x7.map encChange), .v (.int .i64 x19.2)]) (outs := [.w 6 (x21.1.map encChange), .u]) (ids := [5]) (by exact expLG_cons (.c (.rowR rfl)) (expLG_cons (.c .v) (expLG_nil))) (by decide) (.inl (by rfl)) (by rfl) (laws_markChangeS_ok fuel _ _ _ (hx22)) rfl (by rfl) rfl) ?_
 refine AO.pu T ?_
 refine AO.nil ?_
 iterate 2 refine AW.seq ?_
 refine AW.region ?_
 iterate 3 refine AO.pu T ?_
 iterate 2 refine AO.pureG T [] rfl trivial rfl rfl ?_
 refine AO.guard [81, 82] rfl ⟨fun h => h, fun h => h, trivial⟩ (fun hg => callLV_ok rfl rfl rfl (es := [.s (List.map encChange x11.1), .s (List.map encChange x9.1)]) ⟨(.rowR rfl (.map fun y => .vs rfl)), (.rowR rfl (.map fun y => .vs rfl)), trivial⟩ (laws_eqChangeS_ok _ _ _ (hx14)) (zfree_v _) rfl) rfl ?_
 refine AO.pureG T [83] rfl ⟨fun h => h, trivial⟩ rfl rfl ?_
 refine AO.val rfl rfl (pick_or rfl rfl rfl rfl) ?_
 refine AO.pu T ?_
 iterate 2 refine AO.pureG T [] rfl trivial rfl rfl ?_
 refine AO.pureG T [87, 88] rfl ⟨fun h => h, fun h => h, trivial⟩ rfl rfl ?_
 refine AO.val rfl rfl (pick_or rfl rfl rfl rfl) ?_
 refine AO.nil ?_
 refine AW.le (Le.ct 0 0 (σ' := (⟨[(0, .s (List.map encItem aL)), (1, .s (List.map encChange aH)), (2, aTick), (3, aCaller), (10, .R 3), (11, .v (.bool x9.2)), (14, .R 6), (90, .v (.bool ((decide (x21.2 < 0) || (!x13)) || (!(x11.2 == x9.2)))))], [(3, .row 6 (List.map encChange x9.1)), (6, .row 6 (List.map encChange x11.1))], 129, []⟩ : St))) ?_
 refine AW.cond (b := ((decide (x21.2 < 0) || (!x13)) || (!(x11.2 == x9.2)))) rfl (fun hc => ?_) (fun hc => ?_)
 replace hH := condT hc hH
 refine AW.seq (AW.region ?_)
 refine AO.pu T ?_
 refine AO.nil (AW.ret ?_)
 cases someE hH
 exact retQ.i [] rfl (.c (.c .v))
 replace hH := condF hc hH
 refine AW.skip ?_
 refine AW.seq (AW.region ?_)
 refine AO.pu T ?_
 refine AO.nil (AW.seq ?_)
 obtain ⟨x23, hx24, hH⟩ := bindE hH
 refine AW.region ?_
 iterate 2 refine AO.pu T ?_
 refine AO.step rfl (callM_ok rfl 9 rfl rfl (es := [.w 6 (x11.1.map encChange), .v (.int .i64 1)]) (outs := [.w 6 (x23.1.map encChange), .u]) (ids := [6]) (by exact expLG_cons (.c (.rowR rfl)) (expLG_cons (.c .v) (expLG_nil))) (by decide) (.inl (by rfl)) (by rfl) (laws_markChangeS_ok fuel _ _ _ (hx24)) rfl (by rfl) rfl) ?_
 refine AO.pu T ?_
 refine AO.nil (AW.seq ?_)
 refine AW.region ?_
 refine AO.pu T ?_
 refine AO.nil (AW.seq ?_)
 obtain ⟨x25, hx26, hH⟩ := bindE hH
 refine AW.region ?_
 iterate 2 refine AO.pu T ?_
 refine AO.val rfl rfl (callLV_ok rfl rfl rfl (es := [.s (List.map encChange x23.1), (1 : Int)]) ⟨(.rowR rfl (.map fun y => .vs rfl)), .free rfl, trivial⟩ (laws_heldChangeS_ok _ _ _ (hx26)) (zfree_v _) rfl) ?_
 refine AO.pu T ?_
 refine AO.nil ?_
 iterate 2 refine AW.seq ?_
 refine AW.region ?_
 iterate 2 refine AO.pu T ?_
 refine AO.nil ?_
 refine AW.cond (b := decide (x25 < 0)) rfl (fun hc => ?_) (fun hc => ?_)
 replace hH := condT hc hH
 refine AW.seq (AW.region ?_)
 refine AO.pu T ?_
 refine AO.nil (AW.ret ?_)
 cases someE hH
 exact retQ.i [] rfl (.c (.c .v))
 replace hH := condF hc hH
 refine AW.skip ?_
 iterate 2 refine AW.seq ?_
 refine AW.region ?_
 iterate 3 refine AO.pu T ?_
 refine AO.nil ?_
 refine AW.cond (b := (x25 != x23.2)) rfl (fun hc => ?_) (fun hc => ?_)
 replace hH := condT hc hH
 refine AW.seq (AW.region ?_)
 refine AO.pu T ?_
 refine AO.nil (AW.ret ?_)
 cases someE hH
 exact retQ.i [] rfl (.c (.c .v))
 replace hH := condF hc hH
 refine AW.skip ?_
 refine AW.seq (AW.region ?_)
 refine AO.pu T ?_
 refine AO.step rfl (call_ok rfl 9 rfl rfl rfl (laws_toItemS_ok _ _ (hx6)) rfl rfl rfl) ?_
 refine AO.pu T ?_
 refine AO.step rfl (call_ok rfl 10 rfl rfl rfl (laws_toChangeS_ok _ _ (hx8)) rfl rfl rfl) ?_
 iterate 2 refine AO.pu T ?_
 refine AO.step rfl (callL_ok rfl 11 rfl rfl (es := [.s (List.map encItem x5), .s (List.map encChange x7), aTick, aCaller]) (by exact ⟨(.rowR rfl (.map fun y => frzItem y)), (.rowR rfl (.map fun y => .vs rfl)), .free rfl, .free rfl, trivial⟩) (impl_TakeBack_ok fuel _ _ _ _ _ (hx12)) (zfree_t (zfl (.cons (zfree_map (fun y => (.cons (zfree_v _) (.cons (zfree_v _) (.cons (zfree_v _) (.cons (zfree_v _) (.cons (zfree_v _) (.cons (zfree_v _) .nil)))))))) (.cons (zfree_v _) .nil)))) rfl rfl rfl) ?_
 iterate 5 refine AO.pu T ?_
 refine AO.nil ?_
 refine AW.le (Le.ct 0 0 (σ' := (⟨[(10, .R 3), (11, .v (.bool x9.2)), (14, .R 6), (17, x23.2), (19, .R 11), (20, .v (.bool x11.2))], [(3, .row 6 (List.map encChange x9.1)), (6, .row 6 (List.map encChange x23.1)), (11, .row 6 (List.map encChange x11.1))], 129, []⟩ : St))) ?_
 iterate 2 refine AW.seq ?_
 refine AW.region ?_
 iterate 2 refine AO.pu T ?_
 refine AO.val rfl rfl (callLV_ok rfl rfl rfl (es := [.s (List.map encChange x11.1), .s (List.map encChange x9.1)]) ⟨(.rowR rfl (.map fun y => .vs rfl)), (.rowR rfl (.map fun y => .vs rfl)), trivial⟩ (laws_eqChangeS_ok _ _ _ (hx14)) (zfree_v _) rfl) ?_
 iterate 2 refine AO.pu T ?_
 iterate 2 refine AO.pureG T [] rfl trivial rfl rfl ?_
 refine AO.pureG T [117, 118] rfl ⟨fun h => h, fun h => h, trivial⟩ rfl rfl ?_
 refine AO.val rfl rfl (pick_or rfl rfl rfl rfl) ?_
 refine AO.nil ?_
 refine AW.cond (b := ((!x13) || (!(x11.2 == x9.2)))) rfl (fun hc => ?_) (fun hc => ?_)
 replace hH := condT hc hH
 refine AW.seq (AW.region ?_)
 refine AO.pu T ?_
 refine AO.nil (AW.ret ?_)
 cases someE hH
 exact retQ.i [] rfl (.c (.c .v))
 replace hH := condF hc hH
 refine AW.skip ?_
 refine AW.seq (AW.region ?_)
 refine AO.pu T ?_
 refine AO.nil (AW.seq ?_)
 refine AW.region ?_
 iterate 2 refine AO.pu T ?_
 refine AO.val rfl rfl (callLV_ok rfl rfl rfl (es := [.s (List.map encChange x23.1), (1 : Int)]) ⟨(.rowR rfl (.map fun y => .vs rfl)), .free rfl, trivial⟩ (laws_heldChangeS_ok _ _ _ (hx26)) (zfree_v _) rfl) ?_
 refine AO.pu T ?_
 refine AO.nil ?_
 iterate 2 refine AW.seq ?_
 refine AW.region ?_
 iterate 2 refine AO.pu T ?_
 refine AO.nil ?_
 refine AW.cond (b := decide (x25 < 0)) rfl (fun hc => ?_) (fun hc => ?_)
 replace hH := condT hc hH
 refine AW.seq (AW.region ?_)
 refine AO.pu T ?_
 refine AO.nil (AW.ret ?_)
 cases someE hH
 exact retQ.i [] rfl (.c (.c .v))
 replace hH := condF hc hH
 refine AW.skip ?_
 iterate 2 refine AW.seq ?_
 refine AW.region ?_
 iterate 3 refine AO.pu T ?_
 refine AO.nil ?_
 refine AW.cond (b := (x25 != x23.2)) rfl (fun hc => ?_) (fun hc => ?_)
 replace hH := condT hc hH
 refine AW.seq (AW.region ?_)
 refine AO.pu T ?_
 refine AO.nil (AW.ret ?_)
 cases someE hH
 exact retQ.i [] rfl (.c (.c .v))
 replace hH := condF hc hH
 refine AW.skip ?_
 refine AW.seq (AW.region ?_)
 refine AO.pu T ?_
 refine AO.nil (AW.ret ?_)
 cases someE hH
 exact retQ.i [] rfl (.c (.c .v))

end Go.Proofs.Ytnmpidocpdjjfaa

/- The walk, part 2: what each function reached by the law FnExactOpenReviews computes. No condition. -/
import Derived.Test.YtnmpidocpdjjfaaWalk1
set_option maxRecDepth 4000
set_option maxHeartbeats 1000000
set_option linter.unusedVariables false
set_option linter.unusedSimpArgs false
set_option linter.unusedSectionVars false

namespace Go.Proofs.Ytnmpidocpdjjfaa
open Go.AM

def laws_FnExactOpenReviews_p (fuel : Nat) (aL : List Item) (aH : List Change) : Option Bool :=
  (laws_szItemS_p aL 1048576).bind fun x1 =>
  cond (decide (x1 < 0))
    (some true)
    ((laws_szChangeS_p aH x1).bind fun x3 =>
    cond (decide (x3 < 0))
      (some true)
      ((laws_toItemS_p aL).bind fun x5 =>
      (laws_toChangeS_p aH).bind fun x7 =>
      (spec_OpenReviews_p fuel x5 x7).bind fun x9 =>
      (impl_OpenReviews_p fuel x5 x7).bind fun x11 =>
      (laws_eqIntSS_p x11.1 x9.1).bind fun x13 =>
      cond ((!x13) || (!(x11.2 == x9.2)))
        (some false)
        ((laws_eqItemS_p x5 x5).bind fun x15 =>
        cond (!x15)
          (some false)
          ((laws_eqChangeS_p x7 x7).bind fun x17 =>
          cond (!x17)
            (some false)
            ((laws_markItemS_p fuel x5 1).bind fun x19 =>
            (laws_markChangeS_p fuel x7 x19.2).bind fun x21 =>
            cond ((decide (x21.2 < 0) || (!x13)) || (!(x11.2 == x9.2)))
              (some false)
              ((laws_markIntSS_p fuel x11.1 1).bind fun x23 =>
              (laws_heldIntSS_p x23.1 1).bind fun x25 =>
              cond (decide (x25 < 0))
                (some false)
                (cond (x25 != x23.2)
                  (some false)
                  (cond ((!x13) || (!(x11.2 == x9.2)))
                    (some false)
                    (cond (decide (x25 < 0))
                      (some false)
                      (cond (x25 != x23.2)
                        (some false)
                        (some true)))))))))))
theorem laws_FnExactOpenReviews_ok (fuel : Nat) (aL : List Item) (aH : List Change) (r : Bool) (hH : laws_FnExactOpenReviews_p fuel aL aH = some r) : SpecR Try.prog 8 [.s (List.map encItem aL), .s (List.map encChange aH)] (.v (.bool r)) := by
 refine fn_ok T Try.func8 rfl (by decide) rfl ?_
 refine AW.seq (AW.region ?_)
 refine AO.pu T ?_
 refine AO.nil (AW.seq ?_)
 refine AW.region ?_
 refine AO.pu T ?_
 refine AO.nil (AW.seq ?_)
 obtain ⟨x1, hx2, hH⟩ := bindE hH
 refine AW.region ?_
 iterate 2 refine AO.pu T ?_
 refine AO.val rfl rfl (callV_ok rfl rfl rfl rfl (laws_szItemS_ok _ _ _ (hx2)) rfl) ?_
 refine AO.pu T ?_
 refine AO.nil ?_
 iterate 2 refine AW.seq ?_
 refine AW.region ?_
 iterate 2 refine AO.pu T ?_
 refine AO.nil ?_
 refine AW.cond (b := decide (x1 < 0)) rfl (fun hc => ?_) (fun hc => ?_)
 replace hH := condT hc hH
 refine AW.seq (AW.region ?_)
 refine AO.pu T ?_
 refine AO.nil (AW.ret ?_)
 cases someE hH
 exact retQ.i [] rfl (.c (.c .v))
 replace hH := condF hc hH
 refine AW.skip ?_
 refine AW.seq ?_
 obtain ⟨x3, hx4, hH⟩ := bindE hH
 refine AW.region ?_
 iterate 2 refine AO.pu T ?_
 refine AO.val rfl rfl (callV_ok rfl rfl rfl rfl (laws_szChangeS_ok _ _ _ (hx4)) rfl) ?_
 refine AO.pu T ?_
 refine AO.nil ?_
 iterate 2 refine AW.seq ?_
 refine AW.region ?_
 iterate 2 refine AO.pu T ?_
 refine AO.nil ?_
 refine AW.cond (b := decide (x3 < 0)) rfl (fun hc => ?_) (fun hc => ?_)
 replace hH := condT hc hH
 refine AW.seq (AW.region ?_)
 refine AO.pu T ?_
 refine AO.nil (AW.ret ?_)
 cases someE hH
 exact retQ.i [] rfl (.c (.c .v))
 replace hH := condF hc hH
 refine AW.skip ?_
 refine AW.seq ?_
 obtain ⟨x5, hx6, hH⟩ := bindE hH
 obtain ⟨x7, hx8, hH⟩ := bindE hH
 obtain ⟨x9, hx10, hH⟩ := bindE hH
 refine AW.region ?_
 refine AO.pu T ?_
 refine AO.val rfl rfl (callF_ok rfl rfl rfl rfl (laws_toItemS_ok _ _ (hx6)) (.c (.c (.map fun y => frzItem y)))) ?_
 refine AO.pu T ?_
 refine AO.val rfl rfl (callF_ok rfl rfl rfl rfl (laws_toChangeS_ok _ _ (hx8)) (.c (.c (.map fun y => .vs rfl)))) ?_
 refine AO.step rfl (call_ok rfl 1 rfl rfl rfl (spec_OpenReviews_ok fuel _ _ _ (hx10)) rfl rfl rfl) ?_
 iterate 5 refine AO.pu T ?_
 refine AO.nil ?_
 refine AW.le (Le.ct 0 0 (σ' := (⟨[(0, .s (List.map encItem aL)), (1, .s (List.map encChange aH)), (6, .R 1), (7, .v (.bool x9.2))], [(1, .row 1 (List.map encLInt x9.1))], 119, []⟩ : St))) ?_
 refine AW.seq (AW.region ?_)
 refine AO.pu T ?_
 refine AO.step rfl (call_ok rfl 2 rfl rfl rfl (laws_toItemS_ok _ _ (hx6)) rfl rfl rfl) ?_
 refine AO.pu T ?_
 refine AO.nil (AW.seq ?_)
 refine AW.region ?_
 refine AO.pu T ?_
 refine AO.step rfl (call_ok rfl 3 rfl rfl rfl (laws_toChangeS_ok _ _ (hx8)) rfl rfl rfl) ?_
 refine AO.pu T ?_
 refine AO.nil (AW.seq ?_)
 obtain ⟨x11, hx12, hH⟩ := bindE hH
 refine AW.region ?_
 iterate 2 refine AO.pu T ?_
 refine AO.step rfl (callL_ok rfl 4 rfl rfl (es := [.s (List.map encItem x5), .s (List.map encChange x7)]) (by exact ⟨(.rowR rfl (.map fun y => frzItem y)), (.rowR rfl (.map fun y => .vs rfl)), trivial⟩) (impl_OpenReviews_ok fuel _ _ _ (hx12)) (zfree_t (zfl (.cons (zfree_map (fun y => (.cons (zfree_map (fun y => (.cons (zfree_v _) .nil))) .nil))) (.cons (zfree_v _) .nil)))) rfl rfl rfl) ?_
 iterate 5 refine AO.pu T ?_
 refine AO.nil ?_
 iterate 2 refine AW.seq ?_
 obtain ⟨x13, hx14, hH⟩ := bindE hH
 refine AW.region ?_
 iterate 2 refine AO.pu T ?_
 refine AO.val rfl rfl (callLV_ok rfl rfl rfl (es := [.s (List.map encLInt x11.1), .s (List.map encLInt x9.1)]) ⟨(.rowR rfl (.map fun y => frzLInt y)), (.rowR rfl (.map fun y => .vs rfl)), trivial⟩ (laws_eqIntSS_ok _ _ _ (hx14)) (zfree_v _) rfl) ?_
 iterate 2 refine AO.pu T ?_
 iterate 2 refine AO.pureG T [] rfl trivial rfl rfl ?_
 refine AO.pureG T [50, 51] rfl ⟨fun h => h, fun h => h, trivial⟩ rfl rfl ?_
 refine AO.val rfl rfl (pick_or rfl rfl rfl rfl) ?_
 refine AO.nil ?_
 refine AW.cond (b := ((!x13) || (!(x11.2 == x9.2)))) rfl (fun hc => ?_) (fun hc => ?_)
 replace hH := condT hc hH
 refine AW.seq (AW.region ?_)
 refine AO.pu T ?_
 refine AO.nil ?_
 refine AW.le (Le.ct 0 0 (σ' := (⟨[(4, .v (.bool false))], [], 119, []⟩ : St))) ?_
 refine AW.ret ?_
 cases someE hH
 exact retQ.i [] rfl (.c (.c .v))
 replace hH := condF hc hH
 refine AW.skip ?_
 iterate 2 refine AW.seq ?_
 obtain ⟨x15, hx16, hH⟩ := bindE hH
 refine AW.region ?_
 iterate 2 refine AO.pu T ?_
 refine AO.step rfl (call_ok rfl 5 rfl rfl rfl (laws_toItemS_ok _ _ (hx6)) rfl rfl rfl) ?_
 refine AO.val rfl rfl (callLV_ok rfl rfl rfl (es := [.s (List.map encItem x5), .s (List.map encItem x5)]) ⟨(.rowR rfl (.map fun y => frzItem y)), (.rowR rfl (.map fun y => frzItem y)), trivial⟩ (laws_eqItemS_ok _ _ _ (hx16)) (zfree_v _) rfl) ?_
 refine AO.pu T ?_
 refine AO.nil ?_
 refine AW.le (Le.ct 0 0 (σ' := (⟨[(0, .s (List.map encItem aL)), (1, .s (List.map encChange aH)), (6, .R 1), (7, .v (.bool x9.2)), (8, .R 2), (9, .R 3), (10, .R 4), (11, .v (.bool x11.2)), (58, .v (.bool (!x15)))], [(1, .row 1 (List.map encLInt x9.1)), (2, .row 3 (List.map encItemO x5)), (3, .row 6 (List.map encChange x7)), (4, .row 1 (List.map encLIntO x11.1))], 119, []⟩ : St))) ?_
 refine AW.cond (b := (!x15)) rfl (fun hc => ?_) (fun hc => ?_)
 replace hH := condT hc hH
 refine AW.seq (AW.region ?_)
 refine AO.pu T ?_
 refine AO.nil (AW.ret ?_)
 cases someE hH
 exact retQ.i [] rfl (.c (.c .v))
 replace hH := condF hc hH
 refine AW.skip ?_
 iterate 2 refine AW.seq ?_
 obtain ⟨x17, hx18, hH⟩ := bindE hH
 refine AW.region ?_
 iterate 2 refine AO.pu T ?_
 refine AO.step rfl (call_ok rfl 6 rfl rfl rfl (laws_toChangeS_ok _ _ (hx8)) rfl rfl rfl) ?_
 refine AO.val rfl rfl (callLV_ok rfl rfl rfl (es := [.s (List.map encChange x7), .s (List.map encChange x7)]) ⟨(.rowR rfl (.map fun y => .vs rfl)), (.rowR rfl (.map fun y => .vs rfl)), trivial⟩ (laws_eqChangeS_ok _ _ _ (hx18)) (zfree_v _) rfl) ?_
 refine AO.pu T ?_
 refine AO.nil ?_
 refine AW.cond (b := (!x17)) rfl (fun hc => ?_) (fun hc => ?_)
 replace hH := condT hc hH
 refine AW.seq (AW.region ?_)
 refine AO.pu T ?_
 refine AO.nil (AW.ret ?_)
 cases someE hH
 exact retQ.i [] rfl (.c (.c .v))
 replace hH := condF hc hH
 refine AW.skip ?_
 refine AW.seq (AW.region ?_)
 refine AO.pu T ?_
 refine AO.nil (AW.seq ?_)
 obtain ⟨x19, hx20, hH⟩ := bindE hH
 refine AW.region ?_
 iterate 2 refine AO.pu T ?_
 refine AO.step rfl (callM_ok rfl 7 rfl rfl (es := [.w 3 (x5.map encItemO), .v (.int .i64 1)]) (outs := [.w 3 (x19.1.map encItemO), .u]) (ids := [2]) (by exact expLG_cons (.c (.rowR rfl)) (expLG_cons (.c .v) (expLG_nil))) (by decide) (.inl (by rfl)) (by rfl) (laws_markItemS_ok fuel _ _ _ (hx20)) rfl (by rfl) rfl) ?_
 refine AO.pu T ?_
 refine AO.nil (AW.seq ?_)
 obtain ⟨x21, hx22, hH⟩ := bindE hH
 refine AW.region ?_
 iterate 2 refine AO.pu T ?_
 refine AO.step rfl (callM_ok rfl 7 rfl rfl (es := [.w 6 (x7.map encChange), .v (.int .i64 x19.2)]) (outs := [.w 6 (x21.1.map encChange), .u]) (ids := [3]) (by exact expLG_cons (.c (.rowR rfl)) (expLG_cons (.c .v) (expLG_nil))) (by decide) (.inl (by rfl)) (by rfl) (laws_markChangeS_ok fuel _ _ _ (hx22)) rfl (by rfl) rfl) ?_
 refine AO.pu T ?_
 refine AO.nil ?_
 iterate 2 refine AW.seq ?_
 refine AW.region ?_
 iterate 3 refine AO.pu T ?_
 iterate 2 refine AO.pureG T [] rfl trivial rfl rfl ?_
 refine AO.guard [73, 74] rfl ⟨fun h => h, fun h => h, trivial⟩ (fun hg => callLV_ok rfl rfl rfl (es := [.s (List.map encLInt x11.1), .s (List.map encLInt x9.1)]) ⟨(.rowR rfl (.map fun y => frzLInt y)), (.rowR rfl (.map fun y => .vs rfl)), trivial⟩ (laws_eqIntSS_ok _ _ _ (hx14)) (zfree_v _) rfl) rfl ?_
 refine AO.pureG T [75] rfl ⟨fun h => h, trivial⟩ rfl rfl ?_
 refine AO.val rfl rfl (pick_or rfl rfl rfl rfl) ?_
 refine AO.pu T ?_
 iterate 2 refine AO.pureG T [] rfl trivial rfl rfl ?_
 refine AO.pureG T [79, 80] rfl ⟨fun h => h, fun h => h, trivial⟩ rfl rfl ?_
 refine AO.val rfl rfl (pick_or rfl rfl rfl rfl) ?_
 refine AO.nil ?_
 refine AW.le (Le.ct 0 0 (σ' := (⟨[(0, .s (List.map encItem aL)), (1, .s (List.map encChange aH)), (6, .R 1), (7, .v (.bool x9.2)), (10, .R 4), (82, .v (.bool ((decide (x21.2 < 0) || (!x13)) || (!(x11.2 == x9.2)))))], [(1, .row 1 (List.map encLInt x9.1)), (4, .row 1 (List.map encLIntO x11.1))], 119, []⟩ : St))) ?_
 refine AW.cond (b := ((decide (x21.2 < 0) || (!x13)) || (!(x11.2 == x9.2)))) rfl (fun hc => ?_) (fun hc => ?_)
 replace hH := condT hc hH
 refine AW.seq (AW.region ?_)
 refine AO.pu T ?_
 refine AO.nil (AW.ret ?_)
 cases someE hH
 exact retQ.i [] rfl (.c (.c .v))
 replace hH := condF hc hH
 refine AW.skip ?_
 refine AW.seq (AW.region ?_)
 refine AO.pu T ?_
 refine AO.nil (AW.seq ?_)
 obtain ⟨x23, hx24, hH⟩ := bindE hH
 refine AW.region ?_
 iterate 2 refine AO.pu T ?_
 refine AO.step rfl (callM_ok rfl 7 rfl rfl (es := [.w 1 (x11.1.map encLIntO), .v (.int .i64 1)]) (outs := [.w 1 (x23.1.map encLIntO), .u]) (ids := [4]) (by exact expLG_cons (.c (.rowR rfl)) (expLG_cons (.c .v) (expLG_nil))) (by decide) (.inl (by rfl)) (by rfl) (laws_markIntSS_ok fuel _ _ _ (hx24)) rfl (by rfl) rfl) ?_
 refine AO.pu T ?_
 refine AO.nil (AW.seq ?_)
 refine AW.region ?_
 refine AO.pu T ?_
 refine AO.nil (AW.seq ?_)
 obtain ⟨x25, hx26, hH⟩ := bindE hH
 refine AW.region ?_
 iterate 2 refine AO.pu T ?_
 refine AO.val rfl rfl (callLV_ok rfl rfl rfl (es := [.s (List.map encLInt x23.1), (1 : Int)]) ⟨(.rowR rfl (.map fun y => frzLInt y)), .free rfl, trivial⟩ (laws_heldIntSS_ok _ _ _ (hx26)) (zfree_v _) rfl) ?_
 refine AO.pu T ?_
 refine AO.nil ?_
 iterate 2 refine AW.seq ?_
 refine AW.region ?_
 iterate 2 refine AO.pu T ?_
 refine AO.nil ?_
 refine AW.cond (b := decide (x25 < 0)) rfl (fun hc => ?_) (fun hc => ?_)
 replace hH := condT hc hH
 refine AW.seq (AW.region ?_)
 refine AO.pu T ?_
 refine AO.nil (AW.ret ?_)
 cases someE hH
 exact retQ.i [] rfl (.c (.c .v))
 replace hH := condF hc hH
 refine AW.skip ?_
 iterate 2 refine AW.seq ?_
 refine AW.region ?_
 iterate 3 refine AO.pu T ?_
 refine AO.nil ?_
 refine AW.cond (b := (x25 != x23.2)) rfl (fun hc => ?_) (fun hc => ?_)
 replace hH := condT hc hH
 refine AW.seq (AW.region ?_)
 refine AO.pu T ?_
 refine AO.nil (AW.ret ?_)
 cases someE hH
 exact retQ.i [] rfl (.c (.c .v))
 replace hH := condF hc hH
 refine AW.skip ?_
 refine AW.seq (AW.region ?_)
 refine AO.pu T ?_
 refine AO.step rfl (call_ok rfl 7 rfl rfl rfl (laws_toItemS_ok _ _ (hx6)) rfl rfl rfl) ?_
 refine AO.pu T ?_
 refine AO.step rfl (call_ok rfl 8 rfl rfl rfl (laws_toChangeS_ok _ _ (hx8)) rfl rfl rfl) ?_
 refine AO.step rfl (callL_ok rfl 9 rfl rfl (es := [.s (List.map encItem x5), .s (List.map encChange x7)]) (by exact ⟨(.rowR rfl (.map fun y => frzItem y)), (.rowR rfl (.map fun y => .vs rfl)), trivial⟩) (impl_OpenReviews_ok fuel _ _ _ (hx12)) (zfree_t (zfl (.cons (zfree_map (fun y => (.cons (zfree_map (fun y => (.cons (zfree_v _) .nil))) .nil))) (.cons (zfree_v _) .nil)))) rfl rfl rfl) ?_
 iterate 5 refine AO.pu T ?_
 refine AO.nil ?_
 refine AW.le (Le.ct 0 0 (σ' := (⟨[(6, .R 1), (7, .v (.bool x9.2)), (10, .R 4), (13, x23.2), (15, .R 9), (16, .v (.bool x11.2))], [(1, .row 1 (List.map encLInt x9.1)), (4, .row 1 (List.map encLIntO x23.1)), (9, .row 1 (List.map encLIntO x11.1))], 119, []⟩ : St))) ?_
 iterate 2 refine AW.seq ?_
 refine AW.region ?_
 iterate 2 refine AO.pu T ?_
 refine AO.val rfl rfl (callLV_ok rfl rfl rfl (es := [.s (List.map encLInt x11.1), .s (List.map encLInt x9.1)]) ⟨(.rowR rfl (.map fun y => frzLInt y)), (.rowR rfl (.map fun y => .vs rfl)), trivial⟩ (laws_eqIntSS_ok _ _ _ (hx14)) (zfree_v _) rfl) ?_
 iterate 2 refine AO.pu T ?_
 iterate 2 refine AO.pureG T [] rfl trivial rfl rfl ?_
 refine AO.pureG T [107, 108] rfl ⟨fun h => h, fun h => h, trivial⟩ rfl rfl ?_
 refine AO.val rfl rfl (pick_or rfl rfl rfl rfl) ?_
 refine AO.nil ?_
 refine AW.cond (b := ((!x13) || (!(x11.2 == x9.2)))) rfl (fun hc => ?_) (fun hc => ?_)
 replace hH := condT hc hH
 refine AW.seq (AW.region ?_)
 refine AO.pu T ?_
 refine AO.nil (AW.ret ?_)
 cases someE hH
 exact retQ.i [] rfl (.c (.c .v))
 replace hH := condF hc hH
 refine AW.skip ?_
 refine AW.seq (AW.region ?_)
 refine AO.pu T ?_
 refine AO.nil (AW.seq ?_)
 refine AW.region ?_
 iterate 2 refine AO.pu T ?_
 refine AO.val rfl rfl (callLV_ok rfl rfl rfl (es := [.s (List.map encLInt x23.1), (1 : Int)]) ⟨(.rowR rfl (.map fun y => frzLInt y)), .free rfl, trivial⟩ (laws_heldIntSS_ok _ _ _ (hx26)) (zfree_v _) rfl) ?_
 refine AO.pu T ?_
 refine AO.nil ?_
 iterate 2 refine AW.seq ?_
 refine AW.region ?_
 iterate 2 refine AO.pu T ?_
 refine AO.nil ?_
 refine AW.cond (b := decide (x25 < 0)) rfl (fun hc => ?_) (fun hc => ?_)
 replace hH := condT hc hH
 refine AW.seq (AW.region ?_)
 refine AO.pu T ?_
 refine AO.nil (AW.ret ?_)
 cases someE hH
 exact retQ.i [] rfl (.c (.c .v))
 replace hH := condF hc hH
 refine AW.skip ?_
 iterate 2 refine AW.seq ?_
 refine AW.region ?_
 iterate 3 refine AO.pu T ?_
 refine AO.nil ?_
 refine AW.cond (b := (x25 != x23.2)) rfl (fun hc => ?_) (fun hc => ?_)
 replace hH := condT hc hH
 refine AW.seq (AW.region ?_)
 refine AO.pu T ?_
 refine AO.nil (AW.ret ?_)
 cases someE hH
 exact retQ.i [] rfl (.c (.c .v))
 replace hH := condF hc hH
 refine AW.skip ?_
 refine AW.seq (AW.region ?_)
 refine AO.pu T ?_
 refine AO.nil (AW.ret ?_)
 cases someE hH
 exact retQ.i [] rfl (.c (.c .v))

def laws_heldStringS_l1 (fuel : Nat) : List ByteArray → Nat → Int → Option Int
  | [], k1, v12 =>
    some v12
  | y2 :: ys3, k1, v12 =>
    (laws_markText_p fuel v12).bind fun x14 =>
    cond (!decide (y2 = x14))
      (some (-1))
      (laws_heldStringS_l1 fuel ys3 (k1 + 1) (w64 (v12 + 1)))
def laws_heldStringS_p (fuel : Nat) (a : List ByteArray) (k : Int) : Option Int :=
  laws_heldStringS_l1 fuel a 0 k
theorem laws_heldStringS_ok (fuel : Nat) (a : List ByteArray) (k : Int) (r : Int) (hH : laws_heldStringS_p fuel a k = some r) : SpecR Try.prog 69 [.s (List.map encStr a), k] (.v (.int .i64 r)) := by
 refine fn_ok T Try.func69 rfl (by decide) rfl ?_
 refine AW.seq (AW.region ?_)
 refine AO.pu T ?_
 refine AO.nil ?_
 iterate 2 refine AW.seq ?_
 refine AW.region ?_
 refine AO.pu T ?_
 refine AO.nil ?_
 refine AW.block ?_
 refine AW.loopS (fun s : Nat × Int => (⟨[(0, .s (List.map encStr a)), (1, s.2), (5, (s.1 : Int))], [], 22, []⟩ : St)) (fun s => s.1 ≤ a.length ∧ laws_heldStringS_l1 fuel (a.drop s.1) s.1 s.2 = some r) (fun s => a.length - s.1) (0, k) ⟨Nat.zero_le _, hH⟩ ?_ ?_
 exact Le.ct 0 0
 rintro ⟨k1, v12⟩ ⟨hk, hH⟩
 replace hH : laws_heldStringS_l1 fuel (a.drop k1) k1 v12 = some r := hH
 try dsimp only
 refine AW.boundM (t := 0) (l := a) rfl (fun hb5 => ?_)
 rcases hd4 : a.drop k1 with _ | ⟨y2, ys3⟩
 rw [hd4, laws_heldStringS_l1] at hH
 have hlt6 := drop_ge hd4
 iterate 2 refine AW.seq ?_
 refine AW.region ?_
 iterate 2 refine AO.pu T ?_
 refine AO.val rfl rfl (len_map_ok T rfl rfl rfl) ?_
 refine AO.pu T ?_
 refine AO.nil ?_
 refine AW.condF' (b := decide ((k1 : Int) < (a.length : Int))) rfl (rngF hlt6) ?_
 refine AW.exit ?_
 refine AW.seq (AW.region ?_)
 iterate 2 refine AO.pu T ?_
 refine AO.nil (AW.ret ?_)
 cases someE hH
 exact retQ.i [] rfl (.c (.c .v))
 rw [hd4, laws_heldStringS_l1] at hH
 have hlt6 := drop_lt hd4
 iterate 2 refine AW.seq ?_
 refine AW.region ?_
 iterate 2 refine AO.pu T ?_
 refine AO.val rfl rfl (len_map_ok T rfl rfl rfl) ?_
 refine AO.pu T ?_
 refine AO.nil ?_
 refine AW.condT' (b := decide ((k1 : Int) < (a.length : Int))) rfl (rngT hlt6) ?_
 refine AW.skip ?_
 refine AW.seq ?_
 refine AW.block ?_
 iterate 2 refine AW.seq ?_
 obtain ⟨x14, hx15, hH⟩ := bindE hH
 refine AW.drawn 6 1 [] mix (by kernel_rfl) rfl ?_
 iterate 2 refine AD.pure T rfl rfl rfl ?_
 refine AD.val rfl rfl (ix_map_ok T rfl rfl rfl rfl rfl (getI_drop hd4) rfl) ?_
 iterate 2 refine AD.pure T rfl rfl rfl ?_
 refine AD.val rfl rfl (callV_ok rfl rfl rfl rfl (laws_markText_ok fuel _ _ (hx15)) rfl) ?_
 refine AD.nil ?_
 refine AO.pu T ?_
 refine AO.nil ?_
 refine AW.cond (b := (!decide (y2 = x14))) rfl (fun hc => ?_) (fun hc => ?_)
 replace hH := condT hc hH
 refine AW.seq (AW.region ?_)
 refine AO.pu T ?_
 refine AO.nil (AW.ret ?_)
 cases someE hH
 exact retQ.i [] rfl (.c (.c .v))
 replace hH := condF hc hH
 refine AW.skip ?_
 refine AW.region ?_
 refine AO.pu T ?_
 refine AO.val rfl rfl (arw_ok rfl rfl rfl rfl) ?_
 refine AO.pu T ?_
 refine AO.nil ?_
 refine AW.region ?_
 refine AO.pu T ?_
 refine AO.val rfl rfl (ar_ok rfl rfl rfl rfl (inI_succ hlt6 hb5)) ?_
 refine AO.pu T ?_
 refine AO.nil ?_
 refine ⟨(k1 + 1, w64 (v12 + 1)), ⟨Nat.succ_le_of_lt hlt6, (by rw [drop_succ_of hd4]; exact hH)⟩, (by have := hlt6; dsimp only; omega), ?_⟩
 exact Le.ct 0 0

def laws_heldItemS_l1 (fuel : Nat) : List Item → Nat → Int → Option Int
  | [], k1, v20 =>
    some v20
  | y2 :: ys3, k1, v20 =>
    (laws_heldStringS_p fuel y2.names v20).bind fun x22 =>
    cond (decide (x22 < 0))
      (some (-1))
      ((laws_heldIntS_p y2.marks x22).bind fun x24 =>
      cond (decide (x24 < 0))
        (some (-1))
        ((need (3 != 0)).bind fun u26 =>
        cond (!(y2.late == ((x24.tmod 3) == 0)))
          (some (-1))
          (laws_heldItemS_l1 fuel ys3 (k1 + 1) (w64 (x24 + 1)))))
def laws_heldItemS_p (fuel : Nat) (a : List Item) (k : Int) : Option Int :=
  laws_heldItemS_l1 fuel a 0 k
theorem laws_heldItemS_ok (fuel : Nat) (a : List Item) (k : Int) (r : Int) (hH : laws_heldItemS_p fuel a k = some r) : SpecR Try.prog 26 [.s (List.map encItem a), k] (.v (.int .i64 r)) := by
 refine fn_ok T Try.func26 rfl (by decide) rfl ?_
 refine AW.seq (AW.region ?_)
 refine AO.pu T ?_
 refine AO.nil ?_
 iterate 2 refine AW.seq ?_
 refine AW.region ?_
 refine AO.pu T ?_
 refine AO.nil ?_
 refine AW.block ?_
 refine AW.loopS (fun s : Nat × Int => (⟨[(0, .s (List.map encItem a)), (1, s.2), (5, (s.1 : Int))], [], 42, []⟩ : St)) (fun s => s.1 ≤ a.length ∧ laws_heldItemS_l1 fuel (a.drop s.1) s.1 s.2 = some r) (fun s => a.length - s.1) (0, k) ⟨Nat.zero_le _, hH⟩ ?_ ?_
 exact Le.ct 0 0
 rintro ⟨k1, v20⟩ ⟨hk, hH⟩
 replace hH : laws_heldItemS_l1 fuel (a.drop k1) k1 v20 = some r := hH
 try dsimp only
 refine AW.boundM (t := 0) (l := a) rfl (fun hb5 => ?_)
 rcases hd4 : a.drop k1 with _ | ⟨y2, ys3⟩
 rw [hd4, laws_heldItemS_l1] at hH
 have hlt6 := drop_ge hd4
 iterate 2 refine AW.seq ?_
 refine AW.region ?_
 iterate 2 refine AO.pu T ?_
 refine AO.val rfl rfl (len_map_ok T rfl rfl rfl) ?_
 refine AO.pu T ?_
 refine AO.nil ?_
 refine AW.condF' (b := decide ((k1 : Int) < (a.length : Int))) rfl (rngF hlt6) ?_
 refine AW.exit ?_
 refine AW.seq (AW.region ?_)
 iterate 2 refine AO.pu T ?_
 refine AO.nil (AW.ret ?_)
 cases someE hH
 exact retQ.i [] rfl (.c (.c .v))
 rw [hd4, laws_heldItemS_l1] at hH
 have hlt6 := drop_lt hd4
 iterate 2 refine AW.seq ?_
 refine AW.region ?_
 iterate 2 refine AO.pu T ?_
 refine AO.val rfl rfl (len_map_ok T rfl rfl rfl) ?_
 refine AO.pu T ?_
 refine AO.nil ?_
 refine AW.condT' (b := decide ((k1 : Int) < (a.length : Int))) rfl (rngT hlt6) ?_
 refine AW.skip ?_
 refine AW.seq ?_
 refine AW.block ?_
 refine AW.seq ?_
 obtain ⟨x22, hx23, hH⟩ := bindE hH
 refine AW.region ?_
 iterate 2 refine AO.pu T ?_
 refine AO.val rfl rfl (ix_map_ok T rfl rfl rfl rfl rfl (getI_drop hd4) rfl) ?_
 iterate 3 refine AO.pu T ?_
 refine AO.val rfl rfl (callV_ok rfl rfl rfl rfl (laws_heldStringS_ok fuel _ _ _ (hx23)) rfl) ?_
 refine AO.pu T ?_
 refine AO.nil ?_
 iterate 2 refine AW.seq ?_
 refine AW.region ?_
 iterate 2 refine AO.pu T ?_
 refine AO.nil ?_
 refine AW.cond (b := decide (x22 < 0)) rfl (fun hc => ?_) (fun hc => ?_)
 replace hH := condT hc hH
 refine AW.seq (AW.region ?_)
 refine AO.pu T ?_
 refine AO.nil (AW.ret ?_)
 cases someE hH
 exact retQ.i [] rfl (.c (.c .v))
 replace hH := condF hc hH
 refine AW.skip ?_
 refine AW.seq ?_
 obtain ⟨x24, hx25, hH⟩ := bindE hH
 refine AW.region ?_
 iterate 2 refine AO.pu T ?_
 refine AO.val rfl rfl (ix_map_ok T rfl rfl rfl rfl rfl (getI_drop hd4) rfl) ?_
 iterate 3 refine AO.pu T ?_
 refine AO.val rfl rfl (callV_ok rfl rfl rfl rfl (laws_heldIntS_ok _ _ _ (hx25)) rfl) ?_
 refine AO.pu T ?_
 refine AO.nil ?_
 iterate 2 refine AW.seq ?_
 refine AW.region ?_
 iterate 2 refine AO.pu T ?_
 refine AO.nil ?_
 refine AW.le (Le.ct 0 0 (σ' := (⟨[(0, .s (List.map encItem a)), (1, x24), (5, (k1 : Int)), (29, .v (.bool (decide (x24 < 0))))], [], 42, []⟩ : St))) ?_
 refine AW.cond (b := decide (x24 < 0)) rfl (fun hc => ?_) (fun hc => ?_)
 replace hH := condT hc hH
 refine AW.seq (AW.region ?_)
 refine AO.pu T ?_
 refine AO.nil (AW.ret ?_)
 cases someE hH
 exact retQ.i [] rfl (.c (.c .v))
 replace hH := condF hc hH
 refine AW.skip ?_
 iterate 2 refine AW.seq ?_
 obtain ⟨u26, hx27, hH⟩ := bindE hH
 refine AW.region ?_
 iterate 2 refine AO.pu T ?_
 refine AO.val rfl rfl (ix_map_ok T rfl rfl rfl rfl rfl (getI_drop hd4) rfl) ?_
 iterate 3 refine AO.pu T ?_
 refine AO.val rfl rfl (rem_ok rfl rfl rfl (neZ (needT (hx27)))) ?_
 iterate 2 refine AO.pu T ?_
 refine AO.nil ?_
 refine AW.cond (b := (!(y2.late == ((x24.tmod 3) == 0)))) rfl (fun hc => ?_) (fun hc => ?_)
 replace hH := condT hc hH
 refine AW.seq (AW.region ?_)
 refine AO.pu T ?_
 refine AO.nil (AW.ret ?_)
 cases someE hH
 exact retQ.i [] rfl (.c (.c .v))
 replace hH := condF hc hH
 refine AW.skip ?_
 refine AW.region ?_
 refine AO.pu T ?_
 refine AO.val rfl rfl (arw_ok rfl rfl rfl rfl) ?_
 refine AO.pu T ?_
 refine AO.nil ?_
 refine AW.region ?_
 refine AO.pu T ?_
 refine AO.val rfl rfl (ar_ok rfl rfl rfl rfl (inI_succ hlt6 hb5)) ?_
 refine AO.pu T ?_
 refine AO.nil ?_
 refine ⟨(k1 + 1, w64 (x24 + 1)), ⟨Nat.succ_le_of_lt hlt6, (by rw [drop_succ_of hd4]; exact hH)⟩, (by have := hlt6; dsimp only; omega), ?_⟩
 exact Le.ct 0 0

end Go.Proofs.Ytnmpidocpdjjfaa

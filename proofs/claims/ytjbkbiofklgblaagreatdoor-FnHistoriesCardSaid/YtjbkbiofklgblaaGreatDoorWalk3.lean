/- The walk, part 3: what each function reached by the law FnHistories computes. No condition. -/
import Derived.Test.YtjbkbiofklgblaaGreatDoorWalk2
set_option maxRecDepth 4000
set_option maxHeartbeats 1000000
set_option linter.unusedVariables false
set_option linter.unusedSimpArgs false
set_option linter.unusedSectionVars false

namespace Go.Proofs.YtjbkbiofklgblaaGreatDoor
open Go.AM

def laws_FnHistories_l1 (x15 : ((List Item) × (List Change) × Int × Int)) : Nat → Int → Option Int
  | 0, _ => none
  | k45 + 1, v51 =>
    (opt (decide (v51 > 0)) default (getI x15.2.1 v51)).bind fun x53 =>
    cond (decide (v51 > 0) && x53.review)
      (laws_FnHistories_l1 x15 k45 (w64 (v51 - 1)))
      (some v51)
def laws_FnHistories_p (fuel : Nat) (code : List Int) (more : List Int) : Option Bool :=
  cond (decide ((w64 ((code.length : Int) + (more.length : Int))) > 1048576))
    (some true)
    ((spec_DrawHistoryText_p fuel code).bind fun x1 =>
    (impl_HistoryText_p fuel x1.1 x1.2).bind fun x3 =>
    (spec_HistoryText_p fuel x1.1 x1.2).bind fun x5 =>
    (impl_FinalState_p fuel x1.1 x1.2).bind fun x7 =>
    (spec_FinalState_p fuel x1.1 x1.2).bind fun x9 =>
    (impl_IsHistory_p fuel x1.1 x1.2).bind fun x11 =>
    (spec_IsHistory_p fuel x1.1 x1.2).bind fun x13 =>
    (spec_DrawTakeBack_p fuel more).bind fun x15 =>
    (impl_TakeBack_p fuel x15.1 x15.2.1 x15.2.2.1 x15.2.2.2).bind fun x17 =>
    (spec_TakeBack_p fuel x15.1 x15.2.1 x15.2.2.1 x15.2.2.2).bind fun x19 =>
    (spec_DrawParseHistory_p fuel more).bind fun x21 =>
    (impl_ParseHistory_p fuel x21.1 x21.2).bind fun x23 =>
    (spec_ParseHistory_p fuel x21.1 x21.2).bind fun x25 =>
    (opt (!(((!(x3.2 == x5.2)) || (!decide (x3.1 = x5.1))) || (!(x7.2 == x9.2)))) default (laws_qItems_p x7.1 x9.1)).bind fun x27 =>
    (opt (!(((((((!(x3.2 == x5.2)) || (!decide (x3.1 = x5.1))) || (!(x7.2 == x9.2))) || (!x27)) || (!(x11.2 == x13.2))) || (!(x11.1 == x13.1))) || (!(x17.2 == x19.2)))) default (laws_qChanges_p x17.1 x19.1)).bind fun x29 =>
    (opt (!(((((((((!(x3.2 == x5.2)) || (!decide (x3.1 = x5.1))) || (!(x7.2 == x9.2))) || (!x27)) || (!(x11.2 == x13.2))) || (!(x11.1 == x13.1))) || (!(x17.2 == x19.2))) || (!x29)) || (!(x23.2 == x25.2)))) default (laws_qChanges_p x23.1 x25.1)).bind fun x31 =>
    cond ((((((((((((!(x3.2 == x5.2)) || (!decide (x3.1 = x5.1))) || (!(x7.2 == x9.2))) || (!x27)) || (!(x11.2 == x13.2))) || (!(x11.1 == x13.1))) || (!(x17.2 == x19.2))) || (!x29)) || (!(x23.2 == x25.2))) || (!x31)) || (!(x7.2 == x3.2))) || (!(x3.2 == (x11.2 && x13.1))))
      (some false)
      (cond x17.2
        ((laws_FnHistories_l1 x15 fuel (w64 ((x15.2.1.length : Int) - 1))).bind fun v42 =>
        (sliceHi x15.2.1 v42).bind fun x55 =>
        (impl_FinalState_p fuel x15.1 x55).bind fun x57 =>
        (spec_FinalState_p fuel x15.1 x55).bind fun x59 =>
        (impl_FinalState_p fuel x15.1 x17.1).bind fun x61 =>
        (spec_FinalState_p fuel x15.1 x19.1).bind fun x63 =>
        (opt (!((!x57.2) || (!x59.2))) default (laws_qItems_p x57.1 x59.1)).bind fun x65 =>
        (opt (!(((((!x57.2) || (!x59.2)) || (!x65)) || (!x61.2)) || (!x63.2))) default (laws_qItems_p x61.1 x63.1)).bind fun x67 =>
        (opt (!(((((((!x57.2) || (!x59.2)) || (!x65)) || (!x61.2)) || (!x63.2)) || (!x67)) || ((x19.1.length : Int) != (w64 ((x15.2.1.length : Int) + 1))))) default (getI x15.2.1 v42)).bind fun x69 =>
        (opt (!(((((((!x57.2) || (!x59.2)) || (!x65)) || (!x61.2)) || (!x63.2)) || (!x67)) || ((x19.1.length : Int) != (w64 ((x15.2.1.length : Int) + 1))))) default (getI x59.1 x69.item)).bind fun x71 =>
        (opt (!(((((((!x57.2) || (!x59.2)) || (!x65)) || (!x61.2)) || (!x63.2)) || (!x67)) || ((x19.1.length : Int) != (w64 ((x15.2.1.length : Int) + 1))))) default (getI x71.marks x69.name)).bind fun x73 =>
        (opt (!(((((((!x57.2) || (!x59.2)) || (!x65)) || (!x61.2)) || (!x63.2)) || (!x67)) || ((x19.1.length : Int) != (w64 ((x15.2.1.length : Int) + 1))))) default (getI x63.1 x69.item)).bind fun x75 =>
        (opt (!(((((((!x57.2) || (!x59.2)) || (!x65)) || (!x61.2)) || (!x63.2)) || (!x67)) || ((x19.1.length : Int) != (w64 ((x15.2.1.length : Int) + 1))))) default (getI x75.marks x69.name)).bind fun x77 =>
        cond ((((((((!x57.2) || (!x59.2)) || (!x65)) || (!x61.2)) || (!x63.2)) || (!x67)) || ((x19.1.length : Int) != (w64 ((x15.2.1.length : Int) + 1)))) || (x73 != x77))
          (some false)
          (cond (!x3.2)
            (some true)
            ((impl_ParseHistory_p fuel x1.1 x3.1).bind fun x79 =>
            (impl_SameCalls_p fuel x1.1 x7.1).bind fun x81 =>
            (opt x79.2 default (laws_qChanges_p x79.1 x1.2)).bind fun x83 =>
            some (((x79.2 && x83) && x81.2) && x81.1))))
        (cond (!x3.2)
          (some true)
          ((impl_ParseHistory_p fuel x1.1 x3.1).bind fun x85 =>
          (impl_SameCalls_p fuel x1.1 x7.1).bind fun x87 =>
          (opt x85.2 default (laws_qChanges_p x85.1 x1.2)).bind fun x89 =>
          some (((x85.2 && x89) && x87.2) && x87.1)))))
theorem laws_FnHistories_ok (fuel : Nat) (code : List Int) (more : List Int) (r : Bool) (hH : laws_FnHistories_p fuel code more = some r) : SpecR Tryz.prog 3 [.s (List.map encInt_u8 code), .s (List.map encInt_u8 more)] (.v (.bool r)) := by
 refine fn_ok T Tryz.func3 rfl (by decide) rfl ?_
 refine AW.seq (AW.region ?_)
 refine AO.pu T ?_
 refine AO.nil ?_
 iterate 2 refine AW.seq ?_
 refine AW.region ?_
 refine AO.pu T ?_
 refine AO.val rfl rfl (len_map_ok T rfl rfl rfl) ?_
 refine AO.pu T ?_
 refine AO.val rfl rfl (len_map_ok T rfl rfl rfl) ?_
 refine AO.val rfl rfl (arw_ok rfl rfl rfl rfl) ?_
 refine AO.pu T ?_
 refine AO.nil ?_
 refine AW.cond (b := decide ((w64 ((code.length : Int) + (more.length : Int))) > 1048576)) rfl (fun hc => ?_) (fun hc => ?_)
 replace hH := condT hc hH
 refine AW.seq (AW.region ?_)
 refine AO.pu T ?_
 refine AO.nil (AW.ret ?_)
 have hR := someE hH; subst hR
 exact retQ.i [] rfl (.c (.c .v))
 replace hH := condF hc hH
 refine AW.skip ?_
 refine AW.seq ?_
 obtain ⟨x1, hx2, hH⟩ := bindE hH
 refine AW.region ?_
 refine AO.pu T ?_
 refine AO.step rfl (call_ok rfl 1 rfl rfl rfl (spec_DrawHistoryText_ok fuel _ _ (hx2)) rfl rfl rfl) ?_
 iterate 5 refine AO.pu T ?_
 refine AO.nil (AW.seq ?_)
 obtain ⟨x3, hx4, hH⟩ := bindE hH
 refine AW.region ?_
 iterate 2 refine AO.pu T ?_
 refine AO.val rfl rfl (callLV_ok rfl rfl rfl (es := [.s (List.map encItem x1.1), .s (List.map encChange x1.2)]) ⟨(.rowR rfl (.map fun y => .vs rfl)), (.rowR rfl (.map fun y => .vs rfl)), trivial⟩ (impl_HistoryText_ok fuel _ _ _ (hx4)) (zfree_t (zfl (.cons (zfree_v _) (.cons (zfree_v _) .nil)))) rfl) ?_
 iterate 5 refine AO.pu T ?_
 refine AO.nil (AW.seq ?_)
 obtain ⟨x5, hx6, hH⟩ := bindE hH
 refine AW.region ?_
 iterate 2 refine AO.pu T ?_
 refine AO.val rfl rfl (callLV_ok rfl rfl rfl (es := [.s (List.map encItem x1.1), .s (List.map encChange x1.2)]) ⟨(.rowR rfl (.map fun y => .vs rfl)), (.rowR rfl (.map fun y => .vs rfl)), trivial⟩ (spec_HistoryText_ok fuel _ _ _ (hx6)) (zfree_t (zfl (.cons (zfree_v _) (.cons (zfree_v _) .nil)))) rfl) ?_
 iterate 5 refine AO.pu T ?_
 refine AO.nil ?_
 refine AW.le (Le.ct 0 0 (σ' := (⟨[(1, .s (List.map encInt_u8 more)), (5, .R 1), (6, .R 2), (7, .v (.string x3.1)), (8, .v (.bool x3.2)), (9, .v (.string x5.1)), (10, .v (.bool x5.2))], [(1, .row 3 (List.map encItem x1.1)), (2, .row 6 (List.map encChange x1.2))], 335, []⟩ : St))) ?_
 refine AW.seq ?_
 obtain ⟨x7, hx8, hH⟩ := bindE hH
 refine AW.region ?_
 iterate 2 refine AO.pu T ?_
 refine AO.step rfl (callL_ok rfl 3 rfl rfl (es := [.s (List.map encItem x1.1), .s (List.map encChange x1.2)]) (by exact ⟨(.rowR rfl (.map fun y => .vs rfl)), (.rowR rfl (.map fun y => .vs rfl)), trivial⟩) (impl_FinalState_ok fuel _ _ _ (hx8)) (zfree_t (zfl (.cons (zfree_map (fun y => (.cons (zfree_map (fun y => (.cons (zfree_v _) .nil))) (.cons (zfree_map (fun y => (.cons (zfree_v _) .nil))) (.cons (zfree_v _) .nil))))) (.cons (zfree_v _) .nil)))) rfl rfl rfl) ?_
 iterate 5 refine AO.pu T ?_
 refine AO.nil (AW.seq ?_)
 obtain ⟨x9, hx10, hH⟩ := bindE hH
 refine AW.region ?_
 iterate 2 refine AO.pu T ?_
 refine AO.step rfl (callL_ok rfl 4 rfl rfl (es := [.s (List.map encItem x1.1), .s (List.map encChange x1.2)]) (by exact ⟨(.rowR rfl (.map fun y => .vs rfl)), (.rowR rfl (.map fun y => .vs rfl)), trivial⟩) (spec_FinalState_ok fuel _ _ _ (hx10)) (zfree_t (zfl (.cons (zfree_map (fun y => (.cons (zfree_map (fun y => (.cons (zfree_v _) .nil))) (.cons (zfree_map (fun y => (.cons (zfree_v _) .nil))) (.cons (zfree_v _) .nil))))) (.cons (zfree_v _) .nil)))) rfl rfl rfl) ?_
 iterate 5 refine AO.pu T ?_
 refine AO.nil (AW.seq ?_)
 obtain ⟨x11, hx12, hH⟩ := bindE hH
 refine AW.region ?_
 iterate 2 refine AO.pu T ?_
 refine AO.val rfl rfl (callLV_ok rfl rfl rfl (es := [.s (List.map encItem x1.1), .s (List.map encChange x1.2)]) ⟨(.rowR rfl (.map fun y => .vs rfl)), (.rowR rfl (.map fun y => .vs rfl)), trivial⟩ (impl_IsHistory_ok fuel _ _ _ (hx12)) (zfree_t (zfl (.cons (zfree_v _) (.cons (zfree_v _) .nil)))) rfl) ?_
 iterate 5 refine AO.pu T ?_
 refine AO.nil ?_
 refine AW.le (Le.ct 0 0 (σ' := (⟨[(1, .s (List.map encInt_u8 more)), (5, .R 1), (6, .R 2), (7, .v (.string x3.1)), (8, .v (.bool x3.2)), (9, .v (.string x5.1)), (10, .v (.bool x5.2)), (11, .R 3), (12, .v (.bool x7.2)), (13, .R 4), (14, .v (.bool x9.2)), (15, .v (.bool x11.1)), (16, .v (.bool x11.2))], [(1, .row 3 (List.map encItem x1.1)), (2, .row 6 (List.map encChange x1.2)), (3, .row 3 (List.map encItemO x7.1)), (4, .row 3 (List.map encItemO x9.1))], 335, []⟩ : St))) ?_
 refine AW.seq ?_
 obtain ⟨x13, hx14, hH⟩ := bindE hH
 refine AW.region ?_
 iterate 2 refine AO.pu T ?_
 refine AO.val rfl rfl (callLV_ok rfl rfl rfl (es := [.s (List.map encItem x1.1), .s (List.map encChange x1.2)]) ⟨(.rowR rfl (.map fun y => .vs rfl)), (.rowR rfl (.map fun y => .vs rfl)), trivial⟩ (spec_IsHistory_ok fuel _ _ _ (hx14)) (zfree_t (zfl (.cons (zfree_v _) (.cons (zfree_v _) .nil)))) rfl) ?_
 iterate 5 refine AO.pu T ?_
 refine AO.nil (AW.seq ?_)
 obtain ⟨x15, hx16, hH⟩ := bindE hH
 refine AW.region ?_
 refine AO.pu T ?_
 refine AO.step rfl (call_ok rfl 5 rfl rfl rfl (spec_DrawTakeBack_ok fuel _ _ (hx16)) rfl rfl rfl) ?_
 iterate 9 refine AO.pu T ?_
 refine AO.nil (AW.seq ?_)
 obtain ⟨x17, hx18, hH⟩ := bindE hH
 refine AW.region ?_
 iterate 4 refine AO.pu T ?_
 refine AO.step rfl (callL_ok rfl 7 rfl rfl (es := [.s (List.map encItem x15.1), .s (List.map encChange x15.2.1), x15.2.2.1, x15.2.2.2]) (by exact ⟨(.rowR rfl (.map fun y => .vs rfl)), (.rowR rfl (.map fun y => .vs rfl)), .free rfl, .free rfl, trivial⟩) (impl_TakeBack_ok fuel _ _ _ _ _ (hx18)) (zfree_t (zfl (.cons (zfree_map (fun y => (.cons (zfree_v _) (.cons (zfree_v _) (.cons (zfree_v _) (.cons (zfree_v _) (.cons (zfree_v _) (.cons (zfree_v _) .nil)))))))) (.cons (zfree_v _) .nil)))) rfl rfl rfl) ?_
 iterate 5 refine AO.pu T ?_
 refine AO.nil ?_
 refine AW.le (Le.ct 0 0 (σ' := (⟨[(1, .s (List.map encInt_u8 more)), (5, .R 1), (6, .R 2), (7, .v (.string x3.1)), (8, .v (.bool x3.2)), (9, .v (.string x5.1)), (10, .v (.bool x5.2)), (11, .R 3), (12, .v (.bool x7.2)), (13, .R 4), (14, .v (.bool x9.2)), (15, .v (.bool x11.1)), (16, .v (.bool x11.2)), (17, .v (.bool x13.1)), (18, .v (.bool x13.2)), (19, .R 5), (20, .R 6), (21, x15.2.2.1), (22, x15.2.2.2), (23, .R 7), (24, .v (.bool x17.2))], [(1, .row 3 (List.map encItem x1.1)), (2, .row 6 (List.map encChange x1.2)), (3, .row 3 (List.map encItemO x7.1)), (4, .row 3 (List.map encItemO x9.1)), (5, .row 3 (List.map encItem x15.1)), (6, .row 6 (List.map encChange x15.2.1)), (7, .row 6 (List.map encChange x17.1))], 335, []⟩ : St))) ?_
 refine AW.seq ?_
 obtain ⟨x19, hx20, hH⟩ := bindE hH
 refine AW.region ?_
 iterate 4 refine AO.pu T ?_
 refine AO.step rfl (callL_ok rfl 8 rfl rfl (es := [.s (List.map encItem x15.1), .s (List.map encChange x15.2.1), x15.2.2.1, x15.2.2.2]) (by exact ⟨(.rowR rfl (.map fun y => .vs rfl)), (.rowR rfl (.map fun y => .vs rfl)), .free rfl, .free rfl, trivial⟩) (spec_TakeBack_ok fuel _ _ _ _ _ (hx20)) (zfree_t (zfl (.cons (zfree_map (fun y => (.cons (zfree_v _) (.cons (zfree_v _) (.cons (zfree_v _) (.cons (zfree_v _) (.cons (zfree_v _) (.cons (zfree_v _) .nil)))))))) (.cons (zfree_v _) .nil)))) rfl rfl rfl) ?_
 iterate 5 refine AO.pu T ?_
 refine AO.nil (AW.seq ?_)
 obtain ⟨x21, hx22, hH⟩ := bindE hH
 refine AW.region ?_
 refine AO.pu T ?_
 refine AO.step rfl (call_ok rfl 9 rfl rfl rfl (spec_DrawParseHistory_ok fuel _ _ (hx22)) rfl rfl rfl) ?_
 iterate 5 refine AO.pu T ?_
 refine AO.nil (AW.seq ?_)
 obtain ⟨x23, hx24, hH⟩ := bindE hH
 refine AW.region ?_
 iterate 2 refine AO.pu T ?_
 refine AO.step rfl (callL_ok rfl 10 rfl rfl (es := [.s (List.map encItem x21.1), .v (.string x21.2)]) (by exact ⟨(.rowR rfl (.map fun y => .vs rfl)), .free rfl, trivial⟩) (impl_ParseHistory_ok fuel _ _ _ (hx24)) (zfree_t (zfl (.cons (zfree_map (fun y => (.cons (zfree_v _) (.cons (zfree_v _) (.cons (zfree_v _) (.cons (zfree_v _) (.cons (zfree_v _) (.cons (zfree_v _) .nil)))))))) (.cons (zfree_v _) .nil)))) rfl rfl rfl) ?_
 iterate 5 refine AO.pu T ?_
 refine AO.nil ?_
 refine AW.le (Le.ct 0 0 (σ' := (⟨[(5, .R 1), (6, .R 2), (7, .v (.string x3.1)), (8, .v (.bool x3.2)), (9, .v (.string x5.1)), (10, .v (.bool x5.2)), (11, .R 3), (12, .v (.bool x7.2)), (13, .R 4), (14, .v (.bool x9.2)), (15, .v (.bool x11.1)), (16, .v (.bool x11.2)), (17, .v (.bool x13.1)), (18, .v (.bool x13.2)), (19, .R 5), (20, .R 6), (23, .R 7), (24, .v (.bool x17.2)), (25, .R 8), (26, .v (.bool x19.2)), (27, .R 9), (28, .v (.string x21.2)), (29, .R 10), (30, .v (.bool x23.2))], [(1, .row 3 (List.map encItem x1.1)), (2, .row 6 (List.map encChange x1.2)), (3, .row 3 (List.map encItemO x7.1)), (4, .row 3 (List.map encItemO x9.1)), (5, .row 3 (List.map encItem x15.1)), (6, .row 6 (List.map encChange x15.2.1)), (7, .row 6 (List.map encChange x17.1)), (8, .row 6 (List.map encChange x19.1)), (9, .row 3 (List.map encItem x21.1)), (10, .row 6 (List.map encChange x23.1))], 335, []⟩ : St))) ?_
 refine AW.seq ?_
 obtain ⟨x25, hx26, hH⟩ := bindE hH
 refine AW.region ?_
 iterate 2 refine AO.pu T ?_
 refine AO.step rfl (callL_ok rfl 11 rfl rfl (es := [.s (List.map encItem x21.1), .v (.string x21.2)]) (by exact ⟨(.rowR rfl (.map fun y => .vs rfl)), .free rfl, trivial⟩) (spec_ParseHistory_ok fuel _ _ _ (hx26)) (zfree_t (zfl (.cons (zfree_map (fun y => (.cons (zfree_v _) (.cons (zfree_v _) (.cons (zfree_v _) (.cons (zfree_v _) (.cons (zfree_v _) (.cons (zfree_v _) .nil)))))))) (.cons (zfree_v _) .nil)))) rfl rfl rfl) ?_
 iterate 5 refine AO.pu T ?_
 refine AO.nil ?_
 iterate 2 refine AW.seq ?_
 obtain ⟨x27, hx28, hH⟩ := bindE hH
 obtain ⟨x29, hx30, hH⟩ := bindE hH
 obtain ⟨x31, hx32, hH⟩ := bindE hH
 refine AW.region ?_
 iterate 4 refine AO.pu T ?_
 iterate 2 refine AO.pureG T [] rfl trivial rfl rfl ?_
 refine AO.pureG T [137, 138] rfl ⟨fun h => h, fun h => h, trivial⟩ rfl rfl ?_
 refine AO.val rfl rfl (pick_or rfl rfl rfl rfl) ?_
 refine AO.pu T ?_
 iterate 2 refine AO.pureG T [] rfl trivial rfl rfl ?_
 refine AO.pureG T [142, 143] rfl ⟨fun h => h, fun h => h, trivial⟩ rfl rfl ?_
 refine AO.val rfl rfl (pick_or rfl rfl rfl rfl) ?_
 refine AO.pu T ?_
 iterate 2 refine AO.pureG T [] rfl trivial rfl rfl ?_
 refine AO.guard [147, 148] rfl ⟨fun h => h, fun h => h, trivial⟩ (fun hg => callLV_ok rfl rfl rfl (es := [.s (List.map encItem x7.1), .s (List.map encItem x9.1)]) ⟨(.rowR rfl (.map fun y => frzItem y)), (.rowR rfl (.map fun y => frzItem y)), trivial⟩ (laws_qItems_ok _ _ _ (optT hx28 hg)) (zfree_v _) rfl) rfl ?_
 refine AO.pureG T [149] rfl ⟨fun h => h, trivial⟩ rfl rfl ?_
 refine AO.val rfl rfl (pick_or rfl rfl rfl rfl) ?_
 refine AO.pu T ?_
 iterate 2 refine AO.pureG T [] rfl trivial rfl rfl ?_
 refine AO.pureG T [153, 154] rfl ⟨fun h => h, fun h => h, trivial⟩ rfl rfl ?_
 refine AO.val rfl rfl (pick_or rfl rfl rfl rfl) ?_
 refine AO.pu T ?_
 iterate 2 refine AO.pureG T [] rfl trivial rfl rfl ?_
 refine AO.pureG T [158, 159] rfl ⟨fun h => h, fun h => h, trivial⟩ rfl rfl ?_
 refine AO.val rfl rfl (pick_or rfl rfl rfl rfl) ?_
 refine AO.pu T ?_
 iterate 2 refine AO.pureG T [] rfl trivial rfl rfl ?_
 refine AO.pureG T [163, 164] rfl ⟨fun h => h, fun h => h, trivial⟩ rfl rfl ?_
 refine AO.val rfl rfl (pick_or rfl rfl rfl rfl) ?_
 refine AO.pu T ?_
 iterate 2 refine AO.pureG T [] rfl trivial rfl rfl ?_
 refine AO.guard [168, 169] rfl ⟨fun h => h, fun h => h, trivial⟩ (fun hg => callLV_ok rfl rfl rfl (es := [.s (List.map encChange x17.1), .s (List.map encChange x19.1)]) ⟨(.rowR rfl (.map fun y => .vs rfl)), (.rowR rfl (.map fun y => .vs rfl)), trivial⟩ (laws_qChanges_ok _ _ _ (optT hx30 hg)) (zfree_v _) rfl) rfl ?_
 refine AO.pureG T [170] rfl ⟨fun h => h, trivial⟩ rfl rfl ?_
 refine AO.val rfl rfl (pick_or rfl rfl rfl rfl) ?_
 refine AO.pu T ?_
 iterate 2 refine AO.pureG T [] rfl trivial rfl rfl ?_
 refine AO.pureG T [174, 175] rfl ⟨fun h => h, fun h => h, trivial⟩ rfl rfl ?_
 refine AO.val rfl rfl (pick_or rfl rfl rfl rfl) ?_
 refine AO.pu T ?_
 iterate 2 refine AO.pureG T [] rfl trivial rfl rfl ?_
 refine AO.guard [179, 180] rfl ⟨fun h => h, fun h => h, trivial⟩ (fun hg => callLV_ok rfl rfl rfl (es := [.s (List.map encChange x23.1), .s (List.map encChange x25.1)]) ⟨(.rowR rfl (.map fun y => .vs rfl)), (.rowR rfl (.map fun y => .vs rfl)), trivial⟩ (laws_qChanges_ok _ _ _ (optT hx32 hg)) (zfree_v _) rfl) rfl ?_
 refine AO.pureG T [181] rfl ⟨fun h => h, trivial⟩ rfl rfl ?_
 refine AO.val rfl rfl (pick_or rfl rfl rfl rfl) ?_
 refine AO.pu T ?_
 iterate 2 refine AO.pureG T [] rfl trivial rfl rfl ?_
 refine AO.pureG T [185, 186] rfl ⟨fun h => h, fun h => h, trivial⟩ rfl rfl ?_
 refine AO.val rfl rfl (pick_or rfl rfl rfl rfl) ?_
 refine AO.pu T ?_
 iterate 2 refine AO.pureG T [] rfl trivial rfl rfl ?_
 refine AO.pureG T [191] rfl ⟨fun h => h, trivial⟩ rfl rfl ?_
 refine AO.pureG T [] rfl trivial rfl rfl ?_
 refine AO.guard [192] rfl ⟨fun h => h, trivial⟩ (fun hg => pick_and rfl rfl rfl (by rw [hg]; exact Bool.true_and _)) rfl ?_
 refine AO.pureG T [190, 194] rfl ⟨fun h => h, fun h => h, trivial⟩ rfl rfl ?_
 refine AO.val rfl rfl (pick_or rfl rfl rfl rfl) ?_
 refine AO.nil ?_
 refine AW.le (Le.ct 0 0 (σ' := (⟨[(5, .R 1), (6, .R 2), (7, .v (.string x3.1)), (8, .v (.bool x3.2)), (11, .R 3), (19, .R 5), (20, .R 6), (23, .R 7), (24, .v (.bool x17.2)), (25, .R 8), (196, .v (.bool ((((((((((((!(x3.2 == x5.2)) || (!decide (x3.1 = x5.1))) || (!(x7.2 == x9.2))) || (!x27)) || (!(x11.2 == x13.2))) || (!(x11.1 == x13.1))) || (!(x17.2 == x19.2))) || (!x29)) || (!(x23.2 == x25.2))) || (!x31)) || (!(x7.2 == x3.2))) || (!(x3.2 == (x11.2 && x13.1))))))], [(1, .row 3 (List.map encItem x1.1)), (2, .row 6 (List.map encChange x1.2)), (3, .row 3 (List.map encItemO x7.1)), (5, .row 3 (List.map encItem x15.1)), (6, .row 6 (List.map encChange x15.2.1)), (7, .row 6 (List.map encChange x17.1)), (8, .row 6 (List.map encChange x19.1))], 335, []⟩ : St))) ?_
 refine AW.cond (b := ((((((((((((!(x3.2 == x5.2)) || (!decide (x3.1 = x5.1))) || (!(x7.2 == x9.2))) || (!x27)) || (!(x11.2 == x13.2))) || (!(x11.1 == x13.1))) || (!(x17.2 == x19.2))) || (!x29)) || (!(x23.2 == x25.2))) || (!x31)) || (!(x7.2 == x3.2))) || (!(x3.2 == (x11.2 && x13.1))))) rfl (fun hc => ?_) (fun hc => ?_)
 replace hH := condT hc hH
 refine AW.seq (AW.region ?_)
 refine AO.pu T ?_
 refine AO.nil (AW.ret ?_)
 have hR := someE hH; subst hR
 exact retQ.i [] rfl (.c (.c .v))
 replace hH := condF hc hH
 refine AW.skip ?_
 iterate 2 refine AW.seq ?_
 refine AW.region ?_
 refine AO.pu T ?_
 refine AO.nil ?_
 refine AW.cond (b := x17.2) rfl (fun hc => ?_) (fun hc => ?_)
 replace hH := condT hc hH
 refine AW.seq (AW.region ?_)
 refine AO.pu T ?_
 refine AO.val rfl rfl (len_row_ok T rfl rfl rfl rfl) ?_
 refine AO.val rfl rfl (arw_ok rfl rfl rfl rfl) ?_
 refine AO.pu T ?_
 refine AO.nil ?_
 obtain ⟨o43, hH, hK44⟩ := bindE hH
 refine AW.seqJ (fun s : Int => (⟨[(5, .R 1), (6, .R 2), (7, .v (.string x3.1)), (8, .v (.bool x3.2)), (11, .R 3), (19, .R 5), (20, .R 6), (23, .R 7), (25, .R 8), (33, s)], [(1, .row 3 (List.map encItem x1.1)), (2, .row 6 (List.map encChange x1.2)), (3, .row 3 (List.map encItemO x7.1)), (5, .row 3 (List.map encItem x15.1)), (6, .row 6 (List.map encChange x15.2.1)), (7, .row 6 (List.map encChange x17.1)), (8, .row 6 (List.map encChange x19.1))], 335, []⟩ : St)) (fun s => s = o43) ?_ ?_
 refine AW.block ?_
 refine AW.loopS (fun s : Nat × Int => (⟨[(5, .R 1), (6, .R 2), (7, .v (.string x3.1)), (8, .v (.bool x3.2)), (11, .R 3), (19, .R 5), (20, .R 6), (23, .R 7), (25, .R 8), (33, s.2)], [(1, .row 3 (List.map encItem x1.1)), (2, .row 6 (List.map encChange x1.2)), (3, .row 3 (List.map encItemO x7.1)), (5, .row 3 (List.map encItem x15.1)), (6, .row 6 (List.map encChange x15.2.1)), (7, .row 6 (List.map encChange x17.1)), (8, .row 6 (List.map encChange x19.1))], 335, []⟩ : St)) (fun s => laws_FnHistories_l1 x15 s.1 s.2 = some o43) (fun s => s.1) (fuel, w64 ((x15.2.1.length : Int) - 1)) hH ?_ ?_
 exact Le.ct 0 0
 rintro ⟨k45, v51⟩ hH
 replace hH : laws_FnHistories_l1 x15 k45 v51 = some o43 := hH
 try dsimp only
 rcases k45 with _ | k45
 cases (show none = some _ from hH)
 rw [laws_FnHistories_l1] at hH
 iterate 2 refine AW.seq ?_
 obtain ⟨x53, hx54, hH⟩ := bindE hH
 refine AW.region ?_
 iterate 3 refine AO.pu T ?_
 iterate 2 refine AO.pureG T [] rfl trivial rfl rfl ?_
 refine AO.guard [204, 205] rfl ⟨fun h => h, fun h => h, trivial⟩ (fun hg => ix_row_ok T rfl rfl rfl rfl rfl rfl (optT hx54 hg)) rfl ?_
 refine AO.pureG T [206] rfl ⟨fun h => h, trivial⟩ rfl rfl ?_
 refine AO.guard [207] rfl ⟨fun h => h, trivial⟩ (fun hg => load_row_ok T rfl rfl rfl rfl (getI_get (optT hx54 hg)) rfl rfl rfl) rfl ?_
 refine AO.val rfl rfl (pick_and rfl rfl rfl rfl) ?_
 refine AO.nil ?_
 refine AW.cond (b := (decide (v51 > 0) && x53.review)) rfl (fun hc => ?_) (fun hc => ?_)
 replace hH := condT hc hH
 refine AW.skip ?_
 refine AW.block ?_
 refine AW.region ?_
 refine AO.pu T ?_
 refine AO.val rfl rfl (arw_ok rfl rfl rfl rfl) ?_
 refine AO.pu T ?_
 refine AO.nil ?_
 refine ⟨(k45, w64 (v51 - 1)), hH, Nat.lt_succ_self _, ?_⟩
 exact Le.ct 0 0
 replace hH := condF hc hH
 refine AW.exit ?_
 refine ⟨_, someE hH, ?_⟩
 exact Le.ct 0 0
 rintro v42 hs
 subst hs
 replace hH := hK44
 try dsimp only [flow, flowE] at hH
 try dsimp only
 refine AW.seq ?_
 obtain ⟨x55, hx56, hH⟩ := bindE hH
 obtain ⟨x57, hx58, hH⟩ := bindE hH
 refine AW.le (Le.freezeM 6 (g := encChange) rfl (fun y => .vs rfl)) ?_
 refine AW.region ?_
 iterate 3 refine AO.pu T ?_
 refine AO.val rfl rfl (slice_hi_map_ok T rfl rfl rfl rfl rfl (hx56) (fun _ => rfl)) ?_
 refine AO.step rfl (callL_ok rfl 12 rfl rfl (es := [.s (List.map encItem x15.1), .s (List.map encChange x55)]) (by exact ⟨(.rowR rfl (.map fun y => .vs rfl)), .free rfl, trivial⟩) (impl_FinalState_ok fuel _ _ _ (hx58)) (zfree_t (zfl (.cons (zfree_map (fun y => (.cons (zfree_map (fun y => (.cons (zfree_v _) .nil))) (.cons (zfree_map (fun y => (.cons (zfree_v _) .nil))) (.cons (zfree_v _) .nil))))) (.cons (zfree_v _) .nil)))) rfl rfl rfl) ?_
 iterate 5 refine AO.pu T ?_
 refine AO.nil (AW.seq ?_)
 obtain ⟨x59, hx60, hH⟩ := bindE hH
 refine AW.region ?_
 iterate 3 refine AO.pu T ?_
 refine AO.val rfl rfl (slice_hi_map_ok T rfl rfl rfl rfl rfl (hx56) (fun _ => rfl)) ?_
 refine AO.step rfl (callL_ok rfl 13 rfl rfl (es := [.s (List.map encItem x15.1), .s (List.map encChange x55)]) (by exact ⟨(.rowR rfl (.map fun y => .vs rfl)), .free rfl, trivial⟩) (spec_FinalState_ok fuel _ _ _ (hx60)) (zfree_t (zfl (.cons (zfree_map (fun y => (.cons (zfree_map (fun y => (.cons (zfree_v _) .nil))) (.cons (zfree_map (fun y => (.cons (zfree_v _) .nil))) (.cons (zfree_v _) .nil))))) (.cons (zfree_v _) .nil)))) rfl rfl rfl) ?_
 iterate 5 refine AO.pu T ?_
 refine AO.nil (AW.seq ?_)
 obtain ⟨x61, hx62, hH⟩ := bindE hH
 refine AW.region ?_
 iterate 2 refine AO.pu T ?_
 refine AO.step rfl (callL_ok rfl 14 rfl rfl (es := [.s (List.map encItem x15.1), .s (List.map encChange x17.1)]) (by exact ⟨(.rowR rfl (.map fun y => .vs rfl)), (.rowR rfl (.map fun y => .vs rfl)), trivial⟩) (impl_FinalState_ok fuel _ _ _ (hx62)) (zfree_t (zfl (.cons (zfree_map (fun y => (.cons (zfree_map (fun y => (.cons (zfree_v _) .nil))) (.cons (zfree_map (fun y => (.cons (zfree_v _) .nil))) (.cons (zfree_v _) .nil))))) (.cons (zfree_v _) .nil)))) rfl rfl rfl) ?_
 iterate 5 refine AO.pu T ?_
 refine AO.nil ?_
 refine AW.le (Le.ct 0 0 (σ' := (⟨[(5, .R 1), (6, .R 2), (7, .v (.string x3.1)), (8, .v (.bool x3.2)), (11, .R 3), (19, .R 5), (20, .s (List.map encChange x15.2.1)), (25, .R 8), (33, v42), (34, .R 12), (35, .v (.bool x57.2)), (36, .R 13), (37, .v (.bool x59.2)), (38, .R 14), (39, .v (.bool x61.2))], [(1, .row 3 (List.map encItem x1.1)), (2, .row 6 (List.map encChange x1.2)), (3, .row 3 (List.map encItemO x7.1)), (5, .row 3 (List.map encItem x15.1)), (8, .row 6 (List.map encChange x19.1)), (12, .row 3 (List.map encItemO x57.1)), (13, .row 3 (List.map encItemO x59.1)), (14, .row 3 (List.map encItemO x61.1))], 335, []⟩ : St))) ?_
 refine AW.seq ?_
 obtain ⟨x63, hx64, hH⟩ := bindE hH
 refine AW.region ?_
 iterate 2 refine AO.pu T ?_
 refine AO.step rfl (callL_ok rfl 15 rfl rfl (es := [.s (List.map encItem x15.1), .s (List.map encChange x19.1)]) (by exact ⟨(.rowR rfl (.map fun y => .vs rfl)), (.rowR rfl (.map fun y => .vs rfl)), trivial⟩) (spec_FinalState_ok fuel _ _ _ (hx64)) (zfree_t (zfl (.cons (zfree_map (fun y => (.cons (zfree_map (fun y => (.cons (zfree_v _) .nil))) (.cons (zfree_map (fun y => (.cons (zfree_v _) .nil))) (.cons (zfree_v _) .nil))))) (.cons (zfree_v _) .nil)))) rfl rfl rfl) ?_
 iterate 5 refine AO.pu T ?_
 refine AO.nil (AW.seq ?_)
 obtain ⟨x65, hx66, hH⟩ := bindE hH
 obtain ⟨x67, hx68, hH⟩ := bindE hH
 obtain ⟨x69, hx70, hH⟩ := bindE hH
 obtain ⟨x71, hx72, hH⟩ := bindE hH
 obtain ⟨x73, hx74, hH⟩ := bindE hH
 obtain ⟨x75, hx76, hH⟩ := bindE hH
 obtain ⟨x77, hx78, hH⟩ := bindE hH
 refine AW.le (Le.freezeM 13 (g := encItem) rfl (fun y => frzItem y)) ?_
 refine AW.le (Le.freezeM 15 (g := encItem) rfl (fun y => frzItem y)) ?_
 refine AW.drawn 67 16 [] mix (by kernel_rfl) rfl ?_
 iterate 3 refine AD.pure T rfl rfl rfl ?_
 refine AD.pureG T [] rfl trivial rfl rfl ?_
 refine AD.pureG T [243] rfl ⟨fun h => h, trivial⟩ rfl rfl ?_
 refine AD.val rfl rfl (pick_or rfl rfl rfl rfl) ?_
 refine AD.pure T rfl rfl rfl ?_
 iterate 2 refine AD.pureG T [] rfl trivial rfl rfl ?_
 refine AD.guard [247, 248] rfl ⟨fun h => h, fun h => h, trivial⟩ (fun hg => callLV_ok rfl rfl rfl (es := [.s (List.map encItem x57.1), .s (List.map encItem x59.1)]) ⟨(.rowR rfl (.map fun y => frzItem y)), .free rfl, trivial⟩ (laws_qItems_ok _ _ _ (optT hx66 hg)) (zfree_v _) rfl) rfl ?_
 refine AD.pureG T [249] rfl ⟨fun h => h, trivial⟩ rfl rfl ?_
 refine AD.val rfl rfl (pick_or rfl rfl rfl rfl) ?_
 refine AD.pure T rfl rfl rfl ?_
 refine AD.pureG T [] rfl trivial rfl rfl ?_
 refine AD.pureG T [253] rfl ⟨fun h => h, trivial⟩ rfl rfl ?_
 refine AD.val rfl rfl (pick_or rfl rfl rfl rfl) ?_
 refine AD.pure T rfl rfl rfl ?_
 refine AD.pureG T [] rfl trivial rfl rfl ?_
 refine AD.pureG T [257] rfl ⟨fun h => h, trivial⟩ rfl rfl ?_
 refine AD.val rfl rfl (pick_or rfl rfl rfl rfl) ?_
 refine AD.pure T rfl rfl rfl ?_
 iterate 2 refine AD.pureG T [] rfl trivial rfl rfl ?_
 refine AD.guard [261, 262] rfl ⟨fun h => h, fun h => h, trivial⟩ (fun hg => callLV_ok rfl rfl rfl (es := [.s (List.map encItem x61.1), .s (List.map encItem x63.1)]) ⟨(.rowR rfl (.map fun y => frzItem y)), .free rfl, trivial⟩ (laws_qItems_ok _ _ _ (optT hx68 hg)) (zfree_v _) rfl) rfl ?_
 refine AD.pureG T [263] rfl ⟨fun h => h, trivial⟩ rfl rfl ?_
 refine AD.val rfl rfl (pick_or rfl rfl rfl rfl) ?_
 refine AD.pure T rfl rfl rfl ?_
 refine AD.pureG T [] rfl trivial rfl rfl ?_
 refine AD.guard [267] rfl ⟨fun h => h, trivial⟩ (fun hg => len_row_ok T rfl rfl rfl rfl) rfl ?_
 refine AD.pureG T [] rfl trivial rfl rfl ?_
 refine AD.guard [269] rfl ⟨fun h => h, trivial⟩ (fun hg => len_map_ok T rfl rfl rfl) rfl ?_
 refine AD.guard [270] rfl ⟨fun h => h, trivial⟩ (fun hg => arw_ok rfl rfl rfl rfl) rfl ?_
 refine AD.pureG T [268, 271] rfl ⟨fun h => h, fun h => h, trivial⟩ rfl rfl ?_
 refine AD.val rfl rfl (pick_or rfl rfl rfl rfl) ?_
 refine AD.pure T rfl rfl rfl ?_
 iterate 3 refine AD.pureG T [] rfl trivial rfl rfl ?_
 refine AD.guard [276, 277] rfl ⟨fun h => h, fun h => h, trivial⟩ (fun hg => ix_map_ok T rfl rfl rfl rfl rfl (optT hx70 hg) rfl) rfl ?_
 refine AD.pureG T [278] rfl ⟨fun h => h, trivial⟩ rfl rfl ?_
 refine AD.pureG T [279] rfl ⟨fun h => h, trivial⟩ rfl rfl ?_
 refine AD.guard [275, 280] rfl ⟨fun h => h, fun h => h, trivial⟩ (fun hg => ix_map_ok T rfl rfl rfl rfl rfl (optT hx72 hg) rfl) rfl ?_
 refine AD.pureG T [281] rfl ⟨fun h => h, trivial⟩ rfl rfl ?_
 refine AD.pureG T [282] rfl ⟨fun h => h, trivial⟩ rfl rfl ?_
 iterate 2 refine AD.pureG T [] rfl trivial rfl rfl ?_
 refine AD.guard [284, 285] rfl ⟨fun h => h, fun h => h, trivial⟩ (fun hg => ix_map_ok T rfl rfl rfl rfl rfl (optT hx70 hg) rfl) rfl ?_
 refine AD.pureG T [286] rfl ⟨fun h => h, trivial⟩ rfl rfl ?_
 refine AD.pureG T [287] rfl ⟨fun h => h, trivial⟩ rfl rfl ?_
 refine AD.guard [283, 288] rfl ⟨fun h => h, fun h => h, trivial⟩ (fun hg => ix_map_ok T rfl rfl rfl rfl rfl (optT hx74 hg) rfl) rfl ?_
 refine AD.pureG T [289] rfl ⟨fun h => h, trivial⟩ rfl rfl ?_
 iterate 3 refine AD.pureG T [] rfl trivial rfl rfl ?_
 refine AD.guard [292, 293] rfl ⟨fun h => h, fun h => h, trivial⟩ (fun hg => ix_map_ok T rfl rfl rfl rfl rfl (optT hx70 hg) rfl) rfl ?_
 refine AD.pureG T [294] rfl ⟨fun h => h, trivial⟩ rfl rfl ?_
 refine AD.pureG T [295] rfl ⟨fun h => h, trivial⟩ rfl rfl ?_
 refine AD.guard [291, 296] rfl ⟨fun h => h, fun h => h, trivial⟩ (fun hg => ix_map_ok T rfl rfl rfl rfl rfl (optT hx76 hg) rfl) rfl ?_
 refine AD.pureG T [297] rfl ⟨fun h => h, trivial⟩ rfl rfl ?_
 refine AD.pureG T [298] rfl ⟨fun h => h, trivial⟩ rfl rfl ?_
 iterate 2 refine AD.pureG T [] rfl trivial rfl rfl ?_
 refine AD.guard [300, 301] rfl ⟨fun h => h, fun h => h, trivial⟩ (fun hg => ix_map_ok T rfl rfl rfl rfl rfl (optT hx70 hg) rfl) rfl ?_
 refine AD.pureG T [302] rfl ⟨fun h => h, trivial⟩ rfl rfl ?_
 refine AD.pureG T [303] rfl ⟨fun h => h, trivial⟩ rfl rfl ?_
 refine AD.guard [299, 304] rfl ⟨fun h => h, fun h => h, trivial⟩ (fun hg => ix_map_ok T rfl rfl rfl rfl rfl (optT hx78 hg) rfl) rfl ?_
 refine AD.pureG T [305] rfl ⟨fun h => h, trivial⟩ rfl rfl ?_
 refine AD.nil ?_
 refine AO.pureG T [290, 306] rfl ⟨fun h => h, fun h => h, trivial⟩ rfl rfl ?_
 refine AO.val rfl rfl (pick_or rfl rfl rfl rfl) ?_
 refine AO.nil ?_
 refine AW.le (Le.ct 0 0 (σ' := (⟨[(5, .R 1), (6, .R 2), (7, .v (.string x3.1)), (8, .v (.bool x3.2)), (11, .R 3), (308, .v (.bool ((((((((!x57.2) || (!x59.2)) || (!x65)) || (!x61.2)) || (!x63.2)) || (!x67)) || ((x19.1.length : Int) != (w64 ((x15.2.1.length : Int) + 1)))) || (x73 != x77))))], [(1, .row 3 (List.map encItem x1.1)), (2, .row 6 (List.map encChange x1.2)), (3, .row 3 (List.map encItemO x7.1))], 335, []⟩ : St))) ?_
 refine AW.cond (b := ((((((((!x57.2) || (!x59.2)) || (!x65)) || (!x61.2)) || (!x63.2)) || (!x67)) || ((x19.1.length : Int) != (w64 ((x15.2.1.length : Int) + 1)))) || (x73 != x77))) rfl (fun hc => ?_) (fun hc => ?_)
 replace hH := condT hc hH
 refine AW.seq (AW.region ?_)
 refine AO.pu T ?_
 refine AO.nil (AW.ret ?_)
 have hR := someE hH; subst hR
 exact retQ.i [] rfl (.c (.c .v))
 replace hH := condF hc hH
 refine AW.skip ?_
 iterate 2 refine AW.seq ?_
 refine AW.region ?_
 iterate 2 refine AO.pu T ?_
 refine AO.nil ?_
 refine AW.cond (b := (!x3.2)) rfl (fun hc => ?_) (fun hc => ?_)
 replace hH := condT hc hH
 refine AW.seq (AW.region ?_)
 refine AO.pu T ?_
 refine AO.nil (AW.ret ?_)
 have hR := someE hH; subst hR
 exact retQ.i [] rfl (.c (.c .v))
 replace hH := condF hc hH
 refine AW.skip ?_
 refine AW.seq ?_
 obtain ⟨x79, hx80, hH⟩ := bindE hH
 refine AW.region ?_
 iterate 2 refine AO.pu T ?_
 refine AO.step rfl (callL_ok rfl 16 rfl rfl (es := [.s (List.map encItem x1.1), .v (.string x3.1)]) (by exact ⟨(.rowR rfl (.map fun y => .vs rfl)), .free rfl, trivial⟩) (impl_ParseHistory_ok fuel _ _ _ (hx80)) (zfree_t (zfl (.cons (zfree_map (fun y => (.cons (zfree_v _) (.cons (zfree_v _) (.cons (zfree_v _) (.cons (zfree_v _) (.cons (zfree_v _) (.cons (zfree_v _) .nil)))))))) (.cons (zfree_v _) .nil)))) rfl rfl rfl) ?_
 iterate 5 refine AO.pu T ?_
 refine AO.nil (AW.seq ?_)
 obtain ⟨x81, hx82, hH⟩ := bindE hH
 refine AW.region ?_
 iterate 2 refine AO.pu T ?_
 refine AO.val rfl rfl (callLV_ok rfl rfl rfl (es := [.s (List.map encItem x1.1), .s (List.map encItem x7.1)]) ⟨(.rowR rfl (.map fun y => .vs rfl)), (.rowR rfl (.map fun y => frzItem y)), trivial⟩ (impl_SameCalls_ok fuel _ _ _ (hx82)) (zfree_t (zfl (.cons (zfree_v _) (.cons (zfree_v _) .nil)))) rfl) ?_
 iterate 5 refine AO.pu T ?_
 refine AO.nil (AW.seq ?_)
 obtain ⟨x83, hx84, hH⟩ := bindE hH
 refine AW.region ?_
 iterate 2 refine AO.pu T ?_
 iterate 2 refine AO.pureG T [] rfl trivial rfl rfl ?_
 refine AO.guard [325, 326] rfl ⟨fun h => h, fun h => h, trivial⟩ (fun hg => callLV_ok rfl rfl rfl (es := [.s (List.map encChange x79.1), .s (List.map encChange x1.2)]) ⟨(.rowR rfl (.map fun y => .vs rfl)), (.rowR rfl (.map fun y => .vs rfl)), trivial⟩ (laws_qChanges_ok _ _ _ (optT hx84 hg)) (zfree_v _) rfl) rfl ?_
 refine AO.val rfl rfl (pick_and rfl rfl rfl rfl) ?_
 refine AO.pu T ?_
 refine AO.pureG T [] rfl trivial rfl rfl ?_
 refine AO.val rfl rfl (pick_and rfl rfl rfl rfl) ?_
 refine AO.pu T ?_
 refine AO.pureG T [] rfl trivial rfl rfl ?_
 refine AO.val rfl rfl (pick_and rfl rfl rfl rfl) ?_
 refine AO.pu T ?_
 refine AO.nil ?_
 refine AW.le (Le.ct 0 0 (σ' := (⟨[(4, .v (.bool (((x79.2 && x83) && x81.2) && x81.1)))], [], 335, []⟩ : St))) ?_
 refine AW.ret ?_
 have hR := someE hH; subst hR
 exact retQ.i [] rfl (.c (.c .v))
 replace hH := condF hc hH
 refine AW.skip ?_
 iterate 2 refine AW.seq ?_
 refine AW.region ?_
 iterate 2 refine AO.pu T ?_
 refine AO.nil ?_
 refine AW.cond (b := (!x3.2)) rfl (fun hc => ?_) (fun hc => ?_)
 replace hH := condT hc hH
 refine AW.seq (AW.region ?_)
 refine AO.pu T ?_
 refine AO.nil (AW.ret ?_)
 have hR := someE hH; subst hR
 exact retQ.i [] rfl (.c (.c .v))
 replace hH := condF hc hH
 refine AW.skip ?_
 refine AW.seq ?_
 obtain ⟨x85, hx86, hH⟩ := bindE hH
 refine AW.region ?_
 iterate 2 refine AO.pu T ?_
 refine AO.step rfl (callL_ok rfl 17 rfl rfl (es := [.s (List.map encItem x1.1), .v (.string x3.1)]) (by exact ⟨(.rowR rfl (.map fun y => .vs rfl)), .free rfl, trivial⟩) (impl_ParseHistory_ok fuel _ _ _ (hx86)) (zfree_t (zfl (.cons (zfree_map (fun y => (.cons (zfree_v _) (.cons (zfree_v _) (.cons (zfree_v _) (.cons (zfree_v _) (.cons (zfree_v _) (.cons (zfree_v _) .nil)))))))) (.cons (zfree_v _) .nil)))) rfl rfl rfl) ?_
 iterate 5 refine AO.pu T ?_
 refine AO.nil (AW.seq ?_)
 obtain ⟨x87, hx88, hH⟩ := bindE hH
 refine AW.region ?_
 iterate 2 refine AO.pu T ?_
 refine AO.val rfl rfl (callLV_ok rfl rfl rfl (es := [.s (List.map encItem x1.1), .s (List.map encItem x7.1)]) ⟨(.rowR rfl (.map fun y => .vs rfl)), (.rowR rfl (.map fun y => frzItem y)), trivial⟩ (impl_SameCalls_ok fuel _ _ _ (hx88)) (zfree_t (zfl (.cons (zfree_v _) (.cons (zfree_v _) .nil)))) rfl) ?_
 iterate 5 refine AO.pu T ?_
 refine AO.nil (AW.seq ?_)
 obtain ⟨x89, hx90, hH⟩ := bindE hH
 refine AW.region ?_
 iterate 2 refine AO.pu T ?_
 iterate 2 refine AO.pureG T [] rfl trivial rfl rfl ?_
 refine AO.guard [325, 326] rfl ⟨fun h => h, fun h => h, trivial⟩ (fun hg => callLV_ok rfl rfl rfl (es := [.s (List.map encChange x85.1), .s (List.map encChange x1.2)]) ⟨(.rowR rfl (.map fun y => .vs rfl)), (.rowR rfl (.map fun y => .vs rfl)), trivial⟩ (laws_qChanges_ok _ _ _ (optT hx90 hg)) (zfree_v _) rfl) rfl ?_
 refine AO.val rfl rfl (pick_and rfl rfl rfl rfl) ?_
 refine AO.pu T ?_
 refine AO.pureG T [] rfl trivial rfl rfl ?_
 refine AO.val rfl rfl (pick_and rfl rfl rfl rfl) ?_
 refine AO.pu T ?_
 refine AO.pureG T [] rfl trivial rfl rfl ?_
 refine AO.val rfl rfl (pick_and rfl rfl rfl rfl) ?_
 refine AO.pu T ?_
 refine AO.nil ?_
 refine AW.le (Le.ct 0 0 (σ' := (⟨[(4, .v (.bool (((x85.2 && x89) && x87.2) && x87.1)))], [], 335, []⟩ : St))) ?_
 refine AW.ret ?_
 have hR := someE hH; subst hR
 exact retQ.i [] rfl (.c (.c .v))

end Go.Proofs.YtjbkbiofklgblaaGreatDoor

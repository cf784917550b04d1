/- The walk, part 2: what each function reached by the law FnExactNewEvent computes. No condition. -/
import Derived.Test.YtegfbpakicohhaaWalk1
set_option maxRecDepth 4000
set_option maxHeartbeats 1000000
set_option linter.unusedVariables false
set_option linter.unusedSimpArgs false
set_option linter.unusedSectionVars false

namespace Go.Proofs.Ytegfbpakicohhaa
open Go.AM

def laws_FnExactNewEvent_p (fuel : Nat) (aSegments : Int) (aSize : Int) (aKey : Int) : Option Bool :=
  (spec_NewEvent_p fuel aSegments aSize aKey).bind fun x1 =>
  (impl_NewEvent_p aSegments aSize aKey).bind fun x3 =>
  (laws_eqEvent_p (Event.mk x3.1.segments x3.1.size x3.1.key x3.1.entrants x3.1.gone x3.1.segment x3.1.order x3.1.results) (Event.mk x1.1.segments x1.1.size x1.1.key x1.1.entrants x1.1.gone x1.1.segment x1.1.order x1.1.results)).bind fun x5 =>
  cond ((!x5) || (!(x3.2 == x1.2)))
    (some false)
    ((laws_markEvent_p fuel (Event.mk x3.1.segments x3.1.size x3.1.key x3.1.entrants x3.1.gone x3.1.segment x3.1.order x3.1.results) 1).bind fun x7 =>
    (laws_heldEvent_p (Event.mk x3.1.segments x3.1.size x3.1.key x7.1.entrants x7.1.gone x3.1.segment x7.1.order x7.1.results) 1).bind fun x9 =>
    cond (decide (x9 < 0))
      (some false)
      (cond (x9 != x7.2)
        (some false)
        (cond ((!x5) || (!(x3.2 == x1.2)))
          (some false)
          (cond (decide (x9 < 0))
            (some false)
            (cond (x9 != x7.2)
              (some false)
              (some true))))))
theorem laws_FnExactNewEvent_ok (fuel : Nat) (aSegments : Int) (aSize : Int) (aKey : Int) (r : Bool) (hH : laws_FnExactNewEvent_p fuel aSegments aSize aKey = some r) : SpecR Try.prog 3 [.v (.int .i64 aSegments), .v (.int .i64 aSize), .v (.int .i64 aKey)] (.v (.bool r)) := by
  refine fn_ok T Try.func3 rfl (by decide) rfl ?_
  refine AW.seq ?_
  refine AW.region ?_
  refine AO.pure T rfl rfl rfl ?_
  refine AO.nil ?_
  refine AW.seq ?_
  obtain ⟨x1, hx2, hH⟩ := bindE hH
  refine AW.region ?_
  refine AO.pure T rfl rfl rfl ?_
  refine AO.pure T rfl rfl rfl ?_
  refine AO.pure T rfl rfl rfl ?_
  refine AO.step rfl (call_ok rfl 1 rfl rfl rfl (spec_NewEvent_ok fuel _ _ _ _ (hx2)) rfl rfl rfl) ?_
  refine AO.pure T rfl rfl rfl ?_
  refine AO.pure T (d := .g [.v (.int .i64 x1.1.segments), .v (.int .i64 x1.1.size), .v (.int .i64 x1.1.key), .R 1, .R 2, .v (.int .i64 x1.1.segment), .R 3, .R 4]) rfl rfl rfl ?_
  refine AO.pure T rfl rfl rfl ?_
  refine AO.step rfl (alloc_ok T rfl 5 rfl rfl rfl rfl rfl) ?_
  refine AO.step rfl (store_okE T rfl rfl rfl rfl rfl rfl rfl rfl rfl (ds' := [.v (.int .i64 x1.1.segments), .v (.int .i64 x1.1.size), .v (.int .i64 x1.1.key), .R 1, .R 2, .v (.int .i64 x1.1.segment), .R 3, .R 4]) rfl) ?_
  refine AO.pure T rfl rfl rfl ?_
  refine AO.nil ?_
  refine AW.seq ?_
  obtain ⟨x3, hx4, hH⟩ := bindE hH
  refine AW.region ?_
  refine AO.pure T rfl rfl rfl ?_
  refine AO.pure T rfl rfl rfl ?_
  refine AO.pure T rfl rfl rfl ?_
  refine AO.step rfl (call_ok rfl 6 rfl rfl rfl (impl_NewEvent_ok _ _ _ _ (hx4)) rfl rfl rfl) ?_
  refine AO.pure T rfl rfl rfl ?_
  refine AO.pure T (d := .g [.v (.int .i64 x3.1.segments), .v (.int .i64 x3.1.size), .v (.int .i64 x3.1.key), .R 6, .R 7, .v (.int .i64 x3.1.segment), .R 8, .R 9]) rfl rfl rfl ?_
  refine AO.pure T rfl rfl rfl ?_
  refine AO.step rfl (alloc_ok T rfl 10 rfl rfl rfl rfl rfl) ?_
  refine AO.step rfl (store_okE T rfl rfl rfl rfl rfl rfl rfl rfl rfl (ds' := [.v (.int .i64 x3.1.segments), .v (.int .i64 x3.1.size), .v (.int .i64 x3.1.key), .R 6, .R 7, .v (.int .i64 x3.1.segment), .R 8, .R 9]) rfl) ?_
  refine AO.pure T rfl rfl rfl ?_
  refine AO.nil ?_
  refine AW.seq ?_
  refine AW.seq ?_
  obtain ⟨x5, hx6, hH⟩ := bindE hH
  refine AW.region ?_
  refine AO.pure T (d := .g [.v (.int .i64 x3.1.segments), .v (.int .i64 x3.1.size), .v (.int .i64 x3.1.key), .R 6, .R 7, .v (.int .i64 x3.1.segment), .R 8, .R 9]) rfl rfl rfl ?_
  refine AO.pure T (d := .g [.v (.int .i64 x1.1.segments), .v (.int .i64 x1.1.size), .v (.int .i64 x1.1.key), .R 1, .R 2, .v (.int .i64 x1.1.segment), .R 3, .R 4]) rfl rfl rfl ?_
  refine AO.val rfl rfl (callLV_ok rfl rfl rfl (es := [.g (encEvent (Event.mk x3.1.segments x3.1.size x3.1.key x3.1.entrants x3.1.gone x3.1.segment x3.1.order x3.1.results)), .g (encEvent (Event.mk x1.1.segments x1.1.size x1.1.key x1.1.entrants x1.1.gone x1.1.segment x1.1.order x1.1.results))]) ⟨lend_g (LendL.cons (.free rfl) (LendL.cons (.free rfl) (LendL.cons (.free rfl) (LendL.cons ((.rowR rfl (.map fun y => .vs rfl))) (LendL.cons ((.rowR rfl (.map fun y => .vs rfl))) (LendL.cons (.free rfl) (LendL.cons ((.rowR rfl (.map fun y => .vs rfl))) (LendL.cons ((.rowR rfl (.map fun y => frzResult y))) LendL.nil)))))))), lend_g (LendL.cons (.free rfl) (LendL.cons (.free rfl) (LendL.cons (.free rfl) (LendL.cons ((.rowR rfl (.map fun y => .vs rfl))) (LendL.cons ((.rowR rfl (.map fun y => .vs rfl))) (LendL.cons (.free rfl) (LendL.cons ((.rowR rfl (.map fun y => .vs rfl))) (LendL.cons ((.rowR rfl (.map fun y => .vs rfl))) LendL.nil)))))))), trivial⟩ (laws_eqEvent_ok _ _ _ (hx6)) (zfree_v _) rfl) ?_
  refine AO.pure T rfl rfl rfl ?_
  refine AO.pure T rfl rfl rfl ?_
  refine AO.pureG T [] rfl trivial rfl rfl ?_
  refine AO.pureG T [] rfl trivial rfl rfl ?_
  refine AO.pureG T [34, 35] rfl ⟨fun h => h, fun h => h, trivial⟩ rfl rfl ?_
  refine AO.val rfl rfl (pick_or rfl rfl rfl rfl) ?_
  refine AO.nil ?_
  refine AW.le (Le.cut 0 0 (σ' := (⟨[(0, .v (.int .i64 aSegments)), (1, .v (.int .i64 aSize)), (2, .v (.int .i64 aKey)), (7, .p 5 0), (8, .v (.bool x1.2)), (9, .p 10 0), (37, .v (.bool ((!x5) || (!(x3.2 == x1.2)))))], [(1, .row 2 (List.map encEntrant x1.1.entrants)), (2, .row 1 (List.map encInt x1.1.gone)), (3, .row 1 (List.map encInt x1.1.order)), (4, .row 2 (List.map encResult x1.1.results)), (5, .box [.v (.int .i64 x1.1.segments), .v (.int .i64 x1.1.size), .v (.int .i64 x1.1.key), .R 1, .R 2, .v (.int .i64 x1.1.segment), .R 3, .R 4]), (6, .row 2 (List.map encEntrant x3.1.entrants)), (7, .row 1 (List.map encInt x3.1.gone)), (8, .row 1 (List.map encInt x3.1.order)), (9, .row 2 (List.map encResultO x3.1.results)), (10, .box [.v (.int .i64 x3.1.segments), .v (.int .i64 x3.1.size), .v (.int .i64 x3.1.key), .R 6, .R 7, .v (.int .i64 x3.1.segment), .R 8, .R 9])], 73, []⟩ : St)) rfl (by repeat' (first | exact trivial | refine ⟨⟨_, rfl, rfl⟩, ?_⟩)) (by repeat' (first | exact trivial | refine ⟨⟨_, rfl, rfl⟩, ?_⟩)) rfl) ?_
  refine AW.cond (b := ((!x5) || (!(x3.2 == x1.2)))) rfl (fun hc => ?_) (fun hc => ?_)
  · replace hH := condT hc hH
    refine AW.seq ?_
    refine AW.region ?_
    refine AO.pure T rfl rfl rfl ?_
    refine AO.nil ?_
    refine AW.ret ?_
    cases someE hH
    exact ⟨trivial, _, [], rfl, .c (.c .v), by decide⟩
  · replace hH := condF hc hH
    refine AW.skip ?_
    refine AW.seq ?_
    refine AW.region ?_
    refine AO.pure T rfl rfl rfl ?_
    refine AO.nil ?_
    refine AW.seq ?_
    obtain ⟨x7, hx8, hH⟩ := bindE hH
    refine AW.region ?_
    refine AO.pure T (d := .g [.v (.int .i64 x3.1.segments), .v (.int .i64 x3.1.size), .v (.int .i64 x3.1.key), .R 6, .R 7, .v (.int .i64 x3.1.segment), .R 8, .R 9]) rfl rfl rfl ?_
    refine AO.pure T rfl rfl rfl ?_
    refine AO.step rfl (callM_ok rfl 11 rfl rfl (es := [.g (encEventO (Event.mk x3.1.segments x3.1.size x3.1.key x3.1.entrants x3.1.gone x3.1.segment x3.1.order x3.1.results)), .v (.int .i64 1)]) (outs := [.g [.u, .u, .u, .w 2 (x7.1.entrants.map encEntrant), .w 1 (x7.1.gone.map encInt), .u, .w 1 (x7.1.order.map encInt), .w 2 (x7.1.results.map encResultO)], .u]) (ids := [6, 7, 8, 9]) (by exact expLG_cons (.g (expLC_cons .v (expLC_cons .v (expLC_cons .v (expLC_cons (.rowR rfl) (expLC_cons (.rowR rfl) (expLC_cons .v (expLC_cons (.rowR rfl) (expLC_cons (.rowR rfl) (expLC_nil)))))))))) (expLG_cons (.c .v) (expLG_nil))) (by decide) (.inl (by rfl)) (by rfl) (laws_markEvent_ok fuel _ _ _ (hx8)) rfl (by rfl) rfl) ?_
    refine AO.pure T rfl rfl rfl ?_
    refine AO.nil ?_
    refine AW.seq ?_
    refine AW.region ?_
    refine AO.pure T rfl rfl rfl ?_
    refine AO.nil ?_
    refine AW.seq ?_
    obtain ⟨x9, hx10, hH⟩ := bindE hH
    refine AW.region ?_
    refine AO.pure T (d := .g [.v (.int .i64 x3.1.segments), .v (.int .i64 x3.1.size), .v (.int .i64 x3.1.key), .R 6, .R 7, .v (.int .i64 x3.1.segment), .R 8, .R 9]) rfl rfl rfl ?_
    refine AO.pure T rfl rfl rfl ?_
    refine AO.val rfl rfl (callLV_ok rfl rfl rfl (es := [.g (encEvent (Event.mk x3.1.segments x3.1.size x3.1.key x7.1.entrants x7.1.gone x3.1.segment x7.1.order x7.1.results)), .v (.int .i64 1)]) ⟨lend_g (LendL.cons (.free rfl) (LendL.cons (.free rfl) (LendL.cons (.free rfl) (LendL.cons ((.rowR rfl (.map fun y => .vs rfl))) (LendL.cons ((.rowR rfl (.map fun y => .vs rfl))) (LendL.cons (.free rfl) (LendL.cons ((.rowR rfl (.map fun y => .vs rfl))) (LendL.cons ((.rowR rfl (.map fun y => frzResult y))) LendL.nil)))))))), .free rfl, trivial⟩ (laws_heldEvent_ok _ _ _ (hx10)) (zfree_v _) rfl) ?_
    refine AO.pure T rfl rfl rfl ?_
    refine AO.nil ?_
    refine AW.seq ?_
    refine AW.seq ?_
    refine AW.region ?_
    refine AO.pure T rfl rfl rfl ?_
    refine AO.pure T rfl rfl rfl ?_
    refine AO.nil ?_
    refine AW.cond (b := decide (x9 < 0)) rfl (fun hc => ?_) (fun hc => ?_)
    · replace hH := condT hc hH
      refine AW.seq ?_
      refine AW.region ?_
      refine AO.pure T rfl rfl rfl ?_
      refine AO.nil ?_
      refine AW.ret ?_
      cases someE hH
      exact ⟨trivial, _, [], rfl, .c (.c .v), by decide⟩
    · replace hH := condF hc hH
      refine AW.skip ?_
      refine AW.seq ?_
      refine AW.seq ?_
      refine AW.region ?_
      refine AO.pure T rfl rfl rfl ?_
      refine AO.pure T rfl rfl rfl ?_
      refine AO.pure T rfl rfl rfl ?_
      refine AO.nil ?_
      refine AW.cond (b := (x9 != x7.2)) rfl (fun hc => ?_) (fun hc => ?_)
      · replace hH := condT hc hH
        refine AW.seq ?_
        refine AW.region ?_
        refine AO.pure T rfl rfl rfl ?_
        refine AO.nil ?_
        refine AW.ret ?_
        cases someE hH
        exact ⟨trivial, _, [], rfl, .c (.c .v), by decide⟩
      · replace hH := condF hc hH
        refine AW.skip ?_
        refine AW.seq ?_
        refine AW.region ?_
        refine AO.pure T rfl rfl rfl ?_
        refine AO.pure T rfl rfl rfl ?_
        refine AO.pure T rfl rfl rfl ?_
        refine AO.step rfl (call_ok rfl 11 rfl rfl rfl (impl_NewEvent_ok _ _ _ _ (hx4)) rfl rfl rfl) ?_
        refine AO.pure T rfl rfl rfl ?_
        refine AO.pure T (d := .g [.v (.int .i64 x3.1.segments), .v (.int .i64 x3.1.size), .v (.int .i64 x3.1.key), .R 11, .R 12, .v (.int .i64 x3.1.segment), .R 13, .R 14]) rfl rfl rfl ?_
        refine AO.pure T rfl rfl rfl ?_
        refine AO.step rfl (alloc_ok T rfl 15 rfl rfl rfl rfl rfl) ?_
        refine AO.step rfl (store_okE T rfl rfl rfl rfl rfl rfl rfl rfl rfl (ds' := [.v (.int .i64 x3.1.segments), .v (.int .i64 x3.1.size), .v (.int .i64 x3.1.key), .R 11, .R 12, .v (.int .i64 x3.1.segment), .R 13, .R 14]) rfl) ?_
        refine AO.pure T rfl rfl rfl ?_
        refine AO.nil ?_
        refine AW.le (Le.cut 0 0 (σ' := (⟨[(7, .p 5 0), (8, .v (.bool x1.2)), (9, .p 10 0), (11, .v (.int .i64 x7.2)), (13, .p 15 0), (14, .v (.bool x3.2))], [(1, .row 2 (List.map encEntrant x1.1.entrants)), (2, .row 1 (List.map encInt x1.1.gone)), (3, .row 1 (List.map encInt x1.1.order)), (4, .row 2 (List.map encResult x1.1.results)), (5, .box [.v (.int .i64 x1.1.segments), .v (.int .i64 x1.1.size), .v (.int .i64 x1.1.key), .R 1, .R 2, .v (.int .i64 x1.1.segment), .R 3, .R 4]), (6, .row 2 (List.map encEntrant x7.1.entrants)), (7, .row 1 (List.map encInt x7.1.gone)), (8, .row 1 (List.map encInt x7.1.order)), (9, .row 2 (List.map encResultO x7.1.results)), (10, .box [.v (.int .i64 x3.1.segments), .v (.int .i64 x3.1.size), .v (.int .i64 x3.1.key), .R 6, .R 7, .v (.int .i64 x3.1.segment), .R 8, .R 9]), (11, .row 2 (List.map encEntrant x3.1.entrants)), (12, .row 1 (List.map encInt x3.1.gone)), (13, .row 1 (List.map encInt x3.1.order)), (14, .row 2 (List.map encResultO x3.1.results)), (15, .box [.v (.int .i64 x3.1.segments), .v (.int .i64 x3.1.size), .v (.int .i64 x3.1.key), .R 11, .R 12, .v (.int .i64 x3.1.segment), .R 13, .R 14])], 73, []⟩ : St)) rfl (by repeat' (first | exact trivial | refine ⟨⟨_, rfl, rfl⟩, ?_⟩)) (by repeat' (first | exact trivial | refine ⟨⟨_, rfl, rfl⟩, ?_⟩)) rfl) ?_
        refine AW.seq ?_
        refine AW.seq ?_
        refine AW.region ?_
        refine AO.pure T (d := .g [.v (.int .i64 x3.1.segments), .v (.int .i64 x3.1.size), .v (.int .i64 x3.1.key), .R 11, .R 12, .v (.int .i64 x3.1.segment), .R 13, .R 14]) rfl rfl rfl ?_
        refine AO.pure T (d := .g [.v (.int .i64 x1.1.segments), .v (.int .i64 x1.1.size), .v (.int .i64 x1.1.key), .R 1, .R 2, .v (.int .i64 x1.1.segment), .R 3, .R 4]) rfl rfl rfl ?_
        refine AO.val rfl rfl (callLV_ok rfl rfl rfl (es := [.g (encEvent (Event.mk x3.1.segments x3.1.size x3.1.key x3.1.entrants x3.1.gone x3.1.segment x3.1.order x3.1.results)), .g (encEvent (Event.mk x1.1.segments x1.1.size x1.1.key x1.1.entrants x1.1.gone x1.1.segment x1.1.order x1.1.results))]) ⟨lend_g (LendL.cons (.free rfl) (LendL.cons (.free rfl) (LendL.cons (.free rfl) (LendL.cons ((.rowR rfl (.map fun y => .vs rfl))) (LendL.cons ((.rowR rfl (.map fun y => .vs rfl))) (LendL.cons (.free rfl) (LendL.cons ((.rowR rfl (.map fun y => .vs rfl))) (LendL.cons ((.rowR rfl (.map fun y => frzResult y))) LendL.nil)))))))), lend_g (LendL.cons (.free rfl) (LendL.cons (.free rfl) (LendL.cons (.free rfl) (LendL.cons ((.rowR rfl (.map fun y => .vs rfl))) (LendL.cons ((.rowR rfl (.map fun y => .vs rfl))) (LendL.cons (.free rfl) (LendL.cons ((.rowR rfl (.map fun y => .vs rfl))) (LendL.cons ((.rowR rfl (.map fun y => .vs rfl))) LendL.nil)))))))), trivial⟩ (laws_eqEvent_ok _ _ _ (hx6)) (zfree_v _) rfl) ?_
        refine AO.pure T rfl rfl rfl ?_
        refine AO.pure T rfl rfl rfl ?_
        refine AO.pureG T [] rfl trivial rfl rfl ?_
        refine AO.pureG T [] rfl trivial rfl rfl ?_
        refine AO.pureG T [61, 62] rfl ⟨fun h => h, fun h => h, trivial⟩ rfl rfl ?_
        refine AO.val rfl rfl (pick_or rfl rfl rfl rfl) ?_
        refine AO.nil ?_
        refine AW.cond (b := ((!x5) || (!(x3.2 == x1.2)))) rfl (fun hc => ?_) (fun hc => ?_)
        · replace hH := condT hc hH
          refine AW.seq ?_
          refine AW.region ?_
          refine AO.pure T rfl rfl rfl ?_
          refine AO.nil ?_
          refine AW.ret ?_
          cases someE hH
          exact ⟨trivial, _, [], rfl, .c (.c .v), by decide⟩
        · replace hH := condF hc hH
          refine AW.skip ?_
          refine AW.seq ?_
          refine AW.region ?_
          refine AO.pure T rfl rfl rfl ?_
          refine AO.nil ?_
          refine AW.seq ?_
          refine AW.region ?_
          refine AO.pure T (d := .g [.v (.int .i64 x3.1.segments), .v (.int .i64 x3.1.size), .v (.int .i64 x3.1.key), .R 6, .R 7, .v (.int .i64 x3.1.segment), .R 8, .R 9]) rfl rfl rfl ?_
          refine AO.pure T rfl rfl rfl ?_
          refine AO.val rfl rfl (callLV_ok rfl rfl rfl (es := [.g (encEvent (Event.mk x3.1.segments x3.1.size x3.1.key x7.1.entrants x7.1.gone x3.1.segment x7.1.order x7.1.results)), .v (.int .i64 1)]) ⟨lend_g (LendL.cons (.free rfl) (LendL.cons (.free rfl) (LendL.cons (.free rfl) (LendL.cons ((.rowR rfl (.map fun y => .vs rfl))) (LendL.cons ((.rowR rfl (.map fun y => .vs rfl))) (LendL.cons (.free rfl) (LendL.cons ((.rowR rfl (.map fun y => .vs rfl))) (LendL.cons ((.rowR rfl (.map fun y => frzResult y))) LendL.nil)))))))), .free rfl, trivial⟩ (laws_heldEvent_ok _ _ _ (hx10)) (zfree_v _) rfl) ?_
          refine AO.pure T rfl rfl rfl ?_
          refine AO.nil ?_
          refine AW.seq ?_
          refine AW.seq ?_
          refine AW.region ?_
          refine AO.pure T rfl rfl rfl ?_
          refine AO.pure T rfl rfl rfl ?_
          refine AO.nil ?_
          refine AW.cond (b := decide (x9 < 0)) rfl (fun hc => ?_) (fun hc => ?_)
          · replace hH := condT hc hH
            refine AW.seq ?_
            refine AW.region ?_
            refine AO.pure T rfl rfl rfl ?_
            refine AO.nil ?_
            refine AW.ret ?_
            cases someE hH
            exact ⟨trivial, _, [], rfl, .c (.c .v), by decide⟩
          · replace hH := condF hc hH
            refine AW.skip ?_
            refine AW.seq ?_
            refine AW.seq ?_
            refine AW.region ?_
            refine AO.pure T rfl rfl rfl ?_
            refine AO.pure T rfl rfl rfl ?_
            refine AO.pure T rfl rfl rfl ?_
            refine AO.nil ?_
            refine AW.cond (b := (x9 != x7.2)) rfl (fun hc => ?_) (fun hc => ?_)
            · replace hH := condT hc hH
              refine AW.seq ?_
              refine AW.region ?_
              refine AO.pure T rfl rfl rfl ?_
              refine AO.nil ?_
              refine AW.ret ?_
              cases someE hH
              exact ⟨trivial, _, [], rfl, .c (.c .v), by decide⟩
            · replace hH := condF hc hH
              refine AW.skip ?_
              refine AW.seq ?_
              refine AW.region ?_
              refine AO.pure T rfl rfl rfl ?_
              refine AO.nil ?_
              refine AW.ret ?_
              cases someE hH
              exact ⟨trivial, _, [], rfl, .c (.c .v), by decide⟩

end Go.Proofs.Ytegfbpakicohhaa

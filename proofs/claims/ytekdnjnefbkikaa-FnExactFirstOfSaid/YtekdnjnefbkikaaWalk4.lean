/- The walk, part 4: what each function reached by the law FnExactFirstOf computes. No condition. -/
import Derived.Test.YtekdnjnefbkikaaWalk3
set_option maxRecDepth 4000
set_option maxHeartbeats 1000000
set_option linter.unusedVariables false
set_option linter.unusedSimpArgs false
set_option linter.unusedSectionVars false

namespace Go.Proofs.Ytekdnjnefbkikaa
open Go.AM

def laws_FnExactFirstOf_p (fuel : Nat) (aW : World) (aN : Int) : Option Bool :=
  (laws_szWorld_p aW 1048576).bind fun x1 =>
  cond (decide (x1 < 0))
    (some true)
    ((laws_toWorld_p aW).bind fun x3 =>
    (spec_FirstOf_p fuel x3 aN).bind fun x5 =>
    (impl_FirstOf_p fuel x3 aN).bind fun x7 =>
    (laws_eqRankS_p x7.1 x5.1).bind fun x9 =>
    cond ((!x9) || (!(x7.2 == x5.2)))
      (some false)
      ((laws_eqWorld_p x3 x3).bind fun x11 =>
      cond (!x11)
        (some false)
        ((laws_markWorld_p fuel x3 1).bind fun x13 =>
        cond ((decide (x13.2 < 0) || (!x9)) || (!(x7.2 == x5.2)))
          (some false)
          ((laws_markRankS_p fuel x7.1 1).bind fun x15 =>
          (laws_heldRankS_p x15.1 1).bind fun x17 =>
          cond (decide (x17 < 0))
            (some false)
            (cond (x17 != x15.2)
              (some false)
              (cond ((!x9) || (!(x7.2 == x5.2)))
                (some false)
                (cond (decide (x17 < 0))
                  (some false)
                  (cond (x17 != x15.2)
                    (some false)
                    (some true)))))))))
theorem laws_FnExactFirstOf_ok (fuel : Nat) (aW : World) (aN : Int) (r : Bool) (hH : laws_FnExactFirstOf_p fuel aW aN = some r) : SpecR Try.prog 10 [.g (encWorld aW), .v (.int .i64 aN)] (.v (.bool r)) := by
  refine fn_ok T Try.func10 rfl (by decide) rfl ?_
  refine AW.seq ?_
  refine AW.region ?_
  refine AO.step rfl (box_ok T rfl 1 rfl rfl rfl rfl) ?_
  refine AO.pure T rfl rfl rfl ?_
  refine AO.nil ?_
  refine AW.seq ?_
  refine AW.region ?_
  refine AO.pure T rfl rfl rfl ?_
  refine AO.nil ?_
  refine AW.seq ?_
  obtain ⟨x1, hx2, hH⟩ := bindE hH
  refine AW.region ?_
  refine AO.pure T (d := .g [.s (List.map encSeason aW.seasons), .s (List.map encInt aW.weights)]) rfl rfl rfl ?_
  refine AO.pure T rfl rfl rfl ?_
  refine AO.val rfl rfl (callV_ok rfl rfl rfl rfl (laws_szWorld_ok _ _ _ (hx2)) rfl) ?_
  refine AO.pure T rfl rfl rfl ?_
  refine AO.nil ?_
  refine AW.seq ?_
  refine AW.seq ?_
  refine AW.region ?_
  refine AO.pure T rfl rfl rfl ?_
  refine AO.pure T rfl rfl rfl ?_
  refine AO.nil ?_
  refine AW.cond (b := decide (x1 < 0)) rfl (fun hc => ?_) (fun hc => ?_)
  · replace hH := condT hc hH
    refine AW.seq ?_
    refine AW.region ?_
    refine AO.pure T rfl rfl rfl ?_
    refine AO.nil ?_
    refine AW.ret ?_
    cases someE hH
    exact ⟨trivial, _, [], rfl, .c (.c .v), by decide⟩
  · replace hH := condF hc hH
    refine AW.skip ?_
    refine AW.seq ?_
    obtain ⟨x3, hx4, hH⟩ := bindE hH
    obtain ⟨x5, hx6, hH⟩ := bindE hH
    refine AW.region ?_
    refine AO.pure T (d := .g [.s (List.map encSeason aW.seasons), .s (List.map encInt aW.weights)]) rfl rfl rfl ?_
    refine AO.step rfl (call_ok rfl 2 rfl rfl rfl (laws_toWorld_ok _ _ (hx4)) rfl rfl rfl) ?_
    refine AO.pure T rfl rfl rfl ?_
    refine AO.step rfl (callL_ok rfl 4 rfl rfl (es := [.g (encWorld x3), .v (.int .i64 aN)]) (by exact ⟨lend_g (LendL.cons ((.rowR rfl (.map fun y => frzSeason y))) (LendL.cons ((.rowR rfl (.map fun y => .vs rfl))) LendL.nil)), .free rfl, trivial⟩) (spec_FirstOf_ok fuel _ _ _ (hx6)) (zfree_t (zfl (.cons (zfree_map (fun y => (.cons (zfree_v _) (.cons (zfree_v _) (.cons (zfree_v _) .nil))))) (.cons (zfree_v _) .nil)))) rfl rfl rfl) ?_
    refine AO.pure T rfl rfl rfl ?_
    refine AO.pure T rfl rfl rfl ?_
    refine AO.pure T rfl rfl rfl ?_
    refine AO.pure T rfl rfl rfl ?_
    refine AO.pure T rfl rfl rfl ?_
    refine AO.nil ?_
    refine AW.seq ?_
    refine AW.region ?_
    refine AO.pure T (d := .g [.s (List.map encSeason aW.seasons), .s (List.map encInt aW.weights)]) rfl rfl rfl ?_
    refine AO.step rfl (call_ok rfl 5 rfl rfl rfl (laws_toWorld_ok _ _ (hx4)) rfl rfl rfl) ?_
    refine AO.step rfl (alloc_ok T rfl 7 rfl rfl rfl rfl rfl) ?_
    refine AO.step rfl (store_okE T rfl rfl rfl rfl rfl rfl rfl rfl rfl (ds' := [.R 5, .R 6]) rfl) ?_
    refine AO.nil ?_
    refine AW.seq ?_
    obtain ⟨x7, hx8, hH⟩ := bindE hH
    refine AW.region ?_
    refine AO.pure T (d := .g [.R 5, .R 6]) rfl rfl rfl ?_
    refine AO.pure T rfl rfl rfl ?_
    refine AO.step rfl (callL_ok rfl 8 rfl rfl (es := [.g (encWorld x3), .v (.int .i64 aN)]) (by exact ⟨lend_g (LendL.cons ((.rowR rfl (.map fun y => frzSeason y))) (LendL.cons ((.rowR rfl (.map fun y => .vs rfl))) LendL.nil)), .free rfl, trivial⟩) (impl_FirstOf_ok fuel _ _ _ (hx8)) (zfree_t (zfl (.cons (zfree_map (fun y => (.cons (zfree_v _) (.cons (zfree_v _) (.cons (zfree_v _) .nil))))) (.cons (zfree_v _) .nil)))) rfl rfl rfl) ?_
    refine AO.pure T rfl rfl rfl ?_
    refine AO.pure T rfl rfl rfl ?_
    refine AO.pure T rfl rfl rfl ?_
    refine AO.pure T rfl rfl rfl ?_
    refine AO.pure T rfl rfl rfl ?_
    refine AO.nil ?_
    refine AW.le (Le.cut 0 0 (σ' := (⟨[(1, .v (.int .i64 aN)), (2, .p 1 0), (6, .R 4), (7, .v (.bool x5.2)), (8, .p 7 0), (9, .R 8), (10, .v (.bool x7.2))], [(1, .box [.s (List.map encSeason aW.seasons), .s (List.map encInt aW.weights)]), (4, .row 3 (List.map encRank x5.1)), (5, .row 2 (List.map encSeasonO x3.seasons)), (6, .row 1 (List.map encInt x3.weights)), (7, .box [.R 5, .R 6]), (8, .row 3 (List.map encRank x7.1))], 101, []⟩ : St)) rfl (by repeat' (first | exact trivial | refine ⟨⟨_, rfl, rfl⟩, ?_⟩)) (by repeat' (first | exact trivial | refine ⟨⟨_, rfl, rfl⟩, ?_⟩)) rfl) ?_
    refine AW.seq ?_
    refine AW.seq ?_
    obtain ⟨x9, hx10, hH⟩ := bindE hH
    refine AW.region ?_
    refine AO.pure T rfl rfl rfl ?_
    refine AO.pure T rfl rfl rfl ?_
    refine AO.val rfl rfl (callLV_ok rfl rfl rfl (es := [.s (List.map encRank x7.1), .s (List.map encRank x5.1)]) ⟨(.rowR rfl (.map fun y => .vs rfl)), (.rowR rfl (.map fun y => .vs rfl)), trivial⟩ (laws_eqRankS_ok _ _ _ (hx10)) (zfree_v _) rfl) ?_
    refine AO.pure T rfl rfl rfl ?_
    refine AO.pure T rfl rfl rfl ?_
    refine AO.pureG T [] rfl trivial rfl rfl ?_
    refine AO.pureG T [] rfl trivial rfl rfl ?_
    refine AO.pureG T [41, 42] rfl ⟨fun h => h, fun h => h, trivial⟩ rfl rfl ?_
    refine AO.val rfl rfl (pick_or rfl rfl rfl rfl) ?_
    refine AO.nil ?_
    refine AW.cond (b := ((!x9) || (!(x7.2 == x5.2)))) rfl (fun hc => ?_) (fun hc => ?_)
    · replace hH := condT hc hH
      refine AW.seq ?_
      refine AW.region ?_
      refine AO.pure T rfl rfl rfl ?_
      refine AO.nil ?_
      refine AW.ret ?_
      cases someE hH
      exact ⟨trivial, _, [], rfl, .c (.c .v), by decide⟩
    · replace hH := condF hc hH
      refine AW.skip ?_
      refine AW.seq ?_
      refine AW.seq ?_
      obtain ⟨x11, hx12, hH⟩ := bindE hH
      refine AW.drawn 3 9 [] mix (by kernel_rfl) rfl ?_
      refine AD.pure T (d := .g [.R 5, .R 6]) rfl rfl rfl ?_
      refine AD.pure T (d := .g [.s (List.map encSeason aW.seasons), .s (List.map encInt aW.weights)]) rfl rfl rfl ?_
      refine AD.q (FStep.call rfl rfl rfl rfl rfl (laws_toWorld_ok _ _ (hx4)) rfl rfl) (impT_names _ _) (impT_le _ _) rfl ?_
      refine AD.nil ?_
      refine AO.val rfl rfl (callLV_ok rfl rfl rfl (es := [.g (encWorld x3), .g (encWorld x3)]) ⟨lend_g (LendL.cons ((.rowR rfl (.map fun y => frzSeason y))) (LendL.cons ((.rowR rfl (.map fun y => .vs rfl))) LendL.nil)), lend_g (LendL.cons ((.rowR rfl (.map fun y => frzSeason y))) (LendL.cons ((.rowR rfl (.map fun y => .vs rfl))) LendL.nil)), trivial⟩ (laws_eqWorld_ok _ _ _ (hx12)) (zfree_v _) rfl) ?_
      refine AO.pure T rfl rfl rfl ?_
      refine AO.nil ?_
      refine AW.cond (b := (!x11)) rfl (fun hc => ?_) (fun hc => ?_)
      · replace hH := condT hc hH
        refine AW.seq ?_
        refine AW.region ?_
        refine AO.pure T rfl rfl rfl ?_
        refine AO.nil ?_
        refine AW.ret ?_
        cases someE hH
        exact ⟨trivial, _, [], rfl, .c (.c .v), by decide⟩
      · replace hH := condF hc hH
        refine AW.skip ?_
        refine AW.seq ?_
        refine AW.region ?_
        refine AO.pure T rfl rfl rfl ?_
        refine AO.nil ?_
        refine AW.seq ?_
        obtain ⟨x13, hx14, hH⟩ := bindE hH
        refine AW.region ?_
        refine AO.pure T (d := .g [.R 5, .R 6]) rfl rfl rfl ?_
        refine AO.pure T rfl rfl rfl ?_
        refine AO.step rfl (callM_ok rfl 11 rfl rfl (es := [.g (encWorldO x3), .v (.int .i64 1)]) (outs := [.g [.w 2 (x13.1.seasons.map encSeasonO), .w 1 (x13.1.weights.map encInt)], .u]) (ids := [5, 6]) (by exact expLG_cons (.g (expLC_cons (.rowR rfl) (expLC_cons (.rowR rfl) (expLC_nil)))) (expLG_cons (.c .v) (expLG_nil))) (by decide) (.inl (by rfl)) (by rfl) (laws_markWorld_ok fuel _ _ _ (hx14)) rfl (by rfl) rfl) ?_
        refine AO.pure T rfl rfl rfl ?_
        refine AO.nil ?_
        refine AW.seq ?_
        refine AW.seq ?_
        refine AW.region ?_
        refine AO.pure T rfl rfl rfl ?_
        refine AO.pure T rfl rfl rfl ?_
        refine AO.pure T rfl rfl rfl ?_
        refine AO.pureG T [] rfl trivial rfl rfl ?_
        refine AO.pureG T [] rfl trivial rfl rfl ?_
        refine AO.guard [56, 57] rfl ⟨fun h => h, fun h => h, trivial⟩ (fun hg => callLV_ok rfl rfl rfl (es := [.s (List.map encRank x7.1), .s (List.map encRank x5.1)]) ⟨(.rowR rfl (.map fun y => .vs rfl)), (.rowR rfl (.map fun y => .vs rfl)), trivial⟩ (laws_eqRankS_ok _ _ _ (hx10)) (zfree_v _) rfl) rfl ?_
        refine AO.pureG T [58] rfl ⟨fun h => h, trivial⟩ rfl rfl ?_
        refine AO.val rfl rfl (pick_or rfl rfl rfl rfl) ?_
        refine AO.pure T rfl rfl rfl ?_
        refine AO.pureG T [] rfl trivial rfl rfl ?_
        refine AO.pureG T [] rfl trivial rfl rfl ?_
        refine AO.pureG T [62, 63] rfl ⟨fun h => h, fun h => h, trivial⟩ rfl rfl ?_
        refine AO.val rfl rfl (pick_or rfl rfl rfl rfl) ?_
        refine AO.nil ?_
        refine AW.le (Le.cut 0 0 (σ' := (⟨[(1, .v (.int .i64 aN)), (2, .p 1 0), (6, .R 4), (7, .v (.bool x5.2)), (9, .R 8), (65, .v (.bool ((decide (x13.2 < 0) || (!x9)) || (!(x7.2 == x5.2)))))], [(1, .box [.s (List.map encSeason aW.seasons), .s (List.map encInt aW.weights)]), (4, .row 3 (List.map encRank x5.1)), (8, .row 3 (List.map encRank x7.1))], 101, []⟩ : St)) rfl (by repeat' (first | exact trivial | refine ⟨⟨_, rfl, rfl⟩, ?_⟩)) (by repeat' (first | exact trivial | refine ⟨⟨_, rfl, rfl⟩, ?_⟩)) rfl) ?_
        refine AW.cond (b := ((decide (x13.2 < 0) || (!x9)) || (!(x7.2 == x5.2)))) rfl (fun hc => ?_) (fun hc => ?_)
        · replace hH := condT hc hH
          refine AW.seq ?_
          refine AW.region ?_
          refine AO.pure T rfl rfl rfl ?_
          refine AO.nil ?_
          refine AW.ret ?_
          cases someE hH
          exact ⟨trivial, _, [], rfl, .c (.c .v), by decide⟩
        · replace hH := condF hc hH
          refine AW.skip ?_
          refine AW.seq ?_
          refine AW.region ?_
          refine AO.pure T rfl rfl rfl ?_
          refine AO.nil ?_
          refine AW.seq ?_
          obtain ⟨x15, hx16, hH⟩ := bindE hH
          refine AW.region ?_
          refine AO.pure T rfl rfl rfl ?_
          refine AO.pure T rfl rfl rfl ?_
          refine AO.step rfl (callM_ok rfl 11 rfl rfl (es := [.w 3 (x7.1.map encRank), .v (.int .i64 1)]) (outs := [.w 3 (x15.1.map encRank), .u]) (ids := [8]) (by exact expLG_cons (.c (.rowR rfl)) (expLG_cons (.c .v) (expLG_nil))) (by decide) (.inl (by rfl)) (by rfl) (laws_markRankS_ok fuel _ _ _ (hx16)) rfl (by rfl) rfl) ?_
          refine AO.pure T rfl rfl rfl ?_
          refine AO.nil ?_
          refine AW.seq ?_
          refine AW.region ?_
          refine AO.pure T rfl rfl rfl ?_
          refine AO.nil ?_
          refine AW.seq ?_
          obtain ⟨x17, hx18, hH⟩ := bindE hH
          refine AW.region ?_
          refine AO.pure T rfl rfl rfl ?_
          refine AO.pure T rfl rfl rfl ?_
          refine AO.val rfl rfl (callLV_ok rfl rfl rfl (es := [.s (List.map encRank x15.1), .v (.int .i64 1)]) ⟨(.rowR rfl (.map fun y => .vs rfl)), .free rfl, trivial⟩ (laws_heldRankS_ok _ _ _ (hx18)) (zfree_v _) rfl) ?_
          refine AO.pure T rfl rfl rfl ?_
          refine AO.nil ?_
          refine AW.seq ?_
          refine AW.seq ?_
          refine AW.region ?_
          refine AO.pure T rfl rfl rfl ?_
          refine AO.pure T rfl rfl rfl ?_
          refine AO.nil ?_
          refine AW.cond (b := decide (x17 < 0)) rfl (fun hc => ?_) (fun hc => ?_)
          · replace hH := condT hc hH
            refine AW.seq ?_
            refine AW.region ?_
            refine AO.pure T rfl rfl rfl ?_
            refine AO.nil ?_
            refine AW.ret ?_
            cases someE hH
            exact ⟨trivial, _, [], rfl, .c (.c .v), by decide⟩
          · replace hH := condF hc hH
            refine AW.skip ?_
            refine AW.seq ?_
            refine AW.seq ?_
            refine AW.region ?_
            refine AO.pure T rfl rfl rfl ?_
            refine AO.pure T rfl rfl rfl ?_
            refine AO.pure T rfl rfl rfl ?_
            refine AO.nil ?_
            refine AW.cond (b := (x17 != x15.2)) rfl (fun hc => ?_) (fun hc => ?_)
            · replace hH := condT hc hH
              refine AW.seq ?_
              refine AW.region ?_
              refine AO.pure T rfl rfl rfl ?_
              refine AO.nil ?_
              refine AW.ret ?_
              cases someE hH
              exact ⟨trivial, _, [], rfl, .c (.c .v), by decide⟩
            · replace hH := condF hc hH
              refine AW.skip ?_
              refine AW.seq ?_
              refine AW.region ?_
              refine AO.pure T (d := .g [.s (List.map encSeason aW.seasons), .s (List.map encInt aW.weights)]) rfl rfl rfl ?_
              refine AO.step rfl (call_ok rfl 11 rfl rfl rfl (laws_toWorld_ok _ _ (hx4)) rfl rfl rfl) ?_
              refine AO.pure T rfl rfl rfl ?_
              refine AO.step rfl (callL_ok rfl 13 rfl rfl (es := [.g (encWorld x3), .v (.int .i64 aN)]) (by exact ⟨lend_g (LendL.cons ((.rowR rfl (.map fun y => frzSeason y))) (LendL.cons ((.rowR rfl (.map fun y => .vs rfl))) LendL.nil)), .free rfl, trivial⟩) (impl_FirstOf_ok fuel _ _ _ (hx8)) (zfree_t (zfl (.cons (zfree_map (fun y => (.cons (zfree_v _) (.cons (zfree_v _) (.cons (zfree_v _) .nil))))) (.cons (zfree_v _) .nil)))) rfl rfl rfl) ?_
              refine AO.pure T rfl rfl rfl ?_
              refine AO.pure T rfl rfl rfl ?_
              refine AO.pure T rfl rfl rfl ?_
              refine AO.pure T rfl rfl rfl ?_
              refine AO.pure T rfl rfl rfl ?_
              refine AO.nil ?_
              refine AW.le (Le.cut 0 0 (σ' := (⟨[(6, .R 4), (7, .v (.bool x5.2)), (9, .R 8), (12, .v (.int .i64 x15.2)), (14, .R 13), (15, .v (.bool x7.2))], [(4, .row 3 (List.map encRank x5.1)), (8, .row 3 (List.map encRank x15.1)), (13, .row 3 (List.map encRank x7.1))], 101, []⟩ : St)) rfl (by repeat' (first | exact trivial | refine ⟨⟨_, rfl, rfl⟩, ?_⟩)) (by repeat' (first | exact trivial | refine ⟨⟨_, rfl, rfl⟩, ?_⟩)) rfl) ?_
              refine AW.seq ?_
              refine AW.seq ?_
              refine AW.region ?_
              refine AO.pure T rfl rfl rfl ?_
              refine AO.pure T rfl rfl rfl ?_
              refine AO.val rfl rfl (callLV_ok rfl rfl rfl (es := [.s (List.map encRank x7.1), .s (List.map encRank x5.1)]) ⟨(.rowR rfl (.map fun y => .vs rfl)), (.rowR rfl (.map fun y => .vs rfl)), trivial⟩ (laws_eqRankS_ok _ _ _ (hx10)) (zfree_v _) rfl) ?_
              refine AO.pure T rfl rfl rfl ?_
              refine AO.pure T rfl rfl rfl ?_
              refine AO.pureG T [] rfl trivial rfl rfl ?_
              refine AO.pureG T [] rfl trivial rfl rfl ?_
              refine AO.pureG T [89, 90] rfl ⟨fun h => h, fun h => h, trivial⟩ rfl rfl ?_
              refine AO.val rfl rfl (pick_or rfl rfl rfl rfl) ?_
              refine AO.nil ?_
              refine AW.cond (b := ((!x9) || (!(x7.2 == x5.2)))) rfl (fun hc => ?_) (fun hc => ?_)
              · replace hH := condT hc hH
                refine AW.seq ?_
                refine AW.region ?_
                refine AO.pure T rfl rfl rfl ?_
                refine AO.nil ?_
                refine AW.ret ?_
                cases someE hH
                exact ⟨trivial, _, [], rfl, .c (.c .v), by decide⟩
              · replace hH := condF hc hH
                refine AW.skip ?_
                refine AW.seq ?_
                refine AW.region ?_
                refine AO.pure T rfl rfl rfl ?_
                refine AO.nil ?_
                refine AW.seq ?_
                refine AW.region ?_
                refine AO.pure T rfl rfl rfl ?_
                refine AO.pure T rfl rfl rfl ?_
                refine AO.val rfl rfl (callLV_ok rfl rfl rfl (es := [.s (List.map encRank x15.1), .v (.int .i64 1)]) ⟨(.rowR rfl (.map fun y => .vs rfl)), .free rfl, trivial⟩ (laws_heldRankS_ok _ _ _ (hx18)) (zfree_v _) rfl) ?_
                refine AO.pure T rfl rfl rfl ?_
                refine AO.nil ?_
                refine AW.seq ?_
                refine AW.seq ?_
                refine AW.region ?_
                refine AO.pure T rfl rfl rfl ?_
                refine AO.pure T rfl rfl rfl ?_
                refine AO.nil ?_
                refine AW.cond (b := decide (x17 < 0)) rfl (fun hc => ?_) (fun hc => ?_)
                · replace hH := condT hc hH
                  refine AW.seq ?_
                  refine AW.region ?_
                  refine AO.pure T rfl rfl rfl ?_
                  refine AO.nil ?_
                  refine AW.ret ?_
                  cases someE hH
                  exact ⟨trivial, _, [], rfl, .c (.c .v), by decide⟩
                · replace hH := condF hc hH
                  refine AW.skip ?_
                  refine AW.seq ?_
                  refine AW.seq ?_
                  refine AW.region ?_
                  refine AO.pure T rfl rfl rfl ?_
                  refine AO.pure T rfl rfl rfl ?_
                  refine AO.pure T rfl rfl rfl ?_
                  refine AO.nil ?_
                  refine AW.cond (b := (x17 != x15.2)) rfl (fun hc => ?_) (fun hc => ?_)
                  · replace hH := condT hc hH
                    refine AW.seq ?_
                    refine AW.region ?_
                    refine AO.pure T rfl rfl rfl ?_
                    refine AO.nil ?_
                    refine AW.ret ?_
                    cases someE hH
                    exact ⟨trivial, _, [], rfl, .c (.c .v), by decide⟩
                  · replace hH := condF hc hH
                    refine AW.skip ?_
                    refine AW.seq ?_
                    refine AW.region ?_
                    refine AO.pure T rfl rfl rfl ?_
                    refine AO.nil ?_
                    refine AW.ret ?_
                    cases someE hH
                    exact ⟨trivial, _, [], rfl, .c (.c .v), by decide⟩

end Go.Proofs.Ytekdnjnefbkikaa

/- The walk, part 4: what each function reached by the law FnExactRankChanges computes. No condition. -/
import Derived.Test.YtekdnjnefbkikaaWalk3
set_option maxRecDepth 4000
set_option maxHeartbeats 1000000
set_option linter.unusedVariables false
set_option linter.unusedSimpArgs false
set_option linter.unusedSectionVars false

namespace Go.Proofs.Ytekdnjnefbkikaa
open Go.AM

def laws_heldIntSS_l1 : List (List Int) → Nat → Int → Option Int
  | [], k1, v12 =>
    some v12
  | y2 :: ys3, k1, v12 =>
    (laws_heldIntS_p y2 v12).bind fun x14 =>
    cond (decide (x14 < 0))
      (some (-1))
      (laws_heldIntSS_l1 ys3 (k1 + 1) x14)
def laws_heldIntSS_p (a : List (List Int)) (k : Int) : Option Int :=
  laws_heldIntSS_l1 a 0 k
theorem laws_heldIntSS_ok (a : List (List Int)) (k : Int) (r : Int) (hH : laws_heldIntSS_p a k = some r) : SpecR Try.prog 44 [.s (List.map encLInt a), .v (.int .i64 k)] (.v (.int .i64 r)) := by
  refine fn_ok T Try.func44 rfl (by decide) rfl ?_
  refine AW.seq ?_
  refine AW.region ?_
  refine AO.pure T rfl rfl rfl ?_
  refine AO.nil ?_
  refine AW.seq ?_
  refine AW.seq ?_
  refine AW.region ?_
  refine AO.pure T rfl rfl rfl ?_
  refine AO.nil ?_
  refine AW.block ?_
  refine AW.loopS (fun s : Nat × Int => (⟨[(0, .s (List.map encLInt a)), (1, .v (.int .i64 s.2)), (5, .v (.int .i64 (s.1 : Int)))], [], 21, []⟩ : St)) (fun s => s.1 ≤ a.length ∧ laws_heldIntSS_l1 (a.drop s.1) s.1 s.2 = some r) (fun s => a.length - s.1) (0, k) ⟨Nat.zero_le _, hH⟩ ?_ ?_
  · exact Le.cut 0 0 rfl (by repeat' (first | exact trivial | refine ⟨⟨_, rfl, rfl⟩, ?_⟩)) (by repeat' (first | exact trivial | refine ⟨⟨_, rfl, rfl⟩, ?_⟩)) rfl
  · rintro ⟨k1, v12⟩ ⟨hk, hH⟩
    replace hH : laws_heldIntSS_l1 (a.drop k1) k1 v12 = some r := hH
    show AW _ _ _ (⟨[(0, .s (List.map encLInt a)), (1, .v (.int .i64 v12)), (5, .v (.int .i64 (k1 : Int)))], [], 21, []⟩ : St)
    refine AW.boundM (t := 0) (l := a) rfl (fun hb5 => ?_)
    cases hd4 : a.drop k1 with
    | nil =>
      rw [hd4] at hH
      rw [laws_heldIntSS_l1] at hH
      have hlt6 := drop_ge hd4
      refine AW.seq ?_
      refine AW.seq ?_
      refine AW.region ?_
      refine AO.pure T rfl rfl rfl ?_
      refine AO.pure T rfl rfl rfl ?_
      refine AO.val rfl rfl (len_map_ok T rfl rfl rfl) ?_
      refine AO.pure T rfl rfl rfl ?_
      refine AO.nil ?_
      refine AW.condF' (b := decide ((k1 : Int) < (a.length : Int))) rfl (rngF hlt6) ?_
      refine AW.exit ?_
      refine AW.seq ?_
      refine AW.region ?_
      refine AO.pure T rfl rfl rfl ?_
      refine AO.pure T rfl rfl rfl ?_
      refine AO.nil ?_
      refine AW.ret ?_
      cases someE hH
      exact ⟨trivial, _, [], rfl, .c (.c .v), by decide⟩
    | cons y2 ys3 =>
      rw [hd4] at hH
      rw [laws_heldIntSS_l1] at hH
      have hlt6 := drop_lt hd4
      refine AW.seq ?_
      refine AW.seq ?_
      refine AW.region ?_
      refine AO.pure T rfl rfl rfl ?_
      refine AO.pure T rfl rfl rfl ?_
      refine AO.val rfl rfl (len_map_ok T rfl rfl rfl) ?_
      refine AO.pure T rfl rfl rfl ?_
      refine AO.nil ?_
      refine AW.condT' (b := decide ((k1 : Int) < (a.length : Int))) rfl (rngT hlt6) ?_
      refine AW.skip ?_
      refine AW.seq ?_
      refine AW.block ?_
      refine AW.seq ?_
      obtain ⟨x14, hx15, hH⟩ := bindE hH
      refine AW.region ?_
      refine AO.pure T rfl rfl rfl ?_
      refine AO.pure T rfl rfl rfl ?_
      refine AO.val rfl rfl (ix_map_ok T rfl rfl rfl rfl rfl (getI_drop hd4) rfl) ?_
      refine AO.pure T rfl rfl rfl ?_
      refine AO.pure T rfl rfl rfl ?_
      refine AO.val rfl rfl (callV_ok rfl rfl rfl rfl (laws_heldIntS_ok _ _ _ (hx15)) rfl) ?_
      refine AO.pure T rfl rfl rfl ?_
      refine AO.nil ?_
      refine AW.seq ?_
      refine AW.region ?_
      refine AO.pure T rfl rfl rfl ?_
      refine AO.pure T rfl rfl rfl ?_
      refine AO.nil ?_
      refine AW.cond (b := decide (x14 < 0)) rfl (fun hc => ?_) (fun hc => ?_)
      · replace hH := condT hc hH
        refine AW.seq ?_
        refine AW.region ?_
        refine AO.pure T rfl rfl rfl ?_
        refine AO.nil ?_
        refine AW.ret ?_
        cases someE hH
        exact ⟨trivial, _, [], rfl, .c (.c .v), by decide⟩
      · replace hH := condF hc hH
        refine AW.skip ?_
        refine AW.region ?_
        refine AO.pure T rfl rfl rfl ?_
        refine AO.val rfl rfl (ar_ok rfl rfl rfl rfl (inI_succ hlt6 hb5)) ?_
        refine AO.pure T rfl rfl rfl ?_
        refine AO.nil ?_
        refine ⟨(k1 + 1, x14), ⟨Nat.succ_le_of_lt hlt6, (by rw [drop_succ_of hd4]; exact hH)⟩, (by have := hlt6; dsimp only; omega), ?_⟩
        exact Le.cut 0 0 rfl (by repeat' (first | exact trivial | refine ⟨⟨_, rfl, rfl⟩, ?_⟩)) (by repeat' (first | exact trivial | refine ⟨⟨_, rfl, rfl⟩, ?_⟩)) rfl

def laws_FnExactRankChanges_p (fuel : Nat) (aA : World) (aB : World) : Option Bool :=
  (laws_szWorld_p aA 1048576).bind fun x1 =>
  cond (decide (x1 < 0))
    (some true)
    ((laws_szWorld_p aB x1).bind fun x3 =>
    cond (decide (x3 < 0))
      (some true)
      ((laws_toWorld_p aA).bind fun x5 =>
      (laws_toWorld_p aB).bind fun x7 =>
      (spec_RankChanges_p fuel x5 x7).bind fun x9 =>
      (impl_RankChanges_p fuel x5 x7).bind fun x11 =>
      (laws_eqIntSS_p x11.1 x9.1).bind fun x13 =>
      cond ((!x13) || (!(x11.2 == x9.2)))
        (some false)
        ((laws_eqWorld_p x5 x5).bind fun x15 =>
        cond (!x15)
          (some false)
          ((laws_eqWorld_p x7 x7).bind fun x17 =>
          cond (!x17)
            (some false)
            ((laws_markWorld_p fuel x5 1).bind fun x19 =>
            (laws_markWorld_p fuel x7 x19.2).bind fun x21 =>
            cond ((decide (x21.2 < 0) || (!x13)) || (!(x11.2 == x9.2)))
              (some false)
              ((laws_markIntSS_p fuel x11.1 1).bind fun x23 =>
              (laws_heldIntSS_p x23.1 1).bind fun x25 =>
              cond (decide (x25 < 0))
                (some false)
                (cond (x25 != x23.2)
                  (some false)
                  (cond ((!x13) || (!(x11.2 == x9.2)))
                    (some false)
                    (cond (decide (x25 < 0))
                      (some false)
                      (cond (x25 != x23.2)
                        (some false)
                        (some true)))))))))))
theorem laws_FnExactRankChanges_ok (fuel : Nat) (aA : World) (aB : World) (r : Bool) (hH : laws_FnExactRankChanges_p fuel aA aB = some r) : SpecR Try.prog 11 [.g (encWorld aA), .g (encWorld aB)] (.v (.bool r)) := by
  refine fn_ok T Try.func11 rfl (by decide) rfl ?_
  refine AW.seq ?_
  refine AW.region ?_
  refine AO.step rfl (box_ok T rfl 1 rfl rfl rfl rfl) ?_
  refine AO.step rfl (box_ok T rfl 2 rfl rfl rfl rfl) ?_
  refine AO.pure T rfl rfl rfl ?_
  refine AO.nil ?_
  refine AW.seq ?_
  refine AW.region ?_
  refine AO.pure T rfl rfl rfl ?_
  refine AO.nil ?_
  refine AW.seq ?_
  obtain ⟨x1, hx2, hH⟩ := bindE hH
  refine AW.region ?_
  refine AO.pure T (d := .g [.s (List.map encSeason aA.seasons), .s (List.map encInt aA.weights)]) rfl rfl rfl ?_
  refine AO.pure T rfl rfl rfl ?_
  refine AO.val rfl rfl (callV_ok rfl rfl rfl rfl (laws_szWorld_ok _ _ _ (hx2)) rfl) ?_
  refine AO.pure T rfl rfl rfl ?_
  refine AO.nil ?_
  refine AW.seq ?_
  refine AW.seq ?_
  refine AW.region ?_
  refine AO.pure T rfl rfl rfl ?_
  refine AO.pure T rfl rfl rfl ?_
  refine AO.nil ?_
  refine AW.cond (b := decide (x1 < 0)) rfl (fun hc => ?_) (fun hc => ?_)
  · replace hH := condT hc hH
    refine AW.seq ?_
    refine AW.region ?_
    refine AO.pure T rfl rfl rfl ?_
    refine AO.nil ?_
    refine AW.ret ?_
    cases someE hH
    exact ⟨trivial, _, [], rfl, .c (.c .v), by decide⟩
  · replace hH := condF hc hH
    refine AW.skip ?_
    refine AW.seq ?_
    obtain ⟨x3, hx4, hH⟩ := bindE hH
    refine AW.region ?_
    refine AO.pure T (d := .g [.s (List.map encSeason aB.seasons), .s (List.map encInt aB.weights)]) rfl rfl rfl ?_
    refine AO.pure T rfl rfl rfl ?_
    refine AO.val rfl rfl (callV_ok rfl rfl rfl rfl (laws_szWorld_ok _ _ _ (hx4)) rfl) ?_
    refine AO.pure T rfl rfl rfl ?_
    refine AO.nil ?_
    refine AW.seq ?_
    refine AW.seq ?_
    refine AW.region ?_
    refine AO.pure T rfl rfl rfl ?_
    refine AO.pure T rfl rfl rfl ?_
    refine AO.nil ?_
    refine AW.cond (b := decide (x3 < 0)) rfl (fun hc => ?_) (fun hc => ?_)
    · replace hH := condT hc hH
      refine AW.seq ?_
      refine AW.region ?_
      refine AO.pure T rfl rfl rfl ?_
      refine AO.nil ?_
      refine AW.ret ?_
      cases someE hH
      exact ⟨trivial, _, [], rfl, .c (.c .v), by decide⟩
    · replace hH := condF hc hH
      refine AW.skip ?_
      refine AW.seq ?_
      obtain ⟨x5, hx6, hH⟩ := bindE hH
      obtain ⟨x7, hx8, hH⟩ := bindE hH
      obtain ⟨x9, hx10, hH⟩ := bindE hH
      refine AW.drawn 9 3 [] mix (by kernel_rfl) rfl ?_
      refine AD.pure T (d := .g [.s (List.map encSeason aA.seasons), .s (List.map encInt aA.weights)]) rfl rfl rfl ?_
      refine AD.val rfl rfl (callF_ok rfl rfl rfl rfl (laws_toWorld_ok _ _ (hx6)) (.c (.g (frzWorld _)))) ?_
      refine AD.pure T (d := .g [.s (List.map encSeason aB.seasons), .s (List.map encInt aB.weights)]) rfl rfl rfl ?_
      refine AD.val rfl rfl (callF_ok rfl rfl rfl rfl (laws_toWorld_ok _ _ (hx8)) (.c (.g (frzWorld _)))) ?_
      refine AD.q (FStep.call rfl rfl rfl rfl rfl (spec_RankChanges_ok fuel _ _ _ (hx10)) rfl rfl) (impT_names _ _) (impT_le _ _) rfl ?_
      refine AD.pure T rfl rfl rfl ?_
      refine AD.pure T rfl rfl rfl ?_
      refine AD.pure T rfl rfl rfl ?_
      refine AD.pure T rfl rfl rfl ?_
      refine AD.nil ?_
      refine AO.pure T rfl rfl rfl ?_
      refine AO.nil ?_
      refine AW.le (Le.cut 0 0 (σ' := (⟨[(2, .p 1 0), (3, .p 2 0), (6, .R 3), (7, .v (.bool x9.2))], [(1, .box [.s (List.map encSeason aA.seasons), .s (List.map encInt aA.weights)]), (2, .box [.s (List.map encSeason aB.seasons), .s (List.map encInt aB.weights)]), (3, .row 1 (List.map encLInt x9.1))], 119, []⟩ : St)) rfl (by repeat' (first | exact trivial | refine ⟨⟨_, rfl, rfl⟩, ?_⟩)) (by repeat' (first | exact trivial | refine ⟨⟨_, rfl, rfl⟩, ?_⟩)) rfl) ?_
      refine AW.seq ?_
      refine AW.region ?_
      refine AO.pure T (d := .g [.s (List.map encSeason aA.seasons), .s (List.map encInt aA.weights)]) rfl rfl rfl ?_
      refine AO.step rfl (call_ok rfl 4 rfl rfl rfl (laws_toWorld_ok _ _ (hx6)) rfl rfl rfl) ?_
      refine AO.step rfl (alloc_ok T rfl 6 rfl rfl rfl rfl rfl) ?_
      refine AO.step rfl (store_okE T rfl rfl rfl rfl rfl rfl rfl rfl rfl (ds' := [.R 4, .R 5]) rfl) ?_
      refine AO.nil ?_
      refine AW.seq ?_
      refine AW.region ?_
      refine AO.pure T (d := .g [.s (List.map encSeason aB.seasons), .s (List.map encInt aB.weights)]) rfl rfl rfl ?_
      refine AO.step rfl (call_ok rfl 7 rfl rfl rfl (laws_toWorld_ok _ _ (hx8)) rfl rfl rfl) ?_
      refine AO.step rfl (alloc_ok T rfl 9 rfl rfl rfl rfl rfl) ?_
      refine AO.step rfl (store_okE T rfl rfl rfl rfl rfl rfl rfl rfl rfl (ds' := [.R 7, .R 8]) rfl) ?_
      refine AO.nil ?_
      refine AW.seq ?_
      obtain ⟨x11, hx12, hH⟩ := bindE hH
      refine AW.region ?_
      refine AO.pure T (d := .g [.R 4, .R 5]) rfl rfl rfl ?_
      refine AO.pure T (d := .g [.R 7, .R 8]) rfl rfl rfl ?_
      refine AO.step rfl (callL_ok rfl 10 rfl rfl (es := [.g (encWorld x5), .g (encWorld x7)]) (by exact ⟨lend_g (LendL.cons ((.rowR rfl (.map fun y => frzSeason y))) (LendL.cons ((.rowR rfl (.map fun y => .vs rfl))) LendL.nil)), lend_g (LendL.cons ((.rowR rfl (.map fun y => frzSeason y))) (LendL.cons ((.rowR rfl (.map fun y => .vs rfl))) LendL.nil)), trivial⟩) (impl_RankChanges_ok fuel _ _ _ (hx12)) (zfree_t (zfl (.cons (zfree_map (fun y => (.cons (zfree_map (fun y => (.cons (zfree_v _) .nil))) .nil))) (.cons (zfree_v _) .nil)))) rfl rfl rfl) ?_
      refine AO.pure T rfl rfl rfl ?_
      refine AO.pure T rfl rfl rfl ?_
      refine AO.pure T rfl rfl rfl ?_
      refine AO.pure T rfl rfl rfl ?_
      refine AO.pure T rfl rfl rfl ?_
      refine AO.nil ?_
      refine AW.seq ?_
      refine AW.seq ?_
      obtain ⟨x13, hx14, hH⟩ := bindE hH
      refine AW.region ?_
      refine AO.pure T rfl rfl rfl ?_
      refine AO.pure T rfl rfl rfl ?_
      refine AO.val rfl rfl (callLV_ok rfl rfl rfl (es := [.s (List.map encLInt x11.1), .s (List.map encLInt x9.1)]) ⟨(.rowR rfl (.map fun y => frzLInt y)), (.rowR rfl (.map fun y => .vs rfl)), trivial⟩ (laws_eqIntSS_ok _ _ _ (hx14)) (zfree_v _) rfl) ?_
      refine AO.pure T rfl rfl rfl ?_
      refine AO.pure T rfl rfl rfl ?_
      refine AO.pureG T [] rfl trivial rfl rfl ?_
      refine AO.pureG T [] rfl trivial rfl rfl ?_
      refine AO.pureG T [50, 51] rfl ⟨fun h => h, fun h => h, trivial⟩ rfl rfl ?_
      refine AO.val rfl rfl (pick_or rfl rfl rfl rfl) ?_
      refine AO.nil ?_
      refine AW.le (Le.cut 0 0 (σ' := (⟨[(2, .p 1 0), (3, .p 2 0), (6, .R 3), (7, .v (.bool x9.2)), (8, .p 6 0), (9, .p 9 0), (10, .R 10), (11, .v (.bool x11.2)), (53, .v (.bool ((!x13) || (!(x11.2 == x9.2)))))], [(1, .box [.s (List.map encSeason aA.seasons), .s (List.map encInt aA.weights)]), (2, .box [.s (List.map encSeason aB.seasons), .s (List.map encInt aB.weights)]), (3, .row 1 (List.map encLInt x9.1)), (4, .row 2 (List.map encSeasonO x5.seasons)), (5, .row 1 (List.map encInt x5.weights)), (6, .box [.R 4, .R 5]), (7, .row 2 (List.map encSeasonO x7.seasons)), (8, .row 1 (List.map encInt x7.weights)), (9, .box [.R 7, .R 8]), (10, .row 1 (List.map encLIntO x11.1))], 119, []⟩ : St)) rfl (by repeat' (first | exact trivial | refine ⟨⟨_, rfl, rfl⟩, ?_⟩)) (by repeat' (first | exact trivial | refine ⟨⟨_, rfl, rfl⟩, ?_⟩)) rfl) ?_
      refine AW.cond (b := ((!x13) || (!(x11.2 == x9.2)))) rfl (fun hc => ?_) (fun hc => ?_)
      · replace hH := condT hc hH
        refine AW.seq ?_
        refine AW.region ?_
        refine AO.pure T rfl rfl rfl ?_
        refine AO.nil ?_
        refine AW.ret ?_
        cases someE hH
        exact ⟨trivial, _, [], rfl, .c (.c .v), by decide⟩
      · replace hH := condF hc hH
        refine AW.skip ?_
        refine AW.seq ?_
        refine AW.seq ?_
        obtain ⟨x15, hx16, hH⟩ := bindE hH
        refine AW.drawn 3 11 [] mix (by kernel_rfl) rfl ?_
        refine AD.pure T (d := .g [.R 4, .R 5]) rfl rfl rfl ?_
        refine AD.pure T (d := .g [.s (List.map encSeason aA.seasons), .s (List.map encInt aA.weights)]) rfl rfl rfl ?_
        refine AD.q (FStep.call rfl rfl rfl rfl rfl (laws_toWorld_ok _ _ (hx6)) rfl rfl) (impT_names _ _) (impT_le _ _) rfl ?_
        refine AD.nil ?_
        refine AO.val rfl rfl (callLV_ok rfl rfl rfl (es := [.g (encWorld x5), .g (encWorld x5)]) ⟨lend_g (LendL.cons ((.rowR rfl (.map fun y => frzSeason y))) (LendL.cons ((.rowR rfl (.map fun y => .vs rfl))) LendL.nil)), lend_g (LendL.cons ((.rowR rfl (.map fun y => frzSeason y))) (LendL.cons ((.rowR rfl (.map fun y => .vs rfl))) LendL.nil)), trivial⟩ (laws_eqWorld_ok _ _ _ (hx16)) (zfree_v _) rfl) ?_
        refine AO.pure T rfl rfl rfl ?_
        refine AO.nil ?_
        refine AW.cond (b := (!x15)) rfl (fun hc => ?_) (fun hc => ?_)
        · replace hH := condT hc hH
          refine AW.seq ?_
          refine AW.region ?_
          refine AO.pure T rfl rfl rfl ?_
          refine AO.nil ?_
          refine AW.ret ?_
          cases someE hH
          exact ⟨trivial, _, [], rfl, .c (.c .v), by decide⟩
        · replace hH := condF hc hH
          refine AW.skip ?_
          refine AW.seq ?_
          refine AW.seq ?_
          obtain ⟨x17, hx18, hH⟩ := bindE hH
          refine AW.drawn 3 13 [] mix (by kernel_rfl) rfl ?_
          refine AD.pure T (d := .g [.R 7, .R 8]) rfl rfl rfl ?_
          refine AD.pure T (d := .g [.s (List.map encSeason aB.seasons), .s (List.map encInt aB.weights)]) rfl rfl rfl ?_
          refine AD.q (FStep.call rfl rfl rfl rfl rfl (laws_toWorld_ok _ _ (hx8)) rfl rfl) (impT_names _ _) (impT_le _ _) rfl ?_
          refine AD.nil ?_
          refine AO.val rfl rfl (callLV_ok rfl rfl rfl (es := [.g (encWorld x7), .g (encWorld x7)]) ⟨lend_g (LendL.cons ((.rowR rfl (.map fun y => frzSeason y))) (LendL.cons ((.rowR rfl (.map fun y => .vs rfl))) LendL.nil)), lend_g (LendL.cons ((.rowR rfl (.map fun y => frzSeason y))) (LendL.cons ((.rowR rfl (.map fun y => .vs rfl))) LendL.nil)), trivial⟩ (laws_eqWorld_ok _ _ _ (hx18)) (zfree_v _) rfl) ?_
          refine AO.pure T rfl rfl rfl ?_
          refine AO.nil ?_
          refine AW.cond (b := (!x17)) rfl (fun hc => ?_) (fun hc => ?_)
          · replace hH := condT hc hH
            refine AW.seq ?_
            refine AW.region ?_
            refine AO.pure T rfl rfl rfl ?_
            refine AO.nil ?_
            refine AW.ret ?_
            cases someE hH
            exact ⟨trivial, _, [], rfl, .c (.c .v), by decide⟩
          · replace hH := condF hc hH
            refine AW.skip ?_
            refine AW.seq ?_
            refine AW.region ?_
            refine AO.pure T rfl rfl rfl ?_
            refine AO.nil ?_
            refine AW.seq ?_
            obtain ⟨x19, hx20, hH⟩ := bindE hH
            refine AW.region ?_
            refine AO.pure T (d := .g [.R 4, .R 5]) rfl rfl rfl ?_
            refine AO.pure T rfl rfl rfl ?_
            refine AO.step rfl (callM_ok rfl 15 rfl rfl (es := [.g (encWorldO x5), .v (.int .i64 1)]) (outs := [.g [.w 2 (x19.1.seasons.map encSeasonO), .w 1 (x19.1.weights.map encInt)], .u]) (ids := [4, 5]) (by exact expLG_cons (.g (expLC_cons (.rowR rfl) (expLC_cons (.rowR rfl) (expLC_nil)))) (expLG_cons (.c .v) (expLG_nil))) (by decide) (.inl (by rfl)) (by rfl) (laws_markWorld_ok fuel _ _ _ (hx20)) rfl (by rfl) rfl) ?_
            refine AO.pure T rfl rfl rfl ?_
            refine AO.nil ?_
            refine AW.seq ?_
            obtain ⟨x21, hx22, hH⟩ := bindE hH
            refine AW.region ?_
            refine AO.pure T (d := .g [.R 7, .R 8]) rfl rfl rfl ?_
            refine AO.pure T rfl rfl rfl ?_
            refine AO.step rfl (callM_ok rfl 15 rfl rfl (es := [.g (encWorldO x7), .v (.int .i64 x19.2)]) (outs := [.g [.w 2 (x21.1.seasons.map encSeasonO), .w 1 (x21.1.weights.map encInt)], .u]) (ids := [7, 8]) (by exact expLG_cons (.g (expLC_cons (.rowR rfl) (expLC_cons (.rowR rfl) (expLC_nil)))) (expLG_cons (.c .v) (expLG_nil))) (by decide) (.inl (by rfl)) (by rfl) (laws_markWorld_ok fuel _ _ _ (hx22)) rfl (by rfl) rfl) ?_
            refine AO.pure T rfl rfl rfl ?_
            refine AO.nil ?_
            refine AW.seq ?_
            refine AW.seq ?_
            refine AW.region ?_
            refine AO.pure T rfl rfl rfl ?_
            refine AO.pure T rfl rfl rfl ?_
            refine AO.pure T rfl rfl rfl ?_
            refine AO.pureG T [] rfl trivial rfl rfl ?_
            refine AO.pureG T [] rfl trivial rfl rfl ?_
            refine AO.guard [73, 74] rfl ⟨fun h => h, fun h => h, trivial⟩ (fun hg => callLV_ok rfl rfl rfl (es := [.s (List.map encLInt x11.1), .s (List.map encLInt x9.1)]) ⟨(.rowR rfl (.map fun y => frzLInt y)), (.rowR rfl (.map fun y => .vs rfl)), trivial⟩ (laws_eqIntSS_ok _ _ _ (hx14)) (zfree_v _) rfl) rfl ?_
            refine AO.pureG T [75] rfl ⟨fun h => h, trivial⟩ rfl rfl ?_
            refine AO.val rfl rfl (pick_or rfl rfl rfl rfl) ?_
            refine AO.pure T rfl rfl rfl ?_
            refine AO.pureG T [] rfl trivial rfl rfl ?_
            refine AO.pureG T [] rfl trivial rfl rfl ?_
            refine AO.pureG T [79, 80] rfl ⟨fun h => h, fun h => h, trivial⟩ rfl rfl ?_
            refine AO.val rfl rfl (pick_or rfl rfl rfl rfl) ?_
            refine AO.nil ?_
            refine AW.le (Le.cut 0 0 (σ' := (⟨[(2, .p 1 0), (3, .p 2 0), (6, .R 3), (7, .v (.bool x9.2)), (10, .R 10), (82, .v (.bool ((decide (x21.2 < 0) || (!x13)) || (!(x11.2 == x9.2)))))], [(1, .box [.s (List.map encSeason aA.seasons), .s (List.map encInt aA.weights)]), (2, .box [.s (List.map encSeason aB.seasons), .s (List.map encInt aB.weights)]), (3, .row 1 (List.map encLInt x9.1)), (10, .row 1 (List.map encLIntO x11.1))], 119, []⟩ : St)) rfl (by repeat' (first | exact trivial | refine ⟨⟨_, rfl, rfl⟩, ?_⟩)) (by repeat' (first | exact trivial | refine ⟨⟨_, rfl, rfl⟩, ?_⟩)) rfl) ?_
            refine AW.cond (b := ((decide (x21.2 < 0) || (!x13)) || (!(x11.2 == x9.2)))) rfl (fun hc => ?_) (fun hc => ?_)
            · replace hH := condT hc hH
              refine AW.seq ?_
              refine AW.region ?_
              refine AO.pure T rfl rfl rfl ?_
              refine AO.nil ?_
              refine AW.ret ?_
              cases someE hH
              exact ⟨trivial, _, [], rfl, .c (.c .v), by decide⟩
            · replace hH := condF hc hH
              refine AW.skip ?_
              refine AW.seq ?_
              refine AW.region ?_
              refine AO.pure T rfl rfl rfl ?_
              refine AO.nil ?_
              refine AW.seq ?_
              obtain ⟨x23, hx24, hH⟩ := bindE hH
              refine AW.region ?_
              refine AO.pure T rfl rfl rfl ?_
              refine AO.pure T rfl rfl rfl ?_
              refine AO.step rfl (callM_ok rfl 15 rfl rfl (es := [.w 1 (x11.1.map encLIntO), .v (.int .i64 1)]) (outs := [.w 1 (x23.1.map encLIntO), .u]) (ids := [10]) (by exact expLG_cons (.c (.rowR rfl)) (expLG_cons (.c .v) (expLG_nil))) (by decide) (.inl (by rfl)) (by rfl) (laws_markIntSS_ok fuel _ _ _ (hx24)) rfl (by rfl) rfl) ?_
              refine AO.pure T rfl rfl rfl ?_
              refine AO.nil ?_
              refine AW.seq ?_
              refine AW.region ?_
              refine AO.pure T rfl rfl rfl ?_
              refine AO.nil ?_
              refine AW.seq ?_
              obtain ⟨x25, hx26, hH⟩ := bindE hH
              refine AW.region ?_
              refine AO.pure T rfl rfl rfl ?_
              refine AO.pure T rfl rfl rfl ?_
              refine AO.val rfl rfl (callLV_ok rfl rfl rfl (es := [.s (List.map encLInt x23.1), .v (.int .i64 1)]) ⟨(.rowR rfl (.map fun y => frzLInt y)), .free rfl, trivial⟩ (laws_heldIntSS_ok _ _ _ (hx26)) (zfree_v _) rfl) ?_
              refine AO.pure T rfl rfl rfl ?_
              refine AO.nil ?_
              refine AW.seq ?_
              refine AW.seq ?_
              refine AW.region ?_
              refine AO.pure T rfl rfl rfl ?_
              refine AO.pure T rfl rfl rfl ?_
              refine AO.nil ?_
              refine AW.cond (b := decide (x25 < 0)) rfl (fun hc => ?_) (fun hc => ?_)
              · replace hH := condT hc hH
                refine AW.seq ?_
                refine AW.region ?_
                refine AO.pure T rfl rfl rfl ?_
                refine AO.nil ?_
                refine AW.ret ?_
                cases someE hH
                exact ⟨trivial, _, [], rfl, .c (.c .v), by decide⟩
              · replace hH := condF hc hH
                refine AW.skip ?_
                refine AW.seq ?_
                refine AW.seq ?_
                refine AW.region ?_
                refine AO.pure T rfl rfl rfl ?_
                refine AO.pure T rfl rfl rfl ?_
                refine AO.pure T rfl rfl rfl ?_
                refine AO.nil ?_
                refine AW.cond (b := (x25 != x23.2)) rfl (fun hc => ?_) (fun hc => ?_)
                · replace hH := condT hc hH
                  refine AW.seq ?_
                  refine AW.region ?_
                  refine AO.pure T rfl rfl rfl ?_
                  refine AO.nil ?_
                  refine AW.ret ?_
                  cases someE hH
                  exact ⟨trivial, _, [], rfl, .c (.c .v), by decide⟩
                · replace hH := condF hc hH
                  refine AW.skip ?_
                  refine AW.seq ?_
                  refine AW.drawn 9 15 [] mix (by kernel_rfl) rfl ?_
                  refine AD.pure T (d := .g [.s (List.map encSeason aA.seasons), .s (List.map encInt aA.weights)]) rfl rfl rfl ?_
                  refine AD.q (FStep.call rfl rfl rfl rfl rfl (laws_toWorld_ok _ _ (hx6)) rfl rfl) (impT_names _ _) (impT_le _ _) rfl ?_
                  refine AD.pure T (d := .g [.s (List.map encSeason aB.seasons), .s (List.map encInt aB.weights)]) rfl rfl rfl ?_
                  refine AD.q (FStep.call rfl rfl rfl rfl rfl (laws_toWorld_ok _ _ (hx8)) rfl rfl) (impT_names _ _) (impT_le _ _) rfl ?_
                  refine AD.qd rfl (FStep.callL rfl rfl rfl rfl (es := [.g (encWorld x5), .g (encWorld x7)]) ⟨lend_g (LendL.cons ((.rowR rfl (.map fun y => frzSeason y))) (LendL.cons ((.rowR rfl (.map fun y => .vs rfl))) LendL.nil)), lend_g (LendL.cons ((.rowR rfl (.map fun y => frzSeason y))) (LendL.cons ((.rowR rfl (.map fun y => .vs rfl))) LendL.nil)), trivial⟩ (impl_RankChanges_ok fuel _ _ _ (hx12)) (zfree_t (zfl (.cons (zfree_map (fun y => (.cons (zfree_map (fun y => (.cons (zfree_v _) .nil))) .nil))) (.cons (zfree_v _) .nil)))) rfl rfl) (impT_names _ _) (impT_le _ _) rfl ?_
                  refine AD.pure T rfl rfl rfl ?_
                  refine AD.pure T rfl rfl rfl ?_
                  refine AD.pure T rfl rfl rfl ?_
                  refine AD.pure T rfl rfl rfl ?_
                  refine AD.nil ?_
                  refine AO.pure T rfl rfl rfl ?_
                  refine AO.nil ?_
                  refine AW.le (Le.cut 0 0 (σ' := (⟨[(6, .R 3), (7, .v (.bool x9.2)), (10, .R 10), (13, .v (.int .i64 x23.2)), (15, .R 19), (16, .v (.bool x11.2))], [(3, .row 1 (List.map encLInt x9.1)), (10, .row 1 (List.map encLIntO x23.1)), (19, .row 1 (List.map encLIntO x11.1))], 119, []⟩ : St)) rfl (by repeat' (first | exact trivial | refine ⟨⟨_, rfl, rfl⟩, ?_⟩)) (by repeat' (first | exact trivial | refine ⟨⟨_, rfl, rfl⟩, ?_⟩)) rfl) ?_
                  refine AW.seq ?_
                  refine AW.seq ?_
                  refine AW.region ?_
                  refine AO.pure T rfl rfl rfl ?_
                  refine AO.pure T rfl rfl rfl ?_
                  refine AO.val rfl rfl (callLV_ok rfl rfl rfl (es := [.s (List.map encLInt x11.1), .s (List.map encLInt x9.1)]) ⟨(.rowR rfl (.map fun y => frzLInt y)), (.rowR rfl (.map fun y => .vs rfl)), trivial⟩ (laws_eqIntSS_ok _ _ _ (hx14)) (zfree_v _) rfl) ?_
                  refine AO.pure T rfl rfl rfl ?_
                  refine AO.pure T rfl rfl rfl ?_
                  refine AO.pureG T [] rfl trivial rfl rfl ?_
                  refine AO.pureG T [] rfl trivial rfl rfl ?_
                  refine AO.pureG T [107, 108] rfl ⟨fun h => h, fun h => h, trivial⟩ rfl rfl ?_
                  refine AO.val rfl rfl (pick_or rfl rfl rfl rfl) ?_
                  refine AO.nil ?_
                  refine AW.cond (b := ((!x13) || (!(x11.2 == x9.2)))) rfl (fun hc => ?_) (fun hc => ?_)
                  · replace hH := condT hc hH
                    refine AW.seq ?_
                    refine AW.region ?_
                    refine AO.pure T rfl rfl rfl ?_
                    refine AO.nil ?_
                    refine AW.ret ?_
                    cases someE hH
                    exact ⟨trivial, _, [], rfl, .c (.c .v), by decide⟩
                  · replace hH := condF hc hH
                    refine AW.skip ?_
                    refine AW.seq ?_
                    refine AW.region ?_
                    refine AO.pure T rfl rfl rfl ?_
                    refine AO.nil ?_
                    refine AW.seq ?_
                    refine AW.region ?_
                    refine AO.pure T rfl rfl rfl ?_
                    refine AO.pure T rfl rfl rfl ?_
                    refine AO.val rfl rfl (callLV_ok rfl rfl rfl (es := [.s (List.map encLInt x23.1), .v (.int .i64 1)]) ⟨(.rowR rfl (.map fun y => frzLInt y)), .free rfl, trivial⟩ (laws_heldIntSS_ok _ _ _ (hx26)) (zfree_v _) rfl) ?_
                    refine AO.pure T rfl rfl rfl ?_
                    refine AO.nil ?_
                    refine AW.seq ?_
                    refine AW.seq ?_
                    refine AW.region ?_
                    refine AO.pure T rfl rfl rfl ?_
                    refine AO.pure T rfl rfl rfl ?_
                    refine AO.nil ?_
                    refine AW.cond (b := decide (x25 < 0)) rfl (fun hc => ?_) (fun hc => ?_)
                    · replace hH := condT hc hH
                      refine AW.seq ?_
                      refine AW.region ?_
                      refine AO.pure T rfl rfl rfl ?_
                      refine AO.nil ?_
                      refine AW.ret ?_
                      cases someE hH
                      exact ⟨trivial, _, [], rfl, .c (.c .v), by decide⟩
                    · replace hH := condF hc hH
                      refine AW.skip ?_
                      refine AW.seq ?_
                      refine AW.seq ?_
                      refine AW.region ?_
                      refine AO.pure T rfl rfl rfl ?_
                      refine AO.pure T rfl rfl rfl ?_
                      refine AO.pure T rfl rfl rfl ?_
                      refine AO.nil ?_
                      refine AW.cond (b := (x25 != x23.2)) rfl (fun hc => ?_) (fun hc => ?_)
                      · replace hH := condT hc hH
                        refine AW.seq ?_
                        refine AW.region ?_
                        refine AO.pure T rfl rfl rfl ?_
                        refine AO.nil ?_
                        refine AW.ret ?_
                        cases someE hH
                        exact ⟨trivial, _, [], rfl, .c (.c .v), by decide⟩
                      · replace hH := condF hc hH
                        refine AW.skip ?_
                        refine AW.seq ?_
                        refine AW.region ?_
                        refine AO.pure T rfl rfl rfl ?_
                        refine AO.nil ?_
                        refine AW.ret ?_
                        cases someE hH
                        exact ⟨trivial, _, [], rfl, .c (.c .v), by decide⟩

end Go.Proofs.Ytekdnjnefbkikaa

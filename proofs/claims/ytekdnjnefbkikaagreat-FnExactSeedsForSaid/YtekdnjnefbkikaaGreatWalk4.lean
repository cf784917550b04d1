/- The walk, part 4: what each function reached by the law FnExactSeedsFor computes. No condition. -/
import Derived.Test.YtekdnjnefbkikaaGreatWalk3
set_option maxRecDepth 4000
set_option maxHeartbeats 1000000
set_option linter.unusedVariables false
set_option linter.unusedSimpArgs false
set_option linter.unusedSectionVars false

namespace Go.Proofs.YtekdnjnefbkikaaGreat
open Go.AM

def laws_heldEntrantS_l1 : List Entrant → Nat → Int → Option Int
  | [], k1, v8 =>
    some v8
  | y2 :: ys3, k1, v8 =>
    cond (y2.skater != v8)
      (some (-1))
      (cond (y2.rank != (w64 (v8 + 1)))
        (some (-1))
        (laws_heldEntrantS_l1 ys3 (k1 + 1) (w64 ((w64 (v8 + 1)) + 1))))
def laws_heldEntrantS_p (a : List Entrant) (k : Int) : Option Int :=
  laws_heldEntrantS_l1 a 0 k
theorem laws_heldEntrantS_ok (a : List Entrant) (k : Int) (r : Int) (hH : laws_heldEntrantS_p a k = some r) : SpecR Tryz.prog 17 [.s (List.map encEntrant a), .v (.int .i64 k)] (.v (.int .i64 r)) := by
  refine fn_ok T Tryz.func17 rfl (by decide) rfl ?_
  refine AW.seq ?_
  refine AW.region ?_
  refine AO.pure T rfl rfl rfl ?_
  refine AO.nil ?_
  refine AW.seq ?_
  refine AW.seq ?_
  refine AW.region ?_
  refine AO.pure T rfl rfl rfl ?_
  refine AO.nil ?_
  refine AW.block ?_
  refine AW.loopS (fun s : Nat × Int => (⟨[(0, .s (List.map encEntrant a)), (1, .v (.int .i64 s.2)), (5, .v (.int .i64 (s.1 : Int)))], [], 31, []⟩ : St)) (fun s => s.1 ≤ a.length ∧ laws_heldEntrantS_l1 (a.drop s.1) s.1 s.2 = some r) (fun s => a.length - s.1) (0, k) ⟨Nat.zero_le _, hH⟩ ?_ ?_
  · exact Le.cut 0 0 rfl (by repeat' (first | exact trivial | refine ⟨⟨_, rfl, rfl⟩, ?_⟩)) (by repeat' (first | exact trivial | refine ⟨⟨_, rfl, rfl⟩, ?_⟩)) rfl
  · rintro ⟨k1, v8⟩ ⟨hk, hH⟩
    replace hH : laws_heldEntrantS_l1 (a.drop k1) k1 v8 = some r := hH
    show AW _ _ _ (⟨[(0, .s (List.map encEntrant a)), (1, .v (.int .i64 v8)), (5, .v (.int .i64 (k1 : Int)))], [], 31, []⟩ : St)
    refine AW.boundM (t := 0) (l := a) rfl (fun hb5 => ?_)
    cases hd4 : a.drop k1 with
    | nil =>
      rw [hd4] at hH
      rw [laws_heldEntrantS_l1] at hH
      have hlt6 := drop_ge hd4
      refine AW.seq ?_
      refine AW.seq ?_
      refine AW.region ?_
      refine AO.pure T rfl rfl rfl ?_
      refine AO.pure T rfl rfl rfl ?_
      refine AO.val rfl rfl (len_map_ok T rfl rfl rfl) ?_
      refine AO.pure T rfl rfl rfl ?_
      refine AO.nil ?_
      refine AW.condF' (b := decide ((k1 : Int) < (a.length : Int))) rfl (rngF hlt6) ?_
      refine AW.exit ?_
      refine AW.seq ?_
      refine AW.region ?_
      refine AO.pure T rfl rfl rfl ?_
      refine AO.pure T rfl rfl rfl ?_
      refine AO.nil ?_
      refine AW.ret ?_
      cases someE hH
      exact ⟨trivial, _, [], rfl, .c (.c .v), by decide⟩
    | cons y2 ys3 =>
      rw [hd4] at hH
      rw [laws_heldEntrantS_l1] at hH
      have hlt6 := drop_lt hd4
      refine AW.seq ?_
      refine AW.seq ?_
      refine AW.region ?_
      refine AO.pure T rfl rfl rfl ?_
      refine AO.pure T rfl rfl rfl ?_
      refine AO.val rfl rfl (len_map_ok T rfl rfl rfl) ?_
      refine AO.pure T rfl rfl rfl ?_
      refine AO.nil ?_
      refine AW.condT' (b := decide ((k1 : Int) < (a.length : Int))) rfl (rngT hlt6) ?_
      refine AW.skip ?_
      refine AW.seq ?_
      refine AW.block ?_
      refine AW.seq ?_
      refine AW.seq ?_
      refine AW.region ?_
      refine AO.pure T rfl rfl rfl ?_
      refine AO.pure T rfl rfl rfl ?_
      refine AO.val rfl rfl (ix_map_ok T rfl rfl rfl rfl rfl (getI_drop hd4) rfl) ?_
      refine AO.pure T rfl rfl rfl ?_
      refine AO.pure T rfl rfl rfl ?_
      refine AO.pure T rfl rfl rfl ?_
      refine AO.pure T rfl rfl rfl ?_
      refine AO.nil ?_
      refine AW.cond (b := (y2.skater != v8)) rfl (fun hc => ?_) (fun hc => ?_)
      · replace hH := condT hc hH
        refine AW.seq ?_
        refine AW.region ?_
        refine AO.pure T rfl rfl rfl ?_
        refine AO.nil ?_
        refine AW.ret ?_
        cases someE hH
        exact ⟨trivial, _, [], rfl, .c (.c .v), by decide⟩
      · replace hH := condF hc hH
        refine AW.skip ?_
        refine AW.seq ?_
        refine AW.region ?_
        refine AO.pure T rfl rfl rfl ?_
        refine AO.val rfl rfl (arw_ok rfl rfl rfl rfl) ?_
        refine AO.pure T rfl rfl rfl ?_
        refine AO.nil ?_
        refine AW.seq ?_
        refine AW.seq ?_
        refine AW.region ?_
        refine AO.pure T rfl rfl rfl ?_
        refine AO.pure T rfl rfl rfl ?_
        refine AO.val rfl rfl (ix_map_ok T rfl rfl rfl rfl rfl (getI_drop hd4) rfl) ?_
        refine AO.pure T rfl rfl rfl ?_
        refine AO.pure T rfl rfl rfl ?_
        refine AO.pure T rfl rfl rfl ?_
        refine AO.pure T rfl rfl rfl ?_
        refine AO.nil ?_
        refine AW.cond (b := (y2.rank != (w64 (v8 + 1)))) rfl (fun hc => ?_) (fun hc => ?_)
        · replace hH := condT hc hH
          refine AW.seq ?_
          refine AW.region ?_
          refine AO.pure T rfl rfl rfl ?_
          refine AO.nil ?_
          refine AW.ret ?_
          cases someE hH
          exact ⟨trivial, _, [], rfl, .c (.c .v), by decide⟩
        · replace hH := condF hc hH
          refine AW.skip ?_
          refine AW.region ?_
          refine AO.pure T rfl rfl rfl ?_
          refine AO.val rfl rfl (arw_ok rfl rfl rfl rfl) ?_
          refine AO.pure T rfl rfl rfl ?_
          refine AO.nil ?_
          refine AW.le (Le.cut 0 0 (σ' := (⟨[(0, .s (List.map encEntrant a)), (1, .v (.int .i64 (w64 ((w64 (v8 + 1)) + 1)))), (5, .v (.int .i64 (k1 : Int)))], [], 31, []⟩ : St)) rfl (by repeat' (first | exact trivial | refine ⟨⟨_, rfl, rfl⟩, ?_⟩)) (by repeat' (first | exact trivial | refine ⟨⟨_, rfl, rfl⟩, ?_⟩)) rfl) ?_
          refine AW.region ?_
          refine AO.pure T rfl rfl rfl ?_
          refine AO.val rfl rfl (ar_ok rfl rfl rfl rfl (inI_succ hlt6 hb5)) ?_
          refine AO.pure T rfl rfl rfl ?_
          refine AO.nil ?_
          refine ⟨(k1 + 1, w64 ((w64 (v8 + 1)) + 1)), ⟨Nat.succ_le_of_lt hlt6, (by rw [drop_succ_of hd4]; exact hH)⟩, (by have := hlt6; dsimp only; omega), ?_⟩
          exact Le.cut 0 0 rfl (by repeat' (first | exact trivial | refine ⟨⟨_, rfl, rfl⟩, ?_⟩)) (by repeat' (first | exact trivial | refine ⟨⟨_, rfl, rfl⟩, ?_⟩)) rfl

def laws_FnExactSeedsFor_p (fuel : Nat) (aW : World) (aSkaters : List Int) : Option Bool :=
  cond (decide ((aSkaters.length : Int) > 1048576))
    (some true)
    ((laws_szWorld_p aW 1048576).bind fun x1 =>
    cond (decide (x1 < 0))
      (some true)
      ((laws_toWorld_p aW).bind fun x3 =>
      (laws_toIntS_p aSkaters).bind fun x5 =>
      (spec_SeedsFor_p fuel x3 x5).bind fun x7 =>
      (impl_SeedsFor_p fuel x3 x5).bind fun x9 =>
      (laws_eqEntrantS_p x9.1 x7.1).bind fun x11 =>
      cond ((!x11) || (!(x9.2 == x7.2)))
        (some false)
        ((laws_eqWorld_p x3 x3).bind fun x13 =>
        cond (!x13)
          (some false)
          ((laws_eqIntS_p x5 x5).bind fun x15 =>
          cond (!x15)
            (some false)
            ((laws_markWorld_p fuel x3 1).bind fun x17 =>
            (laws_markIntS_p fuel x5 x17.2).bind fun x19 =>
            cond ((decide (x19.2 < 0) || (!x11)) || (!(x9.2 == x7.2)))
              (some false)
              ((laws_markEntrantS_p fuel x9.1 1).bind fun x21 =>
              (laws_heldEntrantS_p x21.1 1).bind fun x23 =>
              cond (decide (x23 < 0))
                (some false)
                (cond (x23 != x21.2)
                  (some false)
                  (cond ((!x11) || (!(x9.2 == x7.2)))
                    (some false)
                    (cond (decide (x23 < 0))
                      (some false)
                      (cond (x23 != x21.2)
                        (some false)
                        (some true)))))))))))
theorem laws_FnExactSeedsFor_ok (fuel : Nat) (aW : World) (aSkaters : List Int) (r : Bool) (hH : laws_FnExactSeedsFor_p fuel aW aSkaters = some r) : SpecR Tryz.prog 3 [.g (encWorld aW), .s (List.map encInt aSkaters)] (.v (.bool r)) := by
  refine fn_ok T Tryz.func3 rfl (by decide) rfl ?_
  refine AW.seq ?_
  refine AW.region ?_
  refine AO.step rfl (box_ok T rfl 1 rfl rfl rfl rfl) ?_
  refine AO.pure T rfl rfl rfl ?_
  refine AO.nil ?_
  refine AW.seq ?_
  refine AW.seq ?_
  refine AW.region ?_
  refine AO.pure T rfl rfl rfl ?_
  refine AO.val rfl rfl (len_map_ok T rfl rfl rfl) ?_
  refine AO.pure T rfl rfl rfl ?_
  refine AO.nil ?_
  refine AW.cond (b := decide ((aSkaters.length : Int) > 1048576)) rfl (fun hc => ?_) (fun hc => ?_)
  · replace hH := condT hc hH
    refine AW.seq ?_
    refine AW.region ?_
    refine AO.pure T rfl rfl rfl ?_
    refine AO.nil ?_
    refine AW.ret ?_
    cases someE hH
    exact ⟨trivial, _, [], rfl, .c (.c .v), by decide⟩
  · replace hH := condF hc hH
    refine AW.skip ?_
    refine AW.seq ?_
    refine AW.region ?_
    refine AO.pure T rfl rfl rfl ?_
    refine AO.nil ?_
    refine AW.seq ?_
    obtain ⟨x1, hx2, hH⟩ := bindE hH
    refine AW.region ?_
    refine AO.pure T (d := .g [.s (List.map encSeason aW.seasons), .s (List.map encInt aW.weights)]) rfl rfl rfl ?_
    refine AO.pure T rfl rfl rfl ?_
    refine AO.val rfl rfl (callV_ok rfl rfl rfl rfl (laws_szWorld_ok _ _ _ (hx2)) rfl) ?_
    refine AO.pure T rfl rfl rfl ?_
    refine AO.nil ?_
    refine AW.seq ?_
    refine AW.seq ?_
    refine AW.region ?_
    refine AO.pure T rfl rfl rfl ?_
    refine AO.pure T rfl rfl rfl ?_
    refine AO.nil ?_
    refine AW.cond (b := decide (x1 < 0)) rfl (fun hc => ?_) (fun hc => ?_)
    · replace hH := condT hc hH
      refine AW.seq ?_
      refine AW.region ?_
      refine AO.pure T rfl rfl rfl ?_
      refine AO.nil ?_
      refine AW.ret ?_
      cases someE hH
      exact ⟨trivial, _, [], rfl, .c (.c .v), by decide⟩
    · replace hH := condF hc hH
      refine AW.skip ?_
      refine AW.seq ?_
      obtain ⟨x3, hx4, hH⟩ := bindE hH
      obtain ⟨x5, hx6, hH⟩ := bindE hH
      obtain ⟨x7, hx8, hH⟩ := bindE hH
      refine AW.region ?_
      refine AO.pure T (d := .g [.s (List.map encSeason aW.seasons), .s (List.map encInt aW.weights)]) rfl rfl rfl ?_
      refine AO.step rfl (call_ok rfl 2 rfl rfl rfl (laws_toWorld_ok _ _ (hx4)) rfl rfl rfl) ?_
      refine AO.pure T rfl rfl rfl ?_
      refine AO.step rfl (call_ok rfl 4 rfl rfl rfl (laws_toIntS_ok _ _ (hx6)) rfl rfl rfl) ?_
      refine AO.step rfl (callL_ok rfl 5 rfl rfl (es := [.g (encWorld x3), .s (List.map encInt x5)]) (by exact ⟨lend_g (LendL.cons ((.rowR rfl (.map fun y => frzSeason y))) (LendL.cons ((.rowR rfl (.map fun y => .vs rfl))) LendL.nil)), (.rowR rfl (.map fun y => .vs rfl)), trivial⟩) (spec_SeedsFor_ok fuel _ _ _ (hx8)) (zfree_t (zfl (.cons (zfree_map (fun y => (.cons (zfree_v _) (.cons (zfree_v _) .nil)))) (.cons (zfree_v _) .nil)))) rfl rfl rfl) ?_
      refine AO.pure T rfl rfl rfl ?_
      refine AO.pure T rfl rfl rfl ?_
      refine AO.pure T rfl rfl rfl ?_
      refine AO.pure T rfl rfl rfl ?_
      refine AO.pure T rfl rfl rfl ?_
      refine AO.nil ?_
      refine AW.seq ?_
      refine AW.region ?_
      refine AO.pure T (d := .g [.s (List.map encSeason aW.seasons), .s (List.map encInt aW.weights)]) rfl rfl rfl ?_
      refine AO.step rfl (call_ok rfl 6 rfl rfl rfl (laws_toWorld_ok _ _ (hx4)) rfl rfl rfl) ?_
      refine AO.step rfl (alloc_ok T rfl 8 rfl rfl rfl rfl rfl) ?_
      refine AO.step rfl (store_okE T rfl rfl rfl rfl rfl rfl rfl rfl rfl (ds' := [.R 6, .R 7]) rfl) ?_
      refine AO.nil ?_
      refine AW.le (Le.cut 0 0 (σ' := (⟨[(1, .s (List.map encInt aSkaters)), (2, .p 1 0), (6, .R 5), (7, .v (.bool x7.2)), (8, .p 8 0)], [(1, .box [.s (List.map encSeason aW.seasons), .s (List.map encInt aW.weights)]), (5, .row 2 (List.map encEntrant x7.1)), (6, .row 2 (List.map encSeasonO x3.seasons)), (7, .row 1 (List.map encInt x3.weights)), (8, .box [.R 6, .R 7])], 117, []⟩ : St)) rfl (by repeat' (first | exact trivial | refine ⟨⟨_, rfl, rfl⟩, ?_⟩)) (by repeat' (first | exact trivial | refine ⟨⟨_, rfl, rfl⟩, ?_⟩)) rfl) ?_
      refine AW.seq ?_
      refine AW.region ?_
      refine AO.pure T rfl rfl rfl ?_
      refine AO.step rfl (call_ok rfl 9 rfl rfl rfl (laws_toIntS_ok _ _ (hx6)) rfl rfl rfl) ?_
      refine AO.pure T rfl rfl rfl ?_
      refine AO.nil ?_
      refine AW.seq ?_
      obtain ⟨x9, hx10, hH⟩ := bindE hH
      refine AW.region ?_
      refine AO.pure T (d := .g [.R 6, .R 7]) rfl rfl rfl ?_
      refine AO.pure T rfl rfl rfl ?_
      refine AO.step rfl (callL_ok rfl 10 rfl rfl (es := [.g (encWorld x3), .s (List.map encInt x5)]) (by exact ⟨lend_g (LendL.cons ((.rowR rfl (.map fun y => frzSeason y))) (LendL.cons ((.rowR rfl (.map fun y => .vs rfl))) LendL.nil)), (.rowR rfl (.map fun y => .vs rfl)), trivial⟩) (impl_SeedsFor_ok fuel _ _ _ (hx10)) (zfree_t (zfl (.cons (zfree_map (fun y => (.cons (zfree_v _) (.cons (zfree_v _) .nil)))) (.cons (zfree_v _) .nil)))) rfl rfl rfl) ?_
      refine AO.pure T rfl rfl rfl ?_
      refine AO.pure T rfl rfl rfl ?_
      refine AO.pure T rfl rfl rfl ?_
      refine AO.pure T rfl rfl rfl ?_
      refine AO.pure T rfl rfl rfl ?_
      refine AO.nil ?_
      refine AW.seq ?_
      refine AW.seq ?_
      obtain ⟨x11, hx12, hH⟩ := bindE hH
      refine AW.region ?_
      refine AO.pure T rfl rfl rfl ?_
      refine AO.pure T rfl rfl rfl ?_
      refine AO.val rfl rfl (callLV_ok rfl rfl rfl (es := [.s (List.map encEntrant x9.1), .s (List.map encEntrant x7.1)]) ⟨(.rowR rfl (.map fun y => .vs rfl)), (.rowR rfl (.map fun y => .vs rfl)), trivial⟩ (laws_eqEntrantS_ok _ _ _ (hx12)) (zfree_v _) rfl) ?_
      refine AO.pure T rfl rfl rfl ?_
      refine AO.pure T rfl rfl rfl ?_
      refine AO.pureG T [] rfl trivial rfl rfl ?_
      refine AO.pureG T [] rfl trivial rfl rfl ?_
      refine AO.pureG T [48, 49] rfl ⟨fun h => h, fun h => h, trivial⟩ rfl rfl ?_
      refine AO.val rfl rfl (pick_or rfl rfl rfl rfl) ?_
      refine AO.nil ?_
      refine AW.cond (b := ((!x11) || (!(x9.2 == x7.2)))) rfl (fun hc => ?_) (fun hc => ?_)
      · replace hH := condT hc hH
        refine AW.seq ?_
        refine AW.region ?_
        refine AO.pure T rfl rfl rfl ?_
        refine AO.nil ?_
        refine AW.ret ?_
        cases someE hH
        exact ⟨trivial, _, [], rfl, .c (.c .v), by decide⟩
      · replace hH := condF hc hH
        refine AW.skip ?_
        refine AW.seq ?_
        refine AW.seq ?_
        obtain ⟨x13, hx14, hH⟩ := bindE hH
        refine AW.drawn 3 11 [] mix (by kernel_rfl) rfl ?_
        refine AD.pure T (d := .g [.R 6, .R 7]) rfl rfl rfl ?_
        refine AD.pure T (d := .g [.s (List.map encSeason aW.seasons), .s (List.map encInt aW.weights)]) rfl rfl rfl ?_
        refine AD.q (FStep.call rfl rfl rfl rfl rfl (laws_toWorld_ok _ _ (hx4)) rfl rfl) (impT_names _ _) (impT_le _ _) rfl ?_
        refine AD.nil ?_
        refine AO.val rfl rfl (callLV_ok rfl rfl rfl (es := [.g (encWorld x3), .g (encWorld x3)]) ⟨lend_g (LendL.cons ((.rowR rfl (.map fun y => frzSeason y))) (LendL.cons ((.rowR rfl (.map fun y => .vs rfl))) LendL.nil)), lend_g (LendL.cons ((.rowR rfl (.map fun y => frzSeason y))) (LendL.cons ((.rowR rfl (.map fun y => .vs rfl))) LendL.nil)), trivial⟩ (laws_eqWorld_ok _ _ _ (hx14)) (zfree_v _) rfl) ?_
        refine AO.pure T rfl rfl rfl ?_
        refine AO.nil ?_
        refine AW.le (Le.cut 0 0 (σ' := (⟨[(1, .s (List.map encInt aSkaters)), (2, .p 1 0), (6, .R 5), (7, .v (.bool x7.2)), (8, .p 8 0), (9, .R 9), (10, .R 10), (11, .v (.bool x9.2)), (56, .v (.bool (!x13)))], [(1, .box [.s (List.map encSeason aW.seasons), .s (List.map encInt aW.weights)]), (5, .row 2 (List.map encEntrant x7.1)), (6, .row 2 (List.map encSeasonO x3.seasons)), (7, .row 1 (List.map encInt x3.weights)), (8, .box [.R 6, .R 7]), (9, .row 1 (List.map encInt x5)), (10, .row 2 (List.map encEntrant x9.1))], 117, []⟩ : St)) rfl (by repeat' (first | exact trivial | refine ⟨⟨_, rfl, rfl⟩, ?_⟩)) (by repeat' (first | exact trivial | refine ⟨⟨_, rfl, rfl⟩, ?_⟩)) rfl) ?_
        refine AW.cond (b := (!x13)) rfl (fun hc => ?_) (fun hc => ?_)
        · replace hH := condT hc hH
          refine AW.seq ?_
          refine AW.region ?_
          refine AO.pure T rfl rfl rfl ?_
          refine AO.nil ?_
          refine AW.ret ?_
          cases someE hH
          exact ⟨trivial, _, [], rfl, .c (.c .v), by decide⟩
        · replace hH := condF hc hH
          refine AW.skip ?_
          refine AW.seq ?_
          refine AW.seq ?_
          obtain ⟨x15, hx16, hH⟩ := bindE hH
          refine AW.region ?_
          refine AO.pure T rfl rfl rfl ?_
          refine AO.pure T rfl rfl rfl ?_
          refine AO.step rfl (call_ok rfl 13 rfl rfl rfl (laws_toIntS_ok _ _ (hx6)) rfl rfl rfl) ?_
          refine AO.val rfl rfl (callLV_ok rfl rfl rfl (es := [.s (List.map encInt x5), .s (List.map encInt x5)]) ⟨(.rowR rfl (.map fun y => .vs rfl)), (.rowR rfl (.map fun y => .vs rfl)), trivial⟩ (laws_eqIntS_ok _ _ _ (hx16)) (zfree_v _) rfl) ?_
          refine AO.pure T rfl rfl rfl ?_
          refine AO.nil ?_
          refine AW.cond (b := (!x15)) rfl (fun hc => ?_) (fun hc => ?_)
          · replace hH := condT hc hH
            refine AW.seq ?_
            refine AW.region ?_
            refine AO.pure T rfl rfl rfl ?_
            refine AO.nil ?_
            refine AW.ret ?_
            cases someE hH
            exact ⟨trivial, _, [], rfl, .c (.c .v), by decide⟩
          · replace hH := condF hc hH
            refine AW.skip ?_
            refine AW.seq ?_
            refine AW.region ?_
            refine AO.pure T rfl rfl rfl ?_
            refine AO.nil ?_
            refine AW.seq ?_
            obtain ⟨x17, hx18, hH⟩ := bindE hH
            refine AW.region ?_
            refine AO.pure T (d := .g [.R 6, .R 7]) rfl rfl rfl ?_
            refine AO.pure T rfl rfl rfl ?_
            refine AO.step rfl (callM_ok rfl 14 rfl rfl (es := [.g (encWorldO x3), .v (.int .i64 1)]) (outs := [.g [.w 2 (x17.1.seasons.map encSeasonO), .w 1 (x17.1.weights.map encInt)], .u]) (ids := [6, 7]) (by exact expLG_cons (.g (expLC_cons (.rowR rfl) (expLC_cons (.rowR rfl) (expLC_nil)))) (expLG_cons (.c .v) (expLG_nil))) (by decide) (.inl (by rfl)) (by rfl) (laws_markWorld_ok fuel _ _ _ (hx18)) rfl (by rfl) rfl) ?_
            refine AO.pure T rfl rfl rfl ?_
            refine AO.nil ?_
            refine AW.seq ?_
            obtain ⟨x19, hx20, hH⟩ := bindE hH
            refine AW.region ?_
            refine AO.pure T rfl rfl rfl ?_
            refine AO.pure T rfl rfl rfl ?_
            refine AO.step rfl (callM_ok rfl 14 rfl rfl (es := [.w 1 (x5.map encInt), .v (.int .i64 x17.2)]) (outs := [.w 1 (x19.1.map encInt), .u]) (ids := [9]) (by exact expLG_cons (.c (.rowR rfl)) (expLG_cons (.c .v) (expLG_nil))) (by decide) (.inl (by rfl)) (by rfl) (laws_markIntS_ok fuel _ _ _ (hx20)) rfl (by rfl) rfl) ?_
            refine AO.pure T rfl rfl rfl ?_
            refine AO.nil ?_
            refine AW.seq ?_
            refine AW.seq ?_
            refine AW.region ?_
            refine AO.pure T rfl rfl rfl ?_
            refine AO.pure T rfl rfl rfl ?_
            refine AO.pure T rfl rfl rfl ?_
            refine AO.pureG T [] rfl trivial rfl rfl ?_
            refine AO.pureG T [] rfl trivial rfl rfl ?_
            refine AO.guard [71, 72] rfl ⟨fun h => h, fun h => h, trivial⟩ (fun hg => callLV_ok rfl rfl rfl (es := [.s (List.map encEntrant x9.1), .s (List.map encEntrant x7.1)]) ⟨(.rowR rfl (.map fun y => .vs rfl)), (.rowR rfl (.map fun y => .vs rfl)), trivial⟩ (laws_eqEntrantS_ok _ _ _ (hx12)) (zfree_v _) rfl) rfl ?_
            refine AO.pureG T [73] rfl ⟨fun h => h, trivial⟩ rfl rfl ?_
            refine AO.val rfl rfl (pick_or rfl rfl rfl rfl) ?_
            refine AO.pure T rfl rfl rfl ?_
            refine AO.pureG T [] rfl trivial rfl rfl ?_
            refine AO.pureG T [] rfl trivial rfl rfl ?_
            refine AO.pureG T [77, 78] rfl ⟨fun h => h, fun h => h, trivial⟩ rfl rfl ?_
            refine AO.val rfl rfl (pick_or rfl rfl rfl rfl) ?_
            refine AO.nil ?_
            refine AW.le (Le.cut 0 0 (σ' := (⟨[(1, .s (List.map encInt aSkaters)), (2, .p 1 0), (6, .R 5), (7, .v (.bool x7.2)), (10, .R 10), (80, .v (.bool ((decide (x19.2 < 0) || (!x11)) || (!(x9.2 == x7.2)))))], [(1, .box [.s (List.map encSeason aW.seasons), .s (List.map encInt aW.weights)]), (5, .row 2 (List.map encEntrant x7.1)), (10, .row 2 (List.map encEntrant x9.1))], 117, []⟩ : St)) rfl (by repeat' (first | exact trivial | refine ⟨⟨_, rfl, rfl⟩, ?_⟩)) (by repeat' (first | exact trivial | refine ⟨⟨_, rfl, rfl⟩, ?_⟩)) rfl) ?_
            refine AW.cond (b := ((decide (x19.2 < 0) || (!x11)) || (!(x9.2 == x7.2)))) rfl (fun hc => ?_) (fun hc => ?_)
            · replace hH := condT hc hH
              refine AW.seq ?_
              refine AW.region ?_
              refine AO.pure T rfl rfl rfl ?_
              refine AO.nil ?_
              refine AW.ret ?_
              cases someE hH
              exact ⟨trivial, _, [], rfl, .c (.c .v), by decide⟩
            · replace hH := condF hc hH
              refine AW.skip ?_
              refine AW.seq ?_
              refine AW.region ?_
              refine AO.pure T rfl rfl rfl ?_
              refine AO.nil ?_
              refine AW.seq ?_
              obtain ⟨x21, hx22, hH⟩ := bindE hH
              refine AW.region ?_
              refine AO.pure T rfl rfl rfl ?_
              refine AO.pure T rfl rfl rfl ?_
              refine AO.step rfl (callM_ok rfl 14 rfl rfl (es := [.w 2 (x9.1.map encEntrant), .v (.int .i64 1)]) (outs := [.w 2 (x21.1.map encEntrant), .u]) (ids := [10]) (by exact expLG_cons (.c (.rowR rfl)) (expLG_cons (.c .v) (expLG_nil))) (by decide) (.inl (by rfl)) (by rfl) (laws_markEntrantS_ok fuel _ _ _ (hx22)) rfl (by rfl) rfl) ?_
              refine AO.pure T rfl rfl rfl ?_
              refine AO.nil ?_
              refine AW.seq ?_
              refine AW.region ?_
              refine AO.pure T rfl rfl rfl ?_
              refine AO.nil ?_
              refine AW.seq ?_
              obtain ⟨x23, hx24, hH⟩ := bindE hH
              refine AW.region ?_
              refine AO.pure T rfl rfl rfl ?_
              refine AO.pure T rfl rfl rfl ?_
              refine AO.val rfl rfl (callLV_ok rfl rfl rfl (es := [.s (List.map encEntrant x21.1), .v (.int .i64 1)]) ⟨(.rowR rfl (.map fun y => .vs rfl)), .free rfl, trivial⟩ (laws_heldEntrantS_ok _ _ _ (hx24)) (zfree_v _) rfl) ?_
              refine AO.pure T rfl rfl rfl ?_
              refine AO.nil ?_
              refine AW.seq ?_
              refine AW.seq ?_
              refine AW.region ?_
              refine AO.pure T rfl rfl rfl ?_
              refine AO.pure T rfl rfl rfl ?_
              refine AO.nil ?_
              refine AW.cond (b := decide (x23 < 0)) rfl (fun hc => ?_) (fun hc => ?_)
              · replace hH := condT hc hH
                refine AW.seq ?_
                refine AW.region ?_
                refine AO.pure T rfl rfl rfl ?_
                refine AO.nil ?_
                refine AW.ret ?_
                cases someE hH
                exact ⟨trivial, _, [], rfl, .c (.c .v), by decide⟩
              · replace hH := condF hc hH
                refine AW.skip ?_
                refine AW.seq ?_
                refine AW.seq ?_
                refine AW.region ?_
                refine AO.pure T rfl rfl rfl ?_
                refine AO.pure T rfl rfl rfl ?_
                refine AO.pure T rfl rfl rfl ?_
                refine AO.nil ?_
                refine AW.cond (b := (x23 != x21.2)) rfl (fun hc => ?_) (fun hc => ?_)
                · replace hH := condT hc hH
                  refine AW.seq ?_
                  refine AW.region ?_
                  refine AO.pure T rfl rfl rfl ?_
                  refine AO.nil ?_
                  refine AW.ret ?_
                  cases someE hH
                  exact ⟨trivial, _, [], rfl, .c (.c .v), by decide⟩
                · replace hH := condF hc hH
                  refine AW.skip ?_
                  refine AW.seq ?_
                  refine AW.region ?_
                  refine AO.pure T (d := .g [.s (List.map encSeason aW.seasons), .s (List.map encInt aW.weights)]) rfl rfl rfl ?_
                  refine AO.step rfl (call_ok rfl 14 rfl rfl rfl (laws_toWorld_ok _ _ (hx4)) rfl rfl rfl) ?_
                  refine AO.pure T rfl rfl rfl ?_
                  refine AO.step rfl (call_ok rfl 16 rfl rfl rfl (laws_toIntS_ok _ _ (hx6)) rfl rfl rfl) ?_
                  refine AO.step rfl (callL_ok rfl 17 rfl rfl (es := [.g (encWorld x3), .s (List.map encInt x5)]) (by exact ⟨lend_g (LendL.cons ((.rowR rfl (.map fun y => frzSeason y))) (LendL.cons ((.rowR rfl (.map fun y => .vs rfl))) LendL.nil)), (.rowR rfl (.map fun y => .vs rfl)), trivial⟩) (impl_SeedsFor_ok fuel _ _ _ (hx10)) (zfree_t (zfl (.cons (zfree_map (fun y => (.cons (zfree_v _) (.cons (zfree_v _) .nil)))) (.cons (zfree_v _) .nil)))) rfl rfl rfl) ?_
                  refine AO.pure T rfl rfl rfl ?_
                  refine AO.pure T rfl rfl rfl ?_
                  refine AO.pure T rfl rfl rfl ?_
                  refine AO.pure T rfl rfl rfl ?_
                  refine AO.pure T rfl rfl rfl ?_
                  refine AO.nil ?_
                  refine AW.le (Le.cut 0 0 (σ' := (⟨[(6, .R 5), (7, .v (.bool x7.2)), (10, .R 10), (13, .v (.int .i64 x21.2)), (15, .R 17), (16, .v (.bool x9.2))], [(5, .row 2 (List.map encEntrant x7.1)), (10, .row 2 (List.map encEntrant x21.1)), (17, .row 2 (List.map encEntrant x9.1))], 117, []⟩ : St)) rfl (by repeat' (first | exact trivial | refine ⟨⟨_, rfl, rfl⟩, ?_⟩)) (by repeat' (first | exact trivial | refine ⟨⟨_, rfl, rfl⟩, ?_⟩)) rfl) ?_
                  refine AW.seq ?_
                  refine AW.seq ?_
                  refine AW.region ?_
                  refine AO.pure T rfl rfl rfl ?_
                  refine AO.pure T rfl rfl rfl ?_
                  refine AO.val rfl rfl (callLV_ok rfl rfl rfl (es := [.s (List.map encEntrant x9.1), .s (List.map encEntrant x7.1)]) ⟨(.rowR rfl (.map fun y => .vs rfl)), (.rowR rfl (.map fun y => .vs rfl)), trivial⟩ (laws_eqEntrantS_ok _ _ _ (hx12)) (zfree_v _) rfl) ?_
                  refine AO.pure T rfl rfl rfl ?_
                  refine AO.pure T rfl rfl rfl ?_
                  refine AO.pureG T [] rfl trivial rfl rfl ?_
                  refine AO.pureG T [] rfl trivial rfl rfl ?_
                  refine AO.pureG T [105, 106] rfl ⟨fun h => h, fun h => h, trivial⟩ rfl rfl ?_
                  refine AO.val rfl rfl (pick_or rfl rfl rfl rfl) ?_
                  refine AO.nil ?_
                  refine AW.cond (b := ((!x11) || (!(x9.2 == x7.2)))) rfl (fun hc => ?_) (fun hc => ?_)
                  · replace hH := condT hc hH
                    refine AW.seq ?_
                    refine AW.region ?_
                    refine AO.pure T rfl rfl rfl ?_
                    refine AO.nil ?_
                    refine AW.ret ?_
                    cases someE hH
                    exact ⟨trivial, _, [], rfl, .c (.c .v), by decide⟩
                  · replace hH := condF hc hH
                    refine AW.skip ?_
                    refine AW.seq ?_
                    refine AW.region ?_
                    refine AO.pure T rfl rfl rfl ?_
                    refine AO.nil ?_
                    refine AW.seq ?_
                    refine AW.region ?_
                    refine AO.pure T rfl rfl rfl ?_
                    refine AO.pure T rfl rfl rfl ?_
                    refine AO.val rfl rfl (callLV_ok rfl rfl rfl (es := [.s (List.map encEntrant x21.1), .v (.int .i64 1)]) ⟨(.rowR rfl (.map fun y => .vs rfl)), .free rfl, trivial⟩ (laws_heldEntrantS_ok _ _ _ (hx24)) (zfree_v _) rfl) ?_
                    refine AO.pure T rfl rfl rfl ?_
                    refine AO.nil ?_
                    refine AW.seq ?_
                    refine AW.seq ?_
                    refine AW.region ?_
                    refine AO.pure T rfl rfl rfl ?_
                    refine AO.pure T rfl rfl rfl ?_
                    refine AO.nil ?_
                    refine AW.cond (b := decide (x23 < 0)) rfl (fun hc => ?_) (fun hc => ?_)
                    · replace hH := condT hc hH
                      refine AW.seq ?_
                      refine AW.region ?_
                      refine AO.pure T rfl rfl rfl ?_
                      refine AO.nil ?_
                      refine AW.ret ?_
                      cases someE hH
                      exact ⟨trivial, _, [], rfl, .c (.c .v), by decide⟩
                    · replace hH := condF hc hH
                      refine AW.skip ?_
                      refine AW.seq ?_
                      refine AW.seq ?_
                      refine AW.region ?_
                      refine AO.pure T rfl rfl rfl ?_
                      refine AO.pure T rfl rfl rfl ?_
                      refine AO.pure T rfl rfl rfl ?_
                      refine AO.nil ?_
                      refine AW.cond (b := (x23 != x21.2)) rfl (fun hc => ?_) (fun hc => ?_)
                      · replace hH := condT hc hH
                        refine AW.seq ?_
                        refine AW.region ?_
                        refine AO.pure T rfl rfl rfl ?_
                        refine AO.nil ?_
                        refine AW.ret ?_
                        cases someE hH
                        exact ⟨trivial, _, [], rfl, .c (.c .v), by decide⟩
                      · replace hH := condF hc hH
                        refine AW.skip ?_
                        refine AW.seq ?_
                        refine AW.region ?_
                        refine AO.pure T rfl rfl rfl ?_
                        refine AO.nil ?_
                        refine AW.ret ?_
                        cases someE hH
                        exact ⟨trivial, _, [], rfl, .c (.c .v), by decide⟩

end Go.Proofs.YtekdnjnefbkikaaGreat

/- The walk, part 2: what each function reached by the law FnExactPlacesOf computes. No condition. -/
import Derived.Test.YtfgpeaiepfdemaaWalk1
set_option maxRecDepth 4000
set_option linter.unusedVariables false
set_option linter.unusedSimpArgs false
set_option linter.unusedSectionVars false

namespace Go.Proofs.Ytfgpeaiepfdemaa
open Go.AM

def laws_heldIntS_l1 : List Int → Nat → Int → Option Int
  | [], k1, v8 =>
    some v8
  | y2 :: ys3, k1, v8 =>
    cond (y2 != v8)
      (some (-1))
      (laws_heldIntS_l1 ys3 (k1 + 1) (w64 (v8 + 1)))
def laws_heldIntS_p (a : List Int) (k : Int) : Option Int :=
  laws_heldIntS_l1 a 0 k
theorem laws_heldIntS_ok (a : List Int) (k : Int) (r : Int) (hH : laws_heldIntS_p a k = some r) : SpecR Try.prog 31 [.s (List.map encInt a), .v (.int .i64 k)] (.v (.int .i64 r)) := by
  refine fn_ok T Try.func31 rfl (by decide) rfl ?_
  refine AW.seq ?_
  refine AW.region ?_
  refine AO.pure T rfl rfl rfl ?_
  refine AO.nil ?_
  refine AW.seq ?_
  refine AW.seq ?_
  refine AW.region ?_
  refine AO.pure T rfl rfl rfl ?_
  refine AO.nil ?_
  refine AW.block ?_
  refine AW.loopS (fun s : Nat × Int => (⟨[(0, .s (List.map encInt a)), (1, .v (.int .i64 s.2)), (5, .v (.int .i64 (s.1 : Int)))], [], 21, []⟩ : St)) (fun s => s.1 ≤ a.length ∧ laws_heldIntS_l1 (a.drop s.1) s.1 s.2 = some r) (fun s => a.length - s.1) (0, k) ⟨Nat.zero_le _, hH⟩ ?_ ?_
  · exact Le.cut 0 0 rfl (by repeat' (first | exact trivial | refine ⟨⟨_, rfl, rfl⟩, ?_⟩)) (by repeat' (first | exact trivial | refine ⟨⟨_, rfl, rfl⟩, ?_⟩)) rfl
  · rintro ⟨k1, v8⟩ ⟨hk, hH⟩
    replace hH : laws_heldIntS_l1 (a.drop k1) k1 v8 = some r := hH
    show AW _ _ _ (⟨[(0, .s (List.map encInt a)), (1, .v (.int .i64 v8)), (5, .v (.int .i64 (k1 : Int)))], [], 21, []⟩ : St)
    refine AW.boundM (t := 0) (l := a) rfl (fun hb5 => ?_)
    cases hd4 : a.drop k1 with
    | nil =>
      rw [hd4] at hH
      rw [laws_heldIntS_l1] at hH
      have hlt6 := drop_ge hd4
      refine AW.seq ?_
      refine AW.seq ?_
      refine AW.region ?_
      refine AO.pure T rfl rfl rfl ?_
      refine AO.pure T rfl rfl rfl ?_
      refine AO.val rfl rfl (len_map_ok T rfl rfl rfl) ?_
      refine AO.pure T rfl rfl rfl ?_
      refine AO.nil ?_
      refine AW.condF' (b := decide ((k1 : Int) < (a.length : Int))) rfl (rngF hlt6) ?_
      refine AW.exit ?_
      refine AW.seq ?_
      refine AW.region ?_
      refine AO.pure T rfl rfl rfl ?_
      refine AO.pure T rfl rfl rfl ?_
      refine AO.nil ?_
      refine AW.ret ?_
      cases someE hH
      exact ⟨trivial, _, [], rfl, .c (.c .v), by decide⟩
    | cons y2 ys3 =>
      rw [hd4] at hH
      rw [laws_heldIntS_l1] at hH
      have hlt6 := drop_lt hd4
      refine AW.seq ?_
      refine AW.seq ?_
      refine AW.region ?_
      refine AO.pure T rfl rfl rfl ?_
      refine AO.pure T rfl rfl rfl ?_
      refine AO.val rfl rfl (len_map_ok T rfl rfl rfl) ?_
      refine AO.pure T rfl rfl rfl ?_
      refine AO.nil ?_
      refine AW.condT' (b := decide ((k1 : Int) < (a.length : Int))) rfl (rngT hlt6) ?_
      refine AW.skip ?_
      refine AW.seq ?_
      refine AW.block ?_
      refine AW.seq ?_
      refine AW.seq ?_
      refine AW.region ?_
      refine AO.pure T rfl rfl rfl ?_
      refine AO.pure T rfl rfl rfl ?_
      refine AO.val rfl rfl (ix_map_ok T rfl rfl rfl rfl rfl (getI_drop hd4) rfl) ?_
      refine AO.pure T rfl rfl rfl ?_
      refine AO.pure T rfl rfl rfl ?_
      refine AO.pure T rfl rfl rfl ?_
      refine AO.nil ?_
      refine AW.cond (b := (y2 != v8)) rfl (fun hc => ?_) (fun hc => ?_)
      · replace hH := condT hc hH
        refine AW.seq ?_
        refine AW.region ?_
        refine AO.pure T rfl rfl rfl ?_
        refine AO.nil ?_
        refine AW.ret ?_
        cases someE hH
        exact ⟨trivial, _, [], rfl, .c (.c .v), by decide⟩
      · replace hH := condF hc hH
        refine AW.skip ?_
        refine AW.region ?_
        refine AO.pure T rfl rfl rfl ?_
        refine AO.val rfl rfl (arw_ok rfl rfl rfl rfl) ?_
        refine AO.pure T rfl rfl rfl ?_
        refine AO.nil ?_
        refine AW.region ?_
        refine AO.pure T rfl rfl rfl ?_
        refine AO.val rfl rfl (ar_ok rfl rfl rfl rfl (inI_succ hlt6 hb5)) ?_
        refine AO.pure T rfl rfl rfl ?_
        refine AO.nil ?_
        refine ⟨(k1 + 1, w64 (v8 + 1)), ⟨Nat.succ_le_of_lt hlt6, (by rw [drop_succ_of hd4]; exact hH)⟩, (by have := hlt6; dsimp only; omega), ?_⟩
        exact Le.cut 0 0 rfl (by repeat' (first | exact trivial | refine ⟨⟨_, rfl, rfl⟩, ?_⟩)) (by repeat' (first | exact trivial | refine ⟨⟨_, rfl, rfl⟩, ?_⟩)) rfl

def laws_FnExactPlacesOf_p (fuel : Nat) (aS : Season) : Option Bool :=
  (laws_szSeason_p aS 1048576).bind fun x1 =>
  cond (decide (x1 < 0))
    (some true)
    ((laws_toSeason_p aS).bind fun x3 =>
    (spec_PlacesOf_p x3).bind fun x5 =>
    (impl_PlacesOf_p fuel x3).bind fun x7 =>
    (laws_eqIntS_p x7.1 x5.1).bind fun x9 =>
    cond ((!x9) || (!(x7.2 == x5.2)))
      (some false)
      ((laws_eqSeason_p x3 x3).bind fun x11 =>
      cond (!x11)
        (some false)
        ((laws_markSeason_p fuel x3 1).bind fun x13 =>
        cond ((decide (x13.2 < 0) || (!x9)) || (!(x7.2 == x5.2)))
          (some false)
          ((laws_markIntS_p fuel x7.1 1).bind fun x15 =>
          (laws_heldIntS_p x15.1 1).bind fun x17 =>
          cond (decide (x17 < 0))
            (some false)
            (cond (x17 != x15.2)
              (some false)
              (cond ((!x9) || (!(x7.2 == x5.2)))
                (some false)
                (cond (decide (x17 < 0))
                  (some false)
                  (cond (x17 != x15.2)
                    (some false)
                    (some true)))))))))
theorem laws_FnExactPlacesOf_ok (fuel : Nat) (aS : Season) (r : Bool) (hH : laws_FnExactPlacesOf_p fuel aS = some r) : SpecR Try.prog 6 [.g (encSeason aS)] (.v (.bool r)) := by
  refine fn_ok T Try.func6 rfl (by decide) rfl ?_
  refine AW.seq ?_
  refine AW.region ?_
  refine AO.step rfl (box_ok T rfl 1 rfl rfl rfl rfl) ?_
  refine AO.pure T rfl rfl rfl ?_
  refine AO.nil ?_
  refine AW.seq ?_
  refine AW.region ?_
  refine AO.pure T rfl rfl rfl ?_
  refine AO.nil ?_
  refine AW.seq ?_
  obtain ⟨x1, hx2, hH⟩ := bindE hH
  refine AW.region ?_
  refine AO.pure T rfl rfl rfl ?_
  refine AO.pure T rfl rfl rfl ?_
  refine AO.val rfl rfl (callV_ok rfl rfl rfl rfl (laws_szSeason_ok _ _ _ (hx2)) rfl) ?_
  refine AO.pure T rfl rfl rfl ?_
  refine AO.nil ?_
  refine AW.seq ?_
  refine AW.seq ?_
  refine AW.region ?_
  refine AO.pure T rfl rfl rfl ?_
  refine AO.pure T rfl rfl rfl ?_
  refine AO.nil ?_
  refine AW.cond (b := decide (x1 < 0)) rfl (fun hc => ?_) (fun hc => ?_)
  · replace hH := condT hc hH
    refine AW.seq ?_
    refine AW.region ?_
    refine AO.pure T rfl rfl rfl ?_
    refine AO.nil ?_
    refine AW.ret ?_
    cases someE hH
    exact ⟨trivial, _, [], rfl, .c (.c .v), by decide⟩
  · replace hH := condF hc hH
    refine AW.skip ?_
    refine AW.seq ?_
    obtain ⟨x3, hx4, hH⟩ := bindE hH
    obtain ⟨x5, hx6, hH⟩ := bindE hH
    refine AW.region ?_
    refine AO.pure T rfl rfl rfl ?_
    refine AO.step rfl (call_ok rfl 2 rfl rfl rfl (laws_toSeason_ok _ _ (hx4)) rfl rfl rfl) ?_
    refine AO.step rfl (callL_ok rfl 3 rfl rfl (es := [.g (encSeason x3)]) (by exact ⟨lend_g (LendL.cons (.free rfl) (LendL.cons ((.rowR rfl (.map fun y => frzLine y))) LendL.nil)), trivial⟩) (spec_PlacesOf_ok _ _ (hx6)) (zfree_t (zfl (.cons (zfree_map (fun y => (.cons (zfree_v _) .nil))) (.cons (zfree_v _) .nil)))) rfl rfl rfl) ?_
    refine AO.pure T rfl rfl rfl ?_
    refine AO.pure T rfl rfl rfl ?_
    refine AO.pure T rfl rfl rfl ?_
    refine AO.pure T rfl rfl rfl ?_
    refine AO.pure T rfl rfl rfl ?_
    refine AO.nil ?_
    refine AW.seq ?_
    refine AW.region ?_
    refine AO.pure T rfl rfl rfl ?_
    refine AO.step rfl (call_ok rfl 4 rfl rfl rfl (laws_toSeason_ok _ _ (hx4)) rfl rfl rfl) ?_
    refine AO.step rfl (alloc_ok T rfl 5 rfl rfl rfl rfl rfl) ?_
    refine AO.step rfl (store_ok T rfl rfl rfl rfl rfl rfl rfl rfl rfl) ?_
    refine AO.nil ?_
    refine AW.seq ?_
    obtain ⟨x7, hx8, hH⟩ := bindE hH
    refine AW.region ?_
    refine AO.pure T rfl rfl rfl ?_
    refine AO.step rfl (callL_ok rfl 6 rfl rfl (es := [.g (encSeason x3)]) (by exact ⟨lend_g (LendL.cons (.free rfl) (LendL.cons ((.rowR rfl (.map fun y => frzLine y))) LendL.nil)), trivial⟩) (impl_PlacesOf_ok fuel _ _ (hx8)) (zfree_t (zfl (.cons (zfree_map (fun y => (.cons (zfree_v _) .nil))) (.cons (zfree_v _) .nil)))) rfl rfl rfl) ?_
    refine AO.pure T rfl rfl rfl ?_
    refine AO.pure T rfl rfl rfl ?_
    refine AO.pure T rfl rfl rfl ?_
    refine AO.pure T rfl rfl rfl ?_
    refine AO.pure T rfl rfl rfl ?_
    refine AO.nil ?_
    refine AW.le (Le.cut 0 0 (σ' := (⟨[(1, .p 1 0), (4, .R 3), (5, .v (.bool x5.2)), (6, .p 5 0), (7, .R 6), (8, .v (.bool x7.2))], [(1, .box [.v (.int .i64 aS.best), .s (List.map encLine aS.lines)]), (3, .row 1 (List.map encInt x5.1)), (4, .row 3 (List.map encLineO x3.lines)), (5, .box [.v (.int .i64 x3.best), .R 4]), (6, .row 1 (List.map encInt x7.1))], 96, []⟩ : St)) rfl (by repeat' (first | exact trivial | refine ⟨⟨_, rfl, rfl⟩, ?_⟩)) (by repeat' (first | exact trivial | refine ⟨⟨_, rfl, rfl⟩, ?_⟩)) rfl) ?_
    refine AW.seq ?_
    refine AW.seq ?_
    obtain ⟨x9, hx10, hH⟩ := bindE hH
    refine AW.region ?_
    refine AO.pure T rfl rfl rfl ?_
    refine AO.pure T rfl rfl rfl ?_
    refine AO.val rfl rfl (callLV_ok rfl rfl rfl (es := [.s (List.map encInt x7.1), .s (List.map encInt x5.1)]) ⟨(.rowR rfl (.map fun y => .vs rfl)), (.rowR rfl (.map fun y => .vs rfl)), trivial⟩ (laws_eqIntS_ok _ _ _ (hx10)) (zfree_v _) rfl) ?_
    refine AO.pure T rfl rfl rfl ?_
    refine AO.pure T rfl rfl rfl ?_
    refine AO.pureG T [] rfl trivial rfl rfl ?_
    refine AO.pureG T [] rfl trivial rfl rfl ?_
    refine AO.pureG T [37, 38] rfl ⟨fun h => h, fun h => h, trivial⟩ rfl rfl ?_
    refine AO.val rfl rfl (pick_or rfl rfl rfl rfl) ?_
    refine AO.nil ?_
    refine AW.cond (b := ((!x9) || (!(x7.2 == x5.2)))) rfl (fun hc => ?_) (fun hc => ?_)
    · replace hH := condT hc hH
      refine AW.seq ?_
      refine AW.region ?_
      refine AO.pure T rfl rfl rfl ?_
      refine AO.nil ?_
      refine AW.ret ?_
      cases someE hH
      exact ⟨trivial, _, [], rfl, .c (.c .v), by decide⟩
    · replace hH := condF hc hH
      refine AW.skip ?_
      refine AW.seq ?_
      refine AW.seq ?_
      obtain ⟨x11, hx12, hH⟩ := bindE hH
      refine AW.drawn 3 7 mix (by kernel_rfl) rfl ?_
      refine AD.pure T rfl rfl rfl ?_
      refine AD.pure T rfl rfl rfl ?_
      refine AD.q (FStep.call rfl rfl rfl rfl rfl (laws_toSeason_ok _ _ (hx4)) rfl rfl) (impT_names _ _) (impT_le _ _) ?_
      refine AD.nil ?_
      refine AO.val rfl rfl (callLV_ok rfl rfl rfl (es := [.g (encSeason x3), .g (encSeason x3)]) ⟨lend_g (LendL.cons (.free rfl) (LendL.cons ((.rowR rfl (.map fun y => frzLine y))) LendL.nil)), lend_g (LendL.cons (.free rfl) (LendL.cons ((.rowR rfl (.map fun y => frzLine y))) LendL.nil)), trivial⟩ (laws_eqSeason_ok _ _ _ (hx12)) (zfree_v _) rfl) ?_
      refine AO.pure T rfl rfl rfl ?_
      refine AO.nil ?_
      refine AW.cond (b := (!x11)) rfl (fun hc => ?_) (fun hc => ?_)
      · replace hH := condT hc hH
        refine AW.seq ?_
        refine AW.region ?_
        refine AO.pure T rfl rfl rfl ?_
        refine AO.nil ?_
        refine AW.ret ?_
        cases someE hH
        exact ⟨trivial, _, [], rfl, .c (.c .v), by decide⟩
      · replace hH := condF hc hH
        refine AW.skip ?_
        refine AW.seq ?_
        refine AW.region ?_
        refine AO.pure T rfl rfl rfl ?_
        refine AO.nil ?_
        refine AW.seq ?_
        obtain ⟨x13, hx14, hH⟩ := bindE hH
        refine AW.region ?_
        refine AO.pure T rfl rfl rfl ?_
        refine AO.pure T rfl rfl rfl ?_
        refine AO.step rfl (callM_ok rfl 8 rfl rfl (es := [.g (encSeasonO x3), .v (.int .i64 1)]) (outs := [.g [.u, .w 3 (x13.1.lines.map encLineO)], .u]) (ids := [4]) (by exact expLG_cons (.g (expLC_cons .v (expLC_cons (.rowR rfl) (expLC_nil)))) (expLG_cons (.c .v) (expLG_nil))) (by decide) (.inl (by rfl)) (by rfl) (laws_markSeason_ok fuel _ _ _ (hx14)) rfl (by rfl) rfl) ?_
        refine AO.pure T rfl rfl rfl ?_
        refine AO.nil ?_
        refine AW.seq ?_
        refine AW.seq ?_
        refine AW.region ?_
        refine AO.pure T rfl rfl rfl ?_
        refine AO.pure T rfl rfl rfl ?_
        refine AO.pure T rfl rfl rfl ?_
        refine AO.pureG T [] rfl trivial rfl rfl ?_
        refine AO.pureG T [] rfl trivial rfl rfl ?_
        refine AO.guard [52, 53] rfl ⟨fun h => h, fun h => h, trivial⟩ (fun hg => callLV_ok rfl rfl rfl (es := [.s (List.map encInt x7.1), .s (List.map encInt x5.1)]) ⟨(.rowR rfl (.map fun y => .vs rfl)), (.rowR rfl (.map fun y => .vs rfl)), trivial⟩ (laws_eqIntS_ok _ _ _ (hx10)) (zfree_v _) rfl) rfl ?_
        refine AO.pureG T [54] rfl ⟨fun h => h, trivial⟩ rfl rfl ?_
        refine AO.val rfl rfl (pick_or rfl rfl rfl rfl) ?_
        refine AO.pure T rfl rfl rfl ?_
        refine AO.pureG T [] rfl trivial rfl rfl ?_
        refine AO.pureG T [] rfl trivial rfl rfl ?_
        refine AO.pureG T [58, 59] rfl ⟨fun h => h, fun h => h, trivial⟩ rfl rfl ?_
        refine AO.val rfl rfl (pick_or rfl rfl rfl rfl) ?_
        refine AO.nil ?_
        refine AW.le (Le.cut 0 0 (σ' := (⟨[(1, .p 1 0), (4, .R 3), (5, .v (.bool x5.2)), (7, .R 6), (61, .v (.bool ((decide (x13.2 < 0) || (!x9)) || (!(x7.2 == x5.2)))))], [(1, .box [.v (.int .i64 aS.best), .s (List.map encLine aS.lines)]), (3, .row 1 (List.map encInt x5.1)), (6, .row 1 (List.map encInt x7.1))], 96, []⟩ : St)) rfl (by repeat' (first | exact trivial | refine ⟨⟨_, rfl, rfl⟩, ?_⟩)) (by repeat' (first | exact trivial | refine ⟨⟨_, rfl, rfl⟩, ?_⟩)) rfl) ?_
        refine AW.cond (b := ((decide (x13.2 < 0) || (!x9)) || (!(x7.2 == x5.2)))) rfl (fun hc => ?_) (fun hc => ?_)
        · replace hH := condT hc hH
          refine AW.seq ?_
          refine AW.region ?_
          refine AO.pure T rfl rfl rfl ?_
          refine AO.nil ?_
          refine AW.ret ?_
          cases someE hH
          exact ⟨trivial, _, [], rfl, .c (.c .v), by decide⟩
        · replace hH := condF hc hH
          refine AW.skip ?_
          refine AW.seq ?_
          refine AW.region ?_
          refine AO.pure T rfl rfl rfl ?_
          refine AO.nil ?_
          refine AW.seq ?_
          obtain ⟨x15, hx16, hH⟩ := bindE hH
          refine AW.region ?_
          refine AO.pure T rfl rfl rfl ?_
          refine AO.pure T rfl rfl rfl ?_
          refine AO.step rfl (callM_ok rfl 8 rfl rfl (es := [.w 1 (x7.1.map encInt), .v (.int .i64 1)]) (outs := [.w 1 (x15.1.map encInt), .u]) (ids := [6]) (by exact expLG_cons (.c (.rowR rfl)) (expLG_cons (.c .v) (expLG_nil))) (by decide) (.inl (by rfl)) (by rfl) (laws_markIntS_ok fuel _ _ _ (hx16)) rfl (by rfl) rfl) ?_
          refine AO.pure T rfl rfl rfl ?_
          refine AO.nil ?_
          refine AW.seq ?_
          refine AW.region ?_
          refine AO.pure T rfl rfl rfl ?_
          refine AO.nil ?_
          refine AW.seq ?_
          obtain ⟨x17, hx18, hH⟩ := bindE hH
          refine AW.region ?_
          refine AO.pure T rfl rfl rfl ?_
          refine AO.pure T rfl rfl rfl ?_
          refine AO.val rfl rfl (callLV_ok rfl rfl rfl (es := [.s (List.map encInt x15.1), .v (.int .i64 1)]) ⟨(.rowR rfl (.map fun y => .vs rfl)), .free rfl, trivial⟩ (laws_heldIntS_ok _ _ _ (hx18)) (zfree_v _) rfl) ?_
          refine AO.pure T rfl rfl rfl ?_
          refine AO.nil ?_
          refine AW.seq ?_
          refine AW.seq ?_
          refine AW.region ?_
          refine AO.pure T rfl rfl rfl ?_
          refine AO.pure T rfl rfl rfl ?_
          refine AO.nil ?_
          refine AW.cond (b := decide (x17 < 0)) rfl (fun hc => ?_) (fun hc => ?_)
          · replace hH := condT hc hH
            refine AW.seq ?_
            refine AW.region ?_
            refine AO.pure T rfl rfl rfl ?_
            refine AO.nil ?_
            refine AW.ret ?_
            cases someE hH
            exact ⟨trivial, _, [], rfl, .c (.c .v), by decide⟩
          · replace hH := condF hc hH
            refine AW.skip ?_
            refine AW.seq ?_
            refine AW.seq ?_
            refine AW.region ?_
            refine AO.pure T rfl rfl rfl ?_
            refine AO.pure T rfl rfl rfl ?_
            refine AO.pure T rfl rfl rfl ?_
            refine AO.nil ?_
            refine AW.cond (b := (x17 != x15.2)) rfl (fun hc => ?_) (fun hc => ?_)
            · replace hH := condT hc hH
              refine AW.seq ?_
              refine AW.region ?_
              refine AO.pure T rfl rfl rfl ?_
              refine AO.nil ?_
              refine AW.ret ?_
              cases someE hH
              exact ⟨trivial, _, [], rfl, .c (.c .v), by decide⟩
            · replace hH := condF hc hH
              refine AW.skip ?_
              refine AW.seq ?_
              refine AW.region ?_
              refine AO.pure T rfl rfl rfl ?_
              refine AO.step rfl (call_ok rfl 8 rfl rfl rfl (laws_toSeason_ok _ _ (hx4)) rfl rfl rfl) ?_
              refine AO.step rfl (callL_ok rfl 9 rfl rfl (es := [.g (encSeason x3)]) (by exact ⟨lend_g (LendL.cons (.free rfl) (LendL.cons ((.rowR rfl (.map fun y => frzLine y))) LendL.nil)), trivial⟩) (impl_PlacesOf_ok fuel _ _ (hx8)) (zfree_t (zfl (.cons (zfree_map (fun y => (.cons (zfree_v _) .nil))) (.cons (zfree_v _) .nil)))) rfl rfl rfl) ?_
              refine AO.pure T rfl rfl rfl ?_
              refine AO.pure T rfl rfl rfl ?_
              refine AO.pure T rfl rfl rfl ?_
              refine AO.pure T rfl rfl rfl ?_
              refine AO.pure T rfl rfl rfl ?_
              refine AO.nil ?_
              refine AW.seq ?_
              refine AW.seq ?_
              refine AW.region ?_
              refine AO.pure T rfl rfl rfl ?_
              refine AO.pure T rfl rfl rfl ?_
              refine AO.val rfl rfl (callLV_ok rfl rfl rfl (es := [.s (List.map encInt x7.1), .s (List.map encInt x5.1)]) ⟨(.rowR rfl (.map fun y => .vs rfl)), (.rowR rfl (.map fun y => .vs rfl)), trivial⟩ (laws_eqIntS_ok _ _ _ (hx10)) (zfree_v _) rfl) ?_
              refine AO.pure T rfl rfl rfl ?_
              refine AO.pure T rfl rfl rfl ?_
              refine AO.pureG T [] rfl trivial rfl rfl ?_
              refine AO.pureG T [] rfl trivial rfl rfl ?_
              refine AO.pureG T [84, 85] rfl ⟨fun h => h, fun h => h, trivial⟩ rfl rfl ?_
              refine AO.val rfl rfl (pick_or rfl rfl rfl rfl) ?_
              refine AO.nil ?_
              refine AW.le (Le.cut 0 0 (σ' := (⟨[(7, .R 6), (10, .v (.int .i64 x15.2)), (87, .v (.bool ((!x9) || (!(x7.2 == x5.2)))))], [(6, .row 1 (List.map encInt x15.1))], 96, []⟩ : St)) rfl (by repeat' (first | exact trivial | refine ⟨⟨_, rfl, rfl⟩, ?_⟩)) (by repeat' (first | exact trivial | refine ⟨⟨_, rfl, rfl⟩, ?_⟩)) rfl) ?_
              refine AW.cond (b := ((!x9) || (!(x7.2 == x5.2)))) rfl (fun hc => ?_) (fun hc => ?_)
              · replace hH := condT hc hH
                refine AW.seq ?_
                refine AW.region ?_
                refine AO.pure T rfl rfl rfl ?_
                refine AO.nil ?_
                refine AW.ret ?_
                cases someE hH
                exact ⟨trivial, _, [], rfl, .c (.c .v), by decide⟩
              · replace hH := condF hc hH
                refine AW.skip ?_
                refine AW.seq ?_
                refine AW.region ?_
                refine AO.pure T rfl rfl rfl ?_
                refine AO.nil ?_
                refine AW.seq ?_
                refine AW.region ?_
                refine AO.pure T rfl rfl rfl ?_
                refine AO.pure T rfl rfl rfl ?_
                refine AO.val rfl rfl (callLV_ok rfl rfl rfl (es := [.s (List.map encInt x15.1), .v (.int .i64 1)]) ⟨(.rowR rfl (.map fun y => .vs rfl)), .free rfl, trivial⟩ (laws_heldIntS_ok _ _ _ (hx18)) (zfree_v _) rfl) ?_
                refine AO.pure T rfl rfl rfl ?_
                refine AO.nil ?_
                refine AW.seq ?_
                refine AW.seq ?_
                refine AW.region ?_
                refine AO.pure T rfl rfl rfl ?_
                refine AO.pure T rfl rfl rfl ?_
                refine AO.nil ?_
                refine AW.cond (b := decide (x17 < 0)) rfl (fun hc => ?_) (fun hc => ?_)
                · replace hH := condT hc hH
                  refine AW.seq ?_
                  refine AW.region ?_
                  refine AO.pure T rfl rfl rfl ?_
                  refine AO.nil ?_
                  refine AW.ret ?_
                  cases someE hH
                  exact ⟨trivial, _, [], rfl, .c (.c .v), by decide⟩
                · replace hH := condF hc hH
                  refine AW.skip ?_
                  refine AW.seq ?_
                  refine AW.seq ?_
                  refine AW.region ?_
                  refine AO.pure T rfl rfl rfl ?_
                  refine AO.pure T rfl rfl rfl ?_
                  refine AO.pure T rfl rfl rfl ?_
                  refine AO.nil ?_
                  refine AW.cond (b := (x17 != x15.2)) rfl (fun hc => ?_) (fun hc => ?_)
                  · replace hH := condT hc hH
                    refine AW.seq ?_
                    refine AW.region ?_
                    refine AO.pure T rfl rfl rfl ?_
                    refine AO.nil ?_
                    refine AW.ret ?_
                    cases someE hH
                    exact ⟨trivial, _, [], rfl, .c (.c .v), by decide⟩
                  · replace hH := condF hc hH
                    refine AW.skip ?_
                    refine AW.seq ?_
                    refine AW.region ?_
                    refine AO.pure T rfl rfl rfl ?_
                    refine AO.nil ?_
                    refine AW.ret ?_
                    cases someE hH
                    exact ⟨trivial, _, [], rfl, .c (.c .v), by decide⟩

def impl_lineOf_l1 (skater : Int) : List Line → Nat → Option Line
  | [], k1 =>
    some (Line.mk skater [] [])
  | y2 :: ys3, k1 =>
    cond (y2.skater == skater)
      (some y2)
      (impl_lineOf_l1 skater ys3 (k1 + 1))
def impl_lineOf_p (sA : Season) (skater : Int) : Option Line :=
  impl_lineOf_l1 skater sA.lines 0
theorem impl_lineOf_ok (sA : Season) (skater : Int) (r : Line) (hH : impl_lineOf_p sA skater = some r) : SpecR Try.prog 69 [.g (encSeason sA), .v (.int .i64 skater)] (.g (encLine r)) := by
  refine fn_ok T Try.func69 rfl (by decide) rfl ?_
  refine AW.seq ?_
  refine AW.region ?_
  refine AO.step rfl (box_ok T rfl 1 rfl rfl rfl rfl) ?_
  refine AO.step rfl (alloc_ok T rfl 2 rfl rfl rfl rfl rfl) ?_
  refine AO.nil ?_
  refine AW.seq ?_
  refine AW.seq ?_
  refine AW.region ?_
  refine AO.pure T rfl rfl rfl ?_
  refine AO.pure T rfl rfl rfl ?_
  refine AO.val rfl rfl (len_map_ok T rfl rfl rfl) ?_
  refine AO.pure T rfl rfl rfl ?_
  refine AO.nil ?_
  refine AW.block ?_
  refine AW.loopS (fun s : Nat => (⟨[(1, .v (.int .i64 skater)), (4, .p 2 0), (8, .s (List.map encLine sA.lines)), (9, .v (.int .i64 (sA.lines.length : Int))), (10, .v (.int .i64 (s : Int)))], [(2, .box [.v (.int .i64 0), .w 0 [], .w 0 []])], 22, []⟩ : St)) (fun s => s ≤ sA.lines.length ∧ impl_lineOf_l1 skater (sA.lines.drop s) s = some r) (fun s => sA.lines.length - s) 0 ⟨Nat.zero_le _, hH⟩ ?_ ?_
  · exact Le.cut 0 0 rfl (by repeat' (first | exact trivial | refine ⟨⟨_, rfl, rfl⟩, ?_⟩)) (by repeat' (first | exact trivial | refine ⟨⟨_, rfl, rfl⟩, ?_⟩)) rfl
  · rintro k1 ⟨hk, hH⟩
    replace hH : impl_lineOf_l1 skater (sA.lines.drop k1) k1 = some r := hH
    show AW _ _ _ (⟨[(1, .v (.int .i64 skater)), (4, .p 2 0), (8, .s (List.map encLine sA.lines)), (9, .v (.int .i64 (sA.lines.length : Int))), (10, .v (.int .i64 (k1 : Int)))], [(2, .box [.v (.int .i64 0), .w 0 [], .w 0 []])], 22, []⟩ : St)
    refine AW.boundM (t := 8) (l := sA.lines) rfl (fun hb5 => ?_)
    cases hd4 : sA.lines.drop k1 with
    | nil =>
      rw [hd4] at hH
      rw [impl_lineOf_l1] at hH
      have hlt6 := drop_ge hd4
      refine AW.seq ?_
      refine AW.region ?_
      refine AO.pure T rfl rfl rfl ?_
      refine AO.nil ?_
      refine AW.seq ?_
      refine AW.condF' (b := decide ((k1 : Int) < (sA.lines.length : Int))) rfl (rngF hlt6) ?_
      refine AW.exit ?_
      refine AW.seq ?_
      refine AW.region ?_
      refine AO.pure T rfl rfl rfl ?_
      refine AO.pure T rfl rfl rfl ?_
      refine AO.step rfl (store_ok T rfl rfl rfl rfl rfl rfl rfl rfl rfl) ?_
      refine AO.nil ?_
      refine AW.ret ?_
      cases someE hH
      exact ⟨trivial, _, [], rfl, .c (.g (expLC_cons .v (expLC_cons .nilS (expLC_cons .nilS (expLC_nil))))), by decide⟩
    | cons y2 ys3 =>
      rw [hd4] at hH
      rw [impl_lineOf_l1] at hH
      have hlt6 := drop_lt hd4
      refine AW.seq ?_
      refine AW.region ?_
      refine AO.pure T rfl rfl rfl ?_
      refine AO.nil ?_
      refine AW.seq ?_
      refine AW.condT' (b := decide ((k1 : Int) < (sA.lines.length : Int))) rfl (rngT hlt6) ?_
      refine AW.skip ?_
      refine AW.seq ?_
      refine AW.block ?_
      refine AW.seq ?_
      refine AW.region ?_
      refine AO.val rfl rfl (ix_map_ok T rfl rfl rfl rfl rfl (getI_drop hd4) rfl) ?_
      refine AO.pure T rfl rfl rfl ?_
      refine AO.step rfl (alloc_ok T rfl 5 rfl rfl rfl rfl rfl) ?_
      refine AO.step rfl (store_ok T rfl rfl rfl rfl rfl rfl rfl rfl rfl) ?_
      refine AO.nil ?_
      refine AW.seq ?_
      refine AW.region ?_
      refine AO.pure T rfl rfl rfl ?_
      refine AO.pure T rfl rfl rfl ?_
      refine AO.pure T rfl rfl rfl ?_
      refine AO.pure T rfl rfl rfl ?_
      refine AO.nil ?_
      refine AW.cond (b := (y2.skater == skater)) rfl (fun hc => ?_) (fun hc => ?_)
      · replace hH := condT hc hH
        refine AW.seq ?_
        refine AW.region ?_
        refine AO.pure T rfl rfl rfl ?_
        refine AO.step rfl (store_ok T rfl rfl rfl rfl rfl rfl rfl rfl rfl) ?_
        refine AO.nil ?_
        refine AW.ret ?_
        cases someE hH
        exact ⟨trivial, _, [], rfl, .c (.g (expLC_cons .v (expLC_cons .s (expLC_cons .s (expLC_nil))))), by decide⟩
      · replace hH := condF hc hH
        refine AW.skip ?_
        refine AW.region ?_
        refine AO.val rfl rfl (ar_ok rfl rfl rfl rfl (inI_succ hlt6 hb5)) ?_
        refine AO.pure T rfl rfl rfl ?_
        refine AO.nil ?_
        refine ⟨k1 + 1, ⟨Nat.succ_le_of_lt hlt6, (by rw [drop_succ_of hd4]; exact hH)⟩, (by have := hlt6; dsimp only; omega), ?_⟩
        exact Le.cut 0 0 rfl (by repeat' (first | exact trivial | refine ⟨⟨_, rfl, rfl⟩, ?_⟩)) (by repeat' (first | exact trivial | refine ⟨⟨_, rfl, rfl⟩, ?_⟩)) rfl

def impl_TotalOf_p (fuel : Nat) (sA : Season) (skater : Int) : Option (Int × Bool) :=
  (impl_IsSeason_p fuel sA).bind fun x1 =>
  (opt (!(!x1)) default (impl_lineOf_p sA skater)).bind fun x3 =>
  cond ((!x1) || ((x3.points.length : Int) == 0))
    (some (0, false))
    ((impl_lineOf_p sA skater).bind fun x5 =>
    (impl_counting_p x5 sA.best).bind fun x7 =>
    (impl_sumInts_p x7).bind fun x9 =>
    some (x9, true))
theorem impl_TotalOf_ok (fuel : Nat) (sA : Season) (skater : Int) (r : (Int × Bool)) (hH : impl_TotalOf_p fuel sA skater = some r) : SpecR Try.prog 20 [.g (encSeason sA), .v (.int .i64 skater)] (.t [.v (.int .i64 r.1), .v (.bool r.2)]) := by
  refine fn_ok T Try.func20 rfl (by decide) rfl ?_
  refine AW.seq ?_
  refine AW.region ?_
  refine AO.step rfl (box_ok T rfl 1 rfl rfl rfl rfl) ?_
  refine AO.pure T rfl rfl rfl ?_
  refine AO.pure T rfl rfl rfl ?_
  refine AO.nil ?_
  refine AW.seq ?_
  refine AW.seq ?_
  obtain ⟨x1, hx2, hH⟩ := bindE hH
  obtain ⟨x3, hx4, hH⟩ := bindE hH
  refine AW.region ?_
  refine AO.pure T rfl rfl rfl ?_
  refine AO.val rfl rfl (callV_ok rfl rfl rfl rfl (impl_IsSeason_ok fuel _ _ (hx2)) rfl) ?_
  refine AO.pure T rfl rfl rfl ?_
  refine AO.pure T rfl rfl rfl ?_
  refine AO.pureG T [] rfl trivial rfl rfl ?_
  refine AO.pureG T [] rfl trivial rfl rfl ?_
  refine AO.guard [10, 11] rfl ⟨fun h => h, fun h => h, trivial⟩ (fun hg => callV_ok rfl rfl rfl rfl (impl_lineOf_ok _ _ _ (optT hx4 hg)) rfl) rfl ?_
  refine AO.pureG T [12] rfl ⟨fun h => h, trivial⟩ rfl rfl ?_
  refine AO.guard [13] rfl ⟨fun h => h, trivial⟩ (fun hg => len_map_ok T rfl rfl rfl) rfl ?_
  refine AO.pureG T [14] rfl ⟨fun h => h, trivial⟩ rfl rfl ?_
  refine AO.val rfl rfl (pick_or rfl rfl rfl rfl) ?_
  refine AO.nil ?_
  refine AW.cond (b := ((!x1) || ((x3.points.length : Int) == 0))) rfl (fun hc => ?_) (fun hc => ?_)
  · replace hH := condT hc hH
    refine AW.seq ?_
    refine AW.region ?_
    refine AO.pure T rfl rfl rfl ?_
    refine AO.pure T rfl rfl rfl ?_
    refine AO.nil ?_
    refine AW.ret ?_
    cases someE hH
    exact ⟨trivial, _, [], rfl, .t (expLG_cons (.c .v) (expLG_cons (.c .v) (expLG_nil))), by decide⟩
  · replace hH := condF hc hH
    refine AW.skip ?_
    refine AW.seq ?_
    obtain ⟨x5, hx6, hH⟩ := bindE hH
    obtain ⟨x7, hx8, hH⟩ := bindE hH
    obtain ⟨x9, hx10, hH⟩ := bindE hH
    refine AW.drawn 5 2 mix (by kernel_rfl) rfl ?_
    refine AD.pure T rfl rfl rfl ?_
    refine AD.pure T rfl rfl rfl ?_
    refine AD.val rfl rfl (callV_ok rfl rfl rfl rfl (impl_lineOf_ok _ _ _ (hx6)) rfl) ?_
    refine AD.pure T rfl rfl rfl ?_
    refine AD.pure T rfl rfl rfl ?_
    refine AD.nil ?_
    refine AO.val rfl rfl (callV_ok rfl rfl rfl rfl (impl_counting_ok _ _ _ (hx8)) rfl) ?_
    refine AO.val rfl rfl (callV_ok rfl rfl rfl rfl (impl_sumInts_ok _ _ (hx10)) rfl) ?_
    refine AO.pure T rfl rfl rfl ?_
    refine AO.pure T rfl rfl rfl ?_
    refine AO.nil ?_
    refine AW.ret ?_
    cases someE hH
    exact ⟨trivial, _, [], rfl, .t (expLG_cons (.c .v) (expLG_cons (.c .v) (expLG_nil))), by decide⟩

def spec_IsSeason_p (sA : Season) : Option Bool :=
  (spec_seGood_p sA).bind fun x1 =>
  some x1
theorem spec_IsSeason_ok (sA : Season) (r : Bool) (hH : spec_IsSeason_p sA = some r) : SpecR Try.prog 15 [.g (encSeason sA)] (.v (.bool r)) := by
  refine fn_ok T Try.func15 rfl (by decide) rfl ?_
  refine AW.seq ?_
  refine AW.region ?_
  refine AO.step rfl (box_ok T rfl 1 rfl rfl rfl rfl) ?_
  refine AO.pure T rfl rfl rfl ?_
  refine AO.nil ?_
  refine AW.seq ?_
  obtain ⟨x1, hx2, hH⟩ := bindE hH
  refine AW.region ?_
  refine AO.pure T rfl rfl rfl ?_
  refine AO.val rfl rfl (callV_ok rfl rfl rfl rfl (spec_seGood_ok _ _ (hx2)) rfl) ?_
  refine AO.pure T rfl rfl rfl ?_
  refine AO.nil ?_
  refine AW.ret ?_
  cases someE hH
  exact ⟨trivial, _, [], rfl, .c (.c .v), by decide⟩

def spec_seIndex_l1 (sA : Season) (skater : Int) : Nat → Int → Option Int
  | 0, _ => none
  | k13 + 1, v19 =>
    (opt (decide (v19 < (sA.lines.length : Int))) default (getI sA.lines v19)).bind fun x21 =>
    cond (decide (v19 < (sA.lines.length : Int)) && decide (x21.skater < skater))
      (spec_seIndex_l1 sA skater k13 (w64 (v19 + 1)))
      (some v19)
def spec_seIndex_p (fuel : Nat) (sA : Season) (skater : Int) : Option Int :=
  (spec_seIndex_l1 sA skater fuel 0).bind fun v10 =>
  some v10
theorem spec_seIndex_ok (fuel : Nat) (sA : Season) (skater : Int) (r : Int) (hH : spec_seIndex_p fuel sA skater = some r) : SpecR Try.prog 107 [.g (encSeason sA), .v (.int .i64 skater)] (.v (.int .i64 r)) := by
  refine fn_ok T Try.func107 rfl (by decide) rfl ?_
  refine AW.seq ?_
  refine AW.region ?_
  refine AO.step rfl (box_ok T rfl 1 rfl rfl rfl rfl) ?_
  refine AO.pure T rfl rfl rfl ?_
  refine AO.nil ?_
  refine AW.seq ?_
  refine AW.region ?_
  refine AO.pure T rfl rfl rfl ?_
  refine AO.nil ?_
  obtain ⟨o11, hH, hK12⟩ := bindE hH
  refine AW.seqJ (fun s : Int => (⟨[(5, .v (.int .i64 s))], [], 24, []⟩ : St)) (fun s => s = o11) ?_ ?_
  · refine AW.block ?_
    refine AW.loopS (fun s : Nat × Int => (⟨[(1, .v (.int .i64 skater)), (2, .p 1 0), (5, .v (.int .i64 s.2))], [(1, .box [.v (.int .i64 sA.best), .s (List.map encLine sA.lines)])], 24, []⟩ : St)) (fun s => spec_seIndex_l1 sA skater s.1 s.2 = some o11) (fun s => s.1) (fuel, 0) hH ?_ ?_
    · exact Le.cut 0 0 rfl (by repeat' (first | exact trivial | refine ⟨⟨_, rfl, rfl⟩, ?_⟩)) (by repeat' (first | exact trivial | refine ⟨⟨_, rfl, rfl⟩, ?_⟩)) rfl
    · rintro ⟨k13, v19⟩ hH
      replace hH : spec_seIndex_l1 sA skater k13 v19 = some o11 := hH
      show AW _ _ _ (⟨[(1, .v (.int .i64 skater)), (2, .p 1 0), (5, .v (.int .i64 v19))], [(1, .box [.v (.int .i64 sA.best), .s (List.map encLine sA.lines)])], 24, []⟩ : St)
      cases k13 with
      | zero => cases (show none = some _ from hH)
      | succ k13 =>
        rw [spec_seIndex_l1] at hH
        refine AW.seq ?_
        refine AW.seq ?_
        obtain ⟨x21, hx22, hH⟩ := bindE hH
        refine AW.region ?_
        refine AO.pure T rfl rfl rfl ?_
        refine AO.pure T rfl rfl rfl ?_
        refine AO.pure T rfl rfl rfl ?_
        refine AO.val rfl rfl (len_map_ok T rfl rfl rfl) ?_
        refine AO.pure T rfl rfl rfl ?_
        refine AO.pure T rfl rfl rfl ?_
        refine AO.pureG T [] rfl trivial rfl rfl ?_
        refine AO.pureG T [12] rfl ⟨fun h => h, trivial⟩ rfl rfl ?_
        refine AO.pureG T [] rfl trivial rfl rfl ?_
        refine AO.guard [13, 14] rfl ⟨fun h => h, fun h => h, trivial⟩ (fun hg => ix_map_ok T rfl rfl rfl rfl rfl (optT hx22 hg) rfl) rfl ?_
        refine AO.pureG T [15] rfl ⟨fun h => h, trivial⟩ rfl rfl ?_
        refine AO.pureG T [16] rfl ⟨fun h => h, trivial⟩ rfl rfl ?_
        refine AO.pureG T [] rfl trivial rfl rfl ?_
        refine AO.pureG T [17, 18] rfl ⟨fun h => h, fun h => h, trivial⟩ rfl rfl ?_
        refine AO.val rfl rfl (pick_and rfl rfl rfl rfl) ?_
        refine AO.nil ?_
        refine AW.cond (b := (decide (v19 < (sA.lines.length : Int)) && decide (x21.skater < skater))) rfl (fun hc => ?_) (fun hc => ?_)
        · replace hH := condT hc hH
          refine AW.skip ?_
          refine AW.block ?_
          refine AW.region ?_
          refine AO.pure T rfl rfl rfl ?_
          refine AO.val rfl rfl (arw_ok rfl rfl rfl rfl) ?_
          refine AO.pure T rfl rfl rfl ?_
          refine AO.nil ?_
          refine ⟨(k13, w64 (v19 + 1)), hH, Nat.lt_succ_self _, ?_⟩
          exact Le.cut 0 0 rfl (by repeat' (first | exact trivial | refine ⟨⟨_, rfl, rfl⟩, ?_⟩)) (by repeat' (first | exact trivial | refine ⟨⟨_, rfl, rfl⟩, ?_⟩)) rfl
        · replace hH := condF hc hH
          refine AW.exit ?_
          refine ⟨_, someE hH, ?_⟩
          exact Le.cut 0 0 rfl (by repeat' (first | exact trivial | refine ⟨⟨_, rfl, rfl⟩, ?_⟩)) (by repeat' (first | exact trivial | refine ⟨⟨_, rfl, rfl⟩, ?_⟩)) rfl
  · rintro v10 hs
    subst hs
    replace hH := hK12
    try dsimp only [flow, flowE] at hH
    show AW _ _ _ (⟨[(5, .v (.int .i64 v10))], [], 24, []⟩ : St)
    refine AW.seq ?_
    refine AW.region ?_
    refine AO.pure T rfl rfl rfl ?_
    refine AO.pure T rfl rfl rfl ?_
    refine AO.nil ?_
    refine AW.ret ?_
    cases someE hH
    exact ⟨trivial, _, [], rfl, .c (.c .v), by decide⟩

def spec_seHas_p (fuel : Nat) (sA : Season) (skater : Int) : Option Int :=
  (spec_seIndex_p fuel sA skater).bind fun x1 =>
  (opt (!(x1 == (sA.lines.length : Int))) default (getI sA.lines x1)).bind fun x3 =>
  cond ((x1 == (sA.lines.length : Int)) || (x3.skater != skater))
    (some (-1))
    (some x1)
theorem spec_seHas_ok (fuel : Nat) (sA : Season) (skater : Int) (r : Int) (hH : spec_seHas_p fuel sA skater = some r) : SpecR Try.prog 67 [.g (encSeason sA), .v (.int .i64 skater)] (.v (.int .i64 r)) := by
  refine fn_ok T Try.func67 rfl (by decide) rfl ?_
  refine AW.seq ?_
  refine AW.region ?_
  refine AO.step rfl (box_ok T rfl 1 rfl rfl rfl rfl) ?_
  refine AO.pure T rfl rfl rfl ?_
  refine AO.nil ?_
  refine AW.seq ?_
  obtain ⟨x1, hx2, hH⟩ := bindE hH
  refine AW.region ?_
  refine AO.pure T rfl rfl rfl ?_
  refine AO.pure T rfl rfl rfl ?_
  refine AO.val rfl rfl (callV_ok rfl rfl rfl rfl (spec_seIndex_ok fuel _ _ _ (hx2)) rfl) ?_
  refine AO.pure T rfl rfl rfl ?_
  refine AO.nil ?_
  refine AW.seq ?_
  refine AW.seq ?_
  obtain ⟨x3, hx4, hH⟩ := bindE hH
  refine AW.region ?_
  refine AO.pure T rfl rfl rfl ?_
  refine AO.pure T rfl rfl rfl ?_
  refine AO.pure T rfl rfl rfl ?_
  refine AO.val rfl rfl (len_map_ok T rfl rfl rfl) ?_
  refine AO.pure T rfl rfl rfl ?_
  refine AO.pure T rfl rfl rfl ?_
  refine AO.pureG T [] rfl trivial rfl rfl ?_
  refine AO.pureG T [15] rfl ⟨fun h => h, trivial⟩ rfl rfl ?_
  refine AO.pureG T [] rfl trivial rfl rfl ?_
  refine AO.guard [16, 17] rfl ⟨fun h => h, fun h => h, trivial⟩ (fun hg => ix_map_ok T rfl rfl rfl rfl rfl (optT hx4 hg) rfl) rfl ?_
  refine AO.pureG T [18] rfl ⟨fun h => h, trivial⟩ rfl rfl ?_
  refine AO.pureG T [19] rfl ⟨fun h => h, trivial⟩ rfl rfl ?_
  refine AO.pureG T [] rfl trivial rfl rfl ?_
  refine AO.pureG T [20, 21] rfl ⟨fun h => h, fun h => h, trivial⟩ rfl rfl ?_
  refine AO.val rfl rfl (pick_or rfl rfl rfl rfl) ?_
  refine AO.nil ?_
  refine AW.cond (b := ((x1 == (sA.lines.length : Int)) || (x3.skater != skater))) rfl (fun hc => ?_) (fun hc => ?_)
  · replace hH := condT hc hH
    refine AW.seq ?_
    refine AW.region ?_
    refine AO.pure T rfl rfl rfl ?_
    refine AO.nil ?_
    refine AW.ret ?_
    cases someE hH
    exact ⟨trivial, _, [], rfl, .c (.c .v), by decide⟩
  · replace hH := condF hc hH
    refine AW.skip ?_
    refine AW.seq ?_
    refine AW.region ?_
    refine AO.pure T rfl rfl rfl ?_
    refine AO.pure T rfl rfl rfl ?_
    refine AO.nil ?_
    refine AW.ret ?_
    cases someE hH
    exact ⟨trivial, _, [], rfl, .c (.c .v), by decide⟩

def spec_TotalOf_p (fuel : Nat) (sA : Season) (skater : Int) : Option (Int × Bool) :=
  (spec_seGood_p sA).bind fun x1 =>
  (opt (!(!x1)) default (spec_seHas_p fuel sA skater)).bind fun x3 =>
  cond ((!x1) || decide (x3 < 0))
    (some (0, false))
    ((spec_seHas_p fuel sA skater).bind fun x5 =>
    (spec_seTotal_p sA x5).bind fun x7 =>
    some (x7, true))
theorem spec_TotalOf_ok (fuel : Nat) (sA : Season) (skater : Int) (r : (Int × Bool)) (hH : spec_TotalOf_p fuel sA skater = some r) : SpecR Try.prog 19 [.g (encSeason sA), .v (.int .i64 skater)] (.t [.v (.int .i64 r.1), .v (.bool r.2)]) := by
  refine fn_ok T Try.func19 rfl (by decide) rfl ?_
  refine AW.seq ?_
  refine AW.region ?_
  refine AO.step rfl (box_ok T rfl 1 rfl rfl rfl rfl) ?_
  refine AO.pure T rfl rfl rfl ?_
  refine AO.pure T rfl rfl rfl ?_
  refine AO.nil ?_
  refine AW.seq ?_
  refine AW.seq ?_
  obtain ⟨x1, hx2, hH⟩ := bindE hH
  obtain ⟨x3, hx4, hH⟩ := bindE hH
  refine AW.region ?_
  refine AO.pure T rfl rfl rfl ?_
  refine AO.val rfl rfl (callV_ok rfl rfl rfl rfl (spec_seGood_ok _ _ (hx2)) rfl) ?_
  refine AO.pure T rfl rfl rfl ?_
  refine AO.pure T rfl rfl rfl ?_
  refine AO.pureG T [] rfl trivial rfl rfl ?_
  refine AO.pureG T [] rfl trivial rfl rfl ?_
  refine AO.guard [10, 11] rfl ⟨fun h => h, fun h => h, trivial⟩ (fun hg => callV_ok rfl rfl rfl rfl (spec_seHas_ok fuel _ _ _ (optT hx4 hg)) rfl) rfl ?_
  refine AO.pureG T [12] rfl ⟨fun h => h, trivial⟩ rfl rfl ?_
  refine AO.val rfl rfl (pick_or rfl rfl rfl rfl) ?_
  refine AO.nil ?_
  refine AW.cond (b := ((!x1) || decide (x3 < 0))) rfl (fun hc => ?_) (fun hc => ?_)
  · replace hH := condT hc hH
    refine AW.seq ?_
    refine AW.region ?_
    refine AO.pure T rfl rfl rfl ?_
    refine AO.pure T rfl rfl rfl ?_
    refine AO.nil ?_
    refine AW.ret ?_
    cases someE hH
    exact ⟨trivial, _, [], rfl, .t (expLG_cons (.c .v) (expLG_cons (.c .v) (expLG_nil))), by decide⟩
  · replace hH := condF hc hH
    refine AW.skip ?_
    refine AW.seq ?_
    obtain ⟨x5, hx6, hH⟩ := bindE hH
    obtain ⟨x7, hx8, hH⟩ := bindE hH
    refine AW.drawn 4 2 mix (by kernel_rfl) rfl ?_
    refine AD.pure T rfl rfl rfl ?_
    refine AD.pure T rfl rfl rfl ?_
    refine AD.pure T rfl rfl rfl ?_
    refine AD.val rfl rfl (callV_ok rfl rfl rfl rfl (spec_seHas_ok fuel _ _ _ (hx6)) rfl) ?_
    refine AD.nil ?_
    refine AO.val rfl rfl (callV_ok rfl rfl rfl rfl (spec_seTotal_ok _ _ _ (hx8)) rfl) ?_
    refine AO.pure T rfl rfl rfl ?_
    refine AO.pure T rfl rfl rfl ?_
    refine AO.nil ?_
    refine AW.ret ?_
    cases someE hH
    exact ⟨trivial, _, [], rfl, .t (expLG_cons (.c .v) (expLG_cons (.c .v) (expLG_nil))), by decide⟩

end Go.Proofs.Ytfgpeaiepfdemaa

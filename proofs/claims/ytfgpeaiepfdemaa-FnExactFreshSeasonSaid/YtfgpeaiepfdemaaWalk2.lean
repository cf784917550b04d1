/- The walk, part 2: what each function reached by the law FnExactFreshSeason computes. No condition. -/
import Derived.Test.YtfgpeaiepfdemaaWalk1
set_option maxRecDepth 4000
set_option linter.unusedVariables false
set_option linter.unusedSimpArgs false
set_option linter.unusedSectionVars false

namespace Go.Proofs.Ytfgpeaiepfdemaa
open Go.AM

def impl_entriesOf_l2 (y2 : Line) : List Int → Nat → List Entry → Option (List Entry)
  | [], k119, v134 =>
    some v134
  | y120 :: ys121, k119, v134 =>
    (getI y2.points (k119 : Int)).bind fun x136 =>
    (need (fitsB 24 (v134.length + ([(Entry.mk y120 y2.skater x136)]).length))).bind fun u138 =>
    impl_entriesOf_l2 y2 ys121 (k119 + 1) (v134 ++ [(Entry.mk y120 y2.skater x136)])
def impl_entriesOf_l1 : List Line → Nat → List Entry → Option ((List Entry))
  | [], k1, v94 =>
    some v94
  | y2 :: ys3, k1, v94 =>
    (impl_entriesOf_l2 y2 y2.events 0 v94).bind fun v116 =>
    impl_entriesOf_l1 ys3 (k1 + 1) v116
def impl_entriesOf_p (sA : Season) : Option (List Entry) :=
  impl_entriesOf_l1 sA.lines 0 []
theorem impl_entriesOf_ok (sA : Season) (r : (List Entry)) (hH : impl_entriesOf_p sA = some r) : SpecR Try.prog 63 [.g (encSeason sA)] (.w 3 (r.map encEntry)) := by
  refine fn_ok T Try.func63 rfl (by decide) rfl ?_
  refine AW.seq ?_
  refine AW.region ?_
  refine AO.step rfl (box_ok T rfl 1 rfl rfl rfl rfl) ?_
  refine AO.pure T rfl rfl rfl ?_
  refine AO.nil ?_
  refine AW.seq ?_
  refine AW.region ?_
  refine AO.step rfl (mk0_ok T rfl rfl rfl rfl) ?_
  refine AO.pure T rfl rfl rfl ?_
  refine AO.nil ?_
  refine AW.seq ?_
  refine AW.seq ?_
  refine AW.region ?_
  refine AO.pure T rfl rfl rfl ?_
  refine AO.pure T rfl rfl rfl ?_
  refine AO.val rfl rfl (len_map_ok T rfl rfl rfl) ?_
  refine AO.pure T rfl rfl rfl ?_
  refine AO.nil ?_
  refine AW.block ?_
  refine AW.loopS (fun s : Nat × (List Entry) => (⟨[(3, .R 6), (10, .s (List.map encLine sA.lines)), (11, .v (.int .i64 (sA.lines.length : Int))), (12, .v (.int .i64 (s.1 : Int)))], [(6, .row 3 (List.map encEntry s.2))], 39, []⟩ : St)) (fun s => s.1 ≤ sA.lines.length ∧ impl_entriesOf_l1 (sA.lines.drop s.1) s.1 s.2 = some r) (fun s => sA.lines.length - s.1) (0, []) ⟨Nat.zero_le _, hH⟩ ?_ ?_
  · refine Le.trans (Le.void 3 6 3 rfl rfl) ?_
    exact Le.cut 0 0 rfl (by repeat' (first | exact trivial | refine ⟨⟨_, rfl, rfl⟩, ?_⟩)) (by repeat' (first | exact trivial | refine ⟨⟨_, rfl, rfl⟩, ?_⟩)) rfl
  · rintro ⟨k1, v94⟩ ⟨hk, hH⟩
    replace hH : impl_entriesOf_l1 (sA.lines.drop k1) k1 v94 = some r := hH
    show AW _ _ _ (⟨[(3, .R 6), (10, .s (List.map encLine sA.lines)), (11, .v (.int .i64 (sA.lines.length : Int))), (12, .v (.int .i64 (k1 : Int)))], [(6, .row 3 (List.map encEntry v94))], 39, []⟩ : St)
    refine AW.boundM (t := 10) (l := sA.lines) rfl (fun hb5 => ?_)
    cases hd4 : sA.lines.drop k1 with
    | nil =>
      rw [hd4] at hH
      rw [impl_entriesOf_l1] at hH
      have hlt6 := drop_ge hd4
      refine AW.seq ?_
      refine AW.region ?_
      refine AO.pure T rfl rfl rfl ?_
      refine AO.nil ?_
      refine AW.seq ?_
      refine AW.condF' (b := decide ((k1 : Int) < (sA.lines.length : Int))) rfl (rngF hlt6) ?_
      refine AW.exit ?_
      refine AW.seq ?_
      refine AW.region ?_
      refine AO.pure T rfl rfl rfl ?_
      refine AO.pure T rfl rfl rfl ?_
      refine AO.nil ?_
      refine AW.ret ?_
      cases someE hH
      exact ⟨trivial, _, [6], rfl, .c (.c (.rowR rfl)), by decide⟩
    | cons y2 ys3 =>
      rw [hd4] at hH
      rw [impl_entriesOf_l1] at hH
      have hlt6 := drop_lt hd4
      refine AW.seq ?_
      refine AW.region ?_
      refine AO.pure T rfl rfl rfl ?_
      refine AO.nil ?_
      refine AW.seq ?_
      refine AW.condT' (b := decide ((k1 : Int) < (sA.lines.length : Int))) rfl (rngT hlt6) ?_
      refine AW.skip ?_
      obtain ⟨o117, hH, hK118⟩ := bindE hH
      refine AW.seqJ (fun s : List Entry => (⟨[(3, .R 6), (10, .s (List.map encLine sA.lines)), (11, .v (.int .i64 (sA.lines.length : Int))), (12, .v (.int .i64 (k1 : Int)))], [(6, .row 3 (List.map encEntry s))], 39, []⟩ : St)) (fun s => s = o117) ?_ ?_
      · refine AW.block ?_
        refine AW.seq ?_
        refine AW.region ?_
        refine AO.val rfl rfl (ix_map_ok T rfl rfl rfl rfl rfl (getI_drop hd4) rfl) ?_
        refine AO.pure T rfl rfl rfl ?_
        refine AO.step rfl (alloc_ok T rfl 37 rfl rfl rfl rfl rfl) ?_
        refine AO.step rfl (store_ok T rfl rfl rfl rfl rfl rfl rfl rfl rfl) ?_
        refine AO.nil ?_
        refine AW.seq ?_
        refine AW.region ?_
        refine AO.pure T rfl rfl rfl ?_
        refine AO.pure T rfl rfl rfl ?_
        refine AO.val rfl rfl (len_map_ok T rfl rfl rfl) ?_
        refine AO.pure T rfl rfl rfl ?_
        refine AO.nil ?_
        refine AW.block ?_
        refine AW.loopS (fun s : Nat × (List Entry) => (⟨[(3, .R 6), (5, .p 37 0), (10, .s (List.map encLine sA.lines)), (11, .v (.int .i64 (sA.lines.length : Int))), (12, .v (.int .i64 (k1 : Int))), (17, .s (List.map encInt y2.events)), (18, .v (.int .i64 (y2.events.length : Int))), (19, .v (.int .i64 (s.1 : Int)))], [(6, .row 3 (List.map encEntry s.2)), (37, .box [.v (.int .i64 y2.skater), .s (List.map encInt y2.events), .s (List.map encInt y2.points)])], 39, []⟩ : St)) (fun s => s.1 ≤ y2.events.length ∧ impl_entriesOf_l2 y2 (y2.events.drop s.1) s.1 s.2 = some o117) (fun s => y2.events.length - s.1) (0, v94) ⟨Nat.zero_le _, hH⟩ ?_ ?_
        · exact Le.cut 0 0 rfl (by repeat' (first | exact trivial | refine ⟨⟨_, rfl, rfl⟩, ?_⟩)) (by repeat' (first | exact trivial | refine ⟨⟨_, rfl, rfl⟩, ?_⟩)) rfl
        · rintro ⟨k119, v134⟩ ⟨hk, hH⟩
          replace hH : impl_entriesOf_l2 y2 (y2.events.drop k119) k119 v134 = some o117 := hH
          show AW _ _ _ (⟨[(3, .R 6), (5, .p 37 0), (10, .s (List.map encLine sA.lines)), (11, .v (.int .i64 (sA.lines.length : Int))), (12, .v (.int .i64 (k1 : Int))), (17, .s (List.map encInt y2.events)), (18, .v (.int .i64 (y2.events.length : Int))), (19, .v (.int .i64 (k119 : Int)))], [(6, .row 3 (List.map encEntry v134)), (37, .box [.v (.int .i64 y2.skater), .s (List.map encInt y2.events), .s (List.map encInt y2.points)])], 39, []⟩ : St)
          refine AW.boundM (t := 17) (l := y2.events) rfl (fun hb123 => ?_)
          cases hd122 : y2.events.drop k119 with
          | nil =>
            rw [hd122] at hH
            rw [impl_entriesOf_l2] at hH
            have hlt124 := drop_ge hd122
            refine AW.seq ?_
            refine AW.region ?_
            refine AO.pure T rfl rfl rfl ?_
            refine AO.nil ?_
            refine AW.seq ?_
            refine AW.condF' (b := decide ((k119 : Int) < (y2.events.length : Int))) rfl (rngF hlt124) ?_
            refine AW.exit ?_
            refine ⟨_, someE hH, ?_⟩
            exact Le.cut 0 0 rfl (by repeat' (first | exact trivial | refine ⟨⟨_, rfl, rfl⟩, ?_⟩)) (by repeat' (first | exact trivial | refine ⟨⟨_, rfl, rfl⟩, ?_⟩)) rfl
          | cons y120 ys121 =>
            rw [hd122] at hH
            rw [impl_entriesOf_l2] at hH
            have hlt124 := drop_lt hd122
            refine AW.seq ?_
            refine AW.region ?_
            refine AO.pure T rfl rfl rfl ?_
            refine AO.nil ?_
            refine AW.seq ?_
            refine AW.condT' (b := decide ((k119 : Int) < (y2.events.length : Int))) rfl (rngT hlt124) ?_
            refine AW.skip ?_
            refine AW.seq ?_
            refine AW.block ?_
            refine AW.seq ?_
            refine AW.region ?_
            refine AO.pure T rfl rfl rfl ?_
            refine AO.val rfl rfl (ix_map_ok T rfl rfl rfl rfl rfl (getI_drop hd122) rfl) ?_
            refine AO.pure T rfl rfl rfl ?_
            refine AO.pure T rfl rfl rfl ?_
            refine AO.pure T rfl rfl rfl ?_
            refine AO.nil ?_
            obtain ⟨x136, hx137, hH⟩ := bindE hH
            obtain ⟨u138, hx139, hH⟩ := bindE hH
            refine AW.drawn 11 42 [] mix (by kernel_rfl) rfl ?_
            refine AD.pure T rfl rfl rfl ?_
            refine AD.pure T rfl rfl rfl ?_
            refine AD.pure T rfl rfl rfl ?_
            refine AD.pure T rfl rfl rfl ?_
            refine AD.pure T rfl rfl rfl ?_
            refine AD.pure T rfl rfl rfl ?_
            refine AD.pure T rfl rfl rfl ?_
            refine AD.val rfl rfl (ix_map_ok T rfl rfl rfl rfl rfl (hx137) rfl) ?_
            refine AD.pure T rfl rfl rfl ?_
            refine AD.pure T rfl rfl rfl ?_
            refine AD.q (FStep.mk T (f := encEntry) (l := [(Entry.mk y120 y2.skater x136)]) rfl rfl rfl rfl rfl rfl rfl rfl rfl (fun _ => rfl) rfl rfl rfl rfl) (by simp [namesIn]) (Nat.le_succ _) rfl ?_
            refine AD.nil ?_
            refine AO.step rfl (app_rv_map T rfl 43 rfl rfl rfl rfl rfl (by decide) rfl rfl rfl rfl (fun _ => rfl) (needT (hx139)) rfl rfl) ?_
            refine AO.pure T rfl rfl rfl ?_
            refine AO.nil ?_
            refine AW.region ?_
            refine AO.val rfl rfl (ar_ok rfl rfl rfl rfl (inI_succ hlt124 hb123)) ?_
            refine AO.pure T rfl rfl rfl ?_
            refine AO.nil ?_
            refine ⟨(k119 + 1, (v134 ++ [(Entry.mk y120 y2.skater x136)])), ⟨Nat.succ_le_of_lt hlt124, (by rw [drop_succ_of hd122]; exact hH)⟩, (by have := hlt124; dsimp only; omega), ?_⟩
            exact Le.cut 43 6 rfl (by repeat' (first | exact trivial | refine ⟨⟨_, rfl, rfl⟩, ?_⟩)) (by repeat' (first | exact trivial | refine ⟨⟨_, rfl, rfl⟩, ?_⟩)) rfl
      · rintro v116 hs
        subst hs
        replace hH := hK118
        try dsimp only [flow, flowE] at hH
        show AW _ _ _ (⟨[(3, .R 6), (10, .s (List.map encLine sA.lines)), (11, .v (.int .i64 (sA.lines.length : Int))), (12, .v (.int .i64 (k1 : Int)))], [(6, .row 3 (List.map encEntry v116))], 39, []⟩ : St)
        refine AW.region ?_
        refine AO.val rfl rfl (ar_ok rfl rfl rfl rfl (inI_succ hlt6 hb5)) ?_
        refine AO.pure T rfl rfl rfl ?_
        refine AO.nil ?_
        refine ⟨(k1 + 1, v116), ⟨Nat.succ_le_of_lt hlt6, (by rw [drop_succ_of hd4]; exact hH)⟩, (by have := hlt6; dsimp only; omega), ?_⟩
        exact Le.cut 0 0 rfl (by repeat' (first | exact trivial | refine ⟨⟨_, rfl, rfl⟩, ?_⟩)) (by repeat' (first | exact trivial | refine ⟨⟨_, rfl, rfl⟩, ?_⟩)) rfl

def slices_IsSortedFunc_Entry_l1 (x : List Entry) (cmp : Entry → Entry → Option Int) : Nat → Int → Option Bool
  | 0, _ => none
  | k1 + 1, v15 =>
    cond (decide (v15 > 0))
      ((getI x v15).bind fun x17 =>
      (getI x (w64 (v15 - 1))).bind fun x19 =>
      (cmp x17 x19).bind fun x21 =>
      cond (decide (x21 < 0))
        (some false)
        (slices_IsSortedFunc_Entry_l1 x cmp k1 (w64 (v15 - 1))))
      (some true)
def slices_IsSortedFunc_Entry_p (fuel : Nat) (x : List Entry) (cmp : Entry → Entry → Option Int) : Option Bool :=
  slices_IsSortedFunc_Entry_l1 x cmp fuel (w64 ((x.length : Int) - 1))
theorem slices_IsSortedFunc_Entry_ok (fuel : Nat) (x : List Entry) (cmp_f : Nat) (cmp_c : List D) (cmp_k : cmp_c.all D.capOk = true) (cmp : Entry → Entry → Option Int) (cmp_h : ∀ (a0 : Entry) (a1 : Entry) (q : Int), cmp a0 a1 = some q → SpecR Try.prog cmp_f ([.g (encEntry a0), .g (encEntry a1)] ++ cmp_c) (.v (.int .i64 q))) (r : Bool) (hH : slices_IsSortedFunc_Entry_p fuel x cmp = some r) : SpecR Try.prog 64 [.s (List.map encEntry x), .f cmp_f cmp_c] (.v (.bool r)) := by
  have cmp_r := cap_cfree cmp_k
  refine fn_ok T Try.func64 rfl (by decide) rfl ?_
  refine AW.seq ?_
  refine AW.region ?_
  refine AO.pure T rfl rfl rfl ?_
  refine AO.nil ?_
  refine AW.seq ?_
  refine AW.seq ?_
  refine AW.region ?_
  refine AO.pure T rfl rfl rfl ?_
  refine AO.val rfl rfl (len_map_ok T rfl rfl rfl) ?_
  refine AO.val rfl rfl (arw_ok rfl rfl rfl rfl) ?_
  refine AO.pure T rfl rfl rfl ?_
  refine AO.nil ?_
  refine AW.block ?_
  refine AW.loopS (fun s : Nat × Int => (⟨[(0, .s (List.map encEntry x)), (1, .f cmp_f cmp_c), (5, .v (.int .i64 s.2))], [], 25, []⟩ : St)) (fun s => slices_IsSortedFunc_Entry_l1 x cmp s.1 s.2 = some r) (fun s => s.1) (fuel, w64 ((x.length : Int) - 1)) hH ?_ ?_
  · exact Le.cut 0 0 rfl ⟨⟨_, rfl, rfl⟩, ⟨_, rfl, ren_fF cmp_r⟩, ⟨_, rfl, rfl⟩, trivial⟩ (by repeat' (first | exact trivial | refine ⟨⟨_, rfl, rfl⟩, ?_⟩)) (andT (allC rfl (allC (known_fF cmp_r) (allC rfl allN))) rfl)
  · rintro ⟨k1, v15⟩ hH
    replace hH : slices_IsSortedFunc_Entry_l1 x cmp k1 v15 = some r := hH
    show AW _ _ _ (⟨[(0, .s (List.map encEntry x)), (1, .f cmp_f cmp_c), (5, .v (.int .i64 v15))], [], 25, []⟩ : St)
    cases k1 with
    | zero => cases (show none = some _ from hH)
    | succ k1 =>
      rw [slices_IsSortedFunc_Entry_l1] at hH
      refine AW.seq ?_
      refine AW.seq ?_
      refine AW.region ?_
      refine AO.pure T rfl rfl rfl ?_
      refine AO.pure T rfl rfl rfl ?_
      refine AO.nil ?_
      refine AW.cond (b := decide (v15 > 0)) rfl (fun hc => ?_) (fun hc => ?_)
      · replace hH := condT hc hH
        refine AW.skip ?_
        refine AW.seq ?_
        refine AW.block ?_
        refine AW.seq ?_
        obtain ⟨x17, hx18, hH⟩ := bindE hH
        obtain ⟨x19, hx20, hH⟩ := bindE hH
        obtain ⟨x21, hx22, hH⟩ := bindE hH
        refine AW.drawn 10 1 [] mix (by kernel_rfl) rfl ?_
        refine AD.pure T rfl rfl rfl ?_
        refine AD.pure T rfl rfl rfl ?_
        refine AD.pure T rfl rfl rfl ?_
        refine AD.val rfl rfl (ix_map_ok T rfl rfl rfl rfl rfl (hx18) rfl) ?_
        refine AD.pure T rfl rfl rfl ?_
        refine AD.pure T rfl rfl rfl ?_
        refine AD.pure T rfl rfl rfl ?_
        refine AD.val rfl rfl (arw_ok rfl rfl rfl rfl) ?_
        refine AD.val rfl rfl (ix_map_ok T rfl rfl rfl rfl rfl (hx20) rfl) ?_
        refine AD.pure T rfl rfl rfl ?_
        refine AD.nil ?_
        refine AO.val rfl rfl (callV_ok rfl rfl rfl (andT rfl (free_cfree cmp_r)) (cmp_h _ _ _ (hx22)) rfl) ?_
        refine AO.pure T rfl rfl rfl ?_
        refine AO.nil ?_
        refine AW.cond (b := decide (x21 < 0)) rfl (fun hc => ?_) (fun hc => ?_)
        · replace hH := condT hc hH
          refine AW.seq ?_
          refine AW.region ?_
          refine AO.pure T rfl rfl rfl ?_
          refine AO.nil ?_
          refine AW.ret ?_
          cases someE hH
          exact ⟨trivial, _, [], rfl, .c (.c .v), by decide⟩
        · replace hH := condF hc hH
          refine AW.skip ?_
          refine AW.region ?_
          refine AO.pure T rfl rfl rfl ?_
          refine AO.val rfl rfl (arw_ok rfl rfl rfl rfl) ?_
          refine AO.pure T rfl rfl rfl ?_
          refine AO.nil ?_
          refine ⟨(k1, w64 (v15 - 1)), hH, Nat.lt_succ_self _, ?_⟩
          exact Le.cut 0 0 rfl ⟨⟨_, rfl, rfl⟩, ⟨_, rfl, ren_fF cmp_r⟩, ⟨_, rfl, rfl⟩, trivial⟩ (by repeat' (first | exact trivial | refine ⟨⟨_, rfl, rfl⟩, ?_⟩)) (andT (allC rfl (allC (known_fF cmp_r) (allC rfl allN))) rfl)
      · replace hH := condF hc hH
        refine AW.exit ?_
        refine AW.seq ?_
        refine AW.region ?_
        refine AO.pure T rfl rfl rfl ?_
        refine AO.nil ?_
        refine AW.ret ?_
        cases someE hH
        exact ⟨trivial, _, [], rfl, .c (.c .v), by decide⟩

def impl_IsSeason_l1 (sA : Season) (fuel : Nat) : List Line → Nat → Option Bool
  | [], k3 =>
    (impl_entriesOf_p sA).bind fun x14 =>
    (impl_AreEntries_p x14).bind fun x16 =>
    (opt x16 default (slices_IsSortedFunc_Entry_p fuel x14 (fun a0 a1 => impl_compareEntries_p a0 a1 ))).bind fun x18 =>
    some (x16 && x18)
  | y4 :: ys5, k3 =>
    cond ((((y4.events.length : Int) == 0) || decide ((y4.events.length : Int) > 80)) || ((y4.events.length : Int) != (y4.points.length : Int)))
      (some false)
      ((opt (decide ((k3 : Int) > 0)) default (getI sA.lines (w64 ((k3 : Int) - 1)))).bind fun x20 =>
      cond (decide ((k3 : Int) > 0) && decide (x20.skater ≥ y4.skater))
        (some false)
        (impl_IsSeason_l1 sA fuel ys5 (k3 + 1)))
def impl_IsSeason_p (fuel : Nat) (sA : Season) : Option Bool :=
  (impl_isBest_p sA.best).bind fun x1 =>
  cond ((!x1) || decide ((sA.lines.length : Int) > 80))
    (some false)
    (impl_IsSeason_l1 sA fuel sA.lines 0)
theorem impl_IsSeason_ok (fuel : Nat) (sA : Season) (r : Bool) (hH : impl_IsSeason_p fuel sA = some r) : SpecR Try.prog 17 [.g (encSeason sA)] (.v (.bool r)) := by
  refine fn_ok T Try.func17 rfl (by decide) rfl ?_
  refine AW.seq ?_
  refine AW.region ?_
  refine AO.step rfl (box_ok T rfl 1 rfl rfl rfl rfl) ?_
  refine AO.pure T rfl rfl rfl ?_
  refine AO.nil ?_
  refine AW.seq ?_
  refine AW.seq ?_
  obtain ⟨x1, hx2, hH⟩ := bindE hH
  refine AW.region ?_
  refine AO.pure T rfl rfl rfl ?_
  refine AO.pure T rfl rfl rfl ?_
  refine AO.val rfl rfl (callV_ok rfl rfl rfl rfl (impl_isBest_ok _ _ (hx2)) rfl) ?_
  refine AO.pure T rfl rfl rfl ?_
  refine AO.pure T rfl rfl rfl ?_
  refine AO.pureG T [] rfl trivial rfl rfl ?_
  refine AO.pureG T [11] rfl ⟨fun h => h, trivial⟩ rfl rfl ?_
  refine AO.guard [12] rfl ⟨fun h => h, trivial⟩ (fun hg => len_map_ok T rfl rfl rfl) rfl ?_
  refine AO.pureG T [13] rfl ⟨fun h => h, trivial⟩ rfl rfl ?_
  refine AO.val rfl rfl (pick_or rfl rfl rfl rfl) ?_
  refine AO.nil ?_
  refine AW.cond (b := ((!x1) || decide ((sA.lines.length : Int) > 80))) rfl (fun hc => ?_) (fun hc => ?_)
  · replace hH := condT hc hH
    refine AW.seq ?_
    refine AW.region ?_
    refine AO.pure T rfl rfl rfl ?_
    refine AO.nil ?_
    refine AW.ret ?_
    cases someE hH
    exact ⟨trivial, _, [], rfl, .c (.c .v), by decide⟩
  · replace hH := condF hc hH
    refine AW.skip ?_
    refine AW.seq ?_
    refine AW.seq ?_
    refine AW.region ?_
    refine AO.pure T rfl rfl rfl ?_
    refine AO.pure T rfl rfl rfl ?_
    refine AO.val rfl rfl (len_map_ok T rfl rfl rfl) ?_
    refine AO.pure T rfl rfl rfl ?_
    refine AO.nil ?_
    refine AW.block ?_
    refine AW.loopS (fun s : Nat => (⟨[(1, .p 1 0), (17, .s (List.map encLine sA.lines)), (18, .v (.int .i64 (sA.lines.length : Int))), (19, .v (.int .i64 (s : Int)))], [(1, .box [.v (.int .i64 sA.best), .s (List.map encLine sA.lines)])], 66, []⟩ : St)) (fun s => s ≤ sA.lines.length ∧ impl_IsSeason_l1 sA fuel (sA.lines.drop s) s = some r) (fun s => sA.lines.length - s) 0 ⟨Nat.zero_le _, hH⟩ ?_ ?_
    · exact Le.cut 0 0 rfl (by repeat' (first | exact trivial | refine ⟨⟨_, rfl, rfl⟩, ?_⟩)) (by repeat' (first | exact trivial | refine ⟨⟨_, rfl, rfl⟩, ?_⟩)) rfl
    · rintro k3 ⟨hk, hH⟩
      replace hH : impl_IsSeason_l1 sA fuel (sA.lines.drop k3) k3 = some r := hH
      show AW _ _ _ (⟨[(1, .p 1 0), (17, .s (List.map encLine sA.lines)), (18, .v (.int .i64 (sA.lines.length : Int))), (19, .v (.int .i64 (k3 : Int)))], [(1, .box [.v (.int .i64 sA.best), .s (List.map encLine sA.lines)])], 66, []⟩ : St)
      refine AW.boundM (t := 17) (l := sA.lines) rfl (fun hb7 => ?_)
      cases hd6 : sA.lines.drop k3 with
      | nil =>
        rw [hd6] at hH
        rw [impl_IsSeason_l1] at hH
        have hlt8 := drop_ge hd6
        refine AW.seq ?_
        refine AW.region ?_
        refine AO.pure T rfl rfl rfl ?_
        refine AO.nil ?_
        refine AW.seq ?_
        refine AW.condF' (b := decide ((k3 : Int) < (sA.lines.length : Int))) rfl (rngF hlt8) ?_
        refine AW.exit ?_
        refine AW.seq ?_
        obtain ⟨x14, hx15, hH⟩ := bindE hH
        refine AW.region ?_
        refine AO.pure T rfl rfl rfl ?_
        refine AO.step rfl (call_ok rfl 4 rfl rfl rfl (impl_entriesOf_ok _ _ (hx15)) rfl rfl rfl) ?_
        refine AO.pure T rfl rfl rfl ?_
        refine AO.nil ?_
        refine AW.seq ?_
        obtain ⟨x16, hx17, hH⟩ := bindE hH
        obtain ⟨x18, hx19, hH⟩ := bindE hH
        refine AW.region ?_
        refine AO.pure T rfl rfl rfl ?_
        refine AO.val rfl rfl (callLV_ok rfl rfl rfl (es := [.s (List.map encEntry x14)]) ⟨(.rowR rfl (.map fun y => .vs rfl)), trivial⟩ (impl_AreEntries_ok _ _ (hx17)) (zfree_v _) rfl) ?_
        refine AO.pure T rfl rfl rfl ?_
        refine AO.pureG T [] rfl trivial rfl rfl ?_
        refine AO.guard [63] rfl ⟨fun h => h, trivial⟩ (fun hg => callLV_ok rfl rfl rfl (es := [.s (List.map encEntry x14), .f 65 []]) ⟨(.rowR rfl (.map fun y => .vs rfl)), .free rfl, trivial⟩ (slices_IsSortedFunc_Entry_ok fuel _ 65 [] rfl (fun a0 a1 => impl_compareEntries_p a0 a1 ) (fun a0 a1 q h => impl_compareEntries_ok a0 a1  q h) _ (optT hx19 hg)) (zfree_v _) rfl) rfl ?_
        refine AO.val rfl rfl (pick_and rfl rfl rfl rfl) ?_
        refine AO.pure T rfl rfl rfl ?_
        refine AO.nil ?_
        refine AW.ret ?_
        cases someE hH
        exact ⟨trivial, _, [], rfl, .c (.c .v), by decide⟩
      | cons y4 ys5 =>
        rw [hd6] at hH
        rw [impl_IsSeason_l1] at hH
        have hlt8 := drop_lt hd6
        refine AW.seq ?_
        refine AW.region ?_
        refine AO.pure T rfl rfl rfl ?_
        refine AO.nil ?_
        refine AW.seq ?_
        refine AW.condT' (b := decide ((k3 : Int) < (sA.lines.length : Int))) rfl (rngT hlt8) ?_
        refine AW.skip ?_
        refine AW.seq ?_
        refine AW.block ?_
        refine AW.seq ?_
        refine AW.region ?_
        refine AO.pure T rfl rfl rfl ?_
        refine AO.val rfl rfl (ix_map_ok T rfl rfl rfl rfl rfl (getI_drop hd6) rfl) ?_
        refine AO.pure T rfl rfl rfl ?_
        refine AO.step rfl (alloc_ok T rfl 5 rfl rfl rfl rfl rfl) ?_
        refine AO.pure T rfl rfl rfl ?_
        refine AO.step rfl (store_ok T rfl rfl rfl rfl rfl rfl rfl rfl rfl) ?_
        refine AO.nil ?_
        refine AW.seq ?_
        refine AW.seq ?_
        refine AW.region ?_
        refine AO.pure T rfl rfl rfl ?_
        refine AO.pure T rfl rfl rfl ?_
        refine AO.val rfl rfl (len_map_ok T rfl rfl rfl) ?_
        refine AO.pure T rfl rfl rfl ?_
        refine AO.pure T rfl rfl rfl ?_
        refine AO.pureG T [] rfl trivial rfl rfl ?_
        refine AO.pureG T [29] rfl ⟨fun h => h, trivial⟩ rfl rfl ?_
        refine AO.guard [30] rfl ⟨fun h => h, trivial⟩ (fun hg => len_map_ok T rfl rfl rfl) rfl ?_
        refine AO.pureG T [31] rfl ⟨fun h => h, trivial⟩ rfl rfl ?_
        refine AO.val rfl rfl (pick_or rfl rfl rfl rfl) ?_
        refine AO.pure T rfl rfl rfl ?_
        refine AO.pureG T [] rfl trivial rfl rfl ?_
        refine AO.pureG T [35] rfl ⟨fun h => h, trivial⟩ rfl rfl ?_
        refine AO.guard [36] rfl ⟨fun h => h, trivial⟩ (fun hg => len_map_ok T rfl rfl rfl) rfl ?_
        refine AO.pureG T [] rfl trivial rfl rfl ?_
        refine AO.pureG T [38] rfl ⟨fun h => h, trivial⟩ rfl rfl ?_
        refine AO.guard [39] rfl ⟨fun h => h, trivial⟩ (fun hg => len_map_ok T rfl rfl rfl) rfl ?_
        refine AO.pureG T [37, 40] rfl ⟨fun h => h, fun h => h, trivial⟩ rfl rfl ?_
        refine AO.val rfl rfl (pick_or rfl rfl rfl rfl) ?_
        refine AO.nil ?_
        refine AW.le (Le.cut 0 0 (σ' := (⟨[(1, .p 1 0), (3, .v (.int .i64 (k3 : Int))), (4, .p 5 0), (17, .s (List.map encLine sA.lines)), (18, .v (.int .i64 (sA.lines.length : Int))), (19, .v (.int .i64 (k3 : Int))), (42, .v (.bool ((((y4.events.length : Int) == 0) || decide ((y4.events.length : Int) > 80)) || ((y4.events.length : Int) != (y4.points.length : Int)))))], [(1, .box [.v (.int .i64 sA.best), .s (List.map encLine sA.lines)]), (5, .box [.v (.int .i64 y4.skater), .s (List.map encInt y4.events), .s (List.map encInt y4.points)])], 66, []⟩ : St)) rfl (by repeat' (first | exact trivial | refine ⟨⟨_, rfl, rfl⟩, ?_⟩)) (by repeat' (first | exact trivial | refine ⟨⟨_, rfl, rfl⟩, ?_⟩)) rfl) ?_
        refine AW.cond (b := ((((y4.events.length : Int) == 0) || decide ((y4.events.length : Int) > 80)) || ((y4.events.length : Int) != (y4.points.length : Int)))) rfl (fun hc => ?_) (fun hc => ?_)
        · replace hH := condT hc hH
          refine AW.seq ?_
          refine AW.region ?_
          refine AO.pure T rfl rfl rfl ?_
          refine AO.nil ?_
          refine AW.ret ?_
          cases someE hH
          exact ⟨trivial, _, [], rfl, .c (.c .v), by decide⟩
        · replace hH := condF hc hH
          refine AW.skip ?_
          refine AW.seq ?_
          obtain ⟨x20, hx21, hH⟩ := bindE hH
          refine AW.drawn 12 6 [] mix (by kernel_rfl) rfl ?_
          refine AD.pure T rfl rfl rfl ?_
          refine AD.pure T rfl rfl rfl ?_
          refine AD.pure T rfl rfl rfl ?_
          refine AD.pureG T [] rfl trivial rfl rfl ?_
          refine AD.pureG T [46] rfl ⟨fun h => h, trivial⟩ rfl rfl ?_
          refine AD.pureG T [] rfl trivial rfl rfl ?_
          refine AD.guard [48] rfl ⟨fun h => h, trivial⟩ (fun hg => arw_ok rfl rfl rfl rfl) rfl ?_
          refine AD.guard [47, 49] rfl ⟨fun h => h, fun h => h, trivial⟩ (fun hg => ix_map_ok T rfl rfl rfl rfl rfl (optT hx21 hg) rfl) rfl ?_
          refine AD.pureG T [50] rfl ⟨fun h => h, trivial⟩ rfl rfl ?_
          refine AD.pureG T [51] rfl ⟨fun h => h, trivial⟩ rfl rfl ?_
          refine AD.pureG T [] rfl trivial rfl rfl ?_
          refine AD.pureG T [53] rfl ⟨fun h => h, trivial⟩ rfl rfl ?_
          refine AD.nil ?_
          refine AO.pureG T [52, 54] rfl ⟨fun h => h, fun h => h, trivial⟩ rfl rfl ?_
          refine AO.val rfl rfl (pick_and rfl rfl rfl rfl) ?_
          refine AO.nil ?_
          refine AW.cond (b := (decide ((k3 : Int) > 0) && decide (x20.skater ≥ y4.skater))) rfl (fun hc => ?_) (fun hc => ?_)
          · replace hH := condT hc hH
            refine AW.seq ?_
            refine AW.region ?_
            refine AO.pure T rfl rfl rfl ?_
            refine AO.nil ?_
            refine AW.ret ?_
            cases someE hH
            exact ⟨trivial, _, [], rfl, .c (.c .v), by decide⟩
          · replace hH := condF hc hH
            refine AW.skip ?_
            refine AW.region ?_
            refine AO.val rfl rfl (ar_ok rfl rfl rfl rfl (inI_succ hlt8 hb7)) ?_
            refine AO.pure T rfl rfl rfl ?_
            refine AO.nil ?_
            refine ⟨k3 + 1, ⟨Nat.succ_le_of_lt hlt8, (by rw [drop_succ_of hd6]; exact hH)⟩, (by have := hlt8; dsimp only; omega), ?_⟩
            exact Le.cut 0 0 rfl (by repeat' (first | exact trivial | refine ⟨⟨_, rfl, rfl⟩, ?_⟩)) (by repeat' (first | exact trivial | refine ⟨⟨_, rfl, rfl⟩, ?_⟩)) rfl

def impl_AddEntry_p (fuel : Nat) (sA : Season) (e : Entry) : Option (Season × Bool) :=
  (impl_IsSeason_p fuel sA).bind fun x1 =>
  cond (!x1)
    (some ((Season.mk 0 []), false))
    ((impl_entriesOf_p sA).bind fun x3 =>
    (need (fitsB 24 (x3.length + ([e]).length))).bind fun u5 =>
    (impl_AreEntries_p (x3 ++ [e])).bind fun x7 =>
    cond (!x7)
      (some ((Season.mk 0 []), false))
      ((impl_freshSeason_p sA.best (x3 ++ [e])).bind fun x9 =>
      some (x9, true)))
theorem impl_AddEntry_ok (fuel : Nat) (sA : Season) (e : Entry) (r : (Season × Bool)) (hH : impl_AddEntry_p fuel sA e = some r) : SpecR Try.prog 41 [.g (encSeason sA), .g (encEntry e)] (.t [.g (encSeasonO r.1), .v (.bool r.2)]) := by
  refine fn_ok T Try.func41 rfl (by decide) rfl ?_
  refine AW.seq ?_
  refine AW.region ?_
  refine AO.step rfl (box_ok T rfl 1 rfl rfl rfl rfl) ?_
  refine AO.step rfl (box_ok T rfl 2 rfl rfl rfl rfl) ?_
  refine AO.step rfl (alloc_ok T rfl 3 rfl rfl rfl rfl rfl) ?_
  refine AO.pure T rfl rfl rfl ?_
  refine AO.nil ?_
  refine AW.seq ?_
  refine AW.seq ?_
  obtain ⟨x1, hx2, hH⟩ := bindE hH
  refine AW.region ?_
  refine AO.pure T rfl rfl rfl ?_
  refine AO.val rfl rfl (callV_ok rfl rfl rfl rfl (impl_IsSeason_ok fuel _ _ (hx2)) rfl) ?_
  refine AO.pure T rfl rfl rfl ?_
  refine AO.nil ?_
  refine AW.cond (b := (!x1)) rfl (fun hc => ?_) (fun hc => ?_)
  · replace hH := condT hc hH
    refine AW.seq ?_
    refine AW.region ?_
    refine AO.pure T rfl rfl rfl ?_
    refine AO.step rfl (store_ok T rfl rfl rfl rfl rfl rfl rfl rfl rfl) ?_
    refine AO.pure T rfl rfl rfl ?_
    refine AO.nil ?_
    refine AW.ret ?_
    cases someE hH
    exact ⟨trivial, _, [], rfl, .t (expLG_cons (.g (expLC_cons .v (expLC_cons .nil (expLC_nil)))) (expLG_cons (.c .v) (expLG_nil))), by decide⟩
  · replace hH := condF hc hH
    refine AW.skip ?_
    refine AW.seq ?_
    obtain ⟨x3, hx4, hH⟩ := bindE hH
    obtain ⟨u5, hx6, hH⟩ := bindE hH
    refine AW.drawn 4 4 [] mix (by kernel_rfl) rfl ?_
    refine AD.pure T rfl rfl rfl ?_
    refine AD.q (FStep.call rfl rfl rfl rfl rfl (impl_entriesOf_ok _ _ (hx4)) rfl rfl) (impT_names _ _) (impT_le _ _) rfl ?_
    refine AD.pure T rfl rfl rfl ?_
    refine AD.q (FStep.mk T (f := encEntry) (l := [e]) rfl rfl rfl rfl rfl rfl rfl rfl rfl (fun _ => rfl) rfl rfl rfl rfl) (by simp [namesIn]) (Nat.le_succ _) rfl ?_
    refine AD.nil ?_
    refine AO.step rfl (app_rv_map T rfl 6 rfl rfl rfl rfl rfl (by decide) rfl rfl rfl rfl (fun _ => rfl) (needT (hx6)) rfl rfl) ?_
    refine AO.pure T rfl rfl rfl ?_
    refine AO.nil ?_
    refine AW.seq ?_
    refine AW.seq ?_
    obtain ⟨x7, hx8, hH⟩ := bindE hH
    refine AW.region ?_
    refine AO.pure T rfl rfl rfl ?_
    refine AO.val rfl rfl (callLV_ok rfl rfl rfl (es := [.s (List.map encEntry (x3 ++ [e]))]) ⟨(.rowR rfl (.map fun y => .vs rfl)), trivial⟩ (impl_AreEntries_ok _ _ (hx8)) (zfree_v _) rfl) ?_
    refine AO.pure T rfl rfl rfl ?_
    refine AO.nil ?_
    refine AW.cond (b := (!x7)) rfl (fun hc => ?_) (fun hc => ?_)
    · replace hH := condT hc hH
      refine AW.seq ?_
      refine AW.region ?_
      refine AO.pure T rfl rfl rfl ?_
      refine AO.step rfl (store_ok T rfl rfl rfl rfl rfl rfl rfl rfl rfl) ?_
      refine AO.pure T rfl rfl rfl ?_
      refine AO.nil ?_
      refine AW.ret ?_
      cases someE hH
      exact ⟨trivial, _, [], rfl, .t (expLG_cons (.g (expLC_cons .v (expLC_cons .nil (expLC_nil)))) (expLG_cons (.c .v) (expLG_nil))), by decide⟩
    · replace hH := condF hc hH
      refine AW.skip ?_
      refine AW.seq ?_
      obtain ⟨x9, hx10, hH⟩ := bindE hH
      refine AW.region ?_
      refine AO.pure T rfl rfl rfl ?_
      refine AO.pure T rfl rfl rfl ?_
      refine AO.pure T rfl rfl rfl ?_
      refine AO.step rfl (callL_ok rfl 7 rfl rfl (es := [.v (.int .i64 sA.best), .s (List.map encEntry (x3 ++ [e]))]) (by exact ⟨.free rfl, (.rowR rfl (.map fun y => .vs rfl)), trivial⟩) (impl_freshSeason_ok _ _ _ (hx10)) (zfree_g (zfl (.cons (zfree_v _) (.cons (zfree_map (fun y => (.cons (zfree_v _) (.cons (zfree_map (fun y => (.cons (zfree_v _) .nil))) (.cons (zfree_map (fun y => (.cons (zfree_v _) .nil))) .nil))))) .nil)))) rfl rfl rfl) ?_
      refine AO.step rfl (store_ok T rfl rfl rfl rfl rfl rfl rfl rfl rfl) ?_
      refine AO.pure T rfl rfl rfl ?_
      refine AO.nil ?_
      refine AW.ret ?_
      cases someE hH
      exact ⟨trivial, _, [7], rfl, .t (expLG_cons (.g (expLC_cons .v (expLC_cons (.rowR rfl) (expLC_nil)))) (expLG_cons (.c .v) (expLG_nil))), by decide⟩

def impl_DropEntry_c1_p (e : Entry) (a : Int) (aB : Int) : Option Bool :=
  some ((e.event == a) && (e.skater == aB))
theorem impl_DropEntry_c1_ok (e : Entry) (a : Int) (aB : Int) (r : Bool) (hH : impl_DropEntry_c1_p e a aB = some r) : SpecR Try.prog 94 [.g (encEntry e), .q [.v (.int .i64 a)], .q [.v (.int .i64 aB)]] (.v (.bool r)) := by
  refine fn_ok T Try.func94 rfl (by decide) rfl ?_
  refine AW.seq ?_
  refine AW.region ?_
  refine AO.step rfl (box_ok T rfl 1 rfl rfl rfl rfl) ?_
  refine AO.pure T rfl rfl rfl ?_
  refine AO.nil ?_
  refine AW.seq ?_
  refine AW.region ?_
  refine AO.pure T rfl rfl rfl ?_
  refine AO.pure T rfl rfl rfl ?_
  refine AO.pure T rfl rfl rfl ?_
  refine AO.pure T rfl rfl rfl ?_
  refine AO.pure T rfl rfl rfl ?_
  refine AO.pureG T [] rfl trivial rfl rfl ?_
  refine AO.pureG T [10] rfl ⟨fun h => h, trivial⟩ rfl rfl ?_
  refine AO.pureG T [] rfl trivial rfl rfl ?_
  refine AO.pureG T [11, 12] rfl ⟨fun h => h, fun h => h, trivial⟩ rfl rfl ?_
  refine AO.val rfl rfl (pick_and rfl rfl rfl rfl) ?_
  refine AO.pure T rfl rfl rfl ?_
  refine AO.nil ?_
  refine AW.ret ?_
  cases someE hH
  exact ⟨trivial, _, [], rfl, .c (.c .v), by decide⟩

def slices_DeleteFunc_Entry_l1 (del : Entry → Option Bool) : Nat → List Entry → Int → Int → Option ((List Entry))
  | 0, _, _, _ => none
  | k3 + 1, v19, v20, v21 =>
    cond (decide (v21 < (v19.length : Int)))
      ((getI v19 v21).bind fun x23 =>
      (del x23).bind fun x25 =>
      cond (!x25)
        ((getI v19 v20).bind fun x27 =>
        slices_DeleteFunc_Entry_l1 del k3 (v19.set v20.toNat x23) (w64 (v20 + 1)) (w64 (v21 + 1)))
        (slices_DeleteFunc_Entry_l1 del k3 v19 v20 (w64 (v21 + 1))))
      ((need (inB v20 v19.length v19.length)).bind fun u29 =>
      (need (inB 0 v20 ((List.take v20.toNat v19 ++ List.replicate (v19.length - v20.toNat) (Entry.mk 0 0 0) ++ List.drop (v20.toNat + (v19.length - v20.toNat)) v19)).length)).bind fun u31 =>
      some ((List.drop 0 (List.take v20.toNat v19 ++ List.replicate (v19.length - v20.toNat) (Entry.mk 0 0 0) ++ List.drop (v20.toNat + (v19.length - v20.toNat)) v19)).take v20.toNat))
def slices_DeleteFunc_Entry_p (fuel : Nat) (sA : List Entry) (del : Entry → Option Bool) : Option (List Entry) :=
  (slices_IndexFunc_Entry_p sA del).bind fun x1 =>
  cond (x1 == (-1))
    (some sA)
    (slices_DeleteFunc_Entry_l1 del fuel sA x1 (w64 (x1 + 1)))
theorem slices_DeleteFunc_Entry_ok (fuel : Nat) (sA : List Entry) (del_f : Nat) (del_c : List D) (del_k : del_c.all D.capOk = true) (del : Entry → Option Bool) (del_h : ∀ (a0 : Entry) (q : Bool), del a0 = some q → SpecR Try.prog del_f ([.g (encEntry a0)] ++ del_c) (.v (.bool q))) (r : (List Entry)) (hH : slices_DeleteFunc_Entry_p fuel sA del = some r) : SpecM Try.prog 114 [.w 3 (sA.map encEntry), .f del_f del_c] [.u, .u] (.w 3 (r.map encEntry)) := by
  have del_r := cap_cfree del_k
  refine fn_okM T Try.func114 rfl (by decide) rfl (by simp [D.gOk, D.cellOk, del_k]) ?_
  intro L
  show AW _ _ _ (⟨[(0, .R 1), (1, .f del_f del_c)], [(1, .row 3 (List.map encEntry sA))], 42, [(1, L 1)]⟩ : St)
  refine AW.seq ?_
  refine AW.region ?_
  refine AO.pure T rfl rfl rfl ?_
  refine AO.nil ?_
  refine AW.seq ?_
  obtain ⟨x1, hx2, hH⟩ := bindE hH
  refine AW.region ?_
  refine AO.pure T rfl rfl rfl ?_
  refine AO.pure T rfl rfl rfl ?_
  refine AO.val rfl rfl (callLV_ok rfl rfl rfl (es := [.s (List.map encEntry sA), .f del_f del_c]) ⟨(.rowR rfl (.map fun y => .vs rfl)), lend_free del_r, trivial⟩ (slices_IndexFunc_Entry_ok _ del_f del_c del_k del del_h _ (hx2)) (zfree_v _) rfl) ?_
  refine AO.pure T rfl rfl rfl ?_
  refine AO.nil ?_
  refine AW.seq ?_
  refine AW.seq ?_
  refine AW.region ?_
  refine AO.pure T rfl rfl rfl ?_
  refine AO.pure T rfl rfl rfl ?_
  refine AO.nil ?_
  refine AW.cond (b := (x1 == (-1))) rfl (fun hc => ?_) (fun hc => ?_)
  · replace hH := condT hc hH
    refine AW.seq ?_
    refine AW.region ?_
    refine AO.pure T rfl rfl rfl ?_
    refine AO.pure T rfl rfl rfl ?_
    refine AO.nil ?_
    refine AW.ret ?_
    cases someE hH
    exact ⟨trivial, rfl, _, [1], [], rfl, expLG_cons (.c .u) (expLG_cons (.c .u) (expLG_nil)), .c (.c (.rowR rfl)), by decide⟩
  · replace hH := condF hc hH
    refine AW.skip ?_
    refine AW.seq ?_
    refine AW.seq ?_
    refine AW.region ?_
    refine AO.pure T rfl rfl rfl ?_
    refine AO.val rfl rfl (arw_ok rfl rfl rfl rfl) ?_
    refine AO.pure T rfl rfl rfl ?_
    refine AO.nil ?_
    refine AW.block ?_
    refine AW.loopS (fun s : Nat × (List Entry) × Int × Int => (⟨[(0, .R 1), (1, .f del_f del_c), (5, .v (.int .i64 s.2.2.1)), (6, .v (.int .i64 s.2.2.2))], [(1, .row 3 (List.map encEntry s.2.1))], 42, [(1, L 1)]⟩ : St)) (fun s => slices_DeleteFunc_Entry_l1 del s.1 s.2.1 s.2.2.1 s.2.2.2 = some r) (fun s => s.1) (fuel, sA, x1, w64 (x1 + 1)) hH ?_ ?_
    · exact Le.cut 0 0 rfl ⟨⟨_, rfl, rfl⟩, ⟨_, rfl, ren_fF del_r⟩, ⟨_, rfl, rfl⟩, ⟨_, rfl, rfl⟩, trivial⟩ (by repeat' (first | exact trivial | refine ⟨⟨_, rfl, rfl⟩, ?_⟩)) (andT (allC rfl (allC (known_fF del_r) (allC rfl (allC rfl allN)))) rfl) ⟨⟨rfl, rfl⟩, trivial⟩
    · rintro ⟨k3, v19, v20, v21⟩ hH
      replace hH : slices_DeleteFunc_Entry_l1 del k3 v19 v20 v21 = some r := hH
      show AW _ _ _ (⟨[(0, .R 1), (1, .f del_f del_c), (5, .v (.int .i64 v20)), (6, .v (.int .i64 v21))], [(1, .row 3 (List.map encEntry v19))], 42, [(1, L 1)]⟩ : St)
      cases k3 with
      | zero => cases (show none = some _ from hH)
      | succ k3 =>
        rw [slices_DeleteFunc_Entry_l1] at hH
        refine AW.seq ?_
        refine AW.seq ?_
        refine AW.region ?_
        refine AO.pure T rfl rfl rfl ?_
        refine AO.pure T rfl rfl rfl ?_
        refine AO.val rfl rfl (len_row_ok T rfl rfl rfl rfl) ?_
        refine AO.pure T rfl rfl rfl ?_
        refine AO.nil ?_
        refine AW.cond (b := decide (v21 < (v19.length : Int))) rfl (fun hc => ?_) (fun hc => ?_)
        · replace hH := condT hc hH
          refine AW.skip ?_
          refine AW.seq ?_
          refine AW.block ?_
          refine AW.seq ?_
          obtain ⟨x23, hx24, hH⟩ := bindE hH
          refine AW.region ?_
          refine AO.pure T rfl rfl rfl ?_
          refine AO.pure T rfl rfl rfl ?_
          refine AO.val rfl rfl (ix_row_ok T rfl rfl rfl rfl rfl rfl (hx24)) ?_
          refine AO.val rfl rfl (load_row_ok T rfl rfl rfl rfl (getI_get (hx24)) rfl rfl rfl) ?_
          refine AO.step rfl (alloc_ok T rfl 4 rfl rfl rfl rfl rfl) ?_
          refine AO.step rfl (store_ok T rfl rfl rfl rfl rfl rfl rfl rfl rfl) ?_
          refine AO.nil ?_
          refine AW.seq ?_
          obtain ⟨x25, hx26, hH⟩ := bindE hH
          refine AW.region ?_
          refine AO.pure T rfl rfl rfl ?_
          refine AO.pure T rfl rfl rfl ?_
          refine AO.val rfl rfl (callV_ok rfl rfl rfl (andT rfl (free_cfree del_r)) (del_h _ _ (hx26)) rfl) ?_
          refine AO.pure T rfl rfl rfl ?_
          refine AO.nil ?_
          refine AW.cond (b := (!x25)) rfl (fun hc => ?_) (fun hc => ?_)
          · replace hH := condT hc hH
            refine AW.seq ?_
            obtain ⟨x27, hx28, hH⟩ := bindE hH
            refine AW.region ?_
            refine AO.pure T rfl rfl rfl ?_
            refine AO.pure T rfl rfl rfl ?_
            refine AO.pure T rfl rfl rfl ?_
            refine AO.val rfl rfl (ix_row_ok T rfl rfl rfl rfl rfl rfl (hx28)) ?_
            refine AO.step rfl (store_row_ok T rfl rfl rfl rfl rfl (getI_get (hx28)) rfl rfl rfl rfl (u' := x23) rfl rfl) ?_
            refine AO.nil ?_
            refine AW.region ?_
            refine AO.pure T rfl rfl rfl ?_
            refine AO.val rfl rfl (arw_ok rfl rfl rfl rfl) ?_
            refine AO.pure T rfl rfl rfl ?_
            refine AO.nil ?_
            refine AW.region ?_
            refine AO.pure T rfl rfl rfl ?_
            refine AO.val rfl rfl (arw_ok rfl rfl rfl rfl) ?_
            refine AO.pure T rfl rfl rfl ?_
            refine AO.nil ?_
            refine ⟨(k3, (v19.set v20.toNat x23), w64 (v20 + 1), w64 (v21 + 1)), hH, Nat.lt_succ_self _, ?_⟩
            exact Le.cut 0 0 rfl ⟨⟨_, rfl, rfl⟩, ⟨_, rfl, ren_fF del_r⟩, ⟨_, rfl, rfl⟩, ⟨_, rfl, rfl⟩, trivial⟩ (by repeat' (first | exact trivial | refine ⟨⟨_, rfl, rfl⟩, ?_⟩)) (andT (allC rfl (allC (known_fF del_r) (allC rfl (allC rfl allN)))) rfl) ⟨⟨rfl, rfl⟩, trivial⟩
          · replace hH := condF hc hH
            refine AW.skip ?_
            refine AW.region ?_
            refine AO.pure T rfl rfl rfl ?_
            refine AO.val rfl rfl (arw_ok rfl rfl rfl rfl) ?_
            refine AO.pure T rfl rfl rfl ?_
            refine AO.nil ?_
            refine ⟨(k3, v19, v20, w64 (v21 + 1)), hH, Nat.lt_succ_self _, ?_⟩
            exact Le.cut 0 0 rfl ⟨⟨_, rfl, rfl⟩, ⟨_, rfl, ren_fF del_r⟩, ⟨_, rfl, rfl⟩, ⟨_, rfl, rfl⟩, trivial⟩ (by repeat' (first | exact trivial | refine ⟨⟨_, rfl, rfl⟩, ?_⟩)) (andT (allC rfl (allC (known_fF del_r) (allC rfl (allC rfl allN)))) rfl) ⟨⟨rfl, rfl⟩, trivial⟩
        · replace hH := condF hc hH
          refine AW.exit ?_
          refine AW.seq ?_
          obtain ⟨u29, hx30, hH⟩ := bindE hH
          refine AW.region ?_
          refine AO.pure T rfl rfl rfl ?_
          refine AO.pure T rfl rfl rfl ?_
          refine AO.val rfl rfl (slice_row_lo T rfl rfl rfl rfl rfl rfl (needT (hx30))) ?_
          refine AO.step rfl (clear_r_ok T (f := encEntry) (zo := (Entry.mk 0 0 0)) rfl rfl rfl rfl (by decide) rfl (by repeat constructor) rfl rfl (by have := inB_iff (needT (hx30)); omega) rfl) ?_
          refine AO.nil ?_
          refine AW.seq ?_
          obtain ⟨u31, hx32, hH⟩ := bindE hH
          refine AW.region ?_
          refine AO.pure T rfl rfl rfl ?_
          refine AO.pure T rfl rfl rfl ?_
          refine AO.val rfl rfl (slice_row_hi T rfl rfl rfl rfl rfl rfl (needT (hx32))) ?_
          refine AO.pure T rfl rfl rfl ?_
          refine AO.nil ?_
          refine AW.ret ?_
          cases someE hH
          exact ⟨trivial, rfl, _, [1], [], rfl, expLG_cons (.c .u) (expLG_cons (.c .u) (expLG_nil)), .c (.c (.partM rfl (by have := inB_iff (needT (hx32)); omega))), by decide⟩

def impl_dropEntries_p (fuel : Nat) (sA : Season) (chosen : Entry → Option Bool) : Option Season :=
  (impl_entriesOf_p sA).bind fun x1 =>
  (slices_DeleteFunc_Entry_p fuel x1 chosen).bind fun x3 =>
  (impl_freshSeason_p sA.best x3).bind fun x5 =>
  some x5
theorem impl_dropEntries_ok (fuel : Nat) (sA : Season) (chosen_f : Nat) (chosen_c : List D) (chosen_k : chosen_c.all D.capOk = true) (chosen : Entry → Option Bool) (chosen_h : ∀ (a0 : Entry) (q : Bool), chosen a0 = some q → SpecR Try.prog chosen_f ([.g (encEntry a0)] ++ chosen_c) (.v (.bool q))) (r : Season) (hH : impl_dropEntries_p fuel sA chosen = some r) : SpecR Try.prog 92 [.g (encSeason sA), .f chosen_f chosen_c] (.g (encSeasonO r)) := by
  have chosen_r := cap_cfree chosen_k
  refine fn_ok T Try.func92 rfl (by decide) rfl ?_
  refine AW.seq ?_
  refine AW.region ?_
  refine AO.step rfl (box_ok T rfl 1 rfl rfl rfl rfl) ?_
  refine AO.step rfl (alloc_ok T rfl 2 rfl rfl rfl rfl rfl) ?_
  refine AO.nil ?_
  refine AW.seq ?_
  obtain ⟨x1, hx2, hH⟩ := bindE hH
  obtain ⟨x3, hx4, hH⟩ := bindE hH
  obtain ⟨x5, hx6, hH⟩ := bindE hH
  refine AW.drawn 6 3 [] mix (by kernel_rfl) rfl ?_
  refine AD.pure T rfl rfl rfl ?_
  refine AD.pure T rfl rfl rfl ?_
  refine AD.pure T rfl rfl rfl ?_
  refine AD.q (FStep.call rfl rfl rfl rfl rfl (impl_entriesOf_ok _ _ (hx2)) rfl rfl) (impT_names _ _) (impT_le _ _) rfl ?_
  refine AD.pure T rfl rfl rfl ?_
  refine AD.k rfl rfl (FStep.callM rfl rfl rfl rfl (es := [.w 3 (x1.map encEntry), .f chosen_f chosen_c]) (outs := [.u, .u]) (ids := [3]) (by exact expLG_cons (.c (.rowR rfl)) (expLG_cons (.c (.f chosen_r)) (expLG_nil))) (by decide) (.inr (show ([] : List Nat).Nodup ∧ ∀ i ∈ ([] : List Nat), i ∈ ([3] : List Nat) from by decide)) (by rfl) (slices_DeleteFunc_Entry_ok fuel _ chosen_f chosen_c chosen_k chosen chosen_h _ (hx4)) rfl (by rfl) rfl) rfl rfl rfl ?_
  refine AD.nil ?_
  refine AO.step rfl (callL_ok rfl 5 rfl rfl (es := [.v (.int .i64 sA.best), .s (List.map encEntry x3)]) (by exact ⟨.free rfl, (.rowR rfl (.map fun y => .vs rfl)), trivial⟩) (impl_freshSeason_ok _ _ _ (hx6)) (zfree_g (zfl (.cons (zfree_v _) (.cons (zfree_map (fun y => (.cons (zfree_v _) (.cons (zfree_map (fun y => (.cons (zfree_v _) .nil))) (.cons (zfree_map (fun y => (.cons (zfree_v _) .nil))) .nil))))) .nil)))) rfl rfl rfl) ?_
  refine AO.step rfl (store_ok T rfl rfl rfl rfl rfl rfl rfl rfl rfl) ?_
  refine AO.nil ?_
  refine AW.ret ?_
  cases someE hH
  exact ⟨trivial, _, [5], rfl, .c (.g (expLC_cons .v (expLC_cons (.rowR rfl) (expLC_nil)))), by decide⟩

def impl_DropEntry_p (fuel : Nat) (sA : Season) (event : Int) (skater : Int) : Option (Season × Bool) :=
  (impl_IsSeason_p fuel sA).bind fun x1 =>
  cond (!x1)
    (some ((Season.mk 0 []), false))
    ((impl_entriesOf_p sA).bind fun x3 =>
    (slices_ContainsFunc_Entry_p x3 (fun a0 => impl_DropEntry_c1_p a0 event skater)).bind fun x5 =>
    cond (!x5)
      (some ((Season.mk 0 []), false))
      ((impl_dropEntries_p fuel sA (fun a0 => impl_DropEntry_c1_p a0 event skater)).bind fun x7 =>
      some (x7, true)))
theorem impl_DropEntry_ok (fuel : Nat) (sA : Season) (event : Int) (skater : Int) (r : (Season × Bool)) (hH : impl_DropEntry_p fuel sA event skater = some r) : SpecR Try.prog 45 [.g (encSeason sA), .v (.int .i64 event), .v (.int .i64 skater)] (.t [.g (encSeasonO r.1), .v (.bool r.2)]) := by
  refine fn_ok T Try.func45 rfl (by decide) rfl ?_
  refine AW.seq ?_
  refine AW.region ?_
  refine AO.step rfl (box_ok T rfl 1 rfl rfl rfl rfl) ?_
  refine AO.step rfl (box_ok T rfl 2 rfl rfl rfl rfl) ?_
  refine AO.step rfl (box_ok T rfl 3 rfl rfl rfl rfl) ?_
  refine AO.step rfl (alloc_ok T rfl 4 rfl rfl rfl rfl rfl) ?_
  refine AO.pure T rfl rfl rfl ?_
  refine AO.nil ?_
  refine AW.seq ?_
  refine AW.seq ?_
  obtain ⟨x1, hx2, hH⟩ := bindE hH
  refine AW.region ?_
  refine AO.pure T rfl rfl rfl ?_
  refine AO.val rfl rfl (callV_ok rfl rfl rfl rfl (impl_IsSeason_ok fuel _ _ (hx2)) rfl) ?_
  refine AO.pure T rfl rfl rfl ?_
  refine AO.nil ?_
  refine AW.cond (b := (!x1)) rfl (fun hc => ?_) (fun hc => ?_)
  · replace hH := condT hc hH
    refine AW.seq ?_
    refine AW.region ?_
    refine AO.pure T rfl rfl rfl ?_
    refine AO.step rfl (store_ok T rfl rfl rfl rfl rfl rfl rfl rfl rfl) ?_
    refine AO.pure T rfl rfl rfl ?_
    refine AO.nil ?_
    refine AW.ret ?_
    cases someE hH
    exact ⟨trivial, _, [], rfl, .t (expLG_cons (.g (expLC_cons .v (expLC_cons .nil (expLC_nil)))) (expLG_cons (.c .v) (expLG_nil))), by decide⟩
  · replace hH := condF hc hH
    refine AW.skip ?_
    refine AW.seq ?_
    refine AW.region ?_
    refine AO.pure T rfl rfl rfl ?_
    refine AO.pure T rfl rfl rfl ?_
    refine AO.nil ?_
    refine AW.seq ?_
    refine AW.seq ?_
    obtain ⟨x3, hx4, hH⟩ := bindE hH
    obtain ⟨x5, hx6, hH⟩ := bindE hH
    refine AW.region ?_
    refine AO.pure T rfl rfl rfl ?_
    refine AO.step rfl (call_ok rfl 5 rfl rfl rfl (impl_entriesOf_ok _ _ (hx4)) rfl rfl rfl) ?_
    refine AO.pure T rfl rfl rfl ?_
    refine AO.val rfl rfl (callLV_ok rfl rfl rfl (es := [.s (List.map encEntry x3), .f 94 [.q [.v (.int .i64 event)], .q [.v (.int .i64 skater)]]]) ⟨(.rowR rfl (.map fun y => .vs rfl)), lend_f (LendL.cons (Lend.boxF rfl rfl) (LendL.cons (Lend.boxF rfl rfl) LendL.nil)), trivial⟩ (slices_ContainsFunc_Entry_ok _ 94 [.q [.v (.int .i64 event)], .q [.v (.int .i64 skater)]] rfl (fun a0 => impl_DropEntry_c1_p a0 event skater) (fun a0 q h => impl_DropEntry_c1_ok a0 event skater q h) _ (hx6)) (zfree_v _) rfl) ?_
    refine AO.pure T rfl rfl rfl ?_
    refine AO.nil ?_
    refine AW.cond (b := (!x5)) rfl (fun hc => ?_) (fun hc => ?_)
    · replace hH := condT hc hH
      refine AW.seq ?_
      refine AW.region ?_
      refine AO.pure T rfl rfl rfl ?_
      refine AO.step rfl (store_ok T rfl rfl rfl rfl rfl rfl rfl rfl rfl) ?_
      refine AO.pure T rfl rfl rfl ?_
      refine AO.nil ?_
      refine AW.ret ?_
      cases someE hH
      exact ⟨trivial, _, [], rfl, .t (expLG_cons (.g (expLC_cons .v (expLC_cons .nil (expLC_nil)))) (expLG_cons (.c .v) (expLG_nil))), by decide⟩
    · replace hH := condF hc hH
      refine AW.skip ?_
      refine AW.seq ?_
      obtain ⟨x7, hx8, hH⟩ := bindE hH
      refine AW.region ?_
      refine AO.pure T rfl rfl rfl ?_
      refine AO.pure T rfl rfl rfl ?_
      refine AO.step rfl (callL_ok rfl 6 rfl rfl (es := [.g (encSeason sA), .f 94 [.q [.v (.int .i64 event)], .q [.v (.int .i64 skater)]]]) (by exact ⟨.free rfl, lend_f (LendL.cons (Lend.boxF rfl rfl) (LendL.cons (Lend.boxF rfl rfl) LendL.nil)), trivial⟩) (impl_dropEntries_ok fuel _ 94 [.q [.v (.int .i64 event)], .q [.v (.int .i64 skater)]] rfl (fun a0 => impl_DropEntry_c1_p a0 event skater) (fun a0 q h => impl_DropEntry_c1_ok a0 event skater q h) _ (hx8)) (zfree_g (zfl (.cons (zfree_v _) (.cons (zfree_map (fun y => (.cons (zfree_v _) (.cons (zfree_map (fun y => (.cons (zfree_v _) .nil))) (.cons (zfree_map (fun y => (.cons (zfree_v _) .nil))) .nil))))) .nil)))) rfl rfl rfl) ?_
      refine AO.step rfl (store_ok T rfl rfl rfl rfl rfl rfl rfl rfl rfl) ?_
      refine AO.pure T rfl rfl rfl ?_
      refine AO.nil ?_
      refine AW.ret ?_
      cases someE hH
      exact ⟨trivial, _, [6], rfl, .t (expLG_cons (.g (expLC_cons .v (expLC_cons (.rowR rfl) (expLC_nil)))) (expLG_cons (.c .v) (expLG_nil))), by decide⟩

def impl_DropEvent_c1_p (e : Entry) (a : Int) : Option Bool :=
  some (e.event == a)
theorem impl_DropEvent_c1_ok (e : Entry) (a : Int) (r : Bool) (hH : impl_DropEvent_c1_p e a = some r) : SpecR Try.prog 93 [.g (encEntry e), .q [.v (.int .i64 a)]] (.v (.bool r)) := by
  refine fn_ok T Try.func93 rfl (by decide) rfl ?_
  refine AW.seq ?_
  refine AW.region ?_
  refine AO.step rfl (box_ok T rfl 1 rfl rfl rfl rfl) ?_
  refine AO.pure T rfl rfl rfl ?_
  refine AO.nil ?_
  refine AW.seq ?_
  refine AW.region ?_
  refine AO.pure T rfl rfl rfl ?_
  refine AO.pure T rfl rfl rfl ?_
  refine AO.pure T rfl rfl rfl ?_
  refine AO.pure T rfl rfl rfl ?_
  refine AO.pure T rfl rfl rfl ?_
  refine AO.nil ?_
  refine AW.ret ?_
  cases someE hH
  exact ⟨trivial, _, [], rfl, .c (.c .v), by decide⟩

def impl_DropEvent_p (fuel : Nat) (sA : Season) (event : Int) : Option (Season × Bool) :=
  (impl_IsSeason_p fuel sA).bind fun x1 =>
  (opt (!(!x1)) default (impl_isEvent_p event)).bind fun x3 =>
  cond ((!x1) || (!x3))
    (some ((Season.mk 0 []), false))
    ((impl_dropEntries_p fuel sA (fun a0 => impl_DropEvent_c1_p a0 event)).bind fun x5 =>
    some (x5, true))
theorem impl_DropEvent_ok (fuel : Nat) (sA : Season) (event : Int) (r : (Season × Bool)) (hH : impl_DropEvent_p fuel sA event = some r) : SpecR Try.prog 43 [.g (encSeason sA), .v (.int .i64 event)] (.t [.g (encSeasonO r.1), .v (.bool r.2)]) := by
  refine fn_ok T Try.func43 rfl (by decide) rfl ?_
  refine AW.seq ?_
  refine AW.region ?_
  refine AO.step rfl (box_ok T rfl 1 rfl rfl rfl rfl) ?_
  refine AO.step rfl (box_ok T rfl 2 rfl rfl rfl rfl) ?_
  refine AO.step rfl (alloc_ok T rfl 3 rfl rfl rfl rfl rfl) ?_
  refine AO.pure T rfl rfl rfl ?_
  refine AO.nil ?_
  refine AW.seq ?_
  refine AW.seq ?_
  obtain ⟨x1, hx2, hH⟩ := bindE hH
  obtain ⟨x3, hx4, hH⟩ := bindE hH
  refine AW.region ?_
  refine AO.pure T rfl rfl rfl ?_
  refine AO.val rfl rfl (callV_ok rfl rfl rfl rfl (impl_IsSeason_ok fuel _ _ (hx2)) rfl) ?_
  refine AO.pure T rfl rfl rfl ?_
  refine AO.pure T rfl rfl rfl ?_
  refine AO.pureG T [] rfl trivial rfl rfl ?_
  refine AO.guard [10] rfl ⟨fun h => h, trivial⟩ (fun hg => callV_ok rfl rfl rfl rfl (impl_isEvent_ok _ _ (optT hx4 hg)) rfl) rfl ?_
  refine AO.pureG T [11] rfl ⟨fun h => h, trivial⟩ rfl rfl ?_
  refine AO.val rfl rfl (pick_or rfl rfl rfl rfl) ?_
  refine AO.nil ?_
  refine AW.cond (b := ((!x1) || (!x3))) rfl (fun hc => ?_) (fun hc => ?_)
  · replace hH := condT hc hH
    refine AW.seq ?_
    refine AW.region ?_
    refine AO.pure T rfl rfl rfl ?_
    refine AO.step rfl (store_ok T rfl rfl rfl rfl rfl rfl rfl rfl rfl) ?_
    refine AO.pure T rfl rfl rfl ?_
    refine AO.nil ?_
    refine AW.ret ?_
    cases someE hH
    exact ⟨trivial, _, [], rfl, .t (expLG_cons (.g (expLC_cons .v (expLC_cons .nil (expLC_nil)))) (expLG_cons (.c .v) (expLG_nil))), by decide⟩
  · replace hH := condF hc hH
    refine AW.skip ?_
    refine AW.seq ?_
    obtain ⟨x5, hx6, hH⟩ := bindE hH
    refine AW.region ?_
    refine AO.pure T rfl rfl rfl ?_
    refine AO.pure T rfl rfl rfl ?_
    refine AO.step rfl (callL_ok rfl 4 rfl rfl (es := [.g (encSeason sA), .f 93 [.q [.v (.int .i64 event)]]]) (by exact ⟨.free rfl, lend_f (LendL.cons (Lend.boxF rfl rfl) LendL.nil), trivial⟩) (impl_dropEntries_ok fuel _ 93 [.q [.v (.int .i64 event)]] rfl (fun a0 => impl_DropEvent_c1_p a0 event) (fun a0 q h => impl_DropEvent_c1_ok a0 event q h) _ (hx6)) (zfree_g (zfl (.cons (zfree_v _) (.cons (zfree_map (fun y => (.cons (zfree_v _) (.cons (zfree_map (fun y => (.cons (zfree_v _) .nil))) (.cons (zfree_map (fun y => (.cons (zfree_v _) .nil))) .nil))))) .nil)))) rfl rfl rfl) ?_
    refine AO.step rfl (store_ok T rfl rfl rfl rfl rfl rfl rfl rfl rfl) ?_
    refine AO.pure T rfl rfl rfl ?_
    refine AO.nil ?_
    refine AW.ret ?_
    cases someE hH
    exact ⟨trivial, _, [4], rfl, .t (expLG_cons (.g (expLC_cons .v (expLC_cons (.rowR rfl) (expLC_nil)))) (expLG_cons (.c .v) (expLG_nil))), by decide⟩

def impl_EntriesOf_p (fuel : Nat) (sA : Season) : Option ((List Entry) × Bool) :=
  (impl_IsSeason_p fuel sA).bind fun x1 =>
  cond (!x1)
    (some ([], false))
    ((impl_entriesOf_p sA).bind fun x3 =>
    some (x3, true))
theorem impl_EntriesOf_ok (fuel : Nat) (sA : Season) (r : ((List Entry) × Bool)) (hH : impl_EntriesOf_p fuel sA = some r) : SpecR Try.prog 22 [.g (encSeason sA)] (.t [.w 3 (r.1.map encEntry), .v (.bool r.2)]) := by
  refine fn_ok T Try.func22 rfl (by decide) rfl ?_
  refine AW.seq ?_
  refine AW.region ?_
  refine AO.step rfl (box_ok T rfl 1 rfl rfl rfl rfl) ?_
  refine AO.pure T rfl rfl rfl ?_
  refine AO.pure T rfl rfl rfl ?_
  refine AO.nil ?_
  refine AW.seq ?_
  refine AW.seq ?_
  obtain ⟨x1, hx2, hH⟩ := bindE hH
  refine AW.region ?_
  refine AO.pure T rfl rfl rfl ?_
  refine AO.val rfl rfl (callV_ok rfl rfl rfl rfl (impl_IsSeason_ok fuel _ _ (hx2)) rfl) ?_
  refine AO.pure T rfl rfl rfl ?_
  refine AO.nil ?_
  refine AW.cond (b := (!x1)) rfl (fun hc => ?_) (fun hc => ?_)
  · replace hH := condT hc hH
    refine AW.seq ?_
    refine AW.region ?_
    refine AO.pure T rfl rfl rfl ?_
    refine AO.pure T rfl rfl rfl ?_
    refine AO.nil ?_
    refine AW.ret ?_
    cases someE hH
    exact ⟨trivial, _, [], rfl, .t (expLG_cons (.c .nil) (expLG_cons (.c .v) (expLG_nil))), by decide⟩
  · replace hH := condF hc hH
    refine AW.skip ?_
    refine AW.seq ?_
    obtain ⟨x3, hx4, hH⟩ := bindE hH
    refine AW.region ?_
    refine AO.pure T rfl rfl rfl ?_
    refine AO.step rfl (call_ok rfl 2 rfl rfl rfl (impl_entriesOf_ok _ _ (hx4)) rfl rfl rfl) ?_
    refine AO.pure T rfl rfl rfl ?_
    refine AO.pure T rfl rfl rfl ?_
    refine AO.nil ?_
    refine AW.ret ?_
    cases someE hH
    exact ⟨trivial, _, [2], rfl, .t (expLG_cons (.c (.rowR rfl)) (expLG_cons (.c .v) (expLG_nil))), by decide⟩

def impl_lineOf_l1 (skater : Int) : List Line → Nat → Option Line
  | [], k1 =>
    some (Line.mk skater [] [])
  | y2 :: ys3, k1 =>
    cond (y2.skater == skater)
      (some y2)
      (impl_lineOf_l1 skater ys3 (k1 + 1))
def impl_lineOf_p (sA : Season) (skater : Int) : Option Line :=
  impl_lineOf_l1 skater sA.lines 0
theorem impl_lineOf_ok (sA : Season) (skater : Int) (r : Line) (hH : impl_lineOf_p sA skater = some r) : SpecR Try.prog 69 [.g (encSeason sA), .v (.int .i64 skater)] (.g (encLine r)) := by
  refine fn_ok T Try.func69 rfl (by decide) rfl ?_
  refine AW.seq ?_
  refine AW.region ?_
  refine AO.step rfl (box_ok T rfl 1 rfl rfl rfl rfl) ?_
  refine AO.step rfl (alloc_ok T rfl 2 rfl rfl rfl rfl rfl) ?_
  refine AO.nil ?_
  refine AW.seq ?_
  refine AW.seq ?_
  refine AW.region ?_
  refine AO.pure T rfl rfl rfl ?_
  refine AO.pure T rfl rfl rfl ?_
  refine AO.val rfl rfl (len_map_ok T rfl rfl rfl) ?_
  refine AO.pure T rfl rfl rfl ?_
  refine AO.nil ?_
  refine AW.block ?_
  refine AW.loopS (fun s : Nat => (⟨[(1, .v (.int .i64 skater)), (4, .p 2 0), (8, .s (List.map encLine sA.lines)), (9, .v (.int .i64 (sA.lines.length : Int))), (10, .v (.int .i64 (s : Int)))], [(2, .box [.v (.int .i64 0), .w 0 [], .w 0 []])], 22, []⟩ : St)) (fun s => s ≤ sA.lines.length ∧ impl_lineOf_l1 skater (sA.lines.drop s) s = some r) (fun s => sA.lines.length - s) 0 ⟨Nat.zero_le _, hH⟩ ?_ ?_
  · exact Le.cut 0 0 rfl (by repeat' (first | exact trivial | refine ⟨⟨_, rfl, rfl⟩, ?_⟩)) (by repeat' (first | exact trivial | refine ⟨⟨_, rfl, rfl⟩, ?_⟩)) rfl
  · rintro k1 ⟨hk, hH⟩
    replace hH : impl_lineOf_l1 skater (sA.lines.drop k1) k1 = some r := hH
    show AW _ _ _ (⟨[(1, .v (.int .i64 skater)), (4, .p 2 0), (8, .s (List.map encLine sA.lines)), (9, .v (.int .i64 (sA.lines.length : Int))), (10, .v (.int .i64 (k1 : Int)))], [(2, .box [.v (.int .i64 0), .w 0 [], .w 0 []])], 22, []⟩ : St)
    refine AW.boundM (t := 8) (l := sA.lines) rfl (fun hb5 => ?_)
    cases hd4 : sA.lines.drop k1 with
    | nil =>
      rw [hd4] at hH
      rw [impl_lineOf_l1] at hH
      have hlt6 := drop_ge hd4
      refine AW.seq ?_
      refine AW.region ?_
      refine AO.pure T rfl rfl rfl ?_
      refine AO.nil ?_
      refine AW.seq ?_
      refine AW.condF' (b := decide ((k1 : Int) < (sA.lines.length : Int))) rfl (rngF hlt6) ?_
      refine AW.exit ?_
      refine AW.seq ?_
      refine AW.region ?_
      refine AO.pure T rfl rfl rfl ?_
      refine AO.pure T rfl rfl rfl ?_
      refine AO.step rfl (store_ok T rfl rfl rfl rfl rfl rfl rfl rfl rfl) ?_
      refine AO.nil ?_
      refine AW.ret ?_
      cases someE hH
      exact ⟨trivial, _, [], rfl, .c (.g (expLC_cons .v (expLC_cons .nilS (expLC_cons .nilS (expLC_nil))))), by decide⟩
    | cons y2 ys3 =>
      rw [hd4] at hH
      rw [impl_lineOf_l1] at hH
      have hlt6 := drop_lt hd4
      refine AW.seq ?_
      refine AW.region ?_
      refine AO.pure T rfl rfl rfl ?_
      refine AO.nil ?_
      refine AW.seq ?_
      refine AW.condT' (b := decide ((k1 : Int) < (sA.lines.length : Int))) rfl (rngT hlt6) ?_
      refine AW.skip ?_
      refine AW.seq ?_
      refine AW.block ?_
      refine AW.seq ?_
      refine AW.region ?_
      refine AO.val rfl rfl (ix_map_ok T rfl rfl rfl rfl rfl (getI_drop hd4) rfl) ?_
      refine AO.pure T rfl rfl rfl ?_
      refine AO.step rfl (alloc_ok T rfl 5 rfl rfl rfl rfl rfl) ?_
      refine AO.step rfl (store_ok T rfl rfl rfl rfl rfl rfl rfl rfl rfl) ?_
      refine AO.nil ?_
      refine AW.seq ?_
      refine AW.region ?_
      refine AO.pure T rfl rfl rfl ?_
      refine AO.pure T rfl rfl rfl ?_
      refine AO.pure T rfl rfl rfl ?_
      refine AO.pure T rfl rfl rfl ?_
      refine AO.nil ?_
      refine AW.cond (b := (y2.skater == skater)) rfl (fun hc => ?_) (fun hc => ?_)
      · replace hH := condT hc hH
        refine AW.seq ?_
        refine AW.region ?_
        refine AO.pure T rfl rfl rfl ?_
        refine AO.step rfl (store_ok T rfl rfl rfl rfl rfl rfl rfl rfl rfl) ?_
        refine AO.nil ?_
        refine AW.ret ?_
        cases someE hH
        exact ⟨trivial, _, [], rfl, .c (.g (expLC_cons .v (expLC_cons .s (expLC_cons .s (expLC_nil))))), by decide⟩
      · replace hH := condF hc hH
        refine AW.skip ?_
        refine AW.region ?_
        refine AO.val rfl rfl (ar_ok rfl rfl rfl rfl (inI_succ hlt6 hb5)) ?_
        refine AO.pure T rfl rfl rfl ?_
        refine AO.nil ?_
        refine ⟨k1 + 1, ⟨Nat.succ_le_of_lt hlt6, (by rw [drop_succ_of hd4]; exact hH)⟩, (by have := hlt6; dsimp only; omega), ?_⟩
        exact Le.cut 0 0 rfl (by repeat' (first | exact trivial | refine ⟨⟨_, rfl, rfl⟩, ?_⟩)) (by repeat' (first | exact trivial | refine ⟨⟨_, rfl, rfl⟩, ?_⟩)) rfl

def impl_counting_p (line : Line) (best : Int) : Option (List Int) :=
  (sliceHi line.points (min best (line.points.length : Int))).bind fun x1 =>
  some x1
theorem impl_counting_ok (line : Line) (best : Int) (r : (List Int)) (hH : impl_counting_p line best = some r) : SpecR Try.prog 71 [.g (encLine line), .v (.int .i64 best)] (.s (r.map encInt)) := by
  refine fn_ok T Try.func71 rfl (by decide) rfl ?_
  refine AW.seq ?_
  refine AW.region ?_
  refine AO.step rfl (box_ok T rfl 1 rfl rfl rfl rfl) ?_
  refine AO.pure T rfl rfl rfl ?_
  refine AO.nil ?_
  refine AW.seq ?_
  obtain ⟨x1, hx2, hH⟩ := bindE hH
  refine AW.region ?_
  refine AO.pure T rfl rfl rfl ?_
  refine AO.pure T rfl rfl rfl ?_
  refine AO.pure T rfl rfl rfl ?_
  refine AO.pure T rfl rfl rfl ?_
  refine AO.pure T rfl rfl rfl ?_
  refine AO.val rfl rfl (len_map_ok T rfl rfl rfl) ?_
  refine AO.val rfl rfl (min_ok rfl rfl rfl) ?_
  refine AO.val rfl rfl (slice_hi_map_ok T rfl rfl rfl rfl rfl (hx2) (fun _ => rfl)) ?_
  refine AO.pure T rfl rfl rfl ?_
  refine AO.nil ?_
  refine AW.ret ?_
  cases someE hH
  exact ⟨trivial, _, [], rfl, .c (.c .s), by decide⟩

def impl_sumInts_l1 : List Int → Nat → Int → Option Int
  | [], k1, v8 =>
    some v8
  | y2 :: ys3, k1, v8 =>
    impl_sumInts_l1 ys3 (k1 + 1) (w64 (v8 + y2))
def impl_sumInts_p (l : List Int) : Option Int :=
  impl_sumInts_l1 l 0 0
theorem impl_sumInts_ok (l : List Int) (r : Int) (hH : impl_sumInts_p l = some r) : SpecR Try.prog 70 [.s (List.map encInt l)] (.v (.int .i64 r)) := by
  refine fn_ok T Try.func70 rfl (by decide) rfl ?_
  refine AW.seq ?_
  refine AW.region ?_
  refine AO.pure T rfl rfl rfl ?_
  refine AO.nil ?_
  refine AW.seq ?_
  refine AW.region ?_
  refine AO.pure T rfl rfl rfl ?_
  refine AO.nil ?_
  refine AW.seq ?_
  refine AW.seq ?_
  refine AW.region ?_
  refine AO.pure T rfl rfl rfl ?_
  refine AO.val rfl rfl (len_map_ok T rfl rfl rfl) ?_
  refine AO.pure T rfl rfl rfl ?_
  refine AO.nil ?_
  refine AW.block ?_
  refine AW.loopS (fun s : Nat × Int => (⟨[(3, .v (.int .i64 s.2)), (6, .s (List.map encInt l)), (7, .v (.int .i64 (l.length : Int))), (8, .v (.int .i64 (s.1 : Int)))], [], 17, []⟩ : St)) (fun s => s.1 ≤ l.length ∧ impl_sumInts_l1 (l.drop s.1) s.1 s.2 = some r) (fun s => l.length - s.1) (0, 0) ⟨Nat.zero_le _, hH⟩ ?_ ?_
  · exact Le.cut 0 0 rfl (by repeat' (first | exact trivial | refine ⟨⟨_, rfl, rfl⟩, ?_⟩)) (by repeat' (first | exact trivial | refine ⟨⟨_, rfl, rfl⟩, ?_⟩)) rfl
  · rintro ⟨k1, v8⟩ ⟨hk, hH⟩
    replace hH : impl_sumInts_l1 (l.drop k1) k1 v8 = some r := hH
    show AW _ _ _ (⟨[(3, .v (.int .i64 v8)), (6, .s (List.map encInt l)), (7, .v (.int .i64 (l.length : Int))), (8, .v (.int .i64 (k1 : Int)))], [], 17, []⟩ : St)
    refine AW.boundM (t := 6) (l := l) rfl (fun hb5 => ?_)
    cases hd4 : l.drop k1 with
    | nil =>
      rw [hd4] at hH
      rw [impl_sumInts_l1] at hH
      have hlt6 := drop_ge hd4
      refine AW.seq ?_
      refine AW.region ?_
      refine AO.pure T rfl rfl rfl ?_
      refine AO.nil ?_
      refine AW.seq ?_
      refine AW.condF' (b := decide ((k1 : Int) < (l.length : Int))) rfl (rngF hlt6) ?_
      refine AW.exit ?_
      refine AW.seq ?_
      refine AW.region ?_
      refine AO.pure T rfl rfl rfl ?_
      refine AO.pure T rfl rfl rfl ?_
      refine AO.nil ?_
      refine AW.ret ?_
      cases someE hH
      exact ⟨trivial, _, [], rfl, .c (.c .v), by decide⟩
    | cons y2 ys3 =>
      rw [hd4] at hH
      rw [impl_sumInts_l1] at hH
      have hlt6 := drop_lt hd4
      refine AW.seq ?_
      refine AW.region ?_
      refine AO.pure T rfl rfl rfl ?_
      refine AO.nil ?_
      refine AW.seq ?_
      refine AW.condT' (b := decide ((k1 : Int) < (l.length : Int))) rfl (rngT hlt6) ?_
      refine AW.skip ?_
      refine AW.seq ?_
      refine AW.block ?_
      refine AW.seq ?_
      refine AW.region ?_
      refine AO.val rfl rfl (ix_map_ok T rfl rfl rfl rfl rfl (getI_drop hd4) rfl) ?_
      refine AO.pure T rfl rfl rfl ?_
      refine AO.pure T rfl rfl rfl ?_
      refine AO.nil ?_
      refine AW.region ?_
      refine AO.pure T rfl rfl rfl ?_
      refine AO.pure T rfl rfl rfl ?_
      refine AO.val rfl rfl (arw_ok rfl rfl rfl rfl) ?_
      refine AO.pure T rfl rfl rfl ?_
      refine AO.nil ?_
      refine AW.region ?_
      refine AO.val rfl rfl (ar_ok rfl rfl rfl rfl (inI_succ hlt6 hb5)) ?_
      refine AO.pure T rfl rfl rfl ?_
      refine AO.nil ?_
      refine ⟨(k1 + 1, w64 (v8 + y2)), ⟨Nat.succ_le_of_lt hlt6, (by rw [drop_succ_of hd4]; exact hH)⟩, (by have := hlt6; dsimp only; omega), ?_⟩
      exact Le.cut 0 0 rfl (by repeat' (first | exact trivial | refine ⟨⟨_, rfl, rfl⟩, ?_⟩)) (by repeat' (first | exact trivial | refine ⟨⟨_, rfl, rfl⟩, ?_⟩)) rfl

def impl_TotalOf_p (fuel : Nat) (sA : Season) (skater : Int) : Option (Int × Bool) :=
  (impl_IsSeason_p fuel sA).bind fun x1 =>
  (opt (!(!x1)) default (impl_lineOf_p sA skater)).bind fun x3 =>
  cond ((!x1) || ((x3.points.length : Int) == 0))
    (some (0, false))
    ((impl_lineOf_p sA skater).bind fun x5 =>
    (impl_counting_p x5 sA.best).bind fun x7 =>
    (impl_sumInts_p x7).bind fun x9 =>
    some (x9, true))
theorem impl_TotalOf_ok (fuel : Nat) (sA : Season) (skater : Int) (r : (Int × Bool)) (hH : impl_TotalOf_p fuel sA skater = some r) : SpecR Try.prog 20 [.g (encSeason sA), .v (.int .i64 skater)] (.t [.v (.int .i64 r.1), .v (.bool r.2)]) := by
  refine fn_ok T Try.func20 rfl (by decide) rfl ?_
  refine AW.seq ?_
  refine AW.region ?_
  refine AO.step rfl (box_ok T rfl 1 rfl rfl rfl rfl) ?_
  refine AO.pure T rfl rfl rfl ?_
  refine AO.pure T rfl rfl rfl ?_
  refine AO.nil ?_
  refine AW.seq ?_
  refine AW.seq ?_
  obtain ⟨x1, hx2, hH⟩ := bindE hH
  obtain ⟨x3, hx4, hH⟩ := bindE hH
  refine AW.region ?_
  refine AO.pure T rfl rfl rfl ?_
  refine AO.val rfl rfl (callV_ok rfl rfl rfl rfl (impl_IsSeason_ok fuel _ _ (hx2)) rfl) ?_
  refine AO.pure T rfl rfl rfl ?_
  refine AO.pure T rfl rfl rfl ?_
  refine AO.pureG T [] rfl trivial rfl rfl ?_
  refine AO.pureG T [] rfl trivial rfl rfl ?_
  refine AO.guard [10, 11] rfl ⟨fun h => h, fun h => h, trivial⟩ (fun hg => callV_ok rfl rfl rfl rfl (impl_lineOf_ok _ _ _ (optT hx4 hg)) rfl) rfl ?_
  refine AO.pureG T [12] rfl ⟨fun h => h, trivial⟩ rfl rfl ?_
  refine AO.guard [13] rfl ⟨fun h => h, trivial⟩ (fun hg => len_map_ok T rfl rfl rfl) rfl ?_
  refine AO.pureG T [14] rfl ⟨fun h => h, trivial⟩ rfl rfl ?_
  refine AO.val rfl rfl (pick_or rfl rfl rfl rfl) ?_
  refine AO.nil ?_
  refine AW.cond (b := ((!x1) || ((x3.points.length : Int) == 0))) rfl (fun hc => ?_) (fun hc => ?_)
  · replace hH := condT hc hH
    refine AW.seq ?_
    refine AW.region ?_
    refine AO.pure T rfl rfl rfl ?_
    refine AO.pure T rfl rfl rfl ?_
    refine AO.nil ?_
    refine AW.ret ?_
    cases someE hH
    exact ⟨trivial, _, [], rfl, .t (expLG_cons (.c .v) (expLG_cons (.c .v) (expLG_nil))), by decide⟩
  · replace hH := condF hc hH
    refine AW.skip ?_
    refine AW.seq ?_
    obtain ⟨x5, hx6, hH⟩ := bindE hH
    obtain ⟨x7, hx8, hH⟩ := bindE hH
    obtain ⟨x9, hx10, hH⟩ := bindE hH
    refine AW.drawn 5 2 [] mix (by kernel_rfl) rfl ?_
    refine AD.pure T rfl rfl rfl ?_
    refine AD.pure T rfl rfl rfl ?_
    refine AD.val rfl rfl (callV_ok rfl rfl rfl rfl (impl_lineOf_ok _ _ _ (hx6)) rfl) ?_
    refine AD.pure T rfl rfl rfl ?_
    refine AD.pure T rfl rfl rfl ?_
    refine AD.nil ?_
    refine AO.val rfl rfl (callV_ok rfl rfl rfl rfl (impl_counting_ok _ _ _ (hx8)) rfl) ?_
    refine AO.val rfl rfl (callV_ok rfl rfl rfl rfl (impl_sumInts_ok _ _ (hx10)) rfl) ?_
    refine AO.pure T rfl rfl rfl ?_
    refine AO.pure T rfl rfl rfl ?_
    refine AO.nil ?_
    refine AW.ret ?_
    cases someE hH
    exact ⟨trivial, _, [], rfl, .t (expLG_cons (.c .v) (expLG_cons (.c .v) (expLG_nil))), by decide⟩

def impl_copyInts_p (l : List Int) : Option (List Int) :=
  (need (fitsB 8 l.length)).bind fun u1 =>
  some l
theorem impl_copyInts_ok (l : List Int) (r : (List Int)) (hH : impl_copyInts_p l = some r) : SpecR Try.prog 86 [.s (List.map encInt l)] (.w 1 (r.map encInt)) := by
  refine fn_ok T Try.func86 rfl (by decide) rfl ?_
  refine AW.seq ?_
  refine AW.region ?_
  refine AO.pure T rfl rfl rfl ?_
  refine AO.nil ?_
  refine AW.seq ?_
  obtain ⟨u1, hx2, hH⟩ := bindE hH
  refine AW.region ?_
  refine AO.step rfl (mk0_ok T rfl rfl rfl rfl) ?_
  refine AO.pure T rfl rfl rfl ?_
  refine AO.step rfl (app_ws_map T rfl 1 rfl rfl rfl rfl rfl (by decide) (by decide) rfl rfl (fun _ => rfl) (needT (hx2)) rfl rfl) ?_
  refine AO.pure T rfl rfl rfl ?_
  refine AO.nil ?_
  refine AW.ret ?_
  cases someE hH
  exact ⟨trivial, _, [1], rfl, .c (.c (.rowR rfl)), by decide⟩

def spec_l1Has_l1 (n : Int) : List Int → Nat → Option Bool
  | [], k1 =>
    some false
  | y2 :: ys3, k1 =>
    cond (y2 == n)
      (some true)
      (spec_l1Has_l1 n ys3 (k1 + 1))
def spec_l1Has_p (l : List Int) (n : Int) : Option Bool :=
  spec_l1Has_l1 n l 0
theorem spec_l1Has_ok (l : List Int) (n : Int) (r : Bool) (hH : spec_l1Has_p l n = some r) : SpecR Try.prog 89 [.s (List.map encInt l), .v (.int .i64 n)] (.v (.bool r)) := by
  refine fn_ok T Try.func89 rfl (by decide) rfl ?_
  refine AW.seq ?_
  refine AW.region ?_
  refine AO.pure T rfl rfl rfl ?_
  refine AO.nil ?_
  refine AW.seq ?_
  refine AW.seq ?_
  refine AW.region ?_
  refine AO.pure T rfl rfl rfl ?_
  refine AO.val rfl rfl (len_map_ok T rfl rfl rfl) ?_
  refine AO.pure T rfl rfl rfl ?_
  refine AO.nil ?_
  refine AW.block ?_
  refine AW.loopS (fun s : Nat => (⟨[(1, .v (.int .i64 n)), (7, .s (List.map encInt l)), (8, .v (.int .i64 (l.length : Int))), (9, .v (.int .i64 (s : Int)))], [], 17, []⟩ : St)) (fun s => s ≤ l.length ∧ spec_l1Has_l1 n (l.drop s) s = some r) (fun s => l.length - s) 0 ⟨Nat.zero_le _, hH⟩ ?_ ?_
  · exact Le.cut 0 0 rfl (by repeat' (first | exact trivial | refine ⟨⟨_, rfl, rfl⟩, ?_⟩)) (by repeat' (first | exact trivial | refine ⟨⟨_, rfl, rfl⟩, ?_⟩)) rfl
  · rintro k1 ⟨hk, hH⟩
    replace hH : spec_l1Has_l1 n (l.drop k1) k1 = some r := hH
    show AW _ _ _ (⟨[(1, .v (.int .i64 n)), (7, .s (List.map encInt l)), (8, .v (.int .i64 (l.length : Int))), (9, .v (.int .i64 (k1 : Int)))], [], 17, []⟩ : St)
    refine AW.boundM (t := 7) (l := l) rfl (fun hb5 => ?_)
    cases hd4 : l.drop k1 with
    | nil =>
      rw [hd4] at hH
      rw [spec_l1Has_l1] at hH
      have hlt6 := drop_ge hd4
      refine AW.seq ?_
      refine AW.region ?_
      refine AO.pure T rfl rfl rfl ?_
      refine AO.nil ?_
      refine AW.seq ?_
      refine AW.condF' (b := decide ((k1 : Int) < (l.length : Int))) rfl (rngF hlt6) ?_
      refine AW.exit ?_
      refine AW.seq ?_
      refine AW.region ?_
      refine AO.pure T rfl rfl rfl ?_
      refine AO.nil ?_
      refine AW.ret ?_
      cases someE hH
      exact ⟨trivial, _, [], rfl, .c (.c .v), by decide⟩
    | cons y2 ys3 =>
      rw [hd4] at hH
      rw [spec_l1Has_l1] at hH
      have hlt6 := drop_lt hd4
      refine AW.seq ?_
      refine AW.region ?_
      refine AO.pure T rfl rfl rfl ?_
      refine AO.nil ?_
      refine AW.seq ?_
      refine AW.condT' (b := decide ((k1 : Int) < (l.length : Int))) rfl (rngT hlt6) ?_
      refine AW.skip ?_
      refine AW.seq ?_
      refine AW.block ?_
      refine AW.seq ?_
      refine AW.region ?_
      refine AO.val rfl rfl (ix_map_ok T rfl rfl rfl rfl rfl (getI_drop hd4) rfl) ?_
      refine AO.pure T rfl rfl rfl ?_
      refine AO.pure T rfl rfl rfl ?_
      refine AO.nil ?_
      refine AW.seq ?_
      refine AW.region ?_
      refine AO.pure T rfl rfl rfl ?_
      refine AO.pure T rfl rfl rfl ?_
      refine AO.pure T rfl rfl rfl ?_
      refine AO.nil ?_
      refine AW.cond (b := (y2 == n)) rfl (fun hc => ?_) (fun hc => ?_)
      · replace hH := condT hc hH
        refine AW.seq ?_
        refine AW.region ?_
        refine AO.pure T rfl rfl rfl ?_
        refine AO.nil ?_
        refine AW.ret ?_
        cases someE hH
        exact ⟨trivial, _, [], rfl, .c (.c .v), by decide⟩
      · replace hH := condF hc hH
        refine AW.skip ?_
        refine AW.region ?_
        refine AO.val rfl rfl (ar_ok rfl rfl rfl rfl (inI_succ hlt6 hb5)) ?_
        refine AO.pure T rfl rfl rfl ?_
        refine AO.nil ?_
        refine ⟨k1 + 1, ⟨Nat.succ_le_of_lt hlt6, (by rw [drop_succ_of hd4]; exact hH)⟩, (by have := hlt6; dsimp only; omega), ?_⟩
        exact Le.cut 0 0 rfl (by repeat' (first | exact trivial | refine ⟨⟨_, rfl, rfl⟩, ?_⟩)) (by repeat' (first | exact trivial | refine ⟨⟨_, rfl, rfl⟩, ?_⟩)) rfl

def spec_seLine_l1 (x : Line) : List Int → Nat → Option Bool
  | [], k1 =>
    some (decide ((x.events.length : Int) > 0))
  | y2 :: ys3, k1 =>
    (opt (!((x.points.length : Int) != (x.events.length : Int))) default (getI x.points (k1 : Int))).bind fun x36 =>
    (opt (!((x.points.length : Int) != (x.events.length : Int))) default (spec_seEntry_p (Entry.mk y2 x.skater x36))).bind fun x38 =>
    cond (((x.points.length : Int) != (x.events.length : Int)) || (!x38))
      (some false)
      ((opt (decide ((k1 : Int) > 0)) default (getI x.points (w64 ((k1 : Int) - 1)))).bind fun x40 =>
      (opt (decide ((k1 : Int) > 0)) default (getI x.points (k1 : Int))).bind fun x42 =>
      (opt ((decide ((k1 : Int) > 0) && (!(decide (x40 < x42)))) && (x40 == x42)) default (getI x.events (w64 ((k1 : Int) - 1)))).bind fun x44 =>
      cond (decide ((k1 : Int) > 0) && (decide (x40 < x42) || ((x40 == x42) && decide (x44 ≥ y2))))
        (some false)
        ((sliceHi x.events (k1 : Int)).bind fun x46 =>
        (spec_l1Has_p x46 y2).bind fun x48 =>
        cond x48
          (some false)
          (spec_seLine_l1 x ys3 (k1 + 1))))
def spec_seLine_p (x : Line) : Option Bool :=
  spec_seLine_l1 x x.events 0
theorem spec_seLine_ok (x : Line) (r : Bool) (hH : spec_seLine_p x = some r) : SpecR Try.prog 104 [.g (encLine x)] (.v (.bool r)) := by
  refine fn_ok T Try.func104 rfl (by decide) rfl ?_
  refine AW.seq ?_
  refine AW.region ?_
  refine AO.step rfl (box_ok T rfl 1 rfl rfl rfl rfl) ?_
  refine AO.pure T rfl rfl rfl ?_
  refine AO.nil ?_
  refine AW.seq ?_
  refine AW.seq ?_
  refine AW.region ?_
  refine AO.pure T rfl rfl rfl ?_
  refine AO.pure T rfl rfl rfl ?_
  refine AO.val rfl rfl (len_map_ok T rfl rfl rfl) ?_
  refine AO.pure T rfl rfl rfl ?_
  refine AO.nil ?_
  refine AW.block ?_
  refine AW.loopS (fun s : Nat => (⟨[(1, .p 1 0), (6, .v (.int .i64 (x.events.length : Int))), (7, .v (.int .i64 (s : Int)))], [(1, .box [.v (.int .i64 x.skater), .s (List.map encInt x.events), .s (List.map encInt x.points)])], 93, []⟩ : St)) (fun s => s ≤ x.events.length ∧ spec_seLine_l1 x (x.events.drop s) s = some r) (fun s => x.events.length - s) 0 ⟨Nat.zero_le _, hH⟩ ?_ ?_
  · exact Le.cut 0 0 rfl (by repeat' (first | exact trivial | refine ⟨⟨_, rfl, rfl⟩, ?_⟩)) (by repeat' (first | exact trivial | refine ⟨⟨_, rfl, rfl⟩, ?_⟩)) rfl
  · rintro k1 ⟨hk, hH⟩
    replace hH : spec_seLine_l1 x (x.events.drop k1) k1 = some r := hH
    show AW _ _ _ (⟨[(1, .p 1 0), (6, .v (.int .i64 (x.events.length : Int))), (7, .v (.int .i64 (k1 : Int)))], [(1, .box [.v (.int .i64 x.skater), .s (List.map encInt x.events), .s (List.map encInt x.points)])], 93, []⟩ : St)
    refine AW.boundBox (id := 1) (j := 1) (l := x.events) rfl rfl (fun hb5 => ?_)
    cases hd4 : x.events.drop k1 with
    | nil =>
      rw [hd4] at hH
      rw [spec_seLine_l1] at hH
      have hlt6 := drop_ge hd4
      refine AW.seq ?_
      refine AW.region ?_
      refine AO.pure T rfl rfl rfl ?_
      refine AO.nil ?_
      refine AW.seq ?_
      refine AW.condF' (b := decide ((k1 : Int) < (x.events.length : Int))) rfl (rngF hlt6) ?_
      refine AW.exit ?_
      refine AW.seq ?_
      refine AW.region ?_
      refine AO.pure T rfl rfl rfl ?_
      refine AO.pure T rfl rfl rfl ?_
      refine AO.val rfl rfl (len_map_ok T rfl rfl rfl) ?_
      refine AO.pure T rfl rfl rfl ?_
      refine AO.pure T rfl rfl rfl ?_
      refine AO.nil ?_
      refine AW.ret ?_
      cases someE hH
      exact ⟨trivial, _, [], rfl, .c (.c .v), by decide⟩
    | cons y2 ys3 =>
      rw [hd4] at hH
      rw [spec_seLine_l1] at hH
      have hlt6 := drop_lt hd4
      refine AW.seq ?_
      refine AW.region ?_
      refine AO.pure T rfl rfl rfl ?_
      refine AO.nil ?_
      refine AW.seq ?_
      refine AW.condT' (b := decide ((k1 : Int) < (x.events.length : Int))) rfl (rngT hlt6) ?_
      refine AW.skip ?_
      refine AW.seq ?_
      refine AW.block ?_
      refine AW.seq ?_
      refine AW.region ?_
      refine AO.pure T rfl rfl rfl ?_
      refine AO.pure T rfl rfl rfl ?_
      refine AO.nil ?_
      refine AW.seq ?_
      refine AW.seq ?_
      obtain ⟨x36, hx37, hH⟩ := bindE hH
      obtain ⟨x38, hx39, hH⟩ := bindE hH
      refine AW.drawn 20 2 [] mix (by kernel_rfl) rfl ?_
      refine AD.pure T rfl rfl rfl ?_
      refine AD.pure T rfl rfl rfl ?_
      refine AD.val rfl rfl (len_map_ok T rfl rfl rfl) ?_
      refine AD.pure T rfl rfl rfl ?_
      refine AD.pure T rfl rfl rfl ?_
      refine AD.val rfl rfl (len_map_ok T rfl rfl rfl) ?_
      refine AD.pure T rfl rfl rfl ?_
      refine AD.pure T rfl rfl rfl ?_
      refine AD.pureG T [] rfl trivial rfl rfl ?_
      refine AD.pureG T [18] rfl ⟨fun h => h, trivial⟩ rfl rfl ?_
      refine AD.pureG T [] rfl trivial rfl rfl ?_
      refine AD.guard [19, 20] rfl ⟨fun h => h, fun h => h, trivial⟩ (fun hg => ix_map_ok T rfl rfl rfl rfl rfl (getI_drop hd4) rfl) rfl ?_
      refine AD.pureG T [21] rfl ⟨fun h => h, trivial⟩ rfl rfl ?_
      refine AD.pureG T [] rfl trivial rfl rfl ?_
      refine AD.pureG T [23] rfl ⟨fun h => h, trivial⟩ rfl rfl ?_
      refine AD.pureG T [] rfl trivial rfl rfl ?_
      refine AD.pureG T [25] rfl ⟨fun h => h, trivial⟩ rfl rfl ?_
      refine AD.pureG T [] rfl trivial rfl rfl ?_
      refine AD.guard [26, 27] rfl ⟨fun h => h, fun h => h, trivial⟩ (fun hg => ix_map_ok T rfl rfl rfl rfl rfl (optT hx37 hg) rfl) rfl ?_
      refine AD.pureG T [28] rfl ⟨fun h => h, trivial⟩ rfl rfl ?_
      refine AD.nil ?_
      refine AO.pureG T [22, 24, 29] rfl ⟨fun h => h, fun h => h, fun h => h, trivial⟩ rfl rfl ?_
      refine AO.guard [30] rfl ⟨fun h => h, trivial⟩ (fun hg => callV_ok rfl rfl rfl rfl (spec_seEntry_ok _ _ (optT hx39 hg)) rfl) rfl ?_
      refine AO.pureG T [31] rfl ⟨fun h => h, trivial⟩ rfl rfl ?_
      refine AO.val rfl rfl (pick_or rfl rfl rfl rfl) ?_
      refine AO.nil ?_
      refine AW.le (Le.cut 0 0 (σ' := (⟨[(1, .p 1 0), (3, .v (.int .i64 (k1 : Int))), (6, .v (.int .i64 (x.events.length : Int))), (7, .v (.int .i64 (k1 : Int))), (33, .v (.bool (((x.points.length : Int) != (x.events.length : Int)) || (!x38))))], [(1, .box [.v (.int .i64 x.skater), .s (List.map encInt x.events), .s (List.map encInt x.points)])], 93, []⟩ : St)) rfl (by repeat' (first | exact trivial | refine ⟨⟨_, rfl, rfl⟩, ?_⟩)) (by repeat' (first | exact trivial | refine ⟨⟨_, rfl, rfl⟩, ?_⟩)) rfl) ?_
      refine AW.cond (b := (((x.points.length : Int) != (x.events.length : Int)) || (!x38))) rfl (fun hc => ?_) (fun hc => ?_)
      · replace hH := condT hc hH
        refine AW.seq ?_
        refine AW.region ?_
        refine AO.pure T rfl rfl rfl ?_
        refine AO.nil ?_
        refine AW.ret ?_
        cases someE hH
        exact ⟨trivial, _, [], rfl, .c (.c .v), by decide⟩
      · replace hH := condF hc hH
        refine AW.skip ?_
        refine AW.seq ?_
        refine AW.seq ?_
        obtain ⟨x40, hx41, hH⟩ := bindE hH
        obtain ⟨x42, hx43, hH⟩ := bindE hH
        obtain ⟨x44, hx45, hH⟩ := bindE hH
        refine AW.drawn 40 2 [] mix (by kernel_rfl) rfl ?_
        refine AD.pure T rfl rfl rfl ?_
        refine AD.pure T rfl rfl rfl ?_
        refine AD.pure T rfl rfl rfl ?_
        refine AD.pureG T [] rfl trivial rfl rfl ?_
        refine AD.pureG T [37] rfl ⟨fun h => h, trivial⟩ rfl rfl ?_
        refine AD.pureG T [] rfl trivial rfl rfl ?_
        refine AD.guard [39] rfl ⟨fun h => h, trivial⟩ (fun hg => arw_ok rfl rfl rfl rfl) rfl ?_
        refine AD.guard [38, 40] rfl ⟨fun h => h, fun h => h, trivial⟩ (fun hg => ix_map_ok T rfl rfl rfl rfl rfl (optT hx41 hg) rfl) rfl ?_
        refine AD.pureG T [41] rfl ⟨fun h => h, trivial⟩ rfl rfl ?_
        refine AD.pureG T [] rfl trivial rfl rfl ?_
        refine AD.pureG T [43] rfl ⟨fun h => h, trivial⟩ rfl rfl ?_
        refine AD.pureG T [] rfl trivial rfl rfl ?_
        refine AD.guard [44, 45] rfl ⟨fun h => h, fun h => h, trivial⟩ (fun hg => ix_map_ok T rfl rfl rfl rfl rfl (optT hx43 hg) rfl) rfl ?_
        refine AD.pureG T [46] rfl ⟨fun h => h, trivial⟩ rfl rfl ?_
        refine AD.pureG T [42, 47] rfl ⟨fun h => h, fun h => h, trivial⟩ rfl rfl ?_
        refine AD.pureG T [48] rfl ⟨fun h => h, trivial⟩ rfl rfl ?_
        refine AD.pureG T [] rfl trivial rfl rfl ?_
        refine AD.pureG T [50] rfl ⟨fun h => h, trivial⟩ rfl rfl ?_
        refine AD.pureG T [] rfl trivial rfl rfl ?_
        refine AD.guard [52] rfl ⟨fun h => h, trivial⟩ (fun hg => arw_ok rfl rfl rfl rfl) rfl ?_
        refine AD.guard [51, 53] rfl ⟨fun h => h, fun h => h, trivial⟩ (fun hg => ix_map_ok T rfl rfl rfl rfl rfl (optT hx41 ((fun h => (fun h => h) (Bool.and_eq_true_iff.1 h).1) hg)) rfl) rfl ?_
        refine AD.pureG T [54] rfl ⟨fun h => h, trivial⟩ rfl rfl ?_
        refine AD.pureG T [] rfl trivial rfl rfl ?_
        refine AD.pureG T [56] rfl ⟨fun h => h, trivial⟩ rfl rfl ?_
        refine AD.pureG T [] rfl trivial rfl rfl ?_
        refine AD.guard [57, 58] rfl ⟨fun h => h, fun h => h, trivial⟩ (fun hg => ix_map_ok T rfl rfl rfl rfl rfl (optT hx43 ((fun h => (fun h => h) (Bool.and_eq_true_iff.1 h).1) hg)) rfl) rfl ?_
        refine AD.pureG T [59] rfl ⟨fun h => h, trivial⟩ rfl rfl ?_
        refine AD.pureG T [55, 60] rfl ⟨fun h => h, fun h => h, trivial⟩ rfl rfl ?_
        refine AD.pureG T [61] rfl ⟨fun h => h, trivial⟩ rfl rfl ?_
        refine AD.pureG T [] rfl trivial rfl rfl ?_
        refine AD.pureG T [63] rfl ⟨fun h => h, trivial⟩ rfl rfl ?_
        refine AD.pureG T [] rfl trivial rfl rfl ?_
        refine AD.guard [65] rfl ⟨fun h => h, trivial⟩ (fun hg => arw_ok rfl rfl rfl rfl) rfl ?_
        refine AD.guard [64, 66] rfl ⟨fun h => h, fun h => h, trivial⟩ (fun hg => ix_map_ok T rfl rfl rfl rfl rfl (optT hx45 hg) rfl) rfl ?_
        refine AD.pureG T [67] rfl ⟨fun h => h, trivial⟩ rfl rfl ?_
        refine AD.pureG T [] rfl trivial rfl rfl ?_
        refine AD.pureG T [69] rfl ⟨fun h => h, trivial⟩ rfl rfl ?_
        refine AD.pureG T [] rfl trivial rfl rfl ?_
        refine AD.guard [70, 71] rfl ⟨fun h => h, fun h => h, trivial⟩ (fun hg => ix_map_ok T rfl rfl rfl rfl rfl (getI_drop hd4) rfl) rfl ?_
        refine AD.pureG T [72] rfl ⟨fun h => h, trivial⟩ rfl rfl ?_
        refine AD.nil ?_
        refine AO.pureG T [68, 73] rfl ⟨fun h => h, fun h => h, trivial⟩ rfl rfl ?_
        refine AO.guard [62] rfl ⟨fun h => h, trivial⟩ (fun hg => pick_and rfl rfl rfl (by rw [hg]; exact Bool.true_and _)) rfl ?_
        refine AO.guard [49] rfl ⟨fun h => h, trivial⟩ (fun hg => pick_or rfl rfl rfl (by rw [hg]; exact Bool.true_and _)) rfl ?_
        refine AO.val rfl rfl (pick_and rfl rfl rfl rfl) ?_
        refine AO.nil ?_
        refine AW.le (Le.cut 0 0 (σ' := (⟨[(1, .p 1 0), (3, .v (.int .i64 (k1 : Int))), (6, .v (.int .i64 (x.events.length : Int))), (7, .v (.int .i64 (k1 : Int))), (77, .v (.bool (decide ((k1 : Int) > 0) && (decide (x40 < x42) || ((x40 == x42) && decide (x44 ≥ y2))))))], [(1, .box [.v (.int .i64 x.skater), .s (List.map encInt x.events), .s (List.map encInt x.points)])], 93, []⟩ : St)) rfl (by repeat' (first | exact trivial | refine ⟨⟨_, rfl, rfl⟩, ?_⟩)) (by repeat' (first | exact trivial | refine ⟨⟨_, rfl, rfl⟩, ?_⟩)) rfl) ?_
        refine AW.cond (b := (decide ((k1 : Int) > 0) && (decide (x40 < x42) || ((x40 == x42) && decide (x44 ≥ y2))))) rfl (fun hc => ?_) (fun hc => ?_)
        · replace hH := condT hc hH
          refine AW.seq ?_
          refine AW.region ?_
          refine AO.pure T rfl rfl rfl ?_
          refine AO.nil ?_
          refine AW.ret ?_
          cases someE hH
          exact ⟨trivial, _, [], rfl, .c (.c .v), by decide⟩
        · replace hH := condF hc hH
          refine AW.skip ?_
          refine AW.seq ?_
          obtain ⟨x46, hx47, hH⟩ := bindE hH
          obtain ⟨x48, hx49, hH⟩ := bindE hH
          refine AW.drawn 9 2 [] mix (by kernel_rfl) rfl ?_
          refine AD.pure T rfl rfl rfl ?_
          refine AD.pure T rfl rfl rfl ?_
          refine AD.pure T rfl rfl rfl ?_
          refine AD.val rfl rfl (slice_hi_map_ok T rfl rfl rfl rfl rfl (hx47) (fun _ => rfl)) ?_
          refine AD.pure T rfl rfl rfl ?_
          refine AD.pure T rfl rfl rfl ?_
          refine AD.pure T rfl rfl rfl ?_
          refine AD.val rfl rfl (ix_map_ok T rfl rfl rfl rfl rfl (getI_drop hd4) rfl) ?_
          refine AD.pure T rfl rfl rfl ?_
          refine AD.nil ?_
          refine AO.val rfl rfl (callV_ok rfl rfl rfl rfl (spec_l1Has_ok _ _ _ (hx49)) rfl) ?_
          refine AO.nil ?_
          refine AW.cond (b := x48) rfl (fun hc => ?_) (fun hc => ?_)
          · replace hH := condT hc hH
            refine AW.seq ?_
            refine AW.region ?_
            refine AO.pure T rfl rfl rfl ?_
            refine AO.nil ?_
            refine AW.ret ?_
            cases someE hH
            exact ⟨trivial, _, [], rfl, .c (.c .v), by decide⟩
          · replace hH := condF hc hH
            refine AW.skip ?_
            refine AW.region ?_
            refine AO.val rfl rfl (ar_ok rfl rfl rfl rfl (inI_succ hlt6 hb5)) ?_
            refine AO.pure T rfl rfl rfl ?_
            refine AO.nil ?_
            refine ⟨k1 + 1, ⟨Nat.succ_le_of_lt hlt6, (by rw [drop_succ_of hd4]; exact hH)⟩, (by have := hlt6; dsimp only; omega), ?_⟩
            exact Le.cut 0 0 rfl (by repeat' (first | exact trivial | refine ⟨⟨_, rfl, rfl⟩, ?_⟩)) (by repeat' (first | exact trivial | refine ⟨⟨_, rfl, rfl⟩, ?_⟩)) rfl

def spec_seGood_l1 (sA : Season) : List Line → Nat → Int → Option Bool
  | [], k1, v16 =>
    (spec_l1In_p sA.best 1 9).bind fun x18 =>
    some (x18 && decide (v16 ≤ 80))
  | y2 :: ys3, k1, v16 =>
    (spec_seLine_p y2).bind fun x20 =>
    (opt ((!(!x20)) && decide ((k1 : Int) > 0)) default (getI sA.lines (w64 ((k1 : Int) - 1)))).bind fun x22 =>
    cond ((!x20) || (decide ((k1 : Int) > 0) && decide (x22.skater ≥ y2.skater)))
      (some false)
      (spec_seGood_l1 sA ys3 (k1 + 1) (w64 (v16 + (y2.events.length : Int))))
def spec_seGood_p (sA : Season) : Option Bool :=
  spec_seGood_l1 sA sA.lines 0 0
theorem spec_seGood_ok (sA : Season) (r : Bool) (hH : spec_seGood_p sA = some r) : SpecR Try.prog 60 [.g (encSeason sA)] (.v (.bool r)) := by
  refine fn_ok T Try.func60 rfl (by decide) rfl ?_
  refine AW.seq ?_
  refine AW.region ?_
  refine AO.step rfl (box_ok T rfl 1 rfl rfl rfl rfl) ?_
  refine AO.pure T rfl rfl rfl ?_
  refine AO.nil ?_
  refine AW.seq ?_
  refine AW.region ?_
  refine AO.pure T rfl rfl rfl ?_
  refine AO.nil ?_
  refine AW.seq ?_
  refine AW.seq ?_
  refine AW.region ?_
  refine AO.pure T rfl rfl rfl ?_
  refine AO.pure T rfl rfl rfl ?_
  refine AO.val rfl rfl (len_map_ok T rfl rfl rfl) ?_
  refine AO.pure T rfl rfl rfl ?_
  refine AO.nil ?_
  refine AW.block ?_
  refine AW.loopS (fun s : Nat × Int => (⟨[(1, .p 1 0), (3, .v (.int .i64 s.2)), (7, .s (List.map encLine sA.lines)), (8, .v (.int .i64 (sA.lines.length : Int))), (9, .v (.int .i64 (s.1 : Int)))], [(1, .box [.v (.int .i64 sA.best), .s (List.map encLine sA.lines)])], 46, []⟩ : St)) (fun s => s.1 ≤ sA.lines.length ∧ spec_seGood_l1 sA (sA.lines.drop s.1) s.1 s.2 = some r) (fun s => sA.lines.length - s.1) (0, 0) ⟨Nat.zero_le _, hH⟩ ?_ ?_
  · exact Le.cut 0 0 rfl (by repeat' (first | exact trivial | refine ⟨⟨_, rfl, rfl⟩, ?_⟩)) (by repeat' (first | exact trivial | refine ⟨⟨_, rfl, rfl⟩, ?_⟩)) rfl
  · rintro ⟨k1, v16⟩ ⟨hk, hH⟩
    replace hH : spec_seGood_l1 sA (sA.lines.drop k1) k1 v16 = some r := hH
    show AW _ _ _ (⟨[(1, .p 1 0), (3, .v (.int .i64 v16)), (7, .s (List.map encLine sA.lines)), (8, .v (.int .i64 (sA.lines.length : Int))), (9, .v (.int .i64 (k1 : Int)))], [(1, .box [.v (.int .i64 sA.best), .s (List.map encLine sA.lines)])], 46, []⟩ : St)
    refine AW.boundM (t := 7) (l := sA.lines) rfl (fun hb5 => ?_)
    cases hd4 : sA.lines.drop k1 with
    | nil =>
      rw [hd4] at hH
      rw [spec_seGood_l1] at hH
      have hlt6 := drop_ge hd4
      refine AW.seq ?_
      refine AW.region ?_
      refine AO.pure T rfl rfl rfl ?_
      refine AO.nil ?_
      refine AW.seq ?_
      refine AW.condF' (b := decide ((k1 : Int) < (sA.lines.length : Int))) rfl (rngF hlt6) ?_
      refine AW.exit ?_
      refine AW.seq ?_
      obtain ⟨x18, hx19, hH⟩ := bindE hH
      refine AW.region ?_
      refine AO.pure T rfl rfl rfl ?_
      refine AO.pure T rfl rfl rfl ?_
      refine AO.val rfl rfl (callV_ok rfl rfl rfl rfl (spec_l1In_ok _ _ _ _ (hx19)) rfl) ?_
      refine AO.pure T rfl rfl rfl ?_
      refine AO.pureG T [] rfl trivial rfl rfl ?_
      refine AO.pureG T [43] rfl ⟨fun h => h, trivial⟩ rfl rfl ?_
      refine AO.val rfl rfl (pick_and rfl rfl rfl rfl) ?_
      refine AO.pure T rfl rfl rfl ?_
      refine AO.nil ?_
      refine AW.ret ?_
      cases someE hH
      exact ⟨trivial, _, [], rfl, .c (.c .v), by decide⟩
    | cons y2 ys3 =>
      rw [hd4] at hH
      rw [spec_seGood_l1] at hH
      have hlt6 := drop_lt hd4
      refine AW.seq ?_
      refine AW.region ?_
      refine AO.pure T rfl rfl rfl ?_
      refine AO.nil ?_
      refine AW.seq ?_
      refine AW.condT' (b := decide ((k1 : Int) < (sA.lines.length : Int))) rfl (rngT hlt6) ?_
      refine AW.skip ?_
      refine AW.seq ?_
      refine AW.block ?_
      refine AW.seq ?_
      refine AW.region ?_
      refine AO.pure T rfl rfl rfl ?_
      refine AO.val rfl rfl (ix_map_ok T rfl rfl rfl rfl rfl (getI_drop hd4) rfl) ?_
      refine AO.pure T rfl rfl rfl ?_
      refine AO.step rfl (alloc_ok T rfl 4 rfl rfl rfl rfl rfl) ?_
      refine AO.pure T rfl rfl rfl ?_
      refine AO.step rfl (store_ok T rfl rfl rfl rfl rfl rfl rfl rfl rfl) ?_
      refine AO.nil ?_
      refine AW.seq ?_
      refine AW.seq ?_
      obtain ⟨x20, hx21, hH⟩ := bindE hH
      obtain ⟨x22, hx23, hH⟩ := bindE hH
      refine AW.drawn 16 5 [] mix (by kernel_rfl) rfl ?_
      refine AD.pure T rfl rfl rfl ?_
      refine AD.val rfl rfl (callV_ok rfl rfl rfl rfl (spec_seLine_ok _ _ (hx21)) rfl) ?_
      refine AD.pure T rfl rfl rfl ?_
      refine AD.pure T rfl rfl rfl ?_
      refine AD.pureG T [] rfl trivial rfl rfl ?_
      refine AD.pureG T [18] rfl ⟨fun h => h, trivial⟩ rfl rfl ?_
      refine AD.pureG T [19] rfl ⟨fun h => h, trivial⟩ rfl rfl ?_
      refine AD.pureG T [] rfl trivial rfl rfl ?_
      refine AD.pureG T [21] rfl ⟨fun h => h, trivial⟩ rfl rfl ?_
      refine AD.pureG T [] rfl trivial rfl rfl ?_
      refine AD.guard [23] rfl ⟨fun h => h, trivial⟩ (fun hg => arw_ok rfl rfl rfl rfl) rfl ?_
      refine AD.guard [22, 24] rfl ⟨fun h => h, fun h => h, trivial⟩ (fun hg => ix_map_ok T rfl rfl rfl rfl rfl (optT hx23 hg) rfl) rfl ?_
      refine AD.pureG T [25] rfl ⟨fun h => h, trivial⟩ rfl rfl ?_
      refine AD.pureG T [26] rfl ⟨fun h => h, trivial⟩ rfl rfl ?_
      refine AD.pureG T [] rfl trivial rfl rfl ?_
      refine AD.pureG T [28] rfl ⟨fun h => h, trivial⟩ rfl rfl ?_
      refine AD.nil ?_
      refine AO.pureG T [27, 29] rfl ⟨fun h => h, fun h => h, trivial⟩ rfl rfl ?_
      refine AO.guard [20] rfl ⟨fun h => h, trivial⟩ (fun hg => pick_and rfl rfl rfl (by rw [hg]; exact Bool.true_and _)) rfl ?_
      refine AO.val rfl rfl (pick_or rfl rfl rfl rfl) ?_
      refine AO.nil ?_
      refine AW.le (Le.cut 0 0 (σ' := (⟨[(1, .p 1 0), (3, .v (.int .i64 v16)), (5, .p 4 0), (7, .s (List.map encLine sA.lines)), (8, .v (.int .i64 (sA.lines.length : Int))), (9, .v (.int .i64 (k1 : Int))), (32, .v (.bool ((!x20) || (decide ((k1 : Int) > 0) && decide (x22.skater ≥ y2.skater)))))], [(1, .box [.v (.int .i64 sA.best), .s (List.map encLine sA.lines)]), (4, .box [.v (.int .i64 y2.skater), .s (List.map encInt y2.events), .s (List.map encInt y2.points)])], 46, []⟩ : St)) rfl (by repeat' (first | exact trivial | refine ⟨⟨_, rfl, rfl⟩, ?_⟩)) (by repeat' (first | exact trivial | refine ⟨⟨_, rfl, rfl⟩, ?_⟩)) rfl) ?_
      refine AW.cond (b := ((!x20) || (decide ((k1 : Int) > 0) && decide (x22.skater ≥ y2.skater)))) rfl (fun hc => ?_) (fun hc => ?_)
      · replace hH := condT hc hH
        refine AW.seq ?_
        refine AW.region ?_
        refine AO.pure T rfl rfl rfl ?_
        refine AO.nil ?_
        refine AW.ret ?_
        cases someE hH
        exact ⟨trivial, _, [], rfl, .c (.c .v), by decide⟩
      · replace hH := condF hc hH
        refine AW.skip ?_
        refine AW.region ?_
        refine AO.pure T rfl rfl rfl ?_
        refine AO.pure T rfl rfl rfl ?_
        refine AO.pure T rfl rfl rfl ?_
        refine AO.val rfl rfl (len_map_ok T rfl rfl rfl) ?_
        refine AO.val rfl rfl (arw_ok rfl rfl rfl rfl) ?_
        refine AO.pure T rfl rfl rfl ?_
        refine AO.nil ?_
        refine AW.region ?_
        refine AO.val rfl rfl (ar_ok rfl rfl rfl rfl (inI_succ hlt6 hb5)) ?_
        refine AO.pure T rfl rfl rfl ?_
        refine AO.nil ?_
        refine ⟨(k1 + 1, w64 (v16 + (y2.events.length : Int))), ⟨Nat.succ_le_of_lt hlt6, (by rw [drop_succ_of hd4]; exact hH)⟩, (by have := hlt6; dsimp only; omega), ?_⟩
        exact Le.cut 0 0 rfl (by repeat' (first | exact trivial | refine ⟨⟨_, rfl, rfl⟩, ?_⟩)) (by repeat' (first | exact trivial | refine ⟨⟨_, rfl, rfl⟩, ?_⟩)) rfl

def spec_AddEntry_p (fuel : Nat) (sA : Season) (e : Entry) : Option (Season × Bool) :=
  (spec_seGood_p sA).bind fun x1 =>
  (opt (!(!x1)) default (spec_seEntry_p e)).bind fun x3 =>
  cond ((!x1) || (!x3))
    (some ((Season.mk 0 []), false))
    ((spec_seHas_p fuel sA e.skater).bind fun x5 =>
    (opt (decide (x5 ≥ 0)) default (getI sA.lines x5)).bind fun x7 =>
    (opt (decide (x5 ≥ 0)) default (spec_l1Has_p x7.events e.event)).bind fun x9 =>
    cond (decide (x5 ≥ 0) && x9)
      (some ((Season.mk 0 []), false))
      ((spec_seAdd_p fuel sA e).bind fun x11 =>
      (spec_seGood_p x11).bind fun x13 =>
      cond (!x13)
        (some ((Season.mk 0 []), false))
        (some (x11, true))))
theorem spec_AddEntry_ok (fuel : Nat) (sA : Season) (e : Entry) (r : (Season × Bool)) (hH : spec_AddEntry_p fuel sA e = some r) : SpecR Try.prog 39 [.g (encSeason sA), .g (encEntry e)] (.t [.g (encSeasonH r.1), .v (.bool r.2)]) := by
  refine fn_ok T Try.func39 rfl (by decide) rfl ?_
  refine AW.seq ?_
  refine AW.region ?_
  refine AO.step rfl (box_ok T rfl 1 rfl rfl rfl rfl) ?_
  refine AO.step rfl (box_ok T rfl 2 rfl rfl rfl rfl) ?_
  refine AO.step rfl (alloc_ok T rfl 3 rfl rfl rfl rfl rfl) ?_
  refine AO.pure T rfl rfl rfl ?_
  refine AO.nil ?_
  refine AW.seq ?_
  refine AW.seq ?_
  obtain ⟨x1, hx2, hH⟩ := bindE hH
  obtain ⟨x3, hx4, hH⟩ := bindE hH
  refine AW.region ?_
  refine AO.pure T rfl rfl rfl ?_
  refine AO.val rfl rfl (callV_ok rfl rfl rfl rfl (spec_seGood_ok _ _ (hx2)) rfl) ?_
  refine AO.pure T rfl rfl rfl ?_
  refine AO.pure T rfl rfl rfl ?_
  refine AO.pureG T [] rfl trivial rfl rfl ?_
  refine AO.guard [12] rfl ⟨fun h => h, trivial⟩ (fun hg => callV_ok rfl rfl rfl rfl (spec_seEntry_ok _ _ (optT hx4 hg)) rfl) rfl ?_
  refine AO.pureG T [13] rfl ⟨fun h => h, trivial⟩ rfl rfl ?_
  refine AO.val rfl rfl (pick_or rfl rfl rfl rfl) ?_
  refine AO.nil ?_
  refine AW.cond (b := ((!x1) || (!x3))) rfl (fun hc => ?_) (fun hc => ?_)
  · replace hH := condT hc hH
    refine AW.seq ?_
    refine AW.region ?_
    refine AO.pure T rfl rfl rfl ?_
    refine AO.step rfl (store_ok T rfl rfl rfl rfl rfl rfl rfl rfl rfl) ?_
    refine AO.pure T rfl rfl rfl ?_
    refine AO.nil ?_
    refine AW.ret ?_
    cases someE hH
    exact ⟨trivial, _, [], rfl, .t (expLG_cons (.g (expLC_cons .v (expLC_cons .nil (expLC_nil)))) (expLG_cons (.c .v) (expLG_nil))), by decide⟩
  · replace hH := condF hc hH
    refine AW.skip ?_
    refine AW.seq ?_
    refine AW.seq ?_
    obtain ⟨x5, hx6, hH⟩ := bindE hH
    refine AW.region ?_
    refine AO.pure T rfl rfl rfl ?_
    refine AO.pure T rfl rfl rfl ?_
    refine AO.pure T rfl rfl rfl ?_
    refine AO.val rfl rfl (callV_ok rfl rfl rfl rfl (spec_seHas_ok fuel _ _ _ (hx6)) rfl) ?_
    refine AO.pure T rfl rfl rfl ?_
    refine AO.nil ?_
    refine AW.seq ?_
    obtain ⟨x7, hx8, hH⟩ := bindE hH
    obtain ⟨x9, hx10, hH⟩ := bindE hH
    refine AW.drawn 11 4 [] mix (by kernel_rfl) rfl ?_
    refine AD.pure T rfl rfl rfl ?_
    refine AD.pure T rfl rfl rfl ?_
    refine AD.pure T rfl rfl rfl ?_
    refine AD.pureG T [] rfl trivial rfl rfl ?_
    refine AD.pureG T [24] rfl ⟨fun h => h, trivial⟩ rfl rfl ?_
    refine AD.pureG T [] rfl trivial rfl rfl ?_
    refine AD.guard [25, 26] rfl ⟨fun h => h, fun h => h, trivial⟩ (fun hg => ix_map_ok T rfl rfl rfl rfl rfl (optT hx8 hg) rfl) rfl ?_
    refine AD.pureG T [27] rfl ⟨fun h => h, trivial⟩ rfl rfl ?_
    refine AD.pureG T [28] rfl ⟨fun h => h, trivial⟩ rfl rfl ?_
    refine AD.pureG T [] rfl trivial rfl rfl ?_
    refine AD.pureG T [30] rfl ⟨fun h => h, trivial⟩ rfl rfl ?_
    refine AD.nil ?_
    refine AO.guard [29, 31] rfl ⟨fun h => h, fun h => h, trivial⟩ (fun hg => callV_ok rfl rfl rfl rfl (spec_l1Has_ok _ _ _ (optT hx10 hg)) rfl) rfl ?_
    refine AO.val rfl rfl (pick_and rfl rfl rfl rfl) ?_
    refine AO.nil ?_
    refine AW.le (Le.cut 0 0 (σ' := (⟨[(2, .p 1 0), (3, .p 2 0), (4, .p 3 0), (33, .v (.bool (decide (x5 ≥ 0) && x9)))], [(1, .box [.v (.int .i64 sA.best), .s (List.map encLine sA.lines)]), (2, .box [.v (.int .i64 e.event), .v (.int .i64 e.skater), .v (.int .i64 e.points)]), (3, .box [.v (.int .i64 0), .w 0 []])], 43, []⟩ : St)) rfl (by repeat' (first | exact trivial | refine ⟨⟨_, rfl, rfl⟩, ?_⟩)) (by repeat' (first | exact trivial | refine ⟨⟨_, rfl, rfl⟩, ?_⟩)) rfl) ?_
    refine AW.cond (b := (decide (x5 ≥ 0) && x9)) rfl (fun hc => ?_) (fun hc => ?_)
    · replace hH := condT hc hH
      refine AW.seq ?_
      refine AW.region ?_
      refine AO.pure T rfl rfl rfl ?_
      refine AO.step rfl (store_ok T rfl rfl rfl rfl rfl rfl rfl rfl rfl) ?_
      refine AO.pure T rfl rfl rfl ?_
      refine AO.nil ?_
      refine AW.ret ?_
      cases someE hH
      exact ⟨trivial, _, [], rfl, .t (expLG_cons (.g (expLC_cons .v (expLC_cons .nil (expLC_nil)))) (expLG_cons (.c .v) (expLG_nil))), by decide⟩
    · replace hH := condF hc hH
      refine AW.skip ?_
      refine AW.seq ?_
      obtain ⟨x11, hx12, hH⟩ := bindE hH
      refine AW.region ?_
      refine AO.pure T rfl rfl rfl ?_
      refine AO.pure T rfl rfl rfl ?_
      refine AO.step rfl (call_ok rfl 4 rfl rfl rfl (spec_seAdd_ok fuel _ _ _ (hx12)) rfl rfl rfl) ?_
      refine AO.step rfl (alloc_ok T rfl 5 rfl rfl rfl rfl rfl) ?_
      refine AO.step rfl (store_ok T rfl rfl rfl rfl rfl rfl rfl rfl rfl) ?_
      refine AO.nil ?_
      refine AW.seq ?_
      refine AW.seq ?_
      obtain ⟨x13, hx14, hH⟩ := bindE hH
      refine AW.region ?_
      refine AO.pure T rfl rfl rfl ?_
      refine AO.val rfl rfl (callLV_ok rfl rfl rfl (es := [.g (encSeason x11)]) ⟨lend_g (LendL.cons (.free rfl) (LendL.cons ((.rowR rfl (.map fun y => .vs rfl))) LendL.nil)), trivial⟩ (spec_seGood_ok _ _ (hx14)) (zfree_v _) rfl) ?_
      refine AO.pure T rfl rfl rfl ?_
      refine AO.nil ?_
      refine AW.cond (b := (!x13)) rfl (fun hc => ?_) (fun hc => ?_)
      · replace hH := condT hc hH
        refine AW.seq ?_
        refine AW.region ?_
        refine AO.pure T rfl rfl rfl ?_
        refine AO.step rfl (store_ok T rfl rfl rfl rfl rfl rfl rfl rfl rfl) ?_
        refine AO.pure T rfl rfl rfl ?_
        refine AO.nil ?_
        refine AW.ret ?_
        cases someE hH
        exact ⟨trivial, _, [], rfl, .t (expLG_cons (.g (expLC_cons .v (expLC_cons .nil (expLC_nil)))) (expLG_cons (.c .v) (expLG_nil))), by decide⟩
      · replace hH := condF hc hH
        refine AW.skip ?_
        refine AW.seq ?_
        refine AW.region ?_
        refine AO.pure T rfl rfl rfl ?_
        refine AO.step rfl (store_ok T rfl rfl rfl rfl rfl rfl rfl rfl rfl) ?_
        refine AO.pure T rfl rfl rfl ?_
        refine AO.nil ?_
        refine AW.ret ?_
        cases someE hH
        exact ⟨trivial, _, [4], rfl, .t (expLG_cons (.g (expLC_cons .v (expLC_cons (.rowR rfl) (expLC_nil)))) (expLG_cons (.c .v) (expLG_nil))), by decide⟩

def spec_seAll_l2 (y2 : Line) : List Int → Nat → List Entry → Option (List Entry)
  | [], k119, v134 =>
    some v134
  | y120 :: ys121, k119, v134 =>
    (getI y2.points (k119 : Int)).bind fun x136 =>
    (need (fitsB 24 (v134.length + ([(Entry.mk y120 y2.skater x136)]).length))).bind fun u138 =>
    spec_seAll_l2 y2 ys121 (k119 + 1) (v134 ++ [(Entry.mk y120 y2.skater x136)])
def spec_seAll_l1 : List Line → Nat → List Entry → Option ((List Entry))
  | [], k1, v94 =>
    some v94
  | y2 :: ys3, k1, v94 =>
    (spec_seAll_l2 y2 y2.events 0 v94).bind fun v116 =>
    spec_seAll_l1 ys3 (k1 + 1) v116
def spec_seAll_p (sA : Season) : Option (List Entry) :=
  spec_seAll_l1 sA.lines 0 []
theorem spec_seAll_ok (sA : Season) (r : (List Entry)) (hH : spec_seAll_p sA = some r) : SpecR Try.prog 72 [.g (encSeason sA)] (.w 3 (r.map encEntry)) := by
  refine fn_ok T Try.func72 rfl (by decide) rfl ?_
  refine AW.seq ?_
  refine AW.region ?_
  refine AO.step rfl (box_ok T rfl 1 rfl rfl rfl rfl) ?_
  refine AO.pure T rfl rfl rfl ?_
  refine AO.nil ?_
  refine AW.seq ?_
  refine AW.region ?_
  refine AO.pure T rfl rfl rfl ?_
  refine AO.nil ?_
  refine AW.seq ?_
  refine AW.seq ?_
  refine AW.region ?_
  refine AO.pure T rfl rfl rfl ?_
  refine AO.pure T rfl rfl rfl ?_
  refine AO.val rfl rfl (len_map_ok T rfl rfl rfl) ?_
  refine AO.pure T rfl rfl rfl ?_
  refine AO.nil ?_
  refine AW.block ?_
  refine AW.loopS (fun s : Nat × (List Entry) => (⟨[(3, .R 6), (9, .s (List.map encLine sA.lines)), (10, .v (.int .i64 (sA.lines.length : Int))), (11, .v (.int .i64 (s.1 : Int)))], [(6, .row 3 (List.map encEntry s.2))], 38, []⟩ : St)) (fun s => s.1 ≤ sA.lines.length ∧ spec_seAll_l1 (sA.lines.drop s.1) s.1 s.2 = some r) (fun s => sA.lines.length - s.1) (0, []) ⟨Nat.zero_le _, hH⟩ ?_ ?_
  · refine Le.trans (Le.void 3 6 3 rfl rfl) ?_
    exact Le.cut 0 0 rfl (by repeat' (first | exact trivial | refine ⟨⟨_, rfl, rfl⟩, ?_⟩)) (by repeat' (first | exact trivial | refine ⟨⟨_, rfl, rfl⟩, ?_⟩)) rfl
  · rintro ⟨k1, v94⟩ ⟨hk, hH⟩
    replace hH : spec_seAll_l1 (sA.lines.drop k1) k1 v94 = some r := hH
    show AW _ _ _ (⟨[(3, .R 6), (9, .s (List.map encLine sA.lines)), (10, .v (.int .i64 (sA.lines.length : Int))), (11, .v (.int .i64 (k1 : Int)))], [(6, .row 3 (List.map encEntry v94))], 38, []⟩ : St)
    refine AW.boundM (t := 9) (l := sA.lines) rfl (fun hb5 => ?_)
    cases hd4 : sA.lines.drop k1 with
    | nil =>
      rw [hd4] at hH
      rw [spec_seAll_l1] at hH
      have hlt6 := drop_ge hd4
      refine AW.seq ?_
      refine AW.region ?_
      refine AO.pure T rfl rfl rfl ?_
      refine AO.nil ?_
      refine AW.seq ?_
      refine AW.condF' (b := decide ((k1 : Int) < (sA.lines.length : Int))) rfl (rngF hlt6) ?_
      refine AW.exit ?_
      refine AW.seq ?_
      refine AW.region ?_
      refine AO.pure T rfl rfl rfl ?_
      refine AO.pure T rfl rfl rfl ?_
      refine AO.nil ?_
      refine AW.ret ?_
      cases someE hH
      exact ⟨trivial, _, [6], rfl, .c (.c (.rowR rfl)), by decide⟩
    | cons y2 ys3 =>
      rw [hd4] at hH
      rw [spec_seAll_l1] at hH
      have hlt6 := drop_lt hd4
      refine AW.seq ?_
      refine AW.region ?_
      refine AO.pure T rfl rfl rfl ?_
      refine AO.nil ?_
      refine AW.seq ?_
      refine AW.condT' (b := decide ((k1 : Int) < (sA.lines.length : Int))) rfl (rngT hlt6) ?_
      refine AW.skip ?_
      obtain ⟨o117, hH, hK118⟩ := bindE hH
      refine AW.seqJ (fun s : List Entry => (⟨[(3, .R 6), (9, .s (List.map encLine sA.lines)), (10, .v (.int .i64 (sA.lines.length : Int))), (11, .v (.int .i64 (k1 : Int)))], [(6, .row 3 (List.map encEntry s))], 38, []⟩ : St)) (fun s => s = o117) ?_ ?_
      · refine AW.block ?_
        refine AW.seq ?_
        refine AW.region ?_
        refine AO.val rfl rfl (ix_map_ok T rfl rfl rfl rfl rfl (getI_drop hd4) rfl) ?_
        refine AO.pure T rfl rfl rfl ?_
        refine AO.step rfl (alloc_ok T rfl 37 rfl rfl rfl rfl rfl) ?_
        refine AO.step rfl (store_ok T rfl rfl rfl rfl rfl rfl rfl rfl rfl) ?_
        refine AO.nil ?_
        refine AW.seq ?_
        refine AW.region ?_
        refine AO.pure T rfl rfl rfl ?_
        refine AO.pure T rfl rfl rfl ?_
        refine AO.val rfl rfl (len_map_ok T rfl rfl rfl) ?_
        refine AO.pure T rfl rfl rfl ?_
        refine AO.nil ?_
        refine AW.block ?_
        refine AW.loopS (fun s : Nat × (List Entry) => (⟨[(3, .R 6), (5, .p 37 0), (9, .s (List.map encLine sA.lines)), (10, .v (.int .i64 (sA.lines.length : Int))), (11, .v (.int .i64 (k1 : Int))), (16, .s (List.map encInt y2.events)), (17, .v (.int .i64 (y2.events.length : Int))), (18, .v (.int .i64 (s.1 : Int)))], [(6, .row 3 (List.map encEntry s.2)), (37, .box [.v (.int .i64 y2.skater), .s (List.map encInt y2.events), .s (List.map encInt y2.points)])], 38, []⟩ : St)) (fun s => s.1 ≤ y2.events.length ∧ spec_seAll_l2 y2 (y2.events.drop s.1) s.1 s.2 = some o117) (fun s => y2.events.length - s.1) (0, v94) ⟨Nat.zero_le _, hH⟩ ?_ ?_
        · exact Le.cut 0 0 rfl (by repeat' (first | exact trivial | refine ⟨⟨_, rfl, rfl⟩, ?_⟩)) (by repeat' (first | exact trivial | refine ⟨⟨_, rfl, rfl⟩, ?_⟩)) rfl
        · rintro ⟨k119, v134⟩ ⟨hk, hH⟩
          replace hH : spec_seAll_l2 y2 (y2.events.drop k119) k119 v134 = some o117 := hH
          show AW _ _ _ (⟨[(3, .R 6), (5, .p 37 0), (9, .s (List.map encLine sA.lines)), (10, .v (.int .i64 (sA.lines.length : Int))), (11, .v (.int .i64 (k1 : Int))), (16, .s (List.map encInt y2.events)), (17, .v (.int .i64 (y2.events.length : Int))), (18, .v (.int .i64 (k119 : Int)))], [(6, .row 3 (List.map encEntry v134)), (37, .box [.v (.int .i64 y2.skater), .s (List.map encInt y2.events), .s (List.map encInt y2.points)])], 38, []⟩ : St)
          refine AW.boundM (t := 16) (l := y2.events) rfl (fun hb123 => ?_)
          cases hd122 : y2.events.drop k119 with
          | nil =>
            rw [hd122] at hH
            rw [spec_seAll_l2] at hH
            have hlt124 := drop_ge hd122
            refine AW.seq ?_
            refine AW.region ?_
            refine AO.pure T rfl rfl rfl ?_
            refine AO.nil ?_
            refine AW.seq ?_
            refine AW.condF' (b := decide ((k119 : Int) < (y2.events.length : Int))) rfl (rngF hlt124) ?_
            refine AW.exit ?_
            refine ⟨_, someE hH, ?_⟩
            exact Le.cut 0 0 rfl (by repeat' (first | exact trivial | refine ⟨⟨_, rfl, rfl⟩, ?_⟩)) (by repeat' (first | exact trivial | refine ⟨⟨_, rfl, rfl⟩, ?_⟩)) rfl
          | cons y120 ys121 =>
            rw [hd122] at hH
            rw [spec_seAll_l2] at hH
            have hlt124 := drop_lt hd122
            refine AW.seq ?_
            refine AW.region ?_
            refine AO.pure T rfl rfl rfl ?_
            refine AO.nil ?_
            refine AW.seq ?_
            refine AW.condT' (b := decide ((k119 : Int) < (y2.events.length : Int))) rfl (rngT hlt124) ?_
            refine AW.skip ?_
            refine AW.seq ?_
            refine AW.block ?_
            refine AW.seq ?_
            refine AW.region ?_
            refine AO.pure T rfl rfl rfl ?_
            refine AO.val rfl rfl (ix_map_ok T rfl rfl rfl rfl rfl (getI_drop hd122) rfl) ?_
            refine AO.pure T rfl rfl rfl ?_
            refine AO.pure T rfl rfl rfl ?_
            refine AO.pure T rfl rfl rfl ?_
            refine AO.nil ?_
            obtain ⟨x136, hx137, hH⟩ := bindE hH
            obtain ⟨u138, hx139, hH⟩ := bindE hH
            refine AW.drawn 11 42 [] mix (by kernel_rfl) rfl ?_
            refine AD.pure T rfl rfl rfl ?_
            refine AD.pure T rfl rfl rfl ?_
            refine AD.pure T rfl rfl rfl ?_
            refine AD.pure T rfl rfl rfl ?_
            refine AD.pure T rfl rfl rfl ?_
            refine AD.pure T rfl rfl rfl ?_
            refine AD.pure T rfl rfl rfl ?_
            refine AD.val rfl rfl (ix_map_ok T rfl rfl rfl rfl rfl (hx137) rfl) ?_
            refine AD.pure T rfl rfl rfl ?_
            refine AD.pure T rfl rfl rfl ?_
            refine AD.q (FStep.mk T (f := encEntry) (l := [(Entry.mk y120 y2.skater x136)]) rfl rfl rfl rfl rfl rfl rfl rfl rfl (fun _ => rfl) rfl rfl rfl rfl) (by simp [namesIn]) (Nat.le_succ _) rfl ?_
            refine AD.nil ?_
            refine AO.step rfl (app_rv_map T rfl 43 rfl rfl rfl rfl rfl (by decide) rfl rfl rfl rfl (fun _ => rfl) (needT (hx139)) rfl rfl) ?_
            refine AO.pure T rfl rfl rfl ?_
            refine AO.nil ?_
            refine AW.region ?_
            refine AO.val rfl rfl (ar_ok rfl rfl rfl rfl (inI_succ hlt124 hb123)) ?_
            refine AO.pure T rfl rfl rfl ?_
            refine AO.nil ?_
            refine ⟨(k119 + 1, (v134 ++ [(Entry.mk y120 y2.skater x136)])), ⟨Nat.succ_le_of_lt hlt124, (by rw [drop_succ_of hd122]; exact hH)⟩, (by have := hlt124; dsimp only; omega), ?_⟩
            exact Le.cut 43 6 rfl (by repeat' (first | exact trivial | refine ⟨⟨_, rfl, rfl⟩, ?_⟩)) (by repeat' (first | exact trivial | refine ⟨⟨_, rfl, rfl⟩, ?_⟩)) rfl
      · rintro v116 hs
        subst hs
        replace hH := hK118
        try dsimp only [flow, flowE] at hH
        show AW _ _ _ (⟨[(3, .R 6), (9, .s (List.map encLine sA.lines)), (10, .v (.int .i64 (sA.lines.length : Int))), (11, .v (.int .i64 (k1 : Int)))], [(6, .row 3 (List.map encEntry v116))], 38, []⟩ : St)
        refine AW.region ?_
        refine AO.val rfl rfl (ar_ok rfl rfl rfl rfl (inI_succ hlt6 hb5)) ?_
        refine AO.pure T rfl rfl rfl ?_
        refine AO.nil ?_
        refine ⟨(k1 + 1, v116), ⟨Nat.succ_le_of_lt hlt6, (by rw [drop_succ_of hd4]; exact hH)⟩, (by have := hlt6; dsimp only; omega), ?_⟩
        exact Le.cut 0 0 rfl (by repeat' (first | exact trivial | refine ⟨⟨_, rfl, rfl⟩, ?_⟩)) (by repeat' (first | exact trivial | refine ⟨⟨_, rfl, rfl⟩, ?_⟩)) rfl

def spec_seOf_l1 (fuel : Nat) : List Entry → Nat → Int → List Line → Option Season
  | [], k1, v13, v14 =>
    some (Season.mk v13 v14)
  | y2 :: ys3, k1, v13, v14 =>
    (spec_seAdd_p fuel (Season.mk v13 v14) y2).bind fun x16 =>
    spec_seOf_l1 fuel ys3 (k1 + 1) x16.best x16.lines
def spec_seOf_p (fuel : Nat) (best : Int) (l : List Entry) : Option Season :=
  spec_seOf_l1 fuel l 0 best []
theorem spec_seOf_ok (fuel : Nat) (best : Int) (l : List Entry) (r : Season) (hH : spec_seOf_p fuel best l = some r) : SpecR Try.prog 90 [.v (.int .i64 best), .s (List.map encEntry l)] (.g (encSeasonH r)) := by
  refine fn_ok T Try.func90 rfl (by decide) rfl ?_
  refine AW.seq ?_
  refine AW.region ?_
  refine AO.step rfl (alloc_ok T rfl 1 rfl rfl rfl rfl rfl) ?_
  refine AO.nil ?_
  refine AW.seq ?_
  refine AW.region ?_
  refine AO.pure T rfl rfl rfl ?_
  refine AO.pure T rfl rfl rfl ?_
  refine AO.step rfl (alloc_ok T rfl 2 rfl rfl rfl rfl rfl) ?_
  refine AO.step rfl (store_ok T rfl rfl rfl rfl rfl rfl rfl rfl rfl) ?_
  refine AO.nil ?_
  refine AW.seq ?_
  refine AW.seq ?_
  refine AW.region ?_
  refine AO.pure T rfl rfl rfl ?_
  refine AO.val rfl rfl (len_map_ok T rfl rfl rfl) ?_
  refine AO.pure T rfl rfl rfl ?_
  refine AO.nil ?_
  refine AW.block ?_
  refine AW.loopS (fun s : Nat × Int × (List Line) => (⟨[(4, .p 1 0), (5, .p 2 0), (10, .s (List.map encEntry l)), (11, .v (.int .i64 (l.length : Int))), (12, .v (.int .i64 (s.1 : Int)))], [(1, .box [.v (.int .i64 0), .w 0 []]), (2, .box [.v (.int .i64 s.2.1), .R 6]), (6, .row 3 (List.map encLine s.2.2))], 21, []⟩ : St)) (fun s => s.1 ≤ l.length ∧ spec_seOf_l1 fuel (l.drop s.1) s.1 s.2.1 s.2.2 = some r) (fun s => l.length - s.1) (0, best, []) ⟨Nat.zero_le _, hH⟩ ?_ ?_
  · refine Le.trans (Le.voidBox 2 1 6 3 rfl rfl rfl rfl) ?_
    exact Le.cut 0 0 rfl (by repeat' (first | exact trivial | refine ⟨⟨_, rfl, rfl⟩, ?_⟩)) (by repeat' (first | exact trivial | refine ⟨⟨_, rfl, rfl⟩, ?_⟩)) rfl
  · rintro ⟨k1, v13, v14⟩ ⟨hk, hH⟩
    replace hH : spec_seOf_l1 fuel (l.drop k1) k1 v13 v14 = some r := hH
    show AW _ _ _ (⟨[(4, .p 1 0), (5, .p 2 0), (10, .s (List.map encEntry l)), (11, .v (.int .i64 (l.length : Int))), (12, .v (.int .i64 (k1 : Int)))], [(1, .box [.v (.int .i64 0), .w 0 []]), (2, .box [.v (.int .i64 v13), .R 6]), (6, .row 3 (List.map encLine v14))], 21, []⟩ : St)
    refine AW.boundM (t := 10) (l := l) rfl (fun hb5 => ?_)
    cases hd4 : l.drop k1 with
    | nil =>
      rw [hd4] at hH
      rw [spec_seOf_l1] at hH
      have hlt6 := drop_ge hd4
      refine AW.seq ?_
      refine AW.region ?_
      refine AO.pure T rfl rfl rfl ?_
      refine AO.nil ?_
      refine AW.seq ?_
      refine AW.condF' (b := decide ((k1 : Int) < (l.length : Int))) rfl (rngF hlt6) ?_
      refine AW.exit ?_
      refine AW.seq ?_
      refine AW.region ?_
      refine AO.pure T rfl rfl rfl ?_
      refine AO.step rfl (store_ok T rfl rfl rfl rfl rfl rfl rfl rfl rfl) ?_
      refine AO.nil ?_
      refine AW.ret ?_
      cases someE hH
      exact ⟨trivial, _, [6], rfl, .c (.g (expLC_cons .v (expLC_cons (.rowR rfl) (expLC_nil)))), by decide⟩
    | cons y2 ys3 =>
      rw [hd4] at hH
      rw [spec_seOf_l1] at hH
      have hlt6 := drop_lt hd4
      refine AW.seq ?_
      refine AW.region ?_
      refine AO.pure T rfl rfl rfl ?_
      refine AO.nil ?_
      refine AW.seq ?_
      refine AW.condT' (b := decide ((k1 : Int) < (l.length : Int))) rfl (rngT hlt6) ?_
      refine AW.skip ?_
      refine AW.seq ?_
      refine AW.block ?_
      refine AW.seq ?_
      refine AW.region ?_
      refine AO.val rfl rfl (ix_map_ok T rfl rfl rfl rfl rfl (getI_drop hd4) rfl) ?_
      refine AO.pure T rfl rfl rfl ?_
      refine AO.step rfl (alloc_ok T rfl 7 rfl rfl rfl rfl rfl) ?_
      refine AO.step rfl (store_ok T rfl rfl rfl rfl rfl rfl rfl rfl rfl) ?_
      refine AO.nil ?_
      obtain ⟨x16, hx17, hH⟩ := bindE hH
      refine AW.le (Le.freezeM 6 (g := encLine) rfl (fun y => .vs rfl)) ?_
      refine AW.region ?_
      refine AO.pure T rfl rfl rfl ?_
      refine AO.pure T rfl rfl rfl ?_
      refine AO.step rfl (call_ok rfl 8 rfl rfl rfl (spec_seAdd_ok fuel _ _ _ (hx17)) rfl rfl rfl) ?_
      refine AO.step rfl (store_ok T rfl rfl rfl rfl rfl rfl rfl rfl rfl) ?_
      refine AO.nil ?_
      refine AW.region ?_
      refine AO.val rfl rfl (ar_ok rfl rfl rfl rfl (inI_succ hlt6 hb5)) ?_
      refine AO.pure T rfl rfl rfl ?_
      refine AO.nil ?_
      refine ⟨(k1 + 1, x16.best, x16.lines), ⟨Nat.succ_le_of_lt hlt6, (by rw [drop_succ_of hd4]; exact hH)⟩, (by have := hlt6; dsimp only; omega), ?_⟩
      exact Le.cut 8 6 rfl (by repeat' (first | exact trivial | refine ⟨⟨_, rfl, rfl⟩, ?_⟩)) (by repeat' (first | exact trivial | refine ⟨⟨_, rfl, rfl⟩, ?_⟩)) rfl

def spec_DropEntry_l1 (sA : Season) (event : Int) (skater : Int) (fuel : Nat) (x3 : (List Entry)) : List Entry → Nat → List Entry → Option ((Season × Bool))
  | [], k5, v16 =>
    cond ((v16.length : Int) == (x3.length : Int))
      (some ((Season.mk 0 []), false))
      ((spec_seOf_p fuel sA.best v16).bind fun x18 =>
      some (x18, true))
  | y6 :: ys7, k5, v16 =>
    cond ((y6.event != event) || (y6.skater != skater))
      ((need (fitsB 24 (v16.length + ([y6]).length))).bind fun u20 =>
      spec_DropEntry_l1 sA event skater fuel x3 ys7 (k5 + 1) (v16 ++ [y6]))
      (spec_DropEntry_l1 sA event skater fuel x3 ys7 (k5 + 1) v16)
def spec_DropEntry_p (fuel : Nat) (sA : Season) (event : Int) (skater : Int) : Option (Season × Bool) :=
  (spec_seGood_p sA).bind fun x1 =>
  cond (!x1)
    (some ((Season.mk 0 []), false))
    ((spec_seAll_p sA).bind fun x3 =>
    spec_DropEntry_l1 sA event skater fuel x3 x3 0 [])
theorem spec_DropEntry_ok (fuel : Nat) (sA : Season) (event : Int) (skater : Int) (r : (Season × Bool)) (hH : spec_DropEntry_p fuel sA event skater = some r) : SpecR Try.prog 44 [.g (encSeason sA), .v (.int .i64 event), .v (.int .i64 skater)] (.t [.g (encSeasonH r.1), .v (.bool r.2)]) := by
  refine fn_ok T Try.func44 rfl (by decide) rfl ?_
  refine AW.seq ?_
  refine AW.region ?_
  refine AO.step rfl (box_ok T rfl 1 rfl rfl rfl rfl) ?_
  refine AO.step rfl (alloc_ok T rfl 2 rfl rfl rfl rfl rfl) ?_
  refine AO.pure T rfl rfl rfl ?_
  refine AO.nil ?_
  refine AW.seq ?_
  refine AW.seq ?_
  obtain ⟨x1, hx2, hH⟩ := bindE hH
  refine AW.region ?_
  refine AO.pure T rfl rfl rfl ?_
  refine AO.val rfl rfl (callV_ok rfl rfl rfl rfl (spec_seGood_ok _ _ (hx2)) rfl) ?_
  refine AO.pure T rfl rfl rfl ?_
  refine AO.nil ?_
  refine AW.cond (b := (!x1)) rfl (fun hc => ?_) (fun hc => ?_)
  · replace hH := condT hc hH
    refine AW.seq ?_
    refine AW.region ?_
    refine AO.pure T rfl rfl rfl ?_
    refine AO.step rfl (store_ok T rfl rfl rfl rfl rfl rfl rfl rfl rfl) ?_
    refine AO.pure T rfl rfl rfl ?_
    refine AO.nil ?_
    refine AW.ret ?_
    cases someE hH
    exact ⟨trivial, _, [], rfl, .t (expLG_cons (.g (expLC_cons .v (expLC_cons .nil (expLC_nil)))) (expLG_cons (.c .v) (expLG_nil))), by decide⟩
  · replace hH := condF hc hH
    refine AW.skip ?_
    refine AW.seq ?_
    refine AW.region ?_
    refine AO.pure T rfl rfl rfl ?_
    refine AO.nil ?_
    refine AW.seq ?_
    refine AW.seq ?_
    obtain ⟨x3, hx4, hH⟩ := bindE hH
    refine AW.region ?_
    refine AO.pure T rfl rfl rfl ?_
    refine AO.step rfl (call_ok rfl 3 rfl rfl rfl (spec_seAll_ok _ _ (hx4)) rfl rfl rfl) ?_
    refine AO.val rfl rfl (len_row_ok T rfl rfl rfl rfl) ?_
    refine AO.pure T rfl rfl rfl ?_
    refine AO.nil ?_
    refine AW.block ?_
    refine AW.loopS (fun s : Nat × (List Entry) => (⟨[(1, .v (.int .i64 event)), (2, .v (.int .i64 skater)), (3, .p 1 0), (6, .p 2 0), (8, .R 9), (16, .R 3), (17, .v (.int .i64 (x3.length : Int))), (18, .v (.int .i64 (s.1 : Int)))], [(1, .box [.v (.int .i64 sA.best), .s (List.map encLine sA.lines)]), (2, .box [.v (.int .i64 0), .w 0 []]), (3, .row 3 (List.map encEntry x3)), (9, .row 3 (List.map encEntry s.2))], 48, []⟩ : St)) (fun s => s.1 ≤ x3.length ∧ spec_DropEntry_l1 sA event skater fuel x3 (x3.drop s.1) s.1 s.2 = some r) (fun s => x3.length - s.1) (0, []) ⟨Nat.zero_le _, hH⟩ ?_ ?_
    · refine Le.trans (Le.void 8 9 3 rfl rfl) ?_
      exact Le.cut 0 0 rfl (by repeat' (first | exact trivial | refine ⟨⟨_, rfl, rfl⟩, ?_⟩)) (by repeat' (first | exact trivial | refine ⟨⟨_, rfl, rfl⟩, ?_⟩)) rfl
    · rintro ⟨k5, v16⟩ ⟨hk, hH⟩
      replace hH : spec_DropEntry_l1 sA event skater fuel x3 (x3.drop k5) k5 v16 = some r := hH
      show AW _ _ _ (⟨[(1, .v (.int .i64 event)), (2, .v (.int .i64 skater)), (3, .p 1 0), (6, .p 2 0), (8, .R 9), (16, .R 3), (17, .v (.int .i64 (x3.length : Int))), (18, .v (.int .i64 (k5 : Int)))], [(1, .box [.v (.int .i64 sA.best), .s (List.map encLine sA.lines)]), (2, .box [.v (.int .i64 0), .w 0 []]), (3, .row 3 (List.map encEntry x3)), (9, .row 3 (List.map encEntry v16))], 48, []⟩ : St)
      refine AW.boundR (id := 3) (l := x3) rfl (fun hb9 => ?_)
      cases hd8 : x3.drop k5 with
      | nil =>
        rw [hd8] at hH
        rw [spec_DropEntry_l1] at hH
        have hlt10 := drop_ge hd8
        refine AW.seq ?_
        refine AW.region ?_
        refine AO.pure T rfl rfl rfl ?_
        refine AO.nil ?_
        refine AW.seq ?_
        refine AW.condF' (b := decide ((k5 : Int) < (x3.length : Int))) rfl (rngF hlt10) ?_
        refine AW.exit ?_
        refine AW.seq ?_
        refine AW.seq ?_
        refine AW.region ?_
        refine AO.pure T rfl rfl rfl ?_
        refine AO.val rfl rfl (len_row_ok T rfl rfl rfl rfl) ?_
        refine AO.pure T rfl rfl rfl ?_
        refine AO.step rfl (call_ok rfl 10 rfl rfl rfl (spec_seAll_ok _ _ (hx4)) rfl rfl rfl) ?_
        refine AO.val rfl rfl (len_row_ok T rfl rfl rfl rfl) ?_
        refine AO.pure T rfl rfl rfl ?_
        refine AO.nil ?_
        refine AW.cond (b := ((v16.length : Int) == (x3.length : Int))) rfl (fun hc => ?_) (fun hc => ?_)
        · replace hH := condT hc hH
          refine AW.seq ?_
          refine AW.region ?_
          refine AO.pure T rfl rfl rfl ?_
          refine AO.step rfl (store_ok T rfl rfl rfl rfl rfl rfl rfl rfl rfl) ?_
          refine AO.pure T rfl rfl rfl ?_
          refine AO.nil ?_
          refine AW.ret ?_
          cases someE hH
          exact ⟨trivial, _, [], rfl, .t (expLG_cons (.g (expLC_cons .v (expLC_cons .nil (expLC_nil)))) (expLG_cons (.c .v) (expLG_nil))), by decide⟩
        · replace hH := condF hc hH
          refine AW.skip ?_
          refine AW.seq ?_
          obtain ⟨x18, hx19, hH⟩ := bindE hH
          refine AW.le (Le.freezeM 9 (g := encEntry) rfl (fun y => .vs rfl)) ?_
          refine AW.region ?_
          refine AO.pure T rfl rfl rfl ?_
          refine AO.pure T rfl rfl rfl ?_
          refine AO.pure T rfl rfl rfl ?_
          refine AO.step rfl (call_ok rfl 11 rfl rfl rfl (spec_seOf_ok fuel _ _ _ (hx19)) rfl rfl rfl) ?_
          refine AO.step rfl (store_ok T rfl rfl rfl rfl rfl rfl rfl rfl rfl) ?_
          refine AO.pure T rfl rfl rfl ?_
          refine AO.nil ?_
          refine AW.ret ?_
          cases someE hH
          exact ⟨trivial, _, [11], rfl, .t (expLG_cons (.g (expLC_cons .v (expLC_cons (.rowR rfl) (expLC_nil)))) (expLG_cons (.c .v) (expLG_nil))), by decide⟩
      | cons y6 ys7 =>
        rw [hd8] at hH
        rw [spec_DropEntry_l1] at hH
        have hlt10 := drop_lt hd8
        refine AW.seq ?_
        refine AW.region ?_
        refine AO.pure T rfl rfl rfl ?_
        refine AO.nil ?_
        refine AW.seq ?_
        refine AW.condT' (b := decide ((k5 : Int) < (x3.length : Int))) rfl (rngT hlt10) ?_
        refine AW.skip ?_
        refine AW.seq ?_
        refine AW.block ?_
        refine AW.seq ?_
        refine AW.region ?_
        refine AO.val rfl rfl (ix_row_ok T rfl rfl rfl rfl rfl rfl (getI_drop hd8)) ?_
        refine AO.val rfl rfl (load_row_ok T rfl rfl rfl rfl (getI_get (getI_drop hd8)) rfl rfl rfl) ?_
        refine AO.step rfl (alloc_ok T rfl 12 rfl rfl rfl rfl rfl) ?_
        refine AO.step rfl (store_ok T rfl rfl rfl rfl rfl rfl rfl rfl rfl) ?_
        refine AO.nil ?_
        refine AW.seq ?_
        refine AW.region ?_
        refine AO.pure T rfl rfl rfl ?_
        refine AO.pure T rfl rfl rfl ?_
        refine AO.pure T rfl rfl rfl ?_
        refine AO.pure T rfl rfl rfl ?_
        refine AO.pure T rfl rfl rfl ?_
        refine AO.pureG T [] rfl trivial rfl rfl ?_
        refine AO.pureG T [27] rfl ⟨fun h => h, trivial⟩ rfl rfl ?_
        refine AO.pureG T [] rfl trivial rfl rfl ?_
        refine AO.pureG T [28, 29] rfl ⟨fun h => h, fun h => h, trivial⟩ rfl rfl ?_
        refine AO.val rfl rfl (pick_or rfl rfl rfl rfl) ?_
        refine AO.nil ?_
        refine AW.cond (b := ((y6.event != event) || (y6.skater != skater))) rfl (fun hc => ?_) (fun hc => ?_)
        · replace hH := condT hc hH
          obtain ⟨u20, hx21, hH⟩ := bindE hH
          refine AW.region ?_
          refine AO.pure T rfl rfl rfl ?_
          refine AO.pure T rfl rfl rfl ?_
          refine AO.step rfl (mk_map_ok T rfl 13 rfl rfl rfl rfl rfl (f := encEntry) (l := [y6]) rfl rfl (fun _ => rfl) rfl rfl rfl rfl rfl) ?_
          refine AO.step rfl (app_rv_map T rfl 14 rfl rfl rfl rfl rfl (by decide) rfl rfl rfl rfl (fun _ => rfl) (needT (hx21)) rfl rfl) ?_
          refine AO.pure T rfl rfl rfl ?_
          refine AO.nil ?_
          refine AW.region ?_
          refine AO.val rfl rfl (ar_ok rfl rfl rfl rfl (inI_succ hlt10 hb9)) ?_
          refine AO.pure T rfl rfl rfl ?_
          refine AO.nil ?_
          refine ⟨(k5 + 1, (v16 ++ [y6])), ⟨Nat.succ_le_of_lt hlt10, (by rw [drop_succ_of hd8]; exact hH)⟩, (by have := hlt10; dsimp only; omega), ?_⟩
          exact Le.cut 14 9 rfl (by repeat' (first | exact trivial | refine ⟨⟨_, rfl, rfl⟩, ?_⟩)) (by repeat' (first | exact trivial | refine ⟨⟨_, rfl, rfl⟩, ?_⟩)) rfl
        · replace hH := condF hc hH
          refine AW.skip ?_
          refine AW.region ?_
          refine AO.val rfl rfl (ar_ok rfl rfl rfl rfl (inI_succ hlt10 hb9)) ?_
          refine AO.pure T rfl rfl rfl ?_
          refine AO.nil ?_
          refine ⟨(k5 + 1, v16), ⟨Nat.succ_le_of_lt hlt10, (by rw [drop_succ_of hd8]; exact hH)⟩, (by have := hlt10; dsimp only; omega), ?_⟩
          exact Le.cut 0 0 rfl (by repeat' (first | exact trivial | refine ⟨⟨_, rfl, rfl⟩, ?_⟩)) (by repeat' (first | exact trivial | refine ⟨⟨_, rfl, rfl⟩, ?_⟩)) rfl

def spec_DropEvent_l1 (sA : Season) (event : Int) (fuel : Nat) : List Entry → Nat → List Entry → Option ((Season × Bool))
  | [], k7, v18 =>
    (spec_seOf_p fuel sA.best v18).bind fun x20 =>
    some (x20, true)
  | y8 :: ys9, k7, v18 =>
    cond (y8.event != event)
      ((need (fitsB 24 (v18.length + ([y8]).length))).bind fun u22 =>
      spec_DropEvent_l1 sA event fuel ys9 (k7 + 1) (v18 ++ [y8]))
      (spec_DropEvent_l1 sA event fuel ys9 (k7 + 1) v18)
def spec_DropEvent_p (fuel : Nat) (sA : Season) (event : Int) : Option (Season × Bool) :=
  (spec_seGood_p sA).bind fun x1 =>
  (opt (!(!x1)) default (spec_l1In_p event 1 99)).bind fun x3 =>
  cond ((!x1) || (!x3))
    (some ((Season.mk 0 []), false))
    ((spec_seAll_p sA).bind fun x5 =>
    spec_DropEvent_l1 sA event fuel x5 0 [])
theorem spec_DropEvent_ok (fuel : Nat) (sA : Season) (event : Int) (r : (Season × Bool)) (hH : spec_DropEvent_p fuel sA event = some r) : SpecR Try.prog 42 [.g (encSeason sA), .v (.int .i64 event)] (.t [.g (encSeasonH r.1), .v (.bool r.2)]) := by
  refine fn_ok T Try.func42 rfl (by decide) rfl ?_
  refine AW.seq ?_
  refine AW.region ?_
  refine AO.step rfl (box_ok T rfl 1 rfl rfl rfl rfl) ?_
  refine AO.step rfl (alloc_ok T rfl 2 rfl rfl rfl rfl rfl) ?_
  refine AO.pure T rfl rfl rfl ?_
  refine AO.nil ?_
  refine AW.seq ?_
  refine AW.seq ?_
  obtain ⟨x1, hx2, hH⟩ := bindE hH
  obtain ⟨x3, hx4, hH⟩ := bindE hH
  refine AW.region ?_
  refine AO.pure T rfl rfl rfl ?_
  refine AO.val rfl rfl (callV_ok rfl rfl rfl rfl (spec_seGood_ok _ _ (hx2)) rfl) ?_
  refine AO.pure T rfl rfl rfl ?_
  refine AO.pure T rfl rfl rfl ?_
  refine AO.pureG T [] rfl trivial rfl rfl ?_
  refine AO.guard [13] rfl ⟨fun h => h, trivial⟩ (fun hg => callV_ok rfl rfl rfl rfl (spec_l1In_ok _ _ _ _ (optT hx4 hg)) rfl) rfl ?_
  refine AO.pureG T [14] rfl ⟨fun h => h, trivial⟩ rfl rfl ?_
  refine AO.val rfl rfl (pick_or rfl rfl rfl rfl) ?_
  refine AO.nil ?_
  refine AW.cond (b := ((!x1) || (!x3))) rfl (fun hc => ?_) (fun hc => ?_)
  · replace hH := condT hc hH
    refine AW.seq ?_
    refine AW.region ?_
    refine AO.pure T rfl rfl rfl ?_
    refine AO.step rfl (store_ok T rfl rfl rfl rfl rfl rfl rfl rfl rfl) ?_
    refine AO.pure T rfl rfl rfl ?_
    refine AO.nil ?_
    refine AW.ret ?_
    cases someE hH
    exact ⟨trivial, _, [], rfl, .t (expLG_cons (.g (expLC_cons .v (expLC_cons .nil (expLC_nil)))) (expLG_cons (.c .v) (expLG_nil))), by decide⟩
  · replace hH := condF hc hH
    refine AW.skip ?_
    refine AW.seq ?_
    refine AW.region ?_
    refine AO.pure T rfl rfl rfl ?_
    refine AO.nil ?_
    refine AW.seq ?_
    refine AW.seq ?_
    obtain ⟨x5, hx6, hH⟩ := bindE hH
    refine AW.region ?_
    refine AO.pure T rfl rfl rfl ?_
    refine AO.step rfl (call_ok rfl 3 rfl rfl rfl (spec_seAll_ok _ _ (hx6)) rfl rfl rfl) ?_
    refine AO.val rfl rfl (len_row_ok T rfl rfl rfl rfl) ?_
    refine AO.pure T rfl rfl rfl ?_
    refine AO.nil ?_
    refine AW.block ?_
    refine AW.loopS (fun s : Nat × (List Entry) => (⟨[(1, .v (.int .i64 event)), (2, .p 1 0), (4, .p 2 0), (6, .R 9), (19, .R 3), (20, .v (.int .i64 (x5.length : Int))), (21, .v (.int .i64 (s.1 : Int)))], [(1, .box [.v (.int .i64 sA.best), .s (List.map encLine sA.lines)]), (2, .box [.v (.int .i64 0), .w 0 []]), (3, .row 3 (List.map encEntry x5)), (9, .row 3 (List.map encEntry s.2))], 38, []⟩ : St)) (fun s => s.1 ≤ x5.length ∧ spec_DropEvent_l1 sA event fuel (x5.drop s.1) s.1 s.2 = some r) (fun s => x5.length - s.1) (0, []) ⟨Nat.zero_le _, hH⟩ ?_ ?_
    · refine Le.trans (Le.void 6 9 3 rfl rfl) ?_
      exact Le.cut 0 0 rfl (by repeat' (first | exact trivial | refine ⟨⟨_, rfl, rfl⟩, ?_⟩)) (by repeat' (first | exact trivial | refine ⟨⟨_, rfl, rfl⟩, ?_⟩)) rfl
    · rintro ⟨k7, v18⟩ ⟨hk, hH⟩
      replace hH : spec_DropEvent_l1 sA event fuel (x5.drop k7) k7 v18 = some r := hH
      show AW _ _ _ (⟨[(1, .v (.int .i64 event)), (2, .p 1 0), (4, .p 2 0), (6, .R 9), (19, .R 3), (20, .v (.int .i64 (x5.length : Int))), (21, .v (.int .i64 (k7 : Int)))], [(1, .box [.v (.int .i64 sA.best), .s (List.map encLine sA.lines)]), (2, .box [.v (.int .i64 0), .w 0 []]), (3, .row 3 (List.map encEntry x5)), (9, .row 3 (List.map encEntry v18))], 38, []⟩ : St)
      refine AW.boundR (id := 3) (l := x5) rfl (fun hb11 => ?_)
      cases hd10 : x5.drop k7 with
      | nil =>
        rw [hd10] at hH
        rw [spec_DropEvent_l1] at hH
        have hlt12 := drop_ge hd10
        refine AW.seq ?_
        refine AW.region ?_
        refine AO.pure T rfl rfl rfl ?_
        refine AO.nil ?_
        refine AW.seq ?_
        refine AW.condF' (b := decide ((k7 : Int) < (x5.length : Int))) rfl (rngF hlt12) ?_
        refine AW.exit ?_
        refine AW.seq ?_
        obtain ⟨x20, hx21, hH⟩ := bindE hH
        refine AW.le (Le.freezeM 9 (g := encEntry) rfl (fun y => .vs rfl)) ?_
        refine AW.region ?_
        refine AO.pure T rfl rfl rfl ?_
        refine AO.pure T rfl rfl rfl ?_
        refine AO.pure T rfl rfl rfl ?_
        refine AO.step rfl (call_ok rfl 10 rfl rfl rfl (spec_seOf_ok fuel _ _ _ (hx21)) rfl rfl rfl) ?_
        refine AO.step rfl (store_ok T rfl rfl rfl rfl rfl rfl rfl rfl rfl) ?_
        refine AO.pure T rfl rfl rfl ?_
        refine AO.nil ?_
        refine AW.ret ?_
        cases someE hH
        exact ⟨trivial, _, [10], rfl, .t (expLG_cons (.g (expLC_cons .v (expLC_cons (.rowR rfl) (expLC_nil)))) (expLG_cons (.c .v) (expLG_nil))), by decide⟩
      | cons y8 ys9 =>
        rw [hd10] at hH
        rw [spec_DropEvent_l1] at hH
        have hlt12 := drop_lt hd10
        refine AW.seq ?_
        refine AW.region ?_
        refine AO.pure T rfl rfl rfl ?_
        refine AO.nil ?_
        refine AW.seq ?_
        refine AW.condT' (b := decide ((k7 : Int) < (x5.length : Int))) rfl (rngT hlt12) ?_
        refine AW.skip ?_
        refine AW.seq ?_
        refine AW.block ?_
        refine AW.seq ?_
        refine AW.region ?_
        refine AO.val rfl rfl (ix_row_ok T rfl rfl rfl rfl rfl rfl (getI_drop hd10)) ?_
        refine AO.val rfl rfl (load_row_ok T rfl rfl rfl rfl (getI_get (getI_drop hd10)) rfl rfl rfl) ?_
        refine AO.step rfl (alloc_ok T rfl 11 rfl rfl rfl rfl rfl) ?_
        refine AO.step rfl (store_ok T rfl rfl rfl rfl rfl rfl rfl rfl rfl) ?_
        refine AO.nil ?_
        refine AW.seq ?_
        refine AW.region ?_
        refine AO.pure T rfl rfl rfl ?_
        refine AO.pure T rfl rfl rfl ?_
        refine AO.pure T rfl rfl rfl ?_
        refine AO.pure T rfl rfl rfl ?_
        refine AO.nil ?_
        refine AW.cond (b := (y8.event != event)) rfl (fun hc => ?_) (fun hc => ?_)
        · replace hH := condT hc hH
          obtain ⟨u22, hx23, hH⟩ := bindE hH
          refine AW.region ?_
          refine AO.pure T rfl rfl rfl ?_
          refine AO.pure T rfl rfl rfl ?_
          refine AO.step rfl (mk_map_ok T rfl 12 rfl rfl rfl rfl rfl (f := encEntry) (l := [y8]) rfl rfl (fun _ => rfl) rfl rfl rfl rfl rfl) ?_
          refine AO.step rfl (app_rv_map T rfl 13 rfl rfl rfl rfl rfl (by decide) rfl rfl rfl rfl (fun _ => rfl) (needT (hx23)) rfl rfl) ?_
          refine AO.pure T rfl rfl rfl ?_
          refine AO.nil ?_
          refine AW.region ?_
          refine AO.val rfl rfl (ar_ok rfl rfl rfl rfl (inI_succ hlt12 hb11)) ?_
          refine AO.pure T rfl rfl rfl ?_
          refine AO.nil ?_
          refine ⟨(k7 + 1, (v18 ++ [y8])), ⟨Nat.succ_le_of_lt hlt12, (by rw [drop_succ_of hd10]; exact hH)⟩, (by have := hlt12; dsimp only; omega), ?_⟩
          exact Le.cut 13 9 rfl (by repeat' (first | exact trivial | refine ⟨⟨_, rfl, rfl⟩, ?_⟩)) (by repeat' (first | exact trivial | refine ⟨⟨_, rfl, rfl⟩, ?_⟩)) rfl
        · replace hH := condF hc hH
          refine AW.skip ?_
          refine AW.region ?_
          refine AO.val rfl rfl (ar_ok rfl rfl rfl rfl (inI_succ hlt12 hb11)) ?_
          refine AO.pure T rfl rfl rfl ?_
          refine AO.nil ?_
          refine ⟨(k7 + 1, v18), ⟨Nat.succ_le_of_lt hlt12, (by rw [drop_succ_of hd10]; exact hH)⟩, (by have := hlt12; dsimp only; omega), ?_⟩
          exact Le.cut 0 0 rfl (by repeat' (first | exact trivial | refine ⟨⟨_, rfl, rfl⟩, ?_⟩)) (by repeat' (first | exact trivial | refine ⟨⟨_, rfl, rfl⟩, ?_⟩)) rfl

def spec_EntriesOf_p (sA : Season) : Option ((List Entry) × Bool) :=
  (spec_seGood_p sA).bind fun x1 =>
  cond (!x1)
    (some ([], false))
    ((spec_seAll_p sA).bind fun x3 =>
    some (x3, true))
theorem spec_EntriesOf_ok (sA : Season) (r : ((List Entry) × Bool)) (hH : spec_EntriesOf_p sA = some r) : SpecR Try.prog 21 [.g (encSeason sA)] (.t [.w 3 (r.1.map encEntry), .v (.bool r.2)]) := by
  refine fn_ok T Try.func21 rfl (by decide) rfl ?_
  refine AW.seq ?_
  refine AW.region ?_
  refine AO.step rfl (box_ok T rfl 1 rfl rfl rfl rfl) ?_
  refine AO.pure T rfl rfl rfl ?_
  refine AO.pure T rfl rfl rfl ?_
  refine AO.nil ?_
  refine AW.seq ?_
  refine AW.seq ?_
  obtain ⟨x1, hx2, hH⟩ := bindE hH
  refine AW.region ?_
  refine AO.pure T rfl rfl rfl ?_
  refine AO.val rfl rfl (callV_ok rfl rfl rfl rfl (spec_seGood_ok _ _ (hx2)) rfl) ?_
  refine AO.pure T rfl rfl rfl ?_
  refine AO.nil ?_
  refine AW.cond (b := (!x1)) rfl (fun hc => ?_) (fun hc => ?_)
  · replace hH := condT hc hH
    refine AW.seq ?_
    refine AW.region ?_
    refine AO.pure T rfl rfl rfl ?_
    refine AO.pure T rfl rfl rfl ?_
    refine AO.nil ?_
    refine AW.ret ?_
    cases someE hH
    exact ⟨trivial, _, [], rfl, .t (expLG_cons (.c .nil) (expLG_cons (.c .v) (expLG_nil))), by decide⟩
  · replace hH := condF hc hH
    refine AW.skip ?_
    refine AW.seq ?_
    obtain ⟨x3, hx4, hH⟩ := bindE hH
    refine AW.region ?_
    refine AO.pure T rfl rfl rfl ?_
    refine AO.step rfl (call_ok rfl 2 rfl rfl rfl (spec_seAll_ok _ _ (hx4)) rfl rfl rfl) ?_
    refine AO.pure T rfl rfl rfl ?_
    refine AO.pure T rfl rfl rfl ?_
    refine AO.nil ?_
    refine AW.ret ?_
    cases someE hH
    exact ⟨trivial, _, [2], rfl, .t (expLG_cons (.c (.rowR rfl)) (expLG_cons (.c .v) (expLG_nil))), by decide⟩

def spec_IsSeason_p (sA : Season) : Option Bool :=
  (spec_seGood_p sA).bind fun x1 =>
  some x1
theorem spec_IsSeason_ok (sA : Season) (r : Bool) (hH : spec_IsSeason_p sA = some r) : SpecR Try.prog 15 [.g (encSeason sA)] (.v (.bool r)) := by
  refine fn_ok T Try.func15 rfl (by decide) rfl ?_
  refine AW.seq ?_
  refine AW.region ?_
  refine AO.step rfl (box_ok T rfl 1 rfl rfl rfl rfl) ?_
  refine AO.pure T rfl rfl rfl ?_
  refine AO.nil ?_
  refine AW.seq ?_
  obtain ⟨x1, hx2, hH⟩ := bindE hH
  refine AW.region ?_
  refine AO.pure T rfl rfl rfl ?_
  refine AO.val rfl rfl (callV_ok rfl rfl rfl rfl (spec_seGood_ok _ _ (hx2)) rfl) ?_
  refine AO.pure T rfl rfl rfl ?_
  refine AO.nil ?_
  refine AW.ret ?_
  cases someE hH
  exact ⟨trivial, _, [], rfl, .c (.c .v), by decide⟩

def spec_l1Least_p (a : Int) (b : Int) : Option Int :=
  cond (decide (a < b))
    (some a)
    (some b)
theorem spec_l1Least_ok (a : Int) (b : Int) (r : Int) (hH : spec_l1Least_p a b = some r) : SpecR Try.prog 119 [.v (.int .i64 a), .v (.int .i64 b)] (.v (.int .i64 r)) := by
  refine fn_ok T Try.func119 rfl (by decide) rfl ?_
  refine AW.seq ?_
  refine AW.region ?_
  refine AO.pure T rfl rfl rfl ?_
  refine AO.nil ?_
  refine AW.seq ?_
  refine AW.seq ?_
  refine AW.region ?_
  refine AO.pure T rfl rfl rfl ?_
  refine AO.pure T rfl rfl rfl ?_
  refine AO.pure T rfl rfl rfl ?_
  refine AO.nil ?_
  refine AW.cond (b := decide (a < b)) rfl (fun hc => ?_) (fun hc => ?_)
  · replace hH := condT hc hH
    refine AW.seq ?_
    refine AW.region ?_
    refine AO.pure T rfl rfl rfl ?_
    refine AO.pure T rfl rfl rfl ?_
    refine AO.nil ?_
    refine AW.ret ?_
    cases someE hH
    exact ⟨trivial, _, [], rfl, .c (.c .v), by decide⟩
  · replace hH := condF hc hH
    refine AW.skip ?_
    refine AW.seq ?_
    refine AW.region ?_
    refine AO.pure T rfl rfl rfl ?_
    refine AO.pure T rfl rfl rfl ?_
    refine AO.nil ?_
    refine AW.ret ?_
    cases someE hH
    exact ⟨trivial, _, [], rfl, .c (.c .v), by decide⟩

def spec_seCounted_p (sA : Season) (k : Int) : Option (List Int) :=
  (getI sA.lines k).bind fun x1 =>
  (spec_l1Least_p (x1.points.length : Int) sA.best).bind fun x3 =>
  (sliceHi x1.points x3).bind fun x5 =>
  some x5
theorem spec_seCounted_ok (sA : Season) (k : Int) (r : (List Int)) (hH : spec_seCounted_p sA k = some r) : SpecR Try.prog 108 [.g (encSeason sA), .v (.int .i64 k)] (.s (r.map encInt)) := by
  refine fn_ok T Try.func108 rfl (by decide) rfl ?_
  refine AW.seq ?_
  refine AW.region ?_
  refine AO.step rfl (box_ok T rfl 1 rfl rfl rfl rfl) ?_
  refine AO.pure T rfl rfl rfl ?_
  refine AO.nil ?_
  refine AW.seq ?_
  obtain ⟨x1, hx2, hH⟩ := bindE hH
  refine AW.region ?_
  refine AO.pure T rfl rfl rfl ?_
  refine AO.pure T rfl rfl rfl ?_
  refine AO.pure T rfl rfl rfl ?_
  refine AO.val rfl rfl (ix_map_ok T rfl rfl rfl rfl rfl (hx2) rfl) ?_
  refine AO.pure T rfl rfl rfl ?_
  refine AO.pure T rfl rfl rfl ?_
  refine AO.pure T rfl rfl rfl ?_
  refine AO.nil ?_
  refine AW.seq ?_
  obtain ⟨x3, hx4, hH⟩ := bindE hH
  obtain ⟨x5, hx6, hH⟩ := bindE hH
  refine AW.region ?_
  refine AO.pure T rfl rfl rfl ?_
  refine AO.pure T rfl rfl rfl ?_
  refine AO.val rfl rfl (len_map_ok T rfl rfl rfl) ?_
  refine AO.pure T rfl rfl rfl ?_
  refine AO.pure T rfl rfl rfl ?_
  refine AO.val rfl rfl (callV_ok rfl rfl rfl rfl (spec_l1Least_ok _ _ _ (hx4)) rfl) ?_
  refine AO.val rfl rfl (slice_hi_map_ok T rfl rfl rfl rfl rfl (hx6) (fun _ => rfl)) ?_
  refine AO.pure T rfl rfl rfl ?_
  refine AO.nil ?_
  refine AW.ret ?_
  cases someE hH
  exact ⟨trivial, _, [], rfl, .c (.c .s), by decide⟩

def spec_seTotal_l1 : List Int → Nat → Int → Option Int
  | [], k3, v10 =>
    some v10
  | y4 :: ys5, k3, v10 =>
    spec_seTotal_l1 ys5 (k3 + 1) (w64 (v10 + y4))
def spec_seTotal_p (sA : Season) (k : Int) : Option Int :=
  (spec_seCounted_p sA k).bind fun x1 =>
  spec_seTotal_l1 x1 0 0
theorem spec_seTotal_ok (sA : Season) (k : Int) (r : Int) (hH : spec_seTotal_p sA k = some r) : SpecR Try.prog 68 [.g (encSeason sA), .v (.int .i64 k)] (.v (.int .i64 r)) := by
  refine fn_ok T Try.func68 rfl (by decide) rfl ?_
  refine AW.seq ?_
  refine AW.region ?_
  refine AO.step rfl (box_ok T rfl 1 rfl rfl rfl rfl) ?_
  refine AO.pure T rfl rfl rfl ?_
  refine AO.nil ?_
  refine AW.seq ?_
  refine AW.region ?_
  refine AO.pure T rfl rfl rfl ?_
  refine AO.nil ?_
  refine AW.seq ?_
  refine AW.seq ?_
  obtain ⟨x1, hx2, hH⟩ := bindE hH
  refine AW.region ?_
  refine AO.pure T rfl rfl rfl ?_
  refine AO.pure T rfl rfl rfl ?_
  refine AO.val rfl rfl (callV_ok rfl rfl rfl rfl (spec_seCounted_ok _ _ _ (hx2)) rfl) ?_
  refine AO.val rfl rfl (len_map_ok T rfl rfl rfl) ?_
  refine AO.pure T rfl rfl rfl ?_
  refine AO.nil ?_
  refine AW.block ?_
  refine AW.loopS (fun s : Nat × Int => (⟨[(5, .v (.int .i64 s.2)), (10, .s (List.map encInt x1)), (11, .v (.int .i64 (x1.length : Int))), (12, .v (.int .i64 (s.1 : Int)))], [], 21, []⟩ : St)) (fun s => s.1 ≤ x1.length ∧ spec_seTotal_l1 (x1.drop s.1) s.1 s.2 = some r) (fun s => x1.length - s.1) (0, 0) ⟨Nat.zero_le _, hH⟩ ?_ ?_
  · exact Le.cut 0 0 rfl (by repeat' (first | exact trivial | refine ⟨⟨_, rfl, rfl⟩, ?_⟩)) (by repeat' (first | exact trivial | refine ⟨⟨_, rfl, rfl⟩, ?_⟩)) rfl
  · rintro ⟨k3, v10⟩ ⟨hk, hH⟩
    replace hH : spec_seTotal_l1 (x1.drop k3) k3 v10 = some r := hH
    show AW _ _ _ (⟨[(5, .v (.int .i64 v10)), (10, .s (List.map encInt x1)), (11, .v (.int .i64 (x1.length : Int))), (12, .v (.int .i64 (k3 : Int)))], [], 21, []⟩ : St)
    refine AW.boundM (t := 10) (l := x1) rfl (fun hb7 => ?_)
    cases hd6 : x1.drop k3 with
    | nil =>
      rw [hd6] at hH
      rw [spec_seTotal_l1] at hH
      have hlt8 := drop_ge hd6
      refine AW.seq ?_
      refine AW.region ?_
      refine AO.pure T rfl rfl rfl ?_
      refine AO.nil ?_
      refine AW.seq ?_
      refine AW.condF' (b := decide ((k3 : Int) < (x1.length : Int))) rfl (rngF hlt8) ?_
      refine AW.exit ?_
      refine AW.seq ?_
      refine AW.region ?_
      refine AO.pure T rfl rfl rfl ?_
      refine AO.pure T rfl rfl rfl ?_
      refine AO.nil ?_
      refine AW.ret ?_
      cases someE hH
      exact ⟨trivial, _, [], rfl, .c (.c .v), by decide⟩
    | cons y4 ys5 =>
      rw [hd6] at hH
      rw [spec_seTotal_l1] at hH
      have hlt8 := drop_lt hd6
      refine AW.seq ?_
      refine AW.region ?_
      refine AO.pure T rfl rfl rfl ?_
      refine AO.nil ?_
      refine AW.seq ?_
      refine AW.condT' (b := decide ((k3 : Int) < (x1.length : Int))) rfl (rngT hlt8) ?_
      refine AW.skip ?_
      refine AW.seq ?_
      refine AW.block ?_
      refine AW.seq ?_
      refine AW.region ?_
      refine AO.val rfl rfl (ix_map_ok T rfl rfl rfl rfl rfl (getI_drop hd6) rfl) ?_
      refine AO.pure T rfl rfl rfl ?_
      refine AO.pure T rfl rfl rfl ?_
      refine AO.nil ?_
      refine AW.region ?_
      refine AO.pure T rfl rfl rfl ?_
      refine AO.pure T rfl rfl rfl ?_
      refine AO.val rfl rfl (arw_ok rfl rfl rfl rfl) ?_
      refine AO.pure T rfl rfl rfl ?_
      refine AO.nil ?_
      refine AW.region ?_
      refine AO.val rfl rfl (ar_ok rfl rfl rfl rfl (inI_succ hlt8 hb7)) ?_
      refine AO.pure T rfl rfl rfl ?_
      refine AO.nil ?_
      refine ⟨(k3 + 1, w64 (v10 + y4)), ⟨Nat.succ_le_of_lt hlt8, (by rw [drop_succ_of hd6]; exact hH)⟩, (by have := hlt8; dsimp only; omega), ?_⟩
      exact Le.cut 0 0 rfl (by repeat' (first | exact trivial | refine ⟨⟨_, rfl, rfl⟩, ?_⟩)) (by repeat' (first | exact trivial | refine ⟨⟨_, rfl, rfl⟩, ?_⟩)) rfl

def spec_TotalOf_p (fuel : Nat) (sA : Season) (skater : Int) : Option (Int × Bool) :=
  (spec_seGood_p sA).bind fun x1 =>
  (opt (!(!x1)) default (spec_seHas_p fuel sA skater)).bind fun x3 =>
  cond ((!x1) || decide (x3 < 0))
    (some (0, false))
    ((spec_seHas_p fuel sA skater).bind fun x5 =>
    (spec_seTotal_p sA x5).bind fun x7 =>
    some (x7, true))
theorem spec_TotalOf_ok (fuel : Nat) (sA : Season) (skater : Int) (r : (Int × Bool)) (hH : spec_TotalOf_p fuel sA skater = some r) : SpecR Try.prog 19 [.g (encSeason sA), .v (.int .i64 skater)] (.t [.v (.int .i64 r.1), .v (.bool r.2)]) := by
  refine fn_ok T Try.func19 rfl (by decide) rfl ?_
  refine AW.seq ?_
  refine AW.region ?_
  refine AO.step rfl (box_ok T rfl 1 rfl rfl rfl rfl) ?_
  refine AO.pure T rfl rfl rfl ?_
  refine AO.pure T rfl rfl rfl ?_
  refine AO.nil ?_
  refine AW.seq ?_
  refine AW.seq ?_
  obtain ⟨x1, hx2, hH⟩ := bindE hH
  obtain ⟨x3, hx4, hH⟩ := bindE hH
  refine AW.region ?_
  refine AO.pure T rfl rfl rfl ?_
  refine AO.val rfl rfl (callV_ok rfl rfl rfl rfl (spec_seGood_ok _ _ (hx2)) rfl) ?_
  refine AO.pure T rfl rfl rfl ?_
  refine AO.pure T rfl rfl rfl ?_
  refine AO.pureG T [] rfl trivial rfl rfl ?_
  refine AO.pureG T [] rfl trivial rfl rfl ?_
  refine AO.guard [10, 11] rfl ⟨fun h => h, fun h => h, trivial⟩ (fun hg => callV_ok rfl rfl rfl rfl (spec_seHas_ok fuel _ _ _ (optT hx4 hg)) rfl) rfl ?_
  refine AO.pureG T [12] rfl ⟨fun h => h, trivial⟩ rfl rfl ?_
  refine AO.val rfl rfl (pick_or rfl rfl rfl rfl) ?_
  refine AO.nil ?_
  refine AW.cond (b := ((!x1) || decide (x3 < 0))) rfl (fun hc => ?_) (fun hc => ?_)
  · replace hH := condT hc hH
    refine AW.seq ?_
    refine AW.region ?_
    refine AO.pure T rfl rfl rfl ?_
    refine AO.pure T rfl rfl rfl ?_
    refine AO.nil ?_
    refine AW.ret ?_
    cases someE hH
    exact ⟨trivial, _, [], rfl, .t (expLG_cons (.c .v) (expLG_cons (.c .v) (expLG_nil))), by decide⟩
  · replace hH := condF hc hH
    refine AW.skip ?_
    refine AW.seq ?_
    obtain ⟨x5, hx6, hH⟩ := bindE hH
    obtain ⟨x7, hx8, hH⟩ := bindE hH
    refine AW.drawn 4 2 [] mix (by kernel_rfl) rfl ?_
    refine AD.pure T rfl rfl rfl ?_
    refine AD.pure T rfl rfl rfl ?_
    refine AD.pure T rfl rfl rfl ?_
    refine AD.val rfl rfl (callV_ok rfl rfl rfl rfl (spec_seHas_ok fuel _ _ _ (hx6)) rfl) ?_
    refine AD.nil ?_
    refine AO.val rfl rfl (callV_ok rfl rfl rfl rfl (spec_seTotal_ok _ _ _ (hx8)) rfl) ?_
    refine AO.pure T rfl rfl rfl ?_
    refine AO.pure T rfl rfl rfl ?_
    refine AO.nil ?_
    refine AW.ret ?_
    cases someE hH
    exact ⟨trivial, _, [], rfl, .t (expLG_cons (.c .v) (expLG_cons (.c .v) (expLG_nil))), by decide⟩

end Go.Proofs.Ytfgpeaiepfdemaa

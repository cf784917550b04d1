/- The walk, part 2: what each function reached by the law FnExactStandingsOf computes. No condition. -/
import Derived.Test.YtioegmjleofmeaaGreatWalk1
set_option maxRecDepth 4000
set_option maxHeartbeats 1000000
set_option linter.unusedVariables false
set_option linter.unusedSimpArgs false
set_option linter.unusedSectionVars false

namespace Go.Proofs.YtioegmjleofmeaaGreat
open Go.AM

def impl_isOrder_l1 (order : List Int) : List Int → Nat → Option Bool
  | [], k1 =>
    some (decide ((order.length : Int) ≤ 40))
  | y2 :: ys3, k1 =>
    (impl_isSkater_p y2).bind fun x20 =>
    (opt (!(!x20)) default (sliceHi order (k1 : Int))).bind fun x22 =>
    (opt (!(!x20)) default (slices_Contains_int_p x22 y2)).bind fun x24 =>
    cond ((!x20) || x24)
      (some false)
      (impl_isOrder_l1 order ys3 (k1 + 1))
def impl_isOrder_p (order : List Int) : Option Bool :=
  impl_isOrder_l1 order order 0
theorem impl_isOrder_ok (order : List Int) (r : Bool) (hH : impl_isOrder_p order = some r) : SpecR Tryz.prog 76 [.s (List.map encInt order)] (.v (.bool r)) := by
  refine fn_ok T Tryz.func76 rfl (by decide) rfl ?_
  refine AW.seq ?_
  refine AW.region ?_
  refine AO.pure T rfl rfl rfl ?_
  refine AO.nil ?_
  refine AW.seq ?_
  refine AW.seq ?_
  refine AW.region ?_
  refine AO.pure T rfl rfl rfl ?_
  refine AO.val rfl rfl (len_map_ok T rfl rfl rfl) ?_
  refine AO.pure T rfl rfl rfl ?_
  refine AO.nil ?_
  refine AW.block ?_
  refine AW.loopS (fun s : Nat => (⟨[(0, .s (List.map encInt order)), (5, .s (List.map encInt order)), (6, .v (.int .i64 (order.length : Int))), (7, .v (.int .i64 (s : Int)))], [], 26, []⟩ : St)) (fun s => s ≤ order.length ∧ impl_isOrder_l1 order (order.drop s) s = some r) (fun s => order.length - s) 0 ⟨Nat.zero_le _, hH⟩ ?_ ?_
  · exact Le.cut 0 0 rfl (by repeat' (first | exact trivial | refine ⟨⟨_, rfl, rfl⟩, ?_⟩)) (by repeat' (first | exact trivial | refine ⟨⟨_, rfl, rfl⟩, ?_⟩)) rfl
  · rintro k1 ⟨hk, hH⟩
    replace hH : impl_isOrder_l1 order (order.drop k1) k1 = some r := hH
    show AW _ _ _ (⟨[(0, .s (List.map encInt order)), (5, .s (List.map encInt order)), (6, .v (.int .i64 (order.length : Int))), (7, .v (.int .i64 (k1 : Int)))], [], 26, []⟩ : St)
    refine AW.boundM (t := 0) (l := order) rfl (fun hb5 => ?_)
    cases hd4 : order.drop k1 with
    | nil =>
      rw [hd4] at hH
      rw [impl_isOrder_l1] at hH
      have hlt6 := drop_ge hd4
      refine AW.seq ?_
      refine AW.region ?_
      refine AO.pure T rfl rfl rfl ?_
      refine AO.nil ?_
      refine AW.seq ?_
      refine AW.condF' (b := decide ((k1 : Int) < (order.length : Int))) rfl (rngF hlt6) ?_
      refine AW.exit ?_
      refine AW.seq ?_
      refine AW.region ?_
      refine AO.pure T rfl rfl rfl ?_
      refine AO.val rfl rfl (len_map_ok T rfl rfl rfl) ?_
      refine AO.pure T rfl rfl rfl ?_
      refine AO.pure T rfl rfl rfl ?_
      refine AO.nil ?_
      refine AW.ret ?_
      cases someE hH
      exact ⟨trivial, _, [], rfl, .c (.c .v), by decide⟩
    | cons y2 ys3 =>
      rw [hd4] at hH
      rw [impl_isOrder_l1] at hH
      have hlt6 := drop_lt hd4
      refine AW.seq ?_
      refine AW.region ?_
      refine AO.pure T rfl rfl rfl ?_
      refine AO.nil ?_
      refine AW.seq ?_
      refine AW.condT' (b := decide ((k1 : Int) < (order.length : Int))) rfl (rngT hlt6) ?_
      refine AW.skip ?_
      refine AW.seq ?_
      refine AW.block ?_
      refine AW.seq ?_
      refine AW.region ?_
      refine AO.pure T rfl rfl rfl ?_
      refine AO.val rfl rfl (ix_map_ok T rfl rfl rfl rfl rfl (getI_drop hd4) rfl) ?_
      refine AO.pure T rfl rfl rfl ?_
      refine AO.pure T rfl rfl rfl ?_
      refine AO.pure T rfl rfl rfl ?_
      refine AO.nil ?_
      refine AW.seq ?_
      obtain ⟨x20, hx21, hH⟩ := bindE hH
      obtain ⟨x22, hx23, hH⟩ := bindE hH
      obtain ⟨x24, hx25, hH⟩ := bindE hH
      refine AW.region ?_
      refine AO.pure T rfl rfl rfl ?_
      refine AO.val rfl rfl (callV_ok rfl rfl rfl rfl (impl_isSkater_ok _ _ (hx21)) rfl) ?_
      refine AO.pure T rfl rfl rfl ?_
      refine AO.pure T rfl rfl rfl ?_
      refine AO.pureG T [] rfl trivial rfl rfl ?_
      refine AO.pureG T [] rfl trivial rfl rfl ?_
      refine AO.guard [16, 17] rfl ⟨fun h => h, fun h => h, trivial⟩ (fun hg => slice_hi_map_ok T rfl rfl rfl rfl rfl (optT hx23 hg) (fun _ => rfl)) rfl ?_
      refine AO.pureG T [] rfl trivial rfl rfl ?_
      refine AO.guard [18, 19] rfl ⟨fun h => h, fun h => h, trivial⟩ (fun hg => callV_ok rfl rfl rfl rfl (slices_Contains_int_ok _ _ _ (optT hx25 hg)) rfl) rfl ?_
      refine AO.val rfl rfl (pick_or rfl rfl rfl rfl) ?_
      refine AO.nil ?_
      refine AW.cond (b := ((!x20) || x24)) rfl (fun hc => ?_) (fun hc => ?_)
      · replace hH := condT hc hH
        refine AW.seq ?_
        refine AW.region ?_
        refine AO.pure T rfl rfl rfl ?_
        refine AO.nil ?_
        refine AW.ret ?_
        cases someE hH
        exact ⟨trivial, _, [], rfl, .c (.c .v), by decide⟩
      · replace hH := condF hc hH
        refine AW.skip ?_
        refine AW.region ?_
        refine AO.val rfl rfl (ar_ok rfl rfl rfl rfl (inI_succ hlt6 hb5)) ?_
        refine AO.pure T rfl rfl rfl ?_
        refine AO.nil ?_
        refine ⟨k1 + 1, ⟨Nat.succ_le_of_lt hlt6, (by rw [drop_succ_of hd4]; exact hH)⟩, (by have := hlt6; dsimp only; omega), ?_⟩
        exact Le.cut 0 0 rfl (by repeat' (first | exact trivial | refine ⟨⟨_, rfl, rfl⟩, ?_⟩)) (by repeat' (first | exact trivial | refine ⟨⟨_, rfl, rfl⟩, ?_⟩)) rfl

def impl_AreEntrants_l2 (y2 : Entrant) : List Entrant → Nat → Option (Except Bool Unit)
  | [], k80 =>
    some (.ok ())
  | y81 :: ys82, k80 =>
    cond ((y81.skater == y2.skater) || ((y81.rank == y2.rank) && decide (y2.rank > 0)))
      (some (.error false))
      (impl_AreEntrants_l2 y2 ys82 (k80 + 1))
def impl_AreEntrants_l1 (l : List Entrant) : List Entrant → Nat → Option Bool
  | [], k1 =>
    some (decide ((l.length : Int) ≤ 40))
  | y2 :: ys3, k1 =>
    ((impl_isSkater_p y2.skater).bind fun x74 =>
    (opt (!(!x74)) default (impl_within_p y2.rank 0 999)).bind fun x76 =>
    cond ((!x74) || (!x76))
      (some (.error false))
      ((sliceHi l (k1 : Int)).bind fun x78 =>
      impl_AreEntrants_l2 y2 x78 0)).bind fun o72 => flow o72 fun _ =>
    impl_AreEntrants_l1 l ys3 (k1 + 1)
def impl_AreEntrants_p (l : List Entrant) : Option Bool :=
  impl_AreEntrants_l1 l l 0
theorem impl_AreEntrants_ok (l : List Entrant) (r : Bool) (hH : impl_AreEntrants_p l = some r) : SpecR Tryz.prog 33 [.s (List.map encEntrant l)] (.v (.bool r)) := by
  refine fn_ok T Tryz.func33 rfl (by decide) rfl ?_
  refine AW.seq ?_
  refine AW.region ?_
  refine AO.pure T rfl rfl rfl ?_
  refine AO.nil ?_
  refine AW.seq ?_
  refine AW.seq ?_
  refine AW.region ?_
  refine AO.pure T rfl rfl rfl ?_
  refine AO.val rfl rfl (len_map_ok T rfl rfl rfl) ?_
  refine AO.pure T rfl rfl rfl ?_
  refine AO.nil ?_
  refine AW.block ?_
  refine AW.loopS (fun s : Nat => (⟨[(0, .s (List.map encEntrant l)), (7, .s (List.map encEntrant l)), (8, .v (.int .i64 (l.length : Int))), (9, .v (.int .i64 (s : Int)))], [], 54, []⟩ : St)) (fun s => s ≤ l.length ∧ impl_AreEntrants_l1 l (l.drop s) s = some r) (fun s => l.length - s) 0 ⟨Nat.zero_le _, hH⟩ ?_ ?_
  · exact Le.cut 0 0 rfl (by repeat' (first | exact trivial | refine ⟨⟨_, rfl, rfl⟩, ?_⟩)) (by repeat' (first | exact trivial | refine ⟨⟨_, rfl, rfl⟩, ?_⟩)) rfl
  · rintro k1 ⟨hk, hH⟩
    replace hH : impl_AreEntrants_l1 l (l.drop k1) k1 = some r := hH
    show AW _ _ _ (⟨[(0, .s (List.map encEntrant l)), (7, .s (List.map encEntrant l)), (8, .v (.int .i64 (l.length : Int))), (9, .v (.int .i64 (k1 : Int)))], [], 54, []⟩ : St)
    refine AW.boundM (t := 0) (l := l) rfl (fun hb5 => ?_)
    cases hd4 : l.drop k1 with
    | nil =>
      rw [hd4] at hH
      rw [impl_AreEntrants_l1] at hH
      have hlt6 := drop_ge hd4
      refine AW.seq ?_
      refine AW.region ?_
      refine AO.pure T rfl rfl rfl ?_
      refine AO.nil ?_
      refine AW.seq ?_
      refine AW.condF' (b := decide ((k1 : Int) < (l.length : Int))) rfl (rngF hlt6) ?_
      refine AW.exit ?_
      refine AW.seq ?_
      refine AW.region ?_
      refine AO.pure T rfl rfl rfl ?_
      refine AO.val rfl rfl (len_map_ok T rfl rfl rfl) ?_
      refine AO.pure T rfl rfl rfl ?_
      refine AO.pure T rfl rfl rfl ?_
      refine AO.nil ?_
      refine AW.ret ?_
      cases someE hH
      exact ⟨trivial, _, [], rfl, .c (.c .v), by decide⟩
    | cons y2 ys3 =>
      rw [hd4] at hH
      rw [impl_AreEntrants_l1] at hH
      have hlt6 := drop_lt hd4
      refine AW.seq ?_
      refine AW.region ?_
      refine AO.pure T rfl rfl rfl ?_
      refine AO.nil ?_
      refine AW.seq ?_
      refine AW.condT' (b := decide ((k1 : Int) < (l.length : Int))) rfl (rngT hlt6) ?_
      refine AW.skip ?_
      obtain ⟨o72, hH, hK73⟩ := bindE hH
      refine AW.seqJ (fun s : Unit => (⟨[(0, .s (List.map encEntrant l)), (7, .s (List.map encEntrant l)), (8, .v (.int .i64 (l.length : Int))), (9, .v (.int .i64 (k1 : Int)))], [], 54, []⟩ : St)) (fun s => .ok s = o72) ?_ ?_
      · refine AW.block ?_
        refine AW.seq ?_
        refine AW.region ?_
        refine AO.pure T rfl rfl rfl ?_
        refine AO.val rfl rfl (ix_map_ok T rfl rfl rfl rfl rfl (getI_drop hd4) rfl) ?_
        refine AO.pure T (d := .g [.v (.int .i64 y2.skater), .v (.int .i64 y2.rank)]) rfl rfl rfl ?_
        refine AO.step rfl (alloc_ok T rfl 21 rfl rfl rfl rfl rfl) ?_
        refine AO.pure T rfl rfl rfl ?_
        refine AO.step rfl (store_okE T rfl rfl rfl rfl rfl rfl rfl rfl rfl (ds' := [.v (.int .i64 y2.skater), .v (.int .i64 y2.rank)]) rfl) ?_
        refine AO.nil ?_
        refine AW.seq ?_
        refine AW.seq ?_
        obtain ⟨x74, hx75, hH⟩ := bindE hH
        obtain ⟨x76, hx77, hH⟩ := bindE hH
        refine AW.region ?_
        refine AO.pure T rfl rfl rfl ?_
        refine AO.pure T rfl rfl rfl ?_
        refine AO.val rfl rfl (callV_ok rfl rfl rfl rfl (impl_isSkater_ok _ _ (hx75)) rfl) ?_
        refine AO.pure T rfl rfl rfl ?_
        refine AO.pure T rfl rfl rfl ?_
        refine AO.pureG T [] rfl trivial rfl rfl ?_
        refine AO.pureG T [19] rfl ⟨fun h => h, trivial⟩ rfl rfl ?_
        refine AO.guard [20] rfl ⟨fun h => h, trivial⟩ (fun hg => callV_ok rfl rfl rfl rfl (impl_within_ok _ _ _ _ (optT hx77 hg)) rfl) rfl ?_
        refine AO.pureG T [21] rfl ⟨fun h => h, trivial⟩ rfl rfl ?_
        refine AO.val rfl rfl (pick_or rfl rfl rfl rfl) ?_
        refine AO.nil ?_
        refine AW.cond (b := ((!x74) || (!x76))) rfl (fun hc => ?_) (fun hc => ?_)
        · replace hH := condT hc hH
          refine AW.seq ?_
          refine AW.region ?_
          refine AO.pure T rfl rfl rfl ?_
          refine AO.nil ?_
          refine AW.ret ?_
          obtain rfl := someE hH
          replace hH := hK73
          cases someE hH
          exact ⟨trivial, _, [], rfl, .c (.c .v), by decide⟩
        · replace hH := condF hc hH
          refine AW.skip ?_
          refine AW.seq ?_
          obtain ⟨x78, hx79, hH⟩ := bindE hH
          refine AW.region ?_
          refine AO.pure T rfl rfl rfl ?_
          refine AO.pure T rfl rfl rfl ?_
          refine AO.val rfl rfl (slice_hi_map_ok T rfl rfl rfl rfl rfl (hx79) (fun _ => rfl)) ?_
          refine AO.val rfl rfl (len_map_ok T rfl rfl rfl) ?_
          refine AO.pure T rfl rfl rfl ?_
          refine AO.nil ?_
          refine AW.block ?_
          refine AW.loopS (fun s : Nat => (⟨[(0, .s (List.map encEntrant l)), (4, .p 21 0), (7, .s (List.map encEntrant l)), (8, .v (.int .i64 (l.length : Int))), (9, .v (.int .i64 (k1 : Int))), (26, .s (List.map encEntrant x78)), (27, .v (.int .i64 (x78.length : Int))), (28, .v (.int .i64 (s : Int)))], [(21, .box [.v (.int .i64 y2.skater), .v (.int .i64 y2.rank)])], 54, []⟩ : St)) (fun s => s ≤ x78.length ∧ impl_AreEntrants_l2 y2 (x78.drop s) s = some o72) (fun s => x78.length - s) 0 ⟨Nat.zero_le _, hH⟩ ?_ ?_
          · exact Le.cut 0 0 rfl (by repeat' (first | exact trivial | refine ⟨⟨_, rfl, rfl⟩, ?_⟩)) (by repeat' (first | exact trivial | refine ⟨⟨_, rfl, rfl⟩, ?_⟩)) rfl
          · rintro k80 ⟨hk, hH⟩
            replace hH : impl_AreEntrants_l2 y2 (x78.drop k80) k80 = some o72 := hH
            show AW _ _ _ (⟨[(0, .s (List.map encEntrant l)), (4, .p 21 0), (7, .s (List.map encEntrant l)), (8, .v (.int .i64 (l.length : Int))), (9, .v (.int .i64 (k1 : Int))), (26, .s (List.map encEntrant x78)), (27, .v (.int .i64 (x78.length : Int))), (28, .v (.int .i64 (k80 : Int)))], [(21, .box [.v (.int .i64 y2.skater), .v (.int .i64 y2.rank)])], 54, []⟩ : St)
            refine AW.boundM (t := 26) (l := x78) rfl (fun hb84 => ?_)
            cases hd83 : x78.drop k80 with
            | nil =>
              rw [hd83] at hH
              rw [impl_AreEntrants_l2] at hH
              have hlt85 := drop_ge hd83
              refine AW.seq ?_
              refine AW.region ?_
              refine AO.pure T rfl rfl rfl ?_
              refine AO.nil ?_
              refine AW.seq ?_
              refine AW.condF' (b := decide ((k80 : Int) < (x78.length : Int))) rfl (rngF hlt85) ?_
              refine AW.exit ?_
              refine ⟨_, someE hH, ?_⟩
              exact Le.cut 0 0 rfl (by repeat' (first | exact trivial | refine ⟨⟨_, rfl, rfl⟩, ?_⟩)) (by repeat' (first | exact trivial | refine ⟨⟨_, rfl, rfl⟩, ?_⟩)) rfl
            | cons y81 ys82 =>
              rw [hd83] at hH
              rw [impl_AreEntrants_l2] at hH
              have hlt85 := drop_lt hd83
              refine AW.seq ?_
              refine AW.region ?_
              refine AO.pure T rfl rfl rfl ?_
              refine AO.nil ?_
              refine AW.seq ?_
              refine AW.condT' (b := decide ((k80 : Int) < (x78.length : Int))) rfl (rngT hlt85) ?_
              refine AW.skip ?_
              refine AW.seq ?_
              refine AW.block ?_
              refine AW.seq ?_
              refine AW.region ?_
              refine AO.val rfl rfl (ix_map_ok T rfl rfl rfl rfl rfl (getI_drop hd83) rfl) ?_
              refine AO.pure T (d := .g [.v (.int .i64 y81.skater), .v (.int .i64 y81.rank)]) rfl rfl rfl ?_
              refine AO.step rfl (alloc_ok T rfl 24 rfl rfl rfl rfl rfl) ?_
              refine AO.step rfl (store_okE T rfl rfl rfl rfl rfl rfl rfl rfl rfl (ds' := [.v (.int .i64 y81.skater), .v (.int .i64 y81.rank)]) rfl) ?_
              refine AO.nil ?_
              refine AW.seq ?_
              refine AW.region ?_
              refine AO.pure T rfl rfl rfl ?_
              refine AO.pure T rfl rfl rfl ?_
              refine AO.pure T rfl rfl rfl ?_
              refine AO.pure T rfl rfl rfl ?_
              refine AO.pure T rfl rfl rfl ?_
              refine AO.pure T rfl rfl rfl ?_
              refine AO.pureG T [] rfl trivial rfl rfl ?_
              refine AO.pureG T [38] rfl ⟨fun h => h, trivial⟩ rfl rfl ?_
              refine AO.pureG T [] rfl trivial rfl rfl ?_
              refine AO.pureG T [40] rfl ⟨fun h => h, trivial⟩ rfl rfl ?_
              refine AO.pureG T [39, 41] rfl ⟨fun h => h, fun h => h, trivial⟩ rfl rfl ?_
              refine AO.pureG T [42] rfl ⟨fun h => h, trivial⟩ rfl rfl ?_
              refine AO.pureG T [] rfl trivial rfl rfl ?_
              refine AO.pureG T [44] rfl ⟨fun h => h, trivial⟩ rfl rfl ?_
              refine AO.pureG T [45] rfl ⟨fun h => h, trivial⟩ rfl rfl ?_
              refine AO.guard [43] rfl ⟨fun h => h, trivial⟩ (fun hg => pick_and rfl rfl rfl (by rw [hg]; exact Bool.true_and _)) rfl ?_
              refine AO.val rfl rfl (pick_or rfl rfl rfl rfl) ?_
              refine AO.nil ?_
              refine AW.cond (b := ((y81.skater == y2.skater) || ((y81.rank == y2.rank) && decide (y2.rank > 0)))) rfl (fun hc => ?_) (fun hc => ?_)
              · replace hH := condT hc hH
                refine AW.seq ?_
                refine AW.region ?_
                refine AO.pure T rfl rfl rfl ?_
                refine AO.nil ?_
                refine AW.ret ?_
                obtain rfl := someE hH
                replace hH := hK73
                cases someE hH
                exact ⟨trivial, _, [], rfl, .c (.c .v), by decide⟩
              · replace hH := condF hc hH
                refine AW.skip ?_
                refine AW.region ?_
                refine AO.val rfl rfl (ar_ok rfl rfl rfl rfl (inI_succ hlt85 hb84)) ?_
                refine AO.pure T rfl rfl rfl ?_
                refine AO.nil ?_
                refine ⟨k80 + 1, ⟨Nat.succ_le_of_lt hlt85, (by rw [drop_succ_of hd83]; exact hH)⟩, (by have := hlt85; dsimp only; omega), ?_⟩
                exact Le.cut 0 0 rfl (by repeat' (first | exact trivial | refine ⟨⟨_, rfl, rfl⟩, ?_⟩)) (by repeat' (first | exact trivial | refine ⟨⟨_, rfl, rfl⟩, ?_⟩)) rfl
      · rintro _ hs
        subst hs
        replace hH := hK73
        try dsimp only [flow, flowE] at hH
        show AW _ _ _ (⟨[(0, .s (List.map encEntrant l)), (7, .s (List.map encEntrant l)), (8, .v (.int .i64 (l.length : Int))), (9, .v (.int .i64 (k1 : Int)))], [], 54, []⟩ : St)
        refine AW.region ?_
        refine AO.val rfl rfl (ar_ok rfl rfl rfl rfl (inI_succ hlt6 hb5)) ?_
        refine AO.pure T rfl rfl rfl ?_
        refine AO.nil ?_
        refine ⟨k1 + 1, ⟨Nat.succ_le_of_lt hlt6, (by rw [drop_succ_of hd4]; exact hH)⟩, (by have := hlt6; dsimp only; omega), ?_⟩
        exact Le.cut 0 0 rfl (by repeat' (first | exact trivial | refine ⟨⟨_, rfl, rfl⟩, ?_⟩)) (by repeat' (first | exact trivial | refine ⟨⟨_, rfl, rfl⟩, ?_⟩)) rfl

def impl_isIncreasing_l1 (l : List Int) (n : Int) : List Int → Nat → Option Bool
  | [], k1 =>
    some true
  | y2 :: ys3, k1 =>
    (impl_within_p y2 0 (w64 (n - 1))).bind fun x16 =>
    (opt ((!(!x16)) && decide ((k1 : Int) > 0)) default (getI l (w64 ((k1 : Int) - 1)))).bind fun x18 =>
    cond ((!x16) || (decide ((k1 : Int) > 0) && decide (x18 ≥ y2)))
      (some false)
      (impl_isIncreasing_l1 l n ys3 (k1 + 1))
def impl_isIncreasing_p (l : List Int) (n : Int) : Option Bool :=
  impl_isIncreasing_l1 l n l 0
theorem impl_isIncreasing_ok (l : List Int) (n : Int) (r : Bool) (hH : impl_isIncreasing_p l n = some r) : SpecR Tryz.prog 114 [.s (List.map encInt l), .v (.int .i64 n)] (.v (.bool r)) := by
  refine fn_ok T Tryz.func114 rfl (by decide) rfl ?_
  refine AW.seq ?_
  refine AW.region ?_
  refine AO.pure T rfl rfl rfl ?_
  refine AO.nil ?_
  refine AW.seq ?_
  refine AW.seq ?_
  refine AW.region ?_
  refine AO.pure T rfl rfl rfl ?_
  refine AO.val rfl rfl (len_map_ok T rfl rfl rfl) ?_
  refine AO.pure T rfl rfl rfl ?_
  refine AO.nil ?_
  refine AW.block ?_
  refine AW.loopS (fun s : Nat => (⟨[(0, .s (List.map encInt l)), (1, .v (.int .i64 n)), (7, .s (List.map encInt l)), (8, .v (.int .i64 (l.length : Int))), (9, .v (.int .i64 (s : Int)))], [], 33, []⟩ : St)) (fun s => s ≤ l.length ∧ impl_isIncreasing_l1 l n (l.drop s) s = some r) (fun s => l.length - s) 0 ⟨Nat.zero_le _, hH⟩ ?_ ?_
  · exact Le.cut 0 0 rfl (by repeat' (first | exact trivial | refine ⟨⟨_, rfl, rfl⟩, ?_⟩)) (by repeat' (first | exact trivial | refine ⟨⟨_, rfl, rfl⟩, ?_⟩)) rfl
  · rintro k1 ⟨hk, hH⟩
    replace hH : impl_isIncreasing_l1 l n (l.drop k1) k1 = some r := hH
    show AW _ _ _ (⟨[(0, .s (List.map encInt l)), (1, .v (.int .i64 n)), (7, .s (List.map encInt l)), (8, .v (.int .i64 (l.length : Int))), (9, .v (.int .i64 (k1 : Int)))], [], 33, []⟩ : St)
    refine AW.boundM (t := 0) (l := l) rfl (fun hb5 => ?_)
    cases hd4 : l.drop k1 with
    | nil =>
      rw [hd4] at hH
      rw [impl_isIncreasing_l1] at hH
      have hlt6 := drop_ge hd4
      refine AW.seq ?_
      refine AW.region ?_
      refine AO.pure T rfl rfl rfl ?_
      refine AO.nil ?_
      refine AW.seq ?_
      refine AW.condF' (b := decide ((k1 : Int) < (l.length : Int))) rfl (rngF hlt6) ?_
      refine AW.exit ?_
      refine AW.seq ?_
      refine AW.region ?_
      refine AO.pure T rfl rfl rfl ?_
      refine AO.nil ?_
      refine AW.ret ?_
      cases someE hH
      exact ⟨trivial, _, [], rfl, .c (.c .v), by decide⟩
    | cons y2 ys3 =>
      rw [hd4] at hH
      rw [impl_isIncreasing_l1] at hH
      have hlt6 := drop_lt hd4
      refine AW.seq ?_
      refine AW.region ?_
      refine AO.pure T rfl rfl rfl ?_
      refine AO.nil ?_
      refine AW.seq ?_
      refine AW.condT' (b := decide ((k1 : Int) < (l.length : Int))) rfl (rngT hlt6) ?_
      refine AW.skip ?_
      refine AW.seq ?_
      refine AW.block ?_
      refine AW.seq ?_
      refine AW.region ?_
      refine AO.pure T rfl rfl rfl ?_
      refine AO.val rfl rfl (ix_map_ok T rfl rfl rfl rfl rfl (getI_drop hd4) rfl) ?_
      refine AO.pure T rfl rfl rfl ?_
      refine AO.pure T rfl rfl rfl ?_
      refine AO.pure T rfl rfl rfl ?_
      refine AO.nil ?_
      refine AW.seq ?_
      obtain ⟨x16, hx17, hH⟩ := bindE hH
      obtain ⟨x18, hx19, hH⟩ := bindE hH
      refine AW.region ?_
      refine AO.pure T rfl rfl rfl ?_
      refine AO.pure T rfl rfl rfl ?_
      refine AO.val rfl rfl (arw_ok rfl rfl rfl rfl) ?_
      refine AO.val rfl rfl (callV_ok rfl rfl rfl rfl (impl_within_ok _ _ _ _ (hx17)) rfl) ?_
      refine AO.pure T rfl rfl rfl ?_
      refine AO.pure T rfl rfl rfl ?_
      refine AO.pureG T [] rfl trivial rfl rfl ?_
      refine AO.pureG T [20] rfl ⟨fun h => h, trivial⟩ rfl rfl ?_
      refine AO.pureG T [21] rfl ⟨fun h => h, trivial⟩ rfl rfl ?_
      refine AO.pureG T [] rfl trivial rfl rfl ?_
      refine AO.pureG T [] rfl trivial rfl rfl ?_
      refine AO.guard [24] rfl ⟨fun h => h, trivial⟩ (fun hg => arw_ok rfl rfl rfl rfl) rfl ?_
      refine AO.guard [23, 25] rfl ⟨fun h => h, fun h => h, trivial⟩ (fun hg => ix_map_ok T rfl rfl rfl rfl rfl (optT hx19 hg) rfl) rfl ?_
      refine AO.pureG T [26] rfl ⟨fun h => h, trivial⟩ rfl rfl ?_
      refine AO.pureG T [] rfl trivial rfl rfl ?_
      refine AO.pureG T [27, 28] rfl ⟨fun h => h, fun h => h, trivial⟩ rfl rfl ?_
      refine AO.guard [22] rfl ⟨fun h => h, trivial⟩ (fun hg => pick_and rfl rfl rfl (by rw [hg]; exact Bool.true_and _)) rfl ?_
      refine AO.val rfl rfl (pick_or rfl rfl rfl rfl) ?_
      refine AO.nil ?_
      refine AW.le (Le.cut 0 0 (σ' := (⟨[(0, .s (List.map encInt l)), (1, .v (.int .i64 n)), (7, .s (List.map encInt l)), (8, .v (.int .i64 (l.length : Int))), (9, .v (.int .i64 (k1 : Int))), (31, .v (.bool ((!x16) || (decide ((k1 : Int) > 0) && decide (x18 ≥ y2)))))], [], 33, []⟩ : St)) rfl (by repeat' (first | exact trivial | refine ⟨⟨_, rfl, rfl⟩, ?_⟩)) (by repeat' (first | exact trivial | refine ⟨⟨_, rfl, rfl⟩, ?_⟩)) rfl) ?_
      refine AW.cond (b := ((!x16) || (decide ((k1 : Int) > 0) && decide (x18 ≥ y2)))) rfl (fun hc => ?_) (fun hc => ?_)
      · replace hH := condT hc hH
        refine AW.seq ?_
        refine AW.region ?_
        refine AO.pure T rfl rfl rfl ?_
        refine AO.nil ?_
        refine AW.ret ?_
        cases someE hH
        exact ⟨trivial, _, [], rfl, .c (.c .v), by decide⟩
      · replace hH := condF hc hH
        refine AW.skip ?_
        refine AW.region ?_
        refine AO.val rfl rfl (ar_ok rfl rfl rfl rfl (inI_succ hlt6 hb5)) ?_
        refine AO.pure T rfl rfl rfl ?_
        refine AO.nil ?_
        refine ⟨k1 + 1, ⟨Nat.succ_le_of_lt hlt6, (by rw [drop_succ_of hd4]; exact hH)⟩, (by have := hlt6; dsimp only; omega), ?_⟩
        exact Le.cut 0 0 rfl (by repeat' (first | exact trivial | refine ⟨⟨_, rfl, rfl⟩, ?_⟩)) (by repeat' (first | exact trivial | refine ⟨⟨_, rfl, rfl⟩, ?_⟩)) rfl

def impl_isResult_l1 (rA : Result) : List Int → Nat → Option Bool
  | [], k1 =>
    (impl_isSkater_p rA.skater).bind fun x16 =>
    (opt x16 default (impl_within_p (rA.scores.length : Int) 1 3)).bind fun x18 =>
    some (x16 && x18)
  | y2 :: ys3, k1 =>
    (impl_within_p y2 (-1) 100000).bind fun x20 =>
    (opt ((!(!x20)) && decide ((k1 : Int) > 0)) default (getI rA.scores (w64 ((k1 : Int) - 1)))).bind fun x22 =>
    cond ((!x20) || ((decide ((k1 : Int) > 0) && decide (x22 < 0)) && decide (y2 ≥ 0)))
      (some false)
      (impl_isResult_l1 rA ys3 (k1 + 1))
def impl_isResult_p (rA : Result) : Option Bool :=
  impl_isResult_l1 rA rA.scores 0
theorem impl_isResult_ok (rA : Result) (r : Bool) (hH : impl_isResult_p rA = some r) : SpecR Tryz.prog 138 [.g (encResult rA)] (.v (.bool r)) := by
  refine fn_ok T Tryz.func138 rfl (by decide) rfl ?_
  refine AW.seq ?_
  refine AW.region ?_
  refine AO.step rfl (box_ok T rfl 1 rfl rfl rfl rfl) ?_
  refine AO.pure T rfl rfl rfl ?_
  refine AO.nil ?_
  refine AW.seq ?_
  refine AW.seq ?_
  refine AW.region ?_
  refine AO.pure T rfl rfl rfl ?_
  refine AO.pure T rfl rfl rfl ?_
  refine AO.val rfl rfl (len_map_ok T rfl rfl rfl) ?_
  refine AO.pure T rfl rfl rfl ?_
  refine AO.nil ?_
  refine AW.block ?_
  refine AW.loopS (fun s : Nat => (⟨[(1, .p 1 0), (6, .s (List.map encInt rA.scores)), (7, .v (.int .i64 (rA.scores.length : Int))), (8, .v (.int .i64 (s : Int)))], [(1, .box [.v (.int .i64 rA.skater), .s (List.map encInt rA.scores)])], 43, []⟩ : St)) (fun s => s ≤ rA.scores.length ∧ impl_isResult_l1 rA (rA.scores.drop s) s = some r) (fun s => rA.scores.length - s) 0 ⟨Nat.zero_le _, hH⟩ ?_ ?_
  · exact Le.cut 0 0 rfl (by repeat' (first | exact trivial | refine ⟨⟨_, rfl, rfl⟩, ?_⟩)) (by repeat' (first | exact trivial | refine ⟨⟨_, rfl, rfl⟩, ?_⟩)) rfl
  · rintro k1 ⟨hk, hH⟩
    replace hH : impl_isResult_l1 rA (rA.scores.drop k1) k1 = some r := hH
    show AW _ _ _ (⟨[(1, .p 1 0), (6, .s (List.map encInt rA.scores)), (7, .v (.int .i64 (rA.scores.length : Int))), (8, .v (.int .i64 (k1 : Int)))], [(1, .box [.v (.int .i64 rA.skater), .s (List.map encInt rA.scores)])], 43, []⟩ : St)
    refine AW.boundM (t := 6) (l := rA.scores) rfl (fun hb5 => ?_)
    cases hd4 : rA.scores.drop k1 with
    | nil =>
      rw [hd4] at hH
      rw [impl_isResult_l1] at hH
      have hlt6 := drop_ge hd4
      refine AW.seq ?_
      refine AW.region ?_
      refine AO.pure T rfl rfl rfl ?_
      refine AO.nil ?_
      refine AW.seq ?_
      refine AW.condF' (b := decide ((k1 : Int) < (rA.scores.length : Int))) rfl (rngF hlt6) ?_
      refine AW.exit ?_
      refine AW.seq ?_
      obtain ⟨x16, hx17, hH⟩ := bindE hH
      obtain ⟨x18, hx19, hH⟩ := bindE hH
      refine AW.region ?_
      refine AO.pure T rfl rfl rfl ?_
      refine AO.pure T rfl rfl rfl ?_
      refine AO.val rfl rfl (callV_ok rfl rfl rfl rfl (impl_isSkater_ok _ _ (hx17)) rfl) ?_
      refine AO.pure T rfl rfl rfl ?_
      refine AO.pureG T [] rfl trivial rfl rfl ?_
      refine AO.pureG T [38] rfl ⟨fun h => h, trivial⟩ rfl rfl ?_
      refine AO.guard [39] rfl ⟨fun h => h, trivial⟩ (fun hg => len_map_ok T rfl rfl rfl) rfl ?_
      refine AO.guard [40] rfl ⟨fun h => h, trivial⟩ (fun hg => callV_ok rfl rfl rfl rfl (impl_within_ok _ _ _ _ (optT hx19 hg)) rfl) rfl ?_
      refine AO.val rfl rfl (pick_and rfl rfl rfl rfl) ?_
      refine AO.pure T rfl rfl rfl ?_
      refine AO.nil ?_
      refine AW.ret ?_
      cases someE hH
      exact ⟨trivial, _, [], rfl, .c (.c .v), by decide⟩
    | cons y2 ys3 =>
      rw [hd4] at hH
      rw [impl_isResult_l1] at hH
      have hlt6 := drop_lt hd4
      refine AW.seq ?_
      refine AW.region ?_
      refine AO.pure T rfl rfl rfl ?_
      refine AO.nil ?_
      refine AW.seq ?_
      refine AW.condT' (b := decide ((k1 : Int) < (rA.scores.length : Int))) rfl (rngT hlt6) ?_
      refine AW.skip ?_
      refine AW.seq ?_
      refine AW.block ?_
      refine AW.seq ?_
      refine AW.region ?_
      refine AO.pure T rfl rfl rfl ?_
      refine AO.val rfl rfl (ix_map_ok T rfl rfl rfl rfl rfl (getI_drop hd4) rfl) ?_
      refine AO.pure T rfl rfl rfl ?_
      refine AO.pure T rfl rfl rfl ?_
      refine AO.pure T rfl rfl rfl ?_
      refine AO.nil ?_
      refine AW.seq ?_
      obtain ⟨x20, hx21, hH⟩ := bindE hH
      obtain ⟨x22, hx23, hH⟩ := bindE hH
      refine AW.region ?_
      refine AO.pure T rfl rfl rfl ?_
      refine AO.val rfl rfl (callV_ok rfl rfl rfl rfl (impl_within_ok _ _ _ _ (hx21)) rfl) ?_
      refine AO.pure T rfl rfl rfl ?_
      refine AO.pure T rfl rfl rfl ?_
      refine AO.pureG T [] rfl trivial rfl rfl ?_
      refine AO.pureG T [17] rfl ⟨fun h => h, trivial⟩ rfl rfl ?_
      refine AO.pureG T [18] rfl ⟨fun h => h, trivial⟩ rfl rfl ?_
      refine AO.pureG T [] rfl trivial rfl rfl ?_
      refine AO.pureG T [20] rfl ⟨fun h => h, trivial⟩ rfl rfl ?_
      refine AO.pureG T [] rfl trivial rfl rfl ?_
      refine AO.guard [22] rfl ⟨fun h => h, trivial⟩ (fun hg => arw_ok rfl rfl rfl rfl) rfl ?_
      refine AO.guard [21, 23] rfl ⟨fun h => h, fun h => h, trivial⟩ (fun hg => ix_map_ok T rfl rfl rfl rfl rfl (optT hx23 hg) rfl) rfl ?_
      refine AO.pureG T [24] rfl ⟨fun h => h, trivial⟩ rfl rfl ?_
      refine AO.pureG T [25] rfl ⟨fun h => h, trivial⟩ rfl rfl ?_
      refine AO.guard [19] rfl ⟨fun h => h, trivial⟩ (fun hg => pick_and rfl rfl rfl (by rw [hg]; exact Bool.true_and _)) rfl ?_
      refine AO.pureG T [27] rfl ⟨fun h => h, trivial⟩ rfl rfl ?_
      refine AO.pureG T [] rfl trivial rfl rfl ?_
      refine AO.pureG T [29] rfl ⟨fun h => h, trivial⟩ rfl rfl ?_
      refine AO.guard [28] rfl ⟨fun h => h, trivial⟩ (fun hg => pick_and rfl rfl rfl (by rw [hg]; exact Bool.true_and _)) rfl ?_
      refine AO.val rfl rfl (pick_or rfl rfl rfl rfl) ?_
      refine AO.nil ?_
      refine AW.le (Le.cut 0 0 (σ' := (⟨[(1, .p 1 0), (6, .s (List.map encInt rA.scores)), (7, .v (.int .i64 (rA.scores.length : Int))), (8, .v (.int .i64 (k1 : Int))), (32, .v (.bool ((!x20) || ((decide ((k1 : Int) > 0) && decide (x22 < 0)) && decide (y2 ≥ 0)))))], [(1, .box [.v (.int .i64 rA.skater), .s (List.map encInt rA.scores)])], 43, []⟩ : St)) rfl (by repeat' (first | exact trivial | refine ⟨⟨_, rfl, rfl⟩, ?_⟩)) (by repeat' (first | exact trivial | refine ⟨⟨_, rfl, rfl⟩, ?_⟩)) rfl) ?_
      refine AW.cond (b := ((!x20) || ((decide ((k1 : Int) > 0) && decide (x22 < 0)) && decide (y2 ≥ 0)))) rfl (fun hc => ?_) (fun hc => ?_)
      · replace hH := condT hc hH
        refine AW.seq ?_
        refine AW.region ?_
        refine AO.pure T rfl rfl rfl ?_
        refine AO.nil ?_
        refine AW.ret ?_
        cases someE hH
        exact ⟨trivial, _, [], rfl, .c (.c .v), by decide⟩
      · replace hH := condF hc hH
        refine AW.skip ?_
        refine AW.region ?_
        refine AO.val rfl rfl (ar_ok rfl rfl rfl rfl (inI_succ hlt6 hb5)) ?_
        refine AO.pure T rfl rfl rfl ?_
        refine AO.nil ?_
        refine ⟨k1 + 1, ⟨Nat.succ_le_of_lt hlt6, (by rw [drop_succ_of hd4]; exact hH)⟩, (by have := hlt6; dsimp only; omega), ?_⟩
        exact Le.cut 0 0 rfl (by repeat' (first | exact trivial | refine ⟨⟨_, rfl, rfl⟩, ?_⟩)) (by repeat' (first | exact trivial | refine ⟨⟨_, rfl, rfl⟩, ?_⟩)) rfl

def impl_AreResults_l2 (y2 : Result) : List Result → Nat → Option (Except Bool Unit)
  | [], k80 =>
    some (.ok ())
  | y81 :: ys82, k80 =>
    cond (y81.skater == y2.skater)
      (some (.error false))
      (impl_AreResults_l2 y2 ys82 (k80 + 1))
def impl_AreResults_l1 (l : List Result) : List Result → Nat → Option Bool
  | [], k1 =>
    some (decide ((l.length : Int) ≤ 40))
  | y2 :: ys3, k1 =>
    ((impl_isResult_p y2).bind fun x74 =>
    (opt (!(!x74)) default (getI l 0)).bind fun x76 =>
    cond ((!x74) || ((y2.scores.length : Int) != (x76.scores.length : Int)))
      (some (.error false))
      ((sliceHi l (k1 : Int)).bind fun x78 =>
      impl_AreResults_l2 y2 x78 0)).bind fun o72 => flow o72 fun _ =>
    impl_AreResults_l1 l ys3 (k1 + 1)
def impl_AreResults_p (l : List Result) : Option Bool :=
  impl_AreResults_l1 l l 0
theorem impl_AreResults_ok (l : List Result) (r : Bool) (hH : impl_AreResults_p l = some r) : SpecR Tryz.prog 115 [.s (List.map encResult l)] (.v (.bool r)) := by
  refine fn_ok T Tryz.func115 rfl (by decide) rfl ?_
  refine AW.seq ?_
  refine AW.region ?_
  refine AO.pure T rfl rfl rfl ?_
  refine AO.nil ?_
  refine AW.seq ?_
  refine AW.seq ?_
  refine AW.region ?_
  refine AO.pure T rfl rfl rfl ?_
  refine AO.val rfl rfl (len_map_ok T rfl rfl rfl) ?_
  refine AO.pure T rfl rfl rfl ?_
  refine AO.nil ?_
  refine AW.block ?_
  refine AW.loopS (fun s : Nat => (⟨[(0, .s (List.map encResult l)), (7, .s (List.map encResult l)), (8, .v (.int .i64 (l.length : Int))), (9, .v (.int .i64 (s : Int)))], [], 46, []⟩ : St)) (fun s => s ≤ l.length ∧ impl_AreResults_l1 l (l.drop s) s = some r) (fun s => l.length - s) 0 ⟨Nat.zero_le _, hH⟩ ?_ ?_
  · exact Le.cut 0 0 rfl (by repeat' (first | exact trivial | refine ⟨⟨_, rfl, rfl⟩, ?_⟩)) (by repeat' (first | exact trivial | refine ⟨⟨_, rfl, rfl⟩, ?_⟩)) rfl
  · rintro k1 ⟨hk, hH⟩
    replace hH : impl_AreResults_l1 l (l.drop k1) k1 = some r := hH
    show AW _ _ _ (⟨[(0, .s (List.map encResult l)), (7, .s (List.map encResult l)), (8, .v (.int .i64 (l.length : Int))), (9, .v (.int .i64 (k1 : Int)))], [], 46, []⟩ : St)
    refine AW.boundM (t := 0) (l := l) rfl (fun hb5 => ?_)
    cases hd4 : l.drop k1 with
    | nil =>
      rw [hd4] at hH
      rw [impl_AreResults_l1] at hH
      have hlt6 := drop_ge hd4
      refine AW.seq ?_
      refine AW.region ?_
      refine AO.pure T rfl rfl rfl ?_
      refine AO.nil ?_
      refine AW.seq ?_
      refine AW.condF' (b := decide ((k1 : Int) < (l.length : Int))) rfl (rngF hlt6) ?_
      refine AW.exit ?_
      refine AW.seq ?_
      refine AW.region ?_
      refine AO.pure T rfl rfl rfl ?_
      refine AO.val rfl rfl (len_map_ok T rfl rfl rfl) ?_
      refine AO.pure T rfl rfl rfl ?_
      refine AO.pure T rfl rfl rfl ?_
      refine AO.nil ?_
      refine AW.ret ?_
      cases someE hH
      exact ⟨trivial, _, [], rfl, .c (.c .v), by decide⟩
    | cons y2 ys3 =>
      rw [hd4] at hH
      rw [impl_AreResults_l1] at hH
      have hlt6 := drop_lt hd4
      refine AW.seq ?_
      refine AW.region ?_
      refine AO.pure T rfl rfl rfl ?_
      refine AO.nil ?_
      refine AW.seq ?_
      refine AW.condT' (b := decide ((k1 : Int) < (l.length : Int))) rfl (rngT hlt6) ?_
      refine AW.skip ?_
      obtain ⟨o72, hH, hK73⟩ := bindE hH
      refine AW.seqJ (fun s : Unit => (⟨[(0, .s (List.map encResult l)), (7, .s (List.map encResult l)), (8, .v (.int .i64 (l.length : Int))), (9, .v (.int .i64 (k1 : Int)))], [], 46, []⟩ : St)) (fun s => .ok s = o72) ?_ ?_
      · refine AW.block ?_
        refine AW.seq ?_
        refine AW.region ?_
        refine AO.pure T rfl rfl rfl ?_
        refine AO.val rfl rfl (ix_map_ok T rfl rfl rfl rfl rfl (getI_drop hd4) rfl) ?_
        refine AO.pure T (d := .g [.v (.int .i64 y2.skater), .s (List.map encInt y2.scores)]) rfl rfl rfl ?_
        refine AO.step rfl (alloc_ok T rfl 21 rfl rfl rfl rfl rfl) ?_
        refine AO.pure T rfl rfl rfl ?_
        refine AO.step rfl (store_okE T rfl rfl rfl rfl rfl rfl rfl rfl rfl (ds' := [.v (.int .i64 y2.skater), .s (List.map encInt y2.scores)]) rfl) ?_
        refine AO.nil ?_
        refine AW.seq ?_
        refine AW.seq ?_
        obtain ⟨x74, hx75, hH⟩ := bindE hH
        obtain ⟨x76, hx77, hH⟩ := bindE hH
        refine AW.drawn 12 22 [] mix (by kernel_rfl) rfl ?_
        refine AD.pure T (d := .g [.v (.int .i64 y2.skater), .s (List.map encInt y2.scores)]) rfl rfl rfl ?_
        refine AD.val rfl rfl (callV_ok rfl rfl rfl rfl (impl_isResult_ok _ _ (hx75)) rfl) ?_
        refine AD.pure T rfl rfl rfl ?_
        refine AD.pure T rfl rfl rfl ?_
        refine AD.pureG T [] rfl trivial rfl rfl ?_
        refine AD.pureG T [18] rfl ⟨fun h => h, trivial⟩ rfl rfl ?_
        refine AD.guard [19] rfl ⟨fun h => h, trivial⟩ (fun hg => len_map_ok T rfl rfl rfl) rfl ?_
        refine AD.pureG T [] rfl trivial rfl rfl ?_
        refine AD.guard [21] rfl ⟨fun h => h, trivial⟩ (fun hg => ix_map_ok T rfl rfl rfl rfl rfl (optT hx77 hg) rfl) rfl ?_
        refine AD.pureG T [22] rfl ⟨fun h => h, trivial⟩ rfl rfl ?_
        refine AD.pureG T [23] rfl ⟨fun h => h, trivial⟩ rfl rfl ?_
        refine AD.guard [24] rfl ⟨fun h => h, trivial⟩ (fun hg => len_map_ok T rfl rfl rfl) rfl ?_
        refine AD.nil ?_
        refine AO.pureG T [20, 25] rfl ⟨fun h => h, fun h => h, trivial⟩ rfl rfl ?_
        refine AO.val rfl rfl (pick_or rfl rfl rfl rfl) ?_
        refine AO.nil ?_
        refine AW.cond (b := ((!x74) || ((y2.scores.length : Int) != (x76.scores.length : Int)))) rfl (fun hc => ?_) (fun hc => ?_)
        · replace hH := condT hc hH
          refine AW.seq ?_
          refine AW.region ?_
          refine AO.pure T rfl rfl rfl ?_
          refine AO.nil ?_
          refine AW.ret ?_
          obtain rfl := someE hH
          replace hH := hK73
          cases someE hH
          exact ⟨trivial, _, [], rfl, .c (.c .v), by decide⟩
        · replace hH := condF hc hH
          refine AW.skip ?_
          refine AW.seq ?_
          obtain ⟨x78, hx79, hH⟩ := bindE hH
          refine AW.region ?_
          refine AO.pure T rfl rfl rfl ?_
          refine AO.pure T rfl rfl rfl ?_
          refine AO.val rfl rfl (slice_hi_map_ok T rfl rfl rfl rfl rfl (hx79) (fun _ => rfl)) ?_
          refine AO.val rfl rfl (len_map_ok T rfl rfl rfl) ?_
          refine AO.pure T rfl rfl rfl ?_
          refine AO.nil ?_
          refine AW.le (Le.cut 0 0 (σ' := (⟨[(0, .s (List.map encResult l)), (4, .p 21 0), (7, .s (List.map encResult l)), (8, .v (.int .i64 (l.length : Int))), (9, .v (.int .i64 (k1 : Int))), (30, .s (List.map encResult x78)), (31, .v (.int .i64 (x78.length : Int))), (32, .v (.int .i64 0))], [(21, .box [.v (.int .i64 y2.skater), .s (List.map encInt y2.scores)])], 46, []⟩ : St)) rfl (by repeat' (first | exact trivial | refine ⟨⟨_, rfl, rfl⟩, ?_⟩)) (by repeat' (first | exact trivial | refine ⟨⟨_, rfl, rfl⟩, ?_⟩)) rfl) ?_
          refine AW.block ?_
          refine AW.loopS (fun s : Nat => (⟨[(0, .s (List.map encResult l)), (4, .p 21 0), (7, .s (List.map encResult l)), (8, .v (.int .i64 (l.length : Int))), (9, .v (.int .i64 (k1 : Int))), (30, .s (List.map encResult x78)), (31, .v (.int .i64 (x78.length : Int))), (32, .v (.int .i64 (s : Int)))], [(21, .box [.v (.int .i64 y2.skater), .s (List.map encInt y2.scores)])], 46, []⟩ : St)) (fun s => s ≤ x78.length ∧ impl_AreResults_l2 y2 (x78.drop s) s = some o72) (fun s => x78.length - s) 0 ⟨Nat.zero_le _, hH⟩ ?_ ?_
          · exact Le.cut 0 0 rfl (by repeat' (first | exact trivial | refine ⟨⟨_, rfl, rfl⟩, ?_⟩)) (by repeat' (first | exact trivial | refine ⟨⟨_, rfl, rfl⟩, ?_⟩)) rfl
          · rintro k80 ⟨hk, hH⟩
            replace hH : impl_AreResults_l2 y2 (x78.drop k80) k80 = some o72 := hH
            show AW _ _ _ (⟨[(0, .s (List.map encResult l)), (4, .p 21 0), (7, .s (List.map encResult l)), (8, .v (.int .i64 (l.length : Int))), (9, .v (.int .i64 (k1 : Int))), (30, .s (List.map encResult x78)), (31, .v (.int .i64 (x78.length : Int))), (32, .v (.int .i64 (k80 : Int)))], [(21, .box [.v (.int .i64 y2.skater), .s (List.map encInt y2.scores)])], 46, []⟩ : St)
            refine AW.boundM (t := 30) (l := x78) rfl (fun hb84 => ?_)
            cases hd83 : x78.drop k80 with
            | nil =>
              rw [hd83] at hH
              rw [impl_AreResults_l2] at hH
              have hlt85 := drop_ge hd83
              refine AW.seq ?_
              refine AW.region ?_
              refine AO.pure T rfl rfl rfl ?_
              refine AO.nil ?_
              refine AW.seq ?_
              refine AW.condF' (b := decide ((k80 : Int) < (x78.length : Int))) rfl (rngF hlt85) ?_
              refine AW.exit ?_
              refine ⟨_, someE hH, ?_⟩
              exact Le.cut 0 0 rfl (by repeat' (first | exact trivial | refine ⟨⟨_, rfl, rfl⟩, ?_⟩)) (by repeat' (first | exact trivial | refine ⟨⟨_, rfl, rfl⟩, ?_⟩)) rfl
            | cons y81 ys82 =>
              rw [hd83] at hH
              rw [impl_AreResults_l2] at hH
              have hlt85 := drop_lt hd83
              refine AW.seq ?_
              refine AW.region ?_
              refine AO.pure T rfl rfl rfl ?_
              refine AO.nil ?_
              refine AW.seq ?_
              refine AW.condT' (b := decide ((k80 : Int) < (x78.length : Int))) rfl (rngT hlt85) ?_
              refine AW.skip ?_
              refine AW.seq ?_
              refine AW.block ?_
              refine AW.seq ?_
              refine AW.region ?_
              refine AO.val rfl rfl (ix_map_ok T rfl rfl rfl rfl rfl (getI_drop hd83) rfl) ?_
              refine AO.pure T (d := .g [.v (.int .i64 y81.skater), .s (List.map encInt y81.scores)]) rfl rfl rfl ?_
              refine AO.step rfl (alloc_ok T rfl 24 rfl rfl rfl rfl rfl) ?_
              refine AO.step rfl (store_okE T rfl rfl rfl rfl rfl rfl rfl rfl rfl (ds' := [.v (.int .i64 y81.skater), .s (List.map encInt y81.scores)]) rfl) ?_
              refine AO.nil ?_
              refine AW.seq ?_
              refine AW.region ?_
              refine AO.pure T rfl rfl rfl ?_
              refine AO.pure T rfl rfl rfl ?_
              refine AO.pure T rfl rfl rfl ?_
              refine AO.pure T rfl rfl rfl ?_
              refine AO.pure T rfl rfl rfl ?_
              refine AO.nil ?_
              refine AW.cond (b := (y81.skater == y2.skater)) rfl (fun hc => ?_) (fun hc => ?_)
              · replace hH := condT hc hH
                refine AW.seq ?_
                refine AW.region ?_
                refine AO.pure T rfl rfl rfl ?_
                refine AO.nil ?_
                refine AW.ret ?_
                obtain rfl := someE hH
                replace hH := hK73
                cases someE hH
                exact ⟨trivial, _, [], rfl, .c (.c .v), by decide⟩
              · replace hH := condF hc hH
                refine AW.skip ?_
                refine AW.region ?_
                refine AO.val rfl rfl (ar_ok rfl rfl rfl rfl (inI_succ hlt85 hb84)) ?_
                refine AO.pure T rfl rfl rfl ?_
                refine AO.nil ?_
                refine ⟨k80 + 1, ⟨Nat.succ_le_of_lt hlt85, (by rw [drop_succ_of hd83]; exact hH)⟩, (by have := hlt85; dsimp only; omega), ?_⟩
                exact Le.cut 0 0 rfl (by repeat' (first | exact trivial | refine ⟨⟨_, rfl, rfl⟩, ?_⟩)) (by repeat' (first | exact trivial | refine ⟨⟨_, rfl, rfl⟩, ?_⟩)) rfl
      · rintro _ hs
        subst hs
        replace hH := hK73
        try dsimp only [flow, flowE] at hH
        show AW _ _ _ (⟨[(0, .s (List.map encResult l)), (7, .s (List.map encResult l)), (8, .v (.int .i64 (l.length : Int))), (9, .v (.int .i64 (k1 : Int)))], [], 46, []⟩ : St)
        refine AW.region ?_
        refine AO.val rfl rfl (ar_ok rfl rfl rfl rfl (inI_succ hlt6 hb5)) ?_
        refine AO.pure T rfl rfl rfl ?_
        refine AO.nil ?_
        refine ⟨k1 + 1, ⟨Nat.succ_le_of_lt hlt6, (by rw [drop_succ_of hd4]; exact hH)⟩, (by have := hlt6; dsimp only; omega), ?_⟩
        exact Le.cut 0 0 rfl (by repeat' (first | exact trivial | refine ⟨⟨_, rfl, rfl⟩, ?_⟩)) (by repeat' (first | exact trivial | refine ⟨⟨_, rfl, rfl⟩, ?_⟩)) rfl

def impl_without_l1 (other : List Int) : List Int → Nat → List Int → Option ((List Int))
  | [], k1, v16 =>
    some v16
  | y2 :: ys3, k1, v16 =>
    (slices_Contains_int_p other y2).bind fun x18 =>
    cond (!x18)
      ((need (fitsB 8 (v16.length + ([y2]).length))).bind fun u20 =>
      impl_without_l1 other ys3 (k1 + 1) (v16 ++ [y2]))
      (impl_without_l1 other ys3 (k1 + 1) v16)
def impl_without_p (l : List Int) (other : List Int) : Option (List Int) :=
  impl_without_l1 other l 0 []
theorem impl_without_ok (l : List Int) (other : List Int) (r : (List Int)) (hH : impl_without_p l other = some r) : SpecR Tryz.prog 43 [.s (List.map encInt l), .s (List.map encInt other)] (.w 1 (r.map encInt)) := by
  refine fn_ok T Tryz.func43 rfl (by decide) rfl ?_
  refine AW.seq ?_
  refine AW.region ?_
  refine AO.pure T rfl rfl rfl ?_
  refine AO.nil ?_
  refine AW.seq ?_
  refine AW.region ?_
  refine AO.step rfl (mk0_ok T rfl rfl rfl rfl) ?_
  refine AO.pure T rfl rfl rfl ?_
  refine AO.nil ?_
  refine AW.seq ?_
  refine AW.seq ?_
  refine AW.region ?_
  refine AO.pure T rfl rfl rfl ?_
  refine AO.val rfl rfl (len_map_ok T rfl rfl rfl) ?_
  refine AO.pure T rfl rfl rfl ?_
  refine AO.nil ?_
  refine AW.block ?_
  refine AW.loopS (fun s : Nat × (List Int) => (⟨[(1, .s (List.map encInt other)), (5, .R 4), (9, .s (List.map encInt l)), (10, .v (.int .i64 (l.length : Int))), (11, .v (.int .i64 (s.1 : Int)))], [(4, .row 1 (List.map encInt s.2))], 25, []⟩ : St)) (fun s => s.1 ≤ l.length ∧ impl_without_l1 other (l.drop s.1) s.1 s.2 = some r) (fun s => l.length - s.1) (0, []) ⟨Nat.zero_le _, hH⟩ ?_ ?_
  · refine Le.trans (Le.void 5 4 1 rfl rfl) ?_
    exact Le.cut 0 0 rfl (by repeat' (first | exact trivial | refine ⟨⟨_, rfl, rfl⟩, ?_⟩)) (by repeat' (first | exact trivial | refine ⟨⟨_, rfl, rfl⟩, ?_⟩)) rfl
  · rintro ⟨k1, v16⟩ ⟨hk, hH⟩
    replace hH : impl_without_l1 other (l.drop k1) k1 v16 = some r := hH
    show AW _ _ _ (⟨[(1, .s (List.map encInt other)), (5, .R 4), (9, .s (List.map encInt l)), (10, .v (.int .i64 (l.length : Int))), (11, .v (.int .i64 (k1 : Int)))], [(4, .row 1 (List.map encInt v16))], 25, []⟩ : St)
    refine AW.boundM (t := 9) (l := l) rfl (fun hb5 => ?_)
    cases hd4 : l.drop k1 with
    | nil =>
      rw [hd4] at hH
      rw [impl_without_l1] at hH
      have hlt6 := drop_ge hd4
      refine AW.seq ?_
      refine AW.region ?_
      refine AO.pure T rfl rfl rfl ?_
      refine AO.nil ?_
      refine AW.seq ?_
      refine AW.condF' (b := decide ((k1 : Int) < (l.length : Int))) rfl (rngF hlt6) ?_
      refine AW.exit ?_
      refine AW.seq ?_
      refine AW.region ?_
      refine AO.pure T rfl rfl rfl ?_
      refine AO.pure T rfl rfl rfl ?_
      refine AO.nil ?_
      refine AW.ret ?_
      cases someE hH
      exact ⟨trivial, _, [4], rfl, .c (.c (.rowR rfl)), by decide⟩
    | cons y2 ys3 =>
      rw [hd4] at hH
      rw [impl_without_l1] at hH
      have hlt6 := drop_lt hd4
      refine AW.seq ?_
      refine AW.region ?_
      refine AO.pure T rfl rfl rfl ?_
      refine AO.nil ?_
      refine AW.seq ?_
      refine AW.condT' (b := decide ((k1 : Int) < (l.length : Int))) rfl (rngT hlt6) ?_
      refine AW.skip ?_
      refine AW.seq ?_
      refine AW.block ?_
      refine AW.seq ?_
      refine AW.region ?_
      refine AO.val rfl rfl (ix_map_ok T rfl rfl rfl rfl rfl (getI_drop hd4) rfl) ?_
      refine AO.pure T rfl rfl rfl ?_
      refine AO.pure T rfl rfl rfl ?_
      refine AO.nil ?_
      refine AW.seq ?_
      obtain ⟨x18, hx19, hH⟩ := bindE hH
      refine AW.region ?_
      refine AO.pure T rfl rfl rfl ?_
      refine AO.pure T rfl rfl rfl ?_
      refine AO.val rfl rfl (callV_ok rfl rfl rfl rfl (slices_Contains_int_ok _ _ _ (hx19)) rfl) ?_
      refine AO.pure T rfl rfl rfl ?_
      refine AO.nil ?_
      refine AW.cond (b := (!x18)) rfl (fun hc => ?_) (fun hc => ?_)
      · replace hH := condT hc hH
        obtain ⟨u20, hx21, hH⟩ := bindE hH
        refine AW.region ?_
        refine AO.pure T rfl rfl rfl ?_
        refine AO.pure T rfl rfl rfl ?_
        refine AO.step rfl (mk_map_ok T rfl 5 rfl rfl rfl rfl rfl (f := encInt) (l := [y2]) rfl rfl (fun _ => rfl) rfl rfl rfl rfl rfl) ?_
        refine AO.step rfl (app_rv_map T rfl 6 rfl rfl rfl rfl rfl (by decide) rfl rfl rfl rfl (fun _ => rfl) (needT (hx21)) rfl rfl) ?_
        refine AO.pure T rfl rfl rfl ?_
        refine AO.nil ?_
        refine AW.region ?_
        refine AO.val rfl rfl (ar_ok rfl rfl rfl rfl (inI_succ hlt6 hb5)) ?_
        refine AO.pure T rfl rfl rfl ?_
        refine AO.nil ?_
        refine ⟨(k1 + 1, (v16 ++ [y2])), ⟨Nat.succ_le_of_lt hlt6, (by rw [drop_succ_of hd4]; exact hH)⟩, (by have := hlt6; dsimp only; omega), ?_⟩
        exact Le.cut 6 4 rfl (by repeat' (first | exact trivial | refine ⟨⟨_, rfl, rfl⟩, ?_⟩)) (by repeat' (first | exact trivial | refine ⟨⟨_, rfl, rfl⟩, ?_⟩)) rfl
      · replace hH := condF hc hH
        refine AW.skip ?_
        refine AW.region ?_
        refine AO.val rfl rfl (ar_ok rfl rfl rfl rfl (inI_succ hlt6 hb5)) ?_
        refine AO.pure T rfl rfl rfl ?_
        refine AO.nil ?_
        refine ⟨(k1 + 1, v16), ⟨Nat.succ_le_of_lt hlt6, (by rw [drop_succ_of hd4]; exact hH)⟩, (by have := hlt6; dsimp only; omega), ?_⟩
        exact Le.cut 0 0 rfl (by repeat' (first | exact trivial | refine ⟨⟨_, rfl, rfl⟩, ?_⟩)) (by repeat' (first | exact trivial | refine ⟨⟨_, rfl, rfl⟩, ?_⟩)) rfl

def impl_hasEntrants_l1 (e : Event) : List Entrant → Nat → List Int → Option Bool
  | [], k7, v22 =>
    (impl_without_p e.gone v22).bind fun x24 =>
    some ((x24.length : Int) == 0)
  | y8 :: ys9, k7, v22 =>
    (need (fitsB 8 (v22.length + ([y8.skater]).length))).bind fun u26 =>
    (getI e.results (k7 : Int)).bind fun x28 =>
    cond ((x28.skater != y8.skater) || ((x28.scores.length : Int) != e.segments))
      (some false)
      (impl_hasEntrants_l1 e ys9 (k7 + 1) (v22 ++ [y8.skater]))
def impl_hasEntrants_p (e : Event) : Option Bool :=
  (impl_AreEntrants_p e.entrants).bind fun x1 =>
  (opt (!(!x1)) default (impl_isIncreasing_p e.gone 1000)).bind fun x3 =>
  (opt (!((!x1) || (!x3))) default (impl_AreResults_p e.results)).bind fun x5 =>
  cond ((((!x1) || (!x3)) || (!x5)) || ((e.results.length : Int) != (e.entrants.length : Int)))
    (some false)
    (impl_hasEntrants_l1 e e.entrants 0 [])
theorem impl_hasEntrants_ok (e : Event) (r : Bool) (hH : impl_hasEntrants_p e = some r) : SpecR Tryz.prog 77 [.g (encEvent e)] (.v (.bool r)) := by
  refine fn_ok T Tryz.func77 rfl (by decide) rfl ?_
  refine AW.seq ?_
  refine AW.region ?_
  refine AO.step rfl (box_ok T rfl 1 rfl rfl rfl rfl) ?_
  refine AO.pure T rfl rfl rfl ?_
  refine AO.nil ?_
  refine AW.seq ?_
  refine AW.seq ?_
  obtain ⟨x1, hx2, hH⟩ := bindE hH
  obtain ⟨x3, hx4, hH⟩ := bindE hH
  obtain ⟨x5, hx6, hH⟩ := bindE hH
  refine AW.region ?_
  refine AO.pure T rfl rfl rfl ?_
  refine AO.pure T rfl rfl rfl ?_
  refine AO.val rfl rfl (callV_ok rfl rfl rfl rfl (impl_AreEntrants_ok _ _ (hx2)) rfl) ?_
  refine AO.pure T rfl rfl rfl ?_
  refine AO.pure T rfl rfl rfl ?_
  refine AO.pureG T [] rfl trivial rfl rfl ?_
  refine AO.pureG T [12] rfl ⟨fun h => h, trivial⟩ rfl rfl ?_
  refine AO.guard [13] rfl ⟨fun h => h, trivial⟩ (fun hg => callV_ok rfl rfl rfl rfl (impl_isIncreasing_ok _ _ _ (optT hx4 hg)) rfl) rfl ?_
  refine AO.pureG T [14] rfl ⟨fun h => h, trivial⟩ rfl rfl ?_
  refine AO.val rfl rfl (pick_or rfl rfl rfl rfl) ?_
  refine AO.pure T rfl rfl rfl ?_
  refine AO.pureG T [] rfl trivial rfl rfl ?_
  refine AO.pureG T [18] rfl ⟨fun h => h, trivial⟩ rfl rfl ?_
  refine AO.guard [19] rfl ⟨fun h => h, trivial⟩ (fun hg => callV_ok rfl rfl rfl rfl (impl_AreResults_ok _ _ (optT hx6 hg)) rfl) rfl ?_
  refine AO.pureG T [20] rfl ⟨fun h => h, trivial⟩ rfl rfl ?_
  refine AO.val rfl rfl (pick_or rfl rfl rfl rfl) ?_
  refine AO.pure T rfl rfl rfl ?_
  refine AO.pureG T [] rfl trivial rfl rfl ?_
  refine AO.pureG T [24] rfl ⟨fun h => h, trivial⟩ rfl rfl ?_
  refine AO.guard [25] rfl ⟨fun h => h, trivial⟩ (fun hg => len_map_ok T rfl rfl rfl) rfl ?_
  refine AO.pureG T [] rfl trivial rfl rfl ?_
  refine AO.pureG T [27] rfl ⟨fun h => h, trivial⟩ rfl rfl ?_
  refine AO.guard [28] rfl ⟨fun h => h, trivial⟩ (fun hg => len_map_ok T rfl rfl rfl) rfl ?_
  refine AO.pureG T [26, 29] rfl ⟨fun h => h, fun h => h, trivial⟩ rfl rfl ?_
  refine AO.val rfl rfl (pick_or rfl rfl rfl rfl) ?_
  refine AO.nil ?_
  refine AW.le (Le.cut 0 0 (σ' := (⟨[(1, .p 1 0), (31, .v (.bool ((((!x1) || (!x3)) || (!x5)) || ((e.results.length : Int) != (e.entrants.length : Int)))))], [(1, .box [.v (.int .i64 e.segments), .v (.int .i64 e.size), .v (.int .i64 e.key), .s (List.map encEntrant e.entrants), .s (List.map encInt e.gone), .v (.int .i64 e.segment), .s (List.map encInt e.order), .s (List.map encResult e.results)])], 71, []⟩ : St)) rfl (by repeat' (first | exact trivial | refine ⟨⟨_, rfl, rfl⟩, ?_⟩)) (by repeat' (first | exact trivial | refine ⟨⟨_, rfl, rfl⟩, ?_⟩)) rfl) ?_
  refine AW.cond (b := ((((!x1) || (!x3)) || (!x5)) || ((e.results.length : Int) != (e.entrants.length : Int)))) rfl (fun hc => ?_) (fun hc => ?_)
  · replace hH := condT hc hH
    refine AW.seq ?_
    refine AW.region ?_
    refine AO.pure T rfl rfl rfl ?_
    refine AO.nil ?_
    refine AW.ret ?_
    cases someE hH
    exact ⟨trivial, _, [], rfl, .c (.c .v), by decide⟩
  · replace hH := condF hc hH
    refine AW.skip ?_
    refine AW.seq ?_
    refine AW.region ?_
    refine AO.step rfl (mk0_ok T rfl rfl rfl rfl) ?_
    refine AO.pure T rfl rfl rfl ?_
    refine AO.nil ?_
    refine AW.seq ?_
    refine AW.seq ?_
    refine AW.region ?_
    refine AO.pure T rfl rfl rfl ?_
    refine AO.pure T rfl rfl rfl ?_
    refine AO.val rfl rfl (len_map_ok T rfl rfl rfl) ?_
    refine AO.pure T rfl rfl rfl ?_
    refine AO.nil ?_
    refine AW.block ?_
    refine AW.loopS (fun s : Nat × (List Int) => (⟨[(1, .p 1 0), (3, .R 8), (34, .s (List.map encEntrant e.entrants)), (35, .v (.int .i64 (e.entrants.length : Int))), (36, .v (.int .i64 (s.1 : Int)))], [(1, .box [.v (.int .i64 e.segments), .v (.int .i64 e.size), .v (.int .i64 e.key), .s (List.map encEntrant e.entrants), .s (List.map encInt e.gone), .v (.int .i64 e.segment), .s (List.map encInt e.order), .s (List.map encResult e.results)]), (8, .row 1 (List.map encInt s.2))], 71, []⟩ : St)) (fun s => s.1 ≤ e.entrants.length ∧ impl_hasEntrants_l1 e (e.entrants.drop s.1) s.1 s.2 = some r) (fun s => e.entrants.length - s.1) (0, []) ⟨Nat.zero_le _, hH⟩ ?_ ?_
    · refine Le.trans (Le.void 3 8 1 rfl rfl) ?_
      exact Le.cut 0 0 rfl (by repeat' (first | exact trivial | refine ⟨⟨_, rfl, rfl⟩, ?_⟩)) (by repeat' (first | exact trivial | refine ⟨⟨_, rfl, rfl⟩, ?_⟩)) rfl
    · rintro ⟨k7, v22⟩ ⟨hk, hH⟩
      replace hH : impl_hasEntrants_l1 e (e.entrants.drop k7) k7 v22 = some r := hH
      show AW _ _ _ (⟨[(1, .p 1 0), (3, .R 8), (34, .s (List.map encEntrant e.entrants)), (35, .v (.int .i64 (e.entrants.length : Int))), (36, .v (.int .i64 (k7 : Int)))], [(1, .box [.v (.int .i64 e.segments), .v (.int .i64 e.size), .v (.int .i64 e.key), .s (List.map encEntrant e.entrants), .s (List.map encInt e.gone), .v (.int .i64 e.segment), .s (List.map encInt e.order), .s (List.map encResult e.results)]), (8, .row 1 (List.map encInt v22))], 71, []⟩ : St)
      refine AW.boundM (t := 34) (l := e.entrants) rfl (fun hb11 => ?_)
      cases hd10 : e.entrants.drop k7 with
      | nil =>
        rw [hd10] at hH
        rw [impl_hasEntrants_l1] at hH
        have hlt12 := drop_ge hd10
        refine AW.seq ?_
        refine AW.region ?_
        refine AO.pure T rfl rfl rfl ?_
        refine AO.nil ?_
        refine AW.seq ?_
        refine AW.condF' (b := decide ((k7 : Int) < (e.entrants.length : Int))) rfl (rngF hlt12) ?_
        refine AW.exit ?_
        refine AW.seq ?_
        obtain ⟨x24, hx25, hH⟩ := bindE hH
        refine AW.region ?_
        refine AO.pure T rfl rfl rfl ?_
        refine AO.pure T rfl rfl rfl ?_
        refine AO.pure T rfl rfl rfl ?_
        refine AO.step rfl (callL_ok rfl 10 rfl rfl (es := [.s (List.map encInt e.gone), .s (List.map encInt v22)]) (by exact ⟨.free rfl, (.rowR rfl (.map fun y => .vs rfl)), trivial⟩) (impl_without_ok _ _ _ (hx25)) (zfree_map (fun y => (.cons (zfree_v _) .nil))) rfl rfl rfl) ?_
        refine AO.val rfl rfl (len_row_ok T rfl rfl rfl rfl) ?_
        refine AO.pure T rfl rfl rfl ?_
        refine AO.pure T rfl rfl rfl ?_
        refine AO.nil ?_
        refine AW.ret ?_
        cases someE hH
        exact ⟨trivial, _, [], rfl, .c (.c .v), by decide⟩
      | cons y8 ys9 =>
        rw [hd10] at hH
        rw [impl_hasEntrants_l1] at hH
        have hlt12 := drop_lt hd10
        refine AW.seq ?_
        refine AW.region ?_
        refine AO.pure T rfl rfl rfl ?_
        refine AO.nil ?_
        refine AW.seq ?_
        refine AW.condT' (b := decide ((k7 : Int) < (e.entrants.length : Int))) rfl (rngT hlt12) ?_
        refine AW.skip ?_
        refine AW.seq ?_
        refine AW.block ?_
        refine AW.seq ?_
        refine AW.region ?_
        refine AO.pure T rfl rfl rfl ?_
        refine AO.val rfl rfl (ix_map_ok T rfl rfl rfl rfl rfl (getI_drop hd10) rfl) ?_
        refine AO.pure T (d := .g [.v (.int .i64 y8.skater), .v (.int .i64 y8.rank)]) rfl rfl rfl ?_
        refine AO.step rfl (alloc_ok T rfl 11 rfl rfl rfl rfl rfl) ?_
        refine AO.pure T rfl rfl rfl ?_
        refine AO.step rfl (store_okE T rfl rfl rfl rfl rfl rfl rfl rfl rfl (ds' := [.v (.int .i64 y8.skater), .v (.int .i64 y8.rank)]) rfl) ?_
        refine AO.nil ?_
        refine AW.seq ?_
        obtain ⟨u26, hx27, hH⟩ := bindE hH
        refine AW.region ?_
        refine AO.pure T rfl rfl rfl ?_
        refine AO.pure T rfl rfl rfl ?_
        refine AO.pure T rfl rfl rfl ?_
        refine AO.step rfl (mk_map_ok T rfl 12 rfl rfl rfl rfl rfl (f := encInt) (l := [y8.skater]) rfl rfl (fun _ => rfl) rfl rfl rfl rfl rfl) ?_
        refine AO.step rfl (app_rv_map T rfl 13 rfl rfl rfl rfl rfl (by decide) rfl rfl rfl rfl (fun _ => rfl) (needT (hx27)) rfl rfl) ?_
        refine AO.pure T rfl rfl rfl ?_
        refine AO.nil ?_
        refine AW.seq ?_
        obtain ⟨x28, hx29, hH⟩ := bindE hH
        refine AW.region ?_
        refine AO.pure T rfl rfl rfl ?_
        refine AO.pure T rfl rfl rfl ?_
        refine AO.pure T rfl rfl rfl ?_
        refine AO.val rfl rfl (ix_map_ok T rfl rfl rfl rfl rfl (hx29) rfl) ?_
        refine AO.pure T (d := .g [.v (.int .i64 x28.skater), .s (List.map encInt x28.scores)]) rfl rfl rfl ?_
        refine AO.step rfl (alloc_ok T rfl 14 rfl rfl rfl rfl rfl) ?_
        refine AO.step rfl (store_okE T rfl rfl rfl rfl rfl rfl rfl rfl rfl (ds' := [.v (.int .i64 x28.skater), .s (List.map encInt x28.scores)]) rfl) ?_
        refine AO.nil ?_
        refine AW.seq ?_
        refine AW.region ?_
        refine AO.pure T rfl rfl rfl ?_
        refine AO.pure T rfl rfl rfl ?_
        refine AO.pure T rfl rfl rfl ?_
        refine AO.pure T rfl rfl rfl ?_
        refine AO.pure T rfl rfl rfl ?_
        refine AO.pure T rfl rfl rfl ?_
        refine AO.pureG T [] rfl trivial rfl rfl ?_
        refine AO.pureG T [57] rfl ⟨fun h => h, trivial⟩ rfl rfl ?_
        refine AO.guard [58] rfl ⟨fun h => h, trivial⟩ (fun hg => len_map_ok T rfl rfl rfl) rfl ?_
        refine AO.pureG T [] rfl trivial rfl rfl ?_
        refine AO.pureG T [60] rfl ⟨fun h => h, trivial⟩ rfl rfl ?_
        refine AO.pureG T [59, 61] rfl ⟨fun h => h, fun h => h, trivial⟩ rfl rfl ?_
        refine AO.val rfl rfl (pick_or rfl rfl rfl rfl) ?_
        refine AO.nil ?_
        refine AW.le (Le.cut 0 0 (σ' := (⟨[(1, .p 1 0), (3, .R 13), (34, .s (List.map encEntrant e.entrants)), (35, .v (.int .i64 (e.entrants.length : Int))), (36, .v (.int .i64 (k7 : Int))), (63, .v (.bool ((x28.skater != y8.skater) || ((x28.scores.length : Int) != e.segments))))], [(1, .box [.v (.int .i64 e.segments), .v (.int .i64 e.size), .v (.int .i64 e.key), .s (List.map encEntrant e.entrants), .s (List.map encInt e.gone), .v (.int .i64 e.segment), .s (List.map encInt e.order), .s (List.map encResult e.results)]), (13, .row 1 (List.map encInt (v22 ++ [y8.skater])))], 71, []⟩ : St)) rfl (by repeat' (first | exact trivial | refine ⟨⟨_, rfl, rfl⟩, ?_⟩)) (by repeat' (first | exact trivial | refine ⟨⟨_, rfl, rfl⟩, ?_⟩)) rfl) ?_
        refine AW.cond (b := ((x28.skater != y8.skater) || ((x28.scores.length : Int) != e.segments))) rfl (fun hc => ?_) (fun hc => ?_)
        · replace hH := condT hc hH
          refine AW.seq ?_
          refine AW.region ?_
          refine AO.pure T rfl rfl rfl ?_
          refine AO.nil ?_
          refine AW.ret ?_
          cases someE hH
          exact ⟨trivial, _, [], rfl, .c (.c .v), by decide⟩
        · replace hH := condF hc hH
          refine AW.skip ?_
          refine AW.region ?_
          refine AO.val rfl rfl (ar_ok rfl rfl rfl rfl (inI_succ hlt12 hb11)) ?_
          refine AO.pure T rfl rfl rfl ?_
          refine AO.nil ?_
          refine ⟨(k7 + 1, (v22 ++ [y8.skater])), ⟨Nat.succ_le_of_lt hlt12, (by rw [drop_succ_of hd10]; exact hH)⟩, (by have := hlt12; dsimp only; omega), ?_⟩
          exact Le.cut 13 8 rfl (by repeat' (first | exact trivial | refine ⟨⟨_, rfl, rfl⟩, ?_⟩)) (by repeat' (first | exact trivial | refine ⟨⟨_, rfl, rfl⟩, ?_⟩)) rfl

def impl_totalOf_l1 : List Int → Nat → Int → Int → Option ((Int × Int))
  | [], k1, v9, v10 =>
    some (v9, v10)
  | y2 :: ys3, k1, v9, v10 =>
    cond (decide (y2 ≥ 0))
      (impl_totalOf_l1 ys3 (k1 + 1) (w64 (v9 + y2)) (w64 (v10 + 1)))
      (impl_totalOf_l1 ys3 (k1 + 1) v9 v10)
def impl_totalOf_p (rA : Result) : Option (Int × Int) :=
  impl_totalOf_l1 rA.scores 0 0 0
theorem impl_totalOf_ok (rA : Result) (r : (Int × Int)) (hH : impl_totalOf_p rA = some r) : SpecR Tryz.prog 101 [.g (encResult rA)] (.t [.v (.int .i64 r.1), .v (.int .i64 r.2)]) := by
  refine fn_ok T Tryz.func101 rfl (by decide) rfl ?_
  refine AW.seq ?_
  refine AW.region ?_
  refine AO.step rfl (box_ok T rfl 1 rfl rfl rfl rfl) ?_
  refine AO.pure T rfl rfl rfl ?_
  refine AO.pure T rfl rfl rfl ?_
  refine AO.nil ?_
  refine AW.seq ?_
  refine AW.region ?_
  refine AO.pure T rfl rfl rfl ?_
  refine AO.pure T rfl rfl rfl ?_
  refine AO.nil ?_
  refine AW.seq ?_
  refine AW.seq ?_
  refine AW.region ?_
  refine AO.pure T rfl rfl rfl ?_
  refine AO.pure T rfl rfl rfl ?_
  refine AO.val rfl rfl (len_map_ok T rfl rfl rfl) ?_
  refine AO.pure T rfl rfl rfl ?_
  refine AO.nil ?_
  refine AW.block ?_
  refine AW.loopS (fun s : Nat × Int × Int => (⟨[(4, .v (.int .i64 s.2.1)), (5, .v (.int .i64 s.2.2)), (9, .s (List.map encInt rA.scores)), (10, .v (.int .i64 (rA.scores.length : Int))), (11, .v (.int .i64 (s.1 : Int)))], [], 25, []⟩ : St)) (fun s => s.1 ≤ rA.scores.length ∧ impl_totalOf_l1 (rA.scores.drop s.1) s.1 s.2.1 s.2.2 = some r) (fun s => rA.scores.length - s.1) (0, 0, 0) ⟨Nat.zero_le _, hH⟩ ?_ ?_
  · exact Le.cut 0 0 rfl (by repeat' (first | exact trivial | refine ⟨⟨_, rfl, rfl⟩, ?_⟩)) (by repeat' (first | exact trivial | refine ⟨⟨_, rfl, rfl⟩, ?_⟩)) rfl
  · rintro ⟨k1, v9, v10⟩ ⟨hk, hH⟩
    replace hH : impl_totalOf_l1 (rA.scores.drop k1) k1 v9 v10 = some r := hH
    show AW _ _ _ (⟨[(4, .v (.int .i64 v9)), (5, .v (.int .i64 v10)), (9, .s (List.map encInt rA.scores)), (10, .v (.int .i64 (rA.scores.length : Int))), (11, .v (.int .i64 (k1 : Int)))], [], 25, []⟩ : St)
    refine AW.boundM (t := 9) (l := rA.scores) rfl (fun hb5 => ?_)
    cases hd4 : rA.scores.drop k1 with
    | nil =>
      rw [hd4] at hH
      rw [impl_totalOf_l1] at hH
      have hlt6 := drop_ge hd4
      refine AW.seq ?_
      refine AW.region ?_
      refine AO.pure T rfl rfl rfl ?_
      refine AO.nil ?_
      refine AW.seq ?_
      refine AW.condF' (b := decide ((k1 : Int) < (rA.scores.length : Int))) rfl (rngF hlt6) ?_
      refine AW.exit ?_
      refine AW.seq ?_
      refine AW.region ?_
      refine AO.pure T rfl rfl rfl ?_
      refine AO.pure T rfl rfl rfl ?_
      refine AO.pure T rfl rfl rfl ?_
      refine AO.pure T rfl rfl rfl ?_
      refine AO.nil ?_
      refine AW.ret ?_
      cases someE hH
      exact ⟨trivial, _, [], rfl, .t (expLG_cons (.c .v) (expLG_cons (.c .v) (expLG_nil))), by decide⟩
    | cons y2 ys3 =>
      rw [hd4] at hH
      rw [impl_totalOf_l1] at hH
      have hlt6 := drop_lt hd4
      refine AW.seq ?_
      refine AW.region ?_
      refine AO.pure T rfl rfl rfl ?_
      refine AO.nil ?_
      refine AW.seq ?_
      refine AW.condT' (b := decide ((k1 : Int) < (rA.scores.length : Int))) rfl (rngT hlt6) ?_
      refine AW.skip ?_
      refine AW.seq ?_
      refine AW.block ?_
      refine AW.seq ?_
      refine AW.region ?_
      refine AO.val rfl rfl (ix_map_ok T rfl rfl rfl rfl rfl (getI_drop hd4) rfl) ?_
      refine AO.pure T rfl rfl rfl ?_
      refine AO.pure T rfl rfl rfl ?_
      refine AO.nil ?_
      refine AW.seq ?_
      refine AW.region ?_
      refine AO.pure T rfl rfl rfl ?_
      refine AO.pure T rfl rfl rfl ?_
      refine AO.nil ?_
      refine AW.cond (b := decide (y2 ≥ 0)) rfl (fun hc => ?_) (fun hc => ?_)
      · replace hH := condT hc hH
        refine AW.seq ?_
        refine AW.region ?_
        refine AO.pure T rfl rfl rfl ?_
        refine AO.pure T rfl rfl rfl ?_
        refine AO.val rfl rfl (arw_ok rfl rfl rfl rfl) ?_
        refine AO.pure T rfl rfl rfl ?_
        refine AO.nil ?_
        refine AW.region ?_
        refine AO.pure T rfl rfl rfl ?_
        refine AO.val rfl rfl (arw_ok rfl rfl rfl rfl) ?_
        refine AO.pure T rfl rfl rfl ?_
        refine AO.nil ?_
        refine AW.region ?_
        refine AO.val rfl rfl (ar_ok rfl rfl rfl rfl (inI_succ hlt6 hb5)) ?_
        refine AO.pure T rfl rfl rfl ?_
        refine AO.nil ?_
        refine ⟨(k1 + 1, w64 (v9 + y2), w64 (v10 + 1)), ⟨Nat.succ_le_of_lt hlt6, (by rw [drop_succ_of hd4]; exact hH)⟩, (by have := hlt6; dsimp only; omega), ?_⟩
        exact Le.cut 0 0 rfl (by repeat' (first | exact trivial | refine ⟨⟨_, rfl, rfl⟩, ?_⟩)) (by repeat' (first | exact trivial | refine ⟨⟨_, rfl, rfl⟩, ?_⟩)) rfl
      · replace hH := condF hc hH
        refine AW.skip ?_
        refine AW.region ?_
        refine AO.val rfl rfl (ar_ok rfl rfl rfl rfl (inI_succ hlt6 hb5)) ?_
        refine AO.pure T rfl rfl rfl ?_
        refine AO.nil ?_
        refine ⟨(k1 + 1, v9, v10), ⟨Nat.succ_le_of_lt hlt6, (by rw [drop_succ_of hd4]; exact hH)⟩, (by have := hlt6; dsimp only; omega), ?_⟩
        exact Le.cut 0 0 rfl (by repeat' (first | exact trivial | refine ⟨⟨_, rfl, rfl⟩, ?_⟩)) (by repeat' (first | exact trivial | refine ⟨⟨_, rfl, rfl⟩, ?_⟩)) rfl

def impl_scoredIn_l1 (skater : Int) : List Result → Nat → Option Int
  | [], k1 =>
    some 0
  | y2 :: ys3, k1 =>
    cond (y2.skater == skater)
      ((impl_totalOf_p y2).bind fun x12 =>
      some x12.2)
      (impl_scoredIn_l1 skater ys3 (k1 + 1))
def impl_scoredIn_p (e : Event) (skater : Int) : Option Int :=
  impl_scoredIn_l1 skater e.results 0
theorem impl_scoredIn_ok (e : Event) (skater : Int) (r : Int) (hH : impl_scoredIn_p e skater = some r) : SpecR Tryz.prog 66 [.g (encEvent e), .v (.int .i64 skater)] (.v (.int .i64 r)) := by
  refine fn_ok T Tryz.func66 rfl (by decide) rfl ?_
  refine AW.seq ?_
  refine AW.region ?_
  refine AO.step rfl (box_ok T rfl 1 rfl rfl rfl rfl) ?_
  refine AO.pure T rfl rfl rfl ?_
  refine AO.nil ?_
  refine AW.seq ?_
  refine AW.seq ?_
  refine AW.region ?_
  refine AO.pure T rfl rfl rfl ?_
  refine AO.pure T rfl rfl rfl ?_
  refine AO.val rfl rfl (len_map_ok T rfl rfl rfl) ?_
  refine AO.pure T rfl rfl rfl ?_
  refine AO.nil ?_
  refine AW.block ?_
  refine AW.loopS (fun s : Nat => (⟨[(1, .v (.int .i64 skater)), (10, .s (List.map encResult e.results)), (11, .v (.int .i64 (e.results.length : Int))), (12, .v (.int .i64 (s : Int)))], [], 27, []⟩ : St)) (fun s => s ≤ e.results.length ∧ impl_scoredIn_l1 skater (e.results.drop s) s = some r) (fun s => e.results.length - s) 0 ⟨Nat.zero_le _, hH⟩ ?_ ?_
  · exact Le.cut 0 0 rfl (by repeat' (first | exact trivial | refine ⟨⟨_, rfl, rfl⟩, ?_⟩)) (by repeat' (first | exact trivial | refine ⟨⟨_, rfl, rfl⟩, ?_⟩)) rfl
  · rintro k1 ⟨hk, hH⟩
    replace hH : impl_scoredIn_l1 skater (e.results.drop k1) k1 = some r := hH
    show AW _ _ _ (⟨[(1, .v (.int .i64 skater)), (10, .s (List.map encResult e.results)), (11, .v (.int .i64 (e.results.length : Int))), (12, .v (.int .i64 (k1 : Int)))], [], 27, []⟩ : St)
    refine AW.boundM (t := 10) (l := e.results) rfl (fun hb5 => ?_)
    cases hd4 : e.results.drop k1 with
    | nil =>
      rw [hd4] at hH
      rw [impl_scoredIn_l1] at hH
      have hlt6 := drop_ge hd4
      refine AW.seq ?_
      refine AW.region ?_
      refine AO.pure T rfl rfl rfl ?_
      refine AO.nil ?_
      refine AW.seq ?_
      refine AW.condF' (b := decide ((k1 : Int) < (e.results.length : Int))) rfl (rngF hlt6) ?_
      refine AW.exit ?_
      refine AW.seq ?_
      refine AW.region ?_
      refine AO.pure T rfl rfl rfl ?_
      refine AO.nil ?_
      refine AW.ret ?_
      cases someE hH
      exact ⟨trivial, _, [], rfl, .c (.c .v), by decide⟩
    | cons y2 ys3 =>
      rw [hd4] at hH
      rw [impl_scoredIn_l1] at hH
      have hlt6 := drop_lt hd4
      refine AW.seq ?_
      refine AW.region ?_
      refine AO.pure T rfl rfl rfl ?_
      refine AO.nil ?_
      refine AW.seq ?_
      refine AW.condT' (b := decide ((k1 : Int) < (e.results.length : Int))) rfl (rngT hlt6) ?_
      refine AW.skip ?_
      refine AW.seq ?_
      refine AW.block ?_
      refine AW.seq ?_
      refine AW.region ?_
      refine AO.val rfl rfl (ix_map_ok T rfl rfl rfl rfl rfl (getI_drop hd4) rfl) ?_
      refine AO.pure T (d := .g [.v (.int .i64 y2.skater), .s (List.map encInt y2.scores)]) rfl rfl rfl ?_
      refine AO.step rfl (alloc_ok T rfl 4 rfl rfl rfl rfl rfl) ?_
      refine AO.step rfl (store_okE T rfl rfl rfl rfl rfl rfl rfl rfl rfl (ds' := [.v (.int .i64 y2.skater), .s (List.map encInt y2.scores)]) rfl) ?_
      refine AO.nil ?_
      refine AW.seq ?_
      refine AW.region ?_
      refine AO.pure T rfl rfl rfl ?_
      refine AO.pure T rfl rfl rfl ?_
      refine AO.pure T rfl rfl rfl ?_
      refine AO.pure T rfl rfl rfl ?_
      refine AO.nil ?_
      refine AW.cond (b := (y2.skater == skater)) rfl (fun hc => ?_) (fun hc => ?_)
      · replace hH := condT hc hH
        refine AW.seq ?_
        obtain ⟨x12, hx13, hH⟩ := bindE hH
        refine AW.region ?_
        refine AO.pure T (d := .g [.v (.int .i64 y2.skater), .s (List.map encInt y2.scores)]) rfl rfl rfl ?_
        refine AO.val rfl rfl (callV_ok rfl rfl rfl rfl (impl_totalOf_ok _ _ (hx13)) rfl) ?_
        refine AO.pure T rfl rfl rfl ?_
        refine AO.pure T rfl rfl rfl ?_
        refine AO.pure T rfl rfl rfl ?_
        refine AO.pure T rfl rfl rfl ?_
        refine AO.pure T rfl rfl rfl ?_
        refine AO.nil ?_
        refine AW.seq ?_
        refine AW.region ?_
        refine AO.pure T rfl rfl rfl ?_
        refine AO.pure T rfl rfl rfl ?_
        refine AO.nil ?_
        refine AW.ret ?_
        cases someE hH
        exact ⟨trivial, _, [], rfl, .c (.c .v), by decide⟩
      · replace hH := condF hc hH
        refine AW.skip ?_
        refine AW.region ?_
        refine AO.val rfl rfl (ar_ok rfl rfl rfl rfl (inI_succ hlt6 hb5)) ?_
        refine AO.pure T rfl rfl rfl ?_
        refine AO.nil ?_
        refine ⟨k1 + 1, ⟨Nat.succ_le_of_lt hlt6, (by rw [drop_succ_of hd4]; exact hH)⟩, (by have := hlt6; dsimp only; omega), ?_⟩
        exact Le.cut 0 0 rfl (by repeat' (first | exact trivial | refine ⟨⟨_, rfl, rfl⟩, ?_⟩)) (by repeat' (first | exact trivial | refine ⟨⟨_, rfl, rfl⟩, ?_⟩)) rfl

def slices_IndexFunc_Entrant_l1 (f : Entrant → Option Bool) : List Entrant → Nat → Option Int
  | [], k1 =>
    some (-1)
  | y2 :: ys3, k1 =>
    (f y2).bind fun x12 =>
    cond x12
      (some (k1 : Int))
      (slices_IndexFunc_Entrant_l1 f ys3 (k1 + 1))
def slices_IndexFunc_Entrant_p (sA : List Entrant) (f : Entrant → Option Bool) : Option Int :=
  slices_IndexFunc_Entrant_l1 f sA 0
theorem slices_IndexFunc_Entrant_ok (sA : List Entrant) (f_f : Nat) (f_c : List D) (f_k : f_c.all D.capOk = true) (f : Entrant → Option Bool) (f_h : ∀ (a0 : Entrant) (q : Bool), f a0 = some q → SpecR Tryz.prog f_f ([.g (encEntrant a0)] ++ f_c) (.v (.bool q))) (r : Int) (hH : slices_IndexFunc_Entrant_p sA f = some r) : SpecR Tryz.prog 88 [.s (List.map encEntrant sA), .f f_f f_c] (.v (.int .i64 r)) := by
  have f_r := cap_cfree f_k
  refine fn_ok T Tryz.func88 rfl (by decide) rfl ?_
  refine AW.seq ?_
  refine AW.region ?_
  refine AO.pure T rfl rfl rfl ?_
  refine AO.nil ?_
  refine AW.seq ?_
  refine AW.seq ?_
  refine AW.region ?_
  refine AO.pure T rfl rfl rfl ?_
  refine AO.val rfl rfl (len_map_ok T rfl rfl rfl) ?_
  refine AO.pure T rfl rfl rfl ?_
  refine AO.nil ?_
  refine AW.block ?_
  refine AW.loopS (fun s : Nat => (⟨[(0, .s (List.map encEntrant sA)), (1, .f f_f f_c), (7, .v (.int .i64 (sA.length : Int))), (8, .v (.int .i64 (s : Int)))], [], 19, []⟩ : St)) (fun s => s ≤ sA.length ∧ slices_IndexFunc_Entrant_l1 f (sA.drop s) s = some r) (fun s => sA.length - s) 0 ⟨Nat.zero_le _, hH⟩ ?_ ?_
  · exact Le.cut 0 0 rfl ⟨⟨_, rfl, rfl⟩, ⟨_, rfl, ren_fF f_r⟩, ⟨_, rfl, rfl⟩, ⟨_, rfl, rfl⟩, trivial⟩ (by repeat' (first | exact trivial | refine ⟨⟨_, rfl, rfl⟩, ?_⟩)) (andT (allC rfl (allC (known_fF f_r) (allC rfl (allC rfl allN)))) rfl)
  · rintro k1 ⟨hk, hH⟩
    replace hH : slices_IndexFunc_Entrant_l1 f (sA.drop k1) k1 = some r := hH
    show AW _ _ _ (⟨[(0, .s (List.map encEntrant sA)), (1, .f f_f f_c), (7, .v (.int .i64 (sA.length : Int))), (8, .v (.int .i64 (k1 : Int)))], [], 19, []⟩ : St)
    refine AW.boundM (t := 0) (l := sA) rfl (fun hb5 => ?_)
    cases hd4 : sA.drop k1 with
    | nil =>
      rw [hd4] at hH
      rw [slices_IndexFunc_Entrant_l1] at hH
      have hlt6 := drop_ge hd4
      refine AW.seq ?_
      refine AW.region ?_
      refine AO.pure T rfl rfl rfl ?_
      refine AO.nil ?_
      refine AW.seq ?_
      refine AW.condF' (b := decide ((k1 : Int) < (sA.length : Int))) rfl (rngF hlt6) ?_
      refine AW.exit ?_
      refine AW.seq ?_
      refine AW.region ?_
      refine AO.pure T rfl rfl rfl ?_
      refine AO.nil ?_
      refine AW.ret ?_
      cases someE hH
      exact ⟨trivial, _, [], rfl, .c (.c .v), by decide⟩
    | cons y2 ys3 =>
      rw [hd4] at hH
      rw [slices_IndexFunc_Entrant_l1] at hH
      have hlt6 := drop_lt hd4
      refine AW.seq ?_
      refine AW.region ?_
      refine AO.pure T rfl rfl rfl ?_
      refine AO.nil ?_
      refine AW.seq ?_
      refine AW.condT' (b := decide ((k1 : Int) < (sA.length : Int))) rfl (rngT hlt6) ?_
      refine AW.skip ?_
      refine AW.seq ?_
      refine AW.block ?_
      refine AW.seq ?_
      refine AW.region ?_
      refine AO.pure T rfl rfl rfl ?_
      refine AO.pure T rfl rfl rfl ?_
      refine AO.nil ?_
      refine AW.seq ?_
      obtain ⟨x12, hx13, hH⟩ := bindE hH
      refine AW.region ?_
      refine AO.pure T rfl rfl rfl ?_
      refine AO.pure T rfl rfl rfl ?_
      refine AO.pure T rfl rfl rfl ?_
      refine AO.val rfl rfl (ix_map_ok T rfl rfl rfl rfl rfl (getI_drop hd4) rfl) ?_
      refine AO.pure T (d := .g [.v (.int .i64 y2.skater), .v (.int .i64 y2.rank)]) rfl rfl rfl ?_
      refine AO.val rfl rfl (callV_ok rfl rfl rfl (andT rfl (free_cfree f_r)) (f_h _ _ (hx13)) rfl) ?_
      refine AO.nil ?_
      refine AW.cond (b := x12) rfl (fun hc => ?_) (fun hc => ?_)
      · replace hH := condT hc hH
        refine AW.seq ?_
        refine AW.region ?_
        refine AO.pure T rfl rfl rfl ?_
        refine AO.pure T rfl rfl rfl ?_
        refine AO.nil ?_
        refine AW.ret ?_
        cases someE hH
        exact ⟨trivial, _, [], rfl, .c (.c .v), by decide⟩
      · replace hH := condF hc hH
        refine AW.skip ?_
        refine AW.region ?_
        refine AO.val rfl rfl (ar_ok rfl rfl rfl rfl (inI_succ hlt6 hb5)) ?_
        refine AO.pure T rfl rfl rfl ?_
        refine AO.nil ?_
        refine ⟨k1 + 1, ⟨Nat.succ_le_of_lt hlt6, (by rw [drop_succ_of hd4]; exact hH)⟩, (by have := hlt6; dsimp only; omega), ?_⟩
        exact Le.cut 0 0 rfl ⟨⟨_, rfl, rfl⟩, ⟨_, rfl, ren_fF f_r⟩, ⟨_, rfl, rfl⟩, ⟨_, rfl, rfl⟩, trivial⟩ (by repeat' (first | exact trivial | refine ⟨⟨_, rfl, rfl⟩, ?_⟩)) (andT (allC rfl (allC (known_fF f_r) (allC rfl (allC rfl allN)))) rfl)

def slices_ContainsFunc_Entrant_p (sA : List Entrant) (f : Entrant → Option Bool) : Option Bool :=
  (slices_IndexFunc_Entrant_p sA f).bind fun x1 =>
  some (decide (x1 ≥ 0))
theorem slices_ContainsFunc_Entrant_ok (sA : List Entrant) (f_f : Nat) (f_c : List D) (f_k : f_c.all D.capOk = true) (f : Entrant → Option Bool) (f_h : ∀ (a0 : Entrant) (q : Bool), f a0 = some q → SpecR Tryz.prog f_f ([.g (encEntrant a0)] ++ f_c) (.v (.bool q))) (r : Bool) (hH : slices_ContainsFunc_Entrant_p sA f = some r) : SpecR Tryz.prog 61 [.s (List.map encEntrant sA), .f f_f f_c] (.v (.bool r)) := by
  have f_r := cap_cfree f_k
  refine fn_ok T Tryz.func61 rfl (by decide) rfl ?_
  refine AW.seq ?_
  refine AW.region ?_
  refine AO.pure T rfl rfl rfl ?_
  refine AO.nil ?_
  refine AW.seq ?_
  obtain ⟨x1, hx2, hH⟩ := bindE hH
  refine AW.region ?_
  refine AO.pure T rfl rfl rfl ?_
  refine AO.pure T rfl rfl rfl ?_
  refine AO.val rfl rfl (callV_ok rfl rfl rfl (andT (allC rfl (allC f_r allN)) rfl) (slices_IndexFunc_Entrant_ok _ f_f f_c f_k f f_h _ (hx2)) rfl) ?_
  refine AO.pure T rfl rfl rfl ?_
  refine AO.pure T rfl rfl rfl ?_
  refine AO.nil ?_
  refine AW.ret ?_
  cases someE hH
  exact ⟨trivial, _, [], rfl, .c (.c .v), by decide⟩

def impl_isThere_c1_p (x : Entrant) (a : Int) : Option Bool :=
  some (x.skater == a)
theorem impl_isThere_c1_ok (x : Entrant) (a : Int) (r : Bool) (hH : impl_isThere_c1_p x a = some r) : SpecR Tryz.prog 62 [.g (encEntrant x), .q [.v (.int .i64 a)]] (.v (.bool r)) := by
  refine fn_ok T Tryz.func62 rfl (by decide) rfl ?_
  refine AW.seq ?_
  refine AW.region ?_
  refine AO.step rfl (box_ok T rfl 1 rfl rfl rfl rfl) ?_
  refine AO.pure T rfl rfl rfl ?_
  refine AO.nil ?_
  refine AW.seq ?_
  refine AW.region ?_
  refine AO.pure T rfl rfl rfl ?_
  refine AO.pure T rfl rfl rfl ?_
  refine AO.pure T rfl rfl rfl ?_
  refine AO.pure T rfl rfl rfl ?_
  refine AO.pure T rfl rfl rfl ?_
  refine AO.nil ?_
  refine AW.ret ?_
  cases someE hH
  exact ⟨trivial, _, [], rfl, .c (.c .v), by decide⟩

def impl_isThere_p (e : Event) (skater : Int) : Option Bool :=
  (slices_ContainsFunc_Entrant_p e.entrants (fun a0 => impl_isThere_c1_p a0 skater)).bind fun x1 =>
  (opt x1 default (slices_Contains_int_p e.gone skater)).bind fun x3 =>
  some (x1 && (!x3))
theorem impl_isThere_ok (e : Event) (skater : Int) (r : Bool) (hH : impl_isThere_p e skater = some r) : SpecR Tryz.prog 40 [.g (encEvent e), .v (.int .i64 skater)] (.v (.bool r)) := by
  refine fn_ok T Tryz.func40 rfl (by decide) rfl ?_
  refine AW.seq ?_
  refine AW.region ?_
  refine AO.step rfl (box_ok T rfl 1 rfl rfl rfl rfl) ?_
  refine AO.step rfl (box_ok T rfl 2 rfl rfl rfl rfl) ?_
  refine AO.pure T rfl rfl rfl ?_
  refine AO.nil ?_
  refine AW.seq ?_
  obtain ⟨x1, hx2, hH⟩ := bindE hH
  obtain ⟨x3, hx4, hH⟩ := bindE hH
  refine AW.region ?_
  refine AO.pure T rfl rfl rfl ?_
  refine AO.pure T rfl rfl rfl ?_
  refine AO.pure T rfl rfl rfl ?_
  refine AO.val rfl rfl (callLV_ok rfl rfl rfl (es := [.s (List.map encEntrant e.entrants), .f 62 [.q [.v (.int .i64 skater)]]]) ⟨.free rfl, lend_f (LendL.cons (Lend.boxF rfl rfl) LendL.nil), trivial⟩ (slices_ContainsFunc_Entrant_ok _ 62 [.q [.v (.int .i64 skater)]] rfl (fun a0 => impl_isThere_c1_p a0 skater) (fun a0 q h => impl_isThere_c1_ok a0 skater q h) _ (hx2)) (zfree_v _) rfl) ?_
  refine AO.pure T rfl rfl rfl ?_
  refine AO.pureG T [] rfl trivial rfl rfl ?_
  refine AO.pureG T [10] rfl ⟨fun h => h, trivial⟩ rfl rfl ?_
  refine AO.pureG T [] rfl trivial rfl rfl ?_
  refine AO.guard [11, 12] rfl ⟨fun h => h, fun h => h, trivial⟩ (fun hg => callV_ok rfl rfl rfl rfl (slices_Contains_int_ok _ _ _ (optT hx4 hg)) rfl) rfl ?_
  refine AO.pureG T [13] rfl ⟨fun h => h, trivial⟩ rfl rfl ?_
  refine AO.val rfl rfl (pick_and rfl rfl rfl rfl) ?_
  refine AO.pure T rfl rfl rfl ?_
  refine AO.nil ?_
  refine AW.ret ?_
  cases someE hH
  exact ⟨trivial, _, [], rfl, .c (.c .v), by decide⟩

def impl_copyInts_p (l : List Int) : Option (List Int) :=
  (need (fitsB 8 l.length)).bind fun u1 =>
  some l
theorem impl_copyInts_ok (l : List Int) (r : (List Int)) (hH : impl_copyInts_p l = some r) : SpecR Tryz.prog 57 [.s (List.map encInt l)] (.w 1 (r.map encInt)) := by
  refine fn_ok T Tryz.func57 rfl (by decide) rfl ?_
  refine AW.seq ?_
  refine AW.region ?_
  refine AO.pure T rfl rfl rfl ?_
  refine AO.nil ?_
  refine AW.seq ?_
  obtain ⟨u1, hx2, hH⟩ := bindE hH
  refine AW.region ?_
  refine AO.step rfl (mk0_ok T rfl rfl rfl rfl) ?_
  refine AO.pure T rfl rfl rfl ?_
  refine AO.step rfl (app_ws_map T rfl 1 rfl rfl rfl rfl rfl (by decide) (by decide) rfl rfl (fun _ => rfl) (needT (hx2)) rfl rfl) ?_
  refine AO.pure T rfl rfl rfl ?_
  refine AO.nil ?_
  refine AW.ret ?_
  cases someE hH
  exact ⟨trivial, _, [1], rfl, .c (.c (.rowR rfl)), by decide⟩

def slices_Sort_int_p (x : List Int) : Option (List Int) := (need (Nat.blt x.length 4611686018427387904)).bind fun _ => some (sortI x)
theorem slices_Sort_int_ok (x : List Int) (r : List Int) (hH : slices_Sort_int_p x = some r) : SpecM Tryz.prog 41 [.w 1 (x.map encInt)] [.w 1 (r.map encInt)] (.t []) := by
  obtain ⟨u, hu, hr⟩ := bindE hH
  cases someE hr
  exact spec_sortI ⟨_, Tryz.func41, rfl, by decide⟩ Tryz.slices_Sort_int Tryz.slices_Sort_int_none x (Nat.le_of_ble_eq_true (needT hu))

def impl_sortedInts_p (l : List Int) : Option (List Int) :=
  (impl_copyInts_p l).bind fun x1 =>
  (slices_Sort_int_p x1).bind fun x3 =>
  some x3
theorem impl_sortedInts_ok (l : List Int) (r : (List Int)) (hH : impl_sortedInts_p l = some r) : SpecR Tryz.prog 117 [.s (List.map encInt l)] (.w 1 (r.map encInt)) := by
  refine fn_ok T Tryz.func117 rfl (by decide) rfl ?_
  refine AW.seq ?_
  refine AW.region ?_
  refine AO.pure T rfl rfl rfl ?_
  refine AO.nil ?_
  refine AW.seq ?_
  obtain ⟨x1, hx2, hH⟩ := bindE hH
  refine AW.region ?_
  refine AO.pure T rfl rfl rfl ?_
  refine AO.step rfl (call_ok rfl 1 rfl rfl rfl (impl_copyInts_ok _ _ (hx2)) rfl rfl rfl) ?_
  refine AO.pure T rfl rfl rfl ?_
  refine AO.nil ?_
  refine AW.seq ?_
  obtain ⟨x3, hx4, hH⟩ := bindE hH
  refine AW.region ?_
  refine AO.pure T rfl rfl rfl ?_
  refine AO.step rfl (callM_ok rfl 2 rfl rfl (es := [.w 1 (x1.map encInt)]) (outs := [.w 1 (x3.map encInt)]) (ids := [1]) (by exact expLG_cons (.c (.rowR rfl)) (expLG_nil)) (by decide) (.inl (by rfl)) (by rfl) (slices_Sort_int_ok _ _ (hx4)) rfl (by rfl) rfl) ?_
  refine AO.nil ?_
  refine AW.seq ?_
  refine AW.region ?_
  refine AO.pure T rfl rfl rfl ?_
  refine AO.pure T rfl rfl rfl ?_
  refine AO.nil ?_
  refine AW.ret ?_
  cases someE hH
  exact ⟨trivial, _, [1], rfl, .c (.c (.rowR rfl)), by decide⟩

def slices_Equal_int_l1 (s2A : List Int) : List Int → Nat → Option Bool
  | [], k1 =>
    some true
  | y2 :: ys3, k1 =>
    (getI s2A (k1 : Int)).bind fun x12 =>
    cond (y2 != x12)
      (some false)
      (slices_Equal_int_l1 s2A ys3 (k1 + 1))
def slices_Equal_int_p (s1A : List Int) (s2A : List Int) : Option Bool :=
  cond ((s1A.length : Int) != (s2A.length : Int))
    (some false)
    (slices_Equal_int_l1 s2A s1A 0)
theorem slices_Equal_int_ok (s1A : List Int) (s2A : List Int) (r : Bool) (hH : slices_Equal_int_p s1A s2A = some r) : SpecR Tryz.prog 116 [.s (List.map encInt s1A), .s (List.map encInt s2A)] (.v (.bool r)) := by
  refine fn_ok T Tryz.func116 rfl (by decide) rfl ?_
  refine AW.seq ?_
  refine AW.region ?_
  refine AO.pure T rfl rfl rfl ?_
  refine AO.nil ?_
  refine AW.seq ?_
  refine AW.seq ?_
  refine AW.region ?_
  refine AO.pure T rfl rfl rfl ?_
  refine AO.val rfl rfl (len_map_ok T rfl rfl rfl) ?_
  refine AO.pure T rfl rfl rfl ?_
  refine AO.val rfl rfl (len_map_ok T rfl rfl rfl) ?_
  refine AO.pure T rfl rfl rfl ?_
  refine AO.nil ?_
  refine AW.cond (b := ((s1A.length : Int) != (s2A.length : Int))) rfl (fun hc => ?_) (fun hc => ?_)
  · replace hH := condT hc hH
    refine AW.seq ?_
    refine AW.region ?_
    refine AO.pure T rfl rfl rfl ?_
    refine AO.nil ?_
    refine AW.ret ?_
    cases someE hH
    exact ⟨trivial, _, [], rfl, .c (.c .v), by decide⟩
  · replace hH := condF hc hH
    refine AW.skip ?_
    refine AW.seq ?_
    refine AW.seq ?_
    refine AW.region ?_
    refine AO.pure T rfl rfl rfl ?_
    refine AO.val rfl rfl (len_map_ok T rfl rfl rfl) ?_
    refine AO.pure T rfl rfl rfl ?_
    refine AO.nil ?_
    refine AW.block ?_
    refine AW.loopS (fun s : Nat => (⟨[(0, .s (List.map encInt s1A)), (1, .s (List.map encInt s2A)), (12, .v (.int .i64 (s1A.length : Int))), (13, .v (.int .i64 (s : Int)))], [], 26, []⟩ : St)) (fun s => s ≤ s1A.length ∧ slices_Equal_int_l1 s2A (s1A.drop s) s = some r) (fun s => s1A.length - s) 0 ⟨Nat.zero_le _, hH⟩ ?_ ?_
    · exact Le.cut 0 0 rfl (by repeat' (first | exact trivial | refine ⟨⟨_, rfl, rfl⟩, ?_⟩)) (by repeat' (first | exact trivial | refine ⟨⟨_, rfl, rfl⟩, ?_⟩)) rfl
    · rintro k1 ⟨hk, hH⟩
      replace hH : slices_Equal_int_l1 s2A (s1A.drop k1) k1 = some r := hH
      show AW _ _ _ (⟨[(0, .s (List.map encInt s1A)), (1, .s (List.map encInt s2A)), (12, .v (.int .i64 (s1A.length : Int))), (13, .v (.int .i64 (k1 : Int)))], [], 26, []⟩ : St)
      refine AW.boundM (t := 0) (l := s1A) rfl (fun hb5 => ?_)
      cases hd4 : s1A.drop k1 with
      | nil =>
        rw [hd4] at hH
        rw [slices_Equal_int_l1] at hH
        have hlt6 := drop_ge hd4
        refine AW.seq ?_
        refine AW.region ?_
        refine AO.pure T rfl rfl rfl ?_
        refine AO.nil ?_
        refine AW.seq ?_
        refine AW.condF' (b := decide ((k1 : Int) < (s1A.length : Int))) rfl (rngF hlt6) ?_
        refine AW.exit ?_
        refine AW.seq ?_
        refine AW.region ?_
        refine AO.pure T rfl rfl rfl ?_
        refine AO.nil ?_
        refine AW.ret ?_
        cases someE hH
        exact ⟨trivial, _, [], rfl, .c (.c .v), by decide⟩
      | cons y2 ys3 =>
        rw [hd4] at hH
        rw [slices_Equal_int_l1] at hH
        have hlt6 := drop_lt hd4
        refine AW.seq ?_
        refine AW.region ?_
        refine AO.pure T rfl rfl rfl ?_
        refine AO.nil ?_
        refine AW.seq ?_
        refine AW.condT' (b := decide ((k1 : Int) < (s1A.length : Int))) rfl (rngT hlt6) ?_
        refine AW.skip ?_
        refine AW.seq ?_
        refine AW.block ?_
        refine AW.seq ?_
        refine AW.region ?_
        refine AO.pure T rfl rfl rfl ?_
        refine AO.pure T rfl rfl rfl ?_
        refine AO.nil ?_
        refine AW.seq ?_
        obtain ⟨x12, hx13, hH⟩ := bindE hH
        refine AW.drawn 8 1 [] mix (by kernel_rfl) rfl ?_
        refine AD.pure T rfl rfl rfl ?_
        refine AD.pure T rfl rfl rfl ?_
        refine AD.val rfl rfl (ix_map_ok T rfl rfl rfl rfl rfl (getI_drop hd4) rfl) ?_
        refine AD.pure T rfl rfl rfl ?_
        refine AD.pure T rfl rfl rfl ?_
        refine AD.pure T rfl rfl rfl ?_
        refine AD.val rfl rfl (ix_map_ok T rfl rfl rfl rfl rfl (hx13) rfl) ?_
        refine AD.pure T rfl rfl rfl ?_
        refine AD.nil ?_
        refine AO.pure T rfl rfl rfl ?_
        refine AO.nil ?_
        refine AW.cond (b := (y2 != x12)) rfl (fun hc => ?_) (fun hc => ?_)
        · replace hH := condT hc hH
          refine AW.seq ?_
          refine AW.region ?_
          refine AO.pure T rfl rfl rfl ?_
          refine AO.nil ?_
          refine AW.ret ?_
          cases someE hH
          exact ⟨trivial, _, [], rfl, .c (.c .v), by decide⟩
        · replace hH := condF hc hH
          refine AW.skip ?_
          refine AW.region ?_
          refine AO.val rfl rfl (ar_ok rfl rfl rfl rfl (inI_succ hlt6 hb5)) ?_
          refine AO.pure T rfl rfl rfl ?_
          refine AO.nil ?_
          refine ⟨k1 + 1, ⟨Nat.succ_le_of_lt hlt6, (by rw [drop_succ_of hd4]; exact hH)⟩, (by have := hlt6; dsimp only; omega), ?_⟩
          exact Le.cut 0 0 rfl (by repeat' (first | exact trivial | refine ⟨⟨_, rfl, rfl⟩, ?_⟩)) (by repeat' (first | exact trivial | refine ⟨⟨_, rfl, rfl⟩, ?_⟩)) rfl

def impl_isScored_p (e : Event) (skater : Int) : Option Bool :=
  (impl_scoredIn_p e skater).bind fun x1 =>
  some (decide (x1 > e.segment))
theorem impl_isScored_ok (e : Event) (skater : Int) (r : Bool) (hH : impl_isScored_p e skater = some r) : SpecR Tryz.prog 42 [.g (encEvent e), .v (.int .i64 skater)] (.v (.bool r)) := by
  refine fn_ok T Tryz.func42 rfl (by decide) rfl ?_
  refine AW.seq ?_
  refine AW.region ?_
  refine AO.step rfl (box_ok T rfl 1 rfl rfl rfl rfl) ?_
  refine AO.pure T rfl rfl rfl ?_
  refine AO.nil ?_
  refine AW.seq ?_
  obtain ⟨x1, hx2, hH⟩ := bindE hH
  refine AW.drawn 5 2 [] mix (by kernel_rfl) rfl ?_
  refine AD.pure T (d := .g [.v (.int .i64 e.segments), .v (.int .i64 e.size), .v (.int .i64 e.key), .s (List.map encEntrant e.entrants), .s (List.map encInt e.gone), .v (.int .i64 e.segment), .s (List.map encInt e.order), .s (List.map encResult e.results)]) rfl rfl rfl ?_
  refine AD.pure T rfl rfl rfl ?_
  refine AD.val rfl rfl (callV_ok rfl rfl rfl rfl (impl_scoredIn_ok _ _ _ (hx2)) rfl) ?_
  refine AD.pure T rfl rfl rfl ?_
  refine AD.pure T rfl rfl rfl ?_
  refine AD.nil ?_
  refine AO.pure T rfl rfl rfl ?_
  refine AO.pure T rfl rfl rfl ?_
  refine AO.nil ?_
  refine AW.ret ?_
  cases someE hH
  exact ⟨trivial, _, [], rfl, .c (.c .v), by decide⟩

def impl_isEventOrder_l2 (e : Event) (v34 : Int) : List Int → Nat → Option Bool
  | [], k42 =>
    some true
  | y43 :: ys44, k42 =>
    (impl_isScored_p e y43).bind fun x53 =>
    cond (!(x53 == decide ((k42 : Int) < v34)))
      (some false)
      (impl_isEventOrder_l2 e v34 ys44 (k42 + 1))
def impl_isEventOrder_l1 (e : Event) : List Entrant → Nat → List Int → Int → Option Bool
  | [], k1, v33, v34 =>
    cond ((e.order.length : Int) == 0)
      (some (v34 == 0))
      ((opt (!((e.segment == e.segments) || (v34 == (e.order.length : Int)))) default (impl_sortedInts_p e.order)).bind fun x36 =>
      (opt (!((e.segment == e.segments) || (v34 == (e.order.length : Int)))) default (impl_sortedInts_p v33)).bind fun x38 =>
      (opt (!((e.segment == e.segments) || (v34 == (e.order.length : Int)))) default (slices_Equal_int_p x36 x38)).bind fun x40 =>
      cond (((e.segment == e.segments) || (v34 == (e.order.length : Int))) || (!x40))
        (some false)
        (impl_isEventOrder_l2 e v34 e.order 0))
  | y2 :: ys3, k1, v33, v34 =>
    (impl_scoredIn_p e y2.skater).bind fun x55 =>
    (opt (!(decide (x55 > (w64 (e.segment + 1))))) default (impl_isThere_p e y2.skater)).bind fun x57 =>
    cond (decide (x55 > (w64 (e.segment + 1))) || (x57 && decide (x55 < e.segment)))
      (some false)
      (cond (decide (x55 > e.segment))
        ((opt (!(decide (x55 > e.segment))) default (impl_isThere_p e y2.skater)).bind fun x59 =>
        cond (decide (x55 > e.segment) || x59)
          ((need (fitsB 8 (v33.length + ([y2.skater]).length))).bind fun u61 =>
          impl_isEventOrder_l1 e ys3 (k1 + 1) (v33 ++ [y2.skater]) (w64 (v34 + 1)))
          (impl_isEventOrder_l1 e ys3 (k1 + 1) v33 (w64 (v34 + 1))))
        ((opt (!(decide (x55 > e.segment))) default (impl_isThere_p e y2.skater)).bind fun x63 =>
        cond (decide (x55 > e.segment) || x63)
          ((need (fitsB 8 (v33.length + ([y2.skater]).length))).bind fun u65 =>
          impl_isEventOrder_l1 e ys3 (k1 + 1) (v33 ++ [y2.skater]) v34)
          (impl_isEventOrder_l1 e ys3 (k1 + 1) v33 v34)))
def impl_isEventOrder_p (e : Event) : Option Bool :=
  impl_isEventOrder_l1 e e.entrants 0 [] 0
theorem impl_isEventOrder_ok (e : Event) (r : Bool) (hH : impl_isEventOrder_p e = some r) : SpecR Tryz.prog 78 [.g (encEvent e)] (.v (.bool r)) := by
  refine fn_ok T Tryz.func78 rfl (by decide) rfl ?_
  refine AW.seq ?_
  refine AW.region ?_
  refine AO.step rfl (box_ok T rfl 1 rfl rfl rfl rfl) ?_
  refine AO.pure T rfl rfl rfl ?_
  refine AO.nil ?_
  refine AW.seq ?_
  refine AW.region ?_
  refine AO.step rfl (mk0_ok T rfl rfl rfl rfl) ?_
  refine AO.pure T rfl rfl rfl ?_
  refine AO.pure T rfl rfl rfl ?_
  refine AO.nil ?_
  refine AW.seq ?_
  refine AW.seq ?_
  refine AW.region ?_
  refine AO.pure T rfl rfl rfl ?_
  refine AO.pure T rfl rfl rfl ?_
  refine AO.val rfl rfl (len_map_ok T rfl rfl rfl) ?_
  refine AO.pure T rfl rfl rfl ?_
  refine AO.nil ?_
  refine AW.block ?_
  refine AW.loopS (fun s : Nat × (List Int) × Int => (⟨[(1, .p 1 0), (3, .R 9), (4, .v (.int .i64 s.2.2)), (12, .s (List.map encEntrant e.entrants)), (13, .v (.int .i64 (e.entrants.length : Int))), (14, .v (.int .i64 (s.1 : Int)))], [(1, .box [.v (.int .i64 e.segments), .v (.int .i64 e.size), .v (.int .i64 e.key), .s (List.map encEntrant e.entrants), .s (List.map encInt e.gone), .v (.int .i64 e.segment), .s (List.map encInt e.order), .s (List.map encResult e.results)]), (9, .row 1 (List.map encInt s.2.1))], 104, []⟩ : St)) (fun s => s.1 ≤ e.entrants.length ∧ impl_isEventOrder_l1 e (e.entrants.drop s.1) s.1 s.2.1 s.2.2 = some r) (fun s => e.entrants.length - s.1) (0, [], 0) ⟨Nat.zero_le _, hH⟩ ?_ ?_
  · refine Le.trans (Le.void 3 9 1 rfl rfl) ?_
    exact Le.cut 0 0 rfl (by repeat' (first | exact trivial | refine ⟨⟨_, rfl, rfl⟩, ?_⟩)) (by repeat' (first | exact trivial | refine ⟨⟨_, rfl, rfl⟩, ?_⟩)) rfl
  · rintro ⟨k1, v33, v34⟩ ⟨hk, hH⟩
    replace hH : impl_isEventOrder_l1 e (e.entrants.drop k1) k1 v33 v34 = some r := hH
    show AW _ _ _ (⟨[(1, .p 1 0), (3, .R 9), (4, .v (.int .i64 v34)), (12, .s (List.map encEntrant e.entrants)), (13, .v (.int .i64 (e.entrants.length : Int))), (14, .v (.int .i64 (k1 : Int)))], [(1, .box [.v (.int .i64 e.segments), .v (.int .i64 e.size), .v (.int .i64 e.key), .s (List.map encEntrant e.entrants), .s (List.map encInt e.gone), .v (.int .i64 e.segment), .s (List.map encInt e.order), .s (List.map encResult e.results)]), (9, .row 1 (List.map encInt v33))], 104, []⟩ : St)
    refine AW.boundM (t := 12) (l := e.entrants) rfl (fun hb5 => ?_)
    cases hd4 : e.entrants.drop k1 with
    | nil =>
      rw [hd4] at hH
      rw [impl_isEventOrder_l1] at hH
      have hlt6 := drop_ge hd4
      refine AW.seq ?_
      refine AW.region ?_
      refine AO.pure T rfl rfl rfl ?_
      refine AO.nil ?_
      refine AW.seq ?_
      refine AW.condF' (b := decide ((k1 : Int) < (e.entrants.length : Int))) rfl (rngF hlt6) ?_
      refine AW.exit ?_
      refine AW.seq ?_
      refine AW.seq ?_
      refine AW.region ?_
      refine AO.pure T rfl rfl rfl ?_
      refine AO.pure T rfl rfl rfl ?_
      refine AO.val rfl rfl (len_map_ok T rfl rfl rfl) ?_
      refine AO.pure T rfl rfl rfl ?_
      refine AO.nil ?_
      refine AW.cond (b := ((e.order.length : Int) == 0)) rfl (fun hc => ?_) (fun hc => ?_)
      · replace hH := condT hc hH
        refine AW.seq ?_
        refine AW.region ?_
        refine AO.pure T rfl rfl rfl ?_
        refine AO.pure T rfl rfl rfl ?_
        refine AO.pure T rfl rfl rfl ?_
        refine AO.nil ?_
        refine AW.ret ?_
        cases someE hH
        exact ⟨trivial, _, [], rfl, .c (.c .v), by decide⟩
      · replace hH := condF hc hH
        refine AW.skip ?_
        refine AW.seq ?_
        refine AW.seq ?_
        obtain ⟨x36, hx37, hH⟩ := bindE hH
        obtain ⟨x38, hx39, hH⟩ := bindE hH
        obtain ⟨x40, hx41, hH⟩ := bindE hH
        refine AW.region ?_
        refine AO.pure T rfl rfl rfl ?_
        refine AO.pure T rfl rfl rfl ?_
        refine AO.pure T rfl rfl rfl ?_
        refine AO.pure T rfl rfl rfl ?_
        refine AO.pure T rfl rfl rfl ?_
        refine AO.pure T rfl rfl rfl ?_
        refine AO.pureG T [] rfl trivial rfl rfl ?_
        refine AO.pureG T [] rfl trivial rfl rfl ?_
        refine AO.pureG T [74] rfl ⟨fun h => h, trivial⟩ rfl rfl ?_
        refine AO.guard [75] rfl ⟨fun h => h, trivial⟩ (fun hg => len_map_ok T rfl rfl rfl) rfl ?_
        refine AO.pureG T [73, 76] rfl ⟨fun h => h, fun h => h, trivial⟩ rfl rfl ?_
        refine AO.val rfl rfl (pick_or rfl rfl rfl rfl) ?_
        refine AO.pure T rfl rfl rfl ?_
        refine AO.pureG T [] rfl trivial rfl rfl ?_
        refine AO.pureG T [80] rfl ⟨fun h => h, trivial⟩ rfl rfl ?_
        refine AO.guard [81] rfl ⟨fun h => h, trivial⟩ (fun hg => callF_ok rfl rfl rfl rfl (impl_sortedInts_ok _ _ (optT hx37 hg)) (.c (.c (.map fun y => .vs rfl)))) rfl ?_
        refine AO.pureG T [] rfl trivial rfl rfl ?_
        refine AO.guard [83] rfl ⟨fun h => h, trivial⟩ (fun hg => callLF_ok rfl rfl rfl (es := [.s (List.map encInt v33)]) ⟨(.rowR rfl (.map fun y => .vs rfl)), trivial⟩ (impl_sortedInts_ok _ _ (optT hx39 hg)) (zfree_map (fun y => (.cons (zfree_v _) .nil))) (.c (.c (.map fun y => .vs rfl)))) rfl ?_
        refine AO.guard [82, 84] rfl ⟨fun h => h, fun h => h, trivial⟩ (fun hg => callV_ok rfl rfl rfl rfl (slices_Equal_int_ok _ _ _ (optT hx41 hg)) rfl) rfl ?_
        refine AO.pureG T [85] rfl ⟨fun h => h, trivial⟩ rfl rfl ?_
        refine AO.val rfl rfl (pick_or rfl rfl rfl rfl) ?_
        refine AO.nil ?_
        refine AW.le (Le.cut 0 0 (σ' := (⟨[(1, .p 1 0), (4, .v (.int .i64 v34)), (87, .v (.bool (((e.segment == e.segments) || (v34 == (e.order.length : Int))) || (!x40))))], [(1, .box [.v (.int .i64 e.segments), .v (.int .i64 e.size), .v (.int .i64 e.key), .s (List.map encEntrant e.entrants), .s (List.map encInt e.gone), .v (.int .i64 e.segment), .s (List.map encInt e.order), .s (List.map encResult e.results)])], 104, []⟩ : St)) rfl (by repeat' (first | exact trivial | refine ⟨⟨_, rfl, rfl⟩, ?_⟩)) (by repeat' (first | exact trivial | refine ⟨⟨_, rfl, rfl⟩, ?_⟩)) rfl) ?_
        refine AW.cond (b := (((e.segment == e.segments) || (v34 == (e.order.length : Int))) || (!x40))) rfl (fun hc => ?_) (fun hc => ?_)
        · replace hH := condT hc hH
          refine AW.seq ?_
          refine AW.region ?_
          refine AO.pure T rfl rfl rfl ?_
          refine AO.nil ?_
          refine AW.ret ?_
          cases someE hH
          exact ⟨trivial, _, [], rfl, .c (.c .v), by decide⟩
        · replace hH := condF hc hH
          refine AW.skip ?_
          refine AW.seq ?_
          refine AW.seq ?_
          refine AW.region ?_
          refine AO.pure T rfl rfl rfl ?_
          refine AO.pure T rfl rfl rfl ?_
          refine AO.val rfl rfl (len_map_ok T rfl rfl rfl) ?_
          refine AO.pure T rfl rfl rfl ?_
          refine AO.nil ?_
          refine AW.block ?_
          refine AW.loopS (fun s : Nat => (⟨[(1, .p 1 0), (4, .v (.int .i64 v34)), (89, .s (List.map encInt e.order)), (90, .v (.int .i64 (e.order.length : Int))), (91, .v (.int .i64 (s : Int)))], [(1, .box [.v (.int .i64 e.segments), .v (.int .i64 e.size), .v (.int .i64 e.key), .s (List.map encEntrant e.entrants), .s (List.map encInt e.gone), .v (.int .i64 e.segment), .s (List.map encInt e.order), .s (List.map encResult e.results)])], 104, []⟩ : St)) (fun s => s ≤ e.order.length ∧ impl_isEventOrder_l2 e v34 (e.order.drop s) s = some r) (fun s => e.order.length - s) 0 ⟨Nat.zero_le _, hH⟩ ?_ ?_
          · exact Le.cut 0 0 rfl (by repeat' (first | exact trivial | refine ⟨⟨_, rfl, rfl⟩, ?_⟩)) (by repeat' (first | exact trivial | refine ⟨⟨_, rfl, rfl⟩, ?_⟩)) rfl
          · rintro k42 ⟨hk, hH⟩
            replace hH : impl_isEventOrder_l2 e v34 (e.order.drop k42) k42 = some r := hH
            show AW _ _ _ (⟨[(1, .p 1 0), (4, .v (.int .i64 v34)), (89, .s (List.map encInt e.order)), (90, .v (.int .i64 (e.order.length : Int))), (91, .v (.int .i64 (k42 : Int)))], [(1, .box [.v (.int .i64 e.segments), .v (.int .i64 e.size), .v (.int .i64 e.key), .s (List.map encEntrant e.entrants), .s (List.map encInt e.gone), .v (.int .i64 e.segment), .s (List.map encInt e.order), .s (List.map encResult e.results)])], 104, []⟩ : St)
            refine AW.boundM (t := 89) (l := e.order) rfl (fun hb46 => ?_)
            cases hd45 : e.order.drop k42 with
            | nil =>
              rw [hd45] at hH
              rw [impl_isEventOrder_l2] at hH
              have hlt47 := drop_ge hd45
              refine AW.seq ?_
              refine AW.region ?_
              refine AO.pure T rfl rfl rfl ?_
              refine AO.nil ?_
              refine AW.seq ?_
              refine AW.condF' (b := decide ((k42 : Int) < (e.order.length : Int))) rfl (rngF hlt47) ?_
              refine AW.exit ?_
              refine AW.seq ?_
              refine AW.region ?_
              refine AO.pure T rfl rfl rfl ?_
              refine AO.nil ?_
              refine AW.ret ?_
              cases someE hH
              exact ⟨trivial, _, [], rfl, .c (.c .v), by decide⟩
            | cons y43 ys44 =>
              rw [hd45] at hH
              rw [impl_isEventOrder_l2] at hH
              have hlt47 := drop_lt hd45
              refine AW.seq ?_
              refine AW.region ?_
              refine AO.pure T rfl rfl rfl ?_
              refine AO.nil ?_
              refine AW.seq ?_
              refine AW.condT' (b := decide ((k42 : Int) < (e.order.length : Int))) rfl (rngT hlt47) ?_
              refine AW.skip ?_
              refine AW.seq ?_
              refine AW.block ?_
              refine AW.seq ?_
              refine AW.region ?_
              refine AO.pure T rfl rfl rfl ?_
              refine AO.val rfl rfl (ix_map_ok T rfl rfl rfl rfl rfl (getI_drop hd45) rfl) ?_
              refine AO.pure T rfl rfl rfl ?_
              refine AO.pure T rfl rfl rfl ?_
              refine AO.pure T rfl rfl rfl ?_
              refine AO.nil ?_
              refine AW.seq ?_
              obtain ⟨x53, hx54, hH⟩ := bindE hH
              refine AW.region ?_
              refine AO.pure T (d := .g [.v (.int .i64 e.segments), .v (.int .i64 e.size), .v (.int .i64 e.key), .s (List.map encEntrant e.entrants), .s (List.map encInt e.gone), .v (.int .i64 e.segment), .s (List.map encInt e.order), .s (List.map encResult e.results)]) rfl rfl rfl ?_
              refine AO.pure T rfl rfl rfl ?_
              refine AO.val rfl rfl (callV_ok rfl rfl rfl rfl (impl_isScored_ok _ _ _ (hx54)) rfl) ?_
              refine AO.pure T rfl rfl rfl ?_
              refine AO.pure T rfl rfl rfl ?_
              refine AO.pure T rfl rfl rfl ?_
              refine AO.pure T rfl rfl rfl ?_
              refine AO.nil ?_
              refine AW.cond (b := (!(x53 == decide ((k42 : Int) < v34)))) rfl (fun hc => ?_) (fun hc => ?_)
              · replace hH := condT hc hH
                refine AW.seq ?_
                refine AW.region ?_
                refine AO.pure T rfl rfl rfl ?_
                refine AO.nil ?_
                refine AW.ret ?_
                cases someE hH
                exact ⟨trivial, _, [], rfl, .c (.c .v), by decide⟩
              · replace hH := condF hc hH
                refine AW.skip ?_
                refine AW.region ?_
                refine AO.val rfl rfl (ar_ok rfl rfl rfl rfl (inI_succ hlt47 hb46)) ?_
                refine AO.pure T rfl rfl rfl ?_
                refine AO.nil ?_
                refine ⟨k42 + 1, ⟨Nat.succ_le_of_lt hlt47, (by rw [drop_succ_of hd45]; exact hH)⟩, (by have := hlt47; dsimp only; omega), ?_⟩
                exact Le.cut 0 0 rfl (by repeat' (first | exact trivial | refine ⟨⟨_, rfl, rfl⟩, ?_⟩)) (by repeat' (first | exact trivial | refine ⟨⟨_, rfl, rfl⟩, ?_⟩)) rfl
    | cons y2 ys3 =>
      rw [hd4] at hH
      rw [impl_isEventOrder_l1] at hH
      have hlt6 := drop_lt hd4
      refine AW.seq ?_
      refine AW.region ?_
      refine AO.pure T rfl rfl rfl ?_
      refine AO.nil ?_
      refine AW.seq ?_
      refine AW.condT' (b := decide ((k1 : Int) < (e.entrants.length : Int))) rfl (rngT hlt6) ?_
      refine AW.skip ?_
      refine AW.seq ?_
      refine AW.block ?_
      refine AW.seq ?_
      refine AW.region ?_
      refine AO.val rfl rfl (ix_map_ok T rfl rfl rfl rfl rfl (getI_drop hd4) rfl) ?_
      refine AO.pure T (d := .g [.v (.int .i64 y2.skater), .v (.int .i64 y2.rank)]) rfl rfl rfl ?_
      refine AO.step rfl (alloc_ok T rfl 12 rfl rfl rfl rfl rfl) ?_
      refine AO.step rfl (store_okE T rfl rfl rfl rfl rfl rfl rfl rfl rfl (ds' := [.v (.int .i64 y2.skater), .v (.int .i64 y2.rank)]) rfl) ?_
      refine AO.nil ?_
      refine AW.seq ?_
      obtain ⟨x55, hx56, hH⟩ := bindE hH
      refine AW.region ?_
      refine AO.pure T (d := .g [.v (.int .i64 e.segments), .v (.int .i64 e.size), .v (.int .i64 e.key), .s (List.map encEntrant e.entrants), .s (List.map encInt e.gone), .v (.int .i64 e.segment), .s (List.map encInt e.order), .s (List.map encResult e.results)]) rfl rfl rfl ?_
      refine AO.pure T rfl rfl rfl ?_
      refine AO.pure T rfl rfl rfl ?_
      refine AO.val rfl rfl (callV_ok rfl rfl rfl rfl (impl_scoredIn_ok _ _ _ (hx56)) rfl) ?_
      refine AO.pure T rfl rfl rfl ?_
      refine AO.nil ?_
      refine AW.seq ?_
      refine AW.seq ?_
      obtain ⟨x57, hx58, hH⟩ := bindE hH
      refine AW.region ?_
      refine AO.pure T rfl rfl rfl ?_
      refine AO.pure T rfl rfl rfl ?_
      refine AO.pure T rfl rfl rfl ?_
      refine AO.val rfl rfl (arw_ok rfl rfl rfl rfl) ?_
      refine AO.pure T rfl rfl rfl ?_
      refine AO.pure T rfl rfl rfl ?_
      refine AO.pureG T (d := .g [.v (.int .i64 e.segments), .v (.int .i64 e.size), .v (.int .i64 e.key), .s (List.map encEntrant e.entrants), .s (List.map encInt e.gone), .v (.int .i64 e.segment), .s (List.map encInt e.order), .s (List.map encResult e.results)]) [] rfl trivial rfl rfl ?_
      refine AO.pureG T [] rfl trivial rfl rfl ?_
      refine AO.pureG T [29] rfl ⟨fun h => h, trivial⟩ rfl rfl ?_
      refine AO.guard [28, 30] rfl ⟨fun h => h, fun h => h, trivial⟩ (fun hg => callV_ok rfl rfl rfl rfl (impl_isThere_ok _ _ _ (optT hx58 hg)) rfl) rfl ?_
      refine AO.pureG T [31] rfl ⟨fun h => h, trivial⟩ rfl rfl ?_
      refine AO.pureG T [] rfl trivial rfl rfl ?_
      refine AO.pureG T [] rfl trivial rfl rfl ?_
      refine AO.pureG T [34] rfl ⟨fun h => h, trivial⟩ rfl rfl ?_
      refine AO.pureG T [33, 35] rfl ⟨fun h => h, fun h => h, trivial⟩ rfl rfl ?_
      refine AO.guard [32] rfl ⟨fun h => h, trivial⟩ (fun hg => pick_and rfl rfl rfl (by rw [hg]; exact Bool.true_and _)) rfl ?_
      refine AO.val rfl rfl (pick_or rfl rfl rfl rfl) ?_
      refine AO.nil ?_
      refine AW.le (Le.cut 0 0 (σ' := (⟨[(1, .p 1 0), (3, .R 9), (4, .v (.int .i64 v34)), (6, .p 12 0), (7, .v (.int .i64 x55)), (12, .s (List.map encEntrant e.entrants)), (13, .v (.int .i64 (e.entrants.length : Int))), (14, .v (.int .i64 (k1 : Int))), (38, .v (.bool (decide (x55 > (w64 (e.segment + 1))) || (x57 && decide (x55 < e.segment)))))], [(1, .box [.v (.int .i64 e.segments), .v (.int .i64 e.size), .v (.int .i64 e.key), .s (List.map encEntrant e.entrants), .s (List.map encInt e.gone), .v (.int .i64 e.segment), .s (List.map encInt e.order), .s (List.map encResult e.results)]), (9, .row 1 (List.map encInt v33)), (12, .box [.v (.int .i64 y2.skater), .v (.int .i64 y2.rank)])], 104, []⟩ : St)) rfl (by repeat' (first | exact trivial | refine ⟨⟨_, rfl, rfl⟩, ?_⟩)) (by repeat' (first | exact trivial | refine ⟨⟨_, rfl, rfl⟩, ?_⟩)) rfl) ?_
      refine AW.cond (b := (decide (x55 > (w64 (e.segment + 1))) || (x57 && decide (x55 < e.segment)))) rfl (fun hc => ?_) (fun hc => ?_)
      · replace hH := condT hc hH
        refine AW.seq ?_
        refine AW.region ?_
        refine AO.pure T rfl rfl rfl ?_
        refine AO.nil ?_
        refine AW.ret ?_
        cases someE hH
        exact ⟨trivial, _, [], rfl, .c (.c .v), by decide⟩
      · replace hH := condF hc hH
        refine AW.skip ?_
        refine AW.seq ?_
        refine AW.seq ?_
        refine AW.region ?_
        refine AO.pure T rfl rfl rfl ?_
        refine AO.pure T rfl rfl rfl ?_
        refine AO.pure T rfl rfl rfl ?_
        refine AO.pure T rfl rfl rfl ?_
        refine AO.nil ?_
        refine AW.cond (b := decide (x55 > e.segment)) rfl (fun hc => ?_) (fun hc => ?_)
        · replace hH := condT hc hH
          refine AW.region ?_
          refine AO.pure T rfl rfl rfl ?_
          refine AO.val rfl rfl (arw_ok rfl rfl rfl rfl) ?_
          refine AO.pure T rfl rfl rfl ?_
          refine AO.nil ?_
          refine AW.seq ?_
          obtain ⟨x59, hx60, hH⟩ := bindE hH
          refine AW.region ?_
          refine AO.pure T rfl rfl rfl ?_
          refine AO.pure T rfl rfl rfl ?_
          refine AO.pure T rfl rfl rfl ?_
          refine AO.pure T rfl rfl rfl ?_
          refine AO.pure T rfl rfl rfl ?_
          refine AO.pureG T (d := .g [.v (.int .i64 e.segments), .v (.int .i64 e.size), .v (.int .i64 e.key), .s (List.map encEntrant e.entrants), .s (List.map encInt e.gone), .v (.int .i64 e.segment), .s (List.map encInt e.order), .s (List.map encResult e.results)]) [] rfl trivial rfl rfl ?_
          refine AO.pureG T [] rfl trivial rfl rfl ?_
          refine AO.pureG T [51] rfl ⟨fun h => h, trivial⟩ rfl rfl ?_
          refine AO.guard [50, 52] rfl ⟨fun h => h, fun h => h, trivial⟩ (fun hg => callV_ok rfl rfl rfl rfl (impl_isThere_ok _ _ _ (optT hx60 hg)) rfl) rfl ?_
          refine AO.val rfl rfl (pick_or rfl rfl rfl rfl) ?_
          refine AO.nil ?_
          refine AW.cond (b := (decide (x55 > e.segment) || x59)) rfl (fun hc => ?_) (fun hc => ?_)
          · replace hH := condT hc hH
            obtain ⟨u61, hx62, hH⟩ := bindE hH
            refine AW.region ?_
            refine AO.pure T rfl rfl rfl ?_
            refine AO.pure T rfl rfl rfl ?_
            refine AO.pure T rfl rfl rfl ?_
            refine AO.step rfl (mk_map_ok T rfl 13 rfl rfl rfl rfl rfl (f := encInt) (l := [y2.skater]) rfl rfl (fun _ => rfl) rfl rfl rfl rfl rfl) ?_
            refine AO.step rfl (app_rv_map T rfl 14 rfl rfl rfl rfl rfl (by decide) rfl rfl rfl rfl (fun _ => rfl) (needT (hx62)) rfl rfl) ?_
            refine AO.pure T rfl rfl rfl ?_
            refine AO.nil ?_
            refine AW.region ?_
            refine AO.val rfl rfl (ar_ok rfl rfl rfl rfl (inI_succ hlt6 hb5)) ?_
            refine AO.pure T rfl rfl rfl ?_
            refine AO.nil ?_
            refine ⟨(k1 + 1, (v33 ++ [y2.skater]), w64 (v34 + 1)), ⟨Nat.succ_le_of_lt hlt6, (by rw [drop_succ_of hd4]; exact hH)⟩, (by have := hlt6; dsimp only; omega), ?_⟩
            exact Le.cut 14 9 rfl (by repeat' (first | exact trivial | refine ⟨⟨_, rfl, rfl⟩, ?_⟩)) (by repeat' (first | exact trivial | refine ⟨⟨_, rfl, rfl⟩, ?_⟩)) rfl
          · replace hH := condF hc hH
            refine AW.skip ?_
            refine AW.region ?_
            refine AO.val rfl rfl (ar_ok rfl rfl rfl rfl (inI_succ hlt6 hb5)) ?_
            refine AO.pure T rfl rfl rfl ?_
            refine AO.nil ?_
            refine ⟨(k1 + 1, v33, w64 (v34 + 1)), ⟨Nat.succ_le_of_lt hlt6, (by rw [drop_succ_of hd4]; exact hH)⟩, (by have := hlt6; dsimp only; omega), ?_⟩
            exact Le.cut 0 0 rfl (by repeat' (first | exact trivial | refine ⟨⟨_, rfl, rfl⟩, ?_⟩)) (by repeat' (first | exact trivial | refine ⟨⟨_, rfl, rfl⟩, ?_⟩)) rfl
        · replace hH := condF hc hH
          refine AW.skip ?_
          refine AW.seq ?_
          obtain ⟨x63, hx64, hH⟩ := bindE hH
          refine AW.region ?_
          refine AO.pure T rfl rfl rfl ?_
          refine AO.pure T rfl rfl rfl ?_
          refine AO.pure T rfl rfl rfl ?_
          refine AO.pure T rfl rfl rfl ?_
          refine AO.pure T rfl rfl rfl ?_
          refine AO.pureG T (d := .g [.v (.int .i64 e.segments), .v (.int .i64 e.size), .v (.int .i64 e.key), .s (List.map encEntrant e.entrants), .s (List.map encInt e.gone), .v (.int .i64 e.segment), .s (List.map encInt e.order), .s (List.map encResult e.results)]) [] rfl trivial rfl rfl ?_
          refine AO.pureG T [] rfl trivial rfl rfl ?_
          refine AO.pureG T [51] rfl ⟨fun h => h, trivial⟩ rfl rfl ?_
          refine AO.guard [50, 52] rfl ⟨fun h => h, fun h => h, trivial⟩ (fun hg => callV_ok rfl rfl rfl rfl (impl_isThere_ok _ _ _ (optT hx64 hg)) rfl) rfl ?_
          refine AO.val rfl rfl (pick_or rfl rfl rfl rfl) ?_
          refine AO.nil ?_
          refine AW.cond (b := (decide (x55 > e.segment) || x63)) rfl (fun hc => ?_) (fun hc => ?_)
          · replace hH := condT hc hH
            obtain ⟨u65, hx66, hH⟩ := bindE hH
            refine AW.region ?_
            refine AO.pure T rfl rfl rfl ?_
            refine AO.pure T rfl rfl rfl ?_
            refine AO.pure T rfl rfl rfl ?_
            refine AO.step rfl (mk_map_ok T rfl 15 rfl rfl rfl rfl rfl (f := encInt) (l := [y2.skater]) rfl rfl (fun _ => rfl) rfl rfl rfl rfl rfl) ?_
            refine AO.step rfl (app_rv_map T rfl 16 rfl rfl rfl rfl rfl (by decide) rfl rfl rfl rfl (fun _ => rfl) (needT (hx66)) rfl rfl) ?_
            refine AO.pure T rfl rfl rfl ?_
            refine AO.nil ?_
            refine AW.region ?_
            refine AO.val rfl rfl (ar_ok rfl rfl rfl rfl (inI_succ hlt6 hb5)) ?_
            refine AO.pure T rfl rfl rfl ?_
            refine AO.nil ?_
            refine ⟨(k1 + 1, (v33 ++ [y2.skater]), v34), ⟨Nat.succ_le_of_lt hlt6, (by rw [drop_succ_of hd4]; exact hH)⟩, (by have := hlt6; dsimp only; omega), ?_⟩
            exact Le.cut 16 9 rfl (by repeat' (first | exact trivial | refine ⟨⟨_, rfl, rfl⟩, ?_⟩)) (by repeat' (first | exact trivial | refine ⟨⟨_, rfl, rfl⟩, ?_⟩)) rfl
          · replace hH := condF hc hH
            refine AW.skip ?_
            refine AW.region ?_
            refine AO.val rfl rfl (ar_ok rfl rfl rfl rfl (inI_succ hlt6 hb5)) ?_
            refine AO.pure T rfl rfl rfl ?_
            refine AO.nil ?_
            refine ⟨(k1 + 1, v33, v34), ⟨Nat.succ_le_of_lt hlt6, (by rw [drop_succ_of hd4]; exact hH)⟩, (by have := hlt6; dsimp only; omega), ?_⟩
            exact Le.cut 0 0 rfl (by repeat' (first | exact trivial | refine ⟨⟨_, rfl, rfl⟩, ?_⟩)) (by repeat' (first | exact trivial | refine ⟨⟨_, rfl, rfl⟩, ?_⟩)) rfl

def impl_IsEvent_p (e : Event) : Option Bool :=
  (impl_within_p e.segments 1 3).bind fun x1 =>
  (opt x1 default (impl_isGroupSize_p e.size)).bind fun x3 =>
  (opt (x1 && x3) default (impl_isKey_p e.key)).bind fun x5 =>
  (opt ((x1 && x3) && x5) default (impl_within_p e.segment 0 e.segments)).bind fun x7 =>
  (opt (((x1 && x3) && x5) && x7) default (impl_isOrder_p e.order)).bind fun x9 =>
  (opt ((((x1 && x3) && x5) && x7) && x9) default (impl_hasEntrants_p e)).bind fun x11 =>
  (opt (((((x1 && x3) && x5) && x7) && x9) && x11) default (impl_isEventOrder_p e)).bind fun x13 =>
  some ((((((x1 && x3) && x5) && x7) && x9) && x11) && x13)
theorem impl_IsEvent_ok (e : Event) (r : Bool) (hH : impl_IsEvent_p e = some r) : SpecR Tryz.prog 50 [.g (encEvent e)] (.v (.bool r)) := by
  refine fn_ok T Tryz.func50 rfl (by decide) rfl ?_
  refine AW.seq ?_
  refine AW.region ?_
  refine AO.step rfl (box_ok T rfl 1 rfl rfl rfl rfl) ?_
  refine AO.pure T rfl rfl rfl ?_
  refine AO.nil ?_
  refine AW.seq ?_
  obtain ⟨x1, hx2, hH⟩ := bindE hH
  obtain ⟨x3, hx4, hH⟩ := bindE hH
  obtain ⟨x5, hx6, hH⟩ := bindE hH
  obtain ⟨x7, hx8, hH⟩ := bindE hH
  obtain ⟨x9, hx10, hH⟩ := bindE hH
  obtain ⟨x11, hx12, hH⟩ := bindE hH
  obtain ⟨x13, hx14, hH⟩ := bindE hH
  refine AW.region ?_
  refine AO.pure T rfl rfl rfl ?_
  refine AO.pure T rfl rfl rfl ?_
  refine AO.val rfl rfl (callV_ok rfl rfl rfl rfl (impl_within_ok _ _ _ _ (hx2)) rfl) ?_
  refine AO.pure T rfl rfl rfl ?_
  refine AO.pureG T [] rfl trivial rfl rfl ?_
  refine AO.pureG T [7] rfl ⟨fun h => h, trivial⟩ rfl rfl ?_
  refine AO.guard [8] rfl ⟨fun h => h, trivial⟩ (fun hg => callV_ok rfl rfl rfl rfl (impl_isGroupSize_ok _ _ (optT hx4 hg)) rfl) rfl ?_
  refine AO.val rfl rfl (pick_and rfl rfl rfl rfl) ?_
  refine AO.pure T rfl rfl rfl ?_
  refine AO.pureG T [] rfl trivial rfl rfl ?_
  refine AO.pureG T [12] rfl ⟨fun h => h, trivial⟩ rfl rfl ?_
  refine AO.guard [13] rfl ⟨fun h => h, trivial⟩ (fun hg => callV_ok rfl rfl rfl rfl (impl_isKey_ok _ _ (optT hx6 hg)) rfl) rfl ?_
  refine AO.val rfl rfl (pick_and rfl rfl rfl rfl) ?_
  refine AO.pure T rfl rfl rfl ?_
  refine AO.pureG T [] rfl trivial rfl rfl ?_
  refine AO.pureG T [17] rfl ⟨fun h => h, trivial⟩ rfl rfl ?_
  refine AO.pureG T [] rfl trivial rfl rfl ?_
  refine AO.pureG T [19] rfl ⟨fun h => h, trivial⟩ rfl rfl ?_
  refine AO.guard [18, 20] rfl ⟨fun h => h, fun h => h, trivial⟩ (fun hg => callV_ok rfl rfl rfl rfl (impl_within_ok _ _ _ _ (optT hx8 hg)) rfl) rfl ?_
  refine AO.val rfl rfl (pick_and rfl rfl rfl rfl) ?_
  refine AO.pure T rfl rfl rfl ?_
  refine AO.pureG T [] rfl trivial rfl rfl ?_
  refine AO.pureG T [24] rfl ⟨fun h => h, trivial⟩ rfl rfl ?_
  refine AO.guard [25] rfl ⟨fun h => h, trivial⟩ (fun hg => callV_ok rfl rfl rfl rfl (impl_isOrder_ok _ _ (optT hx10 hg)) rfl) rfl ?_
  refine AO.val rfl rfl (pick_and rfl rfl rfl rfl) ?_
  refine AO.pure T rfl rfl rfl ?_
  refine AO.pureG T (d := .g [.v (.int .i64 e.segments), .v (.int .i64 e.size), .v (.int .i64 e.key), .s (List.map encEntrant e.entrants), .s (List.map encInt e.gone), .v (.int .i64 e.segment), .s (List.map encInt e.order), .s (List.map encResult e.results)]) [] rfl trivial rfl rfl ?_
  refine AO.guard [29] rfl ⟨fun h => h, trivial⟩ (fun hg => callV_ok rfl rfl rfl rfl (impl_hasEntrants_ok _ _ (optT hx12 hg)) rfl) rfl ?_
  refine AO.val rfl rfl (pick_and rfl rfl rfl rfl) ?_
  refine AO.pure T rfl rfl rfl ?_
  refine AO.pureG T (d := .g [.v (.int .i64 e.segments), .v (.int .i64 e.size), .v (.int .i64 e.key), .s (List.map encEntrant e.entrants), .s (List.map encInt e.gone), .v (.int .i64 e.segment), .s (List.map encInt e.order), .s (List.map encResult e.results)]) [] rfl trivial rfl rfl ?_
  refine AO.guard [33] rfl ⟨fun h => h, trivial⟩ (fun hg => callV_ok rfl rfl rfl rfl (impl_isEventOrder_ok _ _ (optT hx14 hg)) rfl) rfl ?_
  refine AO.val rfl rfl (pick_and rfl rfl rfl rfl) ?_
  refine AO.pure T rfl rfl rfl ?_
  refine AO.nil ?_
  refine AW.le (Le.cut 0 0 (σ' := (⟨[(2, .v (.bool ((((((x1 && x3) && x5) && x7) && x9) && x11) && x13)))], [], 36, []⟩ : St)) rfl (by repeat' (first | exact trivial | refine ⟨⟨_, rfl, rfl⟩, ?_⟩)) (by repeat' (first | exact trivial | refine ⟨⟨_, rfl, rfl⟩, ?_⟩)) rfl) ?_
  refine AW.ret ?_
  cases someE hH
  exact ⟨trivial, _, [], rfl, .c (.c .v), by decide⟩

def impl_indicesOf_l1 (n : Int) (chosen : Int → Option Bool) : Nat → List Int → Int → Option ((List Int))
  | 0, _, _ => none
  | k1 + 1, v12, v13 =>
    cond (decide (v13 < n))
      ((chosen v13).bind fun x15 =>
      cond x15
        ((need (fitsB 8 (v12.length + ([v13]).length))).bind fun u17 =>
        impl_indicesOf_l1 n chosen k1 (v12 ++ [v13]) (w64 (v13 + 1)))
        (impl_indicesOf_l1 n chosen k1 v12 (w64 (v13 + 1))))
      (some v12)
def impl_indicesOf_p (fuel : Nat) (n : Int) (chosen : Int → Option Bool) : Option (List Int) :=
  impl_indicesOf_l1 n chosen fuel [] 0
theorem impl_indicesOf_ok (fuel : Nat) (n : Int) (chosen_f : Nat) (chosen_c : List D) (chosen_k : chosen_c.all D.capOk = true) (chosen : Int → Option Bool) (chosen_h : ∀ (a0 : Int) (q : Bool), chosen a0 = some q → SpecR Tryz.prog chosen_f ([.v (.int .i64 a0)] ++ chosen_c) (.v (.bool q))) (r : (List Int)) (hH : impl_indicesOf_p fuel n chosen = some r) : SpecR Tryz.prog 79 [.v (.int .i64 n), .f chosen_f chosen_c] (.w 1 (r.map encInt)) := by
  have chosen_r := cap_cfree chosen_k
  refine fn_ok T Tryz.func79 rfl (by decide) rfl ?_
  refine AW.seq ?_
  refine AW.region ?_
  refine AO.pure T rfl rfl rfl ?_
  refine AO.nil ?_
  refine AW.seq ?_
  refine AW.region ?_
  refine AO.step rfl (mk0_ok T rfl rfl rfl rfl) ?_
  refine AO.pure T rfl rfl rfl ?_
  refine AO.nil ?_
  refine AW.seq ?_
  refine AW.seq ?_
  refine AW.region ?_
  refine AO.pure T rfl rfl rfl ?_
  refine AO.pure T rfl rfl rfl ?_
  refine AO.nil ?_
  refine AW.block ?_
  refine AW.loopS (fun s : Nat × (List Int) × Int => (⟨[(1, .f chosen_f chosen_c), (5, .R 4), (8, .v (.int .i64 n)), (9, .v (.int .i64 s.2.2))], [(4, .row 1 (List.map encInt s.2.1))], 21, []⟩ : St)) (fun s => impl_indicesOf_l1 n chosen s.1 s.2.1 s.2.2 = some r) (fun s => s.1) (fuel, [], 0) hH ?_ ?_
  · refine Le.trans (Le.void 5 4 1 rfl rfl) ?_
    exact Le.cut 0 0 rfl ⟨⟨_, rfl, ren_fF chosen_r⟩, ⟨_, rfl, rfl⟩, ⟨_, rfl, rfl⟩, ⟨_, rfl, rfl⟩, trivial⟩ (by repeat' (first | exact trivial | refine ⟨⟨_, rfl, rfl⟩, ?_⟩)) (andT (allC (known_fF chosen_r) (allC rfl (allC rfl (allC rfl allN)))) rfl)
  · rintro ⟨k1, v12, v13⟩ hH
    replace hH : impl_indicesOf_l1 n chosen k1 v12 v13 = some r := hH
    show AW _ _ _ (⟨[(1, .f chosen_f chosen_c), (5, .R 4), (8, .v (.int .i64 n)), (9, .v (.int .i64 v13))], [(4, .row 1 (List.map encInt v12))], 21, []⟩ : St)
    cases k1 with
    | zero => cases (show none = some _ from hH)
    | succ k1 =>
      rw [impl_indicesOf_l1] at hH
      refine AW.seq ?_
      refine AW.region ?_
      refine AO.pure T rfl rfl rfl ?_
      refine AO.nil ?_
      refine AW.seq ?_
      refine AW.cond (b := decide (v13 < n)) rfl (fun hc => ?_) (fun hc => ?_)
      · replace hH := condT hc hH
        refine AW.skip ?_
        refine AW.seq ?_
        refine AW.block ?_
        refine AW.seq ?_
        refine AW.region ?_
        refine AO.pure T rfl rfl rfl ?_
        refine AO.pure T rfl rfl rfl ?_
        refine AO.nil ?_
        refine AW.seq ?_
        obtain ⟨x15, hx16, hH⟩ := bindE hH
        refine AW.region ?_
        refine AO.pure T rfl rfl rfl ?_
        refine AO.pure T rfl rfl rfl ?_
        refine AO.val rfl rfl (callV_ok rfl rfl rfl (andT rfl (free_cfree chosen_r)) (chosen_h _ _ (hx16)) rfl) ?_
        refine AO.nil ?_
        refine AW.cond (b := x15) rfl (fun hc => ?_) (fun hc => ?_)
        · replace hH := condT hc hH
          obtain ⟨u17, hx18, hH⟩ := bindE hH
          refine AW.region ?_
          refine AO.pure T rfl rfl rfl ?_
          refine AO.pure T rfl rfl rfl ?_
          refine AO.step rfl (mk_map_ok T rfl 5 rfl rfl rfl rfl rfl (f := encInt) (l := [v13]) rfl rfl (fun _ => rfl) rfl rfl rfl rfl rfl) ?_
          refine AO.step rfl (app_rv_map T rfl 6 rfl rfl rfl rfl rfl (by decide) rfl rfl rfl rfl (fun _ => rfl) (needT (hx18)) rfl rfl) ?_
          refine AO.pure T rfl rfl rfl ?_
          refine AO.nil ?_
          refine AW.region ?_
          refine AO.val rfl rfl (arw_ok rfl rfl rfl rfl) ?_
          refine AO.pure T rfl rfl rfl ?_
          refine AO.nil ?_
          refine ⟨(k1, (v12 ++ [v13]), w64 (v13 + 1)), hH, Nat.lt_succ_self _, ?_⟩
          exact Le.cut 6 4 rfl ⟨⟨_, rfl, ren_fF chosen_r⟩, ⟨_, rfl, rfl⟩, ⟨_, rfl, rfl⟩, ⟨_, rfl, rfl⟩, trivial⟩ (by repeat' (first | exact trivial | refine ⟨⟨_, rfl, rfl⟩, ?_⟩)) (andT (allC (known_fF chosen_r) (allC rfl (allC rfl (allC rfl allN)))) rfl)
        · replace hH := condF hc hH
          refine AW.skip ?_
          refine AW.region ?_
          refine AO.val rfl rfl (arw_ok rfl rfl rfl rfl) ?_
          refine AO.pure T rfl rfl rfl ?_
          refine AO.nil ?_
          refine ⟨(k1, v12, w64 (v13 + 1)), hH, Nat.lt_succ_self _, ?_⟩
          exact Le.cut 0 0 rfl ⟨⟨_, rfl, ren_fF chosen_r⟩, ⟨_, rfl, rfl⟩, ⟨_, rfl, rfl⟩, ⟨_, rfl, rfl⟩, trivial⟩ (by repeat' (first | exact trivial | refine ⟨⟨_, rfl, rfl⟩, ?_⟩)) (andT (allC (known_fF chosen_r) (allC rfl (allC rfl (allC rfl allN)))) rfl)
      · replace hH := condF hc hH
        refine AW.exit ?_
        refine AW.seq ?_
        refine AW.region ?_
        refine AO.pure T rfl rfl rfl ?_
        refine AO.pure T rfl rfl rfl ?_
        refine AO.nil ?_
        refine AW.ret ?_
        cases someE hH
        exact ⟨trivial, _, [4], rfl, .c (.c (.rowR rfl)), by decide⟩

def impl_orderOf_c1_p (a : Int) : Option Bool :=
  some true
theorem impl_orderOf_c1_ok (a : Int) (r : Bool) (hH : impl_orderOf_c1_p a = some r) : SpecR Tryz.prog 80 [.v (.int .i64 a)] (.v (.bool r)) := by
  refine fn_ok T Tryz.func80 rfl (by decide) rfl ?_
  refine AW.seq ?_
  refine AW.region ?_
  refine AO.pure T rfl rfl rfl ?_
  refine AO.nil ?_
  refine AW.seq ?_
  refine AW.region ?_
  refine AO.pure T rfl rfl rfl ?_
  refine AO.nil ?_
  refine AW.ret ?_
  cases someE hH
  exact ⟨trivial, _, [], rfl, .c (.c .v), by decide⟩

def slices_SortFunc_int_p (x : List Int) (cmp : Int → Int → Option Int) : Option (List Int) := sortF cmp x
theorem slices_SortFunc_int_ok (x : List Int) (cmp_f : Nat) (cmp_c : List D) (cmp_k : cmp_c.all D.capOk = true) (cmp : Int → Int → Option Int) (cmp_h : ∀ (a0 a1 : Int) (q : Int), cmp a0 a1 = some q → SpecR Tryz.prog cmp_f ([.v (.int .i64 a0), .v (.int .i64 a1)] ++ cmp_c) (.v (.int .i64 q))) (r : List Int) (hH : slices_SortFunc_int_p x cmp = some r) : SpecM Tryz.prog 81 [.w 1 (x.map encInt), .f cmp_f cmp_c] [.w 1 (r.map encInt), .u] (.t []) :=
  spec_sortF1 ⟨_, Tryz.func81, rfl, by decide⟩ (fun enc h1 cf hO cb blk off cap d w eg hcmp hH hblk hsz => Tryz.slices_SortFunc enc h1 cf hO cmp_f cb blk off cap d w eg hcmp hH hblk hsz) (fun p cap cb w => Tryz.slices_SortFunc_none (α := Int) p cap _ w) cmp_c (cap_sc cmp_k) cmp x r cmp_h hH

def impl_signOf_p (n : Int) : Option Int :=
  cond (decide (n > 0))
    (some 1)
    (cond (decide (n < 0))
      (some (-1))
      (some 0))
theorem impl_signOf_ok (n : Int) (r : Int) (hH : impl_signOf_p n = some r) : SpecR Tryz.prog 119 [.v (.int .i64 n)] (.v (.int .i64 r)) := by
  refine fn_ok T Tryz.func119 rfl (by decide) rfl ?_
  refine AW.seq ?_
  refine AW.region ?_
  refine AO.pure T rfl rfl rfl ?_
  refine AO.nil ?_
  refine AW.seq ?_
  refine AW.block ?_
  refine AW.seq ?_
  refine AW.region ?_
  refine AO.pure T rfl rfl rfl ?_
  refine AO.pure T rfl rfl rfl ?_
  refine AO.pure T rfl rfl rfl ?_
  refine AO.nil ?_
  refine AW.cond (b := decide (n > 0)) rfl (fun hc => ?_) (fun hc => ?_)
  · replace hH := condT hc hH
    refine AW.seq ?_
    refine AW.region ?_
    refine AO.pure T rfl rfl rfl ?_
    refine AO.nil ?_
    refine AW.ret ?_
    cases someE hH
    exact ⟨trivial, _, [], rfl, .c (.c .v), by decide⟩
  · replace hH := condF hc hH
    refine AW.seq ?_
    refine AW.region ?_
    refine AO.pure T rfl rfl rfl ?_
    refine AO.pure T rfl rfl rfl ?_
    refine AO.pure T rfl rfl rfl ?_
    refine AO.nil ?_
    refine AW.cond (b := decide (n < 0)) rfl (fun hc => ?_) (fun hc => ?_)
    · replace hH := condT hc hH
      refine AW.seq ?_
      refine AW.region ?_
      refine AO.pure T rfl rfl rfl ?_
      refine AO.nil ?_
      refine AW.ret ?_
      cases someE hH
      exact ⟨trivial, _, [], rfl, .c (.c .v), by decide⟩
    · replace hH := condF hc hH
      refine AW.skip ?_
      refine AW.seq ?_
      refine AW.region ?_
      refine AO.pure T rfl rfl rfl ?_
      refine AO.nil ?_
      refine AW.ret ?_
      cases someE hH
      exact ⟨trivial, _, [], rfl, .c (.c .v), by decide⟩

def impl_compareResults_l1 (a : Result) (b : Result) : Nat → Int → Option Int
  | 0, _ => none
  | k9 + 1, v23 =>
    cond (decide (v23 ≥ 0))
      ((getI a.scores v23).bind fun x25 =>
      (getI b.scores v23).bind fun x27 =>
      cond (x25 != x27)
        ((impl_signOf_p (w64 (x25 - x27))).bind fun x29 =>
        some x29)
        (impl_compareResults_l1 a b k9 (w64 (v23 - 1))))
      (some 0)
def impl_compareResults_p (fuel : Nat) (a : Result) (b : Result) : Option Int :=
  (impl_totalOf_p a).bind fun x1 =>
  (impl_totalOf_p b).bind fun x3 =>
  cond (x1.2 != x3.2)
    ((impl_signOf_p (w64 (x1.2 - x3.2))).bind fun x5 =>
    some x5)
    (cond (x1.1 != x3.1)
      ((impl_signOf_p (w64 (x1.1 - x3.1))).bind fun x7 =>
      some x7)
      (impl_compareResults_l1 a b fuel (w64 ((a.scores.length : Int) - 1))))
theorem impl_compareResults_ok (fuel : Nat) (a : Result) (b : Result) (r : Int) (hH : impl_compareResults_p fuel a b = some r) : SpecR Tryz.prog 83 [.g (encResult a), .g (encResult b)] (.v (.int .i64 r)) := by
  refine fn_ok T Tryz.func83 rfl (by decide) rfl ?_
  refine AW.seq ?_
  refine AW.region ?_
  refine AO.step rfl (box_ok T rfl 1 rfl rfl rfl rfl) ?_
  refine AO.step rfl (box_ok T rfl 2 rfl rfl rfl rfl) ?_
  refine AO.pure T rfl rfl rfl ?_
  refine AO.nil ?_
  refine AW.seq ?_
  obtain ⟨x1, hx2, hH⟩ := bindE hH
  refine AW.region ?_
  refine AO.pure T (d := .g [.v (.int .i64 a.skater), .s (List.map encInt a.scores)]) rfl rfl rfl ?_
  refine AO.val rfl rfl (callV_ok rfl rfl rfl rfl (impl_totalOf_ok _ _ (hx2)) rfl) ?_
  refine AO.pure T rfl rfl rfl ?_
  refine AO.pure T rfl rfl rfl ?_
  refine AO.pure T rfl rfl rfl ?_
  refine AO.pure T rfl rfl rfl ?_
  refine AO.pure T rfl rfl rfl ?_
  refine AO.nil ?_
  refine AW.seq ?_
  obtain ⟨x3, hx4, hH⟩ := bindE hH
  refine AW.region ?_
  refine AO.pure T (d := .g [.v (.int .i64 b.skater), .s (List.map encInt b.scores)]) rfl rfl rfl ?_
  refine AO.val rfl rfl (callV_ok rfl rfl rfl rfl (impl_totalOf_ok _ _ (hx4)) rfl) ?_
  refine AO.pure T rfl rfl rfl ?_
  refine AO.pure T rfl rfl rfl ?_
  refine AO.pure T rfl rfl rfl ?_
  refine AO.pure T rfl rfl rfl ?_
  refine AO.pure T rfl rfl rfl ?_
  refine AO.nil ?_
  refine AW.seq ?_
  refine AW.seq ?_
  refine AW.region ?_
  refine AO.pure T rfl rfl rfl ?_
  refine AO.pure T rfl rfl rfl ?_
  refine AO.pure T rfl rfl rfl ?_
  refine AO.nil ?_
  refine AW.cond (b := (x1.2 != x3.2)) rfl (fun hc => ?_) (fun hc => ?_)
  · replace hH := condT hc hH
    refine AW.seq ?_
    obtain ⟨x5, hx6, hH⟩ := bindE hH
    refine AW.region ?_
    refine AO.pure T rfl rfl rfl ?_
    refine AO.pure T rfl rfl rfl ?_
    refine AO.val rfl rfl (arw_ok rfl rfl rfl rfl) ?_
    refine AO.val rfl rfl (callV_ok rfl rfl rfl rfl (impl_signOf_ok _ _ (hx6)) rfl) ?_
    refine AO.pure T rfl rfl rfl ?_
    refine AO.nil ?_
    refine AW.le (Le.cut 0 0 (σ' := (⟨[(4, .v (.int .i64 x5))], [], 65, []⟩ : St)) rfl (by repeat' (first | exact trivial | refine ⟨⟨_, rfl, rfl⟩, ?_⟩)) (by repeat' (first | exact trivial | refine ⟨⟨_, rfl, rfl⟩, ?_⟩)) rfl) ?_
    refine AW.ret ?_
    cases someE hH
    exact ⟨trivial, _, [], rfl, .c (.c .v), by decide⟩
  · replace hH := condF hc hH
    refine AW.skip ?_
    refine AW.seq ?_
    refine AW.seq ?_
    refine AW.region ?_
    refine AO.pure T rfl rfl rfl ?_
    refine AO.pure T rfl rfl rfl ?_
    refine AO.pure T rfl rfl rfl ?_
    refine AO.nil ?_
    refine AW.cond (b := (x1.1 != x3.1)) rfl (fun hc => ?_) (fun hc => ?_)
    · replace hH := condT hc hH
      refine AW.seq ?_
      obtain ⟨x7, hx8, hH⟩ := bindE hH
      refine AW.region ?_
      refine AO.pure T rfl rfl rfl ?_
      refine AO.pure T rfl rfl rfl ?_
      refine AO.val rfl rfl (arw_ok rfl rfl rfl rfl) ?_
      refine AO.val rfl rfl (callV_ok rfl rfl rfl rfl (impl_signOf_ok _ _ (hx8)) rfl) ?_
      refine AO.pure T rfl rfl rfl ?_
      refine AO.nil ?_
      refine AW.le (Le.cut 0 0 (σ' := (⟨[(4, .v (.int .i64 x7))], [], 65, []⟩ : St)) rfl (by repeat' (first | exact trivial | refine ⟨⟨_, rfl, rfl⟩, ?_⟩)) (by repeat' (first | exact trivial | refine ⟨⟨_, rfl, rfl⟩, ?_⟩)) rfl) ?_
      refine AW.ret ?_
      cases someE hH
      exact ⟨trivial, _, [], rfl, .c (.c .v), by decide⟩
    · replace hH := condF hc hH
      refine AW.skip ?_
      refine AW.seq ?_
      refine AW.seq ?_
      refine AW.region ?_
      refine AO.pure T rfl rfl rfl ?_
      refine AO.pure T rfl rfl rfl ?_
      refine AO.val rfl rfl (len_map_ok T rfl rfl rfl) ?_
      refine AO.val rfl rfl (arw_ok rfl rfl rfl rfl) ?_
      refine AO.pure T rfl rfl rfl ?_
      refine AO.nil ?_
      refine AW.le (Le.cut 0 0 (σ' := (⟨[(2, .p 1 0), (3, .p 2 0), (9, .v (.int .i64 (w64 ((a.scores.length : Int) - 1))))], [(1, .box [.v (.int .i64 a.skater), .s (List.map encInt a.scores)]), (2, .box [.v (.int .i64 b.skater), .s (List.map encInt b.scores)])], 65, []⟩ : St)) rfl (by repeat' (first | exact trivial | refine ⟨⟨_, rfl, rfl⟩, ?_⟩)) (by repeat' (first | exact trivial | refine ⟨⟨_, rfl, rfl⟩, ?_⟩)) rfl) ?_
      refine AW.block ?_
      refine AW.loopS (fun s : Nat × Int => (⟨[(2, .p 1 0), (3, .p 2 0), (9, .v (.int .i64 s.2))], [(1, .box [.v (.int .i64 a.skater), .s (List.map encInt a.scores)]), (2, .box [.v (.int .i64 b.skater), .s (List.map encInt b.scores)])], 65, []⟩ : St)) (fun s => impl_compareResults_l1 a b s.1 s.2 = some r) (fun s => s.1) (fuel, w64 ((a.scores.length : Int) - 1)) hH ?_ ?_
      · exact Le.cut 0 0 rfl (by repeat' (first | exact trivial | refine ⟨⟨_, rfl, rfl⟩, ?_⟩)) (by repeat' (first | exact trivial | refine ⟨⟨_, rfl, rfl⟩, ?_⟩)) rfl
      · rintro ⟨k9, v23⟩ hH
        replace hH : impl_compareResults_l1 a b k9 v23 = some r := hH
        show AW _ _ _ (⟨[(2, .p 1 0), (3, .p 2 0), (9, .v (.int .i64 v23))], [(1, .box [.v (.int .i64 a.skater), .s (List.map encInt a.scores)]), (2, .box [.v (.int .i64 b.skater), .s (List.map encInt b.scores)])], 65, []⟩ : St)
        cases k9 with
        | zero => cases (show none = some _ from hH)
        | succ k9 =>
          rw [impl_compareResults_l1] at hH
          refine AW.seq ?_
          refine AW.seq ?_
          refine AW.region ?_
          refine AO.pure T rfl rfl rfl ?_
          refine AO.pure T rfl rfl rfl ?_
          refine AO.nil ?_
          refine AW.cond (b := decide (v23 ≥ 0)) rfl (fun hc => ?_) (fun hc => ?_)
          · replace hH := condT hc hH
            refine AW.skip ?_
            refine AW.seq ?_
            refine AW.block ?_
            refine AW.seq ?_
            obtain ⟨x25, hx26, hH⟩ := bindE hH
            obtain ⟨x27, hx28, hH⟩ := bindE hH
            refine AW.drawn 10 3 [] mix (by kernel_rfl) rfl ?_
            refine AD.pure T rfl rfl rfl ?_
            refine AD.pure T rfl rfl rfl ?_
            refine AD.pure T rfl rfl rfl ?_
            refine AD.val rfl rfl (ix_map_ok T rfl rfl rfl rfl rfl (hx26) rfl) ?_
            refine AD.pure T rfl rfl rfl ?_
            refine AD.pure T rfl rfl rfl ?_
            refine AD.pure T rfl rfl rfl ?_
            refine AD.pure T rfl rfl rfl ?_
            refine AD.val rfl rfl (ix_map_ok T rfl rfl rfl rfl rfl (hx28) rfl) ?_
            refine AD.pure T rfl rfl rfl ?_
            refine AD.nil ?_
            refine AO.pure T rfl rfl rfl ?_
            refine AO.nil ?_
            refine AW.cond (b := (x25 != x27)) rfl (fun hc => ?_) (fun hc => ?_)
            · replace hH := condT hc hH
              refine AW.seq ?_
              obtain ⟨x29, hx30, hH⟩ := bindE hH
              refine AW.drawn 10 3 [] mix (by kernel_rfl) rfl ?_
              refine AD.pure T rfl rfl rfl ?_
              refine AD.pure T rfl rfl rfl ?_
              refine AD.pure T rfl rfl rfl ?_
              refine AD.val rfl rfl (ix_map_ok T rfl rfl rfl rfl rfl (hx26) rfl) ?_
              refine AD.pure T rfl rfl rfl ?_
              refine AD.pure T rfl rfl rfl ?_
              refine AD.pure T rfl rfl rfl ?_
              refine AD.pure T rfl rfl rfl ?_
              refine AD.val rfl rfl (ix_map_ok T rfl rfl rfl rfl rfl (hx28) rfl) ?_
              refine AD.pure T rfl rfl rfl ?_
              refine AD.nil ?_
              refine AO.val rfl rfl (arw_ok rfl rfl rfl rfl) ?_
              refine AO.val rfl rfl (callV_ok rfl rfl rfl rfl (impl_signOf_ok _ _ (hx30)) rfl) ?_
              refine AO.pure T rfl rfl rfl ?_
              refine AO.nil ?_
              refine AW.le (Le.cut 0 0 (σ' := (⟨[(4, .v (.int .i64 x29))], [], 65, []⟩ : St)) rfl (by repeat' (first | exact trivial | refine ⟨⟨_, rfl, rfl⟩, ?_⟩)) (by repeat' (first | exact trivial | refine ⟨⟨_, rfl, rfl⟩, ?_⟩)) rfl) ?_
              refine AW.ret ?_
              cases someE hH
              exact ⟨trivial, _, [], rfl, .c (.c .v), by decide⟩
            · replace hH := condF hc hH
              refine AW.skip ?_
              refine AW.region ?_
              refine AO.pure T rfl rfl rfl ?_
              refine AO.val rfl rfl (arw_ok rfl rfl rfl rfl) ?_
              refine AO.pure T rfl rfl rfl ?_
              refine AO.nil ?_
              refine ⟨(k9, w64 (v23 - 1)), hH, Nat.lt_succ_self _, ?_⟩
              exact Le.cut 0 0 rfl (by repeat' (first | exact trivial | refine ⟨⟨_, rfl, rfl⟩, ?_⟩)) (by repeat' (first | exact trivial | refine ⟨⟨_, rfl, rfl⟩, ?_⟩)) rfl
          · replace hH := condF hc hH
            refine AW.exit ?_
            refine AW.seq ?_
            refine AW.region ?_
            refine AO.pure T rfl rfl rfl ?_
            refine AO.nil ?_
            refine AW.ret ?_
            cases someE hH
            exact ⟨trivial, _, [], rfl, .c (.c .v), by decide⟩

def impl_orderOf_c2_p (fuel : Nat) (i : Int) (k : Int) (a : List Result) : Option Int :=
  (getI a i).bind fun x1 =>
  (getI a k).bind fun x3 =>
  (impl_compareResults_p fuel x1 x3).bind fun x5 =>
  cond (x5 != 0)
    (some (w64 (-x5)))
    (some (w64 (x1.skater - x3.skater)))
theorem impl_orderOf_c2_ok (fuel : Nat) (i : Int) (k : Int) (a : List Result) (r : Int) (hH : impl_orderOf_c2_p fuel i k a = some r) : SpecR Tryz.prog 82 [.v (.int .i64 i), .v (.int .i64 k), .q [.s (List.map encResult a)]] (.v (.int .i64 r)) := by
  refine fn_ok T Tryz.func82 rfl (by decide) rfl ?_
  refine AW.seq ?_
  refine AW.region ?_
  refine AO.pure T rfl rfl rfl ?_
  refine AO.nil ?_
  refine AW.seq ?_
  refine AW.seq ?_
  obtain ⟨x1, hx2, hH⟩ := bindE hH
  obtain ⟨x3, hx4, hH⟩ := bindE hH
  obtain ⟨x5, hx6, hH⟩ := bindE hH
  refine AW.drawn 8 1 [] mix (by kernel_rfl) rfl ?_
  refine AD.pure T rfl rfl rfl ?_
  refine AD.pure T rfl rfl rfl ?_
  refine AD.val rfl rfl (ix_map_ok T rfl rfl rfl rfl rfl (hx2) rfl) ?_
  refine AD.pure T (d := .g [.v (.int .i64 x1.skater), .s (List.map encInt x1.scores)]) rfl rfl rfl ?_
  refine AD.pure T rfl rfl rfl ?_
  refine AD.pure T rfl rfl rfl ?_
  refine AD.val rfl rfl (ix_map_ok T rfl rfl rfl rfl rfl (hx4) rfl) ?_
  refine AD.pure T (d := .g [.v (.int .i64 x3.skater), .s (List.map encInt x3.scores)]) rfl rfl rfl ?_
  refine AD.nil ?_
  refine AO.val rfl rfl (callV_ok rfl rfl rfl rfl (impl_compareResults_ok fuel _ _ _ (hx6)) rfl) ?_
  refine AO.pure T rfl rfl rfl ?_
  refine AO.nil ?_
  refine AW.seq ?_
  refine AW.region ?_
  refine AO.pure T rfl rfl rfl ?_
  refine AO.pure T rfl rfl rfl ?_
  refine AO.nil ?_
  refine AW.cond (b := (x5 != 0)) rfl (fun hc => ?_) (fun hc => ?_)
  · replace hH := condT hc hH
    refine AW.seq ?_
    refine AW.region ?_
    refine AO.pure T rfl rfl rfl ?_
    refine AO.val rfl rfl (negw_ok rfl rfl) ?_
    refine AO.pure T rfl rfl rfl ?_
    refine AO.nil ?_
    refine AW.ret ?_
    cases someE hH
    exact ⟨trivial, _, [], rfl, .c (.c .v), by decide⟩
  · replace hH := condF hc hH
    refine AW.skip ?_
    refine AW.seq ?_
    refine AW.drawn 10 1 [] mix (by kernel_rfl) rfl ?_
    refine AD.pure T rfl rfl rfl ?_
    refine AD.pure T rfl rfl rfl ?_
    refine AD.val rfl rfl (ix_map_ok T rfl rfl rfl rfl rfl (hx2) rfl) ?_
    refine AD.pure T rfl rfl rfl ?_
    refine AD.pure T rfl rfl rfl ?_
    refine AD.pure T rfl rfl rfl ?_
    refine AD.pure T rfl rfl rfl ?_
    refine AD.val rfl rfl (ix_map_ok T rfl rfl rfl rfl rfl (hx4) rfl) ?_
    refine AD.pure T rfl rfl rfl ?_
    refine AD.pure T rfl rfl rfl ?_
    refine AD.nil ?_
    refine AO.val rfl rfl (arw_ok rfl rfl rfl rfl) ?_
    refine AO.pure T rfl rfl rfl ?_
    refine AO.nil ?_
    refine AW.le (Le.cut 0 0 (σ' := (⟨[(5, .v (.int .i64 (w64 (x1.skater - x3.skater))))], [], 31, []⟩ : St)) rfl (by repeat' (first | exact trivial | refine ⟨⟨_, rfl, rfl⟩, ?_⟩)) (by repeat' (first | exact trivial | refine ⟨⟨_, rfl, rfl⟩, ?_⟩)) rfl) ?_
    refine AW.ret ?_
    cases someE hH
    exact ⟨trivial, _, [], rfl, .c (.c .v), by decide⟩

def impl_orderOf_p (fuel : Nat) (l : List Result) : Option (List Int) :=
  (impl_indicesOf_p fuel (l.length : Int) (fun a0 => impl_orderOf_c1_p a0 )).bind fun x1 =>
  (slices_SortFunc_int_p x1 (fun a0 a1 => impl_orderOf_c2_p fuel a0 a1 l)).bind fun x3 =>
  some x3
theorem impl_orderOf_ok (fuel : Nat) (l : List Result) (r : (List Int)) (hH : impl_orderOf_p fuel l = some r) : SpecR Tryz.prog 51 [.s (List.map encResult l)] (.w 1 (r.map encInt)) := by
  refine fn_ok T Tryz.func51 rfl (by decide) rfl ?_
  refine AW.seq ?_
  refine AW.region ?_
  refine AO.step rfl (box_ok T rfl 1 rfl rfl rfl rfl) ?_
  refine AO.pure T rfl rfl rfl ?_
  refine AO.nil ?_
  refine AW.seq ?_
  obtain ⟨x1, hx2, hH⟩ := bindE hH
  refine AW.region ?_
  refine AO.pure T rfl rfl rfl ?_
  refine AO.val rfl rfl (len_map_ok T rfl rfl rfl) ?_
  refine AO.step rfl (call_ok rfl 2 rfl rfl rfl (impl_indicesOf_ok fuel _ 80 [] rfl (fun a0 => impl_orderOf_c1_p a0 ) (fun a0 q h => impl_orderOf_c1_ok a0  q h) _ (hx2)) rfl rfl rfl) ?_
  refine AO.pure T rfl rfl rfl ?_
  refine AO.nil ?_
  refine AW.seq ?_
  obtain ⟨x3, hx4, hH⟩ := bindE hH
  refine AW.le (Le.freezeB 1 rfl rfl) ?_
  refine AW.region ?_
  refine AO.pure T rfl rfl rfl ?_
  refine AO.pure T rfl rfl rfl ?_
  refine AO.step rfl (callM_ok rfl 3 rfl rfl (es := [.w 1 (x1.map encInt), .f 82 [.q [.s (List.map encResult l)]]]) (outs := [.w 1 (x3.map encInt), .u]) (ids := [2]) (by exact expLG_cons (.c (.rowR rfl)) (expLG_cons (.c (.f rfl)) (expLG_nil))) (by decide) (.inl (by rfl)) (by rfl) (slices_SortFunc_int_ok _ 82 [.q [.s (List.map encResult l)]] rfl (fun a0 a1 => impl_orderOf_c2_p fuel a0 a1 l) (fun a0 a1 q h => impl_orderOf_c2_ok fuel a0 a1  l q h) _ (hx4)) rfl (by rfl) rfl) ?_
  refine AO.nil ?_
  refine AW.seq ?_
  refine AW.region ?_
  refine AO.pure T rfl rfl rfl ?_
  refine AO.pure T rfl rfl rfl ?_
  refine AO.nil ?_
  refine AW.ret ?_
  cases someE hH
  exact ⟨trivial, _, [2], rfl, .c (.c (.rowR rfl)), by decide⟩

def impl_placeOf_l1 (l : List Result) (i : Int) (fuel : Nat) : List Result → Nat → Int → Option Int
  | [], k1, v16 =>
    some v16
  | y2 :: ys3, k1, v16 =>
    (getI l i).bind fun x18 =>
    (impl_compareResults_p fuel y2 x18).bind fun x20 =>
    cond (decide (x20 > 0))
      (impl_placeOf_l1 l i fuel ys3 (k1 + 1) (w64 (v16 + 1)))
      (impl_placeOf_l1 l i fuel ys3 (k1 + 1) v16)
def impl_placeOf_p (fuel : Nat) (l : List Result) (i : Int) : Option Int :=
  impl_placeOf_l1 l i fuel l 0 1
theorem impl_placeOf_ok (fuel : Nat) (l : List Result) (i : Int) (r : Int) (hH : impl_placeOf_p fuel l i = some r) : SpecR Tryz.prog 52 [.s (List.map encResult l), .v (.int .i64 i)] (.v (.int .i64 r)) := by
  refine fn_ok T Tryz.func52 rfl (by decide) rfl ?_
  refine AW.seq ?_
  refine AW.region ?_
  refine AO.pure T rfl rfl rfl ?_
  refine AO.nil ?_
  refine AW.seq ?_
  refine AW.region ?_
  refine AO.pure T rfl rfl rfl ?_
  refine AO.nil ?_
  refine AW.seq ?_
  refine AW.seq ?_
  refine AW.region ?_
  refine AO.pure T rfl rfl rfl ?_
  refine AO.val rfl rfl (len_map_ok T rfl rfl rfl) ?_
  refine AO.pure T rfl rfl rfl ?_
  refine AO.nil ?_
  refine AW.block ?_
  refine AW.loopS (fun s : Nat × Int => (⟨[(0, .s (List.map encResult l)), (1, .v (.int .i64 i)), (5, .v (.int .i64 s.2)), (8, .s (List.map encResult l)), (9, .v (.int .i64 (l.length : Int))), (10, .v (.int .i64 (s.1 : Int)))], [], 25, []⟩ : St)) (fun s => s.1 ≤ l.length ∧ impl_placeOf_l1 l i fuel (l.drop s.1) s.1 s.2 = some r) (fun s => l.length - s.1) (0, 1) ⟨Nat.zero_le _, hH⟩ ?_ ?_
  · exact Le.cut 0 0 rfl (by repeat' (first | exact trivial | refine ⟨⟨_, rfl, rfl⟩, ?_⟩)) (by repeat' (first | exact trivial | refine ⟨⟨_, rfl, rfl⟩, ?_⟩)) rfl
  · rintro ⟨k1, v16⟩ ⟨hk, hH⟩
    replace hH : impl_placeOf_l1 l i fuel (l.drop k1) k1 v16 = some r := hH
    show AW _ _ _ (⟨[(0, .s (List.map encResult l)), (1, .v (.int .i64 i)), (5, .v (.int .i64 v16)), (8, .s (List.map encResult l)), (9, .v (.int .i64 (l.length : Int))), (10, .v (.int .i64 (k1 : Int)))], [], 25, []⟩ : St)
    refine AW.boundM (t := 0) (l := l) rfl (fun hb5 => ?_)
    cases hd4 : l.drop k1 with
    | nil =>
      rw [hd4] at hH
      rw [impl_placeOf_l1] at hH
      have hlt6 := drop_ge hd4
      refine AW.seq ?_
      refine AW.region ?_
      refine AO.pure T rfl rfl rfl ?_
      refine AO.nil ?_
      refine AW.seq ?_
      refine AW.condF' (b := decide ((k1 : Int) < (l.length : Int))) rfl (rngF hlt6) ?_
      refine AW.exit ?_
      refine AW.seq ?_
      refine AW.region ?_
      refine AO.pure T rfl rfl rfl ?_
      refine AO.pure T rfl rfl rfl ?_
      refine AO.nil ?_
      refine AW.ret ?_
      cases someE hH
      exact ⟨trivial, _, [], rfl, .c (.c .v), by decide⟩
    | cons y2 ys3 =>
      rw [hd4] at hH
      rw [impl_placeOf_l1] at hH
      have hlt6 := drop_lt hd4
      refine AW.seq ?_
      refine AW.region ?_
      refine AO.pure T rfl rfl rfl ?_
      refine AO.nil ?_
      refine AW.seq ?_
      refine AW.condT' (b := decide ((k1 : Int) < (l.length : Int))) rfl (rngT hlt6) ?_
      refine AW.skip ?_
      refine AW.seq ?_
      refine AW.block ?_
      refine AW.seq ?_
      refine AW.region ?_
      refine AO.val rfl rfl (ix_map_ok T rfl rfl rfl rfl rfl (getI_drop hd4) rfl) ?_
      refine AO.pure T (d := .g [.v (.int .i64 y2.skater), .s (List.map encInt y2.scores)]) rfl rfl rfl ?_
      refine AO.step rfl (alloc_ok T rfl 3 rfl rfl rfl rfl rfl) ?_
      refine AO.step rfl (store_okE T rfl rfl rfl rfl rfl rfl rfl rfl rfl (ds' := [.v (.int .i64 y2.skater), .s (List.map encInt y2.scores)]) rfl) ?_
      refine AO.nil ?_
      refine AW.seq ?_
      obtain ⟨x18, hx19, hH⟩ := bindE hH
      obtain ⟨x20, hx21, hH⟩ := bindE hH
      refine AW.drawn 5 4 [] mix (by kernel_rfl) rfl ?_
      refine AD.pure T (d := .g [.v (.int .i64 y2.skater), .s (List.map encInt y2.scores)]) rfl rfl rfl ?_
      refine AD.pure T rfl rfl rfl ?_
      refine AD.pure T rfl rfl rfl ?_
      refine AD.val rfl rfl (ix_map_ok T rfl rfl rfl rfl rfl (hx19) rfl) ?_
      refine AD.pure T (d := .g [.v (.int .i64 x18.skater), .s (List.map encInt x18.scores)]) rfl rfl rfl ?_
      refine AD.nil ?_
      refine AO.val rfl rfl (callV_ok rfl rfl rfl rfl (impl_compareResults_ok fuel _ _ _ (hx21)) rfl) ?_
      refine AO.pure T rfl rfl rfl ?_
      refine AO.nil ?_
      refine AW.cond (b := decide (x20 > 0)) rfl (fun hc => ?_) (fun hc => ?_)
      · replace hH := condT hc hH
        refine AW.region ?_
        refine AO.pure T rfl rfl rfl ?_
        refine AO.val rfl rfl (arw_ok rfl rfl rfl rfl) ?_
        refine AO.pure T rfl rfl rfl ?_
        refine AO.nil ?_
        refine AW.region ?_
        refine AO.val rfl rfl (ar_ok rfl rfl rfl rfl (inI_succ hlt6 hb5)) ?_
        refine AO.pure T rfl rfl rfl ?_
        refine AO.nil ?_
        refine ⟨(k1 + 1, w64 (v16 + 1)), ⟨Nat.succ_le_of_lt hlt6, (by rw [drop_succ_of hd4]; exact hH)⟩, (by have := hlt6; dsimp only; omega), ?_⟩
        exact Le.cut 0 0 rfl (by repeat' (first | exact trivial | refine ⟨⟨_, rfl, rfl⟩, ?_⟩)) (by repeat' (first | exact trivial | refine ⟨⟨_, rfl, rfl⟩, ?_⟩)) rfl
      · replace hH := condF hc hH
        refine AW.skip ?_
        refine AW.region ?_
        refine AO.val rfl rfl (ar_ok rfl rfl rfl rfl (inI_succ hlt6 hb5)) ?_
        refine AO.pure T rfl rfl rfl ?_
        refine AO.nil ?_
        refine ⟨(k1 + 1, v16), ⟨Nat.succ_le_of_lt hlt6, (by rw [drop_succ_of hd4]; exact hH)⟩, (by have := hlt6; dsimp only; omega), ?_⟩
        exact Le.cut 0 0 rfl (by repeat' (first | exact trivial | refine ⟨⟨_, rfl, rfl⟩, ?_⟩)) (by repeat' (first | exact trivial | refine ⟨⟨_, rfl, rfl⟩, ?_⟩)) rfl

def impl_skatersOf_l1 (results : List Result) : List Int → Nat → List Int → Option ((List Int))
  | [], k1, v16 =>
    some v16
  | y2 :: ys3, k1, v16 =>
    (getI results y2).bind fun x18 =>
    (need (fitsB 8 (v16.length + ([x18.skater]).length))).bind fun u20 =>
    impl_skatersOf_l1 results ys3 (k1 + 1) (v16 ++ [x18.skater])
def impl_skatersOf_p (results : List Result) (indices : List Int) : Option (List Int) :=
  impl_skatersOf_l1 results indices 0 []
theorem impl_skatersOf_ok (results : List Result) (indices : List Int) (r : (List Int)) (hH : impl_skatersOf_p results indices = some r) : SpecR Tryz.prog 53 [.s (List.map encResult results), .s (List.map encInt indices)] (.w 1 (r.map encInt)) := by
  refine fn_ok T Tryz.func53 rfl (by decide) rfl ?_
  refine AW.seq ?_
  refine AW.region ?_
  refine AO.pure T rfl rfl rfl ?_
  refine AO.nil ?_
  refine AW.seq ?_
  refine AW.region ?_
  refine AO.step rfl (mk0_ok T rfl rfl rfl rfl) ?_
  refine AO.pure T rfl rfl rfl ?_
  refine AO.nil ?_
  refine AW.seq ?_
  refine AW.seq ?_
  refine AW.region ?_
  refine AO.pure T rfl rfl rfl ?_
  refine AO.val rfl rfl (len_map_ok T rfl rfl rfl) ?_
  refine AO.pure T rfl rfl rfl ?_
  refine AO.nil ?_
  refine AW.block ?_
  refine AW.loopS (fun s : Nat × (List Int) => (⟨[(0, .s (List.map encResult results)), (5, .R 4), (9, .s (List.map encInt indices)), (10, .v (.int .i64 (indices.length : Int))), (11, .v (.int .i64 (s.1 : Int)))], [(4, .row 1 (List.map encInt s.2))], 25, []⟩ : St)) (fun s => s.1 ≤ indices.length ∧ impl_skatersOf_l1 results (indices.drop s.1) s.1 s.2 = some r) (fun s => indices.length - s.1) (0, []) ⟨Nat.zero_le _, hH⟩ ?_ ?_
  · refine Le.trans (Le.void 5 4 1 rfl rfl) ?_
    exact Le.cut 0 0 rfl (by repeat' (first | exact trivial | refine ⟨⟨_, rfl, rfl⟩, ?_⟩)) (by repeat' (first | exact trivial | refine ⟨⟨_, rfl, rfl⟩, ?_⟩)) rfl
  · rintro ⟨k1, v16⟩ ⟨hk, hH⟩
    replace hH : impl_skatersOf_l1 results (indices.drop k1) k1 v16 = some r := hH
    show AW _ _ _ (⟨[(0, .s (List.map encResult results)), (5, .R 4), (9, .s (List.map encInt indices)), (10, .v (.int .i64 (indices.length : Int))), (11, .v (.int .i64 (k1 : Int)))], [(4, .row 1 (List.map encInt v16))], 25, []⟩ : St)
    refine AW.boundM (t := 9) (l := indices) rfl (fun hb5 => ?_)
    cases hd4 : indices.drop k1 with
    | nil =>
      rw [hd4] at hH
      rw [impl_skatersOf_l1] at hH
      have hlt6 := drop_ge hd4
      refine AW.seq ?_
      refine AW.region ?_
      refine AO.pure T rfl rfl rfl ?_
      refine AO.nil ?_
      refine AW.seq ?_
      refine AW.condF' (b := decide ((k1 : Int) < (indices.length : Int))) rfl (rngF hlt6) ?_
      refine AW.exit ?_
      refine AW.seq ?_
      refine AW.region ?_
      refine AO.pure T rfl rfl rfl ?_
      refine AO.pure T rfl rfl rfl ?_
      refine AO.nil ?_
      refine AW.ret ?_
      cases someE hH
      exact ⟨trivial, _, [4], rfl, .c (.c (.rowR rfl)), by decide⟩
    | cons y2 ys3 =>
      rw [hd4] at hH
      rw [impl_skatersOf_l1] at hH
      have hlt6 := drop_lt hd4
      refine AW.seq ?_
      refine AW.region ?_
      refine AO.pure T rfl rfl rfl ?_
      refine AO.nil ?_
      refine AW.seq ?_
      refine AW.condT' (b := decide ((k1 : Int) < (indices.length : Int))) rfl (rngT hlt6) ?_
      refine AW.skip ?_
      refine AW.seq ?_
      refine AW.block ?_
      refine AW.seq ?_
      refine AW.region ?_
      refine AO.val rfl rfl (ix_map_ok T rfl rfl rfl rfl rfl (getI_drop hd4) rfl) ?_
      refine AO.pure T rfl rfl rfl ?_
      refine AO.pure T rfl rfl rfl ?_
      refine AO.nil ?_
      obtain ⟨x18, hx19, hH⟩ := bindE hH
      obtain ⟨u20, hx21, hH⟩ := bindE hH
      refine AW.region ?_
      refine AO.pure T rfl rfl rfl ?_
      refine AO.pure T rfl rfl rfl ?_
      refine AO.pure T rfl rfl rfl ?_
      refine AO.val rfl rfl (ix_map_ok T rfl rfl rfl rfl rfl (hx19) rfl) ?_
      refine AO.pure T rfl rfl rfl ?_
      refine AO.pure T rfl rfl rfl ?_
      refine AO.step rfl (mk_map_ok T rfl 5 rfl rfl rfl rfl rfl (f := encInt) (l := [x18.skater]) rfl rfl (fun _ => rfl) rfl rfl rfl rfl rfl) ?_
      refine AO.step rfl (app_rv_map T rfl 6 rfl rfl rfl rfl rfl (by decide) rfl rfl rfl rfl (fun _ => rfl) (needT (hx21)) rfl rfl) ?_
      refine AO.pure T rfl rfl rfl ?_
      refine AO.nil ?_
      refine AW.region ?_
      refine AO.val rfl rfl (ar_ok rfl rfl rfl rfl (inI_succ hlt6 hb5)) ?_
      refine AO.pure T rfl rfl rfl ?_
      refine AO.nil ?_
      refine ⟨(k1 + 1, (v16 ++ [x18.skater])), ⟨Nat.succ_le_of_lt hlt6, (by rw [drop_succ_of hd4]; exact hH)⟩, (by have := hlt6; dsimp only; omega), ?_⟩
      exact Le.cut 6 4 rfl (by repeat' (first | exact trivial | refine ⟨⟨_, rfl, rfl⟩, ?_⟩)) (by repeat' (first | exact trivial | refine ⟨⟨_, rfl, rfl⟩, ?_⟩)) rfl

def impl_StandingsOf_l1 (e : Event) (fuel : Nat) (x3 : (List Int)) : List Int → Nat → List Int → Option (((List Int) × (List Int) × Bool))
  | [], k5, v20 =>
    (impl_skatersOf_p e.results x3).bind fun x22 =>
    some (x22, v20, true)
  | y6 :: ys7, k5, v20 =>
    (impl_placeOf_p fuel e.results y6).bind fun x24 =>
    (need (fitsB 8 (v20.length + ([x24]).length))).bind fun u26 =>
    impl_StandingsOf_l1 e fuel x3 ys7 (k5 + 1) (v20 ++ [x24])
def impl_StandingsOf_p (fuel : Nat) (e : Event) : Option ((List Int) × (List Int) × Bool) :=
  (impl_IsEvent_p e).bind fun x1 =>
  cond (!x1)
    (some ([], [], false))
    ((impl_orderOf_p fuel e.results).bind fun x3 =>
    impl_StandingsOf_l1 e fuel x3 x3 0 [])
theorem impl_StandingsOf_ok (fuel : Nat) (e : Event) (r : ((List Int) × (List Int) × Bool)) (hH : impl_StandingsOf_p fuel e = some r) : SpecR Tryz.prog 20 [.g (encEvent e)] (.t [.w 1 (r.1.map encInt), .w 1 (r.2.1.map encInt), .v (.bool r.2.2)]) := by
  refine fn_ok T Tryz.func20 rfl (by decide) rfl ?_
  refine AW.seq ?_
  refine AW.region ?_
  refine AO.step rfl (box_ok T rfl 1 rfl rfl rfl rfl) ?_
  refine AO.pure T rfl rfl rfl ?_
  refine AO.pure T rfl rfl rfl ?_
  refine AO.pure T rfl rfl rfl ?_
  refine AO.nil ?_
  refine AW.seq ?_
  refine AW.seq ?_
  obtain ⟨x1, hx2, hH⟩ := bindE hH
  refine AW.region ?_
  refine AO.pure T (d := .g [.v (.int .i64 e.segments), .v (.int .i64 e.size), .v (.int .i64 e.key), .s (List.map encEntrant e.entrants), .s (List.map encInt e.gone), .v (.int .i64 e.segment), .s (List.map encInt e.order), .s (List.map encResult e.results)]) rfl rfl rfl ?_
  refine AO.val rfl rfl (callV_ok rfl rfl rfl rfl (impl_IsEvent_ok _ _ (hx2)) rfl) ?_
  refine AO.pure T rfl rfl rfl ?_
  refine AO.nil ?_
  refine AW.cond (b := (!x1)) rfl (fun hc => ?_) (fun hc => ?_)
  · replace hH := condT hc hH
    refine AW.seq ?_
    refine AW.region ?_
    refine AO.pure T rfl rfl rfl ?_
    refine AO.pure T rfl rfl rfl ?_
    refine AO.pure T rfl rfl rfl ?_
    refine AO.nil ?_
    refine AW.ret ?_
    cases someE hH
    exact ⟨trivial, _, [], rfl, .t (expLG_cons (.c .nil) (expLG_cons (.c .nil) (expLG_cons (.c .v) (expLG_nil)))), by decide⟩
  · replace hH := condF hc hH
    refine AW.skip ?_
    refine AW.seq ?_
    obtain ⟨x3, hx4, hH⟩ := bindE hH
    refine AW.region ?_
    refine AO.pure T rfl rfl rfl ?_
    refine AO.pure T rfl rfl rfl ?_
    refine AO.step rfl (call_ok rfl 2 rfl rfl rfl (impl_orderOf_ok fuel _ _ (hx4)) rfl rfl rfl) ?_
    refine AO.step rfl (mk0_ok T rfl rfl rfl rfl) ?_
    refine AO.pure T rfl rfl rfl ?_
    refine AO.pure T rfl rfl rfl ?_
    refine AO.nil ?_
    refine AW.seq ?_
    refine AW.seq ?_
    refine AW.region ?_
    refine AO.pure T rfl rfl rfl ?_
    refine AO.val rfl rfl (len_row_ok T rfl rfl rfl rfl) ?_
    refine AO.pure T rfl rfl rfl ?_
    refine AO.nil ?_
    refine AW.block ?_
    refine AW.loopS (fun s : Nat × (List Int) => (⟨[(1, .p 1 0), (5, .R 2), (6, .R 6), (16, .R 2), (17, .v (.int .i64 (x3.length : Int))), (18, .v (.int .i64 (s.1 : Int)))], [(1, .box [.v (.int .i64 e.segments), .v (.int .i64 e.size), .v (.int .i64 e.key), .s (List.map encEntrant e.entrants), .s (List.map encInt e.gone), .v (.int .i64 e.segment), .s (List.map encInt e.order), .s (List.map encResult e.results)]), (2, .row 1 (List.map encInt x3)), (6, .row 1 (List.map encInt s.2))], 35, []⟩ : St)) (fun s => s.1 ≤ x3.length ∧ impl_StandingsOf_l1 e fuel x3 (x3.drop s.1) s.1 s.2 = some r) (fun s => x3.length - s.1) (0, []) ⟨Nat.zero_le _, hH⟩ ?_ ?_
    · refine Le.trans (Le.void 6 6 1 rfl rfl) ?_
      exact Le.cut 0 0 rfl (by repeat' (first | exact trivial | refine ⟨⟨_, rfl, rfl⟩, ?_⟩)) (by repeat' (first | exact trivial | refine ⟨⟨_, rfl, rfl⟩, ?_⟩)) rfl
    · rintro ⟨k5, v20⟩ ⟨hk, hH⟩
      replace hH : impl_StandingsOf_l1 e fuel x3 (x3.drop k5) k5 v20 = some r := hH
      show AW _ _ _ (⟨[(1, .p 1 0), (5, .R 2), (6, .R 6), (16, .R 2), (17, .v (.int .i64 (x3.length : Int))), (18, .v (.int .i64 (k5 : Int)))], [(1, .box [.v (.int .i64 e.segments), .v (.int .i64 e.size), .v (.int .i64 e.key), .s (List.map encEntrant e.entrants), .s (List.map encInt e.gone), .v (.int .i64 e.segment), .s (List.map encInt e.order), .s (List.map encResult e.results)]), (2, .row 1 (List.map encInt x3)), (6, .row 1 (List.map encInt v20))], 35, []⟩ : St)
      refine AW.boundR (id := 2) (l := x3) rfl (fun hb9 => ?_)
      cases hd8 : x3.drop k5 with
      | nil =>
        rw [hd8] at hH
        rw [impl_StandingsOf_l1] at hH
        have hlt10 := drop_ge hd8
        refine AW.seq ?_
        refine AW.region ?_
        refine AO.pure T rfl rfl rfl ?_
        refine AO.nil ?_
        refine AW.seq ?_
        refine AW.condF' (b := decide ((k5 : Int) < (x3.length : Int))) rfl (rngF hlt10) ?_
        refine AW.exit ?_
        refine AW.seq ?_
        obtain ⟨x22, hx23, hH⟩ := bindE hH
        refine AW.region ?_
        refine AO.pure T rfl rfl rfl ?_
        refine AO.pure T rfl rfl rfl ?_
        refine AO.pure T rfl rfl rfl ?_
        refine AO.step rfl (callL_ok rfl 7 rfl rfl (es := [.s (List.map encResult e.results), .s (List.map encInt x3)]) (by exact ⟨.free rfl, (.rowR rfl (.map fun y => .vs rfl)), trivial⟩) (impl_skatersOf_ok _ _ _ (hx23)) (zfree_map (fun y => (.cons (zfree_v _) .nil))) rfl rfl rfl) ?_
        refine AO.pure T rfl rfl rfl ?_
        refine AO.pure T rfl rfl rfl ?_
        refine AO.pure T rfl rfl rfl ?_
        refine AO.pure T rfl rfl rfl ?_
        refine AO.nil ?_
        refine AW.ret ?_
        cases someE hH
        exact ⟨trivial, _, [7, 6], rfl, .t (expLG_cons (.c (.rowR rfl)) (expLG_cons (.c (.rowR rfl)) (expLG_cons (.c .v) (expLG_nil)))), by decide⟩
      | cons y6 ys7 =>
        rw [hd8] at hH
        rw [impl_StandingsOf_l1] at hH
        have hlt10 := drop_lt hd8
        refine AW.seq ?_
        refine AW.region ?_
        refine AO.pure T rfl rfl rfl ?_
        refine AO.nil ?_
        refine AW.seq ?_
        refine AW.condT' (b := decide ((k5 : Int) < (x3.length : Int))) rfl (rngT hlt10) ?_
        refine AW.skip ?_
        refine AW.seq ?_
        refine AW.block ?_
        refine AW.seq ?_
        refine AW.region ?_
        refine AO.val rfl rfl (ix_row_ok T rfl rfl rfl rfl rfl rfl (getI_drop hd8)) ?_
        refine AO.val rfl rfl (load_row_ok T rfl rfl rfl rfl (getI_get (getI_drop hd8)) rfl rfl rfl) ?_
        refine AO.pure T rfl rfl rfl ?_
        refine AO.nil ?_
        obtain ⟨x24, hx25, hH⟩ := bindE hH
        obtain ⟨u26, hx27, hH⟩ := bindE hH
        refine AW.region ?_
        refine AO.pure T rfl rfl rfl ?_
        refine AO.pure T rfl rfl rfl ?_
        refine AO.pure T rfl rfl rfl ?_
        refine AO.pure T rfl rfl rfl ?_
        refine AO.val rfl rfl (callV_ok rfl rfl rfl rfl (impl_placeOf_ok fuel _ _ _ (hx25)) rfl) ?_
        refine AO.step rfl (mk_map_ok T rfl 8 rfl rfl rfl rfl rfl (f := encInt) (l := [x24]) rfl rfl (fun _ => rfl) rfl rfl rfl rfl rfl) ?_
        refine AO.step rfl (app_rv_map T rfl 9 rfl rfl rfl rfl rfl (by decide) rfl rfl rfl rfl (fun _ => rfl) (needT (hx27)) rfl rfl) ?_
        refine AO.pure T rfl rfl rfl ?_
        refine AO.nil ?_
        refine AW.region ?_
        refine AO.val rfl rfl (ar_ok rfl rfl rfl rfl (inI_succ hlt10 hb9)) ?_
        refine AO.pure T rfl rfl rfl ?_
        refine AO.nil ?_
        refine ⟨(k5 + 1, (v20 ++ [x24])), ⟨Nat.succ_le_of_lt hlt10, (by rw [drop_succ_of hd8]; exact hH)⟩, (by have := hlt10; dsimp only; omega), ?_⟩
        exact Le.cut 9 6 rfl (by repeat' (first | exact trivial | refine ⟨⟨_, rfl, rfl⟩, ?_⟩)) (by repeat' (first | exact trivial | refine ⟨⟨_, rfl, rfl⟩, ?_⟩)) rfl

def laws_eqIntS_l1 (b : List Int) : List Int → Nat → Option Bool
  | [], k1 =>
    some true
  | y2 :: ys3, k1 =>
    (getI b (k1 : Int)).bind fun x12 =>
    cond (y2 != x12)
      (some false)
      (laws_eqIntS_l1 b ys3 (k1 + 1))
def laws_eqIntS_p (a : List Int) (b : List Int) : Option Bool :=
  cond ((a.length : Int) != (b.length : Int))
    (some false)
    (laws_eqIntS_l1 b a 0)
theorem laws_eqIntS_ok (a : List Int) (b : List Int) (r : Bool) (hH : laws_eqIntS_p a b = some r) : SpecR Tryz.prog 21 [.s (List.map encInt a), .s (List.map encInt b)] (.v (.bool r)) := by
  refine fn_ok T Tryz.func21 rfl (by decide) rfl ?_
  refine AW.seq ?_
  refine AW.region ?_
  refine AO.pure T rfl rfl rfl ?_
  refine AO.nil ?_
  refine AW.seq ?_
  refine AW.seq ?_
  refine AW.region ?_
  refine AO.pure T rfl rfl rfl ?_
  refine AO.val rfl rfl (len_map_ok T rfl rfl rfl) ?_
  refine AO.pure T rfl rfl rfl ?_
  refine AO.val rfl rfl (len_map_ok T rfl rfl rfl) ?_
  refine AO.pure T rfl rfl rfl ?_
  refine AO.nil ?_
  refine AW.cond (b := ((a.length : Int) != (b.length : Int))) rfl (fun hc => ?_) (fun hc => ?_)
  · replace hH := condT hc hH
    refine AW.seq ?_
    refine AW.region ?_
    refine AO.pure T rfl rfl rfl ?_
    refine AO.nil ?_
    refine AW.ret ?_
    cases someE hH
    exact ⟨trivial, _, [], rfl, .c (.c .v), by decide⟩
  · replace hH := condF hc hH
    refine AW.skip ?_
    refine AW.seq ?_
    refine AW.seq ?_
    refine AW.region ?_
    refine AO.pure T rfl rfl rfl ?_
    refine AO.nil ?_
    refine AW.block ?_
    refine AW.loopS (fun s : Nat => (⟨[(0, .s (List.map encInt a)), (1, .s (List.map encInt b)), (5, .v (.int .i64 (s : Int)))], [], 26, []⟩ : St)) (fun s => s ≤ a.length ∧ laws_eqIntS_l1 b (a.drop s) s = some r) (fun s => a.length - s) 0 ⟨Nat.zero_le _, hH⟩ ?_ ?_
    · exact Le.cut 0 0 rfl (by repeat' (first | exact trivial | refine ⟨⟨_, rfl, rfl⟩, ?_⟩)) (by repeat' (first | exact trivial | refine ⟨⟨_, rfl, rfl⟩, ?_⟩)) rfl
    · rintro k1 ⟨hk, hH⟩
      replace hH : laws_eqIntS_l1 b (a.drop k1) k1 = some r := hH
      show AW _ _ _ (⟨[(0, .s (List.map encInt a)), (1, .s (List.map encInt b)), (5, .v (.int .i64 (k1 : Int)))], [], 26, []⟩ : St)
      refine AW.boundM (t := 0) (l := a) rfl (fun hb5 => ?_)
      cases hd4 : a.drop k1 with
      | nil =>
        rw [hd4] at hH
        rw [laws_eqIntS_l1] at hH
        have hlt6 := drop_ge hd4
        refine AW.seq ?_
        refine AW.seq ?_
        refine AW.region ?_
        refine AO.pure T rfl rfl rfl ?_
        refine AO.pure T rfl rfl rfl ?_
        refine AO.val rfl rfl (len_map_ok T rfl rfl rfl) ?_
        refine AO.pure T rfl rfl rfl ?_
        refine AO.nil ?_
        refine AW.condF' (b := decide ((k1 : Int) < (a.length : Int))) rfl (rngF hlt6) ?_
        refine AW.exit ?_
        refine AW.seq ?_
        refine AW.region ?_
        refine AO.pure T rfl rfl rfl ?_
        refine AO.nil ?_
        refine AW.ret ?_
        cases someE hH
        exact ⟨trivial, _, [], rfl, .c (.c .v), by decide⟩
      | cons y2 ys3 =>
        rw [hd4] at hH
        rw [laws_eqIntS_l1] at hH
        have hlt6 := drop_lt hd4
        refine AW.seq ?_
        refine AW.seq ?_
        refine AW.region ?_
        refine AO.pure T rfl rfl rfl ?_
        refine AO.pure T rfl rfl rfl ?_
        refine AO.val rfl rfl (len_map_ok T rfl rfl rfl) ?_
        refine AO.pure T rfl rfl rfl ?_
        refine AO.nil ?_
        refine AW.condT' (b := decide ((k1 : Int) < (a.length : Int))) rfl (rngT hlt6) ?_
        refine AW.skip ?_
        refine AW.seq ?_
        refine AW.block ?_
        refine AW.seq ?_
        obtain ⟨x12, hx13, hH⟩ := bindE hH
        refine AW.drawn 8 1 [] mix (by kernel_rfl) rfl ?_
        refine AD.pure T rfl rfl rfl ?_
        refine AD.pure T rfl rfl rfl ?_
        refine AD.val rfl rfl (ix_map_ok T rfl rfl rfl rfl rfl (getI_drop hd4) rfl) ?_
        refine AD.pure T rfl rfl rfl ?_
        refine AD.pure T rfl rfl rfl ?_
        refine AD.pure T rfl rfl rfl ?_
        refine AD.val rfl rfl (ix_map_ok T rfl rfl rfl rfl rfl (hx13) rfl) ?_
        refine AD.pure T rfl rfl rfl ?_
        refine AD.nil ?_
        refine AO.pure T rfl rfl rfl ?_
        refine AO.nil ?_
        refine AW.cond (b := (y2 != x12)) rfl (fun hc => ?_) (fun hc => ?_)
        · replace hH := condT hc hH
          refine AW.seq ?_
          refine AW.region ?_
          refine AO.pure T rfl rfl rfl ?_
          refine AO.nil ?_
          refine AW.ret ?_
          cases someE hH
          exact ⟨trivial, _, [], rfl, .c (.c .v), by decide⟩
        · replace hH := condF hc hH
          refine AW.skip ?_
          refine AW.region ?_
          refine AO.pure T rfl rfl rfl ?_
          refine AO.val rfl rfl (ar_ok rfl rfl rfl rfl (inI_succ hlt6 hb5)) ?_
          refine AO.pure T rfl rfl rfl ?_
          refine AO.nil ?_
          refine ⟨k1 + 1, ⟨Nat.succ_le_of_lt hlt6, (by rw [drop_succ_of hd4]; exact hH)⟩, (by have := hlt6; dsimp only; omega), ?_⟩
          exact Le.cut 0 0 rfl (by repeat' (first | exact trivial | refine ⟨⟨_, rfl, rfl⟩, ?_⟩)) (by repeat' (first | exact trivial | refine ⟨⟨_, rfl, rfl⟩, ?_⟩)) rfl

def laws_eqEntrant_p (a : Entrant) (b : Entrant) : Option Bool :=
  cond (a.skater != b.skater)
    (some false)
    (cond (a.rank != b.rank)
      (some false)
      (some true))
theorem laws_eqEntrant_ok (a : Entrant) (b : Entrant) (r : Bool) (hH : laws_eqEntrant_p a b = some r) : SpecR Tryz.prog 59 [.g (encEntrant a), .g (encEntrant b)] (.v (.bool r)) := by
  refine fn_ok T Tryz.func59 rfl (by decide) rfl ?_
  refine AW.seq ?_
  refine AW.region ?_
  refine AO.step rfl (box_ok T rfl 1 rfl rfl rfl rfl) ?_
  refine AO.step rfl (box_ok T rfl 2 rfl rfl rfl rfl) ?_
  refine AO.pure T rfl rfl rfl ?_
  refine AO.nil ?_
  refine AW.seq ?_
  refine AW.seq ?_
  refine AW.region ?_
  refine AO.pure T rfl rfl rfl ?_
  refine AO.pure T rfl rfl rfl ?_
  refine AO.pure T rfl rfl rfl ?_
  refine AO.pure T rfl rfl rfl ?_
  refine AO.pure T rfl rfl rfl ?_
  refine AO.nil ?_
  refine AW.cond (b := (a.skater != b.skater)) rfl (fun hc => ?_) (fun hc => ?_)
  · replace hH := condT hc hH
    refine AW.seq ?_
    refine AW.region ?_
    refine AO.pure T rfl rfl rfl ?_
    refine AO.nil ?_
    refine AW.ret ?_
    cases someE hH
    exact ⟨trivial, _, [], rfl, .c (.c .v), by decide⟩
  · replace hH := condF hc hH
    refine AW.skip ?_
    refine AW.seq ?_
    refine AW.seq ?_
    refine AW.region ?_
    refine AO.pure T rfl rfl rfl ?_
    refine AO.pure T rfl rfl rfl ?_
    refine AO.pure T rfl rfl rfl ?_
    refine AO.pure T rfl rfl rfl ?_
    refine AO.pure T rfl rfl rfl ?_
    refine AO.nil ?_
    refine AW.cond (b := (a.rank != b.rank)) rfl (fun hc => ?_) (fun hc => ?_)
    · replace hH := condT hc hH
      refine AW.seq ?_
      refine AW.region ?_
      refine AO.pure T rfl rfl rfl ?_
      refine AO.nil ?_
      refine AW.ret ?_
      cases someE hH
      exact ⟨trivial, _, [], rfl, .c (.c .v), by decide⟩
    · replace hH := condF hc hH
      refine AW.skip ?_
      refine AW.seq ?_
      refine AW.region ?_
      refine AO.pure T rfl rfl rfl ?_
      refine AO.nil ?_
      refine AW.ret ?_
      cases someE hH
      exact ⟨trivial, _, [], rfl, .c (.c .v), by decide⟩

def laws_eqEntrantS_l1 (b : List Entrant) : List Entrant → Nat → Option Bool
  | [], k1 =>
    some true
  | y2 :: ys3, k1 =>
    (getI b (k1 : Int)).bind fun x16 =>
    (laws_eqEntrant_p y2 x16).bind fun x18 =>
    cond (!x18)
      (some false)
      (laws_eqEntrantS_l1 b ys3 (k1 + 1))
def laws_eqEntrantS_p (a : List Entrant) (b : List Entrant) : Option Bool :=
  cond ((a.length : Int) != (b.length : Int))
    (some false)
    (laws_eqEntrantS_l1 b a 0)
theorem laws_eqEntrantS_ok (a : List Entrant) (b : List Entrant) (r : Bool) (hH : laws_eqEntrantS_p a b = some r) : SpecR Tryz.prog 34 [.s (List.map encEntrant a), .s (List.map encEntrant b)] (.v (.bool r)) := by
  refine fn_ok T Tryz.func34 rfl (by decide) rfl ?_
  refine AW.seq ?_
  refine AW.region ?_
  refine AO.pure T rfl rfl rfl ?_
  refine AO.nil ?_
  refine AW.seq ?_
  refine AW.seq ?_
  refine AW.region ?_
  refine AO.pure T rfl rfl rfl ?_
  refine AO.val rfl rfl (len_map_ok T rfl rfl rfl) ?_
  refine AO.pure T rfl rfl rfl ?_
  refine AO.val rfl rfl (len_map_ok T rfl rfl rfl) ?_
  refine AO.pure T rfl rfl rfl ?_
  refine AO.nil ?_
  refine AW.cond (b := ((a.length : Int) != (b.length : Int))) rfl (fun hc => ?_) (fun hc => ?_)
  · replace hH := condT hc hH
    refine AW.seq ?_
    refine AW.region ?_
    refine AO.pure T rfl rfl rfl ?_
    refine AO.nil ?_
    refine AW.ret ?_
    cases someE hH
    exact ⟨trivial, _, [], rfl, .c (.c .v), by decide⟩
  · replace hH := condF hc hH
    refine AW.skip ?_
    refine AW.seq ?_
    refine AW.seq ?_
    refine AW.region ?_
    refine AO.pure T rfl rfl rfl ?_
    refine AO.nil ?_
    refine AW.block ?_
    refine AW.loopS (fun s : Nat => (⟨[(0, .s (List.map encEntrant a)), (1, .s (List.map encEntrant b)), (5, .v (.int .i64 (s : Int)))], [], 27, []⟩ : St)) (fun s => s ≤ a.length ∧ laws_eqEntrantS_l1 b (a.drop s) s = some r) (fun s => a.length - s) 0 ⟨Nat.zero_le _, hH⟩ ?_ ?_
    · exact Le.cut 0 0 rfl (by repeat' (first | exact trivial | refine ⟨⟨_, rfl, rfl⟩, ?_⟩)) (by repeat' (first | exact trivial | refine ⟨⟨_, rfl, rfl⟩, ?_⟩)) rfl
    · rintro k1 ⟨hk, hH⟩
      replace hH : laws_eqEntrantS_l1 b (a.drop k1) k1 = some r := hH
      show AW _ _ _ (⟨[(0, .s (List.map encEntrant a)), (1, .s (List.map encEntrant b)), (5, .v (.int .i64 (k1 : Int)))], [], 27, []⟩ : St)
      refine AW.boundM (t := 0) (l := a) rfl (fun hb5 => ?_)
      cases hd4 : a.drop k1 with
      | nil =>
        rw [hd4] at hH
        rw [laws_eqEntrantS_l1] at hH
        have hlt6 := drop_ge hd4
        refine AW.seq ?_
        refine AW.seq ?_
        refine AW.region ?_
        refine AO.pure T rfl rfl rfl ?_
        refine AO.pure T rfl rfl rfl ?_
        refine AO.val rfl rfl (len_map_ok T rfl rfl rfl) ?_
        refine AO.pure T rfl rfl rfl ?_
        refine AO.nil ?_
        refine AW.condF' (b := decide ((k1 : Int) < (a.length : Int))) rfl (rngF hlt6) ?_
        refine AW.exit ?_
        refine AW.seq ?_
        refine AW.region ?_
        refine AO.pure T rfl rfl rfl ?_
        refine AO.nil ?_
        refine AW.ret ?_
        cases someE hH
        exact ⟨trivial, _, [], rfl, .c (.c .v), by decide⟩
      | cons y2 ys3 =>
        rw [hd4] at hH
        rw [laws_eqEntrantS_l1] at hH
        have hlt6 := drop_lt hd4
        refine AW.seq ?_
        refine AW.seq ?_
        refine AW.region ?_
        refine AO.pure T rfl rfl rfl ?_
        refine AO.pure T rfl rfl rfl ?_
        refine AO.val rfl rfl (len_map_ok T rfl rfl rfl) ?_
        refine AO.pure T rfl rfl rfl ?_
        refine AO.nil ?_
        refine AW.condT' (b := decide ((k1 : Int) < (a.length : Int))) rfl (rngT hlt6) ?_
        refine AW.skip ?_
        refine AW.seq ?_
        refine AW.block ?_
        refine AW.seq ?_
        obtain ⟨x16, hx17, hH⟩ := bindE hH
        obtain ⟨x18, hx19, hH⟩ := bindE hH
        refine AW.drawn 8 1 [] mix (by kernel_rfl) rfl ?_
        refine AD.pure T rfl rfl rfl ?_
        refine AD.pure T rfl rfl rfl ?_
        refine AD.val rfl rfl (ix_map_ok T rfl rfl rfl rfl rfl (getI_drop hd4) rfl) ?_
        refine AD.pure T (d := .g [.v (.int .i64 y2.skater), .v (.int .i64 y2.rank)]) rfl rfl rfl ?_
        refine AD.pure T rfl rfl rfl ?_
        refine AD.pure T rfl rfl rfl ?_
        refine AD.val rfl rfl (ix_map_ok T rfl rfl rfl rfl rfl (hx17) rfl) ?_
        refine AD.pure T (d := .g [.v (.int .i64 x16.skater), .v (.int .i64 x16.rank)]) rfl rfl rfl ?_
        refine AD.nil ?_
        refine AO.val rfl rfl (callV_ok rfl rfl rfl rfl (laws_eqEntrant_ok _ _ _ (hx19)) rfl) ?_
        refine AO.pure T rfl rfl rfl ?_
        refine AO.nil ?_
        refine AW.cond (b := (!x18)) rfl (fun hc => ?_) (fun hc => ?_)
        · replace hH := condT hc hH
          refine AW.seq ?_
          refine AW.region ?_
          refine AO.pure T rfl rfl rfl ?_
          refine AO.nil ?_
          refine AW.ret ?_
          cases someE hH
          exact ⟨trivial, _, [], rfl, .c (.c .v), by decide⟩
        · replace hH := condF hc hH
          refine AW.skip ?_
          refine AW.region ?_
          refine AO.pure T rfl rfl rfl ?_
          refine AO.val rfl rfl (ar_ok rfl rfl rfl rfl (inI_succ hlt6 hb5)) ?_
          refine AO.pure T rfl rfl rfl ?_
          refine AO.nil ?_
          refine ⟨k1 + 1, ⟨Nat.succ_le_of_lt hlt6, (by rw [drop_succ_of hd4]; exact hH)⟩, (by have := hlt6; dsimp only; omega), ?_⟩
          exact Le.cut 0 0 rfl (by repeat' (first | exact trivial | refine ⟨⟨_, rfl, rfl⟩, ?_⟩)) (by repeat' (first | exact trivial | refine ⟨⟨_, rfl, rfl⟩, ?_⟩)) rfl

def laws_eqResult_p (a : Result) (b : Result) : Option Bool :=
  cond (a.skater != b.skater)
    (some false)
    ((laws_eqIntS_p a.scores b.scores).bind fun x1 =>
    cond (!x1)
      (some false)
      (some true))
theorem laws_eqResult_ok (a : Result) (b : Result) (r : Bool) (hH : laws_eqResult_p a b = some r) : SpecR Tryz.prog 60 [.g (encResult a), .g (encResult b)] (.v (.bool r)) := by
  refine fn_ok T Tryz.func60 rfl (by decide) rfl ?_
  refine AW.seq ?_
  refine AW.region ?_
  refine AO.step rfl (box_ok T rfl 1 rfl rfl rfl rfl) ?_
  refine AO.step rfl (box_ok T rfl 2 rfl rfl rfl rfl) ?_
  refine AO.pure T rfl rfl rfl ?_
  refine AO.nil ?_
  refine AW.seq ?_
  refine AW.seq ?_
  refine AW.region ?_
  refine AO.pure T rfl rfl rfl ?_
  refine AO.pure T rfl rfl rfl ?_
  refine AO.pure T rfl rfl rfl ?_
  refine AO.pure T rfl rfl rfl ?_
  refine AO.pure T rfl rfl rfl ?_
  refine AO.nil ?_
  refine AW.cond (b := (a.skater != b.skater)) rfl (fun hc => ?_) (fun hc => ?_)
  · replace hH := condT hc hH
    refine AW.seq ?_
    refine AW.region ?_
    refine AO.pure T rfl rfl rfl ?_
    refine AO.nil ?_
    refine AW.ret ?_
    cases someE hH
    exact ⟨trivial, _, [], rfl, .c (.c .v), by decide⟩
  · replace hH := condF hc hH
    refine AW.skip ?_
    refine AW.seq ?_
    refine AW.seq ?_
    obtain ⟨x1, hx2, hH⟩ := bindE hH
    refine AW.region ?_
    refine AO.pure T rfl rfl rfl ?_
    refine AO.pure T rfl rfl rfl ?_
    refine AO.pure T rfl rfl rfl ?_
    refine AO.pure T rfl rfl rfl ?_
    refine AO.val rfl rfl (callV_ok rfl rfl rfl rfl (laws_eqIntS_ok _ _ _ (hx2)) rfl) ?_
    refine AO.pure T rfl rfl rfl ?_
    refine AO.nil ?_
    refine AW.cond (b := (!x1)) rfl (fun hc => ?_) (fun hc => ?_)
    · replace hH := condT hc hH
      refine AW.seq ?_
      refine AW.region ?_
      refine AO.pure T rfl rfl rfl ?_
      refine AO.nil ?_
      refine AW.ret ?_
      cases someE hH
      exact ⟨trivial, _, [], rfl, .c (.c .v), by decide⟩
    · replace hH := condF hc hH
      refine AW.skip ?_
      refine AW.seq ?_
      refine AW.region ?_
      refine AO.pure T rfl rfl rfl ?_
      refine AO.nil ?_
      refine AW.ret ?_
      cases someE hH
      exact ⟨trivial, _, [], rfl, .c (.c .v), by decide⟩

def laws_eqResultS_l1 (b : List Result) : List Result → Nat → Option Bool
  | [], k1 =>
    some true
  | y2 :: ys3, k1 =>
    (getI b (k1 : Int)).bind fun x16 =>
    (laws_eqResult_p y2 x16).bind fun x18 =>
    cond (!x18)
      (some false)
      (laws_eqResultS_l1 b ys3 (k1 + 1))
def laws_eqResultS_p (a : List Result) (b : List Result) : Option Bool :=
  cond ((a.length : Int) != (b.length : Int))
    (some false)
    (laws_eqResultS_l1 b a 0)
theorem laws_eqResultS_ok (a : List Result) (b : List Result) (r : Bool) (hH : laws_eqResultS_p a b = some r) : SpecR Tryz.prog 35 [.s (List.map encResult a), .s (List.map encResult b)] (.v (.bool r)) := by
  refine fn_ok T Tryz.func35 rfl (by decide) rfl ?_
  refine AW.seq ?_
  refine AW.region ?_
  refine AO.pure T rfl rfl rfl ?_
  refine AO.nil ?_
  refine AW.seq ?_
  refine AW.seq ?_
  refine AW.region ?_
  refine AO.pure T rfl rfl rfl ?_
  refine AO.val rfl rfl (len_map_ok T rfl rfl rfl) ?_
  refine AO.pure T rfl rfl rfl ?_
  refine AO.val rfl rfl (len_map_ok T rfl rfl rfl) ?_
  refine AO.pure T rfl rfl rfl ?_
  refine AO.nil ?_
  refine AW.cond (b := ((a.length : Int) != (b.length : Int))) rfl (fun hc => ?_) (fun hc => ?_)
  · replace hH := condT hc hH
    refine AW.seq ?_
    refine AW.region ?_
    refine AO.pure T rfl rfl rfl ?_
    refine AO.nil ?_
    refine AW.ret ?_
    cases someE hH
    exact ⟨trivial, _, [], rfl, .c (.c .v), by decide⟩
  · replace hH := condF hc hH
    refine AW.skip ?_
    refine AW.seq ?_
    refine AW.seq ?_
    refine AW.region ?_
    refine AO.pure T rfl rfl rfl ?_
    refine AO.nil ?_
    refine AW.block ?_
    refine AW.loopS (fun s : Nat => (⟨[(0, .s (List.map encResult a)), (1, .s (List.map encResult b)), (5, .v (.int .i64 (s : Int)))], [], 27, []⟩ : St)) (fun s => s ≤ a.length ∧ laws_eqResultS_l1 b (a.drop s) s = some r) (fun s => a.length - s) 0 ⟨Nat.zero_le _, hH⟩ ?_ ?_
    · exact Le.cut 0 0 rfl (by repeat' (first | exact trivial | refine ⟨⟨_, rfl, rfl⟩, ?_⟩)) (by repeat' (first | exact trivial | refine ⟨⟨_, rfl, rfl⟩, ?_⟩)) rfl
    · rintro k1 ⟨hk, hH⟩
      replace hH : laws_eqResultS_l1 b (a.drop k1) k1 = some r := hH
      show AW _ _ _ (⟨[(0, .s (List.map encResult a)), (1, .s (List.map encResult b)), (5, .v (.int .i64 (k1 : Int)))], [], 27, []⟩ : St)
      refine AW.boundM (t := 0) (l := a) rfl (fun hb5 => ?_)
      cases hd4 : a.drop k1 with
      | nil =>
        rw [hd4] at hH
        rw [laws_eqResultS_l1] at hH
        have hlt6 := drop_ge hd4
        refine AW.seq ?_
        refine AW.seq ?_
        refine AW.region ?_
        refine AO.pure T rfl rfl rfl ?_
        refine AO.pure T rfl rfl rfl ?_
        refine AO.val rfl rfl (len_map_ok T rfl rfl rfl) ?_
        refine AO.pure T rfl rfl rfl ?_
        refine AO.nil ?_
        refine AW.condF' (b := decide ((k1 : Int) < (a.length : Int))) rfl (rngF hlt6) ?_
        refine AW.exit ?_
        refine AW.seq ?_
        refine AW.region ?_
        refine AO.pure T rfl rfl rfl ?_
        refine AO.nil ?_
        refine AW.ret ?_
        cases someE hH
        exact ⟨trivial, _, [], rfl, .c (.c .v), by decide⟩
      | cons y2 ys3 =>
        rw [hd4] at hH
        rw [laws_eqResultS_l1] at hH
        have hlt6 := drop_lt hd4
        refine AW.seq ?_
        refine AW.seq ?_
        refine AW.region ?_
        refine AO.pure T rfl rfl rfl ?_
        refine AO.pure T rfl rfl rfl ?_
        refine AO.val rfl rfl (len_map_ok T rfl rfl rfl) ?_
        refine AO.pure T rfl rfl rfl ?_
        refine AO.nil ?_
        refine AW.condT' (b := decide ((k1 : Int) < (a.length : Int))) rfl (rngT hlt6) ?_
        refine AW.skip ?_
        refine AW.seq ?_
        refine AW.block ?_
        refine AW.seq ?_
        obtain ⟨x16, hx17, hH⟩ := bindE hH
        obtain ⟨x18, hx19, hH⟩ := bindE hH
        refine AW.drawn 8 1 [] mix (by kernel_rfl) rfl ?_
        refine AD.pure T rfl rfl rfl ?_
        refine AD.pure T rfl rfl rfl ?_
        refine AD.val rfl rfl (ix_map_ok T rfl rfl rfl rfl rfl (getI_drop hd4) rfl) ?_
        refine AD.pure T (d := .g [.v (.int .i64 y2.skater), .s (List.map encInt y2.scores)]) rfl rfl rfl ?_
        refine AD.pure T rfl rfl rfl ?_
        refine AD.pure T rfl rfl rfl ?_
        refine AD.val rfl rfl (ix_map_ok T rfl rfl rfl rfl rfl (hx17) rfl) ?_
        refine AD.pure T (d := .g [.v (.int .i64 x16.skater), .s (List.map encInt x16.scores)]) rfl rfl rfl ?_
        refine AD.nil ?_
        refine AO.val rfl rfl (callV_ok rfl rfl rfl rfl (laws_eqResult_ok _ _ _ (hx19)) rfl) ?_
        refine AO.pure T rfl rfl rfl ?_
        refine AO.nil ?_
        refine AW.cond (b := (!x18)) rfl (fun hc => ?_) (fun hc => ?_)
        · replace hH := condT hc hH
          refine AW.seq ?_
          refine AW.region ?_
          refine AO.pure T rfl rfl rfl ?_
          refine AO.nil ?_
          refine AW.ret ?_
          cases someE hH
          exact ⟨trivial, _, [], rfl, .c (.c .v), by decide⟩
        · replace hH := condF hc hH
          refine AW.skip ?_
          refine AW.region ?_
          refine AO.pure T rfl rfl rfl ?_
          refine AO.val rfl rfl (ar_ok rfl rfl rfl rfl (inI_succ hlt6 hb5)) ?_
          refine AO.pure T rfl rfl rfl ?_
          refine AO.nil ?_
          refine ⟨k1 + 1, ⟨Nat.succ_le_of_lt hlt6, (by rw [drop_succ_of hd4]; exact hH)⟩, (by have := hlt6; dsimp only; omega), ?_⟩
          exact Le.cut 0 0 rfl (by repeat' (first | exact trivial | refine ⟨⟨_, rfl, rfl⟩, ?_⟩)) (by repeat' (first | exact trivial | refine ⟨⟨_, rfl, rfl⟩, ?_⟩)) rfl

def laws_eqEvent_p (a : Event) (b : Event) : Option Bool :=
  cond (a.segments != b.segments)
    (some false)
    (cond (a.size != b.size)
      (some false)
      (cond (a.key != b.key)
        (some false)
        ((laws_eqEntrantS_p a.entrants b.entrants).bind fun x1 =>
        cond (!x1)
          (some false)
          ((laws_eqIntS_p a.gone b.gone).bind fun x3 =>
          cond (!x3)
            (some false)
            (cond (a.segment != b.segment)
              (some false)
              ((laws_eqIntS_p a.order b.order).bind fun x5 =>
              cond (!x5)
                (some false)
                ((laws_eqResultS_p a.results b.results).bind fun x7 =>
                cond (!x7)
                  (some false)
                  (some true))))))))
theorem laws_eqEvent_ok (a : Event) (b : Event) (r : Bool) (hH : laws_eqEvent_p a b = some r) : SpecR Tryz.prog 12 [.g (encEvent a), .g (encEvent b)] (.v (.bool r)) := by
  refine fn_ok T Tryz.func12 rfl (by decide) rfl ?_
  refine AW.seq ?_
  refine AW.region ?_
  refine AO.step rfl (box_ok T rfl 1 rfl rfl rfl rfl) ?_
  refine AO.step rfl (box_ok T rfl 2 rfl rfl rfl rfl) ?_
  refine AO.pure T rfl rfl rfl ?_
  refine AO.nil ?_
  refine AW.seq ?_
  refine AW.seq ?_
  refine AW.region ?_
  refine AO.pure T rfl rfl rfl ?_
  refine AO.pure T rfl rfl rfl ?_
  refine AO.pure T rfl rfl rfl ?_
  refine AO.pure T rfl rfl rfl ?_
  refine AO.pure T rfl rfl rfl ?_
  refine AO.nil ?_
  refine AW.cond (b := (a.segments != b.segments)) rfl (fun hc => ?_) (fun hc => ?_)
  · replace hH := condT hc hH
    refine AW.seq ?_
    refine AW.region ?_
    refine AO.pure T rfl rfl rfl ?_
    refine AO.nil ?_
    refine AW.ret ?_
    cases someE hH
    exact ⟨trivial, _, [], rfl, .c (.c .v), by decide⟩
  · replace hH := condF hc hH
    refine AW.skip ?_
    refine AW.seq ?_
    refine AW.seq ?_
    refine AW.region ?_
    refine AO.pure T rfl rfl rfl ?_
    refine AO.pure T rfl rfl rfl ?_
    refine AO.pure T rfl rfl rfl ?_
    refine AO.pure T rfl rfl rfl ?_
    refine AO.pure T rfl rfl rfl ?_
    refine AO.nil ?_
    refine AW.cond (b := (a.size != b.size)) rfl (fun hc => ?_) (fun hc => ?_)
    · replace hH := condT hc hH
      refine AW.seq ?_
      refine AW.region ?_
      refine AO.pure T rfl rfl rfl ?_
      refine AO.nil ?_
      refine AW.ret ?_
      cases someE hH
      exact ⟨trivial, _, [], rfl, .c (.c .v), by decide⟩
    · replace hH := condF hc hH
      refine AW.skip ?_
      refine AW.seq ?_
      refine AW.seq ?_
      refine AW.region ?_
      refine AO.pure T rfl rfl rfl ?_
      refine AO.pure T rfl rfl rfl ?_
      refine AO.pure T rfl rfl rfl ?_
      refine AO.pure T rfl rfl rfl ?_
      refine AO.pure T rfl rfl rfl ?_
      refine AO.nil ?_
      refine AW.cond (b := (a.key != b.key)) rfl (fun hc => ?_) (fun hc => ?_)
      · replace hH := condT hc hH
        refine AW.seq ?_
        refine AW.region ?_
        refine AO.pure T rfl rfl rfl ?_
        refine AO.nil ?_
        refine AW.ret ?_
        cases someE hH
        exact ⟨trivial, _, [], rfl, .c (.c .v), by decide⟩
      · replace hH := condF hc hH
        refine AW.skip ?_
        refine AW.seq ?_
        refine AW.seq ?_
        obtain ⟨x1, hx2, hH⟩ := bindE hH
        refine AW.region ?_
        refine AO.pure T rfl rfl rfl ?_
        refine AO.pure T rfl rfl rfl ?_
        refine AO.pure T rfl rfl rfl ?_
        refine AO.pure T rfl rfl rfl ?_
        refine AO.val rfl rfl (callV_ok rfl rfl rfl rfl (laws_eqEntrantS_ok _ _ _ (hx2)) rfl) ?_
        refine AO.pure T rfl rfl rfl ?_
        refine AO.nil ?_
        refine AW.le (Le.cut 0 0 (σ' := (⟨[(2, .p 1 0), (3, .p 2 0), (25, .v (.bool (!x1)))], [(1, .box [.v (.int .i64 a.segments), .v (.int .i64 a.size), .v (.int .i64 a.key), .s (List.map encEntrant a.entrants), .s (List.map encInt a.gone), .v (.int .i64 a.segment), .s (List.map encInt a.order), .s (List.map encResult a.results)]), (2, .box [.v (.int .i64 b.segments), .v (.int .i64 b.size), .v (.int .i64 b.key), .s (List.map encEntrant b.entrants), .s (List.map encInt b.gone), .v (.int .i64 b.segment), .s (List.map encInt b.order), .s (List.map encResult b.results)])], 49, []⟩ : St)) rfl (by repeat' (first | exact trivial | refine ⟨⟨_, rfl, rfl⟩, ?_⟩)) (by repeat' (first | exact trivial | refine ⟨⟨_, rfl, rfl⟩, ?_⟩)) rfl) ?_
        refine AW.cond (b := (!x1)) rfl (fun hc => ?_) (fun hc => ?_)
        · replace hH := condT hc hH
          refine AW.seq ?_
          refine AW.region ?_
          refine AO.pure T rfl rfl rfl ?_
          refine AO.nil ?_
          refine AW.ret ?_
          cases someE hH
          exact ⟨trivial, _, [], rfl, .c (.c .v), by decide⟩
        · replace hH := condF hc hH
          refine AW.skip ?_
          refine AW.seq ?_
          refine AW.seq ?_
          obtain ⟨x3, hx4, hH⟩ := bindE hH
          refine AW.region ?_
          refine AO.pure T rfl rfl rfl ?_
          refine AO.pure T rfl rfl rfl ?_
          refine AO.pure T rfl rfl rfl ?_
          refine AO.pure T rfl rfl rfl ?_
          refine AO.val rfl rfl (callV_ok rfl rfl rfl rfl (laws_eqIntS_ok _ _ _ (hx4)) rfl) ?_
          refine AO.pure T rfl rfl rfl ?_
          refine AO.nil ?_
          refine AW.cond (b := (!x3)) rfl (fun hc => ?_) (fun hc => ?_)
          · replace hH := condT hc hH
            refine AW.seq ?_
            refine AW.region ?_
            refine AO.pure T rfl rfl rfl ?_
            refine AO.nil ?_
            refine AW.ret ?_
            cases someE hH
            exact ⟨trivial, _, [], rfl, .c (.c .v), by decide⟩
          · replace hH := condF hc hH
            refine AW.skip ?_
            refine AW.seq ?_
            refine AW.seq ?_
            refine AW.region ?_
            refine AO.pure T rfl rfl rfl ?_
            refine AO.pure T rfl rfl rfl ?_
            refine AO.pure T rfl rfl rfl ?_
            refine AO.pure T rfl rfl rfl ?_
            refine AO.pure T rfl rfl rfl ?_
            refine AO.nil ?_
            refine AW.cond (b := (a.segment != b.segment)) rfl (fun hc => ?_) (fun hc => ?_)
            · replace hH := condT hc hH
              refine AW.seq ?_
              refine AW.region ?_
              refine AO.pure T rfl rfl rfl ?_
              refine AO.nil ?_
              refine AW.ret ?_
              cases someE hH
              exact ⟨trivial, _, [], rfl, .c (.c .v), by decide⟩
            · replace hH := condF hc hH
              refine AW.skip ?_
              refine AW.seq ?_
              refine AW.seq ?_
              obtain ⟨x5, hx6, hH⟩ := bindE hH
              refine AW.region ?_
              refine AO.pure T rfl rfl rfl ?_
              refine AO.pure T rfl rfl rfl ?_
              refine AO.pure T rfl rfl rfl ?_
              refine AO.pure T rfl rfl rfl ?_
              refine AO.val rfl rfl (callV_ok rfl rfl rfl rfl (laws_eqIntS_ok _ _ _ (hx6)) rfl) ?_
              refine AO.pure T rfl rfl rfl ?_
              refine AO.nil ?_
              refine AW.cond (b := (!x5)) rfl (fun hc => ?_) (fun hc => ?_)
              · replace hH := condT hc hH
                refine AW.seq ?_
                refine AW.region ?_
                refine AO.pure T rfl rfl rfl ?_
                refine AO.nil ?_
                refine AW.ret ?_
                cases someE hH
                exact ⟨trivial, _, [], rfl, .c (.c .v), by decide⟩
              · replace hH := condF hc hH
                refine AW.skip ?_
                refine AW.seq ?_
                refine AW.seq ?_
                obtain ⟨x7, hx8, hH⟩ := bindE hH
                refine AW.region ?_
                refine AO.pure T rfl rfl rfl ?_
                refine AO.pure T rfl rfl rfl ?_
                refine AO.pure T rfl rfl rfl ?_
                refine AO.pure T rfl rfl rfl ?_
                refine AO.val rfl rfl (callV_ok rfl rfl rfl rfl (laws_eqResultS_ok _ _ _ (hx8)) rfl) ?_
                refine AO.pure T rfl rfl rfl ?_
                refine AO.nil ?_
                refine AW.cond (b := (!x7)) rfl (fun hc => ?_) (fun hc => ?_)
                · replace hH := condT hc hH
                  refine AW.seq ?_
                  refine AW.region ?_
                  refine AO.pure T rfl rfl rfl ?_
                  refine AO.nil ?_
                  refine AW.le (Le.cut 0 0 (σ' := (⟨[(4, .v (.bool false))], [], 49, []⟩ : St)) rfl (by repeat' (first | exact trivial | refine ⟨⟨_, rfl, rfl⟩, ?_⟩)) (by repeat' (first | exact trivial | refine ⟨⟨_, rfl, rfl⟩, ?_⟩)) rfl) ?_
                  refine AW.ret ?_
                  cases someE hH
                  exact ⟨trivial, _, [], rfl, .c (.c .v), by decide⟩
                · replace hH := condF hc hH
                  refine AW.skip ?_
                  refine AW.seq ?_
                  refine AW.region ?_
                  refine AO.pure T rfl rfl rfl ?_
                  refine AO.nil ?_
                  refine AW.le (Le.cut 0 0 (σ' := (⟨[(4, .v (.bool true))], [], 49, []⟩ : St)) rfl (by repeat' (first | exact trivial | refine ⟨⟨_, rfl, rfl⟩, ?_⟩)) (by repeat' (first | exact trivial | refine ⟨⟨_, rfl, rfl⟩, ?_⟩)) rfl) ?_
                  refine AW.ret ?_
                  cases someE hH
                  exact ⟨trivial, _, [], rfl, .c (.c .v), by decide⟩

def laws_markEntrantS_l1 : Nat → List Entrant → Int → Int → Option (((List Entrant) × Int))
  | 0, _, _, _ => none
  | k1 + 1, v13, v14, v15 =>
    cond (decide (v15 < (v13.length : Int)))
      ((getI v13 v15).bind fun x17 =>
      (getI (v13.set v15.toNat (Entrant.mk v14 x17.rank)) v15).bind fun x19 =>
      laws_markEntrantS_l1 k1 ((v13.set v15.toNat (Entrant.mk v14 x17.rank)).set v15.toNat (Entrant.mk x19.skater (w64 (v14 + 1)))) (w64 ((w64 (v14 + 1)) + 1)) (w64 (v15 + 1)))
      (some (v13, v14))
def laws_markEntrantS_p (fuel : Nat) (a : List Entrant) (k : Int) : Option ((List Entrant) × Int) :=
  laws_markEntrantS_l1 fuel a k 0
theorem laws_markEntrantS_ok (fuel : Nat) (a : List Entrant) (k : Int) (r : ((List Entrant) × Int)) (hH : laws_markEntrantS_p fuel a k = some r) : SpecM Tryz.prog 36 [.w 2 (a.map encEntrant), .v (.int .i64 k)] [.w 2 (r.1.map encEntrant), .u] (.v (.int .i64 r.2)) := by
  refine fn_okM T Tryz.func36 rfl (by decide) rfl rfl ?_
  intro L
  show AW _ _ _ (⟨[(0, .R 1), (1, .v (.int .i64 k))], [(1, .row 2 (List.map encEntrant a))], 27, [(1, L 1)]⟩ : St)
  refine AW.seq ?_
  refine AW.region ?_
  refine AO.pure T rfl rfl rfl ?_
  refine AO.nil ?_
  refine AW.seq ?_
  refine AW.seq ?_
  refine AW.region ?_
  refine AO.pure T rfl rfl rfl ?_
  refine AO.nil ?_
  refine AW.block ?_
  refine AW.loopS (fun s : Nat × (List Entrant) × Int × Int => (⟨[(0, .R 1), (1, .v (.int .i64 s.2.2.1)), (5, .v (.int .i64 s.2.2.2))], [(1, .row 2 (List.map encEntrant s.2.1))], 27, [(1, L 1)]⟩ : St)) (fun s => laws_markEntrantS_l1 s.1 s.2.1 s.2.2.1 s.2.2.2 = some r) (fun s => s.1) (fuel, a, k, 0) hH ?_ ?_
  · exact Le.cut 0 0 rfl (by repeat' (first | exact trivial | refine ⟨⟨_, rfl, rfl⟩, ?_⟩)) (by repeat' (first | exact trivial | refine ⟨⟨_, rfl, rfl⟩, ?_⟩)) rfl ⟨⟨rfl, rfl⟩, trivial⟩
  · rintro ⟨k1, v13, v14, v15⟩ hH
    replace hH : laws_markEntrantS_l1 k1 v13 v14 v15 = some r := hH
    show AW _ _ _ (⟨[(0, .R 1), (1, .v (.int .i64 v14)), (5, .v (.int .i64 v15))], [(1, .row 2 (List.map encEntrant v13))], 27, [(1, L 1)]⟩ : St)
    cases k1 with
    | zero => cases (show none = some _ from hH)
    | succ k1 =>
      rw [laws_markEntrantS_l1] at hH
      refine AW.seq ?_
      refine AW.seq ?_
      refine AW.region ?_
      refine AO.pure T rfl rfl rfl ?_
      refine AO.pure T rfl rfl rfl ?_
      refine AO.val rfl rfl (len_row_ok T rfl rfl rfl rfl) ?_
      refine AO.pure T rfl rfl rfl ?_
      refine AO.nil ?_
      refine AW.cond (b := decide (v15 < (v13.length : Int))) rfl (fun hc => ?_) (fun hc => ?_)
      · replace hH := condT hc hH
        refine AW.skip ?_
        refine AW.seq ?_
        refine AW.block ?_
        refine AW.seq ?_
        obtain ⟨x17, hx18, hH⟩ := bindE hH
        refine AW.region ?_
        refine AO.pure T rfl rfl rfl ?_
        refine AO.pure T rfl rfl rfl ?_
        refine AO.pure T rfl rfl rfl ?_
        refine AO.val rfl rfl (ix_row_ok T rfl rfl rfl rfl rfl rfl (hx18)) ?_
        refine AO.pure T rfl rfl rfl ?_
        refine AO.step rfl (store_row_ok T rfl rfl rfl rfl rfl (getI_get (hx18)) rfl rfl rfl rfl (u' := (Entrant.mk v14 x17.rank)) rfl rfl) ?_
        refine AO.nil ?_
        refine AW.seq ?_
        refine AW.region ?_
        refine AO.pure T rfl rfl rfl ?_
        refine AO.val rfl rfl (arw_ok rfl rfl rfl rfl) ?_
        refine AO.pure T rfl rfl rfl ?_
        refine AO.nil ?_
        refine AW.seq ?_
        obtain ⟨x19, hx20, hH⟩ := bindE hH
        refine AW.region ?_
        refine AO.pure T rfl rfl rfl ?_
        refine AO.pure T rfl rfl rfl ?_
        refine AO.pure T rfl rfl rfl ?_
        refine AO.val rfl rfl (ix_row_ok T rfl rfl rfl rfl rfl rfl (hx20)) ?_
        refine AO.pure T rfl rfl rfl ?_
        refine AO.step rfl (store_row_ok T rfl rfl rfl rfl rfl (getI_get (hx20)) rfl rfl rfl rfl (u' := (Entrant.mk x19.skater (w64 (v14 + 1)))) rfl rfl) ?_
        refine AO.nil ?_
        refine AW.region ?_
        refine AO.pure T rfl rfl rfl ?_
        refine AO.val rfl rfl (arw_ok rfl rfl rfl rfl) ?_
        refine AO.pure T rfl rfl rfl ?_
        refine AO.nil ?_
        refine AW.region ?_
        refine AO.pure T rfl rfl rfl ?_
        refine AO.val rfl rfl (arw_ok rfl rfl rfl rfl) ?_
        refine AO.pure T rfl rfl rfl ?_
        refine AO.nil ?_
        refine ⟨(k1, ((v13.set v15.toNat (Entrant.mk v14 x17.rank)).set v15.toNat (Entrant.mk x19.skater (w64 (v14 + 1)))), w64 ((w64 (v14 + 1)) + 1), w64 (v15 + 1)), hH, Nat.lt_succ_self _, ?_⟩
        exact Le.cut 0 0 rfl (by repeat' (first | exact trivial | refine ⟨⟨_, rfl, rfl⟩, ?_⟩)) (by repeat' (first | exact trivial | refine ⟨⟨_, rfl, rfl⟩, ?_⟩)) rfl ⟨⟨rfl, rfl⟩, trivial⟩
      · replace hH := condF hc hH
        refine AW.exit ?_
        refine AW.seq ?_
        refine AW.region ?_
        refine AO.pure T rfl rfl rfl ?_
        refine AO.pure T rfl rfl rfl ?_
        refine AO.nil ?_
        refine AW.ret ?_
        cases someE hH
        exact ⟨trivial, rfl, _, [], [1], rfl, expLG_cons (.c (.rowR rfl)) (expLG_cons (.c .u) (expLG_nil)), .c (.c .v), by decide⟩

def laws_markIntS_l1 : Nat → List Int → Int → Int → Option (((List Int) × Int))
  | 0, _, _, _ => none
  | k1 + 1, v9, v10, v11 =>
    cond (decide (v11 < (v9.length : Int)))
      ((getI v9 v11).bind fun x13 =>
      laws_markIntS_l1 k1 (v9.set v11.toNat v10) (w64 (v10 + 1)) (w64 (v11 + 1)))
      (some (v9, v10))
def laws_markIntS_p (fuel : Nat) (a : List Int) (k : Int) : Option ((List Int) × Int) :=
  laws_markIntS_l1 fuel a k 0
theorem laws_markIntS_ok (fuel : Nat) (a : List Int) (k : Int) (r : ((List Int) × Int)) (hH : laws_markIntS_p fuel a k = some r) : SpecM Tryz.prog 22 [.w 1 (a.map encInt), .v (.int .i64 k)] [.w 1 (r.1.map encInt), .u] (.v (.int .i64 r.2)) := by
  refine fn_okM T Tryz.func22 rfl (by decide) rfl rfl ?_
  intro L
  show AW _ _ _ (⟨[(0, .R 1), (1, .v (.int .i64 k))], [(1, .row 1 (List.map encInt a))], 19, [(1, L 1)]⟩ : St)
  refine AW.seq ?_
  refine AW.region ?_
  refine AO.pure T rfl rfl rfl ?_
  refine AO.nil ?_
  refine AW.seq ?_
  refine AW.seq ?_
  refine AW.region ?_
  refine AO.pure T rfl rfl rfl ?_
  refine AO.nil ?_
  refine AW.block ?_
  refine AW.loopS (fun s : Nat × (List Int) × Int × Int => (⟨[(0, .R 1), (1, .v (.int .i64 s.2.2.1)), (5, .v (.int .i64 s.2.2.2))], [(1, .row 1 (List.map encInt s.2.1))], 19, [(1, L 1)]⟩ : St)) (fun s => laws_markIntS_l1 s.1 s.2.1 s.2.2.1 s.2.2.2 = some r) (fun s => s.1) (fuel, a, k, 0) hH ?_ ?_
  · exact Le.cut 0 0 rfl (by repeat' (first | exact trivial | refine ⟨⟨_, rfl, rfl⟩, ?_⟩)) (by repeat' (first | exact trivial | refine ⟨⟨_, rfl, rfl⟩, ?_⟩)) rfl ⟨⟨rfl, rfl⟩, trivial⟩
  · rintro ⟨k1, v9, v10, v11⟩ hH
    replace hH : laws_markIntS_l1 k1 v9 v10 v11 = some r := hH
    show AW _ _ _ (⟨[(0, .R 1), (1, .v (.int .i64 v10)), (5, .v (.int .i64 v11))], [(1, .row 1 (List.map encInt v9))], 19, [(1, L 1)]⟩ : St)
    cases k1 with
    | zero => cases (show none = some _ from hH)
    | succ k1 =>
      rw [laws_markIntS_l1] at hH
      refine AW.seq ?_
      refine AW.seq ?_
      refine AW.region ?_
      refine AO.pure T rfl rfl rfl ?_
      refine AO.pure T rfl rfl rfl ?_
      refine AO.val rfl rfl (len_row_ok T rfl rfl rfl rfl) ?_
      refine AO.pure T rfl rfl rfl ?_
      refine AO.nil ?_
      refine AW.cond (b := decide (v11 < (v9.length : Int))) rfl (fun hc => ?_) (fun hc => ?_)
      · replace hH := condT hc hH
        refine AW.skip ?_
        refine AW.seq ?_
        refine AW.block ?_
        refine AW.seq ?_
        obtain ⟨x13, hx14, hH⟩ := bindE hH
        refine AW.region ?_
        refine AO.pure T rfl rfl rfl ?_
        refine AO.pure T rfl rfl rfl ?_
        refine AO.pure T rfl rfl rfl ?_
        refine AO.val rfl rfl (ix_row_ok T rfl rfl rfl rfl rfl rfl (hx14)) ?_
        refine AO.step rfl (store_row_ok T rfl rfl rfl rfl rfl (getI_get (hx14)) rfl rfl rfl rfl (u' := v10) rfl rfl) ?_
        refine AO.nil ?_
        refine AW.region ?_
        refine AO.pure T rfl rfl rfl ?_
        refine AO.val rfl rfl (arw_ok rfl rfl rfl rfl) ?_
        refine AO.pure T rfl rfl rfl ?_
        refine AO.nil ?_
        refine AW.region ?_
        refine AO.pure T rfl rfl rfl ?_
        refine AO.val rfl rfl (arw_ok rfl rfl rfl rfl) ?_
        refine AO.pure T rfl rfl rfl ?_
        refine AO.nil ?_
        refine ⟨(k1, (v9.set v11.toNat v10), w64 (v10 + 1), w64 (v11 + 1)), hH, Nat.lt_succ_self _, ?_⟩
        exact Le.cut 0 0 rfl (by repeat' (first | exact trivial | refine ⟨⟨_, rfl, rfl⟩, ?_⟩)) (by repeat' (first | exact trivial | refine ⟨⟨_, rfl, rfl⟩, ?_⟩)) rfl ⟨⟨rfl, rfl⟩, trivial⟩
      · replace hH := condF hc hH
        refine AW.exit ?_
        refine AW.seq ?_
        refine AW.region ?_
        refine AO.pure T rfl rfl rfl ?_
        refine AO.pure T rfl rfl rfl ?_
        refine AO.nil ?_
        refine AW.ret ?_
        cases someE hH
        exact ⟨trivial, rfl, _, [], [1], rfl, expLG_cons (.c (.rowR rfl)) (expLG_cons (.c .u) (expLG_nil)), .c (.c .v), by decide⟩

end Go.Proofs.YtioegmjleofmeaaGreat

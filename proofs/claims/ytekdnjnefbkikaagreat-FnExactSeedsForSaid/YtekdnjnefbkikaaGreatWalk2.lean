/- The walk, part 2: what each function reached by the law FnExactSeedsFor computes. No condition. -/
import Derived.Test.YtekdnjnefbkikaaGreatWalk1
set_option maxRecDepth 4000
set_option maxHeartbeats 1000000
set_option linter.unusedVariables false
set_option linter.unusedSimpArgs false
set_option linter.unusedSectionVars false

namespace Go.Proofs.YtekdnjnefbkikaaGreat
open Go.AM

def slices_IndexFunc_Entry_l1 (f : Entry → Option Bool) : List Entry → Nat → Option Int
  | [], k1 =>
    some (-1)
  | y2 :: ys3, k1 =>
    (f y2).bind fun x12 =>
    cond x12
      (some (k1 : Int))
      (slices_IndexFunc_Entry_l1 f ys3 (k1 + 1))
def slices_IndexFunc_Entry_p (sA : List Entry) (f : Entry → Option Bool) : Option Int :=
  slices_IndexFunc_Entry_l1 f sA 0
theorem slices_IndexFunc_Entry_ok (sA : List Entry) (f_f : Nat) (f_c : List D) (f_k : f_c.all D.capOk = true) (f : Entry → Option Bool) (f_h : ∀ (a0 : Entry) (q : Bool), f a0 = some q → SpecR Tryz.prog f_f ([.g (encEntry a0)] ++ f_c) (.v (.bool q))) (r : Int) (hH : slices_IndexFunc_Entry_p sA f = some r) : SpecR Tryz.prog 141 [.s (List.map encEntry sA), .f f_f f_c] (.v (.int .i64 r)) := by
  have f_r := cap_cfree f_k
  refine fn_ok T Tryz.func141 rfl (by decide) rfl ?_
  refine AW.seq ?_
  refine AW.region ?_
  refine AO.pure T rfl rfl rfl ?_
  refine AO.nil ?_
  refine AW.seq ?_
  refine AW.seq ?_
  refine AW.region ?_
  refine AO.pure T rfl rfl rfl ?_
  refine AO.val rfl rfl (len_map_ok T rfl rfl rfl) ?_
  refine AO.pure T rfl rfl rfl ?_
  refine AO.nil ?_
  refine AW.block ?_
  refine AW.loopS (fun s : Nat => (⟨[(0, .s (List.map encEntry sA)), (1, .f f_f f_c), (7, .v (.int .i64 (sA.length : Int))), (8, .v (.int .i64 (s : Int)))], [], 19, []⟩ : St)) (fun s => s ≤ sA.length ∧ slices_IndexFunc_Entry_l1 f (sA.drop s) s = some r) (fun s => sA.length - s) 0 ⟨Nat.zero_le _, hH⟩ ?_ ?_
  · exact Le.cut 0 0 rfl ⟨⟨_, rfl, rfl⟩, ⟨_, rfl, ren_fF f_r⟩, ⟨_, rfl, rfl⟩, ⟨_, rfl, rfl⟩, trivial⟩ (by repeat' (first | exact trivial | refine ⟨⟨_, rfl, rfl⟩, ?_⟩)) (andT (allC rfl (allC (known_fF f_r) (allC rfl (allC rfl allN)))) rfl)
  · rintro k1 ⟨hk, hH⟩
    replace hH : slices_IndexFunc_Entry_l1 f (sA.drop k1) k1 = some r := hH
    show AW _ _ _ (⟨[(0, .s (List.map encEntry sA)), (1, .f f_f f_c), (7, .v (.int .i64 (sA.length : Int))), (8, .v (.int .i64 (k1 : Int)))], [], 19, []⟩ : St)
    refine AW.boundM (t := 0) (l := sA) rfl (fun hb5 => ?_)
    cases hd4 : sA.drop k1 with
    | nil =>
      rw [hd4] at hH
      rw [slices_IndexFunc_Entry_l1] at hH
      have hlt6 := drop_ge hd4
      refine AW.seq ?_
      refine AW.region ?_
      refine AO.pure T rfl rfl rfl ?_
      refine AO.nil ?_
      refine AW.seq ?_
      refine AW.condF' (b := decide ((k1 : Int) < (sA.length : Int))) rfl (rngF hlt6) ?_
      refine AW.exit ?_
      refine AW.seq ?_
      refine AW.region ?_
      refine AO.pure T rfl rfl rfl ?_
      refine AO.nil ?_
      refine AW.ret ?_
      cases someE hH
      exact ⟨trivial, _, [], rfl, .c (.c .v), by decide⟩
    | cons y2 ys3 =>
      rw [hd4] at hH
      rw [slices_IndexFunc_Entry_l1] at hH
      have hlt6 := drop_lt hd4
      refine AW.seq ?_
      refine AW.region ?_
      refine AO.pure T rfl rfl rfl ?_
      refine AO.nil ?_
      refine AW.seq ?_
      refine AW.condT' (b := decide ((k1 : Int) < (sA.length : Int))) rfl (rngT hlt6) ?_
      refine AW.skip ?_
      refine AW.seq ?_
      refine AW.block ?_
      refine AW.seq ?_
      refine AW.region ?_
      refine AO.pure T rfl rfl rfl ?_
      refine AO.pure T rfl rfl rfl ?_
      refine AO.nil ?_
      refine AW.seq ?_
      obtain ⟨x12, hx13, hH⟩ := bindE hH
      refine AW.region ?_
      refine AO.pure T rfl rfl rfl ?_
      refine AO.pure T rfl rfl rfl ?_
      refine AO.pure T rfl rfl rfl ?_
      refine AO.val rfl rfl (ix_map_ok T rfl rfl rfl rfl rfl (getI_drop hd4) rfl) ?_
      refine AO.pure T (d := .g [.v (.int .i64 y2.event), .v (.int .i64 y2.skater), .v (.int .i64 y2.points)]) rfl rfl rfl ?_
      refine AO.val rfl rfl (callV_ok rfl rfl rfl (andT rfl (free_cfree f_r)) (f_h _ _ (hx13)) rfl) ?_
      refine AO.nil ?_
      refine AW.cond (b := x12) rfl (fun hc => ?_) (fun hc => ?_)
      · replace hH := condT hc hH
        refine AW.seq ?_
        refine AW.region ?_
        refine AO.pure T rfl rfl rfl ?_
        refine AO.pure T rfl rfl rfl ?_
        refine AO.nil ?_
        refine AW.ret ?_
        cases someE hH
        exact ⟨trivial, _, [], rfl, .c (.c .v), by decide⟩
      · replace hH := condF hc hH
        refine AW.skip ?_
        refine AW.region ?_
        refine AO.val rfl rfl (ar_ok rfl rfl rfl rfl (inI_succ hlt6 hb5)) ?_
        refine AO.pure T rfl rfl rfl ?_
        refine AO.nil ?_
        refine ⟨k1 + 1, ⟨Nat.succ_le_of_lt hlt6, (by rw [drop_succ_of hd4]; exact hH)⟩, (by have := hlt6; dsimp only; omega), ?_⟩
        exact Le.cut 0 0 rfl ⟨⟨_, rfl, rfl⟩, ⟨_, rfl, ren_fF f_r⟩, ⟨_, rfl, rfl⟩, ⟨_, rfl, rfl⟩, trivial⟩ (by repeat' (first | exact trivial | refine ⟨⟨_, rfl, rfl⟩, ?_⟩)) (andT (allC rfl (allC (known_fF f_r) (allC rfl (allC rfl allN)))) rfl)

def slices_ContainsFunc_Entry_p (sA : List Entry) (f : Entry → Option Bool) : Option Bool :=
  (slices_IndexFunc_Entry_p sA f).bind fun x1 =>
  some (decide (x1 ≥ 0))
theorem slices_ContainsFunc_Entry_ok (sA : List Entry) (f_f : Nat) (f_c : List D) (f_k : f_c.all D.capOk = true) (f : Entry → Option Bool) (f_h : ∀ (a0 : Entry) (q : Bool), f a0 = some q → SpecR Tryz.prog f_f ([.g (encEntry a0)] ++ f_c) (.v (.bool q))) (r : Bool) (hH : slices_ContainsFunc_Entry_p sA f = some r) : SpecR Tryz.prog 123 [.s (List.map encEntry sA), .f f_f f_c] (.v (.bool r)) := by
  have f_r := cap_cfree f_k
  refine fn_ok T Tryz.func123 rfl (by decide) rfl ?_
  refine AW.seq ?_
  refine AW.region ?_
  refine AO.pure T rfl rfl rfl ?_
  refine AO.nil ?_
  refine AW.seq ?_
  obtain ⟨x1, hx2, hH⟩ := bindE hH
  refine AW.region ?_
  refine AO.pure T rfl rfl rfl ?_
  refine AO.pure T rfl rfl rfl ?_
  refine AO.val rfl rfl (callV_ok rfl rfl rfl (andT (allC rfl (allC f_r allN)) rfl) (slices_IndexFunc_Entry_ok _ f_f f_c f_k f f_h _ (hx2)) rfl) ?_
  refine AO.pure T rfl rfl rfl ?_
  refine AO.pure T rfl rfl rfl ?_
  refine AO.nil ?_
  refine AW.ret ?_
  cases someE hH
  exact ⟨trivial, _, [], rfl, .c (.c .v), by decide⟩

def impl_AreEntries_c1_p (x : Entry) (a : Entry) : Option Bool :=
  some ((x.event == a.event) && (x.skater == a.skater))
theorem impl_AreEntries_c1_ok (x : Entry) (a : Entry) (r : Bool) (hH : impl_AreEntries_c1_p x a = some r) : SpecR Tryz.prog 124 [.g (encEntry x), .q (encEntry a)] (.v (.bool r)) := by
  refine fn_ok T Tryz.func124 rfl (by decide) rfl ?_
  refine AW.seq ?_
  refine AW.region ?_
  refine AO.step rfl (box_ok T rfl 1 rfl rfl rfl rfl) ?_
  refine AO.pure T rfl rfl rfl ?_
  refine AO.nil ?_
  refine AW.seq ?_
  refine AW.region ?_
  refine AO.pure T rfl rfl rfl ?_
  refine AO.pure T rfl rfl rfl ?_
  refine AO.pure T rfl rfl rfl ?_
  refine AO.pure T rfl rfl rfl ?_
  refine AO.pure T rfl rfl rfl ?_
  refine AO.pure T rfl rfl rfl ?_
  refine AO.pureG T [] rfl trivial rfl rfl ?_
  refine AO.pureG T [10] rfl ⟨fun h => h, trivial⟩ rfl rfl ?_
  refine AO.pureG T [] rfl trivial rfl rfl ?_
  refine AO.pureG T [12] rfl ⟨fun h => h, trivial⟩ rfl rfl ?_
  refine AO.pureG T [11, 13] rfl ⟨fun h => h, fun h => h, trivial⟩ rfl rfl ?_
  refine AO.val rfl rfl (pick_and rfl rfl rfl rfl) ?_
  refine AO.pure T rfl rfl rfl ?_
  refine AO.nil ?_
  refine AW.ret ?_
  cases someE hH
  exact ⟨trivial, _, [], rfl, .c (.c .v), by decide⟩

def impl_AreEntries_l1 (l : List Entry) : List Entry → Nat → Option Bool
  | [], k1 =>
    some (decide ((l.length : Int) ≤ 80))
  | y2 :: ys3, k1 =>
    (impl_isEvent_p y2.event).bind fun x28 =>
    (opt (!(!x28)) default (impl_isSkater_p y2.skater)).bind fun x30 =>
    (opt (!((!x28) || (!x30))) default (impl_within_p y2.points 0 100000)).bind fun x32 =>
    cond (((!x28) || (!x30)) || (!x32))
      (some false)
      ((sliceHi l (k1 : Int)).bind fun x34 =>
      (slices_ContainsFunc_Entry_p x34 (fun a0 => impl_AreEntries_c1_p a0 y2)).bind fun x36 =>
      cond x36
        (some false)
        (impl_AreEntries_l1 l ys3 (k1 + 1)))
def impl_AreEntries_p (l : List Entry) : Option Bool :=
  impl_AreEntries_l1 l l 0
theorem impl_AreEntries_ok (l : List Entry) (r : Bool) (hH : impl_AreEntries_p l = some r) : SpecR Tryz.prog 100 [.s (List.map encEntry l)] (.v (.bool r)) := by
  refine fn_ok T Tryz.func100 rfl (by decide) rfl ?_
  refine AW.seq ?_
  refine AW.region ?_
  refine AO.pure T rfl rfl rfl ?_
  refine AO.nil ?_
  refine AW.seq ?_
  refine AW.seq ?_
  refine AW.region ?_
  refine AO.pure T rfl rfl rfl ?_
  refine AO.val rfl rfl (len_map_ok T rfl rfl rfl) ?_
  refine AO.pure T rfl rfl rfl ?_
  refine AO.nil ?_
  refine AW.block ?_
  refine AW.loopS (fun s : Nat => (⟨[(0, .s (List.map encEntry l)), (5, .s (List.map encEntry l)), (6, .v (.int .i64 (l.length : Int))), (7, .v (.int .i64 (s : Int)))], [], 37, []⟩ : St)) (fun s => s ≤ l.length ∧ impl_AreEntries_l1 l (l.drop s) s = some r) (fun s => l.length - s) 0 ⟨Nat.zero_le _, hH⟩ ?_ ?_
  · exact Le.cut 0 0 rfl (by repeat' (first | exact trivial | refine ⟨⟨_, rfl, rfl⟩, ?_⟩)) (by repeat' (first | exact trivial | refine ⟨⟨_, rfl, rfl⟩, ?_⟩)) rfl
  · rintro k1 ⟨hk, hH⟩
    replace hH : impl_AreEntries_l1 l (l.drop k1) k1 = some r := hH
    show AW _ _ _ (⟨[(0, .s (List.map encEntry l)), (5, .s (List.map encEntry l)), (6, .v (.int .i64 (l.length : Int))), (7, .v (.int .i64 (k1 : Int)))], [], 37, []⟩ : St)
    refine AW.boundM (t := 0) (l := l) rfl (fun hb5 => ?_)
    cases hd4 : l.drop k1 with
    | nil =>
      rw [hd4] at hH
      rw [impl_AreEntries_l1] at hH
      have hlt6 := drop_ge hd4
      refine AW.seq ?_
      refine AW.region ?_
      refine AO.pure T rfl rfl rfl ?_
      refine AO.nil ?_
      refine AW.seq ?_
      refine AW.condF' (b := decide ((k1 : Int) < (l.length : Int))) rfl (rngF hlt6) ?_
      refine AW.exit ?_
      refine AW.seq ?_
      refine AW.region ?_
      refine AO.pure T rfl rfl rfl ?_
      refine AO.val rfl rfl (len_map_ok T rfl rfl rfl) ?_
      refine AO.pure T rfl rfl rfl ?_
      refine AO.pure T rfl rfl rfl ?_
      refine AO.nil ?_
      refine AW.ret ?_
      cases someE hH
      exact ⟨trivial, _, [], rfl, .c (.c .v), by decide⟩
    | cons y2 ys3 =>
      rw [hd4] at hH
      rw [impl_AreEntries_l1] at hH
      have hlt6 := drop_lt hd4
      refine AW.seq ?_
      refine AW.region ?_
      refine AO.pure T rfl rfl rfl ?_
      refine AO.nil ?_
      refine AW.seq ?_
      refine AW.condT' (b := decide ((k1 : Int) < (l.length : Int))) rfl (rngT hlt6) ?_
      refine AW.skip ?_
      refine AW.seq ?_
      refine AW.block ?_
      refine AW.seq ?_
      refine AW.region ?_
      refine AO.pure T rfl rfl rfl ?_
      refine AO.val rfl rfl (ix_map_ok T rfl rfl rfl rfl rfl (getI_drop hd4) rfl) ?_
      refine AO.pure T (d := .g [.v (.int .i64 y2.event), .v (.int .i64 y2.skater), .v (.int .i64 y2.points)]) rfl rfl rfl ?_
      refine AO.step rfl (alloc_ok T rfl 3 rfl rfl rfl rfl rfl) ?_
      refine AO.pure T rfl rfl rfl ?_
      refine AO.step rfl (store_okE T rfl rfl rfl rfl rfl rfl rfl rfl rfl (ds' := [.v (.int .i64 y2.event), .v (.int .i64 y2.skater), .v (.int .i64 y2.points)]) rfl) ?_
      refine AO.nil ?_
      refine AW.seq ?_
      refine AW.seq ?_
      obtain ⟨x28, hx29, hH⟩ := bindE hH
      obtain ⟨x30, hx31, hH⟩ := bindE hH
      obtain ⟨x32, hx33, hH⟩ := bindE hH
      refine AW.region ?_
      refine AO.pure T rfl rfl rfl ?_
      refine AO.pure T rfl rfl rfl ?_
      refine AO.val rfl rfl (callV_ok rfl rfl rfl rfl (impl_isEvent_ok _ _ (hx29)) rfl) ?_
      refine AO.pure T rfl rfl rfl ?_
      refine AO.pure T rfl rfl rfl ?_
      refine AO.pureG T [] rfl trivial rfl rfl ?_
      refine AO.pureG T [17] rfl ⟨fun h => h, trivial⟩ rfl rfl ?_
      refine AO.guard [18] rfl ⟨fun h => h, trivial⟩ (fun hg => callV_ok rfl rfl rfl rfl (impl_isSkater_ok _ _ (optT hx31 hg)) rfl) rfl ?_
      refine AO.pureG T [19] rfl ⟨fun h => h, trivial⟩ rfl rfl ?_
      refine AO.val rfl rfl (pick_or rfl rfl rfl rfl) ?_
      refine AO.pure T rfl rfl rfl ?_
      refine AO.pureG T [] rfl trivial rfl rfl ?_
      refine AO.pureG T [23] rfl ⟨fun h => h, trivial⟩ rfl rfl ?_
      refine AO.guard [24] rfl ⟨fun h => h, trivial⟩ (fun hg => callV_ok rfl rfl rfl rfl (impl_within_ok _ _ _ _ (optT hx33 hg)) rfl) rfl ?_
      refine AO.pureG T [25] rfl ⟨fun h => h, trivial⟩ rfl rfl ?_
      refine AO.val rfl rfl (pick_or rfl rfl rfl rfl) ?_
      refine AO.nil ?_
      refine AW.cond (b := (((!x28) || (!x30)) || (!x32))) rfl (fun hc => ?_) (fun hc => ?_)
      · replace hH := condT hc hH
        refine AW.seq ?_
        refine AW.region ?_
        refine AO.pure T rfl rfl rfl ?_
        refine AO.nil ?_
        refine AW.le (Le.cut 0 0 (σ' := (⟨[(2, .v (.bool false))], [], 37, []⟩ : St)) rfl (by repeat' (first | exact trivial | refine ⟨⟨_, rfl, rfl⟩, ?_⟩)) (by repeat' (first | exact trivial | refine ⟨⟨_, rfl, rfl⟩, ?_⟩)) rfl) ?_
        refine AW.ret ?_
        cases someE hH
        exact ⟨trivial, _, [], rfl, .c (.c .v), by decide⟩
      · replace hH := condF hc hH
        refine AW.skip ?_
        refine AW.seq ?_
        obtain ⟨x34, hx35, hH⟩ := bindE hH
        obtain ⟨x36, hx37, hH⟩ := bindE hH
        refine AW.region ?_
        refine AO.pure T rfl rfl rfl ?_
        refine AO.pure T rfl rfl rfl ?_
        refine AO.val rfl rfl (slice_hi_map_ok T rfl rfl rfl rfl rfl (hx35) (fun _ => rfl)) ?_
        refine AO.pure T rfl rfl rfl ?_
        refine AO.val rfl rfl (callLV_ok rfl rfl rfl (es := [.s (List.map encEntry x34), .f 124 [.q [.v (.int .i64 y2.event), .v (.int .i64 y2.skater), .v (.int .i64 y2.points)]]]) ⟨.free rfl, lend_f (LendL.cons (Lend.boxF rfl rfl) LendL.nil), trivial⟩ (slices_ContainsFunc_Entry_ok _ 124 [.q [.v (.int .i64 y2.event), .v (.int .i64 y2.skater), .v (.int .i64 y2.points)]] rfl (fun a0 => impl_AreEntries_c1_p a0 y2) (fun a0 q h => impl_AreEntries_c1_ok a0 y2 q h) _ (hx37)) (zfree_v _) rfl) ?_
        refine AO.nil ?_
        refine AW.le (Le.cut 0 0 (σ' := (⟨[(0, .s (List.map encEntry l)), (5, .s (List.map encEntry l)), (6, .v (.int .i64 (l.length : Int))), (7, .v (.int .i64 (k1 : Int))), (32, .v (.bool x36))], [], 37, []⟩ : St)) rfl (by repeat' (first | exact trivial | refine ⟨⟨_, rfl, rfl⟩, ?_⟩)) (by repeat' (first | exact trivial | refine ⟨⟨_, rfl, rfl⟩, ?_⟩)) rfl) ?_
        refine AW.cond (b := x36) rfl (fun hc => ?_) (fun hc => ?_)
        · replace hH := condT hc hH
          refine AW.seq ?_
          refine AW.region ?_
          refine AO.pure T rfl rfl rfl ?_
          refine AO.nil ?_
          refine AW.ret ?_
          cases someE hH
          exact ⟨trivial, _, [], rfl, .c (.c .v), by decide⟩
        · replace hH := condF hc hH
          refine AW.skip ?_
          refine AW.region ?_
          refine AO.val rfl rfl (ar_ok rfl rfl rfl rfl (inI_succ hlt6 hb5)) ?_
          refine AO.pure T rfl rfl rfl ?_
          refine AO.nil ?_
          refine ⟨k1 + 1, ⟨Nat.succ_le_of_lt hlt6, (by rw [drop_succ_of hd4]; exact hH)⟩, (by have := hlt6; dsimp only; omega), ?_⟩
          exact Le.cut 0 0 rfl (by repeat' (first | exact trivial | refine ⟨⟨_, rfl, rfl⟩, ?_⟩)) (by repeat' (first | exact trivial | refine ⟨⟨_, rfl, rfl⟩, ?_⟩)) rfl

def slices_IsSortedFunc_Entry_l1 (x : List Entry) (cmp : Entry → Entry → Option Int) : Nat → Int → Option Bool
  | 0, _ => none
  | k1 + 1, v15 =>
    cond (decide (v15 > 0))
      ((getI x v15).bind fun x17 =>
      (getI x (w64 (v15 - 1))).bind fun x19 =>
      (cmp x17 x19).bind fun x21 =>
      cond (decide (x21 < 0))
        (some false)
        (slices_IsSortedFunc_Entry_l1 x cmp k1 (w64 (v15 - 1))))
      (some true)
def slices_IsSortedFunc_Entry_p (fuel : Nat) (x : List Entry) (cmp : Entry → Entry → Option Int) : Option Bool :=
  slices_IsSortedFunc_Entry_l1 x cmp fuel (w64 ((x.length : Int) - 1))
theorem slices_IsSortedFunc_Entry_ok (fuel : Nat) (x : List Entry) (cmp_f : Nat) (cmp_c : List D) (cmp_k : cmp_c.all D.capOk = true) (cmp : Entry → Entry → Option Int) (cmp_h : ∀ (a0 : Entry) (a1 : Entry) (q : Int), cmp a0 a1 = some q → SpecR Tryz.prog cmp_f ([.g (encEntry a0), .g (encEntry a1)] ++ cmp_c) (.v (.int .i64 q))) (r : Bool) (hH : slices_IsSortedFunc_Entry_p fuel x cmp = some r) : SpecR Tryz.prog 101 [.s (List.map encEntry x), .f cmp_f cmp_c] (.v (.bool r)) := by
  have cmp_r := cap_cfree cmp_k
  refine fn_ok T Tryz.func101 rfl (by decide) rfl ?_
  refine AW.seq ?_
  refine AW.region ?_
  refine AO.pure T rfl rfl rfl ?_
  refine AO.nil ?_
  refine AW.seq ?_
  refine AW.seq ?_
  refine AW.region ?_
  refine AO.pure T rfl rfl rfl ?_
  refine AO.val rfl rfl (len_map_ok T rfl rfl rfl) ?_
  refine AO.val rfl rfl (arw_ok rfl rfl rfl rfl) ?_
  refine AO.pure T rfl rfl rfl ?_
  refine AO.nil ?_
  refine AW.block ?_
  refine AW.loopS (fun s : Nat × Int => (⟨[(0, .s (List.map encEntry x)), (1, .f cmp_f cmp_c), (5, .v (.int .i64 s.2))], [], 25, []⟩ : St)) (fun s => slices_IsSortedFunc_Entry_l1 x cmp s.1 s.2 = some r) (fun s => s.1) (fuel, w64 ((x.length : Int) - 1)) hH ?_ ?_
  · exact Le.cut 0 0 rfl ⟨⟨_, rfl, rfl⟩, ⟨_, rfl, ren_fF cmp_r⟩, ⟨_, rfl, rfl⟩, trivial⟩ (by repeat' (first | exact trivial | refine ⟨⟨_, rfl, rfl⟩, ?_⟩)) (andT (allC rfl (allC (known_fF cmp_r) (allC rfl allN))) rfl)
  · rintro ⟨k1, v15⟩ hH
    replace hH : slices_IsSortedFunc_Entry_l1 x cmp k1 v15 = some r := hH
    show AW _ _ _ (⟨[(0, .s (List.map encEntry x)), (1, .f cmp_f cmp_c), (5, .v (.int .i64 v15))], [], 25, []⟩ : St)
    cases k1 with
    | zero => cases (show none = some _ from hH)
    | succ k1 =>
      rw [slices_IsSortedFunc_Entry_l1] at hH
      refine AW.seq ?_
      refine AW.seq ?_
      refine AW.region ?_
      refine AO.pure T rfl rfl rfl ?_
      refine AO.pure T rfl rfl rfl ?_
      refine AO.nil ?_
      refine AW.cond (b := decide (v15 > 0)) rfl (fun hc => ?_) (fun hc => ?_)
      · replace hH := condT hc hH
        refine AW.skip ?_
        refine AW.seq ?_
        refine AW.block ?_
        refine AW.seq ?_
        obtain ⟨x17, hx18, hH⟩ := bindE hH
        obtain ⟨x19, hx20, hH⟩ := bindE hH
        obtain ⟨x21, hx22, hH⟩ := bindE hH
        refine AW.drawn 10 1 [] mix (by kernel_rfl) rfl ?_
        refine AD.pure T rfl rfl rfl ?_
        refine AD.pure T rfl rfl rfl ?_
        refine AD.pure T rfl rfl rfl ?_
        refine AD.val rfl rfl (ix_map_ok T rfl rfl rfl rfl rfl (hx18) rfl) ?_
        refine AD.pure T (d := .g [.v (.int .i64 x17.event), .v (.int .i64 x17.skater), .v (.int .i64 x17.points)]) rfl rfl rfl ?_
        refine AD.pure T rfl rfl rfl ?_
        refine AD.pure T rfl rfl rfl ?_
        refine AD.val rfl rfl (arw_ok rfl rfl rfl rfl) ?_
        refine AD.val rfl rfl (ix_map_ok T rfl rfl rfl rfl rfl (hx20) rfl) ?_
        refine AD.pure T (d := .g [.v (.int .i64 x19.event), .v (.int .i64 x19.skater), .v (.int .i64 x19.points)]) rfl rfl rfl ?_
        refine AD.nil ?_
        refine AO.val rfl rfl (callV_ok rfl rfl rfl (andT rfl (free_cfree cmp_r)) (cmp_h _ _ _ (hx22)) rfl) ?_
        refine AO.pure T rfl rfl rfl ?_
        refine AO.nil ?_
        refine AW.cond (b := decide (x21 < 0)) rfl (fun hc => ?_) (fun hc => ?_)
        · replace hH := condT hc hH
          refine AW.seq ?_
          refine AW.region ?_
          refine AO.pure T rfl rfl rfl ?_
          refine AO.nil ?_
          refine AW.ret ?_
          cases someE hH
          exact ⟨trivial, _, [], rfl, .c (.c .v), by decide⟩
        · replace hH := condF hc hH
          refine AW.skip ?_
          refine AW.region ?_
          refine AO.pure T rfl rfl rfl ?_
          refine AO.val rfl rfl (arw_ok rfl rfl rfl rfl) ?_
          refine AO.pure T rfl rfl rfl ?_
          refine AO.nil ?_
          refine ⟨(k1, w64 (v15 - 1)), hH, Nat.lt_succ_self _, ?_⟩
          exact Le.cut 0 0 rfl ⟨⟨_, rfl, rfl⟩, ⟨_, rfl, ren_fF cmp_r⟩, ⟨_, rfl, rfl⟩, trivial⟩ (by repeat' (first | exact trivial | refine ⟨⟨_, rfl, rfl⟩, ?_⟩)) (andT (allC rfl (allC (known_fF cmp_r) (allC rfl allN))) rfl)
      · replace hH := condF hc hH
        refine AW.exit ?_
        refine AW.seq ?_
        refine AW.region ?_
        refine AO.pure T rfl rfl rfl ?_
        refine AO.nil ?_
        refine AW.ret ?_
        cases someE hH
        exact ⟨trivial, _, [], rfl, .c (.c .v), by decide⟩

def impl_compareEntries_p (a : Entry) (b : Entry) : Option Int :=
  cond (a.skater != b.skater)
    (some (w64 (a.skater - b.skater)))
    (cond (a.points != b.points)
      (some (w64 (b.points - a.points)))
      (some (w64 (a.event - b.event))))
theorem impl_compareEntries_ok (a : Entry) (b : Entry) (r : Int) (hH : impl_compareEntries_p a b = some r) : SpecR Tryz.prog 102 [.g (encEntry a), .g (encEntry b)] (.v (.int .i64 r)) := by
  refine fn_ok T Tryz.func102 rfl (by decide) rfl ?_
  refine AW.seq ?_
  refine AW.region ?_
  refine AO.step rfl (box_ok T rfl 1 rfl rfl rfl rfl) ?_
  refine AO.step rfl (box_ok T rfl 2 rfl rfl rfl rfl) ?_
  refine AO.pure T rfl rfl rfl ?_
  refine AO.nil ?_
  refine AW.seq ?_
  refine AW.block ?_
  refine AW.seq ?_
  refine AW.region ?_
  refine AO.pure T rfl rfl rfl ?_
  refine AO.pure T rfl rfl rfl ?_
  refine AO.pure T rfl rfl rfl ?_
  refine AO.pure T rfl rfl rfl ?_
  refine AO.pure T rfl rfl rfl ?_
  refine AO.pure T rfl rfl rfl ?_
  refine AO.nil ?_
  refine AW.cond (b := (a.skater != b.skater)) rfl (fun hc => ?_) (fun hc => ?_)
  · replace hH := condT hc hH
    refine AW.seq ?_
    refine AW.region ?_
    refine AO.pure T rfl rfl rfl ?_
    refine AO.pure T rfl rfl rfl ?_
    refine AO.pure T rfl rfl rfl ?_
    refine AO.pure T rfl rfl rfl ?_
    refine AO.val rfl rfl (arw_ok rfl rfl rfl rfl) ?_
    refine AO.pure T rfl rfl rfl ?_
    refine AO.nil ?_
    refine AW.ret ?_
    cases someE hH
    exact ⟨trivial, _, [], rfl, .c (.c .v), by decide⟩
  · replace hH := condF hc hH
    refine AW.seq ?_
    refine AW.region ?_
    refine AO.pure T rfl rfl rfl ?_
    refine AO.pure T rfl rfl rfl ?_
    refine AO.pure T rfl rfl rfl ?_
    refine AO.pure T rfl rfl rfl ?_
    refine AO.pure T rfl rfl rfl ?_
    refine AO.pure T rfl rfl rfl ?_
    refine AO.nil ?_
    refine AW.cond (b := (a.points != b.points)) rfl (fun hc => ?_) (fun hc => ?_)
    · replace hH := condT hc hH
      refine AW.seq ?_
      refine AW.region ?_
      refine AO.pure T rfl rfl rfl ?_
      refine AO.pure T rfl rfl rfl ?_
      refine AO.pure T rfl rfl rfl ?_
      refine AO.pure T rfl rfl rfl ?_
      refine AO.val rfl rfl (arw_ok rfl rfl rfl rfl) ?_
      refine AO.pure T rfl rfl rfl ?_
      refine AO.nil ?_
      refine AW.ret ?_
      cases someE hH
      exact ⟨trivial, _, [], rfl, .c (.c .v), by decide⟩
    · replace hH := condF hc hH
      refine AW.skip ?_
      refine AW.seq ?_
      refine AW.region ?_
      refine AO.pure T rfl rfl rfl ?_
      refine AO.pure T rfl rfl rfl ?_
      refine AO.pure T rfl rfl rfl ?_
      refine AO.pure T rfl rfl rfl ?_
      refine AO.val rfl rfl (arw_ok rfl rfl rfl rfl) ?_
      refine AO.pure T rfl rfl rfl ?_
      refine AO.nil ?_
      refine AW.ret ?_
      cases someE hH
      exact ⟨trivial, _, [], rfl, .c (.c .v), by decide⟩

def impl_IsSeason_l1 (sA : Season) (fuel : Nat) : List Line → Nat → Option Bool
  | [], k3 =>
    (impl_entriesOf_p sA).bind fun x14 =>
    (impl_AreEntries_p x14).bind fun x16 =>
    (opt x16 default (slices_IsSortedFunc_Entry_p fuel x14 (fun a0 a1 => impl_compareEntries_p a0 a1 ))).bind fun x18 =>
    some (x16 && x18)
  | y4 :: ys5, k3 =>
    cond ((((y4.events.length : Int) == 0) || decide ((y4.events.length : Int) > 80)) || ((y4.events.length : Int) != (y4.points.length : Int)))
      (some false)
      ((opt (decide ((k3 : Int) > 0)) default (getI sA.lines (w64 ((k3 : Int) - 1)))).bind fun x20 =>
      cond (decide ((k3 : Int) > 0) && decide (x20.skater ≥ y4.skater))
        (some false)
        (impl_IsSeason_l1 sA fuel ys5 (k3 + 1)))
def impl_IsSeason_p (fuel : Nat) (sA : Season) : Option Bool :=
  (impl_isBest_p sA.best).bind fun x1 =>
  cond ((!x1) || decide ((sA.lines.length : Int) > 80))
    (some false)
    (impl_IsSeason_l1 sA fuel sA.lines 0)
theorem impl_IsSeason_ok (fuel : Nat) (sA : Season) (r : Bool) (hH : impl_IsSeason_p fuel sA = some r) : SpecR Tryz.prog 67 [.g (encSeason sA)] (.v (.bool r)) := by
  refine fn_ok T Tryz.func67 rfl (by decide) rfl ?_
  refine AW.seq ?_
  refine AW.region ?_
  refine AO.step rfl (box_ok T rfl 1 rfl rfl rfl rfl) ?_
  refine AO.pure T rfl rfl rfl ?_
  refine AO.nil ?_
  refine AW.seq ?_
  refine AW.seq ?_
  obtain ⟨x1, hx2, hH⟩ := bindE hH
  refine AW.region ?_
  refine AO.pure T rfl rfl rfl ?_
  refine AO.pure T rfl rfl rfl ?_
  refine AO.val rfl rfl (callV_ok rfl rfl rfl rfl (impl_isBest_ok _ _ (hx2)) rfl) ?_
  refine AO.pure T rfl rfl rfl ?_
  refine AO.pure T rfl rfl rfl ?_
  refine AO.pureG T [] rfl trivial rfl rfl ?_
  refine AO.pureG T [11] rfl ⟨fun h => h, trivial⟩ rfl rfl ?_
  refine AO.guard [12] rfl ⟨fun h => h, trivial⟩ (fun hg => len_map_ok T rfl rfl rfl) rfl ?_
  refine AO.pureG T [13] rfl ⟨fun h => h, trivial⟩ rfl rfl ?_
  refine AO.val rfl rfl (pick_or rfl rfl rfl rfl) ?_
  refine AO.nil ?_
  refine AW.cond (b := ((!x1) || decide ((sA.lines.length : Int) > 80))) rfl (fun hc => ?_) (fun hc => ?_)
  · replace hH := condT hc hH
    refine AW.seq ?_
    refine AW.region ?_
    refine AO.pure T rfl rfl rfl ?_
    refine AO.nil ?_
    refine AW.ret ?_
    cases someE hH
    exact ⟨trivial, _, [], rfl, .c (.c .v), by decide⟩
  · replace hH := condF hc hH
    refine AW.skip ?_
    refine AW.seq ?_
    refine AW.seq ?_
    refine AW.region ?_
    refine AO.pure T rfl rfl rfl ?_
    refine AO.pure T rfl rfl rfl ?_
    refine AO.val rfl rfl (len_map_ok T rfl rfl rfl) ?_
    refine AO.pure T rfl rfl rfl ?_
    refine AO.nil ?_
    refine AW.block ?_
    refine AW.loopS (fun s : Nat => (⟨[(1, .p 1 0), (17, .s (List.map encLine sA.lines)), (18, .v (.int .i64 (sA.lines.length : Int))), (19, .v (.int .i64 (s : Int)))], [(1, .box [.v (.int .i64 sA.best), .s (List.map encLine sA.lines)])], 66, []⟩ : St)) (fun s => s ≤ sA.lines.length ∧ impl_IsSeason_l1 sA fuel (sA.lines.drop s) s = some r) (fun s => sA.lines.length - s) 0 ⟨Nat.zero_le _, hH⟩ ?_ ?_
    · exact Le.cut 0 0 rfl (by repeat' (first | exact trivial | refine ⟨⟨_, rfl, rfl⟩, ?_⟩)) (by repeat' (first | exact trivial | refine ⟨⟨_, rfl, rfl⟩, ?_⟩)) rfl
    · rintro k3 ⟨hk, hH⟩
      replace hH : impl_IsSeason_l1 sA fuel (sA.lines.drop k3) k3 = some r := hH
      show AW _ _ _ (⟨[(1, .p 1 0), (17, .s (List.map encLine sA.lines)), (18, .v (.int .i64 (sA.lines.length : Int))), (19, .v (.int .i64 (k3 : Int)))], [(1, .box [.v (.int .i64 sA.best), .s (List.map encLine sA.lines)])], 66, []⟩ : St)
      refine AW.boundM (t := 17) (l := sA.lines) rfl (fun hb7 => ?_)
      cases hd6 : sA.lines.drop k3 with
      | nil =>
        rw [hd6] at hH
        rw [impl_IsSeason_l1] at hH
        have hlt8 := drop_ge hd6
        refine AW.seq ?_
        refine AW.region ?_
        refine AO.pure T rfl rfl rfl ?_
        refine AO.nil ?_
        refine AW.seq ?_
        refine AW.condF' (b := decide ((k3 : Int) < (sA.lines.length : Int))) rfl (rngF hlt8) ?_
        refine AW.exit ?_
        refine AW.seq ?_
        obtain ⟨x14, hx15, hH⟩ := bindE hH
        refine AW.region ?_
        refine AO.pure T (d := .g [.v (.int .i64 sA.best), .s (List.map encLine sA.lines)]) rfl rfl rfl ?_
        refine AO.step rfl (call_ok rfl 4 rfl rfl rfl (impl_entriesOf_ok _ _ (hx15)) rfl rfl rfl) ?_
        refine AO.pure T rfl rfl rfl ?_
        refine AO.nil ?_
        refine AW.seq ?_
        obtain ⟨x16, hx17, hH⟩ := bindE hH
        obtain ⟨x18, hx19, hH⟩ := bindE hH
        refine AW.region ?_
        refine AO.pure T rfl rfl rfl ?_
        refine AO.val rfl rfl (callLV_ok rfl rfl rfl (es := [.s (List.map encEntry x14)]) ⟨(.rowR rfl (.map fun y => .vs rfl)), trivial⟩ (impl_AreEntries_ok _ _ (hx17)) (zfree_v _) rfl) ?_
        refine AO.pure T rfl rfl rfl ?_
        refine AO.pureG T [] rfl trivial rfl rfl ?_
        refine AO.guard [63] rfl ⟨fun h => h, trivial⟩ (fun hg => callLV_ok rfl rfl rfl (es := [.s (List.map encEntry x14), .f 102 []]) ⟨(.rowR rfl (.map fun y => .vs rfl)), .free rfl, trivial⟩ (slices_IsSortedFunc_Entry_ok fuel _ 102 [] rfl (fun a0 a1 => impl_compareEntries_p a0 a1 ) (fun a0 a1 q h => impl_compareEntries_ok a0 a1  q h) _ (optT hx19 hg)) (zfree_v _) rfl) rfl ?_
        refine AO.val rfl rfl (pick_and rfl rfl rfl rfl) ?_
        refine AO.pure T rfl rfl rfl ?_
        refine AO.nil ?_
        refine AW.ret ?_
        cases someE hH
        exact ⟨trivial, _, [], rfl, .c (.c .v), by decide⟩
      | cons y4 ys5 =>
        rw [hd6] at hH
        rw [impl_IsSeason_l1] at hH
        have hlt8 := drop_lt hd6
        refine AW.seq ?_
        refine AW.region ?_
        refine AO.pure T rfl rfl rfl ?_
        refine AO.nil ?_
        refine AW.seq ?_
        refine AW.condT' (b := decide ((k3 : Int) < (sA.lines.length : Int))) rfl (rngT hlt8) ?_
        refine AW.skip ?_
        refine AW.seq ?_
        refine AW.block ?_
        refine AW.seq ?_
        refine AW.region ?_
        refine AO.pure T rfl rfl rfl ?_
        refine AO.val rfl rfl (ix_map_ok T rfl rfl rfl rfl rfl (getI_drop hd6) rfl) ?_
        refine AO.pure T (d := .g [.v (.int .i64 y4.skater), .s (List.map encInt y4.events), .s (List.map encInt y4.points)]) rfl rfl rfl ?_
        refine AO.step rfl (alloc_ok T rfl 5 rfl rfl rfl rfl rfl) ?_
        refine AO.pure T rfl rfl rfl ?_
        refine AO.step rfl (store_okE T rfl rfl rfl rfl rfl rfl rfl rfl rfl (ds' := [.v (.int .i64 y4.skater), .s (List.map encInt y4.events), .s (List.map encInt y4.points)]) rfl) ?_
        refine AO.nil ?_
        refine AW.seq ?_
        refine AW.seq ?_
        refine AW.region ?_
        refine AO.pure T rfl rfl rfl ?_
        refine AO.pure T rfl rfl rfl ?_
        refine AO.val rfl rfl (len_map_ok T rfl rfl rfl) ?_
        refine AO.pure T rfl rfl rfl ?_
        refine AO.pure T rfl rfl rfl ?_
        refine AO.pureG T [] rfl trivial rfl rfl ?_
        refine AO.pureG T [29] rfl ⟨fun h => h, trivial⟩ rfl rfl ?_
        refine AO.guard [30] rfl ⟨fun h => h, trivial⟩ (fun hg => len_map_ok T rfl rfl rfl) rfl ?_
        refine AO.pureG T [31] rfl ⟨fun h => h, trivial⟩ rfl rfl ?_
        refine AO.val rfl rfl (pick_or rfl rfl rfl rfl) ?_
        refine AO.pure T rfl rfl rfl ?_
        refine AO.pureG T [] rfl trivial rfl rfl ?_
        refine AO.pureG T [35] rfl ⟨fun h => h, trivial⟩ rfl rfl ?_
        refine AO.guard [36] rfl ⟨fun h => h, trivial⟩ (fun hg => len_map_ok T rfl rfl rfl) rfl ?_
        refine AO.pureG T [] rfl trivial rfl rfl ?_
        refine AO.pureG T [38] rfl ⟨fun h => h, trivial⟩ rfl rfl ?_
        refine AO.guard [39] rfl ⟨fun h => h, trivial⟩ (fun hg => len_map_ok T rfl rfl rfl) rfl ?_
        refine AO.pureG T [37, 40] rfl ⟨fun h => h, fun h => h, trivial⟩ rfl rfl ?_
        refine AO.val rfl rfl (pick_or rfl rfl rfl rfl) ?_
        refine AO.nil ?_
        refine AW.le (Le.cut 0 0 (σ' := (⟨[(1, .p 1 0), (3, .v (.int .i64 (k3 : Int))), (4, .p 5 0), (17, .s (List.map encLine sA.lines)), (18, .v (.int .i64 (sA.lines.length : Int))), (19, .v (.int .i64 (k3 : Int))), (42, .v (.bool ((((y4.events.length : Int) == 0) || decide ((y4.events.length : Int) > 80)) || ((y4.events.length : Int) != (y4.points.length : Int)))))], [(1, .box [.v (.int .i64 sA.best), .s (List.map encLine sA.lines)]), (5, .box [.v (.int .i64 y4.skater), .s (List.map encInt y4.events), .s (List.map encInt y4.points)])], 66, []⟩ : St)) rfl (by repeat' (first | exact trivial | refine ⟨⟨_, rfl, rfl⟩, ?_⟩)) (by repeat' (first | exact trivial | refine ⟨⟨_, rfl, rfl⟩, ?_⟩)) rfl) ?_
        refine AW.cond (b := ((((y4.events.length : Int) == 0) || decide ((y4.events.length : Int) > 80)) || ((y4.events.length : Int) != (y4.points.length : Int)))) rfl (fun hc => ?_) (fun hc => ?_)
        · replace hH := condT hc hH
          refine AW.seq ?_
          refine AW.region ?_
          refine AO.pure T rfl rfl rfl ?_
          refine AO.nil ?_
          refine AW.ret ?_
          cases someE hH
          exact ⟨trivial, _, [], rfl, .c (.c .v), by decide⟩
        · replace hH := condF hc hH
          refine AW.skip ?_
          refine AW.seq ?_
          obtain ⟨x20, hx21, hH⟩ := bindE hH
          refine AW.drawn 12 6 [] mix (by kernel_rfl) rfl ?_
          refine AD.pure T rfl rfl rfl ?_
          refine AD.pure T rfl rfl rfl ?_
          refine AD.pure T rfl rfl rfl ?_
          refine AD.pureG T [] rfl trivial rfl rfl ?_
          refine AD.pureG T [46] rfl ⟨fun h => h, trivial⟩ rfl rfl ?_
          refine AD.pureG T [] rfl trivial rfl rfl ?_
          refine AD.guard [48] rfl ⟨fun h => h, trivial⟩ (fun hg => arw_ok rfl rfl rfl rfl) rfl ?_
          refine AD.guard [47, 49] rfl ⟨fun h => h, fun h => h, trivial⟩ (fun hg => ix_map_ok T rfl rfl rfl rfl rfl (optT hx21 hg) rfl) rfl ?_
          refine AD.pureG T [50] rfl ⟨fun h => h, trivial⟩ rfl rfl ?_
          refine AD.pureG T [51] rfl ⟨fun h => h, trivial⟩ rfl rfl ?_
          refine AD.pureG T [] rfl trivial rfl rfl ?_
          refine AD.pureG T [53] rfl ⟨fun h => h, trivial⟩ rfl rfl ?_
          refine AD.nil ?_
          refine AO.pureG T [52, 54] rfl ⟨fun h => h, fun h => h, trivial⟩ rfl rfl ?_
          refine AO.val rfl rfl (pick_and rfl rfl rfl rfl) ?_
          refine AO.nil ?_
          refine AW.cond (b := (decide ((k3 : Int) > 0) && decide (x20.skater ≥ y4.skater))) rfl (fun hc => ?_) (fun hc => ?_)
          · replace hH := condT hc hH
            refine AW.seq ?_
            refine AW.region ?_
            refine AO.pure T rfl rfl rfl ?_
            refine AO.nil ?_
            refine AW.ret ?_
            cases someE hH
            exact ⟨trivial, _, [], rfl, .c (.c .v), by decide⟩
          · replace hH := condF hc hH
            refine AW.skip ?_
            refine AW.region ?_
            refine AO.val rfl rfl (ar_ok rfl rfl rfl rfl (inI_succ hlt8 hb7)) ?_
            refine AO.pure T rfl rfl rfl ?_
            refine AO.nil ?_
            refine ⟨k3 + 1, ⟨Nat.succ_le_of_lt hlt8, (by rw [drop_succ_of hd6]; exact hH)⟩, (by have := hlt8; dsimp only; omega), ?_⟩
            exact Le.cut 0 0 rfl (by repeat' (first | exact trivial | refine ⟨⟨_, rfl, rfl⟩, ?_⟩)) (by repeat' (first | exact trivial | refine ⟨⟨_, rfl, rfl⟩, ?_⟩)) rfl

def impl_IsWorld_l1 (w : World) (fuel : Nat) : List Season → Nat → Option Bool
  | [], k5 =>
    some true
  | y6 :: ys7, k5 =>
    (impl_IsSeason_p fuel y6).bind fun x24 =>
    (opt ((!(!x24)) && decide ((k5 : Int) > 0)) default (getI w.weights (k5 : Int))).bind fun x26 =>
    (opt ((!(!x24)) && decide ((k5 : Int) > 0)) default (getI w.weights (w64 ((k5 : Int) - 1)))).bind fun x28 =>
    cond ((!x24) || (decide ((k5 : Int) > 0) && decide (x26 > x28)))
      (some false)
      (impl_IsWorld_l1 w fuel ys7 (k5 + 1))
def impl_IsWorld_p (fuel : Nat) (w : World) : Option Bool :=
  (impl_within_p (w.seasons.length : Int) 1 3).bind fun x1 =>
  (opt (!((!x1) || ((w.weights.length : Int) != (w.seasons.length : Int)))) default (impl_allWithin_p w.weights 0 100)).bind fun x3 =>
  cond (((!x1) || ((w.weights.length : Int) != (w.seasons.length : Int))) || (!x3))
    (some false)
    (impl_IsWorld_l1 w fuel w.seasons 0)
theorem impl_IsWorld_ok (fuel : Nat) (w : World) (r : Bool) (hH : impl_IsWorld_p fuel w = some r) : SpecR Tryz.prog 23 [.g (encWorld w)] (.v (.bool r)) := by
  refine fn_ok T Tryz.func23 rfl (by decide) rfl ?_
  refine AW.seq ?_
  refine AW.region ?_
  refine AO.step rfl (box_ok T rfl 1 rfl rfl rfl rfl) ?_
  refine AO.pure T rfl rfl rfl ?_
  refine AO.nil ?_
  refine AW.seq ?_
  refine AW.seq ?_
  obtain ⟨x1, hx2, hH⟩ := bindE hH
  obtain ⟨x3, hx4, hH⟩ := bindE hH
  refine AW.region ?_
  refine AO.pure T rfl rfl rfl ?_
  refine AO.pure T rfl rfl rfl ?_
  refine AO.val rfl rfl (len_map_ok T rfl rfl rfl) ?_
  refine AO.val rfl rfl (callV_ok rfl rfl rfl rfl (impl_within_ok _ _ _ _ (hx2)) rfl) ?_
  refine AO.pure T rfl rfl rfl ?_
  refine AO.pure T rfl rfl rfl ?_
  refine AO.pureG T [] rfl trivial rfl rfl ?_
  refine AO.pureG T [11] rfl ⟨fun h => h, trivial⟩ rfl rfl ?_
  refine AO.guard [12] rfl ⟨fun h => h, trivial⟩ (fun hg => len_map_ok T rfl rfl rfl) rfl ?_
  refine AO.pureG T [] rfl trivial rfl rfl ?_
  refine AO.pureG T [14] rfl ⟨fun h => h, trivial⟩ rfl rfl ?_
  refine AO.guard [15] rfl ⟨fun h => h, trivial⟩ (fun hg => len_map_ok T rfl rfl rfl) rfl ?_
  refine AO.pureG T [13, 16] rfl ⟨fun h => h, fun h => h, trivial⟩ rfl rfl ?_
  refine AO.val rfl rfl (pick_or rfl rfl rfl rfl) ?_
  refine AO.pure T rfl rfl rfl ?_
  refine AO.pureG T [] rfl trivial rfl rfl ?_
  refine AO.pureG T [20] rfl ⟨fun h => h, trivial⟩ rfl rfl ?_
  refine AO.guard [21] rfl ⟨fun h => h, trivial⟩ (fun hg => callV_ok rfl rfl rfl rfl (impl_allWithin_ok _ _ _ _ (optT hx4 hg)) rfl) rfl ?_
  refine AO.pureG T [22] rfl ⟨fun h => h, trivial⟩ rfl rfl ?_
  refine AO.val rfl rfl (pick_or rfl rfl rfl rfl) ?_
  refine AO.nil ?_
  refine AW.cond (b := (((!x1) || ((w.weights.length : Int) != (w.seasons.length : Int))) || (!x3))) rfl (fun hc => ?_) (fun hc => ?_)
  · replace hH := condT hc hH
    refine AW.seq ?_
    refine AW.region ?_
    refine AO.pure T rfl rfl rfl ?_
    refine AO.nil ?_
    refine AW.ret ?_
    cases someE hH
    exact ⟨trivial, _, [], rfl, .c (.c .v), by decide⟩
  · replace hH := condF hc hH
    refine AW.skip ?_
    refine AW.seq ?_
    refine AW.seq ?_
    refine AW.region ?_
    refine AO.pure T rfl rfl rfl ?_
    refine AO.pure T rfl rfl rfl ?_
    refine AO.val rfl rfl (len_map_ok T rfl rfl rfl) ?_
    refine AO.pure T rfl rfl rfl ?_
    refine AO.nil ?_
    refine AW.le (Le.cut 0 0 (σ' := (⟨[(1, .p 1 0), (26, .s (List.map encSeason w.seasons)), (27, .v (.int .i64 (w.seasons.length : Int))), (28, .v (.int .i64 0))], [(1, .box [.s (List.map encSeason w.seasons), .s (List.map encInt w.weights)])], 55, []⟩ : St)) rfl (by repeat' (first | exact trivial | refine ⟨⟨_, rfl, rfl⟩, ?_⟩)) (by repeat' (first | exact trivial | refine ⟨⟨_, rfl, rfl⟩, ?_⟩)) rfl) ?_
    refine AW.block ?_
    refine AW.loopS (fun s : Nat => (⟨[(1, .p 1 0), (26, .s (List.map encSeason w.seasons)), (27, .v (.int .i64 (w.seasons.length : Int))), (28, .v (.int .i64 (s : Int)))], [(1, .box [.s (List.map encSeason w.seasons), .s (List.map encInt w.weights)])], 55, []⟩ : St)) (fun s => s ≤ w.seasons.length ∧ impl_IsWorld_l1 w fuel (w.seasons.drop s) s = some r) (fun s => w.seasons.length - s) 0 ⟨Nat.zero_le _, hH⟩ ?_ ?_
    · exact Le.cut 0 0 rfl (by repeat' (first | exact trivial | refine ⟨⟨_, rfl, rfl⟩, ?_⟩)) (by repeat' (first | exact trivial | refine ⟨⟨_, rfl, rfl⟩, ?_⟩)) rfl
    · rintro k5 ⟨hk, hH⟩
      replace hH : impl_IsWorld_l1 w fuel (w.seasons.drop k5) k5 = some r := hH
      show AW _ _ _ (⟨[(1, .p 1 0), (26, .s (List.map encSeason w.seasons)), (27, .v (.int .i64 (w.seasons.length : Int))), (28, .v (.int .i64 (k5 : Int)))], [(1, .box [.s (List.map encSeason w.seasons), .s (List.map encInt w.weights)])], 55, []⟩ : St)
      refine AW.boundM (t := 26) (l := w.seasons) rfl (fun hb9 => ?_)
      cases hd8 : w.seasons.drop k5 with
      | nil =>
        rw [hd8] at hH
        rw [impl_IsWorld_l1] at hH
        have hlt10 := drop_ge hd8
        refine AW.seq ?_
        refine AW.region ?_
        refine AO.pure T rfl rfl rfl ?_
        refine AO.nil ?_
        refine AW.seq ?_
        refine AW.condF' (b := decide ((k5 : Int) < (w.seasons.length : Int))) rfl (rngF hlt10) ?_
        refine AW.exit ?_
        refine AW.seq ?_
        refine AW.region ?_
        refine AO.pure T rfl rfl rfl ?_
        refine AO.nil ?_
        refine AW.ret ?_
        cases someE hH
        exact ⟨trivial, _, [], rfl, .c (.c .v), by decide⟩
      | cons y6 ys7 =>
        rw [hd8] at hH
        rw [impl_IsWorld_l1] at hH
        have hlt10 := drop_lt hd8
        refine AW.seq ?_
        refine AW.region ?_
        refine AO.pure T rfl rfl rfl ?_
        refine AO.nil ?_
        refine AW.seq ?_
        refine AW.condT' (b := decide ((k5 : Int) < (w.seasons.length : Int))) rfl (rngT hlt10) ?_
        refine AW.skip ?_
        refine AW.seq ?_
        refine AW.block ?_
        refine AW.seq ?_
        refine AW.region ?_
        refine AO.pure T rfl rfl rfl ?_
        refine AO.val rfl rfl (ix_map_ok T rfl rfl rfl rfl rfl (getI_drop hd8) rfl) ?_
        refine AO.pure T (d := .g [.v (.int .i64 y6.best), .s (List.map encLine y6.lines)]) rfl rfl rfl ?_
        refine AO.step rfl (alloc_ok T rfl 4 rfl rfl rfl rfl rfl) ?_
        refine AO.pure T rfl rfl rfl ?_
        refine AO.step rfl (store_okE T rfl rfl rfl rfl rfl rfl rfl rfl rfl (ds' := [.v (.int .i64 y6.best), .s (List.map encLine y6.lines)]) rfl) ?_
        refine AO.nil ?_
        refine AW.seq ?_
        obtain ⟨x24, hx25, hH⟩ := bindE hH
        obtain ⟨x26, hx27, hH⟩ := bindE hH
        obtain ⟨x28, hx29, hH⟩ := bindE hH
        refine AW.drawn 18 5 [] mix (by kernel_rfl) rfl ?_
        refine AD.pure T (d := .g [.v (.int .i64 y6.best), .s (List.map encLine y6.lines)]) rfl rfl rfl ?_
        refine AD.val rfl rfl (callV_ok rfl rfl rfl rfl (impl_IsSeason_ok fuel _ _ (hx25)) rfl) ?_
        refine AD.pure T rfl rfl rfl ?_
        refine AD.pure T rfl rfl rfl ?_
        refine AD.pureG T [] rfl trivial rfl rfl ?_
        refine AD.pureG T [37] rfl ⟨fun h => h, trivial⟩ rfl rfl ?_
        refine AD.pureG T [38] rfl ⟨fun h => h, trivial⟩ rfl rfl ?_
        refine AD.pureG T [] rfl trivial rfl rfl ?_
        refine AD.pureG T [40] rfl ⟨fun h => h, trivial⟩ rfl rfl ?_
        refine AD.pureG T [] rfl trivial rfl rfl ?_
        refine AD.guard [41, 42] rfl ⟨fun h => h, fun h => h, trivial⟩ (fun hg => ix_map_ok T rfl rfl rfl rfl rfl (optT hx27 hg) rfl) rfl ?_
        refine AD.pureG T [43] rfl ⟨fun h => h, trivial⟩ rfl rfl ?_
        refine AD.pureG T [] rfl trivial rfl rfl ?_
        refine AD.pureG T [45] rfl ⟨fun h => h, trivial⟩ rfl rfl ?_
        refine AD.pureG T [] rfl trivial rfl rfl ?_
        refine AD.guard [47] rfl ⟨fun h => h, trivial⟩ (fun hg => arw_ok rfl rfl rfl rfl) rfl ?_
        refine AD.guard [46, 48] rfl ⟨fun h => h, fun h => h, trivial⟩ (fun hg => ix_map_ok T rfl rfl rfl rfl rfl (optT hx29 hg) rfl) rfl ?_
        refine AD.pureG T [49] rfl ⟨fun h => h, trivial⟩ rfl rfl ?_
        refine AD.nil ?_
        refine AO.pureG T [44, 50] rfl ⟨fun h => h, fun h => h, trivial⟩ rfl rfl ?_
        refine AO.guard [39] rfl ⟨fun h => h, trivial⟩ (fun hg => pick_and rfl rfl rfl (by rw [hg]; exact Bool.true_and _)) rfl ?_
        refine AO.val rfl rfl (pick_or rfl rfl rfl rfl) ?_
        refine AO.nil ?_
        refine AW.le (Le.cut 0 0 (σ' := (⟨[(1, .p 1 0), (26, .s (List.map encSeason w.seasons)), (27, .v (.int .i64 (w.seasons.length : Int))), (28, .v (.int .i64 (k5 : Int))), (53, .v (.bool ((!x24) || (decide ((k5 : Int) > 0) && decide (x26 > x28)))))], [(1, .box [.s (List.map encSeason w.seasons), .s (List.map encInt w.weights)])], 55, []⟩ : St)) rfl (by repeat' (first | exact trivial | refine ⟨⟨_, rfl, rfl⟩, ?_⟩)) (by repeat' (first | exact trivial | refine ⟨⟨_, rfl, rfl⟩, ?_⟩)) rfl) ?_
        refine AW.cond (b := ((!x24) || (decide ((k5 : Int) > 0) && decide (x26 > x28)))) rfl (fun hc => ?_) (fun hc => ?_)
        · replace hH := condT hc hH
          refine AW.seq ?_
          refine AW.region ?_
          refine AO.pure T rfl rfl rfl ?_
          refine AO.nil ?_
          refine AW.ret ?_
          cases someE hH
          exact ⟨trivial, _, [], rfl, .c (.c .v), by decide⟩
        · replace hH := condF hc hH
          refine AW.skip ?_
          refine AW.region ?_
          refine AO.val rfl rfl (ar_ok rfl rfl rfl rfl (inI_succ hlt10 hb9)) ?_
          refine AO.pure T rfl rfl rfl ?_
          refine AO.nil ?_
          refine ⟨k5 + 1, ⟨Nat.succ_le_of_lt hlt10, (by rw [drop_succ_of hd8]; exact hH)⟩, (by have := hlt10; dsimp only; omega), ?_⟩
          exact Le.cut 0 0 rfl (by repeat' (first | exact trivial | refine ⟨⟨_, rfl, rfl⟩, ?_⟩)) (by repeat' (first | exact trivial | refine ⟨⟨_, rfl, rfl⟩, ?_⟩)) rfl

def slices_Index_int_l1 (v : Int) : List Int → Nat → Option Int
  | [], k1 =>
    some (-1)
  | y2 :: ys3, k1 =>
    cond (v == y2)
      (some (k1 : Int))
      (slices_Index_int_l1 v ys3 (k1 + 1))
def slices_Index_int_p (sA : List Int) (v : Int) : Option Int :=
  slices_Index_int_l1 v sA 0
theorem slices_Index_int_ok (sA : List Int) (v : Int) (r : Int) (hH : slices_Index_int_p sA v = some r) : SpecR Tryz.prog 60 [.s (List.map encInt sA), .v (.int .i64 v)] (.v (.int .i64 r)) := by
  refine fn_ok T Tryz.func60 rfl (by decide) rfl ?_
  refine AW.seq ?_
  refine AW.region ?_
  refine AO.pure T rfl rfl rfl ?_
  refine AO.nil ?_
  refine AW.seq ?_
  refine AW.seq ?_
  refine AW.region ?_
  refine AO.pure T rfl rfl rfl ?_
  refine AO.val rfl rfl (len_map_ok T rfl rfl rfl) ?_
  refine AO.pure T rfl rfl rfl ?_
  refine AO.nil ?_
  refine AW.block ?_
  refine AW.loopS (fun s : Nat => (⟨[(0, .s (List.map encInt sA)), (1, .v (.int .i64 v)), (7, .v (.int .i64 (sA.length : Int))), (8, .v (.int .i64 (s : Int)))], [], 19, []⟩ : St)) (fun s => s ≤ sA.length ∧ slices_Index_int_l1 v (sA.drop s) s = some r) (fun s => sA.length - s) 0 ⟨Nat.zero_le _, hH⟩ ?_ ?_
  · exact Le.cut 0 0 rfl (by repeat' (first | exact trivial | refine ⟨⟨_, rfl, rfl⟩, ?_⟩)) (by repeat' (first | exact trivial | refine ⟨⟨_, rfl, rfl⟩, ?_⟩)) rfl
  · rintro k1 ⟨hk, hH⟩
    replace hH : slices_Index_int_l1 v (sA.drop k1) k1 = some r := hH
    show AW _ _ _ (⟨[(0, .s (List.map encInt sA)), (1, .v (.int .i64 v)), (7, .v (.int .i64 (sA.length : Int))), (8, .v (.int .i64 (k1 : Int)))], [], 19, []⟩ : St)
    refine AW.boundM (t := 0) (l := sA) rfl (fun hb5 => ?_)
    cases hd4 : sA.drop k1 with
    | nil =>
      rw [hd4] at hH
      rw [slices_Index_int_l1] at hH
      have hlt6 := drop_ge hd4
      refine AW.seq ?_
      refine AW.region ?_
      refine AO.pure T rfl rfl rfl ?_
      refine AO.nil ?_
      refine AW.seq ?_
      refine AW.condF' (b := decide ((k1 : Int) < (sA.length : Int))) rfl (rngF hlt6) ?_
      refine AW.exit ?_
      refine AW.seq ?_
      refine AW.region ?_
      refine AO.pure T rfl rfl rfl ?_
      refine AO.nil ?_
      refine AW.ret ?_
      cases someE hH
      exact ⟨trivial, _, [], rfl, .c (.c .v), by decide⟩
    | cons y2 ys3 =>
      rw [hd4] at hH
      rw [slices_Index_int_l1] at hH
      have hlt6 := drop_lt hd4
      refine AW.seq ?_
      refine AW.region ?_
      refine AO.pure T rfl rfl rfl ?_
      refine AO.nil ?_
      refine AW.seq ?_
      refine AW.condT' (b := decide ((k1 : Int) < (sA.length : Int))) rfl (rngT hlt6) ?_
      refine AW.skip ?_
      refine AW.seq ?_
      refine AW.block ?_
      refine AW.seq ?_
      refine AW.region ?_
      refine AO.pure T rfl rfl rfl ?_
      refine AO.pure T rfl rfl rfl ?_
      refine AO.nil ?_
      refine AW.seq ?_
      refine AW.region ?_
      refine AO.pure T rfl rfl rfl ?_
      refine AO.pure T rfl rfl rfl ?_
      refine AO.pure T rfl rfl rfl ?_
      refine AO.val rfl rfl (ix_map_ok T rfl rfl rfl rfl rfl (getI_drop hd4) rfl) ?_
      refine AO.pure T rfl rfl rfl ?_
      refine AO.pure T rfl rfl rfl ?_
      refine AO.nil ?_
      refine AW.cond (b := (v == y2)) rfl (fun hc => ?_) (fun hc => ?_)
      · replace hH := condT hc hH
        refine AW.seq ?_
        refine AW.region ?_
        refine AO.pure T rfl rfl rfl ?_
        refine AO.pure T rfl rfl rfl ?_
        refine AO.nil ?_
        refine AW.ret ?_
        cases someE hH
        exact ⟨trivial, _, [], rfl, .c (.c .v), by decide⟩
      · replace hH := condF hc hH
        refine AW.skip ?_
        refine AW.region ?_
        refine AO.val rfl rfl (ar_ok rfl rfl rfl rfl (inI_succ hlt6 hb5)) ?_
        refine AO.pure T rfl rfl rfl ?_
        refine AO.nil ?_
        refine ⟨k1 + 1, ⟨Nat.succ_le_of_lt hlt6, (by rw [drop_succ_of hd4]; exact hH)⟩, (by have := hlt6; dsimp only; omega), ?_⟩
        exact Le.cut 0 0 rfl (by repeat' (first | exact trivial | refine ⟨⟨_, rfl, rfl⟩, ?_⟩)) (by repeat' (first | exact trivial | refine ⟨⟨_, rfl, rfl⟩, ?_⟩)) rfl

def slices_Contains_int_p (sA : List Int) (v : Int) : Option Bool :=
  (slices_Index_int_p sA v).bind fun x1 =>
  some (decide (x1 ≥ 0))
theorem slices_Contains_int_ok (sA : List Int) (v : Int) (r : Bool) (hH : slices_Contains_int_p sA v = some r) : SpecR Tryz.prog 72 [.s (List.map encInt sA), .v (.int .i64 v)] (.v (.bool r)) := by
  refine fn_ok T Tryz.func72 rfl (by decide) rfl ?_
  refine AW.seq ?_
  refine AW.region ?_
  refine AO.pure T rfl rfl rfl ?_
  refine AO.nil ?_
  refine AW.seq ?_
  obtain ⟨x1, hx2, hH⟩ := bindE hH
  refine AW.region ?_
  refine AO.pure T rfl rfl rfl ?_
  refine AO.pure T rfl rfl rfl ?_
  refine AO.val rfl rfl (callV_ok rfl rfl rfl rfl (slices_Index_int_ok _ _ _ (hx2)) rfl) ?_
  refine AO.pure T rfl rfl rfl ?_
  refine AO.pure T rfl rfl rfl ?_
  refine AO.nil ?_
  refine AW.ret ?_
  cases someE hH
  exact ⟨trivial, _, [], rfl, .c (.c .v), by decide⟩

def impl_isOrder_l1 (order : List Int) : List Int → Nat → Option Bool
  | [], k1 =>
    some (decide ((order.length : Int) ≤ 40))
  | y2 :: ys3, k1 =>
    (impl_isSkater_p y2).bind fun x20 =>
    (opt (!(!x20)) default (sliceHi order (k1 : Int))).bind fun x22 =>
    (opt (!(!x20)) default (slices_Contains_int_p x22 y2)).bind fun x24 =>
    cond ((!x20) || x24)
      (some false)
      (impl_isOrder_l1 order ys3 (k1 + 1))
def impl_isOrder_p (order : List Int) : Option Bool :=
  impl_isOrder_l1 order order 0
theorem impl_isOrder_ok (order : List Int) (r : Bool) (hH : impl_isOrder_p order = some r) : SpecR Tryz.prog 58 [.s (List.map encInt order)] (.v (.bool r)) := by
  refine fn_ok T Tryz.func58 rfl (by decide) rfl ?_
  refine AW.seq ?_
  refine AW.region ?_
  refine AO.pure T rfl rfl rfl ?_
  refine AO.nil ?_
  refine AW.seq ?_
  refine AW.seq ?_
  refine AW.region ?_
  refine AO.pure T rfl rfl rfl ?_
  refine AO.val rfl rfl (len_map_ok T rfl rfl rfl) ?_
  refine AO.pure T rfl rfl rfl ?_
  refine AO.nil ?_
  refine AW.block ?_
  refine AW.loopS (fun s : Nat => (⟨[(0, .s (List.map encInt order)), (5, .s (List.map encInt order)), (6, .v (.int .i64 (order.length : Int))), (7, .v (.int .i64 (s : Int)))], [], 26, []⟩ : St)) (fun s => s ≤ order.length ∧ impl_isOrder_l1 order (order.drop s) s = some r) (fun s => order.length - s) 0 ⟨Nat.zero_le _, hH⟩ ?_ ?_
  · exact Le.cut 0 0 rfl (by repeat' (first | exact trivial | refine ⟨⟨_, rfl, rfl⟩, ?_⟩)) (by repeat' (first | exact trivial | refine ⟨⟨_, rfl, rfl⟩, ?_⟩)) rfl
  · rintro k1 ⟨hk, hH⟩
    replace hH : impl_isOrder_l1 order (order.drop k1) k1 = some r := hH
    show AW _ _ _ (⟨[(0, .s (List.map encInt order)), (5, .s (List.map encInt order)), (6, .v (.int .i64 (order.length : Int))), (7, .v (.int .i64 (k1 : Int)))], [], 26, []⟩ : St)
    refine AW.boundM (t := 0) (l := order) rfl (fun hb5 => ?_)
    cases hd4 : order.drop k1 with
    | nil =>
      rw [hd4] at hH
      rw [impl_isOrder_l1] at hH
      have hlt6 := drop_ge hd4
      refine AW.seq ?_
      refine AW.region ?_
      refine AO.pure T rfl rfl rfl ?_
      refine AO.nil ?_
      refine AW.seq ?_
      refine AW.condF' (b := decide ((k1 : Int) < (order.length : Int))) rfl (rngF hlt6) ?_
      refine AW.exit ?_
      refine AW.seq ?_
      refine AW.region ?_
      refine AO.pure T rfl rfl rfl ?_
      refine AO.val rfl rfl (len_map_ok T rfl rfl rfl) ?_
      refine AO.pure T rfl rfl rfl ?_
      refine AO.pure T rfl rfl rfl ?_
      refine AO.nil ?_
      refine AW.ret ?_
      cases someE hH
      exact ⟨trivial, _, [], rfl, .c (.c .v), by decide⟩
    | cons y2 ys3 =>
      rw [hd4] at hH
      rw [impl_isOrder_l1] at hH
      have hlt6 := drop_lt hd4
      refine AW.seq ?_
      refine AW.region ?_
      refine AO.pure T rfl rfl rfl ?_
      refine AO.nil ?_
      refine AW.seq ?_
      refine AW.condT' (b := decide ((k1 : Int) < (order.length : Int))) rfl (rngT hlt6) ?_
      refine AW.skip ?_
      refine AW.seq ?_
      refine AW.block ?_
      refine AW.seq ?_
      refine AW.region ?_
      refine AO.pure T rfl rfl rfl ?_
      refine AO.val rfl rfl (ix_map_ok T rfl rfl rfl rfl rfl (getI_drop hd4) rfl) ?_
      refine AO.pure T rfl rfl rfl ?_
      refine AO.pure T rfl rfl rfl ?_
      refine AO.pure T rfl rfl rfl ?_
      refine AO.nil ?_
      refine AW.seq ?_
      obtain ⟨x20, hx21, hH⟩ := bindE hH
      obtain ⟨x22, hx23, hH⟩ := bindE hH
      obtain ⟨x24, hx25, hH⟩ := bindE hH
      refine AW.region ?_
      refine AO.pure T rfl rfl rfl ?_
      refine AO.val rfl rfl (callV_ok rfl rfl rfl rfl (impl_isSkater_ok _ _ (hx21)) rfl) ?_
      refine AO.pure T rfl rfl rfl ?_
      refine AO.pure T rfl rfl rfl ?_
      refine AO.pureG T [] rfl trivial rfl rfl ?_
      refine AO.pureG T [] rfl trivial rfl rfl ?_
      refine AO.guard [16, 17] rfl ⟨fun h => h, fun h => h, trivial⟩ (fun hg => slice_hi_map_ok T rfl rfl rfl rfl rfl (optT hx23 hg) (fun _ => rfl)) rfl ?_
      refine AO.pureG T [] rfl trivial rfl rfl ?_
      refine AO.guard [18, 19] rfl ⟨fun h => h, fun h => h, trivial⟩ (fun hg => callV_ok rfl rfl rfl rfl (slices_Contains_int_ok _ _ _ (optT hx25 hg)) rfl) rfl ?_
      refine AO.val rfl rfl (pick_or rfl rfl rfl rfl) ?_
      refine AO.nil ?_
      refine AW.cond (b := ((!x20) || x24)) rfl (fun hc => ?_) (fun hc => ?_)
      · replace hH := condT hc hH
        refine AW.seq ?_
        refine AW.region ?_
        refine AO.pure T rfl rfl rfl ?_
        refine AO.nil ?_
        refine AW.ret ?_
        cases someE hH
        exact ⟨trivial, _, [], rfl, .c (.c .v), by decide⟩
      · replace hH := condF hc hH
        refine AW.skip ?_
        refine AW.region ?_
        refine AO.val rfl rfl (ar_ok rfl rfl rfl rfl (inI_succ hlt6 hb5)) ?_
        refine AO.pure T rfl rfl rfl ?_
        refine AO.nil ?_
        refine ⟨k1 + 1, ⟨Nat.succ_le_of_lt hlt6, (by rw [drop_succ_of hd4]; exact hH)⟩, (by have := hlt6; dsimp only; omega), ?_⟩
        exact Le.cut 0 0 rfl (by repeat' (first | exact trivial | refine ⟨⟨_, rfl, rfl⟩, ?_⟩)) (by repeat' (first | exact trivial | refine ⟨⟨_, rfl, rfl⟩, ?_⟩)) rfl

def slices_Sort_int_p (x : List Int) : Option (List Int) := (need (Nat.blt x.length 4611686018427387904)).bind fun _ => some (sortI x)
theorem slices_Sort_int_ok (x : List Int) (r : List Int) (hH : slices_Sort_int_p x = some r) : SpecM Tryz.prog 109 [.w 1 (x.map encInt)] [.w 1 (r.map encInt)] (.t []) := by
  obtain ⟨u, hu, hr⟩ := bindE hH
  cases someE hr
  exact spec_sortI ⟨_, Tryz.func109, rfl, by decide⟩ Tryz.slices_Sort_int Tryz.slices_Sort_int_none x (Nat.le_of_ble_eq_true (needT hu))

def slices_Compact_int_l2 (sA : List Int) (v147 : Int) : Nat → List Int → Int → List Int → Int → Option (Except ((List Int)) Unit)
  | 0, _, _, _, _ => none
  | k192 + 1, v207, v208, v209, v210 =>
    cond (decide (v210 < (((sA.length - v147.toNat) : Nat) : Int)))
      ((getP v209 v147.toNat (sA.length - v147.toNat) v210).bind fun x212 =>
      (getP v209 v147.toNat (sA.length - v147.toNat) (w64 (v210 - 1))).bind fun x214 =>
      cond (x212 != x214)
        ((getI v209 v208).bind fun x216 =>
        slices_Compact_int_l2 sA v147 k192 (v209.set v208.toNat x212) (w64 (v208 + 1)) (v209.set v208.toNat x212) (w64 (v210 + 1)))
        (slices_Compact_int_l2 sA v147 k192 v209 v208 v209 (w64 (v210 + 1))))
      ((need (inB v208 v209.length v209.length)).bind fun u218 =>
      (need (inB 0 v208 ((List.take v208.toNat v209 ++ List.replicate (v209.length - v208.toNat) 0 ++ List.drop (v208.toNat + (v209.length - v208.toNat)) v209)).length)).bind fun u220 =>
      some (.error ((List.drop 0 (List.take v208.toNat v209 ++ List.replicate (v209.length - v208.toNat) 0 ++ List.drop (v208.toNat + (v209.length - v208.toNat)) v209)).take v208.toNat)))
def slices_Compact_int_l1 (sA : List Int) (fuel : Nat) : Nat → Int → Option ((List Int))
  | 0, _ => none
  | k1 + 1, v147 =>
    cond (decide (v147 < (sA.length : Int)))
      (((getI sA v147).bind fun x186 =>
      (getI sA (w64 (v147 - 1))).bind fun x188 =>
      cond (x186 == x188)
        ((need (inB v147 sA.length sA.length)).bind fun u190 =>
        slices_Compact_int_l2 sA v147 fuel sA v147 sA 1)
        (some (.ok ()))).bind fun o184 => flow o184 fun _ =>
      slices_Compact_int_l1 sA fuel k1 (w64 (v147 + 1)))
      (some sA)
def slices_Compact_int_p (fuel : Nat) (sA : List Int) : Option (List Int) :=
  cond (decide ((sA.length : Int) < 2))
    (some sA)
    (slices_Compact_int_l1 sA fuel fuel 1)
theorem slices_Compact_int_ok (fuel : Nat) (sA : List Int) (r : (List Int)) (hH : slices_Compact_int_p fuel sA = some r) : SpecM Tryz.prog 110 [.w 1 (sA.map encInt)] [.u] (.w 1 (r.map encInt)) := by
  refine fn_okM T Tryz.func110 rfl (by decide) rfl rfl ?_
  intro L
  show AW _ _ _ (⟨[(0, .R 1)], [(1, .row 1 (List.map encInt sA))], 61, [(1, L 1)]⟩ : St)
  refine AW.seq ?_
  refine AW.region ?_
  refine AO.pure T rfl rfl rfl ?_
  refine AO.nil ?_
  refine AW.seq ?_
  refine AW.seq ?_
  refine AW.region ?_
  refine AO.pure T rfl rfl rfl ?_
  refine AO.val rfl rfl (len_row_ok T rfl rfl rfl rfl) ?_
  refine AO.pure T rfl rfl rfl ?_
  refine AO.nil ?_
  refine AW.cond (b := decide ((sA.length : Int) < 2)) rfl (fun hc => ?_) (fun hc => ?_)
  · replace hH := condT hc hH
    refine AW.seq ?_
    refine AW.region ?_
    refine AO.pure T rfl rfl rfl ?_
    refine AO.pure T rfl rfl rfl ?_
    refine AO.nil ?_
    refine AW.ret ?_
    cases someE hH
    exact ⟨trivial, rfl, _, [1], [], rfl, expLG_cons (.c .u) (expLG_nil), .c (.c (.rowR rfl)), by decide⟩
  · replace hH := condF hc hH
    refine AW.skip ?_
    refine AW.seq ?_
    refine AW.seq ?_
    refine AW.region ?_
    refine AO.pure T rfl rfl rfl ?_
    refine AO.nil ?_
    refine AW.block ?_
    refine AW.loopS (fun s : Nat × Int => (⟨[(0, .R 1), (3, .v (.int .i64 s.2))], [(1, .row 1 (List.map encInt sA))], 61, [(1, L 1)]⟩ : St)) (fun s => slices_Compact_int_l1 sA fuel s.1 s.2 = some r) (fun s => s.1) (fuel, 1) hH ?_ ?_
    · exact Le.cut 0 0 rfl (by repeat' (first | exact trivial | refine ⟨⟨_, rfl, rfl⟩, ?_⟩)) (by repeat' (first | exact trivial | refine ⟨⟨_, rfl, rfl⟩, ?_⟩)) rfl ⟨⟨rfl, rfl⟩, trivial⟩
    · rintro ⟨k1, v147⟩ hH
      replace hH : slices_Compact_int_l1 sA fuel k1 v147 = some r := hH
      show AW _ _ _ (⟨[(0, .R 1), (3, .v (.int .i64 v147))], [(1, .row 1 (List.map encInt sA))], 61, [(1, L 1)]⟩ : St)
      cases k1 with
      | zero => cases (show none = some _ from hH)
      | succ k1 =>
        rw [slices_Compact_int_l1] at hH
        refine AW.seq ?_
        refine AW.seq ?_
        refine AW.region ?_
        refine AO.pure T rfl rfl rfl ?_
        refine AO.pure T rfl rfl rfl ?_
        refine AO.val rfl rfl (len_row_ok T rfl rfl rfl rfl) ?_
        refine AO.pure T rfl rfl rfl ?_
        refine AO.nil ?_
        refine AW.cond (b := decide (v147 < (sA.length : Int))) rfl (fun hc => ?_) (fun hc => ?_)
        · replace hH := condT hc hH
          refine AW.skip ?_
          obtain ⟨o184, hH, hK185⟩ := bindE hH
          refine AW.seqJ (fun s : Unit => (⟨[(0, .R 1), (3, .v (.int .i64 v147))], [(1, .row 1 (List.map encInt sA))], 61, [(1, L 1)]⟩ : St)) (fun s => .ok s = o184) ?_ ?_
          · refine AW.block ?_
            refine AW.seq ?_
            obtain ⟨x186, hx187, hH⟩ := bindE hH
            obtain ⟨x188, hx189, hH⟩ := bindE hH
            refine AW.drawn 9 2 [] mix (by kernel_rfl) rfl ?_
            refine AD.pure T rfl rfl rfl ?_
            refine AD.pure T rfl rfl rfl ?_
            refine AD.val rfl rfl (ix_row_ok T rfl rfl rfl rfl rfl rfl (hx187)) ?_
            refine AD.val rfl rfl (load_row_ok T rfl rfl rfl rfl (getI_get (hx187)) rfl rfl rfl) ?_
            refine AD.pure T rfl rfl rfl ?_
            refine AD.pure T rfl rfl rfl ?_
            refine AD.val rfl rfl (arw_ok rfl rfl rfl rfl) ?_
            refine AD.val rfl rfl (ix_row_ok T rfl rfl rfl rfl rfl rfl (hx189)) ?_
            refine AD.val rfl rfl (load_row_ok T rfl rfl rfl rfl (getI_get (hx189)) rfl rfl rfl) ?_
            refine AD.nil ?_
            refine AO.pure T rfl rfl rfl ?_
            refine AO.nil ?_
            refine AW.cond (b := (x186 == x188)) rfl (fun hc => ?_) (fun hc => ?_)
            · replace hH := condT hc hH
              refine AW.seq ?_
              obtain ⟨u190, hx191, hH⟩ := bindE hH
              refine AW.region ?_
              refine AO.pure T rfl rfl rfl ?_
              refine AO.pure T rfl rfl rfl ?_
              refine AO.val rfl rfl (slice_row_lo T rfl rfl rfl rfl rfl rfl (needT (hx191))) ?_
              refine AO.pure T rfl rfl rfl ?_
              refine AO.nil ?_
              refine AW.seq ?_
              refine AW.seq ?_
              refine AW.region ?_
              refine AO.pure T rfl rfl rfl ?_
              refine AO.nil ?_
              refine AW.block ?_
              refine AW.loopS (fun s : Nat × (List Int) × Int × (List Int) × Int => (⟨[(0, .R 1), (3, .v (.int .i64 s.2.2.1)), (4, .r 1 v147.toNat (sA.length - v147.toNat)), (5, .v (.int .i64 s.2.2.2.2))], [(1, .row 1 (List.map encInt s.2.2.2.1))], 61, [(1, L 1)]⟩ : St)) (fun s => slices_Compact_int_l2 sA v147 s.1 s.2.1 s.2.2.1 s.2.2.2.1 s.2.2.2.2 = some o184) (fun s => s.1) (fuel, sA, v147, sA, 1) hH ?_ ?_
              · exact Le.cut 0 0 rfl (by repeat' (first | exact trivial | refine ⟨⟨_, rfl, rfl⟩, ?_⟩)) (by repeat' (first | exact trivial | refine ⟨⟨_, rfl, rfl⟩, ?_⟩)) rfl ⟨⟨rfl, rfl⟩, trivial⟩
              · rintro ⟨k192, v207, v208, v209, v210⟩ hH
                replace hH : slices_Compact_int_l2 sA v147 k192 v207 v208 v209 v210 = some o184 := hH
                show AW _ _ _ (⟨[(0, .R 1), (3, .v (.int .i64 v208)), (4, .r 1 v147.toNat (sA.length - v147.toNat)), (5, .v (.int .i64 v210))], [(1, .row 1 (List.map encInt v209))], 61, [(1, L 1)]⟩ : St)
                cases k192 with
                | zero => cases (show none = some _ from hH)
                | succ k192 =>
                  rw [slices_Compact_int_l2] at hH
                  refine AW.seq ?_
                  refine AW.seq ?_
                  refine AW.region ?_
                  refine AO.pure T rfl rfl rfl ?_
                  refine AO.pure T rfl rfl rfl ?_
                  refine AO.pure T rfl rfl rfl ?_
                  refine AO.pure T rfl rfl rfl ?_
                  refine AO.nil ?_
                  refine AW.cond (b := decide (v210 < (((sA.length - v147.toNat) : Nat) : Int))) rfl (fun hc => ?_) (fun hc => ?_)
                  · replace hH := condT hc hH
                    refine AW.skip ?_
                    refine AW.seq ?_
                    refine AW.block ?_
                    refine AW.seq ?_
                    obtain ⟨x212, hx213, hH⟩ := bindE hH
                    obtain ⟨x214, hx215, hH⟩ := bindE hH
                    refine AW.drawn 9 2 [] mix (by kernel_rfl) rfl ?_
                    refine AD.pure T rfl rfl rfl ?_
                    refine AD.pure T rfl rfl rfl ?_
                    refine AD.val rfl rfl (ix_part_ok T rfl rfl rfl rfl rfl rfl (hx213)) ?_
                    refine AD.val rfl rfl (load_row_ok T rfl rfl rfl rfl (getP_get (hx213)) rfl rfl rfl) ?_
                    refine AD.pure T rfl rfl rfl ?_
                    refine AD.pure T rfl rfl rfl ?_
                    refine AD.val rfl rfl (arw_ok rfl rfl rfl rfl) ?_
                    refine AD.val rfl rfl (ix_part_ok T rfl rfl rfl rfl rfl rfl (hx215)) ?_
                    refine AD.val rfl rfl (load_row_ok T rfl rfl rfl rfl (getP_get (hx215)) rfl rfl rfl) ?_
                    refine AD.nil ?_
                    refine AO.pure T rfl rfl rfl ?_
                    refine AO.nil ?_
                    refine AW.cond (b := (x212 != x214)) rfl (fun hc => ?_) (fun hc => ?_)
                    · replace hH := condT hc hH
                      refine AW.seq ?_
                      obtain ⟨x216, hx217, hH⟩ := bindE hH
                      refine AW.region ?_
                      refine AO.pure T rfl rfl rfl ?_
                      refine AO.pure T rfl rfl rfl ?_
                      refine AO.pure T rfl rfl rfl ?_
                      refine AO.pure T rfl rfl rfl ?_
                      refine AO.val rfl rfl (ix_part_ok T rfl rfl rfl rfl rfl rfl (hx213)) ?_
                      refine AO.val rfl rfl (load_row_ok T rfl rfl rfl rfl (getP_get (hx213)) rfl rfl rfl) ?_
                      refine AO.val rfl rfl (ix_row_ok T rfl rfl rfl rfl rfl rfl (hx217)) ?_
                      refine AO.step rfl (store_row_ok T rfl rfl rfl rfl rfl (getI_get (hx217)) rfl rfl rfl rfl (u' := x212) rfl rfl) ?_
                      refine AO.nil ?_
                      refine AW.region ?_
                      refine AO.pure T rfl rfl rfl ?_
                      refine AO.val rfl rfl (arw_ok rfl rfl rfl rfl) ?_
                      refine AO.pure T rfl rfl rfl ?_
                      refine AO.nil ?_
                      refine AW.le (Le.cut 0 0 (σ' := (⟨[(0, .R 1), (3, .v (.int .i64 (w64 (v208 + 1)))), (4, .r 1 v147.toNat (sA.length - v147.toNat)), (5, .v (.int .i64 v210))], [(1, .row 1 (List.map encInt (v209.set v208.toNat x212)))], 61, [(1, L 1)]⟩ : St)) rfl (by repeat' (first | exact trivial | refine ⟨⟨_, rfl, rfl⟩, ?_⟩)) (by repeat' (first | exact trivial | refine ⟨⟨_, rfl, rfl⟩, ?_⟩)) rfl ⟨⟨rfl, rfl⟩, trivial⟩) ?_
                      refine AW.region ?_
                      refine AO.pure T rfl rfl rfl ?_
                      refine AO.val rfl rfl (arw_ok rfl rfl rfl rfl) ?_
                      refine AO.pure T rfl rfl rfl ?_
                      refine AO.nil ?_
                      refine ⟨(k192, (v209.set v208.toNat x212), w64 (v208 + 1), (v209.set v208.toNat x212), w64 (v210 + 1)), hH, Nat.lt_succ_self _, ?_⟩
                      exact Le.cut 0 0 rfl (by repeat' (first | exact trivial | refine ⟨⟨_, rfl, rfl⟩, ?_⟩)) (by repeat' (first | exact trivial | refine ⟨⟨_, rfl, rfl⟩, ?_⟩)) rfl ⟨⟨rfl, rfl⟩, trivial⟩
                    · replace hH := condF hc hH
                      refine AW.skip ?_
                      refine AW.region ?_
                      refine AO.pure T rfl rfl rfl ?_
                      refine AO.val rfl rfl (arw_ok rfl rfl rfl rfl) ?_
                      refine AO.pure T rfl rfl rfl ?_
                      refine AO.nil ?_
                      refine ⟨(k192, v209, v208, v209, w64 (v210 + 1)), hH, Nat.lt_succ_self _, ?_⟩
                      exact Le.cut 0 0 rfl (by repeat' (first | exact trivial | refine ⟨⟨_, rfl, rfl⟩, ?_⟩)) (by repeat' (first | exact trivial | refine ⟨⟨_, rfl, rfl⟩, ?_⟩)) rfl ⟨⟨rfl, rfl⟩, trivial⟩
                  · replace hH := condF hc hH
                    refine AW.exit ?_
                    refine AW.seq ?_
                    obtain ⟨u218, hx219, hH⟩ := bindE hH
                    refine AW.region ?_
                    refine AO.pure T rfl rfl rfl ?_
                    refine AO.pure T rfl rfl rfl ?_
                    refine AO.val rfl rfl (slice_row_lo T rfl rfl rfl rfl rfl rfl (needT (hx219))) ?_
                    refine AO.step rfl (clear_r_ok T (f := encInt) (zo := 0) rfl rfl rfl rfl (by decide) rfl (by repeat constructor) rfl rfl (by have := inB_iff (needT (hx219)); omega) rfl) ?_
                    refine AO.nil ?_
                    refine AW.seq ?_
                    obtain ⟨u220, hx221, hH⟩ := bindE hH
                    refine AW.region ?_
                    refine AO.pure T rfl rfl rfl ?_
                    refine AO.pure T rfl rfl rfl ?_
                    refine AO.val rfl rfl (slice_row_hi T rfl rfl rfl rfl rfl rfl (needT (hx221))) ?_
                    refine AO.pure T rfl rfl rfl ?_
                    refine AO.nil ?_
                    refine AW.ret ?_
                    obtain rfl := someE hH
                    replace hH := hK185
                    cases someE hH
                    exact ⟨trivial, rfl, _, [1], [], rfl, expLG_cons (.c .u) (expLG_nil), .c (.c (.partM rfl (by have := inB_iff (needT (hx221)); omega))), by decide⟩
            · replace hH := condF hc hH
              refine AW.skip ?_
              refine ⟨_, someE hH, ?_⟩
              exact Le.cut 0 0 rfl (by repeat' (first | exact trivial | refine ⟨⟨_, rfl, rfl⟩, ?_⟩)) (by repeat' (first | exact trivial | refine ⟨⟨_, rfl, rfl⟩, ?_⟩)) rfl ⟨⟨rfl, rfl⟩, trivial⟩
          · rintro _ hs
            subst hs
            replace hH := hK185
            try dsimp only [flow, flowE] at hH
            show AW _ _ _ (⟨[(0, .R 1), (3, .v (.int .i64 v147))], [(1, .row 1 (List.map encInt sA))], 61, [(1, L 1)]⟩ : St)
            refine AW.region ?_
            refine AO.pure T rfl rfl rfl ?_
            refine AO.val rfl rfl (arw_ok rfl rfl rfl rfl) ?_
            refine AO.pure T rfl rfl rfl ?_
            refine AO.nil ?_
            refine ⟨(k1, w64 (v147 + 1)), hH, Nat.lt_succ_self _, ?_⟩
            exact Le.cut 0 0 rfl (by repeat' (first | exact trivial | refine ⟨⟨_, rfl, rfl⟩, ?_⟩)) (by repeat' (first | exact trivial | refine ⟨⟨_, rfl, rfl⟩, ?_⟩)) rfl ⟨⟨rfl, rfl⟩, trivial⟩
        · replace hH := condF hc hH
          refine AW.exit ?_
          refine AW.seq ?_
          refine AW.region ?_
          refine AO.pure T rfl rfl rfl ?_
          refine AO.pure T rfl rfl rfl ?_
          refine AO.nil ?_
          refine AW.ret ?_
          cases someE hH
          exact ⟨trivial, rfl, _, [1], [], rfl, expLG_cons (.c .u) (expLG_nil), .c (.c (.rowR rfl)), by decide⟩

def impl_worldSkaters_l2 : List Line → Nat → List Int → Option (List Int)
  | [], k93, v104 =>
    some v104
  | y94 :: ys95, k93, v104 =>
    (need (fitsB 8 (v104.length + ([y94.skater]).length))).bind fun u106 =>
    impl_worldSkaters_l2 ys95 (k93 + 1) (v104 ++ [y94.skater])
def impl_worldSkaters_l1 (fuel : Nat) : List Season → Nat → List Int → Option ((List Int))
  | [], k1, v70 =>
    (slices_Sort_int_p v70).bind fun x72 =>
    (slices_Compact_int_p fuel x72).bind fun x74 =>
    some x74
  | y2 :: ys3, k1, v70 =>
    (impl_worldSkaters_l2 y2.lines 0 v70).bind fun v90 =>
    impl_worldSkaters_l1 fuel ys3 (k1 + 1) v90
def impl_worldSkaters_p (fuel : Nat) (w : World) : Option (List Int) :=
  impl_worldSkaters_l1 fuel w.seasons 0 []
theorem impl_worldSkaters_ok (fuel : Nat) (w : World) (r : (List Int)) (hH : impl_worldSkaters_p fuel w = some r) : SpecR Tryz.prog 73 [.g (encWorld w)] (.w 1 (r.map encInt)) := by
  refine fn_ok T Tryz.func73 rfl (by decide) rfl ?_
  refine AW.seq ?_
  refine AW.region ?_
  refine AO.step rfl (box_ok T rfl 1 rfl rfl rfl rfl) ?_
  refine AO.pure T rfl rfl rfl ?_
  refine AO.nil ?_
  refine AW.seq ?_
  refine AW.region ?_
  refine AO.step rfl (mk0_ok T rfl rfl rfl rfl) ?_
  refine AO.pure T rfl rfl rfl ?_
  refine AO.nil ?_
  refine AW.seq ?_
  refine AW.seq ?_
  refine AW.region ?_
  refine AO.pure T rfl rfl rfl ?_
  refine AO.pure T rfl rfl rfl ?_
  refine AO.val rfl rfl (len_map_ok T rfl rfl rfl) ?_
  refine AO.pure T rfl rfl rfl ?_
  refine AO.nil ?_
  refine AW.block ?_
  refine AW.loopS (fun s : Nat × (List Int) => (⟨[(3, .R 8), (10, .s (List.map encSeason w.seasons)), (11, .v (.int .i64 (w.seasons.length : Int))), (12, .v (.int .i64 (s.1 : Int)))], [(8, .row 1 (List.map encInt s.2))], 34, []⟩ : St)) (fun s => s.1 ≤ w.seasons.length ∧ impl_worldSkaters_l1 fuel (w.seasons.drop s.1) s.1 s.2 = some r) (fun s => w.seasons.length - s.1) (0, []) ⟨Nat.zero_le _, hH⟩ ?_ ?_
  · refine Le.trans (Le.void 3 8 1 rfl rfl) ?_
    exact Le.cut 0 0 rfl (by repeat' (first | exact trivial | refine ⟨⟨_, rfl, rfl⟩, ?_⟩)) (by repeat' (first | exact trivial | refine ⟨⟨_, rfl, rfl⟩, ?_⟩)) rfl
  · rintro ⟨k1, v70⟩ ⟨hk, hH⟩
    replace hH : impl_worldSkaters_l1 fuel (w.seasons.drop k1) k1 v70 = some r := hH
    show AW _ _ _ (⟨[(3, .R 8), (10, .s (List.map encSeason w.seasons)), (11, .v (.int .i64 (w.seasons.length : Int))), (12, .v (.int .i64 (k1 : Int)))], [(8, .row 1 (List.map encInt v70))], 34, []⟩ : St)
    refine AW.boundM (t := 10) (l := w.seasons) rfl (fun hb5 => ?_)
    cases hd4 : w.seasons.drop k1 with
    | nil =>
      rw [hd4] at hH
      rw [impl_worldSkaters_l1] at hH
      have hlt6 := drop_ge hd4
      refine AW.seq ?_
      refine AW.region ?_
      refine AO.pure T rfl rfl rfl ?_
      refine AO.nil ?_
      refine AW.seq ?_
      refine AW.condF' (b := decide ((k1 : Int) < (w.seasons.length : Int))) rfl (rngF hlt6) ?_
      refine AW.exit ?_
      refine AW.seq ?_
      obtain ⟨x72, hx73, hH⟩ := bindE hH
      refine AW.region ?_
      refine AO.pure T rfl rfl rfl ?_
      refine AO.step rfl (callM_ok rfl 42 rfl rfl (es := [.w 1 (v70.map encInt)]) (outs := [.w 1 (x72.map encInt)]) (ids := [8]) (by exact expLG_cons (.c (.rowR rfl)) (expLG_nil)) (by decide) (.inl (by rfl)) (by rfl) (slices_Sort_int_ok _ _ (hx73)) rfl (by rfl) rfl) ?_
      refine AO.nil ?_
      refine AW.seq ?_
      obtain ⟨x74, hx75, hH⟩ := bindE hH
      refine AW.region ?_
      refine AO.pure T rfl rfl rfl ?_
      refine AO.step rfl (callM_ok rfl 42 rfl rfl (es := [.w 1 (x72.map encInt)]) (outs := [.u]) (ids := [8]) (by exact expLG_cons (.c (.rowR rfl)) (expLG_nil)) (by decide) (.inr (by exact (show ([] : List Nat).Nodup ∧ ∀ i ∈ ([] : List Nat), i ∈ ([8] : List Nat) from by decide))) (by rfl) (slices_Compact_int_ok fuel _ _ (hx75)) rfl (by rfl) rfl) ?_
      refine AO.pure T rfl rfl rfl ?_
      refine AO.nil ?_
      refine AW.ret ?_
      cases someE hH
      exact ⟨trivial, _, [42], rfl, .c (.c (.rowR rfl)), by decide⟩
    | cons y2 ys3 =>
      rw [hd4] at hH
      rw [impl_worldSkaters_l1] at hH
      have hlt6 := drop_lt hd4
      refine AW.seq ?_
      refine AW.region ?_
      refine AO.pure T rfl rfl rfl ?_
      refine AO.nil ?_
      refine AW.seq ?_
      refine AW.condT' (b := decide ((k1 : Int) < (w.seasons.length : Int))) rfl (rngT hlt6) ?_
      refine AW.skip ?_
      obtain ⟨o91, hH, hK92⟩ := bindE hH
      refine AW.seqJ (fun s : List Int => (⟨[(3, .R 8), (10, .s (List.map encSeason w.seasons)), (11, .v (.int .i64 (w.seasons.length : Int))), (12, .v (.int .i64 (k1 : Int)))], [(8, .row 1 (List.map encInt s))], 34, []⟩ : St)) (fun s => s = o91) ?_ ?_
      · refine AW.block ?_
        refine AW.seq ?_
        refine AW.region ?_
        refine AO.val rfl rfl (ix_map_ok T rfl rfl rfl rfl rfl (getI_drop hd4) rfl) ?_
        refine AO.pure T (d := .g [.v (.int .i64 y2.best), .s (List.map encLine y2.lines)]) rfl rfl rfl ?_
        refine AO.step rfl (alloc_ok T rfl 53 rfl rfl rfl rfl rfl) ?_
        refine AO.step rfl (store_okE T rfl rfl rfl rfl rfl rfl rfl rfl rfl (ds' := [.v (.int .i64 y2.best), .s (List.map encLine y2.lines)]) rfl) ?_
        refine AO.nil ?_
        refine AW.seq ?_
        refine AW.region ?_
        refine AO.pure T rfl rfl rfl ?_
        refine AO.pure T rfl rfl rfl ?_
        refine AO.val rfl rfl (len_map_ok T rfl rfl rfl) ?_
        refine AO.pure T rfl rfl rfl ?_
        refine AO.nil ?_
        refine AW.block ?_
        refine AW.loopS (fun s : Nat × (List Int) => (⟨[(3, .R 8), (10, .s (List.map encSeason w.seasons)), (11, .v (.int .i64 (w.seasons.length : Int))), (12, .v (.int .i64 (k1 : Int))), (17, .s (List.map encLine y2.lines)), (18, .v (.int .i64 (y2.lines.length : Int))), (19, .v (.int .i64 (s.1 : Int)))], [(8, .row 1 (List.map encInt s.2))], 34, []⟩ : St)) (fun s => s.1 ≤ y2.lines.length ∧ impl_worldSkaters_l2 (y2.lines.drop s.1) s.1 s.2 = some o91) (fun s => y2.lines.length - s.1) (0, v70) ⟨Nat.zero_le _, hH⟩ ?_ ?_
        · exact Le.cut 0 0 rfl (by repeat' (first | exact trivial | refine ⟨⟨_, rfl, rfl⟩, ?_⟩)) (by repeat' (first | exact trivial | refine ⟨⟨_, rfl, rfl⟩, ?_⟩)) rfl
        · rintro ⟨k93, v104⟩ ⟨hk, hH⟩
          replace hH : impl_worldSkaters_l2 (y2.lines.drop k93) k93 v104 = some o91 := hH
          show AW _ _ _ (⟨[(3, .R 8), (10, .s (List.map encSeason w.seasons)), (11, .v (.int .i64 (w.seasons.length : Int))), (12, .v (.int .i64 (k1 : Int))), (17, .s (List.map encLine y2.lines)), (18, .v (.int .i64 (y2.lines.length : Int))), (19, .v (.int .i64 (k93 : Int)))], [(8, .row 1 (List.map encInt v104))], 34, []⟩ : St)
          refine AW.boundM (t := 17) (l := y2.lines) rfl (fun hb97 => ?_)
          cases hd96 : y2.lines.drop k93 with
          | nil =>
            rw [hd96] at hH
            rw [impl_worldSkaters_l2] at hH
            have hlt98 := drop_ge hd96
            refine AW.seq ?_
            refine AW.region ?_
            refine AO.pure T rfl rfl rfl ?_
            refine AO.nil ?_
            refine AW.seq ?_
            refine AW.condF' (b := decide ((k93 : Int) < (y2.lines.length : Int))) rfl (rngF hlt98) ?_
            refine AW.exit ?_
            refine ⟨_, someE hH, ?_⟩
            exact Le.cut 0 0 rfl (by repeat' (first | exact trivial | refine ⟨⟨_, rfl, rfl⟩, ?_⟩)) (by repeat' (first | exact trivial | refine ⟨⟨_, rfl, rfl⟩, ?_⟩)) rfl
          | cons y94 ys95 =>
            rw [hd96] at hH
            rw [impl_worldSkaters_l2] at hH
            have hlt98 := drop_lt hd96
            refine AW.seq ?_
            refine AW.region ?_
            refine AO.pure T rfl rfl rfl ?_
            refine AO.nil ?_
            refine AW.seq ?_
            refine AW.condT' (b := decide ((k93 : Int) < (y2.lines.length : Int))) rfl (rngT hlt98) ?_
            refine AW.skip ?_
            refine AW.seq ?_
            refine AW.block ?_
            refine AW.seq ?_
            refine AW.region ?_
            refine AO.val rfl rfl (ix_map_ok T rfl rfl rfl rfl rfl (getI_drop hd96) rfl) ?_
            refine AO.pure T (d := .g [.v (.int .i64 y94.skater), .s (List.map encInt y94.events), .s (List.map encInt y94.points)]) rfl rfl rfl ?_
            refine AO.step rfl (alloc_ok T rfl 60 rfl rfl rfl rfl rfl) ?_
            refine AO.step rfl (store_okE T rfl rfl rfl rfl rfl rfl rfl rfl rfl (ds' := [.v (.int .i64 y94.skater), .s (List.map encInt y94.events), .s (List.map encInt y94.points)]) rfl) ?_
            refine AO.nil ?_
            obtain ⟨u106, hx107, hH⟩ := bindE hH
            refine AW.region ?_
            refine AO.pure T rfl rfl rfl ?_
            refine AO.pure T rfl rfl rfl ?_
            refine AO.pure T rfl rfl rfl ?_
            refine AO.step rfl (mk_map_ok T rfl 61 rfl rfl rfl rfl rfl (f := encInt) (l := [y94.skater]) rfl rfl (fun _ => rfl) rfl rfl rfl rfl rfl) ?_
            refine AO.step rfl (app_rv_map T rfl 62 rfl rfl rfl rfl rfl (by decide) rfl rfl rfl rfl (fun _ => rfl) (needT (hx107)) rfl rfl) ?_
            refine AO.pure T rfl rfl rfl ?_
            refine AO.nil ?_
            refine AW.region ?_
            refine AO.val rfl rfl (ar_ok rfl rfl rfl rfl (inI_succ hlt98 hb97)) ?_
            refine AO.pure T rfl rfl rfl ?_
            refine AO.nil ?_
            refine ⟨(k93 + 1, (v104 ++ [y94.skater])), ⟨Nat.succ_le_of_lt hlt98, (by rw [drop_succ_of hd96]; exact hH)⟩, (by have := hlt98; dsimp only; omega), ?_⟩
            exact Le.cut 62 8 rfl (by repeat' (first | exact trivial | refine ⟨⟨_, rfl, rfl⟩, ?_⟩)) (by repeat' (first | exact trivial | refine ⟨⟨_, rfl, rfl⟩, ?_⟩)) rfl
      · rintro v90 hs
        subst hs
        replace hH := hK92
        try dsimp only [flow, flowE] at hH
        show AW _ _ _ (⟨[(3, .R 8), (10, .s (List.map encSeason w.seasons)), (11, .v (.int .i64 (w.seasons.length : Int))), (12, .v (.int .i64 (k1 : Int)))], [(8, .row 1 (List.map encInt v90))], 34, []⟩ : St)
        refine AW.region ?_
        refine AO.val rfl rfl (ar_ok rfl rfl rfl rfl (inI_succ hlt6 hb5)) ?_
        refine AO.pure T rfl rfl rfl ?_
        refine AO.nil ?_
        refine ⟨(k1 + 1, v90), ⟨Nat.succ_le_of_lt hlt6, (by rw [drop_succ_of hd4]; exact hH)⟩, (by have := hlt6; dsimp only; omega), ?_⟩
        exact Le.cut 0 0 rfl (by repeat' (first | exact trivial | refine ⟨⟨_, rfl, rfl⟩, ?_⟩)) (by repeat' (first | exact trivial | refine ⟨⟨_, rfl, rfl⟩, ?_⟩)) rfl

def impl_lineOf_l1 (skater : Int) : List Line → Nat → Option Line
  | [], k1 =>
    some (Line.mk skater [] [])
  | y2 :: ys3, k1 =>
    cond (y2.skater == skater)
      (some y2)
      (impl_lineOf_l1 skater ys3 (k1 + 1))
def impl_lineOf_p (sA : Season) (skater : Int) : Option Line :=
  impl_lineOf_l1 skater sA.lines 0
theorem impl_lineOf_ok (sA : Season) (skater : Int) (r : Line) (hH : impl_lineOf_p sA skater = some r) : SpecR Tryz.prog 104 [.g (encSeason sA), .v (.int .i64 skater)] (.g (encLine r)) := by
  refine fn_ok T Tryz.func104 rfl (by decide) rfl ?_
  refine AW.seq ?_
  refine AW.region ?_
  refine AO.step rfl (box_ok T rfl 1 rfl rfl rfl rfl) ?_
  refine AO.step rfl (alloc_ok T rfl 2 rfl rfl rfl rfl rfl) ?_
  refine AO.nil ?_
  refine AW.seq ?_
  refine AW.seq ?_
  refine AW.region ?_
  refine AO.pure T rfl rfl rfl ?_
  refine AO.pure T rfl rfl rfl ?_
  refine AO.val rfl rfl (len_map_ok T rfl rfl rfl) ?_
  refine AO.pure T rfl rfl rfl ?_
  refine AO.nil ?_
  refine AW.block ?_
  refine AW.loopS (fun s : Nat => (⟨[(1, .v (.int .i64 skater)), (4, .p 2 0), (8, .s (List.map encLine sA.lines)), (9, .v (.int .i64 (sA.lines.length : Int))), (10, .v (.int .i64 (s : Int)))], [(2, .box [.v (.int .i64 0), .w 0 [], .w 0 []])], 22, []⟩ : St)) (fun s => s ≤ sA.lines.length ∧ impl_lineOf_l1 skater (sA.lines.drop s) s = some r) (fun s => sA.lines.length - s) 0 ⟨Nat.zero_le _, hH⟩ ?_ ?_
  · exact Le.cut 0 0 rfl (by repeat' (first | exact trivial | refine ⟨⟨_, rfl, rfl⟩, ?_⟩)) (by repeat' (first | exact trivial | refine ⟨⟨_, rfl, rfl⟩, ?_⟩)) rfl
  · rintro k1 ⟨hk, hH⟩
    replace hH : impl_lineOf_l1 skater (sA.lines.drop k1) k1 = some r := hH
    show AW _ _ _ (⟨[(1, .v (.int .i64 skater)), (4, .p 2 0), (8, .s (List.map encLine sA.lines)), (9, .v (.int .i64 (sA.lines.length : Int))), (10, .v (.int .i64 (k1 : Int)))], [(2, .box [.v (.int .i64 0), .w 0 [], .w 0 []])], 22, []⟩ : St)
    refine AW.boundM (t := 8) (l := sA.lines) rfl (fun hb5 => ?_)
    cases hd4 : sA.lines.drop k1 with
    | nil =>
      rw [hd4] at hH
      rw [impl_lineOf_l1] at hH
      have hlt6 := drop_ge hd4
      refine AW.seq ?_
      refine AW.region ?_
      refine AO.pure T rfl rfl rfl ?_
      refine AO.nil ?_
      refine AW.seq ?_
      refine AW.condF' (b := decide ((k1 : Int) < (sA.lines.length : Int))) rfl (rngF hlt6) ?_
      refine AW.exit ?_
      refine AW.seq ?_
      refine AW.region ?_
      refine AO.pure T rfl rfl rfl ?_
      refine AO.pure T (d := .g [.v (.int .i64 skater), .w 0 [], .w 0 []]) rfl rfl rfl ?_
      refine AO.step rfl (store_okE T rfl rfl rfl rfl rfl rfl rfl rfl rfl (ds' := [.v (.int .i64 skater), .w 0 [], .w 0 []]) rfl) ?_
      refine AO.nil ?_
      refine AW.ret ?_
      cases someE hH
      exact ⟨trivial, _, [], rfl, .c (.g (expLC_cons .v (expLC_cons .nilS (expLC_cons .nilS (expLC_nil))))), by decide⟩
    | cons y2 ys3 =>
      rw [hd4] at hH
      rw [impl_lineOf_l1] at hH
      have hlt6 := drop_lt hd4
      refine AW.seq ?_
      refine AW.region ?_
      refine AO.pure T rfl rfl rfl ?_
      refine AO.nil ?_
      refine AW.seq ?_
      refine AW.condT' (b := decide ((k1 : Int) < (sA.lines.length : Int))) rfl (rngT hlt6) ?_
      refine AW.skip ?_
      refine AW.seq ?_
      refine AW.block ?_
      refine AW.seq ?_
      refine AW.region ?_
      refine AO.val rfl rfl (ix_map_ok T rfl rfl rfl rfl rfl (getI_drop hd4) rfl) ?_
      refine AO.pure T (d := .g [.v (.int .i64 y2.skater), .s (List.map encInt y2.events), .s (List.map encInt y2.points)]) rfl rfl rfl ?_
      refine AO.step rfl (alloc_ok T rfl 5 rfl rfl rfl rfl rfl) ?_
      refine AO.step rfl (store_okE T rfl rfl rfl rfl rfl rfl rfl rfl rfl (ds' := [.v (.int .i64 y2.skater), .s (List.map encInt y2.events), .s (List.map encInt y2.points)]) rfl) ?_
      refine AO.nil ?_
      refine AW.seq ?_
      refine AW.region ?_
      refine AO.pure T rfl rfl rfl ?_
      refine AO.pure T rfl rfl rfl ?_
      refine AO.pure T rfl rfl rfl ?_
      refine AO.pure T rfl rfl rfl ?_
      refine AO.nil ?_
      refine AW.cond (b := (y2.skater == skater)) rfl (fun hc => ?_) (fun hc => ?_)
      · replace hH := condT hc hH
        refine AW.seq ?_
        refine AW.region ?_
        refine AO.pure T (d := .g [.v (.int .i64 y2.skater), .s (List.map encInt y2.events), .s (List.map encInt y2.points)]) rfl rfl rfl ?_
        refine AO.step rfl (store_okE T rfl rfl rfl rfl rfl rfl rfl rfl rfl (ds' := [.v (.int .i64 y2.skater), .s (List.map encInt y2.events), .s (List.map encInt y2.points)]) rfl) ?_
        refine AO.nil ?_
        refine AW.ret ?_
        cases someE hH
        exact ⟨trivial, _, [], rfl, .c (.g (expLC_cons .v (expLC_cons .s (expLC_cons .s (expLC_nil))))), by decide⟩
      · replace hH := condF hc hH
        refine AW.skip ?_
        refine AW.region ?_
        refine AO.val rfl rfl (ar_ok rfl rfl rfl rfl (inI_succ hlt6 hb5)) ?_
        refine AO.pure T rfl rfl rfl ?_
        refine AO.nil ?_
        refine ⟨k1 + 1, ⟨Nat.succ_le_of_lt hlt6, (by rw [drop_succ_of hd4]; exact hH)⟩, (by have := hlt6; dsimp only; omega), ?_⟩
        exact Le.cut 0 0 rfl (by repeat' (first | exact trivial | refine ⟨⟨_, rfl, rfl⟩, ?_⟩)) (by repeat' (first | exact trivial | refine ⟨⟨_, rfl, rfl⟩, ?_⟩)) rfl

def impl_counting_p (line : Line) (best : Int) : Option (List Int) :=
  (sliceHi line.points (min best (line.points.length : Int))).bind fun x1 =>
  some x1
theorem impl_counting_ok (line : Line) (best : Int) (r : (List Int)) (hH : impl_counting_p line best = some r) : SpecR Tryz.prog 103 [.g (encLine line), .v (.int .i64 best)] (.s (r.map encInt)) := by
  refine fn_ok T Tryz.func103 rfl (by decide) rfl ?_
  refine AW.seq ?_
  refine AW.region ?_
  refine AO.step rfl (box_ok T rfl 1 rfl rfl rfl rfl) ?_
  refine AO.pure T rfl rfl rfl ?_
  refine AO.nil ?_
  refine AW.seq ?_
  obtain ⟨x1, hx2, hH⟩ := bindE hH
  refine AW.region ?_
  refine AO.pure T rfl rfl rfl ?_
  refine AO.pure T rfl rfl rfl ?_
  refine AO.pure T rfl rfl rfl ?_
  refine AO.pure T rfl rfl rfl ?_
  refine AO.pure T rfl rfl rfl ?_
  refine AO.val rfl rfl (len_map_ok T rfl rfl rfl) ?_
  refine AO.val rfl rfl (min_ok rfl rfl rfl) ?_
  refine AO.val rfl rfl (slice_hi_map_ok T rfl rfl rfl rfl rfl (hx2) (fun _ => rfl)) ?_
  refine AO.pure T rfl rfl rfl ?_
  refine AO.nil ?_
  refine AW.ret ?_
  cases someE hH
  exact ⟨trivial, _, [], rfl, .c (.c .s), by decide⟩

def impl_sumInts_l1 : List Int → Nat → Int → Option Int
  | [], k1, v8 =>
    some v8
  | y2 :: ys3, k1, v8 =>
    impl_sumInts_l1 ys3 (k1 + 1) (w64 (v8 + y2))
def impl_sumInts_p (l : List Int) : Option Int :=
  impl_sumInts_l1 l 0 0
theorem impl_sumInts_ok (l : List Int) (r : Int) (hH : impl_sumInts_p l = some r) : SpecR Tryz.prog 74 [.s (List.map encInt l)] (.v (.int .i64 r)) := by
  refine fn_ok T Tryz.func74 rfl (by decide) rfl ?_
  refine AW.seq ?_
  refine AW.region ?_
  refine AO.pure T rfl rfl rfl ?_
  refine AO.nil ?_
  refine AW.seq ?_
  refine AW.region ?_
  refine AO.pure T rfl rfl rfl ?_
  refine AO.nil ?_
  refine AW.seq ?_
  refine AW.seq ?_
  refine AW.region ?_
  refine AO.pure T rfl rfl rfl ?_
  refine AO.val rfl rfl (len_map_ok T rfl rfl rfl) ?_
  refine AO.pure T rfl rfl rfl ?_
  refine AO.nil ?_
  refine AW.block ?_
  refine AW.loopS (fun s : Nat × Int => (⟨[(3, .v (.int .i64 s.2)), (6, .s (List.map encInt l)), (7, .v (.int .i64 (l.length : Int))), (8, .v (.int .i64 (s.1 : Int)))], [], 17, []⟩ : St)) (fun s => s.1 ≤ l.length ∧ impl_sumInts_l1 (l.drop s.1) s.1 s.2 = some r) (fun s => l.length - s.1) (0, 0) ⟨Nat.zero_le _, hH⟩ ?_ ?_
  · exact Le.cut 0 0 rfl (by repeat' (first | exact trivial | refine ⟨⟨_, rfl, rfl⟩, ?_⟩)) (by repeat' (first | exact trivial | refine ⟨⟨_, rfl, rfl⟩, ?_⟩)) rfl
  · rintro ⟨k1, v8⟩ ⟨hk, hH⟩
    replace hH : impl_sumInts_l1 (l.drop k1) k1 v8 = some r := hH
    show AW _ _ _ (⟨[(3, .v (.int .i64 v8)), (6, .s (List.map encInt l)), (7, .v (.int .i64 (l.length : Int))), (8, .v (.int .i64 (k1 : Int)))], [], 17, []⟩ : St)
    refine AW.boundM (t := 6) (l := l) rfl (fun hb5 => ?_)
    cases hd4 : l.drop k1 with
    | nil =>
      rw [hd4] at hH
      rw [impl_sumInts_l1] at hH
      have hlt6 := drop_ge hd4
      refine AW.seq ?_
      refine AW.region ?_
      refine AO.pure T rfl rfl rfl ?_
      refine AO.nil ?_
      refine AW.seq ?_
      refine AW.condF' (b := decide ((k1 : Int) < (l.length : Int))) rfl (rngF hlt6) ?_
      refine AW.exit ?_
      refine AW.seq ?_
      refine AW.region ?_
      refine AO.pure T rfl rfl rfl ?_
      refine AO.pure T rfl rfl rfl ?_
      refine AO.nil ?_
      refine AW.ret ?_
      cases someE hH
      exact ⟨trivial, _, [], rfl, .c (.c .v), by decide⟩
    | cons y2 ys3 =>
      rw [hd4] at hH
      rw [impl_sumInts_l1] at hH
      have hlt6 := drop_lt hd4
      refine AW.seq ?_
      refine AW.region ?_
      refine AO.pure T rfl rfl rfl ?_
      refine AO.nil ?_
      refine AW.seq ?_
      refine AW.condT' (b := decide ((k1 : Int) < (l.length : Int))) rfl (rngT hlt6) ?_
      refine AW.skip ?_
      refine AW.seq ?_
      refine AW.block ?_
      refine AW.seq ?_
      refine AW.region ?_
      refine AO.val rfl rfl (ix_map_ok T rfl rfl rfl rfl rfl (getI_drop hd4) rfl) ?_
      refine AO.pure T rfl rfl rfl ?_
      refine AO.pure T rfl rfl rfl ?_
      refine AO.nil ?_
      refine AW.region ?_
      refine AO.pure T rfl rfl rfl ?_
      refine AO.pure T rfl rfl rfl ?_
      refine AO.val rfl rfl (arw_ok rfl rfl rfl rfl) ?_
      refine AO.pure T rfl rfl rfl ?_
      refine AO.nil ?_
      refine AW.region ?_
      refine AO.val rfl rfl (ar_ok rfl rfl rfl rfl (inI_succ hlt6 hb5)) ?_
      refine AO.pure T rfl rfl rfl ?_
      refine AO.nil ?_
      refine ⟨(k1 + 1, w64 (v8 + y2)), ⟨Nat.succ_le_of_lt hlt6, (by rw [drop_succ_of hd4]; exact hH)⟩, (by have := hlt6; dsimp only; omega), ?_⟩
      exact Le.cut 0 0 rfl (by repeat' (first | exact trivial | refine ⟨⟨_, rfl, rfl⟩, ?_⟩)) (by repeat' (first | exact trivial | refine ⟨⟨_, rfl, rfl⟩, ?_⟩)) rfl

def impl_floorDiv_p (a : Int) (b : Int) : Option Int :=
  (need (b != 0)).bind fun u1 =>
  cond (decide ((a.tmod b) < 0))
    (some (w64 ((w64 (a.tdiv b)) - 1)))
    (some (w64 (a.tdiv b)))
theorem impl_floorDiv_ok (a : Int) (b : Int) (r : Int) (hH : impl_floorDiv_p a b = some r) : SpecR Tryz.prog 125 [.v (.int .i64 a), .v (.int .i64 b)] (.v (.int .i64 r)) := by
  refine fn_ok T Tryz.func125 rfl (by decide) rfl ?_
  refine AW.seq ?_
  refine AW.region ?_
  refine AO.pure T rfl rfl rfl ?_
  refine AO.nil ?_
  refine AW.seq ?_
  obtain ⟨u1, hx2, hH⟩ := bindE hH
  refine AW.region ?_
  refine AO.pure T rfl rfl rfl ?_
  refine AO.pure T rfl rfl rfl ?_
  refine AO.val rfl rfl (quow_ok rfl rfl rfl (neZ (needT (hx2)))) ?_
  refine AO.pure T rfl rfl rfl ?_
  refine AO.nil ?_
  refine AW.seq ?_
  refine AW.seq ?_
  refine AW.region ?_
  refine AO.pure T rfl rfl rfl ?_
  refine AO.pure T rfl rfl rfl ?_
  refine AO.val rfl rfl (rem_ok rfl rfl rfl (neZ (needT (hx2)))) ?_
  refine AO.pure T rfl rfl rfl ?_
  refine AO.nil ?_
  refine AW.cond (b := decide ((a.tmod b) < 0)) rfl (fun hc => ?_) (fun hc => ?_)
  · replace hH := condT hc hH
    refine AW.region ?_
    refine AO.pure T rfl rfl rfl ?_
    refine AO.val rfl rfl (arw_ok rfl rfl rfl rfl) ?_
    refine AO.pure T rfl rfl rfl ?_
    refine AO.nil ?_
    refine AW.seq ?_
    refine AW.region ?_
    refine AO.pure T rfl rfl rfl ?_
    refine AO.pure T rfl rfl rfl ?_
    refine AO.nil ?_
    refine AW.ret ?_
    cases someE hH
    exact ⟨trivial, _, [], rfl, .c (.c .v), by decide⟩
  · replace hH := condF hc hH
    refine AW.skip ?_
    refine AW.seq ?_
    refine AW.region ?_
    refine AO.pure T rfl rfl rfl ?_
    refine AO.pure T rfl rfl rfl ?_
    refine AO.nil ?_
    refine AW.ret ?_
    cases someE hH
    exact ⟨trivial, _, [], rfl, .c (.c .v), by decide⟩

def impl_roundDiv_p (a : Int) (b : Int) : Option Int :=
  (impl_floorDiv_p (w64 ((w64 (2 * a)) + b)) (w64 (2 * b))).bind fun x1 =>
  some x1
theorem impl_roundDiv_ok (a : Int) (b : Int) (r : Int) (hH : impl_roundDiv_p a b = some r) : SpecR Tryz.prog 105 [.v (.int .i64 a), .v (.int .i64 b)] (.v (.int .i64 r)) := by
  refine fn_ok T Tryz.func105 rfl (by decide) rfl ?_
  refine AW.seq ?_
  refine AW.region ?_
  refine AO.pure T rfl rfl rfl ?_
  refine AO.nil ?_
  refine AW.seq ?_
  obtain ⟨x1, hx2, hH⟩ := bindE hH
  refine AW.region ?_
  refine AO.pure T rfl rfl rfl ?_
  refine AO.val rfl rfl (arw_ok rfl rfl rfl rfl) ?_
  refine AO.pure T rfl rfl rfl ?_
  refine AO.val rfl rfl (arw_ok rfl rfl rfl rfl) ?_
  refine AO.pure T rfl rfl rfl ?_
  refine AO.val rfl rfl (arw_ok rfl rfl rfl rfl) ?_
  refine AO.val rfl rfl (callV_ok rfl rfl rfl rfl (impl_floorDiv_ok _ _ _ (hx2)) rfl) ?_
  refine AO.pure T rfl rfl rfl ?_
  refine AO.nil ?_
  refine AW.ret ?_
  cases someE hH
  exact ⟨trivial, _, [], rfl, .c (.c .v), by decide⟩

def impl_seasonParts_l1 (w : World) (skater : Int) : List Season → Nat → List Int → Option ((List Int))
  | [], k1, v32 =>
    some v32
  | y2 :: ys3, k1, v32 =>
    (impl_lineOf_p y2 skater).bind fun x34 =>
    (impl_counting_p x34 y2.best).bind fun x36 =>
    (impl_sumInts_p x36).bind fun x38 =>
    (getI w.weights (k1 : Int)).bind fun x40 =>
    (impl_roundDiv_p (w64 (x38 * x40)) 100).bind fun x42 =>
    (need (fitsB 8 (v32.length + ([x42]).length))).bind fun u44 =>
    impl_seasonParts_l1 w skater ys3 (k1 + 1) (v32 ++ [x42])
def impl_seasonParts_p (w : World) (skater : Int) : Option (List Int) :=
  impl_seasonParts_l1 w skater w.seasons 0 []
theorem impl_seasonParts_ok (w : World) (skater : Int) (r : (List Int)) (hH : impl_seasonParts_p w skater = some r) : SpecR Tryz.prog 69 [.g (encWorld w), .v (.int .i64 skater)] (.w 1 (r.map encInt)) := by
  refine fn_ok T Tryz.func69 rfl (by decide) rfl ?_
  refine AW.seq ?_
  refine AW.region ?_
  refine AO.step rfl (box_ok T rfl 1 rfl rfl rfl rfl) ?_
  refine AO.pure T rfl rfl rfl ?_
  refine AO.nil ?_
  refine AW.seq ?_
  refine AW.region ?_
  refine AO.step rfl (mk0_ok T rfl rfl rfl rfl) ?_
  refine AO.pure T rfl rfl rfl ?_
  refine AO.nil ?_
  refine AW.seq ?_
  refine AW.seq ?_
  refine AW.region ?_
  refine AO.pure T rfl rfl rfl ?_
  refine AO.pure T rfl rfl rfl ?_
  refine AO.val rfl rfl (len_map_ok T rfl rfl rfl) ?_
  refine AO.pure T rfl rfl rfl ?_
  refine AO.nil ?_
  refine AW.block ?_
  refine AW.loopS (fun s : Nat × (List Int) => (⟨[(1, .v (.int .i64 skater)), (2, .p 1 0), (5, .R 7), (11, .s (List.map encSeason w.seasons)), (12, .v (.int .i64 (w.seasons.length : Int))), (13, .v (.int .i64 (s.1 : Int)))], [(1, .box [.s (List.map encSeason w.seasons), .s (List.map encInt w.weights)]), (7, .row 1 (List.map encInt s.2))], 38, []⟩ : St)) (fun s => s.1 ≤ w.seasons.length ∧ impl_seasonParts_l1 w skater (w.seasons.drop s.1) s.1 s.2 = some r) (fun s => w.seasons.length - s.1) (0, []) ⟨Nat.zero_le _, hH⟩ ?_ ?_
  · refine Le.trans (Le.void 5 7 1 rfl rfl) ?_
    exact Le.cut 0 0 rfl (by repeat' (first | exact trivial | refine ⟨⟨_, rfl, rfl⟩, ?_⟩)) (by repeat' (first | exact trivial | refine ⟨⟨_, rfl, rfl⟩, ?_⟩)) rfl
  · rintro ⟨k1, v32⟩ ⟨hk, hH⟩
    replace hH : impl_seasonParts_l1 w skater (w.seasons.drop k1) k1 v32 = some r := hH
    show AW _ _ _ (⟨[(1, .v (.int .i64 skater)), (2, .p 1 0), (5, .R 7), (11, .s (List.map encSeason w.seasons)), (12, .v (.int .i64 (w.seasons.length : Int))), (13, .v (.int .i64 (k1 : Int)))], [(1, .box [.s (List.map encSeason w.seasons), .s (List.map encInt w.weights)]), (7, .row 1 (List.map encInt v32))], 38, []⟩ : St)
    refine AW.boundM (t := 11) (l := w.seasons) rfl (fun hb5 => ?_)
    cases hd4 : w.seasons.drop k1 with
    | nil =>
      rw [hd4] at hH
      rw [impl_seasonParts_l1] at hH
      have hlt6 := drop_ge hd4
      refine AW.seq ?_
      refine AW.region ?_
      refine AO.pure T rfl rfl rfl ?_
      refine AO.nil ?_
      refine AW.seq ?_
      refine AW.condF' (b := decide ((k1 : Int) < (w.seasons.length : Int))) rfl (rngF hlt6) ?_
      refine AW.exit ?_
      refine AW.seq ?_
      refine AW.region ?_
      refine AO.pure T rfl rfl rfl ?_
      refine AO.pure T rfl rfl rfl ?_
      refine AO.nil ?_
      refine AW.ret ?_
      cases someE hH
      exact ⟨trivial, _, [7], rfl, .c (.c (.rowR rfl)), by decide⟩
    | cons y2 ys3 =>
      rw [hd4] at hH
      rw [impl_seasonParts_l1] at hH
      have hlt6 := drop_lt hd4
      refine AW.seq ?_
      refine AW.region ?_
      refine AO.pure T rfl rfl rfl ?_
      refine AO.nil ?_
      refine AW.seq ?_
      refine AW.condT' (b := decide ((k1 : Int) < (w.seasons.length : Int))) rfl (rngT hlt6) ?_
      refine AW.skip ?_
      refine AW.seq ?_
      refine AW.block ?_
      refine AW.seq ?_
      refine AW.region ?_
      refine AO.pure T rfl rfl rfl ?_
      refine AO.val rfl rfl (ix_map_ok T rfl rfl rfl rfl rfl (getI_drop hd4) rfl) ?_
      refine AO.pure T (d := .g [.v (.int .i64 y2.best), .s (List.map encLine y2.lines)]) rfl rfl rfl ?_
      refine AO.step rfl (alloc_ok T rfl 8 rfl rfl rfl rfl rfl) ?_
      refine AO.pure T rfl rfl rfl ?_
      refine AO.step rfl (store_okE T rfl rfl rfl rfl rfl rfl rfl rfl rfl (ds' := [.v (.int .i64 y2.best), .s (List.map encLine y2.lines)]) rfl) ?_
      refine AO.nil ?_
      refine AW.seq ?_
      obtain ⟨x34, hx35, hH⟩ := bindE hH
      obtain ⟨x36, hx37, hH⟩ := bindE hH
      obtain ⟨x38, hx39, hH⟩ := bindE hH
      refine AW.drawn 5 9 [] mix (by kernel_rfl) rfl ?_
      refine AD.pure T (d := .g [.v (.int .i64 y2.best), .s (List.map encLine y2.lines)]) rfl rfl rfl ?_
      refine AD.pure T rfl rfl rfl ?_
      refine AD.val rfl rfl (callV_ok rfl rfl rfl rfl (impl_lineOf_ok _ _ _ (hx35)) rfl) ?_
      refine AD.pure T rfl rfl rfl ?_
      refine AD.pure T rfl rfl rfl ?_
      refine AD.nil ?_
      refine AO.val rfl rfl (callV_ok rfl rfl rfl rfl (impl_counting_ok _ _ _ (hx37)) rfl) ?_
      refine AO.val rfl rfl (callV_ok rfl rfl rfl rfl (impl_sumInts_ok _ _ (hx39)) rfl) ?_
      refine AO.pure T rfl rfl rfl ?_
      refine AO.nil ?_
      obtain ⟨x40, hx41, hH⟩ := bindE hH
      obtain ⟨x42, hx43, hH⟩ := bindE hH
      obtain ⟨u44, hx45, hH⟩ := bindE hH
      refine AW.region ?_
      refine AO.pure T rfl rfl rfl ?_
      refine AO.pure T rfl rfl rfl ?_
      refine AO.pure T rfl rfl rfl ?_
      refine AO.pure T rfl rfl rfl ?_
      refine AO.pure T rfl rfl rfl ?_
      refine AO.val rfl rfl (ix_map_ok T rfl rfl rfl rfl rfl (hx41) rfl) ?_
      refine AO.pure T rfl rfl rfl ?_
      refine AO.val rfl rfl (arw_ok rfl rfl rfl rfl) ?_
      refine AO.val rfl rfl (callV_ok rfl rfl rfl rfl (impl_roundDiv_ok _ _ _ (hx43)) rfl) ?_
      refine AO.step rfl (mk_map_ok T rfl 9 rfl rfl rfl rfl rfl (f := encInt) (l := [x42]) rfl rfl (fun _ => rfl) rfl rfl rfl rfl rfl) ?_
      refine AO.step rfl (app_rv_map T rfl 10 rfl rfl rfl rfl rfl (by decide) rfl rfl rfl rfl (fun _ => rfl) (needT (hx45)) rfl rfl) ?_
      refine AO.pure T rfl rfl rfl ?_
      refine AO.nil ?_
      refine AW.le (Le.cut 0 0 (σ' := (⟨[(1, .v (.int .i64 skater)), (2, .p 1 0), (5, .R 10), (11, .s (List.map encSeason w.seasons)), (12, .v (.int .i64 (w.seasons.length : Int))), (13, .v (.int .i64 (k1 : Int)))], [(1, .box [.s (List.map encSeason w.seasons), .s (List.map encInt w.weights)]), (10, .row 1 (List.map encInt (v32 ++ [x42])))], 38, []⟩ : St)) rfl (by repeat' (first | exact trivial | refine ⟨⟨_, rfl, rfl⟩, ?_⟩)) (by repeat' (first | exact trivial | refine ⟨⟨_, rfl, rfl⟩, ?_⟩)) rfl) ?_
      refine AW.region ?_
      refine AO.val rfl rfl (ar_ok rfl rfl rfl rfl (inI_succ hlt6 hb5)) ?_
      refine AO.pure T rfl rfl rfl ?_
      refine AO.nil ?_
      refine ⟨(k1 + 1, (v32 ++ [x42])), ⟨Nat.succ_le_of_lt hlt6, (by rw [drop_succ_of hd4]; exact hH)⟩, (by have := hlt6; dsimp only; omega), ?_⟩
      exact Le.cut 10 7 rfl (by repeat' (first | exact trivial | refine ⟨⟨_, rfl, rfl⟩, ?_⟩)) (by repeat' (first | exact trivial | refine ⟨⟨_, rfl, rfl⟩, ?_⟩)) rfl

def impl_placesOf_l2 (y2 : Int) (v54 : List Int) : List Int → Nat → Int → Option (List Int)
  | [], k69, v76 =>
    (need (fitsB 8 (v54.length + ([v76]).length))).bind fun u78 =>
    some (v54 ++ [v76])
  | y70 :: ys71, k69, v76 =>
    cond (decide (y70 > y2))
      (impl_placesOf_l2 y2 v54 ys71 (k69 + 1) (w64 (v76 + 1)))
      (impl_placesOf_l2 y2 v54 ys71 (k69 + 1) v76)
def impl_placesOf_l1 (l : List Int) : List Int → Nat → List Int → Option ((List Int))
  | [], k1, v54 =>
    some v54
  | y2 :: ys3, k1, v54 =>
    (impl_placesOf_l2 y2 v54 l 0 1).bind fun v66 =>
    impl_placesOf_l1 l ys3 (k1 + 1) v66
def impl_placesOf_p (l : List Int) : Option (List Int) :=
  impl_placesOf_l1 l l 0 []
theorem impl_placesOf_ok (l : List Int) (r : (List Int)) (hH : impl_placesOf_p l = some r) : SpecR Tryz.prog 94 [.s (List.map encInt l)] (.w 1 (r.map encInt)) := by
  refine fn_ok T Tryz.func94 rfl (by decide) rfl ?_
  refine AW.seq ?_
  refine AW.region ?_
  refine AO.pure T rfl rfl rfl ?_
  refine AO.nil ?_
  refine AW.seq ?_
  refine AW.region ?_
  refine AO.step rfl (mk0_ok T rfl rfl rfl rfl) ?_
  refine AO.pure T rfl rfl rfl ?_
  refine AO.nil ?_
  refine AW.seq ?_
  refine AW.seq ?_
  refine AW.region ?_
  refine AO.pure T rfl rfl rfl ?_
  refine AO.val rfl rfl (len_map_ok T rfl rfl rfl) ?_
  refine AO.pure T rfl rfl rfl ?_
  refine AO.nil ?_
  refine AW.block ?_
  refine AW.loopS (fun s : Nat × (List Int) => (⟨[(0, .s (List.map encInt l)), (3, .R 6), (10, .s (List.map encInt l)), (11, .v (.int .i64 (l.length : Int))), (12, .v (.int .i64 (s.1 : Int)))], [(6, .row 1 (List.map encInt s.2))], 34, []⟩ : St)) (fun s => s.1 ≤ l.length ∧ impl_placesOf_l1 l (l.drop s.1) s.1 s.2 = some r) (fun s => l.length - s.1) (0, []) ⟨Nat.zero_le _, hH⟩ ?_ ?_
  · refine Le.trans (Le.void 3 6 1 rfl rfl) ?_
    exact Le.cut 0 0 rfl (by repeat' (first | exact trivial | refine ⟨⟨_, rfl, rfl⟩, ?_⟩)) (by repeat' (first | exact trivial | refine ⟨⟨_, rfl, rfl⟩, ?_⟩)) rfl
  · rintro ⟨k1, v54⟩ ⟨hk, hH⟩
    replace hH : impl_placesOf_l1 l (l.drop k1) k1 v54 = some r := hH
    show AW _ _ _ (⟨[(0, .s (List.map encInt l)), (3, .R 6), (10, .s (List.map encInt l)), (11, .v (.int .i64 (l.length : Int))), (12, .v (.int .i64 (k1 : Int)))], [(6, .row 1 (List.map encInt v54))], 34, []⟩ : St)
    refine AW.boundM (t := 0) (l := l) rfl (fun hb5 => ?_)
    cases hd4 : l.drop k1 with
    | nil =>
      rw [hd4] at hH
      rw [impl_placesOf_l1] at hH
      have hlt6 := drop_ge hd4
      refine AW.seq ?_
      refine AW.region ?_
      refine AO.pure T rfl rfl rfl ?_
      refine AO.nil ?_
      refine AW.seq ?_
      refine AW.condF' (b := decide ((k1 : Int) < (l.length : Int))) rfl (rngF hlt6) ?_
      refine AW.exit ?_
      refine AW.seq ?_
      refine AW.region ?_
      refine AO.pure T rfl rfl rfl ?_
      refine AO.pure T rfl rfl rfl ?_
      refine AO.nil ?_
      refine AW.ret ?_
      cases someE hH
      exact ⟨trivial, _, [6], rfl, .c (.c (.rowR rfl)), by decide⟩
    | cons y2 ys3 =>
      rw [hd4] at hH
      rw [impl_placesOf_l1] at hH
      have hlt6 := drop_lt hd4
      refine AW.seq ?_
      refine AW.region ?_
      refine AO.pure T rfl rfl rfl ?_
      refine AO.nil ?_
      refine AW.seq ?_
      refine AW.condT' (b := decide ((k1 : Int) < (l.length : Int))) rfl (rngT hlt6) ?_
      refine AW.skip ?_
      obtain ⟨o67, hH, hK68⟩ := bindE hH
      refine AW.seqJ (fun s : List Int => (⟨[(0, .s (List.map encInt l)), (3, .R 10), (10, .s (List.map encInt l)), (11, .v (.int .i64 (l.length : Int))), (12, .v (.int .i64 (k1 : Int)))], [(10, .row 1 (List.map encInt s))], 34, []⟩ : St)) (fun s => s = o67) ?_ ?_
      · refine AW.block ?_
        refine AW.seq ?_
        refine AW.region ?_
        refine AO.val rfl rfl (ix_map_ok T rfl rfl rfl rfl rfl (getI_drop hd4) rfl) ?_
        refine AO.pure T rfl rfl rfl ?_
        refine AO.pure T rfl rfl rfl ?_
        refine AO.nil ?_
        refine AW.seq ?_
        refine AW.region ?_
        refine AO.pure T rfl rfl rfl ?_
        refine AO.nil ?_
        refine AW.seq ?_
        refine AW.seq ?_
        refine AW.region ?_
        refine AO.pure T rfl rfl rfl ?_
        refine AO.val rfl rfl (len_map_ok T rfl rfl rfl) ?_
        refine AO.pure T rfl rfl rfl ?_
        refine AO.nil ?_
        refine AW.block ?_
        refine AW.loopS (fun s : Nat × Int => (⟨[(0, .s (List.map encInt l)), (3, .R 6), (5, .v (.int .i64 y2)), (6, .v (.int .i64 s.2)), (10, .s (List.map encInt l)), (11, .v (.int .i64 (l.length : Int))), (12, .v (.int .i64 (k1 : Int))), (16, .s (List.map encInt l)), (17, .v (.int .i64 (l.length : Int))), (18, .v (.int .i64 (s.1 : Int)))], [(6, .row 1 (List.map encInt v54))], 34, []⟩ : St)) (fun s => s.1 ≤ l.length ∧ impl_placesOf_l2 y2 v54 (l.drop s.1) s.1 s.2 = some o67) (fun s => l.length - s.1) (0, 1) ⟨Nat.zero_le _, hH⟩ ?_ ?_
        · exact Le.cut 0 0 rfl (by repeat' (first | exact trivial | refine ⟨⟨_, rfl, rfl⟩, ?_⟩)) (by repeat' (first | exact trivial | refine ⟨⟨_, rfl, rfl⟩, ?_⟩)) rfl
        · rintro ⟨k69, v76⟩ ⟨hk, hH⟩
          replace hH : impl_placesOf_l2 y2 v54 (l.drop k69) k69 v76 = some o67 := hH
          show AW _ _ _ (⟨[(0, .s (List.map encInt l)), (3, .R 6), (5, .v (.int .i64 y2)), (6, .v (.int .i64 v76)), (10, .s (List.map encInt l)), (11, .v (.int .i64 (l.length : Int))), (12, .v (.int .i64 (k1 : Int))), (16, .s (List.map encInt l)), (17, .v (.int .i64 (l.length : Int))), (18, .v (.int .i64 (k69 : Int)))], [(6, .row 1 (List.map encInt v54))], 34, []⟩ : St)
          refine AW.boundM (t := 0) (l := l) rfl (fun hb73 => ?_)
          cases hd72 : l.drop k69 with
          | nil =>
            rw [hd72] at hH
            rw [impl_placesOf_l2] at hH
            have hlt74 := drop_ge hd72
            refine AW.seq ?_
            refine AW.region ?_
            refine AO.pure T rfl rfl rfl ?_
            refine AO.nil ?_
            refine AW.seq ?_
            refine AW.condF' (b := decide ((k69 : Int) < (l.length : Int))) rfl (rngF hlt74) ?_
            refine AW.exit ?_
            obtain ⟨u78, hx79, hH⟩ := bindE hH
            refine AW.region ?_
            refine AO.pure T rfl rfl rfl ?_
            refine AO.pure T rfl rfl rfl ?_
            refine AO.step rfl (mk_map_ok T rfl 11 rfl rfl rfl rfl rfl (f := encInt) (l := [v76]) rfl rfl (fun _ => rfl) rfl rfl rfl rfl rfl) ?_
            refine AO.step rfl (app_rv_map T rfl 12 rfl rfl rfl rfl rfl (by decide) rfl rfl rfl rfl (fun _ => rfl) (needT (hx79)) rfl rfl) ?_
            refine AO.pure T rfl rfl rfl ?_
            refine AO.nil ?_
            refine ⟨_, someE hH, ?_⟩
            exact Le.cut 12 10 rfl (by repeat' (first | exact trivial | refine ⟨⟨_, rfl, rfl⟩, ?_⟩)) (by repeat' (first | exact trivial | refine ⟨⟨_, rfl, rfl⟩, ?_⟩)) rfl
          | cons y70 ys71 =>
            rw [hd72] at hH
            rw [impl_placesOf_l2] at hH
            have hlt74 := drop_lt hd72
            refine AW.seq ?_
            refine AW.region ?_
            refine AO.pure T rfl rfl rfl ?_
            refine AO.nil ?_
            refine AW.seq ?_
            refine AW.condT' (b := decide ((k69 : Int) < (l.length : Int))) rfl (rngT hlt74) ?_
            refine AW.skip ?_
            refine AW.seq ?_
            refine AW.block ?_
            refine AW.seq ?_
            refine AW.region ?_
            refine AO.val rfl rfl (ix_map_ok T rfl rfl rfl rfl rfl (getI_drop hd72) rfl) ?_
            refine AO.pure T rfl rfl rfl ?_
            refine AO.pure T rfl rfl rfl ?_
            refine AO.nil ?_
            refine AW.seq ?_
            refine AW.region ?_
            refine AO.pure T rfl rfl rfl ?_
            refine AO.pure T rfl rfl rfl ?_
            refine AO.pure T rfl rfl rfl ?_
            refine AO.nil ?_
            refine AW.cond (b := decide (y70 > y2)) rfl (fun hc => ?_) (fun hc => ?_)
            · replace hH := condT hc hH
              refine AW.region ?_
              refine AO.pure T rfl rfl rfl ?_
              refine AO.val rfl rfl (arw_ok rfl rfl rfl rfl) ?_
              refine AO.pure T rfl rfl rfl ?_
              refine AO.nil ?_
              refine AW.region ?_
              refine AO.val rfl rfl (ar_ok rfl rfl rfl rfl (inI_succ hlt74 hb73)) ?_
              refine AO.pure T rfl rfl rfl ?_
              refine AO.nil ?_
              refine ⟨(k69 + 1, w64 (v76 + 1)), ⟨Nat.succ_le_of_lt hlt74, (by rw [drop_succ_of hd72]; exact hH)⟩, (by have := hlt74; dsimp only; omega), ?_⟩
              exact Le.cut 0 0 rfl (by repeat' (first | exact trivial | refine ⟨⟨_, rfl, rfl⟩, ?_⟩)) (by repeat' (first | exact trivial | refine ⟨⟨_, rfl, rfl⟩, ?_⟩)) rfl
            · replace hH := condF hc hH
              refine AW.skip ?_
              refine AW.region ?_
              refine AO.val rfl rfl (ar_ok rfl rfl rfl rfl (inI_succ hlt74 hb73)) ?_
              refine AO.pure T rfl rfl rfl ?_
              refine AO.nil ?_
              refine ⟨(k69 + 1, v76), ⟨Nat.succ_le_of_lt hlt74, (by rw [drop_succ_of hd72]; exact hH)⟩, (by have := hlt74; dsimp only; omega), ?_⟩
              exact Le.cut 0 0 rfl (by repeat' (first | exact trivial | refine ⟨⟨_, rfl, rfl⟩, ?_⟩)) (by repeat' (first | exact trivial | refine ⟨⟨_, rfl, rfl⟩, ?_⟩)) rfl
      · rintro v66 hs
        subst hs
        replace hH := hK68
        try dsimp only [flow, flowE] at hH
        show AW _ _ _ (⟨[(0, .s (List.map encInt l)), (3, .R 10), (10, .s (List.map encInt l)), (11, .v (.int .i64 (l.length : Int))), (12, .v (.int .i64 (k1 : Int)))], [(10, .row 1 (List.map encInt v66))], 34, []⟩ : St)
        refine AW.region ?_
        refine AO.val rfl rfl (ar_ok rfl rfl rfl rfl (inI_succ hlt6 hb5)) ?_
        refine AO.pure T rfl rfl rfl ?_
        refine AO.nil ?_
        refine ⟨(k1 + 1, v66), ⟨Nat.succ_le_of_lt hlt6, (by rw [drop_succ_of hd4]; exact hH)⟩, (by have := hlt6; dsimp only; omega), ?_⟩
        exact Le.cut 10 6 rfl (by repeat' (first | exact trivial | refine ⟨⟨_, rfl, rfl⟩, ?_⟩)) (by repeat' (first | exact trivial | refine ⟨⟨_, rfl, rfl⟩, ?_⟩)) rfl

def slices_insertionSortCmpFunc_Rank_l2 (a : Int) (cmp : Rank → Rank → Option Int) : Nat → List Rank → Int → Option (List Rank)
  | 0, _, _ => none
  | k221 + 1, v248, v249 =>
    (opt (decide (v249 > a)) default (getI v248 v249)).bind fun x251 =>
    (opt (decide (v249 > a)) default (getI v248 (w64 (v249 - 1)))).bind fun x253 =>
    (opt (decide (v249 > a)) default (cmp x251 x253)).bind fun x255 =>
    cond (decide (v249 > a) && decide (x255 < 0))
      ((getI v248 (w64 (v249 - 1))).bind fun x257 =>
      (getI v248 v249).bind fun x259 =>
      (getI (v248.set v249.toNat x257) (w64 (v249 - 1))).bind fun x261 =>
      slices_insertionSortCmpFunc_Rank_l2 a cmp k221 ((v248.set v249.toNat x257).set ((w64 (v249 - 1)).toNat) x259) (w64 (v249 - 1)))
      (some v248)
def slices_insertionSortCmpFunc_Rank_l1 (a : Int) (b : Int) (cmp : Rank → Rank → Option Int) (fuel : Nat) : Nat → List Rank → Int → Option ((List Rank))
  | 0, _, _ => none
  | k1 + 1, v174, v175 =>
    cond (decide (v175 < b))
      ((slices_insertionSortCmpFunc_Rank_l2 a cmp fuel v174 v175).bind fun v218 =>
      slices_insertionSortCmpFunc_Rank_l1 a b cmp fuel k1 v218 (w64 (v175 + 1)))
      (some v174)
def slices_insertionSortCmpFunc_Rank_p (fuel : Nat) (data : List Rank) (a : Int) (b : Int) (cmp : Rank → Rank → Option Int) : Option (List Rank) :=
  slices_insertionSortCmpFunc_Rank_l1 a b cmp fuel fuel data (w64 (a + 1))
theorem slices_insertionSortCmpFunc_Rank_ok (fuel : Nat) (data : List Rank) (a : Int) (b : Int) (cmp_f : Nat) (cmp_c : List D) (cmp_k : cmp_c.all D.capOk = true) (cmp : Rank → Rank → Option Int) (cmp_h : ∀ (a0 : Rank) (a1 : Rank) (q : Int), cmp a0 a1 = some q → SpecR Tryz.prog cmp_f ([.g (encRank a0), .g (encRank a1)] ++ cmp_c) (.v (.int .i64 q))) (r : (List Rank)) (hH : slices_insertionSortCmpFunc_Rank_p fuel data a b cmp = some r) : SpecM Tryz.prog 138 [.w 3 (data.map encRank), .v (.int .i64 a), .v (.int .i64 b), .f cmp_f cmp_c] [.w 3 (r.map encRank), .u, .u, .u] (.t []) := by
  have cmp_r := cap_cfree cmp_k
  refine fn_okM T Tryz.func138 rfl (by decide) rfl (by simp [D.gOk, D.cellOk, cmp_k]) ?_
  intro L
  show AW _ _ _ (⟨[(0, .R 1), (1, .v (.int .i64 a)), (2, .v (.int .i64 b)), (3, .f cmp_f cmp_c)], [(1, .row 3 (List.map encRank data))], 53, [(1, L 1)]⟩ : St)
  refine AW.seq ?_
  refine AW.region ?_
  refine AO.pure T rfl rfl rfl ?_
  refine AO.val rfl rfl (arw_ok rfl rfl rfl rfl) ?_
  refine AO.pure T rfl rfl rfl ?_
  refine AO.nil ?_
  refine AW.block ?_
  refine AW.loopS (fun s : Nat × (List Rank) × Int => (⟨[(0, .R 1), (1, .v (.int .i64 a)), (2, .v (.int .i64 b)), (3, .f cmp_f cmp_c), (8, .v (.int .i64 s.2.2))], [(1, .row 3 (List.map encRank s.2.1))], 53, [(1, L 1)]⟩ : St)) (fun s => slices_insertionSortCmpFunc_Rank_l1 a b cmp fuel s.1 s.2.1 s.2.2 = some r) (fun s => s.1) (fuel, data, w64 (a + 1)) hH ?_ ?_
  · exact Le.cut 0 0 rfl ⟨⟨_, rfl, rfl⟩, ⟨_, rfl, rfl⟩, ⟨_, rfl, rfl⟩, ⟨_, rfl, ren_fF cmp_r⟩, ⟨_, rfl, rfl⟩, trivial⟩ (by repeat' (first | exact trivial | refine ⟨⟨_, rfl, rfl⟩, ?_⟩)) (andT (allC rfl (allC rfl (allC rfl (allC (known_fF cmp_r) (allC rfl allN))))) rfl) ⟨⟨rfl, rfl⟩, trivial⟩
  · rintro ⟨k1, v174, v175⟩ hH
    replace hH : slices_insertionSortCmpFunc_Rank_l1 a b cmp fuel k1 v174 v175 = some r := hH
    show AW _ _ _ (⟨[(0, .R 1), (1, .v (.int .i64 a)), (2, .v (.int .i64 b)), (3, .f cmp_f cmp_c), (8, .v (.int .i64 v175))], [(1, .row 3 (List.map encRank v174))], 53, [(1, L 1)]⟩ : St)
    cases k1 with
    | zero => cases (show none = some _ from hH)
    | succ k1 =>
      rw [slices_insertionSortCmpFunc_Rank_l1] at hH
      refine AW.seq ?_
      refine AW.seq ?_
      refine AW.region ?_
      refine AO.pure T rfl rfl rfl ?_
      refine AO.pure T rfl rfl rfl ?_
      refine AO.pure T rfl rfl rfl ?_
      refine AO.nil ?_
      refine AW.cond (b := decide (v175 < b)) rfl (fun hc => ?_) (fun hc => ?_)
      · replace hH := condT hc hH
        refine AW.skip ?_
        obtain ⟨o219, hH, hK220⟩ := bindE hH
        refine AW.seqJ (fun s : List Rank => (⟨[(0, .R 1), (1, .v (.int .i64 a)), (2, .v (.int .i64 b)), (3, .f cmp_f cmp_c), (8, .v (.int .i64 v175))], [(1, .row 3 (List.map encRank s))], 53, [(1, L 1)]⟩ : St)) (fun s => s = o219) ?_ ?_
        · refine AW.block ?_
          refine AW.seq ?_
          refine AW.region ?_
          refine AO.pure T rfl rfl rfl ?_
          refine AO.pure T rfl rfl rfl ?_
          refine AO.nil ?_
          refine AW.block ?_
          refine AW.loopS (fun s : Nat × (List Rank) × Int => (⟨[(0, .R 1), (1, .v (.int .i64 a)), (2, .v (.int .i64 b)), (3, .f cmp_f cmp_c), (8, .v (.int .i64 v175)), (9, .v (.int .i64 s.2.2))], [(1, .row 3 (List.map encRank s.2.1))], 53, [(1, L 1)]⟩ : St)) (fun s => slices_insertionSortCmpFunc_Rank_l2 a cmp s.1 s.2.1 s.2.2 = some o219) (fun s => s.1) (fuel, v174, v175) hH ?_ ?_
          · exact Le.cut 0 0 rfl ⟨⟨_, rfl, rfl⟩, ⟨_, rfl, rfl⟩, ⟨_, rfl, rfl⟩, ⟨_, rfl, ren_fF cmp_r⟩, ⟨_, rfl, rfl⟩, ⟨_, rfl, rfl⟩, trivial⟩ (by repeat' (first | exact trivial | refine ⟨⟨_, rfl, rfl⟩, ?_⟩)) (andT (allC rfl (allC rfl (allC rfl (allC (known_fF cmp_r) (allC rfl (allC rfl allN)))))) rfl) ⟨⟨rfl, rfl⟩, trivial⟩
          · rintro ⟨k221, v248, v249⟩ hH
            replace hH : slices_insertionSortCmpFunc_Rank_l2 a cmp k221 v248 v249 = some o219 := hH
            show AW _ _ _ (⟨[(0, .R 1), (1, .v (.int .i64 a)), (2, .v (.int .i64 b)), (3, .f cmp_f cmp_c), (8, .v (.int .i64 v175)), (9, .v (.int .i64 v249))], [(1, .row 3 (List.map encRank v248))], 53, [(1, L 1)]⟩ : St)
            cases k221 with
            | zero => cases (show none = some _ from hH)
            | succ k221 =>
              rw [slices_insertionSortCmpFunc_Rank_l2] at hH
              refine AW.seq ?_
              refine AW.seq ?_
              obtain ⟨x251, hx252, hH⟩ := bindE hH
              obtain ⟨x253, hx254, hH⟩ := bindE hH
              obtain ⟨x255, hx256, hH⟩ := bindE hH
              refine AW.drawn 14 2 [] mix (by kernel_rfl) rfl ?_
              refine AD.pure T rfl rfl rfl ?_
              refine AD.pure T rfl rfl rfl ?_
              refine AD.pure T rfl rfl rfl ?_
              refine AD.pure T rfl rfl rfl ?_
              refine AD.pureG T [] rfl trivial rfl rfl ?_
              refine AD.pureG T [] rfl trivial rfl rfl ?_
              refine AD.pureG T [] rfl trivial rfl rfl ?_
              refine AD.guard [23, 24] rfl ⟨fun h => h, fun h => h, trivial⟩ (fun hg => ix_row_ok T rfl rfl rfl rfl rfl rfl (optT hx252 hg)) rfl ?_
              refine AD.guard [25] rfl ⟨fun h => h, trivial⟩ (fun hg => load_row_ok T rfl rfl rfl rfl (getI_get (optT hx252 hg)) rfl rfl rfl) rfl ?_
              refine AD.pureG T [] rfl trivial rfl rfl ?_
              refine AD.pureG T [] rfl trivial rfl rfl ?_
              refine AD.guard [28] rfl ⟨fun h => h, trivial⟩ (fun hg => arw_ok rfl rfl rfl rfl) rfl ?_
              refine AD.guard [27, 29] rfl ⟨fun h => h, fun h => h, trivial⟩ (fun hg => ix_row_ok T rfl rfl rfl rfl rfl rfl (optT hx254 hg)) rfl ?_
              refine AD.guard [30] rfl ⟨fun h => h, trivial⟩ (fun hg => load_row_ok T rfl rfl rfl rfl (getI_get (optT hx254 hg)) rfl rfl rfl) rfl ?_
              refine AD.nil ?_
              refine AO.guard [22, 26, 31] rfl ⟨fun h => h, fun h => h, fun h => h, trivial⟩ (fun hg => callV_ok rfl rfl rfl (andT rfl (free_cfree cmp_r)) (cmp_h _ _ _ (optT hx256 hg)) rfl) rfl ?_
              refine AO.pureG T [32] rfl ⟨fun h => h, trivial⟩ rfl rfl ?_
              refine AO.val rfl rfl (pick_and rfl rfl rfl rfl) ?_
              refine AO.nil ?_
              refine AW.cond (b := (decide (v249 > a) && decide (x255 < 0))) rfl (fun hc => ?_) (fun hc => ?_)
              · replace hH := condT hc hH
                refine AW.skip ?_
                refine AW.seq ?_
                refine AW.block ?_
                obtain ⟨x257, hx258, hH⟩ := bindE hH
                obtain ⟨x259, hx260, hH⟩ := bindE hH
                obtain ⟨x261, hx262, hH⟩ := bindE hH
                refine AW.drawn 16 2 [1] mix (by kernel_rfl) rfl ?_
                refine AD.pure T rfl rfl rfl ?_
                refine AD.pure T rfl rfl rfl ?_
                refine AD.pure T rfl rfl rfl ?_
                refine AD.pure T rfl rfl rfl ?_
                refine AD.val rfl rfl (arw_ok rfl rfl rfl rfl) ?_
                refine AD.pure T rfl rfl rfl ?_
                refine AD.pure T rfl rfl rfl ?_
                refine AD.val rfl rfl (arw_ok rfl rfl rfl rfl) ?_
                refine AD.vald rfl rfl rfl (ix_row_ok T rfl rfl rfl rfl rfl rfl (hx258)) ?_
                refine AD.vald rfl rfl rfl (load_row_ok T rfl rfl rfl rfl (getI_get (hx258)) rfl rfl rfl) ?_
                refine AD.pure T rfl rfl rfl ?_
                refine AD.pure T rfl rfl rfl ?_
                refine AD.vald rfl rfl rfl (ix_row_ok T rfl rfl rfl rfl rfl rfl (hx260)) ?_
                refine AD.vald rfl rfl rfl (load_row_ok T rfl rfl rfl rfl (getI_get (hx260)) rfl rfl rfl) ?_
                refine AD.vald rfl rfl rfl (ix_row_ok T rfl rfl rfl rfl rfl rfl (hx260)) ?_
                refine AD.k rfl rfl (FStep.store_row T rfl rfl rfl rfl rfl rfl (getI_get (hx260)) rfl rfl rfl rfl (u' := x257) rfl rfl rfl) rfl rfl rfl ?_
                refine AD.nil ?_
                refine AO.val rfl rfl (ix_row_ok T rfl rfl rfl rfl rfl rfl (hx262)) ?_
                refine AO.step rfl (store_row_ok T rfl rfl rfl rfl rfl (getI_get (hx262)) rfl rfl rfl rfl (u' := x259) rfl rfl) ?_
                refine AO.nil ?_
                refine AW.le (Le.cut 0 0 (σ' := (⟨[(0, .R 1), (1, .v (.int .i64 a)), (2, .v (.int .i64 b)), (3, .f cmp_f cmp_c), (8, .v (.int .i64 v175)), (9, .v (.int .i64 v249))], [(1, .row 3 (List.map encRank ((v248.set v249.toNat x257).set ((w64 (v249 - 1)).toNat) x259)))], 53, [(1, L 1)]⟩ : St)) rfl ⟨⟨_, rfl, rfl⟩, ⟨_, rfl, rfl⟩, ⟨_, rfl, rfl⟩, ⟨_, rfl, ren_fF cmp_r⟩, ⟨_, rfl, rfl⟩, ⟨_, rfl, rfl⟩, trivial⟩ (by repeat' (first | exact trivial | refine ⟨⟨_, rfl, rfl⟩, ?_⟩)) (andT (allC rfl (allC rfl (allC rfl (allC (known_fF cmp_r) (allC rfl (allC rfl allN)))))) rfl) ⟨⟨rfl, rfl⟩, trivial⟩) ?_
                refine AW.region ?_
                refine AO.pure T rfl rfl rfl ?_
                refine AO.val rfl rfl (arw_ok rfl rfl rfl rfl) ?_
                refine AO.pure T rfl rfl rfl ?_
                refine AO.nil ?_
                refine ⟨(k221, ((v248.set v249.toNat x257).set ((w64 (v249 - 1)).toNat) x259), w64 (v249 - 1)), hH, Nat.lt_succ_self _, ?_⟩
                exact Le.cut 0 0 rfl ⟨⟨_, rfl, rfl⟩, ⟨_, rfl, rfl⟩, ⟨_, rfl, rfl⟩, ⟨_, rfl, ren_fF cmp_r⟩, ⟨_, rfl, rfl⟩, ⟨_, rfl, rfl⟩, trivial⟩ (by repeat' (first | exact trivial | refine ⟨⟨_, rfl, rfl⟩, ?_⟩)) (andT (allC rfl (allC rfl (allC rfl (allC (known_fF cmp_r) (allC rfl (allC rfl allN)))))) rfl) ⟨⟨rfl, rfl⟩, trivial⟩
              · replace hH := condF hc hH
                refine AW.exit ?_
                refine ⟨_, someE hH, ?_⟩
                exact Le.cut 0 0 rfl ⟨⟨_, rfl, rfl⟩, ⟨_, rfl, rfl⟩, ⟨_, rfl, rfl⟩, ⟨_, rfl, ren_fF cmp_r⟩, ⟨_, rfl, rfl⟩, trivial⟩ (by repeat' (first | exact trivial | refine ⟨⟨_, rfl, rfl⟩, ?_⟩)) (andT (allC rfl (allC rfl (allC rfl (allC (known_fF cmp_r) (allC rfl allN))))) rfl) ⟨⟨rfl, rfl⟩, trivial⟩
        · rintro v218 hs
          subst hs
          replace hH := hK220
          try dsimp only [flow, flowE] at hH
          show AW _ _ _ (⟨[(0, .R 1), (1, .v (.int .i64 a)), (2, .v (.int .i64 b)), (3, .f cmp_f cmp_c), (8, .v (.int .i64 v175))], [(1, .row 3 (List.map encRank v218))], 53, [(1, L 1)]⟩ : St)
          refine AW.region ?_
          refine AO.pure T rfl rfl rfl ?_
          refine AO.val rfl rfl (arw_ok rfl rfl rfl rfl) ?_
          refine AO.pure T rfl rfl rfl ?_
          refine AO.nil ?_
          refine ⟨(k1, v218, w64 (v175 + 1)), hH, Nat.lt_succ_self _, ?_⟩
          exact Le.cut 0 0 rfl ⟨⟨_, rfl, rfl⟩, ⟨_, rfl, rfl⟩, ⟨_, rfl, rfl⟩, ⟨_, rfl, ren_fF cmp_r⟩, ⟨_, rfl, rfl⟩, trivial⟩ (by repeat' (first | exact trivial | refine ⟨⟨_, rfl, rfl⟩, ?_⟩)) (andT (allC rfl (allC rfl (allC rfl (allC (known_fF cmp_r) (allC rfl allN))))) rfl) ⟨⟨rfl, rfl⟩, trivial⟩
      · replace hH := condF hc hH
        refine AW.exit ?_
        cases someE hH
        exact ⟨trivial, rfl, _, [], [1], rfl, expLG_cons (.c (.rowR rfl)) (expLG_cons (.c .u) (expLG_cons (.c .u) (expLG_cons (.c .u) (expLG_nil)))), .t expLG_nil, by decide⟩

def slices_swapRangeCmpFunc_Rank_l1 (a : Int) (b : Int) (n : Int) : Nat → List Rank → Int → Option ((List Rank))
  | 0, _, _ => none
  | k1 + 1, v16, v17 =>
    cond (decide (v17 < n))
      ((getI v16 (w64 (b + v17))).bind fun x19 =>
      (getI v16 (w64 (a + v17))).bind fun x21 =>
      (getI (v16.set ((w64 (a + v17)).toNat) x19) (w64 (b + v17))).bind fun x23 =>
      slices_swapRangeCmpFunc_Rank_l1 a b n k1 ((v16.set ((w64 (a + v17)).toNat) x19).set ((w64 (b + v17)).toNat) x21) (w64 (v17 + 1)))
      (some v16)
def slices_swapRangeCmpFunc_Rank_p (fuel : Nat) (data : List Rank) (a : Int) (b : Int) (n : Int) (cmp : Rank → Rank → Option Int) : Option (List Rank) :=
  slices_swapRangeCmpFunc_Rank_l1 a b n fuel data 0
theorem slices_swapRangeCmpFunc_Rank_ok (fuel : Nat) (data : List Rank) (a : Int) (b : Int) (n : Int) (cmp_f : Nat) (cmp_c : List D) (cmp_k : cmp_c.all D.capOk = true) (cmp : Rank → Rank → Option Int) (cmp_h : ∀ (a0 : Rank) (a1 : Rank) (q : Int), cmp a0 a1 = some q → SpecR Tryz.prog cmp_f ([.g (encRank a0), .g (encRank a1)] ++ cmp_c) (.v (.int .i64 q))) (r : (List Rank)) (hH : slices_swapRangeCmpFunc_Rank_p fuel data a b n cmp = some r) : SpecM Tryz.prog 170 [.w 3 (data.map encRank), .v (.int .i64 a), .v (.int .i64 b), .v (.int .i64 n), .f cmp_f cmp_c] [.w 3 (r.map encRank), .u, .u, .u, .u] (.t []) := by
  have cmp_r := cap_cfree cmp_k
  refine fn_okM T Tryz.func170 rfl (by decide) rfl (by simp [D.gOk, D.cellOk, cmp_k]) ?_
  intro L
  show AW _ _ _ (⟨[(0, .R 1), (1, .v (.int .i64 a)), (2, .v (.int .i64 b)), (3, .v (.int .i64 n)), (4, .f cmp_f cmp_c)], [(1, .row 3 (List.map encRank data))], 38, [(1, L 1)]⟩ : St)
  refine AW.seq ?_
  refine AW.region ?_
  refine AO.pure T rfl rfl rfl ?_
  refine AO.nil ?_
  refine AW.block ?_
  refine AW.loopS (fun s : Nat × (List Rank) × Int => (⟨[(0, .R 1), (1, .v (.int .i64 a)), (2, .v (.int .i64 b)), (3, .v (.int .i64 n)), (10, .v (.int .i64 s.2.2))], [(1, .row 3 (List.map encRank s.2.1))], 38, [(1, L 1)]⟩ : St)) (fun s => slices_swapRangeCmpFunc_Rank_l1 a b n s.1 s.2.1 s.2.2 = some r) (fun s => s.1) (fuel, data, 0) hH ?_ ?_
  · exact Le.cut 0 0 rfl (by repeat' (first | exact trivial | refine ⟨⟨_, rfl, rfl⟩, ?_⟩)) (by repeat' (first | exact trivial | refine ⟨⟨_, rfl, rfl⟩, ?_⟩)) rfl ⟨⟨rfl, rfl⟩, trivial⟩
  · rintro ⟨k1, v16, v17⟩ hH
    replace hH : slices_swapRangeCmpFunc_Rank_l1 a b n k1 v16 v17 = some r := hH
    show AW _ _ _ (⟨[(0, .R 1), (1, .v (.int .i64 a)), (2, .v (.int .i64 b)), (3, .v (.int .i64 n)), (10, .v (.int .i64 v17))], [(1, .row 3 (List.map encRank v16))], 38, [(1, L 1)]⟩ : St)
    cases k1 with
    | zero => cases (show none = some _ from hH)
    | succ k1 =>
      rw [slices_swapRangeCmpFunc_Rank_l1] at hH
      refine AW.seq ?_
      refine AW.seq ?_
      refine AW.region ?_
      refine AO.pure T rfl rfl rfl ?_
      refine AO.pure T rfl rfl rfl ?_
      refine AO.pure T rfl rfl rfl ?_
      refine AO.nil ?_
      refine AW.cond (b := decide (v17 < n)) rfl (fun hc => ?_) (fun hc => ?_)
      · replace hH := condT hc hH
        refine AW.skip ?_
        refine AW.seq ?_
        refine AW.block ?_
        obtain ⟨x19, hx20, hH⟩ := bindE hH
        obtain ⟨x21, hx22, hH⟩ := bindE hH
        obtain ⟨x23, hx24, hH⟩ := bindE hH
        refine AW.drawn 22 2 [1] mix (by kernel_rfl) rfl ?_
        refine AD.pure T rfl rfl rfl ?_
        refine AD.pure T rfl rfl rfl ?_
        refine AD.pure T rfl rfl rfl ?_
        refine AD.val rfl rfl (arw_ok rfl rfl rfl rfl) ?_
        refine AD.pure T rfl rfl rfl ?_
        refine AD.pure T rfl rfl rfl ?_
        refine AD.pure T rfl rfl rfl ?_
        refine AD.val rfl rfl (arw_ok rfl rfl rfl rfl) ?_
        refine AD.pure T rfl rfl rfl ?_
        refine AD.pure T rfl rfl rfl ?_
        refine AD.pure T rfl rfl rfl ?_
        refine AD.val rfl rfl (arw_ok rfl rfl rfl rfl) ?_
        refine AD.vald rfl rfl rfl (ix_row_ok T rfl rfl rfl rfl rfl rfl (hx20)) ?_
        refine AD.vald rfl rfl rfl (load_row_ok T rfl rfl rfl rfl (getI_get (hx20)) rfl rfl rfl) ?_
        refine AD.pure T rfl rfl rfl ?_
        refine AD.pure T rfl rfl rfl ?_
        refine AD.pure T rfl rfl rfl ?_
        refine AD.val rfl rfl (arw_ok rfl rfl rfl rfl) ?_
        refine AD.vald rfl rfl rfl (ix_row_ok T rfl rfl rfl rfl rfl rfl (hx22)) ?_
        refine AD.vald rfl rfl rfl (load_row_ok T rfl rfl rfl rfl (getI_get (hx22)) rfl rfl rfl) ?_
        refine AD.vald rfl rfl rfl (ix_row_ok T rfl rfl rfl rfl rfl rfl (hx22)) ?_
        refine AD.k rfl rfl (FStep.store_row T rfl rfl rfl rfl rfl rfl (getI_get (hx22)) rfl rfl rfl rfl (u' := x19) rfl rfl rfl) rfl rfl rfl ?_
        refine AD.nil ?_
        refine AO.val rfl rfl (ix_row_ok T rfl rfl rfl rfl rfl rfl (hx24)) ?_
        refine AO.step rfl (store_row_ok T rfl rfl rfl rfl rfl (getI_get (hx24)) rfl rfl rfl rfl (u' := x21) rfl rfl) ?_
        refine AO.nil ?_
        refine AW.le (Le.cut 0 0 (σ' := (⟨[(0, .R 1), (1, .v (.int .i64 a)), (2, .v (.int .i64 b)), (3, .v (.int .i64 n)), (10, .v (.int .i64 v17))], [(1, .row 3 (List.map encRank ((v16.set ((w64 (a + v17)).toNat) x19).set ((w64 (b + v17)).toNat) x21)))], 38, [(1, L 1)]⟩ : St)) rfl (by repeat' (first | exact trivial | refine ⟨⟨_, rfl, rfl⟩, ?_⟩)) (by repeat' (first | exact trivial | refine ⟨⟨_, rfl, rfl⟩, ?_⟩)) rfl ⟨⟨rfl, rfl⟩, trivial⟩) ?_
        refine AW.region ?_
        refine AO.pure T rfl rfl rfl ?_
        refine AO.val rfl rfl (arw_ok rfl rfl rfl rfl) ?_
        refine AO.pure T rfl rfl rfl ?_
        refine AO.nil ?_
        refine ⟨(k1, ((v16.set ((w64 (a + v17)).toNat) x19).set ((w64 (b + v17)).toNat) x21), w64 (v17 + 1)), hH, Nat.lt_succ_self _, ?_⟩
        exact Le.cut 0 0 rfl (by repeat' (first | exact trivial | refine ⟨⟨_, rfl, rfl⟩, ?_⟩)) (by repeat' (first | exact trivial | refine ⟨⟨_, rfl, rfl⟩, ?_⟩)) rfl ⟨⟨rfl, rfl⟩, trivial⟩
      · replace hH := condF hc hH
        refine AW.exit ?_
        cases someE hH
        exact ⟨trivial, rfl, _, [], [1], rfl, expLG_cons (.c (.rowR rfl)) (expLG_cons (.c .u) (expLG_cons (.c .u) (expLG_cons (.c .u) (expLG_cons (.c .u) (expLG_nil))))), .t expLG_nil, by decide⟩

def slices_rotateCmpFunc_Rank_l1 (m : Int) (cmp : Rank → Rank → Option Int) (fuel : Nat) : Nat → List Rank → Int → Int → Option ((List Rank) × Int)
  | 0, _, _, _ => none
  | k24 + 1, v36, v37, v38 =>
    cond (v37 != v38)
      (cond (decide (v37 > v38))
        ((slices_swapRangeCmpFunc_Rank_p fuel v36 (w64 (m - v37)) m v38 cmp).bind fun x40 =>
        slices_rotateCmpFunc_Rank_l1 m cmp fuel k24 x40 (w64 (v37 - v38)) v38)
        ((slices_swapRangeCmpFunc_Rank_p fuel v36 (w64 (m - v37)) (w64 ((w64 (m + v38)) - v37)) v37 cmp).bind fun x42 =>
        slices_rotateCmpFunc_Rank_l1 m cmp fuel k24 x42 v37 (w64 (v38 - v37))))
      (some (v36, v37))
def slices_rotateCmpFunc_Rank_p (fuel : Nat) (data : List Rank) (a : Int) (m : Int) (b : Int) (cmp : Rank → Rank → Option Int) : Option (List Rank) :=
  (slices_rotateCmpFunc_Rank_l1 m cmp fuel fuel data (w64 (m - a)) (w64 (b - m))).bind fun (v20, v21) =>
  (slices_swapRangeCmpFunc_Rank_p fuel v20 (w64 (m - v21)) m v21 cmp).bind fun x44 =>
  some x44
theorem slices_rotateCmpFunc_Rank_ok (fuel : Nat) (data : List Rank) (a : Int) (m : Int) (b : Int) (cmp_f : Nat) (cmp_c : List D) (cmp_k : cmp_c.all D.capOk = true) (cmp : Rank → Rank → Option Int) (cmp_h : ∀ (a0 : Rank) (a1 : Rank) (q : Int), cmp a0 a1 = some q → SpecR Tryz.prog cmp_f ([.g (encRank a0), .g (encRank a1)] ++ cmp_c) (.v (.int .i64 q))) (r : (List Rank)) (hH : slices_rotateCmpFunc_Rank_p fuel data a m b cmp = some r) : SpecM Tryz.prog 155 [.w 3 (data.map encRank), .v (.int .i64 a), .v (.int .i64 m), .v (.int .i64 b), .f cmp_f cmp_c] [.w 3 (r.map encRank), .u, .u, .u, .u] (.t []) := by
  have cmp_r := cap_cfree cmp_k
  refine fn_okM T Tryz.func155 rfl (by decide) rfl (by simp [D.gOk, D.cellOk, cmp_k]) ?_
  intro L
  show AW _ _ _ (⟨[(0, .R 1), (1, .v (.int .i64 a)), (2, .v (.int .i64 m)), (3, .v (.int .i64 b)), (4, .f cmp_f cmp_c)], [(1, .row 3 (List.map encRank data))], 58, [(1, L 1)]⟩ : St)
  refine AW.seq ?_
  refine AW.region ?_
  refine AO.pure T rfl rfl rfl ?_
  refine AO.pure T rfl rfl rfl ?_
  refine AO.val rfl rfl (arw_ok rfl rfl rfl rfl) ?_
  refine AO.pure T rfl rfl rfl ?_
  refine AO.nil ?_
  refine AW.seq ?_
  refine AW.region ?_
  refine AO.pure T rfl rfl rfl ?_
  refine AO.pure T rfl rfl rfl ?_
  refine AO.val rfl rfl (arw_ok rfl rfl rfl rfl) ?_
  refine AO.pure T rfl rfl rfl ?_
  refine AO.nil ?_
  obtain ⟨o22, hH, hK23⟩ := bindE hH
  refine AW.seqJ (fun s : (List Rank) × Int => (⟨[(0, .R 1), (2, .v (.int .i64 m)), (4, .f cmp_f cmp_c), (10, .v (.int .i64 s.2))], [(1, .row 3 (List.map encRank s.1))], 58, [(1, L 1)]⟩ : St)) (fun s => s = o22) ?_ ?_
  · refine AW.block ?_
    refine AW.loopS (fun s : Nat × (List Rank) × Int × Int => (⟨[(0, .R 1), (2, .v (.int .i64 m)), (4, .f cmp_f cmp_c), (10, .v (.int .i64 s.2.2.1)), (11, .v (.int .i64 s.2.2.2))], [(1, .row 3 (List.map encRank s.2.1))], 58, [(1, L 1)]⟩ : St)) (fun s => slices_rotateCmpFunc_Rank_l1 m cmp fuel s.1 s.2.1 s.2.2.1 s.2.2.2 = some o22) (fun s => s.1) (fuel, data, w64 (m - a), w64 (b - m)) hH ?_ ?_
    · exact Le.cut 0 0 rfl ⟨⟨_, rfl, rfl⟩, ⟨_, rfl, rfl⟩, ⟨_, rfl, ren_fF cmp_r⟩, ⟨_, rfl, rfl⟩, ⟨_, rfl, rfl⟩, trivial⟩ (by repeat' (first | exact trivial | refine ⟨⟨_, rfl, rfl⟩, ?_⟩)) (andT (allC rfl (allC rfl (allC (known_fF cmp_r) (allC rfl (allC rfl allN))))) rfl) ⟨⟨rfl, rfl⟩, trivial⟩
    · rintro ⟨k24, v36, v37, v38⟩ hH
      replace hH : slices_rotateCmpFunc_Rank_l1 m cmp fuel k24 v36 v37 v38 = some o22 := hH
      show AW _ _ _ (⟨[(0, .R 1), (2, .v (.int .i64 m)), (4, .f cmp_f cmp_c), (10, .v (.int .i64 v37)), (11, .v (.int .i64 v38))], [(1, .row 3 (List.map encRank v36))], 58, [(1, L 1)]⟩ : St)
      cases k24 with
      | zero => cases (show none = some _ from hH)
      | succ k24 =>
        rw [slices_rotateCmpFunc_Rank_l1] at hH
        refine AW.seq ?_
        refine AW.seq ?_
        refine AW.region ?_
        refine AO.pure T rfl rfl rfl ?_
        refine AO.pure T rfl rfl rfl ?_
        refine AO.pure T rfl rfl rfl ?_
        refine AO.nil ?_
        refine AW.cond (b := (v37 != v38)) rfl (fun hc => ?_) (fun hc => ?_)
        · replace hH := condT hc hH
          refine AW.skip ?_
          refine AW.block ?_
          refine AW.seq ?_
          refine AW.region ?_
          refine AO.pure T rfl rfl rfl ?_
          refine AO.pure T rfl rfl rfl ?_
          refine AO.pure T rfl rfl rfl ?_
          refine AO.nil ?_
          refine AW.cond (b := decide (v37 > v38)) rfl (fun hc => ?_) (fun hc => ?_)
          · replace hH := condT hc hH
            refine AW.seq ?_
            obtain ⟨x40, hx41, hH⟩ := bindE hH
            refine AW.region ?_
            refine AO.pure T rfl rfl rfl ?_
            refine AO.pure T rfl rfl rfl ?_
            refine AO.pure T rfl rfl rfl ?_
            refine AO.val rfl rfl (arw_ok rfl rfl rfl rfl) ?_
            refine AO.pure T rfl rfl rfl ?_
            refine AO.pure T rfl rfl rfl ?_
            refine AO.pure T rfl rfl rfl ?_
            refine AO.step rfl (callM_ok rfl 2 rfl rfl (es := [.w 3 (v36.map encRank), .v (.int .i64 (w64 (m - v37))), .v (.int .i64 m), .v (.int .i64 v38), .f cmp_f cmp_c]) (outs := [.w 3 (x40.map encRank), .u, .u, .u, .u]) (ids := [1]) (by exact expLG_cons (.c (.rowR rfl)) (expLG_cons (.c .v) (expLG_cons (.c .v) (expLG_cons (.c .v) (expLG_cons (.c (.f cmp_r)) (expLG_nil)))))) (by decide) (.inl (by rfl)) (by rfl) (slices_swapRangeCmpFunc_Rank_ok fuel _ _ _ _ cmp_f cmp_c cmp_k cmp cmp_h _ (hx41)) rfl (by rfl) rfl) ?_
            refine AO.nil ?_
            refine AW.region ?_
            refine AO.pure T rfl rfl rfl ?_
            refine AO.pure T rfl rfl rfl ?_
            refine AO.val rfl rfl (arw_ok rfl rfl rfl rfl) ?_
            refine AO.pure T rfl rfl rfl ?_
            refine AO.nil ?_
            refine ⟨(k24, x40, w64 (v37 - v38), v38), hH, Nat.lt_succ_self _, ?_⟩
            exact Le.cut 0 0 rfl ⟨⟨_, rfl, rfl⟩, ⟨_, rfl, rfl⟩, ⟨_, rfl, ren_fF cmp_r⟩, ⟨_, rfl, rfl⟩, ⟨_, rfl, rfl⟩, trivial⟩ (by repeat' (first | exact trivial | refine ⟨⟨_, rfl, rfl⟩, ?_⟩)) (andT (allC rfl (allC rfl (allC (known_fF cmp_r) (allC rfl (allC rfl allN))))) rfl) ⟨⟨rfl, rfl⟩, trivial⟩
          · replace hH := condF hc hH
            refine AW.seq ?_
            obtain ⟨x42, hx43, hH⟩ := bindE hH
            refine AW.region ?_
            refine AO.pure T rfl rfl rfl ?_
            refine AO.pure T rfl rfl rfl ?_
            refine AO.pure T rfl rfl rfl ?_
            refine AO.val rfl rfl (arw_ok rfl rfl rfl rfl) ?_
            refine AO.pure T rfl rfl rfl ?_
            refine AO.pure T rfl rfl rfl ?_
            refine AO.val rfl rfl (arw_ok rfl rfl rfl rfl) ?_
            refine AO.pure T rfl rfl rfl ?_
            refine AO.val rfl rfl (arw_ok rfl rfl rfl rfl) ?_
            refine AO.pure T rfl rfl rfl ?_
            refine AO.pure T rfl rfl rfl ?_
            refine AO.step rfl (callM_ok rfl 2 rfl rfl (es := [.w 3 (v36.map encRank), .v (.int .i64 (w64 (m - v37))), .v (.int .i64 (w64 ((w64 (m + v38)) - v37))), .v (.int .i64 v37), .f cmp_f cmp_c]) (outs := [.w 3 (x42.map encRank), .u, .u, .u, .u]) (ids := [1]) (by exact expLG_cons (.c (.rowR rfl)) (expLG_cons (.c .v) (expLG_cons (.c .v) (expLG_cons (.c .v) (expLG_cons (.c (.f cmp_r)) (expLG_nil)))))) (by decide) (.inl (by rfl)) (by rfl) (slices_swapRangeCmpFunc_Rank_ok fuel _ _ _ _ cmp_f cmp_c cmp_k cmp cmp_h _ (hx43)) rfl (by rfl) rfl) ?_
            refine AO.nil ?_
            refine AW.region ?_
            refine AO.pure T rfl rfl rfl ?_
            refine AO.pure T rfl rfl rfl ?_
            refine AO.val rfl rfl (arw_ok rfl rfl rfl rfl) ?_
            refine AO.pure T rfl rfl rfl ?_
            refine AO.nil ?_
            refine ⟨(k24, x42, v37, w64 (v38 - v37)), hH, Nat.lt_succ_self _, ?_⟩
            exact Le.cut 0 0 rfl ⟨⟨_, rfl, rfl⟩, ⟨_, rfl, rfl⟩, ⟨_, rfl, ren_fF cmp_r⟩, ⟨_, rfl, rfl⟩, ⟨_, rfl, rfl⟩, trivial⟩ (by repeat' (first | exact trivial | refine ⟨⟨_, rfl, rfl⟩, ?_⟩)) (andT (allC rfl (allC rfl (allC (known_fF cmp_r) (allC rfl (allC rfl allN))))) rfl) ⟨⟨rfl, rfl⟩, trivial⟩
        · replace hH := condF hc hH
          refine AW.exit ?_
          refine ⟨_, someE hH, ?_⟩
          exact Le.cut 0 0 rfl ⟨⟨_, rfl, rfl⟩, ⟨_, rfl, rfl⟩, ⟨_, rfl, ren_fF cmp_r⟩, ⟨_, rfl, rfl⟩, trivial⟩ (by repeat' (first | exact trivial | refine ⟨⟨_, rfl, rfl⟩, ?_⟩)) (andT (allC rfl (allC rfl (allC (known_fF cmp_r) (allC rfl allN)))) rfl) ⟨⟨rfl, rfl⟩, trivial⟩
  · rintro ⟨v20, v21⟩ hs
    subst hs
    replace hH := hK23
    try dsimp only [flow, flowE] at hH
    show AW _ _ _ (⟨[(0, .R 1), (2, .v (.int .i64 m)), (4, .f cmp_f cmp_c), (10, .v (.int .i64 v21))], [(1, .row 3 (List.map encRank v20))], 58, [(1, L 1)]⟩ : St)
    obtain ⟨x44, hx45, hH⟩ := bindE hH
    refine AW.region ?_
    refine AO.pure T rfl rfl rfl ?_
    refine AO.pure T rfl rfl rfl ?_
    refine AO.pure T rfl rfl rfl ?_
    refine AO.val rfl rfl (arw_ok rfl rfl rfl rfl) ?_
    refine AO.pure T rfl rfl rfl ?_
    refine AO.pure T rfl rfl rfl ?_
    refine AO.pure T rfl rfl rfl ?_
    refine AO.step rfl (callM_ok rfl 2 rfl rfl (es := [.w 3 (v20.map encRank), .v (.int .i64 (w64 (m - v21))), .v (.int .i64 m), .v (.int .i64 v21), .f cmp_f cmp_c]) (outs := [.w 3 (x44.map encRank), .u, .u, .u, .u]) (ids := [1]) (by exact expLG_cons (.c (.rowR rfl)) (expLG_cons (.c .v) (expLG_cons (.c .v) (expLG_cons (.c .v) (expLG_cons (.c (.f cmp_r)) (expLG_nil)))))) (by decide) (.inl (by rfl)) (by rfl) (slices_swapRangeCmpFunc_Rank_ok fuel _ _ _ _ cmp_f cmp_c cmp_k cmp cmp_h _ (hx45)) rfl (by rfl) rfl) ?_
    refine AO.nil ?_
    cases someE hH
    exact ⟨trivial, rfl, _, [], [1], rfl, expLG_cons (.c (.rowR rfl)) (expLG_cons (.c .u) (expLG_cons (.c .u) (expLG_cons (.c .u) (expLG_cons (.c .u) (expLG_nil))))), .t expLG_nil, by decide⟩

end Go.Proofs.YtekdnjnefbkikaaGreat

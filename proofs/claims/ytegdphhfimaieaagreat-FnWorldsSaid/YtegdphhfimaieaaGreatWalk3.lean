/- The walk, part 3: what each function reached by the law FnWorlds computes. No condition. -/
import Derived.Test.YtegdphhfimaieaaGreatWalk2
set_option maxRecDepth 4000
set_option maxHeartbeats 1000000
set_option linter.unusedVariables false
set_option linter.unusedSimpArgs false
set_option linter.unusedSectionVars false

namespace Go.Proofs.YtegdphhfimaieaaGreat
open Go.AM

def impl_worldPlace_l1 (skater : Int) : List Rank → Nat → Option Int
  | [], k3 =>
    some 0
  | y4 :: ys5, k3 =>
    cond (y4.skater == skater)
      (some y4.place)
      (impl_worldPlace_l1 skater ys5 (k3 + 1))
def impl_worldPlace_p (fuel : Nat) (w : World) (skater : Int) : Option Int :=
  (impl_worldList_p fuel w).bind fun x1 =>
  impl_worldPlace_l1 skater x1 0
theorem impl_worldPlace_ok (fuel : Nat) (w : World) (skater : Int) (r : Int) (hH : impl_worldPlace_p fuel w skater = some r) : SpecR Tryz.prog 53 [.g (encWorld w), skater] (.v (.int .i64 r)) := by
 refine fn_ok T Tryz.func53 rfl (by decide) rfl ?_
 refine AW.seq (AW.region ?_)
 refine AO.step rfl (box_ok T rfl 1 rfl rfl rfl rfl) ?_
 refine AO.pu T ?_
 refine AO.nil ?_
 iterate 2 refine AW.seq ?_
 obtain ⟨x1, hx2, hH⟩ := bindE hH
 refine AW.region ?_
 refine AO.pu T (d := .g [.s (List.map encSeason w.seasons), .s (List.map encInt w.weights)]) ?_
 refine AO.step rfl (call_ok rfl 2 rfl rfl rfl (impl_worldList_ok fuel _ _ (hx2)) rfl rfl rfl) ?_
 refine AO.val rfl rfl (len_row_ok T rfl rfl rfl rfl) ?_
 refine AO.pu T ?_
 refine AO.nil ?_
 refine AW.block ?_
 refine AW.loopS (fun s : Nat => (⟨[(1, skater), (8, .R 2), (9, (x1.length : Int)), (10, (s : Int))], [(2, .row 3 (List.map encRank x1))], 21, []⟩ : St)) (fun s => s ≤ x1.length ∧ impl_worldPlace_l1 skater (x1.drop s) s = some r) (fun s => x1.length - s) 0 ⟨Nat.zero_le _, hH⟩ ?_ ?_
 exact Le.ct 0 0
 rintro k3 ⟨hk, hH⟩
 replace hH : impl_worldPlace_l1 skater (x1.drop k3) k3 = some r := hH
 try dsimp only
 refine AW.boundR (id := 2) (l := x1) rfl (fun hb7 => ?_)
 rcases hd6 : x1.drop k3 with _ | ⟨y4, ys5⟩
 rw [hd6, impl_worldPlace_l1] at hH
 have hlt8 := drop_ge hd6
 refine AW.seq (AW.region ?_)
 refine AO.pu T ?_
 refine AO.nil (AW.seq ?_)
 refine AW.condF' (b := decide ((k3 : Int) < (x1.length : Int))) rfl (rngF hlt8) ?_
 refine AW.exit ?_
 refine AW.seq (AW.region ?_)
 refine AO.pu T ?_
 refine AO.nil (AW.ret ?_)
 have hR := someE hH; subst hR
 exact retQ.i [] rfl (.c (.c .v))
 rw [hd6, impl_worldPlace_l1] at hH
 have hlt8 := drop_lt hd6
 refine AW.seq (AW.region ?_)
 refine AO.pu T ?_
 refine AO.nil (AW.seq ?_)
 refine AW.condT' (b := decide ((k3 : Int) < (x1.length : Int))) rfl (rngT hlt8) ?_
 refine AW.skip ?_
 refine AW.seq ?_
 refine AW.block ?_
 refine AW.seq (AW.region ?_)
 refine AO.val rfl rfl (ix_row_ok T rfl rfl rfl rfl rfl rfl (getI_drop hd6)) ?_
 refine AO.val rfl rfl (load_row_ok T rfl rfl rfl rfl (getI_get (getI_drop hd6)) rfl rfl rfl) ?_
 refine AO.step rfl (alloc_ok T rfl 5 rfl rfl rfl rfl rfl) ?_
 refine AO.se T [y4.skater, y4.total, y4.place] ?_
 refine AO.nil (AW.seq ?_)
 refine AW.region ?_
 iterate 4 refine AO.pu T ?_
 refine AO.nil ?_
 refine AW.cond (b := (y4.skater == skater)) rfl (fun hc => ?_) (fun hc => ?_)
 replace hH := condT hc hH
 refine AW.seq (AW.region ?_)
 iterate 3 refine AO.pu T ?_
 refine AO.nil (AW.ret ?_)
 have hR := someE hH; subst hR
 exact retQ.i [] rfl (.c (.c .v))
 replace hH := condF hc hH
 refine AW.skip ?_
 refine AW.region ?_
 refine AO.val rfl rfl (ar_ok rfl rfl rfl rfl (inI_succ hlt8 hb7)) ?_
 refine AO.pu T ?_
 refine AO.nil ?_
 refine ⟨k3 + 1, ⟨Nat.succ_le_of_lt hlt8, (by rw [drop_succ_of hd6]; exact hH)⟩, (by have := hlt8; dsimp only; omega), ?_⟩
 exact Le.ct 0 0

def impl_WorldPlace_p (fuel : Nat) (w : World) (skater : Int) : Option (Int × Bool) :=
  (impl_IsWorld_p fuel w).bind fun x1 =>
  (opt (!(!x1)) default (impl_worldPlace_p fuel w skater)).bind fun x3 =>
  cond ((!x1) || (x3 == 0))
    (some (0, false))
    ((impl_worldPlace_p fuel w skater).bind fun x5 =>
    some (x5, true))
theorem impl_WorldPlace_ok (fuel : Nat) (w : World) (skater : Int) (r : (Int × Bool)) (hH : impl_WorldPlace_p fuel w skater = some r) : SpecR Tryz.prog 14 [.g (encWorld w), skater] (.t [.v (.int .i64 r.1), .v (.bool r.2)]) := by
 refine fn_ok T Tryz.func14 rfl (by decide) rfl ?_
 refine AW.seq (AW.region ?_)
 refine AO.step rfl (box_ok T rfl 1 rfl rfl rfl rfl) ?_
 iterate 2 refine AO.pu T ?_
 refine AO.nil ?_
 iterate 2 refine AW.seq ?_
 obtain ⟨x1, hx2, hH⟩ := bindE hH
 obtain ⟨x3, hx4, hH⟩ := bindE hH
 refine AW.region ?_
 refine AO.pu T (d := .g [.s (List.map encSeason w.seasons), .s (List.map encInt w.weights)]) ?_
 refine AO.val rfl rfl (callV_ok rfl rfl rfl rfl (impl_IsWorld_ok fuel _ _ (hx2)) rfl) ?_
 iterate 2 refine AO.pu T ?_
 refine AO.pureG T (d := .g [.s (List.map encSeason w.seasons), .s (List.map encInt w.weights)]) [] rfl trivial rfl rfl ?_
 refine AO.pureG T [] rfl trivial rfl rfl ?_
 refine AO.guard [10, 11] rfl ⟨fun h => h, fun h => h, trivial⟩ (fun hg => callV_ok rfl rfl rfl rfl (impl_worldPlace_ok fuel _ _ _ (optT hx4 hg)) rfl) rfl ?_
 refine AO.pureG T [12] rfl ⟨fun h => h, trivial⟩ rfl rfl ?_
 refine AO.val rfl rfl (pick_or rfl rfl rfl rfl) ?_
 refine AO.nil ?_
 refine AW.cond (b := ((!x1) || (x3 == 0))) rfl (fun hc => ?_) (fun hc => ?_)
 replace hH := condT hc hH
 refine AW.seq (AW.region ?_)
 iterate 2 refine AO.pu T ?_
 refine AO.nil (AW.ret ?_)
 have hR := someE hH; subst hR
 exact retQ.i [] rfl (.t (expLG_cons (.c .v) (expLG_cons (.c .v) (expLG_nil))))
 replace hH := condF hc hH
 refine AW.skip ?_
 refine AW.seq ?_
 obtain ⟨x5, hx6, hH⟩ := bindE hH
 refine AW.region ?_
 refine AO.pu T (d := .g [.s (List.map encSeason w.seasons), .s (List.map encInt w.weights)]) ?_
 refine AO.pu T ?_
 refine AO.val rfl rfl (callV_ok rfl rfl rfl rfl (impl_worldPlace_ok fuel _ _ _ (hx6)) rfl) ?_
 iterate 2 refine AO.pu T ?_
 refine AO.nil (AW.ret ?_)
 have hR := someE hH; subst hR
 exact retQ.i [] rfl (.t (expLG_cons (.c .v) (expLG_cons (.c .v) (expLG_nil))))

def laws_sameInts_l1 (b : List Int) : List Int → Nat → Option Bool
  | [], k1 =>
    some true
  | y2 :: ys3, k1 =>
    (getI b (k1 : Int)).bind fun x12 =>
    cond (y2 != x12)
      (some false)
      (laws_sameInts_l1 b ys3 (k1 + 1))
def laws_sameInts_p (a : List Int) (b : List Int) : Option Bool :=
  cond ((a.length : Int) != (b.length : Int))
    (some false)
    (laws_sameInts_l1 b a 0)
theorem laws_sameInts_ok (a : List Int) (b : List Int) (r : Bool) (hH : laws_sameInts_p a b = some r) : SpecR Tryz.prog 15 [.s (List.map encInt a), .s (List.map encInt b)] (.v (.bool r)) := by
 refine fn_ok T Tryz.func15 rfl (by decide) rfl ?_
 refine AW.seq (AW.region ?_)
 refine AO.pu T ?_
 refine AO.nil ?_
 iterate 2 refine AW.seq ?_
 refine AW.region ?_
 refine AO.pu T ?_
 refine AO.val rfl rfl (len_map_ok T rfl rfl rfl) ?_
 refine AO.pu T ?_
 refine AO.val rfl rfl (len_map_ok T rfl rfl rfl) ?_
 refine AO.pu T ?_
 refine AO.nil ?_
 refine AW.cond (b := ((a.length : Int) != (b.length : Int))) rfl (fun hc => ?_) (fun hc => ?_)
 replace hH := condT hc hH
 refine AW.seq (AW.region ?_)
 refine AO.pu T ?_
 refine AO.nil (AW.ret ?_)
 have hR := someE hH; subst hR
 exact retQ.i [] rfl (.c (.c .v))
 replace hH := condF hc hH
 refine AW.skip ?_
 iterate 2 refine AW.seq ?_
 refine AW.region ?_
 refine AO.pu T ?_
 refine AO.val rfl rfl (len_map_ok T rfl rfl rfl) ?_
 refine AO.pu T ?_
 refine AO.nil ?_
 refine AW.block ?_
 refine AW.loopS (fun s : Nat => (⟨[(0, .s (List.map encInt a)), (1, .s (List.map encInt b)), (12, (a.length : Int)), (13, (s : Int))], [], 26, []⟩ : St)) (fun s => s ≤ a.length ∧ laws_sameInts_l1 b (a.drop s) s = some r) (fun s => a.length - s) 0 ⟨Nat.zero_le _, hH⟩ ?_ ?_
 exact Le.ct 0 0
 rintro k1 ⟨hk, hH⟩
 replace hH : laws_sameInts_l1 b (a.drop k1) k1 = some r := hH
 try dsimp only
 refine AW.boundM (t := 0) (l := a) rfl (fun hb5 => ?_)
 rcases hd4 : a.drop k1 with _ | ⟨y2, ys3⟩
 rw [hd4, laws_sameInts_l1] at hH
 have hlt6 := drop_ge hd4
 refine AW.seq (AW.region ?_)
 refine AO.pu T ?_
 refine AO.nil (AW.seq ?_)
 refine AW.condF' (b := decide ((k1 : Int) < (a.length : Int))) rfl (rngF hlt6) ?_
 refine AW.exit ?_
 refine AW.seq (AW.region ?_)
 refine AO.pu T ?_
 refine AO.nil (AW.ret ?_)
 have hR := someE hH; subst hR
 exact retQ.i [] rfl (.c (.c .v))
 rw [hd4, laws_sameInts_l1] at hH
 have hlt6 := drop_lt hd4
 refine AW.seq (AW.region ?_)
 refine AO.pu T ?_
 refine AO.nil (AW.seq ?_)
 refine AW.condT' (b := decide ((k1 : Int) < (a.length : Int))) rfl (rngT hlt6) ?_
 refine AW.skip ?_
 refine AW.seq ?_
 refine AW.block ?_
 refine AW.seq (AW.region ?_)
 iterate 2 refine AO.pu T ?_
 refine AO.nil (AW.seq ?_)
 obtain ⟨x12, hx13, hH⟩ := bindE hH
 refine AW.drawn 8 1 [] mix (by kernel_rfl) rfl ?_
 iterate 2 refine AD.pure T rfl rfl rfl ?_
 refine AD.val rfl rfl (ix_map_ok T rfl rfl rfl rfl rfl (getI_drop hd4) rfl) ?_
 iterate 3 refine AD.pure T rfl rfl rfl ?_
 refine AD.val rfl rfl (ix_map_ok T rfl rfl rfl rfl rfl (hx13) rfl) ?_
 refine AD.pure T rfl rfl rfl ?_
 refine AD.nil ?_
 refine AO.pu T ?_
 refine AO.nil ?_
 refine AW.cond (b := (y2 != x12)) rfl (fun hc => ?_) (fun hc => ?_)
 replace hH := condT hc hH
 refine AW.seq (AW.region ?_)
 refine AO.pu T ?_
 refine AO.nil (AW.ret ?_)
 have hR := someE hH; subst hR
 exact retQ.i [] rfl (.c (.c .v))
 replace hH := condF hc hH
 refine AW.skip ?_
 refine AW.region ?_
 refine AO.val rfl rfl (ar_ok rfl rfl rfl rfl (inI_succ hlt6 hb5)) ?_
 refine AO.pu T ?_
 refine AO.nil ?_
 refine ⟨k1 + 1, ⟨Nat.succ_le_of_lt hlt6, (by rw [drop_succ_of hd4]; exact hH)⟩, (by have := hlt6; dsimp only; omega), ?_⟩
 exact Le.ct 0 0

def laws_pSum_l1 : List Int → Nat → Int → Option Int
  | [], k1, v8 =>
    some v8
  | y2 :: ys3, k1, v8 =>
    laws_pSum_l1 ys3 (k1 + 1) (w64 (v8 + y2))
def laws_pSum_p (l : List Int) : Option Int :=
  laws_pSum_l1 l 0 0
theorem laws_pSum_ok (l : List Int) (r : Int) (hH : laws_pSum_p l = some r) : SpecR Tryz.prog 16 [.s (List.map encInt l)] (.v (.int .i64 r)) := by
 refine fn_ok T Tryz.func16 rfl (by decide) rfl ?_
 refine AW.seq (AW.region ?_)
 refine AO.pu T ?_
 refine AO.nil (AW.seq ?_)
 refine AW.region ?_
 refine AO.pu T ?_
 refine AO.nil ?_
 iterate 2 refine AW.seq ?_
 refine AW.region ?_
 refine AO.pu T ?_
 refine AO.val rfl rfl (len_map_ok T rfl rfl rfl) ?_
 refine AO.pu T ?_
 refine AO.nil ?_
 refine AW.block ?_
 refine AW.loopS (fun s : Nat × Int => (⟨[(3, s.2), (6, .s (List.map encInt l)), (7, (l.length : Int)), (8, (s.1 : Int))], [], 17, []⟩ : St)) (fun s => s.1 ≤ l.length ∧ laws_pSum_l1 (l.drop s.1) s.1 s.2 = some r) (fun s => l.length - s.1) (0, 0) ⟨Nat.zero_le _, hH⟩ ?_ ?_
 exact Le.ct 0 0
 rintro ⟨k1, v8⟩ ⟨hk, hH⟩
 replace hH : laws_pSum_l1 (l.drop k1) k1 v8 = some r := hH
 try dsimp only
 refine AW.boundM (t := 6) (l := l) rfl (fun hb5 => ?_)
 rcases hd4 : l.drop k1 with _ | ⟨y2, ys3⟩
 rw [hd4, laws_pSum_l1] at hH
 have hlt6 := drop_ge hd4
 refine AW.seq (AW.region ?_)
 refine AO.pu T ?_
 refine AO.nil (AW.seq ?_)
 refine AW.condF' (b := decide ((k1 : Int) < (l.length : Int))) rfl (rngF hlt6) ?_
 refine AW.exit ?_
 refine AW.seq (AW.region ?_)
 iterate 2 refine AO.pu T ?_
 refine AO.nil (AW.ret ?_)
 have hR := someE hH; subst hR
 exact retQ.i [] rfl (.c (.c .v))
 rw [hd4, laws_pSum_l1] at hH
 have hlt6 := drop_lt hd4
 refine AW.seq (AW.region ?_)
 refine AO.pu T ?_
 refine AO.nil (AW.seq ?_)
 refine AW.condT' (b := decide ((k1 : Int) < (l.length : Int))) rfl (rngT hlt6) ?_
 refine AW.skip ?_
 refine AW.seq ?_
 refine AW.block ?_
 refine AW.seq (AW.region ?_)
 refine AO.val rfl rfl (ix_map_ok T rfl rfl rfl rfl rfl (getI_drop hd4) rfl) ?_
 iterate 2 refine AO.pu T ?_
 refine AO.nil ?_
 refine AW.region ?_
 iterate 2 refine AO.pu T ?_
 refine AO.val rfl rfl (arw_ok rfl rfl rfl rfl) ?_
 refine AO.pu T ?_
 refine AO.nil ?_
 refine AW.region ?_
 refine AO.val rfl rfl (ar_ok rfl rfl rfl rfl (inI_succ hlt6 hb5)) ?_
 refine AO.pu T ?_
 refine AO.nil ?_
 refine ⟨(k1 + 1, w64 (v8 + y2)), ⟨Nat.succ_le_of_lt hlt6, (by rw [drop_succ_of hd4]; exact hH)⟩, (by have := hlt6; dsimp only; omega), ?_⟩
 exact Le.ct 0 0

def spec_DrawFirstOf_p (fuel : Nat) (code : List Int) : Option (World × Int) :=
  (spec_l1Cur_world_p fuel (L1Cur.mk code 0 0)).bind fun x1 =>
  (spec_l1Cur_among_p (L1Cur.mk x1.1.code x1.1.at' x1.1.seed) ([1, 2, 3, 5, 300, 301, 0] : List Int)).bind fun x3 =>
  some ((World.mk x1.2.seasons x1.2.weights), x3.2)
theorem spec_DrawFirstOf_ok (fuel : Nat) (code : List Int) (r : (World × Int)) (hH : spec_DrawFirstOf_p fuel code = some r) : SpecR Tryz.prog 17 [.s (List.map encInt_u8 code)] (.t [.g (encWorld r.1), .v (.int .i64 r.2)]) := by
 refine fn_ok T Tryz.func17 rfl (by decide) rfl ?_
 refine AW.seq (AW.region ?_)
 refine AO.step rfl (alloc_ok T rfl 1 rfl rfl rfl rfl rfl) ?_
 refine AO.pu T ?_
 refine AO.nil (AW.seq ?_)
 refine AW.region ?_
 refine AO.pu T ?_
 refine AO.pu T (d := .g [.s (List.map encInt_u8 code), (0 : Int), .v (.int .u64 0)]) ?_
 refine AO.step rfl (box_ok T rfl 2 rfl rfl rfl rfl) ?_
 refine AO.pu T ?_
 refine AO.nil (AW.seq ?_)
 obtain ⟨x1, hx2, hH⟩ := bindE hH
 obtain ⟨x3, hx4, hH⟩ := bindE hH
 refine AW.region ?_
 refine AO.pu T ?_
 refine AO.step rfl (callM_ok rfl 3 rfl rfl (es := [.pw (encL1Cur (L1Cur.mk code 0 0))]) (outs := [.pw (encL1Cur x1.1)]) (ids := [2]) (by exact expLG_cons (.c (.box rfl rfl)) (expLG_nil)) (by decide) (.inl (by rfl)) (by rfl) (spec_l1Cur_world_ok fuel _ _ (hx2)) rfl (by rfl) rfl) ?_
 refine AO.pu T ?_
 refine AO.step rfl (mk_map_ok T rfl 3 rfl rfl rfl rfl rfl (f := encInt) (l := ([1, 2, 3, 5, 300, 301, 0] : List Int)) rfl rfl (fun _ => rfl) rfl rfl rfl rfl rfl) ?_
 refine AO.le (Le.freezeM 3 (g := encInt) rfl (fun y => .vs rfl)) ?_
 refine AO.step rfl (callM_ok rfl 4 rfl rfl (es := [.pw (encL1Cur (L1Cur.mk x1.1.code x1.1.at' x1.1.seed)), .s (([1, 2, 3, 5, 300, 301, 0] : List Int).map encInt)]) (outs := [.pw (encL1Cur x3.1), .u]) (ids := [2]) (by exact expLG_cons (.c (.box rfl rfl)) (expLG_cons (.c .s) (expLG_nil))) (by decide) (.inl (by rfl)) (by rfl) (spec_l1Cur_among_ok _ _ _ (hx4)) rfl (by rfl) rfl) ?_
 refine AO.se T [.s (List.map encSeason x1.2.seasons), .s (List.map encInt x1.2.weights)] ?_
 refine AO.pu T ?_
 refine AO.nil (AW.ret ?_)
 have hR := someE hH; subst hR
 exact retQ.i [] rfl (.t (expLG_cons (.g (expLC_cons .s (expLC_cons .s (expLC_nil)))) (expLG_cons (.c .v) (expLG_nil))))

def impl_FirstOf_l1 (n : Int) : List Rank → Nat → List Rank → Option (((List Rank) × Bool))
  | [], k7, v18 =>
    some (v18, true)
  | y8 :: ys9, k7, v18 =>
    cond (decide (y8.place ≤ n))
      ((need (fitsB 24 (v18.length + ([y8]).length))).bind fun u20 =>
      impl_FirstOf_l1 n ys9 (k7 + 1) (v18 ++ [y8]))
      (impl_FirstOf_l1 n ys9 (k7 + 1) v18)
def impl_FirstOf_p (fuel : Nat) (w : World) (n : Int) : Option ((List Rank) × Bool) :=
  (impl_IsWorld_p fuel w).bind fun x1 =>
  (opt (!(!x1)) default (impl_within_p n 1 300)).bind fun x3 =>
  cond ((!x1) || (!x3))
    (some ([], false))
    ((impl_worldList_p fuel w).bind fun x5 =>
    impl_FirstOf_l1 n x5 0 [])
theorem impl_FirstOf_ok (fuel : Nat) (w : World) (n : Int) (r : ((List Rank) × Bool)) (hH : impl_FirstOf_p fuel w n = some r) : SpecR Tryz.prog 18 [.g (encWorld w), n] (.t [.w 3 (r.1.map encRank), .v (.bool r.2)]) := by
 refine fn_ok T Tryz.func18 rfl (by decide) rfl ?_
 refine AW.seq (AW.region ?_)
 refine AO.step rfl (box_ok T rfl 1 rfl rfl rfl rfl) ?_
 iterate 2 refine AO.pu T ?_
 refine AO.nil ?_
 iterate 2 refine AW.seq ?_
 obtain ⟨x1, hx2, hH⟩ := bindE hH
 obtain ⟨x3, hx4, hH⟩ := bindE hH
 refine AW.region ?_
 refine AO.pu T (d := .g [.s (List.map encSeason w.seasons), .s (List.map encInt w.weights)]) ?_
 refine AO.val rfl rfl (callV_ok rfl rfl rfl rfl (impl_IsWorld_ok fuel _ _ (hx2)) rfl) ?_
 iterate 2 refine AO.pu T ?_
 refine AO.pureG T [] rfl trivial rfl rfl ?_
 refine AO.guard [13] rfl ⟨fun h => h, trivial⟩ (fun hg => callV_ok rfl rfl rfl rfl (impl_within_ok _ _ _ _ (optT hx4 hg)) rfl) rfl ?_
 refine AO.pureG T [14] rfl ⟨fun h => h, trivial⟩ rfl rfl ?_
 refine AO.val rfl rfl (pick_or rfl rfl rfl rfl) ?_
 refine AO.nil ?_
 refine AW.cond (b := ((!x1) || (!x3))) rfl (fun hc => ?_) (fun hc => ?_)
 replace hH := condT hc hH
 refine AW.seq (AW.region ?_)
 iterate 2 refine AO.pu T ?_
 refine AO.nil (AW.ret ?_)
 have hR := someE hH; subst hR
 exact retQ.i [] rfl (.t (expLG_cons (.c .nil) (expLG_cons (.c .v) (expLG_nil))))
 replace hH := condF hc hH
 refine AW.skip ?_
 refine AW.seq (AW.region ?_)
 refine AO.step rfl (mk0_ok T rfl rfl rfl rfl) ?_
 refine AO.pu T ?_
 refine AO.nil ?_
 iterate 2 refine AW.seq ?_
 obtain ⟨x5, hx6, hH⟩ := bindE hH
 refine AW.region ?_
 refine AO.pu T (d := .g [.s (List.map encSeason w.seasons), .s (List.map encInt w.weights)]) ?_
 refine AO.step rfl (call_ok rfl 2 rfl rfl rfl (impl_worldList_ok fuel _ _ (hx6)) rfl rfl rfl) ?_
 refine AO.val rfl rfl (len_row_ok T rfl rfl rfl rfl) ?_
 refine AO.pu T ?_
 refine AO.nil ?_
 refine AW.block ?_
 refine AW.loopS (fun s : Nat × (List Rank) => (⟨[(1, n), (6, .R 8), (19, .R 2), (20, (x5.length : Int)), (21, (s.1 : Int))], [(2, .row 3 (List.map encRank x5)), (8, .row 3 (List.map encRank s.2))], 35, []⟩ : St)) (fun s => s.1 ≤ x5.length ∧ impl_FirstOf_l1 n (x5.drop s.1) s.1 s.2 = some r) (fun s => x5.length - s.1) (0, []) ⟨Nat.zero_le _, hH⟩ ?_ ?_
 refine Le.trans (Le.void 6 8 3 rfl rfl) ?_
 exact Le.ct 0 0
 rintro ⟨k7, v18⟩ ⟨hk, hH⟩
 replace hH : impl_FirstOf_l1 n (x5.drop k7) k7 v18 = some r := hH
 try dsimp only
 refine AW.boundR (id := 2) (l := x5) rfl (fun hb11 => ?_)
 rcases hd10 : x5.drop k7 with _ | ⟨y8, ys9⟩
 rw [hd10, impl_FirstOf_l1] at hH
 have hlt12 := drop_ge hd10
 refine AW.seq (AW.region ?_)
 refine AO.pu T ?_
 refine AO.nil (AW.seq ?_)
 refine AW.condF' (b := decide ((k7 : Int) < (x5.length : Int))) rfl (rngF hlt12) ?_
 refine AW.exit ?_
 refine AW.seq (AW.region ?_)
 iterate 3 refine AO.pu T ?_
 refine AO.nil (AW.ret ?_)
 have hR := someE hH; subst hR
 exact retQ.i [8] rfl (.t (expLG_cons (.c (.rowR rfl)) (expLG_cons (.c .v) (expLG_nil))))
 rw [hd10, impl_FirstOf_l1] at hH
 have hlt12 := drop_lt hd10
 refine AW.seq (AW.region ?_)
 refine AO.pu T ?_
 refine AO.nil (AW.seq ?_)
 refine AW.condT' (b := decide ((k7 : Int) < (x5.length : Int))) rfl (rngT hlt12) ?_
 refine AW.skip ?_
 refine AW.seq ?_
 refine AW.block ?_
 refine AW.seq (AW.region ?_)
 refine AO.val rfl rfl (ix_row_ok T rfl rfl rfl rfl rfl rfl (getI_drop hd10)) ?_
 refine AO.val rfl rfl (load_row_ok T rfl rfl rfl rfl (getI_get (getI_drop hd10)) rfl rfl rfl) ?_
 refine AO.step rfl (alloc_ok T rfl 9 rfl rfl rfl rfl rfl) ?_
 refine AO.se T [y8.skater, y8.total, y8.place] ?_
 refine AO.nil (AW.seq ?_)
 refine AW.region ?_
 iterate 4 refine AO.pu T ?_
 refine AO.nil ?_
 refine AW.cond (b := decide (y8.place ≤ n)) rfl (fun hc => ?_) (fun hc => ?_)
 replace hH := condT hc hH
 obtain ⟨u20, hx21, hH⟩ := bindE hH
 refine AW.region ?_
 refine AO.pu T ?_
 refine AO.pu T (d := .g [y8.skater, y8.total, y8.place]) ?_
 refine AO.step rfl (mk_map_ok T rfl 10 rfl rfl rfl rfl rfl (f := encRank) (l := [y8]) rfl rfl (fun _ => rfl) rfl rfl rfl rfl rfl) ?_
 refine AO.step rfl (app_rv_map T rfl 11 rfl rfl rfl rfl rfl (by decide) rfl rfl rfl rfl (fun _ => rfl) (needT (hx21)) rfl rfl) ?_
 refine AO.pu T ?_
 refine AO.nil ?_
 refine AW.region ?_
 refine AO.val rfl rfl (ar_ok rfl rfl rfl rfl (inI_succ hlt12 hb11)) ?_
 refine AO.pu T ?_
 refine AO.nil ?_
 refine ⟨(k7 + 1, (v18 ++ [y8])), ⟨Nat.succ_le_of_lt hlt12, (by rw [drop_succ_of hd10]; exact hH)⟩, (by have := hlt12; dsimp only; omega), ?_⟩
 exact Le.ct 11 8
 replace hH := condF hc hH
 refine AW.skip ?_
 refine AW.region ?_
 refine AO.val rfl rfl (ar_ok rfl rfl rfl rfl (inI_succ hlt12 hb11)) ?_
 refine AO.pu T ?_
 refine AO.nil ?_
 refine ⟨(k7 + 1, v18), ⟨Nat.succ_le_of_lt hlt12, (by rw [drop_succ_of hd10]; exact hH)⟩, (by have := hlt12; dsimp only; omega), ?_⟩
 exact Le.ct 0 0

def spec_FirstOf_l1 (n : Int) : List Rank → Nat → List Rank → Option (((List Rank) × Bool))
  | [], k7, v18 =>
    some (v18, true)
  | y8 :: ys9, k7, v18 =>
    cond (decide (y8.place ≤ n))
      ((need (fitsB 24 (v18.length + ([y8]).length))).bind fun u20 =>
      spec_FirstOf_l1 n ys9 (k7 + 1) (v18 ++ [y8]))
      (spec_FirstOf_l1 n ys9 (k7 + 1) v18)
def spec_FirstOf_p (fuel : Nat) (w : World) (n : Int) : Option ((List Rank) × Bool) :=
  (spec_wlGood_p w).bind fun x1 =>
  (opt (!(!x1)) default (spec_l1In_p n 1 300)).bind fun x3 =>
  cond ((!x1) || (!x3))
    (some ([], false))
    ((spec_wlList_p fuel w).bind fun x5 =>
    spec_FirstOf_l1 n x5 0 [])
theorem spec_FirstOf_ok (fuel : Nat) (w : World) (n : Int) (r : ((List Rank) × Bool)) (hH : spec_FirstOf_p fuel w n = some r) : SpecR Tryz.prog 19 [.g (encWorld w), n] (.t [.w 3 (r.1.map encRank), .v (.bool r.2)]) := by
 refine fn_ok T Tryz.func19 rfl (by decide) rfl ?_
 refine AW.seq (AW.region ?_)
 refine AO.step rfl (box_ok T rfl 1 rfl rfl rfl rfl) ?_
 iterate 2 refine AO.pu T ?_
 refine AO.nil ?_
 iterate 2 refine AW.seq ?_
 obtain ⟨x1, hx2, hH⟩ := bindE hH
 obtain ⟨x3, hx4, hH⟩ := bindE hH
 refine AW.region ?_
 refine AO.pu T (d := .g [.s (List.map encSeason w.seasons), .s (List.map encInt w.weights)]) ?_
 refine AO.val rfl rfl (callV_ok rfl rfl rfl rfl (spec_wlGood_ok _ _ (hx2)) rfl) ?_
 iterate 2 refine AO.pu T ?_
 refine AO.pureG T [] rfl trivial rfl rfl ?_
 refine AO.guard [13] rfl ⟨fun h => h, trivial⟩ (fun hg => callV_ok rfl rfl rfl rfl (spec_l1In_ok _ _ _ _ (optT hx4 hg)) rfl) rfl ?_
 refine AO.pureG T [14] rfl ⟨fun h => h, trivial⟩ rfl rfl ?_
 refine AO.val rfl rfl (pick_or rfl rfl rfl rfl) ?_
 refine AO.nil ?_
 refine AW.cond (b := ((!x1) || (!x3))) rfl (fun hc => ?_) (fun hc => ?_)
 replace hH := condT hc hH
 refine AW.seq (AW.region ?_)
 iterate 2 refine AO.pu T ?_
 refine AO.nil (AW.ret ?_)
 have hR := someE hH; subst hR
 exact retQ.i [] rfl (.t (expLG_cons (.c .nil) (expLG_cons (.c .v) (expLG_nil))))
 replace hH := condF hc hH
 refine AW.skip ?_
 refine AW.seq (AW.region ?_)
 refine AO.pu T ?_
 refine AO.nil ?_
 iterate 2 refine AW.seq ?_
 obtain ⟨x5, hx6, hH⟩ := bindE hH
 refine AW.region ?_
 refine AO.pu T (d := .g [.s (List.map encSeason w.seasons), .s (List.map encInt w.weights)]) ?_
 refine AO.step rfl (call_ok rfl 2 rfl rfl rfl (spec_wlList_ok fuel _ _ (hx6)) rfl rfl rfl) ?_
 refine AO.val rfl rfl (len_row_ok T rfl rfl rfl rfl) ?_
 refine AO.pu T ?_
 refine AO.nil ?_
 refine AW.block ?_
 refine AW.loopS (fun s : Nat × (List Rank) => (⟨[(1, n), (6, .R 8), (18, .R 2), (19, (x5.length : Int)), (20, (s.1 : Int))], [(2, .row 3 (List.map encRank x5)), (8, .row 3 (List.map encRank s.2))], 34, []⟩ : St)) (fun s => s.1 ≤ x5.length ∧ spec_FirstOf_l1 n (x5.drop s.1) s.1 s.2 = some r) (fun s => x5.length - s.1) (0, []) ⟨Nat.zero_le _, hH⟩ ?_ ?_
 refine Le.trans (Le.void 6 8 3 rfl rfl) ?_
 exact Le.ct 0 0
 rintro ⟨k7, v18⟩ ⟨hk, hH⟩
 replace hH : spec_FirstOf_l1 n (x5.drop k7) k7 v18 = some r := hH
 try dsimp only
 refine AW.boundR (id := 2) (l := x5) rfl (fun hb11 => ?_)
 rcases hd10 : x5.drop k7 with _ | ⟨y8, ys9⟩
 rw [hd10, spec_FirstOf_l1] at hH
 have hlt12 := drop_ge hd10
 refine AW.seq (AW.region ?_)
 refine AO.pu T ?_
 refine AO.nil (AW.seq ?_)
 refine AW.condF' (b := decide ((k7 : Int) < (x5.length : Int))) rfl (rngF hlt12) ?_
 refine AW.exit ?_
 refine AW.seq (AW.region ?_)
 iterate 3 refine AO.pu T ?_
 refine AO.nil (AW.ret ?_)
 have hR := someE hH; subst hR
 exact retQ.i [8] rfl (.t (expLG_cons (.c (.rowR rfl)) (expLG_cons (.c .v) (expLG_nil))))
 rw [hd10, spec_FirstOf_l1] at hH
 have hlt12 := drop_lt hd10
 refine AW.seq (AW.region ?_)
 refine AO.pu T ?_
 refine AO.nil (AW.seq ?_)
 refine AW.condT' (b := decide ((k7 : Int) < (x5.length : Int))) rfl (rngT hlt12) ?_
 refine AW.skip ?_
 refine AW.seq ?_
 refine AW.block ?_
 refine AW.seq (AW.region ?_)
 refine AO.val rfl rfl (ix_row_ok T rfl rfl rfl rfl rfl rfl (getI_drop hd10)) ?_
 refine AO.val rfl rfl (load_row_ok T rfl rfl rfl rfl (getI_get (getI_drop hd10)) rfl rfl rfl) ?_
 refine AO.step rfl (alloc_ok T rfl 9 rfl rfl rfl rfl rfl) ?_
 refine AO.se T [y8.skater, y8.total, y8.place] ?_
 refine AO.nil (AW.seq ?_)
 refine AW.region ?_
 iterate 4 refine AO.pu T ?_
 refine AO.nil ?_
 refine AW.cond (b := decide (y8.place ≤ n)) rfl (fun hc => ?_) (fun hc => ?_)
 replace hH := condT hc hH
 obtain ⟨u20, hx21, hH⟩ := bindE hH
 refine AW.region ?_
 refine AO.pu T ?_
 refine AO.pu T (d := .g [y8.skater, y8.total, y8.place]) ?_
 refine AO.step rfl (mk_map_ok T rfl 10 rfl rfl rfl rfl rfl (f := encRank) (l := [y8]) rfl rfl (fun _ => rfl) rfl rfl rfl rfl rfl) ?_
 refine AO.step rfl (app_rv_map T rfl 11 rfl rfl rfl rfl rfl (by decide) rfl rfl rfl rfl (fun _ => rfl) (needT (hx21)) rfl rfl) ?_
 refine AO.pu T ?_
 refine AO.nil ?_
 refine AW.region ?_
 refine AO.val rfl rfl (ar_ok rfl rfl rfl rfl (inI_succ hlt12 hb11)) ?_
 refine AO.pu T ?_
 refine AO.nil ?_
 refine ⟨(k7 + 1, (v18 ++ [y8])), ⟨Nat.succ_le_of_lt hlt12, (by rw [drop_succ_of hd10]; exact hH)⟩, (by have := hlt12; dsimp only; omega), ?_⟩
 exact Le.ct 11 8
 replace hH := condF hc hH
 refine AW.skip ?_
 refine AW.region ?_
 refine AO.val rfl rfl (ar_ok rfl rfl rfl rfl (inI_succ hlt12 hb11)) ?_
 refine AO.pu T ?_
 refine AO.nil ?_
 refine ⟨(k7 + 1, v18), ⟨Nat.succ_le_of_lt hlt12, (by rw [drop_succ_of hd10]; exact hH)⟩, (by have := hlt12; dsimp only; omega), ?_⟩
 exact Le.ct 0 0

def spec_DrawWorldTotal_p (fuel : Nat) (code : List Int) : Option (World × Int) :=
  (spec_l1Cur_world_p fuel (L1Cur.mk code 0 0)).bind fun x1 =>
  (spec_l1Cur_among_p (L1Cur.mk x1.1.code x1.1.at' x1.1.seed) ([0, 1, 2, 3, 4, 5, 6, 999, 1000] : List Int)).bind fun x3 =>
  some ((World.mk x1.2.seasons x1.2.weights), x3.2)
theorem spec_DrawWorldTotal_ok (fuel : Nat) (code : List Int) (r : (World × Int)) (hH : spec_DrawWorldTotal_p fuel code = some r) : SpecR Tryz.prog 20 [.s (List.map encInt_u8 code)] (.t [.g (encWorld r.1), .v (.int .i64 r.2)]) := by
 refine fn_ok T Tryz.func20 rfl (by decide) rfl ?_
 refine AW.seq (AW.region ?_)
 refine AO.step rfl (alloc_ok T rfl 1 rfl rfl rfl rfl rfl) ?_
 refine AO.pu T ?_
 refine AO.nil (AW.seq ?_)
 refine AW.region ?_
 refine AO.pu T ?_
 refine AO.pu T (d := .g [.s (List.map encInt_u8 code), (0 : Int), .v (.int .u64 0)]) ?_
 refine AO.step rfl (box_ok T rfl 2 rfl rfl rfl rfl) ?_
 refine AO.pu T ?_
 refine AO.nil (AW.seq ?_)
 obtain ⟨x1, hx2, hH⟩ := bindE hH
 obtain ⟨x3, hx4, hH⟩ := bindE hH
 refine AW.region ?_
 refine AO.pu T ?_
 refine AO.step rfl (callM_ok rfl 3 rfl rfl (es := [.pw (encL1Cur (L1Cur.mk code 0 0))]) (outs := [.pw (encL1Cur x1.1)]) (ids := [2]) (by exact expLG_cons (.c (.box rfl rfl)) (expLG_nil)) (by decide) (.inl (by rfl)) (by rfl) (spec_l1Cur_world_ok fuel _ _ (hx2)) rfl (by rfl) rfl) ?_
 refine AO.pu T ?_
 refine AO.step rfl (mk_map_ok T rfl 3 rfl rfl rfl rfl rfl (f := encInt) (l := ([0, 1, 2, 3, 4, 5, 6, 999, 1000] : List Int)) rfl rfl (fun _ => rfl) rfl rfl rfl rfl rfl) ?_
 refine AO.le (Le.freezeM 3 (g := encInt) rfl (fun y => .vs rfl)) ?_
 refine AO.step rfl (callM_ok rfl 4 rfl rfl (es := [.pw (encL1Cur (L1Cur.mk x1.1.code x1.1.at' x1.1.seed)), .s (([0, 1, 2, 3, 4, 5, 6, 999, 1000] : List Int).map encInt)]) (outs := [.pw (encL1Cur x3.1), .u]) (ids := [2]) (by exact expLG_cons (.c (.box rfl rfl)) (expLG_cons (.c .s) (expLG_nil))) (by decide) (.inl (by rfl)) (by rfl) (spec_l1Cur_among_ok _ _ _ (hx4)) rfl (by rfl) rfl) ?_
 refine AO.se T [.s (List.map encSeason x1.2.seasons), .s (List.map encInt x1.2.weights)] ?_
 refine AO.pu T ?_
 refine AO.nil (AW.ret ?_)
 have hR := someE hH; subst hR
 exact retQ.i [] rfl (.t (expLG_cons (.g (expLC_cons .s (expLC_cons .s (expLC_nil)))) (expLG_cons (.c .v) (expLG_nil))))

def spec_WorldTotal_p (fuel : Nat) (w : World) (skater : Int) : Option (Int × Bool) :=
  (spec_wlGood_p w).bind fun x1 =>
  cond (!x1)
    (some (0, false))
    ((spec_wlParts_p fuel w skater).bind fun x3 =>
    cond (!x3.2)
      (some (0, false))
      ((spec_poSum_p x3.1).bind fun x5 =>
      some (x5, true)))
theorem spec_WorldTotal_ok (fuel : Nat) (w : World) (skater : Int) (r : (Int × Bool)) (hH : spec_WorldTotal_p fuel w skater = some r) : SpecR Tryz.prog 21 [.g (encWorld w), skater] (.t [.v (.int .i64 r.1), .v (.bool r.2)]) := by
 refine fn_ok T Tryz.func21 rfl (by decide) rfl ?_
 refine AW.seq (AW.region ?_)
 refine AO.step rfl (box_ok T rfl 1 rfl rfl rfl rfl) ?_
 iterate 2 refine AO.pu T ?_
 refine AO.nil ?_
 iterate 2 refine AW.seq ?_
 obtain ⟨x1, hx2, hH⟩ := bindE hH
 refine AW.region ?_
 refine AO.pu T (d := .g [.s (List.map encSeason w.seasons), .s (List.map encInt w.weights)]) ?_
 refine AO.val rfl rfl (callV_ok rfl rfl rfl rfl (spec_wlGood_ok _ _ (hx2)) rfl) ?_
 refine AO.pu T ?_
 refine AO.nil ?_
 refine AW.cond (b := (!x1)) rfl (fun hc => ?_) (fun hc => ?_)
 replace hH := condT hc hH
 refine AW.seq (AW.region ?_)
 iterate 2 refine AO.pu T ?_
 refine AO.nil (AW.ret ?_)
 have hR := someE hH; subst hR
 exact retQ.i [] rfl (.t (expLG_cons (.c .v) (expLG_cons (.c .v) (expLG_nil))))
 replace hH := condF hc hH
 refine AW.skip ?_
 refine AW.seq ?_
 obtain ⟨x3, hx4, hH⟩ := bindE hH
 refine AW.region ?_
 refine AO.pu T (d := .g [.s (List.map encSeason w.seasons), .s (List.map encInt w.weights)]) ?_
 refine AO.pu T ?_
 refine AO.step rfl (call_ok rfl 2 rfl rfl rfl (spec_wlParts_ok fuel _ _ _ (hx4)) rfl rfl rfl) ?_
 iterate 5 refine AO.pu T ?_
 refine AO.nil ?_
 iterate 2 refine AW.seq ?_
 refine AW.region ?_
 iterate 2 refine AO.pu T ?_
 refine AO.nil ?_
 refine AW.cond (b := (!x3.2)) rfl (fun hc => ?_) (fun hc => ?_)
 replace hH := condT hc hH
 refine AW.seq (AW.region ?_)
 iterate 2 refine AO.pu T ?_
 refine AO.nil (AW.ret ?_)
 have hR := someE hH; subst hR
 exact retQ.i [] rfl (.t (expLG_cons (.c .v) (expLG_cons (.c .v) (expLG_nil))))
 replace hH := condF hc hH
 refine AW.skip ?_
 refine AW.seq ?_
 obtain ⟨x5, hx6, hH⟩ := bindE hH
 refine AW.region ?_
 refine AO.pu T ?_
 refine AO.val rfl rfl (callLV_ok rfl rfl rfl (es := [.s (List.map encInt x3.1)]) ⟨(.rowR rfl (.map fun y => .vs rfl)), trivial⟩ (spec_poSum_ok _ _ (hx6)) (zfree_v _) rfl) ?_
 iterate 2 refine AO.pu T ?_
 refine AO.nil (AW.ret ?_)
 have hR := someE hH; subst hR
 exact retQ.i [] rfl (.t (expLG_cons (.c .v) (expLG_cons (.c .v) (expLG_nil))))

def spec_wlPlace_l1 (skater : Int) : List Rank → Nat → Option Int
  | [], k1 =>
    some 0
  | y2 :: ys3, k1 =>
    cond (y2.skater == skater)
      (some y2.place)
      (spec_wlPlace_l1 skater ys3 (k1 + 1))
def spec_wlPlace_p (l : List Rank) (skater : Int) : Option Int :=
  spec_wlPlace_l1 skater l 0
theorem spec_wlPlace_ok (l : List Rank) (skater : Int) (r : Int) (hH : spec_wlPlace_p l skater = some r) : SpecR Tryz.prog 57 [.s (List.map encRank l), skater] (.v (.int .i64 r)) := by
 refine fn_ok T Tryz.func57 rfl (by decide) rfl ?_
 refine AW.seq (AW.region ?_)
 refine AO.pu T ?_
 refine AO.nil ?_
 iterate 2 refine AW.seq ?_
 refine AW.region ?_
 refine AO.pu T ?_
 refine AO.val rfl rfl (len_map_ok T rfl rfl rfl) ?_
 refine AO.pu T ?_
 refine AO.nil ?_
 refine AW.block ?_
 refine AW.loopS (fun s : Nat => (⟨[(1, skater), (7, .s (List.map encRank l)), (8, (l.length : Int)), (9, (s : Int))], [], 20, []⟩ : St)) (fun s => s ≤ l.length ∧ spec_wlPlace_l1 skater (l.drop s) s = some r) (fun s => l.length - s) 0 ⟨Nat.zero_le _, hH⟩ ?_ ?_
 exact Le.ct 0 0
 rintro k1 ⟨hk, hH⟩
 replace hH : spec_wlPlace_l1 skater (l.drop k1) k1 = some r := hH
 try dsimp only
 refine AW.boundM (t := 7) (l := l) rfl (fun hb5 => ?_)
 rcases hd4 : l.drop k1 with _ | ⟨y2, ys3⟩
 rw [hd4, spec_wlPlace_l1] at hH
 have hlt6 := drop_ge hd4
 refine AW.seq (AW.region ?_)
 refine AO.pu T ?_
 refine AO.nil (AW.seq ?_)
 refine AW.condF' (b := decide ((k1 : Int) < (l.length : Int))) rfl (rngF hlt6) ?_
 refine AW.exit ?_
 refine AW.seq (AW.region ?_)
 refine AO.pu T ?_
 refine AO.nil (AW.ret ?_)
 have hR := someE hH; subst hR
 exact retQ.i [] rfl (.c (.c .v))
 rw [hd4, spec_wlPlace_l1] at hH
 have hlt6 := drop_lt hd4
 refine AW.seq (AW.region ?_)
 refine AO.pu T ?_
 refine AO.nil (AW.seq ?_)
 refine AW.condT' (b := decide ((k1 : Int) < (l.length : Int))) rfl (rngT hlt6) ?_
 refine AW.skip ?_
 refine AW.seq ?_
 refine AW.block ?_
 refine AW.seq (AW.region ?_)
 refine AO.val rfl rfl (ix_map_ok T rfl rfl rfl rfl rfl (getI_drop hd4) rfl) ?_
 refine AO.pu T (d := .g [y2.skater, y2.total, y2.place]) ?_
 refine AO.step rfl (alloc_ok T rfl 3 rfl rfl rfl rfl rfl) ?_
 refine AO.se T [y2.skater, y2.total, y2.place] ?_
 refine AO.nil (AW.seq ?_)
 refine AW.region ?_
 iterate 4 refine AO.pu T ?_
 refine AO.nil ?_
 refine AW.cond (b := (y2.skater == skater)) rfl (fun hc => ?_) (fun hc => ?_)
 replace hH := condT hc hH
 refine AW.seq (AW.region ?_)
 iterate 3 refine AO.pu T ?_
 refine AO.nil (AW.ret ?_)
 have hR := someE hH; subst hR
 exact retQ.i [] rfl (.c (.c .v))
 replace hH := condF hc hH
 refine AW.skip ?_
 refine AW.region ?_
 refine AO.val rfl rfl (ar_ok rfl rfl rfl rfl (inI_succ hlt6 hb5)) ?_
 refine AO.pu T ?_
 refine AO.nil ?_
 refine ⟨k1 + 1, ⟨Nat.succ_le_of_lt hlt6, (by rw [drop_succ_of hd4]; exact hH)⟩, (by have := hlt6; dsimp only; omega), ?_⟩
 exact Le.ct 0 0

def spec_WorldPlace_p (fuel : Nat) (w : World) (skater : Int) : Option (Int × Bool) :=
  (spec_wlGood_p w).bind fun x1 =>
  (opt (!(!x1)) default (spec_wlList_p fuel w)).bind fun x3 =>
  (opt (!(!x1)) default (spec_wlPlace_p x3 skater)).bind fun x5 =>
  cond ((!x1) || (x5 == 0))
    (some (0, false))
    ((spec_wlList_p fuel w).bind fun x7 =>
    (spec_wlPlace_p x7 skater).bind fun x9 =>
    some (x9, true))
theorem spec_WorldPlace_ok (fuel : Nat) (w : World) (skater : Int) (r : (Int × Bool)) (hH : spec_WorldPlace_p fuel w skater = some r) : SpecR Tryz.prog 22 [.g (encWorld w), skater] (.t [.v (.int .i64 r.1), .v (.bool r.2)]) := by
 refine fn_ok T Tryz.func22 rfl (by decide) rfl ?_
 refine AW.seq (AW.region ?_)
 refine AO.step rfl (box_ok T rfl 1 rfl rfl rfl rfl) ?_
 iterate 2 refine AO.pu T ?_
 refine AO.nil ?_
 iterate 2 refine AW.seq ?_
 obtain ⟨x1, hx2, hH⟩ := bindE hH
 obtain ⟨x3, hx4, hH⟩ := bindE hH
 obtain ⟨x5, hx6, hH⟩ := bindE hH
 refine AW.region ?_
 refine AO.pu T (d := .g [.s (List.map encSeason w.seasons), .s (List.map encInt w.weights)]) ?_
 refine AO.val rfl rfl (callV_ok rfl rfl rfl rfl (spec_wlGood_ok _ _ (hx2)) rfl) ?_
 iterate 2 refine AO.pu T ?_
 refine AO.pureG T (d := .g [.s (List.map encSeason w.seasons), .s (List.map encInt w.weights)]) [] rfl trivial rfl rfl ?_
 refine AO.guard [10] rfl ⟨fun h => h, trivial⟩ (fun hg => callF_ok rfl rfl rfl rfl (spec_wlList_ok fuel _ _ (optT hx4 hg)) (.c (.c (.map fun y => .vs rfl)))) rfl ?_
 refine AO.pureG T [] rfl trivial rfl rfl ?_
 refine AO.guard [11, 12] rfl ⟨fun h => h, fun h => h, trivial⟩ (fun hg => callV_ok rfl rfl rfl rfl (spec_wlPlace_ok _ _ _ (optT hx6 hg)) rfl) rfl ?_
 refine AO.pureG T [13] rfl ⟨fun h => h, trivial⟩ rfl rfl ?_
 refine AO.val rfl rfl (pick_or rfl rfl rfl rfl) ?_
 refine AO.nil ?_
 refine AW.cond (b := ((!x1) || (x5 == 0))) rfl (fun hc => ?_) (fun hc => ?_)
 replace hH := condT hc hH
 refine AW.seq (AW.region ?_)
 iterate 2 refine AO.pu T ?_
 refine AO.nil (AW.ret ?_)
 have hR := someE hH; subst hR
 exact retQ.i [] rfl (.t (expLG_cons (.c .v) (expLG_cons (.c .v) (expLG_nil))))
 replace hH := condF hc hH
 refine AW.skip ?_
 refine AW.seq ?_
 obtain ⟨x7, hx8, hH⟩ := bindE hH
 obtain ⟨x9, hx10, hH⟩ := bindE hH
 refine AW.region ?_
 refine AO.pu T (d := .g [.s (List.map encSeason w.seasons), .s (List.map encInt w.weights)]) ?_
 refine AO.step rfl (call_ok rfl 2 rfl rfl rfl (spec_wlList_ok fuel _ _ (hx8)) rfl rfl rfl) ?_
 refine AO.pu T ?_
 refine AO.val rfl rfl (callLV_ok rfl rfl rfl (es := [.s (List.map encRank x7), skater]) ⟨(.rowR rfl (.map fun y => .vs rfl)), .free rfl, trivial⟩ (spec_wlPlace_ok _ _ _ (hx10)) (zfree_v _) rfl) ?_
 iterate 2 refine AO.pu T ?_
 refine AO.nil (AW.ret ?_)
 have hR := someE hH; subst hR
 exact retQ.i [] rfl (.t (expLG_cons (.c .v) (expLG_cons (.c .v) (expLG_nil))))

def laws_FnWorlds_l2 (x48 : (World × Int)) : List Rank → Nat → Option Bool
  | [], k72 =>
    some true
  | y73 :: ys74, k72 =>
    cond (decide (y73.place > x48.2))
      (some false)
      (laws_FnWorlds_l2 x48 ys74 (k72 + 1))
def laws_FnWorlds_l1 (more : List Int) (fuel : Nat) (x3 : World) (x7 : ((List Rank) × Bool)) : List Rank → Nat → Option Bool
  | [], k13 =>
    (spec_DrawFirstOf_p fuel more).bind fun x48 =>
    (impl_FirstOf_p fuel (World.mk x48.1.seasons x48.1.weights) x48.2).bind fun x50 =>
    (spec_FirstOf_p fuel (World.mk x48.1.seasons x48.1.weights) x48.2).bind fun x52 =>
    (spec_DrawWorldTotal_p fuel more).bind fun x54 =>
    (impl_WorldTotal_p fuel (World.mk x54.1.seasons x54.1.weights) x54.2).bind fun x56 =>
    (spec_WorldTotal_p fuel (World.mk x54.1.seasons x54.1.weights) x54.2).bind fun x58 =>
    (impl_WorldPlace_p fuel (World.mk x54.1.seasons x54.1.weights) x54.2).bind fun x60 =>
    (spec_WorldPlace_p fuel (World.mk x54.1.seasons x54.1.weights) x54.2).bind fun x62 =>
    (impl_SeasonParts_p fuel (World.mk x54.1.seasons x54.1.weights) x54.2).bind fun x64 =>
    (spec_SeasonParts_p fuel (World.mk x54.1.seasons x54.1.weights) x54.2).bind fun x66 =>
    (opt (!(!(x50.2 == x52.2))) default (laws_pSameRanks_p x50.1 x52.1)).bind fun x68 =>
    (opt (!((((((((!(x50.2 == x52.2)) || (!x68)) || (!(x56.2 == x58.2))) || (x56.1 != x58.1)) || (!(x60.2 == x62.2))) || (x60.1 != x62.1)) || (!(x60.2 == x56.2))) || (!(x64.2 == x66.2)))) default (laws_sameInts_p x64.1 x66.1)).bind fun x70 =>
    cond (((((((((!(x50.2 == x52.2)) || (!x68)) || (!(x56.2 == x58.2))) || (x56.1 != x58.1)) || (!(x60.2 == x62.2))) || (x60.1 != x62.1)) || (!(x60.2 == x56.2))) || (!(x64.2 == x66.2))) || (!x70))
      (some false)
      (laws_FnWorlds_l2 x48 x52.1 0)
  | y14 :: ys15, k13 =>
    (impl_SeasonParts_p fuel x3 y14.skater).bind fun x79 =>
    (spec_SeasonParts_p fuel x3 y14.skater).bind fun x81 =>
    (impl_WorldTotal_p fuel x3 y14.skater).bind fun x83 =>
    (impl_WorldPlace_p fuel x3 y14.skater).bind fun x85 =>
    (opt (!((!x79.2) || (!x81.2))) default (laws_sameInts_p x79.1 x81.1)).bind fun x87 =>
    (opt (!(((((!x79.2) || (!x81.2)) || (!x87)) || (!x83.2)) || (x83.1 != y14.total))) default (laws_pSum_p x81.1)).bind fun x89 =>
    (opt ((!((((((((!x79.2) || (!x81.2)) || (!x87)) || (!x83.2)) || (x83.1 != y14.total)) || (x89 != x83.1)) || (!x85.2)) || (x85.1 != y14.place))) && decide ((k13 : Int) > 0)) default (getI x7.1 (w64 ((k13 : Int) - 1)))).bind fun x91 =>
    cond (((((((((!x79.2) || (!x81.2)) || (!x87)) || (!x83.2)) || (x83.1 != y14.total)) || (x89 != x83.1)) || (!x85.2)) || (x85.1 != y14.place)) || (decide ((k13 : Int) > 0) && decide (x91.total < y14.total)))
      (some false)
      (laws_FnWorlds_l1 more fuel x3 x7 ys15 (k13 + 1))
def laws_FnWorlds_l3 (x93 : (World × Int)) : List Rank → Nat → Option Bool
  | [], k117 =>
    some true
  | y118 :: ys119, k117 =>
    cond (decide (y118.place > x93.2))
      (some false)
      (laws_FnWorlds_l3 x93 ys119 (k117 + 1))
def laws_FnWorlds_p (fuel : Nat) (code : List Int) (more : List Int) : Option Bool :=
  (laws_big_p code more).bind fun x1 =>
  cond x1
    (some true)
    ((spec_DrawWorldList_p fuel code).bind fun x3 =>
    (impl_WorldList_p fuel x3).bind fun x5 =>
    (spec_WorldList_p fuel x3).bind fun x7 =>
    (opt (!(!(x5.2 == x7.2))) default (laws_pSameRanks_p x5.1 x7.1)).bind fun x9 =>
    (opt (!((!(x5.2 == x7.2)) || (!x9))) default (impl_IsWorld_p fuel x3)).bind fun x11 =>
    cond (((!(x5.2 == x7.2)) || (!x9)) || (!(x11 == x5.2)))
      (some false)
      (cond x5.2
        (laws_FnWorlds_l1 more fuel x3 x7 x7.1 0)
        ((spec_DrawFirstOf_p fuel more).bind fun x93 =>
        (impl_FirstOf_p fuel (World.mk x93.1.seasons x93.1.weights) x93.2).bind fun x95 =>
        (spec_FirstOf_p fuel (World.mk x93.1.seasons x93.1.weights) x93.2).bind fun x97 =>
        (spec_DrawWorldTotal_p fuel more).bind fun x99 =>
        (impl_WorldTotal_p fuel (World.mk x99.1.seasons x99.1.weights) x99.2).bind fun x101 =>
        (spec_WorldTotal_p fuel (World.mk x99.1.seasons x99.1.weights) x99.2).bind fun x103 =>
        (impl_WorldPlace_p fuel (World.mk x99.1.seasons x99.1.weights) x99.2).bind fun x105 =>
        (spec_WorldPlace_p fuel (World.mk x99.1.seasons x99.1.weights) x99.2).bind fun x107 =>
        (impl_SeasonParts_p fuel (World.mk x99.1.seasons x99.1.weights) x99.2).bind fun x109 =>
        (spec_SeasonParts_p fuel (World.mk x99.1.seasons x99.1.weights) x99.2).bind fun x111 =>
        (opt (!(!(x95.2 == x97.2))) default (laws_pSameRanks_p x95.1 x97.1)).bind fun x113 =>
        (opt (!((((((((!(x95.2 == x97.2)) || (!x113)) || (!(x101.2 == x103.2))) || (x101.1 != x103.1)) || (!(x105.2 == x107.2))) || (x105.1 != x107.1)) || (!(x105.2 == x101.2))) || (!(x109.2 == x111.2)))) default (laws_sameInts_p x109.1 x111.1)).bind fun x115 =>
        cond (((((((((!(x95.2 == x97.2)) || (!x113)) || (!(x101.2 == x103.2))) || (x101.1 != x103.1)) || (!(x105.2 == x107.2))) || (x105.1 != x107.1)) || (!(x105.2 == x101.2))) || (!(x109.2 == x111.2))) || (!x115))
          (some false)
          (laws_FnWorlds_l3 x93 x97.1 0))))
theorem laws_FnWorlds_ok (fuel : Nat) (code : List Int) (more : List Int) (r : Bool) (hH : laws_FnWorlds_p fuel code more = some r) : SpecR Tryz.prog 3 [.s (List.map encInt_u8 code), .s (List.map encInt_u8 more)] (.v (.bool r)) := by
 refine fn_ok T Tryz.func3 rfl (by decide) rfl ?_
 refine AW.seq (AW.region ?_)
 refine AO.pu T ?_
 refine AO.nil ?_
 iterate 2 refine AW.seq ?_
 obtain ⟨x1, hx2, hH⟩ := bindE hH
 refine AW.region ?_
 iterate 2 refine AO.pu T ?_
 refine AO.val rfl rfl (callV_ok rfl rfl rfl rfl (laws_big_ok _ _ _ (hx2)) rfl) ?_
 refine AO.nil ?_
 refine AW.cond (b := x1) rfl (fun hc => ?_) (fun hc => ?_)
 replace hH := condT hc hH
 refine AW.seq (AW.region ?_)
 refine AO.pu T ?_
 refine AO.nil (AW.ret ?_)
 have hR := someE hH; subst hR
 exact retQ.i [] rfl (.c (.c .v))
 replace hH := condF hc hH
 refine AW.skip ?_
 refine AW.seq ?_
 obtain ⟨x3, hx4, hH⟩ := bindE hH
 refine AW.region ?_
 refine AO.pu T ?_
 refine AO.val rfl rfl (callV_ok rfl rfl rfl rfl (spec_DrawWorldList_ok fuel _ _ (hx4)) rfl) ?_
 refine AO.step rfl (alloc_ok T rfl 1 rfl rfl rfl rfl rfl) ?_
 refine AO.se T [.s (List.map encSeason x3.seasons), .s (List.map encInt x3.weights)] ?_
 refine AO.nil (AW.seq ?_)
 obtain ⟨x5, hx6, hH⟩ := bindE hH
 refine AW.region ?_
 refine AO.pu T (d := .g [.s (List.map encSeason x3.seasons), .s (List.map encInt x3.weights)]) ?_
 refine AO.step rfl (call_ok rfl 2 rfl rfl rfl (impl_WorldList_ok fuel _ _ (hx6)) rfl rfl rfl) ?_
 iterate 5 refine AO.pu T ?_
 refine AO.nil (AW.seq ?_)
 obtain ⟨x7, hx8, hH⟩ := bindE hH
 refine AW.region ?_
 refine AO.pu T (d := .g [.s (List.map encSeason x3.seasons), .s (List.map encInt x3.weights)]) ?_
 refine AO.step rfl (call_ok rfl 3 rfl rfl rfl (spec_WorldList_ok fuel _ _ (hx8)) rfl rfl rfl) ?_
 iterate 5 refine AO.pu T ?_
 refine AO.nil ?_
 iterate 2 refine AW.seq ?_
 obtain ⟨x9, hx10, hH⟩ := bindE hH
 obtain ⟨x11, hx12, hH⟩ := bindE hH
 refine AW.region ?_
 iterate 4 refine AO.pu T ?_
 iterate 2 refine AO.pureG T [] rfl trivial rfl rfl ?_
 refine AO.guard [61, 62] rfl ⟨fun h => h, fun h => h, trivial⟩ (fun hg => callLV_ok rfl rfl rfl (es := [.s (List.map encRank x5.1), .s (List.map encRank x7.1)]) ⟨(.rowR rfl (.map fun y => .vs rfl)), (.rowR rfl (.map fun y => .vs rfl)), trivial⟩ (laws_pSameRanks_ok _ _ _ (optT hx10 hg)) (zfree_v _) rfl) rfl ?_
 refine AO.pureG T [63] rfl ⟨fun h => h, trivial⟩ rfl rfl ?_
 refine AO.val rfl rfl (pick_or rfl rfl rfl rfl) ?_
 refine AO.pu T ?_
 refine AO.pureG T (d := .g [.s (List.map encSeason x3.seasons), .s (List.map encInt x3.weights)]) [] rfl trivial rfl rfl ?_
 refine AO.guard [67] rfl ⟨fun h => h, trivial⟩ (fun hg => callV_ok rfl rfl rfl rfl (impl_IsWorld_ok fuel _ _ (optT hx12 hg)) rfl) rfl ?_
 refine AO.pureG T [] rfl trivial rfl rfl ?_
 refine AO.pureG T [68, 69] rfl ⟨fun h => h, fun h => h, trivial⟩ rfl rfl ?_
 refine AO.val rfl rfl (pick_or rfl rfl rfl rfl) ?_
 refine AO.nil ?_
 refine AW.le (Le.ct 0 0 (σ' := (⟨[(1, .s (List.map encInt_u8 more)), (5, .p 1 0), (7, .v (.bool x5.2)), (8, .R 3), (71, .v (.bool (((!(x5.2 == x7.2)) || (!x9)) || (!(x11 == x5.2)))))], [(1, .box [.s (List.map encSeason x3.seasons), .s (List.map encInt x3.weights)]), (3, .row 3 (List.map encRank x7.1))], 276, []⟩ : St))) ?_
 refine AW.cond (b := (((!(x5.2 == x7.2)) || (!x9)) || (!(x11 == x5.2)))) rfl (fun hc => ?_) (fun hc => ?_)
 replace hH := condT hc hH
 refine AW.seq (AW.region ?_)
 refine AO.pu T ?_
 refine AO.nil (AW.ret ?_)
 have hR := someE hH; subst hR
 exact retQ.i [] rfl (.c (.c .v))
 replace hH := condF hc hH
 refine AW.skip ?_
 iterate 2 refine AW.seq ?_
 refine AW.region ?_
 refine AO.pu T ?_
 refine AO.nil ?_
 refine AW.cond (b := x5.2) rfl (fun hc => ?_) (fun hc => ?_)
 replace hH := condT hc hH
 refine AW.seq (AW.region ?_)
 refine AO.pu T ?_
 refine AO.val rfl rfl (len_row_ok T rfl rfl rfl rfl) ?_
 refine AO.pu T ?_
 refine AO.nil ?_
 refine AW.block ?_
 refine AW.loopS (fun s : Nat => (⟨[(1, .s (List.map encInt_u8 more)), (5, .p 1 0), (8, .R 3), (73, .R 3), (74, (x7.1.length : Int)), (75, (s : Int))], [(1, .box [.s (List.map encSeason x3.seasons), .s (List.map encInt x3.weights)]), (3, .row 3 (List.map encRank x7.1))], 276, []⟩ : St)) (fun s => s ≤ x7.1.length ∧ laws_FnWorlds_l1 more fuel x3 x7 (x7.1.drop s) s = some r) (fun s => x7.1.length - s) 0 ⟨Nat.zero_le _, hH⟩ ?_ ?_
 exact Le.ct 0 0
 rintro k13 ⟨hk, hH⟩
 replace hH : laws_FnWorlds_l1 more fuel x3 x7 (x7.1.drop k13) k13 = some r := hH
 try dsimp only
 refine AW.boundR (id := 3) (l := x7.1) rfl (fun hb17 => ?_)
 rcases hd16 : x7.1.drop k13 with _ | ⟨y14, ys15⟩
 rw [hd16, laws_FnWorlds_l1] at hH
 have hlt18 := drop_ge hd16
 refine AW.seq (AW.region ?_)
 refine AO.pu T ?_
 refine AO.nil (AW.seq ?_)
 refine AW.condF' (b := decide ((k13 : Int) < (x7.1.length : Int))) rfl (rngF hlt18) ?_
 refine AW.exit ?_
 refine AW.seq ?_
 obtain ⟨x48, hx49, hH⟩ := bindE hH
 refine AW.region ?_
 refine AO.pu T ?_
 refine AO.val rfl rfl (callV_ok rfl rfl rfl rfl (spec_DrawFirstOf_ok fuel _ _ (hx49)) rfl) ?_
 refine AO.pu T ?_
 refine AO.pu T (d := .g [.s (List.map encSeason x48.1.seasons), .s (List.map encInt x48.1.weights)]) ?_
 refine AO.pu T ?_
 refine AO.step rfl (alloc_ok T rfl 10 rfl rfl rfl rfl rfl) ?_
 refine AO.se T [.s (List.map encSeason x48.1.seasons), .s (List.map encInt x48.1.weights)] ?_
 refine AO.pu T ?_
 refine AO.nil (AW.seq ?_)
 obtain ⟨x50, hx51, hH⟩ := bindE hH
 refine AW.region ?_
 refine AO.pu T (d := .g [.s (List.map encSeason x48.1.seasons), .s (List.map encInt x48.1.weights)]) ?_
 refine AO.pu T ?_
 refine AO.step rfl (call_ok rfl 11 rfl rfl rfl (impl_FirstOf_ok fuel _ _ _ (hx51)) rfl rfl rfl) ?_
 iterate 5 refine AO.pu T ?_
 refine AO.nil (AW.seq ?_)
 obtain ⟨x52, hx53, hH⟩ := bindE hH
 refine AW.region ?_
 refine AO.pu T (d := .g [.s (List.map encSeason x48.1.seasons), .s (List.map encInt x48.1.weights)]) ?_
 refine AO.pu T ?_
 refine AO.step rfl (call_ok rfl 12 rfl rfl rfl (spec_FirstOf_ok fuel _ _ _ (hx53)) rfl rfl rfl) ?_
 iterate 5 refine AO.pu T ?_
 refine AO.nil ?_
 refine AW.le (Le.ct 0 0 (σ' := (⟨[(1, .s (List.map encInt_u8 more)), (21, x48.2), (22, .R 11), (23, .v (.bool x50.2)), (24, .R 12), (25, .v (.bool x52.2))], [(11, .row 3 (List.map encRank x50.1)), (12, .row 3 (List.map encRank x52.1))], 276, []⟩ : St))) ?_
 refine AW.seq ?_
 obtain ⟨x54, hx55, hH⟩ := bindE hH
 refine AW.region ?_
 refine AO.pu T ?_
 refine AO.val rfl rfl (callV_ok rfl rfl rfl rfl (spec_DrawWorldTotal_ok fuel _ _ (hx55)) rfl) ?_
 refine AO.pu T ?_
 refine AO.pu T (d := .g [.s (List.map encSeason x54.1.seasons), .s (List.map encInt x54.1.weights)]) ?_
 refine AO.pu T ?_
 refine AO.step rfl (alloc_ok T rfl 13 rfl rfl rfl rfl rfl) ?_
 refine AO.se T [.s (List.map encSeason x54.1.seasons), .s (List.map encInt x54.1.weights)] ?_
 refine AO.pu T ?_
 refine AO.nil (AW.seq ?_)
 obtain ⟨x56, hx57, hH⟩ := bindE hH
 refine AW.region ?_
 refine AO.pu T (d := .g [.s (List.map encSeason x54.1.seasons), .s (List.map encInt x54.1.weights)]) ?_
 refine AO.pu T ?_
 refine AO.val rfl rfl (callV_ok rfl rfl rfl rfl (impl_WorldTotal_ok fuel _ _ _ (hx57)) rfl) ?_
 iterate 5 refine AO.pu T ?_
 refine AO.nil (AW.seq ?_)
 obtain ⟨x58, hx59, hH⟩ := bindE hH
 refine AW.region ?_
 refine AO.pu T (d := .g [.s (List.map encSeason x54.1.seasons), .s (List.map encInt x54.1.weights)]) ?_
 refine AO.pu T ?_
 refine AO.val rfl rfl (callV_ok rfl rfl rfl rfl (spec_WorldTotal_ok fuel _ _ _ (hx59)) rfl) ?_
 iterate 5 refine AO.pu T ?_
 refine AO.nil ?_
 refine AW.le (Le.ct 0 0 (σ' := (⟨[(21, x48.2), (22, .R 11), (23, .v (.bool x50.2)), (24, .R 12), (25, .v (.bool x52.2)), (26, .p 13 0), (27, x54.2), (28, x56.1), (29, .v (.bool x56.2)), (30, x58.1), (31, .v (.bool x58.2))], [(11, .row 3 (List.map encRank x50.1)), (12, .row 3 (List.map encRank x52.1)), (13, .box [.s (List.map encSeason x54.1.seasons), .s (List.map encInt x54.1.weights)])], 276, []⟩ : St))) ?_
 refine AW.seq ?_
 obtain ⟨x60, hx61, hH⟩ := bindE hH
 refine AW.region ?_
 refine AO.pu T (d := .g [.s (List.map encSeason x54.1.seasons), .s (List.map encInt x54.1.weights)]) ?_
 refine AO.pu T ?_
 refine AO.val rfl rfl (callV_ok rfl rfl rfl rfl (impl_WorldPlace_ok fuel _ _ _ (hx61)) rfl) ?_
 iterate 5 refine AO.pu T ?_
 refine AO.nil (AW.seq ?_)
 obtain ⟨x62, hx63, hH⟩ := bindE hH
 refine AW.region ?_
 refine AO.pu T (d := .g [.s (List.map encSeason x54.1.seasons), .s (List.map encInt x54.1.weights)]) ?_
 refine AO.pu T ?_
 refine AO.val rfl rfl (callV_ok rfl rfl rfl rfl (spec_WorldPlace_ok fuel _ _ _ (hx63)) rfl) ?_
 iterate 5 refine AO.pu T ?_
 refine AO.nil (AW.seq ?_)
 obtain ⟨x64, hx65, hH⟩ := bindE hH
 refine AW.region ?_
 refine AO.pu T (d := .g [.s (List.map encSeason x54.1.seasons), .s (List.map encInt x54.1.weights)]) ?_
 refine AO.pu T ?_
 refine AO.step rfl (call_ok rfl 14 rfl rfl rfl (impl_SeasonParts_ok fuel _ _ _ (hx65)) rfl rfl rfl) ?_
 iterate 5 refine AO.pu T ?_
 refine AO.nil ?_
 refine AW.le (Le.ct 0 0 (σ' := (⟨[(21, x48.2), (22, .R 11), (23, .v (.bool x50.2)), (24, .R 12), (25, .v (.bool x52.2)), (26, .p 13 0), (27, x54.2), (28, x56.1), (29, .v (.bool x56.2)), (30, x58.1), (31, .v (.bool x58.2)), (32, x60.1), (33, .v (.bool x60.2)), (34, x62.1), (35, .v (.bool x62.2)), (36, .R 14), (37, .v (.bool x64.2))], [(11, .row 3 (List.map encRank x50.1)), (12, .row 3 (List.map encRank x52.1)), (13, .box [.s (List.map encSeason x54.1.seasons), .s (List.map encInt x54.1.weights)]), (14, .row 1 (List.map encInt x64.1))], 276, []⟩ : St))) ?_
 refine AW.seq ?_
 obtain ⟨x66, hx67, hH⟩ := bindE hH
 refine AW.region ?_
 refine AO.pu T (d := .g [.s (List.map encSeason x54.1.seasons), .s (List.map encInt x54.1.weights)]) ?_
 refine AO.pu T ?_
 refine AO.step rfl (call_ok rfl 15 rfl rfl rfl (spec_SeasonParts_ok fuel _ _ _ (hx67)) rfl rfl rfl) ?_
 iterate 5 refine AO.pu T ?_
 refine AO.nil ?_
 iterate 2 refine AW.seq ?_
 obtain ⟨x68, hx69, hH⟩ := bindE hH
 obtain ⟨x70, hx71, hH⟩ := bindE hH
 refine AW.region ?_
 iterate 4 refine AO.pu T ?_
 iterate 2 refine AO.pureG T [] rfl trivial rfl rfl ?_
 refine AO.guard [224, 225] rfl ⟨fun h => h, fun h => h, trivial⟩ (fun hg => callLV_ok rfl rfl rfl (es := [.s (List.map encRank x50.1), .s (List.map encRank x52.1)]) ⟨(.rowR rfl (.map fun y => .vs rfl)), (.rowR rfl (.map fun y => .vs rfl)), trivial⟩ (laws_pSameRanks_ok _ _ _ (optT hx69 hg)) (zfree_v _) rfl) rfl ?_
 refine AO.pureG T [226] rfl ⟨fun h => h, trivial⟩ rfl rfl ?_
 refine AO.val rfl rfl (pick_or rfl rfl rfl rfl) ?_
 refine AO.pu T ?_
 iterate 2 refine AO.pureG T [] rfl trivial rfl rfl ?_
 refine AO.pureG T [230, 231] rfl ⟨fun h => h, fun h => h, trivial⟩ rfl rfl ?_
 refine AO.val rfl rfl (pick_or rfl rfl rfl rfl) ?_
 refine AO.pu T ?_
 iterate 2 refine AO.pureG T [] rfl trivial rfl rfl ?_
 refine AO.pureG T [235, 236] rfl ⟨fun h => h, fun h => h, trivial⟩ rfl rfl ?_
 refine AO.val rfl rfl (pick_or rfl rfl rfl rfl) ?_
 refine AO.pu T ?_
 iterate 2 refine AO.pureG T [] rfl trivial rfl rfl ?_
 refine AO.pureG T [240, 241] rfl ⟨fun h => h, fun h => h, trivial⟩ rfl rfl ?_
 refine AO.val rfl rfl (pick_or rfl rfl rfl rfl) ?_
 refine AO.pu T ?_
 iterate 2 refine AO.pureG T [] rfl trivial rfl rfl ?_
 refine AO.pureG T [245, 246] rfl ⟨fun h => h, fun h => h, trivial⟩ rfl rfl ?_
 refine AO.val rfl rfl (pick_or rfl rfl rfl rfl) ?_
 refine AO.pu T ?_
 iterate 2 refine AO.pureG T [] rfl trivial rfl rfl ?_
 refine AO.pureG T [250, 251] rfl ⟨fun h => h, fun h => h, trivial⟩ rfl rfl ?_
 refine AO.val rfl rfl (pick_or rfl rfl rfl rfl) ?_
 refine AO.pu T ?_
 iterate 2 refine AO.pureG T [] rfl trivial rfl rfl ?_
 refine AO.pureG T [255, 256] rfl ⟨fun h => h, fun h => h, trivial⟩ rfl rfl ?_
 refine AO.val rfl rfl (pick_or rfl rfl rfl rfl) ?_
 refine AO.pu T ?_
 iterate 2 refine AO.pureG T [] rfl trivial rfl rfl ?_
 refine AO.guard [260, 261] rfl ⟨fun h => h, fun h => h, trivial⟩ (fun hg => callLV_ok rfl rfl rfl (es := [.s (List.map encInt x64.1), .s (List.map encInt x66.1)]) ⟨(.rowR rfl (.map fun y => .vs rfl)), (.rowR rfl (.map fun y => .vs rfl)), trivial⟩ (laws_sameInts_ok _ _ _ (optT hx71 hg)) (zfree_v _) rfl) rfl ?_
 refine AO.pureG T [262] rfl ⟨fun h => h, trivial⟩ rfl rfl ?_
 refine AO.val rfl rfl (pick_or rfl rfl rfl rfl) ?_
 refine AO.nil ?_
 refine AW.le (Le.ct 0 0 (σ' := (⟨[(21, x48.2), (24, .R 12), (264, .v (.bool (((((((((!(x50.2 == x52.2)) || (!x68)) || (!(x56.2 == x58.2))) || (x56.1 != x58.1)) || (!(x60.2 == x62.2))) || (x60.1 != x62.1)) || (!(x60.2 == x56.2))) || (!(x64.2 == x66.2))) || (!x70))))], [(12, .row 3 (List.map encRank x52.1))], 276, []⟩ : St))) ?_
 refine AW.cond (b := (((((((((!(x50.2 == x52.2)) || (!x68)) || (!(x56.2 == x58.2))) || (x56.1 != x58.1)) || (!(x60.2 == x62.2))) || (x60.1 != x62.1)) || (!(x60.2 == x56.2))) || (!(x64.2 == x66.2))) || (!x70))) rfl (fun hc => ?_) (fun hc => ?_)
 replace hH := condT hc hH
 refine AW.seq (AW.region ?_)
 refine AO.pu T ?_
 refine AO.nil (AW.ret ?_)
 have hR := someE hH; subst hR
 exact retQ.i [] rfl (.c (.c .v))
 replace hH := condF hc hH
 refine AW.skip ?_
 iterate 2 refine AW.seq ?_
 refine AW.region ?_
 refine AO.pu T ?_
 refine AO.val rfl rfl (len_row_ok T rfl rfl rfl rfl) ?_
 refine AO.pu T ?_
 refine AO.nil ?_
 refine AW.block ?_
 refine AW.loopS (fun s : Nat => (⟨[(21, x48.2), (265, .R 12), (266, (x52.1.length : Int)), (267, (s : Int))], [(12, .row 3 (List.map encRank x52.1))], 276, []⟩ : St)) (fun s => s ≤ x52.1.length ∧ laws_FnWorlds_l2 x48 (x52.1.drop s) s = some r) (fun s => x52.1.length - s) 0 ⟨Nat.zero_le _, hH⟩ ?_ ?_
 exact Le.ct 0 0
 rintro k72 ⟨hk, hH⟩
 replace hH : laws_FnWorlds_l2 x48 (x52.1.drop k72) k72 = some r := hH
 try dsimp only
 refine AW.boundR (id := 12) (l := x52.1) rfl (fun hb76 => ?_)
 rcases hd75 : x52.1.drop k72 with _ | ⟨y73, ys74⟩
 rw [hd75, laws_FnWorlds_l2] at hH
 have hlt77 := drop_ge hd75
 refine AW.seq (AW.region ?_)
 refine AO.pu T ?_
 refine AO.nil (AW.seq ?_)
 refine AW.condF' (b := decide ((k72 : Int) < (x52.1.length : Int))) rfl (rngF hlt77) ?_
 refine AW.exit ?_
 refine AW.seq (AW.region ?_)
 refine AO.pu T ?_
 refine AO.nil (AW.ret ?_)
 have hR := someE hH; subst hR
 exact retQ.i [] rfl (.c (.c .v))
 rw [hd75, laws_FnWorlds_l2] at hH
 have hlt77 := drop_lt hd75
 refine AW.seq (AW.region ?_)
 refine AO.pu T ?_
 refine AO.nil (AW.seq ?_)
 refine AW.condT' (b := decide ((k72 : Int) < (x52.1.length : Int))) rfl (rngT hlt77) ?_
 refine AW.skip ?_
 refine AW.seq ?_
 refine AW.block ?_
 refine AW.seq (AW.region ?_)
 refine AO.val rfl rfl (ix_row_ok T rfl rfl rfl rfl rfl rfl (getI_drop hd75)) ?_
 refine AO.val rfl rfl (load_row_ok T rfl rfl rfl rfl (getI_get (getI_drop hd75)) rfl rfl rfl) ?_
 refine AO.step rfl (alloc_ok T rfl 18 rfl rfl rfl rfl rfl) ?_
 refine AO.se T [y73.skater, y73.total, y73.place] ?_
 refine AO.nil (AW.seq ?_)
 refine AW.region ?_
 iterate 4 refine AO.pu T ?_
 refine AO.nil ?_
 refine AW.cond (b := decide (y73.place > x48.2)) rfl (fun hc => ?_) (fun hc => ?_)
 replace hH := condT hc hH
 refine AW.seq (AW.region ?_)
 refine AO.pu T ?_
 refine AO.nil (AW.ret ?_)
 have hR := someE hH; subst hR
 exact retQ.i [] rfl (.c (.c .v))
 replace hH := condF hc hH
 refine AW.skip ?_
 refine AW.region ?_
 refine AO.val rfl rfl (ar_ok rfl rfl rfl rfl (inI_succ hlt77 hb76)) ?_
 refine AO.pu T ?_
 refine AO.nil ?_
 refine ⟨k72 + 1, ⟨Nat.succ_le_of_lt hlt77, (by rw [drop_succ_of hd75]; exact hH)⟩, (by have := hlt77; dsimp only; omega), ?_⟩
 exact Le.ct 0 0
 rw [hd16, laws_FnWorlds_l1] at hH
 have hlt18 := drop_lt hd16
 refine AW.seq (AW.region ?_)
 refine AO.pu T ?_
 refine AO.nil (AW.seq ?_)
 refine AW.condT' (b := decide ((k13 : Int) < (x7.1.length : Int))) rfl (rngT hlt18) ?_
 refine AW.skip ?_
 refine AW.seq ?_
 refine AW.block ?_
 refine AW.seq (AW.region ?_)
 refine AO.pu T ?_
 refine AO.val rfl rfl (ix_row_ok T rfl rfl rfl rfl rfl rfl (getI_drop hd16)) ?_
 refine AO.val rfl rfl (load_row_ok T rfl rfl rfl rfl (getI_get (getI_drop hd16)) rfl rfl rfl) ?_
 refine AO.step rfl (alloc_ok T rfl 19 rfl rfl rfl rfl rfl) ?_
 refine AO.pu T ?_
 refine AO.se T [y14.skater, y14.total, y14.place] ?_
 refine AO.nil (AW.seq ?_)
 obtain ⟨x79, hx80, hH⟩ := bindE hH
 refine AW.region ?_
 refine AO.pu T (d := .g [.s (List.map encSeason x3.seasons), .s (List.map encInt x3.weights)]) ?_
 iterate 2 refine AO.pu T ?_
 refine AO.step rfl (call_ok rfl 20 rfl rfl rfl (impl_SeasonParts_ok fuel _ _ _ (hx80)) rfl rfl rfl) ?_
 iterate 5 refine AO.pu T ?_
 refine AO.nil (AW.seq ?_)
 obtain ⟨x81, hx82, hH⟩ := bindE hH
 refine AW.region ?_
 refine AO.pu T (d := .g [.s (List.map encSeason x3.seasons), .s (List.map encInt x3.weights)]) ?_
 iterate 2 refine AO.pu T ?_
 refine AO.step rfl (call_ok rfl 21 rfl rfl rfl (spec_SeasonParts_ok fuel _ _ _ (hx82)) rfl rfl rfl) ?_
 iterate 5 refine AO.pu T ?_
 refine AO.nil ?_
 refine AW.le (Le.ct 0 0 (σ' := (⟨[(1, .s (List.map encInt_u8 more)), (5, .p 1 0), (8, .R 3), (10, (k13 : Int)), (11, .p 19 0), (12, .R 20), (13, .v (.bool x79.2)), (14, .R 21), (15, .v (.bool x81.2)), (73, .R 3), (74, (x7.1.length : Int)), (75, (k13 : Int))], [(1, .box [.s (List.map encSeason x3.seasons), .s (List.map encInt x3.weights)]), (3, .row 3 (List.map encRank x7.1)), (19, .box [y14.skater, y14.total, y14.place]), (20, .row 1 (List.map encInt x79.1)), (21, .row 1 (List.map encInt x81.1))], 276, []⟩ : St))) ?_
 refine AW.seq ?_
 obtain ⟨x83, hx84, hH⟩ := bindE hH
 refine AW.region ?_
 refine AO.pu T (d := .g [.s (List.map encSeason x3.seasons), .s (List.map encInt x3.weights)]) ?_
 iterate 2 refine AO.pu T ?_
 refine AO.val rfl rfl (callV_ok rfl rfl rfl rfl (impl_WorldTotal_ok fuel _ _ _ (hx84)) rfl) ?_
 iterate 5 refine AO.pu T ?_
 refine AO.nil (AW.seq ?_)
 obtain ⟨x85, hx86, hH⟩ := bindE hH
 refine AW.region ?_
 refine AO.pu T (d := .g [.s (List.map encSeason x3.seasons), .s (List.map encInt x3.weights)]) ?_
 iterate 2 refine AO.pu T ?_
 refine AO.val rfl rfl (callV_ok rfl rfl rfl rfl (impl_WorldPlace_ok fuel _ _ _ (hx86)) rfl) ?_
 iterate 5 refine AO.pu T ?_
 refine AO.nil (AW.seq ?_)
 obtain ⟨x87, hx88, hH⟩ := bindE hH
 obtain ⟨x89, hx90, hH⟩ := bindE hH
 obtain ⟨x91, hx92, hH⟩ := bindE hH
 refine AW.drawn 50 22 [] mix (by kernel_rfl) rfl ?_
 iterate 3 refine AD.pure T rfl rfl rfl ?_
 refine AD.pureG T [] rfl trivial rfl rfl ?_
 refine AD.pureG T [111] rfl ⟨fun h => h, trivial⟩ rfl rfl ?_
 refine AD.val rfl rfl (pick_or rfl rfl rfl rfl) ?_
 refine AD.pure T rfl rfl rfl ?_
 iterate 2 refine AD.pureG T [] rfl trivial rfl rfl ?_
 refine AD.guard [115, 116] rfl ⟨fun h => h, fun h => h, trivial⟩ (fun hg => callLV_ok rfl rfl rfl (es := [.s (List.map encInt x79.1), .s (List.map encInt x81.1)]) ⟨(.rowR rfl (.map fun y => .vs rfl)), (.rowR rfl (.map fun y => .vs rfl)), trivial⟩ (laws_sameInts_ok _ _ _ (optT hx88 hg)) (zfree_v _) rfl) rfl ?_
 refine AD.pureG T [117] rfl ⟨fun h => h, trivial⟩ rfl rfl ?_
 refine AD.val rfl rfl (pick_or rfl rfl rfl rfl) ?_
 refine AD.pure T rfl rfl rfl ?_
 refine AD.pureG T [] rfl trivial rfl rfl ?_
 refine AD.pureG T [121] rfl ⟨fun h => h, trivial⟩ rfl rfl ?_
 refine AD.val rfl rfl (pick_or rfl rfl rfl rfl) ?_
 refine AD.pure T rfl rfl rfl ?_
 iterate 2 refine AD.pureG T [] rfl trivial rfl rfl ?_
 refine AD.pureG T [126] rfl ⟨fun h => h, trivial⟩ rfl rfl ?_
 refine AD.pureG T [125, 127] rfl ⟨fun h => h, fun h => h, trivial⟩ rfl rfl ?_
 refine AD.val rfl rfl (pick_or rfl rfl rfl rfl) ?_
 refine AD.pure T rfl rfl rfl ?_
 refine AD.pureG T [] rfl trivial rfl rfl ?_
 refine AD.guard [131] rfl ⟨fun h => h, trivial⟩ (fun hg => callLV_ok rfl rfl rfl (es := [.s (List.map encInt x81.1)]) ⟨(.rowR rfl (.map fun y => .vs rfl)), trivial⟩ (laws_pSum_ok _ _ (optT hx90 hg)) (zfree_v _) rfl) rfl ?_
 refine AD.pureG T [] rfl trivial rfl rfl ?_
 refine AD.pureG T [132, 133] rfl ⟨fun h => h, fun h => h, trivial⟩ rfl rfl ?_
 refine AD.val rfl rfl (pick_or rfl rfl rfl rfl) ?_
 refine AD.pure T rfl rfl rfl ?_
 refine AD.pureG T [] rfl trivial rfl rfl ?_
 refine AD.pureG T [137] rfl ⟨fun h => h, trivial⟩ rfl rfl ?_
 refine AD.val rfl rfl (pick_or rfl rfl rfl rfl) ?_
 refine AD.pure T rfl rfl rfl ?_
 iterate 2 refine AD.pureG T [] rfl trivial rfl rfl ?_
 refine AD.pureG T [142] rfl ⟨fun h => h, trivial⟩ rfl rfl ?_
 refine AD.pureG T [141, 143] rfl ⟨fun h => h, fun h => h, trivial⟩ rfl rfl ?_
 refine AD.val rfl rfl (pick_or rfl rfl rfl rfl) ?_
 refine AD.pure T rfl rfl rfl ?_
 refine AD.pureG T [] rfl trivial rfl rfl ?_
 refine AD.pureG T [147] rfl ⟨fun h => h, trivial⟩ rfl rfl ?_
 refine AD.pureG T [148] rfl ⟨fun h => h, trivial⟩ rfl rfl ?_
 iterate 2 refine AD.pureG T [] rfl trivial rfl rfl ?_
 refine AD.guard [151] rfl ⟨fun h => h, trivial⟩ (fun hg => arw_ok rfl rfl rfl rfl) rfl ?_
 refine AD.guard [150, 152] rfl ⟨fun h => h, fun h => h, trivial⟩ (fun hg => ix_row_ok T rfl rfl rfl rfl rfl rfl (optT hx92 hg)) rfl ?_
 refine AD.pureG T [153] rfl ⟨fun h => h, trivial⟩ rfl rfl ?_
 refine AD.guard [154] rfl ⟨fun h => h, trivial⟩ (fun hg => load_row_ok T rfl rfl rfl rfl (getI_get (optT hx92 hg)) rfl rfl rfl) rfl ?_
 refine AD.pureG T [] rfl trivial rfl rfl ?_
 refine AD.pureG T [156] rfl ⟨fun h => h, trivial⟩ rfl rfl ?_
 refine AD.nil ?_
 refine AO.pureG T [155, 157] rfl ⟨fun h => h, fun h => h, trivial⟩ rfl rfl ?_
 refine AO.guard [149] rfl ⟨fun h => h, trivial⟩ (fun hg => pick_and rfl rfl rfl (by rw [hg]; exact Bool.true_and _)) rfl ?_
 refine AO.val rfl rfl (pick_or rfl rfl rfl rfl) ?_
 refine AO.nil ?_
 refine AW.le (Le.ct 0 0 (σ' := (⟨[(1, .s (List.map encInt_u8 more)), (5, .p 1 0), (8, .R 3), (73, .R 3), (74, (x7.1.length : Int)), (75, (k13 : Int)), (160, .v (.bool (((((((((!x79.2) || (!x81.2)) || (!x87)) || (!x83.2)) || (x83.1 != y14.total)) || (x89 != x83.1)) || (!x85.2)) || (x85.1 != y14.place)) || (decide ((k13 : Int) > 0) && decide (x91.total < y14.total)))))], [(1, .box [.s (List.map encSeason x3.seasons), .s (List.map encInt x3.weights)]), (3, .row 3 (List.map encRank x7.1))], 276, []⟩ : St))) ?_
 refine AW.cond (b := (((((((((!x79.2) || (!x81.2)) || (!x87)) || (!x83.2)) || (x83.1 != y14.total)) || (x89 != x83.1)) || (!x85.2)) || (x85.1 != y14.place)) || (decide ((k13 : Int) > 0) && decide (x91.total < y14.total)))) rfl (fun hc => ?_) (fun hc => ?_)
 replace hH := condT hc hH
 refine AW.seq (AW.region ?_)
 refine AO.pu T ?_
 refine AO.nil (AW.ret ?_)
 have hR := someE hH; subst hR
 exact retQ.i [] rfl (.c (.c .v))
 replace hH := condF hc hH
 refine AW.skip ?_
 refine AW.region ?_
 refine AO.val rfl rfl (ar_ok rfl rfl rfl rfl (inI_succ hlt18 hb17)) ?_
 refine AO.pu T ?_
 refine AO.nil ?_
 refine ⟨k13 + 1, ⟨Nat.succ_le_of_lt hlt18, (by rw [drop_succ_of hd16]; exact hH)⟩, (by have := hlt18; dsimp only; omega), ?_⟩
 exact Le.ct 0 0
 replace hH := condF hc hH
 refine AW.skip ?_
 refine AW.seq ?_
 obtain ⟨x93, hx94, hH⟩ := bindE hH
 refine AW.region ?_
 refine AO.pu T ?_
 refine AO.val rfl rfl (callV_ok rfl rfl rfl rfl (spec_DrawFirstOf_ok fuel _ _ (hx94)) rfl) ?_
 refine AO.pu T ?_
 refine AO.pu T (d := .g [.s (List.map encSeason x93.1.seasons), .s (List.map encInt x93.1.weights)]) ?_
 refine AO.pu T ?_
 refine AO.step rfl (alloc_ok T rfl 22 rfl rfl rfl rfl rfl) ?_
 refine AO.se T [.s (List.map encSeason x93.1.seasons), .s (List.map encInt x93.1.weights)] ?_
 refine AO.pu T ?_
 refine AO.nil (AW.seq ?_)
 obtain ⟨x95, hx96, hH⟩ := bindE hH
 refine AW.region ?_
 refine AO.pu T (d := .g [.s (List.map encSeason x93.1.seasons), .s (List.map encInt x93.1.weights)]) ?_
 refine AO.pu T ?_
 refine AO.step rfl (call_ok rfl 23 rfl rfl rfl (impl_FirstOf_ok fuel _ _ _ (hx96)) rfl rfl rfl) ?_
 iterate 5 refine AO.pu T ?_
 refine AO.nil (AW.seq ?_)
 obtain ⟨x97, hx98, hH⟩ := bindE hH
 refine AW.region ?_
 refine AO.pu T (d := .g [.s (List.map encSeason x93.1.seasons), .s (List.map encInt x93.1.weights)]) ?_
 refine AO.pu T ?_
 refine AO.step rfl (call_ok rfl 24 rfl rfl rfl (spec_FirstOf_ok fuel _ _ _ (hx98)) rfl rfl rfl) ?_
 iterate 5 refine AO.pu T ?_
 refine AO.nil ?_
 refine AW.le (Le.ct 0 0 (σ' := (⟨[(1, .s (List.map encInt_u8 more)), (21, x93.2), (22, .R 23), (23, .v (.bool x95.2)), (24, .R 24), (25, .v (.bool x97.2))], [(23, .row 3 (List.map encRank x95.1)), (24, .row 3 (List.map encRank x97.1))], 276, []⟩ : St))) ?_
 refine AW.seq ?_
 obtain ⟨x99, hx100, hH⟩ := bindE hH
 refine AW.region ?_
 refine AO.pu T ?_
 refine AO.val rfl rfl (callV_ok rfl rfl rfl rfl (spec_DrawWorldTotal_ok fuel _ _ (hx100)) rfl) ?_
 refine AO.pu T ?_
 refine AO.pu T (d := .g [.s (List.map encSeason x99.1.seasons), .s (List.map encInt x99.1.weights)]) ?_
 refine AO.pu T ?_
 refine AO.step rfl (alloc_ok T rfl 25 rfl rfl rfl rfl rfl) ?_
 refine AO.se T [.s (List.map encSeason x99.1.seasons), .s (List.map encInt x99.1.weights)] ?_
 refine AO.pu T ?_
 refine AO.nil (AW.seq ?_)
 obtain ⟨x101, hx102, hH⟩ := bindE hH
 refine AW.region ?_
 refine AO.pu T (d := .g [.s (List.map encSeason x99.1.seasons), .s (List.map encInt x99.1.weights)]) ?_
 refine AO.pu T ?_
 refine AO.val rfl rfl (callV_ok rfl rfl rfl rfl (impl_WorldTotal_ok fuel _ _ _ (hx102)) rfl) ?_
 iterate 5 refine AO.pu T ?_
 refine AO.nil (AW.seq ?_)
 obtain ⟨x103, hx104, hH⟩ := bindE hH
 refine AW.region ?_
 refine AO.pu T (d := .g [.s (List.map encSeason x99.1.seasons), .s (List.map encInt x99.1.weights)]) ?_
 refine AO.pu T ?_
 refine AO.val rfl rfl (callV_ok rfl rfl rfl rfl (spec_WorldTotal_ok fuel _ _ _ (hx104)) rfl) ?_
 iterate 5 refine AO.pu T ?_
 refine AO.nil ?_
 refine AW.le (Le.ct 0 0 (σ' := (⟨[(21, x93.2), (22, .R 23), (23, .v (.bool x95.2)), (24, .R 24), (25, .v (.bool x97.2)), (26, .p 25 0), (27, x99.2), (28, x101.1), (29, .v (.bool x101.2)), (30, x103.1), (31, .v (.bool x103.2))], [(23, .row 3 (List.map encRank x95.1)), (24, .row 3 (List.map encRank x97.1)), (25, .box [.s (List.map encSeason x99.1.seasons), .s (List.map encInt x99.1.weights)])], 276, []⟩ : St))) ?_
 refine AW.seq ?_
 obtain ⟨x105, hx106, hH⟩ := bindE hH
 refine AW.region ?_
 refine AO.pu T (d := .g [.s (List.map encSeason x99.1.seasons), .s (List.map encInt x99.1.weights)]) ?_
 refine AO.pu T ?_
 refine AO.val rfl rfl (callV_ok rfl rfl rfl rfl (impl_WorldPlace_ok fuel _ _ _ (hx106)) rfl) ?_
 iterate 5 refine AO.pu T ?_
 refine AO.nil (AW.seq ?_)
 obtain ⟨x107, hx108, hH⟩ := bindE hH
 refine AW.region ?_
 refine AO.pu T (d := .g [.s (List.map encSeason x99.1.seasons), .s (List.map encInt x99.1.weights)]) ?_
 refine AO.pu T ?_
 refine AO.val rfl rfl (callV_ok rfl rfl rfl rfl (spec_WorldPlace_ok fuel _ _ _ (hx108)) rfl) ?_
 iterate 5 refine AO.pu T ?_
 refine AO.nil (AW.seq ?_)
 obtain ⟨x109, hx110, hH⟩ := bindE hH
 refine AW.region ?_
 refine AO.pu T (d := .g [.s (List.map encSeason x99.1.seasons), .s (List.map encInt x99.1.weights)]) ?_
 refine AO.pu T ?_
 refine AO.step rfl (call_ok rfl 26 rfl rfl rfl (impl_SeasonParts_ok fuel _ _ _ (hx110)) rfl rfl rfl) ?_
 iterate 5 refine AO.pu T ?_
 refine AO.nil ?_
 refine AW.le (Le.ct 0 0 (σ' := (⟨[(21, x93.2), (22, .R 23), (23, .v (.bool x95.2)), (24, .R 24), (25, .v (.bool x97.2)), (26, .p 25 0), (27, x99.2), (28, x101.1), (29, .v (.bool x101.2)), (30, x103.1), (31, .v (.bool x103.2)), (32, x105.1), (33, .v (.bool x105.2)), (34, x107.1), (35, .v (.bool x107.2)), (36, .R 26), (37, .v (.bool x109.2))], [(23, .row 3 (List.map encRank x95.1)), (24, .row 3 (List.map encRank x97.1)), (25, .box [.s (List.map encSeason x99.1.seasons), .s (List.map encInt x99.1.weights)]), (26, .row 1 (List.map encInt x109.1))], 276, []⟩ : St))) ?_
 refine AW.seq ?_
 obtain ⟨x111, hx112, hH⟩ := bindE hH
 refine AW.region ?_
 refine AO.pu T (d := .g [.s (List.map encSeason x99.1.seasons), .s (List.map encInt x99.1.weights)]) ?_
 refine AO.pu T ?_
 refine AO.step rfl (call_ok rfl 27 rfl rfl rfl (spec_SeasonParts_ok fuel _ _ _ (hx112)) rfl rfl rfl) ?_
 iterate 5 refine AO.pu T ?_
 refine AO.nil ?_
 iterate 2 refine AW.seq ?_
 obtain ⟨x113, hx114, hH⟩ := bindE hH
 obtain ⟨x115, hx116, hH⟩ := bindE hH
 refine AW.region ?_
 iterate 4 refine AO.pu T ?_
 iterate 2 refine AO.pureG T [] rfl trivial rfl rfl ?_
 refine AO.guard [224, 225] rfl ⟨fun h => h, fun h => h, trivial⟩ (fun hg => callLV_ok rfl rfl rfl (es := [.s (List.map encRank x95.1), .s (List.map encRank x97.1)]) ⟨(.rowR rfl (.map fun y => .vs rfl)), (.rowR rfl (.map fun y => .vs rfl)), trivial⟩ (laws_pSameRanks_ok _ _ _ (optT hx114 hg)) (zfree_v _) rfl) rfl ?_
 refine AO.pureG T [226] rfl ⟨fun h => h, trivial⟩ rfl rfl ?_
 refine AO.val rfl rfl (pick_or rfl rfl rfl rfl) ?_
 refine AO.pu T ?_
 iterate 2 refine AO.pureG T [] rfl trivial rfl rfl ?_
 refine AO.pureG T [230, 231] rfl ⟨fun h => h, fun h => h, trivial⟩ rfl rfl ?_
 refine AO.val rfl rfl (pick_or rfl rfl rfl rfl) ?_
 refine AO.pu T ?_
 iterate 2 refine AO.pureG T [] rfl trivial rfl rfl ?_
 refine AO.pureG T [235, 236] rfl ⟨fun h => h, fun h => h, trivial⟩ rfl rfl ?_
 refine AO.val rfl rfl (pick_or rfl rfl rfl rfl) ?_
 refine AO.pu T ?_
 iterate 2 refine AO.pureG T [] rfl trivial rfl rfl ?_
 refine AO.pureG T [240, 241] rfl ⟨fun h => h, fun h => h, trivial⟩ rfl rfl ?_
 refine AO.val rfl rfl (pick_or rfl rfl rfl rfl) ?_
 refine AO.pu T ?_
 iterate 2 refine AO.pureG T [] rfl trivial rfl rfl ?_
 refine AO.pureG T [245, 246] rfl ⟨fun h => h, fun h => h, trivial⟩ rfl rfl ?_
 refine AO.val rfl rfl (pick_or rfl rfl rfl rfl) ?_
 refine AO.pu T ?_
 iterate 2 refine AO.pureG T [] rfl trivial rfl rfl ?_
 refine AO.pureG T [250, 251] rfl ⟨fun h => h, fun h => h, trivial⟩ rfl rfl ?_
 refine AO.val rfl rfl (pick_or rfl rfl rfl rfl) ?_
 refine AO.pu T ?_
 iterate 2 refine AO.pureG T [] rfl trivial rfl rfl ?_
 refine AO.pureG T [255, 256] rfl ⟨fun h => h, fun h => h, trivial⟩ rfl rfl ?_
 refine AO.val rfl rfl (pick_or rfl rfl rfl rfl) ?_
 refine AO.pu T ?_
 iterate 2 refine AO.pureG T [] rfl trivial rfl rfl ?_
 refine AO.guard [260, 261] rfl ⟨fun h => h, fun h => h, trivial⟩ (fun hg => callLV_ok rfl rfl rfl (es := [.s (List.map encInt x109.1), .s (List.map encInt x111.1)]) ⟨(.rowR rfl (.map fun y => .vs rfl)), (.rowR rfl (.map fun y => .vs rfl)), trivial⟩ (laws_sameInts_ok _ _ _ (optT hx116 hg)) (zfree_v _) rfl) rfl ?_
 refine AO.pureG T [262] rfl ⟨fun h => h, trivial⟩ rfl rfl ?_
 refine AO.val rfl rfl (pick_or rfl rfl rfl rfl) ?_
 refine AO.nil ?_
 refine AW.le (Le.ct 0 0 (σ' := (⟨[(21, x93.2), (24, .R 24), (264, .v (.bool (((((((((!(x95.2 == x97.2)) || (!x113)) || (!(x101.2 == x103.2))) || (x101.1 != x103.1)) || (!(x105.2 == x107.2))) || (x105.1 != x107.1)) || (!(x105.2 == x101.2))) || (!(x109.2 == x111.2))) || (!x115))))], [(24, .row 3 (List.map encRank x97.1))], 276, []⟩ : St))) ?_
 refine AW.cond (b := (((((((((!(x95.2 == x97.2)) || (!x113)) || (!(x101.2 == x103.2))) || (x101.1 != x103.1)) || (!(x105.2 == x107.2))) || (x105.1 != x107.1)) || (!(x105.2 == x101.2))) || (!(x109.2 == x111.2))) || (!x115))) rfl (fun hc => ?_) (fun hc => ?_)
 replace hH := condT hc hH
 refine AW.seq (AW.region ?_)
 refine AO.pu T ?_
 refine AO.nil (AW.ret ?_)
 have hR := someE hH; subst hR
 exact retQ.i [] rfl (.c (.c .v))
 replace hH := condF hc hH
 refine AW.skip ?_
 iterate 2 refine AW.seq ?_
 refine AW.region ?_
 refine AO.pu T ?_
 refine AO.val rfl rfl (len_row_ok T rfl rfl rfl rfl) ?_
 refine AO.pu T ?_
 refine AO.nil ?_
 refine AW.block ?_
 refine AW.loopS (fun s : Nat => (⟨[(21, x93.2), (265, .R 24), (266, (x97.1.length : Int)), (267, (s : Int))], [(24, .row 3 (List.map encRank x97.1))], 276, []⟩ : St)) (fun s => s ≤ x97.1.length ∧ laws_FnWorlds_l3 x93 (x97.1.drop s) s = some r) (fun s => x97.1.length - s) 0 ⟨Nat.zero_le _, hH⟩ ?_ ?_
 exact Le.ct 0 0
 rintro k117 ⟨hk, hH⟩
 replace hH : laws_FnWorlds_l3 x93 (x97.1.drop k117) k117 = some r := hH
 try dsimp only
 refine AW.boundR (id := 24) (l := x97.1) rfl (fun hb121 => ?_)
 rcases hd120 : x97.1.drop k117 with _ | ⟨y118, ys119⟩
 rw [hd120, laws_FnWorlds_l3] at hH
 have hlt122 := drop_ge hd120
 refine AW.seq (AW.region ?_)
 refine AO.pu T ?_
 refine AO.nil (AW.seq ?_)
 refine AW.condF' (b := decide ((k117 : Int) < (x97.1.length : Int))) rfl (rngF hlt122) ?_
 refine AW.exit ?_
 refine AW.seq (AW.region ?_)
 refine AO.pu T ?_
 refine AO.nil (AW.ret ?_)
 have hR := someE hH; subst hR
 exact retQ.i [] rfl (.c (.c .v))
 rw [hd120, laws_FnWorlds_l3] at hH
 have hlt122 := drop_lt hd120
 refine AW.seq (AW.region ?_)
 refine AO.pu T ?_
 refine AO.nil (AW.seq ?_)
 refine AW.condT' (b := decide ((k117 : Int) < (x97.1.length : Int))) rfl (rngT hlt122) ?_
 refine AW.skip ?_
 refine AW.seq ?_
 refine AW.block ?_
 refine AW.seq (AW.region ?_)
 refine AO.val rfl rfl (ix_row_ok T rfl rfl rfl rfl rfl rfl (getI_drop hd120)) ?_
 refine AO.val rfl rfl (load_row_ok T rfl rfl rfl rfl (getI_get (getI_drop hd120)) rfl rfl rfl) ?_
 refine AO.step rfl (alloc_ok T rfl 30 rfl rfl rfl rfl rfl) ?_
 refine AO.se T [y118.skater, y118.total, y118.place] ?_
 refine AO.nil (AW.seq ?_)
 refine AW.region ?_
 iterate 4 refine AO.pu T ?_
 refine AO.nil ?_
 refine AW.cond (b := decide (y118.place > x93.2)) rfl (fun hc => ?_) (fun hc => ?_)
 replace hH := condT hc hH
 refine AW.seq (AW.region ?_)
 refine AO.pu T ?_
 refine AO.nil (AW.ret ?_)
 have hR := someE hH; subst hR
 exact retQ.i [] rfl (.c (.c .v))
 replace hH := condF hc hH
 refine AW.skip ?_
 refine AW.region ?_
 refine AO.val rfl rfl (ar_ok rfl rfl rfl rfl (inI_succ hlt122 hb121)) ?_
 refine AO.pu T ?_
 refine AO.nil ?_
 refine ⟨k117 + 1, ⟨Nat.succ_le_of_lt hlt122, (by rw [drop_succ_of hd120]; exact hH)⟩, (by have := hlt122; dsimp only; omega), ?_⟩
 exact Le.ct 0 0

end Go.Proofs.YtegdphhfimaieaaGreat

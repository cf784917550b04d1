/- The walk, part 2: what each function reached by the law FnWorlds computes. No condition. -/
import Derived.Test.YtegdphhfimaieaaGreatWalk1
set_option maxRecDepth 4000
set_option maxHeartbeats 1000000
set_option linter.unusedVariables false
set_option linter.unusedSimpArgs false
set_option linter.unusedSectionVars false

namespace Go.Proofs.YtegdphhfimaieaaGreat
open Go.AM

def impl_seasonParts_l1 (w : World) (skater : Int) : List Season → Nat → List Int → Option ((List Int))
  | [], k1, v32 =>
    some v32
  | y2 :: ys3, k1, v32 =>
    (impl_lineOf_p y2 skater).bind fun x34 =>
    (impl_counting_p x34 y2.best).bind fun x36 =>
    (impl_sumInts_p x36).bind fun x38 =>
    (getI w.weights (k1 : Int)).bind fun x40 =>
    (impl_roundDiv_p (w64 (x38 * x40)) 100).bind fun x42 =>
    (need (fitsB 8 (v32.length + ([x42]).length))).bind fun u44 =>
    impl_seasonParts_l1 w skater ys3 (k1 + 1) (v32 ++ [x42])
def impl_seasonParts_p (w : World) (skater : Int) : Option (List Int) :=
  impl_seasonParts_l1 w skater w.seasons 0 []
theorem impl_seasonParts_ok (w : World) (skater : Int) (r : (List Int)) (hH : impl_seasonParts_p w skater = some r) : SpecR Tryz.prog 47 [.g (encWorld w), skater] (.w 1 (r.map encInt)) := by
 refine fn_ok T Tryz.func47 rfl (by decide) rfl ?_
 refine AW.seq (AW.region ?_)
 refine AO.step rfl (box_ok T rfl 1 rfl rfl rfl rfl) ?_
 refine AO.pu T ?_
 refine AO.nil (AW.seq ?_)
 refine AW.region ?_
 refine AO.step rfl (mk0_ok T rfl rfl rfl rfl) ?_
 refine AO.pu T ?_
 refine AO.nil ?_
 iterate 2 refine AW.seq ?_
 refine AW.region ?_
 iterate 2 refine AO.pu T ?_
 refine AO.val rfl rfl (len_map_ok T rfl rfl rfl) ?_
 refine AO.pu T ?_
 refine AO.nil ?_
 refine AW.block ?_
 refine AW.loopS (fun s : Nat × (List Int) => (⟨[(1, skater), (2, .p 1 0), (5, .R 7), (11, .s (List.map encSeason w.seasons)), (12, (w.seasons.length : Int)), (13, (s.1 : Int))], [(1, .box [.s (List.map encSeason w.seasons), .s (List.map encInt w.weights)]), (7, .row 1 (List.map encInt s.2))], 38, []⟩ : St)) (fun s => s.1 ≤ w.seasons.length ∧ impl_seasonParts_l1 w skater (w.seasons.drop s.1) s.1 s.2 = some r) (fun s => w.seasons.length - s.1) (0, []) ⟨Nat.zero_le _, hH⟩ ?_ ?_
 refine Le.trans (Le.void 5 7 1 rfl rfl) ?_
 exact Le.ct 0 0
 rintro ⟨k1, v32⟩ ⟨hk, hH⟩
 replace hH : impl_seasonParts_l1 w skater (w.seasons.drop k1) k1 v32 = some r := hH
 try dsimp only
 refine AW.boundM (t := 11) (l := w.seasons) rfl (fun hb5 => ?_)
 rcases hd4 : w.seasons.drop k1 with _ | ⟨y2, ys3⟩
 rw [hd4, impl_seasonParts_l1] at hH
 have hlt6 := drop_ge hd4
 refine AW.seq (AW.region ?_)
 refine AO.pu T ?_
 refine AO.nil (AW.seq ?_)
 refine AW.condF' (b := decide ((k1 : Int) < (w.seasons.length : Int))) rfl (rngF hlt6) ?_
 refine AW.exit ?_
 refine AW.seq (AW.region ?_)
 iterate 2 refine AO.pu T ?_
 refine AO.nil (AW.ret ?_)
 have hR := someE hH; subst hR
 exact retQ.i [7] rfl (.c (.c (.rowR rfl)))
 rw [hd4, impl_seasonParts_l1] at hH
 have hlt6 := drop_lt hd4
 refine AW.seq (AW.region ?_)
 refine AO.pu T ?_
 refine AO.nil (AW.seq ?_)
 refine AW.condT' (b := decide ((k1 : Int) < (w.seasons.length : Int))) rfl (rngT hlt6) ?_
 refine AW.skip ?_
 refine AW.seq ?_
 refine AW.block ?_
 refine AW.seq (AW.region ?_)
 refine AO.pu T ?_
 refine AO.val rfl rfl (ix_map_ok T rfl rfl rfl rfl rfl (getI_drop hd4) rfl) ?_
 refine AO.pu T (d := .g [y2.best, .s (List.map encLine y2.lines)]) ?_
 refine AO.step rfl (alloc_ok T rfl 8 rfl rfl rfl rfl rfl) ?_
 refine AO.pu T ?_
 refine AO.se T [y2.best, .s (List.map encLine y2.lines)] ?_
 refine AO.nil (AW.seq ?_)
 obtain ⟨x34, hx35, hH⟩ := bindE hH
 obtain ⟨x36, hx37, hH⟩ := bindE hH
 obtain ⟨x38, hx39, hH⟩ := bindE hH
 refine AW.drawn 5 9 [] mix (by kernel_rfl) rfl ?_
 refine AD.pure T (d := .g [y2.best, .s (List.map encLine y2.lines)]) rfl rfl rfl ?_
 refine AD.pure T rfl rfl rfl ?_
 refine AD.val rfl rfl (callV_ok rfl rfl rfl rfl (impl_lineOf_ok _ _ _ (hx35)) rfl) ?_
 iterate 2 refine AD.pure T rfl rfl rfl ?_
 refine AD.nil ?_
 refine AO.val rfl rfl (callV_ok rfl rfl rfl rfl (impl_counting_ok _ _ _ (hx37)) rfl) ?_
 refine AO.val rfl rfl (callV_ok rfl rfl rfl rfl (impl_sumInts_ok _ _ (hx39)) rfl) ?_
 refine AO.pu T ?_
 refine AO.nil ?_
 obtain ⟨x40, hx41, hH⟩ := bindE hH
 obtain ⟨x42, hx43, hH⟩ := bindE hH
 obtain ⟨u44, hx45, hH⟩ := bindE hH
 refine AW.region ?_
 iterate 5 refine AO.pu T ?_
 refine AO.val rfl rfl (ix_map_ok T rfl rfl rfl rfl rfl (hx41) rfl) ?_
 refine AO.pu T ?_
 refine AO.val rfl rfl (arw_ok rfl rfl rfl rfl) ?_
 refine AO.val rfl rfl (callV_ok rfl rfl rfl rfl (impl_roundDiv_ok _ _ _ (hx43)) rfl) ?_
 refine AO.step rfl (mk_map_ok T rfl 9 rfl rfl rfl rfl rfl (f := encInt) (l := [x42]) rfl rfl (fun _ => rfl) rfl rfl rfl rfl rfl) ?_
 refine AO.step rfl (app_rv_map T rfl 10 rfl rfl rfl rfl rfl (by decide) rfl rfl rfl rfl (fun _ => rfl) (needT (hx45)) rfl rfl) ?_
 refine AO.pu T ?_
 refine AO.nil ?_
 refine AW.le (Le.ct 0 0 (σ' := (⟨[(1, skater), (2, .p 1 0), (5, .R 10), (11, .s (List.map encSeason w.seasons)), (12, (w.seasons.length : Int)), (13, (k1 : Int))], [(1, .box [.s (List.map encSeason w.seasons), .s (List.map encInt w.weights)]), (10, .row 1 (List.map encInt (v32 ++ [x42])))], 38, []⟩ : St))) ?_
 refine AW.region ?_
 refine AO.val rfl rfl (ar_ok rfl rfl rfl rfl (inI_succ hlt6 hb5)) ?_
 refine AO.pu T ?_
 refine AO.nil ?_
 refine ⟨(k1 + 1, (v32 ++ [x42])), ⟨Nat.succ_le_of_lt hlt6, (by rw [drop_succ_of hd4]; exact hH)⟩, (by have := hlt6; dsimp only; omega), ?_⟩
 exact Le.ct 10 7

def impl_placesOf_l2 (y2 : Int) (v54 : List Int) : List Int → Nat → Int → Option (List Int)
  | [], k69, v76 =>
    (need (fitsB 8 (v54.length + ([v76]).length))).bind fun u78 =>
    some (v54 ++ [v76])
  | y70 :: ys71, k69, v76 =>
    cond (decide (y70 > y2))
      (impl_placesOf_l2 y2 v54 ys71 (k69 + 1) (w64 (v76 + 1)))
      (impl_placesOf_l2 y2 v54 ys71 (k69 + 1) v76)
def impl_placesOf_l1 (l : List Int) : List Int → Nat → List Int → Option ((List Int))
  | [], k1, v54 =>
    some v54
  | y2 :: ys3, k1, v54 =>
    (impl_placesOf_l2 y2 v54 l 0 1).bind fun v66 =>
    impl_placesOf_l1 l ys3 (k1 + 1) v66
def impl_placesOf_p (l : List Int) : Option (List Int) :=
  impl_placesOf_l1 l l 0 []
theorem impl_placesOf_ok (l : List Int) (r : (List Int)) (hH : impl_placesOf_p l = some r) : SpecR Tryz.prog 74 [.s (List.map encInt l)] (.w 1 (r.map encInt)) := by
 refine fn_ok T Tryz.func74 rfl (by decide) rfl ?_
 refine AW.seq (AW.region ?_)
 refine AO.pu T ?_
 refine AO.nil (AW.seq ?_)
 refine AW.region ?_
 refine AO.step rfl (mk0_ok T rfl rfl rfl rfl) ?_
 refine AO.pu T ?_
 refine AO.nil ?_
 iterate 2 refine AW.seq ?_
 refine AW.region ?_
 refine AO.pu T ?_
 refine AO.val rfl rfl (len_map_ok T rfl rfl rfl) ?_
 refine AO.pu T ?_
 refine AO.nil ?_
 refine AW.block ?_
 refine AW.loopS (fun s : Nat × (List Int) => (⟨[(0, .s (List.map encInt l)), (3, .R 6), (10, .s (List.map encInt l)), (11, (l.length : Int)), (12, (s.1 : Int))], [(6, .row 1 (List.map encInt s.2))], 34, []⟩ : St)) (fun s => s.1 ≤ l.length ∧ impl_placesOf_l1 l (l.drop s.1) s.1 s.2 = some r) (fun s => l.length - s.1) (0, []) ⟨Nat.zero_le _, hH⟩ ?_ ?_
 refine Le.trans (Le.void 3 6 1 rfl rfl) ?_
 exact Le.ct 0 0
 rintro ⟨k1, v54⟩ ⟨hk, hH⟩
 replace hH : impl_placesOf_l1 l (l.drop k1) k1 v54 = some r := hH
 try dsimp only
 refine AW.boundM (t := 0) (l := l) rfl (fun hb5 => ?_)
 rcases hd4 : l.drop k1 with _ | ⟨y2, ys3⟩
 rw [hd4, impl_placesOf_l1] at hH
 have hlt6 := drop_ge hd4
 refine AW.seq (AW.region ?_)
 refine AO.pu T ?_
 refine AO.nil (AW.seq ?_)
 refine AW.condF' (b := decide ((k1 : Int) < (l.length : Int))) rfl (rngF hlt6) ?_
 refine AW.exit ?_
 refine AW.seq (AW.region ?_)
 iterate 2 refine AO.pu T ?_
 refine AO.nil (AW.ret ?_)
 have hR := someE hH; subst hR
 exact retQ.i [6] rfl (.c (.c (.rowR rfl)))
 rw [hd4, impl_placesOf_l1] at hH
 have hlt6 := drop_lt hd4
 refine AW.seq (AW.region ?_)
 refine AO.pu T ?_
 refine AO.nil (AW.seq ?_)
 refine AW.condT' (b := decide ((k1 : Int) < (l.length : Int))) rfl (rngT hlt6) ?_
 refine AW.skip ?_
 obtain ⟨o67, hH, hK68⟩ := bindE hH
 refine AW.seqJ (fun s : List Int => (⟨[(0, .s (List.map encInt l)), (3, .R 10), (10, .s (List.map encInt l)), (11, (l.length : Int)), (12, (k1 : Int))], [(10, .row 1 (List.map encInt s))], 34, []⟩ : St)) (fun s => s = o67) ?_ ?_
 refine AW.block ?_
 refine AW.seq (AW.region ?_)
 refine AO.val rfl rfl (ix_map_ok T rfl rfl rfl rfl rfl (getI_drop hd4) rfl) ?_
 iterate 2 refine AO.pu T ?_
 refine AO.nil (AW.seq ?_)
 refine AW.region ?_
 refine AO.pu T ?_
 refine AO.nil ?_
 iterate 2 refine AW.seq ?_
 refine AW.region ?_
 refine AO.pu T ?_
 refine AO.val rfl rfl (len_map_ok T rfl rfl rfl) ?_
 refine AO.pu T ?_
 refine AO.nil ?_
 refine AW.block ?_
 refine AW.loopS (fun s : Nat × Int => (⟨[(0, .s (List.map encInt l)), (3, .R 6), (5, y2), (6, s.2), (10, .s (List.map encInt l)), (11, (l.length : Int)), (12, (k1 : Int)), (16, .s (List.map encInt l)), (17, (l.length : Int)), (18, (s.1 : Int))], [(6, .row 1 (List.map encInt v54))], 34, []⟩ : St)) (fun s => s.1 ≤ l.length ∧ impl_placesOf_l2 y2 v54 (l.drop s.1) s.1 s.2 = some o67) (fun s => l.length - s.1) (0, 1) ⟨Nat.zero_le _, hH⟩ ?_ ?_
 exact Le.ct 0 0
 rintro ⟨k69, v76⟩ ⟨hk, hH⟩
 replace hH : impl_placesOf_l2 y2 v54 (l.drop k69) k69 v76 = some o67 := hH
 try dsimp only
 refine AW.boundM (t := 0) (l := l) rfl (fun hb73 => ?_)
 rcases hd72 : l.drop k69 with _ | ⟨y70, ys71⟩
 rw [hd72, impl_placesOf_l2] at hH
 have hlt74 := drop_ge hd72
 refine AW.seq (AW.region ?_)
 refine AO.pu T ?_
 refine AO.nil (AW.seq ?_)
 refine AW.condF' (b := decide ((k69 : Int) < (l.length : Int))) rfl (rngF hlt74) ?_
 refine AW.exit ?_
 obtain ⟨u78, hx79, hH⟩ := bindE hH
 refine AW.region ?_
 iterate 2 refine AO.pu T ?_
 refine AO.step rfl (mk_map_ok T rfl 11 rfl rfl rfl rfl rfl (f := encInt) (l := [v76]) rfl rfl (fun _ => rfl) rfl rfl rfl rfl rfl) ?_
 refine AO.step rfl (app_rv_map T rfl 12 rfl rfl rfl rfl rfl (by decide) rfl rfl rfl rfl (fun _ => rfl) (needT (hx79)) rfl rfl) ?_
 refine AO.pu T ?_
 refine AO.nil ?_
 refine ⟨_, someE hH, ?_⟩
 exact Le.ct 12 10
 rw [hd72, impl_placesOf_l2] at hH
 have hlt74 := drop_lt hd72
 refine AW.seq (AW.region ?_)
 refine AO.pu T ?_
 refine AO.nil (AW.seq ?_)
 refine AW.condT' (b := decide ((k69 : Int) < (l.length : Int))) rfl (rngT hlt74) ?_
 refine AW.skip ?_
 refine AW.seq ?_
 refine AW.block ?_
 refine AW.seq (AW.region ?_)
 refine AO.val rfl rfl (ix_map_ok T rfl rfl rfl rfl rfl (getI_drop hd72) rfl) ?_
 iterate 2 refine AO.pu T ?_
 refine AO.nil (AW.seq ?_)
 refine AW.region ?_
 iterate 3 refine AO.pu T ?_
 refine AO.nil ?_
 refine AW.cond (b := decide (y70 > y2)) rfl (fun hc => ?_) (fun hc => ?_)
 replace hH := condT hc hH
 refine AW.region ?_
 refine AO.pu T ?_
 refine AO.val rfl rfl (arw_ok rfl rfl rfl rfl) ?_
 refine AO.pu T ?_
 refine AO.nil ?_
 refine AW.region ?_
 refine AO.val rfl rfl (ar_ok rfl rfl rfl rfl (inI_succ hlt74 hb73)) ?_
 refine AO.pu T ?_
 refine AO.nil ?_
 refine ⟨(k69 + 1, w64 (v76 + 1)), ⟨Nat.succ_le_of_lt hlt74, (by rw [drop_succ_of hd72]; exact hH)⟩, (by have := hlt74; dsimp only; omega), ?_⟩
 exact Le.ct 0 0
 replace hH := condF hc hH
 refine AW.skip ?_
 refine AW.region ?_
 refine AO.val rfl rfl (ar_ok rfl rfl rfl rfl (inI_succ hlt74 hb73)) ?_
 refine AO.pu T ?_
 refine AO.nil ?_
 refine ⟨(k69 + 1, v76), ⟨Nat.succ_le_of_lt hlt74, (by rw [drop_succ_of hd72]; exact hH)⟩, (by have := hlt74; dsimp only; omega), ?_⟩
 exact Le.ct 0 0
 rintro v66 hs
 subst hs
 replace hH := hK68
 try dsimp only [flow, flowE] at hH
 try dsimp only
 refine AW.region ?_
 refine AO.val rfl rfl (ar_ok rfl rfl rfl rfl (inI_succ hlt6 hb5)) ?_
 refine AO.pu T ?_
 refine AO.nil ?_
 refine ⟨(k1 + 1, v66), ⟨Nat.succ_le_of_lt hlt6, (by rw [drop_succ_of hd4]; exact hH)⟩, (by have := hlt6; dsimp only; omega), ?_⟩
 exact Le.ct 10 6

def slices_insertionSortCmpFunc_Rank_l2 (a : Int) (cmp : Rank → Rank → Option Int) : Nat → List Rank → Int → Option (List Rank)
  | 0, _, _ => none
  | k221 + 1, v248, v249 =>
    (opt (decide (v249 > a)) default (getI v248 v249)).bind fun x251 =>
    (opt (decide (v249 > a)) default (getI v248 (w64 (v249 - 1)))).bind fun x253 =>
    (opt (decide (v249 > a)) default (cmp x251 x253)).bind fun x255 =>
    cond (decide (v249 > a) && decide (x255 < 0))
      ((getI v248 (w64 (v249 - 1))).bind fun x257 =>
      (getI v248 v249).bind fun x259 =>
      (getI (v248.set v249.toNat x257) (w64 (v249 - 1))).bind fun x261 =>
      slices_insertionSortCmpFunc_Rank_l2 a cmp k221 ((v248.set v249.toNat x257).set ((w64 (v249 - 1)).toNat) x259) (w64 (v249 - 1)))
      (some v248)
def slices_insertionSortCmpFunc_Rank_l1 (a : Int) (b : Int) (cmp : Rank → Rank → Option Int) (fuel : Nat) : Nat → List Rank → Int → Option ((List Rank))
  | 0, _, _ => none
  | k1 + 1, v174, v175 =>
    cond (decide (v175 < b))
      ((slices_insertionSortCmpFunc_Rank_l2 a cmp fuel v174 v175).bind fun v218 =>
      slices_insertionSortCmpFunc_Rank_l1 a b cmp fuel k1 v218 (w64 (v175 + 1)))
      (some v174)
def slices_insertionSortCmpFunc_Rank_p (fuel : Nat) (data : List Rank) (a : Int) (b : Int) (cmp : Rank → Rank → Option Int) : Option (List Rank) :=
  slices_insertionSortCmpFunc_Rank_l1 a b cmp fuel fuel data (w64 (a + 1))
theorem slices_insertionSortCmpFunc_Rank_ok (fuel : Nat) (data : List Rank) (a : Int) (b : Int) (cmp_f : Nat) (cmp_c : List D) (cmp_k : cmp_c.all D.capOk = true) (cmp : Rank → Rank → Option Int) (cmp_h : ∀ (a0 : Rank) (a1 : Rank) (q : Int), cmp a0 a1 = some q → SpecR Tryz.prog cmp_f ([.g (encRank a0), .g (encRank a1)] ++ cmp_c) (.v (.int .i64 q))) (r : (List Rank)) (hH : slices_insertionSortCmpFunc_Rank_p fuel data a b cmp = some r) : SpecM Tryz.prog 112 [.w 3 (data.map encRank), a, b, .f cmp_f cmp_c] [.w 3 (r.map encRank), .u, .u, .u] (.t []) := by
 have cmp_r := cap_cfree cmp_k
 refine fn_okM T Tryz.func112 rfl (by decide) rfl (by simp [D.gOk, D.cellOk, cmp_k]) ?_
 intro L
 show AW _ _ _ (⟨[(0, .R 1), (1, a), (2, b), (3, .f cmp_f cmp_c)], [(1, .row 3 (List.map encRank data))], 53, [(1, L 1)]⟩ : St)
 refine AW.seq (AW.region ?_)
 refine AO.pu T ?_
 refine AO.val rfl rfl (arw_ok rfl rfl rfl rfl) ?_
 refine AO.pu T ?_
 refine AO.nil ?_
 refine AW.block ?_
 refine AW.loopS (fun s : Nat × (List Rank) × Int => (⟨[(0, .R 1), (1, a), (2, b), (3, .f cmp_f cmp_c), (8, s.2.2)], [(1, .row 3 (List.map encRank s.2.1))], 53, [(1, L 1)]⟩ : St)) (fun s => slices_insertionSortCmpFunc_Rank_l1 a b cmp fuel s.1 s.2.1 s.2.2 = some r) (fun s => s.1) (fuel, data, w64 (a + 1)) hH ?_ ?_
 exact Le.cut 0 0 rfl ⟨⟨_, rfl, rfl⟩, ⟨_, rfl, rfl⟩, ⟨_, rfl, rfl⟩, ⟨_, rfl, ren_fF cmp_r⟩, ⟨_, rfl, rfl⟩, trivial⟩ (by repeat' (first | exact trivial | refine ⟨⟨_, rfl, rfl⟩, ?_⟩)) (andT (allC rfl (allC rfl (allC rfl (allC (known_fF cmp_r) (allC rfl allN))))) rfl) ⟨⟨rfl, rfl⟩, trivial⟩
 rintro ⟨k1, v174, v175⟩ hH
 replace hH : slices_insertionSortCmpFunc_Rank_l1 a b cmp fuel k1 v174 v175 = some r := hH
 try dsimp only
 rcases k1 with _ | k1
 cases (show none = some _ from hH)
 rw [slices_insertionSortCmpFunc_Rank_l1] at hH
 iterate 2 refine AW.seq ?_
 refine AW.region ?_
 iterate 3 refine AO.pu T ?_
 refine AO.nil ?_
 refine AW.cond (b := decide (v175 < b)) rfl (fun hc => ?_) (fun hc => ?_)
 replace hH := condT hc hH
 refine AW.skip ?_
 obtain ⟨o219, hH, hK220⟩ := bindE hH
 refine AW.seqJ (fun s : List Rank => (⟨[(0, .R 1), (1, a), (2, b), (3, .f cmp_f cmp_c), (8, v175)], [(1, .row 3 (List.map encRank s))], 53, [(1, L 1)]⟩ : St)) (fun s => s = o219) ?_ ?_
 refine AW.block ?_
 refine AW.seq (AW.region ?_)
 iterate 2 refine AO.pu T ?_
 refine AO.nil ?_
 refine AW.block ?_
 refine AW.loopS (fun s : Nat × (List Rank) × Int => (⟨[(0, .R 1), (1, a), (2, b), (3, .f cmp_f cmp_c), (8, v175), (9, s.2.2)], [(1, .row 3 (List.map encRank s.2.1))], 53, [(1, L 1)]⟩ : St)) (fun s => slices_insertionSortCmpFunc_Rank_l2 a cmp s.1 s.2.1 s.2.2 = some o219) (fun s => s.1) (fuel, v174, v175) hH ?_ ?_
 exact Le.cut 0 0 rfl ⟨⟨_, rfl, rfl⟩, ⟨_, rfl, rfl⟩, ⟨_, rfl, rfl⟩, ⟨_, rfl, ren_fF cmp_r⟩, ⟨_, rfl, rfl⟩, ⟨_, rfl, rfl⟩, trivial⟩ (by repeat' (first | exact trivial | refine ⟨⟨_, rfl, rfl⟩, ?_⟩)) (andT (allC rfl (allC rfl (allC rfl (allC (known_fF cmp_r) (allC rfl (allC rfl allN)))))) rfl) ⟨⟨rfl, rfl⟩, trivial⟩
 rintro ⟨k221, v248, v249⟩ hH
 replace hH : slices_insertionSortCmpFunc_Rank_l2 a cmp k221 v248 v249 = some o219 := hH
 try dsimp only
 rcases k221 with _ | k221
 cases (show none = some _ from hH)
 rw [slices_insertionSortCmpFunc_Rank_l2] at hH
 iterate 2 refine AW.seq ?_
 obtain ⟨x251, hx252, hH⟩ := bindE hH
 obtain ⟨x253, hx254, hH⟩ := bindE hH
 obtain ⟨x255, hx256, hH⟩ := bindE hH
 refine AW.drawn 14 2 [] mix (by kernel_rfl) rfl ?_
 iterate 4 refine AD.pure T rfl rfl rfl ?_
 iterate 3 refine AD.pureG T [] rfl trivial rfl rfl ?_
 refine AD.guard [23, 24] rfl ⟨fun h => h, fun h => h, trivial⟩ (fun hg => ix_row_ok T rfl rfl rfl rfl rfl rfl (optT hx252 hg)) rfl ?_
 refine AD.guard [25] rfl ⟨fun h => h, trivial⟩ (fun hg => load_row_ok T rfl rfl rfl rfl (getI_get (optT hx252 hg)) rfl rfl rfl) rfl ?_
 iterate 2 refine AD.pureG T [] rfl trivial rfl rfl ?_
 refine AD.guard [28] rfl ⟨fun h => h, trivial⟩ (fun hg => arw_ok rfl rfl rfl rfl) rfl ?_
 refine AD.guard [27, 29] rfl ⟨fun h => h, fun h => h, trivial⟩ (fun hg => ix_row_ok T rfl rfl rfl rfl rfl rfl (optT hx254 hg)) rfl ?_
 refine AD.guard [30] rfl ⟨fun h => h, trivial⟩ (fun hg => load_row_ok T rfl rfl rfl rfl (getI_get (optT hx254 hg)) rfl rfl rfl) rfl ?_
 refine AD.nil ?_
 refine AO.guard [22, 26, 31] rfl ⟨fun h => h, fun h => h, fun h => h, trivial⟩ (fun hg => callV_ok rfl rfl rfl (andT rfl (free_cfree cmp_r)) (cmp_h _ _ _ (optT hx256 hg)) rfl) rfl ?_
 refine AO.pureG T [32] rfl ⟨fun h => h, trivial⟩ rfl rfl ?_
 refine AO.val rfl rfl (pick_and rfl rfl rfl rfl) ?_
 refine AO.nil ?_
 refine AW.cond (b := (decide (v249 > a) && decide (x255 < 0))) rfl (fun hc => ?_) (fun hc => ?_)
 replace hH := condT hc hH
 refine AW.skip ?_
 refine AW.seq ?_
 refine AW.block ?_
 obtain ⟨x257, hx258, hH⟩ := bindE hH
 obtain ⟨x259, hx260, hH⟩ := bindE hH
 obtain ⟨x261, hx262, hH⟩ := bindE hH
 refine AW.drawn 16 2 [1] mix (by kernel_rfl) rfl ?_
 iterate 4 refine AD.pure T rfl rfl rfl ?_
 refine AD.val rfl rfl (arw_ok rfl rfl rfl rfl) ?_
 iterate 2 refine AD.pure T rfl rfl rfl ?_
 refine AD.val rfl rfl (arw_ok rfl rfl rfl rfl) ?_
 refine AD.vald rfl rfl rfl (ix_row_ok T rfl rfl rfl rfl rfl rfl (hx258)) ?_
 refine AD.vald rfl rfl rfl (load_row_ok T rfl rfl rfl rfl (getI_get (hx258)) rfl rfl rfl) ?_
 iterate 2 refine AD.pure T rfl rfl rfl ?_
 refine AD.vald rfl rfl rfl (ix_row_ok T rfl rfl rfl rfl rfl rfl (hx260)) ?_
 refine AD.vald rfl rfl rfl (load_row_ok T rfl rfl rfl rfl (getI_get (hx260)) rfl rfl rfl) ?_
 refine AD.vald rfl rfl rfl (ix_row_ok T rfl rfl rfl rfl rfl rfl (hx260)) ?_
 refine AD.k rfl rfl (FStep.store_row T rfl rfl rfl rfl rfl rfl (getI_get (hx260)) rfl rfl rfl rfl (u' := x257) rfl rfl rfl) rfl rfl rfl ?_
 refine AD.nil ?_
 refine AO.val rfl rfl (ix_row_ok T rfl rfl rfl rfl rfl rfl (hx262)) ?_
 refine AO.step rfl (store_row_ok T rfl rfl rfl rfl rfl (getI_get (hx262)) rfl rfl rfl rfl (u' := x259) rfl rfl) ?_
 refine AO.nil ?_
 refine AW.le (Le.cut 0 0 (σ' := (⟨[(0, .R 1), (1, a), (2, b), (3, .f cmp_f cmp_c), (8, v175), (9, v249)], [(1, .row 3 (List.map encRank ((v248.set v249.toNat x257).set ((w64 (v249 - 1)).toNat) x259)))], 53, [(1, L 1)]⟩ : St)) rfl ⟨⟨_, rfl, rfl⟩, ⟨_, rfl, rfl⟩, ⟨_, rfl, rfl⟩, ⟨_, rfl, ren_fF cmp_r⟩, ⟨_, rfl, rfl⟩, ⟨_, rfl, rfl⟩, trivial⟩ (by repeat' (first | exact trivial | refine ⟨⟨_, rfl, rfl⟩, ?_⟩)) (andT (allC rfl (allC rfl (allC rfl (allC (known_fF cmp_r) (allC rfl (allC rfl allN)))))) rfl) ⟨⟨rfl, rfl⟩, trivial⟩) ?_
 refine AW.region ?_
 refine AO.pu T ?_
 refine AO.val rfl rfl (arw_ok rfl rfl rfl rfl) ?_
 refine AO.pu T ?_
 refine AO.nil ?_
 refine ⟨(k221, ((v248.set v249.toNat x257).set ((w64 (v249 - 1)).toNat) x259), w64 (v249 - 1)), hH, Nat.lt_succ_self _, ?_⟩
 exact Le.cut 0 0 rfl ⟨⟨_, rfl, rfl⟩, ⟨_, rfl, rfl⟩, ⟨_, rfl, rfl⟩, ⟨_, rfl, ren_fF cmp_r⟩, ⟨_, rfl, rfl⟩, ⟨_, rfl, rfl⟩, trivial⟩ (by repeat' (first | exact trivial | refine ⟨⟨_, rfl, rfl⟩, ?_⟩)) (andT (allC rfl (allC rfl (allC rfl (allC (known_fF cmp_r) (allC rfl (allC rfl allN)))))) rfl) ⟨⟨rfl, rfl⟩, trivial⟩
 replace hH := condF hc hH
 refine AW.exit ?_
 refine ⟨_, someE hH, ?_⟩
 exact Le.cut 0 0 rfl ⟨⟨_, rfl, rfl⟩, ⟨_, rfl, rfl⟩, ⟨_, rfl, rfl⟩, ⟨_, rfl, ren_fF cmp_r⟩, ⟨_, rfl, rfl⟩, trivial⟩ (by repeat' (first | exact trivial | refine ⟨⟨_, rfl, rfl⟩, ?_⟩)) (andT (allC rfl (allC rfl (allC rfl (allC (known_fF cmp_r) (allC rfl allN))))) rfl) ⟨⟨rfl, rfl⟩, trivial⟩
 rintro v218 hs
 subst hs
 replace hH := hK220
 try dsimp only [flow, flowE] at hH
 try dsimp only
 refine AW.region ?_
 refine AO.pu T ?_
 refine AO.val rfl rfl (arw_ok rfl rfl rfl rfl) ?_
 refine AO.pu T ?_
 refine AO.nil ?_
 refine ⟨(k1, v218, w64 (v175 + 1)), hH, Nat.lt_succ_self _, ?_⟩
 exact Le.cut 0 0 rfl ⟨⟨_, rfl, rfl⟩, ⟨_, rfl, rfl⟩, ⟨_, rfl, rfl⟩, ⟨_, rfl, ren_fF cmp_r⟩, ⟨_, rfl, rfl⟩, trivial⟩ (by repeat' (first | exact trivial | refine ⟨⟨_, rfl, rfl⟩, ?_⟩)) (andT (allC rfl (allC rfl (allC rfl (allC (known_fF cmp_r) (allC rfl allN))))) rfl) ⟨⟨rfl, rfl⟩, trivial⟩
 replace hH := condF hc hH
 refine AW.exit ?_
 have hR := someE hH; subst hR
 exact ⟨trivial, rfl, _, [], [1], rfl, expLG_cons (.c (.rowR rfl)) (expLG_cons (.c .u) (expLG_cons (.c .u) (expLG_cons (.c .u) (expLG_nil)))), .t expLG_nil, by decide⟩

def slices_swapRangeCmpFunc_Rank_l1 (a : Int) (b : Int) (n : Int) : Nat → List Rank → Int → Option ((List Rank))
  | 0, _, _ => none
  | k1 + 1, v16, v17 =>
    cond (decide (v17 < n))
      ((getI v16 (w64 (b + v17))).bind fun x19 =>
      (getI v16 (w64 (a + v17))).bind fun x21 =>
      (getI (v16.set ((w64 (a + v17)).toNat) x19) (w64 (b + v17))).bind fun x23 =>
      slices_swapRangeCmpFunc_Rank_l1 a b n k1 ((v16.set ((w64 (a + v17)).toNat) x19).set ((w64 (b + v17)).toNat) x21) (w64 (v17 + 1)))
      (some v16)
def slices_swapRangeCmpFunc_Rank_p (fuel : Nat) (data : List Rank) (a : Int) (b : Int) (n : Int) (cmp : Rank → Rank → Option Int) : Option (List Rank) :=
  slices_swapRangeCmpFunc_Rank_l1 a b n fuel data 0
theorem slices_swapRangeCmpFunc_Rank_ok (fuel : Nat) (data : List Rank) (a : Int) (b : Int) (n : Int) (cmp_f : Nat) (cmp_c : List D) (cmp_k : cmp_c.all D.capOk = true) (cmp : Rank → Rank → Option Int) (cmp_h : ∀ (a0 : Rank) (a1 : Rank) (q : Int), cmp a0 a1 = some q → SpecR Tryz.prog cmp_f ([.g (encRank a0), .g (encRank a1)] ++ cmp_c) (.v (.int .i64 q))) (r : (List Rank)) (hH : slices_swapRangeCmpFunc_Rank_p fuel data a b n cmp = some r) : SpecM Tryz.prog 143 [.w 3 (data.map encRank), a, b, n, .f cmp_f cmp_c] [.w 3 (r.map encRank), .u, .u, .u, .u] (.t []) := by
 have cmp_r := cap_cfree cmp_k
 refine fn_okM T Tryz.func143 rfl (by decide) rfl (by simp [D.gOk, D.cellOk, cmp_k]) ?_
 intro L
 show AW _ _ _ (⟨[(0, .R 1), (1, a), (2, b), (3, n), (4, .f cmp_f cmp_c)], [(1, .row 3 (List.map encRank data))], 38, [(1, L 1)]⟩ : St)
 refine AW.seq (AW.region ?_)
 refine AO.pu T ?_
 refine AO.nil ?_
 refine AW.block ?_
 refine AW.loopS (fun s : Nat × (List Rank) × Int => (⟨[(0, .R 1), (1, a), (2, b), (3, n), (10, s.2.2)], [(1, .row 3 (List.map encRank s.2.1))], 38, [(1, L 1)]⟩ : St)) (fun s => slices_swapRangeCmpFunc_Rank_l1 a b n s.1 s.2.1 s.2.2 = some r) (fun s => s.1) (fuel, data, 0) hH ?_ ?_
 exact Le.ct 0 0 (hpin := ⟨⟨rfl, rfl⟩, trivial⟩)
 rintro ⟨k1, v16, v17⟩ hH
 replace hH : slices_swapRangeCmpFunc_Rank_l1 a b n k1 v16 v17 = some r := hH
 try dsimp only
 rcases k1 with _ | k1
 cases (show none = some _ from hH)
 rw [slices_swapRangeCmpFunc_Rank_l1] at hH
 iterate 2 refine AW.seq ?_
 refine AW.region ?_
 iterate 3 refine AO.pu T ?_
 refine AO.nil ?_
 refine AW.cond (b := decide (v17 < n)) rfl (fun hc => ?_) (fun hc => ?_)
 replace hH := condT hc hH
 refine AW.skip ?_
 refine AW.seq ?_
 refine AW.block ?_
 obtain ⟨x19, hx20, hH⟩ := bindE hH
 obtain ⟨x21, hx22, hH⟩ := bindE hH
 obtain ⟨x23, hx24, hH⟩ := bindE hH
 refine AW.drawn 22 2 [1] mix (by kernel_rfl) rfl ?_
 iterate 3 refine AD.pure T rfl rfl rfl ?_
 refine AD.val rfl rfl (arw_ok rfl rfl rfl rfl) ?_
 iterate 3 refine AD.pure T rfl rfl rfl ?_
 refine AD.val rfl rfl (arw_ok rfl rfl rfl rfl) ?_
 iterate 3 refine AD.pure T rfl rfl rfl ?_
 refine AD.val rfl rfl (arw_ok rfl rfl rfl rfl) ?_
 refine AD.vald rfl rfl rfl (ix_row_ok T rfl rfl rfl rfl rfl rfl (hx20)) ?_
 refine AD.vald rfl rfl rfl (load_row_ok T rfl rfl rfl rfl (getI_get (hx20)) rfl rfl rfl) ?_
 iterate 3 refine AD.pure T rfl rfl rfl ?_
 refine AD.val rfl rfl (arw_ok rfl rfl rfl rfl) ?_
 refine AD.vald rfl rfl rfl (ix_row_ok T rfl rfl rfl rfl rfl rfl (hx22)) ?_
 refine AD.vald rfl rfl rfl (load_row_ok T rfl rfl rfl rfl (getI_get (hx22)) rfl rfl rfl) ?_
 refine AD.vald rfl rfl rfl (ix_row_ok T rfl rfl rfl rfl rfl rfl (hx22)) ?_
 refine AD.k rfl rfl (FStep.store_row T rfl rfl rfl rfl rfl rfl (getI_get (hx22)) rfl rfl rfl rfl (u' := x19) rfl rfl rfl) rfl rfl rfl ?_
 refine AD.nil ?_
 refine AO.val rfl rfl (ix_row_ok T rfl rfl rfl rfl rfl rfl (hx24)) ?_
 refine AO.step rfl (store_row_ok T rfl rfl rfl rfl rfl (getI_get (hx24)) rfl rfl rfl rfl (u' := x21) rfl rfl) ?_
 refine AO.nil ?_
 refine AW.le (Le.ct 0 0 (σ' := (⟨[(0, .R 1), (1, a), (2, b), (3, n), (10, v17)], [(1, .row 3 (List.map encRank ((v16.set ((w64 (a + v17)).toNat) x19).set ((w64 (b + v17)).toNat) x21)))], 38, [(1, L 1)]⟩ : St)) (hpin := ⟨⟨rfl, rfl⟩, trivial⟩)) ?_
 refine AW.region ?_
 refine AO.pu T ?_
 refine AO.val rfl rfl (arw_ok rfl rfl rfl rfl) ?_
 refine AO.pu T ?_
 refine AO.nil ?_
 refine ⟨(k1, ((v16.set ((w64 (a + v17)).toNat) x19).set ((w64 (b + v17)).toNat) x21), w64 (v17 + 1)), hH, Nat.lt_succ_self _, ?_⟩
 exact Le.ct 0 0 (hpin := ⟨⟨rfl, rfl⟩, trivial⟩)
 replace hH := condF hc hH
 refine AW.exit ?_
 have hR := someE hH; subst hR
 exact ⟨trivial, rfl, _, [], [1], rfl, expLG_cons (.c (.rowR rfl)) (expLG_cons (.c .u) (expLG_cons (.c .u) (expLG_cons (.c .u) (expLG_cons (.c .u) (expLG_nil))))), .t expLG_nil, by decide⟩

def slices_rotateCmpFunc_Rank_l1 (m : Int) (cmp : Rank → Rank → Option Int) (fuel : Nat) : Nat → List Rank → Int → Int → Option ((List Rank) × Int)
  | 0, _, _, _ => none
  | k24 + 1, v36, v37, v38 =>
    cond (v37 != v38)
      (cond (decide (v37 > v38))
        ((slices_swapRangeCmpFunc_Rank_p fuel v36 (w64 (m - v37)) m v38 cmp).bind fun x40 =>
        slices_rotateCmpFunc_Rank_l1 m cmp fuel k24 x40 (w64 (v37 - v38)) v38)
        ((slices_swapRangeCmpFunc_Rank_p fuel v36 (w64 (m - v37)) (w64 ((w64 (m + v38)) - v37)) v37 cmp).bind fun x42 =>
        slices_rotateCmpFunc_Rank_l1 m cmp fuel k24 x42 v37 (w64 (v38 - v37))))
      (some (v36, v37))
def slices_rotateCmpFunc_Rank_p (fuel : Nat) (data : List Rank) (a : Int) (m : Int) (b : Int) (cmp : Rank → Rank → Option Int) : Option (List Rank) :=
  (slices_rotateCmpFunc_Rank_l1 m cmp fuel fuel data (w64 (m - a)) (w64 (b - m))).bind fun (v20, v21) =>
  (slices_swapRangeCmpFunc_Rank_p fuel v20 (w64 (m - v21)) m v21 cmp).bind fun x44 =>
  some x44
theorem slices_rotateCmpFunc_Rank_ok (fuel : Nat) (data : List Rank) (a : Int) (m : Int) (b : Int) (cmp_f : Nat) (cmp_c : List D) (cmp_k : cmp_c.all D.capOk = true) (cmp : Rank → Rank → Option Int) (cmp_h : ∀ (a0 : Rank) (a1 : Rank) (q : Int), cmp a0 a1 = some q → SpecR Tryz.prog cmp_f ([.g (encRank a0), .g (encRank a1)] ++ cmp_c) (.v (.int .i64 q))) (r : (List Rank)) (hH : slices_rotateCmpFunc_Rank_p fuel data a m b cmp = some r) : SpecM Tryz.prog 128 [.w 3 (data.map encRank), a, m, b, .f cmp_f cmp_c] [.w 3 (r.map encRank), .u, .u, .u, .u] (.t []) := by
 have cmp_r := cap_cfree cmp_k
 refine fn_okM T Tryz.func128 rfl (by decide) rfl (by simp [D.gOk, D.cellOk, cmp_k]) ?_
 intro L
 show AW _ _ _ (⟨[(0, .R 1), (1, a), (2, m), (3, b), (4, .f cmp_f cmp_c)], [(1, .row 3 (List.map encRank data))], 58, [(1, L 1)]⟩ : St)
 refine AW.seq (AW.region ?_)
 iterate 2 refine AO.pu T ?_
 refine AO.val rfl rfl (arw_ok rfl rfl rfl rfl) ?_
 refine AO.pu T ?_
 refine AO.nil (AW.seq ?_)
 refine AW.region ?_
 iterate 2 refine AO.pu T ?_
 refine AO.val rfl rfl (arw_ok rfl rfl rfl rfl) ?_
 refine AO.pu T ?_
 refine AO.nil ?_
 obtain ⟨o22, hH, hK23⟩ := bindE hH
 refine AW.seqJ (fun s : (List Rank) × Int => (⟨[(0, .R 1), (2, m), (4, .f cmp_f cmp_c), (10, s.2)], [(1, .row 3 (List.map encRank s.1))], 58, [(1, L 1)]⟩ : St)) (fun s => s = o22) ?_ ?_
 refine AW.block ?_
 refine AW.loopS (fun s : Nat × (List Rank) × Int × Int => (⟨[(0, .R 1), (2, m), (4, .f cmp_f cmp_c), (10, s.2.2.1), (11, s.2.2.2)], [(1, .row 3 (List.map encRank s.2.1))], 58, [(1, L 1)]⟩ : St)) (fun s => slices_rotateCmpFunc_Rank_l1 m cmp fuel s.1 s.2.1 s.2.2.1 s.2.2.2 = some o22) (fun s => s.1) (fuel, data, w64 (m - a), w64 (b - m)) hH ?_ ?_
 exact Le.cut 0 0 rfl ⟨⟨_, rfl, rfl⟩, ⟨_, rfl, rfl⟩, ⟨_, rfl, ren_fF cmp_r⟩, ⟨_, rfl, rfl⟩, ⟨_, rfl, rfl⟩, trivial⟩ (by repeat' (first | exact trivial | refine ⟨⟨_, rfl, rfl⟩, ?_⟩)) (andT (allC rfl (allC rfl (allC (known_fF cmp_r) (allC rfl (allC rfl allN))))) rfl) ⟨⟨rfl, rfl⟩, trivial⟩
 rintro ⟨k24, v36, v37, v38⟩ hH
 replace hH : slices_rotateCmpFunc_Rank_l1 m cmp fuel k24 v36 v37 v38 = some o22 := hH
 try dsimp only
 rcases k24 with _ | k24
 cases (show none = some _ from hH)
 rw [slices_rotateCmpFunc_Rank_l1] at hH
 iterate 2 refine AW.seq ?_
 refine AW.region ?_
 iterate 3 refine AO.pu T ?_
 refine AO.nil ?_
 refine AW.cond (b := (v37 != v38)) rfl (fun hc => ?_) (fun hc => ?_)
 replace hH := condT hc hH
 refine AW.skip ?_
 refine AW.block ?_
 refine AW.seq (AW.region ?_)
 iterate 3 refine AO.pu T ?_
 refine AO.nil ?_
 refine AW.cond (b := decide (v37 > v38)) rfl (fun hc => ?_) (fun hc => ?_)
 replace hH := condT hc hH
 refine AW.seq ?_
 obtain ⟨x40, hx41, hH⟩ := bindE hH
 refine AW.region ?_
 iterate 3 refine AO.pu T ?_
 refine AO.val rfl rfl (arw_ok rfl rfl rfl rfl) ?_
 iterate 3 refine AO.pu T ?_
 refine AO.step rfl (callM_ok rfl 2 rfl rfl (es := [.w 3 (v36.map encRank), .v (.int .i64 (w64 (m - v37))), .v (.int .i64 m), .v (.int .i64 v38), .f cmp_f cmp_c]) (outs := [.w 3 (x40.map encRank), .u, .u, .u, .u]) (ids := [1]) (by exact expLG_cons (.c (.rowR rfl)) (expLG_cons (.c .v) (expLG_cons (.c .v) (expLG_cons (.c .v) (expLG_cons (.c (.f cmp_r)) (expLG_nil)))))) (by decide) (.inl (by rfl)) (by rfl) (slices_swapRangeCmpFunc_Rank_ok fuel _ _ _ _ cmp_f cmp_c cmp_k cmp cmp_h _ (hx41)) rfl (by rfl) rfl) ?_
 refine AO.nil ?_
 refine AW.region ?_
 iterate 2 refine AO.pu T ?_
 refine AO.val rfl rfl (arw_ok rfl rfl rfl rfl) ?_
 refine AO.pu T ?_
 refine AO.nil ?_
 refine ⟨(k24, x40, w64 (v37 - v38), v38), hH, Nat.lt_succ_self _, ?_⟩
 exact Le.cut 0 0 rfl ⟨⟨_, rfl, rfl⟩, ⟨_, rfl, rfl⟩, ⟨_, rfl, ren_fF cmp_r⟩, ⟨_, rfl, rfl⟩, ⟨_, rfl, rfl⟩, trivial⟩ (by repeat' (first | exact trivial | refine ⟨⟨_, rfl, rfl⟩, ?_⟩)) (andT (allC rfl (allC rfl (allC (known_fF cmp_r) (allC rfl (allC rfl allN))))) rfl) ⟨⟨rfl, rfl⟩, trivial⟩
 replace hH := condF hc hH
 refine AW.seq ?_
 obtain ⟨x42, hx43, hH⟩ := bindE hH
 refine AW.region ?_
 iterate 3 refine AO.pu T ?_
 refine AO.val rfl rfl (arw_ok rfl rfl rfl rfl) ?_
 iterate 2 refine AO.pu T ?_
 refine AO.val rfl rfl (arw_ok rfl rfl rfl rfl) ?_
 refine AO.pu T ?_
 refine AO.val rfl rfl (arw_ok rfl rfl rfl rfl) ?_
 iterate 2 refine AO.pu T ?_
 refine AO.step rfl (callM_ok rfl 2 rfl rfl (es := [.w 3 (v36.map encRank), .v (.int .i64 (w64 (m - v37))), .v (.int .i64 (w64 ((w64 (m + v38)) - v37))), .v (.int .i64 v37), .f cmp_f cmp_c]) (outs := [.w 3 (x42.map encRank), .u, .u, .u, .u]) (ids := [1]) (by exact expLG_cons (.c (.rowR rfl)) (expLG_cons (.c .v) (expLG_cons (.c .v) (expLG_cons (.c .v) (expLG_cons (.c (.f cmp_r)) (expLG_nil)))))) (by decide) (.inl (by rfl)) (by rfl) (slices_swapRangeCmpFunc_Rank_ok fuel _ _ _ _ cmp_f cmp_c cmp_k cmp cmp_h _ (hx43)) rfl (by rfl) rfl) ?_
 refine AO.nil ?_
 refine AW.region ?_
 iterate 2 refine AO.pu T ?_
 refine AO.val rfl rfl (arw_ok rfl rfl rfl rfl) ?_
 refine AO.pu T ?_
 refine AO.nil ?_
 refine ⟨(k24, x42, v37, w64 (v38 - v37)), hH, Nat.lt_succ_self _, ?_⟩
 exact Le.cut 0 0 rfl ⟨⟨_, rfl, rfl⟩, ⟨_, rfl, rfl⟩, ⟨_, rfl, ren_fF cmp_r⟩, ⟨_, rfl, rfl⟩, ⟨_, rfl, rfl⟩, trivial⟩ (by repeat' (first | exact trivial | refine ⟨⟨_, rfl, rfl⟩, ?_⟩)) (andT (allC rfl (allC rfl (allC (known_fF cmp_r) (allC rfl (allC rfl allN))))) rfl) ⟨⟨rfl, rfl⟩, trivial⟩
 replace hH := condF hc hH
 refine AW.exit ?_
 refine ⟨_, someE hH, ?_⟩
 exact Le.cut 0 0 rfl ⟨⟨_, rfl, rfl⟩, ⟨_, rfl, rfl⟩, ⟨_, rfl, ren_fF cmp_r⟩, ⟨_, rfl, rfl⟩, trivial⟩ (by repeat' (first | exact trivial | refine ⟨⟨_, rfl, rfl⟩, ?_⟩)) (andT (allC rfl (allC rfl (allC (known_fF cmp_r) (allC rfl allN)))) rfl) ⟨⟨rfl, rfl⟩, trivial⟩
 rintro ⟨v20, v21⟩ hs
 subst hs
 replace hH := hK23
 try dsimp only [flow, flowE] at hH
 try dsimp only
 obtain ⟨x44, hx45, hH⟩ := bindE hH
 refine AW.region ?_
 iterate 3 refine AO.pu T ?_
 refine AO.val rfl rfl (arw_ok rfl rfl rfl rfl) ?_
 iterate 3 refine AO.pu T ?_
 refine AO.step rfl (callM_ok rfl 2 rfl rfl (es := [.w 3 (v20.map encRank), .v (.int .i64 (w64 (m - v21))), .v (.int .i64 m), .v (.int .i64 v21), .f cmp_f cmp_c]) (outs := [.w 3 (x44.map encRank), .u, .u, .u, .u]) (ids := [1]) (by exact expLG_cons (.c (.rowR rfl)) (expLG_cons (.c .v) (expLG_cons (.c .v) (expLG_cons (.c .v) (expLG_cons (.c (.f cmp_r)) (expLG_nil)))))) (by decide) (.inl (by rfl)) (by rfl) (slices_swapRangeCmpFunc_Rank_ok fuel _ _ _ _ cmp_f cmp_c cmp_k cmp cmp_h _ (hx45)) rfl (by rfl) rfl) ?_
 refine AO.nil ?_
 have hR := someE hH; subst hR
 exact ⟨trivial, rfl, _, [], [1], rfl, expLG_cons (.c (.rowR rfl)) (expLG_cons (.c .u) (expLG_cons (.c .u) (expLG_cons (.c .u) (expLG_cons (.c .u) (expLG_nil))))), .t expLG_nil, by decide⟩

def slices_symMergeCmpFunc_Rank_l1 (data : List Rank) (a : Int) (cmp : Rank → Rank → Option Int) : Nat → Int → Int → Option Int
  | 0, _, _ => none
  | k27 + 1, v42, v43 =>
    cond (decide (v42 < v43))
      ((getI data (IntKind.wrap .i64 ((IntKind.wrap .u64 (w64 (v42 + v43))).fdiv (2 ^ 1)))).bind fun x45 =>
      (getI data a).bind fun x47 =>
      (cmp x45 x47).bind fun x49 =>
      cond (decide (x49 < 0))
        (slices_symMergeCmpFunc_Rank_l1 data a cmp k27 (w64 ((IntKind.wrap .i64 ((IntKind.wrap .u64 (w64 (v42 + v43))).fdiv (2 ^ 1))) + 1)) v43)
        (slices_symMergeCmpFunc_Rank_l1 data a cmp k27 v42 (IntKind.wrap .i64 ((IntKind.wrap .u64 (w64 (v42 + v43))).fdiv (2 ^ 1)))))
      (some v42)
def slices_symMergeCmpFunc_Rank_l2 (v24 : Int) : Nat → List Rank → Int → Option ((List Rank))
  | 0, _, _ => none
  | k51 + 1, v66, v67 =>
    cond (decide (v67 < (w64 (v24 - 1))))
      ((getI v66 (w64 (v67 + 1))).bind fun x69 =>
      (getI v66 v67).bind fun x71 =>
      (getI (v66.set v67.toNat x69) (w64 (v67 + 1))).bind fun x73 =>
      slices_symMergeCmpFunc_Rank_l2 v24 k51 ((v66.set v67.toNat x69).set ((w64 (v67 + 1)).toNat) x71) (w64 (v67 + 1)))
      (some v66)
def slices_symMergeCmpFunc_Rank_l3 (data : List Rank) (m : Int) (cmp : Rank → Rank → Option Int) : Nat → Int → Int → Option Int
  | 0, _, _ => none
  | k101 + 1, v116, v117 =>
    cond (decide (v116 < v117))
      ((getI data m).bind fun x119 =>
      (getI data (IntKind.wrap .i64 ((IntKind.wrap .u64 (w64 (v116 + v117))).fdiv (2 ^ 1)))).bind fun x121 =>
      (cmp x119 x121).bind fun x123 =>
      cond (!(decide (x123 < 0)))
        (slices_symMergeCmpFunc_Rank_l3 data m cmp k101 (w64 ((IntKind.wrap .i64 ((IntKind.wrap .u64 (w64 (v116 + v117))).fdiv (2 ^ 1))) + 1)) v117)
        (slices_symMergeCmpFunc_Rank_l3 data m cmp k101 v116 (IntKind.wrap .i64 ((IntKind.wrap .u64 (w64 (v116 + v117))).fdiv (2 ^ 1)))))
      (some v116)
def slices_symMergeCmpFunc_Rank_l4 (v98 : Int) : Nat → List Rank → Int → Option ((List Rank))
  | 0, _, _ => none
  | k125 + 1, v140, v141 =>
    cond (decide (v141 > v98))
      ((getI v140 (w64 (v141 - 1))).bind fun x143 =>
      (getI v140 v141).bind fun x145 =>
      (getI (v140.set v141.toNat x143) (w64 (v141 - 1))).bind fun x147 =>
      slices_symMergeCmpFunc_Rank_l4 v98 k125 ((v140.set v141.toNat x143).set ((w64 (v141 - 1)).toNat) x145) (w64 (v141 - 1)))
      (some v140)
def slices_symMergeCmpFunc_Rank_l5 (data : List Rank) (a : Int) (m : Int) (b : Int) (cmp : Rank → Rank → Option Int) : Nat → Int → Int → Option Int
  | 0, _, _ => none
  | k175 + 1, v190, v191 =>
    cond (decide (v190 < v191))
      ((getI data (w64 ((w64 ((w64 ((IntKind.wrap .i64 ((IntKind.wrap .u64 (w64 (a + b))).fdiv (2 ^ 1))) + m)) - 1)) - (IntKind.wrap .i64 ((IntKind.wrap .u64 (w64 (v190 + v191))).fdiv (2 ^ 1)))))).bind fun x193 =>
      (getI data (IntKind.wrap .i64 ((IntKind.wrap .u64 (w64 (v190 + v191))).fdiv (2 ^ 1)))).bind fun x195 =>
      (cmp x193 x195).bind fun x197 =>
      cond (!(decide (x197 < 0)))
        (slices_symMergeCmpFunc_Rank_l5 data a m b cmp k175 (w64 ((IntKind.wrap .i64 ((IntKind.wrap .u64 (w64 (v190 + v191))).fdiv (2 ^ 1))) + 1)) v191)
        (slices_symMergeCmpFunc_Rank_l5 data a m b cmp k175 v190 (IntKind.wrap .i64 ((IntKind.wrap .u64 (w64 (v190 + v191))).fdiv (2 ^ 1)))))
      (some v190)
def slices_symMergeCmpFunc_Rank_l6 (data : List Rank) (a : Int) (m : Int) (b : Int) (cmp : Rank → Rank → Option Int) : Nat → Int → Int → Option Int
  | 0, _, _ => none
  | k239 + 1, v254, v255 =>
    cond (decide (v254 < v255))
      ((getI data (w64 ((w64 ((w64 ((IntKind.wrap .i64 ((IntKind.wrap .u64 (w64 (a + b))).fdiv (2 ^ 1))) + m)) - 1)) - (IntKind.wrap .i64 ((IntKind.wrap .u64 (w64 (v254 + v255))).fdiv (2 ^ 1)))))).bind fun x257 =>
      (getI data (IntKind.wrap .i64 ((IntKind.wrap .u64 (w64 (v254 + v255))).fdiv (2 ^ 1)))).bind fun x259 =>
      (cmp x257 x259).bind fun x261 =>
      cond (!(decide (x261 < 0)))
        (slices_symMergeCmpFunc_Rank_l6 data a m b cmp k239 (w64 ((IntKind.wrap .i64 ((IntKind.wrap .u64 (w64 (v254 + v255))).fdiv (2 ^ 1))) + 1)) v255)
        (slices_symMergeCmpFunc_Rank_l6 data a m b cmp k239 v254 (IntKind.wrap .i64 ((IntKind.wrap .u64 (w64 (v254 + v255))).fdiv (2 ^ 1)))))
      (some v254)
def slices_symMergeCmpFunc_Rank_p (fuel : Nat) : Nat → (List Rank) → Int → Int → Int → (Rank → Rank → Option Int) → Option (List Rank)
  | 0, _, _, _, _, _ => none
  | rf + 1, data, a, m, b, cmp =>
    cond ((w64 (m - a)) == 1)
      ((slices_symMergeCmpFunc_Rank_l1 data a cmp fuel m b).bind fun v24 =>
      slices_symMergeCmpFunc_Rank_l2 v24 fuel data a)
      (cond ((w64 (b - m)) == 1)
        ((slices_symMergeCmpFunc_Rank_l3 data m cmp fuel a m).bind fun v98 =>
        slices_symMergeCmpFunc_Rank_l4 v98 fuel data m)
        (cond (decide (m > (IntKind.wrap .i64 ((IntKind.wrap .u64 (w64 (a + b))).fdiv (2 ^ 1)))))
          ((slices_symMergeCmpFunc_Rank_l5 data a m b cmp fuel (w64 ((w64 ((IntKind.wrap .i64 ((IntKind.wrap .u64 (w64 (a + b))).fdiv (2 ^ 1))) + m)) - b)) (IntKind.wrap .i64 ((IntKind.wrap .u64 (w64 (a + b))).fdiv (2 ^ 1)))).bind fun v172 =>
          cond (decide (v172 < m) && decide (m < (w64 ((w64 ((IntKind.wrap .i64 ((IntKind.wrap .u64 (w64 (a + b))).fdiv (2 ^ 1))) + m)) - v172))))
            ((slices_rotateCmpFunc_Rank_p fuel data v172 m (w64 ((w64 ((IntKind.wrap .i64 ((IntKind.wrap .u64 (w64 (a + b))).fdiv (2 ^ 1))) + m)) - v172)) cmp).bind fun x199 =>
            cond (decide (a < v172) && decide (v172 < (IntKind.wrap .i64 ((IntKind.wrap .u64 (w64 (a + b))).fdiv (2 ^ 1)))))
              ((slices_symMergeCmpFunc_Rank_p fuel rf x199 a v172 (IntKind.wrap .i64 ((IntKind.wrap .u64 (w64 (a + b))).fdiv (2 ^ 1))) cmp).bind fun x201 =>
              cond (decide ((IntKind.wrap .i64 ((IntKind.wrap .u64 (w64 (a + b))).fdiv (2 ^ 1))) < (w64 ((w64 ((IntKind.wrap .i64 ((IntKind.wrap .u64 (w64 (a + b))).fdiv (2 ^ 1))) + m)) - v172))) && decide ((w64 ((w64 ((IntKind.wrap .i64 ((IntKind.wrap .u64 (w64 (a + b))).fdiv (2 ^ 1))) + m)) - v172)) < b))
                ((slices_symMergeCmpFunc_Rank_p fuel rf x201 (IntKind.wrap .i64 ((IntKind.wrap .u64 (w64 (a + b))).fdiv (2 ^ 1))) (w64 ((w64 ((IntKind.wrap .i64 ((IntKind.wrap .u64 (w64 (a + b))).fdiv (2 ^ 1))) + m)) - v172)) b cmp).bind fun x203 =>
                some x203)
                (some x201))
              (cond (decide ((IntKind.wrap .i64 ((IntKind.wrap .u64 (w64 (a + b))).fdiv (2 ^ 1))) < (w64 ((w64 ((IntKind.wrap .i64 ((IntKind.wrap .u64 (w64 (a + b))).fdiv (2 ^ 1))) + m)) - v172))) && decide ((w64 ((w64 ((IntKind.wrap .i64 ((IntKind.wrap .u64 (w64 (a + b))).fdiv (2 ^ 1))) + m)) - v172)) < b))
                ((slices_symMergeCmpFunc_Rank_p fuel rf x199 (IntKind.wrap .i64 ((IntKind.wrap .u64 (w64 (a + b))).fdiv (2 ^ 1))) (w64 ((w64 ((IntKind.wrap .i64 ((IntKind.wrap .u64 (w64 (a + b))).fdiv (2 ^ 1))) + m)) - v172)) b cmp).bind fun x205 =>
                some x205)
                (some x199)))
            (cond (decide (a < v172) && decide (v172 < (IntKind.wrap .i64 ((IntKind.wrap .u64 (w64 (a + b))).fdiv (2 ^ 1)))))
              ((slices_symMergeCmpFunc_Rank_p fuel rf data a v172 (IntKind.wrap .i64 ((IntKind.wrap .u64 (w64 (a + b))).fdiv (2 ^ 1))) cmp).bind fun x207 =>
              cond (decide ((IntKind.wrap .i64 ((IntKind.wrap .u64 (w64 (a + b))).fdiv (2 ^ 1))) < (w64 ((w64 ((IntKind.wrap .i64 ((IntKind.wrap .u64 (w64 (a + b))).fdiv (2 ^ 1))) + m)) - v172))) && decide ((w64 ((w64 ((IntKind.wrap .i64 ((IntKind.wrap .u64 (w64 (a + b))).fdiv (2 ^ 1))) + m)) - v172)) < b))
                ((slices_symMergeCmpFunc_Rank_p fuel rf x207 (IntKind.wrap .i64 ((IntKind.wrap .u64 (w64 (a + b))).fdiv (2 ^ 1))) (w64 ((w64 ((IntKind.wrap .i64 ((IntKind.wrap .u64 (w64 (a + b))).fdiv (2 ^ 1))) + m)) - v172)) b cmp).bind fun x209 =>
                some x209)
                (some x207))
              (cond (decide ((IntKind.wrap .i64 ((IntKind.wrap .u64 (w64 (a + b))).fdiv (2 ^ 1))) < (w64 ((w64 ((IntKind.wrap .i64 ((IntKind.wrap .u64 (w64 (a + b))).fdiv (2 ^ 1))) + m)) - v172))) && decide ((w64 ((w64 ((IntKind.wrap .i64 ((IntKind.wrap .u64 (w64 (a + b))).fdiv (2 ^ 1))) + m)) - v172)) < b))
                ((slices_symMergeCmpFunc_Rank_p fuel rf data (IntKind.wrap .i64 ((IntKind.wrap .u64 (w64 (a + b))).fdiv (2 ^ 1))) (w64 ((w64 ((IntKind.wrap .i64 ((IntKind.wrap .u64 (w64 (a + b))).fdiv (2 ^ 1))) + m)) - v172)) b cmp).bind fun x211 =>
                some x211)
                (some data))))
          ((slices_symMergeCmpFunc_Rank_l6 data a m b cmp fuel a m).bind fun v236 =>
          cond (decide (v236 < m) && decide (m < (w64 ((w64 ((IntKind.wrap .i64 ((IntKind.wrap .u64 (w64 (a + b))).fdiv (2 ^ 1))) + m)) - v236))))
            ((slices_rotateCmpFunc_Rank_p fuel data v236 m (w64 ((w64 ((IntKind.wrap .i64 ((IntKind.wrap .u64 (w64 (a + b))).fdiv (2 ^ 1))) + m)) - v236)) cmp).bind fun x263 =>
            cond (decide (a < v236) && decide (v236 < (IntKind.wrap .i64 ((IntKind.wrap .u64 (w64 (a + b))).fdiv (2 ^ 1)))))
              ((slices_symMergeCmpFunc_Rank_p fuel rf x263 a v236 (IntKind.wrap .i64 ((IntKind.wrap .u64 (w64 (a + b))).fdiv (2 ^ 1))) cmp).bind fun x265 =>
              cond (decide ((IntKind.wrap .i64 ((IntKind.wrap .u64 (w64 (a + b))).fdiv (2 ^ 1))) < (w64 ((w64 ((IntKind.wrap .i64 ((IntKind.wrap .u64 (w64 (a + b))).fdiv (2 ^ 1))) + m)) - v236))) && decide ((w64 ((w64 ((IntKind.wrap .i64 ((IntKind.wrap .u64 (w64 (a + b))).fdiv (2 ^ 1))) + m)) - v236)) < b))
                ((slices_symMergeCmpFunc_Rank_p fuel rf x265 (IntKind.wrap .i64 ((IntKind.wrap .u64 (w64 (a + b))).fdiv (2 ^ 1))) (w64 ((w64 ((IntKind.wrap .i64 ((IntKind.wrap .u64 (w64 (a + b))).fdiv (2 ^ 1))) + m)) - v236)) b cmp).bind fun x267 =>
                some x267)
                (some x265))
              (cond (decide ((IntKind.wrap .i64 ((IntKind.wrap .u64 (w64 (a + b))).fdiv (2 ^ 1))) < (w64 ((w64 ((IntKind.wrap .i64 ((IntKind.wrap .u64 (w64 (a + b))).fdiv (2 ^ 1))) + m)) - v236))) && decide ((w64 ((w64 ((IntKind.wrap .i64 ((IntKind.wrap .u64 (w64 (a + b))).fdiv (2 ^ 1))) + m)) - v236)) < b))
                ((slices_symMergeCmpFunc_Rank_p fuel rf x263 (IntKind.wrap .i64 ((IntKind.wrap .u64 (w64 (a + b))).fdiv (2 ^ 1))) (w64 ((w64 ((IntKind.wrap .i64 ((IntKind.wrap .u64 (w64 (a + b))).fdiv (2 ^ 1))) + m)) - v236)) b cmp).bind fun x269 =>
                some x269)
                (some x263)))
            (cond (decide (a < v236) && decide (v236 < (IntKind.wrap .i64 ((IntKind.wrap .u64 (w64 (a + b))).fdiv (2 ^ 1)))))
              ((slices_symMergeCmpFunc_Rank_p fuel rf data a v236 (IntKind.wrap .i64 ((IntKind.wrap .u64 (w64 (a + b))).fdiv (2 ^ 1))) cmp).bind fun x271 =>
              cond (decide ((IntKind.wrap .i64 ((IntKind.wrap .u64 (w64 (a + b))).fdiv (2 ^ 1))) < (w64 ((w64 ((IntKind.wrap .i64 ((IntKind.wrap .u64 (w64 (a + b))).fdiv (2 ^ 1))) + m)) - v236))) && decide ((w64 ((w64 ((IntKind.wrap .i64 ((IntKind.wrap .u64 (w64 (a + b))).fdiv (2 ^ 1))) + m)) - v236)) < b))
                ((slices_symMergeCmpFunc_Rank_p fuel rf x271 (IntKind.wrap .i64 ((IntKind.wrap .u64 (w64 (a + b))).fdiv (2 ^ 1))) (w64 ((w64 ((IntKind.wrap .i64 ((IntKind.wrap .u64 (w64 (a + b))).fdiv (2 ^ 1))) + m)) - v236)) b cmp).bind fun x273 =>
                some x273)
                (some x271))
              (cond (decide ((IntKind.wrap .i64 ((IntKind.wrap .u64 (w64 (a + b))).fdiv (2 ^ 1))) < (w64 ((w64 ((IntKind.wrap .i64 ((IntKind.wrap .u64 (w64 (a + b))).fdiv (2 ^ 1))) + m)) - v236))) && decide ((w64 ((w64 ((IntKind.wrap .i64 ((IntKind.wrap .u64 (w64 (a + b))).fdiv (2 ^ 1))) + m)) - v236)) < b))
                ((slices_symMergeCmpFunc_Rank_p fuel rf data (IntKind.wrap .i64 ((IntKind.wrap .u64 (w64 (a + b))).fdiv (2 ^ 1))) (w64 ((w64 ((IntKind.wrap .i64 ((IntKind.wrap .u64 (w64 (a + b))).fdiv (2 ^ 1))) + m)) - v236)) b cmp).bind fun x275 =>
                some x275)
                (some data))))))
theorem slices_symMergeCmpFunc_Rank_ok (fuel : Nat) : ∀ (rf : Nat) (data : List Rank) (a : Int) (m : Int) (b : Int) (cmp_f : Nat) (cmp_c : List D) (cmp_k : cmp_c.all D.capOk = true) (cmp : Rank → Rank → Option Int) (cmp_h : ∀ (a0 : Rank) (a1 : Rank) (q : Int), cmp a0 a1 = some q → SpecR Tryz.prog cmp_f ([.g (encRank a0), .g (encRank a1)] ++ cmp_c) (.v (.int .i64 q))) (r : (List Rank)) (hH : slices_symMergeCmpFunc_Rank_p fuel rf data a m b cmp = some r), SpecM Tryz.prog 113 [.w 3 (data.map encRank), a, m, b, .f cmp_f cmp_c] [.w 3 (r.map encRank), .u, .u, .u, .u] (.t []) := by
 intro rf
 induction rf with
 | zero => intro data a m b cmp_f cmp_c cmp_k cmp cmp_h r hH; rw [slices_symMergeCmpFunc_Rank_p] at hH; cases hH
 | succ rf ih =>
 intro data a m b cmp_f cmp_c cmp_k cmp cmp_h r hH
 rw [slices_symMergeCmpFunc_Rank_p] at hH
 have cmp_r := cap_cfree cmp_k
 refine fn_okM T Tryz.func113 rfl (by decide) rfl (by simp [D.gOk, D.cellOk, cmp_k]) ?_
 intro L
 show AW _ _ _ (⟨[(0, .R 1), (1, a), (2, m), (3, b), (4, .f cmp_f cmp_c)], [(1, .row 3 (List.map encRank data))], 220, [(1, L 1)]⟩ : St)
 iterate 2 refine AW.seq ?_
 refine AW.region ?_
 iterate 2 refine AO.pu T ?_
 refine AO.val rfl rfl (arw_ok rfl rfl rfl rfl) ?_
 refine AO.pu T ?_
 refine AO.nil ?_
 refine AW.cond (b := ((w64 (m - a)) == 1)) rfl (fun hc => ?_) (fun hc => ?_)
 replace hH := condT hc hH
 refine AW.seq (AW.region ?_)
 iterate 2 refine AO.pu T ?_
 refine AO.nil (AW.seq ?_)
 refine AW.region ?_
 iterate 2 refine AO.pu T ?_
 refine AO.nil ?_
 obtain ⟨o25, hH, hK26⟩ := bindE hH
 refine AW.seqJ (fun s : Int => (⟨[(0, .R 1), (1, a), (10, s)], [(1, .row 3 (List.map encRank data))], 220, [(1, L 1)]⟩ : St)) (fun s => s = o25) ?_ ?_
 refine AW.block ?_
 refine AW.loopS (fun s : Nat × Int × Int => (⟨[(0, .R 1), (1, a), (4, .f cmp_f cmp_c), (10, s.2.1), (11, s.2.2)], [(1, .row 3 (List.map encRank data))], 220, [(1, L 1)]⟩ : St)) (fun s => slices_symMergeCmpFunc_Rank_l1 data a cmp s.1 s.2.1 s.2.2 = some o25) (fun s => s.1) (fuel, m, b) hH ?_ ?_
 exact Le.cut 0 0 rfl ⟨⟨_, rfl, rfl⟩, ⟨_, rfl, rfl⟩, ⟨_, rfl, ren_fF cmp_r⟩, ⟨_, rfl, rfl⟩, ⟨_, rfl, rfl⟩, trivial⟩ (by repeat' (first | exact trivial | refine ⟨⟨_, rfl, rfl⟩, ?_⟩)) (andT (allC rfl (allC rfl (allC (known_fF cmp_r) (allC rfl (allC rfl allN))))) rfl) ⟨⟨rfl, rfl⟩, trivial⟩
 rintro ⟨k27, v42, v43⟩ hH
 replace hH : slices_symMergeCmpFunc_Rank_l1 data a cmp k27 v42 v43 = some o25 := hH
 try dsimp only
 rcases k27 with _ | k27
 cases (show none = some _ from hH)
 rw [slices_symMergeCmpFunc_Rank_l1] at hH
 iterate 2 refine AW.seq ?_
 refine AW.region ?_
 iterate 3 refine AO.pu T ?_
 refine AO.nil ?_
 refine AW.cond (b := decide (v42 < v43)) rfl (fun hc => ?_) (fun hc => ?_)
 replace hH := condT hc hH
 refine AW.skip ?_
 refine AW.block ?_
 refine AW.seq (AW.region ?_)
 iterate 2 refine AO.pu T ?_
 refine AO.val rfl rfl (arw_ok rfl rfl rfl rfl) ?_
 refine AO.val rfl rfl (convw_ok T rfl rfl rfl rfl) ?_
 refine AO.val rfl rfl (shr_ok rfl rfl rfl rfl rfl) ?_
 refine AO.val rfl rfl (convw_ok T rfl rfl rfl rfl) ?_
 refine AO.pu T ?_
 refine AO.nil (AW.seq ?_)
 obtain ⟨x45, hx46, hH⟩ := bindE hH
 obtain ⟨x47, hx48, hH⟩ := bindE hH
 obtain ⟨x49, hx50, hH⟩ := bindE hH
 refine AW.drawn 9 2 [] mix (by kernel_rfl) rfl ?_
 iterate 3 refine AD.pure T rfl rfl rfl ?_
 refine AD.val rfl rfl (ix_row_ok T rfl rfl rfl rfl rfl rfl (hx46)) ?_
 refine AD.val rfl rfl (load_row_ok T rfl rfl rfl rfl (getI_get (hx46)) rfl rfl rfl) ?_
 iterate 2 refine AD.pure T rfl rfl rfl ?_
 refine AD.val rfl rfl (ix_row_ok T rfl rfl rfl rfl rfl rfl (hx48)) ?_
 refine AD.val rfl rfl (load_row_ok T rfl rfl rfl rfl (getI_get (hx48)) rfl rfl rfl) ?_
 refine AD.nil ?_
 refine AO.val rfl rfl (callV_ok rfl rfl rfl (andT rfl (free_cfree cmp_r)) (cmp_h _ _ _ (hx50)) rfl) ?_
 refine AO.pu T ?_
 refine AO.nil ?_
 refine AW.cond (b := decide (x49 < 0)) rfl (fun hc => ?_) (fun hc => ?_)
 replace hH := condT hc hH
 refine AW.region ?_
 refine AO.pu T ?_
 refine AO.val rfl rfl (arw_ok rfl rfl rfl rfl) ?_
 refine AO.pu T ?_
 refine AO.nil ?_
 refine ⟨(k27, w64 ((IntKind.wrap .i64 ((IntKind.wrap .u64 (w64 (v42 + v43))).fdiv (2 ^ 1))) + 1), v43), hH, Nat.lt_succ_self _, ?_⟩
 exact Le.cut 0 0 rfl ⟨⟨_, rfl, rfl⟩, ⟨_, rfl, rfl⟩, ⟨_, rfl, ren_fF cmp_r⟩, ⟨_, rfl, rfl⟩, ⟨_, rfl, rfl⟩, trivial⟩ (by repeat' (first | exact trivial | refine ⟨⟨_, rfl, rfl⟩, ?_⟩)) (andT (allC rfl (allC rfl (allC (known_fF cmp_r) (allC rfl (allC rfl allN))))) rfl) ⟨⟨rfl, rfl⟩, trivial⟩
 replace hH := condF hc hH
 refine AW.region ?_
 iterate 2 refine AO.pu T ?_
 refine AO.nil ?_
 refine ⟨(k27, v42, IntKind.wrap .i64 ((IntKind.wrap .u64 (w64 (v42 + v43))).fdiv (2 ^ 1))), hH, Nat.lt_succ_self _, ?_⟩
 exact Le.cut 0 0 rfl ⟨⟨_, rfl, rfl⟩, ⟨_, rfl, rfl⟩, ⟨_, rfl, ren_fF cmp_r⟩, ⟨_, rfl, rfl⟩, ⟨_, rfl, rfl⟩, trivial⟩ (by repeat' (first | exact trivial | refine ⟨⟨_, rfl, rfl⟩, ?_⟩)) (andT (allC rfl (allC rfl (allC (known_fF cmp_r) (allC rfl (allC rfl allN))))) rfl) ⟨⟨rfl, rfl⟩, trivial⟩
 replace hH := condF hc hH
 refine AW.exit ?_
 refine ⟨_, someE hH, ?_⟩
 exact Le.ct 0 0 (hpin := ⟨⟨rfl, rfl⟩, trivial⟩)
 rintro v24 hs
 subst hs
 replace hH := hK26
 try dsimp only [flow, flowE] at hH
 try dsimp only
 iterate 2 refine AW.seq ?_
 refine AW.region ?_
 iterate 2 refine AO.pu T ?_
 refine AO.nil ?_
 refine AW.block ?_
 refine AW.loopS (fun s : Nat × (List Rank) × Int => (⟨[(0, .R 1), (10, v24), (13, s.2.2)], [(1, .row 3 (List.map encRank s.2.1))], 220, [(1, L 1)]⟩ : St)) (fun s => slices_symMergeCmpFunc_Rank_l2 v24 s.1 s.2.1 s.2.2 = some r) (fun s => s.1) (fuel, data, a) hH ?_ ?_
 exact Le.ct 0 0 (hpin := ⟨⟨rfl, rfl⟩, trivial⟩)
 rintro ⟨k51, v66, v67⟩ hH
 replace hH : slices_symMergeCmpFunc_Rank_l2 v24 k51 v66 v67 = some r := hH
 try dsimp only
 rcases k51 with _ | k51
 cases (show none = some _ from hH)
 rw [slices_symMergeCmpFunc_Rank_l2] at hH
 iterate 2 refine AW.seq ?_
 refine AW.region ?_
 iterate 2 refine AO.pu T ?_
 refine AO.val rfl rfl (arw_ok rfl rfl rfl rfl) ?_
 refine AO.pu T ?_
 refine AO.nil ?_
 refine AW.cond (b := decide (v67 < (w64 (v24 - 1)))) rfl (fun hc => ?_) (fun hc => ?_)
 replace hH := condT hc hH
 refine AW.skip ?_
 refine AW.seq ?_
 refine AW.block ?_
 obtain ⟨x69, hx70, hH⟩ := bindE hH
 obtain ⟨x71, hx72, hH⟩ := bindE hH
 obtain ⟨x73, hx74, hH⟩ := bindE hH
 refine AW.drawn 16 2 [1] mix (by kernel_rfl) rfl ?_
 iterate 4 refine AD.pure T rfl rfl rfl ?_
 refine AD.val rfl rfl (arw_ok rfl rfl rfl rfl) ?_
 iterate 2 refine AD.pure T rfl rfl rfl ?_
 refine AD.val rfl rfl (arw_ok rfl rfl rfl rfl) ?_
 refine AD.vald rfl rfl rfl (ix_row_ok T rfl rfl rfl rfl rfl rfl (hx70)) ?_
 refine AD.vald rfl rfl rfl (load_row_ok T rfl rfl rfl rfl (getI_get (hx70)) rfl rfl rfl) ?_
 iterate 2 refine AD.pure T rfl rfl rfl ?_
 refine AD.vald rfl rfl rfl (ix_row_ok T rfl rfl rfl rfl rfl rfl (hx72)) ?_
 refine AD.vald rfl rfl rfl (load_row_ok T rfl rfl rfl rfl (getI_get (hx72)) rfl rfl rfl) ?_
 refine AD.vald rfl rfl rfl (ix_row_ok T rfl rfl rfl rfl rfl rfl (hx72)) ?_
 refine AD.k rfl rfl (FStep.store_row T rfl rfl rfl rfl rfl rfl (getI_get (hx72)) rfl rfl rfl rfl (u' := x69) rfl rfl rfl) rfl rfl rfl ?_
 refine AD.nil ?_
 refine AO.val rfl rfl (ix_row_ok T rfl rfl rfl rfl rfl rfl (hx74)) ?_
 refine AO.step rfl (store_row_ok T rfl rfl rfl rfl rfl (getI_get (hx74)) rfl rfl rfl rfl (u' := x71) rfl rfl) ?_
 refine AO.nil ?_
 refine AW.region ?_
 refine AO.pu T ?_
 refine AO.val rfl rfl (arw_ok rfl rfl rfl rfl) ?_
 refine AO.pu T ?_
 refine AO.nil ?_
 refine ⟨(k51, ((v66.set v67.toNat x69).set ((w64 (v67 + 1)).toNat) x71), w64 (v67 + 1)), hH, Nat.lt_succ_self _, ?_⟩
 exact Le.ct 0 0 (hpin := ⟨⟨rfl, rfl⟩, trivial⟩)
 replace hH := condF hc hH
 refine AW.exit ?_
 refine AW.ret ?_
 have hR := someE hH; subst hR
 exact ⟨trivial, rfl, _, [], [1], rfl, expLG_cons (.c (.rowR rfl)) (expLG_cons (.c .u) (expLG_cons (.c .u) (expLG_cons (.c .u) (expLG_cons (.c .u) (expLG_nil))))), .t expLG_nil, by decide⟩
 replace hH := condF hc hH
 refine AW.skip ?_
 iterate 2 refine AW.seq ?_
 refine AW.region ?_
 iterate 2 refine AO.pu T ?_
 refine AO.val rfl rfl (arw_ok rfl rfl rfl rfl) ?_
 refine AO.pu T ?_
 refine AO.nil ?_
 refine AW.cond (b := ((w64 (b - m)) == 1)) rfl (fun hc => ?_) (fun hc => ?_)
 replace hH := condT hc hH
 refine AW.seq (AW.region ?_)
 iterate 2 refine AO.pu T ?_
 refine AO.nil (AW.seq ?_)
 refine AW.region ?_
 iterate 2 refine AO.pu T ?_
 refine AO.nil ?_
 obtain ⟨o99, hH, hK100⟩ := bindE hH
 refine AW.seqJ (fun s : Int => (⟨[(0, .R 1), (2, m), (14, s)], [(1, .row 3 (List.map encRank data))], 220, [(1, L 1)]⟩ : St)) (fun s => s = o99) ?_ ?_
 refine AW.block ?_
 refine AW.loopS (fun s : Nat × Int × Int => (⟨[(0, .R 1), (2, m), (4, .f cmp_f cmp_c), (14, s.2.1), (15, s.2.2)], [(1, .row 3 (List.map encRank data))], 220, [(1, L 1)]⟩ : St)) (fun s => slices_symMergeCmpFunc_Rank_l3 data m cmp s.1 s.2.1 s.2.2 = some o99) (fun s => s.1) (fuel, a, m) hH ?_ ?_
 exact Le.cut 0 0 rfl ⟨⟨_, rfl, rfl⟩, ⟨_, rfl, rfl⟩, ⟨_, rfl, ren_fF cmp_r⟩, ⟨_, rfl, rfl⟩, ⟨_, rfl, rfl⟩, trivial⟩ (by repeat' (first | exact trivial | refine ⟨⟨_, rfl, rfl⟩, ?_⟩)) (andT (allC rfl (allC rfl (allC (known_fF cmp_r) (allC rfl (allC rfl allN))))) rfl) ⟨⟨rfl, rfl⟩, trivial⟩
 rintro ⟨k101, v116, v117⟩ hH
 replace hH : slices_symMergeCmpFunc_Rank_l3 data m cmp k101 v116 v117 = some o99 := hH
 try dsimp only
 rcases k101 with _ | k101
 cases (show none = some _ from hH)
 rw [slices_symMergeCmpFunc_Rank_l3] at hH
 iterate 2 refine AW.seq ?_
 refine AW.region ?_
 iterate 3 refine AO.pu T ?_
 refine AO.nil ?_
 refine AW.cond (b := decide (v116 < v117)) rfl (fun hc => ?_) (fun hc => ?_)
 replace hH := condT hc hH
 refine AW.skip ?_
 refine AW.block ?_
 refine AW.seq (AW.region ?_)
 iterate 2 refine AO.pu T ?_
 refine AO.val rfl rfl (arw_ok rfl rfl rfl rfl) ?_
 refine AO.val rfl rfl (convw_ok T rfl rfl rfl rfl) ?_
 refine AO.val rfl rfl (shr_ok rfl rfl rfl rfl rfl) ?_
 refine AO.val rfl rfl (convw_ok T rfl rfl rfl rfl) ?_
 refine AO.pu T ?_
 refine AO.nil (AW.seq ?_)
 obtain ⟨x119, hx120, hH⟩ := bindE hH
 obtain ⟨x121, hx122, hH⟩ := bindE hH
 obtain ⟨x123, hx124, hH⟩ := bindE hH
 refine AW.drawn 9 2 [] mix (by kernel_rfl) rfl ?_
 iterate 3 refine AD.pure T rfl rfl rfl ?_
 refine AD.val rfl rfl (ix_row_ok T rfl rfl rfl rfl rfl rfl (hx120)) ?_
 refine AD.val rfl rfl (load_row_ok T rfl rfl rfl rfl (getI_get (hx120)) rfl rfl rfl) ?_
 iterate 2 refine AD.pure T rfl rfl rfl ?_
 refine AD.val rfl rfl (ix_row_ok T rfl rfl rfl rfl rfl rfl (hx122)) ?_
 refine AD.val rfl rfl (load_row_ok T rfl rfl rfl rfl (getI_get (hx122)) rfl rfl rfl) ?_
 refine AD.nil ?_
 refine AO.val rfl rfl (callV_ok rfl rfl rfl (andT rfl (free_cfree cmp_r)) (cmp_h _ _ _ (hx124)) rfl) ?_
 iterate 2 refine AO.pu T ?_
 refine AO.nil ?_
 refine AW.cond (b := (!(decide (x123 < 0)))) rfl (fun hc => ?_) (fun hc => ?_)
 replace hH := condT hc hH
 refine AW.region ?_
 refine AO.pu T ?_
 refine AO.val rfl rfl (arw_ok rfl rfl rfl rfl) ?_
 refine AO.pu T ?_
 refine AO.nil ?_
 refine ⟨(k101, w64 ((IntKind.wrap .i64 ((IntKind.wrap .u64 (w64 (v116 + v117))).fdiv (2 ^ 1))) + 1), v117), hH, Nat.lt_succ_self _, ?_⟩
 exact Le.cut 0 0 rfl ⟨⟨_, rfl, rfl⟩, ⟨_, rfl, rfl⟩, ⟨_, rfl, ren_fF cmp_r⟩, ⟨_, rfl, rfl⟩, ⟨_, rfl, rfl⟩, trivial⟩ (by repeat' (first | exact trivial | refine ⟨⟨_, rfl, rfl⟩, ?_⟩)) (andT (allC rfl (allC rfl (allC (known_fF cmp_r) (allC rfl (allC rfl allN))))) rfl) ⟨⟨rfl, rfl⟩, trivial⟩
 replace hH := condF hc hH
 refine AW.region ?_
 iterate 2 refine AO.pu T ?_
 refine AO.nil ?_
 refine ⟨(k101, v116, IntKind.wrap .i64 ((IntKind.wrap .u64 (w64 (v116 + v117))).fdiv (2 ^ 1))), hH, Nat.lt_succ_self _, ?_⟩
 exact Le.cut 0 0 rfl ⟨⟨_, rfl, rfl⟩, ⟨_, rfl, rfl⟩, ⟨_, rfl, ren_fF cmp_r⟩, ⟨_, rfl, rfl⟩, ⟨_, rfl, rfl⟩, trivial⟩ (by repeat' (first | exact trivial | refine ⟨⟨_, rfl, rfl⟩, ?_⟩)) (andT (allC rfl (allC rfl (allC (known_fF cmp_r) (allC rfl (allC rfl allN))))) rfl) ⟨⟨rfl, rfl⟩, trivial⟩
 replace hH := condF hc hH
 refine AW.exit ?_
 refine ⟨_, someE hH, ?_⟩
 exact Le.ct 0 0 (hpin := ⟨⟨rfl, rfl⟩, trivial⟩)
 rintro v98 hs
 subst hs
 replace hH := hK100
 try dsimp only [flow, flowE] at hH
 try dsimp only
 iterate 2 refine AW.seq ?_
 refine AW.region ?_
 iterate 2 refine AO.pu T ?_
 refine AO.nil ?_
 refine AW.block ?_
 refine AW.loopS (fun s : Nat × (List Rank) × Int => (⟨[(0, .R 1), (14, v98), (17, s.2.2)], [(1, .row 3 (List.map encRank s.2.1))], 220, [(1, L 1)]⟩ : St)) (fun s => slices_symMergeCmpFunc_Rank_l4 v98 s.1 s.2.1 s.2.2 = some r) (fun s => s.1) (fuel, data, m) hH ?_ ?_
 exact Le.ct 0 0 (hpin := ⟨⟨rfl, rfl⟩, trivial⟩)
 rintro ⟨k125, v140, v141⟩ hH
 replace hH : slices_symMergeCmpFunc_Rank_l4 v98 k125 v140 v141 = some r := hH
 try dsimp only
 rcases k125 with _ | k125
 cases (show none = some _ from hH)
 rw [slices_symMergeCmpFunc_Rank_l4] at hH
 iterate 2 refine AW.seq ?_
 refine AW.region ?_
 iterate 3 refine AO.pu T ?_
 refine AO.nil ?_
 refine AW.cond (b := decide (v141 > v98)) rfl (fun hc => ?_) (fun hc => ?_)
 replace hH := condT hc hH
 refine AW.skip ?_
 refine AW.seq ?_
 refine AW.block ?_
 obtain ⟨x143, hx144, hH⟩ := bindE hH
 obtain ⟨x145, hx146, hH⟩ := bindE hH
 obtain ⟨x147, hx148, hH⟩ := bindE hH
 refine AW.drawn 16 2 [1] mix (by kernel_rfl) rfl ?_
 iterate 4 refine AD.pure T rfl rfl rfl ?_
 refine AD.val rfl rfl (arw_ok rfl rfl rfl rfl) ?_
 iterate 2 refine AD.pure T rfl rfl rfl ?_
 refine AD.val rfl rfl (arw_ok rfl rfl rfl rfl) ?_
 refine AD.vald rfl rfl rfl (ix_row_ok T rfl rfl rfl rfl rfl rfl (hx144)) ?_
 refine AD.vald rfl rfl rfl (load_row_ok T rfl rfl rfl rfl (getI_get (hx144)) rfl rfl rfl) ?_
 iterate 2 refine AD.pure T rfl rfl rfl ?_
 refine AD.vald rfl rfl rfl (ix_row_ok T rfl rfl rfl rfl rfl rfl (hx146)) ?_
 refine AD.vald rfl rfl rfl (load_row_ok T rfl rfl rfl rfl (getI_get (hx146)) rfl rfl rfl) ?_
 refine AD.vald rfl rfl rfl (ix_row_ok T rfl rfl rfl rfl rfl rfl (hx146)) ?_
 refine AD.k rfl rfl (FStep.store_row T rfl rfl rfl rfl rfl rfl (getI_get (hx146)) rfl rfl rfl rfl (u' := x143) rfl rfl rfl) rfl rfl rfl ?_
 refine AD.nil ?_
 refine AO.val rfl rfl (ix_row_ok T rfl rfl rfl rfl rfl rfl (hx148)) ?_
 refine AO.step rfl (store_row_ok T rfl rfl rfl rfl rfl (getI_get (hx148)) rfl rfl rfl rfl (u' := x145) rfl rfl) ?_
 refine AO.nil ?_
 refine AW.region ?_
 refine AO.pu T ?_
 refine AO.val rfl rfl (arw_ok rfl rfl rfl rfl) ?_
 refine AO.pu T ?_
 refine AO.nil ?_
 refine ⟨(k125, ((v140.set v141.toNat x143).set ((w64 (v141 - 1)).toNat) x145), w64 (v141 - 1)), hH, Nat.lt_succ_self _, ?_⟩
 exact Le.ct 0 0 (hpin := ⟨⟨rfl, rfl⟩, trivial⟩)
 replace hH := condF hc hH
 refine AW.exit ?_
 refine AW.ret ?_
 have hR := someE hH; subst hR
 exact ⟨trivial, rfl, _, [], [1], rfl, expLG_cons (.c (.rowR rfl)) (expLG_cons (.c .u) (expLG_cons (.c .u) (expLG_cons (.c .u) (expLG_cons (.c .u) (expLG_nil))))), .t expLG_nil, by decide⟩
 replace hH := condF hc hH
 refine AW.skip ?_
 refine AW.seq (AW.region ?_)
 iterate 2 refine AO.pu T ?_
 refine AO.val rfl rfl (arw_ok rfl rfl rfl rfl) ?_
 refine AO.val rfl rfl (convw_ok T rfl rfl rfl rfl) ?_
 refine AO.val rfl rfl (shr_ok rfl rfl rfl rfl rfl) ?_
 refine AO.val rfl rfl (convw_ok T rfl rfl rfl rfl) ?_
 refine AO.pu T ?_
 refine AO.nil (AW.seq ?_)
 refine AW.region ?_
 iterate 2 refine AO.pu T ?_
 refine AO.val rfl rfl (arw_ok rfl rfl rfl rfl) ?_
 refine AO.pu T ?_
 refine AO.nil (AW.seq ?_)
 refine AW.region ?_
 iterate 2 refine AO.pu T ?_
 refine AO.nil ?_
 iterate 2 refine AW.seq ?_
 refine AW.region ?_
 iterate 3 refine AO.pu T ?_
 refine AO.nil ?_
 refine AW.le (Le.cut 0 0 (σ' := (⟨[(0, .R 1), (1, a), (2, m), (3, b), (4, .f cmp_f cmp_c), (18, (IntKind.wrap .i64 ((IntKind.wrap .u64 (w64 (a + b))).fdiv (2 ^ 1)) : Int)), (19, w64 ((IntKind.wrap .i64 ((IntKind.wrap .u64 (w64 (a + b))).fdiv (2 ^ 1))) + m)), (140, .v (.bool (decide (m > (IntKind.wrap .i64 ((IntKind.wrap .u64 (w64 (a + b))).fdiv (2 ^ 1)))))))], [(1, .row 3 (List.map encRank data))], 220, [(1, L 1)]⟩ : St)) rfl ⟨⟨_, rfl, rfl⟩, ⟨_, rfl, rfl⟩, ⟨_, rfl, rfl⟩, ⟨_, rfl, rfl⟩, ⟨_, rfl, ren_fF cmp_r⟩, ⟨_, rfl, rfl⟩, ⟨_, rfl, rfl⟩, ⟨_, rfl, rfl⟩, trivial⟩ (by repeat' (first | exact trivial | refine ⟨⟨_, rfl, rfl⟩, ?_⟩)) (andT (allC rfl (allC rfl (allC rfl (allC rfl (allC (known_fF cmp_r) (allC rfl (allC rfl (allC rfl allN)))))))) rfl) ⟨⟨rfl, rfl⟩, trivial⟩) ?_
 refine AW.cond (b := decide (m > (IntKind.wrap .i64 ((IntKind.wrap .u64 (w64 (a + b))).fdiv (2 ^ 1))))) rfl (fun hc => ?_) (fun hc => ?_)
 replace hH := condT hc hH
 refine AW.seq (AW.region ?_)
 iterate 2 refine AO.pu T ?_
 refine AO.val rfl rfl (arw_ok rfl rfl rfl rfl) ?_
 refine AO.pu T ?_
 refine AO.nil ?_
 refine AW.region ?_
 iterate 2 refine AO.pu T ?_
 refine AO.nil (AW.seq ?_)
 refine AW.region ?_
 refine AO.pu T ?_
 refine AO.val rfl rfl (arw_ok rfl rfl rfl rfl) ?_
 refine AO.pu T ?_
 refine AO.nil ?_
 obtain ⟨o173, hH, hK174⟩ := bindE hH
 refine AW.seqJ (fun s : Int => (⟨[(0, .R 1), (1, a), (2, m), (3, b), (4, .f cmp_f cmp_c), (18, (IntKind.wrap .i64 ((IntKind.wrap .u64 (w64 (a + b))).fdiv (2 ^ 1)) : Int)), (19, w64 ((IntKind.wrap .i64 ((IntKind.wrap .u64 (w64 (a + b))).fdiv (2 ^ 1))) + m)), (20, s)], [(1, .row 3 (List.map encRank data))], 220, [(1, L 1)]⟩ : St)) (fun s => s = o173) ?_ ?_
 refine AW.block ?_
 refine AW.loopS (fun s : Nat × Int × Int => (⟨[(0, .R 1), (1, a), (2, m), (3, b), (4, .f cmp_f cmp_c), (18, (IntKind.wrap .i64 ((IntKind.wrap .u64 (w64 (a + b))).fdiv (2 ^ 1)) : Int)), (19, w64 ((IntKind.wrap .i64 ((IntKind.wrap .u64 (w64 (a + b))).fdiv (2 ^ 1))) + m)), (20, s.2.1), (21, s.2.2), (22, w64 ((w64 ((IntKind.wrap .i64 ((IntKind.wrap .u64 (w64 (a + b))).fdiv (2 ^ 1))) + m)) - 1))], [(1, .row 3 (List.map encRank data))], 220, [(1, L 1)]⟩ : St)) (fun s => slices_symMergeCmpFunc_Rank_l5 data a m b cmp s.1 s.2.1 s.2.2 = some o173) (fun s => s.1) (fuel, w64 ((w64 ((IntKind.wrap .i64 ((IntKind.wrap .u64 (w64 (a + b))).fdiv (2 ^ 1))) + m)) - b), IntKind.wrap .i64 ((IntKind.wrap .u64 (w64 (a + b))).fdiv (2 ^ 1))) hH ?_ ?_
 exact Le.cut 0 0 rfl ⟨⟨_, rfl, rfl⟩, ⟨_, rfl, rfl⟩, ⟨_, rfl, rfl⟩, ⟨_, rfl, rfl⟩, ⟨_, rfl, ren_fF cmp_r⟩, ⟨_, rfl, rfl⟩, ⟨_, rfl, rfl⟩, ⟨_, rfl, rfl⟩, ⟨_, rfl, rfl⟩, ⟨_, rfl, rfl⟩, trivial⟩ (by repeat' (first | exact trivial | refine ⟨⟨_, rfl, rfl⟩, ?_⟩)) (andT (allC rfl (allC rfl (allC rfl (allC rfl (allC (known_fF cmp_r) (allC rfl (allC rfl (allC rfl (allC rfl (allC rfl allN)))))))))) rfl) ⟨⟨rfl, rfl⟩, trivial⟩
 rintro ⟨k175, v190, v191⟩ hH
 replace hH : slices_symMergeCmpFunc_Rank_l5 data a m b cmp k175 v190 v191 = some o173 := hH
 try dsimp only
 rcases k175 with _ | k175
 cases (show none = some _ from hH)
 rw [slices_symMergeCmpFunc_Rank_l5] at hH
 iterate 2 refine AW.seq ?_
 refine AW.region ?_
 iterate 3 refine AO.pu T ?_
 refine AO.nil ?_
 refine AW.cond (b := decide (v190 < v191)) rfl (fun hc => ?_) (fun hc => ?_)
 replace hH := condT hc hH
 refine AW.skip ?_
 refine AW.block ?_
 refine AW.seq (AW.region ?_)
 iterate 2 refine AO.pu T ?_
 refine AO.val rfl rfl (arw_ok rfl rfl rfl rfl) ?_
 refine AO.val rfl rfl (convw_ok T rfl rfl rfl rfl) ?_
 refine AO.val rfl rfl (shr_ok rfl rfl rfl rfl rfl) ?_
 refine AO.val rfl rfl (convw_ok T rfl rfl rfl rfl) ?_
 refine AO.pu T ?_
 refine AO.nil (AW.seq ?_)
 obtain ⟨x193, hx194, hH⟩ := bindE hH
 obtain ⟨x195, hx196, hH⟩ := bindE hH
 obtain ⟨x197, hx198, hH⟩ := bindE hH
 refine AW.drawn 11 2 [] mix (by kernel_rfl) rfl ?_
 iterate 4 refine AD.pure T rfl rfl rfl ?_
 refine AD.val rfl rfl (arw_ok rfl rfl rfl rfl) ?_
 refine AD.val rfl rfl (ix_row_ok T rfl rfl rfl rfl rfl rfl (hx194)) ?_
 refine AD.val rfl rfl (load_row_ok T rfl rfl rfl rfl (getI_get (hx194)) rfl rfl rfl) ?_
 iterate 2 refine AD.pure T rfl rfl rfl ?_
 refine AD.val rfl rfl (ix_row_ok T rfl rfl rfl rfl rfl rfl (hx196)) ?_
 refine AD.val rfl rfl (load_row_ok T rfl rfl rfl rfl (getI_get (hx196)) rfl rfl rfl) ?_
 refine AD.nil ?_
 refine AO.val rfl rfl (callV_ok rfl rfl rfl (andT rfl (free_cfree cmp_r)) (cmp_h _ _ _ (hx198)) rfl) ?_
 iterate 2 refine AO.pu T ?_
 refine AO.nil ?_
 refine AW.le (Le.cut 0 0 (σ' := (⟨[(0, .R 1), (1, a), (2, m), (3, b), (4, .f cmp_f cmp_c), (18, (IntKind.wrap .i64 ((IntKind.wrap .u64 (w64 (a + b))).fdiv (2 ^ 1)) : Int)), (19, w64 ((IntKind.wrap .i64 ((IntKind.wrap .u64 (w64 (a + b))).fdiv (2 ^ 1))) + m)), (20, v190), (21, v191), (22, w64 ((w64 ((IntKind.wrap .i64 ((IntKind.wrap .u64 (w64 (a + b))).fdiv (2 ^ 1))) + m)) - 1)), (23, (IntKind.wrap .i64 ((IntKind.wrap .u64 (w64 (v190 + v191))).fdiv (2 ^ 1)) : Int)), (171, .v (.bool (!(decide (x197 < 0)))))], [(1, .row 3 (List.map encRank data))], 220, [(1, L 1)]⟩ : St)) rfl ⟨⟨_, rfl, rfl⟩, ⟨_, rfl, rfl⟩, ⟨_, rfl, rfl⟩, ⟨_, rfl, rfl⟩, ⟨_, rfl, ren_fF cmp_r⟩, ⟨_, rfl, rfl⟩, ⟨_, rfl, rfl⟩, ⟨_, rfl, rfl⟩, ⟨_, rfl, rfl⟩, ⟨_, rfl, rfl⟩, ⟨_, rfl, rfl⟩, ⟨_, rfl, rfl⟩, trivial⟩ (by repeat' (first | exact trivial | refine ⟨⟨_, rfl, rfl⟩, ?_⟩)) (andT (allC rfl (allC rfl (allC rfl (allC rfl (allC (known_fF cmp_r) (allC rfl (allC rfl (allC rfl (allC rfl (allC rfl (allC rfl (allC rfl allN)))))))))))) rfl) ⟨⟨rfl, rfl⟩, trivial⟩) ?_
 refine AW.cond (b := (!(decide (x197 < 0)))) rfl (fun hc => ?_) (fun hc => ?_)
 replace hH := condT hc hH
 refine AW.region ?_
 refine AO.pu T ?_
 refine AO.val rfl rfl (arw_ok rfl rfl rfl rfl) ?_
 refine AO.pu T ?_
 refine AO.nil ?_
 refine ⟨(k175, w64 ((IntKind.wrap .i64 ((IntKind.wrap .u64 (w64 (v190 + v191))).fdiv (2 ^ 1))) + 1), v191), hH, Nat.lt_succ_self _, ?_⟩
 exact Le.cut 0 0 rfl ⟨⟨_, rfl, rfl⟩, ⟨_, rfl, rfl⟩, ⟨_, rfl, rfl⟩, ⟨_, rfl, rfl⟩, ⟨_, rfl, ren_fF cmp_r⟩, ⟨_, rfl, rfl⟩, ⟨_, rfl, rfl⟩, ⟨_, rfl, rfl⟩, ⟨_, rfl, rfl⟩, ⟨_, rfl, rfl⟩, trivial⟩ (by repeat' (first | exact trivial | refine ⟨⟨_, rfl, rfl⟩, ?_⟩)) (andT (allC rfl (allC rfl (allC rfl (allC rfl (allC (known_fF cmp_r) (allC rfl (allC rfl (allC rfl (allC rfl (allC rfl allN)))))))))) rfl) ⟨⟨rfl, rfl⟩, trivial⟩
 replace hH := condF hc hH
 refine AW.region ?_
 iterate 2 refine AO.pu T ?_
 refine AO.nil ?_
 refine ⟨(k175, v190, IntKind.wrap .i64 ((IntKind.wrap .u64 (w64 (v190 + v191))).fdiv (2 ^ 1))), hH, Nat.lt_succ_self _, ?_⟩
 exact Le.cut 0 0 rfl ⟨⟨_, rfl, rfl⟩, ⟨_, rfl, rfl⟩, ⟨_, rfl, rfl⟩, ⟨_, rfl, rfl⟩, ⟨_, rfl, ren_fF cmp_r⟩, ⟨_, rfl, rfl⟩, ⟨_, rfl, rfl⟩, ⟨_, rfl, rfl⟩, ⟨_, rfl, rfl⟩, ⟨_, rfl, rfl⟩, trivial⟩ (by repeat' (first | exact trivial | refine ⟨⟨_, rfl, rfl⟩, ?_⟩)) (andT (allC rfl (allC rfl (allC rfl (allC rfl (allC (known_fF cmp_r) (allC rfl (allC rfl (allC rfl (allC rfl (allC rfl allN)))))))))) rfl) ⟨⟨rfl, rfl⟩, trivial⟩
 replace hH := condF hc hH
 refine AW.exit ?_
 refine ⟨_, someE hH, ?_⟩
 exact Le.cut 0 0 rfl ⟨⟨_, rfl, rfl⟩, ⟨_, rfl, rfl⟩, ⟨_, rfl, rfl⟩, ⟨_, rfl, rfl⟩, ⟨_, rfl, ren_fF cmp_r⟩, ⟨_, rfl, rfl⟩, ⟨_, rfl, rfl⟩, ⟨_, rfl, rfl⟩, trivial⟩ (by repeat' (first | exact trivial | refine ⟨⟨_, rfl, rfl⟩, ?_⟩)) (andT (allC rfl (allC rfl (allC rfl (allC rfl (allC (known_fF cmp_r) (allC rfl (allC rfl (allC rfl allN)))))))) rfl) ⟨⟨rfl, rfl⟩, trivial⟩
 rintro v172 hs
 subst hs
 replace hH := hK174
 try dsimp only [flow, flowE] at hH
 try dsimp only
 refine AW.seq (AW.region ?_)
 iterate 2 refine AO.pu T ?_
 refine AO.val rfl rfl (arw_ok rfl rfl rfl rfl) ?_
 refine AO.pu T ?_
 refine AO.nil ?_
 iterate 2 refine AW.seq ?_
 refine AW.region ?_
 iterate 4 refine AO.pu T ?_
 iterate 2 refine AO.pureG T [] rfl trivial rfl rfl ?_
 refine AO.pureG T [182, 183] rfl ⟨fun h => h, fun h => h, trivial⟩ rfl rfl ?_
 refine AO.val rfl rfl (pick_and rfl rfl rfl rfl) ?_
 refine AO.nil ?_
 refine AW.cond (b := (decide (v172 < m) && decide (m < (w64 ((w64 ((IntKind.wrap .i64 ((IntKind.wrap .u64 (w64 (a + b))).fdiv (2 ^ 1))) + m)) - v172))))) rfl (fun hc => ?_) (fun hc => ?_)
 replace hH := condT hc hH
 obtain ⟨x199, hx200, hH⟩ := bindE hH
 refine AW.region ?_
 iterate 5 refine AO.pu T ?_
 refine AO.step rfl (callM_ok rfl 2 rfl rfl (es := [.w 3 (data.map encRank), .v (.int .i64 v172), .v (.int .i64 m), .v (.int .i64 (w64 ((w64 ((IntKind.wrap .i64 ((IntKind.wrap .u64 (w64 (a + b))).fdiv (2 ^ 1))) + m)) - v172))), .f cmp_f cmp_c]) (outs := [.w 3 (x199.map encRank), .u, .u, .u, .u]) (ids := [1]) (by exact expLG_cons (.c (.rowR rfl)) (expLG_cons (.c .v) (expLG_cons (.c .v) (expLG_cons (.c .v) (expLG_cons (.c (.f cmp_r)) (expLG_nil)))))) (by decide) (.inl (by rfl)) (by rfl) (slices_rotateCmpFunc_Rank_ok fuel _ _ _ _ cmp_f cmp_c cmp_k cmp cmp_h _ (hx200)) rfl (by rfl) rfl) ?_
 refine AO.nil ?_
 iterate 2 refine AW.seq ?_
 refine AW.region ?_
 iterate 4 refine AO.pu T ?_
 iterate 2 refine AO.pureG T [] rfl trivial rfl rfl ?_
 refine AO.pureG T [196, 197] rfl ⟨fun h => h, fun h => h, trivial⟩ rfl rfl ?_
 refine AO.val rfl rfl (pick_and rfl rfl rfl rfl) ?_
 refine AO.nil ?_
 refine AW.le (Le.cut 0 0 (σ' := (⟨[(0, .R 1), (1, a), (3, b), (4, .f cmp_f cmp_c), (18, (IntKind.wrap .i64 ((IntKind.wrap .u64 (w64 (a + b))).fdiv (2 ^ 1)) : Int)), (20, v172), (24, w64 ((w64 ((IntKind.wrap .i64 ((IntKind.wrap .u64 (w64 (a + b))).fdiv (2 ^ 1))) + m)) - v172)), (199, .v (.bool (decide (a < v172) && decide (v172 < (IntKind.wrap .i64 ((IntKind.wrap .u64 (w64 (a + b))).fdiv (2 ^ 1)))))))], [(1, .row 3 (List.map encRank x199))], 220, [(1, L 1)]⟩ : St)) rfl ⟨⟨_, rfl, rfl⟩, ⟨_, rfl, rfl⟩, ⟨_, rfl, rfl⟩, ⟨_, rfl, ren_fF cmp_r⟩, ⟨_, rfl, rfl⟩, ⟨_, rfl, rfl⟩, ⟨_, rfl, rfl⟩, ⟨_, rfl, rfl⟩, trivial⟩ (by repeat' (first | exact trivial | refine ⟨⟨_, rfl, rfl⟩, ?_⟩)) (andT (allC rfl (allC rfl (allC rfl (allC (known_fF cmp_r) (allC rfl (allC rfl (allC rfl (allC rfl allN)))))))) rfl) ⟨⟨rfl, rfl⟩, trivial⟩) ?_
 refine AW.cond (b := (decide (a < v172) && decide (v172 < (IntKind.wrap .i64 ((IntKind.wrap .u64 (w64 (a + b))).fdiv (2 ^ 1)))))) rfl (fun hc => ?_) (fun hc => ?_)
 replace hH := condT hc hH
 obtain ⟨x201, hx202, hH⟩ := bindE hH
 refine AW.region ?_
 iterate 5 refine AO.pu T ?_
 refine AO.step rfl (callM_ok rfl 2 rfl rfl (es := [.w 3 (x199.map encRank), .v (.int .i64 a), .v (.int .i64 v172), .v (.int .i64 (IntKind.wrap .i64 ((IntKind.wrap .u64 (w64 (a + b))).fdiv (2 ^ 1)))), .f cmp_f cmp_c]) (outs := [.w 3 (x201.map encRank), .u, .u, .u, .u]) (ids := [1]) (by exact expLG_cons (.c (.rowR rfl)) (expLG_cons (.c .v) (expLG_cons (.c .v) (expLG_cons (.c .v) (expLG_cons (.c (.f cmp_r)) (expLG_nil)))))) (by decide) (.inl (by rfl)) (by rfl) (ih _ _ _ _ cmp_f cmp_c cmp_k cmp cmp_h _ (hx202)) rfl (by rfl) rfl) ?_
 refine AO.nil (AW.seq ?_)
 refine AW.region ?_
 iterate 4 refine AO.pu T ?_
 iterate 2 refine AO.pureG T [] rfl trivial rfl rfl ?_
 refine AO.pureG T [210, 211] rfl ⟨fun h => h, fun h => h, trivial⟩ rfl rfl ?_
 refine AO.val rfl rfl (pick_and rfl rfl rfl rfl) ?_
 refine AO.nil ?_
 refine AW.cond (b := (decide ((IntKind.wrap .i64 ((IntKind.wrap .u64 (w64 (a + b))).fdiv (2 ^ 1))) < (w64 ((w64 ((IntKind.wrap .i64 ((IntKind.wrap .u64 (w64 (a + b))).fdiv (2 ^ 1))) + m)) - v172))) && decide ((w64 ((w64 ((IntKind.wrap .i64 ((IntKind.wrap .u64 (w64 (a + b))).fdiv (2 ^ 1))) + m)) - v172)) < b))) rfl (fun hc => ?_) (fun hc => ?_)
 replace hH := condT hc hH
 obtain ⟨x203, hx204, hH⟩ := bindE hH
 refine AW.region ?_
 iterate 5 refine AO.pu T ?_
 refine AO.step rfl (callM_ok rfl 2 rfl rfl (es := [.w 3 (x201.map encRank), .v (.int .i64 (IntKind.wrap .i64 ((IntKind.wrap .u64 (w64 (a + b))).fdiv (2 ^ 1)))), .v (.int .i64 (w64 ((w64 ((IntKind.wrap .i64 ((IntKind.wrap .u64 (w64 (a + b))).fdiv (2 ^ 1))) + m)) - v172))), .v (.int .i64 b), .f cmp_f cmp_c]) (outs := [.w 3 (x203.map encRank), .u, .u, .u, .u]) (ids := [1]) (by exact expLG_cons (.c (.rowR rfl)) (expLG_cons (.c .v) (expLG_cons (.c .v) (expLG_cons (.c .v) (expLG_cons (.c (.f cmp_r)) (expLG_nil)))))) (by decide) (.inl (by rfl)) (by rfl) (ih _ _ _ _ cmp_f cmp_c cmp_k cmp cmp_h _ (hx204)) rfl (by rfl) rfl) ?_
 refine AO.nil ?_
 have hR := someE hH; subst hR
 exact ⟨trivial, rfl, _, [], [1], rfl, expLG_cons (.c (.rowR rfl)) (expLG_cons (.c .u) (expLG_cons (.c .u) (expLG_cons (.c .u) (expLG_cons (.c .u) (expLG_nil))))), .t expLG_nil, by decide⟩
 replace hH := condF hc hH
 refine AW.skip ?_
 have hR := someE hH; subst hR
 exact ⟨trivial, rfl, _, [], [1], rfl, expLG_cons (.c (.rowR rfl)) (expLG_cons (.c .u) (expLG_cons (.c .u) (expLG_cons (.c .u) (expLG_cons (.c .u) (expLG_nil))))), .t expLG_nil, by decide⟩
 replace hH := condF hc hH
 refine AW.skip ?_
 refine AW.seq (AW.region ?_)
 iterate 4 refine AO.pu T ?_
 iterate 2 refine AO.pureG T [] rfl trivial rfl rfl ?_
 refine AO.pureG T [210, 211] rfl ⟨fun h => h, fun h => h, trivial⟩ rfl rfl ?_
 refine AO.val rfl rfl (pick_and rfl rfl rfl rfl) ?_
 refine AO.nil ?_
 refine AW.cond (b := (decide ((IntKind.wrap .i64 ((IntKind.wrap .u64 (w64 (a + b))).fdiv (2 ^ 1))) < (w64 ((w64 ((IntKind.wrap .i64 ((IntKind.wrap .u64 (w64 (a + b))).fdiv (2 ^ 1))) + m)) - v172))) && decide ((w64 ((w64 ((IntKind.wrap .i64 ((IntKind.wrap .u64 (w64 (a + b))).fdiv (2 ^ 1))) + m)) - v172)) < b))) rfl (fun hc => ?_) (fun hc => ?_)
 replace hH := condT hc hH
 obtain ⟨x205, hx206, hH⟩ := bindE hH
 refine AW.region ?_
 iterate 5 refine AO.pu T ?_
 refine AO.step rfl (callM_ok rfl 2 rfl rfl (es := [.w 3 (x199.map encRank), .v (.int .i64 (IntKind.wrap .i64 ((IntKind.wrap .u64 (w64 (a + b))).fdiv (2 ^ 1)))), .v (.int .i64 (w64 ((w64 ((IntKind.wrap .i64 ((IntKind.wrap .u64 (w64 (a + b))).fdiv (2 ^ 1))) + m)) - v172))), .v (.int .i64 b), .f cmp_f cmp_c]) (outs := [.w 3 (x205.map encRank), .u, .u, .u, .u]) (ids := [1]) (by exact expLG_cons (.c (.rowR rfl)) (expLG_cons (.c .v) (expLG_cons (.c .v) (expLG_cons (.c .v) (expLG_cons (.c (.f cmp_r)) (expLG_nil)))))) (by decide) (.inl (by rfl)) (by rfl) (ih _ _ _ _ cmp_f cmp_c cmp_k cmp cmp_h _ (hx206)) rfl (by rfl) rfl) ?_
 refine AO.nil ?_
 have hR := someE hH; subst hR
 exact ⟨trivial, rfl, _, [], [1], rfl, expLG_cons (.c (.rowR rfl)) (expLG_cons (.c .u) (expLG_cons (.c .u) (expLG_cons (.c .u) (expLG_cons (.c .u) (expLG_nil))))), .t expLG_nil, by decide⟩
 replace hH := condF hc hH
 refine AW.skip ?_
 have hR := someE hH; subst hR
 exact ⟨trivial, rfl, _, [], [1], rfl, expLG_cons (.c (.rowR rfl)) (expLG_cons (.c .u) (expLG_cons (.c .u) (expLG_cons (.c .u) (expLG_cons (.c .u) (expLG_nil))))), .t expLG_nil, by decide⟩
 replace hH := condF hc hH
 refine AW.skip ?_
 iterate 2 refine AW.seq ?_
 refine AW.region ?_
 iterate 4 refine AO.pu T ?_
 iterate 2 refine AO.pureG T [] rfl trivial rfl rfl ?_
 refine AO.pureG T [196, 197] rfl ⟨fun h => h, fun h => h, trivial⟩ rfl rfl ?_
 refine AO.val rfl rfl (pick_and rfl rfl rfl rfl) ?_
 refine AO.nil ?_
 refine AW.cond (b := (decide (a < v172) && decide (v172 < (IntKind.wrap .i64 ((IntKind.wrap .u64 (w64 (a + b))).fdiv (2 ^ 1)))))) rfl (fun hc => ?_) (fun hc => ?_)
 replace hH := condT hc hH
 obtain ⟨x207, hx208, hH⟩ := bindE hH
 refine AW.region ?_
 iterate 5 refine AO.pu T ?_
 refine AO.step rfl (callM_ok rfl 2 rfl rfl (es := [.w 3 (data.map encRank), .v (.int .i64 a), .v (.int .i64 v172), .v (.int .i64 (IntKind.wrap .i64 ((IntKind.wrap .u64 (w64 (a + b))).fdiv (2 ^ 1)))), .f cmp_f cmp_c]) (outs := [.w 3 (x207.map encRank), .u, .u, .u, .u]) (ids := [1]) (by exact expLG_cons (.c (.rowR rfl)) (expLG_cons (.c .v) (expLG_cons (.c .v) (expLG_cons (.c .v) (expLG_cons (.c (.f cmp_r)) (expLG_nil)))))) (by decide) (.inl (by rfl)) (by rfl) (ih _ _ _ _ cmp_f cmp_c cmp_k cmp cmp_h _ (hx208)) rfl (by rfl) rfl) ?_
 refine AO.nil ?_
 refine AW.le (Le.cut 0 0 (σ' := (⟨[(0, .R 1), (3, b), (4, .f cmp_f cmp_c), (18, (IntKind.wrap .i64 ((IntKind.wrap .u64 (w64 (a + b))).fdiv (2 ^ 1)) : Int)), (24, w64 ((w64 ((IntKind.wrap .i64 ((IntKind.wrap .u64 (w64 (a + b))).fdiv (2 ^ 1))) + m)) - v172))], [(1, .row 3 (List.map encRank x207))], 220, [(1, L 1)]⟩ : St)) rfl ⟨⟨_, rfl, rfl⟩, ⟨_, rfl, rfl⟩, ⟨_, rfl, ren_fF cmp_r⟩, ⟨_, rfl, rfl⟩, ⟨_, rfl, rfl⟩, trivial⟩ (by repeat' (first | exact trivial | refine ⟨⟨_, rfl, rfl⟩, ?_⟩)) (andT (allC rfl (allC rfl (allC (known_fF cmp_r) (allC rfl (allC rfl allN))))) rfl) ⟨⟨rfl, rfl⟩, trivial⟩) ?_
 refine AW.seq (AW.region ?_)
 iterate 4 refine AO.pu T ?_
 iterate 2 refine AO.pureG T [] rfl trivial rfl rfl ?_
 refine AO.pureG T [210, 211] rfl ⟨fun h => h, fun h => h, trivial⟩ rfl rfl ?_
 refine AO.val rfl rfl (pick_and rfl rfl rfl rfl) ?_
 refine AO.nil ?_
 refine AW.cond (b := (decide ((IntKind.wrap .i64 ((IntKind.wrap .u64 (w64 (a + b))).fdiv (2 ^ 1))) < (w64 ((w64 ((IntKind.wrap .i64 ((IntKind.wrap .u64 (w64 (a + b))).fdiv (2 ^ 1))) + m)) - v172))) && decide ((w64 ((w64 ((IntKind.wrap .i64 ((IntKind.wrap .u64 (w64 (a + b))).fdiv (2 ^ 1))) + m)) - v172)) < b))) rfl (fun hc => ?_) (fun hc => ?_)
 replace hH := condT hc hH
 obtain ⟨x209, hx210, hH⟩ := bindE hH
 refine AW.region ?_
 iterate 5 refine AO.pu T ?_
 refine AO.step rfl (callM_ok rfl 2 rfl rfl (es := [.w 3 (x207.map encRank), .v (.int .i64 (IntKind.wrap .i64 ((IntKind.wrap .u64 (w64 (a + b))).fdiv (2 ^ 1)))), .v (.int .i64 (w64 ((w64 ((IntKind.wrap .i64 ((IntKind.wrap .u64 (w64 (a + b))).fdiv (2 ^ 1))) + m)) - v172))), .v (.int .i64 b), .f cmp_f cmp_c]) (outs := [.w 3 (x209.map encRank), .u, .u, .u, .u]) (ids := [1]) (by exact expLG_cons (.c (.rowR rfl)) (expLG_cons (.c .v) (expLG_cons (.c .v) (expLG_cons (.c .v) (expLG_cons (.c (.f cmp_r)) (expLG_nil)))))) (by decide) (.inl (by rfl)) (by rfl) (ih _ _ _ _ cmp_f cmp_c cmp_k cmp cmp_h _ (hx210)) rfl (by rfl) rfl) ?_
 refine AO.nil ?_
 have hR := someE hH; subst hR
 exact ⟨trivial, rfl, _, [], [1], rfl, expLG_cons (.c (.rowR rfl)) (expLG_cons (.c .u) (expLG_cons (.c .u) (expLG_cons (.c .u) (expLG_cons (.c .u) (expLG_nil))))), .t expLG_nil, by decide⟩
 replace hH := condF hc hH
 refine AW.skip ?_
 have hR := someE hH; subst hR
 exact ⟨trivial, rfl, _, [], [1], rfl, expLG_cons (.c (.rowR rfl)) (expLG_cons (.c .u) (expLG_cons (.c .u) (expLG_cons (.c .u) (expLG_cons (.c .u) (expLG_nil))))), .t expLG_nil, by decide⟩
 replace hH := condF hc hH
 refine AW.skip ?_
 refine AW.seq (AW.region ?_)
 iterate 4 refine AO.pu T ?_
 iterate 2 refine AO.pureG T [] rfl trivial rfl rfl ?_
 refine AO.pureG T [210, 211] rfl ⟨fun h => h, fun h => h, trivial⟩ rfl rfl ?_
 refine AO.val rfl rfl (pick_and rfl rfl rfl rfl) ?_
 refine AO.nil ?_
 refine AW.le (Le.cut 0 0 (σ' := (⟨[(0, .R 1), (3, b), (4, .f cmp_f cmp_c), (18, (IntKind.wrap .i64 ((IntKind.wrap .u64 (w64 (a + b))).fdiv (2 ^ 1)) : Int)), (24, w64 ((w64 ((IntKind.wrap .i64 ((IntKind.wrap .u64 (w64 (a + b))).fdiv (2 ^ 1))) + m)) - v172)), (213, .v (.bool (decide ((IntKind.wrap .i64 ((IntKind.wrap .u64 (w64 (a + b))).fdiv (2 ^ 1))) < (w64 ((w64 ((IntKind.wrap .i64 ((IntKind.wrap .u64 (w64 (a + b))).fdiv (2 ^ 1))) + m)) - v172))) && decide ((w64 ((w64 ((IntKind.wrap .i64 ((IntKind.wrap .u64 (w64 (a + b))).fdiv (2 ^ 1))) + m)) - v172)) < b))))], [(1, .row 3 (List.map encRank data))], 220, [(1, L 1)]⟩ : St)) rfl ⟨⟨_, rfl, rfl⟩, ⟨_, rfl, rfl⟩, ⟨_, rfl, ren_fF cmp_r⟩, ⟨_, rfl, rfl⟩, ⟨_, rfl, rfl⟩, ⟨_, rfl, rfl⟩, trivial⟩ (by repeat' (first | exact trivial | refine ⟨⟨_, rfl, rfl⟩, ?_⟩)) (andT (allC rfl (allC rfl (allC (known_fF cmp_r) (allC rfl (allC rfl (allC rfl allN)))))) rfl) ⟨⟨rfl, rfl⟩, trivial⟩) ?_
 refine AW.cond (b := (decide ((IntKind.wrap .i64 ((IntKind.wrap .u64 (w64 (a + b))).fdiv (2 ^ 1))) < (w64 ((w64 ((IntKind.wrap .i64 ((IntKind.wrap .u64 (w64 (a + b))).fdiv (2 ^ 1))) + m)) - v172))) && decide ((w64 ((w64 ((IntKind.wrap .i64 ((IntKind.wrap .u64 (w64 (a + b))).fdiv (2 ^ 1))) + m)) - v172)) < b))) rfl (fun hc => ?_) (fun hc => ?_)
 replace hH := condT hc hH
 obtain ⟨x211, hx212, hH⟩ := bindE hH
 refine AW.region ?_
 iterate 5 refine AO.pu T ?_
 refine AO.step rfl (callM_ok rfl 2 rfl rfl (es := [.w 3 (data.map encRank), .v (.int .i64 (IntKind.wrap .i64 ((IntKind.wrap .u64 (w64 (a + b))).fdiv (2 ^ 1)))), .v (.int .i64 (w64 ((w64 ((IntKind.wrap .i64 ((IntKind.wrap .u64 (w64 (a + b))).fdiv (2 ^ 1))) + m)) - v172))), .v (.int .i64 b), .f cmp_f cmp_c]) (outs := [.w 3 (x211.map encRank), .u, .u, .u, .u]) (ids := [1]) (by exact expLG_cons (.c (.rowR rfl)) (expLG_cons (.c .v) (expLG_cons (.c .v) (expLG_cons (.c .v) (expLG_cons (.c (.f cmp_r)) (expLG_nil)))))) (by decide) (.inl (by rfl)) (by rfl) (ih _ _ _ _ cmp_f cmp_c cmp_k cmp cmp_h _ (hx212)) rfl (by rfl) rfl) ?_
 refine AO.nil ?_
 have hR := someE hH; subst hR
 exact ⟨trivial, rfl, _, [], [1], rfl, expLG_cons (.c (.rowR rfl)) (expLG_cons (.c .u) (expLG_cons (.c .u) (expLG_cons (.c .u) (expLG_cons (.c .u) (expLG_nil))))), .t expLG_nil, by decide⟩
 replace hH := condF hc hH
 refine AW.skip ?_
 have hR := someE hH; subst hR
 exact ⟨trivial, rfl, _, [], [1], rfl, expLG_cons (.c (.rowR rfl)) (expLG_cons (.c .u) (expLG_cons (.c .u) (expLG_cons (.c .u) (expLG_cons (.c .u) (expLG_nil))))), .t expLG_nil, by decide⟩
 replace hH := condF hc hH
 refine AW.seq (AW.region ?_)
 iterate 2 refine AO.pu T ?_
 refine AO.nil ?_
 refine AW.region ?_
 iterate 2 refine AO.pu T ?_
 refine AO.nil (AW.seq ?_)
 refine AW.region ?_
 refine AO.pu T ?_
 refine AO.val rfl rfl (arw_ok rfl rfl rfl rfl) ?_
 refine AO.pu T ?_
 refine AO.nil ?_
 obtain ⟨o237, hH, hK238⟩ := bindE hH
 refine AW.seqJ (fun s : Int => (⟨[(0, .R 1), (1, a), (2, m), (3, b), (4, .f cmp_f cmp_c), (18, (IntKind.wrap .i64 ((IntKind.wrap .u64 (w64 (a + b))).fdiv (2 ^ 1)) : Int)), (19, w64 ((IntKind.wrap .i64 ((IntKind.wrap .u64 (w64 (a + b))).fdiv (2 ^ 1))) + m)), (20, s)], [(1, .row 3 (List.map encRank data))], 220, [(1, L 1)]⟩ : St)) (fun s => s = o237) ?_ ?_
 refine AW.block ?_
 refine AW.loopS (fun s : Nat × Int × Int => (⟨[(0, .R 1), (1, a), (2, m), (3, b), (4, .f cmp_f cmp_c), (18, (IntKind.wrap .i64 ((IntKind.wrap .u64 (w64 (a + b))).fdiv (2 ^ 1)) : Int)), (19, w64 ((IntKind.wrap .i64 ((IntKind.wrap .u64 (w64 (a + b))).fdiv (2 ^ 1))) + m)), (20, s.2.1), (21, s.2.2), (22, w64 ((w64 ((IntKind.wrap .i64 ((IntKind.wrap .u64 (w64 (a + b))).fdiv (2 ^ 1))) + m)) - 1))], [(1, .row 3 (List.map encRank data))], 220, [(1, L 1)]⟩ : St)) (fun s => slices_symMergeCmpFunc_Rank_l6 data a m b cmp s.1 s.2.1 s.2.2 = some o237) (fun s => s.1) (fuel, a, m) hH ?_ ?_
 exact Le.cut 0 0 rfl ⟨⟨_, rfl, rfl⟩, ⟨_, rfl, rfl⟩, ⟨_, rfl, rfl⟩, ⟨_, rfl, rfl⟩, ⟨_, rfl, ren_fF cmp_r⟩, ⟨_, rfl, rfl⟩, ⟨_, rfl, rfl⟩, ⟨_, rfl, rfl⟩, ⟨_, rfl, rfl⟩, ⟨_, rfl, rfl⟩, trivial⟩ (by repeat' (first | exact trivial | refine ⟨⟨_, rfl, rfl⟩, ?_⟩)) (andT (allC rfl (allC rfl (allC rfl (allC rfl (allC (known_fF cmp_r) (allC rfl (allC rfl (allC rfl (allC rfl (allC rfl allN)))))))))) rfl) ⟨⟨rfl, rfl⟩, trivial⟩
 rintro ⟨k239, v254, v255⟩ hH
 replace hH : slices_symMergeCmpFunc_Rank_l6 data a m b cmp k239 v254 v255 = some o237 := hH
 try dsimp only
 rcases k239 with _ | k239
 cases (show none = some _ from hH)
 rw [slices_symMergeCmpFunc_Rank_l6] at hH
 iterate 2 refine AW.seq ?_
 refine AW.region ?_
 iterate 3 refine AO.pu T ?_
 refine AO.nil ?_
 refine AW.cond (b := decide (v254 < v255)) rfl (fun hc => ?_) (fun hc => ?_)
 replace hH := condT hc hH
 refine AW.skip ?_
 refine AW.block ?_
 refine AW.seq (AW.region ?_)
 iterate 2 refine AO.pu T ?_
 refine AO.val rfl rfl (arw_ok rfl rfl rfl rfl) ?_
 refine AO.val rfl rfl (convw_ok T rfl rfl rfl rfl) ?_
 refine AO.val rfl rfl (shr_ok rfl rfl rfl rfl rfl) ?_
 refine AO.val rfl rfl (convw_ok T rfl rfl rfl rfl) ?_
 refine AO.pu T ?_
 refine AO.nil (AW.seq ?_)
 obtain ⟨x257, hx258, hH⟩ := bindE hH
 obtain ⟨x259, hx260, hH⟩ := bindE hH
 obtain ⟨x261, hx262, hH⟩ := bindE hH
 refine AW.drawn 11 2 [] mix (by kernel_rfl) rfl ?_
 iterate 4 refine AD.pure T rfl rfl rfl ?_
 refine AD.val rfl rfl (arw_ok rfl rfl rfl rfl) ?_
 refine AD.val rfl rfl (ix_row_ok T rfl rfl rfl rfl rfl rfl (hx258)) ?_
 refine AD.val rfl rfl (load_row_ok T rfl rfl rfl rfl (getI_get (hx258)) rfl rfl rfl) ?_
 iterate 2 refine AD.pure T rfl rfl rfl ?_
 refine AD.val rfl rfl (ix_row_ok T rfl rfl rfl rfl rfl rfl (hx260)) ?_
 refine AD.val rfl rfl (load_row_ok T rfl rfl rfl rfl (getI_get (hx260)) rfl rfl rfl) ?_
 refine AD.nil ?_
 refine AO.val rfl rfl (callV_ok rfl rfl rfl (andT rfl (free_cfree cmp_r)) (cmp_h _ _ _ (hx262)) rfl) ?_
 iterate 2 refine AO.pu T ?_
 refine AO.nil ?_
 refine AW.le (Le.cut 0 0 (σ' := (⟨[(0, .R 1), (1, a), (2, m), (3, b), (4, .f cmp_f cmp_c), (18, (IntKind.wrap .i64 ((IntKind.wrap .u64 (w64 (a + b))).fdiv (2 ^ 1)) : Int)), (19, w64 ((IntKind.wrap .i64 ((IntKind.wrap .u64 (w64 (a + b))).fdiv (2 ^ 1))) + m)), (20, v254), (21, v255), (22, w64 ((w64 ((IntKind.wrap .i64 ((IntKind.wrap .u64 (w64 (a + b))).fdiv (2 ^ 1))) + m)) - 1)), (23, (IntKind.wrap .i64 ((IntKind.wrap .u64 (w64 (v254 + v255))).fdiv (2 ^ 1)) : Int)), (171, .v (.bool (!(decide (x261 < 0)))))], [(1, .row 3 (List.map encRank data))], 220, [(1, L 1)]⟩ : St)) rfl ⟨⟨_, rfl, rfl⟩, ⟨_, rfl, rfl⟩, ⟨_, rfl, rfl⟩, ⟨_, rfl, rfl⟩, ⟨_, rfl, ren_fF cmp_r⟩, ⟨_, rfl, rfl⟩, ⟨_, rfl, rfl⟩, ⟨_, rfl, rfl⟩, ⟨_, rfl, rfl⟩, ⟨_, rfl, rfl⟩, ⟨_, rfl, rfl⟩, ⟨_, rfl, rfl⟩, trivial⟩ (by repeat' (first | exact trivial | refine ⟨⟨_, rfl, rfl⟩, ?_⟩)) (andT (allC rfl (allC rfl (allC rfl (allC rfl (allC (known_fF cmp_r) (allC rfl (allC rfl (allC rfl (allC rfl (allC rfl (allC rfl (allC rfl allN)))))))))))) rfl) ⟨⟨rfl, rfl⟩, trivial⟩) ?_
 refine AW.cond (b := (!(decide (x261 < 0)))) rfl (fun hc => ?_) (fun hc => ?_)
 replace hH := condT hc hH
 refine AW.region ?_
 refine AO.pu T ?_
 refine AO.val rfl rfl (arw_ok rfl rfl rfl rfl) ?_
 refine AO.pu T ?_
 refine AO.nil ?_
 refine ⟨(k239, w64 ((IntKind.wrap .i64 ((IntKind.wrap .u64 (w64 (v254 + v255))).fdiv (2 ^ 1))) + 1), v255), hH, Nat.lt_succ_self _, ?_⟩
 exact Le.cut 0 0 rfl ⟨⟨_, rfl, rfl⟩, ⟨_, rfl, rfl⟩, ⟨_, rfl, rfl⟩, ⟨_, rfl, rfl⟩, ⟨_, rfl, ren_fF cmp_r⟩, ⟨_, rfl, rfl⟩, ⟨_, rfl, rfl⟩, ⟨_, rfl, rfl⟩, ⟨_, rfl, rfl⟩, ⟨_, rfl, rfl⟩, trivial⟩ (by repeat' (first | exact trivial | refine ⟨⟨_, rfl, rfl⟩, ?_⟩)) (andT (allC rfl (allC rfl (allC rfl (allC rfl (allC (known_fF cmp_r) (allC rfl (allC rfl (allC rfl (allC rfl (allC rfl allN)))))))))) rfl) ⟨⟨rfl, rfl⟩, trivial⟩
 replace hH := condF hc hH
 refine AW.region ?_
 iterate 2 refine AO.pu T ?_
 refine AO.nil ?_
 refine ⟨(k239, v254, IntKind.wrap .i64 ((IntKind.wrap .u64 (w64 (v254 + v255))).fdiv (2 ^ 1))), hH, Nat.lt_succ_self _, ?_⟩
 exact Le.cut 0 0 rfl ⟨⟨_, rfl, rfl⟩, ⟨_, rfl, rfl⟩, ⟨_, rfl, rfl⟩, ⟨_, rfl, rfl⟩, ⟨_, rfl, ren_fF cmp_r⟩, ⟨_, rfl, rfl⟩, ⟨_, rfl, rfl⟩, ⟨_, rfl, rfl⟩, ⟨_, rfl, rfl⟩, ⟨_, rfl, rfl⟩, trivial⟩ (by repeat' (first | exact trivial | refine ⟨⟨_, rfl, rfl⟩, ?_⟩)) (andT (allC rfl (allC rfl (allC rfl (allC rfl (allC (known_fF cmp_r) (allC rfl (allC rfl (allC rfl (allC rfl (allC rfl allN)))))))))) rfl) ⟨⟨rfl, rfl⟩, trivial⟩
 replace hH := condF hc hH
 refine AW.exit ?_
 refine ⟨_, someE hH, ?_⟩
 exact Le.cut 0 0 rfl ⟨⟨_, rfl, rfl⟩, ⟨_, rfl, rfl⟩, ⟨_, rfl, rfl⟩, ⟨_, rfl, rfl⟩, ⟨_, rfl, ren_fF cmp_r⟩, ⟨_, rfl, rfl⟩, ⟨_, rfl, rfl⟩, ⟨_, rfl, rfl⟩, trivial⟩ (by repeat' (first | exact trivial | refine ⟨⟨_, rfl, rfl⟩, ?_⟩)) (andT (allC rfl (allC rfl (allC rfl (allC rfl (allC (known_fF cmp_r) (allC rfl (allC rfl (allC rfl allN)))))))) rfl) ⟨⟨rfl, rfl⟩, trivial⟩
 rintro v236 hs
 subst hs
 replace hH := hK238
 try dsimp only [flow, flowE] at hH
 try dsimp only
 refine AW.seq (AW.region ?_)
 iterate 2 refine AO.pu T ?_
 refine AO.val rfl rfl (arw_ok rfl rfl rfl rfl) ?_
 refine AO.pu T ?_
 refine AO.nil ?_
 iterate 2 refine AW.seq ?_
 refine AW.region ?_
 iterate 4 refine AO.pu T ?_
 iterate 2 refine AO.pureG T [] rfl trivial rfl rfl ?_
 refine AO.pureG T [182, 183] rfl ⟨fun h => h, fun h => h, trivial⟩ rfl rfl ?_
 refine AO.val rfl rfl (pick_and rfl rfl rfl rfl) ?_
 refine AO.nil ?_
 refine AW.cond (b := (decide (v236 < m) && decide (m < (w64 ((w64 ((IntKind.wrap .i64 ((IntKind.wrap .u64 (w64 (a + b))).fdiv (2 ^ 1))) + m)) - v236))))) rfl (fun hc => ?_) (fun hc => ?_)
 replace hH := condT hc hH
 obtain ⟨x263, hx264, hH⟩ := bindE hH
 refine AW.region ?_
 iterate 5 refine AO.pu T ?_
 refine AO.step rfl (callM_ok rfl 2 rfl rfl (es := [.w 3 (data.map encRank), .v (.int .i64 v236), .v (.int .i64 m), .v (.int .i64 (w64 ((w64 ((IntKind.wrap .i64 ((IntKind.wrap .u64 (w64 (a + b))).fdiv (2 ^ 1))) + m)) - v236))), .f cmp_f cmp_c]) (outs := [.w 3 (x263.map encRank), .u, .u, .u, .u]) (ids := [1]) (by exact expLG_cons (.c (.rowR rfl)) (expLG_cons (.c .v) (expLG_cons (.c .v) (expLG_cons (.c .v) (expLG_cons (.c (.f cmp_r)) (expLG_nil)))))) (by decide) (.inl (by rfl)) (by rfl) (slices_rotateCmpFunc_Rank_ok fuel _ _ _ _ cmp_f cmp_c cmp_k cmp cmp_h _ (hx264)) rfl (by rfl) rfl) ?_
 refine AO.nil ?_
 iterate 2 refine AW.seq ?_
 refine AW.region ?_
 iterate 4 refine AO.pu T ?_
 iterate 2 refine AO.pureG T [] rfl trivial rfl rfl ?_
 refine AO.pureG T [196, 197] rfl ⟨fun h => h, fun h => h, trivial⟩ rfl rfl ?_
 refine AO.val rfl rfl (pick_and rfl rfl rfl rfl) ?_
 refine AO.nil ?_
 refine AW.le (Le.cut 0 0 (σ' := (⟨[(0, .R 1), (1, a), (3, b), (4, .f cmp_f cmp_c), (18, (IntKind.wrap .i64 ((IntKind.wrap .u64 (w64 (a + b))).fdiv (2 ^ 1)) : Int)), (20, v236), (24, w64 ((w64 ((IntKind.wrap .i64 ((IntKind.wrap .u64 (w64 (a + b))).fdiv (2 ^ 1))) + m)) - v236)), (199, .v (.bool (decide (a < v236) && decide (v236 < (IntKind.wrap .i64 ((IntKind.wrap .u64 (w64 (a + b))).fdiv (2 ^ 1)))))))], [(1, .row 3 (List.map encRank x263))], 220, [(1, L 1)]⟩ : St)) rfl ⟨⟨_, rfl, rfl⟩, ⟨_, rfl, rfl⟩, ⟨_, rfl, rfl⟩, ⟨_, rfl, ren_fF cmp_r⟩, ⟨_, rfl, rfl⟩, ⟨_, rfl, rfl⟩, ⟨_, rfl, rfl⟩, ⟨_, rfl, rfl⟩, trivial⟩ (by repeat' (first | exact trivial | refine ⟨⟨_, rfl, rfl⟩, ?_⟩)) (andT (allC rfl (allC rfl (allC rfl (allC (known_fF cmp_r) (allC rfl (allC rfl (allC rfl (allC rfl allN)))))))) rfl) ⟨⟨rfl, rfl⟩, trivial⟩) ?_
 refine AW.cond (b := (decide (a < v236) && decide (v236 < (IntKind.wrap .i64 ((IntKind.wrap .u64 (w64 (a + b))).fdiv (2 ^ 1)))))) rfl (fun hc => ?_) (fun hc => ?_)
 replace hH := condT hc hH
 obtain ⟨x265, hx266, hH⟩ := bindE hH
 refine AW.region ?_
 iterate 5 refine AO.pu T ?_
 refine AO.step rfl (callM_ok rfl 2 rfl rfl (es := [.w 3 (x263.map encRank), .v (.int .i64 a), .v (.int .i64 v236), .v (.int .i64 (IntKind.wrap .i64 ((IntKind.wrap .u64 (w64 (a + b))).fdiv (2 ^ 1)))), .f cmp_f cmp_c]) (outs := [.w 3 (x265.map encRank), .u, .u, .u, .u]) (ids := [1]) (by exact expLG_cons (.c (.rowR rfl)) (expLG_cons (.c .v) (expLG_cons (.c .v) (expLG_cons (.c .v) (expLG_cons (.c (.f cmp_r)) (expLG_nil)))))) (by decide) (.inl (by rfl)) (by rfl) (ih _ _ _ _ cmp_f cmp_c cmp_k cmp cmp_h _ (hx266)) rfl (by rfl) rfl) ?_
 refine AO.nil (AW.seq ?_)
 refine AW.region ?_
 iterate 4 refine AO.pu T ?_
 iterate 2 refine AO.pureG T [] rfl trivial rfl rfl ?_
 refine AO.pureG T [210, 211] rfl ⟨fun h => h, fun h => h, trivial⟩ rfl rfl ?_
 refine AO.val rfl rfl (pick_and rfl rfl rfl rfl) ?_
 refine AO.nil ?_
 refine AW.cond (b := (decide ((IntKind.wrap .i64 ((IntKind.wrap .u64 (w64 (a + b))).fdiv (2 ^ 1))) < (w64 ((w64 ((IntKind.wrap .i64 ((IntKind.wrap .u64 (w64 (a + b))).fdiv (2 ^ 1))) + m)) - v236))) && decide ((w64 ((w64 ((IntKind.wrap .i64 ((IntKind.wrap .u64 (w64 (a + b))).fdiv (2 ^ 1))) + m)) - v236)) < b))) rfl (fun hc => ?_) (fun hc => ?_)
 replace hH := condT hc hH
 obtain ⟨x267, hx268, hH⟩ := bindE hH
 refine AW.region ?_
 iterate 5 refine AO.pu T ?_
 refine AO.step rfl (callM_ok rfl 2 rfl rfl (es := [.w 3 (x265.map encRank), .v (.int .i64 (IntKind.wrap .i64 ((IntKind.wrap .u64 (w64 (a + b))).fdiv (2 ^ 1)))), .v (.int .i64 (w64 ((w64 ((IntKind.wrap .i64 ((IntKind.wrap .u64 (w64 (a + b))).fdiv (2 ^ 1))) + m)) - v236))), .v (.int .i64 b), .f cmp_f cmp_c]) (outs := [.w 3 (x267.map encRank), .u, .u, .u, .u]) (ids := [1]) (by exact expLG_cons (.c (.rowR rfl)) (expLG_cons (.c .v) (expLG_cons (.c .v) (expLG_cons (.c .v) (expLG_cons (.c (.f cmp_r)) (expLG_nil)))))) (by decide) (.inl (by rfl)) (by rfl) (ih _ _ _ _ cmp_f cmp_c cmp_k cmp cmp_h _ (hx268)) rfl (by rfl) rfl) ?_
 refine AO.nil ?_
 have hR := someE hH; subst hR
 exact ⟨trivial, rfl, _, [], [1], rfl, expLG_cons (.c (.rowR rfl)) (expLG_cons (.c .u) (expLG_cons (.c .u) (expLG_cons (.c .u) (expLG_cons (.c .u) (expLG_nil))))), .t expLG_nil, by decide⟩
 replace hH := condF hc hH
 refine AW.skip ?_
 have hR := someE hH; subst hR
 exact ⟨trivial, rfl, _, [], [1], rfl, expLG_cons (.c (.rowR rfl)) (expLG_cons (.c .u) (expLG_cons (.c .u) (expLG_cons (.c .u) (expLG_cons (.c .u) (expLG_nil))))), .t expLG_nil, by decide⟩
 replace hH := condF hc hH
 refine AW.skip ?_
 refine AW.seq (AW.region ?_)
 iterate 4 refine AO.pu T ?_
 iterate 2 refine AO.pureG T [] rfl trivial rfl rfl ?_
 refine AO.pureG T [210, 211] rfl ⟨fun h => h, fun h => h, trivial⟩ rfl rfl ?_
 refine AO.val rfl rfl (pick_and rfl rfl rfl rfl) ?_
 refine AO.nil ?_
 refine AW.cond (b := (decide ((IntKind.wrap .i64 ((IntKind.wrap .u64 (w64 (a + b))).fdiv (2 ^ 1))) < (w64 ((w64 ((IntKind.wrap .i64 ((IntKind.wrap .u64 (w64 (a + b))).fdiv (2 ^ 1))) + m)) - v236))) && decide ((w64 ((w64 ((IntKind.wrap .i64 ((IntKind.wrap .u64 (w64 (a + b))).fdiv (2 ^ 1))) + m)) - v236)) < b))) rfl (fun hc => ?_) (fun hc => ?_)
 replace hH := condT hc hH
 obtain ⟨x269, hx270, hH⟩ := bindE hH
 refine AW.region ?_
 iterate 5 refine AO.pu T ?_
 refine AO.step rfl (callM_ok rfl 2 rfl rfl (es := [.w 3 (x263.map encRank), .v (.int .i64 (IntKind.wrap .i64 ((IntKind.wrap .u64 (w64 (a + b))).fdiv (2 ^ 1)))), .v (.int .i64 (w64 ((w64 ((IntKind.wrap .i64 ((IntKind.wrap .u64 (w64 (a + b))).fdiv (2 ^ 1))) + m)) - v236))), .v (.int .i64 b), .f cmp_f cmp_c]) (outs := [.w 3 (x269.map encRank), .u, .u, .u, .u]) (ids := [1]) (by exact expLG_cons (.c (.rowR rfl)) (expLG_cons (.c .v) (expLG_cons (.c .v) (expLG_cons (.c .v) (expLG_cons (.c (.f cmp_r)) (expLG_nil)))))) (by decide) (.inl (by rfl)) (by rfl) (ih _ _ _ _ cmp_f cmp_c cmp_k cmp cmp_h _ (hx270)) rfl (by rfl) rfl) ?_
 refine AO.nil ?_
 have hR := someE hH; subst hR
 exact ⟨trivial, rfl, _, [], [1], rfl, expLG_cons (.c (.rowR rfl)) (expLG_cons (.c .u) (expLG_cons (.c .u) (expLG_cons (.c .u) (expLG_cons (.c .u) (expLG_nil))))), .t expLG_nil, by decide⟩
 replace hH := condF hc hH
 refine AW.skip ?_
 have hR := someE hH; subst hR
 exact ⟨trivial, rfl, _, [], [1], rfl, expLG_cons (.c (.rowR rfl)) (expLG_cons (.c .u) (expLG_cons (.c .u) (expLG_cons (.c .u) (expLG_cons (.c .u) (expLG_nil))))), .t expLG_nil, by decide⟩
 replace hH := condF hc hH
 refine AW.skip ?_
 iterate 2 refine AW.seq ?_
 refine AW.region ?_
 iterate 4 refine AO.pu T ?_
 iterate 2 refine AO.pureG T [] rfl trivial rfl rfl ?_
 refine AO.pureG T [196, 197] rfl ⟨fun h => h, fun h => h, trivial⟩ rfl rfl ?_
 refine AO.val rfl rfl (pick_and rfl rfl rfl rfl) ?_
 refine AO.nil ?_
 refine AW.cond (b := (decide (a < v236) && decide (v236 < (IntKind.wrap .i64 ((IntKind.wrap .u64 (w64 (a + b))).fdiv (2 ^ 1)))))) rfl (fun hc => ?_) (fun hc => ?_)
 replace hH := condT hc hH
 obtain ⟨x271, hx272, hH⟩ := bindE hH
 refine AW.region ?_
 iterate 5 refine AO.pu T ?_
 refine AO.step rfl (callM_ok rfl 2 rfl rfl (es := [.w 3 (data.map encRank), .v (.int .i64 a), .v (.int .i64 v236), .v (.int .i64 (IntKind.wrap .i64 ((IntKind.wrap .u64 (w64 (a + b))).fdiv (2 ^ 1)))), .f cmp_f cmp_c]) (outs := [.w 3 (x271.map encRank), .u, .u, .u, .u]) (ids := [1]) (by exact expLG_cons (.c (.rowR rfl)) (expLG_cons (.c .v) (expLG_cons (.c .v) (expLG_cons (.c .v) (expLG_cons (.c (.f cmp_r)) (expLG_nil)))))) (by decide) (.inl (by rfl)) (by rfl) (ih _ _ _ _ cmp_f cmp_c cmp_k cmp cmp_h _ (hx272)) rfl (by rfl) rfl) ?_
 refine AO.nil ?_
 refine AW.le (Le.cut 0 0 (σ' := (⟨[(0, .R 1), (3, b), (4, .f cmp_f cmp_c), (18, (IntKind.wrap .i64 ((IntKind.wrap .u64 (w64 (a + b))).fdiv (2 ^ 1)) : Int)), (24, w64 ((w64 ((IntKind.wrap .i64 ((IntKind.wrap .u64 (w64 (a + b))).fdiv (2 ^ 1))) + m)) - v236))], [(1, .row 3 (List.map encRank x271))], 220, [(1, L 1)]⟩ : St)) rfl ⟨⟨_, rfl, rfl⟩, ⟨_, rfl, rfl⟩, ⟨_, rfl, ren_fF cmp_r⟩, ⟨_, rfl, rfl⟩, ⟨_, rfl, rfl⟩, trivial⟩ (by repeat' (first | exact trivial | refine ⟨⟨_, rfl, rfl⟩, ?_⟩)) (andT (allC rfl (allC rfl (allC (known_fF cmp_r) (allC rfl (allC rfl allN))))) rfl) ⟨⟨rfl, rfl⟩, trivial⟩) ?_
 refine AW.seq (AW.region ?_)
 iterate 4 refine AO.pu T ?_
 iterate 2 refine AO.pureG T [] rfl trivial rfl rfl ?_
 refine AO.pureG T [210, 211] rfl ⟨fun h => h, fun h => h, trivial⟩ rfl rfl ?_
 refine AO.val rfl rfl (pick_and rfl rfl rfl rfl) ?_
 refine AO.nil ?_
 refine AW.cond (b := (decide ((IntKind.wrap .i64 ((IntKind.wrap .u64 (w64 (a + b))).fdiv (2 ^ 1))) < (w64 ((w64 ((IntKind.wrap .i64 ((IntKind.wrap .u64 (w64 (a + b))).fdiv (2 ^ 1))) + m)) - v236))) && decide ((w64 ((w64 ((IntKind.wrap .i64 ((IntKind.wrap .u64 (w64 (a + b))).fdiv (2 ^ 1))) + m)) - v236)) < b))) rfl (fun hc => ?_) (fun hc => ?_)
 replace hH := condT hc hH
 obtain ⟨x273, hx274, hH⟩ := bindE hH
 refine AW.region ?_
 iterate 5 refine AO.pu T ?_
 refine AO.step rfl (callM_ok rfl 2 rfl rfl (es := [.w 3 (x271.map encRank), .v (.int .i64 (IntKind.wrap .i64 ((IntKind.wrap .u64 (w64 (a + b))).fdiv (2 ^ 1)))), .v (.int .i64 (w64 ((w64 ((IntKind.wrap .i64 ((IntKind.wrap .u64 (w64 (a + b))).fdiv (2 ^ 1))) + m)) - v236))), .v (.int .i64 b), .f cmp_f cmp_c]) (outs := [.w 3 (x273.map encRank), .u, .u, .u, .u]) (ids := [1]) (by exact expLG_cons (.c (.rowR rfl)) (expLG_cons (.c .v) (expLG_cons (.c .v) (expLG_cons (.c .v) (expLG_cons (.c (.f cmp_r)) (expLG_nil)))))) (by decide) (.inl (by rfl)) (by rfl) (ih _ _ _ _ cmp_f cmp_c cmp_k cmp cmp_h _ (hx274)) rfl (by rfl) rfl) ?_
 refine AO.nil ?_
 have hR := someE hH; subst hR
 exact ⟨trivial, rfl, _, [], [1], rfl, expLG_cons (.c (.rowR rfl)) (expLG_cons (.c .u) (expLG_cons (.c .u) (expLG_cons (.c .u) (expLG_cons (.c .u) (expLG_nil))))), .t expLG_nil, by decide⟩
 replace hH := condF hc hH
 refine AW.skip ?_
 have hR := someE hH; subst hR
 exact ⟨trivial, rfl, _, [], [1], rfl, expLG_cons (.c (.rowR rfl)) (expLG_cons (.c .u) (expLG_cons (.c .u) (expLG_cons (.c .u) (expLG_cons (.c .u) (expLG_nil))))), .t expLG_nil, by decide⟩
 replace hH := condF hc hH
 refine AW.skip ?_
 refine AW.seq (AW.region ?_)
 iterate 4 refine AO.pu T ?_
 iterate 2 refine AO.pureG T [] rfl trivial rfl rfl ?_
 refine AO.pureG T [210, 211] rfl ⟨fun h => h, fun h => h, trivial⟩ rfl rfl ?_
 refine AO.val rfl rfl (pick_and rfl rfl rfl rfl) ?_
 refine AO.nil ?_
 refine AW.le (Le.cut 0 0 (σ' := (⟨[(0, .R 1), (3, b), (4, .f cmp_f cmp_c), (18, (IntKind.wrap .i64 ((IntKind.wrap .u64 (w64 (a + b))).fdiv (2 ^ 1)) : Int)), (24, w64 ((w64 ((IntKind.wrap .i64 ((IntKind.wrap .u64 (w64 (a + b))).fdiv (2 ^ 1))) + m)) - v236)), (213, .v (.bool (decide ((IntKind.wrap .i64 ((IntKind.wrap .u64 (w64 (a + b))).fdiv (2 ^ 1))) < (w64 ((w64 ((IntKind.wrap .i64 ((IntKind.wrap .u64 (w64 (a + b))).fdiv (2 ^ 1))) + m)) - v236))) && decide ((w64 ((w64 ((IntKind.wrap .i64 ((IntKind.wrap .u64 (w64 (a + b))).fdiv (2 ^ 1))) + m)) - v236)) < b))))], [(1, .row 3 (List.map encRank data))], 220, [(1, L 1)]⟩ : St)) rfl ⟨⟨_, rfl, rfl⟩, ⟨_, rfl, rfl⟩, ⟨_, rfl, ren_fF cmp_r⟩, ⟨_, rfl, rfl⟩, ⟨_, rfl, rfl⟩, ⟨_, rfl, rfl⟩, trivial⟩ (by repeat' (first | exact trivial | refine ⟨⟨_, rfl, rfl⟩, ?_⟩)) (andT (allC rfl (allC rfl (allC (known_fF cmp_r) (allC rfl (allC rfl (allC rfl allN)))))) rfl) ⟨⟨rfl, rfl⟩, trivial⟩) ?_
 refine AW.cond (b := (decide ((IntKind.wrap .i64 ((IntKind.wrap .u64 (w64 (a + b))).fdiv (2 ^ 1))) < (w64 ((w64 ((IntKind.wrap .i64 ((IntKind.wrap .u64 (w64 (a + b))).fdiv (2 ^ 1))) + m)) - v236))) && decide ((w64 ((w64 ((IntKind.wrap .i64 ((IntKind.wrap .u64 (w64 (a + b))).fdiv (2 ^ 1))) + m)) - v236)) < b))) rfl (fun hc => ?_) (fun hc => ?_)
 replace hH := condT hc hH
 obtain ⟨x275, hx276, hH⟩ := bindE hH
 refine AW.region ?_
 iterate 5 refine AO.pu T ?_
 refine AO.step rfl (callM_ok rfl 2 rfl rfl (es := [.w 3 (data.map encRank), .v (.int .i64 (IntKind.wrap .i64 ((IntKind.wrap .u64 (w64 (a + b))).fdiv (2 ^ 1)))), .v (.int .i64 (w64 ((w64 ((IntKind.wrap .i64 ((IntKind.wrap .u64 (w64 (a + b))).fdiv (2 ^ 1))) + m)) - v236))), .v (.int .i64 b), .f cmp_f cmp_c]) (outs := [.w 3 (x275.map encRank), .u, .u, .u, .u]) (ids := [1]) (by exact expLG_cons (.c (.rowR rfl)) (expLG_cons (.c .v) (expLG_cons (.c .v) (expLG_cons (.c .v) (expLG_cons (.c (.f cmp_r)) (expLG_nil)))))) (by decide) (.inl (by rfl)) (by rfl) (ih _ _ _ _ cmp_f cmp_c cmp_k cmp cmp_h _ (hx276)) rfl (by rfl) rfl) ?_
 refine AO.nil ?_
 have hR := someE hH; subst hR
 exact ⟨trivial, rfl, _, [], [1], rfl, expLG_cons (.c (.rowR rfl)) (expLG_cons (.c .u) (expLG_cons (.c .u) (expLG_cons (.c .u) (expLG_cons (.c .u) (expLG_nil))))), .t expLG_nil, by decide⟩
 replace hH := condF hc hH
 refine AW.skip ?_
 have hR := someE hH; subst hR
 exact ⟨trivial, rfl, _, [], [1], rfl, expLG_cons (.c (.rowR rfl)) (expLG_cons (.c .u) (expLG_cons (.c .u) (expLG_cons (.c .u) (expLG_cons (.c .u) (expLG_nil))))), .t expLG_nil, by decide⟩

def slices_stableCmpFunc_Rank_l1 (n : Int) (cmp : Rank → Rank → Option Int) (fuel : Nat) : Nat → List Rank → Int → Int → Option ((List Rank) × Int)
  | 0, _, _, _ => none
  | k18 + 1, v26, v27, v28 =>
    cond (decide (v28 ≤ n))
      ((slices_insertionSortCmpFunc_Rank_p fuel v26 v27 v28 cmp).bind fun x30 =>
      slices_stableCmpFunc_Rank_l1 n cmp fuel k18 x30 v28 (w64 (v28 + 20)))
      (some (v26, v27))
def slices_stableCmpFunc_Rank_l3 (n : Int) (cmp : Rank → Rank → Option Int) (fuel : Nat) (v102 : Int) : Nat → List Rank → Int → Int → Option ((List Rank) × Int)
  | 0, _, _, _ => none
  | k121 + 1, v129, v130, v131 =>
    cond (decide (v131 ≤ n))
      ((slices_symMergeCmpFunc_Rank_p fuel fuel v129 v130 (w64 (v130 + v102)) v131 cmp).bind fun x133 =>
      slices_stableCmpFunc_Rank_l3 n cmp fuel v102 k121 x133 v131 (w64 (v131 + (w64 (2 * v102)))))
      (some (v129, v130))
def slices_stableCmpFunc_Rank_l2 (n : Int) (cmp : Rank → Rank → Option Int) (fuel : Nat) : Nat → List Rank → Int → Option ((List Rank))
  | 0, _, _ => none
  | k34 + 1, v101, v102 =>
    cond (decide (v102 < n))
      ((slices_stableCmpFunc_Rank_l3 n cmp fuel v102 fuel v101 0 (w64 (2 * v102))).bind fun (v117, v118) =>
      cond (decide ((w64 (v118 + v102)) < n))
        ((slices_symMergeCmpFunc_Rank_p fuel fuel v117 v118 (w64 (v118 + v102)) n cmp).bind fun x135 =>
        slices_stableCmpFunc_Rank_l2 n cmp fuel k34 x135 (w64 (v102 * 2)))
        (slices_stableCmpFunc_Rank_l2 n cmp fuel k34 v117 (w64 (v102 * 2))))
      (some v101)
def slices_stableCmpFunc_Rank_p (fuel : Nat) (data : List Rank) (n : Int) (cmp : Rank → Rank → Option Int) : Option (List Rank) :=
  (slices_stableCmpFunc_Rank_l1 n cmp fuel fuel data 0 20).bind fun (v14, v15) =>
  (slices_insertionSortCmpFunc_Rank_p fuel v14 v15 n cmp).bind fun x32 =>
  slices_stableCmpFunc_Rank_l2 n cmp fuel fuel x32 20
theorem slices_stableCmpFunc_Rank_ok (fuel : Nat) (data : List Rank) (n : Int) (cmp_f : Nat) (cmp_c : List D) (cmp_k : cmp_c.all D.capOk = true) (cmp : Rank → Rank → Option Int) (cmp_h : ∀ (a0 : Rank) (a1 : Rank) (q : Int), cmp a0 a1 = some q → SpecR Tryz.prog cmp_f ([.g (encRank a0), .g (encRank a1)] ++ cmp_c) (.v (.int .i64 q))) (r : (List Rank)) (hH : slices_stableCmpFunc_Rank_p fuel data n cmp = some r) : SpecM Tryz.prog 96 [.w 3 (data.map encRank), n, .f cmp_f cmp_c] [.w 3 (r.map encRank), .u, .u] (.t []) := by
 have cmp_r := cap_cfree cmp_k
 refine fn_okM T Tryz.func96 rfl (by decide) rfl (by simp [D.gOk, D.cellOk, cmp_k]) ?_
 intro L
 show AW _ _ _ (⟨[(0, .R 1), (1, n), (2, .f cmp_f cmp_c)], [(1, .row 3 (List.map encRank data))], 63, [(1, L 1)]⟩ : St)
 refine AW.seq (AW.region ?_)
 refine AO.pu T ?_
 refine AO.nil (AW.seq ?_)
 refine AW.region ?_
 iterate 3 refine AO.pu T ?_
 refine AO.nil ?_
 obtain ⟨o16, hH, hK17⟩ := bindE hH
 refine AW.seqJ (fun s : (List Rank) × Int => (⟨[(0, .R 1), (1, n), (2, .f cmp_f cmp_c), (6, (20 : Int)), (7, s.2)], [(1, .row 3 (List.map encRank s.1))], 63, [(1, L 1)]⟩ : St)) (fun s => s = o16) ?_ ?_
 refine AW.block ?_
 refine AW.loopS (fun s : Nat × (List Rank) × Int × Int => (⟨[(0, .R 1), (1, n), (2, .f cmp_f cmp_c), (6, (20 : Int)), (7, s.2.2.1), (8, s.2.2.2)], [(1, .row 3 (List.map encRank s.2.1))], 63, [(1, L 1)]⟩ : St)) (fun s => slices_stableCmpFunc_Rank_l1 n cmp fuel s.1 s.2.1 s.2.2.1 s.2.2.2 = some o16) (fun s => s.1) (fuel, data, 0, 20) hH ?_ ?_
 exact Le.cut 0 0 rfl ⟨⟨_, rfl, rfl⟩, ⟨_, rfl, rfl⟩, ⟨_, rfl, ren_fF cmp_r⟩, ⟨_, rfl, rfl⟩, ⟨_, rfl, rfl⟩, ⟨_, rfl, rfl⟩, trivial⟩ (by repeat' (first | exact trivial | refine ⟨⟨_, rfl, rfl⟩, ?_⟩)) (andT (allC rfl (allC rfl (allC (known_fF cmp_r) (allC rfl (allC rfl (allC rfl allN)))))) rfl) ⟨⟨rfl, rfl⟩, trivial⟩
 rintro ⟨k18, v26, v27, v28⟩ hH
 replace hH : slices_stableCmpFunc_Rank_l1 n cmp fuel k18 v26 v27 v28 = some o16 := hH
 try dsimp only
 rcases k18 with _ | k18
 cases (show none = some _ from hH)
 rw [slices_stableCmpFunc_Rank_l1] at hH
 iterate 2 refine AW.seq ?_
 refine AW.region ?_
 iterate 3 refine AO.pu T ?_
 refine AO.nil ?_
 refine AW.cond (b := decide (v28 ≤ n)) rfl (fun hc => ?_) (fun hc => ?_)
 replace hH := condT hc hH
 refine AW.skip ?_
 refine AW.block ?_
 refine AW.seq ?_
 obtain ⟨x30, hx31, hH⟩ := bindE hH
 refine AW.region ?_
 iterate 4 refine AO.pu T ?_
 refine AO.step rfl (callM_ok rfl 2 rfl rfl (es := [.w 3 (v26.map encRank), .v (.int .i64 v27), .v (.int .i64 v28), .f cmp_f cmp_c]) (outs := [.w 3 (x30.map encRank), .u, .u, .u]) (ids := [1]) (by exact expLG_cons (.c (.rowR rfl)) (expLG_cons (.c .v) (expLG_cons (.c .v) (expLG_cons (.c (.f cmp_r)) (expLG_nil))))) (by decide) (.inl (by rfl)) (by rfl) (slices_insertionSortCmpFunc_Rank_ok fuel _ _ _ cmp_f cmp_c cmp_k cmp cmp_h _ (hx31)) rfl (by rfl) rfl) ?_
 refine AO.nil (AW.seq ?_)
 refine AW.region ?_
 iterate 2 refine AO.pu T ?_
 refine AO.nil ?_
 refine AW.region ?_
 iterate 2 refine AO.pu T ?_
 refine AO.val rfl rfl (arw_ok rfl rfl rfl rfl) ?_
 refine AO.pu T ?_
 refine AO.nil ?_
 refine ⟨(k18, x30, v28, w64 (v28 + 20)), hH, Nat.lt_succ_self _, ?_⟩
 exact Le.cut 0 0 rfl ⟨⟨_, rfl, rfl⟩, ⟨_, rfl, rfl⟩, ⟨_, rfl, ren_fF cmp_r⟩, ⟨_, rfl, rfl⟩, ⟨_, rfl, rfl⟩, ⟨_, rfl, rfl⟩, trivial⟩ (by repeat' (first | exact trivial | refine ⟨⟨_, rfl, rfl⟩, ?_⟩)) (andT (allC rfl (allC rfl (allC (known_fF cmp_r) (allC rfl (allC rfl (allC rfl allN)))))) rfl) ⟨⟨rfl, rfl⟩, trivial⟩
 replace hH := condF hc hH
 refine AW.exit ?_
 refine ⟨_, someE hH, ?_⟩
 exact Le.cut 0 0 rfl ⟨⟨_, rfl, rfl⟩, ⟨_, rfl, rfl⟩, ⟨_, rfl, ren_fF cmp_r⟩, ⟨_, rfl, rfl⟩, ⟨_, rfl, rfl⟩, trivial⟩ (by repeat' (first | exact trivial | refine ⟨⟨_, rfl, rfl⟩, ?_⟩)) (andT (allC rfl (allC rfl (allC (known_fF cmp_r) (allC rfl (allC rfl allN))))) rfl) ⟨⟨rfl, rfl⟩, trivial⟩
 rintro ⟨v14, v15⟩ hs
 subst hs
 replace hH := hK17
 try dsimp only [flow, flowE] at hH
 try dsimp only
 refine AW.seq ?_
 obtain ⟨x32, hx33, hH⟩ := bindE hH
 refine AW.region ?_
 iterate 4 refine AO.pu T ?_
 refine AO.step rfl (callM_ok rfl 2 rfl rfl (es := [.w 3 (v14.map encRank), .v (.int .i64 v15), .v (.int .i64 n), .f cmp_f cmp_c]) (outs := [.w 3 (x32.map encRank), .u, .u, .u]) (ids := [1]) (by exact expLG_cons (.c (.rowR rfl)) (expLG_cons (.c .v) (expLG_cons (.c .v) (expLG_cons (.c (.f cmp_r)) (expLG_nil))))) (by decide) (.inl (by rfl)) (by rfl) (slices_insertionSortCmpFunc_Rank_ok fuel _ _ _ cmp_f cmp_c cmp_k cmp cmp_h _ (hx33)) rfl (by rfl) rfl) ?_
 refine AO.nil ?_
 refine AW.block ?_
 refine AW.loopS (fun s : Nat × (List Rank) × Int => (⟨[(0, .R 1), (1, n), (2, .f cmp_f cmp_c), (6, s.2.2)], [(1, .row 3 (List.map encRank s.2.1))], 63, [(1, L 1)]⟩ : St)) (fun s => slices_stableCmpFunc_Rank_l2 n cmp fuel s.1 s.2.1 s.2.2 = some r) (fun s => s.1) (fuel, x32, 20) hH ?_ ?_
 exact Le.cut 0 0 rfl ⟨⟨_, rfl, rfl⟩, ⟨_, rfl, rfl⟩, ⟨_, rfl, ren_fF cmp_r⟩, ⟨_, rfl, rfl⟩, trivial⟩ (by repeat' (first | exact trivial | refine ⟨⟨_, rfl, rfl⟩, ?_⟩)) (andT (allC rfl (allC rfl (allC (known_fF cmp_r) (allC rfl allN)))) rfl) ⟨⟨rfl, rfl⟩, trivial⟩
 rintro ⟨k34, v101, v102⟩ hH
 replace hH : slices_stableCmpFunc_Rank_l2 n cmp fuel k34 v101 v102 = some r := hH
 try dsimp only
 rcases k34 with _ | k34
 cases (show none = some _ from hH)
 rw [slices_stableCmpFunc_Rank_l2] at hH
 iterate 2 refine AW.seq ?_
 refine AW.region ?_
 iterate 3 refine AO.pu T ?_
 refine AO.nil ?_
 refine AW.cond (b := decide (v102 < n)) rfl (fun hc => ?_) (fun hc => ?_)
 replace hH := condT hc hH
 refine AW.skip ?_
 refine AW.block ?_
 refine AW.seq (AW.region ?_)
 refine AO.pu T ?_
 refine AO.val rfl rfl (arw_ok rfl rfl rfl rfl) ?_
 iterate 2 refine AO.pu T ?_
 refine AO.nil ?_
 obtain ⟨o119, hH, hK120⟩ := bindE hH
 refine AW.seqJ (fun s : (List Rank) × Int => (⟨[(0, .R 1), (1, n), (2, .f cmp_f cmp_c), (6, v102), (7, s.2)], [(1, .row 3 (List.map encRank s.1))], 63, [(1, L 1)]⟩ : St)) (fun s => s = o119) ?_ ?_
 refine AW.block ?_
 refine AW.loopS (fun s : Nat × (List Rank) × Int × Int => (⟨[(0, .R 1), (1, n), (2, .f cmp_f cmp_c), (6, v102), (7, s.2.2.1), (8, s.2.2.2)], [(1, .row 3 (List.map encRank s.2.1))], 63, [(1, L 1)]⟩ : St)) (fun s => slices_stableCmpFunc_Rank_l3 n cmp fuel v102 s.1 s.2.1 s.2.2.1 s.2.2.2 = some o119) (fun s => s.1) (fuel, v101, 0, w64 (2 * v102)) hH ?_ ?_
 exact Le.cut 0 0 rfl ⟨⟨_, rfl, rfl⟩, ⟨_, rfl, rfl⟩, ⟨_, rfl, ren_fF cmp_r⟩, ⟨_, rfl, rfl⟩, ⟨_, rfl, rfl⟩, ⟨_, rfl, rfl⟩, trivial⟩ (by repeat' (first | exact trivial | refine ⟨⟨_, rfl, rfl⟩, ?_⟩)) (andT (allC rfl (allC rfl (allC (known_fF cmp_r) (allC rfl (allC rfl (allC rfl allN)))))) rfl) ⟨⟨rfl, rfl⟩, trivial⟩
 rintro ⟨k121, v129, v130, v131⟩ hH
 replace hH : slices_stableCmpFunc_Rank_l3 n cmp fuel v102 k121 v129 v130 v131 = some o119 := hH
 try dsimp only
 rcases k121 with _ | k121
 cases (show none = some _ from hH)
 rw [slices_stableCmpFunc_Rank_l3] at hH
 iterate 2 refine AW.seq ?_
 refine AW.region ?_
 iterate 3 refine AO.pu T ?_
 refine AO.nil ?_
 refine AW.cond (b := decide (v131 ≤ n)) rfl (fun hc => ?_) (fun hc => ?_)
 replace hH := condT hc hH
 refine AW.skip ?_
 refine AW.block ?_
 refine AW.seq ?_
 obtain ⟨x133, hx134, hH⟩ := bindE hH
 refine AW.region ?_
 iterate 4 refine AO.pu T ?_
 refine AO.val rfl rfl (arw_ok rfl rfl rfl rfl) ?_
 iterate 2 refine AO.pu T ?_
 refine AO.step rfl (callM_ok rfl 2 rfl rfl (es := [.w 3 (v129.map encRank), .v (.int .i64 v130), .v (.int .i64 (w64 (v130 + v102))), .v (.int .i64 v131), .f cmp_f cmp_c]) (outs := [.w 3 (x133.map encRank), .u, .u, .u, .u]) (ids := [1]) (by exact expLG_cons (.c (.rowR rfl)) (expLG_cons (.c .v) (expLG_cons (.c .v) (expLG_cons (.c .v) (expLG_cons (.c (.f cmp_r)) (expLG_nil)))))) (by decide) (.inl (by rfl)) (by rfl) (slices_symMergeCmpFunc_Rank_ok fuel fuel _ _ _ _ cmp_f cmp_c cmp_k cmp cmp_h _ (hx134)) rfl (by rfl) rfl) ?_
 refine AO.nil (AW.seq ?_)
 refine AW.region ?_
 iterate 2 refine AO.pu T ?_
 refine AO.nil ?_
 refine AW.region ?_
 iterate 2 refine AO.pu T ?_
 iterate 2 refine AO.val rfl rfl (arw_ok rfl rfl rfl rfl) ?_
 refine AO.pu T ?_
 refine AO.nil ?_
 refine ⟨(k121, x133, v131, w64 (v131 + (w64 (2 * v102)))), hH, Nat.lt_succ_self _, ?_⟩
 exact Le.cut 0 0 rfl ⟨⟨_, rfl, rfl⟩, ⟨_, rfl, rfl⟩, ⟨_, rfl, ren_fF cmp_r⟩, ⟨_, rfl, rfl⟩, ⟨_, rfl, rfl⟩, ⟨_, rfl, rfl⟩, trivial⟩ (by repeat' (first | exact trivial | refine ⟨⟨_, rfl, rfl⟩, ?_⟩)) (andT (allC rfl (allC rfl (allC (known_fF cmp_r) (allC rfl (allC rfl (allC rfl allN)))))) rfl) ⟨⟨rfl, rfl⟩, trivial⟩
 replace hH := condF hc hH
 refine AW.exit ?_
 refine ⟨_, someE hH, ?_⟩
 exact Le.cut 0 0 rfl ⟨⟨_, rfl, rfl⟩, ⟨_, rfl, rfl⟩, ⟨_, rfl, ren_fF cmp_r⟩, ⟨_, rfl, rfl⟩, ⟨_, rfl, rfl⟩, trivial⟩ (by repeat' (first | exact trivial | refine ⟨⟨_, rfl, rfl⟩, ?_⟩)) (andT (allC rfl (allC rfl (allC (known_fF cmp_r) (allC rfl (allC rfl allN))))) rfl) ⟨⟨rfl, rfl⟩, trivial⟩
 rintro ⟨v117, v118⟩ hs
 subst hs
 replace hH := hK120
 try dsimp only [flow, flowE] at hH
 try dsimp only
 iterate 2 refine AW.seq ?_
 refine AW.region ?_
 iterate 2 refine AO.pu T ?_
 refine AO.val rfl rfl (arw_ok rfl rfl rfl rfl) ?_
 refine AO.pu T ?_
 refine AO.nil (AW.seq ?_)
 refine AW.region ?_
 iterate 3 refine AO.pu T ?_
 refine AO.nil ?_
 refine AW.cond (b := decide ((w64 (v118 + v102)) < n)) rfl (fun hc => ?_) (fun hc => ?_)
 replace hH := condT hc hH
 obtain ⟨x135, hx136, hH⟩ := bindE hH
 refine AW.region ?_
 iterate 5 refine AO.pu T ?_
 refine AO.step rfl (callM_ok rfl 2 rfl rfl (es := [.w 3 (v117.map encRank), .v (.int .i64 v118), .v (.int .i64 (w64 (v118 + v102))), .v (.int .i64 n), .f cmp_f cmp_c]) (outs := [.w 3 (x135.map encRank), .u, .u, .u, .u]) (ids := [1]) (by exact expLG_cons (.c (.rowR rfl)) (expLG_cons (.c .v) (expLG_cons (.c .v) (expLG_cons (.c .v) (expLG_cons (.c (.f cmp_r)) (expLG_nil)))))) (by decide) (.inl (by rfl)) (by rfl) (slices_symMergeCmpFunc_Rank_ok fuel fuel _ _ _ _ cmp_f cmp_c cmp_k cmp cmp_h _ (hx136)) rfl (by rfl) rfl) ?_
 refine AO.nil ?_
 refine AW.region ?_
 refine AO.pu T ?_
 refine AO.val rfl rfl (arw_ok rfl rfl rfl rfl) ?_
 refine AO.pu T ?_
 refine AO.nil ?_
 refine ⟨(k34, x135, w64 (v102 * 2)), hH, Nat.lt_succ_self _, ?_⟩
 exact Le.cut 0 0 rfl ⟨⟨_, rfl, rfl⟩, ⟨_, rfl, rfl⟩, ⟨_, rfl, ren_fF cmp_r⟩, ⟨_, rfl, rfl⟩, trivial⟩ (by repeat' (first | exact trivial | refine ⟨⟨_, rfl, rfl⟩, ?_⟩)) (andT (allC rfl (allC rfl (allC (known_fF cmp_r) (allC rfl allN)))) rfl) ⟨⟨rfl, rfl⟩, trivial⟩
 replace hH := condF hc hH
 refine AW.skip ?_
 refine AW.region ?_
 refine AO.pu T ?_
 refine AO.val rfl rfl (arw_ok rfl rfl rfl rfl) ?_
 refine AO.pu T ?_
 refine AO.nil ?_
 refine ⟨(k34, v117, w64 (v102 * 2)), hH, Nat.lt_succ_self _, ?_⟩
 exact Le.cut 0 0 rfl ⟨⟨_, rfl, rfl⟩, ⟨_, rfl, rfl⟩, ⟨_, rfl, ren_fF cmp_r⟩, ⟨_, rfl, rfl⟩, trivial⟩ (by repeat' (first | exact trivial | refine ⟨⟨_, rfl, rfl⟩, ?_⟩)) (andT (allC rfl (allC rfl (allC (known_fF cmp_r) (allC rfl allN)))) rfl) ⟨⟨rfl, rfl⟩, trivial⟩
 replace hH := condF hc hH
 refine AW.exit ?_
 have hR := someE hH; subst hR
 exact ⟨trivial, rfl, _, [], [1], rfl, expLG_cons (.c (.rowR rfl)) (expLG_cons (.c .u) (expLG_cons (.c .u) (expLG_nil))), .t expLG_nil, by decide⟩

def slices_SortStableFunc_Rank_p (fuel : Nat) (x : List Rank) (cmp : Rank → Rank → Option Int) : Option (List Rank) :=
  (slices_stableCmpFunc_Rank_p fuel x (x.length : Int) cmp).bind fun x1 =>
  some x1
theorem slices_SortStableFunc_Rank_ok (fuel : Nat) (x : List Rank) (cmp_f : Nat) (cmp_c : List D) (cmp_k : cmp_c.all D.capOk = true) (cmp : Rank → Rank → Option Int) (cmp_h : ∀ (a0 : Rank) (a1 : Rank) (q : Int), cmp a0 a1 = some q → SpecR Tryz.prog cmp_f ([.g (encRank a0), .g (encRank a1)] ++ cmp_c) (.v (.int .i64 q))) (r : (List Rank)) (hH : slices_SortStableFunc_Rank_p fuel x cmp = some r) : SpecM Tryz.prog 75 [.w 3 (x.map encRank), .f cmp_f cmp_c] [.w 3 (r.map encRank), .u] (.t []) := by
 have cmp_r := cap_cfree cmp_k
 refine fn_okM T Tryz.func75 rfl (by decide) rfl (by simp [D.gOk, D.cellOk, cmp_k]) ?_
 intro L
 show AW _ _ _ (⟨[(0, .R 1), (1, .f cmp_f cmp_c)], [(1, .row 3 (List.map encRank x))], 9, [(1, L 1)]⟩ : St)
 obtain ⟨x1, hx2, hH⟩ := bindE hH
 refine AW.region ?_
 iterate 2 refine AO.pu T ?_
 refine AO.val rfl rfl (len_row_ok T rfl rfl rfl rfl) ?_
 refine AO.pu T ?_
 refine AO.step rfl (callM_ok rfl 2 rfl rfl (es := [.w 3 (x.map encRank), .v (.int .i64 (x.length : Int)), .f cmp_f cmp_c]) (outs := [.w 3 (x1.map encRank), .u, .u]) (ids := [1]) (by exact expLG_cons (.c (.rowR rfl)) (expLG_cons (.c .v) (expLG_cons (.c (.f cmp_r)) (expLG_nil)))) (by decide) (.inl (by rfl)) (by rfl) (slices_stableCmpFunc_Rank_ok fuel _ _ cmp_f cmp_c cmp_k cmp cmp_h _ (hx2)) rfl (by rfl) rfl) ?_
 refine AO.nil ?_
 have hR := someE hH; subst hR
 exact ⟨trivial, rfl, _, [], [1], rfl, expLG_cons (.c (.rowR rfl)) (expLG_cons (.c .u) (expLG_nil)), .t expLG_nil, by decide⟩

def impl_worldList_c1_p (a : Rank) (b : Rank) : Option Int :=
  some (w64 (a.place - b.place))
theorem impl_worldList_c1_ok (a : Rank) (b : Rank) (r : Int) (hH : impl_worldList_c1_p a b = some r) : SpecR Tryz.prog 76 [.g (encRank a), .g (encRank b)] (.v (.int .i64 r)) := by
 refine fn_ok T Tryz.func76 rfl (by decide) rfl ?_
 refine AW.seq (AW.region ?_)
 refine AO.step rfl (box_ok T rfl 1 rfl rfl rfl rfl) ?_
 refine AO.step rfl (box_ok T rfl 2 rfl rfl rfl rfl) ?_
 refine AO.pu T ?_
 refine AO.nil (AW.seq ?_)
 refine AW.region ?_
 iterate 4 refine AO.pu T ?_
 refine AO.val rfl rfl (arw_ok rfl rfl rfl rfl) ?_
 refine AO.pu T ?_
 refine AO.nil (AW.ret ?_)
 have hR := someE hH; subst hR
 exact retQ.i [] rfl (.c (.c .v))

def impl_worldList_l2 (fuel : Nat) : List Int → Nat → List Rank → Option ((List Rank))
  | [], k32, v43 =>
    (slices_SortStableFunc_Rank_p fuel v43 (fun a0 a1 => impl_worldList_c1_p a0 a1)).bind fun x45 =>
    some x45
  | y33 :: ys34, k32, v43 =>
    (getI v43 (k32 : Int)).bind fun x47 =>
    impl_worldList_l2 fuel ys34 (k32 + 1) (v43.set ((k32 : Int).toNat) (Rank.mk x47.skater x47.total y33))
def impl_worldList_l1 (w : World) (fuel : Nat) : List Int → Nat → List Rank → List Int → Option ((List Rank))
  | [], k3, v27, v28 =>
    (impl_placesOf_p v28).bind fun x30 =>
    impl_worldList_l2 fuel x30 0 v27
  | y4 :: ys5, k3, v27, v28 =>
    (impl_seasonParts_p w y4).bind fun x49 =>
    (impl_sumInts_p x49).bind fun x51 =>
    (need (fitsB 24 (v27.length + ([(Rank.mk y4 x51 0)]).length))).bind fun u53 =>
    (need (fitsB 8 (v28.length + ([x51]).length))).bind fun u55 =>
    impl_worldList_l1 w fuel ys5 (k3 + 1) (v27 ++ [(Rank.mk y4 x51 0)]) (v28 ++ [x51])
def impl_worldList_p (fuel : Nat) (w : World) : Option (List Rank) :=
  (impl_worldSkaters_p fuel w).bind fun x1 =>
  impl_worldList_l1 w fuel x1 0 [] []
theorem impl_worldList_ok (fuel : Nat) (w : World) (r : (List Rank)) (hH : impl_worldList_p fuel w = some r) : SpecR Tryz.prog 40 [.g (encWorld w)] (.w 3 (r.map encRank)) := by
 refine fn_ok T Tryz.func40 rfl (by decide) rfl ?_
 refine AW.seq (AW.region ?_)
 refine AO.step rfl (box_ok T rfl 1 rfl rfl rfl rfl) ?_
 refine AO.pu T ?_
 refine AO.nil (AW.seq ?_)
 refine AW.region ?_
 iterate 2 refine AO.step rfl (mk0_ok T rfl rfl rfl rfl) ?_
 iterate 2 refine AO.pu T ?_
 refine AO.nil ?_
 iterate 2 refine AW.seq ?_
 obtain ⟨x1, hx2, hH⟩ := bindE hH
 refine AW.region ?_
 refine AO.pu T (d := .g [.s (List.map encSeason w.seasons), .s (List.map encInt w.weights)]) ?_
 refine AO.step rfl (call_ok rfl 2 rfl rfl rfl (impl_worldSkaters_ok fuel _ _ (hx2)) rfl rfl rfl) ?_
 refine AO.val rfl rfl (len_row_ok T rfl rfl rfl rfl) ?_
 refine AO.pu T ?_
 refine AO.nil ?_
 refine AW.block ?_
 refine AW.loopS (fun s : Nat × (List Rank) × (List Int) => (⟨[(1, .p 1 0), (3, .R 10), (4, .R 12), (13, .R 2), (14, (x1.length : Int)), (15, (s.1 : Int))], [(1, .box [.s (List.map encSeason w.seasons), .s (List.map encInt w.weights)]), (2, .row 1 (List.map encInt x1)), (10, .row 3 (List.map encRank s.2.1)), (12, .row 1 (List.map encInt s.2.2))], 51, []⟩ : St)) (fun s => s.1 ≤ x1.length ∧ impl_worldList_l1 w fuel (x1.drop s.1) s.1 s.2.1 s.2.2 = some r) (fun s => x1.length - s.1) (0, [], []) ⟨Nat.zero_le _, hH⟩ ?_ ?_
 refine Le.trans (Le.void 3 10 3 rfl rfl) ?_
 refine Le.trans (Le.void 4 12 1 rfl rfl) ?_
 exact Le.ct 0 0
 rintro ⟨k3, v27, v28⟩ ⟨hk, hH⟩
 replace hH : impl_worldList_l1 w fuel (x1.drop k3) k3 v27 v28 = some r := hH
 try dsimp only
 refine AW.boundR (id := 2) (l := x1) rfl (fun hb7 => ?_)
 rcases hd6 : x1.drop k3 with _ | ⟨y4, ys5⟩
 rw [hd6, impl_worldList_l1] at hH
 have hlt8 := drop_ge hd6
 refine AW.seq (AW.region ?_)
 refine AO.pu T ?_
 refine AO.nil (AW.seq ?_)
 refine AW.condF' (b := decide ((k3 : Int) < (x1.length : Int))) rfl (rngF hlt8) ?_
 refine AW.exit ?_
 iterate 2 refine AW.seq ?_
 obtain ⟨x30, hx31, hH⟩ := bindE hH
 refine AW.region ?_
 refine AO.pu T ?_
 refine AO.step rfl (callL_ok rfl 13 rfl rfl (es := [.s (List.map encInt v28)]) (by exact ⟨(.rowR rfl (.map fun y => .vs rfl)), trivial⟩) (impl_placesOf_ok _ _ (hx31)) (zfree_map (fun y => (.cons (zfree_v _) .nil))) rfl rfl rfl) ?_
 refine AO.val rfl rfl (len_row_ok T rfl rfl rfl rfl) ?_
 refine AO.pu T ?_
 refine AO.nil ?_
 refine AW.block ?_
 refine AW.loopS (fun s : Nat × (List Rank) => (⟨[(3, .R 10), (35, .R 13), (36, (x30.length : Int)), (37, (s.1 : Int))], [(10, .row 3 (List.map encRank s.2)), (13, .row 1 (List.map encInt x30))], 51, []⟩ : St)) (fun s => s.1 ≤ x30.length ∧ impl_worldList_l2 fuel (x30.drop s.1) s.1 s.2 = some r) (fun s => x30.length - s.1) (0, v27) ⟨Nat.zero_le _, hH⟩ ?_ ?_
 exact Le.ct 0 0
 rintro ⟨k32, v43⟩ ⟨hk, hH⟩
 replace hH : impl_worldList_l2 fuel (x30.drop k32) k32 v43 = some r := hH
 try dsimp only
 refine AW.boundR (id := 13) (l := x30) rfl (fun hb36 => ?_)
 rcases hd35 : x30.drop k32 with _ | ⟨y33, ys34⟩
 rw [hd35, impl_worldList_l2] at hH
 have hlt37 := drop_ge hd35
 refine AW.seq (AW.region ?_)
 refine AO.pu T ?_
 refine AO.nil (AW.seq ?_)
 refine AW.condF' (b := decide ((k32 : Int) < (x30.length : Int))) rfl (rngF hlt37) ?_
 refine AW.exit ?_
 refine AW.seq ?_
 obtain ⟨x45, hx46, hH⟩ := bindE hH
 refine AW.region ?_
 refine AO.pu T ?_
 refine AO.step rfl (callM_ok rfl 14 rfl rfl (es := [.w 3 (v43.map encRank), .f 76 []]) (outs := [.w 3 (x45.map encRank), .u]) (ids := [10]) (by exact expLG_cons (.c (.rowR rfl)) (expLG_cons (.c (.f rfl)) (expLG_nil))) (by decide) (.inl (by rfl)) (by rfl) (slices_SortStableFunc_Rank_ok fuel _ 76 [] rfl (fun a0 a1 => impl_worldList_c1_p a0 a1) (fun a0 a1 q h => impl_worldList_c1_ok a0 a1  q h) _ (hx46)) rfl (by rfl) rfl) ?_
 refine AO.nil (AW.seq ?_)
 refine AW.region ?_
 iterate 2 refine AO.pu T ?_
 refine AO.nil (AW.ret ?_)
 have hR := someE hH; subst hR
 exact retQ.i [10] rfl (.c (.c (.rowR rfl)))
 rw [hd35, impl_worldList_l2] at hH
 have hlt37 := drop_lt hd35
 refine AW.seq (AW.region ?_)
 refine AO.pu T ?_
 refine AO.nil (AW.seq ?_)
 refine AW.condT' (b := decide ((k32 : Int) < (x30.length : Int))) rfl (rngT hlt37) ?_
 refine AW.skip ?_
 refine AW.seq ?_
 refine AW.block ?_
 refine AW.seq (AW.region ?_)
 refine AO.pu T ?_
 refine AO.val rfl rfl (ix_row_ok T rfl rfl rfl rfl rfl rfl (getI_drop hd35)) ?_
 refine AO.val rfl rfl (load_row_ok T rfl rfl rfl rfl (getI_get (getI_drop hd35)) rfl rfl rfl) ?_
 iterate 2 refine AO.pu T ?_
 refine AO.nil ?_
 obtain ⟨x47, hx48, hH⟩ := bindE hH
 refine AW.region ?_
 iterate 3 refine AO.pu T ?_
 refine AO.val rfl rfl (ix_row_ok T rfl rfl rfl rfl rfl rfl (hx48)) ?_
 refine AO.pu T ?_
 refine AO.step rfl (store_row_ok T rfl rfl rfl rfl rfl (getI_get (hx48)) rfl rfl rfl rfl (u' := (Rank.mk x47.skater x47.total y33)) rfl rfl) ?_
 refine AO.nil ?_
 refine AW.region ?_
 refine AO.val rfl rfl (ar_ok rfl rfl rfl rfl (inI_succ hlt37 hb36)) ?_
 refine AO.pu T ?_
 refine AO.nil ?_
 refine ⟨(k32 + 1, (v43.set ((k32 : Int).toNat) (Rank.mk x47.skater x47.total y33))), ⟨Nat.succ_le_of_lt hlt37, (by rw [drop_succ_of hd35]; exact hH)⟩, (by have := hlt37; dsimp only; omega), ?_⟩
 exact Le.ct 0 0
 rw [hd6, impl_worldList_l1] at hH
 have hlt8 := drop_lt hd6
 refine AW.seq (AW.region ?_)
 refine AO.pu T ?_
 refine AO.nil (AW.seq ?_)
 refine AW.condT' (b := decide ((k3 : Int) < (x1.length : Int))) rfl (rngT hlt8) ?_
 refine AW.skip ?_
 refine AW.seq ?_
 refine AW.block ?_
 refine AW.seq (AW.region ?_)
 refine AO.val rfl rfl (ix_row_ok T rfl rfl rfl rfl rfl rfl (getI_drop hd6)) ?_
 refine AO.val rfl rfl (load_row_ok T rfl rfl rfl rfl (getI_get (getI_drop hd6)) rfl rfl rfl) ?_
 refine AO.pu T ?_
 refine AO.nil (AW.seq ?_)
 obtain ⟨x49, hx50, hH⟩ := bindE hH
 obtain ⟨x51, hx52, hH⟩ := bindE hH
 refine AW.region ?_
 refine AO.pu T (d := .g [.s (List.map encSeason w.seasons), .s (List.map encInt w.weights)]) ?_
 refine AO.pu T ?_
 refine AO.step rfl (call_ok rfl 14 rfl rfl rfl (impl_seasonParts_ok _ _ _ (hx50)) rfl rfl rfl) ?_
 refine AO.val rfl rfl (callLV_ok rfl rfl rfl (es := [.s (List.map encInt x49)]) ⟨(.rowR rfl (.map fun y => .vs rfl)), trivial⟩ (impl_sumInts_ok _ _ (hx52)) (zfree_v _) rfl) ?_
 refine AO.pu T ?_
 refine AO.nil (AW.seq ?_)
 obtain ⟨u53, hx54, hH⟩ := bindE hH
 refine AW.region ?_
 iterate 3 refine AO.pu T ?_
 refine AO.pu T (d := .g [y4, x51, (0 : Int)]) ?_
 refine AO.step rfl (mk_map_ok T rfl 15 rfl rfl rfl rfl rfl (f := encRank) (l := [(Rank.mk y4 x51 0)]) rfl rfl (fun _ => rfl) rfl rfl rfl rfl rfl) ?_
 refine AO.step rfl (app_rv_map T rfl 16 rfl rfl rfl rfl rfl (by decide) rfl rfl rfl rfl (fun _ => rfl) (needT (hx54)) rfl rfl) ?_
 refine AO.pu T ?_
 refine AO.nil ?_
 obtain ⟨u55, hx56, hH⟩ := bindE hH
 refine AW.region ?_
 iterate 2 refine AO.pu T ?_
 refine AO.step rfl (mk_map_ok T rfl 17 rfl rfl rfl rfl rfl (f := encInt) (l := [x51]) rfl rfl (fun _ => rfl) rfl rfl rfl rfl rfl) ?_
 refine AO.step rfl (app_rv_map T rfl 18 rfl rfl rfl rfl rfl (by decide) rfl rfl rfl rfl (fun _ => rfl) (needT (hx56)) rfl rfl) ?_
 refine AO.pu T ?_
 refine AO.nil ?_
 refine AW.region ?_
 refine AO.val rfl rfl (ar_ok rfl rfl rfl rfl (inI_succ hlt8 hb7)) ?_
 refine AO.pu T ?_
 refine AO.nil ?_
 refine ⟨(k3 + 1, (v27 ++ [(Rank.mk y4 x51 0)]), (v28 ++ [x51])), ⟨Nat.succ_le_of_lt hlt8, (by rw [drop_succ_of hd6]; exact hH)⟩, (by have := hlt8; dsimp only; omega), ?_⟩
 refine Le.trans (Le.ct 16 10 (σ' := (⟨[(1, .p 1 0), (3, .R 10), (4, .R 18), (13, .R 2), (14, (x1.length : Int)), (15, ((k3 + 1 : Nat) : Int))], [(1, .box [.s (List.map encSeason w.seasons), .s (List.map encInt w.weights)]), (2, .row 1 (List.map encInt x1)), (10, .row 3 (List.map encRank (v27 ++ [(Rank.mk y4 x51 0)]))), (18, .row 1 (List.map encInt (v28 ++ [x51])))], 51, []⟩ : St))) ?_
 exact Le.ct 18 12

def impl_WorldList_p (fuel : Nat) (w : World) : Option ((List Rank) × Bool) :=
  (impl_IsWorld_p fuel w).bind fun x1 =>
  cond (!x1)
    (some ([], false))
    ((impl_worldList_p fuel w).bind fun x3 =>
    some (x3, true))
theorem impl_WorldList_ok (fuel : Nat) (w : World) (r : ((List Rank) × Bool)) (hH : impl_WorldList_p fuel w = some r) : SpecR Tryz.prog 7 [.g (encWorld w)] (.t [.w 3 (r.1.map encRank), .v (.bool r.2)]) := by
 refine fn_ok T Tryz.func7 rfl (by decide) rfl ?_
 refine AW.seq (AW.region ?_)
 refine AO.step rfl (box_ok T rfl 1 rfl rfl rfl rfl) ?_
 iterate 2 refine AO.pu T ?_
 refine AO.nil ?_
 iterate 2 refine AW.seq ?_
 obtain ⟨x1, hx2, hH⟩ := bindE hH
 refine AW.region ?_
 refine AO.pu T (d := .g [.s (List.map encSeason w.seasons), .s (List.map encInt w.weights)]) ?_
 refine AO.val rfl rfl (callV_ok rfl rfl rfl rfl (impl_IsWorld_ok fuel _ _ (hx2)) rfl) ?_
 refine AO.pu T ?_
 refine AO.nil ?_
 refine AW.cond (b := (!x1)) rfl (fun hc => ?_) (fun hc => ?_)
 replace hH := condT hc hH
 refine AW.seq (AW.region ?_)
 iterate 2 refine AO.pu T ?_
 refine AO.nil (AW.ret ?_)
 have hR := someE hH; subst hR
 exact retQ.i [] rfl (.t (expLG_cons (.c .nil) (expLG_cons (.c .v) (expLG_nil))))
 replace hH := condF hc hH
 refine AW.skip ?_
 refine AW.seq ?_
 obtain ⟨x3, hx4, hH⟩ := bindE hH
 refine AW.region ?_
 refine AO.pu T (d := .g [.s (List.map encSeason w.seasons), .s (List.map encInt w.weights)]) ?_
 refine AO.step rfl (call_ok rfl 2 rfl rfl rfl (impl_worldList_ok fuel _ _ (hx4)) rfl rfl rfl) ?_
 iterate 2 refine AO.pu T ?_
 refine AO.nil (AW.ret ?_)
 have hR := someE hH; subst hR
 exact retQ.i [2] rfl (.t (expLG_cons (.c (.rowR rfl)) (expLG_cons (.c .v) (expLG_nil))))

def spec_l1Has_l1 (n : Int) : List Int → Nat → Option Bool
  | [], k1 =>
    some false
  | y2 :: ys3, k1 =>
    cond (y2 == n)
      (some true)
      (spec_l1Has_l1 n ys3 (k1 + 1))
def spec_l1Has_p (l : List Int) (n : Int) : Option Bool :=
  spec_l1Has_l1 n l 0
theorem spec_l1Has_ok (l : List Int) (n : Int) (r : Bool) (hH : spec_l1Has_p l n = some r) : SpecR Tryz.prog 71 [.s (List.map encInt l), n] (.v (.bool r)) := by
 refine fn_ok T Tryz.func71 rfl (by decide) rfl ?_
 refine AW.seq (AW.region ?_)
 refine AO.pu T ?_
 refine AO.nil ?_
 iterate 2 refine AW.seq ?_
 refine AW.region ?_
 refine AO.pu T ?_
 refine AO.val rfl rfl (len_map_ok T rfl rfl rfl) ?_
 refine AO.pu T ?_
 refine AO.nil ?_
 refine AW.block ?_
 refine AW.loopS (fun s : Nat => (⟨[(1, n), (7, .s (List.map encInt l)), (8, (l.length : Int)), (9, (s : Int))], [], 17, []⟩ : St)) (fun s => s ≤ l.length ∧ spec_l1Has_l1 n (l.drop s) s = some r) (fun s => l.length - s) 0 ⟨Nat.zero_le _, hH⟩ ?_ ?_
 exact Le.ct 0 0
 rintro k1 ⟨hk, hH⟩
 replace hH : spec_l1Has_l1 n (l.drop k1) k1 = some r := hH
 try dsimp only
 refine AW.boundM (t := 7) (l := l) rfl (fun hb5 => ?_)
 rcases hd4 : l.drop k1 with _ | ⟨y2, ys3⟩
 rw [hd4, spec_l1Has_l1] at hH
 have hlt6 := drop_ge hd4
 refine AW.seq (AW.region ?_)
 refine AO.pu T ?_
 refine AO.nil (AW.seq ?_)
 refine AW.condF' (b := decide ((k1 : Int) < (l.length : Int))) rfl (rngF hlt6) ?_
 refine AW.exit ?_
 refine AW.seq (AW.region ?_)
 refine AO.pu T ?_
 refine AO.nil (AW.ret ?_)
 have hR := someE hH; subst hR
 exact retQ.i [] rfl (.c (.c .v))
 rw [hd4, spec_l1Has_l1] at hH
 have hlt6 := drop_lt hd4
 refine AW.seq (AW.region ?_)
 refine AO.pu T ?_
 refine AO.nil (AW.seq ?_)
 refine AW.condT' (b := decide ((k1 : Int) < (l.length : Int))) rfl (rngT hlt6) ?_
 refine AW.skip ?_
 refine AW.seq ?_
 refine AW.block ?_
 refine AW.seq (AW.region ?_)
 refine AO.val rfl rfl (ix_map_ok T rfl rfl rfl rfl rfl (getI_drop hd4) rfl) ?_
 iterate 2 refine AO.pu T ?_
 refine AO.nil (AW.seq ?_)
 refine AW.region ?_
 iterate 3 refine AO.pu T ?_
 refine AO.nil ?_
 refine AW.cond (b := (y2 == n)) rfl (fun hc => ?_) (fun hc => ?_)
 replace hH := condT hc hH
 refine AW.seq (AW.region ?_)
 refine AO.pu T ?_
 refine AO.nil (AW.ret ?_)
 have hR := someE hH; subst hR
 exact retQ.i [] rfl (.c (.c .v))
 replace hH := condF hc hH
 refine AW.skip ?_
 refine AW.region ?_
 refine AO.val rfl rfl (ar_ok rfl rfl rfl rfl (inI_succ hlt6 hb5)) ?_
 refine AO.pu T ?_
 refine AO.nil ?_
 refine ⟨k1 + 1, ⟨Nat.succ_le_of_lt hlt6, (by rw [drop_succ_of hd4]; exact hH)⟩, (by have := hlt6; dsimp only; omega), ?_⟩
 exact Le.ct 0 0

def spec_seLine_l1 (x : Line) : List Int → Nat → Option Bool
  | [], k1 =>
    some (decide ((x.events.length : Int) > 0))
  | y2 :: ys3, k1 =>
    (opt (!((x.points.length : Int) != (x.events.length : Int))) default (getI x.points (k1 : Int))).bind fun x36 =>
    (opt (!((x.points.length : Int) != (x.events.length : Int))) default (spec_seEntry_p (Entry.mk y2 x.skater x36))).bind fun x38 =>
    cond (((x.points.length : Int) != (x.events.length : Int)) || (!x38))
      (some false)
      ((opt (decide ((k1 : Int) > 0)) default (getI x.points (w64 ((k1 : Int) - 1)))).bind fun x40 =>
      (opt (decide ((k1 : Int) > 0)) default (getI x.points (k1 : Int))).bind fun x42 =>
      (opt ((decide ((k1 : Int) > 0) && (!(decide (x40 < x42)))) && (x40 == x42)) default (getI x.events (w64 ((k1 : Int) - 1)))).bind fun x44 =>
      cond (decide ((k1 : Int) > 0) && (decide (x40 < x42) || ((x40 == x42) && decide (x44 ≥ y2))))
        (some false)
        ((sliceHi x.events (k1 : Int)).bind fun x46 =>
        (spec_l1Has_p x46 y2).bind fun x48 =>
        cond x48
          (some false)
          (spec_seLine_l1 x ys3 (k1 + 1))))
def spec_seLine_p (x : Line) : Option Bool :=
  spec_seLine_l1 x x.events 0
theorem spec_seLine_ok (x : Line) (r : Bool) (hH : spec_seLine_p x = some r) : SpecR Tryz.prog 97 [.g (encLine x)] (.v (.bool r)) := by
 refine fn_ok T Tryz.func97 rfl (by decide) rfl ?_
 refine AW.seq (AW.region ?_)
 refine AO.step rfl (box_ok T rfl 1 rfl rfl rfl rfl) ?_
 refine AO.pu T ?_
 refine AO.nil ?_
 iterate 2 refine AW.seq ?_
 refine AW.region ?_
 iterate 2 refine AO.pu T ?_
 refine AO.val rfl rfl (len_map_ok T rfl rfl rfl) ?_
 refine AO.pu T ?_
 refine AO.nil ?_
 refine AW.block ?_
 refine AW.loopS (fun s : Nat => (⟨[(1, .p 1 0), (6, (x.events.length : Int)), (7, (s : Int))], [(1, .box [x.skater, .s (List.map encInt x.events), .s (List.map encInt x.points)])], 93, []⟩ : St)) (fun s => s ≤ x.events.length ∧ spec_seLine_l1 x (x.events.drop s) s = some r) (fun s => x.events.length - s) 0 ⟨Nat.zero_le _, hH⟩ ?_ ?_
 exact Le.ct 0 0
 rintro k1 ⟨hk, hH⟩
 replace hH : spec_seLine_l1 x (x.events.drop k1) k1 = some r := hH
 try dsimp only
 refine AW.boundBox (id := 1) (j := 1) (l := x.events) rfl rfl (fun hb5 => ?_)
 rcases hd4 : x.events.drop k1 with _ | ⟨y2, ys3⟩
 rw [hd4, spec_seLine_l1] at hH
 have hlt6 := drop_ge hd4
 refine AW.seq (AW.region ?_)
 refine AO.pu T ?_
 refine AO.nil (AW.seq ?_)
 refine AW.condF' (b := decide ((k1 : Int) < (x.events.length : Int))) rfl (rngF hlt6) ?_
 refine AW.exit ?_
 refine AW.seq (AW.region ?_)
 iterate 2 refine AO.pu T ?_
 refine AO.val rfl rfl (len_map_ok T rfl rfl rfl) ?_
 iterate 2 refine AO.pu T ?_
 refine AO.nil (AW.ret ?_)
 have hR := someE hH; subst hR
 exact retQ.i [] rfl (.c (.c .v))
 rw [hd4, spec_seLine_l1] at hH
 have hlt6 := drop_lt hd4
 refine AW.seq (AW.region ?_)
 refine AO.pu T ?_
 refine AO.nil (AW.seq ?_)
 refine AW.condT' (b := decide ((k1 : Int) < (x.events.length : Int))) rfl (rngT hlt6) ?_
 refine AW.skip ?_
 refine AW.seq ?_
 refine AW.block ?_
 refine AW.seq (AW.region ?_)
 iterate 2 refine AO.pu T ?_
 refine AO.nil ?_
 iterate 2 refine AW.seq ?_
 obtain ⟨x36, hx37, hH⟩ := bindE hH
 obtain ⟨x38, hx39, hH⟩ := bindE hH
 refine AW.drawn 20 2 [] mix (by kernel_rfl) rfl ?_
 iterate 2 refine AD.pure T rfl rfl rfl ?_
 refine AD.val rfl rfl (len_map_ok T rfl rfl rfl) ?_
 iterate 2 refine AD.pure T rfl rfl rfl ?_
 refine AD.val rfl rfl (len_map_ok T rfl rfl rfl) ?_
 iterate 2 refine AD.pure T rfl rfl rfl ?_
 refine AD.pureG T [] rfl trivial rfl rfl ?_
 refine AD.pureG T [18] rfl ⟨fun h => h, trivial⟩ rfl rfl ?_
 refine AD.pureG T [] rfl trivial rfl rfl ?_
 refine AD.guard [19, 20] rfl ⟨fun h => h, fun h => h, trivial⟩ (fun hg => ix_map_ok T rfl rfl rfl rfl rfl (getI_drop hd4) rfl) rfl ?_
 refine AD.pureG T [21] rfl ⟨fun h => h, trivial⟩ rfl rfl ?_
 refine AD.pureG T [] rfl trivial rfl rfl ?_
 refine AD.pureG T [23] rfl ⟨fun h => h, trivial⟩ rfl rfl ?_
 refine AD.pureG T [] rfl trivial rfl rfl ?_
 refine AD.pureG T [25] rfl ⟨fun h => h, trivial⟩ rfl rfl ?_
 refine AD.pureG T [] rfl trivial rfl rfl ?_
 refine AD.guard [26, 27] rfl ⟨fun h => h, fun h => h, trivial⟩ (fun hg => ix_map_ok T rfl rfl rfl rfl rfl (optT hx37 hg) rfl) rfl ?_
 refine AD.pureG T [28] rfl ⟨fun h => h, trivial⟩ rfl rfl ?_
 refine AD.nil ?_
 refine AO.pureG T (d := .g [y2, x.skater, x36]) [22, 24, 29] rfl ⟨fun h => h, fun h => h, fun h => h, trivial⟩ rfl rfl ?_
 refine AO.guard [30] rfl ⟨fun h => h, trivial⟩ (fun hg => callV_ok rfl rfl rfl rfl (spec_seEntry_ok _ _ (optT hx39 hg)) rfl) rfl ?_
 refine AO.pureG T [31] rfl ⟨fun h => h, trivial⟩ rfl rfl ?_
 refine AO.val rfl rfl (pick_or rfl rfl rfl rfl) ?_
 refine AO.nil ?_
 refine AW.le (Le.ct 0 0 (σ' := (⟨[(1, .p 1 0), (3, (k1 : Int)), (6, (x.events.length : Int)), (7, (k1 : Int)), (33, .v (.bool (((x.points.length : Int) != (x.events.length : Int)) || (!x38))))], [(1, .box [x.skater, .s (List.map encInt x.events), .s (List.map encInt x.points)])], 93, []⟩ : St))) ?_
 refine AW.cond (b := (((x.points.length : Int) != (x.events.length : Int)) || (!x38))) rfl (fun hc => ?_) (fun hc => ?_)
 replace hH := condT hc hH
 refine AW.seq (AW.region ?_)
 refine AO.pu T ?_
 refine AO.nil (AW.ret ?_)
 have hR := someE hH; subst hR
 exact retQ.i [] rfl (.c (.c .v))
 replace hH := condF hc hH
 refine AW.skip ?_
 iterate 2 refine AW.seq ?_
 obtain ⟨x40, hx41, hH⟩ := bindE hH
 obtain ⟨x42, hx43, hH⟩ := bindE hH
 obtain ⟨x44, hx45, hH⟩ := bindE hH
 refine AW.drawn 40 2 [] mix (by kernel_rfl) rfl ?_
 iterate 3 refine AD.pure T rfl rfl rfl ?_
 refine AD.pureG T [] rfl trivial rfl rfl ?_
 refine AD.pureG T [37] rfl ⟨fun h => h, trivial⟩ rfl rfl ?_
 refine AD.pureG T [] rfl trivial rfl rfl ?_
 refine AD.guard [39] rfl ⟨fun h => h, trivial⟩ (fun hg => arw_ok rfl rfl rfl rfl) rfl ?_
 refine AD.guard [38, 40] rfl ⟨fun h => h, fun h => h, trivial⟩ (fun hg => ix_map_ok T rfl rfl rfl rfl rfl (optT hx41 hg) rfl) rfl ?_
 refine AD.pureG T [41] rfl ⟨fun h => h, trivial⟩ rfl rfl ?_
 refine AD.pureG T [] rfl trivial rfl rfl ?_
 refine AD.pureG T [43] rfl ⟨fun h => h, trivial⟩ rfl rfl ?_
 refine AD.pureG T [] rfl trivial rfl rfl ?_
 refine AD.guard [44, 45] rfl ⟨fun h => h, fun h => h, trivial⟩ (fun hg => ix_map_ok T rfl rfl rfl rfl rfl (optT hx43 hg) rfl) rfl ?_
 refine AD.pureG T [46] rfl ⟨fun h => h, trivial⟩ rfl rfl ?_
 refine AD.pureG T [42, 47] rfl ⟨fun h => h, fun h => h, trivial⟩ rfl rfl ?_
 refine AD.pureG T [48] rfl ⟨fun h => h, trivial⟩ rfl rfl ?_
 refine AD.pureG T [] rfl trivial rfl rfl ?_
 refine AD.pureG T [50] rfl ⟨fun h => h, trivial⟩ rfl rfl ?_
 refine AD.pureG T [] rfl trivial rfl rfl ?_
 refine AD.guard [52] rfl ⟨fun h => h, trivial⟩ (fun hg => arw_ok rfl rfl rfl rfl) rfl ?_
 refine AD.guard [51, 53] rfl ⟨fun h => h, fun h => h, trivial⟩ (fun hg => ix_map_ok T rfl rfl rfl rfl rfl (optT hx41 ((fun h => (fun h => h) (Bool.and_eq_true_iff.1 h).1) hg)) rfl) rfl ?_
 refine AD.pureG T [54] rfl ⟨fun h => h, trivial⟩ rfl rfl ?_
 refine AD.pureG T [] rfl trivial rfl rfl ?_
 refine AD.pureG T [56] rfl ⟨fun h => h, trivial⟩ rfl rfl ?_
 refine AD.pureG T [] rfl trivial rfl rfl ?_
 refine AD.guard [57, 58] rfl ⟨fun h => h, fun h => h, trivial⟩ (fun hg => ix_map_ok T rfl rfl rfl rfl rfl (optT hx43 ((fun h => (fun h => h) (Bool.and_eq_true_iff.1 h).1) hg)) rfl) rfl ?_
 refine AD.pureG T [59] rfl ⟨fun h => h, trivial⟩ rfl rfl ?_
 refine AD.pureG T [55, 60] rfl ⟨fun h => h, fun h => h, trivial⟩ rfl rfl ?_
 refine AD.pureG T [61] rfl ⟨fun h => h, trivial⟩ rfl rfl ?_
 refine AD.pureG T [] rfl trivial rfl rfl ?_
 refine AD.pureG T [63] rfl ⟨fun h => h, trivial⟩ rfl rfl ?_
 refine AD.pureG T [] rfl trivial rfl rfl ?_
 refine AD.guard [65] rfl ⟨fun h => h, trivial⟩ (fun hg => arw_ok rfl rfl rfl rfl) rfl ?_
 refine AD.guard [64, 66] rfl ⟨fun h => h, fun h => h, trivial⟩ (fun hg => ix_map_ok T rfl rfl rfl rfl rfl (optT hx45 hg) rfl) rfl ?_
 refine AD.pureG T [67] rfl ⟨fun h => h, trivial⟩ rfl rfl ?_
 refine AD.pureG T [] rfl trivial rfl rfl ?_
 refine AD.pureG T [69] rfl ⟨fun h => h, trivial⟩ rfl rfl ?_
 refine AD.pureG T [] rfl trivial rfl rfl ?_
 refine AD.guard [70, 71] rfl ⟨fun h => h, fun h => h, trivial⟩ (fun hg => ix_map_ok T rfl rfl rfl rfl rfl (getI_drop hd4) rfl) rfl ?_
 refine AD.pureG T [72] rfl ⟨fun h => h, trivial⟩ rfl rfl ?_
 refine AD.nil ?_
 refine AO.pureG T [68, 73] rfl ⟨fun h => h, fun h => h, trivial⟩ rfl rfl ?_
 refine AO.guard [62] rfl ⟨fun h => h, trivial⟩ (fun hg => pick_and rfl rfl rfl (by rw [hg]; exact Bool.true_and _)) rfl ?_
 refine AO.guard [49] rfl ⟨fun h => h, trivial⟩ (fun hg => pick_or rfl rfl rfl (by rw [hg]; exact Bool.true_and _)) rfl ?_
 refine AO.val rfl rfl (pick_and rfl rfl rfl rfl) ?_
 refine AO.nil ?_
 refine AW.le (Le.ct 0 0 (σ' := (⟨[(1, .p 1 0), (3, (k1 : Int)), (6, (x.events.length : Int)), (7, (k1 : Int)), (77, .v (.bool (decide ((k1 : Int) > 0) && (decide (x40 < x42) || ((x40 == x42) && decide (x44 ≥ y2))))))], [(1, .box [x.skater, .s (List.map encInt x.events), .s (List.map encInt x.points)])], 93, []⟩ : St))) ?_
 refine AW.cond (b := (decide ((k1 : Int) > 0) && (decide (x40 < x42) || ((x40 == x42) && decide (x44 ≥ y2))))) rfl (fun hc => ?_) (fun hc => ?_)
 replace hH := condT hc hH
 refine AW.seq (AW.region ?_)
 refine AO.pu T ?_
 refine AO.nil (AW.ret ?_)
 have hR := someE hH; subst hR
 exact retQ.i [] rfl (.c (.c .v))
 replace hH := condF hc hH
 refine AW.skip ?_
 refine AW.seq ?_
 obtain ⟨x46, hx47, hH⟩ := bindE hH
 obtain ⟨x48, hx49, hH⟩ := bindE hH
 refine AW.drawn 9 2 [] mix (by kernel_rfl) rfl ?_
 iterate 3 refine AD.pure T rfl rfl rfl ?_
 refine AD.val rfl rfl (slice_hi_map_ok T rfl rfl rfl rfl rfl (hx47) (fun _ => rfl)) ?_
 iterate 3 refine AD.pure T rfl rfl rfl ?_
 refine AD.val rfl rfl (ix_map_ok T rfl rfl rfl rfl rfl (getI_drop hd4) rfl) ?_
 refine AD.pure T rfl rfl rfl ?_
 refine AD.nil ?_
 refine AO.val rfl rfl (callV_ok rfl rfl rfl rfl (spec_l1Has_ok _ _ _ (hx49)) rfl) ?_
 refine AO.nil ?_
 refine AW.cond (b := x48) rfl (fun hc => ?_) (fun hc => ?_)
 replace hH := condT hc hH
 refine AW.seq (AW.region ?_)
 refine AO.pu T ?_
 refine AO.nil (AW.ret ?_)
 have hR := someE hH; subst hR
 exact retQ.i [] rfl (.c (.c .v))
 replace hH := condF hc hH
 refine AW.skip ?_
 refine AW.region ?_
 refine AO.val rfl rfl (ar_ok rfl rfl rfl rfl (inI_succ hlt6 hb5)) ?_
 refine AO.pu T ?_
 refine AO.nil ?_
 refine ⟨k1 + 1, ⟨Nat.succ_le_of_lt hlt6, (by rw [drop_succ_of hd4]; exact hH)⟩, (by have := hlt6; dsimp only; omega), ?_⟩
 exact Le.ct 0 0

def spec_seGood_l1 (sA : Season) : List Line → Nat → Int → Option Bool
  | [], k1, v16 =>
    (spec_l1In_p sA.best 1 9).bind fun x18 =>
    some (x18 && decide (v16 ≤ 80))
  | y2 :: ys3, k1, v16 =>
    (spec_seLine_p y2).bind fun x20 =>
    (opt ((!(!x20)) && decide ((k1 : Int) > 0)) default (getI sA.lines (w64 ((k1 : Int) - 1)))).bind fun x22 =>
    cond ((!x20) || (decide ((k1 : Int) > 0) && decide (x22.skater ≥ y2.skater)))
      (some false)
      (spec_seGood_l1 sA ys3 (k1 + 1) (w64 (v16 + (y2.events.length : Int))))
def spec_seGood_p (sA : Season) : Option Bool :=
  spec_seGood_l1 sA sA.lines 0 0
theorem spec_seGood_ok (sA : Season) (r : Bool) (hH : spec_seGood_p sA = some r) : SpecR Tryz.prog 77 [.g (encSeason sA)] (.v (.bool r)) := by
 refine fn_ok T Tryz.func77 rfl (by decide) rfl ?_
 refine AW.seq (AW.region ?_)
 refine AO.step rfl (box_ok T rfl 1 rfl rfl rfl rfl) ?_
 refine AO.pu T ?_
 refine AO.nil (AW.seq ?_)
 refine AW.region ?_
 refine AO.pu T ?_
 refine AO.nil ?_
 iterate 2 refine AW.seq ?_
 refine AW.region ?_
 iterate 2 refine AO.pu T ?_
 refine AO.val rfl rfl (len_map_ok T rfl rfl rfl) ?_
 refine AO.pu T ?_
 refine AO.nil ?_
 refine AW.block ?_
 refine AW.loopS (fun s : Nat × Int => (⟨[(1, .p 1 0), (3, s.2), (7, .s (List.map encLine sA.lines)), (8, (sA.lines.length : Int)), (9, (s.1 : Int))], [(1, .box [sA.best, .s (List.map encLine sA.lines)])], 46, []⟩ : St)) (fun s => s.1 ≤ sA.lines.length ∧ spec_seGood_l1 sA (sA.lines.drop s.1) s.1 s.2 = some r) (fun s => sA.lines.length - s.1) (0, 0) ⟨Nat.zero_le _, hH⟩ ?_ ?_
 exact Le.ct 0 0
 rintro ⟨k1, v16⟩ ⟨hk, hH⟩
 replace hH : spec_seGood_l1 sA (sA.lines.drop k1) k1 v16 = some r := hH
 try dsimp only
 refine AW.boundM (t := 7) (l := sA.lines) rfl (fun hb5 => ?_)
 rcases hd4 : sA.lines.drop k1 with _ | ⟨y2, ys3⟩
 rw [hd4, spec_seGood_l1] at hH
 have hlt6 := drop_ge hd4
 refine AW.seq (AW.region ?_)
 refine AO.pu T ?_
 refine AO.nil (AW.seq ?_)
 refine AW.condF' (b := decide ((k1 : Int) < (sA.lines.length : Int))) rfl (rngF hlt6) ?_
 refine AW.exit ?_
 refine AW.seq ?_
 obtain ⟨x18, hx19, hH⟩ := bindE hH
 refine AW.region ?_
 iterate 2 refine AO.pu T ?_
 refine AO.val rfl rfl (callV_ok rfl rfl rfl rfl (spec_l1In_ok _ _ _ _ (hx19)) rfl) ?_
 refine AO.pu T ?_
 refine AO.pureG T [] rfl trivial rfl rfl ?_
 refine AO.pureG T [43] rfl ⟨fun h => h, trivial⟩ rfl rfl ?_
 refine AO.val rfl rfl (pick_and rfl rfl rfl rfl) ?_
 refine AO.pu T ?_
 refine AO.nil (AW.ret ?_)
 have hR := someE hH; subst hR
 exact retQ.i [] rfl (.c (.c .v))
 rw [hd4, spec_seGood_l1] at hH
 have hlt6 := drop_lt hd4
 refine AW.seq (AW.region ?_)
 refine AO.pu T ?_
 refine AO.nil (AW.seq ?_)
 refine AW.condT' (b := decide ((k1 : Int) < (sA.lines.length : Int))) rfl (rngT hlt6) ?_
 refine AW.skip ?_
 refine AW.seq ?_
 refine AW.block ?_
 refine AW.seq (AW.region ?_)
 refine AO.pu T ?_
 refine AO.val rfl rfl (ix_map_ok T rfl rfl rfl rfl rfl (getI_drop hd4) rfl) ?_
 refine AO.pu T (d := .g [y2.skater, .s (List.map encInt y2.events), .s (List.map encInt y2.points)]) ?_
 refine AO.step rfl (alloc_ok T rfl 4 rfl rfl rfl rfl rfl) ?_
 refine AO.pu T ?_
 refine AO.se T [y2.skater, .s (List.map encInt y2.events), .s (List.map encInt y2.points)] ?_
 refine AO.nil ?_
 iterate 2 refine AW.seq ?_
 obtain ⟨x20, hx21, hH⟩ := bindE hH
 obtain ⟨x22, hx23, hH⟩ := bindE hH
 refine AW.drawn 16 5 [] mix (by kernel_rfl) rfl ?_
 refine AD.pure T (d := .g [y2.skater, .s (List.map encInt y2.events), .s (List.map encInt y2.points)]) rfl rfl rfl ?_
 refine AD.val rfl rfl (callV_ok rfl rfl rfl rfl (spec_seLine_ok _ _ (hx21)) rfl) ?_
 iterate 2 refine AD.pure T rfl rfl rfl ?_
 refine AD.pureG T [] rfl trivial rfl rfl ?_
 refine AD.pureG T [18] rfl ⟨fun h => h, trivial⟩ rfl rfl ?_
 refine AD.pureG T [19] rfl ⟨fun h => h, trivial⟩ rfl rfl ?_
 refine AD.pureG T [] rfl trivial rfl rfl ?_
 refine AD.pureG T [21] rfl ⟨fun h => h, trivial⟩ rfl rfl ?_
 refine AD.pureG T [] rfl trivial rfl rfl ?_
 refine AD.guard [23] rfl ⟨fun h => h, trivial⟩ (fun hg => arw_ok rfl rfl rfl rfl) rfl ?_
 refine AD.guard [22, 24] rfl ⟨fun h => h, fun h => h, trivial⟩ (fun hg => ix_map_ok T rfl rfl rfl rfl rfl (optT hx23 hg) rfl) rfl ?_
 refine AD.pureG T [25] rfl ⟨fun h => h, trivial⟩ rfl rfl ?_
 refine AD.pureG T [26] rfl ⟨fun h => h, trivial⟩ rfl rfl ?_
 refine AD.pureG T [] rfl trivial rfl rfl ?_
 refine AD.pureG T [28] rfl ⟨fun h => h, trivial⟩ rfl rfl ?_
 refine AD.nil ?_
 refine AO.pureG T [27, 29] rfl ⟨fun h => h, fun h => h, trivial⟩ rfl rfl ?_
 refine AO.guard [20] rfl ⟨fun h => h, trivial⟩ (fun hg => pick_and rfl rfl rfl (by rw [hg]; exact Bool.true_and _)) rfl ?_
 refine AO.val rfl rfl (pick_or rfl rfl rfl rfl) ?_
 refine AO.nil ?_
 refine AW.le (Le.ct 0 0 (σ' := (⟨[(1, .p 1 0), (3, v16), (5, .p 4 0), (7, .s (List.map encLine sA.lines)), (8, (sA.lines.length : Int)), (9, (k1 : Int)), (32, .v (.bool ((!x20) || (decide ((k1 : Int) > 0) && decide (x22.skater ≥ y2.skater)))))], [(1, .box [sA.best, .s (List.map encLine sA.lines)]), (4, .box [y2.skater, .s (List.map encInt y2.events), .s (List.map encInt y2.points)])], 46, []⟩ : St))) ?_
 refine AW.cond (b := ((!x20) || (decide ((k1 : Int) > 0) && decide (x22.skater ≥ y2.skater)))) rfl (fun hc => ?_) (fun hc => ?_)
 replace hH := condT hc hH
 refine AW.seq (AW.region ?_)
 refine AO.pu T ?_
 refine AO.nil (AW.ret ?_)
 have hR := someE hH; subst hR
 exact retQ.i [] rfl (.c (.c .v))
 replace hH := condF hc hH
 refine AW.skip ?_
 refine AW.region ?_
 iterate 3 refine AO.pu T ?_
 refine AO.val rfl rfl (len_map_ok T rfl rfl rfl) ?_
 refine AO.val rfl rfl (arw_ok rfl rfl rfl rfl) ?_
 refine AO.pu T ?_
 refine AO.nil ?_
 refine AW.region ?_
 refine AO.val rfl rfl (ar_ok rfl rfl rfl rfl (inI_succ hlt6 hb5)) ?_
 refine AO.pu T ?_
 refine AO.nil ?_
 refine ⟨(k1 + 1, w64 (v16 + (y2.events.length : Int))), ⟨Nat.succ_le_of_lt hlt6, (by rw [drop_succ_of hd4]; exact hH)⟩, (by have := hlt6; dsimp only; omega), ?_⟩
 exact Le.ct 0 0

def spec_wlGood_l2 (w : World) : List Int → Nat → Option Bool
  | [], k12 =>
    (spec_l1In_p (w.seasons.length : Int) 1 3).bind fun x27 =>
    some (x27 && ((w.weights.length : Int) == (w.seasons.length : Int)))
  | y13 :: ys14, k12 =>
    (spec_l1In_p y13 0 100).bind fun x29 =>
    (opt ((!(!x29)) && decide ((k12 : Int) > 0)) default (getI w.weights (w64 ((k12 : Int) - 1)))).bind fun x31 =>
    cond ((!x29) || (decide ((k12 : Int) > 0) && decide (x31 < y13)))
      (some false)
      (spec_wlGood_l2 w ys14 (k12 + 1))
def spec_wlGood_l1 (w : World) : List Season → Nat → Option Bool
  | [], k1 =>
    spec_wlGood_l2 w w.weights 0
  | y2 :: ys3, k1 =>
    (spec_seGood_p y2).bind fun x33 =>
    cond (!x33)
      (some false)
      (spec_wlGood_l1 w ys3 (k1 + 1))
def spec_wlGood_p (w : World) : Option Bool :=
  spec_wlGood_l1 w w.seasons 0
theorem spec_wlGood_ok (w : World) (r : Bool) (hH : spec_wlGood_p w = some r) : SpecR Tryz.prog 41 [.g (encWorld w)] (.v (.bool r)) := by
 refine fn_ok T Tryz.func41 rfl (by decide) rfl ?_
 refine AW.seq (AW.region ?_)
 refine AO.step rfl (box_ok T rfl 1 rfl rfl rfl rfl) ?_
 refine AO.pu T ?_
 refine AO.nil ?_
 iterate 2 refine AW.seq ?_
 refine AW.region ?_
 iterate 2 refine AO.pu T ?_
 refine AO.val rfl rfl (len_map_ok T rfl rfl rfl) ?_
 refine AO.pu T ?_
 refine AO.nil ?_
 refine AW.block ?_
 refine AW.loopS (fun s : Nat => (⟨[(1, .p 1 0), (8, .s (List.map encSeason w.seasons)), (9, (w.seasons.length : Int)), (10, (s : Int))], [(1, .box [.s (List.map encSeason w.seasons), .s (List.map encInt w.weights)])], 57, []⟩ : St)) (fun s => s ≤ w.seasons.length ∧ spec_wlGood_l1 w (w.seasons.drop s) s = some r) (fun s => w.seasons.length - s) 0 ⟨Nat.zero_le _, hH⟩ ?_ ?_
 exact Le.ct 0 0
 rintro k1 ⟨hk, hH⟩
 replace hH : spec_wlGood_l1 w (w.seasons.drop k1) k1 = some r := hH
 try dsimp only
 refine AW.boundM (t := 8) (l := w.seasons) rfl (fun hb5 => ?_)
 rcases hd4 : w.seasons.drop k1 with _ | ⟨y2, ys3⟩
 rw [hd4, spec_wlGood_l1] at hH
 have hlt6 := drop_ge hd4
 refine AW.seq (AW.region ?_)
 refine AO.pu T ?_
 refine AO.nil (AW.seq ?_)
 refine AW.condF' (b := decide ((k1 : Int) < (w.seasons.length : Int))) rfl (rngF hlt6) ?_
 refine AW.exit ?_
 iterate 2 refine AW.seq ?_
 refine AW.region ?_
 iterate 2 refine AO.pu T ?_
 refine AO.val rfl rfl (len_map_ok T rfl rfl rfl) ?_
 refine AO.pu T ?_
 refine AO.nil ?_
 refine AW.block ?_
 refine AW.loopS (fun s : Nat => (⟨[(1, .p 1 0), (19, .s (List.map encInt w.weights)), (20, (w.weights.length : Int)), (21, (s : Int))], [(1, .box [.s (List.map encSeason w.seasons), .s (List.map encInt w.weights)])], 57, []⟩ : St)) (fun s => s ≤ w.weights.length ∧ spec_wlGood_l2 w (w.weights.drop s) s = some r) (fun s => w.weights.length - s) 0 ⟨Nat.zero_le _, hH⟩ ?_ ?_
 exact Le.ct 0 0
 rintro k12 ⟨hk, hH⟩
 replace hH : spec_wlGood_l2 w (w.weights.drop k12) k12 = some r := hH
 try dsimp only
 refine AW.boundM (t := 19) (l := w.weights) rfl (fun hb16 => ?_)
 rcases hd15 : w.weights.drop k12 with _ | ⟨y13, ys14⟩
 rw [hd15, spec_wlGood_l2] at hH
 have hlt17 := drop_ge hd15
 refine AW.seq (AW.region ?_)
 refine AO.pu T ?_
 refine AO.nil (AW.seq ?_)
 refine AW.condF' (b := decide ((k12 : Int) < (w.weights.length : Int))) rfl (rngF hlt17) ?_
 refine AW.exit ?_
 refine AW.seq ?_
 obtain ⟨x27, hx28, hH⟩ := bindE hH
 refine AW.region ?_
 iterate 2 refine AO.pu T ?_
 refine AO.val rfl rfl (len_map_ok T rfl rfl rfl) ?_
 refine AO.val rfl rfl (callV_ok rfl rfl rfl rfl (spec_l1In_ok _ _ _ _ (hx28)) rfl) ?_
 refine AO.pu T ?_
 refine AO.pureG T [] rfl trivial rfl rfl ?_
 refine AO.pureG T [49] rfl ⟨fun h => h, trivial⟩ rfl rfl ?_
 refine AO.guard [50] rfl ⟨fun h => h, trivial⟩ (fun hg => len_map_ok T rfl rfl rfl) rfl ?_
 refine AO.pureG T [] rfl trivial rfl rfl ?_
 refine AO.pureG T [52] rfl ⟨fun h => h, trivial⟩ rfl rfl ?_
 refine AO.guard [53] rfl ⟨fun h => h, trivial⟩ (fun hg => len_map_ok T rfl rfl rfl) rfl ?_
 refine AO.pureG T [51, 54] rfl ⟨fun h => h, fun h => h, trivial⟩ rfl rfl ?_
 refine AO.val rfl rfl (pick_and rfl rfl rfl rfl) ?_
 refine AO.pu T ?_
 refine AO.nil (AW.ret ?_)
 have hR := someE hH; subst hR
 exact retQ.i [] rfl (.c (.c .v))
 rw [hd15, spec_wlGood_l2] at hH
 have hlt17 := drop_lt hd15
 refine AW.seq (AW.region ?_)
 refine AO.pu T ?_
 refine AO.nil (AW.seq ?_)
 refine AW.condT' (b := decide ((k12 : Int) < (w.weights.length : Int))) rfl (rngT hlt17) ?_
 refine AW.skip ?_
 refine AW.seq ?_
 refine AW.block ?_
 refine AW.seq (AW.region ?_)
 refine AO.pu T ?_
 refine AO.val rfl rfl (ix_map_ok T rfl rfl rfl rfl rfl (getI_drop hd15) rfl) ?_
 iterate 3 refine AO.pu T ?_
 refine AO.nil (AW.seq ?_)
 obtain ⟨x29, hx30, hH⟩ := bindE hH
 obtain ⟨x31, hx32, hH⟩ := bindE hH
 refine AW.region ?_
 refine AO.pu T ?_
 refine AO.val rfl rfl (callV_ok rfl rfl rfl rfl (spec_l1In_ok _ _ _ _ (hx30)) rfl) ?_
 iterate 2 refine AO.pu T ?_
 refine AO.pureG T [] rfl trivial rfl rfl ?_
 refine AO.pureG T [30] rfl ⟨fun h => h, trivial⟩ rfl rfl ?_
 refine AO.pureG T [31] rfl ⟨fun h => h, trivial⟩ rfl rfl ?_
 refine AO.pureG T [] rfl trivial rfl rfl ?_
 refine AO.pureG T [33] rfl ⟨fun h => h, trivial⟩ rfl rfl ?_
 refine AO.pureG T [] rfl trivial rfl rfl ?_
 refine AO.guard [35] rfl ⟨fun h => h, trivial⟩ (fun hg => arw_ok rfl rfl rfl rfl) rfl ?_
 refine AO.guard [34, 36] rfl ⟨fun h => h, fun h => h, trivial⟩ (fun hg => ix_map_ok T rfl rfl rfl rfl rfl (optT hx32 hg) rfl) rfl ?_
 refine AO.pureG T [37] rfl ⟨fun h => h, trivial⟩ rfl rfl ?_
 refine AO.pureG T [] rfl trivial rfl rfl ?_
 refine AO.pureG T [38, 39] rfl ⟨fun h => h, fun h => h, trivial⟩ rfl rfl ?_
 refine AO.guard [32] rfl ⟨fun h => h, trivial⟩ (fun hg => pick_and rfl rfl rfl (by rw [hg]; exact Bool.true_and _)) rfl ?_
 refine AO.val rfl rfl (pick_or rfl rfl rfl rfl) ?_
 refine AO.nil ?_
 refine AW.cond (b := ((!x29) || (decide ((k12 : Int) > 0) && decide (x31 < y13)))) rfl (fun hc => ?_) (fun hc => ?_)
 replace hH := condT hc hH
 refine AW.seq (AW.region ?_)
 refine AO.pu T ?_
 refine AO.nil ?_
 refine AW.le (Le.ct 0 0 (σ' := (⟨[(2, .v (.bool false))], [], 57, []⟩ : St))) ?_
 refine AW.ret ?_
 have hR := someE hH; subst hR
 exact retQ.i [] rfl (.c (.c .v))
 replace hH := condF hc hH
 refine AW.skip ?_
 refine AW.region ?_
 refine AO.val rfl rfl (ar_ok rfl rfl rfl rfl (inI_succ hlt17 hb16)) ?_
 refine AO.pu T ?_
 refine AO.nil ?_
 refine ⟨k12 + 1, ⟨Nat.succ_le_of_lt hlt17, (by rw [drop_succ_of hd15]; exact hH)⟩, (by have := hlt17; dsimp only; omega), ?_⟩
 exact Le.ct 0 0
 rw [hd4, spec_wlGood_l1] at hH
 have hlt6 := drop_lt hd4
 refine AW.seq (AW.region ?_)
 refine AO.pu T ?_
 refine AO.nil (AW.seq ?_)
 refine AW.condT' (b := decide ((k1 : Int) < (w.seasons.length : Int))) rfl (rngT hlt6) ?_
 refine AW.skip ?_
 refine AW.seq ?_
 refine AW.block ?_
 refine AW.seq (AW.region ?_)
 refine AO.val rfl rfl (ix_map_ok T rfl rfl rfl rfl rfl (getI_drop hd4) rfl) ?_
 refine AO.pu T (d := .g [y2.best, .s (List.map encLine y2.lines)]) ?_
 refine AO.step rfl (alloc_ok T rfl 4 rfl rfl rfl rfl rfl) ?_
 refine AO.se T [y2.best, .s (List.map encLine y2.lines)] ?_
 refine AO.nil (AW.seq ?_)
 obtain ⟨x33, hx34, hH⟩ := bindE hH
 refine AW.region ?_
 refine AO.pu T (d := .g [y2.best, .s (List.map encLine y2.lines)]) ?_
 refine AO.val rfl rfl (callV_ok rfl rfl rfl rfl (spec_seGood_ok _ _ (hx34)) rfl) ?_
 refine AO.pu T ?_
 refine AO.nil ?_
 refine AW.cond (b := (!x33)) rfl (fun hc => ?_) (fun hc => ?_)
 replace hH := condT hc hH
 refine AW.seq (AW.region ?_)
 refine AO.pu T ?_
 refine AO.nil (AW.ret ?_)
 have hR := someE hH; subst hR
 exact retQ.i [] rfl (.c (.c .v))
 replace hH := condF hc hH
 refine AW.skip ?_
 refine AW.region ?_
 refine AO.val rfl rfl (ar_ok rfl rfl rfl rfl (inI_succ hlt6 hb5)) ?_
 refine AO.pu T ?_
 refine AO.nil ?_
 refine ⟨k1 + 1, ⟨Nat.succ_le_of_lt hlt6, (by rw [drop_succ_of hd4]; exact hH)⟩, (by have := hlt6; dsimp only; omega), ?_⟩
 exact Le.ct 0 0

def spec_l1Put_l1 (l : List Int) (n : Int) : Nat → Int → Option Int
  | 0, _ => none
  | k13 + 1, v19 =>
    (opt (decide (v19 < (l.length : Int))) default (getI l v19)).bind fun x21 =>
    cond (decide (v19 < (l.length : Int)) && decide (x21 < n))
      (spec_l1Put_l1 l n k13 (w64 (v19 + 1)))
      (some v19)
def spec_l1Put_p (fuel : Nat) (l : List Int) (n : Int) : Option (List Int) :=
  (spec_l1Put_l1 l n fuel 0).bind fun v10 =>
  (opt (decide (v10 < (l.length : Int))) default (getI l v10)).bind fun x23 =>
  cond (decide (v10 < (l.length : Int)) && (x23 == n))
    (some l)
    ((sliceHi l v10).bind fun x25 =>
    (need (fitsB 8 x25.length)).bind fun u27 =>
    (need (fitsB 8 (x25.length + ([n]).length))).bind fun u29 =>
    (sliceLo l v10).bind fun x31 =>
    (need (fitsB 8 (((x25 ++ [n])).length + x31.length))).bind fun u33 =>
    some ((x25 ++ [n]) ++ x31))
theorem spec_l1Put_ok (fuel : Nat) (l : List Int) (n : Int) (r : (List Int)) (hH : spec_l1Put_p fuel l n = some r) : SpecR Tryz.prog 64 [.s (List.map encInt l), n] (.s (r.map encInt)) := by
 refine fn_ok T Tryz.func64 rfl (by decide) rfl ?_
 refine AW.seq (AW.region ?_)
 refine AO.pu T ?_
 refine AO.nil (AW.seq ?_)
 refine AW.region ?_
 refine AO.pu T ?_
 refine AO.nil ?_
 obtain ⟨o11, hH, hK12⟩ := bindE hH
 refine AW.seqJ (fun s : Int => (⟨[(0, .s (List.map encInt l)), (1, n), (5, s)], [], 48, []⟩ : St)) (fun s => s = o11) ?_ ?_
 refine AW.block ?_
 refine AW.loopS (fun s : Nat × Int => (⟨[(0, .s (List.map encInt l)), (1, n), (5, s.2)], [], 48, []⟩ : St)) (fun s => spec_l1Put_l1 l n s.1 s.2 = some o11) (fun s => s.1) (fuel, 0) hH ?_ ?_
 exact Le.ct 0 0
 rintro ⟨k13, v19⟩ hH
 replace hH : spec_l1Put_l1 l n k13 v19 = some o11 := hH
 try dsimp only
 rcases k13 with _ | k13
 cases (show none = some _ from hH)
 rw [spec_l1Put_l1] at hH
 iterate 2 refine AW.seq ?_
 obtain ⟨x21, hx22, hH⟩ := bindE hH
 refine AW.region ?_
 iterate 2 refine AO.pu T ?_
 refine AO.val rfl rfl (len_map_ok T rfl rfl rfl) ?_
 iterate 2 refine AO.pu T ?_
 iterate 2 refine AO.pureG T [] rfl trivial rfl rfl ?_
 refine AO.guard [12, 13] rfl ⟨fun h => h, fun h => h, trivial⟩ (fun hg => ix_map_ok T rfl rfl rfl rfl rfl (optT hx22 hg) rfl) rfl ?_
 refine AO.pureG T [14] rfl ⟨fun h => h, trivial⟩ rfl rfl ?_
 refine AO.pureG T [] rfl trivial rfl rfl ?_
 refine AO.pureG T [15, 16] rfl ⟨fun h => h, fun h => h, trivial⟩ rfl rfl ?_
 refine AO.val rfl rfl (pick_and rfl rfl rfl rfl) ?_
 refine AO.nil ?_
 refine AW.cond (b := (decide (v19 < (l.length : Int)) && decide (x21 < n))) rfl (fun hc => ?_) (fun hc => ?_)
 replace hH := condT hc hH
 refine AW.skip ?_
 refine AW.block ?_
 refine AW.region ?_
 refine AO.pu T ?_
 refine AO.val rfl rfl (arw_ok rfl rfl rfl rfl) ?_
 refine AO.pu T ?_
 refine AO.nil ?_
 refine ⟨(k13, w64 (v19 + 1)), hH, Nat.lt_succ_self _, ?_⟩
 exact Le.ct 0 0
 replace hH := condF hc hH
 refine AW.exit ?_
 refine ⟨_, someE hH, ?_⟩
 exact Le.ct 0 0
 rintro v10 hs
 subst hs
 replace hH := hK12
 try dsimp only [flow, flowE] at hH
 try dsimp only
 iterate 2 refine AW.seq ?_
 obtain ⟨x23, hx24, hH⟩ := bindE hH
 refine AW.region ?_
 iterate 2 refine AO.pu T ?_
 refine AO.val rfl rfl (len_map_ok T rfl rfl rfl) ?_
 iterate 2 refine AO.pu T ?_
 iterate 2 refine AO.pureG T [] rfl trivial rfl rfl ?_
 refine AO.guard [26, 27] rfl ⟨fun h => h, fun h => h, trivial⟩ (fun hg => ix_map_ok T rfl rfl rfl rfl rfl (optT hx24 hg) rfl) rfl ?_
 refine AO.pureG T [28] rfl ⟨fun h => h, trivial⟩ rfl rfl ?_
 refine AO.pureG T [] rfl trivial rfl rfl ?_
 refine AO.pureG T [29, 30] rfl ⟨fun h => h, fun h => h, trivial⟩ rfl rfl ?_
 refine AO.val rfl rfl (pick_and rfl rfl rfl rfl) ?_
 refine AO.nil ?_
 refine AW.cond (b := (decide (v10 < (l.length : Int)) && (x23 == n))) rfl (fun hc => ?_) (fun hc => ?_)
 replace hH := condT hc hH
 refine AW.seq (AW.region ?_)
 iterate 2 refine AO.pu T ?_
 refine AO.nil (AW.ret ?_)
 have hR := someE hH; subst hR
 exact retQ.i [] rfl (.c (.c .s))
 replace hH := condF hc hH
 refine AW.skip ?_
 refine AW.seq ?_
 obtain ⟨x25, hx26, hH⟩ := bindE hH
 obtain ⟨u27, hx28, hH⟩ := bindE hH
 refine AW.region ?_
 refine AO.step rfl (mk0_ok T rfl rfl rfl rfl) ?_
 iterate 2 refine AO.pu T ?_
 refine AO.val rfl rfl (slice_hi_map_ok T rfl rfl rfl rfl rfl (hx26) (fun _ => rfl)) ?_
 refine AO.step rfl (app_ws_map T rfl 1 rfl rfl rfl rfl rfl (by decide) (by decide) rfl rfl (fun _ => rfl) (needT (hx28)) rfl rfl) ?_
 refine AO.pu T ?_
 refine AO.nil (AW.seq ?_)
 obtain ⟨u29, hx30, hH⟩ := bindE hH
 refine AW.region ?_
 iterate 2 refine AO.pu T ?_
 refine AO.step rfl (mk_map_ok T rfl 2 rfl rfl rfl rfl rfl (f := encInt) (l := [n]) rfl rfl (fun _ => rfl) rfl rfl rfl rfl rfl) ?_
 refine AO.step rfl (app_rv_map T rfl 3 rfl rfl rfl rfl rfl (by decide) rfl rfl rfl rfl (fun _ => rfl) (needT (hx30)) rfl rfl) ?_
 refine AO.pu T ?_
 refine AO.nil (AW.seq ?_)
 obtain ⟨x31, hx32, hH⟩ := bindE hH
 obtain ⟨u33, hx34, hH⟩ := bindE hH
 refine AW.region ?_
 iterate 3 refine AO.pu T ?_
 refine AO.val rfl rfl (slice_lo_map_ok T rfl rfl rfl rfl rfl (hx32) (fun _ => rfl)) ?_
 refine AO.step rfl (app_rs_map T rfl 4 rfl rfl rfl rfl rfl (by decide) (by decide) rfl rfl rfl (fun _ => rfl) (needT (hx34)) rfl rfl) ?_
 refine AO.pu T ?_
 refine AO.nil ?_
 refine AW.le (Le.ct 0 0 (σ' := (⟨[(4, .R 4)], [(4, .row 1 (List.map encInt ((x25 ++ [n]) ++ x31)))], 48, []⟩ : St))) ?_
 refine AW.le (Le.freezeM 4 (g := encInt) rfl (fun y => .vs rfl)) ?_
 refine AW.ret ?_
 have hR := someE hH; subst hR
 exact retQ.i [] rfl (.c (.c .s))

def spec_l1Least_p (a : Int) (b : Int) : Option Int :=
  cond (decide (a < b))
    (some a)
    (some b)
theorem spec_l1Least_ok (a : Int) (b : Int) (r : Int) (hH : spec_l1Least_p a b = some r) : SpecR Tryz.prog 115 [a, b] (.v (.int .i64 r)) := by
 refine fn_ok T Tryz.func115 rfl (by decide) rfl ?_
 refine AW.seq (AW.region ?_)
 refine AO.pu T ?_
 refine AO.nil ?_
 iterate 2 refine AW.seq ?_
 refine AW.region ?_
 iterate 3 refine AO.pu T ?_
 refine AO.nil ?_
 refine AW.cond (b := decide (a < b)) rfl (fun hc => ?_) (fun hc => ?_)
 replace hH := condT hc hH
 refine AW.seq (AW.region ?_)
 iterate 2 refine AO.pu T ?_
 refine AO.nil (AW.ret ?_)
 have hR := someE hH; subst hR
 exact retQ.i [] rfl (.c (.c .v))
 replace hH := condF hc hH
 refine AW.skip ?_
 refine AW.seq (AW.region ?_)
 iterate 2 refine AO.pu T ?_
 refine AO.nil (AW.ret ?_)
 have hR := someE hH; subst hR
 exact retQ.i [] rfl (.c (.c .v))

def spec_seCounted_p (sA : Season) (k : Int) : Option (List Int) :=
  (getI sA.lines k).bind fun x1 =>
  (spec_l1Least_p (x1.points.length : Int) sA.best).bind fun x3 =>
  (sliceHi x1.points x3).bind fun x5 =>
  some x5
theorem spec_seCounted_ok (sA : Season) (k : Int) (r : (List Int)) (hH : spec_seCounted_p sA k = some r) : SpecR Tryz.prog 104 [.g (encSeason sA), k] (.s (r.map encInt)) := by
 refine fn_ok T Tryz.func104 rfl (by decide) rfl ?_
 refine AW.seq (AW.region ?_)
 refine AO.step rfl (box_ok T rfl 1 rfl rfl rfl rfl) ?_
 refine AO.pu T ?_
 refine AO.nil (AW.seq ?_)
 obtain ⟨x1, hx2, hH⟩ := bindE hH
 refine AW.region ?_
 iterate 3 refine AO.pu T ?_
 refine AO.val rfl rfl (ix_map_ok T rfl rfl rfl rfl rfl (hx2) rfl) ?_
 iterate 3 refine AO.pu T ?_
 refine AO.nil (AW.seq ?_)
 obtain ⟨x3, hx4, hH⟩ := bindE hH
 obtain ⟨x5, hx6, hH⟩ := bindE hH
 refine AW.region ?_
 iterate 2 refine AO.pu T ?_
 refine AO.val rfl rfl (len_map_ok T rfl rfl rfl) ?_
 iterate 2 refine AO.pu T ?_
 refine AO.val rfl rfl (callV_ok rfl rfl rfl rfl (spec_l1Least_ok _ _ _ (hx4)) rfl) ?_
 refine AO.val rfl rfl (slice_hi_map_ok T rfl rfl rfl rfl rfl (hx6) (fun _ => rfl)) ?_
 refine AO.pu T ?_
 refine AO.nil (AW.ret ?_)
 have hR := someE hH; subst hR
 exact retQ.i [] rfl (.c (.c .s))

def spec_seTotal_l1 : List Int → Nat → Int → Option Int
  | [], k3, v10 =>
    some v10
  | y4 :: ys5, k3, v10 =>
    spec_seTotal_l1 ys5 (k3 + 1) (w64 (v10 + y4))
def spec_seTotal_p (sA : Season) (k : Int) : Option Int :=
  (spec_seCounted_p sA k).bind fun x1 =>
  spec_seTotal_l1 x1 0 0
theorem spec_seTotal_ok (sA : Season) (k : Int) (r : Int) (hH : spec_seTotal_p sA k = some r) : SpecR Tryz.prog 87 [.g (encSeason sA), k] (.v (.int .i64 r)) := by
 refine fn_ok T Tryz.func87 rfl (by decide) rfl ?_
 refine AW.seq (AW.region ?_)
 refine AO.step rfl (box_ok T rfl 1 rfl rfl rfl rfl) ?_
 refine AO.pu T ?_
 refine AO.nil (AW.seq ?_)
 refine AW.region ?_
 refine AO.pu T ?_
 refine AO.nil ?_
 iterate 2 refine AW.seq ?_
 obtain ⟨x1, hx2, hH⟩ := bindE hH
 refine AW.region ?_
 refine AO.pu T (d := .g [sA.best, .s (List.map encLine sA.lines)]) ?_
 refine AO.pu T ?_
 refine AO.val rfl rfl (callV_ok rfl rfl rfl rfl (spec_seCounted_ok _ _ _ (hx2)) rfl) ?_
 refine AO.val rfl rfl (len_map_ok T rfl rfl rfl) ?_
 refine AO.pu T ?_
 refine AO.nil ?_
 refine AW.block ?_
 refine AW.loopS (fun s : Nat × Int => (⟨[(5, s.2), (10, .s (List.map encInt x1)), (11, (x1.length : Int)), (12, (s.1 : Int))], [], 21, []⟩ : St)) (fun s => s.1 ≤ x1.length ∧ spec_seTotal_l1 (x1.drop s.1) s.1 s.2 = some r) (fun s => x1.length - s.1) (0, 0) ⟨Nat.zero_le _, hH⟩ ?_ ?_
 exact Le.ct 0 0
 rintro ⟨k3, v10⟩ ⟨hk, hH⟩
 replace hH : spec_seTotal_l1 (x1.drop k3) k3 v10 = some r := hH
 try dsimp only
 refine AW.boundM (t := 10) (l := x1) rfl (fun hb7 => ?_)
 rcases hd6 : x1.drop k3 with _ | ⟨y4, ys5⟩
 rw [hd6, spec_seTotal_l1] at hH
 have hlt8 := drop_ge hd6
 refine AW.seq (AW.region ?_)
 refine AO.pu T ?_
 refine AO.nil (AW.seq ?_)
 refine AW.condF' (b := decide ((k3 : Int) < (x1.length : Int))) rfl (rngF hlt8) ?_
 refine AW.exit ?_
 refine AW.seq (AW.region ?_)
 iterate 2 refine AO.pu T ?_
 refine AO.nil (AW.ret ?_)
 have hR := someE hH; subst hR
 exact retQ.i [] rfl (.c (.c .v))
 rw [hd6, spec_seTotal_l1] at hH
 have hlt8 := drop_lt hd6
 refine AW.seq (AW.region ?_)
 refine AO.pu T ?_
 refine AO.nil (AW.seq ?_)
 refine AW.condT' (b := decide ((k3 : Int) < (x1.length : Int))) rfl (rngT hlt8) ?_
 refine AW.skip ?_
 refine AW.seq ?_
 refine AW.block ?_
 refine AW.seq (AW.region ?_)
 refine AO.val rfl rfl (ix_map_ok T rfl rfl rfl rfl rfl (getI_drop hd6) rfl) ?_
 iterate 2 refine AO.pu T ?_
 refine AO.nil ?_
 refine AW.region ?_
 iterate 2 refine AO.pu T ?_
 refine AO.val rfl rfl (arw_ok rfl rfl rfl rfl) ?_
 refine AO.pu T ?_
 refine AO.nil ?_
 refine AW.region ?_
 refine AO.val rfl rfl (ar_ok rfl rfl rfl rfl (inI_succ hlt8 hb7)) ?_
 refine AO.pu T ?_
 refine AO.nil ?_
 refine ⟨(k3 + 1, w64 (v10 + y4)), ⟨Nat.succ_le_of_lt hlt8, (by rw [drop_succ_of hd6]; exact hH)⟩, (by have := hlt8; dsimp only; omega), ?_⟩
 exact Le.ct 0 0

def spec_poDown_p (a : Int) (b : Int) : Option Int :=
  (need (b != 0)).bind fun u1 =>
  cond (decide ((a.tmod b) < 0))
    (some (w64 ((w64 (a.tdiv b)) - 1)))
    (some (w64 (a.tdiv b)))
theorem spec_poDown_ok (a : Int) (b : Int) (r : Int) (hH : spec_poDown_p a b = some r) : SpecR Tryz.prog 103 [a, b] (.v (.int .i64 r)) := by
 refine fn_ok T Tryz.func103 rfl (by decide) rfl ?_
 refine AW.seq (AW.region ?_)
 refine AO.pu T ?_
 refine AO.nil (AW.seq ?_)
 obtain ⟨u1, hx2, hH⟩ := bindE hH
 refine AW.region ?_
 iterate 2 refine AO.pu T ?_
 refine AO.val rfl rfl (quow_ok rfl rfl rfl (neZ (needT (hx2)))) ?_
 refine AO.pu T ?_
 refine AO.nil ?_
 iterate 2 refine AW.seq ?_
 refine AW.region ?_
 iterate 2 refine AO.pu T ?_
 refine AO.val rfl rfl (rem_ok rfl rfl rfl (neZ (needT (hx2)))) ?_
 refine AO.pu T ?_
 refine AO.nil ?_
 refine AW.cond (b := decide ((a.tmod b) < 0)) rfl (fun hc => ?_) (fun hc => ?_)
 replace hH := condT hc hH
 refine AW.region ?_
 refine AO.pu T ?_
 refine AO.val rfl rfl (arw_ok rfl rfl rfl rfl) ?_
 refine AO.pu T ?_
 refine AO.nil (AW.seq ?_)
 refine AW.region ?_
 iterate 2 refine AO.pu T ?_
 refine AO.nil (AW.ret ?_)
 have hR := someE hH; subst hR
 exact retQ.i [] rfl (.c (.c .v))
 replace hH := condF hc hH
 refine AW.skip ?_
 refine AW.seq (AW.region ?_)
 iterate 2 refine AO.pu T ?_
 refine AO.nil (AW.ret ?_)
 have hR := someE hH; subst hR
 exact retQ.i [] rfl (.c (.c .v))

def spec_poRound_p (a : Int) (b : Int) : Option Int :=
  (spec_poDown_p (w64 ((w64 (2 * a)) + b)) (w64 (2 * b))).bind fun x1 =>
  some x1
theorem spec_poRound_ok (a : Int) (b : Int) (r : Int) (hH : spec_poRound_p a b = some r) : SpecR Tryz.prog 86 [a, b] (.v (.int .i64 r)) := by
 refine fn_ok T Tryz.func86 rfl (by decide) rfl ?_
 refine AW.seq (AW.region ?_)
 refine AO.pu T ?_
 refine AO.nil (AW.seq ?_)
 obtain ⟨x1, hx2, hH⟩ := bindE hH
 refine AW.region ?_
 refine AO.pu T ?_
 refine AO.val rfl rfl (arw_ok rfl rfl rfl rfl) ?_
 refine AO.pu T ?_
 refine AO.val rfl rfl (arw_ok rfl rfl rfl rfl) ?_
 refine AO.pu T ?_
 refine AO.val rfl rfl (arw_ok rfl rfl rfl rfl) ?_
 refine AO.val rfl rfl (callV_ok rfl rfl rfl rfl (spec_poDown_ok _ _ _ (hx2)) rfl) ?_
 refine AO.pu T ?_
 refine AO.nil (AW.ret ?_)
 have hR := someE hH; subst hR
 exact retQ.i [] rfl (.c (.c .v))

def spec_wlParts_l1 (w : World) (skater : Int) (fuel : Nat) : List Season → Nat → List Int → Bool → Option (((List Int) × Bool))
  | [], k1, v33, v34 =>
    some (v33, v34)
  | y2 :: ys3, k1, v33, v34 =>
    (spec_seHas_p fuel y2 skater).bind fun x36 =>
    cond (decide (x36 ≥ 0))
      ((spec_seTotal_p y2 x36).bind fun x38 =>
      (getI w.weights (k1 : Int)).bind fun x40 =>
      (spec_poRound_p (w64 (x38 * x40)) 100).bind fun x42 =>
      (need (fitsB 8 (v33.length + ([x42]).length))).bind fun u44 =>
      spec_wlParts_l1 w skater fuel ys3 (k1 + 1) (v33 ++ [x42]) true)
      ((need (fitsB 8 (v33.length + (([0] : List Int)).length))).bind fun u46 =>
      spec_wlParts_l1 w skater fuel ys3 (k1 + 1) (v33 ++ ([0] : List Int)) v34)
def spec_wlParts_p (fuel : Nat) (w : World) (skater : Int) : Option ((List Int) × Bool) :=
  spec_wlParts_l1 w skater fuel w.seasons 0 [] false
theorem spec_wlParts_ok (fuel : Nat) (w : World) (skater : Int) (r : ((List Int) × Bool)) (hH : spec_wlParts_p fuel w skater = some r) : SpecR Tryz.prog 49 [.g (encWorld w), skater] (.t [.w 1 (r.1.map encInt), .v (.bool r.2)]) := by
 refine fn_ok T Tryz.func49 rfl (by decide) rfl ?_
 refine AW.seq (AW.region ?_)
 refine AO.step rfl (box_ok T rfl 1 rfl rfl rfl rfl) ?_
 iterate 2 refine AO.pu T ?_
 refine AO.nil (AW.seq ?_)
 refine AW.region ?_
 refine AO.pu T ?_
 refine AO.nil (AW.seq ?_)
 refine AW.region ?_
 refine AO.pu T ?_
 refine AO.nil ?_
 iterate 2 refine AW.seq ?_
 refine AW.region ?_
 iterate 2 refine AO.pu T ?_
 refine AO.val rfl rfl (len_map_ok T rfl rfl rfl) ?_
 refine AO.pu T ?_
 refine AO.nil ?_
 refine AW.block ?_
 refine AW.loopS (fun s : Nat × (List Int) × Bool => (⟨[(1, skater), (2, .p 1 0), (6, .R 9), (7, .v (.bool s.2.2)), (13, .s (List.map encSeason w.seasons)), (14, (w.seasons.length : Int)), (15, (s.1 : Int))], [(1, .box [.s (List.map encSeason w.seasons), .s (List.map encInt w.weights)]), (9, .row 1 (List.map encInt s.2.1))], 42, []⟩ : St)) (fun s => s.1 ≤ w.seasons.length ∧ spec_wlParts_l1 w skater fuel (w.seasons.drop s.1) s.1 s.2.1 s.2.2 = some r) (fun s => w.seasons.length - s.1) (0, [], false) ⟨Nat.zero_le _, hH⟩ ?_ ?_
 refine Le.trans (Le.void 6 9 1 rfl rfl) ?_
 exact Le.ct 0 0
 rintro ⟨k1, v33, v34⟩ ⟨hk, hH⟩
 replace hH : spec_wlParts_l1 w skater fuel (w.seasons.drop k1) k1 v33 v34 = some r := hH
 try dsimp only
 refine AW.boundM (t := 13) (l := w.seasons) rfl (fun hb5 => ?_)
 rcases hd4 : w.seasons.drop k1 with _ | ⟨y2, ys3⟩
 rw [hd4, spec_wlParts_l1] at hH
 have hlt6 := drop_ge hd4
 refine AW.seq (AW.region ?_)
 refine AO.pu T ?_
 refine AO.nil (AW.seq ?_)
 refine AW.condF' (b := decide ((k1 : Int) < (w.seasons.length : Int))) rfl (rngF hlt6) ?_
 refine AW.exit ?_
 refine AW.seq (AW.region ?_)
 iterate 4 refine AO.pu T ?_
 refine AO.nil (AW.ret ?_)
 have hR := someE hH; subst hR
 exact retQ.i [9] rfl (.t (expLG_cons (.c (.rowR rfl)) (expLG_cons (.c .v) (expLG_nil))))
 rw [hd4, spec_wlParts_l1] at hH
 have hlt6 := drop_lt hd4
 refine AW.seq (AW.region ?_)
 refine AO.pu T ?_
 refine AO.nil (AW.seq ?_)
 refine AW.condT' (b := decide ((k1 : Int) < (w.seasons.length : Int))) rfl (rngT hlt6) ?_
 refine AW.skip ?_
 refine AW.seq ?_
 refine AW.block ?_
 refine AW.seq (AW.region ?_)
 refine AO.pu T ?_
 refine AO.val rfl rfl (ix_map_ok T rfl rfl rfl rfl rfl (getI_drop hd4) rfl) ?_
 refine AO.pu T (d := .g [y2.best, .s (List.map encLine y2.lines)]) ?_
 refine AO.step rfl (alloc_ok T rfl 12 rfl rfl rfl rfl rfl) ?_
 refine AO.pu T ?_
 refine AO.se T [y2.best, .s (List.map encLine y2.lines)] ?_
 refine AO.nil (AW.seq ?_)
 refine AW.region ?_
 refine AO.pu T ?_
 refine AO.nil ?_
 iterate 2 refine AW.seq ?_
 obtain ⟨x36, hx37, hH⟩ := bindE hH
 refine AW.region ?_
 refine AO.pu T (d := .g [y2.best, .s (List.map encLine y2.lines)]) ?_
 refine AO.pu T ?_
 refine AO.val rfl rfl (callV_ok rfl rfl rfl rfl (spec_seHas_ok fuel _ _ _ (hx37)) rfl) ?_
 refine AO.pu T ?_
 refine AO.nil (AW.seq ?_)
 refine AW.region ?_
 iterate 2 refine AO.pu T ?_
 refine AO.nil ?_
 refine AW.cond (b := decide (x36 ≥ 0)) rfl (fun hc => ?_) (fun hc => ?_)
 replace hH := condT hc hH
 refine AW.seq ?_
 obtain ⟨x38, hx39, hH⟩ := bindE hH
 obtain ⟨x40, hx41, hH⟩ := bindE hH
 obtain ⟨x42, hx43, hH⟩ := bindE hH
 refine AW.drawn 8 13 [] mix (by kernel_rfl) rfl ?_
 refine AD.pure T (d := .g [y2.best, .s (List.map encLine y2.lines)]) rfl rfl rfl ?_
 refine AD.pure T rfl rfl rfl ?_
 refine AD.val rfl rfl (callV_ok rfl rfl rfl rfl (spec_seTotal_ok _ _ _ (hx39)) rfl) ?_
 iterate 3 refine AD.pure T rfl rfl rfl ?_
 refine AD.val rfl rfl (ix_map_ok T rfl rfl rfl rfl rfl (hx41) rfl) ?_
 refine AD.pure T rfl rfl rfl ?_
 refine AD.nil ?_
 refine AO.val rfl rfl (arw_ok rfl rfl rfl rfl) ?_
 refine AO.val rfl rfl (callV_ok rfl rfl rfl rfl (spec_poRound_ok _ _ _ (hx43)) rfl) ?_
 refine AO.pu T ?_
 refine AO.nil ?_
 refine AW.le (Le.ct 0 0 (σ' := (⟨[(1, skater), (2, .p 1 0), (6, .R 9), (10, x42), (13, .s (List.map encSeason w.seasons)), (14, (w.seasons.length : Int)), (15, (k1 : Int))], [(1, .box [.s (List.map encSeason w.seasons), .s (List.map encInt w.weights)]), (9, .row 1 (List.map encInt v33))], 42, []⟩ : St))) ?_
 refine AW.region ?_
 refine AO.pu T ?_
 refine AO.nil ?_
 obtain ⟨u44, hx45, hH⟩ := bindE hH
 refine AW.region ?_
 iterate 2 refine AO.pu T ?_
 refine AO.step rfl (mk_map_ok T rfl 13 rfl rfl rfl rfl rfl (f := encInt) (l := [x42]) rfl rfl (fun _ => rfl) rfl rfl rfl rfl rfl) ?_
 refine AO.step rfl (app_rv_map T rfl 14 rfl rfl rfl rfl rfl (by decide) rfl rfl rfl rfl (fun _ => rfl) (needT (hx45)) rfl rfl) ?_
 refine AO.pu T ?_
 refine AO.nil ?_
 refine AW.region ?_
 refine AO.val rfl rfl (ar_ok rfl rfl rfl rfl (inI_succ hlt6 hb5)) ?_
 refine AO.pu T ?_
 refine AO.nil ?_
 refine ⟨(k1 + 1, (v33 ++ [x42]), true), ⟨Nat.succ_le_of_lt hlt6, (by rw [drop_succ_of hd4]; exact hH)⟩, (by have := hlt6; dsimp only; omega), ?_⟩
 exact Le.ct 14 9
 replace hH := condF hc hH
 refine AW.skip ?_
 obtain ⟨u46, hx47, hH⟩ := bindE hH
 refine AW.region ?_
 iterate 2 refine AO.pu T ?_
 refine AO.step rfl (mk_map_ok T rfl 15 rfl rfl rfl rfl rfl (f := encInt) (l := ([0] : List Int)) rfl rfl (fun _ => rfl) rfl rfl rfl rfl rfl) ?_
 refine AO.step rfl (app_rv_map T rfl 16 rfl rfl rfl rfl rfl (by decide) rfl rfl rfl rfl (fun _ => rfl) (needT (hx47)) rfl rfl) ?_
 refine AO.pu T ?_
 refine AO.nil ?_
 refine AW.region ?_
 refine AO.val rfl rfl (ar_ok rfl rfl rfl rfl (inI_succ hlt6 hb5)) ?_
 refine AO.pu T ?_
 refine AO.nil ?_
 refine ⟨(k1 + 1, (v33 ++ ([0] : List Int)), v34), ⟨Nat.succ_le_of_lt hlt6, (by rw [drop_succ_of hd4]; exact hH)⟩, (by have := hlt6; dsimp only; omega), ?_⟩
 exact Le.ct 16 9

def spec_poSum_l1 : List Int → Nat → Int → Option Int
  | [], k1, v8 =>
    some v8
  | y2 :: ys3, k1, v8 =>
    spec_poSum_l1 ys3 (k1 + 1) (w64 (v8 + y2))
def spec_poSum_p (l : List Int) : Option Int :=
  spec_poSum_l1 l 0 0
theorem spec_poSum_ok (l : List Int) (r : Int) (hH : spec_poSum_p l = some r) : SpecR Tryz.prog 56 [.s (List.map encInt l)] (.v (.int .i64 r)) := by
 refine fn_ok T Tryz.func56 rfl (by decide) rfl ?_
 refine AW.seq (AW.region ?_)
 refine AO.pu T ?_
 refine AO.nil (AW.seq ?_)
 refine AW.region ?_
 refine AO.pu T ?_
 refine AO.nil ?_
 iterate 2 refine AW.seq ?_
 refine AW.region ?_
 refine AO.pu T ?_
 refine AO.val rfl rfl (len_map_ok T rfl rfl rfl) ?_
 refine AO.pu T ?_
 refine AO.nil ?_
 refine AW.block ?_
 refine AW.loopS (fun s : Nat × Int => (⟨[(3, s.2), (6, .s (List.map encInt l)), (7, (l.length : Int)), (8, (s.1 : Int))], [], 17, []⟩ : St)) (fun s => s.1 ≤ l.length ∧ spec_poSum_l1 (l.drop s.1) s.1 s.2 = some r) (fun s => l.length - s.1) (0, 0) ⟨Nat.zero_le _, hH⟩ ?_ ?_
 exact Le.ct 0 0
 rintro ⟨k1, v8⟩ ⟨hk, hH⟩
 replace hH : spec_poSum_l1 (l.drop k1) k1 v8 = some r := hH
 try dsimp only
 refine AW.boundM (t := 6) (l := l) rfl (fun hb5 => ?_)
 rcases hd4 : l.drop k1 with _ | ⟨y2, ys3⟩
 rw [hd4, spec_poSum_l1] at hH
 have hlt6 := drop_ge hd4
 refine AW.seq (AW.region ?_)
 refine AO.pu T ?_
 refine AO.nil (AW.seq ?_)
 refine AW.condF' (b := decide ((k1 : Int) < (l.length : Int))) rfl (rngF hlt6) ?_
 refine AW.exit ?_
 refine AW.seq (AW.region ?_)
 iterate 2 refine AO.pu T ?_
 refine AO.nil (AW.ret ?_)
 have hR := someE hH; subst hR
 exact retQ.i [] rfl (.c (.c .v))
 rw [hd4, spec_poSum_l1] at hH
 have hlt6 := drop_lt hd4
 refine AW.seq (AW.region ?_)
 refine AO.pu T ?_
 refine AO.nil (AW.seq ?_)
 refine AW.condT' (b := decide ((k1 : Int) < (l.length : Int))) rfl (rngT hlt6) ?_
 refine AW.skip ?_
 refine AW.seq ?_
 refine AW.block ?_
 refine AW.seq (AW.region ?_)
 refine AO.val rfl rfl (ix_map_ok T rfl rfl rfl rfl rfl (getI_drop hd4) rfl) ?_
 iterate 2 refine AO.pu T ?_
 refine AO.nil ?_
 refine AW.region ?_
 iterate 2 refine AO.pu T ?_
 refine AO.val rfl rfl (arw_ok rfl rfl rfl rfl) ?_
 refine AO.pu T ?_
 refine AO.nil ?_
 refine AW.region ?_
 refine AO.val rfl rfl (ar_ok rfl rfl rfl rfl (inI_succ hlt6 hb5)) ?_
 refine AO.pu T ?_
 refine AO.nil ?_
 refine ⟨(k1 + 1, w64 (v8 + y2)), ⟨Nat.succ_le_of_lt hlt6, (by rw [drop_succ_of hd4]; exact hH)⟩, (by have := hlt6; dsimp only; omega), ?_⟩
 exact Le.ct 0 0

def spec_wlList_l3 (v193 : List Rank) : Nat → List Rank → Int → Option ((List Rank))
  | 0, _, _ => none
  | k195 + 1, v218, v219 =>
    cond (decide (v219 < (v193.length : Int)))
      ((getI v218 v219).bind fun x221 =>
      (opt (decide (v219 > 0)) default (getI (v218.set v219.toNat (Rank.mk x221.skater x221.total (w64 (v219 + 1)))) (w64 (v219 - 1)))).bind fun x223 =>
      (opt (decide (v219 > 0)) default (getI (v218.set v219.toNat (Rank.mk x221.skater x221.total (w64 (v219 + 1)))) v219)).bind fun x225 =>
      cond (decide (v219 > 0) && (x223.total == x225.total))
        ((getI (v218.set v219.toNat (Rank.mk x221.skater x221.total (w64 (v219 + 1)))) (w64 (v219 - 1))).bind fun x227 =>
        (getI (v218.set v219.toNat (Rank.mk x221.skater x221.total (w64 (v219 + 1)))) v219).bind fun x229 =>
        spec_wlList_l3 v193 k195 ((v218.set v219.toNat (Rank.mk x221.skater x221.total (w64 (v219 + 1)))).set v219.toNat (Rank.mk x229.skater x229.total x227.place)) (w64 (v219 + 1)))
        (spec_wlList_l3 v193 k195 (v218.set v219.toNat (Rank.mk x221.skater x221.total (w64 (v219 + 1)))) (w64 (v219 + 1))))
      (some v218)
def spec_wlList_l4 (v193 : List Rank) (x271 : Int) : Nat → Int → Option Int
  | 0, _ => none
  | k285 + 1, v291 =>
    (opt (decide (v291 > 0)) default (getI v193 (w64 (v291 - 1)))).bind fun x293 =>
    cond (decide (v291 > 0) && decide (x293.total < x271))
      (spec_wlList_l4 v193 x271 k285 (w64 (v291 - 1)))
      (some v291)
def spec_wlList_l2 (w : World) (fuel : Nat) : List Int → Nat → List Rank → Option ((List Rank))
  | [], k72, v193 =>
    spec_wlList_l3 v193 fuel v193 0
  | y73 :: ys74, k72, v193 =>
    ((spec_wlParts_p fuel w y73).bind fun x269 =>
    (spec_poSum_p x269.1).bind fun x271 =>
    (spec_wlList_l4 v193 x271 fuel (v193.length : Int)).bind fun v282 =>
    (sliceHi v193 v282).bind fun x295 =>
    (need (fitsB 24 x295.length)).bind fun u297 =>
    (need (fitsB 24 (x295.length + ([(Rank.mk y73 x271 0)]).length))).bind fun u299 =>
    (sliceLo v193 v282).bind fun x301 =>
    (need (fitsB 24 (((x295 ++ [(Rank.mk y73 x271 0)])).length + x301.length))).bind fun u303 =>
    some ((x295 ++ [(Rank.mk y73 x271 0)]) ++ x301)).bind fun v266 =>
    spec_wlList_l2 w fuel ys74 (k72 + 1) v266
def spec_wlList_l5 (fuel : Nat) : List Line → Nat → List Int → Option (List Int)
  | [], k322, v333 =>
    some v333
  | y323 :: ys324, k322, v333 =>
    (spec_l1Put_p fuel v333 y323.skater).bind fun x335 =>
    spec_wlList_l5 fuel ys324 (k322 + 1) x335
def spec_wlList_l1 (w : World) (fuel : Nat) : List Season → Nat → List Int → Option ((List Rank))
  | [], k1, v70 =>
    spec_wlList_l2 w fuel v70 0 []
  | y2 :: ys3, k1, v70 =>
    (spec_wlList_l5 fuel y2.lines 0 v70).bind fun v319 =>
    spec_wlList_l1 w fuel ys3 (k1 + 1) v319
def spec_wlList_p (fuel : Nat) (w : World) : Option (List Rank) :=
  spec_wlList_l1 w fuel w.seasons 0 []
theorem spec_wlList_ok (fuel : Nat) (w : World) (r : (List Rank)) (hH : spec_wlList_p fuel w = some r) : SpecR Tryz.prog 42 [.g (encWorld w)] (.w 3 (r.map encRank)) := by
 refine fn_ok T Tryz.func42 rfl (by decide) rfl ?_
 refine AW.seq (AW.region ?_)
 refine AO.step rfl (box_ok T rfl 1 rfl rfl rfl rfl) ?_
 refine AO.pu T ?_
 refine AO.nil (AW.seq ?_)
 refine AW.region ?_
 refine AO.pu T ?_
 refine AO.nil ?_
 iterate 2 refine AW.seq ?_
 refine AW.region ?_
 iterate 2 refine AO.pu T ?_
 refine AO.val rfl rfl (len_map_ok T rfl rfl rfl) ?_
 refine AO.pu T ?_
 refine AO.nil ?_
 refine AW.block ?_
 refine AW.loopS (fun s : Nat × (List Int) => (⟨[(1, .p 1 0), (3, .s (List.map encInt s.2)), (17, .s (List.map encSeason w.seasons)), (18, (w.seasons.length : Int)), (19, (s.1 : Int))], [(1, .box [.s (List.map encSeason w.seasons), .s (List.map encInt w.weights)])], 121, []⟩ : St)) (fun s => s.1 ≤ w.seasons.length ∧ spec_wlList_l1 w fuel (w.seasons.drop s.1) s.1 s.2 = some r) (fun s => w.seasons.length - s.1) (0, []) ⟨Nat.zero_le _, hH⟩ ?_ ?_
 refine Le.trans (Le.nilS 3 rfl) ?_
 exact Le.ct 0 0
 rintro ⟨k1, v70⟩ ⟨hk, hH⟩
 replace hH : spec_wlList_l1 w fuel (w.seasons.drop k1) k1 v70 = some r := hH
 try dsimp only
 refine AW.boundM (t := 17) (l := w.seasons) rfl (fun hb5 => ?_)
 rcases hd4 : w.seasons.drop k1 with _ | ⟨y2, ys3⟩
 rw [hd4, spec_wlList_l1] at hH
 have hlt6 := drop_ge hd4
 refine AW.seq (AW.region ?_)
 refine AO.pu T ?_
 refine AO.nil (AW.seq ?_)
 refine AW.condF' (b := decide ((k1 : Int) < (w.seasons.length : Int))) rfl (rngF hlt6) ?_
 refine AW.exit ?_
 refine AW.seq (AW.region ?_)
 refine AO.pu T ?_
 refine AO.nil ?_
 iterate 2 refine AW.seq ?_
 refine AW.region ?_
 refine AO.pu T ?_
 refine AO.val rfl rfl (len_map_ok T rfl rfl rfl) ?_
 refine AO.pu T ?_
 refine AO.nil ?_
 refine AW.block ?_
 refine AW.loopS (fun s : Nat × (List Rank) => (⟨[(1, .p 1 0), (8, .R 35), (36, .s (List.map encInt v70)), (37, (v70.length : Int)), (38, (s.1 : Int))], [(1, .box [.s (List.map encSeason w.seasons), .s (List.map encInt w.weights)]), (35, .row 3 (List.map encRank s.2))], 121, []⟩ : St)) (fun s => s.1 ≤ v70.length ∧ spec_wlList_l2 w fuel (v70.drop s.1) s.1 s.2 = some r) (fun s => v70.length - s.1) (0, []) ⟨Nat.zero_le _, hH⟩ ?_ ?_
 refine Le.trans (Le.void 8 35 3 rfl rfl) ?_
 exact Le.ct 0 0
 rintro ⟨k72, v193⟩ ⟨hk, hH⟩
 replace hH : spec_wlList_l2 w fuel (v70.drop k72) k72 v193 = some r := hH
 try dsimp only
 refine AW.boundM (t := 36) (l := v70) rfl (fun hb76 => ?_)
 rcases hd75 : v70.drop k72 with _ | ⟨y73, ys74⟩
 rw [hd75, spec_wlList_l2] at hH
 have hlt77 := drop_ge hd75
 refine AW.seq (AW.region ?_)
 refine AO.pu T ?_
 refine AO.nil (AW.seq ?_)
 refine AW.condF' (b := decide ((k72 : Int) < (v70.length : Int))) rfl (rngF hlt77) ?_
 refine AW.exit ?_
 iterate 2 refine AW.seq ?_
 refine AW.region ?_
 refine AO.pu T ?_
 refine AO.val rfl rfl (len_row_ok T rfl rfl rfl rfl) ?_
 refine AO.pu T ?_
 refine AO.nil ?_
 refine AW.block ?_
 refine AW.loopS (fun s : Nat × (List Rank) × Int => (⟨[(8, .R 35), (83, (v193.length : Int)), (84, s.2.2)], [(35, .row 3 (List.map encRank s.2.1))], 121, []⟩ : St)) (fun s => spec_wlList_l3 v193 s.1 s.2.1 s.2.2 = some r) (fun s => s.1) (fuel, v193, 0) hH ?_ ?_
 exact Le.ct 0 0
 rintro ⟨k195, v218, v219⟩ hH
 replace hH : spec_wlList_l3 v193 k195 v218 v219 = some r := hH
 try dsimp only
 rcases k195 with _ | k195
 cases (show none = some _ from hH)
 rw [spec_wlList_l3] at hH
 refine AW.seq (AW.region ?_)
 refine AO.pu T ?_
 refine AO.nil (AW.seq ?_)
 refine AW.cond (b := decide (v219 < (v193.length : Int))) rfl (fun hc => ?_) (fun hc => ?_)
 replace hH := condT hc hH
 refine AW.skip ?_
 refine AW.seq ?_
 refine AW.block ?_
 refine AW.seq (AW.region ?_)
 iterate 2 refine AO.pu T ?_
 refine AO.nil (AW.seq ?_)
 obtain ⟨x221, hx222, hH⟩ := bindE hH
 refine AW.region ?_
 iterate 3 refine AO.pu T ?_
 refine AO.val rfl rfl (arw_ok rfl rfl rfl rfl) ?_
 refine AO.val rfl rfl (ix_row_ok T rfl rfl rfl rfl rfl rfl (hx222)) ?_
 refine AO.pu T ?_
 refine AO.step rfl (store_row_ok T rfl rfl rfl rfl rfl (getI_get (hx222)) rfl rfl rfl rfl (u' := (Rank.mk x221.skater x221.total (w64 (v219 + 1)))) rfl rfl) ?_
 refine AO.nil (AW.seq ?_)
 obtain ⟨x223, hx224, hH⟩ := bindE hH
 obtain ⟨x225, hx226, hH⟩ := bindE hH
 refine AW.drawn 14 42 [] mix (by kernel_rfl) rfl ?_
 iterate 3 refine AD.pure T rfl rfl rfl ?_
 iterate 2 refine AD.pureG T [] rfl trivial rfl rfl ?_
 refine AD.guard [97] rfl ⟨fun h => h, trivial⟩ (fun hg => arw_ok rfl rfl rfl rfl) rfl ?_
 refine AD.guard [96, 98] rfl ⟨fun h => h, fun h => h, trivial⟩ (fun hg => ix_row_ok T rfl rfl rfl rfl rfl rfl (optT hx224 hg)) rfl ?_
 refine AD.pureG T [99] rfl ⟨fun h => h, trivial⟩ rfl rfl ?_
 refine AD.guard [100] rfl ⟨fun h => h, trivial⟩ (fun hg => load_row_ok T rfl rfl rfl rfl (getI_get (optT hx224 hg)) rfl rfl rfl) rfl ?_
 iterate 2 refine AD.pureG T [] rfl trivial rfl rfl ?_
 refine AD.guard [102, 103] rfl ⟨fun h => h, fun h => h, trivial⟩ (fun hg => ix_row_ok T rfl rfl rfl rfl rfl rfl (optT hx226 hg)) rfl ?_
 refine AD.pureG T [104] rfl ⟨fun h => h, trivial⟩ rfl rfl ?_
 refine AD.guard [105] rfl ⟨fun h => h, trivial⟩ (fun hg => load_row_ok T rfl rfl rfl rfl (getI_get (optT hx226 hg)) rfl rfl rfl) rfl ?_
 refine AD.nil ?_
 refine AO.pureG T [101, 106] rfl ⟨fun h => h, fun h => h, trivial⟩ rfl rfl ?_
 refine AO.val rfl rfl (pick_and rfl rfl rfl rfl) ?_
 refine AO.nil ?_
 refine AW.le (Le.ct 0 0 (σ' := (⟨[(8, .R 35), (15, v219), (83, (v193.length : Int)), (84, v219), (108, .v (.bool (decide (v219 > 0) && (x223.total == x225.total))))], [(35, .row 3 (List.map encRank (v218.set v219.toNat (Rank.mk x221.skater x221.total (w64 (v219 + 1))))))], 121, []⟩ : St))) ?_
 refine AW.cond (b := (decide (v219 > 0) && (x223.total == x225.total))) rfl (fun hc => ?_) (fun hc => ?_)
 replace hH := condT hc hH
 obtain ⟨x227, hx228, hH⟩ := bindE hH
 obtain ⟨x229, hx230, hH⟩ := bindE hH
 refine AW.region ?_
 iterate 4 refine AO.pu T ?_
 refine AO.val rfl rfl (arw_ok rfl rfl rfl rfl) ?_
 refine AO.val rfl rfl (ix_row_ok T rfl rfl rfl rfl rfl rfl (hx228)) ?_
 refine AO.pu T ?_
 refine AO.val rfl rfl (load_row_ok T rfl rfl rfl rfl (getI_get (hx228)) rfl rfl rfl) ?_
 refine AO.val rfl rfl (ix_row_ok T rfl rfl rfl rfl rfl rfl (hx230)) ?_
 refine AO.pu T ?_
 refine AO.step rfl (store_row_ok T rfl rfl rfl rfl rfl (getI_get (hx230)) rfl rfl rfl rfl (u' := (Rank.mk x229.skater x229.total x227.place)) rfl rfl) ?_
 refine AO.nil ?_
 refine AW.region ?_
 refine AO.val rfl rfl (arw_ok rfl rfl rfl rfl) ?_
 refine AO.pu T ?_
 refine AO.nil ?_
 refine ⟨(k195, ((v218.set v219.toNat (Rank.mk x221.skater x221.total (w64 (v219 + 1)))).set v219.toNat (Rank.mk x229.skater x229.total x227.place)), w64 (v219 + 1)), hH, Nat.lt_succ_self _, ?_⟩
 exact Le.ct 0 0
 replace hH := condF hc hH
 refine AW.skip ?_
 refine AW.region ?_
 refine AO.val rfl rfl (arw_ok rfl rfl rfl rfl) ?_
 refine AO.pu T ?_
 refine AO.nil ?_
 refine ⟨(k195, (v218.set v219.toNat (Rank.mk x221.skater x221.total (w64 (v219 + 1)))), w64 (v219 + 1)), hH, Nat.lt_succ_self _, ?_⟩
 exact Le.ct 0 0
 replace hH := condF hc hH
 refine AW.exit ?_
 refine AW.seq (AW.region ?_)
 iterate 2 refine AO.pu T ?_
 refine AO.nil (AW.ret ?_)
 have hR := someE hH; subst hR
 exact retQ.i [35] rfl (.c (.c (.rowR rfl)))
 rw [hd75, spec_wlList_l2] at hH
 have hlt77 := drop_lt hd75
 refine AW.seq (AW.region ?_)
 refine AO.pu T ?_
 refine AO.nil (AW.seq ?_)
 refine AW.condT' (b := decide ((k72 : Int) < (v70.length : Int))) rfl (rngT hlt77) ?_
 refine AW.skip ?_
 obtain ⟨o267, hH, hK268⟩ := bindE hH
 refine AW.seqJ (fun s : List Rank => (⟨[(1, .p 1 0), (8, .R 47), (36, .s (List.map encInt v70)), (37, (v70.length : Int)), (38, (k72 : Int))], [(1, .box [.s (List.map encSeason w.seasons), .s (List.map encInt w.weights)]), (47, .row 3 (List.map encRank s))], 121, []⟩ : St)) (fun s => s = o267) ?_ ?_
 refine AW.block ?_
 refine AW.seq (AW.region ?_)
 refine AO.val rfl rfl (ix_map_ok T rfl rfl rfl rfl rfl (getI_drop hd75) rfl) ?_
 iterate 2 refine AO.pu T ?_
 refine AO.nil (AW.seq ?_)
 obtain ⟨x269, hx270, hH⟩ := bindE hH
 refine AW.region ?_
 refine AO.pu T (d := .g [.s (List.map encSeason w.seasons), .s (List.map encInt w.weights)]) ?_
 refine AO.pu T ?_
 refine AO.step rfl (call_ok rfl 48 rfl rfl rfl (spec_wlParts_ok fuel _ _ _ (hx270)) rfl rfl rfl) ?_
 iterate 5 refine AO.pu T ?_
 refine AO.nil (AW.seq ?_)
 obtain ⟨x271, hx272, hH⟩ := bindE hH
 refine AW.region ?_
 iterate 2 refine AO.pu T ?_
 refine AO.val rfl rfl (callLV_ok rfl rfl rfl (es := [.s (List.map encInt x269.1)]) ⟨(.rowR rfl (.map fun y => .vs rfl)), trivial⟩ (spec_poSum_ok _ _ (hx272)) (zfree_v _) rfl) ?_
 refine AO.pu T (d := .g [y73, x271, (0 : Int)]) ?_
 refine AO.step rfl (alloc_ok T rfl 49 rfl rfl rfl rfl rfl) ?_
 refine AO.se T [y73, x271, (0 : Int)] ?_
 refine AO.nil (AW.seq ?_)
 refine AW.region ?_
 refine AO.pu T ?_
 refine AO.val rfl rfl (len_row_ok T rfl rfl rfl rfl) ?_
 refine AO.pu T ?_
 refine AO.nil ?_
 obtain ⟨o283, hH, hK284⟩ := bindE hH
 refine AW.seqJ (fun s : Int => (⟨[(1, .p 1 0), (8, .R 35), (13, .p 49 0), (14, s), (36, .s (List.map encInt v70)), (37, (v70.length : Int)), (38, (k72 : Int))], [(1, .box [.s (List.map encSeason w.seasons), .s (List.map encInt w.weights)]), (35, .row 3 (List.map encRank v193)), (49, .box [y73, x271, (0 : Int)])], 121, []⟩ : St)) (fun s => s = o283) ?_ ?_
 refine AW.block ?_
 refine AW.loopS (fun s : Nat × Int => (⟨[(1, .p 1 0), (8, .R 35), (13, .p 49 0), (14, s.2), (36, .s (List.map encInt v70)), (37, (v70.length : Int)), (38, (k72 : Int))], [(1, .box [.s (List.map encSeason w.seasons), .s (List.map encInt w.weights)]), (35, .row 3 (List.map encRank v193)), (49, .box [y73, x271, (0 : Int)])], 121, []⟩ : St)) (fun s => spec_wlList_l4 v193 x271 s.1 s.2 = some o283) (fun s => s.1) (fuel, (v193.length : Int)) hH ?_ ?_
 exact Le.ct 0 0
 rintro ⟨k285, v291⟩ hH
 replace hH : spec_wlList_l4 v193 x271 k285 v291 = some o283 := hH
 try dsimp only
 rcases k285 with _ | k285
 cases (show none = some _ from hH)
 rw [spec_wlList_l4] at hH
 iterate 2 refine AW.seq ?_
 obtain ⟨x293, hx294, hH⟩ := bindE hH
 refine AW.drawn 11 50 [] mix (by kernel_rfl) rfl ?_
 iterate 3 refine AD.pure T rfl rfl rfl ?_
 iterate 2 refine AD.pureG T [] rfl trivial rfl rfl ?_
 refine AD.guard [58] rfl ⟨fun h => h, trivial⟩ (fun hg => arw_ok rfl rfl rfl rfl) rfl ?_
 refine AD.guard [57, 59] rfl ⟨fun h => h, fun h => h, trivial⟩ (fun hg => ix_row_ok T rfl rfl rfl rfl rfl rfl (optT hx294 hg)) rfl ?_
 refine AD.pureG T [60] rfl ⟨fun h => h, trivial⟩ rfl rfl ?_
 refine AD.guard [61] rfl ⟨fun h => h, trivial⟩ (fun hg => load_row_ok T rfl rfl rfl rfl (getI_get (optT hx294 hg)) rfl rfl rfl) rfl ?_
 refine AD.pureG T [] rfl trivial rfl rfl ?_
 refine AD.pureG T [63] rfl ⟨fun h => h, trivial⟩ rfl rfl ?_
 refine AD.nil ?_
 refine AO.pureG T [62, 64] rfl ⟨fun h => h, fun h => h, trivial⟩ rfl rfl ?_
 refine AO.val rfl rfl (pick_and rfl rfl rfl rfl) ?_
 refine AO.nil ?_
 refine AW.cond (b := (decide (v291 > 0) && decide (x293.total < x271))) rfl (fun hc => ?_) (fun hc => ?_)
 replace hH := condT hc hH
 refine AW.skip ?_
 refine AW.block ?_
 refine AW.region ?_
 refine AO.pu T ?_
 refine AO.val rfl rfl (arw_ok rfl rfl rfl rfl) ?_
 refine AO.pu T ?_
 refine AO.nil ?_
 refine ⟨(k285, w64 (v291 - 1)), hH, Nat.lt_succ_self _, ?_⟩
 exact Le.ct 0 0
 replace hH := condF hc hH
 refine AW.exit ?_
 refine ⟨_, someE hH, ?_⟩
 exact Le.ct 0 0
 rintro v282 hs
 subst hs
 replace hH := hK284
 try dsimp only [flow, flowE] at hH
 try dsimp only
 obtain ⟨x295, hx296, hH⟩ := bindE hH
 obtain ⟨u297, hx298, hH⟩ := bindE hH
 obtain ⟨u299, hx300, hH⟩ := bindE hH
 obtain ⟨x301, hx302, hH⟩ := bindE hH
 obtain ⟨u303, hx304, hH⟩ := bindE hH
 refine AW.le (Le.freezeM 35 (g := encRank) rfl (fun y => .vs rfl)) ?_
 refine AW.drawn 11 50 [] mix (by kernel_rfl) rfl ?_
 refine AD.v (FStep.mk0 T rfl rfl rfl rfl rfl) ?_
 iterate 2 refine AD.pure T rfl rfl rfl ?_
 refine AD.val rfl rfl (slice_hi_map_ok T rfl rfl rfl rfl rfl (hx296) (fun _ => rfl)) ?_
 refine AD.q (FStep.app_ws T rfl rfl rfl rfl rfl rfl rfl (by decide) (by decide) rfl rfl (fun _ => rfl) (needT (hx298)) rfl) (by simp [namesIn]) (Nat.le_succ _) rfl ?_
 refine AD.pure T (d := .g [y73, x271, (0 : Int)]) rfl rfl rfl ?_
 refine AD.q (FStep.mk T (f := encRank) (l := [(Rank.mk y73 x271 0)]) rfl rfl rfl rfl rfl rfl rfl rfl rfl (fun _ => rfl) rfl rfl rfl rfl) (by simp [namesIn]) (Nat.le_succ _) rfl ?_
 refine AD.k rfl rfl (FStep.app_rv T rfl rfl rfl rfl rfl rfl rfl (by decide) rfl rfl rfl rfl (fun _ => rfl) (needT (hx300)) rfl) rfl rfl rfl ?_
 iterate 2 refine AD.pure T rfl rfl rfl ?_
 refine AD.val rfl rfl (slice_lo_map_ok T rfl rfl rfl rfl rfl (hx302) (fun _ => rfl)) ?_
 refine AD.nil ?_
 refine AO.step rfl (app_rs_map T rfl 53 rfl rfl rfl rfl rfl (by decide) (by decide) rfl rfl rfl (fun _ => rfl) (needT (hx304)) rfl rfl) ?_
 refine AO.pu T ?_
 refine AO.nil ?_
 refine ⟨_, someE hH, ?_⟩
 exact Le.ct 53 47
 rintro v266 hs
 subst hs
 replace hH := hK268
 try dsimp only [flow, flowE] at hH
 try dsimp only
 refine AW.region ?_
 refine AO.val rfl rfl (ar_ok rfl rfl rfl rfl (inI_succ hlt77 hb76)) ?_
 refine AO.pu T ?_
 refine AO.nil ?_
 refine ⟨(k72 + 1, v266), ⟨Nat.succ_le_of_lt hlt77, (by rw [drop_succ_of hd75]; exact hH)⟩, (by have := hlt77; dsimp only; omega), ?_⟩
 exact Le.ct 47 35
 rw [hd4, spec_wlList_l1] at hH
 have hlt6 := drop_lt hd4
 refine AW.seq (AW.region ?_)
 refine AO.pu T ?_
 refine AO.nil (AW.seq ?_)
 refine AW.condT' (b := decide ((k1 : Int) < (w.seasons.length : Int))) rfl (rngT hlt6) ?_
 refine AW.skip ?_
 obtain ⟨o320, hH, hK321⟩ := bindE hH
 refine AW.seqJ (fun s : List Int => (⟨[(1, .p 1 0), (3, .s (List.map encInt s)), (17, .s (List.map encSeason w.seasons)), (18, (w.seasons.length : Int)), (19, (k1 : Int))], [(1, .box [.s (List.map encSeason w.seasons), .s (List.map encInt w.weights)])], 121, []⟩ : St)) (fun s => s = o320) ?_ ?_
 refine AW.block ?_
 refine AW.seq (AW.region ?_)
 refine AO.val rfl rfl (ix_map_ok T rfl rfl rfl rfl rfl (getI_drop hd4) rfl) ?_
 refine AO.pu T (d := .g [y2.best, .s (List.map encLine y2.lines)]) ?_
 refine AO.step rfl (alloc_ok T rfl 58 rfl rfl rfl rfl rfl) ?_
 refine AO.se T [y2.best, .s (List.map encLine y2.lines)] ?_
 refine AO.nil (AW.seq ?_)
 refine AW.region ?_
 iterate 2 refine AO.pu T ?_
 refine AO.val rfl rfl (len_map_ok T rfl rfl rfl) ?_
 refine AO.pu T ?_
 refine AO.nil ?_
 refine AW.block ?_
 refine AW.loopS (fun s : Nat × (List Int) => (⟨[(1, .p 1 0), (3, .s (List.map encInt s.2)), (17, .s (List.map encSeason w.seasons)), (18, (w.seasons.length : Int)), (19, (k1 : Int)), (24, .s (List.map encLine y2.lines)), (25, (y2.lines.length : Int)), (26, (s.1 : Int))], [(1, .box [.s (List.map encSeason w.seasons), .s (List.map encInt w.weights)])], 121, []⟩ : St)) (fun s => s.1 ≤ y2.lines.length ∧ spec_wlList_l5 fuel (y2.lines.drop s.1) s.1 s.2 = some o320) (fun s => y2.lines.length - s.1) (0, v70) ⟨Nat.zero_le _, hH⟩ ?_ ?_
 exact Le.ct 0 0
 rintro ⟨k322, v333⟩ ⟨hk, hH⟩
 replace hH : spec_wlList_l5 fuel (y2.lines.drop k322) k322 v333 = some o320 := hH
 try dsimp only
 refine AW.boundM (t := 24) (l := y2.lines) rfl (fun hb326 => ?_)
 rcases hd325 : y2.lines.drop k322 with _ | ⟨y323, ys324⟩
 rw [hd325, spec_wlList_l5] at hH
 have hlt327 := drop_ge hd325
 refine AW.seq (AW.region ?_)
 refine AO.pu T ?_
 refine AO.nil (AW.seq ?_)
 refine AW.condF' (b := decide ((k322 : Int) < (y2.lines.length : Int))) rfl (rngF hlt327) ?_
 refine AW.exit ?_
 refine ⟨_, someE hH, ?_⟩
 exact Le.ct 0 0
 rw [hd325, spec_wlList_l5] at hH
 have hlt327 := drop_lt hd325
 refine AW.seq (AW.region ?_)
 refine AO.pu T ?_
 refine AO.nil (AW.seq ?_)
 refine AW.condT' (b := decide ((k322 : Int) < (y2.lines.length : Int))) rfl (rngT hlt327) ?_
 refine AW.skip ?_
 refine AW.seq ?_
 refine AW.block ?_
 refine AW.seq (AW.region ?_)
 refine AO.val rfl rfl (ix_map_ok T rfl rfl rfl rfl rfl (getI_drop hd325) rfl) ?_
 refine AO.pu T (d := .g [y323.skater, .s (List.map encInt y323.events), .s (List.map encInt y323.points)]) ?_
 refine AO.step rfl (alloc_ok T rfl 61 rfl rfl rfl rfl rfl) ?_
 refine AO.se T [y323.skater, .s (List.map encInt y323.events), .s (List.map encInt y323.points)] ?_
 refine AO.nil ?_
 obtain ⟨x335, hx336, hH⟩ := bindE hH
 refine AW.region ?_
 iterate 3 refine AO.pu T ?_
 refine AO.val rfl rfl (callV_ok rfl rfl rfl rfl (spec_l1Put_ok fuel _ _ _ (hx336)) rfl) ?_
 refine AO.pu T ?_
 refine AO.nil ?_
 refine AW.region ?_
 refine AO.val rfl rfl (ar_ok rfl rfl rfl rfl (inI_succ hlt327 hb326)) ?_
 refine AO.pu T ?_
 refine AO.nil ?_
 refine ⟨(k322 + 1, x335), ⟨Nat.succ_le_of_lt hlt327, (by rw [drop_succ_of hd325]; exact hH)⟩, (by have := hlt327; dsimp only; omega), ?_⟩
 exact Le.ct 0 0
 rintro v319 hs
 subst hs
 replace hH := hK321
 try dsimp only [flow, flowE] at hH
 try dsimp only
 refine AW.region ?_
 refine AO.val rfl rfl (ar_ok rfl rfl rfl rfl (inI_succ hlt6 hb5)) ?_
 refine AO.pu T ?_
 refine AO.nil ?_
 refine ⟨(k1 + 1, v319), ⟨Nat.succ_le_of_lt hlt6, (by rw [drop_succ_of hd4]; exact hH)⟩, (by have := hlt6; dsimp only; omega), ?_⟩
 exact Le.ct 0 0

def spec_WorldList_p (fuel : Nat) (w : World) : Option ((List Rank) × Bool) :=
  (spec_wlGood_p w).bind fun x1 =>
  cond (!x1)
    (some ([], false))
    ((spec_wlList_p fuel w).bind fun x3 =>
    some (x3, true))
theorem spec_WorldList_ok (fuel : Nat) (w : World) (r : ((List Rank) × Bool)) (hH : spec_WorldList_p fuel w = some r) : SpecR Tryz.prog 8 [.g (encWorld w)] (.t [.w 3 (r.1.map encRank), .v (.bool r.2)]) := by
 refine fn_ok T Tryz.func8 rfl (by decide) rfl ?_
 refine AW.seq (AW.region ?_)
 refine AO.step rfl (box_ok T rfl 1 rfl rfl rfl rfl) ?_
 iterate 2 refine AO.pu T ?_
 refine AO.nil ?_
 iterate 2 refine AW.seq ?_
 obtain ⟨x1, hx2, hH⟩ := bindE hH
 refine AW.region ?_
 refine AO.pu T (d := .g [.s (List.map encSeason w.seasons), .s (List.map encInt w.weights)]) ?_
 refine AO.val rfl rfl (callV_ok rfl rfl rfl rfl (spec_wlGood_ok _ _ (hx2)) rfl) ?_
 refine AO.pu T ?_
 refine AO.nil ?_
 refine AW.cond (b := (!x1)) rfl (fun hc => ?_) (fun hc => ?_)
 replace hH := condT hc hH
 refine AW.seq (AW.region ?_)
 iterate 2 refine AO.pu T ?_
 refine AO.nil (AW.ret ?_)
 have hR := someE hH; subst hR
 exact retQ.i [] rfl (.t (expLG_cons (.c .nil) (expLG_cons (.c .v) (expLG_nil))))
 replace hH := condF hc hH
 refine AW.skip ?_
 refine AW.seq ?_
 obtain ⟨x3, hx4, hH⟩ := bindE hH
 refine AW.region ?_
 refine AO.pu T (d := .g [.s (List.map encSeason w.seasons), .s (List.map encInt w.weights)]) ?_
 refine AO.step rfl (call_ok rfl 2 rfl rfl rfl (spec_wlList_ok fuel _ _ (hx4)) rfl rfl rfl) ?_
 iterate 2 refine AO.pu T ?_
 refine AO.nil (AW.ret ?_)
 have hR := someE hH; subst hR
 exact retQ.i [2] rfl (.t (expLG_cons (.c (.rowR rfl)) (expLG_cons (.c .v) (expLG_nil))))

def laws_pSameRanks_l1 (b : List Rank) : List Rank → Nat → Option Bool
  | [], k1 =>
    some true
  | y2 :: ys3, k1 =>
    (getI b (k1 : Int)).bind fun x12 =>
    cond (!decide (y2 = x12))
      (some false)
      (laws_pSameRanks_l1 b ys3 (k1 + 1))
def laws_pSameRanks_p (a : List Rank) (b : List Rank) : Option Bool :=
  cond ((a.length : Int) != (b.length : Int))
    (some false)
    (laws_pSameRanks_l1 b a 0)
theorem laws_pSameRanks_ok (a : List Rank) (b : List Rank) (r : Bool) (hH : laws_pSameRanks_p a b = some r) : SpecR Tryz.prog 9 [.s (List.map encRank a), .s (List.map encRank b)] (.v (.bool r)) := by
 refine fn_ok T Tryz.func9 rfl (by decide) rfl ?_
 refine AW.seq (AW.region ?_)
 refine AO.pu T ?_
 refine AO.nil ?_
 iterate 2 refine AW.seq ?_
 refine AW.region ?_
 refine AO.pu T ?_
 refine AO.val rfl rfl (len_map_ok T rfl rfl rfl) ?_
 refine AO.pu T ?_
 refine AO.val rfl rfl (len_map_ok T rfl rfl rfl) ?_
 refine AO.pu T ?_
 refine AO.nil ?_
 refine AW.cond (b := ((a.length : Int) != (b.length : Int))) rfl (fun hc => ?_) (fun hc => ?_)
 replace hH := condT hc hH
 refine AW.seq (AW.region ?_)
 refine AO.pu T ?_
 refine AO.nil (AW.ret ?_)
 have hR := someE hH; subst hR
 exact retQ.i [] rfl (.c (.c .v))
 replace hH := condF hc hH
 refine AW.skip ?_
 iterate 2 refine AW.seq ?_
 refine AW.region ?_
 refine AO.pu T ?_
 refine AO.val rfl rfl (len_map_ok T rfl rfl rfl) ?_
 refine AO.pu T ?_
 refine AO.nil ?_
 refine AW.block ?_
 refine AW.loopS (fun s : Nat => (⟨[(0, .s (List.map encRank a)), (1, .s (List.map encRank b)), (12, (a.length : Int)), (13, (s : Int))], [], 26, []⟩ : St)) (fun s => s ≤ a.length ∧ laws_pSameRanks_l1 b (a.drop s) s = some r) (fun s => a.length - s) 0 ⟨Nat.zero_le _, hH⟩ ?_ ?_
 exact Le.ct 0 0
 rintro k1 ⟨hk, hH⟩
 replace hH : laws_pSameRanks_l1 b (a.drop k1) k1 = some r := hH
 try dsimp only
 refine AW.boundM (t := 0) (l := a) rfl (fun hb5 => ?_)
 rcases hd4 : a.drop k1 with _ | ⟨y2, ys3⟩
 rw [hd4, laws_pSameRanks_l1] at hH
 have hlt6 := drop_ge hd4
 refine AW.seq (AW.region ?_)
 refine AO.pu T ?_
 refine AO.nil (AW.seq ?_)
 refine AW.condF' (b := decide ((k1 : Int) < (a.length : Int))) rfl (rngF hlt6) ?_
 refine AW.exit ?_
 refine AW.seq (AW.region ?_)
 refine AO.pu T ?_
 refine AO.nil (AW.ret ?_)
 have hR := someE hH; subst hR
 exact retQ.i [] rfl (.c (.c .v))
 rw [hd4, laws_pSameRanks_l1] at hH
 have hlt6 := drop_lt hd4
 refine AW.seq (AW.region ?_)
 refine AO.pu T ?_
 refine AO.nil (AW.seq ?_)
 refine AW.condT' (b := decide ((k1 : Int) < (a.length : Int))) rfl (rngT hlt6) ?_
 refine AW.skip ?_
 refine AW.seq ?_
 refine AW.block ?_
 refine AW.seq (AW.region ?_)
 iterate 2 refine AO.pu T ?_
 refine AO.nil (AW.seq ?_)
 obtain ⟨x12, hx13, hH⟩ := bindE hH
 refine AW.drawn 8 1 [] mix (by kernel_rfl) rfl ?_
 iterate 2 refine AD.pure T rfl rfl rfl ?_
 refine AD.val rfl rfl (ix_map_ok T rfl rfl rfl rfl rfl (getI_drop hd4) rfl) ?_
 refine AD.pure T (d := .g [y2.skater, y2.total, y2.place]) rfl rfl rfl ?_
 iterate 2 refine AD.pure T rfl rfl rfl ?_
 refine AD.val rfl rfl (ix_map_ok T rfl rfl rfl rfl rfl (hx13) rfl) ?_
 refine AD.pure T (d := .g [x12.skater, x12.total, x12.place]) rfl rfl rfl ?_
 refine AD.nil ?_
 refine AO.val rfl rfl (neqg_ok rfl ekTRank rfl rfl rfl rfl (eqVRank _ _)) ?_
 refine AO.nil ?_
 refine AW.cond (b := (!decide (y2 = x12))) rfl (fun hc => ?_) (fun hc => ?_)
 replace hH := condT hc hH
 refine AW.seq (AW.region ?_)
 refine AO.pu T ?_
 refine AO.nil (AW.ret ?_)
 have hR := someE hH; subst hR
 exact retQ.i [] rfl (.c (.c .v))
 replace hH := condF hc hH
 refine AW.skip ?_
 refine AW.region ?_
 refine AO.val rfl rfl (ar_ok rfl rfl rfl rfl (inI_succ hlt6 hb5)) ?_
 refine AO.pu T ?_
 refine AO.nil ?_
 refine ⟨k1 + 1, ⟨Nat.succ_le_of_lt hlt6, (by rw [drop_succ_of hd4]; exact hH)⟩, (by have := hlt6; dsimp only; omega), ?_⟩
 exact Le.ct 0 0

def impl_SeasonParts_p (fuel : Nat) (w : World) (skater : Int) : Option ((List Int) × Bool) :=
  (impl_IsWorld_p fuel w).bind fun x1 =>
  (opt (!(!x1)) default (impl_isSkater_p skater)).bind fun x3 =>
  cond ((!x1) || (!x3))
    (some ([], false))
    ((impl_seasonParts_p w skater).bind fun x5 =>
    some (x5, true))
theorem impl_SeasonParts_ok (fuel : Nat) (w : World) (skater : Int) (r : ((List Int) × Bool)) (hH : impl_SeasonParts_p fuel w skater = some r) : SpecR Tryz.prog 11 [.g (encWorld w), skater] (.t [.w 1 (r.1.map encInt), .v (.bool r.2)]) := by
 refine fn_ok T Tryz.func11 rfl (by decide) rfl ?_
 refine AW.seq (AW.region ?_)
 refine AO.step rfl (box_ok T rfl 1 rfl rfl rfl rfl) ?_
 iterate 2 refine AO.pu T ?_
 refine AO.nil ?_
 iterate 2 refine AW.seq ?_
 obtain ⟨x1, hx2, hH⟩ := bindE hH
 obtain ⟨x3, hx4, hH⟩ := bindE hH
 refine AW.region ?_
 refine AO.pu T (d := .g [.s (List.map encSeason w.seasons), .s (List.map encInt w.weights)]) ?_
 refine AO.val rfl rfl (callV_ok rfl rfl rfl rfl (impl_IsWorld_ok fuel _ _ (hx2)) rfl) ?_
 iterate 2 refine AO.pu T ?_
 refine AO.pureG T [] rfl trivial rfl rfl ?_
 refine AO.guard [10] rfl ⟨fun h => h, trivial⟩ (fun hg => callV_ok rfl rfl rfl rfl (impl_isSkater_ok _ _ (optT hx4 hg)) rfl) rfl ?_
 refine AO.pureG T [11] rfl ⟨fun h => h, trivial⟩ rfl rfl ?_
 refine AO.val rfl rfl (pick_or rfl rfl rfl rfl) ?_
 refine AO.nil ?_
 refine AW.cond (b := ((!x1) || (!x3))) rfl (fun hc => ?_) (fun hc => ?_)
 replace hH := condT hc hH
 refine AW.seq (AW.region ?_)
 iterate 2 refine AO.pu T ?_
 refine AO.nil (AW.ret ?_)
 have hR := someE hH; subst hR
 exact retQ.i [] rfl (.t (expLG_cons (.c .nil) (expLG_cons (.c .v) (expLG_nil))))
 replace hH := condF hc hH
 refine AW.skip ?_
 refine AW.seq ?_
 obtain ⟨x5, hx6, hH⟩ := bindE hH
 refine AW.region ?_
 refine AO.pu T (d := .g [.s (List.map encSeason w.seasons), .s (List.map encInt w.weights)]) ?_
 refine AO.pu T ?_
 refine AO.step rfl (call_ok rfl 2 rfl rfl rfl (impl_seasonParts_ok _ _ _ (hx6)) rfl rfl rfl) ?_
 iterate 2 refine AO.pu T ?_
 refine AO.nil (AW.ret ?_)
 have hR := someE hH; subst hR
 exact retQ.i [2] rfl (.t (expLG_cons (.c (.rowR rfl)) (expLG_cons (.c .v) (expLG_nil))))

def spec_SeasonParts_p (fuel : Nat) (w : World) (skater : Int) : Option ((List Int) × Bool) :=
  (spec_wlGood_p w).bind fun x1 =>
  (opt (!(!x1)) default (spec_l1In_p skater 1 999)).bind fun x3 =>
  cond ((!x1) || (!x3))
    (some ([], false))
    ((spec_wlParts_p fuel w skater).bind fun x5 =>
    some (x5.1, true))
theorem spec_SeasonParts_ok (fuel : Nat) (w : World) (skater : Int) (r : ((List Int) × Bool)) (hH : spec_SeasonParts_p fuel w skater = some r) : SpecR Tryz.prog 12 [.g (encWorld w), skater] (.t [.w 1 (r.1.map encInt), .v (.bool r.2)]) := by
 refine fn_ok T Tryz.func12 rfl (by decide) rfl ?_
 refine AW.seq (AW.region ?_)
 refine AO.step rfl (box_ok T rfl 1 rfl rfl rfl rfl) ?_
 iterate 2 refine AO.pu T ?_
 refine AO.nil ?_
 iterate 2 refine AW.seq ?_
 obtain ⟨x1, hx2, hH⟩ := bindE hH
 obtain ⟨x3, hx4, hH⟩ := bindE hH
 refine AW.region ?_
 refine AO.pu T (d := .g [.s (List.map encSeason w.seasons), .s (List.map encInt w.weights)]) ?_
 refine AO.val rfl rfl (callV_ok rfl rfl rfl rfl (spec_wlGood_ok _ _ (hx2)) rfl) ?_
 iterate 2 refine AO.pu T ?_
 refine AO.pureG T [] rfl trivial rfl rfl ?_
 refine AO.guard [12] rfl ⟨fun h => h, trivial⟩ (fun hg => callV_ok rfl rfl rfl rfl (spec_l1In_ok _ _ _ _ (optT hx4 hg)) rfl) rfl ?_
 refine AO.pureG T [13] rfl ⟨fun h => h, trivial⟩ rfl rfl ?_
 refine AO.val rfl rfl (pick_or rfl rfl rfl rfl) ?_
 refine AO.nil ?_
 refine AW.cond (b := ((!x1) || (!x3))) rfl (fun hc => ?_) (fun hc => ?_)
 replace hH := condT hc hH
 refine AW.seq (AW.region ?_)
 iterate 2 refine AO.pu T ?_
 refine AO.nil (AW.ret ?_)
 have hR := someE hH; subst hR
 exact retQ.i [] rfl (.t (expLG_cons (.c .nil) (expLG_cons (.c .v) (expLG_nil))))
 replace hH := condF hc hH
 refine AW.skip ?_
 refine AW.seq ?_
 obtain ⟨x5, hx6, hH⟩ := bindE hH
 refine AW.region ?_
 refine AO.pu T (d := .g [.s (List.map encSeason w.seasons), .s (List.map encInt w.weights)]) ?_
 refine AO.pu T ?_
 refine AO.step rfl (call_ok rfl 2 rfl rfl rfl (spec_wlParts_ok fuel _ _ _ (hx6)) rfl rfl rfl) ?_
 iterate 5 refine AO.pu T ?_
 refine AO.nil (AW.seq ?_)
 refine AW.region ?_
 iterate 3 refine AO.pu T ?_
 refine AO.nil (AW.ret ?_)
 have hR := someE hH; subst hR
 exact retQ.i [2] rfl (.t (expLG_cons (.c (.rowR rfl)) (expLG_cons (.c .v) (expLG_nil))))

def slices_Index_int_l1 (v : Int) : List Int → Nat → Option Int
  | [], k1 =>
    some (-1)
  | y2 :: ys3, k1 =>
    cond (v == y2)
      (some (k1 : Int))
      (slices_Index_int_l1 v ys3 (k1 + 1))
def slices_Index_int_p (sA : List Int) (v : Int) : Option Int :=
  slices_Index_int_l1 v sA 0
theorem slices_Index_int_ok (sA : List Int) (v : Int) (r : Int) (hH : slices_Index_int_p sA v = some r) : SpecR Tryz.prog 69 [.s (List.map encInt sA), v] (.v (.int .i64 r)) := by
 refine fn_ok T Tryz.func69 rfl (by decide) rfl ?_
 refine AW.seq (AW.region ?_)
 refine AO.pu T ?_
 refine AO.nil ?_
 iterate 2 refine AW.seq ?_
 refine AW.region ?_
 refine AO.pu T ?_
 refine AO.val rfl rfl (len_map_ok T rfl rfl rfl) ?_
 refine AO.pu T ?_
 refine AO.nil ?_
 refine AW.block ?_
 refine AW.loopS (fun s : Nat => (⟨[(0, .s (List.map encInt sA)), (1, v), (7, (sA.length : Int)), (8, (s : Int))], [], 19, []⟩ : St)) (fun s => s ≤ sA.length ∧ slices_Index_int_l1 v (sA.drop s) s = some r) (fun s => sA.length - s) 0 ⟨Nat.zero_le _, hH⟩ ?_ ?_
 exact Le.ct 0 0
 rintro k1 ⟨hk, hH⟩
 replace hH : slices_Index_int_l1 v (sA.drop k1) k1 = some r := hH
 try dsimp only
 refine AW.boundM (t := 0) (l := sA) rfl (fun hb5 => ?_)
 rcases hd4 : sA.drop k1 with _ | ⟨y2, ys3⟩
 rw [hd4, slices_Index_int_l1] at hH
 have hlt6 := drop_ge hd4
 refine AW.seq (AW.region ?_)
 refine AO.pu T ?_
 refine AO.nil (AW.seq ?_)
 refine AW.condF' (b := decide ((k1 : Int) < (sA.length : Int))) rfl (rngF hlt6) ?_
 refine AW.exit ?_
 refine AW.seq (AW.region ?_)
 refine AO.pu T ?_
 refine AO.nil (AW.ret ?_)
 have hR := someE hH; subst hR
 exact retQ.i [] rfl (.c (.c .v))
 rw [hd4, slices_Index_int_l1] at hH
 have hlt6 := drop_lt hd4
 refine AW.seq (AW.region ?_)
 refine AO.pu T ?_
 refine AO.nil (AW.seq ?_)
 refine AW.condT' (b := decide ((k1 : Int) < (sA.length : Int))) rfl (rngT hlt6) ?_
 refine AW.skip ?_
 refine AW.seq ?_
 refine AW.block ?_
 refine AW.seq (AW.region ?_)
 iterate 2 refine AO.pu T ?_
 refine AO.nil (AW.seq ?_)
 refine AW.region ?_
 iterate 3 refine AO.pu T ?_
 refine AO.val rfl rfl (ix_map_ok T rfl rfl rfl rfl rfl (getI_drop hd4) rfl) ?_
 iterate 2 refine AO.pu T ?_
 refine AO.nil ?_
 refine AW.cond (b := (v == y2)) rfl (fun hc => ?_) (fun hc => ?_)
 replace hH := condT hc hH
 refine AW.seq (AW.region ?_)
 iterate 2 refine AO.pu T ?_
 refine AO.nil (AW.ret ?_)
 have hR := someE hH; subst hR
 exact retQ.i [] rfl (.c (.c .v))
 replace hH := condF hc hH
 refine AW.skip ?_
 refine AW.region ?_
 refine AO.val rfl rfl (ar_ok rfl rfl rfl rfl (inI_succ hlt6 hb5)) ?_
 refine AO.pu T ?_
 refine AO.nil ?_
 refine ⟨k1 + 1, ⟨Nat.succ_le_of_lt hlt6, (by rw [drop_succ_of hd4]; exact hH)⟩, (by have := hlt6; dsimp only; omega), ?_⟩
 exact Le.ct 0 0

def slices_Contains_int_p (sA : List Int) (v : Int) : Option Bool :=
  (slices_Index_int_p sA v).bind fun x1 =>
  some (decide (x1 ≥ 0))
theorem slices_Contains_int_ok (sA : List Int) (v : Int) (r : Bool) (hH : slices_Contains_int_p sA v = some r) : SpecR Tryz.prog 50 [.s (List.map encInt sA), v] (.v (.bool r)) := by
 refine fn_ok T Tryz.func50 rfl (by decide) rfl ?_
 refine AW.seq (AW.region ?_)
 refine AO.pu T ?_
 refine AO.nil (AW.seq ?_)
 obtain ⟨x1, hx2, hH⟩ := bindE hH
 refine AW.region ?_
 iterate 2 refine AO.pu T ?_
 refine AO.val rfl rfl (callV_ok rfl rfl rfl rfl (slices_Index_int_ok _ _ _ (hx2)) rfl) ?_
 iterate 2 refine AO.pu T ?_
 refine AO.nil (AW.ret ?_)
 have hR := someE hH; subst hR
 exact retQ.i [] rfl (.c (.c .v))

def impl_WorldTotal_p (fuel : Nat) (w : World) (skater : Int) : Option (Int × Bool) :=
  (impl_IsWorld_p fuel w).bind fun x1 =>
  (opt (!(!x1)) default (impl_worldSkaters_p fuel w)).bind fun x3 =>
  (opt (!(!x1)) default (slices_Contains_int_p x3 skater)).bind fun x5 =>
  cond ((!x1) || (!x5))
    (some (0, false))
    ((impl_seasonParts_p w skater).bind fun x7 =>
    (impl_sumInts_p x7).bind fun x9 =>
    some (x9, true))
theorem impl_WorldTotal_ok (fuel : Nat) (w : World) (skater : Int) (r : (Int × Bool)) (hH : impl_WorldTotal_p fuel w skater = some r) : SpecR Tryz.prog 13 [.g (encWorld w), skater] (.t [.v (.int .i64 r.1), .v (.bool r.2)]) := by
 refine fn_ok T Tryz.func13 rfl (by decide) rfl ?_
 refine AW.seq (AW.region ?_)
 refine AO.step rfl (box_ok T rfl 1 rfl rfl rfl rfl) ?_
 iterate 2 refine AO.pu T ?_
 refine AO.nil ?_
 iterate 2 refine AW.seq ?_
 obtain ⟨x1, hx2, hH⟩ := bindE hH
 obtain ⟨x3, hx4, hH⟩ := bindE hH
 obtain ⟨x5, hx6, hH⟩ := bindE hH
 refine AW.region ?_
 refine AO.pu T (d := .g [.s (List.map encSeason w.seasons), .s (List.map encInt w.weights)]) ?_
 refine AO.val rfl rfl (callV_ok rfl rfl rfl rfl (impl_IsWorld_ok fuel _ _ (hx2)) rfl) ?_
 iterate 2 refine AO.pu T ?_
 refine AO.pureG T (d := .g [.s (List.map encSeason w.seasons), .s (List.map encInt w.weights)]) [] rfl trivial rfl rfl ?_
 refine AO.guard [10] rfl ⟨fun h => h, trivial⟩ (fun hg => callF_ok rfl rfl rfl rfl (impl_worldSkaters_ok fuel _ _ (optT hx4 hg)) (.c (.c (.map fun y => .vs rfl)))) rfl ?_
 refine AO.pureG T [] rfl trivial rfl rfl ?_
 refine AO.guard [11, 12] rfl ⟨fun h => h, fun h => h, trivial⟩ (fun hg => callV_ok rfl rfl rfl rfl (slices_Contains_int_ok _ _ _ (optT hx6 hg)) rfl) rfl ?_
 refine AO.pureG T [13] rfl ⟨fun h => h, trivial⟩ rfl rfl ?_
 refine AO.val rfl rfl (pick_or rfl rfl rfl rfl) ?_
 refine AO.nil ?_
 refine AW.cond (b := ((!x1) || (!x5))) rfl (fun hc => ?_) (fun hc => ?_)
 replace hH := condT hc hH
 refine AW.seq (AW.region ?_)
 iterate 2 refine AO.pu T ?_
 refine AO.nil (AW.ret ?_)
 have hR := someE hH; subst hR
 exact retQ.i [] rfl (.t (expLG_cons (.c .v) (expLG_cons (.c .v) (expLG_nil))))
 replace hH := condF hc hH
 refine AW.skip ?_
 refine AW.seq ?_
 obtain ⟨x7, hx8, hH⟩ := bindE hH
 obtain ⟨x9, hx10, hH⟩ := bindE hH
 refine AW.region ?_
 refine AO.pu T (d := .g [.s (List.map encSeason w.seasons), .s (List.map encInt w.weights)]) ?_
 refine AO.pu T ?_
 refine AO.step rfl (call_ok rfl 2 rfl rfl rfl (impl_seasonParts_ok _ _ _ (hx8)) rfl rfl rfl) ?_
 refine AO.val rfl rfl (callLV_ok rfl rfl rfl (es := [.s (List.map encInt x7)]) ⟨(.rowR rfl (.map fun y => .vs rfl)), trivial⟩ (impl_sumInts_ok _ _ (hx10)) (zfree_v _) rfl) ?_
 iterate 2 refine AO.pu T ?_
 refine AO.nil (AW.ret ?_)
 have hR := someE hH; subst hR
 exact retQ.i [] rfl (.t (expLG_cons (.c .v) (expLG_cons (.c .v) (expLG_nil))))

end Go.Proofs.YtegdphhfimaieaaGreat

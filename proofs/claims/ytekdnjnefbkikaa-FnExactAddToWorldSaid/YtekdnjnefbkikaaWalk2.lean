/- The walk, part 2: what each function reached by the law FnExactAddToWorld computes. No condition. -/
import Derived.Test.YtekdnjnefbkikaaWalk1
set_option maxRecDepth 4000
set_option maxHeartbeats 1000000
set_option linter.unusedVariables false
set_option linter.unusedSimpArgs false
set_option linter.unusedSectionVars false

namespace Go.Proofs.Ytekdnjnefbkikaa
open Go.AM

def impl_IsWorld_l1 (w : World) (fuel : Nat) : List Season → Nat → Option Bool
  | [], k5 =>
    some true
  | y6 :: ys7, k5 =>
    (impl_IsSeason_p fuel y6).bind fun x24 =>
    (opt ((!(!x24)) && decide ((k5 : Int) > 0)) default (getI w.weights (k5 : Int))).bind fun x26 =>
    (opt ((!(!x24)) && decide ((k5 : Int) > 0)) default (getI w.weights (w64 ((k5 : Int) - 1)))).bind fun x28 =>
    cond ((!x24) || (decide ((k5 : Int) > 0) && decide (x26 > x28)))
      (some false)
      (impl_IsWorld_l1 w fuel ys7 (k5 + 1))
def impl_IsWorld_p (fuel : Nat) (w : World) : Option Bool :=
  (impl_within_p (w.seasons.length : Int) 1 3).bind fun x1 =>
  (opt (!((!x1) || ((w.weights.length : Int) != (w.seasons.length : Int)))) default (impl_allWithin_p w.weights 0 100)).bind fun x3 =>
  cond (((!x1) || ((w.weights.length : Int) != (w.seasons.length : Int))) || (!x3))
    (some false)
    (impl_IsWorld_l1 w fuel w.seasons 0)
theorem impl_IsWorld_ok (fuel : Nat) (w : World) (r : Bool) (hH : impl_IsWorld_p fuel w = some r) : SpecR Try.prog 15 [.g (encWorld w)] (.v (.bool r)) := by
  refine fn_ok T Try.func15 rfl (by decide) rfl ?_
  refine AW.seq ?_
  refine AW.region ?_
  refine AO.step rfl (box_ok T rfl 1 rfl rfl rfl rfl) ?_
  refine AO.pure T rfl rfl rfl ?_
  refine AO.nil ?_
  refine AW.seq ?_
  refine AW.seq ?_
  obtain ⟨x1, hx2, hH⟩ := bindE hH
  obtain ⟨x3, hx4, hH⟩ := bindE hH
  refine AW.region ?_
  refine AO.pure T rfl rfl rfl ?_
  refine AO.pure T rfl rfl rfl ?_
  refine AO.val rfl rfl (len_map_ok T rfl rfl rfl) ?_
  refine AO.val rfl rfl (callV_ok rfl rfl rfl rfl (impl_within_ok _ _ _ _ (hx2)) rfl) ?_
  refine AO.pure T rfl rfl rfl ?_
  refine AO.pure T rfl rfl rfl ?_
  refine AO.pureG T [] rfl trivial rfl rfl ?_
  refine AO.pureG T [11] rfl ⟨fun h => h, trivial⟩ rfl rfl ?_
  refine AO.guard [12] rfl ⟨fun h => h, trivial⟩ (fun hg => len_map_ok T rfl rfl rfl) rfl ?_
  refine AO.pureG T [] rfl trivial rfl rfl ?_
  refine AO.pureG T [14] rfl ⟨fun h => h, trivial⟩ rfl rfl ?_
  refine AO.guard [15] rfl ⟨fun h => h, trivial⟩ (fun hg => len_map_ok T rfl rfl rfl) rfl ?_
  refine AO.pureG T [13, 16] rfl ⟨fun h => h, fun h => h, trivial⟩ rfl rfl ?_
  refine AO.val rfl rfl (pick_or rfl rfl rfl rfl) ?_
  refine AO.pure T rfl rfl rfl ?_
  refine AO.pureG T [] rfl trivial rfl rfl ?_
  refine AO.pureG T [20] rfl ⟨fun h => h, trivial⟩ rfl rfl ?_
  refine AO.guard [21] rfl ⟨fun h => h, trivial⟩ (fun hg => callV_ok rfl rfl rfl rfl (impl_allWithin_ok _ _ _ _ (optT hx4 hg)) rfl) rfl ?_
  refine AO.pureG T [22] rfl ⟨fun h => h, trivial⟩ rfl rfl ?_
  refine AO.val rfl rfl (pick_or rfl rfl rfl rfl) ?_
  refine AO.nil ?_
  refine AW.cond (b := (((!x1) || ((w.weights.length : Int) != (w.seasons.length : Int))) || (!x3))) rfl (fun hc => ?_) (fun hc => ?_)
  · replace hH := condT hc hH
    refine AW.seq ?_
    refine AW.region ?_
    refine AO.pure T rfl rfl rfl ?_
    refine AO.nil ?_
    refine AW.ret ?_
    cases someE hH
    exact ⟨trivial, _, [], rfl, .c (.c .v), by decide⟩
  · replace hH := condF hc hH
    refine AW.skip ?_
    refine AW.seq ?_
    refine AW.seq ?_
    refine AW.region ?_
    refine AO.pure T rfl rfl rfl ?_
    refine AO.pure T rfl rfl rfl ?_
    refine AO.val rfl rfl (len_map_ok T rfl rfl rfl) ?_
    refine AO.pure T rfl rfl rfl ?_
    refine AO.nil ?_
    refine AW.le (Le.cut 0 0 (σ' := (⟨[(1, .p 1 0), (26, .s (List.map encSeason w.seasons)), (27, .v (.int .i64 (w.seasons.length : Int))), (28, .v (.int .i64 0))], [(1, .box [.s (List.map encSeason w.seasons), .s (List.map encInt w.weights)])], 55, []⟩ : St)) rfl (by repeat' (first | exact trivial | refine ⟨⟨_, rfl, rfl⟩, ?_⟩)) (by repeat' (first | exact trivial | refine ⟨⟨_, rfl, rfl⟩, ?_⟩)) rfl) ?_
    refine AW.block ?_
    refine AW.loopS (fun s : Nat => (⟨[(1, .p 1 0), (26, .s (List.map encSeason w.seasons)), (27, .v (.int .i64 (w.seasons.length : Int))), (28, .v (.int .i64 (s : Int)))], [(1, .box [.s (List.map encSeason w.seasons), .s (List.map encInt w.weights)])], 55, []⟩ : St)) (fun s => s ≤ w.seasons.length ∧ impl_IsWorld_l1 w fuel (w.seasons.drop s) s = some r) (fun s => w.seasons.length - s) 0 ⟨Nat.zero_le _, hH⟩ ?_ ?_
    · exact Le.cut 0 0 rfl (by repeat' (first | exact trivial | refine ⟨⟨_, rfl, rfl⟩, ?_⟩)) (by repeat' (first | exact trivial | refine ⟨⟨_, rfl, rfl⟩, ?_⟩)) rfl
    · rintro k5 ⟨hk, hH⟩
      replace hH : impl_IsWorld_l1 w fuel (w.seasons.drop k5) k5 = some r := hH
      show AW _ _ _ (⟨[(1, .p 1 0), (26, .s (List.map encSeason w.seasons)), (27, .v (.int .i64 (w.seasons.length : Int))), (28, .v (.int .i64 (k5 : Int)))], [(1, .box [.s (List.map encSeason w.seasons), .s (List.map encInt w.weights)])], 55, []⟩ : St)
      refine AW.boundM (t := 26) (l := w.seasons) rfl (fun hb9 => ?_)
      cases hd8 : w.seasons.drop k5 with
      | nil =>
        rw [hd8] at hH
        rw [impl_IsWorld_l1] at hH
        have hlt10 := drop_ge hd8
        refine AW.seq ?_
        refine AW.region ?_
        refine AO.pure T rfl rfl rfl ?_
        refine AO.nil ?_
        refine AW.seq ?_
        refine AW.condF' (b := decide ((k5 : Int) < (w.seasons.length : Int))) rfl (rngF hlt10) ?_
        refine AW.exit ?_
        refine AW.seq ?_
        refine AW.region ?_
        refine AO.pure T rfl rfl rfl ?_
        refine AO.nil ?_
        refine AW.ret ?_
        cases someE hH
        exact ⟨trivial, _, [], rfl, .c (.c .v), by decide⟩
      | cons y6 ys7 =>
        rw [hd8] at hH
        rw [impl_IsWorld_l1] at hH
        have hlt10 := drop_lt hd8
        refine AW.seq ?_
        refine AW.region ?_
        refine AO.pure T rfl rfl rfl ?_
        refine AO.nil ?_
        refine AW.seq ?_
        refine AW.condT' (b := decide ((k5 : Int) < (w.seasons.length : Int))) rfl (rngT hlt10) ?_
        refine AW.skip ?_
        refine AW.seq ?_
        refine AW.block ?_
        refine AW.seq ?_
        refine AW.region ?_
        refine AO.pure T rfl rfl rfl ?_
        refine AO.val rfl rfl (ix_map_ok T rfl rfl rfl rfl rfl (getI_drop hd8) rfl) ?_
        refine AO.pure T (d := .g [.v (.int .i64 y6.best), .s (List.map encLine y6.lines)]) rfl rfl rfl ?_
        refine AO.step rfl (alloc_ok T rfl 4 rfl rfl rfl rfl rfl) ?_
        refine AO.pure T rfl rfl rfl ?_
        refine AO.step rfl (store_okE T rfl rfl rfl rfl rfl rfl rfl rfl rfl (ds' := [.v (.int .i64 y6.best), .s (List.map encLine y6.lines)]) rfl) ?_
        refine AO.nil ?_
        refine AW.seq ?_
        obtain ⟨x24, hx25, hH⟩ := bindE hH
        obtain ⟨x26, hx27, hH⟩ := bindE hH
        obtain ⟨x28, hx29, hH⟩ := bindE hH
        refine AW.drawn 18 5 [] mix (by kernel_rfl) rfl ?_
        refine AD.pure T (d := .g [.v (.int .i64 y6.best), .s (List.map encLine y6.lines)]) rfl rfl rfl ?_
        refine AD.val rfl rfl (callV_ok rfl rfl rfl rfl (impl_IsSeason_ok fuel _ _ (hx25)) rfl) ?_
        refine AD.pure T rfl rfl rfl ?_
        refine AD.pure T rfl rfl rfl ?_
        refine AD.pureG T [] rfl trivial rfl rfl ?_
        refine AD.pureG T [37] rfl ⟨fun h => h, trivial⟩ rfl rfl ?_
        refine AD.pureG T [38] rfl ⟨fun h => h, trivial⟩ rfl rfl ?_
        refine AD.pureG T [] rfl trivial rfl rfl ?_
        refine AD.pureG T [40] rfl ⟨fun h => h, trivial⟩ rfl rfl ?_
        refine AD.pureG T [] rfl trivial rfl rfl ?_
        refine AD.guard [41, 42] rfl ⟨fun h => h, fun h => h, trivial⟩ (fun hg => ix_map_ok T rfl rfl rfl rfl rfl (optT hx27 hg) rfl) rfl ?_
        refine AD.pureG T [43] rfl ⟨fun h => h, trivial⟩ rfl rfl ?_
        refine AD.pureG T [] rfl trivial rfl rfl ?_
        refine AD.pureG T [45] rfl ⟨fun h => h, trivial⟩ rfl rfl ?_
        refine AD.pureG T [] rfl trivial rfl rfl ?_
        refine AD.guard [47] rfl ⟨fun h => h, trivial⟩ (fun hg => arw_ok rfl rfl rfl rfl) rfl ?_
        refine AD.guard [46, 48] rfl ⟨fun h => h, fun h => h, trivial⟩ (fun hg => ix_map_ok T rfl rfl rfl rfl rfl (optT hx29 hg) rfl) rfl ?_
        refine AD.pureG T [49] rfl ⟨fun h => h, trivial⟩ rfl rfl ?_
        refine AD.nil ?_
        refine AO.pureG T [44, 50] rfl ⟨fun h => h, fun h => h, trivial⟩ rfl rfl ?_
        refine AO.guard [39] rfl ⟨fun h => h, trivial⟩ (fun hg => pick_and rfl rfl rfl (by rw [hg]; exact Bool.true_and _)) rfl ?_
        refine AO.val rfl rfl (pick_or rfl rfl rfl rfl) ?_
        refine AO.nil ?_
        refine AW.le (Le.cut 0 0 (σ' := (⟨[(1, .p 1 0), (26, .s (List.map encSeason w.seasons)), (27, .v (.int .i64 (w.seasons.length : Int))), (28, .v (.int .i64 (k5 : Int))), (53, .v (.bool ((!x24) || (decide ((k5 : Int) > 0) && decide (x26 > x28)))))], [(1, .box [.s (List.map encSeason w.seasons), .s (List.map encInt w.weights)])], 55, []⟩ : St)) rfl (by repeat' (first | exact trivial | refine ⟨⟨_, rfl, rfl⟩, ?_⟩)) (by repeat' (first | exact trivial | refine ⟨⟨_, rfl, rfl⟩, ?_⟩)) rfl) ?_
        refine AW.cond (b := ((!x24) || (decide ((k5 : Int) > 0) && decide (x26 > x28)))) rfl (fun hc => ?_) (fun hc => ?_)
        · replace hH := condT hc hH
          refine AW.seq ?_
          refine AW.region ?_
          refine AO.pure T rfl rfl rfl ?_
          refine AO.nil ?_
          refine AW.ret ?_
          cases someE hH
          exact ⟨trivial, _, [], rfl, .c (.c .v), by decide⟩
        · replace hH := condF hc hH
          refine AW.skip ?_
          refine AW.region ?_
          refine AO.val rfl rfl (ar_ok rfl rfl rfl rfl (inI_succ hlt10 hb9)) ?_
          refine AO.pure T rfl rfl rfl ?_
          refine AO.nil ?_
          refine ⟨k5 + 1, ⟨Nat.succ_le_of_lt hlt10, (by rw [drop_succ_of hd8]; exact hH)⟩, (by have := hlt10; dsimp only; omega), ?_⟩
          exact Le.cut 0 0 rfl (by repeat' (first | exact trivial | refine ⟨⟨_, rfl, rfl⟩, ?_⟩)) (by repeat' (first | exact trivial | refine ⟨⟨_, rfl, rfl⟩, ?_⟩)) rfl

def slices_SortFunc_Entry_p (x : List Entry) (cmp : Entry → Entry → Option Int) : Option (List Entry) := sortF cmp x
theorem slices_SortFunc_Entry_ok (x : List Entry) (cmp_f : Nat) (cmp_c : List D) (cmp_k : cmp_c.all D.capOk = true) (cmp : Entry → Entry → Option Int) (cmp_h : ∀ (a0 a1 : Entry) (q : Int), cmp a0 a1 = some q → SpecR Try.prog cmp_f ([.g (encEntry a0), .g (encEntry a1)] ++ cmp_c) (.v (.int .i64 q))) (r : List Entry) (hH : slices_SortFunc_Entry_p x cmp = some r) : SpecM Try.prog 115 [.w 3 (x.map encEntry), .f cmp_f cmp_c] [.w 3 (r.map encEntry), .u] (.t []) :=
  spec_sortF ⟨_, Try.func115, rfl, by decide⟩ (fun enc hk h1 cf hO cb blk off cap d w eg => AnyQ.slices_SortFunc Try.sortF115 3 Try.isAgg47 Try.sizeOf47 enc hk h1 cf hO cmp_f cb blk off cap d w eg) (fun p cap cb w => AnyF.slices_SortFunc_none Try.sortF115 p cap _ w) encEntry (fun _ => rfl) (fun _ => rfl) cmp_c (cap_sc cmp_k) cmp x r cmp_h hH

def impl_freshSeason_l1 (best : Int) : List Entry → Nat → List Line → Option Season
  | [], k5, v42 =>
    some (Season.mk best v42)
  | y6 :: ys7, k5, v42 =>
    (opt (!(decide ((w64 ((v42.length : Int) - 1)) < 0))) default (getI v42 (w64 ((v42.length : Int) - 1)))).bind fun x44 =>
    cond (decide ((w64 ((v42.length : Int) - 1)) < 0) || (x44.skater != y6.skater))
      ((need (fitsB 56 (v42.length + ([(Line.mk y6.skater [] [])]).length))).bind fun u46 =>
      (getI (v42 ++ [(Line.mk y6.skater [] [])]) (w64 ((w64 ((v42.length : Int) - 1)) + 1))).bind fun x48 =>
      (need (fitsB 8 (x48.events.length + ([y6.event]).length))).bind fun u50 =>
      (getI ((v42 ++ [(Line.mk y6.skater [] [])]).set ((w64 ((w64 ((v42.length : Int) - 1)) + 1)).toNat) (Line.mk x48.skater (x48.events ++ [y6.event]) x48.points)) (w64 ((w64 ((v42.length : Int) - 1)) + 1))).bind fun x52 =>
      (need (fitsB 8 (x52.points.length + ([y6.points]).length))).bind fun u54 =>
      impl_freshSeason_l1 best ys7 (k5 + 1) (((v42 ++ [(Line.mk y6.skater [] [])]).set ((w64 ((w64 ((v42.length : Int) - 1)) + 1)).toNat) (Line.mk x48.skater (x48.events ++ [y6.event]) x48.points)).set ((w64 ((w64 ((v42.length : Int) - 1)) + 1)).toNat) (Line.mk x52.skater x52.events (x52.points ++ [y6.points]))))
      ((getI v42 (w64 ((v42.length : Int) - 1))).bind fun x56 =>
      (need (fitsB 8 (x56.events.length + ([y6.event]).length))).bind fun u58 =>
      (getI (v42.set ((w64 ((v42.length : Int) - 1)).toNat) (Line.mk x56.skater (x56.events ++ [y6.event]) x56.points)) (w64 ((v42.length : Int) - 1))).bind fun x60 =>
      (need (fitsB 8 (x60.points.length + ([y6.points]).length))).bind fun u62 =>
      impl_freshSeason_l1 best ys7 (k5 + 1) ((v42.set ((w64 ((v42.length : Int) - 1)).toNat) (Line.mk x56.skater (x56.events ++ [y6.event]) x56.points)).set ((w64 ((v42.length : Int) - 1)).toNat) (Line.mk x60.skater x60.events (x60.points ++ [y6.points]))))
def impl_freshSeason_p (best : Int) (l : List Entry) : Option Season :=
  (need (fitsB 24 l.length)).bind fun u1 =>
  (slices_SortFunc_Entry_p l (fun a0 a1 => impl_compareEntries_p a0 a1)).bind fun x3 =>
  impl_freshSeason_l1 best x3 0 []
theorem impl_freshSeason_ok (best : Int) (l : List Entry) (r : Season) (hH : impl_freshSeason_p best l = some r) : SpecR Try.prog 93 [.v (.int .i64 best), .s (List.map encEntry l)] (.g (encSeasonO r)) := by
  refine fn_ok T Try.func93 rfl (by decide) rfl ?_
  refine AW.seq ?_
  refine AW.region ?_
  refine AO.step rfl (alloc_ok T rfl 1 rfl rfl rfl rfl rfl) ?_
  refine AO.nil ?_
  refine AW.seq ?_
  refine AW.region ?_
  refine AO.pure T rfl rfl rfl ?_
  refine AO.step rfl (mk0_ok T rfl rfl rfl rfl) ?_
  refine AO.pure T (d := .g [.v (.int .i64 best), .w 3 []]) rfl rfl rfl ?_
  refine AO.step rfl (alloc_ok T rfl 2 rfl rfl rfl rfl rfl) ?_
  refine AO.step rfl (store_okE T rfl rfl rfl rfl rfl rfl rfl rfl rfl (ds' := [.v (.int .i64 best), .w 3 []]) rfl) ?_
  refine AO.nil ?_
  refine AW.seq ?_
  obtain ⟨u1, hx2, hH⟩ := bindE hH
  refine AW.region ?_
  refine AO.step rfl (mk0_ok T rfl rfl rfl rfl) ?_
  refine AO.pure T rfl rfl rfl ?_
  refine AO.step rfl (app_ws_map T rfl 3 rfl rfl rfl rfl rfl (by decide) (by decide) rfl rfl (fun _ => rfl) (needT (hx2)) rfl rfl) ?_
  refine AO.pure T rfl rfl rfl ?_
  refine AO.nil ?_
  refine AW.seq ?_
  obtain ⟨x3, hx4, hH⟩ := bindE hH
  refine AW.region ?_
  refine AO.pure T rfl rfl rfl ?_
  refine AO.step rfl (callM_ok rfl 4 rfl rfl (es := [.w 3 (l.map encEntry), .f 83 []]) (outs := [.w 3 (x3.map encEntry), .u]) (ids := [3]) (by exact expLG_cons (.c (.rowR rfl)) (expLG_cons (.c (.f rfl)) (expLG_nil))) (by decide) (.inl (by rfl)) (by rfl) (slices_SortFunc_Entry_ok _ 83 [] rfl (fun a0 a1 => impl_compareEntries_p a0 a1) (fun a0 a1 q h => impl_compareEntries_ok a0 a1  q h) _ (hx4)) rfl (by rfl) rfl) ?_
  refine AO.nil ?_
  refine AW.seq ?_
  refine AW.seq ?_
  refine AW.region ?_
  refine AO.pure T rfl rfl rfl ?_
  refine AO.val rfl rfl (len_row_ok T rfl rfl rfl rfl) ?_
  refine AO.pure T rfl rfl rfl ?_
  refine AO.nil ?_
  refine AW.block ?_
  refine AW.loopS (fun s : Nat × (List Line) => (⟨[(4, .p 1 0), (5, .p 2 0), (19, .R 3), (20, .v (.int .i64 (x3.length : Int))), (21, .v (.int .i64 (s.1 : Int)))], [(1, .box [.v (.int .i64 0), .w 0 []]), (2, .box [.v (.int .i64 best), .R 15]), (3, .row 3 (List.map encEntry x3)), (15, .row 3 (List.map encLineO s.2))], 80, []⟩ : St)) (fun s => s.1 ≤ x3.length ∧ impl_freshSeason_l1 best (x3.drop s.1) s.1 s.2 = some r) (fun s => x3.length - s.1) (0, []) ⟨Nat.zero_le _, hH⟩ ?_ ?_
  · refine Le.trans (Le.voidBox 2 1 15 3 rfl rfl rfl rfl) ?_
    exact Le.cut 0 0 rfl (by repeat' (first | exact trivial | refine ⟨⟨_, rfl, rfl⟩, ?_⟩)) (by repeat' (first | exact trivial | refine ⟨⟨_, rfl, rfl⟩, ?_⟩)) rfl
  · rintro ⟨k5, v42⟩ ⟨hk, hH⟩
    replace hH : impl_freshSeason_l1 best (x3.drop k5) k5 v42 = some r := hH
    show AW _ _ _ (⟨[(4, .p 1 0), (5, .p 2 0), (19, .R 3), (20, .v (.int .i64 (x3.length : Int))), (21, .v (.int .i64 (k5 : Int)))], [(1, .box [.v (.int .i64 0), .w 0 []]), (2, .box [.v (.int .i64 best), .R 15]), (3, .row 3 (List.map encEntry x3)), (15, .row 3 (List.map encLineO v42))], 80, []⟩ : St)
    refine AW.boundR (id := 3) (l := x3) rfl (fun hb9 => ?_)
    cases hd8 : x3.drop k5 with
    | nil =>
      rw [hd8] at hH
      rw [impl_freshSeason_l1] at hH
      have hlt10 := drop_ge hd8
      refine AW.seq ?_
      refine AW.region ?_
      refine AO.pure T rfl rfl rfl ?_
      refine AO.nil ?_
      refine AW.seq ?_
      refine AW.condF' (b := decide ((k5 : Int) < (x3.length : Int))) rfl (rngF hlt10) ?_
      refine AW.exit ?_
      refine AW.seq ?_
      refine AW.region ?_
      refine AO.pure T (d := .g [.v (.int .i64 best), .R 15]) rfl rfl rfl ?_
      refine AO.step rfl (store_okE T rfl rfl rfl rfl rfl rfl rfl rfl rfl (ds' := [.v (.int .i64 best), .R 15]) rfl) ?_
      refine AO.nil ?_
      refine AW.ret ?_
      cases someE hH
      exact ⟨trivial, _, [15], rfl, .c (.g (expLC_cons .v (expLC_cons (.rowR rfl) (expLC_nil)))), by decide⟩
    | cons y6 ys7 =>
      rw [hd8] at hH
      rw [impl_freshSeason_l1] at hH
      have hlt10 := drop_lt hd8
      refine AW.seq ?_
      refine AW.region ?_
      refine AO.pure T rfl rfl rfl ?_
      refine AO.nil ?_
      refine AW.seq ?_
      refine AW.condT' (b := decide ((k5 : Int) < (x3.length : Int))) rfl (rngT hlt10) ?_
      refine AW.skip ?_
      refine AW.seq ?_
      refine AW.block ?_
      refine AW.seq ?_
      refine AW.region ?_
      refine AO.val rfl rfl (ix_row_ok T rfl rfl rfl rfl rfl rfl (getI_drop hd8)) ?_
      refine AO.val rfl rfl (load_row_ok T rfl rfl rfl rfl (getI_get (getI_drop hd8)) rfl rfl rfl) ?_
      refine AO.step rfl (alloc_ok T rfl 28 rfl rfl rfl rfl rfl) ?_
      refine AO.step rfl (store_okE T rfl rfl rfl rfl rfl rfl rfl rfl rfl (ds' := [.v (.int .i64 y6.event), .v (.int .i64 y6.skater), .v (.int .i64 y6.points)]) rfl) ?_
      refine AO.nil ?_
      refine AW.seq ?_
      refine AW.region ?_
      refine AO.pure T rfl rfl rfl ?_
      refine AO.pure T rfl rfl rfl ?_
      refine AO.val rfl rfl (len_row_ok T rfl rfl rfl rfl) ?_
      refine AO.val rfl rfl (arw_ok rfl rfl rfl rfl) ?_
      refine AO.pure T rfl rfl rfl ?_
      refine AO.nil ?_
      refine AW.seq ?_
      refine AW.seq ?_
      obtain ⟨x44, hx45, hH⟩ := bindE hH
      refine AW.drawn 11 29 [] mix (by kernel_rfl) rfl ?_
      refine AD.pure T rfl rfl rfl ?_
      refine AD.pure T rfl rfl rfl ?_
      refine AD.pure T rfl rfl rfl ?_
      refine AD.pureG T [] rfl trivial rfl rfl ?_
      refine AD.pureG T [32] rfl ⟨fun h => h, trivial⟩ rfl rfl ?_
      refine AD.pureG T [] rfl trivial rfl rfl ?_
      refine AD.guard [33, 34] rfl ⟨fun h => h, fun h => h, trivial⟩ (fun hg => ix_row_ok T rfl rfl rfl rfl rfl rfl (optT hx45 hg)) rfl ?_
      refine AD.pureG T [35] rfl ⟨fun h => h, trivial⟩ rfl rfl ?_
      refine AD.guard [36] rfl ⟨fun h => h, trivial⟩ (fun hg => load_row_ok T rfl rfl rfl rfl (getI_get (optT hx45 hg)) rfl rfl rfl) rfl ?_
      refine AD.pureG T [] rfl trivial rfl rfl ?_
      refine AD.pureG T [38] rfl ⟨fun h => h, trivial⟩ rfl rfl ?_
      refine AD.nil ?_
      refine AO.pureG T [37, 39] rfl ⟨fun h => h, fun h => h, trivial⟩ rfl rfl ?_
      refine AO.val rfl rfl (pick_or rfl rfl rfl rfl) ?_
      refine AO.nil ?_
      refine AW.cond (b := (decide ((w64 ((v42.length : Int) - 1)) < 0) || (x44.skater != y6.skater))) rfl (fun hc => ?_) (fun hc => ?_)
      · replace hH := condT hc hH
        refine AW.seq ?_
        obtain ⟨u46, hx47, hH⟩ := bindE hH
        refine AW.region ?_
        refine AO.pure T rfl rfl rfl ?_
        refine AO.pure T rfl rfl rfl ?_
        refine AO.pure T rfl rfl rfl ?_
        refine AO.pure T rfl rfl rfl ?_
        refine AO.pure T (d := .g [.v (.int .i64 y6.skater), .w 0 [], .w 0 []]) rfl rfl rfl ?_
        refine AO.step rfl (mk_o_ok T rfl 29 rfl rfl rfl rfl rfl rfl (f := encLineO) (l := [(Line.mk y6.skater [] [])]) (ids := []) rfl rfl (fun _ => rfl) (by exact expLC_cons .v (expLC_cons .nil (expLC_cons .nil (expLC_nil)))) (by decide) rfl rfl rfl rfl rfl) ?_
        refine AO.step rfl (app_rr_map T rfl 30 rfl rfl rfl rfl rfl (by decide) rfl rfl rfl rfl rfl (needT (hx47)) rfl rfl) ?_
        refine AO.pure T rfl rfl rfl ?_
        refine AO.step rfl (store_okE T rfl rfl rfl rfl rfl rfl rfl rfl rfl (ds' := [.v (.int .i64 best), .R 30]) rfl) ?_
        refine AO.nil ?_
        refine AW.le (Le.cut 0 0 (σ' := (⟨[(4, .p 1 0), (5, .p 2 0), (8, .p 28 0), (9, .v (.int .i64 (w64 ((v42.length : Int) - 1)))), (19, .R 3), (20, .v (.int .i64 (x3.length : Int))), (21, .v (.int .i64 (k5 : Int)))], [(1, .box [.v (.int .i64 0), .w 0 []]), (2, .box [.v (.int .i64 best), .R 30]), (3, .row 3 (List.map encEntry x3)), (28, .box [.v (.int .i64 y6.event), .v (.int .i64 y6.skater), .v (.int .i64 y6.points)]), (30, .row 3 (List.map encLineO (v42 ++ [(Line.mk y6.skater [] [])])))], 80, []⟩ : St)) rfl (by repeat' (first | exact trivial | refine ⟨⟨_, rfl, rfl⟩, ?_⟩)) (by repeat' (first | exact trivial | refine ⟨⟨_, rfl, rfl⟩, ?_⟩)) rfl) ?_
        refine AW.region ?_
        refine AO.pure T rfl rfl rfl ?_
        refine AO.val rfl rfl (arw_ok rfl rfl rfl rfl) ?_
        refine AO.pure T rfl rfl rfl ?_
        refine AO.nil ?_
        refine AW.seq ?_
        obtain ⟨x48, hx49, hH⟩ := bindE hH
        refine AW.region ?_
        refine AO.pure T rfl rfl rfl ?_
        refine AO.pure T rfl rfl rfl ?_
        refine AO.pure T rfl rfl rfl ?_
        refine AO.val rfl rfl (ix_row_ok T rfl rfl rfl rfl rfl rfl (hx49)) ?_
        refine AO.pure T rfl rfl rfl ?_
        refine AO.nil ?_
        refine AW.seq ?_
        obtain ⟨u50, hx51, hH⟩ := bindE hH
        refine AW.le (Le.openM 30 ((w64 ((w64 ((v42.length : Int) - 1)) + 1)).toNat) 1 31 rfl (getI_get (hx49)) rfl rfl) ?_
        refine AW.drawn 9 32 [31] mix (by kernel_rfl) rfl ?_
        refine AD.pure T rfl rfl rfl ?_
        refine AD.pure T rfl rfl rfl ?_
        refine AD.pure T rfl rfl rfl ?_
        refine AD.pure T rfl rfl rfl ?_
        refine AD.val rfl rfl (load_lent_ok T rfl rfl rfl rfl rfl) ?_
        refine AD.pure T rfl rfl rfl ?_
        refine AD.pure T rfl rfl rfl ?_
        refine AD.q (FStep.mk T (f := encInt) (l := [y6.event]) rfl rfl rfl rfl rfl rfl rfl rfl rfl (fun _ => rfl) rfl rfl rfl rfl) (by simp [namesIn]) (Nat.le_succ _) rfl ?_
        refine AD.k rfl rfl (FStep.app_rv T rfl rfl rfl rfl rfl rfl rfl (by decide) rfl rfl rfl rfl (fun _ => rfl) (needT (hx51)) rfl) rfl rfl rfl ?_
        refine AD.nil ?_
        refine AO.pure T rfl rfl rfl ?_
        refine AO.pure T rfl rfl rfl ?_
        refine AO.step rfl (store_lent_ok T (ids := [33]) rfl rfl rfl rfl rfl rfl (getI_get (hx49)) rfl (.rowR rfl) (by decide) rfl (u' := (Line.mk x48.skater (x48.events ++ [y6.event]) x48.points)) rfl rfl) ?_
        refine AO.nil ?_
        obtain ⟨x52, hx53, hH⟩ := bindE hH
        obtain ⟨u54, hx55, hH⟩ := bindE hH
        refine AW.le (Le.openM 30 ((w64 ((w64 ((v42.length : Int) - 1)) + 1)).toNat) 2 34 rfl (getI_get (hx53)) rfl rfl) ?_
        refine AW.drawn 9 35 [34] mix (by kernel_rfl) rfl ?_
        refine AD.pure T rfl rfl rfl ?_
        refine AD.pure T rfl rfl rfl ?_
        refine AD.pure T rfl rfl rfl ?_
        refine AD.pure T rfl rfl rfl ?_
        refine AD.val rfl rfl (load_lent_ok T rfl rfl rfl rfl rfl) ?_
        refine AD.pure T rfl rfl rfl ?_
        refine AD.pure T rfl rfl rfl ?_
        refine AD.q (FStep.mk T (f := encInt) (l := [y6.points]) rfl rfl rfl rfl rfl rfl rfl rfl rfl (fun _ => rfl) rfl rfl rfl rfl) (by simp [namesIn]) (Nat.le_succ _) rfl ?_
        refine AD.k rfl rfl (FStep.app_rv T rfl rfl rfl rfl rfl rfl rfl (by decide) rfl rfl rfl rfl (fun _ => rfl) (needT (hx55)) rfl) rfl rfl rfl ?_
        refine AD.nil ?_
        refine AO.pure T rfl rfl rfl ?_
        refine AO.pure T rfl rfl rfl ?_
        refine AO.step rfl (store_lent_ok T (ids := [36]) rfl rfl rfl rfl rfl rfl (getI_get (hx53)) rfl (.rowR rfl) (by decide) rfl (u' := (Line.mk x52.skater x52.events (x52.points ++ [y6.points]))) rfl rfl) ?_
        refine AO.nil ?_
        refine AW.le (Le.cut 0 0 (σ' := (⟨[(4, .p 1 0), (5, .p 2 0), (19, .R 3), (20, .v (.int .i64 (x3.length : Int))), (21, .v (.int .i64 (k5 : Int)))], [(1, .box [.v (.int .i64 0), .w 0 []]), (2, .box [.v (.int .i64 best), .R 30]), (3, .row 3 (List.map encEntry x3)), (30, .row 3 (List.map encLineO (((v42 ++ [(Line.mk y6.skater [] [])]).set ((w64 ((w64 ((v42.length : Int) - 1)) + 1)).toNat) (Line.mk x48.skater (x48.events ++ [y6.event]) x48.points)).set ((w64 ((w64 ((v42.length : Int) - 1)) + 1)).toNat) (Line.mk x52.skater x52.events (x52.points ++ [y6.points])))))], 80, []⟩ : St)) rfl (by repeat' (first | exact trivial | refine ⟨⟨_, rfl, rfl⟩, ?_⟩)) (by repeat' (first | exact trivial | refine ⟨⟨_, rfl, rfl⟩, ?_⟩)) rfl) ?_
        refine AW.region ?_
        refine AO.val rfl rfl (ar_ok rfl rfl rfl rfl (inI_succ hlt10 hb9)) ?_
        refine AO.pure T rfl rfl rfl ?_
        refine AO.nil ?_
        refine ⟨(k5 + 1, (((v42 ++ [(Line.mk y6.skater [] [])]).set ((w64 ((w64 ((v42.length : Int) - 1)) + 1)).toNat) (Line.mk x48.skater (x48.events ++ [y6.event]) x48.points)).set ((w64 ((w64 ((v42.length : Int) - 1)) + 1)).toNat) (Line.mk x52.skater x52.events (x52.points ++ [y6.points])))), ⟨Nat.succ_le_of_lt hlt10, (by rw [drop_succ_of hd8]; exact hH)⟩, (by have := hlt10; dsimp only; omega), ?_⟩
        exact Le.cut 30 15 rfl (by repeat' (first | exact trivial | refine ⟨⟨_, rfl, rfl⟩, ?_⟩)) (by repeat' (first | exact trivial | refine ⟨⟨_, rfl, rfl⟩, ?_⟩)) rfl
      · replace hH := condF hc hH
        refine AW.skip ?_
        refine AW.seq ?_
        obtain ⟨x56, hx57, hH⟩ := bindE hH
        refine AW.region ?_
        refine AO.pure T rfl rfl rfl ?_
        refine AO.pure T rfl rfl rfl ?_
        refine AO.pure T rfl rfl rfl ?_
        refine AO.val rfl rfl (ix_row_ok T rfl rfl rfl rfl rfl rfl (hx57)) ?_
        refine AO.pure T rfl rfl rfl ?_
        refine AO.nil ?_
        refine AW.le (Le.cut 0 0 (σ' := (⟨[(4, .p 1 0), (5, .p 2 0), (8, .p 28 0), (10, .e 15 ((w64 ((v42.length : Int) - 1)).toNat) 0), (19, .R 3), (20, .v (.int .i64 (x3.length : Int))), (21, .v (.int .i64 (k5 : Int)))], [(1, .box [.v (.int .i64 0), .w 0 []]), (2, .box [.v (.int .i64 best), .R 15]), (3, .row 3 (List.map encEntry x3)), (15, .row 3 (List.map encLineO v42)), (28, .box [.v (.int .i64 y6.event), .v (.int .i64 y6.skater), .v (.int .i64 y6.points)])], 80, []⟩ : St)) rfl (by repeat' (first | exact trivial | refine ⟨⟨_, rfl, rfl⟩, ?_⟩)) (by repeat' (first | exact trivial | refine ⟨⟨_, rfl, rfl⟩, ?_⟩)) rfl) ?_
        refine AW.seq ?_
        obtain ⟨u58, hx59, hH⟩ := bindE hH
        refine AW.le (Le.openM 15 ((w64 ((v42.length : Int) - 1)).toNat) 1 37 rfl (getI_get (hx57)) rfl rfl) ?_
        refine AW.drawn 9 38 [37] mix (by kernel_rfl) rfl ?_
        refine AD.pure T rfl rfl rfl ?_
        refine AD.pure T rfl rfl rfl ?_
        refine AD.pure T rfl rfl rfl ?_
        refine AD.pure T rfl rfl rfl ?_
        refine AD.val rfl rfl (load_lent_ok T rfl rfl rfl rfl rfl) ?_
        refine AD.pure T rfl rfl rfl ?_
        refine AD.pure T rfl rfl rfl ?_
        refine AD.q (FStep.mk T (f := encInt) (l := [y6.event]) rfl rfl rfl rfl rfl rfl rfl rfl rfl (fun _ => rfl) rfl rfl rfl rfl) (by simp [namesIn]) (Nat.le_succ _) rfl ?_
        refine AD.k rfl rfl (FStep.app_rv T rfl rfl rfl rfl rfl rfl rfl (by decide) rfl rfl rfl rfl (fun _ => rfl) (needT (hx59)) rfl) rfl rfl rfl ?_
        refine AD.nil ?_
        refine AO.pure T rfl rfl rfl ?_
        refine AO.pure T rfl rfl rfl ?_
        refine AO.step rfl (store_lent_ok T (ids := [39]) rfl rfl rfl rfl rfl rfl (getI_get (hx57)) rfl (.rowR rfl) (by decide) rfl (u' := (Line.mk x56.skater (x56.events ++ [y6.event]) x56.points)) rfl rfl) ?_
        refine AO.nil ?_
        obtain ⟨x60, hx61, hH⟩ := bindE hH
        obtain ⟨u62, hx63, hH⟩ := bindE hH
        refine AW.le (Le.openM 15 ((w64 ((v42.length : Int) - 1)).toNat) 2 40 rfl (getI_get (hx61)) rfl rfl) ?_
        refine AW.drawn 9 41 [40] mix (by kernel_rfl) rfl ?_
        refine AD.pure T rfl rfl rfl ?_
        refine AD.pure T rfl rfl rfl ?_
        refine AD.pure T rfl rfl rfl ?_
        refine AD.pure T rfl rfl rfl ?_
        refine AD.val rfl rfl (load_lent_ok T rfl rfl rfl rfl rfl) ?_
        refine AD.pure T rfl rfl rfl ?_
        refine AD.pure T rfl rfl rfl ?_
        refine AD.q (FStep.mk T (f := encInt) (l := [y6.points]) rfl rfl rfl rfl rfl rfl rfl rfl rfl (fun _ => rfl) rfl rfl rfl rfl) (by simp [namesIn]) (Nat.le_succ _) rfl ?_
        refine AD.k rfl rfl (FStep.app_rv T rfl rfl rfl rfl rfl rfl rfl (by decide) rfl rfl rfl rfl (fun _ => rfl) (needT (hx63)) rfl) rfl rfl rfl ?_
        refine AD.nil ?_
        refine AO.pure T rfl rfl rfl ?_
        refine AO.pure T rfl rfl rfl ?_
        refine AO.step rfl (store_lent_ok T (ids := [42]) rfl rfl rfl rfl rfl rfl (getI_get (hx61)) rfl (.rowR rfl) (by decide) rfl (u' := (Line.mk x60.skater x60.events (x60.points ++ [y6.points]))) rfl rfl) ?_
        refine AO.nil ?_
        refine AW.le (Le.cut 0 0 (σ' := (⟨[(4, .p 1 0), (5, .p 2 0), (19, .R 3), (20, .v (.int .i64 (x3.length : Int))), (21, .v (.int .i64 (k5 : Int)))], [(1, .box [.v (.int .i64 0), .w 0 []]), (2, .box [.v (.int .i64 best), .R 15]), (3, .row 3 (List.map encEntry x3)), (15, .row 3 (List.map encLineO ((v42.set ((w64 ((v42.length : Int) - 1)).toNat) (Line.mk x56.skater (x56.events ++ [y6.event]) x56.points)).set ((w64 ((v42.length : Int) - 1)).toNat) (Line.mk x60.skater x60.events (x60.points ++ [y6.points])))))], 80, []⟩ : St)) rfl (by repeat' (first | exact trivial | refine ⟨⟨_, rfl, rfl⟩, ?_⟩)) (by repeat' (first | exact trivial | refine ⟨⟨_, rfl, rfl⟩, ?_⟩)) rfl) ?_
        refine AW.region ?_
        refine AO.val rfl rfl (ar_ok rfl rfl rfl rfl (inI_succ hlt10 hb9)) ?_
        refine AO.pure T rfl rfl rfl ?_
        refine AO.nil ?_
        refine ⟨(k5 + 1, ((v42.set ((w64 ((v42.length : Int) - 1)).toNat) (Line.mk x56.skater (x56.events ++ [y6.event]) x56.points)).set ((w64 ((v42.length : Int) - 1)).toNat) (Line.mk x60.skater x60.events (x60.points ++ [y6.points])))), ⟨Nat.succ_le_of_lt hlt10, (by rw [drop_succ_of hd8]; exact hH)⟩, (by have := hlt10; dsimp only; omega), ?_⟩
        exact Le.cut 0 0 rfl (by repeat' (first | exact trivial | refine ⟨⟨_, rfl, rfl⟩, ?_⟩)) (by repeat' (first | exact trivial | refine ⟨⟨_, rfl, rfl⟩, ?_⟩)) rfl

def impl_AddEntry_p (fuel : Nat) (sA : Season) (e : Entry) : Option (Season × Bool) :=
  (impl_IsSeason_p fuel sA).bind fun x1 =>
  cond (!x1)
    (some ((Season.mk 0 []), false))
    ((impl_entriesOf_p sA).bind fun x3 =>
    (need (fitsB 24 (x3.length + ([e]).length))).bind fun u5 =>
    (impl_AreEntries_p (x3 ++ [e])).bind fun x7 =>
    cond (!x7)
      (some ((Season.mk 0 []), false))
      ((impl_freshSeason_p sA.best (x3 ++ [e])).bind fun x9 =>
      some (x9, true)))
theorem impl_AddEntry_ok (fuel : Nat) (sA : Season) (e : Entry) (r : (Season × Bool)) (hH : impl_AddEntry_p fuel sA e = some r) : SpecR Try.prog 70 [.g (encSeason sA), .g (encEntry e)] (.t [.g (encSeasonO r.1), .v (.bool r.2)]) := by
  refine fn_ok T Try.func70 rfl (by decide) rfl ?_
  refine AW.seq ?_
  refine AW.region ?_
  refine AO.step rfl (box_ok T rfl 1 rfl rfl rfl rfl) ?_
  refine AO.step rfl (box_ok T rfl 2 rfl rfl rfl rfl) ?_
  refine AO.step rfl (alloc_ok T rfl 3 rfl rfl rfl rfl rfl) ?_
  refine AO.pure T rfl rfl rfl ?_
  refine AO.nil ?_
  refine AW.seq ?_
  refine AW.seq ?_
  obtain ⟨x1, hx2, hH⟩ := bindE hH
  refine AW.region ?_
  refine AO.pure T (d := .g [.v (.int .i64 sA.best), .s (List.map encLine sA.lines)]) rfl rfl rfl ?_
  refine AO.val rfl rfl (callV_ok rfl rfl rfl rfl (impl_IsSeason_ok fuel _ _ (hx2)) rfl) ?_
  refine AO.pure T rfl rfl rfl ?_
  refine AO.nil ?_
  refine AW.cond (b := (!x1)) rfl (fun hc => ?_) (fun hc => ?_)
  · replace hH := condT hc hH
    refine AW.seq ?_
    refine AW.region ?_
    refine AO.pure T (d := .g [.v (.int .i64 0), .w 0 []]) rfl rfl rfl ?_
    refine AO.step rfl (store_okE T rfl rfl rfl rfl rfl rfl rfl rfl rfl (ds' := [.v (.int .i64 0), .w 0 []]) rfl) ?_
    refine AO.pure T rfl rfl rfl ?_
    refine AO.nil ?_
    refine AW.ret ?_
    cases someE hH
    exact ⟨trivial, _, [], rfl, .t (expLG_cons (.g (expLC_cons .v (expLC_cons .nil (expLC_nil)))) (expLG_cons (.c .v) (expLG_nil))), by decide⟩
  · replace hH := condF hc hH
    refine AW.skip ?_
    refine AW.seq ?_
    obtain ⟨x3, hx4, hH⟩ := bindE hH
    obtain ⟨u5, hx6, hH⟩ := bindE hH
    refine AW.drawn 4 4 [] mix (by kernel_rfl) rfl ?_
    refine AD.pure T (d := .g [.v (.int .i64 sA.best), .s (List.map encLine sA.lines)]) rfl rfl rfl ?_
    refine AD.q (FStep.call rfl rfl rfl rfl rfl (impl_entriesOf_ok _ _ (hx4)) rfl rfl) (impT_names _ _) (impT_le _ _) rfl ?_
    refine AD.pure T (d := .g [.v (.int .i64 e.event), .v (.int .i64 e.skater), .v (.int .i64 e.points)]) rfl rfl rfl ?_
    refine AD.q (FStep.mk T (f := encEntry) (l := [e]) rfl rfl rfl rfl rfl rfl rfl rfl rfl (fun _ => rfl) rfl rfl rfl rfl) (by simp [namesIn]) (Nat.le_succ _) rfl ?_
    refine AD.nil ?_
    refine AO.step rfl (app_rv_map T rfl 6 rfl rfl rfl rfl rfl (by decide) rfl rfl rfl rfl (fun _ => rfl) (needT (hx6)) rfl rfl) ?_
    refine AO.pure T rfl rfl rfl ?_
    refine AO.nil ?_
    refine AW.seq ?_
    refine AW.seq ?_
    obtain ⟨x7, hx8, hH⟩ := bindE hH
    refine AW.region ?_
    refine AO.pure T rfl rfl rfl ?_
    refine AO.val rfl rfl (callLV_ok rfl rfl rfl (es := [.s (List.map encEntry (x3 ++ [e]))]) ⟨(.rowR rfl (.map fun y => .vs rfl)), trivial⟩ (impl_AreEntries_ok _ _ (hx8)) (zfree_v _) rfl) ?_
    refine AO.pure T rfl rfl rfl ?_
    refine AO.nil ?_
    refine AW.cond (b := (!x7)) rfl (fun hc => ?_) (fun hc => ?_)
    · replace hH := condT hc hH
      refine AW.seq ?_
      refine AW.region ?_
      refine AO.pure T (d := .g [.v (.int .i64 0), .w 0 []]) rfl rfl rfl ?_
      refine AO.step rfl (store_okE T rfl rfl rfl rfl rfl rfl rfl rfl rfl (ds' := [.v (.int .i64 0), .w 0 []]) rfl) ?_
      refine AO.pure T rfl rfl rfl ?_
      refine AO.nil ?_
      refine AW.ret ?_
      cases someE hH
      exact ⟨trivial, _, [], rfl, .t (expLG_cons (.g (expLC_cons .v (expLC_cons .nil (expLC_nil)))) (expLG_cons (.c .v) (expLG_nil))), by decide⟩
    · replace hH := condF hc hH
      refine AW.skip ?_
      refine AW.seq ?_
      obtain ⟨x9, hx10, hH⟩ := bindE hH
      refine AW.region ?_
      refine AO.pure T rfl rfl rfl ?_
      refine AO.pure T rfl rfl rfl ?_
      refine AO.pure T rfl rfl rfl ?_
      refine AO.step rfl (callL_ok rfl 7 rfl rfl (es := [.v (.int .i64 sA.best), .s (List.map encEntry (x3 ++ [e]))]) (by exact ⟨.free rfl, (.rowR rfl (.map fun y => .vs rfl)), trivial⟩) (impl_freshSeason_ok _ _ _ (hx10)) (zfree_g (zfl (.cons (zfree_v _) (.cons (zfree_map (fun y => (.cons (zfree_v _) (.cons (zfree_map (fun y => (.cons (zfree_v _) .nil))) (.cons (zfree_map (fun y => (.cons (zfree_v _) .nil))) .nil))))) .nil)))) rfl rfl rfl) ?_
      refine AO.step rfl (store_okE T rfl rfl rfl rfl rfl rfl rfl rfl rfl (ds' := [.v (.int .i64 x9.best), .R 7]) rfl) ?_
      refine AO.pure T rfl rfl rfl ?_
      refine AO.nil ?_
      refine AW.ret ?_
      cases someE hH
      exact ⟨trivial, _, [7], rfl, .t (expLG_cons (.g (expLC_cons .v (expLC_cons (.rowR rfl) (expLC_nil)))) (expLG_cons (.c .v) (expLG_nil))), by decide⟩

def impl_copyInts_p (l : List Int) : Option (List Int) :=
  (need (fitsB 8 l.length)).bind fun u1 =>
  some l
theorem impl_copyInts_ok (l : List Int) (r : (List Int)) (hH : impl_copyInts_p l = some r) : SpecR Try.prog 62 [.s (List.map encInt l)] (.w 1 (r.map encInt)) := by
  refine fn_ok T Try.func62 rfl (by decide) rfl ?_
  refine AW.seq ?_
  refine AW.region ?_
  refine AO.pure T rfl rfl rfl ?_
  refine AO.nil ?_
  refine AW.seq ?_
  obtain ⟨u1, hx2, hH⟩ := bindE hH
  refine AW.region ?_
  refine AO.step rfl (mk0_ok T rfl rfl rfl rfl) ?_
  refine AO.pure T rfl rfl rfl ?_
  refine AO.step rfl (app_ws_map T rfl 1 rfl rfl rfl rfl rfl (by decide) (by decide) rfl rfl (fun _ => rfl) (needT (hx2)) rfl rfl) ?_
  refine AO.pure T rfl rfl rfl ?_
  refine AO.nil ?_
  refine AW.ret ?_
  cases someE hH
  exact ⟨trivial, _, [1], rfl, .c (.c (.rowR rfl)), by decide⟩

def impl_copySeason_p (sA : Season) : Option Season :=
  (impl_entriesOf_p sA).bind fun x1 =>
  (impl_freshSeason_p sA.best x1).bind fun x3 =>
  some x3
theorem impl_copySeason_ok (sA : Season) (r : Season) (hH : impl_copySeason_p sA = some r) : SpecR Try.prog 63 [.g (encSeason sA)] (.g (encSeasonO r)) := by
  refine fn_ok T Try.func63 rfl (by decide) rfl ?_
  refine AW.seq ?_
  refine AW.region ?_
  refine AO.step rfl (box_ok T rfl 1 rfl rfl rfl rfl) ?_
  refine AO.step rfl (alloc_ok T rfl 2 rfl rfl rfl rfl rfl) ?_
  refine AO.nil ?_
  refine AW.seq ?_
  obtain ⟨x1, hx2, hH⟩ := bindE hH
  obtain ⟨x3, hx4, hH⟩ := bindE hH
  refine AW.drawn 4 3 [] mix (by kernel_rfl) rfl ?_
  refine AD.pure T rfl rfl rfl ?_
  refine AD.pure T rfl rfl rfl ?_
  refine AD.pure T (d := .g [.v (.int .i64 sA.best), .s (List.map encLine sA.lines)]) rfl rfl rfl ?_
  refine AD.q (FStep.call rfl rfl rfl rfl rfl (impl_entriesOf_ok _ _ (hx2)) rfl rfl) (impT_names _ _) (impT_le _ _) rfl ?_
  refine AD.nil ?_
  refine AO.step rfl (callL_ok rfl 4 rfl rfl (es := [.v (.int .i64 sA.best), .s (List.map encEntry x1)]) (by exact ⟨.free rfl, (.rowR rfl (.map fun y => .vs rfl)), trivial⟩) (impl_freshSeason_ok _ _ _ (hx4)) (zfree_g (zfl (.cons (zfree_v _) (.cons (zfree_map (fun y => (.cons (zfree_v _) (.cons (zfree_map (fun y => (.cons (zfree_v _) .nil))) (.cons (zfree_map (fun y => (.cons (zfree_v _) .nil))) .nil))))) .nil)))) rfl rfl rfl) ?_
  refine AO.step rfl (store_okE T rfl rfl rfl rfl rfl rfl rfl rfl rfl (ds' := [.v (.int .i64 x3.best), .R 4]) rfl) ?_
  refine AO.nil ?_
  refine AW.ret ?_
  cases someE hH
  exact ⟨trivial, _, [4], rfl, .c (.g (expLC_cons .v (expLC_cons (.rowR rfl) (expLC_nil)))), by decide⟩

def impl_AddToWorld_l1 (x7 : (List Int)) : List Season → Nat → List Season → Option ((World × Bool))
  | [], k11, v26 =>
    some ((World.mk v26 x7), true)
  | y12 :: ys13, k11, v26 =>
    (impl_copySeason_p y12).bind fun x28 =>
    (need (fitsB 32 (v26.length + ([x28]).length))).bind fun u30 =>
    impl_AddToWorld_l1 x7 ys13 (k11 + 1) (v26 ++ [x28])
def impl_AddToWorld_p (fuel : Nat) (w : World) (e : Entry) : Option (World × Bool) :=
  (impl_IsWorld_p fuel w).bind fun x1 =>
  cond (!x1)
    (some ((World.mk [] []), false))
    ((getI w.seasons 0).bind fun x3 =>
    (impl_AddEntry_p fuel x3 e).bind fun x5 =>
    cond (!x5.2)
      (some ((World.mk [] []), false))
      ((impl_copyInts_p w.weights).bind fun x7 =>
      (sliceLo w.seasons 1).bind fun x9 =>
      impl_AddToWorld_l1 x7 x9 0 [(Season.mk x5.1.best x5.1.lines)]))
theorem impl_AddToWorld_ok (fuel : Nat) (w : World) (e : Entry) (r : (World × Bool)) (hH : impl_AddToWorld_p fuel w e = some r) : SpecR Try.prog 30 [.g (encWorld w), .g (encEntry e)] (.t [.g (encWorldO r.1), .v (.bool r.2)]) := by
  refine fn_ok T Try.func30 rfl (by decide) rfl ?_
  refine AW.seq ?_
  refine AW.region ?_
  refine AO.step rfl (box_ok T rfl 1 rfl rfl rfl rfl) ?_
  refine AO.step rfl (box_ok T rfl 2 rfl rfl rfl rfl) ?_
  refine AO.step rfl (alloc_ok T rfl 3 rfl rfl rfl rfl rfl) ?_
  refine AO.pure T rfl rfl rfl ?_
  refine AO.nil ?_
  refine AW.seq ?_
  refine AW.seq ?_
  obtain ⟨x1, hx2, hH⟩ := bindE hH
  refine AW.region ?_
  refine AO.pure T (d := .g [.s (List.map encSeason w.seasons), .s (List.map encInt w.weights)]) rfl rfl rfl ?_
  refine AO.val rfl rfl (callV_ok rfl rfl rfl rfl (impl_IsWorld_ok fuel _ _ (hx2)) rfl) ?_
  refine AO.pure T rfl rfl rfl ?_
  refine AO.nil ?_
  refine AW.cond (b := (!x1)) rfl (fun hc => ?_) (fun hc => ?_)
  · replace hH := condT hc hH
    refine AW.seq ?_
    refine AW.region ?_
    refine AO.pure T (d := .g [.w 0 [], .w 0 []]) rfl rfl rfl ?_
    refine AO.step rfl (store_okE T rfl rfl rfl rfl rfl rfl rfl rfl rfl (ds' := [.w 0 [], .w 0 []]) rfl) ?_
    refine AO.pure T rfl rfl rfl ?_
    refine AO.nil ?_
    refine AW.ret ?_
    cases someE hH
    exact ⟨trivial, _, [], rfl, .t (expLG_cons (.g (expLC_cons .nil (expLC_cons .nil (expLC_nil)))) (expLG_cons (.c .v) (expLG_nil))), by decide⟩
  · replace hH := condF hc hH
    refine AW.skip ?_
    refine AW.seq ?_
    obtain ⟨x3, hx4, hH⟩ := bindE hH
    obtain ⟨x5, hx6, hH⟩ := bindE hH
    refine AW.drawn 11 4 [] mix (by kernel_rfl) rfl ?_
    refine AD.pure T rfl rfl rfl ?_
    refine AD.pure T rfl rfl rfl ?_
    refine AD.val rfl rfl (ix_map_ok T rfl rfl rfl rfl rfl (hx4) rfl) ?_
    refine AD.pure T (d := .g [.v (.int .i64 x3.best), .s (List.map encLine x3.lines)]) rfl rfl rfl ?_
    refine AD.pure T (d := .g [.v (.int .i64 e.event), .v (.int .i64 e.skater), .v (.int .i64 e.points)]) rfl rfl rfl ?_
    refine AD.q (FStep.call rfl rfl rfl rfl rfl (impl_AddEntry_ok fuel _ _ _ (hx6)) rfl rfl) (impT_names _ _) (impT_le _ _) rfl ?_
    refine AD.pure T rfl rfl rfl ?_
    refine AD.pure T (d := .g [.v (.int .i64 x5.1.best), .R 4]) rfl rfl rfl ?_
    refine AD.pure T rfl rfl rfl ?_
    refine AD.q (FStep.alloc T rfl rfl rfl rfl rfl rfl) (by simp [namesIn]) (Nat.le_succ _) rfl ?_
    refine AD.k rfl rfl (FStep.store_p T rfl rfl rfl rfl rfl rfl rfl rfl rfl rfl rfl) rfl rfl rfl ?_
    refine AD.nil ?_
    refine AO.pure T rfl rfl rfl ?_
    refine AO.nil ?_
    refine AW.seq ?_
    refine AW.seq ?_
    refine AW.region ?_
    refine AO.pure T rfl rfl rfl ?_
    refine AO.pure T rfl rfl rfl ?_
    refine AO.nil ?_
    refine AW.cond (b := (!x5.2)) rfl (fun hc => ?_) (fun hc => ?_)
    · replace hH := condT hc hH
      refine AW.seq ?_
      refine AW.region ?_
      refine AO.pure T (d := .g [.w 0 [], .w 0 []]) rfl rfl rfl ?_
      refine AO.step rfl (store_okE T rfl rfl rfl rfl rfl rfl rfl rfl rfl (ds' := [.w 0 [], .w 0 []]) rfl) ?_
      refine AO.pure T rfl rfl rfl ?_
      refine AO.nil ?_
      refine AW.le (Le.cut 0 0 (σ' := (⟨[(4, .p 3 0), (5, .v (.bool false))], [(3, .box [.w 0 [], .w 0 []])], 50, []⟩ : St)) rfl (by repeat' (first | exact trivial | refine ⟨⟨_, rfl, rfl⟩, ?_⟩)) (by repeat' (first | exact trivial | refine ⟨⟨_, rfl, rfl⟩, ?_⟩)) rfl) ?_
      refine AW.ret ?_
      cases someE hH
      exact ⟨trivial, _, [], rfl, .t (expLG_cons (.g (expLC_cons .nil (expLC_cons .nil (expLC_nil)))) (expLG_cons (.c .v) (expLG_nil))), by decide⟩
    · replace hH := condF hc hH
      refine AW.skip ?_
      refine AW.seq ?_
      obtain ⟨x7, hx8, hH⟩ := bindE hH
      refine AW.drawn 7 6 [4] mix (by kernel_rfl) rfl ?_
      refine AD.pure T (d := .g [.v (.int .i64 x5.1.best), .R 4]) rfl rfl rfl ?_
      refine AD.k rfl rfl (FStep.mk_o T rfl rfl rfl rfl rfl rfl rfl rfl (f := encSeasonO) (l := [(Season.mk x5.1.best x5.1.lines)]) (ids := [4]) rfl rfl (fun _ => rfl) (by exact expLC_cons .v (expLC_cons (.rowR rfl) (expLC_nil))) (by decide) rfl rfl rfl rfl) rfl rfl rfl ?_
      refine AD.pure T rfl rfl rfl ?_
      refine AD.pure T rfl rfl rfl ?_
      refine AD.q (FStep.call rfl rfl rfl rfl rfl (impl_copyInts_ok _ _ (hx8)) rfl rfl) (impT_names _ _) (impT_le _ _) rfl ?_
      refine AD.pured T (d := .g [.R 6, .R 7]) rfl rfl rfl rfl ?_
      refine AD.q (FStep.alloc T rfl rfl rfl rfl rfl rfl) (by simp [namesIn]) (Nat.le_succ _) rfl ?_
      refine AD.nil ?_
      refine AO.step rfl (store_okE T rfl rfl rfl rfl rfl rfl rfl rfl rfl (ds' := [.R 6, .R 7]) rfl) ?_
      refine AO.nil ?_
      refine AW.le (Le.cut 0 0 (σ' := (⟨[(2, .p 1 0), (4, .p 3 0), (8, .p 8 0)], [(1, .box [.s (List.map encSeason w.seasons), .s (List.map encInt w.weights)]), (3, .box [.w 0 [], .w 0 []]), (6, .row 2 (List.map encSeasonO [(Season.mk x5.1.best x5.1.lines)])), (7, .row 1 (List.map encInt x7)), (8, .box [.R 6, .R 7])], 50, []⟩ : St)) rfl (by repeat' (first | exact trivial | refine ⟨⟨_, rfl, rfl⟩, ?_⟩)) (by repeat' (first | exact trivial | refine ⟨⟨_, rfl, rfl⟩, ?_⟩)) rfl) ?_
      refine AW.seq ?_
      refine AW.seq ?_
      obtain ⟨x9, hx10, hH⟩ := bindE hH
      refine AW.region ?_
      refine AO.pure T rfl rfl rfl ?_
      refine AO.pure T rfl rfl rfl ?_
      refine AO.val rfl rfl (slice_lo_map_ok T rfl rfl rfl rfl rfl (hx10) (fun _ => rfl)) ?_
      refine AO.val rfl rfl (len_map_ok T rfl rfl rfl) ?_
      refine AO.pure T rfl rfl rfl ?_
      refine AO.nil ?_
      refine AW.block ?_
      refine AW.loopS (fun s : Nat × (List Season) => (⟨[(4, .p 3 0), (8, .p 8 0), (35, .s (List.map encSeason x9)), (36, .v (.int .i64 (x9.length : Int))), (37, .v (.int .i64 (s.1 : Int)))], [(3, .box [.w 0 [], .w 0 []]), (6, .row 2 (List.map encSeasonO s.2)), (7, .row 1 (List.map encInt x7)), (8, .box [.R 6, .R 7])], 50, []⟩ : St)) (fun s => s.1 ≤ x9.length ∧ impl_AddToWorld_l1 x7 (x9.drop s.1) s.1 s.2 = some r) (fun s => x9.length - s.1) (0, [(Season.mk x5.1.best x5.1.lines)]) ⟨Nat.zero_le _, hH⟩ ?_ ?_
      · exact Le.cut 0 0 rfl (by repeat' (first | exact trivial | refine ⟨⟨_, rfl, rfl⟩, ?_⟩)) (by repeat' (first | exact trivial | refine ⟨⟨_, rfl, rfl⟩, ?_⟩)) rfl
      · rintro ⟨k11, v26⟩ ⟨hk, hH⟩
        replace hH : impl_AddToWorld_l1 x7 (x9.drop k11) k11 v26 = some r := hH
        show AW _ _ _ (⟨[(4, .p 3 0), (8, .p 8 0), (35, .s (List.map encSeason x9)), (36, .v (.int .i64 (x9.length : Int))), (37, .v (.int .i64 (k11 : Int)))], [(3, .box [.w 0 [], .w 0 []]), (6, .row 2 (List.map encSeasonO v26)), (7, .row 1 (List.map encInt x7)), (8, .box [.R 6, .R 7])], 50, []⟩ : St)
        refine AW.boundM (t := 35) (l := x9) rfl (fun hb15 => ?_)
        cases hd14 : x9.drop k11 with
        | nil =>
          rw [hd14] at hH
          rw [impl_AddToWorld_l1] at hH
          have hlt16 := drop_ge hd14
          refine AW.seq ?_
          refine AW.region ?_
          refine AO.pure T rfl rfl rfl ?_
          refine AO.nil ?_
          refine AW.seq ?_
          refine AW.condF' (b := decide ((k11 : Int) < (x9.length : Int))) rfl (rngF hlt16) ?_
          refine AW.exit ?_
          refine AW.seq ?_
          refine AW.region ?_
          refine AO.pure T (d := .g [.R 6, .R 7]) rfl rfl rfl ?_
          refine AO.step rfl (store_okE T rfl rfl rfl rfl rfl rfl rfl rfl rfl (ds' := [.R 6, .R 7]) rfl) ?_
          refine AO.pure T rfl rfl rfl ?_
          refine AO.nil ?_
          refine AW.ret ?_
          cases someE hH
          exact ⟨trivial, _, [6, 7], rfl, .t (expLG_cons (.g (expLC_cons (.rowR rfl) (expLC_cons (.rowR rfl) (expLC_nil)))) (expLG_cons (.c .v) (expLG_nil))), by decide⟩
        | cons y12 ys13 =>
          rw [hd14] at hH
          rw [impl_AddToWorld_l1] at hH
          have hlt16 := drop_lt hd14
          refine AW.seq ?_
          refine AW.region ?_
          refine AO.pure T rfl rfl rfl ?_
          refine AO.nil ?_
          refine AW.seq ?_
          refine AW.condT' (b := decide ((k11 : Int) < (x9.length : Int))) rfl (rngT hlt16) ?_
          refine AW.skip ?_
          refine AW.seq ?_
          refine AW.block ?_
          refine AW.seq ?_
          refine AW.region ?_
          refine AO.val rfl rfl (ix_map_ok T rfl rfl rfl rfl rfl (getI_drop hd14) rfl) ?_
          refine AO.pure T (d := .g [.v (.int .i64 y12.best), .s (List.map encLine y12.lines)]) rfl rfl rfl ?_
          refine AO.step rfl (alloc_ok T rfl 17 rfl rfl rfl rfl rfl) ?_
          refine AO.step rfl (store_okE T rfl rfl rfl rfl rfl rfl rfl rfl rfl (ds' := [.v (.int .i64 y12.best), .s (List.map encLine y12.lines)]) rfl) ?_
          refine AO.nil ?_
          obtain ⟨x28, hx29, hH⟩ := bindE hH
          obtain ⟨u30, hx31, hH⟩ := bindE hH
          refine AW.drawn 5 18 [] mix (by kernel_rfl) rfl ?_
          refine AD.pure T rfl rfl rfl ?_
          refine AD.pure T rfl rfl rfl ?_
          refine AD.pure T (d := .g [.v (.int .i64 y12.best), .s (List.map encLine y12.lines)]) rfl rfl rfl ?_
          refine AD.q (FStep.call rfl rfl rfl rfl rfl (impl_copySeason_ok _ _ (hx29)) rfl rfl) (impT_names _ _) (impT_le _ _) rfl ?_
          refine AD.k rfl rfl (FStep.mk_o T rfl rfl rfl rfl rfl rfl rfl rfl (f := encSeasonO) (l := [x28]) (ids := [18]) rfl rfl (fun _ => rfl) (by exact expLC_cons .v (expLC_cons (.rowR rfl) (expLC_nil))) (by decide) rfl rfl rfl rfl) rfl rfl rfl ?_
          refine AD.nil ?_
          refine AO.step rfl (app_rr_map T rfl 20 rfl rfl rfl rfl rfl (by decide) rfl rfl rfl rfl rfl (needT (hx31)) rfl rfl) ?_
          refine AO.pure T rfl rfl rfl ?_
          refine AO.step rfl (store_okE T rfl rfl rfl rfl rfl rfl rfl rfl rfl (ds' := [.R 20, .R 7]) rfl) ?_
          refine AO.nil ?_
          refine AW.region ?_
          refine AO.val rfl rfl (ar_ok rfl rfl rfl rfl (inI_succ hlt16 hb15)) ?_
          refine AO.pure T rfl rfl rfl ?_
          refine AO.nil ?_
          refine ⟨(k11 + 1, (v26 ++ [x28])), ⟨Nat.succ_le_of_lt hlt16, (by rw [drop_succ_of hd14]; exact hH)⟩, (by have := hlt16; dsimp only; omega), ?_⟩
          exact Le.cut 20 6 rfl (by repeat' (first | exact trivial | refine ⟨⟨_, rfl, rfl⟩, ?_⟩)) (by repeat' (first | exact trivial | refine ⟨⟨_, rfl, rfl⟩, ?_⟩)) rfl

def laws_eqIntS_l1 (b : List Int) : List Int → Nat → Option Bool
  | [], k1 =>
    some true
  | y2 :: ys3, k1 =>
    (getI b (k1 : Int)).bind fun x12 =>
    cond (y2 != x12)
      (some false)
      (laws_eqIntS_l1 b ys3 (k1 + 1))
def laws_eqIntS_p (a : List Int) (b : List Int) : Option Bool :=
  cond ((a.length : Int) != (b.length : Int))
    (some false)
    (laws_eqIntS_l1 b a 0)
theorem laws_eqIntS_ok (a : List Int) (b : List Int) (r : Bool) (hH : laws_eqIntS_p a b = some r) : SpecR Try.prog 19 [.s (List.map encInt a), .s (List.map encInt b)] (.v (.bool r)) := by
  refine fn_ok T Try.func19 rfl (by decide) rfl ?_
  refine AW.seq ?_
  refine AW.region ?_
  refine AO.pure T rfl rfl rfl ?_
  refine AO.nil ?_
  refine AW.seq ?_
  refine AW.seq ?_
  refine AW.region ?_
  refine AO.pure T rfl rfl rfl ?_
  refine AO.val rfl rfl (len_map_ok T rfl rfl rfl) ?_
  refine AO.pure T rfl rfl rfl ?_
  refine AO.val rfl rfl (len_map_ok T rfl rfl rfl) ?_
  refine AO.pure T rfl rfl rfl ?_
  refine AO.nil ?_
  refine AW.cond (b := ((a.length : Int) != (b.length : Int))) rfl (fun hc => ?_) (fun hc => ?_)
  · replace hH := condT hc hH
    refine AW.seq ?_
    refine AW.region ?_
    refine AO.pure T rfl rfl rfl ?_
    refine AO.nil ?_
    refine AW.ret ?_
    cases someE hH
    exact ⟨trivial, _, [], rfl, .c (.c .v), by decide⟩
  · replace hH := condF hc hH
    refine AW.skip ?_
    refine AW.seq ?_
    refine AW.seq ?_
    refine AW.region ?_
    refine AO.pure T rfl rfl rfl ?_
    refine AO.nil ?_
    refine AW.block ?_
    refine AW.loopS (fun s : Nat => (⟨[(0, .s (List.map encInt a)), (1, .s (List.map encInt b)), (5, .v (.int .i64 (s : Int)))], [], 26, []⟩ : St)) (fun s => s ≤ a.length ∧ laws_eqIntS_l1 b (a.drop s) s = some r) (fun s => a.length - s) 0 ⟨Nat.zero_le _, hH⟩ ?_ ?_
    · exact Le.cut 0 0 rfl (by repeat' (first | exact trivial | refine ⟨⟨_, rfl, rfl⟩, ?_⟩)) (by repeat' (first | exact trivial | refine ⟨⟨_, rfl, rfl⟩, ?_⟩)) rfl
    · rintro k1 ⟨hk, hH⟩
      replace hH : laws_eqIntS_l1 b (a.drop k1) k1 = some r := hH
      show AW _ _ _ (⟨[(0, .s (List.map encInt a)), (1, .s (List.map encInt b)), (5, .v (.int .i64 (k1 : Int)))], [], 26, []⟩ : St)
      refine AW.boundM (t := 0) (l := a) rfl (fun hb5 => ?_)
      cases hd4 : a.drop k1 with
      | nil =>
        rw [hd4] at hH
        rw [laws_eqIntS_l1] at hH
        have hlt6 := drop_ge hd4
        refine AW.seq ?_
        refine AW.seq ?_
        refine AW.region ?_
        refine AO.pure T rfl rfl rfl ?_
        refine AO.pure T rfl rfl rfl ?_
        refine AO.val rfl rfl (len_map_ok T rfl rfl rfl) ?_
        refine AO.pure T rfl rfl rfl ?_
        refine AO.nil ?_
        refine AW.condF' (b := decide ((k1 : Int) < (a.length : Int))) rfl (rngF hlt6) ?_
        refine AW.exit ?_
        refine AW.seq ?_
        refine AW.region ?_
        refine AO.pure T rfl rfl rfl ?_
        refine AO.nil ?_
        refine AW.ret ?_
        cases someE hH
        exact ⟨trivial, _, [], rfl, .c (.c .v), by decide⟩
      | cons y2 ys3 =>
        rw [hd4] at hH
        rw [laws_eqIntS_l1] at hH
        have hlt6 := drop_lt hd4
        refine AW.seq ?_
        refine AW.seq ?_
        refine AW.region ?_
        refine AO.pure T rfl rfl rfl ?_
        refine AO.pure T rfl rfl rfl ?_
        refine AO.val rfl rfl (len_map_ok T rfl rfl rfl) ?_
        refine AO.pure T rfl rfl rfl ?_
        refine AO.nil ?_
        refine AW.condT' (b := decide ((k1 : Int) < (a.length : Int))) rfl (rngT hlt6) ?_
        refine AW.skip ?_
        refine AW.seq ?_
        refine AW.block ?_
        refine AW.seq ?_
        obtain ⟨x12, hx13, hH⟩ := bindE hH
        refine AW.drawn 8 1 [] mix (by kernel_rfl) rfl ?_
        refine AD.pure T rfl rfl rfl ?_
        refine AD.pure T rfl rfl rfl ?_
        refine AD.val rfl rfl (ix_map_ok T rfl rfl rfl rfl rfl (getI_drop hd4) rfl) ?_
        refine AD.pure T rfl rfl rfl ?_
        refine AD.pure T rfl rfl rfl ?_
        refine AD.pure T rfl rfl rfl ?_
        refine AD.val rfl rfl (ix_map_ok T rfl rfl rfl rfl rfl (hx13) rfl) ?_
        refine AD.pure T rfl rfl rfl ?_
        refine AD.nil ?_
        refine AO.pure T rfl rfl rfl ?_
        refine AO.nil ?_
        refine AW.cond (b := (y2 != x12)) rfl (fun hc => ?_) (fun hc => ?_)
        · replace hH := condT hc hH
          refine AW.seq ?_
          refine AW.region ?_
          refine AO.pure T rfl rfl rfl ?_
          refine AO.nil ?_
          refine AW.ret ?_
          cases someE hH
          exact ⟨trivial, _, [], rfl, .c (.c .v), by decide⟩
        · replace hH := condF hc hH
          refine AW.skip ?_
          refine AW.region ?_
          refine AO.pure T rfl rfl rfl ?_
          refine AO.val rfl rfl (ar_ok rfl rfl rfl rfl (inI_succ hlt6 hb5)) ?_
          refine AO.pure T rfl rfl rfl ?_
          refine AO.nil ?_
          refine ⟨k1 + 1, ⟨Nat.succ_le_of_lt hlt6, (by rw [drop_succ_of hd4]; exact hH)⟩, (by have := hlt6; dsimp only; omega), ?_⟩
          exact Le.cut 0 0 rfl (by repeat' (first | exact trivial | refine ⟨⟨_, rfl, rfl⟩, ?_⟩)) (by repeat' (first | exact trivial | refine ⟨⟨_, rfl, rfl⟩, ?_⟩)) rfl

def laws_eqLine_p (a : Line) (b : Line) : Option Bool :=
  cond (a.skater != b.skater)
    (some false)
    ((laws_eqIntS_p a.events b.events).bind fun x1 =>
    cond (!x1)
      (some false)
      ((laws_eqIntS_p a.points b.points).bind fun x3 =>
      cond (!x3)
        (some false)
        (some true)))
theorem laws_eqLine_ok (a : Line) (b : Line) (r : Bool) (hH : laws_eqLine_p a b = some r) : SpecR Try.prog 123 [.g (encLine a), .g (encLine b)] (.v (.bool r)) := by
  refine fn_ok T Try.func123 rfl (by decide) rfl ?_
  refine AW.seq ?_
  refine AW.region ?_
  refine AO.step rfl (box_ok T rfl 1 rfl rfl rfl rfl) ?_
  refine AO.step rfl (box_ok T rfl 2 rfl rfl rfl rfl) ?_
  refine AO.pure T rfl rfl rfl ?_
  refine AO.nil ?_
  refine AW.seq ?_
  refine AW.seq ?_
  refine AW.region ?_
  refine AO.pure T rfl rfl rfl ?_
  refine AO.pure T rfl rfl rfl ?_
  refine AO.pure T rfl rfl rfl ?_
  refine AO.pure T rfl rfl rfl ?_
  refine AO.pure T rfl rfl rfl ?_
  refine AO.nil ?_
  refine AW.cond (b := (a.skater != b.skater)) rfl (fun hc => ?_) (fun hc => ?_)
  · replace hH := condT hc hH
    refine AW.seq ?_
    refine AW.region ?_
    refine AO.pure T rfl rfl rfl ?_
    refine AO.nil ?_
    refine AW.ret ?_
    cases someE hH
    exact ⟨trivial, _, [], rfl, .c (.c .v), by decide⟩
  · replace hH := condF hc hH
    refine AW.skip ?_
    refine AW.seq ?_
    refine AW.seq ?_
    obtain ⟨x1, hx2, hH⟩ := bindE hH
    refine AW.region ?_
    refine AO.pure T rfl rfl rfl ?_
    refine AO.pure T rfl rfl rfl ?_
    refine AO.pure T rfl rfl rfl ?_
    refine AO.pure T rfl rfl rfl ?_
    refine AO.val rfl rfl (callV_ok rfl rfl rfl rfl (laws_eqIntS_ok _ _ _ (hx2)) rfl) ?_
    refine AO.pure T rfl rfl rfl ?_
    refine AO.nil ?_
    refine AW.cond (b := (!x1)) rfl (fun hc => ?_) (fun hc => ?_)
    · replace hH := condT hc hH
      refine AW.seq ?_
      refine AW.region ?_
      refine AO.pure T rfl rfl rfl ?_
      refine AO.nil ?_
      refine AW.ret ?_
      cases someE hH
      exact ⟨trivial, _, [], rfl, .c (.c .v), by decide⟩
    · replace hH := condF hc hH
      refine AW.skip ?_
      refine AW.seq ?_
      refine AW.seq ?_
      obtain ⟨x3, hx4, hH⟩ := bindE hH
      refine AW.region ?_
      refine AO.pure T rfl rfl rfl ?_
      refine AO.pure T rfl rfl rfl ?_
      refine AO.pure T rfl rfl rfl ?_
      refine AO.pure T rfl rfl rfl ?_
      refine AO.val rfl rfl (callV_ok rfl rfl rfl rfl (laws_eqIntS_ok _ _ _ (hx4)) rfl) ?_
      refine AO.pure T rfl rfl rfl ?_
      refine AO.nil ?_
      refine AW.cond (b := (!x3)) rfl (fun hc => ?_) (fun hc => ?_)
      · replace hH := condT hc hH
        refine AW.seq ?_
        refine AW.region ?_
        refine AO.pure T rfl rfl rfl ?_
        refine AO.nil ?_
        refine AW.ret ?_
        cases someE hH
        exact ⟨trivial, _, [], rfl, .c (.c .v), by decide⟩
      · replace hH := condF hc hH
        refine AW.skip ?_
        refine AW.seq ?_
        refine AW.region ?_
        refine AO.pure T rfl rfl rfl ?_
        refine AO.nil ?_
        refine AW.ret ?_
        cases someE hH
        exact ⟨trivial, _, [], rfl, .c (.c .v), by decide⟩

def laws_eqLineS_l1 (b : List Line) : List Line → Nat → Option Bool
  | [], k1 =>
    some true
  | y2 :: ys3, k1 =>
    (getI b (k1 : Int)).bind fun x16 =>
    (laws_eqLine_p y2 x16).bind fun x18 =>
    cond (!x18)
      (some false)
      (laws_eqLineS_l1 b ys3 (k1 + 1))
def laws_eqLineS_p (a : List Line) (b : List Line) : Option Bool :=
  cond ((a.length : Int) != (b.length : Int))
    (some false)
    (laws_eqLineS_l1 b a 0)
theorem laws_eqLineS_ok (a : List Line) (b : List Line) (r : Bool) (hH : laws_eqLineS_p a b = some r) : SpecR Try.prog 110 [.s (List.map encLine a), .s (List.map encLine b)] (.v (.bool r)) := by
  refine fn_ok T Try.func110 rfl (by decide) rfl ?_
  refine AW.seq ?_
  refine AW.region ?_
  refine AO.pure T rfl rfl rfl ?_
  refine AO.nil ?_
  refine AW.seq ?_
  refine AW.seq ?_
  refine AW.region ?_
  refine AO.pure T rfl rfl rfl ?_
  refine AO.val rfl rfl (len_map_ok T rfl rfl rfl) ?_
  refine AO.pure T rfl rfl rfl ?_
  refine AO.val rfl rfl (len_map_ok T rfl rfl rfl) ?_
  refine AO.pure T rfl rfl rfl ?_
  refine AO.nil ?_
  refine AW.cond (b := ((a.length : Int) != (b.length : Int))) rfl (fun hc => ?_) (fun hc => ?_)
  · replace hH := condT hc hH
    refine AW.seq ?_
    refine AW.region ?_
    refine AO.pure T rfl rfl rfl ?_
    refine AO.nil ?_
    refine AW.ret ?_
    cases someE hH
    exact ⟨trivial, _, [], rfl, .c (.c .v), by decide⟩
  · replace hH := condF hc hH
    refine AW.skip ?_
    refine AW.seq ?_
    refine AW.seq ?_
    refine AW.region ?_
    refine AO.pure T rfl rfl rfl ?_
    refine AO.nil ?_
    refine AW.block ?_
    refine AW.loopS (fun s : Nat => (⟨[(0, .s (List.map encLine a)), (1, .s (List.map encLine b)), (5, .v (.int .i64 (s : Int)))], [], 27, []⟩ : St)) (fun s => s ≤ a.length ∧ laws_eqLineS_l1 b (a.drop s) s = some r) (fun s => a.length - s) 0 ⟨Nat.zero_le _, hH⟩ ?_ ?_
    · exact Le.cut 0 0 rfl (by repeat' (first | exact trivial | refine ⟨⟨_, rfl, rfl⟩, ?_⟩)) (by repeat' (first | exact trivial | refine ⟨⟨_, rfl, rfl⟩, ?_⟩)) rfl
    · rintro k1 ⟨hk, hH⟩
      replace hH : laws_eqLineS_l1 b (a.drop k1) k1 = some r := hH
      show AW _ _ _ (⟨[(0, .s (List.map encLine a)), (1, .s (List.map encLine b)), (5, .v (.int .i64 (k1 : Int)))], [], 27, []⟩ : St)
      refine AW.boundM (t := 0) (l := a) rfl (fun hb5 => ?_)
      cases hd4 : a.drop k1 with
      | nil =>
        rw [hd4] at hH
        rw [laws_eqLineS_l1] at hH
        have hlt6 := drop_ge hd4
        refine AW.seq ?_
        refine AW.seq ?_
        refine AW.region ?_
        refine AO.pure T rfl rfl rfl ?_
        refine AO.pure T rfl rfl rfl ?_
        refine AO.val rfl rfl (len_map_ok T rfl rfl rfl) ?_
        refine AO.pure T rfl rfl rfl ?_
        refine AO.nil ?_
        refine AW.condF' (b := decide ((k1 : Int) < (a.length : Int))) rfl (rngF hlt6) ?_
        refine AW.exit ?_
        refine AW.seq ?_
        refine AW.region ?_
        refine AO.pure T rfl rfl rfl ?_
        refine AO.nil ?_
        refine AW.ret ?_
        cases someE hH
        exact ⟨trivial, _, [], rfl, .c (.c .v), by decide⟩
      | cons y2 ys3 =>
        rw [hd4] at hH
        rw [laws_eqLineS_l1] at hH
        have hlt6 := drop_lt hd4
        refine AW.seq ?_
        refine AW.seq ?_
        refine AW.region ?_
        refine AO.pure T rfl rfl rfl ?_
        refine AO.pure T rfl rfl rfl ?_
        refine AO.val rfl rfl (len_map_ok T rfl rfl rfl) ?_
        refine AO.pure T rfl rfl rfl ?_
        refine AO.nil ?_
        refine AW.condT' (b := decide ((k1 : Int) < (a.length : Int))) rfl (rngT hlt6) ?_
        refine AW.skip ?_
        refine AW.seq ?_
        refine AW.block ?_
        refine AW.seq ?_
        obtain ⟨x16, hx17, hH⟩ := bindE hH
        obtain ⟨x18, hx19, hH⟩ := bindE hH
        refine AW.drawn 8 1 [] mix (by kernel_rfl) rfl ?_
        refine AD.pure T rfl rfl rfl ?_
        refine AD.pure T rfl rfl rfl ?_
        refine AD.val rfl rfl (ix_map_ok T rfl rfl rfl rfl rfl (getI_drop hd4) rfl) ?_
        refine AD.pure T (d := .g [.v (.int .i64 y2.skater), .s (List.map encInt y2.events), .s (List.map encInt y2.points)]) rfl rfl rfl ?_
        refine AD.pure T rfl rfl rfl ?_
        refine AD.pure T rfl rfl rfl ?_
        refine AD.val rfl rfl (ix_map_ok T rfl rfl rfl rfl rfl (hx17) rfl) ?_
        refine AD.pure T (d := .g [.v (.int .i64 x16.skater), .s (List.map encInt x16.events), .s (List.map encInt x16.points)]) rfl rfl rfl ?_
        refine AD.nil ?_
        refine AO.val rfl rfl (callV_ok rfl rfl rfl rfl (laws_eqLine_ok _ _ _ (hx19)) rfl) ?_
        refine AO.pure T rfl rfl rfl ?_
        refine AO.nil ?_
        refine AW.cond (b := (!x18)) rfl (fun hc => ?_) (fun hc => ?_)
        · replace hH := condT hc hH
          refine AW.seq ?_
          refine AW.region ?_
          refine AO.pure T rfl rfl rfl ?_
          refine AO.nil ?_
          refine AW.ret ?_
          cases someE hH
          exact ⟨trivial, _, [], rfl, .c (.c .v), by decide⟩
        · replace hH := condF hc hH
          refine AW.skip ?_
          refine AW.region ?_
          refine AO.pure T rfl rfl rfl ?_
          refine AO.val rfl rfl (ar_ok rfl rfl rfl rfl (inI_succ hlt6 hb5)) ?_
          refine AO.pure T rfl rfl rfl ?_
          refine AO.nil ?_
          refine ⟨k1 + 1, ⟨Nat.succ_le_of_lt hlt6, (by rw [drop_succ_of hd4]; exact hH)⟩, (by have := hlt6; dsimp only; omega), ?_⟩
          exact Le.cut 0 0 rfl (by repeat' (first | exact trivial | refine ⟨⟨_, rfl, rfl⟩, ?_⟩)) (by repeat' (first | exact trivial | refine ⟨⟨_, rfl, rfl⟩, ?_⟩)) rfl

def laws_eqSeason_p (a : Season) (b : Season) : Option Bool :=
  cond (a.best != b.best)
    (some false)
    ((laws_eqLineS_p a.lines b.lines).bind fun x1 =>
    cond (!x1)
      (some false)
      (some true))
theorem laws_eqSeason_ok (a : Season) (b : Season) (r : Bool) (hH : laws_eqSeason_p a b = some r) : SpecR Try.prog 84 [.g (encSeason a), .g (encSeason b)] (.v (.bool r)) := by
  refine fn_ok T Try.func84 rfl (by decide) rfl ?_
  refine AW.seq ?_
  refine AW.region ?_
  refine AO.step rfl (box_ok T rfl 1 rfl rfl rfl rfl) ?_
  refine AO.step rfl (box_ok T rfl 2 rfl rfl rfl rfl) ?_
  refine AO.pure T rfl rfl rfl ?_
  refine AO.nil ?_
  refine AW.seq ?_
  refine AW.seq ?_
  refine AW.region ?_
  refine AO.pure T rfl rfl rfl ?_
  refine AO.pure T rfl rfl rfl ?_
  refine AO.pure T rfl rfl rfl ?_
  refine AO.pure T rfl rfl rfl ?_
  refine AO.pure T rfl rfl rfl ?_
  refine AO.nil ?_
  refine AW.cond (b := (a.best != b.best)) rfl (fun hc => ?_) (fun hc => ?_)
  · replace hH := condT hc hH
    refine AW.seq ?_
    refine AW.region ?_
    refine AO.pure T rfl rfl rfl ?_
    refine AO.nil ?_
    refine AW.ret ?_
    cases someE hH
    exact ⟨trivial, _, [], rfl, .c (.c .v), by decide⟩
  · replace hH := condF hc hH
    refine AW.skip ?_
    refine AW.seq ?_
    refine AW.seq ?_
    obtain ⟨x1, hx2, hH⟩ := bindE hH
    refine AW.region ?_
    refine AO.pure T rfl rfl rfl ?_
    refine AO.pure T rfl rfl rfl ?_
    refine AO.pure T rfl rfl rfl ?_
    refine AO.pure T rfl rfl rfl ?_
    refine AO.val rfl rfl (callV_ok rfl rfl rfl rfl (laws_eqLineS_ok _ _ _ (hx2)) rfl) ?_
    refine AO.pure T rfl rfl rfl ?_
    refine AO.nil ?_
    refine AW.cond (b := (!x1)) rfl (fun hc => ?_) (fun hc => ?_)
    · replace hH := condT hc hH
      refine AW.seq ?_
      refine AW.region ?_
      refine AO.pure T rfl rfl rfl ?_
      refine AO.nil ?_
      refine AW.ret ?_
      cases someE hH
      exact ⟨trivial, _, [], rfl, .c (.c .v), by decide⟩
    · replace hH := condF hc hH
      refine AW.skip ?_
      refine AW.seq ?_
      refine AW.region ?_
      refine AO.pure T rfl rfl rfl ?_
      refine AO.nil ?_
      refine AW.ret ?_
      cases someE hH
      exact ⟨trivial, _, [], rfl, .c (.c .v), by decide⟩

def laws_eqSeasonS_l1 (b : List Season) : List Season → Nat → Option Bool
  | [], k1 =>
    some true
  | y2 :: ys3, k1 =>
    (getI b (k1 : Int)).bind fun x16 =>
    (laws_eqSeason_p y2 x16).bind fun x18 =>
    cond (!x18)
      (some false)
      (laws_eqSeasonS_l1 b ys3 (k1 + 1))
def laws_eqSeasonS_p (a : List Season) (b : List Season) : Option Bool :=
  cond ((a.length : Int) != (b.length : Int))
    (some false)
    (laws_eqSeasonS_l1 b a 0)
theorem laws_eqSeasonS_ok (a : List Season) (b : List Season) (r : Bool) (hH : laws_eqSeasonS_p a b = some r) : SpecR Try.prog 53 [.s (List.map encSeason a), .s (List.map encSeason b)] (.v (.bool r)) := by
  refine fn_ok T Try.func53 rfl (by decide) rfl ?_
  refine AW.seq ?_
  refine AW.region ?_
  refine AO.pure T rfl rfl rfl ?_
  refine AO.nil ?_
  refine AW.seq ?_
  refine AW.seq ?_
  refine AW.region ?_
  refine AO.pure T rfl rfl rfl ?_
  refine AO.val rfl rfl (len_map_ok T rfl rfl rfl) ?_
  refine AO.pure T rfl rfl rfl ?_
  refine AO.val rfl rfl (len_map_ok T rfl rfl rfl) ?_
  refine AO.pure T rfl rfl rfl ?_
  refine AO.nil ?_
  refine AW.cond (b := ((a.length : Int) != (b.length : Int))) rfl (fun hc => ?_) (fun hc => ?_)
  · replace hH := condT hc hH
    refine AW.seq ?_
    refine AW.region ?_
    refine AO.pure T rfl rfl rfl ?_
    refine AO.nil ?_
    refine AW.ret ?_
    cases someE hH
    exact ⟨trivial, _, [], rfl, .c (.c .v), by decide⟩
  · replace hH := condF hc hH
    refine AW.skip ?_
    refine AW.seq ?_
    refine AW.seq ?_
    refine AW.region ?_
    refine AO.pure T rfl rfl rfl ?_
    refine AO.nil ?_
    refine AW.block ?_
    refine AW.loopS (fun s : Nat => (⟨[(0, .s (List.map encSeason a)), (1, .s (List.map encSeason b)), (5, .v (.int .i64 (s : Int)))], [], 27, []⟩ : St)) (fun s => s ≤ a.length ∧ laws_eqSeasonS_l1 b (a.drop s) s = some r) (fun s => a.length - s) 0 ⟨Nat.zero_le _, hH⟩ ?_ ?_
    · exact Le.cut 0 0 rfl (by repeat' (first | exact trivial | refine ⟨⟨_, rfl, rfl⟩, ?_⟩)) (by repeat' (first | exact trivial | refine ⟨⟨_, rfl, rfl⟩, ?_⟩)) rfl
    · rintro k1 ⟨hk, hH⟩
      replace hH : laws_eqSeasonS_l1 b (a.drop k1) k1 = some r := hH
      show AW _ _ _ (⟨[(0, .s (List.map encSeason a)), (1, .s (List.map encSeason b)), (5, .v (.int .i64 (k1 : Int)))], [], 27, []⟩ : St)
      refine AW.boundM (t := 0) (l := a) rfl (fun hb5 => ?_)
      cases hd4 : a.drop k1 with
      | nil =>
        rw [hd4] at hH
        rw [laws_eqSeasonS_l1] at hH
        have hlt6 := drop_ge hd4
        refine AW.seq ?_
        refine AW.seq ?_
        refine AW.region ?_
        refine AO.pure T rfl rfl rfl ?_
        refine AO.pure T rfl rfl rfl ?_
        refine AO.val rfl rfl (len_map_ok T rfl rfl rfl) ?_
        refine AO.pure T rfl rfl rfl ?_
        refine AO.nil ?_
        refine AW.condF' (b := decide ((k1 : Int) < (a.length : Int))) rfl (rngF hlt6) ?_
        refine AW.exit ?_
        refine AW.seq ?_
        refine AW.region ?_
        refine AO.pure T rfl rfl rfl ?_
        refine AO.nil ?_
        refine AW.ret ?_
        cases someE hH
        exact ⟨trivial, _, [], rfl, .c (.c .v), by decide⟩
      | cons y2 ys3 =>
        rw [hd4] at hH
        rw [laws_eqSeasonS_l1] at hH
        have hlt6 := drop_lt hd4
        refine AW.seq ?_
        refine AW.seq ?_
        refine AW.region ?_
        refine AO.pure T rfl rfl rfl ?_
        refine AO.pure T rfl rfl rfl ?_
        refine AO.val rfl rfl (len_map_ok T rfl rfl rfl) ?_
        refine AO.pure T rfl rfl rfl ?_
        refine AO.nil ?_
        refine AW.condT' (b := decide ((k1 : Int) < (a.length : Int))) rfl (rngT hlt6) ?_
        refine AW.skip ?_
        refine AW.seq ?_
        refine AW.block ?_
        refine AW.seq ?_
        obtain ⟨x16, hx17, hH⟩ := bindE hH
        obtain ⟨x18, hx19, hH⟩ := bindE hH
        refine AW.drawn 8 1 [] mix (by kernel_rfl) rfl ?_
        refine AD.pure T rfl rfl rfl ?_
        refine AD.pure T rfl rfl rfl ?_
        refine AD.val rfl rfl (ix_map_ok T rfl rfl rfl rfl rfl (getI_drop hd4) rfl) ?_
        refine AD.pure T (d := .g [.v (.int .i64 y2.best), .s (List.map encLine y2.lines)]) rfl rfl rfl ?_
        refine AD.pure T rfl rfl rfl ?_
        refine AD.pure T rfl rfl rfl ?_
        refine AD.val rfl rfl (ix_map_ok T rfl rfl rfl rfl rfl (hx17) rfl) ?_
        refine AD.pure T (d := .g [.v (.int .i64 x16.best), .s (List.map encLine x16.lines)]) rfl rfl rfl ?_
        refine AD.nil ?_
        refine AO.val rfl rfl (callV_ok rfl rfl rfl rfl (laws_eqSeason_ok _ _ _ (hx19)) rfl) ?_
        refine AO.pure T rfl rfl rfl ?_
        refine AO.nil ?_
        refine AW.cond (b := (!x18)) rfl (fun hc => ?_) (fun hc => ?_)
        · replace hH := condT hc hH
          refine AW.seq ?_
          refine AW.region ?_
          refine AO.pure T rfl rfl rfl ?_
          refine AO.nil ?_
          refine AW.ret ?_
          cases someE hH
          exact ⟨trivial, _, [], rfl, .c (.c .v), by decide⟩
        · replace hH := condF hc hH
          refine AW.skip ?_
          refine AW.region ?_
          refine AO.pure T rfl rfl rfl ?_
          refine AO.val rfl rfl (ar_ok rfl rfl rfl rfl (inI_succ hlt6 hb5)) ?_
          refine AO.pure T rfl rfl rfl ?_
          refine AO.nil ?_
          refine ⟨k1 + 1, ⟨Nat.succ_le_of_lt hlt6, (by rw [drop_succ_of hd4]; exact hH)⟩, (by have := hlt6; dsimp only; omega), ?_⟩
          exact Le.cut 0 0 rfl (by repeat' (first | exact trivial | refine ⟨⟨_, rfl, rfl⟩, ?_⟩)) (by repeat' (first | exact trivial | refine ⟨⟨_, rfl, rfl⟩, ?_⟩)) rfl

def laws_eqWorld_p (a : World) (b : World) : Option Bool :=
  (laws_eqSeasonS_p a.seasons b.seasons).bind fun x1 =>
  cond (!x1)
    (some false)
    ((laws_eqIntS_p a.weights b.weights).bind fun x3 =>
    cond (!x3)
      (some false)
      (some true))
theorem laws_eqWorld_ok (a : World) (b : World) (r : Bool) (hH : laws_eqWorld_p a b = some r) : SpecR Try.prog 16 [.g (encWorld a), .g (encWorld b)] (.v (.bool r)) := by
  refine fn_ok T Try.func16 rfl (by decide) rfl ?_
  refine AW.seq ?_
  refine AW.region ?_
  refine AO.step rfl (box_ok T rfl 1 rfl rfl rfl rfl) ?_
  refine AO.step rfl (box_ok T rfl 2 rfl rfl rfl rfl) ?_
  refine AO.pure T rfl rfl rfl ?_
  refine AO.nil ?_
  refine AW.seq ?_
  refine AW.seq ?_
  obtain ⟨x1, hx2, hH⟩ := bindE hH
  refine AW.region ?_
  refine AO.pure T rfl rfl rfl ?_
  refine AO.pure T rfl rfl rfl ?_
  refine AO.pure T rfl rfl rfl ?_
  refine AO.pure T rfl rfl rfl ?_
  refine AO.val rfl rfl (callV_ok rfl rfl rfl rfl (laws_eqSeasonS_ok _ _ _ (hx2)) rfl) ?_
  refine AO.pure T rfl rfl rfl ?_
  refine AO.nil ?_
  refine AW.cond (b := (!x1)) rfl (fun hc => ?_) (fun hc => ?_)
  · replace hH := condT hc hH
    refine AW.seq ?_
    refine AW.region ?_
    refine AO.pure T rfl rfl rfl ?_
    refine AO.nil ?_
    refine AW.ret ?_
    cases someE hH
    exact ⟨trivial, _, [], rfl, .c (.c .v), by decide⟩
  · replace hH := condF hc hH
    refine AW.skip ?_
    refine AW.seq ?_
    refine AW.seq ?_
    obtain ⟨x3, hx4, hH⟩ := bindE hH
    refine AW.region ?_
    refine AO.pure T rfl rfl rfl ?_
    refine AO.pure T rfl rfl rfl ?_
    refine AO.pure T rfl rfl rfl ?_
    refine AO.pure T rfl rfl rfl ?_
    refine AO.val rfl rfl (callV_ok rfl rfl rfl rfl (laws_eqIntS_ok _ _ _ (hx4)) rfl) ?_
    refine AO.pure T rfl rfl rfl ?_
    refine AO.nil ?_
    refine AW.cond (b := (!x3)) rfl (fun hc => ?_) (fun hc => ?_)
    · replace hH := condT hc hH
      refine AW.seq ?_
      refine AW.region ?_
      refine AO.pure T rfl rfl rfl ?_
      refine AO.nil ?_
      refine AW.ret ?_
      cases someE hH
      exact ⟨trivial, _, [], rfl, .c (.c .v), by decide⟩
    · replace hH := condF hc hH
      refine AW.skip ?_
      refine AW.seq ?_
      refine AW.region ?_
      refine AO.pure T rfl rfl rfl ?_
      refine AO.nil ?_
      refine AW.ret ?_
      cases someE hH
      exact ⟨trivial, _, [], rfl, .c (.c .v), by decide⟩

def laws_markIntS_l1 : Nat → List Int → Int → Int → Option (((List Int) × Int))
  | 0, _, _, _ => none
  | k1 + 1, v9, v10, v11 =>
    cond (decide (v11 < (v9.length : Int)))
      ((getI v9 v11).bind fun x13 =>
      laws_markIntS_l1 k1 (v9.set v11.toNat v10) (w64 (v10 + 1)) (w64 (v11 + 1)))
      (some (v9, v10))
def laws_markIntS_p (fuel : Nat) (a : List Int) (k : Int) : Option ((List Int) × Int) :=
  laws_markIntS_l1 fuel a k 0
theorem laws_markIntS_ok (fuel : Nat) (a : List Int) (k : Int) (r : ((List Int) × Int)) (hH : laws_markIntS_p fuel a k = some r) : SpecM Try.prog 21 [.w 1 (a.map encInt), .v (.int .i64 k)] [.w 1 (r.1.map encInt), .u] (.v (.int .i64 r.2)) := by
  refine fn_okM T Try.func21 rfl (by decide) rfl rfl ?_
  intro L
  show AW _ _ _ (⟨[(0, .R 1), (1, .v (.int .i64 k))], [(1, .row 1 (List.map encInt a))], 19, [(1, L 1)]⟩ : St)
  refine AW.seq ?_
  refine AW.region ?_
  refine AO.pure T rfl rfl rfl ?_
  refine AO.nil ?_
  refine AW.seq ?_
  refine AW.seq ?_
  refine AW.region ?_
  refine AO.pure T rfl rfl rfl ?_
  refine AO.nil ?_
  refine AW.block ?_
  refine AW.loopS (fun s : Nat × (List Int) × Int × Int => (⟨[(0, .R 1), (1, .v (.int .i64 s.2.2.1)), (5, .v (.int .i64 s.2.2.2))], [(1, .row 1 (List.map encInt s.2.1))], 19, [(1, L 1)]⟩ : St)) (fun s => laws_markIntS_l1 s.1 s.2.1 s.2.2.1 s.2.2.2 = some r) (fun s => s.1) (fuel, a, k, 0) hH ?_ ?_
  · exact Le.cut 0 0 rfl (by repeat' (first | exact trivial | refine ⟨⟨_, rfl, rfl⟩, ?_⟩)) (by repeat' (first | exact trivial | refine ⟨⟨_, rfl, rfl⟩, ?_⟩)) rfl ⟨⟨rfl, rfl⟩, trivial⟩
  · rintro ⟨k1, v9, v10, v11⟩ hH
    replace hH : laws_markIntS_l1 k1 v9 v10 v11 = some r := hH
    show AW _ _ _ (⟨[(0, .R 1), (1, .v (.int .i64 v10)), (5, .v (.int .i64 v11))], [(1, .row 1 (List.map encInt v9))], 19, [(1, L 1)]⟩ : St)
    cases k1 with
    | zero => cases (show none = some _ from hH)
    | succ k1 =>
      rw [laws_markIntS_l1] at hH
      refine AW.seq ?_
      refine AW.seq ?_
      refine AW.region ?_
      refine AO.pure T rfl rfl rfl ?_
      refine AO.pure T rfl rfl rfl ?_
      refine AO.val rfl rfl (len_row_ok T rfl rfl rfl rfl) ?_
      refine AO.pure T rfl rfl rfl ?_
      refine AO.nil ?_
      refine AW.cond (b := decide (v11 < (v9.length : Int))) rfl (fun hc => ?_) (fun hc => ?_)
      · replace hH := condT hc hH
        refine AW.skip ?_
        refine AW.seq ?_
        refine AW.block ?_
        refine AW.seq ?_
        obtain ⟨x13, hx14, hH⟩ := bindE hH
        refine AW.region ?_
        refine AO.pure T rfl rfl rfl ?_
        refine AO.pure T rfl rfl rfl ?_
        refine AO.pure T rfl rfl rfl ?_
        refine AO.val rfl rfl (ix_row_ok T rfl rfl rfl rfl rfl rfl (hx14)) ?_
        refine AO.step rfl (store_row_ok T rfl rfl rfl rfl rfl (getI_get (hx14)) rfl rfl rfl rfl (u' := v10) rfl rfl) ?_
        refine AO.nil ?_
        refine AW.region ?_
        refine AO.pure T rfl rfl rfl ?_
        refine AO.val rfl rfl (arw_ok rfl rfl rfl rfl) ?_
        refine AO.pure T rfl rfl rfl ?_
        refine AO.nil ?_
        refine AW.region ?_
        refine AO.pure T rfl rfl rfl ?_
        refine AO.val rfl rfl (arw_ok rfl rfl rfl rfl) ?_
        refine AO.pure T rfl rfl rfl ?_
        refine AO.nil ?_
        refine ⟨(k1, (v9.set v11.toNat v10), w64 (v10 + 1), w64 (v11 + 1)), hH, Nat.lt_succ_self _, ?_⟩
        exact Le.cut 0 0 rfl (by repeat' (first | exact trivial | refine ⟨⟨_, rfl, rfl⟩, ?_⟩)) (by repeat' (first | exact trivial | refine ⟨⟨_, rfl, rfl⟩, ?_⟩)) rfl ⟨⟨rfl, rfl⟩, trivial⟩
      · replace hH := condF hc hH
        refine AW.exit ?_
        refine AW.seq ?_
        refine AW.region ?_
        refine AO.pure T rfl rfl rfl ?_
        refine AO.pure T rfl rfl rfl ?_
        refine AO.nil ?_
        refine AW.ret ?_
        cases someE hH
        exact ⟨trivial, rfl, _, [], [1], rfl, expLG_cons (.c (.rowR rfl)) (expLG_cons (.c .u) (expLG_nil)), .c (.c .v), by decide⟩

def laws_markLineS_l1 (fuel : Nat) : Nat → List Line → Int → Int → Option (((List Line) × Int))
  | 0, _, _, _ => none
  | k1 + 1, v25, v26, v27 =>
    cond (decide (v27 < (v25.length : Int)))
      ((getI v25 v27).bind fun x29 =>
      (getI (v25.set v27.toNat (Line.mk v26 x29.events x29.points)) v27).bind fun x31 =>
      (laws_markIntS_p fuel x31.events (w64 (v26 + 1))).bind fun x33 =>
      (getI ((v25.set v27.toNat (Line.mk v26 x29.events x29.points)).set v27.toNat (Line.mk x31.skater x33.1 x31.points)) v27).bind fun x35 =>
      (laws_markIntS_p fuel x35.points x33.2).bind fun x37 =>
      laws_markLineS_l1 fuel k1 (((v25.set v27.toNat (Line.mk v26 x29.events x29.points)).set v27.toNat (Line.mk x31.skater x33.1 x31.points)).set v27.toNat (Line.mk x35.skater x35.events x37.1)) x37.2 (w64 (v27 + 1)))
      (some (v25, v26))
def laws_markLineS_p (fuel : Nat) (a : List Line) (k : Int) : Option ((List Line) × Int) :=
  laws_markLineS_l1 fuel fuel a k 0
theorem laws_markLineS_ok (fuel : Nat) (a : List Line) (k : Int) (r : ((List Line) × Int)) (hH : laws_markLineS_p fuel a k = some r) : SpecM Try.prog 91 [.w 3 (a.map encLineO), .v (.int .i64 k)] [.w 3 (r.1.map encLineO), .u] (.v (.int .i64 r.2)) := by
  refine fn_okM T Try.func91 rfl (by decide) rfl rfl ?_
  intro L
  show AW _ _ _ (⟨[(0, .R 1), (1, .v (.int .i64 k))], [(1, .row 3 (List.map encLineO a))], 34, [(1, L 1)]⟩ : St)
  refine AW.seq ?_
  refine AW.region ?_
  refine AO.pure T rfl rfl rfl ?_
  refine AO.nil ?_
  refine AW.seq ?_
  refine AW.seq ?_
  refine AW.region ?_
  refine AO.pure T rfl rfl rfl ?_
  refine AO.nil ?_
  refine AW.block ?_
  refine AW.loopS (fun s : Nat × (List Line) × Int × Int => (⟨[(0, .R 1), (1, .v (.int .i64 s.2.2.1)), (5, .v (.int .i64 s.2.2.2))], [(1, .row 3 (List.map encLineO s.2.1))], 34, [(1, L 1)]⟩ : St)) (fun s => laws_markLineS_l1 fuel s.1 s.2.1 s.2.2.1 s.2.2.2 = some r) (fun s => s.1) (fuel, a, k, 0) hH ?_ ?_
  · exact Le.cut 0 0 rfl (by repeat' (first | exact trivial | refine ⟨⟨_, rfl, rfl⟩, ?_⟩)) (by repeat' (first | exact trivial | refine ⟨⟨_, rfl, rfl⟩, ?_⟩)) rfl ⟨⟨rfl, rfl⟩, trivial⟩
  · rintro ⟨k1, v25, v26, v27⟩ hH
    replace hH : laws_markLineS_l1 fuel k1 v25 v26 v27 = some r := hH
    show AW _ _ _ (⟨[(0, .R 1), (1, .v (.int .i64 v26)), (5, .v (.int .i64 v27))], [(1, .row 3 (List.map encLineO v25))], 34, [(1, L 1)]⟩ : St)
    cases k1 with
    | zero => cases (show none = some _ from hH)
    | succ k1 =>
      rw [laws_markLineS_l1] at hH
      refine AW.seq ?_
      refine AW.seq ?_
      refine AW.region ?_
      refine AO.pure T rfl rfl rfl ?_
      refine AO.pure T rfl rfl rfl ?_
      refine AO.val rfl rfl (len_row_ok T rfl rfl rfl rfl) ?_
      refine AO.pure T rfl rfl rfl ?_
      refine AO.nil ?_
      refine AW.cond (b := decide (v27 < (v25.length : Int))) rfl (fun hc => ?_) (fun hc => ?_)
      · replace hH := condT hc hH
        refine AW.skip ?_
        refine AW.seq ?_
        refine AW.block ?_
        refine AW.seq ?_
        obtain ⟨x29, hx30, hH⟩ := bindE hH
        refine AW.region ?_
        refine AO.pure T rfl rfl rfl ?_
        refine AO.pure T rfl rfl rfl ?_
        refine AO.pure T rfl rfl rfl ?_
        refine AO.val rfl rfl (ix_row_ok T rfl rfl rfl rfl rfl rfl (hx30)) ?_
        refine AO.pure T rfl rfl rfl ?_
        refine AO.step rfl (store_row_ok T rfl rfl rfl rfl rfl (getI_get (hx30)) rfl rfl rfl rfl (u' := (Line.mk v26 x29.events x29.points)) rfl rfl) ?_
        refine AO.nil ?_
        refine AW.seq ?_
        refine AW.region ?_
        refine AO.pure T rfl rfl rfl ?_
        refine AO.val rfl rfl (arw_ok rfl rfl rfl rfl) ?_
        refine AO.pure T rfl rfl rfl ?_
        refine AO.nil ?_
        refine AW.seq ?_
        obtain ⟨x31, hx32, hH⟩ := bindE hH
        obtain ⟨x33, hx34, hH⟩ := bindE hH
        refine AW.le (Le.openM 1 v27.toNat 1 6 rfl (getI_get (hx32)) rfl rfl) ?_
        refine AW.region ?_
        refine AO.pure T rfl rfl rfl ?_
        refine AO.pure T rfl rfl rfl ?_
        refine AO.val rfl rfl (ix_lent_ok T rfl rfl rfl rfl rfl rfl (hx32)) ?_
        refine AO.pure T rfl rfl rfl ?_
        refine AO.val rfl rfl (load_lent_ok T rfl rfl rfl rfl rfl) ?_
        refine AO.pure T rfl rfl rfl ?_
        refine AO.step rfl (callM_ok rfl 7 rfl rfl (es := [.w 1 (x31.events.map encInt), .v (.int .i64 (w64 (v26 + 1)))]) (outs := [.w 1 (x33.1.map encInt), .u]) (ids := [6]) (by exact expLG_cons (.c (.rowR rfl)) (expLG_cons (.c .v) (expLG_nil))) (by decide) (.inl (by rfl)) (by rfl) (laws_markIntS_ok fuel _ _ _ (hx34)) rfl (by rfl) rfl) ?_
        refine AO.pure T rfl rfl rfl ?_
        refine AO.le (Le.closeM 1 v27.toNat 1 6 rfl rfl (getI_get (hx32)) rfl (u' := (Line.mk x31.skater x33.1 x31.points)) rfl) ?_
        refine AO.nil ?_
        obtain ⟨x35, hx36, hH⟩ := bindE hH
        obtain ⟨x37, hx38, hH⟩ := bindE hH
        refine AW.le (Le.openM 1 v27.toNat 2 7 rfl (getI_get (hx36)) rfl rfl) ?_
        refine AW.region ?_
        refine AO.pure T rfl rfl rfl ?_
        refine AO.pure T rfl rfl rfl ?_
        refine AO.val rfl rfl (ix_lent_ok T rfl rfl rfl rfl rfl rfl (hx36)) ?_
        refine AO.pure T rfl rfl rfl ?_
        refine AO.val rfl rfl (load_lent_ok T rfl rfl rfl rfl rfl) ?_
        refine AO.pure T rfl rfl rfl ?_
        refine AO.step rfl (callM_ok rfl 8 rfl rfl (es := [.w 1 (x35.points.map encInt), .v (.int .i64 x33.2)]) (outs := [.w 1 (x37.1.map encInt), .u]) (ids := [7]) (by exact expLG_cons (.c (.rowR rfl)) (expLG_cons (.c .v) (expLG_nil))) (by decide) (.inl (by rfl)) (by rfl) (laws_markIntS_ok fuel _ _ _ (hx38)) rfl (by rfl) rfl) ?_
        refine AO.pure T rfl rfl rfl ?_
        refine AO.le (Le.closeM 1 v27.toNat 2 7 rfl rfl (getI_get (hx36)) rfl (u' := (Line.mk x35.skater x35.events x37.1)) rfl) ?_
        refine AO.nil ?_
        refine AW.le (Le.cut 0 0 (σ' := (⟨[(0, .R 1), (1, .v (.int .i64 x37.2)), (5, .v (.int .i64 v27))], [(1, .row 3 (List.map encLineO (((v25.set v27.toNat (Line.mk v26 x29.events x29.points)).set v27.toNat (Line.mk x31.skater x33.1 x31.points)).set v27.toNat (Line.mk x35.skater x35.events x37.1))))], 34, [(1, L 1)]⟩ : St)) rfl (by repeat' (first | exact trivial | refine ⟨⟨_, rfl, rfl⟩, ?_⟩)) (by repeat' (first | exact trivial | refine ⟨⟨_, rfl, rfl⟩, ?_⟩)) rfl ⟨⟨rfl, rfl⟩, trivial⟩) ?_
        refine AW.region ?_
        refine AO.pure T rfl rfl rfl ?_
        refine AO.val rfl rfl (arw_ok rfl rfl rfl rfl) ?_
        refine AO.pure T rfl rfl rfl ?_
        refine AO.nil ?_
        refine ⟨(k1, (((v25.set v27.toNat (Line.mk v26 x29.events x29.points)).set v27.toNat (Line.mk x31.skater x33.1 x31.points)).set v27.toNat (Line.mk x35.skater x35.events x37.1)), x37.2, w64 (v27 + 1)), hH, Nat.lt_succ_self _, ?_⟩
        exact Le.cut 0 0 rfl (by repeat' (first | exact trivial | refine ⟨⟨_, rfl, rfl⟩, ?_⟩)) (by repeat' (first | exact trivial | refine ⟨⟨_, rfl, rfl⟩, ?_⟩)) rfl ⟨⟨rfl, rfl⟩, trivial⟩
      · replace hH := condF hc hH
        refine AW.exit ?_
        refine AW.seq ?_
        refine AW.region ?_
        refine AO.pure T rfl rfl rfl ?_
        refine AO.pure T rfl rfl rfl ?_
        refine AO.nil ?_
        refine AW.ret ?_
        cases someE hH
        exact ⟨trivial, rfl, _, [], [1], rfl, expLG_cons (.c (.rowR rfl)) (expLG_cons (.c .u) (expLG_nil)), .c (.c .v), by decide⟩

def laws_markSeasonS_l1 (fuel : Nat) : Nat → List Season → Int → Int → Option (((List Season) × Int))
  | 0, _, _, _ => none
  | k1 + 1, v17, v18, v19 =>
    cond (decide (v19 < (v17.length : Int)))
      ((getI v17 v19).bind fun x21 =>
      (getI (v17.set v19.toNat (Season.mk v18 x21.lines)) v19).bind fun x23 =>
      (laws_markLineS_p fuel x23.lines (w64 (v18 + 1))).bind fun x25 =>
      laws_markSeasonS_l1 fuel k1 ((v17.set v19.toNat (Season.mk v18 x21.lines)).set v19.toNat (Season.mk x23.best x25.1)) x25.2 (w64 (v19 + 1)))
      (some (v17, v18))
def laws_markSeasonS_p (fuel : Nat) (a : List Season) (k : Int) : Option ((List Season) × Int) :=
  laws_markSeasonS_l1 fuel fuel a k 0
theorem laws_markSeasonS_ok (fuel : Nat) (a : List Season) (k : Int) (r : ((List Season) × Int)) (hH : laws_markSeasonS_p fuel a k = some r) : SpecM Try.prog 58 [.w 2 (a.map encSeasonO), .v (.int .i64 k)] [.w 2 (r.1.map encSeasonO), .u] (.v (.int .i64 r.2)) := by
  refine fn_okM T Try.func58 rfl (by decide) rfl rfl ?_
  intro L
  show AW _ _ _ (⟨[(0, .R 1), (1, .v (.int .i64 k))], [(1, .row 2 (List.map encSeasonO a))], 27, [(1, L 1)]⟩ : St)
  refine AW.seq ?_
  refine AW.region ?_
  refine AO.pure T rfl rfl rfl ?_
  refine AO.nil ?_
  refine AW.seq ?_
  refine AW.seq ?_
  refine AW.region ?_
  refine AO.pure T rfl rfl rfl ?_
  refine AO.nil ?_
  refine AW.block ?_
  refine AW.loopS (fun s : Nat × (List Season) × Int × Int => (⟨[(0, .R 1), (1, .v (.int .i64 s.2.2.1)), (5, .v (.int .i64 s.2.2.2))], [(1, .row 2 (List.map encSeasonO s.2.1))], 27, [(1, L 1)]⟩ : St)) (fun s => laws_markSeasonS_l1 fuel s.1 s.2.1 s.2.2.1 s.2.2.2 = some r) (fun s => s.1) (fuel, a, k, 0) hH ?_ ?_
  · exact Le.cut 0 0 rfl (by repeat' (first | exact trivial | refine ⟨⟨_, rfl, rfl⟩, ?_⟩)) (by repeat' (first | exact trivial | refine ⟨⟨_, rfl, rfl⟩, ?_⟩)) rfl ⟨⟨rfl, rfl⟩, trivial⟩
  · rintro ⟨k1, v17, v18, v19⟩ hH
    replace hH : laws_markSeasonS_l1 fuel k1 v17 v18 v19 = some r := hH
    show AW _ _ _ (⟨[(0, .R 1), (1, .v (.int .i64 v18)), (5, .v (.int .i64 v19))], [(1, .row 2 (List.map encSeasonO v17))], 27, [(1, L 1)]⟩ : St)
    cases k1 with
    | zero => cases (show none = some _ from hH)
    | succ k1 =>
      rw [laws_markSeasonS_l1] at hH
      refine AW.seq ?_
      refine AW.seq ?_
      refine AW.region ?_
      refine AO.pure T rfl rfl rfl ?_
      refine AO.pure T rfl rfl rfl ?_
      refine AO.val rfl rfl (len_row_ok T rfl rfl rfl rfl) ?_
      refine AO.pure T rfl rfl rfl ?_
      refine AO.nil ?_
      refine AW.cond (b := decide (v19 < (v17.length : Int))) rfl (fun hc => ?_) (fun hc => ?_)
      · replace hH := condT hc hH
        refine AW.skip ?_
        refine AW.seq ?_
        refine AW.block ?_
        refine AW.seq ?_
        obtain ⟨x21, hx22, hH⟩ := bindE hH
        refine AW.region ?_
        refine AO.pure T rfl rfl rfl ?_
        refine AO.pure T rfl rfl rfl ?_
        refine AO.pure T rfl rfl rfl ?_
        refine AO.val rfl rfl (ix_row_ok T rfl rfl rfl rfl rfl rfl (hx22)) ?_
        refine AO.pure T rfl rfl rfl ?_
        refine AO.step rfl (store_row_ok T rfl rfl rfl rfl rfl (getI_get (hx22)) rfl rfl rfl rfl (u' := (Season.mk v18 x21.lines)) rfl rfl) ?_
        refine AO.nil ?_
        refine AW.seq ?_
        refine AW.region ?_
        refine AO.pure T rfl rfl rfl ?_
        refine AO.val rfl rfl (arw_ok rfl rfl rfl rfl) ?_
        refine AO.pure T rfl rfl rfl ?_
        refine AO.nil ?_
        obtain ⟨x23, hx24, hH⟩ := bindE hH
        obtain ⟨x25, hx26, hH⟩ := bindE hH
        refine AW.le (Le.openM 1 v19.toNat 1 4 rfl (getI_get (hx24)) rfl rfl) ?_
        refine AW.region ?_
        refine AO.pure T rfl rfl rfl ?_
        refine AO.pure T rfl rfl rfl ?_
        refine AO.val rfl rfl (ix_lent_ok T rfl rfl rfl rfl rfl rfl (hx24)) ?_
        refine AO.pure T rfl rfl rfl ?_
        refine AO.val rfl rfl (load_lent_ok T rfl rfl rfl rfl rfl) ?_
        refine AO.pure T rfl rfl rfl ?_
        refine AO.step rfl (callM_ok rfl 5 rfl rfl (es := [.w 3 (x23.lines.map encLineO), .v (.int .i64 (w64 (v18 + 1)))]) (outs := [.w 3 (x25.1.map encLineO), .u]) (ids := [4]) (by exact expLG_cons (.c (.rowR rfl)) (expLG_cons (.c .v) (expLG_nil))) (by decide) (.inl (by rfl)) (by rfl) (laws_markLineS_ok fuel _ _ _ (hx26)) rfl (by rfl) rfl) ?_
        refine AO.pure T rfl rfl rfl ?_
        refine AO.le (Le.closeM 1 v19.toNat 1 4 rfl rfl (getI_get (hx24)) rfl (u' := (Season.mk x23.best x25.1)) rfl) ?_
        refine AO.nil ?_
        refine AW.region ?_
        refine AO.pure T rfl rfl rfl ?_
        refine AO.val rfl rfl (arw_ok rfl rfl rfl rfl) ?_
        refine AO.pure T rfl rfl rfl ?_
        refine AO.nil ?_
        refine ⟨(k1, ((v17.set v19.toNat (Season.mk v18 x21.lines)).set v19.toNat (Season.mk x23.best x25.1)), x25.2, w64 (v19 + 1)), hH, Nat.lt_succ_self _, ?_⟩
        exact Le.cut 0 0 rfl (by repeat' (first | exact trivial | refine ⟨⟨_, rfl, rfl⟩, ?_⟩)) (by repeat' (first | exact trivial | refine ⟨⟨_, rfl, rfl⟩, ?_⟩)) rfl ⟨⟨rfl, rfl⟩, trivial⟩
      · replace hH := condF hc hH
        refine AW.exit ?_
        refine AW.seq ?_
        refine AW.region ?_
        refine AO.pure T rfl rfl rfl ?_
        refine AO.pure T rfl rfl rfl ?_
        refine AO.nil ?_
        refine AW.ret ?_
        cases someE hH
        exact ⟨trivial, rfl, _, [], [1], rfl, expLG_cons (.c (.rowR rfl)) (expLG_cons (.c .u) (expLG_nil)), .c (.c .v), by decide⟩

def laws_markWorld_p (fuel : Nat) (a : World) (k : Int) : Option (World × Int) :=
  (laws_markSeasonS_p fuel a.seasons k).bind fun x1 =>
  (laws_markIntS_p fuel a.weights x1.2).bind fun x3 =>
  some ((World.mk x1.1 x3.1), x3.2)
theorem laws_markWorld_ok (fuel : Nat) (a : World) (k : Int) (r : (World × Int)) (hH : laws_markWorld_p fuel a k = some r) : SpecM Try.prog 20 [.g (encWorldO a), .v (.int .i64 k)] [.g [.w 2 (r.1.seasons.map encSeasonO), .w 1 (r.1.weights.map encInt)], .u] (.v (.int .i64 r.2)) := by
  refine fn_okM T Try.func20 rfl (by decide) rfl rfl ?_
  intro L
  show AW _ _ _ (⟨[(0, .g [.R 1, .R 2]), (1, .v (.int .i64 k))], [(2, .row 1 (List.map encInt a.weights)), (1, .row 2 (List.map encSeasonO a.seasons))], 14, [(2, L 2), (1, L 1)]⟩ : St)
  refine AW.seq ?_
  refine AW.region ?_
  refine AO.step rfl (box_ok T rfl 3 rfl rfl rfl rfl) ?_
  refine AO.pure T rfl rfl rfl ?_
  refine AO.nil ?_
  refine AW.seq ?_
  obtain ⟨x1, hx2, hH⟩ := bindE hH
  refine AW.region ?_
  refine AO.pure T rfl rfl rfl ?_
  refine AO.pure T rfl rfl rfl ?_
  refine AO.pure T rfl rfl rfl ?_
  refine AO.step rfl (callM_ok rfl 4 rfl rfl (es := [.w 2 (a.seasons.map encSeasonO), .v (.int .i64 k)]) (outs := [.w 2 (x1.1.map encSeasonO), .u]) (ids := [1]) (by exact expLG_cons (.c (.rowR rfl)) (expLG_cons (.c .v) (expLG_nil))) (by decide) (.inl (by rfl)) (by rfl) (laws_markSeasonS_ok fuel _ _ _ (hx2)) rfl (by rfl) rfl) ?_
  refine AO.pure T rfl rfl rfl ?_
  refine AO.nil ?_
  refine AW.seq ?_
  obtain ⟨x3, hx4, hH⟩ := bindE hH
  refine AW.region ?_
  refine AO.pure T rfl rfl rfl ?_
  refine AO.pure T rfl rfl rfl ?_
  refine AO.pure T rfl rfl rfl ?_
  refine AO.step rfl (callM_ok rfl 4 rfl rfl (es := [.w 1 (a.weights.map encInt), .v (.int .i64 x1.2)]) (outs := [.w 1 (x3.1.map encInt), .u]) (ids := [2]) (by exact expLG_cons (.c (.rowR rfl)) (expLG_cons (.c .v) (expLG_nil))) (by decide) (.inl (by rfl)) (by rfl) (laws_markIntS_ok fuel _ _ _ (hx4)) rfl (by rfl) rfl) ?_
  refine AO.pure T rfl rfl rfl ?_
  refine AO.nil ?_
  refine AW.seq ?_
  refine AW.region ?_
  refine AO.pure T rfl rfl rfl ?_
  refine AO.pure T rfl rfl rfl ?_
  refine AO.nil ?_
  refine AW.ret ?_
  cases someE hH
  exact ⟨trivial, rfl, _, [], [1, 2], rfl, expLG_cons (.g (expLC_cons (.rowR rfl) (expLC_cons (.rowR rfl) (expLC_nil)))) (expLG_cons (.c .u) (expLG_nil)), .c (.c .v), by decide⟩

def laws_heldIntS_l1 : List Int → Nat → Int → Option Int
  | [], k1, v8 =>
    some v8
  | y2 :: ys3, k1, v8 =>
    cond (y2 != v8)
      (some (-1))
      (laws_heldIntS_l1 ys3 (k1 + 1) (w64 (v8 + 1)))
def laws_heldIntS_p (a : List Int) (k : Int) : Option Int :=
  laws_heldIntS_l1 a 0 k
theorem laws_heldIntS_ok (a : List Int) (k : Int) (r : Int) (hH : laws_heldIntS_p a k = some r) : SpecR Try.prog 22 [.s (List.map encInt a), .v (.int .i64 k)] (.v (.int .i64 r)) := by
  refine fn_ok T Try.func22 rfl (by decide) rfl ?_
  refine AW.seq ?_
  refine AW.region ?_
  refine AO.pure T rfl rfl rfl ?_
  refine AO.nil ?_
  refine AW.seq ?_
  refine AW.seq ?_
  refine AW.region ?_
  refine AO.pure T rfl rfl rfl ?_
  refine AO.nil ?_
  refine AW.block ?_
  refine AW.loopS (fun s : Nat × Int => (⟨[(0, .s (List.map encInt a)), (1, .v (.int .i64 s.2)), (5, .v (.int .i64 (s.1 : Int)))], [], 21, []⟩ : St)) (fun s => s.1 ≤ a.length ∧ laws_heldIntS_l1 (a.drop s.1) s.1 s.2 = some r) (fun s => a.length - s.1) (0, k) ⟨Nat.zero_le _, hH⟩ ?_ ?_
  · exact Le.cut 0 0 rfl (by repeat' (first | exact trivial | refine ⟨⟨_, rfl, rfl⟩, ?_⟩)) (by repeat' (first | exact trivial | refine ⟨⟨_, rfl, rfl⟩, ?_⟩)) rfl
  · rintro ⟨k1, v8⟩ ⟨hk, hH⟩
    replace hH : laws_heldIntS_l1 (a.drop k1) k1 v8 = some r := hH
    show AW _ _ _ (⟨[(0, .s (List.map encInt a)), (1, .v (.int .i64 v8)), (5, .v (.int .i64 (k1 : Int)))], [], 21, []⟩ : St)
    refine AW.boundM (t := 0) (l := a) rfl (fun hb5 => ?_)
    cases hd4 : a.drop k1 with
    | nil =>
      rw [hd4] at hH
      rw [laws_heldIntS_l1] at hH
      have hlt6 := drop_ge hd4
      refine AW.seq ?_
      refine AW.seq ?_
      refine AW.region ?_
      refine AO.pure T rfl rfl rfl ?_
      refine AO.pure T rfl rfl rfl ?_
      refine AO.val rfl rfl (len_map_ok T rfl rfl rfl) ?_
      refine AO.pure T rfl rfl rfl ?_
      refine AO.nil ?_
      refine AW.condF' (b := decide ((k1 : Int) < (a.length : Int))) rfl (rngF hlt6) ?_
      refine AW.exit ?_
      refine AW.seq ?_
      refine AW.region ?_
      refine AO.pure T rfl rfl rfl ?_
      refine AO.pure T rfl rfl rfl ?_
      refine AO.nil ?_
      refine AW.ret ?_
      cases someE hH
      exact ⟨trivial, _, [], rfl, .c (.c .v), by decide⟩
    | cons y2 ys3 =>
      rw [hd4] at hH
      rw [laws_heldIntS_l1] at hH
      have hlt6 := drop_lt hd4
      refine AW.seq ?_
      refine AW.seq ?_
      refine AW.region ?_
      refine AO.pure T rfl rfl rfl ?_
      refine AO.pure T rfl rfl rfl ?_
      refine AO.val rfl rfl (len_map_ok T rfl rfl rfl) ?_
      refine AO.pure T rfl rfl rfl ?_
      refine AO.nil ?_
      refine AW.condT' (b := decide ((k1 : Int) < (a.length : Int))) rfl (rngT hlt6) ?_
      refine AW.skip ?_
      refine AW.seq ?_
      refine AW.block ?_
      refine AW.seq ?_
      refine AW.seq ?_
      refine AW.region ?_
      refine AO.pure T rfl rfl rfl ?_
      refine AO.pure T rfl rfl rfl ?_
      refine AO.val rfl rfl (ix_map_ok T rfl rfl rfl rfl rfl (getI_drop hd4) rfl) ?_
      refine AO.pure T rfl rfl rfl ?_
      refine AO.pure T rfl rfl rfl ?_
      refine AO.pure T rfl rfl rfl ?_
      refine AO.nil ?_
      refine AW.cond (b := (y2 != v8)) rfl (fun hc => ?_) (fun hc => ?_)
      · replace hH := condT hc hH
        refine AW.seq ?_
        refine AW.region ?_
        refine AO.pure T rfl rfl rfl ?_
        refine AO.nil ?_
        refine AW.ret ?_
        cases someE hH
        exact ⟨trivial, _, [], rfl, .c (.c .v), by decide⟩
      · replace hH := condF hc hH
        refine AW.skip ?_
        refine AW.region ?_
        refine AO.pure T rfl rfl rfl ?_
        refine AO.val rfl rfl (arw_ok rfl rfl rfl rfl) ?_
        refine AO.pure T rfl rfl rfl ?_
        refine AO.nil ?_
        refine AW.region ?_
        refine AO.pure T rfl rfl rfl ?_
        refine AO.val rfl rfl (ar_ok rfl rfl rfl rfl (inI_succ hlt6 hb5)) ?_
        refine AO.pure T rfl rfl rfl ?_
        refine AO.nil ?_
        refine ⟨(k1 + 1, w64 (v8 + 1)), ⟨Nat.succ_le_of_lt hlt6, (by rw [drop_succ_of hd4]; exact hH)⟩, (by have := hlt6; dsimp only; omega), ?_⟩
        exact Le.cut 0 0 rfl (by repeat' (first | exact trivial | refine ⟨⟨_, rfl, rfl⟩, ?_⟩)) (by repeat' (first | exact trivial | refine ⟨⟨_, rfl, rfl⟩, ?_⟩)) rfl

def laws_heldLineS_l1 : List Line → Nat → Int → Option Int
  | [], k1, v16 =>
    some v16
  | y2 :: ys3, k1, v16 =>
    cond (y2.skater != v16)
      (some (-1))
      ((laws_heldIntS_p y2.events (w64 (v16 + 1))).bind fun x18 =>
      cond (decide (x18 < 0))
        (some (-1))
        ((laws_heldIntS_p y2.points x18).bind fun x20 =>
        cond (decide (x20 < 0))
          (some (-1))
          (laws_heldLineS_l1 ys3 (k1 + 1) x20)))
def laws_heldLineS_p (a : List Line) (k : Int) : Option Int :=
  laws_heldLineS_l1 a 0 k
theorem laws_heldLineS_ok (a : List Line) (k : Int) (r : Int) (hH : laws_heldLineS_p a k = some r) : SpecR Try.prog 94 [.s (List.map encLine a), .v (.int .i64 k)] (.v (.int .i64 r)) := by
  refine fn_ok T Try.func94 rfl (by decide) rfl ?_
  refine AW.seq ?_
  refine AW.region ?_
  refine AO.pure T rfl rfl rfl ?_
  refine AO.nil ?_
  refine AW.seq ?_
  refine AW.seq ?_
  refine AW.region ?_
  refine AO.pure T rfl rfl rfl ?_
  refine AO.nil ?_
  refine AW.block ?_
  refine AW.loopS (fun s : Nat × Int => (⟨[(0, .s (List.map encLine a)), (1, .v (.int .i64 s.2)), (5, .v (.int .i64 (s.1 : Int)))], [], 40, []⟩ : St)) (fun s => s.1 ≤ a.length ∧ laws_heldLineS_l1 (a.drop s.1) s.1 s.2 = some r) (fun s => a.length - s.1) (0, k) ⟨Nat.zero_le _, hH⟩ ?_ ?_
  · exact Le.cut 0 0 rfl (by repeat' (first | exact trivial | refine ⟨⟨_, rfl, rfl⟩, ?_⟩)) (by repeat' (first | exact trivial | refine ⟨⟨_, rfl, rfl⟩, ?_⟩)) rfl
  · rintro ⟨k1, v16⟩ ⟨hk, hH⟩
    replace hH : laws_heldLineS_l1 (a.drop k1) k1 v16 = some r := hH
    show AW _ _ _ (⟨[(0, .s (List.map encLine a)), (1, .v (.int .i64 v16)), (5, .v (.int .i64 (k1 : Int)))], [], 40, []⟩ : St)
    refine AW.boundM (t := 0) (l := a) rfl (fun hb5 => ?_)
    cases hd4 : a.drop k1 with
    | nil =>
      rw [hd4] at hH
      rw [laws_heldLineS_l1] at hH
      have hlt6 := drop_ge hd4
      refine AW.seq ?_
      refine AW.seq ?_
      refine AW.region ?_
      refine AO.pure T rfl rfl rfl ?_
      refine AO.pure T rfl rfl rfl ?_
      refine AO.val rfl rfl (len_map_ok T rfl rfl rfl) ?_
      refine AO.pure T rfl rfl rfl ?_
      refine AO.nil ?_
      refine AW.condF' (b := decide ((k1 : Int) < (a.length : Int))) rfl (rngF hlt6) ?_
      refine AW.exit ?_
      refine AW.seq ?_
      refine AW.region ?_
      refine AO.pure T rfl rfl rfl ?_
      refine AO.pure T rfl rfl rfl ?_
      refine AO.nil ?_
      refine AW.ret ?_
      cases someE hH
      exact ⟨trivial, _, [], rfl, .c (.c .v), by decide⟩
    | cons y2 ys3 =>
      rw [hd4] at hH
      rw [laws_heldLineS_l1] at hH
      have hlt6 := drop_lt hd4
      refine AW.seq ?_
      refine AW.seq ?_
      refine AW.region ?_
      refine AO.pure T rfl rfl rfl ?_
      refine AO.pure T rfl rfl rfl ?_
      refine AO.val rfl rfl (len_map_ok T rfl rfl rfl) ?_
      refine AO.pure T rfl rfl rfl ?_
      refine AO.nil ?_
      refine AW.condT' (b := decide ((k1 : Int) < (a.length : Int))) rfl (rngT hlt6) ?_
      refine AW.skip ?_
      refine AW.seq ?_
      refine AW.block ?_
      refine AW.seq ?_
      refine AW.seq ?_
      refine AW.region ?_
      refine AO.pure T rfl rfl rfl ?_
      refine AO.pure T rfl rfl rfl ?_
      refine AO.val rfl rfl (ix_map_ok T rfl rfl rfl rfl rfl (getI_drop hd4) rfl) ?_
      refine AO.pure T rfl rfl rfl ?_
      refine AO.pure T rfl rfl rfl ?_
      refine AO.pure T rfl rfl rfl ?_
      refine AO.pure T rfl rfl rfl ?_
      refine AO.nil ?_
      refine AW.cond (b := (y2.skater != v16)) rfl (fun hc => ?_) (fun hc => ?_)
      · replace hH := condT hc hH
        refine AW.seq ?_
        refine AW.region ?_
        refine AO.pure T rfl rfl rfl ?_
        refine AO.nil ?_
        refine AW.ret ?_
        cases someE hH
        exact ⟨trivial, _, [], rfl, .c (.c .v), by decide⟩
      · replace hH := condF hc hH
        refine AW.skip ?_
        refine AW.seq ?_
        refine AW.region ?_
        refine AO.pure T rfl rfl rfl ?_
        refine AO.val rfl rfl (arw_ok rfl rfl rfl rfl) ?_
        refine AO.pure T rfl rfl rfl ?_
        refine AO.nil ?_
        refine AW.seq ?_
        obtain ⟨x18, hx19, hH⟩ := bindE hH
        refine AW.region ?_
        refine AO.pure T rfl rfl rfl ?_
        refine AO.pure T rfl rfl rfl ?_
        refine AO.val rfl rfl (ix_map_ok T rfl rfl rfl rfl rfl (getI_drop hd4) rfl) ?_
        refine AO.pure T rfl rfl rfl ?_
        refine AO.pure T rfl rfl rfl ?_
        refine AO.pure T rfl rfl rfl ?_
        refine AO.val rfl rfl (callV_ok rfl rfl rfl rfl (laws_heldIntS_ok _ _ _ (hx19)) rfl) ?_
        refine AO.pure T rfl rfl rfl ?_
        refine AO.nil ?_
        refine AW.seq ?_
        refine AW.seq ?_
        refine AW.region ?_
        refine AO.pure T rfl rfl rfl ?_
        refine AO.pure T rfl rfl rfl ?_
        refine AO.nil ?_
        refine AW.le (Le.cut 0 0 (σ' := (⟨[(0, .s (List.map encLine a)), (1, .v (.int .i64 x18)), (5, .v (.int .i64 (k1 : Int))), (29, .v (.bool (decide (x18 < 0))))], [], 40, []⟩ : St)) rfl (by repeat' (first | exact trivial | refine ⟨⟨_, rfl, rfl⟩, ?_⟩)) (by repeat' (first | exact trivial | refine ⟨⟨_, rfl, rfl⟩, ?_⟩)) rfl) ?_
        refine AW.cond (b := decide (x18 < 0)) rfl (fun hc => ?_) (fun hc => ?_)
        · replace hH := condT hc hH
          refine AW.seq ?_
          refine AW.region ?_
          refine AO.pure T rfl rfl rfl ?_
          refine AO.nil ?_
          refine AW.ret ?_
          cases someE hH
          exact ⟨trivial, _, [], rfl, .c (.c .v), by decide⟩
        · replace hH := condF hc hH
          refine AW.skip ?_
          refine AW.seq ?_
          obtain ⟨x20, hx21, hH⟩ := bindE hH
          refine AW.region ?_
          refine AO.pure T rfl rfl rfl ?_
          refine AO.pure T rfl rfl rfl ?_
          refine AO.val rfl rfl (ix_map_ok T rfl rfl rfl rfl rfl (getI_drop hd4) rfl) ?_
          refine AO.pure T rfl rfl rfl ?_
          refine AO.pure T rfl rfl rfl ?_
          refine AO.pure T rfl rfl rfl ?_
          refine AO.val rfl rfl (callV_ok rfl rfl rfl rfl (laws_heldIntS_ok _ _ _ (hx21)) rfl) ?_
          refine AO.pure T rfl rfl rfl ?_
          refine AO.nil ?_
          refine AW.seq ?_
          refine AW.region ?_
          refine AO.pure T rfl rfl rfl ?_
          refine AO.pure T rfl rfl rfl ?_
          refine AO.nil ?_
          refine AW.cond (b := decide (x20 < 0)) rfl (fun hc => ?_) (fun hc => ?_)
          · replace hH := condT hc hH
            refine AW.seq ?_
            refine AW.region ?_
            refine AO.pure T rfl rfl rfl ?_
            refine AO.nil ?_
            refine AW.ret ?_
            cases someE hH
            exact ⟨trivial, _, [], rfl, .c (.c .v), by decide⟩
          · replace hH := condF hc hH
            refine AW.skip ?_
            refine AW.region ?_
            refine AO.pure T rfl rfl rfl ?_
            refine AO.val rfl rfl (ar_ok rfl rfl rfl rfl (inI_succ hlt6 hb5)) ?_
            refine AO.pure T rfl rfl rfl ?_
            refine AO.nil ?_
            refine ⟨(k1 + 1, x20), ⟨Nat.succ_le_of_lt hlt6, (by rw [drop_succ_of hd4]; exact hH)⟩, (by have := hlt6; dsimp only; omega), ?_⟩
            exact Le.cut 0 0 rfl (by repeat' (first | exact trivial | refine ⟨⟨_, rfl, rfl⟩, ?_⟩)) (by repeat' (first | exact trivial | refine ⟨⟨_, rfl, rfl⟩, ?_⟩)) rfl

def laws_heldSeasonS_l1 : List Season → Nat → Int → Option Int
  | [], k1, v12 =>
    some v12
  | y2 :: ys3, k1, v12 =>
    cond (y2.best != v12)
      (some (-1))
      ((laws_heldLineS_p y2.lines (w64 (v12 + 1))).bind fun x14 =>
      cond (decide (x14 < 0))
        (some (-1))
        (laws_heldSeasonS_l1 ys3 (k1 + 1) x14))
def laws_heldSeasonS_p (a : List Season) (k : Int) : Option Int :=
  laws_heldSeasonS_l1 a 0 k
theorem laws_heldSeasonS_ok (a : List Season) (k : Int) (r : Int) (hH : laws_heldSeasonS_p a k = some r) : SpecR Try.prog 64 [.s (List.map encSeason a), .v (.int .i64 k)] (.v (.int .i64 r)) := by
  refine fn_ok T Try.func64 rfl (by decide) rfl ?_
  refine AW.seq ?_
  refine AW.region ?_
  refine AO.pure T rfl rfl rfl ?_
  refine AO.nil ?_
  refine AW.seq ?_
  refine AW.seq ?_
  refine AW.region ?_
  refine AO.pure T rfl rfl rfl ?_
  refine AO.nil ?_
  refine AW.block ?_
  refine AW.loopS (fun s : Nat × Int => (⟨[(0, .s (List.map encSeason a)), (1, .v (.int .i64 s.2)), (5, .v (.int .i64 (s.1 : Int)))], [], 31, []⟩ : St)) (fun s => s.1 ≤ a.length ∧ laws_heldSeasonS_l1 (a.drop s.1) s.1 s.2 = some r) (fun s => a.length - s.1) (0, k) ⟨Nat.zero_le _, hH⟩ ?_ ?_
  · exact Le.cut 0 0 rfl (by repeat' (first | exact trivial | refine ⟨⟨_, rfl, rfl⟩, ?_⟩)) (by repeat' (first | exact trivial | refine ⟨⟨_, rfl, rfl⟩, ?_⟩)) rfl
  · rintro ⟨k1, v12⟩ ⟨hk, hH⟩
    replace hH : laws_heldSeasonS_l1 (a.drop k1) k1 v12 = some r := hH
    show AW _ _ _ (⟨[(0, .s (List.map encSeason a)), (1, .v (.int .i64 v12)), (5, .v (.int .i64 (k1 : Int)))], [], 31, []⟩ : St)
    refine AW.boundM (t := 0) (l := a) rfl (fun hb5 => ?_)
    cases hd4 : a.drop k1 with
    | nil =>
      rw [hd4] at hH
      rw [laws_heldSeasonS_l1] at hH
      have hlt6 := drop_ge hd4
      refine AW.seq ?_
      refine AW.seq ?_
      refine AW.region ?_
      refine AO.pure T rfl rfl rfl ?_
      refine AO.pure T rfl rfl rfl ?_
      refine AO.val rfl rfl (len_map_ok T rfl rfl rfl) ?_
      refine AO.pure T rfl rfl rfl ?_
      refine AO.nil ?_
      refine AW.condF' (b := decide ((k1 : Int) < (a.length : Int))) rfl (rngF hlt6) ?_
      refine AW.exit ?_
      refine AW.seq ?_
      refine AW.region ?_
      refine AO.pure T rfl rfl rfl ?_
      refine AO.pure T rfl rfl rfl ?_
      refine AO.nil ?_
      refine AW.ret ?_
      cases someE hH
      exact ⟨trivial, _, [], rfl, .c (.c .v), by decide⟩
    | cons y2 ys3 =>
      rw [hd4] at hH
      rw [laws_heldSeasonS_l1] at hH
      have hlt6 := drop_lt hd4
      refine AW.seq ?_
      refine AW.seq ?_
      refine AW.region ?_
      refine AO.pure T rfl rfl rfl ?_
      refine AO.pure T rfl rfl rfl ?_
      refine AO.val rfl rfl (len_map_ok T rfl rfl rfl) ?_
      refine AO.pure T rfl rfl rfl ?_
      refine AO.nil ?_
      refine AW.condT' (b := decide ((k1 : Int) < (a.length : Int))) rfl (rngT hlt6) ?_
      refine AW.skip ?_
      refine AW.seq ?_
      refine AW.block ?_
      refine AW.seq ?_
      refine AW.seq ?_
      refine AW.region ?_
      refine AO.pure T rfl rfl rfl ?_
      refine AO.pure T rfl rfl rfl ?_
      refine AO.val rfl rfl (ix_map_ok T rfl rfl rfl rfl rfl (getI_drop hd4) rfl) ?_
      refine AO.pure T rfl rfl rfl ?_
      refine AO.pure T rfl rfl rfl ?_
      refine AO.pure T rfl rfl rfl ?_
      refine AO.pure T rfl rfl rfl ?_
      refine AO.nil ?_
      refine AW.cond (b := (y2.best != v12)) rfl (fun hc => ?_) (fun hc => ?_)
      · replace hH := condT hc hH
        refine AW.seq ?_
        refine AW.region ?_
        refine AO.pure T rfl rfl rfl ?_
        refine AO.nil ?_
        refine AW.ret ?_
        cases someE hH
        exact ⟨trivial, _, [], rfl, .c (.c .v), by decide⟩
      · replace hH := condF hc hH
        refine AW.skip ?_
        refine AW.seq ?_
        refine AW.region ?_
        refine AO.pure T rfl rfl rfl ?_
        refine AO.val rfl rfl (arw_ok rfl rfl rfl rfl) ?_
        refine AO.pure T rfl rfl rfl ?_
        refine AO.nil ?_
        refine AW.seq ?_
        obtain ⟨x14, hx15, hH⟩ := bindE hH
        refine AW.region ?_
        refine AO.pure T rfl rfl rfl ?_
        refine AO.pure T rfl rfl rfl ?_
        refine AO.val rfl rfl (ix_map_ok T rfl rfl rfl rfl rfl (getI_drop hd4) rfl) ?_
        refine AO.pure T rfl rfl rfl ?_
        refine AO.pure T rfl rfl rfl ?_
        refine AO.pure T rfl rfl rfl ?_
        refine AO.val rfl rfl (callV_ok rfl rfl rfl rfl (laws_heldLineS_ok _ _ _ (hx15)) rfl) ?_
        refine AO.pure T rfl rfl rfl ?_
        refine AO.nil ?_
        refine AW.seq ?_
        refine AW.region ?_
        refine AO.pure T rfl rfl rfl ?_
        refine AO.pure T rfl rfl rfl ?_
        refine AO.nil ?_
        refine AW.le (Le.cut 0 0 (σ' := (⟨[(0, .s (List.map encSeason a)), (1, .v (.int .i64 x14)), (5, .v (.int .i64 (k1 : Int))), (29, .v (.bool (decide (x14 < 0))))], [], 31, []⟩ : St)) rfl (by repeat' (first | exact trivial | refine ⟨⟨_, rfl, rfl⟩, ?_⟩)) (by repeat' (first | exact trivial | refine ⟨⟨_, rfl, rfl⟩, ?_⟩)) rfl) ?_
        refine AW.cond (b := decide (x14 < 0)) rfl (fun hc => ?_) (fun hc => ?_)
        · replace hH := condT hc hH
          refine AW.seq ?_
          refine AW.region ?_
          refine AO.pure T rfl rfl rfl ?_
          refine AO.nil ?_
          refine AW.ret ?_
          cases someE hH
          exact ⟨trivial, _, [], rfl, .c (.c .v), by decide⟩
        · replace hH := condF hc hH
          refine AW.skip ?_
          refine AW.region ?_
          refine AO.pure T rfl rfl rfl ?_
          refine AO.val rfl rfl (ar_ok rfl rfl rfl rfl (inI_succ hlt6 hb5)) ?_
          refine AO.pure T rfl rfl rfl ?_
          refine AO.nil ?_
          refine ⟨(k1 + 1, x14), ⟨Nat.succ_le_of_lt hlt6, (by rw [drop_succ_of hd4]; exact hH)⟩, (by have := hlt6; dsimp only; omega), ?_⟩
          exact Le.cut 0 0 rfl (by repeat' (first | exact trivial | refine ⟨⟨_, rfl, rfl⟩, ?_⟩)) (by repeat' (first | exact trivial | refine ⟨⟨_, rfl, rfl⟩, ?_⟩)) rfl

def laws_heldWorld_p (a : World) (k : Int) : Option Int :=
  (laws_heldSeasonS_p a.seasons k).bind fun x1 =>
  cond (decide (x1 < 0))
    (some (-1))
    ((laws_heldIntS_p a.weights x1).bind fun x3 =>
    cond (decide (x3 < 0))
      (some (-1))
      (some x3))
theorem laws_heldWorld_ok (a : World) (k : Int) (r : Int) (hH : laws_heldWorld_p a k = some r) : SpecR Try.prog 25 [.g (encWorld a), .v (.int .i64 k)] (.v (.int .i64 r)) := by
  refine fn_ok T Try.func25 rfl (by decide) rfl ?_
  refine AW.seq ?_
  refine AW.region ?_
  refine AO.step rfl (box_ok T rfl 1 rfl rfl rfl rfl) ?_
  refine AO.pure T rfl rfl rfl ?_
  refine AO.nil ?_
  refine AW.seq ?_
  obtain ⟨x1, hx2, hH⟩ := bindE hH
  refine AW.region ?_
  refine AO.pure T rfl rfl rfl ?_
  refine AO.pure T rfl rfl rfl ?_
  refine AO.pure T rfl rfl rfl ?_
  refine AO.val rfl rfl (callV_ok rfl rfl rfl rfl (laws_heldSeasonS_ok _ _ _ (hx2)) rfl) ?_
  refine AO.pure T rfl rfl rfl ?_
  refine AO.nil ?_
  refine AW.seq ?_
  refine AW.seq ?_
  refine AW.region ?_
  refine AO.pure T rfl rfl rfl ?_
  refine AO.pure T rfl rfl rfl ?_
  refine AO.nil ?_
  refine AW.cond (b := decide (x1 < 0)) rfl (fun hc => ?_) (fun hc => ?_)
  · replace hH := condT hc hH
    refine AW.seq ?_
    refine AW.region ?_
    refine AO.pure T rfl rfl rfl ?_
    refine AO.nil ?_
    refine AW.ret ?_
    cases someE hH
    exact ⟨trivial, _, [], rfl, .c (.c .v), by decide⟩
  · replace hH := condF hc hH
    refine AW.skip ?_
    refine AW.seq ?_
    obtain ⟨x3, hx4, hH⟩ := bindE hH
    refine AW.region ?_
    refine AO.pure T rfl rfl rfl ?_
    refine AO.pure T rfl rfl rfl ?_
    refine AO.pure T rfl rfl rfl ?_
    refine AO.val rfl rfl (callV_ok rfl rfl rfl rfl (laws_heldIntS_ok _ _ _ (hx4)) rfl) ?_
    refine AO.pure T rfl rfl rfl ?_
    refine AO.nil ?_
    refine AW.seq ?_
    refine AW.seq ?_
    refine AW.region ?_
    refine AO.pure T rfl rfl rfl ?_
    refine AO.pure T rfl rfl rfl ?_
    refine AO.nil ?_
    refine AW.cond (b := decide (x3 < 0)) rfl (fun hc => ?_) (fun hc => ?_)
    · replace hH := condT hc hH
      refine AW.seq ?_
      refine AW.region ?_
      refine AO.pure T rfl rfl rfl ?_
      refine AO.nil ?_
      refine AW.ret ?_
      cases someE hH
      exact ⟨trivial, _, [], rfl, .c (.c .v), by decide⟩
    · replace hH := condF hc hH
      refine AW.skip ?_
      refine AW.seq ?_
      refine AW.region ?_
      refine AO.pure T rfl rfl rfl ?_
      refine AO.pure T rfl rfl rfl ?_
      refine AO.nil ?_
      refine AW.ret ?_
      cases someE hH
      exact ⟨trivial, _, [], rfl, .c (.c .v), by decide⟩

def laws_FnExactAddToWorld_p (fuel : Nat) (aW : World) (aE : Entry) : Option Bool :=
  (laws_szWorld_p aW 1048576).bind fun x1 =>
  cond (decide (x1 < 0))
    (some true)
    ((laws_toWorld_p aW).bind fun x3 =>
    (laws_toEntry_p aE).bind fun x5 =>
    (spec_AddToWorld_p fuel x3 x5).bind fun x7 =>
    (impl_AddToWorld_p fuel x3 x5).bind fun x9 =>
    (laws_eqWorld_p (World.mk x9.1.seasons x9.1.weights) (World.mk x7.1.seasons x7.1.weights)).bind fun x11 =>
    cond ((!x11) || (!(x9.2 == x7.2)))
      (some false)
      ((laws_eqWorld_p x3 x3).bind fun x13 =>
      cond (!x13)
        (some false)
        ((laws_markWorld_p fuel x3 1).bind fun x15 =>
        cond ((decide (x15.2 < 0) || (!x11)) || (!(x9.2 == x7.2)))
          (some false)
          ((laws_markWorld_p fuel (World.mk x9.1.seasons x9.1.weights) 1).bind fun x17 =>
          (laws_heldWorld_p (World.mk x17.1.seasons x17.1.weights) 1).bind fun x19 =>
          cond (decide (x19 < 0))
            (some false)
            (cond (x19 != x17.2)
              (some false)
              (cond ((!x11) || (!(x9.2 == x7.2)))
                (some false)
                (cond (decide (x19 < 0))
                  (some false)
                  (cond (x19 != x17.2)
                    (some false)
                    (some true)))))))))
theorem laws_FnExactAddToWorld_ok (fuel : Nat) (aW : World) (aE : Entry) (r : Bool) (hH : laws_FnExactAddToWorld_p fuel aW aE = some r) : SpecR Try.prog 7 [.g (encWorld aW), .g (encEntry aE)] (.v (.bool r)) := by
  refine fn_ok T Try.func7 rfl (by decide) rfl ?_
  refine AW.seq ?_
  refine AW.region ?_
  refine AO.step rfl (box_ok T rfl 1 rfl rfl rfl rfl) ?_
  refine AO.step rfl (box_ok T rfl 2 rfl rfl rfl rfl) ?_
  refine AO.pure T rfl rfl rfl ?_
  refine AO.nil ?_
  refine AW.seq ?_
  refine AW.region ?_
  refine AO.pure T rfl rfl rfl ?_
  refine AO.nil ?_
  refine AW.seq ?_
  obtain ⟨x1, hx2, hH⟩ := bindE hH
  refine AW.region ?_
  refine AO.pure T (d := .g [.s (List.map encSeason aW.seasons), .s (List.map encInt aW.weights)]) rfl rfl rfl ?_
  refine AO.pure T rfl rfl rfl ?_
  refine AO.val rfl rfl (callV_ok rfl rfl rfl rfl (laws_szWorld_ok _ _ _ (hx2)) rfl) ?_
  refine AO.pure T rfl rfl rfl ?_
  refine AO.nil ?_
  refine AW.seq ?_
  refine AW.seq ?_
  refine AW.region ?_
  refine AO.pure T rfl rfl rfl ?_
  refine AO.pure T rfl rfl rfl ?_
  refine AO.nil ?_
  refine AW.cond (b := decide (x1 < 0)) rfl (fun hc => ?_) (fun hc => ?_)
  · replace hH := condT hc hH
    refine AW.seq ?_
    refine AW.region ?_
    refine AO.pure T rfl rfl rfl ?_
    refine AO.nil ?_
    refine AW.ret ?_
    cases someE hH
    exact ⟨trivial, _, [], rfl, .c (.c .v), by decide⟩
  · replace hH := condF hc hH
    refine AW.skip ?_
    refine AW.seq ?_
    obtain ⟨x3, hx4, hH⟩ := bindE hH
    obtain ⟨x5, hx6, hH⟩ := bindE hH
    obtain ⟨x7, hx8, hH⟩ := bindE hH
    refine AW.drawn 10 3 [] mix (by kernel_rfl) rfl ?_
    refine AD.pure T (d := .g [.s (List.map encSeason aW.seasons), .s (List.map encInt aW.weights)]) rfl rfl rfl ?_
    refine AD.val rfl rfl (callF_ok rfl rfl rfl rfl (laws_toWorld_ok _ _ (hx4)) (.c (.g (frzWorld _)))) ?_
    refine AD.pure T (d := .g [.v (.int .i64 aE.event), .v (.int .i64 aE.skater), .v (.int .i64 aE.points)]) rfl rfl rfl ?_
    refine AD.val rfl rfl (callV_ok rfl rfl rfl rfl (laws_toEntry_ok _ _ (hx6)) rfl) ?_
    refine AD.q (FStep.call rfl rfl rfl rfl rfl (spec_AddToWorld_ok fuel _ _ _ (hx8)) rfl rfl) (impT_names _ _) (impT_le _ _) rfl ?_
    refine AD.pure T rfl rfl rfl ?_
    refine AD.pure T (d := .g [.R 3, .R 4]) rfl rfl rfl ?_
    refine AD.pure T rfl rfl rfl ?_
    refine AD.q (FStep.alloc T rfl rfl rfl rfl rfl rfl) (by simp [namesIn]) (Nat.le_succ _) rfl ?_
    refine AD.k rfl rfl (FStep.store_p T rfl rfl rfl rfl rfl rfl rfl rfl rfl rfl rfl) rfl rfl rfl ?_
    refine AD.nil ?_
    refine AO.pure T rfl rfl rfl ?_
    refine AO.nil ?_
    refine AW.seq ?_
    refine AW.region ?_
    refine AO.pure T (d := .g [.s (List.map encSeason aW.seasons), .s (List.map encInt aW.weights)]) rfl rfl rfl ?_
    refine AO.step rfl (call_ok rfl 6 rfl rfl rfl (laws_toWorld_ok _ _ (hx4)) rfl rfl rfl) ?_
    refine AO.step rfl (alloc_ok T rfl 8 rfl rfl rfl rfl rfl) ?_
    refine AO.step rfl (store_okE T rfl rfl rfl rfl rfl rfl rfl rfl rfl (ds' := [.R 6, .R 7]) rfl) ?_
    refine AO.nil ?_
    refine AW.le (Le.cut 0 0 (σ' := (⟨[(2, .p 1 0), (3, .p 2 0), (6, .p 5 0), (7, .v (.bool x7.2)), (8, .p 8 0)], [(1, .box [.s (List.map encSeason aW.seasons), .s (List.map encInt aW.weights)]), (2, .box [.v (.int .i64 aE.event), .v (.int .i64 aE.skater), .v (.int .i64 aE.points)]), (3, .row 2 (List.map encSeason x7.1.seasons)), (4, .row 1 (List.map encInt x7.1.weights)), (5, .box [.R 3, .R 4]), (6, .row 2 (List.map encSeasonO x3.seasons)), (7, .row 1 (List.map encInt x3.weights)), (8, .box [.R 6, .R 7])], 104, []⟩ : St)) rfl (by repeat' (first | exact trivial | refine ⟨⟨_, rfl, rfl⟩, ?_⟩)) (by repeat' (first | exact trivial | refine ⟨⟨_, rfl, rfl⟩, ?_⟩)) rfl) ?_
    refine AW.seq ?_
    obtain ⟨x9, hx10, hH⟩ := bindE hH
    refine AW.drawn 9 9 [] mix (by kernel_rfl) rfl ?_
    refine AD.pure T (d := .g [.R 6, .R 7]) rfl rfl rfl ?_
    refine AD.pure T (d := .g [.v (.int .i64 aE.event), .v (.int .i64 aE.skater), .v (.int .i64 aE.points)]) rfl rfl rfl ?_
    refine AD.val rfl rfl (callV_ok rfl rfl rfl rfl (laws_toEntry_ok _ _ (hx6)) rfl) ?_
    refine AD.q (FStep.callL rfl rfl rfl rfl (es := [.g (encWorld x3), .g (encEntry x5)]) ⟨lend_g (LendL.cons ((.rowR rfl (.map fun y => frzSeason y))) (LendL.cons ((.rowR rfl (.map fun y => .vs rfl))) LendL.nil)), .free rfl, trivial⟩ (impl_AddToWorld_ok fuel _ _ _ (hx10)) (zfree_t (zfl (.cons (zfree_g (zfl (.cons (zfree_map (fun y => (.cons (zfree_v _) (.cons (zfree_map (fun y => (.cons (zfree_v _) (.cons (zfree_map (fun y => (.cons (zfree_v _) .nil))) (.cons (zfree_map (fun y => (.cons (zfree_v _) .nil))) .nil))))) .nil)))) (.cons (zfree_map (fun y => (.cons (zfree_v _) .nil))) .nil)))) (.cons (zfree_v _) .nil)))) rfl rfl) (impT_names _ _) (impT_le _ _) rfl ?_
    refine AD.pure T rfl rfl rfl ?_
    refine AD.pure T (d := .g [.R 9, .R 10]) rfl rfl rfl ?_
    refine AD.pure T rfl rfl rfl ?_
    refine AD.q (FStep.alloc T rfl rfl rfl rfl rfl rfl) (by simp [namesIn]) (Nat.le_succ _) rfl ?_
    refine AD.k rfl rfl (FStep.store_p T rfl rfl rfl rfl rfl rfl rfl rfl rfl rfl rfl) rfl rfl rfl ?_
    refine AD.nil ?_
    refine AO.pure T rfl rfl rfl ?_
    refine AO.nil ?_
    refine AW.seq ?_
    refine AW.seq ?_
    obtain ⟨x11, hx12, hH⟩ := bindE hH
    refine AW.region ?_
    refine AO.pure T (d := .g [.R 9, .R 10]) rfl rfl rfl ?_
    refine AO.pure T (d := .g [.R 3, .R 4]) rfl rfl rfl ?_
    refine AO.val rfl rfl (callLV_ok rfl rfl rfl (es := [.g (encWorld (World.mk x9.1.seasons x9.1.weights)), .g (encWorld (World.mk x7.1.seasons x7.1.weights))]) ⟨lend_g (LendL.cons ((.rowR rfl (.map fun y => frzSeason y))) (LendL.cons ((.rowR rfl (.map fun y => .vs rfl))) LendL.nil)), lend_g (LendL.cons ((.rowR rfl (.map fun y => .vs rfl))) (LendL.cons ((.rowR rfl (.map fun y => .vs rfl))) LendL.nil)), trivial⟩ (laws_eqWorld_ok _ _ _ (hx12)) (zfree_v _) rfl) ?_
    refine AO.pure T rfl rfl rfl ?_
    refine AO.pure T rfl rfl rfl ?_
    refine AO.pureG T [] rfl trivial rfl rfl ?_
    refine AO.pureG T [] rfl trivial rfl rfl ?_
    refine AO.pureG T [43, 44] rfl ⟨fun h => h, fun h => h, trivial⟩ rfl rfl ?_
    refine AO.val rfl rfl (pick_or rfl rfl rfl rfl) ?_
    refine AO.nil ?_
    refine AW.cond (b := ((!x11) || (!(x9.2 == x7.2)))) rfl (fun hc => ?_) (fun hc => ?_)
    · replace hH := condT hc hH
      refine AW.seq ?_
      refine AW.region ?_
      refine AO.pure T rfl rfl rfl ?_
      refine AO.nil ?_
      refine AW.ret ?_
      cases someE hH
      exact ⟨trivial, _, [], rfl, .c (.c .v), by decide⟩
    · replace hH := condF hc hH
      refine AW.skip ?_
      refine AW.seq ?_
      refine AW.seq ?_
      obtain ⟨x13, hx14, hH⟩ := bindE hH
      refine AW.drawn 3 12 [] mix (by kernel_rfl) rfl ?_
      refine AD.pure T (d := .g [.R 6, .R 7]) rfl rfl rfl ?_
      refine AD.pure T (d := .g [.s (List.map encSeason aW.seasons), .s (List.map encInt aW.weights)]) rfl rfl rfl ?_
      refine AD.q (FStep.call rfl rfl rfl rfl rfl (laws_toWorld_ok _ _ (hx4)) rfl rfl) (impT_names _ _) (impT_le _ _) rfl ?_
      refine AD.nil ?_
      refine AO.val rfl rfl (callLV_ok rfl rfl rfl (es := [.g (encWorld x3), .g (encWorld x3)]) ⟨lend_g (LendL.cons ((.rowR rfl (.map fun y => frzSeason y))) (LendL.cons ((.rowR rfl (.map fun y => .vs rfl))) LendL.nil)), lend_g (LendL.cons ((.rowR rfl (.map fun y => frzSeason y))) (LendL.cons ((.rowR rfl (.map fun y => .vs rfl))) LendL.nil)), trivial⟩ (laws_eqWorld_ok _ _ _ (hx14)) (zfree_v _) rfl) ?_
      refine AO.pure T rfl rfl rfl ?_
      refine AO.nil ?_
      refine AW.le (Le.cut 0 0 (σ' := (⟨[(2, .p 1 0), (3, .p 2 0), (6, .p 5 0), (7, .v (.bool x7.2)), (8, .p 8 0), (9, .p 11 0), (10, .v (.bool x9.2)), (51, .v (.bool (!x13)))], [(1, .box [.s (List.map encSeason aW.seasons), .s (List.map encInt aW.weights)]), (2, .box [.v (.int .i64 aE.event), .v (.int .i64 aE.skater), .v (.int .i64 aE.points)]), (3, .row 2 (List.map encSeason x7.1.seasons)), (4, .row 1 (List.map encInt x7.1.weights)), (5, .box [.R 3, .R 4]), (6, .row 2 (List.map encSeasonO x3.seasons)), (7, .row 1 (List.map encInt x3.weights)), (8, .box [.R 6, .R 7]), (9, .row 2 (List.map encSeasonO x9.1.seasons)), (10, .row 1 (List.map encInt x9.1.weights)), (11, .box [.R 9, .R 10])], 104, []⟩ : St)) rfl (by repeat' (first | exact trivial | refine ⟨⟨_, rfl, rfl⟩, ?_⟩)) (by repeat' (first | exact trivial | refine ⟨⟨_, rfl, rfl⟩, ?_⟩)) rfl) ?_
      refine AW.cond (b := (!x13)) rfl (fun hc => ?_) (fun hc => ?_)
      · replace hH := condT hc hH
        refine AW.seq ?_
        refine AW.region ?_
        refine AO.pure T rfl rfl rfl ?_
        refine AO.nil ?_
        refine AW.ret ?_
        cases someE hH
        exact ⟨trivial, _, [], rfl, .c (.c .v), by decide⟩
      · replace hH := condF hc hH
        refine AW.skip ?_
        refine AW.seq ?_
        refine AW.region ?_
        refine AO.pure T rfl rfl rfl ?_
        refine AO.nil ?_
        refine AW.seq ?_
        obtain ⟨x15, hx16, hH⟩ := bindE hH
        refine AW.region ?_
        refine AO.pure T (d := .g [.R 6, .R 7]) rfl rfl rfl ?_
        refine AO.pure T rfl rfl rfl ?_
        refine AO.step rfl (callM_ok rfl 14 rfl rfl (es := [.g (encWorldO x3), .v (.int .i64 1)]) (outs := [.g [.w 2 (x15.1.seasons.map encSeasonO), .w 1 (x15.1.weights.map encInt)], .u]) (ids := [6, 7]) (by exact expLG_cons (.g (expLC_cons (.rowR rfl) (expLC_cons (.rowR rfl) (expLC_nil)))) (expLG_cons (.c .v) (expLG_nil))) (by decide) (.inl (by rfl)) (by rfl) (laws_markWorld_ok fuel _ _ _ (hx16)) rfl (by rfl) rfl) ?_
        refine AO.pure T rfl rfl rfl ?_
        refine AO.nil ?_
        refine AW.seq ?_
        refine AW.seq ?_
        refine AW.region ?_
        refine AO.pure T rfl rfl rfl ?_
        refine AO.pure T rfl rfl rfl ?_
        refine AO.pure T rfl rfl rfl ?_
        refine AO.pureG T (d := .g [.R 9, .R 10]) [] rfl trivial rfl rfl ?_
        refine AO.pureG T (d := .g [.R 3, .R 4]) [] rfl trivial rfl rfl ?_
        refine AO.guard [58, 59] rfl ⟨fun h => h, fun h => h, trivial⟩ (fun hg => callLV_ok rfl rfl rfl (es := [.g (encWorld (World.mk x9.1.seasons x9.1.weights)), .g (encWorld (World.mk x7.1.seasons x7.1.weights))]) ⟨lend_g (LendL.cons ((.rowR rfl (.map fun y => frzSeason y))) (LendL.cons ((.rowR rfl (.map fun y => .vs rfl))) LendL.nil)), lend_g (LendL.cons ((.rowR rfl (.map fun y => .vs rfl))) (LendL.cons ((.rowR rfl (.map fun y => .vs rfl))) LendL.nil)), trivial⟩ (laws_eqWorld_ok _ _ _ (hx12)) (zfree_v _) rfl) rfl ?_
        refine AO.pureG T [60] rfl ⟨fun h => h, trivial⟩ rfl rfl ?_
        refine AO.val rfl rfl (pick_or rfl rfl rfl rfl) ?_
        refine AO.pure T rfl rfl rfl ?_
        refine AO.pureG T [] rfl trivial rfl rfl ?_
        refine AO.pureG T [] rfl trivial rfl rfl ?_
        refine AO.pureG T [64, 65] rfl ⟨fun h => h, fun h => h, trivial⟩ rfl rfl ?_
        refine AO.val rfl rfl (pick_or rfl rfl rfl rfl) ?_
        refine AO.nil ?_
        refine AW.cond (b := ((decide (x15.2 < 0) || (!x11)) || (!(x9.2 == x7.2)))) rfl (fun hc => ?_) (fun hc => ?_)
        · replace hH := condT hc hH
          refine AW.seq ?_
          refine AW.region ?_
          refine AO.pure T rfl rfl rfl ?_
          refine AO.nil ?_
          refine AW.ret ?_
          cases someE hH
          exact ⟨trivial, _, [], rfl, .c (.c .v), by decide⟩
        · replace hH := condF hc hH
          refine AW.skip ?_
          refine AW.seq ?_
          refine AW.region ?_
          refine AO.pure T rfl rfl rfl ?_
          refine AO.nil ?_
          refine AW.seq ?_
          obtain ⟨x17, hx18, hH⟩ := bindE hH
          refine AW.region ?_
          refine AO.pure T (d := .g [.R 9, .R 10]) rfl rfl rfl ?_
          refine AO.pure T rfl rfl rfl ?_
          refine AO.step rfl (callM_ok rfl 14 rfl rfl (es := [.g (encWorldO (World.mk x9.1.seasons x9.1.weights)), .v (.int .i64 1)]) (outs := [.g [.w 2 (x17.1.seasons.map encSeasonO), .w 1 (x17.1.weights.map encInt)], .u]) (ids := [9, 10]) (by exact expLG_cons (.g (expLC_cons (.rowR rfl) (expLC_cons (.rowR rfl) (expLC_nil)))) (expLG_cons (.c .v) (expLG_nil))) (by decide) (.inl (by rfl)) (by rfl) (laws_markWorld_ok fuel _ _ _ (hx18)) rfl (by rfl) rfl) ?_
          refine AO.pure T rfl rfl rfl ?_
          refine AO.nil ?_
          refine AW.seq ?_
          refine AW.region ?_
          refine AO.pure T rfl rfl rfl ?_
          refine AO.nil ?_
          refine AW.le (Le.cut 0 0 (σ' := (⟨[(2, .p 1 0), (3, .p 2 0), (6, .p 5 0), (7, .v (.bool x7.2)), (9, .p 11 0), (12, .v (.int .i64 x17.2)), (13, .v (.int .i64 1))], [(1, .box [.s (List.map encSeason aW.seasons), .s (List.map encInt aW.weights)]), (2, .box [.v (.int .i64 aE.event), .v (.int .i64 aE.skater), .v (.int .i64 aE.points)]), (3, .row 2 (List.map encSeason x7.1.seasons)), (4, .row 1 (List.map encInt x7.1.weights)), (5, .box [.R 3, .R 4]), (9, .row 2 (List.map encSeasonO x17.1.seasons)), (10, .row 1 (List.map encInt x17.1.weights)), (11, .box [.R 9, .R 10])], 104, []⟩ : St)) rfl (by repeat' (first | exact trivial | refine ⟨⟨_, rfl, rfl⟩, ?_⟩)) (by repeat' (first | exact trivial | refine ⟨⟨_, rfl, rfl⟩, ?_⟩)) rfl) ?_
          refine AW.seq ?_
          obtain ⟨x19, hx20, hH⟩ := bindE hH
          refine AW.region ?_
          refine AO.pure T (d := .g [.R 9, .R 10]) rfl rfl rfl ?_
          refine AO.pure T rfl rfl rfl ?_
          refine AO.val rfl rfl (callLV_ok rfl rfl rfl (es := [.g (encWorld (World.mk x17.1.seasons x17.1.weights)), .v (.int .i64 1)]) ⟨lend_g (LendL.cons ((.rowR rfl (.map fun y => frzSeason y))) (LendL.cons ((.rowR rfl (.map fun y => .vs rfl))) LendL.nil)), .free rfl, trivial⟩ (laws_heldWorld_ok _ _ _ (hx20)) (zfree_v _) rfl) ?_
          refine AO.pure T rfl rfl rfl ?_
          refine AO.nil ?_
          refine AW.seq ?_
          refine AW.seq ?_
          refine AW.region ?_
          refine AO.pure T rfl rfl rfl ?_
          refine AO.pure T rfl rfl rfl ?_
          refine AO.nil ?_
          refine AW.cond (b := decide (x19 < 0)) rfl (fun hc => ?_) (fun hc => ?_)
          · replace hH := condT hc hH
            refine AW.seq ?_
            refine AW.region ?_
            refine AO.pure T rfl rfl rfl ?_
            refine AO.nil ?_
            refine AW.ret ?_
            cases someE hH
            exact ⟨trivial, _, [], rfl, .c (.c .v), by decide⟩
          · replace hH := condF hc hH
            refine AW.skip ?_
            refine AW.seq ?_
            refine AW.seq ?_
            refine AW.region ?_
            refine AO.pure T rfl rfl rfl ?_
            refine AO.pure T rfl rfl rfl ?_
            refine AO.pure T rfl rfl rfl ?_
            refine AO.nil ?_
            refine AW.cond (b := (x19 != x17.2)) rfl (fun hc => ?_) (fun hc => ?_)
            · replace hH := condT hc hH
              refine AW.seq ?_
              refine AW.region ?_
              refine AO.pure T rfl rfl rfl ?_
              refine AO.nil ?_
              refine AW.ret ?_
              cases someE hH
              exact ⟨trivial, _, [], rfl, .c (.c .v), by decide⟩
            · replace hH := condF hc hH
              refine AW.skip ?_
              refine AW.seq ?_
              refine AW.drawn 10 14 [] mix (by kernel_rfl) rfl ?_
              refine AD.pure T (d := .g [.s (List.map encSeason aW.seasons), .s (List.map encInt aW.weights)]) rfl rfl rfl ?_
              refine AD.q (FStep.call rfl rfl rfl rfl rfl (laws_toWorld_ok _ _ (hx4)) rfl rfl) (impT_names _ _) (impT_le _ _) rfl ?_
              refine AD.pure T (d := .g [.v (.int .i64 aE.event), .v (.int .i64 aE.skater), .v (.int .i64 aE.points)]) rfl rfl rfl ?_
              refine AD.val rfl rfl (callV_ok rfl rfl rfl rfl (laws_toEntry_ok _ _ (hx6)) rfl) ?_
              refine AD.qd rfl (FStep.callL rfl rfl rfl rfl (es := [.g (encWorld x3), .g (encEntry x5)]) ⟨lend_g (LendL.cons ((.rowR rfl (.map fun y => frzSeason y))) (LendL.cons ((.rowR rfl (.map fun y => .vs rfl))) LendL.nil)), .free rfl, trivial⟩ (impl_AddToWorld_ok fuel _ _ _ (hx10)) (zfree_t (zfl (.cons (zfree_g (zfl (.cons (zfree_map (fun y => (.cons (zfree_v _) (.cons (zfree_map (fun y => (.cons (zfree_v _) (.cons (zfree_map (fun y => (.cons (zfree_v _) .nil))) (.cons (zfree_map (fun y => (.cons (zfree_v _) .nil))) .nil))))) .nil)))) (.cons (zfree_map (fun y => (.cons (zfree_v _) .nil))) .nil)))) (.cons (zfree_v _) .nil)))) rfl rfl) (impT_names _ _) (impT_le _ _) rfl ?_
              refine AD.pure T rfl rfl rfl ?_
              refine AD.pure T (d := .g [.R 16, .R 17]) rfl rfl rfl ?_
              refine AD.pure T rfl rfl rfl ?_
              refine AD.q (FStep.alloc T rfl rfl rfl rfl rfl rfl) (by simp [namesIn]) (Nat.le_succ _) rfl ?_
              refine AD.k rfl rfl (FStep.store_p T rfl rfl rfl rfl rfl rfl rfl rfl rfl rfl rfl) rfl rfl rfl ?_
              refine AD.nil ?_
              refine AO.pure T rfl rfl rfl ?_
              refine AO.nil ?_
              refine AW.seq ?_
              refine AW.seq ?_
              refine AW.region ?_
              refine AO.pure T (d := .g [.R 16, .R 17]) rfl rfl rfl ?_
              refine AO.pure T (d := .g [.R 3, .R 4]) rfl rfl rfl ?_
              refine AO.val rfl rfl (callLV_ok rfl rfl rfl (es := [.g (encWorld (World.mk x9.1.seasons x9.1.weights)), .g (encWorld (World.mk x7.1.seasons x7.1.weights))]) ⟨lend_g (LendL.cons ((.rowR rfl (.map fun y => frzSeason y))) (LendL.cons ((.rowR rfl (.map fun y => .vs rfl))) LendL.nil)), lend_g (LendL.cons ((.rowR rfl (.map fun y => .vs rfl))) (LendL.cons ((.rowR rfl (.map fun y => .vs rfl))) LendL.nil)), trivial⟩ (laws_eqWorld_ok _ _ _ (hx12)) (zfree_v _) rfl) ?_
              refine AO.pure T rfl rfl rfl ?_
              refine AO.pure T rfl rfl rfl ?_
              refine AO.pureG T [] rfl trivial rfl rfl ?_
              refine AO.pureG T [] rfl trivial rfl rfl ?_
              refine AO.pureG T [92, 93] rfl ⟨fun h => h, fun h => h, trivial⟩ rfl rfl ?_
              refine AO.val rfl rfl (pick_or rfl rfl rfl rfl) ?_
              refine AO.nil ?_
              refine AW.le (Le.cut 0 0 (σ' := (⟨[(9, .p 11 0), (12, .v (.int .i64 x17.2)), (95, .v (.bool ((!x11) || (!(x9.2 == x7.2)))))], [(9, .row 2 (List.map encSeasonO x17.1.seasons)), (10, .row 1 (List.map encInt x17.1.weights)), (11, .box [.R 9, .R 10])], 104, []⟩ : St)) rfl (by repeat' (first | exact trivial | refine ⟨⟨_, rfl, rfl⟩, ?_⟩)) (by repeat' (first | exact trivial | refine ⟨⟨_, rfl, rfl⟩, ?_⟩)) rfl) ?_
              refine AW.cond (b := ((!x11) || (!(x9.2 == x7.2)))) rfl (fun hc => ?_) (fun hc => ?_)
              · replace hH := condT hc hH
                refine AW.seq ?_
                refine AW.region ?_
                refine AO.pure T rfl rfl rfl ?_
                refine AO.nil ?_
                refine AW.ret ?_
                cases someE hH
                exact ⟨trivial, _, [], rfl, .c (.c .v), by decide⟩
              · replace hH := condF hc hH
                refine AW.skip ?_
                refine AW.seq ?_
                refine AW.region ?_
                refine AO.pure T rfl rfl rfl ?_
                refine AO.nil ?_
                refine AW.seq ?_
                refine AW.region ?_
                refine AO.pure T (d := .g [.R 9, .R 10]) rfl rfl rfl ?_
                refine AO.pure T rfl rfl rfl ?_
                refine AO.val rfl rfl (callLV_ok rfl rfl rfl (es := [.g (encWorld (World.mk x17.1.seasons x17.1.weights)), .v (.int .i64 1)]) ⟨lend_g (LendL.cons ((.rowR rfl (.map fun y => frzSeason y))) (LendL.cons ((.rowR rfl (.map fun y => .vs rfl))) LendL.nil)), .free rfl, trivial⟩ (laws_heldWorld_ok _ _ _ (hx20)) (zfree_v _) rfl) ?_
                refine AO.pure T rfl rfl rfl ?_
                refine AO.nil ?_
                refine AW.seq ?_
                refine AW.seq ?_
                refine AW.region ?_
                refine AO.pure T rfl rfl rfl ?_
                refine AO.pure T rfl rfl rfl ?_
                refine AO.nil ?_
                refine AW.cond (b := decide (x19 < 0)) rfl (fun hc => ?_) (fun hc => ?_)
                · replace hH := condT hc hH
                  refine AW.seq ?_
                  refine AW.region ?_
                  refine AO.pure T rfl rfl rfl ?_
                  refine AO.nil ?_
                  refine AW.ret ?_
                  cases someE hH
                  exact ⟨trivial, _, [], rfl, .c (.c .v), by decide⟩
                · replace hH := condF hc hH
                  refine AW.skip ?_
                  refine AW.seq ?_
                  refine AW.seq ?_
                  refine AW.region ?_
                  refine AO.pure T rfl rfl rfl ?_
                  refine AO.pure T rfl rfl rfl ?_
                  refine AO.pure T rfl rfl rfl ?_
                  refine AO.nil ?_
                  refine AW.cond (b := (x19 != x17.2)) rfl (fun hc => ?_) (fun hc => ?_)
                  · replace hH := condT hc hH
                    refine AW.seq ?_
                    refine AW.region ?_
                    refine AO.pure T rfl rfl rfl ?_
                    refine AO.nil ?_
                    refine AW.ret ?_
                    cases someE hH
                    exact ⟨trivial, _, [], rfl, .c (.c .v), by decide⟩
                  · replace hH := condF hc hH
                    refine AW.skip ?_
                    refine AW.seq ?_
                    refine AW.region ?_
                    refine AO.pure T rfl rfl rfl ?_
                    refine AO.nil ?_
                    refine AW.ret ?_
                    cases someE hH
                    exact ⟨trivial, _, [], rfl, .c (.c .v), by decide⟩

end Go.Proofs.Ytekdnjnefbkikaa

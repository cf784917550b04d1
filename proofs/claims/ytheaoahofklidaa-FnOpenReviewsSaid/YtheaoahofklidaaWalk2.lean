/- The walk, part 2: what each function reached by the law FnOpenReviews computes. No condition. -/
import Derived.Test.YtheaoahofklidaaWalk1
set_option maxRecDepth 4000
set_option maxHeartbeats 1000000
set_option linter.unusedVariables false
set_option linter.unusedSimpArgs false
set_option linter.unusedSectionVars false

namespace Go.Proofs.Ytheaoahofklidaa
open Go.AM

def impl_StateAt_p (fuel : Nat) (l : List Item) (h : List Change) (tick : Int) : Option ((List Item) × Bool) :=
  (impl_isHistory_p fuel l h).bind fun x1 =>
  (opt (!(!x1)) default (impl_isTick_p tick)).bind fun x3 =>
  cond ((!x1) || (!x3))
    (some ([], false))
    ((impl_stateOf_p l h tick).bind fun x5 =>
    (match x5.1 with
      | none =>
        none
      | some p4_0 =>
        some (p4_0.items, true)))
theorem impl_StateAt_ok (fuel : Nat) (l : List Item) (h : List Change) (tick : Int) (r : ((List Item) × Bool)) (hH : impl_StateAt_p fuel l h tick = some r) : SpecR Try.prog 6 [.s (List.map encItem l), .s (List.map encChange h), tick] (.t [.w 3 (r.1.map encItemO), .v (.bool r.2)]) := by
 refine fn_ok T Try.func6 rfl (by decide) rfl ?_
 refine AW.seq (AW.region ?_)
 iterate 2 refine AO.pu T ?_
 refine AO.nil ?_
 iterate 2 refine AW.seq ?_
 obtain ⟨x1, hx2, hH⟩ := bindE hH
 obtain ⟨x3, hx4, hH⟩ := bindE hH
 refine AW.region ?_
 iterate 2 refine AO.pu T ?_
 refine AO.val rfl rfl (callV_ok rfl rfl rfl rfl (impl_isHistory_ok fuel _ _ _ (hx2)) rfl) ?_
 iterate 2 refine AO.pu T ?_
 refine AO.pureG T [] rfl trivial rfl rfl ?_
 refine AO.guard [15] rfl ⟨fun h => h, trivial⟩ (fun hg => callV_ok rfl rfl rfl rfl (impl_isTick_ok _ _ (optT hx4 hg)) rfl) rfl ?_
 refine AO.pureG T [16] rfl ⟨fun h => h, trivial⟩ rfl rfl ?_
 refine AO.val rfl rfl (pick_or rfl rfl rfl rfl) ?_
 refine AO.nil ?_
 refine AW.cond (b := ((!x1) || (!x3))) rfl (fun hc => ?_) (fun hc => ?_)
 replace hH := condT hc hH
 refine AW.seq (AW.region ?_)
 iterate 2 refine AO.pu T ?_
 refine AO.nil (AW.ret ?_)
 have hR := someE hH; subst hR
 exact retQ.i [] rfl (.t (expLG_cons (.c .nil) (expLG_cons (.c .v) (expLG_nil))))
 replace hH := condF hc hH
 refine AW.skip ?_
 refine AW.seq ?_
 obtain ⟨x5, hx6, hH⟩ := bindE hH
 rcases hq4_0 : x5.1 with _ | p4_0
 rw [hq4_0] at hH
 try dsimp only at hH
 refine AW.region ?_
 iterate 3 refine AO.pu T ?_
 refine AO.step rfl (call_ok rfl 1 rfl rfl rfl ((by have q := impl_stateOf_ok _ _ _ _ (hx6); rw [hq4_0] at q; exact q)) rfl rfl rfl) ?_
 iterate 5 refine AO.pu T ?_
 refine AO.nil (AW.seq ?_)
 cases hH
 rw [hq4_0] at hH
 try dsimp only at hH
 refine AW.region ?_
 iterate 3 refine AO.pu T ?_
 refine AO.step rfl (call_ok rfl 1 rfl rfl rfl ((by have q := impl_stateOf_ok _ _ _ _ (hx6); rw [hq4_0] at q; exact q)) rfl rfl rfl) ?_
 iterate 5 refine AO.pu T ?_
 refine AO.nil (AW.seq ?_)
 refine AW.region ?_
 iterate 6 refine AO.pu T ?_
 refine AO.nil ?_
 refine AW.le (Le.ct 0 0 (σ' := (⟨[(6, .R 2), (7, .v (.bool true))], [(2, .row 3 (List.map encItemO p4_0.items))], 30, []⟩ : St))) ?_
 refine AW.ret ?_
 have hR := someE hH; subst hR
 exact retQ.i [2] rfl (.t (expLG_cons (.c (.rowR rfl)) (expLG_cons (.c .v) (expLG_nil))))

def spec_hiAsked_p (fuel : Nat) (l : List Item) (h : List Change) : Option Bool :=
  (spec_itList_p fuel l).bind fun x1 =>
  (opt x1 default (spec_hiGood_p l h)).bind fun x3 =>
  some (x1 && x3)
theorem spec_hiAsked_ok (fuel : Nat) (l : List Item) (h : List Change) (r : Bool) (hH : spec_hiAsked_p fuel l h = some r) : SpecR Try.prog 50 [.s (List.map encItem l), .s (List.map encChange h)] (.v (.bool r)) := by
 refine fn_ok T Try.func50 rfl (by decide) rfl ?_
 refine AW.seq (AW.region ?_)
 refine AO.pu T ?_
 refine AO.nil (AW.seq ?_)
 obtain ⟨x1, hx2, hH⟩ := bindE hH
 obtain ⟨x3, hx4, hH⟩ := bindE hH
 refine AW.region ?_
 refine AO.pu T ?_
 refine AO.val rfl rfl (callV_ok rfl rfl rfl rfl (spec_itList_ok fuel _ _ (hx2)) rfl) ?_
 refine AO.pu T ?_
 iterate 2 refine AO.pureG T [] rfl trivial rfl rfl ?_
 refine AO.guard [8, 9] rfl ⟨fun h => h, fun h => h, trivial⟩ (fun hg => callV_ok rfl rfl rfl rfl (spec_hiGood_ok _ _ _ (optT hx4 hg)) rfl) rfl ?_
 refine AO.val rfl rfl (pick_and rfl rfl rfl rfl) ?_
 refine AO.pu T ?_
 refine AO.nil (AW.ret ?_)
 have hR := someE hH; subst hR
 exact retQ.i [] rfl (.c (.c .v))

def spec_StateAt_p (fuel : Nat) (l : List Item) (h : List Change) (tick : Int) : Option ((List Item) × Bool) :=
  (spec_hiAsked_p fuel l h).bind fun x1 =>
  (opt (!(!x1)) default (spec_l1In_p tick 0 100000)).bind fun x3 =>
  cond ((!x1) || (!x3))
    (some ([], false))
    ((spec_hiRun_p l h tick).bind fun x5 =>
    some (x5.1.items, true))
theorem spec_StateAt_ok (fuel : Nat) (l : List Item) (h : List Change) (tick : Int) (r : ((List Item) × Bool)) (hH : spec_StateAt_p fuel l h tick = some r) : SpecR Try.prog 7 [.s (List.map encItem l), .s (List.map encChange h), tick] (.t [.w 3 (r.1.map encItemO), .v (.bool r.2)]) := by
 refine fn_ok T Try.func7 rfl (by decide) rfl ?_
 refine AW.seq (AW.region ?_)
 iterate 2 refine AO.pu T ?_
 refine AO.nil ?_
 iterate 2 refine AW.seq ?_
 obtain ⟨x1, hx2, hH⟩ := bindE hH
 obtain ⟨x3, hx4, hH⟩ := bindE hH
 refine AW.region ?_
 iterate 2 refine AO.pu T ?_
 refine AO.val rfl rfl (callV_ok rfl rfl rfl rfl (spec_hiAsked_ok fuel _ _ _ (hx2)) rfl) ?_
 iterate 2 refine AO.pu T ?_
 refine AO.pureG T [] rfl trivial rfl rfl ?_
 refine AO.guard [15] rfl ⟨fun h => h, trivial⟩ (fun hg => callV_ok rfl rfl rfl rfl (spec_l1In_ok _ _ _ _ (optT hx4 hg)) rfl) rfl ?_
 refine AO.pureG T [16] rfl ⟨fun h => h, trivial⟩ rfl rfl ?_
 refine AO.val rfl rfl (pick_or rfl rfl rfl rfl) ?_
 refine AO.nil ?_
 refine AW.cond (b := ((!x1) || (!x3))) rfl (fun hc => ?_) (fun hc => ?_)
 replace hH := condT hc hH
 refine AW.seq (AW.region ?_)
 iterate 2 refine AO.pu T ?_
 refine AO.nil (AW.ret ?_)
 have hR := someE hH; subst hR
 exact retQ.i [] rfl (.t (expLG_cons (.c .nil) (expLG_cons (.c .v) (expLG_nil))))
 replace hH := condF hc hH
 refine AW.skip ?_
 refine AW.seq ?_
 obtain ⟨x5, hx6, hH⟩ := bindE hH
 refine AW.region ?_
 iterate 3 refine AO.pu T ?_
 refine AO.step rfl (call_ok rfl 1 rfl rfl rfl (spec_hiRun_ok _ _ _ _ (hx6)) rfl rfl rfl) ?_
 iterate 5 refine AO.pu T ?_
 refine AO.nil (AW.seq ?_)
 refine AW.region ?_
 iterate 6 refine AO.pu T ?_
 refine AO.nil ?_
 refine AW.le (Le.ct 0 0 (σ' := (⟨[(6, .R 2), (7, .v (.bool true))], [(2, .row 3 (List.map encItemO x5.1.items))], 30, []⟩ : St))) ?_
 refine AW.ret ?_
 have hR := someE hH; subst hR
 exact retQ.i [2] rfl (.t (expLG_cons (.c (.rowR rfl)) (expLG_cons (.c .v) (expLG_nil))))

def impl_namesWhere_l2 (chosen : Int → Int → Option Bool) (k1 : Nat) (y2 : Item) : Nat → List (List Int) → Int → Option (List (List Int))
  | 0, _, _ => none
  | k104 + 1, v115, v116 =>
    cond (decide (v116 < (y2.names.length : Int)))
      ((chosen (k1 : Int) v116).bind fun x118 =>
      cond x118
        ((need (fitsB 24 (v115.length + ([[(k1 : Int), v116]]).length))).bind fun u120 =>
        impl_namesWhere_l2 chosen k1 y2 k104 (v115 ++ [[(k1 : Int), v116]]) (w64 (v116 + 1)))
        (impl_namesWhere_l2 chosen k1 y2 k104 v115 (w64 (v116 + 1))))
      (some v115)
def impl_namesWhere_l1 (chosen : Int → Int → Option Bool) (fuel : Nat) : List Item → Nat → List (List Int) → Option ((List (List Int)))
  | [], k1, v82 =>
    some v82
  | y2 :: ys3, k1, v82 =>
    (impl_namesWhere_l2 chosen k1 y2 fuel v82 0).bind fun v101 =>
    impl_namesWhere_l1 chosen fuel ys3 (k1 + 1) v101
def impl_namesWhere_p (fuel : Nat) (l : List Item) (chosen : Int → Int → Option Bool) : Option (List (List Int)) :=
  impl_namesWhere_l1 chosen fuel l 0 []
theorem impl_namesWhere_ok (fuel : Nat) (l : List Item) (chosen_f : Nat) (chosen_c : List D) (chosen_k : chosen_c.all D.capOk = true) (chosen : Int → Int → Option Bool) (chosen_h : ∀ (a0 : Int) (a1 : Int) (q : Bool), chosen a0 a1 = some q → SpecR Try.prog chosen_f ([.v (.int .i64 a0), .v (.int .i64 a1)] ++ chosen_c) (.v (.bool q))) (r : (List (List Int))) (hH : impl_namesWhere_p fuel l chosen = some r) : SpecR Try.prog 53 [.s (List.map encItem l), .f chosen_f chosen_c] (.w 1 (r.map encLIntO)) := by
 have chosen_r := cap_cfree chosen_k
 refine fn_ok T Try.func53 rfl (by decide) rfl ?_
 refine AW.seq (AW.region ?_)
 refine AO.pu T ?_
 refine AO.nil (AW.seq ?_)
 refine AW.region ?_
 refine AO.step rfl (mk0_ok T rfl rfl rfl rfl) ?_
 refine AO.pu T ?_
 refine AO.nil ?_
 iterate 2 refine AW.seq ?_
 refine AW.region ?_
 refine AO.pu T ?_
 refine AO.val rfl rfl (len_map_ok T rfl rfl rfl) ?_
 refine AO.pu T ?_
 refine AO.nil ?_
 refine AW.block ?_
 refine AW.loopS (fun s : Nat × (List (List Int)) => (⟨[(1, .f chosen_f chosen_c), (5, .R 7), (10, .s (List.map encItem l)), (11, (l.length : Int)), (12, (s.1 : Int))], [(7, .row 1 (List.map encLIntO s.2))], 36, []⟩ : St)) (fun s => s.1 ≤ l.length ∧ impl_namesWhere_l1 chosen fuel (l.drop s.1) s.1 s.2 = some r) (fun s => l.length - s.1) (0, []) ⟨Nat.zero_le _, hH⟩ ?_ ?_
 refine Le.trans (Le.void 5 7 1 rfl rfl) ?_
 exact Le.cut 0 0 rfl ⟨⟨_, rfl, ren_fF chosen_r⟩, ⟨_, rfl, rfl⟩, ⟨_, rfl, rfl⟩, ⟨_, rfl, rfl⟩, ⟨_, rfl, rfl⟩, trivial⟩ (by repeat' (first | exact trivial | refine ⟨⟨_, rfl, rfl⟩, ?_⟩)) (andT (allC (known_fF chosen_r) (allC rfl (allC rfl (allC rfl (allC rfl allN))))) rfl)
 rintro ⟨k1, v82⟩ ⟨hk, hH⟩
 replace hH : impl_namesWhere_l1 chosen fuel (l.drop k1) k1 v82 = some r := hH
 try dsimp only
 refine AW.boundM (t := 10) (l := l) rfl (fun hb5 => ?_)
 rcases hd4 : l.drop k1 with _ | ⟨y2, ys3⟩
 rw [hd4, impl_namesWhere_l1] at hH
 have hlt6 := drop_ge hd4
 refine AW.seq (AW.region ?_)
 refine AO.pu T ?_
 refine AO.nil (AW.seq ?_)
 refine AW.condF' (b := decide ((k1 : Int) < (l.length : Int))) rfl (rngF hlt6) ?_
 refine AW.exit ?_
 refine AW.seq (AW.region ?_)
 iterate 2 refine AO.pu T ?_
 refine AO.nil (AW.ret ?_)
 have hR := someE hH; subst hR
 exact retQ.i [7] rfl (.c (.c (.rowR rfl)))
 rw [hd4, impl_namesWhere_l1] at hH
 have hlt6 := drop_lt hd4
 refine AW.seq (AW.region ?_)
 refine AO.pu T ?_
 refine AO.nil (AW.seq ?_)
 refine AW.condT' (b := decide ((k1 : Int) < (l.length : Int))) rfl (rngT hlt6) ?_
 refine AW.skip ?_
 obtain ⟨o102, hH, hK103⟩ := bindE hH
 refine AW.seqJ (fun s : List (List Int) => (⟨[(1, .f chosen_f chosen_c), (5, .R 7), (10, .s (List.map encItem l)), (11, (l.length : Int)), (12, (k1 : Int))], [(7, .row 1 (List.map encLIntO s))], 36, []⟩ : St)) (fun s => s = o102) ?_ ?_
 refine AW.block ?_
 refine AW.seq (AW.region ?_)
 refine AO.pu T ?_
 refine AO.val rfl rfl (ix_map_ok T rfl rfl rfl rfl rfl (getI_drop hd4) rfl) ?_
 refine AO.pu T (d := .g [.s (List.map encStr y2.names), .s (List.map encInt y2.marks), .v (.bool y2.late)]) ?_
 refine AO.step rfl (alloc_ok T rfl 51 rfl rfl rfl rfl rfl) ?_
 refine AO.pu T ?_
 refine AO.se T [.s (List.map encStr y2.names), .s (List.map encInt y2.marks), .v (.bool y2.late)] ?_
 refine AO.nil (AW.seq ?_)
 refine AW.region ?_
 iterate 2 refine AO.pu T ?_
 refine AO.val rfl rfl (len_map_ok T rfl rfl rfl) ?_
 refine AO.pu T ?_
 refine AO.nil ?_
 refine AW.block ?_
 refine AW.loopS (fun s : Nat × (List (List Int)) × Int => (⟨[(1, .f chosen_f chosen_c), (5, .R 7), (6, (k1 : Int)), (10, .s (List.map encItem l)), (11, (l.length : Int)), (12, (k1 : Int)), (19, (y2.names.length : Int)), (20, s.2.2)], [(7, .row 1 (List.map encLIntO s.2.1))], 36, []⟩ : St)) (fun s => impl_namesWhere_l2 chosen k1 y2 s.1 s.2.1 s.2.2 = some o102) (fun s => s.1) (fuel, v82, 0) hH ?_ ?_
 exact Le.cut 0 0 rfl ⟨⟨_, rfl, ren_fF chosen_r⟩, ⟨_, rfl, rfl⟩, ⟨_, rfl, rfl⟩, ⟨_, rfl, rfl⟩, ⟨_, rfl, rfl⟩, ⟨_, rfl, rfl⟩, ⟨_, rfl, rfl⟩, ⟨_, rfl, rfl⟩, trivial⟩ (by repeat' (first | exact trivial | refine ⟨⟨_, rfl, rfl⟩, ?_⟩)) (andT (allC (known_fF chosen_r) (allC rfl (allC rfl (allC rfl (allC rfl (allC rfl (allC rfl (allC rfl allN)))))))) rfl)
 rintro ⟨k104, v115, v116⟩ hH
 replace hH : impl_namesWhere_l2 chosen k1 y2 k104 v115 v116 = some o102 := hH
 try dsimp only
 rcases k104 with _ | k104
 cases (show none = some _ from hH)
 rw [impl_namesWhere_l2] at hH
 refine AW.seq (AW.region ?_)
 refine AO.pu T ?_
 refine AO.nil (AW.seq ?_)
 refine AW.cond (b := decide (v116 < (y2.names.length : Int))) rfl (fun hc => ?_) (fun hc => ?_)
 replace hH := condT hc hH
 refine AW.skip ?_
 refine AW.seq ?_
 refine AW.block ?_
 refine AW.seq (AW.region ?_)
 iterate 2 refine AO.pu T ?_
 refine AO.nil (AW.seq ?_)
 obtain ⟨x118, hx119, hH⟩ := bindE hH
 refine AW.region ?_
 iterate 3 refine AO.pu T ?_
 refine AO.val rfl rfl (callV_ok rfl rfl rfl (andT rfl (free_cfree chosen_r)) (chosen_h _ _ _ (hx119)) rfl) ?_
 refine AO.nil ?_
 refine AW.cond (b := x118) rfl (fun hc => ?_) (fun hc => ?_)
 replace hH := condT hc hH
 obtain ⟨u120, hx121, hH⟩ := bindE hH
 refine AW.region ?_
 iterate 3 refine AO.pu T ?_
 refine AO.step rfl (mk_map_ok T rfl 58 rfl rfl rfl rfl rfl (f := encInt) (l := [(k1 : Int), v116]) rfl rfl (fun _ => rfl) rfl rfl rfl rfl rfl) ?_
 refine AO.step rfl (mk_o_ok T rfl 59 rfl rfl rfl rfl rfl rfl (f := encLIntO) (l := [[(k1 : Int), v116]]) (ids := [58]) rfl rfl (fun _ => rfl) (by exact expLC_cons (.rowR rfl) (expLC_nil)) (by decide) rfl rfl rfl rfl rfl) ?_
 refine AO.step rfl (app_rr_map T rfl 60 rfl rfl rfl rfl rfl (by decide) rfl rfl rfl rfl rfl (needT (hx121)) rfl rfl) ?_
 refine AO.pu T ?_
 refine AO.nil ?_
 refine AW.region ?_
 refine AO.val rfl rfl (arw_ok rfl rfl rfl rfl) ?_
 refine AO.pu T ?_
 refine AO.nil ?_
 refine ⟨(k104, (v115 ++ [[(k1 : Int), v116]]), w64 (v116 + 1)), hH, Nat.lt_succ_self _, ?_⟩
 exact Le.cut 60 7 rfl ⟨⟨_, rfl, ren_fF chosen_r⟩, ⟨_, rfl, rfl⟩, ⟨_, rfl, rfl⟩, ⟨_, rfl, rfl⟩, ⟨_, rfl, rfl⟩, ⟨_, rfl, rfl⟩, ⟨_, rfl, rfl⟩, ⟨_, rfl, rfl⟩, trivial⟩ (by repeat' (first | exact trivial | refine ⟨⟨_, rfl, rfl⟩, ?_⟩)) (andT (allC (known_fF chosen_r) (allC rfl (allC rfl (allC rfl (allC rfl (allC rfl (allC rfl (allC rfl allN)))))))) rfl)
 replace hH := condF hc hH
 refine AW.skip ?_
 refine AW.region ?_
 refine AO.val rfl rfl (arw_ok rfl rfl rfl rfl) ?_
 refine AO.pu T ?_
 refine AO.nil ?_
 refine ⟨(k104, v115, w64 (v116 + 1)), hH, Nat.lt_succ_self _, ?_⟩
 exact Le.cut 0 0 rfl ⟨⟨_, rfl, ren_fF chosen_r⟩, ⟨_, rfl, rfl⟩, ⟨_, rfl, rfl⟩, ⟨_, rfl, rfl⟩, ⟨_, rfl, rfl⟩, ⟨_, rfl, rfl⟩, ⟨_, rfl, rfl⟩, ⟨_, rfl, rfl⟩, trivial⟩ (by repeat' (first | exact trivial | refine ⟨⟨_, rfl, rfl⟩, ?_⟩)) (andT (allC (known_fF chosen_r) (allC rfl (allC rfl (allC rfl (allC rfl (allC rfl (allC rfl (allC rfl allN)))))))) rfl)
 replace hH := condF hc hH
 refine AW.exit ?_
 refine ⟨_, someE hH, ?_⟩
 exact Le.cut 0 0 rfl ⟨⟨_, rfl, ren_fF chosen_r⟩, ⟨_, rfl, rfl⟩, ⟨_, rfl, rfl⟩, ⟨_, rfl, rfl⟩, ⟨_, rfl, rfl⟩, trivial⟩ (by repeat' (first | exact trivial | refine ⟨⟨_, rfl, rfl⟩, ?_⟩)) (andT (allC (known_fF chosen_r) (allC rfl (allC rfl (allC rfl (allC rfl allN))))) rfl)
 rintro v101 hs
 subst hs
 replace hH := hK103
 try dsimp only [flow, flowE] at hH
 try dsimp only
 refine AW.region ?_
 refine AO.val rfl rfl (ar_ok rfl rfl rfl rfl (inI_succ hlt6 hb5)) ?_
 refine AO.pu T ?_
 refine AO.nil ?_
 refine ⟨(k1 + 1, v101), ⟨Nat.succ_le_of_lt hlt6, (by rw [drop_succ_of hd4]; exact hH)⟩, (by have := hlt6; dsimp only; omega), ?_⟩
 exact Le.cut 0 0 rfl ⟨⟨_, rfl, ren_fF chosen_r⟩, ⟨_, rfl, rfl⟩, ⟨_, rfl, rfl⟩, ⟨_, rfl, rfl⟩, ⟨_, rfl, rfl⟩, trivial⟩ (by repeat' (first | exact trivial | refine ⟨⟨_, rfl, rfl⟩, ?_⟩)) (andT (allC (known_fF chosen_r) (allC rfl (allC rfl (allC rfl (allC rfl allN))))) rfl)

def impl_OpenReviews_c1_p (item : Int) (name : Int) (a : HistoryState) : Option Bool :=
  (need (mapOk a.open' (item, name))).bind fun u1 =>
  some (mget a.open' (item, name))
theorem impl_OpenReviews_c1_ok (item : Int) (name : Int) (a : HistoryState) (r : Bool) (hH : impl_OpenReviews_c1_p item name a = some r) : SpecR Try.prog 54 [item, name, .q [.q [.s (List.map encItem a.items), .mi (encMe a.open')]]] (.v (.bool r)) := by
 refine fn_ok T Try.func54 rfl (by decide) rfl ?_
 refine AW.seq (AW.region ?_)
 refine AO.pu T ?_
 refine AO.nil (AW.seq ?_)
 obtain ⟨u1, hx2, hH⟩ := bindE hH
 refine AW.region ?_
 iterate 6 refine AO.pu T ?_
 refine AO.pu T (d := .g [item, name]) ?_
 refine AO.val rfl rfl (lookupI_ok T (k := (item, name)) mapT0 rfl rfl rfl rfl rfl (needT (hx2))) ?_
 refine AO.pu T ?_
 refine AO.nil (AW.ret ?_)
 have hR := someE hH; subst hR
 exact retQ.i [] rfl (.c (.c .v))

def impl_OpenReviews_p (fuel : Nat) (l : List Item) (h : List Change) : Option ((List (List Int)) × Bool) :=
  (impl_isHistory_p fuel l h).bind fun x1 =>
  cond (!x1)
    (some ([], false))
    ((impl_stateOf_p l h 100000).bind fun x3 =>
    (match x3.1 with
      | none =>
        none
      | some p2_0 =>
        (impl_namesWhere_p fuel l (fun a0 a1 => impl_OpenReviews_c1_p a0 a1 p2_0)).bind fun x5 =>
        some (x5, true)))
theorem impl_OpenReviews_ok (fuel : Nat) (l : List Item) (h : List Change) (r : ((List (List Int)) × Bool)) (hH : impl_OpenReviews_p fuel l h = some r) : SpecR Try.prog 8 [.s (List.map encItem l), .s (List.map encChange h)] (.t [.w 1 (r.1.map encLIntO), .v (.bool r.2)]) := by
 refine fn_ok T Try.func8 rfl (by decide) rfl ?_
 refine AW.seq (AW.region ?_)
 iterate 2 refine AO.pu T ?_
 refine AO.nil ?_
 iterate 2 refine AW.seq ?_
 obtain ⟨x1, hx2, hH⟩ := bindE hH
 refine AW.region ?_
 iterate 2 refine AO.pu T ?_
 refine AO.val rfl rfl (callV_ok rfl rfl rfl rfl (impl_isHistory_ok fuel _ _ _ (hx2)) rfl) ?_
 refine AO.pu T ?_
 refine AO.nil ?_
 refine AW.cond (b := (!x1)) rfl (fun hc => ?_) (fun hc => ?_)
 replace hH := condT hc hH
 refine AW.seq (AW.region ?_)
 iterate 2 refine AO.pu T ?_
 refine AO.nil (AW.ret ?_)
 have hR := someE hH; subst hR
 exact retQ.i [] rfl (.t (expLG_cons (.c .nil) (expLG_cons (.c .v) (expLG_nil))))
 replace hH := condF hc hH
 refine AW.skip ?_
 refine AW.seq ?_
 obtain ⟨x3, hx4, hH⟩ := bindE hH
 rcases hq2_0 : x3.1 with _ | p2_0
 rw [hq2_0] at hH
 try dsimp only at hH
 refine AW.region ?_
 iterate 2 refine AO.pu T ?_
 refine AO.step rfl (call_ok rfl 1 rfl rfl rfl ((by have q := impl_stateOf_ok _ _ _ _ (hx4); rw [hq2_0] at q; exact q)) rfl rfl rfl) ?_
 iterate 3 refine AO.pu T ?_
 refine AO.step rfl (alloc_ok T rfl 1 rfl rfl rfl rfl rfl) ?_
 refine AO.se T [.v (.pointer none)] ?_
 refine AO.pu T ?_
 refine AO.nil (AW.seq ?_)
 cases hH
 rw [hq2_0] at hH
 try dsimp only at hH
 refine AW.region ?_
 iterate 2 refine AO.pu T ?_
 refine AO.step rfl (call_ok rfl 1 rfl rfl rfl ((by have q := impl_stateOf_ok _ _ _ _ (hx4); rw [hq2_0] at q; exact q)) rfl rfl rfl) ?_
 iterate 3 refine AO.pu T ?_
 refine AO.step rfl (alloc_ok T rfl 4 rfl rfl rfl rfl rfl) ?_
 refine AO.se T [.p 1 0] ?_
 refine AO.pu T ?_
 refine AO.nil (AW.seq ?_)
 obtain ⟨x5, hx6, hH⟩ := bindE hH
 refine AW.le (Le.freezeM 2 (g := encItem) rfl (fun y => frzItem y)) ?_
 refine AW.le (Le.freezeMp 3 rfl) ?_
 refine AW.le (Le.freezeB 1 rfl rfl) ?_
 refine AW.region ?_
 iterate 2 refine AO.pu T ?_
 refine AO.step rfl (callL_ok rfl 5 rfl rfl (es := [.s (List.map encItem l), .f 54 [.q [.q [.s (List.map encItem p2_0.items), .mi (encMe p2_0.open')]]]]) (by exact ⟨.free rfl, lend_f (LendL.cons (Lend.boxF rfl rfl) LendL.nil), trivial⟩) (impl_namesWhere_ok fuel _ 54 [.q [.q [.s (List.map encItem p2_0.items), .mi (encMe p2_0.open')]]] rfl (fun a0 a1 => impl_OpenReviews_c1_p a0 a1 p2_0) (fun a0 a1 q h => impl_OpenReviews_c1_ok a0 a1 p2_0 q h) _ (hx6)) (zfree_map (fun y => (.cons (zfree_map (fun y => (.cons (zfree_v _) .nil))) .nil))) rfl rfl rfl) ?_
 iterate 2 refine AO.pu T ?_
 refine AO.nil (AW.ret ?_)
 have hR := someE hH; subst hR
 exact retQ.i [5] rfl (.t (expLG_cons (.c (.rowR rfl)) (expLG_cons (.c .v) (expLG_nil))))

def spec_OpenReviews_l2 (v81 : Int) : List Bool → Nat → List (List Int) → Option (List (List Int))
  | [], k104, v115 =>
    some v115
  | y105 :: ys106, k104, v115 =>
    cond y105
      ((need (fitsB 24 (v115.length + ([[v81, (k104 : Int)]]).length))).bind fun u117 =>
      spec_OpenReviews_l2 v81 ys106 (k104 + 1) (v115 ++ [[v81, (k104 : Int)]]))
      (spec_OpenReviews_l2 v81 ys106 (k104 + 1) v115)
def spec_OpenReviews_l1 (x3 : (HiState × Bool)) : Nat → List (List Int) → List (List Bool) → Int → Option (((List (List Int)) × Bool))
  | 0, _, _, _ => none
  | k5 + 1, v79, v80, v81 =>
    cond (decide (v81 < (x3.1.open'.length : Int)))
      (((getI v80 v81).bind fun x102 =>
      spec_OpenReviews_l2 v81 x102 0 v79).bind fun v99 =>
      spec_OpenReviews_l1 x3 k5 v99 v80 (w64 (v81 + 1)))
      (some (v79, true))
def spec_OpenReviews_p (fuel : Nat) (l : List Item) (h : List Change) : Option ((List (List Int)) × Bool) :=
  (spec_hiAsked_p fuel l h).bind fun x1 =>
  cond (!x1)
    (some ([], false))
    ((spec_hiRun_p l h 100000).bind fun x3 =>
    spec_OpenReviews_l1 x3 fuel [] x3.1.open' 0)
theorem spec_OpenReviews_ok (fuel : Nat) (l : List Item) (h : List Change) (r : ((List (List Int)) × Bool)) (hH : spec_OpenReviews_p fuel l h = some r) : SpecR Try.prog 9 [.s (List.map encItem l), .s (List.map encChange h)] (.t [.w 1 (r.1.map encLInt), .v (.bool r.2)]) := by
 refine fn_ok T Try.func9 rfl (by decide) rfl ?_
 refine AW.seq (AW.region ?_)
 iterate 2 refine AO.pu T ?_
 refine AO.nil ?_
 iterate 2 refine AW.seq ?_
 obtain ⟨x1, hx2, hH⟩ := bindE hH
 refine AW.region ?_
 iterate 2 refine AO.pu T ?_
 refine AO.val rfl rfl (callV_ok rfl rfl rfl rfl (spec_hiAsked_ok fuel _ _ _ (hx2)) rfl) ?_
 refine AO.pu T ?_
 refine AO.nil ?_
 refine AW.cond (b := (!x1)) rfl (fun hc => ?_) (fun hc => ?_)
 replace hH := condT hc hH
 refine AW.seq (AW.region ?_)
 iterate 2 refine AO.pu T ?_
 refine AO.nil (AW.ret ?_)
 have hR := someE hH; subst hR
 exact retQ.i [] rfl (.t (expLG_cons (.c .nil) (expLG_cons (.c .v) (expLG_nil))))
 replace hH := condF hc hH
 refine AW.skip ?_
 refine AW.seq ?_
 obtain ⟨x3, hx4, hH⟩ := bindE hH
 refine AW.region ?_
 iterate 2 refine AO.pu T ?_
 refine AO.step rfl (call_ok rfl 1 rfl rfl rfl (spec_hiRun_ok _ _ _ _ (hx4)) rfl rfl rfl) ?_
 iterate 5 refine AO.pu T ?_
 refine AO.nil (AW.seq ?_)
 refine AW.region ?_
 refine AO.pu T ?_
 refine AO.nil ?_
 iterate 2 refine AW.seq ?_
 refine AW.region ?_
 iterate 4 refine AO.pu T ?_
 refine AO.val rfl rfl (len_row_ok T rfl rfl rfl rfl) ?_
 refine AO.pu T ?_
 refine AO.nil ?_
 refine AW.block ?_
 refine AW.loopS (fun s : Nat × (List (List Int)) × (List (List Bool)) × Int => (⟨[(8, .R 9), (26, .s (List.map encLBool s.2.2.1)), (27, (x3.1.open'.length : Int)), (28, s.2.2.2)], [(9, .row 1 (List.map encLInt s.2.1))], 50, []⟩ : St)) (fun s => spec_OpenReviews_l1 x3 s.1 s.2.1 s.2.2.1 s.2.2.2 = some r) (fun s => s.1) (fuel, [], x3.1.open', 0) hH ?_ ?_
 refine Le.trans (Le.void 8 9 1 rfl rfl) ?_
 refine Le.trans (Le.freezeM 3 (g := encLBool) rfl (fun y => frzLBool y)) ?_
 exact Le.ct 0 0
 rintro ⟨k5, v79, v80, v81⟩ hH
 replace hH : spec_OpenReviews_l1 x3 k5 v79 v80 v81 = some r := hH
 try dsimp only
 rcases k5 with _ | k5
 cases (show none = some _ from hH)
 rw [spec_OpenReviews_l1] at hH
 refine AW.seq (AW.region ?_)
 refine AO.pu T ?_
 refine AO.nil (AW.seq ?_)
 refine AW.cond (b := decide (v81 < (x3.1.open'.length : Int))) rfl (fun hc => ?_) (fun hc => ?_)
 replace hH := condT hc hH
 refine AW.skip ?_
 obtain ⟨o100, hH, hK101⟩ := bindE hH
 refine AW.seqJ (fun s : List (List Int) => (⟨[(8, .R 9), (26, .s (List.map encLBool v80)), (27, (x3.1.open'.length : Int)), (28, v81)], [(9, .row 1 (List.map encLInt s))], 50, []⟩ : St)) (fun s => s = o100) ?_ ?_
 refine AW.block ?_
 refine AW.seq ?_
 obtain ⟨x102, hx103, hH⟩ := bindE hH
 refine AW.region ?_
 refine AO.pu T ?_
 refine AO.val rfl rfl (ix_map_ok T rfl rfl rfl rfl rfl (hx103) rfl) ?_
 iterate 3 refine AO.pu T ?_
 refine AO.nil (AW.seq ?_)
 refine AW.region ?_
 refine AO.pu T ?_
 refine AO.val rfl rfl (len_map_ok T rfl rfl rfl) ?_
 refine AO.pu T ?_
 refine AO.nil ?_
 refine AW.block ?_
 refine AW.loopS (fun s : Nat × (List (List Int)) => (⟨[(8, .R 9), (9, v81), (26, .s (List.map encLBool v80)), (27, (x3.1.open'.length : Int)), (28, v81), (33, .s (List.map encBool x102)), (34, (x102.length : Int)), (35, (s.1 : Int))], [(9, .row 1 (List.map encLInt s.2))], 50, []⟩ : St)) (fun s => s.1 ≤ x102.length ∧ spec_OpenReviews_l2 v81 (x102.drop s.1) s.1 s.2 = some o100) (fun s => x102.length - s.1) (0, v79) ⟨Nat.zero_le _, hH⟩ ?_ ?_
 exact Le.ct 0 0
 rintro ⟨k104, v115⟩ ⟨hk, hH⟩
 replace hH : spec_OpenReviews_l2 v81 (x102.drop k104) k104 v115 = some o100 := hH
 try dsimp only
 refine AW.boundM (t := 33) (l := x102) rfl (fun hb108 => ?_)
 rcases hd107 : x102.drop k104 with _ | ⟨y105, ys106⟩
 rw [hd107, spec_OpenReviews_l2] at hH
 have hlt109 := drop_ge hd107
 refine AW.seq (AW.region ?_)
 refine AO.pu T ?_
 refine AO.nil (AW.seq ?_)
 refine AW.condF' (b := decide ((k104 : Int) < (x102.length : Int))) rfl (rngF hlt109) ?_
 refine AW.exit ?_
 refine ⟨_, someE hH, ?_⟩
 exact Le.ct 0 0
 rw [hd107, spec_OpenReviews_l2] at hH
 have hlt109 := drop_lt hd107
 refine AW.seq (AW.region ?_)
 refine AO.pu T ?_
 refine AO.nil (AW.seq ?_)
 refine AW.condT' (b := decide ((k104 : Int) < (x102.length : Int))) rfl (rngT hlt109) ?_
 refine AW.skip ?_
 refine AW.seq ?_
 refine AW.block ?_
 refine AW.seq (AW.region ?_)
 refine AO.pu T ?_
 refine AO.val rfl rfl (ix_map_ok T rfl rfl rfl rfl rfl (getI_drop hd107) rfl) ?_
 iterate 3 refine AO.pu T ?_
 refine AO.nil (AW.seq ?_)
 refine AW.region ?_
 refine AO.pu T ?_
 refine AO.nil ?_
 refine AW.cond (b := y105) rfl (fun hc => ?_) (fun hc => ?_)
 replace hH := condT hc hH
 obtain ⟨u117, hx118, hH⟩ := bindE hH
 refine AW.region ?_
 iterate 3 refine AO.pu T ?_
 refine AO.step rfl (mk_map_ok T rfl 55 rfl rfl rfl rfl rfl (f := encInt) (l := [v81, (k104 : Int)]) rfl rfl (fun _ => rfl) rfl rfl rfl rfl rfl) ?_
 refine AO.le (Le.freezeM 55 (g := encInt) rfl (fun y => .vs rfl)) ?_
 refine AO.step rfl (mk_map_ok T rfl 56 rfl rfl rfl rfl rfl (f := encLInt) (l := [[v81, (k104 : Int)]]) rfl rfl (fun _ => rfl) rfl rfl rfl rfl rfl) ?_
 refine AO.step rfl (app_rv_map T rfl 57 rfl rfl rfl rfl rfl (by decide) rfl rfl rfl rfl (fun _ => rfl) (needT (hx118)) rfl rfl) ?_
 refine AO.pu T ?_
 refine AO.nil ?_
 refine AW.region ?_
 refine AO.val rfl rfl (ar_ok rfl rfl rfl rfl (inI_succ hlt109 hb108)) ?_
 refine AO.pu T ?_
 refine AO.nil ?_
 refine ⟨(k104 + 1, (v115 ++ [[v81, (k104 : Int)]])), ⟨Nat.succ_le_of_lt hlt109, (by rw [drop_succ_of hd107]; exact hH)⟩, (by have := hlt109; dsimp only; omega), ?_⟩
 exact Le.ct 57 9
 replace hH := condF hc hH
 refine AW.skip ?_
 refine AW.region ?_
 refine AO.val rfl rfl (ar_ok rfl rfl rfl rfl (inI_succ hlt109 hb108)) ?_
 refine AO.pu T ?_
 refine AO.nil ?_
 refine ⟨(k104 + 1, v115), ⟨Nat.succ_le_of_lt hlt109, (by rw [drop_succ_of hd107]; exact hH)⟩, (by have := hlt109; dsimp only; omega), ?_⟩
 exact Le.ct 0 0
 rintro v99 hs
 subst hs
 replace hH := hK101
 try dsimp only [flow, flowE] at hH
 try dsimp only
 refine AW.region ?_
 refine AO.val rfl rfl (arw_ok rfl rfl rfl rfl) ?_
 refine AO.pu T ?_
 refine AO.nil ?_
 refine ⟨(k5, v99, v80, w64 (v81 + 1)), hH, Nat.lt_succ_self _, ?_⟩
 exact Le.ct 0 0
 replace hH := condF hc hH
 refine AW.exit ?_
 refine AW.seq (AW.region ?_)
 iterate 3 refine AO.pu T ?_
 refine AO.nil (AW.ret ?_)
 have hR := someE hH; subst hR
 exact retQ.i [9] rfl (.t (expLG_cons (.c (.rowR rfl)) (expLG_cons (.c .v) (expLG_nil))))

def spec_l1Cur_nameOf_p (c : L1Cur) (l : List Item) : Option (L1Cur × Int × Int) :=
  (opt (!((l.length : Int) == 0)) (c, default) (spec_l1Cur_one_p c 12)).bind fun x1 =>
  cond (((l.length : Int) == 0) || x1.2)
    ((spec_l1Cur_pick_p (L1Cur.mk x1.1.code x1.1.at' x1.1.seed) 4).bind fun x3 =>
    (spec_l1Cur_pick_p (L1Cur.mk x3.1.code x3.1.at' x3.1.seed) 4).bind fun x5 =>
    some ((L1Cur.mk x5.1.code x5.1.at' x5.1.seed), w64 (x3.2 - 1), w64 (x5.2 - 1)))
    ((spec_l1Cur_pick_p (L1Cur.mk x1.1.code x1.1.at' x1.1.seed) (l.length : Int)).bind fun x7 =>
    (getI l x7.2).bind fun x9 =>
    (spec_l1Cur_pick_p (L1Cur.mk x7.1.code x7.1.at' x7.1.seed) (x9.names.length : Int)).bind fun x11 =>
    some ((L1Cur.mk x11.1.code x11.1.at' x11.1.seed), x7.2, x11.2))
theorem spec_l1Cur_nameOf_ok (c : L1Cur) (l : List Item) (r : (L1Cur × Int × Int)) (hH : spec_l1Cur_nameOf_p c l = some r) : SpecM Try.prog 55 [.pw (encL1Cur c), .s (List.map encItem l)] [.pw (encL1Cur r.1), .u] (.t [.v (.int .i64 r.2.1), .v (.int .i64 r.2.2)]) := by
 refine fn_okM T Try.func55 rfl (by decide) rfl rfl ?_
 intro L
 show AW _ _ _ (⟨[(0, .p 1 0), (1, .s (List.map encItem l))], [(1, .box [.s (List.map encInt_u8 c.code), c.at', .v (.int .u64 c.seed)])], 33, [(1, L 1)]⟩ : St)
 refine AW.seq (AW.region ?_)
 iterate 2 refine AO.pu T ?_
 refine AO.nil ?_
 iterate 2 refine AW.seq ?_
 obtain ⟨x1, hx2, hH⟩ := bindE hH
 refine AW.region ?_
 refine AO.pu T ?_
 refine AO.val rfl rfl (len_map_ok T rfl rfl rfl) ?_
 iterate 2 refine AO.pu T ?_
 refine AO.pureG T [] rfl trivial rfl rfl ?_
 refine AO.guardP (id := 1) (cs' := [.s (List.map encInt_u8 x1.1.code), x1.1.at', .v (.int .u64 x1.1.seed)]) (r := .v (.bool x1.2)) [11] rfl ⟨fun h => h, trivial⟩ (fun hg => callM_ok rfl 2 rfl rfl (es := [.pw (encL1Cur c), .v (.int .i64 12)]) (outs := [.pw (encL1Cur x1.1), .u]) (ids := [1]) (by exact expLG_cons (.c (.box rfl rfl)) (expLG_cons (.c .v) (expLG_nil))) (by decide) (.inl (by rfl)) (by rfl) (spec_l1Cur_one_ok _ _ _ (optT hx2 hg)) rfl (by rfl) rfl) rfl (fun hg => by have q := optF hx2 hg; subst q; rfl) rfl ?_
 refine AO.val rfl rfl (pick_or rfl rfl rfl rfl) ?_
 refine AO.nil ?_
 refine AW.cond (b := (((l.length : Int) == 0) || x1.2)) rfl (fun hc => ?_) (fun hc => ?_)
 replace hH := condT hc hH
 refine AW.seq ?_
 obtain ⟨x3, hx4, hH⟩ := bindE hH
 obtain ⟨x5, hx6, hH⟩ := bindE hH
 refine AW.region ?_
 refine AO.pu T ?_
 refine AO.step rfl (callM_ok rfl 2 rfl rfl (es := [.pw (encL1Cur (L1Cur.mk x1.1.code x1.1.at' x1.1.seed)), .v (.int .i64 4)]) (outs := [.pw (encL1Cur x3.1), .u]) (ids := [1]) (by exact expLG_cons (.c (.box rfl rfl)) (expLG_cons (.c .v) (expLG_nil))) (by decide) (.inl (by rfl)) (by rfl) (spec_l1Cur_pick_ok _ _ _ (hx4)) rfl (by rfl) rfl) ?_
 refine AO.val rfl rfl (arw_ok rfl rfl rfl rfl) ?_
 refine AO.pu T ?_
 refine AO.step rfl (callM_ok rfl 2 rfl rfl (es := [.pw (encL1Cur (L1Cur.mk x3.1.code x3.1.at' x3.1.seed)), .v (.int .i64 4)]) (outs := [.pw (encL1Cur x5.1), .u]) (ids := [1]) (by exact expLG_cons (.c (.box rfl rfl)) (expLG_cons (.c .v) (expLG_nil))) (by decide) (.inl (by rfl)) (by rfl) (spec_l1Cur_pick_ok _ _ _ (hx6)) rfl (by rfl) rfl) ?_
 refine AO.val rfl rfl (arw_ok rfl rfl rfl rfl) ?_
 iterate 2 refine AO.pu T ?_
 refine AO.nil (AW.ret ?_)
 have hR := someE hH; subst hR
 exact ⟨trivial, rfl, _, [], [1], rfl, expLG_cons (.c (.box rfl rfl)) (expLG_cons (.c .u) (expLG_nil)), .t (expLG_cons (.c .v) (expLG_cons (.c .v) (expLG_nil))), by decide⟩
 replace hH := condF hc hH
 refine AW.skip ?_
 refine AW.seq ?_
 obtain ⟨x7, hx8, hH⟩ := bindE hH
 refine AW.region ?_
 iterate 2 refine AO.pu T ?_
 refine AO.val rfl rfl (len_map_ok T rfl rfl rfl) ?_
 refine AO.step rfl (callM_ok rfl 2 rfl rfl (es := [.pw (encL1Cur (L1Cur.mk x1.1.code x1.1.at' x1.1.seed)), .v (.int .i64 (l.length : Int))]) (outs := [.pw (encL1Cur x7.1), .u]) (ids := [1]) (by exact expLG_cons (.c (.box rfl rfl)) (expLG_cons (.c .v) (expLG_nil))) (by decide) (.inl (by rfl)) (by rfl) (spec_l1Cur_pick_ok _ _ _ (hx8)) rfl (by rfl) rfl) ?_
 refine AO.pu T ?_
 refine AO.nil (AW.seq ?_)
 obtain ⟨x9, hx10, hH⟩ := bindE hH
 obtain ⟨x11, hx12, hH⟩ := bindE hH
 refine AW.region ?_
 iterate 4 refine AO.pu T ?_
 refine AO.val rfl rfl (ix_map_ok T rfl rfl rfl rfl rfl (hx10) rfl) ?_
 iterate 2 refine AO.pu T ?_
 refine AO.val rfl rfl (len_map_ok T rfl rfl rfl) ?_
 refine AO.step rfl (callM_ok rfl 2 rfl rfl (es := [.pw (encL1Cur (L1Cur.mk x7.1.code x7.1.at' x7.1.seed)), .v (.int .i64 (x9.names.length : Int))]) (outs := [.pw (encL1Cur x11.1), .u]) (ids := [1]) (by exact expLG_cons (.c (.box rfl rfl)) (expLG_cons (.c .v) (expLG_nil))) (by decide) (.inl (by rfl)) (by rfl) (spec_l1Cur_pick_ok _ _ _ (hx12)) rfl (by rfl) rfl) ?_
 iterate 2 refine AO.pu T ?_
 refine AO.nil ?_
 refine AW.le (Le.ct 0 0 (σ' := (⟨[(4, x7.2), (5, x11.2)], [(1, .box [.s (List.map encInt_u8 x11.1.code), x11.1.at', .v (.int .u64 x11.1.seed)])], 33, [(1, L 1)]⟩ : St)) (hpin := ⟨⟨rfl, rfl⟩, trivial⟩)) ?_
 refine AW.ret ?_
 have hR := someE hH; subst hR
 exact ⟨trivial, rfl, _, [], [1], rfl, expLG_cons (.c (.box rfl rfl)) (expLG_cons (.c .u) (expLG_nil)), .t (expLG_cons (.c .v) (expLG_cons (.c .v) (expLG_nil))), by decide⟩

def spec_DrawAddChange_p (fuel : Nat) (code : List Int) : Option ((List Item) × (List Change) × Change) :=
  (spec_l1Cur_changing_p fuel (L1Cur.mk code 0 0)).bind fun x1 =>
  (spec_l1Cur_nameOf_p (L1Cur.mk x1.1.code x1.1.at' x1.1.seed) x1.2.1).bind fun x3 =>
  (spec_l1Cur_pick_p (L1Cur.mk x3.1.code x3.1.at' x3.1.seed) 90).bind fun x5 =>
  (opt (decide ((x1.2.2.length : Int) > 0)) ((L1Cur.mk x5.1.code x5.1.at' x5.1.seed), default) (spec_l1Cur_one_p (L1Cur.mk x5.1.code x5.1.at' x5.1.seed) 2)).bind fun x7 =>
  cond (decide ((x1.2.2.length : Int) > 0) && x7.2)
    ((getI x1.2.2 (w64 ((x1.2.2.length : Int) - 1))).bind fun x9 =>
    (spec_l1Cur_pick_p (L1Cur.mk x7.1.code x7.1.at' x7.1.seed) 3).bind fun x11 =>
    (spec_l1Cur_pick_p (L1Cur.mk x11.1.code x11.1.at' x11.1.seed) 3).bind fun x13 =>
    (spec_l1Cur_pick_p (L1Cur.mk x13.1.code x13.1.at' x13.1.seed) 4).bind fun x15 =>
    (spec_l1Cur_one_p (L1Cur.mk x15.1.code x15.1.at' x15.1.seed) 3).bind fun x17 =>
    some (x1.2.1, x1.2.2, (Change.mk (w64 ((w64 (x9.tick + x11.2)) - 1)) (w64 (1 + x13.2)) x3.2.1 x3.2.2 x15.2 x17.2)))
    ((spec_l1Cur_pick_p (L1Cur.mk x7.1.code x7.1.at' x7.1.seed) 3).bind fun x19 =>
    (spec_l1Cur_pick_p (L1Cur.mk x19.1.code x19.1.at' x19.1.seed) 4).bind fun x21 =>
    (spec_l1Cur_one_p (L1Cur.mk x21.1.code x21.1.at' x21.1.seed) 3).bind fun x23 =>
    some (x1.2.1, x1.2.2, (Change.mk x5.2 (w64 (1 + x19.2)) x3.2.1 x3.2.2 x21.2 x23.2)))
theorem spec_DrawAddChange_ok (fuel : Nat) (code : List Int) (r : ((List Item) × (List Change) × Change)) (hH : spec_DrawAddChange_p fuel code = some r) : SpecR Try.prog 10 [.s (List.map encInt_u8 code)] (.t [.s (r.1.map encItem), .w 6 (r.2.1.map encChange), .g (encChange r.2.2)]) := by
 refine fn_ok T Try.func10 rfl (by decide) rfl ?_
 refine AW.seq (AW.region ?_)
 iterate 2 refine AO.pu T ?_
 refine AO.step rfl (alloc_ok T rfl 1 rfl rfl rfl rfl rfl) ?_
 refine AO.nil (AW.seq ?_)
 refine AW.region ?_
 refine AO.pu T ?_
 refine AO.pu T (d := .g [.s (List.map encInt_u8 code), (0 : Int), .v (.int .u64 0)]) ?_
 refine AO.step rfl (box_ok T rfl 2 rfl rfl rfl rfl) ?_
 refine AO.pu T ?_
 refine AO.nil (AW.seq ?_)
 obtain ⟨x1, hx2, hH⟩ := bindE hH
 refine AW.region ?_
 refine AO.pu T ?_
 refine AO.step rfl (callM_ok rfl 3 rfl rfl (es := [.pw (encL1Cur (L1Cur.mk code 0 0))]) (outs := [.pw (encL1Cur x1.1)]) (ids := [2]) (by exact expLG_cons (.c (.box rfl rfl)) (expLG_nil)) (by decide) (.inl (by rfl)) (by rfl) (spec_l1Cur_changing_ok fuel _ _ (hx2)) rfl (by rfl) rfl) ?_
 iterate 5 refine AO.pu T ?_
 refine AO.nil (AW.seq ?_)
 obtain ⟨x3, hx4, hH⟩ := bindE hH
 refine AW.le (Le.freezeM 3 (g := encItem) rfl (fun y => .vs rfl)) ?_
 refine AW.region ?_
 iterate 2 refine AO.pu T ?_
 refine AO.step rfl (callM_ok rfl 5 rfl rfl (es := [.pw (encL1Cur (L1Cur.mk x1.1.code x1.1.at' x1.1.seed)), .s (x1.2.1.map encItem)]) (outs := [.pw (encL1Cur x3.1), .u]) (ids := [2]) (by exact expLG_cons (.c (.box rfl rfl)) (expLG_cons (.c .s) (expLG_nil))) (by decide) (.inl (by rfl)) (by rfl) (spec_l1Cur_nameOf_ok _ _ _ (hx4)) rfl (by rfl) rfl) ?_
 iterate 5 refine AO.pu T ?_
 refine AO.nil (AW.seq ?_)
 obtain ⟨x5, hx6, hH⟩ := bindE hH
 refine AW.region ?_
 refine AO.pu T ?_
 refine AO.step rfl (callM_ok rfl 5 rfl rfl (es := [.pw (encL1Cur (L1Cur.mk x3.1.code x3.1.at' x3.1.seed)), .v (.int .i64 90)]) (outs := [.pw (encL1Cur x5.1), .u]) (ids := [2]) (by exact expLG_cons (.c (.box rfl rfl)) (expLG_cons (.c .v) (expLG_nil))) (by decide) (.inl (by rfl)) (by rfl) (spec_l1Cur_pick_ok _ _ _ (hx6)) rfl (by rfl) rfl) ?_
 refine AO.pu T ?_
 refine AO.nil ?_
 refine AW.le (Le.ct 0 0 (σ' := (⟨[(4, .p 1 0), (5, .p 2 0), (6, .s (List.map encItem x1.2.1)), (7, .R 4), (8, x3.2.1), (9, x3.2.2), (10, x5.2)], [(1, .box [(0 : Int), (0 : Int), (0 : Int), (0 : Int), (0 : Int), .v (.bool false)]), (2, .box [.s (List.map encInt_u8 x5.1.code), x5.1.at', .v (.int .u64 x5.1.seed)]), (4, .row 6 (List.map encChange x1.2.2))], 58, []⟩ : St))) ?_
 iterate 2 refine AW.seq ?_
 obtain ⟨x7, hx8, hH⟩ := bindE hH
 refine AW.region ?_
 refine AO.pu T ?_
 refine AO.val rfl rfl (len_row_ok T rfl rfl rfl rfl) ?_
 iterate 2 refine AO.pu T ?_
 refine AO.pureG T [] rfl trivial rfl rfl ?_
 refine AO.guardP (id := 2) (cs' := [.s (List.map encInt_u8 x7.1.code), x7.1.at', .v (.int .u64 x7.1.seed)]) (r := .v (.bool x7.2)) [31] rfl ⟨fun h => h, trivial⟩ (fun hg => callM_ok rfl 5 rfl rfl (es := [.pw (encL1Cur (L1Cur.mk x5.1.code x5.1.at' x5.1.seed)), .v (.int .i64 2)]) (outs := [.pw (encL1Cur x7.1), .u]) (ids := [2]) (by exact expLG_cons (.c (.box rfl rfl)) (expLG_cons (.c .v) (expLG_nil))) (by decide) (.inl (by rfl)) (by rfl) (spec_l1Cur_one_ok _ _ _ (optT hx8 hg)) rfl (by rfl) rfl) rfl (fun hg => by have q := optF hx8 hg; subst q; rfl) rfl ?_
 refine AO.val rfl rfl (pick_and rfl rfl rfl rfl) ?_
 refine AO.nil ?_
 refine AW.cond (b := (decide ((x1.2.2.length : Int) > 0) && x7.2)) rfl (fun hc => ?_) (fun hc => ?_)
 replace hH := condT hc hH
 obtain ⟨x9, hx10, hH⟩ := bindE hH
 obtain ⟨x11, hx12, hH⟩ := bindE hH
 refine AW.drawn 9 5 [2] mix (by kernel_rfl) rfl ?_
 iterate 2 refine AD.pure T rfl rfl rfl ?_
 refine AD.val rfl rfl (len_row_ok T rfl rfl rfl rfl) ?_
 refine AD.val rfl rfl (arw_ok rfl rfl rfl rfl) ?_
 refine AD.val rfl rfl (ix_row_ok T rfl rfl rfl rfl rfl rfl (hx10)) ?_
 refine AD.pure T rfl rfl rfl ?_
 refine AD.val rfl rfl (load_row_ok T rfl rfl rfl rfl (getI_get (hx10)) rfl rfl rfl) ?_
 refine AD.pure T rfl rfl rfl ?_
 refine AD.k rfl rfl (FStep.callM rfl rfl rfl rfl (es := [.pw (encL1Cur (L1Cur.mk x7.1.code x7.1.at' x7.1.seed)), .v (.int .i64 3)]) (outs := [.pw (encL1Cur x11.1), .u]) (ids := [2]) (by exact expLG_cons (.c (.box rfl rfl)) (expLG_cons (.c .v) (expLG_nil))) (by decide) (.inl (by rfl)) (by rfl) (spec_l1Cur_pick_ok _ _ _ (hx12)) rfl (by rfl) rfl) rfl rfl rfl ?_
 refine AD.nil ?_
 iterate 2 refine AO.val rfl rfl (arw_ok rfl rfl rfl rfl) ?_
 refine AO.pu T ?_
 refine AO.nil (AW.seq ?_)
 obtain ⟨x13, hx14, hH⟩ := bindE hH
 obtain ⟨x15, hx16, hH⟩ := bindE hH
 obtain ⟨x17, hx18, hH⟩ := bindE hH
 refine AW.region ?_
 iterate 4 refine AO.pu T ?_
 refine AO.step rfl (callM_ok rfl 5 rfl rfl (es := [.pw (encL1Cur (L1Cur.mk x11.1.code x11.1.at' x11.1.seed)), .v (.int .i64 3)]) (outs := [.pw (encL1Cur x13.1), .u]) (ids := [2]) (by exact expLG_cons (.c (.box rfl rfl)) (expLG_cons (.c .v) (expLG_nil))) (by decide) (.inl (by rfl)) (by rfl) (spec_l1Cur_pick_ok _ _ _ (hx14)) rfl (by rfl) rfl) ?_
 refine AO.val rfl rfl (arw_ok rfl rfl rfl rfl) ?_
 iterate 3 refine AO.pu T ?_
 refine AO.step rfl (callM_ok rfl 5 rfl rfl (es := [.pw (encL1Cur (L1Cur.mk x13.1.code x13.1.at' x13.1.seed)), .v (.int .i64 4)]) (outs := [.pw (encL1Cur x15.1), .u]) (ids := [2]) (by exact expLG_cons (.c (.box rfl rfl)) (expLG_cons (.c .v) (expLG_nil))) (by decide) (.inl (by rfl)) (by rfl) (spec_l1Cur_pick_ok _ _ _ (hx16)) rfl (by rfl) rfl) ?_
 refine AO.pu T ?_
 refine AO.step rfl (callM_ok rfl 5 rfl rfl (es := [.pw (encL1Cur (L1Cur.mk x15.1.code x15.1.at' x15.1.seed)), .v (.int .i64 3)]) (outs := [.pw (encL1Cur x17.1), .u]) (ids := [2]) (by exact expLG_cons (.c (.box rfl rfl)) (expLG_cons (.c .v) (expLG_nil))) (by decide) (.inl (by rfl)) (by rfl) (spec_l1Cur_one_ok _ _ _ (hx18)) rfl (by rfl) rfl) ?_
 refine AO.pu T (d := .g [w64 ((w64 (x9.tick + x11.2)) - 1), w64 (1 + x13.2), x3.2.1, x3.2.2, x15.2, .v (.bool x17.2)]) ?_
 iterate 2 refine AO.pu T ?_
 refine AO.se T [w64 ((w64 (x9.tick + x11.2)) - 1), w64 (1 + x13.2), x3.2.1, x3.2.2, x15.2, .v (.bool x17.2)] ?_
 refine AO.nil ?_
 refine AW.le (Le.ct 0 0 (σ' := (⟨[(2, .s (List.map encItem x1.2.1)), (3, .R 4), (4, .p 1 0)], [(1, .box [w64 ((w64 (x9.tick + x11.2)) - 1), w64 (1 + x13.2), x3.2.1, x3.2.2, x15.2, .v (.bool x17.2)]), (4, .row 6 (List.map encChange x1.2.2))], 58, []⟩ : St))) ?_
 refine AW.ret ?_
 have hR := someE hH; subst hR
 exact retQ.i [4] rfl (.t (expLG_cons (.c .s) (expLG_cons (.c (.rowR rfl)) (expLG_cons (.g (expLC_cons .v (expLC_cons .v (expLC_cons .v (expLC_cons .v (expLC_cons .v (expLC_cons .v (expLC_nil)))))))) (expLG_nil)))))
 replace hH := condF hc hH
 refine AW.skip ?_
 refine AW.seq ?_
 obtain ⟨x19, hx20, hH⟩ := bindE hH
 obtain ⟨x21, hx22, hH⟩ := bindE hH
 obtain ⟨x23, hx24, hH⟩ := bindE hH
 refine AW.region ?_
 iterate 4 refine AO.pu T ?_
 refine AO.step rfl (callM_ok rfl 5 rfl rfl (es := [.pw (encL1Cur (L1Cur.mk x7.1.code x7.1.at' x7.1.seed)), .v (.int .i64 3)]) (outs := [.pw (encL1Cur x19.1), .u]) (ids := [2]) (by exact expLG_cons (.c (.box rfl rfl)) (expLG_cons (.c .v) (expLG_nil))) (by decide) (.inl (by rfl)) (by rfl) (spec_l1Cur_pick_ok _ _ _ (hx20)) rfl (by rfl) rfl) ?_
 refine AO.val rfl rfl (arw_ok rfl rfl rfl rfl) ?_
 iterate 3 refine AO.pu T ?_
 refine AO.step rfl (callM_ok rfl 5 rfl rfl (es := [.pw (encL1Cur (L1Cur.mk x19.1.code x19.1.at' x19.1.seed)), .v (.int .i64 4)]) (outs := [.pw (encL1Cur x21.1), .u]) (ids := [2]) (by exact expLG_cons (.c (.box rfl rfl)) (expLG_cons (.c .v) (expLG_nil))) (by decide) (.inl (by rfl)) (by rfl) (spec_l1Cur_pick_ok _ _ _ (hx22)) rfl (by rfl) rfl) ?_
 refine AO.pu T ?_
 refine AO.step rfl (callM_ok rfl 5 rfl rfl (es := [.pw (encL1Cur (L1Cur.mk x21.1.code x21.1.at' x21.1.seed)), .v (.int .i64 3)]) (outs := [.pw (encL1Cur x23.1), .u]) (ids := [2]) (by exact expLG_cons (.c (.box rfl rfl)) (expLG_cons (.c .v) (expLG_nil))) (by decide) (.inl (by rfl)) (by rfl) (spec_l1Cur_one_ok _ _ _ (hx24)) rfl (by rfl) rfl) ?_
 refine AO.pu T (d := .g [x5.2, w64 (1 + x19.2), x3.2.1, x3.2.2, x21.2, .v (.bool x23.2)]) ?_
 iterate 2 refine AO.pu T ?_
 refine AO.se T [x5.2, w64 (1 + x19.2), x3.2.1, x3.2.2, x21.2, .v (.bool x23.2)] ?_
 refine AO.nil (AW.ret ?_)
 have hR := someE hH; subst hR
 exact retQ.i [4] rfl (.t (expLG_cons (.c .s) (expLG_cons (.c (.rowR rfl)) (expLG_cons (.g (expLC_cons .v (expLC_cons .v (expLC_cons .v (expLC_cons .v (expLC_cons .v (expLC_cons .v (expLC_nil)))))))) (expLG_nil)))))

def impl_AddChange_p (fuel : Nat) (l : List Item) (h : List Change) (x : Change) : Option ((List Change) × Bool) :=
  (impl_isHistory_p fuel l h).bind fun x1 =>
  cond (!x1)
    (some ([], false))
    ((need (fitsB 48 h.length)).bind fun u3 =>
    (need (fitsB 48 (h.length + ([x]).length))).bind fun u5 =>
    (impl_isHistory_p fuel l (h ++ [x])).bind fun x7 =>
    cond (!x7)
      (some ([], false))
      (some ((h ++ [x]), true)))
theorem impl_AddChange_ok (fuel : Nat) (l : List Item) (h : List Change) (x : Change) (r : ((List Change) × Bool)) (hH : impl_AddChange_p fuel l h x = some r) : SpecR Try.prog 11 [.s (List.map encItem l), .s (List.map encChange h), .g (encChange x)] (.t [.w 6 (r.1.map encChange), .v (.bool r.2)]) := by
 refine fn_ok T Try.func11 rfl (by decide) rfl ?_
 refine AW.seq (AW.region ?_)
 refine AO.step rfl (box_ok T rfl 1 rfl rfl rfl rfl) ?_
 iterate 2 refine AO.pu T ?_
 refine AO.nil ?_
 iterate 2 refine AW.seq ?_
 obtain ⟨x1, hx2, hH⟩ := bindE hH
 refine AW.region ?_
 iterate 2 refine AO.pu T ?_
 refine AO.val rfl rfl (callV_ok rfl rfl rfl rfl (impl_isHistory_ok fuel _ _ _ (hx2)) rfl) ?_
 refine AO.pu T ?_
 refine AO.nil ?_
 refine AW.cond (b := (!x1)) rfl (fun hc => ?_) (fun hc => ?_)
 replace hH := condT hc hH
 refine AW.seq (AW.region ?_)
 iterate 2 refine AO.pu T ?_
 refine AO.nil (AW.ret ?_)
 have hR := someE hH; subst hR
 exact retQ.i [] rfl (.t (expLG_cons (.c .nil) (expLG_cons (.c .v) (expLG_nil))))
 replace hH := condF hc hH
 refine AW.skip ?_
 refine AW.seq ?_
 obtain ⟨u3, hx4, hH⟩ := bindE hH
 obtain ⟨u5, hx6, hH⟩ := bindE hH
 refine AW.drawn 5 2 [] mix (by kernel_rfl) rfl ?_
 refine AD.v (FStep.mk0 T rfl rfl rfl rfl rfl) ?_
 refine AD.pure T rfl rfl rfl ?_
 refine AD.q (FStep.app_ws T rfl rfl rfl rfl rfl rfl rfl (by decide) (by decide) rfl rfl (fun _ => rfl) (needT (hx4)) rfl) (by simp [namesIn]) (Nat.le_succ _) rfl ?_
 refine AD.pure T (d := .g [x.tick, x.caller, x.item, x.name, x.mark, .v (.bool x.review)]) rfl rfl rfl ?_
 refine AD.q (FStep.mk T (f := encChange) (l := [x]) rfl rfl rfl rfl rfl rfl rfl rfl rfl (fun _ => rfl) rfl rfl rfl rfl) (by simp [namesIn]) (Nat.le_succ _) rfl ?_
 refine AD.nil ?_
 refine AO.step rfl (app_rv_map T rfl 4 rfl rfl rfl rfl rfl (by decide) rfl rfl rfl rfl (fun _ => rfl) (needT (hx6)) rfl rfl) ?_
 refine AO.pu T ?_
 refine AO.nil ?_
 iterate 2 refine AW.seq ?_
 obtain ⟨x7, hx8, hH⟩ := bindE hH
 refine AW.region ?_
 iterate 2 refine AO.pu T ?_
 refine AO.val rfl rfl (callLV_ok rfl rfl rfl (es := [.s (List.map encItem l), .s (List.map encChange (h ++ [x]))]) ⟨.free rfl, (.rowR rfl (.map fun y => .vs rfl)), trivial⟩ (impl_isHistory_ok fuel _ _ _ (hx8)) (zfree_v _) rfl) ?_
 refine AO.pu T ?_
 refine AO.nil ?_
 refine AW.cond (b := (!x7)) rfl (fun hc => ?_) (fun hc => ?_)
 replace hH := condT hc hH
 refine AW.seq (AW.region ?_)
 iterate 2 refine AO.pu T ?_
 refine AO.nil (AW.ret ?_)
 have hR := someE hH; subst hR
 exact retQ.i [] rfl (.t (expLG_cons (.c .nil) (expLG_cons (.c .v) (expLG_nil))))
 replace hH := condF hc hH
 refine AW.skip ?_
 refine AW.seq (AW.region ?_)
 iterate 3 refine AO.pu T ?_
 refine AO.nil (AW.ret ?_)
 have hR := someE hH; subst hR
 exact retQ.i [4] rfl (.t (expLG_cons (.c (.rowR rfl)) (expLG_cons (.c .v) (expLG_nil))))

def spec_hiAdd_p (l : List Item) (h : List Change) (x : Change) : Option ((List Change) × Bool) :=
  (need (fitsB 48 h.length)).bind fun u1 =>
  (need (fitsB 48 (h.length + ([x]).length))).bind fun u3 =>
  (spec_hiGood_p l (h ++ [x])).bind fun x5 =>
  cond (!x5)
    (some ([], false))
    (some ((h ++ [x]), true))
theorem spec_hiAdd_ok (l : List Item) (h : List Change) (x : Change) (r : ((List Change) × Bool)) (hH : spec_hiAdd_p l h x = some r) : SpecR Try.prog 57 [.s (List.map encItem l), .s (List.map encChange h), .g (encChange x)] (.t [.w 6 (r.1.map encChange), .v (.bool r.2)]) := by
 refine fn_ok T Try.func57 rfl (by decide) rfl ?_
 refine AW.seq (AW.region ?_)
 refine AO.step rfl (box_ok T rfl 1 rfl rfl rfl rfl) ?_
 iterate 2 refine AO.pu T ?_
 refine AO.nil (AW.seq ?_)
 obtain ⟨u1, hx2, hH⟩ := bindE hH
 obtain ⟨u3, hx4, hH⟩ := bindE hH
 refine AW.drawn 5 2 [] mix (by kernel_rfl) rfl ?_
 refine AD.v (FStep.mk0 T rfl rfl rfl rfl rfl) ?_
 refine AD.pure T rfl rfl rfl ?_
 refine AD.q (FStep.app_ws T rfl rfl rfl rfl rfl rfl rfl (by decide) (by decide) rfl rfl (fun _ => rfl) (needT (hx2)) rfl) (by simp [namesIn]) (Nat.le_succ _) rfl ?_
 refine AD.pure T (d := .g [x.tick, x.caller, x.item, x.name, x.mark, .v (.bool x.review)]) rfl rfl rfl ?_
 refine AD.q (FStep.mk T (f := encChange) (l := [x]) rfl rfl rfl rfl rfl rfl rfl rfl rfl (fun _ => rfl) rfl rfl rfl rfl) (by simp [namesIn]) (Nat.le_succ _) rfl ?_
 refine AD.nil ?_
 refine AO.step rfl (app_rv_map T rfl 4 rfl rfl rfl rfl rfl (by decide) rfl rfl rfl rfl (fun _ => rfl) (needT (hx4)) rfl rfl) ?_
 refine AO.pu T ?_
 refine AO.nil ?_
 iterate 2 refine AW.seq ?_
 obtain ⟨x5, hx6, hH⟩ := bindE hH
 refine AW.region ?_
 iterate 2 refine AO.pu T ?_
 refine AO.val rfl rfl (callLV_ok rfl rfl rfl (es := [.s (List.map encItem l), .s (List.map encChange (h ++ [x]))]) ⟨.free rfl, (.rowR rfl (.map fun y => .vs rfl)), trivial⟩ (spec_hiGood_ok _ _ _ (hx6)) (zfree_v _) rfl) ?_
 refine AO.pu T ?_
 refine AO.nil ?_
 refine AW.cond (b := (!x5)) rfl (fun hc => ?_) (fun hc => ?_)
 replace hH := condT hc hH
 refine AW.seq (AW.region ?_)
 iterate 2 refine AO.pu T ?_
 refine AO.nil (AW.ret ?_)
 have hR := someE hH; subst hR
 exact retQ.i [] rfl (.t (expLG_cons (.c .nil) (expLG_cons (.c .v) (expLG_nil))))
 replace hH := condF hc hH
 refine AW.skip ?_
 refine AW.seq (AW.region ?_)
 iterate 3 refine AO.pu T ?_
 refine AO.nil (AW.ret ?_)
 have hR := someE hH; subst hR
 exact retQ.i [4] rfl (.t (expLG_cons (.c (.rowR rfl)) (expLG_cons (.c .v) (expLG_nil))))

def spec_AddChange_p (fuel : Nat) (l : List Item) (h : List Change) (x : Change) : Option ((List Change) × Bool) :=
  (spec_hiAsked_p fuel l h).bind fun x1 =>
  cond (!x1)
    (some ([], false))
    ((spec_hiAdd_p l h x).bind fun x3 =>
    some (x3.1, x3.2))
theorem spec_AddChange_ok (fuel : Nat) (l : List Item) (h : List Change) (x : Change) (r : ((List Change) × Bool)) (hH : spec_AddChange_p fuel l h x = some r) : SpecR Try.prog 12 [.s (List.map encItem l), .s (List.map encChange h), .g (encChange x)] (.t [.w 6 (r.1.map encChange), .v (.bool r.2)]) := by
 refine fn_ok T Try.func12 rfl (by decide) rfl ?_
 refine AW.seq (AW.region ?_)
 refine AO.step rfl (box_ok T rfl 1 rfl rfl rfl rfl) ?_
 iterate 2 refine AO.pu T ?_
 refine AO.nil ?_
 iterate 2 refine AW.seq ?_
 obtain ⟨x1, hx2, hH⟩ := bindE hH
 refine AW.region ?_
 iterate 2 refine AO.pu T ?_
 refine AO.val rfl rfl (callV_ok rfl rfl rfl rfl (spec_hiAsked_ok fuel _ _ _ (hx2)) rfl) ?_
 refine AO.pu T ?_
 refine AO.nil ?_
 refine AW.cond (b := (!x1)) rfl (fun hc => ?_) (fun hc => ?_)
 replace hH := condT hc hH
 refine AW.seq (AW.region ?_)
 iterate 2 refine AO.pu T ?_
 refine AO.nil (AW.ret ?_)
 have hR := someE hH; subst hR
 exact retQ.i [] rfl (.t (expLG_cons (.c .nil) (expLG_cons (.c .v) (expLG_nil))))
 replace hH := condF hc hH
 refine AW.skip ?_
 refine AW.seq ?_
 obtain ⟨x3, hx4, hH⟩ := bindE hH
 refine AW.region ?_
 iterate 2 refine AO.pu T ?_
 refine AO.pu T (d := .g [x.tick, x.caller, x.item, x.name, x.mark, .v (.bool x.review)]) ?_
 refine AO.step rfl (call_ok rfl 2 rfl rfl rfl (spec_hiAdd_ok _ _ _ _ (hx4)) rfl rfl rfl) ?_
 iterate 4 refine AO.pu T ?_
 refine AO.nil (AW.ret ?_)
 have hR := someE hH; subst hR
 exact retQ.i [2] rfl (.t (expLG_cons (.c (.rowR rfl)) (expLG_cons (.c .v) (expLG_nil))))

def spec_DrawCallersOf_p (fuel : Nat) (code : List Int) : Option ((List Item) × (List Change) × Int × Int) :=
  (spec_l1Cur_changing_p fuel (L1Cur.mk code 0 0)).bind fun x1 =>
  (spec_l1Cur_nameOf_p (L1Cur.mk x1.1.code x1.1.at' x1.1.seed) x1.2.1).bind fun x3 =>
  some (x1.2.1, x1.2.2, x3.2.1, x3.2.2)
theorem spec_DrawCallersOf_ok (fuel : Nat) (code : List Int) (r : ((List Item) × (List Change) × Int × Int)) (hH : spec_DrawCallersOf_p fuel code = some r) : SpecR Try.prog 58 [.s (List.map encInt_u8 code)] (.t [.s (r.1.map encItem), .w 6 (r.2.1.map encChange), .v (.int .i64 r.2.2.1), .v (.int .i64 r.2.2.2)]) := by
 refine fn_ok T Try.func58 rfl (by decide) rfl ?_
 refine AW.seq (AW.region ?_)
 iterate 4 refine AO.pu T ?_
 refine AO.nil (AW.seq ?_)
 refine AW.region ?_
 refine AO.pu T ?_
 refine AO.pu T (d := .g [.s (List.map encInt_u8 code), (0 : Int), .v (.int .u64 0)]) ?_
 refine AO.step rfl (box_ok T rfl 1 rfl rfl rfl rfl) ?_
 refine AO.pu T ?_
 refine AO.nil (AW.seq ?_)
 obtain ⟨x1, hx2, hH⟩ := bindE hH
 refine AW.region ?_
 refine AO.pu T ?_
 refine AO.step rfl (callM_ok rfl 2 rfl rfl (es := [.pw (encL1Cur (L1Cur.mk code 0 0))]) (outs := [.pw (encL1Cur x1.1)]) (ids := [1]) (by exact expLG_cons (.c (.box rfl rfl)) (expLG_nil)) (by decide) (.inl (by rfl)) (by rfl) (spec_l1Cur_changing_ok fuel _ _ (hx2)) rfl (by rfl) rfl) ?_
 iterate 5 refine AO.pu T ?_
 refine AO.nil (AW.seq ?_)
 obtain ⟨x3, hx4, hH⟩ := bindE hH
 refine AW.le (Le.freezeM 2 (g := encItem) rfl (fun y => .vs rfl)) ?_
 refine AW.region ?_
 iterate 2 refine AO.pu T ?_
 refine AO.step rfl (callM_ok rfl 4 rfl rfl (es := [.pw (encL1Cur (L1Cur.mk x1.1.code x1.1.at' x1.1.seed)), .s (x1.2.1.map encItem)]) (outs := [.pw (encL1Cur x3.1), .u]) (ids := [1]) (by exact expLG_cons (.c (.box rfl rfl)) (expLG_cons (.c .s) (expLG_nil))) (by decide) (.inl (by rfl)) (by rfl) (spec_l1Cur_nameOf_ok _ _ _ (hx4)) rfl (by rfl) rfl) ?_
 iterate 5 refine AO.pu T ?_
 refine AO.nil (AW.seq ?_)
 refine AW.region ?_
 iterate 8 refine AO.pu T ?_
 refine AO.nil ?_
 refine AW.le (Le.ct 0 0 (σ' := (⟨[(2, .s (List.map encItem x1.2.1)), (3, .R 3), (4, x3.2.1), (5, x3.2.2)], [(3, .row 6 (List.map encChange x1.2.2))], 29, []⟩ : St))) ?_
 refine AW.ret ?_
 have hR := someE hH; subst hR
 exact retQ.i [3] rfl (.t (expLG_cons (.c .s) (expLG_cons (.c (.rowR rfl)) (expLG_cons (.c .v) (expLG_cons (.c .v) (expLG_nil))))))

def spec_DrawLastChange_p (fuel : Nat) (code : List Int) : Option ((List Item) × (List Change) × Int × Int) :=
  (spec_DrawCallersOf_p fuel code).bind fun x1 =>
  some (x1.1, x1.2.1, x1.2.2.1, x1.2.2.2)
theorem spec_DrawLastChange_ok (fuel : Nat) (code : List Int) (r : ((List Item) × (List Change) × Int × Int)) (hH : spec_DrawLastChange_p fuel code = some r) : SpecR Try.prog 13 [.s (List.map encInt_u8 code)] (.t [.s (r.1.map encItem), .w 6 (r.2.1.map encChange), .v (.int .i64 r.2.2.1), .v (.int .i64 r.2.2.2)]) := by
 refine fn_ok T Try.func13 rfl (by decide) rfl ?_
 refine AW.seq (AW.region ?_)
 iterate 4 refine AO.pu T ?_
 refine AO.nil (AW.seq ?_)
 obtain ⟨x1, hx2, hH⟩ := bindE hH
 refine AW.region ?_
 refine AO.pu T ?_
 refine AO.step rfl (call_ok rfl 1 rfl rfl rfl (spec_DrawCallersOf_ok fuel _ _ (hx2)) rfl rfl rfl) ?_
 iterate 8 refine AO.pu T ?_
 refine AO.nil (AW.ret ?_)
 have hR := someE hH; subst hR
 exact retQ.i [1] rfl (.t (expLG_cons (.c .s) (expLG_cons (.c (.rowR rfl)) (expLG_cons (.c .v) (expLG_cons (.c .v) (expLG_nil))))))

def impl_LastChange_l1 (h : List Change) (item : Int) (name : Int) : Nat → Int → Option ((Int × Bool))
  | 0, _ => none
  | k5 + 1, v11 =>
    cond (decide (v11 ≥ 0))
      ((getI h v11).bind fun x13 =>
      cond ((x13.item == item) && (x13.name == name))
        (some (v11, true))
        (impl_LastChange_l1 h item name k5 (w64 (v11 - 1))))
      (some (0, false))
def impl_LastChange_p (fuel : Nat) (l : List Item) (h : List Change) (item : Int) (name : Int) : Option (Int × Bool) :=
  (impl_isHistory_p fuel l h).bind fun x1 =>
  (opt (!(!x1)) default (impl_hasNameAt_p l item name)).bind fun x3 =>
  cond ((!x1) || (!x3))
    (some (0, false))
    (impl_LastChange_l1 h item name fuel (w64 ((h.length : Int) - 1)))
theorem impl_LastChange_ok (fuel : Nat) (l : List Item) (h : List Change) (item : Int) (name : Int) (r : (Int × Bool)) (hH : impl_LastChange_p fuel l h item name = some r) : SpecR Try.prog 14 [.s (List.map encItem l), .s (List.map encChange h), item, name] (.t [.v (.int .i64 r.1), .v (.bool r.2)]) := by
 refine fn_ok T Try.func14 rfl (by decide) rfl ?_
 refine AW.seq (AW.region ?_)
 iterate 2 refine AO.pu T ?_
 refine AO.nil ?_
 iterate 2 refine AW.seq ?_
 obtain ⟨x1, hx2, hH⟩ := bindE hH
 obtain ⟨x3, hx4, hH⟩ := bindE hH
 refine AW.region ?_
 iterate 2 refine AO.pu T ?_
 refine AO.val rfl rfl (callV_ok rfl rfl rfl rfl (impl_isHistory_ok fuel _ _ _ (hx2)) rfl) ?_
 iterate 2 refine AO.pu T ?_
 iterate 3 refine AO.pureG T [] rfl trivial rfl rfl ?_
 refine AO.guard [16, 17, 18] rfl ⟨fun h => h, fun h => h, fun h => h, trivial⟩ (fun hg => callV_ok rfl rfl rfl rfl (impl_hasNameAt_ok _ _ _ _ (optT hx4 hg)) rfl) rfl ?_
 refine AO.pureG T [19] rfl ⟨fun h => h, trivial⟩ rfl rfl ?_
 refine AO.val rfl rfl (pick_or rfl rfl rfl rfl) ?_
 refine AO.nil ?_
 refine AW.cond (b := ((!x1) || (!x3))) rfl (fun hc => ?_) (fun hc => ?_)
 replace hH := condT hc hH
 refine AW.seq (AW.region ?_)
 iterate 2 refine AO.pu T ?_
 refine AO.nil (AW.ret ?_)
 have hR := someE hH; subst hR
 exact retQ.i [] rfl (.t (expLG_cons (.c .v) (expLG_cons (.c .v) (expLG_nil))))
 replace hH := condF hc hH
 refine AW.skip ?_
 iterate 2 refine AW.seq ?_
 refine AW.region ?_
 refine AO.pu T ?_
 refine AO.val rfl rfl (len_map_ok T rfl rfl rfl) ?_
 refine AO.val rfl rfl (arw_ok rfl rfl rfl rfl) ?_
 refine AO.pu T ?_
 refine AO.nil ?_
 refine AW.block ?_
 refine AW.loopS (fun s : Nat × Int => (⟨[(1, .s (List.map encChange h)), (2, item), (3, name), (10, s.2)], [], 46, []⟩ : St)) (fun s => impl_LastChange_l1 h item name s.1 s.2 = some r) (fun s => s.1) (fuel, w64 ((h.length : Int) - 1)) hH ?_ ?_
 exact Le.ct 0 0
 rintro ⟨k5, v11⟩ hH
 replace hH : impl_LastChange_l1 h item name k5 v11 = some r := hH
 try dsimp only
 rcases k5 with _ | k5
 cases (show none = some _ from hH)
 rw [impl_LastChange_l1] at hH
 iterate 2 refine AW.seq ?_
 refine AW.region ?_
 iterate 2 refine AO.pu T ?_
 refine AO.nil ?_
 refine AW.cond (b := decide (v11 ≥ 0)) rfl (fun hc => ?_) (fun hc => ?_)
 replace hH := condT hc hH
 refine AW.skip ?_
 refine AW.seq ?_
 refine AW.block ?_
 refine AW.seq ?_
 obtain ⟨x13, hx14, hH⟩ := bindE hH
 refine AW.region ?_
 iterate 2 refine AO.pu T ?_
 refine AO.val rfl rfl (ix_map_ok T rfl rfl rfl rfl rfl (hx14) rfl) ?_
 iterate 5 refine AO.pu T ?_
 iterate 2 refine AO.pureG T [] rfl trivial rfl rfl ?_
 refine AO.guard [37, 38] rfl ⟨fun h => h, fun h => h, trivial⟩ (fun hg => ix_map_ok T rfl rfl rfl rfl rfl (hx14) rfl) rfl ?_
 refine AO.pureG T [39] rfl ⟨fun h => h, trivial⟩ rfl rfl ?_
 refine AO.pureG T [40] rfl ⟨fun h => h, trivial⟩ rfl rfl ?_
 refine AO.pureG T [] rfl trivial rfl rfl ?_
 refine AO.pureG T [41, 42] rfl ⟨fun h => h, fun h => h, trivial⟩ rfl rfl ?_
 refine AO.val rfl rfl (pick_and rfl rfl rfl rfl) ?_
 refine AO.nil ?_
 refine AW.cond (b := ((x13.item == item) && (x13.name == name))) rfl (fun hc => ?_) (fun hc => ?_)
 replace hH := condT hc hH
 refine AW.seq (AW.region ?_)
 iterate 3 refine AO.pu T ?_
 refine AO.nil (AW.ret ?_)
 have hR := someE hH; subst hR
 exact retQ.i [] rfl (.t (expLG_cons (.c .v) (expLG_cons (.c .v) (expLG_nil))))
 replace hH := condF hc hH
 refine AW.skip ?_
 refine AW.region ?_
 refine AO.pu T ?_
 refine AO.val rfl rfl (arw_ok rfl rfl rfl rfl) ?_
 refine AO.pu T ?_
 refine AO.nil ?_
 refine ⟨(k5, w64 (v11 - 1)), hH, Nat.lt_succ_self _, ?_⟩
 exact Le.ct 0 0
 replace hH := condF hc hH
 refine AW.exit ?_
 refine AW.seq (AW.region ?_)
 iterate 2 refine AO.pu T ?_
 refine AO.nil (AW.ret ?_)
 have hR := someE hH; subst hR
 exact retQ.i [] rfl (.t (expLG_cons (.c .v) (expLG_cons (.c .v) (expLG_nil))))

def spec_LastChange_l1 (h : List Change) (item : Int) (name : Int) : Nat → Int → Option ((Int × Bool))
  | 0, _ => none
  | k5 + 1, v11 =>
    cond (decide (v11 ≥ 0))
      ((getI h v11).bind fun x13 =>
      cond ((x13.item == item) && (x13.name == name))
        (some (v11, true))
        (spec_LastChange_l1 h item name k5 (w64 (v11 - 1))))
      (some (0, false))
def spec_LastChange_p (fuel : Nat) (l : List Item) (h : List Change) (item : Int) (name : Int) : Option (Int × Bool) :=
  (spec_hiAsked_p fuel l h).bind fun x1 =>
  (opt (!(!x1)) default (spec_hiName_p l item name)).bind fun x3 =>
  cond ((!x1) || (!x3))
    (some (0, false))
    (spec_LastChange_l1 h item name fuel (w64 ((h.length : Int) - 1)))
theorem spec_LastChange_ok (fuel : Nat) (l : List Item) (h : List Change) (item : Int) (name : Int) (r : (Int × Bool)) (hH : spec_LastChange_p fuel l h item name = some r) : SpecR Try.prog 15 [.s (List.map encItem l), .s (List.map encChange h), item, name] (.t [.v (.int .i64 r.1), .v (.bool r.2)]) := by
 refine fn_ok T Try.func15 rfl (by decide) rfl ?_
 refine AW.seq (AW.region ?_)
 iterate 2 refine AO.pu T ?_
 refine AO.nil ?_
 iterate 2 refine AW.seq ?_
 obtain ⟨x1, hx2, hH⟩ := bindE hH
 obtain ⟨x3, hx4, hH⟩ := bindE hH
 refine AW.region ?_
 iterate 2 refine AO.pu T ?_
 refine AO.val rfl rfl (callV_ok rfl rfl rfl rfl (spec_hiAsked_ok fuel _ _ _ (hx2)) rfl) ?_
 iterate 2 refine AO.pu T ?_
 iterate 3 refine AO.pureG T [] rfl trivial rfl rfl ?_
 refine AO.guard [16, 17, 18] rfl ⟨fun h => h, fun h => h, fun h => h, trivial⟩ (fun hg => callV_ok rfl rfl rfl rfl (spec_hiName_ok _ _ _ _ (optT hx4 hg)) rfl) rfl ?_
 refine AO.pureG T [19] rfl ⟨fun h => h, trivial⟩ rfl rfl ?_
 refine AO.val rfl rfl (pick_or rfl rfl rfl rfl) ?_
 refine AO.nil ?_
 refine AW.cond (b := ((!x1) || (!x3))) rfl (fun hc => ?_) (fun hc => ?_)
 replace hH := condT hc hH
 refine AW.seq (AW.region ?_)
 iterate 2 refine AO.pu T ?_
 refine AO.nil (AW.ret ?_)
 have hR := someE hH; subst hR
 exact retQ.i [] rfl (.t (expLG_cons (.c .v) (expLG_cons (.c .v) (expLG_nil))))
 replace hH := condF hc hH
 refine AW.skip ?_
 iterate 2 refine AW.seq ?_
 refine AW.region ?_
 refine AO.pu T ?_
 refine AO.val rfl rfl (len_map_ok T rfl rfl rfl) ?_
 refine AO.val rfl rfl (arw_ok rfl rfl rfl rfl) ?_
 refine AO.pu T ?_
 refine AO.nil ?_
 refine AW.block ?_
 refine AW.loopS (fun s : Nat × Int => (⟨[(1, .s (List.map encChange h)), (2, item), (3, name), (10, s.2)], [], 46, []⟩ : St)) (fun s => spec_LastChange_l1 h item name s.1 s.2 = some r) (fun s => s.1) (fuel, w64 ((h.length : Int) - 1)) hH ?_ ?_
 exact Le.ct 0 0
 rintro ⟨k5, v11⟩ hH
 replace hH : spec_LastChange_l1 h item name k5 v11 = some r := hH
 try dsimp only
 rcases k5 with _ | k5
 cases (show none = some _ from hH)
 rw [spec_LastChange_l1] at hH
 iterate 2 refine AW.seq ?_
 refine AW.region ?_
 iterate 2 refine AO.pu T ?_
 refine AO.nil ?_
 refine AW.cond (b := decide (v11 ≥ 0)) rfl (fun hc => ?_) (fun hc => ?_)
 replace hH := condT hc hH
 refine AW.skip ?_
 refine AW.seq ?_
 refine AW.block ?_
 refine AW.seq ?_
 obtain ⟨x13, hx14, hH⟩ := bindE hH
 refine AW.region ?_
 iterate 2 refine AO.pu T ?_
 refine AO.val rfl rfl (ix_map_ok T rfl rfl rfl rfl rfl (hx14) rfl) ?_
 iterate 5 refine AO.pu T ?_
 iterate 2 refine AO.pureG T [] rfl trivial rfl rfl ?_
 refine AO.guard [37, 38] rfl ⟨fun h => h, fun h => h, trivial⟩ (fun hg => ix_map_ok T rfl rfl rfl rfl rfl (hx14) rfl) rfl ?_
 refine AO.pureG T [39] rfl ⟨fun h => h, trivial⟩ rfl rfl ?_
 refine AO.pureG T [40] rfl ⟨fun h => h, trivial⟩ rfl rfl ?_
 refine AO.pureG T [] rfl trivial rfl rfl ?_
 refine AO.pureG T [41, 42] rfl ⟨fun h => h, fun h => h, trivial⟩ rfl rfl ?_
 refine AO.val rfl rfl (pick_and rfl rfl rfl rfl) ?_
 refine AO.nil ?_
 refine AW.cond (b := ((x13.item == item) && (x13.name == name))) rfl (fun hc => ?_) (fun hc => ?_)
 replace hH := condT hc hH
 refine AW.seq (AW.region ?_)
 iterate 3 refine AO.pu T ?_
 refine AO.nil (AW.ret ?_)
 have hR := someE hH; subst hR
 exact retQ.i [] rfl (.t (expLG_cons (.c .v) (expLG_cons (.c .v) (expLG_nil))))
 replace hH := condF hc hH
 refine AW.skip ?_
 refine AW.region ?_
 refine AO.pu T ?_
 refine AO.val rfl rfl (arw_ok rfl rfl rfl rfl) ?_
 refine AO.pu T ?_
 refine AO.nil ?_
 refine ⟨(k5, w64 (v11 - 1)), hH, Nat.lt_succ_self _, ?_⟩
 exact Le.ct 0 0
 replace hH := condF hc hH
 refine AW.exit ?_
 refine AW.seq (AW.region ?_)
 iterate 2 refine AO.pu T ?_
 refine AO.nil (AW.ret ?_)
 have hR := someE hH; subst hR
 exact retQ.i [] rfl (.t (expLG_cons (.c .v) (expLG_cons (.c .v) (expLG_nil))))

def slices_Sort_int_p (x : List Int) : Option (List Int) := (need (Nat.blt x.length 4611686018427387904)).bind fun _ => some (sortI x)
theorem slices_Sort_int_ok (x : List Int) (r : List Int) (hH : slices_Sort_int_p x = some r) : SpecM Try.prog 61 [.w 1 (x.map encInt)] [.w 1 (r.map encInt)] (.t []) := by
  obtain ⟨u, hu, hr⟩ := bindE hH
  cases someE hr
  exact spec_sortI ⟨_, Try.func61, rfl, by decide⟩ Try.slices_Sort_int Try.slices_Sort_int_none x (Nat.le_of_ble_eq_true (needT hu))

def slices_Compact_int_l2 (sA : List Int) (v147 : Int) : Nat → List Int → Int → List Int → Int → Option (Except ((List Int)) Unit)
  | 0, _, _, _, _ => none
  | k192 + 1, v207, v208, v209, v210 =>
    cond (decide (v210 < (((sA.length - v147.toNat) : Nat) : Int)))
      ((getP v209 v147.toNat (sA.length - v147.toNat) v210).bind fun x212 =>
      (getP v209 v147.toNat (sA.length - v147.toNat) (w64 (v210 - 1))).bind fun x214 =>
      cond (x212 != x214)
        ((getI v209 v208).bind fun x216 =>
        slices_Compact_int_l2 sA v147 k192 (v209.set v208.toNat x212) (w64 (v208 + 1)) (v209.set v208.toNat x212) (w64 (v210 + 1)))
        (slices_Compact_int_l2 sA v147 k192 v209 v208 v209 (w64 (v210 + 1))))
      ((need (inB v208 v209.length v209.length)).bind fun u218 =>
      (need (inB 0 v208 ((List.take v208.toNat v209 ++ List.replicate (v209.length - v208.toNat) 0 ++ List.drop (v208.toNat + (v209.length - v208.toNat)) v209)).length)).bind fun u220 =>
      some (.error ((List.drop 0 (List.take v208.toNat v209 ++ List.replicate (v209.length - v208.toNat) 0 ++ List.drop (v208.toNat + (v209.length - v208.toNat)) v209)).take v208.toNat)))
def slices_Compact_int_l1 (sA : List Int) (fuel : Nat) : Nat → Int → Option ((List Int))
  | 0, _ => none
  | k1 + 1, v147 =>
    cond (decide (v147 < (sA.length : Int)))
      (((getI sA v147).bind fun x186 =>
      (getI sA (w64 (v147 - 1))).bind fun x188 =>
      cond (x186 == x188)
        ((need (inB v147 sA.length sA.length)).bind fun u190 =>
        slices_Compact_int_l2 sA v147 fuel sA v147 sA 1)
        (some (.ok ()))).bind fun o184 => flow o184 fun _ =>
      slices_Compact_int_l1 sA fuel k1 (w64 (v147 + 1)))
      (some sA)
def slices_Compact_int_p (fuel : Nat) (sA : List Int) : Option (List Int) :=
  cond (decide ((sA.length : Int) < 2))
    (some sA)
    (slices_Compact_int_l1 sA fuel fuel 1)
theorem slices_Compact_int_ok (fuel : Nat) (sA : List Int) (r : (List Int)) (hH : slices_Compact_int_p fuel sA = some r) : SpecM Try.prog 62 [.w 1 (sA.map encInt)] [.u] (.w 1 (r.map encInt)) := by
 refine fn_okM T Try.func62 rfl (by decide) rfl rfl ?_
 intro L
 show AW _ _ _ (⟨[(0, .R 1)], [(1, .row 1 (List.map encInt sA))], 61, [(1, L 1)]⟩ : St)
 refine AW.seq (AW.region ?_)
 refine AO.pu T ?_
 refine AO.nil ?_
 iterate 2 refine AW.seq ?_
 refine AW.region ?_
 refine AO.pu T ?_
 refine AO.val rfl rfl (len_row_ok T rfl rfl rfl rfl) ?_
 refine AO.pu T ?_
 refine AO.nil ?_
 refine AW.cond (b := decide ((sA.length : Int) < 2)) rfl (fun hc => ?_) (fun hc => ?_)
 replace hH := condT hc hH
 refine AW.seq (AW.region ?_)
 iterate 2 refine AO.pu T ?_
 refine AO.nil (AW.ret ?_)
 have hR := someE hH; subst hR
 exact ⟨trivial, rfl, _, [1], [], rfl, expLG_cons (.c .u) (expLG_nil), .c (.c (.rowR rfl)), by decide⟩
 replace hH := condF hc hH
 refine AW.skip ?_
 iterate 2 refine AW.seq ?_
 refine AW.region ?_
 refine AO.pu T ?_
 refine AO.nil ?_
 refine AW.block ?_
 refine AW.loopS (fun s : Nat × Int => (⟨[(0, .R 1), (3, s.2)], [(1, .row 1 (List.map encInt sA))], 61, [(1, L 1)]⟩ : St)) (fun s => slices_Compact_int_l1 sA fuel s.1 s.2 = some r) (fun s => s.1) (fuel, 1) hH ?_ ?_
 exact Le.ct 0 0 (hpin := ⟨⟨rfl, rfl⟩, trivial⟩)
 rintro ⟨k1, v147⟩ hH
 replace hH : slices_Compact_int_l1 sA fuel k1 v147 = some r := hH
 try dsimp only
 rcases k1 with _ | k1
 cases (show none = some _ from hH)
 rw [slices_Compact_int_l1] at hH
 iterate 2 refine AW.seq ?_
 refine AW.region ?_
 iterate 2 refine AO.pu T ?_
 refine AO.val rfl rfl (len_row_ok T rfl rfl rfl rfl) ?_
 refine AO.pu T ?_
 refine AO.nil ?_
 refine AW.cond (b := decide (v147 < (sA.length : Int))) rfl (fun hc => ?_) (fun hc => ?_)
 replace hH := condT hc hH
 refine AW.skip ?_
 obtain ⟨o184, hH, hK185⟩ := bindE hH
 refine AW.seqJ (fun s : Unit => (⟨[(0, .R 1), (3, v147)], [(1, .row 1 (List.map encInt sA))], 61, [(1, L 1)]⟩ : St)) (fun s => .ok s = o184) ?_ ?_
 refine AW.block ?_
 refine AW.seq ?_
 obtain ⟨x186, hx187, hH⟩ := bindE hH
 obtain ⟨x188, hx189, hH⟩ := bindE hH
 refine AW.drawn 9 2 [] mix (by kernel_rfl) rfl ?_
 iterate 2 refine AD.pure T rfl rfl rfl ?_
 refine AD.val rfl rfl (ix_row_ok T rfl rfl rfl rfl rfl rfl (hx187)) ?_
 refine AD.val rfl rfl (load_row_ok T rfl rfl rfl rfl (getI_get (hx187)) rfl rfl rfl) ?_
 iterate 2 refine AD.pure T rfl rfl rfl ?_
 refine AD.val rfl rfl (arw_ok rfl rfl rfl rfl) ?_
 refine AD.val rfl rfl (ix_row_ok T rfl rfl rfl rfl rfl rfl (hx189)) ?_
 refine AD.val rfl rfl (load_row_ok T rfl rfl rfl rfl (getI_get (hx189)) rfl rfl rfl) ?_
 refine AD.nil ?_
 refine AO.pu T ?_
 refine AO.nil ?_
 refine AW.cond (b := (x186 == x188)) rfl (fun hc => ?_) (fun hc => ?_)
 replace hH := condT hc hH
 refine AW.seq ?_
 obtain ⟨u190, hx191, hH⟩ := bindE hH
 refine AW.region ?_
 iterate 2 refine AO.pu T ?_
 refine AO.val rfl rfl (slice_row_lo T rfl rfl rfl rfl rfl rfl (needT (hx191))) ?_
 refine AO.pu T ?_
 refine AO.nil ?_
 iterate 2 refine AW.seq ?_
 refine AW.region ?_
 refine AO.pu T ?_
 refine AO.nil ?_
 refine AW.block ?_
 refine AW.loopS (fun s : Nat × (List Int) × Int × (List Int) × Int => (⟨[(0, .R 1), (3, s.2.2.1), (4, .r 1 v147.toNat (sA.length - v147.toNat)), (5, s.2.2.2.2)], [(1, .row 1 (List.map encInt s.2.2.2.1))], 61, [(1, L 1)]⟩ : St)) (fun s => slices_Compact_int_l2 sA v147 s.1 s.2.1 s.2.2.1 s.2.2.2.1 s.2.2.2.2 = some o184) (fun s => s.1) (fuel, sA, v147, sA, 1) hH ?_ ?_
 exact Le.ct 0 0 (hpin := ⟨⟨rfl, rfl⟩, trivial⟩)
 rintro ⟨k192, v207, v208, v209, v210⟩ hH
 replace hH : slices_Compact_int_l2 sA v147 k192 v207 v208 v209 v210 = some o184 := hH
 try dsimp only
 rcases k192 with _ | k192
 cases (show none = some _ from hH)
 rw [slices_Compact_int_l2] at hH
 iterate 2 refine AW.seq ?_
 refine AW.region ?_
 iterate 4 refine AO.pu T ?_
 refine AO.nil ?_
 refine AW.cond (b := decide (v210 < (((sA.length - v147.toNat) : Nat) : Int))) rfl (fun hc => ?_) (fun hc => ?_)
 replace hH := condT hc hH
 refine AW.skip ?_
 refine AW.seq ?_
 refine AW.block ?_
 refine AW.seq ?_
 obtain ⟨x212, hx213, hH⟩ := bindE hH
 obtain ⟨x214, hx215, hH⟩ := bindE hH
 refine AW.drawn 9 2 [] mix (by kernel_rfl) rfl ?_
 iterate 2 refine AD.pure T rfl rfl rfl ?_
 refine AD.val rfl rfl (ix_part_ok T rfl rfl rfl rfl rfl rfl (hx213)) ?_
 refine AD.val rfl rfl (load_row_ok T rfl rfl rfl rfl (getP_get (hx213)) rfl rfl rfl) ?_
 iterate 2 refine AD.pure T rfl rfl rfl ?_
 refine AD.val rfl rfl (arw_ok rfl rfl rfl rfl) ?_
 refine AD.val rfl rfl (ix_part_ok T rfl rfl rfl rfl rfl rfl (hx215)) ?_
 refine AD.val rfl rfl (load_row_ok T rfl rfl rfl rfl (getP_get (hx215)) rfl rfl rfl) ?_
 refine AD.nil ?_
 refine AO.pu T ?_
 refine AO.nil ?_
 refine AW.cond (b := (x212 != x214)) rfl (fun hc => ?_) (fun hc => ?_)
 replace hH := condT hc hH
 refine AW.seq ?_
 obtain ⟨x216, hx217, hH⟩ := bindE hH
 refine AW.region ?_
 iterate 4 refine AO.pu T ?_
 refine AO.val rfl rfl (ix_part_ok T rfl rfl rfl rfl rfl rfl (hx213)) ?_
 refine AO.val rfl rfl (load_row_ok T rfl rfl rfl rfl (getP_get (hx213)) rfl rfl rfl) ?_
 refine AO.val rfl rfl (ix_row_ok T rfl rfl rfl rfl rfl rfl (hx217)) ?_
 refine AO.step rfl (store_row_ok T rfl rfl rfl rfl rfl (getI_get (hx217)) rfl rfl rfl rfl (u' := x212) rfl rfl) ?_
 refine AO.nil ?_
 refine AW.region ?_
 refine AO.pu T ?_
 refine AO.val rfl rfl (arw_ok rfl rfl rfl rfl) ?_
 refine AO.pu T ?_
 refine AO.nil ?_
 refine AW.le (Le.ct 0 0 (σ' := (⟨[(0, .R 1), (3, w64 (v208 + 1)), (4, .r 1 v147.toNat (sA.length - v147.toNat)), (5, v210)], [(1, .row 1 (List.map encInt (v209.set v208.toNat x212)))], 61, [(1, L 1)]⟩ : St)) (hpin := ⟨⟨rfl, rfl⟩, trivial⟩)) ?_
 refine AW.region ?_
 refine AO.pu T ?_
 refine AO.val rfl rfl (arw_ok rfl rfl rfl rfl) ?_
 refine AO.pu T ?_
 refine AO.nil ?_
 refine ⟨(k192, (v209.set v208.toNat x212), w64 (v208 + 1), (v209.set v208.toNat x212), w64 (v210 + 1)), hH, Nat.lt_succ_self _, ?_⟩
 exact Le.ct 0 0 (hpin := ⟨⟨rfl, rfl⟩, trivial⟩)
 replace hH := condF hc hH
 refine AW.skip ?_
 refine AW.region ?_
 refine AO.pu T ?_
 refine AO.val rfl rfl (arw_ok rfl rfl rfl rfl) ?_
 refine AO.pu T ?_
 refine AO.nil ?_
 refine ⟨(k192, v209, v208, v209, w64 (v210 + 1)), hH, Nat.lt_succ_self _, ?_⟩
 exact Le.ct 0 0 (hpin := ⟨⟨rfl, rfl⟩, trivial⟩)
 replace hH := condF hc hH
 refine AW.exit ?_
 refine AW.seq ?_
 obtain ⟨u218, hx219, hH⟩ := bindE hH
 refine AW.region ?_
 iterate 2 refine AO.pu T ?_
 refine AO.val rfl rfl (slice_row_lo T rfl rfl rfl rfl rfl rfl (needT (hx219))) ?_
 refine AO.step rfl (clear_r_ok T (f := encInt) (zo := 0) rfl rfl rfl rfl (by decide) rfl (by repeat constructor) rfl rfl (by have := inB_iff (needT (hx219)); omega) rfl) ?_
 refine AO.nil (AW.seq ?_)
 obtain ⟨u220, hx221, hH⟩ := bindE hH
 refine AW.region ?_
 iterate 2 refine AO.pu T ?_
 refine AO.val rfl rfl (slice_row_hi T rfl rfl rfl rfl rfl rfl (needT (hx221))) ?_
 refine AO.pu T ?_
 refine AO.nil (AW.ret ?_)
 obtain rfl := someE hH
 replace hH := hK185
 have hR := someE hH; subst hR
 exact ⟨trivial, rfl, _, [1], [], rfl, expLG_cons (.c .u) (expLG_nil), .c (.c (.partM rfl (by have := inB_iff (needT (hx221)); omega))), by decide⟩
 replace hH := condF hc hH
 refine AW.skip ?_
 refine ⟨_, someE hH, ?_⟩
 exact Le.ct 0 0 (hpin := ⟨⟨rfl, rfl⟩, trivial⟩)
 rintro _ hs
 subst hs
 replace hH := hK185
 try dsimp only [flow, flowE] at hH
 try dsimp only
 refine AW.region ?_
 refine AO.pu T ?_
 refine AO.val rfl rfl (arw_ok rfl rfl rfl rfl) ?_
 refine AO.pu T ?_
 refine AO.nil ?_
 refine ⟨(k1, w64 (v147 + 1)), hH, Nat.lt_succ_self _, ?_⟩
 exact Le.ct 0 0 (hpin := ⟨⟨rfl, rfl⟩, trivial⟩)
 replace hH := condF hc hH
 refine AW.exit ?_
 refine AW.seq (AW.region ?_)
 iterate 2 refine AO.pu T ?_
 refine AO.nil (AW.ret ?_)
 have hR := someE hH; subst hR
 exact ⟨trivial, rfl, _, [1], [], rfl, expLG_cons (.c .u) (expLG_nil), .c (.c (.rowR rfl)), by decide⟩

def impl_CallersOf_l1 (item : Int) (name : Int) (fuel : Nat) : List Change → Nat → List Int → Option (((List Int) × Bool))
  | [], k5, v16 =>
    (slices_Sort_int_p v16).bind fun x18 =>
    (slices_Compact_int_p fuel x18).bind fun x20 =>
    some (x20, true)
  | y6 :: ys7, k5, v16 =>
    cond ((y6.item == item) && (y6.name == name))
      ((need (fitsB 8 (v16.length + ([y6.caller]).length))).bind fun u22 =>
      impl_CallersOf_l1 item name fuel ys7 (k5 + 1) (v16 ++ [y6.caller]))
      (impl_CallersOf_l1 item name fuel ys7 (k5 + 1) v16)
def impl_CallersOf_p (fuel : Nat) (l : List Item) (h : List Change) (item : Int) (name : Int) : Option ((List Int) × Bool) :=
  (impl_isHistory_p fuel l h).bind fun x1 =>
  (opt (!(!x1)) default (impl_hasNameAt_p l item name)).bind fun x3 =>
  cond ((!x1) || (!x3))
    (some ([], false))
    (impl_CallersOf_l1 item name fuel h 0 [])
theorem impl_CallersOf_ok (fuel : Nat) (l : List Item) (h : List Change) (item : Int) (name : Int) (r : ((List Int) × Bool)) (hH : impl_CallersOf_p fuel l h item name = some r) : SpecR Try.prog 16 [.s (List.map encItem l), .s (List.map encChange h), item, name] (.t [.w 1 (r.1.map encInt), .v (.bool r.2)]) := by
 refine fn_ok T Try.func16 rfl (by decide) rfl ?_
 refine AW.seq (AW.region ?_)
 iterate 2 refine AO.pu T ?_
 refine AO.nil ?_
 iterate 2 refine AW.seq ?_
 obtain ⟨x1, hx2, hH⟩ := bindE hH
 obtain ⟨x3, hx4, hH⟩ := bindE hH
 refine AW.region ?_
 iterate 2 refine AO.pu T ?_
 refine AO.val rfl rfl (callV_ok rfl rfl rfl rfl (impl_isHistory_ok fuel _ _ _ (hx2)) rfl) ?_
 iterate 2 refine AO.pu T ?_
 iterate 3 refine AO.pureG T [] rfl trivial rfl rfl ?_
 refine AO.guard [18, 19, 20] rfl ⟨fun h => h, fun h => h, fun h => h, trivial⟩ (fun hg => callV_ok rfl rfl rfl rfl (impl_hasNameAt_ok _ _ _ _ (optT hx4 hg)) rfl) rfl ?_
 refine AO.pureG T [21] rfl ⟨fun h => h, trivial⟩ rfl rfl ?_
 refine AO.val rfl rfl (pick_or rfl rfl rfl rfl) ?_
 refine AO.nil ?_
 refine AW.cond (b := ((!x1) || (!x3))) rfl (fun hc => ?_) (fun hc => ?_)
 replace hH := condT hc hH
 refine AW.seq (AW.region ?_)
 iterate 2 refine AO.pu T ?_
 refine AO.nil (AW.ret ?_)
 have hR := someE hH; subst hR
 exact retQ.i [] rfl (.t (expLG_cons (.c .nil) (expLG_cons (.c .v) (expLG_nil))))
 replace hH := condF hc hH
 refine AW.skip ?_
 refine AW.seq (AW.region ?_)
 refine AO.step rfl (mk0_ok T rfl rfl rfl rfl) ?_
 refine AO.pu T ?_
 refine AO.nil ?_
 iterate 2 refine AW.seq ?_
 refine AW.region ?_
 refine AO.pu T ?_
 refine AO.val rfl rfl (len_map_ok T rfl rfl rfl) ?_
 refine AO.pu T ?_
 refine AO.nil ?_
 refine AW.block ?_
 refine AW.loopS (fun s : Nat × (List Int) => (⟨[(2, item), (3, name), (10, .R 6), (25, .s (List.map encChange h)), (26, (h.length : Int)), (27, (s.1 : Int))], [(6, .row 1 (List.map encInt s.2))], 51, []⟩ : St)) (fun s => s.1 ≤ h.length ∧ impl_CallersOf_l1 item name fuel (h.drop s.1) s.1 s.2 = some r) (fun s => h.length - s.1) (0, []) ⟨Nat.zero_le _, hH⟩ ?_ ?_
 refine Le.trans (Le.void 10 6 1 rfl rfl) ?_
 exact Le.ct 0 0
 rintro ⟨k5, v16⟩ ⟨hk, hH⟩
 replace hH : impl_CallersOf_l1 item name fuel (h.drop k5) k5 v16 = some r := hH
 try dsimp only
 refine AW.boundM (t := 25) (l := h) rfl (fun hb9 => ?_)
 rcases hd8 : h.drop k5 with _ | ⟨y6, ys7⟩
 rw [hd8, impl_CallersOf_l1] at hH
 have hlt10 := drop_ge hd8
 refine AW.seq (AW.region ?_)
 refine AO.pu T ?_
 refine AO.nil (AW.seq ?_)
 refine AW.condF' (b := decide ((k5 : Int) < (h.length : Int))) rfl (rngF hlt10) ?_
 refine AW.exit ?_
 refine AW.seq ?_
 obtain ⟨x18, hx19, hH⟩ := bindE hH
 refine AW.region ?_
 refine AO.pu T ?_
 refine AO.step rfl (callM_ok rfl 7 rfl rfl (es := [.w 1 (v16.map encInt)]) (outs := [.w 1 (x18.map encInt)]) (ids := [6]) (by exact expLG_cons (.c (.rowR rfl)) (expLG_nil)) (by decide) (.inl (by rfl)) (by rfl) (slices_Sort_int_ok _ _ (hx19)) rfl (by rfl) rfl) ?_
 refine AO.nil (AW.seq ?_)
 obtain ⟨x20, hx21, hH⟩ := bindE hH
 refine AW.region ?_
 refine AO.pu T ?_
 refine AO.step rfl (callM_ok rfl 7 rfl rfl (es := [.w 1 (x18.map encInt)]) (outs := [.u]) (ids := [6]) (by exact expLG_cons (.c (.rowR rfl)) (expLG_nil)) (by decide) (.inr (by exact (show ([] : List Nat).Nodup ∧ ∀ i ∈ ([] : List Nat), i ∈ ([6] : List Nat) from by decide))) (by rfl) (slices_Compact_int_ok fuel _ _ (hx21)) rfl (by rfl) rfl) ?_
 iterate 2 refine AO.pu T ?_
 refine AO.nil (AW.ret ?_)
 have hR := someE hH; subst hR
 exact retQ.i [7] rfl (.t (expLG_cons (.c (.rowR rfl)) (expLG_cons (.c .v) (expLG_nil))))
 rw [hd8, impl_CallersOf_l1] at hH
 have hlt10 := drop_lt hd8
 refine AW.seq (AW.region ?_)
 refine AO.pu T ?_
 refine AO.nil (AW.seq ?_)
 refine AW.condT' (b := decide ((k5 : Int) < (h.length : Int))) rfl (rngT hlt10) ?_
 refine AW.skip ?_
 refine AW.seq ?_
 refine AW.block ?_
 refine AW.seq (AW.region ?_)
 refine AO.val rfl rfl (ix_map_ok T rfl rfl rfl rfl rfl (getI_drop hd8) rfl) ?_
 refine AO.pu T (d := .g [y6.tick, y6.caller, y6.item, y6.name, y6.mark, .v (.bool y6.review)]) ?_
 refine AO.step rfl (alloc_ok T rfl 8 rfl rfl rfl rfl rfl) ?_
 refine AO.se T [y6.tick, y6.caller, y6.item, y6.name, y6.mark, .v (.bool y6.review)] ?_
 refine AO.nil (AW.seq ?_)
 refine AW.region ?_
 iterate 5 refine AO.pu T ?_
 refine AO.pureG T [] rfl trivial rfl rfl ?_
 refine AO.pureG T [36] rfl ⟨fun h => h, trivial⟩ rfl rfl ?_
 refine AO.pureG T [] rfl trivial rfl rfl ?_
 refine AO.pureG T [37, 38] rfl ⟨fun h => h, fun h => h, trivial⟩ rfl rfl ?_
 refine AO.val rfl rfl (pick_and rfl rfl rfl rfl) ?_
 refine AO.nil ?_
 refine AW.cond (b := ((y6.item == item) && (y6.name == name))) rfl (fun hc => ?_) (fun hc => ?_)
 replace hH := condT hc hH
 obtain ⟨u22, hx23, hH⟩ := bindE hH
 refine AW.region ?_
 iterate 3 refine AO.pu T ?_
 refine AO.step rfl (mk_map_ok T rfl 9 rfl rfl rfl rfl rfl (f := encInt) (l := [y6.caller]) rfl rfl (fun _ => rfl) rfl rfl rfl rfl rfl) ?_
 refine AO.step rfl (app_rv_map T rfl 10 rfl rfl rfl rfl rfl (by decide) rfl rfl rfl rfl (fun _ => rfl) (needT (hx23)) rfl rfl) ?_
 refine AO.pu T ?_
 refine AO.nil ?_
 refine AW.region ?_
 refine AO.val rfl rfl (ar_ok rfl rfl rfl rfl (inI_succ hlt10 hb9)) ?_
 refine AO.pu T ?_
 refine AO.nil ?_
 refine ⟨(k5 + 1, (v16 ++ [y6.caller])), ⟨Nat.succ_le_of_lt hlt10, (by rw [drop_succ_of hd8]; exact hH)⟩, (by have := hlt10; dsimp only; omega), ?_⟩
 exact Le.ct 10 6
 replace hH := condF hc hH
 refine AW.skip ?_
 refine AW.region ?_
 refine AO.val rfl rfl (ar_ok rfl rfl rfl rfl (inI_succ hlt10 hb9)) ?_
 refine AO.pu T ?_
 refine AO.nil ?_
 refine ⟨(k5 + 1, v16), ⟨Nat.succ_le_of_lt hlt10, (by rw [drop_succ_of hd8]; exact hH)⟩, (by have := hlt10; dsimp only; omega), ?_⟩
 exact Le.ct 0 0

def spec_l1Put_l1 (l : List Int) (n : Int) : Nat → Int → Option Int
  | 0, _ => none
  | k13 + 1, v19 =>
    (opt (decide (v19 < (l.length : Int))) default (getI l v19)).bind fun x21 =>
    cond (decide (v19 < (l.length : Int)) && decide (x21 < n))
      (spec_l1Put_l1 l n k13 (w64 (v19 + 1)))
      (some v19)
def spec_l1Put_p (fuel : Nat) (l : List Int) (n : Int) : Option (List Int) :=
  (spec_l1Put_l1 l n fuel 0).bind fun v10 =>
  (opt (decide (v10 < (l.length : Int))) default (getI l v10)).bind fun x23 =>
  cond (decide (v10 < (l.length : Int)) && (x23 == n))
    (some l)
    ((sliceHi l v10).bind fun x25 =>
    (need (fitsB 8 x25.length)).bind fun u27 =>
    (need (fitsB 8 (x25.length + ([n]).length))).bind fun u29 =>
    (sliceLo l v10).bind fun x31 =>
    (need (fitsB 8 (((x25 ++ [n])).length + x31.length))).bind fun u33 =>
    some ((x25 ++ [n]) ++ x31))
theorem spec_l1Put_ok (fuel : Nat) (l : List Int) (n : Int) (r : (List Int)) (hH : spec_l1Put_p fuel l n = some r) : SpecR Try.prog 63 [.s (List.map encInt l), n] (.s (r.map encInt)) := by
 refine fn_ok T Try.func63 rfl (by decide) rfl ?_
 refine AW.seq (AW.region ?_)
 refine AO.pu T ?_
 refine AO.nil (AW.seq ?_)
 refine AW.region ?_
 refine AO.pu T ?_
 refine AO.nil ?_
 obtain ⟨o11, hH, hK12⟩ := bindE hH
 refine AW.seqJ (fun s : Int => (⟨[(0, .s (List.map encInt l)), (1, n), (5, s)], [], 48, []⟩ : St)) (fun s => s = o11) ?_ ?_
 refine AW.block ?_
 refine AW.loopS (fun s : Nat × Int => (⟨[(0, .s (List.map encInt l)), (1, n), (5, s.2)], [], 48, []⟩ : St)) (fun s => spec_l1Put_l1 l n s.1 s.2 = some o11) (fun s => s.1) (fuel, 0) hH ?_ ?_
 exact Le.ct 0 0
 rintro ⟨k13, v19⟩ hH
 replace hH : spec_l1Put_l1 l n k13 v19 = some o11 := hH
 try dsimp only
 rcases k13 with _ | k13
 cases (show none = some _ from hH)
 rw [spec_l1Put_l1] at hH
 iterate 2 refine AW.seq ?_
 obtain ⟨x21, hx22, hH⟩ := bindE hH
 refine AW.region ?_
 iterate 2 refine AO.pu T ?_
 refine AO.val rfl rfl (len_map_ok T rfl rfl rfl) ?_
 iterate 2 refine AO.pu T ?_
 iterate 2 refine AO.pureG T [] rfl trivial rfl rfl ?_
 refine AO.guard [12, 13] rfl ⟨fun h => h, fun h => h, trivial⟩ (fun hg => ix_map_ok T rfl rfl rfl rfl rfl (optT hx22 hg) rfl) rfl ?_
 refine AO.pureG T [14] rfl ⟨fun h => h, trivial⟩ rfl rfl ?_
 refine AO.pureG T [] rfl trivial rfl rfl ?_
 refine AO.pureG T [15, 16] rfl ⟨fun h => h, fun h => h, trivial⟩ rfl rfl ?_
 refine AO.val rfl rfl (pick_and rfl rfl rfl rfl) ?_
 refine AO.nil ?_
 refine AW.cond (b := (decide (v19 < (l.length : Int)) && decide (x21 < n))) rfl (fun hc => ?_) (fun hc => ?_)
 replace hH := condT hc hH
 refine AW.skip ?_
 refine AW.block ?_
 refine AW.region ?_
 refine AO.pu T ?_
 refine AO.val rfl rfl (arw_ok rfl rfl rfl rfl) ?_
 refine AO.pu T ?_
 refine AO.nil ?_
 refine ⟨(k13, w64 (v19 + 1)), hH, Nat.lt_succ_self _, ?_⟩
 exact Le.ct 0 0
 replace hH := condF hc hH
 refine AW.exit ?_
 refine ⟨_, someE hH, ?_⟩
 exact Le.ct 0 0
 rintro v10 hs
 subst hs
 replace hH := hK12
 try dsimp only [flow, flowE] at hH
 try dsimp only
 iterate 2 refine AW.seq ?_
 obtain ⟨x23, hx24, hH⟩ := bindE hH
 refine AW.region ?_
 iterate 2 refine AO.pu T ?_
 refine AO.val rfl rfl (len_map_ok T rfl rfl rfl) ?_
 iterate 2 refine AO.pu T ?_
 iterate 2 refine AO.pureG T [] rfl trivial rfl rfl ?_
 refine AO.guard [26, 27] rfl ⟨fun h => h, fun h => h, trivial⟩ (fun hg => ix_map_ok T rfl rfl rfl rfl rfl (optT hx24 hg) rfl) rfl ?_
 refine AO.pureG T [28] rfl ⟨fun h => h, trivial⟩ rfl rfl ?_
 refine AO.pureG T [] rfl trivial rfl rfl ?_
 refine AO.pureG T [29, 30] rfl ⟨fun h => h, fun h => h, trivial⟩ rfl rfl ?_
 refine AO.val rfl rfl (pick_and rfl rfl rfl rfl) ?_
 refine AO.nil ?_
 refine AW.cond (b := (decide (v10 < (l.length : Int)) && (x23 == n))) rfl (fun hc => ?_) (fun hc => ?_)
 replace hH := condT hc hH
 refine AW.seq (AW.region ?_)
 iterate 2 refine AO.pu T ?_
 refine AO.nil (AW.ret ?_)
 have hR := someE hH; subst hR
 exact retQ.i [] rfl (.c (.c .s))
 replace hH := condF hc hH
 refine AW.skip ?_
 refine AW.seq ?_
 obtain ⟨x25, hx26, hH⟩ := bindE hH
 obtain ⟨u27, hx28, hH⟩ := bindE hH
 refine AW.region ?_
 refine AO.step rfl (mk0_ok T rfl rfl rfl rfl) ?_
 iterate 2 refine AO.pu T ?_
 refine AO.val rfl rfl (slice_hi_map_ok T rfl rfl rfl rfl rfl (hx26) (fun _ => rfl)) ?_
 refine AO.step rfl (app_ws_map T rfl 1 rfl rfl rfl rfl rfl (by decide) (by decide) rfl rfl (fun _ => rfl) (needT (hx28)) rfl rfl) ?_
 refine AO.pu T ?_
 refine AO.nil (AW.seq ?_)
 obtain ⟨u29, hx30, hH⟩ := bindE hH
 refine AW.region ?_
 iterate 2 refine AO.pu T ?_
 refine AO.step rfl (mk_map_ok T rfl 2 rfl rfl rfl rfl rfl (f := encInt) (l := [n]) rfl rfl (fun _ => rfl) rfl rfl rfl rfl rfl) ?_
 refine AO.step rfl (app_rv_map T rfl 3 rfl rfl rfl rfl rfl (by decide) rfl rfl rfl rfl (fun _ => rfl) (needT (hx30)) rfl rfl) ?_
 refine AO.pu T ?_
 refine AO.nil (AW.seq ?_)
 obtain ⟨x31, hx32, hH⟩ := bindE hH
 obtain ⟨u33, hx34, hH⟩ := bindE hH
 refine AW.region ?_
 iterate 3 refine AO.pu T ?_
 refine AO.val rfl rfl (slice_lo_map_ok T rfl rfl rfl rfl rfl (hx32) (fun _ => rfl)) ?_
 refine AO.step rfl (app_rs_map T rfl 4 rfl rfl rfl rfl rfl (by decide) (by decide) rfl rfl rfl (fun _ => rfl) (needT (hx34)) rfl rfl) ?_
 refine AO.pu T ?_
 refine AO.nil ?_
 refine AW.le (Le.ct 0 0 (σ' := (⟨[(4, .R 4)], [(4, .row 1 (List.map encInt ((x25 ++ [n]) ++ x31)))], 48, []⟩ : St))) ?_
 refine AW.le (Le.freezeM 4 (g := encInt) rfl (fun y => .vs rfl)) ?_
 refine AW.ret ?_
 have hR := someE hH; subst hR
 exact retQ.i [] rfl (.c (.c .s))

def spec_CallersOf_l1 (item : Int) (name : Int) (fuel : Nat) : List Change → Nat → List Int → Option (((List Int) × Bool))
  | [], k5, v16 =>
    some (v16, true)
  | y6 :: ys7, k5, v16 =>
    cond ((y6.item == item) && (y6.name == name))
      ((spec_l1Put_p fuel v16 y6.caller).bind fun x18 =>
      spec_CallersOf_l1 item name fuel ys7 (k5 + 1) x18)
      (spec_CallersOf_l1 item name fuel ys7 (k5 + 1) v16)
def spec_CallersOf_p (fuel : Nat) (l : List Item) (h : List Change) (item : Int) (name : Int) : Option ((List Int) × Bool) :=
  (spec_hiAsked_p fuel l h).bind fun x1 =>
  (opt (!(!x1)) default (spec_hiName_p l item name)).bind fun x3 =>
  cond ((!x1) || (!x3))
    (some ([], false))
    (spec_CallersOf_l1 item name fuel h 0 [])
theorem spec_CallersOf_ok (fuel : Nat) (l : List Item) (h : List Change) (item : Int) (name : Int) (r : ((List Int) × Bool)) (hH : spec_CallersOf_p fuel l h item name = some r) : SpecR Try.prog 17 [.s (List.map encItem l), .s (List.map encChange h), item, name] (.t [.s (r.1.map encInt), .v (.bool r.2)]) := by
 refine fn_ok T Try.func17 rfl (by decide) rfl ?_
 refine AW.seq (AW.region ?_)
 iterate 2 refine AO.pu T ?_
 refine AO.nil ?_
 iterate 2 refine AW.seq ?_
 obtain ⟨x1, hx2, hH⟩ := bindE hH
 obtain ⟨x3, hx4, hH⟩ := bindE hH
 refine AW.region ?_
 iterate 2 refine AO.pu T ?_
 refine AO.val rfl rfl (callV_ok rfl rfl rfl rfl (spec_hiAsked_ok fuel _ _ _ (hx2)) rfl) ?_
 iterate 2 refine AO.pu T ?_
 iterate 3 refine AO.pureG T [] rfl trivial rfl rfl ?_
 refine AO.guard [18, 19, 20] rfl ⟨fun h => h, fun h => h, fun h => h, trivial⟩ (fun hg => callV_ok rfl rfl rfl rfl (spec_hiName_ok _ _ _ _ (optT hx4 hg)) rfl) rfl ?_
 refine AO.pureG T [21] rfl ⟨fun h => h, trivial⟩ rfl rfl ?_
 refine AO.val rfl rfl (pick_or rfl rfl rfl rfl) ?_
 refine AO.nil ?_
 refine AW.cond (b := ((!x1) || (!x3))) rfl (fun hc => ?_) (fun hc => ?_)
 replace hH := condT hc hH
 refine AW.seq (AW.region ?_)
 iterate 2 refine AO.pu T ?_
 refine AO.nil (AW.ret ?_)
 have hR := someE hH; subst hR
 exact retQ.i [] rfl (.t (expLG_cons (.c .nilS) (expLG_cons (.c .v) (expLG_nil))))
 replace hH := condF hc hH
 refine AW.skip ?_
 refine AW.seq (AW.region ?_)
 refine AO.pu T ?_
 refine AO.nil ?_
 iterate 2 refine AW.seq ?_
 refine AW.region ?_
 refine AO.pu T ?_
 refine AO.val rfl rfl (len_map_ok T rfl rfl rfl) ?_
 refine AO.pu T ?_
 refine AO.nil ?_
 refine AW.block ?_
 refine AW.loopS (fun s : Nat × (List Int) => (⟨[(2, item), (3, name), (10, .s (List.map encInt s.2)), (24, .s (List.map encChange h)), (25, (h.length : Int)), (26, (s.1 : Int))], [], 46, []⟩ : St)) (fun s => s.1 ≤ h.length ∧ spec_CallersOf_l1 item name fuel (h.drop s.1) s.1 s.2 = some r) (fun s => h.length - s.1) (0, []) ⟨Nat.zero_le _, hH⟩ ?_ ?_
 refine Le.trans (Le.nilS 10 rfl) ?_
 exact Le.ct 0 0
 rintro ⟨k5, v16⟩ ⟨hk, hH⟩
 replace hH : spec_CallersOf_l1 item name fuel (h.drop k5) k5 v16 = some r := hH
 try dsimp only
 refine AW.boundM (t := 24) (l := h) rfl (fun hb9 => ?_)
 rcases hd8 : h.drop k5 with _ | ⟨y6, ys7⟩
 rw [hd8, spec_CallersOf_l1] at hH
 have hlt10 := drop_ge hd8
 refine AW.seq (AW.region ?_)
 refine AO.pu T ?_
 refine AO.nil (AW.seq ?_)
 refine AW.condF' (b := decide ((k5 : Int) < (h.length : Int))) rfl (rngF hlt10) ?_
 refine AW.exit ?_
 refine AW.seq (AW.region ?_)
 iterate 3 refine AO.pu T ?_
 refine AO.nil (AW.ret ?_)
 have hR := someE hH; subst hR
 exact retQ.i [] rfl (.t (expLG_cons (.c .s) (expLG_cons (.c .v) (expLG_nil))))
 rw [hd8, spec_CallersOf_l1] at hH
 have hlt10 := drop_lt hd8
 refine AW.seq (AW.region ?_)
 refine AO.pu T ?_
 refine AO.nil (AW.seq ?_)
 refine AW.condT' (b := decide ((k5 : Int) < (h.length : Int))) rfl (rngT hlt10) ?_
 refine AW.skip ?_
 refine AW.seq ?_
 refine AW.block ?_
 refine AW.seq (AW.region ?_)
 refine AO.val rfl rfl (ix_map_ok T rfl rfl rfl rfl rfl (getI_drop hd8) rfl) ?_
 refine AO.pu T (d := .g [y6.tick, y6.caller, y6.item, y6.name, y6.mark, .v (.bool y6.review)]) ?_
 refine AO.step rfl (alloc_ok T rfl 3 rfl rfl rfl rfl rfl) ?_
 refine AO.se T [y6.tick, y6.caller, y6.item, y6.name, y6.mark, .v (.bool y6.review)] ?_
 refine AO.nil (AW.seq ?_)
 refine AW.region ?_
 iterate 5 refine AO.pu T ?_
 refine AO.pureG T [] rfl trivial rfl rfl ?_
 refine AO.pureG T [35] rfl ⟨fun h => h, trivial⟩ rfl rfl ?_
 refine AO.pureG T [] rfl trivial rfl rfl ?_
 refine AO.pureG T [36, 37] rfl ⟨fun h => h, fun h => h, trivial⟩ rfl rfl ?_
 refine AO.val rfl rfl (pick_and rfl rfl rfl rfl) ?_
 refine AO.nil ?_
 refine AW.cond (b := ((y6.item == item) && (y6.name == name))) rfl (fun hc => ?_) (fun hc => ?_)
 replace hH := condT hc hH
 obtain ⟨x18, hx19, hH⟩ := bindE hH
 refine AW.region ?_
 iterate 3 refine AO.pu T ?_
 refine AO.val rfl rfl (callV_ok rfl rfl rfl rfl (spec_l1Put_ok fuel _ _ _ (hx19)) rfl) ?_
 refine AO.pu T ?_
 refine AO.nil ?_
 refine AW.region ?_
 refine AO.val rfl rfl (ar_ok rfl rfl rfl rfl (inI_succ hlt10 hb9)) ?_
 refine AO.pu T ?_
 refine AO.nil ?_
 refine ⟨(k5 + 1, x18), ⟨Nat.succ_le_of_lt hlt10, (by rw [drop_succ_of hd8]; exact hH)⟩, (by have := hlt10; dsimp only; omega), ?_⟩
 exact Le.ct 0 0
 replace hH := condF hc hH
 refine AW.skip ?_
 refine AW.region ?_
 refine AO.val rfl rfl (ar_ok rfl rfl rfl rfl (inI_succ hlt10 hb9)) ?_
 refine AO.pu T ?_
 refine AO.nil ?_
 refine ⟨(k5 + 1, v16), ⟨Nat.succ_le_of_lt hlt10, (by rw [drop_succ_of hd8]; exact hH)⟩, (by have := hlt10; dsimp only; omega), ?_⟩
 exact Le.ct 0 0

def laws_qWords_l1 (b : List ByteArray) : List ByteArray → Nat → Option Bool
  | [], k1 =>
    some true
  | y2 :: ys3, k1 =>
    (getI b (k1 : Int)).bind fun x12 =>
    cond (!decide (y2 = x12))
      (some false)
      (laws_qWords_l1 b ys3 (k1 + 1))
def laws_qWords_p (a : List ByteArray) (b : List ByteArray) : Option Bool :=
  cond ((a.length : Int) != (b.length : Int))
    (some false)
    (laws_qWords_l1 b a 0)
theorem laws_qWords_ok (a : List ByteArray) (b : List ByteArray) (r : Bool) (hH : laws_qWords_p a b = some r) : SpecR Try.prog 64 [.s (List.map encStr a), .s (List.map encStr b)] (.v (.bool r)) := by
 refine fn_ok T Try.func64 rfl (by decide) rfl ?_
 refine AW.seq (AW.region ?_)
 refine AO.pu T ?_
 refine AO.nil ?_
 iterate 2 refine AW.seq ?_
 refine AW.region ?_
 refine AO.pu T ?_
 refine AO.val rfl rfl (len_map_ok T rfl rfl rfl) ?_
 refine AO.pu T ?_
 refine AO.val rfl rfl (len_map_ok T rfl rfl rfl) ?_
 refine AO.pu T ?_
 refine AO.nil ?_
 refine AW.cond (b := ((a.length : Int) != (b.length : Int))) rfl (fun hc => ?_) (fun hc => ?_)
 replace hH := condT hc hH
 refine AW.seq (AW.region ?_)
 refine AO.pu T ?_
 refine AO.nil (AW.ret ?_)
 have hR := someE hH; subst hR
 exact retQ.i [] rfl (.c (.c .v))
 replace hH := condF hc hH
 refine AW.skip ?_
 iterate 2 refine AW.seq ?_
 refine AW.region ?_
 refine AO.pu T ?_
 refine AO.val rfl rfl (len_map_ok T rfl rfl rfl) ?_
 refine AO.pu T ?_
 refine AO.nil ?_
 refine AW.block ?_
 refine AW.loopS (fun s : Nat => (⟨[(0, .s (List.map encStr a)), (1, .s (List.map encStr b)), (12, (a.length : Int)), (13, (s : Int))], [], 26, []⟩ : St)) (fun s => s ≤ a.length ∧ laws_qWords_l1 b (a.drop s) s = some r) (fun s => a.length - s) 0 ⟨Nat.zero_le _, hH⟩ ?_ ?_
 exact Le.ct 0 0
 rintro k1 ⟨hk, hH⟩
 replace hH : laws_qWords_l1 b (a.drop k1) k1 = some r := hH
 try dsimp only
 refine AW.boundM (t := 0) (l := a) rfl (fun hb5 => ?_)
 rcases hd4 : a.drop k1 with _ | ⟨y2, ys3⟩
 rw [hd4, laws_qWords_l1] at hH
 have hlt6 := drop_ge hd4
 refine AW.seq (AW.region ?_)
 refine AO.pu T ?_
 refine AO.nil (AW.seq ?_)
 refine AW.condF' (b := decide ((k1 : Int) < (a.length : Int))) rfl (rngF hlt6) ?_
 refine AW.exit ?_
 refine AW.seq (AW.region ?_)
 refine AO.pu T ?_
 refine AO.nil (AW.ret ?_)
 have hR := someE hH; subst hR
 exact retQ.i [] rfl (.c (.c .v))
 rw [hd4, laws_qWords_l1] at hH
 have hlt6 := drop_lt hd4
 refine AW.seq (AW.region ?_)
 refine AO.pu T ?_
 refine AO.nil (AW.seq ?_)
 refine AW.condT' (b := decide ((k1 : Int) < (a.length : Int))) rfl (rngT hlt6) ?_
 refine AW.skip ?_
 refine AW.seq ?_
 refine AW.block ?_
 refine AW.seq (AW.region ?_)
 iterate 2 refine AO.pu T ?_
 refine AO.nil (AW.seq ?_)
 obtain ⟨x12, hx13, hH⟩ := bindE hH
 refine AW.drawn 8 1 [] mix (by kernel_rfl) rfl ?_
 iterate 2 refine AD.pure T rfl rfl rfl ?_
 refine AD.val rfl rfl (ix_map_ok T rfl rfl rfl rfl rfl (getI_drop hd4) rfl) ?_
 iterate 3 refine AD.pure T rfl rfl rfl ?_
 refine AD.val rfl rfl (ix_map_ok T rfl rfl rfl rfl rfl (hx13) rfl) ?_
 refine AD.pure T rfl rfl rfl ?_
 refine AD.nil ?_
 refine AO.pu T ?_
 refine AO.nil ?_
 refine AW.cond (b := (!decide (y2 = x12))) rfl (fun hc => ?_) (fun hc => ?_)
 replace hH := condT hc hH
 refine AW.seq (AW.region ?_)
 refine AO.pu T ?_
 refine AO.nil (AW.ret ?_)
 have hR := someE hH; subst hR
 exact retQ.i [] rfl (.c (.c .v))
 replace hH := condF hc hH
 refine AW.skip ?_
 refine AW.region ?_
 refine AO.val rfl rfl (ar_ok rfl rfl rfl rfl (inI_succ hlt6 hb5)) ?_
 refine AO.pu T ?_
 refine AO.nil ?_
 refine ⟨k1 + 1, ⟨Nat.succ_le_of_lt hlt6, (by rw [drop_succ_of hd4]; exact hH)⟩, (by have := hlt6; dsimp only; omega), ?_⟩
 exact Le.ct 0 0

def laws_qInts_l1 (b : List Int) : List Int → Nat → Option Bool
  | [], k1 =>
    some true
  | y2 :: ys3, k1 =>
    (getI b (k1 : Int)).bind fun x12 =>
    cond (y2 != x12)
      (some false)
      (laws_qInts_l1 b ys3 (k1 + 1))
def laws_qInts_p (a : List Int) (b : List Int) : Option Bool :=
  cond ((a.length : Int) != (b.length : Int))
    (some false)
    (laws_qInts_l1 b a 0)
theorem laws_qInts_ok (a : List Int) (b : List Int) (r : Bool) (hH : laws_qInts_p a b = some r) : SpecR Try.prog 21 [.s (List.map encInt a), .s (List.map encInt b)] (.v (.bool r)) := by
 refine fn_ok T Try.func21 rfl (by decide) rfl ?_
 refine AW.seq (AW.region ?_)
 refine AO.pu T ?_
 refine AO.nil ?_
 iterate 2 refine AW.seq ?_
 refine AW.region ?_
 refine AO.pu T ?_
 refine AO.val rfl rfl (len_map_ok T rfl rfl rfl) ?_
 refine AO.pu T ?_
 refine AO.val rfl rfl (len_map_ok T rfl rfl rfl) ?_
 refine AO.pu T ?_
 refine AO.nil ?_
 refine AW.cond (b := ((a.length : Int) != (b.length : Int))) rfl (fun hc => ?_) (fun hc => ?_)
 replace hH := condT hc hH
 refine AW.seq (AW.region ?_)
 refine AO.pu T ?_
 refine AO.nil (AW.ret ?_)
 have hR := someE hH; subst hR
 exact retQ.i [] rfl (.c (.c .v))
 replace hH := condF hc hH
 refine AW.skip ?_
 iterate 2 refine AW.seq ?_
 refine AW.region ?_
 refine AO.pu T ?_
 refine AO.val rfl rfl (len_map_ok T rfl rfl rfl) ?_
 refine AO.pu T ?_
 refine AO.nil ?_
 refine AW.block ?_
 refine AW.loopS (fun s : Nat => (⟨[(0, .s (List.map encInt a)), (1, .s (List.map encInt b)), (12, (a.length : Int)), (13, (s : Int))], [], 26, []⟩ : St)) (fun s => s ≤ a.length ∧ laws_qInts_l1 b (a.drop s) s = some r) (fun s => a.length - s) 0 ⟨Nat.zero_le _, hH⟩ ?_ ?_
 exact Le.ct 0 0
 rintro k1 ⟨hk, hH⟩
 replace hH : laws_qInts_l1 b (a.drop k1) k1 = some r := hH
 try dsimp only
 refine AW.boundM (t := 0) (l := a) rfl (fun hb5 => ?_)
 rcases hd4 : a.drop k1 with _ | ⟨y2, ys3⟩
 rw [hd4, laws_qInts_l1] at hH
 have hlt6 := drop_ge hd4
 refine AW.seq (AW.region ?_)
 refine AO.pu T ?_
 refine AO.nil (AW.seq ?_)
 refine AW.condF' (b := decide ((k1 : Int) < (a.length : Int))) rfl (rngF hlt6) ?_
 refine AW.exit ?_
 refine AW.seq (AW.region ?_)
 refine AO.pu T ?_
 refine AO.nil (AW.ret ?_)
 have hR := someE hH; subst hR
 exact retQ.i [] rfl (.c (.c .v))
 rw [hd4, laws_qInts_l1] at hH
 have hlt6 := drop_lt hd4
 refine AW.seq (AW.region ?_)
 refine AO.pu T ?_
 refine AO.nil (AW.seq ?_)
 refine AW.condT' (b := decide ((k1 : Int) < (a.length : Int))) rfl (rngT hlt6) ?_
 refine AW.skip ?_
 refine AW.seq ?_
 refine AW.block ?_
 refine AW.seq (AW.region ?_)
 iterate 2 refine AO.pu T ?_
 refine AO.nil (AW.seq ?_)
 obtain ⟨x12, hx13, hH⟩ := bindE hH
 refine AW.drawn 8 1 [] mix (by kernel_rfl) rfl ?_
 iterate 2 refine AD.pure T rfl rfl rfl ?_
 refine AD.val rfl rfl (ix_map_ok T rfl rfl rfl rfl rfl (getI_drop hd4) rfl) ?_
 iterate 3 refine AD.pure T rfl rfl rfl ?_
 refine AD.val rfl rfl (ix_map_ok T rfl rfl rfl rfl rfl (hx13) rfl) ?_
 refine AD.pure T rfl rfl rfl ?_
 refine AD.nil ?_
 refine AO.pu T ?_
 refine AO.nil ?_
 refine AW.cond (b := (y2 != x12)) rfl (fun hc => ?_) (fun hc => ?_)
 replace hH := condT hc hH
 refine AW.seq (AW.region ?_)
 refine AO.pu T ?_
 refine AO.nil (AW.ret ?_)
 have hR := someE hH; subst hR
 exact retQ.i [] rfl (.c (.c .v))
 replace hH := condF hc hH
 refine AW.skip ?_
 refine AW.region ?_
 refine AO.val rfl rfl (ar_ok rfl rfl rfl rfl (inI_succ hlt6 hb5)) ?_
 refine AO.pu T ?_
 refine AO.nil ?_
 refine ⟨k1 + 1, ⟨Nat.succ_le_of_lt hlt6, (by rw [drop_succ_of hd4]; exact hH)⟩, (by have := hlt6; dsimp only; omega), ?_⟩
 exact Le.ct 0 0

def laws_qItems_l1 (b : List Item) : List Item → Nat → Option Bool
  | [], k1 =>
    some true
  | y2 :: ys3, k1 =>
    (getI b (k1 : Int)).bind fun x20 =>
    (laws_qWords_p y2.names x20.names).bind fun x22 =>
    (opt (!(!x22)) default (laws_qInts_p y2.marks x20.marks)).bind fun x24 =>
    cond (((!x22) || (!x24)) || (!(y2.late == x20.late)))
      (some false)
      (laws_qItems_l1 b ys3 (k1 + 1))
def laws_qItems_p (a : List Item) (b : List Item) : Option Bool :=
  cond ((a.length : Int) != (b.length : Int))
    (some false)
    (laws_qItems_l1 b a 0)
theorem laws_qItems_ok (a : List Item) (b : List Item) (r : Bool) (hH : laws_qItems_p a b = some r) : SpecR Try.prog 18 [.s (List.map encItem a), .s (List.map encItem b)] (.v (.bool r)) := by
 refine fn_ok T Try.func18 rfl (by decide) rfl ?_
 refine AW.seq (AW.region ?_)
 refine AO.pu T ?_
 refine AO.nil ?_
 iterate 2 refine AW.seq ?_
 refine AW.region ?_
 refine AO.pu T ?_
 refine AO.val rfl rfl (len_map_ok T rfl rfl rfl) ?_
 refine AO.pu T ?_
 refine AO.val rfl rfl (len_map_ok T rfl rfl rfl) ?_
 refine AO.pu T ?_
 refine AO.nil ?_
 refine AW.cond (b := ((a.length : Int) != (b.length : Int))) rfl (fun hc => ?_) (fun hc => ?_)
 replace hH := condT hc hH
 refine AW.seq (AW.region ?_)
 refine AO.pu T ?_
 refine AO.nil (AW.ret ?_)
 have hR := someE hH; subst hR
 exact retQ.i [] rfl (.c (.c .v))
 replace hH := condF hc hH
 refine AW.skip ?_
 iterate 2 refine AW.seq ?_
 refine AW.region ?_
 refine AO.pu T ?_
 refine AO.val rfl rfl (len_map_ok T rfl rfl rfl) ?_
 refine AO.pu T ?_
 refine AO.nil ?_
 refine AW.block ?_
 refine AW.loopS (fun s : Nat => (⟨[(0, .s (List.map encItem a)), (1, .s (List.map encItem b)), (12, (a.length : Int)), (13, (s : Int))], [], 56, []⟩ : St)) (fun s => s ≤ a.length ∧ laws_qItems_l1 b (a.drop s) s = some r) (fun s => a.length - s) 0 ⟨Nat.zero_le _, hH⟩ ?_ ?_
 exact Le.ct 0 0
 rintro k1 ⟨hk, hH⟩
 replace hH : laws_qItems_l1 b (a.drop k1) k1 = some r := hH
 try dsimp only
 refine AW.boundM (t := 0) (l := a) rfl (fun hb5 => ?_)
 rcases hd4 : a.drop k1 with _ | ⟨y2, ys3⟩
 rw [hd4, laws_qItems_l1] at hH
 have hlt6 := drop_ge hd4
 refine AW.seq (AW.region ?_)
 refine AO.pu T ?_
 refine AO.nil (AW.seq ?_)
 refine AW.condF' (b := decide ((k1 : Int) < (a.length : Int))) rfl (rngF hlt6) ?_
 refine AW.exit ?_
 refine AW.seq (AW.region ?_)
 refine AO.pu T ?_
 refine AO.nil (AW.ret ?_)
 have hR := someE hH; subst hR
 exact retQ.i [] rfl (.c (.c .v))
 rw [hd4, laws_qItems_l1] at hH
 have hlt6 := drop_lt hd4
 refine AW.seq (AW.region ?_)
 refine AO.pu T ?_
 refine AO.nil (AW.seq ?_)
 refine AW.condT' (b := decide ((k1 : Int) < (a.length : Int))) rfl (rngT hlt6) ?_
 refine AW.skip ?_
 refine AW.seq ?_
 refine AW.block ?_
 refine AW.seq (AW.region ?_)
 iterate 2 refine AO.pu T ?_
 refine AO.nil (AW.seq ?_)
 obtain ⟨x20, hx21, hH⟩ := bindE hH
 obtain ⟨x22, hx23, hH⟩ := bindE hH
 obtain ⟨x24, hx25, hH⟩ := bindE hH
 refine AW.drawn 37 1 [] mix (by kernel_rfl) rfl ?_
 iterate 2 refine AD.pure T rfl rfl rfl ?_
 refine AD.val rfl rfl (ix_map_ok T rfl rfl rfl rfl rfl (getI_drop hd4) rfl) ?_
 iterate 4 refine AD.pure T rfl rfl rfl ?_
 refine AD.val rfl rfl (ix_map_ok T rfl rfl rfl rfl rfl (hx21) rfl) ?_
 iterate 2 refine AD.pure T rfl rfl rfl ?_
 refine AD.val rfl rfl (callV_ok rfl rfl rfl rfl (laws_qWords_ok _ _ _ (hx23)) rfl) ?_
 iterate 2 refine AD.pure T rfl rfl rfl ?_
 iterate 2 refine AD.pureG T [] rfl trivial rfl rfl ?_
 refine AD.guard [29, 30] rfl ⟨fun h => h, fun h => h, trivial⟩ (fun hg => ix_map_ok T rfl rfl rfl rfl rfl (getI_drop hd4) rfl) rfl ?_
 refine AD.pureG T [31] rfl ⟨fun h => h, trivial⟩ rfl rfl ?_
 refine AD.pureG T [32] rfl ⟨fun h => h, trivial⟩ rfl rfl ?_
 iterate 2 refine AD.pureG T [] rfl trivial rfl rfl ?_
 refine AD.guard [34, 35] rfl ⟨fun h => h, fun h => h, trivial⟩ (fun hg => ix_map_ok T rfl rfl rfl rfl rfl (hx21) rfl) rfl ?_
 refine AD.pureG T [36] rfl ⟨fun h => h, trivial⟩ rfl rfl ?_
 refine AD.pureG T [37] rfl ⟨fun h => h, trivial⟩ rfl rfl ?_
 refine AD.guard [33, 38] rfl ⟨fun h => h, fun h => h, trivial⟩ (fun hg => callV_ok rfl rfl rfl rfl (laws_qInts_ok _ _ _ (optT hx25 hg)) rfl) rfl ?_
 refine AD.pureG T [39] rfl ⟨fun h => h, trivial⟩ rfl rfl ?_
 refine AD.val rfl rfl (pick_or rfl rfl rfl rfl) ?_
 refine AD.pure T rfl rfl rfl ?_
 iterate 2 refine AD.pureG T [] rfl trivial rfl rfl ?_
 refine AD.guard [43, 44] rfl ⟨fun h => h, fun h => h, trivial⟩ (fun hg => ix_map_ok T rfl rfl rfl rfl rfl (getI_drop hd4) rfl) rfl ?_
 refine AD.pureG T [45] rfl ⟨fun h => h, trivial⟩ rfl rfl ?_
 refine AD.pureG T [46] rfl ⟨fun h => h, trivial⟩ rfl rfl ?_
 iterate 2 refine AD.pureG T [] rfl trivial rfl rfl ?_
 refine AD.guard [48, 49] rfl ⟨fun h => h, fun h => h, trivial⟩ (fun hg => ix_map_ok T rfl rfl rfl rfl rfl (hx21) rfl) rfl ?_
 refine AD.pureG T [50] rfl ⟨fun h => h, trivial⟩ rfl rfl ?_
 refine AD.pureG T [51] rfl ⟨fun h => h, trivial⟩ rfl rfl ?_
 refine AD.nil ?_
 refine AO.pureG T [47, 52] rfl ⟨fun h => h, fun h => h, trivial⟩ rfl rfl ?_
 refine AO.val rfl rfl (pick_or rfl rfl rfl rfl) ?_
 refine AO.nil ?_
 refine AW.le (Le.ct 0 0 (σ' := (⟨[(0, .s (List.map encItem a)), (1, .s (List.map encItem b)), (12, (a.length : Int)), (13, (k1 : Int)), (54, .v (.bool (((!x22) || (!x24)) || (!(y2.late == x20.late)))))], [], 56, []⟩ : St))) ?_
 refine AW.cond (b := (((!x22) || (!x24)) || (!(y2.late == x20.late)))) rfl (fun hc => ?_) (fun hc => ?_)
 replace hH := condT hc hH
 refine AW.seq (AW.region ?_)
 refine AO.pu T ?_
 refine AO.nil (AW.ret ?_)
 have hR := someE hH; subst hR
 exact retQ.i [] rfl (.c (.c .v))
 replace hH := condF hc hH
 refine AW.skip ?_
 refine AW.region ?_
 refine AO.val rfl rfl (ar_ok rfl rfl rfl rfl (inI_succ hlt6 hb5)) ?_
 refine AO.pu T ?_
 refine AO.nil ?_
 refine ⟨k1 + 1, ⟨Nat.succ_le_of_lt hlt6, (by rw [drop_succ_of hd4]; exact hH)⟩, (by have := hlt6; dsimp only; omega), ?_⟩
 exact Le.ct 0 0

def laws_qLists_l1 (b : List (List Int)) : List (List Int) → Nat → Option Bool
  | [], k1 =>
    some true
  | y2 :: ys3, k1 =>
    (getI b (k1 : Int)).bind fun x16 =>
    (laws_qInts_p y2 x16).bind fun x18 =>
    cond (!x18)
      (some false)
      (laws_qLists_l1 b ys3 (k1 + 1))
def laws_qLists_p (a : List (List Int)) (b : List (List Int)) : Option Bool :=
  cond ((a.length : Int) != (b.length : Int))
    (some false)
    (laws_qLists_l1 b a 0)
theorem laws_qLists_ok (a : List (List Int)) (b : List (List Int)) (r : Bool) (hH : laws_qLists_p a b = some r) : SpecR Try.prog 19 [.s (List.map encLInt a), .s (List.map encLInt b)] (.v (.bool r)) := by
 refine fn_ok T Try.func19 rfl (by decide) rfl ?_
 refine AW.seq (AW.region ?_)
 refine AO.pu T ?_
 refine AO.nil ?_
 iterate 2 refine AW.seq ?_
 refine AW.region ?_
 refine AO.pu T ?_
 refine AO.val rfl rfl (len_map_ok T rfl rfl rfl) ?_
 refine AO.pu T ?_
 refine AO.val rfl rfl (len_map_ok T rfl rfl rfl) ?_
 refine AO.pu T ?_
 refine AO.nil ?_
 refine AW.cond (b := ((a.length : Int) != (b.length : Int))) rfl (fun hc => ?_) (fun hc => ?_)
 replace hH := condT hc hH
 refine AW.seq (AW.region ?_)
 refine AO.pu T ?_
 refine AO.nil (AW.ret ?_)
 have hR := someE hH; subst hR
 exact retQ.i [] rfl (.c (.c .v))
 replace hH := condF hc hH
 refine AW.skip ?_
 iterate 2 refine AW.seq ?_
 refine AW.region ?_
 refine AO.pu T ?_
 refine AO.val rfl rfl (len_map_ok T rfl rfl rfl) ?_
 refine AO.pu T ?_
 refine AO.nil ?_
 refine AW.block ?_
 refine AW.loopS (fun s : Nat => (⟨[(0, .s (List.map encLInt a)), (1, .s (List.map encLInt b)), (12, (a.length : Int)), (13, (s : Int))], [], 27, []⟩ : St)) (fun s => s ≤ a.length ∧ laws_qLists_l1 b (a.drop s) s = some r) (fun s => a.length - s) 0 ⟨Nat.zero_le _, hH⟩ ?_ ?_
 exact Le.ct 0 0
 rintro k1 ⟨hk, hH⟩
 replace hH : laws_qLists_l1 b (a.drop k1) k1 = some r := hH
 try dsimp only
 refine AW.boundM (t := 0) (l := a) rfl (fun hb5 => ?_)
 rcases hd4 : a.drop k1 with _ | ⟨y2, ys3⟩
 rw [hd4, laws_qLists_l1] at hH
 have hlt6 := drop_ge hd4
 refine AW.seq (AW.region ?_)
 refine AO.pu T ?_
 refine AO.nil (AW.seq ?_)
 refine AW.condF' (b := decide ((k1 : Int) < (a.length : Int))) rfl (rngF hlt6) ?_
 refine AW.exit ?_
 refine AW.seq (AW.region ?_)
 refine AO.pu T ?_
 refine AO.nil (AW.ret ?_)
 have hR := someE hH; subst hR
 exact retQ.i [] rfl (.c (.c .v))
 rw [hd4, laws_qLists_l1] at hH
 have hlt6 := drop_lt hd4
 refine AW.seq (AW.region ?_)
 refine AO.pu T ?_
 refine AO.nil (AW.seq ?_)
 refine AW.condT' (b := decide ((k1 : Int) < (a.length : Int))) rfl (rngT hlt6) ?_
 refine AW.skip ?_
 refine AW.seq ?_
 refine AW.block ?_
 refine AW.seq (AW.region ?_)
 iterate 2 refine AO.pu T ?_
 refine AO.nil (AW.seq ?_)
 obtain ⟨x16, hx17, hH⟩ := bindE hH
 obtain ⟨x18, hx19, hH⟩ := bindE hH
 refine AW.drawn 8 1 [] mix (by kernel_rfl) rfl ?_
 iterate 2 refine AD.pure T rfl rfl rfl ?_
 refine AD.val rfl rfl (ix_map_ok T rfl rfl rfl rfl rfl (getI_drop hd4) rfl) ?_
 iterate 3 refine AD.pure T rfl rfl rfl ?_
 refine AD.val rfl rfl (ix_map_ok T rfl rfl rfl rfl rfl (hx17) rfl) ?_
 refine AD.pure T rfl rfl rfl ?_
 refine AD.nil ?_
 refine AO.val rfl rfl (callV_ok rfl rfl rfl rfl (laws_qInts_ok _ _ _ (hx19)) rfl) ?_
 refine AO.pu T ?_
 refine AO.nil ?_
 refine AW.cond (b := (!x18)) rfl (fun hc => ?_) (fun hc => ?_)
 replace hH := condT hc hH
 refine AW.seq (AW.region ?_)
 refine AO.pu T ?_
 refine AO.nil (AW.ret ?_)
 have hR := someE hH; subst hR
 exact retQ.i [] rfl (.c (.c .v))
 replace hH := condF hc hH
 refine AW.skip ?_
 refine AW.region ?_
 refine AO.val rfl rfl (ar_ok rfl rfl rfl rfl (inI_succ hlt6 hb5)) ?_
 refine AO.pu T ?_
 refine AO.nil ?_
 refine ⟨k1 + 1, ⟨Nat.succ_le_of_lt hlt6, (by rw [drop_succ_of hd4]; exact hH)⟩, (by have := hlt6; dsimp only; omega), ?_⟩
 exact Le.ct 0 0

def laws_qChanges_l1 (b : List Change) : List Change → Nat → Option Bool
  | [], k1 =>
    some true
  | y2 :: ys3, k1 =>
    (getI b (k1 : Int)).bind fun x12 =>
    cond (!decide (y2 = x12))
      (some false)
      (laws_qChanges_l1 b ys3 (k1 + 1))
def laws_qChanges_p (a : List Change) (b : List Change) : Option Bool :=
  cond ((a.length : Int) != (b.length : Int))
    (some false)
    (laws_qChanges_l1 b a 0)
theorem laws_qChanges_ok (a : List Change) (b : List Change) (r : Bool) (hH : laws_qChanges_p a b = some r) : SpecR Try.prog 20 [.s (List.map encChange a), .s (List.map encChange b)] (.v (.bool r)) := by
 refine fn_ok T Try.func20 rfl (by decide) rfl ?_
 refine AW.seq (AW.region ?_)
 refine AO.pu T ?_
 refine AO.nil ?_
 iterate 2 refine AW.seq ?_
 refine AW.region ?_
 refine AO.pu T ?_
 refine AO.val rfl rfl (len_map_ok T rfl rfl rfl) ?_
 refine AO.pu T ?_
 refine AO.val rfl rfl (len_map_ok T rfl rfl rfl) ?_
 refine AO.pu T ?_
 refine AO.nil ?_
 refine AW.cond (b := ((a.length : Int) != (b.length : Int))) rfl (fun hc => ?_) (fun hc => ?_)
 replace hH := condT hc hH
 refine AW.seq (AW.region ?_)
 refine AO.pu T ?_
 refine AO.nil (AW.ret ?_)
 have hR := someE hH; subst hR
 exact retQ.i [] rfl (.c (.c .v))
 replace hH := condF hc hH
 refine AW.skip ?_
 iterate 2 refine AW.seq ?_
 refine AW.region ?_
 refine AO.pu T ?_
 refine AO.val rfl rfl (len_map_ok T rfl rfl rfl) ?_
 refine AO.pu T ?_
 refine AO.nil ?_
 refine AW.block ?_
 refine AW.loopS (fun s : Nat => (⟨[(0, .s (List.map encChange a)), (1, .s (List.map encChange b)), (12, (a.length : Int)), (13, (s : Int))], [], 26, []⟩ : St)) (fun s => s ≤ a.length ∧ laws_qChanges_l1 b (a.drop s) s = some r) (fun s => a.length - s) 0 ⟨Nat.zero_le _, hH⟩ ?_ ?_
 exact Le.ct 0 0
 rintro k1 ⟨hk, hH⟩
 replace hH : laws_qChanges_l1 b (a.drop k1) k1 = some r := hH
 try dsimp only
 refine AW.boundM (t := 0) (l := a) rfl (fun hb5 => ?_)
 rcases hd4 : a.drop k1 with _ | ⟨y2, ys3⟩
 rw [hd4, laws_qChanges_l1] at hH
 have hlt6 := drop_ge hd4
 refine AW.seq (AW.region ?_)
 refine AO.pu T ?_
 refine AO.nil (AW.seq ?_)
 refine AW.condF' (b := decide ((k1 : Int) < (a.length : Int))) rfl (rngF hlt6) ?_
 refine AW.exit ?_
 refine AW.seq (AW.region ?_)
 refine AO.pu T ?_
 refine AO.nil (AW.ret ?_)
 have hR := someE hH; subst hR
 exact retQ.i [] rfl (.c (.c .v))
 rw [hd4, laws_qChanges_l1] at hH
 have hlt6 := drop_lt hd4
 refine AW.seq (AW.region ?_)
 refine AO.pu T ?_
 refine AO.nil (AW.seq ?_)
 refine AW.condT' (b := decide ((k1 : Int) < (a.length : Int))) rfl (rngT hlt6) ?_
 refine AW.skip ?_
 refine AW.seq ?_
 refine AW.block ?_
 refine AW.seq (AW.region ?_)
 iterate 2 refine AO.pu T ?_
 refine AO.nil (AW.seq ?_)
 obtain ⟨x12, hx13, hH⟩ := bindE hH
 refine AW.drawn 8 1 [] mix (by kernel_rfl) rfl ?_
 iterate 2 refine AD.pure T rfl rfl rfl ?_
 refine AD.val rfl rfl (ix_map_ok T rfl rfl rfl rfl rfl (getI_drop hd4) rfl) ?_
 refine AD.pure T (d := .g [y2.tick, y2.caller, y2.item, y2.name, y2.mark, .v (.bool y2.review)]) rfl rfl rfl ?_
 iterate 2 refine AD.pure T rfl rfl rfl ?_
 refine AD.val rfl rfl (ix_map_ok T rfl rfl rfl rfl rfl (hx13) rfl) ?_
 refine AD.pure T (d := .g [x12.tick, x12.caller, x12.item, x12.name, x12.mark, .v (.bool x12.review)]) rfl rfl rfl ?_
 refine AD.nil ?_
 refine AO.val rfl rfl (neqg_ok rfl ekTChange rfl rfl rfl rfl (eqVChange _ _)) ?_
 refine AO.nil ?_
 refine AW.cond (b := (!decide (y2 = x12))) rfl (fun hc => ?_) (fun hc => ?_)
 replace hH := condT hc hH
 refine AW.seq (AW.region ?_)
 refine AO.pu T ?_
 refine AO.nil (AW.ret ?_)
 have hR := someE hH; subst hR
 exact retQ.i [] rfl (.c (.c .v))
 replace hH := condF hc hH
 refine AW.skip ?_
 refine AW.region ?_
 refine AO.val rfl rfl (ar_ok rfl rfl rfl rfl (inI_succ hlt6 hb5)) ?_
 refine AO.pu T ?_
 refine AO.nil ?_
 refine ⟨k1 + 1, ⟨Nat.succ_le_of_lt hlt6, (by rw [drop_succ_of hd4]; exact hH)⟩, (by have := hlt6; dsimp only; omega), ?_⟩
 exact Le.ct 0 0

def laws_qHas_l1 (n : Int) : List Int → Nat → Option Bool
  | [], k1 =>
    some false
  | y2 :: ys3, k1 =>
    cond (y2 == n)
      (some true)
      (laws_qHas_l1 n ys3 (k1 + 1))
def laws_qHas_p (l : List Int) (n : Int) : Option Bool :=
  laws_qHas_l1 n l 0
theorem laws_qHas_ok (l : List Int) (n : Int) (r : Bool) (hH : laws_qHas_p l n = some r) : SpecR Try.prog 22 [.s (List.map encInt l), n] (.v (.bool r)) := by
 refine fn_ok T Try.func22 rfl (by decide) rfl ?_
 refine AW.seq (AW.region ?_)
 refine AO.pu T ?_
 refine AO.nil ?_
 iterate 2 refine AW.seq ?_
 refine AW.region ?_
 refine AO.pu T ?_
 refine AO.val rfl rfl (len_map_ok T rfl rfl rfl) ?_
 refine AO.pu T ?_
 refine AO.nil ?_
 refine AW.block ?_
 refine AW.loopS (fun s : Nat => (⟨[(1, n), (7, .s (List.map encInt l)), (8, (l.length : Int)), (9, (s : Int))], [], 17, []⟩ : St)) (fun s => s ≤ l.length ∧ laws_qHas_l1 n (l.drop s) s = some r) (fun s => l.length - s) 0 ⟨Nat.zero_le _, hH⟩ ?_ ?_
 exact Le.ct 0 0
 rintro k1 ⟨hk, hH⟩
 replace hH : laws_qHas_l1 n (l.drop k1) k1 = some r := hH
 try dsimp only
 refine AW.boundM (t := 7) (l := l) rfl (fun hb5 => ?_)
 rcases hd4 : l.drop k1 with _ | ⟨y2, ys3⟩
 rw [hd4, laws_qHas_l1] at hH
 have hlt6 := drop_ge hd4
 refine AW.seq (AW.region ?_)
 refine AO.pu T ?_
 refine AO.nil (AW.seq ?_)
 refine AW.condF' (b := decide ((k1 : Int) < (l.length : Int))) rfl (rngF hlt6) ?_
 refine AW.exit ?_
 refine AW.seq (AW.region ?_)
 refine AO.pu T ?_
 refine AO.nil (AW.ret ?_)
 have hR := someE hH; subst hR
 exact retQ.i [] rfl (.c (.c .v))
 rw [hd4, laws_qHas_l1] at hH
 have hlt6 := drop_lt hd4
 refine AW.seq (AW.region ?_)
 refine AO.pu T ?_
 refine AO.nil (AW.seq ?_)
 refine AW.condT' (b := decide ((k1 : Int) < (l.length : Int))) rfl (rngT hlt6) ?_
 refine AW.skip ?_
 refine AW.seq ?_
 refine AW.block ?_
 refine AW.seq (AW.region ?_)
 refine AO.val rfl rfl (ix_map_ok T rfl rfl rfl rfl rfl (getI_drop hd4) rfl) ?_
 iterate 2 refine AO.pu T ?_
 refine AO.nil (AW.seq ?_)
 refine AW.region ?_
 iterate 3 refine AO.pu T ?_
 refine AO.nil ?_
 refine AW.cond (b := (y2 == n)) rfl (fun hc => ?_) (fun hc => ?_)
 replace hH := condT hc hH
 refine AW.seq (AW.region ?_)
 refine AO.pu T ?_
 refine AO.nil (AW.ret ?_)
 have hR := someE hH; subst hR
 exact retQ.i [] rfl (.c (.c .v))
 replace hH := condF hc hH
 refine AW.skip ?_
 refine AW.region ?_
 refine AO.val rfl rfl (ar_ok rfl rfl rfl rfl (inI_succ hlt6 hb5)) ?_
 refine AO.pu T ?_
 refine AO.nil ?_
 refine ⟨k1 + 1, ⟨Nat.succ_le_of_lt hlt6, (by rw [drop_succ_of hd4]; exact hH)⟩, (by have := hlt6; dsimp only; omega), ?_⟩
 exact Le.ct 0 0

def impl_FinalState_p (fuel : Nat) (l : List Item) (h : List Change) : Option ((List Item) × Bool) :=
  (impl_StateAt_p fuel l h 100000).bind fun x1 =>
  some (x1.1, x1.2)
theorem impl_FinalState_ok (fuel : Nat) (l : List Item) (h : List Change) (r : ((List Item) × Bool)) (hH : impl_FinalState_p fuel l h = some r) : SpecR Try.prog 23 [.s (List.map encItem l), .s (List.map encChange h)] (.t [.w 3 (r.1.map encItemO), .v (.bool r.2)]) := by
 refine fn_ok T Try.func23 rfl (by decide) rfl ?_
 refine AW.seq (AW.region ?_)
 iterate 2 refine AO.pu T ?_
 refine AO.nil (AW.seq ?_)
 obtain ⟨x1, hx2, hH⟩ := bindE hH
 refine AW.region ?_
 iterate 2 refine AO.pu T ?_
 refine AO.step rfl (call_ok rfl 1 rfl rfl rfl (impl_StateAt_ok fuel _ _ _ _ (hx2)) rfl rfl rfl) ?_
 iterate 4 refine AO.pu T ?_
 refine AO.nil (AW.ret ?_)
 have hR := someE hH; subst hR
 exact retQ.i [1] rfl (.t (expLG_cons (.c (.rowR rfl)) (expLG_cons (.c .v) (expLG_nil))))

def laws_FnOpenReviews_l2 (x1 : ((List Item) × (List Change) × Int)) : Nat → Int → Option Int
  | 0, _ => none
  | k72 + 1, v78 =>
    (opt (decide (v78 < (x1.2.1.length : Int))) default (getI x1.2.1 v78)).bind fun x80 =>
    cond (decide (v78 < (x1.2.1.length : Int)) && decide (x80.tick ≤ x1.2.2))
      (laws_FnOpenReviews_l2 x1 k72 (w64 (v78 + 1)))
      (some v78)
def laws_FnOpenReviews_l1 (fuel : Nat) (x1 : ((List Item) × (List Change) × Int)) (x3 : ((List Item) × Bool)) (x5 : ((List Item) × Bool)) (x7 : ((List (List Int)) × Bool)) (x11 : ((List Item) × (List Change) × Change)) (x17 : ((List Item) × (List Change) × Int × Int)) (x19 : (Int × Bool)) (x21 : (Int × Bool)) (x23 : ((List Int) × Bool)) (x25 : ((List Int) × Bool)) (x35 : (Int × Bool)) (x37 : ((List (List Int)) × Bool)) (x39 : ((List (List Int)) × Bool)) : List (List Int) → Nat → Bool → Option Bool
  | [], k41, v52 =>
    (opt (!((((!x35.2) || (x35.1 != (x11.2.1.length : Int))) || (!x37.2)) || (!x39.2))) default (laws_qLists_p x37.1 x39.1)).bind fun x54 =>
    cond ((((((!x35.2) || (x35.1 != (x11.2.1.length : Int))) || (!x37.2)) || (!x39.2)) || (!x54)) || (!(v52 == x11.2.2.review)))
      (some false)
      ((opt ((x23.2 && (!(!(x19.2 == decide ((x25.1.length : Int) > 0))))) && x19.2) default (getI x17.2.1 x21.1)).bind fun x56 =>
      (opt ((x23.2 && (!(!(x19.2 == decide ((x25.1.length : Int) > 0))))) && x19.2) default (laws_qHas_p x25.1 x56.caller)).bind fun x58 =>
      cond (x23.2 && ((!(x19.2 == decide ((x25.1.length : Int) > 0))) || (x19.2 && (!x58))))
        (some false)
        (cond (!x3.2)
          (some true)
          ((laws_FnOpenReviews_l2 x1 fuel 0).bind fun v69 =>
          (sliceHi x1.2.1 v69).bind fun x82 =>
          (impl_FinalState_p fuel x1.1 x82).bind fun x84 =>
          (opt x84.2 default (laws_qItems_p x84.1 x5.1)).bind fun x86 =>
          some ((x84.2 && x86) && x7.2))))
  | y42 :: ys43, k41, v52 =>
    (opt (!v52) default (laws_qInts_p y42 [x11.2.2.item, x11.2.2.name])).bind fun x88 =>
    laws_FnOpenReviews_l1 fuel x1 x3 x5 x7 x11 x17 x19 x21 x23 x25 x35 x37 x39 ys43 (k41 + 1) (v52 || x88)
def laws_FnOpenReviews_l3 (x1 : ((List Item) × (List Change) × Int)) : Nat → Int → Option Int
  | 0, _ => none
  | k106 + 1, v112 =>
    (opt (decide (v112 < (x1.2.1.length : Int))) default (getI x1.2.1 v112)).bind fun x114 =>
    cond (decide (v112 < (x1.2.1.length : Int)) && decide (x114.tick ≤ x1.2.2))
      (laws_FnOpenReviews_l3 x1 k106 (w64 (v112 + 1)))
      (some v112)
def laws_FnOpenReviews_p (fuel : Nat) (code : List Int) (more : List Int) : Option Bool :=
  cond (decide ((w64 ((code.length : Int) + (more.length : Int))) > 1048576))
    (some true)
    ((spec_DrawStateAt_p fuel code).bind fun x1 =>
    (impl_StateAt_p fuel x1.1 x1.2.1 x1.2.2).bind fun x3 =>
    (spec_StateAt_p fuel x1.1 x1.2.1 x1.2.2).bind fun x5 =>
    (impl_OpenReviews_p fuel x1.1 x1.2.1).bind fun x7 =>
    (spec_OpenReviews_p fuel x1.1 x1.2.1).bind fun x9 =>
    (spec_DrawAddChange_p fuel more).bind fun x11 =>
    (impl_AddChange_p fuel x11.1 x11.2.1 (Change.mk x11.2.2.tick x11.2.2.caller x11.2.2.item x11.2.2.name x11.2.2.mark x11.2.2.review)).bind fun x13 =>
    (spec_AddChange_p fuel x11.1 x11.2.1 (Change.mk x11.2.2.tick x11.2.2.caller x11.2.2.item x11.2.2.name x11.2.2.mark x11.2.2.review)).bind fun x15 =>
    (spec_DrawLastChange_p fuel more).bind fun x17 =>
    (impl_LastChange_p fuel x17.1 x17.2.1 x17.2.2.1 x17.2.2.2).bind fun x19 =>
    (spec_LastChange_p fuel x17.1 x17.2.1 x17.2.2.1 x17.2.2.2).bind fun x21 =>
    (impl_CallersOf_p fuel x17.1 x17.2.1 x17.2.2.1 x17.2.2.2).bind fun x23 =>
    (spec_CallersOf_p fuel x17.1 x17.2.1 x17.2.2.1 x17.2.2.2).bind fun x25 =>
    (opt (!(!(x3.2 == x5.2))) default (laws_qItems_p x3.1 x5.1)).bind fun x27 =>
    (opt (!(((!(x3.2 == x5.2)) || (!x27)) || (!(x7.2 == x9.2)))) default (laws_qLists_p x7.1 x9.1)).bind fun x29 =>
    (opt (!(((((!(x3.2 == x5.2)) || (!x27)) || (!(x7.2 == x9.2))) || (!x29)) || (!(x13.2 == x15.2)))) default (laws_qChanges_p x13.1 x15.1)).bind fun x31 =>
    (opt (!(((((((((!(x3.2 == x5.2)) || (!x27)) || (!(x7.2 == x9.2))) || (!x29)) || (!(x13.2 == x15.2))) || (!x31)) || (!(x19.2 == x21.2))) || (x19.1 != x21.1)) || (!(x23.2 == x25.2)))) default (laws_qInts_p x23.1 x25.1)).bind fun x33 =>
    cond ((((((((((!(x3.2 == x5.2)) || (!x27)) || (!(x7.2 == x9.2))) || (!x29)) || (!(x13.2 == x15.2))) || (!x31)) || (!(x19.2 == x21.2))) || (x19.1 != x21.1)) || (!(x23.2 == x25.2))) || (!x33))
      (some false)
      (cond x13.2
        ((impl_LastChange_p fuel x11.1 x13.1 x11.2.2.item x11.2.2.name).bind fun x35 =>
        (impl_OpenReviews_p fuel x11.1 x13.1).bind fun x37 =>
        (spec_OpenReviews_p fuel x11.1 x15.1).bind fun x39 =>
        laws_FnOpenReviews_l1 fuel x1 x3 x5 x7 x11 x17 x19 x21 x23 x25 x35 x37 x39 x39.1 0 false)
        ((opt ((x23.2 && (!(!(x19.2 == decide ((x25.1.length : Int) > 0))))) && x19.2) default (getI x17.2.1 x21.1)).bind fun x90 =>
        (opt ((x23.2 && (!(!(x19.2 == decide ((x25.1.length : Int) > 0))))) && x19.2) default (laws_qHas_p x25.1 x90.caller)).bind fun x92 =>
        cond (x23.2 && ((!(x19.2 == decide ((x25.1.length : Int) > 0))) || (x19.2 && (!x92))))
          (some false)
          (cond (!x3.2)
            (some true)
            ((laws_FnOpenReviews_l3 x1 fuel 0).bind fun v103 =>
            (sliceHi x1.2.1 v103).bind fun x116 =>
            (impl_FinalState_p fuel x1.1 x116).bind fun x118 =>
            (opt x118.2 default (laws_qItems_p x118.1 x5.1)).bind fun x120 =>
            some ((x118.2 && x120) && x7.2))))))
theorem laws_FnOpenReviews_ok (fuel : Nat) (code : List Int) (more : List Int) (r : Bool) (hH : laws_FnOpenReviews_p fuel code more = some r) : SpecR Try.prog 3 [.s (List.map encInt_u8 code), .s (List.map encInt_u8 more)] (.v (.bool r)) := by
 refine fn_ok T Try.func3 rfl (by decide) rfl ?_
 refine AW.seq (AW.region ?_)
 refine AO.pu T ?_
 refine AO.nil ?_
 iterate 2 refine AW.seq ?_
 refine AW.region ?_
 refine AO.pu T ?_
 refine AO.val rfl rfl (len_map_ok T rfl rfl rfl) ?_
 refine AO.pu T ?_
 refine AO.val rfl rfl (len_map_ok T rfl rfl rfl) ?_
 refine AO.val rfl rfl (arw_ok rfl rfl rfl rfl) ?_
 refine AO.pu T ?_
 refine AO.nil ?_
 refine AW.cond (b := decide ((w64 ((code.length : Int) + (more.length : Int))) > 1048576)) rfl (fun hc => ?_) (fun hc => ?_)
 replace hH := condT hc hH
 refine AW.seq (AW.region ?_)
 refine AO.pu T ?_
 refine AO.nil (AW.ret ?_)
 have hR := someE hH; subst hR
 exact retQ.i [] rfl (.c (.c .v))
 replace hH := condF hc hH
 refine AW.skip ?_
 refine AW.seq ?_
 obtain ⟨x1, hx2, hH⟩ := bindE hH
 refine AW.region ?_
 refine AO.pu T ?_
 refine AO.step rfl (call_ok rfl 1 rfl rfl rfl (spec_DrawStateAt_ok fuel _ _ (hx2)) rfl rfl rfl) ?_
 iterate 7 refine AO.pu T ?_
 refine AO.nil (AW.seq ?_)
 obtain ⟨x3, hx4, hH⟩ := bindE hH
 refine AW.region ?_
 iterate 3 refine AO.pu T ?_
 refine AO.step rfl (callL_ok rfl 3 rfl rfl (es := [.s (List.map encItem x1.1), .s (List.map encChange x1.2.1), x1.2.2]) (by exact ⟨(.rowR rfl (.map fun y => .vs rfl)), (.rowR rfl (.map fun y => .vs rfl)), .free rfl, trivial⟩) (impl_StateAt_ok fuel _ _ _ _ (hx4)) (zfree_t (zfl (.cons (zfree_map (fun y => (.cons (zfree_map (fun y => (.cons (zfree_v _) .nil))) (.cons (zfree_map (fun y => (.cons (zfree_v _) .nil))) (.cons (zfree_v _) .nil))))) (.cons (zfree_v _) .nil)))) rfl rfl rfl) ?_
 iterate 5 refine AO.pu T ?_
 refine AO.nil ?_
 refine AW.le (Le.ct 0 0 (σ' := (⟨[(1, .s (List.map encInt_u8 more)), (5, .R 1), (6, .R 2), (7, x1.2.2), (8, .R 3), (9, .v (.bool x3.2))], [(1, .row 3 (List.map encItem x1.1)), (2, .row 6 (List.map encChange x1.2.1)), (3, .row 3 (List.map encItemO x3.1))], 319, []⟩ : St))) ?_
 refine AW.seq ?_
 obtain ⟨x5, hx6, hH⟩ := bindE hH
 refine AW.region ?_
 iterate 3 refine AO.pu T ?_
 refine AO.step rfl (callL_ok rfl 4 rfl rfl (es := [.s (List.map encItem x1.1), .s (List.map encChange x1.2.1), x1.2.2]) (by exact ⟨(.rowR rfl (.map fun y => .vs rfl)), (.rowR rfl (.map fun y => .vs rfl)), .free rfl, trivial⟩) (spec_StateAt_ok fuel _ _ _ _ (hx6)) (zfree_t (zfl (.cons (zfree_map (fun y => (.cons (zfree_map (fun y => (.cons (zfree_v _) .nil))) (.cons (zfree_map (fun y => (.cons (zfree_v _) .nil))) (.cons (zfree_v _) .nil))))) (.cons (zfree_v _) .nil)))) rfl rfl rfl) ?_
 iterate 5 refine AO.pu T ?_
 refine AO.nil (AW.seq ?_)
 obtain ⟨x7, hx8, hH⟩ := bindE hH
 refine AW.region ?_
 iterate 2 refine AO.pu T ?_
 refine AO.step rfl (callL_ok rfl 5 rfl rfl (es := [.s (List.map encItem x1.1), .s (List.map encChange x1.2.1)]) (by exact ⟨(.rowR rfl (.map fun y => .vs rfl)), (.rowR rfl (.map fun y => .vs rfl)), trivial⟩) (impl_OpenReviews_ok fuel _ _ _ (hx8)) (zfree_t (zfl (.cons (zfree_map (fun y => (.cons (zfree_map (fun y => (.cons (zfree_v _) .nil))) .nil))) (.cons (zfree_v _) .nil)))) rfl rfl rfl) ?_
 iterate 5 refine AO.pu T ?_
 refine AO.nil (AW.seq ?_)
 obtain ⟨x9, hx10, hH⟩ := bindE hH
 refine AW.le (Le.freezeM 1 (g := encItem) rfl (fun y => .vs rfl)) ?_
 refine AW.le (Le.freezeM 2 (g := encChange) rfl (fun y => .vs rfl)) ?_
 refine AW.region ?_
 iterate 2 refine AO.pu T ?_
 refine AO.step rfl (call_ok rfl 6 rfl rfl rfl (spec_OpenReviews_ok fuel _ _ _ (hx10)) rfl rfl rfl) ?_
 iterate 5 refine AO.pu T ?_
 refine AO.nil ?_
 refine AW.le (Le.ct 0 0 (σ' := (⟨[(1, .s (List.map encInt_u8 more)), (5, .s (List.map encItem x1.1)), (6, .s (List.map encChange x1.2.1)), (7, x1.2.2), (8, .R 3), (9, .v (.bool x3.2)), (10, .R 4), (11, .v (.bool x5.2)), (12, .R 5), (13, .v (.bool x7.2)), (14, .R 6), (15, .v (.bool x9.2))], [(3, .row 3 (List.map encItemO x3.1)), (4, .row 3 (List.map encItemO x5.1)), (5, .row 1 (List.map encLIntO x7.1)), (6, .row 1 (List.map encLInt x9.1))], 319, []⟩ : St))) ?_
 refine AW.seq ?_
 obtain ⟨x11, hx12, hH⟩ := bindE hH
 refine AW.region ?_
 refine AO.pu T ?_
 refine AO.step rfl (call_ok rfl 7 rfl rfl rfl (spec_DrawAddChange_ok fuel _ _ (hx12)) rfl rfl rfl) ?_
 iterate 3 refine AO.pu T ?_
 refine AO.pu T (d := .g [x11.2.2.tick, x11.2.2.caller, x11.2.2.item, x11.2.2.name, x11.2.2.mark, .v (.bool x11.2.2.review)]) ?_
 refine AO.step rfl (alloc_ok T rfl 8 rfl rfl rfl rfl rfl) ?_
 iterate 2 refine AO.pu T ?_
 refine AO.se T [x11.2.2.tick, x11.2.2.caller, x11.2.2.item, x11.2.2.name, x11.2.2.mark, .v (.bool x11.2.2.review)] ?_
 refine AO.nil (AW.seq ?_)
 obtain ⟨x13, hx14, hH⟩ := bindE hH
 refine AW.region ?_
 iterate 2 refine AO.pu T ?_
 refine AO.pu T (d := .g [x11.2.2.tick, x11.2.2.caller, x11.2.2.item, x11.2.2.name, x11.2.2.mark, .v (.bool x11.2.2.review)]) ?_
 refine AO.step rfl (callL_ok rfl 9 rfl rfl (es := [.s (List.map encItem x11.1), .s (List.map encChange x11.2.1), .g (encChange (Change.mk x11.2.2.tick x11.2.2.caller x11.2.2.item x11.2.2.name x11.2.2.mark x11.2.2.review))]) (by exact ⟨.free rfl, (.rowR rfl (.map fun y => .vs rfl)), .free rfl, trivial⟩) (impl_AddChange_ok fuel _ _ _ _ (hx14)) (zfree_t (zfl (.cons (zfree_map (fun y => (.cons (zfree_v _) (.cons (zfree_v _) (.cons (zfree_v _) (.cons (zfree_v _) (.cons (zfree_v _) (.cons (zfree_v _) .nil)))))))) (.cons (zfree_v _) .nil)))) rfl rfl rfl) ?_
 iterate 5 refine AO.pu T ?_
 refine AO.nil (AW.seq ?_)
 obtain ⟨x15, hx16, hH⟩ := bindE hH
 refine AW.region ?_
 iterate 2 refine AO.pu T ?_
 refine AO.pu T (d := .g [x11.2.2.tick, x11.2.2.caller, x11.2.2.item, x11.2.2.name, x11.2.2.mark, .v (.bool x11.2.2.review)]) ?_
 refine AO.step rfl (callL_ok rfl 10 rfl rfl (es := [.s (List.map encItem x11.1), .s (List.map encChange x11.2.1), .g (encChange (Change.mk x11.2.2.tick x11.2.2.caller x11.2.2.item x11.2.2.name x11.2.2.mark x11.2.2.review))]) (by exact ⟨.free rfl, (.rowR rfl (.map fun y => .vs rfl)), .free rfl, trivial⟩) (spec_AddChange_ok fuel _ _ _ _ (hx16)) (zfree_t (zfl (.cons (zfree_map (fun y => (.cons (zfree_v _) (.cons (zfree_v _) (.cons (zfree_v _) (.cons (zfree_v _) (.cons (zfree_v _) (.cons (zfree_v _) .nil)))))))) (.cons (zfree_v _) .nil)))) rfl rfl rfl) ?_
 iterate 5 refine AO.pu T ?_
 refine AO.nil ?_
 refine AW.le (Le.ct 0 0 (σ' := (⟨[(1, .s (List.map encInt_u8 more)), (5, .s (List.map encItem x1.1)), (6, .s (List.map encChange x1.2.1)), (7, x1.2.2), (8, .R 3), (9, .v (.bool x3.2)), (10, .R 4), (11, .v (.bool x5.2)), (12, .R 5), (13, .v (.bool x7.2)), (14, .R 6), (15, .v (.bool x9.2)), (16, .s (List.map encItem x11.1)), (17, .R 7), (18, .p 8 0), (19, .R 9), (20, .v (.bool x13.2)), (21, .R 10), (22, .v (.bool x15.2))], [(3, .row 3 (List.map encItemO x3.1)), (4, .row 3 (List.map encItemO x5.1)), (5, .row 1 (List.map encLIntO x7.1)), (6, .row 1 (List.map encLInt x9.1)), (7, .row 6 (List.map encChange x11.2.1)), (8, .box [x11.2.2.tick, x11.2.2.caller, x11.2.2.item, x11.2.2.name, x11.2.2.mark, .v (.bool x11.2.2.review)]), (9, .row 6 (List.map encChange x13.1)), (10, .row 6 (List.map encChange x15.1))], 319, []⟩ : St))) ?_
 refine AW.seq ?_
 obtain ⟨x17, hx18, hH⟩ := bindE hH
 refine AW.region ?_
 refine AO.pu T ?_
 refine AO.step rfl (call_ok rfl 11 rfl rfl rfl (spec_DrawLastChange_ok fuel _ _ (hx18)) rfl rfl rfl) ?_
 iterate 9 refine AO.pu T ?_
 refine AO.nil (AW.seq ?_)
 obtain ⟨x19, hx20, hH⟩ := bindE hH
 refine AW.region ?_
 iterate 4 refine AO.pu T ?_
 refine AO.val rfl rfl (callLV_ok rfl rfl rfl (es := [.s (List.map encItem x17.1), .s (List.map encChange x17.2.1), x17.2.2.1, x17.2.2.2]) ⟨.free rfl, (.rowR rfl (.map fun y => .vs rfl)), .free rfl, .free rfl, trivial⟩ (impl_LastChange_ok fuel _ _ _ _ _ (hx20)) (zfree_t (zfl (.cons (zfree_v _) (.cons (zfree_v _) .nil)))) rfl) ?_
 iterate 5 refine AO.pu T ?_
 refine AO.nil (AW.seq ?_)
 obtain ⟨x21, hx22, hH⟩ := bindE hH
 refine AW.region ?_
 iterate 4 refine AO.pu T ?_
 refine AO.val rfl rfl (callLV_ok rfl rfl rfl (es := [.s (List.map encItem x17.1), .s (List.map encChange x17.2.1), x17.2.2.1, x17.2.2.2]) ⟨.free rfl, (.rowR rfl (.map fun y => .vs rfl)), .free rfl, .free rfl, trivial⟩ (spec_LastChange_ok fuel _ _ _ _ _ (hx22)) (zfree_t (zfl (.cons (zfree_v _) (.cons (zfree_v _) .nil)))) rfl) ?_
 iterate 5 refine AO.pu T ?_
 refine AO.nil ?_
 refine AW.le (Le.ct 0 0 (σ' := (⟨[(5, .s (List.map encItem x1.1)), (6, .s (List.map encChange x1.2.1)), (7, x1.2.2), (8, .R 3), (9, .v (.bool x3.2)), (10, .R 4), (11, .v (.bool x5.2)), (12, .R 5), (13, .v (.bool x7.2)), (14, .R 6), (15, .v (.bool x9.2)), (16, .s (List.map encItem x11.1)), (17, .R 7), (18, .p 8 0), (19, .R 9), (20, .v (.bool x13.2)), (21, .R 10), (22, .v (.bool x15.2)), (23, .s (List.map encItem x17.1)), (24, .R 11), (25, x17.2.2.1), (26, x17.2.2.2), (27, x19.1), (28, .v (.bool x19.2)), (29, x21.1), (30, .v (.bool x21.2))], [(3, .row 3 (List.map encItemO x3.1)), (4, .row 3 (List.map encItemO x5.1)), (5, .row 1 (List.map encLIntO x7.1)), (6, .row 1 (List.map encLInt x9.1)), (7, .row 6 (List.map encChange x11.2.1)), (8, .box [x11.2.2.tick, x11.2.2.caller, x11.2.2.item, x11.2.2.name, x11.2.2.mark, .v (.bool x11.2.2.review)]), (9, .row 6 (List.map encChange x13.1)), (10, .row 6 (List.map encChange x15.1)), (11, .row 6 (List.map encChange x17.2.1))], 319, []⟩ : St))) ?_
 refine AW.seq ?_
 obtain ⟨x23, hx24, hH⟩ := bindE hH
 refine AW.region ?_
 iterate 4 refine AO.pu T ?_
 refine AO.step rfl (callL_ok rfl 12 rfl rfl (es := [.s (List.map encItem x17.1), .s (List.map encChange x17.2.1), x17.2.2.1, x17.2.2.2]) (by exact ⟨.free rfl, (.rowR rfl (.map fun y => .vs rfl)), .free rfl, .free rfl, trivial⟩) (impl_CallersOf_ok fuel _ _ _ _ _ (hx24)) (zfree_t (zfl (.cons (zfree_map (fun y => (.cons (zfree_v _) .nil))) (.cons (zfree_v _) .nil)))) rfl rfl rfl) ?_
 iterate 5 refine AO.pu T ?_
 refine AO.nil (AW.seq ?_)
 obtain ⟨x25, hx26, hH⟩ := bindE hH
 refine AW.le (Le.freezeM 11 (g := encChange) rfl (fun y => .vs rfl)) ?_
 refine AW.region ?_
 iterate 4 refine AO.pu T ?_
 refine AO.val rfl rfl (callV_ok rfl rfl rfl rfl (spec_CallersOf_ok fuel _ _ _ _ _ (hx26)) rfl) ?_
 iterate 5 refine AO.pu T ?_
 refine AO.nil ?_
 iterate 2 refine AW.seq ?_
 obtain ⟨x27, hx28, hH⟩ := bindE hH
 obtain ⟨x29, hx30, hH⟩ := bindE hH
 obtain ⟨x31, hx32, hH⟩ := bindE hH
 obtain ⟨x33, hx34, hH⟩ := bindE hH
 refine AW.region ?_
 iterate 4 refine AO.pu T ?_
 iterate 2 refine AO.pureG T [] rfl trivial rfl rfl ?_
 refine AO.guard [148, 149] rfl ⟨fun h => h, fun h => h, trivial⟩ (fun hg => callLV_ok rfl rfl rfl (es := [.s (List.map encItem x3.1), .s (List.map encItem x5.1)]) ⟨(.rowR rfl (.map fun y => frzItem y)), (.rowR rfl (.map fun y => frzItem y)), trivial⟩ (laws_qItems_ok _ _ _ (optT hx28 hg)) (zfree_v _) rfl) rfl ?_
 refine AO.pureG T [150] rfl ⟨fun h => h, trivial⟩ rfl rfl ?_
 refine AO.val rfl rfl (pick_or rfl rfl rfl rfl) ?_
 refine AO.pu T ?_
 iterate 2 refine AO.pureG T [] rfl trivial rfl rfl ?_
 refine AO.pureG T [154, 155] rfl ⟨fun h => h, fun h => h, trivial⟩ rfl rfl ?_
 refine AO.val rfl rfl (pick_or rfl rfl rfl rfl) ?_
 refine AO.pu T ?_
 iterate 2 refine AO.pureG T [] rfl trivial rfl rfl ?_
 refine AO.guard [159, 160] rfl ⟨fun h => h, fun h => h, trivial⟩ (fun hg => callLV_ok rfl rfl rfl (es := [.s (List.map encLInt x7.1), .s (List.map encLInt x9.1)]) ⟨(.rowR rfl (.map fun y => frzLInt y)), (.rowR rfl (.map fun y => .vs rfl)), trivial⟩ (laws_qLists_ok _ _ _ (optT hx30 hg)) (zfree_v _) rfl) rfl ?_
 refine AO.pureG T [161] rfl ⟨fun h => h, trivial⟩ rfl rfl ?_
 refine AO.val rfl rfl (pick_or rfl rfl rfl rfl) ?_
 refine AO.pu T ?_
 iterate 2 refine AO.pureG T [] rfl trivial rfl rfl ?_
 refine AO.pureG T [165, 166] rfl ⟨fun h => h, fun h => h, trivial⟩ rfl rfl ?_
 refine AO.val rfl rfl (pick_or rfl rfl rfl rfl) ?_
 refine AO.pu T ?_
 iterate 2 refine AO.pureG T [] rfl trivial rfl rfl ?_
 refine AO.guard [170, 171] rfl ⟨fun h => h, fun h => h, trivial⟩ (fun hg => callLV_ok rfl rfl rfl (es := [.s (List.map encChange x13.1), .s (List.map encChange x15.1)]) ⟨(.rowR rfl (.map fun y => .vs rfl)), (.rowR rfl (.map fun y => .vs rfl)), trivial⟩ (laws_qChanges_ok _ _ _ (optT hx32 hg)) (zfree_v _) rfl) rfl ?_
 refine AO.pureG T [172] rfl ⟨fun h => h, trivial⟩ rfl rfl ?_
 refine AO.val rfl rfl (pick_or rfl rfl rfl rfl) ?_
 refine AO.pu T ?_
 iterate 2 refine AO.pureG T [] rfl trivial rfl rfl ?_
 refine AO.pureG T [176, 177] rfl ⟨fun h => h, fun h => h, trivial⟩ rfl rfl ?_
 refine AO.val rfl rfl (pick_or rfl rfl rfl rfl) ?_
 refine AO.pu T ?_
 iterate 2 refine AO.pureG T [] rfl trivial rfl rfl ?_
 refine AO.pureG T [181, 182] rfl ⟨fun h => h, fun h => h, trivial⟩ rfl rfl ?_
 refine AO.val rfl rfl (pick_or rfl rfl rfl rfl) ?_
 refine AO.pu T ?_
 iterate 2 refine AO.pureG T [] rfl trivial rfl rfl ?_
 refine AO.pureG T [186, 187] rfl ⟨fun h => h, fun h => h, trivial⟩ rfl rfl ?_
 refine AO.val rfl rfl (pick_or rfl rfl rfl rfl) ?_
 refine AO.pu T ?_
 iterate 2 refine AO.pureG T [] rfl trivial rfl rfl ?_
 refine AO.guard [191, 192] rfl ⟨fun h => h, fun h => h, trivial⟩ (fun hg => callLV_ok rfl rfl rfl (es := [.s (List.map encInt x23.1), .s (List.map encInt x25.1)]) ⟨(.rowR rfl (.map fun y => .vs rfl)), .free rfl, trivial⟩ (laws_qInts_ok _ _ _ (optT hx34 hg)) (zfree_v _) rfl) rfl ?_
 refine AO.pureG T [193] rfl ⟨fun h => h, trivial⟩ rfl rfl ?_
 refine AO.val rfl rfl (pick_or rfl rfl rfl rfl) ?_
 refine AO.nil ?_
 refine AW.le (Le.ct 0 0 (σ' := (⟨[(5, .s (List.map encItem x1.1)), (6, .s (List.map encChange x1.2.1)), (7, x1.2.2), (9, .v (.bool x3.2)), (10, .R 4), (13, .v (.bool x7.2)), (16, .s (List.map encItem x11.1)), (17, .R 7), (18, .p 8 0), (19, .R 9), (20, .v (.bool x13.2)), (21, .R 10), (24, .s (List.map encChange x17.2.1)), (28, .v (.bool x19.2)), (29, x21.1), (32, .v (.bool x23.2)), (33, .s (List.map encInt x25.1)), (195, .v (.bool ((((((((((!(x3.2 == x5.2)) || (!x27)) || (!(x7.2 == x9.2))) || (!x29)) || (!(x13.2 == x15.2))) || (!x31)) || (!(x19.2 == x21.2))) || (x19.1 != x21.1)) || (!(x23.2 == x25.2))) || (!x33))))], [(4, .row 3 (List.map encItemO x5.1)), (7, .row 6 (List.map encChange x11.2.1)), (8, .box [x11.2.2.tick, x11.2.2.caller, x11.2.2.item, x11.2.2.name, x11.2.2.mark, .v (.bool x11.2.2.review)]), (9, .row 6 (List.map encChange x13.1)), (10, .row 6 (List.map encChange x15.1))], 319, []⟩ : St))) ?_
 refine AW.cond (b := ((((((((((!(x3.2 == x5.2)) || (!x27)) || (!(x7.2 == x9.2))) || (!x29)) || (!(x13.2 == x15.2))) || (!x31)) || (!(x19.2 == x21.2))) || (x19.1 != x21.1)) || (!(x23.2 == x25.2))) || (!x33))) rfl (fun hc => ?_) (fun hc => ?_)
 replace hH := condT hc hH
 refine AW.seq (AW.region ?_)
 refine AO.pu T ?_
 refine AO.nil (AW.ret ?_)
 have hR := someE hH; subst hR
 exact retQ.i [] rfl (.c (.c .v))
 replace hH := condF hc hH
 refine AW.skip ?_
 iterate 2 refine AW.seq ?_
 refine AW.region ?_
 refine AO.pu T ?_
 refine AO.nil ?_
 refine AW.cond (b := x13.2) rfl (fun hc => ?_) (fun hc => ?_)
 replace hH := condT hc hH
 refine AW.seq ?_
 obtain ⟨x35, hx36, hH⟩ := bindE hH
 refine AW.region ?_
 iterate 6 refine AO.pu T ?_
 refine AO.val rfl rfl (callLV_ok rfl rfl rfl (es := [.s (List.map encItem x11.1), .s (List.map encChange x13.1), x11.2.2.item, x11.2.2.name]) ⟨.free rfl, (.rowR rfl (.map fun y => .vs rfl)), .free rfl, .free rfl, trivial⟩ (impl_LastChange_ok fuel _ _ _ _ _ (hx36)) (zfree_t (zfl (.cons (zfree_v _) (.cons (zfree_v _) .nil)))) rfl) ?_
 iterate 5 refine AO.pu T ?_
 refine AO.nil (AW.seq ?_)
 obtain ⟨x37, hx38, hH⟩ := bindE hH
 refine AW.region ?_
 iterate 2 refine AO.pu T ?_
 refine AO.step rfl (callL_ok rfl 13 rfl rfl (es := [.s (List.map encItem x11.1), .s (List.map encChange x13.1)]) (by exact ⟨.free rfl, (.rowR rfl (.map fun y => .vs rfl)), trivial⟩) (impl_OpenReviews_ok fuel _ _ _ (hx38)) (zfree_t (zfl (.cons (zfree_map (fun y => (.cons (zfree_map (fun y => (.cons (zfree_v _) .nil))) .nil))) (.cons (zfree_v _) .nil)))) rfl rfl rfl) ?_
 iterate 5 refine AO.pu T ?_
 refine AO.nil (AW.seq ?_)
 obtain ⟨x39, hx40, hH⟩ := bindE hH
 refine AW.le (Le.freezeM 10 (g := encChange) rfl (fun y => .vs rfl)) ?_
 refine AW.region ?_
 iterate 2 refine AO.pu T ?_
 refine AO.step rfl (call_ok rfl 14 rfl rfl rfl (spec_OpenReviews_ok fuel _ _ _ (hx40)) rfl rfl rfl) ?_
 iterate 5 refine AO.pu T ?_
 refine AO.nil ?_
 refine AW.le (Le.ct 0 0 (σ' := (⟨[(5, .s (List.map encItem x1.1)), (6, .s (List.map encChange x1.2.1)), (7, x1.2.2), (9, .v (.bool x3.2)), (10, .R 4), (13, .v (.bool x7.2)), (17, .R 7), (18, .p 8 0), (24, .s (List.map encChange x17.2.1)), (28, .v (.bool x19.2)), (29, x21.1), (32, .v (.bool x23.2)), (33, .s (List.map encInt x25.1)), (35, x35.1), (36, .v (.bool x35.2)), (37, .R 13), (38, .v (.bool x37.2)), (39, .R 14), (40, .v (.bool x39.2))], [(4, .row 3 (List.map encItemO x5.1)), (7, .row 6 (List.map encChange x11.2.1)), (8, .box [x11.2.2.tick, x11.2.2.caller, x11.2.2.item, x11.2.2.name, x11.2.2.mark, .v (.bool x11.2.2.review)]), (13, .row 1 (List.map encLIntO x37.1)), (14, .row 1 (List.map encLInt x39.1))], 319, []⟩ : St))) ?_
 refine AW.seq (AW.region ?_)
 refine AO.pu T ?_
 refine AO.nil ?_
 iterate 2 refine AW.seq ?_
 refine AW.region ?_
 refine AO.pu T ?_
 refine AO.val rfl rfl (len_row_ok T rfl rfl rfl rfl) ?_
 refine AO.pu T ?_
 refine AO.nil ?_
 refine AW.block ?_
 refine AW.loopS (fun s : Nat × Bool => (⟨[(5, .s (List.map encItem x1.1)), (6, .s (List.map encChange x1.2.1)), (7, x1.2.2), (9, .v (.bool x3.2)), (10, .R 4), (13, .v (.bool x7.2)), (17, .R 7), (18, .p 8 0), (24, .s (List.map encChange x17.2.1)), (28, .v (.bool x19.2)), (29, x21.1), (32, .v (.bool x23.2)), (33, .s (List.map encInt x25.1)), (35, x35.1), (36, .v (.bool x35.2)), (37, .R 13), (38, .v (.bool x37.2)), (39, .R 14), (40, .v (.bool x39.2)), (41, .v (.bool s.2)), (219, .R 14), (220, (x39.1.length : Int)), (221, (s.1 : Int))], [(4, .row 3 (List.map encItemO x5.1)), (7, .row 6 (List.map encChange x11.2.1)), (8, .box [x11.2.2.tick, x11.2.2.caller, x11.2.2.item, x11.2.2.name, x11.2.2.mark, .v (.bool x11.2.2.review)]), (13, .row 1 (List.map encLIntO x37.1)), (14, .row 1 (List.map encLInt x39.1))], 319, []⟩ : St)) (fun s => s.1 ≤ x39.1.length ∧ laws_FnOpenReviews_l1 fuel x1 x3 x5 x7 x11 x17 x19 x21 x23 x25 x35 x37 x39 (x39.1.drop s.1) s.1 s.2 = some r) (fun s => x39.1.length - s.1) (0, false) ⟨Nat.zero_le _, hH⟩ ?_ ?_
 exact Le.ct 0 0
 rintro ⟨k41, v52⟩ ⟨hk, hH⟩
 replace hH : laws_FnOpenReviews_l1 fuel x1 x3 x5 x7 x11 x17 x19 x21 x23 x25 x35 x37 x39 (x39.1.drop k41) k41 v52 = some r := hH
 try dsimp only
 refine AW.boundR (id := 14) (l := x39.1) rfl (fun hb45 => ?_)
 rcases hd44 : x39.1.drop k41 with _ | ⟨y42, ys43⟩
 rw [hd44, laws_FnOpenReviews_l1] at hH
 have hlt46 := drop_ge hd44
 refine AW.seq (AW.region ?_)
 refine AO.pu T ?_
 refine AO.nil (AW.seq ?_)
 refine AW.condF' (b := decide ((k41 : Int) < (x39.1.length : Int))) rfl (rngF hlt46) ?_
 refine AW.exit ?_
 refine AW.seq ?_
 obtain ⟨x54, hx55, hH⟩ := bindE hH
 refine AW.region ?_
 iterate 3 refine AO.pu T ?_
 iterate 2 refine AO.pureG T [] rfl trivial rfl rfl ?_
 refine AO.guard [240] rfl ⟨fun h => h, trivial⟩ (fun hg => len_row_ok T rfl rfl rfl rfl) rfl ?_
 refine AO.pureG T [239, 241] rfl ⟨fun h => h, fun h => h, trivial⟩ rfl rfl ?_
 refine AO.val rfl rfl (pick_or rfl rfl rfl rfl) ?_
 refine AO.pu T ?_
 refine AO.pureG T [] rfl trivial rfl rfl ?_
 refine AO.pureG T [245] rfl ⟨fun h => h, trivial⟩ rfl rfl ?_
 refine AO.val rfl rfl (pick_or rfl rfl rfl rfl) ?_
 refine AO.pu T ?_
 refine AO.pureG T [] rfl trivial rfl rfl ?_
 refine AO.pureG T [249] rfl ⟨fun h => h, trivial⟩ rfl rfl ?_
 refine AO.val rfl rfl (pick_or rfl rfl rfl rfl) ?_
 refine AO.pu T ?_
 iterate 2 refine AO.pureG T [] rfl trivial rfl rfl ?_
 refine AO.guard [253, 254] rfl ⟨fun h => h, fun h => h, trivial⟩ (fun hg => callLV_ok rfl rfl rfl (es := [.s (List.map encLInt x37.1), .s (List.map encLInt x39.1)]) ⟨(.rowR rfl (.map fun y => frzLInt y)), (.rowR rfl (.map fun y => .vs rfl)), trivial⟩ (laws_qLists_ok _ _ _ (optT hx55 hg)) (zfree_v _) rfl) rfl ?_
 refine AO.pureG T [255] rfl ⟨fun h => h, trivial⟩ rfl rfl ?_
 refine AO.val rfl rfl (pick_or rfl rfl rfl rfl) ?_
 refine AO.pu T ?_
 iterate 2 refine AO.pureG T [] rfl trivial rfl rfl ?_
 refine AO.pureG T [260] rfl ⟨fun h => h, trivial⟩ rfl rfl ?_
 refine AO.pureG T [259, 261] rfl ⟨fun h => h, fun h => h, trivial⟩ rfl rfl ?_
 refine AO.val rfl rfl (pick_or rfl rfl rfl rfl) ?_
 refine AO.nil ?_
 refine AW.le (Le.ct 0 0 (σ' := (⟨[(5, .s (List.map encItem x1.1)), (6, .s (List.map encChange x1.2.1)), (7, x1.2.2), (9, .v (.bool x3.2)), (10, .R 4), (13, .v (.bool x7.2)), (24, .s (List.map encChange x17.2.1)), (28, .v (.bool x19.2)), (29, x21.1), (32, .v (.bool x23.2)), (33, .s (List.map encInt x25.1)), (263, .v (.bool ((((((!x35.2) || (x35.1 != (x11.2.1.length : Int))) || (!x37.2)) || (!x39.2)) || (!x54)) || (!(v52 == x11.2.2.review)))))], [(4, .row 3 (List.map encItemO x5.1))], 319, []⟩ : St))) ?_
 refine AW.cond (b := ((((((!x35.2) || (x35.1 != (x11.2.1.length : Int))) || (!x37.2)) || (!x39.2)) || (!x54)) || (!(v52 == x11.2.2.review)))) rfl (fun hc => ?_) (fun hc => ?_)
 replace hH := condT hc hH
 refine AW.seq (AW.region ?_)
 refine AO.pu T ?_
 refine AO.nil (AW.ret ?_)
 have hR := someE hH; subst hR
 exact retQ.i [] rfl (.c (.c .v))
 replace hH := condF hc hH
 refine AW.skip ?_
 iterate 2 refine AW.seq ?_
 obtain ⟨x56, hx57, hH⟩ := bindE hH
 obtain ⟨x58, hx59, hH⟩ := bindE hH
 refine AW.region ?_
 iterate 2 refine AO.pu T ?_
 iterate 2 refine AO.pureG T [] rfl trivial rfl rfl ?_
 refine AO.guard [267] rfl ⟨fun h => h, trivial⟩ (fun hg => len_map_ok T rfl rfl rfl) rfl ?_
 refine AO.pureG T [268] rfl ⟨fun h => h, trivial⟩ rfl rfl ?_
 refine AO.pureG T [266, 269] rfl ⟨fun h => h, fun h => h, trivial⟩ rfl rfl ?_
 refine AO.pureG T [270] rfl ⟨fun h => h, trivial⟩ rfl rfl ?_
 refine AO.pureG T [] rfl trivial rfl rfl ?_
 refine AO.pureG T [272] rfl ⟨fun h => h, trivial⟩ rfl rfl ?_
 iterate 3 refine AO.pureG T [] rfl trivial rfl rfl ?_
 refine AO.guard [275, 276] rfl ⟨fun h => h, fun h => h, trivial⟩ (fun hg => ix_map_ok T rfl rfl rfl rfl rfl (optT hx57 hg) rfl) rfl ?_
 refine AO.pureG T [277] rfl ⟨fun h => h, trivial⟩ rfl rfl ?_
 refine AO.pureG T [278] rfl ⟨fun h => h, trivial⟩ rfl rfl ?_
 refine AO.guard [274, 279] rfl ⟨fun h => h, fun h => h, trivial⟩ (fun hg => callV_ok rfl rfl rfl rfl (laws_qHas_ok _ _ _ (optT hx59 hg)) rfl) rfl ?_
 refine AO.pureG T [280] rfl ⟨fun h => h, trivial⟩ rfl rfl ?_
 refine AO.guard [273] rfl ⟨fun h => h, trivial⟩ (fun hg => pick_and rfl rfl rfl (by rw [hg]; exact Bool.true_and _)) rfl ?_
 refine AO.guard [271] rfl ⟨fun h => h, trivial⟩ (fun hg => pick_or rfl rfl rfl (by rw [hg]; exact Bool.true_and _)) rfl ?_
 refine AO.val rfl rfl (pick_and rfl rfl rfl rfl) ?_
 refine AO.nil ?_
 refine AW.cond (b := (x23.2 && ((!(x19.2 == decide ((x25.1.length : Int) > 0))) || (x19.2 && (!x58))))) rfl (fun hc => ?_) (fun hc => ?_)
 replace hH := condT hc hH
 refine AW.seq (AW.region ?_)
 refine AO.pu T ?_
 refine AO.nil (AW.ret ?_)
 have hR := someE hH; subst hR
 exact retQ.i [] rfl (.c (.c .v))
 replace hH := condF hc hH
 refine AW.skip ?_
 iterate 2 refine AW.seq ?_
 refine AW.region ?_
 iterate 2 refine AO.pu T ?_
 refine AO.nil ?_
 refine AW.cond (b := (!x3.2)) rfl (fun hc => ?_) (fun hc => ?_)
 replace hH := condT hc hH
 refine AW.seq (AW.region ?_)
 refine AO.pu T ?_
 refine AO.nil ?_
 refine AW.le (Le.ct 0 0 (σ' := (⟨[(4, .v (.bool true))], [], 319, []⟩ : St))) ?_
 refine AW.ret ?_
 have hR := someE hH; subst hR
 exact retQ.i [] rfl (.c (.c .v))
 replace hH := condF hc hH
 refine AW.skip ?_
 refine AW.seq (AW.region ?_)
 refine AO.pu T ?_
 refine AO.nil ?_
 refine AW.le (Le.ct 0 0 (σ' := (⟨[(5, .s (List.map encItem x1.1)), (6, .s (List.map encChange x1.2.1)), (7, x1.2.2), (10, .R 4), (13, .v (.bool x7.2)), (44, (0 : Int))], [(4, .row 3 (List.map encItemO x5.1))], 319, []⟩ : St))) ?_
 obtain ⟨o70, hH, hK71⟩ := bindE hH
 refine AW.seqJ (fun s : Int => (⟨[(5, .s (List.map encItem x1.1)), (6, .s (List.map encChange x1.2.1)), (10, .R 4), (13, .v (.bool x7.2)), (44, s)], [(4, .row 3 (List.map encItemO x5.1))], 319, []⟩ : St)) (fun s => s = o70) ?_ ?_
 refine AW.block ?_
 refine AW.loopS (fun s : Nat × Int => (⟨[(5, .s (List.map encItem x1.1)), (6, .s (List.map encChange x1.2.1)), (7, x1.2.2), (10, .R 4), (13, .v (.bool x7.2)), (44, s.2)], [(4, .row 3 (List.map encItemO x5.1))], 319, []⟩ : St)) (fun s => laws_FnOpenReviews_l2 x1 s.1 s.2 = some o70) (fun s => s.1) (fuel, 0) hH ?_ ?_
 exact Le.ct 0 0
 rintro ⟨k72, v78⟩ hH
 replace hH : laws_FnOpenReviews_l2 x1 k72 v78 = some o70 := hH
 try dsimp only
 rcases k72 with _ | k72
 cases (show none = some _ from hH)
 rw [laws_FnOpenReviews_l2] at hH
 iterate 2 refine AW.seq ?_
 obtain ⟨x80, hx81, hH⟩ := bindE hH
 refine AW.region ?_
 iterate 2 refine AO.pu T ?_
 refine AO.val rfl rfl (len_map_ok T rfl rfl rfl) ?_
 iterate 2 refine AO.pu T ?_
 iterate 2 refine AO.pureG T [] rfl trivial rfl rfl ?_
 refine AO.guard [292, 293] rfl ⟨fun h => h, fun h => h, trivial⟩ (fun hg => ix_map_ok T rfl rfl rfl rfl rfl (optT hx81 hg) rfl) rfl ?_
 refine AO.pureG T [294] rfl ⟨fun h => h, trivial⟩ rfl rfl ?_
 refine AO.pureG T [295] rfl ⟨fun h => h, trivial⟩ rfl rfl ?_
 refine AO.pureG T [] rfl trivial rfl rfl ?_
 refine AO.pureG T [296, 297] rfl ⟨fun h => h, fun h => h, trivial⟩ rfl rfl ?_
 refine AO.val rfl rfl (pick_and rfl rfl rfl rfl) ?_
 refine AO.nil ?_
 refine AW.cond (b := (decide (v78 < (x1.2.1.length : Int)) && decide (x80.tick ≤ x1.2.2))) rfl (fun hc => ?_) (fun hc => ?_)
 replace hH := condT hc hH
 refine AW.skip ?_
 refine AW.block ?_
 refine AW.region ?_
 refine AO.pu T ?_
 refine AO.val rfl rfl (arw_ok rfl rfl rfl rfl) ?_
 refine AO.pu T ?_
 refine AO.nil ?_
 refine ⟨(k72, w64 (v78 + 1)), hH, Nat.lt_succ_self _, ?_⟩
 exact Le.ct 0 0
 replace hH := condF hc hH
 refine AW.exit ?_
 refine ⟨_, someE hH, ?_⟩
 exact Le.ct 0 0
 rintro v69 hs
 subst hs
 replace hH := hK71
 try dsimp only [flow, flowE] at hH
 try dsimp only
 refine AW.seq ?_
 obtain ⟨x82, hx83, hH⟩ := bindE hH
 obtain ⟨x84, hx85, hH⟩ := bindE hH
 refine AW.region ?_
 iterate 3 refine AO.pu T ?_
 refine AO.val rfl rfl (slice_hi_map_ok T rfl rfl rfl rfl rfl (hx83) (fun _ => rfl)) ?_
 refine AO.step rfl (call_ok rfl 16 rfl rfl rfl (impl_FinalState_ok fuel _ _ _ (hx85)) rfl rfl rfl) ?_
 iterate 5 refine AO.pu T ?_
 refine AO.nil (AW.seq ?_)
 obtain ⟨x86, hx87, hH⟩ := bindE hH
 refine AW.region ?_
 iterate 2 refine AO.pu T ?_
 iterate 2 refine AO.pureG T [] rfl trivial rfl rfl ?_
 refine AO.guard [312, 313] rfl ⟨fun h => h, fun h => h, trivial⟩ (fun hg => callLV_ok rfl rfl rfl (es := [.s (List.map encItem x84.1), .s (List.map encItem x5.1)]) ⟨(.rowR rfl (.map fun y => frzItem y)), (.rowR rfl (.map fun y => frzItem y)), trivial⟩ (laws_qItems_ok _ _ _ (optT hx87 hg)) (zfree_v _) rfl) rfl ?_
 refine AO.val rfl rfl (pick_and rfl rfl rfl rfl) ?_
 refine AO.pu T ?_
 refine AO.pureG T [] rfl trivial rfl rfl ?_
 refine AO.val rfl rfl (pick_and rfl rfl rfl rfl) ?_
 refine AO.pu T ?_
 refine AO.nil (AW.ret ?_)
 have hR := someE hH; subst hR
 exact retQ.i [] rfl (.c (.c .v))
 rw [hd44, laws_FnOpenReviews_l1] at hH
 have hlt46 := drop_lt hd44
 refine AW.seq (AW.region ?_)
 refine AO.pu T ?_
 refine AO.nil (AW.seq ?_)
 refine AW.condT' (b := decide ((k41 : Int) < (x39.1.length : Int))) rfl (rngT hlt46) ?_
 refine AW.skip ?_
 refine AW.seq ?_
 refine AW.block ?_
 refine AW.seq (AW.region ?_)
 refine AO.val rfl rfl (ix_row_ok T rfl rfl rfl rfl rfl rfl (getI_drop hd44)) ?_
 refine AO.val rfl rfl (load_row_ok T rfl rfl rfl rfl (getI_get (getI_drop hd44)) rfl rfl rfl) ?_
 refine AO.pu T ?_
 refine AO.nil ?_
 obtain ⟨x88, hx89, hH⟩ := bindE hH
 refine AW.region ?_
 iterate 2 refine AO.pu T ?_
 iterate 2 refine AO.pureG T [] rfl trivial rfl rfl ?_
 refine AO.pureG T [228] rfl ⟨fun h => h, trivial⟩ rfl rfl ?_
 refine AO.pureG T [] rfl trivial rfl rfl ?_
 refine AO.pureG T [230] rfl ⟨fun h => h, trivial⟩ rfl rfl ?_
 refine AO.guard [229, 231] rfl ⟨fun h => h, fun h => h, trivial⟩ (fun hg => mkF_ok T rfl rfl rfl rfl rfl rfl (f := encInt) (l := [x11.2.2.item, x11.2.2.name]) rfl rfl (fun _ => rfl) rfl rfl rfl) rfl ?_
 refine AO.guard [227, 232] rfl ⟨fun h => h, fun h => h, trivial⟩ (fun hg => callV_ok rfl rfl rfl rfl (laws_qInts_ok _ _ _ (optT hx89 hg)) rfl) rfl ?_
 refine AO.val rfl rfl (pick_or rfl rfl rfl rfl) ?_
 refine AO.pu T ?_
 refine AO.nil ?_
 refine AW.region ?_
 refine AO.val rfl rfl (ar_ok rfl rfl rfl rfl (inI_succ hlt46 hb45)) ?_
 refine AO.pu T ?_
 refine AO.nil ?_
 refine ⟨(k41 + 1, (v52 || x88)), ⟨Nat.succ_le_of_lt hlt46, (by rw [drop_succ_of hd44]; exact hH)⟩, (by have := hlt46; dsimp only; omega), ?_⟩
 exact Le.ct 0 0
 replace hH := condF hc hH
 refine AW.skip ?_
 iterate 2 refine AW.seq ?_
 obtain ⟨x90, hx91, hH⟩ := bindE hH
 obtain ⟨x92, hx93, hH⟩ := bindE hH
 refine AW.region ?_
 iterate 2 refine AO.pu T ?_
 iterate 2 refine AO.pureG T [] rfl trivial rfl rfl ?_
 refine AO.guard [267] rfl ⟨fun h => h, trivial⟩ (fun hg => len_map_ok T rfl rfl rfl) rfl ?_
 refine AO.pureG T [268] rfl ⟨fun h => h, trivial⟩ rfl rfl ?_
 refine AO.pureG T [266, 269] rfl ⟨fun h => h, fun h => h, trivial⟩ rfl rfl ?_
 refine AO.pureG T [270] rfl ⟨fun h => h, trivial⟩ rfl rfl ?_
 refine AO.pureG T [] rfl trivial rfl rfl ?_
 refine AO.pureG T [272] rfl ⟨fun h => h, trivial⟩ rfl rfl ?_
 iterate 3 refine AO.pureG T [] rfl trivial rfl rfl ?_
 refine AO.guard [275, 276] rfl ⟨fun h => h, fun h => h, trivial⟩ (fun hg => ix_map_ok T rfl rfl rfl rfl rfl (optT hx91 hg) rfl) rfl ?_
 refine AO.pureG T [277] rfl ⟨fun h => h, trivial⟩ rfl rfl ?_
 refine AO.pureG T [278] rfl ⟨fun h => h, trivial⟩ rfl rfl ?_
 refine AO.guard [274, 279] rfl ⟨fun h => h, fun h => h, trivial⟩ (fun hg => callV_ok rfl rfl rfl rfl (laws_qHas_ok _ _ _ (optT hx93 hg)) rfl) rfl ?_
 refine AO.pureG T [280] rfl ⟨fun h => h, trivial⟩ rfl rfl ?_
 refine AO.guard [273] rfl ⟨fun h => h, trivial⟩ (fun hg => pick_and rfl rfl rfl (by rw [hg]; exact Bool.true_and _)) rfl ?_
 refine AO.guard [271] rfl ⟨fun h => h, trivial⟩ (fun hg => pick_or rfl rfl rfl (by rw [hg]; exact Bool.true_and _)) rfl ?_
 refine AO.val rfl rfl (pick_and rfl rfl rfl rfl) ?_
 refine AO.nil ?_
 refine AW.cond (b := (x23.2 && ((!(x19.2 == decide ((x25.1.length : Int) > 0))) || (x19.2 && (!x92))))) rfl (fun hc => ?_) (fun hc => ?_)
 replace hH := condT hc hH
 refine AW.seq (AW.region ?_)
 refine AO.pu T ?_
 refine AO.nil (AW.ret ?_)
 have hR := someE hH; subst hR
 exact retQ.i [] rfl (.c (.c .v))
 replace hH := condF hc hH
 refine AW.skip ?_
 iterate 2 refine AW.seq ?_
 refine AW.region ?_
 iterate 2 refine AO.pu T ?_
 refine AO.nil ?_
 refine AW.le (Le.ct 0 0 (σ' := (⟨[(5, .s (List.map encItem x1.1)), (6, .s (List.map encChange x1.2.1)), (7, x1.2.2), (10, .R 4), (13, .v (.bool x7.2)), (286, .v (.bool (!x3.2)))], [(4, .row 3 (List.map encItemO x5.1))], 319, []⟩ : St))) ?_
 refine AW.cond (b := (!x3.2)) rfl (fun hc => ?_) (fun hc => ?_)
 replace hH := condT hc hH
 refine AW.seq (AW.region ?_)
 refine AO.pu T ?_
 refine AO.nil (AW.ret ?_)
 have hR := someE hH; subst hR
 exact retQ.i [] rfl (.c (.c .v))
 replace hH := condF hc hH
 refine AW.skip ?_
 refine AW.seq (AW.region ?_)
 refine AO.pu T ?_
 refine AO.nil ?_
 obtain ⟨o104, hH, hK105⟩ := bindE hH
 refine AW.seqJ (fun s : Int => (⟨[(5, .s (List.map encItem x1.1)), (6, .s (List.map encChange x1.2.1)), (10, .R 4), (13, .v (.bool x7.2)), (44, s)], [(4, .row 3 (List.map encItemO x5.1))], 319, []⟩ : St)) (fun s => s = o104) ?_ ?_
 refine AW.block ?_
 refine AW.loopS (fun s : Nat × Int => (⟨[(5, .s (List.map encItem x1.1)), (6, .s (List.map encChange x1.2.1)), (7, x1.2.2), (10, .R 4), (13, .v (.bool x7.2)), (44, s.2)], [(4, .row 3 (List.map encItemO x5.1))], 319, []⟩ : St)) (fun s => laws_FnOpenReviews_l3 x1 s.1 s.2 = some o104) (fun s => s.1) (fuel, 0) hH ?_ ?_
 exact Le.ct 0 0
 rintro ⟨k106, v112⟩ hH
 replace hH : laws_FnOpenReviews_l3 x1 k106 v112 = some o104 := hH
 try dsimp only
 rcases k106 with _ | k106
 cases (show none = some _ from hH)
 rw [laws_FnOpenReviews_l3] at hH
 iterate 2 refine AW.seq ?_
 obtain ⟨x114, hx115, hH⟩ := bindE hH
 refine AW.region ?_
 iterate 2 refine AO.pu T ?_
 refine AO.val rfl rfl (len_map_ok T rfl rfl rfl) ?_
 iterate 2 refine AO.pu T ?_
 iterate 2 refine AO.pureG T [] rfl trivial rfl rfl ?_
 refine AO.guard [292, 293] rfl ⟨fun h => h, fun h => h, trivial⟩ (fun hg => ix_map_ok T rfl rfl rfl rfl rfl (optT hx115 hg) rfl) rfl ?_
 refine AO.pureG T [294] rfl ⟨fun h => h, trivial⟩ rfl rfl ?_
 refine AO.pureG T [295] rfl ⟨fun h => h, trivial⟩ rfl rfl ?_
 refine AO.pureG T [] rfl trivial rfl rfl ?_
 refine AO.pureG T [296, 297] rfl ⟨fun h => h, fun h => h, trivial⟩ rfl rfl ?_
 refine AO.val rfl rfl (pick_and rfl rfl rfl rfl) ?_
 refine AO.nil ?_
 refine AW.cond (b := (decide (v112 < (x1.2.1.length : Int)) && decide (x114.tick ≤ x1.2.2))) rfl (fun hc => ?_) (fun hc => ?_)
 replace hH := condT hc hH
 refine AW.skip ?_
 refine AW.block ?_
 refine AW.region ?_
 refine AO.pu T ?_
 refine AO.val rfl rfl (arw_ok rfl rfl rfl rfl) ?_
 refine AO.pu T ?_
 refine AO.nil ?_
 refine ⟨(k106, w64 (v112 + 1)), hH, Nat.lt_succ_self _, ?_⟩
 exact Le.ct 0 0
 replace hH := condF hc hH
 refine AW.exit ?_
 refine ⟨_, someE hH, ?_⟩
 exact Le.ct 0 0
 rintro v103 hs
 subst hs
 replace hH := hK105
 try dsimp only [flow, flowE] at hH
 try dsimp only
 refine AW.seq ?_
 obtain ⟨x116, hx117, hH⟩ := bindE hH
 obtain ⟨x118, hx119, hH⟩ := bindE hH
 refine AW.region ?_
 iterate 3 refine AO.pu T ?_
 refine AO.val rfl rfl (slice_hi_map_ok T rfl rfl rfl rfl rfl (hx117) (fun _ => rfl)) ?_
 refine AO.step rfl (call_ok rfl 17 rfl rfl rfl (impl_FinalState_ok fuel _ _ _ (hx119)) rfl rfl rfl) ?_
 iterate 5 refine AO.pu T ?_
 refine AO.nil (AW.seq ?_)
 obtain ⟨x120, hx121, hH⟩ := bindE hH
 refine AW.region ?_
 iterate 2 refine AO.pu T ?_
 iterate 2 refine AO.pureG T [] rfl trivial rfl rfl ?_
 refine AO.guard [312, 313] rfl ⟨fun h => h, fun h => h, trivial⟩ (fun hg => callLV_ok rfl rfl rfl (es := [.s (List.map encItem x118.1), .s (List.map encItem x5.1)]) ⟨(.rowR rfl (.map fun y => frzItem y)), (.rowR rfl (.map fun y => frzItem y)), trivial⟩ (laws_qItems_ok _ _ _ (optT hx121 hg)) (zfree_v _) rfl) rfl ?_
 refine AO.val rfl rfl (pick_and rfl rfl rfl rfl) ?_
 refine AO.pu T ?_
 refine AO.pureG T [] rfl trivial rfl rfl ?_
 refine AO.val rfl rfl (pick_and rfl rfl rfl rfl) ?_
 refine AO.pu T ?_
 refine AO.nil (AW.ret ?_)
 have hR := someE hH; subst hR
 exact retQ.i [] rfl (.c (.c .v))

end Go.Proofs.Ytheaoahofklidaa

/- The walk, part 3: what each function reached by the law FnExactStandingsOf computes. No condition. -/
import Derived.Test.YtioegmjleofmeaaGreatWalk2
set_option maxRecDepth 4000
set_option maxHeartbeats 1000000
set_option linter.unusedVariables false
set_option linter.unusedSimpArgs false
set_option linter.unusedSectionVars false

namespace Go.Proofs.YtioegmjleofmeaaGreat
open Go.AM

def laws_markResultS_l1 (fuel : Nat) : Nat → List Result → Int → Int → Option (((List Result) × Int))
  | 0, _, _, _ => none
  | k1 + 1, v17, v18, v19 =>
    cond (decide (v19 < (v17.length : Int)))
      ((getI v17 v19).bind fun x21 =>
      (getI (v17.set v19.toNat (Result.mk v18 x21.scores)) v19).bind fun x23 =>
      (laws_markIntS_p fuel x23.scores (w64 (v18 + 1))).bind fun x25 =>
      laws_markResultS_l1 fuel k1 ((v17.set v19.toNat (Result.mk v18 x21.scores)).set v19.toNat (Result.mk x23.skater x25.1)) x25.2 (w64 (v19 + 1)))
      (some (v17, v18))
def laws_markResultS_p (fuel : Nat) (a : List Result) (k : Int) : Option ((List Result) × Int) :=
  laws_markResultS_l1 fuel fuel a k 0
theorem laws_markResultS_ok (fuel : Nat) (a : List Result) (k : Int) (r : ((List Result) × Int)) (hH : laws_markResultS_p fuel a k = some r) : SpecM Tryz.prog 37 [.w 2 (a.map encResultO), .v (.int .i64 k)] [.w 2 (r.1.map encResultO), .u] (.v (.int .i64 r.2)) := by
  refine fn_okM T Tryz.func37 rfl (by decide) rfl rfl ?_
  intro L
  show AW _ _ _ (⟨[(0, .R 1), (1, .v (.int .i64 k))], [(1, .row 2 (List.map encResultO a))], 27, [(1, L 1)]⟩ : St)
  refine AW.seq ?_
  refine AW.region ?_
  refine AO.pure T rfl rfl rfl ?_
  refine AO.nil ?_
  refine AW.seq ?_
  refine AW.seq ?_
  refine AW.region ?_
  refine AO.pure T rfl rfl rfl ?_
  refine AO.nil ?_
  refine AW.block ?_
  refine AW.loopS (fun s : Nat × (List Result) × Int × Int => (⟨[(0, .R 1), (1, .v (.int .i64 s.2.2.1)), (5, .v (.int .i64 s.2.2.2))], [(1, .row 2 (List.map encResultO s.2.1))], 27, [(1, L 1)]⟩ : St)) (fun s => laws_markResultS_l1 fuel s.1 s.2.1 s.2.2.1 s.2.2.2 = some r) (fun s => s.1) (fuel, a, k, 0) hH ?_ ?_
  · exact Le.cut 0 0 rfl (by repeat' (first | exact trivial | refine ⟨⟨_, rfl, rfl⟩, ?_⟩)) (by repeat' (first | exact trivial | refine ⟨⟨_, rfl, rfl⟩, ?_⟩)) rfl ⟨⟨rfl, rfl⟩, trivial⟩
  · rintro ⟨k1, v17, v18, v19⟩ hH
    replace hH : laws_markResultS_l1 fuel k1 v17 v18 v19 = some r := hH
    show AW _ _ _ (⟨[(0, .R 1), (1, .v (.int .i64 v18)), (5, .v (.int .i64 v19))], [(1, .row 2 (List.map encResultO v17))], 27, [(1, L 1)]⟩ : St)
    cases k1 with
    | zero => cases (show none = some _ from hH)
    | succ k1 =>
      rw [laws_markResultS_l1] at hH
      refine AW.seq ?_
      refine AW.seq ?_
      refine AW.region ?_
      refine AO.pure T rfl rfl rfl ?_
      refine AO.pure T rfl rfl rfl ?_
      refine AO.val rfl rfl (len_row_ok T rfl rfl rfl rfl) ?_
      refine AO.pure T rfl rfl rfl ?_
      refine AO.nil ?_
      refine AW.cond (b := decide (v19 < (v17.length : Int))) rfl (fun hc => ?_) (fun hc => ?_)
      · replace hH := condT hc hH
        refine AW.skip ?_
        refine AW.seq ?_
        refine AW.block ?_
        refine AW.seq ?_
        obtain ⟨x21, hx22, hH⟩ := bindE hH
        refine AW.region ?_
        refine AO.pure T rfl rfl rfl ?_
        refine AO.pure T rfl rfl rfl ?_
        refine AO.pure T rfl rfl rfl ?_
        refine AO.val rfl rfl (ix_row_ok T rfl rfl rfl rfl rfl rfl (hx22)) ?_
        refine AO.pure T rfl rfl rfl ?_
        refine AO.step rfl (store_row_ok T rfl rfl rfl rfl rfl (getI_get (hx22)) rfl rfl rfl rfl (u' := (Result.mk v18 x21.scores)) rfl rfl) ?_
        refine AO.nil ?_
        refine AW.seq ?_
        refine AW.region ?_
        refine AO.pure T rfl rfl rfl ?_
        refine AO.val rfl rfl (arw_ok rfl rfl rfl rfl) ?_
        refine AO.pure T rfl rfl rfl ?_
        refine AO.nil ?_
        obtain ⟨x23, hx24, hH⟩ := bindE hH
        obtain ⟨x25, hx26, hH⟩ := bindE hH
        refine AW.le (Le.openM 1 v19.toNat 1 4 rfl (getI_get (hx24)) rfl rfl) ?_
        refine AW.region ?_
        refine AO.pure T rfl rfl rfl ?_
        refine AO.pure T rfl rfl rfl ?_
        refine AO.val rfl rfl (ix_lent_ok T rfl rfl rfl rfl rfl rfl (hx24)) ?_
        refine AO.pure T rfl rfl rfl ?_
        refine AO.val rfl rfl (load_lent_ok T rfl rfl rfl rfl rfl) ?_
        refine AO.pure T rfl rfl rfl ?_
        refine AO.step rfl (callM_ok rfl 5 rfl rfl (es := [.w 1 (x23.scores.map encInt), .v (.int .i64 (w64 (v18 + 1)))]) (outs := [.w 1 (x25.1.map encInt), .u]) (ids := [4]) (by exact expLG_cons (.c (.rowR rfl)) (expLG_cons (.c .v) (expLG_nil))) (by decide) (.inl (by rfl)) (by rfl) (laws_markIntS_ok fuel _ _ _ (hx26)) rfl (by rfl) rfl) ?_
        refine AO.pure T rfl rfl rfl ?_
        refine AO.le (Le.closeM 1 v19.toNat 1 4 rfl rfl (getI_get (hx24)) rfl (u' := (Result.mk x23.skater x25.1)) rfl) ?_
        refine AO.nil ?_
        refine AW.region ?_
        refine AO.pure T rfl rfl rfl ?_
        refine AO.val rfl rfl (arw_ok rfl rfl rfl rfl) ?_
        refine AO.pure T rfl rfl rfl ?_
        refine AO.nil ?_
        refine ⟨(k1, ((v17.set v19.toNat (Result.mk v18 x21.scores)).set v19.toNat (Result.mk x23.skater x25.1)), x25.2, w64 (v19 + 1)), hH, Nat.lt_succ_self _, ?_⟩
        exact Le.cut 0 0 rfl (by repeat' (first | exact trivial | refine ⟨⟨_, rfl, rfl⟩, ?_⟩)) (by repeat' (first | exact trivial | refine ⟨⟨_, rfl, rfl⟩, ?_⟩)) rfl ⟨⟨rfl, rfl⟩, trivial⟩
      · replace hH := condF hc hH
        refine AW.exit ?_
        refine AW.seq ?_
        refine AW.region ?_
        refine AO.pure T rfl rfl rfl ?_
        refine AO.pure T rfl rfl rfl ?_
        refine AO.nil ?_
        refine AW.ret ?_
        cases someE hH
        exact ⟨trivial, rfl, _, [], [1], rfl, expLG_cons (.c (.rowR rfl)) (expLG_cons (.c .u) (expLG_nil)), .c (.c .v), by decide⟩

def laws_markEvent_p (fuel : Nat) (a : Event) (k : Int) : Option (Event × Int) :=
  (laws_markEntrantS_p fuel a.entrants k).bind fun x1 =>
  (laws_markIntS_p fuel a.gone x1.2).bind fun x3 =>
  (laws_markIntS_p fuel a.order x3.2).bind fun x5 =>
  (laws_markResultS_p fuel a.results x5.2).bind fun x7 =>
  some ((Event.mk a.segments a.size a.key x1.1 x3.1 a.segment x5.1 x7.1), x7.2)
theorem laws_markEvent_ok (fuel : Nat) (a : Event) (k : Int) (r : (Event × Int)) (hH : laws_markEvent_p fuel a k = some r) : SpecM Tryz.prog 13 [.g (encEventO a), .v (.int .i64 k)] [.g [.u, .u, .u, .w 2 (r.1.entrants.map encEntrant), .w 1 (r.1.gone.map encInt), .u, .w 1 (r.1.order.map encInt), .w 2 (r.1.results.map encResultO)], .u] (.v (.int .i64 r.2)) := by
  refine fn_okM T Tryz.func13 rfl (by decide) rfl rfl ?_
  intro L
  show AW _ _ _ (⟨[(0, .g [.v (.int .i64 a.segments), .v (.int .i64 a.size), .v (.int .i64 a.key), .R 1, .R 2, .v (.int .i64 a.segment), .R 3, .R 4]), (1, .v (.int .i64 k))], [(4, .row 2 (List.map encResultO a.results)), (3, .row 1 (List.map encInt a.order)), (2, .row 1 (List.map encInt a.gone)), (1, .row 2 (List.map encEntrant a.entrants))], 22, [(4, L 4), (3, L 3), (2, L 2), (1, L 1)]⟩ : St)
  refine AW.seq ?_
  refine AW.region ?_
  refine AO.step rfl (box_ok T rfl 5 rfl rfl rfl rfl) ?_
  refine AO.pure T rfl rfl rfl ?_
  refine AO.nil ?_
  refine AW.seq ?_
  obtain ⟨x1, hx2, hH⟩ := bindE hH
  refine AW.region ?_
  refine AO.pure T rfl rfl rfl ?_
  refine AO.pure T rfl rfl rfl ?_
  refine AO.pure T rfl rfl rfl ?_
  refine AO.step rfl (callM_ok rfl 6 rfl rfl (es := [.w 2 (a.entrants.map encEntrant), .v (.int .i64 k)]) (outs := [.w 2 (x1.1.map encEntrant), .u]) (ids := [1]) (by exact expLG_cons (.c (.rowR rfl)) (expLG_cons (.c .v) (expLG_nil))) (by decide) (.inl (by rfl)) (by rfl) (laws_markEntrantS_ok fuel _ _ _ (hx2)) rfl (by rfl) rfl) ?_
  refine AO.pure T rfl rfl rfl ?_
  refine AO.nil ?_
  refine AW.seq ?_
  obtain ⟨x3, hx4, hH⟩ := bindE hH
  refine AW.region ?_
  refine AO.pure T rfl rfl rfl ?_
  refine AO.pure T rfl rfl rfl ?_
  refine AO.pure T rfl rfl rfl ?_
  refine AO.step rfl (callM_ok rfl 6 rfl rfl (es := [.w 1 (a.gone.map encInt), .v (.int .i64 x1.2)]) (outs := [.w 1 (x3.1.map encInt), .u]) (ids := [2]) (by exact expLG_cons (.c (.rowR rfl)) (expLG_cons (.c .v) (expLG_nil))) (by decide) (.inl (by rfl)) (by rfl) (laws_markIntS_ok fuel _ _ _ (hx4)) rfl (by rfl) rfl) ?_
  refine AO.pure T rfl rfl rfl ?_
  refine AO.nil ?_
  refine AW.seq ?_
  obtain ⟨x5, hx6, hH⟩ := bindE hH
  refine AW.region ?_
  refine AO.pure T rfl rfl rfl ?_
  refine AO.pure T rfl rfl rfl ?_
  refine AO.pure T rfl rfl rfl ?_
  refine AO.step rfl (callM_ok rfl 6 rfl rfl (es := [.w 1 (a.order.map encInt), .v (.int .i64 x3.2)]) (outs := [.w 1 (x5.1.map encInt), .u]) (ids := [3]) (by exact expLG_cons (.c (.rowR rfl)) (expLG_cons (.c .v) (expLG_nil))) (by decide) (.inl (by rfl)) (by rfl) (laws_markIntS_ok fuel _ _ _ (hx6)) rfl (by rfl) rfl) ?_
  refine AO.pure T rfl rfl rfl ?_
  refine AO.nil ?_
  refine AW.seq ?_
  obtain ⟨x7, hx8, hH⟩ := bindE hH
  refine AW.region ?_
  refine AO.pure T rfl rfl rfl ?_
  refine AO.pure T rfl rfl rfl ?_
  refine AO.pure T rfl rfl rfl ?_
  refine AO.step rfl (callM_ok rfl 6 rfl rfl (es := [.w 2 (a.results.map encResultO), .v (.int .i64 x5.2)]) (outs := [.w 2 (x7.1.map encResultO), .u]) (ids := [4]) (by exact expLG_cons (.c (.rowR rfl)) (expLG_cons (.c .v) (expLG_nil))) (by decide) (.inl (by rfl)) (by rfl) (laws_markResultS_ok fuel _ _ _ (hx8)) rfl (by rfl) rfl) ?_
  refine AO.pure T rfl rfl rfl ?_
  refine AO.nil ?_
  refine AW.seq ?_
  refine AW.region ?_
  refine AO.pure T rfl rfl rfl ?_
  refine AO.pure T rfl rfl rfl ?_
  refine AO.nil ?_
  refine AW.le (Le.cut 0 0 (σ' := (⟨[(4, .v (.int .i64 x7.2))], [(1, .row 2 (List.map encEntrant x1.1)), (2, .row 1 (List.map encInt x3.1)), (3, .row 1 (List.map encInt x5.1)), (4, .row 2 (List.map encResultO x7.1))], 22, [(4, L 4), (3, L 3), (2, L 2), (1, L 1)]⟩ : St)) rfl (by repeat' (first | exact trivial | refine ⟨⟨_, rfl, rfl⟩, ?_⟩)) (by repeat' (first | exact trivial | refine ⟨⟨_, rfl, rfl⟩, ?_⟩)) rfl ⟨⟨rfl, rfl⟩, ⟨rfl, rfl⟩, ⟨rfl, rfl⟩, ⟨rfl, rfl⟩, trivial⟩) ?_
  refine AW.ret ?_
  cases someE hH
  exact ⟨trivial, rfl, _, [], [1, 2, 3, 4], rfl, expLG_cons (.g (expLC_cons .u (expLC_cons .u (expLC_cons .u (expLC_cons (.rowR rfl) (expLC_cons (.rowR rfl) (expLC_cons .u (expLC_cons (.rowR rfl) (expLC_cons (.rowR rfl) (expLC_nil)))))))))) (expLG_cons (.c .u) (expLG_nil)), .c (.c .v), by decide⟩

def laws_heldIntS_l1 : List Int → Nat → Int → Option Int
  | [], k1, v8 =>
    some v8
  | y2 :: ys3, k1, v8 =>
    cond (y2 != v8)
      (some (-1))
      (laws_heldIntS_l1 ys3 (k1 + 1) (w64 (v8 + 1)))
def laws_heldIntS_p (a : List Int) (k : Int) : Option Int :=
  laws_heldIntS_l1 a 0 k
theorem laws_heldIntS_ok (a : List Int) (k : Int) (r : Int) (hH : laws_heldIntS_p a k = some r) : SpecR Tryz.prog 23 [.s (List.map encInt a), .v (.int .i64 k)] (.v (.int .i64 r)) := by
  refine fn_ok T Tryz.func23 rfl (by decide) rfl ?_
  refine AW.seq ?_
  refine AW.region ?_
  refine AO.pure T rfl rfl rfl ?_
  refine AO.nil ?_
  refine AW.seq ?_
  refine AW.seq ?_
  refine AW.region ?_
  refine AO.pure T rfl rfl rfl ?_
  refine AO.nil ?_
  refine AW.block ?_
  refine AW.loopS (fun s : Nat × Int => (⟨[(0, .s (List.map encInt a)), (1, .v (.int .i64 s.2)), (5, .v (.int .i64 (s.1 : Int)))], [], 21, []⟩ : St)) (fun s => s.1 ≤ a.length ∧ laws_heldIntS_l1 (a.drop s.1) s.1 s.2 = some r) (fun s => a.length - s.1) (0, k) ⟨Nat.zero_le _, hH⟩ ?_ ?_
  · exact Le.cut 0 0 rfl (by repeat' (first | exact trivial | refine ⟨⟨_, rfl, rfl⟩, ?_⟩)) (by repeat' (first | exact trivial | refine ⟨⟨_, rfl, rfl⟩, ?_⟩)) rfl
  · rintro ⟨k1, v8⟩ ⟨hk, hH⟩
    replace hH : laws_heldIntS_l1 (a.drop k1) k1 v8 = some r := hH
    show AW _ _ _ (⟨[(0, .s (List.map encInt a)), (1, .v (.int .i64 v8)), (5, .v (.int .i64 (k1 : Int)))], [], 21, []⟩ : St)
    refine AW.boundM (t := 0) (l := a) rfl (fun hb5 => ?_)
    cases hd4 : a.drop k1 with
    | nil =>
      rw [hd4] at hH
      rw [laws_heldIntS_l1] at hH
      have hlt6 := drop_ge hd4
      refine AW.seq ?_
      refine AW.seq ?_
      refine AW.region ?_
      refine AO.pure T rfl rfl rfl ?_
      refine AO.pure T rfl rfl rfl ?_
      refine AO.val rfl rfl (len_map_ok T rfl rfl rfl) ?_
      refine AO.pure T rfl rfl rfl ?_
      refine AO.nil ?_
      refine AW.condF' (b := decide ((k1 : Int) < (a.length : Int))) rfl (rngF hlt6) ?_
      refine AW.exit ?_
      refine AW.seq ?_
      refine AW.region ?_
      refine AO.pure T rfl rfl rfl ?_
      refine AO.pure T rfl rfl rfl ?_
      refine AO.nil ?_
      refine AW.ret ?_
      cases someE hH
      exact ⟨trivial, _, [], rfl, .c (.c .v), by decide⟩
    | cons y2 ys3 =>
      rw [hd4] at hH
      rw [laws_heldIntS_l1] at hH
      have hlt6 := drop_lt hd4
      refine AW.seq ?_
      refine AW.seq ?_
      refine AW.region ?_
      refine AO.pure T rfl rfl rfl ?_
      refine AO.pure T rfl rfl rfl ?_
      refine AO.val rfl rfl (len_map_ok T rfl rfl rfl) ?_
      refine AO.pure T rfl rfl rfl ?_
      refine AO.nil ?_
      refine AW.condT' (b := decide ((k1 : Int) < (a.length : Int))) rfl (rngT hlt6) ?_
      refine AW.skip ?_
      refine AW.seq ?_
      refine AW.block ?_
      refine AW.seq ?_
      refine AW.seq ?_
      refine AW.region ?_
      refine AO.pure T rfl rfl rfl ?_
      refine AO.pure T rfl rfl rfl ?_
      refine AO.val rfl rfl (ix_map_ok T rfl rfl rfl rfl rfl (getI_drop hd4) rfl) ?_
      refine AO.pure T rfl rfl rfl ?_
      refine AO.pure T rfl rfl rfl ?_
      refine AO.pure T rfl rfl rfl ?_
      refine AO.nil ?_
      refine AW.cond (b := (y2 != v8)) rfl (fun hc => ?_) (fun hc => ?_)
      · replace hH := condT hc hH
        refine AW.seq ?_
        refine AW.region ?_
        refine AO.pure T rfl rfl rfl ?_
        refine AO.nil ?_
        refine AW.ret ?_
        cases someE hH
        exact ⟨trivial, _, [], rfl, .c (.c .v), by decide⟩
      · replace hH := condF hc hH
        refine AW.skip ?_
        refine AW.region ?_
        refine AO.pure T rfl rfl rfl ?_
        refine AO.val rfl rfl (arw_ok rfl rfl rfl rfl) ?_
        refine AO.pure T rfl rfl rfl ?_
        refine AO.nil ?_
        refine AW.region ?_
        refine AO.pure T rfl rfl rfl ?_
        refine AO.val rfl rfl (ar_ok rfl rfl rfl rfl (inI_succ hlt6 hb5)) ?_
        refine AO.pure T rfl rfl rfl ?_
        refine AO.nil ?_
        refine ⟨(k1 + 1, w64 (v8 + 1)), ⟨Nat.succ_le_of_lt hlt6, (by rw [drop_succ_of hd4]; exact hH)⟩, (by have := hlt6; dsimp only; omega), ?_⟩
        exact Le.cut 0 0 rfl (by repeat' (first | exact trivial | refine ⟨⟨_, rfl, rfl⟩, ?_⟩)) (by repeat' (first | exact trivial | refine ⟨⟨_, rfl, rfl⟩, ?_⟩)) rfl

def laws_FnExactStandingsOf_p (fuel : Nat) (aE : Event) : Option Bool :=
  (laws_szEvent_p aE 1048576).bind fun x1 =>
  cond (decide (x1 < 0))
    (some true)
    ((laws_toEvent_p aE).bind fun x3 =>
    (spec_StandingsOf_p fuel x3).bind fun x5 =>
    (impl_StandingsOf_p fuel x3).bind fun x7 =>
    (laws_eqIntS_p x7.1 x5.1).bind fun x9 =>
    (opt (!(!x9)) default (laws_eqIntS_p x7.2.1 x5.2.1)).bind fun x11 =>
    cond (((!x9) || (!x11)) || (!(x7.2.2 == x5.2.2)))
      (some false)
      ((laws_eqEvent_p x3 x3).bind fun x13 =>
      cond (!x13)
        (some false)
        ((laws_markEvent_p fuel x3 1).bind fun x15 =>
        (opt (!(decide (x15.2 < 0) || (!x9))) default (laws_eqIntS_p x7.2.1 x5.2.1)).bind fun x17 =>
        cond (((decide (x15.2 < 0) || (!x9)) || (!x17)) || (!(x7.2.2 == x5.2.2)))
          (some false)
          ((laws_markIntS_p fuel x7.1 1).bind fun x19 =>
          (laws_markIntS_p fuel x7.2.1 x19.2).bind fun x21 =>
          (laws_heldIntS_p x19.1 1).bind fun x23 =>
          cond (decide (x23 < 0))
            (some false)
            ((laws_heldIntS_p x21.1 x23).bind fun x25 =>
            cond (decide (x25 < 0))
              (some false)
              (cond (x25 != x21.2)
                (some false)
                (cond (((!x9) || (!x11)) || (!(x7.2.2 == x5.2.2)))
                  (some false)
                  (cond (decide (x23 < 0))
                    (some false)
                    (cond (decide (x25 < 0))
                      (some false)
                      (cond (x25 != x21.2)
                        (some false)
                        (some true)))))))))))
theorem laws_FnExactStandingsOf_ok (fuel : Nat) (aE : Event) (r : Bool) (hH : laws_FnExactStandingsOf_p fuel aE = some r) : SpecR Tryz.prog 6 [.g (encEvent aE)] (.v (.bool r)) := by
  refine fn_ok T Tryz.func6 rfl (by decide) rfl ?_
  refine AW.seq ?_
  refine AW.region ?_
  refine AO.step rfl (box_ok T rfl 1 rfl rfl rfl rfl) ?_
  refine AO.pure T rfl rfl rfl ?_
  refine AO.nil ?_
  refine AW.seq ?_
  refine AW.region ?_
  refine AO.pure T rfl rfl rfl ?_
  refine AO.nil ?_
  refine AW.seq ?_
  obtain ⟨x1, hx2, hH⟩ := bindE hH
  refine AW.region ?_
  refine AO.pure T (d := .g [.v (.int .i64 aE.segments), .v (.int .i64 aE.size), .v (.int .i64 aE.key), .s (List.map encEntrant aE.entrants), .s (List.map encInt aE.gone), .v (.int .i64 aE.segment), .s (List.map encInt aE.order), .s (List.map encResult aE.results)]) rfl rfl rfl ?_
  refine AO.pure T rfl rfl rfl ?_
  refine AO.val rfl rfl (callV_ok rfl rfl rfl rfl (laws_szEvent_ok _ _ _ (hx2)) rfl) ?_
  refine AO.pure T rfl rfl rfl ?_
  refine AO.nil ?_
  refine AW.seq ?_
  refine AW.seq ?_
  refine AW.region ?_
  refine AO.pure T rfl rfl rfl ?_
  refine AO.pure T rfl rfl rfl ?_
  refine AO.nil ?_
  refine AW.cond (b := decide (x1 < 0)) rfl (fun hc => ?_) (fun hc => ?_)
  · replace hH := condT hc hH
    refine AW.seq ?_
    refine AW.region ?_
    refine AO.pure T rfl rfl rfl ?_
    refine AO.nil ?_
    refine AW.ret ?_
    cases someE hH
    exact ⟨trivial, _, [], rfl, .c (.c .v), by decide⟩
  · replace hH := condF hc hH
    refine AW.skip ?_
    refine AW.seq ?_
    obtain ⟨x3, hx4, hH⟩ := bindE hH
    obtain ⟨x5, hx6, hH⟩ := bindE hH
    refine AW.region ?_
    refine AO.pure T (d := .g [.v (.int .i64 aE.segments), .v (.int .i64 aE.size), .v (.int .i64 aE.key), .s (List.map encEntrant aE.entrants), .s (List.map encInt aE.gone), .v (.int .i64 aE.segment), .s (List.map encInt aE.order), .s (List.map encResult aE.results)]) rfl rfl rfl ?_
    refine AO.step rfl (call_ok rfl 2 rfl rfl rfl (laws_toEvent_ok _ _ (hx4)) rfl rfl rfl) ?_
    refine AO.step rfl (callL_ok rfl 6 rfl rfl (es := [.g (encEvent x3)]) (by exact ⟨lend_g (LendL.cons (.free rfl) (LendL.cons (.free rfl) (LendL.cons (.free rfl) (LendL.cons ((.rowR rfl (.map fun y => .vs rfl))) (LendL.cons ((.rowR rfl (.map fun y => .vs rfl))) (LendL.cons (.free rfl) (LendL.cons ((.rowR rfl (.map fun y => .vs rfl))) (LendL.cons ((.rowR rfl (.map fun y => frzResult y))) LendL.nil)))))))), trivial⟩) (spec_StandingsOf_ok fuel _ _ (hx6)) (zfree_t (zfl (.cons (zfree_map (fun y => (.cons (zfree_v _) .nil))) (.cons (zfree_map (fun y => (.cons (zfree_v _) .nil))) (.cons (zfree_v _) .nil))))) rfl rfl rfl) ?_
    refine AO.pure T rfl rfl rfl ?_
    refine AO.pure T rfl rfl rfl ?_
    refine AO.pure T rfl rfl rfl ?_
    refine AO.pure T rfl rfl rfl ?_
    refine AO.pure T rfl rfl rfl ?_
    refine AO.pure T rfl rfl rfl ?_
    refine AO.pure T rfl rfl rfl ?_
    refine AO.nil ?_
    refine AW.seq ?_
    refine AW.region ?_
    refine AO.pure T (d := .g [.v (.int .i64 aE.segments), .v (.int .i64 aE.size), .v (.int .i64 aE.key), .s (List.map encEntrant aE.entrants), .s (List.map encInt aE.gone), .v (.int .i64 aE.segment), .s (List.map encInt aE.order), .s (List.map encResult aE.results)]) rfl rfl rfl ?_
    refine AO.step rfl (call_ok rfl 8 rfl rfl rfl (laws_toEvent_ok _ _ (hx4)) rfl rfl rfl) ?_
    refine AO.step rfl (alloc_ok T rfl 12 rfl rfl rfl rfl rfl) ?_
    refine AO.step rfl (store_okE T rfl rfl rfl rfl rfl rfl rfl rfl rfl (ds' := [.v (.int .i64 x3.segments), .v (.int .i64 x3.size), .v (.int .i64 x3.key), .R 8, .R 9, .v (.int .i64 x3.segment), .R 10, .R 11]) rfl) ?_
    refine AO.nil ?_
    refine AW.seq ?_
    obtain ⟨x7, hx8, hH⟩ := bindE hH
    refine AW.region ?_
    refine AO.pure T (d := .g [.v (.int .i64 x3.segments), .v (.int .i64 x3.size), .v (.int .i64 x3.key), .R 8, .R 9, .v (.int .i64 x3.segment), .R 10, .R 11]) rfl rfl rfl ?_
    refine AO.step rfl (callL_ok rfl 13 rfl rfl (es := [.g (encEvent x3)]) (by exact ⟨lend_g (LendL.cons (.free rfl) (LendL.cons (.free rfl) (LendL.cons (.free rfl) (LendL.cons ((.rowR rfl (.map fun y => .vs rfl))) (LendL.cons ((.rowR rfl (.map fun y => .vs rfl))) (LendL.cons (.free rfl) (LendL.cons ((.rowR rfl (.map fun y => .vs rfl))) (LendL.cons ((.rowR rfl (.map fun y => frzResult y))) LendL.nil)))))))), trivial⟩) (impl_StandingsOf_ok fuel _ _ (hx8)) (zfree_t (zfl (.cons (zfree_map (fun y => (.cons (zfree_v _) .nil))) (.cons (zfree_map (fun y => (.cons (zfree_v _) .nil))) (.cons (zfree_v _) .nil))))) rfl rfl rfl) ?_
    refine AO.pure T rfl rfl rfl ?_
    refine AO.pure T rfl rfl rfl ?_
    refine AO.pure T rfl rfl rfl ?_
    refine AO.pure T rfl rfl rfl ?_
    refine AO.pure T rfl rfl rfl ?_
    refine AO.pure T rfl rfl rfl ?_
    refine AO.pure T rfl rfl rfl ?_
    refine AO.nil ?_
    refine AW.le (Le.cut 0 0 (σ' := (⟨[(1, .p 1 0), (4, .R 6), (5, .R 7), (6, .v (.bool x5.2.2)), (7, .p 12 0), (8, .R 13), (9, .R 14), (10, .v (.bool x7.2.2))], [(1, .box [.v (.int .i64 aE.segments), .v (.int .i64 aE.size), .v (.int .i64 aE.key), .s (List.map encEntrant aE.entrants), .s (List.map encInt aE.gone), .v (.int .i64 aE.segment), .s (List.map encInt aE.order), .s (List.map encResult aE.results)]), (6, .row 1 (List.map encInt x5.1)), (7, .row 1 (List.map encInt x5.2.1)), (8, .row 2 (List.map encEntrant x3.entrants)), (9, .row 1 (List.map encInt x3.gone)), (10, .row 1 (List.map encInt x3.order)), (11, .row 2 (List.map encResultO x3.results)), (12, .box [.v (.int .i64 x3.segments), .v (.int .i64 x3.size), .v (.int .i64 x3.key), .R 8, .R 9, .v (.int .i64 x3.segment), .R 10, .R 11]), (13, .row 1 (List.map encInt x7.1)), (14, .row 1 (List.map encInt x7.2.1))], 133, []⟩ : St)) rfl (by repeat' (first | exact trivial | refine ⟨⟨_, rfl, rfl⟩, ?_⟩)) (by repeat' (first | exact trivial | refine ⟨⟨_, rfl, rfl⟩, ?_⟩)) rfl) ?_
    refine AW.seq ?_
    refine AW.seq ?_
    obtain ⟨x9, hx10, hH⟩ := bindE hH
    obtain ⟨x11, hx12, hH⟩ := bindE hH
    refine AW.region ?_
    refine AO.pure T rfl rfl rfl ?_
    refine AO.pure T rfl rfl rfl ?_
    refine AO.val rfl rfl (callLV_ok rfl rfl rfl (es := [.s (List.map encInt x7.1), .s (List.map encInt x5.1)]) ⟨(.rowR rfl (.map fun y => .vs rfl)), (.rowR rfl (.map fun y => .vs rfl)), trivial⟩ (laws_eqIntS_ok _ _ _ (hx10)) (zfree_v _) rfl) ?_
    refine AO.pure T rfl rfl rfl ?_
    refine AO.pure T rfl rfl rfl ?_
    refine AO.pureG T [] rfl trivial rfl rfl ?_
    refine AO.pureG T [] rfl trivial rfl rfl ?_
    refine AO.guard [42, 43] rfl ⟨fun h => h, fun h => h, trivial⟩ (fun hg => callLV_ok rfl rfl rfl (es := [.s (List.map encInt x7.2.1), .s (List.map encInt x5.2.1)]) ⟨(.rowR rfl (.map fun y => .vs rfl)), (.rowR rfl (.map fun y => .vs rfl)), trivial⟩ (laws_eqIntS_ok _ _ _ (optT hx12 hg)) (zfree_v _) rfl) rfl ?_
    refine AO.pureG T [44] rfl ⟨fun h => h, trivial⟩ rfl rfl ?_
    refine AO.val rfl rfl (pick_or rfl rfl rfl rfl) ?_
    refine AO.pure T rfl rfl rfl ?_
    refine AO.pureG T [] rfl trivial rfl rfl ?_
    refine AO.pureG T [] rfl trivial rfl rfl ?_
    refine AO.pureG T [48, 49] rfl ⟨fun h => h, fun h => h, trivial⟩ rfl rfl ?_
    refine AO.val rfl rfl (pick_or rfl rfl rfl rfl) ?_
    refine AO.nil ?_
    refine AW.cond (b := (((!x9) || (!x11)) || (!(x7.2.2 == x5.2.2)))) rfl (fun hc => ?_) (fun hc => ?_)
    · replace hH := condT hc hH
      refine AW.seq ?_
      refine AW.region ?_
      refine AO.pure T rfl rfl rfl ?_
      refine AO.nil ?_
      refine AW.ret ?_
      cases someE hH
      exact ⟨trivial, _, [], rfl, .c (.c .v), by decide⟩
    · replace hH := condF hc hH
      refine AW.skip ?_
      refine AW.seq ?_
      refine AW.seq ?_
      obtain ⟨x13, hx14, hH⟩ := bindE hH
      refine AW.drawn 3 15 [] mix (by kernel_rfl) rfl ?_
      refine AD.pure T (d := .g [.v (.int .i64 x3.segments), .v (.int .i64 x3.size), .v (.int .i64 x3.key), .R 8, .R 9, .v (.int .i64 x3.segment), .R 10, .R 11]) rfl rfl rfl ?_
      refine AD.pure T (d := .g [.v (.int .i64 aE.segments), .v (.int .i64 aE.size), .v (.int .i64 aE.key), .s (List.map encEntrant aE.entrants), .s (List.map encInt aE.gone), .v (.int .i64 aE.segment), .s (List.map encInt aE.order), .s (List.map encResult aE.results)]) rfl rfl rfl ?_
      refine AD.q (FStep.call rfl rfl rfl rfl rfl (laws_toEvent_ok _ _ (hx4)) rfl rfl) (impT_names _ _) (impT_le _ _) rfl ?_
      refine AD.nil ?_
      refine AO.val rfl rfl (callLV_ok rfl rfl rfl (es := [.g (encEvent x3), .g (encEvent x3)]) ⟨lend_g (LendL.cons (.free rfl) (LendL.cons (.free rfl) (LendL.cons (.free rfl) (LendL.cons ((.rowR rfl (.map fun y => .vs rfl))) (LendL.cons ((.rowR rfl (.map fun y => .vs rfl))) (LendL.cons (.free rfl) (LendL.cons ((.rowR rfl (.map fun y => .vs rfl))) (LendL.cons ((.rowR rfl (.map fun y => frzResult y))) LendL.nil)))))))), lend_g (LendL.cons (.free rfl) (LendL.cons (.free rfl) (LendL.cons (.free rfl) (LendL.cons ((.rowR rfl (.map fun y => .vs rfl))) (LendL.cons ((.rowR rfl (.map fun y => .vs rfl))) (LendL.cons (.free rfl) (LendL.cons ((.rowR rfl (.map fun y => .vs rfl))) (LendL.cons ((.rowR rfl (.map fun y => frzResult y))) LendL.nil)))))))), trivial⟩ (laws_eqEvent_ok _ _ _ (hx14)) (zfree_v _) rfl) ?_
      refine AO.pure T rfl rfl rfl ?_
      refine AO.nil ?_
      refine AW.cond (b := (!x13)) rfl (fun hc => ?_) (fun hc => ?_)
      · replace hH := condT hc hH
        refine AW.seq ?_
        refine AW.region ?_
        refine AO.pure T rfl rfl rfl ?_
        refine AO.nil ?_
        refine AW.ret ?_
        cases someE hH
        exact ⟨trivial, _, [], rfl, .c (.c .v), by decide⟩
      · replace hH := condF hc hH
        refine AW.skip ?_
        refine AW.seq ?_
        refine AW.region ?_
        refine AO.pure T rfl rfl rfl ?_
        refine AO.nil ?_
        refine AW.seq ?_
        obtain ⟨x15, hx16, hH⟩ := bindE hH
        refine AW.region ?_
        refine AO.pure T (d := .g [.v (.int .i64 x3.segments), .v (.int .i64 x3.size), .v (.int .i64 x3.key), .R 8, .R 9, .v (.int .i64 x3.segment), .R 10, .R 11]) rfl rfl rfl ?_
        refine AO.pure T rfl rfl rfl ?_
        refine AO.step rfl (callM_ok rfl 19 rfl rfl (es := [.g (encEventO x3), .v (.int .i64 1)]) (outs := [.g [.u, .u, .u, .w 2 (x15.1.entrants.map encEntrant), .w 1 (x15.1.gone.map encInt), .u, .w 1 (x15.1.order.map encInt), .w 2 (x15.1.results.map encResultO)], .u]) (ids := [8, 9, 10, 11]) (by exact expLG_cons (.g (expLC_cons .v (expLC_cons .v (expLC_cons .v (expLC_cons (.rowR rfl) (expLC_cons (.rowR rfl) (expLC_cons .v (expLC_cons (.rowR rfl) (expLC_cons (.rowR rfl) (expLC_nil)))))))))) (expLG_cons (.c .v) (expLG_nil))) (by decide) (.inl (by rfl)) (by rfl) (laws_markEvent_ok fuel _ _ _ (hx16)) rfl (by rfl) rfl) ?_
        refine AO.pure T rfl rfl rfl ?_
        refine AO.nil ?_
        refine AW.le (Le.cut 0 0 (σ' := (⟨[(1, .p 1 0), (4, .R 6), (5, .R 7), (6, .v (.bool x5.2.2)), (8, .R 13), (9, .R 14), (10, .v (.bool x7.2.2)), (11, .v (.int .i64 x15.2))], [(1, .box [.v (.int .i64 aE.segments), .v (.int .i64 aE.size), .v (.int .i64 aE.key), .s (List.map encEntrant aE.entrants), .s (List.map encInt aE.gone), .v (.int .i64 aE.segment), .s (List.map encInt aE.order), .s (List.map encResult aE.results)]), (6, .row 1 (List.map encInt x5.1)), (7, .row 1 (List.map encInt x5.2.1)), (13, .row 1 (List.map encInt x7.1)), (14, .row 1 (List.map encInt x7.2.1))], 133, []⟩ : St)) rfl (by repeat' (first | exact trivial | refine ⟨⟨_, rfl, rfl⟩, ?_⟩)) (by repeat' (first | exact trivial | refine ⟨⟨_, rfl, rfl⟩, ?_⟩)) rfl) ?_
        refine AW.seq ?_
        refine AW.seq ?_
        obtain ⟨x17, hx18, hH⟩ := bindE hH
        refine AW.region ?_
        refine AO.pure T rfl rfl rfl ?_
        refine AO.pure T rfl rfl rfl ?_
        refine AO.pure T rfl rfl rfl ?_
        refine AO.pureG T [] rfl trivial rfl rfl ?_
        refine AO.pureG T [] rfl trivial rfl rfl ?_
        refine AO.guard [63, 64] rfl ⟨fun h => h, fun h => h, trivial⟩ (fun hg => callLV_ok rfl rfl rfl (es := [.s (List.map encInt x7.1), .s (List.map encInt x5.1)]) ⟨(.rowR rfl (.map fun y => .vs rfl)), (.rowR rfl (.map fun y => .vs rfl)), trivial⟩ (laws_eqIntS_ok _ _ _ (hx10)) (zfree_v _) rfl) rfl ?_
        refine AO.pureG T [65] rfl ⟨fun h => h, trivial⟩ rfl rfl ?_
        refine AO.val rfl rfl (pick_or rfl rfl rfl rfl) ?_
        refine AO.pure T rfl rfl rfl ?_
        refine AO.pureG T [] rfl trivial rfl rfl ?_
        refine AO.pureG T [] rfl trivial rfl rfl ?_
        refine AO.guard [69, 70] rfl ⟨fun h => h, fun h => h, trivial⟩ (fun hg => callLV_ok rfl rfl rfl (es := [.s (List.map encInt x7.2.1), .s (List.map encInt x5.2.1)]) ⟨(.rowR rfl (.map fun y => .vs rfl)), (.rowR rfl (.map fun y => .vs rfl)), trivial⟩ (laws_eqIntS_ok _ _ _ (optT hx18 hg)) (zfree_v _) rfl) rfl ?_
        refine AO.pureG T [71] rfl ⟨fun h => h, trivial⟩ rfl rfl ?_
        refine AO.val rfl rfl (pick_or rfl rfl rfl rfl) ?_
        refine AO.pure T rfl rfl rfl ?_
        refine AO.pureG T [] rfl trivial rfl rfl ?_
        refine AO.pureG T [] rfl trivial rfl rfl ?_
        refine AO.pureG T [75, 76] rfl ⟨fun h => h, fun h => h, trivial⟩ rfl rfl ?_
        refine AO.val rfl rfl (pick_or rfl rfl rfl rfl) ?_
        refine AO.nil ?_
        refine AW.cond (b := (((decide (x15.2 < 0) || (!x9)) || (!x17)) || (!(x7.2.2 == x5.2.2)))) rfl (fun hc => ?_) (fun hc => ?_)
        · replace hH := condT hc hH
          refine AW.seq ?_
          refine AW.region ?_
          refine AO.pure T rfl rfl rfl ?_
          refine AO.nil ?_
          refine AW.ret ?_
          cases someE hH
          exact ⟨trivial, _, [], rfl, .c (.c .v), by decide⟩
        · replace hH := condF hc hH
          refine AW.skip ?_
          refine AW.seq ?_
          refine AW.region ?_
          refine AO.pure T rfl rfl rfl ?_
          refine AO.nil ?_
          refine AW.seq ?_
          obtain ⟨x19, hx20, hH⟩ := bindE hH
          refine AW.region ?_
          refine AO.pure T rfl rfl rfl ?_
          refine AO.pure T rfl rfl rfl ?_
          refine AO.step rfl (callM_ok rfl 19 rfl rfl (es := [.w 1 (x7.1.map encInt), .v (.int .i64 1)]) (outs := [.w 1 (x19.1.map encInt), .u]) (ids := [13]) (by exact expLG_cons (.c (.rowR rfl)) (expLG_cons (.c .v) (expLG_nil))) (by decide) (.inl (by rfl)) (by rfl) (laws_markIntS_ok fuel _ _ _ (hx20)) rfl (by rfl) rfl) ?_
          refine AO.pure T rfl rfl rfl ?_
          refine AO.nil ?_
          refine AW.le (Le.cut 0 0 (σ' := (⟨[(1, .p 1 0), (4, .R 6), (5, .R 7), (6, .v (.bool x5.2.2)), (8, .R 13), (9, .R 14), (12, .v (.int .i64 x19.2))], [(1, .box [.v (.int .i64 aE.segments), .v (.int .i64 aE.size), .v (.int .i64 aE.key), .s (List.map encEntrant aE.entrants), .s (List.map encInt aE.gone), .v (.int .i64 aE.segment), .s (List.map encInt aE.order), .s (List.map encResult aE.results)]), (6, .row 1 (List.map encInt x5.1)), (7, .row 1 (List.map encInt x5.2.1)), (13, .row 1 (List.map encInt x19.1)), (14, .row 1 (List.map encInt x7.2.1))], 133, []⟩ : St)) rfl (by repeat' (first | exact trivial | refine ⟨⟨_, rfl, rfl⟩, ?_⟩)) (by repeat' (first | exact trivial | refine ⟨⟨_, rfl, rfl⟩, ?_⟩)) rfl) ?_
          refine AW.seq ?_
          obtain ⟨x21, hx22, hH⟩ := bindE hH
          refine AW.region ?_
          refine AO.pure T rfl rfl rfl ?_
          refine AO.pure T rfl rfl rfl ?_
          refine AO.step rfl (callM_ok rfl 19 rfl rfl (es := [.w 1 (x7.2.1.map encInt), .v (.int .i64 x19.2)]) (outs := [.w 1 (x21.1.map encInt), .u]) (ids := [14]) (by exact expLG_cons (.c (.rowR rfl)) (expLG_cons (.c .v) (expLG_nil))) (by decide) (.inl (by rfl)) (by rfl) (laws_markIntS_ok fuel _ _ _ (hx22)) rfl (by rfl) rfl) ?_
          refine AO.pure T rfl rfl rfl ?_
          refine AO.nil ?_
          refine AW.seq ?_
          refine AW.region ?_
          refine AO.pure T rfl rfl rfl ?_
          refine AO.nil ?_
          refine AW.seq ?_
          obtain ⟨x23, hx24, hH⟩ := bindE hH
          refine AW.region ?_
          refine AO.pure T rfl rfl rfl ?_
          refine AO.pure T rfl rfl rfl ?_
          refine AO.val rfl rfl (callLV_ok rfl rfl rfl (es := [.s (List.map encInt x19.1), .v (.int .i64 1)]) ⟨(.rowR rfl (.map fun y => .vs rfl)), .free rfl, trivial⟩ (laws_heldIntS_ok _ _ _ (hx24)) (zfree_v _) rfl) ?_
          refine AO.pure T rfl rfl rfl ?_
          refine AO.nil ?_
          refine AW.seq ?_
          refine AW.seq ?_
          refine AW.region ?_
          refine AO.pure T rfl rfl rfl ?_
          refine AO.pure T rfl rfl rfl ?_
          refine AO.nil ?_
          refine AW.cond (b := decide (x23 < 0)) rfl (fun hc => ?_) (fun hc => ?_)
          · replace hH := condT hc hH
            refine AW.seq ?_
            refine AW.region ?_
            refine AO.pure T rfl rfl rfl ?_
            refine AO.nil ?_
            refine AW.ret ?_
            cases someE hH
            exact ⟨trivial, _, [], rfl, .c (.c .v), by decide⟩
          · replace hH := condF hc hH
            refine AW.skip ?_
            refine AW.seq ?_
            obtain ⟨x25, hx26, hH⟩ := bindE hH
            refine AW.region ?_
            refine AO.pure T rfl rfl rfl ?_
            refine AO.pure T rfl rfl rfl ?_
            refine AO.val rfl rfl (callLV_ok rfl rfl rfl (es := [.s (List.map encInt x21.1), .v (.int .i64 x23)]) ⟨(.rowR rfl (.map fun y => .vs rfl)), .free rfl, trivial⟩ (laws_heldIntS_ok _ _ _ (hx26)) (zfree_v _) rfl) ?_
            refine AO.pure T rfl rfl rfl ?_
            refine AO.nil ?_
            refine AW.seq ?_
            refine AW.seq ?_
            refine AW.region ?_
            refine AO.pure T rfl rfl rfl ?_
            refine AO.pure T rfl rfl rfl ?_
            refine AO.nil ?_
            refine AW.cond (b := decide (x25 < 0)) rfl (fun hc => ?_) (fun hc => ?_)
            · replace hH := condT hc hH
              refine AW.seq ?_
              refine AW.region ?_
              refine AO.pure T rfl rfl rfl ?_
              refine AO.nil ?_
              refine AW.ret ?_
              cases someE hH
              exact ⟨trivial, _, [], rfl, .c (.c .v), by decide⟩
            · replace hH := condF hc hH
              refine AW.skip ?_
              refine AW.seq ?_
              refine AW.seq ?_
              refine AW.region ?_
              refine AO.pure T rfl rfl rfl ?_
              refine AO.pure T rfl rfl rfl ?_
              refine AO.pure T rfl rfl rfl ?_
              refine AO.nil ?_
              refine AW.cond (b := (x25 != x21.2)) rfl (fun hc => ?_) (fun hc => ?_)
              · replace hH := condT hc hH
                refine AW.seq ?_
                refine AW.region ?_
                refine AO.pure T rfl rfl rfl ?_
                refine AO.nil ?_
                refine AW.ret ?_
                cases someE hH
                exact ⟨trivial, _, [], rfl, .c (.c .v), by decide⟩
              · replace hH := condF hc hH
                refine AW.skip ?_
                refine AW.seq ?_
                refine AW.region ?_
                refine AO.pure T (d := .g [.v (.int .i64 aE.segments), .v (.int .i64 aE.size), .v (.int .i64 aE.key), .s (List.map encEntrant aE.entrants), .s (List.map encInt aE.gone), .v (.int .i64 aE.segment), .s (List.map encInt aE.order), .s (List.map encResult aE.results)]) rfl rfl rfl ?_
                refine AO.step rfl (call_ok rfl 19 rfl rfl rfl (laws_toEvent_ok _ _ (hx4)) rfl rfl rfl) ?_
                refine AO.step rfl (callL_ok rfl 23 rfl rfl (es := [.g (encEvent x3)]) (by exact ⟨lend_g (LendL.cons (.free rfl) (LendL.cons (.free rfl) (LendL.cons (.free rfl) (LendL.cons ((.rowR rfl (.map fun y => .vs rfl))) (LendL.cons ((.rowR rfl (.map fun y => .vs rfl))) (LendL.cons (.free rfl) (LendL.cons ((.rowR rfl (.map fun y => .vs rfl))) (LendL.cons ((.rowR rfl (.map fun y => frzResult y))) LendL.nil)))))))), trivial⟩) (impl_StandingsOf_ok fuel _ _ (hx8)) (zfree_t (zfl (.cons (zfree_map (fun y => (.cons (zfree_v _) .nil))) (.cons (zfree_map (fun y => (.cons (zfree_v _) .nil))) (.cons (zfree_v _) .nil))))) rfl rfl rfl) ?_
                refine AO.pure T rfl rfl rfl ?_
                refine AO.pure T rfl rfl rfl ?_
                refine AO.pure T rfl rfl rfl ?_
                refine AO.pure T rfl rfl rfl ?_
                refine AO.pure T rfl rfl rfl ?_
                refine AO.pure T rfl rfl rfl ?_
                refine AO.pure T rfl rfl rfl ?_
                refine AO.nil ?_
                refine AW.le (Le.cut 0 0 (σ' := (⟨[(4, .R 6), (5, .R 7), (6, .v (.bool x5.2.2)), (8, .R 13), (9, .R 14), (12, .v (.int .i64 x21.2)), (14, .R 23), (15, .R 24), (16, .v (.bool x7.2.2))], [(6, .row 1 (List.map encInt x5.1)), (7, .row 1 (List.map encInt x5.2.1)), (13, .row 1 (List.map encInt x19.1)), (14, .row 1 (List.map encInt x21.1)), (23, .row 1 (List.map encInt x7.1)), (24, .row 1 (List.map encInt x7.2.1))], 133, []⟩ : St)) rfl (by repeat' (first | exact trivial | refine ⟨⟨_, rfl, rfl⟩, ?_⟩)) (by repeat' (first | exact trivial | refine ⟨⟨_, rfl, rfl⟩, ?_⟩)) rfl) ?_
                refine AW.seq ?_
                refine AW.seq ?_
                refine AW.region ?_
                refine AO.pure T rfl rfl rfl ?_
                refine AO.pure T rfl rfl rfl ?_
                refine AO.val rfl rfl (callLV_ok rfl rfl rfl (es := [.s (List.map encInt x7.1), .s (List.map encInt x5.1)]) ⟨(.rowR rfl (.map fun y => .vs rfl)), (.rowR rfl (.map fun y => .vs rfl)), trivial⟩ (laws_eqIntS_ok _ _ _ (hx10)) (zfree_v _) rfl) ?_
                refine AO.pure T rfl rfl rfl ?_
                refine AO.pure T rfl rfl rfl ?_
                refine AO.pureG T [] rfl trivial rfl rfl ?_
                refine AO.pureG T [] rfl trivial rfl rfl ?_
                refine AO.guard [110, 111] rfl ⟨fun h => h, fun h => h, trivial⟩ (fun hg => callLV_ok rfl rfl rfl (es := [.s (List.map encInt x7.2.1), .s (List.map encInt x5.2.1)]) ⟨(.rowR rfl (.map fun y => .vs rfl)), (.rowR rfl (.map fun y => .vs rfl)), trivial⟩ (laws_eqIntS_ok _ _ _ (optT hx12 hg)) (zfree_v _) rfl) rfl ?_
                refine AO.pureG T [112] rfl ⟨fun h => h, trivial⟩ rfl rfl ?_
                refine AO.val rfl rfl (pick_or rfl rfl rfl rfl) ?_
                refine AO.pure T rfl rfl rfl ?_
                refine AO.pureG T [] rfl trivial rfl rfl ?_
                refine AO.pureG T [] rfl trivial rfl rfl ?_
                refine AO.pureG T [116, 117] rfl ⟨fun h => h, fun h => h, trivial⟩ rfl rfl ?_
                refine AO.val rfl rfl (pick_or rfl rfl rfl rfl) ?_
                refine AO.nil ?_
                refine AW.cond (b := (((!x9) || (!x11)) || (!(x7.2.2 == x5.2.2)))) rfl (fun hc => ?_) (fun hc => ?_)
                · replace hH := condT hc hH
                  refine AW.seq ?_
                  refine AW.region ?_
                  refine AO.pure T rfl rfl rfl ?_
                  refine AO.nil ?_
                  refine AW.ret ?_
                  cases someE hH
                  exact ⟨trivial, _, [], rfl, .c (.c .v), by decide⟩
                · replace hH := condF hc hH
                  refine AW.skip ?_
                  refine AW.seq ?_
                  refine AW.region ?_
                  refine AO.pure T rfl rfl rfl ?_
                  refine AO.nil ?_
                  refine AW.seq ?_
                  refine AW.region ?_
                  refine AO.pure T rfl rfl rfl ?_
                  refine AO.pure T rfl rfl rfl ?_
                  refine AO.val rfl rfl (callLV_ok rfl rfl rfl (es := [.s (List.map encInt x19.1), .v (.int .i64 1)]) ⟨(.rowR rfl (.map fun y => .vs rfl)), .free rfl, trivial⟩ (laws_heldIntS_ok _ _ _ (hx24)) (zfree_v _) rfl) ?_
                  refine AO.pure T rfl rfl rfl ?_
                  refine AO.nil ?_
                  refine AW.seq ?_
                  refine AW.seq ?_
                  refine AW.region ?_
                  refine AO.pure T rfl rfl rfl ?_
                  refine AO.pure T rfl rfl rfl ?_
                  refine AO.nil ?_
                  refine AW.cond (b := decide (x23 < 0)) rfl (fun hc => ?_) (fun hc => ?_)
                  · replace hH := condT hc hH
                    refine AW.seq ?_
                    refine AW.region ?_
                    refine AO.pure T rfl rfl rfl ?_
                    refine AO.nil ?_
                    refine AW.ret ?_
                    cases someE hH
                    exact ⟨trivial, _, [], rfl, .c (.c .v), by decide⟩
                  · replace hH := condF hc hH
                    refine AW.skip ?_
                    refine AW.seq ?_
                    refine AW.region ?_
                    refine AO.pure T rfl rfl rfl ?_
                    refine AO.pure T rfl rfl rfl ?_
                    refine AO.val rfl rfl (callLV_ok rfl rfl rfl (es := [.s (List.map encInt x21.1), .v (.int .i64 x23)]) ⟨(.rowR rfl (.map fun y => .vs rfl)), .free rfl, trivial⟩ (laws_heldIntS_ok _ _ _ (hx26)) (zfree_v _) rfl) ?_
                    refine AO.pure T rfl rfl rfl ?_
                    refine AO.nil ?_
                    refine AW.le (Le.cut 0 0 (σ' := (⟨[(12, .v (.int .i64 x21.2)), (13, .v (.int .i64 x25))], [], 133, []⟩ : St)) rfl (by repeat' (first | exact trivial | refine ⟨⟨_, rfl, rfl⟩, ?_⟩)) (by repeat' (first | exact trivial | refine ⟨⟨_, rfl, rfl⟩, ?_⟩)) rfl) ?_
                    refine AW.seq ?_
                    refine AW.seq ?_
                    refine AW.region ?_
                    refine AO.pure T rfl rfl rfl ?_
                    refine AO.pure T rfl rfl rfl ?_
                    refine AO.nil ?_
                    refine AW.cond (b := decide (x25 < 0)) rfl (fun hc => ?_) (fun hc => ?_)
                    · replace hH := condT hc hH
                      refine AW.seq ?_
                      refine AW.region ?_
                      refine AO.pure T rfl rfl rfl ?_
                      refine AO.nil ?_
                      refine AW.ret ?_
                      cases someE hH
                      exact ⟨trivial, _, [], rfl, .c (.c .v), by decide⟩
                    · replace hH := condF hc hH
                      refine AW.skip ?_
                      refine AW.seq ?_
                      refine AW.seq ?_
                      refine AW.region ?_
                      refine AO.pure T rfl rfl rfl ?_
                      refine AO.pure T rfl rfl rfl ?_
                      refine AO.pure T rfl rfl rfl ?_
                      refine AO.nil ?_
                      refine AW.cond (b := (x25 != x21.2)) rfl (fun hc => ?_) (fun hc => ?_)
                      · replace hH := condT hc hH
                        refine AW.seq ?_
                        refine AW.region ?_
                        refine AO.pure T rfl rfl rfl ?_
                        refine AO.nil ?_
                        refine AW.ret ?_
                        cases someE hH
                        exact ⟨trivial, _, [], rfl, .c (.c .v), by decide⟩
                      · replace hH := condF hc hH
                        refine AW.skip ?_
                        refine AW.seq ?_
                        refine AW.region ?_
                        refine AO.pure T rfl rfl rfl ?_
                        refine AO.nil ?_
                        refine AW.ret ?_
                        cases someE hH
                        exact ⟨trivial, _, [], rfl, .c (.c .v), by decide⟩

end Go.Proofs.YtioegmjleofmeaaGreat

/- The walk, part 4: what each function reached by the law FnExactGiveScore computes. No condition. -/
import Derived.Test.YtioegmjleofmeaaGreatWalk3
set_option maxRecDepth 4000
set_option maxHeartbeats 1000000
set_option linter.unusedVariables false
set_option linter.unusedSimpArgs false
set_option linter.unusedSectionVars false

namespace Go.Proofs.YtioegmjleofmeaaGreat
open Go.AM

def laws_eqEvent_p (a : Event) (b : Event) : Option Bool :=
  cond (a.segments != b.segments)
    (some false)
    (cond (a.size != b.size)
      (some false)
      (cond (a.key != b.key)
        (some false)
        ((laws_eqEntrantS_p a.entrants b.entrants).bind fun x1 =>
        cond (!x1)
          (some false)
          ((laws_eqIntS_p a.gone b.gone).bind fun x3 =>
          cond (!x3)
            (some false)
            (cond (a.segment != b.segment)
              (some false)
              ((laws_eqIntS_p a.order b.order).bind fun x5 =>
              cond (!x5)
                (some false)
                ((laws_eqResultS_p a.results b.results).bind fun x7 =>
                cond (!x7)
                  (some false)
                  (some true))))))))
theorem laws_eqEvent_ok (a : Event) (b : Event) (r : Bool) (hH : laws_eqEvent_p a b = some r) : SpecR Tryz.prog 12 [.g (encEvent a), .g (encEvent b)] (.v (.bool r)) := by
  refine fn_ok T Tryz.func12 rfl (by decide) rfl ?_
  refine AW.seq ?_
  refine AW.region ?_
  refine AO.step rfl (box_ok T rfl 1 rfl rfl rfl rfl) ?_
  refine AO.step rfl (box_ok T rfl 2 rfl rfl rfl rfl) ?_
  refine AO.pure T rfl rfl rfl ?_
  refine AO.nil ?_
  refine AW.seq ?_
  refine AW.seq ?_
  refine AW.region ?_
  refine AO.pure T rfl rfl rfl ?_
  refine AO.pure T rfl rfl rfl ?_
  refine AO.pure T rfl rfl rfl ?_
  refine AO.pure T rfl rfl rfl ?_
  refine AO.pure T rfl rfl rfl ?_
  refine AO.nil ?_
  refine AW.cond (b := (a.segments != b.segments)) rfl (fun hc => ?_) (fun hc => ?_)
  · replace hH := condT hc hH
    refine AW.seq ?_
    refine AW.region ?_
    refine AO.pure T rfl rfl rfl ?_
    refine AO.nil ?_
    refine AW.ret ?_
    cases someE hH
    exact ⟨trivial, _, [], rfl, .c (.c .v), by decide⟩
  · replace hH := condF hc hH
    refine AW.skip ?_
    refine AW.seq ?_
    refine AW.seq ?_
    refine AW.region ?_
    refine AO.pure T rfl rfl rfl ?_
    refine AO.pure T rfl rfl rfl ?_
    refine AO.pure T rfl rfl rfl ?_
    refine AO.pure T rfl rfl rfl ?_
    refine AO.pure T rfl rfl rfl ?_
    refine AO.nil ?_
    refine AW.cond (b := (a.size != b.size)) rfl (fun hc => ?_) (fun hc => ?_)
    · replace hH := condT hc hH
      refine AW.seq ?_
      refine AW.region ?_
      refine AO.pure T rfl rfl rfl ?_
      refine AO.nil ?_
      refine AW.ret ?_
      cases someE hH
      exact ⟨trivial, _, [], rfl, .c (.c .v), by decide⟩
    · replace hH := condF hc hH
      refine AW.skip ?_
      refine AW.seq ?_
      refine AW.seq ?_
      refine AW.region ?_
      refine AO.pure T rfl rfl rfl ?_
      refine AO.pure T rfl rfl rfl ?_
      refine AO.pure T rfl rfl rfl ?_
      refine AO.pure T rfl rfl rfl ?_
      refine AO.pure T rfl rfl rfl ?_
      refine AO.nil ?_
      refine AW.cond (b := (a.key != b.key)) rfl (fun hc => ?_) (fun hc => ?_)
      · replace hH := condT hc hH
        refine AW.seq ?_
        refine AW.region ?_
        refine AO.pure T rfl rfl rfl ?_
        refine AO.nil ?_
        refine AW.ret ?_
        cases someE hH
        exact ⟨trivial, _, [], rfl, .c (.c .v), by decide⟩
      · replace hH := condF hc hH
        refine AW.skip ?_
        refine AW.seq ?_
        refine AW.seq ?_
        obtain ⟨x1, hx2, hH⟩ := bindE hH
        refine AW.region ?_
        refine AO.pure T rfl rfl rfl ?_
        refine AO.pure T rfl rfl rfl ?_
        refine AO.pure T rfl rfl rfl ?_
        refine AO.pure T rfl rfl rfl ?_
        refine AO.val rfl rfl (callV_ok rfl rfl rfl rfl (laws_eqEntrantS_ok _ _ _ (hx2)) rfl) ?_
        refine AO.pure T rfl rfl rfl ?_
        refine AO.nil ?_
        refine AW.le (Le.cut 0 0 (σ' := (⟨[(2, .p 1 0), (3, .p 2 0), (25, .v (.bool (!x1)))], [(1, .box [.v (.int .i64 a.segments), .v (.int .i64 a.size), .v (.int .i64 a.key), .s (List.map encEntrant a.entrants), .s (List.map encInt a.gone), .v (.int .i64 a.segment), .s (List.map encInt a.order), .s (List.map encResult a.results)]), (2, .box [.v (.int .i64 b.segments), .v (.int .i64 b.size), .v (.int .i64 b.key), .s (List.map encEntrant b.entrants), .s (List.map encInt b.gone), .v (.int .i64 b.segment), .s (List.map encInt b.order), .s (List.map encResult b.results)])], 49, []⟩ : St)) rfl (by repeat' (first | exact trivial | refine ⟨⟨_, rfl, rfl⟩, ?_⟩)) (by repeat' (first | exact trivial | refine ⟨⟨_, rfl, rfl⟩, ?_⟩)) rfl) ?_
        refine AW.cond (b := (!x1)) rfl (fun hc => ?_) (fun hc => ?_)
        · replace hH := condT hc hH
          refine AW.seq ?_
          refine AW.region ?_
          refine AO.pure T rfl rfl rfl ?_
          refine AO.nil ?_
          refine AW.ret ?_
          cases someE hH
          exact ⟨trivial, _, [], rfl, .c (.c .v), by decide⟩
        · replace hH := condF hc hH
          refine AW.skip ?_
          refine AW.seq ?_
          refine AW.seq ?_
          obtain ⟨x3, hx4, hH⟩ := bindE hH
          refine AW.region ?_
          refine AO.pure T rfl rfl rfl ?_
          refine AO.pure T rfl rfl rfl ?_
          refine AO.pure T rfl rfl rfl ?_
          refine AO.pure T rfl rfl rfl ?_
          refine AO.val rfl rfl (callV_ok rfl rfl rfl rfl (laws_eqIntS_ok _ _ _ (hx4)) rfl) ?_
          refine AO.pure T rfl rfl rfl ?_
          refine AO.nil ?_
          refine AW.cond (b := (!x3)) rfl (fun hc => ?_) (fun hc => ?_)
          · replace hH := condT hc hH
            refine AW.seq ?_
            refine AW.region ?_
            refine AO.pure T rfl rfl rfl ?_
            refine AO.nil ?_
            refine AW.ret ?_
            cases someE hH
            exact ⟨trivial, _, [], rfl, .c (.c .v), by decide⟩
          · replace hH := condF hc hH
            refine AW.skip ?_
            refine AW.seq ?_
            refine AW.seq ?_
            refine AW.region ?_
            refine AO.pure T rfl rfl rfl ?_
            refine AO.pure T rfl rfl rfl ?_
            refine AO.pure T rfl rfl rfl ?_
            refine AO.pure T rfl rfl rfl ?_
            refine AO.pure T rfl rfl rfl ?_
            refine AO.nil ?_
            refine AW.cond (b := (a.segment != b.segment)) rfl (fun hc => ?_) (fun hc => ?_)
            · replace hH := condT hc hH
              refine AW.seq ?_
              refine AW.region ?_
              refine AO.pure T rfl rfl rfl ?_
              refine AO.nil ?_
              refine AW.ret ?_
              cases someE hH
              exact ⟨trivial, _, [], rfl, .c (.c .v), by decide⟩
            · replace hH := condF hc hH
              refine AW.skip ?_
              refine AW.seq ?_
              refine AW.seq ?_
              obtain ⟨x5, hx6, hH⟩ := bindE hH
              refine AW.region ?_
              refine AO.pure T rfl rfl rfl ?_
              refine AO.pure T rfl rfl rfl ?_
              refine AO.pure T rfl rfl rfl ?_
              refine AO.pure T rfl rfl rfl ?_
              refine AO.val rfl rfl (callV_ok rfl rfl rfl rfl (laws_eqIntS_ok _ _ _ (hx6)) rfl) ?_
              refine AO.pure T rfl rfl rfl ?_
              refine AO.nil ?_
              refine AW.cond (b := (!x5)) rfl (fun hc => ?_) (fun hc => ?_)
              · replace hH := condT hc hH
                refine AW.seq ?_
                refine AW.region ?_
                refine AO.pure T rfl rfl rfl ?_
                refine AO.nil ?_
                refine AW.ret ?_
                cases someE hH
                exact ⟨trivial, _, [], rfl, .c (.c .v), by decide⟩
              · replace hH := condF hc hH
                refine AW.skip ?_
                refine AW.seq ?_
                refine AW.seq ?_
                obtain ⟨x7, hx8, hH⟩ := bindE hH
                refine AW.region ?_
                refine AO.pure T rfl rfl rfl ?_
                refine AO.pure T rfl rfl rfl ?_
                refine AO.pure T rfl rfl rfl ?_
                refine AO.pure T rfl rfl rfl ?_
                refine AO.val rfl rfl (callV_ok rfl rfl rfl rfl (laws_eqResultS_ok _ _ _ (hx8)) rfl) ?_
                refine AO.pure T rfl rfl rfl ?_
                refine AO.nil ?_
                refine AW.cond (b := (!x7)) rfl (fun hc => ?_) (fun hc => ?_)
                · replace hH := condT hc hH
                  refine AW.seq ?_
                  refine AW.region ?_
                  refine AO.pure T rfl rfl rfl ?_
                  refine AO.nil ?_
                  refine AW.le (Le.cut 0 0 (σ' := (⟨[(4, .v (.bool false))], [], 49, []⟩ : St)) rfl (by repeat' (first | exact trivial | refine ⟨⟨_, rfl, rfl⟩, ?_⟩)) (by repeat' (first | exact trivial | refine ⟨⟨_, rfl, rfl⟩, ?_⟩)) rfl) ?_
                  refine AW.ret ?_
                  cases someE hH
                  exact ⟨trivial, _, [], rfl, .c (.c .v), by decide⟩
                · replace hH := condF hc hH
                  refine AW.skip ?_
                  refine AW.seq ?_
                  refine AW.region ?_
                  refine AO.pure T rfl rfl rfl ?_
                  refine AO.nil ?_
                  refine AW.le (Le.cut 0 0 (σ' := (⟨[(4, .v (.bool true))], [], 49, []⟩ : St)) rfl (by repeat' (first | exact trivial | refine ⟨⟨_, rfl, rfl⟩, ?_⟩)) (by repeat' (first | exact trivial | refine ⟨⟨_, rfl, rfl⟩, ?_⟩)) rfl) ?_
                  refine AW.ret ?_
                  cases someE hH
                  exact ⟨trivial, _, [], rfl, .c (.c .v), by decide⟩

def laws_markEntrantS_l1 : Nat → List Entrant → Int → Int → Option (((List Entrant) × Int))
  | 0, _, _, _ => none
  | k1 + 1, v13, v14, v15 =>
    cond (decide (v15 < (v13.length : Int)))
      ((getI v13 v15).bind fun x17 =>
      (getI (v13.set v15.toNat (Entrant.mk v14 x17.rank)) v15).bind fun x19 =>
      laws_markEntrantS_l1 k1 ((v13.set v15.toNat (Entrant.mk v14 x17.rank)).set v15.toNat (Entrant.mk x19.skater (w64 (v14 + 1)))) (w64 ((w64 (v14 + 1)) + 1)) (w64 (v15 + 1)))
      (some (v13, v14))
def laws_markEntrantS_p (fuel : Nat) (a : List Entrant) (k : Int) : Option ((List Entrant) × Int) :=
  laws_markEntrantS_l1 fuel a k 0
theorem laws_markEntrantS_ok (fuel : Nat) (a : List Entrant) (k : Int) (r : ((List Entrant) × Int)) (hH : laws_markEntrantS_p fuel a k = some r) : SpecM Tryz.prog 36 [.w 2 (a.map encEntrant), .v (.int .i64 k)] [.w 2 (r.1.map encEntrant), .u] (.v (.int .i64 r.2)) := by
  refine fn_okM T Tryz.func36 rfl (by decide) rfl rfl ?_
  intro L
  show AW _ _ _ (⟨[(0, .R 1), (1, .v (.int .i64 k))], [(1, .row 2 (List.map encEntrant a))], 27, [(1, L 1)]⟩ : St)
  refine AW.seq ?_
  refine AW.region ?_
  refine AO.pure T rfl rfl rfl ?_
  refine AO.nil ?_
  refine AW.seq ?_
  refine AW.seq ?_
  refine AW.region ?_
  refine AO.pure T rfl rfl rfl ?_
  refine AO.nil ?_
  refine AW.block ?_
  refine AW.loopS (fun s : Nat × (List Entrant) × Int × Int => (⟨[(0, .R 1), (1, .v (.int .i64 s.2.2.1)), (5, .v (.int .i64 s.2.2.2))], [(1, .row 2 (List.map encEntrant s.2.1))], 27, [(1, L 1)]⟩ : St)) (fun s => laws_markEntrantS_l1 s.1 s.2.1 s.2.2.1 s.2.2.2 = some r) (fun s => s.1) (fuel, a, k, 0) hH ?_ ?_
  · exact Le.cut 0 0 rfl (by repeat' (first | exact trivial | refine ⟨⟨_, rfl, rfl⟩, ?_⟩)) (by repeat' (first | exact trivial | refine ⟨⟨_, rfl, rfl⟩, ?_⟩)) rfl ⟨⟨rfl, rfl⟩, trivial⟩
  · rintro ⟨k1, v13, v14, v15⟩ hH
    replace hH : laws_markEntrantS_l1 k1 v13 v14 v15 = some r := hH
    show AW _ _ _ (⟨[(0, .R 1), (1, .v (.int .i64 v14)), (5, .v (.int .i64 v15))], [(1, .row 2 (List.map encEntrant v13))], 27, [(1, L 1)]⟩ : St)
    cases k1 with
    | zero => cases (show none = some _ from hH)
    | succ k1 =>
      rw [laws_markEntrantS_l1] at hH
      refine AW.seq ?_
      refine AW.seq ?_
      refine AW.region ?_
      refine AO.pure T rfl rfl rfl ?_
      refine AO.pure T rfl rfl rfl ?_
      refine AO.val rfl rfl (len_row_ok T rfl rfl rfl rfl) ?_
      refine AO.pure T rfl rfl rfl ?_
      refine AO.nil ?_
      refine AW.cond (b := decide (v15 < (v13.length : Int))) rfl (fun hc => ?_) (fun hc => ?_)
      · replace hH := condT hc hH
        refine AW.skip ?_
        refine AW.seq ?_
        refine AW.block ?_
        refine AW.seq ?_
        obtain ⟨x17, hx18, hH⟩ := bindE hH
        refine AW.region ?_
        refine AO.pure T rfl rfl rfl ?_
        refine AO.pure T rfl rfl rfl ?_
        refine AO.pure T rfl rfl rfl ?_
        refine AO.val rfl rfl (ix_row_ok T rfl rfl rfl rfl rfl rfl (hx18)) ?_
        refine AO.pure T rfl rfl rfl ?_
        refine AO.step rfl (store_row_ok T rfl rfl rfl rfl rfl (getI_get (hx18)) rfl rfl rfl rfl (u' := (Entrant.mk v14 x17.rank)) rfl rfl) ?_
        refine AO.nil ?_
        refine AW.seq ?_
        refine AW.region ?_
        refine AO.pure T rfl rfl rfl ?_
        refine AO.val rfl rfl (arw_ok rfl rfl rfl rfl) ?_
        refine AO.pure T rfl rfl rfl ?_
        refine AO.nil ?_
        refine AW.seq ?_
        obtain ⟨x19, hx20, hH⟩ := bindE hH
        refine AW.region ?_
        refine AO.pure T rfl rfl rfl ?_
        refine AO.pure T rfl rfl rfl ?_
        refine AO.pure T rfl rfl rfl ?_
        refine AO.val rfl rfl (ix_row_ok T rfl rfl rfl rfl rfl rfl (hx20)) ?_
        refine AO.pure T rfl rfl rfl ?_
        refine AO.step rfl (store_row_ok T rfl rfl rfl rfl rfl (getI_get (hx20)) rfl rfl rfl rfl (u' := (Entrant.mk x19.skater (w64 (v14 + 1)))) rfl rfl) ?_
        refine AO.nil ?_
        refine AW.region ?_
        refine AO.pure T rfl rfl rfl ?_
        refine AO.val rfl rfl (arw_ok rfl rfl rfl rfl) ?_
        refine AO.pure T rfl rfl rfl ?_
        refine AO.nil ?_
        refine AW.region ?_
        refine AO.pure T rfl rfl rfl ?_
        refine AO.val rfl rfl (arw_ok rfl rfl rfl rfl) ?_
        refine AO.pure T rfl rfl rfl ?_
        refine AO.nil ?_
        refine ⟨(k1, ((v13.set v15.toNat (Entrant.mk v14 x17.rank)).set v15.toNat (Entrant.mk x19.skater (w64 (v14 + 1)))), w64 ((w64 (v14 + 1)) + 1), w64 (v15 + 1)), hH, Nat.lt_succ_self _, ?_⟩
        exact Le.cut 0 0 rfl (by repeat' (first | exact trivial | refine ⟨⟨_, rfl, rfl⟩, ?_⟩)) (by repeat' (first | exact trivial | refine ⟨⟨_, rfl, rfl⟩, ?_⟩)) rfl ⟨⟨rfl, rfl⟩, trivial⟩
      · replace hH := condF hc hH
        refine AW.exit ?_
        refine AW.seq ?_
        refine AW.region ?_
        refine AO.pure T rfl rfl rfl ?_
        refine AO.pure T rfl rfl rfl ?_
        refine AO.nil ?_
        refine AW.ret ?_
        cases someE hH
        exact ⟨trivial, rfl, _, [], [1], rfl, expLG_cons (.c (.rowR rfl)) (expLG_cons (.c .u) (expLG_nil)), .c (.c .v), by decide⟩

def laws_markIntS_l1 : Nat → List Int → Int → Int → Option (((List Int) × Int))
  | 0, _, _, _ => none
  | k1 + 1, v9, v10, v11 =>
    cond (decide (v11 < (v9.length : Int)))
      ((getI v9 v11).bind fun x13 =>
      laws_markIntS_l1 k1 (v9.set v11.toNat v10) (w64 (v10 + 1)) (w64 (v11 + 1)))
      (some (v9, v10))
def laws_markIntS_p (fuel : Nat) (a : List Int) (k : Int) : Option ((List Int) × Int) :=
  laws_markIntS_l1 fuel a k 0
theorem laws_markIntS_ok (fuel : Nat) (a : List Int) (k : Int) (r : ((List Int) × Int)) (hH : laws_markIntS_p fuel a k = some r) : SpecM Tryz.prog 22 [.w 1 (a.map encInt), .v (.int .i64 k)] [.w 1 (r.1.map encInt), .u] (.v (.int .i64 r.2)) := by
  refine fn_okM T Tryz.func22 rfl (by decide) rfl rfl ?_
  intro L
  show AW _ _ _ (⟨[(0, .R 1), (1, .v (.int .i64 k))], [(1, .row 1 (List.map encInt a))], 19, [(1, L 1)]⟩ : St)
  refine AW.seq ?_
  refine AW.region ?_
  refine AO.pure T rfl rfl rfl ?_
  refine AO.nil ?_
  refine AW.seq ?_
  refine AW.seq ?_
  refine AW.region ?_
  refine AO.pure T rfl rfl rfl ?_
  refine AO.nil ?_
  refine AW.block ?_
  refine AW.loopS (fun s : Nat × (List Int) × Int × Int => (⟨[(0, .R 1), (1, .v (.int .i64 s.2.2.1)), (5, .v (.int .i64 s.2.2.2))], [(1, .row 1 (List.map encInt s.2.1))], 19, [(1, L 1)]⟩ : St)) (fun s => laws_markIntS_l1 s.1 s.2.1 s.2.2.1 s.2.2.2 = some r) (fun s => s.1) (fuel, a, k, 0) hH ?_ ?_
  · exact Le.cut 0 0 rfl (by repeat' (first | exact trivial | refine ⟨⟨_, rfl, rfl⟩, ?_⟩)) (by repeat' (first | exact trivial | refine ⟨⟨_, rfl, rfl⟩, ?_⟩)) rfl ⟨⟨rfl, rfl⟩, trivial⟩
  · rintro ⟨k1, v9, v10, v11⟩ hH
    replace hH : laws_markIntS_l1 k1 v9 v10 v11 = some r := hH
    show AW _ _ _ (⟨[(0, .R 1), (1, .v (.int .i64 v10)), (5, .v (.int .i64 v11))], [(1, .row 1 (List.map encInt v9))], 19, [(1, L 1)]⟩ : St)
    cases k1 with
    | zero => cases (show none = some _ from hH)
    | succ k1 =>
      rw [laws_markIntS_l1] at hH
      refine AW.seq ?_
      refine AW.seq ?_
      refine AW.region ?_
      refine AO.pure T rfl rfl rfl ?_
      refine AO.pure T rfl rfl rfl ?_
      refine AO.val rfl rfl (len_row_ok T rfl rfl rfl rfl) ?_
      refine AO.pure T rfl rfl rfl ?_
      refine AO.nil ?_
      refine AW.cond (b := decide (v11 < (v9.length : Int))) rfl (fun hc => ?_) (fun hc => ?_)
      · replace hH := condT hc hH
        refine AW.skip ?_
        refine AW.seq ?_
        refine AW.block ?_
        refine AW.seq ?_
        obtain ⟨x13, hx14, hH⟩ := bindE hH
        refine AW.region ?_
        refine AO.pure T rfl rfl rfl ?_
        refine AO.pure T rfl rfl rfl ?_
        refine AO.pure T rfl rfl rfl ?_
        refine AO.val rfl rfl (ix_row_ok T rfl rfl rfl rfl rfl rfl (hx14)) ?_
        refine AO.step rfl (store_row_ok T rfl rfl rfl rfl rfl (getI_get (hx14)) rfl rfl rfl rfl (u' := v10) rfl rfl) ?_
        refine AO.nil ?_
        refine AW.region ?_
        refine AO.pure T rfl rfl rfl ?_
        refine AO.val rfl rfl (arw_ok rfl rfl rfl rfl) ?_
        refine AO.pure T rfl rfl rfl ?_
        refine AO.nil ?_
        refine AW.region ?_
        refine AO.pure T rfl rfl rfl ?_
        refine AO.val rfl rfl (arw_ok rfl rfl rfl rfl) ?_
        refine AO.pure T rfl rfl rfl ?_
        refine AO.nil ?_
        refine ⟨(k1, (v9.set v11.toNat v10), w64 (v10 + 1), w64 (v11 + 1)), hH, Nat.lt_succ_self _, ?_⟩
        exact Le.cut 0 0 rfl (by repeat' (first | exact trivial | refine ⟨⟨_, rfl, rfl⟩, ?_⟩)) (by repeat' (first | exact trivial | refine ⟨⟨_, rfl, rfl⟩, ?_⟩)) rfl ⟨⟨rfl, rfl⟩, trivial⟩
      · replace hH := condF hc hH
        refine AW.exit ?_
        refine AW.seq ?_
        refine AW.region ?_
        refine AO.pure T rfl rfl rfl ?_
        refine AO.pure T rfl rfl rfl ?_
        refine AO.nil ?_
        refine AW.ret ?_
        cases someE hH
        exact ⟨trivial, rfl, _, [], [1], rfl, expLG_cons (.c (.rowR rfl)) (expLG_cons (.c .u) (expLG_nil)), .c (.c .v), by decide⟩

def laws_markResultS_l1 (fuel : Nat) : Nat → List Result → Int → Int → Option (((List Result) × Int))
  | 0, _, _, _ => none
  | k1 + 1, v17, v18, v19 =>
    cond (decide (v19 < (v17.length : Int)))
      ((getI v17 v19).bind fun x21 =>
      (getI (v17.set v19.toNat (Result.mk v18 x21.scores)) v19).bind fun x23 =>
      (laws_markIntS_p fuel x23.scores (w64 (v18 + 1))).bind fun x25 =>
      laws_markResultS_l1 fuel k1 ((v17.set v19.toNat (Result.mk v18 x21.scores)).set v19.toNat (Result.mk x23.skater x25.1)) x25.2 (w64 (v19 + 1)))
      (some (v17, v18))
def laws_markResultS_p (fuel : Nat) (a : List Result) (k : Int) : Option ((List Result) × Int) :=
  laws_markResultS_l1 fuel fuel a k 0
theorem laws_markResultS_ok (fuel : Nat) (a : List Result) (k : Int) (r : ((List Result) × Int)) (hH : laws_markResultS_p fuel a k = some r) : SpecM Tryz.prog 37 [.w 2 (a.map encResultO), .v (.int .i64 k)] [.w 2 (r.1.map encResultO), .u] (.v (.int .i64 r.2)) := by
  refine fn_okM T Tryz.func37 rfl (by decide) rfl rfl ?_
  intro L
  show AW _ _ _ (⟨[(0, .R 1), (1, .v (.int .i64 k))], [(1, .row 2 (List.map encResultO a))], 27, [(1, L 1)]⟩ : St)
  refine AW.seq ?_
  refine AW.region ?_
  refine AO.pure T rfl rfl rfl ?_
  refine AO.nil ?_
  refine AW.seq ?_
  refine AW.seq ?_
  refine AW.region ?_
  refine AO.pure T rfl rfl rfl ?_
  refine AO.nil ?_
  refine AW.block ?_
  refine AW.loopS (fun s : Nat × (List Result) × Int × Int => (⟨[(0, .R 1), (1, .v (.int .i64 s.2.2.1)), (5, .v (.int .i64 s.2.2.2))], [(1, .row 2 (List.map encResultO s.2.1))], 27, [(1, L 1)]⟩ : St)) (fun s => laws_markResultS_l1 fuel s.1 s.2.1 s.2.2.1 s.2.2.2 = some r) (fun s => s.1) (fuel, a, k, 0) hH ?_ ?_
  · exact Le.cut 0 0 rfl (by repeat' (first | exact trivial | refine ⟨⟨_, rfl, rfl⟩, ?_⟩)) (by repeat' (first | exact trivial | refine ⟨⟨_, rfl, rfl⟩, ?_⟩)) rfl ⟨⟨rfl, rfl⟩, trivial⟩
  · rintro ⟨k1, v17, v18, v19⟩ hH
    replace hH : laws_markResultS_l1 fuel k1 v17 v18 v19 = some r := hH
    show AW _ _ _ (⟨[(0, .R 1), (1, .v (.int .i64 v18)), (5, .v (.int .i64 v19))], [(1, .row 2 (List.map encResultO v17))], 27, [(1, L 1)]⟩ : St)
    cases k1 with
    | zero => cases (show none = some _ from hH)
    | succ k1 =>
      rw [laws_markResultS_l1] at hH
      refine AW.seq ?_
      refine AW.seq ?_
      refine AW.region ?_
      refine AO.pure T rfl rfl rfl ?_
      refine AO.pure T rfl rfl rfl ?_
      refine AO.val rfl rfl (len_row_ok T rfl rfl rfl rfl) ?_
      refine AO.pure T rfl rfl rfl ?_
      refine AO.nil ?_
      refine AW.cond (b := decide (v19 < (v17.length : Int))) rfl (fun hc => ?_) (fun hc => ?_)
      · replace hH := condT hc hH
        refine AW.skip ?_
        refine AW.seq ?_
        refine AW.block ?_
        refine AW.seq ?_
        obtain ⟨x21, hx22, hH⟩ := bindE hH
        refine AW.region ?_
        refine AO.pure T rfl rfl rfl ?_
        refine AO.pure T rfl rfl rfl ?_
        refine AO.pure T rfl rfl rfl ?_
        refine AO.val rfl rfl (ix_row_ok T rfl rfl rfl rfl rfl rfl (hx22)) ?_
        refine AO.pure T rfl rfl rfl ?_
        refine AO.step rfl (store_row_ok T rfl rfl rfl rfl rfl (getI_get (hx22)) rfl rfl rfl rfl (u' := (Result.mk v18 x21.scores)) rfl rfl) ?_
        refine AO.nil ?_
        refine AW.seq ?_
        refine AW.region ?_
        refine AO.pure T rfl rfl rfl ?_
        refine AO.val rfl rfl (arw_ok rfl rfl rfl rfl) ?_
        refine AO.pure T rfl rfl rfl ?_
        refine AO.nil ?_
        obtain ⟨x23, hx24, hH⟩ := bindE hH
        obtain ⟨x25, hx26, hH⟩ := bindE hH
        refine AW.le (Le.openM 1 v19.toNat 1 4 rfl (getI_get (hx24)) rfl rfl) ?_
        refine AW.region ?_
        refine AO.pure T rfl rfl rfl ?_
        refine AO.pure T rfl rfl rfl ?_
        refine AO.val rfl rfl (ix_lent_ok T rfl rfl rfl rfl rfl rfl (hx24)) ?_
        refine AO.pure T rfl rfl rfl ?_
        refine AO.val rfl rfl (load_lent_ok T rfl rfl rfl rfl rfl) ?_
        refine AO.pure T rfl rfl rfl ?_
        refine AO.step rfl (callM_ok rfl 5 rfl rfl (es := [.w 1 (x23.scores.map encInt), .v (.int .i64 (w64 (v18 + 1)))]) (outs := [.w 1 (x25.1.map encInt), .u]) (ids := [4]) (by exact expLG_cons (.c (.rowR rfl)) (expLG_cons (.c .v) (expLG_nil))) (by decide) (.inl (by rfl)) (by rfl) (laws_markIntS_ok fuel _ _ _ (hx26)) rfl (by rfl) rfl) ?_
        refine AO.pure T rfl rfl rfl ?_
        refine AO.le (Le.closeM 1 v19.toNat 1 4 rfl rfl (getI_get (hx24)) rfl (u' := (Result.mk x23.skater x25.1)) rfl) ?_
        refine AO.nil ?_
        refine AW.region ?_
        refine AO.pure T rfl rfl rfl ?_
        refine AO.val rfl rfl (arw_ok rfl rfl rfl rfl) ?_
        refine AO.pure T rfl rfl rfl ?_
        refine AO.nil ?_
        refine ⟨(k1, ((v17.set v19.toNat (Result.mk v18 x21.scores)).set v19.toNat (Result.mk x23.skater x25.1)), x25.2, w64 (v19 + 1)), hH, Nat.lt_succ_self _, ?_⟩
        exact Le.cut 0 0 rfl (by repeat' (first | exact trivial | refine ⟨⟨_, rfl, rfl⟩, ?_⟩)) (by repeat' (first | exact trivial | refine ⟨⟨_, rfl, rfl⟩, ?_⟩)) rfl ⟨⟨rfl, rfl⟩, trivial⟩
      · replace hH := condF hc hH
        refine AW.exit ?_
        refine AW.seq ?_
        refine AW.region ?_
        refine AO.pure T rfl rfl rfl ?_
        refine AO.pure T rfl rfl rfl ?_
        refine AO.nil ?_
        refine AW.ret ?_
        cases someE hH
        exact ⟨trivial, rfl, _, [], [1], rfl, expLG_cons (.c (.rowR rfl)) (expLG_cons (.c .u) (expLG_nil)), .c (.c .v), by decide⟩

def laws_markEvent_p (fuel : Nat) (a : Event) (k : Int) : Option (Event × Int) :=
  (laws_markEntrantS_p fuel a.entrants k).bind fun x1 =>
  (laws_markIntS_p fuel a.gone x1.2).bind fun x3 =>
  (laws_markIntS_p fuel a.order x3.2).bind fun x5 =>
  (laws_markResultS_p fuel a.results x5.2).bind fun x7 =>
  some ((Event.mk a.segments a.size a.key x1.1 x3.1 a.segment x5.1 x7.1), x7.2)
theorem laws_markEvent_ok (fuel : Nat) (a : Event) (k : Int) (r : (Event × Int)) (hH : laws_markEvent_p fuel a k = some r) : SpecM Tryz.prog 13 [.g (encEventO a), .v (.int .i64 k)] [.g [.u, .u, .u, .w 2 (r.1.entrants.map encEntrant), .w 1 (r.1.gone.map encInt), .u, .w 1 (r.1.order.map encInt), .w 2 (r.1.results.map encResultO)], .u] (.v (.int .i64 r.2)) := by
  refine fn_okM T Tryz.func13 rfl (by decide) rfl rfl ?_
  intro L
  show AW _ _ _ (⟨[(0, .g [.v (.int .i64 a.segments), .v (.int .i64 a.size), .v (.int .i64 a.key), .R 1, .R 2, .v (.int .i64 a.segment), .R 3, .R 4]), (1, .v (.int .i64 k))], [(4, .row 2 (List.map encResultO a.results)), (3, .row 1 (List.map encInt a.order)), (2, .row 1 (List.map encInt a.gone)), (1, .row 2 (List.map encEntrant a.entrants))], 22, [(4, L 4), (3, L 3), (2, L 2), (1, L 1)]⟩ : St)
  refine AW.seq ?_
  refine AW.region ?_
  refine AO.step rfl (box_ok T rfl 5 rfl rfl rfl rfl) ?_
  refine AO.pure T rfl rfl rfl ?_
  refine AO.nil ?_
  refine AW.seq ?_
  obtain ⟨x1, hx2, hH⟩ := bindE hH
  refine AW.region ?_
  refine AO.pure T rfl rfl rfl ?_
  refine AO.pure T rfl rfl rfl ?_
  refine AO.pure T rfl rfl rfl ?_
  refine AO.step rfl (callM_ok rfl 6 rfl rfl (es := [.w 2 (a.entrants.map encEntrant), .v (.int .i64 k)]) (outs := [.w 2 (x1.1.map encEntrant), .u]) (ids := [1]) (by exact expLG_cons (.c (.rowR rfl)) (expLG_cons (.c .v) (expLG_nil))) (by decide) (.inl (by rfl)) (by rfl) (laws_markEntrantS_ok fuel _ _ _ (hx2)) rfl (by rfl) rfl) ?_
  refine AO.pure T rfl rfl rfl ?_
  refine AO.nil ?_
  refine AW.seq ?_
  obtain ⟨x3, hx4, hH⟩ := bindE hH
  refine AW.region ?_
  refine AO.pure T rfl rfl rfl ?_
  refine AO.pure T rfl rfl rfl ?_
  refine AO.pure T rfl rfl rfl ?_
  refine AO.step rfl (callM_ok rfl 6 rfl rfl (es := [.w 1 (a.gone.map encInt), .v (.int .i64 x1.2)]) (outs := [.w 1 (x3.1.map encInt), .u]) (ids := [2]) (by exact expLG_cons (.c (.rowR rfl)) (expLG_cons (.c .v) (expLG_nil))) (by decide) (.inl (by rfl)) (by rfl) (laws_markIntS_ok fuel _ _ _ (hx4)) rfl (by rfl) rfl) ?_
  refine AO.pure T rfl rfl rfl ?_
  refine AO.nil ?_
  refine AW.seq ?_
  obtain ⟨x5, hx6, hH⟩ := bindE hH
  refine AW.region ?_
  refine AO.pure T rfl rfl rfl ?_
  refine AO.pure T rfl rfl rfl ?_
  refine AO.pure T rfl rfl rfl ?_
  refine AO.step rfl (callM_ok rfl 6 rfl rfl (es := [.w 1 (a.order.map encInt), .v (.int .i64 x3.2)]) (outs := [.w 1 (x5.1.map encInt), .u]) (ids := [3]) (by exact expLG_cons (.c (.rowR rfl)) (expLG_cons (.c .v) (expLG_nil))) (by decide) (.inl (by rfl)) (by rfl) (laws_markIntS_ok fuel _ _ _ (hx6)) rfl (by rfl) rfl) ?_
  refine AO.pure T rfl rfl rfl ?_
  refine AO.nil ?_
  refine AW.seq ?_
  obtain ⟨x7, hx8, hH⟩ := bindE hH
  refine AW.region ?_
  refine AO.pure T rfl rfl rfl ?_
  refine AO.pure T rfl rfl rfl ?_
  refine AO.pure T rfl rfl rfl ?_
  refine AO.step rfl (callM_ok rfl 6 rfl rfl (es := [.w 2 (a.results.map encResultO), .v (.int .i64 x5.2)]) (outs := [.w 2 (x7.1.map encResultO), .u]) (ids := [4]) (by exact expLG_cons (.c (.rowR rfl)) (expLG_cons (.c .v) (expLG_nil))) (by decide) (.inl (by rfl)) (by rfl) (laws_markResultS_ok fuel _ _ _ (hx8)) rfl (by rfl) rfl) ?_
  refine AO.pure T rfl rfl rfl ?_
  refine AO.nil ?_
  refine AW.seq ?_
  refine AW.region ?_
  refine AO.pure T rfl rfl rfl ?_
  refine AO.pure T rfl rfl rfl ?_
  refine AO.nil ?_
  refine AW.le (Le.cut 0 0 (σ' := (⟨[(4, .v (.int .i64 x7.2))], [(1, .row 2 (List.map encEntrant x1.1)), (2, .row 1 (List.map encInt x3.1)), (3, .row 1 (List.map encInt x5.1)), (4, .row 2 (List.map encResultO x7.1))], 22, [(4, L 4), (3, L 3), (2, L 2), (1, L 1)]⟩ : St)) rfl (by repeat' (first | exact trivial | refine ⟨⟨_, rfl, rfl⟩, ?_⟩)) (by repeat' (first | exact trivial | refine ⟨⟨_, rfl, rfl⟩, ?_⟩)) rfl ⟨⟨rfl, rfl⟩, ⟨rfl, rfl⟩, ⟨rfl, rfl⟩, ⟨rfl, rfl⟩, trivial⟩) ?_
  refine AW.ret ?_
  cases someE hH
  exact ⟨trivial, rfl, _, [], [1, 2, 3, 4], rfl, expLG_cons (.g (expLC_cons .u (expLC_cons .u (expLC_cons .u (expLC_cons (.rowR rfl) (expLC_cons (.rowR rfl) (expLC_cons .u (expLC_cons (.rowR rfl) (expLC_cons (.rowR rfl) (expLC_nil)))))))))) (expLG_cons (.c .u) (expLG_nil)), .c (.c .v), by decide⟩

def laws_heldEntrantS_l1 : List Entrant → Nat → Int → Option Int
  | [], k1, v8 =>
    some v8
  | y2 :: ys3, k1, v8 =>
    cond (y2.skater != v8)
      (some (-1))
      (cond (y2.rank != (w64 (v8 + 1)))
        (some (-1))
        (laws_heldEntrantS_l1 ys3 (k1 + 1) (w64 ((w64 (v8 + 1)) + 1))))
def laws_heldEntrantS_p (a : List Entrant) (k : Int) : Option Int :=
  laws_heldEntrantS_l1 a 0 k
theorem laws_heldEntrantS_ok (a : List Entrant) (k : Int) (r : Int) (hH : laws_heldEntrantS_p a k = some r) : SpecR Tryz.prog 38 [.s (List.map encEntrant a), .v (.int .i64 k)] (.v (.int .i64 r)) := by
  refine fn_ok T Tryz.func38 rfl (by decide) rfl ?_
  refine AW.seq ?_
  refine AW.region ?_
  refine AO.pure T rfl rfl rfl ?_
  refine AO.nil ?_
  refine AW.seq ?_
  refine AW.seq ?_
  refine AW.region ?_
  refine AO.pure T rfl rfl rfl ?_
  refine AO.nil ?_
  refine AW.block ?_
  refine AW.loopS (fun s : Nat × Int => (⟨[(0, .s (List.map encEntrant a)), (1, .v (.int .i64 s.2)), (5, .v (.int .i64 (s.1 : Int)))], [], 31, []⟩ : St)) (fun s => s.1 ≤ a.length ∧ laws_heldEntrantS_l1 (a.drop s.1) s.1 s.2 = some r) (fun s => a.length - s.1) (0, k) ⟨Nat.zero_le _, hH⟩ ?_ ?_
  · exact Le.cut 0 0 rfl (by repeat' (first | exact trivial | refine ⟨⟨_, rfl, rfl⟩, ?_⟩)) (by repeat' (first | exact trivial | refine ⟨⟨_, rfl, rfl⟩, ?_⟩)) rfl
  · rintro ⟨k1, v8⟩ ⟨hk, hH⟩
    replace hH : laws_heldEntrantS_l1 (a.drop k1) k1 v8 = some r := hH
    show AW _ _ _ (⟨[(0, .s (List.map encEntrant a)), (1, .v (.int .i64 v8)), (5, .v (.int .i64 (k1 : Int)))], [], 31, []⟩ : St)
    refine AW.boundM (t := 0) (l := a) rfl (fun hb5 => ?_)
    cases hd4 : a.drop k1 with
    | nil =>
      rw [hd4] at hH
      rw [laws_heldEntrantS_l1] at hH
      have hlt6 := drop_ge hd4
      refine AW.seq ?_
      refine AW.seq ?_
      refine AW.region ?_
      refine AO.pure T rfl rfl rfl ?_
      refine AO.pure T rfl rfl rfl ?_
      refine AO.val rfl rfl (len_map_ok T rfl rfl rfl) ?_
      refine AO.pure T rfl rfl rfl ?_
      refine AO.nil ?_
      refine AW.condF' (b := decide ((k1 : Int) < (a.length : Int))) rfl (rngF hlt6) ?_
      refine AW.exit ?_
      refine AW.seq ?_
      refine AW.region ?_
      refine AO.pure T rfl rfl rfl ?_
      refine AO.pure T rfl rfl rfl ?_
      refine AO.nil ?_
      refine AW.ret ?_
      cases someE hH
      exact ⟨trivial, _, [], rfl, .c (.c .v), by decide⟩
    | cons y2 ys3 =>
      rw [hd4] at hH
      rw [laws_heldEntrantS_l1] at hH
      have hlt6 := drop_lt hd4
      refine AW.seq ?_
      refine AW.seq ?_
      refine AW.region ?_
      refine AO.pure T rfl rfl rfl ?_
      refine AO.pure T rfl rfl rfl ?_
      refine AO.val rfl rfl (len_map_ok T rfl rfl rfl) ?_
      refine AO.pure T rfl rfl rfl ?_
      refine AO.nil ?_
      refine AW.condT' (b := decide ((k1 : Int) < (a.length : Int))) rfl (rngT hlt6) ?_
      refine AW.skip ?_
      refine AW.seq ?_
      refine AW.block ?_
      refine AW.seq ?_
      refine AW.seq ?_
      refine AW.region ?_
      refine AO.pure T rfl rfl rfl ?_
      refine AO.pure T rfl rfl rfl ?_
      refine AO.val rfl rfl (ix_map_ok T rfl rfl rfl rfl rfl (getI_drop hd4) rfl) ?_
      refine AO.pure T rfl rfl rfl ?_
      refine AO.pure T rfl rfl rfl ?_
      refine AO.pure T rfl rfl rfl ?_
      refine AO.pure T rfl rfl rfl ?_
      refine AO.nil ?_
      refine AW.cond (b := (y2.skater != v8)) rfl (fun hc => ?_) (fun hc => ?_)
      · replace hH := condT hc hH
        refine AW.seq ?_
        refine AW.region ?_
        refine AO.pure T rfl rfl rfl ?_
        refine AO.nil ?_
        refine AW.ret ?_
        cases someE hH
        exact ⟨trivial, _, [], rfl, .c (.c .v), by decide⟩
      · replace hH := condF hc hH
        refine AW.skip ?_
        refine AW.seq ?_
        refine AW.region ?_
        refine AO.pure T rfl rfl rfl ?_
        refine AO.val rfl rfl (arw_ok rfl rfl rfl rfl) ?_
        refine AO.pure T rfl rfl rfl ?_
        refine AO.nil ?_
        refine AW.seq ?_
        refine AW.seq ?_
        refine AW.region ?_
        refine AO.pure T rfl rfl rfl ?_
        refine AO.pure T rfl rfl rfl ?_
        refine AO.val rfl rfl (ix_map_ok T rfl rfl rfl rfl rfl (getI_drop hd4) rfl) ?_
        refine AO.pure T rfl rfl rfl ?_
        refine AO.pure T rfl rfl rfl ?_
        refine AO.pure T rfl rfl rfl ?_
        refine AO.pure T rfl rfl rfl ?_
        refine AO.nil ?_
        refine AW.cond (b := (y2.rank != (w64 (v8 + 1)))) rfl (fun hc => ?_) (fun hc => ?_)
        · replace hH := condT hc hH
          refine AW.seq ?_
          refine AW.region ?_
          refine AO.pure T rfl rfl rfl ?_
          refine AO.nil ?_
          refine AW.ret ?_
          cases someE hH
          exact ⟨trivial, _, [], rfl, .c (.c .v), by decide⟩
        · replace hH := condF hc hH
          refine AW.skip ?_
          refine AW.region ?_
          refine AO.pure T rfl rfl rfl ?_
          refine AO.val rfl rfl (arw_ok rfl rfl rfl rfl) ?_
          refine AO.pure T rfl rfl rfl ?_
          refine AO.nil ?_
          refine AW.le (Le.cut 0 0 (σ' := (⟨[(0, .s (List.map encEntrant a)), (1, .v (.int .i64 (w64 ((w64 (v8 + 1)) + 1)))), (5, .v (.int .i64 (k1 : Int)))], [], 31, []⟩ : St)) rfl (by repeat' (first | exact trivial | refine ⟨⟨_, rfl, rfl⟩, ?_⟩)) (by repeat' (first | exact trivial | refine ⟨⟨_, rfl, rfl⟩, ?_⟩)) rfl) ?_
          refine AW.region ?_
          refine AO.pure T rfl rfl rfl ?_
          refine AO.val rfl rfl (ar_ok rfl rfl rfl rfl (inI_succ hlt6 hb5)) ?_
          refine AO.pure T rfl rfl rfl ?_
          refine AO.nil ?_
          refine ⟨(k1 + 1, w64 ((w64 (v8 + 1)) + 1)), ⟨Nat.succ_le_of_lt hlt6, (by rw [drop_succ_of hd4]; exact hH)⟩, (by have := hlt6; dsimp only; omega), ?_⟩
          exact Le.cut 0 0 rfl (by repeat' (first | exact trivial | refine ⟨⟨_, rfl, rfl⟩, ?_⟩)) (by repeat' (first | exact trivial | refine ⟨⟨_, rfl, rfl⟩, ?_⟩)) rfl

def laws_heldIntS_l1 : List Int → Nat → Int → Option Int
  | [], k1, v8 =>
    some v8
  | y2 :: ys3, k1, v8 =>
    cond (y2 != v8)
      (some (-1))
      (laws_heldIntS_l1 ys3 (k1 + 1) (w64 (v8 + 1)))
def laws_heldIntS_p (a : List Int) (k : Int) : Option Int :=
  laws_heldIntS_l1 a 0 k
theorem laws_heldIntS_ok (a : List Int) (k : Int) (r : Int) (hH : laws_heldIntS_p a k = some r) : SpecR Tryz.prog 23 [.s (List.map encInt a), .v (.int .i64 k)] (.v (.int .i64 r)) := by
  refine fn_ok T Tryz.func23 rfl (by decide) rfl ?_
  refine AW.seq ?_
  refine AW.region ?_
  refine AO.pure T rfl rfl rfl ?_
  refine AO.nil ?_
  refine AW.seq ?_
  refine AW.seq ?_
  refine AW.region ?_
  refine AO.pure T rfl rfl rfl ?_
  refine AO.nil ?_
  refine AW.block ?_
  refine AW.loopS (fun s : Nat × Int => (⟨[(0, .s (List.map encInt a)), (1, .v (.int .i64 s.2)), (5, .v (.int .i64 (s.1 : Int)))], [], 21, []⟩ : St)) (fun s => s.1 ≤ a.length ∧ laws_heldIntS_l1 (a.drop s.1) s.1 s.2 = some r) (fun s => a.length - s.1) (0, k) ⟨Nat.zero_le _, hH⟩ ?_ ?_
  · exact Le.cut 0 0 rfl (by repeat' (first | exact trivial | refine ⟨⟨_, rfl, rfl⟩, ?_⟩)) (by repeat' (first | exact trivial | refine ⟨⟨_, rfl, rfl⟩, ?_⟩)) rfl
  · rintro ⟨k1, v8⟩ ⟨hk, hH⟩
    replace hH : laws_heldIntS_l1 (a.drop k1) k1 v8 = some r := hH
    show AW _ _ _ (⟨[(0, .s (List.map encInt a)), (1, .v (.int .i64 v8)), (5, .v (.int .i64 (k1 : Int)))], [], 21, []⟩ : St)
    refine AW.boundM (t := 0) (l := a) rfl (fun hb5 => ?_)
    cases hd4 : a.drop k1 with
    | nil =>
      rw [hd4] at hH
      rw [laws_heldIntS_l1] at hH
      have hlt6 := drop_ge hd4
      refine AW.seq ?_
      refine AW.seq ?_
      refine AW.region ?_
      refine AO.pure T rfl rfl rfl ?_
      refine AO.pure T rfl rfl rfl ?_
      refine AO.val rfl rfl (len_map_ok T rfl rfl rfl) ?_
      refine AO.pure T rfl rfl rfl ?_
      refine AO.nil ?_
      refine AW.condF' (b := decide ((k1 : Int) < (a.length : Int))) rfl (rngF hlt6) ?_
      refine AW.exit ?_
      refine AW.seq ?_
      refine AW.region ?_
      refine AO.pure T rfl rfl rfl ?_
      refine AO.pure T rfl rfl rfl ?_
      refine AO.nil ?_
      refine AW.ret ?_
      cases someE hH
      exact ⟨trivial, _, [], rfl, .c (.c .v), by decide⟩
    | cons y2 ys3 =>
      rw [hd4] at hH
      rw [laws_heldIntS_l1] at hH
      have hlt6 := drop_lt hd4
      refine AW.seq ?_
      refine AW.seq ?_
      refine AW.region ?_
      refine AO.pure T rfl rfl rfl ?_
      refine AO.pure T rfl rfl rfl ?_
      refine AO.val rfl rfl (len_map_ok T rfl rfl rfl) ?_
      refine AO.pure T rfl rfl rfl ?_
      refine AO.nil ?_
      refine AW.condT' (b := decide ((k1 : Int) < (a.length : Int))) rfl (rngT hlt6) ?_
      refine AW.skip ?_
      refine AW.seq ?_
      refine AW.block ?_
      refine AW.seq ?_
      refine AW.seq ?_
      refine AW.region ?_
      refine AO.pure T rfl rfl rfl ?_
      refine AO.pure T rfl rfl rfl ?_
      refine AO.val rfl rfl (ix_map_ok T rfl rfl rfl rfl rfl (getI_drop hd4) rfl) ?_
      refine AO.pure T rfl rfl rfl ?_
      refine AO.pure T rfl rfl rfl ?_
      refine AO.pure T rfl rfl rfl ?_
      refine AO.nil ?_
      refine AW.cond (b := (y2 != v8)) rfl (fun hc => ?_) (fun hc => ?_)
      · replace hH := condT hc hH
        refine AW.seq ?_
        refine AW.region ?_
        refine AO.pure T rfl rfl rfl ?_
        refine AO.nil ?_
        refine AW.ret ?_
        cases someE hH
        exact ⟨trivial, _, [], rfl, .c (.c .v), by decide⟩
      · replace hH := condF hc hH
        refine AW.skip ?_
        refine AW.region ?_
        refine AO.pure T rfl rfl rfl ?_
        refine AO.val rfl rfl (arw_ok rfl rfl rfl rfl) ?_
        refine AO.pure T rfl rfl rfl ?_
        refine AO.nil ?_
        refine AW.region ?_
        refine AO.pure T rfl rfl rfl ?_
        refine AO.val rfl rfl (ar_ok rfl rfl rfl rfl (inI_succ hlt6 hb5)) ?_
        refine AO.pure T rfl rfl rfl ?_
        refine AO.nil ?_
        refine ⟨(k1 + 1, w64 (v8 + 1)), ⟨Nat.succ_le_of_lt hlt6, (by rw [drop_succ_of hd4]; exact hH)⟩, (by have := hlt6; dsimp only; omega), ?_⟩
        exact Le.cut 0 0 rfl (by repeat' (first | exact trivial | refine ⟨⟨_, rfl, rfl⟩, ?_⟩)) (by repeat' (first | exact trivial | refine ⟨⟨_, rfl, rfl⟩, ?_⟩)) rfl

def laws_heldResultS_l1 : List Result → Nat → Int → Option Int
  | [], k1, v12 =>
    some v12
  | y2 :: ys3, k1, v12 =>
    cond (y2.skater != v12)
      (some (-1))
      ((laws_heldIntS_p y2.scores (w64 (v12 + 1))).bind fun x14 =>
      cond (decide (x14 < 0))
        (some (-1))
        (laws_heldResultS_l1 ys3 (k1 + 1) x14))
def laws_heldResultS_p (a : List Result) (k : Int) : Option Int :=
  laws_heldResultS_l1 a 0 k
theorem laws_heldResultS_ok (a : List Result) (k : Int) (r : Int) (hH : laws_heldResultS_p a k = some r) : SpecR Tryz.prog 39 [.s (List.map encResult a), .v (.int .i64 k)] (.v (.int .i64 r)) := by
  refine fn_ok T Tryz.func39 rfl (by decide) rfl ?_
  refine AW.seq ?_
  refine AW.region ?_
  refine AO.pure T rfl rfl rfl ?_
  refine AO.nil ?_
  refine AW.seq ?_
  refine AW.seq ?_
  refine AW.region ?_
  refine AO.pure T rfl rfl rfl ?_
  refine AO.nil ?_
  refine AW.block ?_
  refine AW.loopS (fun s : Nat × Int => (⟨[(0, .s (List.map encResult a)), (1, .v (.int .i64 s.2)), (5, .v (.int .i64 (s.1 : Int)))], [], 31, []⟩ : St)) (fun s => s.1 ≤ a.length ∧ laws_heldResultS_l1 (a.drop s.1) s.1 s.2 = some r) (fun s => a.length - s.1) (0, k) ⟨Nat.zero_le _, hH⟩ ?_ ?_
  · exact Le.cut 0 0 rfl (by repeat' (first | exact trivial | refine ⟨⟨_, rfl, rfl⟩, ?_⟩)) (by repeat' (first | exact trivial | refine ⟨⟨_, rfl, rfl⟩, ?_⟩)) rfl
  · rintro ⟨k1, v12⟩ ⟨hk, hH⟩
    replace hH : laws_heldResultS_l1 (a.drop k1) k1 v12 = some r := hH
    show AW _ _ _ (⟨[(0, .s (List.map encResult a)), (1, .v (.int .i64 v12)), (5, .v (.int .i64 (k1 : Int)))], [], 31, []⟩ : St)
    refine AW.boundM (t := 0) (l := a) rfl (fun hb5 => ?_)
    cases hd4 : a.drop k1 with
    | nil =>
      rw [hd4] at hH
      rw [laws_heldResultS_l1] at hH
      have hlt6 := drop_ge hd4
      refine AW.seq ?_
      refine AW.seq ?_
      refine AW.region ?_
      refine AO.pure T rfl rfl rfl ?_
      refine AO.pure T rfl rfl rfl ?_
      refine AO.val rfl rfl (len_map_ok T rfl rfl rfl) ?_
      refine AO.pure T rfl rfl rfl ?_
      refine AO.nil ?_
      refine AW.condF' (b := decide ((k1 : Int) < (a.length : Int))) rfl (rngF hlt6) ?_
      refine AW.exit ?_
      refine AW.seq ?_
      refine AW.region ?_
      refine AO.pure T rfl rfl rfl ?_
      refine AO.pure T rfl rfl rfl ?_
      refine AO.nil ?_
      refine AW.ret ?_
      cases someE hH
      exact ⟨trivial, _, [], rfl, .c (.c .v), by decide⟩
    | cons y2 ys3 =>
      rw [hd4] at hH
      rw [laws_heldResultS_l1] at hH
      have hlt6 := drop_lt hd4
      refine AW.seq ?_
      refine AW.seq ?_
      refine AW.region ?_
      refine AO.pure T rfl rfl rfl ?_
      refine AO.pure T rfl rfl rfl ?_
      refine AO.val rfl rfl (len_map_ok T rfl rfl rfl) ?_
      refine AO.pure T rfl rfl rfl ?_
      refine AO.nil ?_
      refine AW.condT' (b := decide ((k1 : Int) < (a.length : Int))) rfl (rngT hlt6) ?_
      refine AW.skip ?_
      refine AW.seq ?_
      refine AW.block ?_
      refine AW.seq ?_
      refine AW.seq ?_
      refine AW.region ?_
      refine AO.pure T rfl rfl rfl ?_
      refine AO.pure T rfl rfl rfl ?_
      refine AO.val rfl rfl (ix_map_ok T rfl rfl rfl rfl rfl (getI_drop hd4) rfl) ?_
      refine AO.pure T rfl rfl rfl ?_
      refine AO.pure T rfl rfl rfl ?_
      refine AO.pure T rfl rfl rfl ?_
      refine AO.pure T rfl rfl rfl ?_
      refine AO.nil ?_
      refine AW.cond (b := (y2.skater != v12)) rfl (fun hc => ?_) (fun hc => ?_)
      · replace hH := condT hc hH
        refine AW.seq ?_
        refine AW.region ?_
        refine AO.pure T rfl rfl rfl ?_
        refine AO.nil ?_
        refine AW.ret ?_
        cases someE hH
        exact ⟨trivial, _, [], rfl, .c (.c .v), by decide⟩
      · replace hH := condF hc hH
        refine AW.skip ?_
        refine AW.seq ?_
        refine AW.region ?_
        refine AO.pure T rfl rfl rfl ?_
        refine AO.val rfl rfl (arw_ok rfl rfl rfl rfl) ?_
        refine AO.pure T rfl rfl rfl ?_
        refine AO.nil ?_
        refine AW.seq ?_
        obtain ⟨x14, hx15, hH⟩ := bindE hH
        refine AW.region ?_
        refine AO.pure T rfl rfl rfl ?_
        refine AO.pure T rfl rfl rfl ?_
        refine AO.val rfl rfl (ix_map_ok T rfl rfl rfl rfl rfl (getI_drop hd4) rfl) ?_
        refine AO.pure T rfl rfl rfl ?_
        refine AO.pure T rfl rfl rfl ?_
        refine AO.pure T rfl rfl rfl ?_
        refine AO.val rfl rfl (callV_ok rfl rfl rfl rfl (laws_heldIntS_ok _ _ _ (hx15)) rfl) ?_
        refine AO.pure T rfl rfl rfl ?_
        refine AO.nil ?_
        refine AW.seq ?_
        refine AW.region ?_
        refine AO.pure T rfl rfl rfl ?_
        refine AO.pure T rfl rfl rfl ?_
        refine AO.nil ?_
        refine AW.le (Le.cut 0 0 (σ' := (⟨[(0, .s (List.map encResult a)), (1, .v (.int .i64 x14)), (5, .v (.int .i64 (k1 : Int))), (29, .v (.bool (decide (x14 < 0))))], [], 31, []⟩ : St)) rfl (by repeat' (first | exact trivial | refine ⟨⟨_, rfl, rfl⟩, ?_⟩)) (by repeat' (first | exact trivial | refine ⟨⟨_, rfl, rfl⟩, ?_⟩)) rfl) ?_
        refine AW.cond (b := decide (x14 < 0)) rfl (fun hc => ?_) (fun hc => ?_)
        · replace hH := condT hc hH
          refine AW.seq ?_
          refine AW.region ?_
          refine AO.pure T rfl rfl rfl ?_
          refine AO.nil ?_
          refine AW.ret ?_
          cases someE hH
          exact ⟨trivial, _, [], rfl, .c (.c .v), by decide⟩
        · replace hH := condF hc hH
          refine AW.skip ?_
          refine AW.region ?_
          refine AO.pure T rfl rfl rfl ?_
          refine AO.val rfl rfl (ar_ok rfl rfl rfl rfl (inI_succ hlt6 hb5)) ?_
          refine AO.pure T rfl rfl rfl ?_
          refine AO.nil ?_
          refine ⟨(k1 + 1, x14), ⟨Nat.succ_le_of_lt hlt6, (by rw [drop_succ_of hd4]; exact hH)⟩, (by have := hlt6; dsimp only; omega), ?_⟩
          exact Le.cut 0 0 rfl (by repeat' (first | exact trivial | refine ⟨⟨_, rfl, rfl⟩, ?_⟩)) (by repeat' (first | exact trivial | refine ⟨⟨_, rfl, rfl⟩, ?_⟩)) rfl

def laws_heldEvent_p (a : Event) (k : Int) : Option Int :=
  (laws_heldEntrantS_p a.entrants k).bind fun x1 =>
  cond (decide (x1 < 0))
    (some (-1))
    ((laws_heldIntS_p a.gone x1).bind fun x3 =>
    cond (decide (x3 < 0))
      (some (-1))
      ((laws_heldIntS_p a.order x3).bind fun x5 =>
      cond (decide (x5 < 0))
        (some (-1))
        ((laws_heldResultS_p a.results x5).bind fun x7 =>
        cond (decide (x7 < 0))
          (some (-1))
          (some x7))))
theorem laws_heldEvent_ok (a : Event) (k : Int) (r : Int) (hH : laws_heldEvent_p a k = some r) : SpecR Tryz.prog 14 [.g (encEvent a), .v (.int .i64 k)] (.v (.int .i64 r)) := by
  refine fn_ok T Tryz.func14 rfl (by decide) rfl ?_
  refine AW.seq ?_
  refine AW.region ?_
  refine AO.step rfl (box_ok T rfl 1 rfl rfl rfl rfl) ?_
  refine AO.pure T rfl rfl rfl ?_
  refine AO.nil ?_
  refine AW.seq ?_
  obtain ⟨x1, hx2, hH⟩ := bindE hH
  refine AW.region ?_
  refine AO.pure T rfl rfl rfl ?_
  refine AO.pure T rfl rfl rfl ?_
  refine AO.pure T rfl rfl rfl ?_
  refine AO.val rfl rfl (callV_ok rfl rfl rfl rfl (laws_heldEntrantS_ok _ _ _ (hx2)) rfl) ?_
  refine AO.pure T rfl rfl rfl ?_
  refine AO.nil ?_
  refine AW.seq ?_
  refine AW.seq ?_
  refine AW.region ?_
  refine AO.pure T rfl rfl rfl ?_
  refine AO.pure T rfl rfl rfl ?_
  refine AO.nil ?_
  refine AW.cond (b := decide (x1 < 0)) rfl (fun hc => ?_) (fun hc => ?_)
  · replace hH := condT hc hH
    refine AW.seq ?_
    refine AW.region ?_
    refine AO.pure T rfl rfl rfl ?_
    refine AO.nil ?_
    refine AW.ret ?_
    cases someE hH
    exact ⟨trivial, _, [], rfl, .c (.c .v), by decide⟩
  · replace hH := condF hc hH
    refine AW.skip ?_
    refine AW.seq ?_
    obtain ⟨x3, hx4, hH⟩ := bindE hH
    refine AW.region ?_
    refine AO.pure T rfl rfl rfl ?_
    refine AO.pure T rfl rfl rfl ?_
    refine AO.pure T rfl rfl rfl ?_
    refine AO.val rfl rfl (callV_ok rfl rfl rfl rfl (laws_heldIntS_ok _ _ _ (hx4)) rfl) ?_
    refine AO.pure T rfl rfl rfl ?_
    refine AO.nil ?_
    refine AW.seq ?_
    refine AW.seq ?_
    refine AW.region ?_
    refine AO.pure T rfl rfl rfl ?_
    refine AO.pure T rfl rfl rfl ?_
    refine AO.nil ?_
    refine AW.cond (b := decide (x3 < 0)) rfl (fun hc => ?_) (fun hc => ?_)
    · replace hH := condT hc hH
      refine AW.seq ?_
      refine AW.region ?_
      refine AO.pure T rfl rfl rfl ?_
      refine AO.nil ?_
      refine AW.ret ?_
      cases someE hH
      exact ⟨trivial, _, [], rfl, .c (.c .v), by decide⟩
    · replace hH := condF hc hH
      refine AW.skip ?_
      refine AW.seq ?_
      obtain ⟨x5, hx6, hH⟩ := bindE hH
      refine AW.region ?_
      refine AO.pure T rfl rfl rfl ?_
      refine AO.pure T rfl rfl rfl ?_
      refine AO.pure T rfl rfl rfl ?_
      refine AO.val rfl rfl (callV_ok rfl rfl rfl rfl (laws_heldIntS_ok _ _ _ (hx6)) rfl) ?_
      refine AO.pure T rfl rfl rfl ?_
      refine AO.nil ?_
      refine AW.seq ?_
      refine AW.seq ?_
      refine AW.region ?_
      refine AO.pure T rfl rfl rfl ?_
      refine AO.pure T rfl rfl rfl ?_
      refine AO.nil ?_
      refine AW.cond (b := decide (x5 < 0)) rfl (fun hc => ?_) (fun hc => ?_)
      · replace hH := condT hc hH
        refine AW.seq ?_
        refine AW.region ?_
        refine AO.pure T rfl rfl rfl ?_
        refine AO.nil ?_
        refine AW.le (Le.cut 0 0 (σ' := (⟨[(4, .v (.int .i64 (-1)))], [], 30, []⟩ : St)) rfl (by repeat' (first | exact trivial | refine ⟨⟨_, rfl, rfl⟩, ?_⟩)) (by repeat' (first | exact trivial | refine ⟨⟨_, rfl, rfl⟩, ?_⟩)) rfl) ?_
        refine AW.ret ?_
        cases someE hH
        exact ⟨trivial, _, [], rfl, .c (.c .v), by decide⟩
      · replace hH := condF hc hH
        refine AW.skip ?_
        refine AW.seq ?_
        obtain ⟨x7, hx8, hH⟩ := bindE hH
        refine AW.region ?_
        refine AO.pure T rfl rfl rfl ?_
        refine AO.pure T rfl rfl rfl ?_
        refine AO.pure T rfl rfl rfl ?_
        refine AO.val rfl rfl (callV_ok rfl rfl rfl rfl (laws_heldResultS_ok _ _ _ (hx8)) rfl) ?_
        refine AO.pure T rfl rfl rfl ?_
        refine AO.nil ?_
        refine AW.le (Le.cut 0 0 (σ' := (⟨[(1, .v (.int .i64 x7))], [], 30, []⟩ : St)) rfl (by repeat' (first | exact trivial | refine ⟨⟨_, rfl, rfl⟩, ?_⟩)) (by repeat' (first | exact trivial | refine ⟨⟨_, rfl, rfl⟩, ?_⟩)) rfl) ?_
        refine AW.seq ?_
        refine AW.seq ?_
        refine AW.region ?_
        refine AO.pure T rfl rfl rfl ?_
        refine AO.pure T rfl rfl rfl ?_
        refine AO.nil ?_
        refine AW.cond (b := decide (x7 < 0)) rfl (fun hc => ?_) (fun hc => ?_)
        · replace hH := condT hc hH
          refine AW.seq ?_
          refine AW.region ?_
          refine AO.pure T rfl rfl rfl ?_
          refine AO.nil ?_
          refine AW.ret ?_
          cases someE hH
          exact ⟨trivial, _, [], rfl, .c (.c .v), by decide⟩
        · replace hH := condF hc hH
          refine AW.skip ?_
          refine AW.seq ?_
          refine AW.region ?_
          refine AO.pure T rfl rfl rfl ?_
          refine AO.pure T rfl rfl rfl ?_
          refine AO.nil ?_
          refine AW.ret ?_
          cases someE hH
          exact ⟨trivial, _, [], rfl, .c (.c .v), by decide⟩

def laws_FnExactGiveScore_p (fuel : Nat) (aE : Event) (aScore : Int) : Option Bool :=
  (laws_szEvent_p aE 1048576).bind fun x1 =>
  cond (decide (x1 < 0))
    (some true)
    ((laws_toEvent_p aE).bind fun x3 =>
    (spec_GiveScore_p fuel x3 aScore).bind fun x5 =>
    (impl_GiveScore_p fuel x3 aScore).bind fun x7 =>
    (laws_eqEvent_p (Event.mk x7.1.segments x7.1.size x7.1.key x7.1.entrants x7.1.gone x7.1.segment x7.1.order x7.1.results) (Event.mk x5.1.segments x5.1.size x5.1.key x5.1.entrants x5.1.gone x5.1.segment x5.1.order x5.1.results)).bind fun x9 =>
    cond ((!x9) || (!(x7.2 == x5.2)))
      (some false)
      ((laws_eqEvent_p x3 x3).bind fun x11 =>
      cond (!x11)
        (some false)
        ((laws_markEvent_p fuel x3 1).bind fun x13 =>
        cond ((decide (x13.2 < 0) || (!x9)) || (!(x7.2 == x5.2)))
          (some false)
          ((laws_markEvent_p fuel (Event.mk x7.1.segments x7.1.size x7.1.key x7.1.entrants x7.1.gone x7.1.segment x7.1.order x7.1.results) 1).bind fun x15 =>
          (laws_heldEvent_p (Event.mk x7.1.segments x7.1.size x7.1.key x15.1.entrants x15.1.gone x7.1.segment x15.1.order x15.1.results) 1).bind fun x17 =>
          cond (decide (x17 < 0))
            (some false)
            (cond (x17 != x15.2)
              (some false)
              (cond ((!x9) || (!(x7.2 == x5.2)))
                (some false)
                (cond (decide (x17 < 0))
                  (some false)
                  (cond (x17 != x15.2)
                    (some false)
                    (some true)))))))))
theorem laws_FnExactGiveScore_ok (fuel : Nat) (aE : Event) (aScore : Int) (r : Bool) (hH : laws_FnExactGiveScore_p fuel aE aScore = some r) : SpecR Tryz.prog 5 [.g (encEvent aE), .v (.int .i64 aScore)] (.v (.bool r)) := by
  refine fn_ok T Tryz.func5 rfl (by decide) rfl ?_
  refine AW.seq ?_
  refine AW.region ?_
  refine AO.step rfl (box_ok T rfl 1 rfl rfl rfl rfl) ?_
  refine AO.pure T rfl rfl rfl ?_
  refine AO.nil ?_
  refine AW.seq ?_
  refine AW.region ?_
  refine AO.pure T rfl rfl rfl ?_
  refine AO.nil ?_
  refine AW.seq ?_
  obtain ⟨x1, hx2, hH⟩ := bindE hH
  refine AW.region ?_
  refine AO.pure T (d := .g [.v (.int .i64 aE.segments), .v (.int .i64 aE.size), .v (.int .i64 aE.key), .s (List.map encEntrant aE.entrants), .s (List.map encInt aE.gone), .v (.int .i64 aE.segment), .s (List.map encInt aE.order), .s (List.map encResult aE.results)]) rfl rfl rfl ?_
  refine AO.pure T rfl rfl rfl ?_
  refine AO.val rfl rfl (callV_ok rfl rfl rfl rfl (laws_szEvent_ok _ _ _ (hx2)) rfl) ?_
  refine AO.pure T rfl rfl rfl ?_
  refine AO.nil ?_
  refine AW.seq ?_
  refine AW.seq ?_
  refine AW.region ?_
  refine AO.pure T rfl rfl rfl ?_
  refine AO.pure T rfl rfl rfl ?_
  refine AO.nil ?_
  refine AW.cond (b := decide (x1 < 0)) rfl (fun hc => ?_) (fun hc => ?_)
  · replace hH := condT hc hH
    refine AW.seq ?_
    refine AW.region ?_
    refine AO.pure T rfl rfl rfl ?_
    refine AO.nil ?_
    refine AW.ret ?_
    cases someE hH
    exact ⟨trivial, _, [], rfl, .c (.c .v), by decide⟩
  · replace hH := condF hc hH
    refine AW.skip ?_
    refine AW.seq ?_
    obtain ⟨x3, hx4, hH⟩ := bindE hH
    obtain ⟨x5, hx6, hH⟩ := bindE hH
    refine AW.region ?_
    refine AO.pure T (d := .g [.v (.int .i64 aE.segments), .v (.int .i64 aE.size), .v (.int .i64 aE.key), .s (List.map encEntrant aE.entrants), .s (List.map encInt aE.gone), .v (.int .i64 aE.segment), .s (List.map encInt aE.order), .s (List.map encResult aE.results)]) rfl rfl rfl ?_
    refine AO.val rfl rfl (callF_ok rfl rfl rfl rfl (laws_toEvent_ok _ _ (hx4)) (.c (.g (frzEvent _)))) ?_
    refine AO.pure T rfl rfl rfl ?_
    refine AO.val rfl rfl (callV_ok rfl rfl rfl rfl (spec_GiveScore_ok fuel _ _ _ (hx6)) rfl) ?_
    refine AO.pure T rfl rfl rfl ?_
    refine AO.pure T (d := .g [.v (.int .i64 x5.1.segments), .v (.int .i64 x5.1.size), .v (.int .i64 x5.1.key), .s (List.map encEntrant x5.1.entrants), .s (List.map encInt x5.1.gone), .v (.int .i64 x5.1.segment), .s (List.map encInt x5.1.order), .s (List.map encResult x5.1.results)]) rfl rfl rfl ?_
    refine AO.pure T rfl rfl rfl ?_
    refine AO.step rfl (alloc_ok T rfl 2 rfl rfl rfl rfl rfl) ?_
    refine AO.step rfl (store_okE T rfl rfl rfl rfl rfl rfl rfl rfl rfl (ds' := [.v (.int .i64 x5.1.segments), .v (.int .i64 x5.1.size), .v (.int .i64 x5.1.key), .s (List.map encEntrant x5.1.entrants), .s (List.map encInt x5.1.gone), .v (.int .i64 x5.1.segment), .s (List.map encInt x5.1.order), .s (List.map encResult x5.1.results)]) rfl) ?_
    refine AO.pure T rfl rfl rfl ?_
    refine AO.nil ?_
    refine AW.seq ?_
    refine AW.region ?_
    refine AO.pure T (d := .g [.v (.int .i64 aE.segments), .v (.int .i64 aE.size), .v (.int .i64 aE.key), .s (List.map encEntrant aE.entrants), .s (List.map encInt aE.gone), .v (.int .i64 aE.segment), .s (List.map encInt aE.order), .s (List.map encResult aE.results)]) rfl rfl rfl ?_
    refine AO.step rfl (call_ok rfl 3 rfl rfl rfl (laws_toEvent_ok _ _ (hx4)) rfl rfl rfl) ?_
    refine AO.step rfl (alloc_ok T rfl 7 rfl rfl rfl rfl rfl) ?_
    refine AO.step rfl (store_okE T rfl rfl rfl rfl rfl rfl rfl rfl rfl (ds' := [.v (.int .i64 x3.segments), .v (.int .i64 x3.size), .v (.int .i64 x3.key), .R 3, .R 4, .v (.int .i64 x3.segment), .R 5, .R 6]) rfl) ?_
    refine AO.nil ?_
    refine AW.seq ?_
    obtain ⟨x7, hx8, hH⟩ := bindE hH
    refine AW.region ?_
    refine AO.pure T (d := .g [.v (.int .i64 x3.segments), .v (.int .i64 x3.size), .v (.int .i64 x3.key), .R 3, .R 4, .v (.int .i64 x3.segment), .R 5, .R 6]) rfl rfl rfl ?_
    refine AO.pure T rfl rfl rfl ?_
    refine AO.step rfl (callL_ok rfl 8 rfl rfl (es := [.g (encEvent x3), .v (.int .i64 aScore)]) (by exact ⟨lend_g (LendL.cons (.free rfl) (LendL.cons (.free rfl) (LendL.cons (.free rfl) (LendL.cons ((.rowR rfl (.map fun y => .vs rfl))) (LendL.cons ((.rowR rfl (.map fun y => .vs rfl))) (LendL.cons (.free rfl) (LendL.cons ((.rowR rfl (.map fun y => .vs rfl))) (LendL.cons ((.rowR rfl (.map fun y => frzResult y))) LendL.nil)))))))), .free rfl, trivial⟩) (impl_GiveScore_ok fuel _ _ _ (hx8)) (zfree_t (zfl (.cons (zfree_g (zfl (.cons (zfree_v _) (.cons (zfree_v _) (.cons (zfree_v _) (.cons (zfree_map (fun y => (.cons (zfree_v _) (.cons (zfree_v _) .nil)))) (.cons (zfree_map (fun y => (.cons (zfree_v _) .nil))) (.cons (zfree_v _) (.cons (zfree_map (fun y => (.cons (zfree_v _) .nil))) (.cons (zfree_map (fun y => (.cons (zfree_v _) (.cons (zfree_map (fun y => (.cons (zfree_v _) .nil))) .nil)))) .nil)))))))))) (.cons (zfree_v _) .nil)))) rfl rfl rfl) ?_
    refine AO.pure T rfl rfl rfl ?_
    refine AO.pure T (d := .g [.v (.int .i64 x7.1.segments), .v (.int .i64 x7.1.size), .v (.int .i64 x7.1.key), .R 8, .R 9, .v (.int .i64 x7.1.segment), .R 10, .R 11]) rfl rfl rfl ?_
    refine AO.pure T rfl rfl rfl ?_
    refine AO.step rfl (alloc_ok T rfl 12 rfl rfl rfl rfl rfl) ?_
    refine AO.step rfl (store_okE T rfl rfl rfl rfl rfl rfl rfl rfl rfl (ds' := [.v (.int .i64 x7.1.segments), .v (.int .i64 x7.1.size), .v (.int .i64 x7.1.key), .R 8, .R 9, .v (.int .i64 x7.1.segment), .R 10, .R 11]) rfl) ?_
    refine AO.pure T rfl rfl rfl ?_
    refine AO.nil ?_
    refine AW.le (Le.cut 0 0 (σ' := (⟨[(1, .v (.int .i64 aScore)), (2, .p 1 0), (6, .p 2 0), (7, .v (.bool x5.2)), (8, .p 7 0), (9, .p 12 0), (10, .v (.bool x7.2))], [(1, .box [.v (.int .i64 aE.segments), .v (.int .i64 aE.size), .v (.int .i64 aE.key), .s (List.map encEntrant aE.entrants), .s (List.map encInt aE.gone), .v (.int .i64 aE.segment), .s (List.map encInt aE.order), .s (List.map encResult aE.results)]), (2, .box [.v (.int .i64 x5.1.segments), .v (.int .i64 x5.1.size), .v (.int .i64 x5.1.key), .s (List.map encEntrant x5.1.entrants), .s (List.map encInt x5.1.gone), .v (.int .i64 x5.1.segment), .s (List.map encInt x5.1.order), .s (List.map encResult x5.1.results)]), (3, .row 2 (List.map encEntrant x3.entrants)), (4, .row 1 (List.map encInt x3.gone)), (5, .row 1 (List.map encInt x3.order)), (6, .row 2 (List.map encResultO x3.results)), (7, .box [.v (.int .i64 x3.segments), .v (.int .i64 x3.size), .v (.int .i64 x3.key), .R 3, .R 4, .v (.int .i64 x3.segment), .R 5, .R 6]), (8, .row 2 (List.map encEntrant x7.1.entrants)), (9, .row 1 (List.map encInt x7.1.gone)), (10, .row 1 (List.map encInt x7.1.order)), (11, .row 2 (List.map encResultO x7.1.results)), (12, .box [.v (.int .i64 x7.1.segments), .v (.int .i64 x7.1.size), .v (.int .i64 x7.1.key), .R 8, .R 9, .v (.int .i64 x7.1.segment), .R 10, .R 11])], 101, []⟩ : St)) rfl (by repeat' (first | exact trivial | refine ⟨⟨_, rfl, rfl⟩, ?_⟩)) (by repeat' (first | exact trivial | refine ⟨⟨_, rfl, rfl⟩, ?_⟩)) rfl) ?_
    refine AW.seq ?_
    refine AW.seq ?_
    obtain ⟨x9, hx10, hH⟩ := bindE hH
    refine AW.region ?_
    refine AO.pure T (d := .g [.v (.int .i64 x7.1.segments), .v (.int .i64 x7.1.size), .v (.int .i64 x7.1.key), .R 8, .R 9, .v (.int .i64 x7.1.segment), .R 10, .R 11]) rfl rfl rfl ?_
    refine AO.pure T (d := .g [.v (.int .i64 x5.1.segments), .v (.int .i64 x5.1.size), .v (.int .i64 x5.1.key), .s (List.map encEntrant x5.1.entrants), .s (List.map encInt x5.1.gone), .v (.int .i64 x5.1.segment), .s (List.map encInt x5.1.order), .s (List.map encResult x5.1.results)]) rfl rfl rfl ?_
    refine AO.val rfl rfl (callLV_ok rfl rfl rfl (es := [.g (encEvent (Event.mk x7.1.segments x7.1.size x7.1.key x7.1.entrants x7.1.gone x7.1.segment x7.1.order x7.1.results)), .g (encEvent (Event.mk x5.1.segments x5.1.size x5.1.key x5.1.entrants x5.1.gone x5.1.segment x5.1.order x5.1.results))]) ⟨lend_g (LendL.cons (.free rfl) (LendL.cons (.free rfl) (LendL.cons (.free rfl) (LendL.cons ((.rowR rfl (.map fun y => .vs rfl))) (LendL.cons ((.rowR rfl (.map fun y => .vs rfl))) (LendL.cons (.free rfl) (LendL.cons ((.rowR rfl (.map fun y => .vs rfl))) (LendL.cons ((.rowR rfl (.map fun y => frzResult y))) LendL.nil)))))))), .free rfl, trivial⟩ (laws_eqEvent_ok _ _ _ (hx10)) (zfree_v _) rfl) ?_
    refine AO.pure T rfl rfl rfl ?_
    refine AO.pure T rfl rfl rfl ?_
    refine AO.pureG T [] rfl trivial rfl rfl ?_
    refine AO.pureG T [] rfl trivial rfl rfl ?_
    refine AO.pureG T [41, 42] rfl ⟨fun h => h, fun h => h, trivial⟩ rfl rfl ?_
    refine AO.val rfl rfl (pick_or rfl rfl rfl rfl) ?_
    refine AO.nil ?_
    refine AW.cond (b := ((!x9) || (!(x7.2 == x5.2)))) rfl (fun hc => ?_) (fun hc => ?_)
    · replace hH := condT hc hH
      refine AW.seq ?_
      refine AW.region ?_
      refine AO.pure T rfl rfl rfl ?_
      refine AO.nil ?_
      refine AW.ret ?_
      cases someE hH
      exact ⟨trivial, _, [], rfl, .c (.c .v), by decide⟩
    · replace hH := condF hc hH
      refine AW.skip ?_
      refine AW.seq ?_
      refine AW.seq ?_
      obtain ⟨x11, hx12, hH⟩ := bindE hH
      refine AW.drawn 3 13 [] mix (by kernel_rfl) rfl ?_
      refine AD.pure T (d := .g [.v (.int .i64 x3.segments), .v (.int .i64 x3.size), .v (.int .i64 x3.key), .R 3, .R 4, .v (.int .i64 x3.segment), .R 5, .R 6]) rfl rfl rfl ?_
      refine AD.pure T (d := .g [.v (.int .i64 aE.segments), .v (.int .i64 aE.size), .v (.int .i64 aE.key), .s (List.map encEntrant aE.entrants), .s (List.map encInt aE.gone), .v (.int .i64 aE.segment), .s (List.map encInt aE.order), .s (List.map encResult aE.results)]) rfl rfl rfl ?_
      refine AD.q (FStep.call rfl rfl rfl rfl rfl (laws_toEvent_ok _ _ (hx4)) rfl rfl) (impT_names _ _) (impT_le _ _) rfl ?_
      refine AD.nil ?_
      refine AO.val rfl rfl (callLV_ok rfl rfl rfl (es := [.g (encEvent x3), .g (encEvent x3)]) ⟨lend_g (LendL.cons (.free rfl) (LendL.cons (.free rfl) (LendL.cons (.free rfl) (LendL.cons ((.rowR rfl (.map fun y => .vs rfl))) (LendL.cons ((.rowR rfl (.map fun y => .vs rfl))) (LendL.cons (.free rfl) (LendL.cons ((.rowR rfl (.map fun y => .vs rfl))) (LendL.cons ((.rowR rfl (.map fun y => frzResult y))) LendL.nil)))))))), lend_g (LendL.cons (.free rfl) (LendL.cons (.free rfl) (LendL.cons (.free rfl) (LendL.cons ((.rowR rfl (.map fun y => .vs rfl))) (LendL.cons ((.rowR rfl (.map fun y => .vs rfl))) (LendL.cons (.free rfl) (LendL.cons ((.rowR rfl (.map fun y => .vs rfl))) (LendL.cons ((.rowR rfl (.map fun y => frzResult y))) LendL.nil)))))))), trivial⟩ (laws_eqEvent_ok _ _ _ (hx12)) (zfree_v _) rfl) ?_
      refine AO.pure T rfl rfl rfl ?_
      refine AO.nil ?_
      refine AW.cond (b := (!x11)) rfl (fun hc => ?_) (fun hc => ?_)
      · replace hH := condT hc hH
        refine AW.seq ?_
        refine AW.region ?_
        refine AO.pure T rfl rfl rfl ?_
        refine AO.nil ?_
        refine AW.ret ?_
        cases someE hH
        exact ⟨trivial, _, [], rfl, .c (.c .v), by decide⟩
      · replace hH := condF hc hH
        refine AW.skip ?_
        refine AW.seq ?_
        refine AW.region ?_
        refine AO.pure T rfl rfl rfl ?_
        refine AO.nil ?_
        refine AW.seq ?_
        obtain ⟨x13, hx14, hH⟩ := bindE hH
        refine AW.region ?_
        refine AO.pure T (d := .g [.v (.int .i64 x3.segments), .v (.int .i64 x3.size), .v (.int .i64 x3.key), .R 3, .R 4, .v (.int .i64 x3.segment), .R 5, .R 6]) rfl rfl rfl ?_
        refine AO.pure T rfl rfl rfl ?_
        refine AO.step rfl (callM_ok rfl 17 rfl rfl (es := [.g (encEventO x3), .v (.int .i64 1)]) (outs := [.g [.u, .u, .u, .w 2 (x13.1.entrants.map encEntrant), .w 1 (x13.1.gone.map encInt), .u, .w 1 (x13.1.order.map encInt), .w 2 (x13.1.results.map encResultO)], .u]) (ids := [3, 4, 5, 6]) (by exact expLG_cons (.g (expLC_cons .v (expLC_cons .v (expLC_cons .v (expLC_cons (.rowR rfl) (expLC_cons (.rowR rfl) (expLC_cons .v (expLC_cons (.rowR rfl) (expLC_cons (.rowR rfl) (expLC_nil)))))))))) (expLG_cons (.c .v) (expLG_nil))) (by decide) (.inl (by rfl)) (by rfl) (laws_markEvent_ok fuel _ _ _ (hx14)) rfl (by rfl) rfl) ?_
        refine AO.pure T rfl rfl rfl ?_
        refine AO.nil ?_
        refine AW.seq ?_
        refine AW.seq ?_
        refine AW.region ?_
        refine AO.pure T rfl rfl rfl ?_
        refine AO.pure T rfl rfl rfl ?_
        refine AO.pure T rfl rfl rfl ?_
        refine AO.pureG T (d := .g [.v (.int .i64 x7.1.segments), .v (.int .i64 x7.1.size), .v (.int .i64 x7.1.key), .R 8, .R 9, .v (.int .i64 x7.1.segment), .R 10, .R 11]) [] rfl trivial rfl rfl ?_
        refine AO.pureG T (d := .g [.v (.int .i64 x5.1.segments), .v (.int .i64 x5.1.size), .v (.int .i64 x5.1.key), .s (List.map encEntrant x5.1.entrants), .s (List.map encInt x5.1.gone), .v (.int .i64 x5.1.segment), .s (List.map encInt x5.1.order), .s (List.map encResult x5.1.results)]) [] rfl trivial rfl rfl ?_
        refine AO.guard [56, 57] rfl ⟨fun h => h, fun h => h, trivial⟩ (fun hg => callLV_ok rfl rfl rfl (es := [.g (encEvent (Event.mk x7.1.segments x7.1.size x7.1.key x7.1.entrants x7.1.gone x7.1.segment x7.1.order x7.1.results)), .g (encEvent (Event.mk x5.1.segments x5.1.size x5.1.key x5.1.entrants x5.1.gone x5.1.segment x5.1.order x5.1.results))]) ⟨lend_g (LendL.cons (.free rfl) (LendL.cons (.free rfl) (LendL.cons (.free rfl) (LendL.cons ((.rowR rfl (.map fun y => .vs rfl))) (LendL.cons ((.rowR rfl (.map fun y => .vs rfl))) (LendL.cons (.free rfl) (LendL.cons ((.rowR rfl (.map fun y => .vs rfl))) (LendL.cons ((.rowR rfl (.map fun y => frzResult y))) LendL.nil)))))))), .free rfl, trivial⟩ (laws_eqEvent_ok _ _ _ (hx10)) (zfree_v _) rfl) rfl ?_
        refine AO.pureG T [58] rfl ⟨fun h => h, trivial⟩ rfl rfl ?_
        refine AO.val rfl rfl (pick_or rfl rfl rfl rfl) ?_
        refine AO.pure T rfl rfl rfl ?_
        refine AO.pureG T [] rfl trivial rfl rfl ?_
        refine AO.pureG T [] rfl trivial rfl rfl ?_
        refine AO.pureG T [62, 63] rfl ⟨fun h => h, fun h => h, trivial⟩ rfl rfl ?_
        refine AO.val rfl rfl (pick_or rfl rfl rfl rfl) ?_
        refine AO.nil ?_
        refine AW.le (Le.cut 0 0 (σ' := (⟨[(1, .v (.int .i64 aScore)), (2, .p 1 0), (6, .p 2 0), (7, .v (.bool x5.2)), (9, .p 12 0), (65, .v (.bool ((decide (x13.2 < 0) || (!x9)) || (!(x7.2 == x5.2)))))], [(1, .box [.v (.int .i64 aE.segments), .v (.int .i64 aE.size), .v (.int .i64 aE.key), .s (List.map encEntrant aE.entrants), .s (List.map encInt aE.gone), .v (.int .i64 aE.segment), .s (List.map encInt aE.order), .s (List.map encResult aE.results)]), (2, .box [.v (.int .i64 x5.1.segments), .v (.int .i64 x5.1.size), .v (.int .i64 x5.1.key), .s (List.map encEntrant x5.1.entrants), .s (List.map encInt x5.1.gone), .v (.int .i64 x5.1.segment), .s (List.map encInt x5.1.order), .s (List.map encResult x5.1.results)]), (8, .row 2 (List.map encEntrant x7.1.entrants)), (9, .row 1 (List.map encInt x7.1.gone)), (10, .row 1 (List.map encInt x7.1.order)), (11, .row 2 (List.map encResultO x7.1.results)), (12, .box [.v (.int .i64 x7.1.segments), .v (.int .i64 x7.1.size), .v (.int .i64 x7.1.key), .R 8, .R 9, .v (.int .i64 x7.1.segment), .R 10, .R 11])], 101, []⟩ : St)) rfl (by repeat' (first | exact trivial | refine ⟨⟨_, rfl, rfl⟩, ?_⟩)) (by repeat' (first | exact trivial | refine ⟨⟨_, rfl, rfl⟩, ?_⟩)) rfl) ?_
        refine AW.cond (b := ((decide (x13.2 < 0) || (!x9)) || (!(x7.2 == x5.2)))) rfl (fun hc => ?_) (fun hc => ?_)
        · replace hH := condT hc hH
          refine AW.seq ?_
          refine AW.region ?_
          refine AO.pure T rfl rfl rfl ?_
          refine AO.nil ?_
          refine AW.ret ?_
          cases someE hH
          exact ⟨trivial, _, [], rfl, .c (.c .v), by decide⟩
        · replace hH := condF hc hH
          refine AW.skip ?_
          refine AW.seq ?_
          refine AW.region ?_
          refine AO.pure T rfl rfl rfl ?_
          refine AO.nil ?_
          refine AW.seq ?_
          obtain ⟨x15, hx16, hH⟩ := bindE hH
          refine AW.region ?_
          refine AO.pure T (d := .g [.v (.int .i64 x7.1.segments), .v (.int .i64 x7.1.size), .v (.int .i64 x7.1.key), .R 8, .R 9, .v (.int .i64 x7.1.segment), .R 10, .R 11]) rfl rfl rfl ?_
          refine AO.pure T rfl rfl rfl ?_
          refine AO.step rfl (callM_ok rfl 17 rfl rfl (es := [.g (encEventO (Event.mk x7.1.segments x7.1.size x7.1.key x7.1.entrants x7.1.gone x7.1.segment x7.1.order x7.1.results)), .v (.int .i64 1)]) (outs := [.g [.u, .u, .u, .w 2 (x15.1.entrants.map encEntrant), .w 1 (x15.1.gone.map encInt), .u, .w 1 (x15.1.order.map encInt), .w 2 (x15.1.results.map encResultO)], .u]) (ids := [8, 9, 10, 11]) (by exact expLG_cons (.g (expLC_cons .v (expLC_cons .v (expLC_cons .v (expLC_cons (.rowR rfl) (expLC_cons (.rowR rfl) (expLC_cons .v (expLC_cons (.rowR rfl) (expLC_cons (.rowR rfl) (expLC_nil)))))))))) (expLG_cons (.c .v) (expLG_nil))) (by decide) (.inl (by rfl)) (by rfl) (laws_markEvent_ok fuel _ _ _ (hx16)) rfl (by rfl) rfl) ?_
          refine AO.pure T rfl rfl rfl ?_
          refine AO.nil ?_
          refine AW.seq ?_
          refine AW.region ?_
          refine AO.pure T rfl rfl rfl ?_
          refine AO.nil ?_
          refine AW.seq ?_
          obtain ⟨x17, hx18, hH⟩ := bindE hH
          refine AW.region ?_
          refine AO.pure T (d := .g [.v (.int .i64 x7.1.segments), .v (.int .i64 x7.1.size), .v (.int .i64 x7.1.key), .R 8, .R 9, .v (.int .i64 x7.1.segment), .R 10, .R 11]) rfl rfl rfl ?_
          refine AO.pure T rfl rfl rfl ?_
          refine AO.val rfl rfl (callLV_ok rfl rfl rfl (es := [.g (encEvent (Event.mk x7.1.segments x7.1.size x7.1.key x15.1.entrants x15.1.gone x7.1.segment x15.1.order x15.1.results)), .v (.int .i64 1)]) ⟨lend_g (LendL.cons (.free rfl) (LendL.cons (.free rfl) (LendL.cons (.free rfl) (LendL.cons ((.rowR rfl (.map fun y => .vs rfl))) (LendL.cons ((.rowR rfl (.map fun y => .vs rfl))) (LendL.cons (.free rfl) (LendL.cons ((.rowR rfl (.map fun y => .vs rfl))) (LendL.cons ((.rowR rfl (.map fun y => frzResult y))) LendL.nil)))))))), .free rfl, trivial⟩ (laws_heldEvent_ok _ _ _ (hx18)) (zfree_v _) rfl) ?_
          refine AO.pure T rfl rfl rfl ?_
          refine AO.nil ?_
          refine AW.seq ?_
          refine AW.seq ?_
          refine AW.region ?_
          refine AO.pure T rfl rfl rfl ?_
          refine AO.pure T rfl rfl rfl ?_
          refine AO.nil ?_
          refine AW.cond (b := decide (x17 < 0)) rfl (fun hc => ?_) (fun hc => ?_)
          · replace hH := condT hc hH
            refine AW.seq ?_
            refine AW.region ?_
            refine AO.pure T rfl rfl rfl ?_
            refine AO.nil ?_
            refine AW.ret ?_
            cases someE hH
            exact ⟨trivial, _, [], rfl, .c (.c .v), by decide⟩
          · replace hH := condF hc hH
            refine AW.skip ?_
            refine AW.seq ?_
            refine AW.seq ?_
            refine AW.region ?_
            refine AO.pure T rfl rfl rfl ?_
            refine AO.pure T rfl rfl rfl ?_
            refine AO.pure T rfl rfl rfl ?_
            refine AO.nil ?_
            refine AW.cond (b := (x17 != x15.2)) rfl (fun hc => ?_) (fun hc => ?_)
            · replace hH := condT hc hH
              refine AW.seq ?_
              refine AW.region ?_
              refine AO.pure T rfl rfl rfl ?_
              refine AO.nil ?_
              refine AW.ret ?_
              cases someE hH
              exact ⟨trivial, _, [], rfl, .c (.c .v), by decide⟩
            · replace hH := condF hc hH
              refine AW.skip ?_
              refine AW.seq ?_
              refine AW.region ?_
              refine AO.pure T (d := .g [.v (.int .i64 aE.segments), .v (.int .i64 aE.size), .v (.int .i64 aE.key), .s (List.map encEntrant aE.entrants), .s (List.map encInt aE.gone), .v (.int .i64 aE.segment), .s (List.map encInt aE.order), .s (List.map encResult aE.results)]) rfl rfl rfl ?_
              refine AO.step rfl (call_ok rfl 17 rfl rfl rfl (laws_toEvent_ok _ _ (hx4)) rfl rfl rfl) ?_
              refine AO.pure T rfl rfl rfl ?_
              refine AO.step rfl (callL_ok rfl 21 rfl rfl (es := [.g (encEvent x3), .v (.int .i64 aScore)]) (by exact ⟨lend_g (LendL.cons (.free rfl) (LendL.cons (.free rfl) (LendL.cons (.free rfl) (LendL.cons ((.rowR rfl (.map fun y => .vs rfl))) (LendL.cons ((.rowR rfl (.map fun y => .vs rfl))) (LendL.cons (.free rfl) (LendL.cons ((.rowR rfl (.map fun y => .vs rfl))) (LendL.cons ((.rowR rfl (.map fun y => frzResult y))) LendL.nil)))))))), .free rfl, trivial⟩) (impl_GiveScore_ok fuel _ _ _ (hx8)) (zfree_t (zfl (.cons (zfree_g (zfl (.cons (zfree_v _) (.cons (zfree_v _) (.cons (zfree_v _) (.cons (zfree_map (fun y => (.cons (zfree_v _) (.cons (zfree_v _) .nil)))) (.cons (zfree_map (fun y => (.cons (zfree_v _) .nil))) (.cons (zfree_v _) (.cons (zfree_map (fun y => (.cons (zfree_v _) .nil))) (.cons (zfree_map (fun y => (.cons (zfree_v _) (.cons (zfree_map (fun y => (.cons (zfree_v _) .nil))) .nil)))) .nil)))))))))) (.cons (zfree_v _) .nil)))) rfl rfl rfl) ?_
              refine AO.pure T rfl rfl rfl ?_
              refine AO.pure T (d := .g [.v (.int .i64 x7.1.segments), .v (.int .i64 x7.1.size), .v (.int .i64 x7.1.key), .R 21, .R 22, .v (.int .i64 x7.1.segment), .R 23, .R 24]) rfl rfl rfl ?_
              refine AO.pure T rfl rfl rfl ?_
              refine AO.step rfl (alloc_ok T rfl 25 rfl rfl rfl rfl rfl) ?_
              refine AO.step rfl (store_okE T rfl rfl rfl rfl rfl rfl rfl rfl rfl (ds' := [.v (.int .i64 x7.1.segments), .v (.int .i64 x7.1.size), .v (.int .i64 x7.1.key), .R 21, .R 22, .v (.int .i64 x7.1.segment), .R 23, .R 24]) rfl) ?_
              refine AO.pure T rfl rfl rfl ?_
              refine AO.nil ?_
              refine AW.le (Le.cut 0 0 (σ' := (⟨[(6, .p 2 0), (7, .v (.bool x5.2)), (9, .p 12 0), (12, .v (.int .i64 x15.2)), (14, .p 25 0), (15, .v (.bool x7.2))], [(2, .box [.v (.int .i64 x5.1.segments), .v (.int .i64 x5.1.size), .v (.int .i64 x5.1.key), .s (List.map encEntrant x5.1.entrants), .s (List.map encInt x5.1.gone), .v (.int .i64 x5.1.segment), .s (List.map encInt x5.1.order), .s (List.map encResult x5.1.results)]), (8, .row 2 (List.map encEntrant x15.1.entrants)), (9, .row 1 (List.map encInt x15.1.gone)), (10, .row 1 (List.map encInt x15.1.order)), (11, .row 2 (List.map encResultO x15.1.results)), (12, .box [.v (.int .i64 x7.1.segments), .v (.int .i64 x7.1.size), .v (.int .i64 x7.1.key), .R 8, .R 9, .v (.int .i64 x7.1.segment), .R 10, .R 11]), (21, .row 2 (List.map encEntrant x7.1.entrants)), (22, .row 1 (List.map encInt x7.1.gone)), (23, .row 1 (List.map encInt x7.1.order)), (24, .row 2 (List.map encResultO x7.1.results)), (25, .box [.v (.int .i64 x7.1.segments), .v (.int .i64 x7.1.size), .v (.int .i64 x7.1.key), .R 21, .R 22, .v (.int .i64 x7.1.segment), .R 23, .R 24])], 101, []⟩ : St)) rfl (by repeat' (first | exact trivial | refine ⟨⟨_, rfl, rfl⟩, ?_⟩)) (by repeat' (first | exact trivial | refine ⟨⟨_, rfl, rfl⟩, ?_⟩)) rfl) ?_
              refine AW.seq ?_
              refine AW.seq ?_
              refine AW.region ?_
              refine AO.pure T (d := .g [.v (.int .i64 x7.1.segments), .v (.int .i64 x7.1.size), .v (.int .i64 x7.1.key), .R 21, .R 22, .v (.int .i64 x7.1.segment), .R 23, .R 24]) rfl rfl rfl ?_
              refine AO.pure T (d := .g [.v (.int .i64 x5.1.segments), .v (.int .i64 x5.1.size), .v (.int .i64 x5.1.key), .s (List.map encEntrant x5.1.entrants), .s (List.map encInt x5.1.gone), .v (.int .i64 x5.1.segment), .s (List.map encInt x5.1.order), .s (List.map encResult x5.1.results)]) rfl rfl rfl ?_
              refine AO.val rfl rfl (callLV_ok rfl rfl rfl (es := [.g (encEvent (Event.mk x7.1.segments x7.1.size x7.1.key x7.1.entrants x7.1.gone x7.1.segment x7.1.order x7.1.results)), .g (encEvent (Event.mk x5.1.segments x5.1.size x5.1.key x5.1.entrants x5.1.gone x5.1.segment x5.1.order x5.1.results))]) ⟨lend_g (LendL.cons (.free rfl) (LendL.cons (.free rfl) (LendL.cons (.free rfl) (LendL.cons ((.rowR rfl (.map fun y => .vs rfl))) (LendL.cons ((.rowR rfl (.map fun y => .vs rfl))) (LendL.cons (.free rfl) (LendL.cons ((.rowR rfl (.map fun y => .vs rfl))) (LendL.cons ((.rowR rfl (.map fun y => frzResult y))) LendL.nil)))))))), .free rfl, trivial⟩ (laws_eqEvent_ok _ _ _ (hx10)) (zfree_v _) rfl) ?_
              refine AO.pure T rfl rfl rfl ?_
              refine AO.pure T rfl rfl rfl ?_
              refine AO.pureG T [] rfl trivial rfl rfl ?_
              refine AO.pureG T [] rfl trivial rfl rfl ?_
              refine AO.pureG T [89, 90] rfl ⟨fun h => h, fun h => h, trivial⟩ rfl rfl ?_
              refine AO.val rfl rfl (pick_or rfl rfl rfl rfl) ?_
              refine AO.nil ?_
              refine AW.cond (b := ((!x9) || (!(x7.2 == x5.2)))) rfl (fun hc => ?_) (fun hc => ?_)
              · replace hH := condT hc hH
                refine AW.seq ?_
                refine AW.region ?_
                refine AO.pure T rfl rfl rfl ?_
                refine AO.nil ?_
                refine AW.ret ?_
                cases someE hH
                exact ⟨trivial, _, [], rfl, .c (.c .v), by decide⟩
              · replace hH := condF hc hH
                refine AW.skip ?_
                refine AW.seq ?_
                refine AW.region ?_
                refine AO.pure T rfl rfl rfl ?_
                refine AO.nil ?_
                refine AW.seq ?_
                refine AW.region ?_
                refine AO.pure T (d := .g [.v (.int .i64 x7.1.segments), .v (.int .i64 x7.1.size), .v (.int .i64 x7.1.key), .R 8, .R 9, .v (.int .i64 x7.1.segment), .R 10, .R 11]) rfl rfl rfl ?_
                refine AO.pure T rfl rfl rfl ?_
                refine AO.val rfl rfl (callLV_ok rfl rfl rfl (es := [.g (encEvent (Event.mk x7.1.segments x7.1.size x7.1.key x15.1.entrants x15.1.gone x7.1.segment x15.1.order x15.1.results)), .v (.int .i64 1)]) ⟨lend_g (LendL.cons (.free rfl) (LendL.cons (.free rfl) (LendL.cons (.free rfl) (LendL.cons ((.rowR rfl (.map fun y => .vs rfl))) (LendL.cons ((.rowR rfl (.map fun y => .vs rfl))) (LendL.cons (.free rfl) (LendL.cons ((.rowR rfl (.map fun y => .vs rfl))) (LendL.cons ((.rowR rfl (.map fun y => frzResult y))) LendL.nil)))))))), .free rfl, trivial⟩ (laws_heldEvent_ok _ _ _ (hx18)) (zfree_v _) rfl) ?_
                refine AO.pure T rfl rfl rfl ?_
                refine AO.nil ?_
                refine AW.seq ?_
                refine AW.seq ?_
                refine AW.region ?_
                refine AO.pure T rfl rfl rfl ?_
                refine AO.pure T rfl rfl rfl ?_
                refine AO.nil ?_
                refine AW.cond (b := decide (x17 < 0)) rfl (fun hc => ?_) (fun hc => ?_)
                · replace hH := condT hc hH
                  refine AW.seq ?_
                  refine AW.region ?_
                  refine AO.pure T rfl rfl rfl ?_
                  refine AO.nil ?_
                  refine AW.ret ?_
                  cases someE hH
                  exact ⟨trivial, _, [], rfl, .c (.c .v), by decide⟩
                · replace hH := condF hc hH
                  refine AW.skip ?_
                  refine AW.seq ?_
                  refine AW.seq ?_
                  refine AW.region ?_
                  refine AO.pure T rfl rfl rfl ?_
                  refine AO.pure T rfl rfl rfl ?_
                  refine AO.pure T rfl rfl rfl ?_
                  refine AO.nil ?_
                  refine AW.cond (b := (x17 != x15.2)) rfl (fun hc => ?_) (fun hc => ?_)
                  · replace hH := condT hc hH
                    refine AW.seq ?_
                    refine AW.region ?_
                    refine AO.pure T rfl rfl rfl ?_
                    refine AO.nil ?_
                    refine AW.ret ?_
                    cases someE hH
                    exact ⟨trivial, _, [], rfl, .c (.c .v), by decide⟩
                  · replace hH := condF hc hH
                    refine AW.skip ?_
                    refine AW.seq ?_
                    refine AW.region ?_
                    refine AO.pure T rfl rfl rfl ?_
                    refine AO.nil ?_
                    refine AW.ret ?_
                    cases someE hH
                    exact ⟨trivial, _, [], rfl, .c (.c .v), by decide⟩

end Go.Proofs.YtioegmjleofmeaaGreat

/- The walk, part 2: what each function reached by the law FnExactParseHistory computes. No condition. -/
import Derived.Test.YtjbkbiofklgblaaDoorWalk1
set_option maxRecDepth 4000
set_option maxHeartbeats 1000000
set_option linter.unusedVariables false
set_option linter.unusedSimpArgs false
set_option linter.unusedSectionVars false

namespace Go.Proofs.YtjbkbiofklgblaaDoor
open Go.AM

def laws_eqIntS_l1 (b : List Int) : List Int → Nat → Option Bool
  | [], k1 =>
    some true
  | y2 :: ys3, k1 =>
    (getI b (k1 : Int)).bind fun x12 =>
    cond (y2 != x12)
      (some false)
      (laws_eqIntS_l1 b ys3 (k1 + 1))
def laws_eqIntS_p (a : List Int) (b : List Int) : Option Bool :=
  cond ((a.length : Int) != (b.length : Int))
    (some false)
    (laws_eqIntS_l1 b a 0)
theorem laws_eqIntS_ok (a : List Int) (b : List Int) (r : Bool) (hH : laws_eqIntS_p a b = some r) : SpecR Tryd.prog 52 [.s (List.map encInt a), .s (List.map encInt b)] (.v (.bool r)) := by
 refine fn_ok T Tryd.func52 rfl (by decide) rfl ?_
 refine AW.seq (AW.region ?_)
 refine AO.pu T ?_
 refine AO.nil ?_
 iterate 2 refine AW.seq ?_
 refine AW.region ?_
 refine AO.pu T ?_
 refine AO.val rfl rfl (len_map_ok T rfl rfl rfl) ?_
 refine AO.pu T ?_
 refine AO.val rfl rfl (len_map_ok T rfl rfl rfl) ?_
 refine AO.pu T ?_
 refine AO.nil ?_
 refine AW.cond (b := ((a.length : Int) != (b.length : Int))) rfl (fun hc => ?_) (fun hc => ?_)
 replace hH := condT hc hH
 refine AW.seq (AW.region ?_)
 refine AO.pu T ?_
 refine AO.nil (AW.ret ?_)
 have hR := someE hH; subst hR
 exact retQ.i [] rfl (.c (.c .v))
 replace hH := condF hc hH
 refine AW.skip ?_
 iterate 2 refine AW.seq ?_
 refine AW.region ?_
 refine AO.pu T ?_
 refine AO.nil ?_
 refine AW.block ?_
 refine AW.loopS (fun s : Nat => (⟨[(0, .s (List.map encInt a)), (1, .s (List.map encInt b)), (5, (s : Int))], [], 26, []⟩ : St)) (fun s => s ≤ a.length ∧ laws_eqIntS_l1 b (a.drop s) s = some r) (fun s => a.length - s) 0 ⟨Nat.zero_le _, hH⟩ ?_ ?_
 exact Le.ct 0 0
 rintro k1 ⟨hk, hH⟩
 replace hH : laws_eqIntS_l1 b (a.drop k1) k1 = some r := hH
 try dsimp only
 refine AW.boundM (t := 0) (l := a) rfl (fun hb5 => ?_)
 rcases hd4 : a.drop k1 with _ | ⟨y2, ys3⟩
 rw [hd4, laws_eqIntS_l1] at hH
 have hlt6 := drop_ge hd4
 iterate 2 refine AW.seq ?_
 refine AW.region ?_
 iterate 2 refine AO.pu T ?_
 refine AO.val rfl rfl (len_map_ok T rfl rfl rfl) ?_
 refine AO.pu T ?_
 refine AO.nil ?_
 refine AW.condF' (b := decide ((k1 : Int) < (a.length : Int))) rfl (rngF hlt6) ?_
 refine AW.exit ?_
 refine AW.seq (AW.region ?_)
 refine AO.pu T ?_
 refine AO.nil (AW.ret ?_)
 have hR := someE hH; subst hR
 exact retQ.i [] rfl (.c (.c .v))
 rw [hd4, laws_eqIntS_l1] at hH
 have hlt6 := drop_lt hd4
 iterate 2 refine AW.seq ?_
 refine AW.region ?_
 iterate 2 refine AO.pu T ?_
 refine AO.val rfl rfl (len_map_ok T rfl rfl rfl) ?_
 refine AO.pu T ?_
 refine AO.nil ?_
 refine AW.condT' (b := decide ((k1 : Int) < (a.length : Int))) rfl (rngT hlt6) ?_
 refine AW.skip ?_
 refine AW.seq ?_
 refine AW.block ?_
 refine AW.seq ?_
 obtain ⟨x12, hx13, hH⟩ := bindE hH
 refine AW.drawn 8 1 [] mix (by kernel_rfl) rfl ?_
 iterate 2 refine AD.pure T rfl rfl rfl ?_
 refine AD.val rfl rfl (ix_map_ok T rfl rfl rfl rfl rfl (getI_drop hd4) rfl) ?_
 iterate 3 refine AD.pure T rfl rfl rfl ?_
 refine AD.val rfl rfl (ix_map_ok T rfl rfl rfl rfl rfl (hx13) rfl) ?_
 refine AD.pure T rfl rfl rfl ?_
 refine AD.nil ?_
 refine AO.pu T ?_
 refine AO.nil ?_
 refine AW.cond (b := (y2 != x12)) rfl (fun hc => ?_) (fun hc => ?_)
 replace hH := condT hc hH
 refine AW.seq (AW.region ?_)
 refine AO.pu T ?_
 refine AO.nil (AW.ret ?_)
 have hR := someE hH; subst hR
 exact retQ.i [] rfl (.c (.c .v))
 replace hH := condF hc hH
 refine AW.skip ?_
 refine AW.region ?_
 refine AO.pu T ?_
 refine AO.val rfl rfl (ar_ok rfl rfl rfl rfl (inI_succ hlt6 hb5)) ?_
 refine AO.pu T ?_
 refine AO.nil ?_
 refine ⟨k1 + 1, ⟨Nat.succ_le_of_lt hlt6, (by rw [drop_succ_of hd4]; exact hH)⟩, (by have := hlt6; dsimp only; omega), ?_⟩
 exact Le.ct 0 0

def laws_eqItem_p (a : Item) (b : Item) : Option Bool :=
  (laws_eqStringS_p a.names b.names).bind fun x1 =>
  cond (!x1)
    (some false)
    ((laws_eqIntS_p a.marks b.marks).bind fun x3 =>
    cond (!x3)
      (some false)
      (cond (!(a.late == b.late))
        (some false)
        (some true)))
theorem laws_eqItem_ok (a : Item) (b : Item) (r : Bool) (hH : laws_eqItem_p a b = some r) : SpecR Tryd.prog 27 [.g (encItem a), .g (encItem b)] (.v (.bool r)) := by
 refine fn_ok T Tryd.func27 rfl (by decide) rfl ?_
 refine AW.seq (AW.region ?_)
 refine AO.step rfl (box_ok T rfl 1 rfl rfl rfl rfl) ?_
 refine AO.step rfl (box_ok T rfl 2 rfl rfl rfl rfl) ?_
 refine AO.pu T ?_
 refine AO.nil ?_
 iterate 2 refine AW.seq ?_
 obtain ⟨x1, hx2, hH⟩ := bindE hH
 refine AW.region ?_
 iterate 4 refine AO.pu T ?_
 refine AO.val rfl rfl (callV_ok rfl rfl rfl rfl (laws_eqStringS_ok _ _ _ (hx2)) rfl) ?_
 refine AO.pu T ?_
 refine AO.nil ?_
 refine AW.cond (b := (!x1)) rfl (fun hc => ?_) (fun hc => ?_)
 replace hH := condT hc hH
 refine AW.seq (AW.region ?_)
 refine AO.pu T ?_
 refine AO.nil (AW.ret ?_)
 have hR := someE hH; subst hR
 exact retQ.i [] rfl (.c (.c .v))
 replace hH := condF hc hH
 refine AW.skip ?_
 iterate 2 refine AW.seq ?_
 obtain ⟨x3, hx4, hH⟩ := bindE hH
 refine AW.region ?_
 iterate 4 refine AO.pu T ?_
 refine AO.val rfl rfl (callV_ok rfl rfl rfl rfl (laws_eqIntS_ok _ _ _ (hx4)) rfl) ?_
 refine AO.pu T ?_
 refine AO.nil ?_
 refine AW.cond (b := (!x3)) rfl (fun hc => ?_) (fun hc => ?_)
 replace hH := condT hc hH
 refine AW.seq (AW.region ?_)
 refine AO.pu T ?_
 refine AO.nil (AW.ret ?_)
 have hR := someE hH; subst hR
 exact retQ.i [] rfl (.c (.c .v))
 replace hH := condF hc hH
 refine AW.skip ?_
 iterate 2 refine AW.seq ?_
 refine AW.region ?_
 iterate 5 refine AO.pu T ?_
 refine AO.nil ?_
 refine AW.cond (b := (!(a.late == b.late))) rfl (fun hc => ?_) (fun hc => ?_)
 replace hH := condT hc hH
 refine AW.seq (AW.region ?_)
 refine AO.pu T ?_
 refine AO.nil (AW.ret ?_)
 have hR := someE hH; subst hR
 exact retQ.i [] rfl (.c (.c .v))
 replace hH := condF hc hH
 refine AW.skip ?_
 refine AW.seq (AW.region ?_)
 refine AO.pu T ?_
 refine AO.nil (AW.ret ?_)
 have hR := someE hH; subst hR
 exact retQ.i [] rfl (.c (.c .v))

def laws_eqItemS_l1 (b : List Item) : List Item → Nat → Option Bool
  | [], k1 =>
    some true
  | y2 :: ys3, k1 =>
    (getI b (k1 : Int)).bind fun x16 =>
    (laws_eqItem_p y2 x16).bind fun x18 =>
    cond (!x18)
      (some false)
      (laws_eqItemS_l1 b ys3 (k1 + 1))
def laws_eqItemS_p (a : List Item) (b : List Item) : Option Bool :=
  cond ((a.length : Int) != (b.length : Int))
    (some false)
    (laws_eqItemS_l1 b a 0)
theorem laws_eqItemS_ok (a : List Item) (b : List Item) (r : Bool) (hH : laws_eqItemS_p a b = some r) : SpecR Tryd.prog 11 [.s (List.map encItem a), .s (List.map encItem b)] (.v (.bool r)) := by
 refine fn_ok T Tryd.func11 rfl (by decide) rfl ?_
 refine AW.seq (AW.region ?_)
 refine AO.pu T ?_
 refine AO.nil ?_
 iterate 2 refine AW.seq ?_
 refine AW.region ?_
 refine AO.pu T ?_
 refine AO.val rfl rfl (len_map_ok T rfl rfl rfl) ?_
 refine AO.pu T ?_
 refine AO.val rfl rfl (len_map_ok T rfl rfl rfl) ?_
 refine AO.pu T ?_
 refine AO.nil ?_
 refine AW.cond (b := ((a.length : Int) != (b.length : Int))) rfl (fun hc => ?_) (fun hc => ?_)
 replace hH := condT hc hH
 refine AW.seq (AW.region ?_)
 refine AO.pu T ?_
 refine AO.nil (AW.ret ?_)
 have hR := someE hH; subst hR
 exact retQ.i [] rfl (.c (.c .v))
 replace hH := condF hc hH
 refine AW.skip ?_
 iterate 2 refine AW.seq ?_
 refine AW.region ?_
 refine AO.pu T ?_
 refine AO.nil ?_
 refine AW.block ?_
 refine AW.loopS (fun s : Nat => (⟨[(0, .s (List.map encItem a)), (1, .s (List.map encItem b)), (5, (s : Int))], [], 27, []⟩ : St)) (fun s => s ≤ a.length ∧ laws_eqItemS_l1 b (a.drop s) s = some r) (fun s => a.length - s) 0 ⟨Nat.zero_le _, hH⟩ ?_ ?_
 exact Le.ct 0 0
 rintro k1 ⟨hk, hH⟩
 replace hH : laws_eqItemS_l1 b (a.drop k1) k1 = some r := hH
 try dsimp only
 refine AW.boundM (t := 0) (l := a) rfl (fun hb5 => ?_)
 rcases hd4 : a.drop k1 with _ | ⟨y2, ys3⟩
 rw [hd4, laws_eqItemS_l1] at hH
 have hlt6 := drop_ge hd4
 iterate 2 refine AW.seq ?_
 refine AW.region ?_
 iterate 2 refine AO.pu T ?_
 refine AO.val rfl rfl (len_map_ok T rfl rfl rfl) ?_
 refine AO.pu T ?_
 refine AO.nil ?_
 refine AW.condF' (b := decide ((k1 : Int) < (a.length : Int))) rfl (rngF hlt6) ?_
 refine AW.exit ?_
 refine AW.seq (AW.region ?_)
 refine AO.pu T ?_
 refine AO.nil (AW.ret ?_)
 have hR := someE hH; subst hR
 exact retQ.i [] rfl (.c (.c .v))
 rw [hd4, laws_eqItemS_l1] at hH
 have hlt6 := drop_lt hd4
 iterate 2 refine AW.seq ?_
 refine AW.region ?_
 iterate 2 refine AO.pu T ?_
 refine AO.val rfl rfl (len_map_ok T rfl rfl rfl) ?_
 refine AO.pu T ?_
 refine AO.nil ?_
 refine AW.condT' (b := decide ((k1 : Int) < (a.length : Int))) rfl (rngT hlt6) ?_
 refine AW.skip ?_
 refine AW.seq ?_
 refine AW.block ?_
 refine AW.seq ?_
 obtain ⟨x16, hx17, hH⟩ := bindE hH
 obtain ⟨x18, hx19, hH⟩ := bindE hH
 refine AW.drawn 8 1 [] mix (by kernel_rfl) rfl ?_
 iterate 2 refine AD.pure T rfl rfl rfl ?_
 refine AD.val rfl rfl (ix_map_ok T rfl rfl rfl rfl rfl (getI_drop hd4) rfl) ?_
 refine AD.pure T (d := .g [.s (List.map encStr y2.names), .s (List.map encInt y2.marks), .v (.bool y2.late)]) rfl rfl rfl ?_
 iterate 2 refine AD.pure T rfl rfl rfl ?_
 refine AD.val rfl rfl (ix_map_ok T rfl rfl rfl rfl rfl (hx17) rfl) ?_
 refine AD.pure T (d := .g [.s (List.map encStr x16.names), .s (List.map encInt x16.marks), .v (.bool x16.late)]) rfl rfl rfl ?_
 refine AD.nil ?_
 refine AO.val rfl rfl (callV_ok rfl rfl rfl rfl (laws_eqItem_ok _ _ _ (hx19)) rfl) ?_
 refine AO.pu T ?_
 refine AO.nil ?_
 refine AW.cond (b := (!x18)) rfl (fun hc => ?_) (fun hc => ?_)
 replace hH := condT hc hH
 refine AW.seq (AW.region ?_)
 refine AO.pu T ?_
 refine AO.nil (AW.ret ?_)
 have hR := someE hH; subst hR
 exact retQ.i [] rfl (.c (.c .v))
 replace hH := condF hc hH
 refine AW.skip ?_
 refine AW.region ?_
 refine AO.pu T ?_
 refine AO.val rfl rfl (ar_ok rfl rfl rfl rfl (inI_succ hlt6 hb5)) ?_
 refine AO.pu T ?_
 refine AO.nil ?_
 refine ⟨k1 + 1, ⟨Nat.succ_le_of_lt hlt6, (by rw [drop_succ_of hd4]; exact hH)⟩, (by have := hlt6; dsimp only; omega), ?_⟩
 exact Le.ct 0 0

def laws_markText_l1 : Nat → Int → ByteArray → Option ByteArray
  | 0, _, _ => none
  | k21 + 1, v32, v33 =>
    cond (decide (v32 > 0))
      ((need (10 != 0)).bind fun u35 =>
      (need (Nat.ble ((strOfNums [IntKind.wrap .u8 (w64 (48 + (v32.tmod 10)))]).size + v33.size) maxN)).bind fun u37 =>
      laws_markText_l1 k21 (w64 (v32.tdiv 10)) ((strOfNums [IntKind.wrap .u8 (w64 (48 + (v32.tmod 10)))]) ++ v33))
      (some v33)
def laws_markText_p (fuel : Nat) (k : Int) : Option ByteArray :=
  cond (decide (k ≤ 0))
    (some (⟨#[109, 48]⟩ : ByteArray))
    ((laws_markText_l1 fuel k (⟨#[]⟩ : ByteArray)).bind fun v18 =>
    (need (Nat.ble ((⟨#[109]⟩ : ByteArray).size + v18.size) maxN)).bind fun u39 =>
    some ((⟨#[109]⟩ : ByteArray) ++ v18))
theorem laws_markText_ok (fuel : Nat) (k : Int) (r : ByteArray) (hH : laws_markText_p fuel k = some r) : SpecR Tryd.prog 60 [k] (.v (.string r)) := by
 refine fn_ok T Tryd.func60 rfl (by decide) rfl ?_
 refine AW.seq (AW.region ?_)
 refine AO.pu T ?_
 refine AO.nil ?_
 iterate 2 refine AW.seq ?_
 refine AW.region ?_
 iterate 2 refine AO.pu T ?_
 refine AO.nil ?_
 refine AW.cond (b := decide (k ≤ 0)) rfl (fun hc => ?_) (fun hc => ?_)
 replace hH := condT hc hH
 refine AW.seq (AW.region ?_)
 refine AO.pu T ?_
 refine AO.nil (AW.ret ?_)
 have hR := someE hH; subst hR
 exact retQ.i [] rfl (.c (.c .v))
 replace hH := condF hc hH
 refine AW.skip ?_
 refine AW.seq (AW.region ?_)
 refine AO.pu T ?_
 refine AO.nil ?_
 obtain ⟨o19, hH, hK20⟩ := bindE hH
 refine AW.seqJ (fun s : ByteArray => (⟨[(3, .v (.string s))], [], 20, []⟩ : St)) (fun s => s = o19) ?_ ?_
 refine AW.block ?_
 refine AW.loopS (fun s : Nat × Int × ByteArray => (⟨[(0, s.2.1), (3, .v (.string s.2.2))], [], 20, []⟩ : St)) (fun s => laws_markText_l1 s.1 s.2.1 s.2.2 = some o19) (fun s => s.1) (fuel, k, (⟨#[]⟩ : ByteArray)) hH ?_ ?_
 exact Le.ct 0 0
 rintro ⟨k21, v32, v33⟩ hH
 replace hH : laws_markText_l1 k21 v32 v33 = some o19 := hH
 try dsimp only
 rcases k21 with _ | k21
 cases (show none = some _ from hH)
 rw [laws_markText_l1] at hH
 iterate 2 refine AW.seq ?_
 refine AW.region ?_
 iterate 2 refine AO.pu T ?_
 refine AO.nil ?_
 refine AW.cond (b := decide (v32 > 0)) rfl (fun hc => ?_) (fun hc => ?_)
 replace hH := condT hc hH
 refine AW.skip ?_
 refine AW.block ?_
 refine AW.seq ?_
 obtain ⟨u35, hx36, hH⟩ := bindE hH
 obtain ⟨u37, hx38, hH⟩ := bindE hH
 refine AW.region ?_
 refine AO.pu T ?_
 refine AO.val rfl rfl (rem_ok rfl rfl rfl (neZ (needT (hx36)))) ?_
 refine AO.val rfl rfl (arw_ok rfl rfl rfl rfl) ?_
 refine AO.val rfl rfl (convw_ok T rfl rfl rfl rfl) ?_
 refine AO.step rfl (mk_map_ok T rfl 6 rfl rfl rfl rfl rfl (f := encInt_u8) (l := [IntKind.wrap .u8 (w64 (48 + (v32.tmod 10)))]) rfl rfl (fun _ => rfl) rfl rfl rfl rfl rfl) ?_
 refine AO.val rfl rfl (conv_bytes_ok T rfl rfl rfl rfl rfl rfl (fun _ => rfl) rfl) ?_
 refine AO.pu T ?_
 refine AO.val rfl rfl (concat_ok rfl rfl rfl (Nat.le_of_ble_eq_true (needT (hx38)))) ?_
 refine AO.pu T ?_
 refine AO.nil ?_
 refine AW.region ?_
 refine AO.pu T ?_
 refine AO.val rfl rfl (quow_ok rfl rfl rfl (neZ (needT (hx36)))) ?_
 refine AO.pu T ?_
 refine AO.nil ?_
 refine ⟨(k21, w64 (v32.tdiv 10), ((strOfNums [IntKind.wrap .u8 (w64 (48 + (v32.tmod 10)))]) ++ v33)), hH, Nat.lt_succ_self _, ?_⟩
 exact Le.ct 0 0
 replace hH := condF hc hH
 refine AW.exit ?_
 refine ⟨_, someE hH, ?_⟩
 exact Le.ct 0 0
 rintro v18 hs
 subst hs
 replace hH := hK20
 try dsimp only [flow, flowE] at hH
 try dsimp only
 refine AW.seq ?_
 obtain ⟨u39, hx40, hH⟩ := bindE hH
 refine AW.region ?_
 refine AO.pu T ?_
 refine AO.val rfl rfl (concat_ok rfl rfl rfl (Nat.le_of_ble_eq_true (needT (hx40)))) ?_
 refine AO.pu T ?_
 refine AO.nil (AW.ret ?_)
 have hR := someE hH; subst hR
 exact retQ.i [] rfl (.c (.c .v))

def laws_markStringS_l1 (fuel : Nat) : Nat → List ByteArray → Int → Int → Option (((List ByteArray) × Int))
  | 0, _, _, _ => none
  | k1 + 1, v13, v14, v15 =>
    cond (decide (v15 < (v13.length : Int)))
      ((laws_markText_p fuel v14).bind fun x17 =>
      (getI v13 v15).bind fun x19 =>
      laws_markStringS_l1 fuel k1 (v13.set v15.toNat x17) (w64 (v14 + 1)) (w64 (v15 + 1)))
      (some (v13, v14))
def laws_markStringS_p (fuel : Nat) (a : List ByteArray) (k : Int) : Option ((List ByteArray) × Int) :=
  laws_markStringS_l1 fuel fuel a k 0
theorem laws_markStringS_ok (fuel : Nat) (a : List ByteArray) (k : Int) (r : ((List ByteArray) × Int)) (hH : laws_markStringS_p fuel a k = some r) : SpecM Tryd.prog 40 [.w 1 (a.map encStr), k] [.w 1 (r.1.map encStr), .u] (.v (.int .i64 r.2)) := by
 refine fn_okM T Tryd.func40 rfl (by decide) rfl rfl ?_
 intro L
 show AW _ _ _ (⟨[(0, .R 1), (1, k)], [(1, .row 1 (List.map encStr a))], 20, [(1, L 1)]⟩ : St)
 refine AW.seq (AW.region ?_)
 refine AO.pu T ?_
 refine AO.nil ?_
 iterate 2 refine AW.seq ?_
 refine AW.region ?_
 refine AO.pu T ?_
 refine AO.nil ?_
 refine AW.block ?_
 refine AW.loopS (fun s : Nat × (List ByteArray) × Int × Int => (⟨[(0, .R 1), (1, s.2.2.1), (5, s.2.2.2)], [(1, .row 1 (List.map encStr s.2.1))], 20, [(1, L 1)]⟩ : St)) (fun s => laws_markStringS_l1 fuel s.1 s.2.1 s.2.2.1 s.2.2.2 = some r) (fun s => s.1) (fuel, a, k, 0) hH ?_ ?_
 exact Le.ct 0 0 (hpin := ⟨⟨rfl, rfl⟩, trivial⟩)
 rintro ⟨k1, v13, v14, v15⟩ hH
 replace hH : laws_markStringS_l1 fuel k1 v13 v14 v15 = some r := hH
 try dsimp only
 rcases k1 with _ | k1
 cases (show none = some _ from hH)
 rw [laws_markStringS_l1] at hH
 iterate 2 refine AW.seq ?_
 refine AW.region ?_
 iterate 2 refine AO.pu T ?_
 refine AO.val rfl rfl (len_row_ok T rfl rfl rfl rfl) ?_
 refine AO.pu T ?_
 refine AO.nil ?_
 refine AW.cond (b := decide (v15 < (v13.length : Int))) rfl (fun hc => ?_) (fun hc => ?_)
 replace hH := condT hc hH
 refine AW.skip ?_
 refine AW.seq ?_
 refine AW.block ?_
 refine AW.seq ?_
 obtain ⟨x17, hx18, hH⟩ := bindE hH
 obtain ⟨x19, hx20, hH⟩ := bindE hH
 refine AW.region ?_
 iterate 3 refine AO.pu T ?_
 refine AO.val rfl rfl (callV_ok rfl rfl rfl rfl (laws_markText_ok fuel _ _ (hx18)) rfl) ?_
 refine AO.val rfl rfl (ix_row_ok T rfl rfl rfl rfl rfl rfl (hx20)) ?_
 refine AO.step rfl (store_row_ok T rfl rfl rfl rfl rfl (getI_get (hx20)) rfl rfl rfl rfl (u' := x17) rfl rfl) ?_
 refine AO.nil ?_
 refine AW.region ?_
 refine AO.pu T ?_
 refine AO.val rfl rfl (arw_ok rfl rfl rfl rfl) ?_
 refine AO.pu T ?_
 refine AO.nil ?_
 refine AW.region ?_
 refine AO.pu T ?_
 refine AO.val rfl rfl (arw_ok rfl rfl rfl rfl) ?_
 refine AO.pu T ?_
 refine AO.nil ?_
 refine ⟨(k1, (v13.set v15.toNat x17), w64 (v14 + 1), w64 (v15 + 1)), hH, Nat.lt_succ_self _, ?_⟩
 exact Le.ct 0 0 (hpin := ⟨⟨rfl, rfl⟩, trivial⟩)
 replace hH := condF hc hH
 refine AW.exit ?_
 refine AW.seq (AW.region ?_)
 iterate 2 refine AO.pu T ?_
 refine AO.nil (AW.ret ?_)
 have hR := someE hH; subst hR
 exact ⟨trivial, rfl, _, [], [1], rfl, expLG_cons (.c (.rowR rfl)) (expLG_cons (.c .u) (expLG_nil)), .c (.c .v), by decide⟩

def laws_markIntS_l1 : Nat → List Int → Int → Int → Option (((List Int) × Int))
  | 0, _, _, _ => none
  | k1 + 1, v9, v10, v11 =>
    cond (decide (v11 < (v9.length : Int)))
      ((getI v9 v11).bind fun x13 =>
      laws_markIntS_l1 k1 (v9.set v11.toNat v10) (w64 (v10 + 1)) (w64 (v11 + 1)))
      (some (v9, v10))
def laws_markIntS_p (fuel : Nat) (a : List Int) (k : Int) : Option ((List Int) × Int) :=
  laws_markIntS_l1 fuel a k 0
theorem laws_markIntS_ok (fuel : Nat) (a : List Int) (k : Int) (r : ((List Int) × Int)) (hH : laws_markIntS_p fuel a k = some r) : SpecM Tryd.prog 41 [.w 1 (a.map encInt), k] [.w 1 (r.1.map encInt), .u] (.v (.int .i64 r.2)) := by
 refine fn_okM T Tryd.func41 rfl (by decide) rfl rfl ?_
 intro L
 show AW _ _ _ (⟨[(0, .R 1), (1, k)], [(1, .row 1 (List.map encInt a))], 19, [(1, L 1)]⟩ : St)
 refine AW.seq (AW.region ?_)
 refine AO.pu T ?_
 refine AO.nil ?_
 iterate 2 refine AW.seq ?_
 refine AW.region ?_
 refine AO.pu T ?_
 refine AO.nil ?_
 refine AW.block ?_
 refine AW.loopS (fun s : Nat × (List Int) × Int × Int => (⟨[(0, .R 1), (1, s.2.2.1), (5, s.2.2.2)], [(1, .row 1 (List.map encInt s.2.1))], 19, [(1, L 1)]⟩ : St)) (fun s => laws_markIntS_l1 s.1 s.2.1 s.2.2.1 s.2.2.2 = some r) (fun s => s.1) (fuel, a, k, 0) hH ?_ ?_
 exact Le.ct 0 0 (hpin := ⟨⟨rfl, rfl⟩, trivial⟩)
 rintro ⟨k1, v9, v10, v11⟩ hH
 replace hH : laws_markIntS_l1 k1 v9 v10 v11 = some r := hH
 try dsimp only
 rcases k1 with _ | k1
 cases (show none = some _ from hH)
 rw [laws_markIntS_l1] at hH
 iterate 2 refine AW.seq ?_
 refine AW.region ?_
 iterate 2 refine AO.pu T ?_
 refine AO.val rfl rfl (len_row_ok T rfl rfl rfl rfl) ?_
 refine AO.pu T ?_
 refine AO.nil ?_
 refine AW.cond (b := decide (v11 < (v9.length : Int))) rfl (fun hc => ?_) (fun hc => ?_)
 replace hH := condT hc hH
 refine AW.skip ?_
 refine AW.seq ?_
 refine AW.block ?_
 refine AW.seq ?_
 obtain ⟨x13, hx14, hH⟩ := bindE hH
 refine AW.region ?_
 iterate 3 refine AO.pu T ?_
 refine AO.val rfl rfl (ix_row_ok T rfl rfl rfl rfl rfl rfl (hx14)) ?_
 refine AO.step rfl (store_row_ok T rfl rfl rfl rfl rfl (getI_get (hx14)) rfl rfl rfl rfl (u' := v10) rfl rfl) ?_
 refine AO.nil ?_
 refine AW.region ?_
 refine AO.pu T ?_
 refine AO.val rfl rfl (arw_ok rfl rfl rfl rfl) ?_
 refine AO.pu T ?_
 refine AO.nil ?_
 refine AW.region ?_
 refine AO.pu T ?_
 refine AO.val rfl rfl (arw_ok rfl rfl rfl rfl) ?_
 refine AO.pu T ?_
 refine AO.nil ?_
 refine ⟨(k1, (v9.set v11.toNat v10), w64 (v10 + 1), w64 (v11 + 1)), hH, Nat.lt_succ_self _, ?_⟩
 exact Le.ct 0 0 (hpin := ⟨⟨rfl, rfl⟩, trivial⟩)
 replace hH := condF hc hH
 refine AW.exit ?_
 refine AW.seq (AW.region ?_)
 iterate 2 refine AO.pu T ?_
 refine AO.nil (AW.ret ?_)
 have hR := someE hH; subst hR
 exact ⟨trivial, rfl, _, [], [1], rfl, expLG_cons (.c (.rowR rfl)) (expLG_cons (.c .u) (expLG_nil)), .c (.c .v), by decide⟩

def laws_markItemS_l1 (fuel : Nat) : Nat → List Item → Int → Int → Option (((List Item) × Int))
  | 0, _, _, _ => none
  | k1 + 1, v29, v30, v31 =>
    cond (decide (v31 < (v29.length : Int)))
      ((getI v29 v31).bind fun x33 =>
      (laws_markStringS_p fuel x33.names v30).bind fun x35 =>
      (getI (v29.set v31.toNat (Item.mk x35.1 x33.marks x33.late)) v31).bind fun x37 =>
      (laws_markIntS_p fuel x37.marks x35.2).bind fun x39 =>
      (need (3 != 0)).bind fun u41 =>
      (getI ((v29.set v31.toNat (Item.mk x35.1 x33.marks x33.late)).set v31.toNat (Item.mk x37.names x39.1 x37.late)) v31).bind fun x43 =>
      laws_markItemS_l1 fuel k1 (((v29.set v31.toNat (Item.mk x35.1 x33.marks x33.late)).set v31.toNat (Item.mk x37.names x39.1 x37.late)).set v31.toNat (Item.mk x43.names x43.marks ((x39.2.tmod 3) == 0))) (w64 (x39.2 + 1)) (w64 (v31 + 1)))
      (some (v29, v30))
def laws_markItemS_p (fuel : Nat) (a : List Item) (k : Int) : Option ((List Item) × Int) :=
  laws_markItemS_l1 fuel fuel a k 0
theorem laws_markItemS_ok (fuel : Nat) (a : List Item) (k : Int) (r : ((List Item) × Int)) (hH : laws_markItemS_p fuel a k = some r) : SpecM Tryd.prog 15 [.w 3 (a.map encItemO), k] [.w 3 (r.1.map encItemO), .u] (.v (.int .i64 r.2)) := by
 refine fn_okM T Tryd.func15 rfl (by decide) rfl rfl ?_
 intro L
 show AW _ _ _ (⟨[(0, .R 1), (1, k)], [(1, .row 3 (List.map encItemO a))], 36, [(1, L 1)]⟩ : St)
 refine AW.seq (AW.region ?_)
 refine AO.pu T ?_
 refine AO.nil ?_
 iterate 2 refine AW.seq ?_
 refine AW.region ?_
 refine AO.pu T ?_
 refine AO.nil ?_
 refine AW.block ?_
 refine AW.loopS (fun s : Nat × (List Item) × Int × Int => (⟨[(0, .R 1), (1, s.2.2.1), (5, s.2.2.2)], [(1, .row 3 (List.map encItemO s.2.1))], 36, [(1, L 1)]⟩ : St)) (fun s => laws_markItemS_l1 fuel s.1 s.2.1 s.2.2.1 s.2.2.2 = some r) (fun s => s.1) (fuel, a, k, 0) hH ?_ ?_
 exact Le.ct 0 0 (hpin := ⟨⟨rfl, rfl⟩, trivial⟩)
 rintro ⟨k1, v29, v30, v31⟩ hH
 replace hH : laws_markItemS_l1 fuel k1 v29 v30 v31 = some r := hH
 try dsimp only
 rcases k1 with _ | k1
 cases (show none = some _ from hH)
 rw [laws_markItemS_l1] at hH
 iterate 2 refine AW.seq ?_
 refine AW.region ?_
 iterate 2 refine AO.pu T ?_
 refine AO.val rfl rfl (len_row_ok T rfl rfl rfl rfl) ?_
 refine AO.pu T ?_
 refine AO.nil ?_
 refine AW.cond (b := decide (v31 < (v29.length : Int))) rfl (fun hc => ?_) (fun hc => ?_)
 replace hH := condT hc hH
 refine AW.skip ?_
 refine AW.seq ?_
 refine AW.block ?_
 refine AW.seq ?_
 obtain ⟨x33, hx34, hH⟩ := bindE hH
 obtain ⟨x35, hx36, hH⟩ := bindE hH
 refine AW.le (Le.openM 1 v31.toNat 0 6 rfl (getI_get (hx34)) rfl rfl) ?_
 refine AW.region ?_
 iterate 2 refine AO.pu T ?_
 refine AO.val rfl rfl (ix_lent_ok T rfl rfl rfl rfl rfl rfl (hx34)) ?_
 refine AO.pu T ?_
 refine AO.val rfl rfl (load_lent_ok T rfl rfl rfl rfl rfl) ?_
 refine AO.pu T ?_
 refine AO.step rfl (callM_ok rfl 7 rfl rfl (es := [.w 1 (x33.names.map encStr), .v (.int .i64 v30)]) (outs := [.w 1 (x35.1.map encStr), .u]) (ids := [6]) (by exact expLG_cons (.c (.rowR rfl)) (expLG_cons (.c .v) (expLG_nil))) (by decide) (.inl (by rfl)) (by rfl) (laws_markStringS_ok fuel _ _ _ (hx36)) rfl (by rfl) rfl) ?_
 refine AO.pu T ?_
 refine AO.le (Le.closeM 1 v31.toNat 0 6 rfl rfl (getI_get (hx34)) rfl (u' := (Item.mk x35.1 x33.marks x33.late)) rfl) ?_
 refine AO.nil (AW.seq ?_)
 obtain ⟨x37, hx38, hH⟩ := bindE hH
 obtain ⟨x39, hx40, hH⟩ := bindE hH
 refine AW.le (Le.openM 1 v31.toNat 1 7 rfl (getI_get (hx38)) rfl rfl) ?_
 refine AW.region ?_
 iterate 2 refine AO.pu T ?_
 refine AO.val rfl rfl (ix_lent_ok T rfl rfl rfl rfl rfl rfl (hx38)) ?_
 refine AO.pu T ?_
 refine AO.val rfl rfl (load_lent_ok T rfl rfl rfl rfl rfl) ?_
 refine AO.pu T ?_
 refine AO.step rfl (callM_ok rfl 8 rfl rfl (es := [.w 1 (x37.marks.map encInt), .v (.int .i64 x35.2)]) (outs := [.w 1 (x39.1.map encInt), .u]) (ids := [7]) (by exact expLG_cons (.c (.rowR rfl)) (expLG_cons (.c .v) (expLG_nil))) (by decide) (.inl (by rfl)) (by rfl) (laws_markIntS_ok fuel _ _ _ (hx40)) rfl (by rfl) rfl) ?_
 refine AO.pu T ?_
 refine AO.le (Le.closeM 1 v31.toNat 1 7 rfl rfl (getI_get (hx38)) rfl (u' := (Item.mk x37.names x39.1 x37.late)) rfl) ?_
 refine AO.nil (AW.seq ?_)
 obtain ⟨u41, hx42, hH⟩ := bindE hH
 obtain ⟨x43, hx44, hH⟩ := bindE hH
 refine AW.region ?_
 iterate 3 refine AO.pu T ?_
 refine AO.val rfl rfl (rem_ok rfl rfl rfl (neZ (needT (hx42)))) ?_
 refine AO.pu T ?_
 refine AO.val rfl rfl (ix_row_ok T rfl rfl rfl rfl rfl rfl (hx44)) ?_
 refine AO.pu T ?_
 refine AO.step rfl (store_row_ok T rfl rfl rfl rfl rfl (getI_get (hx44)) rfl rfl rfl rfl (u' := (Item.mk x43.names x43.marks ((x39.2.tmod 3) == 0))) rfl rfl) ?_
 refine AO.nil ?_
 refine AW.le (Le.ct 0 0 (σ' := (⟨[(0, .R 1), (1, x39.2), (5, v31)], [(1, .row 3 (List.map encItemO (((v29.set v31.toNat (Item.mk x35.1 x33.marks x33.late)).set v31.toNat (Item.mk x37.names x39.1 x37.late)).set v31.toNat (Item.mk x43.names x43.marks ((x39.2.tmod 3) == 0)))))], 36, [(1, L 1)]⟩ : St)) (hpin := ⟨⟨rfl, rfl⟩, trivial⟩)) ?_
 refine AW.region ?_
 refine AO.pu T ?_
 refine AO.val rfl rfl (arw_ok rfl rfl rfl rfl) ?_
 refine AO.pu T ?_
 refine AO.nil ?_
 refine AW.region ?_
 refine AO.pu T ?_
 refine AO.val rfl rfl (arw_ok rfl rfl rfl rfl) ?_
 refine AO.pu T ?_
 refine AO.nil ?_
 refine ⟨(k1, (((v29.set v31.toNat (Item.mk x35.1 x33.marks x33.late)).set v31.toNat (Item.mk x37.names x39.1 x37.late)).set v31.toNat (Item.mk x43.names x43.marks ((x39.2.tmod 3) == 0))), w64 (x39.2 + 1), w64 (v31 + 1)), hH, Nat.lt_succ_self _, ?_⟩
 exact Le.ct 0 0 (hpin := ⟨⟨rfl, rfl⟩, trivial⟩)
 replace hH := condF hc hH
 refine AW.exit ?_
 refine AW.seq (AW.region ?_)
 iterate 2 refine AO.pu T ?_
 refine AO.nil (AW.ret ?_)
 have hR := someE hH; subst hR
 exact ⟨trivial, rfl, _, [], [1], rfl, expLG_cons (.c (.rowR rfl)) (expLG_cons (.c .u) (expLG_nil)), .c (.c .v), by decide⟩

def laws_markChangeS_l1 : Nat → List Change → Int → Int → Option (((List Change) × Int))
  | 0, _, _, _ => none
  | k1 + 1, v33, v34, v35 =>
    cond (decide (v35 < (v33.length : Int)))
      ((getI v33 v35).bind fun x37 =>
      (getI (v33.set v35.toNat (Change.mk v34 x37.caller x37.item x37.name x37.mark x37.review)) v35).bind fun x39 =>
      (getI ((v33.set v35.toNat (Change.mk v34 x37.caller x37.item x37.name x37.mark x37.review)).set v35.toNat (Change.mk x39.tick (w64 (v34 + 1)) x39.item x39.name x39.mark x39.review)) v35).bind fun x41 =>
      (getI (((v33.set v35.toNat (Change.mk v34 x37.caller x37.item x37.name x37.mark x37.review)).set v35.toNat (Change.mk x39.tick (w64 (v34 + 1)) x39.item x39.name x39.mark x39.review)).set v35.toNat (Change.mk x41.tick x41.caller (w64 ((w64 (v34 + 1)) + 1)) x41.name x41.mark x41.review)) v35).bind fun x43 =>
      (getI ((((v33.set v35.toNat (Change.mk v34 x37.caller x37.item x37.name x37.mark x37.review)).set v35.toNat (Change.mk x39.tick (w64 (v34 + 1)) x39.item x39.name x39.mark x39.review)).set v35.toNat (Change.mk x41.tick x41.caller (w64 ((w64 (v34 + 1)) + 1)) x41.name x41.mark x41.review)).set v35.toNat (Change.mk x43.tick x43.caller x43.item (w64 ((w64 ((w64 (v34 + 1)) + 1)) + 1)) x43.mark x43.review)) v35).bind fun x45 =>
      (need (3 != 0)).bind fun u47 =>
      (getI (((((v33.set v35.toNat (Change.mk v34 x37.caller x37.item x37.name x37.mark x37.review)).set v35.toNat (Change.mk x39.tick (w64 (v34 + 1)) x39.item x39.name x39.mark x39.review)).set v35.toNat (Change.mk x41.tick x41.caller (w64 ((w64 (v34 + 1)) + 1)) x41.name x41.mark x41.review)).set v35.toNat (Change.mk x43.tick x43.caller x43.item (w64 ((w64 ((w64 (v34 + 1)) + 1)) + 1)) x43.mark x43.review)).set v35.toNat (Change.mk x45.tick x45.caller x45.item x45.name (w64 ((w64 ((w64 ((w64 (v34 + 1)) + 1)) + 1)) + 1)) x45.review)) v35).bind fun x49 =>
      laws_markChangeS_l1 k1 ((((((v33.set v35.toNat (Change.mk v34 x37.caller x37.item x37.name x37.mark x37.review)).set v35.toNat (Change.mk x39.tick (w64 (v34 + 1)) x39.item x39.name x39.mark x39.review)).set v35.toNat (Change.mk x41.tick x41.caller (w64 ((w64 (v34 + 1)) + 1)) x41.name x41.mark x41.review)).set v35.toNat (Change.mk x43.tick x43.caller x43.item (w64 ((w64 ((w64 (v34 + 1)) + 1)) + 1)) x43.mark x43.review)).set v35.toNat (Change.mk x45.tick x45.caller x45.item x45.name (w64 ((w64 ((w64 ((w64 (v34 + 1)) + 1)) + 1)) + 1)) x45.review)).set v35.toNat (Change.mk x49.tick x49.caller x49.item x49.name x49.mark (((w64 ((w64 ((w64 ((w64 ((w64 (v34 + 1)) + 1)) + 1)) + 1)) + 1)).tmod 3) == 0))) (w64 ((w64 ((w64 ((w64 ((w64 ((w64 (v34 + 1)) + 1)) + 1)) + 1)) + 1)) + 1)) (w64 (v35 + 1)))
      (some (v33, v34))
def laws_markChangeS_p (fuel : Nat) (a : List Change) (k : Int) : Option ((List Change) × Int) :=
  laws_markChangeS_l1 fuel a k 0
theorem laws_markChangeS_ok (fuel : Nat) (a : List Change) (k : Int) (r : ((List Change) × Int)) (hH : laws_markChangeS_p fuel a k = some r) : SpecM Tryd.prog 16 [.w 6 (a.map encChange), k] [.w 6 (r.1.map encChange), .u] (.v (.int .i64 r.2)) := by
 refine fn_okM T Tryd.func16 rfl (by decide) rfl rfl ?_
 intro L
 show AW _ _ _ (⟨[(0, .R 1), (1, k)], [(1, .row 6 (List.map encChange a))], 57, [(1, L 1)]⟩ : St)
 refine AW.seq (AW.region ?_)
 refine AO.pu T ?_
 refine AO.nil ?_
 iterate 2 refine AW.seq ?_
 refine AW.region ?_
 refine AO.pu T ?_
 refine AO.nil ?_
 refine AW.block ?_
 refine AW.loopS (fun s : Nat × (List Change) × Int × Int => (⟨[(0, .R 1), (1, s.2.2.1), (5, s.2.2.2)], [(1, .row 6 (List.map encChange s.2.1))], 57, [(1, L 1)]⟩ : St)) (fun s => laws_markChangeS_l1 s.1 s.2.1 s.2.2.1 s.2.2.2 = some r) (fun s => s.1) (fuel, a, k, 0) hH ?_ ?_
 exact Le.ct 0 0 (hpin := ⟨⟨rfl, rfl⟩, trivial⟩)
 rintro ⟨k1, v33, v34, v35⟩ hH
 replace hH : laws_markChangeS_l1 k1 v33 v34 v35 = some r := hH
 try dsimp only
 rcases k1 with _ | k1
 cases (show none = some _ from hH)
 rw [laws_markChangeS_l1] at hH
 iterate 2 refine AW.seq ?_
 refine AW.region ?_
 iterate 2 refine AO.pu T ?_
 refine AO.val rfl rfl (len_row_ok T rfl rfl rfl rfl) ?_
 refine AO.pu T ?_
 refine AO.nil ?_
 refine AW.cond (b := decide (v35 < (v33.length : Int))) rfl (fun hc => ?_) (fun hc => ?_)
 replace hH := condT hc hH
 refine AW.skip ?_
 refine AW.seq ?_
 refine AW.block ?_
 refine AW.seq ?_
 obtain ⟨x37, hx38, hH⟩ := bindE hH
 refine AW.region ?_
 iterate 3 refine AO.pu T ?_
 refine AO.val rfl rfl (ix_row_ok T rfl rfl rfl rfl rfl rfl (hx38)) ?_
 refine AO.pu T ?_
 refine AO.step rfl (store_row_ok T rfl rfl rfl rfl rfl (getI_get (hx38)) rfl rfl rfl rfl (u' := (Change.mk v34 x37.caller x37.item x37.name x37.mark x37.review)) rfl rfl) ?_
 refine AO.nil (AW.seq ?_)
 refine AW.region ?_
 refine AO.pu T ?_
 refine AO.val rfl rfl (arw_ok rfl rfl rfl rfl) ?_
 refine AO.pu T ?_
 refine AO.nil (AW.seq ?_)
 obtain ⟨x39, hx40, hH⟩ := bindE hH
 refine AW.region ?_
 iterate 3 refine AO.pu T ?_
 refine AO.val rfl rfl (ix_row_ok T rfl rfl rfl rfl rfl rfl (hx40)) ?_
 refine AO.pu T ?_
 refine AO.step rfl (store_row_ok T rfl rfl rfl rfl rfl (getI_get (hx40)) rfl rfl rfl rfl (u' := (Change.mk x39.tick (w64 (v34 + 1)) x39.item x39.name x39.mark x39.review)) rfl rfl) ?_
 refine AO.nil (AW.seq ?_)
 refine AW.region ?_
 refine AO.pu T ?_
 refine AO.val rfl rfl (arw_ok rfl rfl rfl rfl) ?_
 refine AO.pu T ?_
 refine AO.nil (AW.seq ?_)
 obtain ⟨x41, hx42, hH⟩ := bindE hH
 refine AW.region ?_
 iterate 3 refine AO.pu T ?_
 refine AO.val rfl rfl (ix_row_ok T rfl rfl rfl rfl rfl rfl (hx42)) ?_
 refine AO.pu T ?_
 refine AO.step rfl (store_row_ok T rfl rfl rfl rfl rfl (getI_get (hx42)) rfl rfl rfl rfl (u' := (Change.mk x41.tick x41.caller (w64 ((w64 (v34 + 1)) + 1)) x41.name x41.mark x41.review)) rfl rfl) ?_
 refine AO.nil ?_
 refine AW.le (Le.ct 0 0 (σ' := (⟨[(0, .R 1), (1, w64 ((w64 (v34 + 1)) + 1)), (5, v35)], [(1, .row 6 (List.map encChange (((v33.set v35.toNat (Change.mk v34 x37.caller x37.item x37.name x37.mark x37.review)).set v35.toNat (Change.mk x39.tick (w64 (v34 + 1)) x39.item x39.name x39.mark x39.review)).set v35.toNat (Change.mk x41.tick x41.caller (w64 ((w64 (v34 + 1)) + 1)) x41.name x41.mark x41.review))))], 57, [(1, L 1)]⟩ : St)) (hpin := ⟨⟨rfl, rfl⟩, trivial⟩)) ?_
 refine AW.seq (AW.region ?_)
 refine AO.pu T ?_
 refine AO.val rfl rfl (arw_ok rfl rfl rfl rfl) ?_
 refine AO.pu T ?_
 refine AO.nil (AW.seq ?_)
 obtain ⟨x43, hx44, hH⟩ := bindE hH
 refine AW.region ?_
 iterate 3 refine AO.pu T ?_
 refine AO.val rfl rfl (ix_row_ok T rfl rfl rfl rfl rfl rfl (hx44)) ?_
 refine AO.pu T ?_
 refine AO.step rfl (store_row_ok T rfl rfl rfl rfl rfl (getI_get (hx44)) rfl rfl rfl rfl (u' := (Change.mk x43.tick x43.caller x43.item (w64 ((w64 ((w64 (v34 + 1)) + 1)) + 1)) x43.mark x43.review)) rfl rfl) ?_
 refine AO.nil (AW.seq ?_)
 refine AW.region ?_
 refine AO.pu T ?_
 refine AO.val rfl rfl (arw_ok rfl rfl rfl rfl) ?_
 refine AO.pu T ?_
 refine AO.nil (AW.seq ?_)
 obtain ⟨x45, hx46, hH⟩ := bindE hH
 refine AW.region ?_
 iterate 3 refine AO.pu T ?_
 refine AO.val rfl rfl (ix_row_ok T rfl rfl rfl rfl rfl rfl (hx46)) ?_
 refine AO.pu T ?_
 refine AO.step rfl (store_row_ok T rfl rfl rfl rfl rfl (getI_get (hx46)) rfl rfl rfl rfl (u' := (Change.mk x45.tick x45.caller x45.item x45.name (w64 ((w64 ((w64 ((w64 (v34 + 1)) + 1)) + 1)) + 1)) x45.review)) rfl rfl) ?_
 refine AO.nil (AW.seq ?_)
 refine AW.region ?_
 refine AO.pu T ?_
 refine AO.val rfl rfl (arw_ok rfl rfl rfl rfl) ?_
 refine AO.pu T ?_
 refine AO.nil (AW.seq ?_)
 obtain ⟨u47, hx48, hH⟩ := bindE hH
 obtain ⟨x49, hx50, hH⟩ := bindE hH
 refine AW.region ?_
 iterate 3 refine AO.pu T ?_
 refine AO.val rfl rfl (rem_ok rfl rfl rfl (neZ (needT (hx48)))) ?_
 refine AO.pu T ?_
 refine AO.val rfl rfl (ix_row_ok T rfl rfl rfl rfl rfl rfl (hx50)) ?_
 refine AO.pu T ?_
 refine AO.step rfl (store_row_ok T rfl rfl rfl rfl rfl (getI_get (hx50)) rfl rfl rfl rfl (u' := (Change.mk x49.tick x49.caller x49.item x49.name x49.mark (((w64 ((w64 ((w64 ((w64 ((w64 (v34 + 1)) + 1)) + 1)) + 1)) + 1)).tmod 3) == 0))) rfl rfl) ?_
 refine AO.nil ?_
 refine AW.le (Le.ct 0 0 (σ' := (⟨[(0, .R 1), (1, w64 ((w64 ((w64 ((w64 ((w64 (v34 + 1)) + 1)) + 1)) + 1)) + 1)), (5, v35)], [(1, .row 6 (List.map encChange ((((((v33.set v35.toNat (Change.mk v34 x37.caller x37.item x37.name x37.mark x37.review)).set v35.toNat (Change.mk x39.tick (w64 (v34 + 1)) x39.item x39.name x39.mark x39.review)).set v35.toNat (Change.mk x41.tick x41.caller (w64 ((w64 (v34 + 1)) + 1)) x41.name x41.mark x41.review)).set v35.toNat (Change.mk x43.tick x43.caller x43.item (w64 ((w64 ((w64 (v34 + 1)) + 1)) + 1)) x43.mark x43.review)).set v35.toNat (Change.mk x45.tick x45.caller x45.item x45.name (w64 ((w64 ((w64 ((w64 (v34 + 1)) + 1)) + 1)) + 1)) x45.review)).set v35.toNat (Change.mk x49.tick x49.caller x49.item x49.name x49.mark (((w64 ((w64 ((w64 ((w64 ((w64 (v34 + 1)) + 1)) + 1)) + 1)) + 1)).tmod 3) == 0)))))], 57, [(1, L 1)]⟩ : St)) (hpin := ⟨⟨rfl, rfl⟩, trivial⟩)) ?_
 refine AW.region ?_
 refine AO.pu T ?_
 refine AO.val rfl rfl (arw_ok rfl rfl rfl rfl) ?_
 refine AO.pu T ?_
 refine AO.nil ?_
 refine AW.region ?_
 refine AO.pu T ?_
 refine AO.val rfl rfl (arw_ok rfl rfl rfl rfl) ?_
 refine AO.pu T ?_
 refine AO.nil ?_
 refine ⟨(k1, ((((((v33.set v35.toNat (Change.mk v34 x37.caller x37.item x37.name x37.mark x37.review)).set v35.toNat (Change.mk x39.tick (w64 (v34 + 1)) x39.item x39.name x39.mark x39.review)).set v35.toNat (Change.mk x41.tick x41.caller (w64 ((w64 (v34 + 1)) + 1)) x41.name x41.mark x41.review)).set v35.toNat (Change.mk x43.tick x43.caller x43.item (w64 ((w64 ((w64 (v34 + 1)) + 1)) + 1)) x43.mark x43.review)).set v35.toNat (Change.mk x45.tick x45.caller x45.item x45.name (w64 ((w64 ((w64 ((w64 (v34 + 1)) + 1)) + 1)) + 1)) x45.review)).set v35.toNat (Change.mk x49.tick x49.caller x49.item x49.name x49.mark (((w64 ((w64 ((w64 ((w64 ((w64 (v34 + 1)) + 1)) + 1)) + 1)) + 1)).tmod 3) == 0))), w64 ((w64 ((w64 ((w64 ((w64 ((w64 (v34 + 1)) + 1)) + 1)) + 1)) + 1)) + 1), w64 (v35 + 1)), hH, Nat.lt_succ_self _, ?_⟩
 exact Le.ct 0 0 (hpin := ⟨⟨rfl, rfl⟩, trivial⟩)
 replace hH := condF hc hH
 refine AW.exit ?_
 refine AW.seq (AW.region ?_)
 iterate 2 refine AO.pu T ?_
 refine AO.nil (AW.ret ?_)
 have hR := someE hH; subst hR
 exact ⟨trivial, rfl, _, [], [1], rfl, expLG_cons (.c (.rowR rfl)) (expLG_cons (.c .u) (expLG_nil)), .c (.c .v), by decide⟩

def laws_heldChangeS_l1 : List Change → Nat → Int → Option Int
  | [], k1, v12 =>
    some v12
  | y2 :: ys3, k1, v12 =>
    cond (y2.tick != v12)
      (some (-1))
      (cond (y2.caller != (w64 (v12 + 1)))
        (some (-1))
        (cond (y2.item != (w64 ((w64 (v12 + 1)) + 1)))
          (some (-1))
          (cond (y2.name != (w64 ((w64 ((w64 (v12 + 1)) + 1)) + 1)))
            (some (-1))
            (cond (y2.mark != (w64 ((w64 ((w64 ((w64 (v12 + 1)) + 1)) + 1)) + 1)))
              (some (-1))
              ((need (3 != 0)).bind fun u14 =>
              cond (!(y2.review == (((w64 ((w64 ((w64 ((w64 ((w64 (v12 + 1)) + 1)) + 1)) + 1)) + 1)).tmod 3) == 0)))
                (some (-1))
                (laws_heldChangeS_l1 ys3 (k1 + 1) (w64 ((w64 ((w64 ((w64 ((w64 ((w64 (v12 + 1)) + 1)) + 1)) + 1)) + 1)) + 1))))))))
def laws_heldChangeS_p (a : List Change) (k : Int) : Option Int :=
  laws_heldChangeS_l1 a 0 k
theorem laws_heldChangeS_ok (a : List Change) (k : Int) (r : Int) (hH : laws_heldChangeS_p a k = some r) : SpecR Tryd.prog 17 [.s (List.map encChange a), k] (.v (.int .i64 r)) := by
 refine fn_ok T Tryd.func17 rfl (by decide) rfl ?_
 refine AW.seq (AW.region ?_)
 refine AO.pu T ?_
 refine AO.nil ?_
 iterate 2 refine AW.seq ?_
 refine AW.region ?_
 refine AO.pu T ?_
 refine AO.nil ?_
 refine AW.block ?_
 refine AW.loopS (fun s : Nat × Int => (⟨[(0, .s (List.map encChange a)), (1, s.2), (5, (s.1 : Int))], [], 69, []⟩ : St)) (fun s => s.1 ≤ a.length ∧ laws_heldChangeS_l1 (a.drop s.1) s.1 s.2 = some r) (fun s => a.length - s.1) (0, k) ⟨Nat.zero_le _, hH⟩ ?_ ?_
 exact Le.ct 0 0
 rintro ⟨k1, v12⟩ ⟨hk, hH⟩
 replace hH : laws_heldChangeS_l1 (a.drop k1) k1 v12 = some r := hH
 try dsimp only
 refine AW.boundM (t := 0) (l := a) rfl (fun hb5 => ?_)
 rcases hd4 : a.drop k1 with _ | ⟨y2, ys3⟩
 rw [hd4, laws_heldChangeS_l1] at hH
 have hlt6 := drop_ge hd4
 iterate 2 refine AW.seq ?_
 refine AW.region ?_
 iterate 2 refine AO.pu T ?_
 refine AO.val rfl rfl (len_map_ok T rfl rfl rfl) ?_
 refine AO.pu T ?_
 refine AO.nil ?_
 refine AW.condF' (b := decide ((k1 : Int) < (a.length : Int))) rfl (rngF hlt6) ?_
 refine AW.exit ?_
 refine AW.seq (AW.region ?_)
 iterate 2 refine AO.pu T ?_
 refine AO.nil (AW.ret ?_)
 have hR := someE hH; subst hR
 exact retQ.i [] rfl (.c (.c .v))
 rw [hd4, laws_heldChangeS_l1] at hH
 have hlt6 := drop_lt hd4
 iterate 2 refine AW.seq ?_
 refine AW.region ?_
 iterate 2 refine AO.pu T ?_
 refine AO.val rfl rfl (len_map_ok T rfl rfl rfl) ?_
 refine AO.pu T ?_
 refine AO.nil ?_
 refine AW.condT' (b := decide ((k1 : Int) < (a.length : Int))) rfl (rngT hlt6) ?_
 refine AW.skip ?_
 refine AW.seq ?_
 refine AW.block ?_
 iterate 2 refine AW.seq ?_
 refine AW.region ?_
 iterate 2 refine AO.pu T ?_
 refine AO.val rfl rfl (ix_map_ok T rfl rfl rfl rfl rfl (getI_drop hd4) rfl) ?_
 iterate 4 refine AO.pu T ?_
 refine AO.nil ?_
 refine AW.cond (b := (y2.tick != v12)) rfl (fun hc => ?_) (fun hc => ?_)
 replace hH := condT hc hH
 refine AW.seq (AW.region ?_)
 refine AO.pu T ?_
 refine AO.nil (AW.ret ?_)
 have hR := someE hH; subst hR
 exact retQ.i [] rfl (.c (.c .v))
 replace hH := condF hc hH
 refine AW.skip ?_
 refine AW.seq (AW.region ?_)
 refine AO.pu T ?_
 refine AO.val rfl rfl (arw_ok rfl rfl rfl rfl) ?_
 refine AO.pu T ?_
 refine AO.nil ?_
 iterate 2 refine AW.seq ?_
 refine AW.region ?_
 iterate 2 refine AO.pu T ?_
 refine AO.val rfl rfl (ix_map_ok T rfl rfl rfl rfl rfl (getI_drop hd4) rfl) ?_
 iterate 4 refine AO.pu T ?_
 refine AO.nil ?_
 refine AW.cond (b := (y2.caller != (w64 (v12 + 1)))) rfl (fun hc => ?_) (fun hc => ?_)
 replace hH := condT hc hH
 refine AW.seq (AW.region ?_)
 refine AO.pu T ?_
 refine AO.nil (AW.ret ?_)
 have hR := someE hH; subst hR
 exact retQ.i [] rfl (.c (.c .v))
 replace hH := condF hc hH
 refine AW.skip ?_
 refine AW.seq (AW.region ?_)
 refine AO.pu T ?_
 refine AO.val rfl rfl (arw_ok rfl rfl rfl rfl) ?_
 refine AO.pu T ?_
 refine AO.nil ?_
 refine AW.le (Le.ct 0 0 (σ' := (⟨[(0, .s (List.map encChange a)), (1, w64 ((w64 (v12 + 1)) + 1)), (5, (k1 : Int))], [], 69, []⟩ : St))) ?_
 iterate 2 refine AW.seq ?_
 refine AW.region ?_
 iterate 2 refine AO.pu T ?_
 refine AO.val rfl rfl (ix_map_ok T rfl rfl rfl rfl rfl (getI_drop hd4) rfl) ?_
 iterate 4 refine AO.pu T ?_
 refine AO.nil ?_
 refine AW.cond (b := (y2.item != (w64 ((w64 (v12 + 1)) + 1)))) rfl (fun hc => ?_) (fun hc => ?_)
 replace hH := condT hc hH
 refine AW.seq (AW.region ?_)
 refine AO.pu T ?_
 refine AO.nil (AW.ret ?_)
 have hR := someE hH; subst hR
 exact retQ.i [] rfl (.c (.c .v))
 replace hH := condF hc hH
 refine AW.skip ?_
 refine AW.seq (AW.region ?_)
 refine AO.pu T ?_
 refine AO.val rfl rfl (arw_ok rfl rfl rfl rfl) ?_
 refine AO.pu T ?_
 refine AO.nil ?_
 iterate 2 refine AW.seq ?_
 refine AW.region ?_
 iterate 2 refine AO.pu T ?_
 refine AO.val rfl rfl (ix_map_ok T rfl rfl rfl rfl rfl (getI_drop hd4) rfl) ?_
 iterate 4 refine AO.pu T ?_
 refine AO.nil ?_
 refine AW.cond (b := (y2.name != (w64 ((w64 ((w64 (v12 + 1)) + 1)) + 1)))) rfl (fun hc => ?_) (fun hc => ?_)
 replace hH := condT hc hH
 refine AW.seq (AW.region ?_)
 refine AO.pu T ?_
 refine AO.nil (AW.ret ?_)
 have hR := someE hH; subst hR
 exact retQ.i [] rfl (.c (.c .v))
 replace hH := condF hc hH
 refine AW.skip ?_
 refine AW.seq (AW.region ?_)
 refine AO.pu T ?_
 refine AO.val rfl rfl (arw_ok rfl rfl rfl rfl) ?_
 refine AO.pu T ?_
 refine AO.nil ?_
 iterate 2 refine AW.seq ?_
 refine AW.region ?_
 iterate 2 refine AO.pu T ?_
 refine AO.val rfl rfl (ix_map_ok T rfl rfl rfl rfl rfl (getI_drop hd4) rfl) ?_
 iterate 4 refine AO.pu T ?_
 refine AO.nil ?_
 refine AW.le (Le.ct 0 0 (σ' := (⟨[(0, .s (List.map encChange a)), (1, w64 ((w64 ((w64 ((w64 (v12 + 1)) + 1)) + 1)) + 1)), (5, (k1 : Int)), (54, .v (.bool (y2.mark != (w64 ((w64 ((w64 ((w64 (v12 + 1)) + 1)) + 1)) + 1)))))], [], 69, []⟩ : St))) ?_
 refine AW.cond (b := (y2.mark != (w64 ((w64 ((w64 ((w64 (v12 + 1)) + 1)) + 1)) + 1)))) rfl (fun hc => ?_) (fun hc => ?_)
 replace hH := condT hc hH
 refine AW.seq (AW.region ?_)
 refine AO.pu T ?_
 refine AO.nil (AW.ret ?_)
 have hR := someE hH; subst hR
 exact retQ.i [] rfl (.c (.c .v))
 replace hH := condF hc hH
 refine AW.skip ?_
 refine AW.seq (AW.region ?_)
 refine AO.pu T ?_
 refine AO.val rfl rfl (arw_ok rfl rfl rfl rfl) ?_
 refine AO.pu T ?_
 refine AO.nil ?_
 iterate 2 refine AW.seq ?_
 obtain ⟨u14, hx15, hH⟩ := bindE hH
 refine AW.region ?_
 iterate 2 refine AO.pu T ?_
 refine AO.val rfl rfl (ix_map_ok T rfl rfl rfl rfl rfl (getI_drop hd4) rfl) ?_
 iterate 3 refine AO.pu T ?_
 refine AO.val rfl rfl (rem_ok rfl rfl rfl (neZ (needT (hx15)))) ?_
 iterate 2 refine AO.pu T ?_
 refine AO.nil ?_
 refine AW.cond (b := (!(y2.review == (((w64 ((w64 ((w64 ((w64 ((w64 (v12 + 1)) + 1)) + 1)) + 1)) + 1)).tmod 3) == 0)))) rfl (fun hc => ?_) (fun hc => ?_)
 replace hH := condT hc hH
 refine AW.seq (AW.region ?_)
 refine AO.pu T ?_
 refine AO.nil (AW.ret ?_)
 have hR := someE hH; subst hR
 exact retQ.i [] rfl (.c (.c .v))
 replace hH := condF hc hH
 refine AW.skip ?_
 refine AW.region ?_
 refine AO.pu T ?_
 refine AO.val rfl rfl (arw_ok rfl rfl rfl rfl) ?_
 refine AO.pu T ?_
 refine AO.nil ?_
 refine AW.region ?_
 refine AO.pu T ?_
 refine AO.val rfl rfl (ar_ok rfl rfl rfl rfl (inI_succ hlt6 hb5)) ?_
 refine AO.pu T ?_
 refine AO.nil ?_
 refine ⟨(k1 + 1, w64 ((w64 ((w64 ((w64 ((w64 ((w64 (v12 + 1)) + 1)) + 1)) + 1)) + 1)) + 1)), ⟨Nat.succ_le_of_lt hlt6, (by rw [drop_succ_of hd4]; exact hH)⟩, (by have := hlt6; dsimp only; omega), ?_⟩
 exact Le.ct 0 0

def laws_FnExactParseHistory_p (fuel : Nat) (aL : List Item) (aS : ByteArray) : Option Bool :=
  cond (decide ((aS.size : Int) > 1048576))
    (some true)
    ((laws_szItemS_p aL 1048576).bind fun x1 =>
    cond (decide (x1 < 0))
      (some true)
      ((laws_toItemS_p aL).bind fun x3 =>
      (spec_ParseHistory_p fuel x3 aS).bind fun x5 =>
      (impl_ParseHistory_p fuel x3 aS).bind fun x7 =>
      (laws_eqChangeS_p x7.1 x5.1).bind fun x9 =>
      cond ((!x9) || (!(x7.2 == x5.2)))
        (some false)
        ((laws_eqItemS_p x3 x3).bind fun x11 =>
        cond (!x11)
          (some false)
          ((laws_markItemS_p fuel x3 1).bind fun x13 =>
          cond ((decide (x13.2 < 0) || (!x9)) || (!(x7.2 == x5.2)))
            (some false)
            ((laws_markChangeS_p fuel x7.1 1).bind fun x15 =>
            (laws_heldChangeS_p x15.1 1).bind fun x17 =>
            cond (decide (x17 < 0))
              (some false)
              (cond (x17 != x15.2)
                (some false)
                (cond ((!x9) || (!(x7.2 == x5.2)))
                  (some false)
                  (cond (decide (x17 < 0))
                    (some false)
                    (cond (x17 != x15.2)
                      (some false)
                      (some true))))))))))
theorem laws_FnExactParseHistory_ok (fuel : Nat) (aL : List Item) (aS : ByteArray) (r : Bool) (hH : laws_FnExactParseHistory_p fuel aL aS = some r) : SpecR Tryd.prog 4 [.s (List.map encItem aL), .v (.string aS)] (.v (.bool r)) := by
 refine fn_ok T Tryd.func4 rfl (by decide) rfl ?_
 refine AW.seq (AW.region ?_)
 refine AO.pu T ?_
 refine AO.nil ?_
 iterate 2 refine AW.seq ?_
 refine AW.region ?_
 iterate 3 refine AO.pu T ?_
 refine AO.nil ?_
 refine AW.cond (b := decide ((aS.size : Int) > 1048576)) rfl (fun hc => ?_) (fun hc => ?_)
 replace hH := condT hc hH
 refine AW.seq (AW.region ?_)
 refine AO.pu T ?_
 refine AO.nil (AW.ret ?_)
 have hR := someE hH; subst hR
 exact retQ.i [] rfl (.c (.c .v))
 replace hH := condF hc hH
 refine AW.skip ?_
 refine AW.seq (AW.region ?_)
 refine AO.pu T ?_
 refine AO.nil (AW.seq ?_)
 obtain ⟨x1, hx2, hH⟩ := bindE hH
 refine AW.region ?_
 iterate 2 refine AO.pu T ?_
 refine AO.val rfl rfl (callV_ok rfl rfl rfl rfl (laws_szItemS_ok _ _ _ (hx2)) rfl) ?_
 refine AO.pu T ?_
 refine AO.nil ?_
 iterate 2 refine AW.seq ?_
 refine AW.region ?_
 iterate 2 refine AO.pu T ?_
 refine AO.nil ?_
 refine AW.cond (b := decide (x1 < 0)) rfl (fun hc => ?_) (fun hc => ?_)
 replace hH := condT hc hH
 refine AW.seq (AW.region ?_)
 refine AO.pu T ?_
 refine AO.nil (AW.ret ?_)
 have hR := someE hH; subst hR
 exact retQ.i [] rfl (.c (.c .v))
 replace hH := condF hc hH
 refine AW.skip ?_
 refine AW.seq ?_
 obtain ⟨x3, hx4, hH⟩ := bindE hH
 obtain ⟨x5, hx6, hH⟩ := bindE hH
 refine AW.region ?_
 refine AO.pu T ?_
 refine AO.step rfl (call_ok rfl 1 rfl rfl rfl (laws_toItemS_ok _ _ (hx4)) rfl rfl rfl) ?_
 refine AO.pu T ?_
 refine AO.step rfl (callL_ok rfl 2 rfl rfl (es := [.s (List.map encItem x3), .v (.string aS)]) (by exact ⟨(.rowR rfl (.map fun y => frzItem y)), .free rfl, trivial⟩) (spec_ParseHistory_ok fuel _ _ _ (hx6)) (zfree_t (zfl (.cons (zfree_map (fun y => (.cons (zfree_v _) (.cons (zfree_v _) (.cons (zfree_v _) (.cons (zfree_v _) (.cons (zfree_v _) (.cons (zfree_v _) .nil)))))))) (.cons (zfree_v _) .nil)))) rfl rfl rfl) ?_
 iterate 5 refine AO.pu T ?_
 refine AO.nil (AW.seq ?_)
 refine AW.region ?_
 refine AO.pu T ?_
 refine AO.step rfl (call_ok rfl 3 rfl rfl rfl (laws_toItemS_ok _ _ (hx4)) rfl rfl rfl) ?_
 refine AO.pu T ?_
 refine AO.nil (AW.seq ?_)
 obtain ⟨x7, hx8, hH⟩ := bindE hH
 refine AW.region ?_
 iterate 2 refine AO.pu T ?_
 refine AO.step rfl (callL_ok rfl 4 rfl rfl (es := [.s (List.map encItem x3), .v (.string aS)]) (by exact ⟨(.rowR rfl (.map fun y => frzItem y)), .free rfl, trivial⟩) (impl_ParseHistory_ok fuel _ _ _ (hx8)) (zfree_t (zfl (.cons (zfree_map (fun y => (.cons (zfree_v _) (.cons (zfree_v _) (.cons (zfree_v _) (.cons (zfree_v _) (.cons (zfree_v _) (.cons (zfree_v _) .nil)))))))) (.cons (zfree_v _) .nil)))) rfl rfl rfl) ?_
 iterate 5 refine AO.pu T ?_
 refine AO.nil ?_
 refine AW.le (Le.ct 0 0 (σ' := (⟨[(0, .s (List.map encItem aL)), (1, .v (.string aS)), (6, .R 2), (7, .v (.bool x5.2)), (8, .R 3), (9, .R 4), (10, .v (.bool x7.2))], [(2, .row 6 (List.map encChange x5.1)), (3, .row 3 (List.map encItemO x3)), (4, .row 6 (List.map encChange x7.1))], 104, []⟩ : St))) ?_
 iterate 2 refine AW.seq ?_
 obtain ⟨x9, hx10, hH⟩ := bindE hH
 refine AW.region ?_
 iterate 2 refine AO.pu T ?_
 refine AO.val rfl rfl (callLV_ok rfl rfl rfl (es := [.s (List.map encChange x7.1), .s (List.map encChange x5.1)]) ⟨(.rowR rfl (.map fun y => .vs rfl)), (.rowR rfl (.map fun y => .vs rfl)), trivial⟩ (laws_eqChangeS_ok _ _ _ (hx10)) (zfree_v _) rfl) ?_
 iterate 2 refine AO.pu T ?_
 iterate 2 refine AO.pureG T [] rfl trivial rfl rfl ?_
 refine AO.pureG T [44, 45] rfl ⟨fun h => h, fun h => h, trivial⟩ rfl rfl ?_
 refine AO.val rfl rfl (pick_or rfl rfl rfl rfl) ?_
 refine AO.nil ?_
 refine AW.cond (b := ((!x9) || (!(x7.2 == x5.2)))) rfl (fun hc => ?_) (fun hc => ?_)
 replace hH := condT hc hH
 refine AW.seq (AW.region ?_)
 refine AO.pu T ?_
 refine AO.nil (AW.ret ?_)
 have hR := someE hH; subst hR
 exact retQ.i [] rfl (.c (.c .v))
 replace hH := condF hc hH
 refine AW.skip ?_
 iterate 2 refine AW.seq ?_
 obtain ⟨x11, hx12, hH⟩ := bindE hH
 refine AW.region ?_
 iterate 2 refine AO.pu T ?_
 refine AO.step rfl (call_ok rfl 5 rfl rfl rfl (laws_toItemS_ok _ _ (hx4)) rfl rfl rfl) ?_
 refine AO.val rfl rfl (callLV_ok rfl rfl rfl (es := [.s (List.map encItem x3), .s (List.map encItem x3)]) ⟨(.rowR rfl (.map fun y => frzItem y)), (.rowR rfl (.map fun y => frzItem y)), trivial⟩ (laws_eqItemS_ok _ _ _ (hx12)) (zfree_v _) rfl) ?_
 refine AO.pu T ?_
 refine AO.nil ?_
 refine AW.cond (b := (!x11)) rfl (fun hc => ?_) (fun hc => ?_)
 replace hH := condT hc hH
 refine AW.seq (AW.region ?_)
 refine AO.pu T ?_
 refine AO.nil (AW.ret ?_)
 have hR := someE hH; subst hR
 exact retQ.i [] rfl (.c (.c .v))
 replace hH := condF hc hH
 refine AW.skip ?_
 refine AW.seq (AW.region ?_)
 refine AO.pu T ?_
 refine AO.nil (AW.seq ?_)
 obtain ⟨x13, hx14, hH⟩ := bindE hH
 refine AW.region ?_
 iterate 2 refine AO.pu T ?_
 refine AO.step rfl (callM_ok rfl 6 rfl rfl (es := [.w 3 (x3.map encItemO), .v (.int .i64 1)]) (outs := [.w 3 (x13.1.map encItemO), .u]) (ids := [3]) (by exact expLG_cons (.c (.rowR rfl)) (expLG_cons (.c .v) (expLG_nil))) (by decide) (.inl (by rfl)) (by rfl) (laws_markItemS_ok fuel _ _ _ (hx14)) rfl (by rfl) rfl) ?_
 refine AO.pu T ?_
 refine AO.nil ?_
 iterate 2 refine AW.seq ?_
 refine AW.region ?_
 iterate 3 refine AO.pu T ?_
 iterate 2 refine AO.pureG T [] rfl trivial rfl rfl ?_
 refine AO.guard [59, 60] rfl ⟨fun h => h, fun h => h, trivial⟩ (fun hg => callLV_ok rfl rfl rfl (es := [.s (List.map encChange x7.1), .s (List.map encChange x5.1)]) ⟨(.rowR rfl (.map fun y => .vs rfl)), (.rowR rfl (.map fun y => .vs rfl)), trivial⟩ (laws_eqChangeS_ok _ _ _ (hx10)) (zfree_v _) rfl) rfl ?_
 refine AO.pureG T [61] rfl ⟨fun h => h, trivial⟩ rfl rfl ?_
 refine AO.val rfl rfl (pick_or rfl rfl rfl rfl) ?_
 refine AO.pu T ?_
 iterate 2 refine AO.pureG T [] rfl trivial rfl rfl ?_
 refine AO.pureG T [65, 66] rfl ⟨fun h => h, fun h => h, trivial⟩ rfl rfl ?_
 refine AO.val rfl rfl (pick_or rfl rfl rfl rfl) ?_
 refine AO.nil ?_
 refine AW.le (Le.ct 0 0 (σ' := (⟨[(0, .s (List.map encItem aL)), (1, .v (.string aS)), (6, .R 2), (7, .v (.bool x5.2)), (9, .R 4), (68, .v (.bool ((decide (x13.2 < 0) || (!x9)) || (!(x7.2 == x5.2)))))], [(2, .row 6 (List.map encChange x5.1)), (4, .row 6 (List.map encChange x7.1))], 104, []⟩ : St))) ?_
 refine AW.cond (b := ((decide (x13.2 < 0) || (!x9)) || (!(x7.2 == x5.2)))) rfl (fun hc => ?_) (fun hc => ?_)
 replace hH := condT hc hH
 refine AW.seq (AW.region ?_)
 refine AO.pu T ?_
 refine AO.nil (AW.ret ?_)
 have hR := someE hH; subst hR
 exact retQ.i [] rfl (.c (.c .v))
 replace hH := condF hc hH
 refine AW.skip ?_
 refine AW.seq (AW.region ?_)
 refine AO.pu T ?_
 refine AO.nil (AW.seq ?_)
 obtain ⟨x15, hx16, hH⟩ := bindE hH
 refine AW.region ?_
 iterate 2 refine AO.pu T ?_
 refine AO.step rfl (callM_ok rfl 6 rfl rfl (es := [.w 6 (x7.1.map encChange), .v (.int .i64 1)]) (outs := [.w 6 (x15.1.map encChange), .u]) (ids := [4]) (by exact expLG_cons (.c (.rowR rfl)) (expLG_cons (.c .v) (expLG_nil))) (by decide) (.inl (by rfl)) (by rfl) (laws_markChangeS_ok fuel _ _ _ (hx16)) rfl (by rfl) rfl) ?_
 refine AO.pu T ?_
 refine AO.nil (AW.seq ?_)
 refine AW.region ?_
 refine AO.pu T ?_
 refine AO.nil (AW.seq ?_)
 obtain ⟨x17, hx18, hH⟩ := bindE hH
 refine AW.region ?_
 iterate 2 refine AO.pu T ?_
 refine AO.val rfl rfl (callLV_ok rfl rfl rfl (es := [.s (List.map encChange x15.1), (1 : Int)]) ⟨(.rowR rfl (.map fun y => .vs rfl)), .free rfl, trivial⟩ (laws_heldChangeS_ok _ _ _ (hx18)) (zfree_v _) rfl) ?_
 refine AO.pu T ?_
 refine AO.nil ?_
 iterate 2 refine AW.seq ?_
 refine AW.region ?_
 iterate 2 refine AO.pu T ?_
 refine AO.nil ?_
 refine AW.cond (b := decide (x17 < 0)) rfl (fun hc => ?_) (fun hc => ?_)
 replace hH := condT hc hH
 refine AW.seq (AW.region ?_)
 refine AO.pu T ?_
 refine AO.nil (AW.ret ?_)
 have hR := someE hH; subst hR
 exact retQ.i [] rfl (.c (.c .v))
 replace hH := condF hc hH
 refine AW.skip ?_
 iterate 2 refine AW.seq ?_
 refine AW.region ?_
 iterate 3 refine AO.pu T ?_
 refine AO.nil ?_
 refine AW.cond (b := (x17 != x15.2)) rfl (fun hc => ?_) (fun hc => ?_)
 replace hH := condT hc hH
 refine AW.seq (AW.region ?_)
 refine AO.pu T ?_
 refine AO.nil (AW.ret ?_)
 have hR := someE hH; subst hR
 exact retQ.i [] rfl (.c (.c .v))
 replace hH := condF hc hH
 refine AW.skip ?_
 refine AW.seq (AW.region ?_)
 refine AO.pu T ?_
 refine AO.step rfl (call_ok rfl 6 rfl rfl rfl (laws_toItemS_ok _ _ (hx4)) rfl rfl rfl) ?_
 refine AO.pu T ?_
 refine AO.step rfl (callL_ok rfl 7 rfl rfl (es := [.s (List.map encItem x3), .v (.string aS)]) (by exact ⟨(.rowR rfl (.map fun y => frzItem y)), .free rfl, trivial⟩) (impl_ParseHistory_ok fuel _ _ _ (hx8)) (zfree_t (zfl (.cons (zfree_map (fun y => (.cons (zfree_v _) (.cons (zfree_v _) (.cons (zfree_v _) (.cons (zfree_v _) (.cons (zfree_v _) (.cons (zfree_v _) .nil)))))))) (.cons (zfree_v _) .nil)))) rfl rfl rfl) ?_
 iterate 5 refine AO.pu T ?_
 refine AO.nil ?_
 refine AW.le (Le.ct 0 0 (σ' := (⟨[(6, .R 2), (7, .v (.bool x5.2)), (9, .R 4), (12, x15.2), (14, .R 7), (15, .v (.bool x7.2))], [(2, .row 6 (List.map encChange x5.1)), (4, .row 6 (List.map encChange x15.1)), (7, .row 6 (List.map encChange x7.1))], 104, []⟩ : St))) ?_
 iterate 2 refine AW.seq ?_
 refine AW.region ?_
 iterate 2 refine AO.pu T ?_
 refine AO.val rfl rfl (callLV_ok rfl rfl rfl (es := [.s (List.map encChange x7.1), .s (List.map encChange x5.1)]) ⟨(.rowR rfl (.map fun y => .vs rfl)), (.rowR rfl (.map fun y => .vs rfl)), trivial⟩ (laws_eqChangeS_ok _ _ _ (hx10)) (zfree_v _) rfl) ?_
 iterate 2 refine AO.pu T ?_
 iterate 2 refine AO.pureG T [] rfl trivial rfl rfl ?_
 refine AO.pureG T [92, 93] rfl ⟨fun h => h, fun h => h, trivial⟩ rfl rfl ?_
 refine AO.val rfl rfl (pick_or rfl rfl rfl rfl) ?_
 refine AO.nil ?_
 refine AW.cond (b := ((!x9) || (!(x7.2 == x5.2)))) rfl (fun hc => ?_) (fun hc => ?_)
 replace hH := condT hc hH
 refine AW.seq (AW.region ?_)
 refine AO.pu T ?_
 refine AO.nil (AW.ret ?_)
 have hR := someE hH; subst hR
 exact retQ.i [] rfl (.c (.c .v))
 replace hH := condF hc hH
 refine AW.skip ?_
 refine AW.seq (AW.region ?_)
 refine AO.pu T ?_
 refine AO.nil (AW.seq ?_)
 refine AW.region ?_
 iterate 2 refine AO.pu T ?_
 refine AO.val rfl rfl (callLV_ok rfl rfl rfl (es := [.s (List.map encChange x15.1), (1 : Int)]) ⟨(.rowR rfl (.map fun y => .vs rfl)), .free rfl, trivial⟩ (laws_heldChangeS_ok _ _ _ (hx18)) (zfree_v _) rfl) ?_
 refine AO.pu T ?_
 refine AO.nil ?_
 iterate 2 refine AW.seq ?_
 refine AW.region ?_
 iterate 2 refine AO.pu T ?_
 refine AO.nil ?_
 refine AW.cond (b := decide (x17 < 0)) rfl (fun hc => ?_) (fun hc => ?_)
 replace hH := condT hc hH
 refine AW.seq (AW.region ?_)
 refine AO.pu T ?_
 refine AO.nil (AW.ret ?_)
 have hR := someE hH; subst hR
 exact retQ.i [] rfl (.c (.c .v))
 replace hH := condF hc hH
 refine AW.skip ?_
 iterate 2 refine AW.seq ?_
 refine AW.region ?_
 iterate 3 refine AO.pu T ?_
 refine AO.nil ?_
 refine AW.cond (b := (x17 != x15.2)) rfl (fun hc => ?_) (fun hc => ?_)
 replace hH := condT hc hH
 refine AW.seq (AW.region ?_)
 refine AO.pu T ?_
 refine AO.nil (AW.ret ?_)
 have hR := someE hH; subst hR
 exact retQ.i [] rfl (.c (.c .v))
 replace hH := condF hc hH
 refine AW.skip ?_
 refine AW.seq (AW.region ?_)
 refine AO.pu T ?_
 refine AO.nil (AW.ret ?_)
 have hR := someE hH; subst hR
 exact retQ.i [] rfl (.c (.c .v))

def spec_hiAsked_p (fuel : Nat) (l : List Item) (h : List Change) : Option Bool :=
  (spec_itList_p fuel l).bind fun x1 =>
  (opt x1 default (spec_hiGood_p l h)).bind fun x3 =>
  some (x1 && x3)
theorem spec_hiAsked_ok (fuel : Nat) (l : List Item) (h : List Change) (r : Bool) (hH : spec_hiAsked_p fuel l h = some r) : SpecR Tryd.prog 19 [.s (List.map encItem l), .s (List.map encChange h)] (.v (.bool r)) := by
 refine fn_ok T Tryd.func19 rfl (by decide) rfl ?_
 refine AW.seq (AW.region ?_)
 refine AO.pu T ?_
 refine AO.nil (AW.seq ?_)
 obtain ⟨x1, hx2, hH⟩ := bindE hH
 obtain ⟨x3, hx4, hH⟩ := bindE hH
 refine AW.region ?_
 refine AO.pu T ?_
 refine AO.val rfl rfl (callV_ok rfl rfl rfl rfl (spec_itList_ok fuel _ _ (hx2)) rfl) ?_
 refine AO.pu T ?_
 iterate 2 refine AO.pureG T [] rfl trivial rfl rfl ?_
 refine AO.guard [8, 9] rfl ⟨fun h => h, fun h => h, trivial⟩ (fun hg => callV_ok rfl rfl rfl rfl (spec_hiGood_ok _ _ _ (optT hx4 hg)) rfl) rfl ?_
 refine AO.val rfl rfl (pick_and rfl rfl rfl rfl) ?_
 refine AO.pu T ?_
 refine AO.nil (AW.ret ?_)
 have hR := someE hH; subst hR
 exact retQ.i [] rfl (.c (.c .v))

end Go.Proofs.YtjbkbiofklgblaaDoor

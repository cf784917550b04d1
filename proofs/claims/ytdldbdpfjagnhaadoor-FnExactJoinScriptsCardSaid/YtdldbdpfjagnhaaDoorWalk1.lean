/- The walk, part 1: what each function reached by the law FnExactJoinScripts computes. No condition. -/
import Derived.Test.YtdldbdpfjagnhaaDoorAm2
import Derived.Test.YtdldbdpfjagnhaaDoorShelf
import Derived.Test.YtdldbdpfjagnhaaDoorProg
set_option maxRecDepth 4000
set_option maxHeartbeats 1000000
set_option linter.unusedVariables false
set_option linter.unusedSimpArgs false
set_option linter.unusedSectionVars false

namespace Go.Proofs.YtdldbdpfjagnhaaDoor
open Go.AM
def teL : List (Option TI) := [
  none,
  none,
  some ⟨.int .i64, 1, 8, some (.int .i64 0)⟩,
  some ⟨.int .i64, 1, 8, some (.int .i64 0)⟩,
  some ⟨.bool, 1, 1, some (.bool false)⟩,
  some ⟨.int .u8, 1, 1, some (.int .u8 0)⟩,
  some ⟨.int .u8, 1, 1, some (.int .u8 0)⟩,
  some ⟨.struct [(0, 2), (1, 3), (2, 4), (3, 6)], 4, 24, some (.agg #[.int .i64 0, .int .i64 0, .bool false, .int .u8 0])⟩,
  some ⟨.struct [(0, 2), (1, 3), (2, 4), (3, 6)], 4, 24, some (.agg #[.int .i64 0, .int .i64 0, .bool false, .int .u8 0])⟩,
  some ⟨.str, 1, 16, some (.string ⟨#[]⟩)⟩,
  some ⟨.str, 1, 16, some (.string ⟨#[]⟩)⟩,
  some ⟨.str, 1, 16, some (.string ⟨#[]⟩)⟩,
  some ⟨.int .u64, 1, 8, some (.int .u64 0)⟩,
  some ⟨.struct [(0, 9), (1, 12)], 2, 24, some (.agg #[.string ⟨#[]⟩, .int .u64 0])⟩,
  some ⟨.struct [(0, 9), (1, 12)], 2, 24, some (.agg #[.string ⟨#[]⟩, .int .u64 0])⟩,
  some ⟨.ptr 48, 1, 8, some (.pointer none)⟩,
  some ⟨.ptr 51, 1, 8, some (.pointer none)⟩,
  some ⟨.ptr 60, 1, 8, some (.pointer none)⟩,
  some ⟨.struct [(0, 17)], 1, 8, some (.agg #[.pointer none])⟩,
  some ⟨.struct [(0, 17)], 1, 8, some (.agg #[.pointer none])⟩,
  none,
  some ⟨.int .i32, 1, 4, some (.int .i32 0)⟩,
  none,
  none,
  none,
  some ⟨.slice 9, 1, 24, some (.slice none 0 0)⟩,
  none,
  none,
  none,
  none,
  none,
  none,
  none,
  none,
  none,
  none,
  none,
  none,
  some ⟨.int .u64, 1, 8, some (.int .u64 0)⟩,
  none,
  some ⟨.struct [(0, 5), (1, 5)], 2, 2, some (.agg #[.int .u8 0, .int .u8 0])⟩,
  some ⟨.struct [(0, 5), (1, 5)], 2, 2, some (.agg #[.int .u8 0, .int .u8 0])⟩,
  some ⟨.array 16 41, 32, 32, some (.agg #[.int .u8 0, .int .u8 0, .int .u8 0, .int .u8 0, .int .u8 0, .int .u8 0, .int .u8 0, .int .u8 0, .int .u8 0, .int .u8 0, .int .u8 0, .int .u8 0, .int .u8 0, .int .u8 0, .int .u8 0, .int .u8 0, .int .u8 0, .int .u8 0, .int .u8 0, .int .u8 0, .int .u8 0, .int .u8 0, .int .u8 0, .int .u8 0, .int .u8 0, .int .u8 0, .int .u8 0, .int .u8 0, .int .u8 0, .int .u8 0, .int .u8 0, .int .u8 0])⟩,
  some ⟨.int .u32, 1, 4, some (.int .u32 0)⟩,
  none,
  none,
  none,
  some ⟨.struct [(0, 17), (1, 17), (2, 17), (3, 9)], 4, 40, some (.agg #[.pointer none, .pointer none, .pointer none, .string ⟨#[]⟩])⟩,
  some ⟨.struct [(0, 17), (1, 17), (2, 17), (3, 9)], 4, 40, some (.agg #[.pointer none, .pointer none, .pointer none, .string ⟨#[]⟩])⟩,
  some ⟨.array 0 16, 0, 0, some (.agg #[])⟩,
  some ⟨.struct [(0, 49)], 0, 0, some (.agg #[])⟩,
  some ⟨.struct [(0, 49)], 0, 0, some (.agg #[])⟩,
  none,
  some ⟨.int .u8, 1, 1, some (.int .u8 0)⟩,
  some ⟨.int .u8, 1, 1, some (.int .u8 0)⟩,
  none,
  some ⟨.ptr 5, 1, 8, some (.pointer none)⟩,
  some ⟨.int .i32, 1, 4, some (.int .i32 0)⟩,
  some ⟨.int .i32, 1, 4, some (.int .i32 0)⟩,
  some ⟨.struct [(0, 12), (1, 12), (2, 43), (3, 53), (4, 5), (5, 5), (6, 54), (7, 55), (8, 56), (9, 57), (10, 58)], 11, 48, some (.agg #[.int .u64 0, .int .u64 0, .int .u32 0, .int .u8 0, .int .u8 0, .int .u8 0, .int .u8 0, .nilFunc, .pointer none, .int .i32 0, .int .i32 0])⟩,
  some ⟨.struct [(0, 12), (1, 12), (2, 43), (3, 53), (4, 5), (5, 5), (6, 54), (7, 55), (8, 56), (9, 57), (10, 58)], 11, 48, some (.agg #[.int .u64 0, .int .u64 0, .int .u32 0, .int .u8 0, .int .u8 0, .int .u8 0, .int .u8 0, .nilFunc, .pointer none, .int .i32 0, .int .i32 0])⟩,
  none]
def te : TE := teOf teL
theorem T : TEok Tryd.prog te := TEok_of (by kernel_rfl)
theorem mix : Tryd.prog.follows .mixedOrders = true := by kernel_rfl

def encInt (x : Int) : List D := [.v (.int .i64 x)]
def encBool (x : Bool) : List D := [.v (.bool x)]
def encStr (x : ByteArray) : List D := [.v (.string x)]
def encInt_u8 (x : Int) : List D := [.v (.int .u8 x)]
def encInt_u64 (x : Int) : List D := [.v (.int .u64 x)]
def encInt_i32 (x : Int) : List D := [.v (.int .i32 x)]
def encLStr (x : List ByteArray) : List D := [.s (x.map encStr)]
def encLStrO (x : List ByteArray) : List D := [.w 1 (x.map encStr)]
theorem frzLStr (x : List ByteArray) : FrzL (encLStrO x) (encLStr x) := .cons (.map fun y => .vs rfl) .nil

def spec_l1Split_l1 (sA : ByteArray) (b : Int) : Nat → List ByteArray → Int → Int → Option ((List ByteArray))
  | 0, _, _, _ => none
  | k1 + 1, v17, v18, v19 =>
    cond (decide (v19 < (sA.size : Int)))
      ((strI sA v19).bind fun b21 =>
      cond ((b21.toNat : Int) == b)
        ((need (inB v18 v19 sA.size)).bind fun u23 =>
        (need (fitsB 16 (v17.length + ([(ByteArray.extract sA v18.toNat v19.toNat)]).length))).bind fun u25 =>
        spec_l1Split_l1 sA b k1 (v17 ++ [(ByteArray.extract sA v18.toNat v19.toNat)]) (w64 (v19 + 1)) (w64 (v19 + 1)))
        (spec_l1Split_l1 sA b k1 v17 v18 (w64 (v19 + 1))))
      ((need (inB v18 sA.size sA.size)).bind fun u27 =>
      (need (fitsB 16 (v17.length + ([(ByteArray.extract sA v18.toNat sA.size)]).length))).bind fun u29 =>
      some (v17 ++ [(ByteArray.extract sA v18.toNat sA.size)]))
def spec_l1Split_p (fuel : Nat) (sA : ByteArray) (b : Int) : Option (List ByteArray) :=
  spec_l1Split_l1 sA b fuel [] 0 0
theorem spec_l1Split_ok (fuel : Nat) (sA : ByteArray) (b : Int) (r : (List ByteArray)) (hH : spec_l1Split_p fuel sA b = some r) : SpecR Tryd.prog 8 [.v (.string sA), .v (.int .u8 b)] (.w 1 (r.map encStr)) := by
 refine fn_ok T Tryd.func8 rfl (by decide) rfl ?_
 refine AW.seq (AW.region ?_)
 refine AO.pu T ?_
 refine AO.nil (AW.seq ?_)
 refine AW.region ?_
 refine AO.pu T ?_
 refine AO.nil (AW.seq ?_)
 refine AW.region ?_
 refine AO.pu T ?_
 refine AO.nil ?_
 iterate 2 refine AW.seq ?_
 refine AW.region ?_
 refine AO.pu T ?_
 refine AO.nil ?_
 refine AW.block ?_
 refine AW.loopS (fun s : Nat × (List ByteArray) × Int × Int => (⟨[(0, .v (.string sA)), (1, .v (.int .u8 b)), (5, .R 4), (6, s.2.2.1), (7, s.2.2.2)], [(4, .row 1 (List.map encStr s.2.1))], 34, []⟩ : St)) (fun s => spec_l1Split_l1 sA b s.1 s.2.1 s.2.2.1 s.2.2.2 = some r) (fun s => s.1) (fuel, [], 0, 0) hH ?_ ?_
 refine Le.trans (Le.void 5 4 1 rfl rfl) ?_
 exact Le.ct 0 0
 rintro ⟨k1, v17, v18, v19⟩ hH
 replace hH : spec_l1Split_l1 sA b k1 v17 v18 v19 = some r := hH
 try dsimp only
 rcases k1 with _ | k1
 cases (show none = some _ from hH)
 rw [spec_l1Split_l1] at hH
 iterate 2 refine AW.seq ?_
 refine AW.region ?_
 iterate 4 refine AO.pu T ?_
 refine AO.nil ?_
 refine AW.cond (b := decide (v19 < (sA.size : Int))) rfl (fun hc => ?_) (fun hc => ?_)
 replace hH := condT hc hH
 refine AW.skip ?_
 refine AW.seq ?_
 refine AW.block ?_
 refine AW.seq ?_
 obtain ⟨b21, hx22, hH⟩ := bindE hH
 refine AW.region ?_
 iterate 2 refine AO.pu T ?_
 refine AO.val rfl rfl (ix_strI_ok T rfl rfl rfl rfl (hx22)) ?_
 iterate 2 refine AO.pu T ?_
 refine AO.nil ?_
 refine AW.cond (b := ((b21.toNat : Int) == b)) rfl (fun hc => ?_) (fun hc => ?_)
 replace hH := condT hc hH
 refine AW.seq ?_
 obtain ⟨u23, hx24, hH⟩ := bindE hH
 obtain ⟨u25, hx26, hH⟩ := bindE hH
 refine AW.region ?_
 iterate 4 refine AO.pu T ?_
 refine AO.val rfl rfl (slice_str_lh T rfl rfl rfl rfl rfl (needT (hx24))) ?_
 refine AO.step rfl (mk_map_ok T rfl 5 rfl rfl rfl rfl rfl (f := encStr) (l := [(ByteArray.extract sA v18.toNat v19.toNat)]) rfl rfl (fun _ => rfl) rfl rfl rfl rfl rfl) ?_
 refine AO.step rfl (app_rv_map T rfl 6 rfl rfl rfl rfl rfl (by decide) rfl rfl rfl rfl (fun _ => rfl) (needT (hx26)) rfl rfl) ?_
 refine AO.pu T ?_
 refine AO.nil ?_
 refine AW.region ?_
 refine AO.pu T ?_
 refine AO.val rfl rfl (arw_ok rfl rfl rfl rfl) ?_
 refine AO.pu T ?_
 refine AO.nil ?_
 refine AW.region ?_
 refine AO.pu T ?_
 refine AO.val rfl rfl (arw_ok rfl rfl rfl rfl) ?_
 refine AO.pu T ?_
 refine AO.nil ?_
 refine ⟨(k1, (v17 ++ [(ByteArray.extract sA v18.toNat v19.toNat)]), w64 (v19 + 1), w64 (v19 + 1)), hH, Nat.lt_succ_self _, ?_⟩
 exact Le.ct 6 4
 replace hH := condF hc hH
 refine AW.skip ?_
 refine AW.region ?_
 refine AO.pu T ?_
 refine AO.val rfl rfl (arw_ok rfl rfl rfl rfl) ?_
 refine AO.pu T ?_
 refine AO.nil ?_
 refine ⟨(k1, v17, v18, w64 (v19 + 1)), hH, Nat.lt_succ_self _, ?_⟩
 exact Le.ct 0 0
 replace hH := condF hc hH
 refine AW.exit ?_
 refine AW.seq ?_
 obtain ⟨u27, hx28, hH⟩ := bindE hH
 obtain ⟨u29, hx30, hH⟩ := bindE hH
 refine AW.region ?_
 iterate 3 refine AO.pu T ?_
 refine AO.val rfl rfl (slice_str_lo T rfl rfl rfl rfl (needT (hx28))) ?_
 refine AO.step rfl (mk_map_ok T rfl 7 rfl rfl rfl rfl rfl (f := encStr) (l := [(ByteArray.extract sA v18.toNat sA.size)]) rfl rfl (fun _ => rfl) rfl rfl rfl rfl rfl) ?_
 refine AO.step rfl (app_rv_map T rfl 8 rfl rfl rfl rfl rfl (by decide) rfl rfl rfl rfl (fun _ => rfl) (needT (hx30)) rfl rfl) ?_
 refine AO.pu T ?_
 refine AO.nil (AW.ret ?_)
 have hR := someE hH; subst hR
 exact retQ.i [8] rfl (.c (.c (.rowR rfl)))

def spec_csLines_p (fuel : Nat) (script : ByteArray) : Option ((List ByteArray) × Bool) :=
  (opt ((!(decide ((script.size : Int) > 2000))) && (!decide (script = (⟨#[]⟩ : ByteArray)))) default (strI script (w64 ((script.size : Int) - 1)))).bind fun b1 =>
  cond (decide ((script.size : Int) > 2000) || ((!decide (script = (⟨#[]⟩ : ByteArray))) && ((b1.toNat : Int) != 10)))
    (some ([], false))
    ((spec_l1Split_p fuel script 10).bind fun x3 =>
    (sliceHi x3 (w64 ((x3.length : Int) - 1))).bind fun x5 =>
    some (x5, decide ((x5.length : Int) ≤ 40)))
theorem spec_csLines_ok (fuel : Nat) (script : ByteArray) (r : ((List ByteArray) × Bool)) (hH : spec_csLines_p fuel script = some r) : SpecR Tryd.prog 6 [.v (.string script)] (.t [.s (r.1.map encStr), .v (.bool r.2)]) := by
 refine fn_ok T Tryd.func6 rfl (by decide) rfl ?_
 refine AW.seq (AW.region ?_)
 iterate 2 refine AO.pu T ?_
 refine AO.nil ?_
 iterate 2 refine AW.seq ?_
 obtain ⟨b1, hx2, hH⟩ := bindE hH
 refine AW.region ?_
 iterate 4 refine AO.pu T ?_
 refine AO.pureG T [] rfl trivial rfl rfl ?_
 refine AO.pureG T [9] rfl ⟨fun h => h, trivial⟩ rfl rfl ?_
 refine AO.pureG T [10] rfl ⟨fun h => h, trivial⟩ rfl rfl ?_
 iterate 2 refine AO.pureG T [] rfl trivial rfl rfl ?_
 refine AO.pureG T [13] rfl ⟨fun h => h, trivial⟩ rfl rfl ?_
 refine AO.guard [14] rfl ⟨fun h => h, trivial⟩ (fun hg => arw_ok rfl rfl rfl rfl) rfl ?_
 refine AO.guard [12, 15] rfl ⟨fun h => h, fun h => h, trivial⟩ (fun hg => ix_strI_ok T rfl rfl rfl rfl (optT hx2 hg)) rfl ?_
 refine AO.pureG T [16] rfl ⟨fun h => h, trivial⟩ rfl rfl ?_
 refine AO.guard [11] rfl ⟨fun h => h, trivial⟩ (fun hg => pick_and rfl rfl rfl (by rw [hg]; exact Bool.true_and _)) rfl ?_
 refine AO.val rfl rfl (pick_or rfl rfl rfl rfl) ?_
 refine AO.nil ?_
 refine AW.cond (b := (decide ((script.size : Int) > 2000) || ((!decide (script = (⟨#[]⟩ : ByteArray))) && ((b1.toNat : Int) != 10)))) rfl (fun hc => ?_) (fun hc => ?_)
 replace hH := condT hc hH
 refine AW.seq (AW.region ?_)
 iterate 2 refine AO.pu T ?_
 refine AO.nil (AW.ret ?_)
 have hR := someE hH; subst hR
 exact retQ.i [] rfl (.t (expLG_cons (.c .nilS) (expLG_cons (.c .v) (expLG_nil))))
 replace hH := condF hc hH
 refine AW.skip ?_
 refine AW.seq ?_
 obtain ⟨x3, hx4, hH⟩ := bindE hH
 refine AW.region ?_
 refine AO.pu T ?_
 refine AO.step rfl (call_ok rfl 1 rfl rfl rfl (spec_l1Split_ok fuel _ _ _ (hx4)) rfl rfl rfl) ?_
 refine AO.pu T ?_
 refine AO.nil (AW.seq ?_)
 obtain ⟨x5, hx6, hH⟩ := bindE hH
 refine AW.le (Le.freezeM 1 (g := encStr) rfl (fun y => .vs rfl)) ?_
 refine AW.region ?_
 iterate 2 refine AO.pu T ?_
 refine AO.val rfl rfl (len_map_ok T rfl rfl rfl) ?_
 refine AO.val rfl rfl (arw_ok rfl rfl rfl rfl) ?_
 refine AO.val rfl rfl (slice_hi_map_ok T rfl rfl rfl rfl rfl (hx6) (fun _ => rfl)) ?_
 refine AO.pu T ?_
 refine AO.nil ?_
 refine AW.le (Le.ct 0 0 (σ' := (⟨[(4, .s (List.map encStr x5))], [], 31, []⟩ : St))) ?_
 refine AW.seq (AW.region ?_)
 iterate 2 refine AO.pu T ?_
 refine AO.val rfl rfl (len_map_ok T rfl rfl rfl) ?_
 iterate 3 refine AO.pu T ?_
 refine AO.nil (AW.ret ?_)
 have hR := someE hH; subst hR
 exact retQ.i [] rfl (.t (expLG_cons (.c .s) (expLG_cons (.c .v) (expLG_nil))))

def spec_JoinScripts_p (fuel : Nat) (a : ByteArray) (b : ByteArray) : Option (ByteArray × Bool) :=
  (spec_csLines_p fuel a).bind fun x1 =>
  (spec_csLines_p fuel b).bind fun x3 =>
  (need (Nat.ble (a.size + b.size) maxN)).bind fun u5 =>
  (spec_csLines_p fuel (a ++ b)).bind fun x7 =>
  cond (((!x1.2) || (!x3.2)) || (!x7.2))
    (some ((⟨#[]⟩ : ByteArray), false))
    (some ((a ++ b), true))
theorem spec_JoinScripts_ok (fuel : Nat) (a : ByteArray) (b : ByteArray) (r : (ByteArray × Bool)) (hH : spec_JoinScripts_p fuel a b = some r) : SpecR Tryd.prog 4 [.v (.string a), .v (.string b)] (.t [.v (.string r.1), .v (.bool r.2)]) := by
 refine fn_ok T Tryd.func4 rfl (by decide) rfl ?_
 refine AW.seq (AW.region ?_)
 iterate 2 refine AO.pu T ?_
 refine AO.nil (AW.seq ?_)
 obtain ⟨x1, hx2, hH⟩ := bindE hH
 refine AW.region ?_
 refine AO.pu T ?_
 refine AO.val rfl rfl (callV_ok rfl rfl rfl rfl (spec_csLines_ok fuel _ _ (hx2)) rfl) ?_
 iterate 5 refine AO.pu T ?_
 refine AO.nil (AW.seq ?_)
 obtain ⟨x3, hx4, hH⟩ := bindE hH
 refine AW.region ?_
 refine AO.pu T ?_
 refine AO.val rfl rfl (callV_ok rfl rfl rfl rfl (spec_csLines_ok fuel _ _ (hx4)) rfl) ?_
 iterate 5 refine AO.pu T ?_
 refine AO.nil (AW.seq ?_)
 obtain ⟨u5, hx6, hH⟩ := bindE hH
 obtain ⟨x7, hx8, hH⟩ := bindE hH
 refine AW.region ?_
 iterate 2 refine AO.pu T ?_
 refine AO.val rfl rfl (concat_ok rfl rfl rfl (Nat.le_of_ble_eq_true (needT (hx6)))) ?_
 refine AO.val rfl rfl (callV_ok rfl rfl rfl rfl (spec_csLines_ok fuel _ _ (hx8)) rfl) ?_
 iterate 5 refine AO.pu T ?_
 refine AO.nil ?_
 refine AW.le (Le.ct 0 0 (σ' := (⟨[(0, .v (.string a)), (1, .v (.string b)), (7, .v (.bool x1.2)), (9, .v (.bool x3.2)), (11, .v (.bool x7.2))], [], 42, []⟩ : St))) ?_
 iterate 2 refine AW.seq ?_
 refine AW.region ?_
 iterate 3 refine AO.pu T ?_
 refine AO.pureG T [] rfl trivial rfl rfl ?_
 refine AO.pureG T [32] rfl ⟨fun h => h, trivial⟩ rfl rfl ?_
 refine AO.val rfl rfl (pick_or rfl rfl rfl rfl) ?_
 refine AO.pu T ?_
 refine AO.pureG T [] rfl trivial rfl rfl ?_
 refine AO.pureG T [36] rfl ⟨fun h => h, trivial⟩ rfl rfl ?_
 refine AO.val rfl rfl (pick_or rfl rfl rfl rfl) ?_
 refine AO.nil ?_
 refine AW.cond (b := (((!x1.2) || (!x3.2)) || (!x7.2))) rfl (fun hc => ?_) (fun hc => ?_)
 replace hH := condT hc hH
 refine AW.seq (AW.region ?_)
 iterate 2 refine AO.pu T ?_
 refine AO.nil (AW.ret ?_)
 have hR := someE hH; subst hR
 exact retQ.i [] rfl (.t (expLG_cons (.c .v) (expLG_cons (.c .v) (expLG_nil))))
 replace hH := condF hc hH
 refine AW.skip ?_
 refine AW.seq (AW.region ?_)
 iterate 2 refine AO.pu T ?_
 refine AO.val rfl rfl (concat_ok rfl rfl rfl (Nat.le_of_ble_eq_true (needT (hx6)))) ?_
 iterate 2 refine AO.pu T ?_
 refine AO.nil (AW.ret ?_)
 have hR := someE hH; subst hR
 exact retQ.i [] rfl (.t (expLG_cons (.c .v) (expLG_cons (.c .v) (expLG_nil))))

def strings_Split_p (s : ByteArray) (sep : ByteArray) : Option (List ByteArray) := (need (Nat.blt s.size 4294967281 && Nat.blt 0 sep.size)).bind fun _ => some (splitS s sep)
theorem strings_Split_ok (s : ByteArray) (sep : ByteArray) (r : List ByteArray) (hH : strings_Split_p s sep = some r) : SpecR Tryd.prog 10 [.v (.string s), .v (.string sep)] (.w 1 (r.map encStr)) := by
  obtain ⟨u, hu, hr⟩ := bindE hH
  cases someE hr
  exact spec_split ⟨_, Tryd.func10, rfl, by decide⟩ (fun s sep w hG h1 h2 => let ⟨m, hm⟩ := globMax hG; Tryd.strings_Split s sep m w h1 hm h2) (fun _ => rfl) s sep (needT hu)

def impl_linesOf_p (sA : ByteArray) : Option ((List ByteArray) × Bool) :=
  cond (decide (sA = (⟨#[]⟩ : ByteArray)))
    (some ([], true))
    ((strI sA (w64 ((sA.size : Int) - 1))).bind fun b1 =>
    cond ((b1.toNat : Int) != 10)
      (some ([], false))
      ((need (inB 0 (w64 ((sA.size : Int) - 1)) sA.size)).bind fun u3 =>
      (strings_Split_p (ByteArray.extract sA 0 (w64 ((sA.size : Int) - 1)).toNat) (⟨#[10]⟩ : ByteArray)).bind fun x5 =>
      some (x5, true)))
theorem impl_linesOf_ok (sA : ByteArray) (r : ((List ByteArray) × Bool)) (hH : impl_linesOf_p sA = some r) : SpecR Tryd.prog 9 [.v (.string sA)] (.t [.w 1 (r.1.map encStr), .v (.bool r.2)]) := by
 refine fn_ok T Tryd.func9 rfl (by decide) rfl ?_
 refine AW.seq (AW.region ?_)
 iterate 2 refine AO.pu T ?_
 refine AO.nil ?_
 iterate 2 refine AW.seq ?_
 refine AW.region ?_
 iterate 2 refine AO.pu T ?_
 refine AO.nil ?_
 refine AW.cond (b := decide (sA = (⟨#[]⟩ : ByteArray))) rfl (fun hc => ?_) (fun hc => ?_)
 replace hH := condT hc hH
 refine AW.seq (AW.region ?_)
 refine AO.step rfl (mk0_ok T rfl rfl rfl rfl) ?_
 iterate 2 refine AO.pu T ?_
 refine AO.nil (AW.ret ?_)
 have hR := someE hH; subst hR
 exact retQ.i [] rfl (.t (expLG_cons (.c .nil) (expLG_cons (.c .v) (expLG_nil))))
 replace hH := condF hc hH
 refine AW.skip ?_
 iterate 2 refine AW.seq ?_
 obtain ⟨b1, hx2, hH⟩ := bindE hH
 refine AW.region ?_
 iterate 3 refine AO.pu T ?_
 refine AO.val rfl rfl (arw_ok rfl rfl rfl rfl) ?_
 refine AO.val rfl rfl (ix_strI_ok T rfl rfl rfl rfl (hx2)) ?_
 refine AO.pu T ?_
 refine AO.nil ?_
 refine AW.cond (b := ((b1.toNat : Int) != 10)) rfl (fun hc => ?_) (fun hc => ?_)
 replace hH := condT hc hH
 refine AW.seq (AW.region ?_)
 iterate 2 refine AO.pu T ?_
 refine AO.nil (AW.ret ?_)
 have hR := someE hH; subst hR
 exact retQ.i [] rfl (.t (expLG_cons (.c .nil) (expLG_cons (.c .v) (expLG_nil))))
 replace hH := condF hc hH
 refine AW.skip ?_
 refine AW.seq ?_
 obtain ⟨u3, hx4, hH⟩ := bindE hH
 obtain ⟨x5, hx6, hH⟩ := bindE hH
 refine AW.region ?_
 iterate 3 refine AO.pu T ?_
 refine AO.val rfl rfl (arw_ok rfl rfl rfl rfl) ?_
 refine AO.val rfl rfl (slice_str_hi T rfl rfl rfl rfl (needT (hx4))) ?_
 refine AO.step rfl (call_ok rfl 1 rfl rfl rfl (strings_Split_ok _ _ _ (hx6)) rfl rfl rfl) ?_
 iterate 2 refine AO.pu T ?_
 refine AO.nil (AW.ret ?_)
 have hR := someE hH; subst hR
 exact retQ.i [1] rfl (.t (expLG_cons (.c (.rowR rfl)) (expLG_cons (.c .v) (expLG_nil))))

def impl_scriptLines_p (script : ByteArray) : Option ((List ByteArray) × Bool) :=
  (impl_linesOf_p script).bind fun x1 =>
  cond (((!x1.2) || decide ((script.size : Int) > 2000)) || decide ((x1.1.length : Int) > 40))
    (some ([], false))
    (some (x1.1, true))
theorem impl_scriptLines_ok (script : ByteArray) (r : ((List ByteArray) × Bool)) (hH : impl_scriptLines_p script = some r) : SpecR Tryd.prog 7 [.v (.string script)] (.t [.w 1 (r.1.map encStr), .v (.bool r.2)]) := by
 refine fn_ok T Tryd.func7 rfl (by decide) rfl ?_
 refine AW.seq (AW.region ?_)
 iterate 2 refine AO.pu T ?_
 refine AO.nil (AW.seq ?_)
 obtain ⟨x1, hx2, hH⟩ := bindE hH
 refine AW.region ?_
 refine AO.pu T ?_
 refine AO.step rfl (call_ok rfl 1 rfl rfl rfl (impl_linesOf_ok _ _ (hx2)) rfl rfl rfl) ?_
 iterate 5 refine AO.pu T ?_
 refine AO.nil ?_
 iterate 2 refine AW.seq ?_
 refine AW.region ?_
 iterate 3 refine AO.pu T ?_
 refine AO.pureG T [] rfl trivial rfl rfl ?_
 refine AO.pureG T [14] rfl ⟨fun h => h, trivial⟩ rfl rfl ?_
 refine AO.pureG T [15] rfl ⟨fun h => h, trivial⟩ rfl rfl ?_
 refine AO.val rfl rfl (pick_or rfl rfl rfl rfl) ?_
 refine AO.pu T ?_
 refine AO.pureG T [] rfl trivial rfl rfl ?_
 refine AO.guard [19] rfl ⟨fun h => h, trivial⟩ (fun hg => len_row_ok T rfl rfl rfl rfl) rfl ?_
 refine AO.pureG T [20] rfl ⟨fun h => h, trivial⟩ rfl rfl ?_
 refine AO.val rfl rfl (pick_or rfl rfl rfl rfl) ?_
 refine AO.nil ?_
 refine AW.cond (b := (((!x1.2) || decide ((script.size : Int) > 2000)) || decide ((x1.1.length : Int) > 40))) rfl (fun hc => ?_) (fun hc => ?_)
 replace hH := condT hc hH
 refine AW.seq (AW.region ?_)
 iterate 2 refine AO.pu T ?_
 refine AO.nil (AW.ret ?_)
 have hR := someE hH; subst hR
 exact retQ.i [] rfl (.t (expLG_cons (.c .nil) (expLG_cons (.c .v) (expLG_nil))))
 replace hH := condF hc hH
 refine AW.skip ?_
 refine AW.seq (AW.region ?_)
 iterate 3 refine AO.pu T ?_
 refine AO.nil ?_
 refine AW.le (Le.ct 0 0 (σ' := (⟨[(2, .R 1), (3, .v (.bool true))], [(1, .row 1 (List.map encStr x1.1))], 24, []⟩ : St))) ?_
 refine AW.ret ?_
 have hR := someE hH; subst hR
 exact retQ.i [1] rfl (.t (expLG_cons (.c (.rowR rfl)) (expLG_cons (.c .v) (expLG_nil))))

def impl_JoinScripts_p (a : ByteArray) (b : ByteArray) : Option (ByteArray × Bool) :=
  (impl_scriptLines_p a).bind fun x1 =>
  (impl_scriptLines_p b).bind fun x3 =>
  (need (Nat.ble (a.size + b.size) maxN)).bind fun u5 =>
  (impl_scriptLines_p (a ++ b)).bind fun x7 =>
  cond (((!x1.2) || (!x3.2)) || (!x7.2))
    (some ((⟨#[]⟩ : ByteArray), false))
    (some ((a ++ b), true))
theorem impl_JoinScripts_ok (a : ByteArray) (b : ByteArray) (r : (ByteArray × Bool)) (hH : impl_JoinScripts_p a b = some r) : SpecR Tryd.prog 5 [.v (.string a), .v (.string b)] (.t [.v (.string r.1), .v (.bool r.2)]) := by
 refine fn_ok T Tryd.func5 rfl (by decide) rfl ?_
 refine AW.seq (AW.region ?_)
 iterate 2 refine AO.pu T ?_
 refine AO.nil (AW.seq ?_)
 obtain ⟨x1, hx2, hH⟩ := bindE hH
 refine AW.region ?_
 refine AO.pu T ?_
 refine AO.step rfl (call_ok rfl 1 rfl rfl rfl (impl_scriptLines_ok _ _ (hx2)) rfl rfl rfl) ?_
 iterate 5 refine AO.pu T ?_
 refine AO.nil (AW.seq ?_)
 obtain ⟨x3, hx4, hH⟩ := bindE hH
 refine AW.region ?_
 refine AO.pu T ?_
 refine AO.step rfl (call_ok rfl 2 rfl rfl rfl (impl_scriptLines_ok _ _ (hx4)) rfl rfl rfl) ?_
 iterate 5 refine AO.pu T ?_
 refine AO.nil (AW.seq ?_)
 obtain ⟨u5, hx6, hH⟩ := bindE hH
 obtain ⟨x7, hx8, hH⟩ := bindE hH
 refine AW.region ?_
 iterate 2 refine AO.pu T ?_
 refine AO.val rfl rfl (concat_ok rfl rfl rfl (Nat.le_of_ble_eq_true (needT (hx6)))) ?_
 refine AO.step rfl (call_ok rfl 3 rfl rfl rfl (impl_scriptLines_ok _ _ (hx8)) rfl rfl rfl) ?_
 iterate 5 refine AO.pu T ?_
 refine AO.nil ?_
 refine AW.le (Le.ct 0 0 (σ' := (⟨[(0, .v (.string a)), (1, .v (.string b)), (7, .v (.bool x1.2)), (9, .v (.bool x3.2)), (11, .v (.bool x7.2))], [], 42, []⟩ : St))) ?_
 iterate 2 refine AW.seq ?_
 refine AW.region ?_
 iterate 3 refine AO.pu T ?_
 refine AO.pureG T [] rfl trivial rfl rfl ?_
 refine AO.pureG T [32] rfl ⟨fun h => h, trivial⟩ rfl rfl ?_
 refine AO.val rfl rfl (pick_or rfl rfl rfl rfl) ?_
 refine AO.pu T ?_
 refine AO.pureG T [] rfl trivial rfl rfl ?_
 refine AO.pureG T [36] rfl ⟨fun h => h, trivial⟩ rfl rfl ?_
 refine AO.val rfl rfl (pick_or rfl rfl rfl rfl) ?_
 refine AO.nil ?_
 refine AW.cond (b := (((!x1.2) || (!x3.2)) || (!x7.2))) rfl (fun hc => ?_) (fun hc => ?_)
 replace hH := condT hc hH
 refine AW.seq (AW.region ?_)
 iterate 2 refine AO.pu T ?_
 refine AO.nil (AW.ret ?_)
 have hR := someE hH; subst hR
 exact retQ.i [] rfl (.t (expLG_cons (.c .v) (expLG_cons (.c .v) (expLG_nil))))
 replace hH := condF hc hH
 refine AW.skip ?_
 refine AW.seq (AW.region ?_)
 iterate 2 refine AO.pu T ?_
 refine AO.val rfl rfl (concat_ok rfl rfl rfl (Nat.le_of_ble_eq_true (needT (hx6)))) ?_
 iterate 2 refine AO.pu T ?_
 refine AO.nil (AW.ret ?_)
 have hR := someE hH; subst hR
 exact retQ.i [] rfl (.t (expLG_cons (.c .v) (expLG_cons (.c .v) (expLG_nil))))

def laws_FnExactJoinScripts_p (fuel : Nat) (aA : ByteArray) (aB : ByteArray) : Option Bool :=
  cond (decide ((aA.size : Int) > 1048576))
    (some true)
    (cond (decide ((aB.size : Int) > 1048576))
      (some true)
      ((spec_JoinScripts_p fuel aA aB).bind fun x1 =>
      (impl_JoinScripts_p aA aB).bind fun x3 =>
      cond ((!decide (x3.1 = x1.1)) || (!(x3.2 == x1.2)))
        (some false)
        (some true)))
theorem laws_FnExactJoinScripts_ok (fuel : Nat) (aA : ByteArray) (aB : ByteArray) (r : Bool) (hH : laws_FnExactJoinScripts_p fuel aA aB = some r) : SpecR Tryd.prog 3 [.v (.string aA), .v (.string aB)] (.v (.bool r)) := by
 refine fn_ok T Tryd.func3 rfl (by decide) rfl ?_
 refine AW.seq (AW.region ?_)
 refine AO.pu T ?_
 refine AO.nil ?_
 iterate 2 refine AW.seq ?_
 refine AW.region ?_
 iterate 3 refine AO.pu T ?_
 refine AO.nil ?_
 refine AW.cond (b := decide ((aA.size : Int) > 1048576)) rfl (fun hc => ?_) (fun hc => ?_)
 replace hH := condT hc hH
 refine AW.seq (AW.region ?_)
 refine AO.pu T ?_
 refine AO.nil (AW.ret ?_)
 have hR := someE hH; subst hR
 exact retQ.i [] rfl (.c (.c .v))
 replace hH := condF hc hH
 refine AW.skip ?_
 iterate 2 refine AW.seq ?_
 refine AW.region ?_
 iterate 3 refine AO.pu T ?_
 refine AO.nil ?_
 refine AW.cond (b := decide ((aB.size : Int) > 1048576)) rfl (fun hc => ?_) (fun hc => ?_)
 replace hH := condT hc hH
 refine AW.seq (AW.region ?_)
 refine AO.pu T ?_
 refine AO.nil (AW.ret ?_)
 have hR := someE hH; subst hR
 exact retQ.i [] rfl (.c (.c .v))
 replace hH := condF hc hH
 refine AW.skip ?_
 refine AW.seq ?_
 obtain ⟨x1, hx2, hH⟩ := bindE hH
 refine AW.region ?_
 iterate 2 refine AO.pu T ?_
 refine AO.val rfl rfl (callV_ok rfl rfl rfl rfl (spec_JoinScripts_ok fuel _ _ _ (hx2)) rfl) ?_
 iterate 5 refine AO.pu T ?_
 refine AO.nil (AW.seq ?_)
 obtain ⟨x3, hx4, hH⟩ := bindE hH
 refine AW.region ?_
 iterate 2 refine AO.pu T ?_
 refine AO.val rfl rfl (callV_ok rfl rfl rfl rfl (impl_JoinScripts_ok _ _ _ (hx4)) rfl) ?_
 iterate 5 refine AO.pu T ?_
 refine AO.nil ?_
 iterate 2 refine AW.seq ?_
 refine AW.region ?_
 iterate 4 refine AO.pu T ?_
 iterate 2 refine AO.pureG T [] rfl trivial rfl rfl ?_
 refine AO.pureG T [31, 32] rfl ⟨fun h => h, fun h => h, trivial⟩ rfl rfl ?_
 refine AO.val rfl rfl (pick_or rfl rfl rfl rfl) ?_
 refine AO.nil ?_
 refine AW.le (Le.ct 0 0 (σ' := (⟨[(34, .v (.bool ((!decide (x3.1 = x1.1)) || (!(x3.2 == x1.2)))))], [], 35, []⟩ : St))) ?_
 refine AW.cond (b := ((!decide (x3.1 = x1.1)) || (!(x3.2 == x1.2)))) rfl (fun hc => ?_) (fun hc => ?_)
 replace hH := condT hc hH
 refine AW.seq (AW.region ?_)
 refine AO.pu T ?_
 refine AO.nil (AW.ret ?_)
 have hR := someE hH; subst hR
 exact retQ.i [] rfl (.c (.c .v))
 replace hH := condF hc hH
 refine AW.skip ?_
 refine AW.seq (AW.region ?_)
 refine AO.pu T ?_
 refine AO.nil (AW.ret ?_)
 have hR := someE hH; subst hR
 exact retQ.i [] rfl (.c (.c .v))

end Go.Proofs.YtdldbdpfjagnhaaDoor

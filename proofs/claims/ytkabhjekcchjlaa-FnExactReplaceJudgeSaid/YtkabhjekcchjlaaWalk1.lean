/- The walk, part 1: what each function reached by the law FnExactReplaceJudge computes. No condition. -/
import Derived.Test.YtkabhjekcchjlaaAm3
import Derived.Test.YtkabhjekcchjlaaShelf
import Derived.Test.YtkabhjekcchjlaaProg
set_option maxRecDepth 4000
set_option maxHeartbeats 1000000
set_option linter.unusedVariables false
set_option linter.unusedSimpArgs false
set_option linter.unusedSectionVars false

namespace Go.Proofs.Ytkabhjekcchjlaa
open Go.AM
def teL : List (Option TI) := [
  none,
  none,
  some ⟨.int .i64, 1, 8, some (.int .i64 0)⟩,
  some ⟨.int .i64, 1, 8, some (.int .i64 0)⟩,
  some ⟨.bool, 1, 1, some (.bool false)⟩,
  some ⟨.int .u8, 1, 1, some (.int .u8 0)⟩,
  some ⟨.int .u8, 1, 1, some (.int .u8 0)⟩,
  some ⟨.struct [(0, 2), (1, 3), (2, 4), (3, 6)], 4, 24, some (.agg #[.int .i64 0, .int .i64 0, .bool false, .int .u8 0])⟩,
  some ⟨.struct [(0, 2), (1, 3), (2, 4), (3, 6)], 4, 24, some (.agg #[.int .i64 0, .int .i64 0, .bool false, .int .u8 0])⟩,
  some ⟨.str, 1, 16, some (.string ⟨#[]⟩)⟩,
  some ⟨.str, 1, 16, some (.string ⟨#[]⟩)⟩,
  some ⟨.str, 1, 16, some (.string ⟨#[]⟩)⟩,
  some ⟨.int .u64, 1, 8, some (.int .u64 0)⟩,
  some ⟨.struct [(0, 9), (1, 12)], 2, 24, some (.agg #[.string ⟨#[]⟩, .int .u64 0])⟩,
  some ⟨.struct [(0, 9), (1, 12)], 2, 24, some (.agg #[.string ⟨#[]⟩, .int .u64 0])⟩,
  some ⟨.ptr 126, 1, 8, some (.pointer none)⟩,
  some ⟨.ptr 129, 1, 8, some (.pointer none)⟩,
  some ⟨.ptr 137, 1, 8, some (.pointer none)⟩,
  some ⟨.struct [(0, 17)], 1, 8, some (.agg #[.pointer none])⟩,
  some ⟨.struct [(0, 17)], 1, 8, some (.agg #[.pointer none])⟩,
  none,
  some ⟨.int .i32, 1, 4, some (.int .i32 0)⟩,
  some ⟨.slice 3, 1, 24, some (.slice none 0 0)⟩,
  some ⟨.slice 76, 1, 24, some (.slice none 0 0)⟩,
  none,
  some ⟨.slice 22, 1, 24, some (.slice none 0 0)⟩,
  none,
  none,
  none,
  some ⟨.slice 72, 1, 24, some (.slice none 0 0)⟩,
  none,
  none,
  none,
  none,
  none,
  none,
  none,
  none,
  none,
  none,
  none,
  none,
  none,
  some ⟨.slice 5, 1, 24, some (.slice none 0 0)⟩,
  none,
  none,
  none,
  none,
  none,
  none,
  none,
  none,
  none,
  none,
  none,
  none,
  none,
  none,
  none,
  none,
  none,
  none,
  none,
  none,
  none,
  none,
  none,
  none,
  none,
  none,
  none,
  some ⟨.struct [(0, 3), (1, 3), (2, 3)], 3, 24, some (.agg #[.int .i64 0, .int .i64 0, .int .i64 0])⟩,
  some ⟨.struct [(0, 3), (1, 3), (2, 3)], 3, 24, some (.agg #[.int .i64 0, .int .i64 0, .int .i64 0])⟩,
  none,
  none,
  none,
  some ⟨.struct [(0, 3), (1, 3), (2, 3)], 3, 24, some (.agg #[.int .i64 0, .int .i64 0, .int .i64 0])⟩,
  none,
  none,
  none,
  none,
  none,
  some ⟨.array 21 3, 21, 168, some (.agg #[.int .i64 0, .int .i64 0, .int .i64 0, .int .i64 0, .int .i64 0, .int .i64 0, .int .i64 0, .int .i64 0, .int .i64 0, .int .i64 0, .int .i64 0, .int .i64 0, .int .i64 0, .int .i64 0, .int .i64 0, .int .i64 0, .int .i64 0, .int .i64 0, .int .i64 0, .int .i64 0, .int .i64 0])⟩,
  none,
  none,
  some ⟨.ptr 88, 1, 8, some (.pointer none)⟩,
  some ⟨.int .u64, 1, 8, some (.int .u64 0)⟩,
  some ⟨.struct [(0, 43), (1, 3), (2, 86)], 3, 40, some (.agg #[.slice none 0 0, .int .i64 0, .int .u64 0])⟩,
  some ⟨.struct [(0, 43), (1, 3), (2, 86)], 3, 40, some (.agg #[.slice none 0 0, .int .i64 0, .int .u64 0])⟩,
  none,
  none,
  none,
  none,
  none,
  none,
  none,
  none,
  none,
  none,
  none,
  none,
  none,
  some ⟨.int .u64, 1, 8, some (.int .u64 0)⟩,
  none,
  none,
  none,
  none,
  some ⟨.int .i64, 1, 8, some (.int .i64 0)⟩,
  none,
  none,
  none,
  none,
  none,
  some ⟨.int .u32, 1, 4, some (.int .u32 0)⟩,
  none,
  none,
  some ⟨.int .u64, 1, 8, some (.int .u64 0)⟩,
  none,
  none,
  none,
  some ⟨.ptr 3, 1, 8, some (.pointer none)⟩,
  none,
  some ⟨.ptr 116, 1, 8, some (.pointer none)⟩,
  none,
  none,
  some ⟨.struct [(0, 17), (1, 17), (2, 17), (3, 9)], 4, 40, some (.agg #[.pointer none, .pointer none, .pointer none, .string ⟨#[]⟩])⟩,
  some ⟨.struct [(0, 17), (1, 17), (2, 17), (3, 9)], 4, 40, some (.agg #[.pointer none, .pointer none, .pointer none, .string ⟨#[]⟩])⟩,
  some ⟨.array 0 16, 0, 0, some (.agg #[])⟩,
  some ⟨.struct [(0, 127)], 0, 0, some (.agg #[])⟩,
  some ⟨.struct [(0, 127)], 0, 0, some (.agg #[])⟩,
  some ⟨.int .u8, 1, 1, some (.int .u8 0)⟩,
  some ⟨.int .u8, 1, 1, some (.int .u8 0)⟩,
  none,
  some ⟨.ptr 5, 1, 8, some (.pointer none)⟩,
  some ⟨.int .i32, 1, 4, some (.int .i32 0)⟩,
  some ⟨.int .i32, 1, 4, some (.int .i32 0)⟩,
  some ⟨.struct [(0, 12), (1, 12), (2, 113), (3, 130), (4, 5), (5, 5), (6, 131), (7, 132), (8, 133), (9, 134), (10, 135)], 11, 48, some (.agg #[.int .u64 0, .int .u64 0, .int .u32 0, .int .u8 0, .int .u8 0, .int .u8 0, .int .u8 0, .nilFunc, .pointer none, .int .i32 0, .int .i32 0])⟩,
  some ⟨.struct [(0, 12), (1, 12), (2, 113), (3, 130), (4, 5), (5, 5), (6, 131), (7, 132), (8, 133), (9, 134), (10, 135)], 11, 48, some (.agg #[.int .u64 0, .int .u64 0, .int .u32 0, .int .u8 0, .int .u8 0, .int .u8 0, .int .u8 0, .nilFunc, .pointer none, .int .i32 0, .int .i32 0])⟩,
  none]
def te : TE := teOf teL
theorem T : TEok Try.prog te := TEok_of (by kernel_rfl)
theorem mix : Try.prog.follows .mixedOrders = true := by kernel_rfl

def encInt (x : Int) : List D := [.v (.int .i64 x)]
def encBool (x : Bool) : List D := [.v (.bool x)]
def encStr (x : ByteArray) : List D := [.v (.string x)]
def encInt_u8 (x : Int) : List D := [.v (.int .u8 x)]
def encInt_u64 (x : Int) : List D := [.v (.int .u64 x)]
def encInt_i32 (x : Int) : List D := [.v (.int .i32 x)]
def encLInt (x : List Int) : List D := [.s (x.map encInt)]
def encLIntO (x : List Int) : List D := [.w 1 (x.map encInt)]
theorem frzLInt (x : List Int) : FrzL (encLIntO x) (encLInt x) := .cons (.map fun y => .vs rfl) .nil
structure Official where
  number : Int
  club : Int
  level : Int
  deriving Inhabited, DecidableEq
def encOfficial (x : Official) : List D := [.v (.int .i64 x.number), .v (.int .i64 x.club), .v (.int .i64 x.level)]

def laws_szOfficialS_p (a : List Official) (left : Int) : Option Int :=
  cond (decide ((w64 (left - (a.length : Int))) < 0))
    (some (-1))
    (some (w64 (left - (a.length : Int))))
theorem laws_szOfficialS_ok (a : List Official) (left : Int) (r : Int) (hH : laws_szOfficialS_p a left = some r) : SpecR Try.prog 8 [.s (List.map encOfficial a), left] (.v (.int .i64 r)) := by
 refine fn_ok T Try.func8 rfl (by decide) rfl ?_
 refine AW.seq (AW.region ?_)
 refine AO.pu T ?_
 refine AO.nil (AW.seq ?_)
 refine AW.region ?_
 iterate 2 refine AO.pu T ?_
 refine AO.val rfl rfl (len_map_ok T rfl rfl rfl) ?_
 refine AO.val rfl rfl (arw_ok rfl rfl rfl rfl) ?_
 refine AO.pu T ?_
 refine AO.nil ?_
 iterate 2 refine AW.seq ?_
 refine AW.region ?_
 iterate 2 refine AO.pu T ?_
 refine AO.nil ?_
 refine AW.cond (b := decide ((w64 (left - (a.length : Int))) < 0)) rfl (fun hc => ?_) (fun hc => ?_)
 replace hH := condT hc hH
 refine AW.seq (AW.region ?_)
 refine AO.pu T ?_
 refine AO.nil (AW.ret ?_)
 cases someE hH
 exact retQ.i [] rfl (.c (.c .v))
 replace hH := condF hc hH
 refine AW.skip ?_
 refine AW.seq (AW.region ?_)
 iterate 2 refine AO.pu T ?_
 refine AO.nil (AW.ret ?_)
 cases someE hH
 exact retQ.i [] rfl (.c (.c .v))

def laws_toIntS_l1 : List Int → Nat → List Int → Option ((List Int))
  | [], k3, v14 =>
    some v14
  | y4 :: ys5, k3, v14 =>
    (getI v14 (k3 : Int)).bind fun x16 =>
    laws_toIntS_l1 ys5 (k3 + 1) (v14.set ((k3 : Int).toNat) y4)
def laws_toIntS_p (a : List Int) : Option (List Int) :=
  (need (decide (0 ≤ (a.length : Int)) && fitsB 8 (a.length : Int).toNat)).bind fun u1 =>
  laws_toIntS_l1 a 0 (List.replicate (a.length : Int).toNat 0)
theorem laws_toIntS_ok (a : List Int) (r : (List Int)) (hH : laws_toIntS_p a = some r) : SpecR Try.prog 10 [.s (List.map encInt a)] (.w 1 (r.map encInt)) := by
 refine fn_ok T Try.func10 rfl (by decide) rfl ?_
 refine AW.seq (AW.region ?_)
 refine AO.pu T ?_
 refine AO.nil (AW.seq ?_)
 obtain ⟨u1, hx2, hH⟩ := bindE hH
 refine AW.region ?_
 refine AO.pu T ?_
 refine AO.val rfl rfl (len_map_ok T rfl rfl rfl) ?_
 refine AO.step rfl (make_map_ok T rfl 1 rfl rfl rfl rfl rfl (f := encInt) (zo := 0) (by repeat constructor) (by decide) rfl rfl (Bool.and_eq_true_iff.1 (needT (hx2))).1 (Bool.and_eq_true_iff.1 (needT (hx2))).2 rfl rfl) ?_
 refine AO.pu T ?_
 refine AO.nil ?_
 iterate 2 refine AW.seq ?_
 refine AW.region ?_
 refine AO.pu T ?_
 refine AO.nil ?_
 refine AW.block ?_
 refine AW.loopS (fun s : Nat × (List Int) => (⟨[(0, .s (List.map encInt a)), (3, .R 1), (4, (s.1 : Int))], [(1, .row 1 (List.map encInt s.2))], 22, []⟩ : St)) (fun s => s.1 ≤ a.length ∧ laws_toIntS_l1 (a.drop s.1) s.1 s.2 = some r) (fun s => a.length - s.1) (0, (List.replicate (a.length : Int).toNat 0)) ⟨Nat.zero_le _, hH⟩ ?_ ?_
 exact Le.ct 0 0
 rintro ⟨k3, v14⟩ ⟨hk, hH⟩
 replace hH : laws_toIntS_l1 (a.drop k3) k3 v14 = some r := hH
 try dsimp only
 refine AW.boundM (t := 0) (l := a) rfl (fun hb7 => ?_)
 rcases hd6 : a.drop k3 with _ | ⟨y4, ys5⟩
 rw [hd6, laws_toIntS_l1] at hH
 have hlt8 := drop_ge hd6
 iterate 2 refine AW.seq ?_
 refine AW.region ?_
 iterate 2 refine AO.pu T ?_
 refine AO.val rfl rfl (len_map_ok T rfl rfl rfl) ?_
 refine AO.pu T ?_
 refine AO.nil ?_
 refine AW.condF' (b := decide ((k3 : Int) < (a.length : Int))) rfl (rngF hlt8) ?_
 refine AW.exit ?_
 refine AW.seq (AW.region ?_)
 iterate 2 refine AO.pu T ?_
 refine AO.nil (AW.ret ?_)
 cases someE hH
 exact retQ.i [1] rfl (.c (.c (.rowR rfl)))
 rw [hd6, laws_toIntS_l1] at hH
 have hlt8 := drop_lt hd6
 iterate 2 refine AW.seq ?_
 refine AW.region ?_
 iterate 2 refine AO.pu T ?_
 refine AO.val rfl rfl (len_map_ok T rfl rfl rfl) ?_
 refine AO.pu T ?_
 refine AO.nil ?_
 refine AW.condT' (b := decide ((k3 : Int) < (a.length : Int))) rfl (rngT hlt8) ?_
 refine AW.skip ?_
 refine AW.seq ?_
 refine AW.block ?_
 obtain ⟨x16, hx17, hH⟩ := bindE hH
 refine AW.region ?_
 iterate 4 refine AO.pu T ?_
 refine AO.val rfl rfl (ix_map_ok T rfl rfl rfl rfl rfl (getI_drop hd6) rfl) ?_
 refine AO.pu T ?_
 refine AO.val rfl rfl (ix_row_ok T rfl rfl rfl rfl rfl rfl (hx17)) ?_
 refine AO.step rfl (store_row_ok T rfl rfl rfl rfl rfl (getI_get (hx17)) rfl rfl rfl rfl (u' := y4) rfl rfl) ?_
 refine AO.nil ?_
 refine AW.region ?_
 refine AO.pu T ?_
 refine AO.val rfl rfl (ar_ok rfl rfl rfl rfl (inI_succ hlt8 hb7)) ?_
 refine AO.pu T ?_
 refine AO.nil ?_
 refine ⟨(k3 + 1, (v14.set ((k3 : Int).toNat) y4)), ⟨Nat.succ_le_of_lt hlt8, (by rw [drop_succ_of hd6]; exact hH)⟩, (by have := hlt8; dsimp only; omega), ?_⟩
 exact Le.ct 0 0

def laws_toOfficial_p (a : Official) : Option Official :=
  some a
theorem laws_toOfficial_ok (a : Official) (r : Official) (hH : laws_toOfficial_p a = some r) : SpecR Try.prog 63 [.g (encOfficial a)] (.g (encOfficial r)) := by
 refine fn_ok T Try.func63 rfl (by decide) rfl ?_
 refine AW.seq (AW.region ?_)
 refine AO.step rfl (box_ok T rfl 1 rfl rfl rfl rfl) ?_
 refine AO.step rfl (alloc_ok T rfl 2 rfl rfl rfl rfl rfl) ?_
 refine AO.nil (AW.seq ?_)
 refine AW.region ?_
 refine AO.step rfl (alloc_ok T rfl 3 rfl rfl rfl rfl rfl) ?_
 refine AO.nil (AW.seq ?_)
 refine AW.region ?_
 iterate 3 refine AO.pu T ?_
 refine AO.se T [a.number, (0 : Int), (0 : Int)] ?_
 refine AO.nil (AW.seq ?_)
 refine AW.region ?_
 iterate 3 refine AO.pu T ?_
 refine AO.se T [a.number, a.club, (0 : Int)] ?_
 refine AO.nil (AW.seq ?_)
 refine AW.region ?_
 iterate 3 refine AO.pu T ?_
 refine AO.se T [a.number, a.club, a.level] ?_
 refine AO.nil (AW.seq ?_)
 refine AW.region ?_
 refine AO.pu T (d := .g [a.number, a.club, a.level]) ?_
 refine AO.se T [a.number, a.club, a.level] ?_
 refine AO.nil (AW.ret ?_)
 cases someE hH
 exact retQ.i [] rfl (.c (.g (expLC_cons .v (expLC_cons .v (expLC_cons .v (expLC_nil))))))

def laws_toOfficialS_l1 : List Official → Nat → List Official → Option ((List Official))
  | [], k3, v18 =>
    some v18
  | y4 :: ys5, k3, v18 =>
    (laws_toOfficial_p y4).bind fun x20 =>
    (getI v18 (k3 : Int)).bind fun x22 =>
    laws_toOfficialS_l1 ys5 (k3 + 1) (v18.set ((k3 : Int).toNat) x20)
def laws_toOfficialS_p (a : List Official) : Option (List Official) :=
  (need (decide (0 ≤ (a.length : Int)) && fitsB 24 (a.length : Int).toNat)).bind fun u1 =>
  laws_toOfficialS_l1 a 0 (List.replicate (a.length : Int).toNat (Official.mk 0 0 0))
theorem laws_toOfficialS_ok (a : List Official) (r : (List Official)) (hH : laws_toOfficialS_p a = some r) : SpecR Try.prog 11 [.s (List.map encOfficial a)] (.w 3 (r.map encOfficial)) := by
 refine fn_ok T Try.func11 rfl (by decide) rfl ?_
 refine AW.seq (AW.region ?_)
 refine AO.pu T ?_
 refine AO.nil (AW.seq ?_)
 obtain ⟨u1, hx2, hH⟩ := bindE hH
 refine AW.region ?_
 refine AO.pu T ?_
 refine AO.val rfl rfl (len_map_ok T rfl rfl rfl) ?_
 refine AO.step rfl (make_map_ok T rfl 1 rfl rfl rfl rfl rfl (f := encOfficial) (zo := (Official.mk 0 0 0)) (by repeat constructor) (by decide) rfl rfl (Bool.and_eq_true_iff.1 (needT (hx2))).1 (Bool.and_eq_true_iff.1 (needT (hx2))).2 rfl rfl) ?_
 refine AO.pu T ?_
 refine AO.nil ?_
 iterate 2 refine AW.seq ?_
 refine AW.region ?_
 refine AO.pu T ?_
 refine AO.nil ?_
 refine AW.block ?_
 refine AW.loopS (fun s : Nat × (List Official) => (⟨[(0, .s (List.map encOfficial a)), (3, .R 1), (4, (s.1 : Int))], [(1, .row 3 (List.map encOfficial s.2))], 23, []⟩ : St)) (fun s => s.1 ≤ a.length ∧ laws_toOfficialS_l1 (a.drop s.1) s.1 s.2 = some r) (fun s => a.length - s.1) (0, (List.replicate (a.length : Int).toNat (Official.mk 0 0 0))) ⟨Nat.zero_le _, hH⟩ ?_ ?_
 exact Le.ct 0 0
 rintro ⟨k3, v18⟩ ⟨hk, hH⟩
 replace hH : laws_toOfficialS_l1 (a.drop k3) k3 v18 = some r := hH
 try dsimp only
 refine AW.boundM (t := 0) (l := a) rfl (fun hb7 => ?_)
 rcases hd6 : a.drop k3 with _ | ⟨y4, ys5⟩
 rw [hd6, laws_toOfficialS_l1] at hH
 have hlt8 := drop_ge hd6
 iterate 2 refine AW.seq ?_
 refine AW.region ?_
 iterate 2 refine AO.pu T ?_
 refine AO.val rfl rfl (len_map_ok T rfl rfl rfl) ?_
 refine AO.pu T ?_
 refine AO.nil ?_
 refine AW.condF' (b := decide ((k3 : Int) < (a.length : Int))) rfl (rngF hlt8) ?_
 refine AW.exit ?_
 refine AW.seq (AW.region ?_)
 iterate 2 refine AO.pu T ?_
 refine AO.nil (AW.ret ?_)
 cases someE hH
 exact retQ.i [1] rfl (.c (.c (.rowR rfl)))
 rw [hd6, laws_toOfficialS_l1] at hH
 have hlt8 := drop_lt hd6
 iterate 2 refine AW.seq ?_
 refine AW.region ?_
 iterate 2 refine AO.pu T ?_
 refine AO.val rfl rfl (len_map_ok T rfl rfl rfl) ?_
 refine AO.pu T ?_
 refine AO.nil ?_
 refine AW.condT' (b := decide ((k3 : Int) < (a.length : Int))) rfl (rngT hlt8) ?_
 refine AW.skip ?_
 refine AW.seq ?_
 refine AW.block ?_
 obtain ⟨x20, hx21, hH⟩ := bindE hH
 obtain ⟨x22, hx23, hH⟩ := bindE hH
 refine AW.region ?_
 iterate 4 refine AO.pu T ?_
 refine AO.val rfl rfl (ix_map_ok T rfl rfl rfl rfl rfl (getI_drop hd6) rfl) ?_
 refine AO.pu T (d := .g [y4.number, y4.club, y4.level]) ?_
 refine AO.val rfl rfl (callV_ok rfl rfl rfl rfl (laws_toOfficial_ok _ _ (hx21)) rfl) ?_
 refine AO.val rfl rfl (ix_row_ok T rfl rfl rfl rfl rfl rfl (hx23)) ?_
 refine AO.step rfl (store_row_ok T rfl rfl rfl rfl rfl (getI_get (hx23)) rfl rfl rfl rfl (u' := x20) rfl rfl) ?_
 refine AO.nil ?_
 refine AW.region ?_
 refine AO.pu T ?_
 refine AO.val rfl rfl (ar_ok rfl rfl rfl rfl (inI_succ hlt8 hb7)) ?_
 refine AO.pu T ?_
 refine AO.nil ?_
 refine ⟨(k3 + 1, (v18.set ((k3 : Int).toNat) x20)), ⟨Nat.succ_le_of_lt hlt8, (by rw [drop_succ_of hd6]; exact hH)⟩, (by have := hlt8; dsimp only; omega), ?_⟩
 exact Le.ct 0 0

def spec_l1In_p (n : Int) (lo : Int) (hi : Int) : Option Bool :=
  some (decide (n ≥ lo) && decide (n ≤ hi))
theorem spec_l1In_ok (n : Int) (lo : Int) (hi : Int) (r : Bool) (hH : spec_l1In_p n lo hi = some r) : SpecR Try.prog 60 [n, lo, hi] (.v (.bool r)) := by
 refine fn_ok T Try.func60 rfl (by decide) rfl ?_
 refine AW.seq (AW.region ?_)
 refine AO.pu T ?_
 refine AO.nil (AW.seq ?_)
 refine AW.region ?_
 iterate 4 refine AO.pu T ?_
 iterate 2 refine AO.pureG T [] rfl trivial rfl rfl ?_
 refine AO.pureG T [11, 12] rfl ⟨fun h => h, fun h => h, trivial⟩ rfl rfl ?_
 refine AO.val rfl rfl (pick_and rfl rfl rfl rfl) ?_
 refine AO.pu T ?_
 refine AO.nil (AW.ret ?_)
 cases someE hH
 exact retQ.i [] rfl (.c (.c .v))

def spec_l1All_l1 (lo : Int) (hi : Int) : List Int → Nat → Option Bool
  | [], k1 =>
    some true
  | y2 :: ys3, k1 =>
    (spec_l1In_p y2 lo hi).bind fun x12 =>
    cond (!x12)
      (some false)
      (spec_l1All_l1 lo hi ys3 (k1 + 1))
def spec_l1All_p (l : List Int) (lo : Int) (hi : Int) : Option Bool :=
  spec_l1All_l1 lo hi l 0
theorem spec_l1All_ok (l : List Int) (lo : Int) (hi : Int) (r : Bool) (hH : spec_l1All_p l lo hi = some r) : SpecR Try.prog 113 [.s (List.map encInt l), lo, hi] (.v (.bool r)) := by
 refine fn_ok T Try.func113 rfl (by decide) rfl ?_
 refine AW.seq (AW.region ?_)
 refine AO.pu T ?_
 refine AO.nil ?_
 iterate 2 refine AW.seq ?_
 refine AW.region ?_
 refine AO.pu T ?_
 refine AO.val rfl rfl (len_map_ok T rfl rfl rfl) ?_
 refine AO.pu T ?_
 refine AO.nil ?_
 refine AW.block ?_
 refine AW.loopS (fun s : Nat => (⟨[(1, lo), (2, hi), (9, .s (List.map encInt l)), (10, (l.length : Int)), (11, (s : Int))], [], 21, []⟩ : St)) (fun s => s ≤ l.length ∧ spec_l1All_l1 lo hi (l.drop s) s = some r) (fun s => l.length - s) 0 ⟨Nat.zero_le _, hH⟩ ?_ ?_
 exact Le.ct 0 0
 rintro k1 ⟨hk, hH⟩
 replace hH : spec_l1All_l1 lo hi (l.drop k1) k1 = some r := hH
 try dsimp only
 refine AW.boundM (t := 9) (l := l) rfl (fun hb5 => ?_)
 rcases hd4 : l.drop k1 with _ | ⟨y2, ys3⟩
 rw [hd4, spec_l1All_l1] at hH
 have hlt6 := drop_ge hd4
 refine AW.seq (AW.region ?_)
 refine AO.pu T ?_
 refine AO.nil (AW.seq ?_)
 refine AW.condF' (b := decide ((k1 : Int) < (l.length : Int))) rfl (rngF hlt6) ?_
 refine AW.exit ?_
 refine AW.seq (AW.region ?_)
 refine AO.pu T ?_
 refine AO.nil (AW.ret ?_)
 cases someE hH
 exact retQ.i [] rfl (.c (.c .v))
 rw [hd4, spec_l1All_l1] at hH
 have hlt6 := drop_lt hd4
 refine AW.seq (AW.region ?_)
 refine AO.pu T ?_
 refine AO.nil (AW.seq ?_)
 refine AW.condT' (b := decide ((k1 : Int) < (l.length : Int))) rfl (rngT hlt6) ?_
 refine AW.skip ?_
 refine AW.seq ?_
 refine AW.block ?_
 refine AW.seq (AW.region ?_)
 refine AO.val rfl rfl (ix_map_ok T rfl rfl rfl rfl rfl (getI_drop hd4) rfl) ?_
 iterate 2 refine AO.pu T ?_
 refine AO.nil (AW.seq ?_)
 obtain ⟨x12, hx13, hH⟩ := bindE hH
 refine AW.region ?_
 iterate 3 refine AO.pu T ?_
 refine AO.val rfl rfl (callV_ok rfl rfl rfl rfl (spec_l1In_ok _ _ _ _ (hx13)) rfl) ?_
 refine AO.pu T ?_
 refine AO.nil ?_
 refine AW.cond (b := (!x12)) rfl (fun hc => ?_) (fun hc => ?_)
 replace hH := condT hc hH
 refine AW.seq (AW.region ?_)
 refine AO.pu T ?_
 refine AO.nil (AW.ret ?_)
 cases someE hH
 exact retQ.i [] rfl (.c (.c .v))
 replace hH := condF hc hH
 refine AW.skip ?_
 refine AW.region ?_
 refine AO.val rfl rfl (ar_ok rfl rfl rfl rfl (inI_succ hlt6 hb5)) ?_
 refine AO.pu T ?_
 refine AO.nil ?_
 refine ⟨k1 + 1, ⟨Nat.succ_le_of_lt hlt6, (by rw [drop_succ_of hd4]; exact hH)⟩, (by have := hlt6; dsimp only; omega), ?_⟩
 exact Le.ct 0 0

def spec_dwKeys_p (keys : List Int) (most : Int) : Option Bool :=
  (opt (decide ((keys.length : Int) ≤ most)) default (spec_l1All_p keys 0 1000000000)).bind fun x1 =>
  some (decide ((keys.length : Int) ≤ most) && x1)
theorem spec_dwKeys_ok (keys : List Int) (most : Int) (r : Bool) (hH : spec_dwKeys_p keys most = some r) : SpecR Try.prog 57 [.s (List.map encInt keys), most] (.v (.bool r)) := by
 refine fn_ok T Try.func57 rfl (by decide) rfl ?_
 refine AW.seq (AW.region ?_)
 refine AO.pu T ?_
 refine AO.nil (AW.seq ?_)
 obtain ⟨x1, hx2, hH⟩ := bindE hH
 refine AW.region ?_
 refine AO.pu T ?_
 refine AO.val rfl rfl (len_map_ok T rfl rfl rfl) ?_
 iterate 3 refine AO.pu T ?_
 refine AO.pureG T [] rfl trivial rfl rfl ?_
 refine AO.guard [10] rfl ⟨fun h => h, trivial⟩ (fun hg => callV_ok rfl rfl rfl rfl (spec_l1All_ok _ _ _ _ (optT hx2 hg)) rfl) rfl ?_
 refine AO.val rfl rfl (pick_and rfl rfl rfl rfl) ?_
 refine AO.pu T ?_
 refine AO.nil (AW.ret ?_)
 cases someE hH
 exact retQ.i [] rfl (.c (.c .v))

def spec_l1Has_l1 (n : Int) : List Int → Nat → Option Bool
  | [], k1 =>
    some false
  | y2 :: ys3, k1 =>
    cond (y2 == n)
      (some true)
      (spec_l1Has_l1 n ys3 (k1 + 1))
def spec_l1Has_p (l : List Int) (n : Int) : Option Bool :=
  spec_l1Has_l1 n l 0
theorem spec_l1Has_ok (l : List Int) (n : Int) (r : Bool) (hH : spec_l1Has_p l n = some r) : SpecR Try.prog 79 [.s (List.map encInt l), n] (.v (.bool r)) := by
 refine fn_ok T Try.func79 rfl (by decide) rfl ?_
 refine AW.seq (AW.region ?_)
 refine AO.pu T ?_
 refine AO.nil ?_
 iterate 2 refine AW.seq ?_
 refine AW.region ?_
 refine AO.pu T ?_
 refine AO.val rfl rfl (len_map_ok T rfl rfl rfl) ?_
 refine AO.pu T ?_
 refine AO.nil ?_
 refine AW.block ?_
 refine AW.loopS (fun s : Nat => (⟨[(1, n), (7, .s (List.map encInt l)), (8, (l.length : Int)), (9, (s : Int))], [], 17, []⟩ : St)) (fun s => s ≤ l.length ∧ spec_l1Has_l1 n (l.drop s) s = some r) (fun s => l.length - s) 0 ⟨Nat.zero_le _, hH⟩ ?_ ?_
 exact Le.ct 0 0
 rintro k1 ⟨hk, hH⟩
 replace hH : spec_l1Has_l1 n (l.drop k1) k1 = some r := hH
 try dsimp only
 refine AW.boundM (t := 7) (l := l) rfl (fun hb5 => ?_)
 rcases hd4 : l.drop k1 with _ | ⟨y2, ys3⟩
 rw [hd4, spec_l1Has_l1] at hH
 have hlt6 := drop_ge hd4
 refine AW.seq (AW.region ?_)
 refine AO.pu T ?_
 refine AO.nil (AW.seq ?_)
 refine AW.condF' (b := decide ((k1 : Int) < (l.length : Int))) rfl (rngF hlt6) ?_
 refine AW.exit ?_
 refine AW.seq (AW.region ?_)
 refine AO.pu T ?_
 refine AO.nil (AW.ret ?_)
 cases someE hH
 exact retQ.i [] rfl (.c (.c .v))
 rw [hd4, spec_l1Has_l1] at hH
 have hlt6 := drop_lt hd4
 refine AW.seq (AW.region ?_)
 refine AO.pu T ?_
 refine AO.nil (AW.seq ?_)
 refine AW.condT' (b := decide ((k1 : Int) < (l.length : Int))) rfl (rngT hlt6) ?_
 refine AW.skip ?_
 refine AW.seq ?_
 refine AW.block ?_
 refine AW.seq (AW.region ?_)
 refine AO.val rfl rfl (ix_map_ok T rfl rfl rfl rfl rfl (getI_drop hd4) rfl) ?_
 iterate 2 refine AO.pu T ?_
 refine AO.nil (AW.seq ?_)
 refine AW.region ?_
 iterate 3 refine AO.pu T ?_
 refine AO.nil ?_
 refine AW.cond (b := (y2 == n)) rfl (fun hc => ?_) (fun hc => ?_)
 replace hH := condT hc hH
 refine AW.seq (AW.region ?_)
 refine AO.pu T ?_
 refine AO.nil (AW.ret ?_)
 cases someE hH
 exact retQ.i [] rfl (.c (.c .v))
 replace hH := condF hc hH
 refine AW.skip ?_
 refine AW.region ?_
 refine AO.val rfl rfl (ar_ok rfl rfl rfl rfl (inI_succ hlt6 hb5)) ?_
 refine AO.pu T ?_
 refine AO.nil ?_
 refine ⟨k1 + 1, ⟨Nat.succ_le_of_lt hlt6, (by rw [drop_succ_of hd4]; exact hH)⟩, (by have := hlt6; dsimp only; omega), ?_⟩
 exact Le.ct 0 0

def spec_paOfficials_l1 (l : List Official) : List Official → Nat → List Int → Option Bool
  | [], k1, v28 =>
    some (decide ((l.length : Int) ≤ 24))
  | y2 :: ys3, k1, v28 =>
    (spec_l1In_p y2.number 1 999).bind fun x30 =>
    (opt (!(!x30)) default (spec_l1Has_p v28 y2.number)).bind fun x32 =>
    (opt (!((!x30) || x32)) default (spec_l1In_p y2.club 1 20)).bind fun x34 =>
    (opt (!(((!x30) || x32) || (!x34))) default (spec_l1In_p y2.level 1 3)).bind fun x36 =>
    cond ((((!x30) || x32) || (!x34)) || (!x36))
      (some false)
      ((need (fitsB 8 (v28.length + ([y2.number]).length))).bind fun u38 =>
      spec_paOfficials_l1 l ys3 (k1 + 1) (v28 ++ [y2.number]))
def spec_paOfficials_p (l : List Official) : Option Bool :=
  spec_paOfficials_l1 l l 0 []
theorem spec_paOfficials_ok (l : List Official) (r : Bool) (hH : spec_paOfficials_p l = some r) : SpecR Try.prog 58 [.s (List.map encOfficial l)] (.v (.bool r)) := by
 refine fn_ok T Try.func58 rfl (by decide) rfl ?_
 refine AW.seq (AW.region ?_)
 refine AO.pu T ?_
 refine AO.nil (AW.seq ?_)
 refine AW.region ?_
 refine AO.pu T ?_
 refine AO.nil ?_
 iterate 2 refine AW.seq ?_
 refine AW.region ?_
 refine AO.pu T ?_
 refine AO.val rfl rfl (len_map_ok T rfl rfl rfl) ?_
 refine AO.pu T ?_
 refine AO.nil ?_
 refine AW.block ?_
 refine AW.loopS (fun s : Nat × (List Int) => (⟨[(0, .s (List.map encOfficial l)), (3, .R 6), (6, .s (List.map encOfficial l)), (7, (l.length : Int)), (8, (s.1 : Int))], [(6, .row 1 (List.map encInt s.2))], 43, []⟩ : St)) (fun s => s.1 ≤ l.length ∧ spec_paOfficials_l1 l (l.drop s.1) s.1 s.2 = some r) (fun s => l.length - s.1) (0, []) ⟨Nat.zero_le _, hH⟩ ?_ ?_
 refine Le.trans (Le.void 3 6 1 rfl rfl) ?_
 exact Le.ct 0 0
 rintro ⟨k1, v28⟩ ⟨hk, hH⟩
 replace hH : spec_paOfficials_l1 l (l.drop k1) k1 v28 = some r := hH
 try dsimp only
 refine AW.boundM (t := 0) (l := l) rfl (fun hb5 => ?_)
 rcases hd4 : l.drop k1 with _ | ⟨y2, ys3⟩
 rw [hd4, spec_paOfficials_l1] at hH
 have hlt6 := drop_ge hd4
 refine AW.seq (AW.region ?_)
 refine AO.pu T ?_
 refine AO.nil (AW.seq ?_)
 refine AW.condF' (b := decide ((k1 : Int) < (l.length : Int))) rfl (rngF hlt6) ?_
 refine AW.exit ?_
 refine AW.seq (AW.region ?_)
 refine AO.pu T ?_
 refine AO.val rfl rfl (len_map_ok T rfl rfl rfl) ?_
 iterate 2 refine AO.pu T ?_
 refine AO.nil (AW.ret ?_)
 cases someE hH
 exact retQ.i [] rfl (.c (.c .v))
 rw [hd4, spec_paOfficials_l1] at hH
 have hlt6 := drop_lt hd4
 refine AW.seq (AW.region ?_)
 refine AO.pu T ?_
 refine AO.nil (AW.seq ?_)
 refine AW.condT' (b := decide ((k1 : Int) < (l.length : Int))) rfl (rngT hlt6) ?_
 refine AW.skip ?_
 refine AW.seq ?_
 refine AW.block ?_
 refine AW.seq (AW.region ?_)
 refine AO.val rfl rfl (ix_map_ok T rfl rfl rfl rfl rfl (getI_drop hd4) rfl) ?_
 refine AO.pu T (d := .g [y2.number, y2.club, y2.level]) ?_
 refine AO.step rfl (alloc_ok T rfl 7 rfl rfl rfl rfl rfl) ?_
 refine AO.se T [y2.number, y2.club, y2.level] ?_
 refine AO.nil ?_
 iterate 2 refine AW.seq ?_
 obtain ⟨x30, hx31, hH⟩ := bindE hH
 obtain ⟨x32, hx33, hH⟩ := bindE hH
 obtain ⟨x34, hx35, hH⟩ := bindE hH
 obtain ⟨x36, hx37, hH⟩ := bindE hH
 refine AW.region ?_
 iterate 2 refine AO.pu T ?_
 refine AO.val rfl rfl (callV_ok rfl rfl rfl rfl (spec_l1In_ok _ _ _ _ (hx31)) rfl) ?_
 iterate 2 refine AO.pu T ?_
 iterate 2 refine AO.pureG T [] rfl trivial rfl rfl ?_
 refine AO.pureG T [18] rfl ⟨fun h => h, trivial⟩ rfl rfl ?_
 refine AO.guard [17, 19] rfl ⟨fun h => h, fun h => h, trivial⟩ (fun hg => callLV_ok rfl rfl rfl (es := [.s (List.map encInt v28), y2.number]) ⟨(.rowR rfl (.map fun y => .vs rfl)), .free rfl, trivial⟩ (spec_l1Has_ok _ _ _ (optT hx33 hg)) (zfree_v _) rfl) rfl ?_
 refine AO.val rfl rfl (pick_or rfl rfl rfl rfl) ?_
 refine AO.pu T ?_
 refine AO.pureG T [] rfl trivial rfl rfl ?_
 refine AO.pureG T [23] rfl ⟨fun h => h, trivial⟩ rfl rfl ?_
 refine AO.guard [24] rfl ⟨fun h => h, trivial⟩ (fun hg => callV_ok rfl rfl rfl rfl (spec_l1In_ok _ _ _ _ (optT hx35 hg)) rfl) rfl ?_
 refine AO.pureG T [25] rfl ⟨fun h => h, trivial⟩ rfl rfl ?_
 refine AO.val rfl rfl (pick_or rfl rfl rfl rfl) ?_
 refine AO.pu T ?_
 refine AO.pureG T [] rfl trivial rfl rfl ?_
 refine AO.pureG T [29] rfl ⟨fun h => h, trivial⟩ rfl rfl ?_
 refine AO.guard [30] rfl ⟨fun h => h, trivial⟩ (fun hg => callV_ok rfl rfl rfl rfl (spec_l1In_ok _ _ _ _ (optT hx37 hg)) rfl) rfl ?_
 refine AO.pureG T [31] rfl ⟨fun h => h, trivial⟩ rfl rfl ?_
 refine AO.val rfl rfl (pick_or rfl rfl rfl rfl) ?_
 refine AO.nil ?_
 refine AW.le (Le.ct 0 0 (σ' := (⟨[(0, .s (List.map encOfficial l)), (3, .R 6), (5, .p 7 0), (6, .s (List.map encOfficial l)), (7, (l.length : Int)), (8, (k1 : Int)), (33, .v (.bool ((((!x30) || x32) || (!x34)) || (!x36))))], [(6, .row 1 (List.map encInt v28)), (7, .box [y2.number, y2.club, y2.level])], 43, []⟩ : St))) ?_
 refine AW.cond (b := ((((!x30) || x32) || (!x34)) || (!x36))) rfl (fun hc => ?_) (fun hc => ?_)
 replace hH := condT hc hH
 refine AW.seq (AW.region ?_)
 refine AO.pu T ?_
 refine AO.nil (AW.ret ?_)
 cases someE hH
 exact retQ.i [] rfl (.c (.c .v))
 replace hH := condF hc hH
 refine AW.skip ?_
 obtain ⟨u38, hx39, hH⟩ := bindE hH
 refine AW.region ?_
 iterate 3 refine AO.pu T ?_
 refine AO.step rfl (mk_map_ok T rfl 8 rfl rfl rfl rfl rfl (f := encInt) (l := [y2.number]) rfl rfl (fun _ => rfl) rfl rfl rfl rfl rfl) ?_
 refine AO.step rfl (app_rv_map T rfl 9 rfl rfl rfl rfl rfl (by decide) rfl rfl rfl rfl (fun _ => rfl) (needT (hx39)) rfl rfl) ?_
 refine AO.pu T ?_
 refine AO.nil ?_
 refine AW.region ?_
 refine AO.val rfl rfl (ar_ok rfl rfl rfl rfl (inI_succ hlt6 hb5)) ?_
 refine AO.pu T ?_
 refine AO.nil ?_
 refine ⟨(k1 + 1, (v28 ++ [y2.number])), ⟨Nat.succ_le_of_lt hlt6, (by rw [drop_succ_of hd4]; exact hH)⟩, (by have := hlt6; dsimp only; omega), ?_⟩
 exact Le.ct 9 6

def spec_l1Rising_l1 (l : List Int) (lo : Int) (hi : Int) : List Int → Nat → Option Bool
  | [], k1 =>
    some true
  | y2 :: ys3, k1 =>
    (spec_l1In_p y2 lo hi).bind fun x16 =>
    (opt ((!(!x16)) && decide ((k1 : Int) > 0)) default (getI l (w64 ((k1 : Int) - 1)))).bind fun x18 =>
    cond ((!x16) || (decide ((k1 : Int) > 0) && decide (x18 ≥ y2)))
      (some false)
      (spec_l1Rising_l1 l lo hi ys3 (k1 + 1))
def spec_l1Rising_p (l : List Int) (lo : Int) (hi : Int) : Option Bool :=
  spec_l1Rising_l1 l lo hi l 0
theorem spec_l1Rising_ok (l : List Int) (lo : Int) (hi : Int) (r : Bool) (hH : spec_l1Rising_p l lo hi = some r) : SpecR Try.prog 121 [.s (List.map encInt l), lo, hi] (.v (.bool r)) := by
 refine fn_ok T Try.func121 rfl (by decide) rfl ?_
 refine AW.seq (AW.region ?_)
 refine AO.pu T ?_
 refine AO.nil ?_
 iterate 2 refine AW.seq ?_
 refine AW.region ?_
 refine AO.pu T ?_
 refine AO.val rfl rfl (len_map_ok T rfl rfl rfl) ?_
 refine AO.pu T ?_
 refine AO.nil ?_
 refine AW.block ?_
 refine AW.loopS (fun s : Nat => (⟨[(0, .s (List.map encInt l)), (1, lo), (2, hi), (9, .s (List.map encInt l)), (10, (l.length : Int)), (11, (s : Int))], [], 35, []⟩ : St)) (fun s => s ≤ l.length ∧ spec_l1Rising_l1 l lo hi (l.drop s) s = some r) (fun s => l.length - s) 0 ⟨Nat.zero_le _, hH⟩ ?_ ?_
 exact Le.ct 0 0
 rintro k1 ⟨hk, hH⟩
 replace hH : spec_l1Rising_l1 l lo hi (l.drop k1) k1 = some r := hH
 try dsimp only
 refine AW.boundM (t := 0) (l := l) rfl (fun hb5 => ?_)
 rcases hd4 : l.drop k1 with _ | ⟨y2, ys3⟩
 rw [hd4, spec_l1Rising_l1] at hH
 have hlt6 := drop_ge hd4
 refine AW.seq (AW.region ?_)
 refine AO.pu T ?_
 refine AO.nil (AW.seq ?_)
 refine AW.condF' (b := decide ((k1 : Int) < (l.length : Int))) rfl (rngF hlt6) ?_
 refine AW.exit ?_
 refine AW.seq (AW.region ?_)
 refine AO.pu T ?_
 refine AO.nil (AW.ret ?_)
 cases someE hH
 exact retQ.i [] rfl (.c (.c .v))
 rw [hd4, spec_l1Rising_l1] at hH
 have hlt6 := drop_lt hd4
 refine AW.seq (AW.region ?_)
 refine AO.pu T ?_
 refine AO.nil (AW.seq ?_)
 refine AW.condT' (b := decide ((k1 : Int) < (l.length : Int))) rfl (rngT hlt6) ?_
 refine AW.skip ?_
 refine AW.seq ?_
 refine AW.block ?_
 refine AW.seq (AW.region ?_)
 refine AO.pu T ?_
 refine AO.val rfl rfl (ix_map_ok T rfl rfl rfl rfl rfl (getI_drop hd4) rfl) ?_
 iterate 3 refine AO.pu T ?_
 refine AO.nil (AW.seq ?_)
 obtain ⟨x16, hx17, hH⟩ := bindE hH
 obtain ⟨x18, hx19, hH⟩ := bindE hH
 refine AW.region ?_
 iterate 3 refine AO.pu T ?_
 refine AO.val rfl rfl (callV_ok rfl rfl rfl rfl (spec_l1In_ok _ _ _ _ (hx17)) rfl) ?_
 iterate 2 refine AO.pu T ?_
 refine AO.pureG T [] rfl trivial rfl rfl ?_
 refine AO.pureG T [22] rfl ⟨fun h => h, trivial⟩ rfl rfl ?_
 refine AO.pureG T [23] rfl ⟨fun h => h, trivial⟩ rfl rfl ?_
 iterate 2 refine AO.pureG T [] rfl trivial rfl rfl ?_
 refine AO.guard [26] rfl ⟨fun h => h, trivial⟩ (fun hg => arw_ok rfl rfl rfl rfl) rfl ?_
 refine AO.guard [25, 27] rfl ⟨fun h => h, fun h => h, trivial⟩ (fun hg => ix_map_ok T rfl rfl rfl rfl rfl (optT hx19 hg) rfl) rfl ?_
 refine AO.pureG T [28] rfl ⟨fun h => h, trivial⟩ rfl rfl ?_
 refine AO.pureG T [] rfl trivial rfl rfl ?_
 refine AO.pureG T [29, 30] rfl ⟨fun h => h, fun h => h, trivial⟩ rfl rfl ?_
 refine AO.guard [24] rfl ⟨fun h => h, trivial⟩ (fun hg => pick_and rfl rfl rfl (by rw [hg]; exact Bool.true_and _)) rfl ?_
 refine AO.val rfl rfl (pick_or rfl rfl rfl rfl) ?_
 refine AO.nil ?_
 refine AW.le (Le.ct 0 0 (σ' := (⟨[(0, .s (List.map encInt l)), (1, lo), (2, hi), (9, .s (List.map encInt l)), (10, (l.length : Int)), (11, (k1 : Int)), (33, .v (.bool ((!x16) || (decide ((k1 : Int) > 0) && decide (x18 ≥ y2)))))], [], 35, []⟩ : St))) ?_
 refine AW.cond (b := ((!x16) || (decide ((k1 : Int) > 0) && decide (x18 ≥ y2)))) rfl (fun hc => ?_) (fun hc => ?_)
 replace hH := condT hc hH
 refine AW.seq (AW.region ?_)
 refine AO.pu T ?_
 refine AO.nil (AW.ret ?_)
 cases someE hH
 exact retQ.i [] rfl (.c (.c .v))
 replace hH := condF hc hH
 refine AW.skip ?_
 refine AW.region ?_
 refine AO.val rfl rfl (ar_ok rfl rfl rfl rfl (inI_succ hlt6 hb5)) ?_
 refine AO.pu T ?_
 refine AO.nil ?_
 refine ⟨k1 + 1, ⟨Nat.succ_le_of_lt hlt6, (by rw [drop_succ_of hd4]; exact hH)⟩, (by have := hlt6; dsimp only; omega), ?_⟩
 exact Le.ct 0 0

def spec_paAsked_p (l : List Official) (clubs : List Int) (level : Int) : Option Bool :=
  (spec_paOfficials_p l).bind fun x1 =>
  (opt x1 default (spec_l1Rising_p clubs 1 20)).bind fun x3 =>
  (opt (x1 && x3) default (spec_l1In_p level 1 3)).bind fun x5 =>
  some ((x1 && x3) && x5)
theorem spec_paAsked_ok (l : List Official) (clubs : List Int) (level : Int) (r : Bool) (hH : spec_paAsked_p l clubs level = some r) : SpecR Try.prog 72 [.s (List.map encOfficial l), .s (List.map encInt clubs), level] (.v (.bool r)) := by
 refine fn_ok T Try.func72 rfl (by decide) rfl ?_
 refine AW.seq (AW.region ?_)
 refine AO.pu T ?_
 refine AO.nil (AW.seq ?_)
 obtain ⟨x1, hx2, hH⟩ := bindE hH
 obtain ⟨x3, hx4, hH⟩ := bindE hH
 obtain ⟨x5, hx6, hH⟩ := bindE hH
 refine AW.region ?_
 refine AO.pu T ?_
 refine AO.val rfl rfl (callV_ok rfl rfl rfl rfl (spec_paOfficials_ok _ _ (hx2)) rfl) ?_
 refine AO.pu T ?_
 refine AO.pureG T [] rfl trivial rfl rfl ?_
 refine AO.guard [10] rfl ⟨fun h => h, trivial⟩ (fun hg => callV_ok rfl rfl rfl rfl (spec_l1Rising_ok _ _ _ _ (optT hx4 hg)) rfl) rfl ?_
 refine AO.val rfl rfl (pick_and rfl rfl rfl rfl) ?_
 refine AO.pu T ?_
 refine AO.pureG T [] rfl trivial rfl rfl ?_
 refine AO.guard [14] rfl ⟨fun h => h, trivial⟩ (fun hg => callV_ok rfl rfl rfl rfl (spec_l1In_ok _ _ _ _ (optT hx6 hg)) rfl) rfl ?_
 refine AO.val rfl rfl (pick_and rfl rfl rfl rfl) ?_
 refine AO.pu T ?_
 refine AO.nil (AW.ret ?_)
 cases someE hH
 exact retQ.i [] rfl (.c (.c .v))

def spec_paMost_p (most : Int) : Option Bool :=
  (spec_l1In_p most 1 9).bind fun x1 =>
  some x1
theorem spec_paMost_ok (most : Int) (r : Bool) (hH : spec_paMost_p most = some r) : SpecR Try.prog 59 [most] (.v (.bool r)) := by
 refine fn_ok T Try.func59 rfl (by decide) rfl ?_
 refine AW.seq (AW.region ?_)
 refine AO.pu T ?_
 refine AO.nil (AW.seq ?_)
 obtain ⟨x1, hx2, hH⟩ := bindE hH
 refine AW.region ?_
 refine AO.pu T ?_
 refine AO.val rfl rfl (callV_ok rfl rfl rfl rfl (spec_l1In_ok _ _ _ _ (hx2)) rfl) ?_
 refine AO.pu T ?_
 refine AO.nil (AW.ret ?_)
 cases someE hH
 exact retQ.i [] rfl (.c (.c .v))

def spec_l1Put_l1 (l : List Int) (n : Int) : Nat → Int → Option Int
  | 0, _ => none
  | k13 + 1, v19 =>
    (opt (decide (v19 < (l.length : Int))) default (getI l v19)).bind fun x21 =>
    cond (decide (v19 < (l.length : Int)) && decide (x21 < n))
      (spec_l1Put_l1 l n k13 (w64 (v19 + 1)))
      (some v19)
def spec_l1Put_p (fuel : Nat) (l : List Int) (n : Int) : Option (List Int) :=
  (spec_l1Put_l1 l n fuel 0).bind fun v10 =>
  (opt (decide (v10 < (l.length : Int))) default (getI l v10)).bind fun x23 =>
  cond (decide (v10 < (l.length : Int)) && (x23 == n))
    (some l)
    ((sliceHi l v10).bind fun x25 =>
    (need (fitsB 8 x25.length)).bind fun u27 =>
    (need (fitsB 8 (x25.length + ([n]).length))).bind fun u29 =>
    (sliceLo l v10).bind fun x31 =>
    (need (fitsB 8 (((x25 ++ [n])).length + x31.length))).bind fun u33 =>
    some ((x25 ++ [n]) ++ x31))
theorem spec_l1Put_ok (fuel : Nat) (l : List Int) (n : Int) (r : (List Int)) (hH : spec_l1Put_p fuel l n = some r) : SpecR Try.prog 61 [.s (List.map encInt l), n] (.s (r.map encInt)) := by
 refine fn_ok T Try.func61 rfl (by decide) rfl ?_
 refine AW.seq (AW.region ?_)
 refine AO.pu T ?_
 refine AO.nil (AW.seq ?_)
 refine AW.region ?_
 refine AO.pu T ?_
 refine AO.nil ?_
 obtain ⟨o11, hH, hK12⟩ := bindE hH
 refine AW.seqJ (fun s : Int => (⟨[(0, .s (List.map encInt l)), (1, n), (5, s)], [], 48, []⟩ : St)) (fun s => s = o11) ?_ ?_
 refine AW.block ?_
 refine AW.loopS (fun s : Nat × Int => (⟨[(0, .s (List.map encInt l)), (1, n), (5, s.2)], [], 48, []⟩ : St)) (fun s => spec_l1Put_l1 l n s.1 s.2 = some o11) (fun s => s.1) (fuel, 0) hH ?_ ?_
 exact Le.ct 0 0
 rintro ⟨k13, v19⟩ hH
 replace hH : spec_l1Put_l1 l n k13 v19 = some o11 := hH
 try dsimp only
 rcases k13 with _ | k13
 cases (show none = some _ from hH)
 rw [spec_l1Put_l1] at hH
 iterate 2 refine AW.seq ?_
 obtain ⟨x21, hx22, hH⟩ := bindE hH
 refine AW.region ?_
 iterate 2 refine AO.pu T ?_
 refine AO.val rfl rfl (len_map_ok T rfl rfl rfl) ?_
 iterate 2 refine AO.pu T ?_
 iterate 2 refine AO.pureG T [] rfl trivial rfl rfl ?_
 refine AO.guard [12, 13] rfl ⟨fun h => h, fun h => h, trivial⟩ (fun hg => ix_map_ok T rfl rfl rfl rfl rfl (optT hx22 hg) rfl) rfl ?_
 refine AO.pureG T [14] rfl ⟨fun h => h, trivial⟩ rfl rfl ?_
 refine AO.pureG T [] rfl trivial rfl rfl ?_
 refine AO.pureG T [15, 16] rfl ⟨fun h => h, fun h => h, trivial⟩ rfl rfl ?_
 refine AO.val rfl rfl (pick_and rfl rfl rfl rfl) ?_
 refine AO.nil ?_
 refine AW.cond (b := (decide (v19 < (l.length : Int)) && decide (x21 < n))) rfl (fun hc => ?_) (fun hc => ?_)
 replace hH := condT hc hH
 refine AW.skip ?_
 refine AW.block ?_
 refine AW.region ?_
 refine AO.pu T ?_
 refine AO.val rfl rfl (arw_ok rfl rfl rfl rfl) ?_
 refine AO.pu T ?_
 refine AO.nil ?_
 refine ⟨(k13, w64 (v19 + 1)), hH, Nat.lt_succ_self _, ?_⟩
 exact Le.ct 0 0
 replace hH := condF hc hH
 refine AW.exit ?_
 refine ⟨_, someE hH, ?_⟩
 exact Le.ct 0 0
 rintro v10 hs
 subst hs
 replace hH := hK12
 try dsimp only [flow, flowE] at hH
 try dsimp only
 iterate 2 refine AW.seq ?_
 obtain ⟨x23, hx24, hH⟩ := bindE hH
 refine AW.region ?_
 iterate 2 refine AO.pu T ?_
 refine AO.val rfl rfl (len_map_ok T rfl rfl rfl) ?_
 iterate 2 refine AO.pu T ?_
 iterate 2 refine AO.pureG T [] rfl trivial rfl rfl ?_
 refine AO.guard [26, 27] rfl ⟨fun h => h, fun h => h, trivial⟩ (fun hg => ix_map_ok T rfl rfl rfl rfl rfl (optT hx24 hg) rfl) rfl ?_
 refine AO.pureG T [28] rfl ⟨fun h => h, trivial⟩ rfl rfl ?_
 refine AO.pureG T [] rfl trivial rfl rfl ?_
 refine AO.pureG T [29, 30] rfl ⟨fun h => h, fun h => h, trivial⟩ rfl rfl ?_
 refine AO.val rfl rfl (pick_and rfl rfl rfl rfl) ?_
 refine AO.nil ?_
 refine AW.cond (b := (decide (v10 < (l.length : Int)) && (x23 == n))) rfl (fun hc => ?_) (fun hc => ?_)
 replace hH := condT hc hH
 refine AW.seq (AW.region ?_)
 iterate 2 refine AO.pu T ?_
 refine AO.nil (AW.ret ?_)
 cases someE hH
 exact retQ.i [] rfl (.c (.c .s))
 replace hH := condF hc hH
 refine AW.skip ?_
 refine AW.seq ?_
 obtain ⟨x25, hx26, hH⟩ := bindE hH
 obtain ⟨u27, hx28, hH⟩ := bindE hH
 refine AW.region ?_
 refine AO.step rfl (mk0_ok T rfl rfl rfl rfl) ?_
 iterate 2 refine AO.pu T ?_
 refine AO.val rfl rfl (slice_hi_map_ok T rfl rfl rfl rfl rfl (hx26) (fun _ => rfl)) ?_
 refine AO.step rfl (app_ws_map T rfl 1 rfl rfl rfl rfl rfl (by decide) (by decide) rfl rfl (fun _ => rfl) (needT (hx28)) rfl rfl) ?_
 refine AO.pu T ?_
 refine AO.nil (AW.seq ?_)
 obtain ⟨u29, hx30, hH⟩ := bindE hH
 refine AW.region ?_
 iterate 2 refine AO.pu T ?_
 refine AO.step rfl (mk_map_ok T rfl 2 rfl rfl rfl rfl rfl (f := encInt) (l := [n]) rfl rfl (fun _ => rfl) rfl rfl rfl rfl rfl) ?_
 refine AO.step rfl (app_rv_map T rfl 3 rfl rfl rfl rfl rfl (by decide) rfl rfl rfl rfl (fun _ => rfl) (needT (hx30)) rfl rfl) ?_
 refine AO.pu T ?_
 refine AO.nil (AW.seq ?_)
 obtain ⟨x31, hx32, hH⟩ := bindE hH
 obtain ⟨u33, hx34, hH⟩ := bindE hH
 refine AW.region ?_
 iterate 3 refine AO.pu T ?_
 refine AO.val rfl rfl (slice_lo_map_ok T rfl rfl rfl rfl rfl (hx32) (fun _ => rfl)) ?_
 refine AO.step rfl (app_rs_map T rfl 4 rfl rfl rfl rfl rfl (by decide) (by decide) rfl rfl rfl (fun _ => rfl) (needT (hx34)) rfl rfl) ?_
 refine AO.pu T ?_
 refine AO.nil ?_
 refine AW.le (Le.ct 0 0 (σ' := (⟨[(4, .R 4)], [(4, .row 1 (List.map encInt ((x25 ++ [n]) ++ x31)))], 48, []⟩ : St))) ?_
 refine AW.le (Le.freezeM 4 (g := encInt) rfl (fun y => .vs rfl)) ?_
 refine AW.ret ?_
 cases someE hH
 exact retQ.i [] rfl (.c (.c .s))

def spec_paEligible_l1 (clubs : List Int) (level : Int) (fuel : Nat) : List Official → Nat → List Int → Option ((List Int))
  | [], k1, v16 =>
    some v16
  | y2 :: ys3, k1, v16 =>
    (spec_l1Has_p clubs y2.club).bind fun x18 =>
    cond ((!x18) && decide (y2.level ≥ level))
      ((spec_l1Put_p fuel v16 y2.number).bind fun x20 =>
      spec_paEligible_l1 clubs level fuel ys3 (k1 + 1) x20)
      (spec_paEligible_l1 clubs level fuel ys3 (k1 + 1) v16)
def spec_paEligible_p (fuel : Nat) (l : List Official) (clubs : List Int) (level : Int) : Option (List Int) :=
  spec_paEligible_l1 clubs level fuel l 0 []
theorem spec_paEligible_ok (fuel : Nat) (l : List Official) (clubs : List Int) (level : Int) (r : (List Int)) (hH : spec_paEligible_p fuel l clubs level = some r) : SpecR Try.prog 122 [.s (List.map encOfficial l), .s (List.map encInt clubs), level] (.s (r.map encInt)) := by
 refine fn_ok T Try.func122 rfl (by decide) rfl ?_
 refine AW.seq (AW.region ?_)
 refine AO.pu T ?_
 refine AO.nil (AW.seq ?_)
 refine AW.region ?_
 refine AO.pu T ?_
 refine AO.nil ?_
 iterate 2 refine AW.seq ?_
 refine AW.region ?_
 refine AO.pu T ?_
 refine AO.val rfl rfl (len_map_ok T rfl rfl rfl) ?_
 refine AO.pu T ?_
 refine AO.nil ?_
 refine AW.block ?_
 refine AW.loopS (fun s : Nat × (List Int) => (⟨[(1, .s (List.map encInt clubs)), (2, level), (7, .s (List.map encInt s.2)), (10, .s (List.map encOfficial l)), (11, (l.length : Int)), (12, (s.1 : Int))], [], 33, []⟩ : St)) (fun s => s.1 ≤ l.length ∧ spec_paEligible_l1 clubs level fuel (l.drop s.1) s.1 s.2 = some r) (fun s => l.length - s.1) (0, []) ⟨Nat.zero_le _, hH⟩ ?_ ?_
 refine Le.trans (Le.nilS 7 rfl) ?_
 exact Le.ct 0 0
 rintro ⟨k1, v16⟩ ⟨hk, hH⟩
 replace hH : spec_paEligible_l1 clubs level fuel (l.drop k1) k1 v16 = some r := hH
 try dsimp only
 refine AW.boundM (t := 10) (l := l) rfl (fun hb5 => ?_)
 rcases hd4 : l.drop k1 with _ | ⟨y2, ys3⟩
 rw [hd4, spec_paEligible_l1] at hH
 have hlt6 := drop_ge hd4
 refine AW.seq (AW.region ?_)
 refine AO.pu T ?_
 refine AO.nil (AW.seq ?_)
 refine AW.condF' (b := decide ((k1 : Int) < (l.length : Int))) rfl (rngF hlt6) ?_
 refine AW.exit ?_
 refine AW.seq (AW.region ?_)
 iterate 2 refine AO.pu T ?_
 refine AO.nil (AW.ret ?_)
 cases someE hH
 exact retQ.i [] rfl (.c (.c .s))
 rw [hd4, spec_paEligible_l1] at hH
 have hlt6 := drop_lt hd4
 refine AW.seq (AW.region ?_)
 refine AO.pu T ?_
 refine AO.nil (AW.seq ?_)
 refine AW.condT' (b := decide ((k1 : Int) < (l.length : Int))) rfl (rngT hlt6) ?_
 refine AW.skip ?_
 refine AW.seq ?_
 refine AW.block ?_
 refine AW.seq (AW.region ?_)
 refine AO.val rfl rfl (ix_map_ok T rfl rfl rfl rfl rfl (getI_drop hd4) rfl) ?_
 refine AO.pu T (d := .g [y2.number, y2.club, y2.level]) ?_
 refine AO.step rfl (alloc_ok T rfl 3 rfl rfl rfl rfl rfl) ?_
 refine AO.se T [y2.number, y2.club, y2.level] ?_
 refine AO.nil (AW.seq ?_)
 obtain ⟨x18, hx19, hH⟩ := bindE hH
 refine AW.region ?_
 iterate 3 refine AO.pu T ?_
 refine AO.val rfl rfl (callV_ok rfl rfl rfl rfl (spec_l1Has_ok _ _ _ (hx19)) rfl) ?_
 iterate 2 refine AO.pu T ?_
 refine AO.pureG T [] rfl trivial rfl rfl ?_
 refine AO.pureG T [22] rfl ⟨fun h => h, trivial⟩ rfl rfl ?_
 refine AO.pureG T [] rfl trivial rfl rfl ?_
 refine AO.pureG T [23, 24] rfl ⟨fun h => h, fun h => h, trivial⟩ rfl rfl ?_
 refine AO.val rfl rfl (pick_and rfl rfl rfl rfl) ?_
 refine AO.nil ?_
 refine AW.cond (b := ((!x18) && decide (y2.level ≥ level))) rfl (fun hc => ?_) (fun hc => ?_)
 replace hH := condT hc hH
 obtain ⟨x20, hx21, hH⟩ := bindE hH
 refine AW.region ?_
 iterate 3 refine AO.pu T ?_
 refine AO.val rfl rfl (callV_ok rfl rfl rfl rfl (spec_l1Put_ok fuel _ _ _ (hx21)) rfl) ?_
 refine AO.pu T ?_
 refine AO.nil ?_
 refine AW.region ?_
 refine AO.val rfl rfl (ar_ok rfl rfl rfl rfl (inI_succ hlt6 hb5)) ?_
 refine AO.pu T ?_
 refine AO.nil ?_
 refine ⟨(k1 + 1, x20), ⟨Nat.succ_le_of_lt hlt6, (by rw [drop_succ_of hd4]; exact hH)⟩, (by have := hlt6; dsimp only; omega), ?_⟩
 exact Le.ct 0 0
 replace hH := condF hc hH
 refine AW.skip ?_
 refine AW.region ?_
 refine AO.val rfl rfl (ar_ok rfl rfl rfl rfl (inI_succ hlt6 hb5)) ?_
 refine AO.pu T ?_
 refine AO.nil ?_
 refine ⟨(k1 + 1, v16), ⟨Nat.succ_le_of_lt hlt6, (by rw [drop_succ_of hd4]; exact hH)⟩, (by have := hlt6; dsimp only; omega), ?_⟩
 exact Le.ct 0 0

def spec_paFind_l1 (number : Int) : List Official → Nat → Option Int
  | [], k1 =>
    some (-1)
  | y2 :: ys3, k1 =>
    cond (y2.number == number)
      (some (k1 : Int))
      (spec_paFind_l1 number ys3 (k1 + 1))
def spec_paFind_p (l : List Official) (number : Int) : Option Int :=
  spec_paFind_l1 number l 0
theorem spec_paFind_ok (l : List Official) (number : Int) (r : Int) (hH : spec_paFind_p l number = some r) : SpecR Try.prog 74 [.s (List.map encOfficial l), number] (.v (.int .i64 r)) := by
 refine fn_ok T Try.func74 rfl (by decide) rfl ?_
 refine AW.seq (AW.region ?_)
 refine AO.pu T ?_
 refine AO.nil ?_
 iterate 2 refine AW.seq ?_
 refine AW.region ?_
 refine AO.pu T ?_
 refine AO.val rfl rfl (len_map_ok T rfl rfl rfl) ?_
 refine AO.pu T ?_
 refine AO.nil ?_
 refine AW.block ?_
 refine AW.loopS (fun s : Nat => (⟨[(1, number), (7, .s (List.map encOfficial l)), (8, (l.length : Int)), (9, (s : Int))], [], 20, []⟩ : St)) (fun s => s ≤ l.length ∧ spec_paFind_l1 number (l.drop s) s = some r) (fun s => l.length - s) 0 ⟨Nat.zero_le _, hH⟩ ?_ ?_
 exact Le.ct 0 0
 rintro k1 ⟨hk, hH⟩
 replace hH : spec_paFind_l1 number (l.drop k1) k1 = some r := hH
 try dsimp only
 refine AW.boundM (t := 7) (l := l) rfl (fun hb5 => ?_)
 rcases hd4 : l.drop k1 with _ | ⟨y2, ys3⟩
 rw [hd4, spec_paFind_l1] at hH
 have hlt6 := drop_ge hd4
 refine AW.seq (AW.region ?_)
 refine AO.pu T ?_
 refine AO.nil (AW.seq ?_)
 refine AW.condF' (b := decide ((k1 : Int) < (l.length : Int))) rfl (rngF hlt6) ?_
 refine AW.exit ?_
 refine AW.seq (AW.region ?_)
 refine AO.pu T ?_
 refine AO.nil (AW.ret ?_)
 cases someE hH
 exact retQ.i [] rfl (.c (.c .v))
 rw [hd4, spec_paFind_l1] at hH
 have hlt6 := drop_lt hd4
 refine AW.seq (AW.region ?_)
 refine AO.pu T ?_
 refine AO.nil (AW.seq ?_)
 refine AW.condT' (b := decide ((k1 : Int) < (l.length : Int))) rfl (rngT hlt6) ?_
 refine AW.skip ?_
 refine AW.seq ?_
 refine AW.block ?_
 refine AW.seq (AW.region ?_)
 refine AO.pu T ?_
 refine AO.val rfl rfl (ix_map_ok T rfl rfl rfl rfl rfl (getI_drop hd4) rfl) ?_
 refine AO.pu T (d := .g [y2.number, y2.club, y2.level]) ?_
 refine AO.step rfl (alloc_ok T rfl 3 rfl rfl rfl rfl rfl) ?_
 refine AO.pu T ?_
 refine AO.se T [y2.number, y2.club, y2.level] ?_
 refine AO.nil (AW.seq ?_)
 refine AW.region ?_
 iterate 4 refine AO.pu T ?_
 refine AO.nil ?_
 refine AW.cond (b := (y2.number == number)) rfl (fun hc => ?_) (fun hc => ?_)
 replace hH := condT hc hH
 refine AW.seq (AW.region ?_)
 iterate 2 refine AO.pu T ?_
 refine AO.nil (AW.ret ?_)
 cases someE hH
 exact retQ.i [] rfl (.c (.c .v))
 replace hH := condF hc hH
 refine AW.skip ?_
 refine AW.region ?_
 refine AO.val rfl rfl (ar_ok rfl rfl rfl rfl (inI_succ hlt6 hb5)) ?_
 refine AO.pu T ?_
 refine AO.nil ?_
 refine ⟨k1 + 1, ⟨Nat.succ_le_of_lt hlt6, (by rw [drop_succ_of hd4]; exact hH)⟩, (by have := hlt6; dsimp only; omega), ?_⟩
 exact Le.ct 0 0

def spec_paIs_l1 (l : List Official) (most : Int) (panel : List Int) (x1 : (List Int)) : List Int → Nat → List Int → Option Bool
  | [], k5, v32 =>
    (spec_l1In_p (panel.length : Int) 1 9).bind fun x34 =>
    (opt x34 default (spec_l1Rising_p panel 1 999)).bind fun x36 =>
    some (x34 && x36)
  | y6 :: ys7, k5, v32 =>
    (spec_l1Has_p x1 y6).bind fun x38 =>
    cond (!x38)
      (some false)
      ((spec_paFind_p l y6).bind fun x40 =>
      (getI l x40).bind fun x42 =>
      (getI v32 x42.club).bind fun x44 =>
      (getI (v32.set x42.club.toNat (w64 (x44 + 1))) x42.club).bind fun x46 =>
      cond (decide (x46 > most))
        (some false)
        (spec_paIs_l1 l most panel x1 ys7 (k5 + 1) (v32.set x42.club.toNat (w64 (x44 + 1)))))
def spec_paIs_p (fuel : Nat) (l : List Official) (clubs : List Int) (level : Int) (most : Int) (panel : List Int) : Option Bool :=
  (spec_paEligible_p fuel l clubs level).bind fun x1 =>
  (need (decide (0 ≤ 21) && fitsB 8 (21 : Int).toNat)).bind fun u3 =>
  spec_paIs_l1 l most panel x1 panel 0 (List.replicate (21 : Int).toNat 0)
theorem spec_paIs_ok (fuel : Nat) (l : List Official) (clubs : List Int) (level : Int) (most : Int) (panel : List Int) (r : Bool) (hH : spec_paIs_p fuel l clubs level most panel = some r) : SpecR Try.prog 78 [.s (List.map encOfficial l), .s (List.map encInt clubs), level, most, .s (List.map encInt panel)] (.v (.bool r)) := by
 refine fn_ok T Try.func78 rfl (by decide) rfl ?_
 refine AW.seq (AW.region ?_)
 refine AO.pu T ?_
 refine AO.nil (AW.seq ?_)
 obtain ⟨x1, hx2, hH⟩ := bindE hH
 refine AW.region ?_
 iterate 3 refine AO.pu T ?_
 refine AO.val rfl rfl (callV_ok rfl rfl rfl rfl (spec_paEligible_ok fuel _ _ _ _ (hx2)) rfl) ?_
 refine AO.pu T ?_
 refine AO.nil (AW.seq ?_)
 obtain ⟨u3, hx4, hH⟩ := bindE hH
 refine AW.region ?_
 refine AO.step rfl (make_map_ok T rfl 1 rfl rfl rfl rfl rfl (f := encInt) (zo := 0) (by repeat constructor) (by decide) rfl rfl (Bool.and_eq_true_iff.1 (needT (hx4))).1 (Bool.and_eq_true_iff.1 (needT (hx4))).2 rfl rfl) ?_
 refine AO.pu T ?_
 refine AO.nil ?_
 iterate 2 refine AW.seq ?_
 refine AW.region ?_
 refine AO.pu T ?_
 refine AO.val rfl rfl (len_map_ok T rfl rfl rfl) ?_
 refine AO.pu T ?_
 refine AO.nil ?_
 refine AW.block ?_
 refine AW.loopS (fun s : Nat × (List Int) => (⟨[(0, .s (List.map encOfficial l)), (3, most), (4, .s (List.map encInt panel)), (11, .s (List.map encInt x1)), (12, .R 1), (21, .s (List.map encInt panel)), (22, (panel.length : Int)), (23, (s.1 : Int))], [(1, .row 1 (List.map encInt s.2))], 58, []⟩ : St)) (fun s => s.1 ≤ panel.length ∧ spec_paIs_l1 l most panel x1 (panel.drop s.1) s.1 s.2 = some r) (fun s => panel.length - s.1) (0, (List.replicate (21 : Int).toNat 0)) ⟨Nat.zero_le _, hH⟩ ?_ ?_
 exact Le.ct 0 0
 rintro ⟨k5, v32⟩ ⟨hk, hH⟩
 replace hH : spec_paIs_l1 l most panel x1 (panel.drop k5) k5 v32 = some r := hH
 try dsimp only
 refine AW.boundM (t := 4) (l := panel) rfl (fun hb9 => ?_)
 rcases hd8 : panel.drop k5 with _ | ⟨y6, ys7⟩
 rw [hd8, spec_paIs_l1] at hH
 have hlt10 := drop_ge hd8
 refine AW.seq (AW.region ?_)
 refine AO.pu T ?_
 refine AO.nil (AW.seq ?_)
 refine AW.condF' (b := decide ((k5 : Int) < (panel.length : Int))) rfl (rngF hlt10) ?_
 refine AW.exit ?_
 refine AW.seq ?_
 obtain ⟨x34, hx35, hH⟩ := bindE hH
 obtain ⟨x36, hx37, hH⟩ := bindE hH
 refine AW.region ?_
 refine AO.pu T ?_
 refine AO.val rfl rfl (len_map_ok T rfl rfl rfl) ?_
 refine AO.val rfl rfl (callV_ok rfl rfl rfl rfl (spec_l1In_ok _ _ _ _ (hx35)) rfl) ?_
 refine AO.pu T ?_
 refine AO.pureG T [] rfl trivial rfl rfl ?_
 refine AO.guard [55] rfl ⟨fun h => h, trivial⟩ (fun hg => callV_ok rfl rfl rfl rfl (spec_l1Rising_ok _ _ _ _ (optT hx37 hg)) rfl) rfl ?_
 refine AO.val rfl rfl (pick_and rfl rfl rfl rfl) ?_
 refine AO.pu T ?_
 refine AO.nil (AW.ret ?_)
 cases someE hH
 exact retQ.i [] rfl (.c (.c .v))
 rw [hd8, spec_paIs_l1] at hH
 have hlt10 := drop_lt hd8
 refine AW.seq (AW.region ?_)
 refine AO.pu T ?_
 refine AO.nil (AW.seq ?_)
 refine AW.condT' (b := decide ((k5 : Int) < (panel.length : Int))) rfl (rngT hlt10) ?_
 refine AW.skip ?_
 refine AW.seq ?_
 refine AW.block ?_
 refine AW.seq (AW.region ?_)
 refine AO.val rfl rfl (ix_map_ok T rfl rfl rfl rfl rfl (getI_drop hd8) rfl) ?_
 iterate 2 refine AO.pu T ?_
 refine AO.nil ?_
 iterate 2 refine AW.seq ?_
 obtain ⟨x38, hx39, hH⟩ := bindE hH
 refine AW.region ?_
 iterate 2 refine AO.pu T ?_
 refine AO.val rfl rfl (callV_ok rfl rfl rfl rfl (spec_l1Has_ok _ _ _ (hx39)) rfl) ?_
 refine AO.pu T ?_
 refine AO.nil ?_
 refine AW.cond (b := (!x38)) rfl (fun hc => ?_) (fun hc => ?_)
 replace hH := condT hc hH
 refine AW.seq (AW.region ?_)
 refine AO.pu T ?_
 refine AO.nil (AW.ret ?_)
 cases someE hH
 exact retQ.i [] rfl (.c (.c .v))
 replace hH := condF hc hH
 refine AW.skip ?_
 refine AW.seq ?_
 obtain ⟨x40, hx41, hH⟩ := bindE hH
 obtain ⟨x42, hx43, hH⟩ := bindE hH
 refine AW.region ?_
 iterate 3 refine AO.pu T ?_
 refine AO.val rfl rfl (callV_ok rfl rfl rfl rfl (spec_paFind_ok _ _ _ (hx41)) rfl) ?_
 refine AO.val rfl rfl (ix_map_ok T rfl rfl rfl rfl rfl (hx43) rfl) ?_
 iterate 3 refine AO.pu T ?_
 refine AO.nil (AW.seq ?_)
 obtain ⟨x44, hx45, hH⟩ := bindE hH
 refine AW.region ?_
 iterate 2 refine AO.pu T ?_
 refine AO.val rfl rfl (ix_row_ok T rfl rfl rfl rfl rfl rfl (hx45)) ?_
 refine AO.val rfl rfl (load_row_ok T rfl rfl rfl rfl (getI_get (hx45)) rfl rfl rfl) ?_
 refine AO.val rfl rfl (arw_ok rfl rfl rfl rfl) ?_
 refine AO.val rfl rfl (ix_row_ok T rfl rfl rfl rfl rfl rfl (hx45)) ?_
 refine AO.step rfl (store_row_ok T rfl rfl rfl rfl rfl (getI_get (hx45)) rfl rfl rfl rfl (u' := w64 (x44 + 1)) rfl rfl) ?_
 refine AO.nil (AW.seq ?_)
 obtain ⟨x46, hx47, hH⟩ := bindE hH
 refine AW.region ?_
 iterate 2 refine AO.pu T ?_
 refine AO.val rfl rfl (ix_row_ok T rfl rfl rfl rfl rfl rfl (hx47)) ?_
 refine AO.val rfl rfl (load_row_ok T rfl rfl rfl rfl (getI_get (hx47)) rfl rfl rfl) ?_
 iterate 2 refine AO.pu T ?_
 refine AO.nil ?_
 refine AW.le (Le.ct 0 0 (σ' := (⟨[(0, .s (List.map encOfficial l)), (3, most), (4, .s (List.map encInt panel)), (11, .s (List.map encInt x1)), (12, .R 1), (21, .s (List.map encInt panel)), (22, (panel.length : Int)), (23, (k5 : Int)), (49, .v (.bool (decide (x46 > most))))], [(1, .row 1 (List.map encInt (v32.set x42.club.toNat (w64 (x44 + 1)))))], 58, []⟩ : St))) ?_
 refine AW.cond (b := decide (x46 > most)) rfl (fun hc => ?_) (fun hc => ?_)
 replace hH := condT hc hH
 refine AW.seq (AW.region ?_)
 refine AO.pu T ?_
 refine AO.nil (AW.ret ?_)
 cases someE hH
 exact retQ.i [] rfl (.c (.c .v))
 replace hH := condF hc hH
 refine AW.skip ?_
 refine AW.region ?_
 refine AO.val rfl rfl (ar_ok rfl rfl rfl rfl (inI_succ hlt10 hb9)) ?_
 refine AO.pu T ?_
 refine AO.nil ?_
 refine ⟨(k5 + 1, (v32.set x42.club.toNat (w64 (x44 + 1)))), ⟨Nat.succ_le_of_lt hlt10, (by rw [drop_succ_of hd8]; exact hH)⟩, (by have := hlt10; dsimp only; omega), ?_⟩
 exact Le.ct 0 0

def spec_l1Own_p (l : List Int) : Option (List Int) :=
  (need (fitsB 8 l.length)).bind fun u1 =>
  some l
theorem spec_l1Own_ok (l : List Int) (r : (List Int)) (hH : spec_l1Own_p l = some r) : SpecR Try.prog 112 [.s (List.map encInt l)] (.w 1 (r.map encInt)) := by
 refine fn_ok T Try.func112 rfl (by decide) rfl ?_
 refine AW.seq (AW.region ?_)
 refine AO.pu T ?_
 refine AO.nil (AW.seq ?_)
 obtain ⟨u1, hx2, hH⟩ := bindE hH
 refine AW.region ?_
 refine AO.step rfl (mk0_ok T rfl rfl rfl rfl) ?_
 refine AO.pu T ?_
 refine AO.step rfl (app_ws_map T rfl 1 rfl rfl rfl rfl rfl (by decide) (by decide) rfl rfl (fun _ => rfl) (needT (hx2)) rfl rfl) ?_
 refine AO.pu T ?_
 refine AO.nil (AW.ret ?_)
 cases someE hH
 exact retQ.i [1] rfl (.c (.c (.rowR rfl)))

def spec_dwMix_l1 (x1 : (List Int)) : Nat → Int → Int → Option Int
  | 0, _, _ => none
  | k5 + 1, v20, v21 =>
    cond (decide (v21 < (((x1 ++ [4, 1])).length : Int)))
      ((getI (x1 ++ [4, 1]) v21).bind fun x23 =>
      (need (1000003 != 0)).bind fun u25 =>
      (need (16 != 0)).bind fun u27 =>
      spec_dwMix_l1 x1 k5 ((w64 (((w64 ((w64 ((w64 (29 * v20)) + x23)) + 13)).tmod 1000003) * (w64 ((w64 (((w64 ((w64 ((w64 (29 * v20)) + x23)) + 13)).tmod 1000003).tdiv 16)) + 5)))).tmod 1000003) (w64 (v21 + 1)))
      (some v20)
def spec_dwMix_p (fuel : Nat) (keys : List Int) : Option Int :=
  (spec_l1Own_p keys).bind fun x1 =>
  (need (fitsB 8 (x1.length + ([4, 1]).length))).bind fun u3 =>
  spec_dwMix_l1 x1 fuel (w64 (5231 + (keys.length : Int))) 0
theorem spec_dwMix_ok (fuel : Nat) (keys : List Int) (r : Int) (hH : spec_dwMix_p fuel keys = some r) : SpecR Try.prog 152 [.s (List.map encInt keys)] (.v (.int .i64 r)) := by
 refine fn_ok T Try.func152 rfl (by decide) rfl ?_
 refine AW.seq (AW.region ?_)
 refine AO.pu T ?_
 refine AO.nil (AW.seq ?_)
 refine AW.region ?_
 refine AO.pu T ?_
 refine AO.val rfl rfl (len_map_ok T rfl rfl rfl) ?_
 refine AO.val rfl rfl (arw_ok rfl rfl rfl rfl) ?_
 refine AO.pu T ?_
 refine AO.nil ?_
 iterate 2 refine AW.seq ?_
 obtain ⟨x1, hx2, hH⟩ := bindE hH
 obtain ⟨u3, hx4, hH⟩ := bindE hH
 refine AW.region ?_
 refine AO.pu T ?_
 refine AO.step rfl (call_ok rfl 1 rfl rfl rfl (spec_l1Own_ok _ _ (hx2)) rfl rfl rfl) ?_
 refine AO.step rfl (mk_map_ok T rfl 2 rfl rfl rfl rfl rfl (f := encInt) (l := [4, 1]) rfl rfl (fun _ => rfl) rfl rfl rfl rfl rfl) ?_
 refine AO.step rfl (app_rv_map T rfl 3 rfl rfl rfl rfl rfl (by decide) rfl rfl rfl rfl (fun _ => rfl) (needT (hx4)) rfl rfl) ?_
 refine AO.val rfl rfl (len_row_ok T rfl rfl rfl rfl) ?_
 refine AO.pu T ?_
 refine AO.nil ?_
 refine AW.block ?_
 refine AW.loopS (fun s : Nat × Int × Int => (⟨[(3, s.2.1), (12, .R 3), (13, (((x1 ++ [4, 1])).length : Int)), (14, s.2.2)], [(3, .row 1 (List.map encInt (x1 ++ [4, 1])))], 32, []⟩ : St)) (fun s => spec_dwMix_l1 x1 s.1 s.2.1 s.2.2 = some r) (fun s => s.1) (fuel, w64 (5231 + (keys.length : Int)), 0) hH ?_ ?_
 exact Le.ct 0 0
 rintro ⟨k5, v20, v21⟩ hH
 replace hH : spec_dwMix_l1 x1 k5 v20 v21 = some r := hH
 try dsimp only
 rcases k5 with _ | k5
 cases (show none = some _ from hH)
 rw [spec_dwMix_l1] at hH
 refine AW.seq (AW.region ?_)
 refine AO.pu T ?_
 refine AO.nil (AW.seq ?_)
 refine AW.cond (b := decide (v21 < (((x1 ++ [4, 1])).length : Int))) rfl (fun hc => ?_) (fun hc => ?_)
 replace hH := condT hc hH
 refine AW.skip ?_
 refine AW.seq ?_
 refine AW.block ?_
 refine AW.seq ?_
 obtain ⟨x23, hx24, hH⟩ := bindE hH
 refine AW.region ?_
 refine AO.val rfl rfl (ix_row_ok T rfl rfl rfl rfl rfl rfl (hx24)) ?_
 refine AO.val rfl rfl (load_row_ok T rfl rfl rfl rfl (getI_get (hx24)) rfl rfl rfl) ?_
 refine AO.pu T ?_
 refine AO.nil (AW.seq ?_)
 obtain ⟨u25, hx26, hH⟩ := bindE hH
 refine AW.region ?_
 refine AO.pu T ?_
 refine AO.val rfl rfl (arw_ok rfl rfl rfl rfl) ?_
 refine AO.pu T ?_
 iterate 2 refine AO.val rfl rfl (arw_ok rfl rfl rfl rfl) ?_
 refine AO.val rfl rfl (rem_ok rfl rfl rfl (neZ (needT (hx26)))) ?_
 refine AO.pu T ?_
 refine AO.nil ?_
 obtain ⟨u27, hx28, hH⟩ := bindE hH
 refine AW.region ?_
 iterate 2 refine AO.pu T ?_
 refine AO.val rfl rfl (quow_ok rfl rfl rfl (neZ (needT (hx28)))) ?_
 iterate 2 refine AO.val rfl rfl (arw_ok rfl rfl rfl rfl) ?_
 refine AO.val rfl rfl (rem_ok rfl rfl rfl (neZ (needT (hx26)))) ?_
 refine AO.pu T ?_
 refine AO.nil ?_
 refine AW.region ?_
 refine AO.val rfl rfl (arw_ok rfl rfl rfl rfl) ?_
 refine AO.pu T ?_
 refine AO.nil ?_
 refine ⟨(k5, ((w64 (((w64 ((w64 ((w64 (29 * v20)) + x23)) + 13)).tmod 1000003) * (w64 ((w64 (((w64 ((w64 ((w64 (29 * v20)) + x23)) + 13)).tmod 1000003).tdiv 16)) + 5)))).tmod 1000003), w64 (v21 + 1)), hH, Nat.lt_succ_self _, ?_⟩
 exact Le.ct 0 0
 replace hH := condF hc hH
 refine AW.exit ?_
 refine AW.seq (AW.region ?_)
 iterate 2 refine AO.pu T ?_
 refine AO.nil (AW.ret ?_)
 cases someE hH
 exact retQ.i [] rfl (.c (.c .v))

def spec_dwBelow_p (fuel : Nat) (keys : List Int) (n : Int) : Option Int :=
  (spec_l1Own_p keys).bind fun x1 =>
  (need (fitsB 8 (x1.length + ([n]).length))).bind fun u3 =>
  (spec_dwMix_p fuel (x1 ++ [n])).bind fun x5 =>
  (need (n != 0)).bind fun u7 =>
  some (x5.tmod n)
theorem spec_dwBelow_ok (fuel : Nat) (keys : List Int) (n : Int) (r : Int) (hH : spec_dwBelow_p fuel keys n = some r) : SpecR Try.prog 137 [.s (List.map encInt keys), n] (.v (.int .i64 r)) := by
 refine fn_ok T Try.func137 rfl (by decide) rfl ?_
 refine AW.seq (AW.region ?_)
 refine AO.pu T ?_
 refine AO.nil (AW.seq ?_)
 obtain ⟨x1, hx2, hH⟩ := bindE hH
 obtain ⟨u3, hx4, hH⟩ := bindE hH
 obtain ⟨x5, hx6, hH⟩ := bindE hH
 obtain ⟨u7, hx8, hH⟩ := bindE hH
 refine AW.region ?_
 refine AO.pu T ?_
 refine AO.step rfl (call_ok rfl 1 rfl rfl rfl (spec_l1Own_ok _ _ (hx2)) rfl rfl rfl) ?_
 refine AO.pu T ?_
 refine AO.step rfl (mk_map_ok T rfl 2 rfl rfl rfl rfl rfl (f := encInt) (l := [n]) rfl rfl (fun _ => rfl) rfl rfl rfl rfl rfl) ?_
 refine AO.step rfl (app_rv_map T rfl 3 rfl rfl rfl rfl rfl (by decide) rfl rfl rfl rfl (fun _ => rfl) (needT (hx4)) rfl rfl) ?_
 refine AO.val rfl rfl (callLV_ok rfl rfl rfl (es := [.s (List.map encInt (x1 ++ [n]))]) ⟨(.rowR rfl (.map fun y => .vs rfl)), trivial⟩ (spec_dwMix_ok fuel _ _ (hx6)) (zfree_v _) rfl) ?_
 refine AO.pu T ?_
 refine AO.val rfl rfl (rem_ok rfl rfl rfl (neZ (needT (hx8)))) ?_
 refine AO.pu T ?_
 refine AO.nil (AW.ret ?_)
 cases someE hH
 exact retQ.i [] rfl (.c (.c .v))

def spec_dwShuffle_l2 (keys : List Int) (fuel : Nat) : Nat → List Int → Int → Option ((List Int))
  | 0, _, _ => none
  | k13 + 1, v40, v41 =>
    cond (decide (v41 ≥ 1))
      ((spec_l1Own_p keys).bind fun x43 =>
      (need (fitsB 8 (x43.length + ([v41]).length))).bind fun u45 =>
      (spec_dwBelow_p fuel (x43 ++ [v41]) (w64 (v41 + 1))).bind fun x47 =>
      (getI v40 v41).bind fun x49 =>
      (getI v40 x47).bind fun x51 =>
      (getI (v40.set v41.toNat x51) x47).bind fun x53 =>
      spec_dwShuffle_l2 keys fuel k13 ((v40.set v41.toNat x51).set x47.toNat x49) (w64 (v41 - 1)))
      (some v40)
def spec_dwShuffle_l1 (keys : List Int) (n : Int) (fuel : Nat) : Nat → List Int → Int → Option ((List Int))
  | 0, _, _ => none
  | k1 + 1, v8, v9 =>
    cond (decide (v9 < n))
      ((need (fitsB 8 (v8.length + ([v9]).length))).bind fun u11 =>
      spec_dwShuffle_l1 keys n fuel k1 (v8 ++ [v9]) (w64 (v9 + 1)))
      (spec_dwShuffle_l2 keys fuel fuel v8 (w64 (n - 1)))
def spec_dwShuffle_p (fuel : Nat) (keys : List Int) (n : Int) : Option (List Int) :=
  spec_dwShuffle_l1 keys n fuel fuel [] 0
theorem spec_dwShuffle_ok (fuel : Nat) (keys : List Int) (n : Int) (r : (List Int)) (hH : spec_dwShuffle_p fuel keys n = some r) : SpecR Try.prog 114 [.s (List.map encInt keys), n] (.w 1 (r.map encInt)) := by
 refine fn_ok T Try.func114 rfl (by decide) rfl ?_
 refine AW.seq (AW.region ?_)
 refine AO.pu T ?_
 refine AO.nil (AW.seq ?_)
 refine AW.region ?_
 refine AO.pu T ?_
 refine AO.nil ?_
 iterate 2 refine AW.seq ?_
 refine AW.region ?_
 refine AO.pu T ?_
 refine AO.nil ?_
 refine AW.block ?_
 refine AW.loopS (fun s : Nat × (List Int) × Int => (⟨[(0, .s (List.map encInt keys)), (1, n), (5, .R 4), (6, s.2.2)], [(4, .row 1 (List.map encInt s.2.1))], 49, []⟩ : St)) (fun s => spec_dwShuffle_l1 keys n fuel s.1 s.2.1 s.2.2 = some r) (fun s => s.1) (fuel, [], 0) hH ?_ ?_
 refine Le.trans (Le.void 5 4 1 rfl rfl) ?_
 exact Le.ct 0 0
 rintro ⟨k1, v8, v9⟩ hH
 replace hH : spec_dwShuffle_l1 keys n fuel k1 v8 v9 = some r := hH
 try dsimp only
 rcases k1 with _ | k1
 cases (show none = some _ from hH)
 rw [spec_dwShuffle_l1] at hH
 iterate 2 refine AW.seq ?_
 refine AW.region ?_
 iterate 3 refine AO.pu T ?_
 refine AO.nil ?_
 refine AW.cond (b := decide (v9 < n)) rfl (fun hc => ?_) (fun hc => ?_)
 replace hH := condT hc hH
 refine AW.skip ?_
 refine AW.seq ?_
 refine AW.block ?_
 obtain ⟨u11, hx12, hH⟩ := bindE hH
 refine AW.region ?_
 iterate 2 refine AO.pu T ?_
 refine AO.step rfl (mk_map_ok T rfl 5 rfl rfl rfl rfl rfl (f := encInt) (l := [v9]) rfl rfl (fun _ => rfl) rfl rfl rfl rfl rfl) ?_
 refine AO.step rfl (app_rv_map T rfl 6 rfl rfl rfl rfl rfl (by decide) rfl rfl rfl rfl (fun _ => rfl) (needT (hx12)) rfl rfl) ?_
 refine AO.pu T ?_
 refine AO.nil ?_
 refine AW.region ?_
 refine AO.pu T ?_
 refine AO.val rfl rfl (arw_ok rfl rfl rfl rfl) ?_
 refine AO.pu T ?_
 refine AO.nil ?_
 refine ⟨(k1, (v8 ++ [v9]), w64 (v9 + 1)), hH, Nat.lt_succ_self _, ?_⟩
 exact Le.ct 6 4
 replace hH := condF hc hH
 refine AW.exit ?_
 iterate 2 refine AW.seq ?_
 refine AW.region ?_
 refine AO.pu T ?_
 refine AO.val rfl rfl (arw_ok rfl rfl rfl rfl) ?_
 refine AO.pu T ?_
 refine AO.nil ?_
 refine AW.block ?_
 refine AW.loopS (fun s : Nat × (List Int) × Int => (⟨[(0, .s (List.map encInt keys)), (5, .R 4), (7, s.2.2)], [(4, .row 1 (List.map encInt s.2.1))], 49, []⟩ : St)) (fun s => spec_dwShuffle_l2 keys fuel s.1 s.2.1 s.2.2 = some r) (fun s => s.1) (fuel, v8, w64 (n - 1)) hH ?_ ?_
 exact Le.ct 0 0
 rintro ⟨k13, v40, v41⟩ hH
 replace hH : spec_dwShuffle_l2 keys fuel k13 v40 v41 = some r := hH
 try dsimp only
 rcases k13 with _ | k13
 cases (show none = some _ from hH)
 rw [spec_dwShuffle_l2] at hH
 iterate 2 refine AW.seq ?_
 refine AW.region ?_
 iterate 2 refine AO.pu T ?_
 refine AO.nil ?_
 refine AW.cond (b := decide (v41 ≥ 1)) rfl (fun hc => ?_) (fun hc => ?_)
 replace hH := condT hc hH
 refine AW.skip ?_
 refine AW.seq ?_
 refine AW.block ?_
 refine AW.seq ?_
 obtain ⟨x43, hx44, hH⟩ := bindE hH
 obtain ⟨u45, hx46, hH⟩ := bindE hH
 obtain ⟨x47, hx48, hH⟩ := bindE hH
 refine AW.region ?_
 refine AO.pu T ?_
 refine AO.step rfl (call_ok rfl 13 rfl rfl rfl (spec_l1Own_ok _ _ (hx44)) rfl rfl rfl) ?_
 refine AO.pu T ?_
 refine AO.step rfl (mk_map_ok T rfl 14 rfl rfl rfl rfl rfl (f := encInt) (l := [v41]) rfl rfl (fun _ => rfl) rfl rfl rfl rfl rfl) ?_
 refine AO.step rfl (app_rv_map T rfl 15 rfl rfl rfl rfl rfl (by decide) rfl rfl rfl rfl (fun _ => rfl) (needT (hx46)) rfl rfl) ?_
 refine AO.pu T ?_
 refine AO.val rfl rfl (arw_ok rfl rfl rfl rfl) ?_
 refine AO.val rfl rfl (callLV_ok rfl rfl rfl (es := [.s (List.map encInt (x43 ++ [v41])), w64 (v41 + 1)]) ⟨(.rowR rfl (.map fun y => .vs rfl)), .free rfl, trivial⟩ (spec_dwBelow_ok fuel _ _ _ (hx48)) (zfree_v _) rfl) ?_
 refine AO.pu T ?_
 refine AO.nil (AW.seq ?_)
 obtain ⟨x49, hx50, hH⟩ := bindE hH
 refine AW.region ?_
 iterate 2 refine AO.pu T ?_
 refine AO.val rfl rfl (ix_row_ok T rfl rfl rfl rfl rfl rfl (hx50)) ?_
 refine AO.val rfl rfl (load_row_ok T rfl rfl rfl rfl (getI_get (hx50)) rfl rfl rfl) ?_
 refine AO.pu T ?_
 refine AO.nil (AW.seq ?_)
 obtain ⟨x51, hx52, hH⟩ := bindE hH
 refine AW.region ?_
 iterate 4 refine AO.pu T ?_
 refine AO.val rfl rfl (ix_row_ok T rfl rfl rfl rfl rfl rfl (hx52)) ?_
 refine AO.val rfl rfl (load_row_ok T rfl rfl rfl rfl (getI_get (hx52)) rfl rfl rfl) ?_
 refine AO.val rfl rfl (ix_row_ok T rfl rfl rfl rfl rfl rfl (hx50)) ?_
 refine AO.step rfl (store_row_ok T rfl rfl rfl rfl rfl (getI_get (hx50)) rfl rfl rfl rfl (u' := x51) rfl rfl) ?_
 refine AO.nil ?_
 refine AW.le (Le.ct 0 0 (σ' := (⟨[(0, .s (List.map encInt keys)), (5, .R 4), (7, v41), (8, x47), (9, x49)], [(4, .row 1 (List.map encInt (v40.set v41.toNat x51)))], 49, []⟩ : St))) ?_
 obtain ⟨x53, hx54, hH⟩ := bindE hH
 refine AW.region ?_
 iterate 3 refine AO.pu T ?_
 refine AO.val rfl rfl (ix_row_ok T rfl rfl rfl rfl rfl rfl (hx54)) ?_
 refine AO.step rfl (store_row_ok T rfl rfl rfl rfl rfl (getI_get (hx54)) rfl rfl rfl rfl (u' := x49) rfl rfl) ?_
 refine AO.nil ?_
 refine AW.region ?_
 refine AO.pu T ?_
 refine AO.val rfl rfl (arw_ok rfl rfl rfl rfl) ?_
 refine AO.pu T ?_
 refine AO.nil ?_
 refine ⟨(k13, ((v40.set v41.toNat x51).set x47.toNat x49), w64 (v41 - 1)), hH, Nat.lt_succ_self _, ?_⟩
 exact Le.ct 0 0
 replace hH := condF hc hH
 refine AW.exit ?_
 refine AW.seq (AW.region ?_)
 iterate 2 refine AO.pu T ?_
 refine AO.nil (AW.ret ?_)
 cases someE hH
 exact retQ.i [4] rfl (.c (.c (.rowR rfl)))

def spec_dwNumbers_l1 (l : List Int) : List Int → Nat → List Int → Option ((List Int))
  | [], k3, v18 =>
    some v18
  | y4 :: ys5, k3, v18 =>
    (getI l y4).bind fun x20 =>
    (need (fitsB 8 (v18.length + ([x20]).length))).bind fun u22 =>
    spec_dwNumbers_l1 l ys5 (k3 + 1) (v18 ++ [x20])
def spec_dwNumbers_p (fuel : Nat) (keys : List Int) (l : List Int) : Option (List Int) :=
  (spec_dwShuffle_p fuel keys (l.length : Int)).bind fun x1 =>
  spec_dwNumbers_l1 l x1 0 []
theorem spec_dwNumbers_ok (fuel : Nat) (keys : List Int) (l : List Int) (r : (List Int)) (hH : spec_dwNumbers_p fuel keys l = some r) : SpecR Try.prog 62 [.s (List.map encInt keys), .s (List.map encInt l)] (.w 1 (r.map encInt)) := by
 refine fn_ok T Try.func62 rfl (by decide) rfl ?_
 refine AW.seq (AW.region ?_)
 refine AO.pu T ?_
 refine AO.nil (AW.seq ?_)
 refine AW.region ?_
 refine AO.pu T ?_
 refine AO.nil ?_
 iterate 2 refine AW.seq ?_
 obtain ⟨x1, hx2, hH⟩ := bindE hH
 refine AW.region ?_
 iterate 2 refine AO.pu T ?_
 refine AO.val rfl rfl (len_map_ok T rfl rfl rfl) ?_
 refine AO.step rfl (call_ok rfl 1 rfl rfl rfl (spec_dwShuffle_ok fuel _ _ _ (hx2)) rfl rfl rfl) ?_
 refine AO.val rfl rfl (len_row_ok T rfl rfl rfl rfl) ?_
 refine AO.pu T ?_
 refine AO.nil ?_
 refine AW.block ?_
 refine AW.loopS (fun s : Nat × (List Int) => (⟨[(1, .s (List.map encInt l)), (5, .R 5), (11, .R 1), (12, (x1.length : Int)), (13, (s.1 : Int))], [(1, .row 1 (List.map encInt x1)), (5, .row 1 (List.map encInt s.2))], 26, []⟩ : St)) (fun s => s.1 ≤ x1.length ∧ spec_dwNumbers_l1 l (x1.drop s.1) s.1 s.2 = some r) (fun s => x1.length - s.1) (0, []) ⟨Nat.zero_le _, hH⟩ ?_ ?_
 refine Le.trans (Le.void 5 5 1 rfl rfl) ?_
 exact Le.ct 0 0
 rintro ⟨k3, v18⟩ ⟨hk, hH⟩
 replace hH : spec_dwNumbers_l1 l (x1.drop k3) k3 v18 = some r := hH
 try dsimp only
 refine AW.boundR (id := 1) (l := x1) rfl (fun hb7 => ?_)
 rcases hd6 : x1.drop k3 with _ | ⟨y4, ys5⟩
 rw [hd6, spec_dwNumbers_l1] at hH
 have hlt8 := drop_ge hd6
 refine AW.seq (AW.region ?_)
 refine AO.pu T ?_
 refine AO.nil (AW.seq ?_)
 refine AW.condF' (b := decide ((k3 : Int) < (x1.length : Int))) rfl (rngF hlt8) ?_
 refine AW.exit ?_
 refine AW.seq (AW.region ?_)
 iterate 2 refine AO.pu T ?_
 refine AO.nil (AW.ret ?_)
 cases someE hH
 exact retQ.i [5] rfl (.c (.c (.rowR rfl)))
 rw [hd6, spec_dwNumbers_l1] at hH
 have hlt8 := drop_lt hd6
 refine AW.seq (AW.region ?_)
 refine AO.pu T ?_
 refine AO.nil (AW.seq ?_)
 refine AW.condT' (b := decide ((k3 : Int) < (x1.length : Int))) rfl (rngT hlt8) ?_
 refine AW.skip ?_
 refine AW.seq ?_
 refine AW.block ?_
 refine AW.seq (AW.region ?_)
 refine AO.val rfl rfl (ix_row_ok T rfl rfl rfl rfl rfl rfl (getI_drop hd6)) ?_
 refine AO.val rfl rfl (load_row_ok T rfl rfl rfl rfl (getI_get (getI_drop hd6)) rfl rfl rfl) ?_
 refine AO.pu T ?_
 refine AO.nil ?_
 obtain ⟨x20, hx21, hH⟩ := bindE hH
 obtain ⟨u22, hx23, hH⟩ := bindE hH
 refine AW.region ?_
 iterate 3 refine AO.pu T ?_
 refine AO.val rfl rfl (ix_map_ok T rfl rfl rfl rfl rfl (hx21) rfl) ?_
 refine AO.pu T ?_
 refine AO.step rfl (mk_map_ok T rfl 6 rfl rfl rfl rfl rfl (f := encInt) (l := [x20]) rfl rfl (fun _ => rfl) rfl rfl rfl rfl rfl) ?_
 refine AO.step rfl (app_rv_map T rfl 7 rfl rfl rfl rfl rfl (by decide) rfl rfl rfl rfl (fun _ => rfl) (needT (hx23)) rfl rfl) ?_
 refine AO.pu T ?_
 refine AO.nil ?_
 refine AW.region ?_
 refine AO.val rfl rfl (ar_ok rfl rfl rfl rfl (inI_succ hlt8 hb7)) ?_
 refine AO.pu T ?_
 refine AO.nil ?_
 refine ⟨(k3 + 1, (v18 ++ [x20])), ⟨Nat.succ_le_of_lt hlt8, (by rw [drop_succ_of hd6]; exact hH)⟩, (by have := hlt8; dsimp only; omega), ?_⟩
 exact Le.ct 7 5

def spec_paOrder_p (fuel : Nat) (keys : List Int) (l : List Official) (clubs : List Int) (level : Int) : Option (List Int) :=
  (spec_paEligible_p fuel l clubs level).bind fun x1 =>
  (spec_dwNumbers_p fuel keys x1).bind fun x3 =>
  some x3
theorem spec_paOrder_ok (fuel : Nat) (keys : List Int) (l : List Official) (clubs : List Int) (level : Int) (r : (List Int)) (hH : spec_paOrder_p fuel keys l clubs level = some r) : SpecR Try.prog 73 [.s (List.map encInt keys), .s (List.map encOfficial l), .s (List.map encInt clubs), level] (.w 1 (r.map encInt)) := by
 refine fn_ok T Try.func73 rfl (by decide) rfl ?_
 refine AW.seq (AW.region ?_)
 refine AO.pu T ?_
 refine AO.nil (AW.seq ?_)
 obtain ⟨x1, hx2, hH⟩ := bindE hH
 obtain ⟨x3, hx4, hH⟩ := bindE hH
 refine AW.region ?_
 iterate 4 refine AO.pu T ?_
 refine AO.val rfl rfl (callV_ok rfl rfl rfl rfl (spec_paEligible_ok fuel _ _ _ _ (hx2)) rfl) ?_
 refine AO.step rfl (call_ok rfl 1 rfl rfl rfl (spec_dwNumbers_ok fuel _ _ _ (hx4)) rfl rfl rfl) ?_
 refine AO.pu T ?_
 refine AO.nil (AW.ret ?_)
 cases someE hH
 exact retQ.i [1] rfl (.c (.c (.rowR rfl)))

def spec_paWithout_l1 (gone : Int) : List Int → Nat → List Int → Option ((List Int))
  | [], k1, v12 =>
    some v12
  | y2 :: ys3, k1, v12 =>
    cond (y2 != gone)
      ((need (fitsB 8 (v12.length + ([y2]).length))).bind fun u14 =>
      spec_paWithout_l1 gone ys3 (k1 + 1) (v12 ++ [y2]))
      (spec_paWithout_l1 gone ys3 (k1 + 1) v12)
def spec_paWithout_p (l : List Int) (gone : Int) : Option (List Int) :=
  spec_paWithout_l1 gone l 0 []
theorem spec_paWithout_ok (l : List Int) (gone : Int) (r : (List Int)) (hH : spec_paWithout_p l gone = some r) : SpecR Try.prog 80 [.s (List.map encInt l), gone] (.w 1 (r.map encInt)) := by
 refine fn_ok T Try.func80 rfl (by decide) rfl ?_
 refine AW.seq (AW.region ?_)
 refine AO.pu T ?_
 refine AO.nil (AW.seq ?_)
 refine AW.region ?_
 refine AO.pu T ?_
 refine AO.nil ?_
 iterate 2 refine AW.seq ?_
 refine AW.region ?_
 refine AO.pu T ?_
 refine AO.val rfl rfl (len_map_ok T rfl rfl rfl) ?_
 refine AO.pu T ?_
 refine AO.nil ?_
 refine AW.block ?_
 refine AW.loopS (fun s : Nat × (List Int) => (⟨[(1, gone), (5, .R 4), (8, .s (List.map encInt l)), (9, (l.length : Int)), (10, (s.1 : Int))], [(4, .row 1 (List.map encInt s.2))], 23, []⟩ : St)) (fun s => s.1 ≤ l.length ∧ spec_paWithout_l1 gone (l.drop s.1) s.1 s.2 = some r) (fun s => l.length - s.1) (0, []) ⟨Nat.zero_le _, hH⟩ ?_ ?_
 refine Le.trans (Le.void 5 4 1 rfl rfl) ?_
 exact Le.ct 0 0
 rintro ⟨k1, v12⟩ ⟨hk, hH⟩
 replace hH : spec_paWithout_l1 gone (l.drop k1) k1 v12 = some r := hH
 try dsimp only
 refine AW.boundM (t := 8) (l := l) rfl (fun hb5 => ?_)
 rcases hd4 : l.drop k1 with _ | ⟨y2, ys3⟩
 rw [hd4, spec_paWithout_l1] at hH
 have hlt6 := drop_ge hd4
 refine AW.seq (AW.region ?_)
 refine AO.pu T ?_
 refine AO.nil (AW.seq ?_)
 refine AW.condF' (b := decide ((k1 : Int) < (l.length : Int))) rfl (rngF hlt6) ?_
 refine AW.exit ?_
 refine AW.seq (AW.region ?_)
 iterate 2 refine AO.pu T ?_
 refine AO.nil (AW.ret ?_)
 cases someE hH
 exact retQ.i [4] rfl (.c (.c (.rowR rfl)))
 rw [hd4, spec_paWithout_l1] at hH
 have hlt6 := drop_lt hd4
 refine AW.seq (AW.region ?_)
 refine AO.pu T ?_
 refine AO.nil (AW.seq ?_)
 refine AW.condT' (b := decide ((k1 : Int) < (l.length : Int))) rfl (rngT hlt6) ?_
 refine AW.skip ?_
 refine AW.seq ?_
 refine AW.block ?_
 refine AW.seq (AW.region ?_)
 refine AO.val rfl rfl (ix_map_ok T rfl rfl rfl rfl rfl (getI_drop hd4) rfl) ?_
 iterate 2 refine AO.pu T ?_
 refine AO.nil (AW.seq ?_)
 refine AW.region ?_
 iterate 3 refine AO.pu T ?_
 refine AO.nil ?_
 refine AW.cond (b := (y2 != gone)) rfl (fun hc => ?_) (fun hc => ?_)
 replace hH := condT hc hH
 obtain ⟨u14, hx15, hH⟩ := bindE hH
 refine AW.region ?_
 iterate 2 refine AO.pu T ?_
 refine AO.step rfl (mk_map_ok T rfl 5 rfl rfl rfl rfl rfl (f := encInt) (l := [y2]) rfl rfl (fun _ => rfl) rfl rfl rfl rfl rfl) ?_
 refine AO.step rfl (app_rv_map T rfl 6 rfl rfl rfl rfl rfl (by decide) rfl rfl rfl rfl (fun _ => rfl) (needT (hx15)) rfl rfl) ?_
 refine AO.pu T ?_
 refine AO.nil ?_
 refine AW.region ?_
 refine AO.val rfl rfl (ar_ok rfl rfl rfl rfl (inI_succ hlt6 hb5)) ?_
 refine AO.pu T ?_
 refine AO.nil ?_
 refine ⟨(k1 + 1, (v12 ++ [y2])), ⟨Nat.succ_le_of_lt hlt6, (by rw [drop_succ_of hd4]; exact hH)⟩, (by have := hlt6; dsimp only; omega), ?_⟩
 exact Le.ct 6 4
 replace hH := condF hc hH
 refine AW.skip ?_
 refine AW.region ?_
 refine AO.val rfl rfl (ar_ok rfl rfl rfl rfl (inI_succ hlt6 hb5)) ?_
 refine AO.pu T ?_
 refine AO.nil ?_
 refine ⟨(k1 + 1, v12), ⟨Nat.succ_le_of_lt hlt6, (by rw [drop_succ_of hd4]; exact hH)⟩, (by have := hlt6; dsimp only; omega), ?_⟩
 exact Le.ct 0 0

def spec_ReplaceJudge_l1 (l : List Official) (clubs : List Int) (level : Int) (most : Int) (panel : List Int) (gone : Int) (fuel : Nat) : List Int → Nat → Option (((List Int) × Bool))
  | [], k13 =>
    some ([], false)
  | y14 :: ys15, k13 =>
    (spec_l1Has_p panel y14).bind fun x36 =>
    cond x36
      (spec_ReplaceJudge_l1 l clubs level most panel gone fuel ys15 (k13 + 1))
      ((spec_paWithout_p panel gone).bind fun x38 =>
      (spec_l1Put_p fuel x38 y14).bind fun x40 =>
      (spec_paIs_p fuel l clubs level most x40).bind fun x42 =>
      cond x42
        (some (x40, true))
        (spec_ReplaceJudge_l1 l clubs level most panel gone fuel ys15 (k13 + 1)))
def spec_ReplaceJudge_p (fuel : Nat) (keys : List Int) (l : List Official) (clubs : List Int) (level : Int) (most : Int) (panel : List Int) (gone : Int) : Option ((List Int) × Bool) :=
  (spec_dwKeys_p keys 6).bind fun x1 =>
  (opt (!(!x1)) default (spec_paAsked_p l clubs level)).bind fun x3 =>
  (opt (!((!x1) || (!x3))) default (spec_paMost_p most)).bind fun x5 =>
  (opt (!(((!x1) || (!x3)) || (!x5))) default (spec_paIs_p fuel l clubs level most panel)).bind fun x7 =>
  (opt (!((((!x1) || (!x3)) || (!x5)) || (!x7))) default (spec_l1Has_p panel gone)).bind fun x9 =>
  cond (((((!x1) || (!x3)) || (!x5)) || (!x7)) || (!x9))
    (some ([], false))
    ((spec_paOrder_p fuel keys l clubs level).bind fun x11 =>
    spec_ReplaceJudge_l1 l clubs level most panel gone fuel x11 0)
theorem spec_ReplaceJudge_ok (fuel : Nat) (keys : List Int) (l : List Official) (clubs : List Int) (level : Int) (most : Int) (panel : List Int) (gone : Int) (r : ((List Int) × Bool)) (hH : spec_ReplaceJudge_p fuel keys l clubs level most panel gone = some r) : SpecR Try.prog 23 [.s (List.map encInt keys), .s (List.map encOfficial l), .s (List.map encInt clubs), level, most, .s (List.map encInt panel), gone] (.t [.s (r.1.map encInt), .v (.bool r.2)]) := by
 refine fn_ok T Try.func23 rfl (by decide) rfl ?_
 refine AW.seq (AW.region ?_)
 iterate 2 refine AO.pu T ?_
 refine AO.nil ?_
 iterate 2 refine AW.seq ?_
 obtain ⟨x1, hx2, hH⟩ := bindE hH
 obtain ⟨x3, hx4, hH⟩ := bindE hH
 obtain ⟨x5, hx6, hH⟩ := bindE hH
 obtain ⟨x7, hx8, hH⟩ := bindE hH
 obtain ⟨x9, hx10, hH⟩ := bindE hH
 refine AW.region ?_
 refine AO.pu T ?_
 refine AO.val rfl rfl (callV_ok rfl rfl rfl rfl (spec_dwKeys_ok _ _ _ (hx2)) rfl) ?_
 iterate 2 refine AO.pu T ?_
 iterate 3 refine AO.pureG T [] rfl trivial rfl rfl ?_
 refine AO.guard [23, 24, 25] rfl ⟨fun h => h, fun h => h, fun h => h, trivial⟩ (fun hg => callV_ok rfl rfl rfl rfl (spec_paAsked_ok _ _ _ _ (optT hx4 hg)) rfl) rfl ?_
 refine AO.pureG T [26] rfl ⟨fun h => h, trivial⟩ rfl rfl ?_
 refine AO.val rfl rfl (pick_or rfl rfl rfl rfl) ?_
 refine AO.pu T ?_
 refine AO.pureG T [] rfl trivial rfl rfl ?_
 refine AO.guard [30] rfl ⟨fun h => h, trivial⟩ (fun hg => callV_ok rfl rfl rfl rfl (spec_paMost_ok _ _ (optT hx6 hg)) rfl) rfl ?_
 refine AO.pureG T [31] rfl ⟨fun h => h, trivial⟩ rfl rfl ?_
 refine AO.val rfl rfl (pick_or rfl rfl rfl rfl) ?_
 refine AO.pu T ?_
 iterate 5 refine AO.pureG T [] rfl trivial rfl rfl ?_
 refine AO.guard [35, 36, 37, 38, 39] rfl ⟨fun h => h, fun h => h, fun h => h, fun h => h, fun h => h, trivial⟩ (fun hg => callV_ok rfl rfl rfl rfl (spec_paIs_ok fuel _ _ _ _ _ _ (optT hx8 hg)) rfl) rfl ?_
 refine AO.pureG T [40] rfl ⟨fun h => h, trivial⟩ rfl rfl ?_
 refine AO.val rfl rfl (pick_or rfl rfl rfl rfl) ?_
 refine AO.pu T ?_
 iterate 2 refine AO.pureG T [] rfl trivial rfl rfl ?_
 refine AO.guard [44, 45] rfl ⟨fun h => h, fun h => h, trivial⟩ (fun hg => callV_ok rfl rfl rfl rfl (spec_l1Has_ok _ _ _ (optT hx10 hg)) rfl) rfl ?_
 refine AO.pureG T [46] rfl ⟨fun h => h, trivial⟩ rfl rfl ?_
 refine AO.val rfl rfl (pick_or rfl rfl rfl rfl) ?_
 refine AO.nil ?_
 refine AW.le (Le.ct 0 0 (σ' := (⟨[(0, .s (List.map encInt keys)), (1, .s (List.map encOfficial l)), (2, .s (List.map encInt clubs)), (3, level), (4, most), (5, .s (List.map encInt panel)), (6, gone), (48, .v (.bool (((((!x1) || (!x3)) || (!x5)) || (!x7)) || (!x9))))], [], 75, []⟩ : St))) ?_
 refine AW.cond (b := (((((!x1) || (!x3)) || (!x5)) || (!x7)) || (!x9))) rfl (fun hc => ?_) (fun hc => ?_)
 replace hH := condT hc hH
 refine AW.seq (AW.region ?_)
 iterate 2 refine AO.pu T ?_
 refine AO.nil (AW.ret ?_)
 cases someE hH
 exact retQ.i [] rfl (.t (expLG_cons (.c .nilS) (expLG_cons (.c .v) (expLG_nil))))
 replace hH := condF hc hH
 refine AW.skip ?_
 iterate 2 refine AW.seq ?_
 obtain ⟨x11, hx12, hH⟩ := bindE hH
 refine AW.region ?_
 iterate 4 refine AO.pu T ?_
 refine AO.step rfl (call_ok rfl 1 rfl rfl rfl (spec_paOrder_ok fuel _ _ _ _ _ (hx12)) rfl rfl rfl) ?_
 refine AO.val rfl rfl (len_row_ok T rfl rfl rfl rfl) ?_
 refine AO.pu T ?_
 refine AO.nil ?_
 refine AW.block ?_
 refine AW.loopS (fun s : Nat => (⟨[(1, .s (List.map encOfficial l)), (2, .s (List.map encInt clubs)), (3, level), (4, most), (5, .s (List.map encInt panel)), (6, gone), (53, .R 1), (54, (x11.length : Int)), (55, (s : Int))], [(1, .row 1 (List.map encInt x11))], 75, []⟩ : St)) (fun s => s ≤ x11.length ∧ spec_ReplaceJudge_l1 l clubs level most panel gone fuel (x11.drop s) s = some r) (fun s => x11.length - s) 0 ⟨Nat.zero_le _, hH⟩ ?_ ?_
 exact Le.ct 0 0
 rintro k13 ⟨hk, hH⟩
 replace hH : spec_ReplaceJudge_l1 l clubs level most panel gone fuel (x11.drop k13) k13 = some r := hH
 try dsimp only
 refine AW.boundR (id := 1) (l := x11) rfl (fun hb17 => ?_)
 rcases hd16 : x11.drop k13 with _ | ⟨y14, ys15⟩
 rw [hd16, spec_ReplaceJudge_l1] at hH
 have hlt18 := drop_ge hd16
 refine AW.seq (AW.region ?_)
 refine AO.pu T ?_
 refine AO.nil (AW.seq ?_)
 refine AW.condF' (b := decide ((k13 : Int) < (x11.length : Int))) rfl (rngF hlt18) ?_
 refine AW.exit ?_
 refine AW.seq (AW.region ?_)
 iterate 2 refine AO.pu T ?_
 refine AO.nil (AW.ret ?_)
 cases someE hH
 exact retQ.i [] rfl (.t (expLG_cons (.c .nilS) (expLG_cons (.c .v) (expLG_nil))))
 rw [hd16, spec_ReplaceJudge_l1] at hH
 have hlt18 := drop_lt hd16
 refine AW.seq (AW.region ?_)
 refine AO.pu T ?_
 refine AO.nil (AW.seq ?_)
 refine AW.condT' (b := decide ((k13 : Int) < (x11.length : Int))) rfl (rngT hlt18) ?_
 refine AW.skip ?_
 refine AW.seq ?_
 refine AW.block ?_
 refine AW.seq (AW.region ?_)
 refine AO.val rfl rfl (ix_row_ok T rfl rfl rfl rfl rfl rfl (getI_drop hd16)) ?_
 refine AO.val rfl rfl (load_row_ok T rfl rfl rfl rfl (getI_get (getI_drop hd16)) rfl rfl rfl) ?_
 refine AO.pu T ?_
 refine AO.nil ?_
 iterate 2 refine AW.seq ?_
 obtain ⟨x36, hx37, hH⟩ := bindE hH
 refine AW.region ?_
 iterate 2 refine AO.pu T ?_
 refine AO.val rfl rfl (callV_ok rfl rfl rfl rfl (spec_l1Has_ok _ _ _ (hx37)) rfl) ?_
 refine AO.nil ?_
 refine AW.cond (b := x36) rfl (fun hc => ?_) (fun hc => ?_)
 replace hH := condT hc hH
 refine AW.exit ?_
 refine AW.region ?_
 refine AO.val rfl rfl (ar_ok rfl rfl rfl rfl (inI_succ hlt18 hb17)) ?_
 refine AO.pu T ?_
 refine AO.nil ?_
 refine ⟨k13 + 1, ⟨Nat.succ_le_of_lt hlt18, (by rw [drop_succ_of hd16]; exact hH)⟩, (by have := hlt18; dsimp only; omega), ?_⟩
 exact Le.ct 0 0
 replace hH := condF hc hH
 refine AW.skip ?_
 refine AW.seq ?_
 obtain ⟨x38, hx39, hH⟩ := bindE hH
 obtain ⟨x40, hx41, hH⟩ := bindE hH
 refine AW.region ?_
 iterate 2 refine AO.pu T ?_
 refine AO.val rfl rfl (callF_ok rfl rfl rfl rfl (spec_paWithout_ok _ _ _ (hx39)) (.c (.c (.map fun y => .vs rfl)))) ?_
 refine AO.pu T ?_
 refine AO.val rfl rfl (callV_ok rfl rfl rfl rfl (spec_l1Put_ok fuel _ _ _ (hx41)) rfl) ?_
 refine AO.pu T ?_
 refine AO.nil (AW.seq ?_)
 obtain ⟨x42, hx43, hH⟩ := bindE hH
 refine AW.region ?_
 iterate 5 refine AO.pu T ?_
 refine AO.val rfl rfl (callV_ok rfl rfl rfl rfl (spec_paIs_ok fuel _ _ _ _ _ _ (hx43)) rfl) ?_
 refine AO.nil ?_
 refine AW.cond (b := x42) rfl (fun hc => ?_) (fun hc => ?_)
 replace hH := condT hc hH
 refine AW.seq (AW.region ?_)
 iterate 3 refine AO.pu T ?_
 refine AO.nil (AW.ret ?_)
 cases someE hH
 exact retQ.i [] rfl (.t (expLG_cons (.c .s) (expLG_cons (.c .v) (expLG_nil))))
 replace hH := condF hc hH
 refine AW.skip ?_
 refine AW.region ?_
 refine AO.val rfl rfl (ar_ok rfl rfl rfl rfl (inI_succ hlt18 hb17)) ?_
 refine AO.pu T ?_
 refine AO.nil ?_
 refine ⟨k13 + 1, ⟨Nat.succ_le_of_lt hlt18, (by rw [drop_succ_of hd16]; exact hH)⟩, (by have := hlt18; dsimp only; omega), ?_⟩
 exact Le.ct 0 0

def impl_within_p (n : Int) (low : Int) (high : Int) : Option Bool :=
  some (decide (n ≥ low) && decide (n ≤ high))
theorem impl_within_ok (n : Int) (low : Int) (high : Int) (r : Bool) (hH : impl_within_p n low high = some r) : SpecR Try.prog 67 [n, low, high] (.v (.bool r)) := by
 refine fn_ok T Try.func67 rfl (by decide) rfl ?_
 refine AW.seq (AW.region ?_)
 refine AO.pu T ?_
 refine AO.nil (AW.seq ?_)
 refine AW.region ?_
 iterate 4 refine AO.pu T ?_
 iterate 2 refine AO.pureG T [] rfl trivial rfl rfl ?_
 refine AO.pureG T [11, 12] rfl ⟨fun h => h, fun h => h, trivial⟩ rfl rfl ?_
 refine AO.val rfl rfl (pick_and rfl rfl rfl rfl) ?_
 refine AO.pu T ?_
 refine AO.nil (AW.ret ?_)
 cases someE hH
 exact retQ.i [] rfl (.c (.c .v))

def impl_allWithin_l1 (low : Int) (high : Int) : List Int → Nat → Option Bool
  | [], k1 =>
    some true
  | y2 :: ys3, k1 =>
    (impl_within_p y2 low high).bind fun x12 =>
    cond (!x12)
      (some false)
      (impl_allWithin_l1 low high ys3 (k1 + 1))
def impl_allWithin_p (l : List Int) (low : Int) (high : Int) : Option Bool :=
  impl_allWithin_l1 low high l 0
theorem impl_allWithin_ok (l : List Int) (low : Int) (high : Int) (r : Bool) (hH : impl_allWithin_p l low high = some r) : SpecR Try.prog 104 [.s (List.map encInt l), low, high] (.v (.bool r)) := by
 refine fn_ok T Try.func104 rfl (by decide) rfl ?_
 refine AW.seq (AW.region ?_)
 refine AO.pu T ?_
 refine AO.nil ?_
 iterate 2 refine AW.seq ?_
 refine AW.region ?_
 refine AO.pu T ?_
 refine AO.val rfl rfl (len_map_ok T rfl rfl rfl) ?_
 refine AO.pu T ?_
 refine AO.nil ?_
 refine AW.block ?_
 refine AW.loopS (fun s : Nat => (⟨[(1, low), (2, high), (9, .s (List.map encInt l)), (10, (l.length : Int)), (11, (s : Int))], [], 21, []⟩ : St)) (fun s => s ≤ l.length ∧ impl_allWithin_l1 low high (l.drop s) s = some r) (fun s => l.length - s) 0 ⟨Nat.zero_le _, hH⟩ ?_ ?_
 exact Le.ct 0 0
 rintro k1 ⟨hk, hH⟩
 replace hH : impl_allWithin_l1 low high (l.drop k1) k1 = some r := hH
 try dsimp only
 refine AW.boundM (t := 9) (l := l) rfl (fun hb5 => ?_)
 rcases hd4 : l.drop k1 with _ | ⟨y2, ys3⟩
 rw [hd4, impl_allWithin_l1] at hH
 have hlt6 := drop_ge hd4
 refine AW.seq (AW.region ?_)
 refine AO.pu T ?_
 refine AO.nil (AW.seq ?_)
 refine AW.condF' (b := decide ((k1 : Int) < (l.length : Int))) rfl (rngF hlt6) ?_
 refine AW.exit ?_
 refine AW.seq (AW.region ?_)
 refine AO.pu T ?_
 refine AO.nil (AW.ret ?_)
 cases someE hH
 exact retQ.i [] rfl (.c (.c .v))
 rw [hd4, impl_allWithin_l1] at hH
 have hlt6 := drop_lt hd4
 refine AW.seq (AW.region ?_)
 refine AO.pu T ?_
 refine AO.nil (AW.seq ?_)
 refine AW.condT' (b := decide ((k1 : Int) < (l.length : Int))) rfl (rngT hlt6) ?_
 refine AW.skip ?_
 refine AW.seq ?_
 refine AW.block ?_
 refine AW.seq (AW.region ?_)
 refine AO.val rfl rfl (ix_map_ok T rfl rfl rfl rfl rfl (getI_drop hd4) rfl) ?_
 iterate 2 refine AO.pu T ?_
 refine AO.nil (AW.seq ?_)
 obtain ⟨x12, hx13, hH⟩ := bindE hH
 refine AW.region ?_
 iterate 3 refine AO.pu T ?_
 refine AO.val rfl rfl (callV_ok rfl rfl rfl rfl (impl_within_ok _ _ _ _ (hx13)) rfl) ?_
 refine AO.pu T ?_
 refine AO.nil ?_
 refine AW.cond (b := (!x12)) rfl (fun hc => ?_) (fun hc => ?_)
 replace hH := condT hc hH
 refine AW.seq (AW.region ?_)
 refine AO.pu T ?_
 refine AO.nil (AW.ret ?_)
 cases someE hH
 exact retQ.i [] rfl (.c (.c .v))
 replace hH := condF hc hH
 refine AW.skip ?_
 refine AW.region ?_
 refine AO.val rfl rfl (ar_ok rfl rfl rfl rfl (inI_succ hlt6 hb5)) ?_
 refine AO.pu T ?_
 refine AO.nil ?_
 refine ⟨k1 + 1, ⟨Nat.succ_le_of_lt hlt6, (by rw [drop_succ_of hd4]; exact hH)⟩, (by have := hlt6; dsimp only; omega), ?_⟩
 exact Le.ct 0 0

def impl_areKeys_p (keys : List Int) (most : Int) : Option Bool :=
  (opt (decide ((keys.length : Int) ≤ most)) default (impl_allWithin_p keys 0 1000000000)).bind fun x1 =>
  some (decide ((keys.length : Int) ≤ most) && x1)
theorem impl_areKeys_ok (keys : List Int) (most : Int) (r : Bool) (hH : impl_areKeys_p keys most = some r) : SpecR Try.prog 64 [.s (List.map encInt keys), most] (.v (.bool r)) := by
 refine fn_ok T Try.func64 rfl (by decide) rfl ?_
 refine AW.seq (AW.region ?_)
 refine AO.pu T ?_
 refine AO.nil (AW.seq ?_)
 obtain ⟨x1, hx2, hH⟩ := bindE hH
 refine AW.region ?_
 refine AO.pu T ?_
 refine AO.val rfl rfl (len_map_ok T rfl rfl rfl) ?_
 iterate 3 refine AO.pu T ?_
 refine AO.pureG T [] rfl trivial rfl rfl ?_
 refine AO.guard [10] rfl ⟨fun h => h, trivial⟩ (fun hg => callV_ok rfl rfl rfl rfl (impl_allWithin_ok _ _ _ _ (optT hx2 hg)) rfl) rfl ?_
 refine AO.val rfl rfl (pick_and rfl rfl rfl rfl) ?_
 refine AO.pu T ?_
 refine AO.nil (AW.ret ?_)
 cases someE hH
 exact retQ.i [] rfl (.c (.c .v))

def impl_isSkater_p (skater : Int) : Option Bool :=
  (impl_within_p skater 1 999).bind fun x1 =>
  some x1
theorem impl_isSkater_ok (skater : Int) (r : Bool) (hH : impl_isSkater_p skater = some r) : SpecR Try.prog 115 [skater] (.v (.bool r)) := by
 refine fn_ok T Try.func115 rfl (by decide) rfl ?_
 refine AW.seq (AW.region ?_)
 refine AO.pu T ?_
 refine AO.nil (AW.seq ?_)
 obtain ⟨x1, hx2, hH⟩ := bindE hH
 refine AW.region ?_
 refine AO.pu T ?_
 refine AO.val rfl rfl (callV_ok rfl rfl rfl rfl (impl_within_ok _ _ _ _ (hx2)) rfl) ?_
 refine AO.pu T ?_
 refine AO.nil (AW.ret ?_)
 cases someE hH
 exact retQ.i [] rfl (.c (.c .v))

def slices_IndexFunc_Official_l1 (f : Official → Option Bool) : List Official → Nat → Option Int
  | [], k1 =>
    some (-1)
  | y2 :: ys3, k1 =>
    (f y2).bind fun x12 =>
    cond x12
      (some (k1 : Int))
      (slices_IndexFunc_Official_l1 f ys3 (k1 + 1))
def slices_IndexFunc_Official_p (sA : List Official) (f : Official → Option Bool) : Option Int :=
  slices_IndexFunc_Official_l1 f sA 0
theorem slices_IndexFunc_Official_ok (sA : List Official) (f_f : Nat) (f_c : List D) (f_k : f_c.all D.capOk = true) (f : Official → Option Bool) (f_h : ∀ (a0 : Official) (q : Bool), f a0 = some q → SpecR Try.prog f_f ([.g (encOfficial a0)] ++ f_c) (.v (.bool q))) (r : Int) (hH : slices_IndexFunc_Official_p sA f = some r) : SpecR Try.prog 138 [.s (List.map encOfficial sA), .f f_f f_c] (.v (.int .i64 r)) := by
 have f_r := cap_cfree f_k
 refine fn_ok T Try.func138 rfl (by decide) rfl ?_
 refine AW.seq (AW.region ?_)
 refine AO.pu T ?_
 refine AO.nil ?_
 iterate 2 refine AW.seq ?_
 refine AW.region ?_
 refine AO.pu T ?_
 refine AO.val rfl rfl (len_map_ok T rfl rfl rfl) ?_
 refine AO.pu T ?_
 refine AO.nil ?_
 refine AW.block ?_
 refine AW.loopS (fun s : Nat => (⟨[(0, .s (List.map encOfficial sA)), (1, .f f_f f_c), (7, (sA.length : Int)), (8, (s : Int))], [], 19, []⟩ : St)) (fun s => s ≤ sA.length ∧ slices_IndexFunc_Official_l1 f (sA.drop s) s = some r) (fun s => sA.length - s) 0 ⟨Nat.zero_le _, hH⟩ ?_ ?_
 exact Le.cut 0 0 rfl ⟨⟨_, rfl, rfl⟩, ⟨_, rfl, ren_fF f_r⟩, ⟨_, rfl, rfl⟩, ⟨_, rfl, rfl⟩, trivial⟩ (by repeat' (first | exact trivial | refine ⟨⟨_, rfl, rfl⟩, ?_⟩)) (andT (allC rfl (allC (known_fF f_r) (allC rfl (allC rfl allN)))) rfl)
 rintro k1 ⟨hk, hH⟩
 replace hH : slices_IndexFunc_Official_l1 f (sA.drop k1) k1 = some r := hH
 try dsimp only
 refine AW.boundM (t := 0) (l := sA) rfl (fun hb5 => ?_)
 rcases hd4 : sA.drop k1 with _ | ⟨y2, ys3⟩
 rw [hd4, slices_IndexFunc_Official_l1] at hH
 have hlt6 := drop_ge hd4
 refine AW.seq (AW.region ?_)
 refine AO.pu T ?_
 refine AO.nil (AW.seq ?_)
 refine AW.condF' (b := decide ((k1 : Int) < (sA.length : Int))) rfl (rngF hlt6) ?_
 refine AW.exit ?_
 refine AW.seq (AW.region ?_)
 refine AO.pu T ?_
 refine AO.nil (AW.ret ?_)
 cases someE hH
 exact retQ.i [] rfl (.c (.c .v))
 rw [hd4, slices_IndexFunc_Official_l1] at hH
 have hlt6 := drop_lt hd4
 refine AW.seq (AW.region ?_)
 refine AO.pu T ?_
 refine AO.nil (AW.seq ?_)
 refine AW.condT' (b := decide ((k1 : Int) < (sA.length : Int))) rfl (rngT hlt6) ?_
 refine AW.skip ?_
 refine AW.seq ?_
 refine AW.block ?_
 refine AW.seq (AW.region ?_)
 iterate 2 refine AO.pu T ?_
 refine AO.nil (AW.seq ?_)
 obtain ⟨x12, hx13, hH⟩ := bindE hH
 refine AW.region ?_
 iterate 3 refine AO.pu T ?_
 refine AO.val rfl rfl (ix_map_ok T rfl rfl rfl rfl rfl (getI_drop hd4) rfl) ?_
 refine AO.pu T (d := .g [y2.number, y2.club, y2.level]) ?_
 refine AO.val rfl rfl (callV_ok rfl rfl rfl (andT rfl (free_cfree f_r)) (f_h _ _ (hx13)) rfl) ?_
 refine AO.nil ?_
 refine AW.cond (b := x12) rfl (fun hc => ?_) (fun hc => ?_)
 replace hH := condT hc hH
 refine AW.seq (AW.region ?_)
 iterate 2 refine AO.pu T ?_
 refine AO.nil (AW.ret ?_)
 cases someE hH
 exact retQ.i [] rfl (.c (.c .v))
 replace hH := condF hc hH
 refine AW.skip ?_
 refine AW.region ?_
 refine AO.val rfl rfl (ar_ok rfl rfl rfl rfl (inI_succ hlt6 hb5)) ?_
 refine AO.pu T ?_
 refine AO.nil ?_
 refine ⟨k1 + 1, ⟨Nat.succ_le_of_lt hlt6, (by rw [drop_succ_of hd4]; exact hH)⟩, (by have := hlt6; dsimp only; omega), ?_⟩
 exact Le.cut 0 0 rfl ⟨⟨_, rfl, rfl⟩, ⟨_, rfl, ren_fF f_r⟩, ⟨_, rfl, rfl⟩, ⟨_, rfl, rfl⟩, trivial⟩ (by repeat' (first | exact trivial | refine ⟨⟨_, rfl, rfl⟩, ?_⟩)) (andT (allC rfl (allC (known_fF f_r) (allC rfl (allC rfl allN)))) rfl)

def slices_ContainsFunc_Official_p (sA : List Official) (f : Official → Option Bool) : Option Bool :=
  (slices_IndexFunc_Official_p sA f).bind fun x1 =>
  some (decide (x1 ≥ 0))
theorem slices_ContainsFunc_Official_ok (sA : List Official) (f_f : Nat) (f_c : List D) (f_k : f_c.all D.capOk = true) (f : Official → Option Bool) (f_h : ∀ (a0 : Official) (q : Bool), f a0 = some q → SpecR Try.prog f_f ([.g (encOfficial a0)] ++ f_c) (.v (.bool q))) (r : Bool) (hH : slices_ContainsFunc_Official_p sA f = some r) : SpecR Try.prog 116 [.s (List.map encOfficial sA), .f f_f f_c] (.v (.bool r)) := by
 have f_r := cap_cfree f_k
 refine fn_ok T Try.func116 rfl (by decide) rfl ?_
 refine AW.seq (AW.region ?_)
 refine AO.pu T ?_
 refine AO.nil (AW.seq ?_)
 obtain ⟨x1, hx2, hH⟩ := bindE hH
 refine AW.region ?_
 iterate 2 refine AO.pu T ?_
 refine AO.val rfl rfl (callV_ok rfl rfl rfl (andT (allC rfl (allC f_r allN)) rfl) (slices_IndexFunc_Official_ok _ f_f f_c f_k f f_h _ (hx2)) rfl) ?_
 iterate 2 refine AO.pu T ?_
 refine AO.nil (AW.ret ?_)
 cases someE hH
 exact retQ.i [] rfl (.c (.c .v))

def impl_AreOfficials_c1_p (y : Official) (a : Official) : Option Bool :=
  some (y.number == a.number)
theorem impl_AreOfficials_c1_ok (y : Official) (a : Official) (r : Bool) (hH : impl_AreOfficials_c1_p y a = some r) : SpecR Try.prog 117 [.g (encOfficial y), .q (encOfficial a)] (.v (.bool r)) := by
 refine fn_ok T Try.func117 rfl (by decide) rfl ?_
 refine AW.seq (AW.region ?_)
 refine AO.step rfl (box_ok T rfl 1 rfl rfl rfl rfl) ?_
 refine AO.pu T ?_
 refine AO.nil (AW.seq ?_)
 refine AW.region ?_
 iterate 6 refine AO.pu T ?_
 refine AO.nil (AW.ret ?_)
 cases someE hH
 exact retQ.i [] rfl (.c (.c .v))

def impl_AreOfficials_l1 (l : List Official) : List Official → Nat → Option Bool
  | [], k1 =>
    some (decide ((l.length : Int) ≤ 24))
  | y2 :: ys3, k1 =>
    (impl_isSkater_p y2.number).bind fun x28 =>
    (opt (!(!x28)) default (impl_within_p y2.club 1 20)).bind fun x30 =>
    (opt (!((!x28) || (!x30))) default (impl_within_p y2.level 1 3)).bind fun x32 =>
    cond (((!x28) || (!x30)) || (!x32))
      (some false)
      ((sliceHi l (k1 : Int)).bind fun x34 =>
      (slices_ContainsFunc_Official_p x34 (fun a0 => impl_AreOfficials_c1_p a0 y2)).bind fun x36 =>
      cond x36
        (some false)
        (impl_AreOfficials_l1 l ys3 (k1 + 1)))
def impl_AreOfficials_p (l : List Official) : Option Bool :=
  impl_AreOfficials_l1 l l 0
theorem impl_AreOfficials_ok (l : List Official) (r : Bool) (hH : impl_AreOfficials_p l = some r) : SpecR Try.prog 65 [.s (List.map encOfficial l)] (.v (.bool r)) := by
 refine fn_ok T Try.func65 rfl (by decide) rfl ?_
 refine AW.seq (AW.region ?_)
 refine AO.pu T ?_
 refine AO.nil ?_
 iterate 2 refine AW.seq ?_
 refine AW.region ?_
 refine AO.pu T ?_
 refine AO.val rfl rfl (len_map_ok T rfl rfl rfl) ?_
 refine AO.pu T ?_
 refine AO.nil ?_
 refine AW.block ?_
 refine AW.loopS (fun s : Nat => (⟨[(0, .s (List.map encOfficial l)), (5, .s (List.map encOfficial l)), (6, (l.length : Int)), (7, (s : Int))], [], 37, []⟩ : St)) (fun s => s ≤ l.length ∧ impl_AreOfficials_l1 l (l.drop s) s = some r) (fun s => l.length - s) 0 ⟨Nat.zero_le _, hH⟩ ?_ ?_
 exact Le.ct 0 0
 rintro k1 ⟨hk, hH⟩
 replace hH : impl_AreOfficials_l1 l (l.drop k1) k1 = some r := hH
 try dsimp only
 refine AW.boundM (t := 0) (l := l) rfl (fun hb5 => ?_)
 rcases hd4 : l.drop k1 with _ | ⟨y2, ys3⟩
 rw [hd4, impl_AreOfficials_l1] at hH
 have hlt6 := drop_ge hd4
 refine AW.seq (AW.region ?_)
 refine AO.pu T ?_
 refine AO.nil (AW.seq ?_)
 refine AW.condF' (b := decide ((k1 : Int) < (l.length : Int))) rfl (rngF hlt6) ?_
 refine AW.exit ?_
 refine AW.seq (AW.region ?_)
 refine AO.pu T ?_
 refine AO.val rfl rfl (len_map_ok T rfl rfl rfl) ?_
 iterate 2 refine AO.pu T ?_
 refine AO.nil (AW.ret ?_)
 cases someE hH
 exact retQ.i [] rfl (.c (.c .v))
 rw [hd4, impl_AreOfficials_l1] at hH
 have hlt6 := drop_lt hd4
 refine AW.seq (AW.region ?_)
 refine AO.pu T ?_
 refine AO.nil (AW.seq ?_)
 refine AW.condT' (b := decide ((k1 : Int) < (l.length : Int))) rfl (rngT hlt6) ?_
 refine AW.skip ?_
 refine AW.seq ?_
 refine AW.block ?_
 refine AW.seq (AW.region ?_)
 refine AO.pu T ?_
 refine AO.val rfl rfl (ix_map_ok T rfl rfl rfl rfl rfl (getI_drop hd4) rfl) ?_
 refine AO.pu T (d := .g [y2.number, y2.club, y2.level]) ?_
 refine AO.step rfl (alloc_ok T rfl 3 rfl rfl rfl rfl rfl) ?_
 refine AO.pu T ?_
 refine AO.se T [y2.number, y2.club, y2.level] ?_
 refine AO.nil ?_
 iterate 2 refine AW.seq ?_
 obtain ⟨x28, hx29, hH⟩ := bindE hH
 obtain ⟨x30, hx31, hH⟩ := bindE hH
 obtain ⟨x32, hx33, hH⟩ := bindE hH
 refine AW.region ?_
 iterate 2 refine AO.pu T ?_
 refine AO.val rfl rfl (callV_ok rfl rfl rfl rfl (impl_isSkater_ok _ _ (hx29)) rfl) ?_
 iterate 2 refine AO.pu T ?_
 refine AO.pureG T [] rfl trivial rfl rfl ?_
 refine AO.pureG T [17] rfl ⟨fun h => h, trivial⟩ rfl rfl ?_
 refine AO.guard [18] rfl ⟨fun h => h, trivial⟩ (fun hg => callV_ok rfl rfl rfl rfl (impl_within_ok _ _ _ _ (optT hx31 hg)) rfl) rfl ?_
 refine AO.pureG T [19] rfl ⟨fun h => h, trivial⟩ rfl rfl ?_
 refine AO.val rfl rfl (pick_or rfl rfl rfl rfl) ?_
 refine AO.pu T ?_
 refine AO.pureG T [] rfl trivial rfl rfl ?_
 refine AO.pureG T [23] rfl ⟨fun h => h, trivial⟩ rfl rfl ?_
 refine AO.guard [24] rfl ⟨fun h => h, trivial⟩ (fun hg => callV_ok rfl rfl rfl rfl (impl_within_ok _ _ _ _ (optT hx33 hg)) rfl) rfl ?_
 refine AO.pureG T [25] rfl ⟨fun h => h, trivial⟩ rfl rfl ?_
 refine AO.val rfl rfl (pick_or rfl rfl rfl rfl) ?_
 refine AO.nil ?_
 refine AW.cond (b := (((!x28) || (!x30)) || (!x32))) rfl (fun hc => ?_) (fun hc => ?_)
 replace hH := condT hc hH
 refine AW.seq (AW.region ?_)
 refine AO.pu T ?_
 refine AO.nil ?_
 refine AW.le (Le.ct 0 0 (σ' := (⟨[(2, .v (.bool false))], [], 37, []⟩ : St))) ?_
 refine AW.ret ?_
 cases someE hH
 exact retQ.i [] rfl (.c (.c .v))
 replace hH := condF hc hH
 refine AW.skip ?_
 refine AW.seq ?_
 obtain ⟨x34, hx35, hH⟩ := bindE hH
 obtain ⟨x36, hx37, hH⟩ := bindE hH
 refine AW.region ?_
 iterate 2 refine AO.pu T ?_
 refine AO.val rfl rfl (slice_hi_map_ok T rfl rfl rfl rfl rfl (hx35) (fun _ => rfl)) ?_
 refine AO.pu T ?_
 refine AO.val rfl rfl (callLV_ok rfl rfl rfl (es := [.s (List.map encOfficial x34), .f 117 [.q [y2.number, y2.club, y2.level]]]) ⟨.free rfl, lend_f (LendL.cons (Lend.boxF rfl rfl) LendL.nil), trivial⟩ (slices_ContainsFunc_Official_ok _ 117 [.q [y2.number, y2.club, y2.level]] rfl (fun a0 => impl_AreOfficials_c1_p a0 y2) (fun a0 q h => impl_AreOfficials_c1_ok a0 y2 q h) _ (hx37)) (zfree_v _) rfl) ?_
 refine AO.nil ?_
 refine AW.le (Le.ct 0 0 (σ' := (⟨[(0, .s (List.map encOfficial l)), (5, .s (List.map encOfficial l)), (6, (l.length : Int)), (7, (k1 : Int)), (32, .v (.bool x36))], [], 37, []⟩ : St))) ?_
 refine AW.cond (b := x36) rfl (fun hc => ?_) (fun hc => ?_)
 replace hH := condT hc hH
 refine AW.seq (AW.region ?_)
 refine AO.pu T ?_
 refine AO.nil (AW.ret ?_)
 cases someE hH
 exact retQ.i [] rfl (.c (.c .v))
 replace hH := condF hc hH
 refine AW.skip ?_
 refine AW.region ?_
 refine AO.val rfl rfl (ar_ok rfl rfl rfl rfl (inI_succ hlt6 hb5)) ?_
 refine AO.pu T ?_
 refine AO.nil ?_
 refine ⟨k1 + 1, ⟨Nat.succ_le_of_lt hlt6, (by rw [drop_succ_of hd4]; exact hH)⟩, (by have := hlt6; dsimp only; omega), ?_⟩
 exact Le.ct 0 0

def impl_isIncreasing_l1 (l : List Int) (n : Int) : List Int → Nat → Option Bool
  | [], k1 =>
    some true
  | y2 :: ys3, k1 =>
    (impl_within_p y2 0 (w64 (n - 1))).bind fun x16 =>
    (opt ((!(!x16)) && decide ((k1 : Int) > 0)) default (getI l (w64 ((k1 : Int) - 1)))).bind fun x18 =>
    cond ((!x16) || (decide ((k1 : Int) > 0) && decide (x18 ≥ y2)))
      (some false)
      (impl_isIncreasing_l1 l n ys3 (k1 + 1))
def impl_isIncreasing_p (l : List Int) (n : Int) : Option Bool :=
  impl_isIncreasing_l1 l n l 0
theorem impl_isIncreasing_ok (l : List Int) (n : Int) (r : Bool) (hH : impl_isIncreasing_p l n = some r) : SpecR Try.prog 124 [.s (List.map encInt l), n] (.v (.bool r)) := by
 refine fn_ok T Try.func124 rfl (by decide) rfl ?_
 refine AW.seq (AW.region ?_)
 refine AO.pu T ?_
 refine AO.nil ?_
 iterate 2 refine AW.seq ?_
 refine AW.region ?_
 refine AO.pu T ?_
 refine AO.val rfl rfl (len_map_ok T rfl rfl rfl) ?_
 refine AO.pu T ?_
 refine AO.nil ?_
 refine AW.block ?_
 refine AW.loopS (fun s : Nat => (⟨[(0, .s (List.map encInt l)), (1, n), (7, .s (List.map encInt l)), (8, (l.length : Int)), (9, (s : Int))], [], 33, []⟩ : St)) (fun s => s ≤ l.length ∧ impl_isIncreasing_l1 l n (l.drop s) s = some r) (fun s => l.length - s) 0 ⟨Nat.zero_le _, hH⟩ ?_ ?_
 exact Le.ct 0 0
 rintro k1 ⟨hk, hH⟩
 replace hH : impl_isIncreasing_l1 l n (l.drop k1) k1 = some r := hH
 try dsimp only
 refine AW.boundM (t := 0) (l := l) rfl (fun hb5 => ?_)
 rcases hd4 : l.drop k1 with _ | ⟨y2, ys3⟩
 rw [hd4, impl_isIncreasing_l1] at hH
 have hlt6 := drop_ge hd4
 refine AW.seq (AW.region ?_)
 refine AO.pu T ?_
 refine AO.nil (AW.seq ?_)
 refine AW.condF' (b := decide ((k1 : Int) < (l.length : Int))) rfl (rngF hlt6) ?_
 refine AW.exit ?_
 refine AW.seq (AW.region ?_)
 refine AO.pu T ?_
 refine AO.nil (AW.ret ?_)
 cases someE hH
 exact retQ.i [] rfl (.c (.c .v))
 rw [hd4, impl_isIncreasing_l1] at hH
 have hlt6 := drop_lt hd4
 refine AW.seq (AW.region ?_)
 refine AO.pu T ?_
 refine AO.nil (AW.seq ?_)
 refine AW.condT' (b := decide ((k1 : Int) < (l.length : Int))) rfl (rngT hlt6) ?_
 refine AW.skip ?_
 refine AW.seq ?_
 refine AW.block ?_
 refine AW.seq (AW.region ?_)
 refine AO.pu T ?_
 refine AO.val rfl rfl (ix_map_ok T rfl rfl rfl rfl rfl (getI_drop hd4) rfl) ?_
 iterate 3 refine AO.pu T ?_
 refine AO.nil (AW.seq ?_)
 obtain ⟨x16, hx17, hH⟩ := bindE hH
 obtain ⟨x18, hx19, hH⟩ := bindE hH
 refine AW.region ?_
 iterate 2 refine AO.pu T ?_
 refine AO.val rfl rfl (arw_ok rfl rfl rfl rfl) ?_
 refine AO.val rfl rfl (callV_ok rfl rfl rfl rfl (impl_within_ok _ _ _ _ (hx17)) rfl) ?_
 iterate 2 refine AO.pu T ?_
 refine AO.pureG T [] rfl trivial rfl rfl ?_
 refine AO.pureG T [20] rfl ⟨fun h => h, trivial⟩ rfl rfl ?_
 refine AO.pureG T [21] rfl ⟨fun h => h, trivial⟩ rfl rfl ?_
 iterate 2 refine AO.pureG T [] rfl trivial rfl rfl ?_
 refine AO.guard [24] rfl ⟨fun h => h, trivial⟩ (fun hg => arw_ok rfl rfl rfl rfl) rfl ?_
 refine AO.guard [23, 25] rfl ⟨fun h => h, fun h => h, trivial⟩ (fun hg => ix_map_ok T rfl rfl rfl rfl rfl (optT hx19 hg) rfl) rfl ?_
 refine AO.pureG T [26] rfl ⟨fun h => h, trivial⟩ rfl rfl ?_
 refine AO.pureG T [] rfl trivial rfl rfl ?_
 refine AO.pureG T [27, 28] rfl ⟨fun h => h, fun h => h, trivial⟩ rfl rfl ?_
 refine AO.guard [22] rfl ⟨fun h => h, trivial⟩ (fun hg => pick_and rfl rfl rfl (by rw [hg]; exact Bool.true_and _)) rfl ?_
 refine AO.val rfl rfl (pick_or rfl rfl rfl rfl) ?_
 refine AO.nil ?_
 refine AW.le (Le.ct 0 0 (σ' := (⟨[(0, .s (List.map encInt l)), (1, n), (7, .s (List.map encInt l)), (8, (l.length : Int)), (9, (k1 : Int)), (31, .v (.bool ((!x16) || (decide ((k1 : Int) > 0) && decide (x18 ≥ y2)))))], [], 33, []⟩ : St))) ?_
 refine AW.cond (b := ((!x16) || (decide ((k1 : Int) > 0) && decide (x18 ≥ y2)))) rfl (fun hc => ?_) (fun hc => ?_)
 replace hH := condT hc hH
 refine AW.seq (AW.region ?_)
 refine AO.pu T ?_
 refine AO.nil (AW.ret ?_)
 cases someE hH
 exact retQ.i [] rfl (.c (.c .v))
 replace hH := condF hc hH
 refine AW.skip ?_
 refine AW.region ?_
 refine AO.val rfl rfl (ar_ok rfl rfl rfl rfl (inI_succ hlt6 hb5)) ?_
 refine AO.pu T ?_
 refine AO.nil ?_
 refine ⟨k1 + 1, ⟨Nat.succ_le_of_lt hlt6, (by rw [drop_succ_of hd4]; exact hH)⟩, (by have := hlt6; dsimp only; omega), ?_⟩
 exact Le.ct 0 0

def slices_Index_int_l1 (v : Int) : List Int → Nat → Option Int
  | [], k1 =>
    some (-1)
  | y2 :: ys3, k1 =>
    cond (v == y2)
      (some (k1 : Int))
      (slices_Index_int_l1 v ys3 (k1 + 1))
def slices_Index_int_p (sA : List Int) (v : Int) : Option Int :=
  slices_Index_int_l1 v sA 0
theorem slices_Index_int_ok (sA : List Int) (v : Int) (r : Int) (hH : slices_Index_int_p sA v = some r) : SpecR Try.prog 126 [.s (List.map encInt sA), v] (.v (.int .i64 r)) := by
 refine fn_ok T Try.func126 rfl (by decide) rfl ?_
 refine AW.seq (AW.region ?_)
 refine AO.pu T ?_
 refine AO.nil ?_
 iterate 2 refine AW.seq ?_
 refine AW.region ?_
 refine AO.pu T ?_
 refine AO.val rfl rfl (len_map_ok T rfl rfl rfl) ?_
 refine AO.pu T ?_
 refine AO.nil ?_
 refine AW.block ?_
 refine AW.loopS (fun s : Nat => (⟨[(0, .s (List.map encInt sA)), (1, v), (7, (sA.length : Int)), (8, (s : Int))], [], 19, []⟩ : St)) (fun s => s ≤ sA.length ∧ slices_Index_int_l1 v (sA.drop s) s = some r) (fun s => sA.length - s) 0 ⟨Nat.zero_le _, hH⟩ ?_ ?_
 exact Le.ct 0 0
 rintro k1 ⟨hk, hH⟩
 replace hH : slices_Index_int_l1 v (sA.drop k1) k1 = some r := hH
 try dsimp only
 refine AW.boundM (t := 0) (l := sA) rfl (fun hb5 => ?_)
 rcases hd4 : sA.drop k1 with _ | ⟨y2, ys3⟩
 rw [hd4, slices_Index_int_l1] at hH
 have hlt6 := drop_ge hd4
 refine AW.seq (AW.region ?_)
 refine AO.pu T ?_
 refine AO.nil (AW.seq ?_)
 refine AW.condF' (b := decide ((k1 : Int) < (sA.length : Int))) rfl (rngF hlt6) ?_
 refine AW.exit ?_
 refine AW.seq (AW.region ?_)
 refine AO.pu T ?_
 refine AO.nil (AW.ret ?_)
 cases someE hH
 exact retQ.i [] rfl (.c (.c .v))
 rw [hd4, slices_Index_int_l1] at hH
 have hlt6 := drop_lt hd4
 refine AW.seq (AW.region ?_)
 refine AO.pu T ?_
 refine AO.nil (AW.seq ?_)
 refine AW.condT' (b := decide ((k1 : Int) < (sA.length : Int))) rfl (rngT hlt6) ?_
 refine AW.skip ?_
 refine AW.seq ?_
 refine AW.block ?_
 refine AW.seq (AW.region ?_)
 iterate 2 refine AO.pu T ?_
 refine AO.nil (AW.seq ?_)
 refine AW.region ?_
 iterate 3 refine AO.pu T ?_
 refine AO.val rfl rfl (ix_map_ok T rfl rfl rfl rfl rfl (getI_drop hd4) rfl) ?_
 iterate 2 refine AO.pu T ?_
 refine AO.nil ?_
 refine AW.cond (b := (v == y2)) rfl (fun hc => ?_) (fun hc => ?_)
 replace hH := condT hc hH
 refine AW.seq (AW.region ?_)
 iterate 2 refine AO.pu T ?_
 refine AO.nil (AW.ret ?_)
 cases someE hH
 exact retQ.i [] rfl (.c (.c .v))
 replace hH := condF hc hH
 refine AW.skip ?_
 refine AW.region ?_
 refine AO.val rfl rfl (ar_ok rfl rfl rfl rfl (inI_succ hlt6 hb5)) ?_
 refine AO.pu T ?_
 refine AO.nil ?_
 refine ⟨k1 + 1, ⟨Nat.succ_le_of_lt hlt6, (by rw [drop_succ_of hd4]; exact hH)⟩, (by have := hlt6; dsimp only; omega), ?_⟩
 exact Le.ct 0 0

def slices_Contains_int_p (sA : List Int) (v : Int) : Option Bool :=
  (slices_Index_int_p sA v).bind fun x1 =>
  some (decide (x1 ≥ 0))
theorem slices_Contains_int_ok (sA : List Int) (v : Int) (r : Bool) (hH : slices_Contains_int_p sA v = some r) : SpecR Try.prog 82 [.s (List.map encInt sA), v] (.v (.bool r)) := by
 refine fn_ok T Try.func82 rfl (by decide) rfl ?_
 refine AW.seq (AW.region ?_)
 refine AO.pu T ?_
 refine AO.nil (AW.seq ?_)
 obtain ⟨x1, hx2, hH⟩ := bindE hH
 refine AW.region ?_
 iterate 2 refine AO.pu T ?_
 refine AO.val rfl rfl (callV_ok rfl rfl rfl rfl (slices_Index_int_ok _ _ _ (hx2)) rfl) ?_
 iterate 2 refine AO.pu T ?_
 refine AO.nil (AW.ret ?_)
 cases someE hH
 exact retQ.i [] rfl (.c (.c .v))

def impl_areConflicts_p (clubs : List Int) : Option Bool :=
  (impl_isIncreasing_p clubs 21).bind fun x1 =>
  (opt x1 default (slices_Contains_int_p clubs 0)).bind fun x3 =>
  some (x1 && (!x3))
theorem impl_areConflicts_ok (clubs : List Int) (r : Bool) (hH : impl_areConflicts_p clubs = some r) : SpecR Try.prog 123 [.s (List.map encInt clubs)] (.v (.bool r)) := by
 refine fn_ok T Try.func123 rfl (by decide) rfl ?_
 refine AW.seq (AW.region ?_)
 refine AO.pu T ?_
 refine AO.nil (AW.seq ?_)
 obtain ⟨x1, hx2, hH⟩ := bindE hH
 obtain ⟨x3, hx4, hH⟩ := bindE hH
 refine AW.region ?_
 refine AO.pu T ?_
 refine AO.val rfl rfl (callV_ok rfl rfl rfl rfl (impl_isIncreasing_ok _ _ _ (hx2)) rfl) ?_
 refine AO.pu T ?_
 refine AO.pureG T [] rfl trivial rfl rfl ?_
 refine AO.guard [6] rfl ⟨fun h => h, trivial⟩ (fun hg => callV_ok rfl rfl rfl rfl (slices_Contains_int_ok _ _ _ (optT hx4 hg)) rfl) rfl ?_
 refine AO.pureG T [7] rfl ⟨fun h => h, trivial⟩ rfl rfl ?_
 refine AO.val rfl rfl (pick_and rfl rfl rfl rfl) ?_
 refine AO.pu T ?_
 refine AO.nil (AW.ret ?_)
 cases someE hH
 exact retQ.i [] rfl (.c (.c .v))

def impl_canPanel_p (l : List Official) (clubs : List Int) (level : Int) (most : Int) : Option Bool :=
  (impl_AreOfficials_p l).bind fun x1 =>
  (opt x1 default (impl_areConflicts_p clubs)).bind fun x3 =>
  (opt (x1 && x3) default (impl_within_p level 1 3)).bind fun x5 =>
  (opt ((x1 && x3) && x5) default (impl_within_p most 1 9)).bind fun x7 =>
  some (((x1 && x3) && x5) && x7)
theorem impl_canPanel_ok (l : List Official) (clubs : List Int) (level : Int) (most : Int) (r : Bool) (hH : impl_canPanel_p l clubs level most = some r) : SpecR Try.prog 75 [.s (List.map encOfficial l), .s (List.map encInt clubs), level, most] (.v (.bool r)) := by
 refine fn_ok T Try.func75 rfl (by decide) rfl ?_
 refine AW.seq (AW.region ?_)
 refine AO.pu T ?_
 refine AO.nil (AW.seq ?_)
 obtain ⟨x1, hx2, hH⟩ := bindE hH
 obtain ⟨x3, hx4, hH⟩ := bindE hH
 obtain ⟨x5, hx6, hH⟩ := bindE hH
 obtain ⟨x7, hx8, hH⟩ := bindE hH
 refine AW.region ?_
 refine AO.pu T ?_
 refine AO.val rfl rfl (callV_ok rfl rfl rfl rfl (impl_AreOfficials_ok _ _ (hx2)) rfl) ?_
 refine AO.pu T ?_
 refine AO.pureG T [] rfl trivial rfl rfl ?_
 refine AO.guard [12] rfl ⟨fun h => h, trivial⟩ (fun hg => callV_ok rfl rfl rfl rfl (impl_areConflicts_ok _ _ (optT hx4 hg)) rfl) rfl ?_
 refine AO.val rfl rfl (pick_and rfl rfl rfl rfl) ?_
 refine AO.pu T ?_
 refine AO.pureG T [] rfl trivial rfl rfl ?_
 refine AO.guard [16] rfl ⟨fun h => h, trivial⟩ (fun hg => callV_ok rfl rfl rfl rfl (impl_within_ok _ _ _ _ (optT hx6 hg)) rfl) rfl ?_
 refine AO.val rfl rfl (pick_and rfl rfl rfl rfl) ?_
 refine AO.pu T ?_
 refine AO.pureG T [] rfl trivial rfl rfl ?_
 refine AO.guard [20] rfl ⟨fun h => h, trivial⟩ (fun hg => callV_ok rfl rfl rfl rfl (impl_within_ok _ _ _ _ (optT hx8 hg)) rfl) rfl ?_
 refine AO.val rfl rfl (pick_and rfl rfl rfl rfl) ?_
 refine AO.pu T ?_
 refine AO.nil (AW.ret ?_)
 cases someE hH
 exact retQ.i [] rfl (.c (.c .v))

def slices_Sort_int_p (x : List Int) : Option (List Int) := (need (Nat.blt x.length 4611686018427387904)).bind fun _ => some (sortI x)
theorem slices_Sort_int_ok (x : List Int) (r : List Int) (hH : slices_Sort_int_p x = some r) : SpecM Try.prog 68 [.w 1 (x.map encInt)] [.w 1 (r.map encInt)] (.t []) := by
  obtain ⟨u, hu, hr⟩ := bindE hH
  cases someE hr
  exact spec_sortI ⟨_, Try.func68, rfl, by decide⟩ Try.slices_Sort_int Try.slices_Sort_int_none x (Nat.le_of_ble_eq_true (needT hu))

def impl_eligible_l1 (clubs : List Int) (level : Int) : List Official → Nat → List Int → Option ((List Int))
  | [], k1, v16 =>
    (slices_Sort_int_p v16).bind fun x18 =>
    some x18
  | y2 :: ys3, k1, v16 =>
    (opt (decide (y2.level ≥ level)) default (slices_Contains_int_p clubs y2.club)).bind fun x20 =>
    cond (decide (y2.level ≥ level) && (!x20))
      ((need (fitsB 8 (v16.length + ([y2.number]).length))).bind fun u22 =>
      impl_eligible_l1 clubs level ys3 (k1 + 1) (v16 ++ [y2.number]))
      (impl_eligible_l1 clubs level ys3 (k1 + 1) v16)
def impl_eligible_p (l : List Official) (clubs : List Int) (level : Int) : Option (List Int) :=
  impl_eligible_l1 clubs level l 0 []
theorem impl_eligible_ok (l : List Official) (clubs : List Int) (level : Int) (r : (List Int)) (hH : impl_eligible_p l clubs level = some r) : SpecR Try.prog 76 [.s (List.map encOfficial l), .s (List.map encInt clubs), level] (.w 1 (r.map encInt)) := by
 refine fn_ok T Try.func76 rfl (by decide) rfl ?_
 refine AW.seq (AW.region ?_)
 refine AO.pu T ?_
 refine AO.nil (AW.seq ?_)
 refine AW.region ?_
 refine AO.step rfl (mk0_ok T rfl rfl rfl rfl) ?_
 refine AO.pu T ?_
 refine AO.nil ?_
 iterate 2 refine AW.seq ?_
 refine AW.region ?_
 refine AO.pu T ?_
 refine AO.val rfl rfl (len_map_ok T rfl rfl rfl) ?_
 refine AO.pu T ?_
 refine AO.nil ?_
 refine AW.block ?_
 refine AW.loopS (fun s : Nat × (List Int) => (⟨[(1, .s (List.map encInt clubs)), (2, level), (7, .R 6), (11, .s (List.map encOfficial l)), (12, (l.length : Int)), (13, (s.1 : Int))], [(6, .row 1 (List.map encInt s.2))], 37, []⟩ : St)) (fun s => s.1 ≤ l.length ∧ impl_eligible_l1 clubs level (l.drop s.1) s.1 s.2 = some r) (fun s => l.length - s.1) (0, []) ⟨Nat.zero_le _, hH⟩ ?_ ?_
 refine Le.trans (Le.void 7 6 1 rfl rfl) ?_
 exact Le.ct 0 0
 rintro ⟨k1, v16⟩ ⟨hk, hH⟩
 replace hH : impl_eligible_l1 clubs level (l.drop k1) k1 v16 = some r := hH
 try dsimp only
 refine AW.boundM (t := 11) (l := l) rfl (fun hb5 => ?_)
 rcases hd4 : l.drop k1 with _ | ⟨y2, ys3⟩
 rw [hd4, impl_eligible_l1] at hH
 have hlt6 := drop_ge hd4
 refine AW.seq (AW.region ?_)
 refine AO.pu T ?_
 refine AO.nil (AW.seq ?_)
 refine AW.condF' (b := decide ((k1 : Int) < (l.length : Int))) rfl (rngF hlt6) ?_
 refine AW.exit ?_
 refine AW.seq ?_
 obtain ⟨x18, hx19, hH⟩ := bindE hH
 refine AW.region ?_
 refine AO.pu T ?_
 refine AO.step rfl (callM_ok rfl 7 rfl rfl (es := [.w 1 (v16.map encInt)]) (outs := [.w 1 (x18.map encInt)]) (ids := [6]) (by exact expLG_cons (.c (.rowR rfl)) (expLG_nil)) (by decide) (.inl (by rfl)) (by rfl) (slices_Sort_int_ok _ _ (hx19)) rfl (by rfl) rfl) ?_
 refine AO.nil (AW.seq ?_)
 refine AW.region ?_
 iterate 2 refine AO.pu T ?_
 refine AO.nil (AW.ret ?_)
 cases someE hH
 exact retQ.i [6] rfl (.c (.c (.rowR rfl)))
 rw [hd4, impl_eligible_l1] at hH
 have hlt6 := drop_lt hd4
 refine AW.seq (AW.region ?_)
 refine AO.pu T ?_
 refine AO.nil (AW.seq ?_)
 refine AW.condT' (b := decide ((k1 : Int) < (l.length : Int))) rfl (rngT hlt6) ?_
 refine AW.skip ?_
 refine AW.seq ?_
 refine AW.block ?_
 refine AW.seq (AW.region ?_)
 refine AO.val rfl rfl (ix_map_ok T rfl rfl rfl rfl rfl (getI_drop hd4) rfl) ?_
 refine AO.pu T (d := .g [y2.number, y2.club, y2.level]) ?_
 refine AO.step rfl (alloc_ok T rfl 7 rfl rfl rfl rfl rfl) ?_
 refine AO.se T [y2.number, y2.club, y2.level] ?_
 refine AO.nil (AW.seq ?_)
 obtain ⟨x20, hx21, hH⟩ := bindE hH
 refine AW.region ?_
 iterate 5 refine AO.pu T ?_
 iterate 2 refine AO.pureG T [] rfl trivial rfl rfl ?_
 refine AO.pureG T [23] rfl ⟨fun h => h, trivial⟩ rfl rfl ?_
 refine AO.guard [22, 24] rfl ⟨fun h => h, fun h => h, trivial⟩ (fun hg => callV_ok rfl rfl rfl rfl (slices_Contains_int_ok _ _ _ (optT hx21 hg)) rfl) rfl ?_
 refine AO.pureG T [25] rfl ⟨fun h => h, trivial⟩ rfl rfl ?_
 refine AO.val rfl rfl (pick_and rfl rfl rfl rfl) ?_
 refine AO.nil ?_
 refine AW.cond (b := (decide (y2.level ≥ level) && (!x20))) rfl (fun hc => ?_) (fun hc => ?_)
 replace hH := condT hc hH
 obtain ⟨u22, hx23, hH⟩ := bindE hH
 refine AW.region ?_
 iterate 3 refine AO.pu T ?_
 refine AO.step rfl (mk_map_ok T rfl 8 rfl rfl rfl rfl rfl (f := encInt) (l := [y2.number]) rfl rfl (fun _ => rfl) rfl rfl rfl rfl rfl) ?_
 refine AO.step rfl (app_rv_map T rfl 9 rfl rfl rfl rfl rfl (by decide) rfl rfl rfl rfl (fun _ => rfl) (needT (hx23)) rfl rfl) ?_
 refine AO.pu T ?_
 refine AO.nil ?_
 refine AW.region ?_
 refine AO.val rfl rfl (ar_ok rfl rfl rfl rfl (inI_succ hlt6 hb5)) ?_
 refine AO.pu T ?_
 refine AO.nil ?_
 refine ⟨(k1 + 1, (v16 ++ [y2.number])), ⟨Nat.succ_le_of_lt hlt6, (by rw [drop_succ_of hd4]; exact hH)⟩, (by have := hlt6; dsimp only; omega), ?_⟩
 exact Le.ct 9 6
 replace hH := condF hc hH
 refine AW.skip ?_
 refine AW.region ?_
 refine AO.val rfl rfl (ar_ok rfl rfl rfl rfl (inI_succ hlt6 hb5)) ?_
 refine AO.pu T ?_
 refine AO.nil ?_
 refine ⟨(k1 + 1, v16), ⟨Nat.succ_le_of_lt hlt6, (by rw [drop_succ_of hd4]; exact hH)⟩, (by have := hlt6; dsimp only; omega), ?_⟩
 exact Le.ct 0 0

def impl_clubOf_l1 (number : Int) : List Official → Nat → Option Int
  | [], k1 =>
    some 0
  | y2 :: ys3, k1 =>
    cond (y2.number == number)
      (some y2.club)
      (impl_clubOf_l1 number ys3 (k1 + 1))
def impl_clubOf_p (l : List Official) (number : Int) : Option Int :=
  impl_clubOf_l1 number l 0
theorem impl_clubOf_ok (l : List Official) (number : Int) (r : Int) (hH : impl_clubOf_p l number = some r) : SpecR Try.prog 77 [.s (List.map encOfficial l), number] (.v (.int .i64 r)) := by
 refine fn_ok T Try.func77 rfl (by decide) rfl ?_
 refine AW.seq (AW.region ?_)
 refine AO.pu T ?_
 refine AO.nil ?_
 iterate 2 refine AW.seq ?_
 refine AW.region ?_
 refine AO.pu T ?_
 refine AO.val rfl rfl (len_map_ok T rfl rfl rfl) ?_
 refine AO.pu T ?_
 refine AO.nil ?_
 refine AW.block ?_
 refine AW.loopS (fun s : Nat => (⟨[(1, number), (7, .s (List.map encOfficial l)), (8, (l.length : Int)), (9, (s : Int))], [], 20, []⟩ : St)) (fun s => s ≤ l.length ∧ impl_clubOf_l1 number (l.drop s) s = some r) (fun s => l.length - s) 0 ⟨Nat.zero_le _, hH⟩ ?_ ?_
 exact Le.ct 0 0
 rintro k1 ⟨hk, hH⟩
 replace hH : impl_clubOf_l1 number (l.drop k1) k1 = some r := hH
 try dsimp only
 refine AW.boundM (t := 7) (l := l) rfl (fun hb5 => ?_)
 rcases hd4 : l.drop k1 with _ | ⟨y2, ys3⟩
 rw [hd4, impl_clubOf_l1] at hH
 have hlt6 := drop_ge hd4
 refine AW.seq (AW.region ?_)
 refine AO.pu T ?_
 refine AO.nil (AW.seq ?_)
 refine AW.condF' (b := decide ((k1 : Int) < (l.length : Int))) rfl (rngF hlt6) ?_
 refine AW.exit ?_
 refine AW.seq (AW.region ?_)
 refine AO.pu T ?_
 refine AO.nil (AW.ret ?_)
 cases someE hH
 exact retQ.i [] rfl (.c (.c .v))
 rw [hd4, impl_clubOf_l1] at hH
 have hlt6 := drop_lt hd4
 refine AW.seq (AW.region ?_)
 refine AO.pu T ?_
 refine AO.nil (AW.seq ?_)
 refine AW.condT' (b := decide ((k1 : Int) < (l.length : Int))) rfl (rngT hlt6) ?_
 refine AW.skip ?_
 refine AW.seq ?_
 refine AW.block ?_
 refine AW.seq (AW.region ?_)
 refine AO.val rfl rfl (ix_map_ok T rfl rfl rfl rfl rfl (getI_drop hd4) rfl) ?_
 refine AO.pu T (d := .g [y2.number, y2.club, y2.level]) ?_
 refine AO.step rfl (alloc_ok T rfl 3 rfl rfl rfl rfl rfl) ?_
 refine AO.se T [y2.number, y2.club, y2.level] ?_
 refine AO.nil (AW.seq ?_)
 refine AW.region ?_
 iterate 4 refine AO.pu T ?_
 refine AO.nil ?_
 refine AW.cond (b := (y2.number == number)) rfl (fun hc => ?_) (fun hc => ?_)
 replace hH := condT hc hH
 refine AW.seq (AW.region ?_)
 iterate 3 refine AO.pu T ?_
 refine AO.nil (AW.ret ?_)
 cases someE hH
 exact retQ.i [] rfl (.c (.c .v))
 replace hH := condF hc hH
 refine AW.skip ?_
 refine AW.region ?_
 refine AO.val rfl rfl (ar_ok rfl rfl rfl rfl (inI_succ hlt6 hb5)) ?_
 refine AO.pu T ?_
 refine AO.nil ?_
 refine ⟨k1 + 1, ⟨Nat.succ_le_of_lt hlt6, (by rw [drop_succ_of hd4]; exact hH)⟩, (by have := hlt6; dsimp only; omega), ?_⟩
 exact Le.ct 0 0

def impl_clubSizes_l1 (l : List Official) : List Int → Nat → List Int → Option ((List Int))
  | [], k3, v18 =>
    some v18
  | y4 :: ys5, k3, v18 =>
    (impl_clubOf_p l y4).bind fun x20 =>
    (getI v18 x20).bind fun x22 =>
    impl_clubSizes_l1 l ys5 (k3 + 1) (v18.set x20.toNat (w64 (x22 + 1)))
def impl_clubSizes_p (l : List Official) (numbers : List Int) : Option (List Int) :=
  (need (decide (0 ≤ 21) && fitsB 8 (21 : Int).toNat)).bind fun u1 =>
  impl_clubSizes_l1 l numbers 0 (List.replicate (21 : Int).toNat 0)
theorem impl_clubSizes_ok (l : List Official) (numbers : List Int) (r : (List Int)) (hH : impl_clubSizes_p l numbers = some r) : SpecR Try.prog 125 [.s (List.map encOfficial l), .s (List.map encInt numbers)] (.w 1 (r.map encInt)) := by
 refine fn_ok T Try.func125 rfl (by decide) rfl ?_
 refine AW.seq (AW.region ?_)
 refine AO.pu T ?_
 refine AO.nil (AW.seq ?_)
 obtain ⟨u1, hx2, hH⟩ := bindE hH
 refine AW.region ?_
 refine AO.step rfl (make_map_ok T rfl 1 rfl rfl rfl rfl rfl (f := encInt) (zo := 0) (by repeat constructor) (by decide) rfl rfl (Bool.and_eq_true_iff.1 (needT (hx2))).1 (Bool.and_eq_true_iff.1 (needT (hx2))).2 rfl rfl) ?_
 refine AO.pu T ?_
 refine AO.nil ?_
 iterate 2 refine AW.seq ?_
 refine AW.region ?_
 refine AO.pu T ?_
 refine AO.val rfl rfl (len_map_ok T rfl rfl rfl) ?_
 refine AO.pu T ?_
 refine AO.nil ?_
 refine AW.block ?_
 refine AW.loopS (fun s : Nat × (List Int) => (⟨[(0, .s (List.map encOfficial l)), (5, .R 1), (9, .s (List.map encInt numbers)), (10, (numbers.length : Int)), (11, (s.1 : Int))], [(1, .row 1 (List.map encInt s.2))], 25, []⟩ : St)) (fun s => s.1 ≤ numbers.length ∧ impl_clubSizes_l1 l (numbers.drop s.1) s.1 s.2 = some r) (fun s => numbers.length - s.1) (0, (List.replicate (21 : Int).toNat 0)) ⟨Nat.zero_le _, hH⟩ ?_ ?_
 exact Le.ct 0 0
 rintro ⟨k3, v18⟩ ⟨hk, hH⟩
 replace hH : impl_clubSizes_l1 l (numbers.drop k3) k3 v18 = some r := hH
 try dsimp only
 refine AW.boundM (t := 9) (l := numbers) rfl (fun hb7 => ?_)
 rcases hd6 : numbers.drop k3 with _ | ⟨y4, ys5⟩
 rw [hd6, impl_clubSizes_l1] at hH
 have hlt8 := drop_ge hd6
 refine AW.seq (AW.region ?_)
 refine AO.pu T ?_
 refine AO.nil (AW.seq ?_)
 refine AW.condF' (b := decide ((k3 : Int) < (numbers.length : Int))) rfl (rngF hlt8) ?_
 refine AW.exit ?_
 refine AW.seq (AW.region ?_)
 iterate 2 refine AO.pu T ?_
 refine AO.nil (AW.ret ?_)
 cases someE hH
 exact retQ.i [1] rfl (.c (.c (.rowR rfl)))
 rw [hd6, impl_clubSizes_l1] at hH
 have hlt8 := drop_lt hd6
 refine AW.seq (AW.region ?_)
 refine AO.pu T ?_
 refine AO.nil (AW.seq ?_)
 refine AW.condT' (b := decide ((k3 : Int) < (numbers.length : Int))) rfl (rngT hlt8) ?_
 refine AW.skip ?_
 refine AW.seq ?_
 refine AW.block ?_
 refine AW.seq (AW.region ?_)
 refine AO.val rfl rfl (ix_map_ok T rfl rfl rfl rfl rfl (getI_drop hd6) rfl) ?_
 iterate 2 refine AO.pu T ?_
 refine AO.nil ?_
 obtain ⟨x20, hx21, hH⟩ := bindE hH
 obtain ⟨x22, hx23, hH⟩ := bindE hH
 refine AW.region ?_
 iterate 3 refine AO.pu T ?_
 refine AO.val rfl rfl (callV_ok rfl rfl rfl rfl (impl_clubOf_ok _ _ _ (hx21)) rfl) ?_
 refine AO.val rfl rfl (ix_row_ok T rfl rfl rfl rfl rfl rfl (hx23)) ?_
 refine AO.val rfl rfl (load_row_ok T rfl rfl rfl rfl (getI_get (hx23)) rfl rfl rfl) ?_
 refine AO.val rfl rfl (arw_ok rfl rfl rfl rfl) ?_
 refine AO.val rfl rfl (ix_row_ok T rfl rfl rfl rfl rfl rfl (hx23)) ?_
 refine AO.step rfl (store_row_ok T rfl rfl rfl rfl rfl (getI_get (hx23)) rfl rfl rfl rfl (u' := w64 (x22 + 1)) rfl rfl) ?_
 refine AO.nil ?_
 refine AW.region ?_
 refine AO.val rfl rfl (ar_ok rfl rfl rfl rfl (inI_succ hlt8 hb7)) ?_
 refine AO.pu T ?_
 refine AO.nil ?_
 refine ⟨(k3 + 1, (v18.set x20.toNat (w64 (x22 + 1)))), ⟨Nat.succ_le_of_lt hlt8, (by rw [drop_succ_of hd6]; exact hH)⟩, (by have := hlt8; dsimp only; omega), ?_⟩
 exact Le.ct 0 0

def slices_Max_int_l1 (x : List Int) : Nat → Int → Int → Option Int
  | 0, _, _ => none
  | k3 + 1, v10, v11 =>
    cond (decide (v11 < (x.length : Int)))
      ((getI x v11).bind fun x13 =>
      slices_Max_int_l1 x k3 (max v10 x13) (w64 (v11 + 1)))
      (some v10)
def slices_Max_int_p (fuel : Nat) (x : List Int) : Option Int :=
  cond (decide ((x.length : Int) < 1))
    (none)
    ((getI x 0).bind fun x1 =>
    slices_Max_int_l1 x fuel x1 1)
theorem slices_Max_int_ok (fuel : Nat) (x : List Int) (r : Int) (hH : slices_Max_int_p fuel x = some r) : SpecR Try.prog 99 [.s (List.map encInt x)] (.v (.int .i64 r)) := by
 refine fn_ok T Try.func99 rfl (by decide) rfl ?_
 refine AW.seq (AW.region ?_)
 refine AO.pu T ?_
 refine AO.nil ?_
 iterate 2 refine AW.seq ?_
 refine AW.region ?_
 refine AO.pu T ?_
 refine AO.val rfl rfl (len_map_ok T rfl rfl rfl) ?_
 refine AO.pu T ?_
 refine AO.nil ?_
 refine AW.cond (b := decide ((x.length : Int) < 1)) rfl (fun hc => ?_) (fun hc => ?_)
 replace hH := condT hc hH
 cases hH
 replace hH := condF hc hH
 refine AW.skip ?_
 refine AW.seq ?_
 obtain ⟨x1, hx2, hH⟩ := bindE hH
 refine AW.region ?_
 refine AO.pu T ?_
 refine AO.val rfl rfl (ix_map_ok T rfl rfl rfl rfl rfl (hx2) rfl) ?_
 iterate 2 refine AO.pu T ?_
 refine AO.nil ?_
 iterate 2 refine AW.seq ?_
 refine AW.region ?_
 refine AO.pu T ?_
 refine AO.nil ?_
 refine AW.block ?_
 refine AW.loopS (fun s : Nat × Int × Int => (⟨[(0, .s (List.map encInt x)), (3, s.2.1), (4, s.2.2)], [], 25, []⟩ : St)) (fun s => slices_Max_int_l1 x s.1 s.2.1 s.2.2 = some r) (fun s => s.1) (fuel, x1, 1) hH ?_ ?_
 exact Le.ct 0 0
 rintro ⟨k3, v10, v11⟩ hH
 replace hH : slices_Max_int_l1 x k3 v10 v11 = some r := hH
 try dsimp only
 rcases k3 with _ | k3
 cases (show none = some _ from hH)
 rw [slices_Max_int_l1] at hH
 iterate 2 refine AW.seq ?_
 refine AW.region ?_
 iterate 2 refine AO.pu T ?_
 refine AO.val rfl rfl (len_map_ok T rfl rfl rfl) ?_
 refine AO.pu T ?_
 refine AO.nil ?_
 refine AW.cond (b := decide (v11 < (x.length : Int))) rfl (fun hc => ?_) (fun hc => ?_)
 replace hH := condT hc hH
 refine AW.skip ?_
 refine AW.seq ?_
 refine AW.block ?_
 obtain ⟨x13, hx14, hH⟩ := bindE hH
 refine AW.region ?_
 iterate 3 refine AO.pu T ?_
 refine AO.val rfl rfl (ix_map_ok T rfl rfl rfl rfl rfl (hx14) rfl) ?_
 refine AO.pu T ?_
 refine AO.val rfl rfl (max_ok rfl rfl rfl) ?_
 refine AO.pu T ?_
 refine AO.nil ?_
 refine AW.region ?_
 refine AO.pu T ?_
 refine AO.val rfl rfl (arw_ok rfl rfl rfl rfl) ?_
 refine AO.pu T ?_
 refine AO.nil ?_
 refine ⟨(k3, (max v10 x13), w64 (v11 + 1)), hH, Nat.lt_succ_self _, ?_⟩
 exact Le.ct 0 0
 replace hH := condF hc hH
 refine AW.exit ?_
 refine AW.seq (AW.region ?_)
 iterate 2 refine AO.pu T ?_
 refine AO.nil (AW.ret ?_)
 cases someE hH
 exact retQ.i [] rfl (.c (.c .v))

def impl_isPanel_l1 (l : List Official) (most : Int) (panel : List Int) (fuel : Nat) (x5 : (List Int)) : List Int → Nat → Option Bool
  | [], k7 =>
    (impl_clubSizes_p l panel).bind fun x18 =>
    (slices_Max_int_p fuel x18).bind fun x20 =>
    some (decide (x20 ≤ most))
  | y8 :: ys9, k7 =>
    (slices_Contains_int_p x5 y8).bind fun x22 =>
    cond (!x22)
      (some false)
      (impl_isPanel_l1 l most panel fuel x5 ys9 (k7 + 1))
def impl_isPanel_p (fuel : Nat) (l : List Official) (clubs : List Int) (level : Int) (most : Int) (panel : List Int) : Option Bool :=
  (impl_within_p (panel.length : Int) 1 9).bind fun x1 =>
  (opt (!(!x1)) default (impl_isIncreasing_p panel 1000)).bind fun x3 =>
  cond ((!x1) || (!x3))
    (some false)
    ((impl_eligible_p l clubs level).bind fun x5 =>
    impl_isPanel_l1 l most panel fuel x5 panel 0)
theorem impl_isPanel_ok (fuel : Nat) (l : List Official) (clubs : List Int) (level : Int) (most : Int) (panel : List Int) (r : Bool) (hH : impl_isPanel_p fuel l clubs level most panel = some r) : SpecR Try.prog 81 [.s (List.map encOfficial l), .s (List.map encInt clubs), level, most, .s (List.map encInt panel)] (.v (.bool r)) := by
 refine fn_ok T Try.func81 rfl (by decide) rfl ?_
 refine AW.seq (AW.region ?_)
 refine AO.pu T ?_
 refine AO.nil ?_
 iterate 2 refine AW.seq ?_
 obtain ⟨x1, hx2, hH⟩ := bindE hH
 obtain ⟨x3, hx4, hH⟩ := bindE hH
 refine AW.region ?_
 refine AO.pu T ?_
 refine AO.val rfl rfl (len_map_ok T rfl rfl rfl) ?_
 refine AO.val rfl rfl (callV_ok rfl rfl rfl rfl (impl_within_ok _ _ _ _ (hx2)) rfl) ?_
 iterate 2 refine AO.pu T ?_
 refine AO.pureG T [] rfl trivial rfl rfl ?_
 refine AO.guard [19] rfl ⟨fun h => h, trivial⟩ (fun hg => callV_ok rfl rfl rfl rfl (impl_isIncreasing_ok _ _ _ (optT hx4 hg)) rfl) rfl ?_
 refine AO.pureG T [20] rfl ⟨fun h => h, trivial⟩ rfl rfl ?_
 refine AO.val rfl rfl (pick_or rfl rfl rfl rfl) ?_
 refine AO.nil ?_
 refine AW.cond (b := ((!x1) || (!x3))) rfl (fun hc => ?_) (fun hc => ?_)
 replace hH := condT hc hH
 refine AW.seq (AW.region ?_)
 refine AO.pu T ?_
 refine AO.nil (AW.ret ?_)
 cases someE hH
 exact retQ.i [] rfl (.c (.c .v))
 replace hH := condF hc hH
 refine AW.skip ?_
 refine AW.seq ?_
 obtain ⟨x5, hx6, hH⟩ := bindE hH
 refine AW.region ?_
 iterate 3 refine AO.pu T ?_
 refine AO.step rfl (call_ok rfl 1 rfl rfl rfl (impl_eligible_ok _ _ _ _ (hx6)) rfl rfl rfl) ?_
 refine AO.pu T ?_
 refine AO.nil ?_
 iterate 2 refine AW.seq ?_
 refine AW.region ?_
 refine AO.pu T ?_
 refine AO.val rfl rfl (len_map_ok T rfl rfl rfl) ?_
 refine AO.pu T ?_
 refine AO.nil ?_
 refine AW.block ?_
 refine AW.loopS (fun s : Nat => (⟨[(0, .s (List.map encOfficial l)), (3, most), (4, .s (List.map encInt panel)), (11, .R 1), (27, .s (List.map encInt panel)), (28, (panel.length : Int)), (29, (s : Int))], [(1, .row 1 (List.map encInt x5))], 44, []⟩ : St)) (fun s => s ≤ panel.length ∧ impl_isPanel_l1 l most panel fuel x5 (panel.drop s) s = some r) (fun s => panel.length - s) 0 ⟨Nat.zero_le _, hH⟩ ?_ ?_
 exact Le.ct 0 0
 rintro k7 ⟨hk, hH⟩
 replace hH : impl_isPanel_l1 l most panel fuel x5 (panel.drop k7) k7 = some r := hH
 try dsimp only
 refine AW.boundM (t := 4) (l := panel) rfl (fun hb11 => ?_)
 rcases hd10 : panel.drop k7 with _ | ⟨y8, ys9⟩
 rw [hd10, impl_isPanel_l1] at hH
 have hlt12 := drop_ge hd10
 refine AW.seq (AW.region ?_)
 refine AO.pu T ?_
 refine AO.nil (AW.seq ?_)
 refine AW.condF' (b := decide ((k7 : Int) < (panel.length : Int))) rfl (rngF hlt12) ?_
 refine AW.exit ?_
 refine AW.seq ?_
 obtain ⟨x18, hx19, hH⟩ := bindE hH
 obtain ⟨x20, hx21, hH⟩ := bindE hH
 refine AW.region ?_
 iterate 2 refine AO.pu T ?_
 refine AO.step rfl (call_ok rfl 2 rfl rfl rfl (impl_clubSizes_ok _ _ _ (hx19)) rfl rfl rfl) ?_
 refine AO.val rfl rfl (callLV_ok rfl rfl rfl (es := [.s (List.map encInt x18)]) ⟨(.rowR rfl (.map fun y => .vs rfl)), trivial⟩ (slices_Max_int_ok fuel _ _ (hx21)) (zfree_v _) rfl) ?_
 iterate 3 refine AO.pu T ?_
 refine AO.nil (AW.ret ?_)
 cases someE hH
 exact retQ.i [] rfl (.c (.c .v))
 rw [hd10, impl_isPanel_l1] at hH
 have hlt12 := drop_lt hd10
 refine AW.seq (AW.region ?_)
 refine AO.pu T ?_
 refine AO.nil (AW.seq ?_)
 refine AW.condT' (b := decide ((k7 : Int) < (panel.length : Int))) rfl (rngT hlt12) ?_
 refine AW.skip ?_
 refine AW.seq ?_
 refine AW.block ?_
 refine AW.seq (AW.region ?_)
 refine AO.val rfl rfl (ix_map_ok T rfl rfl rfl rfl rfl (getI_drop hd10) rfl) ?_
 iterate 2 refine AO.pu T ?_
 refine AO.nil (AW.seq ?_)
 obtain ⟨x22, hx23, hH⟩ := bindE hH
 refine AW.region ?_
 iterate 2 refine AO.pu T ?_
 refine AO.val rfl rfl (callLV_ok rfl rfl rfl (es := [.s (List.map encInt x5), y8]) ⟨(.rowR rfl (.map fun y => .vs rfl)), .free rfl, trivial⟩ (slices_Contains_int_ok _ _ _ (hx23)) (zfree_v _) rfl) ?_
 refine AO.pu T ?_
 refine AO.nil ?_
 refine AW.cond (b := (!x22)) rfl (fun hc => ?_) (fun hc => ?_)
 replace hH := condT hc hH
 refine AW.seq (AW.region ?_)
 refine AO.pu T ?_
 refine AO.nil (AW.ret ?_)
 cases someE hH
 exact retQ.i [] rfl (.c (.c .v))
 replace hH := condF hc hH
 refine AW.skip ?_
 refine AW.region ?_
 refine AO.val rfl rfl (ar_ok rfl rfl rfl rfl (inI_succ hlt12 hb11)) ?_
 refine AO.pu T ?_
 refine AO.nil ?_
 refine ⟨k7 + 1, ⟨Nat.succ_le_of_lt hlt12, (by rw [drop_succ_of hd10]; exact hH)⟩, (by have := hlt12; dsimp only; omega), ?_⟩
 exact Le.ct 0 0

def impl_copyInts_p (l : List Int) : Option (List Int) :=
  (need (fitsB 8 l.length)).bind fun u1 =>
  some l
theorem impl_copyInts_ok (l : List Int) (r : (List Int)) (hH : impl_copyInts_p l = some r) : SpecR Try.prog 111 [.s (List.map encInt l)] (.w 1 (r.map encInt)) := by
 refine fn_ok T Try.func111 rfl (by decide) rfl ?_
 refine AW.seq (AW.region ?_)
 refine AO.pu T ?_
 refine AO.nil (AW.seq ?_)
 obtain ⟨u1, hx2, hH⟩ := bindE hH
 refine AW.region ?_
 refine AO.step rfl (mk0_ok T rfl rfl rfl rfl) ?_
 refine AO.pu T ?_
 refine AO.step rfl (app_ws_map T rfl 1 rfl rfl rfl rfl rfl (by decide) (by decide) rfl rfl (fun _ => rfl) (needT (hx2)) rfl rfl) ?_
 refine AO.pu T ?_
 refine AO.nil (AW.ret ?_)
 cases someE hH
 exact retQ.i [1] rfl (.c (.c (.rowR rfl)))

def impl_withKeys_p (keys : List Int) (more : List Int) : Option (List Int) :=
  (impl_copyInts_p keys).bind fun x1 =>
  (need (fitsB 8 (x1.length + more.length))).bind fun u3 =>
  some (x1 ++ more)
theorem impl_withKeys_ok (keys : List Int) (more : List Int) (r : (List Int)) (hH : impl_withKeys_p keys more = some r) : SpecR Try.prog 151 [.s (List.map encInt keys), .s (List.map encInt more)] (.w 1 (r.map encInt)) := by
 refine fn_ok T Try.func151 rfl (by decide) rfl ?_
 refine AW.seq (AW.region ?_)
 refine AO.pu T ?_
 refine AO.nil (AW.seq ?_)
 obtain ⟨x1, hx2, hH⟩ := bindE hH
 obtain ⟨u3, hx4, hH⟩ := bindE hH
 refine AW.region ?_
 refine AO.pu T ?_
 refine AO.step rfl (call_ok rfl 1 rfl rfl rfl (impl_copyInts_ok _ _ (hx2)) rfl rfl rfl) ?_
 refine AO.pu T ?_
 refine AO.step rfl (app_rs_map T rfl 2 rfl rfl rfl rfl rfl (by decide) (by decide) rfl rfl rfl (fun _ => rfl) (needT (hx4)) rfl rfl) ?_
 refine AO.pu T ?_
 refine AO.nil (AW.ret ?_)
 cases someE hH
 exact retQ.i [2] rfl (.c (.c (.rowR rfl)))

def impl_keyMix_l1 (x1 : (List Int)) : Nat → Int → Int → Option Int
  | 0, _, _ => none
  | k5 + 1, v20, v21 =>
    cond (decide (v21 < (((x1 ++ [4, 1])).length : Int)))
      ((getI (x1 ++ [4, 1]) v21).bind fun x23 =>
      (need (1000003 != 0)).bind fun u25 =>
      (need (16 != 0)).bind fun u27 =>
      impl_keyMix_l1 x1 k5 ((w64 (((w64 ((w64 ((w64 (29 * v20)) + x23)) + 13)).tmod 1000003) * (w64 ((w64 (((w64 ((w64 ((w64 (29 * v20)) + x23)) + 13)).tmod 1000003).tdiv 16)) + 5)))).tmod 1000003) (w64 (v21 + 1)))
      (some v20)
def impl_keyMix_p (fuel : Nat) (keys : List Int) : Option Int :=
  (impl_copyInts_p keys).bind fun x1 =>
  (need (fitsB 8 (x1.length + ([4, 1]).length))).bind fun u3 =>
  impl_keyMix_l1 x1 fuel (w64 (5231 + (keys.length : Int))) 0
theorem impl_keyMix_ok (fuel : Nat) (keys : List Int) (r : Int) (hH : impl_keyMix_p fuel keys = some r) : SpecR Try.prog 159 [.s (List.map encInt keys)] (.v (.int .i64 r)) := by
 refine fn_ok T Try.func159 rfl (by decide) rfl ?_
 refine AW.seq (AW.region ?_)
 refine AO.pu T ?_
 refine AO.nil (AW.seq ?_)
 refine AW.region ?_
 refine AO.pu T ?_
 refine AO.val rfl rfl (len_map_ok T rfl rfl rfl) ?_
 refine AO.val rfl rfl (arw_ok rfl rfl rfl rfl) ?_
 refine AO.pu T ?_
 refine AO.nil ?_
 iterate 2 refine AW.seq ?_
 obtain ⟨x1, hx2, hH⟩ := bindE hH
 obtain ⟨u3, hx4, hH⟩ := bindE hH
 refine AW.region ?_
 refine AO.pu T ?_
 refine AO.step rfl (call_ok rfl 1 rfl rfl rfl (impl_copyInts_ok _ _ (hx2)) rfl rfl rfl) ?_
 refine AO.step rfl (mk_map_ok T rfl 2 rfl rfl rfl rfl rfl (f := encInt) (l := [4, 1]) rfl rfl (fun _ => rfl) rfl rfl rfl rfl rfl) ?_
 refine AO.step rfl (app_rv_map T rfl 3 rfl rfl rfl rfl rfl (by decide) rfl rfl rfl rfl (fun _ => rfl) (needT (hx4)) rfl rfl) ?_
 refine AO.val rfl rfl (len_row_ok T rfl rfl rfl rfl) ?_
 refine AO.pu T ?_
 refine AO.nil ?_
 refine AW.block ?_
 refine AW.loopS (fun s : Nat × Int × Int => (⟨[(3, s.2.1), (12, .R 3), (13, (((x1 ++ [4, 1])).length : Int)), (14, s.2.2)], [(3, .row 1 (List.map encInt (x1 ++ [4, 1])))], 32, []⟩ : St)) (fun s => impl_keyMix_l1 x1 s.1 s.2.1 s.2.2 = some r) (fun s => s.1) (fuel, w64 (5231 + (keys.length : Int)), 0) hH ?_ ?_
 exact Le.ct 0 0
 rintro ⟨k5, v20, v21⟩ hH
 replace hH : impl_keyMix_l1 x1 k5 v20 v21 = some r := hH
 try dsimp only
 rcases k5 with _ | k5
 cases (show none = some _ from hH)
 rw [impl_keyMix_l1] at hH
 refine AW.seq (AW.region ?_)
 refine AO.pu T ?_
 refine AO.nil (AW.seq ?_)
 refine AW.cond (b := decide (v21 < (((x1 ++ [4, 1])).length : Int))) rfl (fun hc => ?_) (fun hc => ?_)
 replace hH := condT hc hH
 refine AW.skip ?_
 refine AW.seq ?_
 refine AW.block ?_
 refine AW.seq ?_
 obtain ⟨x23, hx24, hH⟩ := bindE hH
 refine AW.region ?_
 refine AO.val rfl rfl (ix_row_ok T rfl rfl rfl rfl rfl rfl (hx24)) ?_
 refine AO.val rfl rfl (load_row_ok T rfl rfl rfl rfl (getI_get (hx24)) rfl rfl rfl) ?_
 refine AO.pu T ?_
 refine AO.nil (AW.seq ?_)
 obtain ⟨u25, hx26, hH⟩ := bindE hH
 refine AW.region ?_
 refine AO.pu T ?_
 refine AO.val rfl rfl (arw_ok rfl rfl rfl rfl) ?_
 refine AO.pu T ?_
 iterate 2 refine AO.val rfl rfl (arw_ok rfl rfl rfl rfl) ?_
 refine AO.val rfl rfl (rem_ok rfl rfl rfl (neZ (needT (hx26)))) ?_
 refine AO.pu T ?_
 refine AO.nil ?_
 obtain ⟨u27, hx28, hH⟩ := bindE hH
 refine AW.region ?_
 iterate 2 refine AO.pu T ?_
 refine AO.val rfl rfl (quow_ok rfl rfl rfl (neZ (needT (hx28)))) ?_
 iterate 2 refine AO.val rfl rfl (arw_ok rfl rfl rfl rfl) ?_
 refine AO.val rfl rfl (rem_ok rfl rfl rfl (neZ (needT (hx26)))) ?_
 refine AO.pu T ?_
 refine AO.nil ?_
 refine AW.region ?_
 refine AO.val rfl rfl (arw_ok rfl rfl rfl rfl) ?_
 refine AO.pu T ?_
 refine AO.nil ?_
 refine ⟨(k5, ((w64 (((w64 ((w64 ((w64 (29 * v20)) + x23)) + 13)).tmod 1000003) * (w64 ((w64 (((w64 ((w64 ((w64 (29 * v20)) + x23)) + 13)).tmod 1000003).tdiv 16)) + 5)))).tmod 1000003), w64 (v21 + 1)), hH, Nat.lt_succ_self _, ?_⟩
 exact Le.ct 0 0
 replace hH := condF hc hH
 refine AW.exit ?_
 refine AW.seq (AW.region ?_)
 iterate 2 refine AO.pu T ?_
 refine AO.nil (AW.ret ?_)
 cases someE hH
 exact retQ.i [] rfl (.c (.c .v))

def impl_keyBelow_p (fuel : Nat) (keys : List Int) (n : Int) : Option Int :=
  (impl_withKeys_p keys [n]).bind fun x1 =>
  (impl_keyMix_p fuel x1).bind fun x3 =>
  (need (n != 0)).bind fun u5 =>
  some (x3.tmod n)
theorem impl_keyBelow_ok (fuel : Nat) (keys : List Int) (n : Int) (r : Int) (hH : impl_keyBelow_p fuel keys n = some r) : SpecR Try.prog 150 [.s (List.map encInt keys), n] (.v (.int .i64 r)) := by
 refine fn_ok T Try.func150 rfl (by decide) rfl ?_
 refine AW.seq (AW.region ?_)
 refine AO.pu T ?_
 refine AO.nil (AW.seq ?_)
 obtain ⟨x1, hx2, hH⟩ := bindE hH
 obtain ⟨x3, hx4, hH⟩ := bindE hH
 obtain ⟨u5, hx6, hH⟩ := bindE hH
 refine AW.region ?_
 iterate 2 refine AO.pu T ?_
 refine AO.step rfl (mk_map_ok T rfl 1 rfl rfl rfl rfl rfl (f := encInt) (l := [n]) rfl rfl (fun _ => rfl) rfl rfl rfl rfl rfl) ?_
 refine AO.step rfl (callL_ok rfl 2 rfl rfl (es := [.s (List.map encInt keys), .s (List.map encInt [n])]) (by exact ⟨.free rfl, (.rowR rfl (.map fun y => .vs rfl)), trivial⟩) (impl_withKeys_ok _ _ _ (hx2)) (zfree_map (fun y => (.cons (zfree_v _) .nil))) rfl rfl rfl) ?_
 refine AO.val rfl rfl (callLV_ok rfl rfl rfl (es := [.s (List.map encInt x1)]) ⟨(.rowR rfl (.map fun y => .vs rfl)), trivial⟩ (impl_keyMix_ok fuel _ _ (hx4)) (zfree_v _) rfl) ?_
 refine AO.pu T ?_
 refine AO.val rfl rfl (rem_ok rfl rfl rfl (neZ (needT (hx6)))) ?_
 refine AO.pu T ?_
 refine AO.nil (AW.ret ?_)
 cases someE hH
 exact retQ.i [] rfl (.c (.c .v))

def impl_shuffleOf_l2 (keys : List Int) (fuel : Nat) : Nat → List Int → Int → Option ((List Int))
  | 0, _, _ => none
  | k13 + 1, v36, v37 =>
    cond (decide (v37 ≥ 1))
      ((impl_withKeys_p keys [v37]).bind fun x39 =>
      (impl_keyBelow_p fuel x39 (w64 (v37 + 1))).bind fun x41 =>
      (getI v36 x41).bind fun x43 =>
      (getI v36 v37).bind fun x45 =>
      (getI (v36.set v37.toNat x43) x41).bind fun x47 =>
      impl_shuffleOf_l2 keys fuel k13 ((v36.set v37.toNat x43).set x41.toNat x45) (w64 (v37 - 1)))
      (some v36)
def impl_shuffleOf_l1 (keys : List Int) (n : Int) (fuel : Nat) : Nat → List Int → Int → Option ((List Int))
  | 0, _, _ => none
  | k1 + 1, v8, v9 =>
    cond (decide (v9 < n))
      ((need (fitsB 8 (v8.length + ([v9]).length))).bind fun u11 =>
      impl_shuffleOf_l1 keys n fuel k1 (v8 ++ [v9]) (w64 (v9 + 1)))
      (impl_shuffleOf_l2 keys fuel fuel v8 (w64 (n - 1)))
def impl_shuffleOf_p (fuel : Nat) (keys : List Int) (n : Int) : Option (List Int) :=
  impl_shuffleOf_l1 keys n fuel fuel [] 0
theorem impl_shuffleOf_ok (fuel : Nat) (keys : List Int) (n : Int) (r : (List Int)) (hH : impl_shuffleOf_p fuel keys n = some r) : SpecR Try.prog 120 [.s (List.map encInt keys), n] (.w 1 (r.map encInt)) := by
 refine fn_ok T Try.func120 rfl (by decide) rfl ?_
 refine AW.seq (AW.region ?_)
 refine AO.pu T ?_
 refine AO.nil (AW.seq ?_)
 refine AW.region ?_
 refine AO.step rfl (mk0_ok T rfl rfl rfl rfl) ?_
 refine AO.pu T ?_
 refine AO.nil ?_
 iterate 2 refine AW.seq ?_
 refine AW.region ?_
 iterate 2 refine AO.pu T ?_
 refine AO.nil ?_
 refine AW.block ?_
 refine AW.loopS (fun s : Nat × (List Int) × Int => (⟨[(0, .s (List.map encInt keys)), (1, n), (5, .R 4), (10, n), (11, s.2.2)], [(4, .row 1 (List.map encInt s.2.1))], 47, []⟩ : St)) (fun s => impl_shuffleOf_l1 keys n fuel s.1 s.2.1 s.2.2 = some r) (fun s => s.1) (fuel, [], 0) hH ?_ ?_
 refine Le.trans (Le.void 5 4 1 rfl rfl) ?_
 exact Le.ct 0 0
 rintro ⟨k1, v8, v9⟩ hH
 replace hH : impl_shuffleOf_l1 keys n fuel k1 v8 v9 = some r := hH
 try dsimp only
 rcases k1 with _ | k1
 cases (show none = some _ from hH)
 rw [impl_shuffleOf_l1] at hH
 refine AW.seq (AW.region ?_)
 refine AO.pu T ?_
 refine AO.nil (AW.seq ?_)
 refine AW.cond (b := decide (v9 < n)) rfl (fun hc => ?_) (fun hc => ?_)
 replace hH := condT hc hH
 refine AW.skip ?_
 refine AW.seq ?_
 refine AW.block ?_
 refine AW.seq (AW.region ?_)
 iterate 2 refine AO.pu T ?_
 refine AO.nil ?_
 obtain ⟨u11, hx12, hH⟩ := bindE hH
 refine AW.region ?_
 iterate 2 refine AO.pu T ?_
 refine AO.step rfl (mk_map_ok T rfl 5 rfl rfl rfl rfl rfl (f := encInt) (l := [v9]) rfl rfl (fun _ => rfl) rfl rfl rfl rfl rfl) ?_
 refine AO.step rfl (app_rv_map T rfl 6 rfl rfl rfl rfl rfl (by decide) rfl rfl rfl rfl (fun _ => rfl) (needT (hx12)) rfl rfl) ?_
 refine AO.pu T ?_
 refine AO.nil ?_
 refine AW.region ?_
 refine AO.val rfl rfl (arw_ok rfl rfl rfl rfl) ?_
 refine AO.pu T ?_
 refine AO.nil ?_
 refine ⟨(k1, (v8 ++ [v9]), w64 (v9 + 1)), hH, Nat.lt_succ_self _, ?_⟩
 exact Le.ct 6 4
 replace hH := condF hc hH
 refine AW.exit ?_
 iterate 2 refine AW.seq ?_
 refine AW.region ?_
 refine AO.pu T ?_
 refine AO.val rfl rfl (arw_ok rfl rfl rfl rfl) ?_
 refine AO.pu T ?_
 refine AO.nil ?_
 refine AW.block ?_
 refine AW.loopS (fun s : Nat × (List Int) × Int => (⟨[(0, .s (List.map encInt keys)), (5, .R 4), (7, s.2.2)], [(4, .row 1 (List.map encInt s.2.1))], 47, []⟩ : St)) (fun s => impl_shuffleOf_l2 keys fuel s.1 s.2.1 s.2.2 = some r) (fun s => s.1) (fuel, v8, w64 (n - 1)) hH ?_ ?_
 exact Le.ct 0 0
 rintro ⟨k13, v36, v37⟩ hH
 replace hH : impl_shuffleOf_l2 keys fuel k13 v36 v37 = some r := hH
 try dsimp only
 rcases k13 with _ | k13
 cases (show none = some _ from hH)
 rw [impl_shuffleOf_l2] at hH
 iterate 2 refine AW.seq ?_
 refine AW.region ?_
 iterate 2 refine AO.pu T ?_
 refine AO.nil ?_
 refine AW.cond (b := decide (v37 ≥ 1)) rfl (fun hc => ?_) (fun hc => ?_)
 replace hH := condT hc hH
 refine AW.skip ?_
 refine AW.seq ?_
 refine AW.block ?_
 refine AW.seq ?_
 obtain ⟨x39, hx40, hH⟩ := bindE hH
 obtain ⟨x41, hx42, hH⟩ := bindE hH
 refine AW.region ?_
 iterate 2 refine AO.pu T ?_
 refine AO.step rfl (mk_map_ok T rfl 11 rfl rfl rfl rfl rfl (f := encInt) (l := [v37]) rfl rfl (fun _ => rfl) rfl rfl rfl rfl rfl) ?_
 refine AO.step rfl (callL_ok rfl 12 rfl rfl (es := [.s (List.map encInt keys), .s (List.map encInt [v37])]) (by exact ⟨.free rfl, (.rowR rfl (.map fun y => .vs rfl)), trivial⟩) (impl_withKeys_ok _ _ _ (hx40)) (zfree_map (fun y => (.cons (zfree_v _) .nil))) rfl rfl rfl) ?_
 refine AO.pu T ?_
 refine AO.val rfl rfl (arw_ok rfl rfl rfl rfl) ?_
 refine AO.val rfl rfl (callLV_ok rfl rfl rfl (es := [.s (List.map encInt x39), w64 (v37 + 1)]) ⟨(.rowR rfl (.map fun y => .vs rfl)), .free rfl, trivial⟩ (impl_keyBelow_ok fuel _ _ _ (hx42)) (zfree_v _) rfl) ?_
 refine AO.pu T ?_
 refine AO.nil ?_
 obtain ⟨x43, hx44, hH⟩ := bindE hH
 obtain ⟨x45, hx46, hH⟩ := bindE hH
 obtain ⟨x47, hx48, hH⟩ := bindE hH
 refine AW.drawn 14 13 [4] mix (by kernel_rfl) rfl ?_
 iterate 6 refine AD.pure T rfl rfl rfl ?_
 refine AD.vald rfl rfl rfl (ix_row_ok T rfl rfl rfl rfl rfl rfl (hx44)) ?_
 refine AD.vald rfl rfl rfl (load_row_ok T rfl rfl rfl rfl (getI_get (hx44)) rfl rfl rfl) ?_
 iterate 2 refine AD.pure T rfl rfl rfl ?_
 refine AD.vald rfl rfl rfl (ix_row_ok T rfl rfl rfl rfl rfl rfl (hx46)) ?_
 refine AD.vald rfl rfl rfl (load_row_ok T rfl rfl rfl rfl (getI_get (hx46)) rfl rfl rfl) ?_
 refine AD.vald rfl rfl rfl (ix_row_ok T rfl rfl rfl rfl rfl rfl (hx46)) ?_
 refine AD.k rfl rfl (FStep.store_row T rfl rfl rfl rfl rfl rfl (getI_get (hx46)) rfl rfl rfl rfl (u' := x43) rfl rfl rfl) rfl rfl rfl ?_
 refine AD.nil ?_
 refine AO.val rfl rfl (ix_row_ok T rfl rfl rfl rfl rfl rfl (hx48)) ?_
 refine AO.step rfl (store_row_ok T rfl rfl rfl rfl rfl (getI_get (hx48)) rfl rfl rfl rfl (u' := x45) rfl rfl) ?_
 refine AO.nil ?_
 refine AW.le (Le.ct 0 0 (σ' := (⟨[(0, .s (List.map encInt keys)), (5, .R 4), (7, v37)], [(4, .row 1 (List.map encInt ((v36.set v37.toNat x43).set x41.toNat x45)))], 47, []⟩ : St))) ?_
 refine AW.region ?_
 refine AO.pu T ?_
 refine AO.val rfl rfl (arw_ok rfl rfl rfl rfl) ?_
 refine AO.pu T ?_
 refine AO.nil ?_
 refine ⟨(k13, ((v36.set v37.toNat x43).set x41.toNat x45), w64 (v37 - 1)), hH, Nat.lt_succ_self _, ?_⟩
 exact Le.ct 0 0
 replace hH := condF hc hH
 refine AW.exit ?_
 refine AW.seq (AW.region ?_)
 iterate 2 refine AO.pu T ?_
 refine AO.nil (AW.ret ?_)
 cases someE hH
 exact retQ.i [4] rfl (.c (.c (.rowR rfl)))

def impl_shuffledNumbers_l1 (l : List Int) : List Int → Nat → List Int → Option ((List Int))
  | [], k3, v18 =>
    some v18
  | y4 :: ys5, k3, v18 =>
    (getI l y4).bind fun x20 =>
    (need (fitsB 8 (v18.length + ([x20]).length))).bind fun u22 =>
    impl_shuffledNumbers_l1 l ys5 (k3 + 1) (v18 ++ [x20])
def impl_shuffledNumbers_p (fuel : Nat) (keys : List Int) (l : List Int) : Option (List Int) :=
  (impl_shuffleOf_p fuel keys (l.length : Int)).bind fun x1 =>
  impl_shuffledNumbers_l1 l x1 0 []
theorem impl_shuffledNumbers_ok (fuel : Nat) (keys : List Int) (l : List Int) (r : (List Int)) (hH : impl_shuffledNumbers_p fuel keys l = some r) : SpecR Try.prog 69 [.s (List.map encInt keys), .s (List.map encInt l)] (.w 1 (r.map encInt)) := by
 refine fn_ok T Try.func69 rfl (by decide) rfl ?_
 refine AW.seq (AW.region ?_)
 refine AO.pu T ?_
 refine AO.nil (AW.seq ?_)
 refine AW.region ?_
 refine AO.step rfl (mk0_ok T rfl rfl rfl rfl) ?_
 refine AO.pu T ?_
 refine AO.nil ?_
 iterate 2 refine AW.seq ?_
 obtain ⟨x1, hx2, hH⟩ := bindE hH
 refine AW.region ?_
 iterate 2 refine AO.pu T ?_
 refine AO.val rfl rfl (len_map_ok T rfl rfl rfl) ?_
 refine AO.step rfl (call_ok rfl 1 rfl rfl rfl (impl_shuffleOf_ok fuel _ _ _ (hx2)) rfl rfl rfl) ?_
 refine AO.val rfl rfl (len_row_ok T rfl rfl rfl rfl) ?_
 refine AO.pu T ?_
 refine AO.nil ?_
 refine AW.block ?_
 refine AW.loopS (fun s : Nat × (List Int) => (⟨[(1, .s (List.map encInt l)), (5, .R 5), (12, .R 1), (13, (x1.length : Int)), (14, (s.1 : Int))], [(1, .row 1 (List.map encInt x1)), (5, .row 1 (List.map encInt s.2))], 27, []⟩ : St)) (fun s => s.1 ≤ x1.length ∧ impl_shuffledNumbers_l1 l (x1.drop s.1) s.1 s.2 = some r) (fun s => x1.length - s.1) (0, []) ⟨Nat.zero_le _, hH⟩ ?_ ?_
 refine Le.trans (Le.void 5 5 1 rfl rfl) ?_
 exact Le.ct 0 0
 rintro ⟨k3, v18⟩ ⟨hk, hH⟩
 replace hH : impl_shuffledNumbers_l1 l (x1.drop k3) k3 v18 = some r := hH
 try dsimp only
 refine AW.boundR (id := 1) (l := x1) rfl (fun hb7 => ?_)
 rcases hd6 : x1.drop k3 with _ | ⟨y4, ys5⟩
 rw [hd6, impl_shuffledNumbers_l1] at hH
 have hlt8 := drop_ge hd6
 refine AW.seq (AW.region ?_)
 refine AO.pu T ?_
 refine AO.nil (AW.seq ?_)
 refine AW.condF' (b := decide ((k3 : Int) < (x1.length : Int))) rfl (rngF hlt8) ?_
 refine AW.exit ?_
 refine AW.seq (AW.region ?_)
 iterate 2 refine AO.pu T ?_
 refine AO.nil (AW.ret ?_)
 cases someE hH
 exact retQ.i [5] rfl (.c (.c (.rowR rfl)))
 rw [hd6, impl_shuffledNumbers_l1] at hH
 have hlt8 := drop_lt hd6
 refine AW.seq (AW.region ?_)
 refine AO.pu T ?_
 refine AO.nil (AW.seq ?_)
 refine AW.condT' (b := decide ((k3 : Int) < (x1.length : Int))) rfl (rngT hlt8) ?_
 refine AW.skip ?_
 refine AW.seq ?_
 refine AW.block ?_
 refine AW.seq (AW.region ?_)
 refine AO.val rfl rfl (ix_row_ok T rfl rfl rfl rfl rfl rfl (getI_drop hd6)) ?_
 refine AO.val rfl rfl (load_row_ok T rfl rfl rfl rfl (getI_get (getI_drop hd6)) rfl rfl rfl) ?_
 refine AO.pu T ?_
 refine AO.nil ?_
 obtain ⟨x20, hx21, hH⟩ := bindE hH
 obtain ⟨u22, hx23, hH⟩ := bindE hH
 refine AW.region ?_
 iterate 3 refine AO.pu T ?_
 refine AO.val rfl rfl (ix_map_ok T rfl rfl rfl rfl rfl (hx21) rfl) ?_
 refine AO.pu T ?_
 refine AO.step rfl (mk_map_ok T rfl 6 rfl rfl rfl rfl rfl (f := encInt) (l := [x20]) rfl rfl (fun _ => rfl) rfl rfl rfl rfl rfl) ?_
 refine AO.step rfl (app_rv_map T rfl 7 rfl rfl rfl rfl rfl (by decide) rfl rfl rfl rfl (fun _ => rfl) (needT (hx23)) rfl rfl) ?_
 refine AO.pu T ?_
 refine AO.nil ?_
 refine AW.region ?_
 refine AO.val rfl rfl (ar_ok rfl rfl rfl rfl (inI_succ hlt8 hb7)) ?_
 refine AO.pu T ?_
 refine AO.nil ?_
 refine ⟨(k3 + 1, (v18 ++ [x20])), ⟨Nat.succ_le_of_lt hlt8, (by rw [drop_succ_of hd6]; exact hH)⟩, (by have := hlt8; dsimp only; omega), ?_⟩
 exact Le.ct 7 5

def impl_without_l1 (other : List Int) : List Int → Nat → List Int → Option ((List Int))
  | [], k1, v16 =>
    some v16
  | y2 :: ys3, k1, v16 =>
    (slices_Contains_int_p other y2).bind fun x18 =>
    cond (!x18)
      ((need (fitsB 8 (v16.length + ([y2]).length))).bind fun u20 =>
      impl_without_l1 other ys3 (k1 + 1) (v16 ++ [y2]))
      (impl_without_l1 other ys3 (k1 + 1) v16)
def impl_without_p (l : List Int) (other : List Int) : Option (List Int) :=
  impl_without_l1 other l 0 []
theorem impl_without_ok (l : List Int) (other : List Int) (r : (List Int)) (hH : impl_without_p l other = some r) : SpecR Try.prog 83 [.s (List.map encInt l), .s (List.map encInt other)] (.w 1 (r.map encInt)) := by
 refine fn_ok T Try.func83 rfl (by decide) rfl ?_
 refine AW.seq (AW.region ?_)
 refine AO.pu T ?_
 refine AO.nil (AW.seq ?_)
 refine AW.region ?_
 refine AO.step rfl (mk0_ok T rfl rfl rfl rfl) ?_
 refine AO.pu T ?_
 refine AO.nil ?_
 iterate 2 refine AW.seq ?_
 refine AW.region ?_
 refine AO.pu T ?_
 refine AO.val rfl rfl (len_map_ok T rfl rfl rfl) ?_
 refine AO.pu T ?_
 refine AO.nil ?_
 refine AW.block ?_
 refine AW.loopS (fun s : Nat × (List Int) => (⟨[(1, .s (List.map encInt other)), (5, .R 4), (9, .s (List.map encInt l)), (10, (l.length : Int)), (11, (s.1 : Int))], [(4, .row 1 (List.map encInt s.2))], 25, []⟩ : St)) (fun s => s.1 ≤ l.length ∧ impl_without_l1 other (l.drop s.1) s.1 s.2 = some r) (fun s => l.length - s.1) (0, []) ⟨Nat.zero_le _, hH⟩ ?_ ?_
 refine Le.trans (Le.void 5 4 1 rfl rfl) ?_
 exact Le.ct 0 0
 rintro ⟨k1, v16⟩ ⟨hk, hH⟩
 replace hH : impl_without_l1 other (l.drop k1) k1 v16 = some r := hH
 try dsimp only
 refine AW.boundM (t := 9) (l := l) rfl (fun hb5 => ?_)
 rcases hd4 : l.drop k1 with _ | ⟨y2, ys3⟩
 rw [hd4, impl_without_l1] at hH
 have hlt6 := drop_ge hd4
 refine AW.seq (AW.region ?_)
 refine AO.pu T ?_
 refine AO.nil (AW.seq ?_)
 refine AW.condF' (b := decide ((k1 : Int) < (l.length : Int))) rfl (rngF hlt6) ?_
 refine AW.exit ?_
 refine AW.seq (AW.region ?_)
 iterate 2 refine AO.pu T ?_
 refine AO.nil (AW.ret ?_)
 cases someE hH
 exact retQ.i [4] rfl (.c (.c (.rowR rfl)))
 rw [hd4, impl_without_l1] at hH
 have hlt6 := drop_lt hd4
 refine AW.seq (AW.region ?_)
 refine AO.pu T ?_
 refine AO.nil (AW.seq ?_)
 refine AW.condT' (b := decide ((k1 : Int) < (l.length : Int))) rfl (rngT hlt6) ?_
 refine AW.skip ?_
 refine AW.seq ?_
 refine AW.block ?_
 refine AW.seq (AW.region ?_)
 refine AO.val rfl rfl (ix_map_ok T rfl rfl rfl rfl rfl (getI_drop hd4) rfl) ?_
 iterate 2 refine AO.pu T ?_
 refine AO.nil (AW.seq ?_)
 obtain ⟨x18, hx19, hH⟩ := bindE hH
 refine AW.region ?_
 iterate 2 refine AO.pu T ?_
 refine AO.val rfl rfl (callV_ok rfl rfl rfl rfl (slices_Contains_int_ok _ _ _ (hx19)) rfl) ?_
 refine AO.pu T ?_
 refine AO.nil ?_
 refine AW.cond (b := (!x18)) rfl (fun hc => ?_) (fun hc => ?_)
 replace hH := condT hc hH
 obtain ⟨u20, hx21, hH⟩ := bindE hH
 refine AW.region ?_
 iterate 2 refine AO.pu T ?_
 refine AO.step rfl (mk_map_ok T rfl 5 rfl rfl rfl rfl rfl (f := encInt) (l := [y2]) rfl rfl (fun _ => rfl) rfl rfl rfl rfl rfl) ?_
 refine AO.step rfl (app_rv_map T rfl 6 rfl rfl rfl rfl rfl (by decide) rfl rfl rfl rfl (fun _ => rfl) (needT (hx21)) rfl rfl) ?_
 refine AO.pu T ?_
 refine AO.nil ?_
 refine AW.region ?_
 refine AO.val rfl rfl (ar_ok rfl rfl rfl rfl (inI_succ hlt6 hb5)) ?_
 refine AO.pu T ?_
 refine AO.nil ?_
 refine ⟨(k1 + 1, (v16 ++ [y2])), ⟨Nat.succ_le_of_lt hlt6, (by rw [drop_succ_of hd4]; exact hH)⟩, (by have := hlt6; dsimp only; omega), ?_⟩
 exact Le.ct 6 4
 replace hH := condF hc hH
 refine AW.skip ?_
 refine AW.region ?_
 refine AO.val rfl rfl (ar_ok rfl rfl rfl rfl (inI_succ hlt6 hb5)) ?_
 refine AO.pu T ?_
 refine AO.nil ?_
 refine ⟨(k1 + 1, v16), ⟨Nat.succ_le_of_lt hlt6, (by rw [drop_succ_of hd4]; exact hH)⟩, (by have := hlt6; dsimp only; omega), ?_⟩
 exact Le.ct 0 0

def impl_ReplaceJudge_l1 (l : List Official) (clubs : List Int) (level : Int) (most : Int) (panel : List Int) (gone : Int) (fuel : Nat) : List Int → Nat → Option (((List Int) × Bool))
  | [], k13 =>
    some ([], false)
  | y14 :: ys15, k13 =>
    (slices_Contains_int_p panel y14).bind fun x40 =>
    cond x40
      (impl_ReplaceJudge_l1 l clubs level most panel gone fuel ys15 (k13 + 1))
      ((impl_without_p panel [gone]).bind fun x42 =>
      (need (fitsB 8 (x42.length + ([y14]).length))).bind fun u44 =>
      (slices_Sort_int_p (x42 ++ [y14])).bind fun x46 =>
      (impl_isPanel_p fuel l clubs level most x46).bind fun x48 =>
      cond x48
        (some (x46, true))
        (impl_ReplaceJudge_l1 l clubs level most panel gone fuel ys15 (k13 + 1)))
def impl_ReplaceJudge_p (fuel : Nat) (keys : List Int) (l : List Official) (clubs : List Int) (level : Int) (most : Int) (panel : List Int) (gone : Int) : Option ((List Int) × Bool) :=
  (impl_areKeys_p keys 6).bind fun x1 =>
  (opt (!(!x1)) default (impl_canPanel_p l clubs level most)).bind fun x3 =>
  (opt (!((!x1) || (!x3))) default (impl_isPanel_p fuel l clubs level most panel)).bind fun x5 =>
  (opt (!(((!x1) || (!x3)) || (!x5))) default (slices_Contains_int_p panel gone)).bind fun x7 =>
  cond ((((!x1) || (!x3)) || (!x5)) || (!x7))
    (some ([], false))
    ((impl_eligible_p l clubs level).bind fun x9 =>
    (impl_shuffledNumbers_p fuel keys x9).bind fun x11 =>
    impl_ReplaceJudge_l1 l clubs level most panel gone fuel x11 0)
theorem impl_ReplaceJudge_ok (fuel : Nat) (keys : List Int) (l : List Official) (clubs : List Int) (level : Int) (most : Int) (panel : List Int) (gone : Int) (r : ((List Int) × Bool)) (hH : impl_ReplaceJudge_p fuel keys l clubs level most panel gone = some r) : SpecR Try.prog 24 [.s (List.map encInt keys), .s (List.map encOfficial l), .s (List.map encInt clubs), level, most, .s (List.map encInt panel), gone] (.t [.w 1 (r.1.map encInt), .v (.bool r.2)]) := by
 refine fn_ok T Try.func24 rfl (by decide) rfl ?_
 refine AW.seq (AW.region ?_)
 iterate 2 refine AO.pu T ?_
 refine AO.nil ?_
 iterate 2 refine AW.seq ?_
 obtain ⟨x1, hx2, hH⟩ := bindE hH
 obtain ⟨x3, hx4, hH⟩ := bindE hH
 obtain ⟨x5, hx6, hH⟩ := bindE hH
 obtain ⟨x7, hx8, hH⟩ := bindE hH
 refine AW.region ?_
 refine AO.pu T ?_
 refine AO.val rfl rfl (callV_ok rfl rfl rfl rfl (impl_areKeys_ok _ _ _ (hx2)) rfl) ?_
 iterate 2 refine AO.pu T ?_
 iterate 4 refine AO.pureG T [] rfl trivial rfl rfl ?_
 refine AO.guard [23, 24, 25, 26] rfl ⟨fun h => h, fun h => h, fun h => h, fun h => h, trivial⟩ (fun hg => callV_ok rfl rfl rfl rfl (impl_canPanel_ok _ _ _ _ _ (optT hx4 hg)) rfl) rfl ?_
 refine AO.pureG T [27] rfl ⟨fun h => h, trivial⟩ rfl rfl ?_
 refine AO.val rfl rfl (pick_or rfl rfl rfl rfl) ?_
 refine AO.pu T ?_
 iterate 5 refine AO.pureG T [] rfl trivial rfl rfl ?_
 refine AO.guard [31, 32, 33, 34, 35] rfl ⟨fun h => h, fun h => h, fun h => h, fun h => h, fun h => h, trivial⟩ (fun hg => callV_ok rfl rfl rfl rfl (impl_isPanel_ok fuel _ _ _ _ _ _ (optT hx6 hg)) rfl) rfl ?_
 refine AO.pureG T [36] rfl ⟨fun h => h, trivial⟩ rfl rfl ?_
 refine AO.val rfl rfl (pick_or rfl rfl rfl rfl) ?_
 refine AO.pu T ?_
 iterate 2 refine AO.pureG T [] rfl trivial rfl rfl ?_
 refine AO.guard [40, 41] rfl ⟨fun h => h, fun h => h, trivial⟩ (fun hg => callV_ok rfl rfl rfl rfl (slices_Contains_int_ok _ _ _ (optT hx8 hg)) rfl) rfl ?_
 refine AO.pureG T [42] rfl ⟨fun h => h, trivial⟩ rfl rfl ?_
 refine AO.val rfl rfl (pick_or rfl rfl rfl rfl) ?_
 refine AO.nil ?_
 refine AW.le (Le.ct 0 0 (σ' := (⟨[(0, .s (List.map encInt keys)), (1, .s (List.map encOfficial l)), (2, .s (List.map encInt clubs)), (3, level), (4, most), (5, .s (List.map encInt panel)), (6, gone), (44, .v (.bool ((((!x1) || (!x3)) || (!x5)) || (!x7))))], [], 76, []⟩ : St))) ?_
 refine AW.cond (b := ((((!x1) || (!x3)) || (!x5)) || (!x7))) rfl (fun hc => ?_) (fun hc => ?_)
 replace hH := condT hc hH
 refine AW.seq (AW.region ?_)
 iterate 2 refine AO.pu T ?_
 refine AO.nil (AW.ret ?_)
 cases someE hH
 exact retQ.i [] rfl (.t (expLG_cons (.c .nil) (expLG_cons (.c .v) (expLG_nil))))
 replace hH := condF hc hH
 refine AW.skip ?_
 iterate 2 refine AW.seq ?_
 obtain ⟨x9, hx10, hH⟩ := bindE hH
 obtain ⟨x11, hx12, hH⟩ := bindE hH
 refine AW.region ?_
 iterate 4 refine AO.pu T ?_
 refine AO.step rfl (call_ok rfl 1 rfl rfl rfl (impl_eligible_ok _ _ _ _ (hx10)) rfl rfl rfl) ?_
 refine AO.step rfl (callL_ok rfl 2 rfl rfl (es := [.s (List.map encInt keys), .s (List.map encInt x9)]) (by exact ⟨.free rfl, (.rowR rfl (.map fun y => .vs rfl)), trivial⟩) (impl_shuffledNumbers_ok fuel _ _ _ (hx12)) (zfree_map (fun y => (.cons (zfree_v _) .nil))) rfl rfl rfl) ?_
 refine AO.val rfl rfl (len_row_ok T rfl rfl rfl rfl) ?_
 refine AO.pu T ?_
 refine AO.nil ?_
 refine AW.block ?_
 refine AW.loopS (fun s : Nat => (⟨[(1, .s (List.map encOfficial l)), (2, .s (List.map encInt clubs)), (3, level), (4, most), (5, .s (List.map encInt panel)), (6, gone), (50, .R 2), (51, (x11.length : Int)), (52, (s : Int))], [(2, .row 1 (List.map encInt x11))], 76, []⟩ : St)) (fun s => s ≤ x11.length ∧ impl_ReplaceJudge_l1 l clubs level most panel gone fuel (x11.drop s) s = some r) (fun s => x11.length - s) 0 ⟨Nat.zero_le _, hH⟩ ?_ ?_
 exact Le.ct 0 0
 rintro k13 ⟨hk, hH⟩
 replace hH : impl_ReplaceJudge_l1 l clubs level most panel gone fuel (x11.drop k13) k13 = some r := hH
 try dsimp only
 refine AW.boundR (id := 2) (l := x11) rfl (fun hb17 => ?_)
 rcases hd16 : x11.drop k13 with _ | ⟨y14, ys15⟩
 rw [hd16, impl_ReplaceJudge_l1] at hH
 have hlt18 := drop_ge hd16
 refine AW.seq (AW.region ?_)
 refine AO.pu T ?_
 refine AO.nil (AW.seq ?_)
 refine AW.condF' (b := decide ((k13 : Int) < (x11.length : Int))) rfl (rngF hlt18) ?_
 refine AW.exit ?_
 refine AW.seq (AW.region ?_)
 iterate 2 refine AO.pu T ?_
 refine AO.nil (AW.ret ?_)
 cases someE hH
 exact retQ.i [] rfl (.t (expLG_cons (.c .nil) (expLG_cons (.c .v) (expLG_nil))))
 rw [hd16, impl_ReplaceJudge_l1] at hH
 have hlt18 := drop_lt hd16
 refine AW.seq (AW.region ?_)
 refine AO.pu T ?_
 refine AO.nil (AW.seq ?_)
 refine AW.condT' (b := decide ((k13 : Int) < (x11.length : Int))) rfl (rngT hlt18) ?_
 refine AW.skip ?_
 refine AW.seq ?_
 refine AW.block ?_
 refine AW.seq (AW.region ?_)
 refine AO.val rfl rfl (ix_row_ok T rfl rfl rfl rfl rfl rfl (getI_drop hd16)) ?_
 refine AO.val rfl rfl (load_row_ok T rfl rfl rfl rfl (getI_get (getI_drop hd16)) rfl rfl rfl) ?_
 refine AO.pu T ?_
 refine AO.nil ?_
 iterate 2 refine AW.seq ?_
 obtain ⟨x40, hx41, hH⟩ := bindE hH
 refine AW.region ?_
 iterate 2 refine AO.pu T ?_
 refine AO.val rfl rfl (callV_ok rfl rfl rfl rfl (slices_Contains_int_ok _ _ _ (hx41)) rfl) ?_
 refine AO.nil ?_
 refine AW.cond (b := x40) rfl (fun hc => ?_) (fun hc => ?_)
 replace hH := condT hc hH
 refine AW.exit ?_
 refine AW.region ?_
 refine AO.val rfl rfl (ar_ok rfl rfl rfl rfl (inI_succ hlt18 hb17)) ?_
 refine AO.pu T ?_
 refine AO.nil ?_
 refine ⟨k13 + 1, ⟨Nat.succ_le_of_lt hlt18, (by rw [drop_succ_of hd16]; exact hH)⟩, (by have := hlt18; dsimp only; omega), ?_⟩
 exact Le.ct 0 0
 replace hH := condF hc hH
 refine AW.skip ?_
 refine AW.seq ?_
 obtain ⟨x42, hx43, hH⟩ := bindE hH
 obtain ⟨u44, hx45, hH⟩ := bindE hH
 refine AW.region ?_
 iterate 2 refine AO.pu T ?_
 refine AO.step rfl (mk_map_ok T rfl 11 rfl rfl rfl rfl rfl (f := encInt) (l := [gone]) rfl rfl (fun _ => rfl) rfl rfl rfl rfl rfl) ?_
 refine AO.step rfl (callL_ok rfl 12 rfl rfl (es := [.s (List.map encInt panel), .s (List.map encInt [gone])]) (by exact ⟨.free rfl, (.rowR rfl (.map fun y => .vs rfl)), trivial⟩) (impl_without_ok _ _ _ (hx43)) (zfree_map (fun y => (.cons (zfree_v _) .nil))) rfl rfl rfl) ?_
 refine AO.pu T ?_
 refine AO.step rfl (mk_map_ok T rfl 13 rfl rfl rfl rfl rfl (f := encInt) (l := [y14]) rfl rfl (fun _ => rfl) rfl rfl rfl rfl rfl) ?_
 refine AO.step rfl (app_rv_map T rfl 14 rfl rfl rfl rfl rfl (by decide) rfl rfl rfl rfl (fun _ => rfl) (needT (hx45)) rfl rfl) ?_
 refine AO.pu T ?_
 refine AO.nil (AW.seq ?_)
 obtain ⟨x46, hx47, hH⟩ := bindE hH
 refine AW.region ?_
 refine AO.pu T ?_
 refine AO.step rfl (callM_ok rfl 15 rfl rfl (es := [.w 1 ((x42 ++ [y14]).map encInt)]) (outs := [.w 1 (x46.map encInt)]) (ids := [14]) (by exact expLG_cons (.c (.rowR rfl)) (expLG_nil)) (by decide) (.inl (by rfl)) (by rfl) (slices_Sort_int_ok _ _ (hx47)) rfl (by rfl) rfl) ?_
 refine AO.nil (AW.seq ?_)
 obtain ⟨x48, hx49, hH⟩ := bindE hH
 refine AW.region ?_
 iterate 5 refine AO.pu T ?_
 refine AO.val rfl rfl (callLV_ok rfl rfl rfl (es := [.s (List.map encOfficial l), .s (List.map encInt clubs), level, most, .s (List.map encInt x46)]) ⟨.free rfl, .free rfl, .free rfl, .free rfl, (.rowR rfl (.map fun y => .vs rfl)), trivial⟩ (impl_isPanel_ok fuel _ _ _ _ _ _ (hx49)) (zfree_v _) rfl) ?_
 refine AO.nil ?_
 refine AW.cond (b := x48) rfl (fun hc => ?_) (fun hc => ?_)
 replace hH := condT hc hH
 refine AW.seq (AW.region ?_)
 iterate 3 refine AO.pu T ?_
 refine AO.nil ?_
 refine AW.le (Le.ct 0 0 (σ' := (⟨[(14, .R 14), (15, .v (.bool true))], [(14, .row 1 (List.map encInt x46))], 76, []⟩ : St))) ?_
 refine AW.ret ?_
 cases someE hH
 exact retQ.i [14] rfl (.t (expLG_cons (.c (.rowR rfl)) (expLG_cons (.c .v) (expLG_nil))))
 replace hH := condF hc hH
 refine AW.skip ?_
 refine AW.region ?_
 refine AO.val rfl rfl (ar_ok rfl rfl rfl rfl (inI_succ hlt18 hb17)) ?_
 refine AO.pu T ?_
 refine AO.nil ?_
 refine ⟨k13 + 1, ⟨Nat.succ_le_of_lt hlt18, (by rw [drop_succ_of hd16]; exact hH)⟩, (by have := hlt18; dsimp only; omega), ?_⟩
 exact Le.ct 0 0

def laws_eqIntS_l1 (b : List Int) : List Int → Nat → Option Bool
  | [], k1 =>
    some true
  | y2 :: ys3, k1 =>
    (getI b (k1 : Int)).bind fun x12 =>
    cond (y2 != x12)
      (some false)
      (laws_eqIntS_l1 b ys3 (k1 + 1))
def laws_eqIntS_p (a : List Int) (b : List Int) : Option Bool :=
  cond ((a.length : Int) != (b.length : Int))
    (some false)
    (laws_eqIntS_l1 b a 0)
theorem laws_eqIntS_ok (a : List Int) (b : List Int) (r : Bool) (hH : laws_eqIntS_p a b = some r) : SpecR Try.prog 14 [.s (List.map encInt a), .s (List.map encInt b)] (.v (.bool r)) := by
 refine fn_ok T Try.func14 rfl (by decide) rfl ?_
 refine AW.seq (AW.region ?_)
 refine AO.pu T ?_
 refine AO.nil ?_
 iterate 2 refine AW.seq ?_
 refine AW.region ?_
 refine AO.pu T ?_
 refine AO.val rfl rfl (len_map_ok T rfl rfl rfl) ?_
 refine AO.pu T ?_
 refine AO.val rfl rfl (len_map_ok T rfl rfl rfl) ?_
 refine AO.pu T ?_
 refine AO.nil ?_
 refine AW.cond (b := ((a.length : Int) != (b.length : Int))) rfl (fun hc => ?_) (fun hc => ?_)
 replace hH := condT hc hH
 refine AW.seq (AW.region ?_)
 refine AO.pu T ?_
 refine AO.nil (AW.ret ?_)
 cases someE hH
 exact retQ.i [] rfl (.c (.c .v))
 replace hH := condF hc hH
 refine AW.skip ?_
 iterate 2 refine AW.seq ?_
 refine AW.region ?_
 refine AO.pu T ?_
 refine AO.nil ?_
 refine AW.block ?_
 refine AW.loopS (fun s : Nat => (⟨[(0, .s (List.map encInt a)), (1, .s (List.map encInt b)), (5, (s : Int))], [], 26, []⟩ : St)) (fun s => s ≤ a.length ∧ laws_eqIntS_l1 b (a.drop s) s = some r) (fun s => a.length - s) 0 ⟨Nat.zero_le _, hH⟩ ?_ ?_
 exact Le.ct 0 0
 rintro k1 ⟨hk, hH⟩
 replace hH : laws_eqIntS_l1 b (a.drop k1) k1 = some r := hH
 try dsimp only
 refine AW.boundM (t := 0) (l := a) rfl (fun hb5 => ?_)
 rcases hd4 : a.drop k1 with _ | ⟨y2, ys3⟩
 rw [hd4, laws_eqIntS_l1] at hH
 have hlt6 := drop_ge hd4
 iterate 2 refine AW.seq ?_
 refine AW.region ?_
 iterate 2 refine AO.pu T ?_
 refine AO.val rfl rfl (len_map_ok T rfl rfl rfl) ?_
 refine AO.pu T ?_
 refine AO.nil ?_
 refine AW.condF' (b := decide ((k1 : Int) < (a.length : Int))) rfl (rngF hlt6) ?_
 refine AW.exit ?_
 refine AW.seq (AW.region ?_)
 refine AO.pu T ?_
 refine AO.nil (AW.ret ?_)
 cases someE hH
 exact retQ.i [] rfl (.c (.c .v))
 rw [hd4, laws_eqIntS_l1] at hH
 have hlt6 := drop_lt hd4
 iterate 2 refine AW.seq ?_
 refine AW.region ?_
 iterate 2 refine AO.pu T ?_
 refine AO.val rfl rfl (len_map_ok T rfl rfl rfl) ?_
 refine AO.pu T ?_
 refine AO.nil ?_
 refine AW.condT' (b := decide ((k1 : Int) < (a.length : Int))) rfl (rngT hlt6) ?_
 refine AW.skip ?_
 refine AW.seq ?_
 refine AW.block ?_
 refine AW.seq ?_
 obtain ⟨x12, hx13, hH⟩ := bindE hH
 refine AW.drawn 8 1 [] mix (by kernel_rfl) rfl ?_
 iterate 2 refine AD.pure T rfl rfl rfl ?_
 refine AD.val rfl rfl (ix_map_ok T rfl rfl rfl rfl rfl (getI_drop hd4) rfl) ?_
 iterate 3 refine AD.pure T rfl rfl rfl ?_
 refine AD.val rfl rfl (ix_map_ok T rfl rfl rfl rfl rfl (hx13) rfl) ?_
 refine AD.pure T rfl rfl rfl ?_
 refine AD.nil ?_
 refine AO.pu T ?_
 refine AO.nil ?_
 refine AW.cond (b := (y2 != x12)) rfl (fun hc => ?_) (fun hc => ?_)
 replace hH := condT hc hH
 refine AW.seq (AW.region ?_)
 refine AO.pu T ?_
 refine AO.nil (AW.ret ?_)
 cases someE hH
 exact retQ.i [] rfl (.c (.c .v))
 replace hH := condF hc hH
 refine AW.skip ?_
 refine AW.region ?_
 refine AO.pu T ?_
 refine AO.val rfl rfl (ar_ok rfl rfl rfl rfl (inI_succ hlt6 hb5)) ?_
 refine AO.pu T ?_
 refine AO.nil ?_
 refine ⟨k1 + 1, ⟨Nat.succ_le_of_lt hlt6, (by rw [drop_succ_of hd4]; exact hH)⟩, (by have := hlt6; dsimp only; omega), ?_⟩
 exact Le.ct 0 0

def laws_eqOfficial_p (a : Official) (b : Official) : Option Bool :=
  cond (a.number != b.number)
    (some false)
    (cond (a.club != b.club)
      (some false)
      (cond (a.level != b.level)
        (some false)
        (some true)))
theorem laws_eqOfficial_ok (a : Official) (b : Official) (r : Bool) (hH : laws_eqOfficial_p a b = some r) : SpecR Try.prog 71 [.g (encOfficial a), .g (encOfficial b)] (.v (.bool r)) := by
 refine fn_ok T Try.func71 rfl (by decide) rfl ?_
 refine AW.seq (AW.region ?_)
 refine AO.step rfl (box_ok T rfl 1 rfl rfl rfl rfl) ?_
 refine AO.step rfl (box_ok T rfl 2 rfl rfl rfl rfl) ?_
 refine AO.pu T ?_
 refine AO.nil ?_
 iterate 2 refine AW.seq ?_
 refine AW.region ?_
 iterate 5 refine AO.pu T ?_
 refine AO.nil ?_
 refine AW.cond (b := (a.number != b.number)) rfl (fun hc => ?_) (fun hc => ?_)
 replace hH := condT hc hH
 refine AW.seq (AW.region ?_)
 refine AO.pu T ?_
 refine AO.nil (AW.ret ?_)
 cases someE hH
 exact retQ.i [] rfl (.c (.c .v))
 replace hH := condF hc hH
 refine AW.skip ?_
 iterate 2 refine AW.seq ?_
 refine AW.region ?_
 iterate 5 refine AO.pu T ?_
 refine AO.nil ?_
 refine AW.cond (b := (a.club != b.club)) rfl (fun hc => ?_) (fun hc => ?_)
 replace hH := condT hc hH
 refine AW.seq (AW.region ?_)
 refine AO.pu T ?_
 refine AO.nil (AW.ret ?_)
 cases someE hH
 exact retQ.i [] rfl (.c (.c .v))
 replace hH := condF hc hH
 refine AW.skip ?_
 iterate 2 refine AW.seq ?_
 refine AW.region ?_
 iterate 5 refine AO.pu T ?_
 refine AO.nil ?_
 refine AW.cond (b := (a.level != b.level)) rfl (fun hc => ?_) (fun hc => ?_)
 replace hH := condT hc hH
 refine AW.seq (AW.region ?_)
 refine AO.pu T ?_
 refine AO.nil (AW.ret ?_)
 cases someE hH
 exact retQ.i [] rfl (.c (.c .v))
 replace hH := condF hc hH
 refine AW.skip ?_
 refine AW.seq (AW.region ?_)
 refine AO.pu T ?_
 refine AO.nil (AW.ret ?_)
 cases someE hH
 exact retQ.i [] rfl (.c (.c .v))

def laws_eqOfficialS_l1 (b : List Official) : List Official → Nat → Option Bool
  | [], k1 =>
    some true
  | y2 :: ys3, k1 =>
    (getI b (k1 : Int)).bind fun x16 =>
    (laws_eqOfficial_p y2 x16).bind fun x18 =>
    cond (!x18)
      (some false)
      (laws_eqOfficialS_l1 b ys3 (k1 + 1))
def laws_eqOfficialS_p (a : List Official) (b : List Official) : Option Bool :=
  cond ((a.length : Int) != (b.length : Int))
    (some false)
    (laws_eqOfficialS_l1 b a 0)
theorem laws_eqOfficialS_ok (a : List Official) (b : List Official) (r : Bool) (hH : laws_eqOfficialS_p a b = some r) : SpecR Try.prog 15 [.s (List.map encOfficial a), .s (List.map encOfficial b)] (.v (.bool r)) := by
 refine fn_ok T Try.func15 rfl (by decide) rfl ?_
 refine AW.seq (AW.region ?_)
 refine AO.pu T ?_
 refine AO.nil ?_
 iterate 2 refine AW.seq ?_
 refine AW.region ?_
 refine AO.pu T ?_
 refine AO.val rfl rfl (len_map_ok T rfl rfl rfl) ?_
 refine AO.pu T ?_
 refine AO.val rfl rfl (len_map_ok T rfl rfl rfl) ?_
 refine AO.pu T ?_
 refine AO.nil ?_
 refine AW.cond (b := ((a.length : Int) != (b.length : Int))) rfl (fun hc => ?_) (fun hc => ?_)
 replace hH := condT hc hH
 refine AW.seq (AW.region ?_)
 refine AO.pu T ?_
 refine AO.nil (AW.ret ?_)
 cases someE hH
 exact retQ.i [] rfl (.c (.c .v))
 replace hH := condF hc hH
 refine AW.skip ?_
 iterate 2 refine AW.seq ?_
 refine AW.region ?_
 refine AO.pu T ?_
 refine AO.nil ?_
 refine AW.block ?_
 refine AW.loopS (fun s : Nat => (⟨[(0, .s (List.map encOfficial a)), (1, .s (List.map encOfficial b)), (5, (s : Int))], [], 27, []⟩ : St)) (fun s => s ≤ a.length ∧ laws_eqOfficialS_l1 b (a.drop s) s = some r) (fun s => a.length - s) 0 ⟨Nat.zero_le _, hH⟩ ?_ ?_
 exact Le.ct 0 0
 rintro k1 ⟨hk, hH⟩
 replace hH : laws_eqOfficialS_l1 b (a.drop k1) k1 = some r := hH
 try dsimp only
 refine AW.boundM (t := 0) (l := a) rfl (fun hb5 => ?_)
 rcases hd4 : a.drop k1 with _ | ⟨y2, ys3⟩
 rw [hd4, laws_eqOfficialS_l1] at hH
 have hlt6 := drop_ge hd4
 iterate 2 refine AW.seq ?_
 refine AW.region ?_
 iterate 2 refine AO.pu T ?_
 refine AO.val rfl rfl (len_map_ok T rfl rfl rfl) ?_
 refine AO.pu T ?_
 refine AO.nil ?_
 refine AW.condF' (b := decide ((k1 : Int) < (a.length : Int))) rfl (rngF hlt6) ?_
 refine AW.exit ?_
 refine AW.seq (AW.region ?_)
 refine AO.pu T ?_
 refine AO.nil (AW.ret ?_)
 cases someE hH
 exact retQ.i [] rfl (.c (.c .v))
 rw [hd4, laws_eqOfficialS_l1] at hH
 have hlt6 := drop_lt hd4
 iterate 2 refine AW.seq ?_
 refine AW.region ?_
 iterate 2 refine AO.pu T ?_
 refine AO.val rfl rfl (len_map_ok T rfl rfl rfl) ?_
 refine AO.pu T ?_
 refine AO.nil ?_
 refine AW.condT' (b := decide ((k1 : Int) < (a.length : Int))) rfl (rngT hlt6) ?_
 refine AW.skip ?_
 refine AW.seq ?_
 refine AW.block ?_
 refine AW.seq ?_
 obtain ⟨x16, hx17, hH⟩ := bindE hH
 obtain ⟨x18, hx19, hH⟩ := bindE hH
 refine AW.drawn 8 1 [] mix (by kernel_rfl) rfl ?_
 iterate 2 refine AD.pure T rfl rfl rfl ?_
 refine AD.val rfl rfl (ix_map_ok T rfl rfl rfl rfl rfl (getI_drop hd4) rfl) ?_
 refine AD.pure T (d := .g [y2.number, y2.club, y2.level]) rfl rfl rfl ?_
 iterate 2 refine AD.pure T rfl rfl rfl ?_
 refine AD.val rfl rfl (ix_map_ok T rfl rfl rfl rfl rfl (hx17) rfl) ?_
 refine AD.pure T (d := .g [x16.number, x16.club, x16.level]) rfl rfl rfl ?_
 refine AD.nil ?_
 refine AO.val rfl rfl (callV_ok rfl rfl rfl rfl (laws_eqOfficial_ok _ _ _ (hx19)) rfl) ?_
 refine AO.pu T ?_
 refine AO.nil ?_
 refine AW.cond (b := (!x18)) rfl (fun hc => ?_) (fun hc => ?_)
 replace hH := condT hc hH
 refine AW.seq (AW.region ?_)
 refine AO.pu T ?_
 refine AO.nil (AW.ret ?_)
 cases someE hH
 exact retQ.i [] rfl (.c (.c .v))
 replace hH := condF hc hH
 refine AW.skip ?_
 refine AW.region ?_
 refine AO.pu T ?_
 refine AO.val rfl rfl (ar_ok rfl rfl rfl rfl (inI_succ hlt6 hb5)) ?_
 refine AO.pu T ?_
 refine AO.nil ?_
 refine ⟨k1 + 1, ⟨Nat.succ_le_of_lt hlt6, (by rw [drop_succ_of hd4]; exact hH)⟩, (by have := hlt6; dsimp only; omega), ?_⟩
 exact Le.ct 0 0

def laws_markIntS_l1 : Nat → List Int → Int → Int → Option (((List Int) × Int))
  | 0, _, _, _ => none
  | k1 + 1, v9, v10, v11 =>
    cond (decide (v11 < (v9.length : Int)))
      ((getI v9 v11).bind fun x13 =>
      laws_markIntS_l1 k1 (v9.set v11.toNat v10) (w64 (v10 + 1)) (w64 (v11 + 1)))
      (some (v9, v10))
def laws_markIntS_p (fuel : Nat) (a : List Int) (k : Int) : Option ((List Int) × Int) :=
  laws_markIntS_l1 fuel a k 0
theorem laws_markIntS_ok (fuel : Nat) (a : List Int) (k : Int) (r : ((List Int) × Int)) (hH : laws_markIntS_p fuel a k = some r) : SpecM Try.prog 16 [.w 1 (a.map encInt), k] [.w 1 (r.1.map encInt), .u] (.v (.int .i64 r.2)) := by
 refine fn_okM T Try.func16 rfl (by decide) rfl rfl ?_
 intro L
 show AW _ _ _ (⟨[(0, .R 1), (1, k)], [(1, .row 1 (List.map encInt a))], 19, [(1, L 1)]⟩ : St)
 refine AW.seq (AW.region ?_)
 refine AO.pu T ?_
 refine AO.nil ?_
 iterate 2 refine AW.seq ?_
 refine AW.region ?_
 refine AO.pu T ?_
 refine AO.nil ?_
 refine AW.block ?_
 refine AW.loopS (fun s : Nat × (List Int) × Int × Int => (⟨[(0, .R 1), (1, s.2.2.1), (5, s.2.2.2)], [(1, .row 1 (List.map encInt s.2.1))], 19, [(1, L 1)]⟩ : St)) (fun s => laws_markIntS_l1 s.1 s.2.1 s.2.2.1 s.2.2.2 = some r) (fun s => s.1) (fuel, a, k, 0) hH ?_ ?_
 exact Le.ct 0 0 (hpin := ⟨⟨rfl, rfl⟩, trivial⟩)
 rintro ⟨k1, v9, v10, v11⟩ hH
 replace hH : laws_markIntS_l1 k1 v9 v10 v11 = some r := hH
 try dsimp only
 rcases k1 with _ | k1
 cases (show none = some _ from hH)
 rw [laws_markIntS_l1] at hH
 iterate 2 refine AW.seq ?_
 refine AW.region ?_
 iterate 2 refine AO.pu T ?_
 refine AO.val rfl rfl (len_row_ok T rfl rfl rfl rfl) ?_
 refine AO.pu T ?_
 refine AO.nil ?_
 refine AW.cond (b := decide (v11 < (v9.length : Int))) rfl (fun hc => ?_) (fun hc => ?_)
 replace hH := condT hc hH
 refine AW.skip ?_
 refine AW.seq ?_
 refine AW.block ?_
 refine AW.seq ?_
 obtain ⟨x13, hx14, hH⟩ := bindE hH
 refine AW.region ?_
 iterate 3 refine AO.pu T ?_
 refine AO.val rfl rfl (ix_row_ok T rfl rfl rfl rfl rfl rfl (hx14)) ?_
 refine AO.step rfl (store_row_ok T rfl rfl rfl rfl rfl (getI_get (hx14)) rfl rfl rfl rfl (u' := v10) rfl rfl) ?_
 refine AO.nil ?_
 refine AW.region ?_
 refine AO.pu T ?_
 refine AO.val rfl rfl (arw_ok rfl rfl rfl rfl) ?_
 refine AO.pu T ?_
 refine AO.nil ?_
 refine AW.region ?_
 refine AO.pu T ?_
 refine AO.val rfl rfl (arw_ok rfl rfl rfl rfl) ?_
 refine AO.pu T ?_
 refine AO.nil ?_
 refine ⟨(k1, (v9.set v11.toNat v10), w64 (v10 + 1), w64 (v11 + 1)), hH, Nat.lt_succ_self _, ?_⟩
 exact Le.ct 0 0 (hpin := ⟨⟨rfl, rfl⟩, trivial⟩)
 replace hH := condF hc hH
 refine AW.exit ?_
 refine AW.seq (AW.region ?_)
 iterate 2 refine AO.pu T ?_
 refine AO.nil (AW.ret ?_)
 cases someE hH
 exact ⟨trivial, rfl, _, [], [1], rfl, expLG_cons (.c (.rowR rfl)) (expLG_cons (.c .u) (expLG_nil)), .c (.c .v), by decide⟩

def laws_markOfficialS_l1 : Nat → List Official → Int → Int → Option (((List Official) × Int))
  | 0, _, _, _ => none
  | k1 + 1, v17, v18, v19 =>
    cond (decide (v19 < (v17.length : Int)))
      ((getI v17 v19).bind fun x21 =>
      (getI (v17.set v19.toNat (Official.mk v18 x21.club x21.level)) v19).bind fun x23 =>
      (getI ((v17.set v19.toNat (Official.mk v18 x21.club x21.level)).set v19.toNat (Official.mk x23.number (w64 (v18 + 1)) x23.level)) v19).bind fun x25 =>
      laws_markOfficialS_l1 k1 (((v17.set v19.toNat (Official.mk v18 x21.club x21.level)).set v19.toNat (Official.mk x23.number (w64 (v18 + 1)) x23.level)).set v19.toNat (Official.mk x25.number x25.club (w64 ((w64 (v18 + 1)) + 1)))) (w64 ((w64 ((w64 (v18 + 1)) + 1)) + 1)) (w64 (v19 + 1)))
      (some (v17, v18))
def laws_markOfficialS_p (fuel : Nat) (a : List Official) (k : Int) : Option ((List Official) × Int) :=
  laws_markOfficialS_l1 fuel a k 0
theorem laws_markOfficialS_ok (fuel : Nat) (a : List Official) (k : Int) (r : ((List Official) × Int)) (hH : laws_markOfficialS_p fuel a k = some r) : SpecM Try.prog 17 [.w 3 (a.map encOfficial), k] [.w 3 (r.1.map encOfficial), .u] (.v (.int .i64 r.2)) := by
 refine fn_okM T Try.func17 rfl (by decide) rfl rfl ?_
 intro L
 show AW _ _ _ (⟨[(0, .R 1), (1, k)], [(1, .row 3 (List.map encOfficial a))], 34, [(1, L 1)]⟩ : St)
 refine AW.seq (AW.region ?_)
 refine AO.pu T ?_
 refine AO.nil ?_
 iterate 2 refine AW.seq ?_
 refine AW.region ?_
 refine AO.pu T ?_
 refine AO.nil ?_
 refine AW.block ?_
 refine AW.loopS (fun s : Nat × (List Official) × Int × Int => (⟨[(0, .R 1), (1, s.2.2.1), (5, s.2.2.2)], [(1, .row 3 (List.map encOfficial s.2.1))], 34, [(1, L 1)]⟩ : St)) (fun s => laws_markOfficialS_l1 s.1 s.2.1 s.2.2.1 s.2.2.2 = some r) (fun s => s.1) (fuel, a, k, 0) hH ?_ ?_
 exact Le.ct 0 0 (hpin := ⟨⟨rfl, rfl⟩, trivial⟩)
 rintro ⟨k1, v17, v18, v19⟩ hH
 replace hH : laws_markOfficialS_l1 k1 v17 v18 v19 = some r := hH
 try dsimp only
 rcases k1 with _ | k1
 cases (show none = some _ from hH)
 rw [laws_markOfficialS_l1] at hH
 iterate 2 refine AW.seq ?_
 refine AW.region ?_
 iterate 2 refine AO.pu T ?_
 refine AO.val rfl rfl (len_row_ok T rfl rfl rfl rfl) ?_
 refine AO.pu T ?_
 refine AO.nil ?_
 refine AW.cond (b := decide (v19 < (v17.length : Int))) rfl (fun hc => ?_) (fun hc => ?_)
 replace hH := condT hc hH
 refine AW.skip ?_
 refine AW.seq ?_
 refine AW.block ?_
 refine AW.seq ?_
 obtain ⟨x21, hx22, hH⟩ := bindE hH
 refine AW.region ?_
 iterate 3 refine AO.pu T ?_
 refine AO.val rfl rfl (ix_row_ok T rfl rfl rfl rfl rfl rfl (hx22)) ?_
 refine AO.pu T ?_
 refine AO.step rfl (store_row_ok T rfl rfl rfl rfl rfl (getI_get (hx22)) rfl rfl rfl rfl (u' := (Official.mk v18 x21.club x21.level)) rfl rfl) ?_
 refine AO.nil (AW.seq ?_)
 refine AW.region ?_
 refine AO.pu T ?_
 refine AO.val rfl rfl (arw_ok rfl rfl rfl rfl) ?_
 refine AO.pu T ?_
 refine AO.nil (AW.seq ?_)
 obtain ⟨x23, hx24, hH⟩ := bindE hH
 refine AW.region ?_
 iterate 3 refine AO.pu T ?_
 refine AO.val rfl rfl (ix_row_ok T rfl rfl rfl rfl rfl rfl (hx24)) ?_
 refine AO.pu T ?_
 refine AO.step rfl (store_row_ok T rfl rfl rfl rfl rfl (getI_get (hx24)) rfl rfl rfl rfl (u' := (Official.mk x23.number (w64 (v18 + 1)) x23.level)) rfl rfl) ?_
 refine AO.nil (AW.seq ?_)
 refine AW.region ?_
 refine AO.pu T ?_
 refine AO.val rfl rfl (arw_ok rfl rfl rfl rfl) ?_
 refine AO.pu T ?_
 refine AO.nil (AW.seq ?_)
 obtain ⟨x25, hx26, hH⟩ := bindE hH
 refine AW.region ?_
 iterate 3 refine AO.pu T ?_
 refine AO.val rfl rfl (ix_row_ok T rfl rfl rfl rfl rfl rfl (hx26)) ?_
 refine AO.pu T ?_
 refine AO.step rfl (store_row_ok T rfl rfl rfl rfl rfl (getI_get (hx26)) rfl rfl rfl rfl (u' := (Official.mk x25.number x25.club (w64 ((w64 (v18 + 1)) + 1)))) rfl rfl) ?_
 refine AO.nil ?_
 refine AW.le (Le.ct 0 0 (σ' := (⟨[(0, .R 1), (1, w64 ((w64 (v18 + 1)) + 1)), (5, v19)], [(1, .row 3 (List.map encOfficial (((v17.set v19.toNat (Official.mk v18 x21.club x21.level)).set v19.toNat (Official.mk x23.number (w64 (v18 + 1)) x23.level)).set v19.toNat (Official.mk x25.number x25.club (w64 ((w64 (v18 + 1)) + 1))))))], 34, [(1, L 1)]⟩ : St)) (hpin := ⟨⟨rfl, rfl⟩, trivial⟩)) ?_
 refine AW.region ?_
 refine AO.pu T ?_
 refine AO.val rfl rfl (arw_ok rfl rfl rfl rfl) ?_
 refine AO.pu T ?_
 refine AO.nil ?_
 refine AW.region ?_
 refine AO.pu T ?_
 refine AO.val rfl rfl (arw_ok rfl rfl rfl rfl) ?_
 refine AO.pu T ?_
 refine AO.nil ?_
 refine ⟨(k1, (((v17.set v19.toNat (Official.mk v18 x21.club x21.level)).set v19.toNat (Official.mk x23.number (w64 (v18 + 1)) x23.level)).set v19.toNat (Official.mk x25.number x25.club (w64 ((w64 (v18 + 1)) + 1)))), w64 ((w64 ((w64 (v18 + 1)) + 1)) + 1), w64 (v19 + 1)), hH, Nat.lt_succ_self _, ?_⟩
 exact Le.ct 0 0 (hpin := ⟨⟨rfl, rfl⟩, trivial⟩)
 replace hH := condF hc hH
 refine AW.exit ?_
 refine AW.seq (AW.region ?_)
 iterate 2 refine AO.pu T ?_
 refine AO.nil (AW.ret ?_)
 cases someE hH
 exact ⟨trivial, rfl, _, [], [1], rfl, expLG_cons (.c (.rowR rfl)) (expLG_cons (.c .u) (expLG_nil)), .c (.c .v), by decide⟩

def laws_heldIntS_l1 : List Int → Nat → Int → Option Int
  | [], k1, v8 =>
    some v8
  | y2 :: ys3, k1, v8 =>
    cond (y2 != v8)
      (some (-1))
      (laws_heldIntS_l1 ys3 (k1 + 1) (w64 (v8 + 1)))
def laws_heldIntS_p (a : List Int) (k : Int) : Option Int :=
  laws_heldIntS_l1 a 0 k
theorem laws_heldIntS_ok (a : List Int) (k : Int) (r : Int) (hH : laws_heldIntS_p a k = some r) : SpecR Try.prog 22 [.s (List.map encInt a), k] (.v (.int .i64 r)) := by
 refine fn_ok T Try.func22 rfl (by decide) rfl ?_
 refine AW.seq (AW.region ?_)
 refine AO.pu T ?_
 refine AO.nil ?_
 iterate 2 refine AW.seq ?_
 refine AW.region ?_
 refine AO.pu T ?_
 refine AO.nil ?_
 refine AW.block ?_
 refine AW.loopS (fun s : Nat × Int => (⟨[(0, .s (List.map encInt a)), (1, s.2), (5, (s.1 : Int))], [], 21, []⟩ : St)) (fun s => s.1 ≤ a.length ∧ laws_heldIntS_l1 (a.drop s.1) s.1 s.2 = some r) (fun s => a.length - s.1) (0, k) ⟨Nat.zero_le _, hH⟩ ?_ ?_
 exact Le.ct 0 0
 rintro ⟨k1, v8⟩ ⟨hk, hH⟩
 replace hH : laws_heldIntS_l1 (a.drop k1) k1 v8 = some r := hH
 try dsimp only
 refine AW.boundM (t := 0) (l := a) rfl (fun hb5 => ?_)
 rcases hd4 : a.drop k1 with _ | ⟨y2, ys3⟩
 rw [hd4, laws_heldIntS_l1] at hH
 have hlt6 := drop_ge hd4
 iterate 2 refine AW.seq ?_
 refine AW.region ?_
 iterate 2 refine AO.pu T ?_
 refine AO.val rfl rfl (len_map_ok T rfl rfl rfl) ?_
 refine AO.pu T ?_
 refine AO.nil ?_
 refine AW.condF' (b := decide ((k1 : Int) < (a.length : Int))) rfl (rngF hlt6) ?_
 refine AW.exit ?_
 refine AW.seq (AW.region ?_)
 iterate 2 refine AO.pu T ?_
 refine AO.nil (AW.ret ?_)
 cases someE hH
 exact retQ.i [] rfl (.c (.c .v))
 rw [hd4, laws_heldIntS_l1] at hH
 have hlt6 := drop_lt hd4
 iterate 2 refine AW.seq ?_
 refine AW.region ?_
 iterate 2 refine AO.pu T ?_
 refine AO.val rfl rfl (len_map_ok T rfl rfl rfl) ?_
 refine AO.pu T ?_
 refine AO.nil ?_
 refine AW.condT' (b := decide ((k1 : Int) < (a.length : Int))) rfl (rngT hlt6) ?_
 refine AW.skip ?_
 refine AW.seq ?_
 refine AW.block ?_
 iterate 2 refine AW.seq ?_
 refine AW.region ?_
 iterate 2 refine AO.pu T ?_
 refine AO.val rfl rfl (ix_map_ok T rfl rfl rfl rfl rfl (getI_drop hd4) rfl) ?_
 iterate 3 refine AO.pu T ?_
 refine AO.nil ?_
 refine AW.cond (b := (y2 != v8)) rfl (fun hc => ?_) (fun hc => ?_)
 replace hH := condT hc hH
 refine AW.seq (AW.region ?_)
 refine AO.pu T ?_
 refine AO.nil (AW.ret ?_)
 cases someE hH
 exact retQ.i [] rfl (.c (.c .v))
 replace hH := condF hc hH
 refine AW.skip ?_
 refine AW.region ?_
 refine AO.pu T ?_
 refine AO.val rfl rfl (arw_ok rfl rfl rfl rfl) ?_
 refine AO.pu T ?_
 refine AO.nil ?_
 refine AW.region ?_
 refine AO.pu T ?_
 refine AO.val rfl rfl (ar_ok rfl rfl rfl rfl (inI_succ hlt6 hb5)) ?_
 refine AO.pu T ?_
 refine AO.nil ?_
 refine ⟨(k1 + 1, w64 (v8 + 1)), ⟨Nat.succ_le_of_lt hlt6, (by rw [drop_succ_of hd4]; exact hH)⟩, (by have := hlt6; dsimp only; omega), ?_⟩
 exact Le.ct 0 0

def laws_FnExactReplaceJudge_p (fuel : Nat) (aKeys : List Int) (aL : List Official) (aClubs : List Int) (aLevel : Int) (aMost : Int) (aPanel : List Int) (aGone : Int) : Option Bool :=
  cond (decide ((aKeys.length : Int) > 1048576))
    (some true)
    (cond (decide ((aClubs.length : Int) > 1048576))
      (some true)
      (cond (decide ((aPanel.length : Int) > 1048576))
        (some true)
        ((laws_szOfficialS_p aL 1048576).bind fun x1 =>
        cond (decide (x1 < 0))
          (some true)
          ((laws_toIntS_p aKeys).bind fun x3 =>
          (laws_toOfficialS_p aL).bind fun x5 =>
          (laws_toIntS_p aClubs).bind fun x7 =>
          (laws_toIntS_p aPanel).bind fun x9 =>
          (spec_ReplaceJudge_p fuel x3 x5 x7 aLevel aMost x9 aGone).bind fun x11 =>
          (impl_ReplaceJudge_p fuel x3 x5 x7 aLevel aMost x9 aGone).bind fun x13 =>
          (laws_eqIntS_p x13.1 x11.1).bind fun x15 =>
          cond ((!x15) || (!(x13.2 == x11.2)))
            (some false)
            ((laws_eqIntS_p x3 x3).bind fun x17 =>
            cond (!x17)
              (some false)
              ((laws_eqOfficialS_p x5 x5).bind fun x19 =>
              cond (!x19)
                (some false)
                ((laws_eqIntS_p x7 x7).bind fun x21 =>
                cond (!x21)
                  (some false)
                  ((laws_eqIntS_p x9 x9).bind fun x23 =>
                  cond (!x23)
                    (some false)
                    ((laws_markIntS_p fuel x3 1).bind fun x25 =>
                    (laws_markOfficialS_p fuel x5 x25.2).bind fun x27 =>
                    (laws_markIntS_p fuel x7 x27.2).bind fun x29 =>
                    (laws_markIntS_p fuel x9 x29.2).bind fun x31 =>
                    cond ((decide (x31.2 < 0) || (!x15)) || (!(x13.2 == x11.2)))
                      (some false)
                      ((laws_markIntS_p fuel x13.1 1).bind fun x33 =>
                      (laws_heldIntS_p x33.1 1).bind fun x35 =>
                      cond (decide (x35 < 0))
                        (some false)
                        (cond (x35 != x33.2)
                          (some false)
                          (cond ((!x15) || (!(x13.2 == x11.2)))
                            (some false)
                            (cond (decide (x35 < 0))
                              (some false)
                              (cond (x35 != x33.2)
                                (some false)
                                (some true)))))))))))))))
theorem laws_FnExactReplaceJudge_ok (fuel : Nat) (aKeys : List Int) (aL : List Official) (aClubs : List Int) (aLevel : Int) (aMost : Int) (aPanel : List Int) (aGone : Int) (r : Bool) (hH : laws_FnExactReplaceJudge_p fuel aKeys aL aClubs aLevel aMost aPanel aGone = some r) : SpecR Try.prog 5 [.s (List.map encInt aKeys), .s (List.map encOfficial aL), .s (List.map encInt aClubs), aLevel, aMost, .s (List.map encInt aPanel), aGone] (.v (.bool r)) := by
 refine fn_ok T Try.func5 rfl (by decide) rfl ?_
 refine AW.seq (AW.region ?_)
 refine AO.pu T ?_
 refine AO.nil ?_
 iterate 2 refine AW.seq ?_
 refine AW.region ?_
 refine AO.pu T ?_
 refine AO.val rfl rfl (len_map_ok T rfl rfl rfl) ?_
 refine AO.pu T ?_
 refine AO.nil ?_
 refine AW.cond (b := decide ((aKeys.length : Int) > 1048576)) rfl (fun hc => ?_) (fun hc => ?_)
 replace hH := condT hc hH
 refine AW.seq (AW.region ?_)
 refine AO.pu T ?_
 refine AO.nil (AW.ret ?_)
 cases someE hH
 exact retQ.i [] rfl (.c (.c .v))
 replace hH := condF hc hH
 refine AW.skip ?_
 iterate 2 refine AW.seq ?_
 refine AW.region ?_
 refine AO.pu T ?_
 refine AO.val rfl rfl (len_map_ok T rfl rfl rfl) ?_
 refine AO.pu T ?_
 refine AO.nil ?_
 refine AW.cond (b := decide ((aClubs.length : Int) > 1048576)) rfl (fun hc => ?_) (fun hc => ?_)
 replace hH := condT hc hH
 refine AW.seq (AW.region ?_)
 refine AO.pu T ?_
 refine AO.nil (AW.ret ?_)
 cases someE hH
 exact retQ.i [] rfl (.c (.c .v))
 replace hH := condF hc hH
 refine AW.skip ?_
 iterate 2 refine AW.seq ?_
 refine AW.region ?_
 refine AO.pu T ?_
 refine AO.val rfl rfl (len_map_ok T rfl rfl rfl) ?_
 refine AO.pu T ?_
 refine AO.nil ?_
 refine AW.cond (b := decide ((aPanel.length : Int) > 1048576)) rfl (fun hc => ?_) (fun hc => ?_)
 replace hH := condT hc hH
 refine AW.seq (AW.region ?_)
 refine AO.pu T ?_
 refine AO.nil (AW.ret ?_)
 cases someE hH
 exact retQ.i [] rfl (.c (.c .v))
 replace hH := condF hc hH
 refine AW.skip ?_
 refine AW.seq (AW.region ?_)
 refine AO.pu T ?_
 refine AO.nil (AW.seq ?_)
 obtain ⟨x1, hx2, hH⟩ := bindE hH
 refine AW.region ?_
 iterate 2 refine AO.pu T ?_
 refine AO.val rfl rfl (callV_ok rfl rfl rfl rfl (laws_szOfficialS_ok _ _ _ (hx2)) rfl) ?_
 refine AO.pu T ?_
 refine AO.nil ?_
 iterate 2 refine AW.seq ?_
 refine AW.region ?_
 iterate 2 refine AO.pu T ?_
 refine AO.nil ?_
 refine AW.cond (b := decide (x1 < 0)) rfl (fun hc => ?_) (fun hc => ?_)
 replace hH := condT hc hH
 refine AW.seq (AW.region ?_)
 refine AO.pu T ?_
 refine AO.nil (AW.ret ?_)
 cases someE hH
 exact retQ.i [] rfl (.c (.c .v))
 replace hH := condF hc hH
 refine AW.skip ?_
 refine AW.seq ?_
 obtain ⟨x3, hx4, hH⟩ := bindE hH
 obtain ⟨x5, hx6, hH⟩ := bindE hH
 obtain ⟨x7, hx8, hH⟩ := bindE hH
 obtain ⟨x9, hx10, hH⟩ := bindE hH
 obtain ⟨x11, hx12, hH⟩ := bindE hH
 refine AW.region ?_
 refine AO.pu T ?_
 refine AO.val rfl rfl (callF_ok rfl rfl rfl rfl (laws_toIntS_ok _ _ (hx4)) (.c (.c (.map fun y => .vs rfl)))) ?_
 refine AO.pu T ?_
 refine AO.val rfl rfl (callF_ok rfl rfl rfl rfl (laws_toOfficialS_ok _ _ (hx6)) (.c (.c (.map fun y => .vs rfl)))) ?_
 refine AO.pu T ?_
 refine AO.val rfl rfl (callF_ok rfl rfl rfl rfl (laws_toIntS_ok _ _ (hx8)) (.c (.c (.map fun y => .vs rfl)))) ?_
 iterate 3 refine AO.pu T ?_
 refine AO.val rfl rfl (callF_ok rfl rfl rfl rfl (laws_toIntS_ok _ _ (hx10)) (.c (.c (.map fun y => .vs rfl)))) ?_
 refine AO.pu T ?_
 refine AO.val rfl rfl (callV_ok rfl rfl rfl rfl (spec_ReplaceJudge_ok fuel _ _ _ _ _ _ _ _ (hx12)) rfl) ?_
 iterate 5 refine AO.pu T ?_
 refine AO.nil ?_
 refine AW.le (Le.ct 0 0 (σ' := (⟨[(0, .s (List.map encInt aKeys)), (1, .s (List.map encOfficial aL)), (2, .s (List.map encInt aClubs)), (3, aLevel), (4, aMost), (5, .s (List.map encInt aPanel)), (6, aGone), (16, .s (List.map encInt x11.1)), (17, .v (.bool x11.2))], [], 174, []⟩ : St))) ?_
 refine AW.seq (AW.region ?_)
 refine AO.pu T ?_
 refine AO.step rfl (call_ok rfl 1 rfl rfl rfl (laws_toIntS_ok _ _ (hx4)) rfl rfl rfl) ?_
 refine AO.pu T ?_
 refine AO.nil (AW.seq ?_)
 refine AW.region ?_
 refine AO.pu T ?_
 refine AO.step rfl (call_ok rfl 2 rfl rfl rfl (laws_toOfficialS_ok _ _ (hx6)) rfl rfl rfl) ?_
 refine AO.pu T ?_
 refine AO.nil (AW.seq ?_)
 refine AW.region ?_
 refine AO.pu T ?_
 refine AO.step rfl (call_ok rfl 3 rfl rfl rfl (laws_toIntS_ok _ _ (hx8)) rfl rfl rfl) ?_
 refine AO.pu T ?_
 refine AO.nil (AW.seq ?_)
 refine AW.region ?_
 refine AO.pu T ?_
 refine AO.step rfl (call_ok rfl 4 rfl rfl rfl (laws_toIntS_ok _ _ (hx10)) rfl rfl rfl) ?_
 refine AO.pu T ?_
 refine AO.nil (AW.seq ?_)
 obtain ⟨x13, hx14, hH⟩ := bindE hH
 refine AW.region ?_
 iterate 7 refine AO.pu T ?_
 refine AO.step rfl (callL_ok rfl 5 rfl rfl (es := [.s (List.map encInt x3), .s (List.map encOfficial x5), .s (List.map encInt x7), aLevel, aMost, .s (List.map encInt x9), aGone]) (by exact ⟨(.rowR rfl (.map fun y => .vs rfl)), (.rowR rfl (.map fun y => .vs rfl)), (.rowR rfl (.map fun y => .vs rfl)), .free rfl, .free rfl, (.rowR rfl (.map fun y => .vs rfl)), .free rfl, trivial⟩) (impl_ReplaceJudge_ok fuel _ _ _ _ _ _ _ _ (hx14)) (zfree_t (zfl (.cons (zfree_map (fun y => (.cons (zfree_v _) .nil))) (.cons (zfree_v _) .nil)))) rfl rfl rfl) ?_
 iterate 5 refine AO.pu T ?_
 refine AO.nil ?_
 refine AW.le (Le.ct 0 0 (σ' := (⟨[(0, .s (List.map encInt aKeys)), (1, .s (List.map encOfficial aL)), (2, .s (List.map encInt aClubs)), (3, aLevel), (4, aMost), (5, .s (List.map encInt aPanel)), (6, aGone), (16, .s (List.map encInt x11.1)), (17, .v (.bool x11.2)), (18, .R 1), (19, .R 2), (20, .R 3), (21, .R 4), (22, .R 5), (23, .v (.bool x13.2))], [(1, .row 1 (List.map encInt x3)), (2, .row 3 (List.map encOfficial x5)), (3, .row 1 (List.map encInt x7)), (4, .row 1 (List.map encInt x9)), (5, .row 1 (List.map encInt x13.1))], 174, []⟩ : St))) ?_
 iterate 2 refine AW.seq ?_
 obtain ⟨x15, hx16, hH⟩ := bindE hH
 refine AW.region ?_
 iterate 2 refine AO.pu T ?_
 refine AO.val rfl rfl (callLV_ok rfl rfl rfl (es := [.s (List.map encInt x13.1), .s (List.map encInt x11.1)]) ⟨(.rowR rfl (.map fun y => .vs rfl)), .free rfl, trivial⟩ (laws_eqIntS_ok _ _ _ (hx16)) (zfree_v _) rfl) ?_
 iterate 2 refine AO.pu T ?_
 iterate 2 refine AO.pureG T [] rfl trivial rfl rfl ?_
 refine AO.pureG T [82, 83] rfl ⟨fun h => h, fun h => h, trivial⟩ rfl rfl ?_
 refine AO.val rfl rfl (pick_or rfl rfl rfl rfl) ?_
 refine AO.nil ?_
 refine AW.cond (b := ((!x15) || (!(x13.2 == x11.2)))) rfl (fun hc => ?_) (fun hc => ?_)
 replace hH := condT hc hH
 refine AW.seq (AW.region ?_)
 refine AO.pu T ?_
 refine AO.nil (AW.ret ?_)
 cases someE hH
 exact retQ.i [] rfl (.c (.c .v))
 replace hH := condF hc hH
 refine AW.skip ?_
 iterate 2 refine AW.seq ?_
 obtain ⟨x17, hx18, hH⟩ := bindE hH
 refine AW.region ?_
 iterate 2 refine AO.pu T ?_
 refine AO.step rfl (call_ok rfl 6 rfl rfl rfl (laws_toIntS_ok _ _ (hx4)) rfl rfl rfl) ?_
 refine AO.val rfl rfl (callLV_ok rfl rfl rfl (es := [.s (List.map encInt x3), .s (List.map encInt x3)]) ⟨(.rowR rfl (.map fun y => .vs rfl)), (.rowR rfl (.map fun y => .vs rfl)), trivial⟩ (laws_eqIntS_ok _ _ _ (hx18)) (zfree_v _) rfl) ?_
 refine AO.pu T ?_
 refine AO.nil ?_
 refine AW.cond (b := (!x17)) rfl (fun hc => ?_) (fun hc => ?_)
 replace hH := condT hc hH
 refine AW.seq (AW.region ?_)
 refine AO.pu T ?_
 refine AO.nil (AW.ret ?_)
 cases someE hH
 exact retQ.i [] rfl (.c (.c .v))
 replace hH := condF hc hH
 refine AW.skip ?_
 iterate 2 refine AW.seq ?_
 obtain ⟨x19, hx20, hH⟩ := bindE hH
 refine AW.region ?_
 iterate 2 refine AO.pu T ?_
 refine AO.step rfl (call_ok rfl 7 rfl rfl rfl (laws_toOfficialS_ok _ _ (hx6)) rfl rfl rfl) ?_
 refine AO.val rfl rfl (callLV_ok rfl rfl rfl (es := [.s (List.map encOfficial x5), .s (List.map encOfficial x5)]) ⟨(.rowR rfl (.map fun y => .vs rfl)), (.rowR rfl (.map fun y => .vs rfl)), trivial⟩ (laws_eqOfficialS_ok _ _ _ (hx20)) (zfree_v _) rfl) ?_
 refine AO.pu T ?_
 refine AO.nil ?_
 refine AW.cond (b := (!x19)) rfl (fun hc => ?_) (fun hc => ?_)
 replace hH := condT hc hH
 refine AW.seq (AW.region ?_)
 refine AO.pu T ?_
 refine AO.nil (AW.ret ?_)
 cases someE hH
 exact retQ.i [] rfl (.c (.c .v))
 replace hH := condF hc hH
 refine AW.skip ?_
 iterate 2 refine AW.seq ?_
 obtain ⟨x21, hx22, hH⟩ := bindE hH
 refine AW.region ?_
 iterate 2 refine AO.pu T ?_
 refine AO.step rfl (call_ok rfl 8 rfl rfl rfl (laws_toIntS_ok _ _ (hx8)) rfl rfl rfl) ?_
 refine AO.val rfl rfl (callLV_ok rfl rfl rfl (es := [.s (List.map encInt x7), .s (List.map encInt x7)]) ⟨(.rowR rfl (.map fun y => .vs rfl)), (.rowR rfl (.map fun y => .vs rfl)), trivial⟩ (laws_eqIntS_ok _ _ _ (hx22)) (zfree_v _) rfl) ?_
 refine AO.pu T ?_
 refine AO.nil ?_
 refine AW.le (Le.ct 0 0 (σ' := (⟨[(0, .s (List.map encInt aKeys)), (1, .s (List.map encOfficial aL)), (2, .s (List.map encInt aClubs)), (3, aLevel), (4, aMost), (5, .s (List.map encInt aPanel)), (6, aGone), (16, .s (List.map encInt x11.1)), (17, .v (.bool x11.2)), (18, .R 1), (19, .R 2), (20, .R 3), (21, .R 4), (22, .R 5), (23, .v (.bool x13.2)), (100, .v (.bool (!x21)))], [(1, .row 1 (List.map encInt x3)), (2, .row 3 (List.map encOfficial x5)), (3, .row 1 (List.map encInt x7)), (4, .row 1 (List.map encInt x9)), (5, .row 1 (List.map encInt x13.1))], 174, []⟩ : St))) ?_
 refine AW.cond (b := (!x21)) rfl (fun hc => ?_) (fun hc => ?_)
 replace hH := condT hc hH
 refine AW.seq (AW.region ?_)
 refine AO.pu T ?_
 refine AO.nil (AW.ret ?_)
 cases someE hH
 exact retQ.i [] rfl (.c (.c .v))
 replace hH := condF hc hH
 refine AW.skip ?_
 iterate 2 refine AW.seq ?_
 obtain ⟨x23, hx24, hH⟩ := bindE hH
 refine AW.region ?_
 iterate 2 refine AO.pu T ?_
 refine AO.step rfl (call_ok rfl 9 rfl rfl rfl (laws_toIntS_ok _ _ (hx10)) rfl rfl rfl) ?_
 refine AO.val rfl rfl (callLV_ok rfl rfl rfl (es := [.s (List.map encInt x9), .s (List.map encInt x9)]) ⟨(.rowR rfl (.map fun y => .vs rfl)), (.rowR rfl (.map fun y => .vs rfl)), trivial⟩ (laws_eqIntS_ok _ _ _ (hx24)) (zfree_v _) rfl) ?_
 refine AO.pu T ?_
 refine AO.nil ?_
 refine AW.cond (b := (!x23)) rfl (fun hc => ?_) (fun hc => ?_)
 replace hH := condT hc hH
 refine AW.seq (AW.region ?_)
 refine AO.pu T ?_
 refine AO.nil (AW.ret ?_)
 cases someE hH
 exact retQ.i [] rfl (.c (.c .v))
 replace hH := condF hc hH
 refine AW.skip ?_
 refine AW.seq (AW.region ?_)
 refine AO.pu T ?_
 refine AO.nil (AW.seq ?_)
 obtain ⟨x25, hx26, hH⟩ := bindE hH
 refine AW.region ?_
 iterate 2 refine AO.pu T ?_
 refine AO.step rfl (callM_ok rfl 10 rfl rfl (es := [.w 1 (x3.map encInt), .v (.int .i64 1)]) (outs := [.w 1 (x25.1.map encInt), .u]) (ids := [1]) (by exact expLG_cons (.c (.rowR rfl)) (expLG_cons (.c .v) (expLG_nil))) (by decide) (.inl (by rfl)) (by rfl) (laws_markIntS_ok fuel _ _ _ (hx26)) rfl (by rfl) rfl) ?_
 refine AO.pu T ?_
 refine AO.nil (AW.seq ?_)
 obtain ⟨x27, hx28, hH⟩ := bindE hH
 refine AW.region ?_
 iterate 2 refine AO.pu T ?_
 refine AO.step rfl (callM_ok rfl 10 rfl rfl (es := [.w 3 (x5.map encOfficial), .v (.int .i64 x25.2)]) (outs := [.w 3 (x27.1.map encOfficial), .u]) (ids := [2]) (by exact expLG_cons (.c (.rowR rfl)) (expLG_cons (.c .v) (expLG_nil))) (by decide) (.inl (by rfl)) (by rfl) (laws_markOfficialS_ok fuel _ _ _ (hx28)) rfl (by rfl) rfl) ?_
 refine AO.pu T ?_
 refine AO.nil (AW.seq ?_)
 obtain ⟨x29, hx30, hH⟩ := bindE hH
 refine AW.region ?_
 iterate 2 refine AO.pu T ?_
 refine AO.step rfl (callM_ok rfl 10 rfl rfl (es := [.w 1 (x7.map encInt), .v (.int .i64 x27.2)]) (outs := [.w 1 (x29.1.map encInt), .u]) (ids := [3]) (by exact expLG_cons (.c (.rowR rfl)) (expLG_cons (.c .v) (expLG_nil))) (by decide) (.inl (by rfl)) (by rfl) (laws_markIntS_ok fuel _ _ _ (hx30)) rfl (by rfl) rfl) ?_
 refine AO.pu T ?_
 refine AO.nil (AW.seq ?_)
 obtain ⟨x31, hx32, hH⟩ := bindE hH
 refine AW.region ?_
 iterate 2 refine AO.pu T ?_
 refine AO.step rfl (callM_ok rfl 10 rfl rfl (es := [.w 1 (x9.map encInt), .v (.int .i64 x29.2)]) (outs := [.w 1 (x31.1.map encInt), .u]) (ids := [4]) (by exact expLG_cons (.c (.rowR rfl)) (expLG_cons (.c .v) (expLG_nil))) (by decide) (.inl (by rfl)) (by rfl) (laws_markIntS_ok fuel _ _ _ (hx32)) rfl (by rfl) rfl) ?_
 refine AO.pu T ?_
 refine AO.nil ?_
 iterate 2 refine AW.seq ?_
 refine AW.region ?_
 iterate 3 refine AO.pu T ?_
 iterate 2 refine AO.pureG T [] rfl trivial rfl rfl ?_
 refine AO.guard [121, 122] rfl ⟨fun h => h, fun h => h, trivial⟩ (fun hg => callLV_ok rfl rfl rfl (es := [.s (List.map encInt x13.1), .s (List.map encInt x11.1)]) ⟨(.rowR rfl (.map fun y => .vs rfl)), .free rfl, trivial⟩ (laws_eqIntS_ok _ _ _ (hx16)) (zfree_v _) rfl) rfl ?_
 refine AO.pureG T [123] rfl ⟨fun h => h, trivial⟩ rfl rfl ?_
 refine AO.val rfl rfl (pick_or rfl rfl rfl rfl) ?_
 refine AO.pu T ?_
 iterate 2 refine AO.pureG T [] rfl trivial rfl rfl ?_
 refine AO.pureG T [127, 128] rfl ⟨fun h => h, fun h => h, trivial⟩ rfl rfl ?_
 refine AO.val rfl rfl (pick_or rfl rfl rfl rfl) ?_
 refine AO.nil ?_
 refine AW.le (Le.ct 0 0 (σ' := (⟨[(0, .s (List.map encInt aKeys)), (1, .s (List.map encOfficial aL)), (2, .s (List.map encInt aClubs)), (3, aLevel), (4, aMost), (5, .s (List.map encInt aPanel)), (6, aGone), (16, .s (List.map encInt x11.1)), (17, .v (.bool x11.2)), (22, .R 5), (130, .v (.bool ((decide (x31.2 < 0) || (!x15)) || (!(x13.2 == x11.2)))))], [(5, .row 1 (List.map encInt x13.1))], 174, []⟩ : St))) ?_
 refine AW.cond (b := ((decide (x31.2 < 0) || (!x15)) || (!(x13.2 == x11.2)))) rfl (fun hc => ?_) (fun hc => ?_)
 replace hH := condT hc hH
 refine AW.seq (AW.region ?_)
 refine AO.pu T ?_
 refine AO.nil (AW.ret ?_)
 cases someE hH
 exact retQ.i [] rfl (.c (.c .v))
 replace hH := condF hc hH
 refine AW.skip ?_
 refine AW.seq (AW.region ?_)
 refine AO.pu T ?_
 refine AO.nil (AW.seq ?_)
 obtain ⟨x33, hx34, hH⟩ := bindE hH
 refine AW.region ?_
 iterate 2 refine AO.pu T ?_
 refine AO.step rfl (callM_ok rfl 10 rfl rfl (es := [.w 1 (x13.1.map encInt), .v (.int .i64 1)]) (outs := [.w 1 (x33.1.map encInt), .u]) (ids := [5]) (by exact expLG_cons (.c (.rowR rfl)) (expLG_cons (.c .v) (expLG_nil))) (by decide) (.inl (by rfl)) (by rfl) (laws_markIntS_ok fuel _ _ _ (hx34)) rfl (by rfl) rfl) ?_
 refine AO.pu T ?_
 refine AO.nil (AW.seq ?_)
 refine AW.region ?_
 refine AO.pu T ?_
 refine AO.nil (AW.seq ?_)
 obtain ⟨x35, hx36, hH⟩ := bindE hH
 refine AW.region ?_
 iterate 2 refine AO.pu T ?_
 refine AO.val rfl rfl (callLV_ok rfl rfl rfl (es := [.s (List.map encInt x33.1), (1 : Int)]) ⟨(.rowR rfl (.map fun y => .vs rfl)), .free rfl, trivial⟩ (laws_heldIntS_ok _ _ _ (hx36)) (zfree_v _) rfl) ?_
 refine AO.pu T ?_
 refine AO.nil ?_
 iterate 2 refine AW.seq ?_
 refine AW.region ?_
 iterate 2 refine AO.pu T ?_
 refine AO.nil ?_
 refine AW.cond (b := decide (x35 < 0)) rfl (fun hc => ?_) (fun hc => ?_)
 replace hH := condT hc hH
 refine AW.seq (AW.region ?_)
 refine AO.pu T ?_
 refine AO.nil (AW.ret ?_)
 cases someE hH
 exact retQ.i [] rfl (.c (.c .v))
 replace hH := condF hc hH
 refine AW.skip ?_
 iterate 2 refine AW.seq ?_
 refine AW.region ?_
 iterate 3 refine AO.pu T ?_
 refine AO.nil ?_
 refine AW.cond (b := (x35 != x33.2)) rfl (fun hc => ?_) (fun hc => ?_)
 replace hH := condT hc hH
 refine AW.seq (AW.region ?_)
 refine AO.pu T ?_
 refine AO.nil (AW.ret ?_)
 cases someE hH
 exact retQ.i [] rfl (.c (.c .v))
 replace hH := condF hc hH
 refine AW.skip ?_
 refine AW.seq (AW.region ?_)
 refine AO.pu T ?_
 refine AO.step rfl (call_ok rfl 10 rfl rfl rfl (laws_toIntS_ok _ _ (hx4)) rfl rfl rfl) ?_
 refine AO.pu T ?_
 refine AO.step rfl (call_ok rfl 11 rfl rfl rfl (laws_toOfficialS_ok _ _ (hx6)) rfl rfl rfl) ?_
 refine AO.pu T ?_
 refine AO.step rfl (call_ok rfl 12 rfl rfl rfl (laws_toIntS_ok _ _ (hx8)) rfl rfl rfl) ?_
 iterate 3 refine AO.pu T ?_
 refine AO.step rfl (call_ok rfl 13 rfl rfl rfl (laws_toIntS_ok _ _ (hx10)) rfl rfl rfl) ?_
 refine AO.pu T ?_
 refine AO.step rfl (callL_ok rfl 14 rfl rfl (es := [.s (List.map encInt x3), .s (List.map encOfficial x5), .s (List.map encInt x7), aLevel, aMost, .s (List.map encInt x9), aGone]) (by exact ⟨(.rowR rfl (.map fun y => .vs rfl)), (.rowR rfl (.map fun y => .vs rfl)), (.rowR rfl (.map fun y => .vs rfl)), .free rfl, .free rfl, (.rowR rfl (.map fun y => .vs rfl)), .free rfl, trivial⟩) (impl_ReplaceJudge_ok fuel _ _ _ _ _ _ _ _ (hx14)) (zfree_t (zfl (.cons (zfree_map (fun y => (.cons (zfree_v _) .nil))) (.cons (zfree_v _) .nil)))) rfl rfl rfl) ?_
 iterate 5 refine AO.pu T ?_
 refine AO.nil ?_
 refine AW.le (Le.ct 0 0 (σ' := (⟨[(16, .s (List.map encInt x11.1)), (17, .v (.bool x11.2)), (22, .R 5), (25, x33.2), (27, .R 14), (28, .v (.bool x13.2))], [(5, .row 1 (List.map encInt x33.1)), (14, .row 1 (List.map encInt x13.1))], 174, []⟩ : St))) ?_
 iterate 2 refine AW.seq ?_
 refine AW.region ?_
 iterate 2 refine AO.pu T ?_
 refine AO.val rfl rfl (callLV_ok rfl rfl rfl (es := [.s (List.map encInt x13.1), .s (List.map encInt x11.1)]) ⟨(.rowR rfl (.map fun y => .vs rfl)), .free rfl, trivial⟩ (laws_eqIntS_ok _ _ _ (hx16)) (zfree_v _) rfl) ?_
 iterate 2 refine AO.pu T ?_
 iterate 2 refine AO.pureG T [] rfl trivial rfl rfl ?_
 refine AO.pureG T [162, 163] rfl ⟨fun h => h, fun h => h, trivial⟩ rfl rfl ?_
 refine AO.val rfl rfl (pick_or rfl rfl rfl rfl) ?_
 refine AO.nil ?_
 refine AW.cond (b := ((!x15) || (!(x13.2 == x11.2)))) rfl (fun hc => ?_) (fun hc => ?_)
 replace hH := condT hc hH
 refine AW.seq (AW.region ?_)
 refine AO.pu T ?_
 refine AO.nil (AW.ret ?_)
 cases someE hH
 exact retQ.i [] rfl (.c (.c .v))
 replace hH := condF hc hH
 refine AW.skip ?_
 refine AW.seq (AW.region ?_)
 refine AO.pu T ?_
 refine AO.nil (AW.seq ?_)
 refine AW.region ?_
 iterate 2 refine AO.pu T ?_
 refine AO.val rfl rfl (callLV_ok rfl rfl rfl (es := [.s (List.map encInt x33.1), (1 : Int)]) ⟨(.rowR rfl (.map fun y => .vs rfl)), .free rfl, trivial⟩ (laws_heldIntS_ok _ _ _ (hx36)) (zfree_v _) rfl) ?_
 refine AO.pu T ?_
 refine AO.nil ?_
 iterate 2 refine AW.seq ?_
 refine AW.region ?_
 iterate 2 refine AO.pu T ?_
 refine AO.nil ?_
 refine AW.cond (b := decide (x35 < 0)) rfl (fun hc => ?_) (fun hc => ?_)
 replace hH := condT hc hH
 refine AW.seq (AW.region ?_)
 refine AO.pu T ?_
 refine AO.nil (AW.ret ?_)
 cases someE hH
 exact retQ.i [] rfl (.c (.c .v))
 replace hH := condF hc hH
 refine AW.skip ?_
 iterate 2 refine AW.seq ?_
 refine AW.region ?_
 iterate 3 refine AO.pu T ?_
 refine AO.nil ?_
 refine AW.cond (b := (x35 != x33.2)) rfl (fun hc => ?_) (fun hc => ?_)
 replace hH := condT hc hH
 refine AW.seq (AW.region ?_)
 refine AO.pu T ?_
 refine AO.nil (AW.ret ?_)
 cases someE hH
 exact retQ.i [] rfl (.c (.c .v))
 replace hH := condF hc hH
 refine AW.skip ?_
 refine AW.seq (AW.region ?_)
 refine AO.pu T ?_
 refine AO.nil (AW.ret ?_)
 cases someE hH
 exact retQ.i [] rfl (.c (.c .v))

end Go.Proofs.Ytkabhjekcchjlaa

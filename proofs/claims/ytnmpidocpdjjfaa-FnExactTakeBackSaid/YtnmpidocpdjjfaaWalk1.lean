/- The walk, part 1: what each function reached by the law FnExactTakeBack computes. No condition. -/
import Derived.Test.YtnmpidocpdjjfaaAm3
import Derived.Test.YtnmpidocpdjjfaaProg
set_option maxRecDepth 4000
set_option maxHeartbeats 1000000
set_option linter.unusedVariables false
set_option linter.unusedSimpArgs false
set_option linter.unusedSectionVars false

namespace Go.Proofs.Ytnmpidocpdjjfaa
open Go.AM
def teL : List (Option TI) := [
  none,
  none,
  some ⟨.int .i64, 1, 8, some (.int .i64 0)⟩,
  some ⟨.int .i64, 1, 8, some (.int .i64 0)⟩,
  some ⟨.bool, 1, 1, some (.bool false)⟩,
  some ⟨.int .u8, 1, 1, some (.int .u8 0)⟩,
  some ⟨.int .u8, 1, 1, some (.int .u8 0)⟩,
  some ⟨.struct [(0, 2), (1, 3), (2, 4), (3, 6)], 4, 24, some (.agg #[.int .i64 0, .int .i64 0, .bool false, .int .u8 0])⟩,
  some ⟨.struct [(0, 2), (1, 3), (2, 4), (3, 6)], 4, 24, some (.agg #[.int .i64 0, .int .i64 0, .bool false, .int .u8 0])⟩,
  some ⟨.str, 1, 16, some (.string ⟨#[]⟩)⟩,
  some ⟨.str, 1, 16, some (.string ⟨#[]⟩)⟩,
  some ⟨.str, 1, 16, some (.string ⟨#[]⟩)⟩,
  some ⟨.int .u64, 1, 8, some (.int .u64 0)⟩,
  some ⟨.struct [(0, 9), (1, 12)], 2, 24, some (.agg #[.string ⟨#[]⟩, .int .u64 0])⟩,
  some ⟨.struct [(0, 9), (1, 12)], 2, 24, some (.agg #[.string ⟨#[]⟩, .int .u64 0])⟩,
  some ⟨.ptr 153, 1, 8, some (.pointer none)⟩,
  some ⟨.ptr 156, 1, 8, some (.pointer none)⟩,
  some ⟨.ptr 164, 1, 8, some (.pointer none)⟩,
  some ⟨.struct [(0, 17)], 1, 8, some (.agg #[.pointer none])⟩,
  some ⟨.struct [(0, 17)], 1, 8, some (.agg #[.pointer none])⟩,
  none,
  some ⟨.int .i32, 1, 4, some (.int .i32 0)⟩,
  some ⟨.slice 74, 1, 24, some (.slice none 0 0)⟩,
  some ⟨.slice 44, 1, 24, some (.slice none 0 0)⟩,
  none,
  none,
  none,
  none,
  some ⟨.slice 77, 1, 24, some (.slice none 0 0)⟩,
  none,
  some ⟨.slice 47, 1, 24, some (.slice none 0 0)⟩,
  none,
  none,
  none,
  none,
  none,
  none,
  none,
  none,
  none,
  none,
  none,
  none,
  some ⟨.struct [(0, 3), (1, 3), (2, 3), (3, 3), (4, 3), (5, 4)], 6, 48, some (.agg #[.int .i64 0, .int .i64 0, .int .i64 0, .int .i64 0, .int .i64 0, .bool false])⟩,
  some ⟨.struct [(0, 3), (1, 3), (2, 3), (3, 3), (4, 3), (5, 4)], 6, 48, some (.agg #[.int .i64 0, .int .i64 0, .int .i64 0, .int .i64 0, .int .i64 0, .bool false])⟩,
  none,
  none,
  some ⟨.struct [(0, 3), (1, 3), (2, 3), (3, 3), (4, 3), (5, 4)], 6, 48, some (.agg #[.int .i64 0, .int .i64 0, .int .i64 0, .int .i64 0, .int .i64 0, .bool false])⟩,
  none,
  none,
  none,
  some ⟨.slice 57, 1, 24, some (.slice none 0 0)⟩,
  none,
  none,
  none,
  none,
  none,
  some ⟨.slice 3, 1, 24, some (.slice none 0 0)⟩,
  none,
  none,
  none,
  none,
  some ⟨.slice 5, 1, 24, some (.slice none 0 0)⟩,
  none,
  none,
  none,
  none,
  none,
  none,
  none,
  none,
  none,
  some ⟨.slice 9, 1, 24, some (.slice none 0 0)⟩,
  some ⟨.struct [(0, 72), (1, 57), (2, 4)], 3, 56, some (.agg #[.slice none 0 0, .slice none 0 0, .bool false])⟩,
  some ⟨.struct [(0, 72), (1, 57), (2, 4)], 3, 56, some (.agg #[.slice none 0 0, .slice none 0 0, .bool false])⟩,
  none,
  none,
  some ⟨.struct [(0, 72), (1, 57), (2, 4)], 3, 56, some (.agg #[.slice none 0 0, .slice none 0 0, .bool false])⟩,
  none,
  none,
  none,
  none,
  none,
  some ⟨.ptr 88, 1, 8, some (.pointer none)⟩,
  none,
  none,
  some ⟨.slice 97, 1, 24, some (.slice none 0 0)⟩,
  some ⟨.struct [(0, 28), (1, 86)], 2, 48, some (.agg #[.slice none 0 0, .slice none 0 0])⟩,
  some ⟨.struct [(0, 28), (1, 86)], 2, 48, some (.agg #[.slice none 0 0, .slice none 0 0])⟩,
  none,
  some ⟨.ptr 95, 1, 8, some (.pointer none)⟩,
  none,
  none,
  some ⟨.other, 1, 8, some (.map none)⟩,
  some ⟨.struct [(0, 28), (1, 93)], 2, 32, some (.agg #[.slice none 0 0, .map none])⟩,
  some ⟨.struct [(0, 28), (1, 93)], 2, 32, some (.agg #[.slice none 0 0, .map none])⟩,
  none,
  some ⟨.slice 4, 1, 24, some (.slice none 0 0)⟩,
  none,
  some ⟨.array 2 3, 2, 16, some (.agg #[.int .i64 0, .int .i64 0])⟩,
  none,
  none,
  none,
  none,
  some ⟨.ptr 107, 1, 8, some (.pointer none)⟩,
  some ⟨.int .u64, 1, 8, some (.int .u64 0)⟩,
  some ⟨.struct [(0, 62), (1, 3), (2, 105)], 3, 40, some (.agg #[.slice none 0 0, .int .i64 0, .int .u64 0])⟩,
  some ⟨.struct [(0, 62), (1, 3), (2, 105)], 3, 40, some (.agg #[.slice none 0 0, .int .i64 0, .int .u64 0])⟩,
  none,
  none,
  none,
  none,
  none,
  none,
  none,
  none,
  none,
  none,
  none,
  none,
  none,
  none,
  none,
  some ⟨.int .u64, 1, 8, some (.int .u64 0)⟩,
  none,
  some ⟨.ptr 47, 1, 8, some (.pointer none)⟩,
  none,
  none,
  none,
  none,
  none,
  some ⟨.int .i64, 1, 8, some (.int .i64 0)⟩,
  none,
  none,
  none,
  none,
  none,
  some ⟨.int .u32, 1, 4, some (.int .u32 0)⟩,
  none,
  none,
  none,
  some ⟨.int .u64, 1, 8, some (.int .u64 0)⟩,
  none,
  none,
  none,
  some ⟨.ptr 3, 1, 8, some (.pointer none)⟩,
  none,
  none,
  none,
  some ⟨.ptr 141, 1, 8, some (.pointer none)⟩,
  none,
  none,
  some ⟨.struct [(0, 17), (1, 17), (2, 17), (3, 9)], 4, 40, some (.agg #[.pointer none, .pointer none, .pointer none, .string ⟨#[]⟩])⟩,
  some ⟨.struct [(0, 17), (1, 17), (2, 17), (3, 9)], 4, 40, some (.agg #[.pointer none, .pointer none, .pointer none, .string ⟨#[]⟩])⟩,
  some ⟨.array 0 16, 0, 0, some (.agg #[])⟩,
  some ⟨.struct [(0, 154)], 0, 0, some (.agg #[])⟩,
  some ⟨.struct [(0, 154)], 0, 0, some (.agg #[])⟩,
  some ⟨.int .u8, 1, 1, some (.int .u8 0)⟩,
  some ⟨.int .u8, 1, 1, some (.int .u8 0)⟩,
  none,
  some ⟨.ptr 5, 1, 8, some (.pointer none)⟩,
  some ⟨.int .i32, 1, 4, some (.int .i32 0)⟩,
  some ⟨.int .i32, 1, 4, some (.int .i32 0)⟩,
  some ⟨.struct [(0, 12), (1, 12), (2, 137), (3, 157), (4, 5), (5, 5), (6, 158), (7, 159), (8, 160), (9, 161), (10, 162)], 11, 48, some (.agg #[.int .u64 0, .int .u64 0, .int .u32 0, .int .u8 0, .int .u8 0, .int .u8 0, .int .u8 0, .nilFunc, .pointer none, .int .i32 0, .int .i32 0])⟩,
  some ⟨.struct [(0, 12), (1, 12), (2, 137), (3, 157), (4, 5), (5, 5), (6, 158), (7, 159), (8, 160), (9, 161), (10, 162)], 11, 48, some (.agg #[.int .u64 0, .int .u64 0, .int .u32 0, .int .u8 0, .int .u8 0, .int .u8 0, .int .u8 0, .nilFunc, .pointer none, .int .i32 0, .int .i32 0])⟩,
  none]
def te : TE := teOf teL
theorem T : TEok Try.prog te := TEok_of (by kernel_rfl)
theorem mix : Try.prog.follows .mixedOrders = true := by kernel_rfl

def encInt (x : Int) : List D := [.v (.int .i64 x)]
def encBool (x : Bool) : List D := [.v (.bool x)]
def encStr (x : ByteArray) : List D := [.v (.string x)]
def encInt_u8 (x : Int) : List D := [.v (.int .u8 x)]
def encInt_u64 (x : Int) : List D := [.v (.int .u64 x)]
def encInt_i32 (x : Int) : List D := [.v (.int .i32 x)]
def encLBool (x : List Bool) : List D := [.s (x.map encBool)]
def encLBoolO (x : List Bool) : List D := [.w 1 (x.map encBool)]
theorem frzLBool (x : List Bool) : FrzL (encLBoolO x) (encLBool x) := .cons (.map fun y => .vs rfl) .nil
structure Item where
  names : List ByteArray
  marks : List Int
  late : Bool
  deriving Inhabited, DecidableEq
def encItem (x : Item) : List D := [.s (x.names.map encStr), .s (x.marks.map encInt), .v (.bool x.late)]
def encItemO (x : Item) : List D := [.w 1 (x.names.map encStr), .w 1 (x.marks.map encInt), .v (.bool x.late)]
theorem frzItem (x : Item) : FrzL (encItemO x) (encItem x) := .cons (.map fun y => .vs rfl) (.cons (.map fun y => .vs rfl) (.cons (.vs rfl) (.nil)))
structure Change where
  tick : Int
  caller : Int
  item : Int
  name : Int
  mark : Int
  review : Bool
  deriving Inhabited, DecidableEq
def encChange (x : Change) : List D := [.v (.int .i64 x.tick), .v (.int .i64 x.caller), .v (.int .i64 x.item), .v (.int .i64 x.name), .v (.int .i64 x.mark), .v (.bool x.review)]
structure HiState where
  items : List Item
  open' : List (List Bool)
  deriving Inhabited, DecidableEq
def encHiState (x : HiState) : List D := [.s (x.items.map encItem), .s (x.open'.map encLBool)]
def encHiStateO (x : HiState) : List D := [.w 3 (x.items.map encItemO), .w 1 (x.open'.map encLBoolO)]
theorem frzHiState (x : HiState) : FrzL (encHiStateO x) (encHiState x) := .cons (.map fun y => frzItem y) (.cons (.map fun y => frzLBool y) (.nil))
structure HistoryState where
  items : List Item
  open' : MapL
  deriving Inhabited, DecidableEq
def encHistoryState (x : HistoryState) : List D := [.s (x.items.map encItem), .mi (encMe x.open')]
def encHistoryStateO (x : HistoryState) : List D := [.w 3 (x.items.map encItemO), .mw (encMe x.open')]
theorem frzHistoryState (x : HistoryState) : FrzL (encHistoryStateO x) (encHistoryState x) := .cons (.map fun y => frzItem y) (.cons (.mw) (.nil))
theorem mapT0 : MapT Try.prog 93 99 4 3 := ⟨by kernel_rfl, ⟨by kernel_rfl, by kernel_rfl, by kernel_rfl, by kernel_rfl⟩, by kernel_rfl, ⟨165, by kernel_rfl⟩⟩

def laws_szStringS_l1 : List ByteArray → Nat → Int → Option Int
  | [], k1, v8 =>
    some v8
  | y2 :: ys3, k1, v8 =>
    cond (decide ((w64 (v8 - (y2.size : Int))) < 0))
      (some (-1))
      (laws_szStringS_l1 ys3 (k1 + 1) (w64 (v8 - (y2.size : Int))))
def laws_szStringS_p (a : List ByteArray) (left : Int) : Option Int :=
  cond (decide ((w64 (left - (a.length : Int))) < 0))
    (some (-1))
    (laws_szStringS_l1 a 0 (w64 (left - (a.length : Int))))
theorem laws_szStringS_ok (a : List ByteArray) (left : Int) (r : Int) (hH : laws_szStringS_p a left = some r) : SpecR Try.prog 83 [.s (List.map encStr a), left] (.v (.int .i64 r)) := by
 refine fn_ok T Try.func83 rfl (by decide) rfl ?_
 refine AW.seq (AW.region ?_)
 refine AO.pu T ?_
 refine AO.nil (AW.seq ?_)
 refine AW.region ?_
 iterate 2 refine AO.pu T ?_
 refine AO.val rfl rfl (len_map_ok T rfl rfl rfl) ?_
 refine AO.val rfl rfl (arw_ok rfl rfl rfl rfl) ?_
 refine AO.pu T ?_
 refine AO.nil ?_
 iterate 2 refine AW.seq ?_
 refine AW.region ?_
 iterate 2 refine AO.pu T ?_
 refine AO.nil ?_
 refine AW.cond (b := decide ((w64 (left - (a.length : Int))) < 0)) rfl (fun hc => ?_) (fun hc => ?_)
 replace hH := condT hc hH
 refine AW.seq (AW.region ?_)
 refine AO.pu T ?_
 refine AO.nil (AW.ret ?_)
 cases someE hH
 exact retQ.i [] rfl (.c (.c .v))
 replace hH := condF hc hH
 refine AW.skip ?_
 iterate 2 refine AW.seq ?_
 refine AW.region ?_
 refine AO.pu T ?_
 refine AO.nil ?_
 refine AW.block ?_
 refine AW.loopS (fun s : Nat × Int => (⟨[(0, .s (List.map encStr a)), (1, s.2), (5, (s.1 : Int))], [], 28, []⟩ : St)) (fun s => s.1 ≤ a.length ∧ laws_szStringS_l1 (a.drop s.1) s.1 s.2 = some r) (fun s => a.length - s.1) (0, w64 (left - (a.length : Int))) ⟨Nat.zero_le _, hH⟩ ?_ ?_
 exact Le.ct 0 0
 rintro ⟨k1, v8⟩ ⟨hk, hH⟩
 replace hH : laws_szStringS_l1 (a.drop k1) k1 v8 = some r := hH
 try dsimp only
 refine AW.boundM (t := 0) (l := a) rfl (fun hb5 => ?_)
 rcases hd4 : a.drop k1 with _ | ⟨y2, ys3⟩
 rw [hd4, laws_szStringS_l1] at hH
 have hlt6 := drop_ge hd4
 iterate 2 refine AW.seq ?_
 refine AW.region ?_
 iterate 2 refine AO.pu T ?_
 refine AO.val rfl rfl (len_map_ok T rfl rfl rfl) ?_
 refine AO.pu T ?_
 refine AO.nil ?_
 refine AW.condF' (b := decide ((k1 : Int) < (a.length : Int))) rfl (rngF hlt6) ?_
 refine AW.exit ?_
 refine AW.seq (AW.region ?_)
 iterate 2 refine AO.pu T ?_
 refine AO.nil (AW.ret ?_)
 cases someE hH
 exact retQ.i [] rfl (.c (.c .v))
 rw [hd4, laws_szStringS_l1] at hH
 have hlt6 := drop_lt hd4
 iterate 2 refine AW.seq ?_
 refine AW.region ?_
 iterate 2 refine AO.pu T ?_
 refine AO.val rfl rfl (len_map_ok T rfl rfl rfl) ?_
 refine AO.pu T ?_
 refine AO.nil ?_
 refine AW.condT' (b := decide ((k1 : Int) < (a.length : Int))) rfl (rngT hlt6) ?_
 refine AW.skip ?_
 refine AW.seq ?_
 refine AW.block ?_
 refine AW.seq (AW.region ?_)
 iterate 3 refine AO.pu T ?_
 refine AO.val rfl rfl (ix_map_ok T rfl rfl rfl rfl rfl (getI_drop hd4) rfl) ?_
 iterate 2 refine AO.pu T ?_
 refine AO.val rfl rfl (arw_ok rfl rfl rfl rfl) ?_
 refine AO.pu T ?_
 refine AO.nil (AW.seq ?_)
 refine AW.region ?_
 iterate 2 refine AO.pu T ?_
 refine AO.nil ?_
 refine AW.cond (b := decide ((w64 (v8 - (y2.size : Int))) < 0)) rfl (fun hc => ?_) (fun hc => ?_)
 replace hH := condT hc hH
 refine AW.seq (AW.region ?_)
 refine AO.pu T ?_
 refine AO.nil (AW.ret ?_)
 cases someE hH
 exact retQ.i [] rfl (.c (.c .v))
 replace hH := condF hc hH
 refine AW.skip ?_
 refine AW.region ?_
 refine AO.pu T ?_
 refine AO.val rfl rfl (ar_ok rfl rfl rfl rfl (inI_succ hlt6 hb5)) ?_
 refine AO.pu T ?_
 refine AO.nil ?_
 refine ⟨(k1 + 1, w64 (v8 - (y2.size : Int))), ⟨Nat.succ_le_of_lt hlt6, (by rw [drop_succ_of hd4]; exact hH)⟩, (by have := hlt6; dsimp only; omega), ?_⟩
 exact Le.ct 0 0

def laws_szIntS_p (a : List Int) (left : Int) : Option Int :=
  cond (decide ((w64 (left - (a.length : Int))) < 0))
    (some (-1))
    (some (w64 (left - (a.length : Int))))
theorem laws_szIntS_ok (a : List Int) (left : Int) (r : Int) (hH : laws_szIntS_p a left = some r) : SpecR Try.prog 84 [.s (List.map encInt a), left] (.v (.int .i64 r)) := by
 refine fn_ok T Try.func84 rfl (by decide) rfl ?_
 refine AW.seq (AW.region ?_)
 refine AO.pu T ?_
 refine AO.nil (AW.seq ?_)
 refine AW.region ?_
 iterate 2 refine AO.pu T ?_
 refine AO.val rfl rfl (len_map_ok T rfl rfl rfl) ?_
 refine AO.val rfl rfl (arw_ok rfl rfl rfl rfl) ?_
 refine AO.pu T ?_
 refine AO.nil ?_
 iterate 2 refine AW.seq ?_
 refine AW.region ?_
 iterate 2 refine AO.pu T ?_
 refine AO.nil ?_
 refine AW.cond (b := decide ((w64 (left - (a.length : Int))) < 0)) rfl (fun hc => ?_) (fun hc => ?_)
 replace hH := condT hc hH
 refine AW.seq (AW.region ?_)
 refine AO.pu T ?_
 refine AO.nil (AW.ret ?_)
 cases someE hH
 exact retQ.i [] rfl (.c (.c .v))
 replace hH := condF hc hH
 refine AW.skip ?_
 refine AW.seq (AW.region ?_)
 iterate 2 refine AO.pu T ?_
 refine AO.nil (AW.ret ?_)
 cases someE hH
 exact retQ.i [] rfl (.c (.c .v))

def laws_szItem_p (a : Item) (left : Int) : Option Int :=
  (laws_szStringS_p a.names left).bind fun x1 =>
  cond (decide (x1 < 0))
    (some (-1))
    ((laws_szIntS_p a.marks x1).bind fun x3 =>
    cond (decide (x3 < 0))
      (some (-1))
      (some x3))
theorem laws_szItem_ok (a : Item) (left : Int) (r : Int) (hH : laws_szItem_p a left = some r) : SpecR Try.prog 53 [.g (encItem a), left] (.v (.int .i64 r)) := by
 refine fn_ok T Try.func53 rfl (by decide) rfl ?_
 refine AW.seq (AW.region ?_)
 refine AO.step rfl (box_ok T rfl 1 rfl rfl rfl rfl) ?_
 refine AO.pu T ?_
 refine AO.nil (AW.seq ?_)
 obtain ⟨x1, hx2, hH⟩ := bindE hH
 refine AW.region ?_
 iterate 3 refine AO.pu T ?_
 refine AO.val rfl rfl (callV_ok rfl rfl rfl rfl (laws_szStringS_ok _ _ _ (hx2)) rfl) ?_
 refine AO.pu T ?_
 refine AO.nil ?_
 iterate 2 refine AW.seq ?_
 refine AW.region ?_
 iterate 2 refine AO.pu T ?_
 refine AO.nil ?_
 refine AW.cond (b := decide (x1 < 0)) rfl (fun hc => ?_) (fun hc => ?_)
 replace hH := condT hc hH
 refine AW.seq (AW.region ?_)
 refine AO.pu T ?_
 refine AO.nil (AW.ret ?_)
 cases someE hH
 exact retQ.i [] rfl (.c (.c .v))
 replace hH := condF hc hH
 refine AW.skip ?_
 refine AW.seq ?_
 obtain ⟨x3, hx4, hH⟩ := bindE hH
 refine AW.region ?_
 iterate 3 refine AO.pu T ?_
 refine AO.val rfl rfl (callV_ok rfl rfl rfl rfl (laws_szIntS_ok _ _ _ (hx4)) rfl) ?_
 refine AO.pu T ?_
 refine AO.nil ?_
 iterate 2 refine AW.seq ?_
 refine AW.region ?_
 iterate 2 refine AO.pu T ?_
 refine AO.nil ?_
 refine AW.cond (b := decide (x3 < 0)) rfl (fun hc => ?_) (fun hc => ?_)
 replace hH := condT hc hH
 refine AW.seq (AW.region ?_)
 refine AO.pu T ?_
 refine AO.nil (AW.ret ?_)
 cases someE hH
 exact retQ.i [] rfl (.c (.c .v))
 replace hH := condF hc hH
 refine AW.skip ?_
 refine AW.seq (AW.region ?_)
 iterate 2 refine AO.pu T ?_
 refine AO.nil (AW.ret ?_)
 cases someE hH
 exact retQ.i [] rfl (.c (.c .v))

def laws_szItemS_l1 : List Item → Nat → Int → Option Int
  | [], k1, v12 =>
    some v12
  | y2 :: ys3, k1, v12 =>
    (laws_szItem_p y2 v12).bind fun x14 =>
    cond (decide (x14 < 0))
      (some (-1))
      (laws_szItemS_l1 ys3 (k1 + 1) x14)
def laws_szItemS_p (a : List Item) (left : Int) : Option Int :=
  cond (decide ((w64 (left - (a.length : Int))) < 0))
    (some (-1))
    (laws_szItemS_l1 a 0 (w64 (left - (a.length : Int))))
theorem laws_szItemS_ok (a : List Item) (left : Int) (r : Int) (hH : laws_szItemS_p a left = some r) : SpecR Try.prog 12 [.s (List.map encItem a), left] (.v (.int .i64 r)) := by
 refine fn_ok T Try.func12 rfl (by decide) rfl ?_
 refine AW.seq (AW.region ?_)
 refine AO.pu T ?_
 refine AO.nil (AW.seq ?_)
 refine AW.region ?_
 iterate 2 refine AO.pu T ?_
 refine AO.val rfl rfl (len_map_ok T rfl rfl rfl) ?_
 refine AO.val rfl rfl (arw_ok rfl rfl rfl rfl) ?_
 refine AO.pu T ?_
 refine AO.nil ?_
 iterate 2 refine AW.seq ?_
 refine AW.region ?_
 iterate 2 refine AO.pu T ?_
 refine AO.nil ?_
 refine AW.cond (b := decide ((w64 (left - (a.length : Int))) < 0)) rfl (fun hc => ?_) (fun hc => ?_)
 replace hH := condT hc hH
 refine AW.seq (AW.region ?_)
 refine AO.pu T ?_
 refine AO.nil (AW.ret ?_)
 cases someE hH
 exact retQ.i [] rfl (.c (.c .v))
 replace hH := condF hc hH
 refine AW.skip ?_
 iterate 2 refine AW.seq ?_
 refine AW.region ?_
 refine AO.pu T ?_
 refine AO.nil ?_
 refine AW.block ?_
 refine AW.loopS (fun s : Nat × Int => (⟨[(0, .s (List.map encItem a)), (1, s.2), (5, (s.1 : Int))], [], 27, []⟩ : St)) (fun s => s.1 ≤ a.length ∧ laws_szItemS_l1 (a.drop s.1) s.1 s.2 = some r) (fun s => a.length - s.1) (0, w64 (left - (a.length : Int))) ⟨Nat.zero_le _, hH⟩ ?_ ?_
 exact Le.ct 0 0
 rintro ⟨k1, v12⟩ ⟨hk, hH⟩
 replace hH : laws_szItemS_l1 (a.drop k1) k1 v12 = some r := hH
 try dsimp only
 refine AW.boundM (t := 0) (l := a) rfl (fun hb5 => ?_)
 rcases hd4 : a.drop k1 with _ | ⟨y2, ys3⟩
 rw [hd4, laws_szItemS_l1] at hH
 have hlt6 := drop_ge hd4
 iterate 2 refine AW.seq ?_
 refine AW.region ?_
 iterate 2 refine AO.pu T ?_
 refine AO.val rfl rfl (len_map_ok T rfl rfl rfl) ?_
 refine AO.pu T ?_
 refine AO.nil ?_
 refine AW.condF' (b := decide ((k1 : Int) < (a.length : Int))) rfl (rngF hlt6) ?_
 refine AW.exit ?_
 refine AW.seq (AW.region ?_)
 iterate 2 refine AO.pu T ?_
 refine AO.nil (AW.ret ?_)
 cases someE hH
 exact retQ.i [] rfl (.c (.c .v))
 rw [hd4, laws_szItemS_l1] at hH
 have hlt6 := drop_lt hd4
 iterate 2 refine AW.seq ?_
 refine AW.region ?_
 iterate 2 refine AO.pu T ?_
 refine AO.val rfl rfl (len_map_ok T rfl rfl rfl) ?_
 refine AO.pu T ?_
 refine AO.nil ?_
 refine AW.condT' (b := decide ((k1 : Int) < (a.length : Int))) rfl (rngT hlt6) ?_
 refine AW.skip ?_
 refine AW.seq ?_
 refine AW.block ?_
 refine AW.seq ?_
 obtain ⟨x14, hx15, hH⟩ := bindE hH
 refine AW.region ?_
 iterate 2 refine AO.pu T ?_
 refine AO.val rfl rfl (ix_map_ok T rfl rfl rfl rfl rfl (getI_drop hd4) rfl) ?_
 refine AO.pu T (d := .g [.s (List.map encStr y2.names), .s (List.map encInt y2.marks), .v (.bool y2.late)]) ?_
 refine AO.pu T ?_
 refine AO.val rfl rfl (callV_ok rfl rfl rfl rfl (laws_szItem_ok _ _ _ (hx15)) rfl) ?_
 refine AO.pu T ?_
 refine AO.nil (AW.seq ?_)
 refine AW.region ?_
 iterate 2 refine AO.pu T ?_
 refine AO.nil ?_
 refine AW.cond (b := decide (x14 < 0)) rfl (fun hc => ?_) (fun hc => ?_)
 replace hH := condT hc hH
 refine AW.seq (AW.region ?_)
 refine AO.pu T ?_
 refine AO.nil (AW.ret ?_)
 cases someE hH
 exact retQ.i [] rfl (.c (.c .v))
 replace hH := condF hc hH
 refine AW.skip ?_
 refine AW.region ?_
 refine AO.pu T ?_
 refine AO.val rfl rfl (ar_ok rfl rfl rfl rfl (inI_succ hlt6 hb5)) ?_
 refine AO.pu T ?_
 refine AO.nil ?_
 refine ⟨(k1 + 1, x14), ⟨Nat.succ_le_of_lt hlt6, (by rw [drop_succ_of hd4]; exact hH)⟩, (by have := hlt6; dsimp only; omega), ?_⟩
 exact Le.ct 0 0

def laws_szChangeS_p (a : List Change) (left : Int) : Option Int :=
  cond (decide ((w64 (left - (a.length : Int))) < 0))
    (some (-1))
    (some (w64 (left - (a.length : Int))))
theorem laws_szChangeS_ok (a : List Change) (left : Int) (r : Int) (hH : laws_szChangeS_p a left = some r) : SpecR Try.prog 13 [.s (List.map encChange a), left] (.v (.int .i64 r)) := by
 refine fn_ok T Try.func13 rfl (by decide) rfl ?_
 refine AW.seq (AW.region ?_)
 refine AO.pu T ?_
 refine AO.nil (AW.seq ?_)
 refine AW.region ?_
 iterate 2 refine AO.pu T ?_
 refine AO.val rfl rfl (len_map_ok T rfl rfl rfl) ?_
 refine AO.val rfl rfl (arw_ok rfl rfl rfl rfl) ?_
 refine AO.pu T ?_
 refine AO.nil ?_
 iterate 2 refine AW.seq ?_
 refine AW.region ?_
 iterate 2 refine AO.pu T ?_
 refine AO.nil ?_
 refine AW.cond (b := decide ((w64 (left - (a.length : Int))) < 0)) rfl (fun hc => ?_) (fun hc => ?_)
 replace hH := condT hc hH
 refine AW.seq (AW.region ?_)
 refine AO.pu T ?_
 refine AO.nil (AW.ret ?_)
 cases someE hH
 exact retQ.i [] rfl (.c (.c .v))
 replace hH := condF hc hH
 refine AW.skip ?_
 refine AW.seq (AW.region ?_)
 iterate 2 refine AO.pu T ?_
 refine AO.nil (AW.ret ?_)
 cases someE hH
 exact retQ.i [] rfl (.c (.c .v))

def laws_toStringS_l1 : List ByteArray → Nat → List ByteArray → Option ((List ByteArray))
  | [], k3, v14 =>
    some v14
  | y4 :: ys5, k3, v14 =>
    (getI v14 (k3 : Int)).bind fun x16 =>
    laws_toStringS_l1 ys5 (k3 + 1) (v14.set ((k3 : Int).toNat) y4)
def laws_toStringS_p (a : List ByteArray) : Option (List ByteArray) :=
  (need (decide (0 ≤ (a.length : Int)) && fitsB 16 (a.length : Int).toNat)).bind fun u1 =>
  laws_toStringS_l1 a 0 (List.replicate (a.length : Int).toNat (⟨#[]⟩ : ByteArray))
theorem laws_toStringS_ok (a : List ByteArray) (r : (List ByteArray)) (hH : laws_toStringS_p a = some r) : SpecR Try.prog 86 [.s (List.map encStr a)] (.w 1 (r.map encStr)) := by
 refine fn_ok T Try.func86 rfl (by decide) rfl ?_
 refine AW.seq (AW.region ?_)
 refine AO.pu T ?_
 refine AO.nil (AW.seq ?_)
 obtain ⟨u1, hx2, hH⟩ := bindE hH
 refine AW.region ?_
 refine AO.pu T ?_
 refine AO.val rfl rfl (len_map_ok T rfl rfl rfl) ?_
 refine AO.step rfl (make_map_ok T rfl 1 rfl rfl rfl rfl rfl (f := encStr) (zo := (⟨#[]⟩ : ByteArray)) (by repeat constructor) (by decide) rfl rfl (Bool.and_eq_true_iff.1 (needT (hx2))).1 (Bool.and_eq_true_iff.1 (needT (hx2))).2 rfl rfl) ?_
 refine AO.pu T ?_
 refine AO.nil ?_
 iterate 2 refine AW.seq ?_
 refine AW.region ?_
 refine AO.pu T ?_
 refine AO.nil ?_
 refine AW.block ?_
 refine AW.loopS (fun s : Nat × (List ByteArray) => (⟨[(0, .s (List.map encStr a)), (3, .R 1), (4, (s.1 : Int))], [(1, .row 1 (List.map encStr s.2))], 22, []⟩ : St)) (fun s => s.1 ≤ a.length ∧ laws_toStringS_l1 (a.drop s.1) s.1 s.2 = some r) (fun s => a.length - s.1) (0, (List.replicate (a.length : Int).toNat (⟨#[]⟩ : ByteArray))) ⟨Nat.zero_le _, hH⟩ ?_ ?_
 exact Le.ct 0 0
 rintro ⟨k3, v14⟩ ⟨hk, hH⟩
 replace hH : laws_toStringS_l1 (a.drop k3) k3 v14 = some r := hH
 try dsimp only
 refine AW.boundM (t := 0) (l := a) rfl (fun hb7 => ?_)
 rcases hd6 : a.drop k3 with _ | ⟨y4, ys5⟩
 rw [hd6, laws_toStringS_l1] at hH
 have hlt8 := drop_ge hd6
 iterate 2 refine AW.seq ?_
 refine AW.region ?_
 iterate 2 refine AO.pu T ?_
 refine AO.val rfl rfl (len_map_ok T rfl rfl rfl) ?_
 refine AO.pu T ?_
 refine AO.nil ?_
 refine AW.condF' (b := decide ((k3 : Int) < (a.length : Int))) rfl (rngF hlt8) ?_
 refine AW.exit ?_
 refine AW.seq (AW.region ?_)
 iterate 2 refine AO.pu T ?_
 refine AO.nil (AW.ret ?_)
 cases someE hH
 exact retQ.i [1] rfl (.c (.c (.rowR rfl)))
 rw [hd6, laws_toStringS_l1] at hH
 have hlt8 := drop_lt hd6
 iterate 2 refine AW.seq ?_
 refine AW.region ?_
 iterate 2 refine AO.pu T ?_
 refine AO.val rfl rfl (len_map_ok T rfl rfl rfl) ?_
 refine AO.pu T ?_
 refine AO.nil ?_
 refine AW.condT' (b := decide ((k3 : Int) < (a.length : Int))) rfl (rngT hlt8) ?_
 refine AW.skip ?_
 refine AW.seq ?_
 refine AW.block ?_
 obtain ⟨x16, hx17, hH⟩ := bindE hH
 refine AW.region ?_
 iterate 4 refine AO.pu T ?_
 refine AO.val rfl rfl (ix_map_ok T rfl rfl rfl rfl rfl (getI_drop hd6) rfl) ?_
 refine AO.pu T ?_
 refine AO.val rfl rfl (ix_row_ok T rfl rfl rfl rfl rfl rfl (hx17)) ?_
 refine AO.step rfl (store_row_ok T rfl rfl rfl rfl rfl (getI_get (hx17)) rfl rfl rfl rfl (u' := y4) rfl rfl) ?_
 refine AO.nil ?_
 refine AW.region ?_
 refine AO.pu T ?_
 refine AO.val rfl rfl (ar_ok rfl rfl rfl rfl (inI_succ hlt8 hb7)) ?_
 refine AO.pu T ?_
 refine AO.nil ?_
 refine ⟨(k3 + 1, (v14.set ((k3 : Int).toNat) y4)), ⟨Nat.succ_le_of_lt hlt8, (by rw [drop_succ_of hd6]; exact hH)⟩, (by have := hlt8; dsimp only; omega), ?_⟩
 exact Le.ct 0 0

def laws_toIntS_l1 : List Int → Nat → List Int → Option ((List Int))
  | [], k3, v14 =>
    some v14
  | y4 :: ys5, k3, v14 =>
    (getI v14 (k3 : Int)).bind fun x16 =>
    laws_toIntS_l1 ys5 (k3 + 1) (v14.set ((k3 : Int).toNat) y4)
def laws_toIntS_p (a : List Int) : Option (List Int) :=
  (need (decide (0 ≤ (a.length : Int)) && fitsB 8 (a.length : Int).toNat)).bind fun u1 =>
  laws_toIntS_l1 a 0 (List.replicate (a.length : Int).toNat 0)
theorem laws_toIntS_ok (a : List Int) (r : (List Int)) (hH : laws_toIntS_p a = some r) : SpecR Try.prog 87 [.s (List.map encInt a)] (.w 1 (r.map encInt)) := by
 refine fn_ok T Try.func87 rfl (by decide) rfl ?_
 refine AW.seq (AW.region ?_)
 refine AO.pu T ?_
 refine AO.nil (AW.seq ?_)
 obtain ⟨u1, hx2, hH⟩ := bindE hH
 refine AW.region ?_
 refine AO.pu T ?_
 refine AO.val rfl rfl (len_map_ok T rfl rfl rfl) ?_
 refine AO.step rfl (make_map_ok T rfl 1 rfl rfl rfl rfl rfl (f := encInt) (zo := 0) (by repeat constructor) (by decide) rfl rfl (Bool.and_eq_true_iff.1 (needT (hx2))).1 (Bool.and_eq_true_iff.1 (needT (hx2))).2 rfl rfl) ?_
 refine AO.pu T ?_
 refine AO.nil ?_
 iterate 2 refine AW.seq ?_
 refine AW.region ?_
 refine AO.pu T ?_
 refine AO.nil ?_
 refine AW.block ?_
 refine AW.loopS (fun s : Nat × (List Int) => (⟨[(0, .s (List.map encInt a)), (3, .R 1), (4, (s.1 : Int))], [(1, .row 1 (List.map encInt s.2))], 22, []⟩ : St)) (fun s => s.1 ≤ a.length ∧ laws_toIntS_l1 (a.drop s.1) s.1 s.2 = some r) (fun s => a.length - s.1) (0, (List.replicate (a.length : Int).toNat 0)) ⟨Nat.zero_le _, hH⟩ ?_ ?_
 exact Le.ct 0 0
 rintro ⟨k3, v14⟩ ⟨hk, hH⟩
 replace hH : laws_toIntS_l1 (a.drop k3) k3 v14 = some r := hH
 try dsimp only
 refine AW.boundM (t := 0) (l := a) rfl (fun hb7 => ?_)
 rcases hd6 : a.drop k3 with _ | ⟨y4, ys5⟩
 rw [hd6, laws_toIntS_l1] at hH
 have hlt8 := drop_ge hd6
 iterate 2 refine AW.seq ?_
 refine AW.region ?_
 iterate 2 refine AO.pu T ?_
 refine AO.val rfl rfl (len_map_ok T rfl rfl rfl) ?_
 refine AO.pu T ?_
 refine AO.nil ?_
 refine AW.condF' (b := decide ((k3 : Int) < (a.length : Int))) rfl (rngF hlt8) ?_
 refine AW.exit ?_
 refine AW.seq (AW.region ?_)
 iterate 2 refine AO.pu T ?_
 refine AO.nil (AW.ret ?_)
 cases someE hH
 exact retQ.i [1] rfl (.c (.c (.rowR rfl)))
 rw [hd6, laws_toIntS_l1] at hH
 have hlt8 := drop_lt hd6
 iterate 2 refine AW.seq ?_
 refine AW.region ?_
 iterate 2 refine AO.pu T ?_
 refine AO.val rfl rfl (len_map_ok T rfl rfl rfl) ?_
 refine AO.pu T ?_
 refine AO.nil ?_
 refine AW.condT' (b := decide ((k3 : Int) < (a.length : Int))) rfl (rngT hlt8) ?_
 refine AW.skip ?_
 refine AW.seq ?_
 refine AW.block ?_
 obtain ⟨x16, hx17, hH⟩ := bindE hH
 refine AW.region ?_
 iterate 4 refine AO.pu T ?_
 refine AO.val rfl rfl (ix_map_ok T rfl rfl rfl rfl rfl (getI_drop hd6) rfl) ?_
 refine AO.pu T ?_
 refine AO.val rfl rfl (ix_row_ok T rfl rfl rfl rfl rfl rfl (hx17)) ?_
 refine AO.step rfl (store_row_ok T rfl rfl rfl rfl rfl (getI_get (hx17)) rfl rfl rfl rfl (u' := y4) rfl rfl) ?_
 refine AO.nil ?_
 refine AW.region ?_
 refine AO.pu T ?_
 refine AO.val rfl rfl (ar_ok rfl rfl rfl rfl (inI_succ hlt8 hb7)) ?_
 refine AO.pu T ?_
 refine AO.nil ?_
 refine ⟨(k3 + 1, (v14.set ((k3 : Int).toNat) y4)), ⟨Nat.succ_le_of_lt hlt8, (by rw [drop_succ_of hd6]; exact hH)⟩, (by have := hlt8; dsimp only; omega), ?_⟩
 exact Le.ct 0 0

def laws_toItem_p (a : Item) : Option Item :=
  (laws_toStringS_p a.names).bind fun x1 =>
  (laws_toIntS_p a.marks).bind fun x3 =>
  some (Item.mk x1 x3 a.late)
theorem laws_toItem_ok (a : Item) (r : Item) (hH : laws_toItem_p a = some r) : SpecR Try.prog 56 [.g (encItem a)] (.g (encItemO r)) := by
 refine fn_ok T Try.func56 rfl (by decide) rfl ?_
 refine AW.seq (AW.region ?_)
 refine AO.step rfl (box_ok T rfl 1 rfl rfl rfl rfl) ?_
 refine AO.step rfl (alloc_ok T rfl 2 rfl rfl rfl rfl rfl) ?_
 refine AO.nil (AW.seq ?_)
 refine AW.region ?_
 refine AO.step rfl (alloc_ok T rfl 3 rfl rfl rfl rfl rfl) ?_
 refine AO.nil (AW.seq ?_)
 obtain ⟨x1, hx2, hH⟩ := bindE hH
 refine AW.region ?_
 iterate 2 refine AO.pu T ?_
 refine AO.step rfl (call_ok rfl 4 rfl rfl rfl (laws_toStringS_ok _ _ (hx2)) rfl rfl rfl) ?_
 refine AO.pu T ?_
 refine AO.se T [.R 4, .w 0 [], .v (.bool false)] ?_
 refine AO.nil (AW.seq ?_)
 obtain ⟨x3, hx4, hH⟩ := bindE hH
 refine AW.region ?_
 iterate 2 refine AO.pu T ?_
 refine AO.step rfl (call_ok rfl 5 rfl rfl rfl (laws_toIntS_ok _ _ (hx4)) rfl rfl rfl) ?_
 refine AO.pu T ?_
 refine AO.se T [.R 4, .R 5, .v (.bool false)] ?_
 refine AO.nil (AW.seq ?_)
 refine AW.region ?_
 iterate 3 refine AO.pu T ?_
 refine AO.se T [.R 4, .R 5, .v (.bool a.late)] ?_
 refine AO.nil (AW.seq ?_)
 refine AW.region ?_
 refine AO.pu T (d := .g [.R 4, .R 5, .v (.bool a.late)]) ?_
 refine AO.se T [.R 4, .R 5, .v (.bool a.late)] ?_
 refine AO.nil (AW.ret ?_)
 cases someE hH
 exact retQ.i [4, 5] rfl (.c (.g (expLC_cons (.rowR rfl) (expLC_cons (.rowR rfl) (expLC_cons .v (expLC_nil))))))

def laws_toItemS_l1 : List Item → Nat → List Item → Option ((List Item))
  | [], k3, v18 =>
    some v18
  | y4 :: ys5, k3, v18 =>
    (laws_toItem_p y4).bind fun x20 =>
    (getI v18 (k3 : Int)).bind fun x22 =>
    laws_toItemS_l1 ys5 (k3 + 1) (v18.set ((k3 : Int).toNat) x20)
def laws_toItemS_p (a : List Item) : Option (List Item) :=
  (need (decide (0 ≤ (a.length : Int)) && fitsB 56 (a.length : Int).toNat)).bind fun u1 =>
  laws_toItemS_l1 a 0 (List.replicate (a.length : Int).toNat (Item.mk [] [] false))
theorem laws_toItemS_ok (a : List Item) (r : (List Item)) (hH : laws_toItemS_p a = some r) : SpecR Try.prog 15 [.s (List.map encItem a)] (.w 3 (r.map encItemO)) := by
 refine fn_ok T Try.func15 rfl (by decide) rfl ?_
 refine AW.seq (AW.region ?_)
 refine AO.pu T ?_
 refine AO.nil (AW.seq ?_)
 obtain ⟨u1, hx2, hH⟩ := bindE hH
 refine AW.region ?_
 refine AO.pu T ?_
 refine AO.val rfl rfl (len_map_ok T rfl rfl rfl) ?_
 refine AO.step rfl (make_map_ok T rfl 1 rfl rfl rfl rfl rfl (f := encItemO) (zo := (Item.mk [] [] false)) (by repeat constructor) (by decide) rfl rfl (Bool.and_eq_true_iff.1 (needT (hx2))).1 (Bool.and_eq_true_iff.1 (needT (hx2))).2 rfl rfl) ?_
 refine AO.pu T ?_
 refine AO.nil ?_
 iterate 2 refine AW.seq ?_
 refine AW.region ?_
 refine AO.pu T ?_
 refine AO.nil ?_
 refine AW.block ?_
 refine AW.loopS (fun s : Nat × (List Item) => (⟨[(0, .s (List.map encItem a)), (3, .R 1), (4, (s.1 : Int))], [(1, .row 3 (List.map encItemO s.2))], 23, []⟩ : St)) (fun s => s.1 ≤ a.length ∧ laws_toItemS_l1 (a.drop s.1) s.1 s.2 = some r) (fun s => a.length - s.1) (0, (List.replicate (a.length : Int).toNat (Item.mk [] [] false))) ⟨Nat.zero_le _, hH⟩ ?_ ?_
 exact Le.ct 0 0
 rintro ⟨k3, v18⟩ ⟨hk, hH⟩
 replace hH : laws_toItemS_l1 (a.drop k3) k3 v18 = some r := hH
 try dsimp only
 refine AW.boundM (t := 0) (l := a) rfl (fun hb7 => ?_)
 rcases hd6 : a.drop k3 with _ | ⟨y4, ys5⟩
 rw [hd6, laws_toItemS_l1] at hH
 have hlt8 := drop_ge hd6
 iterate 2 refine AW.seq ?_
 refine AW.region ?_
 iterate 2 refine AO.pu T ?_
 refine AO.val rfl rfl (len_map_ok T rfl rfl rfl) ?_
 refine AO.pu T ?_
 refine AO.nil ?_
 refine AW.condF' (b := decide ((k3 : Int) < (a.length : Int))) rfl (rngF hlt8) ?_
 refine AW.exit ?_
 refine AW.seq (AW.region ?_)
 iterate 2 refine AO.pu T ?_
 refine AO.nil (AW.ret ?_)
 cases someE hH
 exact retQ.i [1] rfl (.c (.c (.rowR rfl)))
 rw [hd6, laws_toItemS_l1] at hH
 have hlt8 := drop_lt hd6
 iterate 2 refine AW.seq ?_
 refine AW.region ?_
 iterate 2 refine AO.pu T ?_
 refine AO.val rfl rfl (len_map_ok T rfl rfl rfl) ?_
 refine AO.pu T ?_
 refine AO.nil ?_
 refine AW.condT' (b := decide ((k3 : Int) < (a.length : Int))) rfl (rngT hlt8) ?_
 refine AW.skip ?_
 refine AW.seq ?_
 refine AW.block ?_
 obtain ⟨x20, hx21, hH⟩ := bindE hH
 obtain ⟨x22, hx23, hH⟩ := bindE hH
 refine AW.region ?_
 iterate 4 refine AO.pu T ?_
 refine AO.val rfl rfl (ix_map_ok T rfl rfl rfl rfl rfl (getI_drop hd6) rfl) ?_
 refine AO.pu T (d := .g [.s (List.map encStr y4.names), .s (List.map encInt y4.marks), .v (.bool y4.late)]) ?_
 refine AO.step rfl (call_ok rfl 6 rfl rfl rfl (laws_toItem_ok _ _ (hx21)) rfl rfl rfl) ?_
 refine AO.val rfl rfl (ix_row_ok T rfl rfl rfl rfl rfl rfl (hx23)) ?_
 refine AO.step rfl (store_rowO_ok T (ids := [6, 7]) rfl rfl rfl rfl rfl (getI_get (hx23)) rfl (expLC_cons (.rowR rfl) (expLC_cons (.rowR rfl) (expLC_cons .v (expLC_nil)))) (by decide) rfl rfl (u' := x20) rfl rfl) ?_
 refine AO.nil ?_
 refine AW.region ?_
 refine AO.pu T ?_
 refine AO.val rfl rfl (ar_ok rfl rfl rfl rfl (inI_succ hlt8 hb7)) ?_
 refine AO.pu T ?_
 refine AO.nil ?_
 refine ⟨(k3 + 1, (v18.set ((k3 : Int).toNat) x20)), ⟨Nat.succ_le_of_lt hlt8, (by rw [drop_succ_of hd6]; exact hH)⟩, (by have := hlt8; dsimp only; omega), ?_⟩
 exact Le.ct 0 0

def laws_toChange_p (a : Change) : Option Change :=
  some a
theorem laws_toChange_ok (a : Change) (r : Change) (hH : laws_toChange_p a = some r) : SpecR Try.prog 28 [.g (encChange a)] (.g (encChange r)) := by
 refine fn_ok T Try.func28 rfl (by decide) rfl ?_
 refine AW.seq (AW.region ?_)
 refine AO.step rfl (box_ok T rfl 1 rfl rfl rfl rfl) ?_
 refine AO.step rfl (alloc_ok T rfl 2 rfl rfl rfl rfl rfl) ?_
 refine AO.nil (AW.seq ?_)
 refine AW.region ?_
 refine AO.step rfl (alloc_ok T rfl 3 rfl rfl rfl rfl rfl) ?_
 refine AO.nil (AW.seq ?_)
 refine AW.region ?_
 iterate 3 refine AO.pu T ?_
 refine AO.se T [a.tick, (0 : Int), (0 : Int), (0 : Int), (0 : Int), .v (.bool false)] ?_
 refine AO.nil (AW.seq ?_)
 refine AW.region ?_
 iterate 3 refine AO.pu T ?_
 refine AO.se T [a.tick, a.caller, (0 : Int), (0 : Int), (0 : Int), .v (.bool false)] ?_
 refine AO.nil (AW.seq ?_)
 refine AW.region ?_
 iterate 3 refine AO.pu T ?_
 refine AO.se T [a.tick, a.caller, a.item, (0 : Int), (0 : Int), .v (.bool false)] ?_
 refine AO.nil (AW.seq ?_)
 refine AW.region ?_
 iterate 3 refine AO.pu T ?_
 refine AO.se T [a.tick, a.caller, a.item, a.name, (0 : Int), .v (.bool false)] ?_
 refine AO.nil (AW.seq ?_)
 refine AW.region ?_
 iterate 3 refine AO.pu T ?_
 refine AO.se T [a.tick, a.caller, a.item, a.name, a.mark, .v (.bool false)] ?_
 refine AO.nil (AW.seq ?_)
 refine AW.region ?_
 iterate 3 refine AO.pu T ?_
 refine AO.se T [a.tick, a.caller, a.item, a.name, a.mark, .v (.bool a.review)] ?_
 refine AO.nil ?_
 refine AW.le (Le.ct 0 0 (σ' := (⟨[(2, .p 2 0), (3, .p 3 0)], [(2, .box [(0 : Int), (0 : Int), (0 : Int), (0 : Int), (0 : Int), .v (.bool false)]), (3, .box [a.tick, a.caller, a.item, a.name, a.mark, .v (.bool a.review)])], 23, []⟩ : St))) ?_
 refine AW.seq (AW.region ?_)
 refine AO.pu T (d := .g [a.tick, a.caller, a.item, a.name, a.mark, .v (.bool a.review)]) ?_
 refine AO.se T [a.tick, a.caller, a.item, a.name, a.mark, .v (.bool a.review)] ?_
 refine AO.nil (AW.ret ?_)
 cases someE hH
 exact retQ.i [] rfl (.c (.g (expLC_cons .v (expLC_cons .v (expLC_cons .v (expLC_cons .v (expLC_cons .v (expLC_cons .v (expLC_nil)))))))))

def laws_toChangeS_l1 : List Change → Nat → List Change → Option ((List Change))
  | [], k3, v18 =>
    some v18
  | y4 :: ys5, k3, v18 =>
    (laws_toChange_p y4).bind fun x20 =>
    (getI v18 (k3 : Int)).bind fun x22 =>
    laws_toChangeS_l1 ys5 (k3 + 1) (v18.set ((k3 : Int).toNat) x20)
def laws_toChangeS_p (a : List Change) : Option (List Change) :=
  (need (decide (0 ≤ (a.length : Int)) && fitsB 48 (a.length : Int).toNat)).bind fun u1 =>
  laws_toChangeS_l1 a 0 (List.replicate (a.length : Int).toNat (Change.mk 0 0 0 0 0 false))
theorem laws_toChangeS_ok (a : List Change) (r : (List Change)) (hH : laws_toChangeS_p a = some r) : SpecR Try.prog 16 [.s (List.map encChange a)] (.w 6 (r.map encChange)) := by
 refine fn_ok T Try.func16 rfl (by decide) rfl ?_
 refine AW.seq (AW.region ?_)
 refine AO.pu T ?_
 refine AO.nil (AW.seq ?_)
 obtain ⟨u1, hx2, hH⟩ := bindE hH
 refine AW.region ?_
 refine AO.pu T ?_
 refine AO.val rfl rfl (len_map_ok T rfl rfl rfl) ?_
 refine AO.step rfl (make_map_ok T rfl 1 rfl rfl rfl rfl rfl (f := encChange) (zo := (Change.mk 0 0 0 0 0 false)) (by repeat constructor) (by decide) rfl rfl (Bool.and_eq_true_iff.1 (needT (hx2))).1 (Bool.and_eq_true_iff.1 (needT (hx2))).2 rfl rfl) ?_
 refine AO.pu T ?_
 refine AO.nil ?_
 iterate 2 refine AW.seq ?_
 refine AW.region ?_
 refine AO.pu T ?_
 refine AO.nil ?_
 refine AW.block ?_
 refine AW.loopS (fun s : Nat × (List Change) => (⟨[(0, .s (List.map encChange a)), (3, .R 1), (4, (s.1 : Int))], [(1, .row 6 (List.map encChange s.2))], 23, []⟩ : St)) (fun s => s.1 ≤ a.length ∧ laws_toChangeS_l1 (a.drop s.1) s.1 s.2 = some r) (fun s => a.length - s.1) (0, (List.replicate (a.length : Int).toNat (Change.mk 0 0 0 0 0 false))) ⟨Nat.zero_le _, hH⟩ ?_ ?_
 exact Le.ct 0 0
 rintro ⟨k3, v18⟩ ⟨hk, hH⟩
 replace hH : laws_toChangeS_l1 (a.drop k3) k3 v18 = some r := hH
 try dsimp only
 refine AW.boundM (t := 0) (l := a) rfl (fun hb7 => ?_)
 rcases hd6 : a.drop k3 with _ | ⟨y4, ys5⟩
 rw [hd6, laws_toChangeS_l1] at hH
 have hlt8 := drop_ge hd6
 iterate 2 refine AW.seq ?_
 refine AW.region ?_
 iterate 2 refine AO.pu T ?_
 refine AO.val rfl rfl (len_map_ok T rfl rfl rfl) ?_
 refine AO.pu T ?_
 refine AO.nil ?_
 refine AW.condF' (b := decide ((k3 : Int) < (a.length : Int))) rfl (rngF hlt8) ?_
 refine AW.exit ?_
 refine AW.seq (AW.region ?_)
 iterate 2 refine AO.pu T ?_
 refine AO.nil (AW.ret ?_)
 cases someE hH
 exact retQ.i [1] rfl (.c (.c (.rowR rfl)))
 rw [hd6, laws_toChangeS_l1] at hH
 have hlt8 := drop_lt hd6
 iterate 2 refine AW.seq ?_
 refine AW.region ?_
 iterate 2 refine AO.pu T ?_
 refine AO.val rfl rfl (len_map_ok T rfl rfl rfl) ?_
 refine AO.pu T ?_
 refine AO.nil ?_
 refine AW.condT' (b := decide ((k3 : Int) < (a.length : Int))) rfl (rngT hlt8) ?_
 refine AW.skip ?_
 refine AW.seq ?_
 refine AW.block ?_
 obtain ⟨x20, hx21, hH⟩ := bindE hH
 obtain ⟨x22, hx23, hH⟩ := bindE hH
 refine AW.region ?_
 iterate 4 refine AO.pu T ?_
 refine AO.val rfl rfl (ix_map_ok T rfl rfl rfl rfl rfl (getI_drop hd6) rfl) ?_
 refine AO.pu T (d := .g [y4.tick, y4.caller, y4.item, y4.name, y4.mark, .v (.bool y4.review)]) ?_
 refine AO.val rfl rfl (callV_ok rfl rfl rfl rfl (laws_toChange_ok _ _ (hx21)) rfl) ?_
 refine AO.val rfl rfl (ix_row_ok T rfl rfl rfl rfl rfl rfl (hx23)) ?_
 refine AO.step rfl (store_row_ok T rfl rfl rfl rfl rfl (getI_get (hx23)) rfl rfl rfl rfl (u' := x20) rfl rfl) ?_
 refine AO.nil ?_
 refine AW.region ?_
 refine AO.pu T ?_
 refine AO.val rfl rfl (ar_ok rfl rfl rfl rfl (inI_succ hlt8 hb7)) ?_
 refine AO.pu T ?_
 refine AO.nil ?_
 refine ⟨(k3 + 1, (v18.set ((k3 : Int).toNat) x20)), ⟨Nat.succ_le_of_lt hlt8, (by rw [drop_succ_of hd6]; exact hH)⟩, (by have := hlt8; dsimp only; omega), ?_⟩
 exact Le.ct 0 0

def spec_itByte_p (b : Int) : Option Bool :=
  some ((decide (b ≥ 65) && decide (b ≤ 90)) || (decide (b ≥ 48) && decide (b ≤ 57)))
theorem spec_itByte_ok (b : Int) (r : Bool) (hH : spec_itByte_p b = some r) : SpecR Try.prog 119 [.v (.int .u8 b)] (.v (.bool r)) := by
 refine fn_ok T Try.func119 rfl (by decide) rfl ?_
 refine AW.seq (AW.region ?_)
 refine AO.pu T ?_
 refine AO.nil (AW.seq ?_)
 refine AW.region ?_
 iterate 3 refine AO.pu T ?_
 refine AO.pureG T [] rfl trivial rfl rfl ?_
 refine AO.pureG T [6] rfl ⟨fun h => h, trivial⟩ rfl rfl ?_
 refine AO.val rfl rfl (pick_and rfl rfl rfl rfl) ?_
 refine AO.pu T ?_
 refine AO.pureG T [] rfl trivial rfl rfl ?_
 refine AO.pureG T [10] rfl ⟨fun h => h, trivial⟩ rfl rfl ?_
 refine AO.pureG T [11] rfl ⟨fun h => h, trivial⟩ rfl rfl ?_
 refine AO.pureG T [] rfl trivial rfl rfl ?_
 refine AO.pureG T [13] rfl ⟨fun h => h, trivial⟩ rfl rfl ?_
 refine AO.guard [12] rfl ⟨fun h => h, trivial⟩ (fun hg => pick_and rfl rfl rfl (by rw [hg]; exact Bool.true_and _)) rfl ?_
 refine AO.val rfl rfl (pick_or rfl rfl rfl rfl) ?_
 refine AO.pu T ?_
 refine AO.nil (AW.ret ?_)
 cases someE hH
 exact retQ.i [] rfl (.c (.c .v))

def spec_l1In_p (n : Int) (lo : Int) (hi : Int) : Option Bool :=
  some (decide (n ≥ lo) && decide (n ≤ hi))
theorem spec_l1In_ok (n : Int) (lo : Int) (hi : Int) (r : Bool) (hH : spec_l1In_p n lo hi = some r) : SpecR Try.prog 64 [n, lo, hi] (.v (.bool r)) := by
 refine fn_ok T Try.func64 rfl (by decide) rfl ?_
 refine AW.seq (AW.region ?_)
 refine AO.pu T ?_
 refine AO.nil (AW.seq ?_)
 refine AW.region ?_
 iterate 4 refine AO.pu T ?_
 iterate 2 refine AO.pureG T [] rfl trivial rfl rfl ?_
 refine AO.pureG T [11, 12] rfl ⟨fun h => h, fun h => h, trivial⟩ rfl rfl ?_
 refine AO.val rfl rfl (pick_and rfl rfl rfl rfl) ?_
 refine AO.pu T ?_
 refine AO.nil (AW.ret ?_)
 cases someE hH
 exact retQ.i [] rfl (.c (.c .v))

def spec_itName_l1 (sA : ByteArray) : Nat → Int → Option Bool
  | 0, _ => none
  | k1 + 1, v11 =>
    cond (decide (v11 < (sA.size : Int)))
      ((strI sA v11).bind fun b13 =>
      (spec_itByte_p (b13.toNat : Int)).bind fun x15 =>
      cond (!x15)
        (some false)
        (spec_itName_l1 sA k1 (w64 (v11 + 1))))
      ((spec_l1In_p (sA.size : Int) 1 5).bind fun x17 =>
      some x17)
def spec_itName_p (fuel : Nat) (sA : ByteArray) : Option Bool :=
  spec_itName_l1 sA fuel 0
theorem spec_itName_ok (fuel : Nat) (sA : ByteArray) (r : Bool) (hH : spec_itName_p fuel sA = some r) : SpecR Try.prog 100 [.v (.string sA)] (.v (.bool r)) := by
 refine fn_ok T Try.func100 rfl (by decide) rfl ?_
 refine AW.seq (AW.region ?_)
 refine AO.pu T ?_
 refine AO.nil ?_
 iterate 2 refine AW.seq ?_
 refine AW.region ?_
 refine AO.pu T ?_
 refine AO.nil ?_
 refine AW.block ?_
 refine AW.loopS (fun s : Nat × Int => (⟨[(0, .v (.string sA)), (3, s.2)], [], 18, []⟩ : St)) (fun s => spec_itName_l1 sA s.1 s.2 = some r) (fun s => s.1) (fuel, 0) hH ?_ ?_
 exact Le.ct 0 0
 rintro ⟨k1, v11⟩ hH
 replace hH : spec_itName_l1 sA k1 v11 = some r := hH
 try dsimp only
 rcases k1 with _ | k1
 cases (show none = some _ from hH)
 rw [spec_itName_l1] at hH
 iterate 2 refine AW.seq ?_
 refine AW.region ?_
 iterate 4 refine AO.pu T ?_
 refine AO.nil ?_
 refine AW.cond (b := decide (v11 < (sA.size : Int))) rfl (fun hc => ?_) (fun hc => ?_)
 replace hH := condT hc hH
 refine AW.skip ?_
 refine AW.seq ?_
 refine AW.block ?_
 refine AW.seq ?_
 obtain ⟨b13, hx14, hH⟩ := bindE hH
 obtain ⟨x15, hx16, hH⟩ := bindE hH
 refine AW.region ?_
 iterate 2 refine AO.pu T ?_
 refine AO.val rfl rfl (ix_strI_ok T rfl rfl rfl rfl (hx14)) ?_
 refine AO.val rfl rfl (callV_ok rfl rfl rfl rfl (spec_itByte_ok _ _ (hx16)) rfl) ?_
 refine AO.pu T ?_
 refine AO.nil ?_
 refine AW.cond (b := (!x15)) rfl (fun hc => ?_) (fun hc => ?_)
 replace hH := condT hc hH
 refine AW.seq (AW.region ?_)
 refine AO.pu T ?_
 refine AO.nil (AW.ret ?_)
 cases someE hH
 exact retQ.i [] rfl (.c (.c .v))
 replace hH := condF hc hH
 refine AW.skip ?_
 refine AW.region ?_
 refine AO.pu T ?_
 refine AO.val rfl rfl (arw_ok rfl rfl rfl rfl) ?_
 refine AO.pu T ?_
 refine AO.nil ?_
 refine ⟨(k1, w64 (v11 + 1)), hH, Nat.lt_succ_self _, ?_⟩
 exact Le.ct 0 0
 replace hH := condF hc hH
 refine AW.exit ?_
 refine AW.seq ?_
 obtain ⟨x17, hx18, hH⟩ := bindE hH
 refine AW.region ?_
 iterate 2 refine AO.pu T ?_
 refine AO.val rfl rfl (callV_ok rfl rfl rfl rfl (spec_l1In_ok _ _ _ _ (hx18)) rfl) ?_
 refine AO.pu T ?_
 refine AO.nil (AW.ret ?_)
 cases someE hH
 exact retQ.i [] rfl (.c (.c .v))

def spec_l1All_l1 (lo : Int) (hi : Int) : List Int → Nat → Option Bool
  | [], k1 =>
    some true
  | y2 :: ys3, k1 =>
    (spec_l1In_p y2 lo hi).bind fun x12 =>
    cond (!x12)
      (some false)
      (spec_l1All_l1 lo hi ys3 (k1 + 1))
def spec_l1All_p (l : List Int) (lo : Int) (hi : Int) : Option Bool :=
  spec_l1All_l1 lo hi l 0
theorem spec_l1All_ok (l : List Int) (lo : Int) (hi : Int) (r : Bool) (hH : spec_l1All_p l lo hi = some r) : SpecR Try.prog 101 [.s (List.map encInt l), lo, hi] (.v (.bool r)) := by
 refine fn_ok T Try.func101 rfl (by decide) rfl ?_
 refine AW.seq (AW.region ?_)
 refine AO.pu T ?_
 refine AO.nil ?_
 iterate 2 refine AW.seq ?_
 refine AW.region ?_
 refine AO.pu T ?_
 refine AO.val rfl rfl (len_map_ok T rfl rfl rfl) ?_
 refine AO.pu T ?_
 refine AO.nil ?_
 refine AW.block ?_
 refine AW.loopS (fun s : Nat => (⟨[(1, lo), (2, hi), (9, .s (List.map encInt l)), (10, (l.length : Int)), (11, (s : Int))], [], 21, []⟩ : St)) (fun s => s ≤ l.length ∧ spec_l1All_l1 lo hi (l.drop s) s = some r) (fun s => l.length - s) 0 ⟨Nat.zero_le _, hH⟩ ?_ ?_
 exact Le.ct 0 0
 rintro k1 ⟨hk, hH⟩
 replace hH : spec_l1All_l1 lo hi (l.drop k1) k1 = some r := hH
 try dsimp only
 refine AW.boundM (t := 9) (l := l) rfl (fun hb5 => ?_)
 rcases hd4 : l.drop k1 with _ | ⟨y2, ys3⟩
 rw [hd4, spec_l1All_l1] at hH
 have hlt6 := drop_ge hd4
 refine AW.seq (AW.region ?_)
 refine AO.pu T ?_
 refine AO.nil (AW.seq ?_)
 refine AW.condF' (b := decide ((k1 : Int) < (l.length : Int))) rfl (rngF hlt6) ?_
 refine AW.exit ?_
 refine AW.seq (AW.region ?_)
 refine AO.pu T ?_
 refine AO.nil (AW.ret ?_)
 cases someE hH
 exact retQ.i [] rfl (.c (.c .v))
 rw [hd4, spec_l1All_l1] at hH
 have hlt6 := drop_lt hd4
 refine AW.seq (AW.region ?_)
 refine AO.pu T ?_
 refine AO.nil (AW.seq ?_)
 refine AW.condT' (b := decide ((k1 : Int) < (l.length : Int))) rfl (rngT hlt6) ?_
 refine AW.skip ?_
 refine AW.seq ?_
 refine AW.block ?_
 refine AW.seq (AW.region ?_)
 refine AO.val rfl rfl (ix_map_ok T rfl rfl rfl rfl rfl (getI_drop hd4) rfl) ?_
 iterate 2 refine AO.pu T ?_
 refine AO.nil (AW.seq ?_)
 obtain ⟨x12, hx13, hH⟩ := bindE hH
 refine AW.region ?_
 iterate 3 refine AO.pu T ?_
 refine AO.val rfl rfl (callV_ok rfl rfl rfl rfl (spec_l1In_ok _ _ _ _ (hx13)) rfl) ?_
 refine AO.pu T ?_
 refine AO.nil ?_
 refine AW.cond (b := (!x12)) rfl (fun hc => ?_) (fun hc => ?_)
 replace hH := condT hc hH
 refine AW.seq (AW.region ?_)
 refine AO.pu T ?_
 refine AO.nil (AW.ret ?_)
 cases someE hH
 exact retQ.i [] rfl (.c (.c .v))
 replace hH := condF hc hH
 refine AW.skip ?_
 refine AW.region ?_
 refine AO.val rfl rfl (ar_ok rfl rfl rfl rfl (inI_succ hlt6 hb5)) ?_
 refine AO.pu T ?_
 refine AO.nil ?_
 refine ⟨k1 + 1, ⟨Nat.succ_le_of_lt hlt6, (by rw [drop_succ_of hd4]; exact hH)⟩, (by have := hlt6; dsimp only; omega), ?_⟩
 exact Le.ct 0 0

def spec_itGood_l1 (it : Item) (fuel : Nat) : List ByteArray → Nat → Option Bool
  | [], k1 =>
    (spec_l1In_p (it.names.length : Int) 1 3).bind fun x12 =>
    (opt (x12 && ((it.marks.length : Int) == (it.names.length : Int))) default (spec_l1All_p it.marks 0 3)).bind fun x14 =>
    some ((x12 && ((it.marks.length : Int) == (it.names.length : Int))) && x14)
  | y2 :: ys3, k1 =>
    (spec_itName_p fuel y2).bind fun x16 =>
    cond (!x16)
      (some false)
      (spec_itGood_l1 it fuel ys3 (k1 + 1))
def spec_itGood_p (fuel : Nat) (it : Item) : Option Bool :=
  spec_itGood_l1 it fuel it.names 0
theorem spec_itGood_ok (fuel : Nat) (it : Item) (r : Bool) (hH : spec_itGood_p fuel it = some r) : SpecR Try.prog 85 [.g (encItem it)] (.v (.bool r)) := by
 refine fn_ok T Try.func85 rfl (by decide) rfl ?_
 refine AW.seq (AW.region ?_)
 refine AO.step rfl (box_ok T rfl 1 rfl rfl rfl rfl) ?_
 refine AO.pu T ?_
 refine AO.nil ?_
 iterate 2 refine AW.seq ?_
 refine AW.region ?_
 iterate 2 refine AO.pu T ?_
 refine AO.val rfl rfl (len_map_ok T rfl rfl rfl) ?_
 refine AO.pu T ?_
 refine AO.nil ?_
 refine AW.block ?_
 refine AW.loopS (fun s : Nat => (⟨[(1, .p 1 0), (6, .s (List.map encStr it.names)), (7, (it.names.length : Int)), (8, (s : Int))], [(1, .box [.s (List.map encStr it.names), .s (List.map encInt it.marks), .v (.bool it.late)])], 34, []⟩ : St)) (fun s => s ≤ it.names.length ∧ spec_itGood_l1 it fuel (it.names.drop s) s = some r) (fun s => it.names.length - s) 0 ⟨Nat.zero_le _, hH⟩ ?_ ?_
 exact Le.ct 0 0
 rintro k1 ⟨hk, hH⟩
 replace hH : spec_itGood_l1 it fuel (it.names.drop k1) k1 = some r := hH
 try dsimp only
 refine AW.boundM (t := 6) (l := it.names) rfl (fun hb5 => ?_)
 rcases hd4 : it.names.drop k1 with _ | ⟨y2, ys3⟩
 rw [hd4, spec_itGood_l1] at hH
 have hlt6 := drop_ge hd4
 refine AW.seq (AW.region ?_)
 refine AO.pu T ?_
 refine AO.nil (AW.seq ?_)
 refine AW.condF' (b := decide ((k1 : Int) < (it.names.length : Int))) rfl (rngF hlt6) ?_
 refine AW.exit ?_
 refine AW.seq ?_
 obtain ⟨x12, hx13, hH⟩ := bindE hH
 obtain ⟨x14, hx15, hH⟩ := bindE hH
 refine AW.region ?_
 iterate 2 refine AO.pu T ?_
 refine AO.val rfl rfl (len_map_ok T rfl rfl rfl) ?_
 refine AO.val rfl rfl (callV_ok rfl rfl rfl rfl (spec_l1In_ok _ _ _ _ (hx13)) rfl) ?_
 refine AO.pu T ?_
 refine AO.pureG T [] rfl trivial rfl rfl ?_
 refine AO.pureG T [21] rfl ⟨fun h => h, trivial⟩ rfl rfl ?_
 refine AO.guard [22] rfl ⟨fun h => h, trivial⟩ (fun hg => len_map_ok T rfl rfl rfl) rfl ?_
 refine AO.pureG T [] rfl trivial rfl rfl ?_
 refine AO.pureG T [24] rfl ⟨fun h => h, trivial⟩ rfl rfl ?_
 refine AO.guard [25] rfl ⟨fun h => h, trivial⟩ (fun hg => len_map_ok T rfl rfl rfl) rfl ?_
 refine AO.pureG T [23, 26] rfl ⟨fun h => h, fun h => h, trivial⟩ rfl rfl ?_
 refine AO.val rfl rfl (pick_and rfl rfl rfl rfl) ?_
 refine AO.pu T ?_
 refine AO.pureG T [] rfl trivial rfl rfl ?_
 refine AO.pureG T [30] rfl ⟨fun h => h, trivial⟩ rfl rfl ?_
 refine AO.guard [31] rfl ⟨fun h => h, trivial⟩ (fun hg => callV_ok rfl rfl rfl rfl (spec_l1All_ok _ _ _ _ (optT hx15 hg)) rfl) rfl ?_
 refine AO.val rfl rfl (pick_and rfl rfl rfl rfl) ?_
 refine AO.pu T ?_
 refine AO.nil (AW.ret ?_)
 cases someE hH
 exact retQ.i [] rfl (.c (.c .v))
 rw [hd4, spec_itGood_l1] at hH
 have hlt6 := drop_lt hd4
 refine AW.seq (AW.region ?_)
 refine AO.pu T ?_
 refine AO.nil (AW.seq ?_)
 refine AW.condT' (b := decide ((k1 : Int) < (it.names.length : Int))) rfl (rngT hlt6) ?_
 refine AW.skip ?_
 refine AW.seq ?_
 refine AW.block ?_
 refine AW.seq (AW.region ?_)
 refine AO.val rfl rfl (ix_map_ok T rfl rfl rfl rfl rfl (getI_drop hd4) rfl) ?_
 iterate 2 refine AO.pu T ?_
 refine AO.nil (AW.seq ?_)
 obtain ⟨x16, hx17, hH⟩ := bindE hH
 refine AW.region ?_
 refine AO.pu T ?_
 refine AO.val rfl rfl (callV_ok rfl rfl rfl rfl (spec_itName_ok fuel _ _ (hx17)) rfl) ?_
 refine AO.pu T ?_
 refine AO.nil ?_
 refine AW.cond (b := (!x16)) rfl (fun hc => ?_) (fun hc => ?_)
 replace hH := condT hc hH
 refine AW.seq (AW.region ?_)
 refine AO.pu T ?_
 refine AO.nil (AW.ret ?_)
 cases someE hH
 exact retQ.i [] rfl (.c (.c .v))
 replace hH := condF hc hH
 refine AW.skip ?_
 refine AW.region ?_
 refine AO.val rfl rfl (ar_ok rfl rfl rfl rfl (inI_succ hlt6 hb5)) ?_
 refine AO.pu T ?_
 refine AO.nil ?_
 refine ⟨k1 + 1, ⟨Nat.succ_le_of_lt hlt6, (by rw [drop_succ_of hd4]; exact hH)⟩, (by have := hlt6; dsimp only; omega), ?_⟩
 exact Le.ct 0 0

def spec_itList_l1 (l : List Item) (fuel : Nat) : List Item → Nat → Option Bool
  | [], k1 =>
    some (decide ((l.length : Int) ≤ 14))
  | y2 :: ys3, k1 =>
    (spec_itGood_p fuel y2).bind fun x12 =>
    cond (!x12)
      (some false)
      (spec_itList_l1 l fuel ys3 (k1 + 1))
def spec_itList_p (fuel : Nat) (l : List Item) : Option Bool :=
  spec_itList_l1 l fuel l 0
theorem spec_itList_ok (fuel : Nat) (l : List Item) (r : Bool) (hH : spec_itList_p fuel l = some r) : SpecR Try.prog 54 [.s (List.map encItem l)] (.v (.bool r)) := by
 refine fn_ok T Try.func54 rfl (by decide) rfl ?_
 refine AW.seq (AW.region ?_)
 refine AO.pu T ?_
 refine AO.nil ?_
 iterate 2 refine AW.seq ?_
 refine AW.region ?_
 refine AO.pu T ?_
 refine AO.val rfl rfl (len_map_ok T rfl rfl rfl) ?_
 refine AO.pu T ?_
 refine AO.nil ?_
 refine AW.block ?_
 refine AW.loopS (fun s : Nat => (⟨[(0, .s (List.map encItem l)), (5, .s (List.map encItem l)), (6, (l.length : Int)), (7, (s : Int))], [], 18, []⟩ : St)) (fun s => s ≤ l.length ∧ spec_itList_l1 l fuel (l.drop s) s = some r) (fun s => l.length - s) 0 ⟨Nat.zero_le _, hH⟩ ?_ ?_
 exact Le.ct 0 0
 rintro k1 ⟨hk, hH⟩
 replace hH : spec_itList_l1 l fuel (l.drop k1) k1 = some r := hH
 try dsimp only
 refine AW.boundM (t := 0) (l := l) rfl (fun hb5 => ?_)
 rcases hd4 : l.drop k1 with _ | ⟨y2, ys3⟩
 rw [hd4, spec_itList_l1] at hH
 have hlt6 := drop_ge hd4
 refine AW.seq (AW.region ?_)
 refine AO.pu T ?_
 refine AO.nil (AW.seq ?_)
 refine AW.condF' (b := decide ((k1 : Int) < (l.length : Int))) rfl (rngF hlt6) ?_
 refine AW.exit ?_
 refine AW.seq (AW.region ?_)
 refine AO.pu T ?_
 refine AO.val rfl rfl (len_map_ok T rfl rfl rfl) ?_
 iterate 2 refine AO.pu T ?_
 refine AO.nil (AW.ret ?_)
 cases someE hH
 exact retQ.i [] rfl (.c (.c .v))
 rw [hd4, spec_itList_l1] at hH
 have hlt6 := drop_lt hd4
 refine AW.seq (AW.region ?_)
 refine AO.pu T ?_
 refine AO.nil (AW.seq ?_)
 refine AW.condT' (b := decide ((k1 : Int) < (l.length : Int))) rfl (rngT hlt6) ?_
 refine AW.skip ?_
 refine AW.seq ?_
 refine AW.block ?_
 refine AW.seq (AW.region ?_)
 refine AO.val rfl rfl (ix_map_ok T rfl rfl rfl rfl rfl (getI_drop hd4) rfl) ?_
 refine AO.pu T (d := .g [.s (List.map encStr y2.names), .s (List.map encInt y2.marks), .v (.bool y2.late)]) ?_
 refine AO.step rfl (alloc_ok T rfl 3 rfl rfl rfl rfl rfl) ?_
 refine AO.se T [.s (List.map encStr y2.names), .s (List.map encInt y2.marks), .v (.bool y2.late)] ?_
 refine AO.nil (AW.seq ?_)
 obtain ⟨x12, hx13, hH⟩ := bindE hH
 refine AW.region ?_
 refine AO.pu T (d := .g [.s (List.map encStr y2.names), .s (List.map encInt y2.marks), .v (.bool y2.late)]) ?_
 refine AO.val rfl rfl (callV_ok rfl rfl rfl rfl (spec_itGood_ok fuel _ _ (hx13)) rfl) ?_
 refine AO.pu T ?_
 refine AO.nil ?_
 refine AW.cond (b := (!x12)) rfl (fun hc => ?_) (fun hc => ?_)
 replace hH := condT hc hH
 refine AW.seq (AW.region ?_)
 refine AO.pu T ?_
 refine AO.nil (AW.ret ?_)
 cases someE hH
 exact retQ.i [] rfl (.c (.c .v))
 replace hH := condF hc hH
 refine AW.skip ?_
 refine AW.region ?_
 refine AO.val rfl rfl (ar_ok rfl rfl rfl rfl (inI_succ hlt6 hb5)) ?_
 refine AO.pu T ?_
 refine AO.nil ?_
 refine ⟨k1 + 1, ⟨Nat.succ_le_of_lt hlt6, (by rw [drop_succ_of hd4]; exact hH)⟩, (by have := hlt6; dsimp only; omega), ?_⟩
 exact Le.ct 0 0

def spec_l1OwnS_p (l : List ByteArray) : Option (List ByteArray) :=
  (need (fitsB 16 l.length)).bind fun u1 =>
  some l
theorem spec_l1OwnS_ok (l : List ByteArray) (r : (List ByteArray)) (hH : spec_l1OwnS_p l = some r) : SpecR Try.prog 121 [.s (List.map encStr l)] (.w 1 (r.map encStr)) := by
 refine fn_ok T Try.func121 rfl (by decide) rfl ?_
 refine AW.seq (AW.region ?_)
 refine AO.pu T ?_
 refine AO.nil (AW.seq ?_)
 obtain ⟨u1, hx2, hH⟩ := bindE hH
 refine AW.region ?_
 refine AO.step rfl (mk0_ok T rfl rfl rfl rfl) ?_
 refine AO.pu T ?_
 refine AO.step rfl (app_ws_map T rfl 1 rfl rfl rfl rfl rfl (by decide) (by decide) rfl rfl (fun _ => rfl) (needT (hx2)) rfl rfl) ?_
 refine AO.pu T ?_
 refine AO.nil (AW.ret ?_)
 cases someE hH
 exact retQ.i [1] rfl (.c (.c (.rowR rfl)))

def spec_l1Own_p (l : List Int) : Option (List Int) :=
  (need (fitsB 8 l.length)).bind fun u1 =>
  some l
theorem spec_l1Own_ok (l : List Int) (r : (List Int)) (hH : spec_l1Own_p l = some r) : SpecR Try.prog 122 [.s (List.map encInt l)] (.w 1 (r.map encInt)) := by
 refine fn_ok T Try.func122 rfl (by decide) rfl ?_
 refine AW.seq (AW.region ?_)
 refine AO.pu T ?_
 refine AO.nil (AW.seq ?_)
 obtain ⟨u1, hx2, hH⟩ := bindE hH
 refine AW.region ?_
 refine AO.step rfl (mk0_ok T rfl rfl rfl rfl) ?_
 refine AO.pu T ?_
 refine AO.step rfl (app_ws_map T rfl 1 rfl rfl rfl rfl rfl (by decide) (by decide) rfl rfl (fun _ => rfl) (needT (hx2)) rfl rfl) ?_
 refine AO.pu T ?_
 refine AO.nil (AW.ret ?_)
 cases someE hH
 exact retQ.i [1] rfl (.c (.c (.rowR rfl)))

def spec_itOwn_l1 : List Item → Nat → List Item → Option ((List Item))
  | [], k1, v20 =>
    some v20
  | y2 :: ys3, k1, v20 =>
    (spec_l1OwnS_p y2.names).bind fun x22 =>
    (spec_l1Own_p y2.marks).bind fun x24 =>
    (need (fitsB 56 (v20.length + ([(Item.mk x22 x24 y2.late)]).length))).bind fun u26 =>
    spec_itOwn_l1 ys3 (k1 + 1) (v20 ++ [(Item.mk x22 x24 y2.late)])
def spec_itOwn_p (l : List Item) : Option (List Item) :=
  spec_itOwn_l1 l 0 []
theorem spec_itOwn_ok (l : List Item) (r : (List Item)) (hH : spec_itOwn_p l = some r) : SpecR Try.prog 104 [.s (List.map encItem l)] (.w 3 (r.map encItemO)) := by
 refine fn_ok T Try.func104 rfl (by decide) rfl ?_
 refine AW.seq (AW.region ?_)
 refine AO.pu T ?_
 refine AO.nil (AW.seq ?_)
 refine AW.region ?_
 refine AO.pu T ?_
 refine AO.nil ?_
 iterate 2 refine AW.seq ?_
 refine AW.region ?_
 refine AO.pu T ?_
 refine AO.val rfl rfl (len_map_ok T rfl rfl rfl) ?_
 refine AO.pu T ?_
 refine AO.nil ?_
 refine AW.block ?_
 refine AW.loopS (fun s : Nat × (List Item) => (⟨[(3, .R 10), (6, .s (List.map encItem l)), (7, (l.length : Int)), (8, (s.1 : Int))], [(10, .row 3 (List.map encItemO s.2))], 26, []⟩ : St)) (fun s => s.1 ≤ l.length ∧ spec_itOwn_l1 (l.drop s.1) s.1 s.2 = some r) (fun s => l.length - s.1) (0, []) ⟨Nat.zero_le _, hH⟩ ?_ ?_
 refine Le.trans (Le.void 3 10 3 rfl rfl) ?_
 exact Le.ct 0 0
 rintro ⟨k1, v20⟩ ⟨hk, hH⟩
 replace hH : spec_itOwn_l1 (l.drop k1) k1 v20 = some r := hH
 try dsimp only
 refine AW.boundM (t := 6) (l := l) rfl (fun hb5 => ?_)
 rcases hd4 : l.drop k1 with _ | ⟨y2, ys3⟩
 rw [hd4, spec_itOwn_l1] at hH
 have hlt6 := drop_ge hd4
 refine AW.seq (AW.region ?_)
 refine AO.pu T ?_
 refine AO.nil (AW.seq ?_)
 refine AW.condF' (b := decide ((k1 : Int) < (l.length : Int))) rfl (rngF hlt6) ?_
 refine AW.exit ?_
 refine AW.seq (AW.region ?_)
 iterate 2 refine AO.pu T ?_
 refine AO.nil (AW.ret ?_)
 cases someE hH
 exact retQ.i [10] rfl (.c (.c (.rowR rfl)))
 rw [hd4, spec_itOwn_l1] at hH
 have hlt6 := drop_lt hd4
 refine AW.seq (AW.region ?_)
 refine AO.pu T ?_
 refine AO.nil (AW.seq ?_)
 refine AW.condT' (b := decide ((k1 : Int) < (l.length : Int))) rfl (rngT hlt6) ?_
 refine AW.skip ?_
 refine AW.seq ?_
 refine AW.block ?_
 refine AW.seq (AW.region ?_)
 refine AO.val rfl rfl (ix_map_ok T rfl rfl rfl rfl rfl (getI_drop hd4) rfl) ?_
 refine AO.pu T (d := .g [.s (List.map encStr y2.names), .s (List.map encInt y2.marks), .v (.bool y2.late)]) ?_
 refine AO.step rfl (alloc_ok T rfl 11 rfl rfl rfl rfl rfl) ?_
 refine AO.se T [.s (List.map encStr y2.names), .s (List.map encInt y2.marks), .v (.bool y2.late)] ?_
 refine AO.nil ?_
 obtain ⟨x22, hx23, hH⟩ := bindE hH
 obtain ⟨x24, hx25, hH⟩ := bindE hH
 obtain ⟨u26, hx27, hH⟩ := bindE hH
 refine AW.drawn 11 12 [] mix (by kernel_rfl) rfl ?_
 iterate 3 refine AD.pure T rfl rfl rfl ?_
 refine AD.q (FStep.call rfl rfl rfl rfl rfl (spec_l1OwnS_ok _ _ (hx23)) rfl rfl) (impT_names _ _) (impT_le _ _) rfl ?_
 iterate 2 refine AD.pure T rfl rfl rfl ?_
 refine AD.q (FStep.call rfl rfl rfl rfl rfl (spec_l1Own_ok _ _ (hx25)) rfl rfl) (impT_names _ _) (impT_le _ _) rfl ?_
 iterate 2 refine AD.pure T rfl rfl rfl ?_
 refine AD.pured T (d := .g [.R 12, .R 13, .v (.bool y2.late)]) rfl rfl rfl rfl ?_
 refine AD.k rfl rfl (FStep.mk_o T rfl rfl rfl rfl rfl rfl rfl rfl (f := encItemO) (l := [(Item.mk x22 x24 y2.late)]) (ids := [12, 13]) rfl rfl (fun _ => rfl) (by exact expLC_cons (.rowR rfl) (expLC_cons (.rowR rfl) (expLC_cons .v (expLC_nil)))) (by decide) rfl rfl rfl rfl) rfl rfl rfl ?_
 refine AD.nil ?_
 refine AO.step rfl (app_rr_map T rfl 15 rfl rfl rfl rfl rfl (by decide) rfl rfl rfl rfl rfl (needT (hx27)) rfl rfl) ?_
 refine AO.pu T ?_
 refine AO.nil ?_
 refine AW.region ?_
 refine AO.val rfl rfl (ar_ok rfl rfl rfl rfl (inI_succ hlt6 hb5)) ?_
 refine AO.pu T ?_
 refine AO.nil ?_
 refine ⟨(k1 + 1, (v20 ++ [(Item.mk x22 x24 y2.late)])), ⟨Nat.succ_le_of_lt hlt6, (by rw [drop_succ_of hd4]; exact hH)⟩, (by have := hlt6; dsimp only; omega), ?_⟩
 exact Le.ct 15 10

def spec_hiStart_l1 (x1 : (List Item)) : List Item → Nat → List (List Bool) → Option HiState
  | [], k3, v18 =>
    some (HiState.mk x1 v18)
  | y4 :: ys5, k3, v18 =>
    (need (decide (0 ≤ (y4.names.length : Int)) && fitsB 1 (y4.names.length : Int).toNat)).bind fun u20 =>
    (need (fitsB 24 (v18.length + ([(List.replicate (y4.names.length : Int).toNat false)]).length))).bind fun u22 =>
    spec_hiStart_l1 x1 ys5 (k3 + 1) (v18 ++ [(List.replicate (y4.names.length : Int).toNat false)])
def spec_hiStart_p (l : List Item) : Option HiState :=
  (spec_itOwn_p l).bind fun x1 =>
  spec_hiStart_l1 x1 l 0 []
theorem spec_hiStart_ok (l : List Item) (r : HiState) (hH : spec_hiStart_p l = some r) : SpecR Try.prog 91 [.s (List.map encItem l)] (.pn (encHiStateO r)) := by
 refine fn_ok T Try.func91 rfl (by decide) rfl ?_
 refine AW.seq (AW.region ?_)
 refine AO.pu T ?_
 refine AO.nil (AW.seq ?_)
 obtain ⟨x1, hx2, hH⟩ := bindE hH
 refine AW.region ?_
 refine AO.pu T ?_
 refine AO.step rfl (call_ok rfl 1 rfl rfl rfl (spec_itOwn_ok _ _ (hx2)) rfl rfl rfl) ?_
 refine AO.pu T (d := .g [.R 1, .w 0 []]) ?_
 refine AO.step rfl (box_ok T rfl 2 rfl rfl rfl rfl) ?_
 refine AO.pu T ?_
 refine AO.nil ?_
 iterate 2 refine AW.seq ?_
 refine AW.region ?_
 refine AO.pu T ?_
 refine AO.val rfl rfl (len_map_ok T rfl rfl rfl) ?_
 refine AO.pu T ?_
 refine AO.nil ?_
 refine AW.block ?_
 refine AW.loopS (fun s : Nat × (List (List Bool)) => (⟨[(3, .p 2 0), (10, .s (List.map encItem l)), (11, (l.length : Int)), (12, (s.1 : Int))], [(1, .row 3 (List.map encItemO x1)), (2, .box [.R 1, .R 10]), (10, .row 1 (List.map encLBoolO s.2))], 31, []⟩ : St)) (fun s => s.1 ≤ l.length ∧ spec_hiStart_l1 x1 (l.drop s.1) s.1 s.2 = some r) (fun s => l.length - s.1) (0, []) ⟨Nat.zero_le _, hH⟩ ?_ ?_
 refine Le.trans (Le.voidBox 2 1 10 1 rfl rfl rfl rfl) ?_
 exact Le.ct 0 0
 rintro ⟨k3, v18⟩ ⟨hk, hH⟩
 replace hH : spec_hiStart_l1 x1 (l.drop k3) k3 v18 = some r := hH
 try dsimp only
 refine AW.boundM (t := 10) (l := l) rfl (fun hb7 => ?_)
 rcases hd6 : l.drop k3 with _ | ⟨y4, ys5⟩
 rw [hd6, spec_hiStart_l1] at hH
 have hlt8 := drop_ge hd6
 refine AW.seq (AW.region ?_)
 refine AO.pu T ?_
 refine AO.nil (AW.seq ?_)
 refine AW.condF' (b := decide ((k3 : Int) < (l.length : Int))) rfl (rngF hlt8) ?_
 refine AW.exit ?_
 refine AW.seq (AW.region ?_)
 iterate 2 refine AO.pu T ?_
 refine AO.nil (AW.ret ?_)
 cases someE hH
 exact retQ.i [2, 1, 10] rfl (.c (.pb rfl (expLC_cons (.rowR rfl) (expLC_cons (.rowR rfl) (expLC_nil)))))
 rw [hd6, spec_hiStart_l1] at hH
 have hlt8 := drop_lt hd6
 refine AW.seq (AW.region ?_)
 refine AO.pu T ?_
 refine AO.nil (AW.seq ?_)
 refine AW.condT' (b := decide ((k3 : Int) < (l.length : Int))) rfl (rngT hlt8) ?_
 refine AW.skip ?_
 refine AW.seq ?_
 refine AW.block ?_
 refine AW.seq (AW.region ?_)
 refine AO.val rfl rfl (ix_map_ok T rfl rfl rfl rfl rfl (getI_drop hd6) rfl) ?_
 refine AO.pu T (d := .g [.s (List.map encStr y4.names), .s (List.map encInt y4.marks), .v (.bool y4.late)]) ?_
 refine AO.step rfl (alloc_ok T rfl 11 rfl rfl rfl rfl rfl) ?_
 refine AO.se T [.s (List.map encStr y4.names), .s (List.map encInt y4.marks), .v (.bool y4.late)] ?_
 refine AO.nil ?_
 obtain ⟨u20, hx21, hH⟩ := bindE hH
 obtain ⟨u22, hx23, hH⟩ := bindE hH
 refine AW.drawn 11 12 [10] mix (by kernel_rfl) rfl ?_
 iterate 7 refine AD.pure T rfl rfl rfl ?_
 refine AD.val rfl rfl (len_map_ok T rfl rfl rfl) ?_
 refine AD.q (FStep.make T rfl rfl rfl rfl rfl rfl rfl (f := encBool) (zo := false) (by repeat constructor) (by decide) rfl rfl (Bool.and_eq_true_iff.1 (needT (hx21))).1 (Bool.and_eq_true_iff.1 (needT (hx21))).2 rfl) (by simp [namesIn]) (Nat.le_succ _) rfl ?_
 refine AD.k rfl rfl (FStep.mk_o T rfl rfl rfl rfl rfl rfl rfl rfl (f := encLBoolO) (l := [(List.replicate (y4.names.length : Int).toNat false)]) (ids := [12]) rfl rfl (fun _ => rfl) (by exact expLC_cons (.rowR rfl) (expLC_nil)) (by decide) rfl rfl rfl rfl) rfl rfl rfl ?_
 refine AD.k rfl rfl (FStep.app_rr T rfl rfl rfl rfl rfl rfl rfl (by decide) rfl rfl rfl rfl rfl (needT (hx23)) rfl) rfl rfl rfl ?_
 refine AD.nil ?_
 iterate 2 refine AO.pu T ?_
 refine AO.se T [.R 1, .R 14] ?_
 refine AO.nil ?_
 refine AW.region ?_
 refine AO.val rfl rfl (ar_ok rfl rfl rfl rfl (inI_succ hlt8 hb7)) ?_
 refine AO.pu T ?_
 refine AO.nil ?_
 refine ⟨(k3 + 1, (v18 ++ [(List.replicate (y4.names.length : Int).toNat false)])), ⟨Nat.succ_le_of_lt hlt8, (by rw [drop_succ_of hd6]; exact hH)⟩, (by have := hlt8; dsimp only; omega), ?_⟩
 exact Le.ct 14 10

def spec_hiName_p (l : List Item) (item : Int) (name : Int) : Option Bool :=
  (spec_l1In_p item 0 (w64 ((l.length : Int) - 1))).bind fun x1 =>
  (opt x1 default (getI l item)).bind fun x3 =>
  (opt x1 default (spec_l1In_p name 0 (w64 ((x3.names.length : Int) - 1)))).bind fun x5 =>
  some (x1 && x5)
theorem spec_hiName_ok (l : List Item) (item : Int) (name : Int) (r : Bool) (hH : spec_hiName_p l item name = some r) : SpecR Try.prog 62 [.s (List.map encItem l), item, name] (.v (.bool r)) := by
 refine fn_ok T Try.func62 rfl (by decide) rfl ?_
 refine AW.seq (AW.region ?_)
 refine AO.pu T ?_
 refine AO.nil (AW.seq ?_)
 obtain ⟨x1, hx2, hH⟩ := bindE hH
 obtain ⟨x3, hx4, hH⟩ := bindE hH
 obtain ⟨x5, hx6, hH⟩ := bindE hH
 refine AW.region ?_
 iterate 2 refine AO.pu T ?_
 refine AO.val rfl rfl (len_map_ok T rfl rfl rfl) ?_
 refine AO.val rfl rfl (arw_ok rfl rfl rfl rfl) ?_
 refine AO.val rfl rfl (callV_ok rfl rfl rfl rfl (spec_l1In_ok _ _ _ _ (hx2)) rfl) ?_
 refine AO.pu T ?_
 iterate 3 refine AO.pureG T [] rfl trivial rfl rfl ?_
 refine AO.guard [14, 15] rfl ⟨fun h => h, fun h => h, trivial⟩ (fun hg => ix_map_ok T rfl rfl rfl rfl rfl (optT hx4 hg) rfl) rfl ?_
 refine AO.pureG T [16] rfl ⟨fun h => h, trivial⟩ rfl rfl ?_
 refine AO.pureG T [17] rfl ⟨fun h => h, trivial⟩ rfl rfl ?_
 refine AO.guard [18] rfl ⟨fun h => h, trivial⟩ (fun hg => len_map_ok T rfl rfl rfl) rfl ?_
 refine AO.guard [19] rfl ⟨fun h => h, trivial⟩ (fun hg => arw_ok rfl rfl rfl rfl) rfl ?_
 refine AO.guard [13, 20] rfl ⟨fun h => h, fun h => h, trivial⟩ (fun hg => callV_ok rfl rfl rfl rfl (spec_l1In_ok _ _ _ _ (optT hx6 hg)) rfl) rfl ?_
 refine AO.val rfl rfl (pick_and rfl rfl rfl rfl) ?_
 refine AO.pu T ?_
 refine AO.nil (AW.ret ?_)
 cases someE hH
 exact retQ.i [] rfl (.c (.c .v))

def spec_hiState_change_p (x : HiState) (c : Change) : Option (HiState × Bool) :=
  (spec_hiName_p x.items c.item c.name).bind fun x1 =>
  (opt (!(!x1)) default (spec_l1In_p c.tick 0 100000)).bind fun x3 =>
  (opt (!((!x1) || (!x3))) default (spec_l1In_p c.caller 1 9)).bind fun x5 =>
  (opt (!(((!x1) || (!x3)) || (!x5))) default (spec_l1In_p c.mark 0 3)).bind fun x7 =>
  cond ((((!x1) || (!x3)) || (!x5)) || (!x7))
    (some (x, false))
    ((getI x.items c.item).bind fun x9 =>
    (getI x.open' c.item).bind fun x11 =>
    cond c.review
      ((getI x11 c.name).bind fun x13 =>
      (opt (!x13) default (getI x9.marks c.name)).bind fun x15 =>
      cond (x13 || (x15 != c.mark))
        (some ((HiState.mk (x.items.set c.item.toNat x9) (x.open'.set c.item.toNat x11)), false))
        (some ((HiState.mk (x.items.set c.item.toNat x9) (x.open'.set c.item.toNat (x11.set c.name.toNat true))), true)))
      ((getI x11 c.name).bind fun x17 =>
      (getI x9.marks c.name).bind fun x19 =>
      some ((HiState.mk (x.items.set c.item.toNat (Item.mk x9.names (x9.marks.set c.name.toNat c.mark) x9.late)) (x.open'.set c.item.toNat (x11.set c.name.toNat false))), true)))
theorem spec_hiState_change_ok (x : HiState) (c : Change) (r : (HiState × Bool)) (hH : spec_hiState_change_p x c = some r) : SpecM Try.prog 92 [.pn (encHiStateO x), .g (encChange c)] [.pn (encHiStateO r.1), .u] (.v (.bool r.2)) := by
 refine fn_okM T Try.func92 rfl (by decide) rfl rfl ?_
 intro L
 show AW _ _ _ (⟨[(0, .p 1 0), (1, .g [c.tick, c.caller, c.item, c.name, c.mark, .v (.bool c.review)])], [(1, .box [.R 2, .R 3]), (3, .row 1 (List.map encLBoolO x.open')), (2, .row 3 (List.map encItemO x.items))], 83, [(1, L 1), (3, L 3), (2, L 2)]⟩ : St)
 refine AW.seq (AW.region ?_)
 refine AO.step rfl (box_ok T rfl 4 rfl rfl rfl rfl) ?_
 refine AO.pu T ?_
 refine AO.nil ?_
 iterate 2 refine AW.seq ?_
 obtain ⟨x1, hx2, hH⟩ := bindE hH
 obtain ⟨x3, hx4, hH⟩ := bindE hH
 obtain ⟨x5, hx6, hH⟩ := bindE hH
 obtain ⟨x7, hx8, hH⟩ := bindE hH
 refine AW.drawn 8 5 [] mix (by kernel_rfl) rfl ?_
 iterate 8 refine AD.pure T rfl rfl rfl ?_
 refine AD.nil ?_
 refine AO.val rfl rfl (callLV_ok rfl rfl rfl (es := [.s (List.map encItem x.items), c.item, c.name]) ⟨(.rowR rfl (.map fun y => frzItem y)), .free rfl, .free rfl, trivial⟩ (spec_hiName_ok _ _ _ _ (hx2)) (zfree_v _) rfl) ?_
 iterate 2 refine AO.pu T ?_
 refine AO.pureG T [] rfl trivial rfl rfl ?_
 refine AO.pureG T [18] rfl ⟨fun h => h, trivial⟩ rfl rfl ?_
 refine AO.guard [19] rfl ⟨fun h => h, trivial⟩ (fun hg => callV_ok rfl rfl rfl rfl (spec_l1In_ok _ _ _ _ (optT hx4 hg)) rfl) rfl ?_
 refine AO.pureG T [20] rfl ⟨fun h => h, trivial⟩ rfl rfl ?_
 refine AO.val rfl rfl (pick_or rfl rfl rfl rfl) ?_
 refine AO.pu T ?_
 refine AO.pureG T [] rfl trivial rfl rfl ?_
 refine AO.pureG T [24] rfl ⟨fun h => h, trivial⟩ rfl rfl ?_
 refine AO.guard [25] rfl ⟨fun h => h, trivial⟩ (fun hg => callV_ok rfl rfl rfl rfl (spec_l1In_ok _ _ _ _ (optT hx6 hg)) rfl) rfl ?_
 refine AO.pureG T [26] rfl ⟨fun h => h, trivial⟩ rfl rfl ?_
 refine AO.val rfl rfl (pick_or rfl rfl rfl rfl) ?_
 refine AO.pu T ?_
 refine AO.pureG T [] rfl trivial rfl rfl ?_
 refine AO.pureG T [30] rfl ⟨fun h => h, trivial⟩ rfl rfl ?_
 refine AO.guard [31] rfl ⟨fun h => h, trivial⟩ (fun hg => callV_ok rfl rfl rfl rfl (spec_l1In_ok _ _ _ _ (optT hx8 hg)) rfl) rfl ?_
 refine AO.pureG T [32] rfl ⟨fun h => h, trivial⟩ rfl rfl ?_
 refine AO.val rfl rfl (pick_or rfl rfl rfl rfl) ?_
 refine AO.nil ?_
 refine AW.le (Le.ct 0 0 (σ' := (⟨[(0, .p 1 0), (3, .p 4 0), (34, .v (.bool ((((!x1) || (!x3)) || (!x5)) || (!x7))))], [(1, .box [.R 2, .R 3]), (2, .row 3 (List.map encItemO x.items)), (3, .row 1 (List.map encLBoolO x.open')), (4, .box [c.tick, c.caller, c.item, c.name, c.mark, .v (.bool c.review)])], 83, [(1, L 1), (3, L 3), (2, L 2)]⟩ : St)) (hpin := ⟨⟨rfl, rfl⟩, ⟨rfl, rfl⟩, ⟨rfl, rfl⟩, trivial⟩)) ?_
 refine AW.cond (b := ((((!x1) || (!x3)) || (!x5)) || (!x7))) rfl (fun hc => ?_) (fun hc => ?_)
 replace hH := condT hc hH
 refine AW.seq (AW.region ?_)
 refine AO.pu T ?_
 refine AO.nil (AW.ret ?_)
 cases someE hH
 exact ⟨trivial, rfl, _, [], [1, 2, 3], rfl, expLG_cons (.pb rfl (expLC_cons (.rowR rfl) (expLC_cons (.rowR rfl) (expLC_nil)))) (expLG_cons (.c .u) (expLG_nil)), .c (.c .v), by decide⟩
 replace hH := condF hc hH
 refine AW.skip ?_
 refine AW.seq ?_
 obtain ⟨x9, hx10, hH⟩ := bindE hH
 obtain ⟨x11, hx12, hH⟩ := bindE hH
 refine AW.le (Le.openM 2 c.item.toNat 1 5 rfl (getI_get (hx10)) rfl rfl) ?_
 refine AW.le (Le.openM 3 c.item.toNat 0 6 rfl (getI_get (hx12)) rfl rfl) ?_
 refine AW.drawn 18 7 [] mix (by kernel_rfl) rfl ?_
 iterate 6 refine AD.pure T rfl rfl rfl ?_
 refine AD.val rfl rfl (ix_lent_ok T rfl rfl rfl rfl rfl rfl (hx10)) ?_
 refine AD.pure T rfl rfl rfl ?_
 refine AD.val rfl rfl (load_lent_ok T rfl rfl rfl rfl rfl) ?_
 iterate 6 refine AD.pure T rfl rfl rfl ?_
 refine AD.val rfl rfl (ix_lent_ok T rfl rfl rfl rfl rfl rfl (hx12)) ?_
 refine AD.val rfl rfl (load_lent_ok T rfl rfl rfl rfl rfl) ?_
 refine AD.pure T rfl rfl rfl ?_
 refine AD.nil ?_
 refine AO.pu T ?_
 refine AO.nil ?_
 iterate 2 refine AW.seq ?_
 refine AW.region ?_
 iterate 2 refine AO.pu T ?_
 refine AO.nil ?_
 refine AW.cond (b := c.review) rfl (fun hc => ?_) (fun hc => ?_)
 replace hH := condT hc hH
 iterate 2 refine AW.seq ?_
 obtain ⟨x13, hx14, hH⟩ := bindE hH
 obtain ⟨x15, hx16, hH⟩ := bindE hH
 refine AW.drawn 13 7 [] mix (by kernel_rfl) rfl ?_
 iterate 3 refine AD.pure T rfl rfl rfl ?_
 refine AD.val rfl rfl (ix_row_ok T rfl rfl rfl rfl rfl rfl (hx14)) ?_
 refine AD.val rfl rfl (load_row_ok T rfl rfl rfl rfl (getI_get (hx14)) rfl rfl rfl) ?_
 refine AD.pure T rfl rfl rfl ?_
 iterate 2 refine AD.pureG T [] rfl trivial rfl rfl ?_
 refine AD.pureG T [61] rfl ⟨fun h => h, trivial⟩ rfl rfl ?_
 refine AD.guard [60, 62] rfl ⟨fun h => h, fun h => h, trivial⟩ (fun hg => ix_row_ok T rfl rfl rfl rfl rfl rfl (optT hx16 hg)) rfl ?_
 refine AD.guard [63] rfl ⟨fun h => h, trivial⟩ (fun hg => load_row_ok T rfl rfl rfl rfl (getI_get (optT hx16 hg)) rfl rfl rfl) rfl ?_
 refine AD.pureG T [] rfl trivial rfl rfl ?_
 refine AD.pureG T [65] rfl ⟨fun h => h, trivial⟩ rfl rfl ?_
 refine AD.nil ?_
 refine AO.pureG T [64, 66] rfl ⟨fun h => h, fun h => h, trivial⟩ rfl rfl ?_
 refine AO.val rfl rfl (pick_or rfl rfl rfl rfl) ?_
 refine AO.le (Le.closeM 2 c.item.toNat 1 5 rfl rfl (getI_get (hx10)) rfl (u' := x9) rfl) ?_
 refine AO.nil ?_
 refine AW.cond (b := (x13 || (x15 != c.mark))) rfl (fun hc => ?_) (fun hc => ?_)
 replace hH := condT hc hH
 refine AW.seq (AW.region ?_)
 refine AO.pu T ?_
 refine AO.le (Le.closeM 3 c.item.toNat 0 6 rfl rfl (getI_get (hx12)) rfl (u' := x11) rfl) ?_
 refine AO.nil ?_
 refine AW.le (Le.ct 0 0 (σ' := (⟨[(4, .v (.bool false))], [(1, .box [.R 2, .R 3]), (2, .row 3 (List.map encItemO (x.items.set c.item.toNat x9))), (3, .row 1 (List.map encLBoolO (x.open'.set c.item.toNat x11)))], 83, [(1, L 1), (3, L 3), (2, L 2)]⟩ : St)) (hpin := ⟨⟨rfl, rfl⟩, ⟨rfl, rfl⟩, ⟨rfl, rfl⟩, trivial⟩)) ?_
 refine AW.ret ?_
 cases someE hH
 exact ⟨trivial, rfl, _, [], [1, 2, 3], rfl, expLG_cons (.pb rfl (expLC_cons (.rowR rfl) (expLC_cons (.rowR rfl) (expLC_nil)))) (expLG_cons (.c .u) (expLG_nil)), .c (.c .v), by decide⟩
 replace hH := condF hc hH
 refine AW.skip ?_
 refine AW.seq (AW.region ?_)
 iterate 3 refine AO.pu T ?_
 refine AO.val rfl rfl (ix_row_ok T rfl rfl rfl rfl rfl rfl (hx14)) ?_
 refine AO.step rfl (store_row_ok T rfl rfl rfl rfl rfl (getI_get (hx14)) rfl rfl rfl rfl (u' := true) rfl rfl) ?_
 refine AO.le (Le.closeM 3 c.item.toNat 0 6 rfl rfl (getI_get (hx12)) rfl (u' := (x11.set c.name.toNat true)) rfl) ?_
 refine AO.nil ?_
 refine AW.le (Le.ct 0 0 (σ' := (⟨[], [(1, .box [.R 2, .R 3]), (2, .row 3 (List.map encItemO (x.items.set c.item.toNat x9))), (3, .row 1 (List.map encLBoolO (x.open'.set c.item.toNat (x11.set c.name.toNat true))))], 83, [(1, L 1), (3, L 3), (2, L 2)]⟩ : St)) (hpin := ⟨⟨rfl, rfl⟩, ⟨rfl, rfl⟩, ⟨rfl, rfl⟩, trivial⟩)) ?_
 refine AW.seq (AW.region ?_)
 refine AO.pu T ?_
 refine AO.nil (AW.ret ?_)
 cases someE hH
 exact ⟨trivial, rfl, _, [], [1, 2, 3], rfl, expLG_cons (.pb rfl (expLC_cons (.rowR rfl) (expLC_cons (.rowR rfl) (expLC_nil)))) (expLG_cons (.c .u) (expLG_nil)), .c (.c .v), by decide⟩
 replace hH := condF hc hH
 refine AW.skip ?_
 refine AW.seq ?_
 obtain ⟨x17, hx18, hH⟩ := bindE hH
 refine AW.region ?_
 iterate 3 refine AO.pu T ?_
 refine AO.val rfl rfl (ix_row_ok T rfl rfl rfl rfl rfl rfl (hx18)) ?_
 refine AO.step rfl (store_row_ok T rfl rfl rfl rfl rfl (getI_get (hx18)) rfl rfl rfl rfl (u' := false) rfl rfl) ?_
 refine AO.le (Le.closeM 3 c.item.toNat 0 6 rfl rfl (getI_get (hx12)) rfl (u' := (x11.set c.name.toNat false)) rfl) ?_
 refine AO.nil (AW.seq ?_)
 obtain ⟨x19, hx20, hH⟩ := bindE hH
 refine AW.region ?_
 iterate 5 refine AO.pu T ?_
 refine AO.val rfl rfl (ix_row_ok T rfl rfl rfl rfl rfl rfl (hx20)) ?_
 refine AO.step rfl (store_row_ok T rfl rfl rfl rfl rfl (getI_get (hx20)) rfl rfl rfl rfl (u' := c.mark) rfl rfl) ?_
 refine AO.le (Le.closeM 2 c.item.toNat 1 5 rfl rfl (getI_get (hx10)) rfl (u' := (Item.mk x9.names (x9.marks.set c.name.toNat c.mark) x9.late)) rfl) ?_
 refine AO.nil ?_
 refine AW.le (Le.ct 0 0 (σ' := (⟨[], [(1, .box [.R 2, .R 3]), (2, .row 3 (List.map encItemO (x.items.set c.item.toNat (Item.mk x9.names (x9.marks.set c.name.toNat c.mark) x9.late)))), (3, .row 1 (List.map encLBoolO (x.open'.set c.item.toNat (x11.set c.name.toNat false))))], 83, [(1, L 1), (3, L 3), (2, L 2)]⟩ : St)) (hpin := ⟨⟨rfl, rfl⟩, ⟨rfl, rfl⟩, ⟨rfl, rfl⟩, trivial⟩)) ?_
 refine AW.seq (AW.region ?_)
 refine AO.pu T ?_
 refine AO.nil (AW.ret ?_)
 cases someE hH
 exact ⟨trivial, rfl, _, [], [1, 2, 3], rfl, expLG_cons (.pb rfl (expLC_cons (.rowR rfl) (expLC_cons (.rowR rfl) (expLC_nil)))) (expLG_cons (.c .u) (expLG_nil)), .c (.c .v), by decide⟩

def spec_hiRun_l1 (h : List Change) (tick : Int) : List Change → Nat → List Item → List (List Bool) → Option ((HiState × Bool))
  | [], k3, v19, v20 =>
    some ((HiState.mk v19 v20), true)
  | y4 :: ys5, k3, v19, v20 =>
    cond (decide (y4.tick > tick))
      (some ((HiState.mk v19 v20), true))
      ((spec_hiState_change_p (HiState.mk v19 v20) y4).bind fun x22 =>
      (opt ((!(!x22.2)) && decide ((k3 : Int) > 0)) default (getI h (w64 ((k3 : Int) - 1)))).bind fun x24 =>
      cond ((!x22.2) || (decide ((k3 : Int) > 0) && decide (x24.tick > y4.tick)))
        (some ((HiState.mk x22.1.items x22.1.open'), false))
        (spec_hiRun_l1 h tick ys5 (k3 + 1) x22.1.items x22.1.open'))
def spec_hiRun_p (l : List Item) (h : List Change) (tick : Int) : Option (HiState × Bool) :=
  (spec_hiStart_p l).bind fun x1 =>
  spec_hiRun_l1 h tick h 0 x1.items x1.open'
theorem spec_hiRun_ok (l : List Item) (h : List Change) (tick : Int) (r : (HiState × Bool)) (hH : spec_hiRun_p l h tick = some r) : SpecR Try.prog 65 [.s (List.map encItem l), .s (List.map encChange h), tick] (.t [.pn (encHiStateO r.1), .v (.bool r.2)]) := by
 refine fn_ok T Try.func65 rfl (by decide) rfl ?_
 refine AW.seq (AW.region ?_)
 iterate 2 refine AO.pu T ?_
 refine AO.nil (AW.seq ?_)
 obtain ⟨x1, hx2, hH⟩ := bindE hH
 refine AW.region ?_
 refine AO.pu T ?_
 refine AO.step rfl (call_ok rfl 1 rfl rfl rfl (spec_hiStart_ok _ _ (hx2)) rfl rfl rfl) ?_
 refine AO.pu T ?_
 refine AO.nil ?_
 iterate 2 refine AW.seq ?_
 refine AW.region ?_
 refine AO.pu T ?_
 refine AO.val rfl rfl (len_map_ok T rfl rfl rfl) ?_
 refine AO.pu T ?_
 refine AO.nil ?_
 refine AW.block ?_
 refine AW.loopS (fun s : Nat × (List Item) × (List (List Bool)) => (⟨[(1, .s (List.map encChange h)), (2, tick), (8, .p 1 0), (13, .s (List.map encChange h)), (14, (h.length : Int)), (15, (s.1 : Int))], [(1, .box [.R 2, .R 3]), (2, .row 3 (List.map encItemO s.2.1)), (3, .row 1 (List.map encLBoolO s.2.2))], 46, []⟩ : St)) (fun s => s.1 ≤ h.length ∧ spec_hiRun_l1 h tick (h.drop s.1) s.1 s.2.1 s.2.2 = some r) (fun s => h.length - s.1) (0, x1.items, x1.open') ⟨Nat.zero_le _, hH⟩ ?_ ?_
 exact Le.ct 0 0
 rintro ⟨k3, v19, v20⟩ ⟨hk, hH⟩
 replace hH : spec_hiRun_l1 h tick (h.drop k3) k3 v19 v20 = some r := hH
 try dsimp only
 refine AW.boundM (t := 1) (l := h) rfl (fun hb7 => ?_)
 rcases hd6 : h.drop k3 with _ | ⟨y4, ys5⟩
 rw [hd6, spec_hiRun_l1] at hH
 have hlt8 := drop_ge hd6
 refine AW.seq (AW.region ?_)
 refine AO.pu T ?_
 refine AO.nil (AW.seq ?_)
 refine AW.condF' (b := decide ((k3 : Int) < (h.length : Int))) rfl (rngF hlt8) ?_
 refine AW.exit ?_
 refine AW.seq (AW.region ?_)
 iterate 3 refine AO.pu T ?_
 refine AO.nil (AW.ret ?_)
 cases someE hH
 exact retQ.i [1, 2, 3] rfl (.t (expLG_cons (.pb rfl (expLC_cons (.rowR rfl) (expLC_cons (.rowR rfl) (expLC_nil)))) (expLG_cons (.c .v) (expLG_nil))))
 rw [hd6, spec_hiRun_l1] at hH
 have hlt8 := drop_lt hd6
 refine AW.seq (AW.region ?_)
 refine AO.pu T ?_
 refine AO.nil (AW.seq ?_)
 refine AW.condT' (b := decide ((k3 : Int) < (h.length : Int))) rfl (rngT hlt8) ?_
 refine AW.skip ?_
 refine AW.seq ?_
 refine AW.block ?_
 refine AW.seq (AW.region ?_)
 refine AO.pu T ?_
 refine AO.val rfl rfl (ix_map_ok T rfl rfl rfl rfl rfl (getI_drop hd6) rfl) ?_
 refine AO.pu T (d := .g [y4.tick, y4.caller, y4.item, y4.name, y4.mark, .v (.bool y4.review)]) ?_
 refine AO.step rfl (alloc_ok T rfl 10 rfl rfl rfl rfl rfl) ?_
 refine AO.pu T ?_
 refine AO.se T [y4.tick, y4.caller, y4.item, y4.name, y4.mark, .v (.bool y4.review)] ?_
 refine AO.nil ?_
 iterate 2 refine AW.seq ?_
 refine AW.region ?_
 iterate 4 refine AO.pu T ?_
 refine AO.nil ?_
 refine AW.cond (b := decide (y4.tick > tick)) rfl (fun hc => ?_) (fun hc => ?_)
 replace hH := condT hc hH
 refine AW.exit ?_
 refine AW.seq (AW.region ?_)
 iterate 3 refine AO.pu T ?_
 refine AO.nil (AW.ret ?_)
 cases someE hH
 exact retQ.i [1, 2, 3] rfl (.t (expLG_cons (.pb rfl (expLC_cons (.rowR rfl) (expLC_cons (.rowR rfl) (expLC_nil)))) (expLG_cons (.c .v) (expLG_nil))))
 replace hH := condF hc hH
 refine AW.skip ?_
 refine AW.seq ?_
 obtain ⟨x22, hx23, hH⟩ := bindE hH
 obtain ⟨x24, hx25, hH⟩ := bindE hH
 refine AW.drawn 16 11 [1, 2, 3] mix (by kernel_rfl) rfl ?_
 refine AD.pure T rfl rfl rfl ?_
 refine AD.pure T (d := .g [y4.tick, y4.caller, y4.item, y4.name, y4.mark, .v (.bool y4.review)]) rfl rfl rfl ?_
 refine AD.k rfl rfl (FStep.callP rfl rfl rfl rfl rfl (es := [.pn (encHiStateO (HiState.mk v19 v20)), .g (encChange y4)]) (us := [.u]) (cs := encHiStateO x22.1) (ids := [1, 2, 3]) (by exact expLG_cons (.pb rfl (expLC_cons (.rowR rfl) (expLC_cons (.rowR rfl) (expLC_nil)))) (expLG_cons (.g (expLC_cons .v (expLC_cons .v (expLC_cons .v (expLC_cons .v (expLC_cons .v (expLC_cons .v (expLC_nil)))))))) (expLG_nil))) (by decide) (by decide) (spec_hiState_change_ok _ _ _ (hx23)) rfl rfl (by rfl) rfl) rfl rfl rfl ?_
 iterate 2 refine AD.pure T rfl rfl rfl ?_
 refine AD.pureG T [] rfl trivial rfl rfl ?_
 refine AD.pureG T [29] rfl ⟨fun h => h, trivial⟩ rfl rfl ?_
 refine AD.pureG T [30] rfl ⟨fun h => h, trivial⟩ rfl rfl ?_
 iterate 2 refine AD.pureG T [] rfl trivial rfl rfl ?_
 refine AD.guard [33] rfl ⟨fun h => h, trivial⟩ (fun hg => arw_ok rfl rfl rfl rfl) rfl ?_
 refine AD.guard [32, 34] rfl ⟨fun h => h, fun h => h, trivial⟩ (fun hg => ix_map_ok T rfl rfl rfl rfl rfl (optT hx25 hg) rfl) rfl ?_
 refine AD.pureG T [35] rfl ⟨fun h => h, trivial⟩ rfl rfl ?_
 refine AD.pureG T [36] rfl ⟨fun h => h, trivial⟩ rfl rfl ?_
 refine AD.pureG T [] rfl trivial rfl rfl ?_
 refine AD.pureG T [38] rfl ⟨fun h => h, trivial⟩ rfl rfl ?_
 refine AD.nil ?_
 refine AO.pureG T [37, 39] rfl ⟨fun h => h, fun h => h, trivial⟩ rfl rfl ?_
 refine AO.guard [31] rfl ⟨fun h => h, trivial⟩ (fun hg => pick_and rfl rfl rfl (by rw [hg]; exact Bool.true_and _)) rfl ?_
 refine AO.val rfl rfl (pick_or rfl rfl rfl rfl) ?_
 refine AO.nil ?_
 refine AW.le (Le.ct 0 0 (σ' := (⟨[(1, .s (List.map encChange h)), (2, tick), (8, .p 1 0), (13, .s (List.map encChange h)), (14, (h.length : Int)), (15, (k3 : Int)), (42, .v (.bool ((!x22.2) || (decide ((k3 : Int) > 0) && decide (x24.tick > y4.tick)))))], [(1, .box [.R 11, .R 12]), (11, .row 3 (List.map encItemO x22.1.items)), (12, .row 1 (List.map encLBoolO x22.1.open'))], 46, []⟩ : St))) ?_
 refine AW.cond (b := ((!x22.2) || (decide ((k3 : Int) > 0) && decide (x24.tick > y4.tick)))) rfl (fun hc => ?_) (fun hc => ?_)
 replace hH := condT hc hH
 refine AW.seq (AW.region ?_)
 iterate 3 refine AO.pu T ?_
 refine AO.nil (AW.ret ?_)
 cases someE hH
 exact retQ.i [1, 11, 12] rfl (.t (expLG_cons (.pb rfl (expLC_cons (.rowR rfl) (expLC_cons (.rowR rfl) (expLC_nil)))) (expLG_cons (.c .v) (expLG_nil))))
 replace hH := condF hc hH
 refine AW.skip ?_
 refine AW.region ?_
 refine AO.val rfl rfl (ar_ok rfl rfl rfl rfl (inI_succ hlt8 hb7)) ?_
 refine AO.pu T ?_
 refine AO.nil ?_
 refine ⟨(k3 + 1, x22.1.items, x22.1.open'), ⟨Nat.succ_le_of_lt hlt8, (by rw [drop_succ_of hd6]; exact hH)⟩, (by have := hlt8; dsimp only; omega), ?_⟩
 refine Le.trans (Le.ct 11 2 (σ' := (⟨[(1, .s (List.map encChange h)), (2, tick), (8, .p 1 0), (13, .s (List.map encChange h)), (14, (h.length : Int)), (15, ((k3 + 1 : Nat) : Int))], [(1, .box [.R 2, .R 12]), (2, .row 3 (List.map encItemO x22.1.items)), (12, .row 1 (List.map encLBoolO x22.1.open'))], 46, []⟩ : St))) ?_
 exact Le.ct 12 3

def spec_hiGood_l1 (l : List Item) (h : List Change) : List Change → Nat → Int → Option Bool
  | [], k1, v12 =>
    (spec_hiRun_p l h 100000).bind fun x14 =>
    some (x14.2 && decide ((h.length : Int) ≤ 60))
  | y2 :: ys3, k1, v12 =>
    (spec_l1In_p y2.tick v12 100000).bind fun x16 =>
    cond (!x16)
      (some false)
      (spec_hiGood_l1 l h ys3 (k1 + 1) y2.tick)
def spec_hiGood_p (l : List Item) (h : List Change) : Option Bool :=
  spec_hiGood_l1 l h h 0 0
theorem spec_hiGood_ok (l : List Item) (h : List Change) (r : Bool) (hH : spec_hiGood_p l h = some r) : SpecR Try.prog 55 [.s (List.map encItem l), .s (List.map encChange h)] (.v (.bool r)) := by
 refine fn_ok T Try.func55 rfl (by decide) rfl ?_
 refine AW.seq (AW.region ?_)
 refine AO.pu T ?_
 refine AO.nil (AW.seq ?_)
 refine AW.region ?_
 refine AO.pu T ?_
 refine AO.nil ?_
 iterate 2 refine AW.seq ?_
 refine AW.region ?_
 refine AO.pu T ?_
 refine AO.val rfl rfl (len_map_ok T rfl rfl rfl) ?_
 refine AO.pu T ?_
 refine AO.nil ?_
 refine AW.block ?_
 refine AW.loopS (fun s : Nat × Int => (⟨[(0, .s (List.map encItem l)), (1, .s (List.map encChange h)), (5, s.2), (10, .s (List.map encChange h)), (11, (h.length : Int)), (12, (s.1 : Int))], [], 36, []⟩ : St)) (fun s => s.1 ≤ h.length ∧ spec_hiGood_l1 l h (h.drop s.1) s.1 s.2 = some r) (fun s => h.length - s.1) (0, 0) ⟨Nat.zero_le _, hH⟩ ?_ ?_
 exact Le.ct 0 0
 rintro ⟨k1, v12⟩ ⟨hk, hH⟩
 replace hH : spec_hiGood_l1 l h (h.drop k1) k1 v12 = some r := hH
 try dsimp only
 refine AW.boundM (t := 1) (l := h) rfl (fun hb5 => ?_)
 rcases hd4 : h.drop k1 with _ | ⟨y2, ys3⟩
 rw [hd4, spec_hiGood_l1] at hH
 have hlt6 := drop_ge hd4
 refine AW.seq (AW.region ?_)
 refine AO.pu T ?_
 refine AO.nil (AW.seq ?_)
 refine AW.condF' (b := decide ((k1 : Int) < (h.length : Int))) rfl (rngF hlt6) ?_
 refine AW.exit ?_
 refine AW.seq ?_
 obtain ⟨x14, hx15, hH⟩ := bindE hH
 refine AW.region ?_
 iterate 2 refine AO.pu T ?_
 refine AO.step rfl (call_ok rfl 3 rfl rfl rfl (spec_hiRun_ok _ _ _ _ (hx15)) rfl rfl rfl) ?_
 iterate 5 refine AO.pu T ?_
 refine AO.nil (AW.seq ?_)
 refine AW.region ?_
 iterate 2 refine AO.pu T ?_
 refine AO.pureG T [] rfl trivial rfl rfl ?_
 refine AO.guard [32] rfl ⟨fun h => h, trivial⟩ (fun hg => len_map_ok T rfl rfl rfl) rfl ?_
 refine AO.pureG T [33] rfl ⟨fun h => h, trivial⟩ rfl rfl ?_
 refine AO.val rfl rfl (pick_and rfl rfl rfl rfl) ?_
 refine AO.pu T ?_
 refine AO.nil (AW.ret ?_)
 cases someE hH
 exact retQ.i [] rfl (.c (.c .v))
 rw [hd4, spec_hiGood_l1] at hH
 have hlt6 := drop_lt hd4
 refine AW.seq (AW.region ?_)
 refine AO.pu T ?_
 refine AO.nil (AW.seq ?_)
 refine AW.condT' (b := decide ((k1 : Int) < (h.length : Int))) rfl (rngT hlt6) ?_
 refine AW.skip ?_
 refine AW.seq ?_
 refine AW.block ?_
 refine AW.seq (AW.region ?_)
 refine AO.val rfl rfl (ix_map_ok T rfl rfl rfl rfl rfl (getI_drop hd4) rfl) ?_
 refine AO.pu T (d := .g [y2.tick, y2.caller, y2.item, y2.name, y2.mark, .v (.bool y2.review)]) ?_
 refine AO.step rfl (alloc_ok T rfl 6 rfl rfl rfl rfl rfl) ?_
 refine AO.se T [y2.tick, y2.caller, y2.item, y2.name, y2.mark, .v (.bool y2.review)] ?_
 refine AO.nil ?_
 iterate 2 refine AW.seq ?_
 obtain ⟨x16, hx17, hH⟩ := bindE hH
 refine AW.region ?_
 iterate 3 refine AO.pu T ?_
 refine AO.val rfl rfl (callV_ok rfl rfl rfl rfl (spec_l1In_ok _ _ _ _ (hx17)) rfl) ?_
 refine AO.pu T ?_
 refine AO.nil ?_
 refine AW.cond (b := (!x16)) rfl (fun hc => ?_) (fun hc => ?_)
 replace hH := condT hc hH
 refine AW.seq (AW.region ?_)
 refine AO.pu T ?_
 refine AO.nil (AW.ret ?_)
 cases someE hH
 exact retQ.i [] rfl (.c (.c .v))
 replace hH := condF hc hH
 refine AW.skip ?_
 refine AW.region ?_
 iterate 3 refine AO.pu T ?_
 refine AO.nil ?_
 refine AW.region ?_
 refine AO.val rfl rfl (ar_ok rfl rfl rfl rfl (inI_succ hlt6 hb5)) ?_
 refine AO.pu T ?_
 refine AO.nil ?_
 refine ⟨(k1 + 1, y2.tick), ⟨Nat.succ_le_of_lt hlt6, (by rw [drop_succ_of hd4]; exact hH)⟩, (by have := hlt6; dsimp only; omega), ?_⟩
 exact Le.ct 0 0

def spec_hiAsked_p (fuel : Nat) (l : List Item) (h : List Change) : Option Bool :=
  (spec_itList_p fuel l).bind fun x1 =>
  (opt x1 default (spec_hiGood_p l h)).bind fun x3 =>
  some (x1 && x3)
theorem spec_hiAsked_ok (fuel : Nat) (l : List Item) (h : List Change) (r : Bool) (hH : spec_hiAsked_p fuel l h = some r) : SpecR Try.prog 61 [.s (List.map encItem l), .s (List.map encChange h)] (.v (.bool r)) := by
 refine fn_ok T Try.func61 rfl (by decide) rfl ?_
 refine AW.seq (AW.region ?_)
 refine AO.pu T ?_
 refine AO.nil (AW.seq ?_)
 obtain ⟨x1, hx2, hH⟩ := bindE hH
 obtain ⟨x3, hx4, hH⟩ := bindE hH
 refine AW.region ?_
 refine AO.pu T ?_
 refine AO.val rfl rfl (callV_ok rfl rfl rfl rfl (spec_itList_ok fuel _ _ (hx2)) rfl) ?_
 refine AO.pu T ?_
 iterate 2 refine AO.pureG T [] rfl trivial rfl rfl ?_
 refine AO.guard [8, 9] rfl ⟨fun h => h, fun h => h, trivial⟩ (fun hg => callV_ok rfl rfl rfl rfl (spec_hiGood_ok _ _ _ (optT hx4 hg)) rfl) rfl ?_
 refine AO.val rfl rfl (pick_and rfl rfl rfl rfl) ?_
 refine AO.pu T ?_
 refine AO.nil (AW.ret ?_)
 cases someE hH
 exact retQ.i [] rfl (.c (.c .v))

def spec_hiAdd_p (l : List Item) (h : List Change) (x : Change) : Option ((List Change) × Bool) :=
  (need (fitsB 48 h.length)).bind fun u1 =>
  (need (fitsB 48 (h.length + ([x]).length))).bind fun u3 =>
  (spec_hiGood_p l (h ++ [x])).bind fun x5 =>
  cond (!x5)
    (some ([], false))
    (some ((h ++ [x]), true))
theorem spec_hiAdd_ok (l : List Item) (h : List Change) (x : Change) (r : ((List Change) × Bool)) (hH : spec_hiAdd_p l h x = some r) : SpecR Try.prog 70 [.s (List.map encItem l), .s (List.map encChange h), .g (encChange x)] (.t [.w 6 (r.1.map encChange), .v (.bool r.2)]) := by
 refine fn_ok T Try.func70 rfl (by decide) rfl ?_
 refine AW.seq (AW.region ?_)
 refine AO.step rfl (box_ok T rfl 1 rfl rfl rfl rfl) ?_
 iterate 2 refine AO.pu T ?_
 refine AO.nil (AW.seq ?_)
 obtain ⟨u1, hx2, hH⟩ := bindE hH
 obtain ⟨u3, hx4, hH⟩ := bindE hH
 refine AW.drawn 5 2 [] mix (by kernel_rfl) rfl ?_
 refine AD.v (FStep.mk0 T rfl rfl rfl rfl rfl) ?_
 refine AD.pure T rfl rfl rfl ?_
 refine AD.q (FStep.app_ws T rfl rfl rfl rfl rfl rfl rfl (by decide) (by decide) rfl rfl (fun _ => rfl) (needT (hx2)) rfl) (by simp [namesIn]) (Nat.le_succ _) rfl ?_
 refine AD.pure T (d := .g [x.tick, x.caller, x.item, x.name, x.mark, .v (.bool x.review)]) rfl rfl rfl ?_
 refine AD.q (FStep.mk T (f := encChange) (l := [x]) rfl rfl rfl rfl rfl rfl rfl rfl rfl (fun _ => rfl) rfl rfl rfl rfl) (by simp [namesIn]) (Nat.le_succ _) rfl ?_
 refine AD.nil ?_
 refine AO.step rfl (app_rv_map T rfl 4 rfl rfl rfl rfl rfl (by decide) rfl rfl rfl rfl (fun _ => rfl) (needT (hx4)) rfl rfl) ?_
 refine AO.pu T ?_
 refine AO.nil ?_
 iterate 2 refine AW.seq ?_
 obtain ⟨x5, hx6, hH⟩ := bindE hH
 refine AW.region ?_
 iterate 2 refine AO.pu T ?_
 refine AO.val rfl rfl (callLV_ok rfl rfl rfl (es := [.s (List.map encItem l), .s (List.map encChange (h ++ [x]))]) ⟨.free rfl, (.rowR rfl (.map fun y => .vs rfl)), trivial⟩ (spec_hiGood_ok _ _ _ (hx6)) (zfree_v _) rfl) ?_
 refine AO.pu T ?_
 refine AO.nil ?_
 refine AW.cond (b := (!x5)) rfl (fun hc => ?_) (fun hc => ?_)
 replace hH := condT hc hH
 refine AW.seq (AW.region ?_)
 iterate 2 refine AO.pu T ?_
 refine AO.nil (AW.ret ?_)
 cases someE hH
 exact retQ.i [] rfl (.t (expLG_cons (.c .nil) (expLG_cons (.c .v) (expLG_nil))))
 replace hH := condF hc hH
 refine AW.skip ?_
 refine AW.seq (AW.region ?_)
 iterate 3 refine AO.pu T ?_
 refine AO.nil (AW.ret ?_)
 cases someE hH
 exact retQ.i [4] rfl (.t (expLG_cons (.c (.rowR rfl)) (expLG_cons (.c .v) (expLG_nil))))

def spec_TakeBack_l1 (l : List Item) (h : List Change) (tick : Int) (caller : Int) : Nat → Int → Option (((List Change) × Bool))
  | 0, _ => none
  | k3 + 1, v29 =>
    cond (decide (v29 ≥ 0))
      ((getI h v29).bind fun x31 =>
      cond x31.review
        (spec_TakeBack_l1 l h tick caller k3 (w64 (v29 - 1)))
        ((sliceHi h v29).bind fun x33 =>
        (spec_hiRun_p l x33 100000).bind fun x35 =>
        (getI x35.1.items x31.item).bind fun x37 =>
        (getI x37.marks x31.name).bind fun x39 =>
        (spec_hiAdd_p l h (Change.mk tick caller x31.item x31.name x39 false)).bind fun x41 =>
        some (x41.1, x41.2)))
      (some ([], false))
def spec_TakeBack_p (fuel : Nat) (l : List Item) (h : List Change) (tick : Int) (caller : Int) : Option ((List Change) × Bool) :=
  (spec_hiAsked_p fuel l h).bind fun x1 =>
  cond (!x1)
    (some ([], false))
    (spec_TakeBack_l1 l h tick caller fuel (w64 ((h.length : Int) - 1)))
theorem spec_TakeBack_ok (fuel : Nat) (l : List Item) (h : List Change) (tick : Int) (caller : Int) (r : ((List Change) × Bool)) (hH : spec_TakeBack_p fuel l h tick caller = some r) : SpecR Try.prog 38 [.s (List.map encItem l), .s (List.map encChange h), tick, caller] (.t [.w 6 (r.1.map encChange), .v (.bool r.2)]) := by
 refine fn_ok T Try.func38 rfl (by decide) rfl ?_
 refine AW.seq (AW.region ?_)
 iterate 2 refine AO.pu T ?_
 refine AO.nil ?_
 iterate 2 refine AW.seq ?_
 obtain ⟨x1, hx2, hH⟩ := bindE hH
 refine AW.region ?_
 iterate 2 refine AO.pu T ?_
 refine AO.val rfl rfl (callV_ok rfl rfl rfl rfl (spec_hiAsked_ok fuel _ _ _ (hx2)) rfl) ?_
 refine AO.pu T ?_
 refine AO.nil ?_
 refine AW.cond (b := (!x1)) rfl (fun hc => ?_) (fun hc => ?_)
 replace hH := condT hc hH
 refine AW.seq (AW.region ?_)
 iterate 2 refine AO.pu T ?_
 refine AO.nil (AW.ret ?_)
 cases someE hH
 exact retQ.i [] rfl (.t (expLG_cons (.c .nil) (expLG_cons (.c .v) (expLG_nil))))
 replace hH := condF hc hH
 refine AW.skip ?_
 iterate 2 refine AW.seq ?_
 refine AW.region ?_
 refine AO.pu T ?_
 refine AO.val rfl rfl (len_map_ok T rfl rfl rfl) ?_
 refine AO.val rfl rfl (arw_ok rfl rfl rfl rfl) ?_
 refine AO.pu T ?_
 refine AO.nil ?_
 refine AW.block ?_
 refine AW.loopS (fun s : Nat × Int => (⟨[(0, .s (List.map encItem l)), (1, .s (List.map encChange h)), (2, tick), (3, caller), (10, s.2)], [], 76, []⟩ : St)) (fun s => spec_TakeBack_l1 l h tick caller s.1 s.2 = some r) (fun s => s.1) (fuel, w64 ((h.length : Int) - 1)) hH ?_ ?_
 exact Le.ct 0 0
 rintro ⟨k3, v29⟩ hH
 replace hH : spec_TakeBack_l1 l h tick caller k3 v29 = some r := hH
 try dsimp only
 rcases k3 with _ | k3
 cases (show none = some _ from hH)
 rw [spec_TakeBack_l1] at hH
 iterate 2 refine AW.seq ?_
 refine AW.region ?_
 iterate 2 refine AO.pu T ?_
 refine AO.nil ?_
 refine AW.cond (b := decide (v29 ≥ 0)) rfl (fun hc => ?_) (fun hc => ?_)
 replace hH := condT hc hH
 refine AW.skip ?_
 refine AW.seq ?_
 refine AW.block ?_
 iterate 2 refine AW.seq ?_
 obtain ⟨x31, hx32, hH⟩ := bindE hH
 refine AW.region ?_
 iterate 2 refine AO.pu T ?_
 refine AO.val rfl rfl (ix_map_ok T rfl rfl rfl rfl rfl (hx32) rfl) ?_
 iterate 2 refine AO.pu T ?_
 refine AO.nil ?_
 refine AW.cond (b := x31.review) rfl (fun hc => ?_) (fun hc => ?_)
 replace hH := condT hc hH
 refine AW.exit ?_
 refine AW.region ?_
 refine AO.pu T ?_
 refine AO.val rfl rfl (arw_ok rfl rfl rfl rfl) ?_
 refine AO.pu T ?_
 refine AO.nil ?_
 refine ⟨(k3, w64 (v29 - 1)), hH, Nat.lt_succ_self _, ?_⟩
 exact Le.ct 0 0
 replace hH := condF hc hH
 refine AW.skip ?_
 refine AW.seq ?_
 obtain ⟨x33, hx34, hH⟩ := bindE hH
 obtain ⟨x35, hx36, hH⟩ := bindE hH
 refine AW.region ?_
 iterate 3 refine AO.pu T ?_
 refine AO.val rfl rfl (slice_hi_map_ok T rfl rfl rfl rfl rfl (hx34) (fun _ => rfl)) ?_
 refine AO.step rfl (call_ok rfl 11 rfl rfl rfl (spec_hiRun_ok _ _ _ _ (hx36)) rfl rfl rfl) ?_
 iterate 5 refine AO.pu T ?_
 refine AO.nil (AW.seq ?_)
 obtain ⟨x37, hx38, hH⟩ := bindE hH
 obtain ⟨x39, hx40, hH⟩ := bindE hH
 refine AW.le (Le.openM 12 x31.item.toNat 1 14 rfl (getI_get (hx38)) rfl rfl) ?_
 refine AW.drawn 17 15 [] mix (by kernel_rfl) rfl ?_
 iterate 6 refine AD.pure T rfl rfl rfl ?_
 refine AD.val rfl rfl (ix_map_ok T rfl rfl rfl rfl rfl (hx32) rfl) ?_
 iterate 2 refine AD.pure T rfl rfl rfl ?_
 refine AD.val rfl rfl (ix_lent_ok T rfl rfl rfl rfl rfl rfl (hx38)) ?_
 refine AD.pure T rfl rfl rfl ?_
 refine AD.val rfl rfl (load_lent_ok T rfl rfl rfl rfl rfl) ?_
 iterate 2 refine AD.pure T rfl rfl rfl ?_
 refine AD.val rfl rfl (ix_map_ok T rfl rfl rfl rfl rfl (hx32) rfl) ?_
 iterate 2 refine AD.pure T rfl rfl rfl ?_
 refine AD.nil ?_
 refine AO.val rfl rfl (ix_row_ok T rfl rfl rfl rfl rfl rfl (hx40)) ?_
 refine AO.val rfl rfl (load_row_ok T rfl rfl rfl rfl (getI_get (hx40)) rfl rfl rfl) ?_
 refine AO.pu T ?_
 refine AO.le (Le.closeM 12 x31.item.toNat 1 14 rfl rfl (getI_get (hx38)) rfl (u' := x37) rfl) ?_
 refine AO.nil ?_
 refine AW.le (Le.ct 0 0 (σ' := (⟨[(0, .s (List.map encItem l)), (1, .s (List.map encChange h)), (2, tick), (3, caller), (10, v29), (13, x39)], [], 76, []⟩ : St))) ?_
 refine AW.seq ?_
 obtain ⟨x41, hx42, hH⟩ := bindE hH
 refine AW.drawn 19 15 [] mix (by kernel_rfl) rfl ?_
 iterate 6 refine AD.pure T rfl rfl rfl ?_
 refine AD.val rfl rfl (ix_map_ok T rfl rfl rfl rfl rfl (hx32) rfl) ?_
 iterate 4 refine AD.pure T rfl rfl rfl ?_
 refine AD.val rfl rfl (ix_map_ok T rfl rfl rfl rfl rfl (hx32) rfl) ?_
 iterate 3 refine AD.pure T rfl rfl rfl ?_
 refine AD.pure T (d := .g [tick, caller, x31.item, x31.name, x39, .v (.bool false)]) rfl rfl rfl ?_
 refine AD.q (FStep.call rfl rfl rfl rfl rfl (spec_hiAdd_ok _ _ _ _ (hx42)) rfl rfl) (impT_names _ _) (impT_le _ _) rfl ?_
 iterate 2 refine AD.pure T rfl rfl rfl ?_
 refine AD.nil ?_
 iterate 2 refine AO.pu T ?_
 refine AO.nil (AW.ret ?_)
 cases someE hH
 exact retQ.i [15] rfl (.t (expLG_cons (.c (.rowR rfl)) (expLG_cons (.c .v) (expLG_nil))))
 replace hH := condF hc hH
 refine AW.exit ?_
 refine AW.seq (AW.region ?_)
 iterate 2 refine AO.pu T ?_
 refine AO.nil (AW.ret ?_)
 cases someE hH
 exact retQ.i [] rfl (.t (expLG_cons (.c .nil) (expLG_cons (.c .v) (expLG_nil))))

def impl_within_p (n : Int) (low : Int) (high : Int) : Option Bool :=
  some (decide (n ≥ low) && decide (n ≤ high))
theorem impl_within_ok (n : Int) (low : Int) (high : Int) (r : Bool) (hH : impl_within_p n low high = some r) : SpecR Try.prog 90 [n, low, high] (.v (.bool r)) := by
 refine fn_ok T Try.func90 rfl (by decide) rfl ?_
 refine AW.seq (AW.region ?_)
 refine AO.pu T ?_
 refine AO.nil (AW.seq ?_)
 refine AW.region ?_
 iterate 4 refine AO.pu T ?_
 iterate 2 refine AO.pureG T [] rfl trivial rfl rfl ?_
 refine AO.pureG T [11, 12] rfl ⟨fun h => h, fun h => h, trivial⟩ rfl rfl ?_
 refine AO.val rfl rfl (pick_and rfl rfl rfl rfl) ?_
 refine AO.pu T ?_
 refine AO.nil (AW.ret ?_)
 cases someE hH
 exact retQ.i [] rfl (.c (.c .v))

def impl_IsElementName_l1 (sA : ByteArray) : Nat → Int → Option Bool
  | 0, _ => none
  | k1 + 1, v7 =>
    cond (decide (v7 < (sA.size : Int)))
      ((strI sA v7).bind fun b9 =>
      cond ((decide ((b9.toNat : Int) < 65) || decide ((b9.toNat : Int) > 90)) && (decide ((b9.toNat : Int) < 48) || decide ((b9.toNat : Int) > 57)))
        (some false)
        (impl_IsElementName_l1 sA k1 (w64 (v7 + 1))))
      ((impl_within_p (sA.size : Int) 1 5).bind fun x11 =>
      some x11)
def impl_IsElementName_p (fuel : Nat) (sA : ByteArray) : Option Bool :=
  impl_IsElementName_l1 sA fuel 0
theorem impl_IsElementName_ok (fuel : Nat) (sA : ByteArray) (r : Bool) (hH : impl_IsElementName_p fuel sA = some r) : SpecR Try.prog 120 [.v (.string sA)] (.v (.bool r)) := by
 refine fn_ok T Try.func120 rfl (by decide) rfl ?_
 refine AW.seq (AW.region ?_)
 refine AO.pu T ?_
 refine AO.nil ?_
 iterate 2 refine AW.seq ?_
 refine AW.region ?_
 refine AO.pu T ?_
 refine AO.nil ?_
 refine AW.block ?_
 refine AW.loopS (fun s : Nat × Int => (⟨[(0, .v (.string sA)), (3, s.2)], [], 35, []⟩ : St)) (fun s => impl_IsElementName_l1 sA s.1 s.2 = some r) (fun s => s.1) (fuel, 0) hH ?_ ?_
 exact Le.ct 0 0
 rintro ⟨k1, v7⟩ hH
 replace hH : impl_IsElementName_l1 sA k1 v7 = some r := hH
 try dsimp only
 rcases k1 with _ | k1
 cases (show none = some _ from hH)
 rw [impl_IsElementName_l1] at hH
 iterate 2 refine AW.seq ?_
 refine AW.region ?_
 iterate 4 refine AO.pu T ?_
 refine AO.nil ?_
 refine AW.cond (b := decide (v7 < (sA.size : Int))) rfl (fun hc => ?_) (fun hc => ?_)
 replace hH := condT hc hH
 refine AW.skip ?_
 refine AW.seq ?_
 refine AW.block ?_
 refine AW.seq ?_
 obtain ⟨b9, hx10, hH⟩ := bindE hH
 refine AW.region ?_
 iterate 2 refine AO.pu T ?_
 refine AO.val rfl rfl (ix_strI_ok T rfl rfl rfl rfl (hx10)) ?_
 iterate 2 refine AO.pu T ?_
 iterate 2 refine AO.pureG T [] rfl trivial rfl rfl ?_
 refine AO.guard [15, 16] rfl ⟨fun h => h, fun h => h, trivial⟩ (fun hg => ix_strI_ok T rfl rfl rfl rfl (hx10)) rfl ?_
 refine AO.pureG T [17] rfl ⟨fun h => h, trivial⟩ rfl rfl ?_
 refine AO.val rfl rfl (pick_or rfl rfl rfl rfl) ?_
 refine AO.pu T ?_
 iterate 2 refine AO.pureG T [] rfl trivial rfl rfl ?_
 refine AO.guard [21, 22] rfl ⟨fun h => h, fun h => h, trivial⟩ (fun hg => ix_strI_ok T rfl rfl rfl rfl (hx10)) rfl ?_
 refine AO.pureG T [23] rfl ⟨fun h => h, trivial⟩ rfl rfl ?_
 refine AO.pureG T [24] rfl ⟨fun h => h, trivial⟩ rfl rfl ?_
 iterate 2 refine AO.pureG T [] rfl trivial rfl rfl ?_
 refine AO.guard [26, 27] rfl ⟨fun h => h, fun h => h, trivial⟩ (fun hg => ix_strI_ok T rfl rfl rfl rfl (hx10)) rfl ?_
 refine AO.pureG T [28] rfl ⟨fun h => h, trivial⟩ rfl rfl ?_
 refine AO.guard [25] rfl ⟨fun h => h, trivial⟩ (fun hg => pick_or rfl rfl rfl (by rw [hg]; exact Bool.true_and _)) rfl ?_
 refine AO.val rfl rfl (pick_and rfl rfl rfl rfl) ?_
 refine AO.nil ?_
 refine AW.le (Le.ct 0 0 (σ' := (⟨[(0, .v (.string sA)), (3, v7), (31, .v (.bool ((decide ((b9.toNat : Int) < 65) || decide ((b9.toNat : Int) > 90)) && (decide ((b9.toNat : Int) < 48) || decide ((b9.toNat : Int) > 57)))))], [], 35, []⟩ : St))) ?_
 refine AW.cond (b := ((decide ((b9.toNat : Int) < 65) || decide ((b9.toNat : Int) > 90)) && (decide ((b9.toNat : Int) < 48) || decide ((b9.toNat : Int) > 57)))) rfl (fun hc => ?_) (fun hc => ?_)
 replace hH := condT hc hH
 refine AW.seq (AW.region ?_)
 refine AO.pu T ?_
 refine AO.nil (AW.ret ?_)
 cases someE hH
 exact retQ.i [] rfl (.c (.c .v))
 replace hH := condF hc hH
 refine AW.skip ?_
 refine AW.region ?_
 refine AO.pu T ?_
 refine AO.val rfl rfl (arw_ok rfl rfl rfl rfl) ?_
 refine AO.pu T ?_
 refine AO.nil ?_
 refine ⟨(k1, w64 (v7 + 1)), hH, Nat.lt_succ_self _, ?_⟩
 exact Le.ct 0 0
 replace hH := condF hc hH
 refine AW.exit ?_
 refine AW.seq ?_
 obtain ⟨x11, hx12, hH⟩ := bindE hH
 refine AW.region ?_
 iterate 2 refine AO.pu T ?_
 refine AO.val rfl rfl (callV_ok rfl rfl rfl rfl (impl_within_ok _ _ _ _ (hx12)) rfl) ?_
 refine AO.pu T ?_
 refine AO.nil (AW.ret ?_)
 cases someE hH
 exact retQ.i [] rfl (.c (.c .v))

def impl_IsName_p (fuel : Nat) (sA : ByteArray) : Option Bool :=
  (impl_IsElementName_p fuel sA).bind fun x1 =>
  some x1
theorem impl_IsName_ok (fuel : Nat) (sA : ByteArray) (r : Bool) (hH : impl_IsName_p fuel sA = some r) : SpecR Try.prog 102 [.v (.string sA)] (.v (.bool r)) := by
 refine fn_ok T Try.func102 rfl (by decide) rfl ?_
 refine AW.seq (AW.region ?_)
 refine AO.pu T ?_
 refine AO.nil (AW.seq ?_)
 obtain ⟨x1, hx2, hH⟩ := bindE hH
 refine AW.region ?_
 refine AO.pu T ?_
 refine AO.val rfl rfl (callV_ok rfl rfl rfl rfl (impl_IsElementName_ok fuel _ _ (hx2)) rfl) ?_
 refine AO.pu T ?_
 refine AO.nil (AW.ret ?_)
 cases someE hH
 exact retQ.i [] rfl (.c (.c .v))

def impl_allWithin_l1 (low : Int) (high : Int) : List Int → Nat → Option Bool
  | [], k1 =>
    some true
  | y2 :: ys3, k1 =>
    (impl_within_p y2 low high).bind fun x12 =>
    cond (!x12)
      (some false)
      (impl_allWithin_l1 low high ys3 (k1 + 1))
def impl_allWithin_p (l : List Int) (low : Int) (high : Int) : Option Bool :=
  impl_allWithin_l1 low high l 0
theorem impl_allWithin_ok (l : List Int) (low : Int) (high : Int) (r : Bool) (hH : impl_allWithin_p l low high = some r) : SpecR Try.prog 103 [.s (List.map encInt l), low, high] (.v (.bool r)) := by
 refine fn_ok T Try.func103 rfl (by decide) rfl ?_
 refine AW.seq (AW.region ?_)
 refine AO.pu T ?_
 refine AO.nil ?_
 iterate 2 refine AW.seq ?_
 refine AW.region ?_
 refine AO.pu T ?_
 refine AO.val rfl rfl (len_map_ok T rfl rfl rfl) ?_
 refine AO.pu T ?_
 refine AO.nil ?_
 refine AW.block ?_
 refine AW.loopS (fun s : Nat => (⟨[(1, low), (2, high), (9, .s (List.map encInt l)), (10, (l.length : Int)), (11, (s : Int))], [], 21, []⟩ : St)) (fun s => s ≤ l.length ∧ impl_allWithin_l1 low high (l.drop s) s = some r) (fun s => l.length - s) 0 ⟨Nat.zero_le _, hH⟩ ?_ ?_
 exact Le.ct 0 0
 rintro k1 ⟨hk, hH⟩
 replace hH : impl_allWithin_l1 low high (l.drop k1) k1 = some r := hH
 try dsimp only
 refine AW.boundM (t := 9) (l := l) rfl (fun hb5 => ?_)
 rcases hd4 : l.drop k1 with _ | ⟨y2, ys3⟩
 rw [hd4, impl_allWithin_l1] at hH
 have hlt6 := drop_ge hd4
 refine AW.seq (AW.region ?_)
 refine AO.pu T ?_
 refine AO.nil (AW.seq ?_)
 refine AW.condF' (b := decide ((k1 : Int) < (l.length : Int))) rfl (rngF hlt6) ?_
 refine AW.exit ?_
 refine AW.seq (AW.region ?_)
 refine AO.pu T ?_
 refine AO.nil (AW.ret ?_)
 cases someE hH
 exact retQ.i [] rfl (.c (.c .v))
 rw [hd4, impl_allWithin_l1] at hH
 have hlt6 := drop_lt hd4
 refine AW.seq (AW.region ?_)
 refine AO.pu T ?_
 refine AO.nil (AW.seq ?_)
 refine AW.condT' (b := decide ((k1 : Int) < (l.length : Int))) rfl (rngT hlt6) ?_
 refine AW.skip ?_
 refine AW.seq ?_
 refine AW.block ?_
 refine AW.seq (AW.region ?_)
 refine AO.val rfl rfl (ix_map_ok T rfl rfl rfl rfl rfl (getI_drop hd4) rfl) ?_
 iterate 2 refine AO.pu T ?_
 refine AO.nil (AW.seq ?_)
 obtain ⟨x12, hx13, hH⟩ := bindE hH
 refine AW.region ?_
 iterate 3 refine AO.pu T ?_
 refine AO.val rfl rfl (callV_ok rfl rfl rfl rfl (impl_within_ok _ _ _ _ (hx13)) rfl) ?_
 refine AO.pu T ?_
 refine AO.nil ?_
 refine AW.cond (b := (!x12)) rfl (fun hc => ?_) (fun hc => ?_)
 replace hH := condT hc hH
 refine AW.seq (AW.region ?_)
 refine AO.pu T ?_
 refine AO.nil (AW.ret ?_)
 cases someE hH
 exact retQ.i [] rfl (.c (.c .v))
 replace hH := condF hc hH
 refine AW.skip ?_
 refine AW.region ?_
 refine AO.val rfl rfl (ar_ok rfl rfl rfl rfl (inI_succ hlt6 hb5)) ?_
 refine AO.pu T ?_
 refine AO.nil ?_
 refine ⟨k1 + 1, ⟨Nat.succ_le_of_lt hlt6, (by rw [drop_succ_of hd4]; exact hH)⟩, (by have := hlt6; dsimp only; omega), ?_⟩
 exact Le.ct 0 0

def impl_IsItem_l1 (it : Item) (fuel : Nat) : List ByteArray → Nat → Option Bool
  | [], k1 =>
    (impl_within_p (it.names.length : Int) 1 3).bind fun x12 =>
    (opt (x12 && ((it.marks.length : Int) == (it.names.length : Int))) default (impl_allWithin_p it.marks 0 3)).bind fun x14 =>
    some ((x12 && ((it.marks.length : Int) == (it.names.length : Int))) && x14)
  | y2 :: ys3, k1 =>
    (impl_IsName_p fuel y2).bind fun x16 =>
    cond (!x16)
      (some false)
      (impl_IsItem_l1 it fuel ys3 (k1 + 1))
def impl_IsItem_p (fuel : Nat) (it : Item) : Option Bool :=
  impl_IsItem_l1 it fuel it.names 0
theorem impl_IsItem_ok (fuel : Nat) (it : Item) (r : Bool) (hH : impl_IsItem_p fuel it = some r) : SpecR Try.prog 88 [.g (encItem it)] (.v (.bool r)) := by
 refine fn_ok T Try.func88 rfl (by decide) rfl ?_
 refine AW.seq (AW.region ?_)
 refine AO.step rfl (box_ok T rfl 1 rfl rfl rfl rfl) ?_
 refine AO.pu T ?_
 refine AO.nil ?_
 iterate 2 refine AW.seq ?_
 refine AW.region ?_
 iterate 2 refine AO.pu T ?_
 refine AO.val rfl rfl (len_map_ok T rfl rfl rfl) ?_
 refine AO.pu T ?_
 refine AO.nil ?_
 refine AW.block ?_
 refine AW.loopS (fun s : Nat => (⟨[(1, .p 1 0), (6, .s (List.map encStr it.names)), (7, (it.names.length : Int)), (8, (s : Int))], [(1, .box [.s (List.map encStr it.names), .s (List.map encInt it.marks), .v (.bool it.late)])], 34, []⟩ : St)) (fun s => s ≤ it.names.length ∧ impl_IsItem_l1 it fuel (it.names.drop s) s = some r) (fun s => it.names.length - s) 0 ⟨Nat.zero_le _, hH⟩ ?_ ?_
 exact Le.ct 0 0
 rintro k1 ⟨hk, hH⟩
 replace hH : impl_IsItem_l1 it fuel (it.names.drop k1) k1 = some r := hH
 try dsimp only
 refine AW.boundM (t := 6) (l := it.names) rfl (fun hb5 => ?_)
 rcases hd4 : it.names.drop k1 with _ | ⟨y2, ys3⟩
 rw [hd4, impl_IsItem_l1] at hH
 have hlt6 := drop_ge hd4
 refine AW.seq (AW.region ?_)
 refine AO.pu T ?_
 refine AO.nil (AW.seq ?_)
 refine AW.condF' (b := decide ((k1 : Int) < (it.names.length : Int))) rfl (rngF hlt6) ?_
 refine AW.exit ?_
 refine AW.seq ?_
 obtain ⟨x12, hx13, hH⟩ := bindE hH
 obtain ⟨x14, hx15, hH⟩ := bindE hH
 refine AW.region ?_
 iterate 2 refine AO.pu T ?_
 refine AO.val rfl rfl (len_map_ok T rfl rfl rfl) ?_
 refine AO.val rfl rfl (callV_ok rfl rfl rfl rfl (impl_within_ok _ _ _ _ (hx13)) rfl) ?_
 refine AO.pu T ?_
 refine AO.pureG T [] rfl trivial rfl rfl ?_
 refine AO.pureG T [21] rfl ⟨fun h => h, trivial⟩ rfl rfl ?_
 refine AO.guard [22] rfl ⟨fun h => h, trivial⟩ (fun hg => len_map_ok T rfl rfl rfl) rfl ?_
 refine AO.pureG T [] rfl trivial rfl rfl ?_
 refine AO.pureG T [24] rfl ⟨fun h => h, trivial⟩ rfl rfl ?_
 refine AO.guard [25] rfl ⟨fun h => h, trivial⟩ (fun hg => len_map_ok T rfl rfl rfl) rfl ?_
 refine AO.pureG T [23, 26] rfl ⟨fun h => h, fun h => h, trivial⟩ rfl rfl ?_
 refine AO.val rfl rfl (pick_and rfl rfl rfl rfl) ?_
 refine AO.pu T ?_
 refine AO.pureG T [] rfl trivial rfl rfl ?_
 refine AO.pureG T [30] rfl ⟨fun h => h, trivial⟩ rfl rfl ?_
 refine AO.guard [31] rfl ⟨fun h => h, trivial⟩ (fun hg => callV_ok rfl rfl rfl rfl (impl_allWithin_ok _ _ _ _ (optT hx15 hg)) rfl) rfl ?_
 refine AO.val rfl rfl (pick_and rfl rfl rfl rfl) ?_
 refine AO.pu T ?_
 refine AO.nil (AW.ret ?_)
 cases someE hH
 exact retQ.i [] rfl (.c (.c .v))
 rw [hd4, impl_IsItem_l1] at hH
 have hlt6 := drop_lt hd4
 refine AW.seq (AW.region ?_)
 refine AO.pu T ?_
 refine AO.nil (AW.seq ?_)
 refine AW.condT' (b := decide ((k1 : Int) < (it.names.length : Int))) rfl (rngT hlt6) ?_
 refine AW.skip ?_
 refine AW.seq ?_
 refine AW.block ?_
 refine AW.seq (AW.region ?_)
 refine AO.val rfl rfl (ix_map_ok T rfl rfl rfl rfl rfl (getI_drop hd4) rfl) ?_
 iterate 2 refine AO.pu T ?_
 refine AO.nil (AW.seq ?_)
 obtain ⟨x16, hx17, hH⟩ := bindE hH
 refine AW.region ?_
 refine AO.pu T ?_
 refine AO.val rfl rfl (callV_ok rfl rfl rfl rfl (impl_IsName_ok fuel _ _ (hx17)) rfl) ?_
 refine AO.pu T ?_
 refine AO.nil ?_
 refine AW.cond (b := (!x16)) rfl (fun hc => ?_) (fun hc => ?_)
 replace hH := condT hc hH
 refine AW.seq (AW.region ?_)
 refine AO.pu T ?_
 refine AO.nil (AW.ret ?_)
 cases someE hH
 exact retQ.i [] rfl (.c (.c .v))
 replace hH := condF hc hH
 refine AW.skip ?_
 refine AW.region ?_
 refine AO.val rfl rfl (ar_ok rfl rfl rfl rfl (inI_succ hlt6 hb5)) ?_
 refine AO.pu T ?_
 refine AO.nil ?_
 refine ⟨k1 + 1, ⟨Nat.succ_le_of_lt hlt6, (by rw [drop_succ_of hd4]; exact hH)⟩, (by have := hlt6; dsimp only; omega), ?_⟩
 exact Le.ct 0 0

def impl_AreItems_l1 (l : List Item) (fuel : Nat) : List Item → Nat → Option Bool
  | [], k1 =>
    some (decide ((l.length : Int) ≤ 14))
  | y2 :: ys3, k1 =>
    (impl_IsItem_p fuel y2).bind fun x12 =>
    cond (!x12)
      (some false)
      (impl_AreItems_l1 l fuel ys3 (k1 + 1))
def impl_AreItems_p (fuel : Nat) (l : List Item) : Option Bool :=
  impl_AreItems_l1 l fuel l 0
theorem impl_AreItems_ok (fuel : Nat) (l : List Item) (r : Bool) (hH : impl_AreItems_p fuel l = some r) : SpecR Try.prog 57 [.s (List.map encItem l)] (.v (.bool r)) := by
 refine fn_ok T Try.func57 rfl (by decide) rfl ?_
 refine AW.seq (AW.region ?_)
 refine AO.pu T ?_
 refine AO.nil ?_
 iterate 2 refine AW.seq ?_
 refine AW.region ?_
 refine AO.pu T ?_
 refine AO.val rfl rfl (len_map_ok T rfl rfl rfl) ?_
 refine AO.pu T ?_
 refine AO.nil ?_
 refine AW.block ?_
 refine AW.loopS (fun s : Nat => (⟨[(0, .s (List.map encItem l)), (5, .s (List.map encItem l)), (6, (l.length : Int)), (7, (s : Int))], [], 18, []⟩ : St)) (fun s => s ≤ l.length ∧ impl_AreItems_l1 l fuel (l.drop s) s = some r) (fun s => l.length - s) 0 ⟨Nat.zero_le _, hH⟩ ?_ ?_
 exact Le.ct 0 0
 rintro k1 ⟨hk, hH⟩
 replace hH : impl_AreItems_l1 l fuel (l.drop k1) k1 = some r := hH
 try dsimp only
 refine AW.boundM (t := 0) (l := l) rfl (fun hb5 => ?_)
 rcases hd4 : l.drop k1 with _ | ⟨y2, ys3⟩
 rw [hd4, impl_AreItems_l1] at hH
 have hlt6 := drop_ge hd4
 refine AW.seq (AW.region ?_)
 refine AO.pu T ?_
 refine AO.nil (AW.seq ?_)
 refine AW.condF' (b := decide ((k1 : Int) < (l.length : Int))) rfl (rngF hlt6) ?_
 refine AW.exit ?_
 refine AW.seq (AW.region ?_)
 refine AO.pu T ?_
 refine AO.val rfl rfl (len_map_ok T rfl rfl rfl) ?_
 iterate 2 refine AO.pu T ?_
 refine AO.nil (AW.ret ?_)
 cases someE hH
 exact retQ.i [] rfl (.c (.c .v))
 rw [hd4, impl_AreItems_l1] at hH
 have hlt6 := drop_lt hd4
 refine AW.seq (AW.region ?_)
 refine AO.pu T ?_
 refine AO.nil (AW.seq ?_)
 refine AW.condT' (b := decide ((k1 : Int) < (l.length : Int))) rfl (rngT hlt6) ?_
 refine AW.skip ?_
 refine AW.seq ?_
 refine AW.block ?_
 refine AW.seq (AW.region ?_)
 refine AO.val rfl rfl (ix_map_ok T rfl rfl rfl rfl rfl (getI_drop hd4) rfl) ?_
 refine AO.pu T (d := .g [.s (List.map encStr y2.names), .s (List.map encInt y2.marks), .v (.bool y2.late)]) ?_
 refine AO.step rfl (alloc_ok T rfl 3 rfl rfl rfl rfl rfl) ?_
 refine AO.se T [.s (List.map encStr y2.names), .s (List.map encInt y2.marks), .v (.bool y2.late)] ?_
 refine AO.nil (AW.seq ?_)
 obtain ⟨x12, hx13, hH⟩ := bindE hH
 refine AW.region ?_
 refine AO.pu T (d := .g [.s (List.map encStr y2.names), .s (List.map encInt y2.marks), .v (.bool y2.late)]) ?_
 refine AO.val rfl rfl (callV_ok rfl rfl rfl rfl (impl_IsItem_ok fuel _ _ (hx13)) rfl) ?_
 refine AO.pu T ?_
 refine AO.nil ?_
 refine AW.cond (b := (!x12)) rfl (fun hc => ?_) (fun hc => ?_)
 replace hH := condT hc hH
 refine AW.seq (AW.region ?_)
 refine AO.pu T ?_
 refine AO.nil (AW.ret ?_)
 cases someE hH
 exact retQ.i [] rfl (.c (.c .v))
 replace hH := condF hc hH
 refine AW.skip ?_
 refine AW.region ?_
 refine AO.val rfl rfl (ar_ok rfl rfl rfl rfl (inI_succ hlt6 hb5)) ?_
 refine AO.pu T ?_
 refine AO.nil ?_
 refine ⟨k1 + 1, ⟨Nat.succ_le_of_lt hlt6, (by rw [drop_succ_of hd4]; exact hH)⟩, (by have := hlt6; dsimp only; omega), ?_⟩
 exact Le.ct 0 0

def impl_copyInts_p (l : List Int) : Option (List Int) :=
  (need (fitsB 8 l.length)).bind fun u1 =>
  some l
theorem impl_copyInts_ok (l : List Int) (r : (List Int)) (hH : impl_copyInts_p l = some r) : SpecR Try.prog 123 [.s (List.map encInt l)] (.w 1 (r.map encInt)) := by
 refine fn_ok T Try.func123 rfl (by decide) rfl ?_
 refine AW.seq (AW.region ?_)
 refine AO.pu T ?_
 refine AO.nil (AW.seq ?_)
 obtain ⟨u1, hx2, hH⟩ := bindE hH
 refine AW.region ?_
 refine AO.step rfl (mk0_ok T rfl rfl rfl rfl) ?_
 refine AO.pu T ?_
 refine AO.step rfl (app_ws_map T rfl 1 rfl rfl rfl rfl rfl (by decide) (by decide) rfl rfl (fun _ => rfl) (needT (hx2)) rfl rfl) ?_
 refine AO.pu T ?_
 refine AO.nil (AW.ret ?_)
 cases someE hH
 exact retQ.i [1] rfl (.c (.c (.rowR rfl)))

def impl_copyItem_p (it : Item) : Option Item :=
  (need (fitsB 16 it.names.length)).bind fun u1 =>
  (impl_copyInts_p it.marks).bind fun x3 =>
  some (Item.mk it.names x3 it.late)
theorem impl_copyItem_ok (it : Item) (r : Item) (hH : impl_copyItem_p it = some r) : SpecR Try.prog 105 [.g (encItem it)] (.g (encItemO r)) := by
 refine fn_ok T Try.func105 rfl (by decide) rfl ?_
 refine AW.seq (AW.region ?_)
 refine AO.step rfl (box_ok T rfl 1 rfl rfl rfl rfl) ?_
 refine AO.step rfl (alloc_ok T rfl 2 rfl rfl rfl rfl rfl) ?_
 refine AO.nil (AW.seq ?_)
 obtain ⟨u1, hx2, hH⟩ := bindE hH
 obtain ⟨x3, hx4, hH⟩ := bindE hH
 refine AW.drawn 9 3 [] mix (by kernel_rfl) rfl ?_
 refine AD.v (FStep.mk0 T rfl rfl rfl rfl rfl) ?_
 iterate 2 refine AD.pure T rfl rfl rfl ?_
 refine AD.q (FStep.app_ws T rfl rfl rfl rfl rfl rfl rfl (by decide) (by decide) rfl rfl (fun _ => rfl) (needT (hx2)) rfl) (by simp [namesIn]) (Nat.le_succ _) rfl ?_
 iterate 2 refine AD.pure T rfl rfl rfl ?_
 refine AD.q (FStep.call rfl rfl rfl rfl rfl (impl_copyInts_ok _ _ (hx4)) rfl rfl) (impT_names _ _) (impT_le _ _) rfl ?_
 iterate 2 refine AD.pure T rfl rfl rfl ?_
 refine AD.nil ?_
 refine AO.pu T (d := .g [.R 3, .R 4, .v (.bool it.late)]) ?_
 refine AO.se T [.R 3, .R 4, .v (.bool it.late)] ?_
 refine AO.nil (AW.ret ?_)
 cases someE hH
 exact retQ.i [3, 4] rfl (.c (.g (expLC_cons (.rowR rfl) (expLC_cons (.rowR rfl) (expLC_cons .v (expLC_nil))))))

def impl_copyItems_l1 : List Item → Nat → List Item → Option ((List Item))
  | [], k1, v16 =>
    some v16
  | y2 :: ys3, k1, v16 =>
    (impl_copyItem_p y2).bind fun x18 =>
    (need (fitsB 56 (v16.length + ([x18]).length))).bind fun u20 =>
    impl_copyItems_l1 ys3 (k1 + 1) (v16 ++ [x18])
def impl_copyItems_p (l : List Item) : Option (List Item) :=
  impl_copyItems_l1 l 0 []
theorem impl_copyItems_ok (l : List Item) (r : (List Item)) (hH : impl_copyItems_p l = some r) : SpecR Try.prog 93 [.s (List.map encItem l)] (.w 3 (r.map encItemO)) := by
 refine fn_ok T Try.func93 rfl (by decide) rfl ?_
 refine AW.seq (AW.region ?_)
 refine AO.pu T ?_
 refine AO.nil (AW.seq ?_)
 refine AW.region ?_
 refine AO.step rfl (mk0_ok T rfl rfl rfl rfl) ?_
 refine AO.pu T ?_
 refine AO.nil ?_
 iterate 2 refine AW.seq ?_
 refine AW.region ?_
 refine AO.pu T ?_
 refine AO.val rfl rfl (len_map_ok T rfl rfl rfl) ?_
 refine AO.pu T ?_
 refine AO.nil ?_
 refine AW.block ?_
 refine AW.loopS (fun s : Nat × (List Item) => (⟨[(3, .R 10), (7, .s (List.map encItem l)), (8, (l.length : Int)), (9, (s.1 : Int))], [(10, .row 3 (List.map encItemO s.2))], 20, []⟩ : St)) (fun s => s.1 ≤ l.length ∧ impl_copyItems_l1 (l.drop s.1) s.1 s.2 = some r) (fun s => l.length - s.1) (0, []) ⟨Nat.zero_le _, hH⟩ ?_ ?_
 refine Le.trans (Le.void 3 10 3 rfl rfl) ?_
 exact Le.ct 0 0
 rintro ⟨k1, v16⟩ ⟨hk, hH⟩
 replace hH : impl_copyItems_l1 (l.drop k1) k1 v16 = some r := hH
 try dsimp only
 refine AW.boundM (t := 7) (l := l) rfl (fun hb5 => ?_)
 rcases hd4 : l.drop k1 with _ | ⟨y2, ys3⟩
 rw [hd4, impl_copyItems_l1] at hH
 have hlt6 := drop_ge hd4
 refine AW.seq (AW.region ?_)
 refine AO.pu T ?_
 refine AO.nil (AW.seq ?_)
 refine AW.condF' (b := decide ((k1 : Int) < (l.length : Int))) rfl (rngF hlt6) ?_
 refine AW.exit ?_
 refine AW.seq (AW.region ?_)
 iterate 2 refine AO.pu T ?_
 refine AO.nil (AW.ret ?_)
 cases someE hH
 exact retQ.i [10] rfl (.c (.c (.rowR rfl)))
 rw [hd4, impl_copyItems_l1] at hH
 have hlt6 := drop_lt hd4
 refine AW.seq (AW.region ?_)
 refine AO.pu T ?_
 refine AO.nil (AW.seq ?_)
 refine AW.condT' (b := decide ((k1 : Int) < (l.length : Int))) rfl (rngT hlt6) ?_
 refine AW.skip ?_
 refine AW.seq ?_
 refine AW.block ?_
 refine AW.seq (AW.region ?_)
 refine AO.val rfl rfl (ix_map_ok T rfl rfl rfl rfl rfl (getI_drop hd4) rfl) ?_
 refine AO.pu T (d := .g [.s (List.map encStr y2.names), .s (List.map encInt y2.marks), .v (.bool y2.late)]) ?_
 refine AO.step rfl (alloc_ok T rfl 11 rfl rfl rfl rfl rfl) ?_
 refine AO.se T [.s (List.map encStr y2.names), .s (List.map encInt y2.marks), .v (.bool y2.late)] ?_
 refine AO.nil ?_
 obtain ⟨x18, hx19, hH⟩ := bindE hH
 obtain ⟨u20, hx21, hH⟩ := bindE hH
 refine AW.region ?_
 refine AO.pu T ?_
 refine AO.pu T (d := .g [.s (List.map encStr y2.names), .s (List.map encInt y2.marks), .v (.bool y2.late)]) ?_
 refine AO.step rfl (call_ok rfl 12 rfl rfl rfl (impl_copyItem_ok _ _ (hx19)) rfl rfl rfl) ?_
 refine AO.step rfl (mk_o_ok T rfl 14 rfl rfl rfl rfl rfl rfl (f := encItemO) (l := [x18]) (ids := [12, 13]) rfl rfl (fun _ => rfl) (by exact expLC_cons (.rowR rfl) (expLC_cons (.rowR rfl) (expLC_cons .v (expLC_nil)))) (by decide) rfl rfl rfl rfl rfl) ?_
 refine AO.step rfl (app_rr_map T rfl 15 rfl rfl rfl rfl rfl (by decide) rfl rfl rfl rfl rfl (needT (hx21)) rfl rfl) ?_
 refine AO.pu T ?_
 refine AO.nil ?_
 refine AW.region ?_
 refine AO.val rfl rfl (ar_ok rfl rfl rfl rfl (inI_succ hlt6 hb5)) ?_
 refine AO.pu T ?_
 refine AO.nil ?_
 refine ⟨(k1 + 1, (v16 ++ [x18])), ⟨Nat.succ_le_of_lt hlt6, (by rw [drop_succ_of hd4]; exact hH)⟩, (by have := hlt6; dsimp only; omega), ?_⟩
 exact Le.ct 15 10

def impl_isTick_p (tick : Int) : Option Bool :=
  (impl_within_p tick 0 100000).bind fun x1 =>
  some x1
theorem impl_isTick_ok (tick : Int) (r : Bool) (hH : impl_isTick_p tick = some r) : SpecR Try.prog 66 [tick] (.v (.bool r)) := by
 refine fn_ok T Try.func66 rfl (by decide) rfl ?_
 refine AW.seq (AW.region ?_)
 refine AO.pu T ?_
 refine AO.nil (AW.seq ?_)
 obtain ⟨x1, hx2, hH⟩ := bindE hH
 refine AW.region ?_
 refine AO.pu T ?_
 refine AO.val rfl rfl (callV_ok rfl rfl rfl rfl (impl_within_ok _ _ _ _ (hx2)) rfl) ?_
 refine AO.pu T ?_
 refine AO.nil (AW.ret ?_)
 cases someE hH
 exact retQ.i [] rfl (.c (.c .v))

def impl_hasNameAt_p (l : List Item) (item : Int) (name : Int) : Option Bool :=
  (impl_within_p item 0 (w64 ((l.length : Int) - 1))).bind fun x1 =>
  (opt x1 default (getI l item)).bind fun x3 =>
  (opt x1 default (impl_within_p name 0 (w64 ((x3.names.length : Int) - 1)))).bind fun x5 =>
  some (x1 && x5)
theorem impl_hasNameAt_ok (l : List Item) (item : Int) (name : Int) (r : Bool) (hH : impl_hasNameAt_p l item name = some r) : SpecR Try.prog 63 [.s (List.map encItem l), item, name] (.v (.bool r)) := by
 refine fn_ok T Try.func63 rfl (by decide) rfl ?_
 refine AW.seq (AW.region ?_)
 refine AO.pu T ?_
 refine AO.nil (AW.seq ?_)
 obtain ⟨x1, hx2, hH⟩ := bindE hH
 obtain ⟨x3, hx4, hH⟩ := bindE hH
 obtain ⟨x5, hx6, hH⟩ := bindE hH
 refine AW.region ?_
 iterate 2 refine AO.pu T ?_
 refine AO.val rfl rfl (len_map_ok T rfl rfl rfl) ?_
 refine AO.val rfl rfl (arw_ok rfl rfl rfl rfl) ?_
 refine AO.val rfl rfl (callV_ok rfl rfl rfl rfl (impl_within_ok _ _ _ _ (hx2)) rfl) ?_
 refine AO.pu T ?_
 iterate 3 refine AO.pureG T [] rfl trivial rfl rfl ?_
 refine AO.guard [14, 15] rfl ⟨fun h => h, fun h => h, trivial⟩ (fun hg => ix_map_ok T rfl rfl rfl rfl rfl (optT hx4 hg) rfl) rfl ?_
 refine AO.pureG T [16] rfl ⟨fun h => h, trivial⟩ rfl rfl ?_
 refine AO.pureG T [17] rfl ⟨fun h => h, trivial⟩ rfl rfl ?_
 refine AO.guard [18] rfl ⟨fun h => h, trivial⟩ (fun hg => len_map_ok T rfl rfl rfl) rfl ?_
 refine AO.guard [19] rfl ⟨fun h => h, trivial⟩ (fun hg => arw_ok rfl rfl rfl rfl) rfl ?_
 refine AO.guard [13, 20] rfl ⟨fun h => h, fun h => h, trivial⟩ (fun hg => callV_ok rfl rfl rfl rfl (impl_within_ok _ _ _ _ (optT hx6 hg)) rfl) rfl ?_
 refine AO.val rfl rfl (pick_and rfl rfl rfl rfl) ?_
 refine AO.pu T ?_
 refine AO.nil (AW.ret ?_)
 cases someE hH
 exact retQ.i [] rfl (.c (.c .v))

def impl_isMark_p (mark : Int) : Option Bool :=
  (impl_within_p mark 0 3).bind fun x1 =>
  some x1
theorem impl_isMark_ok (mark : Int) (r : Bool) (hH : impl_isMark_p mark = some r) : SpecR Try.prog 106 [mark] (.v (.bool r)) := by
 refine fn_ok T Try.func106 rfl (by decide) rfl ?_
 refine AW.seq (AW.region ?_)
 refine AO.pu T ?_
 refine AO.nil (AW.seq ?_)
 obtain ⟨x1, hx2, hH⟩ := bindE hH
 refine AW.region ?_
 refine AO.pu T ?_
 refine AO.val rfl rfl (callV_ok rfl rfl rfl rfl (impl_within_ok _ _ _ _ (hx2)) rfl) ?_
 refine AO.pu T ?_
 refine AO.nil (AW.ret ?_)
 cases someE hH
 exact retQ.i [] rfl (.c (.c .v))

def impl_historyState_apply_p (sA : HistoryState) (x : Change) : Option (HistoryState × Bool) :=
  (impl_isTick_p x.tick).bind fun x1 =>
  (opt (!(!x1)) default (impl_within_p x.caller 1 9)).bind fun x3 =>
  (opt (!((!x1) || (!x3))) default (impl_hasNameAt_p sA.items x.item x.name)).bind fun x5 =>
  (opt (!(((!x1) || (!x3)) || (!x5))) default (impl_isMark_p x.mark)).bind fun x7 =>
  cond ((((!x1) || (!x3)) || (!x5)) || (!x7))
    (some (sA, false))
    (cond x.review
      ((getI sA.items x.item).bind fun x9 =>
      (need (mapOk sA.open' (x.item, x.name))).bind fun u11 =>
      (opt (!(mget sA.open' (x.item, x.name))) default (getI x9.marks x.name)).bind fun x13 =>
      some ((HistoryState.mk (sA.items.set x.item.toNat x9) (mput sA.open' (x.item, x.name) true)), ((!(mget sA.open' (x.item, x.name))) && (x13 == x.mark))))
      ((getI sA.items x.item).bind fun x15 =>
      (getI x15.marks x.name).bind fun x17 =>
      (need (mapOk sA.open' (x.item, x.name))).bind fun u19 =>
      some ((HistoryState.mk (sA.items.set x.item.toNat (Item.mk x15.names (x15.marks.set x.name.toNat x.mark) x15.late)) (mdel sA.open' (x.item, x.name))), true)))
theorem impl_historyState_apply_ok (sA : HistoryState) (x : Change) (r : (HistoryState × Bool)) (hH : impl_historyState_apply_p sA x = some r) : SpecM Try.prog 94 [.pn (encHistoryStateO sA), .g (encChange x)] [.pn (encHistoryStateO r.1), .u] (.v (.bool r.2)) := by
 refine fn_okM T Try.func94 rfl (by decide) rfl rfl ?_
 intro L
 show AW _ _ _ (⟨[(0, .p 1 0), (1, .g [x.tick, x.caller, x.item, x.name, x.mark, .v (.bool x.review)])], [(1, .box [.R 2, .m 3]), (3, .map (encMe sA.open')), (2, .row 3 (List.map encItemO sA.items))], 92, [(1, L 1), (3, L 3), (2, L 2)]⟩ : St)
 refine AW.seq (AW.region ?_)
 refine AO.step rfl (box_ok T rfl 4 rfl rfl rfl rfl) ?_
 refine AO.pu T ?_
 refine AO.nil ?_
 iterate 2 refine AW.seq ?_
 obtain ⟨x1, hx2, hH⟩ := bindE hH
 obtain ⟨x3, hx4, hH⟩ := bindE hH
 obtain ⟨x5, hx6, hH⟩ := bindE hH
 obtain ⟨x7, hx8, hH⟩ := bindE hH
 refine AW.drawn 19 5 [] mix (by kernel_rfl) rfl ?_
 iterate 2 refine AD.pure T rfl rfl rfl ?_
 refine AD.val rfl rfl (callV_ok rfl rfl rfl rfl (impl_isTick_ok _ _ (hx2)) rfl) ?_
 iterate 2 refine AD.pure T rfl rfl rfl ?_
 refine AD.pureG T [] rfl trivial rfl rfl ?_
 refine AD.pureG T [12] rfl ⟨fun h => h, trivial⟩ rfl rfl ?_
 refine AD.guard [13] rfl ⟨fun h => h, trivial⟩ (fun hg => callV_ok rfl rfl rfl rfl (impl_within_ok _ _ _ _ (optT hx4 hg)) rfl) rfl ?_
 refine AD.pureG T [14] rfl ⟨fun h => h, trivial⟩ rfl rfl ?_
 refine AD.val rfl rfl (pick_or rfl rfl rfl rfl) ?_
 refine AD.pure T rfl rfl rfl ?_
 refine AD.pureG T [] rfl trivial rfl rfl ?_
 refine AD.pureG T [18] rfl ⟨fun h => h, trivial⟩ rfl rfl ?_
 refine AD.pureG T [19] rfl ⟨fun h => h, trivial⟩ rfl rfl ?_
 refine AD.pureG T [20] rfl ⟨fun h => h, trivial⟩ rfl rfl ?_
 refine AD.pureG T [] rfl trivial rfl rfl ?_
 refine AD.pureG T [22] rfl ⟨fun h => h, trivial⟩ rfl rfl ?_
 refine AD.pureG T [] rfl trivial rfl rfl ?_
 refine AD.pureG T [24] rfl ⟨fun h => h, trivial⟩ rfl rfl ?_
 refine AD.nil ?_
 refine AO.guard [21, 23, 25] rfl ⟨fun h => h, fun h => h, fun h => h, trivial⟩ (fun hg => callLV_ok rfl rfl rfl (es := [.s (List.map encItem sA.items), x.item, x.name]) ⟨(.rowR rfl (.map fun y => frzItem y)), .free rfl, .free rfl, trivial⟩ (impl_hasNameAt_ok _ _ _ _ (optT hx6 hg)) (zfree_v _) rfl) rfl ?_
 refine AO.pureG T [26] rfl ⟨fun h => h, trivial⟩ rfl rfl ?_
 refine AO.val rfl rfl (pick_or rfl rfl rfl rfl) ?_
 refine AO.pu T ?_
 refine AO.pureG T [] rfl trivial rfl rfl ?_
 refine AO.pureG T [30] rfl ⟨fun h => h, trivial⟩ rfl rfl ?_
 refine AO.guard [31] rfl ⟨fun h => h, trivial⟩ (fun hg => callV_ok rfl rfl rfl rfl (impl_isMark_ok _ _ (optT hx8 hg)) rfl) rfl ?_
 refine AO.pureG T [32] rfl ⟨fun h => h, trivial⟩ rfl rfl ?_
 refine AO.val rfl rfl (pick_or rfl rfl rfl rfl) ?_
 refine AO.nil ?_
 refine AW.le (Le.ct 0 0 (σ' := (⟨[(0, .p 1 0), (3, .p 4 0), (34, .v (.bool ((((!x1) || (!x3)) || (!x5)) || (!x7))))], [(1, .box [.R 2, .m 3]), (2, .row 3 (List.map encItemO sA.items)), (3, .map (encMe sA.open')), (4, .box [x.tick, x.caller, x.item, x.name, x.mark, .v (.bool x.review)])], 92, [(1, L 1), (3, L 3), (2, L 2)]⟩ : St)) (hpin := ⟨⟨rfl, rfl⟩, ⟨rfl, rfl⟩, ⟨rfl, rfl⟩, trivial⟩)) ?_
 refine AW.cond (b := ((((!x1) || (!x3)) || (!x5)) || (!x7))) rfl (fun hc => ?_) (fun hc => ?_)
 replace hH := condT hc hH
 refine AW.seq (AW.region ?_)
 refine AO.pu T ?_
 refine AO.nil (AW.ret ?_)
 cases someE hH
 exact ⟨trivial, rfl, _, [], [1, 2, 3], rfl, expLG_cons (.pb rfl (expLC_cons (.rowR rfl) (expLC_cons (.mapR rfl) (expLC_nil)))) (expLG_cons (.c .u) (expLG_nil)), .c (.c .v), by decide⟩
 replace hH := condF hc hH
 refine AW.skip ?_
 refine AW.seq (AW.region ?_)
 iterate 4 refine AO.pu T ?_
 refine AO.pu T (d := .g [x.item, x.name]) ?_
 refine AO.step rfl (alloc_ok T rfl 5 rfl rfl rfl rfl rfl) ?_
 refine AO.se T [x.item, x.name] ?_
 refine AO.nil ?_
 iterate 2 refine AW.seq ?_
 refine AW.region ?_
 iterate 2 refine AO.pu T ?_
 refine AO.nil ?_
 refine AW.cond (b := x.review) rfl (fun hc => ?_) (fun hc => ?_)
 replace hH := condT hc hH
 refine AW.seq ?_
 obtain ⟨x9, hx10, hH⟩ := bindE hH
 obtain ⟨u11, hx12, hH⟩ := bindE hH
 obtain ⟨x13, hx14, hH⟩ := bindE hH
 refine AW.le (Le.openM 2 x.item.toNat 1 6 rfl (getI_get (hx10)) rfl rfl) ?_
 refine AW.drawn 23 7 [] mix (by kernel_rfl) rfl ?_
 iterate 4 refine AD.pure T rfl rfl rfl ?_
 refine AD.pure T (d := .g [x.item, x.name]) rfl rfl rfl ?_
 refine AD.val rfl rfl (lookup_ok T (k := (x.item, x.name)) mapT0 rfl rfl rfl rfl rfl rfl (needT (hx12))) ?_
 iterate 2 refine AD.pure T rfl rfl rfl ?_
 refine AD.pureG T [] rfl trivial rfl rfl ?_
 refine AD.pureG T [50] rfl ⟨fun h => h, trivial⟩ rfl rfl ?_
 refine AD.pureG T [51] rfl ⟨fun h => h, trivial⟩ rfl rfl ?_
 refine AD.pureG T [52] rfl ⟨fun h => h, trivial⟩ rfl rfl ?_
 refine AD.pureG T [] rfl trivial rfl rfl ?_
 refine AD.pureG T [54] rfl ⟨fun h => h, trivial⟩ rfl rfl ?_
 refine AD.guard [53, 55] rfl ⟨fun h => h, fun h => h, trivial⟩ (fun hg => ix_lent_ok T rfl rfl rfl rfl rfl rfl (hx10)) rfl ?_
 refine AD.pureG T [56] rfl ⟨fun h => h, trivial⟩ rfl rfl ?_
 refine AD.guard [57] rfl ⟨fun h => h, trivial⟩ (fun hg => load_lent_ok T rfl rfl rfl rfl rfl) rfl ?_
 refine AD.pureG T [] rfl trivial rfl rfl ?_
 refine AD.pureG T [59] rfl ⟨fun h => h, trivial⟩ rfl rfl ?_
 refine AD.guard [58, 60] rfl ⟨fun h => h, fun h => h, trivial⟩ (fun hg => ix_row_ok T rfl rfl rfl rfl rfl rfl (optT hx14 hg)) rfl ?_
 refine AD.guard [61] rfl ⟨fun h => h, trivial⟩ (fun hg => load_row_ok T rfl rfl rfl rfl (getI_get (optT hx14 hg)) rfl rfl rfl) rfl ?_
 refine AD.pureG T [] rfl trivial rfl rfl ?_
 refine AD.pureG T [63] rfl ⟨fun h => h, trivial⟩ rfl rfl ?_
 refine AD.nil ?_
 refine AO.pureG T [62, 64] rfl ⟨fun h => h, fun h => h, trivial⟩ rfl rfl ?_
 refine AO.val rfl rfl (pick_and rfl rfl rfl rfl) ?_
 refine AO.pu T ?_
 refine AO.le (Le.closeM 2 x.item.toNat 1 6 rfl rfl (getI_get (hx10)) rfl (u' := x9) rfl) ?_
 refine AO.nil ?_
 refine AW.le (Le.ct 0 0 (σ' := (⟨[(0, .p 1 0), (5, .p 5 0), (6, .v (.bool ((!(mget sA.open' (x.item, x.name))) && (x13 == x.mark))))], [(1, .box [.R 2, .m 3]), (2, .row 3 (List.map encItemO (sA.items.set x.item.toNat x9))), (3, .map (encMe sA.open')), (5, .box [x.item, x.name])], 92, [(1, L 1), (3, L 3), (2, L 2)]⟩ : St)) (hpin := ⟨⟨rfl, rfl⟩, ⟨rfl, rfl⟩, ⟨rfl, rfl⟩, trivial⟩)) ?_
 refine AW.seq ?_
 refine AW.drawn 5 7 [] mix (by kernel_rfl) rfl ?_
 iterate 4 refine AD.pure T rfl rfl rfl ?_
 refine AD.pure T (d := .g [x.item, x.name]) rfl rfl rfl ?_
 refine AD.nil ?_
 refine AO.step rfl (mupdate_ok (k := (x.item, x.name)) mapT0 rfl rfl rfl rfl rfl (needT (hx12)) rfl) ?_
 refine AO.nil (AW.seq ?_)
 refine AW.region ?_
 iterate 2 refine AO.pu T ?_
 refine AO.nil (AW.ret ?_)
 cases someE hH
 exact ⟨trivial, rfl, _, [], [1, 2, 3], rfl, expLG_cons (.pb rfl (expLC_cons (.rowR rfl) (expLC_cons (.mapR rfl) (expLC_nil)))) (expLG_cons (.c .u) (expLG_nil)), .c (.c .v), by decide⟩
 replace hH := condF hc hH
 refine AW.skip ?_
 refine AW.seq ?_
 obtain ⟨x15, hx16, hH⟩ := bindE hH
 obtain ⟨x17, hx18, hH⟩ := bindE hH
 refine AW.le (Le.openM 2 x.item.toNat 1 7 rfl (getI_get (hx16)) rfl rfl) ?_
 refine AW.drawn 13 8 [] mix (by kernel_rfl) rfl ?_
 iterate 6 refine AD.pure T rfl rfl rfl ?_
 refine AD.val rfl rfl (ix_lent_ok T rfl rfl rfl rfl rfl rfl (hx16)) ?_
 refine AD.pure T rfl rfl rfl ?_
 refine AD.val rfl rfl (load_lent_ok T rfl rfl rfl rfl rfl) ?_
 iterate 4 refine AD.pure T rfl rfl rfl ?_
 refine AD.nil ?_
 refine AO.val rfl rfl (ix_row_ok T rfl rfl rfl rfl rfl rfl (hx18)) ?_
 refine AO.step rfl (store_row_ok T rfl rfl rfl rfl rfl (getI_get (hx18)) rfl rfl rfl rfl (u' := x.mark) rfl rfl) ?_
 refine AO.le (Le.closeM 2 x.item.toNat 1 7 rfl rfl (getI_get (hx16)) rfl (u' := (Item.mk x15.names (x15.marks.set x.name.toNat x.mark) x15.late)) rfl) ?_
 refine AO.nil ?_
 refine AW.le (Le.ct 0 0 (σ' := (⟨[(0, .p 1 0), (5, .p 5 0)], [(1, .box [.R 2, .m 3]), (2, .row 3 (List.map encItemO (sA.items.set x.item.toNat (Item.mk x15.names (x15.marks.set x.name.toNat x.mark) x15.late)))), (3, .map (encMe sA.open')), (5, .box [x.item, x.name])], 92, [(1, L 1), (3, L 3), (2, L 2)]⟩ : St)) (hpin := ⟨⟨rfl, rfl⟩, ⟨rfl, rfl⟩, ⟨rfl, rfl⟩, trivial⟩)) ?_
 refine AW.seq ?_
 obtain ⟨u19, hx20, hH⟩ := bindE hH
 refine AW.drawn 5 8 [] mix (by kernel_rfl) rfl ?_
 iterate 4 refine AD.pure T rfl rfl rfl ?_
 refine AD.pure T (d := .g [x.item, x.name]) rfl rfl rfl ?_
 refine AD.nil ?_
 refine AO.step rfl (mdelete_ok (k := (x.item, x.name)) mapT0 rfl rfl rfl rfl (needT (hx20)) rfl) ?_
 refine AO.nil (AW.seq ?_)
 refine AW.region ?_
 refine AO.pu T ?_
 refine AO.nil (AW.ret ?_)
 cases someE hH
 exact ⟨trivial, rfl, _, [], [1, 2, 3], rfl, expLG_cons (.pb rfl (expLC_cons (.rowR rfl) (expLC_cons (.mapR rfl) (expLC_nil)))) (expLG_cons (.c .u) (expLG_nil)), .c (.c .v), by decide⟩

def impl_stateOf_l1 (h : List Change) (tick : Int) : List Change → Nat → List Item → MapL → List Item → MapL → Option (((Option HistoryState) × Bool))
  | [], k3, v25, v26, v27, v28 =>
    some ((some (HistoryState.mk v25 v26)), decide ((h.length : Int) ≤ 60))
  | y4 :: ys5, k3, v25, v26, v27, v28 =>
    (impl_historyState_apply_p (HistoryState.mk v27 v28) y4).bind fun x30 =>
    (opt ((!(!x30.2)) && decide ((k3 : Int) > 0)) default (getI h (w64 ((k3 : Int) - 1)))).bind fun x32 =>
    cond ((!x30.2) || (decide ((k3 : Int) > 0) && decide (x32.tick > y4.tick)))
      (some (none, false))
      (cond (decide (y4.tick ≤ tick))
        ((impl_historyState_apply_p (HistoryState.mk v25 v26) y4).bind fun x34 =>
        impl_stateOf_l1 h tick ys5 (k3 + 1) x34.1.items x34.1.open' x30.1.items x30.1.open')
        (impl_stateOf_l1 h tick ys5 (k3 + 1) v25 v26 x30.1.items x30.1.open'))
def impl_stateOf_p (l : List Item) (h : List Change) (tick : Int) : Option ((Option HistoryState) × Bool) :=
  (impl_copyItems_p l).bind fun x1 =>
  impl_stateOf_l1 h tick h 0 x1 [] x1 []
theorem impl_stateOf_ok (l : List Item) (h : List Change) (tick : Int) (r : ((Option HistoryState) × Bool)) (hH : impl_stateOf_p l h tick = some r) : SpecR Try.prog 67 [.s (List.map encItem l), .s (List.map encChange h), tick] (.t [pnO encHistoryStateO r.1, .v (.bool r.2)]) := by
 refine fn_ok T Try.func67 rfl (by decide) rfl ?_
 refine AW.seq (AW.region ?_)
 iterate 2 refine AO.pu T ?_
 refine AO.nil (AW.seq ?_)
 obtain ⟨x1, hx2, hH⟩ := bindE hH
 refine AW.region ?_
 refine AO.pu T ?_
 refine AO.step rfl (call_ok rfl 1 rfl rfl rfl (impl_copyItems_ok _ _ (hx2)) rfl rfl rfl) ?_
 refine AO.step rfl (makeMap_ok rfl 2 rfl rfl) ?_
 refine AO.pu T (d := .g [.R 1, .m 2]) ?_
 refine AO.step rfl (box_ok T rfl 3 rfl rfl rfl rfl) ?_
 refine AO.pu T ?_
 refine AO.step rfl (call_ok rfl 4 rfl rfl rfl (impl_copyItems_ok _ _ (hx2)) rfl rfl rfl) ?_
 refine AO.step rfl (makeMap_ok rfl 5 rfl rfl) ?_
 refine AO.pu T (d := .g [.R 4, .m 5]) ?_
 refine AO.step rfl (box_ok T rfl 6 rfl rfl rfl rfl) ?_
 iterate 2 refine AO.pu T ?_
 refine AO.nil ?_
 iterate 2 refine AW.seq ?_
 refine AW.region ?_
 refine AO.pu T ?_
 refine AO.val rfl rfl (len_map_ok T rfl rfl rfl) ?_
 refine AO.pu T ?_
 refine AO.nil ?_
 refine AW.block ?_
 refine AW.loopS (fun s : Nat × (List Item) × MapL × (List Item) × MapL => (⟨[(1, .s (List.map encChange h)), (2, tick), (8, .p 3 0), (9, .p 6 0), (22, .s (List.map encChange h)), (23, (h.length : Int)), (24, (s.1 : Int))], [(1, .row 3 (List.map encItemO s.2.1)), (2, .map (encMe s.2.2.1)), (3, .box [.R 1, .m 2]), (4, .row 3 (List.map encItemO s.2.2.2.1)), (5, .map (encMe s.2.2.2.2)), (6, .box [.R 4, .m 5])], 60, []⟩ : St)) (fun s => s.1 ≤ h.length ∧ impl_stateOf_l1 h tick (h.drop s.1) s.1 s.2.1 s.2.2.1 s.2.2.2.1 s.2.2.2.2 = some r) (fun s => h.length - s.1) (0, x1, [], x1, []) ⟨Nat.zero_le _, hH⟩ ?_ ?_
 exact Le.ct 0 0
 rintro ⟨k3, v25, v26, v27, v28⟩ ⟨hk, hH⟩
 replace hH : impl_stateOf_l1 h tick (h.drop k3) k3 v25 v26 v27 v28 = some r := hH
 try dsimp only
 refine AW.boundM (t := 1) (l := h) rfl (fun hb7 => ?_)
 rcases hd6 : h.drop k3 with _ | ⟨y4, ys5⟩
 rw [hd6, impl_stateOf_l1] at hH
 have hlt8 := drop_ge hd6
 refine AW.seq (AW.region ?_)
 refine AO.pu T ?_
 refine AO.nil (AW.seq ?_)
 refine AW.condF' (b := decide ((k3 : Int) < (h.length : Int))) rfl (rngF hlt8) ?_
 refine AW.exit ?_
 refine AW.seq (AW.region ?_)
 iterate 2 refine AO.pu T ?_
 refine AO.val rfl rfl (len_map_ok T rfl rfl rfl) ?_
 iterate 3 refine AO.pu T ?_
 refine AO.nil (AW.ret ?_)
 cases someE hH
 exact retQ.i [3, 1, 2] rfl (.t (expLG_cons (.pb rfl (expLC_cons (.rowR rfl) (expLC_cons (.mapR rfl) (expLC_nil)))) (expLG_cons (.c .v) (expLG_nil))))
 rw [hd6, impl_stateOf_l1] at hH
 have hlt8 := drop_lt hd6
 refine AW.seq (AW.region ?_)
 refine AO.pu T ?_
 refine AO.nil (AW.seq ?_)
 refine AW.condT' (b := decide ((k3 : Int) < (h.length : Int))) rfl (rngT hlt8) ?_
 refine AW.skip ?_
 refine AW.seq ?_
 refine AW.block ?_
 refine AW.seq (AW.region ?_)
 refine AO.pu T ?_
 refine AO.val rfl rfl (ix_map_ok T rfl rfl rfl rfl rfl (getI_drop hd6) rfl) ?_
 refine AO.pu T (d := .g [y4.tick, y4.caller, y4.item, y4.name, y4.mark, .v (.bool y4.review)]) ?_
 refine AO.step rfl (alloc_ok T rfl 17 rfl rfl rfl rfl rfl) ?_
 refine AO.pu T ?_
 refine AO.se T [y4.tick, y4.caller, y4.item, y4.name, y4.mark, .v (.bool y4.review)] ?_
 refine AO.nil ?_
 iterate 2 refine AW.seq ?_
 obtain ⟨x30, hx31, hH⟩ := bindE hH
 obtain ⟨x32, hx33, hH⟩ := bindE hH
 refine AW.drawn 16 18 [6, 4, 5] mix (by kernel_rfl) rfl ?_
 refine AD.pure T rfl rfl rfl ?_
 refine AD.pure T (d := .g [y4.tick, y4.caller, y4.item, y4.name, y4.mark, .v (.bool y4.review)]) rfl rfl rfl ?_
 refine AD.k rfl rfl (FStep.callP rfl rfl rfl rfl rfl (es := [.pn (encHistoryStateO (HistoryState.mk v27 v28)), .g (encChange y4)]) (us := [.u]) (cs := encHistoryStateO x30.1) (ids := [6, 4, 5]) (by exact expLG_cons (.pb rfl (expLC_cons (.rowR rfl) (expLC_cons (.mapR rfl) (expLC_nil)))) (expLG_cons (.g (expLC_cons .v (expLC_cons .v (expLC_cons .v (expLC_cons .v (expLC_cons .v (expLC_cons .v (expLC_nil)))))))) (expLG_nil))) (by decide) (by decide) (impl_historyState_apply_ok _ _ _ (hx31)) rfl rfl (by rfl) rfl) rfl rfl rfl ?_
 iterate 2 refine AD.pure T rfl rfl rfl ?_
 refine AD.pureG T [] rfl trivial rfl rfl ?_
 refine AD.pureG T [34] rfl ⟨fun h => h, trivial⟩ rfl rfl ?_
 refine AD.pureG T [35] rfl ⟨fun h => h, trivial⟩ rfl rfl ?_
 iterate 2 refine AD.pureG T [] rfl trivial rfl rfl ?_
 refine AD.guard [38] rfl ⟨fun h => h, trivial⟩ (fun hg => arw_ok rfl rfl rfl rfl) rfl ?_
 refine AD.guard [37, 39] rfl ⟨fun h => h, fun h => h, trivial⟩ (fun hg => ix_map_ok T rfl rfl rfl rfl rfl (optT hx33 hg) rfl) rfl ?_
 refine AD.pureG T [40] rfl ⟨fun h => h, trivial⟩ rfl rfl ?_
 refine AD.pureG T [41] rfl ⟨fun h => h, trivial⟩ rfl rfl ?_
 refine AD.pureG T [] rfl trivial rfl rfl ?_
 refine AD.pureG T [43] rfl ⟨fun h => h, trivial⟩ rfl rfl ?_
 refine AD.nil ?_
 refine AO.pureG T [42, 44] rfl ⟨fun h => h, fun h => h, trivial⟩ rfl rfl ?_
 refine AO.guard [36] rfl ⟨fun h => h, trivial⟩ (fun hg => pick_and rfl rfl rfl (by rw [hg]; exact Bool.true_and _)) rfl ?_
 refine AO.val rfl rfl (pick_or rfl rfl rfl rfl) ?_
 refine AO.nil ?_
 refine AW.le (Le.ct 0 0 (σ' := (⟨[(1, .s (List.map encChange h)), (2, tick), (8, .p 3 0), (9, .p 6 0), (11, .p 17 0), (22, .s (List.map encChange h)), (23, (h.length : Int)), (24, (k3 : Int)), (47, .v (.bool ((!x30.2) || (decide ((k3 : Int) > 0) && decide (x32.tick > y4.tick)))))], [(1, .row 3 (List.map encItemO v25)), (2, .map (encMe v26)), (3, .box [.R 1, .m 2]), (6, .box [.R 18, .m 19]), (17, .box [y4.tick, y4.caller, y4.item, y4.name, y4.mark, .v (.bool y4.review)]), (18, .row 3 (List.map encItemO x30.1.items)), (19, .map (encMe x30.1.open'))], 60, []⟩ : St))) ?_
 refine AW.cond (b := ((!x30.2) || (decide ((k3 : Int) > 0) && decide (x32.tick > y4.tick)))) rfl (fun hc => ?_) (fun hc => ?_)
 replace hH := condT hc hH
 refine AW.seq (AW.region ?_)
 iterate 2 refine AO.pu T ?_
 refine AO.nil (AW.ret ?_)
 cases someE hH
 exact retQ.i [] rfl (.t (expLG_cons (.c .v) (expLG_cons (.c .v) (expLG_nil))))
 replace hH := condF hc hH
 refine AW.skip ?_
 refine AW.seq (AW.region ?_)
 iterate 4 refine AO.pu T ?_
 refine AO.nil ?_
 refine AW.cond (b := decide (y4.tick ≤ tick)) rfl (fun hc => ?_) (fun hc => ?_)
 replace hH := condT hc hH
 obtain ⟨x34, hx35, hH⟩ := bindE hH
 refine AW.region ?_
 refine AO.pu T ?_
 refine AO.pu T (d := .g [y4.tick, y4.caller, y4.item, y4.name, y4.mark, .v (.bool y4.review)]) ?_
 refine AO.step rfl (callP_ok rfl 20 rfl rfl rfl (es := [.pn (encHistoryStateO (HistoryState.mk v25 v26)), .g (encChange y4)]) (us := [.u]) (cs := encHistoryStateO x34.1) (ids := [3, 1, 2]) (by exact expLG_cons (.pb rfl (expLC_cons (.rowR rfl) (expLC_cons (.mapR rfl) (expLC_nil)))) (expLG_cons (.g (expLC_cons .v (expLC_cons .v (expLC_cons .v (expLC_cons .v (expLC_cons .v (expLC_cons .v (expLC_nil)))))))) (expLG_nil))) (by decide) (by decide) (impl_historyState_apply_ok _ _ _ (hx35)) rfl rfl (by rfl) rfl) ?_
 refine AO.nil ?_
 refine AW.region ?_
 refine AO.val rfl rfl (ar_ok rfl rfl rfl rfl (inI_succ hlt8 hb7)) ?_
 refine AO.pu T ?_
 refine AO.nil ?_
 refine ⟨(k3 + 1, x34.1.items, x34.1.open', x30.1.items, x30.1.open'), ⟨Nat.succ_le_of_lt hlt8, (by rw [drop_succ_of hd6]; exact hH)⟩, (by have := hlt8; dsimp only; omega), ?_⟩
 refine Le.trans (Le.ct 20 1 (σ' := (⟨[(1, .s (List.map encChange h)), (2, tick), (8, .p 3 0), (9, .p 6 0), (22, .s (List.map encChange h)), (23, (h.length : Int)), (24, ((k3 + 1 : Nat) : Int))], [(1, .row 3 (List.map encItemO x34.1.items)), (3, .box [.R 1, .m 21]), (6, .box [.R 18, .m 19]), (18, .row 3 (List.map encItemO x30.1.items)), (19, .map (encMe x30.1.open')), (21, .map (encMe x34.1.open'))], 60, []⟩ : St))) ?_
 refine Le.trans (Le.ct 21 2 (σ' := (⟨[(1, .s (List.map encChange h)), (2, tick), (8, .p 3 0), (9, .p 6 0), (22, .s (List.map encChange h)), (23, (h.length : Int)), (24, ((k3 + 1 : Nat) : Int))], [(1, .row 3 (List.map encItemO x34.1.items)), (2, .map (encMe x34.1.open')), (3, .box [.R 1, .m 2]), (6, .box [.R 18, .m 19]), (18, .row 3 (List.map encItemO x30.1.items)), (19, .map (encMe x30.1.open'))], 60, []⟩ : St))) ?_
 refine Le.trans (Le.ct 18 4 (σ' := (⟨[(1, .s (List.map encChange h)), (2, tick), (8, .p 3 0), (9, .p 6 0), (22, .s (List.map encChange h)), (23, (h.length : Int)), (24, ((k3 + 1 : Nat) : Int))], [(1, .row 3 (List.map encItemO x34.1.items)), (2, .map (encMe x34.1.open')), (3, .box [.R 1, .m 2]), (4, .row 3 (List.map encItemO x30.1.items)), (6, .box [.R 4, .m 19]), (19, .map (encMe x30.1.open'))], 60, []⟩ : St))) ?_
 exact Le.ct 19 5
 replace hH := condF hc hH
 refine AW.skip ?_
 refine AW.region ?_
 refine AO.val rfl rfl (ar_ok rfl rfl rfl rfl (inI_succ hlt8 hb7)) ?_
 refine AO.pu T ?_
 refine AO.nil ?_
 refine ⟨(k3 + 1, v25, v26, x30.1.items, x30.1.open'), ⟨Nat.succ_le_of_lt hlt8, (by rw [drop_succ_of hd6]; exact hH)⟩, (by have := hlt8; dsimp only; omega), ?_⟩
 refine Le.trans (Le.ct 18 4 (σ' := (⟨[(1, .s (List.map encChange h)), (2, tick), (8, .p 3 0), (9, .p 6 0), (22, .s (List.map encChange h)), (23, (h.length : Int)), (24, ((k3 + 1 : Nat) : Int))], [(1, .row 3 (List.map encItemO v25)), (2, .map (encMe v26)), (3, .box [.R 1, .m 2]), (4, .row 3 (List.map encItemO x30.1.items)), (6, .box [.R 4, .m 19]), (19, .map (encMe x30.1.open'))], 60, []⟩ : St))) ?_
 exact Le.ct 19 5

def impl_isHistory_p (fuel : Nat) (l : List Item) (h : List Change) : Option Bool :=
  (impl_AreItems_p fuel l).bind fun x1 =>
  cond (!x1)
    (some false)
    ((impl_stateOf_p l h 0).bind fun x3 =>
    (match x3.1 with
      | none =>
        some x3.2
      | some p2_0 =>
        some x3.2))
theorem impl_isHistory_ok (fuel : Nat) (l : List Item) (h : List Change) (r : Bool) (hH : impl_isHistory_p fuel l h = some r) : SpecR Try.prog 58 [.s (List.map encItem l), .s (List.map encChange h)] (.v (.bool r)) := by
 refine fn_ok T Try.func58 rfl (by decide) rfl ?_
 refine AW.seq (AW.region ?_)
 refine AO.pu T ?_
 refine AO.nil ?_
 iterate 2 refine AW.seq ?_
 obtain ⟨x1, hx2, hH⟩ := bindE hH
 refine AW.region ?_
 refine AO.pu T ?_
 refine AO.val rfl rfl (callV_ok rfl rfl rfl rfl (impl_AreItems_ok fuel _ _ (hx2)) rfl) ?_
 refine AO.pu T ?_
 refine AO.nil ?_
 refine AW.cond (b := (!x1)) rfl (fun hc => ?_) (fun hc => ?_)
 replace hH := condT hc hH
 refine AW.seq (AW.region ?_)
 refine AO.pu T ?_
 refine AO.nil (AW.ret ?_)
 cases someE hH
 exact retQ.i [] rfl (.c (.c .v))
 replace hH := condF hc hH
 refine AW.skip ?_
 refine AW.seq ?_
 obtain ⟨x3, hx4, hH⟩ := bindE hH
 rcases hq2_0 : x3.1 with _ | p2_0
 rw [hq2_0] at hH
 try dsimp only at hH
 refine AW.region ?_
 iterate 2 refine AO.pu T ?_
 refine AO.step rfl (call_ok rfl 1 rfl rfl rfl ((by have q := impl_stateOf_ok _ _ _ _ (hx4); rw [hq2_0] at q; exact q)) rfl rfl rfl) ?_
 iterate 5 refine AO.pu T ?_
 refine AO.nil (AW.seq ?_)
 refine AW.region ?_
 iterate 2 refine AO.pu T ?_
 refine AO.nil (AW.ret ?_)
 cases someE hH
 exact retQ.i [] rfl (.c (.c .v))
 rw [hq2_0] at hH
 try dsimp only at hH
 refine AW.region ?_
 iterate 2 refine AO.pu T ?_
 refine AO.step rfl (call_ok rfl 1 rfl rfl rfl ((by have q := impl_stateOf_ok _ _ _ _ (hx4); rw [hq2_0] at q; exact q)) rfl rfl rfl) ?_
 iterate 5 refine AO.pu T ?_
 refine AO.nil (AW.seq ?_)
 refine AW.region ?_
 iterate 2 refine AO.pu T ?_
 refine AO.nil (AW.ret ?_)
 cases someE hH
 exact retQ.i [] rfl (.c (.c .v))

def impl_AddChange_p (fuel : Nat) (l : List Item) (h : List Change) (x : Change) : Option ((List Change) × Bool) :=
  (impl_isHistory_p fuel l h).bind fun x1 =>
  cond (!x1)
    (some ([], false))
    ((need (fitsB 48 h.length)).bind fun u3 =>
    (need (fitsB 48 (h.length + ([x]).length))).bind fun u5 =>
    (impl_isHistory_p fuel l (h ++ [x])).bind fun x7 =>
    cond (!x7)
      (some ([], false))
      (some ((h ++ [x]), true)))
theorem impl_AddChange_ok (fuel : Nat) (l : List Item) (h : List Change) (x : Change) (r : ((List Change) × Bool)) (hH : impl_AddChange_p fuel l h x = some r) : SpecR Try.prog 29 [.s (List.map encItem l), .s (List.map encChange h), .g (encChange x)] (.t [.w 6 (r.1.map encChange), .v (.bool r.2)]) := by
 refine fn_ok T Try.func29 rfl (by decide) rfl ?_
 refine AW.seq (AW.region ?_)
 refine AO.step rfl (box_ok T rfl 1 rfl rfl rfl rfl) ?_
 iterate 2 refine AO.pu T ?_
 refine AO.nil ?_
 iterate 2 refine AW.seq ?_
 obtain ⟨x1, hx2, hH⟩ := bindE hH
 refine AW.region ?_
 iterate 2 refine AO.pu T ?_
 refine AO.val rfl rfl (callV_ok rfl rfl rfl rfl (impl_isHistory_ok fuel _ _ _ (hx2)) rfl) ?_
 refine AO.pu T ?_
 refine AO.nil ?_
 refine AW.cond (b := (!x1)) rfl (fun hc => ?_) (fun hc => ?_)
 replace hH := condT hc hH
 refine AW.seq (AW.region ?_)
 iterate 2 refine AO.pu T ?_
 refine AO.nil (AW.ret ?_)
 cases someE hH
 exact retQ.i [] rfl (.t (expLG_cons (.c .nil) (expLG_cons (.c .v) (expLG_nil))))
 replace hH := condF hc hH
 refine AW.skip ?_
 refine AW.seq ?_
 obtain ⟨u3, hx4, hH⟩ := bindE hH
 obtain ⟨u5, hx6, hH⟩ := bindE hH
 refine AW.drawn 5 2 [] mix (by kernel_rfl) rfl ?_
 refine AD.v (FStep.mk0 T rfl rfl rfl rfl rfl) ?_
 refine AD.pure T rfl rfl rfl ?_
 refine AD.q (FStep.app_ws T rfl rfl rfl rfl rfl rfl rfl (by decide) (by decide) rfl rfl (fun _ => rfl) (needT (hx4)) rfl) (by simp [namesIn]) (Nat.le_succ _) rfl ?_
 refine AD.pure T (d := .g [x.tick, x.caller, x.item, x.name, x.mark, .v (.bool x.review)]) rfl rfl rfl ?_
 refine AD.q (FStep.mk T (f := encChange) (l := [x]) rfl rfl rfl rfl rfl rfl rfl rfl rfl (fun _ => rfl) rfl rfl rfl rfl) (by simp [namesIn]) (Nat.le_succ _) rfl ?_
 refine AD.nil ?_
 refine AO.step rfl (app_rv_map T rfl 4 rfl rfl rfl rfl rfl (by decide) rfl rfl rfl rfl (fun _ => rfl) (needT (hx6)) rfl rfl) ?_
 refine AO.pu T ?_
 refine AO.nil ?_
 iterate 2 refine AW.seq ?_
 obtain ⟨x7, hx8, hH⟩ := bindE hH
 refine AW.region ?_
 iterate 2 refine AO.pu T ?_
 refine AO.val rfl rfl (callLV_ok rfl rfl rfl (es := [.s (List.map encItem l), .s (List.map encChange (h ++ [x]))]) ⟨.free rfl, (.rowR rfl (.map fun y => .vs rfl)), trivial⟩ (impl_isHistory_ok fuel _ _ _ (hx8)) (zfree_v _) rfl) ?_
 refine AO.pu T ?_
 refine AO.nil ?_
 refine AW.cond (b := (!x7)) rfl (fun hc => ?_) (fun hc => ?_)
 replace hH := condT hc hH
 refine AW.seq (AW.region ?_)
 iterate 2 refine AO.pu T ?_
 refine AO.nil (AW.ret ?_)
 cases someE hH
 exact retQ.i [] rfl (.t (expLG_cons (.c .nil) (expLG_cons (.c .v) (expLG_nil))))
 replace hH := condF hc hH
 refine AW.skip ?_
 refine AW.seq (AW.region ?_)
 iterate 3 refine AO.pu T ?_
 refine AO.nil (AW.ret ?_)
 cases someE hH
 exact retQ.i [4] rfl (.t (expLG_cons (.c (.rowR rfl)) (expLG_cons (.c .v) (expLG_nil))))

def impl_TakeBack_l1 (h : List Change) : Nat → Int → Option Int
  | 0, _ => none
  | k15 + 1, v21 =>
    (opt (decide (v21 ≥ 0)) default (getI h v21)).bind fun x23 =>
    cond (decide (v21 ≥ 0) && x23.review)
      (impl_TakeBack_l1 h k15 (w64 (v21 - 1)))
      (some v21)
def impl_TakeBack_p (fuel : Nat) (l : List Item) (h : List Change) (tick : Int) (caller : Int) : Option ((List Change) × Bool) :=
  (impl_isHistory_p fuel l h).bind fun x1 =>
  cond (!x1)
    (some ([], false))
    ((impl_TakeBack_l1 h fuel (w64 ((h.length : Int) - 1))).bind fun v12 =>
    cond (decide (v12 < 0))
      (some ([], false))
      ((sliceHi h v12).bind fun x25 =>
      (impl_stateOf_p l x25 100000).bind fun x27 =>
      (match x27.1 with
        | none =>
          (getI h v12).bind fun x29 =>
          none
        | some p24_0 =>
          (getI h v12).bind fun x29 =>
          (getI p24_0.items x29.item).bind fun x31 =>
          (getI x31.marks x29.name).bind fun x33 =>
          (impl_AddChange_p fuel l h (Change.mk tick caller x29.item x29.name x33 false)).bind fun x35 =>
          some (x35.1, x35.2))))
theorem impl_TakeBack_ok (fuel : Nat) (l : List Item) (h : List Change) (tick : Int) (caller : Int) (r : ((List Change) × Bool)) (hH : impl_TakeBack_p fuel l h tick caller = some r) : SpecR Try.prog 39 [.s (List.map encItem l), .s (List.map encChange h), tick, caller] (.t [.w 6 (r.1.map encChange), .v (.bool r.2)]) := by
 refine fn_ok T Try.func39 rfl (by decide) rfl ?_
 refine AW.seq (AW.region ?_)
 iterate 2 refine AO.pu T ?_
 refine AO.nil ?_
 iterate 2 refine AW.seq ?_
 obtain ⟨x1, hx2, hH⟩ := bindE hH
 refine AW.region ?_
 iterate 2 refine AO.pu T ?_
 refine AO.val rfl rfl (callV_ok rfl rfl rfl rfl (impl_isHistory_ok fuel _ _ _ (hx2)) rfl) ?_
 refine AO.pu T ?_
 refine AO.nil ?_
 refine AW.cond (b := (!x1)) rfl (fun hc => ?_) (fun hc => ?_)
 replace hH := condT hc hH
 refine AW.seq (AW.region ?_)
 iterate 2 refine AO.pu T ?_
 refine AO.nil (AW.ret ?_)
 cases someE hH
 exact retQ.i [] rfl (.t (expLG_cons (.c .nil) (expLG_cons (.c .v) (expLG_nil))))
 replace hH := condF hc hH
 refine AW.skip ?_
 refine AW.seq (AW.region ?_)
 refine AO.pu T ?_
 refine AO.val rfl rfl (len_map_ok T rfl rfl rfl) ?_
 refine AO.val rfl rfl (arw_ok rfl rfl rfl rfl) ?_
 refine AO.pu T ?_
 refine AO.nil ?_
 obtain ⟨o13, hH, hK14⟩ := bindE hH
 refine AW.seqJ (fun s : Int => (⟨[(0, .s (List.map encItem l)), (1, .s (List.map encChange h)), (2, tick), (3, caller), (10, s)], [], 71, []⟩ : St)) (fun s => s = o13) ?_ ?_
 refine AW.block ?_
 refine AW.loopS (fun s : Nat × Int => (⟨[(0, .s (List.map encItem l)), (1, .s (List.map encChange h)), (2, tick), (3, caller), (10, s.2)], [], 71, []⟩ : St)) (fun s => impl_TakeBack_l1 h s.1 s.2 = some o13) (fun s => s.1) (fuel, w64 ((h.length : Int) - 1)) hH ?_ ?_
 exact Le.ct 0 0
 rintro ⟨k15, v21⟩ hH
 replace hH : impl_TakeBack_l1 h k15 v21 = some o13 := hH
 try dsimp only
 rcases k15 with _ | k15
 cases (show none = some _ from hH)
 rw [impl_TakeBack_l1] at hH
 iterate 2 refine AW.seq ?_
 obtain ⟨x23, hx24, hH⟩ := bindE hH
 refine AW.region ?_
 iterate 3 refine AO.pu T ?_
 iterate 2 refine AO.pureG T [] rfl trivial rfl rfl ?_
 refine AO.guard [24, 25] rfl ⟨fun h => h, fun h => h, trivial⟩ (fun hg => ix_map_ok T rfl rfl rfl rfl rfl (optT hx24 hg) rfl) rfl ?_
 refine AO.pureG T [26] rfl ⟨fun h => h, trivial⟩ rfl rfl ?_
 refine AO.pureG T [27] rfl ⟨fun h => h, trivial⟩ rfl rfl ?_
 refine AO.val rfl rfl (pick_and rfl rfl rfl rfl) ?_
 refine AO.nil ?_
 refine AW.cond (b := (decide (v21 ≥ 0) && x23.review)) rfl (fun hc => ?_) (fun hc => ?_)
 replace hH := condT hc hH
 refine AW.skip ?_
 refine AW.block ?_
 refine AW.region ?_
 refine AO.pu T ?_
 refine AO.val rfl rfl (arw_ok rfl rfl rfl rfl) ?_
 refine AO.pu T ?_
 refine AO.nil ?_
 refine ⟨(k15, w64 (v21 - 1)), hH, Nat.lt_succ_self _, ?_⟩
 exact Le.ct 0 0
 replace hH := condF hc hH
 refine AW.exit ?_
 refine ⟨_, someE hH, ?_⟩
 exact Le.ct 0 0
 rintro v12 hs
 subst hs
 replace hH := hK14
 try dsimp only [flow, flowE] at hH
 try dsimp only
 iterate 2 refine AW.seq ?_
 refine AW.region ?_
 iterate 2 refine AO.pu T ?_
 refine AO.nil ?_
 refine AW.cond (b := decide (v12 < 0)) rfl (fun hc => ?_) (fun hc => ?_)
 replace hH := condT hc hH
 refine AW.seq (AW.region ?_)
 iterate 2 refine AO.pu T ?_
 refine AO.nil (AW.ret ?_)
 cases someE hH
 exact retQ.i [] rfl (.t (expLG_cons (.c .nil) (expLG_cons (.c .v) (expLG_nil))))
 replace hH := condF hc hH
 refine AW.skip ?_
 refine AW.seq ?_
 obtain ⟨x25, hx26, hH⟩ := bindE hH
 obtain ⟨x27, hx28, hH⟩ := bindE hH
 rcases hq24_0 : x27.1 with _ | p24_0
 rw [hq24_0] at hH
 try dsimp only at hH
 refine AW.region ?_
 iterate 3 refine AO.pu T ?_
 refine AO.val rfl rfl (slice_hi_map_ok T rfl rfl rfl rfl rfl (hx26) (fun _ => rfl)) ?_
 refine AO.step rfl (call_ok rfl 1 rfl rfl rfl ((by have q := impl_stateOf_ok _ _ _ _ (hx28); rw [hq24_0] at q; exact q)) rfl rfl rfl) ?_
 iterate 5 refine AO.pu T ?_
 refine AO.nil (AW.seq ?_)
 obtain ⟨x29, hx30, hH⟩ := bindE hH
 refine AW.region ?_
 iterate 2 refine AO.pu T ?_
 refine AO.val rfl rfl (ix_map_ok T rfl rfl rfl rfl rfl (hx30) rfl) ?_
 refine AO.pu T (d := .g [x29.tick, x29.caller, x29.item, x29.name, x29.mark, .v (.bool x29.review)]) ?_
 refine AO.step rfl (alloc_ok T rfl 1 rfl rfl rfl rfl rfl) ?_
 refine AO.se T [x29.tick, x29.caller, x29.item, x29.name, x29.mark, .v (.bool x29.review)] ?_
 refine AO.nil (AW.seq ?_)
 cases hH
 rw [hq24_0] at hH
 try dsimp only at hH
 refine AW.region ?_
 iterate 3 refine AO.pu T ?_
 refine AO.val rfl rfl (slice_hi_map_ok T rfl rfl rfl rfl rfl (hx26) (fun _ => rfl)) ?_
 refine AO.step rfl (call_ok rfl 1 rfl rfl rfl ((by have q := impl_stateOf_ok _ _ _ _ (hx28); rw [hq24_0] at q; exact q)) rfl rfl rfl) ?_
 iterate 5 refine AO.pu T ?_
 refine AO.nil (AW.seq ?_)
 obtain ⟨x29, hx30, hH⟩ := bindE hH
 refine AW.region ?_
 iterate 2 refine AO.pu T ?_
 refine AO.val rfl rfl (ix_map_ok T rfl rfl rfl rfl rfl (hx30) rfl) ?_
 refine AO.pu T (d := .g [x29.tick, x29.caller, x29.item, x29.name, x29.mark, .v (.bool x29.review)]) ?_
 refine AO.step rfl (alloc_ok T rfl 4 rfl rfl rfl rfl rfl) ?_
 refine AO.se T [x29.tick, x29.caller, x29.item, x29.name, x29.mark, .v (.bool x29.review)] ?_
 refine AO.nil (AW.seq ?_)
 obtain ⟨x31, hx32, hH⟩ := bindE hH
 obtain ⟨x33, hx34, hH⟩ := bindE hH
 obtain ⟨x35, hx36, hH⟩ := bindE hH
 refine AW.le (Le.openM 2 x29.item.toNat 1 5 rfl (getI_get (hx32)) rfl rfl) ?_
 refine AW.drawn 25 6 [] mix (by kernel_rfl) rfl ?_
 iterate 14 refine AD.pure T rfl rfl rfl ?_
 refine AD.val rfl rfl (ix_lent_ok T rfl rfl rfl rfl rfl rfl (hx32)) ?_
 refine AD.pure T rfl rfl rfl ?_
 refine AD.val rfl rfl (load_lent_ok T rfl rfl rfl rfl rfl) ?_
 iterate 2 refine AD.pure T rfl rfl rfl ?_
 refine AD.val rfl rfl (ix_row_ok T rfl rfl rfl rfl rfl rfl (hx34)) ?_
 refine AD.val rfl rfl (load_row_ok T rfl rfl rfl rfl (getI_get (hx34)) rfl rfl rfl) ?_
 refine AD.pure T (d := .g [tick, caller, x29.item, x29.name, x33, .v (.bool false)]) rfl rfl rfl ?_
 refine AD.q (FStep.call rfl rfl rfl rfl rfl (impl_AddChange_ok fuel _ _ _ _ (hx36)) rfl rfl) (impT_names _ _) (impT_le _ _) rfl ?_
 iterate 2 refine AD.pure T rfl rfl rfl ?_
 refine AD.nil ?_
 iterate 2 refine AO.pu T ?_
 refine AO.le (Le.closeM 2 x29.item.toNat 1 5 rfl rfl (getI_get (hx32)) rfl (u' := x31) rfl) ?_
 refine AO.nil ?_
 refine AW.le (Le.ct 0 0 (σ' := (⟨[(8, .R 6), (9, .v (.bool x35.2))], [(6, .row 6 (List.map encChange x35.1))], 71, []⟩ : St))) ?_
 refine AW.ret ?_
 cases someE hH
 exact retQ.i [6] rfl (.t (expLG_cons (.c (.rowR rfl)) (expLG_cons (.c .v) (expLG_nil))))

def laws_eqChange_p (a : Change) (b : Change) : Option Bool :=
  cond (a.tick != b.tick)
    (some false)
    (cond (a.caller != b.caller)
      (some false)
      (cond (a.item != b.item)
        (some false)
        (cond (a.name != b.name)
          (some false)
          (cond (a.mark != b.mark)
            (some false)
            (cond (!(a.review == b.review))
              (some false)
              (some true))))))
theorem laws_eqChange_ok (a : Change) (b : Change) (r : Bool) (hH : laws_eqChange_p a b = some r) : SpecR Try.prog 60 [.g (encChange a), .g (encChange b)] (.v (.bool r)) := by
 refine fn_ok T Try.func60 rfl (by decide) rfl ?_
 refine AW.seq (AW.region ?_)
 refine AO.step rfl (box_ok T rfl 1 rfl rfl rfl rfl) ?_
 refine AO.step rfl (box_ok T rfl 2 rfl rfl rfl rfl) ?_
 refine AO.pu T ?_
 refine AO.nil ?_
 iterate 2 refine AW.seq ?_
 refine AW.region ?_
 iterate 5 refine AO.pu T ?_
 refine AO.nil ?_
 refine AW.cond (b := (a.tick != b.tick)) rfl (fun hc => ?_) (fun hc => ?_)
 replace hH := condT hc hH
 refine AW.seq (AW.region ?_)
 refine AO.pu T ?_
 refine AO.nil (AW.ret ?_)
 cases someE hH
 exact retQ.i [] rfl (.c (.c .v))
 replace hH := condF hc hH
 refine AW.skip ?_
 iterate 2 refine AW.seq ?_
 refine AW.region ?_
 iterate 5 refine AO.pu T ?_
 refine AO.nil ?_
 refine AW.cond (b := (a.caller != b.caller)) rfl (fun hc => ?_) (fun hc => ?_)
 replace hH := condT hc hH
 refine AW.seq (AW.region ?_)
 refine AO.pu T ?_
 refine AO.nil (AW.ret ?_)
 cases someE hH
 exact retQ.i [] rfl (.c (.c .v))
 replace hH := condF hc hH
 refine AW.skip ?_
 iterate 2 refine AW.seq ?_
 refine AW.region ?_
 iterate 5 refine AO.pu T ?_
 refine AO.nil ?_
 refine AW.cond (b := (a.item != b.item)) rfl (fun hc => ?_) (fun hc => ?_)
 replace hH := condT hc hH
 refine AW.seq (AW.region ?_)
 refine AO.pu T ?_
 refine AO.nil (AW.ret ?_)
 cases someE hH
 exact retQ.i [] rfl (.c (.c .v))
 replace hH := condF hc hH
 refine AW.skip ?_
 iterate 2 refine AW.seq ?_
 refine AW.region ?_
 iterate 5 refine AO.pu T ?_
 refine AO.nil ?_
 refine AW.cond (b := (a.name != b.name)) rfl (fun hc => ?_) (fun hc => ?_)
 replace hH := condT hc hH
 refine AW.seq (AW.region ?_)
 refine AO.pu T ?_
 refine AO.nil ?_
 refine AW.le (Le.ct 0 0 (σ' := (⟨[(4, .v (.bool false))], [], 35, []⟩ : St))) ?_
 refine AW.ret ?_
 cases someE hH
 exact retQ.i [] rfl (.c (.c .v))
 replace hH := condF hc hH
 refine AW.skip ?_
 iterate 2 refine AW.seq ?_
 refine AW.region ?_
 iterate 5 refine AO.pu T ?_
 refine AO.nil ?_
 refine AW.le (Le.ct 0 0 (σ' := (⟨[(2, .p 1 0), (3, .p 2 0), (29, .v (.bool (a.mark != b.mark)))], [(1, .box [a.tick, a.caller, a.item, a.name, a.mark, .v (.bool a.review)]), (2, .box [b.tick, b.caller, b.item, b.name, b.mark, .v (.bool b.review)])], 35, []⟩ : St))) ?_
 refine AW.cond (b := (a.mark != b.mark)) rfl (fun hc => ?_) (fun hc => ?_)
 replace hH := condT hc hH
 refine AW.seq (AW.region ?_)
 refine AO.pu T ?_
 refine AO.nil (AW.ret ?_)
 cases someE hH
 exact retQ.i [] rfl (.c (.c .v))
 replace hH := condF hc hH
 refine AW.skip ?_
 iterate 2 refine AW.seq ?_
 refine AW.region ?_
 iterate 5 refine AO.pu T ?_
 refine AO.nil ?_
 refine AW.cond (b := (!(a.review == b.review))) rfl (fun hc => ?_) (fun hc => ?_)
 replace hH := condT hc hH
 refine AW.seq (AW.region ?_)
 refine AO.pu T ?_
 refine AO.nil (AW.ret ?_)
 cases someE hH
 exact retQ.i [] rfl (.c (.c .v))
 replace hH := condF hc hH
 refine AW.skip ?_
 refine AW.seq (AW.region ?_)
 refine AO.pu T ?_
 refine AO.nil (AW.ret ?_)
 cases someE hH
 exact retQ.i [] rfl (.c (.c .v))

def laws_eqChangeS_l1 (b : List Change) : List Change → Nat → Option Bool
  | [], k1 =>
    some true
  | y2 :: ys3, k1 =>
    (getI b (k1 : Int)).bind fun x16 =>
    (laws_eqChange_p y2 x16).bind fun x18 =>
    cond (!x18)
      (some false)
      (laws_eqChangeS_l1 b ys3 (k1 + 1))
def laws_eqChangeS_p (a : List Change) (b : List Change) : Option Bool :=
  cond ((a.length : Int) != (b.length : Int))
    (some false)
    (laws_eqChangeS_l1 b a 0)
theorem laws_eqChangeS_ok (a : List Change) (b : List Change) (r : Bool) (hH : laws_eqChangeS_p a b = some r) : SpecR Try.prog 19 [.s (List.map encChange a), .s (List.map encChange b)] (.v (.bool r)) := by
 refine fn_ok T Try.func19 rfl (by decide) rfl ?_
 refine AW.seq (AW.region ?_)
 refine AO.pu T ?_
 refine AO.nil ?_
 iterate 2 refine AW.seq ?_
 refine AW.region ?_
 refine AO.pu T ?_
 refine AO.val rfl rfl (len_map_ok T rfl rfl rfl) ?_
 refine AO.pu T ?_
 refine AO.val rfl rfl (len_map_ok T rfl rfl rfl) ?_
 refine AO.pu T ?_
 refine AO.nil ?_
 refine AW.cond (b := ((a.length : Int) != (b.length : Int))) rfl (fun hc => ?_) (fun hc => ?_)
 replace hH := condT hc hH
 refine AW.seq (AW.region ?_)
 refine AO.pu T ?_
 refine AO.nil (AW.ret ?_)
 cases someE hH
 exact retQ.i [] rfl (.c (.c .v))
 replace hH := condF hc hH
 refine AW.skip ?_
 iterate 2 refine AW.seq ?_
 refine AW.region ?_
 refine AO.pu T ?_
 refine AO.nil ?_
 refine AW.block ?_
 refine AW.loopS (fun s : Nat => (⟨[(0, .s (List.map encChange a)), (1, .s (List.map encChange b)), (5, (s : Int))], [], 27, []⟩ : St)) (fun s => s ≤ a.length ∧ laws_eqChangeS_l1 b (a.drop s) s = some r) (fun s => a.length - s) 0 ⟨Nat.zero_le _, hH⟩ ?_ ?_
 exact Le.ct 0 0
 rintro k1 ⟨hk, hH⟩
 replace hH : laws_eqChangeS_l1 b (a.drop k1) k1 = some r := hH
 try dsimp only
 refine AW.boundM (t := 0) (l := a) rfl (fun hb5 => ?_)
 rcases hd4 : a.drop k1 with _ | ⟨y2, ys3⟩
 rw [hd4, laws_eqChangeS_l1] at hH
 have hlt6 := drop_ge hd4
 iterate 2 refine AW.seq ?_
 refine AW.region ?_
 iterate 2 refine AO.pu T ?_
 refine AO.val rfl rfl (len_map_ok T rfl rfl rfl) ?_
 refine AO.pu T ?_
 refine AO.nil ?_
 refine AW.condF' (b := decide ((k1 : Int) < (a.length : Int))) rfl (rngF hlt6) ?_
 refine AW.exit ?_
 refine AW.seq (AW.region ?_)
 refine AO.pu T ?_
 refine AO.nil (AW.ret ?_)
 cases someE hH
 exact retQ.i [] rfl (.c (.c .v))
 rw [hd4, laws_eqChangeS_l1] at hH
 have hlt6 := drop_lt hd4
 iterate 2 refine AW.seq ?_
 refine AW.region ?_
 iterate 2 refine AO.pu T ?_
 refine AO.val rfl rfl (len_map_ok T rfl rfl rfl) ?_
 refine AO.pu T ?_
 refine AO.nil ?_
 refine AW.condT' (b := decide ((k1 : Int) < (a.length : Int))) rfl (rngT hlt6) ?_
 refine AW.skip ?_
 refine AW.seq ?_
 refine AW.block ?_
 refine AW.seq ?_
 obtain ⟨x16, hx17, hH⟩ := bindE hH
 obtain ⟨x18, hx19, hH⟩ := bindE hH
 refine AW.drawn 8 1 [] mix (by kernel_rfl) rfl ?_
 iterate 2 refine AD.pure T rfl rfl rfl ?_
 refine AD.val rfl rfl (ix_map_ok T rfl rfl rfl rfl rfl (getI_drop hd4) rfl) ?_
 refine AD.pure T (d := .g [y2.tick, y2.caller, y2.item, y2.name, y2.mark, .v (.bool y2.review)]) rfl rfl rfl ?_
 iterate 2 refine AD.pure T rfl rfl rfl ?_
 refine AD.val rfl rfl (ix_map_ok T rfl rfl rfl rfl rfl (hx17) rfl) ?_
 refine AD.pure T (d := .g [x16.tick, x16.caller, x16.item, x16.name, x16.mark, .v (.bool x16.review)]) rfl rfl rfl ?_
 refine AD.nil ?_
 refine AO.val rfl rfl (callV_ok rfl rfl rfl rfl (laws_eqChange_ok _ _ _ (hx19)) rfl) ?_
 refine AO.pu T ?_
 refine AO.nil ?_
 refine AW.cond (b := (!x18)) rfl (fun hc => ?_) (fun hc => ?_)
 replace hH := condT hc hH
 refine AW.seq (AW.region ?_)
 refine AO.pu T ?_
 refine AO.nil (AW.ret ?_)
 cases someE hH
 exact retQ.i [] rfl (.c (.c .v))
 replace hH := condF hc hH
 refine AW.skip ?_
 refine AW.region ?_
 refine AO.pu T ?_
 refine AO.val rfl rfl (ar_ok rfl rfl rfl rfl (inI_succ hlt6 hb5)) ?_
 refine AO.pu T ?_
 refine AO.nil ?_
 refine ⟨k1 + 1, ⟨Nat.succ_le_of_lt hlt6, (by rw [drop_succ_of hd4]; exact hH)⟩, (by have := hlt6; dsimp only; omega), ?_⟩
 exact Le.ct 0 0

def laws_eqStringS_l1 (b : List ByteArray) : List ByteArray → Nat → Option Bool
  | [], k1 =>
    some true
  | y2 :: ys3, k1 =>
    (getI b (k1 : Int)).bind fun x12 =>
    cond (!decide (y2 = x12))
      (some false)
      (laws_eqStringS_l1 b ys3 (k1 + 1))
def laws_eqStringS_p (a : List ByteArray) (b : List ByteArray) : Option Bool :=
  cond ((a.length : Int) != (b.length : Int))
    (some false)
    (laws_eqStringS_l1 b a 0)
theorem laws_eqStringS_ok (a : List ByteArray) (b : List ByteArray) (r : Bool) (hH : laws_eqStringS_p a b = some r) : SpecR Try.prog 89 [.s (List.map encStr a), .s (List.map encStr b)] (.v (.bool r)) := by
 refine fn_ok T Try.func89 rfl (by decide) rfl ?_
 refine AW.seq (AW.region ?_)
 refine AO.pu T ?_
 refine AO.nil ?_
 iterate 2 refine AW.seq ?_
 refine AW.region ?_
 refine AO.pu T ?_
 refine AO.val rfl rfl (len_map_ok T rfl rfl rfl) ?_
 refine AO.pu T ?_
 refine AO.val rfl rfl (len_map_ok T rfl rfl rfl) ?_
 refine AO.pu T ?_
 refine AO.nil ?_
 refine AW.cond (b := ((a.length : Int) != (b.length : Int))) rfl (fun hc => ?_) (fun hc => ?_)
 replace hH := condT hc hH
 refine AW.seq (AW.region ?_)
 refine AO.pu T ?_
 refine AO.nil (AW.ret ?_)
 cases someE hH
 exact retQ.i [] rfl (.c (.c .v))
 replace hH := condF hc hH
 refine AW.skip ?_
 iterate 2 refine AW.seq ?_
 refine AW.region ?_
 refine AO.pu T ?_
 refine AO.nil ?_
 refine AW.block ?_
 refine AW.loopS (fun s : Nat => (⟨[(0, .s (List.map encStr a)), (1, .s (List.map encStr b)), (5, (s : Int))], [], 26, []⟩ : St)) (fun s => s ≤ a.length ∧ laws_eqStringS_l1 b (a.drop s) s = some r) (fun s => a.length - s) 0 ⟨Nat.zero_le _, hH⟩ ?_ ?_
 exact Le.ct 0 0
 rintro k1 ⟨hk, hH⟩
 replace hH : laws_eqStringS_l1 b (a.drop k1) k1 = some r := hH
 try dsimp only
 refine AW.boundM (t := 0) (l := a) rfl (fun hb5 => ?_)
 rcases hd4 : a.drop k1 with _ | ⟨y2, ys3⟩
 rw [hd4, laws_eqStringS_l1] at hH
 have hlt6 := drop_ge hd4
 iterate 2 refine AW.seq ?_
 refine AW.region ?_
 iterate 2 refine AO.pu T ?_
 refine AO.val rfl rfl (len_map_ok T rfl rfl rfl) ?_
 refine AO.pu T ?_
 refine AO.nil ?_
 refine AW.condF' (b := decide ((k1 : Int) < (a.length : Int))) rfl (rngF hlt6) ?_
 refine AW.exit ?_
 refine AW.seq (AW.region ?_)
 refine AO.pu T ?_
 refine AO.nil (AW.ret ?_)
 cases someE hH
 exact retQ.i [] rfl (.c (.c .v))
 rw [hd4, laws_eqStringS_l1] at hH
 have hlt6 := drop_lt hd4
 iterate 2 refine AW.seq ?_
 refine AW.region ?_
 iterate 2 refine AO.pu T ?_
 refine AO.val rfl rfl (len_map_ok T rfl rfl rfl) ?_
 refine AO.pu T ?_
 refine AO.nil ?_
 refine AW.condT' (b := decide ((k1 : Int) < (a.length : Int))) rfl (rngT hlt6) ?_
 refine AW.skip ?_
 refine AW.seq ?_
 refine AW.block ?_
 refine AW.seq ?_
 obtain ⟨x12, hx13, hH⟩ := bindE hH
 refine AW.drawn 8 1 [] mix (by kernel_rfl) rfl ?_
 iterate 2 refine AD.pure T rfl rfl rfl ?_
 refine AD.val rfl rfl (ix_map_ok T rfl rfl rfl rfl rfl (getI_drop hd4) rfl) ?_
 iterate 3 refine AD.pure T rfl rfl rfl ?_
 refine AD.val rfl rfl (ix_map_ok T rfl rfl rfl rfl rfl (hx13) rfl) ?_
 refine AD.pure T rfl rfl rfl ?_
 refine AD.nil ?_
 refine AO.pu T ?_
 refine AO.nil ?_
 refine AW.cond (b := (!decide (y2 = x12))) rfl (fun hc => ?_) (fun hc => ?_)
 replace hH := condT hc hH
 refine AW.seq (AW.region ?_)
 refine AO.pu T ?_
 refine AO.nil (AW.ret ?_)
 cases someE hH
 exact retQ.i [] rfl (.c (.c .v))
 replace hH := condF hc hH
 refine AW.skip ?_
 refine AW.region ?_
 refine AO.pu T ?_
 refine AO.val rfl rfl (ar_ok rfl rfl rfl rfl (inI_succ hlt6 hb5)) ?_
 refine AO.pu T ?_
 refine AO.nil ?_
 refine ⟨k1 + 1, ⟨Nat.succ_le_of_lt hlt6, (by rw [drop_succ_of hd4]; exact hH)⟩, (by have := hlt6; dsimp only; omega), ?_⟩
 exact Le.ct 0 0

def laws_eqIntS_l1 (b : List Int) : List Int → Nat → Option Bool
  | [], k1 =>
    some true
  | y2 :: ys3, k1 =>
    (getI b (k1 : Int)).bind fun x12 =>
    cond (y2 != x12)
      (some false)
      (laws_eqIntS_l1 b ys3 (k1 + 1))
def laws_eqIntS_p (a : List Int) (b : List Int) : Option Bool :=
  cond ((a.length : Int) != (b.length : Int))
    (some false)
    (laws_eqIntS_l1 b a 0)
theorem laws_eqIntS_ok (a : List Int) (b : List Int) (r : Bool) (hH : laws_eqIntS_p a b = some r) : SpecR Try.prog 42 [.s (List.map encInt a), .s (List.map encInt b)] (.v (.bool r)) := by
 refine fn_ok T Try.func42 rfl (by decide) rfl ?_
 refine AW.seq (AW.region ?_)
 refine AO.pu T ?_
 refine AO.nil ?_
 iterate 2 refine AW.seq ?_
 refine AW.region ?_
 refine AO.pu T ?_
 refine AO.val rfl rfl (len_map_ok T rfl rfl rfl) ?_
 refine AO.pu T ?_
 refine AO.val rfl rfl (len_map_ok T rfl rfl rfl) ?_
 refine AO.pu T ?_
 refine AO.nil ?_
 refine AW.cond (b := ((a.length : Int) != (b.length : Int))) rfl (fun hc => ?_) (fun hc => ?_)
 replace hH := condT hc hH
 refine AW.seq (AW.region ?_)
 refine AO.pu T ?_
 refine AO.nil (AW.ret ?_)
 cases someE hH
 exact retQ.i [] rfl (.c (.c .v))
 replace hH := condF hc hH
 refine AW.skip ?_
 iterate 2 refine AW.seq ?_
 refine AW.region ?_
 refine AO.pu T ?_
 refine AO.nil ?_
 refine AW.block ?_
 refine AW.loopS (fun s : Nat => (⟨[(0, .s (List.map encInt a)), (1, .s (List.map encInt b)), (5, (s : Int))], [], 26, []⟩ : St)) (fun s => s ≤ a.length ∧ laws_eqIntS_l1 b (a.drop s) s = some r) (fun s => a.length - s) 0 ⟨Nat.zero_le _, hH⟩ ?_ ?_
 exact Le.ct 0 0
 rintro k1 ⟨hk, hH⟩
 replace hH : laws_eqIntS_l1 b (a.drop k1) k1 = some r := hH
 try dsimp only
 refine AW.boundM (t := 0) (l := a) rfl (fun hb5 => ?_)
 rcases hd4 : a.drop k1 with _ | ⟨y2, ys3⟩
 rw [hd4, laws_eqIntS_l1] at hH
 have hlt6 := drop_ge hd4
 iterate 2 refine AW.seq ?_
 refine AW.region ?_
 iterate 2 refine AO.pu T ?_
 refine AO.val rfl rfl (len_map_ok T rfl rfl rfl) ?_
 refine AO.pu T ?_
 refine AO.nil ?_
 refine AW.condF' (b := decide ((k1 : Int) < (a.length : Int))) rfl (rngF hlt6) ?_
 refine AW.exit ?_
 refine AW.seq (AW.region ?_)
 refine AO.pu T ?_
 refine AO.nil (AW.ret ?_)
 cases someE hH
 exact retQ.i [] rfl (.c (.c .v))
 rw [hd4, laws_eqIntS_l1] at hH
 have hlt6 := drop_lt hd4
 iterate 2 refine AW.seq ?_
 refine AW.region ?_
 iterate 2 refine AO.pu T ?_
 refine AO.val rfl rfl (len_map_ok T rfl rfl rfl) ?_
 refine AO.pu T ?_
 refine AO.nil ?_
 refine AW.condT' (b := decide ((k1 : Int) < (a.length : Int))) rfl (rngT hlt6) ?_
 refine AW.skip ?_
 refine AW.seq ?_
 refine AW.block ?_
 refine AW.seq ?_
 obtain ⟨x12, hx13, hH⟩ := bindE hH
 refine AW.drawn 8 1 [] mix (by kernel_rfl) rfl ?_
 iterate 2 refine AD.pure T rfl rfl rfl ?_
 refine AD.val rfl rfl (ix_map_ok T rfl rfl rfl rfl rfl (getI_drop hd4) rfl) ?_
 iterate 3 refine AD.pure T rfl rfl rfl ?_
 refine AD.val rfl rfl (ix_map_ok T rfl rfl rfl rfl rfl (hx13) rfl) ?_
 refine AD.pure T rfl rfl rfl ?_
 refine AD.nil ?_
 refine AO.pu T ?_
 refine AO.nil ?_
 refine AW.cond (b := (y2 != x12)) rfl (fun hc => ?_) (fun hc => ?_)
 replace hH := condT hc hH
 refine AW.seq (AW.region ?_)
 refine AO.pu T ?_
 refine AO.nil (AW.ret ?_)
 cases someE hH
 exact retQ.i [] rfl (.c (.c .v))
 replace hH := condF hc hH
 refine AW.skip ?_
 refine AW.region ?_
 refine AO.pu T ?_
 refine AO.val rfl rfl (ar_ok rfl rfl rfl rfl (inI_succ hlt6 hb5)) ?_
 refine AO.pu T ?_
 refine AO.nil ?_
 refine ⟨k1 + 1, ⟨Nat.succ_le_of_lt hlt6, (by rw [drop_succ_of hd4]; exact hH)⟩, (by have := hlt6; dsimp only; omega), ?_⟩
 exact Le.ct 0 0

def laws_eqItem_p (a : Item) (b : Item) : Option Bool :=
  (laws_eqStringS_p a.names b.names).bind fun x1 =>
  cond (!x1)
    (some false)
    ((laws_eqIntS_p a.marks b.marks).bind fun x3 =>
    cond (!x3)
      (some false)
      (cond (!(a.late == b.late))
        (some false)
        (some true)))
theorem laws_eqItem_ok (a : Item) (b : Item) (r : Bool) (hH : laws_eqItem_p a b = some r) : SpecR Try.prog 59 [.g (encItem a), .g (encItem b)] (.v (.bool r)) := by
 refine fn_ok T Try.func59 rfl (by decide) rfl ?_
 refine AW.seq (AW.region ?_)
 refine AO.step rfl (box_ok T rfl 1 rfl rfl rfl rfl) ?_
 refine AO.step rfl (box_ok T rfl 2 rfl rfl rfl rfl) ?_
 refine AO.pu T ?_
 refine AO.nil ?_
 iterate 2 refine AW.seq ?_
 obtain ⟨x1, hx2, hH⟩ := bindE hH
 refine AW.region ?_
 iterate 4 refine AO.pu T ?_
 refine AO.val rfl rfl (callV_ok rfl rfl rfl rfl (laws_eqStringS_ok _ _ _ (hx2)) rfl) ?_
 refine AO.pu T ?_
 refine AO.nil ?_
 refine AW.cond (b := (!x1)) rfl (fun hc => ?_) (fun hc => ?_)
 replace hH := condT hc hH
 refine AW.seq (AW.region ?_)
 refine AO.pu T ?_
 refine AO.nil (AW.ret ?_)
 cases someE hH
 exact retQ.i [] rfl (.c (.c .v))
 replace hH := condF hc hH
 refine AW.skip ?_
 iterate 2 refine AW.seq ?_
 obtain ⟨x3, hx4, hH⟩ := bindE hH
 refine AW.region ?_
 iterate 4 refine AO.pu T ?_
 refine AO.val rfl rfl (callV_ok rfl rfl rfl rfl (laws_eqIntS_ok _ _ _ (hx4)) rfl) ?_
 refine AO.pu T ?_
 refine AO.nil ?_
 refine AW.cond (b := (!x3)) rfl (fun hc => ?_) (fun hc => ?_)
 replace hH := condT hc hH
 refine AW.seq (AW.region ?_)
 refine AO.pu T ?_
 refine AO.nil (AW.ret ?_)
 cases someE hH
 exact retQ.i [] rfl (.c (.c .v))
 replace hH := condF hc hH
 refine AW.skip ?_
 iterate 2 refine AW.seq ?_
 refine AW.region ?_
 iterate 5 refine AO.pu T ?_
 refine AO.nil ?_
 refine AW.cond (b := (!(a.late == b.late))) rfl (fun hc => ?_) (fun hc => ?_)
 replace hH := condT hc hH
 refine AW.seq (AW.region ?_)
 refine AO.pu T ?_
 refine AO.nil (AW.ret ?_)
 cases someE hH
 exact retQ.i [] rfl (.c (.c .v))
 replace hH := condF hc hH
 refine AW.skip ?_
 refine AW.seq (AW.region ?_)
 refine AO.pu T ?_
 refine AO.nil (AW.ret ?_)
 cases someE hH
 exact retQ.i [] rfl (.c (.c .v))

def laws_eqItemS_l1 (b : List Item) : List Item → Nat → Option Bool
  | [], k1 =>
    some true
  | y2 :: ys3, k1 =>
    (getI b (k1 : Int)).bind fun x16 =>
    (laws_eqItem_p y2 x16).bind fun x18 =>
    cond (!x18)
      (some false)
      (laws_eqItemS_l1 b ys3 (k1 + 1))
def laws_eqItemS_p (a : List Item) (b : List Item) : Option Bool :=
  cond ((a.length : Int) != (b.length : Int))
    (some false)
    (laws_eqItemS_l1 b a 0)
theorem laws_eqItemS_ok (a : List Item) (b : List Item) (r : Bool) (hH : laws_eqItemS_p a b = some r) : SpecR Try.prog 18 [.s (List.map encItem a), .s (List.map encItem b)] (.v (.bool r)) := by
 refine fn_ok T Try.func18 rfl (by decide) rfl ?_
 refine AW.seq (AW.region ?_)
 refine AO.pu T ?_
 refine AO.nil ?_
 iterate 2 refine AW.seq ?_
 refine AW.region ?_
 refine AO.pu T ?_
 refine AO.val rfl rfl (len_map_ok T rfl rfl rfl) ?_
 refine AO.pu T ?_
 refine AO.val rfl rfl (len_map_ok T rfl rfl rfl) ?_
 refine AO.pu T ?_
 refine AO.nil ?_
 refine AW.cond (b := ((a.length : Int) != (b.length : Int))) rfl (fun hc => ?_) (fun hc => ?_)
 replace hH := condT hc hH
 refine AW.seq (AW.region ?_)
 refine AO.pu T ?_
 refine AO.nil (AW.ret ?_)
 cases someE hH
 exact retQ.i [] rfl (.c (.c .v))
 replace hH := condF hc hH
 refine AW.skip ?_
 iterate 2 refine AW.seq ?_
 refine AW.region ?_
 refine AO.pu T ?_
 refine AO.nil ?_
 refine AW.block ?_
 refine AW.loopS (fun s : Nat => (⟨[(0, .s (List.map encItem a)), (1, .s (List.map encItem b)), (5, (s : Int))], [], 27, []⟩ : St)) (fun s => s ≤ a.length ∧ laws_eqItemS_l1 b (a.drop s) s = some r) (fun s => a.length - s) 0 ⟨Nat.zero_le _, hH⟩ ?_ ?_
 exact Le.ct 0 0
 rintro k1 ⟨hk, hH⟩
 replace hH : laws_eqItemS_l1 b (a.drop k1) k1 = some r := hH
 try dsimp only
 refine AW.boundM (t := 0) (l := a) rfl (fun hb5 => ?_)
 rcases hd4 : a.drop k1 with _ | ⟨y2, ys3⟩
 rw [hd4, laws_eqItemS_l1] at hH
 have hlt6 := drop_ge hd4
 iterate 2 refine AW.seq ?_
 refine AW.region ?_
 iterate 2 refine AO.pu T ?_
 refine AO.val rfl rfl (len_map_ok T rfl rfl rfl) ?_
 refine AO.pu T ?_
 refine AO.nil ?_
 refine AW.condF' (b := decide ((k1 : Int) < (a.length : Int))) rfl (rngF hlt6) ?_
 refine AW.exit ?_
 refine AW.seq (AW.region ?_)
 refine AO.pu T ?_
 refine AO.nil (AW.ret ?_)
 cases someE hH
 exact retQ.i [] rfl (.c (.c .v))
 rw [hd4, laws_eqItemS_l1] at hH
 have hlt6 := drop_lt hd4
 iterate 2 refine AW.seq ?_
 refine AW.region ?_
 iterate 2 refine AO.pu T ?_
 refine AO.val rfl rfl (len_map_ok T rfl rfl rfl) ?_
 refine AO.pu T ?_
 refine AO.nil ?_
 refine AW.condT' (b := decide ((k1 : Int) < (a.length : Int))) rfl (rngT hlt6) ?_
 refine AW.skip ?_
 refine AW.seq ?_
 refine AW.block ?_
 refine AW.seq ?_
 obtain ⟨x16, hx17, hH⟩ := bindE hH
 obtain ⟨x18, hx19, hH⟩ := bindE hH
 refine AW.drawn 8 1 [] mix (by kernel_rfl) rfl ?_
 iterate 2 refine AD.pure T rfl rfl rfl ?_
 refine AD.val rfl rfl (ix_map_ok T rfl rfl rfl rfl rfl (getI_drop hd4) rfl) ?_
 refine AD.pure T (d := .g [.s (List.map encStr y2.names), .s (List.map encInt y2.marks), .v (.bool y2.late)]) rfl rfl rfl ?_
 iterate 2 refine AD.pure T rfl rfl rfl ?_
 refine AD.val rfl rfl (ix_map_ok T rfl rfl rfl rfl rfl (hx17) rfl) ?_
 refine AD.pure T (d := .g [.s (List.map encStr x16.names), .s (List.map encInt x16.marks), .v (.bool x16.late)]) rfl rfl rfl ?_
 refine AD.nil ?_
 refine AO.val rfl rfl (callV_ok rfl rfl rfl rfl (laws_eqItem_ok _ _ _ (hx19)) rfl) ?_
 refine AO.pu T ?_
 refine AO.nil ?_
 refine AW.cond (b := (!x18)) rfl (fun hc => ?_) (fun hc => ?_)
 replace hH := condT hc hH
 refine AW.seq (AW.region ?_)
 refine AO.pu T ?_
 refine AO.nil (AW.ret ?_)
 cases someE hH
 exact retQ.i [] rfl (.c (.c .v))
 replace hH := condF hc hH
 refine AW.skip ?_
 refine AW.region ?_
 refine AO.pu T ?_
 refine AO.val rfl rfl (ar_ok rfl rfl rfl rfl (inI_succ hlt6 hb5)) ?_
 refine AO.pu T ?_
 refine AO.nil ?_
 refine ⟨k1 + 1, ⟨Nat.succ_le_of_lt hlt6, (by rw [drop_succ_of hd4]; exact hH)⟩, (by have := hlt6; dsimp only; omega), ?_⟩
 exact Le.ct 0 0

def laws_markText_l1 : Nat → Int → ByteArray → Option ByteArray
  | 0, _, _ => none
  | k21 + 1, v32, v33 =>
    cond (decide (v32 > 0))
      ((need (10 != 0)).bind fun u35 =>
      (need (Nat.ble ((strOfNums [IntKind.wrap .u8 (w64 (48 + (v32.tmod 10)))]).size + v33.size) maxN)).bind fun u37 =>
      laws_markText_l1 k21 (w64 (v32.tdiv 10)) ((strOfNums [IntKind.wrap .u8 (w64 (48 + (v32.tmod 10)))]) ++ v33))
      (some v33)
def laws_markText_p (fuel : Nat) (k : Int) : Option ByteArray :=
  cond (decide (k ≤ 0))
    (some (⟨#[109, 48]⟩ : ByteArray))
    ((laws_markText_l1 fuel k (⟨#[]⟩ : ByteArray)).bind fun v18 =>
    (need (Nat.ble ((⟨#[109]⟩ : ByteArray).size + v18.size) maxN)).bind fun u39 =>
    some ((⟨#[109]⟩ : ByteArray) ++ v18))
theorem laws_markText_ok (fuel : Nat) (k : Int) (r : ByteArray) (hH : laws_markText_p fuel k = some r) : SpecR Try.prog 95 [k] (.v (.string r)) := by
 refine fn_ok T Try.func95 rfl (by decide) rfl ?_
 refine AW.seq (AW.region ?_)
 refine AO.pu T ?_
 refine AO.nil ?_
 iterate 2 refine AW.seq ?_
 refine AW.region ?_
 iterate 2 refine AO.pu T ?_
 refine AO.nil ?_
 refine AW.cond (b := decide (k ≤ 0)) rfl (fun hc => ?_) (fun hc => ?_)
 replace hH := condT hc hH
 refine AW.seq (AW.region ?_)
 refine AO.pu T ?_
 refine AO.nil (AW.ret ?_)
 cases someE hH
 exact retQ.i [] rfl (.c (.c .v))
 replace hH := condF hc hH
 refine AW.skip ?_
 refine AW.seq (AW.region ?_)
 refine AO.pu T ?_
 refine AO.nil ?_
 obtain ⟨o19, hH, hK20⟩ := bindE hH
 refine AW.seqJ (fun s : ByteArray => (⟨[(3, .v (.string s))], [], 20, []⟩ : St)) (fun s => s = o19) ?_ ?_
 refine AW.block ?_
 refine AW.loopS (fun s : Nat × Int × ByteArray => (⟨[(0, s.2.1), (3, .v (.string s.2.2))], [], 20, []⟩ : St)) (fun s => laws_markText_l1 s.1 s.2.1 s.2.2 = some o19) (fun s => s.1) (fuel, k, (⟨#[]⟩ : ByteArray)) hH ?_ ?_
 exact Le.ct 0 0
 rintro ⟨k21, v32, v33⟩ hH
 replace hH : laws_markText_l1 k21 v32 v33 = some o19 := hH
 try dsimp only
 rcases k21 with _ | k21
 cases (show none = some _ from hH)
 rw [laws_markText_l1] at hH
 iterate 2 refine AW.seq ?_
 refine AW.region ?_
 iterate 2 refine AO.pu T ?_
 refine AO.nil ?_
 refine AW.cond (b := decide (v32 > 0)) rfl (fun hc => ?_) (fun hc => ?_)
 replace hH := condT hc hH
 refine AW.skip ?_
 refine AW.block ?_
 refine AW.seq ?_
 obtain ⟨u35, hx36, hH⟩ := bindE hH
 obtain ⟨u37, hx38, hH⟩ := bindE hH
 refine AW.region ?_
 refine AO.pu T ?_
 refine AO.val rfl rfl (rem_ok rfl rfl rfl (neZ (needT (hx36)))) ?_
 refine AO.val rfl rfl (arw_ok rfl rfl rfl rfl) ?_
 refine AO.val rfl rfl (convw_ok T rfl rfl rfl rfl) ?_
 refine AO.step rfl (mk_map_ok T rfl 6 rfl rfl rfl rfl rfl (f := encInt_u8) (l := [IntKind.wrap .u8 (w64 (48 + (v32.tmod 10)))]) rfl rfl (fun _ => rfl) rfl rfl rfl rfl rfl) ?_
 refine AO.val rfl rfl (conv_bytes_ok T rfl rfl rfl rfl rfl rfl (fun _ => rfl) rfl) ?_
 refine AO.pu T ?_
 refine AO.val rfl rfl (concat_ok rfl rfl rfl (Nat.le_of_ble_eq_true (needT (hx38)))) ?_
 refine AO.pu T ?_
 refine AO.nil ?_
 refine AW.region ?_
 refine AO.pu T ?_
 refine AO.val rfl rfl (quow_ok rfl rfl rfl (neZ (needT (hx36)))) ?_
 refine AO.pu T ?_
 refine AO.nil ?_
 refine ⟨(k21, w64 (v32.tdiv 10), ((strOfNums [IntKind.wrap .u8 (w64 (48 + (v32.tmod 10)))]) ++ v33)), hH, Nat.lt_succ_self _, ?_⟩
 exact Le.ct 0 0
 replace hH := condF hc hH
 refine AW.exit ?_
 refine ⟨_, someE hH, ?_⟩
 exact Le.ct 0 0
 rintro v18 hs
 subst hs
 replace hH := hK20
 try dsimp only [flow, flowE] at hH
 try dsimp only
 refine AW.seq ?_
 obtain ⟨u39, hx40, hH⟩ := bindE hH
 refine AW.region ?_
 refine AO.pu T ?_
 refine AO.val rfl rfl (concat_ok rfl rfl rfl (Nat.le_of_ble_eq_true (needT (hx40)))) ?_
 refine AO.pu T ?_
 refine AO.nil (AW.ret ?_)
 cases someE hH
 exact retQ.i [] rfl (.c (.c .v))

def laws_markStringS_l1 (fuel : Nat) : Nat → List ByteArray → Int → Int → Option (((List ByteArray) × Int))
  | 0, _, _, _ => none
  | k1 + 1, v13, v14, v15 =>
    cond (decide (v15 < (v13.length : Int)))
      ((laws_markText_p fuel v14).bind fun x17 =>
      (getI v13 v15).bind fun x19 =>
      laws_markStringS_l1 fuel k1 (v13.set v15.toNat x17) (w64 (v14 + 1)) (w64 (v15 + 1)))
      (some (v13, v14))
def laws_markStringS_p (fuel : Nat) (a : List ByteArray) (k : Int) : Option ((List ByteArray) × Int) :=
  laws_markStringS_l1 fuel fuel a k 0
theorem laws_markStringS_ok (fuel : Nat) (a : List ByteArray) (k : Int) (r : ((List ByteArray) × Int)) (hH : laws_markStringS_p fuel a k = some r) : SpecM Try.prog 68 [.w 1 (a.map encStr), k] [.w 1 (r.1.map encStr), .u] (.v (.int .i64 r.2)) := by
 refine fn_okM T Try.func68 rfl (by decide) rfl rfl ?_
 intro L
 show AW _ _ _ (⟨[(0, .R 1), (1, k)], [(1, .row 1 (List.map encStr a))], 20, [(1, L 1)]⟩ : St)
 refine AW.seq (AW.region ?_)
 refine AO.pu T ?_
 refine AO.nil ?_
 iterate 2 refine AW.seq ?_
 refine AW.region ?_
 refine AO.pu T ?_
 refine AO.nil ?_
 refine AW.block ?_
 refine AW.loopS (fun s : Nat × (List ByteArray) × Int × Int => (⟨[(0, .R 1), (1, s.2.2.1), (5, s.2.2.2)], [(1, .row 1 (List.map encStr s.2.1))], 20, [(1, L 1)]⟩ : St)) (fun s => laws_markStringS_l1 fuel s.1 s.2.1 s.2.2.1 s.2.2.2 = some r) (fun s => s.1) (fuel, a, k, 0) hH ?_ ?_
 exact Le.ct 0 0 (hpin := ⟨⟨rfl, rfl⟩, trivial⟩)
 rintro ⟨k1, v13, v14, v15⟩ hH
 replace hH : laws_markStringS_l1 fuel k1 v13 v14 v15 = some r := hH
 try dsimp only
 rcases k1 with _ | k1
 cases (show none = some _ from hH)
 rw [laws_markStringS_l1] at hH
 iterate 2 refine AW.seq ?_
 refine AW.region ?_
 iterate 2 refine AO.pu T ?_
 refine AO.val rfl rfl (len_row_ok T rfl rfl rfl rfl) ?_
 refine AO.pu T ?_
 refine AO.nil ?_
 refine AW.cond (b := decide (v15 < (v13.length : Int))) rfl (fun hc => ?_) (fun hc => ?_)
 replace hH := condT hc hH
 refine AW.skip ?_
 refine AW.seq ?_
 refine AW.block ?_
 refine AW.seq ?_
 obtain ⟨x17, hx18, hH⟩ := bindE hH
 obtain ⟨x19, hx20, hH⟩ := bindE hH
 refine AW.region ?_
 iterate 3 refine AO.pu T ?_
 refine AO.val rfl rfl (callV_ok rfl rfl rfl rfl (laws_markText_ok fuel _ _ (hx18)) rfl) ?_
 refine AO.val rfl rfl (ix_row_ok T rfl rfl rfl rfl rfl rfl (hx20)) ?_
 refine AO.step rfl (store_row_ok T rfl rfl rfl rfl rfl (getI_get (hx20)) rfl rfl rfl rfl (u' := x17) rfl rfl) ?_
 refine AO.nil ?_
 refine AW.region ?_
 refine AO.pu T ?_
 refine AO.val rfl rfl (arw_ok rfl rfl rfl rfl) ?_
 refine AO.pu T ?_
 refine AO.nil ?_
 refine AW.region ?_
 refine AO.pu T ?_
 refine AO.val rfl rfl (arw_ok rfl rfl rfl rfl) ?_
 refine AO.pu T ?_
 refine AO.nil ?_
 refine ⟨(k1, (v13.set v15.toNat x17), w64 (v14 + 1), w64 (v15 + 1)), hH, Nat.lt_succ_self _, ?_⟩
 exact Le.ct 0 0 (hpin := ⟨⟨rfl, rfl⟩, trivial⟩)
 replace hH := condF hc hH
 refine AW.exit ?_
 refine AW.seq (AW.region ?_)
 iterate 2 refine AO.pu T ?_
 refine AO.nil (AW.ret ?_)
 cases someE hH
 exact ⟨trivial, rfl, _, [], [1], rfl, expLG_cons (.c (.rowR rfl)) (expLG_cons (.c .u) (expLG_nil)), .c (.c .v), by decide⟩

def laws_markIntS_l1 : Nat → List Int → Int → Int → Option (((List Int) × Int))
  | 0, _, _, _ => none
  | k1 + 1, v9, v10, v11 =>
    cond (decide (v11 < (v9.length : Int)))
      ((getI v9 v11).bind fun x13 =>
      laws_markIntS_l1 k1 (v9.set v11.toNat v10) (w64 (v10 + 1)) (w64 (v11 + 1)))
      (some (v9, v10))
def laws_markIntS_p (fuel : Nat) (a : List Int) (k : Int) : Option ((List Int) × Int) :=
  laws_markIntS_l1 fuel a k 0
theorem laws_markIntS_ok (fuel : Nat) (a : List Int) (k : Int) (r : ((List Int) × Int)) (hH : laws_markIntS_p fuel a k = some r) : SpecM Try.prog 43 [.w 1 (a.map encInt), k] [.w 1 (r.1.map encInt), .u] (.v (.int .i64 r.2)) := by
 refine fn_okM T Try.func43 rfl (by decide) rfl rfl ?_
 intro L
 show AW _ _ _ (⟨[(0, .R 1), (1, k)], [(1, .row 1 (List.map encInt a))], 19, [(1, L 1)]⟩ : St)
 refine AW.seq (AW.region ?_)
 refine AO.pu T ?_
 refine AO.nil ?_
 iterate 2 refine AW.seq ?_
 refine AW.region ?_
 refine AO.pu T ?_
 refine AO.nil ?_
 refine AW.block ?_
 refine AW.loopS (fun s : Nat × (List Int) × Int × Int => (⟨[(0, .R 1), (1, s.2.2.1), (5, s.2.2.2)], [(1, .row 1 (List.map encInt s.2.1))], 19, [(1, L 1)]⟩ : St)) (fun s => laws_markIntS_l1 s.1 s.2.1 s.2.2.1 s.2.2.2 = some r) (fun s => s.1) (fuel, a, k, 0) hH ?_ ?_
 exact Le.ct 0 0 (hpin := ⟨⟨rfl, rfl⟩, trivial⟩)
 rintro ⟨k1, v9, v10, v11⟩ hH
 replace hH : laws_markIntS_l1 k1 v9 v10 v11 = some r := hH
 try dsimp only
 rcases k1 with _ | k1
 cases (show none = some _ from hH)
 rw [laws_markIntS_l1] at hH
 iterate 2 refine AW.seq ?_
 refine AW.region ?_
 iterate 2 refine AO.pu T ?_
 refine AO.val rfl rfl (len_row_ok T rfl rfl rfl rfl) ?_
 refine AO.pu T ?_
 refine AO.nil ?_
 refine AW.cond (b := decide (v11 < (v9.length : Int))) rfl (fun hc => ?_) (fun hc => ?_)
 replace hH := condT hc hH
 refine AW.skip ?_
 refine AW.seq ?_
 refine AW.block ?_
 refine AW.seq ?_
 obtain ⟨x13, hx14, hH⟩ := bindE hH
 refine AW.region ?_
 iterate 3 refine AO.pu T ?_
 refine AO.val rfl rfl (ix_row_ok T rfl rfl rfl rfl rfl rfl (hx14)) ?_
 refine AO.step rfl (store_row_ok T rfl rfl rfl rfl rfl (getI_get (hx14)) rfl rfl rfl rfl (u' := v10) rfl rfl) ?_
 refine AO.nil ?_
 refine AW.region ?_
 refine AO.pu T ?_
 refine AO.val rfl rfl (arw_ok rfl rfl rfl rfl) ?_
 refine AO.pu T ?_
 refine AO.nil ?_
 refine AW.region ?_
 refine AO.pu T ?_
 refine AO.val rfl rfl (arw_ok rfl rfl rfl rfl) ?_
 refine AO.pu T ?_
 refine AO.nil ?_
 refine ⟨(k1, (v9.set v11.toNat v10), w64 (v10 + 1), w64 (v11 + 1)), hH, Nat.lt_succ_self _, ?_⟩
 exact Le.ct 0 0 (hpin := ⟨⟨rfl, rfl⟩, trivial⟩)
 replace hH := condF hc hH
 refine AW.exit ?_
 refine AW.seq (AW.region ?_)
 iterate 2 refine AO.pu T ?_
 refine AO.nil (AW.ret ?_)
 cases someE hH
 exact ⟨trivial, rfl, _, [], [1], rfl, expLG_cons (.c (.rowR rfl)) (expLG_cons (.c .u) (expLG_nil)), .c (.c .v), by decide⟩

def laws_markItemS_l1 (fuel : Nat) : Nat → List Item → Int → Int → Option (((List Item) × Int))
  | 0, _, _, _ => none
  | k1 + 1, v29, v30, v31 =>
    cond (decide (v31 < (v29.length : Int)))
      ((getI v29 v31).bind fun x33 =>
      (laws_markStringS_p fuel x33.names v30).bind fun x35 =>
      (getI (v29.set v31.toNat (Item.mk x35.1 x33.marks x33.late)) v31).bind fun x37 =>
      (laws_markIntS_p fuel x37.marks x35.2).bind fun x39 =>
      (need (3 != 0)).bind fun u41 =>
      (getI ((v29.set v31.toNat (Item.mk x35.1 x33.marks x33.late)).set v31.toNat (Item.mk x37.names x39.1 x37.late)) v31).bind fun x43 =>
      laws_markItemS_l1 fuel k1 (((v29.set v31.toNat (Item.mk x35.1 x33.marks x33.late)).set v31.toNat (Item.mk x37.names x39.1 x37.late)).set v31.toNat (Item.mk x43.names x43.marks ((x39.2.tmod 3) == 0))) (w64 (x39.2 + 1)) (w64 (v31 + 1)))
      (some (v29, v30))
def laws_markItemS_p (fuel : Nat) (a : List Item) (k : Int) : Option ((List Item) × Int) :=
  laws_markItemS_l1 fuel fuel a k 0
theorem laws_markItemS_ok (fuel : Nat) (a : List Item) (k : Int) (r : ((List Item) × Int)) (hH : laws_markItemS_p fuel a k = some r) : SpecM Try.prog 24 [.w 3 (a.map encItemO), k] [.w 3 (r.1.map encItemO), .u] (.v (.int .i64 r.2)) := by
 refine fn_okM T Try.func24 rfl (by decide) rfl rfl ?_
 intro L
 show AW _ _ _ (⟨[(0, .R 1), (1, k)], [(1, .row 3 (List.map encItemO a))], 36, [(1, L 1)]⟩ : St)
 refine AW.seq (AW.region ?_)
 refine AO.pu T ?_
 refine AO.nil ?_
 iterate 2 refine AW.seq ?_
 refine AW.region ?_
 refine AO.pu T ?_
 refine AO.nil ?_
 refine AW.block ?_
 refine AW.loopS (fun s : Nat × (List Item) × Int × Int => (⟨[(0, .R 1), (1, s.2.2.1), (5, s.2.2.2)], [(1, .row 3 (List.map encItemO s.2.1))], 36, [(1, L 1)]⟩ : St)) (fun s => laws_markItemS_l1 fuel s.1 s.2.1 s.2.2.1 s.2.2.2 = some r) (fun s => s.1) (fuel, a, k, 0) hH ?_ ?_
 exact Le.ct 0 0 (hpin := ⟨⟨rfl, rfl⟩, trivial⟩)
 rintro ⟨k1, v29, v30, v31⟩ hH
 replace hH : laws_markItemS_l1 fuel k1 v29 v30 v31 = some r := hH
 try dsimp only
 rcases k1 with _ | k1
 cases (show none = some _ from hH)
 rw [laws_markItemS_l1] at hH
 iterate 2 refine AW.seq ?_
 refine AW.region ?_
 iterate 2 refine AO.pu T ?_
 refine AO.val rfl rfl (len_row_ok T rfl rfl rfl rfl) ?_
 refine AO.pu T ?_
 refine AO.nil ?_
 refine AW.cond (b := decide (v31 < (v29.length : Int))) rfl (fun hc => ?_) (fun hc => ?_)
 replace hH := condT hc hH
 refine AW.skip ?_
 refine AW.seq ?_
 refine AW.block ?_
 refine AW.seq ?_
 obtain ⟨x33, hx34, hH⟩ := bindE hH
 obtain ⟨x35, hx36, hH⟩ := bindE hH
 refine AW.le (Le.openM 1 v31.toNat 0 6 rfl (getI_get (hx34)) rfl rfl) ?_
 refine AW.region ?_
 iterate 2 refine AO.pu T ?_
 refine AO.val rfl rfl (ix_lent_ok T rfl rfl rfl rfl rfl rfl (hx34)) ?_
 refine AO.pu T ?_
 refine AO.val rfl rfl (load_lent_ok T rfl rfl rfl rfl rfl) ?_
 refine AO.pu T ?_
 refine AO.step rfl (callM_ok rfl 7 rfl rfl (es := [.w 1 (x33.names.map encStr), .v (.int .i64 v30)]) (outs := [.w 1 (x35.1.map encStr), .u]) (ids := [6]) (by exact expLG_cons (.c (.rowR rfl)) (expLG_cons (.c .v) (expLG_nil))) (by decide) (.inl (by rfl)) (by rfl) (laws_markStringS_ok fuel _ _ _ (hx36)) rfl (by rfl) rfl) ?_
 refine AO.pu T ?_
 refine AO.le (Le.closeM 1 v31.toNat 0 6 rfl rfl (getI_get (hx34)) rfl (u' := (Item.mk x35.1 x33.marks x33.late)) rfl) ?_
 refine AO.nil (AW.seq ?_)
 obtain ⟨x37, hx38, hH⟩ := bindE hH
 obtain ⟨x39, hx40, hH⟩ := bindE hH
 refine AW.le (Le.openM 1 v31.toNat 1 7 rfl (getI_get (hx38)) rfl rfl) ?_
 refine AW.region ?_
 iterate 2 refine AO.pu T ?_
 refine AO.val rfl rfl (ix_lent_ok T rfl rfl rfl rfl rfl rfl (hx38)) ?_
 refine AO.pu T ?_
 refine AO.val rfl rfl (load_lent_ok T rfl rfl rfl rfl rfl) ?_
 refine AO.pu T ?_
 refine AO.step rfl (callM_ok rfl 8 rfl rfl (es := [.w 1 (x37.marks.map encInt), .v (.int .i64 x35.2)]) (outs := [.w 1 (x39.1.map encInt), .u]) (ids := [7]) (by exact expLG_cons (.c (.rowR rfl)) (expLG_cons (.c .v) (expLG_nil))) (by decide) (.inl (by rfl)) (by rfl) (laws_markIntS_ok fuel _ _ _ (hx40)) rfl (by rfl) rfl) ?_
 refine AO.pu T ?_
 refine AO.le (Le.closeM 1 v31.toNat 1 7 rfl rfl (getI_get (hx38)) rfl (u' := (Item.mk x37.names x39.1 x37.late)) rfl) ?_
 refine AO.nil (AW.seq ?_)
 obtain ⟨u41, hx42, hH⟩ := bindE hH
 obtain ⟨x43, hx44, hH⟩ := bindE hH
 refine AW.region ?_
 iterate 3 refine AO.pu T ?_
 refine AO.val rfl rfl (rem_ok rfl rfl rfl (neZ (needT (hx42)))) ?_
 refine AO.pu T ?_
 refine AO.val rfl rfl (ix_row_ok T rfl rfl rfl rfl rfl rfl (hx44)) ?_
 refine AO.pu T ?_
 refine AO.step rfl (store_row_ok T rfl rfl rfl rfl rfl (getI_get (hx44)) rfl rfl rfl rfl (u' := (Item.mk x43.names x43.marks ((x39.2.tmod 3) == 0))) rfl rfl) ?_
 refine AO.nil ?_
 refine AW.le (Le.ct 0 0 (σ' := (⟨[(0, .R 1), (1, x39.2), (5, v31)], [(1, .row 3 (List.map encItemO (((v29.set v31.toNat (Item.mk x35.1 x33.marks x33.late)).set v31.toNat (Item.mk x37.names x39.1 x37.late)).set v31.toNat (Item.mk x43.names x43.marks ((x39.2.tmod 3) == 0)))))], 36, [(1, L 1)]⟩ : St)) (hpin := ⟨⟨rfl, rfl⟩, trivial⟩)) ?_
 refine AW.region ?_
 refine AO.pu T ?_
 refine AO.val rfl rfl (arw_ok rfl rfl rfl rfl) ?_
 refine AO.pu T ?_
 refine AO.nil ?_
 refine AW.region ?_
 refine AO.pu T ?_
 refine AO.val rfl rfl (arw_ok rfl rfl rfl rfl) ?_
 refine AO.pu T ?_
 refine AO.nil ?_
 refine ⟨(k1, (((v29.set v31.toNat (Item.mk x35.1 x33.marks x33.late)).set v31.toNat (Item.mk x37.names x39.1 x37.late)).set v31.toNat (Item.mk x43.names x43.marks ((x39.2.tmod 3) == 0))), w64 (x39.2 + 1), w64 (v31 + 1)), hH, Nat.lt_succ_self _, ?_⟩
 exact Le.ct 0 0 (hpin := ⟨⟨rfl, rfl⟩, trivial⟩)
 replace hH := condF hc hH
 refine AW.exit ?_
 refine AW.seq (AW.region ?_)
 iterate 2 refine AO.pu T ?_
 refine AO.nil (AW.ret ?_)
 cases someE hH
 exact ⟨trivial, rfl, _, [], [1], rfl, expLG_cons (.c (.rowR rfl)) (expLG_cons (.c .u) (expLG_nil)), .c (.c .v), by decide⟩

def laws_markChangeS_l1 : Nat → List Change → Int → Int → Option (((List Change) × Int))
  | 0, _, _, _ => none
  | k1 + 1, v33, v34, v35 =>
    cond (decide (v35 < (v33.length : Int)))
      ((getI v33 v35).bind fun x37 =>
      (getI (v33.set v35.toNat (Change.mk v34 x37.caller x37.item x37.name x37.mark x37.review)) v35).bind fun x39 =>
      (getI ((v33.set v35.toNat (Change.mk v34 x37.caller x37.item x37.name x37.mark x37.review)).set v35.toNat (Change.mk x39.tick (w64 (v34 + 1)) x39.item x39.name x39.mark x39.review)) v35).bind fun x41 =>
      (getI (((v33.set v35.toNat (Change.mk v34 x37.caller x37.item x37.name x37.mark x37.review)).set v35.toNat (Change.mk x39.tick (w64 (v34 + 1)) x39.item x39.name x39.mark x39.review)).set v35.toNat (Change.mk x41.tick x41.caller (w64 ((w64 (v34 + 1)) + 1)) x41.name x41.mark x41.review)) v35).bind fun x43 =>
      (getI ((((v33.set v35.toNat (Change.mk v34 x37.caller x37.item x37.name x37.mark x37.review)).set v35.toNat (Change.mk x39.tick (w64 (v34 + 1)) x39.item x39.name x39.mark x39.review)).set v35.toNat (Change.mk x41.tick x41.caller (w64 ((w64 (v34 + 1)) + 1)) x41.name x41.mark x41.review)).set v35.toNat (Change.mk x43.tick x43.caller x43.item (w64 ((w64 ((w64 (v34 + 1)) + 1)) + 1)) x43.mark x43.review)) v35).bind fun x45 =>
      (need (3 != 0)).bind fun u47 =>
      (getI (((((v33.set v35.toNat (Change.mk v34 x37.caller x37.item x37.name x37.mark x37.review)).set v35.toNat (Change.mk x39.tick (w64 (v34 + 1)) x39.item x39.name x39.mark x39.review)).set v35.toNat (Change.mk x41.tick x41.caller (w64 ((w64 (v34 + 1)) + 1)) x41.name x41.mark x41.review)).set v35.toNat (Change.mk x43.tick x43.caller x43.item (w64 ((w64 ((w64 (v34 + 1)) + 1)) + 1)) x43.mark x43.review)).set v35.toNat (Change.mk x45.tick x45.caller x45.item x45.name (w64 ((w64 ((w64 ((w64 (v34 + 1)) + 1)) + 1)) + 1)) x45.review)) v35).bind fun x49 =>
      laws_markChangeS_l1 k1 ((((((v33.set v35.toNat (Change.mk v34 x37.caller x37.item x37.name x37.mark x37.review)).set v35.toNat (Change.mk x39.tick (w64 (v34 + 1)) x39.item x39.name x39.mark x39.review)).set v35.toNat (Change.mk x41.tick x41.caller (w64 ((w64 (v34 + 1)) + 1)) x41.name x41.mark x41.review)).set v35.toNat (Change.mk x43.tick x43.caller x43.item (w64 ((w64 ((w64 (v34 + 1)) + 1)) + 1)) x43.mark x43.review)).set v35.toNat (Change.mk x45.tick x45.caller x45.item x45.name (w64 ((w64 ((w64 ((w64 (v34 + 1)) + 1)) + 1)) + 1)) x45.review)).set v35.toNat (Change.mk x49.tick x49.caller x49.item x49.name x49.mark (((w64 ((w64 ((w64 ((w64 ((w64 (v34 + 1)) + 1)) + 1)) + 1)) + 1)).tmod 3) == 0))) (w64 ((w64 ((w64 ((w64 ((w64 ((w64 (v34 + 1)) + 1)) + 1)) + 1)) + 1)) + 1)) (w64 (v35 + 1)))
      (some (v33, v34))
def laws_markChangeS_p (fuel : Nat) (a : List Change) (k : Int) : Option ((List Change) × Int) :=
  laws_markChangeS_l1 fuel a k 0
theorem laws_markChangeS_ok (fuel : Nat) (a : List Change) (k : Int) (r : ((List Change) × Int)) (hH : laws_markChangeS_p fuel a k = some r) : SpecM Try.prog 25 [.w 6 (a.map encChange), k] [.w 6 (r.1.map encChange), .u] (.v (.int .i64 r.2)) := by
 refine fn_okM T Try.func25 rfl (by decide) rfl rfl ?_
 intro L
 show AW _ _ _ (⟨[(0, .R 1), (1, k)], [(1, .row 6 (List.map encChange a))], 57, [(1, L 1)]⟩ : St)
 refine AW.seq (AW.region ?_)
 refine AO.pu T ?_
 refine AO.nil ?_
 iterate 2 refine AW.seq ?_
 refine AW.region ?_
 refine AO.pu T ?_
 refine AO.nil ?_
 refine AW.block ?_
 refine AW.loopS (fun s : Nat × (List Change) × Int × Int => (⟨[(0, .R 1), (1, s.2.2.1), (5, s.2.2.2)], [(1, .row 6 (List.map encChange s.2.1))], 57, [(1, L 1)]⟩ : St)) (fun s => laws_markChangeS_l1 s.1 s.2.1 s.2.2.1 s.2.2.2 = some r) (fun s => s.1) (fuel, a, k, 0) hH ?_ ?_
 exact Le.ct 0 0 (hpin := ⟨⟨rfl, rfl⟩, trivial⟩)
 rintro ⟨k1, v33, v34, v35⟩ hH
 replace hH : laws_markChangeS_l1 k1 v33 v34 v35 = some r := hH
 try dsimp only
 rcases k1 with _ | k1
 cases (show none = some _ from hH)
 rw [laws_markChangeS_l1] at hH
 iterate 2 refine AW.seq ?_
 refine AW.region ?_
 iterate 2 refine AO.pu T ?_
 refine AO.val rfl rfl (len_row_ok T rfl rfl rfl rfl) ?_
 refine AO.pu T ?_
 refine AO.nil ?_
 refine AW.cond (b := decide (v35 < (v33.length : Int))) rfl (fun hc => ?_) (fun hc => ?_)
 replace hH := condT hc hH
 refine AW.skip ?_
 refine AW.seq ?_
 refine AW.block ?_
 refine AW.seq ?_
 obtain ⟨x37, hx38, hH⟩ := bindE hH
 refine AW.region ?_
 iterate 3 refine AO.pu T ?_
 refine AO.val rfl rfl (ix_row_ok T rfl rfl rfl rfl rfl rfl (hx38)) ?_
 refine AO.pu T ?_
 refine AO.step rfl (store_row_ok T rfl rfl rfl rfl rfl (getI_get (hx38)) rfl rfl rfl rfl (u' := (Change.mk v34 x37.caller x37.item x37.name x37.mark x37.review)) rfl rfl) ?_
 refine AO.nil (AW.seq ?_)
 refine AW.region ?_
 refine AO.pu T ?_
 refine AO.val rfl rfl (arw_ok rfl rfl rfl rfl) ?_
 refine AO.pu T ?_
 refine AO.nil (AW.seq ?_)
 obtain ⟨x39, hx40, hH⟩ := bindE hH
 refine AW.region ?_
 iterate 3 refine AO.pu T ?_
 refine AO.val rfl rfl (ix_row_ok T rfl rfl rfl rfl rfl rfl (hx40)) ?_
 refine AO.pu T ?_
 refine AO.step rfl (store_row_ok T rfl rfl rfl rfl rfl (getI_get (hx40)) rfl rfl rfl rfl (u' := (Change.mk x39.tick (w64 (v34 + 1)) x39.item x39.name x39.mark x39.review)) rfl rfl) ?_
 refine AO.nil (AW.seq ?_)
 refine AW.region ?_
 refine AO.pu T ?_
 refine AO.val rfl rfl (arw_ok rfl rfl rfl rfl) ?_
 refine AO.pu T ?_
 refine AO.nil (AW.seq ?_)
 obtain ⟨x41, hx42, hH⟩ := bindE hH
 refine AW.region ?_
 iterate 3 refine AO.pu T ?_
 refine AO.val rfl rfl (ix_row_ok T rfl rfl rfl rfl rfl rfl (hx42)) ?_
 refine AO.pu T ?_
 refine AO.step rfl (store_row_ok T rfl rfl rfl rfl rfl (getI_get (hx42)) rfl rfl rfl rfl (u' := (Change.mk x41.tick x41.caller (w64 ((w64 (v34 + 1)) + 1)) x41.name x41.mark x41.review)) rfl rfl) ?_
 refine AO.nil ?_
 refine AW.le (Le.ct 0 0 (σ' := (⟨[(0, .R 1), (1, w64 ((w64 (v34 + 1)) + 1)), (5, v35)], [(1, .row 6 (List.map encChange (((v33.set v35.toNat (Change.mk v34 x37.caller x37.item x37.name x37.mark x37.review)).set v35.toNat (Change.mk x39.tick (w64 (v34 + 1)) x39.item x39.name x39.mark x39.review)).set v35.toNat (Change.mk x41.tick x41.caller (w64 ((w64 (v34 + 1)) + 1)) x41.name x41.mark x41.review))))], 57, [(1, L 1)]⟩ : St)) (hpin := ⟨⟨rfl, rfl⟩, trivial⟩)) ?_
 refine AW.seq (AW.region ?_)
 refine AO.pu T ?_
 refine AO.val rfl rfl (arw_ok rfl rfl rfl rfl) ?_
 refine AO.pu T ?_
 refine AO.nil (AW.seq ?_)
 obtain ⟨x43, hx44, hH⟩ := bindE hH
 refine AW.region ?_
 iterate 3 refine AO.pu T ?_
 refine AO.val rfl rfl (ix_row_ok T rfl rfl rfl rfl rfl rfl (hx44)) ?_
 refine AO.pu T ?_
 refine AO.step rfl (store_row_ok T rfl rfl rfl rfl rfl (getI_get (hx44)) rfl rfl rfl rfl (u' := (Change.mk x43.tick x43.caller x43.item (w64 ((w64 ((w64 (v34 + 1)) + 1)) + 1)) x43.mark x43.review)) rfl rfl) ?_
 refine AO.nil (AW.seq ?_)
 refine AW.region ?_
 refine AO.pu T ?_
 refine AO.val rfl rfl (arw_ok rfl rfl rfl rfl) ?_
 refine AO.pu T ?_
 refine AO.nil (AW.seq ?_)
 obtain ⟨x45, hx46, hH⟩ := bindE hH
 refine AW.region ?_
 iterate 3 refine AO.pu T ?_
 refine AO.val rfl rfl (ix_row_ok T rfl rfl rfl rfl rfl rfl (hx46)) ?_
 refine AO.pu T ?_
 refine AO.step rfl (store_row_ok T rfl rfl rfl rfl rfl (getI_get (hx46)) rfl rfl rfl rfl (u' := (Change.mk x45.tick x45.caller x45.item x45.name (w64 ((w64 ((w64 ((w64 (v34 + 1)) + 1)) + 1)) + 1)) x45.review)) rfl rfl) ?_
 refine AO.nil (AW.seq ?_)
 refine AW.region ?_
 refine AO.pu T ?_
 refine AO.val rfl rfl (arw_ok rfl rfl rfl rfl) ?_
 refine AO.pu T ?_
 refine AO.nil (AW.seq ?_)
 obtain ⟨u47, hx48, hH⟩ := bindE hH
 obtain ⟨x49, hx50, hH⟩ := bindE hH
 refine AW.region ?_
 iterate 3 refine AO.pu T ?_
 refine AO.val rfl rfl (rem_ok rfl rfl rfl (neZ (needT (hx48)))) ?_
 refine AO.pu T ?_
 refine AO.val rfl rfl (ix_row_ok T rfl rfl rfl rfl rfl rfl (hx50)) ?_
 refine AO.pu T ?_
 refine AO.step rfl (store_row_ok T rfl rfl rfl rfl rfl (getI_get (hx50)) rfl rfl rfl rfl (u' := (Change.mk x49.tick x49.caller x49.item x49.name x49.mark (((w64 ((w64 ((w64 ((w64 ((w64 (v34 + 1)) + 1)) + 1)) + 1)) + 1)).tmod 3) == 0))) rfl rfl) ?_
 refine AO.nil ?_
 refine AW.le (Le.ct 0 0 (σ' := (⟨[(0, .R 1), (1, w64 ((w64 ((w64 ((w64 ((w64 (v34 + 1)) + 1)) + 1)) + 1)) + 1)), (5, v35)], [(1, .row 6 (List.map encChange ((((((v33.set v35.toNat (Change.mk v34 x37.caller x37.item x37.name x37.mark x37.review)).set v35.toNat (Change.mk x39.tick (w64 (v34 + 1)) x39.item x39.name x39.mark x39.review)).set v35.toNat (Change.mk x41.tick x41.caller (w64 ((w64 (v34 + 1)) + 1)) x41.name x41.mark x41.review)).set v35.toNat (Change.mk x43.tick x43.caller x43.item (w64 ((w64 ((w64 (v34 + 1)) + 1)) + 1)) x43.mark x43.review)).set v35.toNat (Change.mk x45.tick x45.caller x45.item x45.name (w64 ((w64 ((w64 ((w64 (v34 + 1)) + 1)) + 1)) + 1)) x45.review)).set v35.toNat (Change.mk x49.tick x49.caller x49.item x49.name x49.mark (((w64 ((w64 ((w64 ((w64 ((w64 (v34 + 1)) + 1)) + 1)) + 1)) + 1)).tmod 3) == 0)))))], 57, [(1, L 1)]⟩ : St)) (hpin := ⟨⟨rfl, rfl⟩, trivial⟩)) ?_
 refine AW.region ?_
 refine AO.pu T ?_
 refine AO.val rfl rfl (arw_ok rfl rfl rfl rfl) ?_
 refine AO.pu T ?_
 refine AO.nil ?_
 refine AW.region ?_
 refine AO.pu T ?_
 refine AO.val rfl rfl (arw_ok rfl rfl rfl rfl) ?_
 refine AO.pu T ?_
 refine AO.nil ?_
 refine ⟨(k1, ((((((v33.set v35.toNat (Change.mk v34 x37.caller x37.item x37.name x37.mark x37.review)).set v35.toNat (Change.mk x39.tick (w64 (v34 + 1)) x39.item x39.name x39.mark x39.review)).set v35.toNat (Change.mk x41.tick x41.caller (w64 ((w64 (v34 + 1)) + 1)) x41.name x41.mark x41.review)).set v35.toNat (Change.mk x43.tick x43.caller x43.item (w64 ((w64 ((w64 (v34 + 1)) + 1)) + 1)) x43.mark x43.review)).set v35.toNat (Change.mk x45.tick x45.caller x45.item x45.name (w64 ((w64 ((w64 ((w64 (v34 + 1)) + 1)) + 1)) + 1)) x45.review)).set v35.toNat (Change.mk x49.tick x49.caller x49.item x49.name x49.mark (((w64 ((w64 ((w64 ((w64 ((w64 (v34 + 1)) + 1)) + 1)) + 1)) + 1)).tmod 3) == 0))), w64 ((w64 ((w64 ((w64 ((w64 ((w64 (v34 + 1)) + 1)) + 1)) + 1)) + 1)) + 1), w64 (v35 + 1)), hH, Nat.lt_succ_self _, ?_⟩
 exact Le.ct 0 0 (hpin := ⟨⟨rfl, rfl⟩, trivial⟩)
 replace hH := condF hc hH
 refine AW.exit ?_
 refine AW.seq (AW.region ?_)
 iterate 2 refine AO.pu T ?_
 refine AO.nil (AW.ret ?_)
 cases someE hH
 exact ⟨trivial, rfl, _, [], [1], rfl, expLG_cons (.c (.rowR rfl)) (expLG_cons (.c .u) (expLG_nil)), .c (.c .v), by decide⟩

def laws_heldChangeS_l1 : List Change → Nat → Int → Option Int
  | [], k1, v12 =>
    some v12
  | y2 :: ys3, k1, v12 =>
    cond (y2.tick != v12)
      (some (-1))
      (cond (y2.caller != (w64 (v12 + 1)))
        (some (-1))
        (cond (y2.item != (w64 ((w64 (v12 + 1)) + 1)))
          (some (-1))
          (cond (y2.name != (w64 ((w64 ((w64 (v12 + 1)) + 1)) + 1)))
            (some (-1))
            (cond (y2.mark != (w64 ((w64 ((w64 ((w64 (v12 + 1)) + 1)) + 1)) + 1)))
              (some (-1))
              ((need (3 != 0)).bind fun u14 =>
              cond (!(y2.review == (((w64 ((w64 ((w64 ((w64 ((w64 (v12 + 1)) + 1)) + 1)) + 1)) + 1)).tmod 3) == 0)))
                (some (-1))
                (laws_heldChangeS_l1 ys3 (k1 + 1) (w64 ((w64 ((w64 ((w64 ((w64 ((w64 (v12 + 1)) + 1)) + 1)) + 1)) + 1)) + 1))))))))
def laws_heldChangeS_p (a : List Change) (k : Int) : Option Int :=
  laws_heldChangeS_l1 a 0 k
theorem laws_heldChangeS_ok (a : List Change) (k : Int) (r : Int) (hH : laws_heldChangeS_p a k = some r) : SpecR Try.prog 30 [.s (List.map encChange a), k] (.v (.int .i64 r)) := by
 refine fn_ok T Try.func30 rfl (by decide) rfl ?_
 refine AW.seq (AW.region ?_)
 refine AO.pu T ?_
 refine AO.nil ?_
 iterate 2 refine AW.seq ?_
 refine AW.region ?_
 refine AO.pu T ?_
 refine AO.nil ?_
 refine AW.block ?_
 refine AW.loopS (fun s : Nat × Int => (⟨[(0, .s (List.map encChange a)), (1, s.2), (5, (s.1 : Int))], [], 69, []⟩ : St)) (fun s => s.1 ≤ a.length ∧ laws_heldChangeS_l1 (a.drop s.1) s.1 s.2 = some r) (fun s => a.length - s.1) (0, k) ⟨Nat.zero_le _, hH⟩ ?_ ?_
 exact Le.ct 0 0
 rintro ⟨k1, v12⟩ ⟨hk, hH⟩
 replace hH : laws_heldChangeS_l1 (a.drop k1) k1 v12 = some r := hH
 try dsimp only
 refine AW.boundM (t := 0) (l := a) rfl (fun hb5 => ?_)
 rcases hd4 : a.drop k1 with _ | ⟨y2, ys3⟩
 rw [hd4, laws_heldChangeS_l1] at hH
 have hlt6 := drop_ge hd4
 iterate 2 refine AW.seq ?_
 refine AW.region ?_
 iterate 2 refine AO.pu T ?_
 refine AO.val rfl rfl (len_map_ok T rfl rfl rfl) ?_
 refine AO.pu T ?_
 refine AO.nil ?_
 refine AW.condF' (b := decide ((k1 : Int) < (a.length : Int))) rfl (rngF hlt6) ?_
 refine AW.exit ?_
 refine AW.seq (AW.region ?_)
 iterate 2 refine AO.pu T ?_
 refine AO.nil (AW.ret ?_)
 cases someE hH
 exact retQ.i [] rfl (.c (.c .v))
 rw [hd4, laws_heldChangeS_l1] at hH
 have hlt6 := drop_lt hd4
 iterate 2 refine AW.seq ?_
 refine AW.region ?_
 iterate 2 refine AO.pu T ?_
 refine AO.val rfl rfl (len_map_ok T rfl rfl rfl) ?_
 refine AO.pu T ?_
 refine AO.nil ?_
 refine AW.condT' (b := decide ((k1 : Int) < (a.length : Int))) rfl (rngT hlt6) ?_
 refine AW.skip ?_
 refine AW.seq ?_
 refine AW.block ?_
 iterate 2 refine AW.seq ?_
 refine AW.region ?_
 iterate 2 refine AO.pu T ?_
 refine AO.val rfl rfl (ix_map_ok T rfl rfl rfl rfl rfl (getI_drop hd4) rfl) ?_
 iterate 4 refine AO.pu T ?_
 refine AO.nil ?_
 refine AW.cond (b := (y2.tick != v12)) rfl (fun hc => ?_) (fun hc => ?_)
 replace hH := condT hc hH
 refine AW.seq (AW.region ?_)
 refine AO.pu T ?_
 refine AO.nil (AW.ret ?_)
 cases someE hH
 exact retQ.i [] rfl (.c (.c .v))
 replace hH := condF hc hH
 refine AW.skip ?_
 refine AW.seq (AW.region ?_)
 refine AO.pu T ?_
 refine AO.val rfl rfl (arw_ok rfl rfl rfl rfl) ?_
 refine AO.pu T ?_
 refine AO.nil ?_
 iterate 2 refine AW.seq ?_
 refine AW.region ?_
 iterate 2 refine AO.pu T ?_
 refine AO.val rfl rfl (ix_map_ok T rfl rfl rfl rfl rfl (getI_drop hd4) rfl) ?_
 iterate 4 refine AO.pu T ?_
 refine AO.nil ?_
 refine AW.cond (b := (y2.caller != (w64 (v12 + 1)))) rfl (fun hc => ?_) (fun hc => ?_)
 replace hH := condT hc hH
 refine AW.seq (AW.region ?_)
 refine AO.pu T ?_
 refine AO.nil (AW.ret ?_)
 cases someE hH
 exact retQ.i [] rfl (.c (.c .v))
 replace hH := condF hc hH
 refine AW.skip ?_
 refine AW.seq (AW.region ?_)
 refine AO.pu T ?_
 refine AO.val rfl rfl (arw_ok rfl rfl rfl rfl) ?_
 refine AO.pu T ?_
 refine AO.nil ?_
 refine AW.le (Le.ct 0 0 (σ' := (⟨[(0, .s (List.map encChange a)), (1, w64 ((w64 (v12 + 1)) + 1)), (5, (k1 : Int))], [], 69, []⟩ : St))) ?_
 iterate 2 refine AW.seq ?_
 refine AW.region ?_
 iterate 2 refine AO.pu T ?_
 refine AO.val rfl rfl (ix_map_ok T rfl rfl rfl rfl rfl (getI_drop hd4) rfl) ?_
 iterate 4 refine AO.pu T ?_
 refine AO.nil ?_
 refine AW.cond (b := (y2.item != (w64 ((w64 (v12 + 1)) + 1)))) rfl (fun hc => ?_) (fun hc => ?_)
 replace hH := condT hc hH
 refine AW.seq (AW.region ?_)
 refine AO.pu T ?_
 refine AO.nil (AW.ret ?_)
 cases someE hH
 exact retQ.i [] rfl (.c (.c .v))
 replace hH := condF hc hH
 refine AW.skip ?_
 refine AW.seq (AW.region ?_)
 refine AO.pu T ?_
 refine AO.val rfl rfl (arw_ok rfl rfl rfl rfl) ?_
 refine AO.pu T ?_
 refine AO.nil ?_
 iterate 2 refine AW.seq ?_
 refine AW.region ?_
 iterate 2 refine AO.pu T ?_
 refine AO.val rfl rfl (ix_map_ok T rfl rfl rfl rfl rfl (getI_drop hd4) rfl) ?_
 iterate 4 refine AO.pu T ?_
 refine AO.nil ?_
 refine AW.cond (b := (y2.name != (w64 ((w64 ((w64 (v12 + 1)) + 1)) + 1)))) rfl (fun hc => ?_) (fun hc => ?_)
 replace hH := condT hc hH
 refine AW.seq (AW.region ?_)
 refine AO.pu T ?_
 refine AO.nil (AW.ret ?_)
 cases someE hH
 exact retQ.i [] rfl (.c (.c .v))
 replace hH := condF hc hH
 refine AW.skip ?_
 refine AW.seq (AW.region ?_)
 refine AO.pu T ?_
 refine AO.val rfl rfl (arw_ok rfl rfl rfl rfl) ?_
 refine AO.pu T ?_
 refine AO.nil ?_
 iterate 2 refine AW.seq ?_
 refine AW.region ?_
 iterate 2 refine AO.pu T ?_
 refine AO.val rfl rfl (ix_map_ok T rfl rfl rfl rfl rfl (getI_drop hd4) rfl) ?_
 iterate 4 refine AO.pu T ?_
 refine AO.nil ?_
 refine AW.le (Le.ct 0 0 (σ' := (⟨[(0, .s (List.map encChange a)), (1, w64 ((w64 ((w64 ((w64 (v12 + 1)) + 1)) + 1)) + 1)), (5, (k1 : Int)), (54, .v (.bool (y2.mark != (w64 ((w64 ((w64 ((w64 (v12 + 1)) + 1)) + 1)) + 1)))))], [], 69, []⟩ : St))) ?_
 refine AW.cond (b := (y2.mark != (w64 ((w64 ((w64 ((w64 (v12 + 1)) + 1)) + 1)) + 1)))) rfl (fun hc => ?_) (fun hc => ?_)
 replace hH := condT hc hH
 refine AW.seq (AW.region ?_)
 refine AO.pu T ?_
 refine AO.nil (AW.ret ?_)
 cases someE hH
 exact retQ.i [] rfl (.c (.c .v))
 replace hH := condF hc hH
 refine AW.skip ?_
 refine AW.seq (AW.region ?_)
 refine AO.pu T ?_
 refine AO.val rfl rfl (arw_ok rfl rfl rfl rfl) ?_
 refine AO.pu T ?_
 refine AO.nil ?_
 iterate 2 refine AW.seq ?_
 obtain ⟨u14, hx15, hH⟩ := bindE hH
 refine AW.region ?_
 iterate 2 refine AO.pu T ?_
 refine AO.val rfl rfl (ix_map_ok T rfl rfl rfl rfl rfl (getI_drop hd4) rfl) ?_
 iterate 3 refine AO.pu T ?_
 refine AO.val rfl rfl (rem_ok rfl rfl rfl (neZ (needT (hx15)))) ?_
 iterate 2 refine AO.pu T ?_
 refine AO.nil ?_
 refine AW.cond (b := (!(y2.review == (((w64 ((w64 ((w64 ((w64 ((w64 (v12 + 1)) + 1)) + 1)) + 1)) + 1)).tmod 3) == 0)))) rfl (fun hc => ?_) (fun hc => ?_)
 replace hH := condT hc hH
 refine AW.seq (AW.region ?_)
 refine AO.pu T ?_
 refine AO.nil (AW.ret ?_)
 cases someE hH
 exact retQ.i [] rfl (.c (.c .v))
 replace hH := condF hc hH
 refine AW.skip ?_
 refine AW.region ?_
 refine AO.pu T ?_
 refine AO.val rfl rfl (arw_ok rfl rfl rfl rfl) ?_
 refine AO.pu T ?_
 refine AO.nil ?_
 refine AW.region ?_
 refine AO.pu T ?_
 refine AO.val rfl rfl (ar_ok rfl rfl rfl rfl (inI_succ hlt6 hb5)) ?_
 refine AO.pu T ?_
 refine AO.nil ?_
 refine ⟨(k1 + 1, w64 ((w64 ((w64 ((w64 ((w64 ((w64 (v12 + 1)) + 1)) + 1)) + 1)) + 1)) + 1)), ⟨Nat.succ_le_of_lt hlt6, (by rw [drop_succ_of hd4]; exact hH)⟩, (by have := hlt6; dsimp only; omega), ?_⟩
 exact Le.ct 0 0

end Go.Proofs.Ytnmpidocpdjjfaa

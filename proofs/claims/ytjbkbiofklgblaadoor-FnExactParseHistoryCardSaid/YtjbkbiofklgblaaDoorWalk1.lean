/- The walk, part 1: what each function reached by the law FnExactParseHistory computes. No condition. -/
import Derived.Test.YtjbkbiofklgblaaDoorAm3
import Derived.Test.YtjbkbiofklgblaaDoorShelf
import Derived.Test.YtjbkbiofklgblaaDoorProg
set_option maxRecDepth 4000
set_option maxHeartbeats 1000000
set_option linter.unusedVariables false
set_option linter.unusedSimpArgs false
set_option linter.unusedSectionVars false

namespace Go.Proofs.YtjbkbiofklgblaaDoor
open Go.AM
def teL : List (Option TI) := [
  none,
  none,
  some ⟨.int .i64, 1, 8, some (.int .i64 0)⟩,
  some ⟨.int .i64, 1, 8, some (.int .i64 0)⟩,
  some ⟨.bool, 1, 1, some (.bool false)⟩,
  some ⟨.int .u8, 1, 1, some (.int .u8 0)⟩,
  some ⟨.int .u8, 1, 1, some (.int .u8 0)⟩,
  some ⟨.struct [(0, 2), (1, 3), (2, 4), (3, 6)], 4, 24, some (.agg #[.int .i64 0, .int .i64 0, .bool false, .int .u8 0])⟩,
  some ⟨.struct [(0, 2), (1, 3), (2, 4), (3, 6)], 4, 24, some (.agg #[.int .i64 0, .int .i64 0, .bool false, .int .u8 0])⟩,
  some ⟨.str, 1, 16, some (.string ⟨#[]⟩)⟩,
  some ⟨.str, 1, 16, some (.string ⟨#[]⟩)⟩,
  some ⟨.str, 1, 16, some (.string ⟨#[]⟩)⟩,
  some ⟨.int .u64, 1, 8, some (.int .u64 0)⟩,
  some ⟨.struct [(0, 9), (1, 12)], 2, 24, some (.agg #[.string ⟨#[]⟩, .int .u64 0])⟩,
  some ⟨.struct [(0, 9), (1, 12)], 2, 24, some (.agg #[.string ⟨#[]⟩, .int .u64 0])⟩,
  some ⟨.ptr 148, 1, 8, some (.pointer none)⟩,
  some ⟨.ptr 151, 1, 8, some (.pointer none)⟩,
  some ⟨.ptr 159, 1, 8, some (.pointer none)⟩,
  some ⟨.struct [(0, 17)], 1, 8, some (.agg #[.pointer none])⟩,
  some ⟨.struct [(0, 17)], 1, 8, some (.agg #[.pointer none])⟩,
  none,
  some ⟨.int .i32, 1, 4, some (.int .i32 0)⟩,
  some ⟨.slice 44, 1, 24, some (.slice none 0 0)⟩,
  some ⟨.slice 52, 1, 24, some (.slice none 0 0)⟩,
  none,
  none,
  none,
  none,
  some ⟨.slice 47, 1, 24, some (.slice none 0 0)⟩,
  none,
  some ⟨.slice 50, 1, 24, some (.slice none 0 0)⟩,
  none,
  none,
  none,
  none,
  none,
  none,
  none,
  none,
  none,
  none,
  some ⟨.slice 9, 1, 24, some (.slice none 0 0)⟩,
  some ⟨.slice 3, 1, 24, some (.slice none 0 0)⟩,
  some ⟨.struct [(0, 41), (1, 42), (2, 4)], 3, 56, some (.agg #[.slice none 0 0, .slice none 0 0, .bool false])⟩,
  some ⟨.struct [(0, 41), (1, 42), (2, 4)], 3, 56, some (.agg #[.slice none 0 0, .slice none 0 0, .bool false])⟩,
  none,
  none,
  some ⟨.struct [(0, 41), (1, 42), (2, 4)], 3, 56, some (.agg #[.slice none 0 0, .slice none 0 0, .bool false])⟩,
  none,
  some ⟨.struct [(0, 3), (1, 3), (2, 3), (3, 3), (4, 3), (5, 4)], 6, 48, some (.agg #[.int .i64 0, .int .i64 0, .int .i64 0, .int .i64 0, .int .i64 0, .bool false])⟩,
  some ⟨.struct [(0, 3), (1, 3), (2, 3), (3, 3), (4, 3), (5, 4)], 6, 48, some (.agg #[.int .i64 0, .int .i64 0, .int .i64 0, .int .i64 0, .int .i64 0, .bool false])⟩,
  none,
  some ⟨.struct [(0, 3), (1, 3), (2, 3), (3, 3), (4, 3), (5, 4)], 6, 48, some (.agg #[.int .i64 0, .int .i64 0, .int .i64 0, .int .i64 0, .int .i64 0, .bool false])⟩,
  some ⟨.ptr 56, 1, 8, some (.pointer none)⟩,
  some ⟨.slice 5, 1, 24, some (.slice none 0 0)⟩,
  some ⟨.struct [(0, 53), (1, 54)], 2, 32, some (.agg #[.pointer none, .slice none 0 0])⟩,
  some ⟨.struct [(0, 53), (1, 54)], 2, 32, some (.agg #[.pointer none, .slice none 0 0])⟩,
  none,
  none,
  none,
  none,
  none,
  some ⟨.array 4 9, 4, 64, some (.agg #[.string ⟨#[]⟩, .string ⟨#[]⟩, .string ⟨#[]⟩, .string ⟨#[]⟩])⟩,
  none,
  none,
  none,
  none,
  none,
  none,
  none,
  none,
  none,
  none,
  none,
  none,
  none,
  none,
  none,
  none,
  none,
  none,
  none,
  some ⟨.ptr 100, 1, 8, some (.pointer none)⟩,
  none,
  none,
  none,
  some ⟨.ptr 5, 1, 8, some (.pointer none)⟩,
  none,
  none,
  none,
  none,
  some ⟨.ptr 119, 1, 8, some (.pointer none)⟩,
  none,
  none,
  none,
  none,
  none,
  none,
  some ⟨.other, 1, 8, some (.map none)⟩,
  some ⟨.struct [(0, 28), (1, 98)], 2, 32, some (.agg #[.slice none 0 0, .map none])⟩,
  some ⟨.struct [(0, 28), (1, 98)], 2, 32, some (.agg #[.slice none 0 0, .map none])⟩,
  none,
  none,
  none,
  none,
  none,
  none,
  none,
  none,
  none,
  none,
  none,
  none,
  none,
  some ⟨.array 2 3, 2, 16, some (.agg #[.int .i64 0, .int .i64 0])⟩,
  none,
  none,
  some ⟨.slice 120, 1, 24, some (.slice none 0 0)⟩,
  some ⟨.struct [(0, 28), (1, 117)], 2, 48, some (.agg #[.slice none 0 0, .slice none 0 0])⟩,
  some ⟨.struct [(0, 28), (1, 117)], 2, 48, some (.agg #[.slice none 0 0, .slice none 0 0])⟩,
  some ⟨.slice 4, 1, 24, some (.slice none 0 0)⟩,
  none,
  none,
  none,
  some ⟨.array 24 5, 24, 24, some (.agg #[.int .u8 0, .int .u8 0, .int .u8 0, .int .u8 0, .int .u8 0, .int .u8 0, .int .u8 0, .int .u8 0, .int .u8 0, .int .u8 0, .int .u8 0, .int .u8 0, .int .u8 0, .int .u8 0, .int .u8 0, .int .u8 0, .int .u8 0, .int .u8 0, .int .u8 0, .int .u8 0, .int .u8 0, .int .u8 0, .int .u8 0, .int .u8 0])⟩,
  some ⟨.int .u64, 1, 8, some (.int .u64 0)⟩,
  none,
  none,
  none,
  none,
  none,
  none,
  some ⟨.int .u64, 1, 8, some (.int .u64 0)⟩,
  none,
  some ⟨.array 20 125, 20, 160, some (.agg #[.int .u64 0, .int .u64 0, .int .u64 0, .int .u64 0, .int .u64 0, .int .u64 0, .int .u64 0, .int .u64 0, .int .u64 0, .int .u64 0, .int .u64 0, .int .u64 0, .int .u64 0, .int .u64 0, .int .u64 0, .int .u64 0, .int .u64 0, .int .u64 0, .int .u64 0, .int .u64 0])⟩,
  some ⟨.int .u32, 1, 4, some (.int .u32 0)⟩,
  none,
  none,
  none,
  some ⟨.struct [(0, 5), (1, 5)], 2, 2, some (.agg #[.int .u8 0, .int .u8 0])⟩,
  some ⟨.struct [(0, 5), (1, 5)], 2, 2, some (.agg #[.int .u8 0, .int .u8 0])⟩,
  some ⟨.array 16 140, 32, 32, some (.agg #[.int .u8 0, .int .u8 0, .int .u8 0, .int .u8 0, .int .u8 0, .int .u8 0, .int .u8 0, .int .u8 0, .int .u8 0, .int .u8 0, .int .u8 0, .int .u8 0, .int .u8 0, .int .u8 0, .int .u8 0, .int .u8 0, .int .u8 0, .int .u8 0, .int .u8 0, .int .u8 0, .int .u8 0, .int .u8 0, .int .u8 0, .int .u8 0, .int .u8 0, .int .u8 0, .int .u8 0, .int .u8 0, .int .u8 0, .int .u8 0, .int .u8 0, .int .u8 0])⟩,
  none,
  none,
  none,
  some ⟨.array 32 5, 32, 32, some (.agg #[.int .u8 0, .int .u8 0, .int .u8 0, .int .u8 0, .int .u8 0, .int .u8 0, .int .u8 0, .int .u8 0, .int .u8 0, .int .u8 0, .int .u8 0, .int .u8 0, .int .u8 0, .int .u8 0, .int .u8 0, .int .u8 0, .int .u8 0, .int .u8 0, .int .u8 0, .int .u8 0, .int .u8 0, .int .u8 0, .int .u8 0, .int .u8 0, .int .u8 0, .int .u8 0, .int .u8 0, .int .u8 0, .int .u8 0, .int .u8 0, .int .u8 0, .int .u8 0])⟩,
  none,
  some ⟨.struct [(0, 17), (1, 17), (2, 17), (3, 9)], 4, 40, some (.agg #[.pointer none, .pointer none, .pointer none, .string ⟨#[]⟩])⟩,
  some ⟨.struct [(0, 17), (1, 17), (2, 17), (3, 9)], 4, 40, some (.agg #[.pointer none, .pointer none, .pointer none, .string ⟨#[]⟩])⟩,
  some ⟨.array 0 16, 0, 0, some (.agg #[])⟩,
  some ⟨.struct [(0, 149)], 0, 0, some (.agg #[])⟩,
  some ⟨.struct [(0, 149)], 0, 0, some (.agg #[])⟩,
  none,
  some ⟨.int .u8, 1, 1, some (.int .u8 0)⟩,
  some ⟨.int .u8, 1, 1, some (.int .u8 0)⟩,
  none,
  some ⟨.int .i32, 1, 4, some (.int .i32 0)⟩,
  some ⟨.int .i32, 1, 4, some (.int .i32 0)⟩,
  some ⟨.struct [(0, 12), (1, 12), (2, 135), (3, 153), (4, 5), (5, 5), (6, 154), (7, 155), (8, 86), (9, 156), (10, 157)], 11, 48, some (.agg #[.int .u64 0, .int .u64 0, .int .u32 0, .int .u8 0, .int .u8 0, .int .u8 0, .int .u8 0, .nilFunc, .pointer none, .int .i32 0, .int .i32 0])⟩,
  some ⟨.struct [(0, 12), (1, 12), (2, 135), (3, 153), (4, 5), (5, 5), (6, 154), (7, 155), (8, 86), (9, 156), (10, 157)], 11, 48, some (.agg #[.int .u64 0, .int .u64 0, .int .u32 0, .int .u8 0, .int .u8 0, .int .u8 0, .int .u8 0, .nilFunc, .pointer none, .int .i32 0, .int .i32 0])⟩]
def te : TE := teOf teL
theorem T : TEok Tryd.prog te := TEok_of (by kernel_rfl)
theorem mix : Tryd.prog.follows .mixedOrders = true := by kernel_rfl

def encInt (x : Int) : List D := [.v (.int .i64 x)]
def encBool (x : Bool) : List D := [.v (.bool x)]
def encStr (x : ByteArray) : List D := [.v (.string x)]
def encInt_u8 (x : Int) : List D := [.v (.int .u8 x)]
def encInt_u64 (x : Int) : List D := [.v (.int .u64 x)]
def encInt_i32 (x : Int) : List D := [.v (.int .i32 x)]
def encLBool (x : List Bool) : List D := [.s (x.map encBool)]
def encLBoolO (x : List Bool) : List D := [.w 1 (x.map encBool)]
theorem frzLBool (x : List Bool) : FrzL (encLBoolO x) (encLBool x) := .cons (.map fun y => .vs rfl) .nil
def encLStr (x : List ByteArray) : List D := [.s (x.map encStr)]
def encLStrO (x : List ByteArray) : List D := [.w 1 (x.map encStr)]
theorem frzLStr (x : List ByteArray) : FrzL (encLStrO x) (encLStr x) := .cons (.map fun y => .vs rfl) .nil
structure Item where
  names : List ByteArray
  marks : List Int
  late : Bool
  deriving Inhabited, DecidableEq
def encItem (x : Item) : List D := [.s (x.names.map encStr), .s (x.marks.map encInt), .v (.bool x.late)]
def encItemO (x : Item) : List D := [.w 1 (x.names.map encStr), .w 1 (x.marks.map encInt), .v (.bool x.late)]
theorem frzItem (x : Item) : FrzL (encItemO x) (encItem x) := .cons (.map fun y => .vs rfl) (.cons (.map fun y => .vs rfl) (.cons (.vs rfl) (.nil)))
structure Change where
  tick : Int
  caller : Int
  item : Int
  name : Int
  mark : Int
  review : Bool
  deriving Inhabited, DecidableEq
def encChange (x : Change) : List D := [.v (.int .i64 x.tick), .v (.int .i64 x.caller), .v (.int .i64 x.item), .v (.int .i64 x.name), .v (.int .i64 x.mark), .v (.bool x.review)]
structure HiState where
  items : List Item
  open' : List (List Bool)
  deriving Inhabited, DecidableEq
def encHiState (x : HiState) : List D := [.s (x.items.map encItem), .s (x.open'.map encLBool)]
def encHiStateO (x : HiState) : List D := [.w 3 (x.items.map encItemO), .w 1 (x.open'.map encLBoolO)]
theorem frzHiState (x : HiState) : FrzL (encHiStateO x) (encHiState x) := .cons (.map fun y => frzItem y) (.cons (.map fun y => frzLBool y) (.nil))
structure HistoryState where
  items : List Item
  open' : MapL
  deriving Inhabited, DecidableEq
def encHistoryState (x : HistoryState) : List D := [.s (x.items.map encItem), .mi (encMe x.open')]
def encHistoryStateO (x : HistoryState) : List D := [.w 3 (x.items.map encItemO), .mw (encMe x.open')]
theorem frzHistoryState (x : HistoryState) : FrzL (encHistoryStateO x) (encHistoryState x) := .cons (.map fun y => frzItem y) (.cons (.mw) (.nil))
theorem mapT0 : MapT Tryd.prog 98 114 4 3 := ⟨by kernel_rfl, ⟨by kernel_rfl, by kernel_rfl, by kernel_rfl, by kernel_rfl⟩, by kernel_rfl, ⟨159, by kernel_rfl⟩⟩

def laws_szStringS_l1 : List ByteArray → Nat → Int → Option Int
  | [], k1, v8 =>
    some v8
  | y2 :: ys3, k1, v8 =>
    cond (decide ((w64 (v8 - (y2.size : Int))) < 0))
      (some (-1))
      (laws_szStringS_l1 ys3 (k1 + 1) (w64 (v8 - (y2.size : Int))))
def laws_szStringS_p (a : List ByteArray) (left : Int) : Option Int :=
  cond (decide ((w64 (left - (a.length : Int))) < 0))
    (some (-1))
    (laws_szStringS_l1 a 0 (w64 (left - (a.length : Int))))
theorem laws_szStringS_ok (a : List ByteArray) (left : Int) (r : Int) (hH : laws_szStringS_p a left = some r) : SpecR Tryd.prog 42 [.s (List.map encStr a), left] (.v (.int .i64 r)) := by
 refine fn_ok T Tryd.func42 rfl (by decide) rfl ?_
 refine AW.seq (AW.region ?_)
 refine AO.pu T ?_
 refine AO.nil (AW.seq ?_)
 refine AW.region ?_
 iterate 2 refine AO.pu T ?_
 refine AO.val rfl rfl (len_map_ok T rfl rfl rfl) ?_
 refine AO.val rfl rfl (arw_ok rfl rfl rfl rfl) ?_
 refine AO.pu T ?_
 refine AO.nil ?_
 iterate 2 refine AW.seq ?_
 refine AW.region ?_
 iterate 2 refine AO.pu T ?_
 refine AO.nil ?_
 refine AW.cond (b := decide ((w64 (left - (a.length : Int))) < 0)) rfl (fun hc => ?_) (fun hc => ?_)
 replace hH := condT hc hH
 refine AW.seq (AW.region ?_)
 refine AO.pu T ?_
 refine AO.nil (AW.ret ?_)
 have hR := someE hH; subst hR
 exact retQ.i [] rfl (.c (.c .v))
 replace hH := condF hc hH
 refine AW.skip ?_
 iterate 2 refine AW.seq ?_
 refine AW.region ?_
 refine AO.pu T ?_
 refine AO.nil ?_
 refine AW.block ?_
 refine AW.loopS (fun s : Nat × Int => (⟨[(0, .s (List.map encStr a)), (1, s.2), (5, (s.1 : Int))], [], 28, []⟩ : St)) (fun s => s.1 ≤ a.length ∧ laws_szStringS_l1 (a.drop s.1) s.1 s.2 = some r) (fun s => a.length - s.1) (0, w64 (left - (a.length : Int))) ⟨Nat.zero_le _, hH⟩ ?_ ?_
 exact Le.ct 0 0
 rintro ⟨k1, v8⟩ ⟨hk, hH⟩
 replace hH : laws_szStringS_l1 (a.drop k1) k1 v8 = some r := hH
 try dsimp only
 refine AW.boundM (t := 0) (l := a) rfl (fun hb5 => ?_)
 rcases hd4 : a.drop k1 with _ | ⟨y2, ys3⟩
 rw [hd4, laws_szStringS_l1] at hH
 have hlt6 := drop_ge hd4
 iterate 2 refine AW.seq ?_
 refine AW.region ?_
 iterate 2 refine AO.pu T ?_
 refine AO.val rfl rfl (len_map_ok T rfl rfl rfl) ?_
 refine AO.pu T ?_
 refine AO.nil ?_
 refine AW.condF' (b := decide ((k1 : Int) < (a.length : Int))) rfl (rngF hlt6) ?_
 refine AW.exit ?_
 refine AW.seq (AW.region ?_)
 iterate 2 refine AO.pu T ?_
 refine AO.nil (AW.ret ?_)
 have hR := someE hH; subst hR
 exact retQ.i [] rfl (.c (.c .v))
 rw [hd4, laws_szStringS_l1] at hH
 have hlt6 := drop_lt hd4
 iterate 2 refine AW.seq ?_
 refine AW.region ?_
 iterate 2 refine AO.pu T ?_
 refine AO.val rfl rfl (len_map_ok T rfl rfl rfl) ?_
 refine AO.pu T ?_
 refine AO.nil ?_
 refine AW.condT' (b := decide ((k1 : Int) < (a.length : Int))) rfl (rngT hlt6) ?_
 refine AW.skip ?_
 refine AW.seq ?_
 refine AW.block ?_
 refine AW.seq (AW.region ?_)
 iterate 3 refine AO.pu T ?_
 refine AO.val rfl rfl (ix_map_ok T rfl rfl rfl rfl rfl (getI_drop hd4) rfl) ?_
 iterate 2 refine AO.pu T ?_
 refine AO.val rfl rfl (arw_ok rfl rfl rfl rfl) ?_
 refine AO.pu T ?_
 refine AO.nil (AW.seq ?_)
 refine AW.region ?_
 iterate 2 refine AO.pu T ?_
 refine AO.nil ?_
 refine AW.cond (b := decide ((w64 (v8 - (y2.size : Int))) < 0)) rfl (fun hc => ?_) (fun hc => ?_)
 replace hH := condT hc hH
 refine AW.seq (AW.region ?_)
 refine AO.pu T ?_
 refine AO.nil (AW.ret ?_)
 have hR := someE hH; subst hR
 exact retQ.i [] rfl (.c (.c .v))
 replace hH := condF hc hH
 refine AW.skip ?_
 refine AW.region ?_
 refine AO.pu T ?_
 refine AO.val rfl rfl (ar_ok rfl rfl rfl rfl (inI_succ hlt6 hb5)) ?_
 refine AO.pu T ?_
 refine AO.nil ?_
 refine ⟨(k1 + 1, w64 (v8 - (y2.size : Int))), ⟨Nat.succ_le_of_lt hlt6, (by rw [drop_succ_of hd4]; exact hH)⟩, (by have := hlt6; dsimp only; omega), ?_⟩
 exact Le.ct 0 0

def laws_szIntS_p (a : List Int) (left : Int) : Option Int :=
  cond (decide ((w64 (left - (a.length : Int))) < 0))
    (some (-1))
    (some (w64 (left - (a.length : Int))))
theorem laws_szIntS_ok (a : List Int) (left : Int) (r : Int) (hH : laws_szIntS_p a left = some r) : SpecR Tryd.prog 43 [.s (List.map encInt a), left] (.v (.int .i64 r)) := by
 refine fn_ok T Tryd.func43 rfl (by decide) rfl ?_
 refine AW.seq (AW.region ?_)
 refine AO.pu T ?_
 refine AO.nil (AW.seq ?_)
 refine AW.region ?_
 iterate 2 refine AO.pu T ?_
 refine AO.val rfl rfl (len_map_ok T rfl rfl rfl) ?_
 refine AO.val rfl rfl (arw_ok rfl rfl rfl rfl) ?_
 refine AO.pu T ?_
 refine AO.nil ?_
 iterate 2 refine AW.seq ?_
 refine AW.region ?_
 iterate 2 refine AO.pu T ?_
 refine AO.nil ?_
 refine AW.cond (b := decide ((w64 (left - (a.length : Int))) < 0)) rfl (fun hc => ?_) (fun hc => ?_)
 replace hH := condT hc hH
 refine AW.seq (AW.region ?_)
 refine AO.pu T ?_
 refine AO.nil (AW.ret ?_)
 have hR := someE hH; subst hR
 exact retQ.i [] rfl (.c (.c .v))
 replace hH := condF hc hH
 refine AW.skip ?_
 refine AW.seq (AW.region ?_)
 iterate 2 refine AO.pu T ?_
 refine AO.nil (AW.ret ?_)
 have hR := someE hH; subst hR
 exact retQ.i [] rfl (.c (.c .v))

def laws_szItem_p (a : Item) (left : Int) : Option Int :=
  (laws_szStringS_p a.names left).bind fun x1 =>
  cond (decide (x1 < 0))
    (some (-1))
    ((laws_szIntS_p a.marks x1).bind fun x3 =>
    cond (decide (x3 < 0))
      (some (-1))
      (some x3))
theorem laws_szItem_ok (a : Item) (left : Int) (r : Int) (hH : laws_szItem_p a left = some r) : SpecR Tryd.prog 18 [.g (encItem a), left] (.v (.int .i64 r)) := by
 refine fn_ok T Tryd.func18 rfl (by decide) rfl ?_
 refine AW.seq (AW.region ?_)
 refine AO.step rfl (box_ok T rfl 1 rfl rfl rfl rfl) ?_
 refine AO.pu T ?_
 refine AO.nil (AW.seq ?_)
 obtain ⟨x1, hx2, hH⟩ := bindE hH
 refine AW.region ?_
 iterate 3 refine AO.pu T ?_
 refine AO.val rfl rfl (callV_ok rfl rfl rfl rfl (laws_szStringS_ok _ _ _ (hx2)) rfl) ?_
 refine AO.pu T ?_
 refine AO.nil ?_
 iterate 2 refine AW.seq ?_
 refine AW.region ?_
 iterate 2 refine AO.pu T ?_
 refine AO.nil ?_
 refine AW.cond (b := decide (x1 < 0)) rfl (fun hc => ?_) (fun hc => ?_)
 replace hH := condT hc hH
 refine AW.seq (AW.region ?_)
 refine AO.pu T ?_
 refine AO.nil (AW.ret ?_)
 have hR := someE hH; subst hR
 exact retQ.i [] rfl (.c (.c .v))
 replace hH := condF hc hH
 refine AW.skip ?_
 refine AW.seq ?_
 obtain ⟨x3, hx4, hH⟩ := bindE hH
 refine AW.region ?_
 iterate 3 refine AO.pu T ?_
 refine AO.val rfl rfl (callV_ok rfl rfl rfl rfl (laws_szIntS_ok _ _ _ (hx4)) rfl) ?_
 refine AO.pu T ?_
 refine AO.nil ?_
 iterate 2 refine AW.seq ?_
 refine AW.region ?_
 iterate 2 refine AO.pu T ?_
 refine AO.nil ?_
 refine AW.cond (b := decide (x3 < 0)) rfl (fun hc => ?_) (fun hc => ?_)
 replace hH := condT hc hH
 refine AW.seq (AW.region ?_)
 refine AO.pu T ?_
 refine AO.nil (AW.ret ?_)
 have hR := someE hH; subst hR
 exact retQ.i [] rfl (.c (.c .v))
 replace hH := condF hc hH
 refine AW.skip ?_
 refine AW.seq (AW.region ?_)
 iterate 2 refine AO.pu T ?_
 refine AO.nil (AW.ret ?_)
 have hR := someE hH; subst hR
 exact retQ.i [] rfl (.c (.c .v))

def laws_szItemS_l1 : List Item → Nat → Int → Option Int
  | [], k1, v12 =>
    some v12
  | y2 :: ys3, k1, v12 =>
    (laws_szItem_p y2 v12).bind fun x14 =>
    cond (decide (x14 < 0))
      (some (-1))
      (laws_szItemS_l1 ys3 (k1 + 1) x14)
def laws_szItemS_p (a : List Item) (left : Int) : Option Int :=
  cond (decide ((w64 (left - (a.length : Int))) < 0))
    (some (-1))
    (laws_szItemS_l1 a 0 (w64 (left - (a.length : Int))))
theorem laws_szItemS_ok (a : List Item) (left : Int) (r : Int) (hH : laws_szItemS_p a left = some r) : SpecR Tryd.prog 5 [.s (List.map encItem a), left] (.v (.int .i64 r)) := by
 refine fn_ok T Tryd.func5 rfl (by decide) rfl ?_
 refine AW.seq (AW.region ?_)
 refine AO.pu T ?_
 refine AO.nil (AW.seq ?_)
 refine AW.region ?_
 iterate 2 refine AO.pu T ?_
 refine AO.val rfl rfl (len_map_ok T rfl rfl rfl) ?_
 refine AO.val rfl rfl (arw_ok rfl rfl rfl rfl) ?_
 refine AO.pu T ?_
 refine AO.nil ?_
 iterate 2 refine AW.seq ?_
 refine AW.region ?_
 iterate 2 refine AO.pu T ?_
 refine AO.nil ?_
 refine AW.cond (b := decide ((w64 (left - (a.length : Int))) < 0)) rfl (fun hc => ?_) (fun hc => ?_)
 replace hH := condT hc hH
 refine AW.seq (AW.region ?_)
 refine AO.pu T ?_
 refine AO.nil (AW.ret ?_)
 have hR := someE hH; subst hR
 exact retQ.i [] rfl (.c (.c .v))
 replace hH := condF hc hH
 refine AW.skip ?_
 iterate 2 refine AW.seq ?_
 refine AW.region ?_
 refine AO.pu T ?_
 refine AO.nil ?_
 refine AW.block ?_
 refine AW.loopS (fun s : Nat × Int => (⟨[(0, .s (List.map encItem a)), (1, s.2), (5, (s.1 : Int))], [], 27, []⟩ : St)) (fun s => s.1 ≤ a.length ∧ laws_szItemS_l1 (a.drop s.1) s.1 s.2 = some r) (fun s => a.length - s.1) (0, w64 (left - (a.length : Int))) ⟨Nat.zero_le _, hH⟩ ?_ ?_
 exact Le.ct 0 0
 rintro ⟨k1, v12⟩ ⟨hk, hH⟩
 replace hH : laws_szItemS_l1 (a.drop k1) k1 v12 = some r := hH
 try dsimp only
 refine AW.boundM (t := 0) (l := a) rfl (fun hb5 => ?_)
 rcases hd4 : a.drop k1 with _ | ⟨y2, ys3⟩
 rw [hd4, laws_szItemS_l1] at hH
 have hlt6 := drop_ge hd4
 iterate 2 refine AW.seq ?_
 refine AW.region ?_
 iterate 2 refine AO.pu T ?_
 refine AO.val rfl rfl (len_map_ok T rfl rfl rfl) ?_
 refine AO.pu T ?_
 refine AO.nil ?_
 refine AW.condF' (b := decide ((k1 : Int) < (a.length : Int))) rfl (rngF hlt6) ?_
 refine AW.exit ?_
 refine AW.seq (AW.region ?_)
 iterate 2 refine AO.pu T ?_
 refine AO.nil (AW.ret ?_)
 have hR := someE hH; subst hR
 exact retQ.i [] rfl (.c (.c .v))
 rw [hd4, laws_szItemS_l1] at hH
 have hlt6 := drop_lt hd4
 iterate 2 refine AW.seq ?_
 refine AW.region ?_
 iterate 2 refine AO.pu T ?_
 refine AO.val rfl rfl (len_map_ok T rfl rfl rfl) ?_
 refine AO.pu T ?_
 refine AO.nil ?_
 refine AW.condT' (b := decide ((k1 : Int) < (a.length : Int))) rfl (rngT hlt6) ?_
 refine AW.skip ?_
 refine AW.seq ?_
 refine AW.block ?_
 refine AW.seq ?_
 obtain ⟨x14, hx15, hH⟩ := bindE hH
 refine AW.region ?_
 iterate 2 refine AO.pu T ?_
 refine AO.val rfl rfl (ix_map_ok T rfl rfl rfl rfl rfl (getI_drop hd4) rfl) ?_
 refine AO.pu T (d := .g [.s (List.map encStr y2.names), .s (List.map encInt y2.marks), .v (.bool y2.late)]) ?_
 refine AO.pu T ?_
 refine AO.val rfl rfl (callV_ok rfl rfl rfl rfl (laws_szItem_ok _ _ _ (hx15)) rfl) ?_
 refine AO.pu T ?_
 refine AO.nil (AW.seq ?_)
 refine AW.region ?_
 iterate 2 refine AO.pu T ?_
 refine AO.nil ?_
 refine AW.cond (b := decide (x14 < 0)) rfl (fun hc => ?_) (fun hc => ?_)
 replace hH := condT hc hH
 refine AW.seq (AW.region ?_)
 refine AO.pu T ?_
 refine AO.nil (AW.ret ?_)
 have hR := someE hH; subst hR
 exact retQ.i [] rfl (.c (.c .v))
 replace hH := condF hc hH
 refine AW.skip ?_
 refine AW.region ?_
 refine AO.pu T ?_
 refine AO.val rfl rfl (ar_ok rfl rfl rfl rfl (inI_succ hlt6 hb5)) ?_
 refine AO.pu T ?_
 refine AO.nil ?_
 refine ⟨(k1 + 1, x14), ⟨Nat.succ_le_of_lt hlt6, (by rw [drop_succ_of hd4]; exact hH)⟩, (by have := hlt6; dsimp only; omega), ?_⟩
 exact Le.ct 0 0

def laws_toStringS_l1 : List ByteArray → Nat → List ByteArray → Option ((List ByteArray))
  | [], k3, v14 =>
    some v14
  | y4 :: ys5, k3, v14 =>
    (getI v14 (k3 : Int)).bind fun x16 =>
    laws_toStringS_l1 ys5 (k3 + 1) (v14.set ((k3 : Int).toNat) y4)
def laws_toStringS_p (a : List ByteArray) : Option (List ByteArray) :=
  (need (decide (0 ≤ (a.length : Int)) && fitsB 16 (a.length : Int).toNat)).bind fun u1 =>
  laws_toStringS_l1 a 0 (List.replicate (a.length : Int).toNat (⟨#[]⟩ : ByteArray))
theorem laws_toStringS_ok (a : List ByteArray) (r : (List ByteArray)) (hH : laws_toStringS_p a = some r) : SpecR Tryd.prog 45 [.s (List.map encStr a)] (.w 1 (r.map encStr)) := by
 refine fn_ok T Tryd.func45 rfl (by decide) rfl ?_
 refine AW.seq (AW.region ?_)
 refine AO.pu T ?_
 refine AO.nil (AW.seq ?_)
 obtain ⟨u1, hx2, hH⟩ := bindE hH
 refine AW.region ?_
 refine AO.pu T ?_
 refine AO.val rfl rfl (len_map_ok T rfl rfl rfl) ?_
 refine AO.step rfl (make_map_ok T rfl 1 rfl rfl rfl rfl rfl (f := encStr) (zo := (⟨#[]⟩ : ByteArray)) (by repeat constructor) (by decide) rfl rfl (Bool.and_eq_true_iff.1 (needT (hx2))).1 (Bool.and_eq_true_iff.1 (needT (hx2))).2 rfl rfl) ?_
 refine AO.pu T ?_
 refine AO.nil ?_
 iterate 2 refine AW.seq ?_
 refine AW.region ?_
 refine AO.pu T ?_
 refine AO.nil ?_
 refine AW.block ?_
 refine AW.loopS (fun s : Nat × (List ByteArray) => (⟨[(0, .s (List.map encStr a)), (3, .R 1), (4, (s.1 : Int))], [(1, .row 1 (List.map encStr s.2))], 22, []⟩ : St)) (fun s => s.1 ≤ a.length ∧ laws_toStringS_l1 (a.drop s.1) s.1 s.2 = some r) (fun s => a.length - s.1) (0, (List.replicate (a.length : Int).toNat (⟨#[]⟩ : ByteArray))) ⟨Nat.zero_le _, hH⟩ ?_ ?_
 exact Le.ct 0 0
 rintro ⟨k3, v14⟩ ⟨hk, hH⟩
 replace hH : laws_toStringS_l1 (a.drop k3) k3 v14 = some r := hH
 try dsimp only
 refine AW.boundM (t := 0) (l := a) rfl (fun hb7 => ?_)
 rcases hd6 : a.drop k3 with _ | ⟨y4, ys5⟩
 rw [hd6, laws_toStringS_l1] at hH
 have hlt8 := drop_ge hd6
 iterate 2 refine AW.seq ?_
 refine AW.region ?_
 iterate 2 refine AO.pu T ?_
 refine AO.val rfl rfl (len_map_ok T rfl rfl rfl) ?_
 refine AO.pu T ?_
 refine AO.nil ?_
 refine AW.condF' (b := decide ((k3 : Int) < (a.length : Int))) rfl (rngF hlt8) ?_
 refine AW.exit ?_
 refine AW.seq (AW.region ?_)
 iterate 2 refine AO.pu T ?_
 refine AO.nil (AW.ret ?_)
 have hR := someE hH; subst hR
 exact retQ.i [1] rfl (.c (.c (.rowR rfl)))
 rw [hd6, laws_toStringS_l1] at hH
 have hlt8 := drop_lt hd6
 iterate 2 refine AW.seq ?_
 refine AW.region ?_
 iterate 2 refine AO.pu T ?_
 refine AO.val rfl rfl (len_map_ok T rfl rfl rfl) ?_
 refine AO.pu T ?_
 refine AO.nil ?_
 refine AW.condT' (b := decide ((k3 : Int) < (a.length : Int))) rfl (rngT hlt8) ?_
 refine AW.skip ?_
 refine AW.seq ?_
 refine AW.block ?_
 obtain ⟨x16, hx17, hH⟩ := bindE hH
 refine AW.region ?_
 iterate 4 refine AO.pu T ?_
 refine AO.val rfl rfl (ix_map_ok T rfl rfl rfl rfl rfl (getI_drop hd6) rfl) ?_
 refine AO.pu T ?_
 refine AO.val rfl rfl (ix_row_ok T rfl rfl rfl rfl rfl rfl (hx17)) ?_
 refine AO.step rfl (store_row_ok T rfl rfl rfl rfl rfl (getI_get (hx17)) rfl rfl rfl rfl (u' := y4) rfl rfl) ?_
 refine AO.nil ?_
 refine AW.region ?_
 refine AO.pu T ?_
 refine AO.val rfl rfl (ar_ok rfl rfl rfl rfl (inI_succ hlt8 hb7)) ?_
 refine AO.pu T ?_
 refine AO.nil ?_
 refine ⟨(k3 + 1, (v14.set ((k3 : Int).toNat) y4)), ⟨Nat.succ_le_of_lt hlt8, (by rw [drop_succ_of hd6]; exact hH)⟩, (by have := hlt8; dsimp only; omega), ?_⟩
 exact Le.ct 0 0

def laws_toIntS_l1 : List Int → Nat → List Int → Option ((List Int))
  | [], k3, v14 =>
    some v14
  | y4 :: ys5, k3, v14 =>
    (getI v14 (k3 : Int)).bind fun x16 =>
    laws_toIntS_l1 ys5 (k3 + 1) (v14.set ((k3 : Int).toNat) y4)
def laws_toIntS_p (a : List Int) : Option (List Int) :=
  (need (decide (0 ≤ (a.length : Int)) && fitsB 8 (a.length : Int).toNat)).bind fun u1 =>
  laws_toIntS_l1 a 0 (List.replicate (a.length : Int).toNat (0 : Int))
theorem laws_toIntS_ok (a : List Int) (r : (List Int)) (hH : laws_toIntS_p a = some r) : SpecR Tryd.prog 46 [.s (List.map encInt a)] (.w 1 (r.map encInt)) := by
 refine fn_ok T Tryd.func46 rfl (by decide) rfl ?_
 refine AW.seq (AW.region ?_)
 refine AO.pu T ?_
 refine AO.nil (AW.seq ?_)
 obtain ⟨u1, hx2, hH⟩ := bindE hH
 refine AW.region ?_
 refine AO.pu T ?_
 refine AO.val rfl rfl (len_map_ok T rfl rfl rfl) ?_
 refine AO.step rfl (make_map_ok T rfl 1 rfl rfl rfl rfl rfl (f := encInt) (zo := 0) (by repeat constructor) (by decide) rfl rfl (Bool.and_eq_true_iff.1 (needT (hx2))).1 (Bool.and_eq_true_iff.1 (needT (hx2))).2 rfl rfl) ?_
 refine AO.pu T ?_
 refine AO.nil ?_
 iterate 2 refine AW.seq ?_
 refine AW.region ?_
 refine AO.pu T ?_
 refine AO.nil ?_
 refine AW.block ?_
 refine AW.loopS (fun s : Nat × (List Int) => (⟨[(0, .s (List.map encInt a)), (3, .R 1), (4, (s.1 : Int))], [(1, .row 1 (List.map encInt s.2))], 22, []⟩ : St)) (fun s => s.1 ≤ a.length ∧ laws_toIntS_l1 (a.drop s.1) s.1 s.2 = some r) (fun s => a.length - s.1) (0, (List.replicate (a.length : Int).toNat (0 : Int))) ⟨Nat.zero_le _, hH⟩ ?_ ?_
 exact Le.ct 0 0
 rintro ⟨k3, v14⟩ ⟨hk, hH⟩
 replace hH : laws_toIntS_l1 (a.drop k3) k3 v14 = some r := hH
 try dsimp only
 refine AW.boundM (t := 0) (l := a) rfl (fun hb7 => ?_)
 rcases hd6 : a.drop k3 with _ | ⟨y4, ys5⟩
 rw [hd6, laws_toIntS_l1] at hH
 have hlt8 := drop_ge hd6
 iterate 2 refine AW.seq ?_
 refine AW.region ?_
 iterate 2 refine AO.pu T ?_
 refine AO.val rfl rfl (len_map_ok T rfl rfl rfl) ?_
 refine AO.pu T ?_
 refine AO.nil ?_
 refine AW.condF' (b := decide ((k3 : Int) < (a.length : Int))) rfl (rngF hlt8) ?_
 refine AW.exit ?_
 refine AW.seq (AW.region ?_)
 iterate 2 refine AO.pu T ?_
 refine AO.nil (AW.ret ?_)
 have hR := someE hH; subst hR
 exact retQ.i [1] rfl (.c (.c (.rowR rfl)))
 rw [hd6, laws_toIntS_l1] at hH
 have hlt8 := drop_lt hd6
 iterate 2 refine AW.seq ?_
 refine AW.region ?_
 iterate 2 refine AO.pu T ?_
 refine AO.val rfl rfl (len_map_ok T rfl rfl rfl) ?_
 refine AO.pu T ?_
 refine AO.nil ?_
 refine AW.condT' (b := decide ((k3 : Int) < (a.length : Int))) rfl (rngT hlt8) ?_
 refine AW.skip ?_
 refine AW.seq ?_
 refine AW.block ?_
 obtain ⟨x16, hx17, hH⟩ := bindE hH
 refine AW.region ?_
 iterate 4 refine AO.pu T ?_
 refine AO.val rfl rfl (ix_map_ok T rfl rfl rfl rfl rfl (getI_drop hd6) rfl) ?_
 refine AO.pu T ?_
 refine AO.val rfl rfl (ix_row_ok T rfl rfl rfl rfl rfl rfl (hx17)) ?_
 refine AO.step rfl (store_row_ok T rfl rfl rfl rfl rfl (getI_get (hx17)) rfl rfl rfl rfl (u' := y4) rfl rfl) ?_
 refine AO.nil ?_
 refine AW.region ?_
 refine AO.pu T ?_
 refine AO.val rfl rfl (ar_ok rfl rfl rfl rfl (inI_succ hlt8 hb7)) ?_
 refine AO.pu T ?_
 refine AO.nil ?_
 refine ⟨(k3 + 1, (v14.set ((k3 : Int).toNat) y4)), ⟨Nat.succ_le_of_lt hlt8, (by rw [drop_succ_of hd6]; exact hH)⟩, (by have := hlt8; dsimp only; omega), ?_⟩
 exact Le.ct 0 0

def laws_toItem_p (a : Item) : Option Item :=
  (laws_toStringS_p a.names).bind fun x1 =>
  (laws_toIntS_p a.marks).bind fun x3 =>
  some (Item.mk x1 x3 a.late)
theorem laws_toItem_ok (a : Item) (r : Item) (hH : laws_toItem_p a = some r) : SpecR Tryd.prog 21 [.g (encItem a)] (.g (encItemO r)) := by
 refine fn_ok T Tryd.func21 rfl (by decide) rfl ?_
 refine AW.seq (AW.region ?_)
 refine AO.step rfl (box_ok T rfl 1 rfl rfl rfl rfl) ?_
 refine AO.step rfl (alloc_ok T rfl 2 rfl rfl rfl rfl rfl) ?_
 refine AO.nil (AW.seq ?_)
 refine AW.region ?_
 refine AO.step rfl (alloc_ok T rfl 3 rfl rfl rfl rfl rfl) ?_
 refine AO.nil (AW.seq ?_)
 obtain ⟨x1, hx2, hH⟩ := bindE hH
 refine AW.region ?_
 iterate 2 refine AO.pu T ?_
 refine AO.step rfl (call_ok rfl 4 rfl rfl rfl (laws_toStringS_ok _ _ (hx2)) rfl rfl rfl) ?_
 refine AO.pu T ?_
 refine AO.se T [.R 4, .w 0 [], .v (.bool false)] ?_
 refine AO.nil (AW.seq ?_)
 obtain ⟨x3, hx4, hH⟩ := bindE hH
 refine AW.region ?_
 iterate 2 refine AO.pu T ?_
 refine AO.step rfl (call_ok rfl 5 rfl rfl rfl (laws_toIntS_ok _ _ (hx4)) rfl rfl rfl) ?_
 refine AO.pu T ?_
 refine AO.se T [.R 4, .R 5, .v (.bool false)] ?_
 refine AO.nil (AW.seq ?_)
 refine AW.region ?_
 iterate 3 refine AO.pu T ?_
 refine AO.se T [.R 4, .R 5, .v (.bool a.late)] ?_
 refine AO.nil (AW.seq ?_)
 refine AW.region ?_
 refine AO.pu T (d := .g [.R 4, .R 5, .v (.bool a.late)]) ?_
 refine AO.se T [.R 4, .R 5, .v (.bool a.late)] ?_
 refine AO.nil (AW.ret ?_)
 have hR := someE hH; subst hR
 exact retQ.i [4, 5] rfl (.c (.g (expLC_cons (.rowR rfl) (expLC_cons (.rowR rfl) (expLC_cons .v (expLC_nil))))))

def laws_toItemS_l1 : List Item → Nat → List Item → Option ((List Item))
  | [], k3, v18 =>
    some v18
  | y4 :: ys5, k3, v18 =>
    (laws_toItem_p y4).bind fun x20 =>
    (getI v18 (k3 : Int)).bind fun x22 =>
    laws_toItemS_l1 ys5 (k3 + 1) (v18.set ((k3 : Int).toNat) x20)
def laws_toItemS_p (a : List Item) : Option (List Item) :=
  (need (decide (0 ≤ (a.length : Int)) && fitsB 56 (a.length : Int).toNat)).bind fun u1 =>
  laws_toItemS_l1 a 0 (List.replicate (a.length : Int).toNat (Item.mk [] [] false))
theorem laws_toItemS_ok (a : List Item) (r : (List Item)) (hH : laws_toItemS_p a = some r) : SpecR Tryd.prog 8 [.s (List.map encItem a)] (.w 3 (r.map encItemO)) := by
 refine fn_ok T Tryd.func8 rfl (by decide) rfl ?_
 refine AW.seq (AW.region ?_)
 refine AO.pu T ?_
 refine AO.nil (AW.seq ?_)
 obtain ⟨u1, hx2, hH⟩ := bindE hH
 refine AW.region ?_
 refine AO.pu T ?_
 refine AO.val rfl rfl (len_map_ok T rfl rfl rfl) ?_
 refine AO.step rfl (make_map_ok T rfl 1 rfl rfl rfl rfl rfl (f := encItemO) (zo := (Item.mk [] [] false)) (by repeat constructor) (by decide) rfl rfl (Bool.and_eq_true_iff.1 (needT (hx2))).1 (Bool.and_eq_true_iff.1 (needT (hx2))).2 rfl rfl) ?_
 refine AO.pu T ?_
 refine AO.nil ?_
 iterate 2 refine AW.seq ?_
 refine AW.region ?_
 refine AO.pu T ?_
 refine AO.nil ?_
 refine AW.block ?_
 refine AW.loopS (fun s : Nat × (List Item) => (⟨[(0, .s (List.map encItem a)), (3, .R 1), (4, (s.1 : Int))], [(1, .row 3 (List.map encItemO s.2))], 23, []⟩ : St)) (fun s => s.1 ≤ a.length ∧ laws_toItemS_l1 (a.drop s.1) s.1 s.2 = some r) (fun s => a.length - s.1) (0, (List.replicate (a.length : Int).toNat (Item.mk [] [] false))) ⟨Nat.zero_le _, hH⟩ ?_ ?_
 exact Le.ct 0 0
 rintro ⟨k3, v18⟩ ⟨hk, hH⟩
 replace hH : laws_toItemS_l1 (a.drop k3) k3 v18 = some r := hH
 try dsimp only
 refine AW.boundM (t := 0) (l := a) rfl (fun hb7 => ?_)
 rcases hd6 : a.drop k3 with _ | ⟨y4, ys5⟩
 rw [hd6, laws_toItemS_l1] at hH
 have hlt8 := drop_ge hd6
 iterate 2 refine AW.seq ?_
 refine AW.region ?_
 iterate 2 refine AO.pu T ?_
 refine AO.val rfl rfl (len_map_ok T rfl rfl rfl) ?_
 refine AO.pu T ?_
 refine AO.nil ?_
 refine AW.condF' (b := decide ((k3 : Int) < (a.length : Int))) rfl (rngF hlt8) ?_
 refine AW.exit ?_
 refine AW.seq (AW.region ?_)
 iterate 2 refine AO.pu T ?_
 refine AO.nil (AW.ret ?_)
 have hR := someE hH; subst hR
 exact retQ.i [1] rfl (.c (.c (.rowR rfl)))
 rw [hd6, laws_toItemS_l1] at hH
 have hlt8 := drop_lt hd6
 iterate 2 refine AW.seq ?_
 refine AW.region ?_
 iterate 2 refine AO.pu T ?_
 refine AO.val rfl rfl (len_map_ok T rfl rfl rfl) ?_
 refine AO.pu T ?_
 refine AO.nil ?_
 refine AW.condT' (b := decide ((k3 : Int) < (a.length : Int))) rfl (rngT hlt8) ?_
 refine AW.skip ?_
 refine AW.seq ?_
 refine AW.block ?_
 obtain ⟨x20, hx21, hH⟩ := bindE hH
 obtain ⟨x22, hx23, hH⟩ := bindE hH
 refine AW.region ?_
 iterate 4 refine AO.pu T ?_
 refine AO.val rfl rfl (ix_map_ok T rfl rfl rfl rfl rfl (getI_drop hd6) rfl) ?_
 refine AO.pu T (d := .g [.s (List.map encStr y4.names), .s (List.map encInt y4.marks), .v (.bool y4.late)]) ?_
 refine AO.step rfl (call_ok rfl 6 rfl rfl rfl (laws_toItem_ok _ _ (hx21)) rfl rfl rfl) ?_
 refine AO.val rfl rfl (ix_row_ok T rfl rfl rfl rfl rfl rfl (hx23)) ?_
 refine AO.step rfl (store_rowO_ok T (ids := [6, 7]) rfl rfl rfl rfl rfl (getI_get (hx23)) rfl (expLC_cons (.rowR rfl) (expLC_cons (.rowR rfl) (expLC_cons .v (expLC_nil)))) (by decide) rfl rfl (u' := x20) rfl rfl) ?_
 refine AO.nil ?_
 refine AW.region ?_
 refine AO.pu T ?_
 refine AO.val rfl rfl (ar_ok rfl rfl rfl rfl (inI_succ hlt8 hb7)) ?_
 refine AO.pu T ?_
 refine AO.nil ?_
 refine ⟨(k3 + 1, (v18.set ((k3 : Int).toNat) x20)), ⟨Nat.succ_le_of_lt hlt8, (by rw [drop_succ_of hd6]; exact hH)⟩, (by have := hlt8; dsimp only; omega), ?_⟩
 exact Le.ct 0 0

def spec_l1Split_l1 (sA : ByteArray) (b : Int) : Nat → List ByteArray → Int → Int → Option ((List ByteArray))
  | 0, _, _, _ => none
  | k1 + 1, v17, v18, v19 =>
    cond (decide (v19 < (sA.size : Int)))
      ((strI sA v19).bind fun b21 =>
      cond ((b21.toNat : Int) == b)
        ((need (inB v18 v19 sA.size)).bind fun u23 =>
        (need (fitsB 16 (v17.length + ([(ByteArray.extract sA v18.toNat v19.toNat)]).length))).bind fun u25 =>
        spec_l1Split_l1 sA b k1 (v17 ++ [(ByteArray.extract sA v18.toNat v19.toNat)]) (w64 (v19 + 1)) (w64 (v19 + 1)))
        (spec_l1Split_l1 sA b k1 v17 v18 (w64 (v19 + 1))))
      ((need (inB v18 sA.size sA.size)).bind fun u27 =>
      (need (fitsB 16 (v17.length + ([(ByteArray.extract sA v18.toNat sA.size)]).length))).bind fun u29 =>
      some (v17 ++ [(ByteArray.extract sA v18.toNat sA.size)]))
def spec_l1Split_p (fuel : Nat) (sA : ByteArray) (b : Int) : Option (List ByteArray) :=
  spec_l1Split_l1 sA b fuel [] 0 0
theorem spec_l1Split_ok (fuel : Nat) (sA : ByteArray) (b : Int) (r : (List ByteArray)) (hH : spec_l1Split_p fuel sA b = some r) : SpecR Tryd.prog 29 [.v (.string sA), .v (.int .u8 b)] (.w 1 (r.map encStr)) := by
 refine fn_ok T Tryd.func29 rfl (by decide) rfl ?_
 refine AW.seq (AW.region ?_)
 refine AO.pu T ?_
 refine AO.nil (AW.seq ?_)
 refine AW.region ?_
 refine AO.pu T ?_
 refine AO.nil (AW.seq ?_)
 refine AW.region ?_
 refine AO.pu T ?_
 refine AO.nil ?_
 iterate 2 refine AW.seq ?_
 refine AW.region ?_
 refine AO.pu T ?_
 refine AO.nil ?_
 refine AW.block ?_
 refine AW.loopS (fun s : Nat × (List ByteArray) × Int × Int => (⟨[(0, .v (.string sA)), (1, .v (.int .u8 b)), (5, .R 4), (6, s.2.2.1), (7, s.2.2.2)], [(4, .row 1 (List.map encStr s.2.1))], 34, []⟩ : St)) (fun s => spec_l1Split_l1 sA b s.1 s.2.1 s.2.2.1 s.2.2.2 = some r) (fun s => s.1) (fuel, [], 0, 0) hH ?_ ?_
 refine Le.trans (Le.void 5 4 1 rfl rfl) ?_
 exact Le.ct 0 0
 rintro ⟨k1, v17, v18, v19⟩ hH
 replace hH : spec_l1Split_l1 sA b k1 v17 v18 v19 = some r := hH
 try dsimp only
 rcases k1 with _ | k1
 cases (show none = some _ from hH)
 rw [spec_l1Split_l1] at hH
 iterate 2 refine AW.seq ?_
 refine AW.region ?_
 iterate 4 refine AO.pu T ?_
 refine AO.nil ?_
 refine AW.cond (b := decide (v19 < (sA.size : Int))) rfl (fun hc => ?_) (fun hc => ?_)
 replace hH := condT hc hH
 refine AW.skip ?_
 refine AW.seq ?_
 refine AW.block ?_
 refine AW.seq ?_
 obtain ⟨b21, hx22, hH⟩ := bindE hH
 refine AW.region ?_
 iterate 2 refine AO.pu T ?_
 refine AO.val rfl rfl (ix_strI_ok T rfl rfl rfl rfl (hx22)) ?_
 iterate 2 refine AO.pu T ?_
 refine AO.nil ?_
 refine AW.cond (b := ((b21.toNat : Int) == b)) rfl (fun hc => ?_) (fun hc => ?_)
 replace hH := condT hc hH
 refine AW.seq ?_
 obtain ⟨u23, hx24, hH⟩ := bindE hH
 obtain ⟨u25, hx26, hH⟩ := bindE hH
 refine AW.region ?_
 iterate 4 refine AO.pu T ?_
 refine AO.val rfl rfl (slice_str_lh T rfl rfl rfl rfl rfl (needT (hx24))) ?_
 refine AO.step rfl (mk_map_ok T rfl 5 rfl rfl rfl rfl rfl (f := encStr) (l := [(ByteArray.extract sA v18.toNat v19.toNat)]) rfl rfl (fun _ => rfl) rfl rfl rfl rfl rfl) ?_
 refine AO.step rfl (app_rv_map T rfl 6 rfl rfl rfl rfl rfl (by decide) rfl rfl rfl rfl (fun _ => rfl) (needT (hx26)) rfl rfl) ?_
 refine AO.pu T ?_
 refine AO.nil ?_
 refine AW.region ?_
 refine AO.pu T ?_
 refine AO.val rfl rfl (arw_ok rfl rfl rfl rfl) ?_
 refine AO.pu T ?_
 refine AO.nil ?_
 refine AW.region ?_
 refine AO.pu T ?_
 refine AO.val rfl rfl (arw_ok rfl rfl rfl rfl) ?_
 refine AO.pu T ?_
 refine AO.nil ?_
 refine ⟨(k1, (v17 ++ [(ByteArray.extract sA v18.toNat v19.toNat)]), w64 (v19 + 1), w64 (v19 + 1)), hH, Nat.lt_succ_self _, ?_⟩
 exact Le.ct 6 4
 replace hH := condF hc hH
 refine AW.skip ?_
 refine AW.region ?_
 refine AO.pu T ?_
 refine AO.val rfl rfl (arw_ok rfl rfl rfl rfl) ?_
 refine AO.pu T ?_
 refine AO.nil ?_
 refine ⟨(k1, v17, v18, w64 (v19 + 1)), hH, Nat.lt_succ_self _, ?_⟩
 exact Le.ct 0 0
 replace hH := condF hc hH
 refine AW.exit ?_
 refine AW.seq ?_
 obtain ⟨u27, hx28, hH⟩ := bindE hH
 obtain ⟨u29, hx30, hH⟩ := bindE hH
 refine AW.region ?_
 iterate 3 refine AO.pu T ?_
 refine AO.val rfl rfl (slice_str_lo T rfl rfl rfl rfl (needT (hx28))) ?_
 refine AO.step rfl (mk_map_ok T rfl 7 rfl rfl rfl rfl rfl (f := encStr) (l := [(ByteArray.extract sA v18.toNat sA.size)]) rfl rfl (fun _ => rfl) rfl rfl rfl rfl rfl) ?_
 refine AO.step rfl (app_rv_map T rfl 8 rfl rfl rfl rfl rfl (by decide) rfl rfl rfl rfl (fun _ => rfl) (needT (hx30)) rfl rfl) ?_
 refine AO.pu T ?_
 refine AO.nil (AW.ret ?_)
 have hR := someE hH; subst hR
 exact retQ.i [8] rfl (.c (.c (.rowR rfl)))

def spec_itByte_p (b : Int) : Option Bool :=
  some ((decide (b ≥ 65) && decide (b ≤ 90)) || (decide (b ≥ 48) && decide (b ≤ 57)))
theorem spec_itByte_ok (b : Int) (r : Bool) (hH : spec_itByte_p b = some r) : SpecR Tryd.prog 85 [.v (.int .u8 b)] (.v (.bool r)) := by
 refine fn_ok T Tryd.func85 rfl (by decide) rfl ?_
 refine AW.seq (AW.region ?_)
 refine AO.pu T ?_
 refine AO.nil (AW.seq ?_)
 refine AW.region ?_
 iterate 3 refine AO.pu T ?_
 refine AO.pureG T [] rfl trivial rfl rfl ?_
 refine AO.pureG T [6] rfl ⟨fun h => h, trivial⟩ rfl rfl ?_
 refine AO.val rfl rfl (pick_and rfl rfl rfl rfl) ?_
 refine AO.pu T ?_
 refine AO.pureG T [] rfl trivial rfl rfl ?_
 refine AO.pureG T [10] rfl ⟨fun h => h, trivial⟩ rfl rfl ?_
 refine AO.pureG T [11] rfl ⟨fun h => h, trivial⟩ rfl rfl ?_
 refine AO.pureG T [] rfl trivial rfl rfl ?_
 refine AO.pureG T [13] rfl ⟨fun h => h, trivial⟩ rfl rfl ?_
 refine AO.guard [12] rfl ⟨fun h => h, trivial⟩ (fun hg => pick_and rfl rfl rfl (by rw [hg]; exact Bool.true_and _)) rfl ?_
 refine AO.val rfl rfl (pick_or rfl rfl rfl rfl) ?_
 refine AO.pu T ?_
 refine AO.nil (AW.ret ?_)
 have hR := someE hH; subst hR
 exact retQ.i [] rfl (.c (.c .v))

def spec_l1In_p (n : Int) (lo : Int) (hi : Int) : Option Bool :=
  some (decide (n ≥ lo) && decide (n ≤ hi))
theorem spec_l1In_ok (n : Int) (lo : Int) (hi : Int) (r : Bool) (hH : spec_l1In_p n lo hi = some r) : SpecR Tryd.prog 54 [n, lo, hi] (.v (.bool r)) := by
 refine fn_ok T Tryd.func54 rfl (by decide) rfl ?_
 refine AW.seq (AW.region ?_)
 refine AO.pu T ?_
 refine AO.nil (AW.seq ?_)
 refine AW.region ?_
 iterate 4 refine AO.pu T ?_
 iterate 2 refine AO.pureG T [] rfl trivial rfl rfl ?_
 refine AO.pureG T [11, 12] rfl ⟨fun h => h, fun h => h, trivial⟩ rfl rfl ?_
 refine AO.val rfl rfl (pick_and rfl rfl rfl rfl) ?_
 refine AO.pu T ?_
 refine AO.nil (AW.ret ?_)
 have hR := someE hH; subst hR
 exact retQ.i [] rfl (.c (.c .v))

def spec_itName_l1 (sA : ByteArray) : Nat → Int → Option Bool
  | 0, _ => none
  | k1 + 1, v11 =>
    cond (decide (v11 < (sA.size : Int)))
      ((strI sA v11).bind fun b13 =>
      (spec_itByte_p (b13.toNat : Int)).bind fun x15 =>
      cond (!x15)
        (some false)
        (spec_itName_l1 sA k1 (w64 (v11 + 1))))
      ((spec_l1In_p (sA.size : Int) 1 5).bind fun x17 =>
      some x17)
def spec_itName_p (fuel : Nat) (sA : ByteArray) : Option Bool :=
  spec_itName_l1 sA fuel 0
theorem spec_itName_ok (fuel : Nat) (sA : ByteArray) (r : Bool) (hH : spec_itName_p fuel sA = some r) : SpecR Tryd.prog 66 [.v (.string sA)] (.v (.bool r)) := by
 refine fn_ok T Tryd.func66 rfl (by decide) rfl ?_
 refine AW.seq (AW.region ?_)
 refine AO.pu T ?_
 refine AO.nil ?_
 iterate 2 refine AW.seq ?_
 refine AW.region ?_
 refine AO.pu T ?_
 refine AO.nil ?_
 refine AW.block ?_
 refine AW.loopS (fun s : Nat × Int => (⟨[(0, .v (.string sA)), (3, s.2)], [], 18, []⟩ : St)) (fun s => spec_itName_l1 sA s.1 s.2 = some r) (fun s => s.1) (fuel, 0) hH ?_ ?_
 exact Le.ct 0 0
 rintro ⟨k1, v11⟩ hH
 replace hH : spec_itName_l1 sA k1 v11 = some r := hH
 try dsimp only
 rcases k1 with _ | k1
 cases (show none = some _ from hH)
 rw [spec_itName_l1] at hH
 iterate 2 refine AW.seq ?_
 refine AW.region ?_
 iterate 4 refine AO.pu T ?_
 refine AO.nil ?_
 refine AW.cond (b := decide (v11 < (sA.size : Int))) rfl (fun hc => ?_) (fun hc => ?_)
 replace hH := condT hc hH
 refine AW.skip ?_
 refine AW.seq ?_
 refine AW.block ?_
 refine AW.seq ?_
 obtain ⟨b13, hx14, hH⟩ := bindE hH
 obtain ⟨x15, hx16, hH⟩ := bindE hH
 refine AW.region ?_
 iterate 2 refine AO.pu T ?_
 refine AO.val rfl rfl (ix_strI_ok T rfl rfl rfl rfl (hx14)) ?_
 refine AO.val rfl rfl (callV_ok rfl rfl rfl rfl (spec_itByte_ok _ _ (hx16)) rfl) ?_
 refine AO.pu T ?_
 refine AO.nil ?_
 refine AW.cond (b := (!x15)) rfl (fun hc => ?_) (fun hc => ?_)
 replace hH := condT hc hH
 refine AW.seq (AW.region ?_)
 refine AO.pu T ?_
 refine AO.nil (AW.ret ?_)
 have hR := someE hH; subst hR
 exact retQ.i [] rfl (.c (.c .v))
 replace hH := condF hc hH
 refine AW.skip ?_
 refine AW.region ?_
 refine AO.pu T ?_
 refine AO.val rfl rfl (arw_ok rfl rfl rfl rfl) ?_
 refine AO.pu T ?_
 refine AO.nil ?_
 refine ⟨(k1, w64 (v11 + 1)), hH, Nat.lt_succ_self _, ?_⟩
 exact Le.ct 0 0
 replace hH := condF hc hH
 refine AW.exit ?_
 refine AW.seq ?_
 obtain ⟨x17, hx18, hH⟩ := bindE hH
 refine AW.region ?_
 iterate 2 refine AO.pu T ?_
 refine AO.val rfl rfl (callV_ok rfl rfl rfl rfl (spec_l1In_ok _ _ _ _ (hx18)) rfl) ?_
 refine AO.pu T ?_
 refine AO.nil (AW.ret ?_)
 have hR := someE hH; subst hR
 exact retQ.i [] rfl (.c (.c .v))

def spec_l1All_l1 (lo : Int) (hi : Int) : List Int → Nat → Option Bool
  | [], k1 =>
    some true
  | y2 :: ys3, k1 =>
    (spec_l1In_p y2 lo hi).bind fun x12 =>
    cond (!x12)
      (some false)
      (spec_l1All_l1 lo hi ys3 (k1 + 1))
def spec_l1All_p (l : List Int) (lo : Int) (hi : Int) : Option Bool :=
  spec_l1All_l1 lo hi l 0
theorem spec_l1All_ok (l : List Int) (lo : Int) (hi : Int) (r : Bool) (hH : spec_l1All_p l lo hi = some r) : SpecR Tryd.prog 67 [.s (List.map encInt l), lo, hi] (.v (.bool r)) := by
 refine fn_ok T Tryd.func67 rfl (by decide) rfl ?_
 refine AW.seq (AW.region ?_)
 refine AO.pu T ?_
 refine AO.nil ?_
 iterate 2 refine AW.seq ?_
 refine AW.region ?_
 refine AO.pu T ?_
 refine AO.val rfl rfl (len_map_ok T rfl rfl rfl) ?_
 refine AO.pu T ?_
 refine AO.nil ?_
 refine AW.block ?_
 refine AW.loopS (fun s : Nat => (⟨[(1, lo), (2, hi), (9, .s (List.map encInt l)), (10, (l.length : Int)), (11, (s : Int))], [], 21, []⟩ : St)) (fun s => s ≤ l.length ∧ spec_l1All_l1 lo hi (l.drop s) s = some r) (fun s => l.length - s) 0 ⟨Nat.zero_le _, hH⟩ ?_ ?_
 exact Le.ct 0 0
 rintro k1 ⟨hk, hH⟩
 replace hH : spec_l1All_l1 lo hi (l.drop k1) k1 = some r := hH
 try dsimp only
 refine AW.boundM (t := 9) (l := l) rfl (fun hb5 => ?_)
 rcases hd4 : l.drop k1 with _ | ⟨y2, ys3⟩
 rw [hd4, spec_l1All_l1] at hH
 have hlt6 := drop_ge hd4
 refine AW.seq (AW.region ?_)
 refine AO.pu T ?_
 refine AO.nil (AW.seq ?_)
 refine AW.condF' (b := decide ((k1 : Int) < (l.length : Int))) rfl (rngF hlt6) ?_
 refine AW.exit ?_
 refine AW.seq (AW.region ?_)
 refine AO.pu T ?_
 refine AO.nil (AW.ret ?_)
 have hR := someE hH; subst hR
 exact retQ.i [] rfl (.c (.c .v))
 rw [hd4, spec_l1All_l1] at hH
 have hlt6 := drop_lt hd4
 refine AW.seq (AW.region ?_)
 refine AO.pu T ?_
 refine AO.nil (AW.seq ?_)
 refine AW.condT' (b := decide ((k1 : Int) < (l.length : Int))) rfl (rngT hlt6) ?_
 refine AW.skip ?_
 refine AW.seq ?_
 refine AW.block ?_
 refine AW.seq (AW.region ?_)
 refine AO.val rfl rfl (ix_map_ok T rfl rfl rfl rfl rfl (getI_drop hd4) rfl) ?_
 iterate 2 refine AO.pu T ?_
 refine AO.nil (AW.seq ?_)
 obtain ⟨x12, hx13, hH⟩ := bindE hH
 refine AW.region ?_
 iterate 3 refine AO.pu T ?_
 refine AO.val rfl rfl (callV_ok rfl rfl rfl rfl (spec_l1In_ok _ _ _ _ (hx13)) rfl) ?_
 refine AO.pu T ?_
 refine AO.nil ?_
 refine AW.cond (b := (!x12)) rfl (fun hc => ?_) (fun hc => ?_)
 replace hH := condT hc hH
 refine AW.seq (AW.region ?_)
 refine AO.pu T ?_
 refine AO.nil (AW.ret ?_)
 have hR := someE hH; subst hR
 exact retQ.i [] rfl (.c (.c .v))
 replace hH := condF hc hH
 refine AW.skip ?_
 refine AW.region ?_
 refine AO.val rfl rfl (ar_ok rfl rfl rfl rfl (inI_succ hlt6 hb5)) ?_
 refine AO.pu T ?_
 refine AO.nil ?_
 refine ⟨k1 + 1, ⟨Nat.succ_le_of_lt hlt6, (by rw [drop_succ_of hd4]; exact hH)⟩, (by have := hlt6; dsimp only; omega), ?_⟩
 exact Le.ct 0 0

def spec_itGood_l1 (it : Item) (fuel : Nat) : List ByteArray → Nat → Option Bool
  | [], k1 =>
    (spec_l1In_p (it.names.length : Int) 1 3).bind fun x12 =>
    (opt (x12 && ((it.marks.length : Int) == (it.names.length : Int))) default (spec_l1All_p it.marks 0 3)).bind fun x14 =>
    some ((x12 && ((it.marks.length : Int) == (it.names.length : Int))) && x14)
  | y2 :: ys3, k1 =>
    (spec_itName_p fuel y2).bind fun x16 =>
    cond (!x16)
      (some false)
      (spec_itGood_l1 it fuel ys3 (k1 + 1))
def spec_itGood_p (fuel : Nat) (it : Item) : Option Bool :=
  spec_itGood_l1 it fuel it.names 0
theorem spec_itGood_ok (fuel : Nat) (it : Item) (r : Bool) (hH : spec_itGood_p fuel it = some r) : SpecR Tryd.prog 53 [.g (encItem it)] (.v (.bool r)) := by
 refine fn_ok T Tryd.func53 rfl (by decide) rfl ?_
 refine AW.seq (AW.region ?_)
 refine AO.step rfl (box_ok T rfl 1 rfl rfl rfl rfl) ?_
 refine AO.pu T ?_
 refine AO.nil ?_
 iterate 2 refine AW.seq ?_
 refine AW.region ?_
 iterate 2 refine AO.pu T ?_
 refine AO.val rfl rfl (len_map_ok T rfl rfl rfl) ?_
 refine AO.pu T ?_
 refine AO.nil ?_
 refine AW.block ?_
 refine AW.loopS (fun s : Nat => (⟨[(1, .p 1 0), (6, .s (List.map encStr it.names)), (7, (it.names.length : Int)), (8, (s : Int))], [(1, .box [.s (List.map encStr it.names), .s (List.map encInt it.marks), .v (.bool it.late)])], 34, []⟩ : St)) (fun s => s ≤ it.names.length ∧ spec_itGood_l1 it fuel (it.names.drop s) s = some r) (fun s => it.names.length - s) 0 ⟨Nat.zero_le _, hH⟩ ?_ ?_
 exact Le.ct 0 0
 rintro k1 ⟨hk, hH⟩
 replace hH : spec_itGood_l1 it fuel (it.names.drop k1) k1 = some r := hH
 try dsimp only
 refine AW.boundM (t := 6) (l := it.names) rfl (fun hb5 => ?_)
 rcases hd4 : it.names.drop k1 with _ | ⟨y2, ys3⟩
 rw [hd4, spec_itGood_l1] at hH
 have hlt6 := drop_ge hd4
 refine AW.seq (AW.region ?_)
 refine AO.pu T ?_
 refine AO.nil (AW.seq ?_)
 refine AW.condF' (b := decide ((k1 : Int) < (it.names.length : Int))) rfl (rngF hlt6) ?_
 refine AW.exit ?_
 refine AW.seq ?_
 obtain ⟨x12, hx13, hH⟩ := bindE hH
 obtain ⟨x14, hx15, hH⟩ := bindE hH
 refine AW.region ?_
 iterate 2 refine AO.pu T ?_
 refine AO.val rfl rfl (len_map_ok T rfl rfl rfl) ?_
 refine AO.val rfl rfl (callV_ok rfl rfl rfl rfl (spec_l1In_ok _ _ _ _ (hx13)) rfl) ?_
 refine AO.pu T ?_
 refine AO.pureG T [] rfl trivial rfl rfl ?_
 refine AO.pureG T [21] rfl ⟨fun h => h, trivial⟩ rfl rfl ?_
 refine AO.guard [22] rfl ⟨fun h => h, trivial⟩ (fun hg => len_map_ok T rfl rfl rfl) rfl ?_
 refine AO.pureG T [] rfl trivial rfl rfl ?_
 refine AO.pureG T [24] rfl ⟨fun h => h, trivial⟩ rfl rfl ?_
 refine AO.guard [25] rfl ⟨fun h => h, trivial⟩ (fun hg => len_map_ok T rfl rfl rfl) rfl ?_
 refine AO.pureG T [23, 26] rfl ⟨fun h => h, fun h => h, trivial⟩ rfl rfl ?_
 refine AO.val rfl rfl (pick_and rfl rfl rfl rfl) ?_
 refine AO.pu T ?_
 refine AO.pureG T [] rfl trivial rfl rfl ?_
 refine AO.pureG T [30] rfl ⟨fun h => h, trivial⟩ rfl rfl ?_
 refine AO.guard [31] rfl ⟨fun h => h, trivial⟩ (fun hg => callV_ok rfl rfl rfl rfl (spec_l1All_ok _ _ _ _ (optT hx15 hg)) rfl) rfl ?_
 refine AO.val rfl rfl (pick_and rfl rfl rfl rfl) ?_
 refine AO.pu T ?_
 refine AO.nil (AW.ret ?_)
 have hR := someE hH; subst hR
 exact retQ.i [] rfl (.c (.c .v))
 rw [hd4, spec_itGood_l1] at hH
 have hlt6 := drop_lt hd4
 refine AW.seq (AW.region ?_)
 refine AO.pu T ?_
 refine AO.nil (AW.seq ?_)
 refine AW.condT' (b := decide ((k1 : Int) < (it.names.length : Int))) rfl (rngT hlt6) ?_
 refine AW.skip ?_
 refine AW.seq ?_
 refine AW.block ?_
 refine AW.seq (AW.region ?_)
 refine AO.val rfl rfl (ix_map_ok T rfl rfl rfl rfl rfl (getI_drop hd4) rfl) ?_
 iterate 2 refine AO.pu T ?_
 refine AO.nil (AW.seq ?_)
 obtain ⟨x16, hx17, hH⟩ := bindE hH
 refine AW.region ?_
 refine AO.pu T ?_
 refine AO.val rfl rfl (callV_ok rfl rfl rfl rfl (spec_itName_ok fuel _ _ (hx17)) rfl) ?_
 refine AO.pu T ?_
 refine AO.nil ?_
 refine AW.cond (b := (!x16)) rfl (fun hc => ?_) (fun hc => ?_)
 replace hH := condT hc hH
 refine AW.seq (AW.region ?_)
 refine AO.pu T ?_
 refine AO.nil (AW.ret ?_)
 have hR := someE hH; subst hR
 exact retQ.i [] rfl (.c (.c .v))
 replace hH := condF hc hH
 refine AW.skip ?_
 refine AW.region ?_
 refine AO.val rfl rfl (ar_ok rfl rfl rfl rfl (inI_succ hlt6 hb5)) ?_
 refine AO.pu T ?_
 refine AO.nil ?_
 refine ⟨k1 + 1, ⟨Nat.succ_le_of_lt hlt6, (by rw [drop_succ_of hd4]; exact hH)⟩, (by have := hlt6; dsimp only; omega), ?_⟩
 exact Le.ct 0 0

def spec_itList_l1 (l : List Item) (fuel : Nat) : List Item → Nat → Option Bool
  | [], k1 =>
    some (decide ((l.length : Int) ≤ 14))
  | y2 :: ys3, k1 =>
    (spec_itGood_p fuel y2).bind fun x12 =>
    cond (!x12)
      (some false)
      (spec_itList_l1 l fuel ys3 (k1 + 1))
def spec_itList_p (fuel : Nat) (l : List Item) : Option Bool :=
  spec_itList_l1 l fuel l 0
theorem spec_itList_ok (fuel : Nat) (l : List Item) (r : Bool) (hH : spec_itList_p fuel l = some r) : SpecR Tryd.prog 30 [.s (List.map encItem l)] (.v (.bool r)) := by
 refine fn_ok T Tryd.func30 rfl (by decide) rfl ?_
 refine AW.seq (AW.region ?_)
 refine AO.pu T ?_
 refine AO.nil ?_
 iterate 2 refine AW.seq ?_
 refine AW.region ?_
 refine AO.pu T ?_
 refine AO.val rfl rfl (len_map_ok T rfl rfl rfl) ?_
 refine AO.pu T ?_
 refine AO.nil ?_
 refine AW.block ?_
 refine AW.loopS (fun s : Nat => (⟨[(0, .s (List.map encItem l)), (5, .s (List.map encItem l)), (6, (l.length : Int)), (7, (s : Int))], [], 18, []⟩ : St)) (fun s => s ≤ l.length ∧ spec_itList_l1 l fuel (l.drop s) s = some r) (fun s => l.length - s) 0 ⟨Nat.zero_le _, hH⟩ ?_ ?_
 exact Le.ct 0 0
 rintro k1 ⟨hk, hH⟩
 replace hH : spec_itList_l1 l fuel (l.drop k1) k1 = some r := hH
 try dsimp only
 refine AW.boundM (t := 0) (l := l) rfl (fun hb5 => ?_)
 rcases hd4 : l.drop k1 with _ | ⟨y2, ys3⟩
 rw [hd4, spec_itList_l1] at hH
 have hlt6 := drop_ge hd4
 refine AW.seq (AW.region ?_)
 refine AO.pu T ?_
 refine AO.nil (AW.seq ?_)
 refine AW.condF' (b := decide ((k1 : Int) < (l.length : Int))) rfl (rngF hlt6) ?_
 refine AW.exit ?_
 refine AW.seq (AW.region ?_)
 refine AO.pu T ?_
 refine AO.val rfl rfl (len_map_ok T rfl rfl rfl) ?_
 iterate 2 refine AO.pu T ?_
 refine AO.nil (AW.ret ?_)
 have hR := someE hH; subst hR
 exact retQ.i [] rfl (.c (.c .v))
 rw [hd4, spec_itList_l1] at hH
 have hlt6 := drop_lt hd4
 refine AW.seq (AW.region ?_)
 refine AO.pu T ?_
 refine AO.nil (AW.seq ?_)
 refine AW.condT' (b := decide ((k1 : Int) < (l.length : Int))) rfl (rngT hlt6) ?_
 refine AW.skip ?_
 refine AW.seq ?_
 refine AW.block ?_
 refine AW.seq (AW.region ?_)
 refine AO.val rfl rfl (ix_map_ok T rfl rfl rfl rfl rfl (getI_drop hd4) rfl) ?_
 refine AO.pu T (d := .g [.s (List.map encStr y2.names), .s (List.map encInt y2.marks), .v (.bool y2.late)]) ?_
 refine AO.step rfl (alloc_ok T rfl 3 rfl rfl rfl rfl rfl) ?_
 refine AO.se T [.s (List.map encStr y2.names), .s (List.map encInt y2.marks), .v (.bool y2.late)] ?_
 refine AO.nil (AW.seq ?_)
 obtain ⟨x12, hx13, hH⟩ := bindE hH
 refine AW.region ?_
 refine AO.pu T (d := .g [.s (List.map encStr y2.names), .s (List.map encInt y2.marks), .v (.bool y2.late)]) ?_
 refine AO.val rfl rfl (callV_ok rfl rfl rfl rfl (spec_itGood_ok fuel _ _ (hx13)) rfl) ?_
 refine AO.pu T ?_
 refine AO.nil ?_
 refine AW.cond (b := (!x12)) rfl (fun hc => ?_) (fun hc => ?_)
 replace hH := condT hc hH
 refine AW.seq (AW.region ?_)
 refine AO.pu T ?_
 refine AO.nil (AW.ret ?_)
 have hR := someE hH; subst hR
 exact retQ.i [] rfl (.c (.c .v))
 replace hH := condF hc hH
 refine AW.skip ?_
 refine AW.region ?_
 refine AO.val rfl rfl (ar_ok rfl rfl rfl rfl (inI_succ hlt6 hb5)) ?_
 refine AO.pu T ?_
 refine AO.nil ?_
 refine ⟨k1 + 1, ⟨Nat.succ_le_of_lt hlt6, (by rw [drop_succ_of hd4]; exact hH)⟩, (by have := hlt6; dsimp only; omega), ?_⟩
 exact Le.ct 0 0

def spec_l1Read_l1 (sA : ByteArray) : Nat → Int → Int → Option Int
  | 0, _, _ => none
  | k5 + 1, v12, v13 =>
    cond (decide (v13 < (sA.size : Int)))
      ((strI sA v13).bind fun b15 =>
      cond (decide ((b15.toNat : Int) < 48) || decide ((b15.toNat : Int) > 57))
        (some (-1))
        (spec_l1Read_l1 sA k5 (w64 ((w64 (10 * v12)) + (IntKind.wrap .i64 (IntKind.wrap .u8 ((b15.toNat : Int) - 48))))) (w64 (v13 + 1))))
      (some v12)
def spec_l1Read_p (fuel : Nat) (sA : ByteArray) : Option Int :=
  (spec_l1In_p (sA.size : Int) 1 6).bind fun x1 =>
  (opt (!(!x1)) default (strI sA 0)).bind fun b3 =>
  cond ((!x1) || (((b3.toNat : Int) == 48) && decide ((sA.size : Int) > 1)))
    (some (-1))
    (spec_l1Read_l1 sA fuel 0 0)
theorem spec_l1Read_ok (fuel : Nat) (sA : ByteArray) (r : Int) (hH : spec_l1Read_p fuel sA = some r) : SpecR Tryd.prog 31 [.v (.string sA)] (.v (.int .i64 r)) := by
 refine fn_ok T Tryd.func31 rfl (by decide) rfl ?_
 refine AW.seq (AW.region ?_)
 refine AO.pu T ?_
 refine AO.nil ?_
 iterate 2 refine AW.seq ?_
 obtain ⟨x1, hx2, hH⟩ := bindE hH
 obtain ⟨b3, hx4, hH⟩ := bindE hH
 refine AW.region ?_
 iterate 2 refine AO.pu T ?_
 refine AO.val rfl rfl (callV_ok rfl rfl rfl rfl (spec_l1In_ok _ _ _ _ (hx2)) rfl) ?_
 iterate 2 refine AO.pu T ?_
 refine AO.pureG T [] rfl trivial rfl rfl ?_
 refine AO.guard [10] rfl ⟨fun h => h, trivial⟩ (fun hg => ix_strI_ok T rfl rfl rfl rfl (optT hx4 hg)) rfl ?_
 refine AO.pureG T [11] rfl ⟨fun h => h, trivial⟩ rfl rfl ?_
 refine AO.pureG T [12] rfl ⟨fun h => h, trivial⟩ rfl rfl ?_
 refine AO.pureG T [] rfl trivial rfl rfl ?_
 refine AO.pureG T [14] rfl ⟨fun h => h, trivial⟩ rfl rfl ?_
 refine AO.pureG T [15] rfl ⟨fun h => h, trivial⟩ rfl rfl ?_
 refine AO.guard [13] rfl ⟨fun h => h, trivial⟩ (fun hg => pick_and rfl rfl rfl (by rw [hg]; exact Bool.true_and _)) rfl ?_
 refine AO.val rfl rfl (pick_or rfl rfl rfl rfl) ?_
 refine AO.nil ?_
 refine AW.cond (b := ((!x1) || (((b3.toNat : Int) == 48) && decide ((sA.size : Int) > 1)))) rfl (fun hc => ?_) (fun hc => ?_)
 replace hH := condT hc hH
 refine AW.seq (AW.region ?_)
 refine AO.pu T ?_
 refine AO.nil (AW.ret ?_)
 have hR := someE hH; subst hR
 exact retQ.i [] rfl (.c (.c .v))
 replace hH := condF hc hH
 refine AW.skip ?_
 refine AW.seq (AW.region ?_)
 refine AO.pu T ?_
 refine AO.nil ?_
 iterate 2 refine AW.seq ?_
 refine AW.region ?_
 refine AO.pu T ?_
 refine AO.nil ?_
 refine AW.block ?_
 refine AW.loopS (fun s : Nat × Int × Int => (⟨[(0, .v (.string sA)), (3, s.2.1), (4, s.2.2)], [], 44, []⟩ : St)) (fun s => spec_l1Read_l1 sA s.1 s.2.1 s.2.2 = some r) (fun s => s.1) (fuel, 0, 0) hH ?_ ?_
 exact Le.ct 0 0
 rintro ⟨k5, v12, v13⟩ hH
 replace hH : spec_l1Read_l1 sA k5 v12 v13 = some r := hH
 try dsimp only
 rcases k5 with _ | k5
 cases (show none = some _ from hH)
 rw [spec_l1Read_l1] at hH
 iterate 2 refine AW.seq ?_
 refine AW.region ?_
 iterate 4 refine AO.pu T ?_
 refine AO.nil ?_
 refine AW.cond (b := decide (v13 < (sA.size : Int))) rfl (fun hc => ?_) (fun hc => ?_)
 replace hH := condT hc hH
 refine AW.skip ?_
 refine AW.seq ?_
 refine AW.block ?_
 iterate 2 refine AW.seq ?_
 obtain ⟨b15, hx16, hH⟩ := bindE hH
 refine AW.region ?_
 iterate 2 refine AO.pu T ?_
 refine AO.val rfl rfl (ix_strI_ok T rfl rfl rfl rfl (hx16)) ?_
 iterate 2 refine AO.pu T ?_
 iterate 2 refine AO.pureG T [] rfl trivial rfl rfl ?_
 refine AO.guard [30, 31] rfl ⟨fun h => h, fun h => h, trivial⟩ (fun hg => ix_strI_ok T rfl rfl rfl rfl (hx16)) rfl ?_
 refine AO.pureG T [32] rfl ⟨fun h => h, trivial⟩ rfl rfl ?_
 refine AO.val rfl rfl (pick_or rfl rfl rfl rfl) ?_
 refine AO.nil ?_
 refine AW.cond (b := (decide ((b15.toNat : Int) < 48) || decide ((b15.toNat : Int) > 57))) rfl (fun hc => ?_) (fun hc => ?_)
 replace hH := condT hc hH
 refine AW.seq (AW.region ?_)
 refine AO.pu T ?_
 refine AO.nil (AW.ret ?_)
 have hR := someE hH; subst hR
 exact retQ.i [] rfl (.c (.c .v))
 replace hH := condF hc hH
 refine AW.skip ?_
 refine AW.region ?_
 refine AO.pu T ?_
 refine AO.val rfl rfl (arw_ok rfl rfl rfl rfl) ?_
 iterate 2 refine AO.pu T ?_
 refine AO.val rfl rfl (ix_strI_ok T rfl rfl rfl rfl (hx16)) ?_
 refine AO.val rfl rfl (arw_ok rfl rfl rfl rfl) ?_
 refine AO.val rfl rfl (convw_ok T rfl rfl rfl rfl) ?_
 refine AO.val rfl rfl (arw_ok rfl rfl rfl rfl) ?_
 refine AO.pu T ?_
 refine AO.nil ?_
 refine AW.region ?_
 refine AO.pu T ?_
 refine AO.val rfl rfl (arw_ok rfl rfl rfl rfl) ?_
 refine AO.pu T ?_
 refine AO.nil ?_
 refine ⟨(k5, w64 ((w64 (10 * v12)) + (IntKind.wrap .i64 (IntKind.wrap .u8 ((b15.toNat : Int) - 48)))), w64 (v13 + 1)), hH, Nat.lt_succ_self _, ?_⟩
 exact Le.ct 0 0
 replace hH := condF hc hH
 refine AW.exit ?_
 refine AW.seq (AW.region ?_)
 iterate 2 refine AO.pu T ?_
 refine AO.nil (AW.ret ?_)
 have hR := someE hH; subst hR
 exact retQ.i [] rfl (.c (.c .v))

def spec_hiWords_p  : Option (List ByteArray) :=
  some [(⟨#[110, 111, 110, 101]⟩ : ByteArray), (⟨#[100, 111, 119, 110]⟩ : ByteArray), (⟨#[101, 100, 103, 101]⟩ : ByteArray), (⟨#[118, 111, 105, 100]⟩ : ByteArray)]
theorem spec_hiWords_ok  (r : (List ByteArray)) (hH : spec_hiWords_p  = some r) : SpecR Tryd.prog 32 [] (.w 1 (r.map encStr)) := by
 refine fn_ok T Tryd.func32 rfl (by decide) rfl ?_
 refine AW.seq (AW.region ?_)
 refine AO.pu T ?_
 refine AO.nil (AW.seq ?_)
 refine AW.region ?_
 refine AO.step rfl (mk_map_ok T rfl 1 rfl rfl rfl rfl rfl (f := encStr) (l := [(⟨#[110, 111, 110, 101]⟩ : ByteArray), (⟨#[100, 111, 119, 110]⟩ : ByteArray), (⟨#[101, 100, 103, 101]⟩ : ByteArray), (⟨#[118, 111, 105, 100]⟩ : ByteArray)]) rfl rfl (fun _ => rfl) rfl rfl rfl rfl rfl) ?_
 refine AO.pu T ?_
 refine AO.nil (AW.ret ?_)
 have hR := someE hH; subst hR
 exact retQ.i [1] rfl (.c (.c (.rowR rfl)))

def spec_l1OwnS_p (l : List ByteArray) : Option (List ByteArray) :=
  (need (fitsB 16 l.length)).bind fun u1 =>
  some l
theorem spec_l1OwnS_ok (l : List ByteArray) (r : (List ByteArray)) (hH : spec_l1OwnS_p l = some r) : SpecR Tryd.prog 100 [.s (List.map encStr l)] (.w 1 (r.map encStr)) := by
 refine fn_ok T Tryd.func100 rfl (by decide) rfl ?_
 refine AW.seq (AW.region ?_)
 refine AO.pu T ?_
 refine AO.nil (AW.seq ?_)
 obtain ⟨u1, hx2, hH⟩ := bindE hH
 refine AW.region ?_
 refine AO.step rfl (mk0_ok T rfl rfl rfl rfl) ?_
 refine AO.pu T ?_
 refine AO.step rfl (app_ws_map T rfl 1 rfl rfl rfl rfl rfl (by decide) (by decide) rfl rfl (fun _ => rfl) (needT (hx2)) rfl rfl) ?_
 refine AO.pu T ?_
 refine AO.nil (AW.ret ?_)
 have hR := someE hH; subst hR
 exact retQ.i [1] rfl (.c (.c (.rowR rfl)))

def spec_l1Own_p (l : List Int) : Option (List Int) :=
  (need (fitsB 8 l.length)).bind fun u1 =>
  some l
theorem spec_l1Own_ok (l : List Int) (r : (List Int)) (hH : spec_l1Own_p l = some r) : SpecR Tryd.prog 101 [.s (List.map encInt l)] (.w 1 (r.map encInt)) := by
 refine fn_ok T Tryd.func101 rfl (by decide) rfl ?_
 refine AW.seq (AW.region ?_)
 refine AO.pu T ?_
 refine AO.nil (AW.seq ?_)
 obtain ⟨u1, hx2, hH⟩ := bindE hH
 refine AW.region ?_
 refine AO.step rfl (mk0_ok T rfl rfl rfl rfl) ?_
 refine AO.pu T ?_
 refine AO.step rfl (app_ws_map T rfl 1 rfl rfl rfl rfl rfl (by decide) (by decide) rfl rfl (fun _ => rfl) (needT (hx2)) rfl rfl) ?_
 refine AO.pu T ?_
 refine AO.nil (AW.ret ?_)
 have hR := someE hH; subst hR
 exact retQ.i [1] rfl (.c (.c (.rowR rfl)))

def spec_itOwn_l1 : List Item → Nat → List Item → Option ((List Item))
  | [], k1, v20 =>
    some v20
  | y2 :: ys3, k1, v20 =>
    (spec_l1OwnS_p y2.names).bind fun x22 =>
    (spec_l1Own_p y2.marks).bind fun x24 =>
    (need (fitsB 56 (v20.length + ([(Item.mk x22 x24 y2.late)]).length))).bind fun u26 =>
    spec_itOwn_l1 ys3 (k1 + 1) (v20 ++ [(Item.mk x22 x24 y2.late)])
def spec_itOwn_p (l : List Item) : Option (List Item) :=
  spec_itOwn_l1 l 0 []
theorem spec_itOwn_ok (l : List Item) (r : (List Item)) (hH : spec_itOwn_p l = some r) : SpecR Tryd.prog 86 [.s (List.map encItem l)] (.w 3 (r.map encItemO)) := by
 refine fn_ok T Tryd.func86 rfl (by decide) rfl ?_
 refine AW.seq (AW.region ?_)
 refine AO.pu T ?_
 refine AO.nil (AW.seq ?_)
 refine AW.region ?_
 refine AO.pu T ?_
 refine AO.nil ?_
 iterate 2 refine AW.seq ?_
 refine AW.region ?_
 refine AO.pu T ?_
 refine AO.val rfl rfl (len_map_ok T rfl rfl rfl) ?_
 refine AO.pu T ?_
 refine AO.nil ?_
 refine AW.block ?_
 refine AW.loopS (fun s : Nat × (List Item) => (⟨[(3, .R 10), (6, .s (List.map encItem l)), (7, (l.length : Int)), (8, (s.1 : Int))], [(10, .row 3 (List.map encItemO s.2))], 26, []⟩ : St)) (fun s => s.1 ≤ l.length ∧ spec_itOwn_l1 (l.drop s.1) s.1 s.2 = some r) (fun s => l.length - s.1) (0, []) ⟨Nat.zero_le _, hH⟩ ?_ ?_
 refine Le.trans (Le.void 3 10 3 rfl rfl) ?_
 exact Le.ct 0 0
 rintro ⟨k1, v20⟩ ⟨hk, hH⟩
 replace hH : spec_itOwn_l1 (l.drop k1) k1 v20 = some r := hH
 try dsimp only
 refine AW.boundM (t := 6) (l := l) rfl (fun hb5 => ?_)
 rcases hd4 : l.drop k1 with _ | ⟨y2, ys3⟩
 rw [hd4, spec_itOwn_l1] at hH
 have hlt6 := drop_ge hd4
 refine AW.seq (AW.region ?_)
 refine AO.pu T ?_
 refine AO.nil (AW.seq ?_)
 refine AW.condF' (b := decide ((k1 : Int) < (l.length : Int))) rfl (rngF hlt6) ?_
 refine AW.exit ?_
 refine AW.seq (AW.region ?_)
 iterate 2 refine AO.pu T ?_
 refine AO.nil (AW.ret ?_)
 have hR := someE hH; subst hR
 exact retQ.i [10] rfl (.c (.c (.rowR rfl)))
 rw [hd4, spec_itOwn_l1] at hH
 have hlt6 := drop_lt hd4
 refine AW.seq (AW.region ?_)
 refine AO.pu T ?_
 refine AO.nil (AW.seq ?_)
 refine AW.condT' (b := decide ((k1 : Int) < (l.length : Int))) rfl (rngT hlt6) ?_
 refine AW.skip ?_
 refine AW.seq ?_
 refine AW.block ?_
 refine AW.seq (AW.region ?_)
 refine AO.val rfl rfl (ix_map_ok T rfl rfl rfl rfl rfl (getI_drop hd4) rfl) ?_
 refine AO.pu T (d := .g [.s (List.map encStr y2.names), .s (List.map encInt y2.marks), .v (.bool y2.late)]) ?_
 refine AO.step rfl (alloc_ok T rfl 11 rfl rfl rfl rfl rfl) ?_
 refine AO.se T [.s (List.map encStr y2.names), .s (List.map encInt y2.marks), .v (.bool y2.late)] ?_
 refine AO.nil ?_
 obtain ⟨x22, hx23, hH⟩ := bindE hH
 obtain ⟨x24, hx25, hH⟩ := bindE hH
 obtain ⟨u26, hx27, hH⟩ := bindE hH
 refine AW.drawn 11 12 [] mix (by kernel_rfl) rfl ?_
 iterate 3 refine AD.pure T rfl rfl rfl ?_
 refine AD.q (FStep.call rfl rfl rfl rfl rfl (spec_l1OwnS_ok _ _ (hx23)) rfl rfl) (impT_names _ _) (impT_le _ _) rfl ?_
 iterate 2 refine AD.pure T rfl rfl rfl ?_
 refine AD.q (FStep.call rfl rfl rfl rfl rfl (spec_l1Own_ok _ _ (hx25)) rfl rfl) (impT_names _ _) (impT_le _ _) rfl ?_
 iterate 2 refine AD.pure T rfl rfl rfl ?_
 refine AD.pured T (d := .g [.R 12, .R 13, .v (.bool y2.late)]) rfl rfl rfl rfl ?_
 refine AD.k rfl rfl (FStep.mk_o T rfl rfl rfl rfl rfl rfl rfl rfl (f := encItemO) (l := [(Item.mk x22 x24 y2.late)]) (ids := [12, 13]) rfl rfl (fun _ => rfl) (by exact expLC_cons (.rowR rfl) (expLC_cons (.rowR rfl) (expLC_cons .v (expLC_nil)))) (by decide) rfl rfl rfl rfl) rfl rfl rfl ?_
 refine AD.nil ?_
 refine AO.step rfl (app_rr_map T rfl 15 rfl rfl rfl rfl rfl (by decide) rfl rfl rfl rfl rfl (needT (hx27)) rfl rfl) ?_
 refine AO.pu T ?_
 refine AO.nil ?_
 refine AW.region ?_
 refine AO.val rfl rfl (ar_ok rfl rfl rfl rfl (inI_succ hlt6 hb5)) ?_
 refine AO.pu T ?_
 refine AO.nil ?_
 refine ⟨(k1 + 1, (v20 ++ [(Item.mk x22 x24 y2.late)])), ⟨Nat.succ_le_of_lt hlt6, (by rw [drop_succ_of hd4]; exact hH)⟩, (by have := hlt6; dsimp only; omega), ?_⟩
 exact Le.ct 15 10

def spec_hiStart_l1 (x1 : (List Item)) : List Item → Nat → List (List Bool) → Option HiState
  | [], k3, v18 =>
    some (HiState.mk x1 v18)
  | y4 :: ys5, k3, v18 =>
    (need (decide (0 ≤ (y4.names.length : Int)) && fitsB 1 (y4.names.length : Int).toNat)).bind fun u20 =>
    (need (fitsB 24 (v18.length + ([(List.replicate (y4.names.length : Int).toNat false)]).length))).bind fun u22 =>
    spec_hiStart_l1 x1 ys5 (k3 + 1) (v18 ++ [(List.replicate (y4.names.length : Int).toNat false)])
def spec_hiStart_p (l : List Item) : Option HiState :=
  (spec_itOwn_p l).bind fun x1 =>
  spec_hiStart_l1 x1 l 0 []
theorem spec_hiStart_ok (l : List Item) (r : HiState) (hH : spec_hiStart_p l = some r) : SpecR Tryd.prog 68 [.s (List.map encItem l)] (.pn (encHiStateO r)) := by
 refine fn_ok T Tryd.func68 rfl (by decide) rfl ?_
 refine AW.seq (AW.region ?_)
 refine AO.pu T ?_
 refine AO.nil (AW.seq ?_)
 obtain ⟨x1, hx2, hH⟩ := bindE hH
 refine AW.region ?_
 refine AO.pu T ?_
 refine AO.step rfl (call_ok rfl 1 rfl rfl rfl (spec_itOwn_ok _ _ (hx2)) rfl rfl rfl) ?_
 refine AO.pu T (d := .g [.R 1, .w 0 []]) ?_
 refine AO.step rfl (box_ok T rfl 2 rfl rfl rfl rfl) ?_
 refine AO.pu T ?_
 refine AO.nil ?_
 iterate 2 refine AW.seq ?_
 refine AW.region ?_
 refine AO.pu T ?_
 refine AO.val rfl rfl (len_map_ok T rfl rfl rfl) ?_
 refine AO.pu T ?_
 refine AO.nil ?_
 refine AW.block ?_
 refine AW.loopS (fun s : Nat × (List (List Bool)) => (⟨[(3, .p 2 0), (10, .s (List.map encItem l)), (11, (l.length : Int)), (12, (s.1 : Int))], [(1, .row 3 (List.map encItemO x1)), (2, .box [.R 1, .R 10]), (10, .row 1 (List.map encLBoolO s.2))], 31, []⟩ : St)) (fun s => s.1 ≤ l.length ∧ spec_hiStart_l1 x1 (l.drop s.1) s.1 s.2 = some r) (fun s => l.length - s.1) (0, []) ⟨Nat.zero_le _, hH⟩ ?_ ?_
 refine Le.trans (Le.voidBox 2 1 10 1 rfl rfl rfl rfl) ?_
 exact Le.ct 0 0
 rintro ⟨k3, v18⟩ ⟨hk, hH⟩
 replace hH : spec_hiStart_l1 x1 (l.drop k3) k3 v18 = some r := hH
 try dsimp only
 refine AW.boundM (t := 10) (l := l) rfl (fun hb7 => ?_)
 rcases hd6 : l.drop k3 with _ | ⟨y4, ys5⟩
 rw [hd6, spec_hiStart_l1] at hH
 have hlt8 := drop_ge hd6
 refine AW.seq (AW.region ?_)
 refine AO.pu T ?_
 refine AO.nil (AW.seq ?_)
 refine AW.condF' (b := decide ((k3 : Int) < (l.length : Int))) rfl (rngF hlt8) ?_
 refine AW.exit ?_
 refine AW.seq (AW.region ?_)
 iterate 2 refine AO.pu T ?_
 refine AO.nil (AW.ret ?_)
 have hR := someE hH; subst hR
 exact retQ.i [2, 1, 10] rfl (.c (.pb rfl (expLC_cons (.rowR rfl) (expLC_cons (.rowR rfl) (expLC_nil)))))
 rw [hd6, spec_hiStart_l1] at hH
 have hlt8 := drop_lt hd6
 refine AW.seq (AW.region ?_)
 refine AO.pu T ?_
 refine AO.nil (AW.seq ?_)
 refine AW.condT' (b := decide ((k3 : Int) < (l.length : Int))) rfl (rngT hlt8) ?_
 refine AW.skip ?_
 refine AW.seq ?_
 refine AW.block ?_
 refine AW.seq (AW.region ?_)
 refine AO.val rfl rfl (ix_map_ok T rfl rfl rfl rfl rfl (getI_drop hd6) rfl) ?_
 refine AO.pu T (d := .g [.s (List.map encStr y4.names), .s (List.map encInt y4.marks), .v (.bool y4.late)]) ?_
 refine AO.step rfl (alloc_ok T rfl 11 rfl rfl rfl rfl rfl) ?_
 refine AO.se T [.s (List.map encStr y4.names), .s (List.map encInt y4.marks), .v (.bool y4.late)] ?_
 refine AO.nil ?_
 obtain ⟨u20, hx21, hH⟩ := bindE hH
 obtain ⟨u22, hx23, hH⟩ := bindE hH
 refine AW.drawn 11 12 [10] mix (by kernel_rfl) rfl ?_
 iterate 7 refine AD.pure T rfl rfl rfl ?_
 refine AD.val rfl rfl (len_map_ok T rfl rfl rfl) ?_
 refine AD.q (FStep.make T rfl rfl rfl rfl rfl rfl rfl (f := encBool) (zo := false) (by repeat constructor) (by decide) rfl rfl (Bool.and_eq_true_iff.1 (needT (hx21))).1 (Bool.and_eq_true_iff.1 (needT (hx21))).2 rfl) (by simp [namesIn]) (Nat.le_succ _) rfl ?_
 refine AD.k rfl rfl (FStep.mk_o T rfl rfl rfl rfl rfl rfl rfl rfl (f := encLBoolO) (l := [(List.replicate (y4.names.length : Int).toNat false)]) (ids := [12]) rfl rfl (fun _ => rfl) (by exact expLC_cons (.rowR rfl) (expLC_nil)) (by decide) rfl rfl rfl rfl) rfl rfl rfl ?_
 refine AD.k rfl rfl (FStep.app_rr T rfl rfl rfl rfl rfl rfl rfl (by decide) rfl rfl rfl rfl rfl (needT (hx23)) rfl) rfl rfl rfl ?_
 refine AD.nil ?_
 iterate 2 refine AO.pu T ?_
 refine AO.se T [.R 1, .R 14] ?_
 refine AO.nil ?_
 refine AW.region ?_
 refine AO.val rfl rfl (ar_ok rfl rfl rfl rfl (inI_succ hlt8 hb7)) ?_
 refine AO.pu T ?_
 refine AO.nil ?_
 refine ⟨(k3 + 1, (v18 ++ [(List.replicate (y4.names.length : Int).toNat false)])), ⟨Nat.succ_le_of_lt hlt8, (by rw [drop_succ_of hd6]; exact hH)⟩, (by have := hlt8; dsimp only; omega), ?_⟩
 exact Le.ct 14 10

def spec_hiName_p (l : List Item) (item : Int) (name : Int) : Option Bool :=
  (spec_l1In_p item 0 (w64 ((l.length : Int) - 1))).bind fun x1 =>
  (opt x1 default (getI l item)).bind fun x3 =>
  (opt x1 default (spec_l1In_p name 0 (w64 ((x3.names.length : Int) - 1)))).bind fun x5 =>
  some (x1 && x5)
theorem spec_hiName_ok (l : List Item) (item : Int) (name : Int) (r : Bool) (hH : spec_hiName_p l item name = some r) : SpecR Tryd.prog 87 [.s (List.map encItem l), item, name] (.v (.bool r)) := by
 refine fn_ok T Tryd.func87 rfl (by decide) rfl ?_
 refine AW.seq (AW.region ?_)
 refine AO.pu T ?_
 refine AO.nil (AW.seq ?_)
 obtain ⟨x1, hx2, hH⟩ := bindE hH
 obtain ⟨x3, hx4, hH⟩ := bindE hH
 obtain ⟨x5, hx6, hH⟩ := bindE hH
 refine AW.region ?_
 iterate 2 refine AO.pu T ?_
 refine AO.val rfl rfl (len_map_ok T rfl rfl rfl) ?_
 refine AO.val rfl rfl (arw_ok rfl rfl rfl rfl) ?_
 refine AO.val rfl rfl (callV_ok rfl rfl rfl rfl (spec_l1In_ok _ _ _ _ (hx2)) rfl) ?_
 refine AO.pu T ?_
 iterate 3 refine AO.pureG T [] rfl trivial rfl rfl ?_
 refine AO.guard [14, 15] rfl ⟨fun h => h, fun h => h, trivial⟩ (fun hg => ix_map_ok T rfl rfl rfl rfl rfl (optT hx4 hg) rfl) rfl ?_
 refine AO.pureG T [16] rfl ⟨fun h => h, trivial⟩ rfl rfl ?_
 refine AO.pureG T [17] rfl ⟨fun h => h, trivial⟩ rfl rfl ?_
 refine AO.guard [18] rfl ⟨fun h => h, trivial⟩ (fun hg => len_map_ok T rfl rfl rfl) rfl ?_
 refine AO.guard [19] rfl ⟨fun h => h, trivial⟩ (fun hg => arw_ok rfl rfl rfl rfl) rfl ?_
 refine AO.guard [13, 20] rfl ⟨fun h => h, fun h => h, trivial⟩ (fun hg => callV_ok rfl rfl rfl rfl (spec_l1In_ok _ _ _ _ (optT hx6 hg)) rfl) rfl ?_
 refine AO.val rfl rfl (pick_and rfl rfl rfl rfl) ?_
 refine AO.pu T ?_
 refine AO.nil (AW.ret ?_)
 have hR := someE hH; subst hR
 exact retQ.i [] rfl (.c (.c .v))

def spec_hiState_change_p (x : HiState) (c : Change) : Option (HiState × Bool) :=
  (spec_hiName_p x.items c.item c.name).bind fun x1 =>
  (opt (!(!x1)) default (spec_l1In_p c.tick 0 100000)).bind fun x3 =>
  (opt (!((!x1) || (!x3))) default (spec_l1In_p c.caller 1 9)).bind fun x5 =>
  (opt (!(((!x1) || (!x3)) || (!x5))) default (spec_l1In_p c.mark 0 3)).bind fun x7 =>
  cond ((((!x1) || (!x3)) || (!x5)) || (!x7))
    (some (x, false))
    ((getI x.items c.item).bind fun x9 =>
    (getI x.open' c.item).bind fun x11 =>
    cond c.review
      ((getI x11 c.name).bind fun x13 =>
      (opt (!x13) default (getI x9.marks c.name)).bind fun x15 =>
      cond (x13 || (x15 != c.mark))
        (some ((HiState.mk (x.items.set c.item.toNat x9) (x.open'.set c.item.toNat x11)), false))
        (some ((HiState.mk (x.items.set c.item.toNat x9) (x.open'.set c.item.toNat (x11.set c.name.toNat true))), true)))
      ((getI x11 c.name).bind fun x17 =>
      (getI x9.marks c.name).bind fun x19 =>
      some ((HiState.mk (x.items.set c.item.toNat (Item.mk x9.names (x9.marks.set c.name.toNat c.mark) x9.late)) (x.open'.set c.item.toNat (x11.set c.name.toNat false))), true)))
theorem spec_hiState_change_ok (x : HiState) (c : Change) (r : (HiState × Bool)) (hH : spec_hiState_change_p x c = some r) : SpecM Tryd.prog 69 [.pn (encHiStateO x), .g (encChange c)] [.pn (encHiStateO r.1), .u] (.v (.bool r.2)) := by
 refine fn_okM T Tryd.func69 rfl (by decide) rfl rfl ?_
 intro L
 show AW _ _ _ (⟨[(0, .p 1 0), (1, .g [c.tick, c.caller, c.item, c.name, c.mark, .v (.bool c.review)])], [(1, .box [.R 2, .R 3]), (3, .row 1 (List.map encLBoolO x.open')), (2, .row 3 (List.map encItemO x.items))], 83, [(1, L 1), (3, L 3), (2, L 2)]⟩ : St)
 refine AW.seq (AW.region ?_)
 refine AO.step rfl (box_ok T rfl 4 rfl rfl rfl rfl) ?_
 refine AO.pu T ?_
 refine AO.nil ?_
 iterate 2 refine AW.seq ?_
 obtain ⟨x1, hx2, hH⟩ := bindE hH
 obtain ⟨x3, hx4, hH⟩ := bindE hH
 obtain ⟨x5, hx6, hH⟩ := bindE hH
 obtain ⟨x7, hx8, hH⟩ := bindE hH
 refine AW.drawn 8 5 [] mix (by kernel_rfl) rfl ?_
 iterate 8 refine AD.pure T rfl rfl rfl ?_
 refine AD.nil ?_
 refine AO.val rfl rfl (callLV_ok rfl rfl rfl (es := [.s (List.map encItem x.items), c.item, c.name]) ⟨(.rowR rfl (.map fun y => frzItem y)), .free rfl, .free rfl, trivial⟩ (spec_hiName_ok _ _ _ _ (hx2)) (zfree_v _) rfl) ?_
 iterate 2 refine AO.pu T ?_
 refine AO.pureG T [] rfl trivial rfl rfl ?_
 refine AO.pureG T [18] rfl ⟨fun h => h, trivial⟩ rfl rfl ?_
 refine AO.guard [19] rfl ⟨fun h => h, trivial⟩ (fun hg => callV_ok rfl rfl rfl rfl (spec_l1In_ok _ _ _ _ (optT hx4 hg)) rfl) rfl ?_
 refine AO.pureG T [20] rfl ⟨fun h => h, trivial⟩ rfl rfl ?_
 refine AO.val rfl rfl (pick_or rfl rfl rfl rfl) ?_
 refine AO.pu T ?_
 refine AO.pureG T [] rfl trivial rfl rfl ?_
 refine AO.pureG T [24] rfl ⟨fun h => h, trivial⟩ rfl rfl ?_
 refine AO.guard [25] rfl ⟨fun h => h, trivial⟩ (fun hg => callV_ok rfl rfl rfl rfl (spec_l1In_ok _ _ _ _ (optT hx6 hg)) rfl) rfl ?_
 refine AO.pureG T [26] rfl ⟨fun h => h, trivial⟩ rfl rfl ?_
 refine AO.val rfl rfl (pick_or rfl rfl rfl rfl) ?_
 refine AO.pu T ?_
 refine AO.pureG T [] rfl trivial rfl rfl ?_
 refine AO.pureG T [30] rfl ⟨fun h => h, trivial⟩ rfl rfl ?_
 refine AO.guard [31] rfl ⟨fun h => h, trivial⟩ (fun hg => callV_ok rfl rfl rfl rfl (spec_l1In_ok _ _ _ _ (optT hx8 hg)) rfl) rfl ?_
 refine AO.pureG T [32] rfl ⟨fun h => h, trivial⟩ rfl rfl ?_
 refine AO.val rfl rfl (pick_or rfl rfl rfl rfl) ?_
 refine AO.nil ?_
 refine AW.le (Le.ct 0 0 (σ' := (⟨[(0, .p 1 0), (3, .p 4 0), (34, .v (.bool ((((!x1) || (!x3)) || (!x5)) || (!x7))))], [(1, .box [.R 2, .R 3]), (2, .row 3 (List.map encItemO x.items)), (3, .row 1 (List.map encLBoolO x.open')), (4, .box [c.tick, c.caller, c.item, c.name, c.mark, .v (.bool c.review)])], 83, [(1, L 1), (3, L 3), (2, L 2)]⟩ : St)) (hpin := ⟨⟨rfl, rfl⟩, ⟨rfl, rfl⟩, ⟨rfl, rfl⟩, trivial⟩)) ?_
 refine AW.cond (b := ((((!x1) || (!x3)) || (!x5)) || (!x7))) rfl (fun hc => ?_) (fun hc => ?_)
 replace hH := condT hc hH
 refine AW.seq (AW.region ?_)
 refine AO.pu T ?_
 refine AO.nil (AW.ret ?_)
 have hR := someE hH; subst hR
 exact ⟨trivial, rfl, _, [], [1, 2, 3], rfl, expLG_cons (.pb rfl (expLC_cons (.rowR rfl) (expLC_cons (.rowR rfl) (expLC_nil)))) (expLG_cons (.c .u) (expLG_nil)), .c (.c .v), by decide⟩
 replace hH := condF hc hH
 refine AW.skip ?_
 refine AW.seq ?_
 obtain ⟨x9, hx10, hH⟩ := bindE hH
 obtain ⟨x11, hx12, hH⟩ := bindE hH
 refine AW.le (Le.openM 2 c.item.toNat 1 5 rfl (getI_get (hx10)) rfl rfl) ?_
 refine AW.le (Le.openM 3 c.item.toNat 0 6 rfl (getI_get (hx12)) rfl rfl) ?_
 refine AW.drawn 18 7 [] mix (by kernel_rfl) rfl ?_
 iterate 6 refine AD.pure T rfl rfl rfl ?_
 refine AD.val rfl rfl (ix_lent_ok T rfl rfl rfl rfl rfl rfl (hx10)) ?_
 refine AD.pure T rfl rfl rfl ?_
 refine AD.val rfl rfl (load_lent_ok T rfl rfl rfl rfl rfl) ?_
 iterate 6 refine AD.pure T rfl rfl rfl ?_
 refine AD.val rfl rfl (ix_lent_ok T rfl rfl rfl rfl rfl rfl (hx12)) ?_
 refine AD.val rfl rfl (load_lent_ok T rfl rfl rfl rfl rfl) ?_
 refine AD.pure T rfl rfl rfl ?_
 refine AD.nil ?_
 refine AO.pu T ?_
 refine AO.nil ?_
 iterate 2 refine AW.seq ?_
 refine AW.region ?_
 iterate 2 refine AO.pu T ?_
 refine AO.nil ?_
 refine AW.cond (b := c.review) rfl (fun hc => ?_) (fun hc => ?_)
 replace hH := condT hc hH
 iterate 2 refine AW.seq ?_
 obtain ⟨x13, hx14, hH⟩ := bindE hH
 obtain ⟨x15, hx16, hH⟩ := bindE hH
 refine AW.drawn 13 7 [] mix (by kernel_rfl) rfl ?_
 iterate 3 refine AD.pure T rfl rfl rfl ?_
 refine AD.val rfl rfl (ix_row_ok T rfl rfl rfl rfl rfl rfl (hx14)) ?_
 refine AD.val rfl rfl (load_row_ok T rfl rfl rfl rfl (getI_get (hx14)) rfl rfl rfl) ?_
 refine AD.pure T rfl rfl rfl ?_
 iterate 2 refine AD.pureG T [] rfl trivial rfl rfl ?_
 refine AD.pureG T [61] rfl ⟨fun h => h, trivial⟩ rfl rfl ?_
 refine AD.guard [60, 62] rfl ⟨fun h => h, fun h => h, trivial⟩ (fun hg => ix_row_ok T rfl rfl rfl rfl rfl rfl (optT hx16 hg)) rfl ?_
 refine AD.guard [63] rfl ⟨fun h => h, trivial⟩ (fun hg => load_row_ok T rfl rfl rfl rfl (getI_get (optT hx16 hg)) rfl rfl rfl) rfl ?_
 refine AD.pureG T [] rfl trivial rfl rfl ?_
 refine AD.pureG T [65] rfl ⟨fun h => h, trivial⟩ rfl rfl ?_
 refine AD.nil ?_
 refine AO.pureG T [64, 66] rfl ⟨fun h => h, fun h => h, trivial⟩ rfl rfl ?_
 refine AO.val rfl rfl (pick_or rfl rfl rfl rfl) ?_
 refine AO.le (Le.closeM 2 c.item.toNat 1 5 rfl rfl (getI_get (hx10)) rfl (u' := x9) rfl) ?_
 refine AO.nil ?_
 refine AW.cond (b := (x13 || (x15 != c.mark))) rfl (fun hc => ?_) (fun hc => ?_)
 replace hH := condT hc hH
 refine AW.seq (AW.region ?_)
 refine AO.pu T ?_
 refine AO.le (Le.closeM 3 c.item.toNat 0 6 rfl rfl (getI_get (hx12)) rfl (u' := x11) rfl) ?_
 refine AO.nil ?_
 refine AW.le (Le.ct 0 0 (σ' := (⟨[(4, .v (.bool false))], [(1, .box [.R 2, .R 3]), (2, .row 3 (List.map encItemO (x.items.set c.item.toNat x9))), (3, .row 1 (List.map encLBoolO (x.open'.set c.item.toNat x11)))], 83, [(1, L 1), (3, L 3), (2, L 2)]⟩ : St)) (hpin := ⟨⟨rfl, rfl⟩, ⟨rfl, rfl⟩, ⟨rfl, rfl⟩, trivial⟩)) ?_
 refine AW.ret ?_
 have hR := someE hH; subst hR
 exact ⟨trivial, rfl, _, [], [1, 2, 3], rfl, expLG_cons (.pb rfl (expLC_cons (.rowR rfl) (expLC_cons (.rowR rfl) (expLC_nil)))) (expLG_cons (.c .u) (expLG_nil)), .c (.c .v), by decide⟩
 replace hH := condF hc hH
 refine AW.skip ?_
 refine AW.seq (AW.region ?_)
 iterate 3 refine AO.pu T ?_
 refine AO.val rfl rfl (ix_row_ok T rfl rfl rfl rfl rfl rfl (hx14)) ?_
 refine AO.step rfl (store_row_ok T rfl rfl rfl rfl rfl (getI_get (hx14)) rfl rfl rfl rfl (u' := true) rfl rfl) ?_
 refine AO.le (Le.closeM 3 c.item.toNat 0 6 rfl rfl (getI_get (hx12)) rfl (u' := (x11.set c.name.toNat true)) rfl) ?_
 refine AO.nil ?_
 refine AW.le (Le.ct 0 0 (σ' := (⟨[], [(1, .box [.R 2, .R 3]), (2, .row 3 (List.map encItemO (x.items.set c.item.toNat x9))), (3, .row 1 (List.map encLBoolO (x.open'.set c.item.toNat (x11.set c.name.toNat true))))], 83, [(1, L 1), (3, L 3), (2, L 2)]⟩ : St)) (hpin := ⟨⟨rfl, rfl⟩, ⟨rfl, rfl⟩, ⟨rfl, rfl⟩, trivial⟩)) ?_
 refine AW.seq (AW.region ?_)
 refine AO.pu T ?_
 refine AO.nil (AW.ret ?_)
 have hR := someE hH; subst hR
 exact ⟨trivial, rfl, _, [], [1, 2, 3], rfl, expLG_cons (.pb rfl (expLC_cons (.rowR rfl) (expLC_cons (.rowR rfl) (expLC_nil)))) (expLG_cons (.c .u) (expLG_nil)), .c (.c .v), by decide⟩
 replace hH := condF hc hH
 refine AW.skip ?_
 refine AW.seq ?_
 obtain ⟨x17, hx18, hH⟩ := bindE hH
 refine AW.region ?_
 iterate 3 refine AO.pu T ?_
 refine AO.val rfl rfl (ix_row_ok T rfl rfl rfl rfl rfl rfl (hx18)) ?_
 refine AO.step rfl (store_row_ok T rfl rfl rfl rfl rfl (getI_get (hx18)) rfl rfl rfl rfl (u' := false) rfl rfl) ?_
 refine AO.le (Le.closeM 3 c.item.toNat 0 6 rfl rfl (getI_get (hx12)) rfl (u' := (x11.set c.name.toNat false)) rfl) ?_
 refine AO.nil (AW.seq ?_)
 obtain ⟨x19, hx20, hH⟩ := bindE hH
 refine AW.region ?_
 iterate 5 refine AO.pu T ?_
 refine AO.val rfl rfl (ix_row_ok T rfl rfl rfl rfl rfl rfl (hx20)) ?_
 refine AO.step rfl (store_row_ok T rfl rfl rfl rfl rfl (getI_get (hx20)) rfl rfl rfl rfl (u' := c.mark) rfl rfl) ?_
 refine AO.le (Le.closeM 2 c.item.toNat 1 5 rfl rfl (getI_get (hx10)) rfl (u' := (Item.mk x9.names (x9.marks.set c.name.toNat c.mark) x9.late)) rfl) ?_
 refine AO.nil ?_
 refine AW.le (Le.ct 0 0 (σ' := (⟨[], [(1, .box [.R 2, .R 3]), (2, .row 3 (List.map encItemO (x.items.set c.item.toNat (Item.mk x9.names (x9.marks.set c.name.toNat c.mark) x9.late)))), (3, .row 1 (List.map encLBoolO (x.open'.set c.item.toNat (x11.set c.name.toNat false))))], 83, [(1, L 1), (3, L 3), (2, L 2)]⟩ : St)) (hpin := ⟨⟨rfl, rfl⟩, ⟨rfl, rfl⟩, ⟨rfl, rfl⟩, trivial⟩)) ?_
 refine AW.seq (AW.region ?_)
 refine AO.pu T ?_
 refine AO.nil (AW.ret ?_)
 have hR := someE hH; subst hR
 exact ⟨trivial, rfl, _, [], [1, 2, 3], rfl, expLG_cons (.pb rfl (expLC_cons (.rowR rfl) (expLC_cons (.rowR rfl) (expLC_nil)))) (expLG_cons (.c .u) (expLG_nil)), .c (.c .v), by decide⟩

def spec_hiRun_l1 (h : List Change) (tick : Int) : List Change → Nat → List Item → List (List Bool) → Option ((HiState × Bool))
  | [], k3, v19, v20 =>
    some ((HiState.mk v19 v20), true)
  | y4 :: ys5, k3, v19, v20 =>
    cond (decide (y4.tick > tick))
      (some ((HiState.mk v19 v20), true))
      ((spec_hiState_change_p (HiState.mk v19 v20) y4).bind fun x22 =>
      (opt ((!(!x22.2)) && decide ((k3 : Int) > 0)) default (getI h (w64 ((k3 : Int) - 1)))).bind fun x24 =>
      cond ((!x22.2) || (decide ((k3 : Int) > 0) && decide (x24.tick > y4.tick)))
        (some ((HiState.mk x22.1.items x22.1.open'), false))
        (spec_hiRun_l1 h tick ys5 (k3 + 1) x22.1.items x22.1.open'))
def spec_hiRun_p (l : List Item) (h : List Change) (tick : Int) : Option (HiState × Bool) :=
  (spec_hiStart_p l).bind fun x1 =>
  spec_hiRun_l1 h tick h 0 x1.items x1.open'
theorem spec_hiRun_ok (l : List Item) (h : List Change) (tick : Int) (r : (HiState × Bool)) (hH : spec_hiRun_p l h tick = some r) : SpecR Tryd.prog 55 [.s (List.map encItem l), .s (List.map encChange h), tick] (.t [.pn (encHiStateO r.1), .v (.bool r.2)]) := by
 refine fn_ok T Tryd.func55 rfl (by decide) rfl ?_
 refine AW.seq (AW.region ?_)
 iterate 2 refine AO.pu T ?_
 refine AO.nil (AW.seq ?_)
 obtain ⟨x1, hx2, hH⟩ := bindE hH
 refine AW.region ?_
 refine AO.pu T ?_
 refine AO.step rfl (call_ok rfl 1 rfl rfl rfl (spec_hiStart_ok _ _ (hx2)) rfl rfl rfl) ?_
 refine AO.pu T ?_
 refine AO.nil ?_
 iterate 2 refine AW.seq ?_
 refine AW.region ?_
 refine AO.pu T ?_
 refine AO.val rfl rfl (len_map_ok T rfl rfl rfl) ?_
 refine AO.pu T ?_
 refine AO.nil ?_
 refine AW.block ?_
 refine AW.loopS (fun s : Nat × (List Item) × (List (List Bool)) => (⟨[(1, .s (List.map encChange h)), (2, tick), (8, .p 1 0), (13, .s (List.map encChange h)), (14, (h.length : Int)), (15, (s.1 : Int))], [(1, .box [.R 2, .R 3]), (2, .row 3 (List.map encItemO s.2.1)), (3, .row 1 (List.map encLBoolO s.2.2))], 46, []⟩ : St)) (fun s => s.1 ≤ h.length ∧ spec_hiRun_l1 h tick (h.drop s.1) s.1 s.2.1 s.2.2 = some r) (fun s => h.length - s.1) (0, x1.items, x1.open') ⟨Nat.zero_le _, hH⟩ ?_ ?_
 exact Le.ct 0 0
 rintro ⟨k3, v19, v20⟩ ⟨hk, hH⟩
 replace hH : spec_hiRun_l1 h tick (h.drop k3) k3 v19 v20 = some r := hH
 try dsimp only
 refine AW.boundM (t := 1) (l := h) rfl (fun hb7 => ?_)
 rcases hd6 : h.drop k3 with _ | ⟨y4, ys5⟩
 rw [hd6, spec_hiRun_l1] at hH
 have hlt8 := drop_ge hd6
 refine AW.seq (AW.region ?_)
 refine AO.pu T ?_
 refine AO.nil (AW.seq ?_)
 refine AW.condF' (b := decide ((k3 : Int) < (h.length : Int))) rfl (rngF hlt8) ?_
 refine AW.exit ?_
 refine AW.seq (AW.region ?_)
 iterate 3 refine AO.pu T ?_
 refine AO.nil (AW.ret ?_)
 have hR := someE hH; subst hR
 exact retQ.i [1, 2, 3] rfl (.t (expLG_cons (.pb rfl (expLC_cons (.rowR rfl) (expLC_cons (.rowR rfl) (expLC_nil)))) (expLG_cons (.c .v) (expLG_nil))))
 rw [hd6, spec_hiRun_l1] at hH
 have hlt8 := drop_lt hd6
 refine AW.seq (AW.region ?_)
 refine AO.pu T ?_
 refine AO.nil (AW.seq ?_)
 refine AW.condT' (b := decide ((k3 : Int) < (h.length : Int))) rfl (rngT hlt8) ?_
 refine AW.skip ?_
 refine AW.seq ?_
 refine AW.block ?_
 refine AW.seq (AW.region ?_)
 refine AO.pu T ?_
 refine AO.val rfl rfl (ix_map_ok T rfl rfl rfl rfl rfl (getI_drop hd6) rfl) ?_
 refine AO.pu T (d := .g [y4.tick, y4.caller, y4.item, y4.name, y4.mark, .v (.bool y4.review)]) ?_
 refine AO.step rfl (alloc_ok T rfl 10 rfl rfl rfl rfl rfl) ?_
 refine AO.pu T ?_
 refine AO.se T [y4.tick, y4.caller, y4.item, y4.name, y4.mark, .v (.bool y4.review)] ?_
 refine AO.nil ?_
 iterate 2 refine AW.seq ?_
 refine AW.region ?_
 iterate 4 refine AO.pu T ?_
 refine AO.nil ?_
 refine AW.cond (b := decide (y4.tick > tick)) rfl (fun hc => ?_) (fun hc => ?_)
 replace hH := condT hc hH
 refine AW.exit ?_
 refine AW.seq (AW.region ?_)
 iterate 3 refine AO.pu T ?_
 refine AO.nil (AW.ret ?_)
 have hR := someE hH; subst hR
 exact retQ.i [1, 2, 3] rfl (.t (expLG_cons (.pb rfl (expLC_cons (.rowR rfl) (expLC_cons (.rowR rfl) (expLC_nil)))) (expLG_cons (.c .v) (expLG_nil))))
 replace hH := condF hc hH
 refine AW.skip ?_
 refine AW.seq ?_
 obtain ⟨x22, hx23, hH⟩ := bindE hH
 obtain ⟨x24, hx25, hH⟩ := bindE hH
 refine AW.drawn 16 11 [1, 2, 3] mix (by kernel_rfl) rfl ?_
 refine AD.pure T rfl rfl rfl ?_
 refine AD.pure T (d := .g [y4.tick, y4.caller, y4.item, y4.name, y4.mark, .v (.bool y4.review)]) rfl rfl rfl ?_
 refine AD.k rfl rfl (FStep.callP rfl rfl rfl rfl rfl (es := [.pn (encHiStateO (HiState.mk v19 v20)), .g (encChange y4)]) (us := [.u]) (cs := encHiStateO x22.1) (ids := [1, 2, 3]) (by exact expLG_cons (.pb rfl (expLC_cons (.rowR rfl) (expLC_cons (.rowR rfl) (expLC_nil)))) (expLG_cons (.g (expLC_cons .v (expLC_cons .v (expLC_cons .v (expLC_cons .v (expLC_cons .v (expLC_cons .v (expLC_nil)))))))) (expLG_nil))) (by decide) (by decide) (spec_hiState_change_ok _ _ _ (hx23)) rfl rfl (by rfl) rfl) rfl rfl rfl ?_
 iterate 2 refine AD.pure T rfl rfl rfl ?_
 refine AD.pureG T [] rfl trivial rfl rfl ?_
 refine AD.pureG T [29] rfl ⟨fun h => h, trivial⟩ rfl rfl ?_
 refine AD.pureG T [30] rfl ⟨fun h => h, trivial⟩ rfl rfl ?_
 iterate 2 refine AD.pureG T [] rfl trivial rfl rfl ?_
 refine AD.guard [33] rfl ⟨fun h => h, trivial⟩ (fun hg => arw_ok rfl rfl rfl rfl) rfl ?_
 refine AD.guard [32, 34] rfl ⟨fun h => h, fun h => h, trivial⟩ (fun hg => ix_map_ok T rfl rfl rfl rfl rfl (optT hx25 hg) rfl) rfl ?_
 refine AD.pureG T [35] rfl ⟨fun h => h, trivial⟩ rfl rfl ?_
 refine AD.pureG T [36] rfl ⟨fun h => h, trivial⟩ rfl rfl ?_
 refine AD.pureG T [] rfl trivial rfl rfl ?_
 refine AD.pureG T [38] rfl ⟨fun h => h, trivial⟩ rfl rfl ?_
 refine AD.nil ?_
 refine AO.pureG T [37, 39] rfl ⟨fun h => h, fun h => h, trivial⟩ rfl rfl ?_
 refine AO.guard [31] rfl ⟨fun h => h, trivial⟩ (fun hg => pick_and rfl rfl rfl (by rw [hg]; exact Bool.true_and _)) rfl ?_
 refine AO.val rfl rfl (pick_or rfl rfl rfl rfl) ?_
 refine AO.nil ?_
 refine AW.le (Le.ct 0 0 (σ' := (⟨[(1, .s (List.map encChange h)), (2, tick), (8, .p 1 0), (13, .s (List.map encChange h)), (14, (h.length : Int)), (15, (k3 : Int)), (42, .v (.bool ((!x22.2) || (decide ((k3 : Int) > 0) && decide (x24.tick > y4.tick)))))], [(1, .box [.R 11, .R 12]), (11, .row 3 (List.map encItemO x22.1.items)), (12, .row 1 (List.map encLBoolO x22.1.open'))], 46, []⟩ : St))) ?_
 refine AW.cond (b := ((!x22.2) || (decide ((k3 : Int) > 0) && decide (x24.tick > y4.tick)))) rfl (fun hc => ?_) (fun hc => ?_)
 replace hH := condT hc hH
 refine AW.seq (AW.region ?_)
 iterate 3 refine AO.pu T ?_
 refine AO.nil (AW.ret ?_)
 have hR := someE hH; subst hR
 exact retQ.i [1, 11, 12] rfl (.t (expLG_cons (.pb rfl (expLC_cons (.rowR rfl) (expLC_cons (.rowR rfl) (expLC_nil)))) (expLG_cons (.c .v) (expLG_nil))))
 replace hH := condF hc hH
 refine AW.skip ?_
 refine AW.region ?_
 refine AO.val rfl rfl (ar_ok rfl rfl rfl rfl (inI_succ hlt8 hb7)) ?_
 refine AO.pu T ?_
 refine AO.nil ?_
 refine ⟨(k3 + 1, x22.1.items, x22.1.open'), ⟨Nat.succ_le_of_lt hlt8, (by rw [drop_succ_of hd6]; exact hH)⟩, (by have := hlt8; dsimp only; omega), ?_⟩
 refine Le.trans (Le.ct 11 2 (σ' := (⟨[(1, .s (List.map encChange h)), (2, tick), (8, .p 1 0), (13, .s (List.map encChange h)), (14, (h.length : Int)), (15, ((k3 + 1 : Nat) : Int))], [(1, .box [.R 2, .R 12]), (2, .row 3 (List.map encItemO x22.1.items)), (12, .row 1 (List.map encLBoolO x22.1.open'))], 46, []⟩ : St))) ?_
 exact Le.ct 12 3

def spec_hiGood_l1 (l : List Item) (h : List Change) : List Change → Nat → Int → Option Bool
  | [], k1, v12 =>
    (spec_hiRun_p l h 100000).bind fun x14 =>
    some (x14.2 && decide ((h.length : Int) ≤ 60))
  | y2 :: ys3, k1, v12 =>
    (spec_l1In_p y2.tick v12 100000).bind fun x16 =>
    cond (!x16)
      (some false)
      (spec_hiGood_l1 l h ys3 (k1 + 1) y2.tick)
def spec_hiGood_p (l : List Item) (h : List Change) : Option Bool :=
  spec_hiGood_l1 l h h 0 0
theorem spec_hiGood_ok (l : List Item) (h : List Change) (r : Bool) (hH : spec_hiGood_p l h = some r) : SpecR Tryd.prog 33 [.s (List.map encItem l), .s (List.map encChange h)] (.v (.bool r)) := by
 refine fn_ok T Tryd.func33 rfl (by decide) rfl ?_
 refine AW.seq (AW.region ?_)
 refine AO.pu T ?_
 refine AO.nil (AW.seq ?_)
 refine AW.region ?_
 refine AO.pu T ?_
 refine AO.nil ?_
 iterate 2 refine AW.seq ?_
 refine AW.region ?_
 refine AO.pu T ?_
 refine AO.val rfl rfl (len_map_ok T rfl rfl rfl) ?_
 refine AO.pu T ?_
 refine AO.nil ?_
 refine AW.block ?_
 refine AW.loopS (fun s : Nat × Int => (⟨[(0, .s (List.map encItem l)), (1, .s (List.map encChange h)), (5, s.2), (10, .s (List.map encChange h)), (11, (h.length : Int)), (12, (s.1 : Int))], [], 36, []⟩ : St)) (fun s => s.1 ≤ h.length ∧ spec_hiGood_l1 l h (h.drop s.1) s.1 s.2 = some r) (fun s => h.length - s.1) (0, 0) ⟨Nat.zero_le _, hH⟩ ?_ ?_
 exact Le.ct 0 0
 rintro ⟨k1, v12⟩ ⟨hk, hH⟩
 replace hH : spec_hiGood_l1 l h (h.drop k1) k1 v12 = some r := hH
 try dsimp only
 refine AW.boundM (t := 1) (l := h) rfl (fun hb5 => ?_)
 rcases hd4 : h.drop k1 with _ | ⟨y2, ys3⟩
 rw [hd4, spec_hiGood_l1] at hH
 have hlt6 := drop_ge hd4
 refine AW.seq (AW.region ?_)
 refine AO.pu T ?_
 refine AO.nil (AW.seq ?_)
 refine AW.condF' (b := decide ((k1 : Int) < (h.length : Int))) rfl (rngF hlt6) ?_
 refine AW.exit ?_
 refine AW.seq ?_
 obtain ⟨x14, hx15, hH⟩ := bindE hH
 refine AW.region ?_
 iterate 2 refine AO.pu T ?_
 refine AO.step rfl (call_ok rfl 3 rfl rfl rfl (spec_hiRun_ok _ _ _ _ (hx15)) rfl rfl rfl) ?_
 iterate 5 refine AO.pu T ?_
 refine AO.nil (AW.seq ?_)
 refine AW.region ?_
 iterate 2 refine AO.pu T ?_
 refine AO.pureG T [] rfl trivial rfl rfl ?_
 refine AO.guard [32] rfl ⟨fun h => h, trivial⟩ (fun hg => len_map_ok T rfl rfl rfl) rfl ?_
 refine AO.pureG T [33] rfl ⟨fun h => h, trivial⟩ rfl rfl ?_
 refine AO.val rfl rfl (pick_and rfl rfl rfl rfl) ?_
 refine AO.pu T ?_
 refine AO.nil (AW.ret ?_)
 have hR := someE hH; subst hR
 exact retQ.i [] rfl (.c (.c .v))
 rw [hd4, spec_hiGood_l1] at hH
 have hlt6 := drop_lt hd4
 refine AW.seq (AW.region ?_)
 refine AO.pu T ?_
 refine AO.nil (AW.seq ?_)
 refine AW.condT' (b := decide ((k1 : Int) < (h.length : Int))) rfl (rngT hlt6) ?_
 refine AW.skip ?_
 refine AW.seq ?_
 refine AW.block ?_
 refine AW.seq (AW.region ?_)
 refine AO.val rfl rfl (ix_map_ok T rfl rfl rfl rfl rfl (getI_drop hd4) rfl) ?_
 refine AO.pu T (d := .g [y2.tick, y2.caller, y2.item, y2.name, y2.mark, .v (.bool y2.review)]) ?_
 refine AO.step rfl (alloc_ok T rfl 6 rfl rfl rfl rfl rfl) ?_
 refine AO.se T [y2.tick, y2.caller, y2.item, y2.name, y2.mark, .v (.bool y2.review)] ?_
 refine AO.nil ?_
 iterate 2 refine AW.seq ?_
 obtain ⟨x16, hx17, hH⟩ := bindE hH
 refine AW.region ?_
 iterate 3 refine AO.pu T ?_
 refine AO.val rfl rfl (callV_ok rfl rfl rfl rfl (spec_l1In_ok _ _ _ _ (hx17)) rfl) ?_
 refine AO.pu T ?_
 refine AO.nil ?_
 refine AW.cond (b := (!x16)) rfl (fun hc => ?_) (fun hc => ?_)
 replace hH := condT hc hH
 refine AW.seq (AW.region ?_)
 refine AO.pu T ?_
 refine AO.nil (AW.ret ?_)
 have hR := someE hH; subst hR
 exact retQ.i [] rfl (.c (.c .v))
 replace hH := condF hc hH
 refine AW.skip ?_
 refine AW.region ?_
 iterate 3 refine AO.pu T ?_
 refine AO.nil ?_
 refine AW.region ?_
 refine AO.val rfl rfl (ar_ok rfl rfl rfl rfl (inI_succ hlt6 hb5)) ?_
 refine AO.pu T ?_
 refine AO.nil ?_
 refine ⟨(k1 + 1, y2.tick), ⟨Nat.succ_le_of_lt hlt6, (by rw [drop_succ_of hd4]; exact hH)⟩, (by have := hlt6; dsimp only; omega), ?_⟩
 exact Le.ct 0 0

def spec_l1Num_p (fuel : Nat) : Nat → Int → Option ByteArray
  | 0, _ => none
  | rf + 1, n =>
    cond (decide (n < 10))
      (some (strOfNums [IntKind.wrap .u8 (w64 (48 + n))]))
      ((need (10 != 0)).bind fun u1 =>
      (spec_l1Num_p fuel rf (w64 (n.tdiv 10))).bind fun x3 =>
      (need (Nat.ble (x3.size + (strOfNums [IntKind.wrap .u8 (w64 (48 + (n.tmod 10)))]).size) maxN)).bind fun u5 =>
      some (x3 ++ (strOfNums [IntKind.wrap .u8 (w64 (48 + (n.tmod 10)))])))
theorem spec_l1Num_ok (fuel : Nat) : ∀ (rf : Nat) (n : Int) (r : ByteArray) (hH : spec_l1Num_p fuel rf n = some r), SpecR Tryd.prog 44 [n] (.v (.string r)) := by
 intro rf
 induction rf with
 | zero => intro n r hH; rw [spec_l1Num_p] at hH; cases hH
 | succ rf ih =>
 intro n r hH
 rw [spec_l1Num_p] at hH
 refine fn_ok T Tryd.func44 rfl (by decide) rfl ?_
 refine AW.seq (AW.region ?_)
 refine AO.pu T ?_
 refine AO.nil ?_
 iterate 2 refine AW.seq ?_
 refine AW.region ?_
 iterate 2 refine AO.pu T ?_
 refine AO.nil ?_
 refine AW.cond (b := decide (n < 10)) rfl (fun hc => ?_) (fun hc => ?_)
 replace hH := condT hc hH
 refine AW.seq (AW.region ?_)
 refine AO.pu T ?_
 refine AO.val rfl rfl (arw_ok rfl rfl rfl rfl) ?_
 refine AO.val rfl rfl (convw_ok T rfl rfl rfl rfl) ?_
 refine AO.step rfl (mk_map_ok T rfl 1 rfl rfl rfl rfl rfl (f := encInt_u8) (l := [IntKind.wrap .u8 (w64 (48 + n))]) rfl rfl (fun _ => rfl) rfl rfl rfl rfl rfl) ?_
 refine AO.val rfl rfl (conv_bytes_ok T rfl rfl rfl rfl rfl rfl (fun _ => rfl) rfl) ?_
 refine AO.pu T ?_
 refine AO.nil (AW.ret ?_)
 have hR := someE hH; subst hR
 exact retQ.i [] rfl (.c (.c .v))
 replace hH := condF hc hH
 refine AW.skip ?_
 refine AW.seq ?_
 obtain ⟨u1, hx2, hH⟩ := bindE hH
 obtain ⟨x3, hx4, hH⟩ := bindE hH
 obtain ⟨u5, hx6, hH⟩ := bindE hH
 refine AW.drawn 9 2 [] mix (by kernel_rfl) rfl ?_
 refine AD.pure T rfl rfl rfl ?_
 refine AD.val rfl rfl (quow_ok rfl rfl rfl (neZ (needT (hx2)))) ?_
 refine AD.val rfl rfl (callV_ok rfl rfl rfl rfl (ih _ _ (hx4)) rfl) ?_
 refine AD.pure T rfl rfl rfl ?_
 refine AD.val rfl rfl (rem_ok rfl rfl rfl (neZ (needT (hx2)))) ?_
 refine AD.val rfl rfl (arw_ok rfl rfl rfl rfl) ?_
 refine AD.val rfl rfl (convw_ok T rfl rfl rfl rfl) ?_
 refine AD.q (FStep.mk T (f := encInt_u8) (l := [IntKind.wrap .u8 (w64 (48 + (n.tmod 10)))]) rfl rfl rfl rfl rfl rfl rfl rfl rfl (fun _ => rfl) rfl rfl rfl rfl) (by simp [namesIn]) (Nat.le_succ _) rfl ?_
 refine AD.vald rfl rfl rfl (conv_bytes_ok T rfl rfl rfl rfl rfl rfl (fun _ => rfl) rfl) ?_
 refine AD.nil ?_
 refine AO.val rfl rfl (concat_ok rfl rfl rfl (Nat.le_of_ble_eq_true (needT (hx6)))) ?_
 refine AO.pu T ?_
 refine AO.nil (AW.ret ?_)
 have hR := someE hH; subst hR
 exact retQ.i [] rfl (.c (.c .v))

def spec_hiText_l1 (fuel : Nat) : List Change → Nat → ByteArray → Option ByteArray
  | [], k1, v80 =>
    some v80
  | y2 :: ys3, k1, v80 =>
    (spec_l1Num_p fuel fuel y2.tick).bind fun x82 =>
    (need (Nat.ble (x82.size + (⟨#[32]⟩ : ByteArray).size) maxN)).bind fun u84 =>
    (spec_l1Num_p fuel fuel y2.caller).bind fun x86 =>
    (need (Nat.ble ((x82 ++ (⟨#[32]⟩ : ByteArray)).size + x86.size) maxN)).bind fun u88 =>
    (need (Nat.ble (((x82 ++ (⟨#[32]⟩ : ByteArray)) ++ x86).size + (⟨#[32]⟩ : ByteArray).size) maxN)).bind fun u90 =>
    (spec_l1Num_p fuel fuel y2.item).bind fun x92 =>
    (need (Nat.ble ((((x82 ++ (⟨#[32]⟩ : ByteArray)) ++ x86) ++ (⟨#[32]⟩ : ByteArray)).size + x92.size) maxN)).bind fun u94 =>
    (need (Nat.ble (((((x82 ++ (⟨#[32]⟩ : ByteArray)) ++ x86) ++ (⟨#[32]⟩ : ByteArray)) ++ x92).size + (⟨#[32]⟩ : ByteArray).size) maxN)).bind fun u96 =>
    (spec_l1Num_p fuel fuel y2.name).bind fun x98 =>
    (need (Nat.ble ((((((x82 ++ (⟨#[32]⟩ : ByteArray)) ++ x86) ++ (⟨#[32]⟩ : ByteArray)) ++ x92) ++ (⟨#[32]⟩ : ByteArray)).size + x98.size) maxN)).bind fun u100 =>
    (need (Nat.ble (((((((x82 ++ (⟨#[32]⟩ : ByteArray)) ++ x86) ++ (⟨#[32]⟩ : ByteArray)) ++ x92) ++ (⟨#[32]⟩ : ByteArray)) ++ x98).size + (⟨#[32]⟩ : ByteArray).size) maxN)).bind fun u102 =>
    (spec_hiWords_p ).bind fun x104 =>
    (getI x104 y2.mark).bind fun x106 =>
    (need (Nat.ble ((((((((x82 ++ (⟨#[32]⟩ : ByteArray)) ++ x86) ++ (⟨#[32]⟩ : ByteArray)) ++ x92) ++ (⟨#[32]⟩ : ByteArray)) ++ x98) ++ (⟨#[32]⟩ : ByteArray)).size + x106.size) maxN)).bind fun u108 =>
    (need (Nat.ble (v80.size + ((((((((x82 ++ (⟨#[32]⟩ : ByteArray)) ++ x86) ++ (⟨#[32]⟩ : ByteArray)) ++ x92) ++ (⟨#[32]⟩ : ByteArray)) ++ x98) ++ (⟨#[32]⟩ : ByteArray)) ++ x106).size) maxN)).bind fun u110 =>
    cond y2.review
      ((need (Nat.ble ((v80 ++ ((((((((x82 ++ (⟨#[32]⟩ : ByteArray)) ++ x86) ++ (⟨#[32]⟩ : ByteArray)) ++ x92) ++ (⟨#[32]⟩ : ByteArray)) ++ x98) ++ (⟨#[32]⟩ : ByteArray)) ++ x106)).size + (⟨#[32, 114, 101, 118, 105, 101, 119]⟩ : ByteArray).size) maxN)).bind fun u112 =>
      (need (Nat.ble (((v80 ++ ((((((((x82 ++ (⟨#[32]⟩ : ByteArray)) ++ x86) ++ (⟨#[32]⟩ : ByteArray)) ++ x92) ++ (⟨#[32]⟩ : ByteArray)) ++ x98) ++ (⟨#[32]⟩ : ByteArray)) ++ x106)) ++ (⟨#[32, 114, 101, 118, 105, 101, 119]⟩ : ByteArray)).size + (⟨#[10]⟩ : ByteArray).size) maxN)).bind fun u114 =>
      spec_hiText_l1 fuel ys3 (k1 + 1) (((v80 ++ ((((((((x82 ++ (⟨#[32]⟩ : ByteArray)) ++ x86) ++ (⟨#[32]⟩ : ByteArray)) ++ x92) ++ (⟨#[32]⟩ : ByteArray)) ++ x98) ++ (⟨#[32]⟩ : ByteArray)) ++ x106)) ++ (⟨#[32, 114, 101, 118, 105, 101, 119]⟩ : ByteArray)) ++ (⟨#[10]⟩ : ByteArray)))
      ((need (Nat.ble ((v80 ++ ((((((((x82 ++ (⟨#[32]⟩ : ByteArray)) ++ x86) ++ (⟨#[32]⟩ : ByteArray)) ++ x92) ++ (⟨#[32]⟩ : ByteArray)) ++ x98) ++ (⟨#[32]⟩ : ByteArray)) ++ x106)).size + (⟨#[10]⟩ : ByteArray).size) maxN)).bind fun u116 =>
      spec_hiText_l1 fuel ys3 (k1 + 1) ((v80 ++ ((((((((x82 ++ (⟨#[32]⟩ : ByteArray)) ++ x86) ++ (⟨#[32]⟩ : ByteArray)) ++ x92) ++ (⟨#[32]⟩ : ByteArray)) ++ x98) ++ (⟨#[32]⟩ : ByteArray)) ++ x106)) ++ (⟨#[10]⟩ : ByteArray)))
def spec_hiText_p (fuel : Nat) (h : List Change) : Option ByteArray :=
  spec_hiText_l1 fuel h 0 (⟨#[]⟩ : ByteArray)
theorem spec_hiText_ok (fuel : Nat) (h : List Change) (r : ByteArray) (hH : spec_hiText_p fuel h = some r) : SpecR Tryd.prog 20 [.s (List.map encChange h)] (.v (.string r)) := by
 refine fn_ok T Tryd.func20 rfl (by decide) rfl ?_
 refine AW.seq (AW.region ?_)
 refine AO.pu T ?_
 refine AO.nil (AW.seq ?_)
 refine AW.region ?_
 refine AO.pu T ?_
 refine AO.nil ?_
 iterate 2 refine AW.seq ?_
 refine AW.region ?_
 refine AO.pu T ?_
 refine AO.val rfl rfl (len_map_ok T rfl rfl rfl) ?_
 refine AO.pu T ?_
 refine AO.nil ?_
 refine AW.block ?_
 refine AW.loopS (fun s : Nat × ByteArray => (⟨[(3, .v (.string s.2)), (6, .s (List.map encChange h)), (7, (h.length : Int)), (8, (s.1 : Int))], [], 47, []⟩ : St)) (fun s => s.1 ≤ h.length ∧ spec_hiText_l1 fuel (h.drop s.1) s.1 s.2 = some r) (fun s => h.length - s.1) (0, (⟨#[]⟩ : ByteArray)) ⟨Nat.zero_le _, hH⟩ ?_ ?_
 exact Le.ct 0 0
 rintro ⟨k1, v80⟩ ⟨hk, hH⟩
 replace hH : spec_hiText_l1 fuel (h.drop k1) k1 v80 = some r := hH
 try dsimp only
 refine AW.boundM (t := 6) (l := h) rfl (fun hb5 => ?_)
 rcases hd4 : h.drop k1 with _ | ⟨y2, ys3⟩
 rw [hd4, spec_hiText_l1] at hH
 have hlt6 := drop_ge hd4
 refine AW.seq (AW.region ?_)
 refine AO.pu T ?_
 refine AO.nil (AW.seq ?_)
 refine AW.condF' (b := decide ((k1 : Int) < (h.length : Int))) rfl (rngF hlt6) ?_
 refine AW.exit ?_
 refine AW.seq (AW.region ?_)
 iterate 2 refine AO.pu T ?_
 refine AO.nil (AW.ret ?_)
 have hR := someE hH; subst hR
 exact retQ.i [] rfl (.c (.c .v))
 rw [hd4, spec_hiText_l1] at hH
 have hlt6 := drop_lt hd4
 refine AW.seq (AW.region ?_)
 refine AO.pu T ?_
 refine AO.nil (AW.seq ?_)
 refine AW.condT' (b := decide ((k1 : Int) < (h.length : Int))) rfl (rngT hlt6) ?_
 refine AW.skip ?_
 refine AW.seq ?_
 refine AW.block ?_
 refine AW.seq (AW.region ?_)
 refine AO.val rfl rfl (ix_map_ok T rfl rfl rfl rfl rfl (getI_drop hd4) rfl) ?_
 refine AO.pu T (d := .g [y2.tick, y2.caller, y2.item, y2.name, y2.mark, .v (.bool y2.review)]) ?_
 refine AO.step rfl (alloc_ok T rfl 5 rfl rfl rfl rfl rfl) ?_
 refine AO.se T [y2.tick, y2.caller, y2.item, y2.name, y2.mark, .v (.bool y2.review)] ?_
 refine AO.nil (AW.seq ?_)
 obtain ⟨x82, hx83, hH⟩ := bindE hH
 obtain ⟨u84, hx85, hH⟩ := bindE hH
 obtain ⟨x86, hx87, hH⟩ := bindE hH
 obtain ⟨u88, hx89, hH⟩ := bindE hH
 obtain ⟨u90, hx91, hH⟩ := bindE hH
 obtain ⟨x92, hx93, hH⟩ := bindE hH
 obtain ⟨u94, hx95, hH⟩ := bindE hH
 obtain ⟨u96, hx97, hH⟩ := bindE hH
 obtain ⟨x98, hx99, hH⟩ := bindE hH
 obtain ⟨u100, hx101, hH⟩ := bindE hH
 obtain ⟨u102, hx103, hH⟩ := bindE hH
 obtain ⟨x104, hx105, hH⟩ := bindE hH
 obtain ⟨x106, hx107, hH⟩ := bindE hH
 obtain ⟨u108, hx109, hH⟩ := bindE hH
 obtain ⟨u110, hx111, hH⟩ := bindE hH
 refine AW.drawn 26 6 [] mix (by kernel_rfl) rfl ?_
 iterate 3 refine AD.pure T rfl rfl rfl ?_
 refine AD.val rfl rfl (callV_ok rfl rfl rfl rfl (spec_l1Num_ok fuel fuel _ _ (hx83)) rfl) ?_
 refine AD.val rfl rfl (concat_ok rfl rfl rfl (Nat.le_of_ble_eq_true (needT (hx85)))) ?_
 iterate 2 refine AD.pure T rfl rfl rfl ?_
 refine AD.val rfl rfl (callV_ok rfl rfl rfl rfl (spec_l1Num_ok fuel fuel _ _ (hx87)) rfl) ?_
 refine AD.val rfl rfl (concat_ok rfl rfl rfl (Nat.le_of_ble_eq_true (needT (hx89)))) ?_
 refine AD.val rfl rfl (concat_ok rfl rfl rfl (Nat.le_of_ble_eq_true (needT (hx91)))) ?_
 iterate 2 refine AD.pure T rfl rfl rfl ?_
 refine AD.val rfl rfl (callV_ok rfl rfl rfl rfl (spec_l1Num_ok fuel fuel _ _ (hx93)) rfl) ?_
 refine AD.val rfl rfl (concat_ok rfl rfl rfl (Nat.le_of_ble_eq_true (needT (hx95)))) ?_
 refine AD.val rfl rfl (concat_ok rfl rfl rfl (Nat.le_of_ble_eq_true (needT (hx97)))) ?_
 iterate 2 refine AD.pure T rfl rfl rfl ?_
 refine AD.val rfl rfl (callV_ok rfl rfl rfl rfl (spec_l1Num_ok fuel fuel _ _ (hx99)) rfl) ?_
 refine AD.val rfl rfl (concat_ok rfl rfl rfl (Nat.le_of_ble_eq_true (needT (hx101)))) ?_
 refine AD.val rfl rfl (concat_ok rfl rfl rfl (Nat.le_of_ble_eq_true (needT (hx103)))) ?_
 refine AD.q (FStep.call rfl rfl rfl rfl rfl (spec_hiWords_ok _ (hx105)) rfl rfl) (impT_names _ _) (impT_le _ _) rfl ?_
 iterate 2 refine AD.pure T rfl rfl rfl ?_
 refine AD.vald rfl rfl rfl (ix_row_ok T rfl rfl rfl rfl rfl rfl (hx107)) ?_
 refine AD.vald rfl rfl rfl (load_row_ok T rfl rfl rfl rfl (getI_get (hx107)) rfl rfl rfl) ?_
 refine AD.val rfl rfl (concat_ok rfl rfl rfl (Nat.le_of_ble_eq_true (needT (hx109)))) ?_
 refine AD.nil ?_
 refine AO.val rfl rfl (concat_ok rfl rfl rfl (Nat.le_of_ble_eq_true (needT (hx111)))) ?_
 refine AO.pu T ?_
 refine AO.nil ?_
 refine AW.le (Le.ct 0 0 (σ' := (⟨[(3, .v (.string (v80 ++ ((((((((x82 ++ (⟨#[32]⟩ : ByteArray)) ++ x86) ++ (⟨#[32]⟩ : ByteArray)) ++ x92) ++ (⟨#[32]⟩ : ByteArray)) ++ x98) ++ (⟨#[32]⟩ : ByteArray)) ++ x106)))), (5, .p 5 0), (6, .s (List.map encChange h)), (7, (h.length : Int)), (8, (k1 : Int))], [(5, .box [y2.tick, y2.caller, y2.item, y2.name, y2.mark, .v (.bool y2.review)])], 47, []⟩ : St))) ?_
 iterate 2 refine AW.seq ?_
 refine AW.region ?_
 iterate 2 refine AO.pu T ?_
 refine AO.nil ?_
 refine AW.cond (b := y2.review) rfl (fun hc => ?_) (fun hc => ?_)
 replace hH := condT hc hH
 obtain ⟨u112, hx113, hH⟩ := bindE hH
 refine AW.region ?_
 refine AO.pu T ?_
 refine AO.val rfl rfl (concat_ok rfl rfl rfl (Nat.le_of_ble_eq_true (needT (hx113)))) ?_
 refine AO.pu T ?_
 refine AO.nil ?_
 obtain ⟨u114, hx115, hH⟩ := bindE hH
 refine AW.region ?_
 refine AO.pu T ?_
 refine AO.val rfl rfl (concat_ok rfl rfl rfl (Nat.le_of_ble_eq_true (needT (hx115)))) ?_
 refine AO.pu T ?_
 refine AO.nil ?_
 refine AW.region ?_
 refine AO.val rfl rfl (ar_ok rfl rfl rfl rfl (inI_succ hlt6 hb5)) ?_
 refine AO.pu T ?_
 refine AO.nil ?_
 refine ⟨(k1 + 1, (((v80 ++ ((((((((x82 ++ (⟨#[32]⟩ : ByteArray)) ++ x86) ++ (⟨#[32]⟩ : ByteArray)) ++ x92) ++ (⟨#[32]⟩ : ByteArray)) ++ x98) ++ (⟨#[32]⟩ : ByteArray)) ++ x106)) ++ (⟨#[32, 114, 101, 118, 105, 101, 119]⟩ : ByteArray)) ++ (⟨#[10]⟩ : ByteArray))), ⟨Nat.succ_le_of_lt hlt6, (by rw [drop_succ_of hd4]; exact hH)⟩, (by have := hlt6; dsimp only; omega), ?_⟩
 exact Le.ct 0 0
 replace hH := condF hc hH
 refine AW.skip ?_
 obtain ⟨u116, hx117, hH⟩ := bindE hH
 refine AW.region ?_
 refine AO.pu T ?_
 refine AO.val rfl rfl (concat_ok rfl rfl rfl (Nat.le_of_ble_eq_true (needT (hx117)))) ?_
 refine AO.pu T ?_
 refine AO.nil ?_
 refine AW.region ?_
 refine AO.val rfl rfl (ar_ok rfl rfl rfl rfl (inI_succ hlt6 hb5)) ?_
 refine AO.pu T ?_
 refine AO.nil ?_
 refine ⟨(k1 + 1, ((v80 ++ ((((((((x82 ++ (⟨#[32]⟩ : ByteArray)) ++ x86) ++ (⟨#[32]⟩ : ByteArray)) ++ x92) ++ (⟨#[32]⟩ : ByteArray)) ++ x98) ++ (⟨#[32]⟩ : ByteArray)) ++ x106)) ++ (⟨#[10]⟩ : ByteArray))), ⟨Nat.succ_le_of_lt hlt6, (by rw [drop_succ_of hd4]; exact hH)⟩, (by have := hlt6; dsimp only; omega), ?_⟩
 exact Le.ct 0 0

def spec_ParseHistory_l2 (v164 : List Change) (x209 : (List ByteArray)) (x213 : Int) (x217 : Int) (x221 : Int) (x225 : Int) : List ByteArray → Nat → Int → Option (Except (((List Change) × Bool)) (List Change))
  | [], k229, v240 =>
    (need (fitsB 48 (v164.length + ([(Change.mk x213 x217 x221 x225 v240 ((x209.length : Int) == 6))]).length))).bind fun u242 =>
    some (.ok (v164 ++ [(Change.mk x213 x217 x221 x225 v240 ((x209.length : Int) == 6))]))
  | y230 :: ys231, k229, v240 =>
    (getI x209 4).bind fun x244 =>
    cond (decide (x244 = y230))
      (spec_ParseHistory_l2 v164 x209 x213 x217 x221 x225 ys231 (k229 + 1) (k229 : Int))
      (spec_ParseHistory_l2 v164 x209 x213 x217 x221 x225 ys231 (k229 + 1) v240)
def spec_ParseHistory_l1 (l : List Item) (sA : ByteArray) (fuel : Nat) : List ByteArray → Nat → List Change → Option (((List Change) × Bool))
  | [], k7, v164 =>
    (spec_hiGood_p l v164).bind fun x166 =>
    (opt (!(!x166)) default (spec_hiText_p fuel v164)).bind fun x168 =>
    cond ((!x166) || (!decide (x168 = sA)))
      (some ([], false))
      (some (v164, true))
  | y8 :: ys9, k7, v164 =>
    ((spec_l1Split_p fuel y8 32).bind fun x209 =>
    cond (((x209.length : Int) != 5) && ((x209.length : Int) != 6))
      (some (.error ([], false)))
      ((getI x209 0).bind fun x211 =>
      (spec_l1Read_p fuel x211).bind fun x213 =>
      (getI x209 1).bind fun x215 =>
      (spec_l1Read_p fuel x215).bind fun x217 =>
      (getI x209 2).bind fun x219 =>
      (spec_l1Read_p fuel x219).bind fun x221 =>
      (getI x209 3).bind fun x223 =>
      (spec_l1Read_p fuel x223).bind fun x225 =>
      (spec_hiWords_p ).bind fun x227 =>
      spec_ParseHistory_l2 v164 x209 x213 x217 x221 x225 x227 0 0)).bind fun o207 => flow o207 fun v206 =>
    spec_ParseHistory_l1 l sA fuel ys9 (k7 + 1) v206
def spec_ParseHistory_p (fuel : Nat) (l : List Item) (sA : ByteArray) : Option ((List Change) × Bool) :=
  (spec_l1Split_p fuel sA 10).bind fun x1 =>
  (spec_itList_p fuel l).bind fun x3 =>
  cond ((!x3) || decide ((x1.length : Int) > 61))
    (some ([], false))
    ((sliceHi x1 (w64 ((x1.length : Int) - 1))).bind fun x5 =>
    spec_ParseHistory_l1 l sA fuel x5 0 [])
theorem spec_ParseHistory_ok (fuel : Nat) (l : List Item) (sA : ByteArray) (r : ((List Change) × Bool)) (hH : spec_ParseHistory_p fuel l sA = some r) : SpecR Tryd.prog 13 [.s (List.map encItem l), .v (.string sA)] (.t [.w 6 (r.1.map encChange), .v (.bool r.2)]) := by
 refine fn_ok T Tryd.func13 rfl (by decide) rfl ?_
 refine AW.seq (AW.region ?_)
 iterate 2 refine AO.pu T ?_
 refine AO.nil (AW.seq ?_)
 obtain ⟨x1, hx2, hH⟩ := bindE hH
 refine AW.region ?_
 refine AO.pu T ?_
 refine AO.step rfl (call_ok rfl 1 rfl rfl rfl (spec_l1Split_ok fuel _ _ _ (hx2)) rfl rfl rfl) ?_
 refine AO.pu T ?_
 refine AO.nil ?_
 iterate 2 refine AW.seq ?_
 obtain ⟨x3, hx4, hH⟩ := bindE hH
 refine AW.region ?_
 refine AO.pu T ?_
 refine AO.val rfl rfl (callV_ok rfl rfl rfl rfl (spec_itList_ok fuel _ _ (hx4)) rfl) ?_
 iterate 2 refine AO.pu T ?_
 refine AO.pureG T [] rfl trivial rfl rfl ?_
 refine AO.guard [20] rfl ⟨fun h => h, trivial⟩ (fun hg => len_row_ok T rfl rfl rfl rfl) rfl ?_
 refine AO.pureG T [21] rfl ⟨fun h => h, trivial⟩ rfl rfl ?_
 refine AO.val rfl rfl (pick_or rfl rfl rfl rfl) ?_
 refine AO.nil ?_
 refine AW.cond (b := ((!x3) || decide ((x1.length : Int) > 61))) rfl (fun hc => ?_) (fun hc => ?_)
 replace hH := condT hc hH
 refine AW.seq (AW.region ?_)
 iterate 2 refine AO.pu T ?_
 refine AO.nil (AW.ret ?_)
 have hR := someE hH; subst hR
 exact retQ.i [] rfl (.t (expLG_cons (.c .nil) (expLG_cons (.c .v) (expLG_nil))))
 replace hH := condF hc hH
 refine AW.skip ?_
 refine AW.seq (AW.region ?_)
 refine AO.pu T ?_
 refine AO.nil ?_
 iterate 2 refine AW.seq ?_
 obtain ⟨x5, hx6, hH⟩ := bindE hH
 refine AW.le (Le.freezeM 1 (g := encStr) rfl (fun y => .vs rfl)) ?_
 refine AW.region ?_
 iterate 2 refine AO.pu T ?_
 refine AO.val rfl rfl (len_map_ok T rfl rfl rfl) ?_
 refine AO.val rfl rfl (arw_ok rfl rfl rfl rfl) ?_
 refine AO.val rfl rfl (slice_hi_map_ok T rfl rfl rfl rfl rfl (hx6) (fun _ => rfl)) ?_
 refine AO.val rfl rfl (len_map_ok T rfl rfl rfl) ?_
 refine AO.pu T ?_
 refine AO.nil ?_
 refine AW.block ?_
 refine AW.loopS (fun s : Nat × (List Change) => (⟨[(0, .s (List.map encItem l)), (1, .v (.string sA)), (7, .R 16), (28, .s (List.map encStr x5)), (29, (x5.length : Int)), (30, (s.1 : Int))], [(16, .row 6 (List.map encChange s.2))], 95, []⟩ : St)) (fun s => s.1 ≤ x5.length ∧ spec_ParseHistory_l1 l sA fuel (x5.drop s.1) s.1 s.2 = some r) (fun s => x5.length - s.1) (0, []) ⟨Nat.zero_le _, hH⟩ ?_ ?_
 refine Le.trans (Le.void 7 16 6 rfl rfl) ?_
 exact Le.ct 0 0
 rintro ⟨k7, v164⟩ ⟨hk, hH⟩
 replace hH : spec_ParseHistory_l1 l sA fuel (x5.drop k7) k7 v164 = some r := hH
 try dsimp only
 refine AW.boundM (t := 28) (l := x5) rfl (fun hb11 => ?_)
 rcases hd10 : x5.drop k7 with _ | ⟨y8, ys9⟩
 rw [hd10, spec_ParseHistory_l1] at hH
 have hlt12 := drop_ge hd10
 refine AW.seq (AW.region ?_)
 refine AO.pu T ?_
 refine AO.nil (AW.seq ?_)
 refine AW.condF' (b := decide ((k7 : Int) < (x5.length : Int))) rfl (rngF hlt12) ?_
 refine AW.exit ?_
 iterate 2 refine AW.seq ?_
 obtain ⟨x166, hx167, hH⟩ := bindE hH
 obtain ⟨x168, hx169, hH⟩ := bindE hH
 refine AW.region ?_
 iterate 2 refine AO.pu T ?_
 refine AO.val rfl rfl (callLV_ok rfl rfl rfl (es := [.s (List.map encItem l), .s (List.map encChange v164)]) ⟨.free rfl, (.rowR rfl (.map fun y => .vs rfl)), trivial⟩ (spec_hiGood_ok _ _ _ (hx167)) (zfree_v _) rfl) ?_
 iterate 2 refine AO.pu T ?_
 refine AO.pureG T [] rfl trivial rfl rfl ?_
 refine AO.guard [89] rfl ⟨fun h => h, trivial⟩ (fun hg => callLV_ok rfl rfl rfl (es := [.s (List.map encChange v164)]) ⟨(.rowR rfl (.map fun y => .vs rfl)), trivial⟩ (spec_hiText_ok fuel _ _ (optT hx169 hg)) (zfree_v _) rfl) rfl ?_
 refine AO.pureG T [] rfl trivial rfl rfl ?_
 refine AO.pureG T [90, 91] rfl ⟨fun h => h, fun h => h, trivial⟩ rfl rfl ?_
 refine AO.val rfl rfl (pick_or rfl rfl rfl rfl) ?_
 refine AO.nil ?_
 refine AW.cond (b := ((!x166) || (!decide (x168 = sA)))) rfl (fun hc => ?_) (fun hc => ?_)
 replace hH := condT hc hH
 refine AW.seq (AW.region ?_)
 iterate 2 refine AO.pu T ?_
 refine AO.nil (AW.ret ?_)
 have hR := someE hH; subst hR
 exact retQ.i [] rfl (.t (expLG_cons (.c .nil) (expLG_cons (.c .v) (expLG_nil))))
 replace hH := condF hc hH
 refine AW.skip ?_
 refine AW.seq (AW.region ?_)
 iterate 3 refine AO.pu T ?_
 refine AO.nil (AW.ret ?_)
 have hR := someE hH; subst hR
 exact retQ.i [16] rfl (.t (expLG_cons (.c (.rowR rfl)) (expLG_cons (.c .v) (expLG_nil))))
 rw [hd10, spec_ParseHistory_l1] at hH
 have hlt12 := drop_lt hd10
 refine AW.seq (AW.region ?_)
 refine AO.pu T ?_
 refine AO.nil (AW.seq ?_)
 refine AW.condT' (b := decide ((k7 : Int) < (x5.length : Int))) rfl (rngT hlt12) ?_
 refine AW.skip ?_
 obtain ⟨o207, hH, hK208⟩ := bindE hH
 refine AW.seqJ (fun s : List Change => (⟨[(0, .s (List.map encItem l)), (1, .v (.string sA)), (7, .R 26), (28, .s (List.map encStr x5)), (29, (x5.length : Int)), (30, (k7 : Int))], [(26, .row 6 (List.map encChange s))], 95, []⟩ : St)) (fun s => .ok s = o207) ?_ ?_
 refine AW.block ?_
 refine AW.seq (AW.region ?_)
 refine AO.val rfl rfl (ix_map_ok T rfl rfl rfl rfl rfl (getI_drop hd10) rfl) ?_
 iterate 2 refine AO.pu T ?_
 refine AO.nil (AW.seq ?_)
 obtain ⟨x209, hx210, hH⟩ := bindE hH
 refine AW.region ?_
 refine AO.pu T ?_
 refine AO.step rfl (call_ok rfl 27 rfl rfl rfl (spec_l1Split_ok fuel _ _ _ (hx210)) rfl rfl rfl) ?_
 refine AO.pu T ?_
 refine AO.nil ?_
 iterate 2 refine AW.seq ?_
 refine AW.region ?_
 refine AO.pu T ?_
 refine AO.val rfl rfl (len_row_ok T rfl rfl rfl rfl) ?_
 iterate 2 refine AO.pu T ?_
 refine AO.pureG T [] rfl trivial rfl rfl ?_
 refine AO.guard [40] rfl ⟨fun h => h, trivial⟩ (fun hg => len_row_ok T rfl rfl rfl rfl) rfl ?_
 refine AO.pureG T [41] rfl ⟨fun h => h, trivial⟩ rfl rfl ?_
 refine AO.val rfl rfl (pick_and rfl rfl rfl rfl) ?_
 refine AO.nil ?_
 refine AW.cond (b := (((x209.length : Int) != 5) && ((x209.length : Int) != 6))) rfl (fun hc => ?_) (fun hc => ?_)
 replace hH := condT hc hH
 refine AW.seq (AW.region ?_)
 iterate 2 refine AO.pu T ?_
 refine AO.nil (AW.ret ?_)
 obtain rfl := someE hH
 replace hH := hK208
 have hR := someE hH; subst hR
 exact retQ.i [] rfl (.t (expLG_cons (.c .nil) (expLG_cons (.c .v) (expLG_nil))))
 replace hH := condF hc hH
 refine AW.skip ?_
 refine AW.seq ?_
 obtain ⟨x211, hx212, hH⟩ := bindE hH
 obtain ⟨x213, hx214, hH⟩ := bindE hH
 obtain ⟨x215, hx216, hH⟩ := bindE hH
 obtain ⟨x217, hx218, hH⟩ := bindE hH
 obtain ⟨x219, hx220, hH⟩ := bindE hH
 obtain ⟨x221, hx222, hH⟩ := bindE hH
 obtain ⟨x223, hx224, hH⟩ := bindE hH
 obtain ⟨x225, hx226, hH⟩ := bindE hH
 refine AW.drawn 21 28 [] mix (by kernel_rfl) rfl ?_
 refine AD.pure T rfl rfl rfl ?_
 refine AD.val rfl rfl (ix_row_ok T rfl rfl rfl rfl rfl rfl (hx212)) ?_
 refine AD.val rfl rfl (load_row_ok T rfl rfl rfl rfl (getI_get (hx212)) rfl rfl rfl) ?_
 refine AD.val rfl rfl (callV_ok rfl rfl rfl rfl (spec_l1Read_ok fuel _ _ (hx214)) rfl) ?_
 refine AD.pure T rfl rfl rfl ?_
 refine AD.val rfl rfl (ix_row_ok T rfl rfl rfl rfl rfl rfl (hx216)) ?_
 refine AD.val rfl rfl (load_row_ok T rfl rfl rfl rfl (getI_get (hx216)) rfl rfl rfl) ?_
 refine AD.val rfl rfl (callV_ok rfl rfl rfl rfl (spec_l1Read_ok fuel _ _ (hx218)) rfl) ?_
 refine AD.pure T rfl rfl rfl ?_
 refine AD.val rfl rfl (ix_row_ok T rfl rfl rfl rfl rfl rfl (hx220)) ?_
 refine AD.val rfl rfl (load_row_ok T rfl rfl rfl rfl (getI_get (hx220)) rfl rfl rfl) ?_
 refine AD.val rfl rfl (callV_ok rfl rfl rfl rfl (spec_l1Read_ok fuel _ _ (hx222)) rfl) ?_
 refine AD.pure T rfl rfl rfl ?_
 refine AD.val rfl rfl (ix_row_ok T rfl rfl rfl rfl rfl rfl (hx224)) ?_
 refine AD.val rfl rfl (load_row_ok T rfl rfl rfl rfl (getI_get (hx224)) rfl rfl rfl) ?_
 refine AD.val rfl rfl (callV_ok rfl rfl rfl rfl (spec_l1Read_ok fuel _ _ (hx226)) rfl) ?_
 refine AD.pure T rfl rfl rfl ?_
 refine AD.val rfl rfl (len_row_ok T rfl rfl rfl rfl) ?_
 refine AD.pure T rfl rfl rfl ?_
 refine AD.pure T (d := .g [x213, x217, x221, x225, (0 : Int), .v (.bool ((x209.length : Int) == 6))]) rfl rfl rfl ?_
 refine AD.q (FStep.alloc T rfl rfl rfl rfl rfl rfl) (by simp [namesIn]) (Nat.le_succ _) rfl ?_
 refine AD.nil ?_
 refine AO.se T [x213, x217, x221, x225, (0 : Int), .v (.bool ((x209.length : Int) == 6))] ?_
 refine AO.nil ?_
 refine AW.le (Le.ct 0 0 (σ' := (⟨[(0, .s (List.map encItem l)), (1, .v (.string sA)), (7, .R 16), (10, .R 27), (11, .p 28 0), (28, .s (List.map encStr x5)), (29, (x5.length : Int)), (30, (k7 : Int))], [(16, .row 6 (List.map encChange v164)), (27, .row 1 (List.map encStr x209)), (28, .box [x213, x217, x221, x225, (0 : Int), .v (.bool ((x209.length : Int) == 6))])], 95, []⟩ : St))) ?_
 iterate 2 refine AW.seq ?_
 obtain ⟨x227, hx228, hH⟩ := bindE hH
 refine AW.region ?_
 refine AO.step rfl (call_ok rfl 29 rfl rfl rfl (spec_hiWords_ok _ (hx228)) rfl rfl rfl) ?_
 refine AO.val rfl rfl (len_row_ok T rfl rfl rfl rfl) ?_
 refine AO.pu T ?_
 refine AO.nil ?_
 refine AW.block ?_
 refine AW.loopS (fun s : Nat × Int => (⟨[(0, .s (List.map encItem l)), (1, .v (.string sA)), (7, .R 16), (10, .R 27), (11, .p 28 0), (28, .s (List.map encStr x5)), (29, (x5.length : Int)), (30, (k7 : Int)), (64, .R 29), (65, (x227.length : Int)), (66, (s.1 : Int))], [(16, .row 6 (List.map encChange v164)), (27, .row 1 (List.map encStr x209)), (28, .box [x213, x217, x221, x225, s.2, .v (.bool ((x209.length : Int) == 6))]), (29, .row 1 (List.map encStr x227))], 95, []⟩ : St)) (fun s => s.1 ≤ x227.length ∧ spec_ParseHistory_l2 v164 x209 x213 x217 x221 x225 (x227.drop s.1) s.1 s.2 = some o207) (fun s => x227.length - s.1) (0, 0) ⟨Nat.zero_le _, hH⟩ ?_ ?_
 exact Le.ct 0 0
 rintro ⟨k229, v240⟩ ⟨hk, hH⟩
 replace hH : spec_ParseHistory_l2 v164 x209 x213 x217 x221 x225 (x227.drop k229) k229 v240 = some o207 := hH
 try dsimp only
 refine AW.boundR (id := 29) (l := x227) rfl (fun hb233 => ?_)
 rcases hd232 : x227.drop k229 with _ | ⟨y230, ys231⟩
 rw [hd232, spec_ParseHistory_l2] at hH
 have hlt234 := drop_ge hd232
 refine AW.seq (AW.region ?_)
 refine AO.pu T ?_
 refine AO.nil (AW.seq ?_)
 refine AW.condF' (b := decide ((k229 : Int) < (x227.length : Int))) rfl (rngF hlt234) ?_
 refine AW.exit ?_
 obtain ⟨u242, hx243, hH⟩ := bindE hH
 refine AW.region ?_
 refine AO.pu T ?_
 refine AO.pu T (d := .g [x213, x217, x221, x225, v240, .v (.bool ((x209.length : Int) == 6))]) ?_
 refine AO.step rfl (mk_map_ok T rfl 30 rfl rfl rfl rfl rfl (f := encChange) (l := [(Change.mk x213 x217 x221 x225 v240 ((x209.length : Int) == 6))]) rfl rfl (fun _ => rfl) rfl rfl rfl rfl rfl) ?_
 refine AO.step rfl (app_rv_map T rfl 31 rfl rfl rfl rfl rfl (by decide) rfl rfl rfl rfl (fun _ => rfl) (needT (hx243)) rfl rfl) ?_
 refine AO.pu T ?_
 refine AO.nil ?_
 refine ⟨_, someE hH, ?_⟩
 exact Le.ct 31 26
 rw [hd232, spec_ParseHistory_l2] at hH
 have hlt234 := drop_lt hd232
 refine AW.seq (AW.region ?_)
 refine AO.pu T ?_
 refine AO.nil (AW.seq ?_)
 refine AW.condT' (b := decide ((k229 : Int) < (x227.length : Int))) rfl (rngT hlt234) ?_
 refine AW.skip ?_
 refine AW.seq ?_
 refine AW.block ?_
 refine AW.seq (AW.region ?_)
 refine AO.pu T ?_
 refine AO.val rfl rfl (ix_row_ok T rfl rfl rfl rfl rfl rfl (getI_drop hd232)) ?_
 refine AO.val rfl rfl (load_row_ok T rfl rfl rfl rfl (getI_get (getI_drop hd232)) rfl rfl rfl) ?_
 iterate 2 refine AO.pu T ?_
 refine AO.nil (AW.seq ?_)
 obtain ⟨x244, hx245, hH⟩ := bindE hH
 refine AW.region ?_
 refine AO.pu T ?_
 refine AO.val rfl rfl (ix_row_ok T rfl rfl rfl rfl rfl rfl (hx245)) ?_
 refine AO.val rfl rfl (load_row_ok T rfl rfl rfl rfl (getI_get (hx245)) rfl rfl rfl) ?_
 iterate 2 refine AO.pu T ?_
 refine AO.nil ?_
 refine AW.cond (b := decide (x244 = y230)) rfl (fun hc => ?_) (fun hc => ?_)
 replace hH := condT hc hH
 refine AW.region ?_
 iterate 2 refine AO.pu T ?_
 refine AO.se T [x213, x217, x221, x225, (k229 : Int), .v (.bool ((x209.length : Int) == 6))] ?_
 refine AO.nil ?_
 refine AW.region ?_
 refine AO.val rfl rfl (ar_ok rfl rfl rfl rfl (inI_succ hlt234 hb233)) ?_
 refine AO.pu T ?_
 refine AO.nil ?_
 refine ⟨(k229 + 1, (k229 : Int)), ⟨Nat.succ_le_of_lt hlt234, (by rw [drop_succ_of hd232]; exact hH)⟩, (by have := hlt234; dsimp only; omega), ?_⟩
 exact Le.ct 0 0
 replace hH := condF hc hH
 refine AW.skip ?_
 refine AW.region ?_
 refine AO.val rfl rfl (ar_ok rfl rfl rfl rfl (inI_succ hlt234 hb233)) ?_
 refine AO.pu T ?_
 refine AO.nil ?_
 refine ⟨(k229 + 1, v240), ⟨Nat.succ_le_of_lt hlt234, (by rw [drop_succ_of hd232]; exact hH)⟩, (by have := hlt234; dsimp only; omega), ?_⟩
 exact Le.ct 0 0
 rintro v206 hs
 subst hs
 replace hH := hK208
 try dsimp only [flow, flowE] at hH
 try dsimp only
 refine AW.region ?_
 refine AO.val rfl rfl (ar_ok rfl rfl rfl rfl (inI_succ hlt12 hb11)) ?_
 refine AO.pu T ?_
 refine AO.nil ?_
 refine ⟨(k7 + 1, v206), ⟨Nat.succ_le_of_lt hlt12, (by rw [drop_succ_of hd10]; exact hH)⟩, (by have := hlt12; dsimp only; omega), ?_⟩
 exact Le.ct 26 16

def strings_Split_p (s : ByteArray) (sep : ByteArray) : Option (List ByteArray) := (need (Nat.blt s.size 4294967281 && Nat.blt 0 sep.size)).bind fun _ => some (splitS s sep)
theorem strings_Split_ok (s : ByteArray) (sep : ByteArray) (r : List ByteArray) (hH : strings_Split_p s sep = some r) : SpecR Tryd.prog 37 [.v (.string s), .v (.string sep)] (.w 1 (r.map encStr)) := by
  obtain ⟨u, hu, hr⟩ := bindE hH
  cases someE hr
  exact spec_split ⟨_, Tryd.func37, rfl, by decide⟩ (fun s sep w hG h1 h2 => let ⟨m, hm⟩ := globMax hG; Tryd.strings_Split s sep m w h1 hm h2) (fun _ => rfl) s sep (needT hu)

def impl_linesOf_p (sA : ByteArray) : Option ((List ByteArray) × Bool) :=
  cond (decide (sA = (⟨#[]⟩ : ByteArray)))
    (some ([], true))
    ((strI sA (w64 ((sA.size : Int) - 1))).bind fun b1 =>
    cond ((b1.toNat : Int) != 10)
      (some ([], false))
      ((need (inB 0 (w64 ((sA.size : Int) - 1)) sA.size)).bind fun u3 =>
      (strings_Split_p (ByteArray.extract sA 0 (w64 ((sA.size : Int) - 1)).toNat) (⟨#[10]⟩ : ByteArray)).bind fun x5 =>
      some (x5, true)))
theorem impl_linesOf_ok (sA : ByteArray) (r : ((List ByteArray) × Bool)) (hH : impl_linesOf_p sA = some r) : SpecR Tryd.prog 34 [.v (.string sA)] (.t [.w 1 (r.1.map encStr), .v (.bool r.2)]) := by
 refine fn_ok T Tryd.func34 rfl (by decide) rfl ?_
 refine AW.seq (AW.region ?_)
 iterate 2 refine AO.pu T ?_
 refine AO.nil ?_
 iterate 2 refine AW.seq ?_
 refine AW.region ?_
 iterate 2 refine AO.pu T ?_
 refine AO.nil ?_
 refine AW.cond (b := decide (sA = (⟨#[]⟩ : ByteArray))) rfl (fun hc => ?_) (fun hc => ?_)
 replace hH := condT hc hH
 refine AW.seq (AW.region ?_)
 refine AO.step rfl (mk0_ok T rfl rfl rfl rfl) ?_
 iterate 2 refine AO.pu T ?_
 refine AO.nil (AW.ret ?_)
 have hR := someE hH; subst hR
 exact retQ.i [] rfl (.t (expLG_cons (.c .nil) (expLG_cons (.c .v) (expLG_nil))))
 replace hH := condF hc hH
 refine AW.skip ?_
 iterate 2 refine AW.seq ?_
 obtain ⟨b1, hx2, hH⟩ := bindE hH
 refine AW.region ?_
 iterate 3 refine AO.pu T ?_
 refine AO.val rfl rfl (arw_ok rfl rfl rfl rfl) ?_
 refine AO.val rfl rfl (ix_strI_ok T rfl rfl rfl rfl (hx2)) ?_
 refine AO.pu T ?_
 refine AO.nil ?_
 refine AW.cond (b := ((b1.toNat : Int) != 10)) rfl (fun hc => ?_) (fun hc => ?_)
 replace hH := condT hc hH
 refine AW.seq (AW.region ?_)
 iterate 2 refine AO.pu T ?_
 refine AO.nil (AW.ret ?_)
 have hR := someE hH; subst hR
 exact retQ.i [] rfl (.t (expLG_cons (.c .nil) (expLG_cons (.c .v) (expLG_nil))))
 replace hH := condF hc hH
 refine AW.skip ?_
 refine AW.seq ?_
 obtain ⟨u3, hx4, hH⟩ := bindE hH
 obtain ⟨x5, hx6, hH⟩ := bindE hH
 refine AW.region ?_
 iterate 3 refine AO.pu T ?_
 refine AO.val rfl rfl (arw_ok rfl rfl rfl rfl) ?_
 refine AO.val rfl rfl (slice_str_hi T rfl rfl rfl rfl (needT (hx4))) ?_
 refine AO.step rfl (call_ok rfl 1 rfl rfl rfl (strings_Split_ok _ _ _ (hx6)) rfl rfl rfl) ?_
 iterate 2 refine AO.pu T ?_
 refine AO.nil (AW.ret ?_)
 have hR := someE hH; subst hR
 exact retQ.i [1] rfl (.t (expLG_cons (.c (.rowR rfl)) (expLG_cons (.c .v) (expLG_nil))))

def impl_within_p (n : Int) (low : Int) (high : Int) : Option Bool :=
  some (decide (n ≥ low) && decide (n ≤ high))
theorem impl_within_ok (n : Int) (low : Int) (high : Int) (r : Bool) (hH : impl_within_p n low high = some r) : SpecR Tryd.prog 71 [n, low, high] (.v (.bool r)) := by
 refine fn_ok T Tryd.func71 rfl (by decide) rfl ?_
 refine AW.seq (AW.region ?_)
 refine AO.pu T ?_
 refine AO.nil (AW.seq ?_)
 refine AW.region ?_
 iterate 4 refine AO.pu T ?_
 iterate 2 refine AO.pureG T [] rfl trivial rfl rfl ?_
 refine AO.pureG T [11, 12] rfl ⟨fun h => h, fun h => h, trivial⟩ rfl rfl ?_
 refine AO.val rfl rfl (pick_and rfl rfl rfl rfl) ?_
 refine AO.pu T ?_
 refine AO.nil (AW.ret ?_)
 have hR := someE hH; subst hR
 exact retQ.i [] rfl (.c (.c .v))

def impl_IsElementName_l1 (sA : ByteArray) : Nat → Int → Option Bool
  | 0, _ => none
  | k1 + 1, v7 =>
    cond (decide (v7 < (sA.size : Int)))
      ((strI sA v7).bind fun b9 =>
      cond ((decide ((b9.toNat : Int) < 65) || decide ((b9.toNat : Int) > 90)) && (decide ((b9.toNat : Int) < 48) || decide ((b9.toNat : Int) > 57)))
        (some false)
        (impl_IsElementName_l1 sA k1 (w64 (v7 + 1))))
      ((impl_within_p (sA.size : Int) 1 5).bind fun x11 =>
      some x11)
def impl_IsElementName_p (fuel : Nat) (sA : ByteArray) : Option Bool :=
  impl_IsElementName_l1 sA fuel 0
theorem impl_IsElementName_ok (fuel : Nat) (sA : ByteArray) (r : Bool) (hH : impl_IsElementName_p fuel sA = some r) : SpecR Tryd.prog 88 [.v (.string sA)] (.v (.bool r)) := by
 refine fn_ok T Tryd.func88 rfl (by decide) rfl ?_
 refine AW.seq (AW.region ?_)
 refine AO.pu T ?_
 refine AO.nil ?_
 iterate 2 refine AW.seq ?_
 refine AW.region ?_
 refine AO.pu T ?_
 refine AO.nil ?_
 refine AW.block ?_
 refine AW.loopS (fun s : Nat × Int => (⟨[(0, .v (.string sA)), (3, s.2)], [], 35, []⟩ : St)) (fun s => impl_IsElementName_l1 sA s.1 s.2 = some r) (fun s => s.1) (fuel, 0) hH ?_ ?_
 exact Le.ct 0 0
 rintro ⟨k1, v7⟩ hH
 replace hH : impl_IsElementName_l1 sA k1 v7 = some r := hH
 try dsimp only
 rcases k1 with _ | k1
 cases (show none = some _ from hH)
 rw [impl_IsElementName_l1] at hH
 iterate 2 refine AW.seq ?_
 refine AW.region ?_
 iterate 4 refine AO.pu T ?_
 refine AO.nil ?_
 refine AW.cond (b := decide (v7 < (sA.size : Int))) rfl (fun hc => ?_) (fun hc => ?_)
 replace hH := condT hc hH
 refine AW.skip ?_
 refine AW.seq ?_
 refine AW.block ?_
 refine AW.seq ?_
 obtain ⟨b9, hx10, hH⟩ := bindE hH
 refine AW.region ?_
 iterate 2 refine AO.pu T ?_
 refine AO.val rfl rfl (ix_strI_ok T rfl rfl rfl rfl (hx10)) ?_
 iterate 2 refine AO.pu T ?_
 iterate 2 refine AO.pureG T [] rfl trivial rfl rfl ?_
 refine AO.guard [15, 16] rfl ⟨fun h => h, fun h => h, trivial⟩ (fun hg => ix_strI_ok T rfl rfl rfl rfl (hx10)) rfl ?_
 refine AO.pureG T [17] rfl ⟨fun h => h, trivial⟩ rfl rfl ?_
 refine AO.val rfl rfl (pick_or rfl rfl rfl rfl) ?_
 refine AO.pu T ?_
 iterate 2 refine AO.pureG T [] rfl trivial rfl rfl ?_
 refine AO.guard [21, 22] rfl ⟨fun h => h, fun h => h, trivial⟩ (fun hg => ix_strI_ok T rfl rfl rfl rfl (hx10)) rfl ?_
 refine AO.pureG T [23] rfl ⟨fun h => h, trivial⟩ rfl rfl ?_
 refine AO.pureG T [24] rfl ⟨fun h => h, trivial⟩ rfl rfl ?_
 iterate 2 refine AO.pureG T [] rfl trivial rfl rfl ?_
 refine AO.guard [26, 27] rfl ⟨fun h => h, fun h => h, trivial⟩ (fun hg => ix_strI_ok T rfl rfl rfl rfl (hx10)) rfl ?_
 refine AO.pureG T [28] rfl ⟨fun h => h, trivial⟩ rfl rfl ?_
 refine AO.guard [25] rfl ⟨fun h => h, trivial⟩ (fun hg => pick_or rfl rfl rfl (by rw [hg]; exact Bool.true_and _)) rfl ?_
 refine AO.val rfl rfl (pick_and rfl rfl rfl rfl) ?_
 refine AO.nil ?_
 refine AW.le (Le.ct 0 0 (σ' := (⟨[(0, .v (.string sA)), (3, v7), (31, .v (.bool ((decide ((b9.toNat : Int) < 65) || decide ((b9.toNat : Int) > 90)) && (decide ((b9.toNat : Int) < 48) || decide ((b9.toNat : Int) > 57)))))], [], 35, []⟩ : St))) ?_
 refine AW.cond (b := ((decide ((b9.toNat : Int) < 65) || decide ((b9.toNat : Int) > 90)) && (decide ((b9.toNat : Int) < 48) || decide ((b9.toNat : Int) > 57)))) rfl (fun hc => ?_) (fun hc => ?_)
 replace hH := condT hc hH
 refine AW.seq (AW.region ?_)
 refine AO.pu T ?_
 refine AO.nil (AW.ret ?_)
 have hR := someE hH; subst hR
 exact retQ.i [] rfl (.c (.c .v))
 replace hH := condF hc hH
 refine AW.skip ?_
 refine AW.region ?_
 refine AO.pu T ?_
 refine AO.val rfl rfl (arw_ok rfl rfl rfl rfl) ?_
 refine AO.pu T ?_
 refine AO.nil ?_
 refine ⟨(k1, w64 (v7 + 1)), hH, Nat.lt_succ_self _, ?_⟩
 exact Le.ct 0 0
 replace hH := condF hc hH
 refine AW.exit ?_
 refine AW.seq ?_
 obtain ⟨x11, hx12, hH⟩ := bindE hH
 refine AW.region ?_
 iterate 2 refine AO.pu T ?_
 refine AO.val rfl rfl (callV_ok rfl rfl rfl rfl (impl_within_ok _ _ _ _ (hx12)) rfl) ?_
 refine AO.pu T ?_
 refine AO.nil (AW.ret ?_)
 have hR := someE hH; subst hR
 exact retQ.i [] rfl (.c (.c .v))

def impl_IsName_p (fuel : Nat) (sA : ByteArray) : Option Bool :=
  (impl_IsElementName_p fuel sA).bind fun x1 =>
  some x1
theorem impl_IsName_ok (fuel : Nat) (sA : ByteArray) (r : Bool) (hH : impl_IsName_p fuel sA = some r) : SpecR Tryd.prog 70 [.v (.string sA)] (.v (.bool r)) := by
 refine fn_ok T Tryd.func70 rfl (by decide) rfl ?_
 refine AW.seq (AW.region ?_)
 refine AO.pu T ?_
 refine AO.nil (AW.seq ?_)
 obtain ⟨x1, hx2, hH⟩ := bindE hH
 refine AW.region ?_
 refine AO.pu T ?_
 refine AO.val rfl rfl (callV_ok rfl rfl rfl rfl (impl_IsElementName_ok fuel _ _ (hx2)) rfl) ?_
 refine AO.pu T ?_
 refine AO.nil (AW.ret ?_)
 have hR := someE hH; subst hR
 exact retQ.i [] rfl (.c (.c .v))

def impl_allWithin_l1 (low : Int) (high : Int) : List Int → Nat → Option Bool
  | [], k1 =>
    some true
  | y2 :: ys3, k1 =>
    (impl_within_p y2 low high).bind fun x12 =>
    cond (!x12)
      (some false)
      (impl_allWithin_l1 low high ys3 (k1 + 1))
def impl_allWithin_p (l : List Int) (low : Int) (high : Int) : Option Bool :=
  impl_allWithin_l1 low high l 0
theorem impl_allWithin_ok (l : List Int) (low : Int) (high : Int) (r : Bool) (hH : impl_allWithin_p l low high = some r) : SpecR Tryd.prog 72 [.s (List.map encInt l), low, high] (.v (.bool r)) := by
 refine fn_ok T Tryd.func72 rfl (by decide) rfl ?_
 refine AW.seq (AW.region ?_)
 refine AO.pu T ?_
 refine AO.nil ?_
 iterate 2 refine AW.seq ?_
 refine AW.region ?_
 refine AO.pu T ?_
 refine AO.val rfl rfl (len_map_ok T rfl rfl rfl) ?_
 refine AO.pu T ?_
 refine AO.nil ?_
 refine AW.block ?_
 refine AW.loopS (fun s : Nat => (⟨[(1, low), (2, high), (9, .s (List.map encInt l)), (10, (l.length : Int)), (11, (s : Int))], [], 21, []⟩ : St)) (fun s => s ≤ l.length ∧ impl_allWithin_l1 low high (l.drop s) s = some r) (fun s => l.length - s) 0 ⟨Nat.zero_le _, hH⟩ ?_ ?_
 exact Le.ct 0 0
 rintro k1 ⟨hk, hH⟩
 replace hH : impl_allWithin_l1 low high (l.drop k1) k1 = some r := hH
 try dsimp only
 refine AW.boundM (t := 9) (l := l) rfl (fun hb5 => ?_)
 rcases hd4 : l.drop k1 with _ | ⟨y2, ys3⟩
 rw [hd4, impl_allWithin_l1] at hH
 have hlt6 := drop_ge hd4
 refine AW.seq (AW.region ?_)
 refine AO.pu T ?_
 refine AO.nil (AW.seq ?_)
 refine AW.condF' (b := decide ((k1 : Int) < (l.length : Int))) rfl (rngF hlt6) ?_
 refine AW.exit ?_
 refine AW.seq (AW.region ?_)
 refine AO.pu T ?_
 refine AO.nil (AW.ret ?_)
 have hR := someE hH; subst hR
 exact retQ.i [] rfl (.c (.c .v))
 rw [hd4, impl_allWithin_l1] at hH
 have hlt6 := drop_lt hd4
 refine AW.seq (AW.region ?_)
 refine AO.pu T ?_
 refine AO.nil (AW.seq ?_)
 refine AW.condT' (b := decide ((k1 : Int) < (l.length : Int))) rfl (rngT hlt6) ?_
 refine AW.skip ?_
 refine AW.seq ?_
 refine AW.block ?_
 refine AW.seq (AW.region ?_)
 refine AO.val rfl rfl (ix_map_ok T rfl rfl rfl rfl rfl (getI_drop hd4) rfl) ?_
 iterate 2 refine AO.pu T ?_
 refine AO.nil (AW.seq ?_)
 obtain ⟨x12, hx13, hH⟩ := bindE hH
 refine AW.region ?_
 iterate 3 refine AO.pu T ?_
 refine AO.val rfl rfl (callV_ok rfl rfl rfl rfl (impl_within_ok _ _ _ _ (hx13)) rfl) ?_
 refine AO.pu T ?_
 refine AO.nil ?_
 refine AW.cond (b := (!x12)) rfl (fun hc => ?_) (fun hc => ?_)
 replace hH := condT hc hH
 refine AW.seq (AW.region ?_)
 refine AO.pu T ?_
 refine AO.nil (AW.ret ?_)
 have hR := someE hH; subst hR
 exact retQ.i [] rfl (.c (.c .v))
 replace hH := condF hc hH
 refine AW.skip ?_
 refine AW.region ?_
 refine AO.val rfl rfl (ar_ok rfl rfl rfl rfl (inI_succ hlt6 hb5)) ?_
 refine AO.pu T ?_
 refine AO.nil ?_
 refine ⟨k1 + 1, ⟨Nat.succ_le_of_lt hlt6, (by rw [drop_succ_of hd4]; exact hH)⟩, (by have := hlt6; dsimp only; omega), ?_⟩
 exact Le.ct 0 0

def impl_IsItem_l1 (it : Item) (fuel : Nat) : List ByteArray → Nat → Option Bool
  | [], k1 =>
    (impl_within_p (it.names.length : Int) 1 3).bind fun x12 =>
    (opt (x12 && ((it.marks.length : Int) == (it.names.length : Int))) default (impl_allWithin_p it.marks 0 3)).bind fun x14 =>
    some ((x12 && ((it.marks.length : Int) == (it.names.length : Int))) && x14)
  | y2 :: ys3, k1 =>
    (impl_IsName_p fuel y2).bind fun x16 =>
    cond (!x16)
      (some false)
      (impl_IsItem_l1 it fuel ys3 (k1 + 1))
def impl_IsItem_p (fuel : Nat) (it : Item) : Option Bool :=
  impl_IsItem_l1 it fuel it.names 0
theorem impl_IsItem_ok (fuel : Nat) (it : Item) (r : Bool) (hH : impl_IsItem_p fuel it = some r) : SpecR Tryd.prog 56 [.g (encItem it)] (.v (.bool r)) := by
 refine fn_ok T Tryd.func56 rfl (by decide) rfl ?_
 refine AW.seq (AW.region ?_)
 refine AO.step rfl (box_ok T rfl 1 rfl rfl rfl rfl) ?_
 refine AO.pu T ?_
 refine AO.nil ?_
 iterate 2 refine AW.seq ?_
 refine AW.region ?_
 iterate 2 refine AO.pu T ?_
 refine AO.val rfl rfl (len_map_ok T rfl rfl rfl) ?_
 refine AO.pu T ?_
 refine AO.nil ?_
 refine AW.block ?_
 refine AW.loopS (fun s : Nat => (⟨[(1, .p 1 0), (6, .s (List.map encStr it.names)), (7, (it.names.length : Int)), (8, (s : Int))], [(1, .box [.s (List.map encStr it.names), .s (List.map encInt it.marks), .v (.bool it.late)])], 34, []⟩ : St)) (fun s => s ≤ it.names.length ∧ impl_IsItem_l1 it fuel (it.names.drop s) s = some r) (fun s => it.names.length - s) 0 ⟨Nat.zero_le _, hH⟩ ?_ ?_
 exact Le.ct 0 0
 rintro k1 ⟨hk, hH⟩
 replace hH : impl_IsItem_l1 it fuel (it.names.drop k1) k1 = some r := hH
 try dsimp only
 refine AW.boundM (t := 6) (l := it.names) rfl (fun hb5 => ?_)
 rcases hd4 : it.names.drop k1 with _ | ⟨y2, ys3⟩
 rw [hd4, impl_IsItem_l1] at hH
 have hlt6 := drop_ge hd4
 refine AW.seq (AW.region ?_)
 refine AO.pu T ?_
 refine AO.nil (AW.seq ?_)
 refine AW.condF' (b := decide ((k1 : Int) < (it.names.length : Int))) rfl (rngF hlt6) ?_
 refine AW.exit ?_
 refine AW.seq ?_
 obtain ⟨x12, hx13, hH⟩ := bindE hH
 obtain ⟨x14, hx15, hH⟩ := bindE hH
 refine AW.region ?_
 iterate 2 refine AO.pu T ?_
 refine AO.val rfl rfl (len_map_ok T rfl rfl rfl) ?_
 refine AO.val rfl rfl (callV_ok rfl rfl rfl rfl (impl_within_ok _ _ _ _ (hx13)) rfl) ?_
 refine AO.pu T ?_
 refine AO.pureG T [] rfl trivial rfl rfl ?_
 refine AO.pureG T [21] rfl ⟨fun h => h, trivial⟩ rfl rfl ?_
 refine AO.guard [22] rfl ⟨fun h => h, trivial⟩ (fun hg => len_map_ok T rfl rfl rfl) rfl ?_
 refine AO.pureG T [] rfl trivial rfl rfl ?_
 refine AO.pureG T [24] rfl ⟨fun h => h, trivial⟩ rfl rfl ?_
 refine AO.guard [25] rfl ⟨fun h => h, trivial⟩ (fun hg => len_map_ok T rfl rfl rfl) rfl ?_
 refine AO.pureG T [23, 26] rfl ⟨fun h => h, fun h => h, trivial⟩ rfl rfl ?_
 refine AO.val rfl rfl (pick_and rfl rfl rfl rfl) ?_
 refine AO.pu T ?_
 refine AO.pureG T [] rfl trivial rfl rfl ?_
 refine AO.pureG T [30] rfl ⟨fun h => h, trivial⟩ rfl rfl ?_
 refine AO.guard [31] rfl ⟨fun h => h, trivial⟩ (fun hg => callV_ok rfl rfl rfl rfl (impl_allWithin_ok _ _ _ _ (optT hx15 hg)) rfl) rfl ?_
 refine AO.val rfl rfl (pick_and rfl rfl rfl rfl) ?_
 refine AO.pu T ?_
 refine AO.nil (AW.ret ?_)
 have hR := someE hH; subst hR
 exact retQ.i [] rfl (.c (.c .v))
 rw [hd4, impl_IsItem_l1] at hH
 have hlt6 := drop_lt hd4
 refine AW.seq (AW.region ?_)
 refine AO.pu T ?_
 refine AO.nil (AW.seq ?_)
 refine AW.condT' (b := decide ((k1 : Int) < (it.names.length : Int))) rfl (rngT hlt6) ?_
 refine AW.skip ?_
 refine AW.seq ?_
 refine AW.block ?_
 refine AW.seq (AW.region ?_)
 refine AO.val rfl rfl (ix_map_ok T rfl rfl rfl rfl rfl (getI_drop hd4) rfl) ?_
 iterate 2 refine AO.pu T ?_
 refine AO.nil (AW.seq ?_)
 obtain ⟨x16, hx17, hH⟩ := bindE hH
 refine AW.region ?_
 refine AO.pu T ?_
 refine AO.val rfl rfl (callV_ok rfl rfl rfl rfl (impl_IsName_ok fuel _ _ (hx17)) rfl) ?_
 refine AO.pu T ?_
 refine AO.nil ?_
 refine AW.cond (b := (!x16)) rfl (fun hc => ?_) (fun hc => ?_)
 replace hH := condT hc hH
 refine AW.seq (AW.region ?_)
 refine AO.pu T ?_
 refine AO.nil (AW.ret ?_)
 have hR := someE hH; subst hR
 exact retQ.i [] rfl (.c (.c .v))
 replace hH := condF hc hH
 refine AW.skip ?_
 refine AW.region ?_
 refine AO.val rfl rfl (ar_ok rfl rfl rfl rfl (inI_succ hlt6 hb5)) ?_
 refine AO.pu T ?_
 refine AO.nil ?_
 refine ⟨k1 + 1, ⟨Nat.succ_le_of_lt hlt6, (by rw [drop_succ_of hd4]; exact hH)⟩, (by have := hlt6; dsimp only; omega), ?_⟩
 exact Le.ct 0 0

def impl_AreItems_l1 (l : List Item) (fuel : Nat) : List Item → Nat → Option Bool
  | [], k1 =>
    some (decide ((l.length : Int) ≤ 14))
  | y2 :: ys3, k1 =>
    (impl_IsItem_p fuel y2).bind fun x12 =>
    cond (!x12)
      (some false)
      (impl_AreItems_l1 l fuel ys3 (k1 + 1))
def impl_AreItems_p (fuel : Nat) (l : List Item) : Option Bool :=
  impl_AreItems_l1 l fuel l 0
theorem impl_AreItems_ok (fuel : Nat) (l : List Item) (r : Bool) (hH : impl_AreItems_p fuel l = some r) : SpecR Tryd.prog 35 [.s (List.map encItem l)] (.v (.bool r)) := by
 refine fn_ok T Tryd.func35 rfl (by decide) rfl ?_
 refine AW.seq (AW.region ?_)
 refine AO.pu T ?_
 refine AO.nil ?_
 iterate 2 refine AW.seq ?_
 refine AW.region ?_
 refine AO.pu T ?_
 refine AO.val rfl rfl (len_map_ok T rfl rfl rfl) ?_
 refine AO.pu T ?_
 refine AO.nil ?_
 refine AW.block ?_
 refine AW.loopS (fun s : Nat => (⟨[(0, .s (List.map encItem l)), (5, .s (List.map encItem l)), (6, (l.length : Int)), (7, (s : Int))], [], 18, []⟩ : St)) (fun s => s ≤ l.length ∧ impl_AreItems_l1 l fuel (l.drop s) s = some r) (fun s => l.length - s) 0 ⟨Nat.zero_le _, hH⟩ ?_ ?_
 exact Le.ct 0 0
 rintro k1 ⟨hk, hH⟩
 replace hH : impl_AreItems_l1 l fuel (l.drop k1) k1 = some r := hH
 try dsimp only
 refine AW.boundM (t := 0) (l := l) rfl (fun hb5 => ?_)
 rcases hd4 : l.drop k1 with _ | ⟨y2, ys3⟩
 rw [hd4, impl_AreItems_l1] at hH
 have hlt6 := drop_ge hd4
 refine AW.seq (AW.region ?_)
 refine AO.pu T ?_
 refine AO.nil (AW.seq ?_)
 refine AW.condF' (b := decide ((k1 : Int) < (l.length : Int))) rfl (rngF hlt6) ?_
 refine AW.exit ?_
 refine AW.seq (AW.region ?_)
 refine AO.pu T ?_
 refine AO.val rfl rfl (len_map_ok T rfl rfl rfl) ?_
 iterate 2 refine AO.pu T ?_
 refine AO.nil (AW.ret ?_)
 have hR := someE hH; subst hR
 exact retQ.i [] rfl (.c (.c .v))
 rw [hd4, impl_AreItems_l1] at hH
 have hlt6 := drop_lt hd4
 refine AW.seq (AW.region ?_)
 refine AO.pu T ?_
 refine AO.nil (AW.seq ?_)
 refine AW.condT' (b := decide ((k1 : Int) < (l.length : Int))) rfl (rngT hlt6) ?_
 refine AW.skip ?_
 refine AW.seq ?_
 refine AW.block ?_
 refine AW.seq (AW.region ?_)
 refine AO.val rfl rfl (ix_map_ok T rfl rfl rfl rfl rfl (getI_drop hd4) rfl) ?_
 refine AO.pu T (d := .g [.s (List.map encStr y2.names), .s (List.map encInt y2.marks), .v (.bool y2.late)]) ?_
 refine AO.step rfl (alloc_ok T rfl 3 rfl rfl rfl rfl rfl) ?_
 refine AO.se T [.s (List.map encStr y2.names), .s (List.map encInt y2.marks), .v (.bool y2.late)] ?_
 refine AO.nil (AW.seq ?_)
 obtain ⟨x12, hx13, hH⟩ := bindE hH
 refine AW.region ?_
 refine AO.pu T (d := .g [.s (List.map encStr y2.names), .s (List.map encInt y2.marks), .v (.bool y2.late)]) ?_
 refine AO.val rfl rfl (callV_ok rfl rfl rfl rfl (impl_IsItem_ok fuel _ _ (hx13)) rfl) ?_
 refine AO.pu T ?_
 refine AO.nil ?_
 refine AW.cond (b := (!x12)) rfl (fun hc => ?_) (fun hc => ?_)
 replace hH := condT hc hH
 refine AW.seq (AW.region ?_)
 refine AO.pu T ?_
 refine AO.nil (AW.ret ?_)
 have hR := someE hH; subst hR
 exact retQ.i [] rfl (.c (.c .v))
 replace hH := condF hc hH
 refine AW.skip ?_
 refine AW.region ?_
 refine AO.val rfl rfl (ar_ok rfl rfl rfl rfl (inI_succ hlt6 hb5)) ?_
 refine AO.pu T ?_
 refine AO.nil ?_
 refine ⟨k1 + 1, ⟨Nat.succ_le_of_lt hlt6, (by rw [drop_succ_of hd4]; exact hH)⟩, (by have := hlt6; dsimp only; omega), ?_⟩
 exact Le.ct 0 0

def stringslite_HasSuffix_p (sA : ByteArray) (suffix : ByteArray) : Option Bool :=
  (opt (decide ((sA.size : Int) ≥ (suffix.size : Int))) default (need (inB (w64 ((sA.size : Int) - (suffix.size : Int))) sA.size sA.size))).bind fun u1 =>
  some (decide ((sA.size : Int) ≥ (suffix.size : Int)) && decide ((ByteArray.extract sA (w64 ((sA.size : Int) - (suffix.size : Int))).toNat sA.size) = suffix))
theorem stringslite_HasSuffix_ok (sA : ByteArray) (suffix : ByteArray) (r : Bool) (hH : stringslite_HasSuffix_p sA suffix = some r) : SpecR Tryd.prog 73 [.v (.string sA), .v (.string suffix)] (.v (.bool r)) := by
 refine fn_ok T Tryd.func73 rfl (by decide) rfl ?_
 refine AW.seq (AW.region ?_)
 refine AO.pu T ?_
 refine AO.nil (AW.seq ?_)
 obtain ⟨u1, hx2, hH⟩ := bindE hH
 refine AW.region ?_
 iterate 6 refine AO.pu T ?_
 iterate 2 refine AO.pureG T [] rfl trivial rfl rfl ?_
 refine AO.pureG T [12] rfl ⟨fun h => h, trivial⟩ rfl rfl ?_
 refine AO.pureG T [] rfl trivial rfl rfl ?_
 refine AO.pureG T [14] rfl ⟨fun h => h, trivial⟩ rfl rfl ?_
 refine AO.guard [13, 15] rfl ⟨fun h => h, fun h => h, trivial⟩ (fun hg => arw_ok rfl rfl rfl rfl) rfl ?_
 refine AO.guard [11, 16] rfl ⟨fun h => h, fun h => h, trivial⟩ (fun hg => slice_str_lo T rfl rfl rfl rfl (needT (optT hx2 hg))) rfl ?_
 refine AO.pureG T [] rfl trivial rfl rfl ?_
 refine AO.pureG T [17, 18] rfl ⟨fun h => h, fun h => h, trivial⟩ rfl rfl ?_
 refine AO.val rfl rfl (pick_and rfl rfl rfl rfl) ?_
 refine AO.pu T ?_
 refine AO.nil (AW.ret ?_)
 have hR := someE hH; subst hR
 exact retQ.i [] rfl (.c (.c .v))

def stringslite_CutSuffix_p (sA : ByteArray) (suffix : ByteArray) : Option (ByteArray × Bool) :=
  (stringslite_HasSuffix_p sA suffix).bind fun x1 =>
  cond (!x1)
    (some (sA, false))
    ((need (inB 0 (w64 ((sA.size : Int) - (suffix.size : Int))) sA.size)).bind fun u3 =>
    some ((ByteArray.extract sA 0 (w64 ((sA.size : Int) - (suffix.size : Int))).toNat), true))
theorem stringslite_CutSuffix_ok (sA : ByteArray) (suffix : ByteArray) (r : (ByteArray × Bool)) (hH : stringslite_CutSuffix_p sA suffix = some r) : SpecR Tryd.prog 57 [.v (.string sA), .v (.string suffix)] (.t [.v (.string r.1), .v (.bool r.2)]) := by
 refine fn_ok T Tryd.func57 rfl (by decide) rfl ?_
 refine AW.seq (AW.region ?_)
 iterate 2 refine AO.pu T ?_
 refine AO.nil ?_
 iterate 2 refine AW.seq ?_
 obtain ⟨x1, hx2, hH⟩ := bindE hH
 refine AW.region ?_
 iterate 2 refine AO.pu T ?_
 refine AO.val rfl rfl (callV_ok rfl rfl rfl rfl (stringslite_HasSuffix_ok _ _ _ (hx2)) rfl) ?_
 refine AO.pu T ?_
 refine AO.nil ?_
 refine AW.cond (b := (!x1)) rfl (fun hc => ?_) (fun hc => ?_)
 replace hH := condT hc hH
 refine AW.seq (AW.region ?_)
 iterate 3 refine AO.pu T ?_
 refine AO.nil (AW.ret ?_)
 have hR := someE hH; subst hR
 exact retQ.i [] rfl (.t (expLG_cons (.c .v) (expLG_cons (.c .v) (expLG_nil))))
 replace hH := condF hc hH
 refine AW.skip ?_
 refine AW.seq ?_
 obtain ⟨u3, hx4, hH⟩ := bindE hH
 refine AW.region ?_
 iterate 5 refine AO.pu T ?_
 refine AO.val rfl rfl (arw_ok rfl rfl rfl rfl) ?_
 refine AO.val rfl rfl (slice_str_hi T rfl rfl rfl rfl (needT (hx4))) ?_
 iterate 2 refine AO.pu T ?_
 refine AO.nil (AW.ret ?_)
 have hR := someE hH; subst hR
 exact retQ.i [] rfl (.t (expLG_cons (.c .v) (expLG_cons (.c .v) (expLG_nil))))

def strings_CutSuffix_p (sA : ByteArray) (suffix : ByteArray) : Option (ByteArray × Bool) :=
  (stringslite_CutSuffix_p sA suffix).bind fun x1 =>
  some (x1.1, x1.2)
theorem strings_CutSuffix_ok (sA : ByteArray) (suffix : ByteArray) (r : (ByteArray × Bool)) (hH : strings_CutSuffix_p sA suffix = some r) : SpecR Tryd.prog 36 [.v (.string sA), .v (.string suffix)] (.t [.v (.string r.1), .v (.bool r.2)]) := by
 refine fn_ok T Tryd.func36 rfl (by decide) rfl ?_
 refine AW.seq (AW.region ?_)
 iterate 2 refine AO.pu T ?_
 refine AO.nil (AW.seq ?_)
 obtain ⟨x1, hx2, hH⟩ := bindE hH
 refine AW.region ?_
 iterate 2 refine AO.pu T ?_
 refine AO.val rfl rfl (callV_ok rfl rfl rfl rfl (stringslite_CutSuffix_ok _ _ _ (hx2)) rfl) ?_
 iterate 4 refine AO.pu T ?_
 refine AO.nil (AW.ret ?_)
 have hR := someE hH; subst hR
 exact retQ.i [] rfl (.t (expLG_cons (.c .v) (expLG_cons (.c .v) (expLG_nil))))

def stringslite_HasPrefix_p (sA : ByteArray) (prefixA : ByteArray) : Option Bool :=
  (opt (decide ((sA.size : Int) ≥ (prefixA.size : Int))) default (need (inB 0 (prefixA.size : Int) sA.size))).bind fun u1 =>
  some (decide ((sA.size : Int) ≥ (prefixA.size : Int)) && decide ((ByteArray.extract sA 0 (prefixA.size : Int).toNat) = prefixA))
theorem stringslite_HasPrefix_ok (sA : ByteArray) (prefixA : ByteArray) (r : Bool) (hH : stringslite_HasPrefix_p sA prefixA = some r) : SpecR Tryd.prog 107 [.v (.string sA), .v (.string prefixA)] (.v (.bool r)) := by
 refine fn_ok T Tryd.func107 rfl (by decide) rfl ?_
 refine AW.seq (AW.region ?_)
 refine AO.pu T ?_
 refine AO.nil (AW.seq ?_)
 obtain ⟨u1, hx2, hH⟩ := bindE hH
 refine AW.region ?_
 iterate 6 refine AO.pu T ?_
 iterate 2 refine AO.pureG T [] rfl trivial rfl rfl ?_
 refine AO.pureG T [12] rfl ⟨fun h => h, trivial⟩ rfl rfl ?_
 refine AO.guard [11, 13] rfl ⟨fun h => h, fun h => h, trivial⟩ (fun hg => slice_str_hi T rfl rfl rfl rfl (needT (optT hx2 hg))) rfl ?_
 refine AO.pureG T [] rfl trivial rfl rfl ?_
 refine AO.pureG T [14, 15] rfl ⟨fun h => h, fun h => h, trivial⟩ rfl rfl ?_
 refine AO.val rfl rfl (pick_and rfl rfl rfl rfl) ?_
 refine AO.pu T ?_
 refine AO.nil (AW.ret ?_)
 have hR := someE hH; subst hR
 exact retQ.i [] rfl (.c (.c .v))

def stringslite_CutPrefix_p (sA : ByteArray) (prefixA : ByteArray) : Option (ByteArray × Bool) :=
  (stringslite_HasPrefix_p sA prefixA).bind fun x1 =>
  cond (!x1)
    (some (sA, false))
    ((need (inB (prefixA.size : Int) sA.size sA.size)).bind fun u3 =>
    some ((ByteArray.extract sA (prefixA.size : Int).toNat sA.size), true))
theorem stringslite_CutPrefix_ok (sA : ByteArray) (prefixA : ByteArray) (r : (ByteArray × Bool)) (hH : stringslite_CutPrefix_p sA prefixA = some r) : SpecR Tryd.prog 93 [.v (.string sA), .v (.string prefixA)] (.t [.v (.string r.1), .v (.bool r.2)]) := by
 refine fn_ok T Tryd.func93 rfl (by decide) rfl ?_
 refine AW.seq (AW.region ?_)
 iterate 2 refine AO.pu T ?_
 refine AO.nil ?_
 iterate 2 refine AW.seq ?_
 obtain ⟨x1, hx2, hH⟩ := bindE hH
 refine AW.region ?_
 iterate 2 refine AO.pu T ?_
 refine AO.val rfl rfl (callV_ok rfl rfl rfl rfl (stringslite_HasPrefix_ok _ _ _ (hx2)) rfl) ?_
 refine AO.pu T ?_
 refine AO.nil ?_
 refine AW.cond (b := (!x1)) rfl (fun hc => ?_) (fun hc => ?_)
 replace hH := condT hc hH
 refine AW.seq (AW.region ?_)
 iterate 3 refine AO.pu T ?_
 refine AO.nil (AW.ret ?_)
 have hR := someE hH; subst hR
 exact retQ.i [] rfl (.t (expLG_cons (.c .v) (expLG_cons (.c .v) (expLG_nil))))
 replace hH := condF hc hH
 refine AW.skip ?_
 refine AW.seq ?_
 obtain ⟨u3, hx4, hH⟩ := bindE hH
 refine AW.region ?_
 iterate 3 refine AO.pu T ?_
 refine AO.val rfl rfl (slice_str_lo T rfl rfl rfl rfl (needT (hx4))) ?_
 iterate 2 refine AO.pu T ?_
 refine AO.nil (AW.ret ?_)
 have hR := someE hH; subst hR
 exact retQ.i [] rfl (.t (expLG_cons (.c .v) (expLG_cons (.c .v) (expLG_nil))))

def strings_CutPrefix_p (sA : ByteArray) (prefixA : ByteArray) : Option (ByteArray × Bool) :=
  (stringslite_CutPrefix_p sA prefixA).bind fun x1 =>
  some (x1.1, x1.2)
theorem strings_CutPrefix_ok (sA : ByteArray) (prefixA : ByteArray) (r : (ByteArray × Bool)) (hH : strings_CutPrefix_p sA prefixA = some r) : SpecR Tryd.prog 77 [.v (.string sA), .v (.string prefixA)] (.t [.v (.string r.1), .v (.bool r.2)]) := by
 refine fn_ok T Tryd.func77 rfl (by decide) rfl ?_
 refine AW.seq (AW.region ?_)
 iterate 2 refine AO.pu T ?_
 refine AO.nil (AW.seq ?_)
 obtain ⟨x1, hx2, hH⟩ := bindE hH
 refine AW.region ?_
 iterate 2 refine AO.pu T ?_
 refine AO.val rfl rfl (callV_ok rfl rfl rfl rfl (stringslite_CutPrefix_ok _ _ _ (hx2)) rfl) ?_
 iterate 4 refine AO.pu T ?_
 refine AO.nil (AW.ret ?_)
 have hR := someE hH; subst hR
 exact retQ.i [] rfl (.t (expLG_cons (.c .v) (expLG_cons (.c .v) (expLG_nil))))

def impl_natural_l1 (sA : ByteArray) : Nat → Int → Int → Option ((Int × Bool))
  | 0, _, _ => none
  | k3 + 1, v10, v11 =>
    cond (decide (v11 < (sA.size : Int)))
      ((strI sA v11).bind fun b13 =>
      cond (decide ((b13.toNat : Int) < 48) || decide ((b13.toNat : Int) > 57))
        (some (0, false))
        (impl_natural_l1 sA k3 (w64 ((w64 (10 * v10)) + (IntKind.wrap .i64 (IntKind.wrap .u8 ((b13.toNat : Int) - 48))))) (w64 (v11 + 1))))
      (some (v10, true))
def impl_natural_p (fuel : Nat) (sA : ByteArray) : Option (Int × Bool) :=
  (opt ((!(decide (sA = (⟨#[]⟩ : ByteArray)) || decide ((sA.size : Int) > 12))) && decide ((sA.size : Int) > 1)) default (strI sA 0)).bind fun b1 =>
  cond ((decide (sA = (⟨#[]⟩ : ByteArray)) || decide ((sA.size : Int) > 12)) || (decide ((sA.size : Int) > 1) && ((b1.toNat : Int) == 48)))
    (some (0, false))
    (impl_natural_l1 sA fuel 0 0)
theorem impl_natural_ok (fuel : Nat) (sA : ByteArray) (r : (Int × Bool)) (hH : impl_natural_p fuel sA = some r) : SpecR Tryd.prog 78 [.v (.string sA)] (.t [.v (.int .i64 r.1), .v (.bool r.2)]) := by
 refine fn_ok T Tryd.func78 rfl (by decide) rfl ?_
 refine AW.seq (AW.region ?_)
 iterate 2 refine AO.pu T ?_
 refine AO.nil ?_
 iterate 2 refine AW.seq ?_
 obtain ⟨b1, hx2, hH⟩ := bindE hH
 refine AW.region ?_
 iterate 3 refine AO.pu T ?_
 refine AO.pureG T [] rfl trivial rfl rfl ?_
 refine AO.pureG T [9] rfl ⟨fun h => h, trivial⟩ rfl rfl ?_
 refine AO.pureG T [10] rfl ⟨fun h => h, trivial⟩ rfl rfl ?_
 refine AO.val rfl rfl (pick_or rfl rfl rfl rfl) ?_
 refine AO.pu T ?_
 refine AO.pureG T [] rfl trivial rfl rfl ?_
 refine AO.pureG T [14] rfl ⟨fun h => h, trivial⟩ rfl rfl ?_
 refine AO.pureG T [15] rfl ⟨fun h => h, trivial⟩ rfl rfl ?_
 refine AO.pureG T [16] rfl ⟨fun h => h, trivial⟩ rfl rfl ?_
 refine AO.pureG T [] rfl trivial rfl rfl ?_
 refine AO.guard [18] rfl ⟨fun h => h, trivial⟩ (fun hg => ix_strI_ok T rfl rfl rfl rfl (optT hx2 hg)) rfl ?_
 refine AO.pureG T [19] rfl ⟨fun h => h, trivial⟩ rfl rfl ?_
 refine AO.guard [17] rfl ⟨fun h => h, trivial⟩ (fun hg => pick_and rfl rfl rfl (by rw [hg]; exact Bool.true_and _)) rfl ?_
 refine AO.val rfl rfl (pick_or rfl rfl rfl rfl) ?_
 refine AO.nil ?_
 refine AW.cond (b := ((decide (sA = (⟨#[]⟩ : ByteArray)) || decide ((sA.size : Int) > 12)) || (decide ((sA.size : Int) > 1) && ((b1.toNat : Int) == 48)))) rfl (fun hc => ?_) (fun hc => ?_)
 replace hH := condT hc hH
 refine AW.seq (AW.region ?_)
 iterate 2 refine AO.pu T ?_
 refine AO.nil (AW.ret ?_)
 have hR := someE hH; subst hR
 exact retQ.i [] rfl (.t (expLG_cons (.c .v) (expLG_cons (.c .v) (expLG_nil))))
 replace hH := condF hc hH
 refine AW.skip ?_
 refine AW.seq (AW.region ?_)
 refine AO.pu T ?_
 refine AO.nil ?_
 iterate 2 refine AW.seq ?_
 refine AW.region ?_
 refine AO.pu T ?_
 refine AO.nil ?_
 refine AW.block ?_
 refine AW.loopS (fun s : Nat × Int × Int => (⟨[(0, .v (.string sA)), (4, s.2.1), (5, s.2.2)], [], 48, []⟩ : St)) (fun s => impl_natural_l1 sA s.1 s.2.1 s.2.2 = some r) (fun s => s.1) (fuel, 0, 0) hH ?_ ?_
 exact Le.ct 0 0
 rintro ⟨k3, v10, v11⟩ hH
 replace hH : impl_natural_l1 sA k3 v10 v11 = some r := hH
 try dsimp only
 rcases k3 with _ | k3
 cases (show none = some _ from hH)
 rw [impl_natural_l1] at hH
 iterate 2 refine AW.seq ?_
 refine AW.region ?_
 iterate 4 refine AO.pu T ?_
 refine AO.nil ?_
 refine AW.cond (b := decide (v11 < (sA.size : Int))) rfl (fun hc => ?_) (fun hc => ?_)
 replace hH := condT hc hH
 refine AW.skip ?_
 refine AW.seq ?_
 refine AW.block ?_
 iterate 2 refine AW.seq ?_
 obtain ⟨b13, hx14, hH⟩ := bindE hH
 refine AW.region ?_
 iterate 2 refine AO.pu T ?_
 refine AO.val rfl rfl (ix_strI_ok T rfl rfl rfl rfl (hx14)) ?_
 iterate 2 refine AO.pu T ?_
 iterate 2 refine AO.pureG T [] rfl trivial rfl rfl ?_
 refine AO.guard [34, 35] rfl ⟨fun h => h, fun h => h, trivial⟩ (fun hg => ix_strI_ok T rfl rfl rfl rfl (hx14)) rfl ?_
 refine AO.pureG T [36] rfl ⟨fun h => h, trivial⟩ rfl rfl ?_
 refine AO.val rfl rfl (pick_or rfl rfl rfl rfl) ?_
 refine AO.nil ?_
 refine AW.cond (b := (decide ((b13.toNat : Int) < 48) || decide ((b13.toNat : Int) > 57))) rfl (fun hc => ?_) (fun hc => ?_)
 replace hH := condT hc hH
 refine AW.seq (AW.region ?_)
 iterate 2 refine AO.pu T ?_
 refine AO.nil (AW.ret ?_)
 have hR := someE hH; subst hR
 exact retQ.i [] rfl (.t (expLG_cons (.c .v) (expLG_cons (.c .v) (expLG_nil))))
 replace hH := condF hc hH
 refine AW.skip ?_
 refine AW.region ?_
 refine AO.pu T ?_
 refine AO.val rfl rfl (arw_ok rfl rfl rfl rfl) ?_
 iterate 2 refine AO.pu T ?_
 refine AO.val rfl rfl (ix_strI_ok T rfl rfl rfl rfl (hx14)) ?_
 refine AO.val rfl rfl (arw_ok rfl rfl rfl rfl) ?_
 refine AO.val rfl rfl (convw_ok T rfl rfl rfl rfl) ?_
 refine AO.val rfl rfl (arw_ok rfl rfl rfl rfl) ?_
 refine AO.pu T ?_
 refine AO.nil ?_
 refine AW.region ?_
 refine AO.pu T ?_
 refine AO.val rfl rfl (arw_ok rfl rfl rfl rfl) ?_
 refine AO.pu T ?_
 refine AO.nil ?_
 refine ⟨(k3, w64 ((w64 (10 * v10)) + (IntKind.wrap .i64 (IntKind.wrap .u8 ((b13.toNat : Int) - 48)))), w64 (v11 + 1)), hH, Nat.lt_succ_self _, ?_⟩
 exact Le.ct 0 0
 replace hH := condF hc hH
 refine AW.exit ?_
 refine AW.seq (AW.region ?_)
 iterate 3 refine AO.pu T ?_
 refine AO.nil (AW.ret ?_)
 have hR := someE hH; subst hR
 exact retQ.i [] rfl (.t (expLG_cons (.c .v) (expLG_cons (.c .v) (expLG_nil))))

def impl_integer_p (fuel : Nat) (sA : ByteArray) : Option (Int × Bool) :=
  (strings_CutPrefix_p sA (⟨#[45]⟩ : ByteArray)).bind fun x1 =>
  (impl_natural_p fuel x1.1).bind fun x3 =>
  cond ((!x3.2) || (x1.2 && (x3.1 == 0)))
    (some (0, false))
    (cond x1.2
      (some (w64 (-x3.1), true))
      (some (x3.1, true)))
theorem impl_integer_ok (fuel : Nat) (sA : ByteArray) (r : (Int × Bool)) (hH : impl_integer_p fuel sA = some r) : SpecR Tryd.prog 59 [.v (.string sA)] (.t [.v (.int .i64 r.1), .v (.bool r.2)]) := by
 refine fn_ok T Tryd.func59 rfl (by decide) rfl ?_
 refine AW.seq (AW.region ?_)
 iterate 2 refine AO.pu T ?_
 refine AO.nil (AW.seq ?_)
 obtain ⟨x1, hx2, hH⟩ := bindE hH
 refine AW.region ?_
 refine AO.pu T ?_
 refine AO.val rfl rfl (callV_ok rfl rfl rfl rfl (strings_CutPrefix_ok _ _ _ (hx2)) rfl) ?_
 iterate 5 refine AO.pu T ?_
 refine AO.nil (AW.seq ?_)
 obtain ⟨x3, hx4, hH⟩ := bindE hH
 refine AW.region ?_
 refine AO.pu T ?_
 refine AO.val rfl rfl (callV_ok rfl rfl rfl rfl (impl_natural_ok fuel _ _ (hx4)) rfl) ?_
 iterate 5 refine AO.pu T ?_
 refine AO.nil ?_
 iterate 2 refine AW.seq ?_
 refine AW.region ?_
 iterate 3 refine AO.pu T ?_
 refine AO.pureG T [] rfl trivial rfl rfl ?_
 refine AO.pureG T [21] rfl ⟨fun h => h, trivial⟩ rfl rfl ?_
 refine AO.pureG T [] rfl trivial rfl rfl ?_
 refine AO.pureG T [23] rfl ⟨fun h => h, trivial⟩ rfl rfl ?_
 refine AO.guard [22] rfl ⟨fun h => h, trivial⟩ (fun hg => pick_and rfl rfl rfl (by rw [hg]; exact Bool.true_and _)) rfl ?_
 refine AO.val rfl rfl (pick_or rfl rfl rfl rfl) ?_
 refine AO.nil ?_
 refine AW.le (Le.ct 0 0 (σ' := (⟨[(5, .v (.bool x1.2)), (6, x3.1), (26, .v (.bool ((!x3.2) || (x1.2 && (x3.1 == 0)))))], [], 31, []⟩ : St))) ?_
 refine AW.cond (b := ((!x3.2) || (x1.2 && (x3.1 == 0)))) rfl (fun hc => ?_) (fun hc => ?_)
 replace hH := condT hc hH
 refine AW.seq (AW.region ?_)
 iterate 2 refine AO.pu T ?_
 refine AO.nil (AW.ret ?_)
 have hR := someE hH; subst hR
 exact retQ.i [] rfl (.t (expLG_cons (.c .v) (expLG_cons (.c .v) (expLG_nil))))
 replace hH := condF hc hH
 refine AW.skip ?_
 iterate 2 refine AW.seq ?_
 refine AW.region ?_
 refine AO.pu T ?_
 refine AO.nil ?_
 refine AW.cond (b := x1.2) rfl (fun hc => ?_) (fun hc => ?_)
 replace hH := condT hc hH
 refine AW.region ?_
 refine AO.pu T ?_
 refine AO.val rfl rfl (negw_ok rfl rfl) ?_
 refine AO.pu T ?_
 refine AO.nil (AW.seq ?_)
 refine AW.region ?_
 iterate 3 refine AO.pu T ?_
 refine AO.nil (AW.ret ?_)
 have hR := someE hH; subst hR
 exact retQ.i [] rfl (.t (expLG_cons (.c .v) (expLG_cons (.c .v) (expLG_nil))))
 replace hH := condF hc hH
 refine AW.skip ?_
 refine AW.seq (AW.region ?_)
 iterate 3 refine AO.pu T ?_
 refine AO.nil (AW.ret ?_)
 have hR := someE hH; subst hR
 exact retQ.i [] rfl (.t (expLG_cons (.c .v) (expLG_cons (.c .v) (expLG_nil))))

def impl_integersIn_l1 (fuel : Nat) : List ByteArray → Nat → List Int → Option (((List Int) × Bool))
  | [], k1, v16 =>
    some (v16, true)
  | y2 :: ys3, k1, v16 =>
    (impl_integer_p fuel y2).bind fun x18 =>
    cond (!x18.2)
      (some ([], false))
      ((need (fitsB 8 (v16.length + ([x18.1]).length))).bind fun u20 =>
      impl_integersIn_l1 fuel ys3 (k1 + 1) (v16 ++ [x18.1]))
def impl_integersIn_p (fuel : Nat) (words : List ByteArray) : Option ((List Int) × Bool) :=
  impl_integersIn_l1 fuel words 0 []
theorem impl_integersIn_ok (fuel : Nat) (words : List ByteArray) (r : ((List Int) × Bool)) (hH : impl_integersIn_p fuel words = some r) : SpecR Tryd.prog 38 [.s (List.map encStr words)] (.t [.w 1 (r.1.map encInt), .v (.bool r.2)]) := by
 refine fn_ok T Tryd.func38 rfl (by decide) rfl ?_
 refine AW.seq (AW.region ?_)
 iterate 2 refine AO.pu T ?_
 refine AO.nil (AW.seq ?_)
 refine AW.region ?_
 refine AO.step rfl (mk0_ok T rfl rfl rfl rfl) ?_
 refine AO.pu T ?_
 refine AO.nil ?_
 iterate 2 refine AW.seq ?_
 refine AW.region ?_
 refine AO.pu T ?_
 refine AO.val rfl rfl (len_map_ok T rfl rfl rfl) ?_
 refine AO.pu T ?_
 refine AO.nil ?_
 refine AW.block ?_
 refine AW.loopS (fun s : Nat × (List Int) => (⟨[(4, .R 4), (10, .s (List.map encStr words)), (11, (words.length : Int)), (12, (s.1 : Int))], [(4, .row 1 (List.map encInt s.2))], 29, []⟩ : St)) (fun s => s.1 ≤ words.length ∧ impl_integersIn_l1 fuel (words.drop s.1) s.1 s.2 = some r) (fun s => words.length - s.1) (0, []) ⟨Nat.zero_le _, hH⟩ ?_ ?_
 refine Le.trans (Le.void 4 4 1 rfl rfl) ?_
 exact Le.ct 0 0
 rintro ⟨k1, v16⟩ ⟨hk, hH⟩
 replace hH : impl_integersIn_l1 fuel (words.drop k1) k1 v16 = some r := hH
 try dsimp only
 refine AW.boundM (t := 10) (l := words) rfl (fun hb5 => ?_)
 rcases hd4 : words.drop k1 with _ | ⟨y2, ys3⟩
 rw [hd4, impl_integersIn_l1] at hH
 have hlt6 := drop_ge hd4
 refine AW.seq (AW.region ?_)
 refine AO.pu T ?_
 refine AO.nil (AW.seq ?_)
 refine AW.condF' (b := decide ((k1 : Int) < (words.length : Int))) rfl (rngF hlt6) ?_
 refine AW.exit ?_
 refine AW.seq (AW.region ?_)
 iterate 3 refine AO.pu T ?_
 refine AO.nil (AW.ret ?_)
 have hR := someE hH; subst hR
 exact retQ.i [4] rfl (.t (expLG_cons (.c (.rowR rfl)) (expLG_cons (.c .v) (expLG_nil))))
 rw [hd4, impl_integersIn_l1] at hH
 have hlt6 := drop_lt hd4
 refine AW.seq (AW.region ?_)
 refine AO.pu T ?_
 refine AO.nil (AW.seq ?_)
 refine AW.condT' (b := decide ((k1 : Int) < (words.length : Int))) rfl (rngT hlt6) ?_
 refine AW.skip ?_
 refine AW.seq ?_
 refine AW.block ?_
 refine AW.seq (AW.region ?_)
 refine AO.val rfl rfl (ix_map_ok T rfl rfl rfl rfl rfl (getI_drop hd4) rfl) ?_
 iterate 2 refine AO.pu T ?_
 refine AO.nil (AW.seq ?_)
 obtain ⟨x18, hx19, hH⟩ := bindE hH
 refine AW.region ?_
 refine AO.pu T ?_
 refine AO.val rfl rfl (callV_ok rfl rfl rfl rfl (impl_integer_ok fuel _ _ (hx19)) rfl) ?_
 iterate 5 refine AO.pu T ?_
 refine AO.nil ?_
 iterate 2 refine AW.seq ?_
 refine AW.region ?_
 iterate 2 refine AO.pu T ?_
 refine AO.nil ?_
 refine AW.cond (b := (!x18.2)) rfl (fun hc => ?_) (fun hc => ?_)
 replace hH := condT hc hH
 refine AW.seq (AW.region ?_)
 iterate 2 refine AO.pu T ?_
 refine AO.nil (AW.ret ?_)
 have hR := someE hH; subst hR
 exact retQ.i [] rfl (.t (expLG_cons (.c .nil) (expLG_cons (.c .v) (expLG_nil))))
 replace hH := condF hc hH
 refine AW.skip ?_
 obtain ⟨u20, hx21, hH⟩ := bindE hH
 refine AW.region ?_
 iterate 2 refine AO.pu T ?_
 refine AO.step rfl (mk_map_ok T rfl 5 rfl rfl rfl rfl rfl (f := encInt) (l := [x18.1]) rfl rfl (fun _ => rfl) rfl rfl rfl rfl rfl) ?_
 refine AO.step rfl (app_rv_map T rfl 6 rfl rfl rfl rfl rfl (by decide) rfl rfl rfl rfl (fun _ => rfl) (needT (hx21)) rfl rfl) ?_
 refine AO.pu T ?_
 refine AO.nil ?_
 refine AW.region ?_
 refine AO.val rfl rfl (ar_ok rfl rfl rfl rfl (inI_succ hlt6 hb5)) ?_
 refine AO.pu T ?_
 refine AO.nil ?_
 refine ⟨(k1 + 1, (v16 ++ [x18.1])), ⟨Nat.succ_le_of_lt hlt6, (by rw [drop_succ_of hd4]; exact hH)⟩, (by have := hlt6; dsimp only; omega), ?_⟩
 exact Le.ct 6 4

def slices_Index_string_l1 (v : ByteArray) : List ByteArray → Nat → Option Int
  | [], k1 =>
    some (-1)
  | y2 :: ys3, k1 =>
    cond (decide (v = y2))
      (some (k1 : Int))
      (slices_Index_string_l1 v ys3 (k1 + 1))
def slices_Index_string_p (sA : List ByteArray) (v : ByteArray) : Option Int :=
  slices_Index_string_l1 v sA 0
theorem slices_Index_string_ok (sA : List ByteArray) (v : ByteArray) (r : Int) (hH : slices_Index_string_p sA v = some r) : SpecR Tryd.prog 39 [.s (List.map encStr sA), .v (.string v)] (.v (.int .i64 r)) := by
 refine fn_ok T Tryd.func39 rfl (by decide) rfl ?_
 refine AW.seq (AW.region ?_)
 refine AO.pu T ?_
 refine AO.nil ?_
 iterate 2 refine AW.seq ?_
 refine AW.region ?_
 refine AO.pu T ?_
 refine AO.val rfl rfl (len_map_ok T rfl rfl rfl) ?_
 refine AO.pu T ?_
 refine AO.nil ?_
 refine AW.block ?_
 refine AW.loopS (fun s : Nat => (⟨[(0, .s (List.map encStr sA)), (1, .v (.string v)), (7, (sA.length : Int)), (8, (s : Int))], [], 19, []⟩ : St)) (fun s => s ≤ sA.length ∧ slices_Index_string_l1 v (sA.drop s) s = some r) (fun s => sA.length - s) 0 ⟨Nat.zero_le _, hH⟩ ?_ ?_
 exact Le.ct 0 0
 rintro k1 ⟨hk, hH⟩
 replace hH : slices_Index_string_l1 v (sA.drop k1) k1 = some r := hH
 try dsimp only
 refine AW.boundM (t := 0) (l := sA) rfl (fun hb5 => ?_)
 rcases hd4 : sA.drop k1 with _ | ⟨y2, ys3⟩
 rw [hd4, slices_Index_string_l1] at hH
 have hlt6 := drop_ge hd4
 refine AW.seq (AW.region ?_)
 refine AO.pu T ?_
 refine AO.nil (AW.seq ?_)
 refine AW.condF' (b := decide ((k1 : Int) < (sA.length : Int))) rfl (rngF hlt6) ?_
 refine AW.exit ?_
 refine AW.seq (AW.region ?_)
 refine AO.pu T ?_
 refine AO.nil (AW.ret ?_)
 have hR := someE hH; subst hR
 exact retQ.i [] rfl (.c (.c .v))
 rw [hd4, slices_Index_string_l1] at hH
 have hlt6 := drop_lt hd4
 refine AW.seq (AW.region ?_)
 refine AO.pu T ?_
 refine AO.nil (AW.seq ?_)
 refine AW.condT' (b := decide ((k1 : Int) < (sA.length : Int))) rfl (rngT hlt6) ?_
 refine AW.skip ?_
 refine AW.seq ?_
 refine AW.block ?_
 refine AW.seq (AW.region ?_)
 iterate 2 refine AO.pu T ?_
 refine AO.nil (AW.seq ?_)
 refine AW.region ?_
 iterate 3 refine AO.pu T ?_
 refine AO.val rfl rfl (ix_map_ok T rfl rfl rfl rfl rfl (getI_drop hd4) rfl) ?_
 iterate 2 refine AO.pu T ?_
 refine AO.nil ?_
 refine AW.cond (b := decide (v = y2)) rfl (fun hc => ?_) (fun hc => ?_)
 replace hH := condT hc hH
 refine AW.seq (AW.region ?_)
 iterate 2 refine AO.pu T ?_
 refine AO.nil (AW.ret ?_)
 have hR := someE hH; subst hR
 exact retQ.i [] rfl (.c (.c .v))
 replace hH := condF hc hH
 refine AW.skip ?_
 refine AW.region ?_
 refine AO.val rfl rfl (ar_ok rfl rfl rfl rfl (inI_succ hlt6 hb5)) ?_
 refine AO.pu T ?_
 refine AO.nil ?_
 refine ⟨k1 + 1, ⟨Nat.succ_le_of_lt hlt6, (by rw [drop_succ_of hd4]; exact hH)⟩, (by have := hlt6; dsimp only; omega), ?_⟩
 exact Le.ct 0 0

def impl_copyInts_p (l : List Int) : Option (List Int) :=
  (need (fitsB 8 l.length)).bind fun u1 =>
  some l
theorem impl_copyInts_ok (l : List Int) (r : (List Int)) (hH : impl_copyInts_p l = some r) : SpecR Tryd.prog 94 [.s (List.map encInt l)] (.w 1 (r.map encInt)) := by
 refine fn_ok T Tryd.func94 rfl (by decide) rfl ?_
 refine AW.seq (AW.region ?_)
 refine AO.pu T ?_
 refine AO.nil (AW.seq ?_)
 obtain ⟨u1, hx2, hH⟩ := bindE hH
 refine AW.region ?_
 refine AO.step rfl (mk0_ok T rfl rfl rfl rfl) ?_
 refine AO.pu T ?_
 refine AO.step rfl (app_ws_map T rfl 1 rfl rfl rfl rfl rfl (by decide) (by decide) rfl rfl (fun _ => rfl) (needT (hx2)) rfl rfl) ?_
 refine AO.pu T ?_
 refine AO.nil (AW.ret ?_)
 have hR := someE hH; subst hR
 exact retQ.i [1] rfl (.c (.c (.rowR rfl)))

def impl_copyItem_p (it : Item) : Option Item :=
  (need (fitsB 16 it.names.length)).bind fun u1 =>
  (impl_copyInts_p it.marks).bind fun x3 =>
  some (Item.mk it.names x3 it.late)
theorem impl_copyItem_ok (it : Item) (r : Item) (hH : impl_copyItem_p it = some r) : SpecR Tryd.prog 79 [.g (encItem it)] (.g (encItemO r)) := by
 refine fn_ok T Tryd.func79 rfl (by decide) rfl ?_
 refine AW.seq (AW.region ?_)
 refine AO.step rfl (box_ok T rfl 1 rfl rfl rfl rfl) ?_
 refine AO.step rfl (alloc_ok T rfl 2 rfl rfl rfl rfl rfl) ?_
 refine AO.nil (AW.seq ?_)
 obtain ⟨u1, hx2, hH⟩ := bindE hH
 obtain ⟨x3, hx4, hH⟩ := bindE hH
 refine AW.drawn 9 3 [] mix (by kernel_rfl) rfl ?_
 refine AD.v (FStep.mk0 T rfl rfl rfl rfl rfl) ?_
 iterate 2 refine AD.pure T rfl rfl rfl ?_
 refine AD.q (FStep.app_ws T rfl rfl rfl rfl rfl rfl rfl (by decide) (by decide) rfl rfl (fun _ => rfl) (needT (hx2)) rfl) (by simp [namesIn]) (Nat.le_succ _) rfl ?_
 iterate 2 refine AD.pure T rfl rfl rfl ?_
 refine AD.q (FStep.call rfl rfl rfl rfl rfl (impl_copyInts_ok _ _ (hx4)) rfl rfl) (impT_names _ _) (impT_le _ _) rfl ?_
 iterate 2 refine AD.pure T rfl rfl rfl ?_
 refine AD.nil ?_
 refine AO.pu T (d := .g [.R 3, .R 4, .v (.bool it.late)]) ?_
 refine AO.se T [.R 3, .R 4, .v (.bool it.late)] ?_
 refine AO.nil (AW.ret ?_)
 have hR := someE hH; subst hR
 exact retQ.i [3, 4] rfl (.c (.g (expLC_cons (.rowR rfl) (expLC_cons (.rowR rfl) (expLC_cons .v (expLC_nil))))))

def impl_copyItems_l1 : List Item → Nat → List Item → Option ((List Item))
  | [], k1, v16 =>
    some v16
  | y2 :: ys3, k1, v16 =>
    (impl_copyItem_p y2).bind fun x18 =>
    (need (fitsB 56 (v16.length + ([x18]).length))).bind fun u20 =>
    impl_copyItems_l1 ys3 (k1 + 1) (v16 ++ [x18])
def impl_copyItems_p (l : List Item) : Option (List Item) :=
  impl_copyItems_l1 l 0 []
theorem impl_copyItems_ok (l : List Item) (r : (List Item)) (hH : impl_copyItems_p l = some r) : SpecR Tryd.prog 61 [.s (List.map encItem l)] (.w 3 (r.map encItemO)) := by
 refine fn_ok T Tryd.func61 rfl (by decide) rfl ?_
 refine AW.seq (AW.region ?_)
 refine AO.pu T ?_
 refine AO.nil (AW.seq ?_)
 refine AW.region ?_
 refine AO.step rfl (mk0_ok T rfl rfl rfl rfl) ?_
 refine AO.pu T ?_
 refine AO.nil ?_
 iterate 2 refine AW.seq ?_
 refine AW.region ?_
 refine AO.pu T ?_
 refine AO.val rfl rfl (len_map_ok T rfl rfl rfl) ?_
 refine AO.pu T ?_
 refine AO.nil ?_
 refine AW.block ?_
 refine AW.loopS (fun s : Nat × (List Item) => (⟨[(3, .R 10), (7, .s (List.map encItem l)), (8, (l.length : Int)), (9, (s.1 : Int))], [(10, .row 3 (List.map encItemO s.2))], 20, []⟩ : St)) (fun s => s.1 ≤ l.length ∧ impl_copyItems_l1 (l.drop s.1) s.1 s.2 = some r) (fun s => l.length - s.1) (0, []) ⟨Nat.zero_le _, hH⟩ ?_ ?_
 refine Le.trans (Le.void 3 10 3 rfl rfl) ?_
 exact Le.ct 0 0
 rintro ⟨k1, v16⟩ ⟨hk, hH⟩
 replace hH : impl_copyItems_l1 (l.drop k1) k1 v16 = some r := hH
 try dsimp only
 refine AW.boundM (t := 7) (l := l) rfl (fun hb5 => ?_)
 rcases hd4 : l.drop k1 with _ | ⟨y2, ys3⟩
 rw [hd4, impl_copyItems_l1] at hH
 have hlt6 := drop_ge hd4
 refine AW.seq (AW.region ?_)
 refine AO.pu T ?_
 refine AO.nil (AW.seq ?_)
 refine AW.condF' (b := decide ((k1 : Int) < (l.length : Int))) rfl (rngF hlt6) ?_
 refine AW.exit ?_
 refine AW.seq (AW.region ?_)
 iterate 2 refine AO.pu T ?_
 refine AO.nil (AW.ret ?_)
 have hR := someE hH; subst hR
 exact retQ.i [10] rfl (.c (.c (.rowR rfl)))
 rw [hd4, impl_copyItems_l1] at hH
 have hlt6 := drop_lt hd4
 refine AW.seq (AW.region ?_)
 refine AO.pu T ?_
 refine AO.nil (AW.seq ?_)
 refine AW.condT' (b := decide ((k1 : Int) < (l.length : Int))) rfl (rngT hlt6) ?_
 refine AW.skip ?_
 refine AW.seq ?_
 refine AW.block ?_
 refine AW.seq (AW.region ?_)
 refine AO.val rfl rfl (ix_map_ok T rfl rfl rfl rfl rfl (getI_drop hd4) rfl) ?_
 refine AO.pu T (d := .g [.s (List.map encStr y2.names), .s (List.map encInt y2.marks), .v (.bool y2.late)]) ?_
 refine AO.step rfl (alloc_ok T rfl 11 rfl rfl rfl rfl rfl) ?_
 refine AO.se T [.s (List.map encStr y2.names), .s (List.map encInt y2.marks), .v (.bool y2.late)] ?_
 refine AO.nil ?_
 obtain ⟨x18, hx19, hH⟩ := bindE hH
 obtain ⟨u20, hx21, hH⟩ := bindE hH
 refine AW.region ?_
 refine AO.pu T ?_
 refine AO.pu T (d := .g [.s (List.map encStr y2.names), .s (List.map encInt y2.marks), .v (.bool y2.late)]) ?_
 refine AO.step rfl (call_ok rfl 12 rfl rfl rfl (impl_copyItem_ok _ _ (hx19)) rfl rfl rfl) ?_
 refine AO.step rfl (mk_o_ok T rfl 14 rfl rfl rfl rfl rfl rfl (f := encItemO) (l := [x18]) (ids := [12, 13]) rfl rfl (fun _ => rfl) (by exact expLC_cons (.rowR rfl) (expLC_cons (.rowR rfl) (expLC_cons .v (expLC_nil)))) (by decide) rfl rfl rfl rfl rfl) ?_
 refine AO.step rfl (app_rr_map T rfl 15 rfl rfl rfl rfl rfl (by decide) rfl rfl rfl rfl rfl (needT (hx21)) rfl rfl) ?_
 refine AO.pu T ?_
 refine AO.nil ?_
 refine AW.region ?_
 refine AO.val rfl rfl (ar_ok rfl rfl rfl rfl (inI_succ hlt6 hb5)) ?_
 refine AO.pu T ?_
 refine AO.nil ?_
 refine ⟨(k1 + 1, (v16 ++ [x18])), ⟨Nat.succ_le_of_lt hlt6, (by rw [drop_succ_of hd4]; exact hH)⟩, (by have := hlt6; dsimp only; omega), ?_⟩
 exact Le.ct 15 10

def impl_isTick_p (tick : Int) : Option Bool :=
  (impl_within_p tick 0 100000).bind fun x1 =>
  some x1
theorem impl_isTick_ok (tick : Int) (r : Bool) (hH : impl_isTick_p tick = some r) : SpecR Tryd.prog 80 [tick] (.v (.bool r)) := by
 refine fn_ok T Tryd.func80 rfl (by decide) rfl ?_
 refine AW.seq (AW.region ?_)
 refine AO.pu T ?_
 refine AO.nil (AW.seq ?_)
 obtain ⟨x1, hx2, hH⟩ := bindE hH
 refine AW.region ?_
 refine AO.pu T ?_
 refine AO.val rfl rfl (callV_ok rfl rfl rfl rfl (impl_within_ok _ _ _ _ (hx2)) rfl) ?_
 refine AO.pu T ?_
 refine AO.nil (AW.ret ?_)
 have hR := someE hH; subst hR
 exact retQ.i [] rfl (.c (.c .v))

def impl_hasNameAt_p (l : List Item) (item : Int) (name : Int) : Option Bool :=
  (impl_within_p item 0 (w64 ((l.length : Int) - 1))).bind fun x1 =>
  (opt x1 default (getI l item)).bind fun x3 =>
  (opt x1 default (impl_within_p name 0 (w64 ((x3.names.length : Int) - 1)))).bind fun x5 =>
  some (x1 && x5)
theorem impl_hasNameAt_ok (l : List Item) (item : Int) (name : Int) (r : Bool) (hH : impl_hasNameAt_p l item name = some r) : SpecR Tryd.prog 81 [.s (List.map encItem l), item, name] (.v (.bool r)) := by
 refine fn_ok T Tryd.func81 rfl (by decide) rfl ?_
 refine AW.seq (AW.region ?_)
 refine AO.pu T ?_
 refine AO.nil (AW.seq ?_)
 obtain ⟨x1, hx2, hH⟩ := bindE hH
 obtain ⟨x3, hx4, hH⟩ := bindE hH
 obtain ⟨x5, hx6, hH⟩ := bindE hH
 refine AW.region ?_
 iterate 2 refine AO.pu T ?_
 refine AO.val rfl rfl (len_map_ok T rfl rfl rfl) ?_
 refine AO.val rfl rfl (arw_ok rfl rfl rfl rfl) ?_
 refine AO.val rfl rfl (callV_ok rfl rfl rfl rfl (impl_within_ok _ _ _ _ (hx2)) rfl) ?_
 refine AO.pu T ?_
 iterate 3 refine AO.pureG T [] rfl trivial rfl rfl ?_
 refine AO.guard [14, 15] rfl ⟨fun h => h, fun h => h, trivial⟩ (fun hg => ix_map_ok T rfl rfl rfl rfl rfl (optT hx4 hg) rfl) rfl ?_
 refine AO.pureG T [16] rfl ⟨fun h => h, trivial⟩ rfl rfl ?_
 refine AO.pureG T [17] rfl ⟨fun h => h, trivial⟩ rfl rfl ?_
 refine AO.guard [18] rfl ⟨fun h => h, trivial⟩ (fun hg => len_map_ok T rfl rfl rfl) rfl ?_
 refine AO.guard [19] rfl ⟨fun h => h, trivial⟩ (fun hg => arw_ok rfl rfl rfl rfl) rfl ?_
 refine AO.guard [13, 20] rfl ⟨fun h => h, fun h => h, trivial⟩ (fun hg => callV_ok rfl rfl rfl rfl (impl_within_ok _ _ _ _ (optT hx6 hg)) rfl) rfl ?_
 refine AO.val rfl rfl (pick_and rfl rfl rfl rfl) ?_
 refine AO.pu T ?_
 refine AO.nil (AW.ret ?_)
 have hR := someE hH; subst hR
 exact retQ.i [] rfl (.c (.c .v))

def impl_isMark_p (mark : Int) : Option Bool :=
  (impl_within_p mark 0 3).bind fun x1 =>
  some x1
theorem impl_isMark_ok (mark : Int) (r : Bool) (hH : impl_isMark_p mark = some r) : SpecR Tryd.prog 82 [mark] (.v (.bool r)) := by
 refine fn_ok T Tryd.func82 rfl (by decide) rfl ?_
 refine AW.seq (AW.region ?_)
 refine AO.pu T ?_
 refine AO.nil (AW.seq ?_)
 obtain ⟨x1, hx2, hH⟩ := bindE hH
 refine AW.region ?_
 refine AO.pu T ?_
 refine AO.val rfl rfl (callV_ok rfl rfl rfl rfl (impl_within_ok _ _ _ _ (hx2)) rfl) ?_
 refine AO.pu T ?_
 refine AO.nil (AW.ret ?_)
 have hR := someE hH; subst hR
 exact retQ.i [] rfl (.c (.c .v))

def impl_historyState_apply_p (sA : HistoryState) (x : Change) : Option (HistoryState × Bool) :=
  (impl_isTick_p x.tick).bind fun x1 =>
  (opt (!(!x1)) default (impl_within_p x.caller 1 9)).bind fun x3 =>
  (opt (!((!x1) || (!x3))) default (impl_hasNameAt_p sA.items x.item x.name)).bind fun x5 =>
  (opt (!(((!x1) || (!x3)) || (!x5))) default (impl_isMark_p x.mark)).bind fun x7 =>
  cond ((((!x1) || (!x3)) || (!x5)) || (!x7))
    (some (sA, false))
    (cond x.review
      ((getI sA.items x.item).bind fun x9 =>
      (need (mapOk sA.open' (x.item, x.name))).bind fun u11 =>
      (opt (!(mget sA.open' (x.item, x.name))) default (getI x9.marks x.name)).bind fun x13 =>
      some ((HistoryState.mk (sA.items.set x.item.toNat x9) (mput sA.open' (x.item, x.name) true)), ((!(mget sA.open' (x.item, x.name))) && (x13 == x.mark))))
      ((getI sA.items x.item).bind fun x15 =>
      (getI x15.marks x.name).bind fun x17 =>
      (need (mapOk sA.open' (x.item, x.name))).bind fun u19 =>
      some ((HistoryState.mk (sA.items.set x.item.toNat (Item.mk x15.names (x15.marks.set x.name.toNat x.mark) x15.late)) (mdel sA.open' (x.item, x.name))), true)))
theorem impl_historyState_apply_ok (sA : HistoryState) (x : Change) (r : (HistoryState × Bool)) (hH : impl_historyState_apply_p sA x = some r) : SpecM Tryd.prog 62 [.pn (encHistoryStateO sA), .g (encChange x)] [.pn (encHistoryStateO r.1), .u] (.v (.bool r.2)) := by
 refine fn_okM T Tryd.func62 rfl (by decide) rfl rfl ?_
 intro L
 show AW _ _ _ (⟨[(0, .p 1 0), (1, .g [x.tick, x.caller, x.item, x.name, x.mark, .v (.bool x.review)])], [(1, .box [.R 2, .m 3]), (3, .map (encMe sA.open')), (2, .row 3 (List.map encItemO sA.items))], 92, [(1, L 1), (3, L 3), (2, L 2)]⟩ : St)
 refine AW.seq (AW.region ?_)
 refine AO.step rfl (box_ok T rfl 4 rfl rfl rfl rfl) ?_
 refine AO.pu T ?_
 refine AO.nil ?_
 iterate 2 refine AW.seq ?_
 obtain ⟨x1, hx2, hH⟩ := bindE hH
 obtain ⟨x3, hx4, hH⟩ := bindE hH
 obtain ⟨x5, hx6, hH⟩ := bindE hH
 obtain ⟨x7, hx8, hH⟩ := bindE hH
 refine AW.drawn 19 5 [] mix (by kernel_rfl) rfl ?_
 iterate 2 refine AD.pure T rfl rfl rfl ?_
 refine AD.val rfl rfl (callV_ok rfl rfl rfl rfl (impl_isTick_ok _ _ (hx2)) rfl) ?_
 iterate 2 refine AD.pure T rfl rfl rfl ?_
 refine AD.pureG T [] rfl trivial rfl rfl ?_
 refine AD.pureG T [12] rfl ⟨fun h => h, trivial⟩ rfl rfl ?_
 refine AD.guard [13] rfl ⟨fun h => h, trivial⟩ (fun hg => callV_ok rfl rfl rfl rfl (impl_within_ok _ _ _ _ (optT hx4 hg)) rfl) rfl ?_
 refine AD.pureG T [14] rfl ⟨fun h => h, trivial⟩ rfl rfl ?_
 refine AD.val rfl rfl (pick_or rfl rfl rfl rfl) ?_
 refine AD.pure T rfl rfl rfl ?_
 refine AD.pureG T [] rfl trivial rfl rfl ?_
 refine AD.pureG T [18] rfl ⟨fun h => h, trivial⟩ rfl rfl ?_
 refine AD.pureG T [19] rfl ⟨fun h => h, trivial⟩ rfl rfl ?_
 refine AD.pureG T [20] rfl ⟨fun h => h, trivial⟩ rfl rfl ?_
 refine AD.pureG T [] rfl trivial rfl rfl ?_
 refine AD.pureG T [22] rfl ⟨fun h => h, trivial⟩ rfl rfl ?_
 refine AD.pureG T [] rfl trivial rfl rfl ?_
 refine AD.pureG T [24] rfl ⟨fun h => h, trivial⟩ rfl rfl ?_
 refine AD.nil ?_
 refine AO.guard [21, 23, 25] rfl ⟨fun h => h, fun h => h, fun h => h, trivial⟩ (fun hg => callLV_ok rfl rfl rfl (es := [.s (List.map encItem sA.items), x.item, x.name]) ⟨(.rowR rfl (.map fun y => frzItem y)), .free rfl, .free rfl, trivial⟩ (impl_hasNameAt_ok _ _ _ _ (optT hx6 hg)) (zfree_v _) rfl) rfl ?_
 refine AO.pureG T [26] rfl ⟨fun h => h, trivial⟩ rfl rfl ?_
 refine AO.val rfl rfl (pick_or rfl rfl rfl rfl) ?_
 refine AO.pu T ?_
 refine AO.pureG T [] rfl trivial rfl rfl ?_
 refine AO.pureG T [30] rfl ⟨fun h => h, trivial⟩ rfl rfl ?_
 refine AO.guard [31] rfl ⟨fun h => h, trivial⟩ (fun hg => callV_ok rfl rfl rfl rfl (impl_isMark_ok _ _ (optT hx8 hg)) rfl) rfl ?_
 refine AO.pureG T [32] rfl ⟨fun h => h, trivial⟩ rfl rfl ?_
 refine AO.val rfl rfl (pick_or rfl rfl rfl rfl) ?_
 refine AO.nil ?_
 refine AW.le (Le.ct 0 0 (σ' := (⟨[(0, .p 1 0), (3, .p 4 0), (34, .v (.bool ((((!x1) || (!x3)) || (!x5)) || (!x7))))], [(1, .box [.R 2, .m 3]), (2, .row 3 (List.map encItemO sA.items)), (3, .map (encMe sA.open')), (4, .box [x.tick, x.caller, x.item, x.name, x.mark, .v (.bool x.review)])], 92, [(1, L 1), (3, L 3), (2, L 2)]⟩ : St)) (hpin := ⟨⟨rfl, rfl⟩, ⟨rfl, rfl⟩, ⟨rfl, rfl⟩, trivial⟩)) ?_
 refine AW.cond (b := ((((!x1) || (!x3)) || (!x5)) || (!x7))) rfl (fun hc => ?_) (fun hc => ?_)
 replace hH := condT hc hH
 refine AW.seq (AW.region ?_)
 refine AO.pu T ?_
 refine AO.nil (AW.ret ?_)
 have hR := someE hH; subst hR
 exact ⟨trivial, rfl, _, [], [1, 2, 3], rfl, expLG_cons (.pb rfl (expLC_cons (.rowR rfl) (expLC_cons (.mapR rfl) (expLC_nil)))) (expLG_cons (.c .u) (expLG_nil)), .c (.c .v), by decide⟩
 replace hH := condF hc hH
 refine AW.skip ?_
 refine AW.seq (AW.region ?_)
 iterate 4 refine AO.pu T ?_
 refine AO.pu T (d := .g [x.item, x.name]) ?_
 refine AO.step rfl (alloc_ok T rfl 5 rfl rfl rfl rfl rfl) ?_
 refine AO.se T [x.item, x.name] ?_
 refine AO.nil ?_
 iterate 2 refine AW.seq ?_
 refine AW.region ?_
 iterate 2 refine AO.pu T ?_
 refine AO.nil ?_
 refine AW.cond (b := x.review) rfl (fun hc => ?_) (fun hc => ?_)
 replace hH := condT hc hH
 refine AW.seq ?_
 obtain ⟨x9, hx10, hH⟩ := bindE hH
 obtain ⟨u11, hx12, hH⟩ := bindE hH
 obtain ⟨x13, hx14, hH⟩ := bindE hH
 refine AW.le (Le.openM 2 x.item.toNat 1 6 rfl (getI_get (hx10)) rfl rfl) ?_
 refine AW.drawn 23 7 [] mix (by kernel_rfl) rfl ?_
 iterate 4 refine AD.pure T rfl rfl rfl ?_
 refine AD.pure T (d := .g [x.item, x.name]) rfl rfl rfl ?_
 refine AD.val rfl rfl (lookup_ok T (k := (x.item, x.name)) mapT0 rfl rfl rfl rfl rfl rfl (needT (hx12))) ?_
 iterate 2 refine AD.pure T rfl rfl rfl ?_
 refine AD.pureG T [] rfl trivial rfl rfl ?_
 refine AD.pureG T [50] rfl ⟨fun h => h, trivial⟩ rfl rfl ?_
 refine AD.pureG T [51] rfl ⟨fun h => h, trivial⟩ rfl rfl ?_
 refine AD.pureG T [52] rfl ⟨fun h => h, trivial⟩ rfl rfl ?_
 refine AD.pureG T [] rfl trivial rfl rfl ?_
 refine AD.pureG T [54] rfl ⟨fun h => h, trivial⟩ rfl rfl ?_
 refine AD.guard [53, 55] rfl ⟨fun h => h, fun h => h, trivial⟩ (fun hg => ix_lent_ok T rfl rfl rfl rfl rfl rfl (hx10)) rfl ?_
 refine AD.pureG T [56] rfl ⟨fun h => h, trivial⟩ rfl rfl ?_
 refine AD.guard [57] rfl ⟨fun h => h, trivial⟩ (fun hg => load_lent_ok T rfl rfl rfl rfl rfl) rfl ?_
 refine AD.pureG T [] rfl trivial rfl rfl ?_
 refine AD.pureG T [59] rfl ⟨fun h => h, trivial⟩ rfl rfl ?_
 refine AD.guard [58, 60] rfl ⟨fun h => h, fun h => h, trivial⟩ (fun hg => ix_row_ok T rfl rfl rfl rfl rfl rfl (optT hx14 hg)) rfl ?_
 refine AD.guard [61] rfl ⟨fun h => h, trivial⟩ (fun hg => load_row_ok T rfl rfl rfl rfl (getI_get (optT hx14 hg)) rfl rfl rfl) rfl ?_
 refine AD.pureG T [] rfl trivial rfl rfl ?_
 refine AD.pureG T [63] rfl ⟨fun h => h, trivial⟩ rfl rfl ?_
 refine AD.nil ?_
 refine AO.pureG T [62, 64] rfl ⟨fun h => h, fun h => h, trivial⟩ rfl rfl ?_
 refine AO.val rfl rfl (pick_and rfl rfl rfl rfl) ?_
 refine AO.pu T ?_
 refine AO.le (Le.closeM 2 x.item.toNat 1 6 rfl rfl (getI_get (hx10)) rfl (u' := x9) rfl) ?_
 refine AO.nil ?_
 refine AW.le (Le.ct 0 0 (σ' := (⟨[(0, .p 1 0), (5, .p 5 0), (6, .v (.bool ((!(mget sA.open' (x.item, x.name))) && (x13 == x.mark))))], [(1, .box [.R 2, .m 3]), (2, .row 3 (List.map encItemO (sA.items.set x.item.toNat x9))), (3, .map (encMe sA.open')), (5, .box [x.item, x.name])], 92, [(1, L 1), (3, L 3), (2, L 2)]⟩ : St)) (hpin := ⟨⟨rfl, rfl⟩, ⟨rfl, rfl⟩, ⟨rfl, rfl⟩, trivial⟩)) ?_
 refine AW.seq ?_
 refine AW.drawn 5 7 [] mix (by kernel_rfl) rfl ?_
 iterate 4 refine AD.pure T rfl rfl rfl ?_
 refine AD.pure T (d := .g [x.item, x.name]) rfl rfl rfl ?_
 refine AD.nil ?_
 refine AO.step rfl (mupdate_ok (k := (x.item, x.name)) mapT0 rfl rfl rfl rfl rfl (needT (hx12)) rfl) ?_
 refine AO.nil (AW.seq ?_)
 refine AW.region ?_
 iterate 2 refine AO.pu T ?_
 refine AO.nil (AW.ret ?_)
 have hR := someE hH; subst hR
 exact ⟨trivial, rfl, _, [], [1, 2, 3], rfl, expLG_cons (.pb rfl (expLC_cons (.rowR rfl) (expLC_cons (.mapR rfl) (expLC_nil)))) (expLG_cons (.c .u) (expLG_nil)), .c (.c .v), by decide⟩
 replace hH := condF hc hH
 refine AW.skip ?_
 refine AW.seq ?_
 obtain ⟨x15, hx16, hH⟩ := bindE hH
 obtain ⟨x17, hx18, hH⟩ := bindE hH
 refine AW.le (Le.openM 2 x.item.toNat 1 7 rfl (getI_get (hx16)) rfl rfl) ?_
 refine AW.drawn 13 8 [] mix (by kernel_rfl) rfl ?_
 iterate 6 refine AD.pure T rfl rfl rfl ?_
 refine AD.val rfl rfl (ix_lent_ok T rfl rfl rfl rfl rfl rfl (hx16)) ?_
 refine AD.pure T rfl rfl rfl ?_
 refine AD.val rfl rfl (load_lent_ok T rfl rfl rfl rfl rfl) ?_
 iterate 4 refine AD.pure T rfl rfl rfl ?_
 refine AD.nil ?_
 refine AO.val rfl rfl (ix_row_ok T rfl rfl rfl rfl rfl rfl (hx18)) ?_
 refine AO.step rfl (store_row_ok T rfl rfl rfl rfl rfl (getI_get (hx18)) rfl rfl rfl rfl (u' := x.mark) rfl rfl) ?_
 refine AO.le (Le.closeM 2 x.item.toNat 1 7 rfl rfl (getI_get (hx16)) rfl (u' := (Item.mk x15.names (x15.marks.set x.name.toNat x.mark) x15.late)) rfl) ?_
 refine AO.nil ?_
 refine AW.le (Le.ct 0 0 (σ' := (⟨[(0, .p 1 0), (5, .p 5 0)], [(1, .box [.R 2, .m 3]), (2, .row 3 (List.map encItemO (sA.items.set x.item.toNat (Item.mk x15.names (x15.marks.set x.name.toNat x.mark) x15.late)))), (3, .map (encMe sA.open')), (5, .box [x.item, x.name])], 92, [(1, L 1), (3, L 3), (2, L 2)]⟩ : St)) (hpin := ⟨⟨rfl, rfl⟩, ⟨rfl, rfl⟩, ⟨rfl, rfl⟩, trivial⟩)) ?_
 refine AW.seq ?_
 obtain ⟨u19, hx20, hH⟩ := bindE hH
 refine AW.drawn 5 8 [] mix (by kernel_rfl) rfl ?_
 iterate 4 refine AD.pure T rfl rfl rfl ?_
 refine AD.pure T (d := .g [x.item, x.name]) rfl rfl rfl ?_
 refine AD.nil ?_
 refine AO.step rfl (mdelete_ok (k := (x.item, x.name)) mapT0 rfl rfl rfl rfl (needT (hx20)) rfl) ?_
 refine AO.nil (AW.seq ?_)
 refine AW.region ?_
 refine AO.pu T ?_
 refine AO.nil (AW.ret ?_)
 have hR := someE hH; subst hR
 exact ⟨trivial, rfl, _, [], [1, 2, 3], rfl, expLG_cons (.pb rfl (expLC_cons (.rowR rfl) (expLC_cons (.mapR rfl) (expLC_nil)))) (expLG_cons (.c .u) (expLG_nil)), .c (.c .v), by decide⟩

def impl_stateOf_l1 (h : List Change) (tick : Int) : List Change → Nat → List Item → MapL → List Item → MapL → Option (((Option HistoryState) × Bool))
  | [], k3, v25, v26, v27, v28 =>
    some ((some (HistoryState.mk v25 v26)), decide ((h.length : Int) ≤ 60))
  | y4 :: ys5, k3, v25, v26, v27, v28 =>
    (impl_historyState_apply_p (HistoryState.mk v27 v28) y4).bind fun x30 =>
    (opt ((!(!x30.2)) && decide ((k3 : Int) > 0)) default (getI h (w64 ((k3 : Int) - 1)))).bind fun x32 =>
    cond ((!x30.2) || (decide ((k3 : Int) > 0) && decide (x32.tick > y4.tick)))
      (some (none, false))
      (cond (decide (y4.tick ≤ tick))
        ((impl_historyState_apply_p (HistoryState.mk v25 v26) y4).bind fun x34 =>
        impl_stateOf_l1 h tick ys5 (k3 + 1) x34.1.items x34.1.open' x30.1.items x30.1.open')
        (impl_stateOf_l1 h tick ys5 (k3 + 1) v25 v26 x30.1.items x30.1.open'))
def impl_stateOf_p (l : List Item) (h : List Change) (tick : Int) : Option ((Option HistoryState) × Bool) :=
  (impl_copyItems_p l).bind fun x1 =>
  impl_stateOf_l1 h tick h 0 x1 [] x1 []
theorem impl_stateOf_ok (l : List Item) (h : List Change) (tick : Int) (r : ((Option HistoryState) × Bool)) (hH : impl_stateOf_p l h tick = some r) : SpecR Tryd.prog 47 [.s (List.map encItem l), .s (List.map encChange h), tick] (.t [pnO encHistoryStateO r.1, .v (.bool r.2)]) := by
 refine fn_ok T Tryd.func47 rfl (by decide) rfl ?_
 refine AW.seq (AW.region ?_)
 iterate 2 refine AO.pu T ?_
 refine AO.nil (AW.seq ?_)
 obtain ⟨x1, hx2, hH⟩ := bindE hH
 refine AW.region ?_
 refine AO.pu T ?_
 refine AO.step rfl (call_ok rfl 1 rfl rfl rfl (impl_copyItems_ok _ _ (hx2)) rfl rfl rfl) ?_
 refine AO.step rfl (makeMap_ok rfl 2 rfl rfl) ?_
 refine AO.pu T (d := .g [.R 1, .m 2]) ?_
 refine AO.step rfl (box_ok T rfl 3 rfl rfl rfl rfl) ?_
 refine AO.pu T ?_
 refine AO.step rfl (call_ok rfl 4 rfl rfl rfl (impl_copyItems_ok _ _ (hx2)) rfl rfl rfl) ?_
 refine AO.step rfl (makeMap_ok rfl 5 rfl rfl) ?_
 refine AO.pu T (d := .g [.R 4, .m 5]) ?_
 refine AO.step rfl (box_ok T rfl 6 rfl rfl rfl rfl) ?_
 iterate 2 refine AO.pu T ?_
 refine AO.nil ?_
 iterate 2 refine AW.seq ?_
 refine AW.region ?_
 refine AO.pu T ?_
 refine AO.val rfl rfl (len_map_ok T rfl rfl rfl) ?_
 refine AO.pu T ?_
 refine AO.nil ?_
 refine AW.block ?_
 refine AW.loopS (fun s : Nat × (List Item) × MapL × (List Item) × MapL => (⟨[(1, .s (List.map encChange h)), (2, tick), (8, .p 3 0), (9, .p 6 0), (22, .s (List.map encChange h)), (23, (h.length : Int)), (24, (s.1 : Int))], [(1, .row 3 (List.map encItemO s.2.1)), (2, .map (encMe s.2.2.1)), (3, .box [.R 1, .m 2]), (4, .row 3 (List.map encItemO s.2.2.2.1)), (5, .map (encMe s.2.2.2.2)), (6, .box [.R 4, .m 5])], 60, []⟩ : St)) (fun s => s.1 ≤ h.length ∧ impl_stateOf_l1 h tick (h.drop s.1) s.1 s.2.1 s.2.2.1 s.2.2.2.1 s.2.2.2.2 = some r) (fun s => h.length - s.1) (0, x1, [], x1, []) ⟨Nat.zero_le _, hH⟩ ?_ ?_
 exact Le.ct 0 0
 rintro ⟨k3, v25, v26, v27, v28⟩ ⟨hk, hH⟩
 replace hH : impl_stateOf_l1 h tick (h.drop k3) k3 v25 v26 v27 v28 = some r := hH
 try dsimp only
 refine AW.boundM (t := 1) (l := h) rfl (fun hb7 => ?_)
 rcases hd6 : h.drop k3 with _ | ⟨y4, ys5⟩
 rw [hd6, impl_stateOf_l1] at hH
 have hlt8 := drop_ge hd6
 refine AW.seq (AW.region ?_)
 refine AO.pu T ?_
 refine AO.nil (AW.seq ?_)
 refine AW.condF' (b := decide ((k3 : Int) < (h.length : Int))) rfl (rngF hlt8) ?_
 refine AW.exit ?_
 refine AW.seq (AW.region ?_)
 iterate 2 refine AO.pu T ?_
 refine AO.val rfl rfl (len_map_ok T rfl rfl rfl) ?_
 iterate 3 refine AO.pu T ?_
 refine AO.nil (AW.ret ?_)
 have hR := someE hH; subst hR
 exact retQ.i [3, 1, 2] rfl (.t (expLG_cons (.pb rfl (expLC_cons (.rowR rfl) (expLC_cons (.mapR rfl) (expLC_nil)))) (expLG_cons (.c .v) (expLG_nil))))
 rw [hd6, impl_stateOf_l1] at hH
 have hlt8 := drop_lt hd6
 refine AW.seq (AW.region ?_)
 refine AO.pu T ?_
 refine AO.nil (AW.seq ?_)
 refine AW.condT' (b := decide ((k3 : Int) < (h.length : Int))) rfl (rngT hlt8) ?_
 refine AW.skip ?_
 refine AW.seq ?_
 refine AW.block ?_
 refine AW.seq (AW.region ?_)
 refine AO.pu T ?_
 refine AO.val rfl rfl (ix_map_ok T rfl rfl rfl rfl rfl (getI_drop hd6) rfl) ?_
 refine AO.pu T (d := .g [y4.tick, y4.caller, y4.item, y4.name, y4.mark, .v (.bool y4.review)]) ?_
 refine AO.step rfl (alloc_ok T rfl 17 rfl rfl rfl rfl rfl) ?_
 refine AO.pu T ?_
 refine AO.se T [y4.tick, y4.caller, y4.item, y4.name, y4.mark, .v (.bool y4.review)] ?_
 refine AO.nil ?_
 iterate 2 refine AW.seq ?_
 obtain ⟨x30, hx31, hH⟩ := bindE hH
 obtain ⟨x32, hx33, hH⟩ := bindE hH
 refine AW.drawn 16 18 [6, 4, 5] mix (by kernel_rfl) rfl ?_
 refine AD.pure T rfl rfl rfl ?_
 refine AD.pure T (d := .g [y4.tick, y4.caller, y4.item, y4.name, y4.mark, .v (.bool y4.review)]) rfl rfl rfl ?_
 refine AD.k rfl rfl (FStep.callP rfl rfl rfl rfl rfl (es := [.pn (encHistoryStateO (HistoryState.mk v27 v28)), .g (encChange y4)]) (us := [.u]) (cs := encHistoryStateO x30.1) (ids := [6, 4, 5]) (by exact expLG_cons (.pb rfl (expLC_cons (.rowR rfl) (expLC_cons (.mapR rfl) (expLC_nil)))) (expLG_cons (.g (expLC_cons .v (expLC_cons .v (expLC_cons .v (expLC_cons .v (expLC_cons .v (expLC_cons .v (expLC_nil)))))))) (expLG_nil))) (by decide) (by decide) (impl_historyState_apply_ok _ _ _ (hx31)) rfl rfl (by rfl) rfl) rfl rfl rfl ?_
 iterate 2 refine AD.pure T rfl rfl rfl ?_
 refine AD.pureG T [] rfl trivial rfl rfl ?_
 refine AD.pureG T [34] rfl ⟨fun h => h, trivial⟩ rfl rfl ?_
 refine AD.pureG T [35] rfl ⟨fun h => h, trivial⟩ rfl rfl ?_
 iterate 2 refine AD.pureG T [] rfl trivial rfl rfl ?_
 refine AD.guard [38] rfl ⟨fun h => h, trivial⟩ (fun hg => arw_ok rfl rfl rfl rfl) rfl ?_
 refine AD.guard [37, 39] rfl ⟨fun h => h, fun h => h, trivial⟩ (fun hg => ix_map_ok T rfl rfl rfl rfl rfl (optT hx33 hg) rfl) rfl ?_
 refine AD.pureG T [40] rfl ⟨fun h => h, trivial⟩ rfl rfl ?_
 refine AD.pureG T [41] rfl ⟨fun h => h, trivial⟩ rfl rfl ?_
 refine AD.pureG T [] rfl trivial rfl rfl ?_
 refine AD.pureG T [43] rfl ⟨fun h => h, trivial⟩ rfl rfl ?_
 refine AD.nil ?_
 refine AO.pureG T [42, 44] rfl ⟨fun h => h, fun h => h, trivial⟩ rfl rfl ?_
 refine AO.guard [36] rfl ⟨fun h => h, trivial⟩ (fun hg => pick_and rfl rfl rfl (by rw [hg]; exact Bool.true_and _)) rfl ?_
 refine AO.val rfl rfl (pick_or rfl rfl rfl rfl) ?_
 refine AO.nil ?_
 refine AW.le (Le.ct 0 0 (σ' := (⟨[(1, .s (List.map encChange h)), (2, tick), (8, .p 3 0), (9, .p 6 0), (11, .p 17 0), (22, .s (List.map encChange h)), (23, (h.length : Int)), (24, (k3 : Int)), (47, .v (.bool ((!x30.2) || (decide ((k3 : Int) > 0) && decide (x32.tick > y4.tick)))))], [(1, .row 3 (List.map encItemO v25)), (2, .map (encMe v26)), (3, .box [.R 1, .m 2]), (6, .box [.R 18, .m 19]), (17, .box [y4.tick, y4.caller, y4.item, y4.name, y4.mark, .v (.bool y4.review)]), (18, .row 3 (List.map encItemO x30.1.items)), (19, .map (encMe x30.1.open'))], 60, []⟩ : St))) ?_
 refine AW.cond (b := ((!x30.2) || (decide ((k3 : Int) > 0) && decide (x32.tick > y4.tick)))) rfl (fun hc => ?_) (fun hc => ?_)
 replace hH := condT hc hH
 refine AW.seq (AW.region ?_)
 iterate 2 refine AO.pu T ?_
 refine AO.nil (AW.ret ?_)
 have hR := someE hH; subst hR
 exact retQ.i [] rfl (.t (expLG_cons (.c .v) (expLG_cons (.c .v) (expLG_nil))))
 replace hH := condF hc hH
 refine AW.skip ?_
 refine AW.seq (AW.region ?_)
 iterate 4 refine AO.pu T ?_
 refine AO.nil ?_
 refine AW.cond (b := decide (y4.tick ≤ tick)) rfl (fun hc => ?_) (fun hc => ?_)
 replace hH := condT hc hH
 obtain ⟨x34, hx35, hH⟩ := bindE hH
 refine AW.region ?_
 refine AO.pu T ?_
 refine AO.pu T (d := .g [y4.tick, y4.caller, y4.item, y4.name, y4.mark, .v (.bool y4.review)]) ?_
 refine AO.step rfl (callP_ok rfl 20 rfl rfl rfl (es := [.pn (encHistoryStateO (HistoryState.mk v25 v26)), .g (encChange y4)]) (us := [.u]) (cs := encHistoryStateO x34.1) (ids := [3, 1, 2]) (by exact expLG_cons (.pb rfl (expLC_cons (.rowR rfl) (expLC_cons (.mapR rfl) (expLC_nil)))) (expLG_cons (.g (expLC_cons .v (expLC_cons .v (expLC_cons .v (expLC_cons .v (expLC_cons .v (expLC_cons .v (expLC_nil)))))))) (expLG_nil))) (by decide) (by decide) (impl_historyState_apply_ok _ _ _ (hx35)) rfl rfl (by rfl) rfl) ?_
 refine AO.nil ?_
 refine AW.region ?_
 refine AO.val rfl rfl (ar_ok rfl rfl rfl rfl (inI_succ hlt8 hb7)) ?_
 refine AO.pu T ?_
 refine AO.nil ?_
 refine ⟨(k3 + 1, x34.1.items, x34.1.open', x30.1.items, x30.1.open'), ⟨Nat.succ_le_of_lt hlt8, (by rw [drop_succ_of hd6]; exact hH)⟩, (by have := hlt8; dsimp only; omega), ?_⟩
 refine Le.trans (Le.ct 20 1 (σ' := (⟨[(1, .s (List.map encChange h)), (2, tick), (8, .p 3 0), (9, .p 6 0), (22, .s (List.map encChange h)), (23, (h.length : Int)), (24, ((k3 + 1 : Nat) : Int))], [(1, .row 3 (List.map encItemO x34.1.items)), (3, .box [.R 1, .m 21]), (6, .box [.R 18, .m 19]), (18, .row 3 (List.map encItemO x30.1.items)), (19, .map (encMe x30.1.open')), (21, .map (encMe x34.1.open'))], 60, []⟩ : St))) ?_
 refine Le.trans (Le.ct 21 2 (σ' := (⟨[(1, .s (List.map encChange h)), (2, tick), (8, .p 3 0), (9, .p 6 0), (22, .s (List.map encChange h)), (23, (h.length : Int)), (24, ((k3 + 1 : Nat) : Int))], [(1, .row 3 (List.map encItemO x34.1.items)), (2, .map (encMe x34.1.open')), (3, .box [.R 1, .m 2]), (6, .box [.R 18, .m 19]), (18, .row 3 (List.map encItemO x30.1.items)), (19, .map (encMe x30.1.open'))], 60, []⟩ : St))) ?_
 refine Le.trans (Le.ct 18 4 (σ' := (⟨[(1, .s (List.map encChange h)), (2, tick), (8, .p 3 0), (9, .p 6 0), (22, .s (List.map encChange h)), (23, (h.length : Int)), (24, ((k3 + 1 : Nat) : Int))], [(1, .row 3 (List.map encItemO x34.1.items)), (2, .map (encMe x34.1.open')), (3, .box [.R 1, .m 2]), (4, .row 3 (List.map encItemO x30.1.items)), (6, .box [.R 4, .m 19]), (19, .map (encMe x30.1.open'))], 60, []⟩ : St))) ?_
 exact Le.ct 19 5
 replace hH := condF hc hH
 refine AW.skip ?_
 refine AW.region ?_
 refine AO.val rfl rfl (ar_ok rfl rfl rfl rfl (inI_succ hlt8 hb7)) ?_
 refine AO.pu T ?_
 refine AO.nil ?_
 refine ⟨(k3 + 1, v25, v26, x30.1.items, x30.1.open'), ⟨Nat.succ_le_of_lt hlt8, (by rw [drop_succ_of hd6]; exact hH)⟩, (by have := hlt8; dsimp only; omega), ?_⟩
 refine Le.trans (Le.ct 18 4 (σ' := (⟨[(1, .s (List.map encChange h)), (2, tick), (8, .p 3 0), (9, .p 6 0), (22, .s (List.map encChange h)), (23, (h.length : Int)), (24, ((k3 + 1 : Nat) : Int))], [(1, .row 3 (List.map encItemO v25)), (2, .map (encMe v26)), (3, .box [.R 1, .m 2]), (4, .row 3 (List.map encItemO x30.1.items)), (6, .box [.R 4, .m 19]), (19, .map (encMe x30.1.open'))], 60, []⟩ : St))) ?_
 exact Le.ct 19 5

def impl_isHistory_p (fuel : Nat) (l : List Item) (h : List Change) : Option Bool :=
  (impl_AreItems_p fuel l).bind fun x1 =>
  cond (!x1)
    (some false)
    ((impl_stateOf_p l h 0).bind fun x3 =>
    (match x3.1 with
      | none =>
        some x3.2
      | some p2_0 =>
        some x3.2))
theorem impl_isHistory_ok (fuel : Nat) (l : List Item) (h : List Change) (r : Bool) (hH : impl_isHistory_p fuel l h = some r) : SpecR Tryd.prog 23 [.s (List.map encItem l), .s (List.map encChange h)] (.v (.bool r)) := by
 refine fn_ok T Tryd.func23 rfl (by decide) rfl ?_
 refine AW.seq (AW.region ?_)
 refine AO.pu T ?_
 refine AO.nil ?_
 iterate 2 refine AW.seq ?_
 obtain ⟨x1, hx2, hH⟩ := bindE hH
 refine AW.region ?_
 refine AO.pu T ?_
 refine AO.val rfl rfl (callV_ok rfl rfl rfl rfl (impl_AreItems_ok fuel _ _ (hx2)) rfl) ?_
 refine AO.pu T ?_
 refine AO.nil ?_
 refine AW.cond (b := (!x1)) rfl (fun hc => ?_) (fun hc => ?_)
 replace hH := condT hc hH
 refine AW.seq (AW.region ?_)
 refine AO.pu T ?_
 refine AO.nil (AW.ret ?_)
 have hR := someE hH; subst hR
 exact retQ.i [] rfl (.c (.c .v))
 replace hH := condF hc hH
 refine AW.skip ?_
 refine AW.seq ?_
 obtain ⟨x3, hx4, hH⟩ := bindE hH
 rcases hq2_0 : x3.1 with _ | p2_0
 rw [hq2_0] at hH
 try dsimp only at hH
 refine AW.region ?_
 iterate 2 refine AO.pu T ?_
 refine AO.step rfl (call_ok rfl 1 rfl rfl rfl ((by have q := impl_stateOf_ok _ _ _ _ (hx4); rw [hq2_0] at q; exact q)) rfl rfl rfl) ?_
 iterate 5 refine AO.pu T ?_
 refine AO.nil (AW.seq ?_)
 refine AW.region ?_
 iterate 2 refine AO.pu T ?_
 refine AO.nil (AW.ret ?_)
 have hR := someE hH; subst hR
 exact retQ.i [] rfl (.c (.c .v))
 rw [hq2_0] at hH
 try dsimp only at hH
 refine AW.region ?_
 iterate 2 refine AO.pu T ?_
 refine AO.step rfl (call_ok rfl 1 rfl rfl rfl ((by have q := impl_stateOf_ok _ _ _ _ (hx4); rw [hq2_0] at q; exact q)) rfl rfl rfl) ?_
 iterate 5 refine AO.pu T ?_
 refine AO.nil (AW.seq ?_)
 refine AW.region ?_
 iterate 2 refine AO.pu T ?_
 refine AO.nil (AW.ret ?_)
 have hR := someE hH; subst hR
 exact retQ.i [] rfl (.c (.c .v))

def impl_ParseHistory_l1 (l : List Item) (fuel : Nat) : List ByteArray → Nat → List Change → Option (((List Change) × Bool))
  | [], k5, v56 =>
    (impl_isHistory_p fuel l v56).bind fun x58 =>
    cond (!x58)
      (some ([], false))
      (some (v56, true))
  | y6 :: ys7, k5, v56 =>
    (strings_CutSuffix_p y6 (⟨#[32, 114, 101, 118, 105, 101, 119]⟩ : ByteArray)).bind fun x60 =>
    (strings_Split_p x60.1 (⟨#[32]⟩ : ByteArray)).bind fun x62 =>
    cond ((x62.length : Int) != 5)
      (some ([], false))
      ((sliceHi x62 4).bind fun x64 =>
      (impl_integersIn_p fuel x64).bind fun x66 =>
      (getI x62 4).bind fun x68 =>
      (slices_Index_string_p [(⟨#[110, 111, 110, 101]⟩ : ByteArray), (⟨#[100, 111, 119, 110]⟩ : ByteArray), (⟨#[101, 100, 103, 101]⟩ : ByteArray), (⟨#[118, 111, 105, 100]⟩ : ByteArray)] x68).bind fun x70 =>
      cond ((!x66.2) || decide (x70 < 0))
        (some ([], false))
        ((getI x66.1 0).bind fun x72 =>
        (getI x66.1 1).bind fun x74 =>
        (getI x66.1 2).bind fun x76 =>
        (getI x66.1 3).bind fun x78 =>
        (need (fitsB 48 (v56.length + ([(Change.mk x72 x74 x76 x78 x70 x60.2)]).length))).bind fun u80 =>
        impl_ParseHistory_l1 l fuel ys7 (k5 + 1) (v56 ++ [(Change.mk x72 x74 x76 x78 x70 x60.2)])))
def impl_ParseHistory_p (fuel : Nat) (l : List Item) (sA : ByteArray) : Option ((List Change) × Bool) :=
  (impl_linesOf_p sA).bind fun x1 =>
  (impl_AreItems_p fuel l).bind fun x3 =>
  cond (((!x3) || (!x1.2)) || decide ((x1.1.length : Int) > 60))
    (some ([], false))
    (impl_ParseHistory_l1 l fuel x1.1 0 [])
theorem impl_ParseHistory_ok (fuel : Nat) (l : List Item) (sA : ByteArray) (r : ((List Change) × Bool)) (hH : impl_ParseHistory_p fuel l sA = some r) : SpecR Tryd.prog 14 [.s (List.map encItem l), .v (.string sA)] (.t [.w 6 (r.1.map encChange), .v (.bool r.2)]) := by
 refine fn_ok T Tryd.func14 rfl (by decide) rfl ?_
 refine AW.seq (AW.region ?_)
 iterate 2 refine AO.pu T ?_
 refine AO.nil (AW.seq ?_)
 obtain ⟨x1, hx2, hH⟩ := bindE hH
 refine AW.region ?_
 refine AO.pu T ?_
 refine AO.step rfl (call_ok rfl 1 rfl rfl rfl (impl_linesOf_ok _ _ (hx2)) rfl rfl rfl) ?_
 iterate 5 refine AO.pu T ?_
 refine AO.nil ?_
 iterate 2 refine AW.seq ?_
 obtain ⟨x3, hx4, hH⟩ := bindE hH
 refine AW.region ?_
 refine AO.pu T ?_
 refine AO.val rfl rfl (callV_ok rfl rfl rfl rfl (impl_AreItems_ok fuel _ _ (hx4)) rfl) ?_
 iterate 2 refine AO.pu T ?_
 refine AO.pureG T [] rfl trivial rfl rfl ?_
 refine AO.pureG T [26] rfl ⟨fun h => h, trivial⟩ rfl rfl ?_
 refine AO.val rfl rfl (pick_or rfl rfl rfl rfl) ?_
 refine AO.pu T ?_
 refine AO.pureG T [] rfl trivial rfl rfl ?_
 refine AO.guard [30] rfl ⟨fun h => h, trivial⟩ (fun hg => len_row_ok T rfl rfl rfl rfl) rfl ?_
 refine AO.pureG T [31] rfl ⟨fun h => h, trivial⟩ rfl rfl ?_
 refine AO.val rfl rfl (pick_or rfl rfl rfl rfl) ?_
 refine AO.nil ?_
 refine AW.cond (b := (((!x3) || (!x1.2)) || decide ((x1.1.length : Int) > 60))) rfl (fun hc => ?_) (fun hc => ?_)
 replace hH := condT hc hH
 refine AW.seq (AW.region ?_)
 iterate 2 refine AO.pu T ?_
 refine AO.nil (AW.ret ?_)
 have hR := someE hH; subst hR
 exact retQ.i [] rfl (.t (expLG_cons (.c .nil) (expLG_cons (.c .v) (expLG_nil))))
 replace hH := condF hc hH
 refine AW.skip ?_
 refine AW.seq (AW.region ?_)
 refine AO.step rfl (mk0_ok T rfl rfl rfl rfl) ?_
 refine AO.pu T ?_
 refine AO.nil ?_
 iterate 2 refine AW.seq ?_
 refine AW.region ?_
 refine AO.pu T ?_
 refine AO.val rfl rfl (len_row_ok T rfl rfl rfl rfl) ?_
 refine AO.pu T ?_
 refine AO.nil ?_
 refine AW.le (Le.ct 0 0 (σ' := (⟨[(0, .s (List.map encItem l)), (8, .w 6 []), (35, .R 1), (36, (x1.1.length : Int)), (37, (0 : Int))], [(1, .row 1 (List.map encStr x1.1))], 92, []⟩ : St))) ?_
 refine AW.block ?_
 refine AW.loopS (fun s : Nat × (List Change) => (⟨[(0, .s (List.map encItem l)), (8, .R 9), (35, .R 1), (36, (x1.1.length : Int)), (37, (s.1 : Int))], [(1, .row 1 (List.map encStr x1.1)), (9, .row 6 (List.map encChange s.2))], 92, []⟩ : St)) (fun s => s.1 ≤ x1.1.length ∧ impl_ParseHistory_l1 l fuel (x1.1.drop s.1) s.1 s.2 = some r) (fun s => x1.1.length - s.1) (0, []) ⟨Nat.zero_le _, hH⟩ ?_ ?_
 refine Le.trans (Le.void 8 9 6 rfl rfl) ?_
 exact Le.ct 0 0
 rintro ⟨k5, v56⟩ ⟨hk, hH⟩
 replace hH : impl_ParseHistory_l1 l fuel (x1.1.drop k5) k5 v56 = some r := hH
 try dsimp only
 refine AW.boundR (id := 1) (l := x1.1) rfl (fun hb9 => ?_)
 rcases hd8 : x1.1.drop k5 with _ | ⟨y6, ys7⟩
 rw [hd8, impl_ParseHistory_l1] at hH
 have hlt10 := drop_ge hd8
 refine AW.seq (AW.region ?_)
 refine AO.pu T ?_
 refine AO.nil (AW.seq ?_)
 refine AW.condF' (b := decide ((k5 : Int) < (x1.1.length : Int))) rfl (rngF hlt10) ?_
 refine AW.exit ?_
 iterate 2 refine AW.seq ?_
 obtain ⟨x58, hx59, hH⟩ := bindE hH
 refine AW.region ?_
 iterate 2 refine AO.pu T ?_
 refine AO.val rfl rfl (callLV_ok rfl rfl rfl (es := [.s (List.map encItem l), .s (List.map encChange v56)]) ⟨.free rfl, (.rowR rfl (.map fun y => .vs rfl)), trivial⟩ (impl_isHistory_ok fuel _ _ _ (hx59)) (zfree_v _) rfl) ?_
 refine AO.pu T ?_
 refine AO.nil ?_
 refine AW.cond (b := (!x58)) rfl (fun hc => ?_) (fun hc => ?_)
 replace hH := condT hc hH
 refine AW.seq (AW.region ?_)
 iterate 2 refine AO.pu T ?_
 refine AO.nil (AW.ret ?_)
 have hR := someE hH; subst hR
 exact retQ.i [] rfl (.t (expLG_cons (.c .nil) (expLG_cons (.c .v) (expLG_nil))))
 replace hH := condF hc hH
 refine AW.skip ?_
 refine AW.seq (AW.region ?_)
 iterate 3 refine AO.pu T ?_
 refine AO.nil (AW.ret ?_)
 have hR := someE hH; subst hR
 exact retQ.i [9] rfl (.t (expLG_cons (.c (.rowR rfl)) (expLG_cons (.c .v) (expLG_nil))))
 rw [hd8, impl_ParseHistory_l1] at hH
 have hlt10 := drop_lt hd8
 refine AW.seq (AW.region ?_)
 refine AO.pu T ?_
 refine AO.nil (AW.seq ?_)
 refine AW.condT' (b := decide ((k5 : Int) < (x1.1.length : Int))) rfl (rngT hlt10) ?_
 refine AW.skip ?_
 refine AW.seq ?_
 refine AW.block ?_
 refine AW.seq (AW.region ?_)
 refine AO.val rfl rfl (ix_row_ok T rfl rfl rfl rfl rfl rfl (getI_drop hd8)) ?_
 refine AO.val rfl rfl (load_row_ok T rfl rfl rfl rfl (getI_get (getI_drop hd8)) rfl rfl rfl) ?_
 refine AO.pu T ?_
 refine AO.nil (AW.seq ?_)
 obtain ⟨x60, hx61, hH⟩ := bindE hH
 refine AW.region ?_
 refine AO.pu T ?_
 refine AO.val rfl rfl (callV_ok rfl rfl rfl rfl (strings_CutSuffix_ok _ _ _ (hx61)) rfl) ?_
 iterate 5 refine AO.pu T ?_
 refine AO.nil (AW.seq ?_)
 obtain ⟨x62, hx63, hH⟩ := bindE hH
 refine AW.region ?_
 refine AO.pu T ?_
 refine AO.step rfl (call_ok rfl 10 rfl rfl rfl (strings_Split_ok _ _ _ (hx63)) rfl rfl rfl) ?_
 refine AO.pu T ?_
 refine AO.nil ?_
 iterate 2 refine AW.seq ?_
 refine AW.region ?_
 refine AO.pu T ?_
 refine AO.val rfl rfl (len_row_ok T rfl rfl rfl rfl) ?_
 refine AO.pu T ?_
 refine AO.nil ?_
 refine AW.cond (b := ((x62.length : Int) != 5)) rfl (fun hc => ?_) (fun hc => ?_)
 replace hH := condT hc hH
 refine AW.seq (AW.region ?_)
 iterate 2 refine AO.pu T ?_
 refine AO.nil (AW.ret ?_)
 have hR := someE hH; subst hR
 exact retQ.i [] rfl (.t (expLG_cons (.c .nil) (expLG_cons (.c .v) (expLG_nil))))
 replace hH := condF hc hH
 refine AW.skip ?_
 refine AW.seq ?_
 obtain ⟨x64, hx65, hH⟩ := bindE hH
 obtain ⟨x66, hx67, hH⟩ := bindE hH
 refine AW.le (Le.freezeM 10 (g := encStr) rfl (fun y => .vs rfl)) ?_
 refine AW.region ?_
 refine AO.pu T ?_
 refine AO.val rfl rfl (slice_hi_map_ok T rfl rfl rfl rfl rfl (hx65) (fun _ => rfl)) ?_
 refine AO.step rfl (call_ok rfl 11 rfl rfl rfl (impl_integersIn_ok fuel _ _ (hx67)) rfl rfl rfl) ?_
 iterate 5 refine AO.pu T ?_
 refine AO.nil ?_
 refine AW.le (Le.ct 0 0 (σ' := (⟨[(0, .s (List.map encItem l)), (8, .R 9), (12, .v (.bool x60.2)), (13, .s (List.map encStr x62)), (14, .R 11), (15, .v (.bool x66.2)), (35, .R 1), (36, (x1.1.length : Int)), (37, (k5 : Int))], [(1, .row 1 (List.map encStr x1.1)), (9, .row 6 (List.map encChange v56)), (11, .row 1 (List.map encInt x66.1))], 92, []⟩ : St))) ?_
 refine AW.seq ?_
 obtain ⟨x68, hx69, hH⟩ := bindE hH
 obtain ⟨x70, hx71, hH⟩ := bindE hH
 refine AW.drawn 4 12 [] mix (by kernel_rfl) rfl ?_
 refine AD.val rfl rfl (slq_ok T (l := [(⟨#[110, 111, 110, 101]⟩ : ByteArray), (⟨#[100, 111, 119, 110]⟩ : ByteArray), (⟨#[101, 100, 103, 101]⟩ : ByteArray), (⟨#[118, 111, 105, 100]⟩ : ByteArray)]) (f := encStr) rfl rfl rfl rfl rfl rfl (by decide) (by decide) (fun _ => rfl)) ?_
 refine AD.pure T rfl rfl rfl ?_
 refine AD.val rfl rfl (ix_map_ok T rfl rfl rfl rfl rfl (hx69) rfl) ?_
 refine AD.pure T rfl rfl rfl ?_
 refine AD.nil ?_
 refine AO.val rfl rfl (callV_ok rfl rfl rfl rfl (slices_Index_string_ok _ _ _ (hx71)) rfl) ?_
 refine AO.pu T ?_
 refine AO.nil ?_
 iterate 2 refine AW.seq ?_
 refine AW.region ?_
 iterate 3 refine AO.pu T ?_
 refine AO.pureG T [] rfl trivial rfl rfl ?_
 refine AO.pureG T [65] rfl ⟨fun h => h, trivial⟩ rfl rfl ?_
 refine AO.val rfl rfl (pick_or rfl rfl rfl rfl) ?_
 refine AO.nil ?_
 refine AW.cond (b := ((!x66.2) || decide (x70 < 0))) rfl (fun hc => ?_) (fun hc => ?_)
 replace hH := condT hc hH
 refine AW.seq (AW.region ?_)
 iterate 2 refine AO.pu T ?_
 refine AO.nil (AW.ret ?_)
 have hR := someE hH; subst hR
 exact retQ.i [] rfl (.t (expLG_cons (.c .nil) (expLG_cons (.c .v) (expLG_nil))))
 replace hH := condF hc hH
 refine AW.skip ?_
 obtain ⟨x72, hx73, hH⟩ := bindE hH
 obtain ⟨x74, hx75, hH⟩ := bindE hH
 obtain ⟨x76, hx77, hH⟩ := bindE hH
 obtain ⟨x78, hx79, hH⟩ := bindE hH
 obtain ⟨u80, hx81, hH⟩ := bindE hH
 refine AW.drawn 17 12 [] mix (by kernel_rfl) rfl ?_
 iterate 2 refine AD.pure T rfl rfl rfl ?_
 refine AD.val rfl rfl (ix_row_ok T rfl rfl rfl rfl rfl rfl (hx73)) ?_
 refine AD.val rfl rfl (load_row_ok T rfl rfl rfl rfl (getI_get (hx73)) rfl rfl rfl) ?_
 refine AD.pure T rfl rfl rfl ?_
 refine AD.val rfl rfl (ix_row_ok T rfl rfl rfl rfl rfl rfl (hx75)) ?_
 refine AD.val rfl rfl (load_row_ok T rfl rfl rfl rfl (getI_get (hx75)) rfl rfl rfl) ?_
 refine AD.pure T rfl rfl rfl ?_
 refine AD.val rfl rfl (ix_row_ok T rfl rfl rfl rfl rfl rfl (hx77)) ?_
 refine AD.val rfl rfl (load_row_ok T rfl rfl rfl rfl (getI_get (hx77)) rfl rfl rfl) ?_
 refine AD.pure T rfl rfl rfl ?_
 refine AD.val rfl rfl (ix_row_ok T rfl rfl rfl rfl rfl rfl (hx79)) ?_
 refine AD.val rfl rfl (load_row_ok T rfl rfl rfl rfl (getI_get (hx79)) rfl rfl rfl) ?_
 iterate 2 refine AD.pure T rfl rfl rfl ?_
 refine AD.pure T (d := .g [x72, x74, x76, x78, x70, .v (.bool x60.2)]) rfl rfl rfl ?_
 refine AD.q (FStep.mk T (f := encChange) (l := [(Change.mk x72 x74 x76 x78 x70 x60.2)]) rfl rfl rfl rfl rfl rfl rfl rfl rfl (fun _ => rfl) rfl rfl rfl rfl) (by simp [namesIn]) (Nat.le_succ _) rfl ?_
 refine AD.nil ?_
 refine AO.step rfl (app_rv_map T rfl 13 rfl rfl rfl rfl rfl (by decide) rfl rfl rfl rfl (fun _ => rfl) (needT (hx81)) rfl rfl) ?_
 refine AO.pu T ?_
 refine AO.nil ?_
 refine AW.le (Le.ct 0 0 (σ' := (⟨[(0, .s (List.map encItem l)), (8, .R 13), (35, .R 1), (36, (x1.1.length : Int)), (37, (k5 : Int))], [(1, .row 1 (List.map encStr x1.1)), (13, .row 6 (List.map encChange (v56 ++ [(Change.mk x72 x74 x76 x78 x70 x60.2)])))], 92, []⟩ : St))) ?_
 refine AW.region ?_
 refine AO.val rfl rfl (ar_ok rfl rfl rfl rfl (inI_succ hlt10 hb9)) ?_
 refine AO.pu T ?_
 refine AO.nil ?_
 refine ⟨(k5 + 1, (v56 ++ [(Change.mk x72 x74 x76 x78 x70 x60.2)])), ⟨Nat.succ_le_of_lt hlt10, (by rw [drop_succ_of hd8]; exact hH)⟩, (by have := hlt10; dsimp only; omega), ?_⟩
 exact Le.ct 13 9

def laws_eqChange_p (a : Change) (b : Change) : Option Bool :=
  cond (a.tick != b.tick)
    (some false)
    (cond (a.caller != b.caller)
      (some false)
      (cond (a.item != b.item)
        (some false)
        (cond (a.name != b.name)
          (some false)
          (cond (a.mark != b.mark)
            (some false)
            (cond (!(a.review == b.review))
              (some false)
              (some true))))))
theorem laws_eqChange_ok (a : Change) (b : Change) (r : Bool) (hH : laws_eqChange_p a b = some r) : SpecR Tryd.prog 28 [.g (encChange a), .g (encChange b)] (.v (.bool r)) := by
 refine fn_ok T Tryd.func28 rfl (by decide) rfl ?_
 refine AW.seq (AW.region ?_)
 refine AO.step rfl (box_ok T rfl 1 rfl rfl rfl rfl) ?_
 refine AO.step rfl (box_ok T rfl 2 rfl rfl rfl rfl) ?_
 refine AO.pu T ?_
 refine AO.nil ?_
 iterate 2 refine AW.seq ?_
 refine AW.region ?_
 iterate 5 refine AO.pu T ?_
 refine AO.nil ?_
 refine AW.cond (b := (a.tick != b.tick)) rfl (fun hc => ?_) (fun hc => ?_)
 replace hH := condT hc hH
 refine AW.seq (AW.region ?_)
 refine AO.pu T ?_
 refine AO.nil (AW.ret ?_)
 have hR := someE hH; subst hR
 exact retQ.i [] rfl (.c (.c .v))
 replace hH := condF hc hH
 refine AW.skip ?_
 iterate 2 refine AW.seq ?_
 refine AW.region ?_
 iterate 5 refine AO.pu T ?_
 refine AO.nil ?_
 refine AW.cond (b := (a.caller != b.caller)) rfl (fun hc => ?_) (fun hc => ?_)
 replace hH := condT hc hH
 refine AW.seq (AW.region ?_)
 refine AO.pu T ?_
 refine AO.nil (AW.ret ?_)
 have hR := someE hH; subst hR
 exact retQ.i [] rfl (.c (.c .v))
 replace hH := condF hc hH
 refine AW.skip ?_
 iterate 2 refine AW.seq ?_
 refine AW.region ?_
 iterate 5 refine AO.pu T ?_
 refine AO.nil ?_
 refine AW.cond (b := (a.item != b.item)) rfl (fun hc => ?_) (fun hc => ?_)
 replace hH := condT hc hH
 refine AW.seq (AW.region ?_)
 refine AO.pu T ?_
 refine AO.nil (AW.ret ?_)
 have hR := someE hH; subst hR
 exact retQ.i [] rfl (.c (.c .v))
 replace hH := condF hc hH
 refine AW.skip ?_
 iterate 2 refine AW.seq ?_
 refine AW.region ?_
 iterate 5 refine AO.pu T ?_
 refine AO.nil ?_
 refine AW.cond (b := (a.name != b.name)) rfl (fun hc => ?_) (fun hc => ?_)
 replace hH := condT hc hH
 refine AW.seq (AW.region ?_)
 refine AO.pu T ?_
 refine AO.nil ?_
 refine AW.le (Le.ct 0 0 (σ' := (⟨[(4, .v (.bool false))], [], 35, []⟩ : St))) ?_
 refine AW.ret ?_
 have hR := someE hH; subst hR
 exact retQ.i [] rfl (.c (.c .v))
 replace hH := condF hc hH
 refine AW.skip ?_
 iterate 2 refine AW.seq ?_
 refine AW.region ?_
 iterate 5 refine AO.pu T ?_
 refine AO.nil ?_
 refine AW.le (Le.ct 0 0 (σ' := (⟨[(2, .p 1 0), (3, .p 2 0), (29, .v (.bool (a.mark != b.mark)))], [(1, .box [a.tick, a.caller, a.item, a.name, a.mark, .v (.bool a.review)]), (2, .box [b.tick, b.caller, b.item, b.name, b.mark, .v (.bool b.review)])], 35, []⟩ : St))) ?_
 refine AW.cond (b := (a.mark != b.mark)) rfl (fun hc => ?_) (fun hc => ?_)
 replace hH := condT hc hH
 refine AW.seq (AW.region ?_)
 refine AO.pu T ?_
 refine AO.nil (AW.ret ?_)
 have hR := someE hH; subst hR
 exact retQ.i [] rfl (.c (.c .v))
 replace hH := condF hc hH
 refine AW.skip ?_
 iterate 2 refine AW.seq ?_
 refine AW.region ?_
 iterate 5 refine AO.pu T ?_
 refine AO.nil ?_
 refine AW.cond (b := (!(a.review == b.review))) rfl (fun hc => ?_) (fun hc => ?_)
 replace hH := condT hc hH
 refine AW.seq (AW.region ?_)
 refine AO.pu T ?_
 refine AO.nil (AW.ret ?_)
 have hR := someE hH; subst hR
 exact retQ.i [] rfl (.c (.c .v))
 replace hH := condF hc hH
 refine AW.skip ?_
 refine AW.seq (AW.region ?_)
 refine AO.pu T ?_
 refine AO.nil (AW.ret ?_)
 have hR := someE hH; subst hR
 exact retQ.i [] rfl (.c (.c .v))

def laws_eqChangeS_l1 (b : List Change) : List Change → Nat → Option Bool
  | [], k1 =>
    some true
  | y2 :: ys3, k1 =>
    (getI b (k1 : Int)).bind fun x16 =>
    (laws_eqChange_p y2 x16).bind fun x18 =>
    cond (!x18)
      (some false)
      (laws_eqChangeS_l1 b ys3 (k1 + 1))
def laws_eqChangeS_p (a : List Change) (b : List Change) : Option Bool :=
  cond ((a.length : Int) != (b.length : Int))
    (some false)
    (laws_eqChangeS_l1 b a 0)
theorem laws_eqChangeS_ok (a : List Change) (b : List Change) (r : Bool) (hH : laws_eqChangeS_p a b = some r) : SpecR Tryd.prog 12 [.s (List.map encChange a), .s (List.map encChange b)] (.v (.bool r)) := by
 refine fn_ok T Tryd.func12 rfl (by decide) rfl ?_
 refine AW.seq (AW.region ?_)
 refine AO.pu T ?_
 refine AO.nil ?_
 iterate 2 refine AW.seq ?_
 refine AW.region ?_
 refine AO.pu T ?_
 refine AO.val rfl rfl (len_map_ok T rfl rfl rfl) ?_
 refine AO.pu T ?_
 refine AO.val rfl rfl (len_map_ok T rfl rfl rfl) ?_
 refine AO.pu T ?_
 refine AO.nil ?_
 refine AW.cond (b := ((a.length : Int) != (b.length : Int))) rfl (fun hc => ?_) (fun hc => ?_)
 replace hH := condT hc hH
 refine AW.seq (AW.region ?_)
 refine AO.pu T ?_
 refine AO.nil (AW.ret ?_)
 have hR := someE hH; subst hR
 exact retQ.i [] rfl (.c (.c .v))
 replace hH := condF hc hH
 refine AW.skip ?_
 iterate 2 refine AW.seq ?_
 refine AW.region ?_
 refine AO.pu T ?_
 refine AO.nil ?_
 refine AW.block ?_
 refine AW.loopS (fun s : Nat => (⟨[(0, .s (List.map encChange a)), (1, .s (List.map encChange b)), (5, (s : Int))], [], 27, []⟩ : St)) (fun s => s ≤ a.length ∧ laws_eqChangeS_l1 b (a.drop s) s = some r) (fun s => a.length - s) 0 ⟨Nat.zero_le _, hH⟩ ?_ ?_
 exact Le.ct 0 0
 rintro k1 ⟨hk, hH⟩
 replace hH : laws_eqChangeS_l1 b (a.drop k1) k1 = some r := hH
 try dsimp only
 refine AW.boundM (t := 0) (l := a) rfl (fun hb5 => ?_)
 rcases hd4 : a.drop k1 with _ | ⟨y2, ys3⟩
 rw [hd4, laws_eqChangeS_l1] at hH
 have hlt6 := drop_ge hd4
 iterate 2 refine AW.seq ?_
 refine AW.region ?_
 iterate 2 refine AO.pu T ?_
 refine AO.val rfl rfl (len_map_ok T rfl rfl rfl) ?_
 refine AO.pu T ?_
 refine AO.nil ?_
 refine AW.condF' (b := decide ((k1 : Int) < (a.length : Int))) rfl (rngF hlt6) ?_
 refine AW.exit ?_
 refine AW.seq (AW.region ?_)
 refine AO.pu T ?_
 refine AO.nil (AW.ret ?_)
 have hR := someE hH; subst hR
 exact retQ.i [] rfl (.c (.c .v))
 rw [hd4, laws_eqChangeS_l1] at hH
 have hlt6 := drop_lt hd4
 iterate 2 refine AW.seq ?_
 refine AW.region ?_
 iterate 2 refine AO.pu T ?_
 refine AO.val rfl rfl (len_map_ok T rfl rfl rfl) ?_
 refine AO.pu T ?_
 refine AO.nil ?_
 refine AW.condT' (b := decide ((k1 : Int) < (a.length : Int))) rfl (rngT hlt6) ?_
 refine AW.skip ?_
 refine AW.seq ?_
 refine AW.block ?_
 refine AW.seq ?_
 obtain ⟨x16, hx17, hH⟩ := bindE hH
 obtain ⟨x18, hx19, hH⟩ := bindE hH
 refine AW.drawn 8 1 [] mix (by kernel_rfl) rfl ?_
 iterate 2 refine AD.pure T rfl rfl rfl ?_
 refine AD.val rfl rfl (ix_map_ok T rfl rfl rfl rfl rfl (getI_drop hd4) rfl) ?_
 refine AD.pure T (d := .g [y2.tick, y2.caller, y2.item, y2.name, y2.mark, .v (.bool y2.review)]) rfl rfl rfl ?_
 iterate 2 refine AD.pure T rfl rfl rfl ?_
 refine AD.val rfl rfl (ix_map_ok T rfl rfl rfl rfl rfl (hx17) rfl) ?_
 refine AD.pure T (d := .g [x16.tick, x16.caller, x16.item, x16.name, x16.mark, .v (.bool x16.review)]) rfl rfl rfl ?_
 refine AD.nil ?_
 refine AO.val rfl rfl (callV_ok rfl rfl rfl rfl (laws_eqChange_ok _ _ _ (hx19)) rfl) ?_
 refine AO.pu T ?_
 refine AO.nil ?_
 refine AW.cond (b := (!x18)) rfl (fun hc => ?_) (fun hc => ?_)
 replace hH := condT hc hH
 refine AW.seq (AW.region ?_)
 refine AO.pu T ?_
 refine AO.nil (AW.ret ?_)
 have hR := someE hH; subst hR
 exact retQ.i [] rfl (.c (.c .v))
 replace hH := condF hc hH
 refine AW.skip ?_
 refine AW.region ?_
 refine AO.pu T ?_
 refine AO.val rfl rfl (ar_ok rfl rfl rfl rfl (inI_succ hlt6 hb5)) ?_
 refine AO.pu T ?_
 refine AO.nil ?_
 refine ⟨k1 + 1, ⟨Nat.succ_le_of_lt hlt6, (by rw [drop_succ_of hd4]; exact hH)⟩, (by have := hlt6; dsimp only; omega), ?_⟩
 exact Le.ct 0 0

def laws_eqStringS_l1 (b : List ByteArray) : List ByteArray → Nat → Option Bool
  | [], k1 =>
    some true
  | y2 :: ys3, k1 =>
    (getI b (k1 : Int)).bind fun x12 =>
    cond (!decide (y2 = x12))
      (some false)
      (laws_eqStringS_l1 b ys3 (k1 + 1))
def laws_eqStringS_p (a : List ByteArray) (b : List ByteArray) : Option Bool :=
  cond ((a.length : Int) != (b.length : Int))
    (some false)
    (laws_eqStringS_l1 b a 0)
theorem laws_eqStringS_ok (a : List ByteArray) (b : List ByteArray) (r : Bool) (hH : laws_eqStringS_p a b = some r) : SpecR Tryd.prog 51 [.s (List.map encStr a), .s (List.map encStr b)] (.v (.bool r)) := by
 refine fn_ok T Tryd.func51 rfl (by decide) rfl ?_
 refine AW.seq (AW.region ?_)
 refine AO.pu T ?_
 refine AO.nil ?_
 iterate 2 refine AW.seq ?_
 refine AW.region ?_
 refine AO.pu T ?_
 refine AO.val rfl rfl (len_map_ok T rfl rfl rfl) ?_
 refine AO.pu T ?_
 refine AO.val rfl rfl (len_map_ok T rfl rfl rfl) ?_
 refine AO.pu T ?_
 refine AO.nil ?_
 refine AW.cond (b := ((a.length : Int) != (b.length : Int))) rfl (fun hc => ?_) (fun hc => ?_)
 replace hH := condT hc hH
 refine AW.seq (AW.region ?_)
 refine AO.pu T ?_
 refine AO.nil (AW.ret ?_)
 have hR := someE hH; subst hR
 exact retQ.i [] rfl (.c (.c .v))
 replace hH := condF hc hH
 refine AW.skip ?_
 iterate 2 refine AW.seq ?_
 refine AW.region ?_
 refine AO.pu T ?_
 refine AO.nil ?_
 refine AW.block ?_
 refine AW.loopS (fun s : Nat => (⟨[(0, .s (List.map encStr a)), (1, .s (List.map encStr b)), (5, (s : Int))], [], 26, []⟩ : St)) (fun s => s ≤ a.length ∧ laws_eqStringS_l1 b (a.drop s) s = some r) (fun s => a.length - s) 0 ⟨Nat.zero_le _, hH⟩ ?_ ?_
 exact Le.ct 0 0
 rintro k1 ⟨hk, hH⟩
 replace hH : laws_eqStringS_l1 b (a.drop k1) k1 = some r := hH
 try dsimp only
 refine AW.boundM (t := 0) (l := a) rfl (fun hb5 => ?_)
 rcases hd4 : a.drop k1 with _ | ⟨y2, ys3⟩
 rw [hd4, laws_eqStringS_l1] at hH
 have hlt6 := drop_ge hd4
 iterate 2 refine AW.seq ?_
 refine AW.region ?_
 iterate 2 refine AO.pu T ?_
 refine AO.val rfl rfl (len_map_ok T rfl rfl rfl) ?_
 refine AO.pu T ?_
 refine AO.nil ?_
 refine AW.condF' (b := decide ((k1 : Int) < (a.length : Int))) rfl (rngF hlt6) ?_
 refine AW.exit ?_
 refine AW.seq (AW.region ?_)
 refine AO.pu T ?_
 refine AO.nil (AW.ret ?_)
 have hR := someE hH; subst hR
 exact retQ.i [] rfl (.c (.c .v))
 rw [hd4, laws_eqStringS_l1] at hH
 have hlt6 := drop_lt hd4
 iterate 2 refine AW.seq ?_
 refine AW.region ?_
 iterate 2 refine AO.pu T ?_
 refine AO.val rfl rfl (len_map_ok T rfl rfl rfl) ?_
 refine AO.pu T ?_
 refine AO.nil ?_
 refine AW.condT' (b := decide ((k1 : Int) < (a.length : Int))) rfl (rngT hlt6) ?_
 refine AW.skip ?_
 refine AW.seq ?_
 refine AW.block ?_
 refine AW.seq ?_
 obtain ⟨x12, hx13, hH⟩ := bindE hH
 refine AW.drawn 8 1 [] mix (by kernel_rfl) rfl ?_
 iterate 2 refine AD.pure T rfl rfl rfl ?_
 refine AD.val rfl rfl (ix_map_ok T rfl rfl rfl rfl rfl (getI_drop hd4) rfl) ?_
 iterate 3 refine AD.pure T rfl rfl rfl ?_
 refine AD.val rfl rfl (ix_map_ok T rfl rfl rfl rfl rfl (hx13) rfl) ?_
 refine AD.pure T rfl rfl rfl ?_
 refine AD.nil ?_
 refine AO.pu T ?_
 refine AO.nil ?_
 refine AW.cond (b := (!decide (y2 = x12))) rfl (fun hc => ?_) (fun hc => ?_)
 replace hH := condT hc hH
 refine AW.seq (AW.region ?_)
 refine AO.pu T ?_
 refine AO.nil (AW.ret ?_)
 have hR := someE hH; subst hR
 exact retQ.i [] rfl (.c (.c .v))
 replace hH := condF hc hH
 refine AW.skip ?_
 refine AW.region ?_
 refine AO.pu T ?_
 refine AO.val rfl rfl (ar_ok rfl rfl rfl rfl (inI_succ hlt6 hb5)) ?_
 refine AO.pu T ?_
 refine AO.nil ?_
 refine ⟨k1 + 1, ⟨Nat.succ_le_of_lt hlt6, (by rw [drop_succ_of hd4]; exact hH)⟩, (by have := hlt6; dsimp only; omega), ?_⟩
 exact Le.ct 0 0

end Go.Proofs.YtjbkbiofklgblaaDoor

/- The walk, part 1: what each function reached by the law FnExactHistoryText computes. No condition. -/
import Derived.Test.YtjbkbiofklgblaaDoorAm3
import Derived.Test.YtjbkbiofklgblaaDoorShelf
import Derived.Test.YtjbkbiofklgblaaDoorProg
set_option maxRecDepth 4000
set_option maxHeartbeats 1000000
set_option linter.unusedVariables false
set_option linter.unusedSimpArgs false
set_option linter.unusedSectionVars false

namespace Go.Proofs.YtjbkbiofklgblaaDoor
open Go.AM
def teL : List (Option TI) := [
  none,
  none,
  some ⟨.int .i64, 1, 8, some (.int .i64 0)⟩,
  some ⟨.int .i64, 1, 8, some (.int .i64 0)⟩,
  some ⟨.bool, 1, 1, some (.bool false)⟩,
  some ⟨.int .u8, 1, 1, some (.int .u8 0)⟩,
  some ⟨.int .u8, 1, 1, some (.int .u8 0)⟩,
  some ⟨.struct [(0, 2), (1, 3), (2, 4), (3, 6)], 4, 24, some (.agg #[.int .i64 0, .int .i64 0, .bool false, .int .u8 0])⟩,
  some ⟨.struct [(0, 2), (1, 3), (2, 4), (3, 6)], 4, 24, some (.agg #[.int .i64 0, .int .i64 0, .bool false, .int .u8 0])⟩,
  some ⟨.str, 1, 16, some (.string ⟨#[]⟩)⟩,
  some ⟨.str, 1, 16, some (.string ⟨#[]⟩)⟩,
  some ⟨.str, 1, 16, some (.string ⟨#[]⟩)⟩,
  some ⟨.int .u64, 1, 8, some (.int .u64 0)⟩,
  some ⟨.struct [(0, 9), (1, 12)], 2, 24, some (.agg #[.string ⟨#[]⟩, .int .u64 0])⟩,
  some ⟨.struct [(0, 9), (1, 12)], 2, 24, some (.agg #[.string ⟨#[]⟩, .int .u64 0])⟩,
  some ⟨.ptr 148, 1, 8, some (.pointer none)⟩,
  some ⟨.ptr 151, 1, 8, some (.pointer none)⟩,
  some ⟨.ptr 159, 1, 8, some (.pointer none)⟩,
  some ⟨.struct [(0, 17)], 1, 8, some (.agg #[.pointer none])⟩,
  some ⟨.struct [(0, 17)], 1, 8, some (.agg #[.pointer none])⟩,
  none,
  some ⟨.int .i32, 1, 4, some (.int .i32 0)⟩,
  some ⟨.slice 44, 1, 24, some (.slice none 0 0)⟩,
  some ⟨.slice 52, 1, 24, some (.slice none 0 0)⟩,
  none,
  none,
  none,
  none,
  some ⟨.slice 47, 1, 24, some (.slice none 0 0)⟩,
  none,
  some ⟨.slice 50, 1, 24, some (.slice none 0 0)⟩,
  none,
  none,
  none,
  none,
  none,
  none,
  none,
  none,
  none,
  none,
  some ⟨.slice 9, 1, 24, some (.slice none 0 0)⟩,
  some ⟨.slice 3, 1, 24, some (.slice none 0 0)⟩,
  some ⟨.struct [(0, 41), (1, 42), (2, 4)], 3, 56, some (.agg #[.slice none 0 0, .slice none 0 0, .bool false])⟩,
  some ⟨.struct [(0, 41), (1, 42), (2, 4)], 3, 56, some (.agg #[.slice none 0 0, .slice none 0 0, .bool false])⟩,
  none,
  none,
  some ⟨.struct [(0, 41), (1, 42), (2, 4)], 3, 56, some (.agg #[.slice none 0 0, .slice none 0 0, .bool false])⟩,
  none,
  some ⟨.struct [(0, 3), (1, 3), (2, 3), (3, 3), (4, 3), (5, 4)], 6, 48, some (.agg #[.int .i64 0, .int .i64 0, .int .i64 0, .int .i64 0, .int .i64 0, .bool false])⟩,
  some ⟨.struct [(0, 3), (1, 3), (2, 3), (3, 3), (4, 3), (5, 4)], 6, 48, some (.agg #[.int .i64 0, .int .i64 0, .int .i64 0, .int .i64 0, .int .i64 0, .bool false])⟩,
  none,
  some ⟨.struct [(0, 3), (1, 3), (2, 3), (3, 3), (4, 3), (5, 4)], 6, 48, some (.agg #[.int .i64 0, .int .i64 0, .int .i64 0, .int .i64 0, .int .i64 0, .bool false])⟩,
  some ⟨.ptr 56, 1, 8, some (.pointer none)⟩,
  some ⟨.slice 5, 1, 24, some (.slice none 0 0)⟩,
  some ⟨.struct [(0, 53), (1, 54)], 2, 32, some (.agg #[.pointer none, .slice none 0 0])⟩,
  some ⟨.struct [(0, 53), (1, 54)], 2, 32, some (.agg #[.pointer none, .slice none 0 0])⟩,
  none,
  none,
  none,
  none,
  none,
  some ⟨.array 4 9, 4, 64, some (.agg #[.string ⟨#[]⟩, .string ⟨#[]⟩, .string ⟨#[]⟩, .string ⟨#[]⟩])⟩,
  none,
  none,
  none,
  none,
  none,
  none,
  none,
  none,
  none,
  none,
  none,
  none,
  none,
  none,
  none,
  none,
  none,
  none,
  none,
  some ⟨.ptr 100, 1, 8, some (.pointer none)⟩,
  none,
  none,
  none,
  some ⟨.ptr 5, 1, 8, some (.pointer none)⟩,
  none,
  none,
  none,
  none,
  some ⟨.ptr 119, 1, 8, some (.pointer none)⟩,
  none,
  none,
  none,
  none,
  none,
  none,
  some ⟨.other, 1, 8, some (.map none)⟩,
  some ⟨.struct [(0, 28), (1, 98)], 2, 32, some (.agg #[.slice none 0 0, .map none])⟩,
  some ⟨.struct [(0, 28), (1, 98)], 2, 32, some (.agg #[.slice none 0 0, .map none])⟩,
  none,
  none,
  none,
  none,
  none,
  none,
  none,
  none,
  none,
  none,
  none,
  none,
  none,
  some ⟨.array 2 3, 2, 16, some (.agg #[.int .i64 0, .int .i64 0])⟩,
  none,
  none,
  some ⟨.slice 120, 1, 24, some (.slice none 0 0)⟩,
  some ⟨.struct [(0, 28), (1, 117)], 2, 48, some (.agg #[.slice none 0 0, .slice none 0 0])⟩,
  some ⟨.struct [(0, 28), (1, 117)], 2, 48, some (.agg #[.slice none 0 0, .slice none 0 0])⟩,
  some ⟨.slice 4, 1, 24, some (.slice none 0 0)⟩,
  none,
  none,
  none,
  some ⟨.array 24 5, 24, 24, some (.agg #[.int .u8 0, .int .u8 0, .int .u8 0, .int .u8 0, .int .u8 0, .int .u8 0, .int .u8 0, .int .u8 0, .int .u8 0, .int .u8 0, .int .u8 0, .int .u8 0, .int .u8 0, .int .u8 0, .int .u8 0, .int .u8 0, .int .u8 0, .int .u8 0, .int .u8 0, .int .u8 0, .int .u8 0, .int .u8 0, .int .u8 0, .int .u8 0])⟩,
  some ⟨.int .u64, 1, 8, some (.int .u64 0)⟩,
  none,
  none,
  none,
  none,
  none,
  none,
  some ⟨.int .u64, 1, 8, some (.int .u64 0)⟩,
  none,
  some ⟨.array 20 125, 20, 160, some (.agg #[.int .u64 0, .int .u64 0, .int .u64 0, .int .u64 0, .int .u64 0, .int .u64 0, .int .u64 0, .int .u64 0, .int .u64 0, .int .u64 0, .int .u64 0, .int .u64 0, .int .u64 0, .int .u64 0, .int .u64 0, .int .u64 0, .int .u64 0, .int .u64 0, .int .u64 0, .int .u64 0])⟩,
  some ⟨.int .u32, 1, 4, some (.int .u32 0)⟩,
  none,
  none,
  none,
  some ⟨.struct [(0, 5), (1, 5)], 2, 2, some (.agg #[.int .u8 0, .int .u8 0])⟩,
  some ⟨.struct [(0, 5), (1, 5)], 2, 2, some (.agg #[.int .u8 0, .int .u8 0])⟩,
  some ⟨.array 16 140, 32, 32, some (.agg #[.int .u8 0, .int .u8 0, .int .u8 0, .int .u8 0, .int .u8 0, .int .u8 0, .int .u8 0, .int .u8 0, .int .u8 0, .int .u8 0, .int .u8 0, .int .u8 0, .int .u8 0, .int .u8 0, .int .u8 0, .int .u8 0, .int .u8 0, .int .u8 0, .int .u8 0, .int .u8 0, .int .u8 0, .int .u8 0, .int .u8 0, .int .u8 0, .int .u8 0, .int .u8 0, .int .u8 0, .int .u8 0, .int .u8 0, .int .u8 0, .int .u8 0, .int .u8 0])⟩,
  none,
  none,
  none,
  some ⟨.array 32 5, 32, 32, some (.agg #[.int .u8 0, .int .u8 0, .int .u8 0, .int .u8 0, .int .u8 0, .int .u8 0, .int .u8 0, .int .u8 0, .int .u8 0, .int .u8 0, .int .u8 0, .int .u8 0, .int .u8 0, .int .u8 0, .int .u8 0, .int .u8 0, .int .u8 0, .int .u8 0, .int .u8 0, .int .u8 0, .int .u8 0, .int .u8 0, .int .u8 0, .int .u8 0, .int .u8 0, .int .u8 0, .int .u8 0, .int .u8 0, .int .u8 0, .int .u8 0, .int .u8 0, .int .u8 0])⟩,
  none,
  some ⟨.struct [(0, 17), (1, 17), (2, 17), (3, 9)], 4, 40, some (.agg #[.pointer none, .pointer none, .pointer none, .string ⟨#[]⟩])⟩,
  some ⟨.struct [(0, 17), (1, 17), (2, 17), (3, 9)], 4, 40, some (.agg #[.pointer none, .pointer none, .pointer none, .string ⟨#[]⟩])⟩,
  some ⟨.array 0 16, 0, 0, some (.agg #[])⟩,
  some ⟨.struct [(0, 149)], 0, 0, some (.agg #[])⟩,
  some ⟨.struct [(0, 149)], 0, 0, some (.agg #[])⟩,
  none,
  some ⟨.int .u8, 1, 1, some (.int .u8 0)⟩,
  some ⟨.int .u8, 1, 1, some (.int .u8 0)⟩,
  none,
  some ⟨.int .i32, 1, 4, some (.int .i32 0)⟩,
  some ⟨.int .i32, 1, 4, some (.int .i32 0)⟩,
  some ⟨.struct [(0, 12), (1, 12), (2, 135), (3, 153), (4, 5), (5, 5), (6, 154), (7, 155), (8, 86), (9, 156), (10, 157)], 11, 48, some (.agg #[.int .u64 0, .int .u64 0, .int .u32 0, .int .u8 0, .int .u8 0, .int .u8 0, .int .u8 0, .nilFunc, .pointer none, .int .i32 0, .int .i32 0])⟩,
  some ⟨.struct [(0, 12), (1, 12), (2, 135), (3, 153), (4, 5), (5, 5), (6, 154), (7, 155), (8, 86), (9, 156), (10, 157)], 11, 48, some (.agg #[.int .u64 0, .int .u64 0, .int .u32 0, .int .u8 0, .int .u8 0, .int .u8 0, .int .u8 0, .nilFunc, .pointer none, .int .i32 0, .int .i32 0])⟩]
def te : TE := teOf teL
theorem T : TEok Tryd.prog te := TEok_of (by kernel_rfl)
theorem mix : Tryd.prog.follows .mixedOrders = true := by kernel_rfl

def encInt (x : Int) : List D := [.v (.int .i64 x)]
def encBool (x : Bool) : List D := [.v (.bool x)]
def encStr (x : ByteArray) : List D := [.v (.string x)]
def encInt_u8 (x : Int) : List D := [.v (.int .u8 x)]
def encInt_u64 (x : Int) : List D := [.v (.int .u64 x)]
def encInt_i32 (x : Int) : List D := [.v (.int .i32 x)]
def encLBool (x : List Bool) : List D := [.s (x.map encBool)]
def encLBoolO (x : List Bool) : List D := [.w 1 (x.map encBool)]
theorem frzLBool (x : List Bool) : FrzL (encLBoolO x) (encLBool x) := .cons (.map fun y => .vs rfl) .nil
structure Item where
  names : List ByteArray
  marks : List Int
  late : Bool
  deriving Inhabited, DecidableEq
def encItem (x : Item) : List D := [.s (x.names.map encStr), .s (x.marks.map encInt), .v (.bool x.late)]
def encItemO (x : Item) : List D := [.w 1 (x.names.map encStr), .w 1 (x.marks.map encInt), .v (.bool x.late)]
theorem frzItem (x : Item) : FrzL (encItemO x) (encItem x) := .cons (.map fun y => .vs rfl) (.cons (.map fun y => .vs rfl) (.cons (.vs rfl) (.nil)))
structure Change where
  tick : Int
  caller : Int
  item : Int
  name : Int
  mark : Int
  review : Bool
  deriving Inhabited, DecidableEq
def encChange (x : Change) : List D := [.v (.int .i64 x.tick), .v (.int .i64 x.caller), .v (.int .i64 x.item), .v (.int .i64 x.name), .v (.int .i64 x.mark), .v (.bool x.review)]
structure HiState where
  items : List Item
  open' : List (List Bool)
  deriving Inhabited, DecidableEq
def encHiState (x : HiState) : List D := [.s (x.items.map encItem), .s (x.open'.map encLBool)]
def encHiStateO (x : HiState) : List D := [.w 3 (x.items.map encItemO), .w 1 (x.open'.map encLBoolO)]
theorem frzHiState (x : HiState) : FrzL (encHiStateO x) (encHiState x) := .cons (.map fun y => frzItem y) (.cons (.map fun y => frzLBool y) (.nil))
structure HistoryState where
  items : List Item
  open' : MapL
  deriving Inhabited, DecidableEq
def encHistoryState (x : HistoryState) : List D := [.s (x.items.map encItem), .mi (encMe x.open')]
def encHistoryStateO (x : HistoryState) : List D := [.w 3 (x.items.map encItemO), .mw (encMe x.open')]
theorem frzHistoryState (x : HistoryState) : FrzL (encHistoryStateO x) (encHistoryState x) := .cons (.map fun y => frzItem y) (.cons (.mw) (.nil))
theorem mapT0 : MapT Tryd.prog 98 114 4 3 := ⟨by kernel_rfl, ⟨by kernel_rfl, by kernel_rfl, by kernel_rfl, by kernel_rfl⟩, by kernel_rfl, ⟨159, by kernel_rfl⟩⟩

def laws_szStringS_l1 : List ByteArray → Nat → Int → Option Int
  | [], k1, v8 =>
    some v8
  | y2 :: ys3, k1, v8 =>
    cond (decide ((w64 (v8 - (y2.size : Int))) < 0))
      (some (-1))
      (laws_szStringS_l1 ys3 (k1 + 1) (w64 (v8 - (y2.size : Int))))
def laws_szStringS_p (a : List ByteArray) (left : Int) : Option Int :=
  cond (decide ((w64 (left - (a.length : Int))) < 0))
    (some (-1))
    (laws_szStringS_l1 a 0 (w64 (left - (a.length : Int))))
theorem laws_szStringS_ok (a : List ByteArray) (left : Int) (r : Int) (hH : laws_szStringS_p a left = some r) : SpecR Tryd.prog 42 [.s (List.map encStr a), left] (.v (.int .i64 r)) := by
 refine fn_ok T Tryd.func42 rfl (by decide) rfl ?_
 refine AW.seq (AW.region ?_)
 refine AO.pu T ?_
 refine AO.nil (AW.seq ?_)
 refine AW.region ?_
 iterate 2 refine AO.pu T ?_
 refine AO.val rfl rfl (len_map_ok T rfl rfl rfl) ?_
 refine AO.val rfl rfl (arw_ok rfl rfl rfl rfl) ?_
 refine AO.pu T ?_
 refine AO.nil ?_
 iterate 2 refine AW.seq ?_
 refine AW.region ?_
 iterate 2 refine AO.pu T ?_
 refine AO.nil ?_
 refine AW.cond (b := decide ((w64 (left - (a.length : Int))) < 0)) rfl (fun hc => ?_) (fun hc => ?_)
 replace hH := condT hc hH
 refine AW.seq (AW.region ?_)
 refine AO.pu T ?_
 refine AO.nil (AW.ret ?_)
 have hR := someE hH; subst hR
 exact retQ.i [] rfl (.c (.c .v))
 replace hH := condF hc hH
 refine AW.skip ?_
 iterate 2 refine AW.seq ?_
 refine AW.region ?_
 refine AO.pu T ?_
 refine AO.nil ?_
 refine AW.block ?_
 refine AW.loopS (fun s : Nat × Int => (⟨[(0, .s (List.map encStr a)), (1, s.2), (5, (s.1 : Int))], [], 28, []⟩ : St)) (fun s => s.1 ≤ a.length ∧ laws_szStringS_l1 (a.drop s.1) s.1 s.2 = some r) (fun s => a.length - s.1) (0, w64 (left - (a.length : Int))) ⟨Nat.zero_le _, hH⟩ ?_ ?_
 exact Le.ct 0 0
 rintro ⟨k1, v8⟩ ⟨hk, hH⟩
 replace hH : laws_szStringS_l1 (a.drop k1) k1 v8 = some r := hH
 try dsimp only
 refine AW.boundM (t := 0) (l := a) rfl (fun hb5 => ?_)
 rcases hd4 : a.drop k1 with _ | ⟨y2, ys3⟩
 rw [hd4, laws_szStringS_l1] at hH
 have hlt6 := drop_ge hd4
 iterate 2 refine AW.seq ?_
 refine AW.region ?_
 iterate 2 refine AO.pu T ?_
 refine AO.val rfl rfl (len_map_ok T rfl rfl rfl) ?_
 refine AO.pu T ?_
 refine AO.nil ?_
 refine AW.condF' (b := decide ((k1 : Int) < (a.length : Int))) rfl (rngF hlt6) ?_
 refine AW.exit ?_
 refine AW.seq (AW.region ?_)
 iterate 2 refine AO.pu T ?_
 refine AO.nil (AW.ret ?_)
 have hR := someE hH; subst hR
 exact retQ.i [] rfl (.c (.c .v))
 rw [hd4, laws_szStringS_l1] at hH
 have hlt6 := drop_lt hd4
 iterate 2 refine AW.seq ?_
 refine AW.region ?_
 iterate 2 refine AO.pu T ?_
 refine AO.val rfl rfl (len_map_ok T rfl rfl rfl) ?_
 refine AO.pu T ?_
 refine AO.nil ?_
 refine AW.condT' (b := decide ((k1 : Int) < (a.length : Int))) rfl (rngT hlt6) ?_
 refine AW.skip ?_
 refine AW.seq ?_
 refine AW.block ?_
 refine AW.seq (AW.region ?_)
 iterate 3 refine AO.pu T ?_
 refine AO.val rfl rfl (ix_map_ok T rfl rfl rfl rfl rfl (getI_drop hd4) rfl) ?_
 iterate 2 refine AO.pu T ?_
 refine AO.val rfl rfl (arw_ok rfl rfl rfl rfl) ?_
 refine AO.pu T ?_
 refine AO.nil (AW.seq ?_)
 refine AW.region ?_
 iterate 2 refine AO.pu T ?_
 refine AO.nil ?_
 refine AW.cond (b := decide ((w64 (v8 - (y2.size : Int))) < 0)) rfl (fun hc => ?_) (fun hc => ?_)
 replace hH := condT hc hH
 refine AW.seq (AW.region ?_)
 refine AO.pu T ?_
 refine AO.nil (AW.ret ?_)
 have hR := someE hH; subst hR
 exact retQ.i [] rfl (.c (.c .v))
 replace hH := condF hc hH
 refine AW.skip ?_
 refine AW.region ?_
 refine AO.pu T ?_
 refine AO.val rfl rfl (ar_ok rfl rfl rfl rfl (inI_succ hlt6 hb5)) ?_
 refine AO.pu T ?_
 refine AO.nil ?_
 refine ⟨(k1 + 1, w64 (v8 - (y2.size : Int))), ⟨Nat.succ_le_of_lt hlt6, (by rw [drop_succ_of hd4]; exact hH)⟩, (by have := hlt6; dsimp only; omega), ?_⟩
 exact Le.ct 0 0

def laws_szIntS_p (a : List Int) (left : Int) : Option Int :=
  cond (decide ((w64 (left - (a.length : Int))) < 0))
    (some (-1))
    (some (w64 (left - (a.length : Int))))
theorem laws_szIntS_ok (a : List Int) (left : Int) (r : Int) (hH : laws_szIntS_p a left = some r) : SpecR Tryd.prog 43 [.s (List.map encInt a), left] (.v (.int .i64 r)) := by
 refine fn_ok T Tryd.func43 rfl (by decide) rfl ?_
 refine AW.seq (AW.region ?_)
 refine AO.pu T ?_
 refine AO.nil (AW.seq ?_)
 refine AW.region ?_
 iterate 2 refine AO.pu T ?_
 refine AO.val rfl rfl (len_map_ok T rfl rfl rfl) ?_
 refine AO.val rfl rfl (arw_ok rfl rfl rfl rfl) ?_
 refine AO.pu T ?_
 refine AO.nil ?_
 iterate 2 refine AW.seq ?_
 refine AW.region ?_
 iterate 2 refine AO.pu T ?_
 refine AO.nil ?_
 refine AW.cond (b := decide ((w64 (left - (a.length : Int))) < 0)) rfl (fun hc => ?_) (fun hc => ?_)
 replace hH := condT hc hH
 refine AW.seq (AW.region ?_)
 refine AO.pu T ?_
 refine AO.nil (AW.ret ?_)
 have hR := someE hH; subst hR
 exact retQ.i [] rfl (.c (.c .v))
 replace hH := condF hc hH
 refine AW.skip ?_
 refine AW.seq (AW.region ?_)
 iterate 2 refine AO.pu T ?_
 refine AO.nil (AW.ret ?_)
 have hR := someE hH; subst hR
 exact retQ.i [] rfl (.c (.c .v))

def laws_szItem_p (a : Item) (left : Int) : Option Int :=
  (laws_szStringS_p a.names left).bind fun x1 =>
  cond (decide (x1 < 0))
    (some (-1))
    ((laws_szIntS_p a.marks x1).bind fun x3 =>
    cond (decide (x3 < 0))
      (some (-1))
      (some x3))
theorem laws_szItem_ok (a : Item) (left : Int) (r : Int) (hH : laws_szItem_p a left = some r) : SpecR Tryd.prog 18 [.g (encItem a), left] (.v (.int .i64 r)) := by
 refine fn_ok T Tryd.func18 rfl (by decide) rfl ?_
 refine AW.seq (AW.region ?_)
 refine AO.step rfl (box_ok T rfl 1 rfl rfl rfl rfl) ?_
 refine AO.pu T ?_
 refine AO.nil (AW.seq ?_)
 obtain ⟨x1, hx2, hH⟩ := bindE hH
 refine AW.region ?_
 iterate 3 refine AO.pu T ?_
 refine AO.val rfl rfl (callV_ok rfl rfl rfl rfl (laws_szStringS_ok _ _ _ (hx2)) rfl) ?_
 refine AO.pu T ?_
 refine AO.nil ?_
 iterate 2 refine AW.seq ?_
 refine AW.region ?_
 iterate 2 refine AO.pu T ?_
 refine AO.nil ?_
 refine AW.cond (b := decide (x1 < 0)) rfl (fun hc => ?_) (fun hc => ?_)
 replace hH := condT hc hH
 refine AW.seq (AW.region ?_)
 refine AO.pu T ?_
 refine AO.nil (AW.ret ?_)
 have hR := someE hH; subst hR
 exact retQ.i [] rfl (.c (.c .v))
 replace hH := condF hc hH
 refine AW.skip ?_
 refine AW.seq ?_
 obtain ⟨x3, hx4, hH⟩ := bindE hH
 refine AW.region ?_
 iterate 3 refine AO.pu T ?_
 refine AO.val rfl rfl (callV_ok rfl rfl rfl rfl (laws_szIntS_ok _ _ _ (hx4)) rfl) ?_
 refine AO.pu T ?_
 refine AO.nil ?_
 iterate 2 refine AW.seq ?_
 refine AW.region ?_
 iterate 2 refine AO.pu T ?_
 refine AO.nil ?_
 refine AW.cond (b := decide (x3 < 0)) rfl (fun hc => ?_) (fun hc => ?_)
 replace hH := condT hc hH
 refine AW.seq (AW.region ?_)
 refine AO.pu T ?_
 refine AO.nil (AW.ret ?_)
 have hR := someE hH; subst hR
 exact retQ.i [] rfl (.c (.c .v))
 replace hH := condF hc hH
 refine AW.skip ?_
 refine AW.seq (AW.region ?_)
 iterate 2 refine AO.pu T ?_
 refine AO.nil (AW.ret ?_)
 have hR := someE hH; subst hR
 exact retQ.i [] rfl (.c (.c .v))

def laws_szItemS_l1 : List Item → Nat → Int → Option Int
  | [], k1, v12 =>
    some v12
  | y2 :: ys3, k1, v12 =>
    (laws_szItem_p y2 v12).bind fun x14 =>
    cond (decide (x14 < 0))
      (some (-1))
      (laws_szItemS_l1 ys3 (k1 + 1) x14)
def laws_szItemS_p (a : List Item) (left : Int) : Option Int :=
  cond (decide ((w64 (left - (a.length : Int))) < 0))
    (some (-1))
    (laws_szItemS_l1 a 0 (w64 (left - (a.length : Int))))
theorem laws_szItemS_ok (a : List Item) (left : Int) (r : Int) (hH : laws_szItemS_p a left = some r) : SpecR Tryd.prog 5 [.s (List.map encItem a), left] (.v (.int .i64 r)) := by
 refine fn_ok T Tryd.func5 rfl (by decide) rfl ?_
 refine AW.seq (AW.region ?_)
 refine AO.pu T ?_
 refine AO.nil (AW.seq ?_)
 refine AW.region ?_
 iterate 2 refine AO.pu T ?_
 refine AO.val rfl rfl (len_map_ok T rfl rfl rfl) ?_
 refine AO.val rfl rfl (arw_ok rfl rfl rfl rfl) ?_
 refine AO.pu T ?_
 refine AO.nil ?_
 iterate 2 refine AW.seq ?_
 refine AW.region ?_
 iterate 2 refine AO.pu T ?_
 refine AO.nil ?_
 refine AW.cond (b := decide ((w64 (left - (a.length : Int))) < 0)) rfl (fun hc => ?_) (fun hc => ?_)
 replace hH := condT hc hH
 refine AW.seq (AW.region ?_)
 refine AO.pu T ?_
 refine AO.nil (AW.ret ?_)
 have hR := someE hH; subst hR
 exact retQ.i [] rfl (.c (.c .v))
 replace hH := condF hc hH
 refine AW.skip ?_
 iterate 2 refine AW.seq ?_
 refine AW.region ?_
 refine AO.pu T ?_
 refine AO.nil ?_
 refine AW.block ?_
 refine AW.loopS (fun s : Nat × Int => (⟨[(0, .s (List.map encItem a)), (1, s.2), (5, (s.1 : Int))], [], 27, []⟩ : St)) (fun s => s.1 ≤ a.length ∧ laws_szItemS_l1 (a.drop s.1) s.1 s.2 = some r) (fun s => a.length - s.1) (0, w64 (left - (a.length : Int))) ⟨Nat.zero_le _, hH⟩ ?_ ?_
 exact Le.ct 0 0
 rintro ⟨k1, v12⟩ ⟨hk, hH⟩
 replace hH : laws_szItemS_l1 (a.drop k1) k1 v12 = some r := hH
 try dsimp only
 refine AW.boundM (t := 0) (l := a) rfl (fun hb5 => ?_)
 rcases hd4 : a.drop k1 with _ | ⟨y2, ys3⟩
 rw [hd4, laws_szItemS_l1] at hH
 have hlt6 := drop_ge hd4
 iterate 2 refine AW.seq ?_
 refine AW.region ?_
 iterate 2 refine AO.pu T ?_
 refine AO.val rfl rfl (len_map_ok T rfl rfl rfl) ?_
 refine AO.pu T ?_
 refine AO.nil ?_
 refine AW.condF' (b := decide ((k1 : Int) < (a.length : Int))) rfl (rngF hlt6) ?_
 refine AW.exit ?_
 refine AW.seq (AW.region ?_)
 iterate 2 refine AO.pu T ?_
 refine AO.nil (AW.ret ?_)
 have hR := someE hH; subst hR
 exact retQ.i [] rfl (.c (.c .v))
 rw [hd4, laws_szItemS_l1] at hH
 have hlt6 := drop_lt hd4
 iterate 2 refine AW.seq ?_
 refine AW.region ?_
 iterate 2 refine AO.pu T ?_
 refine AO.val rfl rfl (len_map_ok T rfl rfl rfl) ?_
 refine AO.pu T ?_
 refine AO.nil ?_
 refine AW.condT' (b := decide ((k1 : Int) < (a.length : Int))) rfl (rngT hlt6) ?_
 refine AW.skip ?_
 refine AW.seq ?_
 refine AW.block ?_
 refine AW.seq ?_
 obtain ⟨x14, hx15, hH⟩ := bindE hH
 refine AW.region ?_
 iterate 2 refine AO.pu T ?_
 refine AO.val rfl rfl (ix_map_ok T rfl rfl rfl rfl rfl (getI_drop hd4) rfl) ?_
 refine AO.pu T (d := .g [.s (List.map encStr y2.names), .s (List.map encInt y2.marks), .v (.bool y2.late)]) ?_
 refine AO.pu T ?_
 refine AO.val rfl rfl (callV_ok rfl rfl rfl rfl (laws_szItem_ok _ _ _ (hx15)) rfl) ?_
 refine AO.pu T ?_
 refine AO.nil (AW.seq ?_)
 refine AW.region ?_
 iterate 2 refine AO.pu T ?_
 refine AO.nil ?_
 refine AW.cond (b := decide (x14 < 0)) rfl (fun hc => ?_) (fun hc => ?_)
 replace hH := condT hc hH
 refine AW.seq (AW.region ?_)
 refine AO.pu T ?_
 refine AO.nil (AW.ret ?_)
 have hR := someE hH; subst hR
 exact retQ.i [] rfl (.c (.c .v))
 replace hH := condF hc hH
 refine AW.skip ?_
 refine AW.region ?_
 refine AO.pu T ?_
 refine AO.val rfl rfl (ar_ok rfl rfl rfl rfl (inI_succ hlt6 hb5)) ?_
 refine AO.pu T ?_
 refine AO.nil ?_
 refine ⟨(k1 + 1, x14), ⟨Nat.succ_le_of_lt hlt6, (by rw [drop_succ_of hd4]; exact hH)⟩, (by have := hlt6; dsimp only; omega), ?_⟩
 exact Le.ct 0 0

def laws_szChangeS_p (a : List Change) (left : Int) : Option Int :=
  cond (decide ((w64 (left - (a.length : Int))) < 0))
    (some (-1))
    (some (w64 (left - (a.length : Int))))
theorem laws_szChangeS_ok (a : List Change) (left : Int) (r : Int) (hH : laws_szChangeS_p a left = some r) : SpecR Tryd.prog 6 [.s (List.map encChange a), left] (.v (.int .i64 r)) := by
 refine fn_ok T Tryd.func6 rfl (by decide) rfl ?_
 refine AW.seq (AW.region ?_)
 refine AO.pu T ?_
 refine AO.nil (AW.seq ?_)
 refine AW.region ?_
 iterate 2 refine AO.pu T ?_
 refine AO.val rfl rfl (len_map_ok T rfl rfl rfl) ?_
 refine AO.val rfl rfl (arw_ok rfl rfl rfl rfl) ?_
 refine AO.pu T ?_
 refine AO.nil ?_
 iterate 2 refine AW.seq ?_
 refine AW.region ?_
 iterate 2 refine AO.pu T ?_
 refine AO.nil ?_
 refine AW.cond (b := decide ((w64 (left - (a.length : Int))) < 0)) rfl (fun hc => ?_) (fun hc => ?_)
 replace hH := condT hc hH
 refine AW.seq (AW.region ?_)
 refine AO.pu T ?_
 refine AO.nil (AW.ret ?_)
 have hR := someE hH; subst hR
 exact retQ.i [] rfl (.c (.c .v))
 replace hH := condF hc hH
 refine AW.skip ?_
 refine AW.seq (AW.region ?_)
 iterate 2 refine AO.pu T ?_
 refine AO.nil (AW.ret ?_)
 have hR := someE hH; subst hR
 exact retQ.i [] rfl (.c (.c .v))

def laws_toStringS_l1 : List ByteArray → Nat → List ByteArray → Option ((List ByteArray))
  | [], k3, v14 =>
    some v14
  | y4 :: ys5, k3, v14 =>
    (getI v14 (k3 : Int)).bind fun x16 =>
    laws_toStringS_l1 ys5 (k3 + 1) (v14.set ((k3 : Int).toNat) y4)
def laws_toStringS_p (a : List ByteArray) : Option (List ByteArray) :=
  (need (decide (0 ≤ (a.length : Int)) && fitsB 16 (a.length : Int).toNat)).bind fun u1 =>
  laws_toStringS_l1 a 0 (List.replicate (a.length : Int).toNat (⟨#[]⟩ : ByteArray))
theorem laws_toStringS_ok (a : List ByteArray) (r : (List ByteArray)) (hH : laws_toStringS_p a = some r) : SpecR Tryd.prog 45 [.s (List.map encStr a)] (.w 1 (r.map encStr)) := by
 refine fn_ok T Tryd.func45 rfl (by decide) rfl ?_
 refine AW.seq (AW.region ?_)
 refine AO.pu T ?_
 refine AO.nil (AW.seq ?_)
 obtain ⟨u1, hx2, hH⟩ := bindE hH
 refine AW.region ?_
 refine AO.pu T ?_
 refine AO.val rfl rfl (len_map_ok T rfl rfl rfl) ?_
 refine AO.step rfl (make_map_ok T rfl 1 rfl rfl rfl rfl rfl (f := encStr) (zo := (⟨#[]⟩ : ByteArray)) (by repeat constructor) (by decide) rfl rfl (Bool.and_eq_true_iff.1 (needT (hx2))).1 (Bool.and_eq_true_iff.1 (needT (hx2))).2 rfl rfl) ?_
 refine AO.pu T ?_
 refine AO.nil ?_
 iterate 2 refine AW.seq ?_
 refine AW.region ?_
 refine AO.pu T ?_
 refine AO.nil ?_
 refine AW.block ?_
 refine AW.loopS (fun s : Nat × (List ByteArray) => (⟨[(0, .s (List.map encStr a)), (3, .R 1), (4, (s.1 : Int))], [(1, .row 1 (List.map encStr s.2))], 22, []⟩ : St)) (fun s => s.1 ≤ a.length ∧ laws_toStringS_l1 (a.drop s.1) s.1 s.2 = some r) (fun s => a.length - s.1) (0, (List.replicate (a.length : Int).toNat (⟨#[]⟩ : ByteArray))) ⟨Nat.zero_le _, hH⟩ ?_ ?_
 exact Le.ct 0 0
 rintro ⟨k3, v14⟩ ⟨hk, hH⟩
 replace hH : laws_toStringS_l1 (a.drop k3) k3 v14 = some r := hH
 try dsimp only
 refine AW.boundM (t := 0) (l := a) rfl (fun hb7 => ?_)
 rcases hd6 : a.drop k3 with _ | ⟨y4, ys5⟩
 rw [hd6, laws_toStringS_l1] at hH
 have hlt8 := drop_ge hd6
 iterate 2 refine AW.seq ?_
 refine AW.region ?_
 iterate 2 refine AO.pu T ?_
 refine AO.val rfl rfl (len_map_ok T rfl rfl rfl) ?_
 refine AO.pu T ?_
 refine AO.nil ?_
 refine AW.condF' (b := decide ((k3 : Int) < (a.length : Int))) rfl (rngF hlt8) ?_
 refine AW.exit ?_
 refine AW.seq (AW.region ?_)
 iterate 2 refine AO.pu T ?_
 refine AO.nil (AW.ret ?_)
 have hR := someE hH; subst hR
 exact retQ.i [1] rfl (.c (.c (.rowR rfl)))
 rw [hd6, laws_toStringS_l1] at hH
 have hlt8 := drop_lt hd6
 iterate 2 refine AW.seq ?_
 refine AW.region ?_
 iterate 2 refine AO.pu T ?_
 refine AO.val rfl rfl (len_map_ok T rfl rfl rfl) ?_
 refine AO.pu T ?_
 refine AO.nil ?_
 refine AW.condT' (b := decide ((k3 : Int) < (a.length : Int))) rfl (rngT hlt8) ?_
 refine AW.skip ?_
 refine AW.seq ?_
 refine AW.block ?_
 obtain ⟨x16, hx17, hH⟩ := bindE hH
 refine AW.region ?_
 iterate 4 refine AO.pu T ?_
 refine AO.val rfl rfl (ix_map_ok T rfl rfl rfl rfl rfl (getI_drop hd6) rfl) ?_
 refine AO.pu T ?_
 refine AO.val rfl rfl (ix_row_ok T rfl rfl rfl rfl rfl rfl (hx17)) ?_
 refine AO.step rfl (store_row_ok T rfl rfl rfl rfl rfl (getI_get (hx17)) rfl rfl rfl rfl (u' := y4) rfl rfl) ?_
 refine AO.nil ?_
 refine AW.region ?_
 refine AO.pu T ?_
 refine AO.val rfl rfl (ar_ok rfl rfl rfl rfl (inI_succ hlt8 hb7)) ?_
 refine AO.pu T ?_
 refine AO.nil ?_
 refine ⟨(k3 + 1, (v14.set ((k3 : Int).toNat) y4)), ⟨Nat.succ_le_of_lt hlt8, (by rw [drop_succ_of hd6]; exact hH)⟩, (by have := hlt8; dsimp only; omega), ?_⟩
 exact Le.ct 0 0

def laws_toIntS_l1 : List Int → Nat → List Int → Option ((List Int))
  | [], k3, v14 =>
    some v14
  | y4 :: ys5, k3, v14 =>
    (getI v14 (k3 : Int)).bind fun x16 =>
    laws_toIntS_l1 ys5 (k3 + 1) (v14.set ((k3 : Int).toNat) y4)
def laws_toIntS_p (a : List Int) : Option (List Int) :=
  (need (decide (0 ≤ (a.length : Int)) && fitsB 8 (a.length : Int).toNat)).bind fun u1 =>
  laws_toIntS_l1 a 0 (List.replicate (a.length : Int).toNat (0 : Int))
theorem laws_toIntS_ok (a : List Int) (r : (List Int)) (hH : laws_toIntS_p a = some r) : SpecR Tryd.prog 46 [.s (List.map encInt a)] (.w 1 (r.map encInt)) := by
 refine fn_ok T Tryd.func46 rfl (by decide) rfl ?_
 refine AW.seq (AW.region ?_)
 refine AO.pu T ?_
 refine AO.nil (AW.seq ?_)
 obtain ⟨u1, hx2, hH⟩ := bindE hH
 refine AW.region ?_
 refine AO.pu T ?_
 refine AO.val rfl rfl (len_map_ok T rfl rfl rfl) ?_
 refine AO.step rfl (make_map_ok T rfl 1 rfl rfl rfl rfl rfl (f := encInt) (zo := 0) (by repeat constructor) (by decide) rfl rfl (Bool.and_eq_true_iff.1 (needT (hx2))).1 (Bool.and_eq_true_iff.1 (needT (hx2))).2 rfl rfl) ?_
 refine AO.pu T ?_
 refine AO.nil ?_
 iterate 2 refine AW.seq ?_
 refine AW.region ?_
 refine AO.pu T ?_
 refine AO.nil ?_
 refine AW.block ?_
 refine AW.loopS (fun s : Nat × (List Int) => (⟨[(0, .s (List.map encInt a)), (3, .R 1), (4, (s.1 : Int))], [(1, .row 1 (List.map encInt s.2))], 22, []⟩ : St)) (fun s => s.1 ≤ a.length ∧ laws_toIntS_l1 (a.drop s.1) s.1 s.2 = some r) (fun s => a.length - s.1) (0, (List.replicate (a.length : Int).toNat (0 : Int))) ⟨Nat.zero_le _, hH⟩ ?_ ?_
 exact Le.ct 0 0
 rintro ⟨k3, v14⟩ ⟨hk, hH⟩
 replace hH : laws_toIntS_l1 (a.drop k3) k3 v14 = some r := hH
 try dsimp only
 refine AW.boundM (t := 0) (l := a) rfl (fun hb7 => ?_)
 rcases hd6 : a.drop k3 with _ | ⟨y4, ys5⟩
 rw [hd6, laws_toIntS_l1] at hH
 have hlt8 := drop_ge hd6
 iterate 2 refine AW.seq ?_
 refine AW.region ?_
 iterate 2 refine AO.pu T ?_
 refine AO.val rfl rfl (len_map_ok T rfl rfl rfl) ?_
 refine AO.pu T ?_
 refine AO.nil ?_
 refine AW.condF' (b := decide ((k3 : Int) < (a.length : Int))) rfl (rngF hlt8) ?_
 refine AW.exit ?_
 refine AW.seq (AW.region ?_)
 iterate 2 refine AO.pu T ?_
 refine AO.nil (AW.ret ?_)
 have hR := someE hH; subst hR
 exact retQ.i [1] rfl (.c (.c (.rowR rfl)))
 rw [hd6, laws_toIntS_l1] at hH
 have hlt8 := drop_lt hd6
 iterate 2 refine AW.seq ?_
 refine AW.region ?_
 iterate 2 refine AO.pu T ?_
 refine AO.val rfl rfl (len_map_ok T rfl rfl rfl) ?_
 refine AO.pu T ?_
 refine AO.nil ?_
 refine AW.condT' (b := decide ((k3 : Int) < (a.length : Int))) rfl (rngT hlt8) ?_
 refine AW.skip ?_
 refine AW.seq ?_
 refine AW.block ?_
 obtain ⟨x16, hx17, hH⟩ := bindE hH
 refine AW.region ?_
 iterate 4 refine AO.pu T ?_
 refine AO.val rfl rfl (ix_map_ok T rfl rfl rfl rfl rfl (getI_drop hd6) rfl) ?_
 refine AO.pu T ?_
 refine AO.val rfl rfl (ix_row_ok T rfl rfl rfl rfl rfl rfl (hx17)) ?_
 refine AO.step rfl (store_row_ok T rfl rfl rfl rfl rfl (getI_get (hx17)) rfl rfl rfl rfl (u' := y4) rfl rfl) ?_
 refine AO.nil ?_
 refine AW.region ?_
 refine AO.pu T ?_
 refine AO.val rfl rfl (ar_ok rfl rfl rfl rfl (inI_succ hlt8 hb7)) ?_
 refine AO.pu T ?_
 refine AO.nil ?_
 refine ⟨(k3 + 1, (v14.set ((k3 : Int).toNat) y4)), ⟨Nat.succ_le_of_lt hlt8, (by rw [drop_succ_of hd6]; exact hH)⟩, (by have := hlt8; dsimp only; omega), ?_⟩
 exact Le.ct 0 0

def laws_toItem_p (a : Item) : Option Item :=
  (laws_toStringS_p a.names).bind fun x1 =>
  (laws_toIntS_p a.marks).bind fun x3 =>
  some (Item.mk x1 x3 a.late)
theorem laws_toItem_ok (a : Item) (r : Item) (hH : laws_toItem_p a = some r) : SpecR Tryd.prog 21 [.g (encItem a)] (.g (encItemO r)) := by
 refine fn_ok T Tryd.func21 rfl (by decide) rfl ?_
 refine AW.seq (AW.region ?_)
 refine AO.step rfl (box_ok T rfl 1 rfl rfl rfl rfl) ?_
 refine AO.step rfl (alloc_ok T rfl 2 rfl rfl rfl rfl rfl) ?_
 refine AO.nil (AW.seq ?_)
 refine AW.region ?_
 refine AO.step rfl (alloc_ok T rfl 3 rfl rfl rfl rfl rfl) ?_
 refine AO.nil (AW.seq ?_)
 obtain ⟨x1, hx2, hH⟩ := bindE hH
 refine AW.region ?_
 iterate 2 refine AO.pu T ?_
 refine AO.step rfl (call_ok rfl 4 rfl rfl rfl (laws_toStringS_ok _ _ (hx2)) rfl rfl rfl) ?_
 refine AO.pu T ?_
 refine AO.se T [.R 4, .w 0 [], .v (.bool false)] ?_
 refine AO.nil (AW.seq ?_)
 obtain ⟨x3, hx4, hH⟩ := bindE hH
 refine AW.region ?_
 iterate 2 refine AO.pu T ?_
 refine AO.step rfl (call_ok rfl 5 rfl rfl rfl (laws_toIntS_ok _ _ (hx4)) rfl rfl rfl) ?_
 refine AO.pu T ?_
 refine AO.se T [.R 4, .R 5, .v (.bool false)] ?_
 refine AO.nil (AW.seq ?_)
 refine AW.region ?_
 iterate 3 refine AO.pu T ?_
 refine AO.se T [.R 4, .R 5, .v (.bool a.late)] ?_
 refine AO.nil (AW.seq ?_)
 refine AW.region ?_
 refine AO.pu T (d := .g [.R 4, .R 5, .v (.bool a.late)]) ?_
 refine AO.se T [.R 4, .R 5, .v (.bool a.late)] ?_
 refine AO.nil (AW.ret ?_)
 have hR := someE hH; subst hR
 exact retQ.i [4, 5] rfl (.c (.g (expLC_cons (.rowR rfl) (expLC_cons (.rowR rfl) (expLC_cons .v (expLC_nil))))))

def laws_toItemS_l1 : List Item → Nat → List Item → Option ((List Item))
  | [], k3, v18 =>
    some v18
  | y4 :: ys5, k3, v18 =>
    (laws_toItem_p y4).bind fun x20 =>
    (getI v18 (k3 : Int)).bind fun x22 =>
    laws_toItemS_l1 ys5 (k3 + 1) (v18.set ((k3 : Int).toNat) x20)
def laws_toItemS_p (a : List Item) : Option (List Item) :=
  (need (decide (0 ≤ (a.length : Int)) && fitsB 56 (a.length : Int).toNat)).bind fun u1 =>
  laws_toItemS_l1 a 0 (List.replicate (a.length : Int).toNat (Item.mk [] [] false))
theorem laws_toItemS_ok (a : List Item) (r : (List Item)) (hH : laws_toItemS_p a = some r) : SpecR Tryd.prog 8 [.s (List.map encItem a)] (.w 3 (r.map encItemO)) := by
 refine fn_ok T Tryd.func8 rfl (by decide) rfl ?_
 refine AW.seq (AW.region ?_)
 refine AO.pu T ?_
 refine AO.nil (AW.seq ?_)
 obtain ⟨u1, hx2, hH⟩ := bindE hH
 refine AW.region ?_
 refine AO.pu T ?_
 refine AO.val rfl rfl (len_map_ok T rfl rfl rfl) ?_
 refine AO.step rfl (make_map_ok T rfl 1 rfl rfl rfl rfl rfl (f := encItemO) (zo := (Item.mk [] [] false)) (by repeat constructor) (by decide) rfl rfl (Bool.and_eq_true_iff.1 (needT (hx2))).1 (Bool.and_eq_true_iff.1 (needT (hx2))).2 rfl rfl) ?_
 refine AO.pu T ?_
 refine AO.nil ?_
 iterate 2 refine AW.seq ?_
 refine AW.region ?_
 refine AO.pu T ?_
 refine AO.nil ?_
 refine AW.block ?_
 refine AW.loopS (fun s : Nat × (List Item) => (⟨[(0, .s (List.map encItem a)), (3, .R 1), (4, (s.1 : Int))], [(1, .row 3 (List.map encItemO s.2))], 23, []⟩ : St)) (fun s => s.1 ≤ a.length ∧ laws_toItemS_l1 (a.drop s.1) s.1 s.2 = some r) (fun s => a.length - s.1) (0, (List.replicate (a.length : Int).toNat (Item.mk [] [] false))) ⟨Nat.zero_le _, hH⟩ ?_ ?_
 exact Le.ct 0 0
 rintro ⟨k3, v18⟩ ⟨hk, hH⟩
 replace hH : laws_toItemS_l1 (a.drop k3) k3 v18 = some r := hH
 try dsimp only
 refine AW.boundM (t := 0) (l := a) rfl (fun hb7 => ?_)
 rcases hd6 : a.drop k3 with _ | ⟨y4, ys5⟩
 rw [hd6, laws_toItemS_l1] at hH
 have hlt8 := drop_ge hd6
 iterate 2 refine AW.seq ?_
 refine AW.region ?_
 iterate 2 refine AO.pu T ?_
 refine AO.val rfl rfl (len_map_ok T rfl rfl rfl) ?_
 refine AO.pu T ?_
 refine AO.nil ?_
 refine AW.condF' (b := decide ((k3 : Int) < (a.length : Int))) rfl (rngF hlt8) ?_
 refine AW.exit ?_
 refine AW.seq (AW.region ?_)
 iterate 2 refine AO.pu T ?_
 refine AO.nil (AW.ret ?_)
 have hR := someE hH; subst hR
 exact retQ.i [1] rfl (.c (.c (.rowR rfl)))
 rw [hd6, laws_toItemS_l1] at hH
 have hlt8 := drop_lt hd6
 iterate 2 refine AW.seq ?_
 refine AW.region ?_
 iterate 2 refine AO.pu T ?_
 refine AO.val rfl rfl (len_map_ok T rfl rfl rfl) ?_
 refine AO.pu T ?_
 refine AO.nil ?_
 refine AW.condT' (b := decide ((k3 : Int) < (a.length : Int))) rfl (rngT hlt8) ?_
 refine AW.skip ?_
 refine AW.seq ?_
 refine AW.block ?_
 obtain ⟨x20, hx21, hH⟩ := bindE hH
 obtain ⟨x22, hx23, hH⟩ := bindE hH
 refine AW.region ?_
 iterate 4 refine AO.pu T ?_
 refine AO.val rfl rfl (ix_map_ok T rfl rfl rfl rfl rfl (getI_drop hd6) rfl) ?_
 refine AO.pu T (d := .g [.s (List.map encStr y4.names), .s (List.map encInt y4.marks), .v (.bool y4.late)]) ?_
 refine AO.step rfl (call_ok rfl 6 rfl rfl rfl (laws_toItem_ok _ _ (hx21)) rfl rfl rfl) ?_
 refine AO.val rfl rfl (ix_row_ok T rfl rfl rfl rfl rfl rfl (hx23)) ?_
 refine AO.step rfl (store_rowO_ok T (ids := [6, 7]) rfl rfl rfl rfl rfl (getI_get (hx23)) rfl (expLC_cons (.rowR rfl) (expLC_cons (.rowR rfl) (expLC_cons .v (expLC_nil)))) (by decide) rfl rfl (u' := x20) rfl rfl) ?_
 refine AO.nil ?_
 refine AW.region ?_
 refine AO.pu T ?_
 refine AO.val rfl rfl (ar_ok rfl rfl rfl rfl (inI_succ hlt8 hb7)) ?_
 refine AO.pu T ?_
 refine AO.nil ?_
 refine ⟨(k3 + 1, (v18.set ((k3 : Int).toNat) x20)), ⟨Nat.succ_le_of_lt hlt8, (by rw [drop_succ_of hd6]; exact hH)⟩, (by have := hlt8; dsimp only; omega), ?_⟩
 exact Le.ct 0 0

def laws_toChange_p (a : Change) : Option Change :=
  some a
theorem laws_toChange_ok (a : Change) (r : Change) (hH : laws_toChange_p a = some r) : SpecR Tryd.prog 22 [.g (encChange a)] (.g (encChange r)) := by
 refine fn_ok T Tryd.func22 rfl (by decide) rfl ?_
 refine AW.seq (AW.region ?_)
 refine AO.step rfl (box_ok T rfl 1 rfl rfl rfl rfl) ?_
 refine AO.step rfl (alloc_ok T rfl 2 rfl rfl rfl rfl rfl) ?_
 refine AO.nil (AW.seq ?_)
 refine AW.region ?_
 refine AO.step rfl (alloc_ok T rfl 3 rfl rfl rfl rfl rfl) ?_
 refine AO.nil (AW.seq ?_)
 refine AW.region ?_
 iterate 3 refine AO.pu T ?_
 refine AO.se T [a.tick, (0 : Int), (0 : Int), (0 : Int), (0 : Int), .v (.bool false)] ?_
 refine AO.nil (AW.seq ?_)
 refine AW.region ?_
 iterate 3 refine AO.pu T ?_
 refine AO.se T [a.tick, a.caller, (0 : Int), (0 : Int), (0 : Int), .v (.bool false)] ?_
 refine AO.nil (AW.seq ?_)
 refine AW.region ?_
 iterate 3 refine AO.pu T ?_
 refine AO.se T [a.tick, a.caller, a.item, (0 : Int), (0 : Int), .v (.bool false)] ?_
 refine AO.nil (AW.seq ?_)
 refine AW.region ?_
 iterate 3 refine AO.pu T ?_
 refine AO.se T [a.tick, a.caller, a.item, a.name, (0 : Int), .v (.bool false)] ?_
 refine AO.nil (AW.seq ?_)
 refine AW.region ?_
 iterate 3 refine AO.pu T ?_
 refine AO.se T [a.tick, a.caller, a.item, a.name, a.mark, .v (.bool false)] ?_
 refine AO.nil (AW.seq ?_)
 refine AW.region ?_
 iterate 3 refine AO.pu T ?_
 refine AO.se T [a.tick, a.caller, a.item, a.name, a.mark, .v (.bool a.review)] ?_
 refine AO.nil ?_
 refine AW.le (Le.ct 0 0 (σ' := (⟨[(2, .p 2 0), (3, .p 3 0)], [(2, .box [(0 : Int), (0 : Int), (0 : Int), (0 : Int), (0 : Int), .v (.bool false)]), (3, .box [a.tick, a.caller, a.item, a.name, a.mark, .v (.bool a.review)])], 23, []⟩ : St))) ?_
 refine AW.seq (AW.region ?_)
 refine AO.pu T (d := .g [a.tick, a.caller, a.item, a.name, a.mark, .v (.bool a.review)]) ?_
 refine AO.se T [a.tick, a.caller, a.item, a.name, a.mark, .v (.bool a.review)] ?_
 refine AO.nil (AW.ret ?_)
 have hR := someE hH; subst hR
 exact retQ.i [] rfl (.c (.g (expLC_cons .v (expLC_cons .v (expLC_cons .v (expLC_cons .v (expLC_cons .v (expLC_cons .v (expLC_nil)))))))))

def laws_toChangeS_l1 : List Change → Nat → List Change → Option ((List Change))
  | [], k3, v18 =>
    some v18
  | y4 :: ys5, k3, v18 =>
    (laws_toChange_p y4).bind fun x20 =>
    (getI v18 (k3 : Int)).bind fun x22 =>
    laws_toChangeS_l1 ys5 (k3 + 1) (v18.set ((k3 : Int).toNat) x20)
def laws_toChangeS_p (a : List Change) : Option (List Change) :=
  (need (decide (0 ≤ (a.length : Int)) && fitsB 48 (a.length : Int).toNat)).bind fun u1 =>
  laws_toChangeS_l1 a 0 (List.replicate (a.length : Int).toNat (Change.mk 0 0 0 0 0 false))
theorem laws_toChangeS_ok (a : List Change) (r : (List Change)) (hH : laws_toChangeS_p a = some r) : SpecR Tryd.prog 9 [.s (List.map encChange a)] (.w 6 (r.map encChange)) := by
 refine fn_ok T Tryd.func9 rfl (by decide) rfl ?_
 refine AW.seq (AW.region ?_)
 refine AO.pu T ?_
 refine AO.nil (AW.seq ?_)
 obtain ⟨u1, hx2, hH⟩ := bindE hH
 refine AW.region ?_
 refine AO.pu T ?_
 refine AO.val rfl rfl (len_map_ok T rfl rfl rfl) ?_
 refine AO.step rfl (make_map_ok T rfl 1 rfl rfl rfl rfl rfl (f := encChange) (zo := (Change.mk 0 0 0 0 0 false)) (by repeat constructor) (by decide) rfl rfl (Bool.and_eq_true_iff.1 (needT (hx2))).1 (Bool.and_eq_true_iff.1 (needT (hx2))).2 rfl rfl) ?_
 refine AO.pu T ?_
 refine AO.nil ?_
 iterate 2 refine AW.seq ?_
 refine AW.region ?_
 refine AO.pu T ?_
 refine AO.nil ?_
 refine AW.block ?_
 refine AW.loopS (fun s : Nat × (List Change) => (⟨[(0, .s (List.map encChange a)), (3, .R 1), (4, (s.1 : Int))], [(1, .row 6 (List.map encChange s.2))], 23, []⟩ : St)) (fun s => s.1 ≤ a.length ∧ laws_toChangeS_l1 (a.drop s.1) s.1 s.2 = some r) (fun s => a.length - s.1) (0, (List.replicate (a.length : Int).toNat (Change.mk 0 0 0 0 0 false))) ⟨Nat.zero_le _, hH⟩ ?_ ?_
 exact Le.ct 0 0
 rintro ⟨k3, v18⟩ ⟨hk, hH⟩
 replace hH : laws_toChangeS_l1 (a.drop k3) k3 v18 = some r := hH
 try dsimp only
 refine AW.boundM (t := 0) (l := a) rfl (fun hb7 => ?_)
 rcases hd6 : a.drop k3 with _ | ⟨y4, ys5⟩
 rw [hd6, laws_toChangeS_l1] at hH
 have hlt8 := drop_ge hd6
 iterate 2 refine AW.seq ?_
 refine AW.region ?_
 iterate 2 refine AO.pu T ?_
 refine AO.val rfl rfl (len_map_ok T rfl rfl rfl) ?_
 refine AO.pu T ?_
 refine AO.nil ?_
 refine AW.condF' (b := decide ((k3 : Int) < (a.length : Int))) rfl (rngF hlt8) ?_
 refine AW.exit ?_
 refine AW.seq (AW.region ?_)
 iterate 2 refine AO.pu T ?_
 refine AO.nil (AW.ret ?_)
 have hR := someE hH; subst hR
 exact retQ.i [1] rfl (.c (.c (.rowR rfl)))
 rw [hd6, laws_toChangeS_l1] at hH
 have hlt8 := drop_lt hd6
 iterate 2 refine AW.seq ?_
 refine AW.region ?_
 iterate 2 refine AO.pu T ?_
 refine AO.val rfl rfl (len_map_ok T rfl rfl rfl) ?_
 refine AO.pu T ?_
 refine AO.nil ?_
 refine AW.condT' (b := decide ((k3 : Int) < (a.length : Int))) rfl (rngT hlt8) ?_
 refine AW.skip ?_
 refine AW.seq ?_
 refine AW.block ?_
 obtain ⟨x20, hx21, hH⟩ := bindE hH
 obtain ⟨x22, hx23, hH⟩ := bindE hH
 refine AW.region ?_
 iterate 4 refine AO.pu T ?_
 refine AO.val rfl rfl (ix_map_ok T rfl rfl rfl rfl rfl (getI_drop hd6) rfl) ?_
 refine AO.pu T (d := .g [y4.tick, y4.caller, y4.item, y4.name, y4.mark, .v (.bool y4.review)]) ?_
 refine AO.val rfl rfl (callV_ok rfl rfl rfl rfl (laws_toChange_ok _ _ (hx21)) rfl) ?_
 refine AO.val rfl rfl (ix_row_ok T rfl rfl rfl rfl rfl rfl (hx23)) ?_
 refine AO.step rfl (store_row_ok T rfl rfl rfl rfl rfl (getI_get (hx23)) rfl rfl rfl rfl (u' := x20) rfl rfl) ?_
 refine AO.nil ?_
 refine AW.region ?_
 refine AO.pu T ?_
 refine AO.val rfl rfl (ar_ok rfl rfl rfl rfl (inI_succ hlt8 hb7)) ?_
 refine AO.pu T ?_
 refine AO.nil ?_
 refine ⟨(k3 + 1, (v18.set ((k3 : Int).toNat) x20)), ⟨Nat.succ_le_of_lt hlt8, (by rw [drop_succ_of hd6]; exact hH)⟩, (by have := hlt8; dsimp only; omega), ?_⟩
 exact Le.ct 0 0

def spec_itByte_p (b : Int) : Option Bool :=
  some ((decide (b ≥ 65) && decide (b ≤ 90)) || (decide (b ≥ 48) && decide (b ≤ 57)))
theorem spec_itByte_ok (b : Int) (r : Bool) (hH : spec_itByte_p b = some r) : SpecR Tryd.prog 85 [.v (.int .u8 b)] (.v (.bool r)) := by
 refine fn_ok T Tryd.func85 rfl (by decide) rfl ?_
 refine AW.seq (AW.region ?_)
 refine AO.pu T ?_
 refine AO.nil (AW.seq ?_)
 refine AW.region ?_
 iterate 3 refine AO.pu T ?_
 refine AO.pureG T [] rfl trivial rfl rfl ?_
 refine AO.pureG T [6] rfl ⟨fun h => h, trivial⟩ rfl rfl ?_
 refine AO.val rfl rfl (pick_and rfl rfl rfl rfl) ?_
 refine AO.pu T ?_
 refine AO.pureG T [] rfl trivial rfl rfl ?_
 refine AO.pureG T [10] rfl ⟨fun h => h, trivial⟩ rfl rfl ?_
 refine AO.pureG T [11] rfl ⟨fun h => h, trivial⟩ rfl rfl ?_
 refine AO.pureG T [] rfl trivial rfl rfl ?_
 refine AO.pureG T [13] rfl ⟨fun h => h, trivial⟩ rfl rfl ?_
 refine AO.guard [12] rfl ⟨fun h => h, trivial⟩ (fun hg => pick_and rfl rfl rfl (by rw [hg]; exact Bool.true_and _)) rfl ?_
 refine AO.val rfl rfl (pick_or rfl rfl rfl rfl) ?_
 refine AO.pu T ?_
 refine AO.nil (AW.ret ?_)
 have hR := someE hH; subst hR
 exact retQ.i [] rfl (.c (.c .v))

def spec_l1In_p (n : Int) (lo : Int) (hi : Int) : Option Bool :=
  some (decide (n ≥ lo) && decide (n ≤ hi))
theorem spec_l1In_ok (n : Int) (lo : Int) (hi : Int) (r : Bool) (hH : spec_l1In_p n lo hi = some r) : SpecR Tryd.prog 54 [n, lo, hi] (.v (.bool r)) := by
 refine fn_ok T Tryd.func54 rfl (by decide) rfl ?_
 refine AW.seq (AW.region ?_)
 refine AO.pu T ?_
 refine AO.nil (AW.seq ?_)
 refine AW.region ?_
 iterate 4 refine AO.pu T ?_
 iterate 2 refine AO.pureG T [] rfl trivial rfl rfl ?_
 refine AO.pureG T [11, 12] rfl ⟨fun h => h, fun h => h, trivial⟩ rfl rfl ?_
 refine AO.val rfl rfl (pick_and rfl rfl rfl rfl) ?_
 refine AO.pu T ?_
 refine AO.nil (AW.ret ?_)
 have hR := someE hH; subst hR
 exact retQ.i [] rfl (.c (.c .v))

def spec_itName_l1 (sA : ByteArray) : Nat → Int → Option Bool
  | 0, _ => none
  | k1 + 1, v11 =>
    cond (decide (v11 < (sA.size : Int)))
      ((strI sA v11).bind fun b13 =>
      (spec_itByte_p (b13.toNat : Int)).bind fun x15 =>
      cond (!x15)
        (some false)
        (spec_itName_l1 sA k1 (w64 (v11 + 1))))
      ((spec_l1In_p (sA.size : Int) 1 5).bind fun x17 =>
      some x17)
def spec_itName_p (fuel : Nat) (sA : ByteArray) : Option Bool :=
  spec_itName_l1 sA fuel 0
theorem spec_itName_ok (fuel : Nat) (sA : ByteArray) (r : Bool) (hH : spec_itName_p fuel sA = some r) : SpecR Tryd.prog 66 [.v (.string sA)] (.v (.bool r)) := by
 refine fn_ok T Tryd.func66 rfl (by decide) rfl ?_
 refine AW.seq (AW.region ?_)
 refine AO.pu T ?_
 refine AO.nil ?_
 iterate 2 refine AW.seq ?_
 refine AW.region ?_
 refine AO.pu T ?_
 refine AO.nil ?_
 refine AW.block ?_
 refine AW.loopS (fun s : Nat × Int => (⟨[(0, .v (.string sA)), (3, s.2)], [], 18, []⟩ : St)) (fun s => spec_itName_l1 sA s.1 s.2 = some r) (fun s => s.1) (fuel, 0) hH ?_ ?_
 exact Le.ct 0 0
 rintro ⟨k1, v11⟩ hH
 replace hH : spec_itName_l1 sA k1 v11 = some r := hH
 try dsimp only
 rcases k1 with _ | k1
 cases (show none = some _ from hH)
 rw [spec_itName_l1] at hH
 iterate 2 refine AW.seq ?_
 refine AW.region ?_
 iterate 4 refine AO.pu T ?_
 refine AO.nil ?_
 refine AW.cond (b := decide (v11 < (sA.size : Int))) rfl (fun hc => ?_) (fun hc => ?_)
 replace hH := condT hc hH
 refine AW.skip ?_
 refine AW.seq ?_
 refine AW.block ?_
 refine AW.seq ?_
 obtain ⟨b13, hx14, hH⟩ := bindE hH
 obtain ⟨x15, hx16, hH⟩ := bindE hH
 refine AW.region ?_
 iterate 2 refine AO.pu T ?_
 refine AO.val rfl rfl (ix_strI_ok T rfl rfl rfl rfl (hx14)) ?_
 refine AO.val rfl rfl (callV_ok rfl rfl rfl rfl (spec_itByte_ok _ _ (hx16)) rfl) ?_
 refine AO.pu T ?_
 refine AO.nil ?_
 refine AW.cond (b := (!x15)) rfl (fun hc => ?_) (fun hc => ?_)
 replace hH := condT hc hH
 refine AW.seq (AW.region ?_)
 refine AO.pu T ?_
 refine AO.nil (AW.ret ?_)
 have hR := someE hH; subst hR
 exact retQ.i [] rfl (.c (.c .v))
 replace hH := condF hc hH
 refine AW.skip ?_
 refine AW.region ?_
 refine AO.pu T ?_
 refine AO.val rfl rfl (arw_ok rfl rfl rfl rfl) ?_
 refine AO.pu T ?_
 refine AO.nil ?_
 refine ⟨(k1, w64 (v11 + 1)), hH, Nat.lt_succ_self _, ?_⟩
 exact Le.ct 0 0
 replace hH := condF hc hH
 refine AW.exit ?_
 refine AW.seq ?_
 obtain ⟨x17, hx18, hH⟩ := bindE hH
 refine AW.region ?_
 iterate 2 refine AO.pu T ?_
 refine AO.val rfl rfl (callV_ok rfl rfl rfl rfl (spec_l1In_ok _ _ _ _ (hx18)) rfl) ?_
 refine AO.pu T ?_
 refine AO.nil (AW.ret ?_)
 have hR := someE hH; subst hR
 exact retQ.i [] rfl (.c (.c .v))

def spec_l1All_l1 (lo : Int) (hi : Int) : List Int → Nat → Option Bool
  | [], k1 =>
    some true
  | y2 :: ys3, k1 =>
    (spec_l1In_p y2 lo hi).bind fun x12 =>
    cond (!x12)
      (some false)
      (spec_l1All_l1 lo hi ys3 (k1 + 1))
def spec_l1All_p (l : List Int) (lo : Int) (hi : Int) : Option Bool :=
  spec_l1All_l1 lo hi l 0
theorem spec_l1All_ok (l : List Int) (lo : Int) (hi : Int) (r : Bool) (hH : spec_l1All_p l lo hi = some r) : SpecR Tryd.prog 67 [.s (List.map encInt l), lo, hi] (.v (.bool r)) := by
 refine fn_ok T Tryd.func67 rfl (by decide) rfl ?_
 refine AW.seq (AW.region ?_)
 refine AO.pu T ?_
 refine AO.nil ?_
 iterate 2 refine AW.seq ?_
 refine AW.region ?_
 refine AO.pu T ?_
 refine AO.val rfl rfl (len_map_ok T rfl rfl rfl) ?_
 refine AO.pu T ?_
 refine AO.nil ?_
 refine AW.block ?_
 refine AW.loopS (fun s : Nat => (⟨[(1, lo), (2, hi), (9, .s (List.map encInt l)), (10, (l.length : Int)), (11, (s : Int))], [], 21, []⟩ : St)) (fun s => s ≤ l.length ∧ spec_l1All_l1 lo hi (l.drop s) s = some r) (fun s => l.length - s) 0 ⟨Nat.zero_le _, hH⟩ ?_ ?_
 exact Le.ct 0 0
 rintro k1 ⟨hk, hH⟩
 replace hH : spec_l1All_l1 lo hi (l.drop k1) k1 = some r := hH
 try dsimp only
 refine AW.boundM (t := 9) (l := l) rfl (fun hb5 => ?_)
 rcases hd4 : l.drop k1 with _ | ⟨y2, ys3⟩
 rw [hd4, spec_l1All_l1] at hH
 have hlt6 := drop_ge hd4
 refine AW.seq (AW.region ?_)
 refine AO.pu T ?_
 refine AO.nil (AW.seq ?_)
 refine AW.condF' (b := decide ((k1 : Int) < (l.length : Int))) rfl (rngF hlt6) ?_
 refine AW.exit ?_
 refine AW.seq (AW.region ?_)
 refine AO.pu T ?_
 refine AO.nil (AW.ret ?_)
 have hR := someE hH; subst hR
 exact retQ.i [] rfl (.c (.c .v))
 rw [hd4, spec_l1All_l1] at hH
 have hlt6 := drop_lt hd4
 refine AW.seq (AW.region ?_)
 refine AO.pu T ?_
 refine AO.nil (AW.seq ?_)
 refine AW.condT' (b := decide ((k1 : Int) < (l.length : Int))) rfl (rngT hlt6) ?_
 refine AW.skip ?_
 refine AW.seq ?_
 refine AW.block ?_
 refine AW.seq (AW.region ?_)
 refine AO.val rfl rfl (ix_map_ok T rfl rfl rfl rfl rfl (getI_drop hd4) rfl) ?_
 iterate 2 refine AO.pu T ?_
 refine AO.nil (AW.seq ?_)
 obtain ⟨x12, hx13, hH⟩ := bindE hH
 refine AW.region ?_
 iterate 3 refine AO.pu T ?_
 refine AO.val rfl rfl (callV_ok rfl rfl rfl rfl (spec_l1In_ok _ _ _ _ (hx13)) rfl) ?_
 refine AO.pu T ?_
 refine AO.nil ?_
 refine AW.cond (b := (!x12)) rfl (fun hc => ?_) (fun hc => ?_)
 replace hH := condT hc hH
 refine AW.seq (AW.region ?_)
 refine AO.pu T ?_
 refine AO.nil (AW.ret ?_)
 have hR := someE hH; subst hR
 exact retQ.i [] rfl (.c (.c .v))
 replace hH := condF hc hH
 refine AW.skip ?_
 refine AW.region ?_
 refine AO.val rfl rfl (ar_ok rfl rfl rfl rfl (inI_succ hlt6 hb5)) ?_
 refine AO.pu T ?_
 refine AO.nil ?_
 refine ⟨k1 + 1, ⟨Nat.succ_le_of_lt hlt6, (by rw [drop_succ_of hd4]; exact hH)⟩, (by have := hlt6; dsimp only; omega), ?_⟩
 exact Le.ct 0 0

def spec_itGood_l1 (it : Item) (fuel : Nat) : List ByteArray → Nat → Option Bool
  | [], k1 =>
    (spec_l1In_p (it.names.length : Int) 1 3).bind fun x12 =>
    (opt (x12 && ((it.marks.length : Int) == (it.names.length : Int))) default (spec_l1All_p it.marks 0 3)).bind fun x14 =>
    some ((x12 && ((it.marks.length : Int) == (it.names.length : Int))) && x14)
  | y2 :: ys3, k1 =>
    (spec_itName_p fuel y2).bind fun x16 =>
    cond (!x16)
      (some false)
      (spec_itGood_l1 it fuel ys3 (k1 + 1))
def spec_itGood_p (fuel : Nat) (it : Item) : Option Bool :=
  spec_itGood_l1 it fuel it.names 0
theorem spec_itGood_ok (fuel : Nat) (it : Item) (r : Bool) (hH : spec_itGood_p fuel it = some r) : SpecR Tryd.prog 53 [.g (encItem it)] (.v (.bool r)) := by
 refine fn_ok T Tryd.func53 rfl (by decide) rfl ?_
 refine AW.seq (AW.region ?_)
 refine AO.step rfl (box_ok T rfl 1 rfl rfl rfl rfl) ?_
 refine AO.pu T ?_
 refine AO.nil ?_
 iterate 2 refine AW.seq ?_
 refine AW.region ?_
 iterate 2 refine AO.pu T ?_
 refine AO.val rfl rfl (len_map_ok T rfl rfl rfl) ?_
 refine AO.pu T ?_
 refine AO.nil ?_
 refine AW.block ?_
 refine AW.loopS (fun s : Nat => (⟨[(1, .p 1 0), (6, .s (List.map encStr it.names)), (7, (it.names.length : Int)), (8, (s : Int))], [(1, .box [.s (List.map encStr it.names), .s (List.map encInt it.marks), .v (.bool it.late)])], 34, []⟩ : St)) (fun s => s ≤ it.names.length ∧ spec_itGood_l1 it fuel (it.names.drop s) s = some r) (fun s => it.names.length - s) 0 ⟨Nat.zero_le _, hH⟩ ?_ ?_
 exact Le.ct 0 0
 rintro k1 ⟨hk, hH⟩
 replace hH : spec_itGood_l1 it fuel (it.names.drop k1) k1 = some r := hH
 try dsimp only
 refine AW.boundM (t := 6) (l := it.names) rfl (fun hb5 => ?_)
 rcases hd4 : it.names.drop k1 with _ | ⟨y2, ys3⟩
 rw [hd4, spec_itGood_l1] at hH
 have hlt6 := drop_ge hd4
 refine AW.seq (AW.region ?_)
 refine AO.pu T ?_
 refine AO.nil (AW.seq ?_)
 refine AW.condF' (b := decide ((k1 : Int) < (it.names.length : Int))) rfl (rngF hlt6) ?_
 refine AW.exit ?_
 refine AW.seq ?_
 obtain ⟨x12, hx13, hH⟩ := bindE hH
 obtain ⟨x14, hx15, hH⟩ := bindE hH
 refine AW.region ?_
 iterate 2 refine AO.pu T ?_
 refine AO.val rfl rfl (len_map_ok T rfl rfl rfl) ?_
 refine AO.val rfl rfl (callV_ok rfl rfl rfl rfl (spec_l1In_ok _ _ _ _ (hx13)) rfl) ?_
 refine AO.pu T ?_
 refine AO.pureG T [] rfl trivial rfl rfl ?_
 refine AO.pureG T [21] rfl ⟨fun h => h, trivial⟩ rfl rfl ?_
 refine AO.guard [22] rfl ⟨fun h => h, trivial⟩ (fun hg => len_map_ok T rfl rfl rfl) rfl ?_
 refine AO.pureG T [] rfl trivial rfl rfl ?_
 refine AO.pureG T [24] rfl ⟨fun h => h, trivial⟩ rfl rfl ?_
 refine AO.guard [25] rfl ⟨fun h => h, trivial⟩ (fun hg => len_map_ok T rfl rfl rfl) rfl ?_
 refine AO.pureG T [23, 26] rfl ⟨fun h => h, fun h => h, trivial⟩ rfl rfl ?_
 refine AO.val rfl rfl (pick_and rfl rfl rfl rfl) ?_
 refine AO.pu T ?_
 refine AO.pureG T [] rfl trivial rfl rfl ?_
 refine AO.pureG T [30] rfl ⟨fun h => h, trivial⟩ rfl rfl ?_
 refine AO.guard [31] rfl ⟨fun h => h, trivial⟩ (fun hg => callV_ok rfl rfl rfl rfl (spec_l1All_ok _ _ _ _ (optT hx15 hg)) rfl) rfl ?_
 refine AO.val rfl rfl (pick_and rfl rfl rfl rfl) ?_
 refine AO.pu T ?_
 refine AO.nil (AW.ret ?_)
 have hR := someE hH; subst hR
 exact retQ.i [] rfl (.c (.c .v))
 rw [hd4, spec_itGood_l1] at hH
 have hlt6 := drop_lt hd4
 refine AW.seq (AW.region ?_)
 refine AO.pu T ?_
 refine AO.nil (AW.seq ?_)
 refine AW.condT' (b := decide ((k1 : Int) < (it.names.length : Int))) rfl (rngT hlt6) ?_
 refine AW.skip ?_
 refine AW.seq ?_
 refine AW.block ?_
 refine AW.seq (AW.region ?_)
 refine AO.val rfl rfl (ix_map_ok T rfl rfl rfl rfl rfl (getI_drop hd4) rfl) ?_
 iterate 2 refine AO.pu T ?_
 refine AO.nil (AW.seq ?_)
 obtain ⟨x16, hx17, hH⟩ := bindE hH
 refine AW.region ?_
 refine AO.pu T ?_
 refine AO.val rfl rfl (callV_ok rfl rfl rfl rfl (spec_itName_ok fuel _ _ (hx17)) rfl) ?_
 refine AO.pu T ?_
 refine AO.nil ?_
 refine AW.cond (b := (!x16)) rfl (fun hc => ?_) (fun hc => ?_)
 replace hH := condT hc hH
 refine AW.seq (AW.region ?_)
 refine AO.pu T ?_
 refine AO.nil (AW.ret ?_)
 have hR := someE hH; subst hR
 exact retQ.i [] rfl (.c (.c .v))
 replace hH := condF hc hH
 refine AW.skip ?_
 refine AW.region ?_
 refine AO.val rfl rfl (ar_ok rfl rfl rfl rfl (inI_succ hlt6 hb5)) ?_
 refine AO.pu T ?_
 refine AO.nil ?_
 refine ⟨k1 + 1, ⟨Nat.succ_le_of_lt hlt6, (by rw [drop_succ_of hd4]; exact hH)⟩, (by have := hlt6; dsimp only; omega), ?_⟩
 exact Le.ct 0 0

def spec_itList_l1 (l : List Item) (fuel : Nat) : List Item → Nat → Option Bool
  | [], k1 =>
    some (decide ((l.length : Int) ≤ 14))
  | y2 :: ys3, k1 =>
    (spec_itGood_p fuel y2).bind fun x12 =>
    cond (!x12)
      (some false)
      (spec_itList_l1 l fuel ys3 (k1 + 1))
def spec_itList_p (fuel : Nat) (l : List Item) : Option Bool :=
  spec_itList_l1 l fuel l 0
theorem spec_itList_ok (fuel : Nat) (l : List Item) (r : Bool) (hH : spec_itList_p fuel l = some r) : SpecR Tryd.prog 30 [.s (List.map encItem l)] (.v (.bool r)) := by
 refine fn_ok T Tryd.func30 rfl (by decide) rfl ?_
 refine AW.seq (AW.region ?_)
 refine AO.pu T ?_
 refine AO.nil ?_
 iterate 2 refine AW.seq ?_
 refine AW.region ?_
 refine AO.pu T ?_
 refine AO.val rfl rfl (len_map_ok T rfl rfl rfl) ?_
 refine AO.pu T ?_
 refine AO.nil ?_
 refine AW.block ?_
 refine AW.loopS (fun s : Nat => (⟨[(0, .s (List.map encItem l)), (5, .s (List.map encItem l)), (6, (l.length : Int)), (7, (s : Int))], [], 18, []⟩ : St)) (fun s => s ≤ l.length ∧ spec_itList_l1 l fuel (l.drop s) s = some r) (fun s => l.length - s) 0 ⟨Nat.zero_le _, hH⟩ ?_ ?_
 exact Le.ct 0 0
 rintro k1 ⟨hk, hH⟩
 replace hH : spec_itList_l1 l fuel (l.drop k1) k1 = some r := hH
 try dsimp only
 refine AW.boundM (t := 0) (l := l) rfl (fun hb5 => ?_)
 rcases hd4 : l.drop k1 with _ | ⟨y2, ys3⟩
 rw [hd4, spec_itList_l1] at hH
 have hlt6 := drop_ge hd4
 refine AW.seq (AW.region ?_)
 refine AO.pu T ?_
 refine AO.nil (AW.seq ?_)
 refine AW.condF' (b := decide ((k1 : Int) < (l.length : Int))) rfl (rngF hlt6) ?_
 refine AW.exit ?_
 refine AW.seq (AW.region ?_)
 refine AO.pu T ?_
 refine AO.val rfl rfl (len_map_ok T rfl rfl rfl) ?_
 iterate 2 refine AO.pu T ?_
 refine AO.nil (AW.ret ?_)
 have hR := someE hH; subst hR
 exact retQ.i [] rfl (.c (.c .v))
 rw [hd4, spec_itList_l1] at hH
 have hlt6 := drop_lt hd4
 refine AW.seq (AW.region ?_)
 refine AO.pu T ?_
 refine AO.nil (AW.seq ?_)
 refine AW.condT' (b := decide ((k1 : Int) < (l.length : Int))) rfl (rngT hlt6) ?_
 refine AW.skip ?_
 refine AW.seq ?_
 refine AW.block ?_
 refine AW.seq (AW.region ?_)
 refine AO.val rfl rfl (ix_map_ok T rfl rfl rfl rfl rfl (getI_drop hd4) rfl) ?_
 refine AO.pu T (d := .g [.s (List.map encStr y2.names), .s (List.map encInt y2.marks), .v (.bool y2.late)]) ?_
 refine AO.step rfl (alloc_ok T rfl 3 rfl rfl rfl rfl rfl) ?_
 refine AO.se T [.s (List.map encStr y2.names), .s (List.map encInt y2.marks), .v (.bool y2.late)] ?_
 refine AO.nil (AW.seq ?_)
 obtain ⟨x12, hx13, hH⟩ := bindE hH
 refine AW.region ?_
 refine AO.pu T (d := .g [.s (List.map encStr y2.names), .s (List.map encInt y2.marks), .v (.bool y2.late)]) ?_
 refine AO.val rfl rfl (callV_ok rfl rfl rfl rfl (spec_itGood_ok fuel _ _ (hx13)) rfl) ?_
 refine AO.pu T ?_
 refine AO.nil ?_
 refine AW.cond (b := (!x12)) rfl (fun hc => ?_) (fun hc => ?_)
 replace hH := condT hc hH
 refine AW.seq (AW.region ?_)
 refine AO.pu T ?_
 refine AO.nil (AW.ret ?_)
 have hR := someE hH; subst hR
 exact retQ.i [] rfl (.c (.c .v))
 replace hH := condF hc hH
 refine AW.skip ?_
 refine AW.region ?_
 refine AO.val rfl rfl (ar_ok rfl rfl rfl rfl (inI_succ hlt6 hb5)) ?_
 refine AO.pu T ?_
 refine AO.nil ?_
 refine ⟨k1 + 1, ⟨Nat.succ_le_of_lt hlt6, (by rw [drop_succ_of hd4]; exact hH)⟩, (by have := hlt6; dsimp only; omega), ?_⟩
 exact Le.ct 0 0

def spec_l1OwnS_p (l : List ByteArray) : Option (List ByteArray) :=
  (need (fitsB 16 l.length)).bind fun u1 =>
  some l
theorem spec_l1OwnS_ok (l : List ByteArray) (r : (List ByteArray)) (hH : spec_l1OwnS_p l = some r) : SpecR Tryd.prog 100 [.s (List.map encStr l)] (.w 1 (r.map encStr)) := by
 refine fn_ok T Tryd.func100 rfl (by decide) rfl ?_
 refine AW.seq (AW.region ?_)
 refine AO.pu T ?_
 refine AO.nil (AW.seq ?_)
 obtain ⟨u1, hx2, hH⟩ := bindE hH
 refine AW.region ?_
 refine AO.step rfl (mk0_ok T rfl rfl rfl rfl) ?_
 refine AO.pu T ?_
 refine AO.step rfl (app_ws_map T rfl 1 rfl rfl rfl rfl rfl (by decide) (by decide) rfl rfl (fun _ => rfl) (needT (hx2)) rfl rfl) ?_
 refine AO.pu T ?_
 refine AO.nil (AW.ret ?_)
 have hR := someE hH; subst hR
 exact retQ.i [1] rfl (.c (.c (.rowR rfl)))

def spec_l1Own_p (l : List Int) : Option (List Int) :=
  (need (fitsB 8 l.length)).bind fun u1 =>
  some l
theorem spec_l1Own_ok (l : List Int) (r : (List Int)) (hH : spec_l1Own_p l = some r) : SpecR Tryd.prog 101 [.s (List.map encInt l)] (.w 1 (r.map encInt)) := by
 refine fn_ok T Tryd.func101 rfl (by decide) rfl ?_
 refine AW.seq (AW.region ?_)
 refine AO.pu T ?_
 refine AO.nil (AW.seq ?_)
 obtain ⟨u1, hx2, hH⟩ := bindE hH
 refine AW.region ?_
 refine AO.step rfl (mk0_ok T rfl rfl rfl rfl) ?_
 refine AO.pu T ?_
 refine AO.step rfl (app_ws_map T rfl 1 rfl rfl rfl rfl rfl (by decide) (by decide) rfl rfl (fun _ => rfl) (needT (hx2)) rfl rfl) ?_
 refine AO.pu T ?_
 refine AO.nil (AW.ret ?_)
 have hR := someE hH; subst hR
 exact retQ.i [1] rfl (.c (.c (.rowR rfl)))

def spec_itOwn_l1 : List Item → Nat → List Item → Option ((List Item))
  | [], k1, v20 =>
    some v20
  | y2 :: ys3, k1, v20 =>
    (spec_l1OwnS_p y2.names).bind fun x22 =>
    (spec_l1Own_p y2.marks).bind fun x24 =>
    (need (fitsB 56 (v20.length + ([(Item.mk x22 x24 y2.late)]).length))).bind fun u26 =>
    spec_itOwn_l1 ys3 (k1 + 1) (v20 ++ [(Item.mk x22 x24 y2.late)])
def spec_itOwn_p (l : List Item) : Option (List Item) :=
  spec_itOwn_l1 l 0 []
theorem spec_itOwn_ok (l : List Item) (r : (List Item)) (hH : spec_itOwn_p l = some r) : SpecR Tryd.prog 86 [.s (List.map encItem l)] (.w 3 (r.map encItemO)) := by
 refine fn_ok T Tryd.func86 rfl (by decide) rfl ?_
 refine AW.seq (AW.region ?_)
 refine AO.pu T ?_
 refine AO.nil (AW.seq ?_)
 refine AW.region ?_
 refine AO.pu T ?_
 refine AO.nil ?_
 iterate 2 refine AW.seq ?_
 refine AW.region ?_
 refine AO.pu T ?_
 refine AO.val rfl rfl (len_map_ok T rfl rfl rfl) ?_
 refine AO.pu T ?_
 refine AO.nil ?_
 refine AW.block ?_
 refine AW.loopS (fun s : Nat × (List Item) => (⟨[(3, .R 10), (6, .s (List.map encItem l)), (7, (l.length : Int)), (8, (s.1 : Int))], [(10, .row 3 (List.map encItemO s.2))], 26, []⟩ : St)) (fun s => s.1 ≤ l.length ∧ spec_itOwn_l1 (l.drop s.1) s.1 s.2 = some r) (fun s => l.length - s.1) (0, []) ⟨Nat.zero_le _, hH⟩ ?_ ?_
 refine Le.trans (Le.void 3 10 3 rfl rfl) ?_
 exact Le.ct 0 0
 rintro ⟨k1, v20⟩ ⟨hk, hH⟩
 replace hH : spec_itOwn_l1 (l.drop k1) k1 v20 = some r := hH
 try dsimp only
 refine AW.boundM (t := 6) (l := l) rfl (fun hb5 => ?_)
 rcases hd4 : l.drop k1 with _ | ⟨y2, ys3⟩
 rw [hd4, spec_itOwn_l1] at hH
 have hlt6 := drop_ge hd4
 refine AW.seq (AW.region ?_)
 refine AO.pu T ?_
 refine AO.nil (AW.seq ?_)
 refine AW.condF' (b := decide ((k1 : Int) < (l.length : Int))) rfl (rngF hlt6) ?_
 refine AW.exit ?_
 refine AW.seq (AW.region ?_)
 iterate 2 refine AO.pu T ?_
 refine AO.nil (AW.ret ?_)
 have hR := someE hH; subst hR
 exact retQ.i [10] rfl (.c (.c (.rowR rfl)))
 rw [hd4, spec_itOwn_l1] at hH
 have hlt6 := drop_lt hd4
 refine AW.seq (AW.region ?_)
 refine AO.pu T ?_
 refine AO.nil (AW.seq ?_)
 refine AW.condT' (b := decide ((k1 : Int) < (l.length : Int))) rfl (rngT hlt6) ?_
 refine AW.skip ?_
 refine AW.seq ?_
 refine AW.block ?_
 refine AW.seq (AW.region ?_)
 refine AO.val rfl rfl (ix_map_ok T rfl rfl rfl rfl rfl (getI_drop hd4) rfl) ?_
 refine AO.pu T (d := .g [.s (List.map encStr y2.names), .s (List.map encInt y2.marks), .v (.bool y2.late)]) ?_
 refine AO.step rfl (alloc_ok T rfl 11 rfl rfl rfl rfl rfl) ?_
 refine AO.se T [.s (List.map encStr y2.names), .s (List.map encInt y2.marks), .v (.bool y2.late)] ?_
 refine AO.nil ?_
 obtain ⟨x22, hx23, hH⟩ := bindE hH
 obtain ⟨x24, hx25, hH⟩ := bindE hH
 obtain ⟨u26, hx27, hH⟩ := bindE hH
 refine AW.drawn 11 12 [] mix (by kernel_rfl) rfl ?_
 iterate 3 refine AD.pure T rfl rfl rfl ?_
 refine AD.q (FStep.call rfl rfl rfl rfl rfl (spec_l1OwnS_ok _ _ (hx23)) rfl rfl) (impT_names _ _) (impT_le _ _) rfl ?_
 iterate 2 refine AD.pure T rfl rfl rfl ?_
 refine AD.q (FStep.call rfl rfl rfl rfl rfl (spec_l1Own_ok _ _ (hx25)) rfl rfl) (impT_names _ _) (impT_le _ _) rfl ?_
 iterate 2 refine AD.pure T rfl rfl rfl ?_
 refine AD.pured T (d := .g [.R 12, .R 13, .v (.bool y2.late)]) rfl rfl rfl rfl ?_
 refine AD.k rfl rfl (FStep.mk_o T rfl rfl rfl rfl rfl rfl rfl rfl (f := encItemO) (l := [(Item.mk x22 x24 y2.late)]) (ids := [12, 13]) rfl rfl (fun _ => rfl) (by exact expLC_cons (.rowR rfl) (expLC_cons (.rowR rfl) (expLC_cons .v (expLC_nil)))) (by decide) rfl rfl rfl rfl) rfl rfl rfl ?_
 refine AD.nil ?_
 refine AO.step rfl (app_rr_map T rfl 15 rfl rfl rfl rfl rfl (by decide) rfl rfl rfl rfl rfl (needT (hx27)) rfl rfl) ?_
 refine AO.pu T ?_
 refine AO.nil ?_
 refine AW.region ?_
 refine AO.val rfl rfl (ar_ok rfl rfl rfl rfl (inI_succ hlt6 hb5)) ?_
 refine AO.pu T ?_
 refine AO.nil ?_
 refine ⟨(k1 + 1, (v20 ++ [(Item.mk x22 x24 y2.late)])), ⟨Nat.succ_le_of_lt hlt6, (by rw [drop_succ_of hd4]; exact hH)⟩, (by have := hlt6; dsimp only; omega), ?_⟩
 exact Le.ct 15 10

def spec_hiStart_l1 (x1 : (List Item)) : List Item → Nat → List (List Bool) → Option HiState
  | [], k3, v18 =>
    some (HiState.mk x1 v18)
  | y4 :: ys5, k3, v18 =>
    (need (decide (0 ≤ (y4.names.length : Int)) && fitsB 1 (y4.names.length : Int).toNat)).bind fun u20 =>
    (need (fitsB 24 (v18.length + ([(List.replicate (y4.names.length : Int).toNat false)]).length))).bind fun u22 =>
    spec_hiStart_l1 x1 ys5 (k3 + 1) (v18 ++ [(List.replicate (y4.names.length : Int).toNat false)])
def spec_hiStart_p (l : List Item) : Option HiState :=
  (spec_itOwn_p l).bind fun x1 =>
  spec_hiStart_l1 x1 l 0 []
theorem spec_hiStart_ok (l : List Item) (r : HiState) (hH : spec_hiStart_p l = some r) : SpecR Tryd.prog 68 [.s (List.map encItem l)] (.pn (encHiStateO r)) := by
 refine fn_ok T Tryd.func68 rfl (by decide) rfl ?_
 refine AW.seq (AW.region ?_)
 refine AO.pu T ?_
 refine AO.nil (AW.seq ?_)
 obtain ⟨x1, hx2, hH⟩ := bindE hH
 refine AW.region ?_
 refine AO.pu T ?_
 refine AO.step rfl (call_ok rfl 1 rfl rfl rfl (spec_itOwn_ok _ _ (hx2)) rfl rfl rfl) ?_
 refine AO.pu T (d := .g [.R 1, .w 0 []]) ?_
 refine AO.step rfl (box_ok T rfl 2 rfl rfl rfl rfl) ?_
 refine AO.pu T ?_
 refine AO.nil ?_
 iterate 2 refine AW.seq ?_
 refine AW.region ?_
 refine AO.pu T ?_
 refine AO.val rfl rfl (len_map_ok T rfl rfl rfl) ?_
 refine AO.pu T ?_
 refine AO.nil ?_
 refine AW.block ?_
 refine AW.loopS (fun s : Nat × (List (List Bool)) => (⟨[(3, .p 2 0), (10, .s (List.map encItem l)), (11, (l.length : Int)), (12, (s.1 : Int))], [(1, .row 3 (List.map encItemO x1)), (2, .box [.R 1, .R 10]), (10, .row 1 (List.map encLBoolO s.2))], 31, []⟩ : St)) (fun s => s.1 ≤ l.length ∧ spec_hiStart_l1 x1 (l.drop s.1) s.1 s.2 = some r) (fun s => l.length - s.1) (0, []) ⟨Nat.zero_le _, hH⟩ ?_ ?_
 refine Le.trans (Le.voidBox 2 1 10 1 rfl rfl rfl rfl) ?_
 exact Le.ct 0 0
 rintro ⟨k3, v18⟩ ⟨hk, hH⟩
 replace hH : spec_hiStart_l1 x1 (l.drop k3) k3 v18 = some r := hH
 try dsimp only
 refine AW.boundM (t := 10) (l := l) rfl (fun hb7 => ?_)
 rcases hd6 : l.drop k3 with _ | ⟨y4, ys5⟩
 rw [hd6, spec_hiStart_l1] at hH
 have hlt8 := drop_ge hd6
 refine AW.seq (AW.region ?_)
 refine AO.pu T ?_
 refine AO.nil (AW.seq ?_)
 refine AW.condF' (b := decide ((k3 : Int) < (l.length : Int))) rfl (rngF hlt8) ?_
 refine AW.exit ?_
 refine AW.seq (AW.region ?_)
 iterate 2 refine AO.pu T ?_
 refine AO.nil (AW.ret ?_)
 have hR := someE hH; subst hR
 exact retQ.i [2, 1, 10] rfl (.c (.pb rfl (expLC_cons (.rowR rfl) (expLC_cons (.rowR rfl) (expLC_nil)))))
 rw [hd6, spec_hiStart_l1] at hH
 have hlt8 := drop_lt hd6
 refine AW.seq (AW.region ?_)
 refine AO.pu T ?_
 refine AO.nil (AW.seq ?_)
 refine AW.condT' (b := decide ((k3 : Int) < (l.length : Int))) rfl (rngT hlt8) ?_
 refine AW.skip ?_
 refine AW.seq ?_
 refine AW.block ?_
 refine AW.seq (AW.region ?_)
 refine AO.val rfl rfl (ix_map_ok T rfl rfl rfl rfl rfl (getI_drop hd6) rfl) ?_
 refine AO.pu T (d := .g [.s (List.map encStr y4.names), .s (List.map encInt y4.marks), .v (.bool y4.late)]) ?_
 refine AO.step rfl (alloc_ok T rfl 11 rfl rfl rfl rfl rfl) ?_
 refine AO.se T [.s (List.map encStr y4.names), .s (List.map encInt y4.marks), .v (.bool y4.late)] ?_
 refine AO.nil ?_
 obtain ⟨u20, hx21, hH⟩ := bindE hH
 obtain ⟨u22, hx23, hH⟩ := bindE hH
 refine AW.drawn 11 12 [10] mix (by kernel_rfl) rfl ?_
 iterate 7 refine AD.pure T rfl rfl rfl ?_
 refine AD.val rfl rfl (len_map_ok T rfl rfl rfl) ?_
 refine AD.q (FStep.make T rfl rfl rfl rfl rfl rfl rfl (f := encBool) (zo := false) (by repeat constructor) (by decide) rfl rfl (Bool.and_eq_true_iff.1 (needT (hx21))).1 (Bool.and_eq_true_iff.1 (needT (hx21))).2 rfl) (by simp [namesIn]) (Nat.le_succ _) rfl ?_
 refine AD.k rfl rfl (FStep.mk_o T rfl rfl rfl rfl rfl rfl rfl rfl (f := encLBoolO) (l := [(List.replicate (y4.names.length : Int).toNat false)]) (ids := [12]) rfl rfl (fun _ => rfl) (by exact expLC_cons (.rowR rfl) (expLC_nil)) (by decide) rfl rfl rfl rfl) rfl rfl rfl ?_
 refine AD.k rfl rfl (FStep.app_rr T rfl rfl rfl rfl rfl rfl rfl (by decide) rfl rfl rfl rfl rfl (needT (hx23)) rfl) rfl rfl rfl ?_
 refine AD.nil ?_
 iterate 2 refine AO.pu T ?_
 refine AO.se T [.R 1, .R 14] ?_
 refine AO.nil ?_
 refine AW.region ?_
 refine AO.val rfl rfl (ar_ok rfl rfl rfl rfl (inI_succ hlt8 hb7)) ?_
 refine AO.pu T ?_
 refine AO.nil ?_
 refine ⟨(k3 + 1, (v18 ++ [(List.replicate (y4.names.length : Int).toNat false)])), ⟨Nat.succ_le_of_lt hlt8, (by rw [drop_succ_of hd6]; exact hH)⟩, (by have := hlt8; dsimp only; omega), ?_⟩
 exact Le.ct 14 10

def spec_hiName_p (l : List Item) (item : Int) (name : Int) : Option Bool :=
  (spec_l1In_p item 0 (w64 ((l.length : Int) - 1))).bind fun x1 =>
  (opt x1 default (getI l item)).bind fun x3 =>
  (opt x1 default (spec_l1In_p name 0 (w64 ((x3.names.length : Int) - 1)))).bind fun x5 =>
  some (x1 && x5)
theorem spec_hiName_ok (l : List Item) (item : Int) (name : Int) (r : Bool) (hH : spec_hiName_p l item name = some r) : SpecR Tryd.prog 87 [.s (List.map encItem l), item, name] (.v (.bool r)) := by
 refine fn_ok T Tryd.func87 rfl (by decide) rfl ?_
 refine AW.seq (AW.region ?_)
 refine AO.pu T ?_
 refine AO.nil (AW.seq ?_)
 obtain ⟨x1, hx2, hH⟩ := bindE hH
 obtain ⟨x3, hx4, hH⟩ := bindE hH
 obtain ⟨x5, hx6, hH⟩ := bindE hH
 refine AW.region ?_
 iterate 2 refine AO.pu T ?_
 refine AO.val rfl rfl (len_map_ok T rfl rfl rfl) ?_
 refine AO.val rfl rfl (arw_ok rfl rfl rfl rfl) ?_
 refine AO.val rfl rfl (callV_ok rfl rfl rfl rfl (spec_l1In_ok _ _ _ _ (hx2)) rfl) ?_
 refine AO.pu T ?_
 iterate 3 refine AO.pureG T [] rfl trivial rfl rfl ?_
 refine AO.guard [14, 15] rfl ⟨fun h => h, fun h => h, trivial⟩ (fun hg => ix_map_ok T rfl rfl rfl rfl rfl (optT hx4 hg) rfl) rfl ?_
 refine AO.pureG T [16] rfl ⟨fun h => h, trivial⟩ rfl rfl ?_
 refine AO.pureG T [17] rfl ⟨fun h => h, trivial⟩ rfl rfl ?_
 refine AO.guard [18] rfl ⟨fun h => h, trivial⟩ (fun hg => len_map_ok T rfl rfl rfl) rfl ?_
 refine AO.guard [19] rfl ⟨fun h => h, trivial⟩ (fun hg => arw_ok rfl rfl rfl rfl) rfl ?_
 refine AO.guard [13, 20] rfl ⟨fun h => h, fun h => h, trivial⟩ (fun hg => callV_ok rfl rfl rfl rfl (spec_l1In_ok _ _ _ _ (optT hx6 hg)) rfl) rfl ?_
 refine AO.val rfl rfl (pick_and rfl rfl rfl rfl) ?_
 refine AO.pu T ?_
 refine AO.nil (AW.ret ?_)
 have hR := someE hH; subst hR
 exact retQ.i [] rfl (.c (.c .v))

def spec_hiState_change_p (x : HiState) (c : Change) : Option (HiState × Bool) :=
  (spec_hiName_p x.items c.item c.name).bind fun x1 =>
  (opt (!(!x1)) default (spec_l1In_p c.tick 0 100000)).bind fun x3 =>
  (opt (!((!x1) || (!x3))) default (spec_l1In_p c.caller 1 9)).bind fun x5 =>
  (opt (!(((!x1) || (!x3)) || (!x5))) default (spec_l1In_p c.mark 0 3)).bind fun x7 =>
  cond ((((!x1) || (!x3)) || (!x5)) || (!x7))
    (some (x, false))
    ((getI x.items c.item).bind fun x9 =>
    (getI x.open' c.item).bind fun x11 =>
    cond c.review
      ((getI x11 c.name).bind fun x13 =>
      (opt (!x13) default (getI x9.marks c.name)).bind fun x15 =>
      cond (x13 || (x15 != c.mark))
        (some ((HiState.mk (x.items.set c.item.toNat x9) (x.open'.set c.item.toNat x11)), false))
        (some ((HiState.mk (x.items.set c.item.toNat x9) (x.open'.set c.item.toNat (x11.set c.name.toNat true))), true)))
      ((getI x11 c.name).bind fun x17 =>
      (getI x9.marks c.name).bind fun x19 =>
      some ((HiState.mk (x.items.set c.item.toNat (Item.mk x9.names (x9.marks.set c.name.toNat c.mark) x9.late)) (x.open'.set c.item.toNat (x11.set c.name.toNat false))), true)))
theorem spec_hiState_change_ok (x : HiState) (c : Change) (r : (HiState × Bool)) (hH : spec_hiState_change_p x c = some r) : SpecM Tryd.prog 69 [.pn (encHiStateO x), .g (encChange c)] [.pn (encHiStateO r.1), .u] (.v (.bool r.2)) := by
 refine fn_okM T Tryd.func69 rfl (by decide) rfl rfl ?_
 intro L
 show AW _ _ _ (⟨[(0, .p 1 0), (1, .g [c.tick, c.caller, c.item, c.name, c.mark, .v (.bool c.review)])], [(1, .box [.R 2, .R 3]), (3, .row 1 (List.map encLBoolO x.open')), (2, .row 3 (List.map encItemO x.items))], 83, [(1, L 1), (3, L 3), (2, L 2)]⟩ : St)
 refine AW.seq (AW.region ?_)
 refine AO.step rfl (box_ok T rfl 4 rfl rfl rfl rfl) ?_
 refine AO.pu T ?_
 refine AO.nil ?_
 iterate 2 refine AW.seq ?_
 obtain ⟨x1, hx2, hH⟩ := bindE hH
 obtain ⟨x3, hx4, hH⟩ := bindE hH
 obtain ⟨x5, hx6, hH⟩ := bindE hH
 obtain ⟨x7, hx8, hH⟩ := bindE hH
 refine AW.drawn 8 5 [] mix (by kernel_rfl) rfl ?_
 iterate 8 refine AD.pure T rfl rfl rfl ?_
 refine AD.nil ?_
 refine AO.val rfl rfl (callLV_ok rfl rfl rfl (es := [.s (List.map encItem x.items), c.item, c.name]) ⟨(.rowR rfl (.map fun y => frzItem y)), .free rfl, .free rfl, trivial⟩ (spec_hiName_ok _ _ _ _ (hx2)) (zfree_v _) rfl) ?_
 iterate 2 refine AO.pu T ?_
 refine AO.pureG T [] rfl trivial rfl rfl ?_
 refine AO.pureG T [18] rfl ⟨fun h => h, trivial⟩ rfl rfl ?_
 refine AO.guard [19] rfl ⟨fun h => h, trivial⟩ (fun hg => callV_ok rfl rfl rfl rfl (spec_l1In_ok _ _ _ _ (optT hx4 hg)) rfl) rfl ?_
 refine AO.pureG T [20] rfl ⟨fun h => h, trivial⟩ rfl rfl ?_
 refine AO.val rfl rfl (pick_or rfl rfl rfl rfl) ?_
 refine AO.pu T ?_
 refine AO.pureG T [] rfl trivial rfl rfl ?_
 refine AO.pureG T [24] rfl ⟨fun h => h, trivial⟩ rfl rfl ?_
 refine AO.guard [25] rfl ⟨fun h => h, trivial⟩ (fun hg => callV_ok rfl rfl rfl rfl (spec_l1In_ok _ _ _ _ (optT hx6 hg)) rfl) rfl ?_
 refine AO.pureG T [26] rfl ⟨fun h => h, trivial⟩ rfl rfl ?_
 refine AO.val rfl rfl (pick_or rfl rfl rfl rfl) ?_
 refine AO.pu T ?_
 refine AO.pureG T [] rfl trivial rfl rfl ?_
 refine AO.pureG T [30] rfl ⟨fun h => h, trivial⟩ rfl rfl ?_
 refine AO.guard [31] rfl ⟨fun h => h, trivial⟩ (fun hg => callV_ok rfl rfl rfl rfl (spec_l1In_ok _ _ _ _ (optT hx8 hg)) rfl) rfl ?_
 refine AO.pureG T [32] rfl ⟨fun h => h, trivial⟩ rfl rfl ?_
 refine AO.val rfl rfl (pick_or rfl rfl rfl rfl) ?_
 refine AO.nil ?_
 refine AW.le (Le.ct 0 0 (σ' := (⟨[(0, .p 1 0), (3, .p 4 0), (34, .v (.bool ((((!x1) || (!x3)) || (!x5)) || (!x7))))], [(1, .box [.R 2, .R 3]), (2, .row 3 (List.map encItemO x.items)), (3, .row 1 (List.map encLBoolO x.open')), (4, .box [c.tick, c.caller, c.item, c.name, c.mark, .v (.bool c.review)])], 83, [(1, L 1), (3, L 3), (2, L 2)]⟩ : St)) (hpin := ⟨⟨rfl, rfl⟩, ⟨rfl, rfl⟩, ⟨rfl, rfl⟩, trivial⟩)) ?_
 refine AW.cond (b := ((((!x1) || (!x3)) || (!x5)) || (!x7))) rfl (fun hc => ?_) (fun hc => ?_)
 replace hH := condT hc hH
 refine AW.seq (AW.region ?_)
 refine AO.pu T ?_
 refine AO.nil (AW.ret ?_)
 have hR := someE hH; subst hR
 exact ⟨trivial, rfl, _, [], [1, 2, 3], rfl, expLG_cons (.pb rfl (expLC_cons (.rowR rfl) (expLC_cons (.rowR rfl) (expLC_nil)))) (expLG_cons (.c .u) (expLG_nil)), .c (.c .v), by decide⟩
 replace hH := condF hc hH
 refine AW.skip ?_
 refine AW.seq ?_
 obtain ⟨x9, hx10, hH⟩ := bindE hH
 obtain ⟨x11, hx12, hH⟩ := bindE hH
 refine AW.le (Le.openM 2 c.item.toNat 1 5 rfl (getI_get (hx10)) rfl rfl) ?_
 refine AW.le (Le.openM 3 c.item.toNat 0 6 rfl (getI_get (hx12)) rfl rfl) ?_
 refine AW.drawn 18 7 [] mix (by kernel_rfl) rfl ?_
 iterate 6 refine AD.pure T rfl rfl rfl ?_
 refine AD.val rfl rfl (ix_lent_ok T rfl rfl rfl rfl rfl rfl (hx10)) ?_
 refine AD.pure T rfl rfl rfl ?_
 refine AD.val rfl rfl (load_lent_ok T rfl rfl rfl rfl rfl) ?_
 iterate 6 refine AD.pure T rfl rfl rfl ?_
 refine AD.val rfl rfl (ix_lent_ok T rfl rfl rfl rfl rfl rfl (hx12)) ?_
 refine AD.val rfl rfl (load_lent_ok T rfl rfl rfl rfl rfl) ?_
 refine AD.pure T rfl rfl rfl ?_
 refine AD.nil ?_
 refine AO.pu T ?_
 refine AO.nil ?_
 iterate 2 refine AW.seq ?_
 refine AW.region ?_
 iterate 2 refine AO.pu T ?_
 refine AO.nil ?_
 refine AW.cond (b := c.review) rfl (fun hc => ?_) (fun hc => ?_)
 replace hH := condT hc hH
 iterate 2 refine AW.seq ?_
 obtain ⟨x13, hx14, hH⟩ := bindE hH
 obtain ⟨x15, hx16, hH⟩ := bindE hH
 refine AW.drawn 13 7 [] mix (by kernel_rfl) rfl ?_
 iterate 3 refine AD.pure T rfl rfl rfl ?_
 refine AD.val rfl rfl (ix_row_ok T rfl rfl rfl rfl rfl rfl (hx14)) ?_
 refine AD.val rfl rfl (load_row_ok T rfl rfl rfl rfl (getI_get (hx14)) rfl rfl rfl) ?_
 refine AD.pure T rfl rfl rfl ?_
 iterate 2 refine AD.pureG T [] rfl trivial rfl rfl ?_
 refine AD.pureG T [61] rfl ⟨fun h => h, trivial⟩ rfl rfl ?_
 refine AD.guard [60, 62] rfl ⟨fun h => h, fun h => h, trivial⟩ (fun hg => ix_row_ok T rfl rfl rfl rfl rfl rfl (optT hx16 hg)) rfl ?_
 refine AD.guard [63] rfl ⟨fun h => h, trivial⟩ (fun hg => load_row_ok T rfl rfl rfl rfl (getI_get (optT hx16 hg)) rfl rfl rfl) rfl ?_
 refine AD.pureG T [] rfl trivial rfl rfl ?_
 refine AD.pureG T [65] rfl ⟨fun h => h, trivial⟩ rfl rfl ?_
 refine AD.nil ?_
 refine AO.pureG T [64, 66] rfl ⟨fun h => h, fun h => h, trivial⟩ rfl rfl ?_
 refine AO.val rfl rfl (pick_or rfl rfl rfl rfl) ?_
 refine AO.le (Le.closeM 2 c.item.toNat 1 5 rfl rfl (getI_get (hx10)) rfl (u' := x9) rfl) ?_
 refine AO.nil ?_
 refine AW.cond (b := (x13 || (x15 != c.mark))) rfl (fun hc => ?_) (fun hc => ?_)
 replace hH := condT hc hH
 refine AW.seq (AW.region ?_)
 refine AO.pu T ?_
 refine AO.le (Le.closeM 3 c.item.toNat 0 6 rfl rfl (getI_get (hx12)) rfl (u' := x11) rfl) ?_
 refine AO.nil ?_
 refine AW.le (Le.ct 0 0 (σ' := (⟨[(4, .v (.bool false))], [(1, .box [.R 2, .R 3]), (2, .row 3 (List.map encItemO (x.items.set c.item.toNat x9))), (3, .row 1 (List.map encLBoolO (x.open'.set c.item.toNat x11)))], 83, [(1, L 1), (3, L 3), (2, L 2)]⟩ : St)) (hpin := ⟨⟨rfl, rfl⟩, ⟨rfl, rfl⟩, ⟨rfl, rfl⟩, trivial⟩)) ?_
 refine AW.ret ?_
 have hR := someE hH; subst hR
 exact ⟨trivial, rfl, _, [], [1, 2, 3], rfl, expLG_cons (.pb rfl (expLC_cons (.rowR rfl) (expLC_cons (.rowR rfl) (expLC_nil)))) (expLG_cons (.c .u) (expLG_nil)), .c (.c .v), by decide⟩
 replace hH := condF hc hH
 refine AW.skip ?_
 refine AW.seq (AW.region ?_)
 iterate 3 refine AO.pu T ?_
 refine AO.val rfl rfl (ix_row_ok T rfl rfl rfl rfl rfl rfl (hx14)) ?_
 refine AO.step rfl (store_row_ok T rfl rfl rfl rfl rfl (getI_get (hx14)) rfl rfl rfl rfl (u' := true) rfl rfl) ?_
 refine AO.le (Le.closeM 3 c.item.toNat 0 6 rfl rfl (getI_get (hx12)) rfl (u' := (x11.set c.name.toNat true)) rfl) ?_
 refine AO.nil ?_
 refine AW.le (Le.ct 0 0 (σ' := (⟨[], [(1, .box [.R 2, .R 3]), (2, .row 3 (List.map encItemO (x.items.set c.item.toNat x9))), (3, .row 1 (List.map encLBoolO (x.open'.set c.item.toNat (x11.set c.name.toNat true))))], 83, [(1, L 1), (3, L 3), (2, L 2)]⟩ : St)) (hpin := ⟨⟨rfl, rfl⟩, ⟨rfl, rfl⟩, ⟨rfl, rfl⟩, trivial⟩)) ?_
 refine AW.seq (AW.region ?_)
 refine AO.pu T ?_
 refine AO.nil (AW.ret ?_)
 have hR := someE hH; subst hR
 exact ⟨trivial, rfl, _, [], [1, 2, 3], rfl, expLG_cons (.pb rfl (expLC_cons (.rowR rfl) (expLC_cons (.rowR rfl) (expLC_nil)))) (expLG_cons (.c .u) (expLG_nil)), .c (.c .v), by decide⟩
 replace hH := condF hc hH
 refine AW.skip ?_
 refine AW.seq ?_
 obtain ⟨x17, hx18, hH⟩ := bindE hH
 refine AW.region ?_
 iterate 3 refine AO.pu T ?_
 refine AO.val rfl rfl (ix_row_ok T rfl rfl rfl rfl rfl rfl (hx18)) ?_
 refine AO.step rfl (store_row_ok T rfl rfl rfl rfl rfl (getI_get (hx18)) rfl rfl rfl rfl (u' := false) rfl rfl) ?_
 refine AO.le (Le.closeM 3 c.item.toNat 0 6 rfl rfl (getI_get (hx12)) rfl (u' := (x11.set c.name.toNat false)) rfl) ?_
 refine AO.nil (AW.seq ?_)
 obtain ⟨x19, hx20, hH⟩ := bindE hH
 refine AW.region ?_
 iterate 5 refine AO.pu T ?_
 refine AO.val rfl rfl (ix_row_ok T rfl rfl rfl rfl rfl rfl (hx20)) ?_
 refine AO.step rfl (store_row_ok T rfl rfl rfl rfl rfl (getI_get (hx20)) rfl rfl rfl rfl (u' := c.mark) rfl rfl) ?_
 refine AO.le (Le.closeM 2 c.item.toNat 1 5 rfl rfl (getI_get (hx10)) rfl (u' := (Item.mk x9.names (x9.marks.set c.name.toNat c.mark) x9.late)) rfl) ?_
 refine AO.nil ?_
 refine AW.le (Le.ct 0 0 (σ' := (⟨[], [(1, .box [.R 2, .R 3]), (2, .row 3 (List.map encItemO (x.items.set c.item.toNat (Item.mk x9.names (x9.marks.set c.name.toNat c.mark) x9.late)))), (3, .row 1 (List.map encLBoolO (x.open'.set c.item.toNat (x11.set c.name.toNat false))))], 83, [(1, L 1), (3, L 3), (2, L 2)]⟩ : St)) (hpin := ⟨⟨rfl, rfl⟩, ⟨rfl, rfl⟩, ⟨rfl, rfl⟩, trivial⟩)) ?_
 refine AW.seq (AW.region ?_)
 refine AO.pu T ?_
 refine AO.nil (AW.ret ?_)
 have hR := someE hH; subst hR
 exact ⟨trivial, rfl, _, [], [1, 2, 3], rfl, expLG_cons (.pb rfl (expLC_cons (.rowR rfl) (expLC_cons (.rowR rfl) (expLC_nil)))) (expLG_cons (.c .u) (expLG_nil)), .c (.c .v), by decide⟩

def spec_hiRun_l1 (h : List Change) (tick : Int) : List Change → Nat → List Item → List (List Bool) → Option ((HiState × Bool))
  | [], k3, v19, v20 =>
    some ((HiState.mk v19 v20), true)
  | y4 :: ys5, k3, v19, v20 =>
    cond (decide (y4.tick > tick))
      (some ((HiState.mk v19 v20), true))
      ((spec_hiState_change_p (HiState.mk v19 v20) y4).bind fun x22 =>
      (opt ((!(!x22.2)) && decide ((k3 : Int) > 0)) default (getI h (w64 ((k3 : Int) - 1)))).bind fun x24 =>
      cond ((!x22.2) || (decide ((k3 : Int) > 0) && decide (x24.tick > y4.tick)))
        (some ((HiState.mk x22.1.items x22.1.open'), false))
        (spec_hiRun_l1 h tick ys5 (k3 + 1) x22.1.items x22.1.open'))
def spec_hiRun_p (l : List Item) (h : List Change) (tick : Int) : Option (HiState × Bool) :=
  (spec_hiStart_p l).bind fun x1 =>
  spec_hiRun_l1 h tick h 0 x1.items x1.open'
theorem spec_hiRun_ok (l : List Item) (h : List Change) (tick : Int) (r : (HiState × Bool)) (hH : spec_hiRun_p l h tick = some r) : SpecR Tryd.prog 55 [.s (List.map encItem l), .s (List.map encChange h), tick] (.t [.pn (encHiStateO r.1), .v (.bool r.2)]) := by
 refine fn_ok T Tryd.func55 rfl (by decide) rfl ?_
 refine AW.seq (AW.region ?_)
 iterate 2 refine AO.pu T ?_
 refine AO.nil (AW.seq ?_)
 obtain ⟨x1, hx2, hH⟩ := bindE hH
 refine AW.region ?_
 refine AO.pu T ?_
 refine AO.step rfl (call_ok rfl 1 rfl rfl rfl (spec_hiStart_ok _ _ (hx2)) rfl rfl rfl) ?_
 refine AO.pu T ?_
 refine AO.nil ?_
 iterate 2 refine AW.seq ?_
 refine AW.region ?_
 refine AO.pu T ?_
 refine AO.val rfl rfl (len_map_ok T rfl rfl rfl) ?_
 refine AO.pu T ?_
 refine AO.nil ?_
 refine AW.block ?_
 refine AW.loopS (fun s : Nat × (List Item) × (List (List Bool)) => (⟨[(1, .s (List.map encChange h)), (2, tick), (8, .p 1 0), (13, .s (List.map encChange h)), (14, (h.length : Int)), (15, (s.1 : Int))], [(1, .box [.R 2, .R 3]), (2, .row 3 (List.map encItemO s.2.1)), (3, .row 1 (List.map encLBoolO s.2.2))], 46, []⟩ : St)) (fun s => s.1 ≤ h.length ∧ spec_hiRun_l1 h tick (h.drop s.1) s.1 s.2.1 s.2.2 = some r) (fun s => h.length - s.1) (0, x1.items, x1.open') ⟨Nat.zero_le _, hH⟩ ?_ ?_
 exact Le.ct 0 0
 rintro ⟨k3, v19, v20⟩ ⟨hk, hH⟩
 replace hH : spec_hiRun_l1 h tick (h.drop k3) k3 v19 v20 = some r := hH
 try dsimp only
 refine AW.boundM (t := 1) (l := h) rfl (fun hb7 => ?_)
 rcases hd6 : h.drop k3 with _ | ⟨y4, ys5⟩
 rw [hd6, spec_hiRun_l1] at hH
 have hlt8 := drop_ge hd6
 refine AW.seq (AW.region ?_)
 refine AO.pu T ?_
 refine AO.nil (AW.seq ?_)
 refine AW.condF' (b := decide ((k3 : Int) < (h.length : Int))) rfl (rngF hlt8) ?_
 refine AW.exit ?_
 refine AW.seq (AW.region ?_)
 iterate 3 refine AO.pu T ?_
 refine AO.nil (AW.ret ?_)
 have hR := someE hH; subst hR
 exact retQ.i [1, 2, 3] rfl (.t (expLG_cons (.pb rfl (expLC_cons (.rowR rfl) (expLC_cons (.rowR rfl) (expLC_nil)))) (expLG_cons (.c .v) (expLG_nil))))
 rw [hd6, spec_hiRun_l1] at hH
 have hlt8 := drop_lt hd6
 refine AW.seq (AW.region ?_)
 refine AO.pu T ?_
 refine AO.nil (AW.seq ?_)
 refine AW.condT' (b := decide ((k3 : Int) < (h.length : Int))) rfl (rngT hlt8) ?_
 refine AW.skip ?_
 refine AW.seq ?_
 refine AW.block ?_
 refine AW.seq (AW.region ?_)
 refine AO.pu T ?_
 refine AO.val rfl rfl (ix_map_ok T rfl rfl rfl rfl rfl (getI_drop hd6) rfl) ?_
 refine AO.pu T (d := .g [y4.tick, y4.caller, y4.item, y4.name, y4.mark, .v (.bool y4.review)]) ?_
 refine AO.step rfl (alloc_ok T rfl 10 rfl rfl rfl rfl rfl) ?_
 refine AO.pu T ?_
 refine AO.se T [y4.tick, y4.caller, y4.item, y4.name, y4.mark, .v (.bool y4.review)] ?_
 refine AO.nil ?_
 iterate 2 refine AW.seq ?_
 refine AW.region ?_
 iterate 4 refine AO.pu T ?_
 refine AO.nil ?_
 refine AW.cond (b := decide (y4.tick > tick)) rfl (fun hc => ?_) (fun hc => ?_)
 replace hH := condT hc hH
 refine AW.exit ?_
 refine AW.seq (AW.region ?_)
 iterate 3 refine AO.pu T ?_
 refine AO.nil (AW.ret ?_)
 have hR := someE hH; subst hR
 exact retQ.i [1, 2, 3] rfl (.t (expLG_cons (.pb rfl (expLC_cons (.rowR rfl) (expLC_cons (.rowR rfl) (expLC_nil)))) (expLG_cons (.c .v) (expLG_nil))))
 replace hH := condF hc hH
 refine AW.skip ?_
 refine AW.seq ?_
 obtain ⟨x22, hx23, hH⟩ := bindE hH
 obtain ⟨x24, hx25, hH⟩ := bindE hH
 refine AW.drawn 16 11 [1, 2, 3] mix (by kernel_rfl) rfl ?_
 refine AD.pure T rfl rfl rfl ?_
 refine AD.pure T (d := .g [y4.tick, y4.caller, y4.item, y4.name, y4.mark, .v (.bool y4.review)]) rfl rfl rfl ?_
 refine AD.k rfl rfl (FStep.callP rfl rfl rfl rfl rfl (es := [.pn (encHiStateO (HiState.mk v19 v20)), .g (encChange y4)]) (us := [.u]) (cs := encHiStateO x22.1) (ids := [1, 2, 3]) (by exact expLG_cons (.pb rfl (expLC_cons (.rowR rfl) (expLC_cons (.rowR rfl) (expLC_nil)))) (expLG_cons (.g (expLC_cons .v (expLC_cons .v (expLC_cons .v (expLC_cons .v (expLC_cons .v (expLC_cons .v (expLC_nil)))))))) (expLG_nil))) (by decide) (by decide) (spec_hiState_change_ok _ _ _ (hx23)) rfl rfl (by rfl) rfl) rfl rfl rfl ?_
 iterate 2 refine AD.pure T rfl rfl rfl ?_
 refine AD.pureG T [] rfl trivial rfl rfl ?_
 refine AD.pureG T [29] rfl ⟨fun h => h, trivial⟩ rfl rfl ?_
 refine AD.pureG T [30] rfl ⟨fun h => h, trivial⟩ rfl rfl ?_
 iterate 2 refine AD.pureG T [] rfl trivial rfl rfl ?_
 refine AD.guard [33] rfl ⟨fun h => h, trivial⟩ (fun hg => arw_ok rfl rfl rfl rfl) rfl ?_
 refine AD.guard [32, 34] rfl ⟨fun h => h, fun h => h, trivial⟩ (fun hg => ix_map_ok T rfl rfl rfl rfl rfl (optT hx25 hg) rfl) rfl ?_
 refine AD.pureG T [35] rfl ⟨fun h => h, trivial⟩ rfl rfl ?_
 refine AD.pureG T [36] rfl ⟨fun h => h, trivial⟩ rfl rfl ?_
 refine AD.pureG T [] rfl trivial rfl rfl ?_
 refine AD.pureG T [38] rfl ⟨fun h => h, trivial⟩ rfl rfl ?_
 refine AD.nil ?_
 refine AO.pureG T [37, 39] rfl ⟨fun h => h, fun h => h, trivial⟩ rfl rfl ?_
 refine AO.guard [31] rfl ⟨fun h => h, trivial⟩ (fun hg => pick_and rfl rfl rfl (by rw [hg]; exact Bool.true_and _)) rfl ?_
 refine AO.val rfl rfl (pick_or rfl rfl rfl rfl) ?_
 refine AO.nil ?_
 refine AW.le (Le.ct 0 0 (σ' := (⟨[(1, .s (List.map encChange h)), (2, tick), (8, .p 1 0), (13, .s (List.map encChange h)), (14, (h.length : Int)), (15, (k3 : Int)), (42, .v (.bool ((!x22.2) || (decide ((k3 : Int) > 0) && decide (x24.tick > y4.tick)))))], [(1, .box [.R 11, .R 12]), (11, .row 3 (List.map encItemO x22.1.items)), (12, .row 1 (List.map encLBoolO x22.1.open'))], 46, []⟩ : St))) ?_
 refine AW.cond (b := ((!x22.2) || (decide ((k3 : Int) > 0) && decide (x24.tick > y4.tick)))) rfl (fun hc => ?_) (fun hc => ?_)
 replace hH := condT hc hH
 refine AW.seq (AW.region ?_)
 iterate 3 refine AO.pu T ?_
 refine AO.nil (AW.ret ?_)
 have hR := someE hH; subst hR
 exact retQ.i [1, 11, 12] rfl (.t (expLG_cons (.pb rfl (expLC_cons (.rowR rfl) (expLC_cons (.rowR rfl) (expLC_nil)))) (expLG_cons (.c .v) (expLG_nil))))
 replace hH := condF hc hH
 refine AW.skip ?_
 refine AW.region ?_
 refine AO.val rfl rfl (ar_ok rfl rfl rfl rfl (inI_succ hlt8 hb7)) ?_
 refine AO.pu T ?_
 refine AO.nil ?_
 refine ⟨(k3 + 1, x22.1.items, x22.1.open'), ⟨Nat.succ_le_of_lt hlt8, (by rw [drop_succ_of hd6]; exact hH)⟩, (by have := hlt8; dsimp only; omega), ?_⟩
 refine Le.trans (Le.ct 11 2 (σ' := (⟨[(1, .s (List.map encChange h)), (2, tick), (8, .p 1 0), (13, .s (List.map encChange h)), (14, (h.length : Int)), (15, ((k3 + 1 : Nat) : Int))], [(1, .box [.R 2, .R 12]), (2, .row 3 (List.map encItemO x22.1.items)), (12, .row 1 (List.map encLBoolO x22.1.open'))], 46, []⟩ : St))) ?_
 exact Le.ct 12 3

def spec_hiGood_l1 (l : List Item) (h : List Change) : List Change → Nat → Int → Option Bool
  | [], k1, v12 =>
    (spec_hiRun_p l h 100000).bind fun x14 =>
    some (x14.2 && decide ((h.length : Int) ≤ 60))
  | y2 :: ys3, k1, v12 =>
    (spec_l1In_p y2.tick v12 100000).bind fun x16 =>
    cond (!x16)
      (some false)
      (spec_hiGood_l1 l h ys3 (k1 + 1) y2.tick)
def spec_hiGood_p (l : List Item) (h : List Change) : Option Bool :=
  spec_hiGood_l1 l h h 0 0
theorem spec_hiGood_ok (l : List Item) (h : List Change) (r : Bool) (hH : spec_hiGood_p l h = some r) : SpecR Tryd.prog 33 [.s (List.map encItem l), .s (List.map encChange h)] (.v (.bool r)) := by
 refine fn_ok T Tryd.func33 rfl (by decide) rfl ?_
 refine AW.seq (AW.region ?_)
 refine AO.pu T ?_
 refine AO.nil (AW.seq ?_)
 refine AW.region ?_
 refine AO.pu T ?_
 refine AO.nil ?_
 iterate 2 refine AW.seq ?_
 refine AW.region ?_
 refine AO.pu T ?_
 refine AO.val rfl rfl (len_map_ok T rfl rfl rfl) ?_
 refine AO.pu T ?_
 refine AO.nil ?_
 refine AW.block ?_
 refine AW.loopS (fun s : Nat × Int => (⟨[(0, .s (List.map encItem l)), (1, .s (List.map encChange h)), (5, s.2), (10, .s (List.map encChange h)), (11, (h.length : Int)), (12, (s.1 : Int))], [], 36, []⟩ : St)) (fun s => s.1 ≤ h.length ∧ spec_hiGood_l1 l h (h.drop s.1) s.1 s.2 = some r) (fun s => h.length - s.1) (0, 0) ⟨Nat.zero_le _, hH⟩ ?_ ?_
 exact Le.ct 0 0
 rintro ⟨k1, v12⟩ ⟨hk, hH⟩
 replace hH : spec_hiGood_l1 l h (h.drop k1) k1 v12 = some r := hH
 try dsimp only
 refine AW.boundM (t := 1) (l := h) rfl (fun hb5 => ?_)
 rcases hd4 : h.drop k1 with _ | ⟨y2, ys3⟩
 rw [hd4, spec_hiGood_l1] at hH
 have hlt6 := drop_ge hd4
 refine AW.seq (AW.region ?_)
 refine AO.pu T ?_
 refine AO.nil (AW.seq ?_)
 refine AW.condF' (b := decide ((k1 : Int) < (h.length : Int))) rfl (rngF hlt6) ?_
 refine AW.exit ?_
 refine AW.seq ?_
 obtain ⟨x14, hx15, hH⟩ := bindE hH
 refine AW.region ?_
 iterate 2 refine AO.pu T ?_
 refine AO.step rfl (call_ok rfl 3 rfl rfl rfl (spec_hiRun_ok _ _ _ _ (hx15)) rfl rfl rfl) ?_
 iterate 5 refine AO.pu T ?_
 refine AO.nil (AW.seq ?_)
 refine AW.region ?_
 iterate 2 refine AO.pu T ?_
 refine AO.pureG T [] rfl trivial rfl rfl ?_
 refine AO.guard [32] rfl ⟨fun h => h, trivial⟩ (fun hg => len_map_ok T rfl rfl rfl) rfl ?_
 refine AO.pureG T [33] rfl ⟨fun h => h, trivial⟩ rfl rfl ?_
 refine AO.val rfl rfl (pick_and rfl rfl rfl rfl) ?_
 refine AO.pu T ?_
 refine AO.nil (AW.ret ?_)
 have hR := someE hH; subst hR
 exact retQ.i [] rfl (.c (.c .v))
 rw [hd4, spec_hiGood_l1] at hH
 have hlt6 := drop_lt hd4
 refine AW.seq (AW.region ?_)
 refine AO.pu T ?_
 refine AO.nil (AW.seq ?_)
 refine AW.condT' (b := decide ((k1 : Int) < (h.length : Int))) rfl (rngT hlt6) ?_
 refine AW.skip ?_
 refine AW.seq ?_
 refine AW.block ?_
 refine AW.seq (AW.region ?_)
 refine AO.val rfl rfl (ix_map_ok T rfl rfl rfl rfl rfl (getI_drop hd4) rfl) ?_
 refine AO.pu T (d := .g [y2.tick, y2.caller, y2.item, y2.name, y2.mark, .v (.bool y2.review)]) ?_
 refine AO.step rfl (alloc_ok T rfl 6 rfl rfl rfl rfl rfl) ?_
 refine AO.se T [y2.tick, y2.caller, y2.item, y2.name, y2.mark, .v (.bool y2.review)] ?_
 refine AO.nil ?_
 iterate 2 refine AW.seq ?_
 obtain ⟨x16, hx17, hH⟩ := bindE hH
 refine AW.region ?_
 iterate 3 refine AO.pu T ?_
 refine AO.val rfl rfl (callV_ok rfl rfl rfl rfl (spec_l1In_ok _ _ _ _ (hx17)) rfl) ?_
 refine AO.pu T ?_
 refine AO.nil ?_
 refine AW.cond (b := (!x16)) rfl (fun hc => ?_) (fun hc => ?_)
 replace hH := condT hc hH
 refine AW.seq (AW.region ?_)
 refine AO.pu T ?_
 refine AO.nil (AW.ret ?_)
 have hR := someE hH; subst hR
 exact retQ.i [] rfl (.c (.c .v))
 replace hH := condF hc hH
 refine AW.skip ?_
 refine AW.region ?_
 iterate 3 refine AO.pu T ?_
 refine AO.nil ?_
 refine AW.region ?_
 refine AO.val rfl rfl (ar_ok rfl rfl rfl rfl (inI_succ hlt6 hb5)) ?_
 refine AO.pu T ?_
 refine AO.nil ?_
 refine ⟨(k1 + 1, y2.tick), ⟨Nat.succ_le_of_lt hlt6, (by rw [drop_succ_of hd4]; exact hH)⟩, (by have := hlt6; dsimp only; omega), ?_⟩
 exact Le.ct 0 0

def spec_hiAsked_p (fuel : Nat) (l : List Item) (h : List Change) : Option Bool :=
  (spec_itList_p fuel l).bind fun x1 =>
  (opt x1 default (spec_hiGood_p l h)).bind fun x3 =>
  some (x1 && x3)
theorem spec_hiAsked_ok (fuel : Nat) (l : List Item) (h : List Change) (r : Bool) (hH : spec_hiAsked_p fuel l h = some r) : SpecR Tryd.prog 19 [.s (List.map encItem l), .s (List.map encChange h)] (.v (.bool r)) := by
 refine fn_ok T Tryd.func19 rfl (by decide) rfl ?_
 refine AW.seq (AW.region ?_)
 refine AO.pu T ?_
 refine AO.nil (AW.seq ?_)
 obtain ⟨x1, hx2, hH⟩ := bindE hH
 obtain ⟨x3, hx4, hH⟩ := bindE hH
 refine AW.region ?_
 refine AO.pu T ?_
 refine AO.val rfl rfl (callV_ok rfl rfl rfl rfl (spec_itList_ok fuel _ _ (hx2)) rfl) ?_
 refine AO.pu T ?_
 iterate 2 refine AO.pureG T [] rfl trivial rfl rfl ?_
 refine AO.guard [8, 9] rfl ⟨fun h => h, fun h => h, trivial⟩ (fun hg => callV_ok rfl rfl rfl rfl (spec_hiGood_ok _ _ _ (optT hx4 hg)) rfl) rfl ?_
 refine AO.val rfl rfl (pick_and rfl rfl rfl rfl) ?_
 refine AO.pu T ?_
 refine AO.nil (AW.ret ?_)
 have hR := someE hH; subst hR
 exact retQ.i [] rfl (.c (.c .v))

def spec_l1Num_p (fuel : Nat) : Nat → Int → Option ByteArray
  | 0, _ => none
  | rf + 1, n =>
    cond (decide (n < 10))
      (some (strOfNums [IntKind.wrap .u8 (w64 (48 + n))]))
      ((need (10 != 0)).bind fun u1 =>
      (spec_l1Num_p fuel rf (w64 (n.tdiv 10))).bind fun x3 =>
      (need (Nat.ble (x3.size + (strOfNums [IntKind.wrap .u8 (w64 (48 + (n.tmod 10)))]).size) maxN)).bind fun u5 =>
      some (x3 ++ (strOfNums [IntKind.wrap .u8 (w64 (48 + (n.tmod 10)))])))
theorem spec_l1Num_ok (fuel : Nat) : ∀ (rf : Nat) (n : Int) (r : ByteArray) (hH : spec_l1Num_p fuel rf n = some r), SpecR Tryd.prog 44 [n] (.v (.string r)) := by
 intro rf
 induction rf with
 | zero => intro n r hH; rw [spec_l1Num_p] at hH; cases hH
 | succ rf ih =>
 intro n r hH
 rw [spec_l1Num_p] at hH
 refine fn_ok T Tryd.func44 rfl (by decide) rfl ?_
 refine AW.seq (AW.region ?_)
 refine AO.pu T ?_
 refine AO.nil ?_
 iterate 2 refine AW.seq ?_
 refine AW.region ?_
 iterate 2 refine AO.pu T ?_
 refine AO.nil ?_
 refine AW.cond (b := decide (n < 10)) rfl (fun hc => ?_) (fun hc => ?_)
 replace hH := condT hc hH
 refine AW.seq (AW.region ?_)
 refine AO.pu T ?_
 refine AO.val rfl rfl (arw_ok rfl rfl rfl rfl) ?_
 refine AO.val rfl rfl (convw_ok T rfl rfl rfl rfl) ?_
 refine AO.step rfl (mk_map_ok T rfl 1 rfl rfl rfl rfl rfl (f := encInt_u8) (l := [IntKind.wrap .u8 (w64 (48 + n))]) rfl rfl (fun _ => rfl) rfl rfl rfl rfl rfl) ?_
 refine AO.val rfl rfl (conv_bytes_ok T rfl rfl rfl rfl rfl rfl (fun _ => rfl) rfl) ?_
 refine AO.pu T ?_
 refine AO.nil (AW.ret ?_)
 have hR := someE hH; subst hR
 exact retQ.i [] rfl (.c (.c .v))
 replace hH := condF hc hH
 refine AW.skip ?_
 refine AW.seq ?_
 obtain ⟨u1, hx2, hH⟩ := bindE hH
 obtain ⟨x3, hx4, hH⟩ := bindE hH
 obtain ⟨u5, hx6, hH⟩ := bindE hH
 refine AW.drawn 9 2 [] mix (by kernel_rfl) rfl ?_
 refine AD.pure T rfl rfl rfl ?_
 refine AD.val rfl rfl (quow_ok rfl rfl rfl (neZ (needT (hx2)))) ?_
 refine AD.val rfl rfl (callV_ok rfl rfl rfl rfl (ih _ _ (hx4)) rfl) ?_
 refine AD.pure T rfl rfl rfl ?_
 refine AD.val rfl rfl (rem_ok rfl rfl rfl (neZ (needT (hx2)))) ?_
 refine AD.val rfl rfl (arw_ok rfl rfl rfl rfl) ?_
 refine AD.val rfl rfl (convw_ok T rfl rfl rfl rfl) ?_
 refine AD.q (FStep.mk T (f := encInt_u8) (l := [IntKind.wrap .u8 (w64 (48 + (n.tmod 10)))]) rfl rfl rfl rfl rfl rfl rfl rfl rfl (fun _ => rfl) rfl rfl rfl rfl) (by simp [namesIn]) (Nat.le_succ _) rfl ?_
 refine AD.vald rfl rfl rfl (conv_bytes_ok T rfl rfl rfl rfl rfl rfl (fun _ => rfl) rfl) ?_
 refine AD.nil ?_
 refine AO.val rfl rfl (concat_ok rfl rfl rfl (Nat.le_of_ble_eq_true (needT (hx6)))) ?_
 refine AO.pu T ?_
 refine AO.nil (AW.ret ?_)
 have hR := someE hH; subst hR
 exact retQ.i [] rfl (.c (.c .v))

def spec_hiWords_p  : Option (List ByteArray) :=
  some [(⟨#[110, 111, 110, 101]⟩ : ByteArray), (⟨#[100, 111, 119, 110]⟩ : ByteArray), (⟨#[101, 100, 103, 101]⟩ : ByteArray), (⟨#[118, 111, 105, 100]⟩ : ByteArray)]
theorem spec_hiWords_ok  (r : (List ByteArray)) (hH : spec_hiWords_p  = some r) : SpecR Tryd.prog 32 [] (.w 1 (r.map encStr)) := by
 refine fn_ok T Tryd.func32 rfl (by decide) rfl ?_
 refine AW.seq (AW.region ?_)
 refine AO.pu T ?_
 refine AO.nil (AW.seq ?_)
 refine AW.region ?_
 refine AO.step rfl (mk_map_ok T rfl 1 rfl rfl rfl rfl rfl (f := encStr) (l := [(⟨#[110, 111, 110, 101]⟩ : ByteArray), (⟨#[100, 111, 119, 110]⟩ : ByteArray), (⟨#[101, 100, 103, 101]⟩ : ByteArray), (⟨#[118, 111, 105, 100]⟩ : ByteArray)]) rfl rfl (fun _ => rfl) rfl rfl rfl rfl rfl) ?_
 refine AO.pu T ?_
 refine AO.nil (AW.ret ?_)
 have hR := someE hH; subst hR
 exact retQ.i [1] rfl (.c (.c (.rowR rfl)))

def spec_hiText_l1 (fuel : Nat) : List Change → Nat → ByteArray → Option ByteArray
  | [], k1, v80 =>
    some v80
  | y2 :: ys3, k1, v80 =>
    (spec_l1Num_p fuel fuel y2.tick).bind fun x82 =>
    (need (Nat.ble (x82.size + (⟨#[32]⟩ : ByteArray).size) maxN)).bind fun u84 =>
    (spec_l1Num_p fuel fuel y2.caller).bind fun x86 =>
    (need (Nat.ble ((x82 ++ (⟨#[32]⟩ : ByteArray)).size + x86.size) maxN)).bind fun u88 =>
    (need (Nat.ble (((x82 ++ (⟨#[32]⟩ : ByteArray)) ++ x86).size + (⟨#[32]⟩ : ByteArray).size) maxN)).bind fun u90 =>
    (spec_l1Num_p fuel fuel y2.item).bind fun x92 =>
    (need (Nat.ble ((((x82 ++ (⟨#[32]⟩ : ByteArray)) ++ x86) ++ (⟨#[32]⟩ : ByteArray)).size + x92.size) maxN)).bind fun u94 =>
    (need (Nat.ble (((((x82 ++ (⟨#[32]⟩ : ByteArray)) ++ x86) ++ (⟨#[32]⟩ : ByteArray)) ++ x92).size + (⟨#[32]⟩ : ByteArray).size) maxN)).bind fun u96 =>
    (spec_l1Num_p fuel fuel y2.name).bind fun x98 =>
    (need (Nat.ble ((((((x82 ++ (⟨#[32]⟩ : ByteArray)) ++ x86) ++ (⟨#[32]⟩ : ByteArray)) ++ x92) ++ (⟨#[32]⟩ : ByteArray)).size + x98.size) maxN)).bind fun u100 =>
    (need (Nat.ble (((((((x82 ++ (⟨#[32]⟩ : ByteArray)) ++ x86) ++ (⟨#[32]⟩ : ByteArray)) ++ x92) ++ (⟨#[32]⟩ : ByteArray)) ++ x98).size + (⟨#[32]⟩ : ByteArray).size) maxN)).bind fun u102 =>
    (spec_hiWords_p ).bind fun x104 =>
    (getI x104 y2.mark).bind fun x106 =>
    (need (Nat.ble ((((((((x82 ++ (⟨#[32]⟩ : ByteArray)) ++ x86) ++ (⟨#[32]⟩ : ByteArray)) ++ x92) ++ (⟨#[32]⟩ : ByteArray)) ++ x98) ++ (⟨#[32]⟩ : ByteArray)).size + x106.size) maxN)).bind fun u108 =>
    (need (Nat.ble (v80.size + ((((((((x82 ++ (⟨#[32]⟩ : ByteArray)) ++ x86) ++ (⟨#[32]⟩ : ByteArray)) ++ x92) ++ (⟨#[32]⟩ : ByteArray)) ++ x98) ++ (⟨#[32]⟩ : ByteArray)) ++ x106).size) maxN)).bind fun u110 =>
    cond y2.review
      ((need (Nat.ble ((v80 ++ ((((((((x82 ++ (⟨#[32]⟩ : ByteArray)) ++ x86) ++ (⟨#[32]⟩ : ByteArray)) ++ x92) ++ (⟨#[32]⟩ : ByteArray)) ++ x98) ++ (⟨#[32]⟩ : ByteArray)) ++ x106)).size + (⟨#[32, 114, 101, 118, 105, 101, 119]⟩ : ByteArray).size) maxN)).bind fun u112 =>
      (need (Nat.ble (((v80 ++ ((((((((x82 ++ (⟨#[32]⟩ : ByteArray)) ++ x86) ++ (⟨#[32]⟩ : ByteArray)) ++ x92) ++ (⟨#[32]⟩ : ByteArray)) ++ x98) ++ (⟨#[32]⟩ : ByteArray)) ++ x106)) ++ (⟨#[32, 114, 101, 118, 105, 101, 119]⟩ : ByteArray)).size + (⟨#[10]⟩ : ByteArray).size) maxN)).bind fun u114 =>
      spec_hiText_l1 fuel ys3 (k1 + 1) (((v80 ++ ((((((((x82 ++ (⟨#[32]⟩ : ByteArray)) ++ x86) ++ (⟨#[32]⟩ : ByteArray)) ++ x92) ++ (⟨#[32]⟩ : ByteArray)) ++ x98) ++ (⟨#[32]⟩ : ByteArray)) ++ x106)) ++ (⟨#[32, 114, 101, 118, 105, 101, 119]⟩ : ByteArray)) ++ (⟨#[10]⟩ : ByteArray)))
      ((need (Nat.ble ((v80 ++ ((((((((x82 ++ (⟨#[32]⟩ : ByteArray)) ++ x86) ++ (⟨#[32]⟩ : ByteArray)) ++ x92) ++ (⟨#[32]⟩ : ByteArray)) ++ x98) ++ (⟨#[32]⟩ : ByteArray)) ++ x106)).size + (⟨#[10]⟩ : ByteArray).size) maxN)).bind fun u116 =>
      spec_hiText_l1 fuel ys3 (k1 + 1) ((v80 ++ ((((((((x82 ++ (⟨#[32]⟩ : ByteArray)) ++ x86) ++ (⟨#[32]⟩ : ByteArray)) ++ x92) ++ (⟨#[32]⟩ : ByteArray)) ++ x98) ++ (⟨#[32]⟩ : ByteArray)) ++ x106)) ++ (⟨#[10]⟩ : ByteArray)))
def spec_hiText_p (fuel : Nat) (h : List Change) : Option ByteArray :=
  spec_hiText_l1 fuel h 0 (⟨#[]⟩ : ByteArray)
theorem spec_hiText_ok (fuel : Nat) (h : List Change) (r : ByteArray) (hH : spec_hiText_p fuel h = some r) : SpecR Tryd.prog 20 [.s (List.map encChange h)] (.v (.string r)) := by
 refine fn_ok T Tryd.func20 rfl (by decide) rfl ?_
 refine AW.seq (AW.region ?_)
 refine AO.pu T ?_
 refine AO.nil (AW.seq ?_)
 refine AW.region ?_
 refine AO.pu T ?_
 refine AO.nil ?_
 iterate 2 refine AW.seq ?_
 refine AW.region ?_
 refine AO.pu T ?_
 refine AO.val rfl rfl (len_map_ok T rfl rfl rfl) ?_
 refine AO.pu T ?_
 refine AO.nil ?_
 refine AW.block ?_
 refine AW.loopS (fun s : Nat × ByteArray => (⟨[(3, .v (.string s.2)), (6, .s (List.map encChange h)), (7, (h.length : Int)), (8, (s.1 : Int))], [], 47, []⟩ : St)) (fun s => s.1 ≤ h.length ∧ spec_hiText_l1 fuel (h.drop s.1) s.1 s.2 = some r) (fun s => h.length - s.1) (0, (⟨#[]⟩ : ByteArray)) ⟨Nat.zero_le _, hH⟩ ?_ ?_
 exact Le.ct 0 0
 rintro ⟨k1, v80⟩ ⟨hk, hH⟩
 replace hH : spec_hiText_l1 fuel (h.drop k1) k1 v80 = some r := hH
 try dsimp only
 refine AW.boundM (t := 6) (l := h) rfl (fun hb5 => ?_)
 rcases hd4 : h.drop k1 with _ | ⟨y2, ys3⟩
 rw [hd4, spec_hiText_l1] at hH
 have hlt6 := drop_ge hd4
 refine AW.seq (AW.region ?_)
 refine AO.pu T ?_
 refine AO.nil (AW.seq ?_)
 refine AW.condF' (b := decide ((k1 : Int) < (h.length : Int))) rfl (rngF hlt6) ?_
 refine AW.exit ?_
 refine AW.seq (AW.region ?_)
 iterate 2 refine AO.pu T ?_
 refine AO.nil (AW.ret ?_)
 have hR := someE hH; subst hR
 exact retQ.i [] rfl (.c (.c .v))
 rw [hd4, spec_hiText_l1] at hH
 have hlt6 := drop_lt hd4
 refine AW.seq (AW.region ?_)
 refine AO.pu T ?_
 refine AO.nil (AW.seq ?_)
 refine AW.condT' (b := decide ((k1 : Int) < (h.length : Int))) rfl (rngT hlt6) ?_
 refine AW.skip ?_
 refine AW.seq ?_
 refine AW.block ?_
 refine AW.seq (AW.region ?_)
 refine AO.val rfl rfl (ix_map_ok T rfl rfl rfl rfl rfl (getI_drop hd4) rfl) ?_
 refine AO.pu T (d := .g [y2.tick, y2.caller, y2.item, y2.name, y2.mark, .v (.bool y2.review)]) ?_
 refine AO.step rfl (alloc_ok T rfl 5 rfl rfl rfl rfl rfl) ?_
 refine AO.se T [y2.tick, y2.caller, y2.item, y2.name, y2.mark, .v (.bool y2.review)] ?_
 refine AO.nil (AW.seq ?_)
 obtain ⟨x82, hx83, hH⟩ := bindE hH
 obtain ⟨u84, hx85, hH⟩ := bindE hH
 obtain ⟨x86, hx87, hH⟩ := bindE hH
 obtain ⟨u88, hx89, hH⟩ := bindE hH
 obtain ⟨u90, hx91, hH⟩ := bindE hH
 obtain ⟨x92, hx93, hH⟩ := bindE hH
 obtain ⟨u94, hx95, hH⟩ := bindE hH
 obtain ⟨u96, hx97, hH⟩ := bindE hH
 obtain ⟨x98, hx99, hH⟩ := bindE hH
 obtain ⟨u100, hx101, hH⟩ := bindE hH
 obtain ⟨u102, hx103, hH⟩ := bindE hH
 obtain ⟨x104, hx105, hH⟩ := bindE hH
 obtain ⟨x106, hx107, hH⟩ := bindE hH
 obtain ⟨u108, hx109, hH⟩ := bindE hH
 obtain ⟨u110, hx111, hH⟩ := bindE hH
 refine AW.drawn 26 6 [] mix (by kernel_rfl) rfl ?_
 iterate 3 refine AD.pure T rfl rfl rfl ?_
 refine AD.val rfl rfl (callV_ok rfl rfl rfl rfl (spec_l1Num_ok fuel fuel _ _ (hx83)) rfl) ?_
 refine AD.val rfl rfl (concat_ok rfl rfl rfl (Nat.le_of_ble_eq_true (needT (hx85)))) ?_
 iterate 2 refine AD.pure T rfl rfl rfl ?_
 refine AD.val rfl rfl (callV_ok rfl rfl rfl rfl (spec_l1Num_ok fuel fuel _ _ (hx87)) rfl) ?_
 refine AD.val rfl rfl (concat_ok rfl rfl rfl (Nat.le_of_ble_eq_true (needT (hx89)))) ?_
 refine AD.val rfl rfl (concat_ok rfl rfl rfl (Nat.le_of_ble_eq_true (needT (hx91)))) ?_
 iterate 2 refine AD.pure T rfl rfl rfl ?_
 refine AD.val rfl rfl (callV_ok rfl rfl rfl rfl (spec_l1Num_ok fuel fuel _ _ (hx93)) rfl) ?_
 refine AD.val rfl rfl (concat_ok rfl rfl rfl (Nat.le_of_ble_eq_true (needT (hx95)))) ?_
 refine AD.val rfl rfl (concat_ok rfl rfl rfl (Nat.le_of_ble_eq_true (needT (hx97)))) ?_
 iterate 2 refine AD.pure T rfl rfl rfl ?_
 refine AD.val rfl rfl (callV_ok rfl rfl rfl rfl (spec_l1Num_ok fuel fuel _ _ (hx99)) rfl) ?_
 refine AD.val rfl rfl (concat_ok rfl rfl rfl (Nat.le_of_ble_eq_true (needT (hx101)))) ?_
 refine AD.val rfl rfl (concat_ok rfl rfl rfl (Nat.le_of_ble_eq_true (needT (hx103)))) ?_
 refine AD.q (FStep.call rfl rfl rfl rfl rfl (spec_hiWords_ok _ (hx105)) rfl rfl) (impT_names _ _) (impT_le _ _) rfl ?_
 iterate 2 refine AD.pure T rfl rfl rfl ?_
 refine AD.vald rfl rfl rfl (ix_row_ok T rfl rfl rfl rfl rfl rfl (hx107)) ?_
 refine AD.vald rfl rfl rfl (load_row_ok T rfl rfl rfl rfl (getI_get (hx107)) rfl rfl rfl) ?_
 refine AD.val rfl rfl (concat_ok rfl rfl rfl (Nat.le_of_ble_eq_true (needT (hx109)))) ?_
 refine AD.nil ?_
 refine AO.val rfl rfl (concat_ok rfl rfl rfl (Nat.le_of_ble_eq_true (needT (hx111)))) ?_
 refine AO.pu T ?_
 refine AO.nil ?_
 refine AW.le (Le.ct 0 0 (σ' := (⟨[(3, .v (.string (v80 ++ ((((((((x82 ++ (⟨#[32]⟩ : ByteArray)) ++ x86) ++ (⟨#[32]⟩ : ByteArray)) ++ x92) ++ (⟨#[32]⟩ : ByteArray)) ++ x98) ++ (⟨#[32]⟩ : ByteArray)) ++ x106)))), (5, .p 5 0), (6, .s (List.map encChange h)), (7, (h.length : Int)), (8, (k1 : Int))], [(5, .box [y2.tick, y2.caller, y2.item, y2.name, y2.mark, .v (.bool y2.review)])], 47, []⟩ : St))) ?_
 iterate 2 refine AW.seq ?_
 refine AW.region ?_
 iterate 2 refine AO.pu T ?_
 refine AO.nil ?_
 refine AW.cond (b := y2.review) rfl (fun hc => ?_) (fun hc => ?_)
 replace hH := condT hc hH
 obtain ⟨u112, hx113, hH⟩ := bindE hH
 refine AW.region ?_
 refine AO.pu T ?_
 refine AO.val rfl rfl (concat_ok rfl rfl rfl (Nat.le_of_ble_eq_true (needT (hx113)))) ?_
 refine AO.pu T ?_
 refine AO.nil ?_
 obtain ⟨u114, hx115, hH⟩ := bindE hH
 refine AW.region ?_
 refine AO.pu T ?_
 refine AO.val rfl rfl (concat_ok rfl rfl rfl (Nat.le_of_ble_eq_true (needT (hx115)))) ?_
 refine AO.pu T ?_
 refine AO.nil ?_
 refine AW.region ?_
 refine AO.val rfl rfl (ar_ok rfl rfl rfl rfl (inI_succ hlt6 hb5)) ?_
 refine AO.pu T ?_
 refine AO.nil ?_
 refine ⟨(k1 + 1, (((v80 ++ ((((((((x82 ++ (⟨#[32]⟩ : ByteArray)) ++ x86) ++ (⟨#[32]⟩ : ByteArray)) ++ x92) ++ (⟨#[32]⟩ : ByteArray)) ++ x98) ++ (⟨#[32]⟩ : ByteArray)) ++ x106)) ++ (⟨#[32, 114, 101, 118, 105, 101, 119]⟩ : ByteArray)) ++ (⟨#[10]⟩ : ByteArray))), ⟨Nat.succ_le_of_lt hlt6, (by rw [drop_succ_of hd4]; exact hH)⟩, (by have := hlt6; dsimp only; omega), ?_⟩
 exact Le.ct 0 0
 replace hH := condF hc hH
 refine AW.skip ?_
 obtain ⟨u116, hx117, hH⟩ := bindE hH
 refine AW.region ?_
 refine AO.pu T ?_
 refine AO.val rfl rfl (concat_ok rfl rfl rfl (Nat.le_of_ble_eq_true (needT (hx117)))) ?_
 refine AO.pu T ?_
 refine AO.nil ?_
 refine AW.region ?_
 refine AO.val rfl rfl (ar_ok rfl rfl rfl rfl (inI_succ hlt6 hb5)) ?_
 refine AO.pu T ?_
 refine AO.nil ?_
 refine ⟨(k1 + 1, ((v80 ++ ((((((((x82 ++ (⟨#[32]⟩ : ByteArray)) ++ x86) ++ (⟨#[32]⟩ : ByteArray)) ++ x92) ++ (⟨#[32]⟩ : ByteArray)) ++ x98) ++ (⟨#[32]⟩ : ByteArray)) ++ x106)) ++ (⟨#[10]⟩ : ByteArray))), ⟨Nat.succ_le_of_lt hlt6, (by rw [drop_succ_of hd4]; exact hH)⟩, (by have := hlt6; dsimp only; omega), ?_⟩
 exact Le.ct 0 0

def spec_HistoryText_p (fuel : Nat) (l : List Item) (h : List Change) : Option (ByteArray × Bool) :=
  (spec_hiAsked_p fuel l h).bind fun x1 =>
  cond (!x1)
    (some ((⟨#[]⟩ : ByteArray), false))
    ((spec_hiText_p fuel h).bind fun x3 =>
    some (x3, true))
theorem spec_HistoryText_ok (fuel : Nat) (l : List Item) (h : List Change) (r : (ByteArray × Bool)) (hH : spec_HistoryText_p fuel l h = some r) : SpecR Tryd.prog 7 [.s (List.map encItem l), .s (List.map encChange h)] (.t [.v (.string r.1), .v (.bool r.2)]) := by
 refine fn_ok T Tryd.func7 rfl (by decide) rfl ?_
 refine AW.seq (AW.region ?_)
 iterate 2 refine AO.pu T ?_
 refine AO.nil ?_
 iterate 2 refine AW.seq ?_
 obtain ⟨x1, hx2, hH⟩ := bindE hH
 refine AW.region ?_
 iterate 2 refine AO.pu T ?_
 refine AO.val rfl rfl (callV_ok rfl rfl rfl rfl (spec_hiAsked_ok fuel _ _ _ (hx2)) rfl) ?_
 refine AO.pu T ?_
 refine AO.nil ?_
 refine AW.cond (b := (!x1)) rfl (fun hc => ?_) (fun hc => ?_)
 replace hH := condT hc hH
 refine AW.seq (AW.region ?_)
 iterate 2 refine AO.pu T ?_
 refine AO.nil (AW.ret ?_)
 have hR := someE hH; subst hR
 exact retQ.i [] rfl (.t (expLG_cons (.c .v) (expLG_cons (.c .v) (expLG_nil))))
 replace hH := condF hc hH
 refine AW.skip ?_
 refine AW.seq ?_
 obtain ⟨x3, hx4, hH⟩ := bindE hH
 refine AW.region ?_
 refine AO.pu T ?_
 refine AO.val rfl rfl (callV_ok rfl rfl rfl rfl (spec_hiText_ok fuel _ _ (hx4)) rfl) ?_
 iterate 2 refine AO.pu T ?_
 refine AO.nil (AW.ret ?_)
 have hR := someE hH; subst hR
 exact retQ.i [] rfl (.t (expLG_cons (.c .v) (expLG_cons (.c .v) (expLG_nil))))

def impl_within_p (n : Int) (low : Int) (high : Int) : Option Bool :=
  some (decide (n ≥ low) && decide (n ≤ high))
theorem impl_within_ok (n : Int) (low : Int) (high : Int) (r : Bool) (hH : impl_within_p n low high = some r) : SpecR Tryd.prog 71 [n, low, high] (.v (.bool r)) := by
 refine fn_ok T Tryd.func71 rfl (by decide) rfl ?_
 refine AW.seq (AW.region ?_)
 refine AO.pu T ?_
 refine AO.nil (AW.seq ?_)
 refine AW.region ?_
 iterate 4 refine AO.pu T ?_
 iterate 2 refine AO.pureG T [] rfl trivial rfl rfl ?_
 refine AO.pureG T [11, 12] rfl ⟨fun h => h, fun h => h, trivial⟩ rfl rfl ?_
 refine AO.val rfl rfl (pick_and rfl rfl rfl rfl) ?_
 refine AO.pu T ?_
 refine AO.nil (AW.ret ?_)
 have hR := someE hH; subst hR
 exact retQ.i [] rfl (.c (.c .v))

def impl_IsElementName_l1 (sA : ByteArray) : Nat → Int → Option Bool
  | 0, _ => none
  | k1 + 1, v7 =>
    cond (decide (v7 < (sA.size : Int)))
      ((strI sA v7).bind fun b9 =>
      cond ((decide ((b9.toNat : Int) < 65) || decide ((b9.toNat : Int) > 90)) && (decide ((b9.toNat : Int) < 48) || decide ((b9.toNat : Int) > 57)))
        (some false)
        (impl_IsElementName_l1 sA k1 (w64 (v7 + 1))))
      ((impl_within_p (sA.size : Int) 1 5).bind fun x11 =>
      some x11)
def impl_IsElementName_p (fuel : Nat) (sA : ByteArray) : Option Bool :=
  impl_IsElementName_l1 sA fuel 0
theorem impl_IsElementName_ok (fuel : Nat) (sA : ByteArray) (r : Bool) (hH : impl_IsElementName_p fuel sA = some r) : SpecR Tryd.prog 88 [.v (.string sA)] (.v (.bool r)) := by
 refine fn_ok T Tryd.func88 rfl (by decide) rfl ?_
 refine AW.seq (AW.region ?_)
 refine AO.pu T ?_
 refine AO.nil ?_
 iterate 2 refine AW.seq ?_
 refine AW.region ?_
 refine AO.pu T ?_
 refine AO.nil ?_
 refine AW.block ?_
 refine AW.loopS (fun s : Nat × Int => (⟨[(0, .v (.string sA)), (3, s.2)], [], 35, []⟩ : St)) (fun s => impl_IsElementName_l1 sA s.1 s.2 = some r) (fun s => s.1) (fuel, 0) hH ?_ ?_
 exact Le.ct 0 0
 rintro ⟨k1, v7⟩ hH
 replace hH : impl_IsElementName_l1 sA k1 v7 = some r := hH
 try dsimp only
 rcases k1 with _ | k1
 cases (show none = some _ from hH)
 rw [impl_IsElementName_l1] at hH
 iterate 2 refine AW.seq ?_
 refine AW.region ?_
 iterate 4 refine AO.pu T ?_
 refine AO.nil ?_
 refine AW.cond (b := decide (v7 < (sA.size : Int))) rfl (fun hc => ?_) (fun hc => ?_)
 replace hH := condT hc hH
 refine AW.skip ?_
 refine AW.seq ?_
 refine AW.block ?_
 refine AW.seq ?_
 obtain ⟨b9, hx10, hH⟩ := bindE hH
 refine AW.region ?_
 iterate 2 refine AO.pu T ?_
 refine AO.val rfl rfl (ix_strI_ok T rfl rfl rfl rfl (hx10)) ?_
 iterate 2 refine AO.pu T ?_
 iterate 2 refine AO.pureG T [] rfl trivial rfl rfl ?_
 refine AO.guard [15, 16] rfl ⟨fun h => h, fun h => h, trivial⟩ (fun hg => ix_strI_ok T rfl rfl rfl rfl (hx10)) rfl ?_
 refine AO.pureG T [17] rfl ⟨fun h => h, trivial⟩ rfl rfl ?_
 refine AO.val rfl rfl (pick_or rfl rfl rfl rfl) ?_
 refine AO.pu T ?_
 iterate 2 refine AO.pureG T [] rfl trivial rfl rfl ?_
 refine AO.guard [21, 22] rfl ⟨fun h => h, fun h => h, trivial⟩ (fun hg => ix_strI_ok T rfl rfl rfl rfl (hx10)) rfl ?_
 refine AO.pureG T [23] rfl ⟨fun h => h, trivial⟩ rfl rfl ?_
 refine AO.pureG T [24] rfl ⟨fun h => h, trivial⟩ rfl rfl ?_
 iterate 2 refine AO.pureG T [] rfl trivial rfl rfl ?_
 refine AO.guard [26, 27] rfl ⟨fun h => h, fun h => h, trivial⟩ (fun hg => ix_strI_ok T rfl rfl rfl rfl (hx10)) rfl ?_
 refine AO.pureG T [28] rfl ⟨fun h => h, trivial⟩ rfl rfl ?_
 refine AO.guard [25] rfl ⟨fun h => h, trivial⟩ (fun hg => pick_or rfl rfl rfl (by rw [hg]; exact Bool.true_and _)) rfl ?_
 refine AO.val rfl rfl (pick_and rfl rfl rfl rfl) ?_
 refine AO.nil ?_
 refine AW.le (Le.ct 0 0 (σ' := (⟨[(0, .v (.string sA)), (3, v7), (31, .v (.bool ((decide ((b9.toNat : Int) < 65) || decide ((b9.toNat : Int) > 90)) && (decide ((b9.toNat : Int) < 48) || decide ((b9.toNat : Int) > 57)))))], [], 35, []⟩ : St))) ?_
 refine AW.cond (b := ((decide ((b9.toNat : Int) < 65) || decide ((b9.toNat : Int) > 90)) && (decide ((b9.toNat : Int) < 48) || decide ((b9.toNat : Int) > 57)))) rfl (fun hc => ?_) (fun hc => ?_)
 replace hH := condT hc hH
 refine AW.seq (AW.region ?_)
 refine AO.pu T ?_
 refine AO.nil (AW.ret ?_)
 have hR := someE hH; subst hR
 exact retQ.i [] rfl (.c (.c .v))
 replace hH := condF hc hH
 refine AW.skip ?_
 refine AW.region ?_
 refine AO.pu T ?_
 refine AO.val rfl rfl (arw_ok rfl rfl rfl rfl) ?_
 refine AO.pu T ?_
 refine AO.nil ?_
 refine ⟨(k1, w64 (v7 + 1)), hH, Nat.lt_succ_self _, ?_⟩
 exact Le.ct 0 0
 replace hH := condF hc hH
 refine AW.exit ?_
 refine AW.seq ?_
 obtain ⟨x11, hx12, hH⟩ := bindE hH
 refine AW.region ?_
 iterate 2 refine AO.pu T ?_
 refine AO.val rfl rfl (callV_ok rfl rfl rfl rfl (impl_within_ok _ _ _ _ (hx12)) rfl) ?_
 refine AO.pu T ?_
 refine AO.nil (AW.ret ?_)
 have hR := someE hH; subst hR
 exact retQ.i [] rfl (.c (.c .v))

def impl_IsName_p (fuel : Nat) (sA : ByteArray) : Option Bool :=
  (impl_IsElementName_p fuel sA).bind fun x1 =>
  some x1
theorem impl_IsName_ok (fuel : Nat) (sA : ByteArray) (r : Bool) (hH : impl_IsName_p fuel sA = some r) : SpecR Tryd.prog 70 [.v (.string sA)] (.v (.bool r)) := by
 refine fn_ok T Tryd.func70 rfl (by decide) rfl ?_
 refine AW.seq (AW.region ?_)
 refine AO.pu T ?_
 refine AO.nil (AW.seq ?_)
 obtain ⟨x1, hx2, hH⟩ := bindE hH
 refine AW.region ?_
 refine AO.pu T ?_
 refine AO.val rfl rfl (callV_ok rfl rfl rfl rfl (impl_IsElementName_ok fuel _ _ (hx2)) rfl) ?_
 refine AO.pu T ?_
 refine AO.nil (AW.ret ?_)
 have hR := someE hH; subst hR
 exact retQ.i [] rfl (.c (.c .v))

def impl_allWithin_l1 (low : Int) (high : Int) : List Int → Nat → Option Bool
  | [], k1 =>
    some true
  | y2 :: ys3, k1 =>
    (impl_within_p y2 low high).bind fun x12 =>
    cond (!x12)
      (some false)
      (impl_allWithin_l1 low high ys3 (k1 + 1))
def impl_allWithin_p (l : List Int) (low : Int) (high : Int) : Option Bool :=
  impl_allWithin_l1 low high l 0
theorem impl_allWithin_ok (l : List Int) (low : Int) (high : Int) (r : Bool) (hH : impl_allWithin_p l low high = some r) : SpecR Tryd.prog 72 [.s (List.map encInt l), low, high] (.v (.bool r)) := by
 refine fn_ok T Tryd.func72 rfl (by decide) rfl ?_
 refine AW.seq (AW.region ?_)
 refine AO.pu T ?_
 refine AO.nil ?_
 iterate 2 refine AW.seq ?_
 refine AW.region ?_
 refine AO.pu T ?_
 refine AO.val rfl rfl (len_map_ok T rfl rfl rfl) ?_
 refine AO.pu T ?_
 refine AO.nil ?_
 refine AW.block ?_
 refine AW.loopS (fun s : Nat => (⟨[(1, low), (2, high), (9, .s (List.map encInt l)), (10, (l.length : Int)), (11, (s : Int))], [], 21, []⟩ : St)) (fun s => s ≤ l.length ∧ impl_allWithin_l1 low high (l.drop s) s = some r) (fun s => l.length - s) 0 ⟨Nat.zero_le _, hH⟩ ?_ ?_
 exact Le.ct 0 0
 rintro k1 ⟨hk, hH⟩
 replace hH : impl_allWithin_l1 low high (l.drop k1) k1 = some r := hH
 try dsimp only
 refine AW.boundM (t := 9) (l := l) rfl (fun hb5 => ?_)
 rcases hd4 : l.drop k1 with _ | ⟨y2, ys3⟩
 rw [hd4, impl_allWithin_l1] at hH
 have hlt6 := drop_ge hd4
 refine AW.seq (AW.region ?_)
 refine AO.pu T ?_
 refine AO.nil (AW.seq ?_)
 refine AW.condF' (b := decide ((k1 : Int) < (l.length : Int))) rfl (rngF hlt6) ?_
 refine AW.exit ?_
 refine AW.seq (AW.region ?_)
 refine AO.pu T ?_
 refine AO.nil (AW.ret ?_)
 have hR := someE hH; subst hR
 exact retQ.i [] rfl (.c (.c .v))
 rw [hd4, impl_allWithin_l1] at hH
 have hlt6 := drop_lt hd4
 refine AW.seq (AW.region ?_)
 refine AO.pu T ?_
 refine AO.nil (AW.seq ?_)
 refine AW.condT' (b := decide ((k1 : Int) < (l.length : Int))) rfl (rngT hlt6) ?_
 refine AW.skip ?_
 refine AW.seq ?_
 refine AW.block ?_
 refine AW.seq (AW.region ?_)
 refine AO.val rfl rfl (ix_map_ok T rfl rfl rfl rfl rfl (getI_drop hd4) rfl) ?_
 iterate 2 refine AO.pu T ?_
 refine AO.nil (AW.seq ?_)
 obtain ⟨x12, hx13, hH⟩ := bindE hH
 refine AW.region ?_
 iterate 3 refine AO.pu T ?_
 refine AO.val rfl rfl (callV_ok rfl rfl rfl rfl (impl_within_ok _ _ _ _ (hx13)) rfl) ?_
 refine AO.pu T ?_
 refine AO.nil ?_
 refine AW.cond (b := (!x12)) rfl (fun hc => ?_) (fun hc => ?_)
 replace hH := condT hc hH
 refine AW.seq (AW.region ?_)
 refine AO.pu T ?_
 refine AO.nil (AW.ret ?_)
 have hR := someE hH; subst hR
 exact retQ.i [] rfl (.c (.c .v))
 replace hH := condF hc hH
 refine AW.skip ?_
 refine AW.region ?_
 refine AO.val rfl rfl (ar_ok rfl rfl rfl rfl (inI_succ hlt6 hb5)) ?_
 refine AO.pu T ?_
 refine AO.nil ?_
 refine ⟨k1 + 1, ⟨Nat.succ_le_of_lt hlt6, (by rw [drop_succ_of hd4]; exact hH)⟩, (by have := hlt6; dsimp only; omega), ?_⟩
 exact Le.ct 0 0

def impl_IsItem_l1 (it : Item) (fuel : Nat) : List ByteArray → Nat → Option Bool
  | [], k1 =>
    (impl_within_p (it.names.length : Int) 1 3).bind fun x12 =>
    (opt (x12 && ((it.marks.length : Int) == (it.names.length : Int))) default (impl_allWithin_p it.marks 0 3)).bind fun x14 =>
    some ((x12 && ((it.marks.length : Int) == (it.names.length : Int))) && x14)
  | y2 :: ys3, k1 =>
    (impl_IsName_p fuel y2).bind fun x16 =>
    cond (!x16)
      (some false)
      (impl_IsItem_l1 it fuel ys3 (k1 + 1))
def impl_IsItem_p (fuel : Nat) (it : Item) : Option Bool :=
  impl_IsItem_l1 it fuel it.names 0
theorem impl_IsItem_ok (fuel : Nat) (it : Item) (r : Bool) (hH : impl_IsItem_p fuel it = some r) : SpecR Tryd.prog 56 [.g (encItem it)] (.v (.bool r)) := by
 refine fn_ok T Tryd.func56 rfl (by decide) rfl ?_
 refine AW.seq (AW.region ?_)
 refine AO.step rfl (box_ok T rfl 1 rfl rfl rfl rfl) ?_
 refine AO.pu T ?_
 refine AO.nil ?_
 iterate 2 refine AW.seq ?_
 refine AW.region ?_
 iterate 2 refine AO.pu T ?_
 refine AO.val rfl rfl (len_map_ok T rfl rfl rfl) ?_
 refine AO.pu T ?_
 refine AO.nil ?_
 refine AW.block ?_
 refine AW.loopS (fun s : Nat => (⟨[(1, .p 1 0), (6, .s (List.map encStr it.names)), (7, (it.names.length : Int)), (8, (s : Int))], [(1, .box [.s (List.map encStr it.names), .s (List.map encInt it.marks), .v (.bool it.late)])], 34, []⟩ : St)) (fun s => s ≤ it.names.length ∧ impl_IsItem_l1 it fuel (it.names.drop s) s = some r) (fun s => it.names.length - s) 0 ⟨Nat.zero_le _, hH⟩ ?_ ?_
 exact Le.ct 0 0
 rintro k1 ⟨hk, hH⟩
 replace hH : impl_IsItem_l1 it fuel (it.names.drop k1) k1 = some r := hH
 try dsimp only
 refine AW.boundM (t := 6) (l := it.names) rfl (fun hb5 => ?_)
 rcases hd4 : it.names.drop k1 with _ | ⟨y2, ys3⟩
 rw [hd4, impl_IsItem_l1] at hH
 have hlt6 := drop_ge hd4
 refine AW.seq (AW.region ?_)
 refine AO.pu T ?_
 refine AO.nil (AW.seq ?_)
 refine AW.condF' (b := decide ((k1 : Int) < (it.names.length : Int))) rfl (rngF hlt6) ?_
 refine AW.exit ?_
 refine AW.seq ?_
 obtain ⟨x12, hx13, hH⟩ := bindE hH
 obtain ⟨x14, hx15, hH⟩ := bindE hH
 refine AW.region ?_
 iterate 2 refine AO.pu T ?_
 refine AO.val rfl rfl (len_map_ok T rfl rfl rfl) ?_
 refine AO.val rfl rfl (callV_ok rfl rfl rfl rfl (impl_within_ok _ _ _ _ (hx13)) rfl) ?_
 refine AO.pu T ?_
 refine AO.pureG T [] rfl trivial rfl rfl ?_
 refine AO.pureG T [21] rfl ⟨fun h => h, trivial⟩ rfl rfl ?_
 refine AO.guard [22] rfl ⟨fun h => h, trivial⟩ (fun hg => len_map_ok T rfl rfl rfl) rfl ?_
 refine AO.pureG T [] rfl trivial rfl rfl ?_
 refine AO.pureG T [24] rfl ⟨fun h => h, trivial⟩ rfl rfl ?_
 refine AO.guard [25] rfl ⟨fun h => h, trivial⟩ (fun hg => len_map_ok T rfl rfl rfl) rfl ?_
 refine AO.pureG T [23, 26] rfl ⟨fun h => h, fun h => h, trivial⟩ rfl rfl ?_
 refine AO.val rfl rfl (pick_and rfl rfl rfl rfl) ?_
 refine AO.pu T ?_
 refine AO.pureG T [] rfl trivial rfl rfl ?_
 refine AO.pureG T [30] rfl ⟨fun h => h, trivial⟩ rfl rfl ?_
 refine AO.guard [31] rfl ⟨fun h => h, trivial⟩ (fun hg => callV_ok rfl rfl rfl rfl (impl_allWithin_ok _ _ _ _ (optT hx15 hg)) rfl) rfl ?_
 refine AO.val rfl rfl (pick_and rfl rfl rfl rfl) ?_
 refine AO.pu T ?_
 refine AO.nil (AW.ret ?_)
 have hR := someE hH; subst hR
 exact retQ.i [] rfl (.c (.c .v))
 rw [hd4, impl_IsItem_l1] at hH
 have hlt6 := drop_lt hd4
 refine AW.seq (AW.region ?_)
 refine AO.pu T ?_
 refine AO.nil (AW.seq ?_)
 refine AW.condT' (b := decide ((k1 : Int) < (it.names.length : Int))) rfl (rngT hlt6) ?_
 refine AW.skip ?_
 refine AW.seq ?_
 refine AW.block ?_
 refine AW.seq (AW.region ?_)
 refine AO.val rfl rfl (ix_map_ok T rfl rfl rfl rfl rfl (getI_drop hd4) rfl) ?_
 iterate 2 refine AO.pu T ?_
 refine AO.nil (AW.seq ?_)
 obtain ⟨x16, hx17, hH⟩ := bindE hH
 refine AW.region ?_
 refine AO.pu T ?_
 refine AO.val rfl rfl (callV_ok rfl rfl rfl rfl (impl_IsName_ok fuel _ _ (hx17)) rfl) ?_
 refine AO.pu T ?_
 refine AO.nil ?_
 refine AW.cond (b := (!x16)) rfl (fun hc => ?_) (fun hc => ?_)
 replace hH := condT hc hH
 refine AW.seq (AW.region ?_)
 refine AO.pu T ?_
 refine AO.nil (AW.ret ?_)
 have hR := someE hH; subst hR
 exact retQ.i [] rfl (.c (.c .v))
 replace hH := condF hc hH
 refine AW.skip ?_
 refine AW.region ?_
 refine AO.val rfl rfl (ar_ok rfl rfl rfl rfl (inI_succ hlt6 hb5)) ?_
 refine AO.pu T ?_
 refine AO.nil ?_
 refine ⟨k1 + 1, ⟨Nat.succ_le_of_lt hlt6, (by rw [drop_succ_of hd4]; exact hH)⟩, (by have := hlt6; dsimp only; omega), ?_⟩
 exact Le.ct 0 0

def impl_AreItems_l1 (l : List Item) (fuel : Nat) : List Item → Nat → Option Bool
  | [], k1 =>
    some (decide ((l.length : Int) ≤ 14))
  | y2 :: ys3, k1 =>
    (impl_IsItem_p fuel y2).bind fun x12 =>
    cond (!x12)
      (some false)
      (impl_AreItems_l1 l fuel ys3 (k1 + 1))
def impl_AreItems_p (fuel : Nat) (l : List Item) : Option Bool :=
  impl_AreItems_l1 l fuel l 0
theorem impl_AreItems_ok (fuel : Nat) (l : List Item) (r : Bool) (hH : impl_AreItems_p fuel l = some r) : SpecR Tryd.prog 35 [.s (List.map encItem l)] (.v (.bool r)) := by
 refine fn_ok T Tryd.func35 rfl (by decide) rfl ?_
 refine AW.seq (AW.region ?_)
 refine AO.pu T ?_
 refine AO.nil ?_
 iterate 2 refine AW.seq ?_
 refine AW.region ?_
 refine AO.pu T ?_
 refine AO.val rfl rfl (len_map_ok T rfl rfl rfl) ?_
 refine AO.pu T ?_
 refine AO.nil ?_
 refine AW.block ?_
 refine AW.loopS (fun s : Nat => (⟨[(0, .s (List.map encItem l)), (5, .s (List.map encItem l)), (6, (l.length : Int)), (7, (s : Int))], [], 18, []⟩ : St)) (fun s => s ≤ l.length ∧ impl_AreItems_l1 l fuel (l.drop s) s = some r) (fun s => l.length - s) 0 ⟨Nat.zero_le _, hH⟩ ?_ ?_
 exact Le.ct 0 0
 rintro k1 ⟨hk, hH⟩
 replace hH : impl_AreItems_l1 l fuel (l.drop k1) k1 = some r := hH
 try dsimp only
 refine AW.boundM (t := 0) (l := l) rfl (fun hb5 => ?_)
 rcases hd4 : l.drop k1 with _ | ⟨y2, ys3⟩
 rw [hd4, impl_AreItems_l1] at hH
 have hlt6 := drop_ge hd4
 refine AW.seq (AW.region ?_)
 refine AO.pu T ?_
 refine AO.nil (AW.seq ?_)
 refine AW.condF' (b := decide ((k1 : Int) < (l.length : Int))) rfl (rngF hlt6) ?_
 refine AW.exit ?_
 refine AW.seq (AW.region ?_)
 refine AO.pu T ?_
 refine AO.val rfl rfl (len_map_ok T rfl rfl rfl) ?_
 iterate 2 refine AO.pu T ?_
 refine AO.nil (AW.ret ?_)
 have hR := someE hH; subst hR
 exact retQ.i [] rfl (.c (.c .v))
 rw [hd4, impl_AreItems_l1] at hH
 have hlt6 := drop_lt hd4
 refine AW.seq (AW.region ?_)
 refine AO.pu T ?_
 refine AO.nil (AW.seq ?_)
 refine AW.condT' (b := decide ((k1 : Int) < (l.length : Int))) rfl (rngT hlt6) ?_
 refine AW.skip ?_
 refine AW.seq ?_
 refine AW.block ?_
 refine AW.seq (AW.region ?_)
 refine AO.val rfl rfl (ix_map_ok T rfl rfl rfl rfl rfl (getI_drop hd4) rfl) ?_
 refine AO.pu T (d := .g [.s (List.map encStr y2.names), .s (List.map encInt y2.marks), .v (.bool y2.late)]) ?_
 refine AO.step rfl (alloc_ok T rfl 3 rfl rfl rfl rfl rfl) ?_
 refine AO.se T [.s (List.map encStr y2.names), .s (List.map encInt y2.marks), .v (.bool y2.late)] ?_
 refine AO.nil (AW.seq ?_)
 obtain ⟨x12, hx13, hH⟩ := bindE hH
 refine AW.region ?_
 refine AO.pu T (d := .g [.s (List.map encStr y2.names), .s (List.map encInt y2.marks), .v (.bool y2.late)]) ?_
 refine AO.val rfl rfl (callV_ok rfl rfl rfl rfl (impl_IsItem_ok fuel _ _ (hx13)) rfl) ?_
 refine AO.pu T ?_
 refine AO.nil ?_
 refine AW.cond (b := (!x12)) rfl (fun hc => ?_) (fun hc => ?_)
 replace hH := condT hc hH
 refine AW.seq (AW.region ?_)
 refine AO.pu T ?_
 refine AO.nil (AW.ret ?_)
 have hR := someE hH; subst hR
 exact retQ.i [] rfl (.c (.c .v))
 replace hH := condF hc hH
 refine AW.skip ?_
 refine AW.region ?_
 refine AO.val rfl rfl (ar_ok rfl rfl rfl rfl (inI_succ hlt6 hb5)) ?_
 refine AO.pu T ?_
 refine AO.nil ?_
 refine ⟨k1 + 1, ⟨Nat.succ_le_of_lt hlt6, (by rw [drop_succ_of hd4]; exact hH)⟩, (by have := hlt6; dsimp only; omega), ?_⟩
 exact Le.ct 0 0

def impl_copyInts_p (l : List Int) : Option (List Int) :=
  (need (fitsB 8 l.length)).bind fun u1 =>
  some l
theorem impl_copyInts_ok (l : List Int) (r : (List Int)) (hH : impl_copyInts_p l = some r) : SpecR Tryd.prog 94 [.s (List.map encInt l)] (.w 1 (r.map encInt)) := by
 refine fn_ok T Tryd.func94 rfl (by decide) rfl ?_
 refine AW.seq (AW.region ?_)
 refine AO.pu T ?_
 refine AO.nil (AW.seq ?_)
 obtain ⟨u1, hx2, hH⟩ := bindE hH
 refine AW.region ?_
 refine AO.step rfl (mk0_ok T rfl rfl rfl rfl) ?_
 refine AO.pu T ?_
 refine AO.step rfl (app_ws_map T rfl 1 rfl rfl rfl rfl rfl (by decide) (by decide) rfl rfl (fun _ => rfl) (needT (hx2)) rfl rfl) ?_
 refine AO.pu T ?_
 refine AO.nil (AW.ret ?_)
 have hR := someE hH; subst hR
 exact retQ.i [1] rfl (.c (.c (.rowR rfl)))

def impl_copyItem_p (it : Item) : Option Item :=
  (need (fitsB 16 it.names.length)).bind fun u1 =>
  (impl_copyInts_p it.marks).bind fun x3 =>
  some (Item.mk it.names x3 it.late)
theorem impl_copyItem_ok (it : Item) (r : Item) (hH : impl_copyItem_p it = some r) : SpecR Tryd.prog 79 [.g (encItem it)] (.g (encItemO r)) := by
 refine fn_ok T Tryd.func79 rfl (by decide) rfl ?_
 refine AW.seq (AW.region ?_)
 refine AO.step rfl (box_ok T rfl 1 rfl rfl rfl rfl) ?_
 refine AO.step rfl (alloc_ok T rfl 2 rfl rfl rfl rfl rfl) ?_
 refine AO.nil (AW.seq ?_)
 obtain ⟨u1, hx2, hH⟩ := bindE hH
 obtain ⟨x3, hx4, hH⟩ := bindE hH
 refine AW.drawn 9 3 [] mix (by kernel_rfl) rfl ?_
 refine AD.v (FStep.mk0 T rfl rfl rfl rfl rfl) ?_
 iterate 2 refine AD.pure T rfl rfl rfl ?_
 refine AD.q (FStep.app_ws T rfl rfl rfl rfl rfl rfl rfl (by decide) (by decide) rfl rfl (fun _ => rfl) (needT (hx2)) rfl) (by simp [namesIn]) (Nat.le_succ _) rfl ?_
 iterate 2 refine AD.pure T rfl rfl rfl ?_
 refine AD.q (FStep.call rfl rfl rfl rfl rfl (impl_copyInts_ok _ _ (hx4)) rfl rfl) (impT_names _ _) (impT_le _ _) rfl ?_
 iterate 2 refine AD.pure T rfl rfl rfl ?_
 refine AD.nil ?_
 refine AO.pu T (d := .g [.R 3, .R 4, .v (.bool it.late)]) ?_
 refine AO.se T [.R 3, .R 4, .v (.bool it.late)] ?_
 refine AO.nil (AW.ret ?_)
 have hR := someE hH; subst hR
 exact retQ.i [3, 4] rfl (.c (.g (expLC_cons (.rowR rfl) (expLC_cons (.rowR rfl) (expLC_cons .v (expLC_nil))))))

def impl_copyItems_l1 : List Item → Nat → List Item → Option ((List Item))
  | [], k1, v16 =>
    some v16
  | y2 :: ys3, k1, v16 =>
    (impl_copyItem_p y2).bind fun x18 =>
    (need (fitsB 56 (v16.length + ([x18]).length))).bind fun u20 =>
    impl_copyItems_l1 ys3 (k1 + 1) (v16 ++ [x18])
def impl_copyItems_p (l : List Item) : Option (List Item) :=
  impl_copyItems_l1 l 0 []
theorem impl_copyItems_ok (l : List Item) (r : (List Item)) (hH : impl_copyItems_p l = some r) : SpecR Tryd.prog 61 [.s (List.map encItem l)] (.w 3 (r.map encItemO)) := by
 refine fn_ok T Tryd.func61 rfl (by decide) rfl ?_
 refine AW.seq (AW.region ?_)
 refine AO.pu T ?_
 refine AO.nil (AW.seq ?_)
 refine AW.region ?_
 refine AO.step rfl (mk0_ok T rfl rfl rfl rfl) ?_
 refine AO.pu T ?_
 refine AO.nil ?_
 iterate 2 refine AW.seq ?_
 refine AW.region ?_
 refine AO.pu T ?_
 refine AO.val rfl rfl (len_map_ok T rfl rfl rfl) ?_
 refine AO.pu T ?_
 refine AO.nil ?_
 refine AW.block ?_
 refine AW.loopS (fun s : Nat × (List Item) => (⟨[(3, .R 10), (7, .s (List.map encItem l)), (8, (l.length : Int)), (9, (s.1 : Int))], [(10, .row 3 (List.map encItemO s.2))], 20, []⟩ : St)) (fun s => s.1 ≤ l.length ∧ impl_copyItems_l1 (l.drop s.1) s.1 s.2 = some r) (fun s => l.length - s.1) (0, []) ⟨Nat.zero_le _, hH⟩ ?_ ?_
 refine Le.trans (Le.void 3 10 3 rfl rfl) ?_
 exact Le.ct 0 0
 rintro ⟨k1, v16⟩ ⟨hk, hH⟩
 replace hH : impl_copyItems_l1 (l.drop k1) k1 v16 = some r := hH
 try dsimp only
 refine AW.boundM (t := 7) (l := l) rfl (fun hb5 => ?_)
 rcases hd4 : l.drop k1 with _ | ⟨y2, ys3⟩
 rw [hd4, impl_copyItems_l1] at hH
 have hlt6 := drop_ge hd4
 refine AW.seq (AW.region ?_)
 refine AO.pu T ?_
 refine AO.nil (AW.seq ?_)
 refine AW.condF' (b := decide ((k1 : Int) < (l.length : Int))) rfl (rngF hlt6) ?_
 refine AW.exit ?_
 refine AW.seq (AW.region ?_)
 iterate 2 refine AO.pu T ?_
 refine AO.nil (AW.ret ?_)
 have hR := someE hH; subst hR
 exact retQ.i [10] rfl (.c (.c (.rowR rfl)))
 rw [hd4, impl_copyItems_l1] at hH
 have hlt6 := drop_lt hd4
 refine AW.seq (AW.region ?_)
 refine AO.pu T ?_
 refine AO.nil (AW.seq ?_)
 refine AW.condT' (b := decide ((k1 : Int) < (l.length : Int))) rfl (rngT hlt6) ?_
 refine AW.skip ?_
 refine AW.seq ?_
 refine AW.block ?_
 refine AW.seq (AW.region ?_)
 refine AO.val rfl rfl (ix_map_ok T rfl rfl rfl rfl rfl (getI_drop hd4) rfl) ?_
 refine AO.pu T (d := .g [.s (List.map encStr y2.names), .s (List.map encInt y2.marks), .v (.bool y2.late)]) ?_
 refine AO.step rfl (alloc_ok T rfl 11 rfl rfl rfl rfl rfl) ?_
 refine AO.se T [.s (List.map encStr y2.names), .s (List.map encInt y2.marks), .v (.bool y2.late)] ?_
 refine AO.nil ?_
 obtain ⟨x18, hx19, hH⟩ := bindE hH
 obtain ⟨u20, hx21, hH⟩ := bindE hH
 refine AW.region ?_
 refine AO.pu T ?_
 refine AO.pu T (d := .g [.s (List.map encStr y2.names), .s (List.map encInt y2.marks), .v (.bool y2.late)]) ?_
 refine AO.step rfl (call_ok rfl 12 rfl rfl rfl (impl_copyItem_ok _ _ (hx19)) rfl rfl rfl) ?_
 refine AO.step rfl (mk_o_ok T rfl 14 rfl rfl rfl rfl rfl rfl (f := encItemO) (l := [x18]) (ids := [12, 13]) rfl rfl (fun _ => rfl) (by exact expLC_cons (.rowR rfl) (expLC_cons (.rowR rfl) (expLC_cons .v (expLC_nil)))) (by decide) rfl rfl rfl rfl rfl) ?_
 refine AO.step rfl (app_rr_map T rfl 15 rfl rfl rfl rfl rfl (by decide) rfl rfl rfl rfl rfl (needT (hx21)) rfl rfl) ?_
 refine AO.pu T ?_
 refine AO.nil ?_
 refine AW.region ?_
 refine AO.val rfl rfl (ar_ok rfl rfl rfl rfl (inI_succ hlt6 hb5)) ?_
 refine AO.pu T ?_
 refine AO.nil ?_
 refine ⟨(k1 + 1, (v16 ++ [x18])), ⟨Nat.succ_le_of_lt hlt6, (by rw [drop_succ_of hd4]; exact hH)⟩, (by have := hlt6; dsimp only; omega), ?_⟩
 exact Le.ct 15 10

def impl_isTick_p (tick : Int) : Option Bool :=
  (impl_within_p tick 0 100000).bind fun x1 =>
  some x1
theorem impl_isTick_ok (tick : Int) (r : Bool) (hH : impl_isTick_p tick = some r) : SpecR Tryd.prog 80 [tick] (.v (.bool r)) := by
 refine fn_ok T Tryd.func80 rfl (by decide) rfl ?_
 refine AW.seq (AW.region ?_)
 refine AO.pu T ?_
 refine AO.nil (AW.seq ?_)
 obtain ⟨x1, hx2, hH⟩ := bindE hH
 refine AW.region ?_
 refine AO.pu T ?_
 refine AO.val rfl rfl (callV_ok rfl rfl rfl rfl (impl_within_ok _ _ _ _ (hx2)) rfl) ?_
 refine AO.pu T ?_
 refine AO.nil (AW.ret ?_)
 have hR := someE hH; subst hR
 exact retQ.i [] rfl (.c (.c .v))

def impl_hasNameAt_p (l : List Item) (item : Int) (name : Int) : Option Bool :=
  (impl_within_p item 0 (w64 ((l.length : Int) - 1))).bind fun x1 =>
  (opt x1 default (getI l item)).bind fun x3 =>
  (opt x1 default (impl_within_p name 0 (w64 ((x3.names.length : Int) - 1)))).bind fun x5 =>
  some (x1 && x5)
theorem impl_hasNameAt_ok (l : List Item) (item : Int) (name : Int) (r : Bool) (hH : impl_hasNameAt_p l item name = some r) : SpecR Tryd.prog 81 [.s (List.map encItem l), item, name] (.v (.bool r)) := by
 refine fn_ok T Tryd.func81 rfl (by decide) rfl ?_
 refine AW.seq (AW.region ?_)
 refine AO.pu T ?_
 refine AO.nil (AW.seq ?_)
 obtain ⟨x1, hx2, hH⟩ := bindE hH
 obtain ⟨x3, hx4, hH⟩ := bindE hH
 obtain ⟨x5, hx6, hH⟩ := bindE hH
 refine AW.region ?_
 iterate 2 refine AO.pu T ?_
 refine AO.val rfl rfl (len_map_ok T rfl rfl rfl) ?_
 refine AO.val rfl rfl (arw_ok rfl rfl rfl rfl) ?_
 refine AO.val rfl rfl (callV_ok rfl rfl rfl rfl (impl_within_ok _ _ _ _ (hx2)) rfl) ?_
 refine AO.pu T ?_
 iterate 3 refine AO.pureG T [] rfl trivial rfl rfl ?_
 refine AO.guard [14, 15] rfl ⟨fun h => h, fun h => h, trivial⟩ (fun hg => ix_map_ok T rfl rfl rfl rfl rfl (optT hx4 hg) rfl) rfl ?_
 refine AO.pureG T [16] rfl ⟨fun h => h, trivial⟩ rfl rfl ?_
 refine AO.pureG T [17] rfl ⟨fun h => h, trivial⟩ rfl rfl ?_
 refine AO.guard [18] rfl ⟨fun h => h, trivial⟩ (fun hg => len_map_ok T rfl rfl rfl) rfl ?_
 refine AO.guard [19] rfl ⟨fun h => h, trivial⟩ (fun hg => arw_ok rfl rfl rfl rfl) rfl ?_
 refine AO.guard [13, 20] rfl ⟨fun h => h, fun h => h, trivial⟩ (fun hg => callV_ok rfl rfl rfl rfl (impl_within_ok _ _ _ _ (optT hx6 hg)) rfl) rfl ?_
 refine AO.val rfl rfl (pick_and rfl rfl rfl rfl) ?_
 refine AO.pu T ?_
 refine AO.nil (AW.ret ?_)
 have hR := someE hH; subst hR
 exact retQ.i [] rfl (.c (.c .v))

def impl_isMark_p (mark : Int) : Option Bool :=
  (impl_within_p mark 0 3).bind fun x1 =>
  some x1
theorem impl_isMark_ok (mark : Int) (r : Bool) (hH : impl_isMark_p mark = some r) : SpecR Tryd.prog 82 [mark] (.v (.bool r)) := by
 refine fn_ok T Tryd.func82 rfl (by decide) rfl ?_
 refine AW.seq (AW.region ?_)
 refine AO.pu T ?_
 refine AO.nil (AW.seq ?_)
 obtain ⟨x1, hx2, hH⟩ := bindE hH
 refine AW.region ?_
 refine AO.pu T ?_
 refine AO.val rfl rfl (callV_ok rfl rfl rfl rfl (impl_within_ok _ _ _ _ (hx2)) rfl) ?_
 refine AO.pu T ?_
 refine AO.nil (AW.ret ?_)
 have hR := someE hH; subst hR
 exact retQ.i [] rfl (.c (.c .v))

def impl_historyState_apply_p (sA : HistoryState) (x : Change) : Option (HistoryState × Bool) :=
  (impl_isTick_p x.tick).bind fun x1 =>
  (opt (!(!x1)) default (impl_within_p x.caller 1 9)).bind fun x3 =>
  (opt (!((!x1) || (!x3))) default (impl_hasNameAt_p sA.items x.item x.name)).bind fun x5 =>
  (opt (!(((!x1) || (!x3)) || (!x5))) default (impl_isMark_p x.mark)).bind fun x7 =>
  cond ((((!x1) || (!x3)) || (!x5)) || (!x7))
    (some (sA, false))
    (cond x.review
      ((getI sA.items x.item).bind fun x9 =>
      (need (mapOk sA.open' (x.item, x.name))).bind fun u11 =>
      (opt (!(mget sA.open' (x.item, x.name))) default (getI x9.marks x.name)).bind fun x13 =>
      some ((HistoryState.mk (sA.items.set x.item.toNat x9) (mput sA.open' (x.item, x.name) true)), ((!(mget sA.open' (x.item, x.name))) && (x13 == x.mark))))
      ((getI sA.items x.item).bind fun x15 =>
      (getI x15.marks x.name).bind fun x17 =>
      (need (mapOk sA.open' (x.item, x.name))).bind fun u19 =>
      some ((HistoryState.mk (sA.items.set x.item.toNat (Item.mk x15.names (x15.marks.set x.name.toNat x.mark) x15.late)) (mdel sA.open' (x.item, x.name))), true)))
theorem impl_historyState_apply_ok (sA : HistoryState) (x : Change) (r : (HistoryState × Bool)) (hH : impl_historyState_apply_p sA x = some r) : SpecM Tryd.prog 62 [.pn (encHistoryStateO sA), .g (encChange x)] [.pn (encHistoryStateO r.1), .u] (.v (.bool r.2)) := by
 refine fn_okM T Tryd.func62 rfl (by decide) rfl rfl ?_
 intro L
 show AW _ _ _ (⟨[(0, .p 1 0), (1, .g [x.tick, x.caller, x.item, x.name, x.mark, .v (.bool x.review)])], [(1, .box [.R 2, .m 3]), (3, .map (encMe sA.open')), (2, .row 3 (List.map encItemO sA.items))], 92, [(1, L 1), (3, L 3), (2, L 2)]⟩ : St)
 refine AW.seq (AW.region ?_)
 refine AO.step rfl (box_ok T rfl 4 rfl rfl rfl rfl) ?_
 refine AO.pu T ?_
 refine AO.nil ?_
 iterate 2 refine AW.seq ?_
 obtain ⟨x1, hx2, hH⟩ := bindE hH
 obtain ⟨x3, hx4, hH⟩ := bindE hH
 obtain ⟨x5, hx6, hH⟩ := bindE hH
 obtain ⟨x7, hx8, hH⟩ := bindE hH
 refine AW.drawn 19 5 [] mix (by kernel_rfl) rfl ?_
 iterate 2 refine AD.pure T rfl rfl rfl ?_
 refine AD.val rfl rfl (callV_ok rfl rfl rfl rfl (impl_isTick_ok _ _ (hx2)) rfl) ?_
 iterate 2 refine AD.pure T rfl rfl rfl ?_
 refine AD.pureG T [] rfl trivial rfl rfl ?_
 refine AD.pureG T [12] rfl ⟨fun h => h, trivial⟩ rfl rfl ?_
 refine AD.guard [13] rfl ⟨fun h => h, trivial⟩ (fun hg => callV_ok rfl rfl rfl rfl (impl_within_ok _ _ _ _ (optT hx4 hg)) rfl) rfl ?_
 refine AD.pureG T [14] rfl ⟨fun h => h, trivial⟩ rfl rfl ?_
 refine AD.val rfl rfl (pick_or rfl rfl rfl rfl) ?_
 refine AD.pure T rfl rfl rfl ?_
 refine AD.pureG T [] rfl trivial rfl rfl ?_
 refine AD.pureG T [18] rfl ⟨fun h => h, trivial⟩ rfl rfl ?_
 refine AD.pureG T [19] rfl ⟨fun h => h, trivial⟩ rfl rfl ?_
 refine AD.pureG T [20] rfl ⟨fun h => h, trivial⟩ rfl rfl ?_
 refine AD.pureG T [] rfl trivial rfl rfl ?_
 refine AD.pureG T [22] rfl ⟨fun h => h, trivial⟩ rfl rfl ?_
 refine AD.pureG T [] rfl trivial rfl rfl ?_
 refine AD.pureG T [24] rfl ⟨fun h => h, trivial⟩ rfl rfl ?_
 refine AD.nil ?_
 refine AO.guard [21, 23, 25] rfl ⟨fun h => h, fun h => h, fun h => h, trivial⟩ (fun hg => callLV_ok rfl rfl rfl (es := [.s (List.map encItem sA.items), x.item, x.name]) ⟨(.rowR rfl (.map fun y => frzItem y)), .free rfl, .free rfl, trivial⟩ (impl_hasNameAt_ok _ _ _ _ (optT hx6 hg)) (zfree_v _) rfl) rfl ?_
 refine AO.pureG T [26] rfl ⟨fun h => h, trivial⟩ rfl rfl ?_
 refine AO.val rfl rfl (pick_or rfl rfl rfl rfl) ?_
 refine AO.pu T ?_
 refine AO.pureG T [] rfl trivial rfl rfl ?_
 refine AO.pureG T [30] rfl ⟨fun h => h, trivial⟩ rfl rfl ?_
 refine AO.guard [31] rfl ⟨fun h => h, trivial⟩ (fun hg => callV_ok rfl rfl rfl rfl (impl_isMark_ok _ _ (optT hx8 hg)) rfl) rfl ?_
 refine AO.pureG T [32] rfl ⟨fun h => h, trivial⟩ rfl rfl ?_
 refine AO.val rfl rfl (pick_or rfl rfl rfl rfl) ?_
 refine AO.nil ?_
 refine AW.le (Le.ct 0 0 (σ' := (⟨[(0, .p 1 0), (3, .p 4 0), (34, .v (.bool ((((!x1) || (!x3)) || (!x5)) || (!x7))))], [(1, .box [.R 2, .m 3]), (2, .row 3 (List.map encItemO sA.items)), (3, .map (encMe sA.open')), (4, .box [x.tick, x.caller, x.item, x.name, x.mark, .v (.bool x.review)])], 92, [(1, L 1), (3, L 3), (2, L 2)]⟩ : St)) (hpin := ⟨⟨rfl, rfl⟩, ⟨rfl, rfl⟩, ⟨rfl, rfl⟩, trivial⟩)) ?_
 refine AW.cond (b := ((((!x1) || (!x3)) || (!x5)) || (!x7))) rfl (fun hc => ?_) (fun hc => ?_)
 replace hH := condT hc hH
 refine AW.seq (AW.region ?_)
 refine AO.pu T ?_
 refine AO.nil (AW.ret ?_)
 have hR := someE hH; subst hR
 exact ⟨trivial, rfl, _, [], [1, 2, 3], rfl, expLG_cons (.pb rfl (expLC_cons (.rowR rfl) (expLC_cons (.mapR rfl) (expLC_nil)))) (expLG_cons (.c .u) (expLG_nil)), .c (.c .v), by decide⟩
 replace hH := condF hc hH
 refine AW.skip ?_
 refine AW.seq (AW.region ?_)
 iterate 4 refine AO.pu T ?_
 refine AO.pu T (d := .g [x.item, x.name]) ?_
 refine AO.step rfl (alloc_ok T rfl 5 rfl rfl rfl rfl rfl) ?_
 refine AO.se T [x.item, x.name] ?_
 refine AO.nil ?_
 iterate 2 refine AW.seq ?_
 refine AW.region ?_
 iterate 2 refine AO.pu T ?_
 refine AO.nil ?_
 refine AW.cond (b := x.review) rfl (fun hc => ?_) (fun hc => ?_)
 replace hH := condT hc hH
 refine AW.seq ?_
 obtain ⟨x9, hx10, hH⟩ := bindE hH
 obtain ⟨u11, hx12, hH⟩ := bindE hH
 obtain ⟨x13, hx14, hH⟩ := bindE hH
 refine AW.le (Le.openM 2 x.item.toNat 1 6 rfl (getI_get (hx10)) rfl rfl) ?_
 refine AW.drawn 23 7 [] mix (by kernel_rfl) rfl ?_
 iterate 4 refine AD.pure T rfl rfl rfl ?_
 refine AD.pure T (d := .g [x.item, x.name]) rfl rfl rfl ?_
 refine AD.val rfl rfl (lookup_ok T (k := (x.item, x.name)) mapT0 rfl rfl rfl rfl rfl rfl (needT (hx12))) ?_
 iterate 2 refine AD.pure T rfl rfl rfl ?_
 refine AD.pureG T [] rfl trivial rfl rfl ?_
 refine AD.pureG T [50] rfl ⟨fun h => h, trivial⟩ rfl rfl ?_
 refine AD.pureG T [51] rfl ⟨fun h => h, trivial⟩ rfl rfl ?_
 refine AD.pureG T [52] rfl ⟨fun h => h, trivial⟩ rfl rfl ?_
 refine AD.pureG T [] rfl trivial rfl rfl ?_
 refine AD.pureG T [54] rfl ⟨fun h => h, trivial⟩ rfl rfl ?_
 refine AD.guard [53, 55] rfl ⟨fun h => h, fun h => h, trivial⟩ (fun hg => ix_lent_ok T rfl rfl rfl rfl rfl rfl (hx10)) rfl ?_
 refine AD.pureG T [56] rfl ⟨fun h => h, trivial⟩ rfl rfl ?_
 refine AD.guard [57] rfl ⟨fun h => h, trivial⟩ (fun hg => load_lent_ok T rfl rfl rfl rfl rfl) rfl ?_
 refine AD.pureG T [] rfl trivial rfl rfl ?_
 refine AD.pureG T [59] rfl ⟨fun h => h, trivial⟩ rfl rfl ?_
 refine AD.guard [58, 60] rfl ⟨fun h => h, fun h => h, trivial⟩ (fun hg => ix_row_ok T rfl rfl rfl rfl rfl rfl (optT hx14 hg)) rfl ?_
 refine AD.guard [61] rfl ⟨fun h => h, trivial⟩ (fun hg => load_row_ok T rfl rfl rfl rfl (getI_get (optT hx14 hg)) rfl rfl rfl) rfl ?_
 refine AD.pureG T [] rfl trivial rfl rfl ?_
 refine AD.pureG T [63] rfl ⟨fun h => h, trivial⟩ rfl rfl ?_
 refine AD.nil ?_
 refine AO.pureG T [62, 64] rfl ⟨fun h => h, fun h => h, trivial⟩ rfl rfl ?_
 refine AO.val rfl rfl (pick_and rfl rfl rfl rfl) ?_
 refine AO.pu T ?_
 refine AO.le (Le.closeM 2 x.item.toNat 1 6 rfl rfl (getI_get (hx10)) rfl (u' := x9) rfl) ?_
 refine AO.nil ?_
 refine AW.le (Le.ct 0 0 (σ' := (⟨[(0, .p 1 0), (5, .p 5 0), (6, .v (.bool ((!(mget sA.open' (x.item, x.name))) && (x13 == x.mark))))], [(1, .box [.R 2, .m 3]), (2, .row 3 (List.map encItemO (sA.items.set x.item.toNat x9))), (3, .map (encMe sA.open')), (5, .box [x.item, x.name])], 92, [(1, L 1), (3, L 3), (2, L 2)]⟩ : St)) (hpin := ⟨⟨rfl, rfl⟩, ⟨rfl, rfl⟩, ⟨rfl, rfl⟩, trivial⟩)) ?_
 refine AW.seq ?_
 refine AW.drawn 5 7 [] mix (by kernel_rfl) rfl ?_
 iterate 4 refine AD.pure T rfl rfl rfl ?_
 refine AD.pure T (d := .g [x.item, x.name]) rfl rfl rfl ?_
 refine AD.nil ?_
 refine AO.step rfl (mupdate_ok (k := (x.item, x.name)) mapT0 rfl rfl rfl rfl rfl (needT (hx12)) rfl) ?_
 refine AO.nil (AW.seq ?_)
 refine AW.region ?_
 iterate 2 refine AO.pu T ?_
 refine AO.nil (AW.ret ?_)
 have hR := someE hH; subst hR
 exact ⟨trivial, rfl, _, [], [1, 2, 3], rfl, expLG_cons (.pb rfl (expLC_cons (.rowR rfl) (expLC_cons (.mapR rfl) (expLC_nil)))) (expLG_cons (.c .u) (expLG_nil)), .c (.c .v), by decide⟩
 replace hH := condF hc hH
 refine AW.skip ?_
 refine AW.seq ?_
 obtain ⟨x15, hx16, hH⟩ := bindE hH
 obtain ⟨x17, hx18, hH⟩ := bindE hH
 refine AW.le (Le.openM 2 x.item.toNat 1 7 rfl (getI_get (hx16)) rfl rfl) ?_
 refine AW.drawn 13 8 [] mix (by kernel_rfl) rfl ?_
 iterate 6 refine AD.pure T rfl rfl rfl ?_
 refine AD.val rfl rfl (ix_lent_ok T rfl rfl rfl rfl rfl rfl (hx16)) ?_
 refine AD.pure T rfl rfl rfl ?_
 refine AD.val rfl rfl (load_lent_ok T rfl rfl rfl rfl rfl) ?_
 iterate 4 refine AD.pure T rfl rfl rfl ?_
 refine AD.nil ?_
 refine AO.val rfl rfl (ix_row_ok T rfl rfl rfl rfl rfl rfl (hx18)) ?_
 refine AO.step rfl (store_row_ok T rfl rfl rfl rfl rfl (getI_get (hx18)) rfl rfl rfl rfl (u' := x.mark) rfl rfl) ?_
 refine AO.le (Le.closeM 2 x.item.toNat 1 7 rfl rfl (getI_get (hx16)) rfl (u' := (Item.mk x15.names (x15.marks.set x.name.toNat x.mark) x15.late)) rfl) ?_
 refine AO.nil ?_
 refine AW.le (Le.ct 0 0 (σ' := (⟨[(0, .p 1 0), (5, .p 5 0)], [(1, .box [.R 2, .m 3]), (2, .row 3 (List.map encItemO (sA.items.set x.item.toNat (Item.mk x15.names (x15.marks.set x.name.toNat x.mark) x15.late)))), (3, .map (encMe sA.open')), (5, .box [x.item, x.name])], 92, [(1, L 1), (3, L 3), (2, L 2)]⟩ : St)) (hpin := ⟨⟨rfl, rfl⟩, ⟨rfl, rfl⟩, ⟨rfl, rfl⟩, trivial⟩)) ?_
 refine AW.seq ?_
 obtain ⟨u19, hx20, hH⟩ := bindE hH
 refine AW.drawn 5 8 [] mix (by kernel_rfl) rfl ?_
 iterate 4 refine AD.pure T rfl rfl rfl ?_
 refine AD.pure T (d := .g [x.item, x.name]) rfl rfl rfl ?_
 refine AD.nil ?_
 refine AO.step rfl (mdelete_ok (k := (x.item, x.name)) mapT0 rfl rfl rfl rfl (needT (hx20)) rfl) ?_
 refine AO.nil (AW.seq ?_)
 refine AW.region ?_
 refine AO.pu T ?_
 refine AO.nil (AW.ret ?_)
 have hR := someE hH; subst hR
 exact ⟨trivial, rfl, _, [], [1, 2, 3], rfl, expLG_cons (.pb rfl (expLC_cons (.rowR rfl) (expLC_cons (.mapR rfl) (expLC_nil)))) (expLG_cons (.c .u) (expLG_nil)), .c (.c .v), by decide⟩

def impl_stateOf_l1 (h : List Change) (tick : Int) : List Change → Nat → List Item → MapL → List Item → MapL → Option (((Option HistoryState) × Bool))
  | [], k3, v25, v26, v27, v28 =>
    some ((some (HistoryState.mk v25 v26)), decide ((h.length : Int) ≤ 60))
  | y4 :: ys5, k3, v25, v26, v27, v28 =>
    (impl_historyState_apply_p (HistoryState.mk v27 v28) y4).bind fun x30 =>
    (opt ((!(!x30.2)) && decide ((k3 : Int) > 0)) default (getI h (w64 ((k3 : Int) - 1)))).bind fun x32 =>
    cond ((!x30.2) || (decide ((k3 : Int) > 0) && decide (x32.tick > y4.tick)))
      (some (none, false))
      (cond (decide (y4.tick ≤ tick))
        ((impl_historyState_apply_p (HistoryState.mk v25 v26) y4).bind fun x34 =>
        impl_stateOf_l1 h tick ys5 (k3 + 1) x34.1.items x34.1.open' x30.1.items x30.1.open')
        (impl_stateOf_l1 h tick ys5 (k3 + 1) v25 v26 x30.1.items x30.1.open'))
def impl_stateOf_p (l : List Item) (h : List Change) (tick : Int) : Option ((Option HistoryState) × Bool) :=
  (impl_copyItems_p l).bind fun x1 =>
  impl_stateOf_l1 h tick h 0 x1 [] x1 []
theorem impl_stateOf_ok (l : List Item) (h : List Change) (tick : Int) (r : ((Option HistoryState) × Bool)) (hH : impl_stateOf_p l h tick = some r) : SpecR Tryd.prog 47 [.s (List.map encItem l), .s (List.map encChange h), tick] (.t [pnO encHistoryStateO r.1, .v (.bool r.2)]) := by
 refine fn_ok T Tryd.func47 rfl (by decide) rfl ?_
 refine AW.seq (AW.region ?_)
 iterate 2 refine AO.pu T ?_
 refine AO.nil (AW.seq ?_)
 obtain ⟨x1, hx2, hH⟩ := bindE hH
 refine AW.region ?_
 refine AO.pu T ?_
 refine AO.step rfl (call_ok rfl 1 rfl rfl rfl (impl_copyItems_ok _ _ (hx2)) rfl rfl rfl) ?_
 refine AO.step rfl (makeMap_ok rfl 2 rfl rfl) ?_
 refine AO.pu T (d := .g [.R 1, .m 2]) ?_
 refine AO.step rfl (box_ok T rfl 3 rfl rfl rfl rfl) ?_
 refine AO.pu T ?_
 refine AO.step rfl (call_ok rfl 4 rfl rfl rfl (impl_copyItems_ok _ _ (hx2)) rfl rfl rfl) ?_
 refine AO.step rfl (makeMap_ok rfl 5 rfl rfl) ?_
 refine AO.pu T (d := .g [.R 4, .m 5]) ?_
 refine AO.step rfl (box_ok T rfl 6 rfl rfl rfl rfl) ?_
 iterate 2 refine AO.pu T ?_
 refine AO.nil ?_
 iterate 2 refine AW.seq ?_
 refine AW.region ?_
 refine AO.pu T ?_
 refine AO.val rfl rfl (len_map_ok T rfl rfl rfl) ?_
 refine AO.pu T ?_
 refine AO.nil ?_
 refine AW.block ?_
 refine AW.loopS (fun s : Nat × (List Item) × MapL × (List Item) × MapL => (⟨[(1, .s (List.map encChange h)), (2, tick), (8, .p 3 0), (9, .p 6 0), (22, .s (List.map encChange h)), (23, (h.length : Int)), (24, (s.1 : Int))], [(1, .row 3 (List.map encItemO s.2.1)), (2, .map (encMe s.2.2.1)), (3, .box [.R 1, .m 2]), (4, .row 3 (List.map encItemO s.2.2.2.1)), (5, .map (encMe s.2.2.2.2)), (6, .box [.R 4, .m 5])], 60, []⟩ : St)) (fun s => s.1 ≤ h.length ∧ impl_stateOf_l1 h tick (h.drop s.1) s.1 s.2.1 s.2.2.1 s.2.2.2.1 s.2.2.2.2 = some r) (fun s => h.length - s.1) (0, x1, [], x1, []) ⟨Nat.zero_le _, hH⟩ ?_ ?_
 exact Le.ct 0 0
 rintro ⟨k3, v25, v26, v27, v28⟩ ⟨hk, hH⟩
 replace hH : impl_stateOf_l1 h tick (h.drop k3) k3 v25 v26 v27 v28 = some r := hH
 try dsimp only
 refine AW.boundM (t := 1) (l := h) rfl (fun hb7 => ?_)
 rcases hd6 : h.drop k3 with _ | ⟨y4, ys5⟩
 rw [hd6, impl_stateOf_l1] at hH
 have hlt8 := drop_ge hd6
 refine AW.seq (AW.region ?_)
 refine AO.pu T ?_
 refine AO.nil (AW.seq ?_)
 refine AW.condF' (b := decide ((k3 : Int) < (h.length : Int))) rfl (rngF hlt8) ?_
 refine AW.exit ?_
 refine AW.seq (AW.region ?_)
 iterate 2 refine AO.pu T ?_
 refine AO.val rfl rfl (len_map_ok T rfl rfl rfl) ?_
 iterate 3 refine AO.pu T ?_
 refine AO.nil (AW.ret ?_)
 have hR := someE hH; subst hR
 exact retQ.i [3, 1, 2] rfl (.t (expLG_cons (.pb rfl (expLC_cons (.rowR rfl) (expLC_cons (.mapR rfl) (expLC_nil)))) (expLG_cons (.c .v) (expLG_nil))))
 rw [hd6, impl_stateOf_l1] at hH
 have hlt8 := drop_lt hd6
 refine AW.seq (AW.region ?_)
 refine AO.pu T ?_
 refine AO.nil (AW.seq ?_)
 refine AW.condT' (b := decide ((k3 : Int) < (h.length : Int))) rfl (rngT hlt8) ?_
 refine AW.skip ?_
 refine AW.seq ?_
 refine AW.block ?_
 refine AW.seq (AW.region ?_)
 refine AO.pu T ?_
 refine AO.val rfl rfl (ix_map_ok T rfl rfl rfl rfl rfl (getI_drop hd6) rfl) ?_
 refine AO.pu T (d := .g [y4.tick, y4.caller, y4.item, y4.name, y4.mark, .v (.bool y4.review)]) ?_
 refine AO.step rfl (alloc_ok T rfl 17 rfl rfl rfl rfl rfl) ?_
 refine AO.pu T ?_
 refine AO.se T [y4.tick, y4.caller, y4.item, y4.name, y4.mark, .v (.bool y4.review)] ?_
 refine AO.nil ?_
 iterate 2 refine AW.seq ?_
 obtain ⟨x30, hx31, hH⟩ := bindE hH
 obtain ⟨x32, hx33, hH⟩ := bindE hH
 refine AW.drawn 16 18 [6, 4, 5] mix (by kernel_rfl) rfl ?_
 refine AD.pure T rfl rfl rfl ?_
 refine AD.pure T (d := .g [y4.tick, y4.caller, y4.item, y4.name, y4.mark, .v (.bool y4.review)]) rfl rfl rfl ?_
 refine AD.k rfl rfl (FStep.callP rfl rfl rfl rfl rfl (es := [.pn (encHistoryStateO (HistoryState.mk v27 v28)), .g (encChange y4)]) (us := [.u]) (cs := encHistoryStateO x30.1) (ids := [6, 4, 5]) (by exact expLG_cons (.pb rfl (expLC_cons (.rowR rfl) (expLC_cons (.mapR rfl) (expLC_nil)))) (expLG_cons (.g (expLC_cons .v (expLC_cons .v (expLC_cons .v (expLC_cons .v (expLC_cons .v (expLC_cons .v (expLC_nil)))))))) (expLG_nil))) (by decide) (by decide) (impl_historyState_apply_ok _ _ _ (hx31)) rfl rfl (by rfl) rfl) rfl rfl rfl ?_
 iterate 2 refine AD.pure T rfl rfl rfl ?_
 refine AD.pureG T [] rfl trivial rfl rfl ?_
 refine AD.pureG T [34] rfl ⟨fun h => h, trivial⟩ rfl rfl ?_
 refine AD.pureG T [35] rfl ⟨fun h => h, trivial⟩ rfl rfl ?_
 iterate 2 refine AD.pureG T [] rfl trivial rfl rfl ?_
 refine AD.guard [38] rfl ⟨fun h => h, trivial⟩ (fun hg => arw_ok rfl rfl rfl rfl) rfl ?_
 refine AD.guard [37, 39] rfl ⟨fun h => h, fun h => h, trivial⟩ (fun hg => ix_map_ok T rfl rfl rfl rfl rfl (optT hx33 hg) rfl) rfl ?_
 refine AD.pureG T [40] rfl ⟨fun h => h, trivial⟩ rfl rfl ?_
 refine AD.pureG T [41] rfl ⟨fun h => h, trivial⟩ rfl rfl ?_
 refine AD.pureG T [] rfl trivial rfl rfl ?_
 refine AD.pureG T [43] rfl ⟨fun h => h, trivial⟩ rfl rfl ?_
 refine AD.nil ?_
 refine AO.pureG T [42, 44] rfl ⟨fun h => h, fun h => h, trivial⟩ rfl rfl ?_
 refine AO.guard [36] rfl ⟨fun h => h, trivial⟩ (fun hg => pick_and rfl rfl rfl (by rw [hg]; exact Bool.true_and _)) rfl ?_
 refine AO.val rfl rfl (pick_or rfl rfl rfl rfl) ?_
 refine AO.nil ?_
 refine AW.le (Le.ct 0 0 (σ' := (⟨[(1, .s (List.map encChange h)), (2, tick), (8, .p 3 0), (9, .p 6 0), (11, .p 17 0), (22, .s (List.map encChange h)), (23, (h.length : Int)), (24, (k3 : Int)), (47, .v (.bool ((!x30.2) || (decide ((k3 : Int) > 0) && decide (x32.tick > y4.tick)))))], [(1, .row 3 (List.map encItemO v25)), (2, .map (encMe v26)), (3, .box [.R 1, .m 2]), (6, .box [.R 18, .m 19]), (17, .box [y4.tick, y4.caller, y4.item, y4.name, y4.mark, .v (.bool y4.review)]), (18, .row 3 (List.map encItemO x30.1.items)), (19, .map (encMe x30.1.open'))], 60, []⟩ : St))) ?_
 refine AW.cond (b := ((!x30.2) || (decide ((k3 : Int) > 0) && decide (x32.tick > y4.tick)))) rfl (fun hc => ?_) (fun hc => ?_)
 replace hH := condT hc hH
 refine AW.seq (AW.region ?_)
 iterate 2 refine AO.pu T ?_
 refine AO.nil (AW.ret ?_)
 have hR := someE hH; subst hR
 exact retQ.i [] rfl (.t (expLG_cons (.c .v) (expLG_cons (.c .v) (expLG_nil))))
 replace hH := condF hc hH
 refine AW.skip ?_
 refine AW.seq (AW.region ?_)
 iterate 4 refine AO.pu T ?_
 refine AO.nil ?_
 refine AW.cond (b := decide (y4.tick ≤ tick)) rfl (fun hc => ?_) (fun hc => ?_)
 replace hH := condT hc hH
 obtain ⟨x34, hx35, hH⟩ := bindE hH
 refine AW.region ?_
 refine AO.pu T ?_
 refine AO.pu T (d := .g [y4.tick, y4.caller, y4.item, y4.name, y4.mark, .v (.bool y4.review)]) ?_
 refine AO.step rfl (callP_ok rfl 20 rfl rfl rfl (es := [.pn (encHistoryStateO (HistoryState.mk v25 v26)), .g (encChange y4)]) (us := [.u]) (cs := encHistoryStateO x34.1) (ids := [3, 1, 2]) (by exact expLG_cons (.pb rfl (expLC_cons (.rowR rfl) (expLC_cons (.mapR rfl) (expLC_nil)))) (expLG_cons (.g (expLC_cons .v (expLC_cons .v (expLC_cons .v (expLC_cons .v (expLC_cons .v (expLC_cons .v (expLC_nil)))))))) (expLG_nil))) (by decide) (by decide) (impl_historyState_apply_ok _ _ _ (hx35)) rfl rfl (by rfl) rfl) ?_
 refine AO.nil ?_
 refine AW.region ?_
 refine AO.val rfl rfl (ar_ok rfl rfl rfl rfl (inI_succ hlt8 hb7)) ?_
 refine AO.pu T ?_
 refine AO.nil ?_
 refine ⟨(k3 + 1, x34.1.items, x34.1.open', x30.1.items, x30.1.open'), ⟨Nat.succ_le_of_lt hlt8, (by rw [drop_succ_of hd6]; exact hH)⟩, (by have := hlt8; dsimp only; omega), ?_⟩
 refine Le.trans (Le.ct 20 1 (σ' := (⟨[(1, .s (List.map encChange h)), (2, tick), (8, .p 3 0), (9, .p 6 0), (22, .s (List.map encChange h)), (23, (h.length : Int)), (24, ((k3 + 1 : Nat) : Int))], [(1, .row 3 (List.map encItemO x34.1.items)), (3, .box [.R 1, .m 21]), (6, .box [.R 18, .m 19]), (18, .row 3 (List.map encItemO x30.1.items)), (19, .map (encMe x30.1.open')), (21, .map (encMe x34.1.open'))], 60, []⟩ : St))) ?_
 refine Le.trans (Le.ct 21 2 (σ' := (⟨[(1, .s (List.map encChange h)), (2, tick), (8, .p 3 0), (9, .p 6 0), (22, .s (List.map encChange h)), (23, (h.length : Int)), (24, ((k3 + 1 : Nat) : Int))], [(1, .row 3 (List.map encItemO x34.1.items)), (2, .map (encMe x34.1.open')), (3, .box [.R 1, .m 2]), (6, .box [.R 18, .m 19]), (18, .row 3 (List.map encItemO x30.1.items)), (19, .map (encMe x30.1.open'))], 60, []⟩ : St))) ?_
 refine Le.trans (Le.ct 18 4 (σ' := (⟨[(1, .s (List.map encChange h)), (2, tick), (8, .p 3 0), (9, .p 6 0), (22, .s (List.map encChange h)), (23, (h.length : Int)), (24, ((k3 + 1 : Nat) : Int))], [(1, .row 3 (List.map encItemO x34.1.items)), (2, .map (encMe x34.1.open')), (3, .box [.R 1, .m 2]), (4, .row 3 (List.map encItemO x30.1.items)), (6, .box [.R 4, .m 19]), (19, .map (encMe x30.1.open'))], 60, []⟩ : St))) ?_
 exact Le.ct 19 5
 replace hH := condF hc hH
 refine AW.skip ?_
 refine AW.region ?_
 refine AO.val rfl rfl (ar_ok rfl rfl rfl rfl (inI_succ hlt8 hb7)) ?_
 refine AO.pu T ?_
 refine AO.nil ?_
 refine ⟨(k3 + 1, v25, v26, x30.1.items, x30.1.open'), ⟨Nat.succ_le_of_lt hlt8, (by rw [drop_succ_of hd6]; exact hH)⟩, (by have := hlt8; dsimp only; omega), ?_⟩
 refine Le.trans (Le.ct 18 4 (σ' := (⟨[(1, .s (List.map encChange h)), (2, tick), (8, .p 3 0), (9, .p 6 0), (22, .s (List.map encChange h)), (23, (h.length : Int)), (24, ((k3 + 1 : Nat) : Int))], [(1, .row 3 (List.map encItemO v25)), (2, .map (encMe v26)), (3, .box [.R 1, .m 2]), (4, .row 3 (List.map encItemO x30.1.items)), (6, .box [.R 4, .m 19]), (19, .map (encMe x30.1.open'))], 60, []⟩ : St))) ?_
 exact Le.ct 19 5

def impl_isHistory_p (fuel : Nat) (l : List Item) (h : List Change) : Option Bool :=
  (impl_AreItems_p fuel l).bind fun x1 =>
  cond (!x1)
    (some false)
    ((impl_stateOf_p l h 0).bind fun x3 =>
    (match x3.1 with
      | none =>
        some x3.2
      | some p2_0 =>
        some x3.2))
theorem impl_isHistory_ok (fuel : Nat) (l : List Item) (h : List Change) (r : Bool) (hH : impl_isHistory_p fuel l h = some r) : SpecR Tryd.prog 23 [.s (List.map encItem l), .s (List.map encChange h)] (.v (.bool r)) := by
 refine fn_ok T Tryd.func23 rfl (by decide) rfl ?_
 refine AW.seq (AW.region ?_)
 refine AO.pu T ?_
 refine AO.nil ?_
 iterate 2 refine AW.seq ?_
 obtain ⟨x1, hx2, hH⟩ := bindE hH
 refine AW.region ?_
 refine AO.pu T ?_
 refine AO.val rfl rfl (callV_ok rfl rfl rfl rfl (impl_AreItems_ok fuel _ _ (hx2)) rfl) ?_
 refine AO.pu T ?_
 refine AO.nil ?_
 refine AW.cond (b := (!x1)) rfl (fun hc => ?_) (fun hc => ?_)
 replace hH := condT hc hH
 refine AW.seq (AW.region ?_)
 refine AO.pu T ?_
 refine AO.nil (AW.ret ?_)
 have hR := someE hH; subst hR
 exact retQ.i [] rfl (.c (.c .v))
 replace hH := condF hc hH
 refine AW.skip ?_
 refine AW.seq ?_
 obtain ⟨x3, hx4, hH⟩ := bindE hH
 rcases hq2_0 : x3.1 with _ | p2_0
 rw [hq2_0] at hH
 try dsimp only at hH
 refine AW.region ?_
 iterate 2 refine AO.pu T ?_
 refine AO.step rfl (call_ok rfl 1 rfl rfl rfl ((by have q := impl_stateOf_ok _ _ _ _ (hx4); rw [hq2_0] at q; exact q)) rfl rfl rfl) ?_
 iterate 5 refine AO.pu T ?_
 refine AO.nil (AW.seq ?_)
 refine AW.region ?_
 iterate 2 refine AO.pu T ?_
 refine AO.nil (AW.ret ?_)
 have hR := someE hH; subst hR
 exact retQ.i [] rfl (.c (.c .v))
 rw [hq2_0] at hH
 try dsimp only at hH
 refine AW.region ?_
 iterate 2 refine AO.pu T ?_
 refine AO.step rfl (call_ok rfl 1 rfl rfl rfl ((by have q := impl_stateOf_ok _ _ _ _ (hx4); rw [hq2_0] at q; exact q)) rfl rfl rfl) ?_
 iterate 5 refine AO.pu T ?_
 refine AO.nil (AW.seq ?_)
 refine AW.region ?_
 iterate 2 refine AO.pu T ?_
 refine AO.nil (AW.ret ?_)
 have hR := someE hH; subst hR
 exact retQ.i [] rfl (.c (.c .v))

def strconv_Itoa_p (n : Int) : Option ByteArray := (need (decide (-9223372036854775808 ≤ n) && decide (n ≤ 9223372036854775807))).bind fun _ => some ⟨(Go.Lib.itoa n).toArray⟩
theorem strconv_Itoa_ok (n : Int) (r : ByteArray) (hH : strconv_Itoa_p n = some r) : SpecR Tryd.prog 49 [.v (.int .i64 n)] (.v (.string r)) := by
  obtain ⟨u, hu, hr⟩ := bindE hH
  cases someE hr
  exact spec_itoa ⟨_, Tryd.func49, rfl, by decide⟩ (fun n h0 h1 w hG => Tryd.strconv_Itoa n h0 h1 w (globTab (by kernel_rfl) hG)) n (needT hu)

section
open Go.Shelf Go.RowKit
set_option maxHeartbeats 2000000 in
set_option maxRecDepth 100000 in
theorem bld_check_fresh {b : Nat} {v : Value} {w : World} (h2 : w.heap[b]? = some (.cells #[.pointer none, v] 56 (0, 0))) :
    Calls Tryd.prog 48 #[.pointer (some ⟨b, 0, none⟩)] w fun e w' => e = .returned (.tuple #[]) ∧ w' = w.setCell ⟨b, 0, none⟩ (.pointer (some ⟨b, 0, none⟩)) := by
  have c0 : w.cell? ⟨b, 0, none⟩ = some (.pointer none) := by rw [Lib.cell_of_heap h2]; rfl
  have f1 : w.frozen? ⟨b, 0, none⟩ = false := Lib.frozen_of_heap h2 0
  have hsh : w.shape? b = some (56, 2) := by simp [World.shape?, h2]
  have tP : Tryd.prog.underlying 53 = some (.pointer 56) := by kernel_rfl
  have tX : Tryd.prog.underlying 102 = some .unsafePointer := by kernel_rfl
  obtain ⟨j, hj, hjs⟩ := Option.map_eq_some_iff.1 (show (Tryd.prog.info? 56).map (·.size) = some 2 by kernel_rfl)
  go_enter Tryd.func48, Tryd.ntmps48
  go_wp2
  rw [Lib.run_to_unsafe w ⟨b, 0, none⟩ tP tX hj (by rw [hjs]; decide) hsh (Nat.zero_lt_succ 1)]
  simp only [Result.andThen]
  rw [Oper.upon_value]
  go_wp2
  rw [run_callFunc_extern Tryd.func63 (by kernel_rfl) (by kernel_rfl) (by kernel_rfl) (e := Extern.AbiNoEscape.same) (by kernel_rfl)]
  rw [Lib.run_noEscape]
  simp only [Result.andThen]
  rw [Oper.upon_value]
  go_wp2
  rw [Lib.run_from_unsafe w ⟨b, 0, none⟩ tX tP hj hsh (by kernel_rfl)]
  simp only [Result.andThen]
  rw [Oper.upon_value]
  go_wp2
  go_end0
  exact ⟨rfl, rfl⟩
set_option maxHeartbeats 2000000 in
set_option maxRecDepth 100000 in
theorem bld_check {b : Nat} {fp : List Nat} {f0 : Bool} {l : List UInt8} {w : World} {U : TypeId} (h : BldR w fp b f0 56 U l) (hnd : fp.Nodup) :
    Calls Tryd.prog 48 #[.pointer (some ⟨b, 0, none⟩)] w fun e w' => e = .returned (.tuple #[]) ∧ Chg [b] w w' ∧ ∃ v fr, w'.heap[b]? = some (.cells #[.pointer (some ⟨b, 0, none⟩), v] 56 (0, 0)) ∧ fp = b :: fr ∧ RowU w' fr U v l ∧ (f0 = true → v = .slice none 0 0) := by
  obtain ⟨p, v, fr, h1, h2, rfl, h4, h5⟩ := h
  rcases h1 with rfl | rfl
  · refine (bld_check_fresh h2).mono ?_
    rintro e w' ⟨rfl, rfl⟩
    refine ⟨rfl, chg_setCell _ _ _ _, v, fr, ?_, rfl, h4.same fun k hk => Below.heap_setCell _ _ _ _ (fun e => (List.nodup_cons.1 hnd).1 (by have e' : k = b := e; rw [← e']; exact hk)), fun h => (h5 h).2⟩
    simp [World.setCell, Array.getElem?_modify, h2]
  · have c0 : w.cell? ⟨b, 0, none⟩ = some (.pointer (some ⟨b, 0, none⟩)) := by rw [Lib.cell_of_heap h2]; rfl
    have tP : Tryd.prog.underlying 53 = some (.pointer 56) := by kernel_rfl
    obtain ⟨j, hj, hjs⟩ := Option.map_eq_some_iff.1 (show (Tryd.prog.info? 56).map (·.size) = some 2 by kernel_rfl)
    go_enter Tryd.func48, Tryd.ntmps48
    go_wp2
    rw [Lib.run_neq_ptr_same w _ tP hj]
    go_wp2
    go_end0
    exact ⟨rfl, Chg.refl _ _, v, fr, h2, rfl, h4, fun h => (h5 h).2⟩
set_option maxHeartbeats 2000000 in
set_option maxRecDepth 100000 in
theorem strings_Builder_WriteString_ok : BldWr Tryd.prog 24 56 5 := by
  refine ⟨⟨_, Tryd.func24, rfl, by decide⟩, fun w b fp l f0 s h hnd hlt hlen => ?_⟩
  obtain ⟨i0, hi, hz0, hz1, hz2⟩ := info_parts (P := Tryd.prog) (e := 5) (z := .int .u8 0) (size := 1) (bytes := 1) (by kernel_rfl)
  have tS : Tryd.prog.underlying 54 = some (.slice 5) := by kernel_rfl
  have tT : Tryd.prog.underlying 9 = some .string := by kernel_rfl
  go_enter Tryd.func24, Tryd.ntmps24
  go_wp2_with (go_at_call 48; refine (bld_check h hnd).mono ?_)
  rintro e w1 ⟨rfl, hx1, v, fr, hbk, hfp, hrow, _⟩
  subst hfp
  have c1 : w1.cell? ⟨b, 1, none⟩ = some v := by rw [Lib.cell_of_heap hbk]; rfl
  go_wp2_with (at_builtin; refine wp_app_row rfl _ _ 54 9 rfl 5 i0 tS tT hi hz0 hz1 hz2 rfl hrow s rfl hlen ?_)
  intro v' w2 fr' hrow' hx2 hfr
  have hnb : b ∉ fr := (List.nodup_cons.1 hnd).1
  have hb1 : b < w1.heap.size := by
    rcases Nat.lt_or_ge b w1.heap.size with h' | h'
    · exact h'
    · simp [Array.getElem?_eq_none h'] at hbk
  have hb2 : w2.heap[b]? = some (.cells #[.pointer (some ⟨b, 0, none⟩), v] 56 (0, 0)) := by rw [hx2.same b hb1 hnb]; exact hbk
  have d1 : w2.cell? ⟨b, 1, none⟩ = some v := by rw [Lib.cell_of_heap hb2]; rfl
  have f1 : w2.frozen? ⟨b, 1, none⟩ = false := Lib.frozen_of_heap hb2 1
  obtain ⟨ao, n', cap, rfl⟩ : ∃ ao n' cap, v' = .slice ao n' cap := by
    rcases hrow' with ⟨_, _, hv⟩ | ⟨_, _, _, _, _, hv, _⟩
    · exact ⟨_, _, _, hv⟩
    · exact ⟨_, _, _, hv⟩
  have hbf : b ∉ fr' := by
    rcases hfr with rfl | ⟨rfl, _⟩
    · exact hnb
    · intro h; rw [List.mem_singleton] at h; omega
  go_wp2
  go_ret2
  refine ⟨_, b :: fr', rfl, ?_, ⟨.pointer (some ⟨b, 0, none⟩), _, fr', .inr rfl, ?_, rfl, hrow'.same fun k hk => Below.heap_setCell _ _ _ _ (fun e => hbf (by have e' : k = b := e; rw [← e']; exact hk)), fun h => by cases h⟩, ?_, ?_⟩
  · exact ((Chg.trans (fp := b :: fr) ⟨hx1.size, fun i hi hn => hx1.same i hi (fun h => hn (by rw [List.mem_singleton.1 h]; exact List.mem_cons_self)), hx1.shape, hx1.os, hx1.output, hx1.tape⟩ hx2 fun x hx => .inl (List.mem_cons_of_mem _ hx)).trans (chg_setCell _ _ _ _) fun x hx => .inl (by rw [List.mem_singleton.1 hx]; exact List.mem_cons_self))
  · simp [World.setCell, Array.getElem?_modify, hb2]
  · refine List.nodup_cons.2 ⟨hbf, ?_⟩
    rcases hfr with rfl | ⟨rfl, _⟩
    · exact (List.nodup_cons.1 hnd).2
    · simp
  · have hs2 := hx2.size
    have hs1 := hx1.size
    intro k hk
    have hsz : (w2.setCell ⟨b, 1, none⟩ (.slice ao n' cap)).heap.size = w2.heap.size := by simp [World.setCell]
    rw [hsz]
    rcases List.mem_cons.1 hk with rfl | hk
    · exact ⟨by omega, .inl List.mem_cons_self⟩
    · rcases hfr with rfl | ⟨rfl, hlt2⟩
      · exact ⟨by have := hlt k (List.mem_cons_of_mem _ hk); omega, .inl (List.mem_cons_of_mem _ hk)⟩
      · rw [List.mem_singleton.1 hk]
        exact ⟨hlt2, .inr hs1⟩
end

section
open Go.Shelf Go.RowKit
set_option maxHeartbeats 2000000 in
set_option maxRecDepth 1000000 in
theorem bld_grow {b n : Nat} {w : World} (hbk : w.heap[b]? = some (.cells #[.pointer (some ⟨b, 0, none⟩), .slice none 0 0] 56 (0, 0))) (hn0 : 0 < n) (hn : n ≤ 281474976710656) :
    Calls Tryd.prog 84 #[.pointer (some ⟨b, 0, none⟩), .int .i64 n] w fun e w' => ∃ v, e = .returned v ∧ Chg [b] w w' ∧ BldR w' [b, w.heap.size] b false 56 5 [] ∧ w.heap.size < w'.heap.size := by
  have tS : Tryd.prog.underlying 54 = some (.slice 5) := by kernel_rfl
  obtain ⟨cs, hrun, hle, hmax⟩ := Lib.run_makeNoZero (P := Tryd.prog) w.drew #[3] 54 5 tS n hn
  have hw : IntKind.i64.wrap (IntKind.i64.wrap 0 + (n : Int)) = n := by
    rw [IntKind.wrap_i64, IntKind.wrap_i64]
    omega
  have hcall : (callFunc 99 #[.int .i64 (IntKind.i64.wrap (IntKind.i64.wrap 0 + (n : Int)))]).run Tryd.prog w.drew = .ok (.value (.slice (some ⟨w.drew.heap.size, 0, none⟩) n cs.size)) (w.drew.drew.drew.alloc (.cells cs 5)) := by
    rw [hw, run_callFunc_extern Tryd.func99 (by kernel_rfl) (by kernel_rfl) (by kernel_rfl) (e := Extern.BytealgMakeNoZero.makeNoZero #[3] #[54]) (by kernel_rfl), hrun]
    rfl
  have hlt : b < w.heap.size := by
    rcases Nat.lt_or_ge b w.heap.size with h' | h'
    · exact h'
    · simp [Array.getElem?_eq_none h'] at hbk
  have c1 : w.drew.cell? ⟨b, 1, none⟩ = some (.slice none 0 0) := by
    have : w.drew.heap[b]? = _ := hbk
    rw [Lib.cell_of_heap this]; rfl
  have hb2 : (w.alloc (.cells cs 5)).heap[b]? = some (.cells #[.pointer (some ⟨b, 0, none⟩), .slice none 0 0] 56 (0, 0)) := (Lib.alloc_old w _ b hlt).trans hbk
  have c2 : (w.alloc (.cells cs 5)).cell? ⟨b, 1, none⟩ = some (.slice none 0 0) := by
    rw [Lib.cell_of_heap hb2]; rfl
  have f2 : (w.alloc (.cells cs 5)).frozen? ⟨b, 1, none⟩ = false := Lib.frozen_of_heap hb2 1
  have hcopy : ∀ W : World, (Builtin.copy_ #[54, 54] 3 #[.slice (some ⟨w.heap.size, 0, none⟩) 0 cs.size, .slice none 0 0]).run Tryd.prog W = .ok (goInt 0) W :=
    fun W => run_copy_none W 54 54 3 5 _ _ 0 cs.size 0 0 tS (by kernel_rfl) rfl
  clear hw
  have mixed : Tryd.prog.follows .mixedOrders = true := by kernel_rfl
  go_enter Tryd.func84, Tryd.ntmps84
  go_wp2
  have hcs : cs.size ≤ 9223372036854775807 := hmax (by unfold maxLen; omega)
  have hfin : Chg [b] w (((w.setCell ⟨b, 1, none⟩ (.slice (some ⟨w.heap.size, 0, none⟩) 0 cs.size)).alloc (.cells cs 5)).drew.drew.drew) ∧ BldR (((w.setCell ⟨b, 1, none⟩ (.slice (some ⟨w.heap.size, 0, none⟩) 0 cs.size)).alloc (.cells cs 5)).drew.drew.drew) [b, w.heap.size] b false 56 5 [] ∧ w.heap.size < (((w.setCell ⟨b, 1, none⟩ (.slice (some ⟨w.heap.size, 0, none⟩) 0 cs.size)).alloc (.cells cs 5)).drew.drew.drew).heap.size := by
    generalize hV : w.setCell ⟨b, 1, none⟩ (.slice (some ⟨w.heap.size, 0, none⟩) 0 cs.size) = V
    have hVs : V.heap.size = w.heap.size := by
      rw [← hV]
      show (w.heap.modify _ _).size = _
      rw [Array.size_modify]
    have hVb : V.heap[b]? = some (.cells #[.pointer (some ⟨b, 0, none⟩), .slice (some ⟨w.heap.size, 0, none⟩) 0 cs.size] 56 (0, 0)) := by
      rw [← hV]; simp [World.setCell, Array.getElem?_modify, hbk]
    have hV1 : Chg [b] w V := by rw [← hV]; exact chg_setCell _ b 1 _
    have h0 : Chg [b] V (V.alloc (.cells cs 5)) :=
      ⟨by show _ ≤ (V.heap.push _).size; simp, fun k hk _ => Lib.alloc_old V _ k hk, fun k hk => by simp only [World.shape?, Lib.alloc_old V _ k hk], rfl, rfl, rfl, Nat.le_refl _⟩
    have h1 := hV1.trans h0 fun x hx => .inl hx
    have hs : (V.alloc (.cells cs 5)).heap.size = w.heap.size + 1 := by
      show (V.heap.push _).size = _
      rw [Array.size_push, hVs]
    have hb3 := (Lib.alloc_old V (.cells cs 5) b (by rw [hVs]; exact hlt)).trans hVb
    have hb4 : (V.alloc (.cells cs 5)).heap[w.heap.size]? = some (.cells cs 5 (0, 0)) := by rw [← hVs]; exact heap_alloc_new V _
    generalize V.alloc (.cells cs 5) = W at *
    refine ⟨h1.trans ((chg_drew [b] _).trans ((chg_drew [b] _).trans (chg_drew [b] _) fun x hx => .inl hx) fun x hx => .inl hx) fun x hx => .inl hx, ?_, by show _ < W.heap.size; omega⟩
    show BldR W _ _ _ _ _ _
    exact ⟨_, _, [w.heap.size], .inr rfl, hb3, rfl, .inr ⟨w.heap.size, cs.size, cs, rfl, by omega, rfl, hb4, by simp, hcs, rfl, by simp⟩, fun h => by cases h⟩
  go_region_o
  all_goals (go_wp2; go_end0; exact ⟨_, rfl, hfin⟩)
set_option maxHeartbeats 2000000 in
set_option maxRecDepth 1000000 in
theorem strings_Builder_Grow_ok : BldGr Tryd.prog 65 56 5 := by
  refine ⟨⟨_, Tryd.func65, rfl, by decide⟩, fun w b fp l n h hnd hlt hn => ?_⟩
  have tS : Tryd.prog.underlying 54 = some (.slice 5) := by kernel_rfl
  have mixed : Tryd.prog.follows .mixedOrders = true := by kernel_rfl
  have hl : l = [] ∧ ∃ b', fp = [b'] := by
    obtain ⟨p, v, fr, h1, h2, rfl, h4, h5⟩ := h
    rcases h4 with ⟨rfl, h4, _⟩ | ⟨g, cap, arr, rfl, hc0, hv, _⟩
    · exact ⟨h4, b, rfl⟩
    · rw [(h5 rfl).2] at hv; cases hv
  obtain ⟨rfl, b', hb'⟩ := hl
  go_enter Tryd.func65, Tryd.ntmps65
  obtain ⟨p, v, fr, h1, h2, h3, h4, h5⟩ := h
  obtain ⟨rfl, rfl⟩ := h5 rfl
  obtain ⟨rfl, rfl⟩ : b' = b ∧ fr = [] := by
    rw [hb'] at h3
    simpa [eq_comm] using h3
  subst hb'
  have hbk1 : (w.setCell ⟨b', 0, none⟩ (.pointer (some ⟨b', 0, none⟩))).heap[b']? = some (.cells #[.pointer (some ⟨b', 0, none⟩), .slice none 0 0] 56 (0, 0)) := by
    simp [World.setCell, Array.getElem?_modify, h2]
  have c1' : (w.setCell ⟨b', 0, none⟩ (.pointer (some ⟨b', 0, none⟩))).drew.cell? ⟨b', 1, none⟩ = some (.slice none 0 0) := by
    have : (w.setCell ⟨b', 0, none⟩ (.pointer (some ⟨b', 0, none⟩))).drew.heap[b']? = _ := hbk1
    rw [Lib.cell_of_heap this]; rfl
  go_wp2_with (go_at_call 48; refine (bld_check_fresh h2).mono ?_; rintro e w' ⟨rfl, rfl⟩)
  go_region_o
  all_goals go_wp2_with (go_at_call 84; refine (bld_grow (w := (w.setCell ⟨b', 0, none⟩ (.pointer (some ⟨b', 0, none⟩))).drew) hbk1 (by omega) hn).mono ?_; rintro e w' ⟨v1, rfl, g1, g2, g3⟩)
  all_goals
    have hs : (w.setCell ⟨b', 0, none⟩ (.pointer (some ⟨b', 0, none⟩))).drew.heap.size = w.heap.size := by
      show (w.heap.modify _ _).size = _
      rw [Array.size_modify]
    have hX : Chg [b'] w (w.setCell ⟨b', 0, none⟩ (.pointer (some ⟨b', 0, none⟩))).drew := (chg_setCell w b' 0 _).trans (chg_drew [b'] _) fun x hx => .inl hx
    have hb0 : b' < w.heap.size := hlt b' (by simp)
    go_end0
    first
      | exact ⟨_, _, rfl, hX.trans g1 fun x hx => .inl hx, g2, by rw [hs]; simp; omega, fun k hk => by
          have hgs := g1.size
          rw [hs] at hk g3 hgs
          rcases List.mem_cons.1 hk with rfl | hk
          · exact ⟨by omega, .inl (by simp)⟩
          · rw [List.mem_singleton.1 hk]; exact ⟨g3, .inr (Nat.le_refl _)⟩⟩
      | exact ⟨_, [b'], rfl, hX, ⟨_, _, [], .inr rfl, hbk1, rfl, .inl ⟨rfl, rfl, rfl⟩, fun h => by cases h⟩, by simp, fun k hk => by
          rw [hs, List.mem_singleton.1 hk]; exact ⟨hb0, .inl (by simp)⟩⟩
end

theorem strings_Builder_String_ok : BldSt Tryd.prog 26 56 5 := bldSt_of ⟨_, Tryd.func26, rfl, by decide⟩ Tryd.lays169 Tryd.Builder_Extra_169

def strings_Join_l2 (sep : ByteArray) : List ByteArray → Nat → ByteArray → Option ByteArray
  | [], k22, v37 =>
    some v37
  | y23 :: ys24, k22, v37 =>
    (need (Nat.ble (v37.size + sep.size) 140737488355328)).bind fun u39 =>
    (need (Nat.ble ((v37 ++ sep).size + y23.size) 140737488355328)).bind fun u41 =>
    strings_Join_l2 sep ys24 (k22 + 1) ((v37 ++ sep) ++ y23)
def strings_Join_l1 (elems : List ByteArray) (sep : ByteArray) : List ByteArray → Nat → Int → Option ByteArray
  | [], k5, v12 =>
    (need (decide (0 ≤ v12) && decide (v12 ≤ 281474976710656))).bind fun u14 =>
    (getI elems 0).bind fun x16 =>
    (need (Nat.ble ((⟨#[]⟩ : ByteArray).size + x16.size) 140737488355328)).bind fun u18 =>
    (sliceLo elems 1).bind fun x20 =>
    strings_Join_l2 sep x20 0 ((⟨#[]⟩ : ByteArray) ++ x16)
  | y6 :: ys7, k5, v12 =>
    cond (decide ((y6.size : Int) > (w64 (9223372036854775807 - v12))))
      (none)
      (strings_Join_l1 elems sep ys7 (k5 + 1) (w64 (v12 + (y6.size : Int))))
def strings_Join_l4 (sep : ByteArray) : List ByteArray → Nat → ByteArray → Option ByteArray
  | [], k60, v75 =>
    some v75
  | y61 :: ys62, k60, v75 =>
    (need (Nat.ble (v75.size + sep.size) 140737488355328)).bind fun u77 =>
    (need (Nat.ble ((v75 ++ sep).size + y61.size) 140737488355328)).bind fun u79 =>
    strings_Join_l4 sep ys62 (k60 + 1) ((v75 ++ sep) ++ y61)
def strings_Join_l3 (elems : List ByteArray) (sep : ByteArray) : List ByteArray → Nat → Int → Option ByteArray
  | [], k43, v50 =>
    (need (decide (0 ≤ v50) && decide (v50 ≤ 281474976710656))).bind fun u52 =>
    (getI elems 0).bind fun x54 =>
    (need (Nat.ble ((⟨#[]⟩ : ByteArray).size + x54.size) 140737488355328)).bind fun u56 =>
    (sliceLo elems 1).bind fun x58 =>
    strings_Join_l4 sep x58 0 ((⟨#[]⟩ : ByteArray) ++ x54)
  | y44 :: ys45, k43, v50 =>
    cond (decide ((y44.size : Int) > (w64 (9223372036854775807 - v50))))
      (none)
      (strings_Join_l3 elems sep ys45 (k43 + 1) (w64 (v50 + (y44.size : Int))))
def strings_Join_p (elems : List ByteArray) (sep : ByteArray) : Option ByteArray :=
  cond ((elems.length : Int) == 0)
    (some (⟨#[]⟩ : ByteArray))
    (cond ((elems.length : Int) == 1)
      ((getI elems 0).bind fun x1 =>
      some x1)
      (cond (decide ((sep.size : Int) > 0))
        ((need ((w64 ((elems.length : Int) - 1)) != 0)).bind fun u3 =>
        cond (decide ((sep.size : Int) ≥ (w64 ((9223372036854775807 : Int).tdiv (w64 ((elems.length : Int) - 1))))))
          (none)
          (strings_Join_l1 elems sep elems 0 (w64 (0 + (w64 ((sep.size : Int) * (w64 ((elems.length : Int) - 1))))))))
        (strings_Join_l3 elems sep elems 0 0)))
theorem strings_Join_ok (elems : List ByteArray) (sep : ByteArray) (r : ByteArray) (hH : strings_Join_p elems sep = some r) : SpecR Tryd.prog 50 [.s (List.map encStr elems), .v (.string sep)] (.v (.string r)) := by
 refine fn_ok T Tryd.func50 rfl (by decide) rfl ?_
 refine AW.seq (AW.region ?_)
 refine AO.pu T ?_
 refine AO.nil ?_
 iterate 2 refine AW.seq ?_
 refine AW.region ?_
 refine AO.pu T ?_
 refine AO.val rfl rfl (len_map_ok T rfl rfl rfl) ?_
 refine AO.nil ?_
 refine AW.block ?_
 refine AW.seq (AW.region ?_)
 iterate 2 refine AO.pu T ?_
 refine AO.nil ?_
 refine AW.cond (b := ((elems.length : Int) == 0)) rfl (fun hc => ?_) (fun hc => ?_)
 replace hH := condT hc hH
 refine AW.seq (AW.region ?_)
 refine AO.pu T ?_
 refine AO.nil (AW.ret ?_)
 have hR := someE hH; subst hR
 exact retQ.i [] rfl (.c (.c .v))
 replace hH := condF hc hH
 refine AW.seq (AW.region ?_)
 iterate 2 refine AO.pu T ?_
 refine AO.nil ?_
 refine AW.cond (b := ((elems.length : Int) == 1)) rfl (fun hc => ?_) (fun hc => ?_)
 replace hH := condT hc hH
 refine AW.seq ?_
 obtain ⟨x1, hx2, hH⟩ := bindE hH
 refine AW.region ?_
 refine AO.pu T ?_
 refine AO.val rfl rfl (ix_map_ok T rfl rfl rfl rfl rfl (hx2) rfl) ?_
 iterate 2 refine AO.pu T ?_
 refine AO.nil (AW.ret ?_)
 have hR := someE hH; subst hR
 exact retQ.i [] rfl (.c (.c .v))
 replace hH := condF hc hH
 refine AW.skip ?_
 refine AW.seq (AW.region ?_)
 refine AO.pu T ?_
 refine AO.nil ?_
 iterate 2 refine AW.seq ?_
 refine AW.region ?_
 iterate 3 refine AO.pu T ?_
 refine AO.nil ?_
 refine AW.cond (b := decide ((sep.size : Int) > 0)) rfl (fun hc => ?_) (fun hc => ?_)
 replace hH := condT hc hH
 iterate 2 refine AW.seq ?_
 obtain ⟨u3, hx4, hH⟩ := bindE hH
 refine AW.region ?_
 iterate 3 refine AO.pu T ?_
 refine AO.val rfl rfl (len_map_ok T rfl rfl rfl) ?_
 refine AO.val rfl rfl (arw_ok rfl rfl rfl rfl) ?_
 refine AO.val rfl rfl (quow_ok rfl rfl rfl (neZ (needT (hx4)))) ?_
 refine AO.pu T ?_
 refine AO.nil ?_
 refine AW.cond (b := decide ((sep.size : Int) ≥ (w64 ((9223372036854775807 : Int).tdiv (w64 ((elems.length : Int) - 1)))))) rfl (fun hc => ?_) (fun hc => ?_)
 replace hH := condT hc hH
 cases hH
 replace hH := condF hc hH
 refine AW.skip ?_
 refine AW.region ?_
 iterate 4 refine AO.pu T ?_
 refine AO.val rfl rfl (len_map_ok T rfl rfl rfl) ?_
 iterate 3 refine AO.val rfl rfl (arw_ok rfl rfl rfl rfl) ?_
 refine AO.pu T ?_
 refine AO.nil ?_
 refine AW.le (Le.ct 0 0 (σ' := (⟨[(0, .s (List.map encStr elems)), (1, .v (.string sep)), (5, w64 (0 + (w64 ((sep.size : Int) * (w64 ((elems.length : Int) - 1))))))], [], 75, []⟩ : St))) ?_
 iterate 2 refine AW.seq ?_
 refine AW.region ?_
 refine AO.pu T ?_
 refine AO.val rfl rfl (len_map_ok T rfl rfl rfl) ?_
 refine AO.pu T ?_
 refine AO.nil ?_
 refine AW.block ?_
 refine AW.loopS (fun s : Nat × Int => (⟨[(0, .s (List.map encStr elems)), (1, .v (.string sep)), (5, s.2), (39, .s (List.map encStr elems)), (40, (elems.length : Int)), (41, (s.1 : Int))], [], 75, []⟩ : St)) (fun s => s.1 ≤ elems.length ∧ strings_Join_l1 elems sep (elems.drop s.1) s.1 s.2 = some r) (fun s => elems.length - s.1) (0, w64 (0 + (w64 ((sep.size : Int) * (w64 ((elems.length : Int) - 1)))))) ⟨Nat.zero_le _, hH⟩ ?_ ?_
 exact Le.ct 0 0
 rintro ⟨k5, v12⟩ ⟨hk, hH⟩
 replace hH : strings_Join_l1 elems sep (elems.drop k5) k5 v12 = some r := hH
 try dsimp only
 refine AW.boundM (t := 0) (l := elems) rfl (fun hb9 => ?_)
 rcases hd8 : elems.drop k5 with _ | ⟨y6, ys7⟩
 rw [hd8, strings_Join_l1] at hH
 have hlt10 := drop_ge hd8
 refine AW.seq (AW.region ?_)
 refine AO.pu T ?_
 refine AO.nil (AW.seq ?_)
 refine AW.condF' (b := decide ((k5 : Int) < (elems.length : Int))) rfl (rngF hlt10) ?_
 refine AW.exit ?_
 refine AW.seq (AW.region ?_)
 refine AO.step rfl (alloc_bld_ok T true (U := 5) rfl 1 rfl rfl rfl rfl rfl) ?_
 refine AO.nil (AW.seq ?_)
 obtain ⟨u14, hx15, hH⟩ := bindE hH
 refine AW.region ?_
 refine AO.pu T ?_
 refine AO.step rfl (bldG_ok rfl rfl rfl rfl (needT (hx15)) strings_Builder_Grow_ok rfl) ?_
 refine AO.nil (AW.seq ?_)
 obtain ⟨x16, hx17, hH⟩ := bindE hH
 obtain ⟨u18, hx19, hH⟩ := bindE hH
 refine AW.region ?_
 refine AO.pu T ?_
 refine AO.val rfl rfl (ix_map_ok T rfl rfl rfl rfl rfl (hx17) rfl) ?_
 refine AO.pu T ?_
 refine AO.step rfl (bldW_ok rfl rfl rfl rfl (needT (hx19)) strings_Builder_WriteString_ok rfl) ?_
 refine AO.nil ?_
 iterate 2 refine AW.seq ?_
 obtain ⟨x20, hx21, hH⟩ := bindE hH
 refine AW.region ?_
 refine AO.pu T ?_
 refine AO.val rfl rfl (slice_lo_map_ok T rfl rfl rfl rfl rfl (hx21) (fun _ => rfl)) ?_
 refine AO.val rfl rfl (len_map_ok T rfl rfl rfl) ?_
 refine AO.pu T ?_
 refine AO.nil ?_
 refine AW.block ?_
 refine AW.loopS (fun s : Nat × ByteArray => (⟨[(1, .v (.string sep)), (8, .p 1 0), (63, .s (List.map encStr x20)), (64, (x20.length : Int)), (65, (s.1 : Int))], [(1, .bld false 56 5 s.2)], 75, []⟩ : St)) (fun s => s.1 ≤ x20.length ∧ strings_Join_l2 sep (x20.drop s.1) s.1 s.2 = some r) (fun s => x20.length - s.1) (0, ((⟨#[]⟩ : ByteArray) ++ x16)) ⟨Nat.zero_le _, hH⟩ ?_ ?_
 exact Le.ct 0 0
 rintro ⟨k22, v37⟩ ⟨hk, hH⟩
 replace hH : strings_Join_l2 sep (x20.drop k22) k22 v37 = some r := hH
 try dsimp only
 refine AW.boundM (t := 63) (l := x20) rfl (fun hb26 => ?_)
 rcases hd25 : x20.drop k22 with _ | ⟨y23, ys24⟩
 rw [hd25, strings_Join_l2] at hH
 have hlt27 := drop_ge hd25
 refine AW.seq (AW.region ?_)
 refine AO.pu T ?_
 refine AO.nil (AW.seq ?_)
 refine AW.condF' (b := decide ((k22 : Int) < (x20.length : Int))) rfl (rngF hlt27) ?_
 refine AW.exit ?_
 refine AW.seq (AW.region ?_)
 refine AO.step rfl (bldS_ok rfl rfl rfl rfl strings_Builder_String_ok rfl) ?_
 refine AO.pu T ?_
 refine AO.nil (AW.ret ?_)
 have hR := someE hH; subst hR
 exact retQ.i [] rfl (.c (.c .v))
 rw [hd25, strings_Join_l2] at hH
 have hlt27 := drop_lt hd25
 refine AW.seq (AW.region ?_)
 refine AO.pu T ?_
 refine AO.nil (AW.seq ?_)
 refine AW.condT' (b := decide ((k22 : Int) < (x20.length : Int))) rfl (rngT hlt27) ?_
 refine AW.skip ?_
 refine AW.seq ?_
 refine AW.block ?_
 refine AW.seq (AW.region ?_)
 refine AO.val rfl rfl (ix_map_ok T rfl rfl rfl rfl rfl (getI_drop hd25) rfl) ?_
 iterate 2 refine AO.pu T ?_
 refine AO.nil (AW.seq ?_)
 obtain ⟨u39, hx40, hH⟩ := bindE hH
 refine AW.region ?_
 refine AO.pu T ?_
 refine AO.step rfl (bldW_ok rfl rfl rfl rfl (needT (hx40)) strings_Builder_WriteString_ok rfl) ?_
 refine AO.nil ?_
 obtain ⟨u41, hx42, hH⟩ := bindE hH
 refine AW.region ?_
 refine AO.pu T ?_
 refine AO.step rfl (bldW_ok rfl rfl rfl rfl (needT (hx42)) strings_Builder_WriteString_ok rfl) ?_
 refine AO.nil ?_
 refine AW.region ?_
 refine AO.val rfl rfl (ar_ok rfl rfl rfl rfl (inI_succ hlt27 hb26)) ?_
 refine AO.pu T ?_
 refine AO.nil ?_
 refine ⟨(k22 + 1, ((v37 ++ sep) ++ y23)), ⟨Nat.succ_le_of_lt hlt27, (by rw [drop_succ_of hd25]; exact hH)⟩, (by have := hlt27; dsimp only; omega), ?_⟩
 exact Le.ct 0 0
 rw [hd8, strings_Join_l1] at hH
 have hlt10 := drop_lt hd8
 refine AW.seq (AW.region ?_)
 refine AO.pu T ?_
 refine AO.nil (AW.seq ?_)
 refine AW.condT' (b := decide ((k5 : Int) < (elems.length : Int))) rfl (rngT hlt10) ?_
 refine AW.skip ?_
 refine AW.seq ?_
 refine AW.block ?_
 refine AW.seq (AW.region ?_)
 refine AO.val rfl rfl (ix_map_ok T rfl rfl rfl rfl rfl (getI_drop hd8) rfl) ?_
 iterate 2 refine AO.pu T ?_
 refine AO.nil ?_
 iterate 2 refine AW.seq ?_
 refine AW.region ?_
 iterate 3 refine AO.pu T ?_
 refine AO.val rfl rfl (arw_ok rfl rfl rfl rfl) ?_
 refine AO.pu T ?_
 refine AO.nil ?_
 refine AW.cond (b := decide ((y6.size : Int) > (w64 (9223372036854775807 - v12)))) rfl (fun hc => ?_) (fun hc => ?_)
 replace hH := condT hc hH
 cases hH
 replace hH := condF hc hH
 refine AW.skip ?_
 refine AW.region ?_
 iterate 3 refine AO.pu T ?_
 refine AO.val rfl rfl (arw_ok rfl rfl rfl rfl) ?_
 refine AO.pu T ?_
 refine AO.nil ?_
 refine AW.region ?_
 refine AO.val rfl rfl (ar_ok rfl rfl rfl rfl (inI_succ hlt10 hb9)) ?_
 refine AO.pu T ?_
 refine AO.nil ?_
 refine ⟨(k5 + 1, w64 (v12 + (y6.size : Int))), ⟨Nat.succ_le_of_lt hlt10, (by rw [drop_succ_of hd8]; exact hH)⟩, (by have := hlt10; dsimp only; omega), ?_⟩
 exact Le.ct 0 0
 replace hH := condF hc hH
 refine AW.skip ?_
 iterate 2 refine AW.seq ?_
 refine AW.region ?_
 refine AO.pu T ?_
 refine AO.val rfl rfl (len_map_ok T rfl rfl rfl) ?_
 refine AO.pu T ?_
 refine AO.nil ?_
 refine AW.block ?_
 refine AW.loopS (fun s : Nat × Int => (⟨[(0, .s (List.map encStr elems)), (1, .v (.string sep)), (5, s.2), (39, .s (List.map encStr elems)), (40, (elems.length : Int)), (41, (s.1 : Int))], [], 75, []⟩ : St)) (fun s => s.1 ≤ elems.length ∧ strings_Join_l3 elems sep (elems.drop s.1) s.1 s.2 = some r) (fun s => elems.length - s.1) (0, 0) ⟨Nat.zero_le _, hH⟩ ?_ ?_
 exact Le.ct 0 0
 rintro ⟨k43, v50⟩ ⟨hk, hH⟩
 replace hH : strings_Join_l3 elems sep (elems.drop k43) k43 v50 = some r := hH
 try dsimp only
 refine AW.boundM (t := 0) (l := elems) rfl (fun hb47 => ?_)
 rcases hd46 : elems.drop k43 with _ | ⟨y44, ys45⟩
 rw [hd46, strings_Join_l3] at hH
 have hlt48 := drop_ge hd46
 refine AW.seq (AW.region ?_)
 refine AO.pu T ?_
 refine AO.nil (AW.seq ?_)
 refine AW.condF' (b := decide ((k43 : Int) < (elems.length : Int))) rfl (rngF hlt48) ?_
 refine AW.exit ?_
 refine AW.seq (AW.region ?_)
 refine AO.step rfl (alloc_bld_ok T true (U := 5) rfl 2 rfl rfl rfl rfl rfl) ?_
 refine AO.nil (AW.seq ?_)
 obtain ⟨u52, hx53, hH⟩ := bindE hH
 refine AW.region ?_
 refine AO.pu T ?_
 refine AO.step rfl (bldG_ok rfl rfl rfl rfl (needT (hx53)) strings_Builder_Grow_ok rfl) ?_
 refine AO.nil (AW.seq ?_)
 obtain ⟨x54, hx55, hH⟩ := bindE hH
 obtain ⟨u56, hx57, hH⟩ := bindE hH
 refine AW.region ?_
 refine AO.pu T ?_
 refine AO.val rfl rfl (ix_map_ok T rfl rfl rfl rfl rfl (hx55) rfl) ?_
 refine AO.pu T ?_
 refine AO.step rfl (bldW_ok rfl rfl rfl rfl (needT (hx57)) strings_Builder_WriteString_ok rfl) ?_
 refine AO.nil ?_
 iterate 2 refine AW.seq ?_
 obtain ⟨x58, hx59, hH⟩ := bindE hH
 refine AW.region ?_
 refine AO.pu T ?_
 refine AO.val rfl rfl (slice_lo_map_ok T rfl rfl rfl rfl rfl (hx59) (fun _ => rfl)) ?_
 refine AO.val rfl rfl (len_map_ok T rfl rfl rfl) ?_
 refine AO.pu T ?_
 refine AO.nil ?_
 refine AW.block ?_
 refine AW.loopS (fun s : Nat × ByteArray => (⟨[(1, .v (.string sep)), (8, .p 2 0), (63, .s (List.map encStr x58)), (64, (x58.length : Int)), (65, (s.1 : Int))], [(2, .bld false 56 5 s.2)], 75, []⟩ : St)) (fun s => s.1 ≤ x58.length ∧ strings_Join_l4 sep (x58.drop s.1) s.1 s.2 = some r) (fun s => x58.length - s.1) (0, ((⟨#[]⟩ : ByteArray) ++ x54)) ⟨Nat.zero_le _, hH⟩ ?_ ?_
 exact Le.ct 0 0
 rintro ⟨k60, v75⟩ ⟨hk, hH⟩
 replace hH : strings_Join_l4 sep (x58.drop k60) k60 v75 = some r := hH
 try dsimp only
 refine AW.boundM (t := 63) (l := x58) rfl (fun hb64 => ?_)
 rcases hd63 : x58.drop k60 with _ | ⟨y61, ys62⟩
 rw [hd63, strings_Join_l4] at hH
 have hlt65 := drop_ge hd63
 refine AW.seq (AW.region ?_)
 refine AO.pu T ?_
 refine AO.nil (AW.seq ?_)
 refine AW.condF' (b := decide ((k60 : Int) < (x58.length : Int))) rfl (rngF hlt65) ?_
 refine AW.exit ?_
 refine AW.seq (AW.region ?_)
 refine AO.step rfl (bldS_ok rfl rfl rfl rfl strings_Builder_String_ok rfl) ?_
 refine AO.pu T ?_
 refine AO.nil (AW.ret ?_)
 have hR := someE hH; subst hR
 exact retQ.i [] rfl (.c (.c .v))
 rw [hd63, strings_Join_l4] at hH
 have hlt65 := drop_lt hd63
 refine AW.seq (AW.region ?_)
 refine AO.pu T ?_
 refine AO.nil (AW.seq ?_)
 refine AW.condT' (b := decide ((k60 : Int) < (x58.length : Int))) rfl (rngT hlt65) ?_
 refine AW.skip ?_
 refine AW.seq ?_
 refine AW.block ?_
 refine AW.seq (AW.region ?_)
 refine AO.val rfl rfl (ix_map_ok T rfl rfl rfl rfl rfl (getI_drop hd63) rfl) ?_
 iterate 2 refine AO.pu T ?_
 refine AO.nil (AW.seq ?_)
 obtain ⟨u77, hx78, hH⟩ := bindE hH
 refine AW.region ?_
 refine AO.pu T ?_
 refine AO.step rfl (bldW_ok rfl rfl rfl rfl (needT (hx78)) strings_Builder_WriteString_ok rfl) ?_
 refine AO.nil ?_
 obtain ⟨u79, hx80, hH⟩ := bindE hH
 refine AW.region ?_
 refine AO.pu T ?_
 refine AO.step rfl (bldW_ok rfl rfl rfl rfl (needT (hx80)) strings_Builder_WriteString_ok rfl) ?_
 refine AO.nil ?_
 refine AW.region ?_
 refine AO.val rfl rfl (ar_ok rfl rfl rfl rfl (inI_succ hlt65 hb64)) ?_
 refine AO.pu T ?_
 refine AO.nil ?_
 refine ⟨(k60 + 1, ((v75 ++ sep) ++ y61)), ⟨Nat.succ_le_of_lt hlt65, (by rw [drop_succ_of hd63]; exact hH)⟩, (by have := hlt65; dsimp only; omega), ?_⟩
 exact Le.ct 0 0
 rw [hd46, strings_Join_l3] at hH
 have hlt48 := drop_lt hd46
 refine AW.seq (AW.region ?_)
 refine AO.pu T ?_
 refine AO.nil (AW.seq ?_)
 refine AW.condT' (b := decide ((k43 : Int) < (elems.length : Int))) rfl (rngT hlt48) ?_
 refine AW.skip ?_
 refine AW.seq ?_
 refine AW.block ?_
 refine AW.seq (AW.region ?_)
 refine AO.val rfl rfl (ix_map_ok T rfl rfl rfl rfl rfl (getI_drop hd46) rfl) ?_
 iterate 2 refine AO.pu T ?_
 refine AO.nil ?_
 iterate 2 refine AW.seq ?_
 refine AW.region ?_
 iterate 3 refine AO.pu T ?_
 refine AO.val rfl rfl (arw_ok rfl rfl rfl rfl) ?_
 refine AO.pu T ?_
 refine AO.nil ?_
 refine AW.cond (b := decide ((y44.size : Int) > (w64 (9223372036854775807 - v50)))) rfl (fun hc => ?_) (fun hc => ?_)
 replace hH := condT hc hH
 cases hH
 replace hH := condF hc hH
 refine AW.skip ?_
 refine AW.region ?_
 iterate 3 refine AO.pu T ?_
 refine AO.val rfl rfl (arw_ok rfl rfl rfl rfl) ?_
 refine AO.pu T ?_
 refine AO.nil ?_
 refine AW.region ?_
 refine AO.val rfl rfl (ar_ok rfl rfl rfl rfl (inI_succ hlt48 hb47)) ?_
 refine AO.pu T ?_
 refine AO.nil ?_
 refine ⟨(k43 + 1, w64 (v50 + (y44.size : Int))), ⟨Nat.succ_le_of_lt hlt48, (by rw [drop_succ_of hd46]; exact hH)⟩, (by have := hlt48; dsimp only; omega), ?_⟩
 exact Le.ct 0 0

def impl_numbersText_l1 : List Int → Nat → List ByteArray → Option ByteArray
  | [], k1, v16 =>
    (strings_Join_p v16 (⟨#[32]⟩ : ByteArray)).bind fun x18 =>
    some x18
  | y2 :: ys3, k1, v16 =>
    (strconv_Itoa_p y2).bind fun x20 =>
    (need (fitsB 16 (v16.length + ([x20]).length))).bind fun u22 =>
    impl_numbersText_l1 ys3 (k1 + 1) (v16 ++ [x20])
def impl_numbersText_p (l : List Int) : Option ByteArray :=
  impl_numbersText_l1 l 0 []
theorem impl_numbersText_ok (l : List Int) (r : ByteArray) (hH : impl_numbersText_p l = some r) : SpecR Tryd.prog 25 [.s (List.map encInt l)] (.v (.string r)) := by
 refine fn_ok T Tryd.func25 rfl (by decide) rfl ?_
 refine AW.seq (AW.region ?_)
 refine AO.pu T ?_
 refine AO.nil (AW.seq ?_)
 refine AW.region ?_
 refine AO.step rfl (mk0_ok T rfl rfl rfl rfl) ?_
 refine AO.pu T ?_
 refine AO.nil ?_
 iterate 2 refine AW.seq ?_
 refine AW.region ?_
 refine AO.pu T ?_
 refine AO.val rfl rfl (len_map_ok T rfl rfl rfl) ?_
 refine AO.pu T ?_
 refine AO.nil ?_
 refine AW.block ?_
 refine AW.loopS (fun s : Nat × (List ByteArray) => (⟨[(3, .R 4), (7, .s (List.map encInt l)), (8, (l.length : Int)), (9, (s.1 : Int))], [(4, .row 1 (List.map encStr s.2))], 21, []⟩ : St)) (fun s => s.1 ≤ l.length ∧ impl_numbersText_l1 (l.drop s.1) s.1 s.2 = some r) (fun s => l.length - s.1) (0, []) ⟨Nat.zero_le _, hH⟩ ?_ ?_
 refine Le.trans (Le.void 3 4 1 rfl rfl) ?_
 exact Le.ct 0 0
 rintro ⟨k1, v16⟩ ⟨hk, hH⟩
 replace hH : impl_numbersText_l1 (l.drop k1) k1 v16 = some r := hH
 try dsimp only
 refine AW.boundM (t := 7) (l := l) rfl (fun hb5 => ?_)
 rcases hd4 : l.drop k1 with _ | ⟨y2, ys3⟩
 rw [hd4, impl_numbersText_l1] at hH
 have hlt6 := drop_ge hd4
 refine AW.seq (AW.region ?_)
 refine AO.pu T ?_
 refine AO.nil (AW.seq ?_)
 refine AW.condF' (b := decide ((k1 : Int) < (l.length : Int))) rfl (rngF hlt6) ?_
 refine AW.exit ?_
 refine AW.seq ?_
 obtain ⟨x18, hx19, hH⟩ := bindE hH
 refine AW.region ?_
 refine AO.pu T ?_
 refine AO.val rfl rfl (callLV_ok rfl rfl rfl (es := [.s (List.map encStr v16), .v (.string (⟨#[32]⟩ : ByteArray))]) ⟨(.rowR rfl (.map fun y => .vs rfl)), .free rfl, trivial⟩ (strings_Join_ok _ _ _ (hx19)) (zfree_v _) rfl) ?_
 refine AO.pu T ?_
 refine AO.nil (AW.ret ?_)
 have hR := someE hH; subst hR
 exact retQ.i [] rfl (.c (.c .v))
 rw [hd4, impl_numbersText_l1] at hH
 have hlt6 := drop_lt hd4
 refine AW.seq (AW.region ?_)
 refine AO.pu T ?_
 refine AO.nil (AW.seq ?_)
 refine AW.condT' (b := decide ((k1 : Int) < (l.length : Int))) rfl (rngT hlt6) ?_
 refine AW.skip ?_
 refine AW.seq ?_
 refine AW.block ?_
 refine AW.seq (AW.region ?_)
 refine AO.val rfl rfl (ix_map_ok T rfl rfl rfl rfl rfl (getI_drop hd4) rfl) ?_
 iterate 2 refine AO.pu T ?_
 refine AO.nil ?_
 obtain ⟨x20, hx21, hH⟩ := bindE hH
 obtain ⟨u22, hx23, hH⟩ := bindE hH
 refine AW.region ?_
 iterate 2 refine AO.pu T ?_
 refine AO.val rfl rfl (callV_ok rfl rfl rfl rfl (strconv_Itoa_ok _ _ (hx21)) rfl) ?_
 refine AO.step rfl (mk_map_ok T rfl 5 rfl rfl rfl rfl rfl (f := encStr) (l := [x20]) rfl rfl (fun _ => rfl) rfl rfl rfl rfl rfl) ?_
 refine AO.step rfl (app_rv_map T rfl 6 rfl rfl rfl rfl rfl (by decide) rfl rfl rfl rfl (fun _ => rfl) (needT (hx23)) rfl rfl) ?_
 refine AO.pu T ?_
 refine AO.nil ?_
 refine AW.region ?_
 refine AO.val rfl rfl (ar_ok rfl rfl rfl rfl (inI_succ hlt6 hb5)) ?_
 refine AO.pu T ?_
 refine AO.nil ?_
 refine ⟨(k1 + 1, (v16 ++ [x20])), ⟨Nat.succ_le_of_lt hlt6, (by rw [drop_succ_of hd4]; exact hH)⟩, (by have := hlt6; dsimp only; omega), ?_⟩
 exact Le.ct 6 4

def impl_HistoryText_l1 : List Change → Nat → ByteArray → Option ((ByteArray × Bool))
  | [], k3, v42 =>
    some (v42, true)
  | y4 :: ys5, k3, v42 =>
    (impl_numbersText_p [y4.tick, y4.caller, y4.item, y4.name]).bind fun x44 =>
    (need (Nat.ble (x44.size + (⟨#[32]⟩ : ByteArray).size) maxN)).bind fun u46 =>
    (getI [(⟨#[110, 111, 110, 101]⟩ : ByteArray), (⟨#[100, 111, 119, 110]⟩ : ByteArray), (⟨#[101, 100, 103, 101]⟩ : ByteArray), (⟨#[118, 111, 105, 100]⟩ : ByteArray)] y4.mark).bind fun x48 =>
    (need (Nat.ble ((x44 ++ (⟨#[32]⟩ : ByteArray)).size + x48.size) maxN)).bind fun u50 =>
    (need (Nat.ble (v42.size + ((x44 ++ (⟨#[32]⟩ : ByteArray)) ++ x48).size) 140737488355328)).bind fun u52 =>
    cond y4.review
      ((need (Nat.ble ((v42 ++ ((x44 ++ (⟨#[32]⟩ : ByteArray)) ++ x48)).size + (⟨#[32, 114, 101, 118, 105, 101, 119]⟩ : ByteArray).size) 140737488355328)).bind fun u54 =>
      (need (Nat.ble (((v42 ++ ((x44 ++ (⟨#[32]⟩ : ByteArray)) ++ x48)) ++ (⟨#[32, 114, 101, 118, 105, 101, 119]⟩ : ByteArray)).size + (⟨#[10]⟩ : ByteArray).size) 140737488355328)).bind fun u56 =>
      impl_HistoryText_l1 ys5 (k3 + 1) (((v42 ++ ((x44 ++ (⟨#[32]⟩ : ByteArray)) ++ x48)) ++ (⟨#[32, 114, 101, 118, 105, 101, 119]⟩ : ByteArray)) ++ (⟨#[10]⟩ : ByteArray)))
      ((need (Nat.ble ((v42 ++ ((x44 ++ (⟨#[32]⟩ : ByteArray)) ++ x48)).size + (⟨#[10]⟩ : ByteArray).size) 140737488355328)).bind fun u58 =>
      impl_HistoryText_l1 ys5 (k3 + 1) ((v42 ++ ((x44 ++ (⟨#[32]⟩ : ByteArray)) ++ x48)) ++ (⟨#[10]⟩ : ByteArray)))
def impl_HistoryText_p (fuel : Nat) (l : List Item) (h : List Change) : Option (ByteArray × Bool) :=
  (impl_isHistory_p fuel l h).bind fun x1 =>
  cond (!x1)
    (some ((⟨#[]⟩ : ByteArray), false))
    (impl_HistoryText_l1 h 0 (⟨#[]⟩ : ByteArray))
theorem impl_HistoryText_ok (fuel : Nat) (l : List Item) (h : List Change) (r : (ByteArray × Bool)) (hH : impl_HistoryText_p fuel l h = some r) : SpecR Tryd.prog 10 [.s (List.map encItem l), .s (List.map encChange h)] (.t [.v (.string r.1), .v (.bool r.2)]) := by
 refine fn_ok T Tryd.func10 rfl (by decide) rfl ?_
 refine AW.seq (AW.region ?_)
 iterate 2 refine AO.pu T ?_
 refine AO.nil ?_
 iterate 2 refine AW.seq ?_
 obtain ⟨x1, hx2, hH⟩ := bindE hH
 refine AW.region ?_
 iterate 2 refine AO.pu T ?_
 refine AO.val rfl rfl (callV_ok rfl rfl rfl rfl (impl_isHistory_ok fuel _ _ _ (hx2)) rfl) ?_
 refine AO.pu T ?_
 refine AO.nil ?_
 refine AW.cond (b := (!x1)) rfl (fun hc => ?_) (fun hc => ?_)
 replace hH := condT hc hH
 refine AW.seq (AW.region ?_)
 iterate 2 refine AO.pu T ?_
 refine AO.nil (AW.ret ?_)
 have hR := someE hH; subst hR
 exact retQ.i [] rfl (.t (expLG_cons (.c .v) (expLG_cons (.c .v) (expLG_nil))))
 replace hH := condF hc hH
 refine AW.skip ?_
 refine AW.seq (AW.region ?_)
 refine AO.step rfl (alloc_bld_ok T false (U := 5) rfl 1 rfl rfl rfl rfl rfl) ?_
 refine AO.nil ?_
 iterate 2 refine AW.seq ?_
 refine AW.region ?_
 refine AO.pu T ?_
 refine AO.val rfl rfl (len_map_ok T rfl rfl rfl) ?_
 refine AO.pu T ?_
 refine AO.nil ?_
 refine AW.block ?_
 refine AW.loopS (fun s : Nat × ByteArray => (⟨[(6, .p 1 0), (13, .s (List.map encChange h)), (14, (h.length : Int)), (15, (s.1 : Int))], [(1, .bld false 56 5 s.2)], 42, []⟩ : St)) (fun s => s.1 ≤ h.length ∧ impl_HistoryText_l1 (h.drop s.1) s.1 s.2 = some r) (fun s => h.length - s.1) (0, (⟨#[]⟩ : ByteArray)) ⟨Nat.zero_le _, hH⟩ ?_ ?_
 exact Le.ct 0 0
 rintro ⟨k3, v42⟩ ⟨hk, hH⟩
 replace hH : impl_HistoryText_l1 (h.drop k3) k3 v42 = some r := hH
 try dsimp only
 refine AW.boundM (t := 13) (l := h) rfl (fun hb7 => ?_)
 rcases hd6 : h.drop k3 with _ | ⟨y4, ys5⟩
 rw [hd6, impl_HistoryText_l1] at hH
 have hlt8 := drop_ge hd6
 refine AW.seq (AW.region ?_)
 refine AO.pu T ?_
 refine AO.nil (AW.seq ?_)
 refine AW.condF' (b := decide ((k3 : Int) < (h.length : Int))) rfl (rngF hlt8) ?_
 refine AW.exit ?_
 refine AW.seq (AW.region ?_)
 refine AO.step rfl (bldS_ok rfl rfl rfl rfl strings_Builder_String_ok rfl) ?_
 iterate 2 refine AO.pu T ?_
 refine AO.nil (AW.ret ?_)
 have hR := someE hH; subst hR
 exact retQ.i [] rfl (.t (expLG_cons (.c .v) (expLG_cons (.c .v) (expLG_nil))))
 rw [hd6, impl_HistoryText_l1] at hH
 have hlt8 := drop_lt hd6
 refine AW.seq (AW.region ?_)
 refine AO.pu T ?_
 refine AO.nil (AW.seq ?_)
 refine AW.condT' (b := decide ((k3 : Int) < (h.length : Int))) rfl (rngT hlt8) ?_
 refine AW.skip ?_
 refine AW.seq ?_
 refine AW.block ?_
 refine AW.seq (AW.region ?_)
 refine AO.val rfl rfl (ix_map_ok T rfl rfl rfl rfl rfl (getI_drop hd6) rfl) ?_
 refine AO.pu T (d := .g [y4.tick, y4.caller, y4.item, y4.name, y4.mark, .v (.bool y4.review)]) ?_
 refine AO.step rfl (alloc_ok T rfl 6 rfl rfl rfl rfl rfl) ?_
 refine AO.se T [y4.tick, y4.caller, y4.item, y4.name, y4.mark, .v (.bool y4.review)] ?_
 refine AO.nil (AW.seq ?_)
 obtain ⟨x44, hx45, hH⟩ := bindE hH
 obtain ⟨u46, hx47, hH⟩ := bindE hH
 obtain ⟨x48, hx49, hH⟩ := bindE hH
 obtain ⟨u50, hx51, hH⟩ := bindE hH
 obtain ⟨u52, hx53, hH⟩ := bindE hH
 refine AW.drawn 15 7 [] mix (by kernel_rfl) rfl ?_
 iterate 8 refine AD.pure T rfl rfl rfl ?_
 refine AD.q (FStep.mk T (f := encInt) (l := [y4.tick, y4.caller, y4.item, y4.name]) rfl rfl rfl rfl rfl rfl rfl rfl rfl (fun _ => rfl) rfl rfl rfl rfl) (by simp [namesIn]) (Nat.le_succ _) rfl ?_
 refine AD.vald rfl rfl rfl (callLV_ok rfl rfl rfl (es := [.s (List.map encInt [y4.tick, y4.caller, y4.item, y4.name])]) ⟨(.rowR rfl (.map fun y => .vs rfl)), trivial⟩ (impl_numbersText_ok _ _ (hx45)) (zfree_v _) rfl) ?_
 refine AD.val rfl rfl (concat_ok rfl rfl rfl (Nat.le_of_ble_eq_true (needT (hx47)))) ?_
 iterate 2 refine AD.pure T rfl rfl rfl ?_
 refine AD.val rfl rfl (ixq_ok T (l := [(⟨#[110, 111, 110, 101]⟩ : ByteArray), (⟨#[100, 111, 119, 110]⟩ : ByteArray), (⟨#[101, 100, 103, 101]⟩ : ByteArray), (⟨#[118, 111, 105, 100]⟩ : ByteArray)]) (f := encStr) rfl rfl rfl rfl rfl rfl rfl (fun _ => rfl) (hx49)) ?_
 refine AD.pure T rfl rfl rfl ?_
 refine AD.nil ?_
 refine AO.val rfl rfl (concat_ok rfl rfl rfl (Nat.le_of_ble_eq_true (needT (hx51)))) ?_
 refine AO.step rfl (bldW_ok rfl rfl rfl rfl (needT (hx53)) strings_Builder_WriteString_ok rfl) ?_
 refine AO.nil ?_
 iterate 2 refine AW.seq ?_
 refine AW.region ?_
 iterate 2 refine AO.pu T ?_
 refine AO.nil ?_
 refine AW.le (Le.ct 0 0 (σ' := (⟨[(6, .p 1 0), (13, .s (List.map encChange h)), (14, (h.length : Int)), (15, (k3 : Int)), (37, .v (.bool y4.review))], [(1, .bld false 56 5 (v42 ++ ((x44 ++ (⟨#[32]⟩ : ByteArray)) ++ x48)))], 42, []⟩ : St))) ?_
 refine AW.cond (b := y4.review) rfl (fun hc => ?_) (fun hc => ?_)
 replace hH := condT hc hH
 obtain ⟨u54, hx55, hH⟩ := bindE hH
 refine AW.region ?_
 refine AO.step rfl (bldW_ok rfl rfl rfl rfl (needT (hx55)) strings_Builder_WriteString_ok rfl) ?_
 refine AO.nil ?_
 obtain ⟨u56, hx57, hH⟩ := bindE hH
 refine AW.region ?_
 refine AO.step rfl (bldW_ok rfl rfl rfl rfl (needT (hx57)) strings_Builder_WriteString_ok rfl) ?_
 refine AO.nil ?_
 refine AW.region ?_
 refine AO.val rfl rfl (ar_ok rfl rfl rfl rfl (inI_succ hlt8 hb7)) ?_
 refine AO.pu T ?_
 refine AO.nil ?_
 refine ⟨(k3 + 1, (((v42 ++ ((x44 ++ (⟨#[32]⟩ : ByteArray)) ++ x48)) ++ (⟨#[32, 114, 101, 118, 105, 101, 119]⟩ : ByteArray)) ++ (⟨#[10]⟩ : ByteArray))), ⟨Nat.succ_le_of_lt hlt8, (by rw [drop_succ_of hd6]; exact hH)⟩, (by have := hlt8; dsimp only; omega), ?_⟩
 exact Le.ct 0 0
 replace hH := condF hc hH
 refine AW.skip ?_
 obtain ⟨u58, hx59, hH⟩ := bindE hH
 refine AW.region ?_
 refine AO.step rfl (bldW_ok rfl rfl rfl rfl (needT (hx59)) strings_Builder_WriteString_ok rfl) ?_
 refine AO.nil ?_
 refine AW.region ?_
 refine AO.val rfl rfl (ar_ok rfl rfl rfl rfl (inI_succ hlt8 hb7)) ?_
 refine AO.pu T ?_
 refine AO.nil ?_
 refine ⟨(k3 + 1, ((v42 ++ ((x44 ++ (⟨#[32]⟩ : ByteArray)) ++ x48)) ++ (⟨#[10]⟩ : ByteArray))), ⟨Nat.succ_le_of_lt hlt8, (by rw [drop_succ_of hd6]; exact hH)⟩, (by have := hlt8; dsimp only; omega), ?_⟩
 exact Le.ct 0 0

def laws_eqStringS_l1 (b : List ByteArray) : List ByteArray → Nat → Option Bool
  | [], k1 =>
    some true
  | y2 :: ys3, k1 =>
    (getI b (k1 : Int)).bind fun x12 =>
    cond (!decide (y2 = x12))
      (some false)
      (laws_eqStringS_l1 b ys3 (k1 + 1))
def laws_eqStringS_p (a : List ByteArray) (b : List ByteArray) : Option Bool :=
  cond ((a.length : Int) != (b.length : Int))
    (some false)
    (laws_eqStringS_l1 b a 0)
theorem laws_eqStringS_ok (a : List ByteArray) (b : List ByteArray) (r : Bool) (hH : laws_eqStringS_p a b = some r) : SpecR Tryd.prog 51 [.s (List.map encStr a), .s (List.map encStr b)] (.v (.bool r)) := by
 refine fn_ok T Tryd.func51 rfl (by decide) rfl ?_
 refine AW.seq (AW.region ?_)
 refine AO.pu T ?_
 refine AO.nil ?_
 iterate 2 refine AW.seq ?_
 refine AW.region ?_
 refine AO.pu T ?_
 refine AO.val rfl rfl (len_map_ok T rfl rfl rfl) ?_
 refine AO.pu T ?_
 refine AO.val rfl rfl (len_map_ok T rfl rfl rfl) ?_
 refine AO.pu T ?_
 refine AO.nil ?_
 refine AW.cond (b := ((a.length : Int) != (b.length : Int))) rfl (fun hc => ?_) (fun hc => ?_)
 replace hH := condT hc hH
 refine AW.seq (AW.region ?_)
 refine AO.pu T ?_
 refine AO.nil (AW.ret ?_)
 have hR := someE hH; subst hR
 exact retQ.i [] rfl (.c (.c .v))
 replace hH := condF hc hH
 refine AW.skip ?_
 iterate 2 refine AW.seq ?_
 refine AW.region ?_
 refine AO.pu T ?_
 refine AO.nil ?_
 refine AW.block ?_
 refine AW.loopS (fun s : Nat => (⟨[(0, .s (List.map encStr a)), (1, .s (List.map encStr b)), (5, (s : Int))], [], 26, []⟩ : St)) (fun s => s ≤ a.length ∧ laws_eqStringS_l1 b (a.drop s) s = some r) (fun s => a.length - s) 0 ⟨Nat.zero_le _, hH⟩ ?_ ?_
 exact Le.ct 0 0
 rintro k1 ⟨hk, hH⟩
 replace hH : laws_eqStringS_l1 b (a.drop k1) k1 = some r := hH
 try dsimp only
 refine AW.boundM (t := 0) (l := a) rfl (fun hb5 => ?_)
 rcases hd4 : a.drop k1 with _ | ⟨y2, ys3⟩
 rw [hd4, laws_eqStringS_l1] at hH
 have hlt6 := drop_ge hd4
 iterate 2 refine AW.seq ?_
 refine AW.region ?_
 iterate 2 refine AO.pu T ?_
 refine AO.val rfl rfl (len_map_ok T rfl rfl rfl) ?_
 refine AO.pu T ?_
 refine AO.nil ?_
 refine AW.condF' (b := decide ((k1 : Int) < (a.length : Int))) rfl (rngF hlt6) ?_
 refine AW.exit ?_
 refine AW.seq (AW.region ?_)
 refine AO.pu T ?_
 refine AO.nil (AW.ret ?_)
 have hR := someE hH; subst hR
 exact retQ.i [] rfl (.c (.c .v))
 rw [hd4, laws_eqStringS_l1] at hH
 have hlt6 := drop_lt hd4
 iterate 2 refine AW.seq ?_
 refine AW.region ?_
 iterate 2 refine AO.pu T ?_
 refine AO.val rfl rfl (len_map_ok T rfl rfl rfl) ?_
 refine AO.pu T ?_
 refine AO.nil ?_
 refine AW.condT' (b := decide ((k1 : Int) < (a.length : Int))) rfl (rngT hlt6) ?_
 refine AW.skip ?_
 refine AW.seq ?_
 refine AW.block ?_
 refine AW.seq ?_
 obtain ⟨x12, hx13, hH⟩ := bindE hH
 refine AW.drawn 8 1 [] mix (by kernel_rfl) rfl ?_
 iterate 2 refine AD.pure T rfl rfl rfl ?_
 refine AD.val rfl rfl (ix_map_ok T rfl rfl rfl rfl rfl (getI_drop hd4) rfl) ?_
 iterate 3 refine AD.pure T rfl rfl rfl ?_
 refine AD.val rfl rfl (ix_map_ok T rfl rfl rfl rfl rfl (hx13) rfl) ?_
 refine AD.pure T rfl rfl rfl ?_
 refine AD.nil ?_
 refine AO.pu T ?_
 refine AO.nil ?_
 refine AW.cond (b := (!decide (y2 = x12))) rfl (fun hc => ?_) (fun hc => ?_)
 replace hH := condT hc hH
 refine AW.seq (AW.region ?_)
 refine AO.pu T ?_
 refine AO.nil (AW.ret ?_)
 have hR := someE hH; subst hR
 exact retQ.i [] rfl (.c (.c .v))
 replace hH := condF hc hH
 refine AW.skip ?_
 refine AW.region ?_
 refine AO.pu T ?_
 refine AO.val rfl rfl (ar_ok rfl rfl rfl rfl (inI_succ hlt6 hb5)) ?_
 refine AO.pu T ?_
 refine AO.nil ?_
 refine ⟨k1 + 1, ⟨Nat.succ_le_of_lt hlt6, (by rw [drop_succ_of hd4]; exact hH)⟩, (by have := hlt6; dsimp only; omega), ?_⟩
 exact Le.ct 0 0

def laws_eqIntS_l1 (b : List Int) : List Int → Nat → Option Bool
  | [], k1 =>
    some true
  | y2 :: ys3, k1 =>
    (getI b (k1 : Int)).bind fun x12 =>
    cond (y2 != x12)
      (some false)
      (laws_eqIntS_l1 b ys3 (k1 + 1))
def laws_eqIntS_p (a : List Int) (b : List Int) : Option Bool :=
  cond ((a.length : Int) != (b.length : Int))
    (some false)
    (laws_eqIntS_l1 b a 0)
theorem laws_eqIntS_ok (a : List Int) (b : List Int) (r : Bool) (hH : laws_eqIntS_p a b = some r) : SpecR Tryd.prog 52 [.s (List.map encInt a), .s (List.map encInt b)] (.v (.bool r)) := by
 refine fn_ok T Tryd.func52 rfl (by decide) rfl ?_
 refine AW.seq (AW.region ?_)
 refine AO.pu T ?_
 refine AO.nil ?_
 iterate 2 refine AW.seq ?_
 refine AW.region ?_
 refine AO.pu T ?_
 refine AO.val rfl rfl (len_map_ok T rfl rfl rfl) ?_
 refine AO.pu T ?_
 refine AO.val rfl rfl (len_map_ok T rfl rfl rfl) ?_
 refine AO.pu T ?_
 refine AO.nil ?_
 refine AW.cond (b := ((a.length : Int) != (b.length : Int))) rfl (fun hc => ?_) (fun hc => ?_)
 replace hH := condT hc hH
 refine AW.seq (AW.region ?_)
 refine AO.pu T ?_
 refine AO.nil (AW.ret ?_)
 have hR := someE hH; subst hR
 exact retQ.i [] rfl (.c (.c .v))
 replace hH := condF hc hH
 refine AW.skip ?_
 iterate 2 refine AW.seq ?_
 refine AW.region ?_
 refine AO.pu T ?_
 refine AO.nil ?_
 refine AW.block ?_
 refine AW.loopS (fun s : Nat => (⟨[(0, .s (List.map encInt a)), (1, .s (List.map encInt b)), (5, (s : Int))], [], 26, []⟩ : St)) (fun s => s ≤ a.length ∧ laws_eqIntS_l1 b (a.drop s) s = some r) (fun s => a.length - s) 0 ⟨Nat.zero_le _, hH⟩ ?_ ?_
 exact Le.ct 0 0
 rintro k1 ⟨hk, hH⟩
 replace hH : laws_eqIntS_l1 b (a.drop k1) k1 = some r := hH
 try dsimp only
 refine AW.boundM (t := 0) (l := a) rfl (fun hb5 => ?_)
 rcases hd4 : a.drop k1 with _ | ⟨y2, ys3⟩
 rw [hd4, laws_eqIntS_l1] at hH
 have hlt6 := drop_ge hd4
 iterate 2 refine AW.seq ?_
 refine AW.region ?_
 iterate 2 refine AO.pu T ?_
 refine AO.val rfl rfl (len_map_ok T rfl rfl rfl) ?_
 refine AO.pu T ?_
 refine AO.nil ?_
 refine AW.condF' (b := decide ((k1 : Int) < (a.length : Int))) rfl (rngF hlt6) ?_
 refine AW.exit ?_
 refine AW.seq (AW.region ?_)
 refine AO.pu T ?_
 refine AO.nil (AW.ret ?_)
 have hR := someE hH; subst hR
 exact retQ.i [] rfl (.c (.c .v))
 rw [hd4, laws_eqIntS_l1] at hH
 have hlt6 := drop_lt hd4
 iterate 2 refine AW.seq ?_
 refine AW.region ?_
 iterate 2 refine AO.pu T ?_
 refine AO.val rfl rfl (len_map_ok T rfl rfl rfl) ?_
 refine AO.pu T ?_
 refine AO.nil ?_
 refine AW.condT' (b := decide ((k1 : Int) < (a.length : Int))) rfl (rngT hlt6) ?_
 refine AW.skip ?_
 refine AW.seq ?_
 refine AW.block ?_
 refine AW.seq ?_
 obtain ⟨x12, hx13, hH⟩ := bindE hH
 refine AW.drawn 8 1 [] mix (by kernel_rfl) rfl ?_
 iterate 2 refine AD.pure T rfl rfl rfl ?_
 refine AD.val rfl rfl (ix_map_ok T rfl rfl rfl rfl rfl (getI_drop hd4) rfl) ?_
 iterate 3 refine AD.pure T rfl rfl rfl ?_
 refine AD.val rfl rfl (ix_map_ok T rfl rfl rfl rfl rfl (hx13) rfl) ?_
 refine AD.pure T rfl rfl rfl ?_
 refine AD.nil ?_
 refine AO.pu T ?_
 refine AO.nil ?_
 refine AW.cond (b := (y2 != x12)) rfl (fun hc => ?_) (fun hc => ?_)
 replace hH := condT hc hH
 refine AW.seq (AW.region ?_)
 refine AO.pu T ?_
 refine AO.nil (AW.ret ?_)
 have hR := someE hH; subst hR
 exact retQ.i [] rfl (.c (.c .v))
 replace hH := condF hc hH
 refine AW.skip ?_
 refine AW.region ?_
 refine AO.pu T ?_
 refine AO.val rfl rfl (ar_ok rfl rfl rfl rfl (inI_succ hlt6 hb5)) ?_
 refine AO.pu T ?_
 refine AO.nil ?_
 refine ⟨k1 + 1, ⟨Nat.succ_le_of_lt hlt6, (by rw [drop_succ_of hd4]; exact hH)⟩, (by have := hlt6; dsimp only; omega), ?_⟩
 exact Le.ct 0 0

def laws_eqItem_p (a : Item) (b : Item) : Option Bool :=
  (laws_eqStringS_p a.names b.names).bind fun x1 =>
  cond (!x1)
    (some false)
    ((laws_eqIntS_p a.marks b.marks).bind fun x3 =>
    cond (!x3)
      (some false)
      (cond (!(a.late == b.late))
        (some false)
        (some true)))
theorem laws_eqItem_ok (a : Item) (b : Item) (r : Bool) (hH : laws_eqItem_p a b = some r) : SpecR Tryd.prog 27 [.g (encItem a), .g (encItem b)] (.v (.bool r)) := by
 refine fn_ok T Tryd.func27 rfl (by decide) rfl ?_
 refine AW.seq (AW.region ?_)
 refine AO.step rfl (box_ok T rfl 1 rfl rfl rfl rfl) ?_
 refine AO.step rfl (box_ok T rfl 2 rfl rfl rfl rfl) ?_
 refine AO.pu T ?_
 refine AO.nil ?_
 iterate 2 refine AW.seq ?_
 obtain ⟨x1, hx2, hH⟩ := bindE hH
 refine AW.region ?_
 iterate 4 refine AO.pu T ?_
 refine AO.val rfl rfl (callV_ok rfl rfl rfl rfl (laws_eqStringS_ok _ _ _ (hx2)) rfl) ?_
 refine AO.pu T ?_
 refine AO.nil ?_
 refine AW.cond (b := (!x1)) rfl (fun hc => ?_) (fun hc => ?_)
 replace hH := condT hc hH
 refine AW.seq (AW.region ?_)
 refine AO.pu T ?_
 refine AO.nil (AW.ret ?_)
 have hR := someE hH; subst hR
 exact retQ.i [] rfl (.c (.c .v))
 replace hH := condF hc hH
 refine AW.skip ?_
 iterate 2 refine AW.seq ?_
 obtain ⟨x3, hx4, hH⟩ := bindE hH
 refine AW.region ?_
 iterate 4 refine AO.pu T ?_
 refine AO.val rfl rfl (callV_ok rfl rfl rfl rfl (laws_eqIntS_ok _ _ _ (hx4)) rfl) ?_
 refine AO.pu T ?_
 refine AO.nil ?_
 refine AW.cond (b := (!x3)) rfl (fun hc => ?_) (fun hc => ?_)
 replace hH := condT hc hH
 refine AW.seq (AW.region ?_)
 refine AO.pu T ?_
 refine AO.nil (AW.ret ?_)
 have hR := someE hH; subst hR
 exact retQ.i [] rfl (.c (.c .v))
 replace hH := condF hc hH
 refine AW.skip ?_
 iterate 2 refine AW.seq ?_
 refine AW.region ?_
 iterate 5 refine AO.pu T ?_
 refine AO.nil ?_
 refine AW.cond (b := (!(a.late == b.late))) rfl (fun hc => ?_) (fun hc => ?_)
 replace hH := condT hc hH
 refine AW.seq (AW.region ?_)
 refine AO.pu T ?_
 refine AO.nil (AW.ret ?_)
 have hR := someE hH; subst hR
 exact retQ.i [] rfl (.c (.c .v))
 replace hH := condF hc hH
 refine AW.skip ?_
 refine AW.seq (AW.region ?_)
 refine AO.pu T ?_
 refine AO.nil (AW.ret ?_)
 have hR := someE hH; subst hR
 exact retQ.i [] rfl (.c (.c .v))

def laws_eqItemS_l1 (b : List Item) : List Item → Nat → Option Bool
  | [], k1 =>
    some true
  | y2 :: ys3, k1 =>
    (getI b (k1 : Int)).bind fun x16 =>
    (laws_eqItem_p y2 x16).bind fun x18 =>
    cond (!x18)
      (some false)
      (laws_eqItemS_l1 b ys3 (k1 + 1))
def laws_eqItemS_p (a : List Item) (b : List Item) : Option Bool :=
  cond ((a.length : Int) != (b.length : Int))
    (some false)
    (laws_eqItemS_l1 b a 0)
theorem laws_eqItemS_ok (a : List Item) (b : List Item) (r : Bool) (hH : laws_eqItemS_p a b = some r) : SpecR Tryd.prog 11 [.s (List.map encItem a), .s (List.map encItem b)] (.v (.bool r)) := by
 refine fn_ok T Tryd.func11 rfl (by decide) rfl ?_
 refine AW.seq (AW.region ?_)
 refine AO.pu T ?_
 refine AO.nil ?_
 iterate 2 refine AW.seq ?_
 refine AW.region ?_
 refine AO.pu T ?_
 refine AO.val rfl rfl (len_map_ok T rfl rfl rfl) ?_
 refine AO.pu T ?_
 refine AO.val rfl rfl (len_map_ok T rfl rfl rfl) ?_
 refine AO.pu T ?_
 refine AO.nil ?_
 refine AW.cond (b := ((a.length : Int) != (b.length : Int))) rfl (fun hc => ?_) (fun hc => ?_)
 replace hH := condT hc hH
 refine AW.seq (AW.region ?_)
 refine AO.pu T ?_
 refine AO.nil (AW.ret ?_)
 have hR := someE hH; subst hR
 exact retQ.i [] rfl (.c (.c .v))
 replace hH := condF hc hH
 refine AW.skip ?_
 iterate 2 refine AW.seq ?_
 refine AW.region ?_
 refine AO.pu T ?_
 refine AO.nil ?_
 refine AW.block ?_
 refine AW.loopS (fun s : Nat => (⟨[(0, .s (List.map encItem a)), (1, .s (List.map encItem b)), (5, (s : Int))], [], 27, []⟩ : St)) (fun s => s ≤ a.length ∧ laws_eqItemS_l1 b (a.drop s) s = some r) (fun s => a.length - s) 0 ⟨Nat.zero_le _, hH⟩ ?_ ?_
 exact Le.ct 0 0
 rintro k1 ⟨hk, hH⟩
 replace hH : laws_eqItemS_l1 b (a.drop k1) k1 = some r := hH
 try dsimp only
 refine AW.boundM (t := 0) (l := a) rfl (fun hb5 => ?_)
 rcases hd4 : a.drop k1 with _ | ⟨y2, ys3⟩
 rw [hd4, laws_eqItemS_l1] at hH
 have hlt6 := drop_ge hd4
 iterate 2 refine AW.seq ?_
 refine AW.region ?_
 iterate 2 refine AO.pu T ?_
 refine AO.val rfl rfl (len_map_ok T rfl rfl rfl) ?_
 refine AO.pu T ?_
 refine AO.nil ?_
 refine AW.condF' (b := decide ((k1 : Int) < (a.length : Int))) rfl (rngF hlt6) ?_
 refine AW.exit ?_
 refine AW.seq (AW.region ?_)
 refine AO.pu T ?_
 refine AO.nil (AW.ret ?_)
 have hR := someE hH; subst hR
 exact retQ.i [] rfl (.c (.c .v))
 rw [hd4, laws_eqItemS_l1] at hH
 have hlt6 := drop_lt hd4
 iterate 2 refine AW.seq ?_
 refine AW.region ?_
 iterate 2 refine AO.pu T ?_
 refine AO.val rfl rfl (len_map_ok T rfl rfl rfl) ?_
 refine AO.pu T ?_
 refine AO.nil ?_
 refine AW.condT' (b := decide ((k1 : Int) < (a.length : Int))) rfl (rngT hlt6) ?_
 refine AW.skip ?_
 refine AW.seq ?_
 refine AW.block ?_
 refine AW.seq ?_
 obtain ⟨x16, hx17, hH⟩ := bindE hH
 obtain ⟨x18, hx19, hH⟩ := bindE hH
 refine AW.drawn 8 1 [] mix (by kernel_rfl) rfl ?_
 iterate 2 refine AD.pure T rfl rfl rfl ?_
 refine AD.val rfl rfl (ix_map_ok T rfl rfl rfl rfl rfl (getI_drop hd4) rfl) ?_
 refine AD.pure T (d := .g [.s (List.map encStr y2.names), .s (List.map encInt y2.marks), .v (.bool y2.late)]) rfl rfl rfl ?_
 iterate 2 refine AD.pure T rfl rfl rfl ?_
 refine AD.val rfl rfl (ix_map_ok T rfl rfl rfl rfl rfl (hx17) rfl) ?_
 refine AD.pure T (d := .g [.s (List.map encStr x16.names), .s (List.map encInt x16.marks), .v (.bool x16.late)]) rfl rfl rfl ?_
 refine AD.nil ?_
 refine AO.val rfl rfl (callV_ok rfl rfl rfl rfl (laws_eqItem_ok _ _ _ (hx19)) rfl) ?_
 refine AO.pu T ?_
 refine AO.nil ?_
 refine AW.cond (b := (!x18)) rfl (fun hc => ?_) (fun hc => ?_)
 replace hH := condT hc hH
 refine AW.seq (AW.region ?_)
 refine AO.pu T ?_
 refine AO.nil (AW.ret ?_)
 have hR := someE hH; subst hR
 exact retQ.i [] rfl (.c (.c .v))
 replace hH := condF hc hH
 refine AW.skip ?_
 refine AW.region ?_
 refine AO.pu T ?_
 refine AO.val rfl rfl (ar_ok rfl rfl rfl rfl (inI_succ hlt6 hb5)) ?_
 refine AO.pu T ?_
 refine AO.nil ?_
 refine ⟨k1 + 1, ⟨Nat.succ_le_of_lt hlt6, (by rw [drop_succ_of hd4]; exact hH)⟩, (by have := hlt6; dsimp only; omega), ?_⟩
 exact Le.ct 0 0

def laws_eqChange_p (a : Change) (b : Change) : Option Bool :=
  cond (a.tick != b.tick)
    (some false)
    (cond (a.caller != b.caller)
      (some false)
      (cond (a.item != b.item)
        (some false)
        (cond (a.name != b.name)
          (some false)
          (cond (a.mark != b.mark)
            (some false)
            (cond (!(a.review == b.review))
              (some false)
              (some true))))))
theorem laws_eqChange_ok (a : Change) (b : Change) (r : Bool) (hH : laws_eqChange_p a b = some r) : SpecR Tryd.prog 28 [.g (encChange a), .g (encChange b)] (.v (.bool r)) := by
 refine fn_ok T Tryd.func28 rfl (by decide) rfl ?_
 refine AW.seq (AW.region ?_)
 refine AO.step rfl (box_ok T rfl 1 rfl rfl rfl rfl) ?_
 refine AO.step rfl (box_ok T rfl 2 rfl rfl rfl rfl) ?_
 refine AO.pu T ?_
 refine AO.nil ?_
 iterate 2 refine AW.seq ?_
 refine AW.region ?_
 iterate 5 refine AO.pu T ?_
 refine AO.nil ?_
 refine AW.cond (b := (a.tick != b.tick)) rfl (fun hc => ?_) (fun hc => ?_)
 replace hH := condT hc hH
 refine AW.seq (AW.region ?_)
 refine AO.pu T ?_
 refine AO.nil (AW.ret ?_)
 have hR := someE hH; subst hR
 exact retQ.i [] rfl (.c (.c .v))
 replace hH := condF hc hH
 refine AW.skip ?_
 iterate 2 refine AW.seq ?_
 refine AW.region ?_
 iterate 5 refine AO.pu T ?_
 refine AO.nil ?_
 refine AW.cond (b := (a.caller != b.caller)) rfl (fun hc => ?_) (fun hc => ?_)
 replace hH := condT hc hH
 refine AW.seq (AW.region ?_)
 refine AO.pu T ?_
 refine AO.nil (AW.ret ?_)
 have hR := someE hH; subst hR
 exact retQ.i [] rfl (.c (.c .v))
 replace hH := condF hc hH
 refine AW.skip ?_
 iterate 2 refine AW.seq ?_
 refine AW.region ?_
 iterate 5 refine AO.pu T ?_
 refine AO.nil ?_
 refine AW.cond (b := (a.item != b.item)) rfl (fun hc => ?_) (fun hc => ?_)
 replace hH := condT hc hH
 refine AW.seq (AW.region ?_)
 refine AO.pu T ?_
 refine AO.nil (AW.ret ?_)
 have hR := someE hH; subst hR
 exact retQ.i [] rfl (.c (.c .v))
 replace hH := condF hc hH
 refine AW.skip ?_
 iterate 2 refine AW.seq ?_
 refine AW.region ?_
 iterate 5 refine AO.pu T ?_
 refine AO.nil ?_
 refine AW.cond (b := (a.name != b.name)) rfl (fun hc => ?_) (fun hc => ?_)
 replace hH := condT hc hH
 refine AW.seq (AW.region ?_)
 refine AO.pu T ?_
 refine AO.nil ?_
 refine AW.le (Le.ct 0 0 (σ' := (⟨[(4, .v (.bool false))], [], 35, []⟩ : St))) ?_
 refine AW.ret ?_
 have hR := someE hH; subst hR
 exact retQ.i [] rfl (.c (.c .v))
 replace hH := condF hc hH
 refine AW.skip ?_
 iterate 2 refine AW.seq ?_
 refine AW.region ?_
 iterate 5 refine AO.pu T ?_
 refine AO.nil ?_
 refine AW.le (Le.ct 0 0 (σ' := (⟨[(2, .p 1 0), (3, .p 2 0), (29, .v (.bool (a.mark != b.mark)))], [(1, .box [a.tick, a.caller, a.item, a.name, a.mark, .v (.bool a.review)]), (2, .box [b.tick, b.caller, b.item, b.name, b.mark, .v (.bool b.review)])], 35, []⟩ : St))) ?_
 refine AW.cond (b := (a.mark != b.mark)) rfl (fun hc => ?_) (fun hc => ?_)
 replace hH := condT hc hH
 refine AW.seq (AW.region ?_)
 refine AO.pu T ?_
 refine AO.nil (AW.ret ?_)
 have hR := someE hH; subst hR
 exact retQ.i [] rfl (.c (.c .v))
 replace hH := condF hc hH
 refine AW.skip ?_
 iterate 2 refine AW.seq ?_
 refine AW.region ?_
 iterate 5 refine AO.pu T ?_
 refine AO.nil ?_
 refine AW.cond (b := (!(a.review == b.review))) rfl (fun hc => ?_) (fun hc => ?_)
 replace hH := condT hc hH
 refine AW.seq (AW.region ?_)
 refine AO.pu T ?_
 refine AO.nil (AW.ret ?_)
 have hR := someE hH; subst hR
 exact retQ.i [] rfl (.c (.c .v))
 replace hH := condF hc hH
 refine AW.skip ?_
 refine AW.seq (AW.region ?_)
 refine AO.pu T ?_
 refine AO.nil (AW.ret ?_)
 have hR := someE hH; subst hR
 exact retQ.i [] rfl (.c (.c .v))

def laws_eqChangeS_l1 (b : List Change) : List Change → Nat → Option Bool
  | [], k1 =>
    some true
  | y2 :: ys3, k1 =>
    (getI b (k1 : Int)).bind fun x16 =>
    (laws_eqChange_p y2 x16).bind fun x18 =>
    cond (!x18)
      (some false)
      (laws_eqChangeS_l1 b ys3 (k1 + 1))
def laws_eqChangeS_p (a : List Change) (b : List Change) : Option Bool :=
  cond ((a.length : Int) != (b.length : Int))
    (some false)
    (laws_eqChangeS_l1 b a 0)
theorem laws_eqChangeS_ok (a : List Change) (b : List Change) (r : Bool) (hH : laws_eqChangeS_p a b = some r) : SpecR Tryd.prog 12 [.s (List.map encChange a), .s (List.map encChange b)] (.v (.bool r)) := by
 refine fn_ok T Tryd.func12 rfl (by decide) rfl ?_
 refine AW.seq (AW.region ?_)
 refine AO.pu T ?_
 refine AO.nil ?_
 iterate 2 refine AW.seq ?_
 refine AW.region ?_
 refine AO.pu T ?_
 refine AO.val rfl rfl (len_map_ok T rfl rfl rfl) ?_
 refine AO.pu T ?_
 refine AO.val rfl rfl (len_map_ok T rfl rfl rfl) ?_
 refine AO.pu T ?_
 refine AO.nil ?_
 refine AW.cond (b := ((a.length : Int) != (b.length : Int))) rfl (fun hc => ?_) (fun hc => ?_)
 replace hH := condT hc hH
 refine AW.seq (AW.region ?_)
 refine AO.pu T ?_
 refine AO.nil (AW.ret ?_)
 have hR := someE hH; subst hR
 exact retQ.i [] rfl (.c (.c .v))
 replace hH := condF hc hH
 refine AW.skip ?_
 iterate 2 refine AW.seq ?_
 refine AW.region ?_
 refine AO.pu T ?_
 refine AO.nil ?_
 refine AW.block ?_
 refine AW.loopS (fun s : Nat => (⟨[(0, .s (List.map encChange a)), (1, .s (List.map encChange b)), (5, (s : Int))], [], 27, []⟩ : St)) (fun s => s ≤ a.length ∧ laws_eqChangeS_l1 b (a.drop s) s = some r) (fun s => a.length - s) 0 ⟨Nat.zero_le _, hH⟩ ?_ ?_
 exact Le.ct 0 0
 rintro k1 ⟨hk, hH⟩
 replace hH : laws_eqChangeS_l1 b (a.drop k1) k1 = some r := hH
 try dsimp only
 refine AW.boundM (t := 0) (l := a) rfl (fun hb5 => ?_)
 rcases hd4 : a.drop k1 with _ | ⟨y2, ys3⟩
 rw [hd4, laws_eqChangeS_l1] at hH
 have hlt6 := drop_ge hd4
 iterate 2 refine AW.seq ?_
 refine AW.region ?_
 iterate 2 refine AO.pu T ?_
 refine AO.val rfl rfl (len_map_ok T rfl rfl rfl) ?_
 refine AO.pu T ?_
 refine AO.nil ?_
 refine AW.condF' (b := decide ((k1 : Int) < (a.length : Int))) rfl (rngF hlt6) ?_
 refine AW.exit ?_
 refine AW.seq (AW.region ?_)
 refine AO.pu T ?_
 refine AO.nil (AW.ret ?_)
 have hR := someE hH; subst hR
 exact retQ.i [] rfl (.c (.c .v))
 rw [hd4, laws_eqChangeS_l1] at hH
 have hlt6 := drop_lt hd4
 iterate 2 refine AW.seq ?_
 refine AW.region ?_
 iterate 2 refine AO.pu T ?_
 refine AO.val rfl rfl (len_map_ok T rfl rfl rfl) ?_
 refine AO.pu T ?_
 refine AO.nil ?_
 refine AW.condT' (b := decide ((k1 : Int) < (a.length : Int))) rfl (rngT hlt6) ?_
 refine AW.skip ?_
 refine AW.seq ?_
 refine AW.block ?_
 refine AW.seq ?_
 obtain ⟨x16, hx17, hH⟩ := bindE hH
 obtain ⟨x18, hx19, hH⟩ := bindE hH
 refine AW.drawn 8 1 [] mix (by kernel_rfl) rfl ?_
 iterate 2 refine AD.pure T rfl rfl rfl ?_
 refine AD.val rfl rfl (ix_map_ok T rfl rfl rfl rfl rfl (getI_drop hd4) rfl) ?_
 refine AD.pure T (d := .g [y2.tick, y2.caller, y2.item, y2.name, y2.mark, .v (.bool y2.review)]) rfl rfl rfl ?_
 iterate 2 refine AD.pure T rfl rfl rfl ?_
 refine AD.val rfl rfl (ix_map_ok T rfl rfl rfl rfl rfl (hx17) rfl) ?_
 refine AD.pure T (d := .g [x16.tick, x16.caller, x16.item, x16.name, x16.mark, .v (.bool x16.review)]) rfl rfl rfl ?_
 refine AD.nil ?_
 refine AO.val rfl rfl (callV_ok rfl rfl rfl rfl (laws_eqChange_ok _ _ _ (hx19)) rfl) ?_
 refine AO.pu T ?_
 refine AO.nil ?_
 refine AW.cond (b := (!x18)) rfl (fun hc => ?_) (fun hc => ?_)
 replace hH := condT hc hH
 refine AW.seq (AW.region ?_)
 refine AO.pu T ?_
 refine AO.nil (AW.ret ?_)
 have hR := someE hH; subst hR
 exact retQ.i [] rfl (.c (.c .v))
 replace hH := condF hc hH
 refine AW.skip ?_
 refine AW.region ?_
 refine AO.pu T ?_
 refine AO.val rfl rfl (ar_ok rfl rfl rfl rfl (inI_succ hlt6 hb5)) ?_
 refine AO.pu T ?_
 refine AO.nil ?_
 refine ⟨k1 + 1, ⟨Nat.succ_le_of_lt hlt6, (by rw [drop_succ_of hd4]; exact hH)⟩, (by have := hlt6; dsimp only; omega), ?_⟩
 exact Le.ct 0 0

end Go.Proofs.YtjbkbiofklgblaaDoor

/- The walk, part 1: what each function reached by the law FnHistories computes. No condition. -/
import Derived.Test.YtjbkbiofklgblaaGreatDoorAm3
import Derived.Test.YtjbkbiofklgblaaGreatDoorShelf
import Derived.Test.YtjbkbiofklgblaaGreatDoorProg
set_option maxRecDepth 4000
set_option maxHeartbeats 1000000
set_option linter.unusedVariables false
set_option linter.unusedSimpArgs false
set_option linter.unusedSectionVars false

namespace Go.Proofs.YtjbkbiofklgblaaGreatDoor
open Go.AM
def teL : List (Option TI) := [
  none,
  none,
  some ⟨.int .i64, 1, 8, some (.int .i64 0)⟩,
  some ⟨.int .i64, 1, 8, some (.int .i64 0)⟩,
  some ⟨.bool, 1, 1, some (.bool false)⟩,
  some ⟨.int .u8, 1, 1, some (.int .u8 0)⟩,
  some ⟨.int .u8, 1, 1, some (.int .u8 0)⟩,
  some ⟨.struct [(0, 2), (1, 3), (2, 4), (3, 6)], 4, 24, some (.agg #[.int .i64 0, .int .i64 0, .bool false, .int .u8 0])⟩,
  some ⟨.struct [(0, 2), (1, 3), (2, 4), (3, 6)], 4, 24, some (.agg #[.int .i64 0, .int .i64 0, .bool false, .int .u8 0])⟩,
  some ⟨.str, 1, 16, some (.string ⟨#[]⟩)⟩,
  some ⟨.str, 1, 16, some (.string ⟨#[]⟩)⟩,
  some ⟨.str, 1, 16, some (.string ⟨#[]⟩)⟩,
  some ⟨.int .u64, 1, 8, some (.int .u64 0)⟩,
  some ⟨.struct [(0, 9), (1, 12)], 2, 24, some (.agg #[.string ⟨#[]⟩, .int .u64 0])⟩,
  some ⟨.struct [(0, 9), (1, 12)], 2, 24, some (.agg #[.string ⟨#[]⟩, .int .u64 0])⟩,
  some ⟨.ptr 156, 1, 8, some (.pointer none)⟩,
  some ⟨.ptr 159, 1, 8, some (.pointer none)⟩,
  some ⟨.ptr 166, 1, 8, some (.pointer none)⟩,
  some ⟨.struct [(0, 17)], 1, 8, some (.agg #[.pointer none])⟩,
  some ⟨.struct [(0, 17)], 1, 8, some (.agg #[.pointer none])⟩,
  none,
  some ⟨.int .i32, 1, 4, some (.int .i32 0)⟩,
  some ⟨.slice 5, 1, 24, some (.slice none 0 0)⟩,
  some ⟨.slice 47, 1, 24, some (.slice none 0 0)⟩,
  some ⟨.slice 43, 1, 24, some (.slice none 0 0)⟩,
  none,
  none,
  none,
  none,
  none,
  none,
  none,
  none,
  none,
  none,
  none,
  none,
  none,
  none,
  none,
  none,
  none,
  some ⟨.struct [(0, 3), (1, 3), (2, 3), (3, 3), (4, 3), (5, 4)], 6, 48, some (.agg #[.int .i64 0, .int .i64 0, .int .i64 0, .int .i64 0, .int .i64 0, .bool false])⟩,
  some ⟨.struct [(0, 3), (1, 3), (2, 3), (3, 3), (4, 3), (5, 4)], 6, 48, some (.agg #[.int .i64 0, .int .i64 0, .int .i64 0, .int .i64 0, .int .i64 0, .bool false])⟩,
  some ⟨.slice 9, 1, 24, some (.slice none 0 0)⟩,
  some ⟨.slice 3, 1, 24, some (.slice none 0 0)⟩,
  some ⟨.struct [(0, 44), (1, 45), (2, 4)], 3, 56, some (.agg #[.slice none 0 0, .slice none 0 0, .bool false])⟩,
  some ⟨.struct [(0, 44), (1, 45), (2, 4)], 3, 56, some (.agg #[.slice none 0 0, .slice none 0 0, .bool false])⟩,
  none,
  none,
  none,
  some ⟨.ptr 53, 1, 8, some (.pointer none)⟩,
  some ⟨.struct [(0, 51), (1, 22)], 2, 32, some (.agg #[.pointer none, .slice none 0 0])⟩,
  some ⟨.struct [(0, 51), (1, 22)], 2, 32, some (.agg #[.pointer none, .slice none 0 0])⟩,
  none,
  none,
  none,
  none,
  none,
  some ⟨.array 4 9, 4, 64, some (.agg #[.string ⟨#[]⟩, .string ⟨#[]⟩, .string ⟨#[]⟩, .string ⟨#[]⟩])⟩,
  none,
  none,
  none,
  none,
  some ⟨.ptr 67, 1, 8, some (.pointer none)⟩,
  some ⟨.int .u64, 1, 8, some (.int .u64 0)⟩,
  some ⟨.struct [(0, 22), (1, 3), (2, 65)], 3, 40, some (.agg #[.slice none 0 0, .int .i64 0, .int .u64 0])⟩,
  some ⟨.struct [(0, 22), (1, 3), (2, 65)], 3, 40, some (.agg #[.slice none 0 0, .int .i64 0, .int .u64 0])⟩,
  none,
  none,
  some ⟨.ptr 76, 1, 8, some (.pointer none)⟩,
  none,
  none,
  none,
  some ⟨.other, 1, 8, some (.map none)⟩,
  some ⟨.struct [(0, 23), (1, 74)], 2, 32, some (.agg #[.slice none 0 0, .map none])⟩,
  some ⟨.struct [(0, 23), (1, 74)], 2, 32, some (.agg #[.slice none 0 0, .map none])⟩,
  some ⟨.ptr 82, 1, 8, some (.pointer none)⟩,
  none,
  none,
  some ⟨.slice 121, 1, 24, some (.slice none 0 0)⟩,
  some ⟨.struct [(0, 23), (1, 80)], 2, 48, some (.agg #[.slice none 0 0, .slice none 0 0])⟩,
  some ⟨.struct [(0, 23), (1, 80)], 2, 48, some (.agg #[.slice none 0 0, .slice none 0 0])⟩,
  none,
  none,
  none,
  none,
  none,
  none,
  none,
  none,
  none,
  none,
  none,
  none,
  none,
  none,
  none,
  none,
  some ⟨.ptr 5, 1, 8, some (.pointer none)⟩,
  none,
  none,
  none,
  none,
  some ⟨.ptr 43, 1, 8, some (.pointer none)⟩,
  none,
  none,
  none,
  none,
  none,
  none,
  none,
  none,
  none,
  none,
  none,
  none,
  none,
  none,
  none,
  some ⟨.array 2 3, 2, 16, some (.agg #[.int .i64 0, .int .i64 0])⟩,
  some ⟨.slice 4, 1, 24, some (.slice none 0 0)⟩,
  none,
  none,
  none,
  none,
  none,
  none,
  none,
  some ⟨.int .u64, 1, 8, some (.int .u64 0)⟩,
  none,
  none,
  none,
  none,
  none,
  some ⟨.array 24 5, 24, 24, some (.agg #[.int .u8 0, .int .u8 0, .int .u8 0, .int .u8 0, .int .u8 0, .int .u8 0, .int .u8 0, .int .u8 0, .int .u8 0, .int .u8 0, .int .u8 0, .int .u8 0, .int .u8 0, .int .u8 0, .int .u8 0, .int .u8 0, .int .u8 0, .int .u8 0, .int .u8 0, .int .u8 0, .int .u8 0, .int .u8 0, .int .u8 0, .int .u8 0])⟩,
  none,
  none,
  none,
  none,
  none,
  none,
  some ⟨.array 20 65, 20, 160, some (.agg #[.int .u64 0, .int .u64 0, .int .u64 0, .int .u64 0, .int .u64 0, .int .u64 0, .int .u64 0, .int .u64 0, .int .u64 0, .int .u64 0, .int .u64 0, .int .u64 0, .int .u64 0, .int .u64 0, .int .u64 0, .int .u64 0, .int .u64 0, .int .u64 0, .int .u64 0, .int .u64 0])⟩,
  some ⟨.int .u32, 1, 4, some (.int .u32 0)⟩,
  none,
  none,
  none,
  some ⟨.struct [(0, 5), (1, 5)], 2, 2, some (.agg #[.int .u8 0, .int .u8 0])⟩,
  some ⟨.struct [(0, 5), (1, 5)], 2, 2, some (.agg #[.int .u8 0, .int .u8 0])⟩,
  some ⟨.array 16 148, 32, 32, some (.agg #[.int .u8 0, .int .u8 0, .int .u8 0, .int .u8 0, .int .u8 0, .int .u8 0, .int .u8 0, .int .u8 0, .int .u8 0, .int .u8 0, .int .u8 0, .int .u8 0, .int .u8 0, .int .u8 0, .int .u8 0, .int .u8 0, .int .u8 0, .int .u8 0, .int .u8 0, .int .u8 0, .int .u8 0, .int .u8 0, .int .u8 0, .int .u8 0, .int .u8 0, .int .u8 0, .int .u8 0, .int .u8 0, .int .u8 0, .int .u8 0, .int .u8 0, .int .u8 0])⟩,
  none,
  none,
  none,
  some ⟨.array 32 5, 32, 32, some (.agg #[.int .u8 0, .int .u8 0, .int .u8 0, .int .u8 0, .int .u8 0, .int .u8 0, .int .u8 0, .int .u8 0, .int .u8 0, .int .u8 0, .int .u8 0, .int .u8 0, .int .u8 0, .int .u8 0, .int .u8 0, .int .u8 0, .int .u8 0, .int .u8 0, .int .u8 0, .int .u8 0, .int .u8 0, .int .u8 0, .int .u8 0, .int .u8 0, .int .u8 0, .int .u8 0, .int .u8 0, .int .u8 0, .int .u8 0, .int .u8 0, .int .u8 0, .int .u8 0])⟩,
  none,
  some ⟨.struct [(0, 17), (1, 17), (2, 17), (3, 9)], 4, 40, some (.agg #[.pointer none, .pointer none, .pointer none, .string ⟨#[]⟩])⟩,
  some ⟨.struct [(0, 17), (1, 17), (2, 17), (3, 9)], 4, 40, some (.agg #[.pointer none, .pointer none, .pointer none, .string ⟨#[]⟩])⟩,
  some ⟨.array 0 16, 0, 0, some (.agg #[])⟩,
  some ⟨.struct [(0, 157)], 0, 0, some (.agg #[])⟩,
  some ⟨.struct [(0, 157)], 0, 0, some (.agg #[])⟩,
  some ⟨.int .u8, 1, 1, some (.int .u8 0)⟩,
  some ⟨.int .u8, 1, 1, some (.int .u8 0)⟩,
  none,
  some ⟨.int .i32, 1, 4, some (.int .i32 0)⟩,
  some ⟨.int .i32, 1, 4, some (.int .i32 0)⟩,
  some ⟨.struct [(0, 12), (1, 12), (2, 143), (3, 160), (4, 5), (5, 5), (6, 161), (7, 162), (8, 99), (9, 163), (10, 164)], 11, 48, some (.agg #[.int .u64 0, .int .u64 0, .int .u32 0, .int .u8 0, .int .u8 0, .int .u8 0, .int .u8 0, .nilFunc, .pointer none, .int .i32 0, .int .i32 0])⟩,
  some ⟨.struct [(0, 12), (1, 12), (2, 143), (3, 160), (4, 5), (5, 5), (6, 161), (7, 162), (8, 99), (9, 163), (10, 164)], 11, 48, some (.agg #[.int .u64 0, .int .u64 0, .int .u32 0, .int .u8 0, .int .u8 0, .int .u8 0, .int .u8 0, .nilFunc, .pointer none, .int .i32 0, .int .i32 0])⟩]
def te : TE := teOf teL
theorem T : TEok Tryz.prog te := TEok_of (by kernel_rfl)
theorem mix : Tryz.prog.follows .mixedOrders = true := by kernel_rfl

def encInt (x : Int) : List D := [.v (.int .i64 x)]
def encBool (x : Bool) : List D := [.v (.bool x)]
def encStr (x : ByteArray) : List D := [.v (.string x)]
def encInt_u8 (x : Int) : List D := [.v (.int .u8 x)]
def encInt_u64 (x : Int) : List D := [.v (.int .u64 x)]
def encInt_i32 (x : Int) : List D := [.v (.int .i32 x)]
def encLBool (x : List Bool) : List D := [.s (x.map encBool)]
def encLBoolO (x : List Bool) : List D := [.w 1 (x.map encBool)]
theorem frzLBool (x : List Bool) : FrzL (encLBoolO x) (encLBool x) := .cons (.map fun y => .vs rfl) .nil
def encLStr (x : List ByteArray) : List D := [.s (x.map encStr)]
def encLStrO (x : List ByteArray) : List D := [.w 1 (x.map encStr)]
theorem frzLStr (x : List ByteArray) : FrzL (encLStrO x) (encLStr x) := .cons (.map fun y => .vs rfl) .nil
structure Item where
  names : List ByteArray
  marks : List Int
  late : Bool
  deriving Inhabited, DecidableEq
def encItem (x : Item) : List D := [.s (x.names.map encStr), .s (x.marks.map encInt), .v (.bool x.late)]
def encItemO (x : Item) : List D := [.w 1 (x.names.map encStr), .w 1 (x.marks.map encInt), .v (.bool x.late)]
theorem frzItem (x : Item) : FrzL (encItemO x) (encItem x) := .cons (.map fun y => .vs rfl) (.cons (.map fun y => .vs rfl) (.cons (.vs rfl) (.nil)))
structure Change where
  tick : Int
  caller : Int
  item : Int
  name : Int
  mark : Int
  review : Bool
  deriving Inhabited, DecidableEq
def encChange (x : Change) : List D := [.v (.int .i64 x.tick), .v (.int .i64 x.caller), .v (.int .i64 x.item), .v (.int .i64 x.name), .v (.int .i64 x.mark), .v (.bool x.review)]
structure L1Cur where
  code : List Int
  at' : Int
  seed : Int
  deriving Inhabited, DecidableEq
def encL1Cur (x : L1Cur) : List D := [.s (x.code.map encInt_u8), .v (.int .i64 x.at'), .v (.int .u64 x.seed)]
def encL1CurO (x : L1Cur) : List D := [.w 1 (x.code.map encInt_u8), .v (.int .i64 x.at'), .v (.int .u64 x.seed)]
theorem frzL1Cur (x : L1Cur) : FrzL (encL1CurO x) (encL1Cur x) := .cons (.map fun y => .vs rfl) (.cons (.vs rfl) (.cons (.vs rfl) (.nil)))
structure HiState where
  items : List Item
  open' : List (List Bool)
  deriving Inhabited, DecidableEq
def encHiState (x : HiState) : List D := [.s (x.items.map encItem), .s (x.open'.map encLBool)]
def encHiStateO (x : HiState) : List D := [.w 3 (x.items.map encItemO), .w 1 (x.open'.map encLBoolO)]
theorem frzHiState (x : HiState) : FrzL (encHiStateO x) (encHiState x) := .cons (.map fun y => frzItem y) (.cons (.map fun y => frzLBool y) (.nil))
structure HistoryState where
  items : List Item
  open' : MapL
  deriving Inhabited, DecidableEq
def encHistoryState (x : HistoryState) : List D := [.s (x.items.map encItem), .mi (encMe x.open')]
def encHistoryStateO (x : HistoryState) : List D := [.w 3 (x.items.map encItemO), .mw (encMe x.open')]
theorem frzHistoryState (x : HistoryState) : FrzL (encHistoryStateO x) (encHistoryState x) := .cons (.map fun y => frzItem y) (.cons (.mw) (.nil))
theorem ekTChange : ekT Tryz.prog 43 = some [.i .i64, .i .i64, .i .i64, .i .i64, .i .i64, .b] := by kernel_rfl
theorem eqVChange (x y : Change) : eqV (encChange x) (encChange y) = decide (x = y) := by
  cases x; cases y
  rw [Bool.eq_iff_iff]
  simp [encChange, eqV, eqE]
theorem mapT0 : MapT Tryz.prog 74 120 4 3 := ⟨by kernel_rfl, ⟨by kernel_rfl, by kernel_rfl, by kernel_rfl, by kernel_rfl⟩, by kernel_rfl, ⟨166, by kernel_rfl⟩⟩

def spec_l1Cur_next_p (c : L1Cur) : Option (L1Cur × Int) :=
  cond (decide (c.at' < (c.code.length : Int)))
    ((getI c.code c.at').bind fun x1 =>
    cond (decide ((w64 (c.at' + 1)) ≤ (c.code.length : Int)))
      (some ((L1Cur.mk c.code (w64 (c.at' + 1)) (IntKind.wrap .u64 ((IntKind.wrap .u64 ((IntKind.wrap .u64 (c.seed * 6364136223846793005)) + (IntKind.wrap .u64 (IntKind.wrap .i64 x1)))) + 1442695040888963407))), IntKind.wrap .i64 x1))
      (some ((L1Cur.mk c.code (w64 (c.at' + 1)) (IntKind.wrap .u64 ((IntKind.wrap .u64 ((IntKind.wrap .u64 (c.seed * 6364136223846793005)) + (IntKind.wrap .u64 (IntKind.wrap .i64 x1)))) + 1442695040888963407))), IntKind.wrap .i64 (IntKind.wrap .u64 ((BitVec.ofInt 64 ((IntKind.wrap .u64 ((IntKind.wrap .u64 ((IntKind.wrap .u64 (c.seed * 6364136223846793005)) + (IntKind.wrap .u64 (IntKind.wrap .i64 x1)))) + 1442695040888963407)).fdiv (2 ^ 40)) &&& BitVec.ofInt 64 255).toNat : Int)))))
    (cond (decide ((w64 (c.at' + 1)) ≤ (c.code.length : Int)))
      (some ((L1Cur.mk c.code (w64 (c.at' + 1)) (IntKind.wrap .u64 ((IntKind.wrap .u64 ((IntKind.wrap .u64 (c.seed * 6364136223846793005)) + (IntKind.wrap .u64 0))) + 1442695040888963407))), 0))
      (some ((L1Cur.mk c.code (w64 (c.at' + 1)) (IntKind.wrap .u64 ((IntKind.wrap .u64 ((IntKind.wrap .u64 (c.seed * 6364136223846793005)) + (IntKind.wrap .u64 0))) + 1442695040888963407))), IntKind.wrap .i64 (IntKind.wrap .u64 ((BitVec.ofInt 64 ((IntKind.wrap .u64 ((IntKind.wrap .u64 ((IntKind.wrap .u64 (c.seed * 6364136223846793005)) + (IntKind.wrap .u64 0))) + 1442695040888963407)).fdiv (2 ^ 40)) &&& BitVec.ofInt 64 255).toNat : Int)))))
theorem spec_l1Cur_next_ok (c : L1Cur) (r : (L1Cur × Int)) (hH : spec_l1Cur_next_p c = some r) : SpecM Tryz.prog 78 [.pw (encL1Cur c)] [.pw (encL1Cur r.1)] (.v (.int .i64 r.2)) := by
 refine fn_okM T Tryz.func78 rfl (by decide) rfl rfl ?_
 intro L
 show AW _ _ _ (⟨[(0, .p 1 0)], [(1, .box [.s (List.map encInt_u8 c.code), c.at', .v (.int .u64 c.seed)])], 62, [(1, L 1)]⟩ : St)
 refine AW.seq (AW.region ?_)
 refine AO.pu T ?_
 refine AO.nil (AW.seq ?_)
 refine AW.region ?_
 refine AO.pu T ?_
 refine AO.nil ?_
 iterate 2 refine AW.seq ?_
 refine AW.drawn 9 2 [] mix (by kernel_rfl) rfl ?_
 iterate 8 refine AD.pure T rfl rfl rfl ?_
 refine AD.val rfl rfl (len_map_ok T rfl rfl rfl) ?_
 refine AD.nil ?_
 refine AO.pu T ?_
 refine AO.nil ?_
 refine AW.cond (b := decide (c.at' < (c.code.length : Int))) rfl (fun hc => ?_) (fun hc => ?_)
 replace hH := condT hc hH
 obtain ⟨x1, hx2, hH⟩ := bindE hH
 refine AW.drawn 8 2 [] mix (by kernel_rfl) rfl ?_
 iterate 8 refine AD.pure T rfl rfl rfl ?_
 refine AD.nil ?_
 refine AO.val rfl rfl (ix_map_ok T rfl rfl rfl rfl rfl (hx2) rfl) ?_
 refine AO.pu T ?_
 refine AO.val rfl rfl (convw_ok T rfl rfl rfl rfl) ?_
 refine AO.pu T ?_
 refine AO.nil ?_
 refine AW.le (Le.ct 0 0 (σ' := (⟨[(0, .p 1 0), (3, (IntKind.wrap .i64 x1 : Int))], [(1, .box [.s (List.map encInt_u8 c.code), c.at', .v (.int .u64 c.seed)])], 62, [(1, L 1)]⟩ : St)) (hpin := ⟨⟨rfl, rfl⟩, trivial⟩)) ?_
 refine AW.seq (AW.region ?_)
 iterate 4 refine AO.pu T ?_
 refine AO.val rfl rfl (arw_ok rfl rfl rfl rfl) ?_
 iterate 2 refine AO.pu T ?_
 refine AO.se T [.s (List.map encInt_u8 c.code), w64 (c.at' + 1), .v (.int .u64 c.seed)] ?_
 refine AO.nil (AW.seq ?_)
 refine AW.region ?_
 iterate 5 refine AO.pu T ?_
 refine AO.val rfl rfl (arw_ok rfl rfl rfl rfl) ?_
 refine AO.pu T ?_
 refine AO.val rfl rfl (convw_ok T rfl rfl rfl rfl) ?_
 iterate 2 refine AO.val rfl rfl (arw_ok rfl rfl rfl rfl) ?_
 iterate 2 refine AO.pu T ?_
 refine AO.se T [.s (List.map encInt_u8 c.code), w64 (c.at' + 1), .v (.int .u64 (IntKind.wrap .u64 ((IntKind.wrap .u64 ((IntKind.wrap .u64 (c.seed * 6364136223846793005)) + (IntKind.wrap .u64 (IntKind.wrap .i64 x1)))) + 1442695040888963407)))] ?_
 refine AO.nil ?_
 iterate 2 refine AW.seq ?_
 refine AW.drawn 9 2 [] mix (by kernel_rfl) rfl ?_
 iterate 8 refine AD.pure T rfl rfl rfl ?_
 refine AD.val rfl rfl (len_map_ok T rfl rfl rfl) ?_
 refine AD.nil ?_
 refine AO.pu T ?_
 refine AO.nil ?_
 refine AW.le (Le.ct 0 0 (σ' := (⟨[(0, .p 1 0), (3, (IntKind.wrap .i64 x1 : Int)), (53, .v (.bool (decide ((w64 (c.at' + 1)) ≤ (c.code.length : Int)))))], [(1, .box [.s (List.map encInt_u8 c.code), w64 (c.at' + 1), .v (.int .u64 (IntKind.wrap .u64 ((IntKind.wrap .u64 ((IntKind.wrap .u64 (c.seed * 6364136223846793005)) + (IntKind.wrap .u64 (IntKind.wrap .i64 x1)))) + 1442695040888963407)))])], 62, [(1, L 1)]⟩ : St)) (hpin := ⟨⟨rfl, rfl⟩, trivial⟩)) ?_
 refine AW.cond (b := decide ((w64 (c.at' + 1)) ≤ (c.code.length : Int))) rfl (fun hc => ?_) (fun hc => ?_)
 replace hH := condT hc hH
 refine AW.seq (AW.region ?_)
 iterate 2 refine AO.pu T ?_
 refine AO.nil (AW.ret ?_)
 have hR := someE hH; subst hR
 exact ⟨trivial, rfl, _, [], [1], rfl, expLG_cons (.c (.box rfl rfl)) (expLG_nil), .c (.c .v), by decide⟩
 replace hH := condF hc hH
 refine AW.skip ?_
 refine AW.seq (AW.region ?_)
 iterate 4 refine AO.pu T ?_
 refine AO.val rfl rfl (shr_ok rfl rfl rfl rfl rfl) ?_
 refine AO.val rfl rfl (and_ok rfl rfl rfl) ?_
 refine AO.val rfl rfl (convw_ok T rfl rfl rfl rfl) ?_
 refine AO.pu T ?_
 refine AO.nil (AW.ret ?_)
 have hR := someE hH; subst hR
 exact ⟨trivial, rfl, _, [], [1], rfl, expLG_cons (.c (.box rfl rfl)) (expLG_nil), .c (.c .v), by decide⟩
 replace hH := condF hc hH
 refine AW.skip ?_
 refine AW.seq (AW.region ?_)
 iterate 4 refine AO.pu T ?_
 refine AO.val rfl rfl (arw_ok rfl rfl rfl rfl) ?_
 iterate 2 refine AO.pu T ?_
 refine AO.se T [.s (List.map encInt_u8 c.code), w64 (c.at' + 1), .v (.int .u64 c.seed)] ?_
 refine AO.nil (AW.seq ?_)
 refine AW.region ?_
 iterate 5 refine AO.pu T ?_
 refine AO.val rfl rfl (arw_ok rfl rfl rfl rfl) ?_
 refine AO.pu T ?_
 refine AO.val rfl rfl (convw_ok T rfl rfl rfl rfl) ?_
 iterate 2 refine AO.val rfl rfl (arw_ok rfl rfl rfl rfl) ?_
 iterate 2 refine AO.pu T ?_
 refine AO.se T [.s (List.map encInt_u8 c.code), w64 (c.at' + 1), .v (.int .u64 (IntKind.wrap .u64 ((IntKind.wrap .u64 ((IntKind.wrap .u64 (c.seed * 6364136223846793005)) + (IntKind.wrap .u64 0))) + 1442695040888963407)))] ?_
 refine AO.nil ?_
 refine AW.le (Le.ct 0 0 (σ' := (⟨[(0, .p 1 0), (3, (0 : Int))], [(1, .box [.s (List.map encInt_u8 c.code), w64 (c.at' + 1), .v (.int .u64 (IntKind.wrap .u64 ((IntKind.wrap .u64 ((IntKind.wrap .u64 (c.seed * 6364136223846793005)) + (IntKind.wrap .u64 0))) + 1442695040888963407)))])], 62, [(1, L 1)]⟩ : St)) (hpin := ⟨⟨rfl, rfl⟩, trivial⟩)) ?_
 iterate 2 refine AW.seq ?_
 refine AW.drawn 9 2 [] mix (by kernel_rfl) rfl ?_
 iterate 8 refine AD.pure T rfl rfl rfl ?_
 refine AD.val rfl rfl (len_map_ok T rfl rfl rfl) ?_
 refine AD.nil ?_
 refine AO.pu T ?_
 refine AO.nil ?_
 refine AW.cond (b := decide ((w64 (c.at' + 1)) ≤ (c.code.length : Int))) rfl (fun hc => ?_) (fun hc => ?_)
 replace hH := condT hc hH
 refine AW.seq (AW.region ?_)
 iterate 2 refine AO.pu T ?_
 refine AO.nil (AW.ret ?_)
 have hR := someE hH; subst hR
 exact ⟨trivial, rfl, _, [], [1], rfl, expLG_cons (.c (.box rfl rfl)) (expLG_nil), .c (.c .v), by decide⟩
 replace hH := condF hc hH
 refine AW.skip ?_
 refine AW.seq (AW.region ?_)
 iterate 4 refine AO.pu T ?_
 refine AO.val rfl rfl (shr_ok rfl rfl rfl rfl rfl) ?_
 refine AO.val rfl rfl (and_ok rfl rfl rfl) ?_
 refine AO.val rfl rfl (convw_ok T rfl rfl rfl rfl) ?_
 refine AO.pu T ?_
 refine AO.nil (AW.ret ?_)
 have hR := someE hH; subst hR
 exact ⟨trivial, rfl, _, [], [1], rfl, expLG_cons (.c (.box rfl rfl)) (expLG_nil), .c (.c .v), by decide⟩

def spec_l1Cur_pick_p (c : L1Cur) (n : Int) : Option (L1Cur × Int) :=
  cond (decide (n ≤ 1))
    (some (c, 0))
    ((spec_l1Cur_next_p c).bind fun x1 =>
    cond (decide (n > 200))
      ((spec_l1Cur_next_p (L1Cur.mk x1.1.code x1.1.at' x1.1.seed)).bind fun x3 =>
      (need (n != 0)).bind fun u5 =>
      some ((L1Cur.mk x3.1.code x3.1.at' x3.1.seed), ((w64 ((w64 (x1.2 * 256)) + x3.2)).tmod n)))
      ((need (n != 0)).bind fun u7 =>
      some ((L1Cur.mk x1.1.code x1.1.at' x1.1.seed), (x1.2.tmod n))))
theorem spec_l1Cur_pick_ok (c : L1Cur) (n : Int) (r : (L1Cur × Int)) (hH : spec_l1Cur_pick_p c n = some r) : SpecM Tryz.prog 60 [.pw (encL1Cur c), n] [.pw (encL1Cur r.1), .u] (.v (.int .i64 r.2)) := by
 refine fn_okM T Tryz.func60 rfl (by decide) rfl rfl ?_
 intro L
 show AW _ _ _ (⟨[(0, .p 1 0), (1, n)], [(1, .box [.s (List.map encInt_u8 c.code), c.at', .v (.int .u64 c.seed)])], 20, [(1, L 1)]⟩ : St)
 refine AW.seq (AW.region ?_)
 refine AO.pu T ?_
 refine AO.nil ?_
 iterate 2 refine AW.seq ?_
 refine AW.region ?_
 iterate 2 refine AO.pu T ?_
 refine AO.nil ?_
 refine AW.cond (b := decide (n ≤ 1)) rfl (fun hc => ?_) (fun hc => ?_)
 replace hH := condT hc hH
 refine AW.seq (AW.region ?_)
 refine AO.pu T ?_
 refine AO.nil (AW.ret ?_)
 have hR := someE hH; subst hR
 exact ⟨trivial, rfl, _, [], [1], rfl, expLG_cons (.c (.box rfl rfl)) (expLG_cons (.c .u) (expLG_nil)), .c (.c .v), by decide⟩
 replace hH := condF hc hH
 refine AW.skip ?_
 refine AW.seq ?_
 obtain ⟨x1, hx2, hH⟩ := bindE hH
 refine AW.region ?_
 refine AO.pu T ?_
 refine AO.step rfl (callM_ok rfl 2 rfl rfl (es := [.pw (encL1Cur c)]) (outs := [.pw (encL1Cur x1.1)]) (ids := [1]) (by exact expLG_cons (.c (.box rfl rfl)) (expLG_nil)) (by decide) (.inl (by rfl)) (by rfl) (spec_l1Cur_next_ok _ _ (hx2)) rfl (by rfl) rfl) ?_
 refine AO.pu T ?_
 refine AO.nil ?_
 iterate 2 refine AW.seq ?_
 refine AW.region ?_
 iterate 2 refine AO.pu T ?_
 refine AO.nil ?_
 refine AW.cond (b := decide (n > 200)) rfl (fun hc => ?_) (fun hc => ?_)
 replace hH := condT hc hH
 obtain ⟨x3, hx4, hH⟩ := bindE hH
 refine AW.region ?_
 refine AO.pu T ?_
 refine AO.val rfl rfl (arw_ok rfl rfl rfl rfl) ?_
 refine AO.pu T ?_
 refine AO.step rfl (callM_ok rfl 2 rfl rfl (es := [.pw (encL1Cur (L1Cur.mk x1.1.code x1.1.at' x1.1.seed))]) (outs := [.pw (encL1Cur x3.1)]) (ids := [1]) (by exact expLG_cons (.c (.box rfl rfl)) (expLG_nil)) (by decide) (.inl (by rfl)) (by rfl) (spec_l1Cur_next_ok _ _ (hx4)) rfl (by rfl) rfl) ?_
 refine AO.val rfl rfl (arw_ok rfl rfl rfl rfl) ?_
 refine AO.pu T ?_
 refine AO.nil (AW.seq ?_)
 obtain ⟨u5, hx6, hH⟩ := bindE hH
 refine AW.region ?_
 iterate 2 refine AO.pu T ?_
 refine AO.val rfl rfl (rem_ok rfl rfl rfl (neZ (needT (hx6)))) ?_
 refine AO.pu T ?_
 refine AO.nil (AW.ret ?_)
 have hR := someE hH; subst hR
 exact ⟨trivial, rfl, _, [], [1], rfl, expLG_cons (.c (.box rfl rfl)) (expLG_cons (.c .u) (expLG_nil)), .c (.c .v), by decide⟩
 replace hH := condF hc hH
 refine AW.skip ?_
 refine AW.seq ?_
 obtain ⟨u7, hx8, hH⟩ := bindE hH
 refine AW.region ?_
 iterate 2 refine AO.pu T ?_
 refine AO.val rfl rfl (rem_ok rfl rfl rfl (neZ (needT (hx8)))) ?_
 refine AO.pu T ?_
 refine AO.nil (AW.ret ?_)
 have hR := someE hH; subst hR
 exact ⟨trivial, rfl, _, [], [1], rfl, expLG_cons (.c (.box rfl rfl)) (expLG_cons (.c .u) (expLG_nil)), .c (.c .v), by decide⟩

def spec_l1Cur_one_p (c : L1Cur) (n : Int) : Option (L1Cur × Bool) :=
  (spec_l1Cur_pick_p c n).bind fun x1 =>
  some ((L1Cur.mk x1.1.code x1.1.at' x1.1.seed), (x1.2 == 0))
theorem spec_l1Cur_one_ok (c : L1Cur) (n : Int) (r : (L1Cur × Bool)) (hH : spec_l1Cur_one_p c n = some r) : SpecM Tryz.prog 38 [.pw (encL1Cur c), n] [.pw (encL1Cur r.1), .u] (.v (.bool r.2)) := by
 refine fn_okM T Tryz.func38 rfl (by decide) rfl rfl ?_
 intro L
 show AW _ _ _ (⟨[(0, .p 1 0), (1, n)], [(1, .box [.s (List.map encInt_u8 c.code), c.at', .v (.int .u64 c.seed)])], 9, [(1, L 1)]⟩ : St)
 refine AW.seq (AW.region ?_)
 refine AO.pu T ?_
 refine AO.nil (AW.seq ?_)
 obtain ⟨x1, hx2, hH⟩ := bindE hH
 refine AW.region ?_
 iterate 2 refine AO.pu T ?_
 refine AO.step rfl (callM_ok rfl 2 rfl rfl (es := [.pw (encL1Cur c), .v (.int .i64 n)]) (outs := [.pw (encL1Cur x1.1), .u]) (ids := [1]) (by exact expLG_cons (.c (.box rfl rfl)) (expLG_cons (.c .v) (expLG_nil))) (by decide) (.inl (by rfl)) (by rfl) (spec_l1Cur_pick_ok _ _ _ (hx2)) rfl (by rfl) rfl) ?_
 iterate 2 refine AO.pu T ?_
 refine AO.nil (AW.ret ?_)
 have hR := someE hH; subst hR
 exact ⟨trivial, rfl, _, [], [1], rfl, expLG_cons (.c (.box rfl rfl)) (expLG_cons (.c .u) (expLG_nil)), .c (.c .v), by decide⟩

def spec_l1Cur_of_p (c : L1Cur) (list : List ByteArray) : Option (L1Cur × ByteArray) :=
  (spec_l1Cur_pick_p c (list.length : Int)).bind fun x1 =>
  (getI list x1.2).bind fun x3 =>
  some ((L1Cur.mk x1.1.code x1.1.at' x1.1.seed), x3)
theorem spec_l1Cur_of_ok (c : L1Cur) (list : List ByteArray) (r : (L1Cur × ByteArray)) (hH : spec_l1Cur_of_p c list = some r) : SpecM Tryz.prog 95 [.pw (encL1Cur c), .s (List.map encStr list)] [.pw (encL1Cur r.1), .u] (.v (.string r.2)) := by
 refine fn_okM T Tryz.func95 rfl (by decide) rfl rfl ?_
 intro L
 show AW _ _ _ (⟨[(0, .p 1 0), (1, .s (List.map encStr list))], [(1, .box [.s (List.map encInt_u8 c.code), c.at', .v (.int .u64 c.seed)])], 12, [(1, L 1)]⟩ : St)
 refine AW.seq (AW.region ?_)
 refine AO.pu T ?_
 refine AO.nil (AW.seq ?_)
 obtain ⟨x1, hx2, hH⟩ := bindE hH
 obtain ⟨x3, hx4, hH⟩ := bindE hH
 refine AW.region ?_
 iterate 3 refine AO.pu T ?_
 refine AO.val rfl rfl (len_map_ok T rfl rfl rfl) ?_
 refine AO.step rfl (callM_ok rfl 2 rfl rfl (es := [.pw (encL1Cur c), .v (.int .i64 (list.length : Int))]) (outs := [.pw (encL1Cur x1.1), .u]) (ids := [1]) (by exact expLG_cons (.c (.box rfl rfl)) (expLG_cons (.c .v) (expLG_nil))) (by decide) (.inl (by rfl)) (by rfl) (spec_l1Cur_pick_ok _ _ _ (hx2)) rfl (by rfl) rfl) ?_
 refine AO.val rfl rfl (ix_map_ok T rfl rfl rfl rfl rfl (hx4) rfl) ?_
 iterate 2 refine AO.pu T ?_
 refine AO.nil (AW.ret ?_)
 have hR := someE hH; subst hR
 exact ⟨trivial, rfl, _, [], [1], rfl, expLG_cons (.c (.box rfl rfl)) (expLG_cons (.c .u) (expLG_nil)), .c (.c .v), by decide⟩

def spec_l1Cur_among_p (c : L1Cur) (list : List Int) : Option (L1Cur × Int) :=
  (spec_l1Cur_pick_p c (list.length : Int)).bind fun x1 =>
  (getI list x1.2).bind fun x3 =>
  some ((L1Cur.mk x1.1.code x1.1.at' x1.1.seed), x3)
theorem spec_l1Cur_among_ok (c : L1Cur) (list : List Int) (r : (L1Cur × Int)) (hH : spec_l1Cur_among_p c list = some r) : SpecM Tryz.prog 33 [.pw (encL1Cur c), .s (List.map encInt list)] [.pw (encL1Cur r.1), .u] (.v (.int .i64 r.2)) := by
 refine fn_okM T Tryz.func33 rfl (by decide) rfl rfl ?_
 intro L
 show AW _ _ _ (⟨[(0, .p 1 0), (1, .s (List.map encInt list))], [(1, .box [.s (List.map encInt_u8 c.code), c.at', .v (.int .u64 c.seed)])], 12, [(1, L 1)]⟩ : St)
 refine AW.seq (AW.region ?_)
 refine AO.pu T ?_
 refine AO.nil (AW.seq ?_)
 obtain ⟨x1, hx2, hH⟩ := bindE hH
 obtain ⟨x3, hx4, hH⟩ := bindE hH
 refine AW.region ?_
 iterate 3 refine AO.pu T ?_
 refine AO.val rfl rfl (len_map_ok T rfl rfl rfl) ?_
 refine AO.step rfl (callM_ok rfl 2 rfl rfl (es := [.pw (encL1Cur c), .v (.int .i64 (list.length : Int))]) (outs := [.pw (encL1Cur x1.1), .u]) (ids := [1]) (by exact expLG_cons (.c (.box rfl rfl)) (expLG_cons (.c .v) (expLG_nil))) (by decide) (.inl (by rfl)) (by rfl) (spec_l1Cur_pick_ok _ _ _ (hx2)) rfl (by rfl) rfl) ?_
 refine AO.val rfl rfl (ix_map_ok T rfl rfl rfl rfl rfl (hx4) rfl) ?_
 iterate 2 refine AO.pu T ?_
 refine AO.nil (AW.ret ?_)
 have hR := someE hH; subst hR
 exact ⟨trivial, rfl, _, [], [1], rfl, expLG_cons (.c (.box rfl rfl)) (expLG_cons (.c .u) (expLG_nil)), .c (.c .v), by decide⟩

def spec_l1Cur_called_l1 (names : List ByteArray) (x1 : (L1Cur × Bool)) : Nat → List Int → Int → Int → List ByteArray → List Int → Int → Option ((L1Cur × Item))
  | 0, _, _, _, _, _, _ => none
  | k7 + 1, v30, v31, v32, v33, v34, v35 =>
    cond (decide (v35 > 0))
      ((spec_l1Cur_of_p (L1Cur.mk v30 v31 v32) names).bind fun x37 =>
      (need (fitsB 16 (v33.length + ([x37.2]).length))).bind fun u39 =>
      (spec_l1Cur_among_p (L1Cur.mk x37.1.code x37.1.at' x37.1.seed) ([0, 0, 0, 1, 2, 3] : List Int)).bind fun x41 =>
      (need (fitsB 8 (v34.length + ([x41.2]).length))).bind fun u43 =>
      spec_l1Cur_called_l1 names x1 k7 x41.1.code x41.1.at' x41.1.seed (v33 ++ [x37.2]) (v34 ++ [x41.2]) (w64 (v35 - 1)))
      ((spec_l1Cur_one_p (L1Cur.mk v30 v31 v32) 12).bind fun x45 =>
      cond x45.2
        ((spec_l1Cur_of_p (L1Cur.mk x45.1.code x45.1.at' x45.1.seed) names).bind fun x47 =>
        (need (fitsB 16 (v33.length + ([x47.2]).length))).bind fun u49 =>
        (need (fitsB 8 (v34.length + (([0] : List Int)).length))).bind fun u51 =>
        some ((L1Cur.mk x47.1.code x47.1.at' x47.1.seed), (Item.mk (v33 ++ [x47.2]) (v34 ++ ([0] : List Int)) x1.2)))
        (some ((L1Cur.mk x45.1.code x45.1.at' x45.1.seed), (Item.mk v33 v34 x1.2))))
def spec_l1Cur_called_p (fuel : Nat) (c : L1Cur) (names : List ByteArray) : Option (L1Cur × Item) :=
  (spec_l1Cur_one_p c 3).bind fun x1 =>
  (spec_l1Cur_pick_p (L1Cur.mk x1.1.code x1.1.at' x1.1.seed) 6).bind fun x3 =>
  (need (3 != 0)).bind fun u5 =>
  spec_l1Cur_called_l1 names x1 fuel x3.1.code x3.1.at' x3.1.seed [] [] (w64 (1 + (w64 (x3.2.tdiv 3))))
theorem spec_l1Cur_called_ok (fuel : Nat) (c : L1Cur) (names : List ByteArray) (r : (L1Cur × Item)) (hH : spec_l1Cur_called_p fuel c names = some r) : SpecM Tryz.prog 94 [.pw (encL1Cur c), .s (List.map encStr names)] [.pw (encL1Cur r.1), .u] (.g (encItemO r.2)) := by
 refine fn_okM T Tryz.func94 rfl (by decide) rfl rfl ?_
 intro L
 show AW _ _ _ (⟨[(0, .p 1 0), (1, .s (List.map encStr names))], [(1, .box [.s (List.map encInt_u8 c.code), c.at', .v (.int .u64 c.seed)])], 50, [(1, L 1)]⟩ : St)
 refine AW.seq (AW.region ?_)
 refine AO.step rfl (alloc_ok T rfl 2 rfl rfl rfl rfl rfl) ?_
 refine AO.nil (AW.seq ?_)
 obtain ⟨x1, hx2, hH⟩ := bindE hH
 refine AW.region ?_
 refine AO.pu T ?_
 refine AO.step rfl (callM_ok rfl 3 rfl rfl (es := [.pw (encL1Cur c), .v (.int .i64 3)]) (outs := [.pw (encL1Cur x1.1), .u]) (ids := [1]) (by exact expLG_cons (.c (.box rfl rfl)) (expLG_cons (.c .v) (expLG_nil))) (by decide) (.inl (by rfl)) (by rfl) (spec_l1Cur_one_ok _ _ _ (hx2)) rfl (by rfl) rfl) ?_
 refine AO.pu T (d := .g [.w 0 [], .w 0 [], .v (.bool x1.2)]) ?_
 refine AO.step rfl (alloc_ok T rfl 3 rfl rfl rfl rfl rfl) ?_
 refine AO.se T [.w 0 [], .w 0 [], .v (.bool x1.2)] ?_
 refine AO.nil ?_
 iterate 2 refine AW.seq ?_
 obtain ⟨x3, hx4, hH⟩ := bindE hH
 obtain ⟨u5, hx6, hH⟩ := bindE hH
 refine AW.region ?_
 refine AO.pu T ?_
 refine AO.step rfl (callM_ok rfl 4 rfl rfl (es := [.pw (encL1Cur (L1Cur.mk x1.1.code x1.1.at' x1.1.seed)), .v (.int .i64 6)]) (outs := [.pw (encL1Cur x3.1), .u]) (ids := [1]) (by exact expLG_cons (.c (.box rfl rfl)) (expLG_cons (.c .v) (expLG_nil))) (by decide) (.inl (by rfl)) (by rfl) (spec_l1Cur_pick_ok _ _ _ (hx4)) rfl (by rfl) rfl) ?_
 refine AO.val rfl rfl (quow_ok rfl rfl rfl (neZ (needT (hx6)))) ?_
 refine AO.val rfl rfl (arw_ok rfl rfl rfl rfl) ?_
 refine AO.pu T ?_
 refine AO.nil ?_
 refine AW.block ?_
 refine AW.loopS (fun s : Nat × (List Int) × Int × Int × (List ByteArray) × (List Int) × Int => (⟨[(0, .p 1 0), (1, .s (List.map encStr names)), (4, .p 2 0), (5, .p 3 0), (6, s.2.2.2.2.2.2)], [(1, .box [.s (List.map encInt_u8 s.2.1), s.2.2.1, .v (.int .u64 s.2.2.2.1)]), (2, .box [.w 0 [], .w 0 [], .v (.bool false)]), (3, .box [.R 9, .R 11, .v (.bool x1.2)]), (9, .row 1 (List.map encStr s.2.2.2.2.1)), (11, .row 1 (List.map encInt s.2.2.2.2.2.1))], 50, [(1, L 1)]⟩ : St)) (fun s => spec_l1Cur_called_l1 names x1 s.1 s.2.1 s.2.2.1 s.2.2.2.1 s.2.2.2.2.1 s.2.2.2.2.2.1 s.2.2.2.2.2.2 = some r) (fun s => s.1) (fuel, x3.1.code, x3.1.at', x3.1.seed, [], [], w64 (1 + (w64 (x3.2.tdiv 3)))) hH ?_ ?_
 refine Le.trans (Le.voidBox 3 0 9 1 rfl rfl rfl rfl) ?_
 refine Le.trans (Le.voidBox 3 1 11 1 rfl rfl rfl rfl) ?_
 exact Le.ct 0 0 (hpin := ⟨⟨rfl, rfl⟩, trivial⟩)
 rintro ⟨k7, v30, v31, v32, v33, v34, v35⟩ hH
 replace hH : spec_l1Cur_called_l1 names x1 k7 v30 v31 v32 v33 v34 v35 = some r := hH
 try dsimp only
 rcases k7 with _ | k7
 cases (show none = some _ from hH)
 rw [spec_l1Cur_called_l1] at hH
 iterate 2 refine AW.seq ?_
 refine AW.region ?_
 iterate 2 refine AO.pu T ?_
 refine AO.nil ?_
 refine AW.cond (b := decide (v35 > 0)) rfl (fun hc => ?_) (fun hc => ?_)
 replace hH := condT hc hH
 refine AW.skip ?_
 refine AW.seq ?_
 refine AW.block ?_
 refine AW.seq ?_
 obtain ⟨x37, hx38, hH⟩ := bindE hH
 obtain ⟨u39, hx40, hH⟩ := bindE hH
 refine AW.drawn 6 12 [1] mix (by kernel_rfl) rfl ?_
 iterate 4 refine AD.pure T rfl rfl rfl ?_
 refine AD.k rfl rfl (FStep.callM rfl rfl rfl rfl (es := [.pw (encL1Cur (L1Cur.mk v30 v31 v32)), .s (names.map encStr)]) (outs := [.pw (encL1Cur x37.1), .u]) (ids := [1]) (by exact expLG_cons (.c (.box rfl rfl)) (expLG_cons (.c .s) (expLG_nil))) (by decide) (.inl (by rfl)) (by rfl) (spec_l1Cur_of_ok _ _ _ (hx38)) rfl (by rfl) rfl) rfl rfl rfl ?_
 refine AD.q (FStep.mk T (f := encStr) (l := [x37.2]) rfl rfl rfl rfl rfl rfl rfl rfl rfl (fun _ => rfl) rfl rfl rfl rfl) (by simp [namesIn]) (Nat.le_succ _) rfl ?_
 refine AD.nil ?_
 refine AO.step rfl (app_rv_map T rfl 13 rfl rfl rfl rfl rfl (by decide) rfl rfl rfl rfl (fun _ => rfl) (needT (hx40)) rfl rfl) ?_
 refine AO.pu T ?_
 refine AO.se T [.R 13, .R 11, .v (.bool x1.2)] ?_
 refine AO.nil ?_
 obtain ⟨x41, hx42, hH⟩ := bindE hH
 obtain ⟨u43, hx44, hH⟩ := bindE hH
 refine AW.drawn 6 14 [1] mix (by kernel_rfl) rfl ?_
 iterate 3 refine AD.pure T rfl rfl rfl ?_
 refine AD.val rfl rfl (mkF_ok T rfl rfl rfl rfl rfl rfl (f := encInt) (l := ([0, 0, 0, 1, 2, 3] : List Int)) rfl rfl (fun _ => rfl) rfl rfl rfl) ?_
 refine AD.k rfl rfl (FStep.callM rfl rfl rfl rfl (es := [.pw (encL1Cur (L1Cur.mk x37.1.code x37.1.at' x37.1.seed)), .s (([0, 0, 0, 1, 2, 3] : List Int).map encInt)]) (outs := [.pw (encL1Cur x41.1), .u]) (ids := [1]) (by exact expLG_cons (.c (.box rfl rfl)) (expLG_cons (.c .s) (expLG_nil))) (by decide) (.inl (by rfl)) (by rfl) (spec_l1Cur_among_ok _ _ _ (hx42)) rfl (by rfl) rfl) rfl rfl rfl ?_
 refine AD.q (FStep.mk T (f := encInt) (l := [x41.2]) rfl rfl rfl rfl rfl rfl rfl rfl rfl (fun _ => rfl) rfl rfl rfl rfl) (by simp [namesIn]) (Nat.le_succ _) rfl ?_
 refine AD.nil ?_
 refine AO.step rfl (app_rv_map T rfl 15 rfl rfl rfl rfl rfl (by decide) rfl rfl rfl rfl (fun _ => rfl) (needT (hx44)) rfl rfl) ?_
 refine AO.pu T ?_
 refine AO.se T [.R 13, .R 15, .v (.bool x1.2)] ?_
 refine AO.nil ?_
 refine AW.region ?_
 refine AO.pu T ?_
 refine AO.val rfl rfl (arw_ok rfl rfl rfl rfl) ?_
 refine AO.pu T ?_
 refine AO.nil ?_
 refine ⟨(k7, x41.1.code, x41.1.at', x41.1.seed, (v33 ++ [x37.2]), (v34 ++ [x41.2]), w64 (v35 - 1)), hH, Nat.lt_succ_self _, ?_⟩
 refine Le.trans (Le.ct 13 9 (σ' := (⟨[(0, .p 1 0), (1, .s (List.map encStr names)), (4, .p 2 0), (5, .p 3 0), (6, w64 (v35 - 1))], [(1, .box [.s (List.map encInt_u8 x41.1.code), x41.1.at', .v (.int .u64 x41.1.seed)]), (2, .box [.w 0 [], .w 0 [], .v (.bool false)]), (3, .box [.R 9, .R 15, .v (.bool x1.2)]), (9, .row 1 (List.map encStr (v33 ++ [x37.2]))), (15, .row 1 (List.map encInt (v34 ++ [x41.2])))], 50, [(1, L 1)]⟩ : St)) (hpin := ⟨⟨rfl, rfl⟩, trivial⟩)) ?_
 exact Le.ct 15 11 (hpin := ⟨⟨rfl, rfl⟩, trivial⟩)
 replace hH := condF hc hH
 refine AW.exit ?_
 iterate 2 refine AW.seq ?_
 obtain ⟨x45, hx46, hH⟩ := bindE hH
 refine AW.region ?_
 refine AO.pu T ?_
 refine AO.step rfl (callM_ok rfl 16 rfl rfl (es := [.pw (encL1Cur (L1Cur.mk v30 v31 v32)), .v (.int .i64 12)]) (outs := [.pw (encL1Cur x45.1), .u]) (ids := [1]) (by exact expLG_cons (.c (.box rfl rfl)) (expLG_cons (.c .v) (expLG_nil))) (by decide) (.inl (by rfl)) (by rfl) (spec_l1Cur_one_ok _ _ _ (hx46)) rfl (by rfl) rfl) ?_
 refine AO.nil ?_
 refine AW.cond (b := x45.2) rfl (fun hc => ?_) (fun hc => ?_)
 replace hH := condT hc hH
 refine AW.seq ?_
 obtain ⟨x47, hx48, hH⟩ := bindE hH
 obtain ⟨u49, hx50, hH⟩ := bindE hH
 refine AW.drawn 6 16 [1] mix (by kernel_rfl) rfl ?_
 iterate 4 refine AD.pure T rfl rfl rfl ?_
 refine AD.k rfl rfl (FStep.callM rfl rfl rfl rfl (es := [.pw (encL1Cur (L1Cur.mk x45.1.code x45.1.at' x45.1.seed)), .s (names.map encStr)]) (outs := [.pw (encL1Cur x47.1), .u]) (ids := [1]) (by exact expLG_cons (.c (.box rfl rfl)) (expLG_cons (.c .s) (expLG_nil))) (by decide) (.inl (by rfl)) (by rfl) (spec_l1Cur_of_ok _ _ _ (hx48)) rfl (by rfl) rfl) rfl rfl rfl ?_
 refine AD.q (FStep.mk T (f := encStr) (l := [x47.2]) rfl rfl rfl rfl rfl rfl rfl rfl rfl (fun _ => rfl) rfl rfl rfl rfl) (by simp [namesIn]) (Nat.le_succ _) rfl ?_
 refine AD.nil ?_
 refine AO.step rfl (app_rv_map T rfl 17 rfl rfl rfl rfl rfl (by decide) rfl rfl rfl rfl (fun _ => rfl) (needT (hx50)) rfl rfl) ?_
 refine AO.pu T ?_
 refine AO.se T [.R 17, .R 11, .v (.bool x1.2)] ?_
 refine AO.nil ?_
 obtain ⟨u51, hx52, hH⟩ := bindE hH
 refine AW.region ?_
 iterate 2 refine AO.pu T ?_
 refine AO.step rfl (mk_map_ok T rfl 18 rfl rfl rfl rfl rfl (f := encInt) (l := ([0] : List Int)) rfl rfl (fun _ => rfl) rfl rfl rfl rfl rfl) ?_
 refine AO.step rfl (app_rv_map T rfl 19 rfl rfl rfl rfl rfl (by decide) rfl rfl rfl rfl (fun _ => rfl) (needT (hx52)) rfl rfl) ?_
 refine AO.pu T ?_
 refine AO.se T [.R 17, .R 19, .v (.bool x1.2)] ?_
 refine AO.nil (AW.seq ?_)
 refine AW.region ?_
 refine AO.pu T (d := .g [.R 17, .R 19, .v (.bool x1.2)]) ?_
 refine AO.se T [.R 17, .R 19, .v (.bool x1.2)] ?_
 refine AO.nil (AW.ret ?_)
 have hR := someE hH; subst hR
 exact ⟨trivial, rfl, _, [17, 19], [1], rfl, expLG_cons (.c (.box rfl rfl)) (expLG_cons (.c .u) (expLG_nil)), .c (.g (expLC_cons (.rowR rfl) (expLC_cons (.rowR rfl) (expLC_cons .v (expLC_nil))))), by decide⟩
 replace hH := condF hc hH
 refine AW.skip ?_
 refine AW.seq (AW.region ?_)
 refine AO.pu T (d := .g [.R 9, .R 11, .v (.bool x1.2)]) ?_
 refine AO.se T [.R 9, .R 11, .v (.bool x1.2)] ?_
 refine AO.nil (AW.ret ?_)
 have hR := someE hH; subst hR
 exact ⟨trivial, rfl, _, [9, 11], [1], rfl, expLG_cons (.c (.box rfl rfl)) (expLG_cons (.c .u) (expLG_nil)), .c (.g (expLC_cons (.rowR rfl) (expLC_cons (.rowR rfl) (expLC_cons .v (expLC_nil))))), by decide⟩

def spec_l1Cur_anyItem_l1 (x1 : (L1Cur × Item)) (x15 : (L1Cur × Int)) : Nat → List ByteArray → List Int → Option ((L1Cur × Item))
  | 0, _, _ => none
  | k17 + 1, v28, v29 =>
    cond (decide ((v28.length : Int) < (w64 (3 + x15.2))))
      ((need (fitsB 16 (v28.length + ([(⟨#[49, 84]⟩ : ByteArray)]).length))).bind fun u31 =>
      (need (fitsB 8 (v29.length + (([1] : List Int)).length))).bind fun u33 =>
      spec_l1Cur_anyItem_l1 x1 x15 k17 (v28 ++ [(⟨#[49, 84]⟩ : ByteArray)]) (v29 ++ ([1] : List Int)))
      (some ((L1Cur.mk x15.1.code x15.1.at' x15.1.seed), (Item.mk v28 v29 x1.2.late)))
def spec_l1Cur_anyItem_p (fuel : Nat) (c : L1Cur) : Option (L1Cur × Item) :=
  (spec_l1Cur_called_p fuel c [(⟨#[51, 65]⟩ : ByteArray), (⟨#[50, 84]⟩ : ByteArray), (⟨#[52, 83]⟩ : ByteArray), (⟨#[67, 67, 79, 83, 80]⟩ : ByteArray), (⟨#[83, 84]⟩ : ByteArray), (⟨#[65]⟩ : ByteArray), (⟨#[48]⟩ : ByteArray)]).bind fun x1 =>
  (spec_l1Cur_pick_p (L1Cur.mk x1.1.code x1.1.at' x1.1.seed) 24).bind fun x3 =>
  cond (x3.2 == 0)
    ((spec_l1Cur_of_p (L1Cur.mk x3.1.code x3.1.at' x3.1.seed) [(⟨#[]⟩ : ByteArray), (⟨#[97]⟩ : ByteArray), (⟨#[65, 66, 67, 68, 69]⟩ : ByteArray), (⟨#[65, 66, 67, 68, 69, 70]⟩ : ByteArray), (⟨#[51, 65, 60]⟩ : ByteArray), (⟨#[65, 32, 66]⟩ : ByteArray)]).bind fun x5 =>
    (getI x1.2.names 0).bind fun x7 =>
    some ((L1Cur.mk x5.1.code x5.1.at' x5.1.seed), (Item.mk (x1.2.names.set ((0 : Int).toNat) x5.2) x1.2.marks x1.2.late)))
    (cond (x3.2 == 1)
      ((spec_l1Cur_among_p (L1Cur.mk x3.1.code x3.1.at' x3.1.seed) ([(-1), 3, 4] : List Int)).bind fun x9 =>
      (getI x1.2.marks 0).bind fun x11 =>
      some ((L1Cur.mk x9.1.code x9.1.at' x9.1.seed), (Item.mk x1.2.names (x1.2.marks.set ((0 : Int).toNat) x9.2) x1.2.late)))
      (cond (x3.2 == 2)
        ((need (fitsB 8 (x1.2.marks.length + (([0] : List Int)).length))).bind fun u13 =>
        some ((L1Cur.mk x3.1.code x3.1.at' x3.1.seed), (Item.mk x1.2.names (x1.2.marks ++ ([0] : List Int)) x1.2.late)))
        (cond (x3.2 == 3)
          ((spec_l1Cur_pick_p (L1Cur.mk x3.1.code x3.1.at' x3.1.seed) 2).bind fun x15 =>
          spec_l1Cur_anyItem_l1 x1 x15 fuel x1.2.names x1.2.marks)
          (cond (x3.2 == 4)
            (some ((L1Cur.mk x3.1.code x3.1.at' x3.1.seed), (Item.mk [] [] false)))
            (some ((L1Cur.mk x3.1.code x3.1.at' x3.1.seed), (Item.mk x1.2.names x1.2.marks x1.2.late)))))))
theorem spec_l1Cur_anyItem_ok (fuel : Nat) (c : L1Cur) (r : (L1Cur × Item)) (hH : spec_l1Cur_anyItem_p fuel c = some r) : SpecM Tryz.prog 77 [.pw (encL1Cur c)] [.pw (encL1Cur r.1)] (.g (encItemO r.2)) := by
 refine fn_okM T Tryz.func77 rfl (by decide) rfl rfl ?_
 intro L
 show AW _ _ _ (⟨[(0, .p 1 0)], [(1, .box [.s (List.map encInt_u8 c.code), c.at', .v (.int .u64 c.seed)])], 57, [(1, L 1)]⟩ : St)
 refine AW.seq (AW.region ?_)
 refine AO.step rfl (alloc_ok T rfl 2 rfl rfl rfl rfl rfl) ?_
 refine AO.nil (AW.seq ?_)
 obtain ⟨x1, hx2, hH⟩ := bindE hH
 refine AW.region ?_
 refine AO.pu T ?_
 refine AO.step rfl (mk_map_ok T rfl 3 rfl rfl rfl rfl rfl (f := encStr) (l := [(⟨#[51, 65]⟩ : ByteArray), (⟨#[50, 84]⟩ : ByteArray), (⟨#[52, 83]⟩ : ByteArray), (⟨#[67, 67, 79, 83, 80]⟩ : ByteArray), (⟨#[83, 84]⟩ : ByteArray), (⟨#[65]⟩ : ByteArray), (⟨#[48]⟩ : ByteArray)]) rfl rfl (fun _ => rfl) rfl rfl rfl rfl rfl) ?_
 refine AO.le (Le.freezeM 3 (g := encStr) rfl (fun y => .vs rfl)) ?_
 refine AO.step rfl (callM_ok rfl 4 rfl rfl (es := [.pw (encL1Cur c), .s ([(⟨#[51, 65]⟩ : ByteArray), (⟨#[50, 84]⟩ : ByteArray), (⟨#[52, 83]⟩ : ByteArray), (⟨#[67, 67, 79, 83, 80]⟩ : ByteArray), (⟨#[83, 84]⟩ : ByteArray), (⟨#[65]⟩ : ByteArray), (⟨#[48]⟩ : ByteArray)].map encStr)]) (outs := [.pw (encL1Cur x1.1), .u]) (ids := [1]) (by exact expLG_cons (.c (.box rfl rfl)) (expLG_cons (.c .s) (expLG_nil))) (by decide) (.inl (by rfl)) (by rfl) (spec_l1Cur_called_ok fuel _ _ _ (hx2)) rfl (by rfl) rfl) ?_
 refine AO.step rfl (alloc_ok T rfl 6 rfl rfl rfl rfl rfl) ?_
 refine AO.se T [.R 4, .R 5, .v (.bool x1.2.late)] ?_
 refine AO.nil ?_
 iterate 2 refine AW.seq ?_
 obtain ⟨x3, hx4, hH⟩ := bindE hH
 refine AW.region ?_
 refine AO.pu T ?_
 refine AO.step rfl (callM_ok rfl 7 rfl rfl (es := [.pw (encL1Cur (L1Cur.mk x1.1.code x1.1.at' x1.1.seed)), .v (.int .i64 24)]) (outs := [.pw (encL1Cur x3.1), .u]) (ids := [1]) (by exact expLG_cons (.c (.box rfl rfl)) (expLG_cons (.c .v) (expLG_nil))) (by decide) (.inl (by rfl)) (by rfl) (spec_l1Cur_pick_ok _ _ _ (hx4)) rfl (by rfl) rfl) ?_
 refine AO.nil ?_
 refine AW.block ?_
 refine AW.seq (AW.region ?_)
 iterate 2 refine AO.pu T ?_
 refine AO.nil ?_
 refine AW.cond (b := (x3.2 == 0)) rfl (fun hc => ?_) (fun hc => ?_)
 replace hH := condT hc hH
 obtain ⟨x5, hx6, hH⟩ := bindE hH
 obtain ⟨x7, hx8, hH⟩ := bindE hH
 refine AW.drawn 5 7 [1] mix (by kernel_rfl) rfl ?_
 iterate 3 refine AD.pure T rfl rfl rfl ?_
 refine AD.val rfl rfl (mkF_ok T rfl rfl rfl rfl rfl rfl (f := encStr) (l := [(⟨#[]⟩ : ByteArray), (⟨#[97]⟩ : ByteArray), (⟨#[65, 66, 67, 68, 69]⟩ : ByteArray), (⟨#[65, 66, 67, 68, 69, 70]⟩ : ByteArray), (⟨#[51, 65, 60]⟩ : ByteArray), (⟨#[65, 32, 66]⟩ : ByteArray)]) rfl rfl (fun _ => rfl) rfl rfl rfl) ?_
 refine AD.k rfl rfl (FStep.callM rfl rfl rfl rfl (es := [.pw (encL1Cur (L1Cur.mk x3.1.code x3.1.at' x3.1.seed)), .s ([(⟨#[]⟩ : ByteArray), (⟨#[97]⟩ : ByteArray), (⟨#[65, 66, 67, 68, 69]⟩ : ByteArray), (⟨#[65, 66, 67, 68, 69, 70]⟩ : ByteArray), (⟨#[51, 65, 60]⟩ : ByteArray), (⟨#[65, 32, 66]⟩ : ByteArray)].map encStr)]) (outs := [.pw (encL1Cur x5.1), .u]) (ids := [1]) (by exact expLG_cons (.c (.box rfl rfl)) (expLG_cons (.c .s) (expLG_nil))) (by decide) (.inl (by rfl)) (by rfl) (spec_l1Cur_of_ok _ _ _ (hx6)) rfl (by rfl) rfl) rfl rfl rfl ?_
 refine AD.nil ?_
 refine AO.val rfl rfl (ix_row_ok T rfl rfl rfl rfl rfl rfl (hx8)) ?_
 refine AO.step rfl (store_row_ok T rfl rfl rfl rfl rfl (getI_get (hx8)) rfl rfl rfl rfl (u' := x5.2) rfl rfl) ?_
 refine AO.nil (AW.seq ?_)
 refine AW.region ?_
 refine AO.pu T (d := .g [.R 4, .R 5, .v (.bool x1.2.late)]) ?_
 refine AO.se T [.R 4, .R 5, .v (.bool x1.2.late)] ?_
 refine AO.nil (AW.ret ?_)
 have hR := someE hH; subst hR
 exact ⟨trivial, rfl, _, [4, 5], [1], rfl, expLG_cons (.c (.box rfl rfl)) (expLG_nil), .c (.g (expLC_cons (.rowR rfl) (expLC_cons (.rowR rfl) (expLC_cons .v (expLC_nil))))), by decide⟩
 replace hH := condF hc hH
 refine AW.seq (AW.region ?_)
 iterate 2 refine AO.pu T ?_
 refine AO.nil ?_
 refine AW.cond (b := (x3.2 == 1)) rfl (fun hc => ?_) (fun hc => ?_)
 replace hH := condT hc hH
 obtain ⟨x9, hx10, hH⟩ := bindE hH
 obtain ⟨x11, hx12, hH⟩ := bindE hH
 refine AW.drawn 5 7 [1] mix (by kernel_rfl) rfl ?_
 iterate 3 refine AD.pure T rfl rfl rfl ?_
 refine AD.val rfl rfl (mkF_ok T rfl rfl rfl rfl rfl rfl (f := encInt) (l := ([(-1), 3, 4] : List Int)) rfl rfl (fun _ => rfl) rfl rfl rfl) ?_
 refine AD.k rfl rfl (FStep.callM rfl rfl rfl rfl (es := [.pw (encL1Cur (L1Cur.mk x3.1.code x3.1.at' x3.1.seed)), .s (([(-1), 3, 4] : List Int).map encInt)]) (outs := [.pw (encL1Cur x9.1), .u]) (ids := [1]) (by exact expLG_cons (.c (.box rfl rfl)) (expLG_cons (.c .s) (expLG_nil))) (by decide) (.inl (by rfl)) (by rfl) (spec_l1Cur_among_ok _ _ _ (hx10)) rfl (by rfl) rfl) rfl rfl rfl ?_
 refine AD.nil ?_
 refine AO.val rfl rfl (ix_row_ok T rfl rfl rfl rfl rfl rfl (hx12)) ?_
 refine AO.step rfl (store_row_ok T rfl rfl rfl rfl rfl (getI_get (hx12)) rfl rfl rfl rfl (u' := x9.2) rfl rfl) ?_
 refine AO.nil (AW.seq ?_)
 refine AW.region ?_
 refine AO.pu T (d := .g [.R 4, .R 5, .v (.bool x1.2.late)]) ?_
 refine AO.se T [.R 4, .R 5, .v (.bool x1.2.late)] ?_
 refine AO.nil (AW.ret ?_)
 have hR := someE hH; subst hR
 exact ⟨trivial, rfl, _, [4, 5], [1], rfl, expLG_cons (.c (.box rfl rfl)) (expLG_nil), .c (.g (expLC_cons (.rowR rfl) (expLC_cons (.rowR rfl) (expLC_cons .v (expLC_nil))))), by decide⟩
 replace hH := condF hc hH
 refine AW.seq (AW.region ?_)
 iterate 2 refine AO.pu T ?_
 refine AO.nil ?_
 refine AW.cond (b := (x3.2 == 2)) rfl (fun hc => ?_) (fun hc => ?_)
 replace hH := condT hc hH
 obtain ⟨u13, hx14, hH⟩ := bindE hH
 refine AW.region ?_
 iterate 2 refine AO.pu T ?_
 refine AO.step rfl (mk_map_ok T rfl 7 rfl rfl rfl rfl rfl (f := encInt) (l := ([0] : List Int)) rfl rfl (fun _ => rfl) rfl rfl rfl rfl rfl) ?_
 refine AO.step rfl (app_rv_map T rfl 8 rfl rfl rfl rfl rfl (by decide) rfl rfl rfl rfl (fun _ => rfl) (needT (hx14)) rfl rfl) ?_
 refine AO.pu T ?_
 refine AO.se T [.R 4, .R 8, .v (.bool x1.2.late)] ?_
 refine AO.nil (AW.seq ?_)
 refine AW.region ?_
 refine AO.pu T (d := .g [.R 4, .R 8, .v (.bool x1.2.late)]) ?_
 refine AO.se T [.R 4, .R 8, .v (.bool x1.2.late)] ?_
 refine AO.nil (AW.ret ?_)
 have hR := someE hH; subst hR
 exact ⟨trivial, rfl, _, [4, 8], [1], rfl, expLG_cons (.c (.box rfl rfl)) (expLG_nil), .c (.g (expLC_cons (.rowR rfl) (expLC_cons (.rowR rfl) (expLC_cons .v (expLC_nil))))), by decide⟩
 replace hH := condF hc hH
 refine AW.seq (AW.region ?_)
 iterate 2 refine AO.pu T ?_
 refine AO.nil ?_
 refine AW.cond (b := (x3.2 == 3)) rfl (fun hc => ?_) (fun hc => ?_)
 replace hH := condT hc hH
 refine AW.seq ?_
 obtain ⟨x15, hx16, hH⟩ := bindE hH
 refine AW.region ?_
 refine AO.pu T ?_
 refine AO.step rfl (callM_ok rfl 9 rfl rfl (es := [.pw (encL1Cur (L1Cur.mk x3.1.code x3.1.at' x3.1.seed)), .v (.int .i64 2)]) (outs := [.pw (encL1Cur x15.1), .u]) (ids := [1]) (by exact expLG_cons (.c (.box rfl rfl)) (expLG_cons (.c .v) (expLG_nil))) (by decide) (.inl (by rfl)) (by rfl) (spec_l1Cur_pick_ok _ _ _ (hx16)) rfl (by rfl) rfl) ?_
 refine AO.val rfl rfl (arw_ok rfl rfl rfl rfl) ?_
 refine AO.pu T ?_
 refine AO.nil ?_
 refine AW.block ?_
 refine AW.loopS (fun s : Nat × (List ByteArray) × (List Int) => (⟨[(2, .p 2 0), (3, .p 6 0), (4, w64 (3 + x15.2))], [(1, .box [.s (List.map encInt_u8 x15.1.code), x15.1.at', .v (.int .u64 x15.1.seed)]), (2, .box [.w 0 [], .w 0 [], .v (.bool false)]), (4, .row 1 (List.map encStr s.2.1)), (5, .row 1 (List.map encInt s.2.2)), (6, .box [.R 4, .R 5, .v (.bool x1.2.late)])], 57, [(1, L 1)]⟩ : St)) (fun s => spec_l1Cur_anyItem_l1 x1 x15 s.1 s.2.1 s.2.2 = some r) (fun s => s.1) (fuel, x1.2.names, x1.2.marks) hH ?_ ?_
 exact Le.ct 0 0 (hpin := ⟨⟨rfl, rfl⟩, trivial⟩)
 rintro ⟨k17, v28, v29⟩ hH
 replace hH : spec_l1Cur_anyItem_l1 x1 x15 k17 v28 v29 = some r := hH
 try dsimp only
 rcases k17 with _ | k17
 cases (show none = some _ from hH)
 rw [spec_l1Cur_anyItem_l1] at hH
 iterate 2 refine AW.seq ?_
 refine AW.region ?_
 iterate 2 refine AO.pu T ?_
 refine AO.val rfl rfl (len_row_ok T rfl rfl rfl rfl) ?_
 iterate 2 refine AO.pu T ?_
 refine AO.nil ?_
 refine AW.cond (b := decide ((v28.length : Int) < (w64 (3 + x15.2)))) rfl (fun hc => ?_) (fun hc => ?_)
 replace hH := condT hc hH
 refine AW.skip ?_
 refine AW.block ?_
 refine AW.seq ?_
 obtain ⟨u31, hx32, hH⟩ := bindE hH
 refine AW.region ?_
 iterate 2 refine AO.pu T ?_
 refine AO.step rfl (mk_map_ok T rfl 17 rfl rfl rfl rfl rfl (f := encStr) (l := [(⟨#[49, 84]⟩ : ByteArray)]) rfl rfl (fun _ => rfl) rfl rfl rfl rfl rfl) ?_
 refine AO.step rfl (app_rv_map T rfl 18 rfl rfl rfl rfl rfl (by decide) rfl rfl rfl rfl (fun _ => rfl) (needT (hx32)) rfl rfl) ?_
 refine AO.pu T ?_
 refine AO.se T [.R 18, .R 5, .v (.bool x1.2.late)] ?_
 refine AO.nil ?_
 obtain ⟨u33, hx34, hH⟩ := bindE hH
 refine AW.region ?_
 iterate 2 refine AO.pu T ?_
 refine AO.step rfl (mk_map_ok T rfl 19 rfl rfl rfl rfl rfl (f := encInt) (l := ([1] : List Int)) rfl rfl (fun _ => rfl) rfl rfl rfl rfl rfl) ?_
 refine AO.step rfl (app_rv_map T rfl 20 rfl rfl rfl rfl rfl (by decide) rfl rfl rfl rfl (fun _ => rfl) (needT (hx34)) rfl rfl) ?_
 refine AO.pu T ?_
 refine AO.se T [.R 18, .R 20, .v (.bool x1.2.late)] ?_
 refine AO.nil ?_
 refine ⟨(k17, (v28 ++ [(⟨#[49, 84]⟩ : ByteArray)]), (v29 ++ ([1] : List Int))), hH, Nat.lt_succ_self _, ?_⟩
 refine Le.trans (Le.ct 18 4 (σ' := (⟨[(2, .p 2 0), (3, .p 6 0), (4, w64 (3 + x15.2))], [(1, .box [.s (List.map encInt_u8 x15.1.code), x15.1.at', .v (.int .u64 x15.1.seed)]), (2, .box [.w 0 [], .w 0 [], .v (.bool false)]), (4, .row 1 (List.map encStr (v28 ++ [(⟨#[49, 84]⟩ : ByteArray)]))), (6, .box [.R 4, .R 20, .v (.bool x1.2.late)]), (20, .row 1 (List.map encInt (v29 ++ ([1] : List Int))))], 57, [(1, L 1)]⟩ : St)) (hpin := ⟨⟨rfl, rfl⟩, trivial⟩)) ?_
 exact Le.ct 20 5 (hpin := ⟨⟨rfl, rfl⟩, trivial⟩)
 replace hH := condF hc hH
 refine AW.exit ?_
 refine AW.seq (AW.region ?_)
 refine AO.pu T (d := .g [.R 4, .R 5, .v (.bool x1.2.late)]) ?_
 refine AO.se T [.R 4, .R 5, .v (.bool x1.2.late)] ?_
 refine AO.nil (AW.ret ?_)
 have hR := someE hH; subst hR
 exact ⟨trivial, rfl, _, [4, 5], [1], rfl, expLG_cons (.c (.box rfl rfl)) (expLG_nil), .c (.g (expLC_cons (.rowR rfl) (expLC_cons (.rowR rfl) (expLC_cons .v (expLC_nil))))), by decide⟩
 replace hH := condF hc hH
 refine AW.seq (AW.region ?_)
 iterate 2 refine AO.pu T ?_
 refine AO.nil ?_
 refine AW.cond (b := (x3.2 == 4)) rfl (fun hc => ?_) (fun hc => ?_)
 replace hH := condT hc hH
 refine AW.region ?_
 refine AO.pu T (d := .g [.w 0 [], .w 0 [], .v (.bool false)]) ?_
 refine AO.se T [.w 0 [], .w 0 [], .v (.bool false)] ?_
 refine AO.nil (AW.seq ?_)
 refine AW.region ?_
 refine AO.pu T (d := .g [.w 0 [], .w 0 [], .v (.bool false)]) ?_
 refine AO.se T [.w 0 [], .w 0 [], .v (.bool false)] ?_
 refine AO.nil (AW.ret ?_)
 have hR := someE hH; subst hR
 exact ⟨trivial, rfl, _, [], [1], rfl, expLG_cons (.c (.box rfl rfl)) (expLG_nil), .c (.g (expLC_cons .nil (expLC_cons .nil (expLC_cons .v (expLC_nil))))), by decide⟩
 replace hH := condF hc hH
 refine AW.skip ?_
 refine AW.seq (AW.region ?_)
 refine AO.pu T (d := .g [.R 4, .R 5, .v (.bool x1.2.late)]) ?_
 refine AO.se T [.R 4, .R 5, .v (.bool x1.2.late)] ?_
 refine AO.nil (AW.ret ?_)
 have hR := someE hH; subst hR
 exact ⟨trivial, rfl, _, [4, 5], [1], rfl, expLG_cons (.c (.box rfl rfl)) (expLG_nil), .c (.g (expLC_cons (.rowR rfl) (expLC_cons (.rowR rfl) (expLC_cons .v (expLC_nil))))), by decide⟩

def spec_itByte_p (b : Int) : Option Bool :=
  some ((decide (b ≥ 65) && decide (b ≤ 90)) || (decide (b ≥ 48) && decide (b ≤ 57)))
theorem spec_itByte_ok (b : Int) (r : Bool) (hH : spec_itByte_p b = some r) : SpecR Tryz.prog 93 [.v (.int .u8 b)] (.v (.bool r)) := by
 refine fn_ok T Tryz.func93 rfl (by decide) rfl ?_
 refine AW.seq (AW.region ?_)
 refine AO.pu T ?_
 refine AO.nil (AW.seq ?_)
 refine AW.region ?_
 iterate 3 refine AO.pu T ?_
 refine AO.pureG T [] rfl trivial rfl rfl ?_
 refine AO.pureG T [6] rfl ⟨fun h => h, trivial⟩ rfl rfl ?_
 refine AO.val rfl rfl (pick_and rfl rfl rfl rfl) ?_
 refine AO.pu T ?_
 refine AO.pureG T [] rfl trivial rfl rfl ?_
 refine AO.pureG T [10] rfl ⟨fun h => h, trivial⟩ rfl rfl ?_
 refine AO.pureG T [11] rfl ⟨fun h => h, trivial⟩ rfl rfl ?_
 refine AO.pureG T [] rfl trivial rfl rfl ?_
 refine AO.pureG T [13] rfl ⟨fun h => h, trivial⟩ rfl rfl ?_
 refine AO.guard [12] rfl ⟨fun h => h, trivial⟩ (fun hg => pick_and rfl rfl rfl (by rw [hg]; exact Bool.true_and _)) rfl ?_
 refine AO.val rfl rfl (pick_or rfl rfl rfl rfl) ?_
 refine AO.pu T ?_
 refine AO.nil (AW.ret ?_)
 have hR := someE hH; subst hR
 exact retQ.i [] rfl (.c (.c .v))

def spec_l1In_p (n : Int) (lo : Int) (hi : Int) : Option Bool :=
  some (decide (n ≥ lo) && decide (n ≤ hi))
theorem spec_l1In_ok (n : Int) (lo : Int) (hi : Int) (r : Bool) (hH : spec_l1In_p n lo hi = some r) : SpecR Tryz.prog 56 [n, lo, hi] (.v (.bool r)) := by
 refine fn_ok T Tryz.func56 rfl (by decide) rfl ?_
 refine AW.seq (AW.region ?_)
 refine AO.pu T ?_
 refine AO.nil (AW.seq ?_)
 refine AW.region ?_
 iterate 4 refine AO.pu T ?_
 iterate 2 refine AO.pureG T [] rfl trivial rfl rfl ?_
 refine AO.pureG T [11, 12] rfl ⟨fun h => h, fun h => h, trivial⟩ rfl rfl ?_
 refine AO.val rfl rfl (pick_and rfl rfl rfl rfl) ?_
 refine AO.pu T ?_
 refine AO.nil (AW.ret ?_)
 have hR := someE hH; subst hR
 exact retQ.i [] rfl (.c (.c .v))

def spec_itName_l1 (sA : ByteArray) : Nat → Int → Option Bool
  | 0, _ => none
  | k1 + 1, v11 =>
    cond (decide (v11 < (sA.size : Int)))
      ((strI sA v11).bind fun b13 =>
      (spec_itByte_p (b13.toNat : Int)).bind fun x15 =>
      cond (!x15)
        (some false)
        (spec_itName_l1 sA k1 (w64 (v11 + 1))))
      ((spec_l1In_p (sA.size : Int) 1 5).bind fun x17 =>
      some x17)
def spec_itName_p (fuel : Nat) (sA : ByteArray) : Option Bool :=
  spec_itName_l1 sA fuel 0
theorem spec_itName_ok (fuel : Nat) (sA : ByteArray) (r : Bool) (hH : spec_itName_p fuel sA = some r) : SpecR Tryz.prog 75 [.v (.string sA)] (.v (.bool r)) := by
 refine fn_ok T Tryz.func75 rfl (by decide) rfl ?_
 refine AW.seq (AW.region ?_)
 refine AO.pu T ?_
 refine AO.nil ?_
 iterate 2 refine AW.seq ?_
 refine AW.region ?_
 refine AO.pu T ?_
 refine AO.nil ?_
 refine AW.block ?_
 refine AW.loopS (fun s : Nat × Int => (⟨[(0, .v (.string sA)), (3, s.2)], [], 18, []⟩ : St)) (fun s => spec_itName_l1 sA s.1 s.2 = some r) (fun s => s.1) (fuel, 0) hH ?_ ?_
 exact Le.ct 0 0
 rintro ⟨k1, v11⟩ hH
 replace hH : spec_itName_l1 sA k1 v11 = some r := hH
 try dsimp only
 rcases k1 with _ | k1
 cases (show none = some _ from hH)
 rw [spec_itName_l1] at hH
 iterate 2 refine AW.seq ?_
 refine AW.region ?_
 iterate 4 refine AO.pu T ?_
 refine AO.nil ?_
 refine AW.cond (b := decide (v11 < (sA.size : Int))) rfl (fun hc => ?_) (fun hc => ?_)
 replace hH := condT hc hH
 refine AW.skip ?_
 refine AW.seq ?_
 refine AW.block ?_
 refine AW.seq ?_
 obtain ⟨b13, hx14, hH⟩ := bindE hH
 obtain ⟨x15, hx16, hH⟩ := bindE hH
 refine AW.region ?_
 iterate 2 refine AO.pu T ?_
 refine AO.val rfl rfl (ix_strI_ok T rfl rfl rfl rfl (hx14)) ?_
 refine AO.val rfl rfl (callV_ok rfl rfl rfl rfl (spec_itByte_ok _ _ (hx16)) rfl) ?_
 refine AO.pu T ?_
 refine AO.nil ?_
 refine AW.cond (b := (!x15)) rfl (fun hc => ?_) (fun hc => ?_)
 replace hH := condT hc hH
 refine AW.seq (AW.region ?_)
 refine AO.pu T ?_
 refine AO.nil (AW.ret ?_)
 have hR := someE hH; subst hR
 exact retQ.i [] rfl (.c (.c .v))
 replace hH := condF hc hH
 refine AW.skip ?_
 refine AW.region ?_
 refine AO.pu T ?_
 refine AO.val rfl rfl (arw_ok rfl rfl rfl rfl) ?_
 refine AO.pu T ?_
 refine AO.nil ?_
 refine ⟨(k1, w64 (v11 + 1)), hH, Nat.lt_succ_self _, ?_⟩
 exact Le.ct 0 0
 replace hH := condF hc hH
 refine AW.exit ?_
 refine AW.seq ?_
 obtain ⟨x17, hx18, hH⟩ := bindE hH
 refine AW.region ?_
 iterate 2 refine AO.pu T ?_
 refine AO.val rfl rfl (callV_ok rfl rfl rfl rfl (spec_l1In_ok _ _ _ _ (hx18)) rfl) ?_
 refine AO.pu T ?_
 refine AO.nil (AW.ret ?_)
 have hR := someE hH; subst hR
 exact retQ.i [] rfl (.c (.c .v))

def spec_l1All_l1 (lo : Int) (hi : Int) : List Int → Nat → Option Bool
  | [], k1 =>
    some true
  | y2 :: ys3, k1 =>
    (spec_l1In_p y2 lo hi).bind fun x12 =>
    cond (!x12)
      (some false)
      (spec_l1All_l1 lo hi ys3 (k1 + 1))
def spec_l1All_p (l : List Int) (lo : Int) (hi : Int) : Option Bool :=
  spec_l1All_l1 lo hi l 0
theorem spec_l1All_ok (l : List Int) (lo : Int) (hi : Int) (r : Bool) (hH : spec_l1All_p l lo hi = some r) : SpecR Tryz.prog 76 [.s (List.map encInt l), lo, hi] (.v (.bool r)) := by
 refine fn_ok T Tryz.func76 rfl (by decide) rfl ?_
 refine AW.seq (AW.region ?_)
 refine AO.pu T ?_
 refine AO.nil ?_
 iterate 2 refine AW.seq ?_
 refine AW.region ?_
 refine AO.pu T ?_
 refine AO.val rfl rfl (len_map_ok T rfl rfl rfl) ?_
 refine AO.pu T ?_
 refine AO.nil ?_
 refine AW.block ?_
 refine AW.loopS (fun s : Nat => (⟨[(1, lo), (2, hi), (9, .s (List.map encInt l)), (10, (l.length : Int)), (11, (s : Int))], [], 21, []⟩ : St)) (fun s => s ≤ l.length ∧ spec_l1All_l1 lo hi (l.drop s) s = some r) (fun s => l.length - s) 0 ⟨Nat.zero_le _, hH⟩ ?_ ?_
 exact Le.ct 0 0
 rintro k1 ⟨hk, hH⟩
 replace hH : spec_l1All_l1 lo hi (l.drop k1) k1 = some r := hH
 try dsimp only
 refine AW.boundM (t := 9) (l := l) rfl (fun hb5 => ?_)
 rcases hd4 : l.drop k1 with _ | ⟨y2, ys3⟩
 rw [hd4, spec_l1All_l1] at hH
 have hlt6 := drop_ge hd4
 refine AW.seq (AW.region ?_)
 refine AO.pu T ?_
 refine AO.nil (AW.seq ?_)
 refine AW.condF' (b := decide ((k1 : Int) < (l.length : Int))) rfl (rngF hlt6) ?_
 refine AW.exit ?_
 refine AW.seq (AW.region ?_)
 refine AO.pu T ?_
 refine AO.nil (AW.ret ?_)
 have hR := someE hH; subst hR
 exact retQ.i [] rfl (.c (.c .v))
 rw [hd4, spec_l1All_l1] at hH
 have hlt6 := drop_lt hd4
 refine AW.seq (AW.region ?_)
 refine AO.pu T ?_
 refine AO.nil (AW.seq ?_)
 refine AW.condT' (b := decide ((k1 : Int) < (l.length : Int))) rfl (rngT hlt6) ?_
 refine AW.skip ?_
 refine AW.seq ?_
 refine AW.block ?_
 refine AW.seq (AW.region ?_)
 refine AO.val rfl rfl (ix_map_ok T rfl rfl rfl rfl rfl (getI_drop hd4) rfl) ?_
 iterate 2 refine AO.pu T ?_
 refine AO.nil (AW.seq ?_)
 obtain ⟨x12, hx13, hH⟩ := bindE hH
 refine AW.region ?_
 iterate 3 refine AO.pu T ?_
 refine AO.val rfl rfl (callV_ok rfl rfl rfl rfl (spec_l1In_ok _ _ _ _ (hx13)) rfl) ?_
 refine AO.pu T ?_
 refine AO.nil ?_
 refine AW.cond (b := (!x12)) rfl (fun hc => ?_) (fun hc => ?_)
 replace hH := condT hc hH
 refine AW.seq (AW.region ?_)
 refine AO.pu T ?_
 refine AO.nil (AW.ret ?_)
 have hR := someE hH; subst hR
 exact retQ.i [] rfl (.c (.c .v))
 replace hH := condF hc hH
 refine AW.skip ?_
 refine AW.region ?_
 refine AO.val rfl rfl (ar_ok rfl rfl rfl rfl (inI_succ hlt6 hb5)) ?_
 refine AO.pu T ?_
 refine AO.nil ?_
 refine ⟨k1 + 1, ⟨Nat.succ_le_of_lt hlt6, (by rw [drop_succ_of hd4]; exact hH)⟩, (by have := hlt6; dsimp only; omega), ?_⟩
 exact Le.ct 0 0

def spec_itGood_l1 (it : Item) (fuel : Nat) : List ByteArray → Nat → Option Bool
  | [], k1 =>
    (spec_l1In_p (it.names.length : Int) 1 3).bind fun x12 =>
    (opt (x12 && ((it.marks.length : Int) == (it.names.length : Int))) default (spec_l1All_p it.marks 0 3)).bind fun x14 =>
    some ((x12 && ((it.marks.length : Int) == (it.names.length : Int))) && x14)
  | y2 :: ys3, k1 =>
    (spec_itName_p fuel y2).bind fun x16 =>
    cond (!x16)
      (some false)
      (spec_itGood_l1 it fuel ys3 (k1 + 1))
def spec_itGood_p (fuel : Nat) (it : Item) : Option Bool :=
  spec_itGood_l1 it fuel it.names 0
theorem spec_itGood_ok (fuel : Nat) (it : Item) (r : Bool) (hH : spec_itGood_p fuel it = some r) : SpecR Tryz.prog 58 [.g (encItem it)] (.v (.bool r)) := by
 refine fn_ok T Tryz.func58 rfl (by decide) rfl ?_
 refine AW.seq (AW.region ?_)
 refine AO.step rfl (box_ok T rfl 1 rfl rfl rfl rfl) ?_
 refine AO.pu T ?_
 refine AO.nil ?_
 iterate 2 refine AW.seq ?_
 refine AW.region ?_
 iterate 2 refine AO.pu T ?_
 refine AO.val rfl rfl (len_map_ok T rfl rfl rfl) ?_
 refine AO.pu T ?_
 refine AO.nil ?_
 refine AW.block ?_
 refine AW.loopS (fun s : Nat => (⟨[(1, .p 1 0), (6, .s (List.map encStr it.names)), (7, (it.names.length : Int)), (8, (s : Int))], [(1, .box [.s (List.map encStr it.names), .s (List.map encInt it.marks), .v (.bool it.late)])], 34, []⟩ : St)) (fun s => s ≤ it.names.length ∧ spec_itGood_l1 it fuel (it.names.drop s) s = some r) (fun s => it.names.length - s) 0 ⟨Nat.zero_le _, hH⟩ ?_ ?_
 exact Le.ct 0 0
 rintro k1 ⟨hk, hH⟩
 replace hH : spec_itGood_l1 it fuel (it.names.drop k1) k1 = some r := hH
 try dsimp only
 refine AW.boundM (t := 6) (l := it.names) rfl (fun hb5 => ?_)
 rcases hd4 : it.names.drop k1 with _ | ⟨y2, ys3⟩
 rw [hd4, spec_itGood_l1] at hH
 have hlt6 := drop_ge hd4
 refine AW.seq (AW.region ?_)
 refine AO.pu T ?_
 refine AO.nil (AW.seq ?_)
 refine AW.condF' (b := decide ((k1 : Int) < (it.names.length : Int))) rfl (rngF hlt6) ?_
 refine AW.exit ?_
 refine AW.seq ?_
 obtain ⟨x12, hx13, hH⟩ := bindE hH
 obtain ⟨x14, hx15, hH⟩ := bindE hH
 refine AW.region ?_
 iterate 2 refine AO.pu T ?_
 refine AO.val rfl rfl (len_map_ok T rfl rfl rfl) ?_
 refine AO.val rfl rfl (callV_ok rfl rfl rfl rfl (spec_l1In_ok _ _ _ _ (hx13)) rfl) ?_
 refine AO.pu T ?_
 refine AO.pureG T [] rfl trivial rfl rfl ?_
 refine AO.pureG T [21] rfl ⟨fun h => h, trivial⟩ rfl rfl ?_
 refine AO.guard [22] rfl ⟨fun h => h, trivial⟩ (fun hg => len_map_ok T rfl rfl rfl) rfl ?_
 refine AO.pureG T [] rfl trivial rfl rfl ?_
 refine AO.pureG T [24] rfl ⟨fun h => h, trivial⟩ rfl rfl ?_
 refine AO.guard [25] rfl ⟨fun h => h, trivial⟩ (fun hg => len_map_ok T rfl rfl rfl) rfl ?_
 refine AO.pureG T [23, 26] rfl ⟨fun h => h, fun h => h, trivial⟩ rfl rfl ?_
 refine AO.val rfl rfl (pick_and rfl rfl rfl rfl) ?_
 refine AO.pu T ?_
 refine AO.pureG T [] rfl trivial rfl rfl ?_
 refine AO.pureG T [30] rfl ⟨fun h => h, trivial⟩ rfl rfl ?_
 refine AO.guard [31] rfl ⟨fun h => h, trivial⟩ (fun hg => callV_ok rfl rfl rfl rfl (spec_l1All_ok _ _ _ _ (optT hx15 hg)) rfl) rfl ?_
 refine AO.val rfl rfl (pick_and rfl rfl rfl rfl) ?_
 refine AO.pu T ?_
 refine AO.nil (AW.ret ?_)
 have hR := someE hH; subst hR
 exact retQ.i [] rfl (.c (.c .v))
 rw [hd4, spec_itGood_l1] at hH
 have hlt6 := drop_lt hd4
 refine AW.seq (AW.region ?_)
 refine AO.pu T ?_
 refine AO.nil (AW.seq ?_)
 refine AW.condT' (b := decide ((k1 : Int) < (it.names.length : Int))) rfl (rngT hlt6) ?_
 refine AW.skip ?_
 refine AW.seq ?_
 refine AW.block ?_
 refine AW.seq (AW.region ?_)
 refine AO.val rfl rfl (ix_map_ok T rfl rfl rfl rfl rfl (getI_drop hd4) rfl) ?_
 iterate 2 refine AO.pu T ?_
 refine AO.nil (AW.seq ?_)
 obtain ⟨x16, hx17, hH⟩ := bindE hH
 refine AW.region ?_
 refine AO.pu T ?_
 refine AO.val rfl rfl (callV_ok rfl rfl rfl rfl (spec_itName_ok fuel _ _ (hx17)) rfl) ?_
 refine AO.pu T ?_
 refine AO.nil ?_
 refine AW.cond (b := (!x16)) rfl (fun hc => ?_) (fun hc => ?_)
 replace hH := condT hc hH
 refine AW.seq (AW.region ?_)
 refine AO.pu T ?_
 refine AO.nil (AW.ret ?_)
 have hR := someE hH; subst hR
 exact retQ.i [] rfl (.c (.c .v))
 replace hH := condF hc hH
 refine AW.skip ?_
 refine AW.region ?_
 refine AO.val rfl rfl (ar_ok rfl rfl rfl rfl (inI_succ hlt6 hb5)) ?_
 refine AO.pu T ?_
 refine AO.nil ?_
 refine ⟨k1 + 1, ⟨Nat.succ_le_of_lt hlt6, (by rw [drop_succ_of hd4]; exact hH)⟩, (by have := hlt6; dsimp only; omega), ?_⟩
 exact Le.ct 0 0

def spec_l1Cur_anyItems_l2 (x41 : (L1Cur × Int)) : Nat → List Item → Option ((L1Cur × (List Item)))
  | 0, _ => none
  | k43 + 1, v49 =>
    cond (decide ((v49.length : Int) < (w64 (14 + x41.2))))
      ((need (fitsB 56 (v49.length + ([(Item.mk [(⟨#[49, 84]⟩ : ByteArray)] ([0] : List Int) false)]).length))).bind fun u51 =>
      spec_l1Cur_anyItems_l2 x41 k43 (v49 ++ [(Item.mk [(⟨#[49, 84]⟩ : ByteArray)] ([0] : List Int) false)]))
      (some ((L1Cur.mk x41.1.code x41.1.at' x41.1.seed), v49))
def spec_l1Cur_anyItems_l1 (fuel : Nat) : Nat → List Int → Int → Int → List Item → Int → Option ((L1Cur × (List Item)))
  | 0, _, _, _, _, _ => none
  | k3 + 1, v25, v26, v27, v28, v29 =>
    cond (decide (v29 > 0))
      ((spec_l1Cur_anyItem_p fuel (L1Cur.mk v25 v26 v27)).bind fun x31 =>
      (spec_itGood_p fuel (Item.mk x31.2.names x31.2.marks x31.2.late)).bind fun x33 =>
      (opt (!x33) ((L1Cur.mk x31.1.code x31.1.at' x31.1.seed), default) (spec_l1Cur_one_p (L1Cur.mk x31.1.code x31.1.at' x31.1.seed) 4)).bind fun x35 =>
      cond (x33 || x35.2)
        ((need (fitsB 56 (v28.length + ([(Item.mk x31.2.names x31.2.marks x31.2.late)]).length))).bind fun u37 =>
        spec_l1Cur_anyItems_l1 fuel k3 x35.1.code x35.1.at' x35.1.seed (v28 ++ [(Item.mk x31.2.names x31.2.marks x31.2.late)]) (w64 (v29 - 1)))
        (spec_l1Cur_anyItems_l1 fuel k3 x35.1.code x35.1.at' x35.1.seed v28 (w64 (v29 - 1))))
      ((spec_l1Cur_one_p (L1Cur.mk v25 v26 v27) 24).bind fun x39 =>
      cond x39.2
        ((spec_l1Cur_pick_p (L1Cur.mk x39.1.code x39.1.at' x39.1.seed) 2).bind fun x41 =>
        spec_l1Cur_anyItems_l2 x41 fuel v28)
        (some ((L1Cur.mk x39.1.code x39.1.at' x39.1.seed), v28)))
def spec_l1Cur_anyItems_p (fuel : Nat) (c : L1Cur) : Option (L1Cur × (List Item)) :=
  (spec_l1Cur_pick_p c 7).bind fun x1 =>
  spec_l1Cur_anyItems_l1 fuel fuel x1.1.code x1.1.at' x1.1.seed [] x1.2
theorem spec_l1Cur_anyItems_ok (fuel : Nat) (c : L1Cur) (r : (L1Cur × (List Item))) (hH : spec_l1Cur_anyItems_p fuel c = some r) : SpecM Tryz.prog 59 [.pw (encL1Cur c)] [.pw (encL1Cur r.1)] (.w 3 (r.2.map encItem)) := by
 refine fn_okM T Tryz.func59 rfl (by decide) rfl rfl ?_
 intro L
 show AW _ _ _ (⟨[(0, .p 1 0)], [(1, .box [.s (List.map encInt_u8 c.code), c.at', .v (.int .u64 c.seed)])], 41, [(1, L 1)]⟩ : St)
 refine AW.seq (AW.region ?_)
 refine AO.pu T ?_
 refine AO.nil (AW.seq ?_)
 refine AW.region ?_
 refine AO.pu T ?_
 refine AO.nil ?_
 iterate 2 refine AW.seq ?_
 obtain ⟨x1, hx2, hH⟩ := bindE hH
 refine AW.region ?_
 refine AO.pu T ?_
 refine AO.step rfl (callM_ok rfl 2 rfl rfl (es := [.pw (encL1Cur c), .v (.int .i64 7)]) (outs := [.pw (encL1Cur x1.1), .u]) (ids := [1]) (by exact expLG_cons (.c (.box rfl rfl)) (expLG_cons (.c .v) (expLG_nil))) (by decide) (.inl (by rfl)) (by rfl) (spec_l1Cur_pick_ok _ _ _ (hx2)) rfl (by rfl) rfl) ?_
 refine AO.pu T ?_
 refine AO.nil ?_
 refine AW.block ?_
 refine AW.loopS (fun s : Nat × (List Int) × Int × Int × (List Item) × Int => (⟨[(0, .p 1 0), (3, .R 11), (4, s.2.2.2.2.2)], [(1, .box [.s (List.map encInt_u8 s.2.1), s.2.2.1, .v (.int .u64 s.2.2.2.1)]), (11, .row 3 (List.map encItem s.2.2.2.2.1))], 41, [(1, L 1)]⟩ : St)) (fun s => spec_l1Cur_anyItems_l1 fuel s.1 s.2.1 s.2.2.1 s.2.2.2.1 s.2.2.2.2.1 s.2.2.2.2.2 = some r) (fun s => s.1) (fuel, x1.1.code, x1.1.at', x1.1.seed, [], x1.2) hH ?_ ?_
 refine Le.trans (Le.void 3 11 3 rfl rfl) ?_
 exact Le.ct 0 0 (hpin := ⟨⟨rfl, rfl⟩, trivial⟩)
 rintro ⟨k3, v25, v26, v27, v28, v29⟩ hH
 replace hH : spec_l1Cur_anyItems_l1 fuel k3 v25 v26 v27 v28 v29 = some r := hH
 try dsimp only
 rcases k3 with _ | k3
 cases (show none = some _ from hH)
 rw [spec_l1Cur_anyItems_l1] at hH
 iterate 2 refine AW.seq ?_
 refine AW.region ?_
 iterate 2 refine AO.pu T ?_
 refine AO.nil ?_
 refine AW.cond (b := decide (v29 > 0)) rfl (fun hc => ?_) (fun hc => ?_)
 replace hH := condT hc hH
 refine AW.skip ?_
 refine AW.seq ?_
 refine AW.block ?_
 refine AW.seq ?_
 obtain ⟨x31, hx32, hH⟩ := bindE hH
 refine AW.region ?_
 refine AO.pu T ?_
 refine AO.step rfl (callM_ok rfl 12 rfl rfl (es := [.pw (encL1Cur (L1Cur.mk v25 v26 v27))]) (outs := [.pw (encL1Cur x31.1)]) (ids := [1]) (by exact expLG_cons (.c (.box rfl rfl)) (expLG_nil)) (by decide) (.inl (by rfl)) (by rfl) (spec_l1Cur_anyItem_ok fuel _ _ (hx32)) rfl (by rfl) rfl) ?_
 refine AO.step rfl (alloc_ok T rfl 14 rfl rfl rfl rfl rfl) ?_
 refine AO.se T [.R 12, .R 13, .v (.bool x31.2.late)] ?_
 refine AO.nil (AW.seq ?_)
 obtain ⟨x33, hx34, hH⟩ := bindE hH
 obtain ⟨x35, hx36, hH⟩ := bindE hH
 refine AW.region ?_
 refine AO.pu T (d := .g [.R 12, .R 13, .v (.bool x31.2.late)]) ?_
 refine AO.val rfl rfl (callLV_ok rfl rfl rfl (es := [.g (encItem (Item.mk x31.2.names x31.2.marks x31.2.late))]) ⟨lend_g (LendL.cons ((.rowR rfl (.map fun y => .vs rfl))) (LendL.cons ((.rowR rfl (.map fun y => .vs rfl))) (LendL.cons (.free rfl) LendL.nil))), trivial⟩ (spec_itGood_ok fuel _ _ (hx34)) (zfree_v _) rfl) ?_
 refine AO.pu T ?_
 refine AO.pureG T [] rfl trivial rfl rfl ?_
 refine AO.guardP (id := 1) (cs' := [.s (List.map encInt_u8 x35.1.code), x35.1.at', .v (.int .u64 x35.1.seed)]) (r := .v (.bool x35.2)) [18] rfl ⟨fun h => h, trivial⟩ (fun hg => callM_ok rfl 15 rfl rfl (es := [.pw (encL1Cur (L1Cur.mk x31.1.code x31.1.at' x31.1.seed)), .v (.int .i64 4)]) (outs := [.pw (encL1Cur x35.1), .u]) (ids := [1]) (by exact expLG_cons (.c (.box rfl rfl)) (expLG_cons (.c .v) (expLG_nil))) (by decide) (.inl (by rfl)) (by rfl) (spec_l1Cur_one_ok _ _ _ (optT hx36 hg)) rfl (by rfl) rfl) rfl (fun hg => by have q := optF hx36 hg; subst q; rfl) rfl ?_
 refine AO.val rfl rfl (pick_or rfl rfl rfl rfl) ?_
 refine AO.nil ?_
 refine AW.cond (b := (x33 || x35.2)) rfl (fun hc => ?_) (fun hc => ?_)
 replace hH := condT hc hH
 obtain ⟨u37, hx38, hH⟩ := bindE hH
 refine AW.le (Le.freezeM 12 (g := encStr) rfl (fun y => .vs rfl)) ?_
 refine AW.le (Le.freezeM 13 (g := encInt) rfl (fun y => .vs rfl)) ?_
 refine AW.region ?_
 refine AO.pu T ?_
 refine AO.pu T (d := .g [.s (List.map encStr x31.2.names), .s (List.map encInt x31.2.marks), .v (.bool x31.2.late)]) ?_
 refine AO.step rfl (mk_map_ok T rfl 15 rfl rfl rfl rfl rfl (f := encItem) (l := [(Item.mk x31.2.names x31.2.marks x31.2.late)]) rfl rfl (fun _ => rfl) rfl rfl rfl rfl rfl) ?_
 refine AO.step rfl (app_rv_map T rfl 16 rfl rfl rfl rfl rfl (by decide) rfl rfl rfl rfl (fun _ => rfl) (needT (hx38)) rfl rfl) ?_
 refine AO.pu T ?_
 refine AO.nil ?_
 refine AW.region ?_
 refine AO.pu T ?_
 refine AO.val rfl rfl (arw_ok rfl rfl rfl rfl) ?_
 refine AO.pu T ?_
 refine AO.nil ?_
 refine ⟨(k3, x35.1.code, x35.1.at', x35.1.seed, (v28 ++ [(Item.mk x31.2.names x31.2.marks x31.2.late)]), w64 (v29 - 1)), hH, Nat.lt_succ_self _, ?_⟩
 exact Le.ct 16 11 (hpin := ⟨⟨rfl, rfl⟩, trivial⟩)
 replace hH := condF hc hH
 refine AW.skip ?_
 refine AW.region ?_
 refine AO.pu T ?_
 refine AO.val rfl rfl (arw_ok rfl rfl rfl rfl) ?_
 refine AO.pu T ?_
 refine AO.nil ?_
 refine ⟨(k3, x35.1.code, x35.1.at', x35.1.seed, v28, w64 (v29 - 1)), hH, Nat.lt_succ_self _, ?_⟩
 exact Le.ct 0 0 (hpin := ⟨⟨rfl, rfl⟩, trivial⟩)
 replace hH := condF hc hH
 refine AW.exit ?_
 iterate 2 refine AW.seq ?_
 obtain ⟨x39, hx40, hH⟩ := bindE hH
 refine AW.region ?_
 refine AO.pu T ?_
 refine AO.step rfl (callM_ok rfl 17 rfl rfl (es := [.pw (encL1Cur (L1Cur.mk v25 v26 v27)), .v (.int .i64 24)]) (outs := [.pw (encL1Cur x39.1), .u]) (ids := [1]) (by exact expLG_cons (.c (.box rfl rfl)) (expLG_cons (.c .v) (expLG_nil))) (by decide) (.inl (by rfl)) (by rfl) (spec_l1Cur_one_ok _ _ _ (hx40)) rfl (by rfl) rfl) ?_
 refine AO.nil ?_
 refine AW.cond (b := x39.2) rfl (fun hc => ?_) (fun hc => ?_)
 replace hH := condT hc hH
 refine AW.seq ?_
 obtain ⟨x41, hx42, hH⟩ := bindE hH
 refine AW.region ?_
 refine AO.pu T ?_
 refine AO.step rfl (callM_ok rfl 17 rfl rfl (es := [.pw (encL1Cur (L1Cur.mk x39.1.code x39.1.at' x39.1.seed)), .v (.int .i64 2)]) (outs := [.pw (encL1Cur x41.1), .u]) (ids := [1]) (by exact expLG_cons (.c (.box rfl rfl)) (expLG_cons (.c .v) (expLG_nil))) (by decide) (.inl (by rfl)) (by rfl) (spec_l1Cur_pick_ok _ _ _ (hx42)) rfl (by rfl) rfl) ?_
 refine AO.val rfl rfl (arw_ok rfl rfl rfl rfl) ?_
 refine AO.pu T ?_
 refine AO.nil ?_
 refine AW.block ?_
 refine AW.loopS (fun s : Nat × (List Item) => (⟨[(3, .R 11), (6, w64 (14 + x41.2))], [(1, .box [.s (List.map encInt_u8 x41.1.code), x41.1.at', .v (.int .u64 x41.1.seed)]), (11, .row 3 (List.map encItem s.2))], 41, [(1, L 1)]⟩ : St)) (fun s => spec_l1Cur_anyItems_l2 x41 s.1 s.2 = some r) (fun s => s.1) (fuel, v28) hH ?_ ?_
 exact Le.ct 0 0 (hpin := ⟨⟨rfl, rfl⟩, trivial⟩)
 rintro ⟨k43, v49⟩ hH
 replace hH : spec_l1Cur_anyItems_l2 x41 k43 v49 = some r := hH
 try dsimp only
 rcases k43 with _ | k43
 cases (show none = some _ from hH)
 rw [spec_l1Cur_anyItems_l2] at hH
 iterate 2 refine AW.seq ?_
 refine AW.region ?_
 refine AO.pu T ?_
 refine AO.val rfl rfl (len_row_ok T rfl rfl rfl rfl) ?_
 iterate 2 refine AO.pu T ?_
 refine AO.nil ?_
 refine AW.cond (b := decide ((v49.length : Int) < (w64 (14 + x41.2)))) rfl (fun hc => ?_) (fun hc => ?_)
 replace hH := condT hc hH
 refine AW.skip ?_
 refine AW.block ?_
 obtain ⟨u51, hx52, hH⟩ := bindE hH
 refine AW.region ?_
 refine AO.pu T ?_
 refine AO.step rfl (mk_map_ok T rfl 25 rfl rfl rfl rfl rfl (f := encStr) (l := [(⟨#[49, 84]⟩ : ByteArray)]) rfl rfl (fun _ => rfl) rfl rfl rfl rfl rfl) ?_
 refine AO.step rfl (mk_map_ok T rfl 26 rfl rfl rfl rfl rfl (f := encInt) (l := ([0] : List Int)) rfl rfl (fun _ => rfl) rfl rfl rfl rfl rfl) ?_
 refine AO.pu T (d := .g [.R 25, .R 26, .v (.bool false)]) ?_
 refine AO.le (Le.freezeM 25 (g := encStr) rfl (fun y => .vs rfl)) ?_
 refine AO.le (Le.freezeM 26 (g := encInt) rfl (fun y => .vs rfl)) ?_
 refine AO.step rfl (mk_map_ok T rfl 27 rfl rfl rfl rfl rfl (f := encItem) (l := [(Item.mk [(⟨#[49, 84]⟩ : ByteArray)] ([0] : List Int) false)]) rfl rfl (fun _ => rfl) rfl rfl rfl rfl rfl) ?_
 refine AO.step rfl (app_rv_map T rfl 28 rfl rfl rfl rfl rfl (by decide) rfl rfl rfl rfl (fun _ => rfl) (needT (hx52)) rfl rfl) ?_
 refine AO.pu T ?_
 refine AO.nil ?_
 refine ⟨(k43, (v49 ++ [(Item.mk [(⟨#[49, 84]⟩ : ByteArray)] ([0] : List Int) false)])), hH, Nat.lt_succ_self _, ?_⟩
 exact Le.ct 28 11 (hpin := ⟨⟨rfl, rfl⟩, trivial⟩)
 replace hH := condF hc hH
 refine AW.exit ?_
 refine AW.seq (AW.region ?_)
 iterate 2 refine AO.pu T ?_
 refine AO.nil (AW.ret ?_)
 have hR := someE hH; subst hR
 exact ⟨trivial, rfl, _, [11], [1], rfl, expLG_cons (.c (.box rfl rfl)) (expLG_nil), .c (.c (.rowR rfl)), by decide⟩
 replace hH := condF hc hH
 refine AW.skip ?_
 refine AW.seq (AW.region ?_)
 iterate 2 refine AO.pu T ?_
 refine AO.nil (AW.ret ?_)
 have hR := someE hH; subst hR
 exact ⟨trivial, rfl, _, [11], [1], rfl, expLG_cons (.c (.box rfl rfl)) (expLG_nil), .c (.c (.rowR rfl)), by decide⟩

def spec_itList_l1 (l : List Item) (fuel : Nat) : List Item → Nat → Option Bool
  | [], k1 =>
    some (decide ((l.length : Int) ≤ 14))
  | y2 :: ys3, k1 =>
    (spec_itGood_p fuel y2).bind fun x12 =>
    cond (!x12)
      (some false)
      (spec_itList_l1 l fuel ys3 (k1 + 1))
def spec_itList_p (fuel : Nat) (l : List Item) : Option Bool :=
  spec_itList_l1 l fuel l 0
theorem spec_itList_ok (fuel : Nat) (l : List Item) (r : Bool) (hH : spec_itList_p fuel l = some r) : SpecR Tryz.prog 30 [.s (List.map encItem l)] (.v (.bool r)) := by
 refine fn_ok T Tryz.func30 rfl (by decide) rfl ?_
 refine AW.seq (AW.region ?_)
 refine AO.pu T ?_
 refine AO.nil ?_
 iterate 2 refine AW.seq ?_
 refine AW.region ?_
 refine AO.pu T ?_
 refine AO.val rfl rfl (len_map_ok T rfl rfl rfl) ?_
 refine AO.pu T ?_
 refine AO.nil ?_
 refine AW.block ?_
 refine AW.loopS (fun s : Nat => (⟨[(0, .s (List.map encItem l)), (5, .s (List.map encItem l)), (6, (l.length : Int)), (7, (s : Int))], [], 18, []⟩ : St)) (fun s => s ≤ l.length ∧ spec_itList_l1 l fuel (l.drop s) s = some r) (fun s => l.length - s) 0 ⟨Nat.zero_le _, hH⟩ ?_ ?_
 exact Le.ct 0 0
 rintro k1 ⟨hk, hH⟩
 replace hH : spec_itList_l1 l fuel (l.drop k1) k1 = some r := hH
 try dsimp only
 refine AW.boundM (t := 0) (l := l) rfl (fun hb5 => ?_)
 rcases hd4 : l.drop k1 with _ | ⟨y2, ys3⟩
 rw [hd4, spec_itList_l1] at hH
 have hlt6 := drop_ge hd4
 refine AW.seq (AW.region ?_)
 refine AO.pu T ?_
 refine AO.nil (AW.seq ?_)
 refine AW.condF' (b := decide ((k1 : Int) < (l.length : Int))) rfl (rngF hlt6) ?_
 refine AW.exit ?_
 refine AW.seq (AW.region ?_)
 refine AO.pu T ?_
 refine AO.val rfl rfl (len_map_ok T rfl rfl rfl) ?_
 iterate 2 refine AO.pu T ?_
 refine AO.nil (AW.ret ?_)
 have hR := someE hH; subst hR
 exact retQ.i [] rfl (.c (.c .v))
 rw [hd4, spec_itList_l1] at hH
 have hlt6 := drop_lt hd4
 refine AW.seq (AW.region ?_)
 refine AO.pu T ?_
 refine AO.nil (AW.seq ?_)
 refine AW.condT' (b := decide ((k1 : Int) < (l.length : Int))) rfl (rngT hlt6) ?_
 refine AW.skip ?_
 refine AW.seq ?_
 refine AW.block ?_
 refine AW.seq (AW.region ?_)
 refine AO.val rfl rfl (ix_map_ok T rfl rfl rfl rfl rfl (getI_drop hd4) rfl) ?_
 refine AO.pu T (d := .g [.s (List.map encStr y2.names), .s (List.map encInt y2.marks), .v (.bool y2.late)]) ?_
 refine AO.step rfl (alloc_ok T rfl 3 rfl rfl rfl rfl rfl) ?_
 refine AO.se T [.s (List.map encStr y2.names), .s (List.map encInt y2.marks), .v (.bool y2.late)] ?_
 refine AO.nil (AW.seq ?_)
 obtain ⟨x12, hx13, hH⟩ := bindE hH
 refine AW.region ?_
 refine AO.pu T (d := .g [.s (List.map encStr y2.names), .s (List.map encInt y2.marks), .v (.bool y2.late)]) ?_
 refine AO.val rfl rfl (callV_ok rfl rfl rfl rfl (spec_itGood_ok fuel _ _ (hx13)) rfl) ?_
 refine AO.pu T ?_
 refine AO.nil ?_
 refine AW.cond (b := (!x12)) rfl (fun hc => ?_) (fun hc => ?_)
 replace hH := condT hc hH
 refine AW.seq (AW.region ?_)
 refine AO.pu T ?_
 refine AO.nil (AW.ret ?_)
 have hR := someE hH; subst hR
 exact retQ.i [] rfl (.c (.c .v))
 replace hH := condF hc hH
 refine AW.skip ?_
 refine AW.region ?_
 refine AO.val rfl rfl (ar_ok rfl rfl rfl rfl (inI_succ hlt6 hb5)) ?_
 refine AO.pu T ?_
 refine AO.nil ?_
 refine ⟨k1 + 1, ⟨Nat.succ_le_of_lt hlt6, (by rw [drop_succ_of hd4]; exact hH)⟩, (by have := hlt6; dsimp only; omega), ?_⟩
 exact Le.ct 0 0

def spec_l1OwnS_p (l : List ByteArray) : Option (List ByteArray) :=
  (need (fitsB 16 l.length)).bind fun u1 =>
  some l
theorem spec_l1OwnS_ok (l : List ByteArray) (r : (List ByteArray)) (hH : spec_l1OwnS_p l = some r) : SpecR Tryz.prog 97 [.s (List.map encStr l)] (.w 1 (r.map encStr)) := by
 refine fn_ok T Tryz.func97 rfl (by decide) rfl ?_
 refine AW.seq (AW.region ?_)
 refine AO.pu T ?_
 refine AO.nil (AW.seq ?_)
 obtain ⟨u1, hx2, hH⟩ := bindE hH
 refine AW.region ?_
 refine AO.step rfl (mk0_ok T rfl rfl rfl rfl) ?_
 refine AO.pu T ?_
 refine AO.step rfl (app_ws_map T rfl 1 rfl rfl rfl rfl rfl (by decide) (by decide) rfl rfl (fun _ => rfl) (needT (hx2)) rfl rfl) ?_
 refine AO.pu T ?_
 refine AO.nil (AW.ret ?_)
 have hR := someE hH; subst hR
 exact retQ.i [1] rfl (.c (.c (.rowR rfl)))

def spec_l1Own_p (l : List Int) : Option (List Int) :=
  (need (fitsB 8 l.length)).bind fun u1 =>
  some l
theorem spec_l1Own_ok (l : List Int) (r : (List Int)) (hH : spec_l1Own_p l = some r) : SpecR Tryz.prog 98 [.s (List.map encInt l)] (.w 1 (r.map encInt)) := by
 refine fn_ok T Tryz.func98 rfl (by decide) rfl ?_
 refine AW.seq (AW.region ?_)
 refine AO.pu T ?_
 refine AO.nil (AW.seq ?_)
 obtain ⟨u1, hx2, hH⟩ := bindE hH
 refine AW.region ?_
 refine AO.step rfl (mk0_ok T rfl rfl rfl rfl) ?_
 refine AO.pu T ?_
 refine AO.step rfl (app_ws_map T rfl 1 rfl rfl rfl rfl rfl (by decide) (by decide) rfl rfl (fun _ => rfl) (needT (hx2)) rfl rfl) ?_
 refine AO.pu T ?_
 refine AO.nil (AW.ret ?_)
 have hR := someE hH; subst hR
 exact retQ.i [1] rfl (.c (.c (.rowR rfl)))

def spec_itOwn_l1 : List Item → Nat → List Item → Option ((List Item))
  | [], k1, v20 =>
    some v20
  | y2 :: ys3, k1, v20 =>
    (spec_l1OwnS_p y2.names).bind fun x22 =>
    (spec_l1Own_p y2.marks).bind fun x24 =>
    (need (fitsB 56 (v20.length + ([(Item.mk x22 x24 y2.late)]).length))).bind fun u26 =>
    spec_itOwn_l1 ys3 (k1 + 1) (v20 ++ [(Item.mk x22 x24 y2.late)])
def spec_itOwn_p (l : List Item) : Option (List Item) :=
  spec_itOwn_l1 l 0 []
theorem spec_itOwn_ok (l : List Item) (r : (List Item)) (hH : spec_itOwn_p l = some r) : SpecR Tryz.prog 82 [.s (List.map encItem l)] (.w 3 (r.map encItemO)) := by
 refine fn_ok T Tryz.func82 rfl (by decide) rfl ?_
 refine AW.seq (AW.region ?_)
 refine AO.pu T ?_
 refine AO.nil (AW.seq ?_)
 refine AW.region ?_
 refine AO.pu T ?_
 refine AO.nil ?_
 iterate 2 refine AW.seq ?_
 refine AW.region ?_
 refine AO.pu T ?_
 refine AO.val rfl rfl (len_map_ok T rfl rfl rfl) ?_
 refine AO.pu T ?_
 refine AO.nil ?_
 refine AW.block ?_
 refine AW.loopS (fun s : Nat × (List Item) => (⟨[(3, .R 10), (6, .s (List.map encItem l)), (7, (l.length : Int)), (8, (s.1 : Int))], [(10, .row 3 (List.map encItemO s.2))], 26, []⟩ : St)) (fun s => s.1 ≤ l.length ∧ spec_itOwn_l1 (l.drop s.1) s.1 s.2 = some r) (fun s => l.length - s.1) (0, []) ⟨Nat.zero_le _, hH⟩ ?_ ?_
 refine Le.trans (Le.void 3 10 3 rfl rfl) ?_
 exact Le.ct 0 0
 rintro ⟨k1, v20⟩ ⟨hk, hH⟩
 replace hH : spec_itOwn_l1 (l.drop k1) k1 v20 = some r := hH
 try dsimp only
 refine AW.boundM (t := 6) (l := l) rfl (fun hb5 => ?_)
 rcases hd4 : l.drop k1 with _ | ⟨y2, ys3⟩
 rw [hd4, spec_itOwn_l1] at hH
 have hlt6 := drop_ge hd4
 refine AW.seq (AW.region ?_)
 refine AO.pu T ?_
 refine AO.nil (AW.seq ?_)
 refine AW.condF' (b := decide ((k1 : Int) < (l.length : Int))) rfl (rngF hlt6) ?_
 refine AW.exit ?_
 refine AW.seq (AW.region ?_)
 iterate 2 refine AO.pu T ?_
 refine AO.nil (AW.ret ?_)
 have hR := someE hH; subst hR
 exact retQ.i [10] rfl (.c (.c (.rowR rfl)))
 rw [hd4, spec_itOwn_l1] at hH
 have hlt6 := drop_lt hd4
 refine AW.seq (AW.region ?_)
 refine AO.pu T ?_
 refine AO.nil (AW.seq ?_)
 refine AW.condT' (b := decide ((k1 : Int) < (l.length : Int))) rfl (rngT hlt6) ?_
 refine AW.skip ?_
 refine AW.seq ?_
 refine AW.block ?_
 refine AW.seq (AW.region ?_)
 refine AO.val rfl rfl (ix_map_ok T rfl rfl rfl rfl rfl (getI_drop hd4) rfl) ?_
 refine AO.pu T (d := .g [.s (List.map encStr y2.names), .s (List.map encInt y2.marks), .v (.bool y2.late)]) ?_
 refine AO.step rfl (alloc_ok T rfl 11 rfl rfl rfl rfl rfl) ?_
 refine AO.se T [.s (List.map encStr y2.names), .s (List.map encInt y2.marks), .v (.bool y2.late)] ?_
 refine AO.nil ?_
 obtain ⟨x22, hx23, hH⟩ := bindE hH
 obtain ⟨x24, hx25, hH⟩ := bindE hH
 obtain ⟨u26, hx27, hH⟩ := bindE hH
 refine AW.drawn 11 12 [] mix (by kernel_rfl) rfl ?_
 iterate 3 refine AD.pure T rfl rfl rfl ?_
 refine AD.q (FStep.call rfl rfl rfl rfl rfl (spec_l1OwnS_ok _ _ (hx23)) rfl rfl) (impT_names _ _) (impT_le _ _) rfl ?_
 iterate 2 refine AD.pure T rfl rfl rfl ?_
 refine AD.q (FStep.call rfl rfl rfl rfl rfl (spec_l1Own_ok _ _ (hx25)) rfl rfl) (impT_names _ _) (impT_le _ _) rfl ?_
 iterate 2 refine AD.pure T rfl rfl rfl ?_
 refine AD.pured T (d := .g [.R 12, .R 13, .v (.bool y2.late)]) rfl rfl rfl rfl ?_
 refine AD.k rfl rfl (FStep.mk_o T rfl rfl rfl rfl rfl rfl rfl rfl (f := encItemO) (l := [(Item.mk x22 x24 y2.late)]) (ids := [12, 13]) rfl rfl (fun _ => rfl) (by exact expLC_cons (.rowR rfl) (expLC_cons (.rowR rfl) (expLC_cons .v (expLC_nil)))) (by decide) rfl rfl rfl rfl) rfl rfl rfl ?_
 refine AD.nil ?_
 refine AO.step rfl (app_rr_map T rfl 15 rfl rfl rfl rfl rfl (by decide) rfl rfl rfl rfl rfl (needT (hx27)) rfl rfl) ?_
 refine AO.pu T ?_
 refine AO.nil ?_
 refine AW.region ?_
 refine AO.val rfl rfl (ar_ok rfl rfl rfl rfl (inI_succ hlt6 hb5)) ?_
 refine AO.pu T ?_
 refine AO.nil ?_
 refine ⟨(k1 + 1, (v20 ++ [(Item.mk x22 x24 y2.late)])), ⟨Nat.succ_le_of_lt hlt6, (by rw [drop_succ_of hd4]; exact hH)⟩, (by have := hlt6; dsimp only; omega), ?_⟩
 exact Le.ct 15 10

def spec_hiStart_l1 (x1 : (List Item)) : List Item → Nat → List (List Bool) → Option HiState
  | [], k3, v18 =>
    some (HiState.mk x1 v18)
  | y4 :: ys5, k3, v18 =>
    (need (decide (0 ≤ (y4.names.length : Int)) && fitsB 1 (y4.names.length : Int).toNat)).bind fun u20 =>
    (need (fitsB 24 (v18.length + ([(List.replicate (y4.names.length : Int).toNat false)]).length))).bind fun u22 =>
    spec_hiStart_l1 x1 ys5 (k3 + 1) (v18 ++ [(List.replicate (y4.names.length : Int).toNat false)])
def spec_hiStart_p (l : List Item) : Option HiState :=
  (spec_itOwn_p l).bind fun x1 =>
  spec_hiStart_l1 x1 l 0 []
theorem spec_hiStart_ok (l : List Item) (r : HiState) (hH : spec_hiStart_p l = some r) : SpecR Tryz.prog 63 [.s (List.map encItem l)] (.pn (encHiStateO r)) := by
 refine fn_ok T Tryz.func63 rfl (by decide) rfl ?_
 refine AW.seq (AW.region ?_)
 refine AO.pu T ?_
 refine AO.nil (AW.seq ?_)
 obtain ⟨x1, hx2, hH⟩ := bindE hH
 refine AW.region ?_
 refine AO.pu T ?_
 refine AO.step rfl (call_ok rfl 1 rfl rfl rfl (spec_itOwn_ok _ _ (hx2)) rfl rfl rfl) ?_
 refine AO.pu T (d := .g [.R 1, .w 0 []]) ?_
 refine AO.step rfl (box_ok T rfl 2 rfl rfl rfl rfl) ?_
 refine AO.pu T ?_
 refine AO.nil ?_
 iterate 2 refine AW.seq ?_
 refine AW.region ?_
 refine AO.pu T ?_
 refine AO.val rfl rfl (len_map_ok T rfl rfl rfl) ?_
 refine AO.pu T ?_
 refine AO.nil ?_
 refine AW.block ?_
 refine AW.loopS (fun s : Nat × (List (List Bool)) => (⟨[(3, .p 2 0), (10, .s (List.map encItem l)), (11, (l.length : Int)), (12, (s.1 : Int))], [(1, .row 3 (List.map encItemO x1)), (2, .box [.R 1, .R 10]), (10, .row 1 (List.map encLBoolO s.2))], 31, []⟩ : St)) (fun s => s.1 ≤ l.length ∧ spec_hiStart_l1 x1 (l.drop s.1) s.1 s.2 = some r) (fun s => l.length - s.1) (0, []) ⟨Nat.zero_le _, hH⟩ ?_ ?_
 refine Le.trans (Le.voidBox 2 1 10 1 rfl rfl rfl rfl) ?_
 exact Le.ct 0 0
 rintro ⟨k3, v18⟩ ⟨hk, hH⟩
 replace hH : spec_hiStart_l1 x1 (l.drop k3) k3 v18 = some r := hH
 try dsimp only
 refine AW.boundM (t := 10) (l := l) rfl (fun hb7 => ?_)
 rcases hd6 : l.drop k3 with _ | ⟨y4, ys5⟩
 rw [hd6, spec_hiStart_l1] at hH
 have hlt8 := drop_ge hd6
 refine AW.seq (AW.region ?_)
 refine AO.pu T ?_
 refine AO.nil (AW.seq ?_)
 refine AW.condF' (b := decide ((k3 : Int) < (l.length : Int))) rfl (rngF hlt8) ?_
 refine AW.exit ?_
 refine AW.seq (AW.region ?_)
 iterate 2 refine AO.pu T ?_
 refine AO.nil (AW.ret ?_)
 have hR := someE hH; subst hR
 exact retQ.i [2, 1, 10] rfl (.c (.pb rfl (expLC_cons (.rowR rfl) (expLC_cons (.rowR rfl) (expLC_nil)))))
 rw [hd6, spec_hiStart_l1] at hH
 have hlt8 := drop_lt hd6
 refine AW.seq (AW.region ?_)
 refine AO.pu T ?_
 refine AO.nil (AW.seq ?_)
 refine AW.condT' (b := decide ((k3 : Int) < (l.length : Int))) rfl (rngT hlt8) ?_
 refine AW.skip ?_
 refine AW.seq ?_
 refine AW.block ?_
 refine AW.seq (AW.region ?_)
 refine AO.val rfl rfl (ix_map_ok T rfl rfl rfl rfl rfl (getI_drop hd6) rfl) ?_
 refine AO.pu T (d := .g [.s (List.map encStr y4.names), .s (List.map encInt y4.marks), .v (.bool y4.late)]) ?_
 refine AO.step rfl (alloc_ok T rfl 11 rfl rfl rfl rfl rfl) ?_
 refine AO.se T [.s (List.map encStr y4.names), .s (List.map encInt y4.marks), .v (.bool y4.late)] ?_
 refine AO.nil ?_
 obtain ⟨u20, hx21, hH⟩ := bindE hH
 obtain ⟨u22, hx23, hH⟩ := bindE hH
 refine AW.drawn 11 12 [10] mix (by kernel_rfl) rfl ?_
 iterate 7 refine AD.pure T rfl rfl rfl ?_
 refine AD.val rfl rfl (len_map_ok T rfl rfl rfl) ?_
 refine AD.q (FStep.make T rfl rfl rfl rfl rfl rfl rfl (f := encBool) (zo := false) (by repeat constructor) (by decide) rfl rfl (Bool.and_eq_true_iff.1 (needT (hx21))).1 (Bool.and_eq_true_iff.1 (needT (hx21))).2 rfl) (by simp [namesIn]) (Nat.le_succ _) rfl ?_
 refine AD.k rfl rfl (FStep.mk_o T rfl rfl rfl rfl rfl rfl rfl rfl (f := encLBoolO) (l := [(List.replicate (y4.names.length : Int).toNat false)]) (ids := [12]) rfl rfl (fun _ => rfl) (by exact expLC_cons (.rowR rfl) (expLC_nil)) (by decide) rfl rfl rfl rfl) rfl rfl rfl ?_
 refine AD.k rfl rfl (FStep.app_rr T rfl rfl rfl rfl rfl rfl rfl (by decide) rfl rfl rfl rfl rfl (needT (hx23)) rfl) rfl rfl rfl ?_
 refine AD.nil ?_
 iterate 2 refine AO.pu T ?_
 refine AO.se T [.R 1, .R 14] ?_
 refine AO.nil ?_
 refine AW.region ?_
 refine AO.val rfl rfl (ar_ok rfl rfl rfl rfl (inI_succ hlt8 hb7)) ?_
 refine AO.pu T ?_
 refine AO.nil ?_
 refine ⟨(k3 + 1, (v18 ++ [(List.replicate (y4.names.length : Int).toNat false)])), ⟨Nat.succ_le_of_lt hlt8, (by rw [drop_succ_of hd6]; exact hH)⟩, (by have := hlt8; dsimp only; omega), ?_⟩
 exact Le.ct 14 10

def spec_hiName_p (l : List Item) (item : Int) (name : Int) : Option Bool :=
  (spec_l1In_p item 0 (w64 ((l.length : Int) - 1))).bind fun x1 =>
  (opt x1 default (getI l item)).bind fun x3 =>
  (opt x1 default (spec_l1In_p name 0 (w64 ((x3.names.length : Int) - 1)))).bind fun x5 =>
  some (x1 && x5)
theorem spec_hiName_ok (l : List Item) (item : Int) (name : Int) (r : Bool) (hH : spec_hiName_p l item name = some r) : SpecR Tryz.prog 83 [.s (List.map encItem l), item, name] (.v (.bool r)) := by
 refine fn_ok T Tryz.func83 rfl (by decide) rfl ?_
 refine AW.seq (AW.region ?_)
 refine AO.pu T ?_
 refine AO.nil (AW.seq ?_)
 obtain ⟨x1, hx2, hH⟩ := bindE hH
 obtain ⟨x3, hx4, hH⟩ := bindE hH
 obtain ⟨x5, hx6, hH⟩ := bindE hH
 refine AW.region ?_
 iterate 2 refine AO.pu T ?_
 refine AO.val rfl rfl (len_map_ok T rfl rfl rfl) ?_
 refine AO.val rfl rfl (arw_ok rfl rfl rfl rfl) ?_
 refine AO.val rfl rfl (callV_ok rfl rfl rfl rfl (spec_l1In_ok _ _ _ _ (hx2)) rfl) ?_
 refine AO.pu T ?_
 iterate 3 refine AO.pureG T [] rfl trivial rfl rfl ?_
 refine AO.guard [14, 15] rfl ⟨fun h => h, fun h => h, trivial⟩ (fun hg => ix_map_ok T rfl rfl rfl rfl rfl (optT hx4 hg) rfl) rfl ?_
 refine AO.pureG T [16] rfl ⟨fun h => h, trivial⟩ rfl rfl ?_
 refine AO.pureG T [17] rfl ⟨fun h => h, trivial⟩ rfl rfl ?_
 refine AO.guard [18] rfl ⟨fun h => h, trivial⟩ (fun hg => len_map_ok T rfl rfl rfl) rfl ?_
 refine AO.guard [19] rfl ⟨fun h => h, trivial⟩ (fun hg => arw_ok rfl rfl rfl rfl) rfl ?_
 refine AO.guard [13, 20] rfl ⟨fun h => h, fun h => h, trivial⟩ (fun hg => callV_ok rfl rfl rfl rfl (spec_l1In_ok _ _ _ _ (optT hx6 hg)) rfl) rfl ?_
 refine AO.val rfl rfl (pick_and rfl rfl rfl rfl) ?_
 refine AO.pu T ?_
 refine AO.nil (AW.ret ?_)
 have hR := someE hH; subst hR
 exact retQ.i [] rfl (.c (.c .v))

def spec_hiState_change_p (x : HiState) (c : Change) : Option (HiState × Bool) :=
  (spec_hiName_p x.items c.item c.name).bind fun x1 =>
  (opt (!(!x1)) default (spec_l1In_p c.tick 0 100000)).bind fun x3 =>
  (opt (!((!x1) || (!x3))) default (spec_l1In_p c.caller 1 9)).bind fun x5 =>
  (opt (!(((!x1) || (!x3)) || (!x5))) default (spec_l1In_p c.mark 0 3)).bind fun x7 =>
  cond ((((!x1) || (!x3)) || (!x5)) || (!x7))
    (some (x, false))
    ((getI x.items c.item).bind fun x9 =>
    (getI x.open' c.item).bind fun x11 =>
    cond c.review
      ((getI x11 c.name).bind fun x13 =>
      (opt (!x13) default (getI x9.marks c.name)).bind fun x15 =>
      cond (x13 || (x15 != c.mark))
        (some ((HiState.mk (x.items.set c.item.toNat x9) (x.open'.set c.item.toNat x11)), false))
        (some ((HiState.mk (x.items.set c.item.toNat x9) (x.open'.set c.item.toNat (x11.set c.name.toNat true))), true)))
      ((getI x11 c.name).bind fun x17 =>
      (getI x9.marks c.name).bind fun x19 =>
      some ((HiState.mk (x.items.set c.item.toNat (Item.mk x9.names (x9.marks.set c.name.toNat c.mark) x9.late)) (x.open'.set c.item.toNat (x11.set c.name.toNat false))), true)))
theorem spec_hiState_change_ok (x : HiState) (c : Change) (r : (HiState × Bool)) (hH : spec_hiState_change_p x c = some r) : SpecM Tryz.prog 64 [.pn (encHiStateO x), .g (encChange c)] [.pn (encHiStateO r.1), .u] (.v (.bool r.2)) := by
 refine fn_okM T Tryz.func64 rfl (by decide) rfl rfl ?_
 intro L
 show AW _ _ _ (⟨[(0, .p 1 0), (1, .g [c.tick, c.caller, c.item, c.name, c.mark, .v (.bool c.review)])], [(1, .box [.R 2, .R 3]), (3, .row 1 (List.map encLBoolO x.open')), (2, .row 3 (List.map encItemO x.items))], 83, [(1, L 1), (3, L 3), (2, L 2)]⟩ : St)
 refine AW.seq (AW.region ?_)
 refine AO.step rfl (box_ok T rfl 4 rfl rfl rfl rfl) ?_
 refine AO.pu T ?_
 refine AO.nil ?_
 iterate 2 refine AW.seq ?_
 obtain ⟨x1, hx2, hH⟩ := bindE hH
 obtain ⟨x3, hx4, hH⟩ := bindE hH
 obtain ⟨x5, hx6, hH⟩ := bindE hH
 obtain ⟨x7, hx8, hH⟩ := bindE hH
 refine AW.drawn 8 5 [] mix (by kernel_rfl) rfl ?_
 iterate 8 refine AD.pure T rfl rfl rfl ?_
 refine AD.nil ?_
 refine AO.val rfl rfl (callLV_ok rfl rfl rfl (es := [.s (List.map encItem x.items), c.item, c.name]) ⟨(.rowR rfl (.map fun y => frzItem y)), .free rfl, .free rfl, trivial⟩ (spec_hiName_ok _ _ _ _ (hx2)) (zfree_v _) rfl) ?_
 iterate 2 refine AO.pu T ?_
 refine AO.pureG T [] rfl trivial rfl rfl ?_
 refine AO.pureG T [18] rfl ⟨fun h => h, trivial⟩ rfl rfl ?_
 refine AO.guard [19] rfl ⟨fun h => h, trivial⟩ (fun hg => callV_ok rfl rfl rfl rfl (spec_l1In_ok _ _ _ _ (optT hx4 hg)) rfl) rfl ?_
 refine AO.pureG T [20] rfl ⟨fun h => h, trivial⟩ rfl rfl ?_
 refine AO.val rfl rfl (pick_or rfl rfl rfl rfl) ?_
 refine AO.pu T ?_
 refine AO.pureG T [] rfl trivial rfl rfl ?_
 refine AO.pureG T [24] rfl ⟨fun h => h, trivial⟩ rfl rfl ?_
 refine AO.guard [25] rfl ⟨fun h => h, trivial⟩ (fun hg => callV_ok rfl rfl rfl rfl (spec_l1In_ok _ _ _ _ (optT hx6 hg)) rfl) rfl ?_
 refine AO.pureG T [26] rfl ⟨fun h => h, trivial⟩ rfl rfl ?_
 refine AO.val rfl rfl (pick_or rfl rfl rfl rfl) ?_
 refine AO.pu T ?_
 refine AO.pureG T [] rfl trivial rfl rfl ?_
 refine AO.pureG T [30] rfl ⟨fun h => h, trivial⟩ rfl rfl ?_
 refine AO.guard [31] rfl ⟨fun h => h, trivial⟩ (fun hg => callV_ok rfl rfl rfl rfl (spec_l1In_ok _ _ _ _ (optT hx8 hg)) rfl) rfl ?_
 refine AO.pureG T [32] rfl ⟨fun h => h, trivial⟩ rfl rfl ?_
 refine AO.val rfl rfl (pick_or rfl rfl rfl rfl) ?_
 refine AO.nil ?_
 refine AW.le (Le.ct 0 0 (σ' := (⟨[(0, .p 1 0), (3, .p 4 0), (34, .v (.bool ((((!x1) || (!x3)) || (!x5)) || (!x7))))], [(1, .box [.R 2, .R 3]), (2, .row 3 (List.map encItemO x.items)), (3, .row 1 (List.map encLBoolO x.open')), (4, .box [c.tick, c.caller, c.item, c.name, c.mark, .v (.bool c.review)])], 83, [(1, L 1), (3, L 3), (2, L 2)]⟩ : St)) (hpin := ⟨⟨rfl, rfl⟩, ⟨rfl, rfl⟩, ⟨rfl, rfl⟩, trivial⟩)) ?_
 refine AW.cond (b := ((((!x1) || (!x3)) || (!x5)) || (!x7))) rfl (fun hc => ?_) (fun hc => ?_)
 replace hH := condT hc hH
 refine AW.seq (AW.region ?_)
 refine AO.pu T ?_
 refine AO.nil (AW.ret ?_)
 have hR := someE hH; subst hR
 exact ⟨trivial, rfl, _, [], [1, 2, 3], rfl, expLG_cons (.pb rfl (expLC_cons (.rowR rfl) (expLC_cons (.rowR rfl) (expLC_nil)))) (expLG_cons (.c .u) (expLG_nil)), .c (.c .v), by decide⟩
 replace hH := condF hc hH
 refine AW.skip ?_
 refine AW.seq ?_
 obtain ⟨x9, hx10, hH⟩ := bindE hH
 obtain ⟨x11, hx12, hH⟩ := bindE hH
 refine AW.le (Le.openM 2 c.item.toNat 1 5 rfl (getI_get (hx10)) rfl rfl) ?_
 refine AW.le (Le.openM 3 c.item.toNat 0 6 rfl (getI_get (hx12)) rfl rfl) ?_
 refine AW.drawn 18 7 [] mix (by kernel_rfl) rfl ?_
 iterate 6 refine AD.pure T rfl rfl rfl ?_
 refine AD.val rfl rfl (ix_lent_ok T rfl rfl rfl rfl rfl rfl (hx10)) ?_
 refine AD.pure T rfl rfl rfl ?_
 refine AD.val rfl rfl (load_lent_ok T rfl rfl rfl rfl rfl) ?_
 iterate 6 refine AD.pure T rfl rfl rfl ?_
 refine AD.val rfl rfl (ix_lent_ok T rfl rfl rfl rfl rfl rfl (hx12)) ?_
 refine AD.val rfl rfl (load_lent_ok T rfl rfl rfl rfl rfl) ?_
 refine AD.pure T rfl rfl rfl ?_
 refine AD.nil ?_
 refine AO.pu T ?_
 refine AO.nil ?_
 iterate 2 refine AW.seq ?_
 refine AW.region ?_
 iterate 2 refine AO.pu T ?_
 refine AO.nil ?_
 refine AW.cond (b := c.review) rfl (fun hc => ?_) (fun hc => ?_)
 replace hH := condT hc hH
 iterate 2 refine AW.seq ?_
 obtain ⟨x13, hx14, hH⟩ := bindE hH
 obtain ⟨x15, hx16, hH⟩ := bindE hH
 refine AW.drawn 13 7 [] mix (by kernel_rfl) rfl ?_
 iterate 3 refine AD.pure T rfl rfl rfl ?_
 refine AD.val rfl rfl (ix_row_ok T rfl rfl rfl rfl rfl rfl (hx14)) ?_
 refine AD.val rfl rfl (load_row_ok T rfl rfl rfl rfl (getI_get (hx14)) rfl rfl rfl) ?_
 refine AD.pure T rfl rfl rfl ?_
 iterate 2 refine AD.pureG T [] rfl trivial rfl rfl ?_
 refine AD.pureG T [61] rfl ⟨fun h => h, trivial⟩ rfl rfl ?_
 refine AD.guard [60, 62] rfl ⟨fun h => h, fun h => h, trivial⟩ (fun hg => ix_row_ok T rfl rfl rfl rfl rfl rfl (optT hx16 hg)) rfl ?_
 refine AD.guard [63] rfl ⟨fun h => h, trivial⟩ (fun hg => load_row_ok T rfl rfl rfl rfl (getI_get (optT hx16 hg)) rfl rfl rfl) rfl ?_
 refine AD.pureG T [] rfl trivial rfl rfl ?_
 refine AD.pureG T [65] rfl ⟨fun h => h, trivial⟩ rfl rfl ?_
 refine AD.nil ?_
 refine AO.pureG T [64, 66] rfl ⟨fun h => h, fun h => h, trivial⟩ rfl rfl ?_
 refine AO.val rfl rfl (pick_or rfl rfl rfl rfl) ?_
 refine AO.le (Le.closeM 2 c.item.toNat 1 5 rfl rfl (getI_get (hx10)) rfl (u' := x9) rfl) ?_
 refine AO.nil ?_
 refine AW.cond (b := (x13 || (x15 != c.mark))) rfl (fun hc => ?_) (fun hc => ?_)
 replace hH := condT hc hH
 refine AW.seq (AW.region ?_)
 refine AO.pu T ?_
 refine AO.le (Le.closeM 3 c.item.toNat 0 6 rfl rfl (getI_get (hx12)) rfl (u' := x11) rfl) ?_
 refine AO.nil ?_
 refine AW.le (Le.ct 0 0 (σ' := (⟨[(4, .v (.bool false))], [(1, .box [.R 2, .R 3]), (2, .row 3 (List.map encItemO (x.items.set c.item.toNat x9))), (3, .row 1 (List.map encLBoolO (x.open'.set c.item.toNat x11)))], 83, [(1, L 1), (3, L 3), (2, L 2)]⟩ : St)) (hpin := ⟨⟨rfl, rfl⟩, ⟨rfl, rfl⟩, ⟨rfl, rfl⟩, trivial⟩)) ?_
 refine AW.ret ?_
 have hR := someE hH; subst hR
 exact ⟨trivial, rfl, _, [], [1, 2, 3], rfl, expLG_cons (.pb rfl (expLC_cons (.rowR rfl) (expLC_cons (.rowR rfl) (expLC_nil)))) (expLG_cons (.c .u) (expLG_nil)), .c (.c .v), by decide⟩
 replace hH := condF hc hH
 refine AW.skip ?_
 refine AW.seq (AW.region ?_)
 iterate 3 refine AO.pu T ?_
 refine AO.val rfl rfl (ix_row_ok T rfl rfl rfl rfl rfl rfl (hx14)) ?_
 refine AO.step rfl (store_row_ok T rfl rfl rfl rfl rfl (getI_get (hx14)) rfl rfl rfl rfl (u' := true) rfl rfl) ?_
 refine AO.le (Le.closeM 3 c.item.toNat 0 6 rfl rfl (getI_get (hx12)) rfl (u' := (x11.set c.name.toNat true)) rfl) ?_
 refine AO.nil ?_
 refine AW.le (Le.ct 0 0 (σ' := (⟨[], [(1, .box [.R 2, .R 3]), (2, .row 3 (List.map encItemO (x.items.set c.item.toNat x9))), (3, .row 1 (List.map encLBoolO (x.open'.set c.item.toNat (x11.set c.name.toNat true))))], 83, [(1, L 1), (3, L 3), (2, L 2)]⟩ : St)) (hpin := ⟨⟨rfl, rfl⟩, ⟨rfl, rfl⟩, ⟨rfl, rfl⟩, trivial⟩)) ?_
 refine AW.seq (AW.region ?_)
 refine AO.pu T ?_
 refine AO.nil (AW.ret ?_)
 have hR := someE hH; subst hR
 exact ⟨trivial, rfl, _, [], [1, 2, 3], rfl, expLG_cons (.pb rfl (expLC_cons (.rowR rfl) (expLC_cons (.rowR rfl) (expLC_nil)))) (expLG_cons (.c .u) (expLG_nil)), .c (.c .v), by decide⟩
 replace hH := condF hc hH
 refine AW.skip ?_
 refine AW.seq ?_
 obtain ⟨x17, hx18, hH⟩ := bindE hH
 refine AW.region ?_
 iterate 3 refine AO.pu T ?_
 refine AO.val rfl rfl (ix_row_ok T rfl rfl rfl rfl rfl rfl (hx18)) ?_
 refine AO.step rfl (store_row_ok T rfl rfl rfl rfl rfl (getI_get (hx18)) rfl rfl rfl rfl (u' := false) rfl rfl) ?_
 refine AO.le (Le.closeM 3 c.item.toNat 0 6 rfl rfl (getI_get (hx12)) rfl (u' := (x11.set c.name.toNat false)) rfl) ?_
 refine AO.nil (AW.seq ?_)
 obtain ⟨x19, hx20, hH⟩ := bindE hH
 refine AW.region ?_
 iterate 5 refine AO.pu T ?_
 refine AO.val rfl rfl (ix_row_ok T rfl rfl rfl rfl rfl rfl (hx20)) ?_
 refine AO.step rfl (store_row_ok T rfl rfl rfl rfl rfl (getI_get (hx20)) rfl rfl rfl rfl (u' := c.mark) rfl rfl) ?_
 refine AO.le (Le.closeM 2 c.item.toNat 1 5 rfl rfl (getI_get (hx10)) rfl (u' := (Item.mk x9.names (x9.marks.set c.name.toNat c.mark) x9.late)) rfl) ?_
 refine AO.nil ?_
 refine AW.le (Le.ct 0 0 (σ' := (⟨[], [(1, .box [.R 2, .R 3]), (2, .row 3 (List.map encItemO (x.items.set c.item.toNat (Item.mk x9.names (x9.marks.set c.name.toNat c.mark) x9.late)))), (3, .row 1 (List.map encLBoolO (x.open'.set c.item.toNat (x11.set c.name.toNat false))))], 83, [(1, L 1), (3, L 3), (2, L 2)]⟩ : St)) (hpin := ⟨⟨rfl, rfl⟩, ⟨rfl, rfl⟩, ⟨rfl, rfl⟩, trivial⟩)) ?_
 refine AW.seq (AW.region ?_)
 refine AO.pu T ?_
 refine AO.nil (AW.ret ?_)
 have hR := someE hH; subst hR
 exact ⟨trivial, rfl, _, [], [1, 2, 3], rfl, expLG_cons (.pb rfl (expLC_cons (.rowR rfl) (expLC_cons (.rowR rfl) (expLC_nil)))) (expLG_cons (.c .u) (expLG_nil)), .c (.c .v), by decide⟩

def spec_hiRun_l1 (h : List Change) (tick : Int) : List Change → Nat → List Item → List (List Bool) → Option ((HiState × Bool))
  | [], k3, v19, v20 =>
    some ((HiState.mk v19 v20), true)
  | y4 :: ys5, k3, v19, v20 =>
    cond (decide (y4.tick > tick))
      (some ((HiState.mk v19 v20), true))
      ((spec_hiState_change_p (HiState.mk v19 v20) y4).bind fun x22 =>
      (opt ((!(!x22.2)) && decide ((k3 : Int) > 0)) default (getI h (w64 ((k3 : Int) - 1)))).bind fun x24 =>
      cond ((!x22.2) || (decide ((k3 : Int) > 0) && decide (x24.tick > y4.tick)))
        (some ((HiState.mk x22.1.items x22.1.open'), false))
        (spec_hiRun_l1 h tick ys5 (k3 + 1) x22.1.items x22.1.open'))
def spec_hiRun_p (l : List Item) (h : List Change) (tick : Int) : Option (HiState × Bool) :=
  (spec_hiStart_p l).bind fun x1 =>
  spec_hiRun_l1 h tick h 0 x1.items x1.open'
theorem spec_hiRun_ok (l : List Item) (h : List Change) (tick : Int) (r : (HiState × Bool)) (hH : spec_hiRun_p l h tick = some r) : SpecR Tryz.prog 36 [.s (List.map encItem l), .s (List.map encChange h), tick] (.t [.pn (encHiStateO r.1), .v (.bool r.2)]) := by
 refine fn_ok T Tryz.func36 rfl (by decide) rfl ?_
 refine AW.seq (AW.region ?_)
 iterate 2 refine AO.pu T ?_
 refine AO.nil (AW.seq ?_)
 obtain ⟨x1, hx2, hH⟩ := bindE hH
 refine AW.region ?_
 refine AO.pu T ?_
 refine AO.step rfl (call_ok rfl 1 rfl rfl rfl (spec_hiStart_ok _ _ (hx2)) rfl rfl rfl) ?_
 refine AO.pu T ?_
 refine AO.nil ?_
 iterate 2 refine AW.seq ?_
 refine AW.region ?_
 refine AO.pu T ?_
 refine AO.val rfl rfl (len_map_ok T rfl rfl rfl) ?_
 refine AO.pu T ?_
 refine AO.nil ?_
 refine AW.block ?_
 refine AW.loopS (fun s : Nat × (List Item) × (List (List Bool)) => (⟨[(1, .s (List.map encChange h)), (2, tick), (8, .p 1 0), (13, .s (List.map encChange h)), (14, (h.length : Int)), (15, (s.1 : Int))], [(1, .box [.R 2, .R 3]), (2, .row 3 (List.map encItemO s.2.1)), (3, .row 1 (List.map encLBoolO s.2.2))], 46, []⟩ : St)) (fun s => s.1 ≤ h.length ∧ spec_hiRun_l1 h tick (h.drop s.1) s.1 s.2.1 s.2.2 = some r) (fun s => h.length - s.1) (0, x1.items, x1.open') ⟨Nat.zero_le _, hH⟩ ?_ ?_
 exact Le.ct 0 0
 rintro ⟨k3, v19, v20⟩ ⟨hk, hH⟩
 replace hH : spec_hiRun_l1 h tick (h.drop k3) k3 v19 v20 = some r := hH
 try dsimp only
 refine AW.boundM (t := 1) (l := h) rfl (fun hb7 => ?_)
 rcases hd6 : h.drop k3 with _ | ⟨y4, ys5⟩
 rw [hd6, spec_hiRun_l1] at hH
 have hlt8 := drop_ge hd6
 refine AW.seq (AW.region ?_)
 refine AO.pu T ?_
 refine AO.nil (AW.seq ?_)
 refine AW.condF' (b := decide ((k3 : Int) < (h.length : Int))) rfl (rngF hlt8) ?_
 refine AW.exit ?_
 refine AW.seq (AW.region ?_)
 iterate 3 refine AO.pu T ?_
 refine AO.nil (AW.ret ?_)
 have hR := someE hH; subst hR
 exact retQ.i [1, 2, 3] rfl (.t (expLG_cons (.pb rfl (expLC_cons (.rowR rfl) (expLC_cons (.rowR rfl) (expLC_nil)))) (expLG_cons (.c .v) (expLG_nil))))
 rw [hd6, spec_hiRun_l1] at hH
 have hlt8 := drop_lt hd6
 refine AW.seq (AW.region ?_)
 refine AO.pu T ?_
 refine AO.nil (AW.seq ?_)
 refine AW.condT' (b := decide ((k3 : Int) < (h.length : Int))) rfl (rngT hlt8) ?_
 refine AW.skip ?_
 refine AW.seq ?_
 refine AW.block ?_
 refine AW.seq (AW.region ?_)
 refine AO.pu T ?_
 refine AO.val rfl rfl (ix_map_ok T rfl rfl rfl rfl rfl (getI_drop hd6) rfl) ?_
 refine AO.pu T (d := .g [y4.tick, y4.caller, y4.item, y4.name, y4.mark, .v (.bool y4.review)]) ?_
 refine AO.step rfl (alloc_ok T rfl 10 rfl rfl rfl rfl rfl) ?_
 refine AO.pu T ?_
 refine AO.se T [y4.tick, y4.caller, y4.item, y4.name, y4.mark, .v (.bool y4.review)] ?_
 refine AO.nil ?_
 iterate 2 refine AW.seq ?_
 refine AW.region ?_
 iterate 4 refine AO.pu T ?_
 refine AO.nil ?_
 refine AW.cond (b := decide (y4.tick > tick)) rfl (fun hc => ?_) (fun hc => ?_)
 replace hH := condT hc hH
 refine AW.exit ?_
 refine AW.seq (AW.region ?_)
 iterate 3 refine AO.pu T ?_
 refine AO.nil (AW.ret ?_)
 have hR := someE hH; subst hR
 exact retQ.i [1, 2, 3] rfl (.t (expLG_cons (.pb rfl (expLC_cons (.rowR rfl) (expLC_cons (.rowR rfl) (expLC_nil)))) (expLG_cons (.c .v) (expLG_nil))))
 replace hH := condF hc hH
 refine AW.skip ?_
 refine AW.seq ?_
 obtain ⟨x22, hx23, hH⟩ := bindE hH
 obtain ⟨x24, hx25, hH⟩ := bindE hH
 refine AW.drawn 16 11 [1, 2, 3] mix (by kernel_rfl) rfl ?_
 refine AD.pure T rfl rfl rfl ?_
 refine AD.pure T (d := .g [y4.tick, y4.caller, y4.item, y4.name, y4.mark, .v (.bool y4.review)]) rfl rfl rfl ?_
 refine AD.k rfl rfl (FStep.callP rfl rfl rfl rfl rfl (es := [.pn (encHiStateO (HiState.mk v19 v20)), .g (encChange y4)]) (us := [.u]) (cs := encHiStateO x22.1) (ids := [1, 2, 3]) (by exact expLG_cons (.pb rfl (expLC_cons (.rowR rfl) (expLC_cons (.rowR rfl) (expLC_nil)))) (expLG_cons (.g (expLC_cons .v (expLC_cons .v (expLC_cons .v (expLC_cons .v (expLC_cons .v (expLC_cons .v (expLC_nil)))))))) (expLG_nil))) (by decide) (by decide) (spec_hiState_change_ok _ _ _ (hx23)) rfl rfl (by rfl) rfl) rfl rfl rfl ?_
 iterate 2 refine AD.pure T rfl rfl rfl ?_
 refine AD.pureG T [] rfl trivial rfl rfl ?_
 refine AD.pureG T [29] rfl ⟨fun h => h, trivial⟩ rfl rfl ?_
 refine AD.pureG T [30] rfl ⟨fun h => h, trivial⟩ rfl rfl ?_
 iterate 2 refine AD.pureG T [] rfl trivial rfl rfl ?_
 refine AD.guard [33] rfl ⟨fun h => h, trivial⟩ (fun hg => arw_ok rfl rfl rfl rfl) rfl ?_
 refine AD.guard [32, 34] rfl ⟨fun h => h, fun h => h, trivial⟩ (fun hg => ix_map_ok T rfl rfl rfl rfl rfl (optT hx25 hg) rfl) rfl ?_
 refine AD.pureG T [35] rfl ⟨fun h => h, trivial⟩ rfl rfl ?_
 refine AD.pureG T [36] rfl ⟨fun h => h, trivial⟩ rfl rfl ?_
 refine AD.pureG T [] rfl trivial rfl rfl ?_
 refine AD.pureG T [38] rfl ⟨fun h => h, trivial⟩ rfl rfl ?_
 refine AD.nil ?_
 refine AO.pureG T [37, 39] rfl ⟨fun h => h, fun h => h, trivial⟩ rfl rfl ?_
 refine AO.guard [31] rfl ⟨fun h => h, trivial⟩ (fun hg => pick_and rfl rfl rfl (by rw [hg]; exact Bool.true_and _)) rfl ?_
 refine AO.val rfl rfl (pick_or rfl rfl rfl rfl) ?_
 refine AO.nil ?_
 refine AW.le (Le.ct 0 0 (σ' := (⟨[(1, .s (List.map encChange h)), (2, tick), (8, .p 1 0), (13, .s (List.map encChange h)), (14, (h.length : Int)), (15, (k3 : Int)), (42, .v (.bool ((!x22.2) || (decide ((k3 : Int) > 0) && decide (x24.tick > y4.tick)))))], [(1, .box [.R 11, .R 12]), (11, .row 3 (List.map encItemO x22.1.items)), (12, .row 1 (List.map encLBoolO x22.1.open'))], 46, []⟩ : St))) ?_
 refine AW.cond (b := ((!x22.2) || (decide ((k3 : Int) > 0) && decide (x24.tick > y4.tick)))) rfl (fun hc => ?_) (fun hc => ?_)
 replace hH := condT hc hH
 refine AW.seq (AW.region ?_)
 iterate 3 refine AO.pu T ?_
 refine AO.nil (AW.ret ?_)
 have hR := someE hH; subst hR
 exact retQ.i [1, 11, 12] rfl (.t (expLG_cons (.pb rfl (expLC_cons (.rowR rfl) (expLC_cons (.rowR rfl) (expLC_nil)))) (expLG_cons (.c .v) (expLG_nil))))
 replace hH := condF hc hH
 refine AW.skip ?_
 refine AW.region ?_
 refine AO.val rfl rfl (ar_ok rfl rfl rfl rfl (inI_succ hlt8 hb7)) ?_
 refine AO.pu T ?_
 refine AO.nil ?_
 refine ⟨(k3 + 1, x22.1.items, x22.1.open'), ⟨Nat.succ_le_of_lt hlt8, (by rw [drop_succ_of hd6]; exact hH)⟩, (by have := hlt8; dsimp only; omega), ?_⟩
 refine Le.trans (Le.ct 11 2 (σ' := (⟨[(1, .s (List.map encChange h)), (2, tick), (8, .p 1 0), (13, .s (List.map encChange h)), (14, (h.length : Int)), (15, ((k3 + 1 : Nat) : Int))], [(1, .box [.R 2, .R 12]), (2, .row 3 (List.map encItemO x22.1.items)), (12, .row 1 (List.map encLBoolO x22.1.open'))], 46, []⟩ : St))) ?_
 exact Le.ct 12 3

def spec_hiGood_l1 (l : List Item) (h : List Change) : List Change → Nat → Int → Option Bool
  | [], k1, v12 =>
    (spec_hiRun_p l h 100000).bind fun x14 =>
    some (x14.2 && decide ((h.length : Int) ≤ 60))
  | y2 :: ys3, k1, v12 =>
    (spec_l1In_p y2.tick v12 100000).bind fun x16 =>
    cond (!x16)
      (some false)
      (spec_hiGood_l1 l h ys3 (k1 + 1) y2.tick)
def spec_hiGood_p (l : List Item) (h : List Change) : Option Bool :=
  spec_hiGood_l1 l h h 0 0
theorem spec_hiGood_ok (l : List Item) (h : List Change) (r : Bool) (hH : spec_hiGood_p l h = some r) : SpecR Tryz.prog 31 [.s (List.map encItem l), .s (List.map encChange h)] (.v (.bool r)) := by
 refine fn_ok T Tryz.func31 rfl (by decide) rfl ?_
 refine AW.seq (AW.region ?_)
 refine AO.pu T ?_
 refine AO.nil (AW.seq ?_)
 refine AW.region ?_
 refine AO.pu T ?_
 refine AO.nil ?_
 iterate 2 refine AW.seq ?_
 refine AW.region ?_
 refine AO.pu T ?_
 refine AO.val rfl rfl (len_map_ok T rfl rfl rfl) ?_
 refine AO.pu T ?_
 refine AO.nil ?_
 refine AW.block ?_
 refine AW.loopS (fun s : Nat × Int => (⟨[(0, .s (List.map encItem l)), (1, .s (List.map encChange h)), (5, s.2), (10, .s (List.map encChange h)), (11, (h.length : Int)), (12, (s.1 : Int))], [], 36, []⟩ : St)) (fun s => s.1 ≤ h.length ∧ spec_hiGood_l1 l h (h.drop s.1) s.1 s.2 = some r) (fun s => h.length - s.1) (0, 0) ⟨Nat.zero_le _, hH⟩ ?_ ?_
 exact Le.ct 0 0
 rintro ⟨k1, v12⟩ ⟨hk, hH⟩
 replace hH : spec_hiGood_l1 l h (h.drop k1) k1 v12 = some r := hH
 try dsimp only
 refine AW.boundM (t := 1) (l := h) rfl (fun hb5 => ?_)
 rcases hd4 : h.drop k1 with _ | ⟨y2, ys3⟩
 rw [hd4, spec_hiGood_l1] at hH
 have hlt6 := drop_ge hd4
 refine AW.seq (AW.region ?_)
 refine AO.pu T ?_
 refine AO.nil (AW.seq ?_)
 refine AW.condF' (b := decide ((k1 : Int) < (h.length : Int))) rfl (rngF hlt6) ?_
 refine AW.exit ?_
 refine AW.seq ?_
 obtain ⟨x14, hx15, hH⟩ := bindE hH
 refine AW.region ?_
 iterate 2 refine AO.pu T ?_
 refine AO.step rfl (call_ok rfl 3 rfl rfl rfl (spec_hiRun_ok _ _ _ _ (hx15)) rfl rfl rfl) ?_
 iterate 5 refine AO.pu T ?_
 refine AO.nil (AW.seq ?_)
 refine AW.region ?_
 iterate 2 refine AO.pu T ?_
 refine AO.pureG T [] rfl trivial rfl rfl ?_
 refine AO.guard [32] rfl ⟨fun h => h, trivial⟩ (fun hg => len_map_ok T rfl rfl rfl) rfl ?_
 refine AO.pureG T [33] rfl ⟨fun h => h, trivial⟩ rfl rfl ?_
 refine AO.val rfl rfl (pick_and rfl rfl rfl rfl) ?_
 refine AO.pu T ?_
 refine AO.nil (AW.ret ?_)
 have hR := someE hH; subst hR
 exact retQ.i [] rfl (.c (.c .v))
 rw [hd4, spec_hiGood_l1] at hH
 have hlt6 := drop_lt hd4
 refine AW.seq (AW.region ?_)
 refine AO.pu T ?_
 refine AO.nil (AW.seq ?_)
 refine AW.condT' (b := decide ((k1 : Int) < (h.length : Int))) rfl (rngT hlt6) ?_
 refine AW.skip ?_
 refine AW.seq ?_
 refine AW.block ?_
 refine AW.seq (AW.region ?_)
 refine AO.val rfl rfl (ix_map_ok T rfl rfl rfl rfl rfl (getI_drop hd4) rfl) ?_
 refine AO.pu T (d := .g [y2.tick, y2.caller, y2.item, y2.name, y2.mark, .v (.bool y2.review)]) ?_
 refine AO.step rfl (alloc_ok T rfl 6 rfl rfl rfl rfl rfl) ?_
 refine AO.se T [y2.tick, y2.caller, y2.item, y2.name, y2.mark, .v (.bool y2.review)] ?_
 refine AO.nil ?_
 iterate 2 refine AW.seq ?_
 obtain ⟨x16, hx17, hH⟩ := bindE hH
 refine AW.region ?_
 iterate 3 refine AO.pu T ?_
 refine AO.val rfl rfl (callV_ok rfl rfl rfl rfl (spec_l1In_ok _ _ _ _ (hx17)) rfl) ?_
 refine AO.pu T ?_
 refine AO.nil ?_
 refine AW.cond (b := (!x16)) rfl (fun hc => ?_) (fun hc => ?_)
 replace hH := condT hc hH
 refine AW.seq (AW.region ?_)
 refine AO.pu T ?_
 refine AO.nil (AW.ret ?_)
 have hR := someE hH; subst hR
 exact retQ.i [] rfl (.c (.c .v))
 replace hH := condF hc hH
 refine AW.skip ?_
 refine AW.region ?_
 iterate 3 refine AO.pu T ?_
 refine AO.nil ?_
 refine AW.region ?_
 refine AO.val rfl rfl (ar_ok rfl rfl rfl rfl (inI_succ hlt6 hb5)) ?_
 refine AO.pu T ?_
 refine AO.nil ?_
 refine ⟨(k1 + 1, y2.tick), ⟨Nat.succ_le_of_lt hlt6, (by rw [drop_succ_of hd4]; exact hH)⟩, (by have := hlt6; dsimp only; omega), ?_⟩
 exact Le.ct 0 0

def spec_l1Cur_changing_l1 (x1 : (L1Cur × (List Item))) (x11 : (L1Cur × Int)) : Nat → List Int → Int → Int → List Change → Int → Int → Option ((L1Cur × (List Item) × (List Change)))
  | 0, _, _, _, _, _, _ => none
  | k13 + 1, v68, v69, v70, v71, v72, v73 =>
    cond (decide ((v71.length : Int) < (w64 (60 + x11.2))) && decide (v73 < 200))
      ((spec_l1Cur_pick_p (L1Cur.mk v68 v69 v70) (x1.2.length : Int)).bind fun x75 =>
      (spec_l1Cur_pick_p (L1Cur.mk x75.1.code x75.1.at' x75.1.seed) 3).bind fun x77 =>
      (getI x1.2 x75.2).bind fun x79 =>
      (spec_l1Cur_pick_p (L1Cur.mk x77.1.code x77.1.at' x77.1.seed) (x79.names.length : Int)).bind fun x81 =>
      (spec_l1Cur_pick_p (L1Cur.mk x81.1.code x81.1.at' x81.1.seed) 4).bind fun x83 =>
      (spec_l1Cur_one_p (L1Cur.mk x83.1.code x83.1.at' x83.1.seed) 4).bind fun x85 =>
      (need (fitsB 48 v71.length)).bind fun u87 =>
      (need (fitsB 48 (v71.length + ([(Change.mk v72 (w64 (1 + x77.2)) x75.2 x81.2 x83.2 x85.2)]).length))).bind fun u89 =>
      (spec_hiGood_p x1.2 (v71 ++ [(Change.mk v72 (w64 (1 + x77.2)) x75.2 x81.2 x83.2 x85.2)])).bind fun x91 =>
      (opt ((!x91) && ((v71.length : Int) == 60)) default (spec_hiGood_p x1.2 v71)).bind fun x93 =>
      cond (x91 || (((v71.length : Int) == 60) && x93))
        ((spec_l1Cur_among_p (L1Cur.mk x85.1.code x85.1.at' x85.1.seed) ([0, 0, 1, 5] : List Int)).bind fun x95 =>
        spec_l1Cur_changing_l1 x1 x11 k13 x95.1.code x95.1.at' x95.1.seed (v71 ++ [(Change.mk v72 (w64 (1 + x77.2)) x75.2 x81.2 x83.2 x85.2)]) (w64 (v72 + x95.2)) (w64 (v73 + 1)))
        ((spec_l1Cur_among_p (L1Cur.mk x85.1.code x85.1.at' x85.1.seed) ([0, 0, 1, 5] : List Int)).bind fun x97 =>
        spec_l1Cur_changing_l1 x1 x11 k13 x97.1.code x97.1.at' x97.1.seed v71 (w64 (v72 + x97.2)) (w64 (v73 + 1))))
      (cond (decide ((v71.length : Int) > 0))
        ((spec_l1Cur_pick_p (L1Cur.mk v68 v69 v70) (v71.length : Int)).bind fun x99 =>
        (getI v71 x99.2).bind fun x101 =>
        (spec_l1Cur_pick_p (L1Cur.mk x99.1.code x99.1.at' x99.1.seed) 40).bind fun x103 =>
        cond (x103.2 == 0)
          ((spec_l1Cur_among_p (L1Cur.mk x103.1.code x103.1.at' x103.1.seed) ([(-1), 0, 100000, 100001] : List Int)).bind fun x105 =>
          some ((L1Cur.mk x105.1.code x105.1.at' x105.1.seed), x1.2, (v71.set x99.2.toNat (Change.mk x105.2 x101.caller x101.item x101.name x101.mark x101.review))))
          (cond (x103.2 == 1)
            ((spec_l1Cur_among_p (L1Cur.mk x103.1.code x103.1.at' x103.1.seed) ([0, 9, 10] : List Int)).bind fun x107 =>
            some ((L1Cur.mk x107.1.code x107.1.at' x107.1.seed), x1.2, (v71.set x99.2.toNat (Change.mk x101.tick x107.2 x101.item x101.name x101.mark x101.review))))
            (cond (x103.2 == 2)
              ((spec_l1Cur_among_p (L1Cur.mk x103.1.code x103.1.at' x103.1.seed) [(-1), (x1.2.length : Int)]).bind fun x109 =>
              some ((L1Cur.mk x109.1.code x109.1.at' x109.1.seed), x1.2, (v71.set x99.2.toNat (Change.mk x101.tick x101.caller x109.2 x101.name x101.mark x101.review))))
              (cond (x103.2 == 3)
                ((spec_l1Cur_among_p (L1Cur.mk x103.1.code x103.1.at' x103.1.seed) ([(-1), 3] : List Int)).bind fun x111 =>
                some ((L1Cur.mk x111.1.code x111.1.at' x111.1.seed), x1.2, (v71.set x99.2.toNat (Change.mk x101.tick x101.caller x101.item x111.2 x101.mark x101.review))))
                (cond (x103.2 == 4)
                  ((spec_l1Cur_among_p (L1Cur.mk x103.1.code x103.1.at' x103.1.seed) ([(-1), 4] : List Int)).bind fun x113 =>
                  some ((L1Cur.mk x113.1.code x113.1.at' x113.1.seed), x1.2, (v71.set x99.2.toNat (Change.mk x101.tick x101.caller x101.item x101.name x113.2 x101.review))))
                  (cond (x103.2 == 5)
                    (some ((L1Cur.mk x103.1.code x103.1.at' x103.1.seed), x1.2, (v71.set x99.2.toNat (Change.mk x101.tick x101.caller x101.item x101.name x101.mark (!x101.review)))))
                    (some ((L1Cur.mk x103.1.code x103.1.at' x103.1.seed), x1.2, v71))))))))
        (some ((L1Cur.mk v68 v69 v70), x1.2, v71)))
def spec_l1Cur_changing_l2 (x1 : (L1Cur × (List Item))) (x7 : (L1Cur × Int)) : Nat → List Int → Int → Int → List Change → Int → Int → Option ((L1Cur × (List Item) × (List Change)))
  | 0, _, _, _, _, _, _ => none
  | k115 + 1, v170, v171, v172, v173, v174, v175 =>
    cond (decide ((v173.length : Int) < x7.2) && decide (v175 < 200))
      ((spec_l1Cur_pick_p (L1Cur.mk v170 v171 v172) (x1.2.length : Int)).bind fun x177 =>
      (spec_l1Cur_pick_p (L1Cur.mk x177.1.code x177.1.at' x177.1.seed) 3).bind fun x179 =>
      (getI x1.2 x177.2).bind fun x181 =>
      (spec_l1Cur_pick_p (L1Cur.mk x179.1.code x179.1.at' x179.1.seed) (x181.names.length : Int)).bind fun x183 =>
      (spec_l1Cur_pick_p (L1Cur.mk x183.1.code x183.1.at' x183.1.seed) 4).bind fun x185 =>
      (spec_l1Cur_one_p (L1Cur.mk x185.1.code x185.1.at' x185.1.seed) 4).bind fun x187 =>
      (need (fitsB 48 v173.length)).bind fun u189 =>
      (need (fitsB 48 (v173.length + ([(Change.mk v174 (w64 (1 + x179.2)) x177.2 x183.2 x185.2 x187.2)]).length))).bind fun u191 =>
      (spec_hiGood_p x1.2 (v173 ++ [(Change.mk v174 (w64 (1 + x179.2)) x177.2 x183.2 x185.2 x187.2)])).bind fun x193 =>
      (opt ((!x193) && ((v173.length : Int) == 60)) default (spec_hiGood_p x1.2 v173)).bind fun x195 =>
      cond (x193 || (((v173.length : Int) == 60) && x195))
        ((spec_l1Cur_among_p (L1Cur.mk x187.1.code x187.1.at' x187.1.seed) ([0, 0, 1, 5] : List Int)).bind fun x197 =>
        spec_l1Cur_changing_l2 x1 x7 k115 x197.1.code x197.1.at' x197.1.seed (v173 ++ [(Change.mk v174 (w64 (1 + x179.2)) x177.2 x183.2 x185.2 x187.2)]) (w64 (v174 + x197.2)) (w64 (v175 + 1)))
        ((spec_l1Cur_among_p (L1Cur.mk x187.1.code x187.1.at' x187.1.seed) ([0, 0, 1, 5] : List Int)).bind fun x199 =>
        spec_l1Cur_changing_l2 x1 x7 k115 x199.1.code x199.1.at' x199.1.seed v173 (w64 (v174 + x199.2)) (w64 (v175 + 1))))
      (cond (decide ((v173.length : Int) > 0))
        ((spec_l1Cur_pick_p (L1Cur.mk v170 v171 v172) (v173.length : Int)).bind fun x201 =>
        (getI v173 x201.2).bind fun x203 =>
        (spec_l1Cur_pick_p (L1Cur.mk x201.1.code x201.1.at' x201.1.seed) 40).bind fun x205 =>
        cond (x205.2 == 0)
          ((spec_l1Cur_among_p (L1Cur.mk x205.1.code x205.1.at' x205.1.seed) ([(-1), 0, 100000, 100001] : List Int)).bind fun x207 =>
          some ((L1Cur.mk x207.1.code x207.1.at' x207.1.seed), x1.2, (v173.set x201.2.toNat (Change.mk x207.2 x203.caller x203.item x203.name x203.mark x203.review))))
          (cond (x205.2 == 1)
            ((spec_l1Cur_among_p (L1Cur.mk x205.1.code x205.1.at' x205.1.seed) ([0, 9, 10] : List Int)).bind fun x209 =>
            some ((L1Cur.mk x209.1.code x209.1.at' x209.1.seed), x1.2, (v173.set x201.2.toNat (Change.mk x203.tick x209.2 x203.item x203.name x203.mark x203.review))))
            (cond (x205.2 == 2)
              ((spec_l1Cur_among_p (L1Cur.mk x205.1.code x205.1.at' x205.1.seed) [(-1), (x1.2.length : Int)]).bind fun x211 =>
              some ((L1Cur.mk x211.1.code x211.1.at' x211.1.seed), x1.2, (v173.set x201.2.toNat (Change.mk x203.tick x203.caller x211.2 x203.name x203.mark x203.review))))
              (cond (x205.2 == 3)
                ((spec_l1Cur_among_p (L1Cur.mk x205.1.code x205.1.at' x205.1.seed) ([(-1), 3] : List Int)).bind fun x213 =>
                some ((L1Cur.mk x213.1.code x213.1.at' x213.1.seed), x1.2, (v173.set x201.2.toNat (Change.mk x203.tick x203.caller x203.item x213.2 x203.mark x203.review))))
                (cond (x205.2 == 4)
                  ((spec_l1Cur_among_p (L1Cur.mk x205.1.code x205.1.at' x205.1.seed) ([(-1), 4] : List Int)).bind fun x215 =>
                  some ((L1Cur.mk x215.1.code x215.1.at' x215.1.seed), x1.2, (v173.set x201.2.toNat (Change.mk x203.tick x203.caller x203.item x203.name x215.2 x203.review))))
                  (cond (x205.2 == 5)
                    (some ((L1Cur.mk x205.1.code x205.1.at' x205.1.seed), x1.2, (v173.set x201.2.toNat (Change.mk x203.tick x203.caller x203.item x203.name x203.mark (!x203.review)))))
                    (some ((L1Cur.mk x205.1.code x205.1.at' x205.1.seed), x1.2, v173))))))))
        (some ((L1Cur.mk v170 v171 v172), x1.2, v173)))
def spec_l1Cur_changing_p (fuel : Nat) (c : L1Cur) : Option (L1Cur × (List Item) × (List Change)) :=
  (spec_l1Cur_anyItems_p fuel c).bind fun x1 =>
  (spec_itList_p fuel x1.2).bind fun x3 =>
  cond ((!x3) || ((x1.2.length : Int) == 0))
    (some ((L1Cur.mk x1.1.code x1.1.at' x1.1.seed), x1.2, []))
    ((spec_l1Cur_pick_p (L1Cur.mk x1.1.code x1.1.at' x1.1.seed) 9).bind fun x5 =>
    (spec_l1Cur_pick_p (L1Cur.mk x5.1.code x5.1.at' x5.1.seed) 12).bind fun x7 =>
    (spec_l1Cur_one_p (L1Cur.mk x7.1.code x7.1.at' x7.1.seed) 24).bind fun x9 =>
    cond x9.2
      ((spec_l1Cur_pick_p (L1Cur.mk x9.1.code x9.1.at' x9.1.seed) 2).bind fun x11 =>
      spec_l1Cur_changing_l1 x1 x11 fuel x11.1.code x11.1.at' x11.1.seed [] x5.2 0)
      (spec_l1Cur_changing_l2 x1 x7 fuel x9.1.code x9.1.at' x9.1.seed [] x5.2 0))
theorem spec_l1Cur_changing_ok (fuel : Nat) (c : L1Cur) (r : (L1Cur × (List Item) × (List Change))) (hH : spec_l1Cur_changing_p fuel c = some r) : SpecM Tryz.prog 32 [.pw (encL1Cur c)] [.pw (encL1Cur r.1)] (.t [.w 3 (r.2.1.map encItem), .w 6 (r.2.2.map encChange)]) := by
 refine fn_okM T Tryz.func32 rfl (by decide) rfl rfl ?_
 intro L
 show AW _ _ _ (⟨[(0, .p 1 0)], [(1, .box [.s (List.map encInt_u8 c.code), c.at', .v (.int .u64 c.seed)])], 156, [(1, L 1)]⟩ : St)
 refine AW.seq (AW.region ?_)
 iterate 2 refine AO.pu T ?_
 refine AO.nil (AW.seq ?_)
 obtain ⟨x1, hx2, hH⟩ := bindE hH
 refine AW.region ?_
 refine AO.pu T ?_
 refine AO.step rfl (callM_ok rfl 2 rfl rfl (es := [.pw (encL1Cur c)]) (outs := [.pw (encL1Cur x1.1)]) (ids := [1]) (by exact expLG_cons (.c (.box rfl rfl)) (expLG_nil)) (by decide) (.inl (by rfl)) (by rfl) (spec_l1Cur_anyItems_ok fuel _ _ (hx2)) rfl (by rfl) rfl) ?_
 refine AO.pu T ?_
 refine AO.nil (AW.seq ?_)
 refine AW.region ?_
 refine AO.pu T ?_
 refine AO.nil ?_
 iterate 2 refine AW.seq ?_
 obtain ⟨x3, hx4, hH⟩ := bindE hH
 refine AW.region ?_
 refine AO.pu T ?_
 refine AO.val rfl rfl (callLV_ok rfl rfl rfl (es := [.s (List.map encItem x1.2)]) ⟨(.rowR rfl (.map fun y => .vs rfl)), trivial⟩ (spec_itList_ok fuel _ _ (hx4)) (zfree_v _) rfl) ?_
 iterate 2 refine AO.pu T ?_
 refine AO.pureG T [] rfl trivial rfl rfl ?_
 refine AO.guard [19] rfl ⟨fun h => h, trivial⟩ (fun hg => len_row_ok T rfl rfl rfl rfl) rfl ?_
 refine AO.pureG T [20] rfl ⟨fun h => h, trivial⟩ rfl rfl ?_
 refine AO.val rfl rfl (pick_or rfl rfl rfl rfl) ?_
 refine AO.nil ?_
 refine AW.cond (b := ((!x3) || ((x1.2.length : Int) == 0))) rfl (fun hc => ?_) (fun hc => ?_)
 replace hH := condT hc hH
 refine AW.seq (AW.region ?_)
 iterate 4 refine AO.pu T ?_
 refine AO.nil (AW.ret ?_)
 have hR := someE hH; subst hR
 exact ⟨trivial, rfl, _, [2], [1], rfl, expLG_cons (.c (.box rfl rfl)) (expLG_nil), .t (expLG_cons (.c (.rowR rfl)) (expLG_cons (.c .nil) (expLG_nil))), by decide⟩
 replace hH := condF hc hH
 refine AW.skip ?_
 refine AW.seq ?_
 obtain ⟨x5, hx6, hH⟩ := bindE hH
 refine AW.region ?_
 refine AO.pu T ?_
 refine AO.step rfl (callM_ok rfl 3 rfl rfl (es := [.pw (encL1Cur (L1Cur.mk x1.1.code x1.1.at' x1.1.seed)), .v (.int .i64 9)]) (outs := [.pw (encL1Cur x5.1), .u]) (ids := [1]) (by exact expLG_cons (.c (.box rfl rfl)) (expLG_cons (.c .v) (expLG_nil))) (by decide) (.inl (by rfl)) (by rfl) (spec_l1Cur_pick_ok _ _ _ (hx6)) rfl (by rfl) rfl) ?_
 refine AO.pu T ?_
 refine AO.nil (AW.seq ?_)
 obtain ⟨x7, hx8, hH⟩ := bindE hH
 refine AW.region ?_
 refine AO.pu T ?_
 refine AO.step rfl (callM_ok rfl 3 rfl rfl (es := [.pw (encL1Cur (L1Cur.mk x5.1.code x5.1.at' x5.1.seed)), .v (.int .i64 12)]) (outs := [.pw (encL1Cur x7.1), .u]) (ids := [1]) (by exact expLG_cons (.c (.box rfl rfl)) (expLG_cons (.c .v) (expLG_nil))) (by decide) (.inl (by rfl)) (by rfl) (spec_l1Cur_pick_ok _ _ _ (hx8)) rfl (by rfl) rfl) ?_
 refine AO.pu T ?_
 refine AO.nil ?_
 iterate 2 refine AW.seq ?_
 obtain ⟨x9, hx10, hH⟩ := bindE hH
 refine AW.region ?_
 refine AO.pu T ?_
 refine AO.step rfl (callM_ok rfl 3 rfl rfl (es := [.pw (encL1Cur (L1Cur.mk x7.1.code x7.1.at' x7.1.seed)), .v (.int .i64 24)]) (outs := [.pw (encL1Cur x9.1), .u]) (ids := [1]) (by exact expLG_cons (.c (.box rfl rfl)) (expLG_cons (.c .v) (expLG_nil))) (by decide) (.inl (by rfl)) (by rfl) (spec_l1Cur_one_ok _ _ _ (hx10)) rfl (by rfl) rfl) ?_
 refine AO.nil ?_
 refine AW.cond (b := x9.2) rfl (fun hc => ?_) (fun hc => ?_)
 replace hH := condT hc hH
 obtain ⟨x11, hx12, hH⟩ := bindE hH
 refine AW.region ?_
 refine AO.pu T ?_
 refine AO.step rfl (callM_ok rfl 3 rfl rfl (es := [.pw (encL1Cur (L1Cur.mk x9.1.code x9.1.at' x9.1.seed)), .v (.int .i64 2)]) (outs := [.pw (encL1Cur x11.1), .u]) (ids := [1]) (by exact expLG_cons (.c (.box rfl rfl)) (expLG_cons (.c .v) (expLG_nil))) (by decide) (.inl (by rfl)) (by rfl) (spec_l1Cur_pick_ok _ _ _ (hx12)) rfl (by rfl) rfl) ?_
 refine AO.val rfl rfl (arw_ok rfl rfl rfl rfl) ?_
 refine AO.pu T ?_
 refine AO.nil ?_
 refine AW.le (Le.ct 0 0 (σ' := (⟨[(0, .p 1 0), (4, .R 2), (5, .w 0 []), (6, x5.2), (7, w64 (60 + x11.2))], [(1, .box [.s (List.map encInt_u8 x11.1.code), x11.1.at', .v (.int .u64 x11.1.seed)]), (2, .row 3 (List.map encItem x1.2))], 156, [(1, L 1)]⟩ : St)) (hpin := ⟨⟨rfl, rfl⟩, trivial⟩)) ?_
 iterate 2 refine AW.seq ?_
 refine AW.region ?_
 refine AO.pu T ?_
 refine AO.nil ?_
 refine AW.block ?_
 refine AW.loopS (fun s : Nat × (List Int) × Int × Int × (List Change) × Int × Int => (⟨[(0, .p 1 0), (4, .R 2), (5, .R 12), (6, s.2.2.2.2.2.1), (7, w64 (60 + x11.2)), (8, s.2.2.2.2.2.2)], [(1, .box [.s (List.map encInt_u8 s.2.1), s.2.2.1, .v (.int .u64 s.2.2.2.1)]), (2, .row 3 (List.map encItem x1.2)), (12, .row 6 (List.map encChange s.2.2.2.2.1))], 156, [(1, L 1)]⟩ : St)) (fun s => spec_l1Cur_changing_l1 x1 x11 s.1 s.2.1 s.2.2.1 s.2.2.2.1 s.2.2.2.2.1 s.2.2.2.2.2.1 s.2.2.2.2.2.2 = some r) (fun s => s.1) (fuel, x11.1.code, x11.1.at', x11.1.seed, [], x5.2, 0) hH ?_ ?_
 refine Le.trans (Le.void 5 12 6 rfl rfl) ?_
 exact Le.ct 0 0 (hpin := ⟨⟨rfl, rfl⟩, trivial⟩)
 rintro ⟨k13, v68, v69, v70, v71, v72, v73⟩ hH
 replace hH : spec_l1Cur_changing_l1 x1 x11 k13 v68 v69 v70 v71 v72 v73 = some r := hH
 try dsimp only
 rcases k13 with _ | k13
 cases (show none = some _ from hH)
 rw [spec_l1Cur_changing_l1] at hH
 iterate 2 refine AW.seq ?_
 refine AW.region ?_
 refine AO.pu T ?_
 refine AO.val rfl rfl (len_row_ok T rfl rfl rfl rfl) ?_
 iterate 3 refine AO.pu T ?_
 refine AO.pureG T [] rfl trivial rfl rfl ?_
 refine AO.pureG T [39] rfl ⟨fun h => h, trivial⟩ rfl rfl ?_
 refine AO.val rfl rfl (pick_and rfl rfl rfl rfl) ?_
 refine AO.nil ?_
 refine AW.cond (b := (decide ((v71.length : Int) < (w64 (60 + x11.2))) && decide (v73 < 200))) rfl (fun hc => ?_) (fun hc => ?_)
 replace hH := condT hc hH
 refine AW.skip ?_
 refine AW.seq ?_
 refine AW.block ?_
 refine AW.seq ?_
 obtain ⟨x75, hx76, hH⟩ := bindE hH
 refine AW.region ?_
 iterate 2 refine AO.pu T ?_
 refine AO.val rfl rfl (len_row_ok T rfl rfl rfl rfl) ?_
 refine AO.step rfl (callM_ok rfl 15 rfl rfl (es := [.pw (encL1Cur (L1Cur.mk v68 v69 v70)), .v (.int .i64 (x1.2.length : Int))]) (outs := [.pw (encL1Cur x75.1), .u]) (ids := [1]) (by exact expLG_cons (.c (.box rfl rfl)) (expLG_cons (.c .v) (expLG_nil))) (by decide) (.inl (by rfl)) (by rfl) (spec_l1Cur_pick_ok _ _ _ (hx76)) rfl (by rfl) rfl) ?_
 refine AO.pu T ?_
 refine AO.nil (AW.seq ?_)
 obtain ⟨x77, hx78, hH⟩ := bindE hH
 obtain ⟨x79, hx80, hH⟩ := bindE hH
 obtain ⟨x81, hx82, hH⟩ := bindE hH
 obtain ⟨x83, hx84, hH⟩ := bindE hH
 obtain ⟨x85, hx86, hH⟩ := bindE hH
 refine AW.drawn 19 15 [1] mix (by kernel_rfl) rfl ?_
 iterate 2 refine AD.pure T rfl rfl rfl ?_
 refine AD.k rfl rfl (FStep.callM rfl rfl rfl rfl (es := [.pw (encL1Cur (L1Cur.mk x75.1.code x75.1.at' x75.1.seed)), .v (.int .i64 3)]) (outs := [.pw (encL1Cur x77.1), .u]) (ids := [1]) (by exact expLG_cons (.c (.box rfl rfl)) (expLG_cons (.c .v) (expLG_nil))) (by decide) (.inl (by rfl)) (by rfl) (spec_l1Cur_pick_ok _ _ _ (hx78)) rfl (by rfl) rfl) rfl rfl rfl ?_
 refine AD.val rfl rfl (arw_ok rfl rfl rfl rfl) ?_
 iterate 4 refine AD.pure T rfl rfl rfl ?_
 refine AD.val rfl rfl (ix_row_ok T rfl rfl rfl rfl rfl rfl (hx80)) ?_
 refine AD.pure T rfl rfl rfl ?_
 refine AD.val rfl rfl (load_row_ok T rfl rfl rfl rfl (getI_get (hx80)) rfl rfl rfl) ?_
 refine AD.val rfl rfl (len_map_ok T rfl rfl rfl) ?_
 refine AD.k rfl rfl (FStep.callM rfl rfl rfl rfl (es := [.pw (encL1Cur (L1Cur.mk x77.1.code x77.1.at' x77.1.seed)), .v (.int .i64 (x79.names.length : Int))]) (outs := [.pw (encL1Cur x81.1), .u]) (ids := [1]) (by exact expLG_cons (.c (.box rfl rfl)) (expLG_cons (.c .v) (expLG_nil))) (by decide) (.inl (by rfl)) (by rfl) (spec_l1Cur_pick_ok _ _ _ (hx82)) rfl (by rfl) rfl) rfl rfl rfl ?_
 refine AD.pure T rfl rfl rfl ?_
 refine AD.k rfl rfl (FStep.callM rfl rfl rfl rfl (es := [.pw (encL1Cur (L1Cur.mk x81.1.code x81.1.at' x81.1.seed)), .v (.int .i64 4)]) (outs := [.pw (encL1Cur x83.1), .u]) (ids := [1]) (by exact expLG_cons (.c (.box rfl rfl)) (expLG_cons (.c .v) (expLG_nil))) (by decide) (.inl (by rfl)) (by rfl) (spec_l1Cur_pick_ok _ _ _ (hx84)) rfl (by rfl) rfl) rfl rfl rfl ?_
 refine AD.pure T rfl rfl rfl ?_
 refine AD.k rfl rfl (FStep.callM rfl rfl rfl rfl (es := [.pw (encL1Cur (L1Cur.mk x83.1.code x83.1.at' x83.1.seed)), .v (.int .i64 4)]) (outs := [.pw (encL1Cur x85.1), .u]) (ids := [1]) (by exact expLG_cons (.c (.box rfl rfl)) (expLG_cons (.c .v) (expLG_nil))) (by decide) (.inl (by rfl)) (by rfl) (spec_l1Cur_one_ok _ _ _ (hx86)) rfl (by rfl) rfl) rfl rfl rfl ?_
 refine AD.pure T (d := .g [v72, w64 (1 + x77.2), x75.2, x81.2, x83.2, .v (.bool x85.2)]) rfl rfl rfl ?_
 refine AD.q (FStep.alloc T rfl rfl rfl rfl rfl rfl) (by simp [namesIn]) (Nat.le_succ _) rfl ?_
 refine AD.nil ?_
 refine AO.se T [v72, w64 (1 + x77.2), x75.2, x81.2, x83.2, .v (.bool x85.2)] ?_
 refine AO.nil ?_
 refine AW.le (Le.ct 0 0 (σ' := (⟨[(0, .p 1 0), (4, .R 2), (5, .R 12), (6, v72), (7, w64 (60 + x11.2)), (8, v73), (10, .p 15 0)], [(1, .box [.s (List.map encInt_u8 x85.1.code), x85.1.at', .v (.int .u64 x85.1.seed)]), (2, .row 3 (List.map encItem x1.2)), (12, .row 6 (List.map encChange v71)), (15, .box [v72, w64 (1 + x77.2), x75.2, x81.2, x83.2, .v (.bool x85.2)])], 156, [(1, L 1)]⟩ : St)) (hpin := ⟨⟨rfl, rfl⟩, trivial⟩)) ?_
 iterate 2 refine AW.seq ?_
 obtain ⟨u87, hx88, hH⟩ := bindE hH
 obtain ⟨u89, hx90, hH⟩ := bindE hH
 refine AW.drawn 5 16 [] mix (by kernel_rfl) rfl ?_
 refine AD.v (FStep.mk0 T rfl rfl rfl rfl rfl) ?_
 refine AD.pure T rfl rfl rfl ?_
 refine AD.q (FStep.app_wv T rfl rfl rfl rfl rfl rfl rfl (by decide) rfl rfl rfl (fun _ => rfl) (needT (hx88)) rfl) (by simp [namesIn]) (Nat.le_succ _) rfl ?_
 refine AD.pure T (d := .g [v72, w64 (1 + x77.2), x75.2, x81.2, x83.2, .v (.bool x85.2)]) rfl rfl rfl ?_
 refine AD.q (FStep.mk T (f := encChange) (l := [(Change.mk v72 (w64 (1 + x77.2)) x75.2 x81.2 x83.2 x85.2)]) rfl rfl rfl rfl rfl rfl rfl rfl rfl (fun _ => rfl) rfl rfl rfl rfl) (by simp [namesIn]) (Nat.le_succ _) rfl ?_
 refine AD.nil ?_
 refine AO.step rfl (app_rv_map T rfl 18 rfl rfl rfl rfl rfl (by decide) rfl rfl rfl rfl (fun _ => rfl) (needT (hx90)) rfl rfl) ?_
 refine AO.pu T ?_
 refine AO.nil (AW.seq ?_)
 obtain ⟨x91, hx92, hH⟩ := bindE hH
 obtain ⟨x93, hx94, hH⟩ := bindE hH
 refine AW.region ?_
 iterate 2 refine AO.pu T ?_
 refine AO.val rfl rfl (callLV_ok rfl rfl rfl (es := [.s (List.map encItem x1.2), .s (List.map encChange (v71 ++ [(Change.mk v72 (w64 (1 + x77.2)) x75.2 x81.2 x83.2 x85.2)]))]) ⟨(.rowR rfl (.map fun y => .vs rfl)), (.rowR rfl (.map fun y => .vs rfl)), trivial⟩ (spec_hiGood_ok _ _ _ (hx92)) (zfree_v _) rfl) ?_
 refine AO.pu T ?_
 refine AO.pureG T [] rfl trivial rfl rfl ?_
 refine AO.guard [76] rfl ⟨fun h => h, trivial⟩ (fun hg => len_row_ok T rfl rfl rfl rfl) rfl ?_
 refine AO.pureG T [77] rfl ⟨fun h => h, trivial⟩ rfl rfl ?_
 refine AO.pureG T [78] rfl ⟨fun h => h, trivial⟩ rfl rfl ?_
 iterate 2 refine AO.pureG T [] rfl trivial rfl rfl ?_
 refine AO.guard [80, 81] rfl ⟨fun h => h, fun h => h, trivial⟩ (fun hg => callLV_ok rfl rfl rfl (es := [.s (List.map encItem x1.2), .s (List.map encChange v71)]) ⟨(.rowR rfl (.map fun y => .vs rfl)), (.rowR rfl (.map fun y => .vs rfl)), trivial⟩ (spec_hiGood_ok _ _ _ (optT hx94 hg)) (zfree_v _) rfl) rfl ?_
 refine AO.guard [79] rfl ⟨fun h => h, trivial⟩ (fun hg => pick_and rfl rfl rfl (by rw [hg]; exact Bool.true_and _)) rfl ?_
 refine AO.val rfl rfl (pick_or rfl rfl rfl rfl) ?_
 refine AO.nil ?_
 refine AW.cond (b := (x91 || (((v71.length : Int) == 60) && x93))) rfl (fun hc => ?_) (fun hc => ?_)
 replace hH := condT hc hH
 refine AW.region ?_
 iterate 2 refine AO.pu T ?_
 refine AO.nil ?_
 obtain ⟨x95, hx96, hH⟩ := bindE hH
 refine AW.region ?_
 iterate 2 refine AO.pu T ?_
 refine AO.step rfl (mk_map_ok T rfl 19 rfl rfl rfl rfl rfl (f := encInt) (l := ([0, 0, 1, 5] : List Int)) rfl rfl (fun _ => rfl) rfl rfl rfl rfl rfl) ?_
 refine AO.le (Le.freezeM 19 (g := encInt) rfl (fun y => .vs rfl)) ?_
 refine AO.step rfl (callM_ok rfl 20 rfl rfl (es := [.pw (encL1Cur (L1Cur.mk x85.1.code x85.1.at' x85.1.seed)), .s (([0, 0, 1, 5] : List Int).map encInt)]) (outs := [.pw (encL1Cur x95.1), .u]) (ids := [1]) (by exact expLG_cons (.c (.box rfl rfl)) (expLG_cons (.c .s) (expLG_nil))) (by decide) (.inl (by rfl)) (by rfl) (spec_l1Cur_among_ok _ _ _ (hx96)) rfl (by rfl) rfl) ?_
 refine AO.val rfl rfl (arw_ok rfl rfl rfl rfl) ?_
 refine AO.pu T ?_
 refine AO.nil ?_
 refine AW.le (Le.ct 0 0 (σ' := (⟨[(0, .p 1 0), (4, .R 2), (5, .R 18), (6, w64 (v72 + x95.2)), (7, w64 (60 + x11.2)), (8, v73)], [(1, .box [.s (List.map encInt_u8 x95.1.code), x95.1.at', .v (.int .u64 x95.1.seed)]), (2, .row 3 (List.map encItem x1.2)), (18, .row 6 (List.map encChange (v71 ++ [(Change.mk v72 (w64 (1 + x77.2)) x75.2 x81.2 x83.2 x85.2)])))], 156, [(1, L 1)]⟩ : St)) (hpin := ⟨⟨rfl, rfl⟩, trivial⟩)) ?_
 refine AW.region ?_
 refine AO.pu T ?_
 refine AO.val rfl rfl (arw_ok rfl rfl rfl rfl) ?_
 refine AO.pu T ?_
 refine AO.nil ?_
 refine ⟨(k13, x95.1.code, x95.1.at', x95.1.seed, (v71 ++ [(Change.mk v72 (w64 (1 + x77.2)) x75.2 x81.2 x83.2 x85.2)]), w64 (v72 + x95.2), w64 (v73 + 1)), hH, Nat.lt_succ_self _, ?_⟩
 exact Le.ct 18 12 (hpin := ⟨⟨rfl, rfl⟩, trivial⟩)
 replace hH := condF hc hH
 refine AW.skip ?_
 obtain ⟨x97, hx98, hH⟩ := bindE hH
 refine AW.region ?_
 iterate 2 refine AO.pu T ?_
 refine AO.step rfl (mk_map_ok T rfl 20 rfl rfl rfl rfl rfl (f := encInt) (l := ([0, 0, 1, 5] : List Int)) rfl rfl (fun _ => rfl) rfl rfl rfl rfl rfl) ?_
 refine AO.le (Le.freezeM 20 (g := encInt) rfl (fun y => .vs rfl)) ?_
 refine AO.step rfl (callM_ok rfl 21 rfl rfl (es := [.pw (encL1Cur (L1Cur.mk x85.1.code x85.1.at' x85.1.seed)), .s (([0, 0, 1, 5] : List Int).map encInt)]) (outs := [.pw (encL1Cur x97.1), .u]) (ids := [1]) (by exact expLG_cons (.c (.box rfl rfl)) (expLG_cons (.c .s) (expLG_nil))) (by decide) (.inl (by rfl)) (by rfl) (spec_l1Cur_among_ok _ _ _ (hx98)) rfl (by rfl) rfl) ?_
 refine AO.val rfl rfl (arw_ok rfl rfl rfl rfl) ?_
 refine AO.pu T ?_
 refine AO.nil ?_
 refine AW.le (Le.ct 0 0 (σ' := (⟨[(0, .p 1 0), (4, .R 2), (5, .R 12), (6, w64 (v72 + x97.2)), (7, w64 (60 + x11.2)), (8, v73)], [(1, .box [.s (List.map encInt_u8 x97.1.code), x97.1.at', .v (.int .u64 x97.1.seed)]), (2, .row 3 (List.map encItem x1.2)), (12, .row 6 (List.map encChange v71))], 156, [(1, L 1)]⟩ : St)) (hpin := ⟨⟨rfl, rfl⟩, trivial⟩)) ?_
 refine AW.region ?_
 refine AO.pu T ?_
 refine AO.val rfl rfl (arw_ok rfl rfl rfl rfl) ?_
 refine AO.pu T ?_
 refine AO.nil ?_
 refine ⟨(k13, x97.1.code, x97.1.at', x97.1.seed, v71, w64 (v72 + x97.2), w64 (v73 + 1)), hH, Nat.lt_succ_self _, ?_⟩
 exact Le.ct 0 0 (hpin := ⟨⟨rfl, rfl⟩, trivial⟩)
 replace hH := condF hc hH
 refine AW.exit ?_
 iterate 2 refine AW.seq ?_
 refine AW.region ?_
 refine AO.pu T ?_
 refine AO.val rfl rfl (len_row_ok T rfl rfl rfl rfl) ?_
 refine AO.pu T ?_
 refine AO.nil ?_
 refine AW.cond (b := decide ((v71.length : Int) > 0)) rfl (fun hc => ?_) (fun hc => ?_)
 replace hH := condT hc hH
 refine AW.seq ?_
 obtain ⟨x99, hx100, hH⟩ := bindE hH
 obtain ⟨x101, hx102, hH⟩ := bindE hH
 refine AW.region ?_
 iterate 3 refine AO.pu T ?_
 refine AO.val rfl rfl (len_row_ok T rfl rfl rfl rfl) ?_
 refine AO.step rfl (callM_ok rfl 21 rfl rfl (es := [.pw (encL1Cur (L1Cur.mk v68 v69 v70)), .v (.int .i64 (v71.length : Int))]) (outs := [.pw (encL1Cur x99.1), .u]) (ids := [1]) (by exact expLG_cons (.c (.box rfl rfl)) (expLG_cons (.c .v) (expLG_nil))) (by decide) (.inl (by rfl)) (by rfl) (spec_l1Cur_pick_ok _ _ _ (hx100)) rfl (by rfl) rfl) ?_
 refine AO.val rfl rfl (ix_row_ok T rfl rfl rfl rfl rfl rfl (hx102)) ?_
 refine AO.pu T ?_
 refine AO.nil (AW.seq ?_)
 obtain ⟨x103, hx104, hH⟩ := bindE hH
 refine AW.region ?_
 refine AO.pu T ?_
 refine AO.step rfl (callM_ok rfl 21 rfl rfl (es := [.pw (encL1Cur (L1Cur.mk x99.1.code x99.1.at' x99.1.seed)), .v (.int .i64 40)]) (outs := [.pw (encL1Cur x103.1), .u]) (ids := [1]) (by exact expLG_cons (.c (.box rfl rfl)) (expLG_cons (.c .v) (expLG_nil))) (by decide) (.inl (by rfl)) (by rfl) (spec_l1Cur_pick_ok _ _ _ (hx104)) rfl (by rfl) rfl) ?_
 refine AO.nil ?_
 refine AW.block ?_
 refine AW.seq (AW.region ?_)
 iterate 2 refine AO.pu T ?_
 refine AO.nil ?_
 refine AW.cond (b := (x103.2 == 0)) rfl (fun hc => ?_) (fun hc => ?_)
 replace hH := condT hc hH
 obtain ⟨x105, hx106, hH⟩ := bindE hH
 refine AW.region ?_
 iterate 2 refine AO.pu T ?_
 refine AO.step rfl (mk_map_ok T rfl 21 rfl rfl rfl rfl rfl (f := encInt) (l := ([(-1), 0, 100000, 100001] : List Int)) rfl rfl (fun _ => rfl) rfl rfl rfl rfl rfl) ?_
 refine AO.le (Le.freezeM 21 (g := encInt) rfl (fun y => .vs rfl)) ?_
 refine AO.step rfl (callM_ok rfl 22 rfl rfl (es := [.pw (encL1Cur (L1Cur.mk x103.1.code x103.1.at' x103.1.seed)), .s (([(-1), 0, 100000, 100001] : List Int).map encInt)]) (outs := [.pw (encL1Cur x105.1), .u]) (ids := [1]) (by exact expLG_cons (.c (.box rfl rfl)) (expLG_cons (.c .s) (expLG_nil))) (by decide) (.inl (by rfl)) (by rfl) (spec_l1Cur_among_ok _ _ _ (hx106)) rfl (by rfl) rfl) ?_
 iterate 2 refine AO.pu T ?_
 refine AO.step rfl (store_row_ok T rfl rfl rfl rfl rfl (getI_get (hx102)) rfl rfl rfl rfl (u' := (Change.mk x105.2 x101.caller x101.item x101.name x101.mark x101.review)) rfl rfl) ?_
 refine AO.nil ?_
 refine AW.le (Le.ct 0 0 (σ' := (⟨[(4, .R 2), (5, .R 12)], [(1, .box [.s (List.map encInt_u8 x105.1.code), x105.1.at', .v (.int .u64 x105.1.seed)]), (2, .row 3 (List.map encItem x1.2)), (12, .row 6 (List.map encChange (v71.set x99.2.toNat (Change.mk x105.2 x101.caller x101.item x101.name x101.mark x101.review))))], 156, [(1, L 1)]⟩ : St)) (hpin := ⟨⟨rfl, rfl⟩, trivial⟩)) ?_
 refine AW.seq (AW.region ?_)
 iterate 4 refine AO.pu T ?_
 refine AO.nil (AW.ret ?_)
 have hR := someE hH; subst hR
 exact ⟨trivial, rfl, _, [2, 12], [1], rfl, expLG_cons (.c (.box rfl rfl)) (expLG_nil), .t (expLG_cons (.c (.rowR rfl)) (expLG_cons (.c (.rowR rfl)) (expLG_nil))), by decide⟩
 replace hH := condF hc hH
 refine AW.seq (AW.region ?_)
 iterate 2 refine AO.pu T ?_
 refine AO.nil ?_
 refine AW.le (Le.ct 0 0 (σ' := (⟨[(0, .p 1 0), (4, .R 2), (5, .R 12), (12, .e 12 x99.2.toNat 0), (101, x103.2), (110, .v (.bool (x103.2 == 1)))], [(1, .box [.s (List.map encInt_u8 x103.1.code), x103.1.at', .v (.int .u64 x103.1.seed)]), (2, .row 3 (List.map encItem x1.2)), (12, .row 6 (List.map encChange v71))], 156, [(1, L 1)]⟩ : St)) (hpin := ⟨⟨rfl, rfl⟩, trivial⟩)) ?_
 refine AW.cond (b := (x103.2 == 1)) rfl (fun hc => ?_) (fun hc => ?_)
 replace hH := condT hc hH
 obtain ⟨x107, hx108, hH⟩ := bindE hH
 refine AW.region ?_
 iterate 2 refine AO.pu T ?_
 refine AO.step rfl (mk_map_ok T rfl 22 rfl rfl rfl rfl rfl (f := encInt) (l := ([0, 9, 10] : List Int)) rfl rfl (fun _ => rfl) rfl rfl rfl rfl rfl) ?_
 refine AO.le (Le.freezeM 22 (g := encInt) rfl (fun y => .vs rfl)) ?_
 refine AO.step rfl (callM_ok rfl 23 rfl rfl (es := [.pw (encL1Cur (L1Cur.mk x103.1.code x103.1.at' x103.1.seed)), .s (([0, 9, 10] : List Int).map encInt)]) (outs := [.pw (encL1Cur x107.1), .u]) (ids := [1]) (by exact expLG_cons (.c (.box rfl rfl)) (expLG_cons (.c .s) (expLG_nil))) (by decide) (.inl (by rfl)) (by rfl) (spec_l1Cur_among_ok _ _ _ (hx108)) rfl (by rfl) rfl) ?_
 iterate 2 refine AO.pu T ?_
 refine AO.step rfl (store_row_ok T rfl rfl rfl rfl rfl (getI_get (hx102)) rfl rfl rfl rfl (u' := (Change.mk x101.tick x107.2 x101.item x101.name x101.mark x101.review)) rfl rfl) ?_
 refine AO.nil (AW.seq ?_)
 refine AW.region ?_
 iterate 4 refine AO.pu T ?_
 refine AO.nil (AW.ret ?_)
 have hR := someE hH; subst hR
 exact ⟨trivial, rfl, _, [2, 12], [1], rfl, expLG_cons (.c (.box rfl rfl)) (expLG_nil), .t (expLG_cons (.c (.rowR rfl)) (expLG_cons (.c (.rowR rfl)) (expLG_nil))), by decide⟩
 replace hH := condF hc hH
 refine AW.seq (AW.region ?_)
 iterate 2 refine AO.pu T ?_
 refine AO.nil ?_
 refine AW.cond (b := (x103.2 == 2)) rfl (fun hc => ?_) (fun hc => ?_)
 replace hH := condT hc hH
 obtain ⟨x109, hx110, hH⟩ := bindE hH
 refine AW.region ?_
 iterate 3 refine AO.pu T ?_
 refine AO.val rfl rfl (len_row_ok T rfl rfl rfl rfl) ?_
 refine AO.step rfl (mk_map_ok T rfl 23 rfl rfl rfl rfl rfl (f := encInt) (l := [(-1), (x1.2.length : Int)]) rfl rfl (fun _ => rfl) rfl rfl rfl rfl rfl) ?_
 refine AO.le (Le.freezeM 23 (g := encInt) rfl (fun y => .vs rfl)) ?_
 refine AO.step rfl (callM_ok rfl 24 rfl rfl (es := [.pw (encL1Cur (L1Cur.mk x103.1.code x103.1.at' x103.1.seed)), .s ([(-1), (x1.2.length : Int)].map encInt)]) (outs := [.pw (encL1Cur x109.1), .u]) (ids := [1]) (by exact expLG_cons (.c (.box rfl rfl)) (expLG_cons (.c .s) (expLG_nil))) (by decide) (.inl (by rfl)) (by rfl) (spec_l1Cur_among_ok _ _ _ (hx110)) rfl (by rfl) rfl) ?_
 iterate 2 refine AO.pu T ?_
 refine AO.step rfl (store_row_ok T rfl rfl rfl rfl rfl (getI_get (hx102)) rfl rfl rfl rfl (u' := (Change.mk x101.tick x101.caller x109.2 x101.name x101.mark x101.review)) rfl rfl) ?_
 refine AO.nil (AW.seq ?_)
 refine AW.region ?_
 iterate 4 refine AO.pu T ?_
 refine AO.nil (AW.ret ?_)
 have hR := someE hH; subst hR
 exact ⟨trivial, rfl, _, [2, 12], [1], rfl, expLG_cons (.c (.box rfl rfl)) (expLG_nil), .t (expLG_cons (.c (.rowR rfl)) (expLG_cons (.c (.rowR rfl)) (expLG_nil))), by decide⟩
 replace hH := condF hc hH
 refine AW.seq (AW.region ?_)
 iterate 2 refine AO.pu T ?_
 refine AO.nil ?_
 refine AW.cond (b := (x103.2 == 3)) rfl (fun hc => ?_) (fun hc => ?_)
 replace hH := condT hc hH
 obtain ⟨x111, hx112, hH⟩ := bindE hH
 refine AW.region ?_
 iterate 2 refine AO.pu T ?_
 refine AO.step rfl (mk_map_ok T rfl 24 rfl rfl rfl rfl rfl (f := encInt) (l := ([(-1), 3] : List Int)) rfl rfl (fun _ => rfl) rfl rfl rfl rfl rfl) ?_
 refine AO.le (Le.freezeM 24 (g := encInt) rfl (fun y => .vs rfl)) ?_
 refine AO.step rfl (callM_ok rfl 25 rfl rfl (es := [.pw (encL1Cur (L1Cur.mk x103.1.code x103.1.at' x103.1.seed)), .s (([(-1), 3] : List Int).map encInt)]) (outs := [.pw (encL1Cur x111.1), .u]) (ids := [1]) (by exact expLG_cons (.c (.box rfl rfl)) (expLG_cons (.c .s) (expLG_nil))) (by decide) (.inl (by rfl)) (by rfl) (spec_l1Cur_among_ok _ _ _ (hx112)) rfl (by rfl) rfl) ?_
 iterate 2 refine AO.pu T ?_
 refine AO.step rfl (store_row_ok T rfl rfl rfl rfl rfl (getI_get (hx102)) rfl rfl rfl rfl (u' := (Change.mk x101.tick x101.caller x101.item x111.2 x101.mark x101.review)) rfl rfl) ?_
 refine AO.nil (AW.seq ?_)
 refine AW.region ?_
 iterate 4 refine AO.pu T ?_
 refine AO.nil (AW.ret ?_)
 have hR := someE hH; subst hR
 exact ⟨trivial, rfl, _, [2, 12], [1], rfl, expLG_cons (.c (.box rfl rfl)) (expLG_nil), .t (expLG_cons (.c (.rowR rfl)) (expLG_cons (.c (.rowR rfl)) (expLG_nil))), by decide⟩
 replace hH := condF hc hH
 refine AW.seq (AW.region ?_)
 iterate 2 refine AO.pu T ?_
 refine AO.nil ?_
 refine AW.cond (b := (x103.2 == 4)) rfl (fun hc => ?_) (fun hc => ?_)
 replace hH := condT hc hH
 obtain ⟨x113, hx114, hH⟩ := bindE hH
 refine AW.region ?_
 iterate 2 refine AO.pu T ?_
 refine AO.step rfl (mk_map_ok T rfl 25 rfl rfl rfl rfl rfl (f := encInt) (l := ([(-1), 4] : List Int)) rfl rfl (fun _ => rfl) rfl rfl rfl rfl rfl) ?_
 refine AO.le (Le.freezeM 25 (g := encInt) rfl (fun y => .vs rfl)) ?_
 refine AO.step rfl (callM_ok rfl 26 rfl rfl (es := [.pw (encL1Cur (L1Cur.mk x103.1.code x103.1.at' x103.1.seed)), .s (([(-1), 4] : List Int).map encInt)]) (outs := [.pw (encL1Cur x113.1), .u]) (ids := [1]) (by exact expLG_cons (.c (.box rfl rfl)) (expLG_cons (.c .s) (expLG_nil))) (by decide) (.inl (by rfl)) (by rfl) (spec_l1Cur_among_ok _ _ _ (hx114)) rfl (by rfl) rfl) ?_
 iterate 2 refine AO.pu T ?_
 refine AO.step rfl (store_row_ok T rfl rfl rfl rfl rfl (getI_get (hx102)) rfl rfl rfl rfl (u' := (Change.mk x101.tick x101.caller x101.item x101.name x113.2 x101.review)) rfl rfl) ?_
 refine AO.nil (AW.seq ?_)
 refine AW.region ?_
 iterate 4 refine AO.pu T ?_
 refine AO.nil (AW.ret ?_)
 have hR := someE hH; subst hR
 exact ⟨trivial, rfl, _, [2, 12], [1], rfl, expLG_cons (.c (.box rfl rfl)) (expLG_nil), .t (expLG_cons (.c (.rowR rfl)) (expLG_cons (.c (.rowR rfl)) (expLG_nil))), by decide⟩
 replace hH := condF hc hH
 refine AW.seq (AW.region ?_)
 iterate 2 refine AO.pu T ?_
 refine AO.nil ?_
 refine AW.cond (b := (x103.2 == 5)) rfl (fun hc => ?_) (fun hc => ?_)
 replace hH := condT hc hH
 refine AW.region ?_
 iterate 4 refine AO.pu T ?_
 refine AO.val rfl rfl (load_row_ok T rfl rfl rfl rfl (getI_get (hx102)) rfl rfl rfl) ?_
 iterate 3 refine AO.pu T ?_
 refine AO.step rfl (store_row_ok T rfl rfl rfl rfl rfl (getI_get (hx102)) rfl rfl rfl rfl (u' := (Change.mk x101.tick x101.caller x101.item x101.name x101.mark (!x101.review))) rfl rfl) ?_
 refine AO.nil (AW.seq ?_)
 refine AW.region ?_
 iterate 4 refine AO.pu T ?_
 refine AO.nil (AW.ret ?_)
 have hR := someE hH; subst hR
 exact ⟨trivial, rfl, _, [2, 12], [1], rfl, expLG_cons (.c (.box rfl rfl)) (expLG_nil), .t (expLG_cons (.c (.rowR rfl)) (expLG_cons (.c (.rowR rfl)) (expLG_nil))), by decide⟩
 replace hH := condF hc hH
 refine AW.skip ?_
 refine AW.seq (AW.region ?_)
 iterate 4 refine AO.pu T ?_
 refine AO.nil (AW.ret ?_)
 have hR := someE hH; subst hR
 exact ⟨trivial, rfl, _, [2, 12], [1], rfl, expLG_cons (.c (.box rfl rfl)) (expLG_nil), .t (expLG_cons (.c (.rowR rfl)) (expLG_cons (.c (.rowR rfl)) (expLG_nil))), by decide⟩
 replace hH := condF hc hH
 refine AW.skip ?_
 refine AW.seq (AW.region ?_)
 iterate 4 refine AO.pu T ?_
 refine AO.nil (AW.ret ?_)
 have hR := someE hH; subst hR
 exact ⟨trivial, rfl, _, [2, 12], [1], rfl, expLG_cons (.c (.box rfl rfl)) (expLG_nil), .t (expLG_cons (.c (.rowR rfl)) (expLG_cons (.c (.rowR rfl)) (expLG_nil))), by decide⟩
 replace hH := condF hc hH
 refine AW.skip ?_
 iterate 2 refine AW.seq ?_
 refine AW.region ?_
 refine AO.pu T ?_
 refine AO.nil ?_
 refine AW.block ?_
 refine AW.loopS (fun s : Nat × (List Int) × Int × Int × (List Change) × Int × Int => (⟨[(0, .p 1 0), (4, .R 2), (5, .R 35), (6, s.2.2.2.2.2.1), (7, x7.2), (8, s.2.2.2.2.2.2)], [(1, .box [.s (List.map encInt_u8 s.2.1), s.2.2.1, .v (.int .u64 s.2.2.2.1)]), (2, .row 3 (List.map encItem x1.2)), (35, .row 6 (List.map encChange s.2.2.2.2.1))], 156, [(1, L 1)]⟩ : St)) (fun s => spec_l1Cur_changing_l2 x1 x7 s.1 s.2.1 s.2.2.1 s.2.2.2.1 s.2.2.2.2.1 s.2.2.2.2.2.1 s.2.2.2.2.2.2 = some r) (fun s => s.1) (fuel, x9.1.code, x9.1.at', x9.1.seed, [], x5.2, 0) hH ?_ ?_
 refine Le.trans (Le.void 5 35 6 rfl rfl) ?_
 exact Le.ct 0 0 (hpin := ⟨⟨rfl, rfl⟩, trivial⟩)
 rintro ⟨k115, v170, v171, v172, v173, v174, v175⟩ hH
 replace hH : spec_l1Cur_changing_l2 x1 x7 k115 v170 v171 v172 v173 v174 v175 = some r := hH
 try dsimp only
 rcases k115 with _ | k115
 cases (show none = some _ from hH)
 rw [spec_l1Cur_changing_l2] at hH
 iterate 2 refine AW.seq ?_
 refine AW.region ?_
 refine AO.pu T ?_
 refine AO.val rfl rfl (len_row_ok T rfl rfl rfl rfl) ?_
 iterate 3 refine AO.pu T ?_
 refine AO.pureG T [] rfl trivial rfl rfl ?_
 refine AO.pureG T [39] rfl ⟨fun h => h, trivial⟩ rfl rfl ?_
 refine AO.val rfl rfl (pick_and rfl rfl rfl rfl) ?_
 refine AO.nil ?_
 refine AW.cond (b := (decide ((v173.length : Int) < x7.2) && decide (v175 < 200))) rfl (fun hc => ?_) (fun hc => ?_)
 replace hH := condT hc hH
 refine AW.skip ?_
 refine AW.seq ?_
 refine AW.block ?_
 refine AW.seq ?_
 obtain ⟨x177, hx178, hH⟩ := bindE hH
 refine AW.region ?_
 iterate 2 refine AO.pu T ?_
 refine AO.val rfl rfl (len_row_ok T rfl rfl rfl rfl) ?_
 refine AO.step rfl (callM_ok rfl 38 rfl rfl (es := [.pw (encL1Cur (L1Cur.mk v170 v171 v172)), .v (.int .i64 (x1.2.length : Int))]) (outs := [.pw (encL1Cur x177.1), .u]) (ids := [1]) (by exact expLG_cons (.c (.box rfl rfl)) (expLG_cons (.c .v) (expLG_nil))) (by decide) (.inl (by rfl)) (by rfl) (spec_l1Cur_pick_ok _ _ _ (hx178)) rfl (by rfl) rfl) ?_
 refine AO.pu T ?_
 refine AO.nil (AW.seq ?_)
 obtain ⟨x179, hx180, hH⟩ := bindE hH
 obtain ⟨x181, hx182, hH⟩ := bindE hH
 obtain ⟨x183, hx184, hH⟩ := bindE hH
 obtain ⟨x185, hx186, hH⟩ := bindE hH
 obtain ⟨x187, hx188, hH⟩ := bindE hH
 refine AW.drawn 19 38 [1] mix (by kernel_rfl) rfl ?_
 iterate 2 refine AD.pure T rfl rfl rfl ?_
 refine AD.k rfl rfl (FStep.callM rfl rfl rfl rfl (es := [.pw (encL1Cur (L1Cur.mk x177.1.code x177.1.at' x177.1.seed)), .v (.int .i64 3)]) (outs := [.pw (encL1Cur x179.1), .u]) (ids := [1]) (by exact expLG_cons (.c (.box rfl rfl)) (expLG_cons (.c .v) (expLG_nil))) (by decide) (.inl (by rfl)) (by rfl) (spec_l1Cur_pick_ok _ _ _ (hx180)) rfl (by rfl) rfl) rfl rfl rfl ?_
 refine AD.val rfl rfl (arw_ok rfl rfl rfl rfl) ?_
 iterate 4 refine AD.pure T rfl rfl rfl ?_
 refine AD.val rfl rfl (ix_row_ok T rfl rfl rfl rfl rfl rfl (hx182)) ?_
 refine AD.pure T rfl rfl rfl ?_
 refine AD.val rfl rfl (load_row_ok T rfl rfl rfl rfl (getI_get (hx182)) rfl rfl rfl) ?_
 refine AD.val rfl rfl (len_map_ok T rfl rfl rfl) ?_
 refine AD.k rfl rfl (FStep.callM rfl rfl rfl rfl (es := [.pw (encL1Cur (L1Cur.mk x179.1.code x179.1.at' x179.1.seed)), .v (.int .i64 (x181.names.length : Int))]) (outs := [.pw (encL1Cur x183.1), .u]) (ids := [1]) (by exact expLG_cons (.c (.box rfl rfl)) (expLG_cons (.c .v) (expLG_nil))) (by decide) (.inl (by rfl)) (by rfl) (spec_l1Cur_pick_ok _ _ _ (hx184)) rfl (by rfl) rfl) rfl rfl rfl ?_
 refine AD.pure T rfl rfl rfl ?_
 refine AD.k rfl rfl (FStep.callM rfl rfl rfl rfl (es := [.pw (encL1Cur (L1Cur.mk x183.1.code x183.1.at' x183.1.seed)), .v (.int .i64 4)]) (outs := [.pw (encL1Cur x185.1), .u]) (ids := [1]) (by exact expLG_cons (.c (.box rfl rfl)) (expLG_cons (.c .v) (expLG_nil))) (by decide) (.inl (by rfl)) (by rfl) (spec_l1Cur_pick_ok _ _ _ (hx186)) rfl (by rfl) rfl) rfl rfl rfl ?_
 refine AD.pure T rfl rfl rfl ?_
 refine AD.k rfl rfl (FStep.callM rfl rfl rfl rfl (es := [.pw (encL1Cur (L1Cur.mk x185.1.code x185.1.at' x185.1.seed)), .v (.int .i64 4)]) (outs := [.pw (encL1Cur x187.1), .u]) (ids := [1]) (by exact expLG_cons (.c (.box rfl rfl)) (expLG_cons (.c .v) (expLG_nil))) (by decide) (.inl (by rfl)) (by rfl) (spec_l1Cur_one_ok _ _ _ (hx188)) rfl (by rfl) rfl) rfl rfl rfl ?_
 refine AD.pure T (d := .g [v174, w64 (1 + x179.2), x177.2, x183.2, x185.2, .v (.bool x187.2)]) rfl rfl rfl ?_
 refine AD.q (FStep.alloc T rfl rfl rfl rfl rfl rfl) (by simp [namesIn]) (Nat.le_succ _) rfl ?_
 refine AD.nil ?_
 refine AO.se T [v174, w64 (1 + x179.2), x177.2, x183.2, x185.2, .v (.bool x187.2)] ?_
 refine AO.nil ?_
 refine AW.le (Le.ct 0 0 (σ' := (⟨[(0, .p 1 0), (4, .R 2), (5, .R 35), (6, v174), (7, x7.2), (8, v175), (10, .p 38 0)], [(1, .box [.s (List.map encInt_u8 x187.1.code), x187.1.at', .v (.int .u64 x187.1.seed)]), (2, .row 3 (List.map encItem x1.2)), (35, .row 6 (List.map encChange v173)), (38, .box [v174, w64 (1 + x179.2), x177.2, x183.2, x185.2, .v (.bool x187.2)])], 156, [(1, L 1)]⟩ : St)) (hpin := ⟨⟨rfl, rfl⟩, trivial⟩)) ?_
 iterate 2 refine AW.seq ?_
 obtain ⟨u189, hx190, hH⟩ := bindE hH
 obtain ⟨u191, hx192, hH⟩ := bindE hH
 refine AW.drawn 5 39 [] mix (by kernel_rfl) rfl ?_
 refine AD.v (FStep.mk0 T rfl rfl rfl rfl rfl) ?_
 refine AD.pure T rfl rfl rfl ?_
 refine AD.q (FStep.app_wv T rfl rfl rfl rfl rfl rfl rfl (by decide) rfl rfl rfl (fun _ => rfl) (needT (hx190)) rfl) (by simp [namesIn]) (Nat.le_succ _) rfl ?_
 refine AD.pure T (d := .g [v174, w64 (1 + x179.2), x177.2, x183.2, x185.2, .v (.bool x187.2)]) rfl rfl rfl ?_
 refine AD.q (FStep.mk T (f := encChange) (l := [(Change.mk v174 (w64 (1 + x179.2)) x177.2 x183.2 x185.2 x187.2)]) rfl rfl rfl rfl rfl rfl rfl rfl rfl (fun _ => rfl) rfl rfl rfl rfl) (by simp [namesIn]) (Nat.le_succ _) rfl ?_
 refine AD.nil ?_
 refine AO.step rfl (app_rv_map T rfl 41 rfl rfl rfl rfl rfl (by decide) rfl rfl rfl rfl (fun _ => rfl) (needT (hx192)) rfl rfl) ?_
 refine AO.pu T ?_
 refine AO.nil (AW.seq ?_)
 obtain ⟨x193, hx194, hH⟩ := bindE hH
 obtain ⟨x195, hx196, hH⟩ := bindE hH
 refine AW.region ?_
 iterate 2 refine AO.pu T ?_
 refine AO.val rfl rfl (callLV_ok rfl rfl rfl (es := [.s (List.map encItem x1.2), .s (List.map encChange (v173 ++ [(Change.mk v174 (w64 (1 + x179.2)) x177.2 x183.2 x185.2 x187.2)]))]) ⟨(.rowR rfl (.map fun y => .vs rfl)), (.rowR rfl (.map fun y => .vs rfl)), trivial⟩ (spec_hiGood_ok _ _ _ (hx194)) (zfree_v _) rfl) ?_
 refine AO.pu T ?_
 refine AO.pureG T [] rfl trivial rfl rfl ?_
 refine AO.guard [76] rfl ⟨fun h => h, trivial⟩ (fun hg => len_row_ok T rfl rfl rfl rfl) rfl ?_
 refine AO.pureG T [77] rfl ⟨fun h => h, trivial⟩ rfl rfl ?_
 refine AO.pureG T [78] rfl ⟨fun h => h, trivial⟩ rfl rfl ?_
 iterate 2 refine AO.pureG T [] rfl trivial rfl rfl ?_
 refine AO.guard [80, 81] rfl ⟨fun h => h, fun h => h, trivial⟩ (fun hg => callLV_ok rfl rfl rfl (es := [.s (List.map encItem x1.2), .s (List.map encChange v173)]) ⟨(.rowR rfl (.map fun y => .vs rfl)), (.rowR rfl (.map fun y => .vs rfl)), trivial⟩ (spec_hiGood_ok _ _ _ (optT hx196 hg)) (zfree_v _) rfl) rfl ?_
 refine AO.guard [79] rfl ⟨fun h => h, trivial⟩ (fun hg => pick_and rfl rfl rfl (by rw [hg]; exact Bool.true_and _)) rfl ?_
 refine AO.val rfl rfl (pick_or rfl rfl rfl rfl) ?_
 refine AO.nil ?_
 refine AW.cond (b := (x193 || (((v173.length : Int) == 60) && x195))) rfl (fun hc => ?_) (fun hc => ?_)
 replace hH := condT hc hH
 refine AW.region ?_
 iterate 2 refine AO.pu T ?_
 refine AO.nil ?_
 obtain ⟨x197, hx198, hH⟩ := bindE hH
 refine AW.region ?_
 iterate 2 refine AO.pu T ?_
 refine AO.step rfl (mk_map_ok T rfl 42 rfl rfl rfl rfl rfl (f := encInt) (l := ([0, 0, 1, 5] : List Int)) rfl rfl (fun _ => rfl) rfl rfl rfl rfl rfl) ?_
 refine AO.le (Le.freezeM 42 (g := encInt) rfl (fun y => .vs rfl)) ?_
 refine AO.step rfl (callM_ok rfl 43 rfl rfl (es := [.pw (encL1Cur (L1Cur.mk x187.1.code x187.1.at' x187.1.seed)), .s (([0, 0, 1, 5] : List Int).map encInt)]) (outs := [.pw (encL1Cur x197.1), .u]) (ids := [1]) (by exact expLG_cons (.c (.box rfl rfl)) (expLG_cons (.c .s) (expLG_nil))) (by decide) (.inl (by rfl)) (by rfl) (spec_l1Cur_among_ok _ _ _ (hx198)) rfl (by rfl) rfl) ?_
 refine AO.val rfl rfl (arw_ok rfl rfl rfl rfl) ?_
 refine AO.pu T ?_
 refine AO.nil ?_
 refine AW.le (Le.ct 0 0 (σ' := (⟨[(0, .p 1 0), (4, .R 2), (5, .R 41), (6, w64 (v174 + x197.2)), (7, x7.2), (8, v175)], [(1, .box [.s (List.map encInt_u8 x197.1.code), x197.1.at', .v (.int .u64 x197.1.seed)]), (2, .row 3 (List.map encItem x1.2)), (41, .row 6 (List.map encChange (v173 ++ [(Change.mk v174 (w64 (1 + x179.2)) x177.2 x183.2 x185.2 x187.2)])))], 156, [(1, L 1)]⟩ : St)) (hpin := ⟨⟨rfl, rfl⟩, trivial⟩)) ?_
 refine AW.region ?_
 refine AO.pu T ?_
 refine AO.val rfl rfl (arw_ok rfl rfl rfl rfl) ?_
 refine AO.pu T ?_
 refine AO.nil ?_
 refine ⟨(k115, x197.1.code, x197.1.at', x197.1.seed, (v173 ++ [(Change.mk v174 (w64 (1 + x179.2)) x177.2 x183.2 x185.2 x187.2)]), w64 (v174 + x197.2), w64 (v175 + 1)), hH, Nat.lt_succ_self _, ?_⟩
 exact Le.ct 41 35 (hpin := ⟨⟨rfl, rfl⟩, trivial⟩)
 replace hH := condF hc hH
 refine AW.skip ?_
 obtain ⟨x199, hx200, hH⟩ := bindE hH
 refine AW.region ?_
 iterate 2 refine AO.pu T ?_
 refine AO.step rfl (mk_map_ok T rfl 43 rfl rfl rfl rfl rfl (f := encInt) (l := ([0, 0, 1, 5] : List Int)) rfl rfl (fun _ => rfl) rfl rfl rfl rfl rfl) ?_
 refine AO.le (Le.freezeM 43 (g := encInt) rfl (fun y => .vs rfl)) ?_
 refine AO.step rfl (callM_ok rfl 44 rfl rfl (es := [.pw (encL1Cur (L1Cur.mk x187.1.code x187.1.at' x187.1.seed)), .s (([0, 0, 1, 5] : List Int).map encInt)]) (outs := [.pw (encL1Cur x199.1), .u]) (ids := [1]) (by exact expLG_cons (.c (.box rfl rfl)) (expLG_cons (.c .s) (expLG_nil))) (by decide) (.inl (by rfl)) (by rfl) (spec_l1Cur_among_ok _ _ _ (hx200)) rfl (by rfl) rfl) ?_
 refine AO.val rfl rfl (arw_ok rfl rfl rfl rfl) ?_
 refine AO.pu T ?_
 refine AO.nil ?_
 refine AW.le (Le.ct 0 0 (σ' := (⟨[(0, .p 1 0), (4, .R 2), (5, .R 35), (6, w64 (v174 + x199.2)), (7, x7.2), (8, v175)], [(1, .box [.s (List.map encInt_u8 x199.1.code), x199.1.at', .v (.int .u64 x199.1.seed)]), (2, .row 3 (List.map encItem x1.2)), (35, .row 6 (List.map encChange v173))], 156, [(1, L 1)]⟩ : St)) (hpin := ⟨⟨rfl, rfl⟩, trivial⟩)) ?_
 refine AW.region ?_
 refine AO.pu T ?_
 refine AO.val rfl rfl (arw_ok rfl rfl rfl rfl) ?_
 refine AO.pu T ?_
 refine AO.nil ?_
 refine ⟨(k115, x199.1.code, x199.1.at', x199.1.seed, v173, w64 (v174 + x199.2), w64 (v175 + 1)), hH, Nat.lt_succ_self _, ?_⟩
 exact Le.ct 0 0 (hpin := ⟨⟨rfl, rfl⟩, trivial⟩)
 replace hH := condF hc hH
 refine AW.exit ?_
 iterate 2 refine AW.seq ?_
 refine AW.region ?_
 refine AO.pu T ?_
 refine AO.val rfl rfl (len_row_ok T rfl rfl rfl rfl) ?_
 refine AO.pu T ?_
 refine AO.nil ?_
 refine AW.cond (b := decide ((v173.length : Int) > 0)) rfl (fun hc => ?_) (fun hc => ?_)
 replace hH := condT hc hH
 refine AW.seq ?_
 obtain ⟨x201, hx202, hH⟩ := bindE hH
 obtain ⟨x203, hx204, hH⟩ := bindE hH
 refine AW.region ?_
 iterate 3 refine AO.pu T ?_
 refine AO.val rfl rfl (len_row_ok T rfl rfl rfl rfl) ?_
 refine AO.step rfl (callM_ok rfl 44 rfl rfl (es := [.pw (encL1Cur (L1Cur.mk v170 v171 v172)), .v (.int .i64 (v173.length : Int))]) (outs := [.pw (encL1Cur x201.1), .u]) (ids := [1]) (by exact expLG_cons (.c (.box rfl rfl)) (expLG_cons (.c .v) (expLG_nil))) (by decide) (.inl (by rfl)) (by rfl) (spec_l1Cur_pick_ok _ _ _ (hx202)) rfl (by rfl) rfl) ?_
 refine AO.val rfl rfl (ix_row_ok T rfl rfl rfl rfl rfl rfl (hx204)) ?_
 refine AO.pu T ?_
 refine AO.nil (AW.seq ?_)
 obtain ⟨x205, hx206, hH⟩ := bindE hH
 refine AW.region ?_
 refine AO.pu T ?_
 refine AO.step rfl (callM_ok rfl 44 rfl rfl (es := [.pw (encL1Cur (L1Cur.mk x201.1.code x201.1.at' x201.1.seed)), .v (.int .i64 40)]) (outs := [.pw (encL1Cur x205.1), .u]) (ids := [1]) (by exact expLG_cons (.c (.box rfl rfl)) (expLG_cons (.c .v) (expLG_nil))) (by decide) (.inl (by rfl)) (by rfl) (spec_l1Cur_pick_ok _ _ _ (hx206)) rfl (by rfl) rfl) ?_
 refine AO.nil ?_
 refine AW.block ?_
 refine AW.seq (AW.region ?_)
 iterate 2 refine AO.pu T ?_
 refine AO.nil ?_
 refine AW.cond (b := (x205.2 == 0)) rfl (fun hc => ?_) (fun hc => ?_)
 replace hH := condT hc hH
 obtain ⟨x207, hx208, hH⟩ := bindE hH
 refine AW.region ?_
 iterate 2 refine AO.pu T ?_
 refine AO.step rfl (mk_map_ok T rfl 44 rfl rfl rfl rfl rfl (f := encInt) (l := ([(-1), 0, 100000, 100001] : List Int)) rfl rfl (fun _ => rfl) rfl rfl rfl rfl rfl) ?_
 refine AO.le (Le.freezeM 44 (g := encInt) rfl (fun y => .vs rfl)) ?_
 refine AO.step rfl (callM_ok rfl 45 rfl rfl (es := [.pw (encL1Cur (L1Cur.mk x205.1.code x205.1.at' x205.1.seed)), .s (([(-1), 0, 100000, 100001] : List Int).map encInt)]) (outs := [.pw (encL1Cur x207.1), .u]) (ids := [1]) (by exact expLG_cons (.c (.box rfl rfl)) (expLG_cons (.c .s) (expLG_nil))) (by decide) (.inl (by rfl)) (by rfl) (spec_l1Cur_among_ok _ _ _ (hx208)) rfl (by rfl) rfl) ?_
 iterate 2 refine AO.pu T ?_
 refine AO.step rfl (store_row_ok T rfl rfl rfl rfl rfl (getI_get (hx204)) rfl rfl rfl rfl (u' := (Change.mk x207.2 x203.caller x203.item x203.name x203.mark x203.review)) rfl rfl) ?_
 refine AO.nil ?_
 refine AW.le (Le.ct 0 0 (σ' := (⟨[(4, .R 2), (5, .R 35)], [(1, .box [.s (List.map encInt_u8 x207.1.code), x207.1.at', .v (.int .u64 x207.1.seed)]), (2, .row 3 (List.map encItem x1.2)), (35, .row 6 (List.map encChange (v173.set x201.2.toNat (Change.mk x207.2 x203.caller x203.item x203.name x203.mark x203.review))))], 156, [(1, L 1)]⟩ : St)) (hpin := ⟨⟨rfl, rfl⟩, trivial⟩)) ?_
 refine AW.seq (AW.region ?_)
 iterate 4 refine AO.pu T ?_
 refine AO.nil (AW.ret ?_)
 have hR := someE hH; subst hR
 exact ⟨trivial, rfl, _, [2, 35], [1], rfl, expLG_cons (.c (.box rfl rfl)) (expLG_nil), .t (expLG_cons (.c (.rowR rfl)) (expLG_cons (.c (.rowR rfl)) (expLG_nil))), by decide⟩
 replace hH := condF hc hH
 refine AW.seq (AW.region ?_)
 iterate 2 refine AO.pu T ?_
 refine AO.nil ?_
 refine AW.le (Le.ct 0 0 (σ' := (⟨[(0, .p 1 0), (4, .R 2), (5, .R 35), (12, .e 35 x201.2.toNat 0), (101, x205.2), (110, .v (.bool (x205.2 == 1)))], [(1, .box [.s (List.map encInt_u8 x205.1.code), x205.1.at', .v (.int .u64 x205.1.seed)]), (2, .row 3 (List.map encItem x1.2)), (35, .row 6 (List.map encChange v173))], 156, [(1, L 1)]⟩ : St)) (hpin := ⟨⟨rfl, rfl⟩, trivial⟩)) ?_
 refine AW.cond (b := (x205.2 == 1)) rfl (fun hc => ?_) (fun hc => ?_)
 replace hH := condT hc hH
 obtain ⟨x209, hx210, hH⟩ := bindE hH
 refine AW.region ?_
 iterate 2 refine AO.pu T ?_
 refine AO.step rfl (mk_map_ok T rfl 45 rfl rfl rfl rfl rfl (f := encInt) (l := ([0, 9, 10] : List Int)) rfl rfl (fun _ => rfl) rfl rfl rfl rfl rfl) ?_
 refine AO.le (Le.freezeM 45 (g := encInt) rfl (fun y => .vs rfl)) ?_
 refine AO.step rfl (callM_ok rfl 46 rfl rfl (es := [.pw (encL1Cur (L1Cur.mk x205.1.code x205.1.at' x205.1.seed)), .s (([0, 9, 10] : List Int).map encInt)]) (outs := [.pw (encL1Cur x209.1), .u]) (ids := [1]) (by exact expLG_cons (.c (.box rfl rfl)) (expLG_cons (.c .s) (expLG_nil))) (by decide) (.inl (by rfl)) (by rfl) (spec_l1Cur_among_ok _ _ _ (hx210)) rfl (by rfl) rfl) ?_
 iterate 2 refine AO.pu T ?_
 refine AO.step rfl (store_row_ok T rfl rfl rfl rfl rfl (getI_get (hx204)) rfl rfl rfl rfl (u' := (Change.mk x203.tick x209.2 x203.item x203.name x203.mark x203.review)) rfl rfl) ?_
 refine AO.nil (AW.seq ?_)
 refine AW.region ?_
 iterate 4 refine AO.pu T ?_
 refine AO.nil (AW.ret ?_)
 have hR := someE hH; subst hR
 exact ⟨trivial, rfl, _, [2, 35], [1], rfl, expLG_cons (.c (.box rfl rfl)) (expLG_nil), .t (expLG_cons (.c (.rowR rfl)) (expLG_cons (.c (.rowR rfl)) (expLG_nil))), by decide⟩
 replace hH := condF hc hH
 refine AW.seq (AW.region ?_)
 iterate 2 refine AO.pu T ?_
 refine AO.nil ?_
 refine AW.cond (b := (x205.2 == 2)) rfl (fun hc => ?_) (fun hc => ?_)
 replace hH := condT hc hH
 obtain ⟨x211, hx212, hH⟩ := bindE hH
 refine AW.region ?_
 iterate 3 refine AO.pu T ?_
 refine AO.val rfl rfl (len_row_ok T rfl rfl rfl rfl) ?_
 refine AO.step rfl (mk_map_ok T rfl 46 rfl rfl rfl rfl rfl (f := encInt) (l := [(-1), (x1.2.length : Int)]) rfl rfl (fun _ => rfl) rfl rfl rfl rfl rfl) ?_
 refine AO.le (Le.freezeM 46 (g := encInt) rfl (fun y => .vs rfl)) ?_
 refine AO.step rfl (callM_ok rfl 47 rfl rfl (es := [.pw (encL1Cur (L1Cur.mk x205.1.code x205.1.at' x205.1.seed)), .s ([(-1), (x1.2.length : Int)].map encInt)]) (outs := [.pw (encL1Cur x211.1), .u]) (ids := [1]) (by exact expLG_cons (.c (.box rfl rfl)) (expLG_cons (.c .s) (expLG_nil))) (by decide) (.inl (by rfl)) (by rfl) (spec_l1Cur_among_ok _ _ _ (hx212)) rfl (by rfl) rfl) ?_
 iterate 2 refine AO.pu T ?_
 refine AO.step rfl (store_row_ok T rfl rfl rfl rfl rfl (getI_get (hx204)) rfl rfl rfl rfl (u' := (Change.mk x203.tick x203.caller x211.2 x203.name x203.mark x203.review)) rfl rfl) ?_
 refine AO.nil (AW.seq ?_)
 refine AW.region ?_
 iterate 4 refine AO.pu T ?_
 refine AO.nil (AW.ret ?_)
 have hR := someE hH; subst hR
 exact ⟨trivial, rfl, _, [2, 35], [1], rfl, expLG_cons (.c (.box rfl rfl)) (expLG_nil), .t (expLG_cons (.c (.rowR rfl)) (expLG_cons (.c (.rowR rfl)) (expLG_nil))), by decide⟩
 replace hH := condF hc hH
 refine AW.seq (AW.region ?_)
 iterate 2 refine AO.pu T ?_
 refine AO.nil ?_
 refine AW.cond (b := (x205.2 == 3)) rfl (fun hc => ?_) (fun hc => ?_)
 replace hH := condT hc hH
 obtain ⟨x213, hx214, hH⟩ := bindE hH
 refine AW.region ?_
 iterate 2 refine AO.pu T ?_
 refine AO.step rfl (mk_map_ok T rfl 47 rfl rfl rfl rfl rfl (f := encInt) (l := ([(-1), 3] : List Int)) rfl rfl (fun _ => rfl) rfl rfl rfl rfl rfl) ?_
 refine AO.le (Le.freezeM 47 (g := encInt) rfl (fun y => .vs rfl)) ?_
 refine AO.step rfl (callM_ok rfl 48 rfl rfl (es := [.pw (encL1Cur (L1Cur.mk x205.1.code x205.1.at' x205.1.seed)), .s (([(-1), 3] : List Int).map encInt)]) (outs := [.pw (encL1Cur x213.1), .u]) (ids := [1]) (by exact expLG_cons (.c (.box rfl rfl)) (expLG_cons (.c .s) (expLG_nil))) (by decide) (.inl (by rfl)) (by rfl) (spec_l1Cur_among_ok _ _ _ (hx214)) rfl (by rfl) rfl) ?_
 iterate 2 refine AO.pu T ?_
 refine AO.step rfl (store_row_ok T rfl rfl rfl rfl rfl (getI_get (hx204)) rfl rfl rfl rfl (u' := (Change.mk x203.tick x203.caller x203.item x213.2 x203.mark x203.review)) rfl rfl) ?_
 refine AO.nil (AW.seq ?_)
 refine AW.region ?_
 iterate 4 refine AO.pu T ?_
 refine AO.nil (AW.ret ?_)
 have hR := someE hH; subst hR
 exact ⟨trivial, rfl, _, [2, 35], [1], rfl, expLG_cons (.c (.box rfl rfl)) (expLG_nil), .t (expLG_cons (.c (.rowR rfl)) (expLG_cons (.c (.rowR rfl)) (expLG_nil))), by decide⟩
 replace hH := condF hc hH
 refine AW.seq (AW.region ?_)
 iterate 2 refine AO.pu T ?_
 refine AO.nil ?_
 refine AW.cond (b := (x205.2 == 4)) rfl (fun hc => ?_) (fun hc => ?_)
 replace hH := condT hc hH
 obtain ⟨x215, hx216, hH⟩ := bindE hH
 refine AW.region ?_
 iterate 2 refine AO.pu T ?_
 refine AO.step rfl (mk_map_ok T rfl 48 rfl rfl rfl rfl rfl (f := encInt) (l := ([(-1), 4] : List Int)) rfl rfl (fun _ => rfl) rfl rfl rfl rfl rfl) ?_
 refine AO.le (Le.freezeM 48 (g := encInt) rfl (fun y => .vs rfl)) ?_
 refine AO.step rfl (callM_ok rfl 49 rfl rfl (es := [.pw (encL1Cur (L1Cur.mk x205.1.code x205.1.at' x205.1.seed)), .s (([(-1), 4] : List Int).map encInt)]) (outs := [.pw (encL1Cur x215.1), .u]) (ids := [1]) (by exact expLG_cons (.c (.box rfl rfl)) (expLG_cons (.c .s) (expLG_nil))) (by decide) (.inl (by rfl)) (by rfl) (spec_l1Cur_among_ok _ _ _ (hx216)) rfl (by rfl) rfl) ?_
 iterate 2 refine AO.pu T ?_
 refine AO.step rfl (store_row_ok T rfl rfl rfl rfl rfl (getI_get (hx204)) rfl rfl rfl rfl (u' := (Change.mk x203.tick x203.caller x203.item x203.name x215.2 x203.review)) rfl rfl) ?_
 refine AO.nil (AW.seq ?_)
 refine AW.region ?_
 iterate 4 refine AO.pu T ?_
 refine AO.nil (AW.ret ?_)
 have hR := someE hH; subst hR
 exact ⟨trivial, rfl, _, [2, 35], [1], rfl, expLG_cons (.c (.box rfl rfl)) (expLG_nil), .t (expLG_cons (.c (.rowR rfl)) (expLG_cons (.c (.rowR rfl)) (expLG_nil))), by decide⟩
 replace hH := condF hc hH
 refine AW.seq (AW.region ?_)
 iterate 2 refine AO.pu T ?_
 refine AO.nil ?_
 refine AW.cond (b := (x205.2 == 5)) rfl (fun hc => ?_) (fun hc => ?_)
 replace hH := condT hc hH
 refine AW.region ?_
 iterate 4 refine AO.pu T ?_
 refine AO.val rfl rfl (load_row_ok T rfl rfl rfl rfl (getI_get (hx204)) rfl rfl rfl) ?_
 iterate 3 refine AO.pu T ?_
 refine AO.step rfl (store_row_ok T rfl rfl rfl rfl rfl (getI_get (hx204)) rfl rfl rfl rfl (u' := (Change.mk x203.tick x203.caller x203.item x203.name x203.mark (!x203.review))) rfl rfl) ?_
 refine AO.nil (AW.seq ?_)
 refine AW.region ?_
 iterate 4 refine AO.pu T ?_
 refine AO.nil (AW.ret ?_)
 have hR := someE hH; subst hR
 exact ⟨trivial, rfl, _, [2, 35], [1], rfl, expLG_cons (.c (.box rfl rfl)) (expLG_nil), .t (expLG_cons (.c (.rowR rfl)) (expLG_cons (.c (.rowR rfl)) (expLG_nil))), by decide⟩
 replace hH := condF hc hH
 refine AW.skip ?_
 refine AW.seq (AW.region ?_)
 iterate 4 refine AO.pu T ?_
 refine AO.nil (AW.ret ?_)
 have hR := someE hH; subst hR
 exact ⟨trivial, rfl, _, [2, 35], [1], rfl, expLG_cons (.c (.box rfl rfl)) (expLG_nil), .t (expLG_cons (.c (.rowR rfl)) (expLG_cons (.c (.rowR rfl)) (expLG_nil))), by decide⟩
 replace hH := condF hc hH
 refine AW.skip ?_
 refine AW.seq (AW.region ?_)
 iterate 4 refine AO.pu T ?_
 refine AO.nil (AW.ret ?_)
 have hR := someE hH; subst hR
 exact ⟨trivial, rfl, _, [2, 35], [1], rfl, expLG_cons (.c (.box rfl rfl)) (expLG_nil), .t (expLG_cons (.c (.rowR rfl)) (expLG_cons (.c (.rowR rfl)) (expLG_nil))), by decide⟩

def spec_DrawIsHistory_p (fuel : Nat) (code : List Int) : Option ((List Item) × (List Change)) :=
  (spec_l1Cur_changing_p fuel (L1Cur.mk code 0 0)).bind fun x1 =>
  some (x1.2.1, x1.2.2)
theorem spec_DrawIsHistory_ok (fuel : Nat) (code : List Int) (r : ((List Item) × (List Change))) (hH : spec_DrawIsHistory_p fuel code = some r) : SpecR Tryz.prog 20 [.s (List.map encInt_u8 code)] (.t [.w 3 (r.1.map encItem), .w 6 (r.2.map encChange)]) := by
 refine fn_ok T Tryz.func20 rfl (by decide) rfl ?_
 refine AW.seq (AW.region ?_)
 iterate 2 refine AO.pu T ?_
 refine AO.nil (AW.seq ?_)
 refine AW.region ?_
 refine AO.pu T ?_
 refine AO.pu T (d := .g [.s (List.map encInt_u8 code), (0 : Int), .v (.int .u64 0)]) ?_
 refine AO.step rfl (box_ok T rfl 1 rfl rfl rfl rfl) ?_
 refine AO.pu T ?_
 refine AO.nil (AW.seq ?_)
 obtain ⟨x1, hx2, hH⟩ := bindE hH
 refine AW.region ?_
 refine AO.pu T ?_
 refine AO.step rfl (callM_ok rfl 2 rfl rfl (es := [.pw (encL1Cur (L1Cur.mk code 0 0))]) (outs := [.pw (encL1Cur x1.1)]) (ids := [1]) (by exact expLG_cons (.c (.box rfl rfl)) (expLG_nil)) (by decide) (.inl (by rfl)) (by rfl) (spec_l1Cur_changing_ok fuel _ _ (hx2)) rfl (by rfl) rfl) ?_
 iterate 4 refine AO.pu T ?_
 refine AO.nil (AW.ret ?_)
 have hR := someE hH; subst hR
 exact retQ.i [2, 3] rfl (.t (expLG_cons (.c (.rowR rfl)) (expLG_cons (.c (.rowR rfl)) (expLG_nil))))

def spec_DrawHistoryText_p (fuel : Nat) (code : List Int) : Option ((List Item) × (List Change)) :=
  (spec_DrawIsHistory_p fuel code).bind fun x1 =>
  some (x1.1, x1.2)
theorem spec_DrawHistoryText_ok (fuel : Nat) (code : List Int) (r : ((List Item) × (List Change))) (hH : spec_DrawHistoryText_p fuel code = some r) : SpecR Tryz.prog 4 [.s (List.map encInt_u8 code)] (.t [.w 3 (r.1.map encItem), .w 6 (r.2.map encChange)]) := by
 refine fn_ok T Tryz.func4 rfl (by decide) rfl ?_
 refine AW.seq (AW.region ?_)
 iterate 2 refine AO.pu T ?_
 refine AO.nil (AW.seq ?_)
 obtain ⟨x1, hx2, hH⟩ := bindE hH
 refine AW.region ?_
 refine AO.pu T ?_
 refine AO.step rfl (call_ok rfl 1 rfl rfl rfl (spec_DrawIsHistory_ok fuel _ _ (hx2)) rfl rfl rfl) ?_
 iterate 4 refine AO.pu T ?_
 refine AO.nil (AW.ret ?_)
 have hR := someE hH; subst hR
 exact retQ.i [1, 2] rfl (.t (expLG_cons (.c (.rowR rfl)) (expLG_cons (.c (.rowR rfl)) (expLG_nil))))

def impl_within_p (n : Int) (low : Int) (high : Int) : Option Bool :=
  some (decide (n ≥ low) && decide (n ≤ high))
theorem impl_within_ok (n : Int) (low : Int) (high : Int) (r : Bool) (hH : impl_within_p n low high = some r) : SpecR Tryz.prog 72 [n, low, high] (.v (.bool r)) := by
 refine fn_ok T Tryz.func72 rfl (by decide) rfl ?_
 refine AW.seq (AW.region ?_)
 refine AO.pu T ?_
 refine AO.nil (AW.seq ?_)
 refine AW.region ?_
 iterate 4 refine AO.pu T ?_
 iterate 2 refine AO.pureG T [] rfl trivial rfl rfl ?_
 refine AO.pureG T [11, 12] rfl ⟨fun h => h, fun h => h, trivial⟩ rfl rfl ?_
 refine AO.val rfl rfl (pick_and rfl rfl rfl rfl) ?_
 refine AO.pu T ?_
 refine AO.nil (AW.ret ?_)
 have hR := someE hH; subst hR
 exact retQ.i [] rfl (.c (.c .v))

def impl_IsElementName_l1 (sA : ByteArray) : Nat → Int → Option Bool
  | 0, _ => none
  | k1 + 1, v7 =>
    cond (decide (v7 < (sA.size : Int)))
      ((strI sA v7).bind fun b9 =>
      cond ((decide ((b9.toNat : Int) < 65) || decide ((b9.toNat : Int) > 90)) && (decide ((b9.toNat : Int) < 48) || decide ((b9.toNat : Int) > 57)))
        (some false)
        (impl_IsElementName_l1 sA k1 (w64 (v7 + 1))))
      ((impl_within_p (sA.size : Int) 1 5).bind fun x11 =>
      some x11)
def impl_IsElementName_p (fuel : Nat) (sA : ByteArray) : Option Bool :=
  impl_IsElementName_l1 sA fuel 0
theorem impl_IsElementName_ok (fuel : Nat) (sA : ByteArray) (r : Bool) (hH : impl_IsElementName_p fuel sA = some r) : SpecR Tryz.prog 92 [.v (.string sA)] (.v (.bool r)) := by
 refine fn_ok T Tryz.func92 rfl (by decide) rfl ?_
 refine AW.seq (AW.region ?_)
 refine AO.pu T ?_
 refine AO.nil ?_
 iterate 2 refine AW.seq ?_
 refine AW.region ?_
 refine AO.pu T ?_
 refine AO.nil ?_
 refine AW.block ?_
 refine AW.loopS (fun s : Nat × Int => (⟨[(0, .v (.string sA)), (3, s.2)], [], 35, []⟩ : St)) (fun s => impl_IsElementName_l1 sA s.1 s.2 = some r) (fun s => s.1) (fuel, 0) hH ?_ ?_
 exact Le.ct 0 0
 rintro ⟨k1, v7⟩ hH
 replace hH : impl_IsElementName_l1 sA k1 v7 = some r := hH
 try dsimp only
 rcases k1 with _ | k1
 cases (show none = some _ from hH)
 rw [impl_IsElementName_l1] at hH
 iterate 2 refine AW.seq ?_
 refine AW.region ?_
 iterate 4 refine AO.pu T ?_
 refine AO.nil ?_
 refine AW.cond (b := decide (v7 < (sA.size : Int))) rfl (fun hc => ?_) (fun hc => ?_)
 replace hH := condT hc hH
 refine AW.skip ?_
 refine AW.seq ?_
 refine AW.block ?_
 refine AW.seq ?_
 obtain ⟨b9, hx10, hH⟩ := bindE hH
 refine AW.region ?_
 iterate 2 refine AO.pu T ?_
 refine AO.val rfl rfl (ix_strI_ok T rfl rfl rfl rfl (hx10)) ?_
 iterate 2 refine AO.pu T ?_
 iterate 2 refine AO.pureG T [] rfl trivial rfl rfl ?_
 refine AO.guard [15, 16] rfl ⟨fun h => h, fun h => h, trivial⟩ (fun hg => ix_strI_ok T rfl rfl rfl rfl (hx10)) rfl ?_
 refine AO.pureG T [17] rfl ⟨fun h => h, trivial⟩ rfl rfl ?_
 refine AO.val rfl rfl (pick_or rfl rfl rfl rfl) ?_
 refine AO.pu T ?_
 iterate 2 refine AO.pureG T [] rfl trivial rfl rfl ?_
 refine AO.guard [21, 22] rfl ⟨fun h => h, fun h => h, trivial⟩ (fun hg => ix_strI_ok T rfl rfl rfl rfl (hx10)) rfl ?_
 refine AO.pureG T [23] rfl ⟨fun h => h, trivial⟩ rfl rfl ?_
 refine AO.pureG T [24] rfl ⟨fun h => h, trivial⟩ rfl rfl ?_
 iterate 2 refine AO.pureG T [] rfl trivial rfl rfl ?_
 refine AO.guard [26, 27] rfl ⟨fun h => h, fun h => h, trivial⟩ (fun hg => ix_strI_ok T rfl rfl rfl rfl (hx10)) rfl ?_
 refine AO.pureG T [28] rfl ⟨fun h => h, trivial⟩ rfl rfl ?_
 refine AO.guard [25] rfl ⟨fun h => h, trivial⟩ (fun hg => pick_or rfl rfl rfl (by rw [hg]; exact Bool.true_and _)) rfl ?_
 refine AO.val rfl rfl (pick_and rfl rfl rfl rfl) ?_
 refine AO.nil ?_
 refine AW.le (Le.ct 0 0 (σ' := (⟨[(0, .v (.string sA)), (3, v7), (31, .v (.bool ((decide ((b9.toNat : Int) < 65) || decide ((b9.toNat : Int) > 90)) && (decide ((b9.toNat : Int) < 48) || decide ((b9.toNat : Int) > 57)))))], [], 35, []⟩ : St))) ?_
 refine AW.cond (b := ((decide ((b9.toNat : Int) < 65) || decide ((b9.toNat : Int) > 90)) && (decide ((b9.toNat : Int) < 48) || decide ((b9.toNat : Int) > 57)))) rfl (fun hc => ?_) (fun hc => ?_)
 replace hH := condT hc hH
 refine AW.seq (AW.region ?_)
 refine AO.pu T ?_
 refine AO.nil (AW.ret ?_)
 have hR := someE hH; subst hR
 exact retQ.i [] rfl (.c (.c .v))
 replace hH := condF hc hH
 refine AW.skip ?_
 refine AW.region ?_
 refine AO.pu T ?_
 refine AO.val rfl rfl (arw_ok rfl rfl rfl rfl) ?_
 refine AO.pu T ?_
 refine AO.nil ?_
 refine ⟨(k1, w64 (v7 + 1)), hH, Nat.lt_succ_self _, ?_⟩
 exact Le.ct 0 0
 replace hH := condF hc hH
 refine AW.exit ?_
 refine AW.seq ?_
 obtain ⟨x11, hx12, hH⟩ := bindE hH
 refine AW.region ?_
 iterate 2 refine AO.pu T ?_
 refine AO.val rfl rfl (callV_ok rfl rfl rfl rfl (impl_within_ok _ _ _ _ (hx12)) rfl) ?_
 refine AO.pu T ?_
 refine AO.nil (AW.ret ?_)
 have hR := someE hH; subst hR
 exact retQ.i [] rfl (.c (.c .v))

def impl_IsName_p (fuel : Nat) (sA : ByteArray) : Option Bool :=
  (impl_IsElementName_p fuel sA).bind fun x1 =>
  some x1
theorem impl_IsName_ok (fuel : Nat) (sA : ByteArray) (r : Bool) (hH : impl_IsName_p fuel sA = some r) : SpecR Tryz.prog 73 [.v (.string sA)] (.v (.bool r)) := by
 refine fn_ok T Tryz.func73 rfl (by decide) rfl ?_
 refine AW.seq (AW.region ?_)
 refine AO.pu T ?_
 refine AO.nil (AW.seq ?_)
 obtain ⟨x1, hx2, hH⟩ := bindE hH
 refine AW.region ?_
 refine AO.pu T ?_
 refine AO.val rfl rfl (callV_ok rfl rfl rfl rfl (impl_IsElementName_ok fuel _ _ (hx2)) rfl) ?_
 refine AO.pu T ?_
 refine AO.nil (AW.ret ?_)
 have hR := someE hH; subst hR
 exact retQ.i [] rfl (.c (.c .v))

def impl_allWithin_l1 (low : Int) (high : Int) : List Int → Nat → Option Bool
  | [], k1 =>
    some true
  | y2 :: ys3, k1 =>
    (impl_within_p y2 low high).bind fun x12 =>
    cond (!x12)
      (some false)
      (impl_allWithin_l1 low high ys3 (k1 + 1))
def impl_allWithin_p (l : List Int) (low : Int) (high : Int) : Option Bool :=
  impl_allWithin_l1 low high l 0
theorem impl_allWithin_ok (l : List Int) (low : Int) (high : Int) (r : Bool) (hH : impl_allWithin_p l low high = some r) : SpecR Tryz.prog 74 [.s (List.map encInt l), low, high] (.v (.bool r)) := by
 refine fn_ok T Tryz.func74 rfl (by decide) rfl ?_
 refine AW.seq (AW.region ?_)
 refine AO.pu T ?_
 refine AO.nil ?_
 iterate 2 refine AW.seq ?_
 refine AW.region ?_
 refine AO.pu T ?_
 refine AO.val rfl rfl (len_map_ok T rfl rfl rfl) ?_
 refine AO.pu T ?_
 refine AO.nil ?_
 refine AW.block ?_
 refine AW.loopS (fun s : Nat => (⟨[(1, low), (2, high), (9, .s (List.map encInt l)), (10, (l.length : Int)), (11, (s : Int))], [], 21, []⟩ : St)) (fun s => s ≤ l.length ∧ impl_allWithin_l1 low high (l.drop s) s = some r) (fun s => l.length - s) 0 ⟨Nat.zero_le _, hH⟩ ?_ ?_
 exact Le.ct 0 0
 rintro k1 ⟨hk, hH⟩
 replace hH : impl_allWithin_l1 low high (l.drop k1) k1 = some r := hH
 try dsimp only
 refine AW.boundM (t := 9) (l := l) rfl (fun hb5 => ?_)
 rcases hd4 : l.drop k1 with _ | ⟨y2, ys3⟩
 rw [hd4, impl_allWithin_l1] at hH
 have hlt6 := drop_ge hd4
 refine AW.seq (AW.region ?_)
 refine AO.pu T ?_
 refine AO.nil (AW.seq ?_)
 refine AW.condF' (b := decide ((k1 : Int) < (l.length : Int))) rfl (rngF hlt6) ?_
 refine AW.exit ?_
 refine AW.seq (AW.region ?_)
 refine AO.pu T ?_
 refine AO.nil (AW.ret ?_)
 have hR := someE hH; subst hR
 exact retQ.i [] rfl (.c (.c .v))
 rw [hd4, impl_allWithin_l1] at hH
 have hlt6 := drop_lt hd4
 refine AW.seq (AW.region ?_)
 refine AO.pu T ?_
 refine AO.nil (AW.seq ?_)
 refine AW.condT' (b := decide ((k1 : Int) < (l.length : Int))) rfl (rngT hlt6) ?_
 refine AW.skip ?_
 refine AW.seq ?_
 refine AW.block ?_
 refine AW.seq (AW.region ?_)
 refine AO.val rfl rfl (ix_map_ok T rfl rfl rfl rfl rfl (getI_drop hd4) rfl) ?_
 iterate 2 refine AO.pu T ?_
 refine AO.nil (AW.seq ?_)
 obtain ⟨x12, hx13, hH⟩ := bindE hH
 refine AW.region ?_
 iterate 3 refine AO.pu T ?_
 refine AO.val rfl rfl (callV_ok rfl rfl rfl rfl (impl_within_ok _ _ _ _ (hx13)) rfl) ?_
 refine AO.pu T ?_
 refine AO.nil ?_
 refine AW.cond (b := (!x12)) rfl (fun hc => ?_) (fun hc => ?_)
 replace hH := condT hc hH
 refine AW.seq (AW.region ?_)
 refine AO.pu T ?_
 refine AO.nil (AW.ret ?_)
 have hR := someE hH; subst hR
 exact retQ.i [] rfl (.c (.c .v))
 replace hH := condF hc hH
 refine AW.skip ?_
 refine AW.region ?_
 refine AO.val rfl rfl (ar_ok rfl rfl rfl rfl (inI_succ hlt6 hb5)) ?_
 refine AO.pu T ?_
 refine AO.nil ?_
 refine ⟨k1 + 1, ⟨Nat.succ_le_of_lt hlt6, (by rw [drop_succ_of hd4]; exact hH)⟩, (by have := hlt6; dsimp only; omega), ?_⟩
 exact Le.ct 0 0

def impl_IsItem_l1 (it : Item) (fuel : Nat) : List ByteArray → Nat → Option Bool
  | [], k1 =>
    (impl_within_p (it.names.length : Int) 1 3).bind fun x12 =>
    (opt (x12 && ((it.marks.length : Int) == (it.names.length : Int))) default (impl_allWithin_p it.marks 0 3)).bind fun x14 =>
    some ((x12 && ((it.marks.length : Int) == (it.names.length : Int))) && x14)
  | y2 :: ys3, k1 =>
    (impl_IsName_p fuel y2).bind fun x16 =>
    cond (!x16)
      (some false)
      (impl_IsItem_l1 it fuel ys3 (k1 + 1))
def impl_IsItem_p (fuel : Nat) (it : Item) : Option Bool :=
  impl_IsItem_l1 it fuel it.names 0
theorem impl_IsItem_ok (fuel : Nat) (it : Item) (r : Bool) (hH : impl_IsItem_p fuel it = some r) : SpecR Tryz.prog 57 [.g (encItem it)] (.v (.bool r)) := by
 refine fn_ok T Tryz.func57 rfl (by decide) rfl ?_
 refine AW.seq (AW.region ?_)
 refine AO.step rfl (box_ok T rfl 1 rfl rfl rfl rfl) ?_
 refine AO.pu T ?_
 refine AO.nil ?_
 iterate 2 refine AW.seq ?_
 refine AW.region ?_
 iterate 2 refine AO.pu T ?_
 refine AO.val rfl rfl (len_map_ok T rfl rfl rfl) ?_
 refine AO.pu T ?_
 refine AO.nil ?_
 refine AW.block ?_
 refine AW.loopS (fun s : Nat => (⟨[(1, .p 1 0), (6, .s (List.map encStr it.names)), (7, (it.names.length : Int)), (8, (s : Int))], [(1, .box [.s (List.map encStr it.names), .s (List.map encInt it.marks), .v (.bool it.late)])], 34, []⟩ : St)) (fun s => s ≤ it.names.length ∧ impl_IsItem_l1 it fuel (it.names.drop s) s = some r) (fun s => it.names.length - s) 0 ⟨Nat.zero_le _, hH⟩ ?_ ?_
 exact Le.ct 0 0
 rintro k1 ⟨hk, hH⟩
 replace hH : impl_IsItem_l1 it fuel (it.names.drop k1) k1 = some r := hH
 try dsimp only
 refine AW.boundM (t := 6) (l := it.names) rfl (fun hb5 => ?_)
 rcases hd4 : it.names.drop k1 with _ | ⟨y2, ys3⟩
 rw [hd4, impl_IsItem_l1] at hH
 have hlt6 := drop_ge hd4
 refine AW.seq (AW.region ?_)
 refine AO.pu T ?_
 refine AO.nil (AW.seq ?_)
 refine AW.condF' (b := decide ((k1 : Int) < (it.names.length : Int))) rfl (rngF hlt6) ?_
 refine AW.exit ?_
 refine AW.seq ?_
 obtain ⟨x12, hx13, hH⟩ := bindE hH
 obtain ⟨x14, hx15, hH⟩ := bindE hH
 refine AW.region ?_
 iterate 2 refine AO.pu T ?_
 refine AO.val rfl rfl (len_map_ok T rfl rfl rfl) ?_
 refine AO.val rfl rfl (callV_ok rfl rfl rfl rfl (impl_within_ok _ _ _ _ (hx13)) rfl) ?_
 refine AO.pu T ?_
 refine AO.pureG T [] rfl trivial rfl rfl ?_
 refine AO.pureG T [21] rfl ⟨fun h => h, trivial⟩ rfl rfl ?_
 refine AO.guard [22] rfl ⟨fun h => h, trivial⟩ (fun hg => len_map_ok T rfl rfl rfl) rfl ?_
 refine AO.pureG T [] rfl trivial rfl rfl ?_
 refine AO.pureG T [24] rfl ⟨fun h => h, trivial⟩ rfl rfl ?_
 refine AO.guard [25] rfl ⟨fun h => h, trivial⟩ (fun hg => len_map_ok T rfl rfl rfl) rfl ?_
 refine AO.pureG T [23, 26] rfl ⟨fun h => h, fun h => h, trivial⟩ rfl rfl ?_
 refine AO.val rfl rfl (pick_and rfl rfl rfl rfl) ?_
 refine AO.pu T ?_
 refine AO.pureG T [] rfl trivial rfl rfl ?_
 refine AO.pureG T [30] rfl ⟨fun h => h, trivial⟩ rfl rfl ?_
 refine AO.guard [31] rfl ⟨fun h => h, trivial⟩ (fun hg => callV_ok rfl rfl rfl rfl (impl_allWithin_ok _ _ _ _ (optT hx15 hg)) rfl) rfl ?_
 refine AO.val rfl rfl (pick_and rfl rfl rfl rfl) ?_
 refine AO.pu T ?_
 refine AO.nil (AW.ret ?_)
 have hR := someE hH; subst hR
 exact retQ.i [] rfl (.c (.c .v))
 rw [hd4, impl_IsItem_l1] at hH
 have hlt6 := drop_lt hd4
 refine AW.seq (AW.region ?_)
 refine AO.pu T ?_
 refine AO.nil (AW.seq ?_)
 refine AW.condT' (b := decide ((k1 : Int) < (it.names.length : Int))) rfl (rngT hlt6) ?_
 refine AW.skip ?_
 refine AW.seq ?_
 refine AW.block ?_
 refine AW.seq (AW.region ?_)
 refine AO.val rfl rfl (ix_map_ok T rfl rfl rfl rfl rfl (getI_drop hd4) rfl) ?_
 iterate 2 refine AO.pu T ?_
 refine AO.nil (AW.seq ?_)
 obtain ⟨x16, hx17, hH⟩ := bindE hH
 refine AW.region ?_
 refine AO.pu T ?_
 refine AO.val rfl rfl (callV_ok rfl rfl rfl rfl (impl_IsName_ok fuel _ _ (hx17)) rfl) ?_
 refine AO.pu T ?_
 refine AO.nil ?_
 refine AW.cond (b := (!x16)) rfl (fun hc => ?_) (fun hc => ?_)
 replace hH := condT hc hH
 refine AW.seq (AW.region ?_)
 refine AO.pu T ?_
 refine AO.nil (AW.ret ?_)
 have hR := someE hH; subst hR
 exact retQ.i [] rfl (.c (.c .v))
 replace hH := condF hc hH
 refine AW.skip ?_
 refine AW.region ?_
 refine AO.val rfl rfl (ar_ok rfl rfl rfl rfl (inI_succ hlt6 hb5)) ?_
 refine AO.pu T ?_
 refine AO.nil ?_
 refine ⟨k1 + 1, ⟨Nat.succ_le_of_lt hlt6, (by rw [drop_succ_of hd4]; exact hH)⟩, (by have := hlt6; dsimp only; omega), ?_⟩
 exact Le.ct 0 0

def impl_AreItems_l1 (l : List Item) (fuel : Nat) : List Item → Nat → Option Bool
  | [], k1 =>
    some (decide ((l.length : Int) ≤ 14))
  | y2 :: ys3, k1 =>
    (impl_IsItem_p fuel y2).bind fun x12 =>
    cond (!x12)
      (some false)
      (impl_AreItems_l1 l fuel ys3 (k1 + 1))
def impl_AreItems_p (fuel : Nat) (l : List Item) : Option Bool :=
  impl_AreItems_l1 l fuel l 0
theorem impl_AreItems_ok (fuel : Nat) (l : List Item) (r : Bool) (hH : impl_AreItems_p fuel l = some r) : SpecR Tryz.prog 29 [.s (List.map encItem l)] (.v (.bool r)) := by
 refine fn_ok T Tryz.func29 rfl (by decide) rfl ?_
 refine AW.seq (AW.region ?_)
 refine AO.pu T ?_
 refine AO.nil ?_
 iterate 2 refine AW.seq ?_
 refine AW.region ?_
 refine AO.pu T ?_
 refine AO.val rfl rfl (len_map_ok T rfl rfl rfl) ?_
 refine AO.pu T ?_
 refine AO.nil ?_
 refine AW.block ?_
 refine AW.loopS (fun s : Nat => (⟨[(0, .s (List.map encItem l)), (5, .s (List.map encItem l)), (6, (l.length : Int)), (7, (s : Int))], [], 18, []⟩ : St)) (fun s => s ≤ l.length ∧ impl_AreItems_l1 l fuel (l.drop s) s = some r) (fun s => l.length - s) 0 ⟨Nat.zero_le _, hH⟩ ?_ ?_
 exact Le.ct 0 0
 rintro k1 ⟨hk, hH⟩
 replace hH : impl_AreItems_l1 l fuel (l.drop k1) k1 = some r := hH
 try dsimp only
 refine AW.boundM (t := 0) (l := l) rfl (fun hb5 => ?_)
 rcases hd4 : l.drop k1 with _ | ⟨y2, ys3⟩
 rw [hd4, impl_AreItems_l1] at hH
 have hlt6 := drop_ge hd4
 refine AW.seq (AW.region ?_)
 refine AO.pu T ?_
 refine AO.nil (AW.seq ?_)
 refine AW.condF' (b := decide ((k1 : Int) < (l.length : Int))) rfl (rngF hlt6) ?_
 refine AW.exit ?_
 refine AW.seq (AW.region ?_)
 refine AO.pu T ?_
 refine AO.val rfl rfl (len_map_ok T rfl rfl rfl) ?_
 iterate 2 refine AO.pu T ?_
 refine AO.nil (AW.ret ?_)
 have hR := someE hH; subst hR
 exact retQ.i [] rfl (.c (.c .v))
 rw [hd4, impl_AreItems_l1] at hH
 have hlt6 := drop_lt hd4
 refine AW.seq (AW.region ?_)
 refine AO.pu T ?_
 refine AO.nil (AW.seq ?_)
 refine AW.condT' (b := decide ((k1 : Int) < (l.length : Int))) rfl (rngT hlt6) ?_
 refine AW.skip ?_
 refine AW.seq ?_
 refine AW.block ?_
 refine AW.seq (AW.region ?_)
 refine AO.val rfl rfl (ix_map_ok T rfl rfl rfl rfl rfl (getI_drop hd4) rfl) ?_
 refine AO.pu T (d := .g [.s (List.map encStr y2.names), .s (List.map encInt y2.marks), .v (.bool y2.late)]) ?_
 refine AO.step rfl (alloc_ok T rfl 3 rfl rfl rfl rfl rfl) ?_
 refine AO.se T [.s (List.map encStr y2.names), .s (List.map encInt y2.marks), .v (.bool y2.late)] ?_
 refine AO.nil (AW.seq ?_)
 obtain ⟨x12, hx13, hH⟩ := bindE hH
 refine AW.region ?_
 refine AO.pu T (d := .g [.s (List.map encStr y2.names), .s (List.map encInt y2.marks), .v (.bool y2.late)]) ?_
 refine AO.val rfl rfl (callV_ok rfl rfl rfl rfl (impl_IsItem_ok fuel _ _ (hx13)) rfl) ?_
 refine AO.pu T ?_
 refine AO.nil ?_
 refine AW.cond (b := (!x12)) rfl (fun hc => ?_) (fun hc => ?_)
 replace hH := condT hc hH
 refine AW.seq (AW.region ?_)
 refine AO.pu T ?_
 refine AO.nil (AW.ret ?_)
 have hR := someE hH; subst hR
 exact retQ.i [] rfl (.c (.c .v))
 replace hH := condF hc hH
 refine AW.skip ?_
 refine AW.region ?_
 refine AO.val rfl rfl (ar_ok rfl rfl rfl rfl (inI_succ hlt6 hb5)) ?_
 refine AO.pu T ?_
 refine AO.nil ?_
 refine ⟨k1 + 1, ⟨Nat.succ_le_of_lt hlt6, (by rw [drop_succ_of hd4]; exact hH)⟩, (by have := hlt6; dsimp only; omega), ?_⟩
 exact Le.ct 0 0

def impl_copyInts_p (l : List Int) : Option (List Int) :=
  (need (fitsB 8 l.length)).bind fun u1 =>
  some l
theorem impl_copyInts_ok (l : List Int) (r : (List Int)) (hH : impl_copyInts_p l = some r) : SpecR Tryz.prog 96 [.s (List.map encInt l)] (.w 1 (r.map encInt)) := by
 refine fn_ok T Tryz.func96 rfl (by decide) rfl ?_
 refine AW.seq (AW.region ?_)
 refine AO.pu T ?_
 refine AO.nil (AW.seq ?_)
 obtain ⟨u1, hx2, hH⟩ := bindE hH
 refine AW.region ?_
 refine AO.step rfl (mk0_ok T rfl rfl rfl rfl) ?_
 refine AO.pu T ?_
 refine AO.step rfl (app_ws_map T rfl 1 rfl rfl rfl rfl rfl (by decide) (by decide) rfl rfl (fun _ => rfl) (needT (hx2)) rfl rfl) ?_
 refine AO.pu T ?_
 refine AO.nil (AW.ret ?_)
 have hR := someE hH; subst hR
 exact retQ.i [1] rfl (.c (.c (.rowR rfl)))

def impl_copyItem_p (it : Item) : Option Item :=
  (need (fitsB 16 it.names.length)).bind fun u1 =>
  (impl_copyInts_p it.marks).bind fun x3 =>
  some (Item.mk it.names x3 it.late)
theorem impl_copyItem_ok (it : Item) (r : Item) (hH : impl_copyItem_p it = some r) : SpecR Tryz.prog 79 [.g (encItem it)] (.g (encItemO r)) := by
 refine fn_ok T Tryz.func79 rfl (by decide) rfl ?_
 refine AW.seq (AW.region ?_)
 refine AO.step rfl (box_ok T rfl 1 rfl rfl rfl rfl) ?_
 refine AO.step rfl (alloc_ok T rfl 2 rfl rfl rfl rfl rfl) ?_
 refine AO.nil (AW.seq ?_)
 obtain ⟨u1, hx2, hH⟩ := bindE hH
 obtain ⟨x3, hx4, hH⟩ := bindE hH
 refine AW.drawn 9 3 [] mix (by kernel_rfl) rfl ?_
 refine AD.v (FStep.mk0 T rfl rfl rfl rfl rfl) ?_
 iterate 2 refine AD.pure T rfl rfl rfl ?_
 refine AD.q (FStep.app_ws T rfl rfl rfl rfl rfl rfl rfl (by decide) (by decide) rfl rfl (fun _ => rfl) (needT (hx2)) rfl) (by simp [namesIn]) (Nat.le_succ _) rfl ?_
 iterate 2 refine AD.pure T rfl rfl rfl ?_
 refine AD.q (FStep.call rfl rfl rfl rfl rfl (impl_copyInts_ok _ _ (hx4)) rfl rfl) (impT_names _ _) (impT_le _ _) rfl ?_
 iterate 2 refine AD.pure T rfl rfl rfl ?_
 refine AD.nil ?_
 refine AO.pu T (d := .g [.R 3, .R 4, .v (.bool it.late)]) ?_
 refine AO.se T [.R 3, .R 4, .v (.bool it.late)] ?_
 refine AO.nil (AW.ret ?_)
 have hR := someE hH; subst hR
 exact retQ.i [3, 4] rfl (.c (.g (expLC_cons (.rowR rfl) (expLC_cons (.rowR rfl) (expLC_cons .v (expLC_nil))))))

def impl_copyItems_l1 : List Item → Nat → List Item → Option ((List Item))
  | [], k1, v16 =>
    some v16
  | y2 :: ys3, k1, v16 =>
    (impl_copyItem_p y2).bind fun x18 =>
    (need (fitsB 56 (v16.length + ([x18]).length))).bind fun u20 =>
    impl_copyItems_l1 ys3 (k1 + 1) (v16 ++ [x18])
def impl_copyItems_p (l : List Item) : Option (List Item) :=
  impl_copyItems_l1 l 0 []
theorem impl_copyItems_ok (l : List Item) (r : (List Item)) (hH : impl_copyItems_p l = some r) : SpecR Tryz.prog 61 [.s (List.map encItem l)] (.w 3 (r.map encItemO)) := by
 refine fn_ok T Tryz.func61 rfl (by decide) rfl ?_
 refine AW.seq (AW.region ?_)
 refine AO.pu T ?_
 refine AO.nil (AW.seq ?_)
 refine AW.region ?_
 refine AO.step rfl (mk0_ok T rfl rfl rfl rfl) ?_
 refine AO.pu T ?_
 refine AO.nil ?_
 iterate 2 refine AW.seq ?_
 refine AW.region ?_
 refine AO.pu T ?_
 refine AO.val rfl rfl (len_map_ok T rfl rfl rfl) ?_
 refine AO.pu T ?_
 refine AO.nil ?_
 refine AW.block ?_
 refine AW.loopS (fun s : Nat × (List Item) => (⟨[(3, .R 10), (7, .s (List.map encItem l)), (8, (l.length : Int)), (9, (s.1 : Int))], [(10, .row 3 (List.map encItemO s.2))], 20, []⟩ : St)) (fun s => s.1 ≤ l.length ∧ impl_copyItems_l1 (l.drop s.1) s.1 s.2 = some r) (fun s => l.length - s.1) (0, []) ⟨Nat.zero_le _, hH⟩ ?_ ?_
 refine Le.trans (Le.void 3 10 3 rfl rfl) ?_
 exact Le.ct 0 0
 rintro ⟨k1, v16⟩ ⟨hk, hH⟩
 replace hH : impl_copyItems_l1 (l.drop k1) k1 v16 = some r := hH
 try dsimp only
 refine AW.boundM (t := 7) (l := l) rfl (fun hb5 => ?_)
 rcases hd4 : l.drop k1 with _ | ⟨y2, ys3⟩
 rw [hd4, impl_copyItems_l1] at hH
 have hlt6 := drop_ge hd4
 refine AW.seq (AW.region ?_)
 refine AO.pu T ?_
 refine AO.nil (AW.seq ?_)
 refine AW.condF' (b := decide ((k1 : Int) < (l.length : Int))) rfl (rngF hlt6) ?_
 refine AW.exit ?_
 refine AW.seq (AW.region ?_)
 iterate 2 refine AO.pu T ?_
 refine AO.nil (AW.ret ?_)
 have hR := someE hH; subst hR
 exact retQ.i [10] rfl (.c (.c (.rowR rfl)))
 rw [hd4, impl_copyItems_l1] at hH
 have hlt6 := drop_lt hd4
 refine AW.seq (AW.region ?_)
 refine AO.pu T ?_
 refine AO.nil (AW.seq ?_)
 refine AW.condT' (b := decide ((k1 : Int) < (l.length : Int))) rfl (rngT hlt6) ?_
 refine AW.skip ?_
 refine AW.seq ?_
 refine AW.block ?_
 refine AW.seq (AW.region ?_)
 refine AO.val rfl rfl (ix_map_ok T rfl rfl rfl rfl rfl (getI_drop hd4) rfl) ?_
 refine AO.pu T (d := .g [.s (List.map encStr y2.names), .s (List.map encInt y2.marks), .v (.bool y2.late)]) ?_
 refine AO.step rfl (alloc_ok T rfl 11 rfl rfl rfl rfl rfl) ?_
 refine AO.se T [.s (List.map encStr y2.names), .s (List.map encInt y2.marks), .v (.bool y2.late)] ?_
 refine AO.nil ?_
 obtain ⟨x18, hx19, hH⟩ := bindE hH
 obtain ⟨u20, hx21, hH⟩ := bindE hH
 refine AW.region ?_
 refine AO.pu T ?_
 refine AO.pu T (d := .g [.s (List.map encStr y2.names), .s (List.map encInt y2.marks), .v (.bool y2.late)]) ?_
 refine AO.step rfl (call_ok rfl 12 rfl rfl rfl (impl_copyItem_ok _ _ (hx19)) rfl rfl rfl) ?_
 refine AO.step rfl (mk_o_ok T rfl 14 rfl rfl rfl rfl rfl rfl (f := encItemO) (l := [x18]) (ids := [12, 13]) rfl rfl (fun _ => rfl) (by exact expLC_cons (.rowR rfl) (expLC_cons (.rowR rfl) (expLC_cons .v (expLC_nil)))) (by decide) rfl rfl rfl rfl rfl) ?_
 refine AO.step rfl (app_rr_map T rfl 15 rfl rfl rfl rfl rfl (by decide) rfl rfl rfl rfl rfl (needT (hx21)) rfl rfl) ?_
 refine AO.pu T ?_
 refine AO.nil ?_
 refine AW.region ?_
 refine AO.val rfl rfl (ar_ok rfl rfl rfl rfl (inI_succ hlt6 hb5)) ?_
 refine AO.pu T ?_
 refine AO.nil ?_
 refine ⟨(k1 + 1, (v16 ++ [x18])), ⟨Nat.succ_le_of_lt hlt6, (by rw [drop_succ_of hd4]; exact hH)⟩, (by have := hlt6; dsimp only; omega), ?_⟩
 exact Le.ct 15 10

def impl_isTick_p (tick : Int) : Option Bool :=
  (impl_within_p tick 0 100000).bind fun x1 =>
  some x1
theorem impl_isTick_ok (tick : Int) (r : Bool) (hH : impl_isTick_p tick = some r) : SpecR Tryz.prog 55 [tick] (.v (.bool r)) := by
 refine fn_ok T Tryz.func55 rfl (by decide) rfl ?_
 refine AW.seq (AW.region ?_)
 refine AO.pu T ?_
 refine AO.nil (AW.seq ?_)
 obtain ⟨x1, hx2, hH⟩ := bindE hH
 refine AW.region ?_
 refine AO.pu T ?_
 refine AO.val rfl rfl (callV_ok rfl rfl rfl rfl (impl_within_ok _ _ _ _ (hx2)) rfl) ?_
 refine AO.pu T ?_
 refine AO.nil (AW.ret ?_)
 have hR := someE hH; subst hR
 exact retQ.i [] rfl (.c (.c .v))

def impl_hasNameAt_p (l : List Item) (item : Int) (name : Int) : Option Bool :=
  (impl_within_p item 0 (w64 ((l.length : Int) - 1))).bind fun x1 =>
  (opt x1 default (getI l item)).bind fun x3 =>
  (opt x1 default (impl_within_p name 0 (w64 ((x3.names.length : Int) - 1)))).bind fun x5 =>
  some (x1 && x5)
theorem impl_hasNameAt_ok (l : List Item) (item : Int) (name : Int) (r : Bool) (hH : impl_hasNameAt_p l item name = some r) : SpecR Tryz.prog 80 [.s (List.map encItem l), item, name] (.v (.bool r)) := by
 refine fn_ok T Tryz.func80 rfl (by decide) rfl ?_
 refine AW.seq (AW.region ?_)
 refine AO.pu T ?_
 refine AO.nil (AW.seq ?_)
 obtain ⟨x1, hx2, hH⟩ := bindE hH
 obtain ⟨x3, hx4, hH⟩ := bindE hH
 obtain ⟨x5, hx6, hH⟩ := bindE hH
 refine AW.region ?_
 iterate 2 refine AO.pu T ?_
 refine AO.val rfl rfl (len_map_ok T rfl rfl rfl) ?_
 refine AO.val rfl rfl (arw_ok rfl rfl rfl rfl) ?_
 refine AO.val rfl rfl (callV_ok rfl rfl rfl rfl (impl_within_ok _ _ _ _ (hx2)) rfl) ?_
 refine AO.pu T ?_
 iterate 3 refine AO.pureG T [] rfl trivial rfl rfl ?_
 refine AO.guard [14, 15] rfl ⟨fun h => h, fun h => h, trivial⟩ (fun hg => ix_map_ok T rfl rfl rfl rfl rfl (optT hx4 hg) rfl) rfl ?_
 refine AO.pureG T [16] rfl ⟨fun h => h, trivial⟩ rfl rfl ?_
 refine AO.pureG T [17] rfl ⟨fun h => h, trivial⟩ rfl rfl ?_
 refine AO.guard [18] rfl ⟨fun h => h, trivial⟩ (fun hg => len_map_ok T rfl rfl rfl) rfl ?_
 refine AO.guard [19] rfl ⟨fun h => h, trivial⟩ (fun hg => arw_ok rfl rfl rfl rfl) rfl ?_
 refine AO.guard [13, 20] rfl ⟨fun h => h, fun h => h, trivial⟩ (fun hg => callV_ok rfl rfl rfl rfl (impl_within_ok _ _ _ _ (optT hx6 hg)) rfl) rfl ?_
 refine AO.val rfl rfl (pick_and rfl rfl rfl rfl) ?_
 refine AO.pu T ?_
 refine AO.nil (AW.ret ?_)
 have hR := someE hH; subst hR
 exact retQ.i [] rfl (.c (.c .v))

def impl_isMark_p (mark : Int) : Option Bool :=
  (impl_within_p mark 0 3).bind fun x1 =>
  some x1
theorem impl_isMark_ok (mark : Int) (r : Bool) (hH : impl_isMark_p mark = some r) : SpecR Tryz.prog 81 [mark] (.v (.bool r)) := by
 refine fn_ok T Tryz.func81 rfl (by decide) rfl ?_
 refine AW.seq (AW.region ?_)
 refine AO.pu T ?_
 refine AO.nil (AW.seq ?_)
 obtain ⟨x1, hx2, hH⟩ := bindE hH
 refine AW.region ?_
 refine AO.pu T ?_
 refine AO.val rfl rfl (callV_ok rfl rfl rfl rfl (impl_within_ok _ _ _ _ (hx2)) rfl) ?_
 refine AO.pu T ?_
 refine AO.nil (AW.ret ?_)
 have hR := someE hH; subst hR
 exact retQ.i [] rfl (.c (.c .v))

def impl_historyState_apply_p (sA : HistoryState) (x : Change) : Option (HistoryState × Bool) :=
  (impl_isTick_p x.tick).bind fun x1 =>
  (opt (!(!x1)) default (impl_within_p x.caller 1 9)).bind fun x3 =>
  (opt (!((!x1) || (!x3))) default (impl_hasNameAt_p sA.items x.item x.name)).bind fun x5 =>
  (opt (!(((!x1) || (!x3)) || (!x5))) default (impl_isMark_p x.mark)).bind fun x7 =>
  cond ((((!x1) || (!x3)) || (!x5)) || (!x7))
    (some (sA, false))
    (cond x.review
      ((getI sA.items x.item).bind fun x9 =>
      (need (mapOk sA.open' (x.item, x.name))).bind fun u11 =>
      (opt (!(mget sA.open' (x.item, x.name))) default (getI x9.marks x.name)).bind fun x13 =>
      some ((HistoryState.mk (sA.items.set x.item.toNat x9) (mput sA.open' (x.item, x.name) true)), ((!(mget sA.open' (x.item, x.name))) && (x13 == x.mark))))
      ((getI sA.items x.item).bind fun x15 =>
      (getI x15.marks x.name).bind fun x17 =>
      (need (mapOk sA.open' (x.item, x.name))).bind fun u19 =>
      some ((HistoryState.mk (sA.items.set x.item.toNat (Item.mk x15.names (x15.marks.set x.name.toNat x.mark) x15.late)) (mdel sA.open' (x.item, x.name))), true)))
theorem impl_historyState_apply_ok (sA : HistoryState) (x : Change) (r : (HistoryState × Bool)) (hH : impl_historyState_apply_p sA x = some r) : SpecM Tryz.prog 62 [.pn (encHistoryStateO sA), .g (encChange x)] [.pn (encHistoryStateO r.1), .u] (.v (.bool r.2)) := by
 refine fn_okM T Tryz.func62 rfl (by decide) rfl rfl ?_
 intro L
 show AW _ _ _ (⟨[(0, .p 1 0), (1, .g [x.tick, x.caller, x.item, x.name, x.mark, .v (.bool x.review)])], [(1, .box [.R 2, .m 3]), (3, .map (encMe sA.open')), (2, .row 3 (List.map encItemO sA.items))], 92, [(1, L 1), (3, L 3), (2, L 2)]⟩ : St)
 refine AW.seq (AW.region ?_)
 refine AO.step rfl (box_ok T rfl 4 rfl rfl rfl rfl) ?_
 refine AO.pu T ?_
 refine AO.nil ?_
 iterate 2 refine AW.seq ?_
 obtain ⟨x1, hx2, hH⟩ := bindE hH
 obtain ⟨x3, hx4, hH⟩ := bindE hH
 obtain ⟨x5, hx6, hH⟩ := bindE hH
 obtain ⟨x7, hx8, hH⟩ := bindE hH
 refine AW.drawn 19 5 [] mix (by kernel_rfl) rfl ?_
 iterate 2 refine AD.pure T rfl rfl rfl ?_
 refine AD.val rfl rfl (callV_ok rfl rfl rfl rfl (impl_isTick_ok _ _ (hx2)) rfl) ?_
 iterate 2 refine AD.pure T rfl rfl rfl ?_
 refine AD.pureG T [] rfl trivial rfl rfl ?_
 refine AD.pureG T [12] rfl ⟨fun h => h, trivial⟩ rfl rfl ?_
 refine AD.guard [13] rfl ⟨fun h => h, trivial⟩ (fun hg => callV_ok rfl rfl rfl rfl (impl_within_ok _ _ _ _ (optT hx4 hg)) rfl) rfl ?_
 refine AD.pureG T [14] rfl ⟨fun h => h, trivial⟩ rfl rfl ?_
 refine AD.val rfl rfl (pick_or rfl rfl rfl rfl) ?_
 refine AD.pure T rfl rfl rfl ?_
 refine AD.pureG T [] rfl trivial rfl rfl ?_
 refine AD.pureG T [18] rfl ⟨fun h => h, trivial⟩ rfl rfl ?_
 refine AD.pureG T [19] rfl ⟨fun h => h, trivial⟩ rfl rfl ?_
 refine AD.pureG T [20] rfl ⟨fun h => h, trivial⟩ rfl rfl ?_
 refine AD.pureG T [] rfl trivial rfl rfl ?_
 refine AD.pureG T [22] rfl ⟨fun h => h, trivial⟩ rfl rfl ?_
 refine AD.pureG T [] rfl trivial rfl rfl ?_
 refine AD.pureG T [24] rfl ⟨fun h => h, trivial⟩ rfl rfl ?_
 refine AD.nil ?_
 refine AO.guard [21, 23, 25] rfl ⟨fun h => h, fun h => h, fun h => h, trivial⟩ (fun hg => callLV_ok rfl rfl rfl (es := [.s (List.map encItem sA.items), x.item, x.name]) ⟨(.rowR rfl (.map fun y => frzItem y)), .free rfl, .free rfl, trivial⟩ (impl_hasNameAt_ok _ _ _ _ (optT hx6 hg)) (zfree_v _) rfl) rfl ?_
 refine AO.pureG T [26] rfl ⟨fun h => h, trivial⟩ rfl rfl ?_
 refine AO.val rfl rfl (pick_or rfl rfl rfl rfl) ?_
 refine AO.pu T ?_
 refine AO.pureG T [] rfl trivial rfl rfl ?_
 refine AO.pureG T [30] rfl ⟨fun h => h, trivial⟩ rfl rfl ?_
 refine AO.guard [31] rfl ⟨fun h => h, trivial⟩ (fun hg => callV_ok rfl rfl rfl rfl (impl_isMark_ok _ _ (optT hx8 hg)) rfl) rfl ?_
 refine AO.pureG T [32] rfl ⟨fun h => h, trivial⟩ rfl rfl ?_
 refine AO.val rfl rfl (pick_or rfl rfl rfl rfl) ?_
 refine AO.nil ?_
 refine AW.le (Le.ct 0 0 (σ' := (⟨[(0, .p 1 0), (3, .p 4 0), (34, .v (.bool ((((!x1) || (!x3)) || (!x5)) || (!x7))))], [(1, .box [.R 2, .m 3]), (2, .row 3 (List.map encItemO sA.items)), (3, .map (encMe sA.open')), (4, .box [x.tick, x.caller, x.item, x.name, x.mark, .v (.bool x.review)])], 92, [(1, L 1), (3, L 3), (2, L 2)]⟩ : St)) (hpin := ⟨⟨rfl, rfl⟩, ⟨rfl, rfl⟩, ⟨rfl, rfl⟩, trivial⟩)) ?_
 refine AW.cond (b := ((((!x1) || (!x3)) || (!x5)) || (!x7))) rfl (fun hc => ?_) (fun hc => ?_)
 replace hH := condT hc hH
 refine AW.seq (AW.region ?_)
 refine AO.pu T ?_
 refine AO.nil (AW.ret ?_)
 have hR := someE hH; subst hR
 exact ⟨trivial, rfl, _, [], [1, 2, 3], rfl, expLG_cons (.pb rfl (expLC_cons (.rowR rfl) (expLC_cons (.mapR rfl) (expLC_nil)))) (expLG_cons (.c .u) (expLG_nil)), .c (.c .v), by decide⟩
 replace hH := condF hc hH
 refine AW.skip ?_
 refine AW.seq (AW.region ?_)
 iterate 4 refine AO.pu T ?_
 refine AO.pu T (d := .g [x.item, x.name]) ?_
 refine AO.step rfl (alloc_ok T rfl 5 rfl rfl rfl rfl rfl) ?_
 refine AO.se T [x.item, x.name] ?_
 refine AO.nil ?_
 iterate 2 refine AW.seq ?_
 refine AW.region ?_
 iterate 2 refine AO.pu T ?_
 refine AO.nil ?_
 refine AW.cond (b := x.review) rfl (fun hc => ?_) (fun hc => ?_)
 replace hH := condT hc hH
 refine AW.seq ?_
 obtain ⟨x9, hx10, hH⟩ := bindE hH
 obtain ⟨u11, hx12, hH⟩ := bindE hH
 obtain ⟨x13, hx14, hH⟩ := bindE hH
 refine AW.le (Le.openM 2 x.item.toNat 1 6 rfl (getI_get (hx10)) rfl rfl) ?_
 refine AW.drawn 23 7 [] mix (by kernel_rfl) rfl ?_
 iterate 4 refine AD.pure T rfl rfl rfl ?_
 refine AD.pure T (d := .g [x.item, x.name]) rfl rfl rfl ?_
 refine AD.val rfl rfl (lookup_ok T (k := (x.item, x.name)) mapT0 rfl rfl rfl rfl rfl rfl (needT (hx12))) ?_
 iterate 2 refine AD.pure T rfl rfl rfl ?_
 refine AD.pureG T [] rfl trivial rfl rfl ?_
 refine AD.pureG T [50] rfl ⟨fun h => h, trivial⟩ rfl rfl ?_
 refine AD.pureG T [51] rfl ⟨fun h => h, trivial⟩ rfl rfl ?_
 refine AD.pureG T [52] rfl ⟨fun h => h, trivial⟩ rfl rfl ?_
 refine AD.pureG T [] rfl trivial rfl rfl ?_
 refine AD.pureG T [54] rfl ⟨fun h => h, trivial⟩ rfl rfl ?_
 refine AD.guard [53, 55] rfl ⟨fun h => h, fun h => h, trivial⟩ (fun hg => ix_lent_ok T rfl rfl rfl rfl rfl rfl (hx10)) rfl ?_
 refine AD.pureG T [56] rfl ⟨fun h => h, trivial⟩ rfl rfl ?_
 refine AD.guard [57] rfl ⟨fun h => h, trivial⟩ (fun hg => load_lent_ok T rfl rfl rfl rfl rfl) rfl ?_
 refine AD.pureG T [] rfl trivial rfl rfl ?_
 refine AD.pureG T [59] rfl ⟨fun h => h, trivial⟩ rfl rfl ?_
 refine AD.guard [58, 60] rfl ⟨fun h => h, fun h => h, trivial⟩ (fun hg => ix_row_ok T rfl rfl rfl rfl rfl rfl (optT hx14 hg)) rfl ?_
 refine AD.guard [61] rfl ⟨fun h => h, trivial⟩ (fun hg => load_row_ok T rfl rfl rfl rfl (getI_get (optT hx14 hg)) rfl rfl rfl) rfl ?_
 refine AD.pureG T [] rfl trivial rfl rfl ?_
 refine AD.pureG T [63] rfl ⟨fun h => h, trivial⟩ rfl rfl ?_
 refine AD.nil ?_
 refine AO.pureG T [62, 64] rfl ⟨fun h => h, fun h => h, trivial⟩ rfl rfl ?_
 refine AO.val rfl rfl (pick_and rfl rfl rfl rfl) ?_
 refine AO.pu T ?_
 refine AO.le (Le.closeM 2 x.item.toNat 1 6 rfl rfl (getI_get (hx10)) rfl (u' := x9) rfl) ?_
 refine AO.nil ?_
 refine AW.le (Le.ct 0 0 (σ' := (⟨[(0, .p 1 0), (5, .p 5 0), (6, .v (.bool ((!(mget sA.open' (x.item, x.name))) && (x13 == x.mark))))], [(1, .box [.R 2, .m 3]), (2, .row 3 (List.map encItemO (sA.items.set x.item.toNat x9))), (3, .map (encMe sA.open')), (5, .box [x.item, x.name])], 92, [(1, L 1), (3, L 3), (2, L 2)]⟩ : St)) (hpin := ⟨⟨rfl, rfl⟩, ⟨rfl, rfl⟩, ⟨rfl, rfl⟩, trivial⟩)) ?_
 refine AW.seq ?_
 refine AW.drawn 5 7 [] mix (by kernel_rfl) rfl ?_
 iterate 4 refine AD.pure T rfl rfl rfl ?_
 refine AD.pure T (d := .g [x.item, x.name]) rfl rfl rfl ?_
 refine AD.nil ?_
 refine AO.step rfl (mupdate_ok (k := (x.item, x.name)) mapT0 rfl rfl rfl rfl rfl (needT (hx12)) rfl) ?_
 refine AO.nil (AW.seq ?_)
 refine AW.region ?_
 iterate 2 refine AO.pu T ?_
 refine AO.nil (AW.ret ?_)
 have hR := someE hH; subst hR
 exact ⟨trivial, rfl, _, [], [1, 2, 3], rfl, expLG_cons (.pb rfl (expLC_cons (.rowR rfl) (expLC_cons (.mapR rfl) (expLC_nil)))) (expLG_cons (.c .u) (expLG_nil)), .c (.c .v), by decide⟩
 replace hH := condF hc hH
 refine AW.skip ?_
 refine AW.seq ?_
 obtain ⟨x15, hx16, hH⟩ := bindE hH
 obtain ⟨x17, hx18, hH⟩ := bindE hH
 refine AW.le (Le.openM 2 x.item.toNat 1 7 rfl (getI_get (hx16)) rfl rfl) ?_
 refine AW.drawn 13 8 [] mix (by kernel_rfl) rfl ?_
 iterate 6 refine AD.pure T rfl rfl rfl ?_
 refine AD.val rfl rfl (ix_lent_ok T rfl rfl rfl rfl rfl rfl (hx16)) ?_
 refine AD.pure T rfl rfl rfl ?_
 refine AD.val rfl rfl (load_lent_ok T rfl rfl rfl rfl rfl) ?_
 iterate 4 refine AD.pure T rfl rfl rfl ?_
 refine AD.nil ?_
 refine AO.val rfl rfl (ix_row_ok T rfl rfl rfl rfl rfl rfl (hx18)) ?_
 refine AO.step rfl (store_row_ok T rfl rfl rfl rfl rfl (getI_get (hx18)) rfl rfl rfl rfl (u' := x.mark) rfl rfl) ?_
 refine AO.le (Le.closeM 2 x.item.toNat 1 7 rfl rfl (getI_get (hx16)) rfl (u' := (Item.mk x15.names (x15.marks.set x.name.toNat x.mark) x15.late)) rfl) ?_
 refine AO.nil ?_
 refine AW.le (Le.ct 0 0 (σ' := (⟨[(0, .p 1 0), (5, .p 5 0)], [(1, .box [.R 2, .m 3]), (2, .row 3 (List.map encItemO (sA.items.set x.item.toNat (Item.mk x15.names (x15.marks.set x.name.toNat x.mark) x15.late)))), (3, .map (encMe sA.open')), (5, .box [x.item, x.name])], 92, [(1, L 1), (3, L 3), (2, L 2)]⟩ : St)) (hpin := ⟨⟨rfl, rfl⟩, ⟨rfl, rfl⟩, ⟨rfl, rfl⟩, trivial⟩)) ?_
 refine AW.seq ?_
 obtain ⟨u19, hx20, hH⟩ := bindE hH
 refine AW.drawn 5 8 [] mix (by kernel_rfl) rfl ?_
 iterate 4 refine AD.pure T rfl rfl rfl ?_
 refine AD.pure T (d := .g [x.item, x.name]) rfl rfl rfl ?_
 refine AD.nil ?_
 refine AO.step rfl (mdelete_ok (k := (x.item, x.name)) mapT0 rfl rfl rfl rfl (needT (hx20)) rfl) ?_
 refine AO.nil (AW.seq ?_)
 refine AW.region ?_
 refine AO.pu T ?_
 refine AO.nil (AW.ret ?_)
 have hR := someE hH; subst hR
 exact ⟨trivial, rfl, _, [], [1, 2, 3], rfl, expLG_cons (.pb rfl (expLC_cons (.rowR rfl) (expLC_cons (.mapR rfl) (expLC_nil)))) (expLG_cons (.c .u) (expLG_nil)), .c (.c .v), by decide⟩

def impl_stateOf_l1 (h : List Change) (tick : Int) : List Change → Nat → List Item → MapL → List Item → MapL → Option (((Option HistoryState) × Bool))
  | [], k3, v25, v26, v27, v28 =>
    some ((some (HistoryState.mk v25 v26)), decide ((h.length : Int) ≤ 60))
  | y4 :: ys5, k3, v25, v26, v27, v28 =>
    (impl_historyState_apply_p (HistoryState.mk v27 v28) y4).bind fun x30 =>
    (opt ((!(!x30.2)) && decide ((k3 : Int) > 0)) default (getI h (w64 ((k3 : Int) - 1)))).bind fun x32 =>
    cond ((!x30.2) || (decide ((k3 : Int) > 0) && decide (x32.tick > y4.tick)))
      (some (none, false))
      (cond (decide (y4.tick ≤ tick))
        ((impl_historyState_apply_p (HistoryState.mk v25 v26) y4).bind fun x34 =>
        impl_stateOf_l1 h tick ys5 (k3 + 1) x34.1.items x34.1.open' x30.1.items x30.1.open')
        (impl_stateOf_l1 h tick ys5 (k3 + 1) v25 v26 x30.1.items x30.1.open'))
def impl_stateOf_p (l : List Item) (h : List Change) (tick : Int) : Option ((Option HistoryState) × Bool) :=
  (impl_copyItems_p l).bind fun x1 =>
  impl_stateOf_l1 h tick h 0 x1 [] x1 []
theorem impl_stateOf_ok (l : List Item) (h : List Change) (tick : Int) (r : ((Option HistoryState) × Bool)) (hH : impl_stateOf_p l h tick = some r) : SpecR Tryz.prog 34 [.s (List.map encItem l), .s (List.map encChange h), tick] (.t [pnO encHistoryStateO r.1, .v (.bool r.2)]) := by
 refine fn_ok T Tryz.func34 rfl (by decide) rfl ?_
 refine AW.seq (AW.region ?_)
 iterate 2 refine AO.pu T ?_
 refine AO.nil (AW.seq ?_)
 obtain ⟨x1, hx2, hH⟩ := bindE hH
 refine AW.region ?_
 refine AO.pu T ?_
 refine AO.step rfl (call_ok rfl 1 rfl rfl rfl (impl_copyItems_ok _ _ (hx2)) rfl rfl rfl) ?_
 refine AO.step rfl (makeMap_ok rfl 2 rfl rfl) ?_
 refine AO.pu T (d := .g [.R 1, .m 2]) ?_
 refine AO.step rfl (box_ok T rfl 3 rfl rfl rfl rfl) ?_
 refine AO.pu T ?_
 refine AO.step rfl (call_ok rfl 4 rfl rfl rfl (impl_copyItems_ok _ _ (hx2)) rfl rfl rfl) ?_
 refine AO.step rfl (makeMap_ok rfl 5 rfl rfl) ?_
 refine AO.pu T (d := .g [.R 4, .m 5]) ?_
 refine AO.step rfl (box_ok T rfl 6 rfl rfl rfl rfl) ?_
 iterate 2 refine AO.pu T ?_
 refine AO.nil ?_
 iterate 2 refine AW.seq ?_
 refine AW.region ?_
 refine AO.pu T ?_
 refine AO.val rfl rfl (len_map_ok T rfl rfl rfl) ?_
 refine AO.pu T ?_
 refine AO.nil ?_
 refine AW.block ?_
 refine AW.loopS (fun s : Nat × (List Item) × MapL × (List Item) × MapL => (⟨[(1, .s (List.map encChange h)), (2, tick), (8, .p 3 0), (9, .p 6 0), (22, .s (List.map encChange h)), (23, (h.length : Int)), (24, (s.1 : Int))], [(1, .row 3 (List.map encItemO s.2.1)), (2, .map (encMe s.2.2.1)), (3, .box [.R 1, .m 2]), (4, .row 3 (List.map encItemO s.2.2.2.1)), (5, .map (encMe s.2.2.2.2)), (6, .box [.R 4, .m 5])], 60, []⟩ : St)) (fun s => s.1 ≤ h.length ∧ impl_stateOf_l1 h tick (h.drop s.1) s.1 s.2.1 s.2.2.1 s.2.2.2.1 s.2.2.2.2 = some r) (fun s => h.length - s.1) (0, x1, [], x1, []) ⟨Nat.zero_le _, hH⟩ ?_ ?_
 exact Le.ct 0 0
 rintro ⟨k3, v25, v26, v27, v28⟩ ⟨hk, hH⟩
 replace hH : impl_stateOf_l1 h tick (h.drop k3) k3 v25 v26 v27 v28 = some r := hH
 try dsimp only
 refine AW.boundM (t := 1) (l := h) rfl (fun hb7 => ?_)
 rcases hd6 : h.drop k3 with _ | ⟨y4, ys5⟩
 rw [hd6, impl_stateOf_l1] at hH
 have hlt8 := drop_ge hd6
 refine AW.seq (AW.region ?_)
 refine AO.pu T ?_
 refine AO.nil (AW.seq ?_)
 refine AW.condF' (b := decide ((k3 : Int) < (h.length : Int))) rfl (rngF hlt8) ?_
 refine AW.exit ?_
 refine AW.seq (AW.region ?_)
 iterate 2 refine AO.pu T ?_
 refine AO.val rfl rfl (len_map_ok T rfl rfl rfl) ?_
 iterate 3 refine AO.pu T ?_
 refine AO.nil (AW.ret ?_)
 have hR := someE hH; subst hR
 exact retQ.i [3, 1, 2] rfl (.t (expLG_cons (.pb rfl (expLC_cons (.rowR rfl) (expLC_cons (.mapR rfl) (expLC_nil)))) (expLG_cons (.c .v) (expLG_nil))))
 rw [hd6, impl_stateOf_l1] at hH
 have hlt8 := drop_lt hd6
 refine AW.seq (AW.region ?_)
 refine AO.pu T ?_
 refine AO.nil (AW.seq ?_)
 refine AW.condT' (b := decide ((k3 : Int) < (h.length : Int))) rfl (rngT hlt8) ?_
 refine AW.skip ?_
 refine AW.seq ?_
 refine AW.block ?_
 refine AW.seq (AW.region ?_)
 refine AO.pu T ?_
 refine AO.val rfl rfl (ix_map_ok T rfl rfl rfl rfl rfl (getI_drop hd6) rfl) ?_
 refine AO.pu T (d := .g [y4.tick, y4.caller, y4.item, y4.name, y4.mark, .v (.bool y4.review)]) ?_
 refine AO.step rfl (alloc_ok T rfl 17 rfl rfl rfl rfl rfl) ?_
 refine AO.pu T ?_
 refine AO.se T [y4.tick, y4.caller, y4.item, y4.name, y4.mark, .v (.bool y4.review)] ?_
 refine AO.nil ?_
 iterate 2 refine AW.seq ?_
 obtain ⟨x30, hx31, hH⟩ := bindE hH
 obtain ⟨x32, hx33, hH⟩ := bindE hH
 refine AW.drawn 16 18 [6, 4, 5] mix (by kernel_rfl) rfl ?_
 refine AD.pure T rfl rfl rfl ?_
 refine AD.pure T (d := .g [y4.tick, y4.caller, y4.item, y4.name, y4.mark, .v (.bool y4.review)]) rfl rfl rfl ?_
 refine AD.k rfl rfl (FStep.callP rfl rfl rfl rfl rfl (es := [.pn (encHistoryStateO (HistoryState.mk v27 v28)), .g (encChange y4)]) (us := [.u]) (cs := encHistoryStateO x30.1) (ids := [6, 4, 5]) (by exact expLG_cons (.pb rfl (expLC_cons (.rowR rfl) (expLC_cons (.mapR rfl) (expLC_nil)))) (expLG_cons (.g (expLC_cons .v (expLC_cons .v (expLC_cons .v (expLC_cons .v (expLC_cons .v (expLC_cons .v (expLC_nil)))))))) (expLG_nil))) (by decide) (by decide) (impl_historyState_apply_ok _ _ _ (hx31)) rfl rfl (by rfl) rfl) rfl rfl rfl ?_
 iterate 2 refine AD.pure T rfl rfl rfl ?_
 refine AD.pureG T [] rfl trivial rfl rfl ?_
 refine AD.pureG T [34] rfl ⟨fun h => h, trivial⟩ rfl rfl ?_
 refine AD.pureG T [35] rfl ⟨fun h => h, trivial⟩ rfl rfl ?_
 iterate 2 refine AD.pureG T [] rfl trivial rfl rfl ?_
 refine AD.guard [38] rfl ⟨fun h => h, trivial⟩ (fun hg => arw_ok rfl rfl rfl rfl) rfl ?_
 refine AD.guard [37, 39] rfl ⟨fun h => h, fun h => h, trivial⟩ (fun hg => ix_map_ok T rfl rfl rfl rfl rfl (optT hx33 hg) rfl) rfl ?_
 refine AD.pureG T [40] rfl ⟨fun h => h, trivial⟩ rfl rfl ?_
 refine AD.pureG T [41] rfl ⟨fun h => h, trivial⟩ rfl rfl ?_
 refine AD.pureG T [] rfl trivial rfl rfl ?_
 refine AD.pureG T [43] rfl ⟨fun h => h, trivial⟩ rfl rfl ?_
 refine AD.nil ?_
 refine AO.pureG T [42, 44] rfl ⟨fun h => h, fun h => h, trivial⟩ rfl rfl ?_
 refine AO.guard [36] rfl ⟨fun h => h, trivial⟩ (fun hg => pick_and rfl rfl rfl (by rw [hg]; exact Bool.true_and _)) rfl ?_
 refine AO.val rfl rfl (pick_or rfl rfl rfl rfl) ?_
 refine AO.nil ?_
 refine AW.le (Le.ct 0 0 (σ' := (⟨[(1, .s (List.map encChange h)), (2, tick), (8, .p 3 0), (9, .p 6 0), (11, .p 17 0), (22, .s (List.map encChange h)), (23, (h.length : Int)), (24, (k3 : Int)), (47, .v (.bool ((!x30.2) || (decide ((k3 : Int) > 0) && decide (x32.tick > y4.tick)))))], [(1, .row 3 (List.map encItemO v25)), (2, .map (encMe v26)), (3, .box [.R 1, .m 2]), (6, .box [.R 18, .m 19]), (17, .box [y4.tick, y4.caller, y4.item, y4.name, y4.mark, .v (.bool y4.review)]), (18, .row 3 (List.map encItemO x30.1.items)), (19, .map (encMe x30.1.open'))], 60, []⟩ : St))) ?_
 refine AW.cond (b := ((!x30.2) || (decide ((k3 : Int) > 0) && decide (x32.tick > y4.tick)))) rfl (fun hc => ?_) (fun hc => ?_)
 replace hH := condT hc hH
 refine AW.seq (AW.region ?_)
 iterate 2 refine AO.pu T ?_
 refine AO.nil (AW.ret ?_)
 have hR := someE hH; subst hR
 exact retQ.i [] rfl (.t (expLG_cons (.c .v) (expLG_cons (.c .v) (expLG_nil))))
 replace hH := condF hc hH
 refine AW.skip ?_
 refine AW.seq (AW.region ?_)
 iterate 4 refine AO.pu T ?_
 refine AO.nil ?_
 refine AW.cond (b := decide (y4.tick ≤ tick)) rfl (fun hc => ?_) (fun hc => ?_)
 replace hH := condT hc hH
 obtain ⟨x34, hx35, hH⟩ := bindE hH
 refine AW.region ?_
 refine AO.pu T ?_
 refine AO.pu T (d := .g [y4.tick, y4.caller, y4.item, y4.name, y4.mark, .v (.bool y4.review)]) ?_
 refine AO.step rfl (callP_ok rfl 20 rfl rfl rfl (es := [.pn (encHistoryStateO (HistoryState.mk v25 v26)), .g (encChange y4)]) (us := [.u]) (cs := encHistoryStateO x34.1) (ids := [3, 1, 2]) (by exact expLG_cons (.pb rfl (expLC_cons (.rowR rfl) (expLC_cons (.mapR rfl) (expLC_nil)))) (expLG_cons (.g (expLC_cons .v (expLC_cons .v (expLC_cons .v (expLC_cons .v (expLC_cons .v (expLC_cons .v (expLC_nil)))))))) (expLG_nil))) (by decide) (by decide) (impl_historyState_apply_ok _ _ _ (hx35)) rfl rfl (by rfl) rfl) ?_
 refine AO.nil ?_
 refine AW.region ?_
 refine AO.val rfl rfl (ar_ok rfl rfl rfl rfl (inI_succ hlt8 hb7)) ?_
 refine AO.pu T ?_
 refine AO.nil ?_
 refine ⟨(k3 + 1, x34.1.items, x34.1.open', x30.1.items, x30.1.open'), ⟨Nat.succ_le_of_lt hlt8, (by rw [drop_succ_of hd6]; exact hH)⟩, (by have := hlt8; dsimp only; omega), ?_⟩
 refine Le.trans (Le.ct 20 1 (σ' := (⟨[(1, .s (List.map encChange h)), (2, tick), (8, .p 3 0), (9, .p 6 0), (22, .s (List.map encChange h)), (23, (h.length : Int)), (24, ((k3 + 1 : Nat) : Int))], [(1, .row 3 (List.map encItemO x34.1.items)), (3, .box [.R 1, .m 21]), (6, .box [.R 18, .m 19]), (18, .row 3 (List.map encItemO x30.1.items)), (19, .map (encMe x30.1.open')), (21, .map (encMe x34.1.open'))], 60, []⟩ : St))) ?_
 refine Le.trans (Le.ct 21 2 (σ' := (⟨[(1, .s (List.map encChange h)), (2, tick), (8, .p 3 0), (9, .p 6 0), (22, .s (List.map encChange h)), (23, (h.length : Int)), (24, ((k3 + 1 : Nat) : Int))], [(1, .row 3 (List.map encItemO x34.1.items)), (2, .map (encMe x34.1.open')), (3, .box [.R 1, .m 2]), (6, .box [.R 18, .m 19]), (18, .row 3 (List.map encItemO x30.1.items)), (19, .map (encMe x30.1.open'))], 60, []⟩ : St))) ?_
 refine Le.trans (Le.ct 18 4 (σ' := (⟨[(1, .s (List.map encChange h)), (2, tick), (8, .p 3 0), (9, .p 6 0), (22, .s (List.map encChange h)), (23, (h.length : Int)), (24, ((k3 + 1 : Nat) : Int))], [(1, .row 3 (List.map encItemO x34.1.items)), (2, .map (encMe x34.1.open')), (3, .box [.R 1, .m 2]), (4, .row 3 (List.map encItemO x30.1.items)), (6, .box [.R 4, .m 19]), (19, .map (encMe x30.1.open'))], 60, []⟩ : St))) ?_
 exact Le.ct 19 5
 replace hH := condF hc hH
 refine AW.skip ?_
 refine AW.region ?_
 refine AO.val rfl rfl (ar_ok rfl rfl rfl rfl (inI_succ hlt8 hb7)) ?_
 refine AO.pu T ?_
 refine AO.nil ?_
 refine ⟨(k3 + 1, v25, v26, x30.1.items, x30.1.open'), ⟨Nat.succ_le_of_lt hlt8, (by rw [drop_succ_of hd6]; exact hH)⟩, (by have := hlt8; dsimp only; omega), ?_⟩
 refine Le.trans (Le.ct 18 4 (σ' := (⟨[(1, .s (List.map encChange h)), (2, tick), (8, .p 3 0), (9, .p 6 0), (22, .s (List.map encChange h)), (23, (h.length : Int)), (24, ((k3 + 1 : Nat) : Int))], [(1, .row 3 (List.map encItemO v25)), (2, .map (encMe v26)), (3, .box [.R 1, .m 2]), (4, .row 3 (List.map encItemO x30.1.items)), (6, .box [.R 4, .m 19]), (19, .map (encMe x30.1.open'))], 60, []⟩ : St))) ?_
 exact Le.ct 19 5

def impl_isHistory_p (fuel : Nat) (l : List Item) (h : List Change) : Option Bool :=
  (impl_AreItems_p fuel l).bind fun x1 =>
  cond (!x1)
    (some false)
    ((impl_stateOf_p l h 0).bind fun x3 =>
    (match x3.1 with
      | none =>
        some x3.2
      | some p2_0 =>
        some x3.2))
theorem impl_isHistory_ok (fuel : Nat) (l : List Item) (h : List Change) (r : Bool) (hH : impl_isHistory_p fuel l h = some r) : SpecR Tryz.prog 21 [.s (List.map encItem l), .s (List.map encChange h)] (.v (.bool r)) := by
 refine fn_ok T Tryz.func21 rfl (by decide) rfl ?_
 refine AW.seq (AW.region ?_)
 refine AO.pu T ?_
 refine AO.nil ?_
 iterate 2 refine AW.seq ?_
 obtain ⟨x1, hx2, hH⟩ := bindE hH
 refine AW.region ?_
 refine AO.pu T ?_
 refine AO.val rfl rfl (callV_ok rfl rfl rfl rfl (impl_AreItems_ok fuel _ _ (hx2)) rfl) ?_
 refine AO.pu T ?_
 refine AO.nil ?_
 refine AW.cond (b := (!x1)) rfl (fun hc => ?_) (fun hc => ?_)
 replace hH := condT hc hH
 refine AW.seq (AW.region ?_)
 refine AO.pu T ?_
 refine AO.nil (AW.ret ?_)
 have hR := someE hH; subst hR
 exact retQ.i [] rfl (.c (.c .v))
 replace hH := condF hc hH
 refine AW.skip ?_
 refine AW.seq ?_
 obtain ⟨x3, hx4, hH⟩ := bindE hH
 rcases hq2_0 : x3.1 with _ | p2_0
 rw [hq2_0] at hH
 try dsimp only at hH
 refine AW.region ?_
 iterate 2 refine AO.pu T ?_
 refine AO.step rfl (call_ok rfl 1 rfl rfl rfl ((by have q := impl_stateOf_ok _ _ _ _ (hx4); rw [hq2_0] at q; exact q)) rfl rfl rfl) ?_
 iterate 5 refine AO.pu T ?_
 refine AO.nil (AW.seq ?_)
 refine AW.region ?_
 iterate 2 refine AO.pu T ?_
 refine AO.nil (AW.ret ?_)
 have hR := someE hH; subst hR
 exact retQ.i [] rfl (.c (.c .v))
 rw [hq2_0] at hH
 try dsimp only at hH
 refine AW.region ?_
 iterate 2 refine AO.pu T ?_
 refine AO.step rfl (call_ok rfl 1 rfl rfl rfl ((by have q := impl_stateOf_ok _ _ _ _ (hx4); rw [hq2_0] at q; exact q)) rfl rfl rfl) ?_
 iterate 5 refine AO.pu T ?_
 refine AO.nil (AW.seq ?_)
 refine AW.region ?_
 iterate 2 refine AO.pu T ?_
 refine AO.nil (AW.ret ?_)
 have hR := someE hH; subst hR
 exact retQ.i [] rfl (.c (.c .v))

def strconv_Itoa_p (n : Int) : Option ByteArray := (need (decide (-9223372036854775808 ≤ n) && decide (n ≤ 9223372036854775807))).bind fun _ => some ⟨(Go.Lib.itoa n).toArray⟩
theorem strconv_Itoa_ok (n : Int) (r : ByteArray) (hH : strconv_Itoa_p n = some r) : SpecR Tryz.prog 52 [.v (.int .i64 n)] (.v (.string r)) := by
  obtain ⟨u, hu, hr⟩ := bindE hH
  cases someE hr
  exact spec_itoa ⟨_, Tryz.func52, rfl, by decide⟩ (fun n h0 h1 w hG => Tryz.strconv_Itoa n h0 h1 w (globTab (by kernel_rfl) hG)) n (needT hu)

end Go.Proofs.YtjbkbiofklgblaaGreatDoor

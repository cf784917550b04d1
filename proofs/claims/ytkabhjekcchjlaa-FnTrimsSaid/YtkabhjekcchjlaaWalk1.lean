/- The walk, part 1: what each function reached by the law FnTrims computes. No condition. -/
import Derived.Test.YtkabhjekcchjlaaAm3
import Derived.Test.YtkabhjekcchjlaaShelf
import Derived.Test.YtkabhjekcchjlaaProg
set_option maxRecDepth 4000
set_option maxHeartbeats 1000000
set_option linter.unusedVariables false
set_option linter.unusedSimpArgs false
set_option linter.unusedSectionVars false

namespace Go.Proofs.Ytkabhjekcchjlaa
open Go.AM
def teL : List (Option TI) := [
  none,
  none,
  some ⟨.int .i64, 1, 8, some (.int .i64 0)⟩,
  some ⟨.int .i64, 1, 8, some (.int .i64 0)⟩,
  some ⟨.bool, 1, 1, some (.bool false)⟩,
  some ⟨.int .u8, 1, 1, some (.int .u8 0)⟩,
  some ⟨.int .u8, 1, 1, some (.int .u8 0)⟩,
  some ⟨.struct [(0, 2), (1, 3), (2, 4), (3, 6)], 4, 24, some (.agg #[.int .i64 0, .int .i64 0, .bool false, .int .u8 0])⟩,
  some ⟨.struct [(0, 2), (1, 3), (2, 4), (3, 6)], 4, 24, some (.agg #[.int .i64 0, .int .i64 0, .bool false, .int .u8 0])⟩,
  some ⟨.str, 1, 16, some (.string ⟨#[]⟩)⟩,
  some ⟨.str, 1, 16, some (.string ⟨#[]⟩)⟩,
  some ⟨.str, 1, 16, some (.string ⟨#[]⟩)⟩,
  some ⟨.int .u64, 1, 8, some (.int .u64 0)⟩,
  some ⟨.struct [(0, 9), (1, 12)], 2, 24, some (.agg #[.string ⟨#[]⟩, .int .u64 0])⟩,
  some ⟨.struct [(0, 9), (1, 12)], 2, 24, some (.agg #[.string ⟨#[]⟩, .int .u64 0])⟩,
  some ⟨.ptr 126, 1, 8, some (.pointer none)⟩,
  some ⟨.ptr 129, 1, 8, some (.pointer none)⟩,
  some ⟨.ptr 137, 1, 8, some (.pointer none)⟩,
  some ⟨.struct [(0, 17)], 1, 8, some (.agg #[.pointer none])⟩,
  some ⟨.struct [(0, 17)], 1, 8, some (.agg #[.pointer none])⟩,
  none,
  some ⟨.int .i32, 1, 4, some (.int .i32 0)⟩,
  some ⟨.slice 3, 1, 24, some (.slice none 0 0)⟩,
  some ⟨.slice 76, 1, 24, some (.slice none 0 0)⟩,
  none,
  some ⟨.slice 22, 1, 24, some (.slice none 0 0)⟩,
  none,
  none,
  none,
  some ⟨.slice 72, 1, 24, some (.slice none 0 0)⟩,
  none,
  none,
  none,
  none,
  none,
  none,
  none,
  none,
  none,
  none,
  none,
  none,
  none,
  some ⟨.slice 5, 1, 24, some (.slice none 0 0)⟩,
  none,
  none,
  none,
  none,
  none,
  none,
  none,
  none,
  none,
  none,
  none,
  none,
  none,
  none,
  none,
  none,
  none,
  none,
  none,
  none,
  none,
  none,
  none,
  none,
  none,
  none,
  none,
  some ⟨.struct [(0, 3), (1, 3), (2, 3)], 3, 24, some (.agg #[.int .i64 0, .int .i64 0, .int .i64 0])⟩,
  some ⟨.struct [(0, 3), (1, 3), (2, 3)], 3, 24, some (.agg #[.int .i64 0, .int .i64 0, .int .i64 0])⟩,
  none,
  none,
  none,
  some ⟨.struct [(0, 3), (1, 3), (2, 3)], 3, 24, some (.agg #[.int .i64 0, .int .i64 0, .int .i64 0])⟩,
  none,
  none,
  none,
  none,
  none,
  some ⟨.array 21 3, 21, 168, some (.agg #[.int .i64 0, .int .i64 0, .int .i64 0, .int .i64 0, .int .i64 0, .int .i64 0, .int .i64 0, .int .i64 0, .int .i64 0, .int .i64 0, .int .i64 0, .int .i64 0, .int .i64 0, .int .i64 0, .int .i64 0, .int .i64 0, .int .i64 0, .int .i64 0, .int .i64 0, .int .i64 0, .int .i64 0])⟩,
  none,
  none,
  some ⟨.ptr 88, 1, 8, some (.pointer none)⟩,
  some ⟨.int .u64, 1, 8, some (.int .u64 0)⟩,
  some ⟨.struct [(0, 43), (1, 3), (2, 86)], 3, 40, some (.agg #[.slice none 0 0, .int .i64 0, .int .u64 0])⟩,
  some ⟨.struct [(0, 43), (1, 3), (2, 86)], 3, 40, some (.agg #[.slice none 0 0, .int .i64 0, .int .u64 0])⟩,
  none,
  none,
  none,
  none,
  none,
  none,
  none,
  none,
  none,
  none,
  none,
  none,
  none,
  some ⟨.int .u64, 1, 8, some (.int .u64 0)⟩,
  none,
  none,
  none,
  none,
  some ⟨.int .i64, 1, 8, some (.int .i64 0)⟩,
  none,
  none,
  none,
  none,
  none,
  some ⟨.int .u32, 1, 4, some (.int .u32 0)⟩,
  none,
  none,
  some ⟨.int .u64, 1, 8, some (.int .u64 0)⟩,
  none,
  none,
  none,
  some ⟨.ptr 3, 1, 8, some (.pointer none)⟩,
  none,
  some ⟨.ptr 116, 1, 8, some (.pointer none)⟩,
  none,
  none,
  some ⟨.struct [(0, 17), (1, 17), (2, 17), (3, 9)], 4, 40, some (.agg #[.pointer none, .pointer none, .pointer none, .string ⟨#[]⟩])⟩,
  some ⟨.struct [(0, 17), (1, 17), (2, 17), (3, 9)], 4, 40, some (.agg #[.pointer none, .pointer none, .pointer none, .string ⟨#[]⟩])⟩,
  some ⟨.array 0 16, 0, 0, some (.agg #[])⟩,
  some ⟨.struct [(0, 127)], 0, 0, some (.agg #[])⟩,
  some ⟨.struct [(0, 127)], 0, 0, some (.agg #[])⟩,
  some ⟨.int .u8, 1, 1, some (.int .u8 0)⟩,
  some ⟨.int .u8, 1, 1, some (.int .u8 0)⟩,
  none,
  some ⟨.ptr 5, 1, 8, some (.pointer none)⟩,
  some ⟨.int .i32, 1, 4, some (.int .i32 0)⟩,
  some ⟨.int .i32, 1, 4, some (.int .i32 0)⟩,
  some ⟨.struct [(0, 12), (1, 12), (2, 113), (3, 130), (4, 5), (5, 5), (6, 131), (7, 132), (8, 133), (9, 134), (10, 135)], 11, 48, some (.agg #[.int .u64 0, .int .u64 0, .int .u32 0, .int .u8 0, .int .u8 0, .int .u8 0, .int .u8 0, .nilFunc, .pointer none, .int .i32 0, .int .i32 0])⟩,
  some ⟨.struct [(0, 12), (1, 12), (2, 113), (3, 130), (4, 5), (5, 5), (6, 131), (7, 132), (8, 133), (9, 134), (10, 135)], 11, 48, some (.agg #[.int .u64 0, .int .u64 0, .int .u32 0, .int .u8 0, .int .u8 0, .int .u8 0, .int .u8 0, .nilFunc, .pointer none, .int .i32 0, .int .i32 0])⟩,
  none]
def te : TE := teOf teL
theorem T : TEok Try.prog te := TEok_of (by kernel_rfl)
theorem mix : Try.prog.follows .mixedOrders = true := by kernel_rfl

def encInt (x : Int) : List D := [.v (.int .i64 x)]
def encBool (x : Bool) : List D := [.v (.bool x)]
def encStr (x : ByteArray) : List D := [.v (.string x)]
def encInt_u8 (x : Int) : List D := [.v (.int .u8 x)]
def encInt_u64 (x : Int) : List D := [.v (.int .u64 x)]
def encInt_i32 (x : Int) : List D := [.v (.int .i32 x)]
def encLInt (x : List Int) : List D := [.s (x.map encInt)]
def encLIntO (x : List Int) : List D := [.w 1 (x.map encInt)]
theorem frzLInt (x : List Int) : FrzL (encLIntO x) (encLInt x) := .cons (.map fun y => .vs rfl) .nil
structure L1Cur where
  code : List Int
  at' : Int
  seed : Int
  deriving Inhabited, DecidableEq
def encL1Cur (x : L1Cur) : List D := [.s (x.code.map encInt_u8), .v (.int .i64 x.at'), .v (.int .u64 x.seed)]
def encL1CurO (x : L1Cur) : List D := [.w 1 (x.code.map encInt_u8), .v (.int .i64 x.at'), .v (.int .u64 x.seed)]
theorem frzL1Cur (x : L1Cur) : FrzL (encL1CurO x) (encL1Cur x) := .cons (.map fun y => .vs rfl) (.cons (.vs rfl) (.cons (.vs rfl) (.nil)))

def laws_big_p (code : List Int) (more : List Int) : Option Bool :=
  some (decide ((code.length : Int) > 1048576) || decide ((more.length : Int) > (w64 (1048576 - (code.length : Int)))))
theorem laws_big_ok (code : List Int) (more : List Int) (r : Bool) (hH : laws_big_p code more = some r) : SpecR Try.prog 25 [.s (List.map encInt_u8 code), .s (List.map encInt_u8 more)] (.v (.bool r)) := by
 refine fn_ok T Try.func25 rfl (by decide) rfl ?_
 refine AW.seq (AW.region ?_)
 refine AO.pu T ?_
 refine AO.nil (AW.seq ?_)
 refine AW.region ?_
 refine AO.pu T ?_
 refine AO.val rfl rfl (len_map_ok T rfl rfl rfl) ?_
 iterate 2 refine AO.pu T ?_
 refine AO.pureG T [] rfl trivial rfl rfl ?_
 refine AO.guard [9] rfl ⟨fun h => h, trivial⟩ (fun hg => len_map_ok T rfl rfl rfl) rfl ?_
 refine AO.pureG T [] rfl trivial rfl rfl ?_
 refine AO.guard [11] rfl ⟨fun h => h, trivial⟩ (fun hg => len_map_ok T rfl rfl rfl) rfl ?_
 refine AO.guard [12] rfl ⟨fun h => h, trivial⟩ (fun hg => arw_ok rfl rfl rfl rfl) rfl ?_
 refine AO.pureG T [10, 13] rfl ⟨fun h => h, fun h => h, trivial⟩ rfl rfl ?_
 refine AO.val rfl rfl (pick_or rfl rfl rfl rfl) ?_
 refine AO.pu T ?_
 refine AO.nil (AW.ret ?_)
 cases someE hH
 exact retQ.i [] rfl (.c (.c .v))

def spec_l1Cur_next_p (c : L1Cur) : Option (L1Cur × Int) :=
  cond (decide (c.at' < (c.code.length : Int)))
    ((getI c.code c.at').bind fun x1 =>
    cond (decide ((w64 (c.at' + 1)) ≤ (c.code.length : Int)))
      (some ((L1Cur.mk c.code (w64 (c.at' + 1)) (IntKind.wrap .u64 ((IntKind.wrap .u64 ((IntKind.wrap .u64 (c.seed * 6364136223846793005)) + (IntKind.wrap .u64 (IntKind.wrap .i64 x1)))) + 1442695040888963407))), IntKind.wrap .i64 x1))
      (some ((L1Cur.mk c.code (w64 (c.at' + 1)) (IntKind.wrap .u64 ((IntKind.wrap .u64 ((IntKind.wrap .u64 (c.seed * 6364136223846793005)) + (IntKind.wrap .u64 (IntKind.wrap .i64 x1)))) + 1442695040888963407))), IntKind.wrap .i64 (IntKind.wrap .u64 ((BitVec.ofInt 64 ((IntKind.wrap .u64 ((IntKind.wrap .u64 ((IntKind.wrap .u64 (c.seed * 6364136223846793005)) + (IntKind.wrap .u64 (IntKind.wrap .i64 x1)))) + 1442695040888963407)).fdiv (2 ^ 40)) &&& BitVec.ofInt 64 255).toNat : Int)))))
    (cond (decide ((w64 (c.at' + 1)) ≤ (c.code.length : Int)))
      (some ((L1Cur.mk c.code (w64 (c.at' + 1)) (IntKind.wrap .u64 ((IntKind.wrap .u64 ((IntKind.wrap .u64 (c.seed * 6364136223846793005)) + (IntKind.wrap .u64 0))) + 1442695040888963407))), 0))
      (some ((L1Cur.mk c.code (w64 (c.at' + 1)) (IntKind.wrap .u64 ((IntKind.wrap .u64 ((IntKind.wrap .u64 (c.seed * 6364136223846793005)) + (IntKind.wrap .u64 0))) + 1442695040888963407))), IntKind.wrap .i64 (IntKind.wrap .u64 ((BitVec.ofInt 64 ((IntKind.wrap .u64 ((IntKind.wrap .u64 ((IntKind.wrap .u64 (c.seed * 6364136223846793005)) + (IntKind.wrap .u64 0))) + 1442695040888963407)).fdiv (2 ^ 40)) &&& BitVec.ofInt 64 255).toNat : Int)))))
theorem spec_l1Cur_next_ok (c : L1Cur) (r : (L1Cur × Int)) (hH : spec_l1Cur_next_p c = some r) : SpecM Try.prog 132 [.pw (encL1Cur c)] [.pw (encL1Cur r.1)] (.v (.int .i64 r.2)) := by
 refine fn_okM T Try.func132 rfl (by decide) rfl rfl ?_
 intro L
 show AW _ _ _ (⟨[(0, .p 1 0)], [(1, .box [.s (List.map encInt_u8 c.code), c.at', .v (.int .u64 c.seed)])], 62, [(1, L 1)]⟩ : St)
 refine AW.seq (AW.region ?_)
 refine AO.pu T ?_
 refine AO.nil (AW.seq ?_)
 refine AW.region ?_
 refine AO.pu T ?_
 refine AO.nil ?_
 iterate 2 refine AW.seq ?_
 refine AW.drawn 9 2 [] mix (by kernel_rfl) rfl ?_
 iterate 8 refine AD.pure T rfl rfl rfl ?_
 refine AD.val rfl rfl (len_map_ok T rfl rfl rfl) ?_
 refine AD.nil ?_
 refine AO.pu T ?_
 refine AO.nil ?_
 refine AW.cond (b := decide (c.at' < (c.code.length : Int))) rfl (fun hc => ?_) (fun hc => ?_)
 replace hH := condT hc hH
 obtain ⟨x1, hx2, hH⟩ := bindE hH
 refine AW.drawn 8 2 [] mix (by kernel_rfl) rfl ?_
 iterate 8 refine AD.pure T rfl rfl rfl ?_
 refine AD.nil ?_
 refine AO.val rfl rfl (ix_map_ok T rfl rfl rfl rfl rfl (hx2) rfl) ?_
 refine AO.pu T ?_
 refine AO.val rfl rfl (convw_ok T rfl rfl rfl rfl) ?_
 refine AO.pu T ?_
 refine AO.nil ?_
 refine AW.le (Le.ct 0 0 (σ' := (⟨[(0, .p 1 0), (3, (IntKind.wrap .i64 x1 : Int))], [(1, .box [.s (List.map encInt_u8 c.code), c.at', .v (.int .u64 c.seed)])], 62, [(1, L 1)]⟩ : St)) (hpin := ⟨⟨rfl, rfl⟩, trivial⟩)) ?_
 refine AW.seq (AW.region ?_)
 iterate 4 refine AO.pu T ?_
 refine AO.val rfl rfl (arw_ok rfl rfl rfl rfl) ?_
 iterate 2 refine AO.pu T ?_
 refine AO.se T [.s (List.map encInt_u8 c.code), w64 (c.at' + 1), .v (.int .u64 c.seed)] ?_
 refine AO.nil (AW.seq ?_)
 refine AW.region ?_
 iterate 5 refine AO.pu T ?_
 refine AO.val rfl rfl (arw_ok rfl rfl rfl rfl) ?_
 refine AO.pu T ?_
 refine AO.val rfl rfl (convw_ok T rfl rfl rfl rfl) ?_
 iterate 2 refine AO.val rfl rfl (arw_ok rfl rfl rfl rfl) ?_
 iterate 2 refine AO.pu T ?_
 refine AO.se T [.s (List.map encInt_u8 c.code), w64 (c.at' + 1), .v (.int .u64 (IntKind.wrap .u64 ((IntKind.wrap .u64 ((IntKind.wrap .u64 (c.seed * 6364136223846793005)) + (IntKind.wrap .u64 (IntKind.wrap .i64 x1)))) + 1442695040888963407)))] ?_
 refine AO.nil ?_
 iterate 2 refine AW.seq ?_
 refine AW.drawn 9 2 [] mix (by kernel_rfl) rfl ?_
 iterate 8 refine AD.pure T rfl rfl rfl ?_
 refine AD.val rfl rfl (len_map_ok T rfl rfl rfl) ?_
 refine AD.nil ?_
 refine AO.pu T ?_
 refine AO.nil ?_
 refine AW.le (Le.ct 0 0 (σ' := (⟨[(0, .p 1 0), (3, (IntKind.wrap .i64 x1 : Int)), (53, .v (.bool (decide ((w64 (c.at' + 1)) ≤ (c.code.length : Int)))))], [(1, .box [.s (List.map encInt_u8 c.code), w64 (c.at' + 1), .v (.int .u64 (IntKind.wrap .u64 ((IntKind.wrap .u64 ((IntKind.wrap .u64 (c.seed * 6364136223846793005)) + (IntKind.wrap .u64 (IntKind.wrap .i64 x1)))) + 1442695040888963407)))])], 62, [(1, L 1)]⟩ : St)) (hpin := ⟨⟨rfl, rfl⟩, trivial⟩)) ?_
 refine AW.cond (b := decide ((w64 (c.at' + 1)) ≤ (c.code.length : Int))) rfl (fun hc => ?_) (fun hc => ?_)
 replace hH := condT hc hH
 refine AW.seq (AW.region ?_)
 iterate 2 refine AO.pu T ?_
 refine AO.nil (AW.ret ?_)
 cases someE hH
 exact ⟨trivial, rfl, _, [], [1], rfl, expLG_cons (.c (.box rfl rfl)) (expLG_nil), .c (.c .v), by decide⟩
 replace hH := condF hc hH
 refine AW.skip ?_
 refine AW.seq (AW.region ?_)
 iterate 4 refine AO.pu T ?_
 refine AO.val rfl rfl (shr_ok rfl rfl rfl rfl rfl) ?_
 refine AO.val rfl rfl (and_ok rfl rfl rfl) ?_
 refine AO.val rfl rfl (convw_ok T rfl rfl rfl rfl) ?_
 refine AO.pu T ?_
 refine AO.nil (AW.ret ?_)
 cases someE hH
 exact ⟨trivial, rfl, _, [], [1], rfl, expLG_cons (.c (.box rfl rfl)) (expLG_nil), .c (.c .v), by decide⟩
 replace hH := condF hc hH
 refine AW.skip ?_
 refine AW.seq (AW.region ?_)
 iterate 4 refine AO.pu T ?_
 refine AO.val rfl rfl (arw_ok rfl rfl rfl rfl) ?_
 iterate 2 refine AO.pu T ?_
 refine AO.se T [.s (List.map encInt_u8 c.code), w64 (c.at' + 1), .v (.int .u64 c.seed)] ?_
 refine AO.nil (AW.seq ?_)
 refine AW.region ?_
 iterate 5 refine AO.pu T ?_
 refine AO.val rfl rfl (arw_ok rfl rfl rfl rfl) ?_
 refine AO.pu T ?_
 refine AO.val rfl rfl (convw_ok T rfl rfl rfl rfl) ?_
 iterate 2 refine AO.val rfl rfl (arw_ok rfl rfl rfl rfl) ?_
 iterate 2 refine AO.pu T ?_
 refine AO.se T [.s (List.map encInt_u8 c.code), w64 (c.at' + 1), .v (.int .u64 (IntKind.wrap .u64 ((IntKind.wrap .u64 ((IntKind.wrap .u64 (c.seed * 6364136223846793005)) + (IntKind.wrap .u64 0))) + 1442695040888963407)))] ?_
 refine AO.nil ?_
 refine AW.le (Le.ct 0 0 (σ' := (⟨[(0, .p 1 0), (3, (0 : Int))], [(1, .box [.s (List.map encInt_u8 c.code), w64 (c.at' + 1), .v (.int .u64 (IntKind.wrap .u64 ((IntKind.wrap .u64 ((IntKind.wrap .u64 (c.seed * 6364136223846793005)) + (IntKind.wrap .u64 0))) + 1442695040888963407)))])], 62, [(1, L 1)]⟩ : St)) (hpin := ⟨⟨rfl, rfl⟩, trivial⟩)) ?_
 iterate 2 refine AW.seq ?_
 refine AW.drawn 9 2 [] mix (by kernel_rfl) rfl ?_
 iterate 8 refine AD.pure T rfl rfl rfl ?_
 refine AD.val rfl rfl (len_map_ok T rfl rfl rfl) ?_
 refine AD.nil ?_
 refine AO.pu T ?_
 refine AO.nil ?_
 refine AW.cond (b := decide ((w64 (c.at' + 1)) ≤ (c.code.length : Int))) rfl (fun hc => ?_) (fun hc => ?_)
 replace hH := condT hc hH
 refine AW.seq (AW.region ?_)
 iterate 2 refine AO.pu T ?_
 refine AO.nil (AW.ret ?_)
 cases someE hH
 exact ⟨trivial, rfl, _, [], [1], rfl, expLG_cons (.c (.box rfl rfl)) (expLG_nil), .c (.c .v), by decide⟩
 replace hH := condF hc hH
 refine AW.skip ?_
 refine AW.seq (AW.region ?_)
 iterate 4 refine AO.pu T ?_
 refine AO.val rfl rfl (shr_ok rfl rfl rfl rfl rfl) ?_
 refine AO.val rfl rfl (and_ok rfl rfl rfl) ?_
 refine AO.val rfl rfl (convw_ok T rfl rfl rfl rfl) ?_
 refine AO.pu T ?_
 refine AO.nil (AW.ret ?_)
 cases someE hH
 exact ⟨trivial, rfl, _, [], [1], rfl, expLG_cons (.c (.box rfl rfl)) (expLG_nil), .c (.c .v), by decide⟩

def spec_l1Cur_pick_p (c : L1Cur) (n : Int) : Option (L1Cur × Int) :=
  cond (decide (n ≤ 1))
    (some (c, 0))
    ((spec_l1Cur_next_p c).bind fun x1 =>
    cond (decide (n > 200))
      ((spec_l1Cur_next_p (L1Cur.mk x1.1.code x1.1.at' x1.1.seed)).bind fun x3 =>
      (need (n != 0)).bind fun u5 =>
      some ((L1Cur.mk x3.1.code x3.1.at' x3.1.seed), ((w64 ((w64 (x1.2 * 256)) + x3.2)).tmod n)))
      ((need (n != 0)).bind fun u7 =>
      some ((L1Cur.mk x1.1.code x1.1.at' x1.1.seed), (x1.2.tmod n))))
theorem spec_l1Cur_pick_ok (c : L1Cur) (n : Int) (r : (L1Cur × Int)) (hH : spec_l1Cur_pick_p c n = some r) : SpecM Try.prog 105 [.pw (encL1Cur c), n] [.pw (encL1Cur r.1), .u] (.v (.int .i64 r.2)) := by
 refine fn_okM T Try.func105 rfl (by decide) rfl rfl ?_
 intro L
 show AW _ _ _ (⟨[(0, .p 1 0), (1, n)], [(1, .box [.s (List.map encInt_u8 c.code), c.at', .v (.int .u64 c.seed)])], 20, [(1, L 1)]⟩ : St)
 refine AW.seq (AW.region ?_)
 refine AO.pu T ?_
 refine AO.nil ?_
 iterate 2 refine AW.seq ?_
 refine AW.region ?_
 iterate 2 refine AO.pu T ?_
 refine AO.nil ?_
 refine AW.cond (b := decide (n ≤ 1)) rfl (fun hc => ?_) (fun hc => ?_)
 replace hH := condT hc hH
 refine AW.seq (AW.region ?_)
 refine AO.pu T ?_
 refine AO.nil (AW.ret ?_)
 cases someE hH
 exact ⟨trivial, rfl, _, [], [1], rfl, expLG_cons (.c (.box rfl rfl)) (expLG_cons (.c .u) (expLG_nil)), .c (.c .v), by decide⟩
 replace hH := condF hc hH
 refine AW.skip ?_
 refine AW.seq ?_
 obtain ⟨x1, hx2, hH⟩ := bindE hH
 refine AW.region ?_
 refine AO.pu T ?_
 refine AO.step rfl (callM_ok rfl 2 rfl rfl (es := [.pw (encL1Cur c)]) (outs := [.pw (encL1Cur x1.1)]) (ids := [1]) (by exact expLG_cons (.c (.box rfl rfl)) (expLG_nil)) (by decide) (.inl (by rfl)) (by rfl) (spec_l1Cur_next_ok _ _ (hx2)) rfl (by rfl) rfl) ?_
 refine AO.pu T ?_
 refine AO.nil ?_
 iterate 2 refine AW.seq ?_
 refine AW.region ?_
 iterate 2 refine AO.pu T ?_
 refine AO.nil ?_
 refine AW.cond (b := decide (n > 200)) rfl (fun hc => ?_) (fun hc => ?_)
 replace hH := condT hc hH
 obtain ⟨x3, hx4, hH⟩ := bindE hH
 refine AW.region ?_
 refine AO.pu T ?_
 refine AO.val rfl rfl (arw_ok rfl rfl rfl rfl) ?_
 refine AO.pu T ?_
 refine AO.step rfl (callM_ok rfl 2 rfl rfl (es := [.pw (encL1Cur (L1Cur.mk x1.1.code x1.1.at' x1.1.seed))]) (outs := [.pw (encL1Cur x3.1)]) (ids := [1]) (by exact expLG_cons (.c (.box rfl rfl)) (expLG_nil)) (by decide) (.inl (by rfl)) (by rfl) (spec_l1Cur_next_ok _ _ (hx4)) rfl (by rfl) rfl) ?_
 refine AO.val rfl rfl (arw_ok rfl rfl rfl rfl) ?_
 refine AO.pu T ?_
 refine AO.nil (AW.seq ?_)
 obtain ⟨u5, hx6, hH⟩ := bindE hH
 refine AW.region ?_
 iterate 2 refine AO.pu T ?_
 refine AO.val rfl rfl (rem_ok rfl rfl rfl (neZ (needT (hx6)))) ?_
 refine AO.pu T ?_
 refine AO.nil (AW.ret ?_)
 cases someE hH
 exact ⟨trivial, rfl, _, [], [1], rfl, expLG_cons (.c (.box rfl rfl)) (expLG_cons (.c .u) (expLG_nil)), .c (.c .v), by decide⟩
 replace hH := condF hc hH
 refine AW.skip ?_
 refine AW.seq ?_
 obtain ⟨u7, hx8, hH⟩ := bindE hH
 refine AW.region ?_
 iterate 2 refine AO.pu T ?_
 refine AO.val rfl rfl (rem_ok rfl rfl rfl (neZ (needT (hx8)))) ?_
 refine AO.pu T ?_
 refine AO.nil (AW.ret ?_)
 cases someE hH
 exact ⟨trivial, rfl, _, [], [1], rfl, expLG_cons (.c (.box rfl rfl)) (expLG_cons (.c .u) (expLG_nil)), .c (.c .v), by decide⟩

def spec_l1Cur_one_p (c : L1Cur) (n : Int) : Option (L1Cur × Bool) :=
  (spec_l1Cur_pick_p c n).bind fun x1 =>
  some ((L1Cur.mk x1.1.code x1.1.at' x1.1.seed), (x1.2 == 0))
theorem spec_l1Cur_one_ok (c : L1Cur) (n : Int) (r : (L1Cur × Bool)) (hH : spec_l1Cur_one_p c n = some r) : SpecM Try.prog 127 [.pw (encL1Cur c), n] [.pw (encL1Cur r.1), .u] (.v (.bool r.2)) := by
 refine fn_okM T Try.func127 rfl (by decide) rfl rfl ?_
 intro L
 show AW _ _ _ (⟨[(0, .p 1 0), (1, n)], [(1, .box [.s (List.map encInt_u8 c.code), c.at', .v (.int .u64 c.seed)])], 9, [(1, L 1)]⟩ : St)
 refine AW.seq (AW.region ?_)
 refine AO.pu T ?_
 refine AO.nil (AW.seq ?_)
 obtain ⟨x1, hx2, hH⟩ := bindE hH
 refine AW.region ?_
 iterate 2 refine AO.pu T ?_
 refine AO.step rfl (callM_ok rfl 2 rfl rfl (es := [.pw (encL1Cur c), .v (.int .i64 n)]) (outs := [.pw (encL1Cur x1.1), .u]) (ids := [1]) (by exact expLG_cons (.c (.box rfl rfl)) (expLG_cons (.c .v) (expLG_nil))) (by decide) (.inl (by rfl)) (by rfl) (spec_l1Cur_pick_ok _ _ _ (hx2)) rfl (by rfl) rfl) ?_
 iterate 2 refine AO.pu T ?_
 refine AO.nil (AW.ret ?_)
 cases someE hH
 exact ⟨trivial, rfl, _, [], [1], rfl, expLG_cons (.c (.box rfl rfl)) (expLG_cons (.c .u) (expLG_nil)), .c (.c .v), by decide⟩

def spec_l1Cur_among_p (c : L1Cur) (list : List Int) : Option (L1Cur × Int) :=
  (spec_l1Cur_pick_p c (list.length : Int)).bind fun x1 =>
  (getI list x1.2).bind fun x3 =>
  some ((L1Cur.mk x1.1.code x1.1.at' x1.1.seed), x3)
theorem spec_l1Cur_among_ok (c : L1Cur) (list : List Int) (r : (L1Cur × Int)) (hH : spec_l1Cur_among_p c list = some r) : SpecM Try.prog 85 [.pw (encL1Cur c), .s (List.map encInt list)] [.pw (encL1Cur r.1), .u] (.v (.int .i64 r.2)) := by
 refine fn_okM T Try.func85 rfl (by decide) rfl rfl ?_
 intro L
 show AW _ _ _ (⟨[(0, .p 1 0), (1, .s (List.map encInt list))], [(1, .box [.s (List.map encInt_u8 c.code), c.at', .v (.int .u64 c.seed)])], 12, [(1, L 1)]⟩ : St)
 refine AW.seq (AW.region ?_)
 refine AO.pu T ?_
 refine AO.nil (AW.seq ?_)
 obtain ⟨x1, hx2, hH⟩ := bindE hH
 obtain ⟨x3, hx4, hH⟩ := bindE hH
 refine AW.region ?_
 iterate 3 refine AO.pu T ?_
 refine AO.val rfl rfl (len_map_ok T rfl rfl rfl) ?_
 refine AO.step rfl (callM_ok rfl 2 rfl rfl (es := [.pw (encL1Cur c), .v (.int .i64 (list.length : Int))]) (outs := [.pw (encL1Cur x1.1), .u]) (ids := [1]) (by exact expLG_cons (.c (.box rfl rfl)) (expLG_cons (.c .v) (expLG_nil))) (by decide) (.inl (by rfl)) (by rfl) (spec_l1Cur_pick_ok _ _ _ (hx2)) rfl (by rfl) rfl) ?_
 refine AO.val rfl rfl (ix_map_ok T rfl rfl rfl rfl rfl (hx4) rfl) ?_
 iterate 2 refine AO.pu T ?_
 refine AO.nil (AW.ret ?_)
 cases someE hH
 exact ⟨trivial, rfl, _, [], [1], rfl, expLG_cons (.c (.box rfl rfl)) (expLG_cons (.c .u) (expLG_nil)), .c (.c .v), by decide⟩

def spec_l1Cur_marksOf_l1 (x3 : (L1Cur × Bool)) : Nat → List Int → Int → Int → List Int → Int → Option ((List Int) × Int × Int × (List Int))
  | 0, _, _, _, _, _ => none
  | k46 + 1, v68, v69, v70, v71, v72 =>
    cond (decide (v72 > 0))
      (cond x3.2
        ((spec_l1Cur_pick_p (L1Cur.mk v68 v69 v70) 41).bind fun x74 =>
        (need (fitsB 8 (v71.length + ([w64 (25 * x74.2)]).length))).bind fun u76 =>
        spec_l1Cur_marksOf_l1 x3 k46 x74.1.code x74.1.at' x74.1.seed (v71 ++ [w64 (25 * x74.2)]) (w64 (v72 - 1)))
        ((spec_l1Cur_pick_p (L1Cur.mk v68 v69 v70) 11).bind fun x78 =>
        (need (fitsB 8 (v71.length + ([w64 (x78.2 - 5)]).length))).bind fun u80 =>
        spec_l1Cur_marksOf_l1 x3 k46 x78.1.code x78.1.at' x78.1.seed (v71 ++ [w64 (x78.2 - 5)]) (w64 (v72 - 1))))
      (some (v68, v69, v70, v71))
def spec_l1Cur_marksOf_l2 (x88 : (L1Cur × Int)) : Nat → List Int → Int → Int → List Int → Option ((L1Cur × (List Int)))
  | 0, _, _, _, _ => none
  | k90 + 1, v103, v104, v105, v106 =>
    cond (decide ((v106.length : Int) < (w64 (9 + x88.2))))
      ((spec_l1Cur_pick_p (L1Cur.mk v103 v104 v105) 9).bind fun x108 =>
      (need (fitsB 8 (v106.length + ([x108.2]).length))).bind fun u110 =>
      spec_l1Cur_marksOf_l2 x88 k90 x108.1.code x108.1.at' x108.1.seed (v106 ++ [x108.2]))
      (some ((L1Cur.mk v103 v104 v105), v106))
def spec_l1Cur_marksOf_p (fuel : Nat) (c : L1Cur) : Option (L1Cur × (List Int)) :=
  (spec_l1Cur_pick_p c 9).bind fun x1 =>
  (spec_l1Cur_one_p (L1Cur.mk x1.1.code x1.1.at' x1.1.seed) 3).bind fun x3 =>
  (spec_l1Cur_marksOf_l1 x3 fuel x3.1.code x3.1.at' x3.1.seed [] (w64 (1 + x1.2))).bind fun (v40, v41, v42, v43) =>
  (spec_l1Cur_pick_p (L1Cur.mk v40 v41 v42) 24).bind fun x82 =>
  cond (x82.2 == 0)
    ((spec_l1Cur_among_p (L1Cur.mk x82.1.code x82.1.at' x82.1.seed) [(-1000), 1000, 1001, (-1001)]).bind fun x84 =>
    (getI v43 0).bind fun x86 =>
    some ((L1Cur.mk x84.1.code x84.1.at' x84.1.seed), (v43.set ((0 : Int).toNat) x84.2)))
    (cond (x82.2 == 1)
      ((spec_l1Cur_pick_p (L1Cur.mk x82.1.code x82.1.at' x82.1.seed) 2).bind fun x88 =>
      spec_l1Cur_marksOf_l2 x88 fuel x88.1.code x88.1.at' x88.1.seed v43)
      (cond (x82.2 == 2)
        (some ((L1Cur.mk x82.1.code x82.1.at' x82.1.seed), []))
        (some ((L1Cur.mk x82.1.code x82.1.at' x82.1.seed), v43))))
theorem spec_l1Cur_marksOf_ok (fuel : Nat) (c : L1Cur) (r : (L1Cur × (List Int))) (hH : spec_l1Cur_marksOf_p fuel c = some r) : SpecM Try.prog 84 [.pw (encL1Cur c)] [.pw (encL1Cur r.1)] (.w 1 (r.2.map encInt)) := by
 refine fn_okM T Try.func84 rfl (by decide) rfl rfl ?_
 intro L
 show AW _ _ _ (⟨[(0, .p 1 0)], [(1, .box [.s (List.map encInt_u8 c.code), c.at', .v (.int .u64 c.seed)])], 55, [(1, L 1)]⟩ : St)
 refine AW.seq (AW.region ?_)
 refine AO.pu T ?_
 refine AO.nil (AW.seq ?_)
 refine AW.region ?_
 refine AO.pu T ?_
 refine AO.nil (AW.seq ?_)
 obtain ⟨x1, hx2, hH⟩ := bindE hH
 refine AW.region ?_
 refine AO.pu T ?_
 refine AO.step rfl (callM_ok rfl 2 rfl rfl (es := [.pw (encL1Cur c), .v (.int .i64 9)]) (outs := [.pw (encL1Cur x1.1), .u]) (ids := [1]) (by exact expLG_cons (.c (.box rfl rfl)) (expLG_cons (.c .v) (expLG_nil))) (by decide) (.inl (by rfl)) (by rfl) (spec_l1Cur_pick_ok _ _ _ (hx2)) rfl (by rfl) rfl) ?_
 refine AO.val rfl rfl (arw_ok rfl rfl rfl rfl) ?_
 refine AO.pu T ?_
 refine AO.nil (AW.seq ?_)
 obtain ⟨x3, hx4, hH⟩ := bindE hH
 refine AW.region ?_
 refine AO.pu T ?_
 refine AO.step rfl (callM_ok rfl 2 rfl rfl (es := [.pw (encL1Cur (L1Cur.mk x1.1.code x1.1.at' x1.1.seed)), .v (.int .i64 3)]) (outs := [.pw (encL1Cur x3.1), .u]) (ids := [1]) (by exact expLG_cons (.c (.box rfl rfl)) (expLG_cons (.c .v) (expLG_nil))) (by decide) (.inl (by rfl)) (by rfl) (spec_l1Cur_one_ok _ _ _ (hx4)) rfl (by rfl) rfl) ?_
 refine AO.pu T ?_
 refine AO.nil ?_
 obtain ⟨o44, hH, hK45⟩ := bindE hH
 refine AW.seqJ (fun s : (List Int) × Int × Int × (List Int) => (⟨[(0, .p 1 0), (3, .R 7)], [(1, .box [.s (List.map encInt_u8 s.1), s.2.1, .v (.int .u64 s.2.2.1)]), (7, .row 1 (List.map encInt s.2.2.2))], 55, [(1, L 1)]⟩ : St)) (fun s => s = o44) ?_ ?_
 refine AW.block ?_
 refine AW.loopS (fun s : Nat × (List Int) × Int × Int × (List Int) × Int => (⟨[(0, .p 1 0), (3, .R 19), (4, s.2.2.2.2.2), (5, .v (.bool x3.2))], [(1, .box [.s (List.map encInt_u8 s.2.1), s.2.2.1, .v (.int .u64 s.2.2.2.1)]), (19, .row 1 (List.map encInt s.2.2.2.2.1))], 55, [(1, L 1)]⟩ : St)) (fun s => spec_l1Cur_marksOf_l1 x3 s.1 s.2.1 s.2.2.1 s.2.2.2.1 s.2.2.2.2.1 s.2.2.2.2.2 = some o44) (fun s => s.1) (fuel, x3.1.code, x3.1.at', x3.1.seed, [], w64 (1 + x1.2)) hH ?_ ?_
 refine Le.trans (Le.void 3 19 1 rfl rfl) ?_
 exact Le.ct 0 0 (hpin := ⟨⟨rfl, rfl⟩, trivial⟩)
 rintro ⟨k46, v68, v69, v70, v71, v72⟩ hH
 replace hH : spec_l1Cur_marksOf_l1 x3 k46 v68 v69 v70 v71 v72 = some o44 := hH
 try dsimp only
 rcases k46 with _ | k46
 cases (show none = some _ from hH)
 rw [spec_l1Cur_marksOf_l1] at hH
 iterate 2 refine AW.seq ?_
 refine AW.region ?_
 iterate 2 refine AO.pu T ?_
 refine AO.nil ?_
 refine AW.cond (b := decide (v72 > 0)) rfl (fun hc => ?_) (fun hc => ?_)
 replace hH := condT hc hH
 refine AW.skip ?_
 refine AW.seq ?_
 refine AW.block ?_
 refine AW.seq (AW.region ?_)
 refine AO.pu T ?_
 refine AO.nil ?_
 refine AW.cond (b := x3.2) rfl (fun hc => ?_) (fun hc => ?_)
 replace hH := condT hc hH
 obtain ⟨x74, hx75, hH⟩ := bindE hH
 obtain ⟨u76, hx77, hH⟩ := bindE hH
 refine AW.region ?_
 iterate 2 refine AO.pu T ?_
 refine AO.step rfl (callM_ok rfl 22 rfl rfl (es := [.pw (encL1Cur (L1Cur.mk v68 v69 v70)), .v (.int .i64 41)]) (outs := [.pw (encL1Cur x74.1), .u]) (ids := [1]) (by exact expLG_cons (.c (.box rfl rfl)) (expLG_cons (.c .v) (expLG_nil))) (by decide) (.inl (by rfl)) (by rfl) (spec_l1Cur_pick_ok _ _ _ (hx75)) rfl (by rfl) rfl) ?_
 refine AO.val rfl rfl (arw_ok rfl rfl rfl rfl) ?_
 refine AO.step rfl (mk_map_ok T rfl 22 rfl rfl rfl rfl rfl (f := encInt) (l := [w64 (25 * x74.2)]) rfl rfl (fun _ => rfl) rfl rfl rfl rfl rfl) ?_
 refine AO.step rfl (app_rv_map T rfl 23 rfl rfl rfl rfl rfl (by decide) rfl rfl rfl rfl (fun _ => rfl) (needT (hx77)) rfl rfl) ?_
 refine AO.pu T ?_
 refine AO.nil ?_
 refine AW.region ?_
 refine AO.pu T ?_
 refine AO.val rfl rfl (arw_ok rfl rfl rfl rfl) ?_
 refine AO.pu T ?_
 refine AO.nil ?_
 refine ⟨(k46, x74.1.code, x74.1.at', x74.1.seed, (v71 ++ [w64 (25 * x74.2)]), w64 (v72 - 1)), hH, Nat.lt_succ_self _, ?_⟩
 exact Le.ct 23 19 (hpin := ⟨⟨rfl, rfl⟩, trivial⟩)
 replace hH := condF hc hH
 obtain ⟨x78, hx79, hH⟩ := bindE hH
 obtain ⟨u80, hx81, hH⟩ := bindE hH
 refine AW.region ?_
 iterate 2 refine AO.pu T ?_
 refine AO.step rfl (callM_ok rfl 24 rfl rfl (es := [.pw (encL1Cur (L1Cur.mk v68 v69 v70)), .v (.int .i64 11)]) (outs := [.pw (encL1Cur x78.1), .u]) (ids := [1]) (by exact expLG_cons (.c (.box rfl rfl)) (expLG_cons (.c .v) (expLG_nil))) (by decide) (.inl (by rfl)) (by rfl) (spec_l1Cur_pick_ok _ _ _ (hx79)) rfl (by rfl) rfl) ?_
 refine AO.val rfl rfl (arw_ok rfl rfl rfl rfl) ?_
 refine AO.step rfl (mk_map_ok T rfl 24 rfl rfl rfl rfl rfl (f := encInt) (l := [w64 (x78.2 - 5)]) rfl rfl (fun _ => rfl) rfl rfl rfl rfl rfl) ?_
 refine AO.step rfl (app_rv_map T rfl 25 rfl rfl rfl rfl rfl (by decide) rfl rfl rfl rfl (fun _ => rfl) (needT (hx81)) rfl rfl) ?_
 refine AO.pu T ?_
 refine AO.nil ?_
 refine AW.region ?_
 refine AO.pu T ?_
 refine AO.val rfl rfl (arw_ok rfl rfl rfl rfl) ?_
 refine AO.pu T ?_
 refine AO.nil ?_
 refine ⟨(k46, x78.1.code, x78.1.at', x78.1.seed, (v71 ++ [w64 (x78.2 - 5)]), w64 (v72 - 1)), hH, Nat.lt_succ_self _, ?_⟩
 exact Le.ct 25 19 (hpin := ⟨⟨rfl, rfl⟩, trivial⟩)
 replace hH := condF hc hH
 refine AW.exit ?_
 refine ⟨_, someE hH, ?_⟩
 exact Le.ct 19 7 (hpin := ⟨⟨rfl, rfl⟩, trivial⟩)
 rintro ⟨v40, v41, v42, v43⟩ hs
 subst hs
 replace hH := hK45
 try dsimp only [flow, flowE] at hH
 try dsimp only
 iterate 2 refine AW.seq ?_
 obtain ⟨x82, hx83, hH⟩ := bindE hH
 refine AW.region ?_
 refine AO.pu T ?_
 refine AO.step rfl (callM_ok rfl 26 rfl rfl (es := [.pw (encL1Cur (L1Cur.mk v40 v41 v42)), .v (.int .i64 24)]) (outs := [.pw (encL1Cur x82.1), .u]) (ids := [1]) (by exact expLG_cons (.c (.box rfl rfl)) (expLG_cons (.c .v) (expLG_nil))) (by decide) (.inl (by rfl)) (by rfl) (spec_l1Cur_pick_ok _ _ _ (hx83)) rfl (by rfl) rfl) ?_
 refine AO.nil ?_
 refine AW.block ?_
 refine AW.seq (AW.region ?_)
 iterate 2 refine AO.pu T ?_
 refine AO.nil ?_
 refine AW.cond (b := (x82.2 == 0)) rfl (fun hc => ?_) (fun hc => ?_)
 replace hH := condT hc hH
 obtain ⟨x84, hx85, hH⟩ := bindE hH
 obtain ⟨x86, hx87, hH⟩ := bindE hH
 refine AW.region ?_
 iterate 2 refine AO.pu T ?_
 refine AO.step rfl (mk_map_ok T rfl 26 rfl rfl rfl rfl rfl (f := encInt) (l := [(-1000), 1000, 1001, (-1001)]) rfl rfl (fun _ => rfl) rfl rfl rfl rfl rfl) ?_
 refine AO.le (Le.freezeM 26 (g := encInt) rfl (fun y => .vs rfl)) ?_
 refine AO.step rfl (callM_ok rfl 27 rfl rfl (es := [.pw (encL1Cur (L1Cur.mk x82.1.code x82.1.at' x82.1.seed)), .s ([(-1000), 1000, 1001, (-1001)].map encInt)]) (outs := [.pw (encL1Cur x84.1), .u]) (ids := [1]) (by exact expLG_cons (.c (.box rfl rfl)) (expLG_cons (.c .s) (expLG_nil))) (by decide) (.inl (by rfl)) (by rfl) (spec_l1Cur_among_ok _ _ _ (hx85)) rfl (by rfl) rfl) ?_
 refine AO.val rfl rfl (ix_row_ok T rfl rfl rfl rfl rfl rfl (hx87)) ?_
 refine AO.step rfl (store_row_ok T rfl rfl rfl rfl rfl (getI_get (hx87)) rfl rfl rfl rfl (u' := x84.2) rfl rfl) ?_
 refine AO.nil (AW.seq ?_)
 refine AW.region ?_
 iterate 2 refine AO.pu T ?_
 refine AO.nil (AW.ret ?_)
 cases someE hH
 exact ⟨trivial, rfl, _, [7], [1], rfl, expLG_cons (.c (.box rfl rfl)) (expLG_nil), .c (.c (.rowR rfl)), by decide⟩
 replace hH := condF hc hH
 refine AW.seq (AW.region ?_)
 iterate 2 refine AO.pu T ?_
 refine AO.nil ?_
 refine AW.cond (b := (x82.2 == 1)) rfl (fun hc => ?_) (fun hc => ?_)
 replace hH := condT hc hH
 refine AW.seq ?_
 obtain ⟨x88, hx89, hH⟩ := bindE hH
 refine AW.region ?_
 refine AO.pu T ?_
 refine AO.step rfl (callM_ok rfl 27 rfl rfl (es := [.pw (encL1Cur (L1Cur.mk x82.1.code x82.1.at' x82.1.seed)), .v (.int .i64 2)]) (outs := [.pw (encL1Cur x88.1), .u]) (ids := [1]) (by exact expLG_cons (.c (.box rfl rfl)) (expLG_cons (.c .v) (expLG_nil))) (by decide) (.inl (by rfl)) (by rfl) (spec_l1Cur_pick_ok _ _ _ (hx89)) rfl (by rfl) rfl) ?_
 refine AO.val rfl rfl (arw_ok rfl rfl rfl rfl) ?_
 refine AO.pu T ?_
 refine AO.nil ?_
 refine AW.block ?_
 refine AW.loopS (fun s : Nat × (List Int) × Int × Int × (List Int) => (⟨[(0, .p 1 0), (3, .R 7), (6, w64 (9 + x88.2))], [(1, .box [.s (List.map encInt_u8 s.2.1), s.2.2.1, .v (.int .u64 s.2.2.2.1)]), (7, .row 1 (List.map encInt s.2.2.2.2))], 55, [(1, L 1)]⟩ : St)) (fun s => spec_l1Cur_marksOf_l2 x88 s.1 s.2.1 s.2.2.1 s.2.2.2.1 s.2.2.2.2 = some r) (fun s => s.1) (fuel, x88.1.code, x88.1.at', x88.1.seed, v43) hH ?_ ?_
 exact Le.ct 0 0 (hpin := ⟨⟨rfl, rfl⟩, trivial⟩)
 rintro ⟨k90, v103, v104, v105, v106⟩ hH
 replace hH : spec_l1Cur_marksOf_l2 x88 k90 v103 v104 v105 v106 = some r := hH
 try dsimp only
 rcases k90 with _ | k90
 cases (show none = some _ from hH)
 rw [spec_l1Cur_marksOf_l2] at hH
 iterate 2 refine AW.seq ?_
 refine AW.region ?_
 refine AO.pu T ?_
 refine AO.val rfl rfl (len_row_ok T rfl rfl rfl rfl) ?_
 iterate 2 refine AO.pu T ?_
 refine AO.nil ?_
 refine AW.cond (b := decide ((v106.length : Int) < (w64 (9 + x88.2)))) rfl (fun hc => ?_) (fun hc => ?_)
 replace hH := condT hc hH
 refine AW.skip ?_
 refine AW.block ?_
 obtain ⟨x108, hx109, hH⟩ := bindE hH
 obtain ⟨u110, hx111, hH⟩ := bindE hH
 refine AW.region ?_
 iterate 2 refine AO.pu T ?_
 refine AO.step rfl (callM_ok rfl 31 rfl rfl (es := [.pw (encL1Cur (L1Cur.mk v103 v104 v105)), .v (.int .i64 9)]) (outs := [.pw (encL1Cur x108.1), .u]) (ids := [1]) (by exact expLG_cons (.c (.box rfl rfl)) (expLG_cons (.c .v) (expLG_nil))) (by decide) (.inl (by rfl)) (by rfl) (spec_l1Cur_pick_ok _ _ _ (hx109)) rfl (by rfl) rfl) ?_
 refine AO.step rfl (mk_map_ok T rfl 31 rfl rfl rfl rfl rfl (f := encInt) (l := [x108.2]) rfl rfl (fun _ => rfl) rfl rfl rfl rfl rfl) ?_
 refine AO.step rfl (app_rv_map T rfl 32 rfl rfl rfl rfl rfl (by decide) rfl rfl rfl rfl (fun _ => rfl) (needT (hx111)) rfl rfl) ?_
 refine AO.pu T ?_
 refine AO.nil ?_
 refine ⟨(k90, x108.1.code, x108.1.at', x108.1.seed, (v106 ++ [x108.2])), hH, Nat.lt_succ_self _, ?_⟩
 exact Le.ct 32 7 (hpin := ⟨⟨rfl, rfl⟩, trivial⟩)
 replace hH := condF hc hH
 refine AW.exit ?_
 refine AW.seq (AW.region ?_)
 iterate 2 refine AO.pu T ?_
 refine AO.nil (AW.ret ?_)
 cases someE hH
 exact ⟨trivial, rfl, _, [7], [1], rfl, expLG_cons (.c (.box rfl rfl)) (expLG_nil), .c (.c (.rowR rfl)), by decide⟩
 replace hH := condF hc hH
 refine AW.seq (AW.region ?_)
 iterate 2 refine AO.pu T ?_
 refine AO.nil ?_
 refine AW.cond (b := (x82.2 == 2)) rfl (fun hc => ?_) (fun hc => ?_)
 replace hH := condT hc hH
 refine AW.region ?_
 refine AO.pu T ?_
 refine AO.nil (AW.seq ?_)
 refine AW.region ?_
 iterate 2 refine AO.pu T ?_
 refine AO.nil (AW.ret ?_)
 cases someE hH
 exact ⟨trivial, rfl, _, [], [1], rfl, expLG_cons (.c (.box rfl rfl)) (expLG_nil), .c (.c .nil), by decide⟩
 replace hH := condF hc hH
 refine AW.skip ?_
 refine AW.seq (AW.region ?_)
 iterate 2 refine AO.pu T ?_
 refine AO.nil (AW.ret ?_)
 cases someE hH
 exact ⟨trivial, rfl, _, [7], [1], rfl, expLG_cons (.c (.box rfl rfl)) (expLG_nil), .c (.c (.rowR rfl)), by decide⟩

def spec_DrawAreMarksOf_p (fuel : Nat) (code : List Int) : Option (List Int) :=
  (spec_l1Cur_marksOf_p fuel (L1Cur.mk code 0 0)).bind fun x1 =>
  some x1.2
theorem spec_DrawAreMarksOf_ok (fuel : Nat) (code : List Int) (r : (List Int)) (hH : spec_DrawAreMarksOf_p fuel code = some r) : SpecR Try.prog 102 [.s (List.map encInt_u8 code)] (.w 1 (r.map encInt)) := by
 refine fn_ok T Try.func102 rfl (by decide) rfl ?_
 refine AW.seq (AW.region ?_)
 refine AO.pu T ?_
 refine AO.nil (AW.seq ?_)
 refine AW.region ?_
 refine AO.pu T ?_
 refine AO.pu T (d := .g [.s (List.map encInt_u8 code), (0 : Int), .v (.int .u64 0)]) ?_
 refine AO.step rfl (box_ok T rfl 1 rfl rfl rfl rfl) ?_
 refine AO.pu T ?_
 refine AO.nil (AW.seq ?_)
 obtain ⟨x1, hx2, hH⟩ := bindE hH
 refine AW.region ?_
 refine AO.pu T ?_
 refine AO.step rfl (callM_ok rfl 2 rfl rfl (es := [.pw (encL1Cur (L1Cur.mk code 0 0))]) (outs := [.pw (encL1Cur x1.1)]) (ids := [1]) (by exact expLG_cons (.c (.box rfl rfl)) (expLG_nil)) (by decide) (.inl (by rfl)) (by rfl) (spec_l1Cur_marksOf_ok fuel _ _ (hx2)) rfl (by rfl) rfl) ?_
 refine AO.pu T ?_
 refine AO.nil (AW.ret ?_)
 cases someE hH
 exact retQ.i [2] rfl (.c (.c (.rowR rfl)))

def spec_DrawTrimmedMean_p (fuel : Nat) (code : List Int) : Option (List Int) :=
  (spec_DrawAreMarksOf_p fuel code).bind fun x1 =>
  some x1
theorem spec_DrawTrimmedMean_ok (fuel : Nat) (code : List Int) (r : (List Int)) (hH : spec_DrawTrimmedMean_p fuel code = some r) : SpecR Try.prog 42 [.s (List.map encInt_u8 code)] (.w 1 (r.map encInt)) := by
 refine fn_ok T Try.func42 rfl (by decide) rfl ?_
 refine AW.seq (AW.region ?_)
 refine AO.pu T ?_
 refine AO.nil (AW.seq ?_)
 obtain ⟨x1, hx2, hH⟩ := bindE hH
 refine AW.region ?_
 refine AO.pu T ?_
 refine AO.step rfl (call_ok rfl 1 rfl rfl rfl (spec_DrawAreMarksOf_ok fuel _ _ (hx2)) rfl rfl rfl) ?_
 refine AO.pu T ?_
 refine AO.nil (AW.ret ?_)
 cases someE hH
 exact retQ.i [1] rfl (.c (.c (.rowR rfl)))

def impl_within_p (n : Int) (low : Int) (high : Int) : Option Bool :=
  some (decide (n ≥ low) && decide (n ≤ high))
theorem impl_within_ok (n : Int) (low : Int) (high : Int) (r : Bool) (hH : impl_within_p n low high = some r) : SpecR Try.prog 67 [n, low, high] (.v (.bool r)) := by
 refine fn_ok T Try.func67 rfl (by decide) rfl ?_
 refine AW.seq (AW.region ?_)
 refine AO.pu T ?_
 refine AO.nil (AW.seq ?_)
 refine AW.region ?_
 iterate 4 refine AO.pu T ?_
 iterate 2 refine AO.pureG T [] rfl trivial rfl rfl ?_
 refine AO.pureG T [11, 12] rfl ⟨fun h => h, fun h => h, trivial⟩ rfl rfl ?_
 refine AO.val rfl rfl (pick_and rfl rfl rfl rfl) ?_
 refine AO.pu T ?_
 refine AO.nil (AW.ret ?_)
 cases someE hH
 exact retQ.i [] rfl (.c (.c .v))

def impl_allWithin_l1 (low : Int) (high : Int) : List Int → Nat → Option Bool
  | [], k1 =>
    some true
  | y2 :: ys3, k1 =>
    (impl_within_p y2 low high).bind fun x12 =>
    cond (!x12)
      (some false)
      (impl_allWithin_l1 low high ys3 (k1 + 1))
def impl_allWithin_p (l : List Int) (low : Int) (high : Int) : Option Bool :=
  impl_allWithin_l1 low high l 0
theorem impl_allWithin_ok (l : List Int) (low : Int) (high : Int) (r : Bool) (hH : impl_allWithin_p l low high = some r) : SpecR Try.prog 104 [.s (List.map encInt l), low, high] (.v (.bool r)) := by
 refine fn_ok T Try.func104 rfl (by decide) rfl ?_
 refine AW.seq (AW.region ?_)
 refine AO.pu T ?_
 refine AO.nil ?_
 iterate 2 refine AW.seq ?_
 refine AW.region ?_
 refine AO.pu T ?_
 refine AO.val rfl rfl (len_map_ok T rfl rfl rfl) ?_
 refine AO.pu T ?_
 refine AO.nil ?_
 refine AW.block ?_
 refine AW.loopS (fun s : Nat => (⟨[(1, low), (2, high), (9, .s (List.map encInt l)), (10, (l.length : Int)), (11, (s : Int))], [], 21, []⟩ : St)) (fun s => s ≤ l.length ∧ impl_allWithin_l1 low high (l.drop s) s = some r) (fun s => l.length - s) 0 ⟨Nat.zero_le _, hH⟩ ?_ ?_
 exact Le.ct 0 0
 rintro k1 ⟨hk, hH⟩
 replace hH : impl_allWithin_l1 low high (l.drop k1) k1 = some r := hH
 try dsimp only
 refine AW.boundM (t := 9) (l := l) rfl (fun hb5 => ?_)
 rcases hd4 : l.drop k1 with _ | ⟨y2, ys3⟩
 rw [hd4, impl_allWithin_l1] at hH
 have hlt6 := drop_ge hd4
 refine AW.seq (AW.region ?_)
 refine AO.pu T ?_
 refine AO.nil (AW.seq ?_)
 refine AW.condF' (b := decide ((k1 : Int) < (l.length : Int))) rfl (rngF hlt6) ?_
 refine AW.exit ?_
 refine AW.seq (AW.region ?_)
 refine AO.pu T ?_
 refine AO.nil (AW.ret ?_)
 cases someE hH
 exact retQ.i [] rfl (.c (.c .v))
 rw [hd4, impl_allWithin_l1] at hH
 have hlt6 := drop_lt hd4
 refine AW.seq (AW.region ?_)
 refine AO.pu T ?_
 refine AO.nil (AW.seq ?_)
 refine AW.condT' (b := decide ((k1 : Int) < (l.length : Int))) rfl (rngT hlt6) ?_
 refine AW.skip ?_
 refine AW.seq ?_
 refine AW.block ?_
 refine AW.seq (AW.region ?_)
 refine AO.val rfl rfl (ix_map_ok T rfl rfl rfl rfl rfl (getI_drop hd4) rfl) ?_
 iterate 2 refine AO.pu T ?_
 refine AO.nil (AW.seq ?_)
 obtain ⟨x12, hx13, hH⟩ := bindE hH
 refine AW.region ?_
 iterate 3 refine AO.pu T ?_
 refine AO.val rfl rfl (callV_ok rfl rfl rfl rfl (impl_within_ok _ _ _ _ (hx13)) rfl) ?_
 refine AO.pu T ?_
 refine AO.nil ?_
 refine AW.cond (b := (!x12)) rfl (fun hc => ?_) (fun hc => ?_)
 replace hH := condT hc hH
 refine AW.seq (AW.region ?_)
 refine AO.pu T ?_
 refine AO.nil (AW.ret ?_)
 cases someE hH
 exact retQ.i [] rfl (.c (.c .v))
 replace hH := condF hc hH
 refine AW.skip ?_
 refine AW.region ?_
 refine AO.val rfl rfl (ar_ok rfl rfl rfl rfl (inI_succ hlt6 hb5)) ?_
 refine AO.pu T ?_
 refine AO.nil ?_
 refine ⟨k1 + 1, ⟨Nat.succ_le_of_lt hlt6, (by rw [drop_succ_of hd4]; exact hH)⟩, (by have := hlt6; dsimp only; omega), ?_⟩
 exact Le.ct 0 0

def impl_AreMarksOf_p (l : List Int) : Option Bool :=
  (impl_within_p (l.length : Int) 1 9).bind fun x1 =>
  (opt x1 default (impl_allWithin_p l (-1000) 1000)).bind fun x3 =>
  some (x1 && x3)
theorem impl_AreMarksOf_ok (l : List Int) (r : Bool) (hH : impl_AreMarksOf_p l = some r) : SpecR Try.prog 47 [.s (List.map encInt l)] (.v (.bool r)) := by
 refine fn_ok T Try.func47 rfl (by decide) rfl ?_
 refine AW.seq (AW.region ?_)
 refine AO.pu T ?_
 refine AO.nil (AW.seq ?_)
 obtain ⟨x1, hx2, hH⟩ := bindE hH
 obtain ⟨x3, hx4, hH⟩ := bindE hH
 refine AW.region ?_
 refine AO.pu T ?_
 refine AO.val rfl rfl (len_map_ok T rfl rfl rfl) ?_
 refine AO.val rfl rfl (callV_ok rfl rfl rfl rfl (impl_within_ok _ _ _ _ (hx2)) rfl) ?_
 refine AO.pu T ?_
 refine AO.pureG T [] rfl trivial rfl rfl ?_
 refine AO.guard [7] rfl ⟨fun h => h, trivial⟩ (fun hg => callV_ok rfl rfl rfl rfl (impl_allWithin_ok _ _ _ _ (optT hx4 hg)) rfl) rfl ?_
 refine AO.val rfl rfl (pick_and rfl rfl rfl rfl) ?_
 refine AO.pu T ?_
 refine AO.nil (AW.ret ?_)
 cases someE hH
 exact retQ.i [] rfl (.c (.c .v))

def impl_sumInts_l1 : List Int → Nat → Int → Option Int
  | [], k1, v8 =>
    some v8
  | y2 :: ys3, k1, v8 =>
    impl_sumInts_l1 ys3 (k1 + 1) (w64 (v8 + y2))
def impl_sumInts_p (l : List Int) : Option Int :=
  impl_sumInts_l1 l 0 0
theorem impl_sumInts_ok (l : List Int) (r : Int) (hH : impl_sumInts_p l = some r) : SpecR Try.prog 129 [.s (List.map encInt l)] (.v (.int .i64 r)) := by
 refine fn_ok T Try.func129 rfl (by decide) rfl ?_
 refine AW.seq (AW.region ?_)
 refine AO.pu T ?_
 refine AO.nil (AW.seq ?_)
 refine AW.region ?_
 refine AO.pu T ?_
 refine AO.nil ?_
 iterate 2 refine AW.seq ?_
 refine AW.region ?_
 refine AO.pu T ?_
 refine AO.val rfl rfl (len_map_ok T rfl rfl rfl) ?_
 refine AO.pu T ?_
 refine AO.nil ?_
 refine AW.block ?_
 refine AW.loopS (fun s : Nat × Int => (⟨[(3, s.2), (6, .s (List.map encInt l)), (7, (l.length : Int)), (8, (s.1 : Int))], [], 17, []⟩ : St)) (fun s => s.1 ≤ l.length ∧ impl_sumInts_l1 (l.drop s.1) s.1 s.2 = some r) (fun s => l.length - s.1) (0, 0) ⟨Nat.zero_le _, hH⟩ ?_ ?_
 exact Le.ct 0 0
 rintro ⟨k1, v8⟩ ⟨hk, hH⟩
 replace hH : impl_sumInts_l1 (l.drop k1) k1 v8 = some r := hH
 try dsimp only
 refine AW.boundM (t := 6) (l := l) rfl (fun hb5 => ?_)
 rcases hd4 : l.drop k1 with _ | ⟨y2, ys3⟩
 rw [hd4, impl_sumInts_l1] at hH
 have hlt6 := drop_ge hd4
 refine AW.seq (AW.region ?_)
 refine AO.pu T ?_
 refine AO.nil (AW.seq ?_)
 refine AW.condF' (b := decide ((k1 : Int) < (l.length : Int))) rfl (rngF hlt6) ?_
 refine AW.exit ?_
 refine AW.seq (AW.region ?_)
 iterate 2 refine AO.pu T ?_
 refine AO.nil (AW.ret ?_)
 cases someE hH
 exact retQ.i [] rfl (.c (.c .v))
 rw [hd4, impl_sumInts_l1] at hH
 have hlt6 := drop_lt hd4
 refine AW.seq (AW.region ?_)
 refine AO.pu T ?_
 refine AO.nil (AW.seq ?_)
 refine AW.condT' (b := decide ((k1 : Int) < (l.length : Int))) rfl (rngT hlt6) ?_
 refine AW.skip ?_
 refine AW.seq ?_
 refine AW.block ?_
 refine AW.seq (AW.region ?_)
 refine AO.val rfl rfl (ix_map_ok T rfl rfl rfl rfl rfl (getI_drop hd4) rfl) ?_
 iterate 2 refine AO.pu T ?_
 refine AO.nil ?_
 refine AW.region ?_
 iterate 2 refine AO.pu T ?_
 refine AO.val rfl rfl (arw_ok rfl rfl rfl rfl) ?_
 refine AO.pu T ?_
 refine AO.nil ?_
 refine AW.region ?_
 refine AO.val rfl rfl (ar_ok rfl rfl rfl rfl (inI_succ hlt6 hb5)) ?_
 refine AO.pu T ?_
 refine AO.nil ?_
 refine ⟨(k1 + 1, w64 (v8 + y2)), ⟨Nat.succ_le_of_lt hlt6, (by rw [drop_succ_of hd4]; exact hH)⟩, (by have := hlt6; dsimp only; omega), ?_⟩
 exact Le.ct 0 0

def slices_Max_int_l1 (x : List Int) : Nat → Int → Int → Option Int
  | 0, _, _ => none
  | k3 + 1, v10, v11 =>
    cond (decide (v11 < (x.length : Int)))
      ((getI x v11).bind fun x13 =>
      slices_Max_int_l1 x k3 (max v10 x13) (w64 (v11 + 1)))
      (some v10)
def slices_Max_int_p (fuel : Nat) (x : List Int) : Option Int :=
  cond (decide ((x.length : Int) < 1))
    (none)
    ((getI x 0).bind fun x1 =>
    slices_Max_int_l1 x fuel x1 1)
theorem slices_Max_int_ok (fuel : Nat) (x : List Int) (r : Int) (hH : slices_Max_int_p fuel x = some r) : SpecR Try.prog 99 [.s (List.map encInt x)] (.v (.int .i64 r)) := by
 refine fn_ok T Try.func99 rfl (by decide) rfl ?_
 refine AW.seq (AW.region ?_)
 refine AO.pu T ?_
 refine AO.nil ?_
 iterate 2 refine AW.seq ?_
 refine AW.region ?_
 refine AO.pu T ?_
 refine AO.val rfl rfl (len_map_ok T rfl rfl rfl) ?_
 refine AO.pu T ?_
 refine AO.nil ?_
 refine AW.cond (b := decide ((x.length : Int) < 1)) rfl (fun hc => ?_) (fun hc => ?_)
 replace hH := condT hc hH
 cases hH
 replace hH := condF hc hH
 refine AW.skip ?_
 refine AW.seq ?_
 obtain ⟨x1, hx2, hH⟩ := bindE hH
 refine AW.region ?_
 refine AO.pu T ?_
 refine AO.val rfl rfl (ix_map_ok T rfl rfl rfl rfl rfl (hx2) rfl) ?_
 iterate 2 refine AO.pu T ?_
 refine AO.nil ?_
 iterate 2 refine AW.seq ?_
 refine AW.region ?_
 refine AO.pu T ?_
 refine AO.nil ?_
 refine AW.block ?_
 refine AW.loopS (fun s : Nat × Int × Int => (⟨[(0, .s (List.map encInt x)), (3, s.2.1), (4, s.2.2)], [], 25, []⟩ : St)) (fun s => slices_Max_int_l1 x s.1 s.2.1 s.2.2 = some r) (fun s => s.1) (fuel, x1, 1) hH ?_ ?_
 exact Le.ct 0 0
 rintro ⟨k3, v10, v11⟩ hH
 replace hH : slices_Max_int_l1 x k3 v10 v11 = some r := hH
 try dsimp only
 rcases k3 with _ | k3
 cases (show none = some _ from hH)
 rw [slices_Max_int_l1] at hH
 iterate 2 refine AW.seq ?_
 refine AW.region ?_
 iterate 2 refine AO.pu T ?_
 refine AO.val rfl rfl (len_map_ok T rfl rfl rfl) ?_
 refine AO.pu T ?_
 refine AO.nil ?_
 refine AW.cond (b := decide (v11 < (x.length : Int))) rfl (fun hc => ?_) (fun hc => ?_)
 replace hH := condT hc hH
 refine AW.skip ?_
 refine AW.seq ?_
 refine AW.block ?_
 obtain ⟨x13, hx14, hH⟩ := bindE hH
 refine AW.region ?_
 iterate 3 refine AO.pu T ?_
 refine AO.val rfl rfl (ix_map_ok T rfl rfl rfl rfl rfl (hx14) rfl) ?_
 refine AO.pu T ?_
 refine AO.val rfl rfl (max_ok rfl rfl rfl) ?_
 refine AO.pu T ?_
 refine AO.nil ?_
 refine AW.region ?_
 refine AO.pu T ?_
 refine AO.val rfl rfl (arw_ok rfl rfl rfl rfl) ?_
 refine AO.pu T ?_
 refine AO.nil ?_
 refine ⟨(k3, (max v10 x13), w64 (v11 + 1)), hH, Nat.lt_succ_self _, ?_⟩
 exact Le.ct 0 0
 replace hH := condF hc hH
 refine AW.exit ?_
 refine AW.seq (AW.region ?_)
 iterate 2 refine AO.pu T ?_
 refine AO.nil (AW.ret ?_)
 cases someE hH
 exact retQ.i [] rfl (.c (.c .v))

def slices_Min_int_l1 (x : List Int) : Nat → Int → Int → Option Int
  | 0, _, _ => none
  | k3 + 1, v10, v11 =>
    cond (decide (v11 < (x.length : Int)))
      ((getI x v11).bind fun x13 =>
      slices_Min_int_l1 x k3 (min v10 x13) (w64 (v11 + 1)))
      (some v10)
def slices_Min_int_p (fuel : Nat) (x : List Int) : Option Int :=
  cond (decide ((x.length : Int) < 1))
    (none)
    ((getI x 0).bind fun x1 =>
    slices_Min_int_l1 x fuel x1 1)
theorem slices_Min_int_ok (fuel : Nat) (x : List Int) (r : Int) (hH : slices_Min_int_p fuel x = some r) : SpecR Try.prog 100 [.s (List.map encInt x)] (.v (.int .i64 r)) := by
 refine fn_ok T Try.func100 rfl (by decide) rfl ?_
 refine AW.seq (AW.region ?_)
 refine AO.pu T ?_
 refine AO.nil ?_
 iterate 2 refine AW.seq ?_
 refine AW.region ?_
 refine AO.pu T ?_
 refine AO.val rfl rfl (len_map_ok T rfl rfl rfl) ?_
 refine AO.pu T ?_
 refine AO.nil ?_
 refine AW.cond (b := decide ((x.length : Int) < 1)) rfl (fun hc => ?_) (fun hc => ?_)
 replace hH := condT hc hH
 cases hH
 replace hH := condF hc hH
 refine AW.skip ?_
 refine AW.seq ?_
 obtain ⟨x1, hx2, hH⟩ := bindE hH
 refine AW.region ?_
 refine AO.pu T ?_
 refine AO.val rfl rfl (ix_map_ok T rfl rfl rfl rfl rfl (hx2) rfl) ?_
 iterate 2 refine AO.pu T ?_
 refine AO.nil ?_
 iterate 2 refine AW.seq ?_
 refine AW.region ?_
 refine AO.pu T ?_
 refine AO.nil ?_
 refine AW.block ?_
 refine AW.loopS (fun s : Nat × Int × Int => (⟨[(0, .s (List.map encInt x)), (3, s.2.1), (4, s.2.2)], [], 25, []⟩ : St)) (fun s => slices_Min_int_l1 x s.1 s.2.1 s.2.2 = some r) (fun s => s.1) (fuel, x1, 1) hH ?_ ?_
 exact Le.ct 0 0
 rintro ⟨k3, v10, v11⟩ hH
 replace hH : slices_Min_int_l1 x k3 v10 v11 = some r := hH
 try dsimp only
 rcases k3 with _ | k3
 cases (show none = some _ from hH)
 rw [slices_Min_int_l1] at hH
 iterate 2 refine AW.seq ?_
 refine AW.region ?_
 iterate 2 refine AO.pu T ?_
 refine AO.val rfl rfl (len_map_ok T rfl rfl rfl) ?_
 refine AO.pu T ?_
 refine AO.nil ?_
 refine AW.cond (b := decide (v11 < (x.length : Int))) rfl (fun hc => ?_) (fun hc => ?_)
 replace hH := condT hc hH
 refine AW.skip ?_
 refine AW.seq ?_
 refine AW.block ?_
 obtain ⟨x13, hx14, hH⟩ := bindE hH
 refine AW.region ?_
 iterate 3 refine AO.pu T ?_
 refine AO.val rfl rfl (ix_map_ok T rfl rfl rfl rfl rfl (hx14) rfl) ?_
 refine AO.pu T ?_
 refine AO.val rfl rfl (min_ok rfl rfl rfl) ?_
 refine AO.pu T ?_
 refine AO.nil ?_
 refine AW.region ?_
 refine AO.pu T ?_
 refine AO.val rfl rfl (arw_ok rfl rfl rfl rfl) ?_
 refine AO.pu T ?_
 refine AO.nil ?_
 refine ⟨(k3, (min v10 x13), w64 (v11 + 1)), hH, Nat.lt_succ_self _, ?_⟩
 exact Le.ct 0 0
 replace hH := condF hc hH
 refine AW.exit ?_
 refine AW.seq (AW.region ?_)
 iterate 2 refine AO.pu T ?_
 refine AO.nil (AW.ret ?_)
 cases someE hH
 exact retQ.i [] rfl (.c (.c .v))

def impl_trimmedSum_p (fuel : Nat) (l : List Int) : Option (Int × Int) :=
  cond (decide ((l.length : Int) < 5))
    ((impl_sumInts_p l).bind fun x1 =>
    some (x1, (l.length : Int)))
    ((impl_sumInts_p l).bind fun x3 =>
    (slices_Max_int_p fuel l).bind fun x5 =>
    (slices_Min_int_p fuel l).bind fun x7 =>
    some (w64 ((w64 (x3 - x5)) - x7), w64 ((l.length : Int) - 2)))
theorem impl_trimmedSum_ok (fuel : Nat) (l : List Int) (r : (Int × Int)) (hH : impl_trimmedSum_p fuel l = some r) : SpecR Try.prog 89 [.s (List.map encInt l)] (.t [.v (.int .i64 r.1), .v (.int .i64 r.2)]) := by
 refine fn_ok T Try.func89 rfl (by decide) rfl ?_
 refine AW.seq (AW.region ?_)
 iterate 2 refine AO.pu T ?_
 refine AO.nil ?_
 iterate 2 refine AW.seq ?_
 refine AW.region ?_
 refine AO.pu T ?_
 refine AO.val rfl rfl (len_map_ok T rfl rfl rfl) ?_
 refine AO.pu T ?_
 refine AO.nil ?_
 refine AW.cond (b := decide ((l.length : Int) < 5)) rfl (fun hc => ?_) (fun hc => ?_)
 replace hH := condT hc hH
 refine AW.seq ?_
 obtain ⟨x1, hx2, hH⟩ := bindE hH
 refine AW.region ?_
 refine AO.pu T ?_
 refine AO.val rfl rfl (callV_ok rfl rfl rfl rfl (impl_sumInts_ok _ _ (hx2)) rfl) ?_
 refine AO.pu T ?_
 refine AO.val rfl rfl (len_map_ok T rfl rfl rfl) ?_
 iterate 2 refine AO.pu T ?_
 refine AO.nil (AW.ret ?_)
 cases someE hH
 exact retQ.i [] rfl (.t (expLG_cons (.c .v) (expLG_cons (.c .v) (expLG_nil))))
 replace hH := condF hc hH
 refine AW.skip ?_
 refine AW.seq ?_
 obtain ⟨x3, hx4, hH⟩ := bindE hH
 obtain ⟨x5, hx6, hH⟩ := bindE hH
 obtain ⟨x7, hx8, hH⟩ := bindE hH
 refine AW.region ?_
 refine AO.pu T ?_
 refine AO.val rfl rfl (callV_ok rfl rfl rfl rfl (impl_sumInts_ok _ _ (hx4)) rfl) ?_
 refine AO.pu T ?_
 refine AO.val rfl rfl (callV_ok rfl rfl rfl rfl (slices_Max_int_ok fuel _ _ (hx6)) rfl) ?_
 refine AO.val rfl rfl (arw_ok rfl rfl rfl rfl) ?_
 refine AO.pu T ?_
 refine AO.val rfl rfl (callV_ok rfl rfl rfl rfl (slices_Min_int_ok fuel _ _ (hx8)) rfl) ?_
 refine AO.val rfl rfl (arw_ok rfl rfl rfl rfl) ?_
 refine AO.pu T ?_
 refine AO.val rfl rfl (len_map_ok T rfl rfl rfl) ?_
 refine AO.val rfl rfl (arw_ok rfl rfl rfl rfl) ?_
 iterate 2 refine AO.pu T ?_
 refine AO.nil (AW.ret ?_)
 cases someE hH
 exact retQ.i [] rfl (.t (expLG_cons (.c .v) (expLG_cons (.c .v) (expLG_nil))))

def impl_gcdOf_l1 : Nat → Int → Int → Option Int
  | 0, _, _ => none
  | k15 + 1, v22, v23 =>
    cond (v23 != 0)
      ((need (v23 != 0)).bind fun u25 =>
      impl_gcdOf_l1 k15 v23 (v22.tmod v23))
      (some v22)
def impl_gcdOf_p (fuel : Nat) (a : Int) (b : Int) : Option Int :=
  (impl_gcdOf_l1 fuel (max a (w64 (-a))) (max b (w64 (-b)))).bind fun v12 =>
  some v12
theorem impl_gcdOf_ok (fuel : Nat) (a : Int) (b : Int) (r : Int) (hH : impl_gcdOf_p fuel a b = some r) : SpecR Try.prog 128 [a, b] (.v (.int .i64 r)) := by
 refine fn_ok T Try.func128 rfl (by decide) rfl ?_
 refine AW.seq (AW.region ?_)
 refine AO.pu T ?_
 refine AO.nil (AW.seq ?_)
 refine AW.region ?_
 iterate 2 refine AO.pu T ?_
 refine AO.val rfl rfl (negw_ok rfl rfl) ?_
 refine AO.val rfl rfl (max_ok rfl rfl rfl) ?_
 iterate 2 refine AO.pu T ?_
 refine AO.val rfl rfl (negw_ok rfl rfl) ?_
 refine AO.val rfl rfl (max_ok rfl rfl rfl) ?_
 iterate 2 refine AO.pu T ?_
 refine AO.nil ?_
 obtain ⟨o13, hH, hK14⟩ := bindE hH
 refine AW.seqJ (fun s : Int => (⟨[(0, s)], [], 20, []⟩ : St)) (fun s => s = o13) ?_ ?_
 refine AW.block ?_
 refine AW.loopS (fun s : Nat × Int × Int => (⟨[(0, s.2.1), (1, s.2.2)], [], 20, []⟩ : St)) (fun s => impl_gcdOf_l1 s.1 s.2.1 s.2.2 = some o13) (fun s => s.1) (fuel, (max a (w64 (-a))), (max b (w64 (-b)))) hH ?_ ?_
 exact Le.ct 0 0
 rintro ⟨k15, v22, v23⟩ hH
 replace hH : impl_gcdOf_l1 k15 v22 v23 = some o13 := hH
 try dsimp only
 rcases k15 with _ | k15
 cases (show none = some _ from hH)
 rw [impl_gcdOf_l1] at hH
 iterate 2 refine AW.seq ?_
 refine AW.region ?_
 iterate 2 refine AO.pu T ?_
 refine AO.nil ?_
 refine AW.cond (b := (v23 != 0)) rfl (fun hc => ?_) (fun hc => ?_)
 replace hH := condT hc hH
 refine AW.skip ?_
 refine AW.block ?_
 obtain ⟨u25, hx26, hH⟩ := bindE hH
 refine AW.drawn 5 1 [] mix (by kernel_rfl) rfl ?_
 iterate 3 refine AD.pure T rfl rfl rfl ?_
 refine AD.val rfl rfl (rem_ok rfl rfl rfl (neZ (needT (hx26)))) ?_
 refine AD.pure T rfl rfl rfl ?_
 refine AD.nil ?_
 refine AO.pu T ?_
 refine AO.nil ?_
 refine ⟨(k15, v23, (v22.tmod v23)), hH, Nat.lt_succ_self _, ?_⟩
 exact Le.ct 0 0
 replace hH := condF hc hH
 refine AW.exit ?_
 refine ⟨_, someE hH, ?_⟩
 exact Le.ct 0 0
 rintro v12 hs
 subst hs
 replace hH := hK14
 try dsimp only [flow, flowE] at hH
 try dsimp only
 refine AW.seq (AW.region ?_)
 iterate 2 refine AO.pu T ?_
 refine AO.nil (AW.ret ?_)
 cases someE hH
 exact retQ.i [] rfl (.c (.c .v))

def impl_lowestTerms_p (fuel : Nat) (a : Int) (b : Int) : Option (Int × Int) :=
  (impl_gcdOf_p fuel a b).bind fun x1 =>
  (need (x1 != 0)).bind fun u3 =>
  some (w64 (a.tdiv x1), w64 (b.tdiv x1))
theorem impl_lowestTerms_ok (fuel : Nat) (a : Int) (b : Int) (r : (Int × Int)) (hH : impl_lowestTerms_p fuel a b = some r) : SpecR Try.prog 88 [a, b] (.t [.v (.int .i64 r.1), .v (.int .i64 r.2)]) := by
 refine fn_ok T Try.func88 rfl (by decide) rfl ?_
 refine AW.seq (AW.region ?_)
 iterate 2 refine AO.pu T ?_
 refine AO.nil (AW.seq ?_)
 obtain ⟨x1, hx2, hH⟩ := bindE hH
 refine AW.region ?_
 iterate 2 refine AO.pu T ?_
 refine AO.val rfl rfl (callV_ok rfl rfl rfl rfl (impl_gcdOf_ok fuel _ _ _ (hx2)) rfl) ?_
 refine AO.pu T ?_
 refine AO.nil (AW.seq ?_)
 obtain ⟨u3, hx4, hH⟩ := bindE hH
 refine AW.drawn 7 1 [] mix (by kernel_rfl) rfl ?_
 iterate 2 refine AD.pure T rfl rfl rfl ?_
 refine AD.val rfl rfl (quow_ok rfl rfl rfl (neZ (needT (hx4)))) ?_
 iterate 2 refine AD.pure T rfl rfl rfl ?_
 refine AD.val rfl rfl (quow_ok rfl rfl rfl (neZ (needT (hx4)))) ?_
 refine AD.pure T rfl rfl rfl ?_
 refine AD.nil ?_
 refine AO.pu T ?_
 refine AO.nil (AW.ret ?_)
 cases someE hH
 exact retQ.i [] rfl (.t (expLG_cons (.c .v) (expLG_cons (.c .v) (expLG_nil))))

def impl_TrimmedMean_p (fuel : Nat) (l : List Int) : Option (Int × Int × Bool) :=
  (impl_AreMarksOf_p l).bind fun x1 =>
  cond (!x1)
    (some (0, 0, false))
    ((impl_trimmedSum_p fuel l).bind fun x3 =>
    (impl_lowestTerms_p fuel x3.1 x3.2).bind fun x5 =>
    some (x5.1, x5.2, true))
theorem impl_TrimmedMean_ok (fuel : Nat) (l : List Int) (r : (Int × Int × Bool)) (hH : impl_TrimmedMean_p fuel l = some r) : SpecR Try.prog 31 [.s (List.map encInt l)] (.t [.v (.int .i64 r.1), .v (.int .i64 r.2.1), .v (.bool r.2.2)]) := by
 refine fn_ok T Try.func31 rfl (by decide) rfl ?_
 refine AW.seq (AW.region ?_)
 iterate 3 refine AO.pu T ?_
 refine AO.nil ?_
 iterate 2 refine AW.seq ?_
 obtain ⟨x1, hx2, hH⟩ := bindE hH
 refine AW.region ?_
 refine AO.pu T ?_
 refine AO.val rfl rfl (callV_ok rfl rfl rfl rfl (impl_AreMarksOf_ok _ _ (hx2)) rfl) ?_
 refine AO.pu T ?_
 refine AO.nil ?_
 refine AW.cond (b := (!x1)) rfl (fun hc => ?_) (fun hc => ?_)
 replace hH := condT hc hH
 refine AW.seq (AW.region ?_)
 iterate 3 refine AO.pu T ?_
 refine AO.nil (AW.ret ?_)
 cases someE hH
 exact retQ.i [] rfl (.t (expLG_cons (.c .v) (expLG_cons (.c .v) (expLG_cons (.c .v) (expLG_nil)))))
 replace hH := condF hc hH
 refine AW.skip ?_
 refine AW.seq ?_
 obtain ⟨x3, hx4, hH⟩ := bindE hH
 obtain ⟨x5, hx6, hH⟩ := bindE hH
 refine AW.region ?_
 refine AO.pu T ?_
 refine AO.val rfl rfl (callV_ok rfl rfl rfl rfl (impl_trimmedSum_ok fuel _ _ (hx4)) rfl) ?_
 iterate 2 refine AO.pu T ?_
 refine AO.val rfl rfl (callV_ok rfl rfl rfl rfl (impl_lowestTerms_ok fuel _ _ _ (hx6)) rfl) ?_
 iterate 5 refine AO.pu T ?_
 refine AO.nil (AW.seq ?_)
 refine AW.region ?_
 iterate 5 refine AO.pu T ?_
 refine AO.nil (AW.ret ?_)
 cases someE hH
 exact retQ.i [] rfl (.t (expLG_cons (.c .v) (expLG_cons (.c .v) (expLG_cons (.c .v) (expLG_nil)))))

def spec_l1In_p (n : Int) (lo : Int) (hi : Int) : Option Bool :=
  some (decide (n ≥ lo) && decide (n ≤ hi))
theorem spec_l1In_ok (n : Int) (lo : Int) (hi : Int) (r : Bool) (hH : spec_l1In_p n lo hi = some r) : SpecR Try.prog 60 [n, lo, hi] (.v (.bool r)) := by
 refine fn_ok T Try.func60 rfl (by decide) rfl ?_
 refine AW.seq (AW.region ?_)
 refine AO.pu T ?_
 refine AO.nil (AW.seq ?_)
 refine AW.region ?_
 iterate 4 refine AO.pu T ?_
 iterate 2 refine AO.pureG T [] rfl trivial rfl rfl ?_
 refine AO.pureG T [11, 12] rfl ⟨fun h => h, fun h => h, trivial⟩ rfl rfl ?_
 refine AO.val rfl rfl (pick_and rfl rfl rfl rfl) ?_
 refine AO.pu T ?_
 refine AO.nil (AW.ret ?_)
 cases someE hH
 exact retQ.i [] rfl (.c (.c .v))

def spec_l1All_l1 (lo : Int) (hi : Int) : List Int → Nat → Option Bool
  | [], k1 =>
    some true
  | y2 :: ys3, k1 =>
    (spec_l1In_p y2 lo hi).bind fun x12 =>
    cond (!x12)
      (some false)
      (spec_l1All_l1 lo hi ys3 (k1 + 1))
def spec_l1All_p (l : List Int) (lo : Int) (hi : Int) : Option Bool :=
  spec_l1All_l1 lo hi l 0
theorem spec_l1All_ok (l : List Int) (lo : Int) (hi : Int) (r : Bool) (hH : spec_l1All_p l lo hi = some r) : SpecR Try.prog 113 [.s (List.map encInt l), lo, hi] (.v (.bool r)) := by
 refine fn_ok T Try.func113 rfl (by decide) rfl ?_
 refine AW.seq (AW.region ?_)
 refine AO.pu T ?_
 refine AO.nil ?_
 iterate 2 refine AW.seq ?_
 refine AW.region ?_
 refine AO.pu T ?_
 refine AO.val rfl rfl (len_map_ok T rfl rfl rfl) ?_
 refine AO.pu T ?_
 refine AO.nil ?_
 refine AW.block ?_
 refine AW.loopS (fun s : Nat => (⟨[(1, lo), (2, hi), (9, .s (List.map encInt l)), (10, (l.length : Int)), (11, (s : Int))], [], 21, []⟩ : St)) (fun s => s ≤ l.length ∧ spec_l1All_l1 lo hi (l.drop s) s = some r) (fun s => l.length - s) 0 ⟨Nat.zero_le _, hH⟩ ?_ ?_
 exact Le.ct 0 0
 rintro k1 ⟨hk, hH⟩
 replace hH : spec_l1All_l1 lo hi (l.drop k1) k1 = some r := hH
 try dsimp only
 refine AW.boundM (t := 9) (l := l) rfl (fun hb5 => ?_)
 rcases hd4 : l.drop k1 with _ | ⟨y2, ys3⟩
 rw [hd4, spec_l1All_l1] at hH
 have hlt6 := drop_ge hd4
 refine AW.seq (AW.region ?_)
 refine AO.pu T ?_
 refine AO.nil (AW.seq ?_)
 refine AW.condF' (b := decide ((k1 : Int) < (l.length : Int))) rfl (rngF hlt6) ?_
 refine AW.exit ?_
 refine AW.seq (AW.region ?_)
 refine AO.pu T ?_
 refine AO.nil (AW.ret ?_)
 cases someE hH
 exact retQ.i [] rfl (.c (.c .v))
 rw [hd4, spec_l1All_l1] at hH
 have hlt6 := drop_lt hd4
 refine AW.seq (AW.region ?_)
 refine AO.pu T ?_
 refine AO.nil (AW.seq ?_)
 refine AW.condT' (b := decide ((k1 : Int) < (l.length : Int))) rfl (rngT hlt6) ?_
 refine AW.skip ?_
 refine AW.seq ?_
 refine AW.block ?_
 refine AW.seq (AW.region ?_)
 refine AO.val rfl rfl (ix_map_ok T rfl rfl rfl rfl rfl (getI_drop hd4) rfl) ?_
 iterate 2 refine AO.pu T ?_
 refine AO.nil (AW.seq ?_)
 obtain ⟨x12, hx13, hH⟩ := bindE hH
 refine AW.region ?_
 iterate 3 refine AO.pu T ?_
 refine AO.val rfl rfl (callV_ok rfl rfl rfl rfl (spec_l1In_ok _ _ _ _ (hx13)) rfl) ?_
 refine AO.pu T ?_
 refine AO.nil ?_
 refine AW.cond (b := (!x12)) rfl (fun hc => ?_) (fun hc => ?_)
 replace hH := condT hc hH
 refine AW.seq (AW.region ?_)
 refine AO.pu T ?_
 refine AO.nil (AW.ret ?_)
 cases someE hH
 exact retQ.i [] rfl (.c (.c .v))
 replace hH := condF hc hH
 refine AW.skip ?_
 refine AW.region ?_
 refine AO.val rfl rfl (ar_ok rfl rfl rfl rfl (inI_succ hlt6 hb5)) ?_
 refine AO.pu T ?_
 refine AO.nil ?_
 refine ⟨k1 + 1, ⟨Nat.succ_le_of_lt hlt6, (by rw [drop_succ_of hd4]; exact hH)⟩, (by have := hlt6; dsimp only; omega), ?_⟩
 exact Le.ct 0 0

def spec_tmGood_p (l : List Int) : Option Bool :=
  (spec_l1In_p (l.length : Int) 1 9).bind fun x1 =>
  (opt x1 default (spec_l1All_p l (-1000) 1000)).bind fun x3 =>
  some (x1 && x3)
theorem spec_tmGood_ok (l : List Int) (r : Bool) (hH : spec_tmGood_p l = some r) : SpecR Try.prog 103 [.s (List.map encInt l)] (.v (.bool r)) := by
 refine fn_ok T Try.func103 rfl (by decide) rfl ?_
 refine AW.seq (AW.region ?_)
 refine AO.pu T ?_
 refine AO.nil (AW.seq ?_)
 obtain ⟨x1, hx2, hH⟩ := bindE hH
 obtain ⟨x3, hx4, hH⟩ := bindE hH
 refine AW.region ?_
 refine AO.pu T ?_
 refine AO.val rfl rfl (len_map_ok T rfl rfl rfl) ?_
 refine AO.val rfl rfl (callV_ok rfl rfl rfl rfl (spec_l1In_ok _ _ _ _ (hx2)) rfl) ?_
 refine AO.pu T ?_
 refine AO.pureG T [] rfl trivial rfl rfl ?_
 refine AO.guard [7] rfl ⟨fun h => h, trivial⟩ (fun hg => callV_ok rfl rfl rfl rfl (spec_l1All_ok _ _ _ _ (optT hx4 hg)) rfl) rfl ?_
 refine AO.val rfl rfl (pick_and rfl rfl rfl rfl) ?_
 refine AO.pu T ?_
 refine AO.nil (AW.ret ?_)
 cases someE hH
 exact retQ.i [] rfl (.c (.c .v))

def spec_poSum_l1 : List Int → Nat → Int → Option Int
  | [], k1, v8 =>
    some v8
  | y2 :: ys3, k1, v8 =>
    spec_poSum_l1 ys3 (k1 + 1) (w64 (v8 + y2))
def spec_poSum_p (l : List Int) : Option Int :=
  spec_poSum_l1 l 0 0
theorem spec_poSum_ok (l : List Int) (r : Int) (hH : spec_poSum_p l = some r) : SpecR Try.prog 130 [.s (List.map encInt l)] (.v (.int .i64 r)) := by
 refine fn_ok T Try.func130 rfl (by decide) rfl ?_
 refine AW.seq (AW.region ?_)
 refine AO.pu T ?_
 refine AO.nil (AW.seq ?_)
 refine AW.region ?_
 refine AO.pu T ?_
 refine AO.nil ?_
 iterate 2 refine AW.seq ?_
 refine AW.region ?_
 refine AO.pu T ?_
 refine AO.val rfl rfl (len_map_ok T rfl rfl rfl) ?_
 refine AO.pu T ?_
 refine AO.nil ?_
 refine AW.block ?_
 refine AW.loopS (fun s : Nat × Int => (⟨[(3, s.2), (6, .s (List.map encInt l)), (7, (l.length : Int)), (8, (s.1 : Int))], [], 17, []⟩ : St)) (fun s => s.1 ≤ l.length ∧ spec_poSum_l1 (l.drop s.1) s.1 s.2 = some r) (fun s => l.length - s.1) (0, 0) ⟨Nat.zero_le _, hH⟩ ?_ ?_
 exact Le.ct 0 0
 rintro ⟨k1, v8⟩ ⟨hk, hH⟩
 replace hH : spec_poSum_l1 (l.drop k1) k1 v8 = some r := hH
 try dsimp only
 refine AW.boundM (t := 6) (l := l) rfl (fun hb5 => ?_)
 rcases hd4 : l.drop k1 with _ | ⟨y2, ys3⟩
 rw [hd4, spec_poSum_l1] at hH
 have hlt6 := drop_ge hd4
 refine AW.seq (AW.region ?_)
 refine AO.pu T ?_
 refine AO.nil (AW.seq ?_)
 refine AW.condF' (b := decide ((k1 : Int) < (l.length : Int))) rfl (rngF hlt6) ?_
 refine AW.exit ?_
 refine AW.seq (AW.region ?_)
 iterate 2 refine AO.pu T ?_
 refine AO.nil (AW.ret ?_)
 cases someE hH
 exact retQ.i [] rfl (.c (.c .v))
 rw [hd4, spec_poSum_l1] at hH
 have hlt6 := drop_lt hd4
 refine AW.seq (AW.region ?_)
 refine AO.pu T ?_
 refine AO.nil (AW.seq ?_)
 refine AW.condT' (b := decide ((k1 : Int) < (l.length : Int))) rfl (rngT hlt6) ?_
 refine AW.skip ?_
 refine AW.seq ?_
 refine AW.block ?_
 refine AW.seq (AW.region ?_)
 refine AO.val rfl rfl (ix_map_ok T rfl rfl rfl rfl rfl (getI_drop hd4) rfl) ?_
 iterate 2 refine AO.pu T ?_
 refine AO.nil ?_
 refine AW.region ?_
 iterate 2 refine AO.pu T ?_
 refine AO.val rfl rfl (arw_ok rfl rfl rfl rfl) ?_
 refine AO.pu T ?_
 refine AO.nil ?_
 refine AW.region ?_
 refine AO.val rfl rfl (ar_ok rfl rfl rfl rfl (inI_succ hlt6 hb5)) ?_
 refine AO.pu T ?_
 refine AO.nil ?_
 refine ⟨(k1 + 1, w64 (v8 + y2)), ⟨Nat.succ_le_of_lt hlt6, (by rw [drop_succ_of hd4]; exact hH)⟩, (by have := hlt6; dsimp only; omega), ?_⟩
 exact Le.ct 0 0

def spec_poSorted_l2 (y2 : Int) (v105 : List Int) : Nat → Int → Option Int
  | 0, _ => none
  | k153 + 1, v159 =>
    (opt (decide (v159 > 0)) default (getI v105 (w64 (v159 - 1)))).bind fun x161 =>
    cond (decide (v159 > 0) && decide (x161 < y2))
      (spec_poSorted_l2 y2 v105 k153 (w64 (v159 - 1)))
      (some v159)
def spec_poSorted_l1 (fuel : Nat) : List Int → Nat → List Int → Option ((List Int))
  | [], k1, v105 =>
    some v105
  | y2 :: ys3, k1, v105 =>
    ((spec_poSorted_l2 y2 v105 fuel (v105.length : Int)).bind fun v150 =>
    (sliceHi v105 v150).bind fun x163 =>
    (need (fitsB 8 x163.length)).bind fun u165 =>
    (need (fitsB 8 (x163.length + ([y2]).length))).bind fun u167 =>
    (sliceLo v105 v150).bind fun x169 =>
    (need (fitsB 8 (((x163 ++ [y2])).length + x169.length))).bind fun u171 =>
    some ((x163 ++ [y2]) ++ x169)).bind fun v138 =>
    spec_poSorted_l1 fuel ys3 (k1 + 1) v138
def spec_poSorted_p (fuel : Nat) (l : List Int) : Option (List Int) :=
  spec_poSorted_l1 fuel l 0 []
theorem spec_poSorted_ok (fuel : Nat) (l : List Int) (r : (List Int)) (hH : spec_poSorted_p fuel l = some r) : SpecR Try.prog 131 [.s (List.map encInt l)] (.w 1 (r.map encInt)) := by
 refine fn_ok T Try.func131 rfl (by decide) rfl ?_
 refine AW.seq (AW.region ?_)
 refine AO.pu T ?_
 refine AO.nil (AW.seq ?_)
 refine AW.region ?_
 refine AO.pu T ?_
 refine AO.nil ?_
 iterate 2 refine AW.seq ?_
 refine AW.region ?_
 refine AO.pu T ?_
 refine AO.val rfl rfl (len_map_ok T rfl rfl rfl) ?_
 refine AO.pu T ?_
 refine AO.nil ?_
 refine AW.block ?_
 refine AW.loopS (fun s : Nat × (List Int) => (⟨[(3, .R 12), (7, .s (List.map encInt l)), (8, (l.length : Int)), (9, (s.1 : Int))], [(12, .row 1 (List.map encInt s.2))], 42, []⟩ : St)) (fun s => s.1 ≤ l.length ∧ spec_poSorted_l1 fuel (l.drop s.1) s.1 s.2 = some r) (fun s => l.length - s.1) (0, []) ⟨Nat.zero_le _, hH⟩ ?_ ?_
 refine Le.trans (Le.void 3 12 1 rfl rfl) ?_
 exact Le.ct 0 0
 rintro ⟨k1, v105⟩ ⟨hk, hH⟩
 replace hH : spec_poSorted_l1 fuel (l.drop k1) k1 v105 = some r := hH
 try dsimp only
 refine AW.boundM (t := 7) (l := l) rfl (fun hb5 => ?_)
 rcases hd4 : l.drop k1 with _ | ⟨y2, ys3⟩
 rw [hd4, spec_poSorted_l1] at hH
 have hlt6 := drop_ge hd4
 refine AW.seq (AW.region ?_)
 refine AO.pu T ?_
 refine AO.nil (AW.seq ?_)
 refine AW.condF' (b := decide ((k1 : Int) < (l.length : Int))) rfl (rngF hlt6) ?_
 refine AW.exit ?_
 refine AW.seq (AW.region ?_)
 iterate 2 refine AO.pu T ?_
 refine AO.nil (AW.ret ?_)
 cases someE hH
 exact retQ.i [12] rfl (.c (.c (.rowR rfl)))
 rw [hd4, spec_poSorted_l1] at hH
 have hlt6 := drop_lt hd4
 refine AW.seq (AW.region ?_)
 refine AO.pu T ?_
 refine AO.nil (AW.seq ?_)
 refine AW.condT' (b := decide ((k1 : Int) < (l.length : Int))) rfl (rngT hlt6) ?_
 refine AW.skip ?_
 obtain ⟨o139, hH, hK140⟩ := bindE hH
 refine AW.seqJ (fun s : List Int => (⟨[(3, .R 20), (7, .s (List.map encInt l)), (8, (l.length : Int)), (9, (k1 : Int))], [(20, .row 1 (List.map encInt s))], 42, []⟩ : St)) (fun s => s = o139) ?_ ?_
 refine AW.block ?_
 refine AW.seq (AW.region ?_)
 refine AO.val rfl rfl (ix_map_ok T rfl rfl rfl rfl rfl (getI_drop hd4) rfl) ?_
 iterate 2 refine AO.pu T ?_
 refine AO.nil (AW.seq ?_)
 refine AW.region ?_
 refine AO.pu T ?_
 refine AO.val rfl rfl (len_row_ok T rfl rfl rfl rfl) ?_
 refine AO.pu T ?_
 refine AO.nil ?_
 obtain ⟨o151, hH, hK152⟩ := bindE hH
 refine AW.seqJ (fun s : Int => (⟨[(3, .R 12), (5, y2), (6, s), (7, .s (List.map encInt l)), (8, (l.length : Int)), (9, (k1 : Int))], [(12, .row 1 (List.map encInt v105))], 42, []⟩ : St)) (fun s => s = o151) ?_ ?_
 refine AW.block ?_
 refine AW.loopS (fun s : Nat × Int => (⟨[(3, .R 12), (5, y2), (6, s.2), (7, .s (List.map encInt l)), (8, (l.length : Int)), (9, (k1 : Int))], [(12, .row 1 (List.map encInt v105))], 42, []⟩ : St)) (fun s => spec_poSorted_l2 y2 v105 s.1 s.2 = some o151) (fun s => s.1) (fuel, (v105.length : Int)) hH ?_ ?_
 exact Le.ct 0 0
 rintro ⟨k153, v159⟩ hH
 replace hH : spec_poSorted_l2 y2 v105 k153 v159 = some o151 := hH
 try dsimp only
 rcases k153 with _ | k153
 cases (show none = some _ from hH)
 rw [spec_poSorted_l2] at hH
 iterate 2 refine AW.seq ?_
 obtain ⟨x161, hx162, hH⟩ := bindE hH
 refine AW.region ?_
 iterate 3 refine AO.pu T ?_
 iterate 2 refine AO.pureG T [] rfl trivial rfl rfl ?_
 refine AO.guard [19] rfl ⟨fun h => h, trivial⟩ (fun hg => arw_ok rfl rfl rfl rfl) rfl ?_
 refine AO.guard [18, 20] rfl ⟨fun h => h, fun h => h, trivial⟩ (fun hg => ix_row_ok T rfl rfl rfl rfl rfl rfl (optT hx162 hg)) rfl ?_
 refine AO.guard [21] rfl ⟨fun h => h, trivial⟩ (fun hg => load_row_ok T rfl rfl rfl rfl (getI_get (optT hx162 hg)) rfl rfl rfl) rfl ?_
 refine AO.pureG T [] rfl trivial rfl rfl ?_
 refine AO.pureG T [22, 23] rfl ⟨fun h => h, fun h => h, trivial⟩ rfl rfl ?_
 refine AO.val rfl rfl (pick_and rfl rfl rfl rfl) ?_
 refine AO.nil ?_
 refine AW.cond (b := (decide (v159 > 0) && decide (x161 < y2))) rfl (fun hc => ?_) (fun hc => ?_)
 replace hH := condT hc hH
 refine AW.skip ?_
 refine AW.block ?_
 refine AW.region ?_
 refine AO.pu T ?_
 refine AO.val rfl rfl (arw_ok rfl rfl rfl rfl) ?_
 refine AO.pu T ?_
 refine AO.nil ?_
 refine ⟨(k153, w64 (v159 - 1)), hH, Nat.lt_succ_self _, ?_⟩
 exact Le.ct 0 0
 replace hH := condF hc hH
 refine AW.exit ?_
 refine ⟨_, someE hH, ?_⟩
 exact Le.ct 0 0
 rintro v150 hs
 subst hs
 replace hH := hK152
 try dsimp only [flow, flowE] at hH
 try dsimp only
 obtain ⟨x163, hx164, hH⟩ := bindE hH
 obtain ⟨u165, hx166, hH⟩ := bindE hH
 obtain ⟨u167, hx168, hH⟩ := bindE hH
 obtain ⟨x169, hx170, hH⟩ := bindE hH
 obtain ⟨u171, hx172, hH⟩ := bindE hH
 refine AW.le (Le.freezeM 12 (g := encInt) rfl (fun y => .vs rfl)) ?_
 refine AW.drawn 11 21 [] mix (by kernel_rfl) rfl ?_
 refine AD.v (FStep.mk0 T rfl rfl rfl rfl rfl) ?_
 iterate 2 refine AD.pure T rfl rfl rfl ?_
 refine AD.val rfl rfl (slice_hi_map_ok T rfl rfl rfl rfl rfl (hx164) (fun _ => rfl)) ?_
 refine AD.q (FStep.app_ws T rfl rfl rfl rfl rfl rfl rfl (by decide) (by decide) rfl rfl (fun _ => rfl) (needT (hx166)) rfl) (by simp [namesIn]) (Nat.le_succ _) rfl ?_
 refine AD.pure T rfl rfl rfl ?_
 refine AD.q (FStep.mk T (f := encInt) (l := [y2]) rfl rfl rfl rfl rfl rfl rfl rfl rfl (fun _ => rfl) rfl rfl rfl rfl) (by simp [namesIn]) (Nat.le_succ _) rfl ?_
 refine AD.k rfl rfl (FStep.app_rv T rfl rfl rfl rfl rfl rfl rfl (by decide) rfl rfl rfl rfl (fun _ => rfl) (needT (hx168)) rfl) rfl rfl rfl ?_
 iterate 2 refine AD.pure T rfl rfl rfl ?_
 refine AD.val rfl rfl (slice_lo_map_ok T rfl rfl rfl rfl rfl (hx170) (fun _ => rfl)) ?_
 refine AD.nil ?_
 refine AO.step rfl (app_rs_map T rfl 24 rfl rfl rfl rfl rfl (by decide) (by decide) rfl rfl rfl (fun _ => rfl) (needT (hx172)) rfl rfl) ?_
 refine AO.pu T ?_
 refine AO.nil ?_
 refine ⟨_, someE hH, ?_⟩
 exact Le.ct 24 20
 rintro v138 hs
 subst hs
 replace hH := hK140
 try dsimp only [flow, flowE] at hH
 try dsimp only
 refine AW.region ?_
 refine AO.val rfl rfl (ar_ok rfl rfl rfl rfl (inI_succ hlt6 hb5)) ?_
 refine AO.pu T ?_
 refine AO.nil ?_
 refine ⟨(k1 + 1, v138), ⟨Nat.succ_le_of_lt hlt6, (by rw [drop_succ_of hd4]; exact hH)⟩, (by have := hlt6; dsimp only; omega), ?_⟩
 exact Le.ct 20 12

def spec_tmMean_p (fuel : Nat) (l : List Int) : Option (Int × Int) :=
  (spec_poSum_p l).bind fun x1 =>
  cond (decide ((l.length : Int) < 5))
    (some (x1, (l.length : Int)))
    ((spec_poSorted_p fuel l).bind fun x3 =>
    (getI x3 0).bind fun x5 =>
    (getI x3 (w64 ((x3.length : Int) - 1))).bind fun x7 =>
    some (w64 ((w64 (x1 - x5)) - x7), w64 ((l.length : Int) - 2)))
theorem spec_tmMean_ok (fuel : Nat) (l : List Int) (r : (Int × Int)) (hH : spec_tmMean_p fuel l = some r) : SpecR Try.prog 93 [.s (List.map encInt l)] (.t [.v (.int .i64 r.1), .v (.int .i64 r.2)]) := by
 refine fn_ok T Try.func93 rfl (by decide) rfl ?_
 refine AW.seq (AW.region ?_)
 iterate 2 refine AO.pu T ?_
 refine AO.nil (AW.seq ?_)
 obtain ⟨x1, hx2, hH⟩ := bindE hH
 refine AW.region ?_
 refine AO.pu T ?_
 refine AO.val rfl rfl (callV_ok rfl rfl rfl rfl (spec_poSum_ok _ _ (hx2)) rfl) ?_
 refine AO.pu T ?_
 refine AO.nil ?_
 iterate 2 refine AW.seq ?_
 refine AW.region ?_
 refine AO.pu T ?_
 refine AO.val rfl rfl (len_map_ok T rfl rfl rfl) ?_
 refine AO.pu T ?_
 refine AO.nil ?_
 refine AW.cond (b := decide ((l.length : Int) < 5)) rfl (fun hc => ?_) (fun hc => ?_)
 replace hH := condT hc hH
 refine AW.seq (AW.region ?_)
 iterate 2 refine AO.pu T ?_
 refine AO.val rfl rfl (len_map_ok T rfl rfl rfl) ?_
 iterate 2 refine AO.pu T ?_
 refine AO.nil (AW.ret ?_)
 cases someE hH
 exact retQ.i [] rfl (.t (expLG_cons (.c .v) (expLG_cons (.c .v) (expLG_nil))))
 replace hH := condF hc hH
 refine AW.skip ?_
 refine AW.seq ?_
 obtain ⟨x3, hx4, hH⟩ := bindE hH
 refine AW.region ?_
 refine AO.pu T ?_
 refine AO.step rfl (call_ok rfl 1 rfl rfl rfl (spec_poSorted_ok fuel _ _ (hx4)) rfl rfl rfl) ?_
 refine AO.pu T ?_
 refine AO.nil (AW.seq ?_)
 obtain ⟨x5, hx6, hH⟩ := bindE hH
 obtain ⟨x7, hx8, hH⟩ := bindE hH
 refine AW.drawn 16 2 [] mix (by kernel_rfl) rfl ?_
 iterate 2 refine AD.pure T rfl rfl rfl ?_
 refine AD.val rfl rfl (ix_row_ok T rfl rfl rfl rfl rfl rfl (hx6)) ?_
 refine AD.val rfl rfl (load_row_ok T rfl rfl rfl rfl (getI_get (hx6)) rfl rfl rfl) ?_
 refine AD.val rfl rfl (arw_ok rfl rfl rfl rfl) ?_
 iterate 2 refine AD.pure T rfl rfl rfl ?_
 refine AD.val rfl rfl (len_row_ok T rfl rfl rfl rfl) ?_
 refine AD.val rfl rfl (arw_ok rfl rfl rfl rfl) ?_
 refine AD.val rfl rfl (ix_row_ok T rfl rfl rfl rfl rfl rfl (hx8)) ?_
 refine AD.val rfl rfl (load_row_ok T rfl rfl rfl rfl (getI_get (hx8)) rfl rfl rfl) ?_
 refine AD.val rfl rfl (arw_ok rfl rfl rfl rfl) ?_
 refine AD.pure T rfl rfl rfl ?_
 refine AD.val rfl rfl (len_map_ok T rfl rfl rfl) ?_
 refine AD.val rfl rfl (arw_ok rfl rfl rfl rfl) ?_
 refine AD.pure T rfl rfl rfl ?_
 refine AD.nil ?_
 refine AO.pu T ?_
 refine AO.nil ?_
 refine AW.le (Le.ct 0 0 (σ' := (⟨[(2, w64 ((w64 (x1 - x5)) - x7)), (3, w64 ((l.length : Int) - 2))], [], 31, []⟩ : St))) ?_
 refine AW.ret ?_
 cases someE hH
 exact retQ.i [] rfl (.t (expLG_cons (.c .v) (expLG_cons (.c .v) (expLG_nil))))

def spec_l1Most_p (a : Int) (b : Int) : Option Int :=
  cond (decide (a > b))
    (some a)
    (some b)
theorem spec_l1Most_ok (a : Int) (b : Int) (r : Int) (hH : spec_l1Most_p a b = some r) : SpecR Try.prog 95 [a, b] (.v (.int .i64 r)) := by
 refine fn_ok T Try.func95 rfl (by decide) rfl ?_
 refine AW.seq (AW.region ?_)
 refine AO.pu T ?_
 refine AO.nil ?_
 iterate 2 refine AW.seq ?_
 refine AW.region ?_
 iterate 3 refine AO.pu T ?_
 refine AO.nil ?_
 refine AW.cond (b := decide (a > b)) rfl (fun hc => ?_) (fun hc => ?_)
 replace hH := condT hc hH
 refine AW.seq (AW.region ?_)
 iterate 2 refine AO.pu T ?_
 refine AO.nil (AW.ret ?_)
 cases someE hH
 exact retQ.i [] rfl (.c (.c .v))
 replace hH := condF hc hH
 refine AW.skip ?_
 refine AW.seq (AW.region ?_)
 iterate 2 refine AO.pu T ?_
 refine AO.nil (AW.ret ?_)
 cases someE hH
 exact retQ.i [] rfl (.c (.c .v))

def spec_l1Abs_p (n : Int) : Option Int :=
  (spec_l1Most_p n (w64 (-n))).bind fun x1 =>
  some x1
theorem spec_l1Abs_ok (n : Int) (r : Int) (hH : spec_l1Abs_p n = some r) : SpecR Try.prog 96 [n] (.v (.int .i64 r)) := by
 refine fn_ok T Try.func96 rfl (by decide) rfl ?_
 refine AW.seq (AW.region ?_)
 refine AO.pu T ?_
 refine AO.nil (AW.seq ?_)
 obtain ⟨x1, hx2, hH⟩ := bindE hH
 refine AW.region ?_
 iterate 2 refine AO.pu T ?_
 refine AO.val rfl rfl (negw_ok rfl rfl) ?_
 refine AO.val rfl rfl (callV_ok rfl rfl rfl rfl (spec_l1Most_ok _ _ _ (hx2)) rfl) ?_
 refine AO.pu T ?_
 refine AO.nil (AW.ret ?_)
 cases someE hH
 exact retQ.i [] rfl (.c (.c .v))

def spec_poLowest_l1 : Nat → Int → Int → Option Int
  | 0, _, _ => none
  | k17 + 1, v24, v25 =>
    cond (decide (v25 > 0))
      ((need (v25 != 0)).bind fun u27 =>
      spec_poLowest_l1 k17 v25 (v24.tmod v25))
      (some v24)
def spec_poLowest_p (fuel : Nat) (a : Int) (b : Int) : Option (Int × Int) :=
  (spec_l1Abs_p a).bind fun x1 =>
  (spec_poLowest_l1 fuel x1 b).bind fun v14 =>
  (need (v14 != 0)).bind fun u29 =>
  some (w64 (a.tdiv v14), w64 (b.tdiv v14))
theorem spec_poLowest_ok (fuel : Nat) (a : Int) (b : Int) (r : (Int × Int)) (hH : spec_poLowest_p fuel a b = some r) : SpecR Try.prog 92 [a, b] (.t [.v (.int .i64 r.1), .v (.int .i64 r.2)]) := by
 refine fn_ok T Try.func92 rfl (by decide) rfl ?_
 refine AW.seq (AW.region ?_)
 iterate 2 refine AO.pu T ?_
 refine AO.nil (AW.seq ?_)
 obtain ⟨x1, hx2, hH⟩ := bindE hH
 refine AW.region ?_
 refine AO.pu T ?_
 refine AO.val rfl rfl (callV_ok rfl rfl rfl rfl (spec_l1Abs_ok _ _ (hx2)) rfl) ?_
 iterate 3 refine AO.pu T ?_
 refine AO.nil ?_
 obtain ⟨o15, hH, hK16⟩ := bindE hH
 refine AW.seqJ (fun s : Int => (⟨[(0, a), (1, b), (6, s)], [], 25, []⟩ : St)) (fun s => s = o15) ?_ ?_
 refine AW.block ?_
 refine AW.loopS (fun s : Nat × Int × Int => (⟨[(0, a), (1, b), (6, s.2.1), (7, s.2.2)], [], 25, []⟩ : St)) (fun s => spec_poLowest_l1 s.1 s.2.1 s.2.2 = some o15) (fun s => s.1) (fuel, x1, b) hH ?_ ?_
 exact Le.ct 0 0
 rintro ⟨k17, v24, v25⟩ hH
 replace hH : spec_poLowest_l1 k17 v24 v25 = some o15 := hH
 try dsimp only
 rcases k17 with _ | k17
 cases (show none = some _ from hH)
 rw [spec_poLowest_l1] at hH
 iterate 2 refine AW.seq ?_
 refine AW.region ?_
 iterate 2 refine AO.pu T ?_
 refine AO.nil ?_
 refine AW.cond (b := decide (v25 > 0)) rfl (fun hc => ?_) (fun hc => ?_)
 replace hH := condT hc hH
 refine AW.skip ?_
 refine AW.block ?_
 refine AW.seq ?_
 obtain ⟨u27, hx28, hH⟩ := bindE hH
 refine AW.region ?_
 iterate 2 refine AO.pu T ?_
 refine AO.val rfl rfl (rem_ok rfl rfl rfl (neZ (needT (hx28)))) ?_
 refine AO.pu T ?_
 refine AO.nil (AW.seq ?_)
 refine AW.region ?_
 iterate 2 refine AO.pu T ?_
 refine AO.nil ?_
 refine AW.region ?_
 iterate 2 refine AO.pu T ?_
 refine AO.nil ?_
 refine ⟨(k17, v25, (v24.tmod v25)), hH, Nat.lt_succ_self _, ?_⟩
 exact Le.ct 0 0
 replace hH := condF hc hH
 refine AW.exit ?_
 refine ⟨_, someE hH, ?_⟩
 exact Le.ct 0 0
 rintro v14 hs
 subst hs
 replace hH := hK16
 try dsimp only [flow, flowE] at hH
 try dsimp only
 refine AW.seq ?_
 obtain ⟨u29, hx30, hH⟩ := bindE hH
 refine AW.drawn 7 1 [] mix (by kernel_rfl) rfl ?_
 iterate 2 refine AD.pure T rfl rfl rfl ?_
 refine AD.val rfl rfl (quow_ok rfl rfl rfl (neZ (needT (hx30)))) ?_
 iterate 2 refine AD.pure T rfl rfl rfl ?_
 refine AD.val rfl rfl (quow_ok rfl rfl rfl (neZ (needT (hx30)))) ?_
 refine AD.pure T rfl rfl rfl ?_
 refine AD.nil ?_
 refine AO.pu T ?_
 refine AO.nil (AW.ret ?_)
 cases someE hH
 exact retQ.i [] rfl (.t (expLG_cons (.c .v) (expLG_cons (.c .v) (expLG_nil))))

def spec_TrimmedMean_p (fuel : Nat) (l : List Int) : Option (Int × Int × Bool) :=
  (spec_tmGood_p l).bind fun x1 =>
  cond (!x1)
    (some (0, 0, false))
    ((spec_tmMean_p fuel l).bind fun x3 =>
    (spec_poLowest_p fuel x3.1 x3.2).bind fun x5 =>
    some (x5.1, x5.2, true))
theorem spec_TrimmedMean_ok (fuel : Nat) (l : List Int) (r : (Int × Int × Bool)) (hH : spec_TrimmedMean_p fuel l = some r) : SpecR Try.prog 43 [.s (List.map encInt l)] (.t [.v (.int .i64 r.1), .v (.int .i64 r.2.1), .v (.bool r.2.2)]) := by
 refine fn_ok T Try.func43 rfl (by decide) rfl ?_
 refine AW.seq (AW.region ?_)
 iterate 3 refine AO.pu T ?_
 refine AO.nil ?_
 iterate 2 refine AW.seq ?_
 obtain ⟨x1, hx2, hH⟩ := bindE hH
 refine AW.region ?_
 refine AO.pu T ?_
 refine AO.val rfl rfl (callV_ok rfl rfl rfl rfl (spec_tmGood_ok _ _ (hx2)) rfl) ?_
 refine AO.pu T ?_
 refine AO.nil ?_
 refine AW.cond (b := (!x1)) rfl (fun hc => ?_) (fun hc => ?_)
 replace hH := condT hc hH
 refine AW.seq (AW.region ?_)
 iterate 3 refine AO.pu T ?_
 refine AO.nil (AW.ret ?_)
 cases someE hH
 exact retQ.i [] rfl (.t (expLG_cons (.c .v) (expLG_cons (.c .v) (expLG_cons (.c .v) (expLG_nil)))))
 replace hH := condF hc hH
 refine AW.skip ?_
 refine AW.seq ?_
 obtain ⟨x3, hx4, hH⟩ := bindE hH
 obtain ⟨x5, hx6, hH⟩ := bindE hH
 refine AW.region ?_
 refine AO.pu T ?_
 refine AO.val rfl rfl (callV_ok rfl rfl rfl rfl (spec_tmMean_ok fuel _ _ (hx4)) rfl) ?_
 iterate 2 refine AO.pu T ?_
 refine AO.val rfl rfl (callV_ok rfl rfl rfl rfl (spec_poLowest_ok fuel _ _ _ (hx6)) rfl) ?_
 iterate 5 refine AO.pu T ?_
 refine AO.nil (AW.seq ?_)
 refine AW.region ?_
 iterate 5 refine AO.pu T ?_
 refine AO.nil (AW.ret ?_)
 cases someE hH
 exact retQ.i [] rfl (.t (expLG_cons (.c .v) (expLG_cons (.c .v) (expLG_cons (.c .v) (expLG_nil)))))

def impl_TrimmedSum_p (fuel : Nat) (l : List Int) : Option (Int × Int × Bool) :=
  (impl_AreMarksOf_p l).bind fun x1 =>
  cond (!x1)
    (some (0, 0, false))
    ((impl_trimmedSum_p fuel l).bind fun x3 =>
    some (x3.1, x3.2, true))
theorem impl_TrimmedSum_ok (fuel : Nat) (l : List Int) (r : (Int × Int × Bool)) (hH : impl_TrimmedSum_p fuel l = some r) : SpecR Try.prog 39 [.s (List.map encInt l)] (.t [.v (.int .i64 r.1), .v (.int .i64 r.2.1), .v (.bool r.2.2)]) := by
 refine fn_ok T Try.func39 rfl (by decide) rfl ?_
 refine AW.seq (AW.region ?_)
 iterate 3 refine AO.pu T ?_
 refine AO.nil ?_
 iterate 2 refine AW.seq ?_
 obtain ⟨x1, hx2, hH⟩ := bindE hH
 refine AW.region ?_
 refine AO.pu T ?_
 refine AO.val rfl rfl (callV_ok rfl rfl rfl rfl (impl_AreMarksOf_ok _ _ (hx2)) rfl) ?_
 refine AO.pu T ?_
 refine AO.nil ?_
 refine AW.cond (b := (!x1)) rfl (fun hc => ?_) (fun hc => ?_)
 replace hH := condT hc hH
 refine AW.seq (AW.region ?_)
 iterate 3 refine AO.pu T ?_
 refine AO.nil (AW.ret ?_)
 cases someE hH
 exact retQ.i [] rfl (.t (expLG_cons (.c .v) (expLG_cons (.c .v) (expLG_cons (.c .v) (expLG_nil)))))
 replace hH := condF hc hH
 refine AW.skip ?_
 refine AW.seq ?_
 obtain ⟨x3, hx4, hH⟩ := bindE hH
 refine AW.region ?_
 refine AO.pu T ?_
 refine AO.val rfl rfl (callV_ok rfl rfl rfl rfl (impl_trimmedSum_ok fuel _ _ (hx4)) rfl) ?_
 iterate 5 refine AO.pu T ?_
 refine AO.nil (AW.seq ?_)
 refine AW.region ?_
 iterate 5 refine AO.pu T ?_
 refine AO.nil (AW.ret ?_)
 cases someE hH
 exact retQ.i [] rfl (.t (expLG_cons (.c .v) (expLG_cons (.c .v) (expLG_cons (.c .v) (expLG_nil)))))

def spec_TrimmedSum_p (fuel : Nat) (l : List Int) : Option (Int × Int × Bool) :=
  (spec_tmGood_p l).bind fun x1 =>
  cond (!x1)
    (some (0, 0, false))
    ((spec_tmMean_p fuel l).bind fun x3 =>
    some (x3.1, x3.2, true))
theorem spec_TrimmedSum_ok (fuel : Nat) (l : List Int) (r : (Int × Int × Bool)) (hH : spec_TrimmedSum_p fuel l = some r) : SpecR Try.prog 44 [.s (List.map encInt l)] (.t [.v (.int .i64 r.1), .v (.int .i64 r.2.1), .v (.bool r.2.2)]) := by
 refine fn_ok T Try.func44 rfl (by decide) rfl ?_
 refine AW.seq (AW.region ?_)
 iterate 3 refine AO.pu T ?_
 refine AO.nil ?_
 iterate 2 refine AW.seq ?_
 obtain ⟨x1, hx2, hH⟩ := bindE hH
 refine AW.region ?_
 refine AO.pu T ?_
 refine AO.val rfl rfl (callV_ok rfl rfl rfl rfl (spec_tmGood_ok _ _ (hx2)) rfl) ?_
 refine AO.pu T ?_
 refine AO.nil ?_
 refine AW.cond (b := (!x1)) rfl (fun hc => ?_) (fun hc => ?_)
 replace hH := condT hc hH
 refine AW.seq (AW.region ?_)
 iterate 3 refine AO.pu T ?_
 refine AO.nil (AW.ret ?_)
 cases someE hH
 exact retQ.i [] rfl (.t (expLG_cons (.c .v) (expLG_cons (.c .v) (expLG_cons (.c .v) (expLG_nil)))))
 replace hH := condF hc hH
 refine AW.skip ?_
 refine AW.seq ?_
 obtain ⟨x3, hx4, hH⟩ := bindE hH
 refine AW.region ?_
 refine AO.pu T ?_
 refine AO.val rfl rfl (callV_ok rfl rfl rfl rfl (spec_tmMean_ok fuel _ _ (hx4)) rfl) ?_
 iterate 5 refine AO.pu T ?_
 refine AO.nil (AW.seq ?_)
 refine AW.region ?_
 iterate 5 refine AO.pu T ?_
 refine AO.nil (AW.ret ?_)
 cases someE hH
 exact retQ.i [] rfl (.t (expLG_cons (.c .v) (expLG_cons (.c .v) (expLG_cons (.c .v) (expLG_nil)))))

def impl_copyInts_p (l : List Int) : Option (List Int) :=
  (need (fitsB 8 l.length)).bind fun u1 =>
  some l
theorem impl_copyInts_ok (l : List Int) (r : (List Int)) (hH : impl_copyInts_p l = some r) : SpecR Try.prog 111 [.s (List.map encInt l)] (.w 1 (r.map encInt)) := by
 refine fn_ok T Try.func111 rfl (by decide) rfl ?_
 refine AW.seq (AW.region ?_)
 refine AO.pu T ?_
 refine AO.nil (AW.seq ?_)
 obtain ⟨u1, hx2, hH⟩ := bindE hH
 refine AW.region ?_
 refine AO.step rfl (mk0_ok T rfl rfl rfl rfl) ?_
 refine AO.pu T ?_
 refine AO.step rfl (app_ws_map T rfl 1 rfl rfl rfl rfl rfl (by decide) (by decide) rfl rfl (fun _ => rfl) (needT (hx2)) rfl rfl) ?_
 refine AO.pu T ?_
 refine AO.nil (AW.ret ?_)
 cases someE hH
 exact retQ.i [1] rfl (.c (.c (.rowR rfl)))

def slices_Sort_int_p (x : List Int) : Option (List Int) := (need (Nat.blt x.length 4611686018427387904)).bind fun _ => some (sortI x)
theorem slices_Sort_int_ok (x : List Int) (r : List Int) (hH : slices_Sort_int_p x = some r) : SpecM Try.prog 68 [.w 1 (x.map encInt)] [.w 1 (r.map encInt)] (.t []) := by
  obtain ⟨u, hu, hr⟩ := bindE hH
  cases someE hr
  exact spec_sortI ⟨_, Try.func68, rfl, by decide⟩ Try.slices_Sort_int Try.slices_Sort_int_none x (Nat.le_of_ble_eq_true (needT hu))

def impl_sortedInts_p (l : List Int) : Option (List Int) :=
  (impl_copyInts_p l).bind fun x1 =>
  (slices_Sort_int_p x1).bind fun x3 =>
  some x3
theorem impl_sortedInts_ok (l : List Int) (r : (List Int)) (hH : impl_sortedInts_p l = some r) : SpecR Try.prog 70 [.s (List.map encInt l)] (.w 1 (r.map encInt)) := by
 refine fn_ok T Try.func70 rfl (by decide) rfl ?_
 refine AW.seq (AW.region ?_)
 refine AO.pu T ?_
 refine AO.nil (AW.seq ?_)
 obtain ⟨x1, hx2, hH⟩ := bindE hH
 refine AW.region ?_
 refine AO.pu T ?_
 refine AO.step rfl (call_ok rfl 1 rfl rfl rfl (impl_copyInts_ok _ _ (hx2)) rfl rfl rfl) ?_
 refine AO.pu T ?_
 refine AO.nil (AW.seq ?_)
 obtain ⟨x3, hx4, hH⟩ := bindE hH
 refine AW.region ?_
 refine AO.pu T ?_
 refine AO.step rfl (callM_ok rfl 2 rfl rfl (es := [.w 1 (x1.map encInt)]) (outs := [.w 1 (x3.map encInt)]) (ids := [1]) (by exact expLG_cons (.c (.rowR rfl)) (expLG_nil)) (by decide) (.inl (by rfl)) (by rfl) (slices_Sort_int_ok _ _ (hx4)) rfl (by rfl) rfl) ?_
 refine AO.nil (AW.seq ?_)
 refine AW.region ?_
 iterate 2 refine AO.pu T ?_
 refine AO.nil (AW.ret ?_)
 cases someE hH
 exact retQ.i [1] rfl (.c (.c (.rowR rfl)))

def impl_MiddleOf_p (fuel : Nat) (l : List Int) : Option (Int × Int × Bool) :=
  (impl_AreMarksOf_p l).bind fun x1 =>
  cond (!x1)
    (some (0, 0, false))
    ((impl_sortedInts_p l).bind fun x3 =>
    (need (2 != 0)).bind fun u5 =>
    (getI x3 (w64 ((w64 ((l.length : Int) - 1)).tdiv 2))).bind fun x7 =>
    (getI x3 (w64 ((l.length : Int).tdiv 2))).bind fun x9 =>
    (impl_lowestTerms_p fuel (w64 (x7 + x9)) 2).bind fun x11 =>
    some (x11.1, x11.2, true))
theorem impl_MiddleOf_ok (fuel : Nat) (l : List Int) (r : (Int × Int × Bool)) (hH : impl_MiddleOf_p fuel l = some r) : SpecR Try.prog 45 [.s (List.map encInt l)] (.t [.v (.int .i64 r.1), .v (.int .i64 r.2.1), .v (.bool r.2.2)]) := by
 refine fn_ok T Try.func45 rfl (by decide) rfl ?_
 refine AW.seq (AW.region ?_)
 iterate 3 refine AO.pu T ?_
 refine AO.nil ?_
 iterate 2 refine AW.seq ?_
 obtain ⟨x1, hx2, hH⟩ := bindE hH
 refine AW.region ?_
 refine AO.pu T ?_
 refine AO.val rfl rfl (callV_ok rfl rfl rfl rfl (impl_AreMarksOf_ok _ _ (hx2)) rfl) ?_
 refine AO.pu T ?_
 refine AO.nil ?_
 refine AW.cond (b := (!x1)) rfl (fun hc => ?_) (fun hc => ?_)
 replace hH := condT hc hH
 refine AW.seq (AW.region ?_)
 iterate 3 refine AO.pu T ?_
 refine AO.nil (AW.ret ?_)
 cases someE hH
 exact retQ.i [] rfl (.t (expLG_cons (.c .v) (expLG_cons (.c .v) (expLG_cons (.c .v) (expLG_nil)))))
 replace hH := condF hc hH
 refine AW.skip ?_
 refine AW.seq ?_
 obtain ⟨x3, hx4, hH⟩ := bindE hH
 refine AW.region ?_
 refine AO.pu T ?_
 refine AO.step rfl (call_ok rfl 1 rfl rfl rfl (impl_sortedInts_ok _ _ (hx4)) rfl rfl rfl) ?_
 refine AO.pu T ?_
 refine AO.val rfl rfl (len_map_ok T rfl rfl rfl) ?_
 iterate 2 refine AO.pu T ?_
 refine AO.nil (AW.seq ?_)
 obtain ⟨u5, hx6, hH⟩ := bindE hH
 obtain ⟨x7, hx8, hH⟩ := bindE hH
 obtain ⟨x9, hx10, hH⟩ := bindE hH
 obtain ⟨x11, hx12, hH⟩ := bindE hH
 refine AW.drawn 17 2 [] mix (by kernel_rfl) rfl ?_
 iterate 2 refine AD.pure T rfl rfl rfl ?_
 refine AD.val rfl rfl (arw_ok rfl rfl rfl rfl) ?_
 refine AD.val rfl rfl (quow_ok rfl rfl rfl (neZ (needT (hx6)))) ?_
 refine AD.val rfl rfl (ix_row_ok T rfl rfl rfl rfl rfl rfl (hx8)) ?_
 refine AD.val rfl rfl (load_row_ok T rfl rfl rfl rfl (getI_get (hx8)) rfl rfl rfl) ?_
 iterate 2 refine AD.pure T rfl rfl rfl ?_
 refine AD.val rfl rfl (quow_ok rfl rfl rfl (neZ (needT (hx6)))) ?_
 refine AD.val rfl rfl (ix_row_ok T rfl rfl rfl rfl rfl rfl (hx10)) ?_
 refine AD.val rfl rfl (load_row_ok T rfl rfl rfl rfl (getI_get (hx10)) rfl rfl rfl) ?_
 refine AD.val rfl rfl (arw_ok rfl rfl rfl rfl) ?_
 refine AD.val rfl rfl (callV_ok rfl rfl rfl rfl (impl_lowestTerms_ok fuel _ _ _ (hx12)) rfl) ?_
 iterate 4 refine AD.pure T rfl rfl rfl ?_
 refine AD.nil ?_
 refine AO.pu T ?_
 refine AO.nil ?_
 refine AW.le (Le.ct 0 0 (σ' := (⟨[(7, x11.1), (8, x11.2)], [], 34, []⟩ : St))) ?_
 refine AW.seq (AW.region ?_)
 iterate 5 refine AO.pu T ?_
 refine AO.nil (AW.ret ?_)
 cases someE hH
 exact retQ.i [] rfl (.t (expLG_cons (.c .v) (expLG_cons (.c .v) (expLG_cons (.c .v) (expLG_nil)))))

def spec_tmOrder_l1 (x1 : (List Int)) : Nat → List Int → Int → Option ((List Int))
  | 0, _, _ => none
  | k3 + 1, v14, v15 =>
    cond (decide (v15 ≥ 0))
      ((getI x1 v15).bind fun x17 =>
      (need (fitsB 8 (v14.length + ([x17]).length))).bind fun u19 =>
      spec_tmOrder_l1 x1 k3 (v14 ++ [x17]) (w64 (v15 - 1)))
      (some v14)
def spec_tmOrder_p (fuel : Nat) (l : List Int) : Option (List Int) :=
  (spec_poSorted_p fuel l).bind fun x1 =>
  spec_tmOrder_l1 x1 fuel [] (w64 ((x1.length : Int) - 1))
theorem spec_tmOrder_ok (fuel : Nat) (l : List Int) (r : (List Int)) (hH : spec_tmOrder_p fuel l = some r) : SpecR Try.prog 101 [.s (List.map encInt l)] (.w 1 (r.map encInt)) := by
 refine fn_ok T Try.func101 rfl (by decide) rfl ?_
 refine AW.seq (AW.region ?_)
 refine AO.pu T ?_
 refine AO.nil (AW.seq ?_)
 obtain ⟨x1, hx2, hH⟩ := bindE hH
 refine AW.region ?_
 refine AO.pu T ?_
 refine AO.step rfl (call_ok rfl 1 rfl rfl rfl (spec_poSorted_ok fuel _ _ (hx2)) rfl rfl rfl) ?_
 refine AO.pu T ?_
 refine AO.nil (AW.seq ?_)
 refine AW.region ?_
 refine AO.pu T ?_
 refine AO.nil ?_
 iterate 2 refine AW.seq ?_
 refine AW.region ?_
 refine AO.pu T ?_
 refine AO.val rfl rfl (len_row_ok T rfl rfl rfl rfl) ?_
 refine AO.val rfl rfl (arw_ok rfl rfl rfl rfl) ?_
 refine AO.pu T ?_
 refine AO.nil ?_
 refine AW.block ?_
 refine AW.loopS (fun s : Nat × (List Int) × Int => (⟨[(3, .R 1), (4, .R 5), (5, s.2.2)], [(1, .row 1 (List.map encInt x1)), (5, .row 1 (List.map encInt s.2.1))], 23, []⟩ : St)) (fun s => spec_tmOrder_l1 x1 s.1 s.2.1 s.2.2 = some r) (fun s => s.1) (fuel, [], w64 ((x1.length : Int) - 1)) hH ?_ ?_
 refine Le.trans (Le.void 4 5 1 rfl rfl) ?_
 exact Le.ct 0 0
 rintro ⟨k3, v14, v15⟩ hH
 replace hH : spec_tmOrder_l1 x1 k3 v14 v15 = some r := hH
 try dsimp only
 rcases k3 with _ | k3
 cases (show none = some _ from hH)
 rw [spec_tmOrder_l1] at hH
 iterate 2 refine AW.seq ?_
 refine AW.region ?_
 iterate 2 refine AO.pu T ?_
 refine AO.nil ?_
 refine AW.cond (b := decide (v15 ≥ 0)) rfl (fun hc => ?_) (fun hc => ?_)
 replace hH := condT hc hH
 refine AW.skip ?_
 refine AW.seq ?_
 refine AW.block ?_
 obtain ⟨x17, hx18, hH⟩ := bindE hH
 obtain ⟨u19, hx20, hH⟩ := bindE hH
 refine AW.region ?_
 iterate 3 refine AO.pu T ?_
 refine AO.val rfl rfl (ix_row_ok T rfl rfl rfl rfl rfl rfl (hx18)) ?_
 refine AO.val rfl rfl (load_row_ok T rfl rfl rfl rfl (getI_get (hx18)) rfl rfl rfl) ?_
 refine AO.step rfl (mk_map_ok T rfl 6 rfl rfl rfl rfl rfl (f := encInt) (l := [x17]) rfl rfl (fun _ => rfl) rfl rfl rfl rfl rfl) ?_
 refine AO.step rfl (app_rv_map T rfl 7 rfl rfl rfl rfl rfl (by decide) rfl rfl rfl rfl (fun _ => rfl) (needT (hx20)) rfl rfl) ?_
 refine AO.pu T ?_
 refine AO.nil ?_
 refine AW.region ?_
 refine AO.pu T ?_
 refine AO.val rfl rfl (arw_ok rfl rfl rfl rfl) ?_
 refine AO.pu T ?_
 refine AO.nil ?_
 refine ⟨(k3, (v14 ++ [x17]), w64 (v15 - 1)), hH, Nat.lt_succ_self _, ?_⟩
 exact Le.ct 7 5
 replace hH := condF hc hH
 refine AW.exit ?_
 refine AW.seq (AW.region ?_)
 iterate 2 refine AO.pu T ?_
 refine AO.nil (AW.ret ?_)
 cases someE hH
 exact retQ.i [5] rfl (.c (.c (.rowR rfl)))

def spec_MiddleOf_p (fuel : Nat) (l : List Int) : Option (Int × Int × Bool) :=
  (spec_tmGood_p l).bind fun x1 =>
  cond (!x1)
    (some (0, 0, false))
    ((spec_tmOrder_p fuel l).bind fun x3 =>
    (need (2 != 0)).bind fun u5 =>
    (getI x3 (w64 ((w64 ((x3.length : Int) - 1)).tdiv 2))).bind fun x7 =>
    (getI x3 (w64 ((x3.length : Int).tdiv 2))).bind fun x9 =>
    (spec_poLowest_p fuel (w64 (x7 + x9)) 2).bind fun x11 =>
    some (x11.1, x11.2, true))
theorem spec_MiddleOf_ok (fuel : Nat) (l : List Int) (r : (Int × Int × Bool)) (hH : spec_MiddleOf_p fuel l = some r) : SpecR Try.prog 46 [.s (List.map encInt l)] (.t [.v (.int .i64 r.1), .v (.int .i64 r.2.1), .v (.bool r.2.2)]) := by
 refine fn_ok T Try.func46 rfl (by decide) rfl ?_
 refine AW.seq (AW.region ?_)
 iterate 3 refine AO.pu T ?_
 refine AO.nil ?_
 iterate 2 refine AW.seq ?_
 obtain ⟨x1, hx2, hH⟩ := bindE hH
 refine AW.region ?_
 refine AO.pu T ?_
 refine AO.val rfl rfl (callV_ok rfl rfl rfl rfl (spec_tmGood_ok _ _ (hx2)) rfl) ?_
 refine AO.pu T ?_
 refine AO.nil ?_
 refine AW.cond (b := (!x1)) rfl (fun hc => ?_) (fun hc => ?_)
 replace hH := condT hc hH
 refine AW.seq (AW.region ?_)
 iterate 3 refine AO.pu T ?_
 refine AO.nil (AW.ret ?_)
 cases someE hH
 exact retQ.i [] rfl (.t (expLG_cons (.c .v) (expLG_cons (.c .v) (expLG_cons (.c .v) (expLG_nil)))))
 replace hH := condF hc hH
 refine AW.skip ?_
 refine AW.seq ?_
 obtain ⟨x3, hx4, hH⟩ := bindE hH
 refine AW.region ?_
 refine AO.pu T ?_
 refine AO.step rfl (call_ok rfl 1 rfl rfl rfl (spec_tmOrder_ok fuel _ _ (hx4)) rfl rfl rfl) ?_
 refine AO.pu T ?_
 refine AO.nil (AW.seq ?_)
 refine AW.region ?_
 refine AO.pu T ?_
 refine AO.val rfl rfl (len_row_ok T rfl rfl rfl rfl) ?_
 refine AO.pu T ?_
 refine AO.nil (AW.seq ?_)
 obtain ⟨u5, hx6, hH⟩ := bindE hH
 obtain ⟨x7, hx8, hH⟩ := bindE hH
 obtain ⟨x9, hx10, hH⟩ := bindE hH
 obtain ⟨x11, hx12, hH⟩ := bindE hH
 refine AW.drawn 17 2 [] mix (by kernel_rfl) rfl ?_
 iterate 2 refine AD.pure T rfl rfl rfl ?_
 refine AD.val rfl rfl (arw_ok rfl rfl rfl rfl) ?_
 refine AD.val rfl rfl (quow_ok rfl rfl rfl (neZ (needT (hx6)))) ?_
 refine AD.val rfl rfl (ix_row_ok T rfl rfl rfl rfl rfl rfl (hx8)) ?_
 refine AD.val rfl rfl (load_row_ok T rfl rfl rfl rfl (getI_get (hx8)) rfl rfl rfl) ?_
 iterate 2 refine AD.pure T rfl rfl rfl ?_
 refine AD.val rfl rfl (quow_ok rfl rfl rfl (neZ (needT (hx6)))) ?_
 refine AD.val rfl rfl (ix_row_ok T rfl rfl rfl rfl rfl rfl (hx10)) ?_
 refine AD.val rfl rfl (load_row_ok T rfl rfl rfl rfl (getI_get (hx10)) rfl rfl rfl) ?_
 refine AD.val rfl rfl (arw_ok rfl rfl rfl rfl) ?_
 refine AD.val rfl rfl (callV_ok rfl rfl rfl rfl (spec_poLowest_ok fuel _ _ _ (hx12)) rfl) ?_
 iterate 4 refine AD.pure T rfl rfl rfl ?_
 refine AD.nil ?_
 refine AO.pu T ?_
 refine AO.nil ?_
 refine AW.le (Le.ct 0 0 (σ' := (⟨[(7, x11.1), (8, x11.2)], [], 34, []⟩ : St))) ?_
 refine AW.seq (AW.region ?_)
 iterate 5 refine AO.pu T ?_
 refine AO.nil (AW.ret ?_)
 cases someE hH
 exact retQ.i [] rfl (.t (expLG_cons (.c .v) (expLG_cons (.c .v) (expLG_cons (.c .v) (expLG_nil)))))

def impl_isMarkOf_p (l : List Int) (k : Int) : Option Bool :=
  (impl_AreMarksOf_p l).bind fun x1 =>
  (opt x1 default (impl_within_p k 0 (w64 ((l.length : Int) - 1)))).bind fun x3 =>
  some (x1 && x3)
theorem impl_isMarkOf_ok (l : List Int) (k : Int) (r : Bool) (hH : impl_isMarkOf_p l k = some r) : SpecR Try.prog 97 [.s (List.map encInt l), k] (.v (.bool r)) := by
 refine fn_ok T Try.func97 rfl (by decide) rfl ?_
 refine AW.seq (AW.region ?_)
 refine AO.pu T ?_
 refine AO.nil (AW.seq ?_)
 obtain ⟨x1, hx2, hH⟩ := bindE hH
 obtain ⟨x3, hx4, hH⟩ := bindE hH
 refine AW.region ?_
 refine AO.pu T ?_
 refine AO.val rfl rfl (callV_ok rfl rfl rfl rfl (impl_AreMarksOf_ok _ _ (hx2)) rfl) ?_
 refine AO.pu T ?_
 iterate 2 refine AO.pureG T [] rfl trivial rfl rfl ?_
 refine AO.guard [9] rfl ⟨fun h => h, trivial⟩ (fun hg => len_map_ok T rfl rfl rfl) rfl ?_
 refine AO.guard [10] rfl ⟨fun h => h, trivial⟩ (fun hg => arw_ok rfl rfl rfl rfl) rfl ?_
 refine AO.guard [8, 11] rfl ⟨fun h => h, fun h => h, trivial⟩ (fun hg => callV_ok rfl rfl rfl rfl (impl_within_ok _ _ _ _ (optT hx4 hg)) rfl) rfl ?_
 refine AO.val rfl rfl (pick_and rfl rfl rfl rfl) ?_
 refine AO.pu T ?_
 refine AO.nil (AW.ret ?_)
 cases someE hH
 exact retQ.i [] rfl (.c (.c .v))

def impl_OrderOf_p (l : List Int) (k : Int) : Option (Int × Bool) :=
  (impl_isMarkOf_p l k).bind fun x1 =>
  cond (!x1)
    (some (0, false))
    ((impl_sortedInts_p l).bind fun x3 =>
    (getI x3 k).bind fun x5 =>
    some (x5, true))
theorem impl_OrderOf_ok (l : List Int) (k : Int) (r : (Int × Bool)) (hH : impl_OrderOf_p l k = some r) : SpecR Try.prog 40 [.s (List.map encInt l), k] (.t [.v (.int .i64 r.1), .v (.bool r.2)]) := by
 refine fn_ok T Try.func40 rfl (by decide) rfl ?_
 refine AW.seq (AW.region ?_)
 iterate 2 refine AO.pu T ?_
 refine AO.nil ?_
 iterate 2 refine AW.seq ?_
 obtain ⟨x1, hx2, hH⟩ := bindE hH
 refine AW.region ?_
 iterate 2 refine AO.pu T ?_
 refine AO.val rfl rfl (callV_ok rfl rfl rfl rfl (impl_isMarkOf_ok _ _ _ (hx2)) rfl) ?_
 refine AO.pu T ?_
 refine AO.nil ?_
 refine AW.cond (b := (!x1)) rfl (fun hc => ?_) (fun hc => ?_)
 replace hH := condT hc hH
 refine AW.seq (AW.region ?_)
 iterate 2 refine AO.pu T ?_
 refine AO.nil (AW.ret ?_)
 cases someE hH
 exact retQ.i [] rfl (.t (expLG_cons (.c .v) (expLG_cons (.c .v) (expLG_nil))))
 replace hH := condF hc hH
 refine AW.skip ?_
 refine AW.seq ?_
 obtain ⟨x3, hx4, hH⟩ := bindE hH
 obtain ⟨x5, hx6, hH⟩ := bindE hH
 refine AW.region ?_
 refine AO.pu T ?_
 refine AO.step rfl (call_ok rfl 1 rfl rfl rfl (impl_sortedInts_ok _ _ (hx4)) rfl rfl rfl) ?_
 refine AO.pu T ?_
 refine AO.val rfl rfl (ix_row_ok T rfl rfl rfl rfl rfl rfl (hx6)) ?_
 refine AO.val rfl rfl (load_row_ok T rfl rfl rfl rfl (getI_get (hx6)) rfl rfl rfl) ?_
 iterate 2 refine AO.pu T ?_
 refine AO.nil (AW.ret ?_)
 cases someE hH
 exact retQ.i [] rfl (.t (expLG_cons (.c .v) (expLG_cons (.c .v) (expLG_nil))))

def laws_pIn_l1 (n : Int) : List Int → Nat → Option Bool
  | [], k1 =>
    some false
  | y2 :: ys3, k1 =>
    cond (y2 == n)
      (some true)
      (laws_pIn_l1 n ys3 (k1 + 1))
def laws_pIn_p (l : List Int) (n : Int) : Option Bool :=
  laws_pIn_l1 n l 0
theorem laws_pIn_ok (l : List Int) (n : Int) (r : Bool) (hH : laws_pIn_p l n = some r) : SpecR Try.prog 48 [.s (List.map encInt l), n] (.v (.bool r)) := by
 refine fn_ok T Try.func48 rfl (by decide) rfl ?_
 refine AW.seq (AW.region ?_)
 refine AO.pu T ?_
 refine AO.nil ?_
 iterate 2 refine AW.seq ?_
 refine AW.region ?_
 refine AO.pu T ?_
 refine AO.val rfl rfl (len_map_ok T rfl rfl rfl) ?_
 refine AO.pu T ?_
 refine AO.nil ?_
 refine AW.block ?_
 refine AW.loopS (fun s : Nat => (⟨[(1, n), (7, .s (List.map encInt l)), (8, (l.length : Int)), (9, (s : Int))], [], 17, []⟩ : St)) (fun s => s ≤ l.length ∧ laws_pIn_l1 n (l.drop s) s = some r) (fun s => l.length - s) 0 ⟨Nat.zero_le _, hH⟩ ?_ ?_
 exact Le.ct 0 0
 rintro k1 ⟨hk, hH⟩
 replace hH : laws_pIn_l1 n (l.drop k1) k1 = some r := hH
 try dsimp only
 refine AW.boundM (t := 7) (l := l) rfl (fun hb5 => ?_)
 rcases hd4 : l.drop k1 with _ | ⟨y2, ys3⟩
 rw [hd4, laws_pIn_l1] at hH
 have hlt6 := drop_ge hd4
 refine AW.seq (AW.region ?_)
 refine AO.pu T ?_
 refine AO.nil (AW.seq ?_)
 refine AW.condF' (b := decide ((k1 : Int) < (l.length : Int))) rfl (rngF hlt6) ?_
 refine AW.exit ?_
 refine AW.seq (AW.region ?_)
 refine AO.pu T ?_
 refine AO.nil (AW.ret ?_)
 cases someE hH
 exact retQ.i [] rfl (.c (.c .v))
 rw [hd4, laws_pIn_l1] at hH
 have hlt6 := drop_lt hd4
 refine AW.seq (AW.region ?_)
 refine AO.pu T ?_
 refine AO.nil (AW.seq ?_)
 refine AW.condT' (b := decide ((k1 : Int) < (l.length : Int))) rfl (rngT hlt6) ?_
 refine AW.skip ?_
 refine AW.seq ?_
 refine AW.block ?_
 refine AW.seq (AW.region ?_)
 refine AO.val rfl rfl (ix_map_ok T rfl rfl rfl rfl rfl (getI_drop hd4) rfl) ?_
 iterate 2 refine AO.pu T ?_
 refine AO.nil (AW.seq ?_)
 refine AW.region ?_
 iterate 3 refine AO.pu T ?_
 refine AO.nil ?_
 refine AW.cond (b := (y2 == n)) rfl (fun hc => ?_) (fun hc => ?_)
 replace hH := condT hc hH
 refine AW.seq (AW.region ?_)
 refine AO.pu T ?_
 refine AO.nil (AW.ret ?_)
 cases someE hH
 exact retQ.i [] rfl (.c (.c .v))
 replace hH := condF hc hH
 refine AW.skip ?_
 refine AW.region ?_
 refine AO.val rfl rfl (ar_ok rfl rfl rfl rfl (inI_succ hlt6 hb5)) ?_
 refine AO.pu T ?_
 refine AO.nil ?_
 refine ⟨k1 + 1, ⟨Nat.succ_le_of_lt hlt6, (by rw [drop_succ_of hd4]; exact hH)⟩, (by have := hlt6; dsimp only; omega), ?_⟩
 exact Le.ct 0 0

def spec_DrawTrimmedPoints_p (fuel : Nat) (code : List Int) : Option ((List Int) × Int × Int × Int) :=
  (spec_l1Cur_marksOf_p fuel (L1Cur.mk code 0 0)).bind fun x1 =>
  (spec_l1Cur_among_p (L1Cur.mk x1.1.code x1.1.at' x1.1.seed) [0, 1, 10, 95, 250, 10000, 10001, (-1)]).bind fun x3 =>
  (spec_l1Cur_among_p (L1Cur.mk x3.1.code x3.1.at' x3.1.seed) [1, 10, 100, 1000, 1001, 0]).bind fun x5 =>
  (spec_l1Cur_pick_p (L1Cur.mk x5.1.code x5.1.at' x5.1.seed) 4).bind fun x7 =>
  (spec_l1Cur_pick_p (L1Cur.mk x7.1.code x7.1.at' x7.1.seed) 24).bind fun x9 =>
  (need (23 != 0)).bind fun u11 =>
  some (x1.2, x3.2, x5.2, w64 ((w64 (x7.2 - 1)) - (w64 (x9.2.tdiv 23))))
theorem spec_DrawTrimmedPoints_ok (fuel : Nat) (code : List Int) (r : ((List Int) × Int × Int × Int)) (hH : spec_DrawTrimmedPoints_p fuel code = some r) : SpecR Try.prog 49 [.s (List.map encInt_u8 code)] (.t [.w 1 (r.1.map encInt), .v (.int .i64 r.2.1), .v (.int .i64 r.2.2.1), .v (.int .i64 r.2.2.2)]) := by
 refine fn_ok T Try.func49 rfl (by decide) rfl ?_
 refine AW.seq (AW.region ?_)
 iterate 4 refine AO.pu T ?_
 refine AO.nil (AW.seq ?_)
 refine AW.region ?_
 refine AO.pu T ?_
 refine AO.pu T (d := .g [.s (List.map encInt_u8 code), (0 : Int), .v (.int .u64 0)]) ?_
 refine AO.step rfl (box_ok T rfl 1 rfl rfl rfl rfl) ?_
 refine AO.pu T ?_
 refine AO.nil (AW.seq ?_)
 obtain ⟨x1, hx2, hH⟩ := bindE hH
 obtain ⟨x3, hx4, hH⟩ := bindE hH
 obtain ⟨x5, hx6, hH⟩ := bindE hH
 obtain ⟨x7, hx8, hH⟩ := bindE hH
 obtain ⟨x9, hx10, hH⟩ := bindE hH
 obtain ⟨u11, hx12, hH⟩ := bindE hH
 refine AW.region ?_
 refine AO.pu T ?_
 refine AO.step rfl (callM_ok rfl 2 rfl rfl (es := [.pw (encL1Cur (L1Cur.mk code 0 0))]) (outs := [.pw (encL1Cur x1.1)]) (ids := [1]) (by exact expLG_cons (.c (.box rfl rfl)) (expLG_nil)) (by decide) (.inl (by rfl)) (by rfl) (spec_l1Cur_marksOf_ok fuel _ _ (hx2)) rfl (by rfl) rfl) ?_
 refine AO.pu T ?_
 refine AO.step rfl (mk_map_ok T rfl 3 rfl rfl rfl rfl rfl (f := encInt) (l := [0, 1, 10, 95, 250, 10000, 10001, (-1)]) rfl rfl (fun _ => rfl) rfl rfl rfl rfl rfl) ?_
 refine AO.le (Le.freezeM 3 (g := encInt) rfl (fun y => .vs rfl)) ?_
 refine AO.step rfl (callM_ok rfl 4 rfl rfl (es := [.pw (encL1Cur (L1Cur.mk x1.1.code x1.1.at' x1.1.seed)), .s ([0, 1, 10, 95, 250, 10000, 10001, (-1)].map encInt)]) (outs := [.pw (encL1Cur x3.1), .u]) (ids := [1]) (by exact expLG_cons (.c (.box rfl rfl)) (expLG_cons (.c .s) (expLG_nil))) (by decide) (.inl (by rfl)) (by rfl) (spec_l1Cur_among_ok _ _ _ (hx4)) rfl (by rfl) rfl) ?_
 refine AO.pu T ?_
 refine AO.step rfl (mk_map_ok T rfl 4 rfl rfl rfl rfl rfl (f := encInt) (l := [1, 10, 100, 1000, 1001, 0]) rfl rfl (fun _ => rfl) rfl rfl rfl rfl rfl) ?_
 refine AO.le (Le.freezeM 4 (g := encInt) rfl (fun y => .vs rfl)) ?_
 refine AO.step rfl (callM_ok rfl 5 rfl rfl (es := [.pw (encL1Cur (L1Cur.mk x3.1.code x3.1.at' x3.1.seed)), .s ([1, 10, 100, 1000, 1001, 0].map encInt)]) (outs := [.pw (encL1Cur x5.1), .u]) (ids := [1]) (by exact expLG_cons (.c (.box rfl rfl)) (expLG_cons (.c .s) (expLG_nil))) (by decide) (.inl (by rfl)) (by rfl) (spec_l1Cur_among_ok _ _ _ (hx6)) rfl (by rfl) rfl) ?_
 refine AO.pu T ?_
 refine AO.step rfl (callM_ok rfl 5 rfl rfl (es := [.pw (encL1Cur (L1Cur.mk x5.1.code x5.1.at' x5.1.seed)), .v (.int .i64 4)]) (outs := [.pw (encL1Cur x7.1), .u]) (ids := [1]) (by exact expLG_cons (.c (.box rfl rfl)) (expLG_cons (.c .v) (expLG_nil))) (by decide) (.inl (by rfl)) (by rfl) (spec_l1Cur_pick_ok _ _ _ (hx8)) rfl (by rfl) rfl) ?_
 refine AO.val rfl rfl (arw_ok rfl rfl rfl rfl) ?_
 refine AO.pu T ?_
 refine AO.step rfl (callM_ok rfl 5 rfl rfl (es := [.pw (encL1Cur (L1Cur.mk x7.1.code x7.1.at' x7.1.seed)), .v (.int .i64 24)]) (outs := [.pw (encL1Cur x9.1), .u]) (ids := [1]) (by exact expLG_cons (.c (.box rfl rfl)) (expLG_cons (.c .v) (expLG_nil))) (by decide) (.inl (by rfl)) (by rfl) (spec_l1Cur_pick_ok _ _ _ (hx10)) rfl (by rfl) rfl) ?_
 refine AO.val rfl rfl (quow_ok rfl rfl rfl (neZ (needT (hx12)))) ?_
 refine AO.val rfl rfl (arw_ok rfl rfl rfl rfl) ?_
 iterate 4 refine AO.pu T ?_
 refine AO.nil ?_
 refine AW.le (Le.ct 0 0 (σ' := (⟨[(2, .R 2), (3, x3.2), (4, x5.2), (5, w64 ((w64 (x7.2 - 1)) - (w64 (x9.2.tdiv 23))))], [(2, .row 1 (List.map encInt x1.2))], 25, []⟩ : St))) ?_
 refine AW.ret ?_
 cases someE hH
 exact retQ.i [2] rfl (.t (expLG_cons (.c (.rowR rfl)) (expLG_cons (.c .v) (expLG_cons (.c .v) (expLG_cons (.c .v) (expLG_nil))))))

def impl_isMode_p (mode : Int) : Option Bool :=
  (impl_within_p mode (-1) 1).bind fun x1 =>
  some x1
theorem impl_isMode_ok (mode : Int) (r : Bool) (hH : impl_isMode_p mode = some r) : SpecR Try.prog 106 [mode] (.v (.bool r)) := by
 refine fn_ok T Try.func106 rfl (by decide) rfl ?_
 refine AW.seq (AW.region ?_)
 refine AO.pu T ?_
 refine AO.nil (AW.seq ?_)
 obtain ⟨x1, hx2, hH⟩ := bindE hH
 refine AW.region ?_
 refine AO.pu T ?_
 refine AO.val rfl rfl (callV_ok rfl rfl rfl rfl (impl_within_ok _ _ _ _ (hx2)) rfl) ?_
 refine AO.pu T ?_
 refine AO.nil (AW.ret ?_)
 cases someE hH
 exact retQ.i [] rfl (.c (.c .v))

def impl_floorDiv_p (a : Int) (b : Int) : Option Int :=
  (need (b != 0)).bind fun u1 =>
  cond (decide ((a.tmod b) < 0))
    (some (w64 ((w64 (a.tdiv b)) - 1)))
    (some (w64 (a.tdiv b)))
theorem impl_floorDiv_ok (a : Int) (b : Int) (r : Int) (hH : impl_floorDiv_p a b = some r) : SpecR Try.prog 133 [a, b] (.v (.int .i64 r)) := by
 refine fn_ok T Try.func133 rfl (by decide) rfl ?_
 refine AW.seq (AW.region ?_)
 refine AO.pu T ?_
 refine AO.nil (AW.seq ?_)
 obtain ⟨u1, hx2, hH⟩ := bindE hH
 refine AW.region ?_
 iterate 2 refine AO.pu T ?_
 refine AO.val rfl rfl (quow_ok rfl rfl rfl (neZ (needT (hx2)))) ?_
 refine AO.pu T ?_
 refine AO.nil ?_
 iterate 2 refine AW.seq ?_
 refine AW.region ?_
 iterate 2 refine AO.pu T ?_
 refine AO.val rfl rfl (rem_ok rfl rfl rfl (neZ (needT (hx2)))) ?_
 refine AO.pu T ?_
 refine AO.nil ?_
 refine AW.cond (b := decide ((a.tmod b) < 0)) rfl (fun hc => ?_) (fun hc => ?_)
 replace hH := condT hc hH
 refine AW.region ?_
 refine AO.pu T ?_
 refine AO.val rfl rfl (arw_ok rfl rfl rfl rfl) ?_
 refine AO.pu T ?_
 refine AO.nil (AW.seq ?_)
 refine AW.region ?_
 iterate 2 refine AO.pu T ?_
 refine AO.nil (AW.ret ?_)
 cases someE hH
 exact retQ.i [] rfl (.c (.c .v))
 replace hH := condF hc hH
 refine AW.skip ?_
 refine AW.seq (AW.region ?_)
 iterate 2 refine AO.pu T ?_
 refine AO.nil (AW.ret ?_)
 cases someE hH
 exact retQ.i [] rfl (.c (.c .v))

def impl_roundDiv_p (a : Int) (b : Int) : Option Int :=
  (impl_floorDiv_p (w64 ((w64 (2 * a)) + b)) (w64 (2 * b))).bind fun x1 =>
  some x1
theorem impl_roundDiv_ok (a : Int) (b : Int) (r : Int) (hH : impl_roundDiv_p a b = some r) : SpecR Try.prog 134 [a, b] (.v (.int .i64 r)) := by
 refine fn_ok T Try.func134 rfl (by decide) rfl ?_
 refine AW.seq (AW.region ?_)
 refine AO.pu T ?_
 refine AO.nil (AW.seq ?_)
 obtain ⟨x1, hx2, hH⟩ := bindE hH
 refine AW.region ?_
 refine AO.pu T ?_
 refine AO.val rfl rfl (arw_ok rfl rfl rfl rfl) ?_
 refine AO.pu T ?_
 refine AO.val rfl rfl (arw_ok rfl rfl rfl rfl) ?_
 refine AO.pu T ?_
 refine AO.val rfl rfl (arw_ok rfl rfl rfl rfl) ?_
 refine AO.val rfl rfl (callV_ok rfl rfl rfl rfl (impl_floorDiv_ok _ _ _ (hx2)) rfl) ?_
 refine AO.pu T ?_
 refine AO.nil (AW.ret ?_)
 cases someE hH
 exact retQ.i [] rfl (.c (.c .v))

def impl_roundPart_p (a : Int) (b : Int) (mode : Int) : Option Int :=
  cond (mode == (-1))
    ((impl_floorDiv_p a b).bind fun x1 =>
    some x1)
    (cond (mode == 1)
      ((impl_floorDiv_p (w64 (-a)) b).bind fun x3 =>
      some (w64 (-x3)))
      ((impl_roundDiv_p a b).bind fun x5 =>
      some x5))
theorem impl_roundPart_ok (a : Int) (b : Int) (mode : Int) (r : Int) (hH : impl_roundPart_p a b mode = some r) : SpecR Try.prog 107 [a, b, mode] (.v (.int .i64 r)) := by
 refine fn_ok T Try.func107 rfl (by decide) rfl ?_
 refine AW.seq (AW.region ?_)
 refine AO.pu T ?_
 refine AO.nil ?_
 iterate 2 refine AW.seq ?_
 refine AW.region ?_
 refine AO.pu T ?_
 refine AO.nil ?_
 refine AW.block ?_
 refine AW.seq (AW.region ?_)
 iterate 2 refine AO.pu T ?_
 refine AO.nil ?_
 refine AW.cond (b := (mode == (-1))) rfl (fun hc => ?_) (fun hc => ?_)
 replace hH := condT hc hH
 refine AW.seq ?_
 obtain ⟨x1, hx2, hH⟩ := bindE hH
 refine AW.region ?_
 iterate 2 refine AO.pu T ?_
 refine AO.val rfl rfl (callV_ok rfl rfl rfl rfl (impl_floorDiv_ok _ _ _ (hx2)) rfl) ?_
 refine AO.pu T ?_
 refine AO.nil (AW.ret ?_)
 cases someE hH
 exact retQ.i [] rfl (.c (.c .v))
 replace hH := condF hc hH
 refine AW.seq (AW.region ?_)
 iterate 2 refine AO.pu T ?_
 refine AO.nil ?_
 refine AW.cond (b := (mode == 1)) rfl (fun hc => ?_) (fun hc => ?_)
 replace hH := condT hc hH
 refine AW.seq ?_
 obtain ⟨x3, hx4, hH⟩ := bindE hH
 refine AW.region ?_
 refine AO.pu T ?_
 refine AO.val rfl rfl (negw_ok rfl rfl) ?_
 refine AO.pu T ?_
 refine AO.val rfl rfl (callV_ok rfl rfl rfl rfl (impl_floorDiv_ok _ _ _ (hx4)) rfl) ?_
 refine AO.val rfl rfl (negw_ok rfl rfl) ?_
 refine AO.pu T ?_
 refine AO.nil (AW.ret ?_)
 cases someE hH
 exact retQ.i [] rfl (.c (.c .v))
 replace hH := condF hc hH
 refine AW.skip ?_
 refine AW.seq ?_
 obtain ⟨x5, hx6, hH⟩ := bindE hH
 refine AW.region ?_
 iterate 2 refine AO.pu T ?_
 refine AO.val rfl rfl (callV_ok rfl rfl rfl rfl (impl_roundDiv_ok _ _ _ (hx6)) rfl) ?_
 refine AO.pu T ?_
 refine AO.nil (AW.ret ?_)
 cases someE hH
 exact retQ.i [] rfl (.c (.c .v))

def impl_TrimmedPoints_p (fuel : Nat) (l : List Int) (factor : Int) (parts : Int) (mode : Int) : Option (Int × Bool) :=
  (impl_AreMarksOf_p l).bind fun x1 =>
  (opt (!(!x1)) default (impl_within_p factor 0 10000)).bind fun x3 =>
  (opt (!((!x1) || (!x3))) default (impl_within_p parts 1 1000)).bind fun x5 =>
  (opt (!(((!x1) || (!x3)) || (!x5))) default (impl_isMode_p mode)).bind fun x7 =>
  cond ((((!x1) || (!x3)) || (!x5)) || (!x7))
    (some (0, false))
    ((impl_trimmedSum_p fuel l).bind fun x9 =>
    (impl_roundPart_p (w64 (x9.1 * factor)) (w64 (x9.2 * parts)) mode).bind fun x11 =>
    some (x11, true))
theorem impl_TrimmedPoints_ok (fuel : Nat) (l : List Int) (factor : Int) (parts : Int) (mode : Int) (r : (Int × Bool)) (hH : impl_TrimmedPoints_p fuel l factor parts mode = some r) : SpecR Try.prog 50 [.s (List.map encInt l), factor, parts, mode] (.t [.v (.int .i64 r.1), .v (.bool r.2)]) := by
 refine fn_ok T Try.func50 rfl (by decide) rfl ?_
 refine AW.seq (AW.region ?_)
 iterate 2 refine AO.pu T ?_
 refine AO.nil ?_
 iterate 2 refine AW.seq ?_
 obtain ⟨x1, hx2, hH⟩ := bindE hH
 obtain ⟨x3, hx4, hH⟩ := bindE hH
 obtain ⟨x5, hx6, hH⟩ := bindE hH
 obtain ⟨x7, hx8, hH⟩ := bindE hH
 refine AW.region ?_
 refine AO.pu T ?_
 refine AO.val rfl rfl (callV_ok rfl rfl rfl rfl (impl_AreMarksOf_ok _ _ (hx2)) rfl) ?_
 iterate 2 refine AO.pu T ?_
 refine AO.pureG T [] rfl trivial rfl rfl ?_
 refine AO.guard [16] rfl ⟨fun h => h, trivial⟩ (fun hg => callV_ok rfl rfl rfl rfl (impl_within_ok _ _ _ _ (optT hx4 hg)) rfl) rfl ?_
 refine AO.pureG T [17] rfl ⟨fun h => h, trivial⟩ rfl rfl ?_
 refine AO.val rfl rfl (pick_or rfl rfl rfl rfl) ?_
 refine AO.pu T ?_
 refine AO.pureG T [] rfl trivial rfl rfl ?_
 refine AO.guard [21] rfl ⟨fun h => h, trivial⟩ (fun hg => callV_ok rfl rfl rfl rfl (impl_within_ok _ _ _ _ (optT hx6 hg)) rfl) rfl ?_
 refine AO.pureG T [22] rfl ⟨fun h => h, trivial⟩ rfl rfl ?_
 refine AO.val rfl rfl (pick_or rfl rfl rfl rfl) ?_
 refine AO.pu T ?_
 refine AO.pureG T [] rfl trivial rfl rfl ?_
 refine AO.guard [26] rfl ⟨fun h => h, trivial⟩ (fun hg => callV_ok rfl rfl rfl rfl (impl_isMode_ok _ _ (optT hx8 hg)) rfl) rfl ?_
 refine AO.pureG T [27] rfl ⟨fun h => h, trivial⟩ rfl rfl ?_
 refine AO.val rfl rfl (pick_or rfl rfl rfl rfl) ?_
 refine AO.nil ?_
 refine AW.cond (b := ((((!x1) || (!x3)) || (!x5)) || (!x7))) rfl (fun hc => ?_) (fun hc => ?_)
 replace hH := condT hc hH
 refine AW.seq (AW.region ?_)
 iterate 2 refine AO.pu T ?_
 refine AO.nil (AW.ret ?_)
 cases someE hH
 exact retQ.i [] rfl (.t (expLG_cons (.c .v) (expLG_cons (.c .v) (expLG_nil))))
 replace hH := condF hc hH
 refine AW.skip ?_
 refine AW.seq ?_
 obtain ⟨x9, hx10, hH⟩ := bindE hH
 refine AW.region ?_
 refine AO.pu T ?_
 refine AO.val rfl rfl (callV_ok rfl rfl rfl rfl (impl_trimmedSum_ok fuel _ _ (hx10)) rfl) ?_
 iterate 5 refine AO.pu T ?_
 refine AO.nil ?_
 refine AW.le (Le.ct 0 0 (σ' := (⟨[(1, factor), (2, parts), (3, mode), (10, x9.1), (11, x9.2)], [], 43, []⟩ : St))) ?_
 refine AW.seq ?_
 obtain ⟨x11, hx12, hH⟩ := bindE hH
 refine AW.region ?_
 iterate 2 refine AO.pu T ?_
 refine AO.val rfl rfl (arw_ok rfl rfl rfl rfl) ?_
 iterate 2 refine AO.pu T ?_
 refine AO.val rfl rfl (arw_ok rfl rfl rfl rfl) ?_
 refine AO.pu T ?_
 refine AO.val rfl rfl (callV_ok rfl rfl rfl rfl (impl_roundPart_ok _ _ _ _ (hx12)) rfl) ?_
 iterate 2 refine AO.pu T ?_
 refine AO.nil (AW.ret ?_)
 cases someE hH
 exact retQ.i [] rfl (.t (expLG_cons (.c .v) (expLG_cons (.c .v) (expLG_nil))))

def spec_poIsMode_p (mode : Int) : Option Bool :=
  (spec_l1In_p mode (-1) 1).bind fun x1 =>
  some x1
theorem spec_poIsMode_ok (mode : Int) (r : Bool) (hH : spec_poIsMode_p mode = some r) : SpecR Try.prog 108 [mode] (.v (.bool r)) := by
 refine fn_ok T Try.func108 rfl (by decide) rfl ?_
 refine AW.seq (AW.region ?_)
 refine AO.pu T ?_
 refine AO.nil (AW.seq ?_)
 obtain ⟨x1, hx2, hH⟩ := bindE hH
 refine AW.region ?_
 refine AO.pu T ?_
 refine AO.val rfl rfl (callV_ok rfl rfl rfl rfl (spec_l1In_ok _ _ _ _ (hx2)) rfl) ?_
 refine AO.pu T ?_
 refine AO.nil (AW.ret ?_)
 cases someE hH
 exact retQ.i [] rfl (.c (.c .v))

def spec_poDown_p (a : Int) (b : Int) : Option Int :=
  (need (b != 0)).bind fun u1 =>
  cond (decide ((a.tmod b) < 0))
    (some (w64 ((w64 (a.tdiv b)) - 1)))
    (some (w64 (a.tdiv b)))
theorem spec_poDown_ok (a : Int) (b : Int) (r : Int) (hH : spec_poDown_p a b = some r) : SpecR Try.prog 135 [a, b] (.v (.int .i64 r)) := by
 refine fn_ok T Try.func135 rfl (by decide) rfl ?_
 refine AW.seq (AW.region ?_)
 refine AO.pu T ?_
 refine AO.nil (AW.seq ?_)
 obtain ⟨u1, hx2, hH⟩ := bindE hH
 refine AW.region ?_
 iterate 2 refine AO.pu T ?_
 refine AO.val rfl rfl (quow_ok rfl rfl rfl (neZ (needT (hx2)))) ?_
 refine AO.pu T ?_
 refine AO.nil ?_
 iterate 2 refine AW.seq ?_
 refine AW.region ?_
 iterate 2 refine AO.pu T ?_
 refine AO.val rfl rfl (rem_ok rfl rfl rfl (neZ (needT (hx2)))) ?_
 refine AO.pu T ?_
 refine AO.nil ?_
 refine AW.cond (b := decide ((a.tmod b) < 0)) rfl (fun hc => ?_) (fun hc => ?_)
 replace hH := condT hc hH
 refine AW.region ?_
 refine AO.pu T ?_
 refine AO.val rfl rfl (arw_ok rfl rfl rfl rfl) ?_
 refine AO.pu T ?_
 refine AO.nil (AW.seq ?_)
 refine AW.region ?_
 iterate 2 refine AO.pu T ?_
 refine AO.nil (AW.ret ?_)
 cases someE hH
 exact retQ.i [] rfl (.c (.c .v))
 replace hH := condF hc hH
 refine AW.skip ?_
 refine AW.seq (AW.region ?_)
 iterate 2 refine AO.pu T ?_
 refine AO.nil (AW.ret ?_)
 cases someE hH
 exact retQ.i [] rfl (.c (.c .v))

def spec_poRound_p (a : Int) (b : Int) : Option Int :=
  (spec_poDown_p (w64 ((w64 (2 * a)) + b)) (w64 (2 * b))).bind fun x1 =>
  some x1
theorem spec_poRound_ok (a : Int) (b : Int) (r : Int) (hH : spec_poRound_p a b = some r) : SpecR Try.prog 136 [a, b] (.v (.int .i64 r)) := by
 refine fn_ok T Try.func136 rfl (by decide) rfl ?_
 refine AW.seq (AW.region ?_)
 refine AO.pu T ?_
 refine AO.nil (AW.seq ?_)
 obtain ⟨x1, hx2, hH⟩ := bindE hH
 refine AW.region ?_
 refine AO.pu T ?_
 refine AO.val rfl rfl (arw_ok rfl rfl rfl rfl) ?_
 refine AO.pu T ?_
 refine AO.val rfl rfl (arw_ok rfl rfl rfl rfl) ?_
 refine AO.pu T ?_
 refine AO.val rfl rfl (arw_ok rfl rfl rfl rfl) ?_
 refine AO.val rfl rfl (callV_ok rfl rfl rfl rfl (spec_poDown_ok _ _ _ (hx2)) rfl) ?_
 refine AO.pu T ?_
 refine AO.nil (AW.ret ?_)
 cases someE hH
 exact retQ.i [] rfl (.c (.c .v))

def spec_poMode_p (a : Int) (b : Int) (mode : Int) : Option Int :=
  cond (mode == (-1))
    ((spec_poDown_p a b).bind fun x1 =>
    some x1)
    (cond (mode == 0)
      ((spec_poRound_p a b).bind fun x3 =>
      some x3)
      ((spec_poDown_p (w64 (-a)) b).bind fun x5 =>
      some (w64 (-x5))))
theorem spec_poMode_ok (a : Int) (b : Int) (mode : Int) (r : Int) (hH : spec_poMode_p a b mode = some r) : SpecR Try.prog 109 [a, b, mode] (.v (.int .i64 r)) := by
 refine fn_ok T Try.func109 rfl (by decide) rfl ?_
 refine AW.seq (AW.region ?_)
 refine AO.pu T ?_
 refine AO.nil ?_
 iterate 2 refine AW.seq ?_
 refine AW.region ?_
 refine AO.pu T ?_
 refine AO.nil ?_
 refine AW.block ?_
 refine AW.seq (AW.region ?_)
 iterate 2 refine AO.pu T ?_
 refine AO.nil ?_
 refine AW.cond (b := (mode == (-1))) rfl (fun hc => ?_) (fun hc => ?_)
 replace hH := condT hc hH
 refine AW.seq ?_
 obtain ⟨x1, hx2, hH⟩ := bindE hH
 refine AW.region ?_
 iterate 2 refine AO.pu T ?_
 refine AO.val rfl rfl (callV_ok rfl rfl rfl rfl (spec_poDown_ok _ _ _ (hx2)) rfl) ?_
 refine AO.pu T ?_
 refine AO.nil (AW.ret ?_)
 cases someE hH
 exact retQ.i [] rfl (.c (.c .v))
 replace hH := condF hc hH
 refine AW.seq (AW.region ?_)
 iterate 2 refine AO.pu T ?_
 refine AO.nil ?_
 refine AW.cond (b := (mode == 0)) rfl (fun hc => ?_) (fun hc => ?_)
 replace hH := condT hc hH
 refine AW.seq ?_
 obtain ⟨x3, hx4, hH⟩ := bindE hH
 refine AW.region ?_
 iterate 2 refine AO.pu T ?_
 refine AO.val rfl rfl (callV_ok rfl rfl rfl rfl (spec_poRound_ok _ _ _ (hx4)) rfl) ?_
 refine AO.pu T ?_
 refine AO.nil (AW.ret ?_)
 cases someE hH
 exact retQ.i [] rfl (.c (.c .v))
 replace hH := condF hc hH
 refine AW.skip ?_
 refine AW.seq ?_
 obtain ⟨x5, hx6, hH⟩ := bindE hH
 refine AW.region ?_
 refine AO.pu T ?_
 refine AO.val rfl rfl (negw_ok rfl rfl) ?_
 refine AO.pu T ?_
 refine AO.val rfl rfl (callV_ok rfl rfl rfl rfl (spec_poDown_ok _ _ _ (hx6)) rfl) ?_
 refine AO.val rfl rfl (negw_ok rfl rfl) ?_
 refine AO.pu T ?_
 refine AO.nil (AW.ret ?_)
 cases someE hH
 exact retQ.i [] rfl (.c (.c .v))

def spec_TrimmedPoints_p (fuel : Nat) (l : List Int) (factor : Int) (parts : Int) (mode : Int) : Option (Int × Bool) :=
  (spec_tmGood_p l).bind fun x1 =>
  (opt (!(!x1)) default (spec_l1In_p factor 0 10000)).bind fun x3 =>
  (opt (!((!x1) || (!x3))) default (spec_l1In_p parts 1 1000)).bind fun x5 =>
  (opt (!(((!x1) || (!x3)) || (!x5))) default (spec_poIsMode_p mode)).bind fun x7 =>
  cond ((((!x1) || (!x3)) || (!x5)) || (!x7))
    (some (0, false))
    ((spec_tmMean_p fuel l).bind fun x9 =>
    (spec_poMode_p (w64 (x9.1 * factor)) (w64 (x9.2 * parts)) mode).bind fun x11 =>
    some (x11, true))
theorem spec_TrimmedPoints_ok (fuel : Nat) (l : List Int) (factor : Int) (parts : Int) (mode : Int) (r : (Int × Bool)) (hH : spec_TrimmedPoints_p fuel l factor parts mode = some r) : SpecR Try.prog 51 [.s (List.map encInt l), factor, parts, mode] (.t [.v (.int .i64 r.1), .v (.bool r.2)]) := by
 refine fn_ok T Try.func51 rfl (by decide) rfl ?_
 refine AW.seq (AW.region ?_)
 iterate 2 refine AO.pu T ?_
 refine AO.nil ?_
 iterate 2 refine AW.seq ?_
 obtain ⟨x1, hx2, hH⟩ := bindE hH
 obtain ⟨x3, hx4, hH⟩ := bindE hH
 obtain ⟨x5, hx6, hH⟩ := bindE hH
 obtain ⟨x7, hx8, hH⟩ := bindE hH
 refine AW.region ?_
 refine AO.pu T ?_
 refine AO.val rfl rfl (callV_ok rfl rfl rfl rfl (spec_tmGood_ok _ _ (hx2)) rfl) ?_
 iterate 2 refine AO.pu T ?_
 refine AO.pureG T [] rfl trivial rfl rfl ?_
 refine AO.guard [16] rfl ⟨fun h => h, trivial⟩ (fun hg => callV_ok rfl rfl rfl rfl (spec_l1In_ok _ _ _ _ (optT hx4 hg)) rfl) rfl ?_
 refine AO.pureG T [17] rfl ⟨fun h => h, trivial⟩ rfl rfl ?_
 refine AO.val rfl rfl (pick_or rfl rfl rfl rfl) ?_
 refine AO.pu T ?_
 refine AO.pureG T [] rfl trivial rfl rfl ?_
 refine AO.guard [21] rfl ⟨fun h => h, trivial⟩ (fun hg => callV_ok rfl rfl rfl rfl (spec_l1In_ok _ _ _ _ (optT hx6 hg)) rfl) rfl ?_
 refine AO.pureG T [22] rfl ⟨fun h => h, trivial⟩ rfl rfl ?_
 refine AO.val rfl rfl (pick_or rfl rfl rfl rfl) ?_
 refine AO.pu T ?_
 refine AO.pureG T [] rfl trivial rfl rfl ?_
 refine AO.guard [26] rfl ⟨fun h => h, trivial⟩ (fun hg => callV_ok rfl rfl rfl rfl (spec_poIsMode_ok _ _ (optT hx8 hg)) rfl) rfl ?_
 refine AO.pureG T [27] rfl ⟨fun h => h, trivial⟩ rfl rfl ?_
 refine AO.val rfl rfl (pick_or rfl rfl rfl rfl) ?_
 refine AO.nil ?_
 refine AW.cond (b := ((((!x1) || (!x3)) || (!x5)) || (!x7))) rfl (fun hc => ?_) (fun hc => ?_)
 replace hH := condT hc hH
 refine AW.seq (AW.region ?_)
 iterate 2 refine AO.pu T ?_
 refine AO.nil (AW.ret ?_)
 cases someE hH
 exact retQ.i [] rfl (.t (expLG_cons (.c .v) (expLG_cons (.c .v) (expLG_nil))))
 replace hH := condF hc hH
 refine AW.skip ?_
 refine AW.seq ?_
 obtain ⟨x9, hx10, hH⟩ := bindE hH
 refine AW.region ?_
 refine AO.pu T ?_
 refine AO.val rfl rfl (callV_ok rfl rfl rfl rfl (spec_tmMean_ok fuel _ _ (hx10)) rfl) ?_
 iterate 5 refine AO.pu T ?_
 refine AO.nil ?_
 refine AW.le (Le.ct 0 0 (σ' := (⟨[(1, factor), (2, parts), (3, mode), (10, x9.1), (11, x9.2)], [], 43, []⟩ : St))) ?_
 refine AW.seq ?_
 obtain ⟨x11, hx12, hH⟩ := bindE hH
 refine AW.region ?_
 iterate 2 refine AO.pu T ?_
 refine AO.val rfl rfl (arw_ok rfl rfl rfl rfl) ?_
 iterate 2 refine AO.pu T ?_
 refine AO.val rfl rfl (arw_ok rfl rfl rfl rfl) ?_
 refine AO.pu T ?_
 refine AO.val rfl rfl (callV_ok rfl rfl rfl rfl (spec_poMode_ok _ _ _ _ (hx12)) rfl) ?_
 iterate 2 refine AO.pu T ?_
 refine AO.nil (AW.ret ?_)
 cases someE hH
 exact retQ.i [] rfl (.t (expLG_cons (.c .v) (expLG_cons (.c .v) (expLG_nil))))

def spec_l1Cur_judge_p (c : L1Cur) (l : List Int) : Option (L1Cur × Int) :=
  (spec_l1Cur_pick_p c 16).bind fun x1 =>
  (need (15 != 0)).bind fun u3 =>
  (spec_l1Cur_pick_p (L1Cur.mk x1.1.code x1.1.at' x1.1.seed) (w64 ((l.length : Int) + (w64 (x1.2.tdiv 15))))).bind fun x5 =>
  (spec_l1Cur_pick_p (L1Cur.mk x5.1.code x5.1.at' x5.1.seed) 24).bind fun x7 =>
  (need (23 != 0)).bind fun u9 =>
  some ((L1Cur.mk x7.1.code x7.1.at' x7.1.seed), w64 (x5.2 - (w64 (x7.2.tdiv 23))))
theorem spec_l1Cur_judge_ok (c : L1Cur) (l : List Int) (r : (L1Cur × Int)) (hH : spec_l1Cur_judge_p c l = some r) : SpecM Try.prog 86 [.pw (encL1Cur c), .s (List.map encInt l)] [.pw (encL1Cur r.1), .u] (.v (.int .i64 r.2)) := by
 refine fn_okM T Try.func86 rfl (by decide) rfl rfl ?_
 intro L
 show AW _ _ _ (⟨[(0, .p 1 0), (1, .s (List.map encInt l))], [(1, .box [.s (List.map encInt_u8 c.code), c.at', .v (.int .u64 c.seed)])], 17, [(1, L 1)]⟩ : St)
 refine AW.seq (AW.region ?_)
 refine AO.pu T ?_
 refine AO.nil (AW.seq ?_)
 obtain ⟨x1, hx2, hH⟩ := bindE hH
 obtain ⟨u3, hx4, hH⟩ := bindE hH
 obtain ⟨x5, hx6, hH⟩ := bindE hH
 obtain ⟨x7, hx8, hH⟩ := bindE hH
 obtain ⟨u9, hx10, hH⟩ := bindE hH
 refine AW.region ?_
 iterate 2 refine AO.pu T ?_
 refine AO.val rfl rfl (len_map_ok T rfl rfl rfl) ?_
 refine AO.pu T ?_
 refine AO.step rfl (callM_ok rfl 2 rfl rfl (es := [.pw (encL1Cur c), .v (.int .i64 16)]) (outs := [.pw (encL1Cur x1.1), .u]) (ids := [1]) (by exact expLG_cons (.c (.box rfl rfl)) (expLG_cons (.c .v) (expLG_nil))) (by decide) (.inl (by rfl)) (by rfl) (spec_l1Cur_pick_ok _ _ _ (hx2)) rfl (by rfl) rfl) ?_
 refine AO.val rfl rfl (quow_ok rfl rfl rfl (neZ (needT (hx4)))) ?_
 refine AO.val rfl rfl (arw_ok rfl rfl rfl rfl) ?_
 refine AO.step rfl (callM_ok rfl 2 rfl rfl (es := [.pw (encL1Cur (L1Cur.mk x1.1.code x1.1.at' x1.1.seed)), .v (.int .i64 (w64 ((l.length : Int) + (w64 (x1.2.tdiv 15)))))]) (outs := [.pw (encL1Cur x5.1), .u]) (ids := [1]) (by exact expLG_cons (.c (.box rfl rfl)) (expLG_cons (.c .v) (expLG_nil))) (by decide) (.inl (by rfl)) (by rfl) (spec_l1Cur_pick_ok _ _ _ (hx6)) rfl (by rfl) rfl) ?_
 refine AO.pu T ?_
 refine AO.step rfl (callM_ok rfl 2 rfl rfl (es := [.pw (encL1Cur (L1Cur.mk x5.1.code x5.1.at' x5.1.seed)), .v (.int .i64 24)]) (outs := [.pw (encL1Cur x7.1), .u]) (ids := [1]) (by exact expLG_cons (.c (.box rfl rfl)) (expLG_cons (.c .v) (expLG_nil))) (by decide) (.inl (by rfl)) (by rfl) (spec_l1Cur_pick_ok _ _ _ (hx8)) rfl (by rfl) rfl) ?_
 refine AO.val rfl rfl (quow_ok rfl rfl rfl (neZ (needT (hx10)))) ?_
 refine AO.val rfl rfl (arw_ok rfl rfl rfl rfl) ?_
 refine AO.pu T ?_
 refine AO.nil (AW.ret ?_)
 cases someE hH
 exact ⟨trivial, rfl, _, [], [1], rfl, expLG_cons (.c (.box rfl rfl)) (expLG_cons (.c .u) (expLG_nil)), .c (.c .v), by decide⟩

def spec_DrawOrderOf_p (fuel : Nat) (code : List Int) : Option ((List Int) × Int) :=
  (spec_l1Cur_marksOf_p fuel (L1Cur.mk code 0 0)).bind fun x1 =>
  (spec_l1Cur_judge_p (L1Cur.mk x1.1.code x1.1.at' x1.1.seed) x1.2).bind fun x3 =>
  some (x1.2, x3.2)
theorem spec_DrawOrderOf_ok (fuel : Nat) (code : List Int) (r : ((List Int) × Int)) (hH : spec_DrawOrderOf_p fuel code = some r) : SpecR Try.prog 52 [.s (List.map encInt_u8 code)] (.t [.s (r.1.map encInt), .v (.int .i64 r.2)]) := by
 refine fn_ok T Try.func52 rfl (by decide) rfl ?_
 refine AW.seq (AW.region ?_)
 iterate 2 refine AO.pu T ?_
 refine AO.nil (AW.seq ?_)
 refine AW.region ?_
 refine AO.pu T ?_
 refine AO.pu T (d := .g [.s (List.map encInt_u8 code), (0 : Int), .v (.int .u64 0)]) ?_
 refine AO.step rfl (box_ok T rfl 1 rfl rfl rfl rfl) ?_
 refine AO.pu T ?_
 refine AO.nil (AW.seq ?_)
 obtain ⟨x1, hx2, hH⟩ := bindE hH
 refine AW.region ?_
 refine AO.pu T ?_
 refine AO.step rfl (callM_ok rfl 2 rfl rfl (es := [.pw (encL1Cur (L1Cur.mk code 0 0))]) (outs := [.pw (encL1Cur x1.1)]) (ids := [1]) (by exact expLG_cons (.c (.box rfl rfl)) (expLG_nil)) (by decide) (.inl (by rfl)) (by rfl) (spec_l1Cur_marksOf_ok fuel _ _ (hx2)) rfl (by rfl) rfl) ?_
 refine AO.pu T ?_
 refine AO.nil (AW.seq ?_)
 obtain ⟨x3, hx4, hH⟩ := bindE hH
 refine AW.le (Le.freezeM 2 (g := encInt) rfl (fun y => .vs rfl)) ?_
 refine AW.region ?_
 iterate 3 refine AO.pu T ?_
 refine AO.step rfl (callM_ok rfl 3 rfl rfl (es := [.pw (encL1Cur (L1Cur.mk x1.1.code x1.1.at' x1.1.seed)), .s (x1.2.map encInt)]) (outs := [.pw (encL1Cur x3.1), .u]) (ids := [1]) (by exact expLG_cons (.c (.box rfl rfl)) (expLG_cons (.c .s) (expLG_nil))) (by decide) (.inl (by rfl)) (by rfl) (spec_l1Cur_judge_ok _ _ _ (hx4)) rfl (by rfl) rfl) ?_
 iterate 2 refine AO.pu T ?_
 refine AO.nil (AW.ret ?_)
 cases someE hH
 exact retQ.i [] rfl (.t (expLG_cons (.c .s) (expLG_cons (.c .v) (expLG_nil))))

def spec_tmHas_p (l : List Int) (k : Int) : Option Bool :=
  (spec_tmGood_p l).bind fun x1 =>
  (opt x1 default (spec_l1In_p k 0 (w64 ((l.length : Int) - 1)))).bind fun x3 =>
  some (x1 && x3)
theorem spec_tmHas_ok (l : List Int) (k : Int) (r : Bool) (hH : spec_tmHas_p l k = some r) : SpecR Try.prog 98 [.s (List.map encInt l), k] (.v (.bool r)) := by
 refine fn_ok T Try.func98 rfl (by decide) rfl ?_
 refine AW.seq (AW.region ?_)
 refine AO.pu T ?_
 refine AO.nil (AW.seq ?_)
 obtain ⟨x1, hx2, hH⟩ := bindE hH
 obtain ⟨x3, hx4, hH⟩ := bindE hH
 refine AW.region ?_
 refine AO.pu T ?_
 refine AO.val rfl rfl (callV_ok rfl rfl rfl rfl (spec_tmGood_ok _ _ (hx2)) rfl) ?_
 refine AO.pu T ?_
 iterate 2 refine AO.pureG T [] rfl trivial rfl rfl ?_
 refine AO.guard [9] rfl ⟨fun h => h, trivial⟩ (fun hg => len_map_ok T rfl rfl rfl) rfl ?_
 refine AO.guard [10] rfl ⟨fun h => h, trivial⟩ (fun hg => arw_ok rfl rfl rfl rfl) rfl ?_
 refine AO.guard [8, 11] rfl ⟨fun h => h, fun h => h, trivial⟩ (fun hg => callV_ok rfl rfl rfl rfl (spec_l1In_ok _ _ _ _ (optT hx4 hg)) rfl) rfl ?_
 refine AO.val rfl rfl (pick_and rfl rfl rfl rfl) ?_
 refine AO.pu T ?_
 refine AO.nil (AW.ret ?_)
 cases someE hH
 exact retQ.i [] rfl (.c (.c .v))

def spec_OrderOf_p (fuel : Nat) (l : List Int) (k : Int) : Option (Int × Bool) :=
  (spec_tmHas_p l k).bind fun x1 =>
  cond (!x1)
    (some (0, false))
    ((spec_tmOrder_p fuel l).bind fun x3 =>
    (getI x3 k).bind fun x5 =>
    some (x5, true))
theorem spec_OrderOf_ok (fuel : Nat) (l : List Int) (k : Int) (r : (Int × Bool)) (hH : spec_OrderOf_p fuel l k = some r) : SpecR Try.prog 53 [.s (List.map encInt l), k] (.t [.v (.int .i64 r.1), .v (.bool r.2)]) := by
 refine fn_ok T Try.func53 rfl (by decide) rfl ?_
 refine AW.seq (AW.region ?_)
 iterate 2 refine AO.pu T ?_
 refine AO.nil ?_
 iterate 2 refine AW.seq ?_
 obtain ⟨x1, hx2, hH⟩ := bindE hH
 refine AW.region ?_
 iterate 2 refine AO.pu T ?_
 refine AO.val rfl rfl (callV_ok rfl rfl rfl rfl (spec_tmHas_ok _ _ _ (hx2)) rfl) ?_
 refine AO.pu T ?_
 refine AO.nil ?_
 refine AW.cond (b := (!x1)) rfl (fun hc => ?_) (fun hc => ?_)
 replace hH := condT hc hH
 refine AW.seq (AW.region ?_)
 iterate 2 refine AO.pu T ?_
 refine AO.nil (AW.ret ?_)
 cases someE hH
 exact retQ.i [] rfl (.t (expLG_cons (.c .v) (expLG_cons (.c .v) (expLG_nil))))
 replace hH := condF hc hH
 refine AW.skip ?_
 refine AW.seq ?_
 obtain ⟨x3, hx4, hH⟩ := bindE hH
 obtain ⟨x5, hx6, hH⟩ := bindE hH
 refine AW.region ?_
 refine AO.pu T ?_
 refine AO.step rfl (call_ok rfl 1 rfl rfl rfl (spec_tmOrder_ok fuel _ _ (hx4)) rfl rfl rfl) ?_
 refine AO.pu T ?_
 refine AO.val rfl rfl (ix_row_ok T rfl rfl rfl rfl rfl rfl (hx6)) ?_
 refine AO.val rfl rfl (load_row_ok T rfl rfl rfl rfl (getI_get (hx6)) rfl rfl rfl) ?_
 iterate 2 refine AO.pu T ?_
 refine AO.nil (AW.ret ?_)
 cases someE hH
 exact retQ.i [] rfl (.t (expLG_cons (.c .v) (expLG_cons (.c .v) (expLG_nil))))

def slices_Delete_int_p (x : List Int) (i : Int) (j : Int) : Option (List Int) := (need (decide (0 ≤ i) && decide (i ≤ j) && decide (j ≤ (x.length : Int)) && decide (0 < x.length))).bind fun _ => some (x.take i.toNat ++ x.drop j.toNat)
theorem slices_Delete_int_ok (x : List Int) (i : Int) (j : Int) (r : List Int) (hH : slices_Delete_int_p x i j = some r) : SpecM Try.prog 110 [.w 1 (x.map encInt), .v (.int .i64 i), .v (.int .i64 j)] [.u, .u, .u] (.w 1 (r.map encInt)) := by
  obtain ⟨u, hu, hr⟩ := bindE hH
  cases someE hr
  exact spec_deleteJ ⟨_, Try.func110, rfl, by decide⟩ Try.slices_Delete_int x i j (needT hu)

def impl_WithoutMark_p (l : List Int) (k : Int) : Option ((List Int) × Bool) :=
  (impl_isMarkOf_p l k).bind fun x1 =>
  cond ((!x1) || ((l.length : Int) == 1))
    (some ([], false))
    ((impl_copyInts_p l).bind fun x3 =>
    (slices_Delete_int_p x3 k (w64 (k + 1))).bind fun x5 =>
    some (x5, true))
theorem impl_WithoutMark_ok (l : List Int) (k : Int) (r : ((List Int) × Bool)) (hH : impl_WithoutMark_p l k = some r) : SpecR Try.prog 54 [.s (List.map encInt l), k] (.t [.w 1 (r.1.map encInt), .v (.bool r.2)]) := by
 refine fn_ok T Try.func54 rfl (by decide) rfl ?_
 refine AW.seq (AW.region ?_)
 iterate 2 refine AO.pu T ?_
 refine AO.nil ?_
 iterate 2 refine AW.seq ?_
 obtain ⟨x1, hx2, hH⟩ := bindE hH
 refine AW.region ?_
 iterate 2 refine AO.pu T ?_
 refine AO.val rfl rfl (callV_ok rfl rfl rfl rfl (impl_isMarkOf_ok _ _ _ (hx2)) rfl) ?_
 iterate 2 refine AO.pu T ?_
 refine AO.pureG T [] rfl trivial rfl rfl ?_
 refine AO.guard [11] rfl ⟨fun h => h, trivial⟩ (fun hg => len_map_ok T rfl rfl rfl) rfl ?_
 refine AO.pureG T [12] rfl ⟨fun h => h, trivial⟩ rfl rfl ?_
 refine AO.val rfl rfl (pick_or rfl rfl rfl rfl) ?_
 refine AO.nil ?_
 refine AW.cond (b := ((!x1) || ((l.length : Int) == 1))) rfl (fun hc => ?_) (fun hc => ?_)
 replace hH := condT hc hH
 refine AW.seq (AW.region ?_)
 iterate 2 refine AO.pu T ?_
 refine AO.nil (AW.ret ?_)
 cases someE hH
 exact retQ.i [] rfl (.t (expLG_cons (.c .nil) (expLG_cons (.c .v) (expLG_nil))))
 replace hH := condF hc hH
 refine AW.skip ?_
 refine AW.seq ?_
 obtain ⟨x3, hx4, hH⟩ := bindE hH
 obtain ⟨x5, hx6, hH⟩ := bindE hH
 refine AW.region ?_
 refine AO.pu T ?_
 refine AO.step rfl (call_ok rfl 1 rfl rfl rfl (impl_copyInts_ok _ _ (hx4)) rfl rfl rfl) ?_
 iterate 2 refine AO.pu T ?_
 refine AO.val rfl rfl (arw_ok rfl rfl rfl rfl) ?_
 refine AO.step rfl (callM_ok rfl 2 rfl rfl (es := [.w 1 (x3.map encInt), .v (.int .i64 k), .v (.int .i64 (w64 (k + 1)))]) (outs := [.u, .u, .u]) (ids := [1]) (by exact expLG_cons (.c (.rowR rfl)) (expLG_cons (.c .v) (expLG_cons (.c .v) (expLG_nil)))) (by decide) (.inr (by exact (show ([] : List Nat).Nodup ∧ ∀ i ∈ ([] : List Nat), i ∈ ([1] : List Nat) from by decide))) (by rfl) (slices_Delete_int_ok _ _ _ _ (hx6)) rfl (by rfl) rfl) ?_
 iterate 2 refine AO.pu T ?_
 refine AO.nil (AW.ret ?_)
 cases someE hH
 exact retQ.i [2] rfl (.t (expLG_cons (.c (.rowR rfl)) (expLG_cons (.c .v) (expLG_nil))))

def spec_l1Own_p (l : List Int) : Option (List Int) :=
  (need (fitsB 8 l.length)).bind fun u1 =>
  some l
theorem spec_l1Own_ok (l : List Int) (r : (List Int)) (hH : spec_l1Own_p l = some r) : SpecR Try.prog 112 [.s (List.map encInt l)] (.w 1 (r.map encInt)) := by
 refine fn_ok T Try.func112 rfl (by decide) rfl ?_
 refine AW.seq (AW.region ?_)
 refine AO.pu T ?_
 refine AO.nil (AW.seq ?_)
 obtain ⟨u1, hx2, hH⟩ := bindE hH
 refine AW.region ?_
 refine AO.step rfl (mk0_ok T rfl rfl rfl rfl) ?_
 refine AO.pu T ?_
 refine AO.step rfl (app_ws_map T rfl 1 rfl rfl rfl rfl rfl (by decide) (by decide) rfl rfl (fun _ => rfl) (needT (hx2)) rfl rfl) ?_
 refine AO.pu T ?_
 refine AO.nil (AW.ret ?_)
 cases someE hH
 exact retQ.i [1] rfl (.c (.c (.rowR rfl)))

def spec_WithoutMark_p (l : List Int) (k : Int) : Option ((List Int) × Bool) :=
  (spec_tmHas_p l k).bind fun x1 =>
  cond ((!x1) || ((l.length : Int) == 1))
    (some ([], false))
    ((sliceHi l k).bind fun x3 =>
    (spec_l1Own_p x3).bind fun x5 =>
    (sliceLo l (w64 (k + 1))).bind fun x7 =>
    (need (fitsB 8 (x5.length + x7.length))).bind fun u9 =>
    some ((x5 ++ x7), true))
theorem spec_WithoutMark_ok (l : List Int) (k : Int) (r : ((List Int) × Bool)) (hH : spec_WithoutMark_p l k = some r) : SpecR Try.prog 55 [.s (List.map encInt l), k] (.t [.w 1 (r.1.map encInt), .v (.bool r.2)]) := by
 refine fn_ok T Try.func55 rfl (by decide) rfl ?_
 refine AW.seq (AW.region ?_)
 iterate 2 refine AO.pu T ?_
 refine AO.nil ?_
 iterate 2 refine AW.seq ?_
 obtain ⟨x1, hx2, hH⟩ := bindE hH
 refine AW.region ?_
 iterate 2 refine AO.pu T ?_
 refine AO.val rfl rfl (callV_ok rfl rfl rfl rfl (spec_tmHas_ok _ _ _ (hx2)) rfl) ?_
 iterate 2 refine AO.pu T ?_
 refine AO.pureG T [] rfl trivial rfl rfl ?_
 refine AO.guard [11] rfl ⟨fun h => h, trivial⟩ (fun hg => len_map_ok T rfl rfl rfl) rfl ?_
 refine AO.pureG T [12] rfl ⟨fun h => h, trivial⟩ rfl rfl ?_
 refine AO.val rfl rfl (pick_or rfl rfl rfl rfl) ?_
 refine AO.nil ?_
 refine AW.cond (b := ((!x1) || ((l.length : Int) == 1))) rfl (fun hc => ?_) (fun hc => ?_)
 replace hH := condT hc hH
 refine AW.seq (AW.region ?_)
 iterate 2 refine AO.pu T ?_
 refine AO.nil (AW.ret ?_)
 cases someE hH
 exact retQ.i [] rfl (.t (expLG_cons (.c .nil) (expLG_cons (.c .v) (expLG_nil))))
 replace hH := condF hc hH
 refine AW.skip ?_
 refine AW.seq ?_
 obtain ⟨x3, hx4, hH⟩ := bindE hH
 obtain ⟨x5, hx6, hH⟩ := bindE hH
 obtain ⟨x7, hx8, hH⟩ := bindE hH
 obtain ⟨u9, hx10, hH⟩ := bindE hH
 refine AW.drawn 8 1 [] mix (by kernel_rfl) rfl ?_
 iterate 2 refine AD.pure T rfl rfl rfl ?_
 refine AD.val rfl rfl (slice_hi_map_ok T rfl rfl rfl rfl rfl (hx4) (fun _ => rfl)) ?_
 refine AD.q (FStep.call rfl rfl rfl rfl rfl (spec_l1Own_ok _ _ (hx6)) rfl rfl) (impT_names _ _) (impT_le _ _) rfl ?_
 iterate 2 refine AD.pure T rfl rfl rfl ?_
 refine AD.val rfl rfl (arw_ok rfl rfl rfl rfl) ?_
 refine AD.val rfl rfl (slice_lo_map_ok T rfl rfl rfl rfl rfl (hx8) (fun _ => rfl)) ?_
 refine AD.nil ?_
 refine AO.step rfl (app_rs_map T rfl 2 rfl rfl rfl rfl rfl (by decide) (by decide) rfl rfl rfl (fun _ => rfl) (needT (hx10)) rfl rfl) ?_
 iterate 2 refine AO.pu T ?_
 refine AO.nil (AW.ret ?_)
 cases someE hH
 exact retQ.i [2] rfl (.t (expLG_cons (.c (.rowR rfl)) (expLG_cons (.c .v) (expLG_nil))))

def laws_sameInts_l1 (b : List Int) : List Int → Nat → Option Bool
  | [], k1 =>
    some true
  | y2 :: ys3, k1 =>
    (getI b (k1 : Int)).bind fun x12 =>
    cond (y2 != x12)
      (some false)
      (laws_sameInts_l1 b ys3 (k1 + 1))
def laws_sameInts_p (a : List Int) (b : List Int) : Option Bool :=
  cond ((a.length : Int) != (b.length : Int))
    (some false)
    (laws_sameInts_l1 b a 0)
theorem laws_sameInts_ok (a : List Int) (b : List Int) (r : Bool) (hH : laws_sameInts_p a b = some r) : SpecR Try.prog 34 [.s (List.map encInt a), .s (List.map encInt b)] (.v (.bool r)) := by
 refine fn_ok T Try.func34 rfl (by decide) rfl ?_
 refine AW.seq (AW.region ?_)
 refine AO.pu T ?_
 refine AO.nil ?_
 iterate 2 refine AW.seq ?_
 refine AW.region ?_
 refine AO.pu T ?_
 refine AO.val rfl rfl (len_map_ok T rfl rfl rfl) ?_
 refine AO.pu T ?_
 refine AO.val rfl rfl (len_map_ok T rfl rfl rfl) ?_
 refine AO.pu T ?_
 refine AO.nil ?_
 refine AW.cond (b := ((a.length : Int) != (b.length : Int))) rfl (fun hc => ?_) (fun hc => ?_)
 replace hH := condT hc hH
 refine AW.seq (AW.region ?_)
 refine AO.pu T ?_
 refine AO.nil (AW.ret ?_)
 cases someE hH
 exact retQ.i [] rfl (.c (.c .v))
 replace hH := condF hc hH
 refine AW.skip ?_
 iterate 2 refine AW.seq ?_
 refine AW.region ?_
 refine AO.pu T ?_
 refine AO.val rfl rfl (len_map_ok T rfl rfl rfl) ?_
 refine AO.pu T ?_
 refine AO.nil ?_
 refine AW.block ?_
 refine AW.loopS (fun s : Nat => (⟨[(0, .s (List.map encInt a)), (1, .s (List.map encInt b)), (12, (a.length : Int)), (13, (s : Int))], [], 26, []⟩ : St)) (fun s => s ≤ a.length ∧ laws_sameInts_l1 b (a.drop s) s = some r) (fun s => a.length - s) 0 ⟨Nat.zero_le _, hH⟩ ?_ ?_
 exact Le.ct 0 0
 rintro k1 ⟨hk, hH⟩
 replace hH : laws_sameInts_l1 b (a.drop k1) k1 = some r := hH
 try dsimp only
 refine AW.boundM (t := 0) (l := a) rfl (fun hb5 => ?_)
 rcases hd4 : a.drop k1 with _ | ⟨y2, ys3⟩
 rw [hd4, laws_sameInts_l1] at hH
 have hlt6 := drop_ge hd4
 refine AW.seq (AW.region ?_)
 refine AO.pu T ?_
 refine AO.nil (AW.seq ?_)
 refine AW.condF' (b := decide ((k1 : Int) < (a.length : Int))) rfl (rngF hlt6) ?_
 refine AW.exit ?_
 refine AW.seq (AW.region ?_)
 refine AO.pu T ?_
 refine AO.nil (AW.ret ?_)
 cases someE hH
 exact retQ.i [] rfl (.c (.c .v))
 rw [hd4, laws_sameInts_l1] at hH
 have hlt6 := drop_lt hd4
 refine AW.seq (AW.region ?_)
 refine AO.pu T ?_
 refine AO.nil (AW.seq ?_)
 refine AW.condT' (b := decide ((k1 : Int) < (a.length : Int))) rfl (rngT hlt6) ?_
 refine AW.skip ?_
 refine AW.seq ?_
 refine AW.block ?_
 refine AW.seq (AW.region ?_)
 iterate 2 refine AO.pu T ?_
 refine AO.nil (AW.seq ?_)
 obtain ⟨x12, hx13, hH⟩ := bindE hH
 refine AW.drawn 8 1 [] mix (by kernel_rfl) rfl ?_
 iterate 2 refine AD.pure T rfl rfl rfl ?_
 refine AD.val rfl rfl (ix_map_ok T rfl rfl rfl rfl rfl (getI_drop hd4) rfl) ?_
 iterate 3 refine AD.pure T rfl rfl rfl ?_
 refine AD.val rfl rfl (ix_map_ok T rfl rfl rfl rfl rfl (hx13) rfl) ?_
 refine AD.pure T rfl rfl rfl ?_
 refine AD.nil ?_
 refine AO.pu T ?_
 refine AO.nil ?_
 refine AW.cond (b := (y2 != x12)) rfl (fun hc => ?_) (fun hc => ?_)
 replace hH := condT hc hH
 refine AW.seq (AW.region ?_)
 refine AO.pu T ?_
 refine AO.nil (AW.ret ?_)
 cases someE hH
 exact retQ.i [] rfl (.c (.c .v))
 replace hH := condF hc hH
 refine AW.skip ?_
 refine AW.region ?_
 refine AO.val rfl rfl (ar_ok rfl rfl rfl rfl (inI_succ hlt6 hb5)) ?_
 refine AO.pu T ?_
 refine AO.nil ?_
 refine ⟨k1 + 1, ⟨Nat.succ_le_of_lt hlt6, (by rw [drop_succ_of hd4]; exact hH)⟩, (by have := hlt6; dsimp only; omega), ?_⟩
 exact Le.ct 0 0

def laws_pSum_l1 : List Int → Nat → Int → Option Int
  | [], k1, v8 =>
    some v8
  | y2 :: ys3, k1, v8 =>
    laws_pSum_l1 ys3 (k1 + 1) (w64 (v8 + y2))
def laws_pSum_p (l : List Int) : Option Int :=
  laws_pSum_l1 l 0 0
theorem laws_pSum_ok (l : List Int) (r : Int) (hH : laws_pSum_p l = some r) : SpecR Try.prog 56 [.s (List.map encInt l)] (.v (.int .i64 r)) := by
 refine fn_ok T Try.func56 rfl (by decide) rfl ?_
 refine AW.seq (AW.region ?_)
 refine AO.pu T ?_
 refine AO.nil (AW.seq ?_)
 refine AW.region ?_
 refine AO.pu T ?_
 refine AO.nil ?_
 iterate 2 refine AW.seq ?_
 refine AW.region ?_
 refine AO.pu T ?_
 refine AO.val rfl rfl (len_map_ok T rfl rfl rfl) ?_
 refine AO.pu T ?_
 refine AO.nil ?_
 refine AW.block ?_
 refine AW.loopS (fun s : Nat × Int => (⟨[(3, s.2), (6, .s (List.map encInt l)), (7, (l.length : Int)), (8, (s.1 : Int))], [], 17, []⟩ : St)) (fun s => s.1 ≤ l.length ∧ laws_pSum_l1 (l.drop s.1) s.1 s.2 = some r) (fun s => l.length - s.1) (0, 0) ⟨Nat.zero_le _, hH⟩ ?_ ?_
 exact Le.ct 0 0
 rintro ⟨k1, v8⟩ ⟨hk, hH⟩
 replace hH : laws_pSum_l1 (l.drop k1) k1 v8 = some r := hH
 try dsimp only
 refine AW.boundM (t := 6) (l := l) rfl (fun hb5 => ?_)
 rcases hd4 : l.drop k1 with _ | ⟨y2, ys3⟩
 rw [hd4, laws_pSum_l1] at hH
 have hlt6 := drop_ge hd4
 refine AW.seq (AW.region ?_)
 refine AO.pu T ?_
 refine AO.nil (AW.seq ?_)
 refine AW.condF' (b := decide ((k1 : Int) < (l.length : Int))) rfl (rngF hlt6) ?_
 refine AW.exit ?_
 refine AW.seq (AW.region ?_)
 iterate 2 refine AO.pu T ?_
 refine AO.nil (AW.ret ?_)
 cases someE hH
 exact retQ.i [] rfl (.c (.c .v))
 rw [hd4, laws_pSum_l1] at hH
 have hlt6 := drop_lt hd4
 refine AW.seq (AW.region ?_)
 refine AO.pu T ?_
 refine AO.nil (AW.seq ?_)
 refine AW.condT' (b := decide ((k1 : Int) < (l.length : Int))) rfl (rngT hlt6) ?_
 refine AW.skip ?_
 refine AW.seq ?_
 refine AW.block ?_
 refine AW.seq (AW.region ?_)
 refine AO.val rfl rfl (ix_map_ok T rfl rfl rfl rfl rfl (getI_drop hd4) rfl) ?_
 iterate 2 refine AO.pu T ?_
 refine AO.nil ?_
 refine AW.region ?_
 iterate 2 refine AO.pu T ?_
 refine AO.val rfl rfl (arw_ok rfl rfl rfl rfl) ?_
 refine AO.pu T ?_
 refine AO.nil ?_
 refine AW.region ?_
 refine AO.val rfl rfl (ar_ok rfl rfl rfl rfl (inI_succ hlt6 hb5)) ?_
 refine AO.pu T ?_
 refine AO.nil ?_
 refine ⟨(k1 + 1, w64 (v8 + y2)), ⟨Nat.succ_le_of_lt hlt6, (by rw [drop_succ_of hd4]; exact hH)⟩, (by have := hlt6; dsimp only; omega), ?_⟩
 exact Le.ct 0 0

def laws_FnTrims_l1 (more : List Int) (fuel : Nat) (x3 : (List Int)) (x7 : (Int × Int × Bool)) (x11 : (Int × Int × Bool)) (x15 : (Int × Int × Bool)) : List Int → Nat → Int → Option Bool
  | [], k19, v34 =>
    (impl_OrderOf_p x3 0).bind fun x36 =>
    cond ((((((!x36.2) || decide (x7.1 < (w64 (x36.1 * x7.2.1)))) || decide (x7.1 > (w64 (v34 * x7.2.1)))) || decide (x15.1 < (w64 (x36.1 * x15.2.1)))) || decide (x15.1 > (w64 (v34 * x15.2.1)))) || ((w64 (x7.1 * x11.2.1)) != (w64 (x11.1 * x7.2.1))))
      (some false)
      ((spec_DrawTrimmedPoints_p fuel more).bind fun x38 =>
      (impl_TrimmedPoints_p fuel x38.1 x38.2.1 x38.2.2.1 x38.2.2.2).bind fun x40 =>
      (spec_TrimmedPoints_p fuel x38.1 x38.2.1 x38.2.2.1 x38.2.2.2).bind fun x42 =>
      (spec_DrawOrderOf_p fuel more).bind fun x44 =>
      (impl_OrderOf_p x44.1 x44.2).bind fun x46 =>
      (spec_OrderOf_p fuel x44.1 x44.2).bind fun x48 =>
      (impl_WithoutMark_p x44.1 x44.2).bind fun x50 =>
      (spec_WithoutMark_p x44.1 x44.2).bind fun x52 =>
      (opt (((((x40.2 == x42.2) && (x40.1 == x42.1)) && (x46.2 == x48.2)) && (x46.1 == x48.1)) && (x50.2 == x52.2)) default (laws_sameInts_p x50.1 x52.1)).bind fun x54 =>
      (opt ((((((((x40.2 == x42.2) && (x40.1 == x42.1)) && (x46.2 == x48.2)) && (x46.1 == x48.1)) && (x50.2 == x52.2)) && x54) && (!(!x50.2))) && ((x52.1.length : Int) == (w64 ((x44.1.length : Int) - 1)))) default (laws_pSum_p x52.1)).bind fun x56 =>
      (opt ((((((((x40.2 == x42.2) && (x40.1 == x42.1)) && (x46.2 == x48.2)) && (x46.1 == x48.1)) && (x50.2 == x52.2)) && x54) && (!(!x50.2))) && ((x52.1.length : Int) == (w64 ((x44.1.length : Int) - 1)))) default (getI x44.1 x44.2)).bind fun x58 =>
      (opt ((((((((x40.2 == x42.2) && (x40.1 == x42.1)) && (x46.2 == x48.2)) && (x46.1 == x48.1)) && (x50.2 == x52.2)) && x54) && (!(!x50.2))) && ((x52.1.length : Int) == (w64 ((x44.1.length : Int) - 1)))) default (laws_pSum_p x44.1)).bind fun x60 =>
      some (((((((x40.2 == x42.2) && (x40.1 == x42.1)) && (x46.2 == x48.2)) && (x46.1 == x48.1)) && (x50.2 == x52.2)) && x54) && ((!x50.2) || (((x52.1.length : Int) == (w64 ((x44.1.length : Int) - 1))) && ((w64 (x56 + x58)) == x60)))))
  | y20 :: ys21, k19, v34 =>
    (impl_OrderOf_p x3 (k19 : Int)).bind fun x62 =>
    (opt (!((!x62.2) || decide (x62.1 < v34))) default (laws_pIn_p x3 x62.1)).bind fun x64 =>
    cond (((!x62.2) || decide (x62.1 < v34)) || (!x64))
      (some false)
      (laws_FnTrims_l1 more fuel x3 x7 x11 x15 ys21 (k19 + 1) x62.1)
def laws_FnTrims_p (fuel : Nat) (code : List Int) (more : List Int) : Option Bool :=
  (laws_big_p code more).bind fun x1 =>
  cond x1
    (some true)
    ((spec_DrawTrimmedMean_p fuel code).bind fun x3 =>
    (impl_TrimmedMean_p fuel x3).bind fun x5 =>
    (spec_TrimmedMean_p fuel x3).bind fun x7 =>
    (impl_TrimmedSum_p fuel x3).bind fun x9 =>
    (spec_TrimmedSum_p fuel x3).bind fun x11 =>
    (impl_MiddleOf_p fuel x3).bind fun x13 =>
    (spec_MiddleOf_p fuel x3).bind fun x15 =>
    (opt (!(((((((((!(x5.2.2 == x7.2.2)) || (x5.1 != x7.1)) || (x5.2.1 != x7.2.1)) || (!(x9.2.2 == x11.2.2))) || (x9.1 != x11.1)) || (x9.2.1 != x11.2.1)) || (!(x13.2.2 == x15.2.2))) || (x13.1 != x15.1)) || (x13.2.1 != x15.2.1))) default (impl_AreMarksOf_p x3)).bind fun x17 =>
    cond ((((((((((!(x5.2.2 == x7.2.2)) || (x5.1 != x7.1)) || (x5.2.1 != x7.2.1)) || (!(x9.2.2 == x11.2.2))) || (x9.1 != x11.1)) || (x9.2.1 != x11.2.1)) || (!(x13.2.2 == x15.2.2))) || (x13.1 != x15.1)) || (x13.2.1 != x15.2.1)) || (!(x17 == x5.2.2)))
      (some false)
      (cond x5.2.2
        (laws_FnTrims_l1 more fuel x3 x7 x11 x15 x3 0 (-2000))
        ((spec_DrawTrimmedPoints_p fuel more).bind fun x66 =>
        (impl_TrimmedPoints_p fuel x66.1 x66.2.1 x66.2.2.1 x66.2.2.2).bind fun x68 =>
        (spec_TrimmedPoints_p fuel x66.1 x66.2.1 x66.2.2.1 x66.2.2.2).bind fun x70 =>
        (spec_DrawOrderOf_p fuel more).bind fun x72 =>
        (impl_OrderOf_p x72.1 x72.2).bind fun x74 =>
        (spec_OrderOf_p fuel x72.1 x72.2).bind fun x76 =>
        (impl_WithoutMark_p x72.1 x72.2).bind fun x78 =>
        (spec_WithoutMark_p x72.1 x72.2).bind fun x80 =>
        (opt (((((x68.2 == x70.2) && (x68.1 == x70.1)) && (x74.2 == x76.2)) && (x74.1 == x76.1)) && (x78.2 == x80.2)) default (laws_sameInts_p x78.1 x80.1)).bind fun x82 =>
        (opt ((((((((x68.2 == x70.2) && (x68.1 == x70.1)) && (x74.2 == x76.2)) && (x74.1 == x76.1)) && (x78.2 == x80.2)) && x82) && (!(!x78.2))) && ((x80.1.length : Int) == (w64 ((x72.1.length : Int) - 1)))) default (laws_pSum_p x80.1)).bind fun x84 =>
        (opt ((((((((x68.2 == x70.2) && (x68.1 == x70.1)) && (x74.2 == x76.2)) && (x74.1 == x76.1)) && (x78.2 == x80.2)) && x82) && (!(!x78.2))) && ((x80.1.length : Int) == (w64 ((x72.1.length : Int) - 1)))) default (getI x72.1 x72.2)).bind fun x86 =>
        (opt ((((((((x68.2 == x70.2) && (x68.1 == x70.1)) && (x74.2 == x76.2)) && (x74.1 == x76.1)) && (x78.2 == x80.2)) && x82) && (!(!x78.2))) && ((x80.1.length : Int) == (w64 ((x72.1.length : Int) - 1)))) default (laws_pSum_p x72.1)).bind fun x88 =>
        some (((((((x68.2 == x70.2) && (x68.1 == x70.1)) && (x74.2 == x76.2)) && (x74.1 == x76.1)) && (x78.2 == x80.2)) && x82) && ((!x78.2) || (((x80.1.length : Int) == (w64 ((x72.1.length : Int) - 1))) && ((w64 (x84 + x86)) == x88)))))))
theorem laws_FnTrims_ok (fuel : Nat) (code : List Int) (more : List Int) (r : Bool) (hH : laws_FnTrims_p fuel code more = some r) : SpecR Try.prog 7 [.s (List.map encInt_u8 code), .s (List.map encInt_u8 more)] (.v (.bool r)) := by
 refine fn_ok T Try.func7 rfl (by decide) rfl ?_
 refine AW.seq (AW.region ?_)
 refine AO.pu T ?_
 refine AO.nil ?_
 iterate 2 refine AW.seq ?_
 obtain ⟨x1, hx2, hH⟩ := bindE hH
 refine AW.region ?_
 iterate 2 refine AO.pu T ?_
 refine AO.val rfl rfl (callV_ok rfl rfl rfl rfl (laws_big_ok _ _ _ (hx2)) rfl) ?_
 refine AO.nil ?_
 refine AW.cond (b := x1) rfl (fun hc => ?_) (fun hc => ?_)
 replace hH := condT hc hH
 refine AW.seq (AW.region ?_)
 refine AO.pu T ?_
 refine AO.nil (AW.ret ?_)
 cases someE hH
 exact retQ.i [] rfl (.c (.c .v))
 replace hH := condF hc hH
 refine AW.skip ?_
 refine AW.seq ?_
 obtain ⟨x3, hx4, hH⟩ := bindE hH
 refine AW.region ?_
 refine AO.pu T ?_
 refine AO.step rfl (call_ok rfl 1 rfl rfl rfl (spec_DrawTrimmedMean_ok fuel _ _ (hx4)) rfl rfl rfl) ?_
 refine AO.pu T ?_
 refine AO.nil (AW.seq ?_)
 obtain ⟨x5, hx6, hH⟩ := bindE hH
 refine AW.region ?_
 refine AO.pu T ?_
 refine AO.val rfl rfl (callLV_ok rfl rfl rfl (es := [.s (List.map encInt x3)]) ⟨(.rowR rfl (.map fun y => .vs rfl)), trivial⟩ (impl_TrimmedMean_ok fuel _ _ (hx6)) (zfree_t (zfl (.cons (zfree_v _) (.cons (zfree_v _) (.cons (zfree_v _) .nil))))) rfl) ?_
 iterate 7 refine AO.pu T ?_
 refine AO.nil (AW.seq ?_)
 obtain ⟨x7, hx8, hH⟩ := bindE hH
 refine AW.region ?_
 refine AO.pu T ?_
 refine AO.val rfl rfl (callLV_ok rfl rfl rfl (es := [.s (List.map encInt x3)]) ⟨(.rowR rfl (.map fun y => .vs rfl)), trivial⟩ (spec_TrimmedMean_ok fuel _ _ (hx8)) (zfree_t (zfl (.cons (zfree_v _) (.cons (zfree_v _) (.cons (zfree_v _) .nil))))) rfl) ?_
 iterate 7 refine AO.pu T ?_
 refine AO.nil ?_
 refine AW.le (Le.ct 0 0 (σ' := (⟨[(1, .s (List.map encInt_u8 more)), (5, .R 1), (6, x5.1), (7, x5.2.1), (8, .v (.bool x5.2.2)), (9, x7.1), (10, x7.2.1), (11, .v (.bool x7.2.2))], [(1, .row 1 (List.map encInt x3))], 313, []⟩ : St))) ?_
 refine AW.seq ?_
 obtain ⟨x9, hx10, hH⟩ := bindE hH
 refine AW.region ?_
 refine AO.pu T ?_
 refine AO.val rfl rfl (callLV_ok rfl rfl rfl (es := [.s (List.map encInt x3)]) ⟨(.rowR rfl (.map fun y => .vs rfl)), trivial⟩ (impl_TrimmedSum_ok fuel _ _ (hx10)) (zfree_t (zfl (.cons (zfree_v _) (.cons (zfree_v _) (.cons (zfree_v _) .nil))))) rfl) ?_
 iterate 7 refine AO.pu T ?_
 refine AO.nil (AW.seq ?_)
 obtain ⟨x11, hx12, hH⟩ := bindE hH
 refine AW.region ?_
 refine AO.pu T ?_
 refine AO.val rfl rfl (callLV_ok rfl rfl rfl (es := [.s (List.map encInt x3)]) ⟨(.rowR rfl (.map fun y => .vs rfl)), trivial⟩ (spec_TrimmedSum_ok fuel _ _ (hx12)) (zfree_t (zfl (.cons (zfree_v _) (.cons (zfree_v _) (.cons (zfree_v _) .nil))))) rfl) ?_
 iterate 7 refine AO.pu T ?_
 refine AO.nil (AW.seq ?_)
 obtain ⟨x13, hx14, hH⟩ := bindE hH
 refine AW.region ?_
 refine AO.pu T ?_
 refine AO.val rfl rfl (callLV_ok rfl rfl rfl (es := [.s (List.map encInt x3)]) ⟨(.rowR rfl (.map fun y => .vs rfl)), trivial⟩ (impl_MiddleOf_ok fuel _ _ (hx14)) (zfree_t (zfl (.cons (zfree_v _) (.cons (zfree_v _) (.cons (zfree_v _) .nil))))) rfl) ?_
 iterate 7 refine AO.pu T ?_
 refine AO.nil ?_
 refine AW.le (Le.ct 0 0 (σ' := (⟨[(1, .s (List.map encInt_u8 more)), (5, .R 1), (6, x5.1), (7, x5.2.1), (8, .v (.bool x5.2.2)), (9, x7.1), (10, x7.2.1), (11, .v (.bool x7.2.2)), (12, x9.1), (13, x9.2.1), (14, .v (.bool x9.2.2)), (15, x11.1), (16, x11.2.1), (17, .v (.bool x11.2.2)), (18, x13.1), (19, x13.2.1), (20, .v (.bool x13.2.2))], [(1, .row 1 (List.map encInt x3))], 313, []⟩ : St))) ?_
 refine AW.seq ?_
 obtain ⟨x15, hx16, hH⟩ := bindE hH
 refine AW.region ?_
 refine AO.pu T ?_
 refine AO.val rfl rfl (callLV_ok rfl rfl rfl (es := [.s (List.map encInt x3)]) ⟨(.rowR rfl (.map fun y => .vs rfl)), trivial⟩ (spec_MiddleOf_ok fuel _ _ (hx16)) (zfree_t (zfl (.cons (zfree_v _) (.cons (zfree_v _) (.cons (zfree_v _) .nil))))) rfl) ?_
 iterate 7 refine AO.pu T ?_
 refine AO.nil ?_
 iterate 2 refine AW.seq ?_
 obtain ⟨x17, hx18, hH⟩ := bindE hH
 refine AW.region ?_
 iterate 4 refine AO.pu T ?_
 iterate 2 refine AO.pureG T [] rfl trivial rfl rfl ?_
 refine AO.pureG T [93, 94] rfl ⟨fun h => h, fun h => h, trivial⟩ rfl rfl ?_
 refine AO.val rfl rfl (pick_or rfl rfl rfl rfl) ?_
 refine AO.pu T ?_
 iterate 2 refine AO.pureG T [] rfl trivial rfl rfl ?_
 refine AO.pureG T [98, 99] rfl ⟨fun h => h, fun h => h, trivial⟩ rfl rfl ?_
 refine AO.val rfl rfl (pick_or rfl rfl rfl rfl) ?_
 refine AO.pu T ?_
 iterate 2 refine AO.pureG T [] rfl trivial rfl rfl ?_
 refine AO.pureG T [103, 104] rfl ⟨fun h => h, fun h => h, trivial⟩ rfl rfl ?_
 refine AO.val rfl rfl (pick_or rfl rfl rfl rfl) ?_
 refine AO.pu T ?_
 iterate 2 refine AO.pureG T [] rfl trivial rfl rfl ?_
 refine AO.pureG T [108, 109] rfl ⟨fun h => h, fun h => h, trivial⟩ rfl rfl ?_
 refine AO.val rfl rfl (pick_or rfl rfl rfl rfl) ?_
 refine AO.pu T ?_
 iterate 2 refine AO.pureG T [] rfl trivial rfl rfl ?_
 refine AO.pureG T [113, 114] rfl ⟨fun h => h, fun h => h, trivial⟩ rfl rfl ?_
 refine AO.val rfl rfl (pick_or rfl rfl rfl rfl) ?_
 refine AO.pu T ?_
 iterate 2 refine AO.pureG T [] rfl trivial rfl rfl ?_
 refine AO.pureG T [118, 119] rfl ⟨fun h => h, fun h => h, trivial⟩ rfl rfl ?_
 refine AO.val rfl rfl (pick_or rfl rfl rfl rfl) ?_
 refine AO.pu T ?_
 iterate 2 refine AO.pureG T [] rfl trivial rfl rfl ?_
 refine AO.pureG T [123, 124] rfl ⟨fun h => h, fun h => h, trivial⟩ rfl rfl ?_
 refine AO.val rfl rfl (pick_or rfl rfl rfl rfl) ?_
 refine AO.pu T ?_
 iterate 2 refine AO.pureG T [] rfl trivial rfl rfl ?_
 refine AO.pureG T [128, 129] rfl ⟨fun h => h, fun h => h, trivial⟩ rfl rfl ?_
 refine AO.val rfl rfl (pick_or rfl rfl rfl rfl) ?_
 refine AO.pu T ?_
 refine AO.pureG T [] rfl trivial rfl rfl ?_
 refine AO.guard [133] rfl ⟨fun h => h, trivial⟩ (fun hg => callLV_ok rfl rfl rfl (es := [.s (List.map encInt x3)]) ⟨(.rowR rfl (.map fun y => .vs rfl)), trivial⟩ (impl_AreMarksOf_ok _ _ (optT hx18 hg)) (zfree_v _) rfl) rfl ?_
 refine AO.pureG T [] rfl trivial rfl rfl ?_
 refine AO.pureG T [134, 135] rfl ⟨fun h => h, fun h => h, trivial⟩ rfl rfl ?_
 refine AO.val rfl rfl (pick_or rfl rfl rfl rfl) ?_
 refine AO.nil ?_
 refine AW.le (Le.ct 0 0 (σ' := (⟨[(1, .s (List.map encInt_u8 more)), (5, .R 1), (8, .v (.bool x5.2.2)), (9, x7.1), (10, x7.2.1), (15, x11.1), (16, x11.2.1), (21, x15.1), (22, x15.2.1), (137, .v (.bool ((((((((((!(x5.2.2 == x7.2.2)) || (x5.1 != x7.1)) || (x5.2.1 != x7.2.1)) || (!(x9.2.2 == x11.2.2))) || (x9.1 != x11.1)) || (x9.2.1 != x11.2.1)) || (!(x13.2.2 == x15.2.2))) || (x13.1 != x15.1)) || (x13.2.1 != x15.2.1)) || (!(x17 == x5.2.2)))))], [(1, .row 1 (List.map encInt x3))], 313, []⟩ : St))) ?_
 refine AW.cond (b := ((((((((((!(x5.2.2 == x7.2.2)) || (x5.1 != x7.1)) || (x5.2.1 != x7.2.1)) || (!(x9.2.2 == x11.2.2))) || (x9.1 != x11.1)) || (x9.2.1 != x11.2.1)) || (!(x13.2.2 == x15.2.2))) || (x13.1 != x15.1)) || (x13.2.1 != x15.2.1)) || (!(x17 == x5.2.2)))) rfl (fun hc => ?_) (fun hc => ?_)
 replace hH := condT hc hH
 refine AW.seq (AW.region ?_)
 refine AO.pu T ?_
 refine AO.nil (AW.ret ?_)
 cases someE hH
 exact retQ.i [] rfl (.c (.c .v))
 replace hH := condF hc hH
 refine AW.skip ?_
 iterate 2 refine AW.seq ?_
 refine AW.region ?_
 refine AO.pu T ?_
 refine AO.nil ?_
 refine AW.cond (b := x5.2.2) rfl (fun hc => ?_) (fun hc => ?_)
 replace hH := condT hc hH
 refine AW.seq (AW.region ?_)
 refine AO.pu T ?_
 refine AO.nil ?_
 iterate 2 refine AW.seq ?_
 refine AW.region ?_
 refine AO.pu T ?_
 refine AO.val rfl rfl (len_row_ok T rfl rfl rfl rfl) ?_
 refine AO.pu T ?_
 refine AO.nil ?_
 refine AW.block ?_
 refine AW.loopS (fun s : Nat × Int => (⟨[(1, .s (List.map encInt_u8 more)), (5, .R 1), (9, x7.1), (10, x7.2.1), (15, x11.1), (16, x11.2.1), (21, x15.1), (22, x15.2.1), (24, s.2), (140, (x3.length : Int)), (141, (s.1 : Int))], [(1, .row 1 (List.map encInt x3))], 313, []⟩ : St)) (fun s => s.1 ≤ x3.length ∧ laws_FnTrims_l1 more fuel x3 x7 x11 x15 (x3.drop s.1) s.1 s.2 = some r) (fun s => x3.length - s.1) (0, (-2000)) ⟨Nat.zero_le _, hH⟩ ?_ ?_
 exact Le.ct 0 0
 rintro ⟨k19, v34⟩ ⟨hk, hH⟩
 replace hH : laws_FnTrims_l1 more fuel x3 x7 x11 x15 (x3.drop k19) k19 v34 = some r := hH
 try dsimp only
 refine AW.boundR (id := 1) (l := x3) rfl (fun hb23 => ?_)
 rcases hd22 : x3.drop k19 with _ | ⟨y20, ys21⟩
 rw [hd22, laws_FnTrims_l1] at hH
 have hlt24 := drop_ge hd22
 refine AW.seq (AW.region ?_)
 refine AO.pu T ?_
 refine AO.nil (AW.seq ?_)
 refine AW.condF' (b := decide ((k19 : Int) < (x3.length : Int))) rfl (rngF hlt24) ?_
 refine AW.exit ?_
 refine AW.seq ?_
 obtain ⟨x36, hx37, hH⟩ := bindE hH
 refine AW.region ?_
 refine AO.pu T ?_
 refine AO.val rfl rfl (callLV_ok rfl rfl rfl (es := [.s (List.map encInt x3), (0 : Int)]) ⟨(.rowR rfl (.map fun y => .vs rfl)), .free rfl, trivial⟩ (impl_OrderOf_ok _ _ _ (hx37)) (zfree_t (zfl (.cons (zfree_v _) (.cons (zfree_v _) .nil)))) rfl) ?_
 iterate 5 refine AO.pu T ?_
 refine AO.nil (AW.seq ?_)
 refine AW.region ?_
 iterate 3 refine AO.pu T ?_
 iterate 3 refine AO.pureG T [] rfl trivial rfl rfl ?_
 refine AO.guard [174, 175] rfl ⟨fun h => h, fun h => h, trivial⟩ (fun hg => arw_ok rfl rfl rfl rfl) rfl ?_
 refine AO.pureG T [173, 176] rfl ⟨fun h => h, fun h => h, trivial⟩ rfl rfl ?_
 refine AO.val rfl rfl (pick_or rfl rfl rfl rfl) ?_
 refine AO.pu T ?_
 iterate 3 refine AO.pureG T [] rfl trivial rfl rfl ?_
 refine AO.guard [181, 182] rfl ⟨fun h => h, fun h => h, trivial⟩ (fun hg => arw_ok rfl rfl rfl rfl) rfl ?_
 refine AO.pureG T [180, 183] rfl ⟨fun h => h, fun h => h, trivial⟩ rfl rfl ?_
 refine AO.val rfl rfl (pick_or rfl rfl rfl rfl) ?_
 refine AO.pu T ?_
 iterate 3 refine AO.pureG T [] rfl trivial rfl rfl ?_
 refine AO.guard [188, 189] rfl ⟨fun h => h, fun h => h, trivial⟩ (fun hg => arw_ok rfl rfl rfl rfl) rfl ?_
 refine AO.pureG T [187, 190] rfl ⟨fun h => h, fun h => h, trivial⟩ rfl rfl ?_
 refine AO.val rfl rfl (pick_or rfl rfl rfl rfl) ?_
 refine AO.pu T ?_
 iterate 3 refine AO.pureG T [] rfl trivial rfl rfl ?_
 refine AO.guard [195, 196] rfl ⟨fun h => h, fun h => h, trivial⟩ (fun hg => arw_ok rfl rfl rfl rfl) rfl ?_
 refine AO.pureG T [194, 197] rfl ⟨fun h => h, fun h => h, trivial⟩ rfl rfl ?_
 refine AO.val rfl rfl (pick_or rfl rfl rfl rfl) ?_
 refine AO.pu T ?_
 iterate 2 refine AO.pureG T [] rfl trivial rfl rfl ?_
 refine AO.guard [201, 202] rfl ⟨fun h => h, fun h => h, trivial⟩ (fun hg => arw_ok rfl rfl rfl rfl) rfl ?_
 iterate 2 refine AO.pureG T [] rfl trivial rfl rfl ?_
 refine AO.guard [204, 205] rfl ⟨fun h => h, fun h => h, trivial⟩ (fun hg => arw_ok rfl rfl rfl rfl) rfl ?_
 refine AO.pureG T [203, 206] rfl ⟨fun h => h, fun h => h, trivial⟩ rfl rfl ?_
 refine AO.val rfl rfl (pick_or rfl rfl rfl rfl) ?_
 refine AO.nil ?_
 refine AW.le (Le.ct 0 0 (σ' := (⟨[(1, .s (List.map encInt_u8 more)), (208, .v (.bool ((((((!x36.2) || decide (x7.1 < (w64 (x36.1 * x7.2.1)))) || decide (x7.1 > (w64 (v34 * x7.2.1)))) || decide (x15.1 < (w64 (x36.1 * x15.2.1)))) || decide (x15.1 > (w64 (v34 * x15.2.1)))) || ((w64 (x7.1 * x11.2.1)) != (w64 (x11.1 * x7.2.1))))))], [], 313, []⟩ : St))) ?_
 refine AW.cond (b := ((((((!x36.2) || decide (x7.1 < (w64 (x36.1 * x7.2.1)))) || decide (x7.1 > (w64 (v34 * x7.2.1)))) || decide (x15.1 < (w64 (x36.1 * x15.2.1)))) || decide (x15.1 > (w64 (v34 * x15.2.1)))) || ((w64 (x7.1 * x11.2.1)) != (w64 (x11.1 * x7.2.1))))) rfl (fun hc => ?_) (fun hc => ?_)
 replace hH := condT hc hH
 refine AW.seq (AW.region ?_)
 refine AO.pu T ?_
 refine AO.nil (AW.ret ?_)
 cases someE hH
 exact retQ.i [] rfl (.c (.c .v))
 replace hH := condF hc hH
 refine AW.skip ?_
 refine AW.seq ?_
 obtain ⟨x38, hx39, hH⟩ := bindE hH
 refine AW.region ?_
 refine AO.pu T ?_
 refine AO.step rfl (call_ok rfl 2 rfl rfl rfl (spec_DrawTrimmedPoints_ok fuel _ _ (hx39)) rfl rfl rfl) ?_
 iterate 9 refine AO.pu T ?_
 refine AO.nil (AW.seq ?_)
 obtain ⟨x40, hx41, hH⟩ := bindE hH
 refine AW.region ?_
 iterate 4 refine AO.pu T ?_
 refine AO.val rfl rfl (callLV_ok rfl rfl rfl (es := [.s (List.map encInt x38.1), x38.2.1, x38.2.2.1, x38.2.2.2]) ⟨(.rowR rfl (.map fun y => .vs rfl)), .free rfl, .free rfl, .free rfl, trivial⟩ (impl_TrimmedPoints_ok fuel _ _ _ _ _ (hx41)) (zfree_t (zfl (.cons (zfree_v _) (.cons (zfree_v _) .nil)))) rfl) ?_
 iterate 5 refine AO.pu T ?_
 refine AO.nil (AW.seq ?_)
 obtain ⟨x42, hx43, hH⟩ := bindE hH
 refine AW.region ?_
 iterate 4 refine AO.pu T ?_
 refine AO.val rfl rfl (callLV_ok rfl rfl rfl (es := [.s (List.map encInt x38.1), x38.2.1, x38.2.2.1, x38.2.2.2]) ⟨(.rowR rfl (.map fun y => .vs rfl)), .free rfl, .free rfl, .free rfl, trivial⟩ (spec_TrimmedPoints_ok fuel _ _ _ _ _ (hx43)) (zfree_t (zfl (.cons (zfree_v _) (.cons (zfree_v _) .nil)))) rfl) ?_
 iterate 5 refine AO.pu T ?_
 refine AO.nil ?_
 refine AW.le (Le.ct 0 0 (σ' := (⟨[(1, .s (List.map encInt_u8 more)), (34, x40.1), (35, .v (.bool x40.2)), (36, x42.1), (37, .v (.bool x42.2))], [], 313, []⟩ : St))) ?_
 refine AW.seq ?_
 obtain ⟨x44, hx45, hH⟩ := bindE hH
 refine AW.region ?_
 refine AO.pu T ?_
 refine AO.val rfl rfl (callV_ok rfl rfl rfl rfl (spec_DrawOrderOf_ok fuel _ _ (hx45)) rfl) ?_
 iterate 5 refine AO.pu T ?_
 refine AO.nil (AW.seq ?_)
 obtain ⟨x46, hx47, hH⟩ := bindE hH
 refine AW.region ?_
 iterate 2 refine AO.pu T ?_
 refine AO.val rfl rfl (callV_ok rfl rfl rfl rfl (impl_OrderOf_ok _ _ _ (hx47)) rfl) ?_
 iterate 5 refine AO.pu T ?_
 refine AO.nil (AW.seq ?_)
 obtain ⟨x48, hx49, hH⟩ := bindE hH
 refine AW.region ?_
 iterate 2 refine AO.pu T ?_
 refine AO.val rfl rfl (callV_ok rfl rfl rfl rfl (spec_OrderOf_ok fuel _ _ _ (hx49)) rfl) ?_
 iterate 5 refine AO.pu T ?_
 refine AO.nil (AW.seq ?_)
 obtain ⟨x50, hx51, hH⟩ := bindE hH
 refine AW.region ?_
 iterate 2 refine AO.pu T ?_
 refine AO.step rfl (call_ok rfl 3 rfl rfl rfl (impl_WithoutMark_ok _ _ _ (hx51)) rfl rfl rfl) ?_
 iterate 5 refine AO.pu T ?_
 refine AO.nil ?_
 refine AW.le (Le.ct 0 0 (σ' := (⟨[(34, x40.1), (35, .v (.bool x40.2)), (36, x42.1), (37, .v (.bool x42.2)), (38, .s (List.map encInt x44.1)), (39, x44.2), (40, x46.1), (41, .v (.bool x46.2)), (42, x48.1), (43, .v (.bool x48.2)), (44, .R 3), (45, .v (.bool x50.2))], [(3, .row 1 (List.map encInt x50.1))], 313, []⟩ : St))) ?_
 refine AW.seq ?_
 obtain ⟨x52, hx53, hH⟩ := bindE hH
 refine AW.region ?_
 iterate 2 refine AO.pu T ?_
 refine AO.step rfl (call_ok rfl 4 rfl rfl rfl (spec_WithoutMark_ok _ _ _ (hx53)) rfl rfl rfl) ?_
 iterate 5 refine AO.pu T ?_
 refine AO.nil (AW.seq ?_)
 obtain ⟨x54, hx55, hH⟩ := bindE hH
 obtain ⟨x56, hx57, hH⟩ := bindE hH
 obtain ⟨x58, hx59, hH⟩ := bindE hH
 obtain ⟨x60, hx61, hH⟩ := bindE hH
 refine AW.drawn 48 5 [] mix (by kernel_rfl) rfl ?_
 iterate 4 refine AD.pure T rfl rfl rfl ?_
 iterate 2 refine AD.pureG T [] rfl trivial rfl rfl ?_
 refine AD.pureG T [265, 266] rfl ⟨fun h => h, fun h => h, trivial⟩ rfl rfl ?_
 refine AD.val rfl rfl (pick_and rfl rfl rfl rfl) ?_
 refine AD.pure T rfl rfl rfl ?_
 iterate 2 refine AD.pureG T [] rfl trivial rfl rfl ?_
 refine AD.pureG T [270, 271] rfl ⟨fun h => h, fun h => h, trivial⟩ rfl rfl ?_
 refine AD.val rfl rfl (pick_and rfl rfl rfl rfl) ?_
 refine AD.pure T rfl rfl rfl ?_
 iterate 2 refine AD.pureG T [] rfl trivial rfl rfl ?_
 refine AD.pureG T [275, 276] rfl ⟨fun h => h, fun h => h, trivial⟩ rfl rfl ?_
 refine AD.val rfl rfl (pick_and rfl rfl rfl rfl) ?_
 refine AD.pure T rfl rfl rfl ?_
 iterate 2 refine AD.pureG T [] rfl trivial rfl rfl ?_
 refine AD.pureG T [280, 281] rfl ⟨fun h => h, fun h => h, trivial⟩ rfl rfl ?_
 refine AD.val rfl rfl (pick_and rfl rfl rfl rfl) ?_
 refine AD.pure T rfl rfl rfl ?_
 iterate 2 refine AD.pureG T [] rfl trivial rfl rfl ?_
 refine AD.guard [285, 286] rfl ⟨fun h => h, fun h => h, trivial⟩ (fun hg => callLV_ok rfl rfl rfl (es := [.s (List.map encInt x50.1), .s (List.map encInt x52.1)]) ⟨(.rowR rfl (.map fun y => .vs rfl)), (.rowR rfl (.map fun y => .vs rfl)), trivial⟩ (laws_sameInts_ok _ _ _ (optT hx55 hg)) (zfree_v _) rfl) rfl ?_
 refine AD.val rfl rfl (pick_and rfl rfl rfl rfl) ?_
 refine AD.pure T rfl rfl rfl ?_
 refine AD.pureG T [] rfl trivial rfl rfl ?_
 refine AD.pureG T [290] rfl ⟨fun h => h, trivial⟩ rfl rfl ?_
 refine AD.pureG T [291] rfl ⟨fun h => h, trivial⟩ rfl rfl ?_
 refine AD.pureG T [] rfl trivial rfl rfl ?_
 refine AD.guard [293] rfl ⟨fun h => h, trivial⟩ (fun hg => len_row_ok T rfl rfl rfl rfl) rfl ?_
 refine AD.pureG T [] rfl trivial rfl rfl ?_
 refine AD.guard [295] rfl ⟨fun h => h, trivial⟩ (fun hg => len_map_ok T rfl rfl rfl) rfl ?_
 refine AD.guard [296] rfl ⟨fun h => h, trivial⟩ (fun hg => arw_ok rfl rfl rfl rfl) rfl ?_
 refine AD.pureG T [294, 297] rfl ⟨fun h => h, fun h => h, trivial⟩ rfl rfl ?_
 refine AD.pureG T [298] rfl ⟨fun h => h, trivial⟩ rfl rfl ?_
 refine AD.pureG T [] rfl trivial rfl rfl ?_
 refine AD.guard [300] rfl ⟨fun h => h, trivial⟩ (fun hg => callLV_ok rfl rfl rfl (es := [.s (List.map encInt x52.1)]) ⟨(.rowR rfl (.map fun y => .vs rfl)), trivial⟩ (laws_pSum_ok _ _ (optT hx57 hg)) (zfree_v _) rfl) rfl ?_
 iterate 2 refine AD.pureG T [] rfl trivial rfl rfl ?_
 refine AD.guard [302, 303] rfl ⟨fun h => h, fun h => h, trivial⟩ (fun hg => ix_map_ok T rfl rfl rfl rfl rfl (optT hx59 hg) rfl) rfl ?_
 refine AD.pureG T [304] rfl ⟨fun h => h, trivial⟩ rfl rfl ?_
 refine AD.guard [301, 305] rfl ⟨fun h => h, fun h => h, trivial⟩ (fun hg => arw_ok rfl rfl rfl rfl) rfl ?_
 refine AD.pureG T [] rfl trivial rfl rfl ?_
 refine AD.guard [307] rfl ⟨fun h => h, trivial⟩ (fun hg => callV_ok rfl rfl rfl rfl (laws_pSum_ok _ _ (optT hx61 hg)) rfl) rfl ?_
 refine AD.nil ?_
 refine AO.pureG T [306, 308] rfl ⟨fun h => h, fun h => h, trivial⟩ rfl rfl ?_
 refine AO.guard [299] rfl ⟨fun h => h, trivial⟩ (fun hg => pick_and rfl rfl rfl (by rw [hg]; exact Bool.true_and _)) rfl ?_
 refine AO.guard [292] rfl ⟨fun h => h, trivial⟩ (fun hg => pick_or rfl rfl rfl (by rw [hg]; exact Bool.true_and _)) rfl ?_
 refine AO.val rfl rfl (pick_and rfl rfl rfl rfl) ?_
 refine AO.pu T ?_
 refine AO.nil ?_
 refine AW.le (Le.ct 0 0 (σ' := (⟨[(4, .v (.bool (((((((x40.2 == x42.2) && (x40.1 == x42.1)) && (x46.2 == x48.2)) && (x46.1 == x48.1)) && (x50.2 == x52.2)) && x54) && ((!x50.2) || (((x52.1.length : Int) == (w64 ((x44.1.length : Int) - 1))) && ((w64 (x56 + x58)) == x60))))))], [], 313, []⟩ : St))) ?_
 refine AW.ret ?_
 cases someE hH
 exact retQ.i [] rfl (.c (.c .v))
 rw [hd22, laws_FnTrims_l1] at hH
 have hlt24 := drop_lt hd22
 refine AW.seq (AW.region ?_)
 refine AO.pu T ?_
 refine AO.nil (AW.seq ?_)
 refine AW.condT' (b := decide ((k19 : Int) < (x3.length : Int))) rfl (rngT hlt24) ?_
 refine AW.skip ?_
 refine AW.seq ?_
 refine AW.block ?_
 refine AW.seq (AW.region ?_)
 iterate 2 refine AO.pu T ?_
 refine AO.nil (AW.seq ?_)
 obtain ⟨x62, hx63, hH⟩ := bindE hH
 refine AW.region ?_
 iterate 2 refine AO.pu T ?_
 refine AO.val rfl rfl (callLV_ok rfl rfl rfl (es := [.s (List.map encInt x3), (k19 : Int)]) ⟨(.rowR rfl (.map fun y => .vs rfl)), .free rfl, trivial⟩ (impl_OrderOf_ok _ _ _ (hx63)) (zfree_t (zfl (.cons (zfree_v _) (.cons (zfree_v _) .nil)))) rfl) ?_
 iterate 5 refine AO.pu T ?_
 refine AO.nil ?_
 iterate 2 refine AW.seq ?_
 obtain ⟨x64, hx65, hH⟩ := bindE hH
 refine AW.region ?_
 iterate 3 refine AO.pu T ?_
 iterate 2 refine AO.pureG T [] rfl trivial rfl rfl ?_
 refine AO.pureG T [153, 154] rfl ⟨fun h => h, fun h => h, trivial⟩ rfl rfl ?_
 refine AO.val rfl rfl (pick_or rfl rfl rfl rfl) ?_
 refine AO.pu T ?_
 iterate 2 refine AO.pureG T [] rfl trivial rfl rfl ?_
 refine AO.guard [158, 159] rfl ⟨fun h => h, fun h => h, trivial⟩ (fun hg => callLV_ok rfl rfl rfl (es := [.s (List.map encInt x3), x62.1]) ⟨(.rowR rfl (.map fun y => .vs rfl)), .free rfl, trivial⟩ (laws_pIn_ok _ _ _ (optT hx65 hg)) (zfree_v _) rfl) rfl ?_
 refine AO.pureG T [160] rfl ⟨fun h => h, trivial⟩ rfl rfl ?_
 refine AO.val rfl rfl (pick_or rfl rfl rfl rfl) ?_
 refine AO.nil ?_
 refine AW.le (Le.ct 0 0 (σ' := (⟨[(1, .s (List.map encInt_u8 more)), (5, .R 1), (9, x7.1), (10, x7.2.1), (15, x11.1), (16, x11.2.1), (21, x15.1), (22, x15.2.1), (26, x62.1), (140, (x3.length : Int)), (141, (k19 : Int)), (162, .v (.bool (((!x62.2) || decide (x62.1 < v34)) || (!x64))))], [(1, .row 1 (List.map encInt x3))], 313, []⟩ : St))) ?_
 refine AW.cond (b := (((!x62.2) || decide (x62.1 < v34)) || (!x64))) rfl (fun hc => ?_) (fun hc => ?_)
 replace hH := condT hc hH
 refine AW.seq (AW.region ?_)
 refine AO.pu T ?_
 refine AO.nil (AW.ret ?_)
 cases someE hH
 exact retQ.i [] rfl (.c (.c .v))
 replace hH := condF hc hH
 refine AW.skip ?_
 refine AW.region ?_
 iterate 2 refine AO.pu T ?_
 refine AO.nil ?_
 refine AW.region ?_
 refine AO.val rfl rfl (ar_ok rfl rfl rfl rfl (inI_succ hlt24 hb23)) ?_
 refine AO.pu T ?_
 refine AO.nil ?_
 refine ⟨(k19 + 1, x62.1), ⟨Nat.succ_le_of_lt hlt24, (by rw [drop_succ_of hd22]; exact hH)⟩, (by have := hlt24; dsimp only; omega), ?_⟩
 exact Le.ct 0 0
 replace hH := condF hc hH
 refine AW.skip ?_
 refine AW.seq ?_
 obtain ⟨x66, hx67, hH⟩ := bindE hH
 refine AW.region ?_
 refine AO.pu T ?_
 refine AO.step rfl (call_ok rfl 5 rfl rfl rfl (spec_DrawTrimmedPoints_ok fuel _ _ (hx67)) rfl rfl rfl) ?_
 iterate 9 refine AO.pu T ?_
 refine AO.nil (AW.seq ?_)
 obtain ⟨x68, hx69, hH⟩ := bindE hH
 refine AW.region ?_
 iterate 4 refine AO.pu T ?_
 refine AO.val rfl rfl (callLV_ok rfl rfl rfl (es := [.s (List.map encInt x66.1), x66.2.1, x66.2.2.1, x66.2.2.2]) ⟨(.rowR rfl (.map fun y => .vs rfl)), .free rfl, .free rfl, .free rfl, trivial⟩ (impl_TrimmedPoints_ok fuel _ _ _ _ _ (hx69)) (zfree_t (zfl (.cons (zfree_v _) (.cons (zfree_v _) .nil)))) rfl) ?_
 iterate 5 refine AO.pu T ?_
 refine AO.nil (AW.seq ?_)
 obtain ⟨x70, hx71, hH⟩ := bindE hH
 refine AW.region ?_
 iterate 4 refine AO.pu T ?_
 refine AO.val rfl rfl (callLV_ok rfl rfl rfl (es := [.s (List.map encInt x66.1), x66.2.1, x66.2.2.1, x66.2.2.2]) ⟨(.rowR rfl (.map fun y => .vs rfl)), .free rfl, .free rfl, .free rfl, trivial⟩ (spec_TrimmedPoints_ok fuel _ _ _ _ _ (hx71)) (zfree_t (zfl (.cons (zfree_v _) (.cons (zfree_v _) .nil)))) rfl) ?_
 iterate 5 refine AO.pu T ?_
 refine AO.nil ?_
 refine AW.le (Le.ct 0 0 (σ' := (⟨[(1, .s (List.map encInt_u8 more)), (34, x68.1), (35, .v (.bool x68.2)), (36, x70.1), (37, .v (.bool x70.2))], [], 313, []⟩ : St))) ?_
 refine AW.seq ?_
 obtain ⟨x72, hx73, hH⟩ := bindE hH
 refine AW.region ?_
 refine AO.pu T ?_
 refine AO.val rfl rfl (callV_ok rfl rfl rfl rfl (spec_DrawOrderOf_ok fuel _ _ (hx73)) rfl) ?_
 iterate 5 refine AO.pu T ?_
 refine AO.nil (AW.seq ?_)
 obtain ⟨x74, hx75, hH⟩ := bindE hH
 refine AW.region ?_
 iterate 2 refine AO.pu T ?_
 refine AO.val rfl rfl (callV_ok rfl rfl rfl rfl (impl_OrderOf_ok _ _ _ (hx75)) rfl) ?_
 iterate 5 refine AO.pu T ?_
 refine AO.nil (AW.seq ?_)
 obtain ⟨x76, hx77, hH⟩ := bindE hH
 refine AW.region ?_
 iterate 2 refine AO.pu T ?_
 refine AO.val rfl rfl (callV_ok rfl rfl rfl rfl (spec_OrderOf_ok fuel _ _ _ (hx77)) rfl) ?_
 iterate 5 refine AO.pu T ?_
 refine AO.nil (AW.seq ?_)
 obtain ⟨x78, hx79, hH⟩ := bindE hH
 refine AW.region ?_
 iterate 2 refine AO.pu T ?_
 refine AO.step rfl (call_ok rfl 6 rfl rfl rfl (impl_WithoutMark_ok _ _ _ (hx79)) rfl rfl rfl) ?_
 iterate 5 refine AO.pu T ?_
 refine AO.nil ?_
 refine AW.le (Le.ct 0 0 (σ' := (⟨[(34, x68.1), (35, .v (.bool x68.2)), (36, x70.1), (37, .v (.bool x70.2)), (38, .s (List.map encInt x72.1)), (39, x72.2), (40, x74.1), (41, .v (.bool x74.2)), (42, x76.1), (43, .v (.bool x76.2)), (44, .R 6), (45, .v (.bool x78.2))], [(6, .row 1 (List.map encInt x78.1))], 313, []⟩ : St))) ?_
 refine AW.seq ?_
 obtain ⟨x80, hx81, hH⟩ := bindE hH
 refine AW.region ?_
 iterate 2 refine AO.pu T ?_
 refine AO.step rfl (call_ok rfl 7 rfl rfl rfl (spec_WithoutMark_ok _ _ _ (hx81)) rfl rfl rfl) ?_
 iterate 5 refine AO.pu T ?_
 refine AO.nil (AW.seq ?_)
 obtain ⟨x82, hx83, hH⟩ := bindE hH
 obtain ⟨x84, hx85, hH⟩ := bindE hH
 obtain ⟨x86, hx87, hH⟩ := bindE hH
 obtain ⟨x88, hx89, hH⟩ := bindE hH
 refine AW.drawn 48 8 [] mix (by kernel_rfl) rfl ?_
 iterate 4 refine AD.pure T rfl rfl rfl ?_
 iterate 2 refine AD.pureG T [] rfl trivial rfl rfl ?_
 refine AD.pureG T [265, 266] rfl ⟨fun h => h, fun h => h, trivial⟩ rfl rfl ?_
 refine AD.val rfl rfl (pick_and rfl rfl rfl rfl) ?_
 refine AD.pure T rfl rfl rfl ?_
 iterate 2 refine AD.pureG T [] rfl trivial rfl rfl ?_
 refine AD.pureG T [270, 271] rfl ⟨fun h => h, fun h => h, trivial⟩ rfl rfl ?_
 refine AD.val rfl rfl (pick_and rfl rfl rfl rfl) ?_
 refine AD.pure T rfl rfl rfl ?_
 iterate 2 refine AD.pureG T [] rfl trivial rfl rfl ?_
 refine AD.pureG T [275, 276] rfl ⟨fun h => h, fun h => h, trivial⟩ rfl rfl ?_
 refine AD.val rfl rfl (pick_and rfl rfl rfl rfl) ?_
 refine AD.pure T rfl rfl rfl ?_
 iterate 2 refine AD.pureG T [] rfl trivial rfl rfl ?_
 refine AD.pureG T [280, 281] rfl ⟨fun h => h, fun h => h, trivial⟩ rfl rfl ?_
 refine AD.val rfl rfl (pick_and rfl rfl rfl rfl) ?_
 refine AD.pure T rfl rfl rfl ?_
 iterate 2 refine AD.pureG T [] rfl trivial rfl rfl ?_
 refine AD.guard [285, 286] rfl ⟨fun h => h, fun h => h, trivial⟩ (fun hg => callLV_ok rfl rfl rfl (es := [.s (List.map encInt x78.1), .s (List.map encInt x80.1)]) ⟨(.rowR rfl (.map fun y => .vs rfl)), (.rowR rfl (.map fun y => .vs rfl)), trivial⟩ (laws_sameInts_ok _ _ _ (optT hx83 hg)) (zfree_v _) rfl) rfl ?_
 refine AD.val rfl rfl (pick_and rfl rfl rfl rfl) ?_
 refine AD.pure T rfl rfl rfl ?_
 refine AD.pureG T [] rfl trivial rfl rfl ?_
 refine AD.pureG T [290] rfl ⟨fun h => h, trivial⟩ rfl rfl ?_
 refine AD.pureG T [291] rfl ⟨fun h => h, trivial⟩ rfl rfl ?_
 refine AD.pureG T [] rfl trivial rfl rfl ?_
 refine AD.guard [293] rfl ⟨fun h => h, trivial⟩ (fun hg => len_row_ok T rfl rfl rfl rfl) rfl ?_
 refine AD.pureG T [] rfl trivial rfl rfl ?_
 refine AD.guard [295] rfl ⟨fun h => h, trivial⟩ (fun hg => len_map_ok T rfl rfl rfl) rfl ?_
 refine AD.guard [296] rfl ⟨fun h => h, trivial⟩ (fun hg => arw_ok rfl rfl rfl rfl) rfl ?_
 refine AD.pureG T [294, 297] rfl ⟨fun h => h, fun h => h, trivial⟩ rfl rfl ?_
 refine AD.pureG T [298] rfl ⟨fun h => h, trivial⟩ rfl rfl ?_
 refine AD.pureG T [] rfl trivial rfl rfl ?_
 refine AD.guard [300] rfl ⟨fun h => h, trivial⟩ (fun hg => callLV_ok rfl rfl rfl (es := [.s (List.map encInt x80.1)]) ⟨(.rowR rfl (.map fun y => .vs rfl)), trivial⟩ (laws_pSum_ok _ _ (optT hx85 hg)) (zfree_v _) rfl) rfl ?_
 iterate 2 refine AD.pureG T [] rfl trivial rfl rfl ?_
 refine AD.guard [302, 303] rfl ⟨fun h => h, fun h => h, trivial⟩ (fun hg => ix_map_ok T rfl rfl rfl rfl rfl (optT hx87 hg) rfl) rfl ?_
 refine AD.pureG T [304] rfl ⟨fun h => h, trivial⟩ rfl rfl ?_
 refine AD.guard [301, 305] rfl ⟨fun h => h, fun h => h, trivial⟩ (fun hg => arw_ok rfl rfl rfl rfl) rfl ?_
 refine AD.pureG T [] rfl trivial rfl rfl ?_
 refine AD.guard [307] rfl ⟨fun h => h, trivial⟩ (fun hg => callV_ok rfl rfl rfl rfl (laws_pSum_ok _ _ (optT hx89 hg)) rfl) rfl ?_
 refine AD.nil ?_
 refine AO.pureG T [306, 308] rfl ⟨fun h => h, fun h => h, trivial⟩ rfl rfl ?_
 refine AO.guard [299] rfl ⟨fun h => h, trivial⟩ (fun hg => pick_and rfl rfl rfl (by rw [hg]; exact Bool.true_and _)) rfl ?_
 refine AO.guard [292] rfl ⟨fun h => h, trivial⟩ (fun hg => pick_or rfl rfl rfl (by rw [hg]; exact Bool.true_and _)) rfl ?_
 refine AO.val rfl rfl (pick_and rfl rfl rfl rfl) ?_
 refine AO.pu T ?_
 refine AO.nil ?_
 refine AW.le (Le.ct 0 0 (σ' := (⟨[(4, .v (.bool (((((((x68.2 == x70.2) && (x68.1 == x70.1)) && (x74.2 == x76.2)) && (x74.1 == x76.1)) && (x78.2 == x80.2)) && x82) && ((!x78.2) || (((x80.1.length : Int) == (w64 ((x72.1.length : Int) - 1))) && ((w64 (x84 + x86)) == x88))))))], [], 313, []⟩ : St))) ?_
 refine AW.ret ?_
 cases someE hH
 exact retQ.i [] rfl (.c (.c .v))

end Go.Proofs.Ytkabhjekcchjlaa
